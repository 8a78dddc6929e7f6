/- The engine, part GG: functions that write all that an own value holds. -/
import Derived.Test.YtlfbihajihpchaaGreatEvFF
set_option linter.all false
namespace Go.Ev
open Go.RowKit (Below)
/-- Called with an own value that reads as p (and the value k) the function returns k', and the value then reads as p'; nothing else turns. -/
def MarkC (P : Program) (f : FuncId) (p p' : PV) (k k' : Value) : Prop :=
  ∀ (w : World) (c : Value) (B : List Nat), RelV w.heap dead p c B → B.Nodup → (∀ b ∈ B, Free w b) →
    Calls P f #[c, k] w fun e w' => e = .returned k' ∧ Same w w' ∧ (∀ b, b < w.heap.size → b ∉ B → w'.heap[b]? = w.heap[b]?) ∧
      ∃ B', RelV w'.heap dead p' c B' ∧ B'.Nodup ∧ ∀ b ∈ B', Free w' b ∧ (w.heap.size ≤ b ∨ b ∈ B)

theorem free_lt {w : World} {b : Nat} (h : Free w b) : b < w.heap.size := by
  obtain ⟨cs, t, g⟩ := h
  rcases Nat.lt_or_ge b w.heap.size with h | h
  · exact h
  · simp [Array.getElem?_eq_none h] at g
theorem MarkC.ofN {P : Program} {f : FuncId} {s n : Nat} {old new : List PV} {k k' : Value} (h : MeetsN P f [.ref 100000 s 0 n, .sc k] old new (.sc k')) : MarkC P f (.rw s n old) (.rw s n new) k k' := by
  intro w c B hr hnd hf
  simp only [RelV] at hr
  rcases hr with ⟨rfl, rfl, rfl, rfl⟩ | ⟨b, cap, cs, t, O', ⟨e1, e2, e3⟩, e4, e5, rfl⟩
  · refine (h w #[.slice none 0 0, k] (fun _ => False) none [] ?_ (.inl ⟨rfl, rfl, rfl⟩) (by simp) (by simp)).mono fun e w' ⟨c, H', he, hsame, hoth, hrel, h0, hpost, hnd', hH'⟩ => ?_
    · refine ⟨⟨[], ?_, by simp⟩, ⟨[], by simp [RelV], by simp⟩, trivial⟩
      simp only [RelV]
      exact ⟨trivial, fun _ => ⟨trivial, trivial, trivial⟩, fun b e => by simp at e⟩
    · simp only [RelV] at hrel
      subst he
      rw [hrel.1]
      obtain ⟨q1, q2⟩ := h0 rfl
      subst q1; subst q2
      refine ⟨rfl, hsame, fun b hb _ => hoth b hb (by simp) (by simp), [], ?_, by simp, by simp⟩
      simp only [RelV]
      exact .inl ⟨trivial, trivial, trivial, trivial⟩
  · have hn2 := List.nodup_cons.1 hnd
    refine (h w #[c, k] (fun _ => False) (some b) O' ?_ (.inr ⟨b, cs, t, rfl, fun h => h, hn2.1, e4, e5⟩) hn2.2 (fun c hc => ⟨fun h => h, hf c (by simp [hc])⟩)).mono fun e w' ⟨c', H', he, hsame, hoth, hrel, h0, hpost, hnd', hH'⟩ => ?_
    · refine ⟨⟨[], ?_, by simp⟩, ⟨[], by simp [RelV], by simp⟩, trivial⟩
      simp only [RelV]
      refine ⟨trivial, fun e => by simp at e, fun b' e => ?_⟩
      simp at e; subst e
      exact ⟨cap, cs, t, by simpa using e1, e4, by simpa using e3, e2⟩
    · simp only [RelV] at hrel
      subst he
      rw [hrel.1]
      obtain ⟨q1, cs', q2, q3, q4⟩ := hpost b cs t rfl e4
      refine ⟨rfl, hsame, fun b' hb' hnb => hoth b' hb' (fun e => by simp at e; subst e; simp at hnb) (fun hm => by simp [hm] at hnb), b :: H', ?_, List.nodup_cons.2 ⟨q1, hnd'⟩, fun b' hb' => ?_⟩
      · simp only [RelV]
        exact .inr ⟨b, cap, cs', t, H', ⟨e1, e2, by rw [q3]; exact e3⟩, q2, q4, rfl⟩
      · rcases List.mem_cons.1 hb' with rfl | hb'
        · exact ⟨⟨_, _, q2⟩, .inr (by simp)⟩
        · exact ⟨(hH' b' hb').1, (hH' b' hb').2.imp id (fun h => by simp [h])⟩
theorem MarkC.ofX {P : Program} {f : FuncId} {s n : Nat} {old new : List PV} {k k' : Value} (h : MeetsX P f [.ref 100000 s 0 n, .sc k] [⟨100000, old, new⟩] (.sc k') true) (ho : allSc old = true) : MarkC P f (.rw s n old) (.rw s n new) k k' := by
  intro w c B hr hnd hf
  simp only [RelV] at hr
  rcases hr with ⟨rfl, rfl, rfl, rfl⟩ | ⟨b, cap, cs, t, O', ⟨e1, e2, e3⟩, e4, e5, rfl⟩
  · refine (h w #[.slice none 0 0, k] (fun _ => False) (fun l => if l = 100000 then some none else none) ?_ ?_ ?_ ?_).mono fun e w' ⟨c, B, he, hsame, hoth, hpost, hrel, _⟩ => ?_
    · refine ⟨⟨[], ?_, by simp⟩, ⟨[], by simp [RelV], by simp⟩, trivial⟩
      simp only [RelV]
      exact ⟨trivial, fun _ => ⟨trivial, trivial, trivial⟩, fun b e => by simp at e⟩
    · intro o ho'; simp at ho'; subst ho'; exact .inl ⟨by simp, rfl⟩
    · intro l o e
      have : l = 100000 := by
        by_cases hl : l = 100000
        · exact hl
        · simp [hl] at e
      exact ⟨⟨100000, _, _⟩, List.mem_singleton.2 rfl, this.symm⟩
    · intro l l' b e; split at e <;> simp at e
    · simp only [RelV] at hrel
      subst he
      rw [hrel.1]
      have q := (hpost ⟨100000, [], new⟩ (by simp)).1 (by simp)
      simp only at q; subst q
      refine ⟨rfl, hsame, fun b hb _ => hoth b hb (fun l e => by split at e <;> simp at e), [], ?_, by simp, by simp⟩
      simp only [RelV]
      exact .inl ⟨trivial, trivial, trivial, trivial⟩
  · have := allSc_nil ho e5
    subst this
    refine (h w #[c, k] (fun _ => False) (fun l => if l = 100000 then some (some b) else none) ?_ ?_ ?_ ?_).mono fun e w' ⟨c', B, he, hsame, hoth, hpost, hrel, _⟩ => ?_
    · refine ⟨⟨[], ?_, by simp⟩, ⟨[], by simp [RelV], by simp⟩, trivial⟩
      simp only [RelV]
      refine ⟨trivial, fun e => by simp at e, fun b' e => ?_⟩
      simp at e; subst e
      exact ⟨cap, cs, t, by simpa using e1, e4, by simpa using e3, e2⟩
    · intro o ho'; simp at ho'; subst ho'; exact .inr ⟨b, cs, t, by simp, fun h => h, e4, e5⟩
    · intro l o e
      have : l = 100000 := by
        by_cases hl : l = 100000
        · exact hl
        · simp [hl] at e
      exact ⟨⟨100000, _, _⟩, List.mem_singleton.2 rfl, this.symm⟩
    · intro l l' b' e e'
      split at e <;> split at e' <;> simp_all
    · simp only [RelV] at hrel
      subst he
      rw [hrel.1]
      obtain ⟨cs', q2, q3, q4⟩ := (hpost ⟨100000, old, new⟩ (by simp)).2 b (by simp) cs t e4
      refine ⟨rfl, hsame, fun b' hb' hnb => hoth b' hb' (fun l e => ?_), [b], ?_, by simp, fun b' hb' => ?_⟩
      · split at e
        · simp at e; subst e; simp at hnb
        · simp at e
      · simp only [RelV]
        exact .inr ⟨b, cap, cs', t, [], ⟨e1, e2, by rw [q3]; exact e3⟩, q2, q4, rfl⟩
      · simp at hb'; subst hb'; exact ⟨⟨_, _, q2⟩, .inr (by simp)⟩

def slp : PV → PV
  | .was v _ => .sc v
  | p => p
def stp : PV → PV
  | .was _ p => p
  | p => p
/-- the cells after a call: what they are is known as before -/
def rew : List PV → List PV → List PV
  | .was v _ :: ws, p :: ps => .was v p :: rew ws ps
  | _ :: ws, p :: ps => p :: rew ws ps
  | _, _ => []
def allWas : List PV → Bool
  | [] => true
  | .was _ _ :: r => allWas r
  | _ => false
/-- The operand's value is what the cells ws hold: it reads as p; then as p', and the cells as nw. -/
inductive MCut : List PV → PV → PV → PV → List PV → Prop
  | one {v : Value} {p p' : PV} : MCut [.was v p] (.sc v) p p' [.was v p']
  | agg {ws ns : List PV} : allWas ws = true → Nat.beq ns.length ws.length = true → MCut ws (.agg (ws.map slp)) (.agg (ws.map stp)) (.agg ns) (rew ws ns)
section
variable {P : Program} {N : Nat} {Γ : Ctx P N} {S : List (Nat × Slot)} {O : List (Nat × Option Ob)} {ow : Nat → Own} {β : Nat → Option (Option Nat)} {F : Env} {a : Act} {w : World}
theorem Soft.was {v : Value} {p : PV} : Soft (.was v p) p := by
  intro h β c B H
  simp only [RelV] at H
  exact H.2
theorem slp_val {h : Array Obj} {β : Nat → Option (Option Nat)} : ∀ {ws : List PV} {cs : Array Value} {i : Nat} {O : List Nat}, allWas ws = true → RelL h true β (ws.map slp) cs i O → ∀ {h' : Array Obj} {β' : Nat → Option (Option Nat)} {cs' : Array Value} {j : Nat} {O' : List Nat}, RelL h' true β' ws cs' j O' → ∀ k, k < ws.length → cs[i + k]? = cs'[j + k]?
  | [], _, _, _, _, _ => fun _ k hk => by simp at hk
  | .was v p :: ws, cs, i, O, ha, H => fun H' k hk => by
    simp only [List.map_cons, slp, RelL, RelV] at H H'
    obtain ⟨c, O1, O2, h1, ⟨h2, _⟩, h3, _⟩ := H
    obtain ⟨c', O1', O2', h1', ⟨h2', _⟩, h3', _⟩ := H'
    cases k with
    | zero => simp only [Nat.add_zero]; rw [h1.1, h1'.1, h2, h2']
    | succ k =>
      have := slp_val (ws := ws) (by simpa [allWas] using ha) h3 h3' k (by simpa using hk)
      rw [show i + (k + 1) = i + 1 + k by omega, this]; congr 1; omega
  | .sc _ :: _, _, _, _, ha, _ => by simp [allWas] at ha
  | .sl _ _ :: _, _, _, _, ha, _ => by simp [allWas] at ha
  | .ref _ _ _ _ :: _, _, _, _, ha, _ => by simp [allWas] at ha
  | .ptr _ _ :: _, _, _, _, ha, _ => by simp [allWas] at ha
  | .iptr _ :: _, _, _, _, ha, _ => by simp [allWas] at ha
  | .rw _ _ _ :: _, _, _, _, ha, _ => by simp [allWas] at ha
  | .agg _ :: _, _, _, _, ha, _ => by simp [allWas] at ha
  | .tup _ :: _, _, _, _, ha, _ => by simp [allWas] at ha
  | .any :: _, _, _, _, ha, _ => by simp [allWas] at ha
theorem relL_stp {h : Array Obj} {q : Bool} {β : Nat → Option (Option Nat)} : ∀ {ws : List PV} {cs : Array Value} {i : Nat} {O : List Nat}, RelL h q β ws cs i O → RelL h q β (ws.map stp) cs i O
  | [], _, _, _, H => by simpa using H
  | p :: ws, cs, i, O, H => by
    simp only [List.map_cons, RelL] at H ⊢
    obtain ⟨c, O1, O2, h1, h2, h3, e⟩ := H
    refine ⟨c, O1, O2, h1, ?_, relL_stp h3, e⟩
    cases p with
    | was v p => simp only [RelV] at h2; exact h2.2
    | _ => exact h2
theorem relL_rew {h h' : Array Obj} {β β' : Nat → Option (Option Nat)} : ∀ {ws ns : List PV} {cs : Array Value} {i : Nat} {O O' : List Nat}, ns.length = ws.length → RelL h true β ws cs i O → RelL h' true β' ns cs i O' → RelL h' true β' (rew ws ns) cs i O'
  | [], [], _, _, _, _, _, _, H => by simpa [rew] using H
  | p :: ws, p' :: ns, cs, i, O, O', hl, H, H' => by
    simp only [RelL] at H H'
    obtain ⟨c, O1, O2, h1, h2, h3, e⟩ := H
    obtain ⟨c', O1', O2', h1', h2', h3', e'⟩ := H'
    have ih := relL_rew (by simpa using hl) h3 h3'
    have hc : c = c' := by rw [h1.1] at h1'; injection h1'.1
    subst hc
    have key : ∀ q : PV, RelV h' β' q c O1' → RelL h' true β' (q :: rew ws ns) cs i O' := fun q hq => by
      simp only [RelL]; exact ⟨c, O1', O2', h1', hq, ih, e'⟩
    cases p with
    | was v p => simp only [RelV] at h2; simp only [rew]; exact key _ (by simp only [RelV]; exact ⟨h2.1, h2'⟩)
    | _ => simp only [rew]; exact key _ h2'
  | [], _ :: _, _, _, _, _, hl, _, _ => by simp at hl
  | _ :: _, [], _, _, _, _, hl, _, _ => by simp at hl
variable {d : Nat} {ty : TypeId} {pos : String} {af : Array Edge} {g : Option (Nat × Bool)}
/-- A call that writes a part of an own block's cells, with all that is in them. -/
theorem L_callM {f : FuncId} [hfc : FnC P f] {x y : Operand} {tus : Array TypeId} {l off m : Nat} {cells ws nw : List PV} {q p p' : PV} {k k' : Value} (hx : evq S x = some q) (hy : evq S y = some (.sc k)) (ho : loq O l = some ⟨cells, true, false⟩)
    (hw : (cells.drop off).take m = ws) (hm0 : Nat.beq ws.length m = true) (hne : Nat.blt 0 m = true) (hq : MCut ws q p p' nw) (hm : MarkC P f p p' k k') {cells' : List PV} (hcat : cells.take off ++ nw ++ cells.drop (off + m) = cells') (hle : ∀ b, ¬ Γ.lent b) (hd : Nat.blt d N = true) :
    Local Γ ⟨some d, .call ⟨.value (.func f), #[x, y], tus⟩, ty, pos, af, g⟩ ⟨S, O⟩ ⟨[(d, ⟨.sc k', false⟩)], [(l, some ⟨cells', true, false⟩)]⟩ (ors x ++ ors y) [l] [777777777] := by
  classical
  intro F hs hl hnl a w ⟨ow, β, hsim⟩ Q
  have hdN := (blt_iff _ _).1 hd
  have hm0 := Nat.eq_of_beq_eq_true hm0
  have hne := (blt_iff _ _).1 hne
  have hlF : lo F.o l = some ⟨cells, true, false⟩ := by rw [hl l (by simp), ← loq_lo]; exact ho
  obtain ⟨H, o1, o2, o3⟩ := hsim.objs l _ hlF
  obtain ⟨nd, o2⟩ := o2 rfl
  have hcut : cells = cells.take off ++ (ws ++ cells.drop (off + m)) := by
    rw [← hw, ← List.drop_drop, List.take_append_drop, List.take_append_drop]
  have hwl : off + m ≤ cells.length := by
    have : ws.length ≤ (cells.drop off).length := by rw [← hw]; exact List.length_take_le' _ _
    rw [List.length_drop] at this; omega
  rcases o3 with ⟨_, e2, _⟩ | ⟨b0, cs, t, e1, e2, e3, e4⟩
  · simp only at e2; subst e2; simp at hwl; omega
  simp only [Bool.false_eq_true, if_false] at e4
  rw [hcut] at e4
  obtain ⟨O1, Om', r1, r2, rfl⟩ := (RelL.append _ _ _ _ _).1 e4
  obtain ⟨Om, O2, r3, r4, rfl⟩ := (RelL.append _ _ _ _ _).1 r2
  have hlen1 : (cells.take off).length = off := by rw [List.length_take]; omega
  rw [hlen1, Nat.zero_add] at r3 r4
  -- the argument
  obtain ⟨Bx, gx1, gx2⟩ := ev_rel hsim hx (fun j hj => hs j (by simp [hj]))
  obtain ⟨By, gy1, gy2⟩ := ev_rel hsim hy (fun j hj => hs j (by simp [hj]))
  simp only [RelV] at gy1
  have harg : RelV w.heap dead p (a.eval x) Om := by
    cases hq with
    | one =>
      simp only [RelV] at gx1
      simp only [RelL, RelV] at r3
      obtain ⟨c, P1, P2, q1, ⟨q2, q3⟩, q4, q5⟩ := r3
      subst q4
      rw [gx1.1, ← q2, q5, List.append_nil]; exact q3
    | agg ha _ =>
      simp only [RelV] at gx1 ⊢
      obtain ⟨xs, x1, x2, x3⟩ := gx1
      refine ⟨xs, x1, by simpa using x2, ?_⟩
      refine RelL.shift _ cs xs off 0 Om (fun k hk => ?_) (relL_stp r3)
      exact slp_val ha x3 r3 k (by simpa using hk)
  have nd1 := List.nodup_append.1 nd
  have nd2 := List.nodup_append.1 nd1.2.1
  have hfree : ∀ b ∈ Om, Free w b := fun b hb => (o2 b (by simp [hb])).2
  unfold Oper.wp
  have hrun : (execOp a.eval ⟨some d, .call ⟨.value (.func f), #[x, y], tus⟩, ty, pos, af, g⟩).run P w = .ok (.enter f #[a.eval x, a.eval y]) w := by
    simp [execOp, resolve, Act.eval, Deferred.ofValue, invoke, hfc.run]
  rw [hrun]
  show Calls _ _ _ _ _
  rw [gy1.1]
  refine (hm w (a.eval x) Om harg nd2.1 hfree).mono fun e w' ⟨he, hsame, hoth, B', hrel, hnd', hB'⟩ => ?_
  subst he
  show Sim Γ _ _ _
  have hdis1 : ∀ b ∈ O1, b ∉ Om := fun b hb hb' => nd1.2.2 b hb b (by simp [hb']) rfl
  have hdis2 : ∀ b ∈ O2, b ∉ Om := fun b hb hb' => nd2.2.2 b hb' b hb rfl
  have hb1 : ∀ b, b ∈ O1 ++ O2 → w'.heap[b]? = w.heap[b]? := fun b hb => by
    rcases List.mem_append.1 hb with hb | hb
    · exact hoth b (o1 b (by simp [hb])).1 (hdis1 b hb)
    · exact hoth b (o1 b (by simp [hb])).1 (hdis2 b hb)
  have hB'n : ∀ b ∈ B', b ∉ O1 ++ O2 := fun b hb hb' => by
    have hlt : b < w.heap.size := (o1 b (by rcases List.mem_append.1 hb' with h | h <;> simp [h])).1
    rcases (hB' b hb).2 with h | h
    · omega
    · rcases List.mem_append.1 hb' with h' | h'
      · exact hdis1 b h' h
      · exact hdis2 b h' h
  have hb0 : b0 ∉ O1 ++ (Om ++ O2) := fun hb => by
    have := (o2 b0 hb).1; rw [e2] at this; cases this
  have hb0lt : b0 < w.heap.size := hsim.block_lt e1
  have hmid : RelL w'.heap true dead nw cs off B' ∧ nw.length = m := by
    cases hq with
    | one =>
      simp only [RelL, RelV] at r3 ⊢
      obtain ⟨c, P1, P2, q1, ⟨q2, q3⟩, q4, q5⟩ := r3
      simp only [RelV] at gx1
      rw [gx1.1, ← q2] at hrel
      exact ⟨⟨c, B', [], q1, ⟨q2, hrel⟩, rfl, by simp⟩, by simpa using hm0⟩
    | agg ha hnl =>
      have hnl := Nat.eq_of_beq_eq_true hnl
      simp only [RelV] at hrel
      obtain ⟨ys, y1, y2, y3⟩ := hrel
      simp only [RelV] at gx1
      obtain ⟨xs, x1, x2, x3⟩ := gx1
      rw [x1] at y1; injection y1 with y1; subst y1
      have hz : RelL w'.heap true dead _ cs off B' := RelL.shift _ xs cs 0 off B' (fun k hk => (slp_val ha x3 r3 k (by omega)).symm) y3
      refine ⟨relL_rew hnl r3 hz, ?_⟩
      have : ∀ (a b : List PV), b.length = a.length → (rew a b).length = a.length := by
        intro a
        induction a with
        | nil => intro b hb; cases b <;> simp [rew] at hb ⊢
        | cons p a ih =>
          intro b hb
          cases b with
          | nil => simp at hb
          | cons p' b => cases p <;> simp [rew, ih b (by simpa using hb)]
      rw [this _ _ hnl, hm0]
  have hnew : RelL w'.heap true dead cells' cs 0 (O1 ++ (B' ++ O2)) := by
    rw [← hcat]
    refine (RelL.append _ _ _ _ _).2 ⟨O1 ++ B', O2, (RelL.append _ _ _ _ _).2 ⟨O1, B', ?_, ?_, rfl⟩, ?_, by simp⟩
    · exact RelL.keep _ _ _ _ (fun _ _ l _ => KeepB.dead _ _ l) (fun b hb => hb1 b (by simp [hb])) r1
    · rw [hlen1, Nat.zero_add]; exact hmid.1
    · have : (cells.take off ++ nw).length = off + m := by rw [List.length_append, hlen1, hmid.2]
      rw [this, Nat.zero_add]
      have r4' := r4
      rw [hm0] at r4'
      exact RelL.keep _ _ _ _ (fun _ _ l _ => KeepB.dead _ _ l) (fun b hb => hb1 b (by simp [hb])) r4'
  obtain ⟨ow', h', _⟩ := hsim.rewriteN (H := O1 ++ (Om ++ O2)) (H' := O1 ++ (B' ++ O2)) (new := cells') hsame hle (hnl 777777777 (by simp)) hlF (fun b hb => (o2 b hb).1)
    (fun b hb h1 h2 => hoth b hb (fun hm' => h2 (by simp [hm']))) (fun e => by rw [e1] at e; cases e)
    (fun b c t' e hc => by
      rw [e1] at e; cases e
      rw [e3] at hc; cases hc
      refine ⟨fun hb => ?_, cs, ?_, rfl, hnew⟩
      · simp only [List.mem_append] at hb
        rcases hb with hb | hb | hb
        · exact hb0 (by simp [hb])
        · rcases (hB' _ hb).2 with g | g
          · omega
          · exact hb0 (by simp [g])
        · exact hb0 (by simp [hb])
      · rw [hoth _ hb0lt (fun hm' => hb0 (by simp [hm']))]; exact e3)
    (by
      refine List.nodup_append.2 ⟨nd1.1, List.nodup_append.2 ⟨hnd', nd2.2.1, fun x hx y hy e => hB'n x hx (by subst e; simp [hy])⟩, fun x hx y hy e => ?_⟩
      subst e
      rcases List.mem_append.1 hy with hy | hy
      · exact hB'n x hy (by simp [hx])
      · exact nd1.2.2 x hx x (by simp [hy]) rfl)
    (fun c hc => by
      simp only [List.mem_append] at hc
      rcases hc with hc | hc | hc
      · obtain ⟨cs1, t1, hf1⟩ := (o2 c (by simp [hc])).2
        exact ⟨⟨cs1, t1, by rw [hb1 c (by simp [hc])]; exact hf1⟩, .inr (by simp [hc])⟩
      · exact ⟨(hB' c hc).1, (hB' c hc).2.imp id (fun h => by simp [h])⟩
      · obtain ⟨cs1, t1, hf1⟩ := (o2 c (by simp [hc])).2
        exact ⟨⟨cs1, t1, by rw [hb1 c (by simp [hc])]; exact hf1⟩, .inr (by simp [hc])⟩)
  have h2 := h'.put (d := d) (v := .sc k') (c := k') (O := []) hdN (by simp only [RelV]; exact ⟨trivial, trivial⟩) (by simp)
  exact ⟨_, _, h2.congr (fun k => rfl) (fun l => rfl)⟩
end
end Go.Ev
