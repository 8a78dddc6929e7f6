/- The engine, part W: calls that write a row with rows within. -/
import Derived.Test.YtlfbihajihpchaaGreatEvZ
set_option linter.all false
namespace Go.Ev
open Go.RowKit (Below)
/-- Called with arguments that read as 'args' (label 100000: an own row that is handed in with all that is in it) the function returns what reads as 'r', and the row reads as 'new'. -/
def MeetsN (P : Program) (f : FuncId) (args : List PV) (old new : List PV) (r : PV) : Prop :=
  ∀ (w : World) (cargs : Array Value) (ok : Nat → Prop) (κ0 : Option Nat) (H : List Nat), XArgs w.heap ok (fun l => if l = 100000 then some κ0 else none) args cargs.toList →
    ((κ0 = none ∧ old = [] ∧ H = []) ∨ ∃ b cs t, κ0 = some b ∧ ¬ ok b ∧ b ∉ H ∧ w.heap[b]? = some (.cells cs t (0, 0)) ∧ RelL w.heap true dead old cs 0 H) → H.Nodup → (∀ c ∈ H, ¬ ok c ∧ Free w c) →
    Calls P f cargs w fun e w' => ∃ c H', e = .returned c ∧ Same w w' ∧ (∀ b, b < w.heap.size → κ0 ≠ some b → b ∉ H → w'.heap[b]? = w.heap[b]?) ∧ RelV w'.heap dead r c [] ∧
      (κ0 = none → new = [] ∧ H' = []) ∧ (∀ b cs t, κ0 = some b → w.heap[b]? = some (.cells cs t (0, 0)) → b ∉ H' ∧ ∃ cs', w'.heap[b]? = some (.cells cs' t (0, 0)) ∧ cs'.size = cs.size ∧ RelL w'.heap true dead new cs' 0 H') ∧
      H'.Nodup ∧ ∀ c ∈ H', Free w' c ∧ (w.heap.size ≤ c ∨ c ∈ H)
section
variable {P : Program} {N : Nat}
def RetN (Γ : Ctx P N) (rs : Array ResultVar) (E : Env) (r : PV) (new : List PV) : Prop :=
  RetIs Γ rs E r true ∧ ∀ a w, Sim Γ E a w → ∃ E', Sim Γ E' a w ∧ lo E'.o 100000 = some ⟨new, true, false⟩
def endsN (Γ : Ctx P N) (rs : Array ResultVar) (r : PV) (new : List PV) : Exit → Env → Prop
  | .normal, E => RetN Γ rs E r new
  | .ret, E => RetN Γ rs E r new
  | _, _ => False
def XRetN (Γ : Ctx P N) (rs : Array ResultVar) (r : PV) (new : List PV) (e : Exit) (E : Env) : Prop := e = .ret ∧ RetN Γ rs E r new
section
variable {Γ : Ctx P N} {E : Env}
theorem XRetN.mk {rs : Array ResultVar} {r : PV} {new : List PV} (h : RetN Γ rs E r new) : XRetN Γ rs r new .ret E := ⟨rfl, h⟩
theorem XRetN.out {rs : Array ResultVar} {r : PV} {new : List PV} {e : Exit} (h : XRetN Γ rs r new e E) : e = .ret ∧ RetN Γ rs E r new := h
theorem zn2 {rs : Array ResultVar} {r : PV} {new : List PV} (h : RetN Γ rs E r new) : endsN Γ rs r new .ret E := h
theorem RetN.mk {rs : Array ResultVar} {r : PV} {new : List PV} (h : RetIs Γ rs E r true) (ho : lo E.o 100000 = some ⟨new, true, false⟩) : RetN Γ rs E r new := ⟨h, fun _ _ hs => ⟨E, hs, ho⟩⟩
theorem RetN.weak {E0 : Env} {rs : Array ResultVar} {r : PV} {new : List PV} (he : Ent Γ E E0) (h : RetN Γ rs E0 r new) : RetN Γ rs E r new := ⟨RetIs.weak he h.1, fun a w hs => h.2 a w (he a w hs)⟩
end
theorem MeetsN.intro {f : FuncId} {fn : Func} {c : Code} {args old new : List PV} {r : PV} {rs : Array ResultVar} (hf : P.funcs[f]? = some fn) (hb : fn.body = some c) (hN : fn.ntmps = N) (hrs : fn.results = rs) (hn : Nat.ble args.length N = true)
    (hnil : old = [] → new = []) (hr : noRead r = true)
    (h : ∀ Γ : Ctx P N, (∀ l, Nat.blt l 100000 = true → Γ.io l = none) → (∀ b, ¬ Γ.lent b) → CodeT Γ c ⟨argEnv args 0, [(100000, some ⟨old, true, false⟩)]⟩ (endsN Γ rs r new)) : MeetsN P f args old new r := by
  classical
  intro w cargs ok κ0 H ha hob hnd hH
  obtain ⟨h1, h2⟩ := ha.get
  have hn := Nat.le_of_ble_eq_true hn
  let Γ : Ctx P N := { base := w.heap.size, ok := ok, io := fun l => if l = 100000 then κ0 else none, w0 := w, mine := fun b => b ∈ H, lent := fun _ => False }
  have hsz : (cargs ++ Array.replicate (fn.ntmps - cargs.size) undef).size = N := by
    have : cargs.size = args.length := by rw [h1]; simp
    simp [this, hN]; omega
  have hlt : ∀ b, (κ0 = some b ∨ b ∈ H) → b < w.heap.size := by
    rintro b (e | e)
    · rcases hob with ⟨e', _⟩ | ⟨b', cs, t, e', _, _, g, _⟩
      · rw [e] at e'; cases e'
      · rw [e] at e'; cases e'
        rcases Nat.lt_or_ge b w.heap.size with h | h
        · exact h
        · simp [Array.getElem?_eq_none h] at g
    · obtain ⟨_, cs, t, g⟩ := hH b e
      rcases Nat.lt_or_ge b w.heap.size with h | h
      · exact h
      · simp [Array.getElem?_eq_none h] at g
  have hκH : ∀ b, κ0 = some b → b ∉ H := by
    intro b e
    rcases hob with ⟨e', _⟩ | ⟨b', cs, t, e', _, g, _⟩
    · rw [e] at e'; cases e'
    · rw [e] at e'; cases e'; exact g
  have hκok : ∀ b, κ0 = some b → ¬ ok b := by
    intro b e
    rcases hob with ⟨e', _⟩ | ⟨b', cs, t, e', g, _⟩
    · rw [e] at e'; cases e'
    · rw [e] at e'; cases e'; exact g
  refine calls_of_wp hf hb ?_
  let ow : Nat → Own := fun b => if κ0 = some b then .lab 100000 else if b ∈ H then .obj 100000 else .none
  let β : Nat → Option (Option Nat) := fun l => if l = 100000 then some κ0 else none
  have how1 : ∀ b, κ0 = some b → ow b = .lab 100000 := fun b e => by show (if _ then _ else _) = _; rw [if_pos e]
  have how2 : ∀ b, b ∈ H → ow b = .obj 100000 := fun b e => by
    show (if _ then _ else if _ then _ else _) = _
    rw [if_neg (fun e' => hκH b e' e), if_pos e]
  have how3 : ∀ b l, ow b = .lab l → κ0 = some b ∧ l = 100000 := by
    intro b l e
    have e : (if κ0 = some b then Own.lab 100000 else if b ∈ H then .obj 100000 else .none) = .lab l := e
    split at e
    · rename_i h; injection e with e; exact ⟨h, e.symm⟩
    · split at e <;> cases e
  have hsim : Sim Γ ⟨argEnv args 0, [(100000, some ⟨old, true, false⟩)]⟩ { tmps := cargs ++ Array.replicate (fn.ntmps - cargs.size) undef, defers := [] } w := by
    refine ⟨ow, β, { size := hsz, defers := rfl, kept := ⟨rfl, rfl, rfl, Nat.le_refl _, fun _ _ _ _ => rfl, fun b _ _ cs t h => ⟨cs, h, rfl⟩⟩, slots := fun k => ?_, objs := fun l ob hl => ?_, gone := fun l hl => ?_, own := fun b hb => ?_, ios := fun l b hl _ => ?_, fresh := fun l b hl hi => ?_ }⟩
    · rw [argEnv_lk]
      by_cases hk : k < args.length
      · rw [if_pos ⟨Nat.zero_le _, by simpa using hk⟩]
        obtain ⟨B, g1, g2⟩ := h2 k hk
        refine ⟨B, ?_, fun b hb => ⟨RelV.below _ _ _ g1 b hb, .inl (g2 b hb), fun l e => hκok b (how3 b l e).1 (g2 b hb)⟩, by simp⟩
        have e : (cargs ++ Array.replicate (fn.ntmps - cargs.size) undef).getD k undef = cargs.toList.getD k undef := by
          have hlt : k < cargs.size := by rw [h1] at hk; simpa using hk
          simp [Array.getD_eq_getD_getElem?, Array.getElem?_append, hlt, List.getD_eq_getElem?_getD]
        rw [e]
        simpa only [Nat.sub_zero] using g1
      · rw [if_neg (by simpa using hk)]
        exact ⟨[], by simp [RelV], by simp, by simp⟩
    · simp only [lo_cons] at hl
      by_cases e : 100000 = l
      · subst e
        rw [if_pos rfl] at hl; cases hl
        refine ⟨H, fun b hb => ⟨hlt b (.inr hb), .inr (.inl (.inr hb)), fun l => by rw [how2 b hb]; simp⟩, fun _ => ⟨hnd, fun b hb => ⟨how2 b hb, (hH b hb).2⟩⟩, ?_⟩
        rcases hob with ⟨e1, e2, e3⟩ | ⟨b, cs, t, e1, _, _, e3, e4⟩
        · exact .inl ⟨by show (if _ then _ else _) = _; rw [if_pos rfl, e1], e2, e3⟩
        · exact .inr ⟨b, cs, t, by show (if _ then _ else _) = _; rw [if_pos rfl, e1], how1 b e1, e3, by simpa using e4⟩
      · rw [if_neg e] at hl; simp [lo] at hl
    · simp only [lo_cons] at hl
      by_cases e : 100000 = l
      · rw [if_pos e] at hl; cases hl
      · show (if _ then _ else _) = _; rw [if_neg (fun e' => e e'.symm)]
    · by_cases e : κ0 = some b
      · exact ⟨hlt b (.inl e), .inr ⟨100000, how1 b e, by show (if (100000 : Nat) = 100000 then κ0 else none) = some b; rw [if_pos rfl, e]⟩⟩
      · by_cases e2 : b ∈ H
        · exact ⟨hlt b (.inr e2), .inl (.inl (.inr e2))⟩
        · exfalso; apply hb; show (if _ then _ else if _ then _ else _) = _; rw [if_neg e, if_neg e2]
    · have hl : (if l = 100000 then κ0 else none) = some b := hl
      split at hl
      · rename_i e; show (if _ then _ else _) = _; rw [if_pos e, hl]
      · cases hl
    · have hl : (if l = 100000 then some κ0 else none) = some (some b) := hl
      have hi : (if l = 100000 then κ0 else none) = none := hi
      split at hl
      · rename_i e; rw [if_pos e] at hi; rw [hi] at hl; cases hl
      · cases hl
  have hioN : ∀ l, Nat.blt l 100000 = true → Γ.io l = none := by
    intro l hl
    have hl := (blt_iff _ _).1 hl
    show (if l = 100000 then κ0 else none) = none
    rw [if_neg (by omega)]
  refine wp_mono (h Γ hioN (fun _ h => h) _ _ hsim) fun e a' w' ⟨E', hs', hq⟩ => ?_
  have fin : RetN Γ rs E' r new → a'.defers = [] ∧ ∃ v, (results fn a'.tmps).run P w' = .ok v w' ∧ ∃ c H', Ending.returned v = .returned c ∧ Same w w' ∧ (∀ b, b < w.heap.size → κ0 ≠ some b → b ∉ H → w'.heap[b]? = w.heap[b]?) ∧ RelV w'.heap dead r c [] ∧
      (κ0 = none → new = [] ∧ H' = []) ∧ (∀ b cs t, κ0 = some b → w.heap[b]? = some (.cells cs t (0, 0)) → b ∉ H' ∧ ∃ cs', w'.heap[b]? = some (.cells cs' t (0, 0)) ∧ cs'.size = cs.size ∧ RelL w'.heap true dead new cs' 0 H') ∧
      H'.Nodup ∧ ∀ c ∈ H', Free w' c ∧ (w.heap.size ≤ c ∨ c ∈ H) := by
    rintro ⟨hr1, hr2⟩
    obtain ⟨c, B, g1, g2, _, _⟩ := hr1 fn hrs a' w' hs'
    have := noRead_nil _ hr g2
    subst this
    obtain ⟨E2, ⟨ow2, β2, hs2⟩, hl⟩ := hr2 a' w' hs'
    obtain ⟨Bo, k1, k2, k3⟩ := hs2.objs 100000 _ hl
    obtain ⟨k2n, k2⟩ := k2 rfl
    refine ⟨hs2.defers, c, g1, c, Bo, rfl, ⟨hs2.kept.os, hs2.kept.output, hs2.kept.tape, hs2.kept.size⟩, fun b hb hn1 hn2 => hs2.kept.old b hb (fun l e => ?_) hn2, g2, fun e => ?_, fun b cs t e hc => ?_, k2n, fun c hc => ⟨(k2 c hc).2, ?_⟩⟩
    · have e : (if l = 100000 then κ0 else none) = some b := e
      split at e
      · exact hn1 e
      · cases e
    · have en : new = [] := hnil (by
        rcases hob with ⟨_, e2, _⟩ | ⟨b, _, _, e2, _⟩
        · exact e2
        · rw [e] at e2; cases e2)
      refine ⟨en, ?_⟩
      rcases k3 with ⟨_, _, k6⟩ | ⟨_, _, _, _, _, _, k7⟩
      · exact k6
      · subst en; simpa [RelL] using k7
    · have hβ := hs2.ios 100000 b (by show (if (100000 : Nat) = 100000 then κ0 else none) = some b; rw [if_pos rfl, e]) (by rw [hl]; rfl)
      rcases k3 with ⟨k4, _⟩ | ⟨b', cs', t', k4, k5, k6, k7⟩
      · rw [hβ] at k4; cases k4
      · rw [hβ] at k4; cases k4
        obtain ⟨cs2, q1, q2⟩ := hs2.kept.ios b (hlt b (.inl e)) (hκH b e) cs t hc
        rw [k6] at q1; cases q1
        exact ⟨fun hb => (k1 b hb).2.2 _ k5, cs', k6, q2, by simpa using k7⟩
    · have e := (k2 c hc).1
      rcases (hs2.own c (by rw [e]; simp)).2 with g | ⟨m, g, _⟩
      · exact (g.elim id False.elim : Γ.nww c)
      · rw [e] at g; cases g
  cases e with
  | normal => exact fin hq
  | ret => exact fin hq
  | exit id => exact hq.elim
  | goto l => exact hq.elim
  | panic ch => exact hq.elim
  | outgrown => exact hq.elim
end
section
variable {P : Program} {N : Nat} {Γ : Ctx P N} {S : List (Nat × Slot)} {O : List (Nat × Option Ob)} {ow : Nat → Own} {β : Nat → Option (Option Nat)} {F : Env} {a : Act} {w : World}
open Classical in
/-- An own row and all that is in it have been written. -/
theorem SimG.rewriteN (h : SimG Γ ow β F a w) {w' : World} (hw : Same w w') {l : Nat} {old new : List PV} {H H' : List Nat} (hle : ∀ b, ¬ Γ.lent b) (hq : NoLab F peekL) (ho : lo F.o l = some ⟨old, true, false⟩) (hown : ∀ b ∈ H, ow b = .obj l)
    (hother : ∀ b, b < w.heap.size → β l ≠ some (some b) → b ∉ H → w'.heap[b]? = w.heap[b]?) (hnil : β l = some none → new = [] ∧ H' = [])
    (hnew : ∀ b cs t, β l = some (some b) → w.heap[b]? = some (.cells cs t (0, 0)) → b ∉ H' ∧ ∃ cs', w'.heap[b]? = some (.cells cs' t (0, 0)) ∧ cs'.size = cs.size ∧ RelL w'.heap true dead new cs' 0 H')
    (hnd : H'.Nodup) (hH' : ∀ c ∈ H', Free w' c ∧ (w.heap.size ≤ c ∨ c ∈ H)) : ∃ ow', SimG Γ ow' β (F.app ⟨[], [(l, some ⟨new, true, false⟩)]⟩) a w' ∧ ∀ b, b < w.heap.size → b ∉ H → ow' b = ow b := by
  obtain ⟨_, _, hq3⟩ := hq
  obtain ⟨hq1, hq2⟩ := hq3 rfl
  let ow' : Nat → Own := fun b => if b ∈ H' then .obj l else if b ∈ H then .none else ow b
  have hsame : ∀ b, b < w.heap.size → b ∉ H → ow' b = ow b := by
    intro b hb hn
    show (if _ then _ else if _ then _ else _) = _
    rw [if_neg (fun e => by rcases (hH' b e).2 with g | g; · omega
                            exact hn g), if_neg hn]
  have howH' : ∀ b ∈ H', ow' b = .obj l := fun b hb => by show (if _ then _ else _) = _; rw [if_pos hb]
  have hlt' : ∀ b ∈ H', b < w'.heap.size := by
    intro b hb
    obtain ⟨⟨cs, t, e⟩, _⟩ := hH' b hb
    rcases Nat.lt_or_ge b w'.heap.size with h | h
    · exact h
    · simp [Array.getElem?_eq_none h] at e
  have hnotH : ∀ b, ow b ≠ .obj l → b ∉ H := fun b hb hm => hb (hown b hm)
  have hnwH : ∀ b ∈ H, b < w.heap.size ∧ Γ.nw b := by
    intro b hb
    have e := hown b hb
    obtain ⟨g1, g2⟩ := h.own b (by rw [e]; simp)
    refine ⟨g1, ?_⟩
    rcases g2 with g | ⟨m, g, _⟩
    · exact g
    · rw [e] at g; cases g
  have hnwH' : ∀ b ∈ H', Γ.nw b := by
    intro b hb
    rcases (hH' b hb).2 with g | g
    · exact .inl (.inl (Nat.le_trans h.kept.size g))
    · exact (hnwH b g).2
  -- blocks that are neither the row's nor in it
  have hheap : ∀ b, b < w.heap.size → (∀ m, ow b = .lab m → m ≠ l) → ow b ≠ .obj l → w'.heap[b]? = w.heap[b]? := by
    intro b hb h1 h2
    exact hother b hb (fun e => h1 l (h.lab_ne e) rfl) (hnotH b h2)
  have hshape : ∀ m b, β m = some (some b) → ShapeOk w.heap w'.heap b := by
    intro m b e c t hc
    by_cases hm : m = l
    · subst hm
      obtain ⟨_, cs', g1, g2, _⟩ := hnew b c t e hc
      exact ⟨cs', g1, g2⟩
    · refine ⟨c, ?_, rfl⟩
      have e1 := h.lab_ne e
      rw [hheap b (h.block_lt e) (fun m' e' => by rw [e1] at e'; injection e' with e''; rw [← e'']; exact hm) (by rw [e1]; simp)]; exact hc
  have hkeep : ∀ m, KeepB w.heap w'.heap β β m := fun m o ho => ⟨ho, fun b hob => by subst hob; exact hshape m b ho⟩
  have hfreeK : ∀ b o, ow b = o → b < w.heap.size → (∀ m, o ≠ .lab m) → o ≠ .obj l → Free w b → Free w' b := fun b o e hb h1 h2 ⟨c, t, hc⟩ => ⟨c, t, by rw [hheap b hb (fun m e' => absurd (e ▸ e') (h1 m)) (e ▸ h2)]; exact hc⟩
  refine ⟨ow', { size := h.size, defers := h.defers, kept := ?_, slots := fun k => ?_, objs := fun m ob hm => ?_, gone := fun m hm => ?_, own := fun b hb => ?_, ios := fun m b hm hs => ?_, fresh := h.fresh }, hsame⟩
  · have hβl : ∀ b, b < Γ.base → ¬ Γ.mine b → β l = some (some b) → Γ.io l = some b := by
      intro b h1 hmi e
      cases hi : Γ.io l with
      | none =>
        rcases h.fresh l b e hi with g | g
        · omega
        · exact absurd g hmi
      | some b' =>
        have := h.ios l b' hi (by rw [ho]; rfl)
        rw [e] at this; cases this; rfl
    have hHn : ∀ b, b < Γ.base → ¬ Γ.mine b → b ∉ H := by
      intro b h1 hmi hb
      rcases (hnwH b hb).2.elim id (fun g => absurd g (hle b)) with g | g
      · omega
      · exact hmi g
    refine ⟨hw.os.trans h.kept.os, hw.output.trans h.kept.output, hw.tape.trans h.kept.tape, Nat.le_trans h.kept.size hw.size, fun b h1 h2 hmi => ?_, fun b h1 hmi c t h2 => ?_⟩
    · exact (hother b (Nat.lt_of_lt_of_le h1 h.kept.size) (fun e => h2 l (hβl b h1 hmi e)) (hHn b h1 hmi)).trans (h.kept.old b h1 h2 hmi)
    · obtain ⟨c', h3, h4⟩ := h.kept.ios b h1 hmi c t h2
      by_cases e : β l = some (some b)
      · obtain ⟨c'', h5, h6⟩ := hshape l b e c' t h3
        exact ⟨c'', h5, h6.trans h4⟩
      · exact ⟨c', by rw [hother b (Nat.lt_of_lt_of_le h1 h.kept.size) e (hHn b h1 hmi)]; exact h3, h4⟩
  · obtain ⟨B, g1, g2, g3⟩ := h.slots k
    have hqk := hq1 k
    unfold quiet at hqk
    rw [Bool.or_eq_true] at hqk
    show ∃ B, RelV w'.heap β (lk F.s k).v _ B ∧ _
    rcases hqk with hd | hr
    · obtain ⟨n1, n2⟩ := g3 hd
      have hb1 : ∀ b ∈ B, w'.heap[b]? = w.heap[b]? := fun b hb => hheap b (g2 b hb).1 (fun m e => by rw [(n2 b hb).1] at e; cases e) (by rw [(n2 b hb).1]; simp)
      have hb2 : ∀ b ∈ B, ow' b = ow b := fun b hb => hsame b (g2 b hb).1 (hnotH b (by rw [(n2 b hb).1]; simp))
      exact ⟨B, RelV.keep _ _ _ (fun m _ => hkeep m) hb1 g1, fun b hb => ⟨Nat.lt_of_lt_of_le (g2 b hb).1 hw.size, (g2 b hb).2.1, fun m => by rw [hb2 b hb]; exact (g2 b hb).2.2 m⟩,
        fun _ => ⟨n1, fun b hb => ⟨by rw [hb2 b hb]; exact (n2 b hb).1, hfreeK b _ (n2 b hb).1 (g2 b hb).1 (by simp) (by simp) (n2 b hb).2⟩⟩⟩
    · have := noRead_nil _ hr g1
      subst this
      exact ⟨[], RelV.keep _ _ _ (fun m _ => hkeep m) (by simp) g1, by simp, fun _ => ⟨by simp, by simp⟩⟩
  · simp only [Env.app, List.cons_append, List.nil_append, lo_cons] at hm
    by_cases hml : l = m
    · subst hml
      rw [if_pos rfl] at hm; cases hm
      refine ⟨H', fun b hb => ⟨hlt' b hb, .inr (hnwH' b hb), fun m => by rw [howH' b hb]; simp⟩, fun _ => ⟨hnd, fun b hb => ⟨howH' b hb, (hH' b hb).1⟩⟩, ?_⟩
      obtain ⟨_, _, _, g3⟩ := h.objs l _ ho
      rcases g3 with ⟨g1, _⟩ | ⟨b, cs, t, g1, g2, g3, _⟩
      · obtain ⟨e1, e2⟩ := hnil g1; exact .inl ⟨g1, e1, e2⟩
      · obtain ⟨q0, cs', q1, q2, q3⟩ := hnew b cs t g1 g3
        refine .inr ⟨b, cs', t, g1, ?_, q1, by simpa using q3⟩
        rw [hsame b (h.block_lt g1) (hnotH b (by rw [g2]; simp))]; exact g2
    · rw [if_neg hml] at hm
      obtain ⟨B, g1, g2, g3⟩ := h.objs m ob hm
      have hqo := hq2 m ob hm
      unfold quietO at hqo
      rw [Bool.or_eq_true] at hqo
      have hB : ∀ b ∈ B, ob.deep = true ∧ ow b = .obj m ∧ Free w b := by
        intro b hb
        rcases hqo with hd | hr
        · exact ⟨hd, (g2 hd).2 b hb⟩
        · rcases g3 with ⟨_, _, e3⟩ | ⟨_, _, _, _, _, _, g4⟩
          · subst e3; cases hb
          · rw [noReadL_nil _ hr g4] at hb; cases hb
      have hne : ∀ b ∈ B, ow b ≠ .obj l := fun b hb e => by rw [(hB b hb).2.1] at e; injection e with e'; exact hml e'.symm
      have hb1 : ∀ b ∈ B, w'.heap[b]? = w.heap[b]? := fun b hb => hheap b (g1 b hb).1 (fun m' e => by rw [(hB b hb).2.1] at e; cases e) (hne b hb)
      have hb2 : ∀ b ∈ B, ow' b = ow b := fun b hb => hsame b (g1 b hb).1 (hnotH b (hne b hb))
      refine ⟨B, fun b hb => ⟨Nat.lt_of_lt_of_le (g1 b hb).1 hw.size, (g1 b hb).2.1, fun m' => by rw [hb2 b hb]; exact (g1 b hb).2.2 m'⟩, fun hd => ⟨(g2 hd).1, fun b hb => ⟨by rw [hb2 b hb]; exact ((g2 hd).2 b hb).1, hfreeK b _ (hB b hb).2.1 (g1 b hb).1 (by simp) (by intro e; injection e with e'; exact hml e'.symm) (hB b hb).2.2⟩⟩, ?_⟩
      rcases g3 with ⟨e1, e2, e3⟩ | ⟨b, c, t, e1, e2, e3, e4⟩
      · exact .inl ⟨e1, e2, e3⟩
      · refine .inr ⟨b, c, t, e1, ?_, ?_, ?_⟩
        · rw [hsame b (h.block_lt e1) (hnotH b (by rw [e2]; simp))]; exact e2
        · rw [hheap b (h.block_lt e1) (fun m' e' => by rw [e2] at e'; injection e' with e''; rw [← e'']; exact fun e => hml e.symm) (by rw [e2]; simp)]; exact e3
        · cases hbx : ob.box with
          | false => rw [hbx] at e4; exact RelL.keep _ _ _ _ (fun _ _ l _ => KeepB.dead _ _ l) hb1 e4
          | true => rw [hbx] at e4; exact RelL.keep _ _ _ _ (fun _ _ m' _ => hkeep m') hb1 e4
  · simp only [Env.app, List.cons_append, List.nil_append, lo_cons] at hm
    by_cases hml : l = m
    · rw [if_pos hml] at hm; cases hm
    · rw [if_neg hml] at hm; exact h.gone m hm
  · by_cases hb' : b ∈ H'
    · exact ⟨hlt' b hb', .inl (hnwH' b hb')⟩
    · have e : (if b ∈ H' then Own.obj l else if b ∈ H then .none else ow b) ≠ .none := hb
      rw [if_neg hb'] at e
      by_cases hbH : b ∈ H
      · rw [if_pos hbH] at e; exact absurd rfl e
      · rw [if_neg hbH] at e
        obtain ⟨g1, g2⟩ := h.own b e
        refine ⟨Nat.lt_of_lt_of_le g1 hw.size, ?_⟩
        rw [hsame b g1 hbH]; exact g2
  · refine h.ios m b hm ?_
    simp only [Env.app, List.cons_append, List.nil_append, lo_cons] at hs
    by_cases hml : l = m
    · subst hml; rw [ho]; rfl
    · rw [if_neg hml] at hs; exact hs
variable {d : Nat} {ty : TypeId} {pos : String} {af : Array Edge} {g : Option (Nat × Bool)}
theorem L_callN {f : FuncId} [hfc : FnC P f] {xs : List Operand} {tus : Array TypeId} {ps : List PV} {l : Nat} {old new : List PV} {r : PV} (ha : ArgsX S O [(100000, l)] xs ps []) (hm : MeetsN P f ps old new r) (ho : loq O l = some ⟨old, true, false⟩)
    (hps : noReadL ps = true) (hr : r.labs = []) (hr2 : noRead r = true) (hle : ∀ b, ¬ Γ.lent b) (hd : Nat.blt d N = true) :
    Local Γ ⟨some d, .call ⟨.value (.func f), xs.toArray, tus⟩, ty, pos, af, g⟩ ⟨S, O⟩ ⟨[(d, ⟨r, false⟩)], [(l, some ⟨new, true, false⟩)]⟩ (orsA xs) [l] [777777777] := by
  classical
  intro F hs hl hnl a w ⟨ow, β, hsim⟩ Q
  have hdN := (blt_iff _ _).1 hd
  have hlF : lo F.o l = some ⟨old, true, false⟩ := by rw [hl l (by simp), ← loq_lo]; exact ho
  obtain ⟨H, o1, o2, o3⟩ := hsim.objs l _ hlF
  obtain ⟨nd, o2⟩ := o2 rfl
  have hk : ∃ κ0, β l = some κ0 := by
    rcases o3 with ⟨e, _⟩ | ⟨b, _, _, e, _⟩
    · exact ⟨_, e⟩
    · exact ⟨_, e⟩
  obtain ⟨κ0, hκ⟩ := hk
  unfold Oper.wp
  have hrun : (execOp a.eval ⟨some d, .call ⟨.value (.func f), xs.toArray, tus⟩, ty, pos, af, g⟩).run P w = .ok (.enter f (xs.map a.eval).toArray) w := by
    simp [execOp, resolve, Act.eval, Deferred.ofValue, invoke, hfc.run]
  rw [hrun]
  show Calls _ _ _ _ _
  have hargs : XArgs w.heap (fun _ => False) (fun m => if m = 100000 then some κ0 else none) ps (xs.map a.eval) := by
    clear hm hrun
    have key : ∀ {xs : List Operand} {ps : List PV} {ls' : List Nat}, ArgsX S O [(100000, l)] xs ps ls' → ls' = [] → (∀ k ∈ orsA xs, lk F.s k = lk S k) → noReadL ps = true → XArgs w.heap (fun _ => False) (fun m => if m = 100000 then some κ0 else none) ps (xs.map a.eval) := by
      intro xs ps ls' hx
      induction hx with
      | nil => intro _ _ _; trivial
      | @cons x p l1 m xs ps h1 h2 ih =>
        intro he hk hnr
        obtain ⟨rfl, rfl⟩ := List.append_eq_nil_iff.1 he
        simp only [noReadL, Bool.and_eq_true] at hnr
        have hk1 : ∀ k ∈ ors x, lk F.s k = lk S k := fun k hk' => hk k (by cases x <;> simp [ors, orsA] at hk' ⊢; exact .inl hk')
        have hk2 : ∀ k ∈ orsA xs, lk F.s k = lk S k := fun k hk' => hk k (by cases x <;> simp [orsA, hk'])
        refine ⟨?_, ih rfl hk2 hnr.2⟩
        cases h1 with
        | val hv hlb =>
          obtain ⟨B, g1, g2⟩ := ArgV.rel hsim hv hk1 (by simp)
          have := noRead_nil _ hnr.1 g1
          subst this
          exact ⟨[], g1.nolab hlb, by simp⟩
        | io hv =>
          obtain ⟨B, g1, g2⟩ := ev_rel hsim hv hk1
          have g3 := relV_ren' (β' := fun m => if m = 100000 then some κ0 else none) (fun m o e => by
            have e : (if m = 100000 then some κ0 else none) = some o := e
            split at e
            · rename_i hm; subst hm; cases e; exact hκ
            · cases e) p g1
          have := noRead_nil _ hnr.1 g3
          subst this
          exact ⟨[], g3, by simp⟩
    exact key ha rfl hs hps
  refine (hm w (xs.map a.eval).toArray (fun _ => False) κ0 H (by simpa using hargs) ?_ nd (fun c hc => ⟨fun h => h, (o2 c hc).2⟩)).mono fun e w' ⟨c, H', he, hsame, hoth, hrel, h0, hpost, hnd', hH'⟩ => ?_
  · rcases o3 with ⟨e1, e2, e3⟩ | ⟨b, cs, t, e1, e2, e3, e4⟩
    · rw [hκ] at e1; cases e1; exact .inl ⟨rfl, e2, e3⟩
    · rw [hκ] at e1; cases e1
      exact .inr ⟨b, cs, t, rfl, fun h => h, fun hb => (o1 b hb).2.2 l e2, e3, by simpa using e4⟩
  · subst he
    show Sim Γ _ _ _
    obtain ⟨ow', h', _⟩ := hsim.rewriteN hsame hle (hnl 777777777 (by simp)) hlF (fun b hb => (o2 b hb).1) (fun b hb h1 h2 => hoth b hb (fun e => h1 (by rw [hκ, e])) h2) (fun e => by rw [hκ] at e; cases e; exact h0 rfl) (fun b cs t e hc => hpost b cs t (by rw [hκ] at e; cases e; rfl) hc) hnd' hH'
    have h2 := h'.put (d := d) (v := r) (c := c) (O := []) hdN (RelV.nolab hr hrel) (by simp)
    exact ⟨_, _, h2.congr (fun k => rfl) (fun l => rfl)⟩
end
end Go.Ev
