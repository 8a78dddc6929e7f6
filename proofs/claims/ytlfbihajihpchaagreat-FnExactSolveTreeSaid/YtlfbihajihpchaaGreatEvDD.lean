/- The engine, part DD: struct literals. -/
import Derived.Test.YtlfbihajihpchaaGreatEvCC
import Derived.Great.FillDense
set_option linter.all false
namespace Go.Ev
open Go.RowKit (Below)
/-- Where a struct's fields lie, how many cells they have. -/
class PlT (P : Program) (t : Nat) (pl : outParam (List (Nat × Nat))) : Prop where
  ok : ∃ fs, P.underlying t = some (.struct fs) ∧ fs.toList.mapM (fun f => (P.info? f.type).map fun i => (f.offset, i.size)) = some pl
theorem PlT.of {P : Program} {t : Nat} {pl : List (Nat × Nat)} (h : (match P.underlying t with | some (.struct fs) => fs.toList.mapM (fun f => (P.info? f.type).map fun i => (f.offset, i.size)) | _ => none) = some pl) : PlT P t pl := by
  split at h
  · rename_i fs hu; exact ⟨fs, hu, h⟩
  · cases h
/-- The fields of a struct literal over the cells: values that read nothing, values of slots that give them up, shared values. -/
inductive BuildV (S : List (Nat × Slot)) (pl : List (Nat × Nat)) (dp : Bool) : List (Nat × Operand) → List PV → List PV → List Nat → Prop
  | nil {cells : List PV} : BuildV S pl dp [] cells cells []
  | sc {i off n : Nat} {x : Operand} {p : PV} {r : List (Nat × Operand)} {cells cells' : List PV} {ks : List Nat} : evq S x = some p → noRead p = true → p.labs = [] → stB [] false p = true → pl[i]? = some (off, n) → Nat.beq (pcells p).length n = true → Nat.ble (off + n) cells.length = true →
      BuildV S pl dp r (cells.take off ++ pcells p ++ cells.drop (off + n)) cells' ks → BuildV S pl dp ((i, x) :: r) cells cells' ks
  | tk {i off n k : Nat} {p : PV} {r : List (Nat × Operand)} {cells cells' : List PV} {ks : List Nat} : lkq S k = some ⟨p, true⟩ → p.labs = [] → stB [] false p = true → pl[i]? = some (off, n) → Nat.beq (pcells p).length n = true → Nat.ble (off + n) cells.length = true → memB ks k = false →
      BuildV S pl dp r (cells.take off ++ pcells p ++ cells.drop (off + n)) cells' ks → BuildV S pl dp ((i, .tmp k) :: r) cells cells' (k :: ks)
  | sh {i off n : Nat} {x : Operand} {p : PV} {r : List (Nat × Operand)} {cells cells' : List PV} {ks : List Nat} : dp = false → evq S x = some p → p.labs = [] → stB [] false p = true → pl[i]? = some (off, n) → Nat.beq (pcells p).length n = true → Nat.ble (off + n) cells.length = true →
      BuildV S pl dp r (cells.take off ++ pcells p ++ cells.drop (off + n)) cells' ks → BuildV S pl dp ((i, x) :: r) cells cells' ks
section
variable {P : Program} {N : Nat} {Γ : Ctx P N} {S : List (Nat × Slot)} {O : List (Nat × Option Ob)} {ow : Nat → Own} {β : Nat → Option (Option Nat)} {F : Env} {a : Act} {w : World}
theorem fill_step {place : Nat → Option (Nat × Nat)} {cs : Array Value} {i off n : Nat} {v : Value} {rest : List (Nat × Value)} (hp : place i = some (off, n)) (hv : v.cells.size = n) (hk : off + n ≤ cs.size) :
    Instr.fill place cs ((i, v) :: rest) = Instr.fill place (cs.toList.take off ++ v.cells.toList ++ cs.toList.drop (off + n)).toArray rest := by
  have e : v.cells.zipIdx.foldl (fun cs (c, j) => cs.setIfInBounds (off + j) c) cs = (cs.toList.take off ++ v.cells.toList ++ cs.toList.drop (off + n)).toArray := by
    rw [← Array.foldl_toList, Array.toList_zipIdx]
    have hfs := Go.Great.foldl_set off v.cells.toList 0 cs
    apply Array.ext_getElem?
    intro k
    have hl : (cs.toList.take off).length = off := by simp; omega
    have hvl : v.cells.toList.length = n := by simpa using hv
    rw [hfs.2 k]
    conv => rhs; rw [List.getElem?_toArray, List.append_assoc]
    by_cases h1 : k < off
    · rw [if_neg (by omega), List.getElem?_append_left (l₁ := cs.toList.take off) (by omega), List.getElem?_take, if_pos h1]; simp
    · rw [List.getElem?_append_right (l₁ := cs.toList.take off) (by omega), hl]
      by_cases h2 : k < off + n
      · rw [if_pos ⟨by omega, by omega, by omega⟩, List.getElem?_append_left (by omega), Nat.add_zero]
      · rw [if_neg (by omega), List.getElem?_append_right (by omega), hvl, List.getElem?_drop, show off + n + (k - off - n) = k by omega]; simp
  conv => lhs; unfold Instr.fill
  simp only [hp]
  rw [if_neg (by simp; omega), e]
theorem build_core (hsim : SimG Γ ow β F a w) {pl : List (Nat × Nat)} {dp : Bool} {ps : List (Nat × Operand)} {cells cells' : List PV} {ks : List Nat} (H : BuildV S pl dp ps cells cells' ks) : (∀ j ∈ orsL ps, lk F.s j = lk S j) →
    ∀ (cs : Array Value) (B ks0 : List Nat), cs.size = cells.length → RelL w.heap true dead cells cs 0 B → (∀ b ∈ B, Im Γ ow w b) → (dp = true → B.Nodup ∧ ∀ b ∈ B, Free w b ∧ Γ.nw b ∧ ∃ k ∈ ks0, ow b = .slot k) → (∀ k ∈ ks, k ∉ ks0) →
    ∃ cs' B', Instr.fill (fun i => pl[i]?) cs (ps.map fun p => (p.1, a.eval p.2)) = some cs' ∧ cs'.size = cells'.length ∧ RelL w.heap true dead cells' cs' 0 B' ∧ (∀ b ∈ B', Im Γ ow w b) ∧ (dp = true → B'.Nodup ∧ ∀ b ∈ B', Free w b ∧ Γ.nw b ∧ ∃ k ∈ ks0 ++ ks, ow b = .slot k) := by
  -- one field
  have step : ∀ {i off n : Nat} {x : Operand} {p : PV} {cells : List PV} {c : Value} {Bp : List Nat} (cs : Array Value) (B : List Nat) (rest : List (Nat × Value)), RelV w.heap β p c Bp → p.labs = [] → stB [] false p = true → pl[i]? = some (off, n) → (pcells p).length = n → off + n ≤ cells.length → cs.size = cells.length → RelL w.heap true dead cells cs 0 B →
      ∃ cs2 B1 B2 B3, B = B1 ++ (B2 ++ B3) ∧ Instr.fill (fun i => pl[i]?) cs ((i, c) :: rest) = Instr.fill (fun i => pl[i]?) cs2 rest ∧ cs2.size = (cells.take off ++ pcells p ++ cells.drop (off + n)).length ∧ RelL w.heap true dead (cells.take off ++ pcells p ++ cells.drop (off + n)) cs2 0 (B1 ++ (Bp ++ B3)) := by
    intro i off n x p cells c Bp cs B rest hr hl hst hpl hn hk hsz hB
    obtain ⟨r1, r2, r3⟩ := cells_rel (O := []) hsim hr hst (by simp [labsOf, hl])
    simp only [Bool.false_eq_true, if_false] at r1
    have hcs : c.cells.size = n := by omega
    obtain ⟨B1, B2, B3, e1, e2⟩ := relL_splice (k := off) (n := n) (xs := c.cells.toList) hB (by simpa using r1) hn (by simpa using hcs) hk (by omega)
    refine ⟨_, B1, B2, B3, e1, fill_step (by exact hpl) hcs (by omega), ?_, e2⟩
    simp only [List.size_toArray, List.length_append, List.length_take, List.length_drop, Array.length_toList]
    omega
  induction H with
  | nil => intro _ cs B ks0 h1 h2 h3 h4 _; exact ⟨cs, B, rfl, h1, h2, h3, fun hd => ⟨(h4 hd).1, fun b hb => by obtain ⟨q1, q2, k, q3, q4⟩ := (h4 hd).2 b hb; exact ⟨q1, q2, k, by simp [q3], q4⟩⟩⟩
  | @sc i off n x p r cells cells' ks e1 e2 e3 e4 e5 e6 e7 _ ih =>
    intro hs cs B ks0 h1 h2 h3 h4 h5
    obtain ⟨Bp, g1, _⟩ := ev_rel hsim e1 (fun j hj => hs j (by simp [orsL, hj]))
    have := noRead_nil _ e2 g1
    subst this
    obtain ⟨cs2, B1, B2, B3, q1, q2, q3, q4⟩ := step (x := x) cs B (r.map fun p => (p.1, a.eval p.2)) g1 e3 e4 e5 (Nat.eq_of_beq_eq_true e6) (Nat.le_of_ble_eq_true e7) h1 h2
    subst q1
    have hsub : ∀ b, b ∈ B1 ++ ([] ++ B3) → b ∈ B1 ++ (B2 ++ B3) := fun b hb => by simp only [List.nil_append, List.mem_append] at hb ⊢; rcases hb with hb | hb; exact .inl hb; exact .inr (.inr hb)
    obtain ⟨cs', B', k1, k2⟩ := ih (fun j hj => hs j (by simp [orsL, hj])) cs2 _ ks0 q3 q4 (fun b hb => h3 b (hsub b hb)) (fun hd => by
      obtain ⟨n1, n2⟩ := h4 hd
      refine ⟨?_, fun b hb => n2 b (hsub b hb)⟩
      have n3 := List.nodup_append.1 n1
      have n4 := List.nodup_append.1 n3.2.1
      exact List.nodup_append.2 ⟨n3.1, by simpa using n4.2.1, fun x hx y hy => n3.2.2 x hx y (by simp only [List.nil_append] at hy; simp [hy])⟩) h5
    exact ⟨cs', B', by rw [List.map_cons, q2]; exact k1, k2⟩
  | @tk i off n k p r cells cells' ks e1 e3 e4 e5 e6 e7 e8 _ ih =>
    intro hs cs B ks0 h1 h2 h3 h4 h5
    obtain ⟨Bp, g1, g2, g3⟩ := hsim.slots k
    rw [hs k (by simp [orsL, ors]), lkq_lk e1] at g1 g3
    obtain ⟨g4, g5⟩ := g3 rfl
    obtain ⟨cs2, B1, B2, B3, q1, q2, q3, q4⟩ := step (x := .tmp k) cs B (r.map fun p => (p.1, a.eval p.2)) g1 e3 e4 e5 (Nat.eq_of_beq_eq_true e6) (Nat.le_of_ble_eq_true e7) h1 h2
    subst q1
    have hk0 : k ∉ ks0 := h5 k (by simp)
    obtain ⟨cs', B', k1, k2, k3, k4, k5⟩ := ih (fun j hj => hs j (by simp [orsL, hj])) cs2 _ (ks0 ++ [k]) q3 q4 (fun b hb => by
      simp only [List.mem_append] at hb
      rcases hb with hb | hb | hb
      · exact h3 b (by simp [hb])
      · exact g2 b hb
      · exact h3 b (by simp [hb])) (fun hd => by
      obtain ⟨n1, n2⟩ := h4 hd
      have n3 := List.nodup_append.1 n1
      have n4 := List.nodup_append.1 n3.2.1
      have hne : ∀ b, b ∈ B1 ++ (B2 ++ B3) → b ∉ Bp := by
        intro b hb hb'
        obtain ⟨_, _, k', hk', e⟩ := n2 b hb
        rw [(g5 b hb').1] at e; injection e with e; subst e; exact hk0 hk'
      refine ⟨List.nodup_append.2 ⟨n3.1, List.nodup_append.2 ⟨g4, n4.2.1, fun x hx y hy e => hne y (by simp [hy]) (e ▸ hx)⟩, fun x hx y hy => ?_⟩, fun b hb => ?_⟩
      · rcases List.mem_append.1 hy with hy | hy
        · intro e; exact hne x (by simp [hx]) (e ▸ hy)
        · exact n3.2.2 x hx y (by simp [hy])
      · simp only [List.mem_append] at hb
        have old : b ∈ B1 ++ (B2 ++ B3) → Free w b ∧ Γ.nw b ∧ ∃ k' ∈ ks0 ++ [k], ow b = .slot k' := fun hb => by
          obtain ⟨u1, u2, k', u3, u4⟩ := n2 b hb
          exact ⟨u1, u2, k', by simp [u3], u4⟩
        rcases hb with hb | hb | hb
        · exact old (by simp [hb])
        · refine ⟨(g5 b hb).2, ?_, k, by simp, (g5 b hb).1⟩
          rcases (hsim.own b (by rw [(g5 b hb).1]; simp)).2 with g | ⟨m, g, _⟩
          · exact g
          · rw [(g5 b hb).1] at g; cases g
        · exact old (by simp [hb])) (fun k' hk' hm => by
      rcases List.mem_append.1 hm with hm | hm
      · exact h5 k' (by simp [hk']) hm
      · rw [List.mem_singleton] at hm; subst hm
        rw [(memB_iff _ _).2 hk'] at e8; cases e8)
    exact ⟨cs', B', by rw [List.map_cons, show a.eval (.tmp k) = a.tmps.getD k undef from rfl, q2]; exact k1, k2, k3, k4, fun hd => by simpa using k5 hd⟩
  | @sh i off n x p r cells cells' ks e0 e1 e3 e4 e5 e6 e7 _ ih =>
    intro hs cs B ks0 h1 h2 h3 h4 h5
    obtain ⟨Bp, g1, g2⟩ := ev_rel hsim e1 (fun j hj => hs j (by simp [orsL, hj]))
    obtain ⟨cs2, B1, B2, B3, q1, q2, q3, q4⟩ := step (x := x) cs B (r.map fun p => (p.1, a.eval p.2)) g1 e3 e4 e5 (Nat.eq_of_beq_eq_true e6) (Nat.le_of_ble_eq_true e7) h1 h2
    subst q1
    obtain ⟨cs', B', k1, k2⟩ := ih (fun j hj => hs j (by simp [orsL, hj])) cs2 _ ks0 q3 q4 (fun b hb => by
      simp only [List.mem_append] at hb
      rcases hb with hb | hb | hb
      · exact h3 b (by simp [hb])
      · exact g2 b hb
      · exact h3 b (by simp [hb])) (fun hd => by rw [e0] at hd; cases hd) h5
    exact ⟨cs', B', by rw [List.map_cons, q2]; exact k1, k2⟩
variable {d : Nat} {ty : TypeId} {pos : String} {af : Array Edge} {g : Option (Nat × Bool)}
/-- A struct literal: its blocks are those that its fields give up (or, dp = false, shared). -/
theorem L_buildC {t : Nat} {parts : Array (Nat × Operand)} {zs cells : List PV} {pl : List (Nat × Nat)} {ks : List Nat} (dp : Bool) [hz : ZT P t zs] [hp : PlT P t pl] (hb : BuildV S pl dp parts.toList zs cells ks) (hnl : noLabs cells = true) (hd : Nat.blt d N = true) :
    Local Γ ⟨some d, .build t parts, ty, pos, af, g⟩ ⟨S, O⟩ ⟨(d, ⟨.agg cells, dp⟩) :: ks.map (fun j => (j, ⟨.any, false⟩)), []⟩ (orsL parts.toList) [] [] := by
  intro F hs _ _
  refine opT_of_run fun a w ⟨ow, β, hsim⟩ => ?_
  obtain ⟨it, z, z1, z2, z3, z4, rfl⟩ := hz.ok
  obtain ⟨fs, p1, p2⟩ := hp.ok
  have h1c : ∀ v ∈ z.cells.toList, v.oneCell' = true := fun v hv => List.all_eq_true.1 z4 v hv
  have hrel0 : RelL w.heap true dead (z.cells.toList.map .sc) z.cells 0 [] := by
    have := relL_scs (h := w.heap) (β := dead) (vs := z.cells.toList) (pre := []) h1c
    simpa using this
  obtain ⟨cs', B', k1, k2, k3, k4, k5⟩ := build_core hsim hb hs z.cells [] [] (by simp) hrel0 (by simp) (fun _ => ⟨by simp, by simp⟩) (by simp)
  have hrun : (Instr.build t (parts.map fun (i, x) => (i, a.eval x))).run P w = .ok (.agg cs') w := by
    refine run_build w t _ cs' ?_
    unfold Program.built
    simp only [z1, p1, z2, p2]
    rw [← k1]
    congr 1
    · funext i; simp
    · simp
  have hrel : RelV w.heap β (.agg cells) (.agg cs') B' := by
    simp only [RelV]
    exact ⟨cs', rfl, k2, relL_nolab (noLabs_iff hnl) k3⟩
  obtain ⟨ow', h'⟩ := hsim.gather ((blt_iff _ _).1 hd) ks hrel k4 (fun hx => ⟨(k5 hx).1, fun b hb => by
    obtain ⟨q1, q2, k, q3, q4⟩ := (k5 hx).2 b hb
    exact ⟨q1, q2, .inr ⟨k, by simpa using q3, q4⟩⟩⟩) (dp := dp)
  refine ⟨.agg cs', w, ?_, ow', β, h'⟩
  simp only [execOp]
  rw [Sem.run_bind, hrun]
  rfl
end
end Go.Ev
