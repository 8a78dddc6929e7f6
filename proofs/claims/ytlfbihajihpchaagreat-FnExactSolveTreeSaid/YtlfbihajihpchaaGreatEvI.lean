/- The engine, part I: reading memory. -/
import Derived.Test.YtlfbihajihpchaaGreatEvH
import Derived.Room.Entries
set_option linter.all false
namespace Go.Ev
open Go.RowKit (Below)

section
variable {P : Program} {N : Nat} {Γ : Ctx P N} {S : List (Nat × Slot)} {O : List (Nat × Option Ob)}
variable {d : Nat} {ty : TypeId} {pos : String} {af : Array Edge} {g : Option (Nat × Bool)}

theorem run_fieldAt {t f off : Nat} [hf : FldT P t f off] (w : World) (b k : Nat) : (Instr.fieldAt t (.pointer (some ⟨b, k, none⟩)) f).run P w = .ok (.pointer (some ⟨b, k + off, none⟩)) w := by
  obtain ⟨fs, fd, i, h1, h2, h3, h4, h5⟩ := hf.ok
  subst h3
  simp [Instr.fieldAt, run_underlying h1, h2, Instr.sureAddr, fieldPlace, sizeOf, typeInfo, h4, h5, Addr.add_lit]

theorem L_fldI {x : Operand} {t f off : Nat} {cells : List PV} [hf : FldT P t f off] (hx : evq S x = some (.iptr cells)) (hd : Nat.blt d N = true) :
    Local Γ ⟨some d, .fieldAddr t x f, ty, pos, af, g⟩ ⟨S, O⟩ ⟨[(d, ⟨.iptr (cells.drop off), false⟩)], []⟩ (ors x) [] [] := by
  intro F hs _ _
  refine opT_of_run fun a w ⟨ow, β, hsim⟩ => ?_
  obtain ⟨B, h1, h2⟩ := ev_rel hsim hx hs
  simp only [RelV] at h1
  obtain ⟨b, o, cs, u, fr, B', e1, e2, e3, rfl⟩ := h1
  refine ⟨.pointer (some ⟨b, o + off, none⟩), w, by simp [execOp, e1, run_fieldAt], ow, β, ?_⟩
  by_cases hl : off ≤ cells.length
  · obtain ⟨B2, g1, B1, g2⟩ := e3.drop off hl
    exact hsim.put ((blt_iff _ _).1 hd) (O := b :: B2) (by simp only [RelV]; exact ⟨b, _, cs, u, fr, B2, rfl, e2, g1, rfl⟩) (fun c hc => by
      rcases List.mem_cons.1 hc with rfl | hc
      · exact h2 _ (by simp)
      · exact h2 _ (by rw [g2]; simp [hc]))
  · have : cells.drop off = [] := by rw [List.drop_eq_nil_iff]; omega
    rw [this]
    exact hsim.put ((blt_iff _ _).1 hd) (O := [b]) (by simp only [RelV]; exact ⟨b, _, cs, u, fr, [], rfl, e2, by simp [RelL], rfl⟩) (fun c hc => by
      simp at hc; subst hc; exact h2 _ (by simp))

theorem L_fldP {x : Operand} {t f off l k : Nat} {ob : Ob} [hf : FldT P t f off] (hx : evq S x = some (.ptr l k)) (ho : loq O l = some ob) (hne : Nat.blt 0 ob.cells.length = true) (hd : Nat.blt d N = true) :
    Local Γ ⟨some d, .fieldAddr t x f, ty, pos, af, g⟩ ⟨S, O⟩ ⟨[(d, ⟨.ptr l (k + off), false⟩)], []⟩ (ors x) [l] [] := by
  intro F hs hl _
  refine opT_of_run fun a w ⟨ow, β, hsim⟩ => ?_
  obtain ⟨B, h1, h2⟩ := ev_rel hsim hx hs
  simp only [RelV] at h1
  obtain ⟨_, _, _, hob⟩ := hsim.objs l ob (by rw [hl l (by simp), ← loq_lo]; exact ho)
  rcases hob with ⟨_, e, _⟩ | ⟨b, cs, u, e1, _⟩
  · rw [e] at hne; cases hne
  · refine ⟨.pointer (some ⟨b, k + off, none⟩), w, by simp [execOp, h1.2 b e1, run_fieldAt], ow, β, ?_⟩
    exact hsim.put ((blt_iff _ _).1 hd) (O := []) (by simp only [RelV]; exact ⟨trivial, fun b' hb => by rw [e1] at hb; cases hb; rfl⟩) (by simp)

theorem run_loadAgg {t n by_ : Nat} [ht : TI P t n true by_] (w : World) {b k : Nat} {cs : Array Value} {u : TypeId} {fr : Nat × Nat} (hb : w.heap[b]? = some (.cells cs u fr)) (hk : k + n ≤ cs.size) :
    (Instr.loadAt t (.pointer (some ⟨b, k, none⟩))).run P w = .ok (.agg (cs.extract k (k + n))) w := by
  obtain ⟨⟨i, h1, h2, _⟩, dd, h3, h4⟩ := ht.ok
  have hagg : (isAgg t).run P w = .ok true w := by
    unfold isAgg
    rw [Sem.run_bind, run_underlying h3 w]
    cases dd <;> simp_all
  have hlen : (cs.extract k (k + n)).toList.length = n := by simp; omega
  have hl : (loadCells ⟨b, k, none⟩ (cs.extract k (k + n)).toList.length).run P w = .ok (cs.extract k (k + n)).toList.toArray w :=
    run_loadCells_list (P := P) w ⟨b, k, none⟩ _ (fun j v hv => by
      rw [Addr.add_lit, cell_of_row w b (k + j) cs u fr hb]
      have hj : j < n := by
        have := (List.getElem?_eq_some_iff.1 hv).1
        omega
      simp only [Array.toList_extract, List.extract_eq_take_drop] at hv
      rw [List.getElem?_take, List.getElem?_drop] at hv
      simp at hv
      rw [← hv.2])
  rw [hlen] at hl
  simp only [Array.toArray_toList] at hl
  simp [Instr.loadAt, Instr.sureAddr, loadVar, hagg, sizeOf, typeInfo, h1, h2, hl]
theorem run_loadCell {t n by_ : Nat} [ht : TI P t n false by_] (w : World) {b k : Nat} {cs : Array Value} {u : TypeId} {fr : Nat × Nat} {c : Value} (hb : w.heap[b]? = some (.cells cs u fr)) (hk : cs[k]? = some c) :
    (Instr.loadAt t (.pointer (some ⟨b, k, none⟩))).run P w = .ok c w := by
  obtain ⟨⟨i, h1, h2, _⟩, dd, h3, h4⟩ := ht.ok
  have hagg : (isAgg t).run P w = .ok false w := by
    unfold isAgg
    rw [Sem.run_bind, run_underlying h3 w]
    cases dd <;> simp_all
  simp [Instr.loadAt, Instr.sureAddr, loadVar, hagg, run_load, cell_of_row w b k cs u fr hb, hk]

theorem rel_extract {h : Array Obj} {q : Bool} {β : Nat → Option (Option Nat)} {ps : List PV} {cs : Array Value} {k n : Nat} {B : List Nat} (hn : ps.length = n) (H : RelL h q β ps cs k B) : RelL h q β ps (cs.extract k (k + n)) 0 B :=
  RelL.shift _ _ _ _ _ _ (fun j hj => by
    rw [Nat.zero_add, Array.getElem?_extract]
    simp; omega) H

/-- what holds of a value without a label holds wherever the own blocks lie -/
theorem RelV.nolab {h : Array Obj} {β β' : Nat → Option (Option Nat)} {p : PV} {c : Value} {B : List Nat} (hl : p.labs = []) (H : RelV h β p c B) : RelV h β' p c B :=
  RelV.keep _ _ _ (fun l hl' => by rw [hl] at hl'; cases hl') (fun _ _ => rfl) H

theorem L_ldI {x : Operand} {t n by_ : Nat} {cells : List PV} {c : PV} [ht : TI P t n false by_] (hx : evq S x = some (.iptr cells)) (hc : cells[0]? = some c) (hl : c.labs = []) (hd : Nat.blt d N = true) :
    Local Γ ⟨some d, .load t x, ty, pos, af, g⟩ ⟨S, O⟩ ⟨[(d, ⟨c, false⟩)], []⟩ (ors x) [] [] := by
  intro F hs _ _
  refine opT_of_run fun a w ⟨ow, β, hsim⟩ => ?_
  obtain ⟨B, h1, h2⟩ := ev_rel hsim hx hs
  simp only [RelV] at h1
  obtain ⟨b, o, cs, u, fr, B', e1, e2, e3, rfl⟩ := h1
  obtain ⟨v, B1, g1, _, g3, g4⟩ := RelL.get _ _ _ _ e3 0 c hc
  rw [Nat.add_zero] at g1
  refine ⟨v, w, by simp [execOp, e1, run_loadCell (t := t) w e2 g1], ow, β, ?_⟩
  exact hsim.put ((blt_iff _ _).1 hd) (O := B1) (g3.nolab hl) (fun b' hb => h2 _ (by simp [g4 b' hb]))

theorem take_whole {n : Nat} {cells : List PV} (h : Nat.beq cells.length n = true) : cells.take n = cells := by
  rw [← Nat.eq_of_beq_eq_true h]; exact List.take_length
theorem seg_whole {n : Nat} {cells : List PV} (h : Nat.beq cells.length n = true) : (cells.drop 0).take n = cells := by
  rw [List.drop_zero]; exact take_whole h

theorem relL_nolab {h : Array Obj} {q : Bool} {β β' : Nat → Option (Option Nat)} {ps : List PV} {cs : Array Value} {i : Nat} {B : List Nat} (hl : ∀ p ∈ ps, p.labs = []) (H : RelL h q β ps cs i B) : RelL h q β' ps cs i B :=
  RelL.keep _ _ _ _ (fun p hp l hl' => by rw [hl p hp] at hl'; cases hl') (fun _ _ => rfl) H
def noLabs : List PV → Bool
  | [] => true
  | p :: r => (match p.labs with | [] => true | _ => false) && noLabs r
theorem noLabs_iff : ∀ {ps : List PV}, noLabs ps = true → ∀ p ∈ ps, p.labs = []
  | [], _, p, hp => by cases hp
  | x :: r, h, p, hp => by
    simp only [noLabs, Bool.and_eq_true] at h
    rcases List.mem_cons.1 hp with rfl | hp
    · cases hx : p.labs with
      | nil => rfl
      | cons l r => rw [hx] at h; simp at h
    · exact noLabs_iff h.2 p hp
theorem noLabs_labsL {ps : List PV} (h : noLabs ps = true) : labsL ps = [] := by
  rw [List.eq_nil_iff_forall_not_mem]
  intro l hl
  obtain ⟨p, hp, hl⟩ := mem_labsL.1 hl
  rw [noLabs_iff h p hp] at hl; cases hl
theorem L_ldIA {x : Operand} {t n by_ : Nat} {cells vs : List PV} [ht : TI P t n true by_] (hx : evq S x = some (.iptr cells)) (hc : cells.take n = vs) (hn : Nat.beq vs.length n = true) (hn0 : n ≠ 0) (hl : noLabs vs = true) (hd : Nat.blt d N = true) :
    Local Γ ⟨some d, .load t x, ty, pos, af, g⟩ ⟨S, O⟩ ⟨[(d, ⟨.agg vs, false⟩)], []⟩ (ors x) [] [] := by
  intro F hs _ _
  refine opT_of_run fun a w ⟨ow, β, hsim⟩ => ?_
  obtain ⟨B, h1, h2⟩ := ev_rel hsim hx hs
  simp only [RelV] at h1
  obtain ⟨b, o, cs, u, fr, B', e1, e2, e3, rfl⟩ := h1
  have hn := Nat.eq_of_beq_eq_true hn
  obtain ⟨B1, g1, B2, g2⟩ := e3.take n
  rw [hc] at g1
  have hlen : o + vs.length ≤ cs.size := by
    rcases Nat.lt_or_ge cs.size o with hlt | hge
    · cases vs with
      | nil => exact absurd hn.symm hn0
      | cons p r =>
        simp only [RelL] at g1
        obtain ⟨c, _, _, q1, _⟩ := g1
        have := (Array.getElem?_eq_some_iff.1 q1.1).1
        omega
    · exact RelL.length _ _ _ _ hge g1
  refine ⟨.agg (cs.extract o (o + n)), w, by simp [execOp, e1, run_loadAgg (t := t) w e2 (show o + n ≤ cs.size by omega)], ow, β, ?_⟩
  refine hsim.put ((blt_iff _ _).1 hd) (O := B1) ?_ (fun b' hb => h2 _ (by rw [g2]; simp [hb]))
  simp only [RelV]
  exact ⟨_, rfl, by simp; omega, relL_nolab (noLabs_iff hl) (rel_extract hn g1)⟩

/-- A cell of an own block. -/
theorem L_ldP {x : Operand} {t n by_ l k : Nat} {cells : List PV} {dp bx : Bool} {c : PV} [ht : TI P t n false by_] (hx : evq S x = some (.ptr l k)) (ho : loq O l = some ⟨cells, dp, bx⟩) (hc : cells[k]? = some c) (hl : bx = true ∨ c.labs = []) (hd : Nat.blt d N = true) :
    Local Γ ⟨some d, .load t x, ty, pos, af, g⟩ ⟨S, O⟩ ⟨[(d, ⟨c, false⟩)], []⟩ (ors x) [l] [] := by
  intro F hs hlo _
  refine opT_of_run fun a w ⟨ow, β, hsim⟩ => ?_
  obtain ⟨B, h1, h2⟩ := ev_rel hsim hx hs
  simp only [RelV] at h1
  obtain ⟨Bo, o1, o2, hob⟩ := hsim.objs l _ (by rw [hlo l (by simp), ← loq_lo]; exact ho)
  rcases hob with ⟨_, e, _⟩ | ⟨b, cs, u, e1, e2, e3, e4⟩
  · simp at e; rw [e] at hc; simp at hc
  · obtain ⟨v, B1, g1, _, g3, g4⟩ := RelL.get _ _ _ _ e4 k c hc
    rw [Nat.zero_add] at g1
    refine ⟨v, w, by simp [execOp, h1.2 b e1, run_loadCell (t := t) w e3 g1], ow, β, ?_⟩
    refine hsim.put ((blt_iff _ _).1 hd) (O := B1) ?_ (fun b' hb => o1 _ (g4 b' hb))
    rcases hl with rfl | hl
    · exact g3
    · exact g3.nolab hl
/-- A struct out of an own block. -/
theorem L_ldPA {x : Operand} {t n by_ l k : Nat} {cells vs : List PV} {dp bx : Bool} [ht : TI P t n true by_] (hx : evq S x = some (.ptr l k)) (ho : loq O l = some ⟨cells, dp, bx⟩) (hc : (cells.drop k).take n = vs) (hn : Nat.beq vs.length n = true) (hn0 : n ≠ 0) (hl : bx = true ∨ noLabs vs = true) (hd : Nat.blt d N = true) :
    Local Γ ⟨some d, .load t x, ty, pos, af, g⟩ ⟨S, O⟩ ⟨[(d, ⟨.agg vs, false⟩)], []⟩ (ors x) [l] [] := by
  intro F hs hlo _
  refine opT_of_run fun a w ⟨ow, β, hsim⟩ => ?_
  obtain ⟨B, h1, h2⟩ := ev_rel hsim hx hs
  simp only [RelV] at h1
  have hn := Nat.eq_of_beq_eq_true hn
  obtain ⟨Bo, o1, o2, hob⟩ := hsim.objs l _ (by rw [hlo l (by simp), ← loq_lo]; exact ho)
  rcases hob with ⟨_, e, _⟩ | ⟨b, cs, u, e1, e2, e3, e4⟩
  · simp at e; rw [e] at hc; simp at hc; subst hc; simp at hn; exact absurd hn.symm hn0
  · have hk : k ≤ cells.length := by
      rcases Nat.lt_or_ge cells.length k with h | h
      · rw [List.drop_eq_nil_of_le (by omega)] at hc; simp at hc; subst hc; simp at hn; exact absurd hn.symm hn0
      · exact h
    obtain ⟨B2, g1, B1, g2⟩ := e4.drop k hk
    obtain ⟨B3, g3, B4, g4⟩ := g1.take n
    rw [hc, Nat.zero_add] at g3
    have hlen : k + vs.length ≤ cs.size := by
      cases vs with
      | nil => simp at hn; exact absurd hn.symm hn0
      | cons p r =>
        have g3' := g3
        simp only [RelL] at g3'
        obtain ⟨c, _, _, q1, _⟩ := g3'
        have := (Array.getElem?_eq_some_iff.1 q1.1).1
        exact RelL.length _ _ _ _ (by omega) g3
    refine ⟨.agg (cs.extract k (k + n)), w, by simp [execOp, h1.2 b e1, run_loadAgg (t := t) w e3 (show k + n ≤ cs.size by omega)], ow, β, ?_⟩
    refine hsim.put ((blt_iff _ _).1 hd) (O := B3) ?_ (fun b' hb => o1 _ (by rw [g2, g4]; simp [hb]))
    simp only [RelV]
    refine ⟨_, rfl, by simp; omega, rel_extract hn ?_⟩
    rcases hl with rfl | hl
    · exact g3
    · exact relL_nolab (noLabs_iff hl) g3

theorem run_indexAt {t e n by_ : Nat} {agg : Bool} [ht : SlT P t e] [hi : TI P e n agg by_] (w : World) {b off m cap i : Nat} {k : IntKind} (h : i < m) :
    (Instr.indexAt t (.slice (some ⟨b, off, none⟩) m cap) (.int k i)).run P w = .ok (.pointer (some ⟨b, off + i * n, none⟩)) w := by
  obtain ⟨⟨ii, h1, h2, _⟩, _⟩ := hi.ok
  simp [Instr.indexAt, asIntOf, run_underlying ht.ok, sizeOf, typeInfo, h1, h2, Addr.add_lit, h]

theorem flat_len {α : Type} {l : List α} {enc : α → List PV} {sz : Nat} (h : ∀ y, (enc y).length = sz) : (l.flatMap enc).length = l.length * sz := by
  induction l with
  | nil => simp
  | cons a r ih => simp [h, ih, Nat.succ_mul]; omega
theorem flat_split {α : Type} {l : List α} {enc : α → List PV} {sz m : Nat} {y : α} (h : ∀ y, (enc y).length = sz) (hl : l[m]? = some y) : (l.flatMap enc).drop (m * sz) = enc y ++ (l.drop (m + 1)).flatMap enc := by
  induction l generalizing m with
  | nil => simp at hl
  | cons a r ih =>
    cases m with
    | zero => simp at hl; subst hl; simp
    | succ m =>
      simp at hl
      have := ih hl
      simp only [List.flatMap_cons, List.drop_succ_cons]
      rw [List.drop_append, h a, List.drop_eq_nil_of_le (by rw [h a, Nat.succ_mul]; omega), show (m + 1) * sz - sz = m * sz by rw [Nat.succ_mul]; omega]
      simpa using this
theorem flat_get {α : Type} {l : List α} {enc : α → List PV} {sz m o : Nat} {y : α} {c : PV} (hl : l[m]? = some y) (ho : (enc y)[o]? = some c) (h : ∀ y, (enc y).length = sz) : (l.flatMap enc)[m * sz + o]? = some c := by
  have := flat_split h hl
  rw [← List.getElem?_drop, this, List.getElem?_append_left (List.getElem?_eq_some_iff.1 ho).1]
  exact ho
theorem flat_get0 {α : Type} {l : List α} {enc : α → List PV} {sz m : Nat} {y : α} {c : PV} (hl : l[m]? = some y) (ho : (enc y)[0]? = some c) (h : ∀ y, (enc y).length = sz) : (l.flatMap enc)[m * sz]? = some c := flat_get hl ho h

/-- An element of a slice that was handed in. -/
theorem L_ixS {α : Type} {x i : Operand} {t e n by_ m : Nat} {agg : Bool} {l : List α} {enc : α → List PV} {y : α} {k : IntKind} {j : Int} {len : Nat} [ht : SlT P t e] [hi : TI P e n agg by_] (hx : evq S x = some (.sl len (l.flatMap enc))) (hix : evq S i = some (.sc (.int k j))) (hj : j = (m : Nat)) (hlen : len = l.length)
    (hl : l[m]? = some y) (hsz : ∀ y, (enc y).length = n) (hd : Nat.blt d N = true) :
    Local Γ ⟨some d, .indexAddr t x i, ty, pos, af, g⟩ ⟨S, O⟩ ⟨[(d, ⟨.iptr (enc y), false⟩)], []⟩ (ors x ++ ors i) [] [] := by
  intro F hs _ _
  refine opT_of_run fun a w hsim => ?_
  have hiv := ev_sc hsim hix (fun k hk => hs k (by simp [hk]))
  obtain ⟨ow, β, hsim⟩ := hsim
  subst hj; subst hlen
  obtain ⟨B, h1, h2⟩ := ev_rel hsim hx (fun k hk => hs k (by simp [hk]))
  have hm := (List.getElem?_eq_some_iff.1 hl).1
  simp only [RelV] at h1
  rcases h1 with ⟨e, _⟩ | ⟨b, off, cap, cs, u, f, B', ⟨e1, _⟩, e2, e3, rfl⟩
  · omega
  · obtain ⟨B2, g1, B1, g2⟩ := e3.drop (m * n) (by rw [flat_len hsz]; exact Nat.mul_le_mul_right _ (by omega))
    rw [flat_split hsz hl] at g1
    obtain ⟨B3, B4, g3, _, g4⟩ := (RelL.append _ _ _ _ _).1 g1
    refine ⟨.pointer (some ⟨b, off + m * n, none⟩), w, by simp [execOp, e1, hiv, run_indexAt (t := t) (e := e) w hm], ow, β, ?_⟩
    refine hsim.put ((blt_iff _ _).1 hd) (O := b :: B3) (by simp only [RelV]; exact ⟨b, _, cs, u, f, B3, rfl, e2, g3, rfl⟩) (fun c hc => h2 c ?_)
    rcases List.mem_cons.1 hc with rfl | hc
    · simp
    · rw [g2, g4]; simp [hc]

/-- An element of an own row. -/
theorem L_ixR {x i : Operand} {t e sz n by_ m r : Nat} {agg : Bool} {k : IntKind} {j : Int} {ob : Ob} [ht : SlT P t e] [hi : TI P e sz agg by_] (hx : evq S x = some (.ref r sz 0 n)) (ho : loq O r = some ob) (hix : evq S i = some (.sc (.int k j))) (hj : j = (m : Nat)) (hm : m < n) (hd : Nat.blt d N = true) :
    Local Γ ⟨some d, .indexAddr t x i, ty, pos, af, g⟩ ⟨S, O⟩ ⟨[(d, ⟨.ptr r (m * sz), false⟩)], []⟩ (ors x ++ ors i) [r] [] := by
  intro F hs hlo _
  refine opT_of_run fun a w hsim => ?_
  have hiv := ev_sc hsim hix (fun k hk => hs k (by simp [hk]))
  obtain ⟨ow, β, hsim⟩ := hsim
  subst hj
  obtain ⟨B, h1, h2⟩ := ev_rel hsim hx (fun k hk => hs k (by simp [hk]))
  simp only [RelV] at h1
  obtain ⟨Bo, o1, o2, hob⟩ := hsim.objs r _ (by rw [hlo r (by simp), ← loq_lo]; exact ho)
  rcases hob with ⟨e1, _⟩ | ⟨b, cs, u, e1, e2, e3, e4⟩
  · have := (h1.2.1 e1).1; omega
  · obtain ⟨cap, cs', u', q1, q2, _⟩ := h1.2.2 b e1
    refine ⟨.pointer (some ⟨b, m * sz, none⟩), w, by simp [execOp, q1, hiv, run_indexAt (t := t) (e := e) w hm], ow, β, ?_⟩
    exact hsim.put ((blt_iff _ _).1 hd) (O := []) (by simp only [RelV]; exact ⟨trivial, fun b' hb => by rw [e1] at hb; cases hb; rfl⟩) (by simp)
end
end Go.Ev
