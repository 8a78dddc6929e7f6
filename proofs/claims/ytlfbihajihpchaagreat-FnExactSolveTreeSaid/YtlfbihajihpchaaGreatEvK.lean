/- The engine, part K: more blocks: taking over, made slices, slice literals, stores. -/
import Derived.Test.YtlfbihajihpchaaGreatEvJ
set_option linter.all false
namespace Go.Ev
open Go.RowKit (Below)

section
variable {P : Program} {N : Nat} {Γ : Ctx P N} {S : List (Nat × Slot)} {O : List (Nat × Option Ob)} {ow : Nat → Own} {β : Nat → Option (Option Nat)} {F : Env} {a : Act} {w : World}
variable {d : Nat} {ty : TypeId} {pos : String} {af : Array Edge} {g : Option (Nat × Bool)}

/-- A new variable takes over a slot's value with all that is its own. -/
theorem L_boxT {e s : Nat} {p : PV} (hx : lkq S s = some ⟨p, true⟩) (hst : stB O false p = true) (hl : p.labs = []) (hio : Γ.io d = none) (hd : Nat.blt d N = true) :
    Local Γ ⟨some d, .box e (.tmp s), ty, pos, af, g⟩ ⟨S, O⟩ ⟨[(d, ⟨.ptr d 0, false⟩), (s, ⟨.any, false⟩)], [(d, some ⟨pcells p, true, false⟩)]⟩ [s] [] [d] := by
  intro F hs hlo hnl
  refine opT_of_run fun a w ⟨ow, β, hsim⟩ => ?_
  obtain ⟨B, h1, h2, h3⟩ := hsim.slots s
  rw [(hs s (by simp)).trans (lkq_lk hx)] at h1 h3
  obtain ⟨r1, r2, r3⟩ := cells_rel (O := O) hsim h1 hst (by simp [labsOf, hl])
  refine ⟨.pointer (some ⟨w.heap.size, 0, none⟩), w.alloc (.cells (a.tmps.getD s undef).cells e), ?_, ?_⟩
  · simp [execOp, Instr.box, newVar, newRow, Act.eval]
  · refine hsim.layPut (same_alloc w _) (b0 := w.heap.size) (by simp) (fun b hb _ => alloc_old w _ hb) (alloc_new w _) (hnl d (by simp)) hio [s] [] (.inl (Nat.le_refl _)) (.inl hsim.kept.size) ⟨pcells p, true, false⟩ (B := B) ?_ (by simp) h2 ?_ ((blt_iff _ _).1 hd) (fun β' hβ => ?_)
    · exact RelL.keep _ _ _ _ (fun q _ l _ o ho => by cases ho) (fun b hb => alloc_old w _ (h2 b hb).1) r1
    · intro _
      refine ⟨(h3 rfl).1, fun b hb => ⟨((h3 rfl).2 b hb).2, ?_, .inl ⟨s, by simp, ((h3 rfl).2 b hb).1⟩⟩⟩
      have e1 := ((h3 rfl).2 b hb).1
      rcases (hsim.own b (by rw [e1]; simp)).2 with h | ⟨l, h, _⟩
      · exact h
      · rw [e1] at h; cases h
    · simp only [RelV]; exact ⟨trivial, fun b hb => by rw [hβ] at hb; cases hb; rfl⟩

theorem madeCells_flat (z : Array Value) (n : Nat) (hz : z.size ≠ 0) : (madeCells z (n * z.size)).toList = (List.replicate n ()).flatMap fun _ => z.toList := by
  apply List.ext_getElem?
  intro k
  have hlen : ((List.replicate n ()).flatMap fun _ => z.toList).length = n * z.size := by
    induction n with
    | zero => simp
    | succ n ih => simp [List.replicate_succ, ih, Nat.succ_mul]; omega
  by_cases hk : k < n * z.size
  · have e1 : (madeCells z (n * z.size)).toList[k]? = some (z[k % z.size]!) := by
      simp [madeCells, hk]
    have hm : k % z.size < z.size := Nat.mod_lt _ (by omega)
    rw [e1]
    clear e1 hlen
    induction n generalizing k with
    | zero => simp at hk
    | succ n ih =>
      simp only [List.replicate_succ, List.flatMap_cons]
      by_cases hlt : k < z.size
      · rw [List.getElem?_append_left (by simpa using hlt), Nat.mod_eq_of_lt hlt]
        simp [hlt]
      · rw [List.getElem?_append_right (by simp; omega)]
        have := ih (k - z.size) (by rw [Nat.succ_mul] at hk; omega) (Nat.mod_lt _ (by omega))
        rw [show k % z.size = (k - z.size) % z.size from Nat.mod_eq_sub_mod (by omega)]
        simpa using this
  · rw [List.getElem?_eq_none (by simp [madeCells]; omega), List.getElem?_eq_none (by omega)]

theorem L_make {t e sz by_ m : Nat} {agg : Bool} {x y : Operand} {k k' : IntKind} {n n' : Int} {ps : List PV} [ht : SlT P t e] [hi : TI P e sz agg by_] [hz : ZT P e ps] (hx : evq S x = some (.sc (.int k n))) (hy : evq S y = some (.sc (.int k' n'))) (hn : n = (m : Nat)) (hn' : n' = (m : Nat))
    (hb : m * by_ ≤ 281474976710656) (hm : m ≤ 9223372036854775807) (hsz : sz ≠ 0) (hio : Γ.io d = none) (hd : Nat.blt d N = true) :
    Local Γ ⟨some d, .makeSlice t x y, ty, pos, af, g⟩ ⟨S, O⟩ ⟨[(d, ⟨.ref d sz 0 m, false⟩)], [(d, some ⟨(List.replicate m ()).flatMap (fun _ => ps), true, false⟩)]⟩ (ors x ++ ors y) [] [d] := by
  intro F hs _ hnl
  refine opT_of_run fun a w hsim => ?_
  have e1 := ev_sc hsim hx (fun k hk => hs k (by simp [hk]))
  have e2 := ev_sc hsim hy (fun k hk => hs k (by simp [hk]))
  obtain ⟨ow, β, hsim⟩ := hsim
  subst hn; subst hn'
  obtain ⟨i, z, h1, h2, h3, h4, rfl⟩ := hz.ok
  obtain ⟨⟨i', g1, g2, g3⟩, _⟩ := hi.ok
  rw [h1] at g1; cases g1
  have hb' : (i.bytes : Int) * (m : Int) ≤ 281474976710656 := by
    rw [g3]
    have h : ((m * by_ : Nat) : Int) ≤ 281474976710656 := by omega
    rw [Int.natCast_mul, Int.mul_comm] at h; exact h
  have hr := run_make (P := P) w t e i z ht.ok h1 h2 k k' (m : Int) (m : Int) (by omega) (Int.le_refl _) hb' (by omega)
  simp only [Int.toNat_natCast] at hr
  refine ⟨_, _, by simp only [execOp, e1, e2, Sem.run_bind, hr, Result.andThen_ok]; rfl, ?_⟩
  have hcs : (madeCells z.cells (m * i.size)).toList = ((List.replicate m ()).flatMap fun _ => z.cells.toList) := by rw [← h3]; exact madeCells_flat _ _ (by rw [h3, g2]; exact hsz)
  refine hsim.layPut (same_alloc w _) (b0 := w.heap.size) (by simp) (fun b hb _ => alloc_old w _ hb) (alloc_new w _) (hnl d (by simp)) hio [] [] (.inl (Nat.le_refl _)) (.inl hsim.kept.size) ⟨_, true, false⟩ (B := []) ?_ (by simp) (by simp) (by simp) ((blt_iff _ _).1 hd) (fun β' hβ => ?_)
  · have : ((List.replicate m ()).flatMap fun _ => z.cells.toList.map PV.sc) = ((List.replicate m ()).flatMap fun _ => z.cells.toList).map PV.sc := by rw [List.map_flatMap]
    simp only [this, ← hcs]
    refine relL_sc _ _ _ (fun k hk => by simp) (fun v hv => ?_)
    rw [hcs] at hv
    obtain ⟨_, _, hv⟩ := List.mem_flatMap.1 hv
    exact List.all_eq_true.1 h4 v hv
  · simp only [RelV]
    refine ⟨trivial, fun h => by rw [hβ] at h; simp at h, fun b hb => ?_⟩
    rw [hβ] at hb; cases hb
    refine ⟨m, madeCells z.cells (m * i.size), e, by simp, alloc_new w _, by simp [size_madeCells, g2], Nat.le_refl _⟩

theorem L_bs0 {t e sz by_ : Nat} {agg : Bool} [ht : SlT P t e] [hi : TI P e sz agg by_] (hio : Γ.io d = none) (hd : Nat.blt d N = true) :
    Local Γ ⟨some d, .buildSlice t 0 #[], ty, pos, af, g⟩ ⟨S, O⟩ ⟨[(d, ⟨.ref d sz 0 0, false⟩)], [(d, some ⟨[], true, false⟩)]⟩ [] [] [d] := by
  intro F hs _ hnl
  refine opT_of_run fun a w ⟨ow, β, hsim⟩ => ?_
  obtain ⟨⟨i', g1, g2, g3⟩, _⟩ := hi.ok
  refine ⟨.slice (some ⟨w.heap.size, 0, none⟩) 0 0, w.alloc (.cells #[] e), ?_, ?_⟩
  · simp [execOp, Instr.buildSlice, run_underlying ht.ok, sizeOf, typeInfo, g1, Instr.fill, newRow, Array.range_zero']
  refine hsim.layPut (same_alloc w _) (b0 := w.heap.size) (by simp) (fun b hb _ => alloc_old w _ hb) (alloc_new w _) (hnl d (by simp)) hio [] [] (.inl (Nat.le_refl _)) (.inl hsim.kept.size) ⟨[], true, false⟩ (B := []) (by simp [RelL]) (by simp) (by simp) (by simp) ((blt_iff _ _).1 hd) (fun β' hβ => ?_)
  simp only [RelV]
  refine ⟨trivial, fun h => by rw [hβ] at h; simp at h, fun b hb => ?_⟩
  rw [hβ] at hb; cases hb
  exact ⟨0, #[], e, by simp, alloc_new w _, by simp, Nat.le_refl _⟩

theorem run_bs1 {t e sz by_ : Nat} {agg : Bool} {ps : List PV} [ht : SlT P t e] [hi : TI P e sz agg by_] [hz : ZT P e ps] (w : World) (v : Value) (hv : v.cells.size = sz) (hsz : sz ≠ 0) (hs2 : sz ≤ 1000) :
    (Instr.buildSlice t 1 #[(0, v)]).run P w = .ok (.slice (some ⟨w.heap.size, 0, none⟩) 1 1) (w.alloc (.cells v.cells e)) := by
  obtain ⟨i, z, h1, h2, h3, h4, _⟩ := hz.ok
  obtain ⟨⟨i', g1, g2, g3⟩, _⟩ := hi.ok
  rw [h1] at g1; cases g1
  refine run_buildSlice w t e 1 _ v.cells i z ht.ok h1 h2 (by rw [g2]; omega) (by rw [g2]; omega) ?_
  have := Go.Great.fill_whole (s := i.size) (by omega) [v] ((Array.range (1 * i.size)).map (z.cells[· % z.cells.size]!)) (by simp [hv, g2]) (by simp)
  simpa using this

/-- A slice literal of one plain element. -/
theorem L_bs1 {t e sz by_ : Nat} {agg : Bool} {ps : List PV} {x : Operand} {p : PV} [ht : SlT P t e] [hi : TI P e sz agg by_] [hz : ZT P e ps] (hx : evq S x = some p) (hst : stB O false p = true) (hsc : isSc p = true) (hl : p.labs = []) (hlen : Nat.beq (pcells p).length sz = true) (hsz : Nat.blt 0 sz = true) (hs2 : Nat.ble sz 1000 = true) (hd : Nat.blt d N = true) :
    Local Γ ⟨some d, .buildSlice t 1 #[(0, x)], ty, pos, af, g⟩ ⟨S, O⟩ ⟨[(d, ⟨.sl 1 (pcells p), true⟩)], []⟩ (ors x) [] [] := by
  intro F hs _ _
  refine opT_of_run fun a w ⟨ow, β, hsim⟩ => ?_
  obtain ⟨B, h1, h2⟩ := ev_rel hsim hx hs
  obtain ⟨r1, r2, r3⟩ := cells_rel (O := O) hsim h1 hst (by simp [labsOf, hl])
  have hB := isSc_nil hsc h1
  subst hB
  have hlen := Nat.eq_of_beq_eq_true hlen
  have hw : Below w.heap.size w (w.alloc (.cells (a.eval x).cells e)) := (Below.refl _ w).alloc (Nat.le_refl _) _
  refine ⟨_, _, by simp only [execOp, List.map_toArray, List.map_cons, List.map_nil]; rw [Sem.run_bind, run_bs1 (sz := sz) w _ (r2.trans hlen) (by have := (blt_iff _ _).1 hsz; omega) (Nat.le_of_ble_eq_true hs2)]; rfl, ?_⟩
  refine ⟨_, β, (hsim.grow hw).putDeep ((blt_iff _ _).1 hd) (O := [w.heap.size]) ?_ ?_ (by simp) ?_ ?_⟩
  · simp only [RelV]
    exact .inr ⟨w.heap.size, 0, 1, (a.eval x).cells, e, (0, 0), [], ⟨rfl, Nat.le_refl _⟩, alloc_new w _, RelL.keep _ _ _ _ (fun q _ l _ o ho => by cases ho) (by simp) r1, rfl⟩
  · intro b hb; simp at hb; subst hb
    exact ⟨by simp, .inr (.inl (.inl hsim.kept.size)), fun l e => by have := (hsim.own _ (by rw [e]; simp)).1; omega⟩
  · intro b hb; simp at hb; subst hb
    exact ⟨⟨_, _, alloc_new w _⟩, .inl (.inl hsim.kept.size)⟩
  · intro b hb; simp at hb; subst hb
    cases hx : ow w.heap.size with
    | none => exact .inl rfl
    | _ => have := (hsim.own _ (by rw [hx]; simp)).1; omega
/-- A slice literal of one element that takes over a slot's value with all that is its own. -/
theorem L_bs1T {t e sz by_ s : Nat} {agg : Bool} {ps : List PV} {p : PV} [ht : SlT P t e] [hi : TI P e sz agg by_] [hz : ZT P e ps] (hx : lkq S s = some ⟨p, true⟩) (hst : stB O false p = true) (hl : p.labs = []) (hlen : Nat.beq (pcells p).length sz = true) (hsz : Nat.blt 0 sz = true) (hs2 : Nat.ble sz 1000 = true) (hne : Nat.beq d s = false) (hd : Nat.blt d N = true) :
    Local Γ ⟨some d, .buildSlice t 1 #[(0, .tmp s)], ty, pos, af, g⟩ ⟨S, O⟩ ⟨[(d, ⟨.sl 1 (pcells p), true⟩), (s, ⟨.any, false⟩)], []⟩ [s] [] [] := by
  intro F hs _ _
  refine opT_of_run fun a w ⟨ow, β, hsim⟩ => ?_
  have hlk : lk F.s s = ⟨p, true⟩ := (hs s (by simp)).trans (lkq_lk hx)
  have hlen := Nat.eq_of_beq_eq_true hlen
  have hds : d ≠ s := fun e => by rw [beq_eq] at hne; simp at hne; exact hne e
  have hdN := (blt_iff _ _).1 hd
  -- the slot d takes the value first
  obtain ⟨ow1, hs1⟩ := hsim.take hdN hds hlk
  obtain ⟨B, h1, h2, h3⟩ := hs1.slots d
  have el : lk ((F.app ⟨[(d, ⟨p, true⟩), (s, ⟨.any, false⟩)], []⟩).s) d = ⟨p, true⟩ := by simp [Env.app, lk_cons]
  have ev : (a.put (some d) (a.tmps.getD s undef)).tmps.getD d undef = a.tmps.getD s undef := by
    simp only [Act.put]; exact getD_put_same (by rw [hsim.size]; exact hdN)
  rw [el] at h1 h3
  rw [ev] at h1
  obtain ⟨r1, r2, r3⟩ := cells_rel (O := O) hs1 h1 hst (by simp [labsOf, hl])
  have hw : Below w.heap.size w (w.alloc (.cells (a.tmps.getD s undef).cells e)) := (Below.refl _ w).alloc (Nat.le_refl _) _
  refine ⟨_, _, by simp only [execOp, List.map_toArray, List.map_cons, List.map_nil, Act.eval]; rw [Sem.run_bind, run_bs1 (sz := sz) w _ (r2.trans hlen) (by have := (blt_iff _ _).1 hsz; omega) (Nat.le_of_ble_eq_true hs2)]; rfl, ?_⟩
  have hfin := (hs1.grow hw).putDeep (d := d) hdN (v := .sl 1 (pcells p)) (c := .slice (some ⟨w.heap.size, 0, none⟩) 1 1) (O := w.heap.size :: B) (by
      simp only [RelV]
      exact .inr ⟨w.heap.size, 0, 1, _, e, (0, 0), B, ⟨rfl, Nat.le_refl _⟩, alloc_new w _, RelL.keep _ _ _ _ (fun q _ l _ o ho => by cases ho) (fun b hb => alloc_old w _ (h2 b hb).1) r1, rfl⟩) (by
      intro b hb
      rcases List.mem_cons.1 hb with rfl | hb
      · exact ⟨by simp, .inr (.inl (.inl hsim.kept.size)), fun l e => by have := (hs1.own _ (by rw [e]; simp)).1; omega⟩
      · obtain ⟨q1, q2, q3⟩ := h2 b hb
        exact ⟨by simp; omega, q2, q3⟩) (by
      refine List.nodup_cons.2 ⟨fun hb => by have := (h2 _ hb).1; omega, (h3 rfl).1⟩) (by
      intro b hb
      rcases List.mem_cons.1 hb with rfl | hb
      · exact ⟨⟨_, _, alloc_new w _⟩, .inl (.inl hsim.kept.size)⟩
      · obtain ⟨q1, cs, t, q2⟩ := (h3 rfl).2 b hb
        refine ⟨⟨cs, t, by rw [alloc_old w _ (h2 b hb).1]; exact q2⟩, ?_⟩
        rcases (hs1.own b (by rw [q1]; simp)).2 with h | ⟨l, h, _⟩
        · exact h
        · rw [q1] at h; cases h) (by
      intro b hb
      rcases List.mem_cons.1 hb with rfl | hb
      · cases hx : ow1 w.heap.size with
        | none => exact .inl rfl
        | _ => have := (hs1.own _ (by rw [hx]; simp)).1; omega
      · exact .inr ((h3 rfl).2 b hb).1)
  refine Sim.congr (fun k => ?_) (fun l => ?_) ⟨_, _, (by
    have e : (a.put (some d) (a.tmps.getD s undef)).put (some d) (.slice (some ⟨w.heap.size, 0, none⟩) 1 1) = a.put (some d) (.slice (some ⟨w.heap.size, 0, none⟩) 1 1) := by
      simp [Act.put]
    rw [e] at hfin; exact hfin)⟩
  · simp only [Env.app, List.cons_append, List.nil_append, lk_cons]
    by_cases h : d = k
    · simp [h]
    · simp [h]
  · rfl
end
end Go.Ev
