/- The engine, part L: storing into an own block. -/
import Derived.Test.YtlfbihajihpchaaGreatEvK
set_option linter.all false
namespace Go.Ev
open Go.RowKit (Below)

section
variable {P : Program} {N : Nat} {Γ : Ctx P N} {S : List (Nat × Slot)} {O : List (Nat × Option Ob)} {ow : Nat → Own} {β : Nat → Option (Option Nat)} {F : Env} {a : Act} {w : World}
variable {d : Nat} {ty : TypeId} {pos : String} {af : Array Edge} {g : Option (Nat × Bool)}

theorem run_storeAt {t n by_ : Nat} {agg : Bool} [ht : TI P t n agg by_] (w : World) {b k : Nat} {cs : Array Value} {u : TypeId} {v : Value} (hb : w.heap[b]? = some (.cells cs u (0, 0))) (hv : v.cells.size = n) (hk : k + n ≤ cs.size) (h1 : ∀ c ∈ v.cells.toList, c.oneCell' = true) :
    (Instr.storeAt t (.pointer (some ⟨b, k, none⟩)) v).run P w = .ok () (w.setRow b (cs.toList.take k ++ v.cells.toList ++ cs.toList.drop (k + n)).toArray) := by
  obtain ⟨⟨i, e1, e2, _⟩, _⟩ := ht.ok
  have hs := run_storeCells_at P b k u v.cells.toList 0 cs w hb (by simp [hv]; exact hk) h1
  simp only [Nat.add_zero, Array.length_toList, hv] at hs
  simp [Instr.storeAt, Instr.sureAddr, storeVar, sizeOf, typeInfo, e1, e2, hv, hs]

theorem same_setRow (w : World) (b : Nat) (cs : Array Value) : Same w (w.setRow b cs) := ⟨rfl, rfl, rfl, by simp⟩

theorem relL_splice {h : Array Obj} {β : Nat → Option (Option Nat)} {cells vs : List PV} {cs : Array Value} {xs : List Value} {k n : Nat} {B Bp : List Nat} (H : RelL h true β cells cs 0 B) (Hv : RelL h true β vs xs.toArray 0 Bp) (hn : vs.length = n) (hx : xs.length = n) (hk : k + n ≤ cells.length) (hs : cells.length ≤ cs.size) :
    ∃ B1 B2 B3, B = B1 ++ (B2 ++ B3) ∧ RelL h true β (cells.take k ++ vs ++ cells.drop (k + n)) (cs.toList.take k ++ xs ++ cs.toList.drop (k + n)).toArray 0 (B1 ++ (Bp ++ B3)) := by
  have e : cells = cells.take k ++ ((cells.drop k).take n ++ cells.drop (k + n)) := by
    rw [← List.drop_drop, List.take_append_drop, List.take_append_drop]
  rw [e] at H
  obtain ⟨B1, B', h1, h2, rfl⟩ := (RelL.append _ _ _ _ _).1 H
  obtain ⟨B2, B3, h3, h4, rfl⟩ := (RelL.append _ _ _ _ _).1 h2
  refine ⟨B1, B2, B3, rfl, ?_⟩
  have l1 : (cells.take k).length = k := by simp; omega
  have l2 : ((cells.drop k).take n).length = n := by simp; omega
  rw [l1, l2, Nat.zero_add] at h4
  rw [List.append_assoc]
  have lt : (cs.toList.take k).length = k := by simp; omega
  refine (RelL.append _ _ _ _ _).2 ⟨B1, Bp ++ B3, RelL.shift _ _ _ _ _ _ (fun j hj => ?_) h1, (RelL.append _ _ _ _ _).2 ⟨Bp, B3, RelL.shift _ _ _ _ _ _ (fun j hj => ?_) Hv, RelL.shift _ _ _ _ _ _ (fun j hj => ?_) h4, rfl⟩, rfl⟩
  · rw [l1] at hj
    simp only [Nat.zero_add, List.getElem?_toArray]
    rw [List.append_assoc, List.getElem?_append_left (by omega), List.getElem?_take, if_pos hj]
    simp
  · rw [hn] at hj
    rw [l1]
    simp only [Nat.zero_add, List.getElem?_toArray]
    rw [List.append_assoc, List.getElem?_append_right (by omega), lt, Nat.add_sub_cancel_left, List.getElem?_append_left (by omega)]
  · rw [l1, hn]
    simp only [Nat.zero_add, List.getElem?_toArray]
    rw [List.append_assoc, List.getElem?_append_right (by omega), lt, List.getElem?_append_right (by omega), hx, List.getElem?_drop]
    rw [show k + n + (k + n + j - k - n) = k + n + j by omega]
    simp

theorem store_core (hsim : SimG Γ ow β F a w) {t n by_ l k b : Nat} {agg dp bx dp' : Bool} [ht : TI P t n agg by_] {cells : List PV} {cs : Array Value} {u : TypeId} {Bo : List Nat} (ho1 : ∀ c ∈ Bo, Im Γ ow w c) (ho2 : dp = true → Bo.Nodup ∧ ∀ c ∈ Bo, ow c = .obj l ∧ Free w c)
    (hβ : β l = some (some b)) (hb : w.heap[b]? = some (.cells cs u (0, 0))) (hr : RelL w.heap true (if bx then β else dead) cells cs 0 Bo)
    {p : PV} {v : Value} {Bp : List Nat} (hp : RelL w.heap true (if bx then β else dead) (pcells p) v.cells 0 Bp) (hpi : ∀ c ∈ Bp, Im Γ ow w c) (hv1 : v.cells.size = (pcells p).length) (hv2 : ∀ c ∈ v.cells.toList, c.oneCell' = true) (hlen : (pcells p).length = n) (hk : k + n ≤ cells.length)
    (ks : List Nat) (hdp : dp' = true → dp = true ∧ Bp.Nodup ∧ ∀ c ∈ Bp, Free w c ∧ Γ.nw c ∧ ∃ s ∈ ks, ow c = .slot s) :
    ∃ w' ow', (Instr.storeAt t (.pointer (some ⟨b, k, none⟩)) v).run P w = .ok () w' ∧ SimG Γ ow' β (F.app ⟨ks.map (fun j => (j, ⟨.any, false⟩)), [(l, some ⟨cells.take k ++ pcells p ++ cells.drop (k + n), dp', bx⟩)]⟩) a w' := by
  have hsz : cells.length ≤ cs.size := by have := RelL.length _ _ _ _ (Nat.zero_le _) hr; omega
  let cs' : Array Value := (cs.toList.take k ++ v.cells.toList ++ cs.toList.drop (k + n)).toArray
  have hblt : b < w.heap.size := hsim.block_lt hβ
  have hrow : (w.setRow b cs').heap[b]? = some (.cells cs' u (0, 0)) := setRow_heap w b cs cs' u (0, 0) hb
  have hother : ∀ c, c < w.heap.size → c ≠ b → (w.setRow b cs').heap[c]? = w.heap[c]? := fun c _ h => setRow_other w b c cs' h
  have hsize : cs'.size = cs.size := by simp [cs', hv1, hlen]; omega
  obtain ⟨B1, B2, B3, rfl, hnew⟩ := relL_splice (xs := v.cells.toList) hr (by simpa using hp) hlen (by simp [hv1, hlen]) hk hsz
  have hne : ∀ c, Im Γ ow w c → c ≠ b := by rintro c ⟨_, _, h3⟩ rfl; exact h3 l (hsim.lab_ne hβ)
  have hin : ∀ c ∈ B1 ++ (Bp ++ B3), Im Γ ow w c := by
    intro c hc
    simp only [List.mem_append] at hc
    rcases hc with hc | hc | hc
    · exact ho1 c (by simp [hc])
    · exact hpi c hc
    · exact ho1 c (by simp [hc])
  have hshape : ∀ c, c < w.heap.size → ShapeOk w.heap (w.setRow b cs').heap c := by
    intro c hc x y hxy
    by_cases hcb : c = b
    · subst hcb; rw [hb] at hxy; cases hxy; exact ⟨cs', hrow, hsize⟩
    · exact ⟨x, by rw [hother c hc hcb]; exact hxy, rfl⟩
  have hnew' : RelL (w.setRow b cs').heap true (if bx then β else dead) (cells.take k ++ pcells p ++ cells.drop (k + n)) cs' 0 (B1 ++ (Bp ++ B3)) := by
    refine RelL.keep _ _ _ _ (fun q _ m _ o hm => ⟨hm, fun c hc => ?_⟩) (fun c hc => hother c (hin c hc).1 (hne c (hin c hc))) hnew
    subst hc
    refine hshape c ?_
    cases bx with
    | false => cases hm
    | true => exact hsim.block_lt hm
  obtain ⟨ow', h'⟩ := hsim.rewrite (same_setRow w b cs') hβ hother hb hrow hsize ks ⟨cells.take k ++ pcells p ++ cells.drop (k + n), dp', bx⟩ (O := B1 ++ (Bp ++ B3)) hnew' hin (fun h => by
    obtain ⟨d1, d2, d3⟩ := hdp h
    obtain ⟨o1, o2⟩ := ho2 d1
    refine ⟨?_, fun c hc => ?_⟩
    · rw [List.nodup_append] at o1 ⊢
      obtain ⟨n1, n2, n3⟩ := o1
      rw [List.nodup_append] at n2
      obtain ⟨n4, n5, n6⟩ := n2
      have hdis : ∀ c ∈ Bp, ∀ c' ∈ B1 ++ (B2 ++ B3), c ≠ c' := by
        intro c hc c' hc' e
        subst e
        obtain ⟨_, _, s, _, e1⟩ := d3 c hc
        rw [(o2 c hc').1] at e1; cases e1
      refine ⟨n1, ?_, ?_⟩
      · rw [List.nodup_append]
        exact ⟨d2, n5, fun c hc c' hc' => hdis c hc c' (by simp [hc'])⟩
      · intro c hc c' hc' e
        rcases List.mem_append.1 hc' with h | h
        · exact hdis c' h c (by simp [hc]) e.symm
        · exact n3 c hc c' (by simp [h]) e
    · simp only [List.mem_append] at hc
      have hown : ∀ c ∈ B1 ++ (B2 ++ B3), Free w c ∧ Γ.nw c ∧ ((∃ s ∈ ks, ow c = .slot s) ∨ ow c = .obj l ∨ ow c = .none) := by
        intro c hc
        obtain ⟨e1, e2⟩ := o2 c hc
        refine ⟨e2, ?_, .inr (.inl e1)⟩
        rcases (hsim.own c (by rw [e1]; simp)).2 with h | ⟨m, h, _⟩
        · exact h
        · rw [e1] at h; cases h
      rcases hc with hc | hc | hc
      · exact hown c (by simp [hc])
      · obtain ⟨e1, e2, s, e3, e4⟩ := d3 c hc
        exact ⟨e1, e2, .inl ⟨s, e3, e4⟩⟩
      · exact hown c (by simp [hc]))
  exact ⟨_, ow', run_storeAt w hb (hv1.trans hlen) (by omega) hv2, h'⟩

/-- A store; what is stored is shared from then on. -/
theorem L_st {x y : Operand} {t n by_ l k : Nat} {agg dp bx : Bool} {cells cells' : List PV} {p : PV} [ht : TI P t n agg by_] (hx : evq S x = some (.ptr l k)) (ho : loq O l = some ⟨cells, dp, bx⟩) (hy : evq S y = some p) (hst : stB O bx p = true)
    (hlen : Nat.beq (pcells p).length n = true) (hn0 : n ≠ 0) (hk : Nat.ble (k + n) cells.length = true) (hc : cells.take k ++ pcells p ++ cells.drop (k + n) = cells') :
    Local Γ ⟨none, .store t x y, ty, pos, af, g⟩ ⟨S, O⟩ ⟨[], [(l, some ⟨cells', dp && isSc p, bx⟩)]⟩ (ors x ++ ors y) (l :: labsOf p) [] := by
  intro F hs hlo _
  refine opT_of_skip fun a w ⟨ow, β, hsim⟩ => ?_
  obtain ⟨B, h1, h2⟩ := ev_rel hsim hx (fun k hk => hs k (by simp [hk]))
  obtain ⟨Bp, g1, g2⟩ := ev_rel hsim hy (fun k hk => hs k (by simp [hk]))
  simp only [RelV] at h1
  obtain ⟨r1, r2, r3⟩ := cells_rel (O := O) hsim g1 hst (fun m hm => hlo m (by simp [hm]))
  obtain ⟨Bo, o1, o2, hob⟩ := hsim.objs l _ (by rw [hlo l (by simp), ← loq_lo]; exact ho)
  have hlen := Nat.eq_of_beq_eq_true hlen
  have hk := Nat.le_of_ble_eq_true hk
  rcases hob with ⟨_, e, _⟩ | ⟨b, cs, u, e1, e2, e3, e4⟩
  · simp at e; rw [e] at hk; simp at hk; omega
  · obtain ⟨w', ow', q1, q2⟩ := store_core (t := t) (p := p) (dp' := dp && isSc p) hsim o1 o2 e1 e3 e4 r1 g2 r2 r3 hlen hk [] (fun h => by
      simp only [Bool.and_eq_true] at h
      rw [isSc_nil h.2 g1]
      exact ⟨h.1, by simp, by simp⟩)
    subst hc
    refine ⟨w', by simp [execOp, h1.2 b e1, q1], ow', β, ?_⟩
    exact q2
/-- A store that takes over a slot's value with all that is its own. -/
theorem L_stT {x : Operand} {t n by_ l k s : Nat} {agg dp bx : Bool} {cells cells' : List PV} {p : PV} [ht : TI P t n agg by_] (hx : evq S x = some (.ptr l k)) (ho : loq O l = some ⟨cells, dp, bx⟩) (hy : lkq S s = some ⟨p, true⟩) (hst : stB O bx p = true) (hl : p.labs = [])
    (hlen : Nat.beq (pcells p).length n = true) (hn0 : n ≠ 0) (hk : Nat.ble (k + n) cells.length = true) (hc : cells.take k ++ pcells p ++ cells.drop (k + n) = cells') :
    Local Γ ⟨none, .store t x (.tmp s), ty, pos, af, g⟩ ⟨S, O⟩ ⟨[(s, ⟨.any, false⟩)], [(l, some ⟨cells', dp, bx⟩)]⟩ (ors x ++ [s]) [l] [] := by
  intro F hs hlo _
  refine opT_of_skip fun a w ⟨ow, β, hsim⟩ => ?_
  obtain ⟨B, h1, h2⟩ := ev_rel hsim hx (fun k hk => hs k (by simp [hk]))
  obtain ⟨Bp, g1, g2, g3⟩ := hsim.slots s
  rw [(hs s (by simp)).trans (lkq_lk hy)] at g1 g3
  simp only [RelV] at h1
  obtain ⟨r1, r2, r3⟩ := cells_rel (O := O) hsim g1 hst (by simp [labsOf, hl])
  obtain ⟨Bo, o1, o2, hob⟩ := hsim.objs l _ (by rw [hlo l (by simp), ← loq_lo]; exact ho)
  have hlen := Nat.eq_of_beq_eq_true hlen
  have hk := Nat.le_of_ble_eq_true hk
  rcases hob with ⟨_, e, _⟩ | ⟨b, cs, u, e1, e2, e3, e4⟩
  · simp at e; rw [e] at hk; simp at hk; omega
  · obtain ⟨w', ow', q1, q2⟩ := store_core (t := t) (p := p) (dp' := dp) hsim o1 o2 e1 e3 e4 r1 g2 r2 r3 hlen hk [s] (fun h => by
      refine ⟨h, (g3 rfl).1, fun c hc => ?_⟩
      obtain ⟨f1, f2⟩ := (g3 rfl).2 c hc
      refine ⟨f2, ?_, s, by simp, f1⟩
      rcases (hsim.own c (by rw [f1]; simp)).2 with h | ⟨m, h, _⟩
      · exact h
      · rw [f1] at h; cases h)
    subst hc
    have ev : a.eval (.tmp s) = a.tmps.getD s undef := rfl
    refine ⟨w', by simp only [execOp, h1.2 b e1, ev, Sem.run_bind, q1, Result.andThen_ok]; rfl, ow', β, ?_⟩
    exact q2

theorem splice_whole {cells vs : List PV} {n : Nat} (h : Nat.beq cells.length n = true) : cells.take 0 ++ vs ++ cells.drop (0 + n) = vs := by
  rw [Nat.zero_add, List.drop_eq_nil_of_le (by rw [Nat.eq_of_beq_eq_true h]; exact Nat.le_refl _)]; simp
/-- One element of a row is written. -/
theorem splice_flat {α : Type} {l : List α} {enc : α → List PV} {sz m : Nat} {y : α} (hm : m < l.length) (h : ∀ y, (enc y).length = sz) : (l.flatMap enc).take (m * sz) ++ enc y ++ (l.flatMap enc).drop (m * sz + sz) = (l.set m y).flatMap enc := by
  induction l generalizing m with
  | nil => simp at hm
  | cons x r ih =>
    cases m with
    | zero => simp [List.drop_append, h x, List.drop_eq_nil_of_le]
    | succ m =>
      have := ih (m := m) (by simpa using hm)
      simp only [List.set_cons_succ, List.flatMap_cons]
      rw [← this, List.take_append, List.drop_append, h x, List.take_of_length_le (by rw [h x, Nat.succ_mul]; omega), List.drop_eq_nil_of_le (by rw [h x, Nat.succ_mul]; omega),
        show (m + 1) * sz - sz = m * sz by rw [Nat.succ_mul]; omega, show (m + 1) * sz + sz - sz = m * sz + sz by rw [Nat.succ_mul]; omega]
      simp [List.append_assoc]
end
end Go.Ev
