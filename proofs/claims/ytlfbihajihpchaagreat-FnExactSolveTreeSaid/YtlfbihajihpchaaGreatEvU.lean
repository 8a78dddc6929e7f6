/- The engine, part U: small helps of lifted walks. -/
import Derived.Test.YtlfbihajihpchaaGreatEvT
set_option linter.all false
namespace Go.Ev
theorem notT {x : Bool} (h : (!x) = true) : x = false := by simpa using h
theorem notF {x : Bool} (h : (!x) = false) : x = true := by simpa using h
theorem app63 {n m by_ : Nat} (h0 : 0 < by_) (h : (n + m) * by_ ≤ 140737488355328) : n + m ≤ 9223372036854775807 := by
  have := Nat.le_mul_of_pos_right (n + m) h0
  omega
theorem row_pos {α : Type} {l : List α} {enc : α → List PV} {j : Int} {y : α} {sz : Nat} {dp bx : Bool} (hl : idx l j = some y) (h : ∀ y, (enc y).length = sz) (h0 : 0 < sz) : Nat.blt 0 (Ob.mk (l.flatMap enc) dp bx).cells.length = true := by
  have := (idxS hl).2.2
  rw [blt_iff, flat_len h]
  exact Nat.mul_pos (by omega) h0
section
variable {P : Program} {N : Nat} {Γ : Ctx P N} {S : List (Nat × Slot)} {O : List (Nat × Option Ob)}
variable {d : Nat} {ty : TypeId} {pos : String} {af : Array Edge} {g : Option (Nat × Bool)}
theorem setI_len {α : Type} {l : List α} {j : Int} {y : α} : (setI l j y).length = l.length := List.length_set
theorem Ent.relen {k l s off n n' : Nat} {dp : Bool} (hk : lkq S k = some ⟨.ref l s off n, dp⟩) (hn : n = n') : Ent Γ ⟨S, O⟩ ⟨(k, ⟨.ref l s off n', dp⟩) :: S, O⟩ := by
  subst hn
  intro a w h
  refine Sim.congr (E := ⟨S, O⟩) (fun j => ?_) (fun _ => rfl) h
  simp only []
  rw [lk_cons]
  by_cases hj : k = j
  · subst hj; rw [if_pos rfl, lkq_lk hk]
  · rw [if_neg hj]
theorem flat_rep {α : Type} {enc : α → List PV} {z : α} {ps : List PV} (h : enc z = ps) (m : Nat) : (List.replicate m ()).flatMap (fun _ => ps) = (List.replicate m z).flatMap enc := by
  subst h
  induction m with
  | zero => rfl
  | succ m ih => simp [List.replicate_succ, ih]
theorem L_make2 {α : Type} {enc : α → List PV} {z : α} {t e sz by_ : Nat} {agg : Bool} {x y : Operand} {k k' : IntKind} {n n' : Int} {ps : List PV} [ht : SlT P t e] [hi : TI P e sz agg by_] [hz : ZT P e ps] (hx : evq S x = some (.sc (.int k n))) (hy : evq S y = some (.sc (.int k' n'))) (hnn : n = n') (hb : 0 ≤ n ∧ n.toNat * by_ ≤ 281474976710656)
    (hez : enc z = ps) (hby : 0 < by_) (hsz : sz ≠ 0) (hio : Γ.io d = none) (hd : Nat.blt d N = true) :
    Local Γ ⟨some d, .makeSlice t x y, ty, pos, af, g⟩ ⟨S, O⟩ ⟨[(d, ⟨.ref d sz 0 (List.replicate n.toNat z).length, false⟩)], [(d, some ⟨(List.replicate n.toNat z).flatMap enc, true, false⟩)]⟩ (ors x ++ ors y) [] [d] := by
  rw [← flat_rep hez, List.length_replicate]
  have := Nat.le_mul_of_pos_right n.toNat hby
  exact L_make hx hy (by omega) (by omega) hb.2 (by omega) hsz hio hd
end
end Go.Ev
namespace Go.Ev
/-- a value is given a name -/
def letO {α : Type} (x : α) : Option α := some x
theorem letS {α : Type} {e x : α} (h : letO e = some x) : e = x := Option.some.inj h
theorem letO_bind {α β : Type} (e : α) (f : α → Option β) : (letO e).bind f = f e := rfl
theorem setI_lenS {α : Type} {l x : List α} {j : Int} {y : α} (h : letO (setI l j y) = some x) : x.length = l.length := by
  rw [← letS h]; exact List.length_set
theorem row_stL {α : Type} {l x : List α} {enc : α → List PV} {j : Int} {y y' : α} {sz : Nat} {vs : List PV} (hx : letO (setI l j y') = some x) (hl : idx l j = some y) (h : ∀ y, (enc y).length = sz) (he : vs = enc y') : (l.flatMap enc).take (j.toNat * sz) ++ vs ++ (l.flatMap enc).drop (j.toNat * sz + sz) = x.flatMap enc := by
  rw [← letS hx]; exact row_st hl h he
theorem row_fldL {α : Type} {l x : List α} {enc : α → List PV} {j : Int} {y y' : α} {sz o n : Nat} {vs : List PV} (hx : letO (setI l j y') = some x) (hl : idx l j = some y) (h : ∀ y, (enc y).length = sz) (ho : o + n ≤ sz) (he : (enc y).take o ++ vs ++ (enc y).drop (o + n) = enc y') :
    (l.flatMap enc).take (j.toNat * sz + o) ++ vs ++ (l.flatMap enc).drop (j.toNat * sz + o + n) = x.flatMap enc := by
  rw [← letS hx]; exact row_fld hl h ho he
theorem flat_snocL {α : Type} {enc : α → List PV} {l x : List α} {y : α} (hx : letO (l ++ [y]) = some x) : l.flatMap enc ++ enc y = x.flatMap enc ∧ l.length + 1 = x.length := by
  rw [← letS hx]; exact flat_snoc
theorem flat_catL {α : Type} {enc : α → List PV} {l r x : List α} (hx : letO (l ++ r) = some x) : l.flatMap enc ++ r.flatMap enc = x.flatMap enc ∧ l.length + r.length = x.length := by
  rw [← letS hx]; exact flat_cat
section
variable {P : Program} {N : Nat} {Γ : Ctx P N} {S : List (Nat × Slot)} {O : List (Nat × Option Ob)}
variable {d : Nat} {ty : TypeId} {pos : String} {af : Array Edge} {g : Option (Nat × Bool)}
end
end Go.Ev
