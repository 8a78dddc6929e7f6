/- The engine, part P: ends of walks, in short. -/
import Derived.Test.YtbfjidhekfnfjaaEvO
set_option linter.all false
namespace Go.Ev
open Go.RowKit (Below)
section
variable {P : Program} {N : Nat} {Γ : Ctx P N} {S : List (Nat × Slot)} {O : List (Nat × Option Ob)}
/-- a struct in a variable of its own -/
theorem RetIs.c1 {t ty l n by_ : Nat} {cells : List PV} {dp dp0 deep : Bool} [ht : TI P ty n true by_] (h : lkq S t = some ⟨.ptr l 0, dp0⟩) (ho : loq O l = some ⟨cells, dp, false⟩) (hd : dp = true) (hn : Nat.beq cells.length n = true) (hn0 : n ≠ 0) : RetIs Γ #[.cell t ty] ⟨S, O⟩ (.agg cells) deep := by
  subst hd
  exact RetIs.one (Res1.cell h ho hn hn0) (fun _ => by simp)
theorem RetIs.c0 {t ty l n by_ : Nat} {cells : List PV} {dp dp0 : Bool} [ht : TI P ty n true by_] (h : lkq S t = some ⟨.ptr l 0, dp0⟩) (ho : loq O l = some ⟨cells, dp, false⟩) (hn : Nat.beq cells.length n = true) (hn0 : n ≠ 0) : RetIs Γ #[.cell t ty] ⟨S, O⟩ (.agg cells) false :=
  RetIs.one (Res1.cell h ho hn hn0) (fun h => by cases h)
/-- an own row -/
theorem RetIs.r1 {t l s n : Nat} {cells : List PV} {dp dp0 deep : Bool} (h : lkq S t = some ⟨.ref l s 0 n, dp0⟩) (ho : loq O l = some ⟨cells, dp, false⟩) (hd : dp = true) (hio : Γ.io l = none) : RetIs Γ #[.tmp t] ⟨S, O⟩ (.sl n cells) deep := by
  subst hd
  exact RetIs.one (Res1.ref h ho hio) (fun _ => by simp)
end

/-- A row that is being filled: the first k elements are those of l, the others are zero. -/
def fillR {α : Type} (enc : α → List PV) (zc : List PV) (l : List α) (k : Nat) : List PV := (l.take k).flatMap enc ++ (List.replicate (l.length - k) ()).flatMap fun _ => zc
theorem rep_len {zc : List PV} {n : Nat} : ((List.replicate n ()).flatMap fun _ => zc).length = n * zc.length := by
  induction n with
  | zero => simp
  | succ n ih => simp only [List.replicate_succ, List.flatMap_cons, List.length_append, ih, Nat.succ_mul]; omega
theorem fill_len {α : Type} {enc : α → List PV} {zc : List PV} {l : List α} {k sz : Nat} (h : ∀ y, (enc y).length = sz) (hz : zc.length = sz) (hk : k ≤ l.length) : (fillR enc zc l k).length = l.length * sz := by
  unfold fillR
  rw [List.length_append, flat_len h, rep_len, hz, List.length_take, Nat.min_eq_left hk, ← Nat.add_mul]
  congr 1; omega
theorem fill_ble {α : Type} {enc : α → List PV} {zc : List PV} {l : List α} {k sz : Nat} {y : α} (hy : l[k]? = some y) (h : ∀ y, (enc y).length = sz) (hz : zc.length = sz) : Nat.ble (k * sz + sz) (fillR enc zc l k).length = true := by
  have hk := (List.getElem?_eq_some_iff.1 hy).1
  rw [fill_len h hz (by omega)]
  apply Nat.ble_eq_true_of_le
  rw [← Nat.succ_mul]; exact Nat.mul_le_mul_right _ hk
theorem fill_splice {α : Type} {enc : α → List PV} {zc : List PV} {l : List α} {k sz : Nat} {y : α} (hy : l[k]? = some y) (h : ∀ y, (enc y).length = sz) (hz : zc.length = sz) : (fillR enc zc l k).take (k * sz) ++ enc y ++ (fillR enc zc l k).drop (k * sz + sz) = fillR enc zc l (k + 1) := by
  have hk := (List.getElem?_eq_some_iff.1 hy).1
  have hA : ((l.take k).flatMap enc).length = k * sz := by rw [flat_len h, List.length_take, Nat.min_eq_left (by omega)]
  unfold fillR
  rw [List.take_append_of_le_length (by omega), List.take_of_length_le (by omega), List.drop_append, List.drop_eq_nil_of_le (by omega), hA, show k * sz + sz - k * sz = sz by omega]
  have e1 : l.take (k + 1) = l.take k ++ [y] := by rw [List.take_add_one, hy]; rfl
  have e2 : l.length - k = (l.length - (k + 1)) + 1 := by omega
  rw [e1, e2, List.replicate_succ, List.flatMap_cons, List.drop_append, List.drop_eq_nil_of_le (by omega), hz, Nat.sub_self]
  simp [List.flatMap_append]
theorem fill_done {α : Type} {enc : α → List PV} {zc : List PV} {l : List α} {k : Nat} (hk : l.length ≤ k) : fillR enc zc l k = l.flatMap enc := by
  unfold fillR
  rw [List.take_of_length_le hk, show l.length - k = 0 by omega]; simp
theorem flat_snoc {α : Type} {enc : α → List PV} {l : List α} {y : α} : l.flatMap enc ++ enc y = (l ++ [y]).flatMap enc ∧ l.length + 1 = (l ++ [y]).length := by simp
theorem flat_cat {α : Type} {enc : α → List PV} {l r : List α} : l.flatMap enc ++ r.flatMap enc = (l ++ r).flatMap enc ∧ l.length + r.length = (l ++ r).length := by simp
end Go.Ev
