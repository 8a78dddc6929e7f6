/- The engine, part P: ends of walks, in short. -/
import Derived.Test.YtlfbihajihpchaaGreatEvO
set_option linter.all false
namespace Go.Ev
open Go.RowKit (Below)
section
variable {P : Program} {N : Nat} {Γ : Ctx P N} {S : List (Nat × Slot)} {O : List (Nat × Option Ob)}
/-- a struct in a variable of its own -/
theorem RetIs.c1 {t ty l n by_ : Nat} {cells : List PV} {dp dp0 deep : Bool} [ht : TI P ty n true by_] (h : lkq S t = some ⟨.ptr l 0, dp0⟩) (ho : loq O l = some ⟨cells, dp, false⟩) (hd : dp = true) (hn : Nat.beq cells.length n = true) (hn0 : n ≠ 0) : RetIs Γ #[.cell t ty] ⟨S, O⟩ (.agg cells) deep := by
  subst hd
  exact RetIs.one (Res1.cell h ho hn hn0) (fun _ => by simp)
theorem RetIs.c0 {t ty l n by_ : Nat} {cells : List PV} {dp dp0 : Bool} [ht : TI P ty n true by_] (h : lkq S t = some ⟨.ptr l 0, dp0⟩) (ho : loq O l = some ⟨cells, dp, false⟩) (hn : Nat.beq cells.length n = true) (hn0 : n ≠ 0) : RetIs Γ #[.cell t ty] ⟨S, O⟩ (.agg cells) false :=
  RetIs.one (Res1.cell h ho hn hn0) (fun h => by cases h)
/-- an own row -/
theorem RetIs.r1 {t l s n : Nat} {cells : List PV} {dp dp0 deep : Bool} (h : lkq S t = some ⟨.ref l s 0 n, dp0⟩) (ho : loq O l = some ⟨cells, dp, false⟩) (hd : dp = true) (hio : Γ.io l = none) : RetIs Γ #[.tmp t] ⟨S, O⟩ (.sl n cells) deep := by
  subst hd
  exact RetIs.one (Res1.ref h ho hio) (fun _ => by simp)
end

theorem flat_snoc {α : Type} {enc : α → List PV} {l : List α} {y : α} : l.flatMap enc ++ enc y = (l ++ [y]).flatMap enc ∧ l.length + 1 = (l ++ [y]).length := by simp
theorem flat_cat {α : Type} {enc : α → List PV} {l r : List α} : l.flatMap enc ++ r.flatMap enc = (l ++ r).flatMap enc ∧ l.length + r.length = (l ++ r).length := by simp
end Go.Ev
