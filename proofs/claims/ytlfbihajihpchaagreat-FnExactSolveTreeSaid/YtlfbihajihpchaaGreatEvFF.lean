/- The engine, part FF: values handed in for good: their blocks may go into the result. -/
import Derived.Test.YtlfbihajihpchaaGreatEvEE
set_option linter.all false
namespace Go.Ev
open Go.RowKit (Below)
/-- Arguments, each with a flag: is it handed over for good; H: the blocks of those. -/
def DArgs (h : Array Obj) (ok : Nat → Prop) (H : Nat → List Nat) : List (PV × Bool) → List Value → Nat → Prop
  | [], [], _ => True
  | (p, false) :: ps, c :: cs, k => (∃ B, RelV h dead p c B ∧ ∀ b ∈ B, ok b) ∧ DArgs h ok H ps cs (k + 1)
  | (p, true) :: ps, c :: cs, k => RelV h dead p c (H k) ∧ DArgs h ok H ps cs (k + 1)
  | _, _, _ => False
def MeetsD (P : Program) (f : FuncId) (args : List (PV × Bool)) (r : PV) : Prop :=
  ∀ (w : World) (cargs : Array Value) (ok : Nat → Prop) (H : Nat → List Nat), DArgs w.heap ok H args cargs.toList 0 → (∀ k, (H k).Nodup ∧ ∀ b ∈ H k, ¬ ok b ∧ Free w b) → (∀ k k' b, b ∈ H k → b ∈ H k' → k = k') →
    Calls P f cargs w fun e w' => ∃ c B, e = .returned c ∧ Below w.heap.size w w' ∧ RelV w'.heap dead r c B ∧ B.Nodup ∧ ∀ b ∈ B, Free w' b ∧ (w.heap.size ≤ b ∨ ∃ k, b ∈ H k)
theorem DArgs.get {h : Array Obj} {ok : Nat → Prop} {H : Nat → List Nat} : ∀ {ps : List (PV × Bool)} {cs : List Value} {k0 : Nat}, DArgs h ok H ps cs k0 → ps.length = cs.length ∧ ∀ k p dp, ps[k]? = some (p, dp) → ∃ B, RelV h dead p (cs.getD k undef) B ∧ (dp = false → ∀ b ∈ B, ok b) ∧ (dp = true → B = H (k0 + k))
  | [], [], _, _ => ⟨rfl, fun k p dp h => by simp at h⟩
  | (p, false) :: ps, c :: cs, k0, h => by
    obtain ⟨⟨B, h1, h2⟩, h3⟩ := h
    obtain ⟨g1, g2⟩ := DArgs.get h3
    refine ⟨by simp [g1], fun k p' dp hk => ?_⟩
    cases k with
    | zero => simp at hk; obtain ⟨rfl, rfl⟩ := hk; exact ⟨B, by simpa using h1, fun _ => h2, fun h => by cases h⟩
    | succ k => obtain ⟨B', q1, q2, q3⟩ := g2 k p' dp (by simpa using hk); exact ⟨B', by simpa using q1, q2, fun h => by rw [q3 h]; congr 1; omega⟩
  | (p, true) :: ps, c :: cs, k0, h => by
    obtain ⟨h1, h3⟩ := h
    obtain ⟨g1, g2⟩ := DArgs.get h3
    refine ⟨by simp [g1], fun k p' dp hk => ?_⟩
    cases k with
    | zero => simp at hk; obtain ⟨rfl, rfl⟩ := hk; exact ⟨H k0, by simpa using h1, (fun h => by cases h), fun _ => rfl⟩
    | succ k => obtain ⟨B', q1, q2, q3⟩ := g2 k p' dp (by simpa using hk); exact ⟨B', by simpa using q1, q2, fun h => by rw [q3 h]; congr 1; omega⟩
  | [], _ :: _, _, h => h.elim
  | (_, false) :: _, [], _, h => h.elim
  | (_, true) :: _, [], _, h => h.elim
end Go.Ev
