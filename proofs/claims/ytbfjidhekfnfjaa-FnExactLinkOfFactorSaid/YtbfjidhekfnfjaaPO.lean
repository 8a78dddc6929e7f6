/- Plain laws of loops: comparison of lists, search. No program. -/
import Derived.Test.YtbfjidhekfnfjaaPN
set_option linter.all false
namespace Go.Ev
section
variable {α : Type}
theorem lp_eqE [DecidableEq α] {step : Int → Option (Int ⊕ (Unit ⊕ Bool))} (a b : List α) (hl : a.length = b.length) (h1 : ∀ (k : Nat) (ha : k < a.length) (hb : k < b.length), step (k : Int) = some (if a[k] = b[k] then .inl ((k : Int) + 1) else .inr (.inr false)))
    (h2 : step (a.length : Int) = some (.inr (.inl ()))) : lp step 0 = some (if a = b then .inl () else .inr false) := by
  have main : ∀ n k : Nat, n + k = a.length → lp step (k : Int) = some (if a.drop k = b.drop k then .inl () else .inr false) := by
    intro n
    induction n with
    | zero =>
      intro k hk
      have : k = a.length := by omega
      subst this
      rw [lp_done h2, List.drop_length, List.drop_eq_nil_of_le (by omega), if_pos rfl]
    | succ n ih =>
      intro k hk
      have ha : k < a.length := by omega
      have hb : k < b.length := by omega
      have e := h1 k ha hb
      rw [List.drop_eq_getElem_cons ha, List.drop_eq_getElem_cons hb]
      by_cases c : a[k] = b[k]
      · rw [if_pos c] at e
        rw [lp_more e, show (k : Int) + 1 = ((k + 1 : Nat) : Int) by omega, ih (k + 1) (by omega), c]
        simp only [List.cons.injEq, true_and]
      · rw [if_neg c] at e
        rw [lp_done e, if_neg (fun h => by injection h with h1 _; exact c h1)]
  have := main a.length 0 (by omega)
  simpa using this
theorem lp_findE {step : Int → Option (Int ⊕ (Unit ⊕ Int))} (l : List α) (p : α → Bool) (h1 : ∀ (k : Nat) (hk : k < l.length), step (k : Int) = some (if p l[k] = true then .inr (.inr (k : Int)) else .inl ((k : Int) + 1)))
    (h2 : step (l.length : Int) = some (.inr (.inl ()))) : lp step 0 = some (match l.findIdx? p with | none => .inl () | some k => .inr (k : Int)) := by
  have main : ∀ n k : Nat, n + k = l.length → lp step (k : Int) = some (match (l.drop k).findIdx? p with | none => .inl () | some j => .inr ((k + j : Nat) : Int)) := by
    intro n
    induction n with
    | zero =>
      intro k hk
      have : k = l.length := by omega
      subst this
      rw [lp_done h2, List.drop_length]; rfl
    | succ n ih =>
      intro k hk
      have hlt : k < l.length := by omega
      have e := h1 k hlt
      rw [List.drop_eq_getElem_cons hlt, List.findIdx?_cons]
      by_cases c : p l[k] = true
      · rw [if_pos c] at e
        rw [lp_done e, if_pos c]; simp
      · rw [if_neg c] at e
        rw [lp_more e, show (k : Int) + 1 = ((k + 1 : Nat) : Int) by omega, ih (k + 1) (by omega), if_neg c]
        cases (l.drop (k + 1)).findIdx? p with
        | none => rfl
        | some j => simp; omega
  have := main l.length 0 (by omega)
  simpa using this
end
end Go.Ev
