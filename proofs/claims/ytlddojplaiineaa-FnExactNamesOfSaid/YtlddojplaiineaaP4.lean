/- The exact laws of factor lists, plainly. -/
import Derived.Test.YtlddojplaiineaaP3
set_option linter.all false
namespace Go.Ev
set_option linter.all false
theorem bigF_of {l : List Factor} (h : okL okFactor l) : l.length ≤ 9223372036854775807 ∧ ∀ f ∈ l, bigF f := by
  refine ⟨by have := h.1; simp only [maxLen] at this; omega, fun f hf => ?_⟩
  have := h.2 f hf
  have h1 := this.2.2.1
  have h2 := this.2.2.2.1
  simp only [okS, maxLen] at h1 h2
  exact ⟨by omega, by omega⟩
theorem law_FactorIds (l : List Factor) (n : Int) (h : okL okFactor l) (_ : okI .i64 n) : laws_FnExactFactorIds l n = some true := by
  obtain ⟨hb, hf⟩ := bigF_of h
  obtain ⟨r, e, hr⟩ := szFactorS_p l hb hf
  unfold laws_FnExactFactorIds
  rw [e]
  simp only [Option.bind_some]
  by_cases h0 : r < 0
  · rw [if_pos h0]
  · rw [if_neg h0]
    obtain ⟨hl, hs⟩ := hr h0
    obtain ⟨v, ev, hv⟩ := FactorIds_p l n hl
    obtain ⟨m, e1, e2, e3⟩ := markFactorS_p l 1 (by omega)
    obtain ⟨m', e4, e5, e6⟩ := markIntS_p v 1 (by omega)
    have e1 : laws_markFactorS l 1 = some (((1 + 8 * l.length : Nat) : Int), m) := e1
    have e4 : laws_markIntS v 1 = some (((1 + v.length : Nat) : Int), m') := e4
    have e6 : laws_heldIntS m' 1 = some ((1 + v.length : Nat) : Int) := e6
    rw [toFactorS_id l hl, FactorIds_same]
    simp only [Option.bind_some, ev, eqIntS_self v (by omega), eqFactorS_self l (by omega), toFactorS_id l hl, if_true, e1, e4, e6]
    rw [if_neg (show ¬ (((1 + 8 * l.length : Nat) : Int) < 0) by omega)]
    simp only [Option.bind_some, Bool.not_true, Bool.false_eq_true, if_false]
    rw [if_neg (show ¬ (((1 + v.length : Nat) : Int) < 0) by omega)]
    simp; omega
theorem law_NamesOf (l : List Factor) (h : okL okFactor l) : laws_FnExactNamesOf l = some true := by
  obtain ⟨hb, hf⟩ := bigF_of h
  obtain ⟨r, e, hr⟩ := szFactorS_p l hb hf
  unfold laws_FnExactNamesOf
  rw [e]
  simp only [Option.bind_some]
  by_cases h0 : r < 0
  · rw [if_pos h0]
  · rw [if_neg h0]
    obtain ⟨hl, hs⟩ := hr h0
    have hv := namesOf_len l
    have ev1 := spec_NamesOf_p l (by omega)
    have ev2 := impl_NamesOf_p l (by omega)
    generalize namesOf l = v at hv ev1 ev2
    obtain ⟨m, e1, e2, e3⟩ := markFactorS_p l 1 (by omega)
    obtain ⟨m', e4, e5, e6⟩ := markStringS_p v 1 (by omega)
    have e1 : laws_markFactorS l 1 = some (((1 + 8 * l.length : Nat) : Int), m) := e1
    have e4 : laws_markStringS v 1 = some (((1 + v.length : Nat) : Int), m') := e4
    have e6 : laws_heldStringS m' 1 = some ((1 + v.length : Nat) : Int) := e6
    rw [toFactorS_id l hl]
    simp only [Option.bind_some, ev1, ev2, eqStringS_self v (by omega), eqFactorS_self l (by omega), toFactorS_id l hl, if_true, e1, e4, e6]
    rw [if_neg (show ¬ (((1 + 8 * l.length : Nat) : Int) < 0) by omega)]
    simp only [Option.bind_some, Bool.not_true, Bool.false_eq_true, if_false]
    rw [if_neg (show ¬ (((1 + v.length : Nat) : Int) < 0) by omega)]
    simp; omega
end Go.Ev
