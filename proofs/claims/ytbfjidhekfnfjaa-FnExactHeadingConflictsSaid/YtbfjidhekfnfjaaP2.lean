/- Plain laws: names, valid factors, lists of factors. -/
import Derived.Test.YtbfjidhekfnfjaaP1
set_option linter.all false
namespace Go.Ev
set_option linter.all false
theorem byteIdx (s : ByteArray) (k : Nat) (h : k < s.size) : strAt s (k : Int) = some ((s.data.toList.getD k 0).toNat : Int) := by
  unfold strAt; rw [if_pos ⟨by omega, by omega⟩]; simp
-- sizes of results
-- strings among strings
theorem hasString_same : spec_l16Has = impl_hasString := rfl
theorem hasString_p (l : List ByteArray) (s : ByteArray) (hl : l.length ≤ 140737488351232) : impl_hasString l s = some (hasS l s) := by
  unfold impl_hasString
  obtain ⟨r, e, q⟩ := lp_search (step := impl_hasString_L1 l s) l.length (fun r => (r = .inl () ∧ s ∉ l) ∨ (r = .inr true ∧ s ∈ l)) (fun k => ∀ i (hi : i < l.length), i < k → l[i] ≠ s) (by intro i _ h; omega)
    (fun k hk hj => by
      unfold impl_hasString_L1
      rw [if_pos (by omega), idx_lt hk]
      simp only [Option.bind_some]
      by_cases hy : l[k] = s
      · right; exact ⟨_, by rw [if_pos hy], .inr ⟨rfl, hy ▸ List.getElem_mem hk⟩⟩
      · left
        rw [if_neg hy, wi (by omega)]
        refine ⟨rfl, fun i hi h => ?_⟩
        by_cases e : i = k
        · subst e; exact hy
        · exact hj i hi (by omega))
    (fun hj => by
      unfold impl_hasString_L1
      rw [if_neg (by omega)]
      refine ⟨_, rfl, .inl ⟨rfl, fun hm => ?_⟩⟩
      obtain ⟨i, hi, e⟩ := List.getElem_of_mem hm
      exact hj i hi hi e)
  rw [e]
  rcases q with ⟨rfl, h⟩ | ⟨rfl, h⟩
  · rw [hasS_not.2 h]; rfl
  · rw [hasS_iff.2 h]; rfl
def addN (ns : List ByteArray) (s : ByteArray) : List ByteArray := if s ≠ (⟨#[]⟩ : ByteArray) ∧ hasS ns s = false then ns ++ [s] else ns
theorem addN_len (ns : List ByteArray) (s : ByteArray) : (addN ns s).length ≤ ns.length + 1 := by unfold addN; split <;> simp
def namesOf (l : List Factor) : List ByteArray := l.foldl (fun ns f => addN (addN ns f.fFrom) f.fTo) []
theorem namesFrom_len (l : List Factor) (ns : List ByteArray) : (l.foldl (fun ns f => addN (addN ns f.fFrom) f.fTo) ns).length ≤ ns.length + 2 * l.length := by
  induction l generalizing ns with
  | nil => simp
  | cons f r ih =>
    simp only [List.foldl_cons, List.length_cons]
    have := ih (addN (addN ns f.fFrom) f.fTo)
    have := addN_len ns f.fFrom
    have := addN_len (addN ns f.fFrom) f.fTo
    omega
theorem namesOf_len (l : List Factor) : (namesOf l).length ≤ 2 * l.length := by have := namesFrom_len l []; simpa [namesOf] using this
theorem foldE_foldl {α τ ρ : Type} {g : α → τ → Option (τ ⊕ ρ)} {fin : τ → ρ} (f : τ → α → τ) (I : Nat → τ → Prop) : ∀ (l : List α) (t : τ), I l.length t → (∀ y t n, I (n + 1) t → g y t = some (.inl (f t y)) ∧ I n (f t y)) → foldE g fin l t = some (fin (l.foldl f t))
  | [], t, _, _ => rfl
  | y :: r, t, hi, h => by
    rw [foldE, (h y t r.length hi).1]
    exact foldE_foldl f I r _ (h y t r.length hi).2 h
theorem spec_NamesOf_in (y : Factor) (ns : List ByteArray) (h : ns.length ≤ 4194304) : lp (spec_NamesOf_L1 y) (0, ns) = some (addN (addN ns y.fFrom) y.fTo) := by
  have st : ∀ (k : Nat) (s : ByteArray) (ns : List ByteArray), [y.fFrom, y.fTo][k]? = some s → ns.length ≤ 4194305 → spec_NamesOf_L1 y ((k : Int), ns) = some (.inl (((k + 1 : Nat) : Int), addN ns s)) := by
    intro k s ns hk hn
    have hlt : k < 2 := by have := (List.getElem?_eq_some_iff.1 hk).1; simpa using this
    unfold spec_NamesOf_L1
    simp only [List.length_cons, List.length_nil]
    rw [if_pos (by omega), idx_nat, hk]
    simp only [Option.bind_some]
    rw [hasString_same, hasString_p _ _ (by omega), wi (n := (k : Int) + 1) (by omega)]
    unfold addN
    by_cases h1 : s = (⟨#[]⟩ : ByteArray)
    · simp [h1]
    · by_cases h2 : hasS ns s = true
      · simp [h1, h2]
      · simp [h1, h2, chk_pos (show (ns.length + 1) * 16 ≤ 140737488355328 by omega), letO]
  have e0 := st 0 y.fFrom ns rfl (by omega)
  have e1 := st 1 y.fTo (addN ns y.fFrom) rfl (by have := addN_len ns y.fFrom; omega)
  rw [show (0 : Int) = ((0 : Nat) : Int) from rfl, lp_more e0, lp_more e1]
  apply lp_done
  unfold spec_NamesOf_L1
  simp
theorem spec_NamesOf_p (l : List Factor) (hl : l.length ≤ 1048577) : spec_NamesOf l = some (namesOf l) := by
  unfold spec_NamesOf
  have e := lp_foldE (step := spec_NamesOf_L2 l) l (fun k (t : List ByteArray) => ((k : Int), t)) (fun y t => (lp (spec_NamesOf_L1 y) (0, t)).bind fun d => some (.inl d)) (fun t => t)
    (fun k t hk => by
      unfold spec_NamesOf_L2
      simp only []
      rw [if_pos (by omega), idx_lt hk]
      simp only [Option.bind_some]
      cases lp (spec_NamesOf_L1 l[k]) (0, t) with
      | none => rfl
      | some d => simp only [Option.bind_some]; rw [wi (by omega)]; rfl)
    (fun t => by unfold spec_NamesOf_L2; simp only []; rw [if_neg (by omega)]) []
  rw [show ((0 : Nat) : Int) = 0 from rfl] at e
  rw [e, foldE_foldl (fun ns f => addN (addN ns f.fFrom) f.fTo) (fun n t => t.length + 2 * n ≤ 4194304) l [] (by simp; omega)
    (fun y t n hi => by
      rw [spec_NamesOf_in y t (by omega)]
      refine ⟨rfl, ?_⟩
      have := addN_len t y.fFrom
      have := addN_len (addN t y.fFrom) y.fTo
      omega)]
  rfl
theorem impl_NamesOf_p (l : List Factor) (hl : l.length ≤ 1048577) : impl_NamesOf l = some (namesOf l) := by
  unfold impl_NamesOf
  have one : ∀ (s : ByteArray) (ns : List ByteArray), ns.length ≤ 4194305 → ((if s ≠ (⟨#[]⟩ : ByteArray) then (impl_hasString ns s).bind fun r => some (!r) else some false) : Option Bool) = some (decide (s ≠ (⟨#[]⟩ : ByteArray) ∧ hasS ns s = false)) := by
    intro s ns hn
    rw [hasString_p _ _ (by omega)]
    by_cases h1 : s = (⟨#[]⟩ : ByteArray) <;> simp [h1]
  have add : ∀ (s : ByteArray) (ns : List ByteArray), ns.length ≤ 4194305 → ((if decide (s ≠ (⟨#[]⟩ : ByteArray) ∧ hasS ns s = false) = true then (chk ((ns.length + 1) * 16 ≤ 140737488355328)).bind fun _u => (letO (ns ++ [s])).bind fun v => some v else some ns) : Option (List ByteArray)) = some (addN ns s) := by
    intro s ns hn
    rw [chk_pos (by omega)]
    unfold addN
    by_cases h : s ≠ (⟨#[]⟩ : ByteArray) ∧ hasS ns s = false <;> simp [h, letO]
  have e := lp_foldl (step := impl_NamesOf_L1 l) l (fun k (t : List ByteArray) => ((k : Int), t)) (fun ns f => addN (addN ns f.fFrom) f.fTo) (fun t => t) (fun k t => t.length ≤ 2 * k)
    (fun k t hk hi => by
      have hl1 := addN_len t (l[k]).fFrom
      have hl2 := addN_len (addN t (l[k]).fFrom) (l[k]).fTo
      refine ⟨?_, by omega⟩
      unfold impl_NamesOf_L1
      simp only []
      rw [if_pos (by omega), idx_lt hk]
      simp only [Option.bind_some]
      rw [one _ _ (by omega)]
      simp only [Option.bind_some]
      rw [add _ _ (by omega)]
      simp only [Option.bind_some]
      rw [one _ _ (by omega)]
      simp only [Option.bind_some]
      rw [wi (n := (k : Int) + 1) (by omega)]
      have := add (l[k]).fTo (addN t (l[k]).fFrom) (by omega)
      by_cases h : decide ((l[k]).fTo ≠ (⟨#[]⟩ : ByteArray) ∧ hasS (addN t (l[k]).fFrom) (l[k]).fTo = false) = true
      · rw [if_pos h] at this ⊢
        rw [chk_pos (by omega)] at this ⊢
        simp only [Option.bind_some, letO_bind] at this ⊢
        rw [Option.some.inj this]; rfl
      · rw [if_neg h] at this ⊢
        rw [← Option.some.inj this]; rfl)
    (fun t hi => by unfold impl_NamesOf_L1; simp only []; rw [if_neg (by omega)]) [] (by simp)
  rw [show ((0 : Nat) : Int) = 0 from rfl] at e
  rw [e.1]; rfl
end Go.Ev
