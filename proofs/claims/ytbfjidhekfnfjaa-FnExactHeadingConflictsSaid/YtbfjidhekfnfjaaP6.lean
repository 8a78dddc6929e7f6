/- Plain laws: lists of factors, indices of names. -/
import Derived.Test.YtbfjidhekfnfjaaP5
import Derived.Test.YtbfjidhekfnfjaaP3
set_option linter.all false
namespace Go.Ev
set_option linter.all false
def badF (l : List Factor) (k : Nat) : Bool := match l[k]?, l[k - 1]? with
  | some y, some z => !(goodF y) || (decide (0 < k) && decide (y.fId ≤ z.fId))
  | _, _ => false
def isFL (l : List Factor) : Bool := decide (l.length ≤ 40) && !((List.range l.length).any (badF l)) && decide ((namesOf l).length < 10)
theorem badF_at (l : List Factor) (k : Nat) (hk : k < l.length) : badF l k = (!(goodF l[k]) || (decide (0 < k) && decide ((l[k]).fId ≤ (l[k - 1]'(by omega)).fId))) := by
  unfold badF
  rw [List.getElem?_eq_getElem hk, List.getElem?_eq_getElem (show k - 1 < l.length by omega)]
theorem isFL_step (l : List Factor) (k : Nat) (hk : k < l.length) (hl : l.length ≤ 4194304) (hv : ∀ f ∈ l, bigF f) (g : Option Bool) (hg : g = some (goodF l[k])) :
    ((g.bind fun r9 => (if r9 = true then (if 0 < (k : Int) then (idx l (IntKind.i64.wrap ((k : Int) - 1))).bind fun y10 => some (decide ((l[k]).fId ≤ y10.fId)) else some false) else some true) : Option Bool).bind (fun d12 => (if d12 = true then some (.inr (.inr false)) else some (.inl (IntKind.i64.wrap ((k : Int) + 1)))) : Bool → Option (Int ⊕ (Unit ⊕ Bool)))) = some (if badF l k then .inr (.inr false) else .inl ((k + 1 : Nat) : Int)) := by
  rw [hg, badF_at l k hk, wi (n := (k : Int) + 1) (by omega)]
  simp only [Option.bind_some]
  by_cases h1 : goodF l[k] = true
  · by_cases h2 : 0 < k
    · rw [wi (by omega), show (k : Int) - 1 = ((k - 1 : Nat) : Int) by omega, idx_lt (by omega)]
      have h2' : (0 : Int) < k := by omega
      by_cases h3 : (l[k]).fId ≤ (l[k - 1]'(by omega)).fId <;> simp [h1, h2, h3]
    · have h2' : ¬ (0 : Int) < k := by omega
      simp [h1, h2]
  · simp [h1]
theorem spec_isFL (l : List Factor) (hl : l.length ≤ 1048577) (hv : ∀ f ∈ l, bigF f) : spec_IsFactorList l = some (isFL l) := by
  unfold spec_IsFactorList
  rw [lp_all (step := spec_IsFactorList_L1 l) l.length (badF l) false
    (fun k hk => by
      unfold spec_IsFactorList_L1
      rw [if_pos (by omega), idx_lt hk]
      simp only [Option.bind_some]
      exact isFL_step l k hk (by omega) hv _ (validF_p _ (hv _ (List.getElem_mem hk))).1)
    (by unfold spec_IsFactorList_L1; rw [if_neg (by omega)])]
  unfold isFL
  rw [spec_NamesOf_p l hl]
  by_cases hb : (List.range l.length).any (badF l) = true
  · simp [hb]
  · simp only [Bool.not_eq_true] at hb
    simp only [hb]
    by_cases h1 : l.length ≤ 40
    · have : (l.length : Int) ≤ 40 := by omega
      simp [h1, this]; omega
    · have : ¬ (l.length : Int) ≤ 40 := by omega
      simp [h1, this]
theorem impl_isFL (l : List Factor) (hl : l.length ≤ 1048577) (hv : ∀ f ∈ l, bigF f) : impl_IsFactorList l = some (isFL l) := by
  unfold impl_IsFactorList
  rw [lp_all (step := impl_IsFactorList_L1 l) l.length (badF l) false
    (fun k hk => by
      unfold impl_IsFactorList_L1
      rw [if_pos (by omega), idx_lt hk]
      simp only [Option.bind_some]
      exact isFL_step l k hk (by omega) hv _ (validF_p _ (hv _ (List.getElem_mem hk))).2)
    (by unfold impl_IsFactorList_L1; rw [if_neg (by omega)])]
  unfold isFL
  rw [impl_NamesOf_p l hl]
  by_cases h1 : l.length ≤ 40
  · have h1' : ¬ (40 : Int) < l.length := by omega
    by_cases hb : (List.range l.length).any (badF l) = true
    · simp [hb, h1']
    · simp only [Bool.not_eq_true] at hb
      simp only [hb]
      simp [h1, h1']; omega
  · have : (40 : Int) < l.length := by omega
    simp [h1, this]
theorem isFL_facts {l : List Factor} (h : isFL l = true) : l.length ≤ 40 ∧ (namesOf l).length < 10 ∧ (∀ k (hk : k < l.length), goodF l[k] = true) ∧ ∀ k (hk : k + 1 < l.length), (l[k]).fId < (l[k + 1]).fId := by
  unfold isFL at h
  simp only [Bool.and_eq_true, decide_eq_true_eq, Bool.not_eq_true', List.any_eq_false, List.mem_range, Bool.not_eq_true] at h
  obtain ⟨⟨h1, h2⟩, h3⟩ := h
  have hb : ∀ k (hk : k < l.length), badF l k = false := fun k hk => by simpa using h2 k hk
  refine ⟨h1, h3, fun k hk => ?_, fun k hk => ?_⟩
  · have := hb k hk
    rw [badF_at l k hk] at this
    simp only [Bool.or_eq_false_iff, Bool.not_eq_false'] at this
    exact this.1
  · have := hb (k + 1) hk
    rw [badF_at l (k + 1) hk] at this
    simp only [Bool.or_eq_false_iff, Bool.and_eq_false_iff, decide_eq_false_iff_not] at this
    have := this.2.resolve_left (by omega)
    have e : l[k + 1 - 1]'(by omega) = l[k] := rfl
    rw [e] at this; omega
/-- where a name stands first -/
def nIdx (ns : List ByteArray) (s : ByteArray) : Int := match ns.findIdx? (fun x => decide (x = s)) with | some k => k | none => -1
theorem nIdx_p (ns : List ByteArray) (s : ByteArray) (h : ns.length ≤ 4194304) : impl_nameIndex ns s = some (nIdx ns s) := by
  unfold impl_nameIndex
  obtain ⟨r, e, q⟩ := lp_search (step := impl_nameIndex_L1 ns s) ns.length (fun r => match r with | .inl _ => nIdx ns s = -1 | .inr i => nIdx ns s = i) (fun k => ∀ i (hi : i < ns.length), i < k → ns[i] ≠ s) (by intro i _ h; omega)
    (fun k hk hj => by
      unfold impl_nameIndex_L1
      rw [if_pos (by omega), idx_lt hk]
      simp only [Option.bind_some]
      by_cases hy : ns[k] = s
      · right
        refine ⟨_, by rw [if_pos hy], ?_⟩
        simp only
        unfold nIdx
        rw [List.findIdx?_eq_some_iff_getElem.2 ⟨hk, by simpa using hy, fun j hjk => by simpa using hj j (by omega) hjk⟩]
      · left
        rw [if_neg hy, wi (by omega)]
        refine ⟨rfl, fun i hi h => ?_⟩
        by_cases e : i = k
        · subst e; exact hy
        · exact hj i hi (by omega))
    (fun hj => by
      unfold impl_nameIndex_L1
      rw [if_neg (by omega)]
      refine ⟨_, rfl, ?_⟩
      simp only
      unfold nIdx
      rw [List.findIdx?_eq_none_iff.2 (fun x hx => by
        obtain ⟨i, hi, e⟩ := List.getElem_of_mem hx
        simpa [← e] using hj i hi hi)])
  rw [e]
  cases r with
  | inl u => simp only [Option.bind_some]; simp only at q; rw [q]
  | inr i => simp only [Option.bind_some]; simp only at q; rw [q]
theorem l17Index_same : spec_l17Index = impl_nameIndex := rfl
theorem nIdx_bound (ns : List ByteArray) (s : ByteArray) : -1 ≤ nIdx ns s ∧ nIdx ns s < ns.length := by
  unfold nIdx
  split
  · rename_i k hk
    obtain ⟨h, _⟩ := List.findIdx?_eq_some_iff_getElem.1 hk
    omega
  · omega
theorem nIdx_mem {ns : List ByteArray} {s : ByteArray} (h : s ∈ ns) : 0 ≤ nIdx ns s := by
  unfold nIdx
  split
  · omega
  · rename_i hk
    have := List.findIdx?_eq_none_iff.1 hk s h
    simp at this
-- names of a list: those of its factors
theorem addN_mem {ns : List ByteArray} {s t : ByteArray} (h : t ∈ ns) : t ∈ addN ns s := by unfold addN; split <;> simp [h]
theorem addN_self {ns : List ByteArray} {s : ByteArray} (h : s ≠ (⟨#[]⟩ : ByteArray)) : s ∈ addN ns s := by
  unfold addN
  split
  · simp
  · rename_i h'
    by_cases hm : hasS ns s = true
    · exact hasS_iff.1 hm
    · exact absurd ⟨h, by simpa using hm⟩ h'
theorem names_mono (l : List Factor) (ns : List ByteArray) (s : ByteArray) (h : s ∈ ns) : s ∈ l.foldl (fun ns f => addN (addN ns f.fFrom) f.fTo) ns := by
  induction l generalizing ns with
  | nil => exact h
  | cons f r ih => exact ih _ (addN_mem (addN_mem h))
theorem names_has (l : List Factor) (ns : List ByteArray) (f : Factor) (hf : f ∈ l) :
    (f.fFrom ≠ (⟨#[]⟩ : ByteArray) → f.fFrom ∈ l.foldl (fun ns f => addN (addN ns f.fFrom) f.fTo) ns) ∧ (f.fTo ≠ (⟨#[]⟩ : ByteArray) → f.fTo ∈ l.foldl (fun ns f => addN (addN ns f.fFrom) f.fTo) ns) := by
  induction l generalizing ns with
  | nil => cases hf
  | cons g r ih =>
    rcases List.mem_cons.1 hf with rfl | hf
    · exact ⟨fun h => names_mono r _ _ (addN_mem (addN_self h)), fun h => names_mono r _ _ (addN_self h)⟩
    · exact ih _ hf
theorem names_from {l : List Factor} {f : Factor} (hf : f ∈ l) (h : f.fFrom ≠ (⟨#[]⟩ : ByteArray)) : f.fFrom ∈ namesOf l := (names_has l [] f hf).1 h
theorem names_to {l : List Factor} {f : Factor} (hf : f ∈ l) (h : f.fTo ≠ (⟨#[]⟩ : ByteArray)) : f.fTo ∈ namesOf l := (names_has l [] f hf).2 h
theorem goodF_facts {f : Factor} (h : goodF f = true) : 0 ≤ f.fId ∧ f.fId ≤ 99999 ∧ vpose f.fPose ∧ 1 ≤ f.fWeight ∧ f.fWeight ≤ 9999 ∧ f.fTo ≠ (⟨#[]⟩ : ByteArray) ∧ (f.fKind = 1 ∨ f.fKind = 2 ∨ f.fKind = 3 ∨ f.fKind = 4) ∧ (f.fKind = 1 → f.fFrom = (⟨#[]⟩ : ByteArray)) ∧ (f.fKind ≠ 1 → f.fFrom ≠ (⟨#[]⟩ : ByteArray)) ∧ (f.fKind = 2 ∨ f.fKind = 4 → f.fFrom ≠ f.fTo) := by
  unfold goodF at h
  simp only [Bool.and_eq_true, decide_eq_true_eq] at h
  obtain ⟨⟨h1, h2, h3, h4, h5⟩, h6⟩ := h
  refine ⟨h1, h2, h3, h4, h5, ?_⟩
  unfold goodK at h6
  by_cases k1 : f.fKind = 1
  · rw [if_pos k1] at h6
    simp only [Bool.and_eq_true, decide_eq_true_eq] at h6
    exact ⟨nameC_ne h6.2, .inl k1, fun _ => h6.1, fun h => absurd k1 h, fun h => by omega⟩
  · rw [if_neg k1] at h6
    by_cases k2 : f.fKind = 2 ∨ f.fKind = 4
    · rw [if_pos k2] at h6
      simp only [Bool.and_eq_true, decide_eq_true_eq] at h6
      exact ⟨nameC_ne h6.1.2, by omega, fun h => absurd h k1, fun _ => nameC_ne h6.1.1, fun _ => h6.2⟩
    · rw [if_neg k2] at h6
      by_cases k3 : f.fKind = 3
      · rw [if_pos k3] at h6
        simp only [Bool.and_eq_true, decide_eq_true_eq] at h6
        exact ⟨nameC_ne h6.1.2, by omega, fun h => absurd h k1, fun _ => nameC_ne h6.1.1, fun h => absurd h k2⟩
      · rw [if_neg k3] at h6; cases h6
theorem bigF_of {l : List Factor} (h : okL okFactor l) : l.length ≤ 9223372036854775807 ∧ ∀ f ∈ l, bigF f := by
  refine ⟨by have := h.1; simp only [maxLen] at this; omega, fun f hf => ?_⟩
  have := h.2 f hf
  have h1 := this.2.2.1
  have h2 := this.2.2.2.1
  simp only [okS, maxLen] at h1 h2
  exact ⟨by omega, by omega⟩
end Go.Ev
