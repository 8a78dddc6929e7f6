/- Plain laws: names, valid factors, factor lists. -/
import Derived.Test.YtbfjidhekfnfjaaP2
set_option linter.all false
namespace Go.Ev
set_option linter.all false
section
variable {ρ : Type}
theorem lp_all {α : Type} {step : Int → Option (Int ⊕ (Unit ⊕ α))} (n : Nat) (bad : Nat → Bool) (x : α) (h1 : ∀ k : Nat, k < n → step (k : Int) = some (if bad k then .inr (.inr x) else .inl ((k + 1 : Nat) : Int))) (h2 : step (n : Int) = some (.inr (.inl ()))) :
    lp step 0 = some (if (List.range n).any bad then .inr x else .inl ()) := by
  obtain ⟨r, e, q⟩ := lp_search (step := step) n (fun r => r = if (List.range n).any bad then .inr x else .inl ()) (fun k => ∀ i, i < k → bad i = false) (by intro i h; omega)
    (fun k hk hj => by
      rw [h1 k hk]
      by_cases hb : bad k = true
      · right
        rw [if_pos hb]
        refine ⟨_, rfl, ?_⟩
        rw [if_pos]
        exact List.any_eq_true.2 ⟨k, List.mem_range.2 hk, hb⟩
      · left
        rw [if_neg hb]
        refine ⟨rfl, fun i hi => ?_⟩
        by_cases e : i = k
        · subst e; exact Bool.eq_false_iff.2 hb
        · exact hj i (by omega))
    (fun hj => by
      refine ⟨_, h2, ?_⟩
      rw [if_neg]
      intro h
      obtain ⟨i, hi, hb⟩ := List.any_eq_true.1 h
      rw [hj i (List.mem_range.1 hi)] at hb
      exact Bool.noConfusion hb)
  rw [e, q]
end
def vpose (p : Pose) : Prop := 0 ≤ p.fTurn ∧ p.fTurn ≤ 3 ∧ -1000000 ≤ p.fX ∧ p.fX ≤ 1000000 ∧ -1000000 ≤ p.fY ∧ p.fY ≤ 1000000
instance (p : Pose) : Decidable (vpose p) := by unfold vpose; infer_instance
theorem inRange_p (x : Int) : impl_inRange x = some (decide (-1000000 ≤ x ∧ x ≤ 1000000)) := by
  unfold impl_inRange
  by_cases h : -1000000 ≤ x <;> simp [h]
theorem spec_vpose (p : Pose) : spec_IsValidPose p = some (decide (vpose p)) := by
  unfold spec_IsValidPose spec_l01In vpose
  by_cases h1 : 0 ≤ p.fTurn <;> by_cases h2 : p.fTurn ≤ 3 <;> by_cases h3 : -1000000 ≤ p.fX <;> by_cases h4 : p.fX ≤ 1000000 <;> by_cases h5 : -1000000 ≤ p.fY <;> simp [h1, h2, h3, h4, h5]
theorem impl_vpose (p : Pose) : impl_IsValidPose p = some (decide (vpose p)) := by
  unfold impl_IsValidPose vpose
  simp only [inRange_p]
  by_cases h1 : 0 ≤ p.fTurn <;> by_cases h2 : p.fTurn ≤ 3 <;> by_cases h3 : -1000000 ≤ p.fX <;> by_cases h4 : p.fX ≤ 1000000 <;> by_cases h5 : -1000000 ≤ p.fY <;> simp [h1, h2, h3, h4, h5]
def badB (s : ByteArray) (k : Nat) : Bool :=
  !(decide ((97 : Int) ≤ ((s.data.toList.getD k 0).toNat : Int) ∧ ((s.data.toList.getD k 0).toNat : Int) ≤ 122)) && (decide (k = 0) || !(decide ((48 : Int) ≤ ((s.data.toList.getD k 0).toNat : Int) ∧ ((s.data.toList.getD k 0).toNat : Int) ≤ 57)))
def nameB (s : ByteArray) : Bool := decide (1 ≤ s.size ∧ s.size ≤ 8) && !((List.range s.size).any (badB s))
theorem spec_nameB (s : ByteArray) (h : s.size ≤ 9223372036854775807) : spec_IsName s = some (nameB s) := by
  unfold spec_IsName
  rw [lp_all (step := spec_IsName_L1 s) s.size (badB s) false
    (fun k hk => by
      unfold spec_IsName_L1
      rw [if_pos (by omega), byteIdx s k hk, wi (by omega)]
      simp only [Option.bind_some]
      unfold badB
      generalize ((s.data.toList.getD k 0).toNat : Int) = b
      by_cases h1 : 97 ≤ b <;> by_cases h2 : b ≤ 122 <;> by_cases h3 : k = 0 <;> by_cases h4 : b < 48 <;> by_cases h5 : 57 < b <;> first | (exfalso; omega) | (have h6 : (48 ≤ b) = (¬ b < 48) := by simp) ; (have h7 : (b ≤ 57) = (¬ 57 < b) := by simp) ; simp only [h6, h7] ; simp [h1, h2, h3, h4, h5])
    (by unfold spec_IsName_L1; rw [if_neg (by omega)])]
  unfold nameB spec_l01In
  by_cases hb : (List.range s.size).any (badB s) = true
  · simp [hb]
  · simp only [Bool.not_eq_true] at hb
    simp only [hb]
    by_cases h1 : (1 : Int) ≤ s.size
    · have : 1 ≤ s.size := by omega
      by_cases h2 : s.size ≤ 8 <;> simp [h1, h2, this] <;> omega
    · have : ¬ 1 ≤ s.size := by omega
      simp [h1, this]
theorem impl_nameB (s : ByteArray) (h : s.size ≤ 9223372036854775807) : impl_IsName s = some (nameB s) := by
  unfold impl_IsName
  rw [lp_all (step := impl_IsName_L1 s) s.size (badB s) false
    (fun k hk => by
      unfold impl_IsName_L1
      rw [if_pos (by omega), byteIdx s k hk, wi (by omega)]
      simp only [Option.bind_some]
      unfold badB
      generalize ((s.data.toList.getD k 0).toNat : Int) = b
      by_cases h1 : 97 ≤ b <;> by_cases h2 : b ≤ 122 <;> by_cases h3 : k = 0 <;> by_cases h4 : 48 ≤ b <;> by_cases h5 : b ≤ 57 <;> simp [h1, h2, h3, h4, h5] <;> omega)
    (by unfold impl_IsName_L1; rw [if_neg (by omega)])]
  unfold nameB
  by_cases hb : (List.range s.size).any (badB s) = true
  · by_cases h1 : (s.size : Int) < 1 <;> simp [hb, h1]
  · simp only [Bool.not_eq_true] at hb
    simp only [hb]
    by_cases h1 : (s.size : Int) < 1 <;> by_cases h2 : (8 : Int) < s.size <;> simp [h1, h2] <;> omega
/-- a name that begins with the byte c -/
def nameC (c : Nat) (s : ByteArray) : Bool := nameB s && decide ((s.data.toList.getD 0 0).toNat = c)
theorem nameC_ne {c : Nat} {s : ByteArray} (h : nameC c s = true) : s ≠ (⟨#[]⟩ : ByteArray) := by
  rintro rfl
  have h := (Bool.and_eq_true _ _ ▸ h : _ ∧ _).1
  unfold nameB at h
  simp only [Bool.and_eq_true, decide_eq_true_eq] at h
  exact absurd h.1.1 (by decide)
theorem nameB_pos {s : ByteArray} (h : nameB s = true) : 0 < s.size := by
  unfold nameB at h
  simp only [Bool.and_eq_true, decide_eq_true_eq] at h
  omega
theorem poseName_p (s : ByteArray) (h : s.size ≤ 9223372036854775807) : spec_IsPoseName s = some (nameC 112 s) ∧ impl_IsPoseName s = some (nameC 112 s) := by
  unfold spec_IsPoseName impl_IsPoseName nameC
  rw [spec_nameB s h, impl_nameB s h]
  by_cases hb : nameB s = true
  · have e := byteIdx s 0 (nameB_pos hb)
    rw [show ((0 : Nat) : Int) = 0 from rfl] at e
    simp only [Option.bind_some, hb, e, if_true, Bool.true_and]
    constructor <;> (congr 2; simp; omega)
  · simp [hb]
theorem landmarkName_p (s : ByteArray) (h : s.size ≤ 9223372036854775807) : spec_IsLandmarkName s = some (nameC 109 s) ∧ impl_IsLandmarkName s = some (nameC 109 s) := by
  unfold spec_IsLandmarkName impl_IsLandmarkName nameC
  rw [spec_nameB s h, impl_nameB s h]
  by_cases hb : nameB s = true
  · have e := byteIdx s 0 (nameB_pos hb)
    rw [show ((0 : Nat) : Int) = 0 from rfl] at e
    simp only [Option.bind_some, hb, e, if_true, Bool.true_and]
    constructor <;> (congr 2; simp; omega)
  · simp [hb]
def goodK (f : Factor) : Bool :=
  if f.fKind = 1 then decide (f.fFrom = (⟨#[]⟩ : ByteArray)) && nameC 112 f.fTo
  else if f.fKind = 2 ∨ f.fKind = 4 then nameC 112 f.fFrom && nameC 112 f.fTo && decide (f.fFrom ≠ f.fTo)
  else if f.fKind = 3 then nameC 112 f.fFrom && nameC 109 f.fTo && decide (f.fPose.fTurn = 0) else false
def goodF (f : Factor) : Bool := decide (0 ≤ f.fId ∧ f.fId ≤ 99999 ∧ vpose f.fPose ∧ 1 ≤ f.fWeight ∧ f.fWeight ≤ 9999) && goodK f

theorem validF_p (f : Factor) (h : bigF f) : spec_IsValidFactor f = some (goodF f) ∧ impl_IsValidFactor f = some (goodF f) := by
  obtain ⟨h1, h2⟩ := h
  unfold spec_IsValidFactor impl_IsValidFactor
  simp only [(poseName_p _ h1).1, (poseName_p _ h1).2, (poseName_p _ h2).1, (poseName_p _ h2).2, (landmarkName_p _ h2).1, (landmarkName_p _ h2).2, spec_vpose, impl_vpose, spec_l01In, Option.bind_some]
  have tail : ∀ b1 b2 b3 : Bool, ((if f.fKind = 1 then (if f.fFrom = (⟨#[]⟩ : ByteArray) then some (nameC 112 f.fTo) else some false) else ((if (f.fKind = 2) then some (decide (f.fKind = 2)) else some (decide (f.fKind = 4))) : Option Bool).bind (fun d9 => (if d9 = true then (if nameC 112 f.fFrom = true then (if nameC 112 f.fTo = true then some (decide (f.fFrom ≠ f.fTo)) else some false) else some false) else (if (f.fKind = 3) then (if nameC 112 f.fFrom = true then (if nameC 109 f.fTo = true then some (decide (f.fPose.fTurn = 0)) else some false) else some false) else some false)))) : Option Bool) = some (goodK f) := by
    intro _ _ _
    unfold goodK
    by_cases k1 : f.fKind = 1
    · rw [if_pos k1, if_pos k1]; by_cases e : f.fFrom = (⟨#[]⟩ : ByteArray) <;> simp [e]
    · rw [if_neg k1, if_neg k1]
      by_cases k2 : f.fKind = 2
      · simp only [k2, if_true, Option.bind_some, decide_true, true_or]
        cases nameC 112 f.fFrom <;> cases nameC 112 f.fTo <;> simp
      · by_cases k4 : f.fKind = 4
        · simp only [k4, if_true, Option.bind_some, decide_true, or_true]
          cases nameC 112 f.fFrom <;> cases nameC 112 f.fTo <;> simp
        · simp only [k2, k4, if_false, Option.bind_some, decide_false, or_self]
          by_cases k3 : f.fKind = 3
          · simp only [k3, if_true]; cases nameC 112 f.fFrom <;> cases nameC 109 f.fTo <;> simp
          · simp [k3]
  have t := tail true true true
  constructor
  · by_cases a : 0 ≤ f.fId ∧ f.fId ≤ 99999 ∧ vpose f.fPose ∧ 1 ≤ f.fWeight ∧ f.fWeight ≤ 9999
    · have e : goodF f = goodK f := by unfold goodF; rw [decide_eq_true a]; rfl
      rw [e, ← t]
      obtain ⟨a1, a2, a3, a4, a5⟩ := a
      simp [a1, a2, a3, a4, a5]
    · have e : goodF f = false := by unfold goodF; rw [decide_eq_false a]; rfl
      rw [e]
      by_cases a1 : 0 ≤ f.fId <;> by_cases a2 : f.fId ≤ 99999 <;> by_cases a3 : vpose f.fPose <;> by_cases a4 : 1 ≤ f.fWeight <;> by_cases a5 : f.fWeight ≤ 9999 <;> first | (exfalso; exact a ⟨a1, a2, a3, a4, a5⟩) | simp [a1, a2, a3, a4, a5]
  · by_cases a : 0 ≤ f.fId ∧ f.fId ≤ 99999 ∧ vpose f.fPose ∧ 1 ≤ f.fWeight ∧ f.fWeight ≤ 9999
    · have e : goodF f = goodK f := by unfold goodF; rw [decide_eq_true a]; rfl
      rw [e, ← t]
      obtain ⟨a1, a2, a3, a4, a5⟩ := a
      rw [if_neg (by omega), if_neg (by omega), decide_eq_true a3, if_pos rfl, if_neg (by omega)]
      simp only [Option.bind_some]
      rw [decide_eq_false (by omega)]
      simp
    · have e : goodF f = false := by unfold goodF; rw [decide_eq_false a]; rfl
      rw [e]
      by_cases a1 : f.fId < 0
      · simp [a1]
      by_cases a2 : 99999 < f.fId
      · simp [a1, a2]
      by_cases a3 : vpose f.fPose
      · by_cases a4 : f.fWeight < 1
        · simp [a1, a2, a3, a4]
        · by_cases a5 : 9999 < f.fWeight
          · simp [a1, a2, a3, a4, a5]
          · exfalso; exact a ⟨by omega, by omega, a3, by omega, by omega⟩
      · simp [a1, a2, a3]
end Go.Ev
