/- The exact laws of dead reckoning and of conflicts. -/
import Derived.Test.YtbfjidhekfnfjaaP9
import Derived.Test.YtbfjidhekfnfjaaPM
set_option linter.all false
namespace Go.Ev
set_option linter.all false
theorem eqPoseS_self (l : List Pose) (h : l.length ≤ 4194304) : laws_eqPoseS l l = some true := by
  unfold laws_eqPoseS
  rw [if_neg (by simp), lp_all (step := laws_eqPoseS_L1 l l) l.length (fun _ => false) false (fun k hk => by
    unfold laws_eqPoseS_L1
    rw [if_pos (by omega), idx_lt hk, wi (by omega)]
    simp only [Option.bind_some, eqPose_self, if_true]; rfl) (by unfold laws_eqPoseS_L1; rw [if_neg (by omega)])]
  simp
theorem eqBoolS_self (l : List Bool) (h : l.length ≤ 4194304) : laws_eqBoolS l l = some true := by
  unfold laws_eqBoolS
  rw [if_neg (by simp), lp_all (step := laws_eqBoolS_L1 l l) l.length (fun _ => false) false (fun k hk => by
    unfold laws_eqBoolS_L1
    rw [if_pos (by omega), idx_lt hk, wi (by omega)]
    simp only [Option.bind_some, beq_self_eq_true, if_true]; rfl) (by unfold laws_eqBoolS_L1; rw [if_neg (by omega)])]
  simp
theorem law_DeadReckoning (l : List Factor) (h : okL okFactor l) : laws_FnExactDeadReckoning l = some true := by
  obtain ⟨hb, hf⟩ := bigF_of h
  obtain ⟨r, e, hr⟩ := szFactorS_p l hb hf
  unfold laws_FnExactDeadReckoning
  rw [e]
  simp only [Option.bind_some]
  by_cases h0 : r < 0
  · rw [if_pos h0]
  · rw [if_neg h0]
    obtain ⟨hl, hs⟩ := hr h0
    obtain ⟨v, ev1, ev2, hv1, hv2⟩ := Dead_p l (by omega) hf
    have e1 : laws_markFactorS l 1 = some (((1 + 8 * l.length : Nat) : Int), _) := markFactorS_m l 1 (by omega)
    obtain ⟨m, e4, e5, e6⟩ := markPoseS_p v.1 1 (by omega)
    obtain ⟨m', e7, e8, e9⟩ := markBoolS_p v.2 (1 + 3 * v.1.length) (by omega)
    have e4 : laws_markPoseS v.1 1 = some (((1 + 3 * v.1.length : Nat) : Int), m) := e4
    have e6 : laws_heldPoseS m 1 = some ((1 + 3 * v.1.length : Nat) : Int) := e6
    rw [toFactorS_id l hl]
    simp only [Option.bind_some, ev1, ev2, eqPoseS_self v.1 (by omega), eqBoolS_self v.2 (by omega), eqFactorS_self l (by omega), toFactorS_id l hl, if_true, Bool.not_true, Bool.false_eq_true, if_false, e1, e4, e6, e7, e9]
    rw [if_neg (show ¬ (((1 + 8 * l.length : Nat) : Int) < 0) by omega)]
    simp only [Option.bind_some, Bool.false_eq_true, if_false]
    rw [if_neg (show ¬ (((1 + 3 * v.1.length : Nat) : Int) < 0) by omega), if_neg (show ¬ (((1 + 3 * v.1.length + v.2.length : Nat) : Int) < 0) by omega)]
    simp only [ne_eq, not_true, if_false]
    rw [if_neg (show ¬ (((1 + 3 * v.1.length : Nat) : Int) < 0) by omega), if_neg (show ¬ (((1 + 3 * v.1.length + v.2.length : Nat) : Int) < 0) by omega)]
theorem HeadingsOf_q (l : List Factor) (hl : l.length ≤ 1048577) (hf : ∀ f ∈ l, bigF f) (h : isFL l = true) : ∃ v, spec_HeadingsOf l = some v ∧ impl_HeadingsOf l = some v ∧ HOk l (namesOf l) v := by
  unfold spec_HeadingsOf impl_HeadingsOf
  rw [spec_isFL l hl hf, impl_isFL l hl hf, spec_NamesOf_p l hl, impl_NamesOf_p l hl]
  obtain ⟨h1, h2, _⟩ := isFL_facts h
  obtain ⟨v, e1, e2, H⟩ := head_loops l (namesOf l) _ (HOk_of h)
  refine ⟨v, ?_, ?_, H⟩
  · simp only [Option.bind_some, h, if_true, fill_neg (namesOf l) (by omega), e1]
  · simp only [Option.bind_some, h, if_true]
    rw [show impl_HeadingsOf_L1 = spec_HeadingsOf_L1 from rfl, fill_neg (namesOf l) (by omega)]
    simp only [Option.bind_some, e2]
def clash (ns : List ByteArray) (a : List Int) (y : Factor) : Bool :=
  decide (y.fKind ≠ 3) && decide (0 ≤ (if y.fKind = 1 then 0 else atI 0 a (nIdx ns y.fFrom))) && decide (0 ≤ atI 0 a (nIdx ns y.fTo)) && decide (((if y.fKind = 1 then 0 else atI 0 a (nIdx ns y.fFrom)) + y.fPose.fTurn).tmod 4 ≠ atI 0 a (nIdx ns y.fTo))
def clashes (ns : List ByteArray) (a : List Int) (t : List Int) (y : Factor) : List Int := if clash ns a y then t ++ [y.fId] else t
theorem clashes_len (ns : List ByteArray) (a t : List Int) (y : Factor) : (clashes ns a t y).length ≤ t.length + 1 := by unfold clashes; split <;> simp
theorem conf_spec (l : List Factor) (ns : List ByteArray) (a : List Int) (H : HOk l ns a) : lp (spec_HeadingConflicts_L1 l ns a) (0, ([] : List Int)) = some (l.foldl (clashes ns a) []) ∧ (l.foldl (clashes ns a) []).length ≤ l.length := by
  have e := lp_foldl (step := spec_HeadingConflicts_L1 l ns a) l (fun k (t : List Int) => ((k : Int), t)) (clashes ns a) (fun t => t) (fun k t => t.length ≤ k)
    (fun k t hk hi => by
      refine ⟨?_, by have := clashes_len ns a t l[k]; omega⟩
      have hm : l[k] ∈ l := List.getElem_mem hk
      have ht := nIdx_mem (H.to _ hm)
      have hb := nIdx_bound ns (l[k]).fTo
      have hfb := nIdx_bound ns (l[k]).fFrom
      have hfr := H.fr _ hm
      have hlen := H.len
      have hs := H.small
      have hg := goodF_facts (H.good _ hm)
      have hls := H.lsmall
      unfold spec_HeadingConflicts_L1 clashes clash
      simp only []
      rw [if_pos (by omega), idx_lt hk, wi (n := (k : Int) + 1) (by omega), chk_pos (by omega)]
      generalize l[k] = y at *
      simp only [Option.bind_some, l17Index_same, nIdx_p ns _ hs, letO_bind]
      rw [idx_at (i := nIdx ns y.fTo) 0 ht (by omega)]
      have r1 := H.rng _ (atI_mem (d := 0) ht (by omega : nIdx ns y.fTo < a.length))
      obtain ⟨v1, v2, _⟩ := hg.2.2.1
      by_cases k1 : y.fKind = 1
      · have he := hg.2.2.2.2.2.2.2.1 k1
        simp only [he, ne_eq, not_true, if_false, Option.bind_some, k1, if_true]
        generalize atI 0 a (nIdx ns y.fTo) = x at *
        rw [wi (by omega)]
        generalize (0 + y.fPose.fTurn).tmod 4 = q
        by_cases h1 : 0 ≤ x <;> by_cases h2 : q = x <;> simp [h1, h2]
      · have he := hg.2.2.2.2.2.2.2.2.1 k1
        have hf := nIdx_mem (hfr k1)
        have r2 := H.rng _ (atI_mem (d := 0) hf (by omega : nIdx ns y.fFrom < a.length))
        simp only [ne_eq, he, not_false_eq_true, if_true, Option.bind_some, k1, if_false]
        rw [idx_at (i := nIdx ns y.fFrom) 0 hf (by omega)]
        simp only [Option.bind_some]
        generalize atI 0 a (nIdx ns y.fTo) = x at *
        generalize atI 0 a (nIdx ns y.fFrom) = z at *
        rw [wi (by omega)]
        by_cases k3 : y.fKind = 3 <;> by_cases h1 : 0 ≤ x <;> by_cases h3 : 0 ≤ z <;> by_cases h2 : (z + y.fPose.fTurn).tmod 4 = x <;> simp [k3, h1, h2, h3])
    (fun t hi => by unfold spec_HeadingConflicts_L1; simp only []; rw [if_neg (by omega)]) [] (by simp)
  rw [show ((0 : Nat) : Int) = 0 from rfl] at e
  exact e
theorem conf_impl (l : List Factor) (ns : List ByteArray) (a : List Int) (H : HOk l ns a) : lp (impl_HeadingConflicts_L1 l ns a) (0, ([] : List Int)) = some (l.foldl (clashes ns a) []) := by
  have e := lp_foldl (step := impl_HeadingConflicts_L1 l ns a) l (fun k (t : List Int) => ((k : Int), t)) (clashes ns a) (fun t => t) (fun k t => t.length ≤ k)
    (fun k t hk hi => by
      refine ⟨?_, by have := clashes_len ns a t l[k]; omega⟩
      have hm : l[k] ∈ l := List.getElem_mem hk
      have ht := nIdx_mem (H.to _ hm)
      have hb := nIdx_bound ns (l[k]).fTo
      have hfb := nIdx_bound ns (l[k]).fFrom
      have hfr := H.fr _ hm
      have hlen := H.len
      have hs := H.small
      have hg := goodF_facts (H.good _ hm)
      have hls := H.lsmall
      unfold impl_HeadingConflicts_L1 clashes clash
      simp only []
      rw [if_pos (by omega), idx_lt hk, wi (n := (k : Int) + 1) (by omega), chk_pos (by omega)]
      generalize l[k] = y at *
      simp only [Option.bind_some, nIdx_p ns _ hs, letO_bind]
      rw [idx_at (i := nIdx ns y.fTo) 0 ht (by omega)]
      have r1 := H.rng _ (atI_mem (d := 0) ht (by omega : nIdx ns y.fTo < a.length))
      obtain ⟨v1, v2, _⟩ := hg.2.2.1
      by_cases k1 : y.fKind = 1
      · simp only [ne_eq, not_true, if_false, Option.bind_some, k1, if_true]
        generalize atI 0 a (nIdx ns y.fTo) = x at *
        rw [wi (by omega)]
        by_cases h1 : x < 0
        · have h3 : ¬ 0 ≤ x := by omega
          simp [h1, h3]
        · have h3 : 0 ≤ x := by omega
          generalize (0 + y.fPose.fTurn).tmod 4 = q
          by_cases h2 : q = x <;> simp [h1, h2, h3]
      · have hf := nIdx_mem (hfr k1)
        have r2 := H.rng _ (atI_mem (d := 0) hf (by omega : nIdx ns y.fFrom < a.length))
        simp only [ne_eq, not_false_eq_true, if_true, Option.bind_some, k1, if_false]
        rw [idx_at (i := nIdx ns y.fFrom) 0 hf (by omega)]
        simp only [Option.bind_some]
        generalize atI 0 a (nIdx ns y.fTo) = x at *
        generalize atI 0 a (nIdx ns y.fFrom) = z at *
        rw [wi (by omega)]
        by_cases h1 : x < 0
        · have h3 : ¬ 0 ≤ x := by omega
          by_cases k3 : y.fKind = 3 <;> simp [k3, h1, h3]
        · have h3 : 0 ≤ x := by omega
          by_cases k3 : y.fKind = 3 <;> by_cases h4 : 0 ≤ z <;> by_cases h2 : (z + y.fPose.fTurn).tmod 4 = x <;> simp [k3, h1, h2, h3, h4])
    (fun t hi => by unfold impl_HeadingConflicts_L1; simp only []; rw [if_neg (by omega)]) [] (by simp)
  rw [show ((0 : Nat) : Int) = 0 from rfl] at e
  exact e.1
theorem Conflicts_p (l : List Factor) (hl : l.length ≤ 1048577) (hf : ∀ f ∈ l, bigF f) : ∃ v, spec_HeadingConflicts l = some v ∧ impl_HeadingConflicts l = some v ∧ v.length ≤ 40 := by
  unfold spec_HeadingConflicts impl_HeadingConflicts
  rw [spec_isFL l hl hf, impl_isFL l hl hf, spec_NamesOf_p l hl, impl_NamesOf_p l hl]
  by_cases h : isFL l = true
  · obtain ⟨v, e1, e2, H⟩ := HeadingsOf_q l hl hf h
    have hs := (isFL_facts h).1
    obtain ⟨e3, e4⟩ := conf_spec l _ v H
    refine ⟨_, ?_, ?_, Nat.le_trans e4 hs⟩
    · simp only [Option.bind_some, h, if_true, e1, e3]
    · simp only [Option.bind_some, h, if_true, e2, conf_impl l _ v H]
  · simp [h]
theorem law_HeadingConflicts (l : List Factor) (h : okL okFactor l) : laws_FnExactHeadingConflicts l = some true := by
  obtain ⟨hb, hf⟩ := bigF_of h
  obtain ⟨r, e, hr⟩ := szFactorS_p l hb hf
  unfold laws_FnExactHeadingConflicts
  rw [e]
  simp only [Option.bind_some]
  by_cases h0 : r < 0
  · rw [if_pos h0]
  · rw [if_neg h0]
    obtain ⟨hl, hs⟩ := hr h0
    obtain ⟨v, ev1, ev2, hv⟩ := Conflicts_p l (by omega) hf
    have e1 : laws_markFactorS l 1 = some (((1 + 8 * l.length : Nat) : Int), _) := markFactorS_m l 1 (by omega)
    obtain ⟨m', e4, e5, e6⟩ := markIntS_p v 1 (by omega)
    have e4 : laws_markIntS v 1 = some (((1 + v.length : Nat) : Int), m') := e4
    have e6 : laws_heldIntS m' 1 = some ((1 + v.length : Nat) : Int) := e6
    rw [toFactorS_id l hl]
    simp only [Option.bind_some, ev1, ev2, eqIntS_self v (by omega), eqFactorS_self l (by omega), toFactorS_id l hl, if_true, e1, e4, e6]
    rw [if_neg (show ¬ (((1 + 8 * l.length : Nat) : Int) < 0) by omega)]
    simp only [Option.bind_some, Bool.not_true, Bool.false_eq_true, if_false]
    rw [if_neg (show ¬ (((1 + v.length : Nat) : Int) < 0) by omega)]
    simp; omega
end Go.Ev
