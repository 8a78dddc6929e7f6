/- Plain laws: path lengths; factors removed and added. -/
import Derived.Test.YtlddojplaiineaaP6
set_option linter.all false
namespace Go.Ev
set_option linter.all false
def absI (x : Int) : Int := if x < 0 then 0 - x else x
def plen (t : Int) (f : Factor) : Int := if f.fKind = 2 then t + (absI f.fPose.fX + absI f.fPose.fY) else t
theorem abs_p (x : Int) (h : -1000000 ≤ x ∧ x ≤ 1000000) : impl_absOf x = some (absI x) ∧ 0 ≤ absI x ∧ absI x ≤ 1000000 := by
  unfold impl_absOf absI
  by_cases h0 : x < 0
  · rw [if_pos h0, if_pos h0, wi (by omega)]; exact ⟨rfl, by omega, by omega⟩
  · rw [if_neg h0, if_neg h0]; exact ⟨rfl, by omega, by omega⟩
theorem l17Size_same : spec_l17Size = impl_absOf := rfl
theorem PathLength_p (l : List Factor) (hl : l.length ≤ 1048577) (hf : ∀ f ∈ l, bigF f) : ∃ v, spec_PathLength l = some v ∧ impl_PathLength l = some v := by
  unfold spec_PathLength impl_PathLength
  rw [spec_isFL l hl hf, impl_isFL l hl hf]
  by_cases h : isFL l = true
  · obtain ⟨h1, h2, h3, h4⟩ := isFL_facts h
    simp only [Option.bind_some, h, if_true]
    have e1 := lp_foldl (step := spec_PathLength_L1 l) l (fun k (t : Int) => (t, (k : Int))) plen (fun t => t) (fun k t => 0 ≤ t ∧ t ≤ 2000000 * k)
      (fun k t hk hi => by
        have hv := (goodF_facts (h3 k hk)).2.2.1
        obtain ⟨_, _, b1, b2, b3, b4⟩ := hv
        have a1 := abs_p _ ⟨b1, b2⟩
        have a2 := abs_p _ ⟨b3, b4⟩
        refine ⟨?_, by unfold plen; split <;> omega⟩
        unfold spec_PathLength_L1 plen
        simp only []
        rw [if_pos (by omega), idx_lt hk]
        simp only [Option.bind_some, l17Size_same, a1.1, a2.1]
        rw [wi (n := (k : Int) + 1) (by omega), wi (n := t + absI (l[k]).fPose.fX) (by omega), wi (by omega)]
        split <;> simp [letO]; omega)
      (fun t hi => by unfold spec_PathLength_L1; simp only []; rw [if_neg (by omega)]) 0 (by omega)
    have e2 := lp_foldl (step := impl_PathLength_L1 l) l (fun k (t : Int) => (t, (k : Int))) plen (fun t => t) (fun k t => 0 ≤ t ∧ t ≤ 2000000 * k)
      (fun k t hk hi => by
        have hv := (goodF_facts (h3 k hk)).2.2.1
        obtain ⟨_, _, b1, b2, b3, b4⟩ := hv
        have a1 := abs_p _ ⟨b1, b2⟩
        have a2 := abs_p _ ⟨b3, b4⟩
        refine ⟨?_, by unfold plen; split <;> omega⟩
        unfold impl_PathLength_L1 plen
        simp only []
        rw [if_pos (by omega), idx_lt hk]
        simp only [Option.bind_some, a1.1, a2.1]
        rw [wi (n := (k : Int) + 1) (by omega), wi (n := absI (l[k]).fPose.fX + _) (by omega), wi (by omega)]
        split <;> simp [letO])
      (fun t hi => by unfold impl_PathLength_L1; simp only []; rw [if_neg (by omega)]) 0 (by omega)
    rw [show ((0 : Nat) : Int) = 0 from rfl] at e1 e2
    rw [e1.1, e2.1]
    exact ⟨_, rfl, rfl⟩
  · simp [h]
theorem law_PathLength (l : List Factor) (h : okL okFactor l) : laws_FnExactPathLength l = some true := by
  obtain ⟨hb, hf⟩ := bigF_of h
  obtain ⟨r, e, hr⟩ := szFactorS_p l hb hf
  unfold laws_FnExactPathLength
  rw [e]
  simp only [Option.bind_some]
  by_cases h0 : r < 0
  · rw [if_pos h0]
  · rw [if_neg h0]
    obtain ⟨hl, hs⟩ := hr h0
    obtain ⟨v, e1, e2⟩ := PathLength_p l (by omega) hf
    rw [toFactorS_id l hl]
    simp only [Option.bind_some, e1, e2, eqFactorS_self l (by omega), ne_eq, not_true, if_false, if_true]
-- factors that are removed
theorem mono_ids {l : List Factor} (h : ∀ k (hk : k + 1 < l.length), (l[k]).fId < (l[k + 1]).fId) : ∀ i j (hi : i < l.length) (hj : j < l.length), i < j → (l[i]).fId < (l[j]).fId := by
  intro i j hi hj hij
  induction j with
  | zero => omega
  | succ j ih =>
    by_cases e : i = j
    · subst e; exact h i hj
    · have := ih (by omega) (by omega)
      have := h j hj
      omega
def fIdx (l : List Factor) (n : Int) : Option Nat := l.findIdx? (fun f => decide (f.fId = n))
theorem findFactor_p (l : List Factor) (n : Int) (hl : l.length ≤ 4194304) : impl_findFactor l n = some (match fIdx l n with | some k => (k : Int) | none => -1) := by
  unfold impl_findFactor
  obtain ⟨r, e, q⟩ := lp_search (step := impl_findFactor_L1 l n) l.length (fun r => match r with | .inl _ => fIdx l n = none | .inr i => ∃ k : Nat, i = k ∧ fIdx l n = some k) (fun k => ∀ i (hi : i < l.length), i < k → (l[i]).fId ≠ n) (by intro i _ h; omega)
    (fun k hk hj => by
      unfold impl_findFactor_L1
      rw [if_pos (by omega), idx_lt hk]
      simp only [Option.bind_some]
      by_cases hy : (l[k]).fId = n
      · right
        refine ⟨.inr (k : Int), by rw [if_pos hy], k, rfl, ?_⟩
        exact List.findIdx?_eq_some_iff_getElem.2 ⟨hk, by simpa using hy, fun j hjk => by simpa using hj j (by omega) hjk⟩
      · left
        rw [if_neg hy, wi (by omega)]
        refine ⟨rfl, fun i hi h => ?_⟩
        by_cases e : i = k
        · subst e; exact hy
        · exact hj i hi (by omega))
    (fun hj => by
      unfold impl_findFactor_L1
      rw [if_neg (by omega)]
      refine ⟨_, rfl, ?_⟩
      exact List.findIdx?_eq_none_iff.2 (fun x hx => by
        obtain ⟨i, hi, e⟩ := List.getElem_of_mem hx
        simpa [← e] using hj i hi hi))
  rw [e]
  cases r with
  | inl u => simp only at q; rw [q]; rfl
  | inr i => simp only at q; obtain ⟨k, rfl, q⟩ := q; rw [q]; rfl
theorem spec_Remove_loop (l : List Factor) (n : Int) (hl : l.length ≤ 1048577) : lp (spec_RemoveFactor_L1 l n) (0, ([] : List Factor)) = some (l.filter (fun f => decide (f.fId ≠ n))) := by
  have e := lp_foldl (step := spec_RemoveFactor_L1 l n) l (fun k (t : List Factor) => ((k : Int), t)) (fun t f => if f.fId ≠ n then t ++ [f] else t) (fun t => t) (fun k t => t.length ≤ k)
    (fun k t hk hi => by
      refine ⟨?_, by
        split
        · rw [List.length_append]; simp only [List.length_cons, List.length_nil]; omega
        · omega⟩
      unfold spec_RemoveFactor_L1
      simp only []
      rw [if_pos (by omega), idx_lt hk]
      simp only [Option.bind_some]
      rw [chk_pos (by omega), wi (by omega)]
      simp only [Option.bind_some, letO_bind]
      split <;> rfl)
    (fun t hi => by unfold spec_RemoveFactor_L1; simp only []; rw [if_neg (by omega)]) [] (by simp)
  rw [show ((0 : Nat) : Int) = 0 from rfl] at e
  rw [e.1]
  congr 1
  have : ∀ (r t : List Factor), r.foldl (fun t f => if f.fId ≠ n then t ++ [f] else t) t = t ++ r.filter (fun f => decide (f.fId ≠ n)) := by
    intro r
    induction r with
    | nil => intro t; simp
    | cons f r ih => intro t; rw [List.foldl_cons, ih]; by_cases hf : f.fId = n <;> simp [hf]
  rw [this]; simp
theorem copyF_p (l : List Factor) (hl : l.length ≤ 4194304) : impl_copyFactors l = some l := by
  unfold impl_copyFactors
  rw [chk_pos (by simp; omega)]; simp [letO]
theorem Remove_p (l : List Factor) (n : Int) (hl : l.length ≤ 1048577) (hf : ∀ f ∈ l, bigF f) : ∃ v : List Factor × Bool, spec_RemoveFactor l n = some v ∧ impl_RemoveFactor l n = some v ∧ v.1.length ≤ 1048577 := by
  unfold spec_RemoveFactor impl_RemoveFactor
  rw [spec_isFL l hl hf, impl_isFL l hl hf, findFactor_p l n (by omega), spec_Remove_loop l n hl]
  have c1 : ((([] : List Factor).length + l.length) * 80 ≤ 140737488355328) := by simp; omega
  simp only [Option.bind_some, copyF_p l (by omega), chk_pos c1, letO_bind]
  by_cases h : isFL l = true
  · obtain ⟨h1, h2, h3, h4⟩ := isFL_facts h
    simp only [h, if_true, Option.bind_some, decide_eq_true_eq]
    cases hx : fIdx l n with
    | none =>
      have hn := List.findIdx?_eq_none_iff.1 hx
      have e : l.filter (fun f => decide (f.fId ≠ n)) = l := List.filter_eq_self.2 (fun f hm => by simpa using hn f hm)
      rw [e]
      exact ⟨(l, false), by simp, by simp, hl⟩
    | some k =>
      obtain ⟨hk, ha, hb⟩ := List.findIdx?_eq_some_iff_getElem.1 hx
      have ha : (l[k]).fId = n := by simpa using ha
      have hm := mono_ids h4
      have e : l.filter (fun f => decide (f.fId ≠ n)) = l.take k ++ l.drop (k + 1) := by
        conv => lhs; rw [show l = l.take k ++ l[k] :: l.drop (k + 1) by rw [List.getElem_cons_drop, List.take_append_drop]]
        rw [List.filter_append, List.filter_cons_of_neg (by simpa using ha)]
        congr 1
        · refine List.filter_eq_self.2 (fun f hf => ?_)
          obtain ⟨i, hi, e⟩ := List.getElem_of_mem hf
          have hi' : i < k := by have := hi; simp at this; omega
          have := hm i k (by omega) hk hi'
          rw [List.getElem_take] at e
          have : f.fId ≠ n := by rw [← e]; omega
          simpa using this
        · refine List.filter_eq_self.2 (fun f hf => ?_)
          obtain ⟨i, hi, e⟩ := List.getElem_of_mem hf
          have hi' : k + 1 + i < l.length := by have := hi; simp at this; omega
          have := hm k (k + 1 + i) hk hi' (by omega)
          rw [List.getElem_drop] at e
          have : f.fId ≠ n := by rw [← e]; omega
          simpa using this
      rw [e]
      have len : (l.take k ++ l.drop (k + 1)).length + 1 = l.length := by simp; omega
      refine ⟨(l.take k ++ l.drop (k + 1), true), ?_, ?_, by simp only; omega⟩
      · rw [if_neg (by omega)]
      · dsimp only
        rw [if_neg (by omega)]
        rw [sub_all l 0 (k : Int) (by omega), wi (by omega), sub_all l ((k : Int) + 1) l.length (by omega)]
        simp only [Option.bind_some]
        rw [show ((k : Int) - 0).toNat = k by omega, show ((k : Int) + 1).toNat = k + 1 by omega, show (0 : Int).toNat = 0 from rfl, List.drop_zero, copyF_p _ (by simp; omega)]
        simp only [Option.bind_some]
        rw [List.take_of_length_le (l := l.drop (k + 1)) (by simp; omega), chk_pos (by simp; omega)]
        rfl
  · simp only [h, if_false, Option.bind_some, Bool.false_eq_true]
    exact ⟨(l, false), rfl, rfl, hl⟩
/-- the tail that laws with a factor list and a truth share -/
theorem law_RemoveFactor (l : List Factor) (n : Int) (h : okL okFactor l) (_ : okI .i64 n) : laws_FnExactRemoveFactor l n = some true := by
  obtain ⟨hb, hf⟩ := bigF_of h
  obtain ⟨r, e, hr⟩ := szFactorS_p l hb hf
  unfold laws_FnExactRemoveFactor
  rw [e]
  simp only [Option.bind_some]
  by_cases h0 : r < 0
  · rw [if_pos h0]
  · rw [if_neg h0]
    obtain ⟨hl, hs⟩ := hr h0
    obtain ⟨v, ev1, ev2, hv⟩ := Remove_p l n (by omega) hf
    obtain ⟨m, e1, e2, e3⟩ := markFactorS_p l 1 (by omega)
    obtain ⟨m', e4, e5, e6⟩ := markFactorS_p v.1 1 (by omega)
    have e1 : laws_markFactorS l 1 = some (((1 + 8 * l.length : Nat) : Int), m) := e1
    have e4 : laws_markFactorS v.1 1 = some (((1 + 8 * v.1.length : Nat) : Int), m') := e4
    have e6 : laws_heldFactorS m' 1 = some ((1 + 8 * v.1.length : Nat) : Int) := e6
    rw [toFactorS_id l hl]
    simp only [Option.bind_some, ev1, ev2, eqFactorS_self v.1 (by omega), eqFactorS_self l (by omega), toFactorS_id l hl, if_true, e1, e4, e6, beq_self_eq_true, Bool.not_true, Bool.false_eq_true, if_false]
    rw [if_neg (show ¬ (((1 + 8 * l.length : Nat) : Int) < 0) by omega)]
    simp only [Option.bind_some, Bool.not_true, Bool.false_eq_true, if_false]
    rw [if_neg (show ¬ (((1 + 8 * v.1.length : Nat) : Int) < 0) by omega)]
    simp; omega
-- factors that are added
/-- how many factors lie below the id -/
def below (l : List Factor) (n : Int) : Nat := (l.takeWhile (fun f => decide (f.fId < n))).length
theorem below_le (l : List Factor) (n : Int) : below l n ≤ l.length := by
  unfold below
  exact (List.takeWhile_sublist _).length_le
theorem below_lt (l : List Factor) (n : Int) : ∀ i (hi : i < l.length), i < below l n → (l[i]).fId < n := by
  intro i hi h
  unfold below at h
  have e : (l.takeWhile (fun f => decide (f.fId < n)))[i] = l[i] := by
    obtain ⟨t, ht⟩ := List.takeWhile_prefix (l := l) (fun f => decide (f.fId < n))
    have h1 : l[i]? = (l.takeWhile (fun f => decide (f.fId < n)))[i]? := by
      conv => lhs; rw [← ht]
      rw [List.getElem?_append_left h]
    rw [List.getElem?_eq_getElem h, List.getElem?_eq_getElem hi] at h1
    exact (Option.some.inj h1).symm
  have := List.all_takeWhile (l := l) (p := fun f => decide (f.fId < n))
  rw [List.all_eq_true] at this
  have := this _ (List.getElem_mem h)
  rw [e] at this
  simpa using this
theorem below_not (l : List Factor) (n : Int) (h : below l n < l.length) : ¬ (l[below l n]).fId < n := by
  have : ∀ (l : List Factor) (h : (l.takeWhile (fun f => decide (f.fId < n))).length < l.length), ¬ (l[(l.takeWhile (fun f => decide (f.fId < n))).length]).fId < n := by
    intro l
    induction l with
    | nil => intro h; simp at h
    | cons f r ih =>
      intro h
      by_cases hf : f.fId < n
      · have e : (f :: r).takeWhile (fun f => decide (f.fId < n)) = f :: r.takeWhile (fun f => decide (f.fId < n)) := by rw [List.takeWhile_cons_of_pos (by simpa using hf)]
        simp only [e, List.length_cons, List.getElem_cons_succ] at h ⊢
        exact ih (by omega)
      · have e : (f :: r).takeWhile (fun f => decide (f.fId < n)) = [] := by rw [List.takeWhile_cons_of_neg (by simpa using hf)]
        simp only [e, List.length_nil, List.getElem_cons_zero]
        exact hf
  exact this l h
theorem Add_loop (l : List Factor) (f : Factor) (hl : l.length ≤ 4194304) : lp (impl_AddFactor_L1 l f) 0 = some (below l f.fId : Int) := by
  refine lp_count (below l f.fId) _ (fun k hk => ?_) ?_
  · have hk' : k < l.length := by have := below_le l f.fId; omega
    unfold impl_AddFactor_L1
    rw [if_pos (by omega), idx_lt hk']
    simp only [Option.bind_some]
    rw [decide_eq_true (below_lt l f.fId k hk' hk), if_pos rfl, wi (by omega)]
    rfl
  · unfold impl_AddFactor_L1
    by_cases h : below l f.fId < l.length
    · rw [if_pos (by omega), idx_lt h]
      simp only [Option.bind_some]
      rw [decide_eq_false (below_not l f.fId h)]
      rfl
    · rw [if_neg (by omega)]; rfl
theorem Add_loop_same : spec_AddFactor_L1 = impl_AddFactor_L1 := rfl
theorem Add_p (l : List Factor) (f : Factor) (hl : l.length ≤ 1048576) (hf : ∀ f ∈ l, bigF f) (hff : bigF f) : ∃ v : List Factor × Bool, spec_AddFactor l f = some v ∧ impl_AddFactor l f = some v ∧ v.1.length ≤ 1048577 := by
  unfold spec_AddFactor impl_AddFactor
  have c1 : ((([] : List Factor).length + l.length) * 80 ≤ 140737488355328) := by simp; omega
  rw [spec_isFL l (by omega) hf, impl_isFL l (by omega) hf, chk_pos c1, findFactor_p l _ (by omega)]
  simp only [Option.bind_some, letO_bind, List.nil_append, copyF_p l (by omega), Add_loop_same, Add_loop l f (by omega)]
  by_cases h : isFL l = true
  · obtain ⟨h1, h2, h3, h4⟩ := isFL_facts h
    have hd := below_le l f.fId
    have hlt := below_lt l f.fId
    have hge := below_not l f.fId
    generalize hde : below l f.fId = d at hd hlt hge
    simp only [h, if_true, Option.bind_some]
    rw [sub_all l 0 (d : Int) (by omega), sub_all l (d : Int) l.length (by omega)]
    simp only [Option.bind_some]
    rw [show ((d : Int) - 0).toNat = d by omega, show (d : Int).toNat = d by omega, show (0 : Int).toNat = 0 from rfl, List.drop_zero, List.take_of_length_le (l := l.drop d) (by rw [List.length_drop]; omega), copyF_p _ (by rw [List.length_take]; omega)]
    simp only [Option.bind_some]
    have hv : (l.take d ++ [f] ++ l.drop d).length = l.length + 1 := by simp; omega
    have hvf : ∀ g ∈ l.take d ++ [f] ++ l.drop d, bigF g := by
      intro g hg
      simp only [List.mem_append, List.mem_singleton] at hg
      rcases hg with (hg | rfl) | hg
      · exact hf g (List.mem_of_mem_take hg)
      · exact hff
      · exact hf g (List.mem_of_mem_drop hg)
    have c2 : (([] : List Factor).length + (l.take d).length) * 80 ≤ 140737488355328 := by simp; omega
    have c3 : ((l.take d).length + 1) * 80 ≤ 140737488355328 := by simp; omega
    have c4 : ((l.take d ++ [f]).length + (l.drop d).length) * 80 ≤ 140737488355328 := by simp; omega
    rw [chk_pos c2, chk_pos c3]
    simp only [Option.bind_some, letO_bind]
    rw [chk_pos c4]
    simp only [Option.bind_some, letO_bind, spec_isFL _ (show (l.take d ++ [f] ++ l.drop d).length ≤ 1048577 by omega) hvf, impl_isFL _ (show (l.take d ++ [f] ++ l.drop d).length ≤ 1048577 by omega) hvf]
    cases hx : fIdx l f.fId with
    | none =>
      simp only []
      rw [decide_eq_false (by omega)]
      simp only [Bool.false_eq_true, if_false]
      by_cases hg : isFL (l.take d ++ [f] ++ l.drop d) = true
      · exact ⟨_, by rw [if_pos hg], by rw [if_pos hg], by simp only; omega⟩
      · exact ⟨_, by rw [if_neg hg], by rw [if_neg hg], by simp only; omega⟩
    | some k =>
      obtain ⟨hk, ha, hb⟩ := List.findIdx?_eq_some_iff_getElem.1 hx
      have ha : (l[k]).fId = f.fId := by simpa using ha
      have hm := mono_ids h4
      have hdk : d = k := by
        have h5 : ¬ k < d := fun h => by have := hlt k hk h; omega
        have h6 : d < l.length := by omega
        have h7 := hge h6
        have h8 : ¬ d < k := fun h => by have := hm d k h6 hk h; omega
        omega
      have hg : isFL (l.take d ++ [f] ++ l.drop d) = false := by
        by_cases hg : isFL (l.take d ++ [f] ++ l.drop d) = true
        · obtain ⟨_, _, _, g4⟩ := isFL_facts hg
          have := g4 d (by omega)
          have e1 : (l.take d ++ [f] ++ l.drop d)[d]'(by omega) = f := by
            rw [List.getElem_append_left (by simp; omega), List.getElem_append_right (by simp; omega)]
            simp
          have e2 : (l.take d ++ [f] ++ l.drop d)[d + 1]'(by omega) = l[k] := by
            subst hdk
            rw [List.getElem_append_right (by simp; omega)]
            simp [Nat.min_eq_left hd]
          rw [e1, e2] at this
          omega
        · simpa using hg
      simp only []
      rw [decide_eq_true (by omega)]
      simp only [hg, Bool.false_eq_true, if_false, if_true]
      exact ⟨_, rfl, rfl, by simp only; omega⟩
  · simp only [h, if_false, Option.bind_some, Bool.false_eq_true, if_true]
    exact ⟨(l, false), rfl, rfl, by simp only; omega⟩
theorem szF_some (f : Factor) (r : Int) : ∃ r2, laws_szFactor f r = some r2 := by
  unfold laws_szFactor
  simp only [letO_bind]
  repeat' split
  all_goals exact ⟨_, rfl⟩
theorem law_AddFactor (l : List Factor) (f : Factor) (h : okL okFactor l) (hff : okFactor f) : laws_FnExactAddFactor l f = some true := by
  obtain ⟨hb, hf⟩ := bigF_of h
  have hf1 : bigF f := by
    have h1 := hff.2.2.1
    have h2 := hff.2.2.2.1
    simp only [okS, maxLen] at h1 h2
    exact ⟨by omega, by omega⟩
  obtain ⟨r, e, hr⟩ := szFactorS_p l hb hf
  obtain ⟨r2, e'⟩ := szF_some f r
  unfold laws_FnExactAddFactor
  rw [e]
  simp only [Option.bind_some, e']
  by_cases h0 : r < 0
  · rw [if_pos h0]
  · rw [if_neg h0]
    by_cases h02 : r2 < 0
    · rw [if_pos h02]
    · rw [if_neg h02]
      obtain ⟨hl, hs⟩ := hr h0
      obtain ⟨v, ev1, ev2, hv⟩ := Add_p l f hl hf hf1
      obtain ⟨m, e1, e2, e3⟩ := markFactorS_p l 1 (by omega)
      obtain ⟨m', e4, e5, e6⟩ := markFactorS_p v.1 1 (by omega)
      have e1 : laws_markFactorS l 1 = some (((1 + 8 * l.length : Nat) : Int), m) := e1
      have e4 : laws_markFactorS v.1 1 = some (((1 + 8 * v.1.length : Nat) : Int), m') := e4
      have e6 : laws_heldFactorS m' 1 = some ((1 + 8 * v.1.length : Nat) : Int) := e6
      rw [toFactorS_id l hl]
      simp only [Option.bind_some, toFactor_id, ev1, ev2, eqFactorS_self v.1 (by omega), eqFactorS_self l (by omega), toFactorS_id l hl, if_true, e1, e4, e6, beq_self_eq_true, Bool.not_true, Bool.false_eq_true, if_false]
      rw [if_neg (show ¬ (((1 + 8 * l.length : Nat) : Int) < 0) by omega)]
      simp only [Option.bind_some, Bool.not_true, Bool.false_eq_true, if_false]
      rw [if_neg (show ¬ (((1 + 8 * v.1.length : Nat) : Int) < 0) by omega)]
      simp; omega
end Go.Ev
