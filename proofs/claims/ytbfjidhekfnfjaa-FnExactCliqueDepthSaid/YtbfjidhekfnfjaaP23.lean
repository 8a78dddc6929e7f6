/- Clique trees: the widest clique, the structure, the depth. -/
import Derived.Test.YtbfjidhekfnfjaaP22
set_option linter.all false
namespace Go.Ev
set_option linter.all false
theorem clique_mem {l : List Clique} (h : szN_CliqueS l ≤ 1048576) {i : Nat} (hi : i < l.length) : szN_Clique l[i] ≤ 1048576 ∧ l.length ≤ 1048576 := by
  unfold szN_CliqueS at h
  have hl := szL_len szN_Clique l
  have he := szL_mem (w := szN_Clique) (List.getElem_mem hi)
  omega
theorem Widest_p (l : List Clique) (h : szN_CliqueS l ≤ 1048576) : ∃ v : Int, spec_WidestClique l = some v ∧ impl_WidestClique l = some v := by
  have hl : l.length ≤ 1048576 := by have := szL_len szN_Clique l; unfold szN_CliqueS at h; omega
  have e1 := lp_foldl (step := spec_WidestClique_L1 l) l (fun i (t : Int) => (t, (i : Int))) (fun t k => max t ((nodesC k).length : Int)) (fun t => t) (fun _ _ => True) (fun i t hk _ => by
    refine ⟨?_, trivial⟩
    unfold spec_WidestClique_L1 spec_l11Max
    simp only []
    rw [if_pos (by omega), idx_lt hk, wi (by omega)]
    simp only [Option.bind_some]
    rw [l14Nodes_p _ (clique_mem h hk).1]
    simp only [Option.bind_some]
    by_cases c : ((nodesC l[i]).length : Int) < t
    · rw [if_pos c, Int.max_eq_left (by omega)]; rfl
    · rw [if_neg c, Int.max_eq_right (by omega)]; rfl) (fun t _ => by unfold spec_WidestClique_L1; simp only []; rw [if_neg (by omega)]) 0 trivial
  have e2 := lp_foldl (step := impl_WidestClique_L1 l) l (fun i (t : Int) => (t, (i : Int))) (fun t k => max t ((nodesC k).length : Int)) (fun t => t) (fun _ _ => True) (fun i t hk _ => by
    refine ⟨?_, trivial⟩
    unfold impl_WidestClique_L1
    simp only []
    rw [if_pos (by omega), wi (by omega), impl_CliqueNodes_p l _ h]
    simp only [Option.bind_some]
    have : nodesP l (i : Int) = nodesC l[i] := by unfold nodesP; rw [if_pos (by omega)]; simp [hk]
    rw [this]; rfl) (fun t _ => by unfold impl_WidestClique_L1; simp only []; rw [if_neg (by omega)]) 0 trivial
  rw [show ((0 : Nat) : Int) = 0 from rfl] at e1 e2
  exact ⟨l.foldl (fun t k => max t ((nodesC k).length : Int)) 0, by unfold spec_WidestClique; rw [e1.1]; rfl, by unfold impl_WidestClique; rw [e2.1]; rfl⟩
theorem law_WidestClique (l : List Clique) (o : okL okClique l) : laws_FnExactWidestClique l = some true := by
  unfold laws_FnExactWidestClique
  rw [sz_CliqueS l o _ (by omega) (by omega)]
  simp only [Option.bind_some]
  by_cases h : (szN_CliqueS l : Int) ≤ 1048576
  · rw [if_pos h, if_neg (by omega), to_CliqueS l (by omega)]
    simp only [Option.bind_some]
    obtain ⟨v, e1, e2⟩ := Widest_p l (by omega)
    rw [e1, e2]
    simp only [Option.bind_some, eq_CliqueS l (by omega), ne_eq, not_true_eq_false, if_false, if_true]
  · rw [if_neg h, if_pos (by omega)]
theorem hasInt_p (l : List Int) (n : Int) (h : l.length ≤ 4294967296) : impl_hasInt l n = some (decide (n ∈ l)) := by
  have main : ∀ m k : Nat, m + k = l.length → lp (impl_hasInt_L1 l n) (k : Int) = some (if n ∈ l.drop k then .inr true else .inl ()) := by
    intro m
    induction m with
    | zero =>
      intro k hk
      have : k = l.length := by omega
      subst this
      rw [lp_done (r := .inl ()) (by unfold impl_hasInt_L1; rw [if_neg (by omega)]), List.drop_length]; simp
    | succ m ih =>
      intro k hk
      have hlt : k < l.length := by omega
      rw [List.drop_eq_getElem_cons hlt]
      by_cases c : l[k] = n
      · rw [lp_done (r := .inr true) (by unfold impl_hasInt_L1; rw [if_pos (by omega), idx_lt hlt]; simp [c]), if_pos (by simp [c])]
      · have e : impl_hasInt_L1 l n (k : Int) = some (.inl ((k : Int) + 1)) := by
          unfold impl_hasInt_L1; rw [if_pos (by omega), idx_lt hlt, wi (by omega)]; simp [c]
        rw [lp_more e, show (k : Int) + 1 = ((k + 1 : Nat) : Int) by omega, ih (k + 1) (by omega)]
        have : (n ∈ l[k] :: l.drop (k + 1)) ↔ n ∈ l.drop (k + 1) := by
          rw [List.mem_cons]; exact ⟨fun h => h.resolve_left (fun e => c e.symm), .inr⟩
        simp only [this]
  have := main l.length 0 (by omega)
  rw [show ((0 : Nat) : Int) = 0 from rfl, List.drop_zero] at this
  unfold impl_hasInt
  rw [this]
  by_cases c : n ∈ l <;> simp [c]
theorem l07Has_p (l : List Int) (n : Int) (h : l.length ≤ 4294967296) : spec_l07Has l n = some (decide (n ∈ l)) := hasInt_p l n h
/-- the frontal nodes are gone through: none may have been seen -/
theorem front_p (y : Clique) (seen : List Int) (h : seen.length + y.fFrontal.length ≤ 4294967296) : ∃ r, lp (impl_IsCliqueTree_L1 y) (0, seen) = some r ∧ lp (spec_IsCliqueTree_L1 y) (0, seen) = some r ∧ (r = .inl (seen ++ y.fFrontal) ∨ r = .inr false) := by
  have key : ∃ r, lp (impl_IsCliqueTree_L1 y) (0, seen) = some r ∧ (r = .inl (seen ++ y.fFrontal) ∨ r = .inr false) := by
    have main : ∀ m k : Nat, m + k = y.fFrontal.length → ∃ r, lp (impl_IsCliqueTree_L1 y) ((k : Int), seen ++ y.fFrontal.take k) = some r ∧ (r = .inl (seen ++ y.fFrontal) ∨ r = .inr false) := by
      intro m
      induction m with
      | zero =>
        intro k hk
        have : k = y.fFrontal.length := by omega
        subst this
        refine ⟨.inl (seen ++ y.fFrontal), ?_, .inl rfl⟩
        rw [List.take_length]
        exact lp_done (by unfold impl_IsCliqueTree_L1; simp only []; rw [if_neg (by omega)])
      | succ m ih =>
        intro k hk
        have hlt : k < y.fFrontal.length := by omega
        have hlen : (seen ++ y.fFrontal.take k).length = seen.length + k := by simp; omega
        by_cases c : y.fFrontal[k] ∈ seen ++ y.fFrontal.take k
        · refine ⟨.inr false, lp_done ?_, .inr rfl⟩
          unfold impl_IsCliqueTree_L1
          simp only []
          rw [if_pos (by omega), idx_lt hlt]
          simp only [Option.bind_some]
          rw [hasInt_p _ _ (by omega)]
          simp only [Option.bind_some, decide_eq_true_eq]
          rw [if_pos c]
        · obtain ⟨r, e, hr⟩ := ih (k + 1) (by omega)
          refine ⟨r, ?_, hr⟩
          have es : impl_IsCliqueTree_L1 y ((k : Int), seen ++ y.fFrontal.take k) = some (.inl ((k : Int) + 1, seen ++ y.fFrontal.take (k + 1))) := by
            unfold impl_IsCliqueTree_L1
            simp only []
            rw [if_pos (by omega), idx_lt hlt, wi (by omega)]
            simp only [Option.bind_some]
            rw [hasInt_p _ _ (by omega)]
            simp only [Option.bind_some, decide_eq_true_eq]
            rw [if_neg c, chk_pos (by omega)]
            simp only [Option.bind_some, letO_bind]
            rw [List.append_assoc, List.take_succ, List.getElem?_eq_getElem hlt]; rfl
          rw [lp_more es]; exact e
    have := main y.fFrontal.length 0 (by omega)
    simpa using this
  obtain ⟨r, e, hr⟩ := key
  exact ⟨r, e, e, hr⟩
/-- the separator's nodes are those of the clique above -/
theorem sep_p (l : List Clique) (y : Clique) (h : szN_CliqueS l ≤ 1048576) (hy : y.fSeparator.length ≤ 1048576) : ∃ r, lp (impl_IsCliqueTree_L2 y (nodesP l y.fUp)) 0 = some r ∧ lp (spec_IsCliqueTree_L2 l y) 0 = some r ∧ r = (if y.fSeparator.all (fun x => decide (x ∈ nodesP l y.fUp)) then .inl () else .inr false) := by
  have hn := nodesP_len l y.fUp
  have eq : spec_IsCliqueTree_L2 l y = impl_IsCliqueTree_L2 y (nodesP l y.fUp) := by
    funext v
    unfold spec_IsCliqueTree_L2 impl_IsCliqueTree_L2
    rw [spec_CliqueNodes_p l _ h]; rfl
  have key : lp (impl_IsCliqueTree_L2 y (nodesP l y.fUp)) 0 = some (if y.fSeparator.all (fun x => decide (x ∈ nodesP l y.fUp)) then .inl () else .inr false) := by
    have main : ∀ m k : Nat, m + k = y.fSeparator.length → lp (impl_IsCliqueTree_L2 y (nodesP l y.fUp)) (k : Int) = some (if (y.fSeparator.drop k).all (fun x => decide (x ∈ nodesP l y.fUp)) then .inl () else .inr false) := by
      intro m
      induction m with
      | zero =>
        intro k hk
        have : k = y.fSeparator.length := by omega
        subst this
        rw [lp_done (r := .inl ()) (by unfold impl_IsCliqueTree_L2; rw [if_neg (by omega)]), List.drop_length]; simp
      | succ m ih =>
        intro k hk
        have hlt : k < y.fSeparator.length := by omega
        rw [List.drop_eq_getElem_cons hlt, List.all_cons]
        by_cases c : y.fSeparator[k] ∈ nodesP l y.fUp
        · have e : impl_IsCliqueTree_L2 y (nodesP l y.fUp) (k : Int) = some (.inl ((k : Int) + 1)) := by
            unfold impl_IsCliqueTree_L2; rw [if_pos (by omega), idx_lt hlt, wi (by omega)]
            simp only [Option.bind_some]
            rw [hasInt_p _ _ (by omega)]; simp [c]
          rw [lp_more e, show (k : Int) + 1 = ((k + 1 : Nat) : Int) by omega, ih (k + 1) (by omega)]
          simp [c]
        · rw [lp_done (r := .inr false) (by
            unfold impl_IsCliqueTree_L2; rw [if_pos (by omega), idx_lt hlt]
            simp only [Option.bind_some]
            rw [hasInt_p _ _ (by omega)]; simp [c])]
          simp [c]
    have := main y.fSeparator.length 0 (by omega)
    rw [show ((0 : Nat) : Int) = 0 from rfl, List.drop_zero] at this
    exact this
  exact ⟨_, key, by rw [eq]; exact key, rfl⟩
def frs (l : List Clique) (k : Nat) : Nat := ((l.take k).map (fun c => c.fFrontal.length)).sum
theorem frs_le (l : List Clique) (k : Nat) : frs l k ≤ szL szN_Clique l := by
  have h1 := szL_app szN_Clique (l.take k) (l.drop k)
  rw [List.take_append_drop] at h1
  have h2 := szL_eq szN_Clique (l.take k)
  have h3 : ∀ m : List Clique, (m.map (fun c => c.fFrontal.length)).sum ≤ (m.map szN_Clique).sum := by
    intro m
    induction m with
    | nil => simp
    | cons c m ih => simp only [List.map_cons, List.sum_cons, szClique]; omega
  have := h3 (l.take k)
  unfold frs; omega
theorem frs_succ (l : List Clique) (k : Nat) (hk : k < l.length) : frs l (k + 1) = frs l k + (l[k]).fFrontal.length := by
  unfold frs
  rw [List.take_succ, List.getElem?_eq_getElem hk, List.map_append, List.sum_append]
  simp
theorem tree_step (l : List Clique) (h : szN_CliqueS l ≤ 1048576) (k : Nat) (hk : k < l.length) (seen : List Int) (hs : seen.length = frs l k) :
    ∃ r, impl_IsCliqueTree_L3 l ((k : Int), seen) = some r ∧ spec_IsCliqueTree_L3 l ((k : Int), seen) = some r ∧ (r = .inr (.inr false) ∨ ((l[k]).fUp < (k : Int) ∧ ∃ seen', r = .inl ((k : Int) + 1, seen') ∧ seen'.length = frs l (k + 1))) := by
  obtain ⟨hc, hl⟩ := clique_mem h hk
  rw [szClique] at hc
  have hf := frs_le l (k + 1)
  rw [frs_succ l k hk] at hf
  have hz : szL szN_Clique l ≤ 1048576 := h
  unfold impl_IsCliqueTree_L3 spec_IsCliqueTree_L3
  simp only []
  rw [if_pos (by omega), if_pos (by omega), idx_lt hk, wi (n := (k : Int) + 1) (by omega), wi (n := (k : Int) - 1) (by omega)]
  simp only [Option.bind_some]
  generalize hy : l[k] = y at *
  by_cases c0 : (y.fFrontal.length : Int) = 0
  · rw [if_pos c0, if_pos c0]
    exact ⟨_, rfl, rfl, .inl rfl⟩
  · rw [if_neg c0, if_neg c0, l01In_p]
    simp only [Option.bind_some, decide_eq_true_eq]
    by_cases c1 : y.fUp < -1
    · rw [if_pos c1, if_neg (show ¬ (-1 ≤ y.fUp ∧ y.fUp ≤ (k : Int) - 1) by omega)]
      exact ⟨_, rfl, rfl, .inl rfl⟩
    · rw [if_neg c1]
      by_cases c2 : (k : Int) ≤ y.fUp
      · rw [if_neg (show ¬ (-1 ≤ y.fUp ∧ y.fUp ≤ (k : Int) - 1) by omega)]
        simp only [c2, decide_true, Option.bind_some, if_true]
        exact ⟨_, rfl, rfl, .inl rfl⟩
      · rw [if_pos (show (-1 ≤ y.fUp ∧ y.fUp ≤ (k : Int) - 1) by omega)]
        simp only [c2, decide_false, Option.bind_some, Bool.false_eq_true, if_false]
        obtain ⟨rf, f1, f2, f3⟩ := front_p y seen (by omega)
        obtain ⟨rs, s1, s2, s3⟩ := sep_p l y h (by omega)
        rw [f1, impl_CliqueNodes_p l _ h]
        by_cases c3 : y.fUp < 0
        · rw [if_pos c3]
          simp only [Option.bind_some, decide_eq_true_eq]
          have hnil : nodesP l y.fUp = [] := by unfold nodesP; rw [if_neg (by omega)]
          by_cases c4 : (0 : Int) < y.fSeparator.length
          · -- a separator below no clique
            rw [if_pos c4]
            have hs3 : rs = .inr false := by
              rw [s3, hnil]
              cases hsp : y.fSeparator with
              | nil => rw [hsp] at c4; simp at c4
              | cons x r => simp
            rcases f3 with rfl | rfl
            · simp only [Option.bind_some]
              rw [s1, hs3]
              exact ⟨_, rfl, rfl, .inl rfl⟩
            · exact ⟨_, rfl, rfl, .inl rfl⟩
          · rw [if_neg c4, f2]
            rcases f3 with rfl | rfl
            · simp only [Option.bind_some]
              rw [s1, s2]
              by_cases c5 : (y.fSeparator.all fun x => decide (x ∈ nodesP l y.fUp)) = true
              · rw [if_pos c5] at s3; subst s3
                refine ⟨_, rfl, rfl, .inr ⟨by omega, _, rfl, ?_⟩⟩
                rw [frs_succ l k hk, hy]; simp [hs]
              · rw [if_neg c5] at s3; subst s3
                exact ⟨_, rfl, rfl, .inl rfl⟩
            · exact ⟨_, rfl, rfl, .inl rfl⟩
        · rw [if_neg c3]
          simp only [Option.bind_some, Bool.false_eq_true, if_false]
          rw [f2]
          rcases f3 with rfl | rfl
          · simp only [Option.bind_some]
            rw [s1, s2]
            by_cases c5 : (y.fSeparator.all fun x => decide (x ∈ nodesP l y.fUp)) = true
            · rw [if_pos c5] at s3; subst s3
              refine ⟨_, rfl, rfl, .inr ⟨by omega, _, rfl, ?_⟩⟩
              rw [frs_succ l k hk, hy]; simp [hs]
            · rw [if_neg c5] at s3; subst s3
              exact ⟨_, rfl, rfl, .inl rfl⟩
          · exact ⟨_, rfl, rfl, .inl rfl⟩
theorem IsTreeC_p (l : List Clique) (h : szN_CliqueS l ≤ 1048576) : ∃ b, impl_IsCliqueTree l = some b ∧ spec_IsCliqueTree l = some b ∧ (b = true → ∀ (k : Nat) (hk : k < l.length), (l[k]).fUp < (k : Int)) := by
  have hl : l.length ≤ 1048576 := by have := szL_len szN_Clique l; unfold szN_CliqueS at h; omega
  have main : ∀ m k : Nat, m + k = l.length → ∀ seen : List Int, seen.length = frs l k → (∀ (j : Nat) (hj : j < l.length), j < k → (l[j]).fUp < (j : Int)) →
      ∃ r, lp (impl_IsCliqueTree_L3 l) ((k : Int), seen) = some r ∧ lp (spec_IsCliqueTree_L3 l) ((k : Int), seen) = some r ∧ (r = .inr false ∨ (r = .inl () ∧ ∀ (j : Nat) (hj : j < l.length), (l[j]).fUp < (j : Int))) := by
    intro m
    induction m with
    | zero =>
      intro k hk seen hs hj
      have : k = l.length := by omega
      subst this
      exact ⟨.inl (), lp_done (by unfold impl_IsCliqueTree_L3; simp only []; rw [if_neg (by omega)]), lp_done (by unfold spec_IsCliqueTree_L3; simp only []; rw [if_neg (by omega)]), .inr ⟨rfl, fun j hj' => hj j hj' hj'⟩⟩
    | succ m ih =>
      intro k hk seen hs hj
      have hlt : k < l.length := by omega
      obtain ⟨r, e1, e2, hr⟩ := tree_step l h k hlt seen hs
      rcases hr with rfl | ⟨hup, seen', rfl, hs'⟩
      · exact ⟨.inr false, lp_done e1, lp_done e2, .inl rfl⟩
      · obtain ⟨r, g1, g2, g3⟩ := ih (k + 1) (by omega) seen' hs' (fun j hj' hjk => by
          by_cases e : j = k
          · subst e; exact hup
          · exact hj j hj' (by omega))
        rw [show ((k + 1 : Nat) : Int) = (k : Int) + 1 by omega] at g1 g2
        exact ⟨r, (lp_more e1).trans g1, (lp_more e2).trans g2, g3⟩
  obtain ⟨r, e1, e2, hr⟩ := main l.length 0 (by omega) [] (by simp [frs]) (fun j _ h => by omega)
  rw [show ((0 : Nat) : Int) = 0 from rfl] at e1 e2
  unfold impl_IsCliqueTree spec_IsCliqueTree
  rw [e1, e2]
  rcases hr with rfl | ⟨rfl, hup⟩
  · exact ⟨false, rfl, rfl, fun h => by cases h⟩
  · exact ⟨true, rfl, rfl, fun _ => hup⟩
theorem law_IsCliqueTree (l : List Clique) (o : okL okClique l) : laws_FnExactIsCliqueTree l = some true := by
  unfold laws_FnExactIsCliqueTree
  rw [sz_CliqueS l o _ (by omega) (by omega)]
  simp only [Option.bind_some]
  by_cases h : (szN_CliqueS l : Int) ≤ 1048576
  · rw [if_pos h, if_neg (by omega), to_CliqueS l (by omega)]
    simp only [Option.bind_some]
    obtain ⟨v, e1, e2, _⟩ := IsTreeC_p l (by omega)
    rw [e1, e2]
    simp [eq_CliqueS l (show szN_CliqueS l ≤ 4294967296 by omega)]
  · rw [if_neg h, if_pos (by omega)]
theorem depth_loop (l : List Clique) (hl : l.length ≤ 1048576) (hup : ∀ (k : Nat) (hk : k < l.length), (l[k]).fUp < (k : Int)) : ∀ (n : Nat) (k d : Int), k < n → n ≤ l.length → 0 ≤ d → d + n ≤ 4294967296 → ∃ r, lp (impl_CliqueDepth_L1 l) (k, d) = some r := by
  intro n
  induction n with
  | zero =>
    intro k d hk _ _ _
    exact ⟨d, lp_done (by unfold impl_CliqueDepth_L1; simp only []; rw [if_neg (by omega)])⟩
  | succ n ih =>
    intro k d hk hn hd hb
    by_cases h0 : 0 ≤ k
    · obtain ⟨j, rfl⟩ : ∃ j : Nat, k = j := ⟨k.toNat, by omega⟩
      have hj : j < l.length := by omega
      have e : impl_CliqueDepth_L1 l ((j : Int), d) = some (.inl ((l[j]).fUp, d + 1)) := by
        unfold impl_CliqueDepth_L1
        simp only []
        rw [if_pos h0, idx_lt hj, wi (by omega)]; rfl
      have := hup j hj
      obtain ⟨r, hr⟩ := ih (l[j]).fUp (d + 1) (by omega) (by omega) (by omega) (by omega)
      exact ⟨r, (lp_more e).trans hr⟩
    · exact ⟨d, lp_done (by unfold impl_CliqueDepth_L1; simp only []; rw [if_neg h0])⟩
theorem Depth_p (l : List Clique) (a : Int) (h : szN_CliqueS l ≤ 1048576) : ∃ v, impl_CliqueDepth l a = some v ∧ spec_CliqueDepth l a = some v := by
  have hl : l.length ≤ 1048576 := by have := szL_len szN_Clique l; unfold szN_CliqueS at h; omega
  obtain ⟨b, e1, e2, hup⟩ := IsTreeC_p l h
  unfold impl_CliqueDepth spec_CliqueDepth
  rw [e1, e2]
  simp only [Option.bind_some, letO_bind]
  rw [wi (by omega), l01In_p]
  cases b with
  | false => exact ⟨0, rfl, rfl⟩
  | true =>
    simp only [Option.bind_some, if_true]
    by_cases h0 : a < 0
    · have : ¬ (0 ≤ a ∧ a ≤ (l.length : Int) - 1) := by omega
      simp only [h0, if_true, this, decide_false, Option.bind_some, Bool.not_false]
      exact ⟨0, rfl, rfl⟩
    · rw [if_neg h0]
      by_cases h1 : (l.length : Int) ≤ a
      · have : ¬ (0 ≤ a ∧ a ≤ (l.length : Int) - 1) := by omega
        simp only [h1, decide_true, if_true, this, decide_false, Option.bind_some, Bool.not_false]
        exact ⟨0, rfl, rfl⟩
      · have : (0 ≤ a ∧ a ≤ (l.length : Int) - 1) := by omega
        obtain ⟨r, hr⟩ := depth_loop l hl (hup rfl) l.length a 0 (by omega) (Nat.le_refl _) (by omega) (by omega)
        have hr2 : lp (spec_CliqueDepth_L1 l) (a, 0) = some r := hr
        simp only [h1, decide_false, this, decide_true, Option.bind_some, Bool.not_true, Bool.false_eq_true, if_false, hr, hr2]
        exact ⟨r, rfl, rfl⟩
theorem law_CliqueDepth (l : List Clique) (a : Int) (o : okL okClique l) (_ : okI .i64 a) : laws_FnExactCliqueDepth l a = some true := by
  unfold laws_FnExactCliqueDepth
  rw [sz_CliqueS l o _ (by omega) (by omega)]
  simp only [Option.bind_some]
  by_cases h : (szN_CliqueS l : Int) ≤ 1048576
  · rw [if_pos h, if_neg (by omega), to_CliqueS l (by omega)]
    simp only [Option.bind_some]
    obtain ⟨v, e1, e2⟩ := Depth_p l a (by omega)
    rw [e1, e2]
    simp [eq_CliqueS l (show szN_CliqueS l ≤ 4294967296 by omega)]
  · rw [if_neg h, if_pos (by omega)]
end Go.Ev
