/- Comparison of links, conditionals, tree nodes; nodes that have changed. -/
import Derived.Test.YtbfjidhekfnfjaaPF
import Derived.Test.YtbfjidhekfnfjaaPO
set_option linter.all false
namespace Go.Ev
set_option linter.all false
theorem sameInts_p (a b : List Int) (h : a.length ≤ 4294967296) : impl_sameInts a b = some (decide (a = b)) := by
  unfold impl_sameInts
  by_cases hl : a.length = b.length
  · rw [if_neg (by omega), lp_eqE a b hl (fun k ha hb => by
      unfold impl_sameInts_L1
      rw [if_pos (by omega), idx_lt ha, idx_lt hb, wi (by omega)]
      simp only [Option.bind_some]
      by_cases c : a[k] = b[k]
      · rw [if_neg (by simp [c]), if_pos c]
      · rw [if_pos c, if_neg c]) (by unfold impl_sameInts_L1; rw [if_neg (by omega)])]
    by_cases c : a = b <;> simp [c]
  · rw [if_pos (by omega)]
    have : a ≠ b := by rintro rfl; exact hl rfl
    simp [this]
theorem l04List_p (a b : List Int) (h : a.length ≤ 4294967296) : spec_l04List a b = some (decide (a = b)) := sameInts_p a b h
theorem impl_RatEqual_p (r s : Rat) (h : szN_Rat r ≤ 4294967296) : impl_RatEqual r s = some (decide (r = s)) := by
  obtain ⟨⟨a, m⟩, d⟩ := r
  obtain ⟨⟨a', m'⟩, d'⟩ := s
  unfold szN_Rat szN_BigInt szN_IntS at h
  rw [szL_flat, szL_flat] at h
  simp only at h
  unfold impl_RatEqual
  simp only []
  rw [sameInts_p m m' (by omega), sameInts_p d d' (by omega)]
  by_cases c1 : a = a' <;> by_cases c2 : m = m' <;> by_cases c3 : d = d' <;> simp [c1, c2, c3]
theorem spec_RatEqual_p (r s : Rat) (h : szN_Rat r ≤ 4294967296) : spec_RatEqual r s = some (decide (r = s)) := impl_RatEqual_p r s h
theorem sameLink_p (r s : Link) (h : szN_Link r ≤ 4294967296) : impl_sameLink r s = some (decide (r = s)) := by
  obtain ⟨a, b, w, x, y⟩ := r
  obtain ⟨a', b', w', x', y'⟩ := s
  unfold szN_Link at h
  simp only at h
  unfold impl_sameLink
  simp only []
  rw [impl_RatEqual_p w w' (by omega), impl_RatEqual_p x x' (by omega), impl_RatEqual_p y y' (by omega)]
  by_cases c1 : a = a' <;> by_cases c2 : b = b' <;> by_cases c3 : w = w' <;> by_cases c4 : x = x' <;> by_cases c5 : y = y' <;> simp [c1, c2, c3, c4, c5]
theorem impl_SameLinks_p (a b : List Link) (h : szN_LinkS a ≤ 4294967296) : impl_SameLinks a b = some (decide (a = b)) := by
  have hal := szL_len szN_Link a
  unfold szN_LinkS at h
  unfold impl_SameLinks
  by_cases hl : a.length = b.length
  · rw [if_neg (by omega), lp_eqE a b hl (fun k ha hb => by
      have he := szL_mem (w := szN_Link) (List.getElem_mem ha)
      unfold impl_SameLinks_L1
      rw [if_pos (by omega), idx_lt ha, idx_lt hb, wi (by omega)]
      simp only [Option.bind_some]
      rw [sameLink_p _ _ (by omega)]
      simp only [Option.bind_some]
      by_cases c : a[k] = b[k]
      · rw [if_pos (by simp [c]), if_pos c]
      · rw [if_neg (by simp [c]), if_neg c]) (by unfold impl_SameLinks_L1; rw [if_neg (by omega)])]
    by_cases c : a = b <;> simp [c]
  · rw [if_pos (by omega)]
    have : a ≠ b := by rintro rfl; exact hl rfl
    simp [this]
theorem spec_SameLinks_p (a b : List Link) (h : szN_LinkS a ≤ 4294967296) : spec_SameLinks a b = some (decide (a = b)) := by
  have hal := szL_len szN_Link a
  unfold szN_LinkS at h
  unfold spec_SameLinks
  by_cases hl : a.length = b.length
  · rw [if_neg (by omega), lp_eqE a b hl (fun k ha hb => by
      have he := szL_mem (w := szN_Link) (List.getElem_mem ha)
      unfold spec_SameLinks_L1
      rw [if_pos (by omega), idx_lt ha, idx_lt hb, wi (by omega)]
      simp only [Option.bind_some]
      generalize a[k] = r at *
      generalize b[k] = s at *
      obtain ⟨a1, b1, w, x, y⟩ := r
      obtain ⟨a2, b2, w', x', y'⟩ := s
      have hn : szN_Link ⟨a1, b1, w, x, y⟩ = szN_Rat w + szN_Rat x + szN_Rat y := rfl
      simp only []
      rw [spec_RatEqual_p w w' (by omega), spec_RatEqual_p x x' (by omega), spec_RatEqual_p y y' (by omega)]
      by_cases c1 : a1 = a2 <;> by_cases c2 : b1 = b2 <;> by_cases c3 : w = w' <;> by_cases c4 : x = x' <;> by_cases c5 : y = y' <;> simp [c1, c2, c3, c4, c5]) (by unfold spec_SameLinks_L1; rw [if_neg (by omega)])]
    by_cases c : a = b <;> simp [c]
  · rw [if_pos (by omega)]
    have : a ≠ b := by rintro rfl; exact hl rfl
    simp [this]
theorem impl_SameConditional_p (a b : Conditional) (h : szN_Conditional a ≤ 4294967296) : impl_SameConditional a b = some (decide (a = b)) := by
  obtain ⟨n, t, l⟩ := a
  obtain ⟨n', t', l'⟩ := b
  have hal := szL_len szN_Parent l
  unfold szN_Conditional szN_ParentS at h
  simp only at h
  unfold impl_SameConditional
  simp only []
  rw [impl_RatEqual_p t t' (by omega)]
  by_cases c1 : n = n'
  · by_cases c2 : t = t'
    · by_cases hl : l.length = l'.length
      · have e : lp (impl_SameConditional_L1 ⟨n, t, l⟩ ⟨n', t', l'⟩) 0 = some (if l = l' then .inl () else .inr false) := lp_eqE l l' hl (fun k ha hb => by
          have he := szL_mem (w := szN_Parent) (List.getElem_mem ha)
          unfold impl_SameConditional_L1
          simp only []
          rw [if_pos (by omega), idx_lt ha, idx_lt hb, wi (by omega)]
          simp only [Option.bind_some]
          generalize l[k] = r at *
          generalize l'[k] = s at *
          obtain ⟨a1, w, x, y⟩ := r
          obtain ⟨a2, w', x', y'⟩ := s
          have hn : szN_Parent ⟨a1, w, x, y⟩ = szN_Rat w + szN_Rat x + szN_Rat y := rfl
          simp only []
          rw [impl_RatEqual_p w w' (by omega), impl_RatEqual_p x x' (by omega), impl_RatEqual_p y y' (by omega)]
          by_cases c1 : a1 = a2 <;> by_cases c3 : w = w' <;> by_cases c4 : x = x' <;> by_cases c5 : y = y' <;> simp [c1, c3, c4, c5]) (by unfold impl_SameConditional_L1; simp only []; rw [if_neg (by omega)])
        rw [e]
        by_cases c : l = l' <;> simp [c1, c2, hl, c]
      · have : l ≠ l' := by rintro rfl; exact hl rfl
        have h2 : (l.length : Int) ≠ (l'.length : Int) := by omega
        simp [c1, c2, this, h2]
    · simp [c1, c2]
  · simp [c1]
theorem spec_SameConditional_p (a b : Conditional) (h : szN_Conditional a ≤ 4294967296) : spec_SameConditional a b = some (decide (a = b)) := impl_SameConditional_p a b h
theorem sameTreeNode_p (a b : TreeNode) (h : szN_TreeNode a ≤ 4294967296) : impl_sameTreeNode a b = some (decide (a = b)) := by
  obtain ⟨n, u, o, c, m, e⟩ := a
  obtain ⟨n', u', o', c', m', e'⟩ := b
  unfold szN_TreeNode at h
  simp only at h
  unfold impl_sameTreeNode
  simp only []
  rw [impl_SameLinks_p o o' (by omega), impl_SameConditional_p c c' (by omega), impl_SameLinks_p m m' (by omega), impl_RatEqual_p e e' (by omega)]
  by_cases c1 : n = n' <;> by_cases c2 : u = u' <;> by_cases c3 : o = o' <;> by_cases c4 : c = c' <;> by_cases c5 : m = m' <;> by_cases c6 : e = e' <;> simp [c1, c2, c3, c4, c5, c6]
theorem l12Same_p (a b : TreeNode) (h : szN_TreeNode a ≤ 4294967296) : spec_l12Same a b = some (decide (a = b)) := by
  obtain ⟨n, u, o, c, m, e⟩ := a
  obtain ⟨n', u', o', c', m', e'⟩ := b
  unfold szN_TreeNode at h
  simp only at h
  unfold spec_l12Same
  simp only []
  rw [spec_SameLinks_p o o' (by omega), spec_SameConditional_p c c' (by omega), spec_SameLinks_p m m' (by omega), spec_RatEqual_p e e' (by omega)]
  by_cases c1 : n = n' <;> by_cases c2 : u = u' <;> by_cases c3 : o = o' <;> by_cases c4 : c = c' <;> by_cases c5 : m = m' <;> by_cases c6 : e = e' <;> simp [c1, c2, c3, c4, c5, c6]
def atN (t : Tree) (v : Int) : Option Nat := t.fNodes.findIdx? (fun n => decide (n.fNode = v))
theorem indexOf_p (t : Tree) (v : Int) (h : t.fNodes.length ≤ 4294967296) : impl_indexOf t v = some (match atN t v with | none => -1 | some k => (k : Int)) := by
  unfold impl_indexOf atN
  rw [lp_findE t.fNodes (fun n => decide (n.fNode = v)) (fun k hk => by
    unfold impl_indexOf_L1
    rw [if_pos (by omega), idx_lt hk, wi (by omega)]
    simp only [Option.bind_some, decide_eq_true_eq]
    by_cases c : (t.fNodes[k]).fNode = v
    · rw [if_pos c, if_pos c]
    · rw [if_neg c, if_neg c]) (by unfold impl_indexOf_L1; rw [if_neg (by omega)])]
  simp only [Option.bind_some]
  cases t.fNodes.findIdx? (fun n => decide (n.fNode = v)) <;> rfl
theorem l12At_p (t : Tree) (v : Int) (h : t.fNodes.length ≤ 4294967296) : spec_l12At t v = some (match atN t v with | none => -1 | some k => (k : Int)) := indexOf_p t v h
def chgd (t : Tree) (n : TreeNode) : Bool := match atN t n.fNode with
  | none => true
  | some k => match t.fNodes[k]? with
    | none => true
    | some m => !decide (m = n)
def chgs (t : Tree) (m : List Int) (n : TreeNode) : List Int := if chgd t n then m ++ [n.fNode] else m
theorem chgs_len (t : Tree) (m : List Int) (n : TreeNode) : (chgs t m n).length ≤ m.length + 1 := by unfold chgs; split <;> simp
theorem impl_Changed_p (t u : Tree) (h : szN_Tree t ≤ 4294967296) (hu : szN_Tree u ≤ 4294967296) : impl_ChangedNodes t u = some (u.fNodes.foldl (chgs t) []) ∧ (u.fNodes.foldl (chgs t) []).length ≤ u.fNodes.length := by
  unfold szN_Tree szN_TreeNodeS at h hu
  have hl := szL_len szN_TreeNode t.fNodes
  have hul := szL_len szN_TreeNode u.fNodes
  unfold impl_ChangedNodes
  have := lp_foldl (step := impl_ChangedNodes_L1 t u) u.fNodes (fun k (m : List Int) => ((k : Int), m)) (chgs t) (fun m => m) (fun k m => m.length ≤ k) (fun k m hk hi => by
    refine ⟨?_, by have := chgs_len t m u.fNodes[k]; omega⟩
    unfold impl_ChangedNodes_L1 chgs
    simp only []
    rw [if_pos (by omega), idx_lt hk, wi (by omega), chk_pos (by omega)]
    simp only [Option.bind_some]
    rw [indexOf_p t _ (by omega)]
    simp only [Option.bind_some, letO_bind]
    cases hf : atN t (u.fNodes[k]).fNode with
    | none =>
      have ec : chgd t u.fNodes[k] = true := by unfold chgd; rw [hf]
      rw [ec]; simp
    | some j =>
      have hj : j < t.fNodes.length := (List.findIdx?_eq_some_iff_findIdx_eq.1 hf).1
      have he := szL_mem (w := szN_TreeNode) (List.getElem_mem hj)
      simp only []
      rw [if_neg (by omega), idx_lt hj]
      simp only [Option.bind_some]
      have ec : chgd t u.fNodes[k] = !decide (t.fNodes[j] = u.fNodes[k]) := by unfold chgd; rw [hf]; simp only [List.getElem?_eq_getElem hj]
      rw [sameTreeNode_p _ _ (by omega), ec]
      by_cases c : t.fNodes[j] = u.fNodes[k] <;> simp [c]) (fun m hi => by unfold impl_ChangedNodes_L1; simp only []; rw [if_neg (by omega)]) [] (by simp)
  rw [show ((0 : Nat) : Int) = 0 from rfl] at this
  obtain ⟨e1, e2⟩ := this
  exact ⟨by rw [e1]; rfl, e2⟩
theorem spec_Changed_p (t u : Tree) (h : szN_Tree t ≤ 4294967296) (hu : szN_Tree u ≤ 4294967296) : spec_ChangedNodes t u = some (u.fNodes.foldl (chgs t) []) := by
  unfold szN_Tree szN_TreeNodeS at h hu
  have hl := szL_len szN_TreeNode t.fNodes
  have hul := szL_len szN_TreeNode u.fNodes
  unfold spec_ChangedNodes
  have := lp_foldl (step := spec_ChangedNodes_L1 t u) u.fNodes (fun k (m : List Int) => ((k : Int), m)) (chgs t) (fun m => m) (fun k m => m.length ≤ k) (fun k m hk hi => by
    refine ⟨?_, by have := chgs_len t m u.fNodes[k]; omega⟩
    unfold spec_ChangedNodes_L1 chgs
    simp only []
    rw [if_pos (by omega), idx_lt hk, wi (by omega), chk_pos (by omega)]
    simp only [Option.bind_some]
    rw [l12At_p t _ (by omega)]
    simp only [Option.bind_some, letO_bind]
    cases hf : atN t (u.fNodes[k]).fNode with
    | none =>
      have ec : chgd t u.fNodes[k] = true := by unfold chgd; rw [hf]
      rw [ec]; simp
    | some j =>
      have hj : j < t.fNodes.length := (List.findIdx?_eq_some_iff_findIdx_eq.1 hf).1
      have he := szL_mem (w := szN_TreeNode) (List.getElem_mem hj)
      simp only []
      rw [if_neg (by omega), idx_lt hj]
      simp only [Option.bind_some]
      have ec : chgd t u.fNodes[k] = !decide (t.fNodes[j] = u.fNodes[k]) := by unfold chgd; rw [hf]; simp only [List.getElem?_eq_getElem hj]
      rw [l12Same_p _ _ (by omega), ec]
      by_cases c : t.fNodes[j] = u.fNodes[k] <;> simp [c]) (fun m hi => by unfold spec_ChangedNodes_L1; simp only []; rw [if_neg (by omega)]) [] (by simp)
  rw [show ((0 : Nat) : Int) = 0 from rfl] at this
  rw [this.1]; rfl
theorem law_ChangedNodes (a b : Tree) (o : okTree a) (o' : okTree b) : laws_FnExactChangedNodes a b = some true := by
  unfold laws_FnExactChangedNodes
  rw [sz_Tree a o _ (by omega) (by omega)]
  simp only [Option.bind_some]
  by_cases h : (szN_Tree a : Int) ≤ 1048576
  · rw [if_pos h, if_neg (by omega), sz_Tree b o' _ (by omega) (by omega)]
    simp only [Option.bind_some]
    by_cases h2 : (szN_Tree b : Int) ≤ 1048576 - szN_Tree a
    · rw [if_pos h2, if_neg (by omega), to_Tree a (by omega), to_Tree b (by omega)]
      simp only [Option.bind_some]
      obtain ⟨e1, e2⟩ := impl_Changed_p a b (by omega) (by omega)
      have hul : b.fNodes.length ≤ szN_Tree b := szL_len szN_TreeNode b.fNodes
      have hv : szN_IntS (b.fNodes.foldl (chgs a) []) ≤ 1048576 := by unfold szN_IntS; rw [szL_flat]; omega
      obtain ⟨k0, x0, m0, a0, b0⟩ := mh_Tree a 1 (by omega) (by omega)
      obtain ⟨k1, x1, m1, a1, b1⟩ := mh_Tree b k0 (by omega) (by omega)
      obtain ⟨k2, x2, m2, g2, a2, b2, _⟩ := mh_IntS (b.fNodes.foldl (chgs a) []) 1 (by omega) (by omega)
      rw [spec_Changed_p a b (by omega) (by omega), e1]
      simp only [Option.bind_some, eq_IntS _ (show szN_IntS (b.fNodes.foldl (chgs a) []) ≤ 4294967296 by omega), eq_Tree a (by omega), eq_Tree b (by omega), if_true, m0, m1, m2, g2]
      rw [if_neg (show ¬ k1 < 0 by omega)]
      simp only [Option.bind_some, Bool.not_true, Bool.false_eq_true, if_false, show ¬ k2 < 0 by omega, ne_eq, not_true_eq_false]
    · rw [if_neg h2, if_pos (by omega)]
  · rw [if_neg h, if_pos (by omega)]
end Go.Ev
