/- Copies of conditionals; the net of a tree. -/
import Derived.Test.YtbfjidhekfnfjaaPF
set_option linter.all false
namespace Go.Ev
set_option linter.all false
theorem spec_l04Copy_p (x : Rat) (h : szN_Rat x ≤ 4294967296) : spec_l04Copy x = some x := by
  unfold szN_Rat szN_BigInt szN_IntS at h
  rw [szL_flat, szL_flat] at h
  unfold spec_l04Copy
  rw [chk_pos (by simp; omega), chk_pos (by simp; omega)]
  simp only [Option.bind_some, letO_bind, List.nil_append]
theorem impl_copyInts_p (l : List Int) (h : l.length ≤ 4294967296) : impl_copyInts l = some l := by
  unfold impl_copyInts
  rw [chk_pos (by simp; omega)]
  simp only [Option.bind_some, letO_bind, List.nil_append]
theorem impl_copyRat_p (x : Rat) (h : szN_Rat x ≤ 4294967296) : impl_copyRat x = some x := by
  unfold szN_Rat szN_BigInt szN_IntS at h
  rw [szL_flat, szL_flat] at h
  unfold impl_copyRat
  rw [impl_copyInts_p _ (by omega)]
  simp only [Option.bind_some]
  rw [impl_copyInts_p _ (by omega)]
  simp only [Option.bind_some]

theorem spec_l08Copy_p (c : Conditional) (h : szN_Conditional c ≤ 4294967296) : spec_l08Copy c = some c := by
  have hp := szL_len szN_Parent c.fParents
  unfold szN_Conditional szN_ParentS at h
  unfold spec_l08Copy
  rw [spec_l04Copy_p _ (by omega)]
  simp only [Option.bind_some]
  have := lp_copyE (step := spec_l08Copy_L1 c) c.fParents (fun k t => ((k : Int), t)) (fun t => t) (fun k t hk ht => by
    have he := szL_mem (w := szN_Parent) (List.getElem_mem hk)
    have hn : szN_Parent c.fParents[k] = szN_Rat (c.fParents[k]).fShare + szN_Rat (c.fParents[k]).fDX + szN_Rat (c.fParents[k]).fDY := rfl
    unfold spec_l08Copy_L1
    simp only []
    rw [if_pos (by omega), idx_lt hk]
    simp only [Option.bind_some]
    rw [spec_l04Copy_p _ (by omega)]
    simp only [Option.bind_some]
    rw [spec_l04Copy_p _ (by omega)]
    simp only [Option.bind_some]
    rw [spec_l04Copy_p _ (by omega)]
    simp only [Option.bind_some]
    rw [chk_pos (by omega), wi (by omega)]; rfl) (fun t ht => by unfold spec_l08Copy_L1; simp only []; rw [if_neg (by omega)])
  rw [show ((0 : Nat) : Int) = 0 from rfl] at this
  rw [this]; rfl
theorem impl_copyConditional_p (c : Conditional) (h : szN_Conditional c ≤ 4294967296) : impl_copyConditional c = some c := by
  have hp := szL_len szN_Parent c.fParents
  unfold szN_Conditional szN_ParentS at h
  unfold impl_copyConditional
  rw [impl_copyRat_p _ (by omega)]
  simp only [Option.bind_some]
  have := lp_copyE (step := impl_copyConditional_L1 c) c.fParents (fun k t => ((k : Int), t)) (fun t => t) (fun k t hk ht => by
    have he := szL_mem (w := szN_Parent) (List.getElem_mem hk)
    have hn : szN_Parent c.fParents[k] = szN_Rat (c.fParents[k]).fShare + szN_Rat (c.fParents[k]).fDX + szN_Rat (c.fParents[k]).fDY := rfl
    unfold impl_copyConditional_L1
    simp only []
    rw [if_pos (by omega), idx_lt hk]
    simp only [Option.bind_some]
    rw [impl_copyRat_p _ (by omega)]
    simp only [Option.bind_some]
    rw [impl_copyRat_p _ (by omega)]
    simp only [Option.bind_some]
    rw [impl_copyRat_p _ (by omega)]
    simp only [Option.bind_some]
    rw [chk_pos (by omega), wi (by omega)]; rfl) (fun t ht => by unfold impl_copyConditional_L1; simp only []; rw [if_neg (by omega)])
  rw [show ((0 : Nat) : Int) = 0 from rfl] at this
  rw [this]; rfl
def condAll (l : List TreeNode) : List Conditional := l.map (fun n => n.fCond)
theorem condAll_sz : ∀ l : List TreeNode, szN_ConditionalS (condAll l) ≤ szL szN_TreeNode l
  | [] => by simp [condAll, szN_ConditionalS, szL_nil]
  | y :: l => by
    have := condAll_sz l
    have hn : szN_TreeNode y = szN_LinkS y.fOwn + szN_Conditional y.fCond + szN_LinkS y.fMessages + szN_Rat y.fEnergy := rfl
    unfold condAll szN_ConditionalS at *
    rw [List.map_cons, szL_cons, szL_cons]
    omega
theorem spec_TreeNet_p (t : Tree) (h : szN_Tree t ≤ 4294967296) : spec_TreeNet t = some (condAll t.fNodes) := by
  unfold szN_Tree szN_TreeNodeS at h
  have hl := szL_len szN_TreeNode t.fNodes
  unfold spec_TreeNet
  have := lp_foldl (step := spec_TreeNet_L1 t) t.fNodes (fun k (m : List Conditional) => ((k : Int), m)) (fun m y => m ++ [y.fCond]) (fun m => m) (fun k m => m = condAll (t.fNodes.take k)) (fun k m hk hi => by
    have he := szL_mem (w := szN_TreeNode) (List.getElem_mem hk)
    have hn : szN_TreeNode t.fNodes[k] = szN_LinkS (t.fNodes[k]).fOwn + szN_Conditional (t.fNodes[k]).fCond + szN_LinkS (t.fNodes[k]).fMessages + szN_Rat (t.fNodes[k]).fEnergy := rfl
    have ht : condAll (t.fNodes.take (k + 1)) = condAll (t.fNodes.take k) ++ [(t.fNodes[k]).fCond] := by unfold condAll; rw [List.take_succ, List.getElem?_eq_getElem hk, List.map_append]; rfl
    have hlen : (condAll (t.fNodes.take k)).length ≤ k := by unfold condAll; simp; omega
    subst hi
    refine ⟨?_, ht.symm⟩
    unfold spec_TreeNet_L1
    simp only []
    rw [if_pos (by omega), idx_lt hk]
    simp only [Option.bind_some]
    rw [spec_l08Copy_p _ (by omega)]
    simp only [Option.bind_some]
    rw [chk_pos (by omega), wi (by omega)]; rfl) (fun m hi => by unfold spec_TreeNet_L1; simp only []; rw [if_neg (by omega)]) [] rfl
  rw [show ((0 : Nat) : Int) = 0 from rfl] at this
  obtain ⟨e1, e2⟩ := this
  rw [e1, e2, List.take_length]; rfl
theorem impl_TreeNet_p (t : Tree) (h : szN_Tree t ≤ 4294967296) : impl_TreeNet t = some (condAll t.fNodes) := by
  unfold szN_Tree szN_TreeNodeS at h
  have hl := szL_len szN_TreeNode t.fNodes
  unfold impl_TreeNet
  have := lp_foldl (step := impl_TreeNet_L1 t) t.fNodes (fun k (m : List Conditional) => ((k : Int), m)) (fun m y => m ++ [y.fCond]) (fun m => m) (fun k m => m = condAll (t.fNodes.take k)) (fun k m hk hi => by
    have he := szL_mem (w := szN_TreeNode) (List.getElem_mem hk)
    have hn : szN_TreeNode t.fNodes[k] = szN_LinkS (t.fNodes[k]).fOwn + szN_Conditional (t.fNodes[k]).fCond + szN_LinkS (t.fNodes[k]).fMessages + szN_Rat (t.fNodes[k]).fEnergy := rfl
    have ht : condAll (t.fNodes.take (k + 1)) = condAll (t.fNodes.take k) ++ [(t.fNodes[k]).fCond] := by unfold condAll; rw [List.take_succ, List.getElem?_eq_getElem hk, List.map_append]; rfl
    have hlen : (condAll (t.fNodes.take k)).length ≤ k := by unfold condAll; simp; omega
    subst hi
    refine ⟨?_, ht.symm⟩
    unfold impl_TreeNet_L1
    simp only []
    rw [if_pos (by omega), idx_lt hk]
    simp only [Option.bind_some]
    rw [impl_copyConditional_p _ (by omega)]
    simp only [Option.bind_some]
    rw [chk_pos (by omega), wi (by omega)]; rfl) (fun m hi => by unfold impl_TreeNet_L1; simp only []; rw [if_neg (by omega)]) [] rfl
  rw [show ((0 : Nat) : Int) = 0 from rfl] at this
  obtain ⟨e1, e2⟩ := this
  rw [e1, e2, List.take_length]; rfl
theorem law_TreeNet (a : Tree) (o : okTree a) : laws_FnExactTreeNet a = some true := by
  unfold laws_FnExactTreeNet
  rw [sz_Tree a o _ (by omega) (by omega)]
  simp only [Option.bind_some]
  by_cases h : (szN_Tree a : Int) ≤ 1048576
  · rw [if_pos h, if_neg (by omega), to_Tree a (by omega)]
    simp only [Option.bind_some]
    have hs : szN_ConditionalS (condAll a.fNodes) ≤ szN_Tree a := condAll_sz a.fNodes
    obtain ⟨k0, x0, e0, a0, b0⟩ := mh_Tree a 1 (by omega) (by omega)
    obtain ⟨k1, x1, e1, g1, a1, b1, _⟩ := mh_ConditionalS (condAll a.fNodes) 1 (by omega) (by omega)
    rw [spec_TreeNet_p a (by omega), impl_TreeNet_p a (by omega)]
    simp only [Option.bind_some, eq_ConditionalS _ (show szN_ConditionalS (condAll a.fNodes) ≤ 4294967296 by omega), eq_Tree a (by omega), if_true, e0, e1, g1]
    rw [if_neg (show ¬ k0 < 0 by omega)]
    simp only [Option.bind_some, Bool.not_true, Bool.false_eq_true, if_false, show ¬ k1 < 0 by omega, ne_eq, not_true_eq_false]
  · rw [if_neg h, if_pos (by omega)]
end Go.Ev
