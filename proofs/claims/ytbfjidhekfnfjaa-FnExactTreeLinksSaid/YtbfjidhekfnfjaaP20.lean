/- Copies of links; the links of a tree. -/
import Derived.Test.YtbfjidhekfnfjaaPF
set_option linter.all false
namespace Go.Ev
set_option linter.all false
theorem spec_l04Copy_p (x : Rat) (h : szN_Rat x ≤ 4294967296) : spec_l04Copy x = some x := by
  unfold szN_Rat szN_BigInt szN_IntS at h
  rw [szL_flat, szL_flat] at h
  unfold spec_l04Copy
  rw [chk_pos (by simp; omega), chk_pos (by simp; omega)]
  simp only [Option.bind_some, letO_bind, List.nil_append]
theorem spec_l06Copy_p (x : Link) (h : szN_Link x ≤ 4294967296) : spec_l06Copy x = some x := by
  unfold szN_Link at h
  unfold spec_l06Copy
  rw [spec_l04Copy_p _ (by omega)]
  simp only [Option.bind_some]
  rw [spec_l04Copy_p _ (by omega)]
  simp only [Option.bind_some]
  rw [spec_l04Copy_p _ (by omega)]
  simp only [Option.bind_some]
theorem spec_l06All_p (l : List Link) (h : szN_LinkS l ≤ 4294967296) : spec_l06All l = some l := by
  unfold szN_LinkS at h
  have hl := szL_len szN_Link l
  unfold spec_l06All
  have := lp_copyE (step := spec_l06All_L1 l) l (fun k t => ((k : Int), t)) (fun t => t) (fun k t hk ht => by
    have he := szL_mem (w := szN_Link) (List.getElem_mem hk)
    unfold spec_l06All_L1
    simp only []
    rw [if_pos (by omega), idx_lt hk]
    simp only [Option.bind_some]
    rw [spec_l06Copy_p _ (by omega)]
    simp only [Option.bind_some]
    rw [chk_pos (by omega), wi (by omega)]; rfl) (fun t ht => by unfold spec_l06All_L1; simp only []; rw [if_neg (by omega)])
  rw [show ((0 : Nat) : Int) = 0 from rfl] at this
  rw [this]; rfl
theorem impl_copyInts_p (l : List Int) (h : l.length ≤ 4294967296) : impl_copyInts l = some l := by
  unfold impl_copyInts
  rw [chk_pos (by simp; omega)]
  simp only [Option.bind_some, letO_bind, List.nil_append]
theorem impl_copyRat_p (x : Rat) (h : szN_Rat x ≤ 4294967296) : impl_copyRat x = some x := by
  unfold szN_Rat szN_BigInt szN_IntS at h
  rw [szL_flat, szL_flat] at h
  unfold impl_copyRat
  rw [impl_copyInts_p _ (by omega)]
  simp only [Option.bind_some]
  rw [impl_copyInts_p _ (by omega)]
  simp only [Option.bind_some]
theorem impl_copyLink_p (x : Link) (h : szN_Link x ≤ 4294967296) : impl_copyLink x = some x := by
  unfold szN_Link at h
  unfold impl_copyLink
  rw [impl_copyRat_p _ (by omega)]
  simp only [Option.bind_some]
  rw [impl_copyRat_p _ (by omega)]
  simp only [Option.bind_some]
  rw [impl_copyRat_p _ (by omega)]
  simp only [Option.bind_some]
theorem impl_copyLinks_p (l : List Link) (h : szN_LinkS l ≤ 4294967296) : impl_copyLinks l = some l := by
  unfold szN_LinkS at h
  have hl := szL_len szN_Link l
  unfold impl_copyLinks
  have := lp_copyE (step := impl_copyLinks_L1 l) l (fun k t => ((k : Int), t)) (fun t => t) (fun k t hk ht => by
    have he := szL_mem (w := szN_Link) (List.getElem_mem hk)
    unfold impl_copyLinks_L1
    simp only []
    rw [if_pos (by omega), idx_lt hk]
    simp only [Option.bind_some]
    rw [impl_copyLink_p _ (by omega)]
    simp only [Option.bind_some]
    rw [chk_pos (by omega), wi (by omega)]; rfl) (fun t ht => by unfold impl_copyLinks_L1; simp only []; rw [if_neg (by omega)])
  rw [show ((0 : Nat) : Int) = 0 from rfl] at this
  rw [this]; rfl
def ownAll (l : List TreeNode) : List Link := (l.map (fun n => n.fOwn)).flatten
theorem ownAll_sz : ∀ l : List TreeNode, szN_LinkS (ownAll l) ≤ szL szN_TreeNode l
  | [] => by simp [ownAll, szN_LinkS, szL_nil]
  | y :: l => by
    have := ownAll_sz l
    have hn : szN_TreeNode y = szN_LinkS y.fOwn + szN_Conditional y.fCond + szN_LinkS y.fMessages + szN_Rat y.fEnergy := rfl
    unfold ownAll szN_LinkS at *
    rw [List.map_cons, List.flatten_cons, szL_app, szL_cons]
    omega
theorem ownAll_take (l : List TreeNode) (k : Nat) (hk : k < l.length) : ownAll (l.take (k + 1)) = ownAll (l.take k) ++ l[k].fOwn := by
  unfold ownAll
  rw [List.take_succ, List.getElem?_eq_getElem hk, List.map_append, List.flatten_append]
  simp
theorem szL_take {α : Type} (w : α → Nat) (l : List α) (k : Nat) : szL w (l.take k) ≤ szL w l := by
  have := szL_app w (l.take k) (l.drop k)
  rw [List.take_append_drop] at this
  omega
theorem ownAll_len (l : List TreeNode) (h : szL szN_TreeNode l ≤ 4294967296) (k : Nat) : (ownAll (l.take k)).length ≤ 4294967296 := by
  have h1 := ownAll_sz (l.take k)
  have h2 := szL_take szN_TreeNode l k
  have h3 := szL_len szN_Link (ownAll (l.take k))
  unfold szN_LinkS at h1
  omega
theorem spec_TreeLinks_p (t : Tree) (h : szN_Tree t ≤ 4294967296) : spec_TreeLinks t = some (ownAll t.fNodes) := by
  unfold szN_Tree szN_TreeNodeS at h
  have hl := szL_len szN_TreeNode t.fNodes
  unfold spec_TreeLinks
  have := lp_foldl (step := spec_TreeLinks_L1 t) t.fNodes (fun k (m : List Link) => ((k : Int), m)) (fun m y => m ++ y.fOwn) (fun m => m) (fun k m => m = ownAll (t.fNodes.take k)) (fun k m hk hi => by
    have he := szL_mem (w := szN_TreeNode) (List.getElem_mem hk)
    have hs := ownAll_len t.fNodes h (k + 1)
    have ht := ownAll_take t.fNodes k hk
    rw [ht] at hs
    simp only [List.length_append] at hs
    subst hi
    refine ⟨?_, ht.symm⟩
    unfold spec_TreeLinks_L1
    simp only []
    rw [if_pos (by omega), idx_lt hk]
    simp only [Option.bind_some]
    have hn : szN_TreeNode t.fNodes[k] = szN_LinkS (t.fNodes[k]).fOwn + szN_Conditional (t.fNodes[k]).fCond + szN_LinkS (t.fNodes[k]).fMessages + szN_Rat (t.fNodes[k]).fEnergy := rfl
    rw [spec_l06All_p _ (by omega)]
    simp only [Option.bind_some]
    rw [chk_pos (by omega), wi (by omega)]; rfl) (fun m hi => by unfold spec_TreeLinks_L1; simp only []; rw [if_neg (by omega)]) [] rfl
  rw [show ((0 : Nat) : Int) = 0 from rfl] at this
  obtain ⟨e1, e2⟩ := this
  rw [e1, e2, List.take_length]; rfl
theorem impl_TreeLinks_p (t : Tree) (h : szN_Tree t ≤ 4294967296) : impl_TreeLinks t = some (ownAll t.fNodes) := by
  unfold szN_Tree szN_TreeNodeS at h
  have hl := szL_len szN_TreeNode t.fNodes
  unfold impl_TreeLinks
  have := lp_foldl (step := impl_TreeLinks_L1 t) t.fNodes (fun k (m : List Link) => ((k : Int), m)) (fun m y => m ++ y.fOwn) (fun m => m) (fun k m => m = ownAll (t.fNodes.take k)) (fun k m hk hi => by
    have he := szL_mem (w := szN_TreeNode) (List.getElem_mem hk)
    have hs := ownAll_len t.fNodes h (k + 1)
    have ht := ownAll_take t.fNodes k hk
    rw [ht] at hs
    simp only [List.length_append] at hs
    subst hi
    refine ⟨?_, ht.symm⟩
    unfold impl_TreeLinks_L1
    simp only []
    rw [if_pos (by omega), idx_lt hk]
    simp only [Option.bind_some]
    have hn : szN_TreeNode t.fNodes[k] = szN_LinkS (t.fNodes[k]).fOwn + szN_Conditional (t.fNodes[k]).fCond + szN_LinkS (t.fNodes[k]).fMessages + szN_Rat (t.fNodes[k]).fEnergy := rfl
    rw [impl_copyLinks_p _ (by omega)]
    simp only [Option.bind_some]
    rw [chk_pos (by omega), wi (by omega)]; rfl) (fun m hi => by unfold impl_TreeLinks_L1; simp only []; rw [if_neg (by omega)]) [] rfl
  rw [show ((0 : Nat) : Int) = 0 from rfl] at this
  obtain ⟨e1, e2⟩ := this
  rw [e1, e2, List.take_length]; rfl
theorem law_TreeLinks (a : Tree) (o : okTree a) : laws_FnExactTreeLinks a = some true := by
  unfold laws_FnExactTreeLinks
  rw [sz_Tree a o _ (by omega) (by omega)]
  simp only [Option.bind_some]
  by_cases h : (szN_Tree a : Int) ≤ 1048576
  · rw [if_pos h, if_neg (by omega), to_Tree a (by omega)]
    simp only [Option.bind_some]
    have hs : szN_LinkS (ownAll a.fNodes) ≤ szN_Tree a := ownAll_sz a.fNodes
    obtain ⟨k0, x0, e0, a0, b0⟩ := mh_Tree a 1 (by omega) (by omega)
    obtain ⟨k1, x1, e1, g1, a1, b1, _⟩ := mh_LinkS (ownAll a.fNodes) 1 (by omega) (by omega)
    rw [spec_TreeLinks_p a (by omega), impl_TreeLinks_p a (by omega)]
    simp only [Option.bind_some, eq_LinkS _ (show szN_LinkS (ownAll a.fNodes) ≤ 4294967296 by omega), eq_Tree a (by omega), if_true, e0, e1, g1]
    rw [if_neg (show ¬ k0 < 0 by omega)]
    simp only [Option.bind_some, Bool.not_true, Bool.false_eq_true, if_false, show ¬ k1 < 0 by omega, ne_eq, not_true_eq_false]
  · rw [if_neg h, if_pos (by omega)]
end Go.Ev
