/- Plain laws of helpers over nested data, printed by program (fam.py). -/
import Derived.Test.YtbfjidhekfnfjaaPN
import Derived.Test.YtbfjidhekfnfjaaLd
set_option linter.all false
namespace Go.Ev
set_option linter.all false
def szN_IntS (x : (List Int)) : Nat := szL (fun _ => 0) x
theorem eq_IntS (x : (List Int)) (h : szN_IntS x ≤ 4294967296) : laws_eqIntS x x = some true := by
  have hl := szL_len (fun _ => 0) x
  unfold szN_IntS at h
  unfold laws_eqIntS
  rw [if_neg (by simp), lp_count x.length (.inl ())]
  · rfl
  · intro k hk
    unfold laws_eqIntS_L1
    rw [if_pos (by omega), idx_lt hk]
    simp only [Option.bind_some, ne_eq, not_true_eq_false, if_false]
    rw [wi (by omega)]; rfl
  · unfold laws_eqIntS_L1; rw [if_neg (by omega)]
theorem mh_IntS (x : (List Int)) (k : Int) (h0 : 0 ≤ k) (h1 : k + 100 * (szN_IntS x : Int) ≤ 4611686018427387904) : ∃ k' x', laws_markIntS x k = some (k', x') ∧ laws_heldIntS x' k = some k' ∧ k ≤ k' ∧ k' ≤ k + 100 * (szN_IntS x : Int) ∧ x'.length = x.length := by
  unfold szN_IntS at h1 ⊢
  obtain ⟨k', l', p1, p2, p3, p4, p5⟩ := lp_mhE (ms := laws_markIntS_L1) (hs := laws_heldIntS_L1) (fun _ : Int => 0) x (fun hl y k h0 h1 => by
    have w0 : IntKind.i64.wrap (k + 1) = k + 1 := wi (by omega)
    refine ⟨k + 1, (k), by omega, by omega, fun m i hi hm => ?_, fun m i hi hm => ?_⟩
    · have hlt := (List.getElem?_eq_some_iff.1 hi).1
      have wi' : IntKind.i64.wrap ((i : Int) + 1) = (i : Int) + 1 := wi (by omega)
      unfold laws_markIntS_L1
      simp only []
      rw [if_pos (by omega)]
      simp only [letO_bind, setI_nat, idx_qN hi, idx_setN hlt, List.set_set, Option.bind_some, w0, wi']
    · have hlt := (List.getElem?_eq_some_iff.1 hi).1
      have wi' : IntKind.i64.wrap ((i : Int) + 1) = (i : Int) + 1 := wi (by omega)
      unfold laws_heldIntS_L1
      simp only []
      rw [if_pos (by omega)]
      simp only [letO_bind, idx_qN hi, Option.bind_some, ne_eq, not_true_eq_false, if_false, beq_self_eq_true, if_true, w0, wi'])
   (fun k m hm => by unfold laws_markIntS_L1; simp only []; rw [if_neg (by omega)]) (fun k m hm => by unfold laws_heldIntS_L1; simp only []; rw [if_neg (by omega)]) k h0 h1
  exact ⟨k', l', by unfold laws_markIntS laws_markIntS_raw; simp only [p1, Option.bind_some]; rw [chk_pos p2]; rfl, by unfold laws_heldIntS; simp only [p3, Option.bind_some], p4, p5, p2⟩
def szN_BigInt (x : BigInt) : Nat := szN_IntS x.fMag
theorem eq_BigInt (x : BigInt) (h : szN_BigInt x ≤ 4294967296) : laws_eqBigInt x x = some true := by
  unfold szN_BigInt at h
  unfold laws_eqBigInt
  have e0 := eq_IntS x.fMag (by omega)
  simp only [e0, Option.bind_some, if_true, ne_eq, not_true_eq_false, if_false, beq_self_eq_true]
theorem mh_BigInt (x : BigInt) (k : Int) (h0 : 0 ≤ k) (h1 : k + 100 * (szN_BigInt x : Int) ≤ 4611686018427387904) : ∃ k' x', laws_markBigInt x k = some (k', x') ∧ laws_heldBigInt x' k = some k' ∧ k ≤ k' ∧ k' ≤ k + 100 * (szN_BigInt x : Int) := by
  unfold szN_BigInt at h1 ⊢
  obtain ⟨k0, x0, e0, g0, a0, b0, l0⟩ := mh_IntS x.fMag (k) (by omega) (by omega)
  have n0 : ¬ k0 < 0 := by omega
  exact ⟨k0, BigInt.mk x.fNeg x0, by unfold laws_markBigInt; simp only [e0, Option.bind_some], by unfold laws_heldBigInt; simp only [g0, n0, Option.bind_some, if_false], by omega, by omega⟩
def szN_BoolS (x : (List Bool)) : Nat := szL (fun _ => 0) x
def szN_Clique (x : Clique) : Nat := szN_IntS x.fFrontal + szN_IntS x.fSeparator
def szN_CliqueS (x : (List Clique)) : Nat := szL szN_Clique x
def szN_Rat (x : Rat) : Nat := szN_BigInt x.fNum + szN_IntS x.fDen
theorem eq_Rat (x : Rat) (h : szN_Rat x ≤ 4294967296) : laws_eqRat x x = some true := by
  unfold szN_Rat at h
  unfold laws_eqRat
  have e0 := eq_BigInt x.fNum (by omega)
  have e1 := eq_IntS x.fDen (by omega)
  simp only [e0, e1, Option.bind_some, if_true, ne_eq, not_true_eq_false, if_false, beq_self_eq_true]
theorem mh_Rat (x : Rat) (k : Int) (h0 : 0 ≤ k) (h1 : k + 100 * (szN_Rat x : Int) ≤ 4611686018427387904) : ∃ k' x', laws_markRat x k = some (k', x') ∧ laws_heldRat x' k = some k' ∧ k ≤ k' ∧ k' ≤ k + 100 * (szN_Rat x : Int) := by
  unfold szN_Rat at h1 ⊢
  obtain ⟨k0, x0, e0, g0, a0, b0⟩ := mh_BigInt x.fNum (k) (by omega) (by omega)
  have n0 : ¬ k0 < 0 := by omega
  obtain ⟨k1, x1, e1, g1, a1, b1, l1⟩ := mh_IntS x.fDen (k0) (by omega) (by omega)
  have n1 : ¬ k1 < 0 := by omega
  exact ⟨k1, Rat.mk x0 x1, by unfold laws_markRat; simp only [e0, e1, Option.bind_some], by unfold laws_heldRat; simp only [g0, g1, n0, n1, Option.bind_some, if_false], by omega, by omega⟩
def szN_Parent (x : Parent) : Nat := szN_Rat x.fShare + szN_Rat x.fDX + szN_Rat x.fDY
def szN_ParentS (x : (List Parent)) : Nat := szL szN_Parent x
def szN_Conditional (x : Conditional) : Nat := szN_Rat x.fTotal + szN_ParentS x.fParents
def szN_ConditionalS (x : (List Conditional)) : Nat := szL szN_Conditional x
def szN_Link (x : Link) : Nat := szN_Rat x.fWeight + szN_Rat x.fDX + szN_Rat x.fDY
theorem eq_Link (x : Link) (h : szN_Link x ≤ 4294967296) : laws_eqLink x x = some true := by
  unfold szN_Link at h
  unfold laws_eqLink
  have e0 := eq_Rat x.fWeight (by omega)
  have e1 := eq_Rat x.fDX (by omega)
  have e2 := eq_Rat x.fDY (by omega)
  simp only [e0, e1, e2, Option.bind_some, if_true, ne_eq, not_true_eq_false, if_false, beq_self_eq_true]
theorem mh_Link (x : Link) (k : Int) (h0 : 0 ≤ k) (h1 : k + 100 * (szN_Link x : Int) ≤ 4611686018427387904) : ∃ k' x', laws_markLink x k = some (k', x') ∧ laws_heldLink x' k = some k' ∧ k ≤ k' ∧ k' ≤ k + 100 * (szN_Link x : Int) := by
  unfold szN_Link at h1 ⊢
  obtain ⟨k0, x0, e0, g0, a0, b0⟩ := mh_Rat x.fWeight (k) (by omega) (by omega)
  have n0 : ¬ k0 < 0 := by omega
  obtain ⟨k1, x1, e1, g1, a1, b1⟩ := mh_Rat x.fDX (k0) (by omega) (by omega)
  have n1 : ¬ k1 < 0 := by omega
  obtain ⟨k2, x2, e2, g2, a2, b2⟩ := mh_Rat x.fDY (k1) (by omega) (by omega)
  have n2 : ¬ k2 < 0 := by omega
  exact ⟨k2, Link.mk x.fA x.fB x0 x1 x2, by unfold laws_markLink; simp only [e0, e1, e2, Option.bind_some], by unfold laws_heldLink; simp only [g0, g1, g2, n0, n1, n2, Option.bind_some, if_false], by omega, by omega⟩
def szN_LinkS (x : (List Link)) : Nat := szL szN_Link x
def szN_PoseS (x : (List Pose)) : Nat := szL (fun _ => 0) x
def szN_TreeNode (x : TreeNode) : Nat := szN_LinkS x.fOwn + szN_Conditional x.fCond + szN_LinkS x.fMessages + szN_Rat x.fEnergy
def szN_TreeNodeS (x : (List TreeNode)) : Nat := szL szN_TreeNode x
def szN_Tree (x : Tree) : Nat := szN_TreeNodeS x.fNodes
end Go.Ev
