/- Plain laws of helpers over nested data, printed by program (fam.py). -/
import Derived.Test.YtbfjidhekfnfjaaPN
import Derived.Test.YtbfjidhekfnfjaaLd
set_option linter.all false
namespace Go.Ev
set_option linter.all false
def szN_IntS (x : (List Int)) : Nat := szL (fun _ => 0) x
theorem to_IntS (x : (List Int)) (h : szN_IntS x ≤ 4294967296) : laws_toIntS x = some x := by
  have hl := szL_len (fun _ => 0) x
  unfold szN_IntS at h
  unfold laws_toIntS
  rw [chk_pos (by omega)]
  simp only [Option.bind_some]
  have := lp_fill (step := laws_toIntS_L1 x) x (List.replicate (x.length : Int).toNat 0) (fun k m => ((k : Int), m)) (fun m => m) (by simp) (fun k m hk hm => by
    unfold laws_toIntS_L1
    simp only []
    rw [if_pos (by omega), idx_lt hk, idx_lt (l := m) (by omega)]
    simp only [Option.bind_some, letO_bind, setI_nat]
    rw [wi (by omega)]; rfl)
   (fun m hm => by unfold laws_toIntS_L1; simp only []; rw [if_neg (by omega)])
  rw [show ((0 : Nat) : Int) = 0 from rfl] at this
  rw [this]; rfl
theorem eq_IntS (x : (List Int)) (h : szN_IntS x ≤ 4294967296) : laws_eqIntS x x = some true := by
  have hl := szL_len (fun _ => 0) x
  unfold szN_IntS at h
  unfold laws_eqIntS
  rw [if_neg (by simp), lp_count x.length (.inl ())]
  · rfl
  · intro k hk
    unfold laws_eqIntS_L1
    rw [if_pos (by omega), idx_lt hk]
    simp only [Option.bind_some, ne_eq, not_true_eq_false, if_false]
    rw [wi (by omega)]; rfl
  · unfold laws_eqIntS_L1; rw [if_neg (by omega)]
theorem mh_IntS (x : (List Int)) (k : Int) (h0 : 0 ≤ k) (h1 : k + 100 * (szN_IntS x : Int) ≤ 4611686018427387904) : ∃ k' x', laws_markIntS x k = some (k', x') ∧ laws_heldIntS x' k = some k' ∧ k ≤ k' ∧ k' ≤ k + 100 * (szN_IntS x : Int) ∧ x'.length = x.length := by
  unfold szN_IntS at h1 ⊢
  obtain ⟨k', l', p1, p2, p3, p4, p5⟩ := lp_mhE (ms := laws_markIntS_L1) (hs := laws_heldIntS_L1) (fun _ : Int => 0) x (fun hl y k h0 h1 => by
    have w0 : IntKind.i64.wrap (k + 1) = k + 1 := wi (by omega)
    refine ⟨k + 1, (k), by omega, by omega, fun m i hi hm => ?_, fun m i hi hm => ?_⟩
    · have hlt := (List.getElem?_eq_some_iff.1 hi).1
      have wi' : IntKind.i64.wrap ((i : Int) + 1) = (i : Int) + 1 := wi (by omega)
      unfold laws_markIntS_L1
      simp only []
      rw [if_pos (by omega)]
      simp only [letO_bind, setI_nat, idx_qN hi, idx_setN hlt, List.set_set, Option.bind_some, w0, wi']
    · have hlt := (List.getElem?_eq_some_iff.1 hi).1
      have wi' : IntKind.i64.wrap ((i : Int) + 1) = (i : Int) + 1 := wi (by omega)
      unfold laws_heldIntS_L1
      simp only []
      rw [if_pos (by omega)]
      simp only [letO_bind, idx_qN hi, Option.bind_some, ne_eq, not_true_eq_false, if_false, beq_self_eq_true, if_true, w0, wi'])
   (fun k m hm => by unfold laws_markIntS_L1; simp only []; rw [if_neg (by omega)]) (fun k m hm => by unfold laws_heldIntS_L1; simp only []; rw [if_neg (by omega)]) k h0 h1
  exact ⟨k', l', by unfold laws_markIntS laws_markIntS_raw; simp only [p1, Option.bind_some]; rw [chk_pos p2]; rfl, by unfold laws_heldIntS; simp only [p3, Option.bind_some], p4, p5, p2⟩
def szN_BigInt (x : BigInt) : Nat := szN_IntS x.fMag
theorem eq_BigInt (x : BigInt) (h : szN_BigInt x ≤ 4294967296) : laws_eqBigInt x x = some true := by
  unfold szN_BigInt at h
  unfold laws_eqBigInt
  have e0 := eq_IntS x.fMag (by omega)
  simp only [e0, Option.bind_some, if_true, ne_eq, not_true_eq_false, if_false, beq_self_eq_true]
def szN_BoolS (x : (List Bool)) : Nat := szL (fun _ => 0) x
def szN_Clique (x : Clique) : Nat := szN_IntS x.fFrontal + szN_IntS x.fSeparator
def szN_CliqueS (x : (List Clique)) : Nat := szL szN_Clique x
def szN_Rat (x : Rat) : Nat := szN_BigInt x.fNum + szN_IntS x.fDen
theorem eq_Rat (x : Rat) (h : szN_Rat x ≤ 4294967296) : laws_eqRat x x = some true := by
  unfold szN_Rat at h
  unfold laws_eqRat
  have e0 := eq_BigInt x.fNum (by omega)
  have e1 := eq_IntS x.fDen (by omega)
  simp only [e0, e1, Option.bind_some, if_true, ne_eq, not_true_eq_false, if_false, beq_self_eq_true]
def szN_Parent (x : Parent) : Nat := szN_Rat x.fShare + szN_Rat x.fDX + szN_Rat x.fDY
def szN_ParentS (x : (List Parent)) : Nat := szL szN_Parent x
def szN_Conditional (x : Conditional) : Nat := szN_Rat x.fTotal + szN_ParentS x.fParents
def szN_ConditionalS (x : (List Conditional)) : Nat := szL szN_Conditional x
def szN_Link (x : Link) : Nat := szN_Rat x.fWeight + szN_Rat x.fDX + szN_Rat x.fDY
theorem eq_Link (x : Link) (h : szN_Link x ≤ 4294967296) : laws_eqLink x x = some true := by
  unfold szN_Link at h
  unfold laws_eqLink
  have e0 := eq_Rat x.fWeight (by omega)
  have e1 := eq_Rat x.fDX (by omega)
  have e2 := eq_Rat x.fDY (by omega)
  simp only [e0, e1, e2, Option.bind_some, if_true, ne_eq, not_true_eq_false, if_false, beq_self_eq_true]
def szN_LinkS (x : (List Link)) : Nat := szL szN_Link x
theorem eq_LinkS (x : (List Link)) (h : szN_LinkS x ≤ 4294967296) : laws_eqLinkS x x = some true := by
  have hl := szL_len szN_Link x
  unfold szN_LinkS at h
  unfold laws_eqLinkS
  rw [if_neg (by simp), lp_count x.length (.inl ())]
  · rfl
  · intro k hk
    have he := szL_mem (w := szN_Link) (List.getElem_mem hk)
    unfold laws_eqLinkS_L1
    rw [if_pos (by omega), idx_lt hk]
    simp only [Option.bind_some, eq_Link _ (show szN_Link x[k] ≤ 4294967296 by omega), if_true]
    rw [wi (by omega)]; rfl
  · unfold laws_eqLinkS_L1; rw [if_neg (by omega)]
theorem mh_LinkS (x : (List Link)) (k : Int) (h0 : 0 ≤ k) (h1 : k + 100 * (szN_LinkS x : Int) ≤ 4611686018427387904) : ∃ k' x', laws_markLinkS x k = some (k', x') ∧ laws_heldLinkS x' k = some k' ∧ k ≤ k' ∧ k' ≤ k + 100 * (szN_LinkS x : Int) ∧ x'.length = x.length := by
  unfold szN_LinkS at h1 ⊢
  obtain ⟨k', l', p1, p2, p3, p4, p5⟩ := lp_mhE (ms := laws_markLinkS_L1) (hs := laws_heldLinkS_L1) szN_Link x (fun hl y k h0 h1 => by
    simp only [szN_Link, szN_Rat, szN_BigInt] at h1 ⊢
    obtain ⟨k0, x0, e0, g0, a0, b0, l0⟩ := mh_IntS y.fWeight.fNum.fMag (k + 1 + 1 + 1) (by omega) (by omega)
    obtain ⟨k1, x1, e1, g1, a1, b1, l1⟩ := mh_IntS y.fWeight.fDen (k0) (by omega) (by omega)
    obtain ⟨k2, x2, e2, g2, a2, b2, l2⟩ := mh_IntS y.fDX.fNum.fMag (k1 + 1) (by omega) (by omega)
    obtain ⟨k3, x3, e3, g3, a3, b3, l3⟩ := mh_IntS y.fDX.fDen (k2) (by omega) (by omega)
    obtain ⟨k4, x4, e4, g4, a4, b4, l4⟩ := mh_IntS y.fDY.fNum.fMag (k3 + 1) (by omega) (by omega)
    obtain ⟨k5, x5, e5, g5, a5, b5, l5⟩ := mh_IntS y.fDY.fDen (k4) (by omega) (by omega)
    have w0 : IntKind.i64.wrap (k + 1) = k + 1 := wi (by omega)
    have w1 : IntKind.i64.wrap (k + 1 + 1) = k + 1 + 1 := wi (by omega)
    have w2 : IntKind.i64.wrap (k + 1 + 1 + 1) = k + 1 + 1 + 1 := wi (by omega)
    have w3 : IntKind.i64.wrap (k1 + 1) = k1 + 1 := wi (by omega)
    have w4 : IntKind.i64.wrap (k3 + 1) = k3 + 1 := wi (by omega)
    have n0 : ¬ k0 < 0 := by omega
    have n1 : ¬ k1 < 0 := by omega
    have n2 : ¬ k2 < 0 := by omega
    have n3 : ¬ k3 < 0 := by omega
    have n4 : ¬ k4 < 0 := by omega
    have n5 : ¬ k5 < 0 := by omega
    refine ⟨k5, (Link.mk (k) (k + 1) (Rat.mk (BigInt.mk (decide ((k + 1 + 1).tmod 3 = 0)) x0) x1) (Rat.mk (BigInt.mk (decide ((k1).tmod 3 = 0)) x2) x3) (Rat.mk (BigInt.mk (decide ((k3).tmod 3 = 0)) x4) x5)), by omega, by omega, fun m i hi hm => ?_, fun m i hi hm => ?_⟩
    · have hlt := (List.getElem?_eq_some_iff.1 hi).1
      have wi' : IntKind.i64.wrap ((i : Int) + 1) = (i : Int) + 1 := wi (by omega)
      unfold laws_markLinkS_L1
      simp only []
      rw [if_pos (by omega)]
      simp only [letO_bind, setI_nat, idx_qN hi, idx_setN hlt, List.set_set, Option.bind_some, w0, w1, w2, w3, w4, e0, e1, e2, e3, e4, e5, wi']
    · have hlt := (List.getElem?_eq_some_iff.1 hi).1
      have wi' : IntKind.i64.wrap ((i : Int) + 1) = (i : Int) + 1 := wi (by omega)
      unfold laws_heldLinkS_L1
      simp only []
      rw [if_pos (by omega)]
      simp only [letO_bind, idx_qN hi, Option.bind_some, ne_eq, not_true_eq_false, if_false, beq_self_eq_true, if_true, w0, w1, w2, w3, w4, g0, g1, g2, g3, g4, g5, n0, n1, n2, n3, n4, n5, wi'])
   (fun k m hm => by unfold laws_markLinkS_L1; simp only []; rw [if_neg (by omega)]) (fun k m hm => by unfold laws_heldLinkS_L1; simp only []; rw [if_neg (by omega)]) k h0 h1
  exact ⟨k', l', by unfold laws_markLinkS laws_markLinkS_raw; simp only [p1, Option.bind_some]; rw [chk_pos p2]; rfl, by unfold laws_heldLinkS; simp only [p3, Option.bind_some], p4, p5, p2⟩
def szN_PoseS (x : (List Pose)) : Nat := szL (fun _ => 0) x
def szN_TreeNode (x : TreeNode) : Nat := szN_LinkS x.fOwn + szN_Conditional x.fCond + szN_LinkS x.fMessages + szN_Rat x.fEnergy
def szN_TreeNodeS (x : (List TreeNode)) : Nat := szL szN_TreeNode x
def szN_Tree (x : Tree) : Nat := szN_TreeNodeS x.fNodes
end Go.Ev
