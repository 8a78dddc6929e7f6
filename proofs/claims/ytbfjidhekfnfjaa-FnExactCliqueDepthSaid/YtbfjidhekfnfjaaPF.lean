/- Plain laws of helpers over nested data, printed by program (fam.py). -/
import Derived.Test.YtbfjidhekfnfjaaPN
import Derived.Test.YtbfjidhekfnfjaaLd
set_option linter.all false
namespace Go.Ev
set_option linter.all false
def szN_IntS (x : (List Int)) : Nat := szL (fun _ => 0) x
theorem sz_IntS (x : (List Int)) (o : (okL (okI .i64)) x) (t : Int) (h0 : 0 ≤ t) (h1 : t ≤ 1048576) : laws_szIntS x t = some (if (szN_IntS x : Int) ≤ t then t - szN_IntS x else -1) := by
  have hl : x.length ≤ 9223372036854775807 := o.1
  have e := szL_flat x
  unfold laws_szIntS szN_IntS
  simp only [letO_bind]
  rw [wi (by omega)]
  by_cases c : t - (x.length : Int) < 0
  · rw [if_pos c, if_neg (by omega)]
  · rw [if_neg c, if_pos (by omega)]; congr 1; omega
theorem to_IntS (x : (List Int)) (h : szN_IntS x ≤ 4294967296) : laws_toIntS x = some x := by
  have hl := szL_len (fun _ => 0) x
  unfold szN_IntS at h
  unfold laws_toIntS
  rw [chk_pos (by omega)]
  simp only [Option.bind_some]
  have := lp_fill (step := laws_toIntS_L1 x) x (List.replicate (x.length : Int).toNat 0) (fun k m => ((k : Int), m)) (fun m => m) (by simp) (fun k m hk hm => by
    unfold laws_toIntS_L1
    simp only []
    rw [if_pos (by omega), idx_lt hk, idx_lt (l := m) (by omega)]
    simp only [Option.bind_some, letO_bind, setI_nat]
    rw [wi (by omega)]; rfl)
   (fun m hm => by unfold laws_toIntS_L1; simp only []; rw [if_neg (by omega)])
  rw [show ((0 : Nat) : Int) = 0 from rfl] at this
  rw [this]; rfl
theorem eq_IntS (x : (List Int)) (h : szN_IntS x ≤ 4294967296) : laws_eqIntS x x = some true := by
  have hl := szL_len (fun _ => 0) x
  unfold szN_IntS at h
  unfold laws_eqIntS
  rw [if_neg (by simp), lp_count x.length (.inl ())]
  · rfl
  · intro k hk
    unfold laws_eqIntS_L1
    rw [if_pos (by omega), idx_lt hk]
    simp only [Option.bind_some, ne_eq, not_true_eq_false, if_false]
    rw [wi (by omega)]; rfl
  · unfold laws_eqIntS_L1; rw [if_neg (by omega)]
theorem mh_IntS (x : (List Int)) (k : Int) (h0 : 0 ≤ k) (h1 : k + 100 * (szN_IntS x : Int) ≤ 4611686018427387904) : ∃ k' x', laws_markIntS x k = some (k', x') ∧ laws_heldIntS x' k = some k' ∧ k ≤ k' ∧ k' ≤ k + 100 * (szN_IntS x : Int) ∧ x'.length = x.length := by
  unfold szN_IntS at h1 ⊢
  obtain ⟨k', l', p1, p2, p3, p4, p5⟩ := lp_mhE (ms := laws_markIntS_L1) (hs := laws_heldIntS_L1) (fun _ : Int => 0) x (fun hl y k h0 h1 => by
    have w0 : IntKind.i64.wrap (k + 1) = k + 1 := wi (by omega)
    refine ⟨k + 1, (k), by omega, by omega, fun m i hi hm => ?_, fun m i hi hm => ?_⟩
    · have hlt := (List.getElem?_eq_some_iff.1 hi).1
      have wi' : IntKind.i64.wrap ((i : Int) + 1) = (i : Int) + 1 := wi (by omega)
      unfold laws_markIntS_L1
      simp only []
      rw [if_pos (by omega)]
      simp only [letO_bind, setI_nat, idx_qN hi, idx_setN hlt, List.set_set, Option.bind_some, w0, wi']
    · have hlt := (List.getElem?_eq_some_iff.1 hi).1
      have wi' : IntKind.i64.wrap ((i : Int) + 1) = (i : Int) + 1 := wi (by omega)
      unfold laws_heldIntS_L1
      simp only []
      rw [if_pos (by omega)]
      simp only [letO_bind, idx_qN hi, Option.bind_some, ne_eq, not_true_eq_false, if_false, beq_self_eq_true, if_true, w0, wi'])
   (fun k m hm => by unfold laws_markIntS_L1; simp only []; rw [if_neg (by omega)]) (fun k m hm => by unfold laws_heldIntS_L1; simp only []; rw [if_neg (by omega)]) k h0 h1
  exact ⟨k', l', by unfold laws_markIntS laws_markIntS_raw; simp only [p1, Option.bind_some]; rw [chk_pos p2]; rfl, by unfold laws_heldIntS; simp only [p3, Option.bind_some], p4, p5, p2⟩
def szN_BigInt (x : BigInt) : Nat := szN_IntS x.fMag
def szN_BoolS (x : (List Bool)) : Nat := szL (fun _ => 0) x
def szN_Clique (x : Clique) : Nat := szN_IntS x.fFrontal + szN_IntS x.fSeparator
theorem sz_Clique (x : Clique) (o : okClique x) (t : Int) (h0 : 0 ≤ t) (h1 : t ≤ 1048576) : laws_szClique x t = some (if (szN_Clique x : Int) ≤ t then t - szN_Clique x else -1) := by
  unfold laws_szClique szN_Clique
  rw [sz_IntS x.fFrontal o.1 (t) (by omega) (by omega)]
  simp only [Option.bind_some]
  by_cases c0 : (szN_IntS x.fFrontal : Int) ≤ t
  · skip
    rw [if_pos c0, if_neg (by omega)]
    rw [sz_IntS x.fSeparator o.2.1 (t - szN_IntS x.fFrontal) (by omega) (by omega)]
    simp only [Option.bind_some]
    by_cases c1 : (szN_IntS x.fSeparator : Int) ≤ t - szN_IntS x.fFrontal
    · skip
      rw [if_pos c1, if_neg (by omega)]
      rw [if_pos (by omega)]; congr 1; omega
    · rw [if_neg c1, if_pos (by omega), if_neg (by omega)]
  · rw [if_neg c0, if_pos (by omega), if_neg (by omega)]
theorem to_Clique (x : Clique) (h : szN_Clique x ≤ 4294967296) : laws_toClique x = some x := by
  unfold szN_Clique at h
  unfold laws_toClique
  rw [to_IntS x.fFrontal (by omega)]
  simp only [Option.bind_some]
  rw [to_IntS x.fSeparator (by omega)]
  simp only [Option.bind_some]
theorem eq_Clique (x : Clique) (h : szN_Clique x ≤ 4294967296) : laws_eqClique x x = some true := by
  unfold szN_Clique at h
  unfold laws_eqClique
  have e0 := eq_IntS x.fFrontal (by omega)
  have e1 := eq_IntS x.fSeparator (by omega)
  simp only [e0, e1, Option.bind_some, if_true, ne_eq, not_true_eq_false, if_false, beq_self_eq_true]
def szN_CliqueS (x : (List Clique)) : Nat := szL szN_Clique x
theorem sz_CliqueS (x : (List Clique)) (o : (okL okClique) x) (t : Int) (h0 : 0 ≤ t) (h1 : t ≤ 1048576) : laws_szCliqueS x t = some (if (szN_CliqueS x : Int) ≤ t then t - szN_CliqueS x else -1) := by
  have hl : x.length ≤ 9223372036854775807 := o.1
  have e := szL_eq szN_Clique x
  unfold laws_szCliqueS szN_CliqueS
  simp only [letO_bind]
  rw [wi (by omega)]
  by_cases c : t - (x.length : Int) < 0
  · rw [if_pos c, if_neg (by omega)]
  · rw [if_neg c, lp_szE x szN_Clique laws_szClique (fun y hy t a b => sz_Clique y (o.2 y hy) t a b) (fun k t hk => by unfold laws_szCliqueS_L1; simp only []; rw [if_pos (by omega), idx_lt hk]; simp only [Option.bind_some]; rw [wi (by omega)]) (fun t => by unfold laws_szCliqueS_L1; simp only []; rw [if_neg (by omega)]) _ (by omega) (by omega)]
    by_cases d : ((x.map szN_Clique).sum : Int) ≤ t - x.length
    · rw [if_pos d, if_pos (by omega)]; simp only [Option.bind_some]; congr 1; omega
    · rw [if_neg d, if_neg (by omega)]; rfl
theorem to_CliqueS (x : (List Clique)) (h : szN_CliqueS x ≤ 4294967296) : laws_toCliqueS x = some x := by
  have hl := szL_len szN_Clique x
  unfold szN_CliqueS at h
  unfold laws_toCliqueS
  rw [chk_pos (by omega)]
  simp only [Option.bind_some]
  have := lp_fill (step := laws_toCliqueS_L1 x) x (List.replicate (x.length : Int).toNat (Clique.mk ([]) ([]) 0)) (fun k m => ((k : Int), m)) (fun m => m) (by simp) (fun k m hk hm => by
    have he := szL_mem (w := szN_Clique) (List.getElem_mem hk)
    unfold laws_toCliqueS_L1
    simp only []
    rw [if_pos (by omega), idx_lt hk, idx_lt (l := m) (by omega)]
    simp only [Option.bind_some, letO_bind, setI_nat, to_Clique _ (show szN_Clique x[k] ≤ 4294967296 by omega)]
    rw [wi (by omega)]; rfl)
   (fun m hm => by unfold laws_toCliqueS_L1; simp only []; rw [if_neg (by omega)])
  rw [show ((0 : Nat) : Int) = 0 from rfl] at this
  rw [this]; rfl
theorem eq_CliqueS (x : (List Clique)) (h : szN_CliqueS x ≤ 4294967296) : laws_eqCliqueS x x = some true := by
  have hl := szL_len szN_Clique x
  unfold szN_CliqueS at h
  unfold laws_eqCliqueS
  rw [if_neg (by simp), lp_count x.length (.inl ())]
  · rfl
  · intro k hk
    have he := szL_mem (w := szN_Clique) (List.getElem_mem hk)
    unfold laws_eqCliqueS_L1
    rw [if_pos (by omega), idx_lt hk]
    simp only [Option.bind_some, eq_Clique _ (show szN_Clique x[k] ≤ 4294967296 by omega), if_true]
    rw [wi (by omega)]; rfl
  · unfold laws_eqCliqueS_L1; rw [if_neg (by omega)]
theorem mh_CliqueS (x : (List Clique)) (k : Int) (h0 : 0 ≤ k) (h1 : k + 100 * (szN_CliqueS x : Int) ≤ 4611686018427387904) : ∃ k' x', laws_markCliqueS x k = some (k', x') ∧ k ≤ k' ∧ k' ≤ k + 100 * (szN_CliqueS x : Int) ∧ x'.length = x.length := by
  unfold szN_CliqueS at h1 ⊢
  obtain ⟨k', l', p1, p2, p4, p5⟩ := lp_mkE (ms := laws_markCliqueS_L1) szN_Clique x (fun hl y k h0 h1 => by
    simp only [szN_Clique] at h1 ⊢
    obtain ⟨k0, x0, e0, g0, a0, b0, l0⟩ := mh_IntS y.fFrontal (k) (by omega) (by omega)
    obtain ⟨k1, x1, e1, g1, a1, b1, l1⟩ := mh_IntS y.fSeparator (k0) (by omega) (by omega)
    have w0 : IntKind.i64.wrap (k1 + 1) = k1 + 1 := wi (by omega)
    have n0 : ¬ k0 < 0 := by omega
    have n1 : ¬ k1 < 0 := by omega
    refine ⟨k1 + 1, (Clique.mk x0 x1 (k1)), by omega, by omega, fun m i hi hm => ?_⟩
    · have hlt := (List.getElem?_eq_some_iff.1 hi).1
      have wi' : IntKind.i64.wrap ((i : Int) + 1) = (i : Int) + 1 := wi (by omega)
      unfold laws_markCliqueS_L1
      simp only []
      rw [if_pos (by omega)]
      simp only [letO_bind, setI_nat, idx_qN hi, idx_setN hlt, List.set_set, Option.bind_some, w0, e0, e1, wi'])
   (fun k m hm => by unfold laws_markCliqueS_L1; simp only []; rw [if_neg (by omega)]) k h0 h1
  exact ⟨k', l', by unfold laws_markCliqueS laws_markCliqueS_raw; simp only [p1, Option.bind_some]; rw [chk_pos p2]; rfl, p4, p5, p2⟩
def szN_Rat (x : Rat) : Nat := szN_BigInt x.fNum + szN_IntS x.fDen
def szN_Parent (x : Parent) : Nat := szN_Rat x.fShare + szN_Rat x.fDX + szN_Rat x.fDY
def szN_ParentS (x : (List Parent)) : Nat := szL szN_Parent x
def szN_Conditional (x : Conditional) : Nat := szN_Rat x.fTotal + szN_ParentS x.fParents
def szN_ConditionalS (x : (List Conditional)) : Nat := szL szN_Conditional x
def szN_FactorS (x : (List Factor)) : Nat := szL (fun _ => 0) x
def szN_Link (x : Link) : Nat := szN_Rat x.fWeight + szN_Rat x.fDX + szN_Rat x.fDY
def szN_LinkS (x : (List Link)) : Nat := szL szN_Link x
def szN_PoseS (x : (List Pose)) : Nat := szL (fun _ => 0) x
def szN_TreeNode (x : TreeNode) : Nat := szN_LinkS x.fOwn + szN_Conditional x.fCond + szN_LinkS x.fMessages + szN_Rat x.fEnergy
def szN_TreeNodeS (x : (List TreeNode)) : Nat := szL szN_TreeNode x
def szN_Tree (x : Tree) : Nat := szN_TreeNodeS x.fNodes
end Go.Ev
