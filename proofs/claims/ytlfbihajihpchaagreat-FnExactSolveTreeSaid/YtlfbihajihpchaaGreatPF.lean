/- Plain laws of helpers over nested data, printed by program (fam.py). -/
import Derived.Test.YtlfbihajihpchaaGreatPN
import Derived.Test.YtlfbihajihpchaaGreatLd
set_option linter.all false
namespace Go.Ev
set_option linter.all false
def szN_IntS (x : (List Int)) : Nat := szL (fun _ => 0) x
theorem sz_IntS (x : (List Int)) (o : (okL (okI .i64)) x) (t : Int) (h0 : 0 ≤ t) (h1 : t ≤ 1048576) : laws_szIntS x t = some (if (szN_IntS x : Int) ≤ t then t - szN_IntS x else -1) := by
  have hl : x.length ≤ 9223372036854775807 := o.1
  have e := szL_flat x
  unfold laws_szIntS szN_IntS
  simp only [letO_bind]
  rw [wi (by omega)]
  by_cases c : t - (x.length : Int) < 0
  · rw [if_pos c, if_neg (by omega)]
  · rw [if_neg c, if_pos (by omega)]; congr 1; omega
theorem to_IntS (x : (List Int)) (h : szN_IntS x ≤ 4294967296) : laws_toIntS x = some x := by
  have hl := szL_len (fun _ => 0) x
  unfold szN_IntS at h
  unfold laws_toIntS
  rw [chk_pos (by omega)]
  simp only [Option.bind_some]
  have := lp_fill (step := laws_toIntS_L1 x) x (List.replicate (x.length : Int).toNat 0) (fun k m => ((k : Int), m)) (fun m => m) (by simp) (fun k m hk hm => by
    unfold laws_toIntS_L1
    simp only []
    rw [if_pos (by omega), idx_lt hk, idx_lt (l := m) (by omega)]
    simp only [Option.bind_some, letO_bind, setI_nat]
    rw [wi (by omega)]; rfl)
   (fun m hm => by unfold laws_toIntS_L1; simp only []; rw [if_neg (by omega)])
  rw [show ((0 : Nat) : Int) = 0 from rfl] at this
  rw [this]; rfl
theorem eq_IntS (x : (List Int)) (h : szN_IntS x ≤ 4294967296) : laws_eqIntS x x = some true := by
  have hl := szL_len (fun _ => 0) x
  unfold szN_IntS at h
  unfold laws_eqIntS
  rw [if_neg (by simp), lp_count x.length (.inl ())]
  · rfl
  · intro k hk
    unfold laws_eqIntS_L1
    rw [if_pos (by omega), idx_lt hk]
    simp only [Option.bind_some, ne_eq, not_true_eq_false, if_false]
    rw [wi (by omega)]; rfl
  · unfold laws_eqIntS_L1; rw [if_neg (by omega)]
theorem mh_IntS (x : (List Int)) (k : Int) (h0 : 0 ≤ k) (h1 : k + 100 * (szN_IntS x : Int) ≤ 4611686018427387904) : ∃ k' x', laws_markIntS x k = some (k', x') ∧ laws_heldIntS x' k = some k' ∧ k ≤ k' ∧ k' ≤ k + 100 * (szN_IntS x : Int) ∧ x'.length = x.length := by
  unfold szN_IntS at h1 ⊢
  obtain ⟨k', l', p1, p2, p3, p4, p5⟩ := lp_mhE (ms := laws_markIntS_L1) (hs := laws_heldIntS_L1) (fun _ : Int => 0) x (fun hl y k h0 h1 => by
    have w0 : IntKind.i64.wrap (k + 1) = k + 1 := wi (by omega)
    refine ⟨k + 1, (k), by omega, by omega, fun m i hi hm => ?_, fun m i hi hm => ?_⟩
    · have hlt := (List.getElem?_eq_some_iff.1 hi).1
      have wi' : IntKind.i64.wrap ((i : Int) + 1) = (i : Int) + 1 := wi (by omega)
      unfold laws_markIntS_L1
      simp only []
      rw [if_pos (by omega)]
      simp only [letO_bind, setI_nat, idx_qN hi, idx_setN hlt, List.set_set, Option.bind_some, w0, wi']
    · have hlt := (List.getElem?_eq_some_iff.1 hi).1
      have wi' : IntKind.i64.wrap ((i : Int) + 1) = (i : Int) + 1 := wi (by omega)
      unfold laws_heldIntS_L1
      simp only []
      rw [if_pos (by omega)]
      simp only [letO_bind, idx_qN hi, Option.bind_some, ne_eq, not_true_eq_false, if_false, beq_self_eq_true, if_true, w0, wi'])
   (fun k m hm => by unfold laws_markIntS_L1; simp only []; rw [if_neg (by omega)]) (fun k m hm => by unfold laws_heldIntS_L1; simp only []; rw [if_neg (by omega)]) k h0 h1
  exact ⟨k', l', by unfold laws_markIntS laws_markIntS_raw; simp only [p1, Option.bind_some]; rw [chk_pos p2]; rfl, by unfold laws_heldIntS; simp only [p3, Option.bind_some], p4, p5, p2⟩
def szN_BigInt (x : BigInt) : Nat := szN_IntS x.fMag
theorem sz_BigInt (x : BigInt) (o : okBigInt x) (t : Int) (h0 : 0 ≤ t) (h1 : t ≤ 1048576) : laws_szBigInt x t = some (if (szN_BigInt x : Int) ≤ t then t - szN_BigInt x else -1) := by
  unfold laws_szBigInt szN_BigInt
  rw [sz_IntS x.fMag o.2.1 t (by omega) (by omega)]
  simp only [Option.bind_some]
  by_cases c : (szN_IntS x.fMag : Int) ≤ t
  · rw [if_pos c, if_neg (by omega)]
  · rw [if_neg c]; rfl
theorem to_BigInt (x : BigInt) (h : szN_BigInt x ≤ 4294967296) : laws_toBigInt x = some x := by
  unfold szN_BigInt at h
  unfold laws_toBigInt
  rw [to_IntS x.fMag (by omega)]
  simp only [Option.bind_some]
theorem eq_BigInt (x : BigInt) (h : szN_BigInt x ≤ 4294967296) : laws_eqBigInt x x = some true := by
  unfold szN_BigInt at h
  unfold laws_eqBigInt
  have e0 := eq_IntS x.fMag (by omega)
  simp only [e0, Option.bind_some, if_true, ne_eq, not_true_eq_false, if_false, beq_self_eq_true]
def szN_Rat (x : Rat) : Nat := szN_BigInt x.fNum + szN_IntS x.fDen
theorem sz_Rat (x : Rat) (o : okRat x) (t : Int) (h0 : 0 ≤ t) (h1 : t ≤ 1048576) : laws_szRat x t = some (if (szN_Rat x : Int) ≤ t then t - szN_Rat x else -1) := by
  unfold laws_szRat szN_Rat
  rw [sz_BigInt x.fNum o.1 (t) (by omega) (by omega)]
  simp only [Option.bind_some]
  by_cases c0 : (szN_BigInt x.fNum : Int) ≤ t
  · skip
    rw [if_pos c0, if_neg (by omega)]
    rw [sz_IntS x.fDen o.2.1 (t - szN_BigInt x.fNum) (by omega) (by omega)]
    simp only [Option.bind_some]
    by_cases c1 : (szN_IntS x.fDen : Int) ≤ t - szN_BigInt x.fNum
    · skip
      rw [if_pos c1, if_neg (by omega)]
      rw [if_pos (by omega)]; congr 1; omega
    · rw [if_neg c1, if_pos (by omega), if_neg (by omega)]
  · rw [if_neg c0, if_pos (by omega), if_neg (by omega)]
theorem to_Rat (x : Rat) (h : szN_Rat x ≤ 4294967296) : laws_toRat x = some x := by
  unfold szN_Rat at h
  unfold laws_toRat
  rw [to_BigInt x.fNum (by omega)]
  simp only [Option.bind_some]
  rw [to_IntS x.fDen (by omega)]
  simp only [Option.bind_some]
theorem eq_Rat (x : Rat) (h : szN_Rat x ≤ 4294967296) : laws_eqRat x x = some true := by
  unfold szN_Rat at h
  unfold laws_eqRat
  have e0 := eq_BigInt x.fNum (by omega)
  have e1 := eq_IntS x.fDen (by omega)
  simp only [e0, e1, Option.bind_some, if_true, ne_eq, not_true_eq_false, if_false, beq_self_eq_true]
def szN_Parent (x : Parent) : Nat := szN_Rat x.fShare + szN_Rat x.fDX + szN_Rat x.fDY
theorem sz_Parent (x : Parent) (o : okParent x) (t : Int) (h0 : 0 ≤ t) (h1 : t ≤ 1048576) : laws_szParent x t = some (if (szN_Parent x : Int) ≤ t then t - szN_Parent x else -1) := by
  unfold laws_szParent szN_Parent
  rw [sz_Rat x.fShare o.2.1 (t) (by omega) (by omega)]
  simp only [Option.bind_some]
  by_cases c0 : (szN_Rat x.fShare : Int) ≤ t
  · skip
    rw [if_pos c0, if_neg (by omega)]
    rw [sz_Rat x.fDX o.2.2.1 (t - szN_Rat x.fShare) (by omega) (by omega)]
    simp only [Option.bind_some]
    by_cases c1 : (szN_Rat x.fDX : Int) ≤ t - szN_Rat x.fShare
    · skip
      rw [if_pos c1, if_neg (by omega)]
      rw [sz_Rat x.fDY o.2.2.2.1 (t - szN_Rat x.fShare - szN_Rat x.fDX) (by omega) (by omega)]
      simp only [Option.bind_some]
      by_cases c2 : (szN_Rat x.fDY : Int) ≤ t - szN_Rat x.fShare - szN_Rat x.fDX
      · skip
        rw [if_pos c2, if_neg (by omega)]
        rw [if_pos (by omega)]; congr 1; omega
      · rw [if_neg c2, if_pos (by omega), if_neg (by omega)]
    · rw [if_neg c1, if_pos (by omega), if_neg (by omega)]
  · rw [if_neg c0, if_pos (by omega), if_neg (by omega)]
theorem to_Parent (x : Parent) (h : szN_Parent x ≤ 4294967296) : laws_toParent x = some x := by
  unfold szN_Parent at h
  unfold laws_toParent
  rw [to_Rat x.fShare (by omega)]
  simp only [Option.bind_some]
  rw [to_Rat x.fDX (by omega)]
  simp only [Option.bind_some]
  rw [to_Rat x.fDY (by omega)]
  simp only [Option.bind_some]
theorem eq_Parent (x : Parent) (h : szN_Parent x ≤ 4294967296) : laws_eqParent x x = some true := by
  unfold szN_Parent at h
  unfold laws_eqParent
  have e0 := eq_Rat x.fShare (by omega)
  have e1 := eq_Rat x.fDX (by omega)
  have e2 := eq_Rat x.fDY (by omega)
  simp only [e0, e1, e2, Option.bind_some, if_true, ne_eq, not_true_eq_false, if_false, beq_self_eq_true]
def szN_ParentS (x : (List Parent)) : Nat := szL szN_Parent x
theorem sz_ParentS (x : (List Parent)) (o : (okL okParent) x) (t : Int) (h0 : 0 ≤ t) (h1 : t ≤ 1048576) : laws_szParentS x t = some (if (szN_ParentS x : Int) ≤ t then t - szN_ParentS x else -1) := by
  have hl : x.length ≤ 9223372036854775807 := o.1
  have e := szL_eq szN_Parent x
  unfold laws_szParentS szN_ParentS
  simp only [letO_bind]
  rw [wi (by omega)]
  by_cases c : t - (x.length : Int) < 0
  · rw [if_pos c, if_neg (by omega)]
  · rw [if_neg c, lp_szE x szN_Parent laws_szParent (fun y hy t a b => sz_Parent y (o.2 y hy) t a b) (fun k t hk => by unfold laws_szParentS_L1; simp only []; rw [if_pos (by omega), idx_lt hk]; simp only [Option.bind_some]; rw [wi (by omega)]) (fun t => by unfold laws_szParentS_L1; simp only []; rw [if_neg (by omega)]) _ (by omega) (by omega)]
    by_cases d : ((x.map szN_Parent).sum : Int) ≤ t - x.length
    · rw [if_pos d, if_pos (by omega)]; simp only [Option.bind_some]; congr 1; omega
    · rw [if_neg d, if_neg (by omega)]; rfl
theorem to_ParentS (x : (List Parent)) (h : szN_ParentS x ≤ 4294967296) : laws_toParentS x = some x := by
  have hl := szL_len szN_Parent x
  unfold szN_ParentS at h
  unfold laws_toParentS
  rw [chk_pos (by omega)]
  simp only [Option.bind_some]
  have := lp_fill (step := laws_toParentS_L1 x) x (List.replicate (x.length : Int).toNat (Parent.mk 0 (Rat.mk (BigInt.mk false ([])) ([])) (Rat.mk (BigInt.mk false ([])) ([])) (Rat.mk (BigInt.mk false ([])) ([])))) (fun k m => ((k : Int), m)) (fun m => m) (by simp) (fun k m hk hm => by
    have he := szL_mem (w := szN_Parent) (List.getElem_mem hk)
    unfold laws_toParentS_L1
    simp only []
    rw [if_pos (by omega), idx_lt hk, idx_lt (l := m) (by omega)]
    simp only [Option.bind_some, letO_bind, setI_nat, to_Parent _ (show szN_Parent x[k] ≤ 4294967296 by omega)]
    rw [wi (by omega)]; rfl)
   (fun m hm => by unfold laws_toParentS_L1; simp only []; rw [if_neg (by omega)])
  rw [show ((0 : Nat) : Int) = 0 from rfl] at this
  rw [this]; rfl
theorem eq_ParentS (x : (List Parent)) (h : szN_ParentS x ≤ 4294967296) : laws_eqParentS x x = some true := by
  have hl := szL_len szN_Parent x
  unfold szN_ParentS at h
  unfold laws_eqParentS
  rw [if_neg (by simp), lp_count x.length (.inl ())]
  · rfl
  · intro k hk
    have he := szL_mem (w := szN_Parent) (List.getElem_mem hk)
    unfold laws_eqParentS_L1
    rw [if_pos (by omega), idx_lt hk]
    simp only [Option.bind_some, eq_Parent _ (show szN_Parent x[k] ≤ 4294967296 by omega), if_true]
    rw [wi (by omega)]; rfl
  · unfold laws_eqParentS_L1; rw [if_neg (by omega)]
theorem mh_ParentS (x : (List Parent)) (k : Int) (h0 : 0 ≤ k) (h1 : k + 100 * (szN_ParentS x : Int) ≤ 4611686018427387904) : ∃ k' x', laws_markParentS x k = some (k', x') ∧ k ≤ k' ∧ k' ≤ k + 100 * (szN_ParentS x : Int) ∧ x'.length = x.length := by
  unfold szN_ParentS at h1 ⊢
  obtain ⟨k', l', p1, p2, p4, p5⟩ := lp_mkE (ms := laws_markParentS_L1) szN_Parent x (fun hl y k h0 h1 => by
    simp only [szN_Parent, szN_Rat, szN_BigInt] at h1 ⊢
    obtain ⟨k0, x0, e0, g0, a0, b0, l0⟩ := mh_IntS y.fShare.fNum.fMag (k + 1 + 1) (by omega) (by omega)
    obtain ⟨k1, x1, e1, g1, a1, b1, l1⟩ := mh_IntS y.fShare.fDen (k0) (by omega) (by omega)
    obtain ⟨k2, x2, e2, g2, a2, b2, l2⟩ := mh_IntS y.fDX.fNum.fMag (k1 + 1) (by omega) (by omega)
    obtain ⟨k3, x3, e3, g3, a3, b3, l3⟩ := mh_IntS y.fDX.fDen (k2) (by omega) (by omega)
    obtain ⟨k4, x4, e4, g4, a4, b4, l4⟩ := mh_IntS y.fDY.fNum.fMag (k3 + 1) (by omega) (by omega)
    obtain ⟨k5, x5, e5, g5, a5, b5, l5⟩ := mh_IntS y.fDY.fDen (k4) (by omega) (by omega)
    have w0 : IntKind.i64.wrap (k + 1) = k + 1 := wi (by omega)
    have w1 : IntKind.i64.wrap (k + 1 + 1) = k + 1 + 1 := wi (by omega)
    have w2 : IntKind.i64.wrap (k1 + 1) = k1 + 1 := wi (by omega)
    have w3 : IntKind.i64.wrap (k3 + 1) = k3 + 1 := wi (by omega)
    have n0 : ¬ k0 < 0 := by omega
    have n1 : ¬ k1 < 0 := by omega
    have n2 : ¬ k2 < 0 := by omega
    have n3 : ¬ k3 < 0 := by omega
    have n4 : ¬ k4 < 0 := by omega
    have n5 : ¬ k5 < 0 := by omega
    refine ⟨k5, (Parent.mk (k) (Rat.mk (BigInt.mk (decide ((k + 1).tmod 3 = 0)) x0) x1) (Rat.mk (BigInt.mk (decide ((k1).tmod 3 = 0)) x2) x3) (Rat.mk (BigInt.mk (decide ((k3).tmod 3 = 0)) x4) x5)), by omega, by omega, fun m i hi hm => ?_⟩
    · have hlt := (List.getElem?_eq_some_iff.1 hi).1
      have wi' : IntKind.i64.wrap ((i : Int) + 1) = (i : Int) + 1 := wi (by omega)
      unfold laws_markParentS_L1
      simp only []
      rw [if_pos (by omega)]
      simp only [letO_bind, setI_nat, idx_qN hi, idx_setN hlt, List.set_set, Option.bind_some, w0, w1, w2, w3, e0, e1, e2, e3, e4, e5, wi'])
   (fun k m hm => by unfold laws_markParentS_L1; simp only []; rw [if_neg (by omega)]) k h0 h1
  exact ⟨k', l', by unfold laws_markParentS laws_markParentS_raw; simp only [p1, Option.bind_some]; rw [chk_pos p2]; rfl, p4, p5, p2⟩
def szN_Conditional (x : Conditional) : Nat := szN_Rat x.fTotal + szN_ParentS x.fParents
theorem sz_Conditional (x : Conditional) (o : okConditional x) (t : Int) (h0 : 0 ≤ t) (h1 : t ≤ 1048576) : laws_szConditional x t = some (if (szN_Conditional x : Int) ≤ t then t - szN_Conditional x else -1) := by
  unfold laws_szConditional szN_Conditional
  rw [sz_Rat x.fTotal o.2.1 (t) (by omega) (by omega)]
  simp only [Option.bind_some]
  by_cases c0 : (szN_Rat x.fTotal : Int) ≤ t
  · skip
    rw [if_pos c0, if_neg (by omega)]
    rw [sz_ParentS x.fParents o.2.2.1 (t - szN_Rat x.fTotal) (by omega) (by omega)]
    simp only [Option.bind_some]
    by_cases c1 : (szN_ParentS x.fParents : Int) ≤ t - szN_Rat x.fTotal
    · skip
      rw [if_pos c1, if_neg (by omega)]
      rw [if_pos (by omega)]; congr 1; omega
    · rw [if_neg c1, if_pos (by omega), if_neg (by omega)]
  · rw [if_neg c0, if_pos (by omega), if_neg (by omega)]
theorem to_Conditional (x : Conditional) (h : szN_Conditional x ≤ 4294967296) : laws_toConditional x = some x := by
  unfold szN_Conditional at h
  unfold laws_toConditional
  rw [to_Rat x.fTotal (by omega)]
  simp only [Option.bind_some]
  rw [to_ParentS x.fParents (by omega)]
  simp only [Option.bind_some]
theorem eq_Conditional (x : Conditional) (h : szN_Conditional x ≤ 4294967296) : laws_eqConditional x x = some true := by
  unfold szN_Conditional at h
  unfold laws_eqConditional
  have e0 := eq_Rat x.fTotal (by omega)
  have e1 := eq_ParentS x.fParents (by omega)
  simp only [e0, e1, Option.bind_some, if_true, ne_eq, not_true_eq_false, if_false, beq_self_eq_true]
def szN_ConditionalS (x : (List Conditional)) : Nat := szL szN_Conditional x
def szN_Link (x : Link) : Nat := szN_Rat x.fWeight + szN_Rat x.fDX + szN_Rat x.fDY
theorem sz_Link (x : Link) (o : okLink x) (t : Int) (h0 : 0 ≤ t) (h1 : t ≤ 1048576) : laws_szLink x t = some (if (szN_Link x : Int) ≤ t then t - szN_Link x else -1) := by
  unfold laws_szLink szN_Link
  rw [sz_Rat x.fWeight o.2.2.1 (t) (by omega) (by omega)]
  simp only [Option.bind_some]
  by_cases c0 : (szN_Rat x.fWeight : Int) ≤ t
  · skip
    rw [if_pos c0, if_neg (by omega)]
    rw [sz_Rat x.fDX o.2.2.2.1 (t - szN_Rat x.fWeight) (by omega) (by omega)]
    simp only [Option.bind_some]
    by_cases c1 : (szN_Rat x.fDX : Int) ≤ t - szN_Rat x.fWeight
    · skip
      rw [if_pos c1, if_neg (by omega)]
      rw [sz_Rat x.fDY o.2.2.2.2.1 (t - szN_Rat x.fWeight - szN_Rat x.fDX) (by omega) (by omega)]
      simp only [Option.bind_some]
      by_cases c2 : (szN_Rat x.fDY : Int) ≤ t - szN_Rat x.fWeight - szN_Rat x.fDX
      · skip
        rw [if_pos c2, if_neg (by omega)]
        rw [if_pos (by omega)]; congr 1; omega
      · rw [if_neg c2, if_pos (by omega), if_neg (by omega)]
    · rw [if_neg c1, if_pos (by omega), if_neg (by omega)]
  · rw [if_neg c0, if_pos (by omega), if_neg (by omega)]
theorem to_Link (x : Link) (h : szN_Link x ≤ 4294967296) : laws_toLink x = some x := by
  unfold szN_Link at h
  unfold laws_toLink
  rw [to_Rat x.fWeight (by omega)]
  simp only [Option.bind_some]
  rw [to_Rat x.fDX (by omega)]
  simp only [Option.bind_some]
  rw [to_Rat x.fDY (by omega)]
  simp only [Option.bind_some]
theorem eq_Link (x : Link) (h : szN_Link x ≤ 4294967296) : laws_eqLink x x = some true := by
  unfold szN_Link at h
  unfold laws_eqLink
  have e0 := eq_Rat x.fWeight (by omega)
  have e1 := eq_Rat x.fDX (by omega)
  have e2 := eq_Rat x.fDY (by omega)
  simp only [e0, e1, e2, Option.bind_some, if_true, ne_eq, not_true_eq_false, if_false, beq_self_eq_true]
def szN_LinkS (x : (List Link)) : Nat := szL szN_Link x
theorem sz_LinkS (x : (List Link)) (o : (okL okLink) x) (t : Int) (h0 : 0 ≤ t) (h1 : t ≤ 1048576) : laws_szLinkS x t = some (if (szN_LinkS x : Int) ≤ t then t - szN_LinkS x else -1) := by
  have hl : x.length ≤ 9223372036854775807 := o.1
  have e := szL_eq szN_Link x
  unfold laws_szLinkS szN_LinkS
  simp only [letO_bind]
  rw [wi (by omega)]
  by_cases c : t - (x.length : Int) < 0
  · rw [if_pos c, if_neg (by omega)]
  · rw [if_neg c, lp_szE x szN_Link laws_szLink (fun y hy t a b => sz_Link y (o.2 y hy) t a b) (fun k t hk => by unfold laws_szLinkS_L1; simp only []; rw [if_pos (by omega), idx_lt hk]; simp only [Option.bind_some]; rw [wi (by omega)]) (fun t => by unfold laws_szLinkS_L1; simp only []; rw [if_neg (by omega)]) _ (by omega) (by omega)]
    by_cases d : ((x.map szN_Link).sum : Int) ≤ t - x.length
    · rw [if_pos d, if_pos (by omega)]; simp only [Option.bind_some]; congr 1; omega
    · rw [if_neg d, if_neg (by omega)]; rfl
theorem to_LinkS (x : (List Link)) (h : szN_LinkS x ≤ 4294967296) : laws_toLinkS x = some x := by
  have hl := szL_len szN_Link x
  unfold szN_LinkS at h
  unfold laws_toLinkS
  rw [chk_pos (by omega)]
  simp only [Option.bind_some]
  have := lp_fill (step := laws_toLinkS_L1 x) x (List.replicate (x.length : Int).toNat (Link.mk 0 0 (Rat.mk (BigInt.mk false ([])) ([])) (Rat.mk (BigInt.mk false ([])) ([])) (Rat.mk (BigInt.mk false ([])) ([])))) (fun k m => ((k : Int), m)) (fun m => m) (by simp) (fun k m hk hm => by
    have he := szL_mem (w := szN_Link) (List.getElem_mem hk)
    unfold laws_toLinkS_L1
    simp only []
    rw [if_pos (by omega), idx_lt hk, idx_lt (l := m) (by omega)]
    simp only [Option.bind_some, letO_bind, setI_nat, to_Link _ (show szN_Link x[k] ≤ 4294967296 by omega)]
    rw [wi (by omega)]; rfl)
   (fun m hm => by unfold laws_toLinkS_L1; simp only []; rw [if_neg (by omega)])
  rw [show ((0 : Nat) : Int) = 0 from rfl] at this
  rw [this]; rfl
theorem eq_LinkS (x : (List Link)) (h : szN_LinkS x ≤ 4294967296) : laws_eqLinkS x x = some true := by
  have hl := szL_len szN_Link x
  unfold szN_LinkS at h
  unfold laws_eqLinkS
  rw [if_neg (by simp), lp_count x.length (.inl ())]
  · rfl
  · intro k hk
    have he := szL_mem (w := szN_Link) (List.getElem_mem hk)
    unfold laws_eqLinkS_L1
    rw [if_pos (by omega), idx_lt hk]
    simp only [Option.bind_some, eq_Link _ (show szN_Link x[k] ≤ 4294967296 by omega), if_true]
    rw [wi (by omega)]; rfl
  · unfold laws_eqLinkS_L1; rw [if_neg (by omega)]
theorem mh_LinkS (x : (List Link)) (k : Int) (h0 : 0 ≤ k) (h1 : k + 100 * (szN_LinkS x : Int) ≤ 4611686018427387904) : ∃ k' x', laws_markLinkS x k = some (k', x') ∧ k ≤ k' ∧ k' ≤ k + 100 * (szN_LinkS x : Int) ∧ x'.length = x.length := by
  unfold szN_LinkS at h1 ⊢
  obtain ⟨k', l', p1, p2, p4, p5⟩ := lp_mkE (ms := laws_markLinkS_L1) szN_Link x (fun hl y k h0 h1 => by
    simp only [szN_Link, szN_Rat, szN_BigInt] at h1 ⊢
    obtain ⟨k0, x0, e0, g0, a0, b0, l0⟩ := mh_IntS y.fWeight.fNum.fMag (k + 1 + 1 + 1) (by omega) (by omega)
    obtain ⟨k1, x1, e1, g1, a1, b1, l1⟩ := mh_IntS y.fWeight.fDen (k0) (by omega) (by omega)
    obtain ⟨k2, x2, e2, g2, a2, b2, l2⟩ := mh_IntS y.fDX.fNum.fMag (k1 + 1) (by omega) (by omega)
    obtain ⟨k3, x3, e3, g3, a3, b3, l3⟩ := mh_IntS y.fDX.fDen (k2) (by omega) (by omega)
    obtain ⟨k4, x4, e4, g4, a4, b4, l4⟩ := mh_IntS y.fDY.fNum.fMag (k3 + 1) (by omega) (by omega)
    obtain ⟨k5, x5, e5, g5, a5, b5, l5⟩ := mh_IntS y.fDY.fDen (k4) (by omega) (by omega)
    have w0 : IntKind.i64.wrap (k + 1) = k + 1 := wi (by omega)
    have w1 : IntKind.i64.wrap (k + 1 + 1) = k + 1 + 1 := wi (by omega)
    have w2 : IntKind.i64.wrap (k + 1 + 1 + 1) = k + 1 + 1 + 1 := wi (by omega)
    have w3 : IntKind.i64.wrap (k1 + 1) = k1 + 1 := wi (by omega)
    have w4 : IntKind.i64.wrap (k3 + 1) = k3 + 1 := wi (by omega)
    have n0 : ¬ k0 < 0 := by omega
    have n1 : ¬ k1 < 0 := by omega
    have n2 : ¬ k2 < 0 := by omega
    have n3 : ¬ k3 < 0 := by omega
    have n4 : ¬ k4 < 0 := by omega
    have n5 : ¬ k5 < 0 := by omega
    refine ⟨k5, (Link.mk (k) (k + 1) (Rat.mk (BigInt.mk (decide ((k + 1 + 1).tmod 3 = 0)) x0) x1) (Rat.mk (BigInt.mk (decide ((k1).tmod 3 = 0)) x2) x3) (Rat.mk (BigInt.mk (decide ((k3).tmod 3 = 0)) x4) x5)), by omega, by omega, fun m i hi hm => ?_⟩
    · have hlt := (List.getElem?_eq_some_iff.1 hi).1
      have wi' : IntKind.i64.wrap ((i : Int) + 1) = (i : Int) + 1 := wi (by omega)
      unfold laws_markLinkS_L1
      simp only []
      rw [if_pos (by omega)]
      simp only [letO_bind, setI_nat, idx_qN hi, idx_setN hlt, List.set_set, Option.bind_some, w0, w1, w2, w3, w4, e0, e1, e2, e3, e4, e5, wi'])
   (fun k m hm => by unfold laws_markLinkS_L1; simp only []; rw [if_neg (by omega)]) k h0 h1
  exact ⟨k', l', by unfold laws_markLinkS laws_markLinkS_raw; simp only [p1, Option.bind_some]; rw [chk_pos p2]; rfl, p4, p5, p2⟩
def szN_Point (x : Point) : Nat := szN_Rat x.fX + szN_Rat x.fY
theorem eq_Point (x : Point) (h : szN_Point x ≤ 4294967296) : laws_eqPoint x x = some true := by
  unfold szN_Point at h
  unfold laws_eqPoint
  have e0 := eq_Rat x.fX (by omega)
  have e1 := eq_Rat x.fY (by omega)
  simp only [e0, e1, Option.bind_some, if_true, ne_eq, not_true_eq_false, if_false, beq_self_eq_true]
def szN_PointS (x : (List Point)) : Nat := szL szN_Point x
theorem eq_PointS (x : (List Point)) (h : szN_PointS x ≤ 4294967296) : laws_eqPointS x x = some true := by
  have hl := szL_len szN_Point x
  unfold szN_PointS at h
  unfold laws_eqPointS
  rw [if_neg (by simp), lp_count x.length (.inl ())]
  · rfl
  · intro k hk
    have he := szL_mem (w := szN_Point) (List.getElem_mem hk)
    unfold laws_eqPointS_L1
    rw [if_pos (by omega), idx_lt hk]
    simp only [Option.bind_some, eq_Point _ (show szN_Point x[k] ≤ 4294967296 by omega), if_true]
    rw [wi (by omega)]; rfl
  · unfold laws_eqPointS_L1; rw [if_neg (by omega)]
theorem mh_PointS (x : (List Point)) (k : Int) (h0 : 0 ≤ k) (h1 : k + 100 * (szN_PointS x : Int) ≤ 4611686018427387904) : ∃ k' x', laws_markPointS x k = some (k', x') ∧ laws_heldPointS x' k = some k' ∧ k ≤ k' ∧ k' ≤ k + 100 * (szN_PointS x : Int) ∧ x'.length = x.length := by
  unfold szN_PointS at h1 ⊢
  obtain ⟨k', l', p1, p2, p3, p4, p5⟩ := lp_mhE (ms := laws_markPointS_L1) (hs := laws_heldPointS_L1) szN_Point x (fun hl y k h0 h1 => by
    simp only [szN_Point, szN_Rat, szN_BigInt] at h1 ⊢
    obtain ⟨k0, x0, e0, g0, a0, b0, l0⟩ := mh_IntS y.fX.fNum.fMag (k + 1) (by omega) (by omega)
    obtain ⟨k1, x1, e1, g1, a1, b1, l1⟩ := mh_IntS y.fX.fDen (k0) (by omega) (by omega)
    obtain ⟨k2, x2, e2, g2, a2, b2, l2⟩ := mh_IntS y.fY.fNum.fMag (k1 + 1) (by omega) (by omega)
    obtain ⟨k3, x3, e3, g3, a3, b3, l3⟩ := mh_IntS y.fY.fDen (k2) (by omega) (by omega)
    have w0 : IntKind.i64.wrap (k + 1) = k + 1 := wi (by omega)
    have w1 : IntKind.i64.wrap (k1 + 1) = k1 + 1 := wi (by omega)
    have n0 : ¬ k0 < 0 := by omega
    have n1 : ¬ k1 < 0 := by omega
    have n2 : ¬ k2 < 0 := by omega
    have n3 : ¬ k3 < 0 := by omega
    refine ⟨k3, (Point.mk (Rat.mk (BigInt.mk (decide ((k).tmod 3 = 0)) x0) x1) (Rat.mk (BigInt.mk (decide ((k1).tmod 3 = 0)) x2) x3)), by omega, by omega, fun m i hi hm => ?_, fun m i hi hm => ?_⟩
    · have hlt := (List.getElem?_eq_some_iff.1 hi).1
      have wi' : IntKind.i64.wrap ((i : Int) + 1) = (i : Int) + 1 := wi (by omega)
      unfold laws_markPointS_L1
      simp only []
      rw [if_pos (by omega)]
      simp only [letO_bind, setI_nat, idx_qN hi, idx_setN hlt, List.set_set, Option.bind_some, w0, w1, e0, e1, e2, e3, wi']
    · have hlt := (List.getElem?_eq_some_iff.1 hi).1
      have wi' : IntKind.i64.wrap ((i : Int) + 1) = (i : Int) + 1 := wi (by omega)
      unfold laws_heldPointS_L1
      simp only []
      rw [if_pos (by omega)]
      simp only [letO_bind, idx_qN hi, Option.bind_some, ne_eq, not_true_eq_false, if_false, beq_self_eq_true, if_true, w0, w1, g0, g1, g2, g3, n0, n1, n2, n3, wi'])
   (fun k m hm => by unfold laws_markPointS_L1; simp only []; rw [if_neg (by omega)]) (fun k m hm => by unfold laws_heldPointS_L1; simp only []; rw [if_neg (by omega)]) k h0 h1
  exact ⟨k', l', by unfold laws_markPointS laws_markPointS_raw; simp only [p1, Option.bind_some]; rw [chk_pos p2]; rfl, by unfold laws_heldPointS; simp only [p3, Option.bind_some], p4, p5, p2⟩
def szN_TreeNode (x : TreeNode) : Nat := szN_LinkS x.fOwn + szN_Conditional x.fCond + szN_LinkS x.fMessages + szN_Rat x.fEnergy
theorem sz_TreeNode (x : TreeNode) (o : okTreeNode x) (t : Int) (h0 : 0 ≤ t) (h1 : t ≤ 1048576) : laws_szTreeNode x t = some (if (szN_TreeNode x : Int) ≤ t then t - szN_TreeNode x else -1) := by
  unfold laws_szTreeNode szN_TreeNode
  rw [sz_LinkS x.fOwn o.2.2.1 (t) (by omega) (by omega)]
  simp only [Option.bind_some]
  by_cases c0 : (szN_LinkS x.fOwn : Int) ≤ t
  · skip
    rw [if_pos c0, if_neg (by omega)]
    rw [sz_Conditional x.fCond o.2.2.2.1 (t - szN_LinkS x.fOwn) (by omega) (by omega)]
    simp only [Option.bind_some]
    by_cases c1 : (szN_Conditional x.fCond : Int) ≤ t - szN_LinkS x.fOwn
    · skip
      rw [if_pos c1, if_neg (by omega)]
      rw [sz_LinkS x.fMessages o.2.2.2.2.1 (t - szN_LinkS x.fOwn - szN_Conditional x.fCond) (by omega) (by omega)]
      simp only [Option.bind_some]
      by_cases c2 : (szN_LinkS x.fMessages : Int) ≤ t - szN_LinkS x.fOwn - szN_Conditional x.fCond
      · skip
        rw [if_pos c2, if_neg (by omega)]
        rw [sz_Rat x.fEnergy o.2.2.2.2.2.1 (t - szN_LinkS x.fOwn - szN_Conditional x.fCond - szN_LinkS x.fMessages) (by omega) (by omega)]
        simp only [Option.bind_some]
        by_cases c3 : (szN_Rat x.fEnergy : Int) ≤ t - szN_LinkS x.fOwn - szN_Conditional x.fCond - szN_LinkS x.fMessages
        · skip
          rw [if_pos c3, if_neg (by omega)]
          rw [if_pos (by omega)]; congr 1; omega
        · rw [if_neg c3, if_pos (by omega), if_neg (by omega)]
      · rw [if_neg c2, if_pos (by omega), if_neg (by omega)]
    · rw [if_neg c1, if_pos (by omega), if_neg (by omega)]
  · rw [if_neg c0, if_pos (by omega), if_neg (by omega)]
theorem to_TreeNode (x : TreeNode) (h : szN_TreeNode x ≤ 4294967296) : laws_toTreeNode x = some x := by
  unfold szN_TreeNode at h
  unfold laws_toTreeNode
  rw [to_LinkS x.fOwn (by omega)]
  simp only [Option.bind_some]
  rw [to_Conditional x.fCond (by omega)]
  simp only [Option.bind_some]
  rw [to_LinkS x.fMessages (by omega)]
  simp only [Option.bind_some]
  rw [to_Rat x.fEnergy (by omega)]
  simp only [Option.bind_some]
theorem eq_TreeNode (x : TreeNode) (h : szN_TreeNode x ≤ 4294967296) : laws_eqTreeNode x x = some true := by
  unfold szN_TreeNode at h
  unfold laws_eqTreeNode
  have e0 := eq_LinkS x.fOwn (by omega)
  have e1 := eq_Conditional x.fCond (by omega)
  have e2 := eq_LinkS x.fMessages (by omega)
  have e3 := eq_Rat x.fEnergy (by omega)
  simp only [e0, e1, e2, e3, Option.bind_some, if_true, ne_eq, not_true_eq_false, if_false, beq_self_eq_true]
def szN_TreeNodeS (x : (List TreeNode)) : Nat := szL szN_TreeNode x
theorem sz_TreeNodeS (x : (List TreeNode)) (o : (okL okTreeNode) x) (t : Int) (h0 : 0 ≤ t) (h1 : t ≤ 1048576) : laws_szTreeNodeS x t = some (if (szN_TreeNodeS x : Int) ≤ t then t - szN_TreeNodeS x else -1) := by
  have hl : x.length ≤ 9223372036854775807 := o.1
  have e := szL_eq szN_TreeNode x
  unfold laws_szTreeNodeS szN_TreeNodeS
  simp only [letO_bind]
  rw [wi (by omega)]
  by_cases c : t - (x.length : Int) < 0
  · rw [if_pos c, if_neg (by omega)]
  · rw [if_neg c, lp_szE x szN_TreeNode laws_szTreeNode (fun y hy t a b => sz_TreeNode y (o.2 y hy) t a b) (fun k t hk => by unfold laws_szTreeNodeS_L1; simp only []; rw [if_pos (by omega), idx_lt hk]; simp only [Option.bind_some]; rw [wi (by omega)]) (fun t => by unfold laws_szTreeNodeS_L1; simp only []; rw [if_neg (by omega)]) _ (by omega) (by omega)]
    by_cases d : ((x.map szN_TreeNode).sum : Int) ≤ t - x.length
    · rw [if_pos d, if_pos (by omega)]; simp only [Option.bind_some]; congr 1; omega
    · rw [if_neg d, if_neg (by omega)]; rfl
theorem to_TreeNodeS (x : (List TreeNode)) (h : szN_TreeNodeS x ≤ 4294967296) : laws_toTreeNodeS x = some x := by
  have hl := szL_len szN_TreeNode x
  unfold szN_TreeNodeS at h
  unfold laws_toTreeNodeS
  rw [chk_pos (by omega)]
  simp only [Option.bind_some]
  have := lp_fill (step := laws_toTreeNodeS_L1 x) x (List.replicate (x.length : Int).toNat (TreeNode.mk 0 0 ([]) (Conditional.mk 0 (Rat.mk (BigInt.mk false ([])) ([])) ([])) ([]) (Rat.mk (BigInt.mk false ([])) ([])))) (fun k m => ((k : Int), m)) (fun m => m) (by simp) (fun k m hk hm => by
    have he := szL_mem (w := szN_TreeNode) (List.getElem_mem hk)
    unfold laws_toTreeNodeS_L1
    simp only []
    rw [if_pos (by omega), idx_lt hk, idx_lt (l := m) (by omega)]
    simp only [Option.bind_some, letO_bind, setI_nat, to_TreeNode _ (show szN_TreeNode x[k] ≤ 4294967296 by omega)]
    rw [wi (by omega)]; rfl)
   (fun m hm => by unfold laws_toTreeNodeS_L1; simp only []; rw [if_neg (by omega)])
  rw [show ((0 : Nat) : Int) = 0 from rfl] at this
  rw [this]; rfl
theorem eq_TreeNodeS (x : (List TreeNode)) (h : szN_TreeNodeS x ≤ 4294967296) : laws_eqTreeNodeS x x = some true := by
  have hl := szL_len szN_TreeNode x
  unfold szN_TreeNodeS at h
  unfold laws_eqTreeNodeS
  rw [if_neg (by simp), lp_count x.length (.inl ())]
  · rfl
  · intro k hk
    have he := szL_mem (w := szN_TreeNode) (List.getElem_mem hk)
    unfold laws_eqTreeNodeS_L1
    rw [if_pos (by omega), idx_lt hk]
    simp only [Option.bind_some, eq_TreeNode _ (show szN_TreeNode x[k] ≤ 4294967296 by omega), if_true]
    rw [wi (by omega)]; rfl
  · unfold laws_eqTreeNodeS_L1; rw [if_neg (by omega)]
theorem mh_TreeNodeS (x : (List TreeNode)) (k : Int) (h0 : 0 ≤ k) (h1 : k + 100 * (szN_TreeNodeS x : Int) ≤ 4611686018427387904) : ∃ k' x', laws_markTreeNodeS x k = some (k', x') ∧ k ≤ k' ∧ k' ≤ k + 100 * (szN_TreeNodeS x : Int) ∧ x'.length = x.length := by
  unfold szN_TreeNodeS at h1 ⊢
  obtain ⟨k', l', p1, p2, p4, p5⟩ := lp_mkE (ms := laws_markTreeNodeS_L1) szN_TreeNode x (fun hl y k h0 h1 => by
    simp only [szN_TreeNode, szN_Conditional, szN_Rat, szN_BigInt] at h1 ⊢
    obtain ⟨k0, x0, e0, a0, b0, l0⟩ := mh_LinkS y.fOwn (k + 1 + 1) (by omega) (by omega)
    obtain ⟨k1, x1, e1, g1, a1, b1, l1⟩ := mh_IntS y.fCond.fTotal.fNum.fMag (k0 + 1 + 1) (by omega) (by omega)
    obtain ⟨k2, x2, e2, g2, a2, b2, l2⟩ := mh_IntS y.fCond.fTotal.fDen (k1) (by omega) (by omega)
    obtain ⟨k3, x3, e3, a3, b3, l3⟩ := mh_ParentS y.fCond.fParents (k2) (by omega) (by omega)
    obtain ⟨k4, x4, e4, a4, b4, l4⟩ := mh_LinkS y.fMessages (k3) (by omega) (by omega)
    obtain ⟨k5, x5, e5, g5, a5, b5, l5⟩ := mh_IntS y.fEnergy.fNum.fMag (k4 + 1) (by omega) (by omega)
    obtain ⟨k6, x6, e6, g6, a6, b6, l6⟩ := mh_IntS y.fEnergy.fDen (k5) (by omega) (by omega)
    have w0 : IntKind.i64.wrap (k + 1) = k + 1 := wi (by omega)
    have w1 : IntKind.i64.wrap (k + 1 + 1) = k + 1 + 1 := wi (by omega)
    have w2 : IntKind.i64.wrap (k0 + 1) = k0 + 1 := wi (by omega)
    have w3 : IntKind.i64.wrap (k0 + 1 + 1) = k0 + 1 + 1 := wi (by omega)
    have w4 : IntKind.i64.wrap (k4 + 1) = k4 + 1 := wi (by omega)
    have n0 : ¬ k0 < 0 := by omega
    have n1 : ¬ k1 < 0 := by omega
    have n2 : ¬ k2 < 0 := by omega
    have n3 : ¬ k3 < 0 := by omega
    have n4 : ¬ k4 < 0 := by omega
    have n5 : ¬ k5 < 0 := by omega
    have n6 : ¬ k6 < 0 := by omega
    refine ⟨k6, (TreeNode.mk (k) (k + 1) x0 (Conditional.mk (k0) (Rat.mk (BigInt.mk (decide ((k0 + 1).tmod 3 = 0)) x1) x2) x3) x4 (Rat.mk (BigInt.mk (decide ((k4).tmod 3 = 0)) x5) x6)), by omega, by omega, fun m i hi hm => ?_⟩
    · have hlt := (List.getElem?_eq_some_iff.1 hi).1
      have wi' : IntKind.i64.wrap ((i : Int) + 1) = (i : Int) + 1 := wi (by omega)
      unfold laws_markTreeNodeS_L1
      simp only []
      rw [if_pos (by omega)]
      simp only [letO_bind, setI_nat, idx_qN hi, idx_setN hlt, List.set_set, Option.bind_some, w0, w1, w2, w3, w4, e0, e1, e2, e3, e4, e5, e6, wi'])
   (fun k m hm => by unfold laws_markTreeNodeS_L1; simp only []; rw [if_neg (by omega)]) k h0 h1
  exact ⟨k', l', by unfold laws_markTreeNodeS laws_markTreeNodeS_raw; simp only [p1, Option.bind_some]; rw [chk_pos p2]; rfl, p4, p5, p2⟩
def szN_Tree (x : Tree) : Nat := szN_TreeNodeS x.fNodes
theorem sz_Tree (x : Tree) (o : okTree x) (t : Int) (h0 : 0 ≤ t) (h1 : t ≤ 1048576) : laws_szTree x t = some (if (szN_Tree x : Int) ≤ t then t - szN_Tree x else -1) := by
  unfold laws_szTree szN_Tree
  rw [sz_TreeNodeS x.fNodes o.1 t (by omega) (by omega)]
  simp only [Option.bind_some]
  by_cases c : (szN_TreeNodeS x.fNodes : Int) ≤ t
  · rw [if_pos c, if_neg (by omega)]
  · rw [if_neg c]; rfl
theorem to_Tree (x : Tree) (h : szN_Tree x ≤ 4294967296) : laws_toTree x = some x := by
  unfold szN_Tree at h
  unfold laws_toTree
  rw [to_TreeNodeS x.fNodes (by omega)]
  simp only [Option.bind_some]
theorem eq_Tree (x : Tree) (h : szN_Tree x ≤ 4294967296) : laws_eqTree x x = some true := by
  unfold szN_Tree at h
  unfold laws_eqTree
  have e0 := eq_TreeNodeS x.fNodes (by omega)
  simp only [e0, Option.bind_some, if_true, ne_eq, not_true_eq_false, if_false, beq_self_eq_true]
theorem mh_Tree (x : Tree) (k : Int) (h0 : 0 ≤ k) (h1 : k + 100 * (szN_Tree x : Int) ≤ 4611686018427387904) : ∃ k' x', laws_markTree x k = some (k', x') ∧ k ≤ k' ∧ k' ≤ k + 100 * (szN_Tree x : Int) := by
  unfold szN_Tree at h1 ⊢
  obtain ⟨k0, x0, e0, a0, b0, l0⟩ := mh_TreeNodeS x.fNodes (k) (by omega) (by omega)
  have n0 : ¬ k0 < 0 := by omega
  exact ⟨k0, Tree.mk x0, by unfold laws_markTree; simp only [e0, Option.bind_some], by omega, by omega⟩
end Go.Ev
