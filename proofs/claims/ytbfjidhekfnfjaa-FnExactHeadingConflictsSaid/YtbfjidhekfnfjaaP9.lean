/- Plain laws: dead reckoning. -/
import Derived.Test.YtbfjidhekfnfjaaP8
set_option linter.all false
namespace Go.Ev
set_option linter.all false
theorem rot_loop (t x y : Int) (h0 : 0 ≤ t) (h : t ≤ 3) : ∃ r, lp (impl_RotateXY_L1 t) (x, y, 0) = some r := by
  obtain ⟨r, e, _⟩ := lp_ind (step := impl_RotateXY_L1 t) (fun s => 0 ≤ s.2.2 ∧ s.2.2 ≤ t) (fun s => (t - s.2.2).toNat) (fun _ => True)
    (by
      rintro ⟨a, b, c⟩ ⟨hc1, hc2⟩
      simp only at hc1 hc2
      by_cases hlt : c < t
      · right
        unfold impl_RotateXY_L1
        simp only []
        rw [if_pos hlt, wi (n := c + 1) (by omega)]
        exact ⟨_, rfl, ⟨by simp only; omega, by simp only; omega⟩, by simp only; omega⟩
      · left
        unfold impl_RotateXY_L1
        simp only []
        rw [if_neg hlt]
        exact ⟨_, rfl, trivial⟩) (x, y, 0) ⟨by simp, by simpa using h0⟩
  exact ⟨r, e⟩
theorem rot_p (x y t : Int) : ∃ r, spec_RotateXY x y t = some r ∧ impl_RotateXY x y t = some r := by
  unfold spec_RotateXY impl_RotateXY
  rw [spec_vpose, show spec_RotateXY_L1 = impl_RotateXY_L1 from rfl]
  simp only [inRange_p]
  by_cases h : vpose (Pose.mk t x y)
  · obtain ⟨h1, h2, h3, h4, h5, h6⟩ := h
    obtain ⟨r, e⟩ := rot_loop t x y h1 h2
    simp only at h1 h2 h3 h4 h5 h6
    have a1 : ¬ t < 0 := by omega
    have a2 : ¬ 3 < t := by omega
    refine ⟨(r.1, r.2), ?_, ?_⟩
    · simp [vpose, h1, h2, h3, h4, h5, h6, e]
    · simp [a1, a2, h3, h4, h5, h6, e]
  · refine ⟨(0, 0), by simp [h], ?_⟩
    by_cases a1 : t < 0
    · simp [a1]
    by_cases a2 : 3 < t
    · simp [a1, a2]
    by_cases a3 : -1000000 ≤ x ∧ x ≤ 1000000
    · by_cases a4 : -1000000 ≤ y ∧ y ≤ 1000000
      · exact absurd ⟨by simp only; omega, by simp only; omega, a3.1, a3.2, a4.1, a4.2⟩ h
      · simp [a1, a2, a3, a4]
    · simp [a1, a2, a3]
noncomputable def cmpV (p q : Pose) : Pose × Bool := (impl_composeOk p q).getD (⟨0, 0, 0⟩, false)
noncomputable def invV (p : Pose) : Pose := (impl_Inverse p).getD ⟨0, 0, 0⟩
theorem cmp_p (p q : Pose) : spec_l05Compose p q = some (cmpV p q) ∧ impl_composeOk p q = some (cmpV p q) := by
  have : ∃ r, spec_l05Compose p q = some r ∧ impl_composeOk p q = some r := by
    unfold spec_l05Compose impl_composeOk
    simp only [spec_vpose, impl_vpose]
    by_cases h1 : vpose p <;> by_cases h2 : vpose q
    · obtain ⟨r, e1, e2⟩ := rot_p q.fX q.fY p.fTurn
      simp only [h1, h2, decide_true, if_true, Option.bind_some, Bool.not_true, Bool.false_eq_true, if_false, e1, e2, letO_bind]
      split <;> exact ⟨_, rfl, rfl⟩
    · simp [h1, h2]
    · simp [h1, h2]
    · simp [h1, h2]
  obtain ⟨r, e1, e2⟩ := this
  have : cmpV p q = r := by unfold cmpV; rw [e2]; rfl
  rw [this]; exact ⟨e1, e2⟩
theorem inv_p (p : Pose) : spec_Inverse p = some (invV p) ∧ impl_Inverse p = some (invV p) := by
  have : ∃ r, spec_Inverse p = some r ∧ impl_Inverse p = some r := by
    unfold spec_Inverse impl_Inverse
    simp only [spec_vpose, impl_vpose, letO_bind]
    by_cases h1 : vpose p
    · obtain ⟨r, e1, e2⟩ := rot_p (IntKind.i64.wrap (0 - p.fX)) (IntKind.i64.wrap (0 - p.fY)) ((IntKind.i64.wrap (4 - p.fTurn)).tmod 4)
      simp only [h1, decide_true, if_true, Option.bind_some, e1, e2]
      exact ⟨_, rfl, rfl⟩
    · simp [h1]
  obtain ⟨r, e1, e2⟩ := this
  have : invV p = r := by unfold invV; rw [e2]; rfl
  rw [this]; exact ⟨e1, e2⟩
noncomputable def pAct (ns : List ByteArray) (s : List Pose × List Bool) (y : Factor) : Option (Int × Pose) :=
  if y.fKind = 1 then (if atI false s.2 (nIdx ns y.fTo) = true then none else some (nIdx ns y.fTo, y.fPose))
  else if y.fKind = 2 then
    (if atI false s.2 (nIdx ns y.fFrom) = true then
      (if atI false s.2 (nIdx ns y.fTo) = true then none
       else if (cmpV (atI ⟨0, 0, 0⟩ s.1 (nIdx ns y.fFrom)) y.fPose).2 = true then some (nIdx ns y.fTo, (cmpV (atI ⟨0, 0, 0⟩ s.1 (nIdx ns y.fFrom)) y.fPose).1) else none)
     else if atI false s.2 (nIdx ns y.fTo) = true then
      (if (cmpV (atI ⟨0, 0, 0⟩ s.1 (nIdx ns y.fTo)) (invV y.fPose)).2 = true then some (nIdx ns y.fFrom, (cmpV (atI ⟨0, 0, 0⟩ s.1 (nIdx ns y.fTo)) (invV y.fPose)).1) else none)
     else none)
  else none
structure POk (l : List Factor) (ns : List ByteArray) (s : List Pose × List Bool) : Prop where
  len : s.1.length = ns.length
  len2 : s.2.length = ns.length
  small : ns.length ≤ 4194304
  lsmall : l.length ≤ 4194304
  to : ∀ f ∈ l, f.fTo ∈ ns
  fr : ∀ f ∈ l, f.fKind ≠ 1 → f.fFrom ∈ ns
theorem spec_pstep (l : List Factor) (ns : List ByteArray) (s : List Pose × List Bool) (H : POk l ns s) : spec_l17Reckon l ns s.1 s.2 = some ((l.findSome? (pAct ns s)).getD (-1, ⟨0, 0, 0⟩)) := by
  unfold spec_l17Reckon
  have e := lp_find (step := spec_l17Reckon_L1 l ns s.1 s.2) l (pAct ns s) (fun x => x)
    (fun k hk => by
      have hm : l[k] ∈ l := List.getElem_mem hk
      have ht := nIdx_mem (H.to _ hm)
      have hb := nIdx_bound ns (l[k]).fTo
      have hfb := nIdx_bound ns (l[k]).fFrom
      have hfr := H.fr _ hm
      have hlen := H.len
      have hlen2 := H.len2
      have hs := H.small
      have hls := H.lsmall
      unfold spec_l17Reckon_L1 pAct
      rw [if_pos (by omega), idx_lt hk, wi (n := (k : Int) + 1) (by omega)]
      generalize l[k] = y at *
      simp only [Option.bind_some, l17Index_same, nIdx_p ns _ hs]
      rw [idx_at (i := nIdx ns y.fTo) false ht (by omega), idx_at (i := nIdx ns y.fTo) ⟨0, 0, 0⟩ ht (by omega)]
      by_cases k1 : y.fKind = 1
      · simp only [k1, if_true, Option.bind_some]
        cases atI false s.2 (nIdx ns y.fTo) <;> simp
      · simp only [k1, if_false, Option.bind_some, Bool.false_eq_true]
        by_cases k2 : y.fKind = 2
        · have hf := nIdx_mem (hfr k1)
          rw [idx_at (i := nIdx ns y.fFrom) false hf (by omega), idx_at (i := nIdx ns y.fFrom) ⟨0, 0, 0⟩ hf (by omega)]
          simp only [k2, ne_eq, not_true, if_false, if_true, Option.bind_some, letO_bind, (cmp_p _ _).1, (inv_p _).1]
          cases atI false s.2 (nIdx ns y.fFrom) <;> cases atI false s.2 (nIdx ns y.fTo)
          · simp
          · simp only [Bool.false_eq_true, if_false, if_true, Option.bind_some]
            cases (cmpV (atI ⟨0, 0, 0⟩ s.1 (nIdx ns y.fTo)) (invV y.fPose)).2 <;> simp
          · simp only [Bool.false_eq_true, if_false, if_true, Option.bind_some, Bool.not_false]
            cases (cmpV (atI ⟨0, 0, 0⟩ s.1 (nIdx ns y.fFrom)) y.fPose).2 <;> simp
          · simp
        · simp [k2])
    (by unfold spec_l17Reckon_L1; rw [if_neg (by omega)])
  rw [e]
  cases l.findSome? (pAct ns s) <;> rfl
theorem impl_pstep (l : List Factor) (ns : List ByteArray) (s : List Pose × List Bool) (H : POk l ns s) : impl_poseStep l ns s.1 s.2 = some (match l.findSome? (pAct ns s) with | none => (false, s.1, s.2) | some x => (true, setI s.1 x.1 x.2, setI s.2 x.1 true)) := by
  unfold impl_poseStep impl_poseStep_raw
  have e := lp_find (step := impl_poseStep_L1 l ns s.1 s.2) l (pAct ns s) (fun x => (true, setI s.1 x.1 x.2, setI s.2 x.1 true))
    (fun k hk => by
      have hm : l[k] ∈ l := List.getElem_mem hk
      have ht := nIdx_mem (H.to _ hm)
      have hb := nIdx_bound ns (l[k]).fTo
      have hfb := nIdx_bound ns (l[k]).fFrom
      have hfr := H.fr _ hm
      have hlen := H.len
      have hlen2 := H.len2
      have hs := H.small
      have hls := H.lsmall
      unfold impl_poseStep_L1 pAct
      rw [if_pos (by omega), idx_lt hk, wi (n := (k : Int) + 1) (by omega)]
      generalize l[k] = y at *
      simp only [Option.bind_some, nIdx_p ns _ hs]
      rw [idx_at (i := nIdx ns y.fTo) false ht (by omega), idx_at (i := nIdx ns y.fTo) ⟨0, 0, 0⟩ ht (by omega)]
      by_cases k1 : y.fKind = 1
      · simp only [k1, if_true, Option.bind_some, letO_bind]
        cases atI false s.2 (nIdx ns y.fTo) <;> simp
      · simp only [k1, if_false, Option.bind_some, Bool.false_eq_true]
        by_cases k2 : y.fKind = 2
        · have hf := nIdx_mem (hfr k1)
          rw [idx_at (i := nIdx ns y.fFrom) false hf (by omega), idx_at (i := nIdx ns y.fFrom) ⟨0, 0, 0⟩ hf (by omega)]
          simp only [k2, ne_eq, not_true, if_false, if_true, Option.bind_some, letO_bind, (cmp_p _ _).2, (inv_p _).2]
          cases atI false s.2 (nIdx ns y.fFrom) <;> cases atI false s.2 (nIdx ns y.fTo)
          · simp
          · simp only [Bool.false_eq_true, if_false, if_true, Option.bind_some]
            cases (cmpV (atI ⟨0, 0, 0⟩ s.1 (nIdx ns y.fTo)) (invV y.fPose)).2 <;> simp
          · simp only [Bool.false_eq_true, if_false, if_true, Option.bind_some, Bool.not_false]
            cases (cmpV (atI ⟨0, 0, 0⟩ s.1 (nIdx ns y.fFrom)) y.fPose).2 <;> simp
          · simp
        · simp [k2])
    (by unfold impl_poseStep_L1; rw [if_neg (by omega)])
  rw [e]
  cases l.findSome? (pAct ns s) with
  | none => simp only [Option.bind_some]; rw [chk_pos (by simp)]; rfl
  | some x => simp only [Option.bind_some]; rw [chk_pos ⟨setI_len, setI_len⟩]; rfl
theorem pAct_ok {l : List Factor} {ns : List ByteArray} {s : List Pose × List Bool} (H : POk l ns s) {x : Int × Pose} (h : l.findSome? (pAct ns s) = some x) : 0 ≤ x.1 ∧ x.1 < ns.length ∧ atI false s.2 x.1 = false := by
  obtain ⟨y, hm, hy⟩ := List.exists_of_findSome?_eq_some h
  have ht := nIdx_mem (H.to _ hm)
  have hb := nIdx_bound ns y.fTo
  have hfb := nIdx_bound ns y.fFrom
  unfold pAct at hy
  by_cases k1 : y.fKind = 1
  · rw [if_pos k1] at hy
    split at hy
    · cases hy
    · rename_i h1
      obtain rfl := Option.some.inj hy
      exact ⟨ht, hb.2, by simpa using h1⟩
  · rw [if_neg k1] at hy
    have hf := nIdx_mem (H.fr _ hm k1)
    split at hy
    · split at hy
      · split at hy
        · cases hy
        · rename_i h1
          split at hy
          · obtain rfl := Option.some.inj hy
            exact ⟨ht, hb.2, by simpa using h1⟩
          · cases hy
      · rename_i h1
        split at hy
        · split at hy
          · obtain rfl := Option.some.inj hy
            exact ⟨hf, hfb.2, by simpa using h1⟩
          · cases hy
        · cases hy
    · cases hy
def offs (a : List Bool) : Nat := a.countP (fun x => !x)
theorem offs_set (a : List Bool) (i : Int) (h0 : 0 ≤ i) (h1 : i < a.length) (h2 : atI false a i = false) : offs (setI a i true) < offs a := by
  obtain ⟨k, rfl⟩ := Int.eq_ofNat_of_zero_le h0
  rw [show setI a (k : Int) true = a.set k true from setI_nat a k true]
  have hk : k < a.length := by omega
  unfold offs
  rw [List.countP_set hk]
  have h2 : a[k] = false := by
    unfold atI at h2
    rw [List.getD_eq_getElem?_getD, show ((k : Int)).toNat = k by omega, List.getElem?_eq_getElem hk] at h2
    exact h2
  have hp : 0 < List.countP (fun x => !x) a := List.countP_pos_iff.2 ⟨a[k], List.getElem_mem hk, by simpa using h2⟩
  simp [h2]; omega
theorem POk.set {l : List Factor} {ns : List ByteArray} {s : List Pose × List Bool} (H : POk l ns s) (i : Int) (x : Pose) : POk l ns (setI s.1 i x, setI s.2 i true) :=
  ⟨by rw [setI_len]; exact H.len, by rw [setI_len]; exact H.len2, H.small, H.lsmall, H.to, H.fr⟩
theorem reckon_loops (l : List Factor) (ns : List ByteArray) (s : List Pose × List Bool) (H : POk l ns s) : ∃ v, lp (spec_DeadReckoning_L1 l ns) s = some v ∧ lp (impl_DeadReckoning_L1 l ns) s = some v ∧ POk l ns v := by
  have one : ∀ s, POk l ns s → spec_DeadReckoning_L1 l ns s = some (match l.findSome? (pAct ns s) with | none => .inr s | some x => .inl (setI s.1 x.1 x.2, setI s.2 x.1 true)) ∧ impl_DeadReckoning_L1 l ns s = some (match l.findSome? (pAct ns s) with | none => .inr s | some x => .inl (setI s.1 x.1 x.2, setI s.2 x.1 true)) := by
    rintro ⟨a, b⟩ H
    unfold spec_DeadReckoning_L1 impl_DeadReckoning_L1
    have e1 := spec_pstep l ns (a, b) H
    have e2 := impl_pstep l ns (a, b) H
    simp only at e1 e2
    simp only [e1, e2]
    cases hx : l.findSome? (pAct ns (a, b)) with
    | none => exact ⟨by simp, by simp⟩
    | some x =>
      obtain ⟨h0, h1, _⟩ := pAct_ok H hx
      have l1 := H.len
      have l2 := H.len2
      simp only at l1 l2
      simp only [Option.bind_some, Option.getD_some, if_true, letO_bind]
      rw [if_neg (by omega), idx_at ⟨0, 0, 0⟩ h0 (by omega), idx_at false h0 (by omega)]
      exact ⟨rfl, trivial⟩
  have e := lp_congr (step := spec_DeadReckoning_L1 l ns) (step' := impl_DeadReckoning_L1 l ns) (POk l ns) (fun a H => by
    refine ⟨by rw [(one a H).1, (one a H).2], fun a' h => ?_⟩
    rw [(one a H).1] at h
    cases hx : l.findSome? (pAct ns a) with
    | none => rw [hx] at h; cases h
    | some x =>
      rw [hx] at h
      have h := Sum.inl.inj (Option.some.inj h)
      subst h
      exact H.set _ _) s H
  obtain ⟨v, hv, q⟩ := lp_ind (step := impl_DeadReckoning_L1 l ns) (POk l ns) (fun s => offs s.2) (POk l ns)
    (by
      intro a H
      cases hx : l.findSome? (pAct ns a) with
      | none => left; refine ⟨a, ?_, H⟩; rw [(one a H).2, hx]
      | some x =>
        right
        have k := pAct_ok H hx
        exact ⟨(setI a.1 x.1 x.2, setI a.2 x.1 true), by rw [(one a H).2, hx], H.set _ _, offs_set a.2 _ k.1 (by have := H.len2; omega) k.2.2⟩) s H
  exact ⟨v, e.trans hv, hv, q⟩
theorem POk_of {l : List Factor} (h : isFL l = true) : POk l (namesOf l) (List.replicate ((namesOf l).length : Int).toNat ⟨0, 0, 0⟩, List.replicate ((namesOf l).length : Int).toNat false) := by
  have H := HOk_of h
  exact ⟨by simp, by simp, H.small, H.lsmall, H.to, H.fr⟩
theorem Dead_p (l : List Factor) (hl : l.length ≤ 1048577) (hf : ∀ f ∈ l, bigF f) : ∃ v, spec_DeadReckoning l = some v ∧ impl_DeadReckoning l = some v ∧ v.1.length = v.2.length ∧ v.1.length ≤ 10 := by
  unfold spec_DeadReckoning impl_DeadReckoning
  rw [spec_isFL l hl hf, impl_isFL l hl hf, spec_NamesOf_p l hl, impl_NamesOf_p l hl]
  by_cases h : isFL l = true
  · obtain ⟨h1, h2, _⟩ := isFL_facts h
    obtain ⟨v, e1, e2, H⟩ := reckon_loops l (namesOf l) _ (POk_of h)
    refine ⟨v, ?_, ?_, by rw [H.len, H.len2], by rw [H.len]; omega⟩
    · simp only [Option.bind_some, h, if_true]
      rw [chk_pos (by omega), chk_pos (by omega)]
      simp only [Option.bind_some, e1]
    · simp only [Option.bind_some, h, if_true]
      rw [chk_pos (by omega), chk_pos (by omega)]
      simp only [Option.bind_some, e2]
  · simp [h]
theorem eqPose_self (p : Pose) : laws_eqPose p p = some true := by simp [laws_eqPose]
end Go.Ev
