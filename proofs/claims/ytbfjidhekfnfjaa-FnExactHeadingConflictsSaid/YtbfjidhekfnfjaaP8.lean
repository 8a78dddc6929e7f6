/- Plain laws: headings. -/
import Derived.Test.YtbfjidhekfnfjaaP7
set_option linter.all false
namespace Go.Ev
set_option linter.all false
section
variable {ρ : Type}
theorem lp_find {α β : Type} {step : Int → Option (Int ⊕ (Unit ⊕ ρ))} (l : List α) (act : α → Option β) (F : β → ρ) (h1 : ∀ (k : Nat) (hk : k < l.length), step (k : Int) = some (match act l[k] with | none => .inl ((k + 1 : Nat) : Int) | some x => .inr (.inr (F x))))
    (h2 : step (l.length : Int) = some (.inr (.inl ()))) : lp step 0 = some (match l.findSome? act with | none => .inl () | some x => .inr (F x)) := by
  have main : ∀ n k, n + k = l.length → lp step (k : Int) = some (match (l.drop k).findSome? act with | none => .inl () | some x => .inr (F x)) := by
    intro n
    induction n with
    | zero =>
      intro k hk
      have : k = l.length := by omega
      subst this
      rw [List.drop_length, List.findSome?_nil]
      exact lp_done h2
    | succ n ih =>
      intro k hk
      have hlt : k < l.length := by omega
      rw [List.drop_eq_getElem_cons hlt, List.findSome?_cons]
      have h := h1 k hlt
      cases ha : act l[k] with
      | none => rw [ha] at h; rw [lp_more h]; exact ih (k + 1) (by omega)
      | some x => rw [ha] at h; exact lp_done h
  have := main l.length 0 (by omega)
  simpa using this
end
theorem idx_in {α : Type} {l : List α} {i : Int} (h0 : 0 ≤ i) (h1 : i < l.length) : idx l i = some (l[i.toNat]'(by omega)) := by
  have := idx_lt (l := l) (k := i.toNat) (by omega)
  rwa [show ((i.toNat : Nat) : Int) = i by omega] at this
def atI {α : Type} (d : α) (l : List α) (i : Int) : α := l.getD i.toNat d
theorem idx_at {α : Type} {l : List α} {i : Int} (d : α) (h0 : 0 ≤ i) (h1 : i < l.length) : idx l i = some (atI d l i) := by
  rw [idx_in h0 h1, atI, List.getD_eq_getElem?_getD, List.getElem?_eq_getElem (by omega)]; rfl
def hAct (ns : List ByteArray) (a : List Int) (y : Factor) : Option (Int × Int) :=
  if y.fKind = 1 then (if atI 0 a (nIdx ns y.fTo) < 0 then some (nIdx ns y.fTo, y.fPose.fTurn) else none)
  else if y.fKind = 2 then
    (if 0 ≤ atI 0 a (nIdx ns y.fFrom) ∧ atI 0 a (nIdx ns y.fTo) < 0 then some (nIdx ns y.fTo, (atI 0 a (nIdx ns y.fFrom) + y.fPose.fTurn).tmod 4)
     else if atI 0 a (nIdx ns y.fFrom) < 0 ∧ 0 ≤ atI 0 a (nIdx ns y.fTo) then some (nIdx ns y.fFrom, (atI 0 a (nIdx ns y.fTo) + 4 - y.fPose.fTurn).tmod 4) else none)
  else none
/-- what the steps rest on -/
structure HOk (l : List Factor) (ns : List ByteArray) (a : List Int) : Prop where
  len : a.length = ns.length
  small : ns.length ≤ 4194304
  lsmall : l.length ≤ 4194304
  good : ∀ f ∈ l, goodF f = true
  to : ∀ f ∈ l, f.fTo ∈ ns
  fr : ∀ f ∈ l, f.fKind ≠ 1 → f.fFrom ∈ ns
  rng : ∀ x ∈ a, -1 ≤ x ∧ x ≤ 3
theorem atI_mem {α : Type} {d : α} {l : List α} {i : Int} (h0 : 0 ≤ i) (h1 : i < l.length) : atI d l i ∈ l := by
  unfold atI
  rw [List.getD_eq_getElem?_getD, List.getElem?_eq_getElem (by omega)]
  exact List.getElem_mem _
theorem spec_step (l : List Factor) (ns : List ByteArray) (a : List Int) (H : HOk l ns a) : spec_l17Step l ns a = some ((l.findSome? (hAct ns a)).getD (-1, 0)) := by
  unfold spec_l17Step
  have e := lp_find (step := spec_l17Step_L1 l ns a) l (hAct ns a) (fun x => x)
    (fun k hk => by
      have hm : l[k] ∈ l := List.getElem_mem hk
      have ht := nIdx_mem (H.to _ hm)
      have hb := nIdx_bound ns (l[k]).fTo
      have hfb := nIdx_bound ns (l[k]).fFrom
      have hfr := H.fr _ hm
      have hlen := H.len
      have hs := H.small
      have hv := (goodF_facts (H.good _ hm)).2.2.1
      have hls := H.lsmall
      unfold spec_l17Step_L1 hAct
      rw [if_pos (by omega), idx_lt hk, wi (n := (k : Int) + 1) (by omega)]
      generalize l[k] = y at *
      simp only [Option.bind_some, l17Index_same, nIdx_p ns _ hs]
      rw [idx_at (i := nIdx ns y.fTo) 0 ht (by omega)]
      have r1 := H.rng _ (atI_mem (d := 0) ht (by omega : nIdx ns y.fTo < a.length))
      obtain ⟨v1, v2, _⟩ := hv
      by_cases k1 : y.fKind = 1
      · simp only [k1, if_true, Option.bind_some]
        by_cases h1 : atI 0 a (nIdx ns y.fTo) < 0 <;> simp [h1]
      · simp only [k1, if_false, Option.bind_some, Bool.false_eq_true]
        by_cases k2 : y.fKind = 2
        · have hf := nIdx_mem (hfr k1)
          have r2 := H.rng _ (atI_mem (d := 0) hf (by omega : nIdx ns y.fFrom < a.length))
          rw [idx_at (i := nIdx ns y.fFrom) 0 hf (by omega)]
          simp only [k2, ne_eq, not_true, if_false, if_true, Option.bind_some, letO_bind]
          generalize atI 0 a (nIdx ns y.fTo) = x at *
          generalize atI 0 a (nIdx ns y.fFrom) = z at *
          rw [wi (n := z + _) (by omega), wi (n := x + 4) (by omega), wi (n := x + 4 - _) (by omega)]
          by_cases h1 : 0 ≤ z <;> by_cases h2 : x < 0
          · simp [h1, h2]
          · have h3 : ¬ z < 0 := by omega
            simp [h1, h2, h3]
          · have h3 : z < 0 := by omega
            have h4 : ¬ 0 ≤ x := by omega
            simp [h1, h2, h3, h4]
          · have h3 : z < 0 := by omega
            have h4 : 0 ≤ x := by omega
            simp [h1, h2, h3, h4]
        · simp [k2])
    (by unfold spec_l17Step_L1; rw [if_neg (by omega)])
  rw [e]
  cases l.findSome? (hAct ns a) <;> rfl
theorem impl_step (l : List Factor) (ns : List ByteArray) (a : List Int) (H : HOk l ns a) : impl_headingStep l ns a = some (match l.findSome? (hAct ns a) with | none => (false, a) | some x => (true, setI a x.1 x.2)) := by
  unfold impl_headingStep impl_headingStep_raw
  have e := lp_find (step := impl_headingStep_L1 l ns a) l (hAct ns a) (fun x => (true, setI a x.1 x.2))
    (fun k hk => by
      have hm : l[k] ∈ l := List.getElem_mem hk
      have ht := nIdx_mem (H.to _ hm)
      have hb := nIdx_bound ns (l[k]).fTo
      have hfb := nIdx_bound ns (l[k]).fFrom
      have hfr := H.fr _ hm
      have hlen := H.len
      have hs := H.small
      have hv := (goodF_facts (H.good _ hm)).2.2.1
      have hls := H.lsmall
      unfold impl_headingStep_L1 hAct
      rw [if_pos (by omega), idx_lt hk, wi (n := (k : Int) + 1) (by omega)]
      generalize l[k] = y at *
      simp only [Option.bind_some, nIdx_p ns _ hs]
      rw [idx_at (i := nIdx ns y.fTo) 0 ht (by omega)]
      have r1 := H.rng _ (atI_mem (d := 0) ht (by omega : nIdx ns y.fTo < a.length))
      obtain ⟨v1, v2, _⟩ := hv
      by_cases k1 : y.fKind = 1
      · simp only [k1, if_true, Option.bind_some]
        by_cases h1 : atI 0 a (nIdx ns y.fTo) < 0 <;> simp [h1, letO]
      · simp only [k1, if_false, Option.bind_some, Bool.false_eq_true]
        by_cases k2 : y.fKind = 2
        · have hf := nIdx_mem (hfr k1)
          have r2 := H.rng _ (atI_mem (d := 0) hf (by omega : nIdx ns y.fFrom < a.length))
          rw [idx_at (i := nIdx ns y.fFrom) 0 hf (by omega)]
          simp only [k2, ne_eq, not_true, if_false, if_true, Option.bind_some, letO_bind]
          generalize atI 0 a (nIdx ns y.fTo) = x at *
          generalize atI 0 a (nIdx ns y.fFrom) = z at *
          rw [wi (n := z + _) (by omega), wi (n := x + 4) (by omega), wi (n := x + 4 - _) (by omega)]
          by_cases h1 : 0 ≤ z <;> by_cases h2 : x < 0
          · simp [h1, h2]
          · have h3 : ¬ z < 0 := by omega
            simp [h1, h2, h3]
          · have h3 : z < 0 := by omega
            have h4 : ¬ 0 ≤ x := by omega
            simp [h1, h2, h3, h4]
          · have h3 : z < 0 := by omega
            have h4 : 0 ≤ x := by omega
            simp [h1, h2, h3, h4]
        · simp [k2])
    (by unfold impl_headingStep_L1; rw [if_neg (by omega)])
  rw [e]
  cases l.findSome? (hAct ns a) with
  | none => simp only [Option.bind_some]; rw [chk_pos trivial]; rfl
  | some x => simp only [Option.bind_some]; rw [chk_pos setI_len]; rfl
/-- what an action of a step is -/
theorem hAct_ok {l : List Factor} {ns : List ByteArray} {a : List Int} (H : HOk l ns a) {x : Int × Int} (h : l.findSome? (hAct ns a) = some x) : 0 ≤ x.1 ∧ x.1 < a.length ∧ atI 0 a x.1 < 0 ∧ 0 ≤ x.2 ∧ x.2 ≤ 3 := by
  obtain ⟨y, hm, hy⟩ := List.exists_of_findSome?_eq_some h
  have ht := nIdx_mem (H.to _ hm)
  have hb := nIdx_bound ns y.fTo
  have hfb := nIdx_bound ns y.fFrom
  have hlen := H.len
  obtain ⟨v1, v2, _⟩ := (goodF_facts (H.good _ hm)).2.2.1
  have r1 := H.rng _ (atI_mem (d := 0) ht (by omega : nIdx ns y.fTo < a.length))
  unfold hAct at hy
  by_cases k1 : y.fKind = 1
  · rw [if_pos k1] at hy
    split at hy
    · obtain rfl := Option.some.inj hy
      refine ⟨ht, by simp only; omega, by assumption, v1, v2⟩
    · cases hy
  · rw [if_neg k1] at hy
    have hf := nIdx_mem (H.fr _ hm k1)
    have r2 := H.rng _ (atI_mem (d := 0) hf (by omega : nIdx ns y.fFrom < a.length))
    split at hy
    · split at hy
      · rename_i h1
        obtain rfl := Option.some.inj hy
        have := Int.tmod_nonneg 4 (show 0 ≤ atI 0 a (nIdx ns y.fFrom) + y.fPose.fTurn by omega)
        have := Int.tmod_lt_of_pos (atI 0 a (nIdx ns y.fFrom) + y.fPose.fTurn) (show (0 : Int) < 4 by omega)
        exact ⟨ht, by simp only; omega, h1.2, by simp only; omega, by simp only; omega⟩
      · split at hy
        · rename_i h1
          obtain rfl := Option.some.inj hy
          have := Int.tmod_nonneg 4 (show 0 ≤ atI 0 a (nIdx ns y.fTo) + 4 - y.fPose.fTurn by omega)
          have := Int.tmod_lt_of_pos (atI 0 a (nIdx ns y.fTo) + 4 - y.fPose.fTurn) (show (0 : Int) < 4 by omega)
          exact ⟨hf, by simp only; omega, h1.1, by simp only; omega, by simp only; omega⟩
        · cases hy
    · cases hy
def negs (a : List Int) : Nat := a.countP (fun x => decide (x < 0))
theorem negs_set (a : List Int) (i : Int) (x : Int) (h0 : 0 ≤ i) (h1 : i < a.length) (h2 : atI 0 a i < 0) (h3 : 0 ≤ x) : negs (setI a i x) < negs a := by
  obtain ⟨k, rfl⟩ := Int.eq_ofNat_of_zero_le h0
  rw [show setI a (k : Int) x = a.set k x from setI_nat a k x]
  have hk : k < a.length := by omega
  unfold negs
  rw [List.countP_set hk]
  have h2 : a[k] < 0 := by
    unfold atI at h2
    rw [List.getD_eq_getElem?_getD, show ((k : Int)).toNat = k by omega, List.getElem?_eq_getElem hk] at h2
    exact h2
  have hp : 0 < List.countP (fun x => decide (x < 0)) a := List.countP_pos_iff.2 ⟨a[k], List.getElem_mem hk, by simpa using h2⟩
  simp [h2, show ¬ x < 0 by omega]; omega
theorem HOk.set {l : List Factor} {ns : List ByteArray} {a : List Int} (H : HOk l ns a) (i x : Int) (h : 0 ≤ x ∧ x ≤ 3) : HOk l ns (setI a i x) :=
  ⟨by rw [setI_len]; exact H.len, H.small, H.lsmall, H.good, H.to, H.fr, fun z hz => by
      unfold setI at hz
      rcases List.mem_or_eq_of_mem_set hz with h1 | h1
      · exact H.rng z h1
      · subst h1; exact ⟨by omega, h.2⟩⟩
theorem head_loops (l : List Factor) (ns : List ByteArray) (a : List Int) (H : HOk l ns a) : ∃ v, lp (spec_HeadingsOf_L2 l ns) a = some v ∧ lp (impl_HeadingsOf_L2 l ns) a = some v ∧ HOk l ns v := by
  have one : ∀ a, HOk l ns a → spec_HeadingsOf_L2 l ns a = some (match l.findSome? (hAct ns a) with | none => .inr a | some x => .inl (setI a x.1 x.2)) ∧ impl_HeadingsOf_L2 l ns a = some (match l.findSome? (hAct ns a) with | none => .inr a | some x => .inl (setI a x.1 x.2)) := by
    intro a H
    unfold spec_HeadingsOf_L2 impl_HeadingsOf_L2
    rw [spec_step l ns a H, impl_step l ns a H]
    cases hx : l.findSome? (hAct ns a) with
    | none => exact ⟨by simp, by simp⟩
    | some x =>
      obtain ⟨h0, h1, _⟩ := hAct_ok H hx
      simp only [Option.bind_some, Option.getD_some, if_true, letO_bind]
      rw [if_neg (by omega), idx_at 0 h0 h1]
      exact ⟨rfl, trivial⟩
  have e := lp_congr (step := spec_HeadingsOf_L2 l ns) (step' := impl_HeadingsOf_L2 l ns) (HOk l ns) (fun a H => by
    refine ⟨by rw [(one a H).1, (one a H).2], fun a' h => ?_⟩
    rw [(one a H).1] at h
    cases hx : l.findSome? (hAct ns a) with
    | none => rw [hx] at h; cases h
    | some x =>
      rw [hx] at h
      have h := Sum.inl.inj (Option.some.inj h)
      subst h
      have := hAct_ok H hx
      exact H.set _ _ ⟨this.2.2.2.1, this.2.2.2.2⟩) a H
  obtain ⟨v, hv, q⟩ := lp_ind (step := impl_HeadingsOf_L2 l ns) (HOk l ns) negs (HOk l ns)
    (by
      intro a H
      cases hx : l.findSome? (hAct ns a) with
      | none => left; refine ⟨a, ?_, H⟩; rw [(one a H).2, hx]
      | some x =>
        right
        have k := hAct_ok H hx
        exact ⟨setI a x.1 x.2, by rw [(one a H).2, hx], H.set _ _ ⟨k.2.2.2.1, k.2.2.2.2⟩, negs_set a _ _ k.1 k.2.1 k.2.2.1 k.2.2.2.1⟩) a H
  exact ⟨v, e.trans hv, hv, q⟩
theorem fill_neg (ns : List ByteArray) (h : ns.length ≤ 4194304) : lp (spec_HeadingsOf_L1 ns) (0, ([] : List Int)) = some (List.replicate ns.length (-1)) := by
  have e := lp_foldl (step := spec_HeadingsOf_L1 ns) ns (fun k (t : List Int) => ((k : Int), t)) (fun t _ => t ++ [-1]) (fun t => t) (fun k t => t = List.replicate k (-1))
    (fun k t hk hi => by
      subst hi
      refine ⟨?_, by rw [List.replicate_succ']⟩
      unfold spec_HeadingsOf_L1
      simp only [List.length_replicate]
      rw [if_pos (by omega), chk_pos (by omega), wi (by omega)]
      rfl)
    (fun t hi => by unfold spec_HeadingsOf_L1; simp only []; rw [if_neg (by omega)]) [] rfl
  rw [show ((0 : Nat) : Int) = 0 from rfl] at e
  rw [e.1, e.2]
theorem HOk_of {l : List Factor} (h : isFL l = true) : HOk l (namesOf l) (List.replicate (namesOf l).length (-1)) := by
  obtain ⟨h1, h2, h3, h4⟩ := isFL_facts h
  have g : ∀ f ∈ l, goodF f = true := fun f hf => by
    obtain ⟨i, hi, e⟩ := List.getElem_of_mem hf
    rw [← e]; exact h3 i hi
  refine ⟨by simp, by omega, by omega, g, fun f hf => ?_, fun f hf hk => ?_, fun x hx => ?_⟩
  · exact names_to hf (goodF_facts (g f hf)).2.2.2.2.2.1
  · exact names_from hf ((goodF_facts (g f hf)).2.2.2.2.2.2.2.2.1 hk)
  · have := List.eq_of_mem_replicate hx; omega
theorem HeadingsOf_p (l : List Factor) (hl : l.length ≤ 1048577) (hf : ∀ f ∈ l, bigF f) : ∃ v, spec_HeadingsOf l = some v ∧ impl_HeadingsOf l = some v ∧ v.length ≤ 10 ∧ (if isFL l then v.length = (namesOf l).length else v = []) := by
  unfold spec_HeadingsOf impl_HeadingsOf
  rw [spec_isFL l hl hf, impl_isFL l hl hf, spec_NamesOf_p l hl, impl_NamesOf_p l hl]
  by_cases h : isFL l = true
  · obtain ⟨h1, h2, _⟩ := isFL_facts h
    obtain ⟨v, e1, e2, H⟩ := head_loops l (namesOf l) _ (HOk_of h)
    refine ⟨v, ?_, ?_, by rw [H.len]; omega, by rw [if_pos h]; exact H.len⟩
    · simp only [Option.bind_some, h, if_true, fill_neg (namesOf l) (by omega), e1]
    · simp only [Option.bind_some, h, if_true]
      rw [show impl_HeadingsOf_L1 = spec_HeadingsOf_L1 from rfl, fill_neg (namesOf l) (by omega)]
      simp only [Option.bind_some, e2]
  · simp [h]
end Go.Ev
