/- Several plain texts in one. -/
import Derived.Test.YtbfjidhekfnfjaaPL
import Derived.Test.YtbfjidhekfnfjaaLd
set_option linter.all false
/- Plain laws of the helpers of the exact laws: sizes, copies, comparisons, marks. -/
namespace Go.Ev
set_option linter.all false

-- comparisons of a thing with itself
theorem eqIntS_self (l : List Int) (h : l.length ≤ 140737488351232) : laws_eqIntS l l = some true := by
  unfold laws_eqIntS
  rw [if_neg (by simp), lp_count l.length (.inl ())]
  · rfl
  · intro k hk
    unfold laws_eqIntS_L1
    rw [if_pos (by omega), idx_lt hk]
    simp only [Option.bind_some, ne_eq, not_true_eq_false, if_false]
    rw [wi (by omega)]; rfl
  · unfold laws_eqIntS_L1; rw [if_neg (by omega)]
theorem eqFactor_self (y : Factor) : laws_eqFactor y y = some true := by
  simp [laws_eqFactor, laws_eqPose]
theorem eqFactorS_self (l : List Factor) (h : l.length ≤ 140737488351232) : laws_eqFactorS l l = some true := by
  unfold laws_eqFactorS
  rw [if_neg (by simp), lp_count l.length (.inl ())]
  · rfl
  · intro k hk
    unfold laws_eqFactorS_L1
    rw [if_pos (by omega), idx_lt hk]
    simp only [Option.bind_some, eqFactor_self, if_true]
    rw [wi (by omega)]; rfl
  · unfold laws_eqFactorS_L1; rw [if_neg (by omega)]
-- copies
theorem toFactor_id (y : Factor) : laws_toFactor y = some y := by simp [laws_toFactor, laws_toPose]
theorem toFactorS_id (l : List Factor) (h : l.length ≤ 1048576) : laws_toFactorS l = some l := by
  unfold laws_toFactorS
  rw [chk_pos (by omega)]
  simp only [Option.bind_some]
  have := lp_fill (step := laws_toFactorS_L1 l) l (List.replicate (l.length : Int).toNat (Factor.mk 0 0 ByteArray.empty ByteArray.empty (Pose.mk 0 0 0) 0)) (fun k m => ((k : Int), m)) (fun m => m) (by simp)
    (fun k m hk hm => by
      unfold laws_toFactorS_L1
      simp only []
      rw [if_pos (by omega), idx_lt hk, idx_lt (l := m) (by omega)]
      simp only [Option.bind_some, toFactor_id]
      rw [wi (by omega), setI_nat]; rfl)
    (fun m hm => by unfold laws_toFactorS_L1; simp only []; rw [if_neg (by omega)])
  rw [show ((0 : Nat) : Int) = 0 from rfl] at this
  rw [this]; rfl
-- sizes
theorem szFactor_p (f : Factor) (left : Int) (h : 0 ≤ left ∧ left ≤ 1048576) (h1 : f.fFrom.size ≤ 9223372036854775807) (h2 : f.fTo.size ≤ 9223372036854775807) :
    ∃ r, laws_szFactor f left = some r ∧ r ≤ left ∧ -1 ≤ r ∧ (0 ≤ r → f.fFrom.size ≤ 1048576 ∧ f.fTo.size ≤ 1048576) := by
  unfold laws_szFactor
  simp only [letO_bind]
  rw [wi (n := left - f.fFrom.size) (by omega)]
  split
  · exact ⟨-1, rfl, by omega, by omega, by omega⟩
  · rw [wi (n := left - f.fFrom.size - f.fTo.size) (by omega)]
    split
    · exact ⟨-1, rfl, by omega, by omega, by omega⟩
    · exact ⟨_, rfl, by omega, by omega, by omega⟩
def bigF (f : Factor) : Prop := f.fFrom.size ≤ 9223372036854775807 ∧ f.fTo.size ≤ 9223372036854775807
def smallF (f : Factor) : Prop := f.fFrom.size ≤ 1048576 ∧ f.fTo.size ≤ 1048576
theorem szFactorS_p (l : List Factor) (hl : l.length ≤ 9223372036854775807) (hf : ∀ f ∈ l, bigF f) :
    ∃ r, laws_szFactorS l 1048576 = some r ∧ (¬ r < 0 → l.length ≤ 1048576 ∧ ∀ f ∈ l, smallF f) := by
  unfold laws_szFactorS
  simp only [letO_bind]
  rw [wi (n := 1048576 - (l.length : Int)) (by omega)]
  by_cases h0 : (1048576 : Int) - l.length < 0
  · rw [if_pos h0]; exact ⟨_, rfl, by omega⟩
  · rw [if_neg h0]
    have e := lp_foldE (step := laws_szFactorS_L1 l) l (fun k (t : Int) => (t, (k : Int))) (fun y t => match laws_szFactor y t with | none => none | some r => if r < 0 then some (.inr (.inr (-1))) else some (.inl r)) (fun t => (.inl t : Int ⊕ Int))
      (fun k t hk => by
        unfold laws_szFactorS_L1
        simp only []
        rw [if_pos (by omega), idx_lt hk]
        simp only [Option.bind_some]
        cases laws_szFactor l[k] t with
        | none => rfl
        | some r =>
          simp only [Option.bind_some]
          by_cases hr : r < 0
          · simp [hr]
          · simp only [hr, if_false]; rw [wi (by omega)]; rfl)
      (fun t => by unfold laws_szFactorS_L1; simp only []; rw [if_neg (by omega)]) (1048576 - (l.length : Int))
    obtain ⟨x, hx, hq⟩ := foldE_inv (g := fun y t => match laws_szFactor y t with | none => none | some r => if r < 0 then some (.inr (.inr (-1))) else some (.inl r)) (fin := fun t => (.inl t : Int ⊕ Int))
      (fun r t => 0 ≤ t ∧ t ≤ 1048576 ∧ (∀ f ∈ r, bigF f) ∧ ((∀ f ∈ r, smallF f) → ∀ f ∈ l, smallF f)) (fun x => x = .inr (-1) ∨ ((∃ t, x = .inl t) ∧ ∀ f ∈ l, smallF f))
      (fun y r t ⟨g1, g2, g3, g4⟩ => by
        obtain ⟨x, e1, e2, e3, e4⟩ := szFactor_p y t ⟨g1, g2⟩ (g3 y (by simp)).1 (g3 y (by simp)).2
        rw [e1]
        by_cases hx : x < 0
        · exact .inr ⟨.inr (-1), by simp [hx], .inl rfl⟩
        · refine .inl ⟨x, by simp [hx], by omega, by omega, fun f hf => g3 f (by simp [hf]), fun hs => g4 (fun f hf => ?_)⟩
          rcases List.mem_cons.1 hf with rfl | hf
          · exact e4 (by omega)
          · exact hs f hf)
      (fun t ⟨_, _, _, g4⟩ => .inr ⟨⟨t, rfl⟩, g4 (by simp)⟩) l (1048576 - (l.length : Int)) ⟨by omega, by omega, hf, fun h => h⟩
    rw [show ((0 : Nat) : Int) = 0 from rfl] at e
    rw [e, hx]
    rcases hq with rfl | ⟨⟨t, rfl⟩, hq⟩
    · exact ⟨-1, rfl, by omega⟩
    · exact ⟨t, rfl, fun _ => ⟨by omega, hq⟩⟩
-- marks
theorem markIntS_p (l : List Int) (k0 : Nat) (h : k0 + l.length ≤ 4611686018427387904) : ∃ m, laws_markIntS l k0 = some (((k0 + l.length : Nat) : Int), m) ∧ m.length = l.length ∧ laws_heldIntS m k0 = some ((k0 + l.length : Nat) : Int) := by
  let g : Int → Int → Int × Int := fun k _ => (k + 1, k)
  have hk : ∀ (l : List Int) (k : Int), (markL g k l).1 = k + l.length := by
    intro l; induction l with
    | nil => intro k; simp [markL]
    | cons y r ih => intro k; simp only [markL, g, List.length_cons]; rw [ih]; omega
  have e1 : laws_markIntS l k0 = some ((markL g (k0 : Int) l).1, (markL g (k0 : Int) l).2) := by
    unfold laws_markIntS laws_markIntS_raw
    have := (lp_markL (step := laws_markIntS_L1) (fun k i m => (k, (i : Int), m)) g (fun k m => (k, m)) l.length (fun i k => k = (k0 : Int) + i)
      (fun k i m hi hm hj => by
        subst hj
        refine ⟨?_, ?_⟩
        · unfold laws_markIntS_L1
          simp only []
          rw [if_pos (by omega), idx_lt hi]
          simp only [Option.bind_some]
          rw [wi (by omega), wi (by omega), setI_nat]; rfl
        · simp only [g]; omega)
      (fun k m hm _ => by unfold laws_markIntS_L1; simp only []; rw [if_neg (by omega)]) l (k0 : Int) rfl (by simp)).1
    rw [show ((0 : Nat) : Int) = 0 from rfl] at this
    rw [this]
    simp only [Option.bind_some]
    rw [chk_pos (markL_len l _)]; rfl
  refine ⟨(markL g (k0 : Int) l).2, by rw [e1, hk]; rfl, markL_len l _, ?_⟩
  unfold laws_heldIntS
  generalize hm : (markL g (k0 : Int) l).2 = m
  have hml : m.length = l.length := by rw [← hm]; exact markL_len l _
  have e2 := lp_foldE (step := laws_heldIntS_L1 m) m (fun i (k : Int) => (k, (i : Int))) (fun y k => if y ≠ k then some (.inr (.inr (-1))) else some (.inl (IntKind.i64.wrap (k + 1)))) (fun k => (.inl k : Int ⊕ Int))
    (fun i k hi => by
      unfold laws_heldIntS_L1
      simp only []
      rw [if_pos (by omega), idx_lt hi]
      simp only [Option.bind_some]
      by_cases hy : m[i] ≠ k
      · simp [hy]
      · simp only [hy, if_false]; rw [wi (n := (i : Int) + 1) (by omega)]; rfl)
    (fun k => by unfold laws_heldIntS_L1; simp only []; rw [if_neg (by omega)]) (k0 : Int)
  rw [show ((0 : Nat) : Int) = 0 from rfl] at e2
  rw [e2]
  have e3 : ∀ (l : List Int) (k0 : Nat), k0 + l.length ≤ 4611686018427387904 → foldE (fun (y : Int) (k : Int) => if y ≠ k then some (.inr (.inr (-1))) else some (.inl (IntKind.i64.wrap (k + 1)))) (fun k => (.inl k : Int ⊕ Int)) (markL g (k0 : Int) l).2 (k0 : Int) = some (.inl ((k0 + l.length : Nat) : Int)) := by
    intro l; induction l with
    | nil => intro k0 _; rfl
    | cons y r ih =>
      intro k0 hb
      simp only [List.length_cons] at hb
      simp only [markL, foldE, g, ne_eq, not_true_eq_false, if_false]
      rw [wi (by omega)]
      have := ih (k0 + 1) (by omega)
      rw [show ((k0 + 1 : Nat) : Int) = (k0 : Int) + 1 by omega] at this
      simp only [List.length_cons]
      simp only [g, ne_eq] at this
      rw [this]; congr 2; omega
  rw [← hm, e3 l k0 h]; rfl
end Go.Ev


/- Plain laws: names, valid factors, lists of factors. -/
namespace Go.Ev
set_option linter.all false
theorem byteIdx (s : ByteArray) (k : Nat) (h : k < s.size) : strAt s (k : Int) = some ((s.data.toList.getD k 0).toNat : Int) := by
  unfold strAt; rw [if_pos ⟨by omega, by omega⟩]; simp
-- sizes of results
-- strings among strings
theorem hasString_same : spec_l16Has = impl_hasString := rfl
theorem hasString_p (l : List ByteArray) (s : ByteArray) (hl : l.length ≤ 140737488351232) : impl_hasString l s = some (hasS l s) := by
  unfold impl_hasString
  obtain ⟨r, e, q⟩ := lp_search (step := impl_hasString_L1 l s) l.length (fun r => (r = .inl () ∧ s ∉ l) ∨ (r = .inr true ∧ s ∈ l)) (fun k => ∀ i (hi : i < l.length), i < k → l[i] ≠ s) (by intro i _ h; omega)
    (fun k hk hj => by
      unfold impl_hasString_L1
      rw [if_pos (by omega), idx_lt hk]
      simp only [Option.bind_some]
      by_cases hy : l[k] = s
      · right; exact ⟨_, by rw [if_pos hy], .inr ⟨rfl, hy ▸ List.getElem_mem hk⟩⟩
      · left
        rw [if_neg hy, wi (by omega)]
        refine ⟨rfl, fun i hi h => ?_⟩
        by_cases e : i = k
        · subst e; exact hy
        · exact hj i hi (by omega))
    (fun hj => by
      unfold impl_hasString_L1
      rw [if_neg (by omega)]
      refine ⟨_, rfl, .inl ⟨rfl, fun hm => ?_⟩⟩
      obtain ⟨i, hi, e⟩ := List.getElem_of_mem hm
      exact hj i hi hi e)
  rw [e]
  rcases q with ⟨rfl, h⟩ | ⟨rfl, h⟩
  · rw [hasS_not.2 h]; rfl
  · rw [hasS_iff.2 h]; rfl
def addN (ns : List ByteArray) (s : ByteArray) : List ByteArray := if s ≠ (⟨#[]⟩ : ByteArray) ∧ hasS ns s = false then ns ++ [s] else ns
theorem addN_len (ns : List ByteArray) (s : ByteArray) : (addN ns s).length ≤ ns.length + 1 := by unfold addN; split <;> simp
def namesOf (l : List Factor) : List ByteArray := l.foldl (fun ns f => addN (addN ns f.fFrom) f.fTo) []
theorem namesFrom_len (l : List Factor) (ns : List ByteArray) : (l.foldl (fun ns f => addN (addN ns f.fFrom) f.fTo) ns).length ≤ ns.length + 2 * l.length := by
  induction l generalizing ns with
  | nil => simp
  | cons f r ih =>
    simp only [List.foldl_cons, List.length_cons]
    have := ih (addN (addN ns f.fFrom) f.fTo)
    have := addN_len ns f.fFrom
    have := addN_len (addN ns f.fFrom) f.fTo
    omega
theorem namesOf_len (l : List Factor) : (namesOf l).length ≤ 2 * l.length := by have := namesFrom_len l []; simpa [namesOf] using this
theorem foldE_foldl {α τ ρ : Type} {g : α → τ → Option (τ ⊕ ρ)} {fin : τ → ρ} (f : τ → α → τ) (I : Nat → τ → Prop) : ∀ (l : List α) (t : τ), I l.length t → (∀ y t n, I (n + 1) t → g y t = some (.inl (f t y)) ∧ I n (f t y)) → foldE g fin l t = some (fin (l.foldl f t))
  | [], t, _, _ => rfl
  | y :: r, t, hi, h => by
    rw [foldE, (h y t r.length hi).1]
    exact foldE_foldl f I r _ (h y t r.length hi).2 h
theorem spec_NamesOf_in (y : Factor) (ns : List ByteArray) (h : ns.length ≤ 4194304) : lp (spec_NamesOf_L1 y) (0, ns) = some (addN (addN ns y.fFrom) y.fTo) := by
  have st : ∀ (k : Nat) (s : ByteArray) (ns : List ByteArray), [y.fFrom, y.fTo][k]? = some s → ns.length ≤ 4194305 → spec_NamesOf_L1 y ((k : Int), ns) = some (.inl (((k + 1 : Nat) : Int), addN ns s)) := by
    intro k s ns hk hn
    have hlt : k < 2 := by have := (List.getElem?_eq_some_iff.1 hk).1; simpa using this
    unfold spec_NamesOf_L1
    simp only [List.length_cons, List.length_nil]
    rw [if_pos (by omega), idx_nat, hk]
    simp only [Option.bind_some]
    rw [hasString_same, hasString_p _ _ (by omega), wi (n := (k : Int) + 1) (by omega)]
    unfold addN
    by_cases h1 : s = (⟨#[]⟩ : ByteArray)
    · simp [h1]
    · by_cases h2 : hasS ns s = true
      · simp [h1, h2]
      · simp [h1, h2, chk_pos (show (ns.length + 1) * 16 ≤ 140737488355328 by omega), letO]
  have e0 := st 0 y.fFrom ns rfl (by omega)
  have e1 := st 1 y.fTo (addN ns y.fFrom) rfl (by have := addN_len ns y.fFrom; omega)
  rw [show (0 : Int) = ((0 : Nat) : Int) from rfl, lp_more e0, lp_more e1]
  apply lp_done
  unfold spec_NamesOf_L1
  simp
theorem spec_NamesOf_p (l : List Factor) (hl : l.length ≤ 1048577) : spec_NamesOf l = some (namesOf l) := by
  unfold spec_NamesOf
  have e := lp_foldE (step := spec_NamesOf_L2 l) l (fun k (t : List ByteArray) => ((k : Int), t)) (fun y t => (lp (spec_NamesOf_L1 y) (0, t)).bind fun d => some (.inl d)) (fun t => t)
    (fun k t hk => by
      unfold spec_NamesOf_L2
      simp only []
      rw [if_pos (by omega), idx_lt hk]
      simp only [Option.bind_some]
      cases lp (spec_NamesOf_L1 l[k]) (0, t) with
      | none => rfl
      | some d => simp only [Option.bind_some]; rw [wi (by omega)]; rfl)
    (fun t => by unfold spec_NamesOf_L2; simp only []; rw [if_neg (by omega)]) []
  rw [show ((0 : Nat) : Int) = 0 from rfl] at e
  rw [e, foldE_foldl (fun ns f => addN (addN ns f.fFrom) f.fTo) (fun n t => t.length + 2 * n ≤ 4194304) l [] (by simp; omega)
    (fun y t n hi => by
      rw [spec_NamesOf_in y t (by omega)]
      refine ⟨rfl, ?_⟩
      have := addN_len t y.fFrom
      have := addN_len (addN t y.fFrom) y.fTo
      omega)]
  rfl
theorem impl_NamesOf_p (l : List Factor) (hl : l.length ≤ 1048577) : impl_NamesOf l = some (namesOf l) := by
  unfold impl_NamesOf
  have one : ∀ (s : ByteArray) (ns : List ByteArray), ns.length ≤ 4194305 → ((if s ≠ (⟨#[]⟩ : ByteArray) then (impl_hasString ns s).bind fun r => some (!r) else some false) : Option Bool) = some (decide (s ≠ (⟨#[]⟩ : ByteArray) ∧ hasS ns s = false)) := by
    intro s ns hn
    rw [hasString_p _ _ (by omega)]
    by_cases h1 : s = (⟨#[]⟩ : ByteArray) <;> simp [h1]
  have add : ∀ (s : ByteArray) (ns : List ByteArray), ns.length ≤ 4194305 → ((if decide (s ≠ (⟨#[]⟩ : ByteArray) ∧ hasS ns s = false) = true then (chk ((ns.length + 1) * 16 ≤ 140737488355328)).bind fun _u => (letO (ns ++ [s])).bind fun v => some v else some ns) : Option (List ByteArray)) = some (addN ns s) := by
    intro s ns hn
    rw [chk_pos (by omega)]
    unfold addN
    by_cases h : s ≠ (⟨#[]⟩ : ByteArray) ∧ hasS ns s = false <;> simp [h, letO]
  have e := lp_foldl (step := impl_NamesOf_L1 l) l (fun k (t : List ByteArray) => ((k : Int), t)) (fun ns f => addN (addN ns f.fFrom) f.fTo) (fun t => t) (fun k t => t.length ≤ 2 * k)
    (fun k t hk hi => by
      have hl1 := addN_len t (l[k]).fFrom
      have hl2 := addN_len (addN t (l[k]).fFrom) (l[k]).fTo
      refine ⟨?_, by omega⟩
      unfold impl_NamesOf_L1
      simp only []
      rw [if_pos (by omega), idx_lt hk]
      simp only [Option.bind_some]
      rw [one _ _ (by omega)]
      simp only [Option.bind_some]
      rw [add _ _ (by omega)]
      simp only [Option.bind_some]
      rw [one _ _ (by omega)]
      simp only [Option.bind_some]
      rw [wi (n := (k : Int) + 1) (by omega)]
      have := add (l[k]).fTo (addN t (l[k]).fFrom) (by omega)
      by_cases h : decide ((l[k]).fTo ≠ (⟨#[]⟩ : ByteArray) ∧ hasS (addN t (l[k]).fFrom) (l[k]).fTo = false) = true
      · rw [if_pos h] at this ⊢
        rw [chk_pos (by omega)] at this ⊢
        simp only [Option.bind_some, letO_bind] at this ⊢
        rw [Option.some.inj this]; rfl
      · rw [if_neg h] at this ⊢
        rw [← Option.some.inj this]; rfl)
    (fun t hi => by unfold impl_NamesOf_L1; simp only []; rw [if_neg (by omega)]) [] (by simp)
  rw [show ((0 : Nat) : Int) = 0 from rfl] at e
  rw [e.1]; rfl
end Go.Ev


/- Plain laws: marks of texts and of factors. -/
namespace Go.Ev
set_option linter.all false
theorem markText_total (k : Int) (h : k ≤ 4611686018427387904) : ∃ t, laws_markText k = some t := by
  unfold laws_markText
  by_cases h0 : k ≤ 0
  · rw [if_pos h0]; exact ⟨_, rfl⟩
  · rw [if_neg h0]
    obtain ⟨r, e, q⟩ := lp_ind (step := laws_markText_L1) (fun s => 0 ≤ s.1 ∧ s.2.size + s.1 ≤ k) (fun s => s.1.toNat) (fun r => (r.size : Int) ≤ k)
      (by
        rintro ⟨v, s⟩ ⟨h1, h2⟩
        simp only at h1 h2
        unfold laws_markText_L1
        simp only []
        by_cases hv : 0 < v
        · right
          rw [if_pos hv]
          simp only [letO_bind]
          have e1 : ∀ x, (byteS x).size = 1 := fun _ => rfl
          have e2 : ∀ x, (byteS x ++ s).size = 1 + s.size := fun x => by rw [ByteArray.size_append, e1]
          have hd : v.tdiv 10 = v / 10 := Int.tdiv_eq_ediv_of_nonneg h1
          rw [chk_pos (by rw [e1]; omega)]
          simp only [Option.bind_some]
          rw [hd, wi (n := v / 10) (by omega)]
          refine ⟨_, rfl, ⟨by simp only []; omega, ?_⟩, by simp only []; omega⟩
          simp only []; rw [e2]; omega
        · left
          rw [if_neg hv]
          exact ⟨s, rfl, by omega⟩) (k, (⟨#[]⟩ : ByteArray)) ⟨by simp only []; omega, by simp only []; show ((0 : Nat) : Int) + k ≤ k; omega⟩
    rw [e]
    simp only [Option.bind_some]
    rw [chk_pos (by show 1 + r.size ≤ _; omega)]
    exact ⟨_, rfl⟩
noncomputable def mt (k : Int) : ByteArray := (laws_markText k).getD default
theorem markText_mt (k : Int) (h : k ≤ 4611686018427387904) : laws_markText k = some (mt k) := by
  obtain ⟨t, e⟩ := markText_total k h
  unfold mt; rw [e]; rfl
noncomputable def mf (k : Int) (_ : Factor) : Int × Factor := (k + 8, ⟨k, k + 1, mt (k + 2), mt (k + 3), ⟨k + 4, k + 5, k + 6⟩, k + 7⟩)
theorem idx_set {α : Type} {l : List α} {i : Nat} {y : α} (h : i < l.length) : idx (l.set i y) (i : Int) = some y := by
  rw [idx_nat]; simp [h]
theorem markFactorS_m (l : List Factor) (k0 : Nat) (h : k0 + 8 * l.length ≤ 4611686018427387904) : laws_markFactorS l k0 = some (((k0 + 8 * l.length : Nat) : Int), (markL mf (k0 : Int) l).2) := by
  have hk : ∀ (l : List Factor) (k : Int), (markL mf k l).1 = k + 8 * l.length := by
    intro l; induction l with
    | nil => intro k; simp [markL]
    | cons y r ih => intro k; simp only [markL, mf, List.length_cons]; rw [ih]; omega
  have e1 : laws_markFactorS l k0 = some ((markL mf (k0 : Int) l).1, (markL mf (k0 : Int) l).2) := by
    unfold laws_markFactorS laws_markFactorS_raw
    have := (lp_markL (step := laws_markFactorS_L1) (fun k i m => (k, (i : Int), m)) mf (fun k m => (k, m)) l.length (fun i k => k = (k0 : Int) + 8 * i)
      (fun k i m hi hm hj => by
        refine ⟨?_, ?_⟩
        · unfold laws_markFactorS_L1
          simp only [letO_bind]
          rw [if_pos (by omega), idx_lt hi]
          simp only [Option.bind_some, setI_nat, List.set_set]
          rw [idx_set hi]
          simp only [Option.bind_some, List.set_set]
          rw [wi (n := k + 1) (by omega), wi (n := k + 1 + 1) (by omega), wi (n := k + 1 + 1 + 1) (by omega), wi (n := k + 1 + 1 + 1 + 1) (by omega), wi (n := k + 1 + 1 + 1 + 1 + 1) (by omega), wi (n := k + 1 + 1 + 1 + 1 + 1 + 1) (by omega), wi (n := k + 1 + 1 + 1 + 1 + 1 + 1 + 1) (by omega), wi (n := k + 1 + 1 + 1 + 1 + 1 + 1 + 1 + 1) (by omega), wi (n := (i : Int) + 1) (by omega)]
          rw [markText_mt _ (by omega), markText_mt _ (by omega)]
          simp only [Option.bind_some, idx_set hi, List.set_set]
          simp only [mf]
          congr 2
          refine Prod.ext (by simp only []; omega) (Prod.ext (by simp only []; omega) ?_)
          simp only []
          congr 1
          rw [show k + 1 + 1 = k + 2 by omega, show k + 2 + 1 = k + 3 by omega, show k + 3 + 1 = k + 4 by omega, show k + 4 + 1 = k + 5 by omega, show k + 5 + 1 = k + 6 by omega, show k + 6 + 1 = k + 7 by omega]
        · simp only [mf]; omega)
      (fun k m hm _ => by unfold laws_markFactorS_L1; simp only []; rw [if_neg (by omega)]) l (k0 : Int) rfl (by simp)).1
    rw [show ((0 : Nat) : Int) = 0 from rfl] at this
    rw [this]
    simp only [Option.bind_some]
    rw [chk_pos (markL_len l _)]; rfl
  rw [e1, hk]; rfl
end Go.Ev


/- Plain laws: names, valid factors, factor lists. -/
namespace Go.Ev
set_option linter.all false
section
variable {ρ : Type}
theorem lp_all {α : Type} {step : Int → Option (Int ⊕ (Unit ⊕ α))} (n : Nat) (bad : Nat → Bool) (x : α) (h1 : ∀ k : Nat, k < n → step (k : Int) = some (if bad k then .inr (.inr x) else .inl ((k + 1 : Nat) : Int))) (h2 : step (n : Int) = some (.inr (.inl ()))) :
    lp step 0 = some (if (List.range n).any bad then .inr x else .inl ()) := by
  obtain ⟨r, e, q⟩ := lp_search (step := step) n (fun r => r = if (List.range n).any bad then .inr x else .inl ()) (fun k => ∀ i, i < k → bad i = false) (by intro i h; omega)
    (fun k hk hj => by
      rw [h1 k hk]
      by_cases hb : bad k = true
      · right
        rw [if_pos hb]
        refine ⟨_, rfl, ?_⟩
        rw [if_pos]
        exact List.any_eq_true.2 ⟨k, List.mem_range.2 hk, hb⟩
      · left
        rw [if_neg hb]
        refine ⟨rfl, fun i hi => ?_⟩
        by_cases e : i = k
        · subst e; exact Bool.eq_false_iff.2 hb
        · exact hj i (by omega))
    (fun hj => by
      refine ⟨_, h2, ?_⟩
      rw [if_neg]
      intro h
      obtain ⟨i, hi, hb⟩ := List.any_eq_true.1 h
      rw [hj i (List.mem_range.1 hi)] at hb
      exact Bool.noConfusion hb)
  rw [e, q]
end
def vpose (p : Pose) : Prop := 0 ≤ p.fTurn ∧ p.fTurn ≤ 3 ∧ -1000000 ≤ p.fX ∧ p.fX ≤ 1000000 ∧ -1000000 ≤ p.fY ∧ p.fY ≤ 1000000
instance (p : Pose) : Decidable (vpose p) := by unfold vpose; infer_instance
theorem inRange_p (x : Int) : impl_inRange x = some (decide (-1000000 ≤ x ∧ x ≤ 1000000)) := by
  unfold impl_inRange
  by_cases h : -1000000 ≤ x <;> simp [h]
theorem spec_vpose (p : Pose) : spec_IsValidPose p = some (decide (vpose p)) := by
  unfold spec_IsValidPose spec_l01In vpose
  by_cases h1 : 0 ≤ p.fTurn <;> by_cases h2 : p.fTurn ≤ 3 <;> by_cases h3 : -1000000 ≤ p.fX <;> by_cases h4 : p.fX ≤ 1000000 <;> by_cases h5 : -1000000 ≤ p.fY <;> simp [h1, h2, h3, h4, h5]
theorem impl_vpose (p : Pose) : impl_IsValidPose p = some (decide (vpose p)) := by
  unfold impl_IsValidPose vpose
  simp only [inRange_p]
  by_cases h1 : 0 ≤ p.fTurn <;> by_cases h2 : p.fTurn ≤ 3 <;> by_cases h3 : -1000000 ≤ p.fX <;> by_cases h4 : p.fX ≤ 1000000 <;> by_cases h5 : -1000000 ≤ p.fY <;> simp [h1, h2, h3, h4, h5]
def badB (s : ByteArray) (k : Nat) : Bool :=
  !(decide ((97 : Int) ≤ ((s.data.toList.getD k 0).toNat : Int) ∧ ((s.data.toList.getD k 0).toNat : Int) ≤ 122)) && (decide (k = 0) || !(decide ((48 : Int) ≤ ((s.data.toList.getD k 0).toNat : Int) ∧ ((s.data.toList.getD k 0).toNat : Int) ≤ 57)))
def nameB (s : ByteArray) : Bool := decide (1 ≤ s.size ∧ s.size ≤ 8) && !((List.range s.size).any (badB s))
theorem spec_nameB (s : ByteArray) (h : s.size ≤ 9223372036854775807) : spec_IsName s = some (nameB s) := by
  unfold spec_IsName
  rw [lp_all (step := spec_IsName_L1 s) s.size (badB s) false
    (fun k hk => by
      unfold spec_IsName_L1
      rw [if_pos (by omega), byteIdx s k hk, wi (by omega)]
      simp only [Option.bind_some]
      unfold badB
      generalize ((s.data.toList.getD k 0).toNat : Int) = b
      by_cases h1 : 97 ≤ b <;> by_cases h2 : b ≤ 122 <;> by_cases h3 : k = 0 <;> by_cases h4 : b < 48 <;> by_cases h5 : 57 < b <;> first | (exfalso; omega) | (have h6 : (48 ≤ b) = (¬ b < 48) := by simp) ; (have h7 : (b ≤ 57) = (¬ 57 < b) := by simp) ; simp only [h6, h7] ; simp [h1, h2, h3, h4, h5])
    (by unfold spec_IsName_L1; rw [if_neg (by omega)])]
  unfold nameB spec_l01In
  by_cases hb : (List.range s.size).any (badB s) = true
  · simp [hb]
  · simp only [Bool.not_eq_true] at hb
    simp only [hb]
    by_cases h1 : (1 : Int) ≤ s.size
    · have : 1 ≤ s.size := by omega
      by_cases h2 : s.size ≤ 8 <;> simp [h1, h2, this] <;> omega
    · have : ¬ 1 ≤ s.size := by omega
      simp [h1, this]
theorem impl_nameB (s : ByteArray) (h : s.size ≤ 9223372036854775807) : impl_IsName s = some (nameB s) := by
  unfold impl_IsName
  rw [lp_all (step := impl_IsName_L1 s) s.size (badB s) false
    (fun k hk => by
      unfold impl_IsName_L1
      rw [if_pos (by omega), byteIdx s k hk, wi (by omega)]
      simp only [Option.bind_some]
      unfold badB
      generalize ((s.data.toList.getD k 0).toNat : Int) = b
      by_cases h1 : 97 ≤ b <;> by_cases h2 : b ≤ 122 <;> by_cases h3 : k = 0 <;> by_cases h4 : 48 ≤ b <;> by_cases h5 : b ≤ 57 <;> simp [h1, h2, h3, h4, h5] <;> omega)
    (by unfold impl_IsName_L1; rw [if_neg (by omega)])]
  unfold nameB
  by_cases hb : (List.range s.size).any (badB s) = true
  · by_cases h1 : (s.size : Int) < 1 <;> simp [hb, h1]
  · simp only [Bool.not_eq_true] at hb
    simp only [hb]
    by_cases h1 : (s.size : Int) < 1 <;> by_cases h2 : (8 : Int) < s.size <;> simp [h1, h2] <;> omega
/-- a name that begins with the byte c -/
def nameC (c : Nat) (s : ByteArray) : Bool := nameB s && decide ((s.data.toList.getD 0 0).toNat = c)
theorem nameC_ne {c : Nat} {s : ByteArray} (h : nameC c s = true) : s ≠ (⟨#[]⟩ : ByteArray) := by
  rintro rfl
  have h := (Bool.and_eq_true _ _ ▸ h : _ ∧ _).1
  unfold nameB at h
  simp only [Bool.and_eq_true, decide_eq_true_eq] at h
  exact absurd h.1.1 (by decide)
theorem nameB_pos {s : ByteArray} (h : nameB s = true) : 0 < s.size := by
  unfold nameB at h
  simp only [Bool.and_eq_true, decide_eq_true_eq] at h
  omega
theorem poseName_p (s : ByteArray) (h : s.size ≤ 9223372036854775807) : spec_IsPoseName s = some (nameC 112 s) ∧ impl_IsPoseName s = some (nameC 112 s) := by
  unfold spec_IsPoseName impl_IsPoseName nameC
  rw [spec_nameB s h, impl_nameB s h]
  by_cases hb : nameB s = true
  · have e := byteIdx s 0 (nameB_pos hb)
    rw [show ((0 : Nat) : Int) = 0 from rfl] at e
    simp only [Option.bind_some, hb, e, if_true, Bool.true_and]
    constructor <;> (congr 2; simp; omega)
  · simp [hb]
theorem landmarkName_p (s : ByteArray) (h : s.size ≤ 9223372036854775807) : spec_IsLandmarkName s = some (nameC 109 s) ∧ impl_IsLandmarkName s = some (nameC 109 s) := by
  unfold spec_IsLandmarkName impl_IsLandmarkName nameC
  rw [spec_nameB s h, impl_nameB s h]
  by_cases hb : nameB s = true
  · have e := byteIdx s 0 (nameB_pos hb)
    rw [show ((0 : Nat) : Int) = 0 from rfl] at e
    simp only [Option.bind_some, hb, e, if_true, Bool.true_and]
    constructor <;> (congr 2; simp; omega)
  · simp [hb]
def goodK (f : Factor) : Bool :=
  if f.fKind = 1 then decide (f.fFrom = (⟨#[]⟩ : ByteArray)) && nameC 112 f.fTo
  else if f.fKind = 2 ∨ f.fKind = 4 then nameC 112 f.fFrom && nameC 112 f.fTo && decide (f.fFrom ≠ f.fTo)
  else if f.fKind = 3 then nameC 112 f.fFrom && nameC 109 f.fTo && decide (f.fPose.fTurn = 0) else false
def goodF (f : Factor) : Bool := decide (0 ≤ f.fId ∧ f.fId ≤ 99999 ∧ vpose f.fPose ∧ 1 ≤ f.fWeight ∧ f.fWeight ≤ 9999) && goodK f

theorem validF_p (f : Factor) (h : bigF f) : spec_IsValidFactor f = some (goodF f) ∧ impl_IsValidFactor f = some (goodF f) := by
  obtain ⟨h1, h2⟩ := h
  unfold spec_IsValidFactor impl_IsValidFactor
  simp only [(poseName_p _ h1).1, (poseName_p _ h1).2, (poseName_p _ h2).1, (poseName_p _ h2).2, (landmarkName_p _ h2).1, (landmarkName_p _ h2).2, spec_vpose, impl_vpose, spec_l01In, Option.bind_some]
  have tail : ∀ b1 b2 b3 : Bool, ((if f.fKind = 1 then (if f.fFrom = (⟨#[]⟩ : ByteArray) then some (nameC 112 f.fTo) else some false) else ((if (f.fKind = 2) then some (decide (f.fKind = 2)) else some (decide (f.fKind = 4))) : Option Bool).bind (fun d9 => (if d9 = true then (if nameC 112 f.fFrom = true then (if nameC 112 f.fTo = true then some (decide (f.fFrom ≠ f.fTo)) else some false) else some false) else (if (f.fKind = 3) then (if nameC 112 f.fFrom = true then (if nameC 109 f.fTo = true then some (decide (f.fPose.fTurn = 0)) else some false) else some false) else some false)))) : Option Bool) = some (goodK f) := by
    intro _ _ _
    unfold goodK
    by_cases k1 : f.fKind = 1
    · rw [if_pos k1, if_pos k1]; by_cases e : f.fFrom = (⟨#[]⟩ : ByteArray) <;> simp [e]
    · rw [if_neg k1, if_neg k1]
      by_cases k2 : f.fKind = 2
      · simp only [k2, if_true, Option.bind_some, decide_true, true_or]
        cases nameC 112 f.fFrom <;> cases nameC 112 f.fTo <;> simp
      · by_cases k4 : f.fKind = 4
        · simp only [k4, if_true, Option.bind_some, decide_true, or_true]
          cases nameC 112 f.fFrom <;> cases nameC 112 f.fTo <;> simp
        · simp only [k2, k4, if_false, Option.bind_some, decide_false, or_self]
          by_cases k3 : f.fKind = 3
          · simp only [k3, if_true]; cases nameC 112 f.fFrom <;> cases nameC 109 f.fTo <;> simp
          · simp [k3]
  have t := tail true true true
  constructor
  · by_cases a : 0 ≤ f.fId ∧ f.fId ≤ 99999 ∧ vpose f.fPose ∧ 1 ≤ f.fWeight ∧ f.fWeight ≤ 9999
    · have e : goodF f = goodK f := by unfold goodF; rw [decide_eq_true a]; rfl
      rw [e, ← t]
      obtain ⟨a1, a2, a3, a4, a5⟩ := a
      simp [a1, a2, a3, a4, a5]
    · have e : goodF f = false := by unfold goodF; rw [decide_eq_false a]; rfl
      rw [e]
      by_cases a1 : 0 ≤ f.fId <;> by_cases a2 : f.fId ≤ 99999 <;> by_cases a3 : vpose f.fPose <;> by_cases a4 : 1 ≤ f.fWeight <;> by_cases a5 : f.fWeight ≤ 9999 <;> first | (exfalso; exact a ⟨a1, a2, a3, a4, a5⟩) | simp [a1, a2, a3, a4, a5]
  · by_cases a : 0 ≤ f.fId ∧ f.fId ≤ 99999 ∧ vpose f.fPose ∧ 1 ≤ f.fWeight ∧ f.fWeight ≤ 9999
    · have e : goodF f = goodK f := by unfold goodF; rw [decide_eq_true a]; rfl
      rw [e, ← t]
      obtain ⟨a1, a2, a3, a4, a5⟩ := a
      rw [if_neg (by omega), if_neg (by omega), decide_eq_true a3, if_pos rfl, if_neg (by omega)]
      simp only [Option.bind_some]
      rw [decide_eq_false (by omega)]
      simp
    · have e : goodF f = false := by unfold goodF; rw [decide_eq_false a]; rfl
      rw [e]
      by_cases a1 : f.fId < 0
      · simp [a1]
      by_cases a2 : 99999 < f.fId
      · simp [a1, a2]
      by_cases a3 : vpose f.fPose
      · by_cases a4 : f.fWeight < 1
        · simp [a1, a2, a3, a4]
        · by_cases a5 : 9999 < f.fWeight
          · simp [a1, a2, a3, a4, a5]
          · exfalso; exact a ⟨by omega, by omega, a3, by omega, by omega⟩
      · simp [a1, a2, a3]
end Go.Ev


/- Plain laws: lists of factors, indices of names. -/
namespace Go.Ev
set_option linter.all false
def badF (l : List Factor) (k : Nat) : Bool := match l[k]?, l[k - 1]? with
  | some y, some z => !(goodF y) || (decide (0 < k) && decide (y.fId ≤ z.fId))
  | _, _ => false
def isFL (l : List Factor) : Bool := decide (l.length ≤ 40) && !((List.range l.length).any (badF l)) && decide ((namesOf l).length < 10)
theorem badF_at (l : List Factor) (k : Nat) (hk : k < l.length) : badF l k = (!(goodF l[k]) || (decide (0 < k) && decide ((l[k]).fId ≤ (l[k - 1]'(by omega)).fId))) := by
  unfold badF
  rw [List.getElem?_eq_getElem hk, List.getElem?_eq_getElem (show k - 1 < l.length by omega)]
theorem isFL_step (l : List Factor) (k : Nat) (hk : k < l.length) (hl : l.length ≤ 4194304) (hv : ∀ f ∈ l, bigF f) (g : Option Bool) (hg : g = some (goodF l[k])) :
    ((g.bind fun r9 => (if r9 = true then (if 0 < (k : Int) then (idx l (IntKind.i64.wrap ((k : Int) - 1))).bind fun y10 => some (decide ((l[k]).fId ≤ y10.fId)) else some false) else some true) : Option Bool).bind (fun d12 => (if d12 = true then some (.inr (.inr false)) else some (.inl (IntKind.i64.wrap ((k : Int) + 1)))) : Bool → Option (Int ⊕ (Unit ⊕ Bool)))) = some (if badF l k then .inr (.inr false) else .inl ((k + 1 : Nat) : Int)) := by
  rw [hg, badF_at l k hk, wi (n := (k : Int) + 1) (by omega)]
  simp only [Option.bind_some]
  by_cases h1 : goodF l[k] = true
  · by_cases h2 : 0 < k
    · rw [wi (by omega), show (k : Int) - 1 = ((k - 1 : Nat) : Int) by omega, idx_lt (by omega)]
      have h2' : (0 : Int) < k := by omega
      by_cases h3 : (l[k]).fId ≤ (l[k - 1]'(by omega)).fId <;> simp [h1, h2, h3]
    · have h2' : ¬ (0 : Int) < k := by omega
      simp [h1, h2]
  · simp [h1]
theorem spec_isFL (l : List Factor) (hl : l.length ≤ 1048577) (hv : ∀ f ∈ l, bigF f) : spec_IsFactorList l = some (isFL l) := by
  unfold spec_IsFactorList
  rw [lp_all (step := spec_IsFactorList_L1 l) l.length (badF l) false
    (fun k hk => by
      unfold spec_IsFactorList_L1
      rw [if_pos (by omega), idx_lt hk]
      simp only [Option.bind_some]
      exact isFL_step l k hk (by omega) hv _ (validF_p _ (hv _ (List.getElem_mem hk))).1)
    (by unfold spec_IsFactorList_L1; rw [if_neg (by omega)])]
  unfold isFL
  rw [spec_NamesOf_p l hl]
  by_cases hb : (List.range l.length).any (badF l) = true
  · simp [hb]
  · simp only [Bool.not_eq_true] at hb
    simp only [hb]
    by_cases h1 : l.length ≤ 40
    · have : (l.length : Int) ≤ 40 := by omega
      simp [h1, this]; omega
    · have : ¬ (l.length : Int) ≤ 40 := by omega
      simp [h1, this]
theorem impl_isFL (l : List Factor) (hl : l.length ≤ 1048577) (hv : ∀ f ∈ l, bigF f) : impl_IsFactorList l = some (isFL l) := by
  unfold impl_IsFactorList
  rw [lp_all (step := impl_IsFactorList_L1 l) l.length (badF l) false
    (fun k hk => by
      unfold impl_IsFactorList_L1
      rw [if_pos (by omega), idx_lt hk]
      simp only [Option.bind_some]
      exact isFL_step l k hk (by omega) hv _ (validF_p _ (hv _ (List.getElem_mem hk))).2)
    (by unfold impl_IsFactorList_L1; rw [if_neg (by omega)])]
  unfold isFL
  rw [impl_NamesOf_p l hl]
  by_cases h1 : l.length ≤ 40
  · have h1' : ¬ (40 : Int) < l.length := by omega
    by_cases hb : (List.range l.length).any (badF l) = true
    · simp [hb, h1']
    · simp only [Bool.not_eq_true] at hb
      simp only [hb]
      simp [h1, h1']; omega
  · have : (40 : Int) < l.length := by omega
    simp [h1, this]
theorem isFL_facts {l : List Factor} (h : isFL l = true) : l.length ≤ 40 ∧ (namesOf l).length < 10 ∧ (∀ k (hk : k < l.length), goodF l[k] = true) ∧ ∀ k (hk : k + 1 < l.length), (l[k]).fId < (l[k + 1]).fId := by
  unfold isFL at h
  simp only [Bool.and_eq_true, decide_eq_true_eq, Bool.not_eq_true', List.any_eq_false, List.mem_range, Bool.not_eq_true] at h
  obtain ⟨⟨h1, h2⟩, h3⟩ := h
  have hb : ∀ k (hk : k < l.length), badF l k = false := fun k hk => by simpa using h2 k hk
  refine ⟨h1, h3, fun k hk => ?_, fun k hk => ?_⟩
  · have := hb k hk
    rw [badF_at l k hk] at this
    simp only [Bool.or_eq_false_iff, Bool.not_eq_false'] at this
    exact this.1
  · have := hb (k + 1) hk
    rw [badF_at l (k + 1) hk] at this
    simp only [Bool.or_eq_false_iff, Bool.and_eq_false_iff, decide_eq_false_iff_not] at this
    have := this.2.resolve_left (by omega)
    have e : l[k + 1 - 1]'(by omega) = l[k] := rfl
    rw [e] at this; omega
/-- where a name stands first -/
def nIdx (ns : List ByteArray) (s : ByteArray) : Int := match ns.findIdx? (fun x => decide (x = s)) with | some k => k | none => -1
theorem nIdx_p (ns : List ByteArray) (s : ByteArray) (h : ns.length ≤ 4194304) : impl_nameIndex ns s = some (nIdx ns s) := by
  unfold impl_nameIndex
  obtain ⟨r, e, q⟩ := lp_search (step := impl_nameIndex_L1 ns s) ns.length (fun r => match r with | .inl _ => nIdx ns s = -1 | .inr i => nIdx ns s = i) (fun k => ∀ i (hi : i < ns.length), i < k → ns[i] ≠ s) (by intro i _ h; omega)
    (fun k hk hj => by
      unfold impl_nameIndex_L1
      rw [if_pos (by omega), idx_lt hk]
      simp only [Option.bind_some]
      by_cases hy : ns[k] = s
      · right
        refine ⟨_, by rw [if_pos hy], ?_⟩
        simp only
        unfold nIdx
        rw [List.findIdx?_eq_some_iff_getElem.2 ⟨hk, by simpa using hy, fun j hjk => by simpa using hj j (by omega) hjk⟩]
      · left
        rw [if_neg hy, wi (by omega)]
        refine ⟨rfl, fun i hi h => ?_⟩
        by_cases e : i = k
        · subst e; exact hy
        · exact hj i hi (by omega))
    (fun hj => by
      unfold impl_nameIndex_L1
      rw [if_neg (by omega)]
      refine ⟨_, rfl, ?_⟩
      simp only
      unfold nIdx
      rw [List.findIdx?_eq_none_iff.2 (fun x hx => by
        obtain ⟨i, hi, e⟩ := List.getElem_of_mem hx
        simpa [← e] using hj i hi hi)])
  rw [e]
  cases r with
  | inl u => simp only [Option.bind_some]; simp only at q; rw [q]
  | inr i => simp only [Option.bind_some]; simp only at q; rw [q]
theorem l17Index_same : spec_l17Index = impl_nameIndex := rfl
theorem nIdx_bound (ns : List ByteArray) (s : ByteArray) : -1 ≤ nIdx ns s ∧ nIdx ns s < ns.length := by
  unfold nIdx
  split
  · rename_i k hk
    obtain ⟨h, _⟩ := List.findIdx?_eq_some_iff_getElem.1 hk
    omega
  · omega
theorem nIdx_mem {ns : List ByteArray} {s : ByteArray} (h : s ∈ ns) : 0 ≤ nIdx ns s := by
  unfold nIdx
  split
  · omega
  · rename_i hk
    have := List.findIdx?_eq_none_iff.1 hk s h
    simp at this
-- names of a list: those of its factors
theorem addN_mem {ns : List ByteArray} {s t : ByteArray} (h : t ∈ ns) : t ∈ addN ns s := by unfold addN; split <;> simp [h]
theorem addN_self {ns : List ByteArray} {s : ByteArray} (h : s ≠ (⟨#[]⟩ : ByteArray)) : s ∈ addN ns s := by
  unfold addN
  split
  · simp
  · rename_i h'
    by_cases hm : hasS ns s = true
    · exact hasS_iff.1 hm
    · exact absurd ⟨h, by simpa using hm⟩ h'
theorem names_mono (l : List Factor) (ns : List ByteArray) (s : ByteArray) (h : s ∈ ns) : s ∈ l.foldl (fun ns f => addN (addN ns f.fFrom) f.fTo) ns := by
  induction l generalizing ns with
  | nil => exact h
  | cons f r ih => exact ih _ (addN_mem (addN_mem h))
theorem names_has (l : List Factor) (ns : List ByteArray) (f : Factor) (hf : f ∈ l) :
    (f.fFrom ≠ (⟨#[]⟩ : ByteArray) → f.fFrom ∈ l.foldl (fun ns f => addN (addN ns f.fFrom) f.fTo) ns) ∧ (f.fTo ≠ (⟨#[]⟩ : ByteArray) → f.fTo ∈ l.foldl (fun ns f => addN (addN ns f.fFrom) f.fTo) ns) := by
  induction l generalizing ns with
  | nil => cases hf
  | cons g r ih =>
    rcases List.mem_cons.1 hf with rfl | hf
    · exact ⟨fun h => names_mono r _ _ (addN_mem (addN_self h)), fun h => names_mono r _ _ (addN_self h)⟩
    · exact ih _ hf
theorem names_from {l : List Factor} {f : Factor} (hf : f ∈ l) (h : f.fFrom ≠ (⟨#[]⟩ : ByteArray)) : f.fFrom ∈ namesOf l := (names_has l [] f hf).1 h
theorem names_to {l : List Factor} {f : Factor} (hf : f ∈ l) (h : f.fTo ≠ (⟨#[]⟩ : ByteArray)) : f.fTo ∈ namesOf l := (names_has l [] f hf).2 h
theorem goodF_facts {f : Factor} (h : goodF f = true) : 0 ≤ f.fId ∧ f.fId ≤ 99999 ∧ vpose f.fPose ∧ 1 ≤ f.fWeight ∧ f.fWeight ≤ 9999 ∧ f.fTo ≠ (⟨#[]⟩ : ByteArray) ∧ (f.fKind = 1 ∨ f.fKind = 2 ∨ f.fKind = 3 ∨ f.fKind = 4) ∧ (f.fKind = 1 → f.fFrom = (⟨#[]⟩ : ByteArray)) ∧ (f.fKind ≠ 1 → f.fFrom ≠ (⟨#[]⟩ : ByteArray)) ∧ (f.fKind = 2 ∨ f.fKind = 4 → f.fFrom ≠ f.fTo) := by
  unfold goodF at h
  simp only [Bool.and_eq_true, decide_eq_true_eq] at h
  obtain ⟨⟨h1, h2, h3, h4, h5⟩, h6⟩ := h
  refine ⟨h1, h2, h3, h4, h5, ?_⟩
  unfold goodK at h6
  by_cases k1 : f.fKind = 1
  · rw [if_pos k1] at h6
    simp only [Bool.and_eq_true, decide_eq_true_eq] at h6
    exact ⟨nameC_ne h6.2, .inl k1, fun _ => h6.1, fun h => absurd k1 h, fun h => by omega⟩
  · rw [if_neg k1] at h6
    by_cases k2 : f.fKind = 2 ∨ f.fKind = 4
    · rw [if_pos k2] at h6
      simp only [Bool.and_eq_true, decide_eq_true_eq] at h6
      exact ⟨nameC_ne h6.1.2, by omega, fun h => absurd h k1, fun _ => nameC_ne h6.1.1, fun _ => h6.2⟩
    · rw [if_neg k2] at h6
      by_cases k3 : f.fKind = 3
      · rw [if_pos k3] at h6
        simp only [Bool.and_eq_true, decide_eq_true_eq] at h6
        exact ⟨nameC_ne h6.1.2, by omega, fun h => absurd h k1, fun _ => nameC_ne h6.1.1, fun h => absurd h k2⟩
      · rw [if_neg k3] at h6; cases h6
theorem bigF_of {l : List Factor} (h : okL okFactor l) : l.length ≤ 9223372036854775807 ∧ ∀ f ∈ l, bigF f := by
  refine ⟨by have := h.1; simp only [maxLen] at this; omega, fun f hf => ?_⟩
  have := h.2 f hf
  have h1 := this.2.2.1
  have h2 := this.2.2.2.1
  simp only [okS, maxLen] at h1 h2
  exact ⟨by omega, by omega⟩
theorem NodeOf_p (l : List Factor) (s : ByteArray) (hl : l.length ≤ 1048577) (hf : ∀ f ∈ l, bigF f) : spec_NodeOf l s = some (if isFL l then nIdx (namesOf l) s + 1 else 0) ∧ impl_NodeOf l s = some (if isFL l then nIdx (namesOf l) s + 1 else 0) := by
  unfold spec_NodeOf impl_NodeOf
  rw [spec_isFL l hl hf, impl_isFL l hl hf]
  by_cases h : isFL l = true
  · obtain ⟨h1, h2, _⟩ := isFL_facts h
    have hb := nIdx_bound (namesOf l) s
    simp only [Option.bind_some, h, if_true, spec_NamesOf_p l hl, impl_NamesOf_p l hl, l17Index_same, nIdx_p (namesOf l) s (by omega)]
    rw [wi (by omega)]
    exact ⟨rfl, rfl⟩
  · simp [h]
end Go.Ev


/- Plain laws: path lengths; factors removed and added. -/
namespace Go.Ev
set_option linter.all false
def absI (x : Int) : Int := if x < 0 then 0 - x else x
def plen (t : Int) (f : Factor) : Int := if f.fKind = 2 then t + (absI f.fPose.fX + absI f.fPose.fY) else t
-- factors that are removed
theorem mono_ids {l : List Factor} (h : ∀ k (hk : k + 1 < l.length), (l[k]).fId < (l[k + 1]).fId) : ∀ i j (hi : i < l.length) (hj : j < l.length), i < j → (l[i]).fId < (l[j]).fId := by
  intro i j hi hj hij
  induction j with
  | zero => omega
  | succ j ih =>
    by_cases e : i = j
    · subst e; exact h i hj
    · have := ih (by omega) (by omega)
      have := h j hj
      omega
def fIdx (l : List Factor) (n : Int) : Option Nat := l.findIdx? (fun f => decide (f.fId = n))
-- factors that are added
/-- how many factors lie below the id -/
def below (l : List Factor) (n : Int) : Nat := (l.takeWhile (fun f => decide (f.fId < n))).length
theorem below_le (l : List Factor) (n : Int) : below l n ≤ l.length := by
  unfold below
  exact (List.takeWhile_sublist _).length_le
theorem below_lt (l : List Factor) (n : Int) : ∀ i (hi : i < l.length), i < below l n → (l[i]).fId < n := by
  intro i hi h
  unfold below at h
  have e : (l.takeWhile (fun f => decide (f.fId < n)))[i] = l[i] := by
    obtain ⟨t, ht⟩ := List.takeWhile_prefix (l := l) (fun f => decide (f.fId < n))
    have h1 : l[i]? = (l.takeWhile (fun f => decide (f.fId < n)))[i]? := by
      conv => lhs; rw [← ht]
      rw [List.getElem?_append_left h]
    rw [List.getElem?_eq_getElem h, List.getElem?_eq_getElem hi] at h1
    exact (Option.some.inj h1).symm
  have := List.all_takeWhile (l := l) (p := fun f => decide (f.fId < n))
  rw [List.all_eq_true] at this
  have := this _ (List.getElem_mem h)
  rw [e] at this
  simpa using this
theorem below_not (l : List Factor) (n : Int) (h : below l n < l.length) : ¬ (l[below l n]).fId < n := by
  have : ∀ (l : List Factor) (h : (l.takeWhile (fun f => decide (f.fId < n))).length < l.length), ¬ (l[(l.takeWhile (fun f => decide (f.fId < n))).length]).fId < n := by
    intro l
    induction l with
    | nil => intro h; simp at h
    | cons f r ih =>
      intro h
      by_cases hf : f.fId < n
      · have e : (f :: r).takeWhile (fun f => decide (f.fId < n)) = f :: r.takeWhile (fun f => decide (f.fId < n)) := by rw [List.takeWhile_cons_of_pos (by simpa using hf)]
        simp only [e, List.length_cons, List.getElem_cons_succ] at h ⊢
        exact ih (by omega)
      · have e : (f :: r).takeWhile (fun f => decide (f.fId < n)) = [] := by rw [List.takeWhile_cons_of_neg (by simpa using hf)]
        simp only [e, List.length_nil, List.getElem_cons_zero]
        exact hf
  exact this l h
theorem szF_some (f : Factor) (r : Int) : ∃ r2, laws_szFactor f r = some r2 := by
  unfold laws_szFactor
  simp only [letO_bind]
  repeat' split
  all_goals exact ⟨_, rfl⟩
end Go.Ev


/- Plain laws: headings. -/
namespace Go.Ev
set_option linter.all false
section
variable {ρ : Type}
theorem lp_find {α β : Type} {step : Int → Option (Int ⊕ (Unit ⊕ ρ))} (l : List α) (act : α → Option β) (F : β → ρ) (h1 : ∀ (k : Nat) (hk : k < l.length), step (k : Int) = some (match act l[k] with | none => .inl ((k + 1 : Nat) : Int) | some x => .inr (.inr (F x))))
    (h2 : step (l.length : Int) = some (.inr (.inl ()))) : lp step 0 = some (match l.findSome? act with | none => .inl () | some x => .inr (F x)) := by
  have main : ∀ n k, n + k = l.length → lp step (k : Int) = some (match (l.drop k).findSome? act with | none => .inl () | some x => .inr (F x)) := by
    intro n
    induction n with
    | zero =>
      intro k hk
      have : k = l.length := by omega
      subst this
      rw [List.drop_length, List.findSome?_nil]
      exact lp_done h2
    | succ n ih =>
      intro k hk
      have hlt : k < l.length := by omega
      rw [List.drop_eq_getElem_cons hlt, List.findSome?_cons]
      have h := h1 k hlt
      cases ha : act l[k] with
      | none => rw [ha] at h; rw [lp_more h]; exact ih (k + 1) (by omega)
      | some x => rw [ha] at h; exact lp_done h
  have := main l.length 0 (by omega)
  simpa using this
end
theorem idx_in {α : Type} {l : List α} {i : Int} (h0 : 0 ≤ i) (h1 : i < l.length) : idx l i = some (l[i.toNat]'(by omega)) := by
  have := idx_lt (l := l) (k := i.toNat) (by omega)
  rwa [show ((i.toNat : Nat) : Int) = i by omega] at this
def atI {α : Type} (d : α) (l : List α) (i : Int) : α := l.getD i.toNat d
theorem idx_at {α : Type} {l : List α} {i : Int} (d : α) (h0 : 0 ≤ i) (h1 : i < l.length) : idx l i = some (atI d l i) := by
  rw [idx_in h0 h1, atI, List.getD_eq_getElem?_getD, List.getElem?_eq_getElem (by omega)]; rfl
def hAct (ns : List ByteArray) (a : List Int) (y : Factor) : Option (Int × Int) :=
  if y.fKind = 1 then (if atI 0 a (nIdx ns y.fTo) < 0 then some (nIdx ns y.fTo, y.fPose.fTurn) else none)
  else if y.fKind = 2 then
    (if 0 ≤ atI 0 a (nIdx ns y.fFrom) ∧ atI 0 a (nIdx ns y.fTo) < 0 then some (nIdx ns y.fTo, (atI 0 a (nIdx ns y.fFrom) + y.fPose.fTurn).tmod 4)
     else if atI 0 a (nIdx ns y.fFrom) < 0 ∧ 0 ≤ atI 0 a (nIdx ns y.fTo) then some (nIdx ns y.fFrom, (atI 0 a (nIdx ns y.fTo) + 4 - y.fPose.fTurn).tmod 4) else none)
  else none
/-- what the steps rest on -/
structure HOk (l : List Factor) (ns : List ByteArray) (a : List Int) : Prop where
  len : a.length = ns.length
  small : ns.length ≤ 4194304
  lsmall : l.length ≤ 4194304
  good : ∀ f ∈ l, goodF f = true
  to : ∀ f ∈ l, f.fTo ∈ ns
  fr : ∀ f ∈ l, f.fKind ≠ 1 → f.fFrom ∈ ns
  rng : ∀ x ∈ a, -1 ≤ x ∧ x ≤ 3
theorem atI_mem {α : Type} {d : α} {l : List α} {i : Int} (h0 : 0 ≤ i) (h1 : i < l.length) : atI d l i ∈ l := by
  unfold atI
  rw [List.getD_eq_getElem?_getD, List.getElem?_eq_getElem (by omega)]
  exact List.getElem_mem _
theorem spec_step (l : List Factor) (ns : List ByteArray) (a : List Int) (H : HOk l ns a) : spec_l17Step l ns a = some ((l.findSome? (hAct ns a)).getD (-1, 0)) := by
  unfold spec_l17Step
  have e := lp_find (step := spec_l17Step_L1 l ns a) l (hAct ns a) (fun x => x)
    (fun k hk => by
      have hm : l[k] ∈ l := List.getElem_mem hk
      have ht := nIdx_mem (H.to _ hm)
      have hb := nIdx_bound ns (l[k]).fTo
      have hfb := nIdx_bound ns (l[k]).fFrom
      have hfr := H.fr _ hm
      have hlen := H.len
      have hs := H.small
      have hv := (goodF_facts (H.good _ hm)).2.2.1
      have hls := H.lsmall
      unfold spec_l17Step_L1 hAct
      rw [if_pos (by omega), idx_lt hk, wi (n := (k : Int) + 1) (by omega)]
      generalize l[k] = y at *
      simp only [Option.bind_some, l17Index_same, nIdx_p ns _ hs]
      rw [idx_at (i := nIdx ns y.fTo) 0 ht (by omega)]
      have r1 := H.rng _ (atI_mem (d := 0) ht (by omega : nIdx ns y.fTo < a.length))
      obtain ⟨v1, v2, _⟩ := hv
      by_cases k1 : y.fKind = 1
      · simp only [k1, if_true, Option.bind_some]
        by_cases h1 : atI 0 a (nIdx ns y.fTo) < 0 <;> simp [h1]
      · simp only [k1, if_false, Option.bind_some, Bool.false_eq_true]
        by_cases k2 : y.fKind = 2
        · have hf := nIdx_mem (hfr k1)
          have r2 := H.rng _ (atI_mem (d := 0) hf (by omega : nIdx ns y.fFrom < a.length))
          rw [idx_at (i := nIdx ns y.fFrom) 0 hf (by omega)]
          simp only [k2, ne_eq, not_true, if_false, if_true, Option.bind_some, letO_bind]
          generalize atI 0 a (nIdx ns y.fTo) = x at *
          generalize atI 0 a (nIdx ns y.fFrom) = z at *
          rw [wi (n := z + _) (by omega), wi (n := x + 4) (by omega), wi (n := x + 4 - _) (by omega)]
          by_cases h1 : 0 ≤ z <;> by_cases h2 : x < 0
          · simp [h1, h2]
          · have h3 : ¬ z < 0 := by omega
            simp [h1, h2, h3]
          · have h3 : z < 0 := by omega
            have h4 : ¬ 0 ≤ x := by omega
            simp [h1, h2, h3, h4]
          · have h3 : z < 0 := by omega
            have h4 : 0 ≤ x := by omega
            simp [h1, h2, h3, h4]
        · simp [k2])
    (by unfold spec_l17Step_L1; rw [if_neg (by omega)])
  rw [e]
  cases l.findSome? (hAct ns a) <;> rfl
theorem impl_step (l : List Factor) (ns : List ByteArray) (a : List Int) (H : HOk l ns a) : impl_headingStep l ns a = some (match l.findSome? (hAct ns a) with | none => (false, a) | some x => (true, setI a x.1 x.2)) := by
  unfold impl_headingStep impl_headingStep_raw
  have e := lp_find (step := impl_headingStep_L1 l ns a) l (hAct ns a) (fun x => (true, setI a x.1 x.2))
    (fun k hk => by
      have hm : l[k] ∈ l := List.getElem_mem hk
      have ht := nIdx_mem (H.to _ hm)
      have hb := nIdx_bound ns (l[k]).fTo
      have hfb := nIdx_bound ns (l[k]).fFrom
      have hfr := H.fr _ hm
      have hlen := H.len
      have hs := H.small
      have hv := (goodF_facts (H.good _ hm)).2.2.1
      have hls := H.lsmall
      unfold impl_headingStep_L1 hAct
      rw [if_pos (by omega), idx_lt hk, wi (n := (k : Int) + 1) (by omega)]
      generalize l[k] = y at *
      simp only [Option.bind_some, nIdx_p ns _ hs]
      rw [idx_at (i := nIdx ns y.fTo) 0 ht (by omega)]
      have r1 := H.rng _ (atI_mem (d := 0) ht (by omega : nIdx ns y.fTo < a.length))
      obtain ⟨v1, v2, _⟩ := hv
      by_cases k1 : y.fKind = 1
      · simp only [k1, if_true, Option.bind_some]
        by_cases h1 : atI 0 a (nIdx ns y.fTo) < 0 <;> simp [h1, letO]
      · simp only [k1, if_false, Option.bind_some, Bool.false_eq_true]
        by_cases k2 : y.fKind = 2
        · have hf := nIdx_mem (hfr k1)
          have r2 := H.rng _ (atI_mem (d := 0) hf (by omega : nIdx ns y.fFrom < a.length))
          rw [idx_at (i := nIdx ns y.fFrom) 0 hf (by omega)]
          simp only [k2, ne_eq, not_true, if_false, if_true, Option.bind_some, letO_bind]
          generalize atI 0 a (nIdx ns y.fTo) = x at *
          generalize atI 0 a (nIdx ns y.fFrom) = z at *
          rw [wi (n := z + _) (by omega), wi (n := x + 4) (by omega), wi (n := x + 4 - _) (by omega)]
          by_cases h1 : 0 ≤ z <;> by_cases h2 : x < 0
          · simp [h1, h2]
          · have h3 : ¬ z < 0 := by omega
            simp [h1, h2, h3]
          · have h3 : z < 0 := by omega
            have h4 : ¬ 0 ≤ x := by omega
            simp [h1, h2, h3, h4]
          · have h3 : z < 0 := by omega
            have h4 : 0 ≤ x := by omega
            simp [h1, h2, h3, h4]
        · simp [k2])
    (by unfold impl_headingStep_L1; rw [if_neg (by omega)])
  rw [e]
  cases l.findSome? (hAct ns a) with
  | none => simp only [Option.bind_some]; rw [chk_pos trivial]; rfl
  | some x => simp only [Option.bind_some]; rw [chk_pos setI_len]; rfl
/-- what an action of a step is -/
theorem hAct_ok {l : List Factor} {ns : List ByteArray} {a : List Int} (H : HOk l ns a) {x : Int × Int} (h : l.findSome? (hAct ns a) = some x) : 0 ≤ x.1 ∧ x.1 < a.length ∧ atI 0 a x.1 < 0 ∧ 0 ≤ x.2 ∧ x.2 ≤ 3 := by
  obtain ⟨y, hm, hy⟩ := List.exists_of_findSome?_eq_some h
  have ht := nIdx_mem (H.to _ hm)
  have hb := nIdx_bound ns y.fTo
  have hfb := nIdx_bound ns y.fFrom
  have hlen := H.len
  obtain ⟨v1, v2, _⟩ := (goodF_facts (H.good _ hm)).2.2.1
  have r1 := H.rng _ (atI_mem (d := 0) ht (by omega : nIdx ns y.fTo < a.length))
  unfold hAct at hy
  by_cases k1 : y.fKind = 1
  · rw [if_pos k1] at hy
    split at hy
    · obtain rfl := Option.some.inj hy
      refine ⟨ht, by simp only; omega, by assumption, v1, v2⟩
    · cases hy
  · rw [if_neg k1] at hy
    have hf := nIdx_mem (H.fr _ hm k1)
    have r2 := H.rng _ (atI_mem (d := 0) hf (by omega : nIdx ns y.fFrom < a.length))
    split at hy
    · split at hy
      · rename_i h1
        obtain rfl := Option.some.inj hy
        have := Int.tmod_nonneg 4 (show 0 ≤ atI 0 a (nIdx ns y.fFrom) + y.fPose.fTurn by omega)
        have := Int.tmod_lt_of_pos (atI 0 a (nIdx ns y.fFrom) + y.fPose.fTurn) (show (0 : Int) < 4 by omega)
        exact ⟨ht, by simp only; omega, h1.2, by simp only; omega, by simp only; omega⟩
      · split at hy
        · rename_i h1
          obtain rfl := Option.some.inj hy
          have := Int.tmod_nonneg 4 (show 0 ≤ atI 0 a (nIdx ns y.fTo) + 4 - y.fPose.fTurn by omega)
          have := Int.tmod_lt_of_pos (atI 0 a (nIdx ns y.fTo) + 4 - y.fPose.fTurn) (show (0 : Int) < 4 by omega)
          exact ⟨hf, by simp only; omega, h1.1, by simp only; omega, by simp only; omega⟩
        · cases hy
    · cases hy
def negs (a : List Int) : Nat := a.countP (fun x => decide (x < 0))
theorem negs_set (a : List Int) (i : Int) (x : Int) (h0 : 0 ≤ i) (h1 : i < a.length) (h2 : atI 0 a i < 0) (h3 : 0 ≤ x) : negs (setI a i x) < negs a := by
  obtain ⟨k, rfl⟩ := Int.eq_ofNat_of_zero_le h0
  rw [show setI a (k : Int) x = a.set k x from setI_nat a k x]
  have hk : k < a.length := by omega
  unfold negs
  rw [List.countP_set hk]
  have h2 : a[k] < 0 := by
    unfold atI at h2
    rw [List.getD_eq_getElem?_getD, show ((k : Int)).toNat = k by omega, List.getElem?_eq_getElem hk] at h2
    exact h2
  have hp : 0 < List.countP (fun x => decide (x < 0)) a := List.countP_pos_iff.2 ⟨a[k], List.getElem_mem hk, by simpa using h2⟩
  simp [h2, show ¬ x < 0 by omega]; omega
theorem HOk.set {l : List Factor} {ns : List ByteArray} {a : List Int} (H : HOk l ns a) (i x : Int) (h : 0 ≤ x ∧ x ≤ 3) : HOk l ns (setI a i x) :=
  ⟨by rw [setI_len]; exact H.len, H.small, H.lsmall, H.good, H.to, H.fr, fun z hz => by
      unfold setI at hz
      rcases List.mem_or_eq_of_mem_set hz with h1 | h1
      · exact H.rng z h1
      · subst h1; exact ⟨by omega, h.2⟩⟩
theorem head_loops (l : List Factor) (ns : List ByteArray) (a : List Int) (H : HOk l ns a) : ∃ v, lp (spec_HeadingsOf_L2 l ns) a = some v ∧ lp (impl_HeadingsOf_L2 l ns) a = some v ∧ HOk l ns v := by
  have one : ∀ a, HOk l ns a → spec_HeadingsOf_L2 l ns a = some (match l.findSome? (hAct ns a) with | none => .inr a | some x => .inl (setI a x.1 x.2)) ∧ impl_HeadingsOf_L2 l ns a = some (match l.findSome? (hAct ns a) with | none => .inr a | some x => .inl (setI a x.1 x.2)) := by
    intro a H
    unfold spec_HeadingsOf_L2 impl_HeadingsOf_L2
    rw [spec_step l ns a H, impl_step l ns a H]
    cases hx : l.findSome? (hAct ns a) with
    | none => exact ⟨by simp, by simp⟩
    | some x =>
      obtain ⟨h0, h1, _⟩ := hAct_ok H hx
      simp only [Option.bind_some, Option.getD_some, if_true, letO_bind]
      rw [if_neg (by omega), idx_at 0 h0 h1]
      exact ⟨rfl, trivial⟩
  have e := lp_congr (step := spec_HeadingsOf_L2 l ns) (step' := impl_HeadingsOf_L2 l ns) (HOk l ns) (fun a H => by
    refine ⟨by rw [(one a H).1, (one a H).2], fun a' h => ?_⟩
    rw [(one a H).1] at h
    cases hx : l.findSome? (hAct ns a) with
    | none => rw [hx] at h; cases h
    | some x =>
      rw [hx] at h
      have h := Sum.inl.inj (Option.some.inj h)
      subst h
      have := hAct_ok H hx
      exact H.set _ _ ⟨this.2.2.2.1, this.2.2.2.2⟩) a H
  obtain ⟨v, hv, q⟩ := lp_ind (step := impl_HeadingsOf_L2 l ns) (HOk l ns) negs (HOk l ns)
    (by
      intro a H
      cases hx : l.findSome? (hAct ns a) with
      | none => left; refine ⟨a, ?_, H⟩; rw [(one a H).2, hx]
      | some x =>
        right
        have k := hAct_ok H hx
        exact ⟨setI a x.1 x.2, by rw [(one a H).2, hx], H.set _ _ ⟨k.2.2.2.1, k.2.2.2.2⟩, negs_set a _ _ k.1 k.2.1 k.2.2.1 k.2.2.2.1⟩) a H
  exact ⟨v, e.trans hv, hv, q⟩
theorem fill_neg (ns : List ByteArray) (h : ns.length ≤ 4194304) : lp (spec_HeadingsOf_L1 ns) (0, ([] : List Int)) = some (List.replicate ns.length (-1)) := by
  have e := lp_foldl (step := spec_HeadingsOf_L1 ns) ns (fun k (t : List Int) => ((k : Int), t)) (fun t _ => t ++ [-1]) (fun t => t) (fun k t => t = List.replicate k (-1))
    (fun k t hk hi => by
      subst hi
      refine ⟨?_, by rw [List.replicate_succ']⟩
      unfold spec_HeadingsOf_L1
      simp only [List.length_replicate]
      rw [if_pos (by omega), chk_pos (by omega), wi (by omega)]
      rfl)
    (fun t hi => by unfold spec_HeadingsOf_L1; simp only []; rw [if_neg (by omega)]) [] rfl
  rw [show ((0 : Nat) : Int) = 0 from rfl] at e
  rw [e.1, e.2]
theorem HOk_of {l : List Factor} (h : isFL l = true) : HOk l (namesOf l) (List.replicate (namesOf l).length (-1)) := by
  obtain ⟨h1, h2, h3, h4⟩ := isFL_facts h
  have g : ∀ f ∈ l, goodF f = true := fun f hf => by
    obtain ⟨i, hi, e⟩ := List.getElem_of_mem hf
    rw [← e]; exact h3 i hi
  refine ⟨by simp, by omega, by omega, g, fun f hf => ?_, fun f hf hk => ?_, fun x hx => ?_⟩
  · exact names_to hf (goodF_facts (g f hf)).2.2.2.2.2.1
  · exact names_from hf ((goodF_facts (g f hf)).2.2.2.2.2.2.2.2.1 hk)
  · have := List.eq_of_mem_replicate hx; omega
theorem HeadingsOf_p (l : List Factor) (hl : l.length ≤ 1048577) (hf : ∀ f ∈ l, bigF f) : ∃ v, spec_HeadingsOf l = some v ∧ impl_HeadingsOf l = some v ∧ v.length ≤ 10 ∧ (if isFL l then v.length = (namesOf l).length else v = []) := by
  unfold spec_HeadingsOf impl_HeadingsOf
  rw [spec_isFL l hl hf, impl_isFL l hl hf, spec_NamesOf_p l hl, impl_NamesOf_p l hl]
  by_cases h : isFL l = true
  · obtain ⟨h1, h2, _⟩ := isFL_facts h
    obtain ⟨v, e1, e2, H⟩ := head_loops l (namesOf l) _ (HOk_of h)
    refine ⟨v, ?_, ?_, by rw [H.len]; omega, by rw [if_pos h]; exact H.len⟩
    · simp only [Option.bind_some, h, if_true, fill_neg (namesOf l) (by omega), e1]
    · simp only [Option.bind_some, h, if_true]
      rw [show impl_HeadingsOf_L1 = spec_HeadingsOf_L1 from rfl, fill_neg (namesOf l) (by omega)]
      simp only [Option.bind_some, e2]
  · simp [h]
end Go.Ev


/- Plain laws: dead reckoning. -/
namespace Go.Ev
set_option linter.all false
theorem rot_loop (t x y : Int) (h0 : 0 ≤ t) (h : t ≤ 3) : ∃ r, lp (impl_RotateXY_L1 t) (x, y, 0) = some r := by
  obtain ⟨r, e, _⟩ := lp_ind (step := impl_RotateXY_L1 t) (fun s => 0 ≤ s.2.2 ∧ s.2.2 ≤ t) (fun s => (t - s.2.2).toNat) (fun _ => True)
    (by
      rintro ⟨a, b, c⟩ ⟨hc1, hc2⟩
      simp only at hc1 hc2
      by_cases hlt : c < t
      · right
        unfold impl_RotateXY_L1
        simp only []
        rw [if_pos hlt, wi (n := c + 1) (by omega)]
        exact ⟨_, rfl, ⟨by simp only; omega, by simp only; omega⟩, by simp only; omega⟩
      · left
        unfold impl_RotateXY_L1
        simp only []
        rw [if_neg hlt]
        exact ⟨_, rfl, trivial⟩) (x, y, 0) ⟨by simp, by simpa using h0⟩
  exact ⟨r, e⟩
theorem rot_p (x y t : Int) : ∃ r, spec_RotateXY x y t = some r ∧ impl_RotateXY x y t = some r := by
  unfold spec_RotateXY impl_RotateXY
  rw [spec_vpose, show spec_RotateXY_L1 = impl_RotateXY_L1 from rfl]
  simp only [inRange_p]
  by_cases h : vpose (Pose.mk t x y)
  · obtain ⟨h1, h2, h3, h4, h5, h6⟩ := h
    obtain ⟨r, e⟩ := rot_loop t x y h1 h2
    simp only at h1 h2 h3 h4 h5 h6
    have a1 : ¬ t < 0 := by omega
    have a2 : ¬ 3 < t := by omega
    refine ⟨(r.1, r.2), ?_, ?_⟩
    · simp [vpose, h1, h2, h3, h4, h5, h6, e]
    · simp [a1, a2, h3, h4, h5, h6, e]
  · refine ⟨(0, 0), by simp [h], ?_⟩
    by_cases a1 : t < 0
    · simp [a1]
    by_cases a2 : 3 < t
    · simp [a1, a2]
    by_cases a3 : -1000000 ≤ x ∧ x ≤ 1000000
    · by_cases a4 : -1000000 ≤ y ∧ y ≤ 1000000
      · exact absurd ⟨by simp only; omega, by simp only; omega, a3.1, a3.2, a4.1, a4.2⟩ h
      · simp [a1, a2, a3, a4]
    · simp [a1, a2, a3]
structure POk (l : List Factor) (ns : List ByteArray) (s : List Pose × List Bool) : Prop where
  len : s.1.length = ns.length
  len2 : s.2.length = ns.length
  small : ns.length ≤ 4194304
  lsmall : l.length ≤ 4194304
  to : ∀ f ∈ l, f.fTo ∈ ns
  fr : ∀ f ∈ l, f.fKind ≠ 1 → f.fFrom ∈ ns
def offs (a : List Bool) : Nat := a.countP (fun x => !x)
theorem offs_set (a : List Bool) (i : Int) (h0 : 0 ≤ i) (h1 : i < a.length) (h2 : atI false a i = false) : offs (setI a i true) < offs a := by
  obtain ⟨k, rfl⟩ := Int.eq_ofNat_of_zero_le h0
  rw [show setI a (k : Int) true = a.set k true from setI_nat a k true]
  have hk : k < a.length := by omega
  unfold offs
  rw [List.countP_set hk]
  have h2 : a[k] = false := by
    unfold atI at h2
    rw [List.getD_eq_getElem?_getD, show ((k : Int)).toNat = k by omega, List.getElem?_eq_getElem hk] at h2
    exact h2
  have hp : 0 < List.countP (fun x => !x) a := List.countP_pos_iff.2 ⟨a[k], List.getElem_mem hk, by simpa using h2⟩
  simp [h2]; omega
theorem POk.set {l : List Factor} {ns : List ByteArray} {s : List Pose × List Bool} (H : POk l ns s) (i : Int) (x : Pose) : POk l ns (setI s.1 i x, setI s.2 i true) :=
  ⟨by rw [setI_len]; exact H.len, by rw [setI_len]; exact H.len2, H.small, H.lsmall, H.to, H.fr⟩
theorem POk_of {l : List Factor} (h : isFL l = true) : POk l (namesOf l) (List.replicate ((namesOf l).length : Int).toNat ⟨0, 0, 0⟩, List.replicate ((namesOf l).length : Int).toNat false) := by
  have H := HOk_of h
  exact ⟨by simp, by simp, H.small, H.lsmall, H.to, H.fr⟩
theorem eqPose_self (p : Pose) : laws_eqPose p p = some true := by simp [laws_eqPose]
end Go.Ev

