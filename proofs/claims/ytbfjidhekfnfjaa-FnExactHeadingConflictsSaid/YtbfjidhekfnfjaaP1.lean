/- Plain laws of the helpers of the exact laws: sizes, copies, comparisons, marks. -/
import Derived.Test.YtbfjidhekfnfjaaPL
import Derived.Test.YtbfjidhekfnfjaaLd
set_option linter.all false
namespace Go.Ev
set_option linter.all false

-- comparisons of a thing with itself
theorem eqIntS_self (l : List Int) (h : l.length ≤ 140737488351232) : laws_eqIntS l l = some true := by
  unfold laws_eqIntS
  rw [if_neg (by simp), lp_count l.length (.inl ())]
  · rfl
  · intro k hk
    unfold laws_eqIntS_L1
    rw [if_pos (by omega), idx_lt hk]
    simp only [Option.bind_some, ne_eq, not_true_eq_false, if_false]
    rw [wi (by omega)]; rfl
  · unfold laws_eqIntS_L1; rw [if_neg (by omega)]
theorem eqFactor_self (y : Factor) : laws_eqFactor y y = some true := by
  simp [laws_eqFactor, laws_eqPose]
theorem eqFactorS_self (l : List Factor) (h : l.length ≤ 140737488351232) : laws_eqFactorS l l = some true := by
  unfold laws_eqFactorS
  rw [if_neg (by simp), lp_count l.length (.inl ())]
  · rfl
  · intro k hk
    unfold laws_eqFactorS_L1
    rw [if_pos (by omega), idx_lt hk]
    simp only [Option.bind_some, eqFactor_self, if_true]
    rw [wi (by omega)]; rfl
  · unfold laws_eqFactorS_L1; rw [if_neg (by omega)]
-- copies
theorem toFactor_id (y : Factor) : laws_toFactor y = some y := by simp [laws_toFactor, laws_toPose]
theorem toFactorS_id (l : List Factor) (h : l.length ≤ 1048576) : laws_toFactorS l = some l := by
  unfold laws_toFactorS
  rw [chk_pos (by omega)]
  simp only [Option.bind_some]
  have := lp_fill (step := laws_toFactorS_L1 l) l (List.replicate (l.length : Int).toNat (Factor.mk 0 0 ByteArray.empty ByteArray.empty (Pose.mk 0 0 0) 0)) (fun k m => ((k : Int), m)) (fun m => m) (by simp)
    (fun k m hk hm => by
      unfold laws_toFactorS_L1
      simp only []
      rw [if_pos (by omega), idx_lt hk, idx_lt (l := m) (by omega)]
      simp only [Option.bind_some, toFactor_id]
      rw [wi (by omega), setI_nat]; rfl)
    (fun m hm => by unfold laws_toFactorS_L1; simp only []; rw [if_neg (by omega)])
  rw [show ((0 : Nat) : Int) = 0 from rfl] at this
  rw [this]; rfl
-- sizes
theorem szFactor_p (f : Factor) (left : Int) (h : 0 ≤ left ∧ left ≤ 1048576) (h1 : f.fFrom.size ≤ 9223372036854775807) (h2 : f.fTo.size ≤ 9223372036854775807) :
    ∃ r, laws_szFactor f left = some r ∧ r ≤ left ∧ -1 ≤ r ∧ (0 ≤ r → f.fFrom.size ≤ 1048576 ∧ f.fTo.size ≤ 1048576) := by
  unfold laws_szFactor
  simp only [letO_bind]
  rw [wi (n := left - f.fFrom.size) (by omega)]
  split
  · exact ⟨-1, rfl, by omega, by omega, by omega⟩
  · rw [wi (n := left - f.fFrom.size - f.fTo.size) (by omega)]
    split
    · exact ⟨-1, rfl, by omega, by omega, by omega⟩
    · exact ⟨_, rfl, by omega, by omega, by omega⟩
def bigF (f : Factor) : Prop := f.fFrom.size ≤ 9223372036854775807 ∧ f.fTo.size ≤ 9223372036854775807
def smallF (f : Factor) : Prop := f.fFrom.size ≤ 1048576 ∧ f.fTo.size ≤ 1048576
theorem szFactorS_p (l : List Factor) (hl : l.length ≤ 9223372036854775807) (hf : ∀ f ∈ l, bigF f) :
    ∃ r, laws_szFactorS l 1048576 = some r ∧ (¬ r < 0 → l.length ≤ 1048576 ∧ ∀ f ∈ l, smallF f) := by
  unfold laws_szFactorS
  simp only [letO_bind]
  rw [wi (n := 1048576 - (l.length : Int)) (by omega)]
  by_cases h0 : (1048576 : Int) - l.length < 0
  · rw [if_pos h0]; exact ⟨_, rfl, by omega⟩
  · rw [if_neg h0]
    have e := lp_foldE (step := laws_szFactorS_L1 l) l (fun k (t : Int) => (t, (k : Int))) (fun y t => match laws_szFactor y t with | none => none | some r => if r < 0 then some (.inr (.inr (-1))) else some (.inl r)) (fun t => (.inl t : Int ⊕ Int))
      (fun k t hk => by
        unfold laws_szFactorS_L1
        simp only []
        rw [if_pos (by omega), idx_lt hk]
        simp only [Option.bind_some]
        cases laws_szFactor l[k] t with
        | none => rfl
        | some r =>
          simp only [Option.bind_some]
          by_cases hr : r < 0
          · simp [hr]
          · simp only [hr, if_false]; rw [wi (by omega)]; rfl)
      (fun t => by unfold laws_szFactorS_L1; simp only []; rw [if_neg (by omega)]) (1048576 - (l.length : Int))
    obtain ⟨x, hx, hq⟩ := foldE_inv (g := fun y t => match laws_szFactor y t with | none => none | some r => if r < 0 then some (.inr (.inr (-1))) else some (.inl r)) (fin := fun t => (.inl t : Int ⊕ Int))
      (fun r t => 0 ≤ t ∧ t ≤ 1048576 ∧ (∀ f ∈ r, bigF f) ∧ ((∀ f ∈ r, smallF f) → ∀ f ∈ l, smallF f)) (fun x => x = .inr (-1) ∨ ((∃ t, x = .inl t) ∧ ∀ f ∈ l, smallF f))
      (fun y r t ⟨g1, g2, g3, g4⟩ => by
        obtain ⟨x, e1, e2, e3, e4⟩ := szFactor_p y t ⟨g1, g2⟩ (g3 y (by simp)).1 (g3 y (by simp)).2
        rw [e1]
        by_cases hx : x < 0
        · exact .inr ⟨.inr (-1), by simp [hx], .inl rfl⟩
        · refine .inl ⟨x, by simp [hx], by omega, by omega, fun f hf => g3 f (by simp [hf]), fun hs => g4 (fun f hf => ?_)⟩
          rcases List.mem_cons.1 hf with rfl | hf
          · exact e4 (by omega)
          · exact hs f hf)
      (fun t ⟨_, _, _, g4⟩ => .inr ⟨⟨t, rfl⟩, g4 (by simp)⟩) l (1048576 - (l.length : Int)) ⟨by omega, by omega, hf, fun h => h⟩
    rw [show ((0 : Nat) : Int) = 0 from rfl] at e
    rw [e, hx]
    rcases hq with rfl | ⟨⟨t, rfl⟩, hq⟩
    · exact ⟨-1, rfl, by omega⟩
    · exact ⟨t, rfl, fun _ => ⟨by omega, hq⟩⟩
-- marks
theorem markIntS_p (l : List Int) (k0 : Nat) (h : k0 + l.length ≤ 4611686018427387904) : ∃ m, laws_markIntS l k0 = some (((k0 + l.length : Nat) : Int), m) ∧ m.length = l.length ∧ laws_heldIntS m k0 = some ((k0 + l.length : Nat) : Int) := by
  let g : Int → Int → Int × Int := fun k _ => (k + 1, k)
  have hk : ∀ (l : List Int) (k : Int), (markL g k l).1 = k + l.length := by
    intro l; induction l with
    | nil => intro k; simp [markL]
    | cons y r ih => intro k; simp only [markL, g, List.length_cons]; rw [ih]; omega
  have e1 : laws_markIntS l k0 = some ((markL g (k0 : Int) l).1, (markL g (k0 : Int) l).2) := by
    unfold laws_markIntS laws_markIntS_raw
    have := (lp_markL (step := laws_markIntS_L1) (fun k i m => (k, (i : Int), m)) g (fun k m => (k, m)) l.length (fun i k => k = (k0 : Int) + i)
      (fun k i m hi hm hj => by
        subst hj
        refine ⟨?_, ?_⟩
        · unfold laws_markIntS_L1
          simp only []
          rw [if_pos (by omega), idx_lt hi]
          simp only [Option.bind_some]
          rw [wi (by omega), wi (by omega), setI_nat]; rfl
        · simp only [g]; omega)
      (fun k m hm _ => by unfold laws_markIntS_L1; simp only []; rw [if_neg (by omega)]) l (k0 : Int) rfl (by simp)).1
    rw [show ((0 : Nat) : Int) = 0 from rfl] at this
    rw [this]
    simp only [Option.bind_some]
    rw [chk_pos (markL_len l _)]; rfl
  refine ⟨(markL g (k0 : Int) l).2, by rw [e1, hk]; rfl, markL_len l _, ?_⟩
  unfold laws_heldIntS
  generalize hm : (markL g (k0 : Int) l).2 = m
  have hml : m.length = l.length := by rw [← hm]; exact markL_len l _
  have e2 := lp_foldE (step := laws_heldIntS_L1 m) m (fun i (k : Int) => (k, (i : Int))) (fun y k => if y ≠ k then some (.inr (.inr (-1))) else some (.inl (IntKind.i64.wrap (k + 1)))) (fun k => (.inl k : Int ⊕ Int))
    (fun i k hi => by
      unfold laws_heldIntS_L1
      simp only []
      rw [if_pos (by omega), idx_lt hi]
      simp only [Option.bind_some]
      by_cases hy : m[i] ≠ k
      · simp [hy]
      · simp only [hy, if_false]; rw [wi (n := (i : Int) + 1) (by omega)]; rfl)
    (fun k => by unfold laws_heldIntS_L1; simp only []; rw [if_neg (by omega)]) (k0 : Int)
  rw [show ((0 : Nat) : Int) = 0 from rfl] at e2
  rw [e2]
  have e3 : ∀ (l : List Int) (k0 : Nat), k0 + l.length ≤ 4611686018427387904 → foldE (fun (y : Int) (k : Int) => if y ≠ k then some (.inr (.inr (-1))) else some (.inl (IntKind.i64.wrap (k + 1)))) (fun k => (.inl k : Int ⊕ Int)) (markL g (k0 : Int) l).2 (k0 : Int) = some (.inl ((k0 + l.length : Nat) : Int)) := by
    intro l; induction l with
    | nil => intro k0 _; rfl
    | cons y r ih =>
      intro k0 hb
      simp only [List.length_cons] at hb
      simp only [markL, foldE, g, ne_eq, not_true_eq_false, if_false]
      rw [wi (by omega)]
      have := ih (k0 + 1) (by omega)
      rw [show ((k0 + 1 : Nat) : Int) = (k0 : Int) + 1 by omega] at this
      simp only [List.length_cons]
      simp only [g, ne_eq] at this
      rw [this]; congr 2; omega
  rw [← hm, e3 l k0 h]; rfl
end Go.Ev
