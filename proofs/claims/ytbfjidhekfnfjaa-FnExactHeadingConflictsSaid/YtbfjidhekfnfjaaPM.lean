/- Plain laws: rows marked and held. -/
import Derived.Test.YtbfjidhekfnfjaaP3
set_option linter.all false
namespace Go.Ev
set_option linter.all false
section
variable {σ ρ : Type}
theorem lp_held {α κ : Type} {step : σ → Option (σ ⊕ ρ)} (g : κ → α → κ × α) (E : κ → Nat → σ) (fin : κ → ρ) (J : Nat → κ → Prop) (l : List α) (k0 : κ) (m : List α) (hm : m = (markL g k0 l).2)
    (h1 : ∀ k i y, i < l.length → J i k → m[i]? = some (g k y).2 → step (E k i) = some (.inl (E (g k y).1 (i + 1))) ∧ J (i + 1) (g k y).1) (h2 : ∀ k, J l.length k → step (E k l.length) = some (.inr (fin k))) (h0 : J 0 k0) : lp step (E k0 0) = some (fin (markL g k0 l).1) := by
  have main : ∀ (r : List α) (i : Nat) (k : κ), i + r.length = l.length → (markL g k r).2 = m.drop i → J i k → lp step (E k i) = some (fin (markL g k r).1) := by
    intro r
    induction r with
    | nil =>
      intro i k hi _ hj
      simp only [List.length_nil] at hi
      have : i = l.length := by omega
      subst this
      exact lp_done (h2 k hj)
    | cons y r ih =>
      intro i k hi hd hj
      simp only [List.length_cons] at hi
      have hml : m.length = l.length := by rw [hm]; exact markL_len l k0
      have hlt : i < m.length := by omega
      rw [List.drop_eq_getElem_cons hlt] at hd
      simp only [markL, List.cons.injEq] at hd
      obtain ⟨e, hj'⟩ := h1 k i y (by omega) hj (by rw [List.getElem?_eq_getElem hlt, hd.1])
      rw [lp_more e]
      exact ih (i + 1) _ (by omega) hd.2 hj'
  exact main l 0 k0 (by omega) (by simp [hm]) h0
end
theorem idx_q {α : Type} {l : List α} {i : Nat} {y : α} (h : l[i]? = some y) : idx l (i : Int) = some y := by rw [idx_nat]; exact h
def mp (k : Int) (_ : Pose) : Int × Pose := (k + 3, ⟨k, k + 1, k + 2⟩)
theorem mp_end (l : List Pose) (k : Int) : (markL mp k l).1 = k + 3 * l.length := by
  induction l generalizing k with
  | nil => simp [markL]
  | cons y r ih => simp only [markL, mp, List.length_cons]; rw [ih]; omega
theorem markPoseS_p (l : List Pose) (k0 : Nat) (h : k0 + 3 * l.length ≤ 4611686018427387904) : ∃ m, laws_markPoseS l k0 = some (((k0 + 3 * l.length : Nat) : Int), m) ∧ m.length = l.length ∧ laws_heldPoseS m k0 = some ((k0 + 3 * l.length : Nat) : Int) := by
  refine ⟨(markL mp (k0 : Int) l).2, ?_, markL_len l _, ?_⟩
  · unfold laws_markPoseS laws_markPoseS_raw
    have := (lp_markL (step := laws_markPoseS_L1) (fun k i m => (k, (i : Int), m)) mp (fun k m => (k, m)) l.length (fun i k => k = (k0 : Int) + 3 * i)
      (fun k i m hi hm hj => by
        refine ⟨?_, by simp only [mp]; omega⟩
        unfold laws_markPoseS_L1
        simp only [letO_bind]
        rw [if_pos (by omega), idx_lt hi]
        simp only [Option.bind_some, setI_nat, List.set_set, idx_set hi]
        rw [wi (n := k + 1) (by omega), wi (n := k + 1 + 1) (by omega), wi (n := k + 1 + 1 + 1) (by omega), wi (n := (i : Int) + 1) (by omega)]
        simp only [mp]
        congr 2
        refine Prod.ext (by simp only []; omega) (Prod.ext (by simp only []; omega) ?_)
        simp only []
        congr 1
        rw [show k + 1 + 1 = k + 2 by omega])
      (fun k m hm _ => by unfold laws_markPoseS_L1; simp only []; rw [if_neg (by omega)]) l (k0 : Int) rfl (by simp)).1
    rw [show ((0 : Nat) : Int) = 0 from rfl] at this
    rw [this]
    simp only [Option.bind_some]
    rw [chk_pos (markL_len l _), mp_end]; rfl
  · unfold laws_heldPoseS
    have := lp_held (step := laws_heldPoseS_L1 (markL mp (k0 : Int) l).2) mp (fun k i => (k, (i : Int))) (fun k => (.inl k : Int ⊕ Int)) (fun i k => k = (k0 : Int) + 3 * i) l (k0 : Int) _ rfl
      (fun k i y hi hj hy => by
        refine ⟨?_, by simp only [mp]; omega⟩
        have hml := markL_len (g := mp) l (k0 : Int)
        unfold laws_heldPoseS_L1
        simp only [letO_bind]
        rw [if_pos (by omega), idx_q hy]
        simp only [Option.bind_some, mp]
        rw [wi (n := k + 1) (by omega), wi (n := k + 1 + 1) (by omega), wi (n := k + 1 + 1 + 1) (by omega), wi (n := (i : Int) + 1) (by omega)]
        rw [if_neg (by simp), if_neg (by simp), if_neg (by omega)]
        congr 2
        refine Prod.ext (by simp only []; omega) (by simp only []; omega))
      (fun k _ => by unfold laws_heldPoseS_L1; simp only []; rw [if_neg (by rw [markL_len]; omega)]) (by simp)
    rw [show ((0 : Nat) : Int) = 0 from rfl] at this
    rw [this, mp_end]; rfl
def mb (k : Int) (_ : Bool) : Int × Bool := (k + 1, decide (k.tmod 3 = 0))
theorem mb_end (l : List Bool) (k : Int) : (markL mb k l).1 = k + l.length := by
  induction l generalizing k with
  | nil => simp [markL]
  | cons y r ih => simp only [markL, mb, List.length_cons]; rw [ih]; omega
theorem markBoolS_p (l : List Bool) (k0 : Nat) (h : k0 + l.length ≤ 4611686018427387904) : ∃ m, laws_markBoolS l k0 = some (((k0 + l.length : Nat) : Int), m) ∧ m.length = l.length ∧ laws_heldBoolS m k0 = some ((k0 + l.length : Nat) : Int) := by
  refine ⟨(markL mb (k0 : Int) l).2, ?_, markL_len l _, ?_⟩
  · unfold laws_markBoolS laws_markBoolS_raw
    have := (lp_markL (step := laws_markBoolS_L1) (fun k i m => (k, (i : Int), m)) mb (fun k m => (k, m)) l.length (fun i k => k = (k0 : Int) + i)
      (fun k i m hi hm hj => by
        refine ⟨?_, by simp only [mb]; omega⟩
        unfold laws_markBoolS_L1
        simp only [letO_bind]
        rw [if_pos (by omega), idx_lt hi]
        simp only [Option.bind_some, setI_nat]
        rw [wi (n := k + 1) (by omega), wi (n := (i : Int) + 1) (by omega)]
        rfl)
      (fun k m hm _ => by unfold laws_markBoolS_L1; simp only []; rw [if_neg (by omega)]) l (k0 : Int) rfl (by simp)).1
    rw [show ((0 : Nat) : Int) = 0 from rfl] at this
    rw [this]
    simp only [Option.bind_some]
    rw [chk_pos (markL_len l _), mb_end]; rfl
  · unfold laws_heldBoolS
    have := lp_held (step := laws_heldBoolS_L1 (markL mb (k0 : Int) l).2) mb (fun k i => (k, (i : Int))) (fun k => (.inl k : Int ⊕ Int)) (fun i k => k = (k0 : Int) + i) l (k0 : Int) _ rfl
      (fun k i y hi hj hy => by
        refine ⟨?_, by simp only [mb]; omega⟩
        have hml := markL_len (g := mb) l (k0 : Int)
        unfold laws_heldBoolS_L1
        simp only [letO_bind]
        rw [if_pos (by omega), idx_q hy]
        simp only [Option.bind_some, mb]
        rw [wi (n := k + 1) (by omega), wi (n := (i : Int) + 1) (by omega)]
        rw [if_pos (by simp)]
        rfl)
      (fun k _ => by unfold laws_heldBoolS_L1; simp only []; rw [if_neg (by rw [markL_len]; omega)]) (by simp)
    rw [show ((0 : Nat) : Int) = 0 from rfl] at this
    rw [this, mb_end]; rfl
end Go.Ev
