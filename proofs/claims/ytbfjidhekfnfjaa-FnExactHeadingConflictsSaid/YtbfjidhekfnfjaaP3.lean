/- Plain laws: marks of texts and of factors. -/
import Derived.Test.YtbfjidhekfnfjaaP2
set_option linter.all false
namespace Go.Ev
set_option linter.all false
theorem markText_total (k : Int) (h : k ≤ 4611686018427387904) : ∃ t, laws_markText k = some t := by
  unfold laws_markText
  by_cases h0 : k ≤ 0
  · rw [if_pos h0]; exact ⟨_, rfl⟩
  · rw [if_neg h0]
    obtain ⟨r, e, q⟩ := lp_ind (step := laws_markText_L1) (fun s => 0 ≤ s.1 ∧ s.2.size + s.1 ≤ k) (fun s => s.1.toNat) (fun r => (r.size : Int) ≤ k)
      (by
        rintro ⟨v, s⟩ ⟨h1, h2⟩
        simp only at h1 h2
        unfold laws_markText_L1
        simp only []
        by_cases hv : 0 < v
        · right
          rw [if_pos hv]
          simp only [letO_bind]
          have e1 : ∀ x, (byteS x).size = 1 := fun _ => rfl
          have e2 : ∀ x, (byteS x ++ s).size = 1 + s.size := fun x => by rw [ByteArray.size_append, e1]
          have hd : v.tdiv 10 = v / 10 := Int.tdiv_eq_ediv_of_nonneg h1
          rw [chk_pos (by rw [e1]; omega)]
          simp only [Option.bind_some]
          rw [hd, wi (n := v / 10) (by omega)]
          refine ⟨_, rfl, ⟨by simp only []; omega, ?_⟩, by simp only []; omega⟩
          simp only []; rw [e2]; omega
        · left
          rw [if_neg hv]
          exact ⟨s, rfl, by omega⟩) (k, (⟨#[]⟩ : ByteArray)) ⟨by simp only []; omega, by simp only []; show ((0 : Nat) : Int) + k ≤ k; omega⟩
    rw [e]
    simp only [Option.bind_some]
    rw [chk_pos (by show 1 + r.size ≤ _; omega)]
    exact ⟨_, rfl⟩
noncomputable def mt (k : Int) : ByteArray := (laws_markText k).getD default
theorem markText_mt (k : Int) (h : k ≤ 4611686018427387904) : laws_markText k = some (mt k) := by
  obtain ⟨t, e⟩ := markText_total k h
  unfold mt; rw [e]; rfl
noncomputable def mf (k : Int) (_ : Factor) : Int × Factor := (k + 8, ⟨k, k + 1, mt (k + 2), mt (k + 3), ⟨k + 4, k + 5, k + 6⟩, k + 7⟩)
theorem idx_set {α : Type} {l : List α} {i : Nat} {y : α} (h : i < l.length) : idx (l.set i y) (i : Int) = some y := by
  rw [idx_nat]; simp [h]
theorem markFactorS_m (l : List Factor) (k0 : Nat) (h : k0 + 8 * l.length ≤ 4611686018427387904) : laws_markFactorS l k0 = some (((k0 + 8 * l.length : Nat) : Int), (markL mf (k0 : Int) l).2) := by
  have hk : ∀ (l : List Factor) (k : Int), (markL mf k l).1 = k + 8 * l.length := by
    intro l; induction l with
    | nil => intro k; simp [markL]
    | cons y r ih => intro k; simp only [markL, mf, List.length_cons]; rw [ih]; omega
  have e1 : laws_markFactorS l k0 = some ((markL mf (k0 : Int) l).1, (markL mf (k0 : Int) l).2) := by
    unfold laws_markFactorS laws_markFactorS_raw
    have := (lp_markL (step := laws_markFactorS_L1) (fun k i m => (k, (i : Int), m)) mf (fun k m => (k, m)) l.length (fun i k => k = (k0 : Int) + 8 * i)
      (fun k i m hi hm hj => by
        refine ⟨?_, ?_⟩
        · unfold laws_markFactorS_L1
          simp only [letO_bind]
          rw [if_pos (by omega), idx_lt hi]
          simp only [Option.bind_some, setI_nat, List.set_set]
          rw [idx_set hi]
          simp only [Option.bind_some, List.set_set]
          rw [wi (n := k + 1) (by omega), wi (n := k + 1 + 1) (by omega), wi (n := k + 1 + 1 + 1) (by omega), wi (n := k + 1 + 1 + 1 + 1) (by omega), wi (n := k + 1 + 1 + 1 + 1 + 1) (by omega), wi (n := k + 1 + 1 + 1 + 1 + 1 + 1) (by omega), wi (n := k + 1 + 1 + 1 + 1 + 1 + 1 + 1) (by omega), wi (n := k + 1 + 1 + 1 + 1 + 1 + 1 + 1 + 1) (by omega), wi (n := (i : Int) + 1) (by omega)]
          rw [markText_mt _ (by omega), markText_mt _ (by omega)]
          simp only [Option.bind_some, idx_set hi, List.set_set]
          simp only [mf]
          congr 2
          refine Prod.ext (by simp only []; omega) (Prod.ext (by simp only []; omega) ?_)
          simp only []
          congr 1
          rw [show k + 1 + 1 = k + 2 by omega, show k + 2 + 1 = k + 3 by omega, show k + 3 + 1 = k + 4 by omega, show k + 4 + 1 = k + 5 by omega, show k + 5 + 1 = k + 6 by omega, show k + 6 + 1 = k + 7 by omega]
        · simp only [mf]; omega)
      (fun k m hm _ => by unfold laws_markFactorS_L1; simp only []; rw [if_neg (by omega)]) l (k0 : Int) rfl (by simp)).1
    rw [show ((0 : Nat) : Int) = 0 from rfl] at this
    rw [this]
    simp only [Option.bind_some]
    rw [chk_pos (markL_len l _)]; rfl
  rw [e1, hk]; rfl
end Go.Ev
