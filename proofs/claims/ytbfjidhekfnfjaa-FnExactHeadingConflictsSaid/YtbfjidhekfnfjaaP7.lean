/- Plain laws: path lengths; factors removed and added. -/
import Derived.Test.YtbfjidhekfnfjaaP6
set_option linter.all false
namespace Go.Ev
set_option linter.all false
def absI (x : Int) : Int := if x < 0 then 0 - x else x
def plen (t : Int) (f : Factor) : Int := if f.fKind = 2 then t + (absI f.fPose.fX + absI f.fPose.fY) else t
-- factors that are removed
theorem mono_ids {l : List Factor} (h : ∀ k (hk : k + 1 < l.length), (l[k]).fId < (l[k + 1]).fId) : ∀ i j (hi : i < l.length) (hj : j < l.length), i < j → (l[i]).fId < (l[j]).fId := by
  intro i j hi hj hij
  induction j with
  | zero => omega
  | succ j ih =>
    by_cases e : i = j
    · subst e; exact h i hj
    · have := ih (by omega) (by omega)
      have := h j hj
      omega
def fIdx (l : List Factor) (n : Int) : Option Nat := l.findIdx? (fun f => decide (f.fId = n))
-- factors that are added
/-- how many factors lie below the id -/
def below (l : List Factor) (n : Int) : Nat := (l.takeWhile (fun f => decide (f.fId < n))).length
theorem below_le (l : List Factor) (n : Int) : below l n ≤ l.length := by
  unfold below
  exact (List.takeWhile_sublist _).length_le
theorem below_lt (l : List Factor) (n : Int) : ∀ i (hi : i < l.length), i < below l n → (l[i]).fId < n := by
  intro i hi h
  unfold below at h
  have e : (l.takeWhile (fun f => decide (f.fId < n)))[i] = l[i] := by
    obtain ⟨t, ht⟩ := List.takeWhile_prefix (l := l) (fun f => decide (f.fId < n))
    have h1 : l[i]? = (l.takeWhile (fun f => decide (f.fId < n)))[i]? := by
      conv => lhs; rw [← ht]
      rw [List.getElem?_append_left h]
    rw [List.getElem?_eq_getElem h, List.getElem?_eq_getElem hi] at h1
    exact (Option.some.inj h1).symm
  have := List.all_takeWhile (l := l) (p := fun f => decide (f.fId < n))
  rw [List.all_eq_true] at this
  have := this _ (List.getElem_mem h)
  rw [e] at this
  simpa using this
theorem below_not (l : List Factor) (n : Int) (h : below l n < l.length) : ¬ (l[below l n]).fId < n := by
  have : ∀ (l : List Factor) (h : (l.takeWhile (fun f => decide (f.fId < n))).length < l.length), ¬ (l[(l.takeWhile (fun f => decide (f.fId < n))).length]).fId < n := by
    intro l
    induction l with
    | nil => intro h; simp at h
    | cons f r ih =>
      intro h
      by_cases hf : f.fId < n
      · have e : (f :: r).takeWhile (fun f => decide (f.fId < n)) = f :: r.takeWhile (fun f => decide (f.fId < n)) := by rw [List.takeWhile_cons_of_pos (by simpa using hf)]
        simp only [e, List.length_cons, List.getElem_cons_succ] at h ⊢
        exact ih (by omega)
      · have e : (f :: r).takeWhile (fun f => decide (f.fId < n)) = [] := by rw [List.takeWhile_cons_of_neg (by simpa using hf)]
        simp only [e, List.length_nil, List.getElem_cons_zero]
        exact hf
  exact this l h
theorem szF_some (f : Factor) (r : Int) : ∃ r2, laws_szFactor f r = some r2 := by
  unfold laws_szFactor
  simp only [letO_bind]
  repeat' split
  all_goals exact ⟨_, rfl⟩
end Go.Ev
