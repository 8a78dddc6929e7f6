/- Plain laws: loops over lists. No program. -/
import Derived.Test.YtlfbihajihpchaaGreatEvU
set_option linter.all false
namespace Go.Ev
theorem wi {n : Int} (h : -9223372036854775808 ≤ n ∧ n ≤ 9223372036854775807) : IntKind.i64.wrap n = n := by
  rw [IntKind.wrap_i64]; omega
theorem idx_nat {α : Type} (l : List α) (k : Nat) : idx l (k : Int) = l[k]? := by
  unfold idx; rw [if_pos (by omega)]; simp
theorem idx_lt {α : Type} {l : List α} {k : Nat} (h : k < l.length) : idx l (k : Int) = some l[k] := by rw [idx_nat]; simp [h]
theorem setI_nat {α : Type} (l : List α) (k : Nat) (y : α) : setI l (k : Int) y = l.set k y := by unfold setI; simp
theorem chk_pos {p : Prop} {_ : Decidable p} (h : p) : chk p = some () := by unfold chk; rw [if_pos h]
theorem sub_all {α : Type} (l : List α) (a b : Int) (h : 0 ≤ a ∧ a ≤ b ∧ b ≤ l.length) : sub l a b = some ((l.drop a.toNat).take (b - a).toNat) := by unfold sub; rw [if_pos h]

section
variable {α σ τ ρ : Type}

end
end Go.Ev
namespace Go.Ev
section
variable {σ ρ : Type}
/-- a loop that only counts -/
theorem lp_count {step : Int → Option (Int ⊕ ρ)} (n : Nat) (r : ρ) (h1 : ∀ k : Nat, k < n → step (k : Int) = some (.inl ((k + 1 : Nat) : Int))) (h2 : step (n : Int) = some (.inr r)) : lp step 0 = some r := by
  have main : ∀ m k : Nat, m + k = n → lp step (k : Int) = some r := by
    intro m
    induction m with
    | zero => intro k hk; have : k = n := by omega
              subst this; exact lp_done h2
    | succ m ih => intro k hk; rw [lp_more (h1 k (by omega))]; exact ih (k + 1) (by omega)
  exact main n 0 (by omega)
/-- a loop that fills a row -/
theorem lp_fill {α : Type} {step : σ → Option (σ ⊕ ρ)} (l z : List α) (E : Nat → List α → σ) (fin : List α → ρ) (hz : z.length = l.length)
    (h1 : ∀ (k : Nat) (m : List α) (hk : k < l.length), m.length = l.length → step (E k m) = some (.inl (E (k + 1) (m.set k l[k])))) (h2 : ∀ m : List α, m.length = l.length → step (E l.length m) = some (.inr (fin m))) : lp step (E 0 z) = some (fin l) := by
  have main : ∀ n k (m : List α), n + k = l.length → m.length = l.length → m.take k = l.take k → lp step (E k m) = some (fin l) := by
    intro n
    induction n with
    | zero =>
      intro k m hk hm ht
      have : k = l.length := by omega
      subst this
      rw [List.take_length, ← hm, List.take_length] at ht
      rw [lp_done (h2 m hm), ht]
    | succ n ih =>
      intro k m hk hm ht
      have hlt : k < l.length := by omega
      rw [lp_more (h1 k m hlt hm)]
      refine ih (k + 1) _ (by omega) (by simpa using hm) ?_
      rw [List.take_add_one, List.take_add_one, List.take_set_of_le (Nat.le_refl _), ht]
      congr 1
      rw [List.getElem?_set_self (by omega), List.getElem?_eq_getElem hlt]
  exact main l.length 0 z (by omega) hz (by simp)
end
end Go.Ev
namespace Go.Ev
section
variable {σ ρ : Type}
end
end Go.Ev
namespace Go.Ev
theorem lp_foldl {α σ τ ρ : Type} {step : σ → Option (σ ⊕ ρ)} (l : List α) (E : Nat → τ → σ) (f : τ → α → τ) (fin : τ → ρ) (I : Nat → τ → Prop)
    (h1 : ∀ k t (hk : k < l.length), I k t → step (E k t) = some (.inl (E (k + 1) (f t l[k]))) ∧ I (k + 1) (f t l[k])) (h2 : ∀ t, I l.length t → step (E l.length t) = some (.inr (fin t))) (t : τ) (h0 : I 0 t) :
    lp step (E 0 t) = some (fin (l.foldl f t)) ∧ I l.length (l.foldl f t) := by
  have main : ∀ n k t, n + k = l.length → I k t → lp step (E k t) = some (fin ((l.drop k).foldl f t)) ∧ I l.length ((l.drop k).foldl f t) := by
    intro n
    induction n with
    | zero =>
      intro k t hk hi
      have : k = l.length := by omega
      subst this
      rw [List.drop_length, List.foldl_nil]
      exact ⟨lp_done (h2 t hi), hi⟩
    | succ n ih =>
      intro k t hk hi
      have hlt : k < l.length := by omega
      obtain ⟨e, hi'⟩ := h1 k t hlt hi
      rw [List.drop_eq_getElem_cons hlt, List.foldl_cons, lp_more e]
      exact ih (k + 1) _ (by omega) hi'
  have := main l.length 0 t (by omega) h0
  simpa using this
end Go.Ev
