/- Plain laws: loops over lists. No program. -/
import Derived.Test.YtbfjidhekfnfjaaEvU
set_option linter.all false
namespace Go.Ev
theorem wi {n : Int} (h : -9223372036854775808 ≤ n ∧ n ≤ 9223372036854775807) : IntKind.i64.wrap n = n := by
  rw [IntKind.wrap_i64]; omega
theorem idx_nat {α : Type} (l : List α) (k : Nat) : idx l (k : Int) = l[k]? := by
  unfold idx; rw [if_pos (by omega)]; simp
theorem idx_lt {α : Type} {l : List α} {k : Nat} (h : k < l.length) : idx l (k : Int) = some l[k] := by rw [idx_nat]; simp [h]
theorem setI_nat {α : Type} (l : List α) (k : Nat) (y : α) : setI l (k : Int) y = l.set k y := by unfold setI; simp
theorem chk_pos {p : Prop} {_ : Decidable p} (h : p) : chk p = some () := by unfold chk; rw [if_pos h]
theorem sub_all {α : Type} (l : List α) (a b : Int) (h : 0 ≤ a ∧ a ≤ b ∧ b ≤ l.length) : sub l a b = some ((l.drop a.toNat).take (b - a).toNat) := by unfold sub; rw [if_pos h]

section
variable {α σ τ ρ : Type}
/-- a list is gone through; a round may leave, or fail -/
def foldE (g : α → τ → Option (τ ⊕ ρ)) (fin : τ → ρ) : List α → τ → Option ρ
  | [], t => some (fin t)
  | y :: r, t => match g y t with
    | none => none
    | some (.inl t') => foldE g fin r t'
    | some (.inr x) => some x
theorem lp_foldE {step : σ → Option (σ ⊕ ρ)} (l : List α) (E : Nat → τ → σ) (g : α → τ → Option (τ ⊕ ρ)) (fin : τ → ρ)
    (h1 : ∀ k t (hk : k < l.length), step (E k t) = match g l[k] t with | none => none | some (.inl t') => some (.inl (E (k + 1) t')) | some (.inr x) => some (.inr x))
    (h2 : ∀ t, step (E l.length t) = some (.inr (fin t))) (t : τ) : lp step (E 0 t) = foldE g fin l t := by
  have main : ∀ n k t, n + k = l.length → lp step (E k t) = foldE g fin (l.drop k) t := by
    intro n
    induction n with
    | zero =>
      intro k t hk
      have : k = l.length := by omega
      subst this
      rw [List.drop_length, foldE]
      exact lp_done (h2 t)
    | succ n ih =>
      intro k t hk
      have hlt : k < l.length := by omega
      rw [List.drop_eq_getElem_cons hlt, foldE]
      have e := h1 k t hlt
      cases hg : g l[k] t with
      | none => rw [hg] at e; exact lp_none e
      | some o =>
        rw [hg] at e
        cases o with
        | inl t' => rw [lp_more e]; exact ih (k + 1) t' (by omega)
        | inr x => exact lp_done e
  have := main l.length 0 t (by omega)
  simpa using this
/-- what holds of the state goes on to hold -/
theorem foldE_inv {g : α → τ → Option (τ ⊕ ρ)} {fin : τ → ρ} (I : List α → τ → Prop) (Q : ρ → Prop) (h : ∀ y r t, I (y :: r) t → (∃ t', g y t = some (.inl t') ∧ I r t') ∨ ∃ x, g y t = some (.inr x) ∧ Q x) (hf : ∀ t, I [] t → Q (fin t)) :
    ∀ (l : List α) (t : τ), I l t → ∃ x, foldE g fin l t = some x ∧ Q x
  | [], t, hi => ⟨_, rfl, hf t hi⟩
  | y :: r, t, hi => by
    rw [foldE]
    rcases h y r t hi with ⟨t', e, hi'⟩ | ⟨x, e, hq⟩
    · rw [e]; exact foldE_inv I Q h hf r t' hi'
    · rw [e]; exact ⟨x, rfl, hq⟩
theorem foldE_congr {g g' : α → τ → Option (τ ⊕ ρ)} {fin : τ → ρ} : ∀ (l : List α) (t : τ), (∀ y ∈ l, ∀ t, g y t = g' y t) → foldE g fin l t = foldE g' fin l t
  | [], _, _ => rfl
  | y :: r, t, h => by
    rw [foldE, foldE, h y (by simp) t]
    cases g' y t with
    | none => rfl
    | some o => cases o with
      | inl t' => exact foldE_congr r t' (fun z hz => h z (by simp [hz]))
      | inr x => rfl

/-- each element is written over, a number going along -/
def markL {κ : Type} (g : κ → α → κ × α) : κ → List α → κ × List α
  | k, [] => (k, [])
  | k, y :: r => ((markL g (g k y).1 r).1, (g k y).2 :: (markL g (g k y).1 r).2)
theorem markL_len {κ : Type} {g : κ → α → κ × α} : ∀ (l : List α) (k : κ), (markL g k l).2.length = l.length
  | [], _ => rfl
  | y :: r, k => by simp [markL, markL_len r]
theorem lp_markL {κ : Type} {step : σ → Option (σ ⊕ ρ)} (E : κ → Nat → List α → σ) (g : κ → α → κ × α) (fin : κ → List α → ρ) (n : Nat) (J : Nat → κ → Prop)
    (h1 : ∀ k i (l : List α) (hi : i < l.length), l.length = n → J i k → step (E k i l) = some (.inl (E (g k l[i]).1 (i + 1) (l.set i (g k l[i]).2))) ∧ J (i + 1) (g k l[i]).1)
    (h2 : ∀ k (l : List α), l.length = n → J n k → step (E k n l) = some (.inr (fin k l))) (l : List α) (k : κ) (hl : l.length = n) (hJ : J 0 k) : lp step (E k 0 l) = some (fin (markL g k l).1 (markL g k l).2) ∧ J n (markL g k l).1 := by
  have main : ∀ (r pre : List α) (k : κ), pre.length + r.length = n → J pre.length k → lp step (E k pre.length (pre ++ r)) = some (fin (markL g k r).1 (pre ++ (markL g k r).2)) ∧ J n (markL g k r).1 := by
    intro r
    induction r with
    | nil =>
      intro pre k hp hj
      simp only [markL, List.append_nil]
      have : pre.length = n := by simpa using hp
      rw [this] at hj ⊢
      exact ⟨lp_done (h2 k pre this hj), hj⟩
    | cons y r ih =>
      intro pre k hp hj
      have hlt : pre.length < (pre ++ y :: r).length := by simp
      obtain ⟨e, hj'⟩ := h1 k pre.length (pre ++ y :: r) hlt (by simpa using hp) hj
      have ey : (pre ++ y :: r)[pre.length] = y := by simp
      rw [ey] at e hj'
      rw [lp_more e]
      have := ih (pre ++ [(g k y).2]) (g k y).1 (by simp at hp ⊢; omega) (by simpa using hj')
      simp only [List.length_append, List.length_cons, List.length_nil] at this
      have es : (pre ++ y :: r).set pre.length (g k y).2 = pre ++ [(g k y).2] ++ r := by
        rw [List.set_append_right _ _ (Nat.le_refl _)]; simp
      rw [es]
      simp only [markL]
      simpa using this
  have := main l [] k (by simpa using hl) (by simpa using hJ)
  simpa using this
end
end Go.Ev
namespace Go.Ev
section
variable {σ ρ : Type}
/-- a loop that only counts -/
theorem lp_count {step : Int → Option (Int ⊕ ρ)} (n : Nat) (r : ρ) (h1 : ∀ k : Nat, k < n → step (k : Int) = some (.inl ((k + 1 : Nat) : Int))) (h2 : step (n : Int) = some (.inr r)) : lp step 0 = some r := by
  have main : ∀ m k : Nat, m + k = n → lp step (k : Int) = some r := by
    intro m
    induction m with
    | zero => intro k hk; have : k = n := by omega
              subst this; exact lp_done h2
    | succ m ih => intro k hk; rw [lp_more (h1 k (by omega))]; exact ih (k + 1) (by omega)
  exact main n 0 (by omega)
/-- a loop that fills a row -/
theorem lp_fill {α : Type} {step : σ → Option (σ ⊕ ρ)} (l z : List α) (E : Nat → List α → σ) (fin : List α → ρ) (hz : z.length = l.length)
    (h1 : ∀ (k : Nat) (m : List α) (hk : k < l.length), m.length = l.length → step (E k m) = some (.inl (E (k + 1) (m.set k l[k])))) (h2 : ∀ m : List α, m.length = l.length → step (E l.length m) = some (.inr (fin m))) : lp step (E 0 z) = some (fin l) := by
  have main : ∀ n k (m : List α), n + k = l.length → m.length = l.length → m.take k = l.take k → lp step (E k m) = some (fin l) := by
    intro n
    induction n with
    | zero =>
      intro k m hk hm ht
      have : k = l.length := by omega
      subst this
      rw [List.take_length, ← hm, List.take_length] at ht
      rw [lp_done (h2 m hm), ht]
    | succ n ih =>
      intro k m hk hm ht
      have hlt : k < l.length := by omega
      rw [lp_more (h1 k m hlt hm)]
      refine ih (k + 1) _ (by omega) (by simpa using hm) ?_
      rw [List.take_add_one, List.take_add_one, List.take_set_of_le (Nat.le_refl _), ht]
      congr 1
      rw [List.getElem?_set_self (by omega), List.getElem?_eq_getElem hlt]
  exact main l.length 0 z (by omega) hz (by simp)
end
theorem ba_eq {s : ByteArray} : s = (⟨#[]⟩ : ByteArray) ↔ s.size = 0 := by
  constructor
  · rintro rfl; rfl
  · intro h
    cases s with
    | mk d =>
      have : d.size = 0 := h
      rw [Array.size_eq_zero_iff.1 this]
end Go.Ev
namespace Go.Ev
section
variable {σ ρ : Type}
/-- a loop that searches: it counts up until it leaves or the end is reached -/
theorem lp_search {step : Int → Option (Int ⊕ ρ)} (n : Nat) (Q : ρ → Prop) (J : Nat → Prop) (h0 : J 0) (h1 : ∀ k : Nat, k < n → J k → (step (k : Int) = some (.inl ((k + 1 : Nat) : Int)) ∧ J (k + 1)) ∨ ∃ r, step (k : Int) = some (.inr r) ∧ Q r) (h2 : J n → ∃ r, step (n : Int) = some (.inr r) ∧ Q r) : ∃ r, lp step 0 = some r ∧ Q r := by
  have main : ∀ m k : Nat, m + k = n → J k → ∃ r, lp step (k : Int) = some r ∧ Q r := by
    intro m
    induction m with
    | zero =>
      intro k hk hj
      have : k = n := by omega
      subst this
      obtain ⟨r, e, q⟩ := h2 hj
      exact ⟨r, lp_done e, q⟩
    | succ m ih =>
      intro k hk hj
      rcases h1 k (by omega) hj with ⟨e, hj'⟩ | ⟨r, e, q⟩
      · rw [lp_more e]; exact ih (k + 1) (by omega) hj'
      · exact ⟨r, lp_done e, q⟩
  exact main n 0 (by omega) h0
/-- two loops whose rounds are alike -/
theorem lp_congr {step step' : σ → Option (σ ⊕ ρ)} (J : σ → Prop) (h : ∀ s, J s → step s = step' s ∧ ∀ s', step s = some (.inl s') → J s') (s : σ) (hs : J s) : lp step s = lp step' s := by
  apply Option.ext
  intro r
  rw [lp_some, lp_some]
  constructor
  · rintro ⟨n, hn⟩
    refine ⟨n, ?_⟩
    induction hn with
    | done e => exact .done (by rw [← (h _ hs).1]; exact e)
    | more e _ ih => exact .more (by rw [← (h _ hs).1]; exact e) (ih ((h _ hs).2 _ e))
  · rintro ⟨n, hn⟩
    refine ⟨n, ?_⟩
    induction hn with
    | done e => exact .done (by rw [(h _ hs).1]; exact e)
    | more e _ ih => have e' := (h _ hs).1.trans e; exact .more e' (ih ((h _ hs).2 _ e'))
end
end Go.Ev
namespace Go.Ev
theorem lp_foldl {α σ τ ρ : Type} {step : σ → Option (σ ⊕ ρ)} (l : List α) (E : Nat → τ → σ) (f : τ → α → τ) (fin : τ → ρ) (I : Nat → τ → Prop)
    (h1 : ∀ k t (hk : k < l.length), I k t → step (E k t) = some (.inl (E (k + 1) (f t l[k]))) ∧ I (k + 1) (f t l[k])) (h2 : ∀ t, I l.length t → step (E l.length t) = some (.inr (fin t))) (t : τ) (h0 : I 0 t) :
    lp step (E 0 t) = some (fin (l.foldl f t)) ∧ I l.length (l.foldl f t) := by
  have main : ∀ n k t, n + k = l.length → I k t → lp step (E k t) = some (fin ((l.drop k).foldl f t)) ∧ I l.length ((l.drop k).foldl f t) := by
    intro n
    induction n with
    | zero =>
      intro k t hk hi
      have : k = l.length := by omega
      subst this
      rw [List.drop_length, List.foldl_nil]
      exact ⟨lp_done (h2 t hi), hi⟩
    | succ n ih =>
      intro k t hk hi
      have hlt : k < l.length := by omega
      obtain ⟨e, hi'⟩ := h1 k t hlt hi
      rw [List.drop_eq_getElem_cons hlt, List.foldl_cons, lp_more e]
      exact ih (k + 1) _ (by omega) hi'
  have := main l.length 0 t (by omega) h0
  simpa using this
def hasS (l : List ByteArray) (s : ByteArray) : Bool := l.any (fun x => decide (x = s))
theorem hasS_iff {l : List ByteArray} {s : ByteArray} : hasS l s = true ↔ s ∈ l := by
  unfold hasS
  rw [List.any_eq_true]
  constructor
  · rintro ⟨x, h1, h2⟩; rw [← of_decide_eq_true h2]; exact h1
  · intro h; exact ⟨s, h, by simp⟩
theorem hasS_not {l : List ByteArray} {s : ByteArray} : hasS l s = false ↔ s ∉ l := by
  rw [← hasS_iff]; simp
end Go.Ev
