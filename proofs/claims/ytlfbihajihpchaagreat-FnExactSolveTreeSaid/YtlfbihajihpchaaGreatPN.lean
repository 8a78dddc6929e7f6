/- Plain laws of loops over nested values: sizes, copies, comparisons, marks. No program. -/
import Derived.Test.YtlfbihajihpchaaGreatPL
set_option linter.all false
namespace Go.Ev
theorem idx_setN {α : Type} {l : List α} {i : Nat} {y : α} (h : i < l.length) : idx (l.set i y) (i : Int) = some y := by
  rw [idx_nat]; simp [h]
theorem idx_qN {α : Type} {l : List α} {i : Nat} {y : α} (h : l[i]? = some y) : idx l (i : Int) = some y := by rw [idx_nat]; exact h
section
variable {α : Type}
/-- the size of a row whose elements have sizes -/
def szL (w : α → Nat) (l : List α) : Nat := (l.map (fun y => w y + 1)).sum
theorem szL_nil (w : α → Nat) : szL w [] = 0 := rfl
theorem szL_cons (w : α → Nat) (y : α) (l : List α) : szL w (y :: l) = w y + 1 + szL w l := by simp [szL]
theorem szL_eq (w : α → Nat) : ∀ l : List α, szL w l = l.length + (l.map w).sum
  | [] => rfl
  | y :: l => by rw [szL_cons, szL_eq w l, List.map_cons, List.sum_cons, List.length_cons]; omega
theorem szL_len (w : α → Nat) (l : List α) : l.length ≤ szL w l := by rw [szL_eq]; omega
theorem szL_flat : ∀ l : List α, szL (fun _ => 0) l = l.length
  | [] => rfl
  | y :: l => by rw [szL_cons, szL_flat l, List.length_cons]; omega
theorem szL_mem {w : α → Nat} : ∀ {l : List α} {y : α}, y ∈ l → w y + 1 ≤ szL w l
  | z :: l, y, h => by
    rw [szL_cons]
    rcases List.mem_cons.1 h with rfl | h
    · omega
    · have := szL_mem (w := w) h; omega
theorem lp_szE {step : (Int × Int) → Option ((Int × Int) ⊕ (Int ⊕ Int))} (l : List α) (w : α → Nat) (f : α → Int → Option Int) (hf : ∀ y ∈ l, ∀ t, 0 ≤ t → t ≤ 1048576 → f y t = some (if (w y : Int) ≤ t then t - w y else -1))
    (h1 : ∀ (k : Nat) t (hk : k < l.length), step (t, (k : Int)) = (f l[k] t).bind fun r => if r < 0 then some (.inr (.inr (-1))) else some (.inl (r, (k : Int) + 1)))
    (h2 : ∀ t, step (t, (l.length : Int)) = some (.inr (.inl t))) (t : Int) (h0 : 0 ≤ t) (ht : t ≤ 1048576) : lp step (t, 0) = some (if ((l.map w).sum : Int) ≤ t then .inl (t - ((l.map w).sum : Nat)) else .inr (-1)) := by
  have main : ∀ n k t, n + k = l.length → 0 ≤ t → t ≤ 1048576 → lp step (t, (k : Int)) = some (if (((l.drop k).map w).sum : Int) ≤ t then .inl (t - (((l.drop k).map w).sum : Nat)) else .inr (-1)) := by
    intro n
    induction n with
    | zero =>
      intro k t hk h0 ht
      have : k = l.length := by omega
      subst this
      rw [lp_done (h2 t), List.drop_length]
      simp [h0]
    | succ n ih =>
      intro k t hk h0 ht
      have hlt : k < l.length := by omega
      have e := h1 k t hlt
      rw [hf _ (List.getElem_mem hlt) t h0 ht] at e
      simp only [Option.bind_some] at e
      rw [List.drop_eq_getElem_cons hlt, List.map_cons, List.sum_cons]
      by_cases c : (w l[k] : Int) ≤ t
      · rw [if_pos c, if_neg (by omega)] at e
        rw [lp_more e, show (k : Int) + 1 = ((k + 1 : Nat) : Int) by omega, ih (k + 1) _ (by omega) (by omega) (by omega)]
        by_cases d : (((l.drop (k + 1)).map w).sum : Int) ≤ t - w l[k]
        · rw [if_pos d, if_pos (by omega)]; congr 2; omega
        · rw [if_neg d, if_neg (by omega)]
      · rw [if_neg c, if_pos (by omega)] at e
        rw [lp_done e, if_neg (by omega)]
  have := main l.length 0 t (by omega) h0 ht
  simpa using this
/-- a loop that copies each element to the end of a row -/
theorem lp_copyE {σ ρ : Type} {step : σ → Option (σ ⊕ ρ)} (l : List α) (E : Nat → List α → σ) (fin : List α → ρ)
    (h1 : ∀ (k : Nat) (t : List α) (hk : k < l.length), t.length = k → step (E k t) = some (.inl (E (k + 1) (t ++ [l[k]])))) (h2 : ∀ t : List α, t.length = l.length → step (E l.length t) = some (.inr (fin t))) : lp step (E 0 []) = some (fin l) := by
  have main : ∀ n k (t : List α), n + k = l.length → t.length = k → lp step (E k t) = some (fin (t ++ l.drop k)) := by
    intro n
    induction n with
    | zero =>
      intro k t hk ht
      have : k = l.length := by omega
      subst this
      rw [List.drop_length, List.append_nil]
      exact lp_done (h2 t ht)
    | succ n ih =>
      intro k t hk ht
      have hlt : k < l.length := by omega
      rw [lp_more (h1 k t hlt ht), ih (k + 1) _ (by omega) (by simp [ht]), List.append_assoc, List.singleton_append, ← List.drop_eq_getElem_cons hlt]
  have := main l.length 0 [] (by omega) rfl
  simpa using this
/-- marks that are written, and found again -/
theorem lp_mhE {ms : (Int × Int × List α) → Option ((Int × Int × List α) ⊕ (Int × List α))} {hs : List α → (Int × Int) → Option ((Int × Int) ⊕ (Int ⊕ Int))} (w : α → Nat) (l : List α)
    (el : l.length ≤ 72057594037927936 → ∀ y k, 0 ≤ k → k + 100 * ((w y : Int) + 1) ≤ 4611686018427387904 → ∃ k' y', k ≤ k' ∧ k' ≤ k + 100 * ((w y : Int) + 1) ∧ (∀ (m : List α) (i : Nat), m[i]? = some y → m.length = l.length → ms (k, (i : Int), m) = some (.inl (k', (i : Int) + 1, m.set i y'))) ∧
      ∀ (m : List α) (i : Nat), m[i]? = some y' → m.length = l.length → hs m (k, (i : Int)) = some (.inl (k', (i : Int) + 1)))
    (me : ∀ k (m : List α), m.length = l.length → ms (k, (l.length : Int), m) = some (.inr (k, m))) (he : ∀ k (m : List α), m.length = l.length → hs m (k, (l.length : Int)) = some (.inr (.inl k))) (k : Int) (h0 : 0 ≤ k) (h1 : k + 100 * (szL w l : Int) ≤ 4611686018427387904) :
    ∃ k' l', lp ms (k, 0, l) = some (k', l') ∧ l'.length = l.length ∧ lp (hs l') (k, 0) = some (.inl k') ∧ k ≤ k' ∧ k' ≤ k + 100 * (szL w l : Int) := by
  have hl : l.length ≤ 72057594037927936 := by have := szL_len w l; omega
  have main : ∀ (r : List α) (pre : List α) (k : Int), pre.length + r.length = l.length → 0 ≤ k → k + 100 * (szL w r : Int) ≤ 4611686018427387904 → ∃ k' r', r'.length = r.length ∧ (lp ms (k, (pre.length : Int), pre ++ r) = some (k', pre ++ r')) ∧
      (∀ pre' : List α, pre'.length = pre.length → lp (hs (pre' ++ r')) (k, (pre.length : Int)) = some (.inl k')) ∧ k ≤ k' ∧ k' ≤ k + 100 * (szL w r : Int) := by
    intro r
    induction r with
    | nil =>
      intro pre k hp h0 h1
      have hp : pre.length = l.length := by simpa using hp
      refine ⟨k, [], rfl, ?_, fun pre' hp' => ?_, Int.le_refl _, by simp [szL_nil]⟩
      · simp only [List.append_nil]; rw [hp]; exact lp_done (me k pre hp)
      · simp only [List.append_nil]; rw [hp]; exact lp_done (he k pre' (hp'.trans hp))
    | cons y r ih =>
      intro pre k hp h0 h1
      rw [szL_cons] at h1 ⊢
      simp only [List.length_cons] at hp
      obtain ⟨k1, y', b1, b2, e1, e2⟩ := el hl y k h0 (by omega)
      obtain ⟨k2, r', c1, c2, c3, c4, c5⟩ := ih (pre ++ [y']) k1 (by simp; omega) (by omega) (by omega)
      simp only [List.length_append, List.length_cons, List.length_nil, Nat.zero_add] at c2 c3
      refine ⟨k2, y' :: r', by simp [c1], ?_, fun pre' hp' => ?_, by omega, by omega⟩
      · rw [lp_more (e1 (pre ++ y :: r) pre.length (by simp) (by simp; omega)), show (pre.length : Int) + 1 = ((pre.length + 1 : Nat) : Int) by omega]
        rw [show (pre ++ y :: r).set pre.length y' = pre ++ [y'] ++ r by rw [List.set_append_right _ _ (Nat.le_refl _)]; simp, c2]
        simp
      · rw [lp_more (e2 (pre' ++ y' :: r') pre.length (by rw [← hp']; simp) (by simp; omega)), show (pre.length : Int) + 1 = ((pre.length + 1 : Nat) : Int) by omega]
        have := c3 (pre' ++ [y']) (by simp [hp'])
        simpa using this
  obtain ⟨k', r', a1, a2, a3, a4, a5⟩ := main l [] k (by simp) h0 h1
  exact ⟨k', r', by simpa using a2, a1, by simpa using a3 [] rfl, a4, a5⟩
/-- marks that are written -/
theorem lp_mkE {ms : (Int × Int × List α) → Option ((Int × Int × List α) ⊕ (Int × List α))} (w : α → Nat) (l : List α)
    (el : l.length ≤ 72057594037927936 → ∀ y k, 0 ≤ k → k + 100 * ((w y : Int) + 1) ≤ 4611686018427387904 → ∃ k' y', k ≤ k' ∧ k' ≤ k + 100 * ((w y : Int) + 1) ∧ ∀ (m : List α) (i : Nat), m[i]? = some y → m.length = l.length → ms (k, (i : Int), m) = some (.inl (k', (i : Int) + 1, m.set i y')))
    (me : ∀ k (m : List α), m.length = l.length → ms (k, (l.length : Int), m) = some (.inr (k, m))) (k : Int) (h0 : 0 ≤ k) (h1 : k + 100 * (szL w l : Int) ≤ 4611686018427387904) :
    ∃ k' l', lp ms (k, 0, l) = some (k', l') ∧ l'.length = l.length ∧ k ≤ k' ∧ k' ≤ k + 100 * (szL w l : Int) := by
  have hl : l.length ≤ 72057594037927936 := by have := szL_len w l; omega
  have main : ∀ (r : List α) (pre : List α) (k : Int), pre.length + r.length = l.length → 0 ≤ k → k + 100 * (szL w r : Int) ≤ 4611686018427387904 → ∃ k' r', r'.length = r.length ∧ (lp ms (k, (pre.length : Int), pre ++ r) = some (k', pre ++ r')) ∧ k ≤ k' ∧ k' ≤ k + 100 * (szL w r : Int) := by
    intro r
    induction r with
    | nil =>
      intro pre k hp h0 h1
      have hp : pre.length = l.length := by simpa using hp
      refine ⟨k, [], rfl, ?_, Int.le_refl _, by simp [szL_nil]⟩
      simp only [List.append_nil]; rw [hp]; exact lp_done (me k pre hp)
    | cons y r ih =>
      intro pre k hp h0 h1
      rw [szL_cons] at h1 ⊢
      simp only [List.length_cons] at hp
      obtain ⟨k1, y', b1, b2, e1⟩ := el hl y k h0 (by omega)
      obtain ⟨k2, r', c1, c2, c4, c5⟩ := ih (pre ++ [y']) k1 (by simp; omega) (by omega) (by omega)
      simp only [List.length_append, List.length_cons, List.length_nil, Nat.zero_add] at c2
      refine ⟨k2, y' :: r', by simp [c1], ?_, by omega, by omega⟩
      rw [lp_more (e1 (pre ++ y :: r) pre.length (by simp) (by simp; omega)), show (pre.length : Int) + 1 = ((pre.length + 1 : Nat) : Int) by omega]
      rw [show (pre ++ y :: r).set pre.length y' = pre ++ [y'] ++ r by rw [List.set_append_right _ _ (Nat.le_refl _)]; simp, c2]
      simp
  obtain ⟨k', r', a1, a2, a4, a5⟩ := main l [] k (by simp) h0 h1
  exact ⟨k', r', by simpa using a2, a1, a4, a5⟩
end
end Go.Ev
