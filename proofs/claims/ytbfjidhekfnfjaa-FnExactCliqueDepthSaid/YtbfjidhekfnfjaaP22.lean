/- Cliques: their nodes in order. -/
import Derived.Test.YtbfjidhekfnfjaaPF
import Derived.Test.YtbfjidhekfnfjaaPO
set_option linter.all false
namespace Go.Ev
set_option linter.all false
-- lists of ints in strict order
theorem strict_ext : ∀ {a b : List Int}, a.Pairwise (· < ·) → b.Pairwise (· < ·) → (∀ x, x ∈ a ↔ x ∈ b) → a = b
  | [], [], _, _, _ => rfl
  | [], y :: b, _, _, h => absurd ((h y).2 (by simp)) (by simp)
  | x :: a, [], _, _, h => absurd ((h x).1 (by simp)) (by simp)
  | x :: a, y :: b, ha, hb, h => by
    rw [List.pairwise_cons] at ha hb
    have hxy : x = y := by
      have h1 := (h x).1 (by simp)
      have h2 := (h y).2 (by simp)
      rcases List.mem_cons.1 h1 with e | e
      · exact e
      · rcases List.mem_cons.1 h2 with e' | e'
        · exact e'.symm
        · have := hb.1 x e; have := ha.1 y e'; omega
    subst hxy
    have : a = b := strict_ext ha.2 hb.2 (fun z => by
      constructor
      · intro hz
        have := (h z).1 (by simp [hz])
        rcases List.mem_cons.1 this with e | e
        · subst e; have := ha.1 z hz; omega
        · exact e
      · intro hz
        have := (h z).2 (by simp [hz])
        rcases List.mem_cons.1 this with e | e
        · subst e; have := hb.1 z hz; omega
        · exact e)
    rw [this]
/-- the list with n put in its place -/
def putL : List Int → Int → List Int
  | [], n => [n]
  | x :: l, n => if x < n then x :: putL l n else if x = n then x :: l else n :: x :: l
theorem putL_mem : ∀ (l : List Int) (n x : Int), x ∈ putL l n ↔ x = n ∨ x ∈ l
  | [], n, x => by simp [putL]
  | y :: l, n, x => by
    unfold putL
    by_cases h1 : y < n
    · rw [if_pos h1, List.mem_cons, List.mem_cons, putL_mem l n x]
      constructor
      · rintro (h | h | h) <;> simp [h]
      · rintro (h | h | h) <;> simp [h]
    · rw [if_neg h1]
      by_cases h2 : y = n
      · rw [if_pos h2]; subst h2; simp
      · rw [if_neg h2]; simp
theorem putL_strict : ∀ (l : List Int) (n : Int), l.Pairwise (· < ·) → (putL l n).Pairwise (· < ·)
  | [], n, _ => by simp [putL]
  | y :: l, n, h => by
    unfold putL
    rw [List.pairwise_cons] at h
    by_cases h1 : y < n
    · rw [if_pos h1, List.pairwise_cons]
      exact ⟨fun x hx => by rcases (putL_mem l n x).1 hx with e | e; omega; exact h.1 x e, putL_strict l n h.2⟩
    · rw [if_neg h1]
      by_cases h2 : y = n
      · rw [if_pos h2, List.pairwise_cons]; exact h
      · rw [if_neg h2, List.pairwise_cons]
        exact ⟨fun x hx => by rcases List.mem_cons.1 hx with e | e; omega; have := h.1 x e; omega, List.pairwise_cons.2 h⟩
theorem putL_len : ∀ (l : List Int) (n : Int), (putL l n).length ≤ l.length + 1
  | [], n => by simp [putL]
  | y :: l, n => by
    unfold putL
    split
    · simp [putL_len l n]
    · split <;> simp
def firstGe (l : List Int) (n : Int) : Nat := (l.takeWhile (fun x => decide (x < n))).length
theorem firstGe_le (l : List Int) (n : Int) : firstGe l n ≤ l.length := by
  unfold firstGe
  induction l with
  | nil => simp
  | cons x l ih =>
    rw [List.takeWhile_cons]
    split
    · simpa using ih
    · simp
theorem firstGe_cons (x : Int) (l : List Int) (n : Int) : firstGe (x :: l) n = if x < n then firstGe l n + 1 else 0 := by
  unfold firstGe
  rw [List.takeWhile_cons]
  by_cases h : x < n <;> simp [h]
theorem putL_eq : ∀ (l : List Int) (n : Int), putL l n = if l[firstGe l n]? = some n then l else l.take (firstGe l n) ++ [n] ++ l.drop (firstGe l n)
  | [], n => by simp [putL, firstGe]
  | x :: l, n => by
    rw [firstGe_cons]
    unfold putL
    by_cases h : x < n
    · rw [if_pos h, if_pos h, putL_eq l n]
      simp only [List.getElem?_cons_succ, List.take_succ_cons, List.drop_succ_cons]
      split <;> simp
    · rw [if_neg h, if_neg h]
      by_cases h2 : x = n <;> simp [h2]
theorem put_loop (l : List Int) (n : Int) (h : l.length ≤ 4294967296) : lp (spec_l07Put_L1 l n) 0 = some ((firstGe l n : Nat) : Int) := by
  have main : ∀ m k : Nat, m + k = l.length → lp (spec_l07Put_L1 l n) (k : Int) = some ((k + firstGe (l.drop k) n : Nat) : Int) := by
    intro m
    induction m with
    | zero =>
      intro k hk
      have : k = l.length := by omega
      subst this
      rw [lp_done (r := (l.length : Int)) (by unfold spec_l07Put_L1; rw [if_neg (by omega)]; rfl), List.drop_length]; simp [firstGe]
    | succ m ih =>
      intro k hk
      have hlt : k < l.length := by omega
      rw [List.drop_eq_getElem_cons hlt, firstGe_cons]
      by_cases c : l[k] < n
      · rw [if_pos c]
        have e : spec_l07Put_L1 l n (k : Int) = some (.inl ((k : Int) + 1)) := by
          unfold spec_l07Put_L1
          rw [if_pos (by omega), idx_lt hlt, wi (by omega)]
          simp [c]
        rw [lp_more e, show (k : Int) + 1 = ((k + 1 : Nat) : Int) by omega, ih (k + 1) (by omega)]
        congr 2; omega
      · rw [if_neg c]
        have e : spec_l07Put_L1 l n (k : Int) = some (.inr (k : Int)) := by
          unfold spec_l07Put_L1
          rw [if_pos (by omega), idx_lt hlt]
          simp [c]
        rw [lp_done e]; simp
  have := main l.length 0 (by omega)
  simpa using this
theorem put_p (l : List Int) (n : Int) (h : l.length ≤ 4294967296) : spec_l07Put l n = some (putL l n) := by
  have hf := firstGe_le l n
  unfold spec_l07Put
  rw [put_loop l n h, putL_eq]
  simp only [Option.bind_some]
  by_cases hlt : firstGe l n < l.length
  · rw [if_pos (by omega), idx_lt hlt, List.getElem?_eq_getElem hlt]
    simp only [Option.bind_some, decide_eq_true_eq, Option.some.injEq]
    by_cases c : l[firstGe l n] = n
    · rw [if_pos c, if_pos c]
    · rw [if_neg c, if_neg c, sub_all _ _ _ (by omega), sub_all _ _ _ (by omega)]
      simp only [Option.bind_some, letO_bind, List.nil_append]
      rw [chk_pos (by simp; omega), chk_pos (by simp; omega), chk_pos (by simp; omega)]
      simp only [Option.bind_some]
      simp
      rw [List.take_of_length_le (by simp)]
  · have : firstGe l n = l.length := by omega
    rw [if_neg (by omega), this, if_neg (by simp)]
    simp only [Option.bind_some, Bool.false_eq_true, if_false]
    rw [sub_all _ _ _ (by omega), sub_all _ _ _ (by omega)]
    simp only [Option.bind_some, letO_bind, List.nil_append]
    rw [chk_pos (by simp; omega), chk_pos (by simp; omega), chk_pos (by simp; omega)]
    simp
def putAll (l m : List Int) : List Int := m.foldl putL l
theorem putAll_facts : ∀ (m l : List Int), l.Pairwise (· < ·) → (putAll l m).Pairwise (· < ·) ∧ (∀ x, x ∈ putAll l m ↔ x ∈ l ∨ x ∈ m) ∧ (putAll l m).length ≤ l.length + m.length
  | [], l, h => ⟨h, by simp [putAll], by simp [putAll]⟩
  | n :: m, l, h => by
    obtain ⟨a, b, c⟩ := putAll_facts m (putL l n) (putL_strict l n h)
    have := putL_len l n
    refine ⟨a, fun x => ?_, ?_⟩
    · show x ∈ putAll (putL l n) m ↔ _
      rw [b x, putL_mem, List.mem_cons]
      constructor
      · rintro ((h | h) | h) <;> simp [h]
      · rintro (h | h | h) <;> simp [h]
    · show (putAll (putL l n) m).length ≤ _
      simp only [List.length_cons]; omega
def nodesC (k : Clique) : List Int := putAll (putAll [] k.fFrontal) k.fSeparator
theorem nodesC_facts (k : Clique) : (nodesC k).Pairwise (· < ·) ∧ (∀ x, x ∈ nodesC k ↔ x ∈ k.fFrontal ∨ x ∈ k.fSeparator) ∧ (nodesC k).length ≤ k.fFrontal.length + k.fSeparator.length := by
  obtain ⟨a, b, c⟩ := putAll_facts k.fFrontal [] List.Pairwise.nil
  obtain ⟨a', b', c'⟩ := putAll_facts k.fSeparator (putAll [] k.fFrontal) a
  refine ⟨a', fun x => by unfold nodesC; rw [b' x, b x]; simp, ?_⟩
  unfold nodesC; simp only [List.length_nil] at c; omega
theorem szClique (k : Clique) : szN_Clique k = k.fFrontal.length + k.fSeparator.length := by
  unfold szN_Clique szN_IntS; rw [szL_flat, szL_flat]
theorem l14Nodes_p (k : Clique) (h : szN_Clique k ≤ 1048576) : spec_l14Nodes k = some (nodesC k) := by
  rw [szClique] at h
  unfold spec_l14Nodes
  have e1 := lp_foldl (step := spec_l14Nodes_L1 k) k.fFrontal (fun i (t : List Int) => (t, (i : Int))) putL (fun t => t) (fun i t => t.length ≤ i) (fun i t hk hi => by
    refine ⟨?_, by have := putL_len t k.fFrontal[i]; omega⟩
    unfold spec_l14Nodes_L1
    simp only []
    rw [if_pos (by omega), idx_lt hk, wi (by omega)]
    simp only [Option.bind_some]
    rw [put_p _ _ (by omega)]; rfl) (fun t hi => by unfold spec_l14Nodes_L1; simp only []; rw [if_neg (by omega)]) [] (by simp)
  rw [show ((0 : Nat) : Int) = 0 from rfl] at e1
  rw [e1.1]
  simp only [Option.bind_some]
  have hl : (putAll [] k.fFrontal).length ≤ k.fFrontal.length := by have := (putAll_facts k.fFrontal [] List.Pairwise.nil).2.2; simpa using this
  have e2 := lp_foldl (step := spec_l14Nodes_L2 k) k.fSeparator (fun i (t : List Int) => (t, (i : Int))) putL (fun t => t) (fun i t => t.length ≤ k.fFrontal.length + i) (fun i t hk hi => by
    refine ⟨?_, by have := putL_len t k.fSeparator[i]; omega⟩
    unfold spec_l14Nodes_L2
    simp only []
    rw [if_pos (by omega), idx_lt hk, wi (by omega)]
    simp only [Option.bind_some]
    rw [put_p _ _ (by omega)]; rfl) (fun t hi => by unfold spec_l14Nodes_L2; simp only []; rw [if_neg (by omega)]) (putAll [] k.fFrontal) (by omega)
  rw [show ((0 : Nat) : Int) = 0 from rfl] at e2
  have e3 := e2.1
  unfold putAll at e3
  rw [e3]; rfl
def nodesP (l : List Clique) (a : Int) : List Int := if 0 ≤ a then (match l[a.toNat]? with | some k => nodesC k | none => []) else []
theorem l01In_p (a b c : Int) : spec_l01In a b c = some (decide (b ≤ a ∧ a ≤ c)) := by
  unfold spec_l01In
  by_cases h : b ≤ a <;> simp [h]
theorem spec_CliqueNodes_p (l : List Clique) (a : Int) (h : szN_CliqueS l ≤ 1048576) : spec_CliqueNodes l a = some (nodesP l a) := by
  unfold szN_CliqueS at h
  have hl := szL_len szN_Clique l
  unfold spec_CliqueNodes nodesP
  simp only [letO_bind]
  rw [wi (by omega), l01In_p]
  simp only [Option.bind_some, decide_eq_true_eq]
  by_cases h0 : 0 ≤ a
  · by_cases h1 : a ≤ (l.length : Int) - 1
    · obtain ⟨n, rfl⟩ : ∃ n : Nat, a = n := ⟨a.toNat, by omega⟩
      have hn : n < l.length := by omega
      have he := szL_mem (w := szN_Clique) (List.getElem_mem hn)
      rw [if_pos ⟨h0, h1⟩, if_pos h0, idx_lt hn]
      simp only [Option.bind_some, Int.toNat_natCast]
      rw [l14Nodes_p _ (by omega), List.getElem?_eq_getElem hn]; rfl
    · rw [if_neg (by omega), if_pos h0, List.getElem?_eq_none (by omega)]
  · rw [if_neg (by omega), if_neg h0]
def ddp : Option Int → List Int → List Int
  | _, [] => []
  | p, x :: l => if p = some x then ddp (some x) l else x :: ddp (some x) l
theorem ddp_cons (p : Option Int) (x : Int) (l : List Int) : ddp p (x :: l) = if p = some x then ddp (some x) l else x :: ddp (some x) l := rfl
theorem ddp_facts : ∀ (l : List Int) (p : Option Int), l.Pairwise (· ≤ ·) → (∀ q, p = some q → ∀ x ∈ l, q ≤ x) → (ddp p l).Pairwise (· < ·) ∧ (∀ x, x ∈ ddp p l ↔ x ∈ l ∧ p ≠ some x) ∧ (∀ q, p = some q → ∀ x ∈ ddp p l, q < x)
  | [], p, _, _ => by simp [ddp]
  | y :: l, p, h, hp => by
    rw [List.pairwise_cons] at h
    obtain ⟨a, b, c⟩ := ddp_facts l (some y) h.2 (fun q e x hx => by cases e; exact h.1 x hx)
    have hc := c y rfl
    by_cases hy : p = some y
    · have e : ddp p (y :: l) = ddp (some y) l := by rw [ddp_cons, if_pos hy]
      rw [e]
      subst hy
      refine ⟨a, fun x => ?_, fun q e x hx => by cases e; exact hc x hx⟩
      rw [b x, List.mem_cons]
      constructor
      · rintro ⟨h1, h2⟩; exact ⟨.inr h1, h2⟩
      · rintro ⟨h1 | h1, h2⟩
        · exact absurd (by rw [h1]) h2
        · exact ⟨h1, h2⟩
    · have e : ddp p (y :: l) = y :: ddp (some y) l := by rw [ddp_cons, if_neg hy]
      rw [e]
      refine ⟨List.pairwise_cons.2 ⟨hc, a⟩, fun x => ?_, fun q eq x hx => ?_⟩
      · rw [List.mem_cons, List.mem_cons, b x]
        constructor
        · rintro (h1 | ⟨h1, h2⟩)
          · subst h1; exact ⟨.inl rfl, hy⟩
          · refine ⟨.inr h1, fun e => ?_⟩
            have h3 := hp x e y (by simp)
            have h4 := h.1 x h1
            exact h2 (by congr 1; omega)
        · rintro ⟨h1 | h1, h2⟩
          · exact .inl h1
          · by_cases h3 : x = y
            · exact .inl h3
            · exact .inr ⟨h1, fun e => h3 (by injection e with e; exact e.symm)⟩
      · have h1 : q ≤ y := hp q eq y (by simp)
        have h2 : q ≠ y := fun e => hy (by rw [eq, e])
        rcases List.mem_cons.1 hx with e | e
        · omega
        · have := hc x e; omega
theorem ddp_len : ∀ (l : List Int) (p : Option Int), (ddp p l).length ≤ l.length
  | [], p => by simp [ddp]
  | y :: l, p => by
    rw [ddp_cons]
    have := ddp_len l (some y)
    split
    · simp; omega
    · simp; omega
theorem nodes_loop (r : List Int) (h : r.length ≤ 4294967296) : lp (impl_CliqueNodes_L1 r) (0, []) = some (ddp none r) := by
  have main : ∀ m k : Nat, m + k = r.length → ∀ t : List Int, t.length ≤ k → lp (impl_CliqueNodes_L1 r) ((k : Int), t) = some (t ++ ddp (if k = 0 then none else r[k - 1]?) (r.drop k)) := by
    intro m
    induction m with
    | zero =>
      intro k hk t ht
      have : k = r.length := by omega
      subst this
      rw [lp_done (r := t) (by unfold impl_CliqueNodes_L1; simp only []; rw [if_neg (by omega)]), List.drop_length]; simp [ddp]
    | succ m ih =>
      intro k hk t ht
      have hlt : k < r.length := by omega
      rw [List.drop_eq_getElem_cons hlt]
      have hstep : impl_CliqueNodes_L1 r ((k : Int), t) = some (.inl ((k : Int) + 1, if (if k = 0 then none else r[k - 1]?) = some r[k] then t else t ++ [r[k]])) := by
        unfold impl_CliqueNodes_L1
        simp only []
        rw [if_pos (by omega), idx_lt hlt, wi (n := (k : Int) + 1) (by omega), chk_pos (by omega)]
        simp only [Option.bind_some, letO_bind]
        by_cases k0 : k = 0
        · subst k0; simp
        · have hk1 : k - 1 < r.length := by omega
          rw [if_neg (by omega), if_neg k0, wi (n := (k : Int) - 1) (by omega), show (k : Int) - 1 = ((k - 1 : Nat) : Int) by omega, idx_lt hk1, List.getElem?_eq_getElem hk1]
          simp only [Option.bind_some]
          by_cases c : r[k - 1] = r[k]
          · simp [c]
          · simp [c]
      rw [lp_more hstep, show (k : Int) + 1 = ((k + 1 : Nat) : Int) by omega, ih (k + 1) (by omega) _ (by by_cases c : (if k = 0 then none else r[k - 1]?) = some r[k]; (rw [if_pos c]; omega); (rw [if_neg c]; simp; omega))]
      rw [if_neg (show ¬ (k + 1 = 0) by omega), show k + 1 - 1 = k by omega, List.getElem?_eq_getElem hlt]
      rw [ddp_cons]
      by_cases c : (if k = 0 then none else r[k - 1]?) = some r[k]
      · rw [if_pos c, if_pos c]
      · rw [if_neg c, if_neg c]; simp
  have := main r.length 0 (by omega) [] (by simp)
  simpa using this
theorem impl_copyInts_q (l : List Int) (h : l.length ≤ 4294967296) : impl_copyInts l = some l := by
  unfold impl_copyInts
  rw [chk_pos (by simp; omega)]
  simp only [Option.bind_some, letO_bind, List.nil_append]
theorem ddp_srt (k : Clique) : ddp none (srt (k.fFrontal ++ k.fSeparator)) = nodesC k := by
  have hs : (srt (k.fFrontal ++ k.fSeparator)).Pairwise (· ≤ ·) := by
    have := List.pairwise_mergeSort (le := fun (x y : Int) => decide (x ≤ y)) (fun a b c => by simp; omega) (fun a b => by simp; omega) (k.fFrontal ++ k.fSeparator)
    unfold srt
    exact this.imp (fun h => by simpa using h)
  obtain ⟨a, b, _⟩ := ddp_facts _ none hs (by simp)
  obtain ⟨a', b', _⟩ := nodesC_facts k
  refine strict_ext a a' (fun x => ?_)
  rw [b x, b' x]
  unfold srt
  simp
theorem impl_CliqueNodes_p (l : List Clique) (a : Int) (h : szN_CliqueS l ≤ 1048576) : impl_CliqueNodes l a = some (nodesP l a) := by
  unfold szN_CliqueS at h
  have hl := szL_len szN_Clique l
  unfold impl_CliqueNodes nodesP
  by_cases h0 : 0 ≤ a
  · rw [if_neg (by omega), if_pos h0]
    simp only [Option.bind_some, decide_eq_true_eq]
    by_cases h1 : (l.length : Int) ≤ a
    · rw [if_pos h1, List.getElem?_eq_none (by omega)]
    · obtain ⟨n, rfl⟩ : ∃ n : Nat, a = n := ⟨a.toNat, by omega⟩
      have hn : n < l.length := by omega
      have he := szL_mem (w := szN_Clique) (List.getElem_mem hn)
      rw [szClique] at he
      rw [if_neg h1, idx_lt hn]
      simp only [Option.bind_some]
      rw [impl_copyInts_q _ (by omega)]
      simp only [Option.bind_some, letO_bind]
      rw [chk_pos (by omega)]
      simp only [Option.bind_some]
      have hsl : (srt ((l[n]).fFrontal ++ (l[n]).fSeparator)).length = (l[n]).fFrontal.length + (l[n]).fSeparator.length := by rw [srt_len]; simp
      unfold srtO
      rw [chk_pos (by simp; omega)]
      simp only [Option.bind_some]
      rw [nodes_loop _ (by omega), ddp_srt]
      simp [hn]
  · rw [if_pos (by omega), if_neg h0]; rfl
theorem nodesP_len (l : List Clique) (a : Int) : (nodesP l a).length ≤ szN_CliqueS l := by
  unfold nodesP szN_CliqueS
  by_cases h0 : 0 ≤ a
  · rw [if_pos h0]
    by_cases hn : a.toNat < l.length
    · rw [List.getElem?_eq_getElem hn]
      have he := szL_mem (w := szN_Clique) (List.getElem_mem hn)
      rw [szClique] at he
      have := (nodesC_facts l[a.toNat]).2.2
      simp only []; omega
    · rw [List.getElem?_eq_none (by omega)]; simp
  · rw [if_neg h0]; simp
theorem law_CliqueNodes (l : List Clique) (a : Int) (o : okL okClique l) (_ : okI .i64 a) : laws_FnExactCliqueNodes l a = some true := by
  unfold laws_FnExactCliqueNodes
  rw [sz_CliqueS l o _ (by omega) (by omega)]
  simp only [Option.bind_some]
  by_cases h : (szN_CliqueS l : Int) ≤ 1048576
  · rw [if_pos h, if_neg (by omega), to_CliqueS l (by omega)]
    simp only [Option.bind_some]
    have hn := nodesP_len l a
    have hv : szN_IntS (nodesP l a) ≤ 1048576 := by unfold szN_IntS; rw [szL_flat]; omega
    obtain ⟨k0, x0, e0, a0, b0, _⟩ := mh_CliqueS l 1 (by omega) (by omega)
    obtain ⟨k1, x1, e1, g1, a1, b1, _⟩ := mh_IntS (nodesP l a) 1 (by omega) (by omega)
    rw [spec_CliqueNodes_p l a (by omega), impl_CliqueNodes_p l a (by omega)]
    simp only [Option.bind_some, eq_IntS _ (show szN_IntS (nodesP l a) ≤ 4294967296 by omega), eq_CliqueS l (by omega), if_true, e0, e1, g1]
    rw [if_neg (show ¬ k0 < 0 by omega)]
    simp only [Option.bind_some, Bool.not_true, Bool.false_eq_true, if_false, show ¬ k1 < 0 by omega, ne_eq, not_true_eq_false]
  · rw [if_neg h, if_pos (by omega)]
end Go.Ev
