/- Several plain texts in one. -/
import Derived.Test.YtbfjidhekfnfjaaPO
import Derived.Test.YtbfjidhekfnfjaaPF
import Derived.Test.YtbfjidhekfnfjaaPA
set_option linter.all false
/- Natural numbers as lists of limbs. No program. -/
namespace Go.Ev
/-- the base -/
def BB : Nat := 1000000000
theorem BB_eq : BB = 1000000000 := rfl
theorem BB_pos : 0 < BB := by rw [BB_eq]; omega
def val : List Int → Nat
  | [] => 0
  | d :: l => d.toNat + BB * val l
def dgs (l : List Int) : Prop := ∀ d ∈ l, 0 ≤ d ∧ d < 1000000000
theorem dgs_nil : dgs [] := by intro d h; cases h
theorem dgs_cons {d : Int} {l : List Int} : dgs (d :: l) ↔ (0 ≤ d ∧ d < 1000000000) ∧ dgs l := by
  unfold dgs
  constructor
  · intro h; exact ⟨h d (by simp), fun x hx => h x (by simp [hx])⟩
  · rintro ⟨h1, h2⟩ x hx
    rcases List.mem_cons.1 hx with rfl | hx
    · exact h1
    · exact h2 x hx
theorem dgs_app {a b : List Int} : dgs (a ++ b) ↔ dgs a ∧ dgs b := by
  unfold dgs
  constructor
  · intro h; exact ⟨fun x hx => h x (by simp [hx]), fun x hx => h x (by simp [hx])⟩
  · rintro ⟨h1, h2⟩ x hx
    rcases List.mem_append.1 hx with hx | hx
    · exact h1 x hx
    · exact h2 x hx
theorem dgs_get {l : List Int} (h : dgs l) {i : Nat} (hi : i < l.length) : 0 ≤ l[i] ∧ l[i] < 1000000000 := h _ (List.getElem_mem hi)
theorem dgs_take {l : List Int} (h : dgs l) (k : Nat) : dgs (l.take k) := fun d hd => h d (List.mem_of_mem_take hd)
theorem dgs_drop {l : List Int} (h : dgs l) (k : Nat) : dgs (l.drop k) := fun d hd => h d (List.mem_of_mem_drop hd)
theorem dgs_set {l : List Int} (h : dgs l) (k : Nat) (x : Int) (hx : 0 ≤ x ∧ x < 1000000000) : dgs (l.set k x) := by
  intro d hd
  rcases List.mem_or_eq_of_mem_set hd with h' | rfl
  · exact h d h'
  · exact hx
theorem dgs_rep (n : Nat) : dgs (List.replicate n 0) := by
  intro d hd
  rw [List.mem_replicate] at hd
  rw [hd.2]; omega
theorem val_rep (n : Nat) : val (List.replicate n 0) = 0 := by
  induction n with
  | zero => rfl
  | succ n ih => rw [List.replicate_succ, val, ih]; rfl
theorem val_app : ∀ (a b : List Int), val (a ++ b) = val a + BB ^ a.length * val b
  | [], b => by simp [val]
  | d :: a, b => by
    rw [List.cons_append, val, val, val_app a b, List.length_cons, Nat.pow_succ, Nat.mul_add, Nat.mul_comm (BB ^ a.length) BB, Nat.mul_assoc]
    omega
theorem val_lt : ∀ {l : List Int}, dgs l → val l < BB ^ l.length
  | [], _ => by simp [val]
  | d :: l, h => by
    rw [dgs_cons] at h
    have ih := val_lt h.2
    rw [val, List.length_cons, Nat.pow_succ, Nat.mul_comm _ BB]
    have h1 : d.toNat < BB := by rw [BB_eq]; omega
    have h2 : BB * (val l + 1) ≤ BB * BB ^ l.length := Nat.mul_le_mul_left _ ih
    rw [Nat.mul_add] at h2
    omega
theorem val_split (l : List Int) (k : Nat) : val l = val (l.take k) + BB ^ (min k l.length) * val (l.drop k) := by
  have := val_app (l.take k) (l.drop k)
  rw [List.take_append_drop, List.length_take] at this
  exact this
theorem val_take_succ {l : List Int} {k : Nat} (hk : k < l.length) : val (l.take (k + 1)) = val (l.take k) + BB ^ k * (l[k]).toNat := by
  rw [List.take_succ, List.getElem?_eq_getElem hk, val_app]
  simp only [Option.toList_some, val, Nat.mul_zero, Nat.add_zero, List.length_take]
  rw [Nat.min_eq_left (by omega)]
theorem val_drop_cons {l : List Int} {k : Nat} (hk : k < l.length) : val (l.drop k) = (l[k]).toNat + BB * val (l.drop (k + 1)) := by
  rw [List.drop_eq_getElem_cons hk, val]
/-- the limbs of a number -/
def digits (n : Nat) : List Int := if h : n = 0 then [] else ((n % BB : Nat) : Int) :: digits (n / BB)
  termination_by n
  decreasing_by exact Nat.div_lt_self (by omega) (by rw [BB_eq]; omega)
theorem digits_zero : digits 0 = [] := by unfold digits; simp
theorem digits_pos {n : Nat} (h : n ≠ 0) : digits n = ((n % BB : Nat) : Int) :: digits (n / BB) := by
  rw [digits, dif_neg h]
theorem digits_dgs (n : Nat) : dgs (digits n) := by
  induction n using Nat.strongRecOn with
  | _ n ih =>
    by_cases h : n = 0
    · subst h; rw [digits_zero]; exact dgs_nil
    · rw [digits_pos h, dgs_cons]
      have := Nat.mod_lt n BB_pos
      rw [BB_eq] at this
      exact ⟨⟨by omega, by rw [BB_eq]; omega⟩, ih _ (Nat.div_lt_self (by omega) (by rw [BB_eq]; omega))⟩
theorem val_digits (n : Nat) : val (digits n) = n := by
  induction n using Nat.strongRecOn with
  | _ n ih =>
    by_cases h : n = 0
    · subst h; rw [digits_zero]; rfl
    · rw [digits_pos h, val, ih _ (Nat.div_lt_self (by omega) (by rw [BB_eq]; omega))]
      have := Nat.mod_add_div n BB
      simp only [Int.toNat_natCast]; omega
theorem digits_cons {d : Int} {v : Nat} (hd : 0 ≤ d ∧ d < 1000000000) (h : d ≠ 0 ∨ v ≠ 0) : digits (d.toNat + BB * v) = d :: digits v := by
  have hd' : d.toNat < BB := by rw [BB_eq]; omega
  have hne : d.toNat + BB * v ≠ 0 := by
    rcases h with h | h
    · omega
    · have : 0 < BB * v := Nat.mul_pos BB_pos (by omega)
      omega
  rw [digits_pos hne, Nat.add_mul_mod_self_left, Nat.mod_eq_of_lt hd', Nat.add_mul_div_left _ _ BB_pos, Nat.div_eq_of_lt hd', Nat.zero_add]
  congr 1; omega
/-- zero limbs at the end are taken off -/
def trimL : List Int → List Int
  | [] => []
  | d :: l => match trimL l with
    | [] => if d = 0 then [] else [d]
    | t :: r => d :: t :: r
theorem digits_ne {n : Nat} (h : n ≠ 0) : digits n ≠ [] := by rw [digits_pos h]; simp
theorem digits_nil {n : Nat} : digits n = [] ↔ n = 0 := by
  constructor
  · intro h
    by_cases c : n = 0
    · exact c
    · exact absurd h (digits_ne c)
  · rintro rfl; exact digits_zero
theorem trimL_eq : ∀ {l : List Int}, dgs l → trimL l = digits (val l)
  | [], _ => by rw [val, digits_zero]; rfl
  | d :: l, h => by
    rw [dgs_cons] at h
    have ih := trimL_eq h.2
    unfold trimL
    rw [ih, val]
    by_cases c : val l = 0
    · rw [c, digits_zero]
      simp only [Nat.mul_zero, Nat.add_zero]
      by_cases c2 : d = 0
      · rw [if_pos c2, c2]; simp [digits_zero]
      · rw [if_neg c2]
        have := digits_cons (v := 0) h.1 (.inl c2)
        rw [digits_zero] at this
        simpa using this.symm
    · rw [digits_cons h.1 (.inr c)]
      cases hx : digits (val l) with
      | nil => exact absurd hx (digits_ne c)
      | cons t r => rfl
/-- a number without a zero limb at the end -/
def nat (l : List Int) : Prop := dgs l ∧ l.getLast? ≠ some 0
theorem nat_trim : ∀ {l : List Int}, l.getLast? ≠ some 0 → trimL l = l
  | [], _ => rfl
  | [d], h => by
    have : d ≠ 0 := by intro e; apply h; simp [e]
    simp [trimL, this]
  | d :: e :: l, h => by
    have ih : trimL (e :: l) = e :: l := nat_trim (by simpa [List.getLast?_cons_cons] using h)
    unfold trimL
    rw [ih]
theorem nat_digits {l : List Int} (h : nat l) : l = digits (val l) := by
  rw [← trimL_eq h.1, nat_trim h.2]
theorem digits_last : ∀ (n : Nat), (digits n).getLast? ≠ some 0 := by
  intro n
  induction n using Nat.strongRecOn with
  | _ n ih =>
    by_cases h : n = 0
    · subst h; rw [digits_zero]; simp
    · rw [digits_pos h]
      by_cases c : n / BB = 0
      · rw [c, digits_zero]
        have : n % BB = n := Nat.mod_eq_of_lt (by rw [Nat.div_eq_zero_iff] at c; rcases c with c | c; exact absurd c (by rw [BB_eq]; omega); exact c)
        rw [this]; simp; omega
      · have := ih _ (Nat.div_lt_self (n := n) (k := BB) (by omega) (by rw [BB_eq]; omega))
        cases hx : digits (n / BB) with
        | nil => exact absurd hx (digits_ne c)
        | cons t r => rw [hx] at this; rw [List.getLast?_cons_cons]; exact this
theorem nat_of (n : Nat) : nat (digits n) := ⟨digits_dgs n, digits_last n⟩
theorem pow_pos' (k : Nat) : 0 < BB ^ k := Nat.pow_pos BB_pos
theorem digits_len_le {n k : Nat} (h : n < BB ^ k) : (digits n).length ≤ k := by
  induction k generalizing n with
  | zero => have : n = 0 := by simpa using h
            subst this; rw [digits_zero]; simp
  | succ k ih =>
    by_cases c : n = 0
    · subst c; rw [digits_zero]; simp
    · rw [digits_pos c, List.length_cons]
      have : n / BB < BB ^ k := by
        rw [Nat.div_lt_iff_lt_mul BB_pos]
        rw [Nat.pow_succ] at h; exact h
      have := ih this; omega
theorem digits_lt (n : Nat) : n < BB ^ (digits n).length := by
  have := val_lt (digits_dgs n)
  rwa [val_digits] at this
theorem digits_ge {n : Nat} (h : n ≠ 0) : BB ^ ((digits n).length - 1) ≤ n := by
  rcases Nat.lt_or_ge n (BB ^ ((digits n).length - 1)) with c | c
  · have h1 := digits_len_le c
    have h2 : (digits n).length ≠ 0 := fun e => digits_ne h (List.length_eq_zero_iff.1 e)
    omega
  · exact c
theorem nat_of_ge {l : List Int} (h : dgs l) (k : Nat) (hl : l.length ≤ k + 1) (hv : BB ^ k ≤ val l) : l = digits (val l) := by
  refine nat_digits ⟨h, fun e => ?_⟩
  obtain ⟨r, rfl⟩ : ∃ r, l = r ++ [0] := by
    rw [List.getLast?_eq_some_iff] at e
    obtain ⟨r, hr⟩ := e
    exact ⟨r, hr⟩
  rw [dgs_app] at h
  have h1 := val_lt h.1
  rw [val_app] at hv
  simp only [val] at hv
  simp at hl hv
  have : BB ^ r.length ≤ BB ^ k := Nat.pow_le_pow_right BB_pos hl
  omega
theorem digits_inj {m n : Nat} (h : digits m = digits n) : m = n := by
  have := congrArg val h
  rwa [val_digits, val_digits] at this
theorem digits_get_top {n : Nat} (h : n ≠ 0) : n / BB ^ ((digits n).length - 1) = (((digits n)[(digits n).length - 1]?).getD 0).toNat := by
  have hl : (digits n).length ≠ 0 := fun e => digits_ne h (List.length_eq_zero_iff.1 e)
  have hk : (digits n).length - 1 < (digits n).length := by omega
  have e := val_split (digits n) ((digits n).length - 1)
  rw [val_digits, Nat.min_eq_left (by omega), val_drop_cons hk, List.drop_eq_nil_of_le (by omega), val] at e
  have h1 := val_lt (dgs_take (digits_dgs n) ((digits n).length - 1))
  rw [List.length_take, Nat.min_eq_left (by omega)] at h1
  rw [List.getElem?_eq_getElem hk]
  simp only [Option.getD_some, Nat.mul_zero, Nat.add_zero] at e ⊢
  have e2 : (val ((digits n).take ((digits n).length - 1)) + BB ^ ((digits n).length - 1) * ((digits n)[(digits n).length - 1]).toNat) / BB ^ ((digits n).length - 1) = ((digits n)[(digits n).length - 1]).toNat := by
    rw [Nat.add_mul_div_left _ _ (pow_pos' _), Nat.div_eq_of_lt h1, Nat.zero_add]
  rw [← e] at e2
  exact e2
end Go.Ev


/- Fractions made of whole numbers: both programs make the same. -/
namespace Go.Ev
set_option linter.all false
theorem wu {n : Int} (h : 0 ≤ n ∧ n ≤ 18446744073709551615) : IntKind.u64.wrap n = n := by
  have : IntKind.u64.wrap n = n % 18446744073709551616 := by simp [IntKind.wrap, IntKind.bits, IntKind.signed]
  rw [this]; omega
theorem tmodB (v : Nat) : ((v : Int)).tmod 1000000000 = ((v % BB : Nat) : Int) := by
  rw [Int.tmod_eq_emod_of_nonneg (by omega), BB_eq]; omega
theorem tdivB (v : Nat) : ((v : Int)).tdiv 1000000000 = ((v / BB : Nat) : Int) := by
  rw [Int.tdiv_eq_ediv_of_nonneg (by omega), BB_eq]; omega
theorem natOfUint_loop : ∀ (v : Nat) (t : List Int), v < 18446744073709551616 → t.length + (digits v).length ≤ 1000 → lp impl_natOfUint_L1 ((v : Int), t) = some (t ++ digits v) := by
  intro v
  induction v using Nat.strongRecOn with
  | _ v ih =>
    intro t hv ht
    by_cases h : v = 0
    · subst h
      rw [digits_zero, List.append_nil]
      exact lp_done (by unfold impl_natOfUint_L1; simp)
    · rw [digits_pos h, List.length_cons] at ht
      have hm := Nat.mod_lt v BB_pos
      have hd := Nat.div_le_self v BB
      rw [BB_eq] at hm
      have e : impl_natOfUint_L1 ((v : Int), t) = some (.inl (((v / BB : Nat) : Int), t ++ [((v % BB : Nat) : Int)])) := by
        unfold impl_natOfUint_L1
        simp only []
        rw [if_pos (by omega), tmodB, tdivB, wi (by rw [BB_eq]; omega), wu (by rw [BB_eq] at hd ⊢; omega), chk_pos (by omega)]
        rfl
      rw [lp_more e, ih _ (Nat.div_lt_self (by omega) (by rw [BB_eq]; omega)) _ (by omega) (by simp; omega), digits_pos h]
      simp
theorem digits_len64 {v : Nat} (h : v < 18446744073709551616) : (digits v).length ≤ 3 := by
  refine digits_len_le ?_
  rw [BB_eq]; omega
theorem natOfUint_p (v : Nat) (h : v < 18446744073709551616) : impl_natOfUint (v : Int) = some (digits v) := by
  unfold impl_natOfUint
  have := digits_len64 h
  rw [natOfUint_loop v [] h (by simp; omega)]
  simp
theorem NatOf_loop : ∀ (v : Nat) (t : List Int), v < 9223372036854775808 → t.length + (digits v).length ≤ 1000 → lp spec_NatOf_L1 ((v : Int), t) = some (t ++ digits v) := by
  intro v
  induction v using Nat.strongRecOn with
  | _ v ih =>
    intro t hv ht
    by_cases h : v = 0
    · subst h
      rw [digits_zero, List.append_nil]
      exact lp_done (by unfold spec_NatOf_L1; simp)
    · rw [digits_pos h, List.length_cons] at ht
      have hd := Nat.div_le_self v BB
      have e : spec_NatOf_L1 ((v : Int), t) = some (.inl (((v / BB : Nat) : Int), t ++ [((v % BB : Nat) : Int)])) := by
        unfold spec_NatOf_L1
        simp only []
        rw [if_pos (by omega), tmodB, tdivB, wi (by rw [BB_eq] at hd ⊢; omega), chk_pos (by omega)]
        rfl
      rw [lp_more e, ih _ (Nat.div_lt_self (by omega) (by rw [BB_eq]; omega)) _ (by omega) (by simp; omega), digits_pos h]
      simp
theorem NatOf_p (v : Nat) (h : v < 9223372036854775808) : spec_NatOf (v : Int) = some (digits v) := by
  unfold spec_NatOf
  have := digits_len64 (v := v) (by omega)
  rw [NatOf_loop v [] h (by simp; omega)]
  simp
/-- a list's zero limbs at the end are taken off -/
theorem trim_loop (l : List Int) (hl : l.length ≤ 4294967296) : ∀ k : Nat, k ≤ l.length → (∀ i (hi : i < l.length), k ≤ i → l[i] = 0) → lp (spec_l02Trim_L1 l) (k : Int) = some (((trimL l).length : Nat) : Int) := by
  have htl : ∀ (m : List Int) (k : Nat), k ≤ m.length → (∀ i (hi : i < m.length), k ≤ i → m[i] = 0) → trimL m = trimL (m.take k) := by
    intro m
    induction m with
    | nil => intro k _ _; simp
    | cons d m ih =>
      intro k hk hz
      cases k with
      | zero =>
        have h0 : d = 0 := hz 0 (by simp) (Nat.le_refl _)
        have := ih 0 (by omega) (fun i hi _ => by have := hz (i + 1) (by simpa using hi) (by omega); simpa using this)
        rw [List.take_zero] at this ⊢
        unfold trimL
        rw [this]; simp [trimL, h0]
      | succ k =>
        have := ih k (by simpa using hk) (fun i hi hki => by have := hz (i + 1) (by simpa using hi) (by omega); simpa using this)
        rw [List.take_succ_cons]
        conv => lhs; unfold trimL
        conv => rhs; unfold trimL
        rw [this]
  intro k
  induction k with
  | zero =>
    intro hk hz
    rw [htl l 0 (by omega) hz, List.take_zero]
    exact lp_done (by unfold spec_l02Trim_L1; simp [trimL])
  | succ k ih =>
    intro hk hz
    have hlt : k < l.length := by omega
    by_cases c : l[k] = 0
    · have e : spec_l02Trim_L1 l ((k + 1 : Nat) : Int) = some (.inl (k : Int)) := by
        unfold spec_l02Trim_L1
        rw [if_pos (by omega), wi (by omega), show ((k + 1 : Nat) : Int) - 1 = (k : Int) by omega, idx_lt hlt]
        simp [c]
      rw [lp_more e]
      exact ih (by omega) (fun i hi hki => by
        by_cases e : i = k
        · subst e; exact c
        · exact hz i hi (by omega))
    · have e : spec_l02Trim_L1 l ((k + 1 : Nat) : Int) = some (.inr ((k + 1 : Nat) : Int)) := by
        unfold spec_l02Trim_L1
        rw [if_pos (by omega), wi (by omega), show ((k + 1 : Nat) : Int) - 1 = (k : Int) by omega, idx_lt hlt]
        simp [c]
      rw [lp_done e, htl l (k + 1) hk hz, nat_trim (l := l.take (k + 1))]
      · simp; omega
      · have e : l.take (k + 1) = l.take k ++ [l[k]] := by rw [List.take_succ, List.getElem?_eq_getElem hlt]; rfl
        rw [e, List.getLast?_concat]; simpa using c
theorem trim_take (l : List Int) : trimL l = l.take (trimL l).length := by
  induction l with
  | nil => rfl
  | cons d l ih =>
    unfold trimL
    cases h : trimL l with
    | nil =>
      by_cases c : d = 0 <;> simp [c]
    | cons t r =>
      rw [h] at ih
      simp only [List.length_cons, List.take_succ_cons] at ih ⊢
      rw [← ih]
theorem trim_len_le (l : List Int) : (trimL l).length ≤ l.length := by
  have := congrArg List.length (trim_take l)
  rw [List.length_take] at this; omega
theorem l02Trim_p (l : List Int) (hl : l.length ≤ 4294967296) : spec_l02Trim l = some (trimL l) := by
  unfold spec_l02Trim
  rw [trim_loop l hl l.length (Nat.le_refl _) (fun i hi h => by omega)]
  simp only [Option.bind_some]
  have := trim_len_le l
  rw [sub_all _ _ _ (by omega)]
  simp only [Option.bind_some]
  congr 1
  have e := trim_take l
  simp only [Int.toNat_zero, List.drop_zero, Int.sub_zero, Int.toNat_natCast]
  exact e.symm
theorem l02Cap_d (v : Nat) (h : (digits v).length ≤ 60) : spec_l02Cap (digits v) = some (digits v) := by
  unfold spec_l02Cap
  rw [l02Trim_p _ (by omega)]
  simp only [Option.bind_some]
  rw [nat_trim (digits_last v), if_neg (by omega)]
/-- a whole number -/
def big (n : Int) : BigInt := ⟨decide (n < 0), digits n.natAbs⟩
theorem l03Make_d (s : Bool) (v : Nat) (h : (digits v).length ≤ 60) : spec_l03Make s (digits v) = some ⟨s && decide (v ≠ 0), digits v⟩ := by
  unfold spec_l03Make
  rw [l02Cap_d v h]
  simp only [Option.bind_some]
  have hz : (0 < ((digits v).length : Int)) ↔ v ≠ 0 := by
    constructor
    · intro h e; subst e; rw [digits_zero] at h; simp at h
    · intro h
      have : (digits v).length ≠ 0 := fun e => digits_ne h (List.length_eq_zero_iff.1 e)
      omega
  cases s with
  | true =>
    simp only [if_true]
    rw [chk_pos (by simp; omega)]
    simp only [Option.bind_some, letO_bind, List.nil_append, Bool.true_and]
    congr 2
    exact decide_eq_decide.2 hz
  | false =>
    simp only [Bool.false_eq_true, if_false]
    rw [chk_pos (by simp; omega)]
    simp only [Option.bind_some, letO_bind, List.nil_append, Bool.false_and]
theorem bigMake_d (s : Bool) (v : Nat) (h : (digits v).length ≤ 60) : impl_bigMake s (digits v) = some ⟨s && decide (v ≠ 0), digits v⟩ := by
  unfold impl_bigMake
  by_cases hv : v = 0
  · subst hv
    rw [digits_zero]; simp
  · have : (digits v).length ≠ 0 := fun e => digits_ne hv (List.length_eq_zero_iff.1 e)
    rw [if_neg (by omega)]
    simp only [Option.bind_some]
    have h2 : ¬ (60 < ((digits v).length : Int)) := by omega
    simp [h2, hv]
theorem impl_BigIntOf_p (n : Int) (h : -9223372036854775808 ≤ n ∧ n ≤ 9223372036854775807) : impl_BigIntOf n = some (big n) := by
  unfold impl_BigIntOf big
  by_cases c : n < 0
  · rw [if_pos c]
    simp only [letO_bind]
    rw [wi (n := n + 1) (by omega), wi (by omega), wu (n := 0 - (n + 1)) (by omega), wu (by omega)]
    have e : (0 - (n + 1) + 1) = ((n.natAbs : Nat) : Int) := by omega
    have hl := digits_len64 (v := n.natAbs) (by omega)
    rw [e, natOfUint_p _ (by omega)]
    simp only [Option.bind_some]
    rw [bigMake_d true _ (by omega)]
    simp only [Option.bind_some, Bool.true_and]
    have : n.natAbs ≠ 0 := by omega
    simp [c, this]
  · rw [if_neg c]
    have e : n = ((n.natAbs : Nat) : Int) := by omega
    have hl := digits_len64 (v := n.natAbs) (by omega)
    rw [wu (by omega)]
    conv => lhs; rw [e]
    rw [natOfUint_p _ (by omega)]
    simp only [Option.bind_some]
    rw [bigMake_d false _ (by omega)]
    simp [c]
theorem spec_BigIntOf_p (n : Int) (h : -9223372036854775808 ≤ n ∧ n ≤ 9223372036854775807) : spec_BigIntOf n = some (big n) := by
  unfold spec_BigIntOf big
  by_cases c0 : n = -9223372036854775808
  · rw [if_pos c0]
    subst c0
    have hd : ([854775808, 223372036, 9] : List Int) = digits 9223372036854775808 := by
      have h1 : dgs [854775808, 223372036, 9] := by intro d hd; simp at hd; omega
      have := nat_digits (l := [854775808, 223372036, 9]) ⟨h1, by simp⟩
      rw [this]; rfl
    have hl := digits_len64 (v := 9223372036854775808) (by omega)
    rw [hd, l03Make_d true _ (by omega)]
    simp only [Option.bind_some]
    rfl
  · rw [if_neg c0]
    by_cases c : n < 0
    · rw [if_pos c, wi (by omega)]
      have e : (0 - n) = ((n.natAbs : Nat) : Int) := by omega
      have hl := digits_len64 (v := n.natAbs) (by omega)
      rw [e, NatOf_p _ (by omega)]
      simp only [Option.bind_some]
      rw [l03Make_d true _ (by omega)]
      simp only [Option.bind_some, Bool.true_and]
      have : n.natAbs ≠ 0 := by omega
      simp [c, this]
    · rw [if_neg c]
      have e : n = ((n.natAbs : Nat) : Int) := by omega
      have hl := digits_len64 (v := n.natAbs) (by omega)
      conv => lhs; rw [e]
      rw [NatOf_p _ (by omega)]
      simp only [Option.bind_some]
      rw [l03Make_d false _ (by omega)]
      simp [c]
def ratI (n : Int) : Rat := ⟨big n, [1]⟩
theorem impl_RatFromInt_p (n : Int) (h : -9223372036854775808 ≤ n ∧ n ≤ 9223372036854775807) : impl_RatFromInt n = some (ratI n) := by
  unfold impl_RatFromInt
  rw [impl_BigIntOf_p n h]; rfl
theorem spec_RatFromInt_p (n : Int) (h : -9223372036854775808 ≤ n ∧ n ≤ 9223372036854775807) : spec_RatFromInt n = some (ratI n) := by
  unfold spec_RatFromInt
  rw [spec_BigIntOf_p n h]; rfl
end Go.Ev


/- Links of factors. -/
namespace Go.Ev
set_option linter.all false
theorem digits3 (n : Int) (h : -9223372036854775808 ≤ n ∧ n ≤ 9223372036854775807) : szN_Rat (ratI n) ≤ 4 := by
  have := digits_len64 (v := n.natAbs) (by omega)
  unfold szN_Rat szN_BigInt szN_IntS ratI big
  rw [szL_flat, szL_flat]; simp; omega
def zLink : Link := Link.mk 0 0 (Rat.mk (BigInt.mk false ([])) ([])) (Rat.mk (BigInt.mk false ([])) ([])) (Rat.mk (BigInt.mk false ([])) ([]))
theorem zLink_sz : szN_Link zLink ≤ 20 := by decide
theorem l01In_q (a b c : Int) : spec_l01In a b c = some (decide (b ≤ a ∧ a ≤ c)) := by
  unfold spec_l01In
  by_cases h : b ≤ a <;> simp [h]
theorem isNode_p (a : Int) : impl_isNode a = some (decide (0 ≤ a ∧ a ≤ 9)) := by
  unfold impl_isNode
  by_cases h : 0 ≤ a
  · rw [if_pos h]; congr 1; rw [decide_eq_decide]; omega
  · rw [if_neg h]; congr 1
    have : ¬ (0 ≤ a ∧ a ≤ 9) := by omega
    simp [this]
theorem l06Node_p (a : Int) : spec_l06Node a = some (decide (0 ≤ a ∧ a ≤ 9)) := by
  unfold spec_l06Node
  rw [l01In_q]; rfl
def okN (a b w x y : Int) : Prop := (0 ≤ a ∧ a ≤ 9) ∧ (0 ≤ b ∧ b ≤ 9) ∧ a ≠ b ∧ (1 ≤ w ∧ w ≤ 9999) ∧ (-1000000 ≤ x ∧ x ≤ 1000000) ∧ (-1000000 ≤ y ∧ y ≤ 1000000)
instance (a b w x y : Int) : Decidable (okN a b w x y) := by unfold okN; infer_instance
def newL (a b w x y : Int) : Link × Bool := if okN a b w x y then (if b < a then (⟨b, a, ratI w, ratI (0 - x), ratI (0 - y)⟩, true) else (⟨a, b, ratI w, ratI x, ratI y⟩, true)) else (zLink, false)
theorem newL_sz (a b w x y : Int) : szN_Link (newL a b w x y).1 ≤ 20 := by
  unfold newL
  by_cases h : okN a b w x y
  · rw [if_pos h]
    obtain ⟨_, _, _, h1, h2, h3⟩ := h
    have e1 := digits3 w (by omega)
    split
    · have e2 := digits3 (0 - x) (by omega)
      have e3 := digits3 (0 - y) (by omega)
      unfold szN_Link; simp only []; omega
    · have e2 := digits3 x (by omega)
      have e3 := digits3 y (by omega)
      unfold szN_Link; simp only []; omega
  · rw [if_neg h]; exact zLink_sz
theorem impl_NewLink_p (a b w x y : Int) : impl_NewLink a b w x y = some (newL a b w x y) := by
  unfold impl_NewLink newL
  rw [isNode_p, isNode_p, inRange_p, inRange_p]
  simp only [Option.bind_some]
  by_cases h1 : 0 ≤ a ∧ a ≤ 9
  · by_cases h2 : 0 ≤ b ∧ b ≤ 9
    · by_cases h3 : a = b
      · have : ¬ okN a b w x y := fun h => h.2.2.1 h3
        rw [if_neg this]; simp [h1, h2, h3]; rfl
      · by_cases h4 : w < 1
        · have : ¬ okN a b w x y := fun h => by have := h.2.2.2.1; omega
          rw [if_neg this]; simp [h1, h2, h3, h4]; rfl
        · by_cases h5 : 9999 < w
          · have : ¬ okN a b w x y := fun h => by have := h.2.2.2.1; omega
            rw [if_neg this]; simp [h1, h2, h3, h4, h5]; rfl
          · by_cases h6 : -1000000 ≤ x ∧ x ≤ 1000000
            · by_cases h7 : -1000000 ≤ y ∧ y ≤ 1000000
              · have hok : okN a b w x y := ⟨h1, h2, h3, by omega, h6, h7⟩
                rw [if_pos hok]
                simp only [h1, h2, h3, h4, h5, h6, h7, and_self, decide_true, decide_false, if_true, if_false, Option.bind_some, Bool.not_true, Bool.false_eq_true]
                by_cases h8 : b < a
                · rw [if_pos h8, if_pos h8, wi (by omega), wi (by omega)]
                  simp only [Option.bind_some]
                  rw [impl_RatFromInt_p w (by omega), impl_RatFromInt_p (0 - x) (by omega), impl_RatFromInt_p (0 - y) (by omega)]; rfl
                · rw [if_neg h8, if_neg h8]
                  simp only [Option.bind_some]
                  rw [impl_RatFromInt_p w (by omega), impl_RatFromInt_p x (by omega), impl_RatFromInt_p y (by omega)]; rfl
              · have : ¬ okN a b w x y := fun h => h7 h.2.2.2.2.2
                rw [if_neg this]; simp only [h1, h2, h3, h4, h5, h6, h7, and_self, decide_true, decide_false, if_true, if_false, Option.bind_some, Bool.not_false, Bool.false_eq_true]; rfl
            · have : ¬ okN a b w x y := fun h => h6 h.2.2.2.2.1
              rw [if_neg this]; simp only [h1, h2, h3, h4, h5, h6, and_self, decide_true, decide_false, if_true, if_false, Option.bind_some, Bool.not_false, Bool.false_eq_true]; rfl
    · have : ¬ okN a b w x y := fun h => h2 h.2.1
      rw [if_neg this]; simp only [h1, h2, and_self, decide_true, decide_false, if_true, if_false, Option.bind_some, Bool.false_eq_true]; rfl
  · have : ¬ okN a b w x y := fun h => h1 h.1
    rw [if_neg this]; simp only [h1, decide_false, if_true, if_false, Option.bind_some, Bool.false_eq_true]; rfl
theorem spec_NewLink_p (a b w x y : Int) : spec_NewLink a b w x y = some (newL a b w x y) := by
  unfold spec_NewLink newL
  rw [l06Node_p, l06Node_p, l01In_q, l01In_q, l01In_q]
  simp only [Option.bind_some]
  by_cases h1 : 0 ≤ a ∧ a ≤ 9
  · by_cases h2 : 0 ≤ b ∧ b ≤ 9
    · by_cases h3 : a = b
      · have : ¬ okN a b w x y := fun h => h.2.2.1 h3
        rw [if_neg this]; simp [h1, h2, h3]; rfl
      · by_cases h4 : 1 ≤ w ∧ w ≤ 9999
        · by_cases h6 : -1000000 ≤ x ∧ x ≤ 1000000
          · by_cases h7 : -1000000 ≤ y ∧ y ≤ 1000000
            · have hok : okN a b w x y := ⟨h1, h2, h3, by omega, h6, h7⟩
              rw [if_pos hok]
              simp only [h1, h2, h3, h4, h6, h7, and_self, decide_true, decide_false, if_true, if_false, Option.bind_some, Bool.not_true, Bool.false_eq_true]
              by_cases h8 : b < a
              · rw [if_pos h8, if_pos h8, wi (by omega), wi (by omega)]
                simp only [Option.bind_some]
                rw [spec_RatFromInt_p w (by omega), spec_RatFromInt_p (0 - x) (by omega), spec_RatFromInt_p (0 - y) (by omega)]; rfl
              · rw [if_neg h8, if_neg h8]
                simp only [Option.bind_some]
                rw [spec_RatFromInt_p w (by omega), spec_RatFromInt_p x (by omega), spec_RatFromInt_p y (by omega)]; rfl
            · have : ¬ okN a b w x y := fun h => h7 h.2.2.2.2.2
              rw [if_neg this]; simp only [h1, h2, h3, h4, h6, h7, and_self, decide_true, decide_false, if_true, if_false, Option.bind_some, Bool.not_false, Bool.false_eq_true]; rfl
          · have : ¬ okN a b w x y := fun h => h6 h.2.2.2.2.1
            rw [if_neg this]; simp only [h1, h2, h3, h4, h6, and_self, decide_true, decide_false, if_true, if_false, Option.bind_some, Bool.not_false, Bool.false_eq_true]; rfl
        · have : ¬ okN a b w x y := fun h => h4 h.2.2.2.1
          rw [if_neg this]; simp only [h1, h2, h3, h4, and_self, decide_true, decide_false, if_true, if_false, Option.bind_some, Bool.not_false, Bool.false_eq_true]; rfl
    · have : ¬ okN a b w x y := fun h => h2 h.2.1
      rw [if_neg this]; simp only [h1, h2, and_self, decide_true, decide_false, if_true, if_false, Option.bind_some, Bool.false_eq_true]; rfl
  · have : ¬ okN a b w x y := fun h => h1 h.1
    rw [if_neg this]; simp only [h1, decide_false, if_true, if_false, Option.bind_some, Bool.false_eq_true]; rfl
theorem rot_zero (t : Int) : impl_RotateXY 0 0 t = some (0, 0) := by
  have main : ∀ n : Nat, ∀ k : Int, 0 ≤ k → k ≤ 3 → t ≤ 3 → t - k ≤ n → lp (impl_RotateXY_L1 t) (0, 0, k) = some (0, 0) := by
    intro n
    induction n with
    | zero =>
      intro k h0 h3 ht hk
      exact lp_done (by unfold impl_RotateXY_L1; simp only []; rw [if_neg (by omega)])
    | succ n ih =>
      intro k h0 h3 ht hk
      by_cases c : k < t
      · have e : impl_RotateXY_L1 t (0, 0, k) = some (.inl (0, 0, k + 1)) := by
          unfold impl_RotateXY_L1; simp only []; rw [if_pos c, wi (n := k + 1) (by omega), wi (n := 0 - 0) (by omega)]; rfl
        rw [lp_more e]; exact ih (k + 1) (by omega) (by omega) ht (by omega)
      · exact lp_done (by unfold impl_RotateXY_L1; simp only []; rw [if_neg c])
  unfold impl_RotateXY
  rw [inRange_p]
  simp only [Option.bind_some]
  by_cases h1 : t < 0
  · simp [h1]
  · by_cases h2 : 3 < t
    · simp [h1, h2]
    · simp [h1, h2, main 3 0 (by omega) (by omega) (by omega) (by omega)]
theorem HeadingOf_q (l : List Factor) (s : ByteArray) (hl : l.length ≤ 1048576) (hf : ∀ f ∈ l, bigF f) (h : isFL l = true) (v : List Int) (ev : impl_HeadingsOf l = some v) (hv : v.length = (namesOf l).length) (h0 : 0 ≤ nIdx (namesOf l) s) : impl_HeadingOf l s = some (atI 0 v (nIdx (namesOf l) s)) := by
  have hn := namesOf_len l
  have hb := nIdx_bound (namesOf l) s
  unfold impl_HeadingOf
  rw [impl_NamesOf_p l (by omega), ev]
  simp only [Option.bind_some, nIdx_p (namesOf l) s (by omega)]
  have h1 : ¬ nIdx (namesOf l) s < 0 := by omega
  have h2 : ¬ (v.length : Int) ≤ nIdx (namesOf l) s := by omega
  rw [idx_at 0 h0 (by omega)]
  simp [h1, h2]
theorem LinkOf_p (l : List Factor) (f : Factor) (hl : l.length ≤ 1048576) (hf : ∀ f ∈ l, bigF f) (hff : bigF f) : ∃ v, spec_LinkOfFactor l f = some v ∧ impl_LinkOfFactor l f = some v ∧ szN_Link v.1 ≤ 20 := by
  obtain ⟨n1, n2⟩ := NodeOf_p l f.fTo (by omega) hf
  obtain ⟨n3, n4⟩ := NodeOf_p l f.fFrom (by omega) hf
  obtain ⟨g1, g2⟩ := validF_p f hff
  unfold spec_LinkOfFactor impl_LinkOfFactor
  rw [spec_isFL l (by omega) hf, impl_isFL l (by omega) hf, g1, g2, n1, n2, n3, n4]
  simp only [Option.bind_some]
  by_cases h : isFL l = true
  · simp only [h, if_true, Option.bind_some]
    by_cases hg : goodF f = true
    · simp only [hg, if_true, Option.bind_some, Bool.not_true, Bool.false_eq_true, if_false, decide_eq_true_eq]
      by_cases h0 : nIdx (namesOf l) f.fTo + 1 = 0
      · rw [if_pos h0, if_pos h0]; exact ⟨_, rfl, rfl, zLink_sz⟩
      · rw [if_neg h0, if_neg h0]
        by_cases hk : f.fKind = 1
        · rw [if_pos hk, if_pos hk, spec_NewLink_p, impl_NewLink_p]
          exact ⟨_, rfl, rfl, newL_sz _ _ _ _ _⟩
        · rw [if_neg hk, if_neg hk]
          by_cases h1 : nIdx (namesOf l) f.fFrom + 1 = 0
          · rw [if_pos h1, if_pos h1]; exact ⟨_, rfl, rfl, zLink_sz⟩
          · rw [if_neg h1, if_neg h1]
            obtain ⟨v, e1, e2, hv10, hv⟩ := HeadingsOf_p l (by omega) hf
            rw [if_pos h] at hv
            have hb := nIdx_bound (namesOf l) f.fFrom
            have hn := namesOf_len l
            rw [e1, HeadingOf_q l f.fFrom hl hf h v e2 hv (by omega)]
            simp only [Option.bind_some]
            rw [wi (by omega), show nIdx (namesOf l) f.fFrom + 1 - 1 = nIdx (namesOf l) f.fFrom by omega, idx_at 0 (by omega) (by omega)]
            simp only [Option.bind_some]
            generalize atI 0 v (nIdx (namesOf l) f.fFrom) = a
            by_cases hx : f.fPose.fX = 0
            · by_cases hy : f.fPose.fY = 0
              · -- no offset
                simp only [hx, hy, ne_eq, not_true_eq_false, if_false, decide_false, Option.bind_some, Bool.false_eq_true]
                have hrot : ∀ t, spec_RotateXY 0 0 t = some (0, 0) := by
                  intro t
                  obtain ⟨r, q1, q2⟩ := rot_p 0 0 t
                  rw [rot_zero] at q2; cases q2; exact q1
                by_cases ha : a < 0
                · simp only [ha, if_true, Option.bind_some, Bool.false_eq_true, if_false, hrot]
                  rw [spec_NewLink_p, impl_NewLink_p]
                  exact ⟨_, rfl, rfl, newL_sz _ _ _ _ _⟩
                · simp only [ha, if_false, Option.bind_some, Bool.false_eq_true, hrot]
                  rw [spec_NewLink_p, impl_NewLink_p]
                  exact ⟨_, rfl, rfl, newL_sz _ _ _ _ _⟩
              · obtain ⟨r, q1, q2⟩ := rot_p f.fPose.fX f.fPose.fY a
                rw [hx] at q1 q2
                by_cases ha : a < 0
                · simp only [hx, hy, ha, ne_eq, not_true_eq_false, not_false_eq_true, if_false, if_true, decide_true, Option.bind_some, Bool.false_eq_true]
                  exact ⟨_, rfl, rfl, zLink_sz⟩
                · simp only [hx, hy, ha, ne_eq, not_true_eq_false, not_false_eq_true, if_false, if_true, decide_true, Option.bind_some, Bool.false_eq_true, q1, q2]
                  rw [spec_NewLink_p, impl_NewLink_p]
                  exact ⟨_, rfl, rfl, newL_sz _ _ _ _ _⟩
            · obtain ⟨r, q1, q2⟩ := rot_p f.fPose.fX f.fPose.fY a
              by_cases ha : a < 0
              · simp only [hx, ha, ne_eq, not_true_eq_false, not_false_eq_true, if_false, if_true, decide_true, Option.bind_some, Bool.false_eq_true]
                exact ⟨_, rfl, rfl, zLink_sz⟩
              · simp only [hx, ha, ne_eq, not_true_eq_false, not_false_eq_true, if_false, if_true, decide_true, Option.bind_some, Bool.false_eq_true, q1, q2]
                rw [spec_NewLink_p, impl_NewLink_p]
                exact ⟨_, rfl, rfl, newL_sz _ _ _ _ _⟩
    · simp only [hg, Option.bind_some, Bool.not_false, if_true, Bool.false_eq_true, if_false]
      exact ⟨_, rfl, rfl, zLink_sz⟩
  · simp only [h, Option.bind_some, Bool.false_eq_true, if_false, if_true]
    exact ⟨_, rfl, rfl, zLink_sz⟩
end Go.Ev


/- The law of a factor's link. -/
namespace Go.Ev
set_option linter.all false
theorem szFactor_tot (f : Factor) (left : Int) : ∃ r, laws_szFactor f left = some r := by
  unfold laws_szFactor
  simp only [letO_bind]
  by_cases c : IntKind.i64.wrap (left - (f.fFrom.size : Int)) < 0
  · rw [if_pos c]; exact ⟨_, rfl⟩
  · rw [if_neg c]
    split
    · exact ⟨_, rfl⟩
    · exact ⟨_, rfl⟩
theorem law_LinkOfFactor (l : List Factor) (f : Factor) (o : okL okFactor l) (o2 : okFactor f) : laws_FnExactLinkOfFactor l f = some true := by
  obtain ⟨hl0, hf⟩ := bigF_of o
  have o3 : okL okFactor [f] := ⟨by show 1 ≤ maxLen; unfold maxLen; omega, fun x hx => by simp at hx; subst hx; exact o2⟩
  have hff : bigF f := (bigF_of o3).2 f (by simp)
  unfold laws_FnExactLinkOfFactor
  obtain ⟨r, er, hr⟩ := szFactorS_p l hl0 hf
  rw [er]
  simp only [Option.bind_some]
  by_cases h2 : r < 0
  · rw [if_pos h2]
  · rw [if_neg h2]
    obtain ⟨r2, er2⟩ := szFactor_tot f r
    rw [er2]
    simp only [Option.bind_some]
    by_cases h3 : r2 < 0
    · rw [if_pos h3]
    · rw [if_neg h3]
      obtain ⟨hl, _⟩ := hr h2
      obtain ⟨v, e1, e2, e3⟩ := LinkOf_p l f hl hf hff
      have hm1 := markFactorS_m l 1 (by omega)
      rw [show ((1 : Nat) : Int) = 1 from rfl] at hm1
      have c2 : ¬ (((1 + 8 * l.length : Nat) : Int) < 0) := by omega
      obtain ⟨k3, x3, n1, n2, n3, n4⟩ := mh_Link v.1 1 (by omega) (by omega)
      have c3 : ¬ k3 < 0 := by omega
      rw [toFactorS_id l hl, toFactor_id f]
      simp only [Option.bind_some, e1, e2, eq_Link v.1 (by omega), eqFactorS_self l (by omega), hm1, n1, n2, c2, c3, if_true, if_false, beq_self_eq_true, Bool.not_true, Bool.false_eq_true, ne_eq, not_true_eq_false]
end Go.Ev

