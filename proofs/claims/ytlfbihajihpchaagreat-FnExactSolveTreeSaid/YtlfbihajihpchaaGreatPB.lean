/- Several plain texts in one. -/
import Derived.Test.YtlfbihajihpchaaGreatPO
import Derived.Test.YtlfbihajihpchaaGreatLd
import Derived.Test.YtlfbihajihpchaaGreatPF
set_option linter.all false
/- Is a number in a list. -/
namespace Go.Ev
set_option linter.all false
theorem hasInt_p (l : List Int) (n : Int) (h : l.length ≤ 4294967296) : impl_hasInt l n = some (decide (n ∈ l)) := by
  have main : ∀ m k : Nat, m + k = l.length → lp (impl_hasInt_L1 l n) (k : Int) = some (if n ∈ l.drop k then .inr true else .inl ()) := by
    intro m
    induction m with
    | zero =>
      intro k hk
      have : k = l.length := by omega
      subst this
      rw [lp_done (r := .inl ()) (by unfold impl_hasInt_L1; rw [if_neg (by omega)]), List.drop_length]; simp
    | succ m ih =>
      intro k hk
      have hlt : k < l.length := by omega
      rw [List.drop_eq_getElem_cons hlt]
      by_cases c : l[k] = n
      · rw [lp_done (r := .inr true) (by unfold impl_hasInt_L1; rw [if_pos (by omega), idx_lt hlt]; simp [c]), if_pos (by simp [c])]
      · have e : impl_hasInt_L1 l n (k : Int) = some (.inl ((k : Int) + 1)) := by
          unfold impl_hasInt_L1; rw [if_pos (by omega), idx_lt hlt, wi (by omega)]; simp [c]
        rw [lp_more e, show (k : Int) + 1 = ((k + 1 : Nat) : Int) by omega, ih (k + 1) (by omega)]
        have : (n ∈ l[k] :: l.drop (k + 1)) ↔ n ∈ l.drop (k + 1) := by
          rw [List.mem_cons]; exact ⟨fun h => h.resolve_left (fun e => c e.symm), .inr⟩
        simp only [this]
  have := main l.length 0 (by omega)
  rw [show ((0 : Nat) : Int) = 0 from rfl, List.drop_zero] at this
  unfold impl_hasInt
  rw [this]
  by_cases c : n ∈ l <;> simp [c]
end Go.Ev

/- Copies of conditionals; the net of a tree. -/
namespace Go.Ev
set_option linter.all false
theorem spec_l04Copy_p (x : Rat) (h : szN_Rat x ≤ 4294967296) : spec_l04Copy x = some x := by
  unfold szN_Rat szN_BigInt szN_IntS at h
  rw [szL_flat, szL_flat] at h
  unfold spec_l04Copy
  rw [chk_pos (by simp; omega), chk_pos (by simp; omega)]
  simp only [Option.bind_some, letO_bind, List.nil_append]
theorem impl_copyInts_p (l : List Int) (h : l.length ≤ 4294967296) : impl_copyInts l = some l := by
  unfold impl_copyInts
  rw [chk_pos (by simp; omega)]
  simp only [Option.bind_some, letO_bind, List.nil_append]
theorem impl_copyRat_p (x : Rat) (h : szN_Rat x ≤ 4294967296) : impl_copyRat x = some x := by
  unfold szN_Rat szN_BigInt szN_IntS at h
  rw [szL_flat, szL_flat] at h
  unfold impl_copyRat
  rw [impl_copyInts_p _ (by omega)]
  simp only [Option.bind_some]
  rw [impl_copyInts_p _ (by omega)]
  simp only [Option.bind_some]

theorem spec_l08Copy_p (c : Conditional) (h : szN_Conditional c ≤ 4294967296) : spec_l08Copy c = some c := by
  have hp := szL_len szN_Parent c.fParents
  unfold szN_Conditional szN_ParentS at h
  unfold spec_l08Copy
  rw [spec_l04Copy_p _ (by omega)]
  simp only [Option.bind_some]
  have := lp_copyE (step := spec_l08Copy_L1 c) c.fParents (fun k t => ((k : Int), t)) (fun t => t) (fun k t hk ht => by
    have he := szL_mem (w := szN_Parent) (List.getElem_mem hk)
    have hn : szN_Parent c.fParents[k] = szN_Rat (c.fParents[k]).fShare + szN_Rat (c.fParents[k]).fDX + szN_Rat (c.fParents[k]).fDY := rfl
    unfold spec_l08Copy_L1
    simp only []
    rw [if_pos (by omega), idx_lt hk]
    simp only [Option.bind_some]
    rw [spec_l04Copy_p _ (by omega)]
    simp only [Option.bind_some]
    rw [spec_l04Copy_p _ (by omega)]
    simp only [Option.bind_some]
    rw [spec_l04Copy_p _ (by omega)]
    simp only [Option.bind_some]
    rw [chk_pos (by omega), wi (by omega)]; rfl) (fun t ht => by unfold spec_l08Copy_L1; simp only []; rw [if_neg (by omega)])
  rw [show ((0 : Nat) : Int) = 0 from rfl] at this
  rw [this]; rfl
theorem impl_copyConditional_p (c : Conditional) (h : szN_Conditional c ≤ 4294967296) : impl_copyConditional c = some c := by
  have hp := szL_len szN_Parent c.fParents
  unfold szN_Conditional szN_ParentS at h
  unfold impl_copyConditional
  rw [impl_copyRat_p _ (by omega)]
  simp only [Option.bind_some]
  have := lp_copyE (step := impl_copyConditional_L1 c) c.fParents (fun k t => ((k : Int), t)) (fun t => t) (fun k t hk ht => by
    have he := szL_mem (w := szN_Parent) (List.getElem_mem hk)
    have hn : szN_Parent c.fParents[k] = szN_Rat (c.fParents[k]).fShare + szN_Rat (c.fParents[k]).fDX + szN_Rat (c.fParents[k]).fDY := rfl
    unfold impl_copyConditional_L1
    simp only []
    rw [if_pos (by omega), idx_lt hk]
    simp only [Option.bind_some]
    rw [impl_copyRat_p _ (by omega)]
    simp only [Option.bind_some]
    rw [impl_copyRat_p _ (by omega)]
    simp only [Option.bind_some]
    rw [impl_copyRat_p _ (by omega)]
    simp only [Option.bind_some]
    rw [chk_pos (by omega), wi (by omega)]; rfl) (fun t ht => by unfold impl_copyConditional_L1; simp only []; rw [if_neg (by omega)])
  rw [show ((0 : Nat) : Int) = 0 from rfl] at this
  rw [this]; rfl
def condAll (l : List TreeNode) : List Conditional := l.map (fun n => n.fCond)
theorem condAll_sz : ∀ l : List TreeNode, szN_ConditionalS (condAll l) ≤ szL szN_TreeNode l
  | [] => by simp [condAll, szN_ConditionalS, szL_nil]
  | y :: l => by
    have := condAll_sz l
    have hn : szN_TreeNode y = szN_LinkS y.fOwn + szN_Conditional y.fCond + szN_LinkS y.fMessages + szN_Rat y.fEnergy := rfl
    unfold condAll szN_ConditionalS at *
    rw [List.map_cons, szL_cons, szL_cons]
    omega
theorem spec_TreeNet_p (t : Tree) (h : szN_Tree t ≤ 4294967296) : spec_TreeNet t = some (condAll t.fNodes) := by
  unfold szN_Tree szN_TreeNodeS at h
  have hl := szL_len szN_TreeNode t.fNodes
  unfold spec_TreeNet
  have := lp_foldl (step := spec_TreeNet_L1 t) t.fNodes (fun k (m : List Conditional) => ((k : Int), m)) (fun m y => m ++ [y.fCond]) (fun m => m) (fun k m => m = condAll (t.fNodes.take k)) (fun k m hk hi => by
    have he := szL_mem (w := szN_TreeNode) (List.getElem_mem hk)
    have hn : szN_TreeNode t.fNodes[k] = szN_LinkS (t.fNodes[k]).fOwn + szN_Conditional (t.fNodes[k]).fCond + szN_LinkS (t.fNodes[k]).fMessages + szN_Rat (t.fNodes[k]).fEnergy := rfl
    have ht : condAll (t.fNodes.take (k + 1)) = condAll (t.fNodes.take k) ++ [(t.fNodes[k]).fCond] := by unfold condAll; rw [List.take_succ, List.getElem?_eq_getElem hk, List.map_append]; rfl
    have hlen : (condAll (t.fNodes.take k)).length ≤ k := by unfold condAll; simp; omega
    subst hi
    refine ⟨?_, ht.symm⟩
    unfold spec_TreeNet_L1
    simp only []
    rw [if_pos (by omega), idx_lt hk]
    simp only [Option.bind_some]
    rw [spec_l08Copy_p _ (by omega)]
    simp only [Option.bind_some]
    rw [chk_pos (by omega), wi (by omega)]; rfl) (fun m hi => by unfold spec_TreeNet_L1; simp only []; rw [if_neg (by omega)]) [] rfl
  rw [show ((0 : Nat) : Int) = 0 from rfl] at this
  obtain ⟨e1, e2⟩ := this
  rw [e1, e2, List.take_length]; rfl
theorem impl_TreeNet_p (t : Tree) (h : szN_Tree t ≤ 4294967296) : impl_TreeNet t = some (condAll t.fNodes) := by
  unfold szN_Tree szN_TreeNodeS at h
  have hl := szL_len szN_TreeNode t.fNodes
  unfold impl_TreeNet
  have := lp_foldl (step := impl_TreeNet_L1 t) t.fNodes (fun k (m : List Conditional) => ((k : Int), m)) (fun m y => m ++ [y.fCond]) (fun m => m) (fun k m => m = condAll (t.fNodes.take k)) (fun k m hk hi => by
    have he := szL_mem (w := szN_TreeNode) (List.getElem_mem hk)
    have hn : szN_TreeNode t.fNodes[k] = szN_LinkS (t.fNodes[k]).fOwn + szN_Conditional (t.fNodes[k]).fCond + szN_LinkS (t.fNodes[k]).fMessages + szN_Rat (t.fNodes[k]).fEnergy := rfl
    have ht : condAll (t.fNodes.take (k + 1)) = condAll (t.fNodes.take k) ++ [(t.fNodes[k]).fCond] := by unfold condAll; rw [List.take_succ, List.getElem?_eq_getElem hk, List.map_append]; rfl
    have hlen : (condAll (t.fNodes.take k)).length ≤ k := by unfold condAll; simp; omega
    subst hi
    refine ⟨?_, ht.symm⟩
    unfold impl_TreeNet_L1
    simp only []
    rw [if_pos (by omega), idx_lt hk]
    simp only [Option.bind_some]
    rw [impl_copyConditional_p _ (by omega)]
    simp only [Option.bind_some]
    rw [chk_pos (by omega), wi (by omega)]; rfl) (fun m hi => by unfold impl_TreeNet_L1; simp only []; rw [if_neg (by omega)]) [] rfl
  rw [show ((0 : Nat) : Int) = 0 from rfl] at this
  obtain ⟨e1, e2⟩ := this
  rw [e1, e2, List.take_length]; rfl
end Go.Ev

/- Natural numbers as lists of limbs. No program. -/
namespace Go.Ev
/-- the base -/
def BB : Nat := 1000000000
theorem BB_eq : BB = 1000000000 := rfl
theorem BB_pos : 0 < BB := by rw [BB_eq]; omega
def val : List Int → Nat
  | [] => 0
  | d :: l => d.toNat + BB * val l
def dgs (l : List Int) : Prop := ∀ d ∈ l, 0 ≤ d ∧ d < 1000000000
theorem dgs_nil : dgs [] := by intro d h; cases h
theorem dgs_cons {d : Int} {l : List Int} : dgs (d :: l) ↔ (0 ≤ d ∧ d < 1000000000) ∧ dgs l := by
  unfold dgs
  constructor
  · intro h; exact ⟨h d (by simp), fun x hx => h x (by simp [hx])⟩
  · rintro ⟨h1, h2⟩ x hx
    rcases List.mem_cons.1 hx with rfl | hx
    · exact h1
    · exact h2 x hx
theorem dgs_app {a b : List Int} : dgs (a ++ b) ↔ dgs a ∧ dgs b := by
  unfold dgs
  constructor
  · intro h; exact ⟨fun x hx => h x (by simp [hx]), fun x hx => h x (by simp [hx])⟩
  · rintro ⟨h1, h2⟩ x hx
    rcases List.mem_append.1 hx with hx | hx
    · exact h1 x hx
    · exact h2 x hx
theorem dgs_get {l : List Int} (h : dgs l) {i : Nat} (hi : i < l.length) : 0 ≤ l[i] ∧ l[i] < 1000000000 := h _ (List.getElem_mem hi)
theorem dgs_take {l : List Int} (h : dgs l) (k : Nat) : dgs (l.take k) := fun d hd => h d (List.mem_of_mem_take hd)
theorem dgs_drop {l : List Int} (h : dgs l) (k : Nat) : dgs (l.drop k) := fun d hd => h d (List.mem_of_mem_drop hd)
theorem dgs_set {l : List Int} (h : dgs l) (k : Nat) (x : Int) (hx : 0 ≤ x ∧ x < 1000000000) : dgs (l.set k x) := by
  intro d hd
  rcases List.mem_or_eq_of_mem_set hd with h' | rfl
  · exact h d h'
  · exact hx
theorem dgs_rep (n : Nat) : dgs (List.replicate n 0) := by
  intro d hd
  rw [List.mem_replicate] at hd
  rw [hd.2]; omega
theorem val_rep (n : Nat) : val (List.replicate n 0) = 0 := by
  induction n with
  | zero => rfl
  | succ n ih => rw [List.replicate_succ, val, ih]; rfl
theorem val_app : ∀ (a b : List Int), val (a ++ b) = val a + BB ^ a.length * val b
  | [], b => by simp [val]
  | d :: a, b => by
    rw [List.cons_append, val, val, val_app a b, List.length_cons, Nat.pow_succ, Nat.mul_add, Nat.mul_comm (BB ^ a.length) BB, Nat.mul_assoc]
    omega
theorem val_lt : ∀ {l : List Int}, dgs l → val l < BB ^ l.length
  | [], _ => by simp [val]
  | d :: l, h => by
    rw [dgs_cons] at h
    have ih := val_lt h.2
    rw [val, List.length_cons, Nat.pow_succ, Nat.mul_comm _ BB]
    have h1 : d.toNat < BB := by rw [BB_eq]; omega
    have h2 : BB * (val l + 1) ≤ BB * BB ^ l.length := Nat.mul_le_mul_left _ ih
    rw [Nat.mul_add] at h2
    omega
theorem val_take_succ {l : List Int} {k : Nat} (hk : k < l.length) : val (l.take (k + 1)) = val (l.take k) + BB ^ k * (l[k]).toNat := by
  rw [List.take_succ, List.getElem?_eq_getElem hk, val_app]
  simp only [Option.toList_some, val, Nat.mul_zero, Nat.add_zero, List.length_take]
  rw [Nat.min_eq_left (by omega)]
theorem val_drop_cons {l : List Int} {k : Nat} (hk : k < l.length) : val (l.drop k) = (l[k]).toNat + BB * val (l.drop (k + 1)) := by
  rw [List.drop_eq_getElem_cons hk, val]
/-- the limbs of a number -/
def digits (n : Nat) : List Int := if h : n = 0 then [] else ((n % BB : Nat) : Int) :: digits (n / BB)
  termination_by n
  decreasing_by exact Nat.div_lt_self (by omega) (by rw [BB_eq]; omega)
theorem digits_zero : digits 0 = [] := by unfold digits; simp
theorem digits_pos {n : Nat} (h : n ≠ 0) : digits n = ((n % BB : Nat) : Int) :: digits (n / BB) := by
  rw [digits, dif_neg h]
theorem digits_dgs (n : Nat) : dgs (digits n) := by
  induction n using Nat.strongRecOn with
  | _ n ih =>
    by_cases h : n = 0
    · subst h; rw [digits_zero]; exact dgs_nil
    · rw [digits_pos h, dgs_cons]
      have := Nat.mod_lt n BB_pos
      rw [BB_eq] at this
      exact ⟨⟨by omega, by rw [BB_eq]; omega⟩, ih _ (Nat.div_lt_self (by omega) (by rw [BB_eq]; omega))⟩
theorem val_digits (n : Nat) : val (digits n) = n := by
  induction n using Nat.strongRecOn with
  | _ n ih =>
    by_cases h : n = 0
    · subst h; rw [digits_zero]; rfl
    · rw [digits_pos h, val, ih _ (Nat.div_lt_self (by omega) (by rw [BB_eq]; omega))]
      have := Nat.mod_add_div n BB
      simp only [Int.toNat_natCast]; omega
theorem digits_cons {d : Int} {v : Nat} (hd : 0 ≤ d ∧ d < 1000000000) (h : d ≠ 0 ∨ v ≠ 0) : digits (d.toNat + BB * v) = d :: digits v := by
  have hd' : d.toNat < BB := by rw [BB_eq]; omega
  have hne : d.toNat + BB * v ≠ 0 := by
    rcases h with h | h
    · omega
    · have : 0 < BB * v := Nat.mul_pos BB_pos (by omega)
      omega
  rw [digits_pos hne, Nat.add_mul_mod_self_left, Nat.mod_eq_of_lt hd', Nat.add_mul_div_left _ _ BB_pos, Nat.div_eq_of_lt hd', Nat.zero_add]
  congr 1; omega
/-- zero limbs at the end are taken off -/
def trimL : List Int → List Int
  | [] => []
  | d :: l => match trimL l with
    | [] => if d = 0 then [] else [d]
    | t :: r => d :: t :: r
theorem digits_ne {n : Nat} (h : n ≠ 0) : digits n ≠ [] := by rw [digits_pos h]; simp
theorem digits_nil {n : Nat} : digits n = [] ↔ n = 0 := by
  constructor
  · intro h
    by_cases c : n = 0
    · exact c
    · exact absurd h (digits_ne c)
  · rintro rfl; exact digits_zero
theorem trimL_eq : ∀ {l : List Int}, dgs l → trimL l = digits (val l)
  | [], _ => by rw [val, digits_zero]; rfl
  | d :: l, h => by
    rw [dgs_cons] at h
    have ih := trimL_eq h.2
    unfold trimL
    rw [ih, val]
    by_cases c : val l = 0
    · rw [c, digits_zero]
      simp only [Nat.mul_zero, Nat.add_zero]
      by_cases c2 : d = 0
      · rw [if_pos c2, c2]; simp [digits_zero]
      · rw [if_neg c2]
        have := digits_cons (v := 0) h.1 (.inl c2)
        rw [digits_zero] at this
        simpa using this.symm
    · rw [digits_cons h.1 (.inr c)]
      cases hx : digits (val l) with
      | nil => exact absurd hx (digits_ne c)
      | cons t r => rfl
/-- a number without a zero limb at the end -/
def nat (l : List Int) : Prop := dgs l ∧ l.getLast? ≠ some 0
theorem nat_trim : ∀ {l : List Int}, l.getLast? ≠ some 0 → trimL l = l
  | [], _ => rfl
  | [d], h => by
    have : d ≠ 0 := by intro e; apply h; simp [e]
    simp [trimL, this]
  | d :: e :: l, h => by
    have ih : trimL (e :: l) = e :: l := nat_trim (by simpa [List.getLast?_cons_cons] using h)
    unfold trimL
    rw [ih]
theorem nat_digits {l : List Int} (h : nat l) : l = digits (val l) := by
  rw [← trimL_eq h.1, nat_trim h.2]
theorem digits_last : ∀ (n : Nat), (digits n).getLast? ≠ some 0 := by
  intro n
  induction n using Nat.strongRecOn with
  | _ n ih =>
    by_cases h : n = 0
    · subst h; rw [digits_zero]; simp
    · rw [digits_pos h]
      by_cases c : n / BB = 0
      · rw [c, digits_zero]
        have : n % BB = n := Nat.mod_eq_of_lt (by rw [Nat.div_eq_zero_iff] at c; rcases c with c | c; exact absurd c (by rw [BB_eq]; omega); exact c)
        rw [this]; simp; omega
      · have := ih _ (Nat.div_lt_self (n := n) (k := BB) (by omega) (by rw [BB_eq]; omega))
        cases hx : digits (n / BB) with
        | nil => exact absurd hx (digits_ne c)
        | cons t r => rw [hx] at this; rw [List.getLast?_cons_cons]; exact this
theorem nat_of (n : Nat) : nat (digits n) := ⟨digits_dgs n, digits_last n⟩
theorem pow_pos' (k : Nat) : 0 < BB ^ k := Nat.pow_pos BB_pos
theorem digits_len_le {n k : Nat} (h : n < BB ^ k) : (digits n).length ≤ k := by
  induction k generalizing n with
  | zero => have : n = 0 := by simpa using h
            subst this; rw [digits_zero]; simp
  | succ k ih =>
    by_cases c : n = 0
    · subst c; rw [digits_zero]; simp
    · rw [digits_pos c, List.length_cons]
      have : n / BB < BB ^ k := by
        rw [Nat.div_lt_iff_lt_mul BB_pos]
        rw [Nat.pow_succ] at h; exact h
      have := ih this; omega
theorem digits_lt (n : Nat) : n < BB ^ (digits n).length := by
  have := val_lt (digits_dgs n)
  rwa [val_digits] at this
theorem digits_ge {n : Nat} (h : n ≠ 0) : BB ^ ((digits n).length - 1) ≤ n := by
  rcases Nat.lt_or_ge n (BB ^ ((digits n).length - 1)) with c | c
  · have h1 := digits_len_le c
    have h2 : (digits n).length ≠ 0 := fun e => digits_ne h (List.length_eq_zero_iff.1 e)
    omega
  · exact c
end Go.Ev

/- Fractions made of whole numbers: both programs make the same. -/
namespace Go.Ev
set_option linter.all false
theorem wu {n : Int} (h : 0 ≤ n ∧ n ≤ 18446744073709551615) : IntKind.u64.wrap n = n := by
  have : IntKind.u64.wrap n = n % 18446744073709551616 := by simp [IntKind.wrap, IntKind.bits, IntKind.signed]
  rw [this]; omega
theorem tmodB (v : Nat) : ((v : Int)).tmod 1000000000 = ((v % BB : Nat) : Int) := by
  rw [Int.tmod_eq_emod_of_nonneg (by omega), BB_eq]; omega
theorem tdivB (v : Nat) : ((v : Int)).tdiv 1000000000 = ((v / BB : Nat) : Int) := by
  rw [Int.tdiv_eq_ediv_of_nonneg (by omega), BB_eq]; omega
theorem natOfUint_loop : ∀ (v : Nat) (t : List Int), v < 18446744073709551616 → t.length + (digits v).length ≤ 1000 → lp impl_natOfUint_L1 ((v : Int), t) = some (t ++ digits v) := by
  intro v
  induction v using Nat.strongRecOn with
  | _ v ih =>
    intro t hv ht
    by_cases h : v = 0
    · subst h
      rw [digits_zero, List.append_nil]
      exact lp_done (by unfold impl_natOfUint_L1; simp)
    · rw [digits_pos h, List.length_cons] at ht
      have hm := Nat.mod_lt v BB_pos
      have hd := Nat.div_le_self v BB
      rw [BB_eq] at hm
      have e : impl_natOfUint_L1 ((v : Int), t) = some (.inl (((v / BB : Nat) : Int), t ++ [((v % BB : Nat) : Int)])) := by
        unfold impl_natOfUint_L1
        simp only []
        rw [if_pos (by omega), tmodB, tdivB, wi (by rw [BB_eq]; omega), wu (by rw [BB_eq] at hd ⊢; omega), chk_pos (by omega)]
        rfl
      rw [lp_more e, ih _ (Nat.div_lt_self (by omega) (by rw [BB_eq]; omega)) _ (by omega) (by simp; omega), digits_pos h]
      simp
theorem digits_len64 {v : Nat} (h : v < 18446744073709551616) : (digits v).length ≤ 3 := by
  refine digits_len_le ?_
  rw [BB_eq]; omega
theorem natOfUint_p (v : Nat) (h : v < 18446744073709551616) : impl_natOfUint (v : Int) = some (digits v) := by
  unfold impl_natOfUint
  have := digits_len64 h
  rw [natOfUint_loop v [] h (by simp; omega)]
  simp
theorem NatOf_loop : ∀ (v : Nat) (t : List Int), v < 9223372036854775808 → t.length + (digits v).length ≤ 1000 → lp spec_NatOf_L1 ((v : Int), t) = some (t ++ digits v) := by
  intro v
  induction v using Nat.strongRecOn with
  | _ v ih =>
    intro t hv ht
    by_cases h : v = 0
    · subst h
      rw [digits_zero, List.append_nil]
      exact lp_done (by unfold spec_NatOf_L1; simp)
    · rw [digits_pos h, List.length_cons] at ht
      have hd := Nat.div_le_self v BB
      have e : spec_NatOf_L1 ((v : Int), t) = some (.inl (((v / BB : Nat) : Int), t ++ [((v % BB : Nat) : Int)])) := by
        unfold spec_NatOf_L1
        simp only []
        rw [if_pos (by omega), tmodB, tdivB, wi (by rw [BB_eq] at hd ⊢; omega), chk_pos (by omega)]
        rfl
      rw [lp_more e, ih _ (Nat.div_lt_self (by omega) (by rw [BB_eq]; omega)) _ (by omega) (by simp; omega), digits_pos h]
      simp
theorem NatOf_p (v : Nat) (h : v < 9223372036854775808) : spec_NatOf (v : Int) = some (digits v) := by
  unfold spec_NatOf
  have := digits_len64 (v := v) (by omega)
  rw [NatOf_loop v [] h (by simp; omega)]
  simp
/-- a list's zero limbs at the end are taken off -/
theorem trim_loop (l : List Int) (hl : l.length ≤ 4294967296) : ∀ k : Nat, k ≤ l.length → (∀ i (hi : i < l.length), k ≤ i → l[i] = 0) → lp (spec_l02Trim_L1 l) (k : Int) = some (((trimL l).length : Nat) : Int) := by
  have htl : ∀ (m : List Int) (k : Nat), k ≤ m.length → (∀ i (hi : i < m.length), k ≤ i → m[i] = 0) → trimL m = trimL (m.take k) := by
    intro m
    induction m with
    | nil => intro k _ _; simp
    | cons d m ih =>
      intro k hk hz
      cases k with
      | zero =>
        have h0 : d = 0 := hz 0 (by simp) (Nat.le_refl _)
        have := ih 0 (by omega) (fun i hi _ => by have := hz (i + 1) (by simpa using hi) (by omega); simpa using this)
        rw [List.take_zero] at this ⊢
        unfold trimL
        rw [this]; simp [trimL, h0]
      | succ k =>
        have := ih k (by simpa using hk) (fun i hi hki => by have := hz (i + 1) (by simpa using hi) (by omega); simpa using this)
        rw [List.take_succ_cons]
        conv => lhs; unfold trimL
        conv => rhs; unfold trimL
        rw [this]
  intro k
  induction k with
  | zero =>
    intro hk hz
    rw [htl l 0 (by omega) hz, List.take_zero]
    exact lp_done (by unfold spec_l02Trim_L1; simp [trimL])
  | succ k ih =>
    intro hk hz
    have hlt : k < l.length := by omega
    by_cases c : l[k] = 0
    · have e : spec_l02Trim_L1 l ((k + 1 : Nat) : Int) = some (.inl (k : Int)) := by
        unfold spec_l02Trim_L1
        rw [if_pos (by omega), wi (by omega), show ((k + 1 : Nat) : Int) - 1 = (k : Int) by omega, idx_lt hlt]
        simp [c]
      rw [lp_more e]
      exact ih (by omega) (fun i hi hki => by
        by_cases e : i = k
        · subst e; exact c
        · exact hz i hi (by omega))
    · have e : spec_l02Trim_L1 l ((k + 1 : Nat) : Int) = some (.inr ((k + 1 : Nat) : Int)) := by
        unfold spec_l02Trim_L1
        rw [if_pos (by omega), wi (by omega), show ((k + 1 : Nat) : Int) - 1 = (k : Int) by omega, idx_lt hlt]
        simp [c]
      rw [lp_done e, htl l (k + 1) hk hz, nat_trim (l := l.take (k + 1))]
      · simp; omega
      · have e : l.take (k + 1) = l.take k ++ [l[k]] := by rw [List.take_succ, List.getElem?_eq_getElem hlt]; rfl
        rw [e, List.getLast?_concat]; simpa using c
theorem trim_take (l : List Int) : trimL l = l.take (trimL l).length := by
  induction l with
  | nil => rfl
  | cons d l ih =>
    unfold trimL
    cases h : trimL l with
    | nil =>
      by_cases c : d = 0 <;> simp [c]
    | cons t r =>
      rw [h] at ih
      simp only [List.length_cons, List.take_succ_cons] at ih ⊢
      rw [← ih]
theorem trim_len_le (l : List Int) : (trimL l).length ≤ l.length := by
  have := congrArg List.length (trim_take l)
  rw [List.length_take] at this; omega
theorem l02Trim_p (l : List Int) (hl : l.length ≤ 4294967296) : spec_l02Trim l = some (trimL l) := by
  unfold spec_l02Trim
  rw [trim_loop l hl l.length (Nat.le_refl _) (fun i hi h => by omega)]
  simp only [Option.bind_some]
  have := trim_len_le l
  rw [sub_all _ _ _ (by omega)]
  simp only [Option.bind_some]
  congr 1
  have e := trim_take l
  simp only [Int.toNat_zero, List.drop_zero, Int.sub_zero, Int.toNat_natCast]
  exact e.symm
theorem l02Cap_d (v : Nat) (h : (digits v).length ≤ 60) : spec_l02Cap (digits v) = some (digits v) := by
  unfold spec_l02Cap
  rw [l02Trim_p _ (by omega)]
  simp only [Option.bind_some]
  rw [nat_trim (digits_last v), if_neg (by omega)]
/-- a whole number -/
def big (n : Int) : BigInt := ⟨decide (n < 0), digits n.natAbs⟩
theorem l03Make_d (s : Bool) (v : Nat) (h : (digits v).length ≤ 60) : spec_l03Make s (digits v) = some ⟨s && decide (v ≠ 0), digits v⟩ := by
  unfold spec_l03Make
  rw [l02Cap_d v h]
  simp only [Option.bind_some]
  have hz : (0 < ((digits v).length : Int)) ↔ v ≠ 0 := by
    constructor
    · intro h e; subst e; rw [digits_zero] at h; simp at h
    · intro h
      have : (digits v).length ≠ 0 := fun e => digits_ne h (List.length_eq_zero_iff.1 e)
      omega
  cases s with
  | true =>
    simp only [if_true]
    rw [chk_pos (by simp; omega)]
    simp only [Option.bind_some, letO_bind, List.nil_append, Bool.true_and]
    congr 2
    exact decide_eq_decide.2 hz
  | false =>
    simp only [Bool.false_eq_true, if_false]
    rw [chk_pos (by simp; omega)]
    simp only [Option.bind_some, letO_bind, List.nil_append, Bool.false_and]
theorem bigMake_d (s : Bool) (v : Nat) (h : (digits v).length ≤ 60) : impl_bigMake s (digits v) = some ⟨s && decide (v ≠ 0), digits v⟩ := by
  unfold impl_bigMake
  by_cases hv : v = 0
  · subst hv
    rw [digits_zero]; simp
  · have : (digits v).length ≠ 0 := fun e => digits_ne hv (List.length_eq_zero_iff.1 e)
    rw [if_neg (by omega)]
    simp only [Option.bind_some]
    have h2 : ¬ (60 < ((digits v).length : Int)) := by omega
    simp [h2, hv]
theorem impl_BigIntOf_p (n : Int) (h : -9223372036854775808 ≤ n ∧ n ≤ 9223372036854775807) : impl_BigIntOf n = some (big n) := by
  unfold impl_BigIntOf big
  by_cases c : n < 0
  · rw [if_pos c]
    simp only [letO_bind]
    rw [wi (n := n + 1) (by omega), wi (by omega), wu (n := 0 - (n + 1)) (by omega), wu (by omega)]
    have e : (0 - (n + 1) + 1) = ((n.natAbs : Nat) : Int) := by omega
    have hl := digits_len64 (v := n.natAbs) (by omega)
    rw [e, natOfUint_p _ (by omega)]
    simp only [Option.bind_some]
    rw [bigMake_d true _ (by omega)]
    simp only [Option.bind_some, Bool.true_and]
    have : n.natAbs ≠ 0 := by omega
    simp [c, this]
  · rw [if_neg c]
    have e : n = ((n.natAbs : Nat) : Int) := by omega
    have hl := digits_len64 (v := n.natAbs) (by omega)
    rw [wu (by omega)]
    conv => lhs; rw [e]
    rw [natOfUint_p _ (by omega)]
    simp only [Option.bind_some]
    rw [bigMake_d false _ (by omega)]
    simp [c]
theorem spec_BigIntOf_p (n : Int) (h : -9223372036854775808 ≤ n ∧ n ≤ 9223372036854775807) : spec_BigIntOf n = some (big n) := by
  unfold spec_BigIntOf big
  by_cases c0 : n = -9223372036854775808
  · rw [if_pos c0]
    subst c0
    have hd : ([854775808, 223372036, 9] : List Int) = digits 9223372036854775808 := by
      have h1 : dgs [854775808, 223372036, 9] := by intro d hd; simp at hd; omega
      have := nat_digits (l := [854775808, 223372036, 9]) ⟨h1, by simp⟩
      rw [this]; rfl
    have hl := digits_len64 (v := 9223372036854775808) (by omega)
    rw [hd, l03Make_d true _ (by omega)]
    simp only [Option.bind_some]
    rfl
  · rw [if_neg c0]
    by_cases c : n < 0
    · rw [if_pos c, wi (by omega)]
      have e : (0 - n) = ((n.natAbs : Nat) : Int) := by omega
      have hl := digits_len64 (v := n.natAbs) (by omega)
      rw [e, NatOf_p _ (by omega)]
      simp only [Option.bind_some]
      rw [l03Make_d true _ (by omega)]
      simp only [Option.bind_some, Bool.true_and]
      have : n.natAbs ≠ 0 := by omega
      simp [c, this]
    · rw [if_neg c]
      have e : n = ((n.natAbs : Nat) : Int) := by omega
      have hl := digits_len64 (v := n.natAbs) (by omega)
      conv => lhs; rw [e]
      rw [NatOf_p _ (by omega)]
      simp only [Option.bind_some]
      rw [l03Make_d false _ (by omega)]
      simp [c]
def ratI (n : Int) : Rat := ⟨big n, [1]⟩
theorem impl_RatFromInt_p (n : Int) (h : -9223372036854775808 ≤ n ∧ n ≤ 9223372036854775807) : impl_RatFromInt n = some (ratI n) := by
  unfold impl_RatFromInt
  rw [impl_BigIntOf_p n h]; rfl
theorem spec_RatFromInt_p (n : Int) (h : -9223372036854775808 ≤ n ∧ n ≤ 9223372036854775807) : spec_RatFromInt n = some (ratI n) := by
  unfold spec_RatFromInt
  rw [spec_BigIntOf_p n h]; rfl
end Go.Ev

/- More about limbs. No program. -/
namespace Go.Ev
set_option linter.all false
theorem val_zero {l : List Int} (h : nat l) (e : val l = 0) : l = [] := by rw [nat_digits h, e, digits_zero]
theorem nat_drop {l : List Int} (h : nat l) (k : Nat) : nat (l.drop k) := by
  refine ⟨dgs_drop h.1 k, fun e => h.2 ?_⟩
  rw [List.getLast?_drop] at e
  split at e
  · cases e
  · exact e
theorem val_drop_ne {l : List Int} (h : nat l) {k : Nat} (hk : k < l.length) : val (l.drop k) ≠ 0 := by
  intro e
  have := congrArg List.length (val_zero (nat_drop h k) e)
  simp at this; omega
theorem val_drop_nil {l : List Int} {k : Nat} (hk : l.length ≤ k) : val (l.drop k) = 0 := by rw [List.drop_eq_nil_of_le hk]; rfl
/-- what an append by limbs gives -/
theorem digits_step {x v : Nat} (h : x + BB * v ≠ 0) : digits (x + BB * v) = ((x % BB : Nat) : Int) :: digits (x / BB + v) := by
  have hx := Nat.mod_add_div x BB
  have hm := Nat.mod_lt x BB_pos
  have e : x + BB * v = ((x % BB : Nat) : Int).toNat + BB * (x / BB + v) := by
    rw [Int.toNat_natCast, Nat.mul_add]; omega
  rw [e]
  refine digits_cons ⟨by omega, by rw [BB_eq] at hm ⊢; omega⟩ ?_
  by_cases c : x / BB + v = 0
  · left
    rw [c, Nat.mul_zero, Nat.add_zero, Int.toNat_natCast] at e
    intro h2; apply h; rw [e]; omega
  · exact .inr c
/-- the order of two numbers -/
def cmpN (x y : Nat) : Int := if x < y then -1 else if y < x then 1 else 0
theorem len_lt {m n : Nat} (h : (digits m).length < (digits n).length) : m < n := by
  have h1 := digits_lt m
  have hn : n ≠ 0 := by rintro rfl; rw [digits_zero] at h; simp at h
  have h2 := digits_ge hn
  have h3 : BB ^ (digits m).length ≤ BB ^ ((digits n).length - 1) := Nat.pow_le_pow_right BB_pos (by omega)
  omega
theorem val_set : ∀ {l : List Int} {k : Nat} {x : Int} (hk : k < l.length), val (l.set k x) + BB ^ k * (l[k]).toNat = val l + BB ^ k * x.toNat
  | d :: l, 0, x, _ => by simp [val]; omega
  | d :: l, k + 1, x, hk => by
    have ih := val_set (l := l) (k := k) (x := x) (by simpa using hk)
    have ih2 := congrArg (BB * ·) ih
    simp only [Nat.mul_add, ← Nat.mul_assoc] at ih2
    simp only [List.set_cons_succ, val, List.getElem_cons_succ, Nat.pow_succ, Nat.mul_comm (BB ^ k) BB]
    omega
theorem digits_getM {n i : Nat} (hi : i < (digits n).length) : (digits n)[i] = ((n / BB ^ i % BB : Nat) : Int) := by
  induction i generalizing n with
  | zero =>
    have hn : n ≠ 0 := by rintro rfl; rw [digits_zero] at hi; simp at hi
    have e := digits_pos hn
    simp only [e, List.getElem_cons_zero, Nat.pow_zero, Nat.div_one]
  | succ i ih =>
    have hn : n ≠ 0 := by rintro rfl; rw [digits_zero] at hi; simp at hi
    have e := digits_pos hn
    have hi' : i < (digits (n / BB)).length := by rw [e] at hi; simpa using hi
    have := ih hi'
    simp only [e, List.getElem_cons_succ, this, Nat.div_div_eq_div_mul, Nat.pow_succ, Nat.mul_comm (BB ^ i) BB]
theorem digits_small {d : Nat} (h : d < BB) (h0 : d ≠ 0) : digits d = [(d : Int)] := by
  rw [digits_pos h0, Nat.mod_eq_of_lt h, Nat.div_eq_of_lt h, digits_zero]
theorem digits_len_mul {a b k : Nat} (h : b ≤ k) (hk : (digits k).length ≤ a) : (digits b).length ≤ a := by
  rcases Nat.lt_or_ge (digits k).length (digits b).length with c | c
  · have := len_lt c; omega
  · omega
theorem digits_len_prod (a b : Nat) : (digits (a * b)).length ≤ (digits a).length + (digits b).length := by
  refine digits_len_le ?_
  rw [Nat.pow_add]
  exact Nat.mul_lt_mul'' (digits_lt a) (digits_lt b)
theorem digits_len_sum (a b : Nat) : (digits (a + b)).length ≤ max (digits a).length (digits b).length + 1 := by
  refine digits_len_le ?_
  have h1 := digits_lt a
  have h2 := digits_lt b
  have h3 : BB ^ (digits a).length ≤ BB ^ (max (digits a).length (digits b).length) := Nat.pow_le_pow_right BB_pos (by omega)
  have h4 : BB ^ (digits b).length ≤ BB ^ (max (digits a).length (digits b).length) := Nat.pow_le_pow_right BB_pos (by omega)
  have h5 : 2 * BB ^ (max (digits a).length (digits b).length) ≤ BB ^ (max (digits a).length (digits b).length) * BB := by rw [Nat.mul_comm]; exact Nat.mul_le_mul_left _ (by rw [BB_eq]; omega)
  rw [Nat.pow_succ]; omega
end Go.Ev

/- Naturals as limbs: order, sums, differences; both programs. -/
namespace Go.Ev
set_option linter.all false
theorem natTrim_same : impl_natTrim = spec_l02Trim := rfl
theorem trim_d {l : List Int} (h : dgs l) (hl : l.length ≤ 4294967296) : spec_l02Trim l = some (digits (val l)) := by rw [l02Trim_p l hl, trimL_eq h]
theorem cmp_L1_same : impl_natCmp_L1 = spec_l02Cmp_L1 := rfl
theorem cmpN_add (x y t : Nat) : cmpN (x + t) (y + t) = cmpN x y := by unfold cmpN; simp only [Nat.add_lt_add_iff_right]
theorem cmp_loop (a b : List Int) (ha : dgs a) (hb : dgs b) (hab : a.length = b.length) (hl : a.length ≤ 4294967296) : ∀ k : Nat, k ≤ a.length →
    lp (spec_l02Cmp_L1 a b) ((k : Int) - 1) = some (if val (a.take k) = val (b.take k) then .inl () else .inr (cmpN (val (a.take k)) (val (b.take k)))) := by
  intro k
  induction k with
  | zero =>
    intro _
    rw [lp_done (r := .inl ()) (by unfold spec_l02Cmp_L1; rw [if_neg (by omega)])]
    simp
  | succ k ih =>
    intro hk
    have h1 : k < a.length := by omega
    have h2 : k < b.length := by omega
    have d1 := dgs_get ha h1
    have d2 := dgs_get hb h2
    have v1 := val_lt (dgs_take ha k)
    have v2 := val_lt (dgs_take hb k)
    rw [List.length_take, Nat.min_eq_left (by omega)] at v1 v2
    rw [val_take_succ h1, val_take_succ h2]
    have hk1 : ((k + 1 : Nat) : Int) - 1 = (k : Int) := by omega
    rw [hk1]
    by_cases c1 : a[k] < b[k]
    · rw [lp_done (r := .inr (-1)) (by unfold spec_l02Cmp_L1; rw [if_pos (by omega), idx_lt h1, idx_lt h2]; simp [c1])]
      have : BB ^ k * (a[k]).toNat + BB ^ k ≤ BB ^ k * (b[k]).toNat := by
        rw [← Nat.mul_succ]; exact Nat.mul_le_mul_left _ (by omega)
      rw [if_neg (by omega)]; unfold cmpN; rw [if_pos (by omega)]
    · by_cases c2 : b[k] < a[k]
      · rw [lp_done (r := .inr 1) (by unfold spec_l02Cmp_L1; rw [if_pos (by omega), idx_lt h1, idx_lt h2]; simp [c1, c2])]
        have : BB ^ k * (b[k]).toNat + BB ^ k ≤ BB ^ k * (a[k]).toNat := by
          rw [← Nat.mul_succ]; exact Nat.mul_le_mul_left _ (by omega)
        rw [if_neg (by omega)]; unfold cmpN; rw [if_neg (by omega), if_pos (by omega)]
      · have e : a[k] = b[k] := by omega
        rw [lp_more (s' := (k : Int) - 1) (by unfold spec_l02Cmp_L1; rw [if_pos (by omega), idx_lt h1, idx_lt h2, wi (by omega)]; simp [c1, c2]), ih (by omega), e]
        by_cases c3 : val (a.take k) = val (b.take k)
        · rw [if_pos c3, if_pos (by omega)]
        · rw [if_neg c3, if_neg (by omega)]
          rw [cmpN_add]
theorem cmpN_len {x y : Nat} (h : (digits x).length < (digits y).length) : cmpN x y = -1 := by unfold cmpN; rw [if_pos (len_lt h)]
theorem cmpN_len' {x y : Nat} (h : (digits y).length < (digits x).length) : cmpN x y = 1 := by have := len_lt h; unfold cmpN; rw [if_neg (by omega), if_pos this]
theorem cmp_eq (x y : Nat) (hx : (digits x).length ≤ 1000) (h : (digits x).length = (digits y).length) : lp (spec_l02Cmp_L1 (digits x) (digits y)) (((digits x).length : Int) - 1) = some (if x = y then .inl () else .inr (cmpN x y)) := by
  have := cmp_loop (digits x) (digits y) (digits_dgs x) (digits_dgs y) h (by omega) (digits x).length (Nat.le_refl _)
  rw [List.take_length, h, List.take_length, val_digits, val_digits] at this
  rw [h]; exact this
theorem l02Cmp_d (x y : Nat) (hx : (digits x).length ≤ 1000) (hy : (digits y).length ≤ 1000) : spec_l02Cmp (digits x) (digits y) = some (cmpN x y) := by
  unfold spec_l02Cmp
  by_cases c : (digits x).length = (digits y).length
  · rw [if_neg (by omega), letO_bind, wi (by omega), cmp_eq x y hx c]
    by_cases e : x = y
    · subst e; simp [cmpN]
    · rw [if_neg e]; rfl
  · rw [if_pos (by omega)]
    by_cases c2 : (digits x).length < (digits y).length
    · rw [if_pos (by omega), cmpN_len c2]
    · rw [if_neg (by omega), cmpN_len' (by omega)]
theorem natCmp_d (x y : Nat) (hx : (digits x).length ≤ 1000) (hy : (digits y).length ≤ 1000) : impl_natCmp (digits x) (digits y) = some (cmpN x y) := by
  unfold impl_natCmp
  by_cases c2 : (digits x).length < (digits y).length
  · rw [if_pos (by omega), cmpN_len c2]
  · rw [if_neg (by omega)]
    by_cases c3 : (digits y).length < (digits x).length
    · rw [if_pos (by omega), cmpN_len' c3]
    · rw [if_neg (by omega), letO_bind, wi (by omega), cmp_L1_same, cmp_eq x y hx (by omega)]
      by_cases e : x = y
      · subst e; simp [cmpN]
      · rw [if_neg e]; rfl
theorem add_step (a b : List Int) (i c : Nat) (out : List Int) (x : Nat) (hx : x ≤ 1999999999) (ho : out.length = i) (hi : i ≤ 2000) (hlt : i < a.length ∨ i < b.length ∨ c = 1) (hc : c ≤ 1)
    (h : (x : Int) = c + (if h : i < a.length then a[i] else 0) + (if h : i < b.length then b[i] else 0)) (ha : dgs a) (hb : dgs b) :
    spec_l02Add_L1 a b ((c : Int), (i : Int), out) = some (.inl (((x / BB : Nat) : Int), ((i + 1 : Nat) : Int), out ++ [((x % BB : Nat) : Int)])) := by
  unfold spec_l02Add_L1
  simp only []
  by_cases c1 : i < a.length
  · have d1 := dgs_get ha c1
    rw [dif_pos c1] at h
    rw [if_pos (by omega), if_pos (by omega), idx_lt c1]
    simp only [Option.bind_some, if_true]
    rw [wi (by omega)]
    by_cases c2 : i < b.length
    · have d2 := dgs_get hb c2
      rw [dif_pos c2] at h
      rw [if_pos (by omega), idx_lt c2]
      simp only [Option.bind_some]
      rw [wi (by omega), ← h, chk_pos (by omega)]
      simp only [Option.bind_some, letO_bind]
      rw [tmodB, tdivB, wi (by rw [BB_eq]; omega), wi (by omega)]; rfl
    · rw [dif_neg c2] at h
      rw [if_neg (by omega)]
      simp only [Option.bind_some]
      rw [show (c : Int) + a[i] = (x : Int) by omega, chk_pos (by omega)]
      simp only [Option.bind_some, letO_bind]
      rw [tmodB, tdivB, wi (by rw [BB_eq]; omega), wi (by omega)]; rfl
  · rw [dif_neg c1] at h
    have n1 : ¬ ((i : Int) < (a.length : Int)) := by omega
    simp only [n1, if_false]
    by_cases c2 : i < b.length
    · have d2 := dgs_get hb c2
      rw [dif_pos c2] at h
      have n2 : ((i : Int) < (b.length : Int)) := by omega
      simp only [n2, if_true, Option.bind_some]
      rw [idx_lt c2]
      simp only [Option.bind_some]
      rw [wi (by omega), show (c : Int) + b[i] = (x : Int) by omega, chk_pos (by omega)]
      simp only [Option.bind_some, letO_bind]
      rw [tmodB, tdivB, wi (by rw [BB_eq]; omega), wi (by omega)]; rfl
    · rw [dif_neg c2] at h
      have n2 : ¬ ((i : Int) < (b.length : Int)) := by omega
      have hc1 : c = 1 := by omega
      have hc2 : (0 < (c : Int)) := by omega
      simp only [n2, hc2, if_false, decide_true, Option.bind_some, if_true]
      rw [show (c : Int) = (x : Int) by omega, chk_pos (by omega)]
      simp only [Option.bind_some, letO_bind]
      rw [tmodB, tdivB, wi (by rw [BB_eq]; omega), wi (by omega)]; rfl
theorem add_stop (a b : List Int) (i : Nat) (out : List Int) (h1 : a.length ≤ i) (h2 : b.length ≤ i) : lp (spec_l02Add_L1 a b) (0, (i : Int), out) = some out :=
  lp_done (by unfold spec_l02Add_L1; simp only []; rw [if_neg (by omega), if_neg (by omega)]; simp)
theorem add_end (a b : List Int) (ha : dgs a) (hb : dgs b) (i c : Nat) (out : List Int) (hc : c ≤ 1) (ho : out.length = i) (hi : i ≤ 1999) (h1 : a.length ≤ i) (h2 : b.length ≤ i) :
    lp (spec_l02Add_L1 a b) ((c : Int), (i : Int), out) = some (out ++ digits c) := by
  rcases Nat.eq_zero_or_pos c with e | e
  · subst e
    rw [digits_zero, List.append_nil]; exact add_stop a b i out h1 h2
  · have e1 : c = 1 := by omega
    subst e1
    have := add_step a b i 1 out 1 (by omega) ho (by omega) (.inr (.inr rfl)) (by omega) (by rw [dif_neg (by omega), dif_neg (by omega)]; omega) ha hb
    rw [lp_more this, show 1 / BB = 0 from rfl, show 1 % BB = 1 from rfl]
    rw [show ((0 : Nat) : Int) = 0 from rfl, add_stop a b (i + 1) _ (by omega) (by omega), digits_small (by rw [BB_eq]; omega) (by omega)]
theorem add_loop (a b : List Int) (ha : nat a) (hb : nat b) (hla : a.length ≤ 1000) (hlb : b.length ≤ 1000) : ∀ (m i c : Nat) (out : List Int), c ≤ 1 → m + i = max a.length b.length → out.length = i →
    lp (spec_l02Add_L1 a b) ((c : Int), (i : Int), out) = some (out ++ digits (c + (val (a.drop i) + val (b.drop i)))) := by
  intro m
  induction m with
  | zero =>
    intro i c out hc hm ho
    rw [val_drop_nil (by omega), val_drop_nil (by omega)]
    exact add_end a b ha.1 hb.1 i c out hc ho (by omega) (by omega) (by omega)
  | succ m ih =>
    intro i c out hc hm ho
    obtain ⟨x, hx, e1, e2, e3⟩ : ∃ x : Nat, x ≤ 1999999999 ∧ c + (val (a.drop i) + val (b.drop i)) = x + BB * (val (a.drop (i + 1)) + val (b.drop (i + 1))) ∧
        c + (val (a.drop i) + val (b.drop i)) ≠ 0 ∧ (x : Int) = c + (if h : i < a.length then a[i] else 0) + (if h : i < b.length then b[i] else 0) := by
      by_cases c1 : i < a.length
      · have d1 := dgs_get ha.1 c1
        have n1 := val_drop_ne ha c1
        have v1 := val_drop_cons c1
        by_cases c2 : i < b.length
        · have d2 := dgs_get hb.1 c2
          have v2 := val_drop_cons c2
          refine ⟨c + (a[i]).toNat + (b[i]).toNat, by omega, by rw [Nat.mul_add]; omega, by omega, by rw [dif_pos c1, dif_pos c2]; omega⟩
        · have v2 := val_drop_nil (l := b) (k := i) (by omega)
          have v3 := val_drop_nil (l := b) (k := i + 1) (by omega)
          refine ⟨c + (a[i]).toNat, by omega, by rw [Nat.mul_add, v3]; omega, by omega, by rw [dif_pos c1, dif_neg c2]; omega⟩
      · have c2 : i < b.length := by omega
        have d2 := dgs_get hb.1 c2
        have n2 := val_drop_ne hb c2
        have v2 := val_drop_cons c2
        have v1 := val_drop_nil (l := a) (k := i) (by omega)
        have v3 := val_drop_nil (l := a) (k := i + 1) (by omega)
        refine ⟨c + (b[i]).toNat, by omega, by rw [Nat.mul_add, v3]; omega, by omega, by rw [dif_neg c1, dif_pos c2]; omega⟩
    rw [lp_more (add_step a b i c out x hx ho (by omega) (by omega) hc e3 ha.1 hb.1), ih (i + 1) (x / BB) _ (by rw [BB_eq]; omega) (by omega) (by simp [ho])]
    rw [e1] at e2 ⊢
    rw [digits_step e2]; simp
theorem l02Add_d (x y : Nat) (hx : (digits x).length ≤ 1000) (hy : (digits y).length ≤ 1000) : spec_l02Add (digits x) (digits y) = some (digits (x + y)) := by
  unfold spec_l02Add
  have := add_loop (digits x) (digits y) (nat_of x) (nat_of y) hx hy _ 0 0 [] (by omega) (Nat.add_zero _) rfl
  rw [show ((0 : Nat) : Int) = 0 from rfl, List.drop_zero, List.drop_zero, val_digits, val_digits, Nat.zero_add] at this
  rw [this]; rfl
theorem natAdd_d (x y : Nat) (hx : (digits x).length ≤ 1000) (hy : (digits y).length ≤ 1000) : impl_natAdd (digits x) (digits y) = some (digits (x + y)) := l02Add_d x y hx hy
/-- one limb of a difference -/
theorem sub_loop (a b : List Int) (ha : dgs a) (hb : dgs b) (hla : a.length ≤ 1000) (hab : b.length ≤ a.length) : ∀ (m i c : Nat) (out : List Int), c ≤ 1 → m + i = a.length → out.length = i → dgs out → val (a.take i) + c * BB ^ i = val out + val (b.take i) →
    ∃ (c' : Nat) (out' : List Int), lp (spec_l02Sub_L1 a b) ((c : Int), (i : Int), out) = some out' ∧ lp (impl_natSub_L1 a b) ((c : Int), (i : Int), out ++ List.replicate m 0) = some out' ∧ dgs out' ∧ out'.length = a.length ∧ val a + c' * BB ^ a.length = val out' + val b := by
  intro m
  induction m with
  | zero =>
    intro i c out hc hm ho hd hv
    have e : i = a.length := by omega
    refine ⟨c, out, lp_done ?_, lp_done ?_, hd, by omega, ?_⟩
    · unfold spec_l02Sub_L1; simp only []; rw [if_neg (by omega)]
    · unfold impl_natSub_L1; simp only []; rw [if_neg (by omega)]; simp
    · rw [e, List.take_length, List.take_of_length_le hab] at hv; exact hv
  | succ m ih =>
    intro i c out hc hm ho hd hv
    have h1 : i < a.length := by omega
    have d1 := dgs_get ha h1
    obtain ⟨bi, hb1, hb2, hb3⟩ : ∃ bi : Nat, bi < 1000000000 ∧ val (b.take (i + 1)) = val (b.take i) + BB ^ i * bi ∧ (bi : Int) = (if h : i < b.length then b[i] else 0) := by
      by_cases c2 : i < b.length
      · have d2 := dgs_get hb c2
        exact ⟨(b[i]).toNat, by omega, val_take_succ c2, by rw [dif_pos c2]; omega⟩
      · refine ⟨0, by omega, ?_, by rw [dif_neg c2]; rfl⟩
        rw [List.take_of_length_le (by omega), List.take_of_length_le (by omega)]; simp
    obtain ⟨n, c', hn, hc', he⟩ : ∃ n c' : Nat, n < 1000000000 ∧ c' ≤ 1 ∧ a[i] - (c : Int) - (bi : Int) + c' * 1000000000 = (n : Int) ∧ (c' = 1 ↔ a[i] - (c : Int) - (bi : Int) < 0) := by
      by_cases g : a[i] - (c : Int) - (bi : Int) < 0
      · exact ⟨(a[i] - (c : Int) - (bi : Int) + 1000000000).toNat, 1, by omega, by omega, by omega, by simp [g]⟩
      · exact ⟨(a[i] - (c : Int) - (bi : Int)).toNat, 0, by omega, by omega, by omega, by simp [g]⟩
    obtain ⟨he, hg⟩ := he
    have hs : (n : Int) = a[i] - c - bi + c' * 1000000000 := by omega
    -- the step
    have s0 : (((if ((i : Int) < (b.length : Int)) then (idx b (i : Int)).bind fun y16 => (letO (IntKind.i64.wrap (IntKind.i64.wrap (a[i] - c) - y16))).bind fun v17 => some v17 else some (IntKind.i64.wrap (a[i] - c))) : Option Int).bind (fun d19 => ((if (d19 < 0) then (letO (IntKind.i64.wrap (d19 + 1000000000))).bind fun v21 => some (1, v21) else some (0, d19)) : Option (Int × Int)))) = some ((c' : Int), (n : Int)) := by
      rw [wi (by omega)]
      have fin : ∀ z : Int, z = a[i] - c - bi → (if (z < 0) then (letO (IntKind.i64.wrap (z + 1000000000))).bind fun v21 => some ((1 : Int), v21) else some (0, z)) = some ((c' : Int), (n : Int)) := by
        intro z hz
        by_cases g : z < 0
        · have e1 : c' = 1 := hg.2 (by omega)
          subst e1
          rw [if_pos g, letO_bind, wi (by omega)]; congr 2; omega
        · have e1 : c' = 0 := by
            have : ¬ c' = 1 := fun h => g (by have := hg.1 h; omega)
            omega
          subst e1
          rw [if_neg g]; congr 2; omega
      by_cases c2 : i < b.length
      · rw [dif_pos c2] at hb3
        rw [if_pos (by omega), idx_lt c2]
        simp only [Option.bind_some, letO_bind]
        rw [wi (by omega)]
        exact fin _ (by omega)
      · rw [dif_neg c2] at hb3
        rw [if_neg (by omega)]
        simp only [Option.bind_some]
        exact fin _ (by omega)
    have s1 : spec_l02Sub_L1 a b ((c : Int), (i : Int), out) = some (.inl ((c' : Int), ((i + 1 : Nat) : Int), out ++ [(n : Int)])) := by
      unfold spec_l02Sub_L1
      simp only []
      rw [if_pos (by omega), idx_lt h1]
      simp only [Option.bind_some]
      rw [← Option.bind_assoc, s0]
      simp only [Option.bind_some]
      rw [chk_pos (by omega), wi (by omega)]; rfl
    have s2 : impl_natSub_L1 a b ((c : Int), (i : Int), out ++ List.replicate (m + 1) 0) = some (.inl ((c' : Int), ((i + 1 : Nat) : Int), (out ++ [(n : Int)]) ++ List.replicate m 0)) := by
      unfold impl_natSub_L1
      simp only []
      rw [if_pos (by omega), idx_lt h1]
      simp only [Option.bind_some]
      rw [← Option.bind_assoc, s0]
      simp only [Option.bind_some]
      rw [idx_lt (by simp; omega), wi (by omega)]
      simp only [Option.bind_some, letO_bind, setI_nat]
      congr 4
      rw [List.set_append_right _ _ (by omega), ho, Nat.sub_self, List.replicate_succ, List.set_cons_zero]; simp
    rw [lp_more s1, lp_more s2]
    refine ih (i + 1) c' _ hc' (by omega) (by simp [ho]) (by rw [dgs_app]; exact ⟨hd, by intro z hz; simp at hz; omega⟩) ?_
    rw [val_take_succ h1, val_app, hb2, ho]
    have e := congrArg (BB ^ i * ·) (show (a[i]).toNat + c' * BB = n + bi + c by rw [BB_eq]; omega)
    simp only [Nat.mul_add] at e
    simp only [val, Int.toNat_natCast, Nat.mul_zero, Nat.add_zero]
    have e2 : c' * BB ^ (i + 1) = BB ^ i * (c' * BB) := by rw [Nat.pow_succ, Nat.mul_comm c', Nat.mul_assoc, Nat.mul_comm BB c']
    rw [e2]
    rw [Nat.mul_comm c] at hv
    omega
theorem sub_fin {a b c' L : Nat} {out : List Int} (hd : dgs out) (hl : out.length = L) (h : a + c' * BB ^ L = val out + b) (hab : b ≤ a) : val out = a - b := by
  have := val_lt hd
  rw [hl] at this
  cases c' with
  | zero => simp at h; omega
  | succ c =>
    rw [Nat.succ_mul] at h
    have : 0 ≤ c * BB ^ L := Nat.zero_le _
    omega
theorem sub_both (x y : Nat) (hx : (digits x).length ≤ 1000) (hyx : y ≤ x) : spec_l02Sub (digits x) (digits y) = some (digits (x - y)) ∧ impl_natSub (digits x) (digits y) = some (digits (x - y)) := by
  have hl : (digits y).length ≤ (digits x).length := digits_len_mul hyx (Nat.le_refl _)
  obtain ⟨c', out', e1, e2, e3, e4, e5⟩ := sub_loop (digits x) (digits y) (digits_dgs x) (digits_dgs y) hx hl (digits x).length 0 0 [] (by omega) (by omega) rfl dgs_nil (by simp [val])
  rw [val_digits, val_digits] at e5
  have hv := sub_fin e3 e4 e5 hyx
  rw [show ((0 : Nat) : Int) = 0 from rfl] at e1 e2
  rw [List.nil_append] at e2
  constructor
  · unfold spec_l02Sub
    rw [e1]
    simp only [Option.bind_some]
    rw [trim_d e3 (by omega), hv]; rfl
  · unfold impl_natSub
    rw [chk_pos (by omega)]
    simp only [Option.bind_some, Int.toNat_natCast]
    rw [e2]
    simp only [Option.bind_some]
    rw [natTrim_same, trim_d e3 (by omega), hv]; rfl
end Go.Ev

/- Naturals as limbs: products; both programs. -/
namespace Go.Ev
set_option linter.all false
theorem mul_L1_same (a b : List Int) (i : Nat) (hi : i < a.length) : impl_natMul_L1 a b (i : Int) = spec_l02Mul_L1 b (i : Int) a[i] := by
  funext s
  obtain ⟨c, j, v⟩ := s
  unfold impl_natMul_L1 spec_l02Mul_L1
  simp only [idx_lt hi, Option.bind_some, letO_bind]
  split
  · cases idx v (IntKind.i64.wrap ((i : Int) + j)) with
    | none => cases idx b j <;> rfl
    | some y =>
      cases idx b j with
      | none => rfl
      | some z => simp only [Option.bind_some]; rw [Int.add_comm c]
  · rfl
theorem mul_inner (b : List Int) (i x : Nat) (hx : x < 1000000000) (hb : dgs b) (hlb : b.length ≤ 1000) (hi : i ≤ 1000) : ∀ (m j c : Nat) (v : List Int), m + j = b.length → c < 1000000000 → dgs v → i + b.length ≤ v.length → v.length ≤ 2000 →
    ∃ (c' : Nat) (v' : List Int), lp (spec_l02Mul_L1 b (i : Int) (x : Int)) ((c : Int), (j : Int), v) = some ((c' : Int), v') ∧ c' < 1000000000 ∧ dgs v' ∧ v'.length = v.length ∧ v'.drop (i + b.length) = v.drop (i + b.length) ∧
      val v' + c' * BB ^ (i + b.length) + x * BB ^ i * val (b.take j) = val v + c * BB ^ (i + j) + x * BB ^ i * val b := by
  intro m
  induction m with
  | zero =>
    intro j c v hm hc hv hl hl2
    have e : j = b.length := by omega
    subst e
    refine ⟨c, v, lp_done ?_, hc, hv, rfl, rfl, ?_⟩
    · unfold spec_l02Mul_L1; simp only []; rw [if_neg (by omega)]
    · rw [List.take_length]
  | succ m ih =>
    intro j c v hm hc hv hl hl2
    have h1 : j < b.length := by omega
    have h2 : i + j < v.length := by omega
    have d1 := dgs_get hb h1
    have d2 := dgs_get hv h2
    obtain ⟨y, hy⟩ : ∃ y : Nat, b[j] = (y : Int) := ⟨(b[j]).toNat, by omega⟩
    obtain ⟨z, hz⟩ : ∃ z : Nat, v[i + j] = (z : Int) := ⟨(v[i + j]).toNat, by omega⟩
    have hxy : x * y ≤ 999999999 * 999999999 := Nat.mul_le_mul (by omega) (by omega)
    have hxy0 : ((x : Int) * (y : Int)) = ((x * y : Nat) : Int) := by push_cast; rfl
    have s1 : spec_l02Mul_L1 b (i : Int) (x : Int) ((c : Int), (j : Int), v) = some (.inl ((((z + x * y + c) / BB : Nat) : Int), ((j + 1 : Nat) : Int), v.set (i + j) (((z + x * y + c) % BB : Nat) : Int))) := by
      unfold spec_l02Mul_L1
      simp only []
      rw [if_pos (by omega), idx_lt h1, wi (by omega), show (i : Int) + (j : Int) = ((i + j : Nat) : Int) by omega, idx_lt h2]
      simp only [Option.bind_some, letO_bind, setI_nat, hy, hz, hxy0]
      rw [wi (n := ((x * y : Nat) : Int)) (by omega), wi (n := (z : Int) + _) (by omega), wi (n := (z : Int) + _ + _) (by omega), show (z : Int) + ((x * y : Nat) : Int) + (c : Int) = ((z + x * y + c : Nat) : Int) by omega, tmodB, tdivB, wi (by rw [BB_eq]; omega), wi (by omega)]
      rfl
    have hm1 := Nat.mod_lt (z + x * y + c) BB_pos
    have hm2 := Nat.mod_add_div (z + x * y + c) BB
    obtain ⟨c', v', e1, e2, e3, e4, e5, e6⟩ := ih (j + 1) ((z + x * y + c) / BB) (v.set (i + j) (((z + x * y + c) % BB : Nat) : Int)) (by omega) (by rw [BB_eq]; omega) (dgs_set hv _ _ (by rw [BB_eq] at hm1 ⊢; omega)) (by simpa using hl) (by simpa using hl2)
    refine ⟨c', v', by rw [lp_more s1]; exact e1, e2, e3, by simpa using e4, ?_, ?_⟩
    · rw [e5, List.drop_set_of_lt (by omega)]
    · have hs := val_set (l := v) (x := (((z + x * y + c) % BB : Nat) : Int)) h2
      rw [hz] at hs
      simp only [Int.toNat_natCast] at hs
      rw [val_take_succ h1, hy, Int.toNat_natCast] at e6
      have f1 : x * BB ^ i * (val (b.take j) + BB ^ j * y) = x * BB ^ i * val (b.take j) + BB ^ (i + j) * (x * y) := by
        rw [Nat.mul_add, Nat.pow_add]
        congr 1
        rw [Nat.mul_assoc x, Nat.mul_assoc (BB ^ i), Nat.mul_left_comm x, Nat.mul_left_comm x]
      rw [f1] at e6
      have f2 : (z + x * y + c) / BB * BB ^ (i + (j + 1)) = BB ^ (i + j) * (BB * ((z + x * y + c) / BB)) := by
        rw [← Nat.add_assoc, Nat.pow_succ, Nat.mul_comm ((z + x * y + c) / BB), Nat.mul_assoc]
      rw [f2] at e6
      have f3 := congrArg (BB ^ (i + j) * ·) hm2
      simp only [Nat.mul_add] at f3
      rw [Nat.mul_comm c]
      omega
theorem val_drop_set {l : List Int} {k : Nat} {x : Int} : (l.set k x).drop (k + 1) = l.drop (k + 1) := by rw [List.drop_set_of_lt (by omega)]
theorem mul_outer (a b : List Int) (ha : dgs a) (hb : dgs b) (hla : a.length ≤ 900) (hlb : b.length ≤ 900) : ∀ (m i : Nat) (v : List Int), m + i = a.length → v.length = a.length + b.length → dgs v → v.drop (i + b.length) = List.replicate m 0 → val v = val (a.take i) * val b →
    ∃ v' : List Int, lp (spec_l02Mul_L2 a b) ((i : Int), v) = some v' ∧ lp (impl_natMul_L2 a b) ((i : Int), v) = some v' ∧ dgs v' ∧ v'.length = a.length + b.length ∧ val v' = val a * val b := by
  intro m
  induction m with
  | zero =>
    intro i v hm hl hv hz he
    have e : i = a.length := by omega
    subst e
    rw [List.take_length] at he
    refine ⟨v, lp_done ?_, lp_done ?_, hv, hl, he⟩
    · unfold spec_l02Mul_L2; simp only []; rw [if_neg (by omega)]
    · unfold impl_natMul_L2; simp only []; rw [if_neg (by omega)]
  | succ m ih =>
    intro i v hm hl hv hz he
    have h1 : i < a.length := by omega
    have d1 := dgs_get ha h1
    obtain ⟨x, hx⟩ : ∃ x : Nat, a[i] = (x : Int) := ⟨(a[i]).toNat, by omega⟩
    obtain ⟨c', v', e1, e2, e3, e4, e5, e6⟩ := mul_inner b i x (by omega) hb (by omega) (by omega) b.length 0 0 v (by omega) (by omega) hv (by omega) (by omega)
    rw [show ((0 : Nat) : Int) = 0 from rfl] at e1
    have h2 : i + b.length < v'.length := by omega
    have hzero : v'[i + b.length] = 0 := by
      have q : (v'.drop (i + b.length))[0]? = some 0 := by rw [e5, hz]; simp [List.replicate_succ]
      rw [List.getElem?_drop, Nat.add_zero, List.getElem?_eq_getElem h2] at q
      exact Option.some.inj q
    have s1 : spec_l02Mul_L2 a b ((i : Int), v) = some (.inl (((i + 1 : Nat) : Int), v'.set (i + b.length) (c' : Int))) := by
      unfold spec_l02Mul_L2
      simp only []
      rw [if_pos (by omega), idx_lt h1, hx]
      simp only [Option.bind_some]
      rw [e1]
      simp only [Option.bind_some, letO_bind]
      rw [wi (by omega), show (i : Int) + (b.length : Int) = ((i + b.length : Nat) : Int) by omega, idx_lt h2]
      simp only [Option.bind_some, setI_nat]
      rw [wi (by omega)]; rfl
    have s2 : impl_natMul_L2 a b ((i : Int), v) = some (.inl (((i + 1 : Nat) : Int), v'.set (i + b.length) (c' : Int))) := by
      unfold impl_natMul_L2
      simp only []
      rw [if_pos (by omega), mul_L1_same a b i h1, hx, e1]
      simp only [Option.bind_some, letO_bind]
      rw [wi (by omega), show (i : Int) + (b.length : Int) = ((i + b.length : Nat) : Int) by omega, idx_lt h2]
      simp only [Option.bind_some, setI_nat]
      rw [wi (by omega)]; rfl
    rw [lp_more s1, lp_more s2]
    refine ih (i + 1) _ (by omega) (by rw [List.length_set]; omega) (dgs_set e3 _ _ (by omega)) ?_ ?_
    · rw [show i + 1 + b.length = (i + b.length) + 1 by omega, val_drop_set, ← List.drop_drop, e5, hz, List.replicate_succ]; simp
    · have hs := val_set (l := v') (x := (c' : Int)) h2
      rw [hzero] at hs
      simp only [Int.toNat_natCast, Int.toNat_zero, Nat.mul_zero, Nat.add_zero] at hs
      rw [List.take_zero] at e6
      simp only [val, Nat.mul_zero, Nat.zero_mul, Nat.add_zero] at e6
      rw [val_take_succ h1, hx, Int.toNat_natCast, Nat.add_mul, ← he, hs, Nat.mul_comm (BB ^ (i + b.length)), e6, Nat.mul_comm x]
theorem mul_both (x y : Nat) (hx : (digits x).length ≤ 900) (hy : (digits y).length ≤ 900) : spec_l02Mul (digits x) (digits y) = some (digits (x * y)) ∧ impl_natMul (digits x) (digits y) = some (digits (x * y)) := by
  unfold spec_l02Mul impl_natMul
  by_cases c1 : (digits x).length = 0
  · have : x = 0 := digits_nil.1 (List.length_eq_zero_iff.1 c1)
    subst this
    rw [if_pos (by omega)]
    simp [digits_zero]
  · rw [if_neg (by omega)]
    by_cases c2 : (digits y).length = 0
    · have : y = 0 := digits_nil.1 (List.length_eq_zero_iff.1 c2)
      subst this
      simp [digits_zero]
    · have n2 : ¬ (((digits y).length : Int) = 0) := by omega
      simp only [n2, decide_false, Option.bind_some, Bool.false_eq_true, if_false, letO_bind]
      rw [wi (by omega), show ((digits x).length : Int) + ((digits y).length : Int) = (((digits x).length + (digits y).length : Nat) : Int) by omega, chk_pos (by omega)]
      simp only [Option.bind_some, Int.toNat_natCast]
      obtain ⟨v', e1, e2, e3, e4, e5⟩ := mul_outer (digits x) (digits y) (digits_dgs x) (digits_dgs y) hx hy (digits x).length 0 (List.replicate ((digits x).length + (digits y).length) 0) (by omega) (by simp) (dgs_rep _) (by simp) (by simp [val_rep, val])
      rw [show ((0 : Nat) : Int) = 0 from rfl] at e1 e2
      rw [val_digits, val_digits] at e5
      rw [e1, e2]
      simp only [Option.bind_some]
      rw [natTrim_same, trim_d e3 (by omega), e5]
      exact ⟨rfl, rfl⟩
end Go.Ev

/- Naturals as limbs: quotients; both programs. -/
namespace Go.Ev
set_option linter.all false
theorem div_len (x y : Nat) : (digits (x / y)).length ≤ (digits x).length := digits_len_mul (Nat.div_le_self x y) (Nat.le_refl _)
theorem mod_len (x : Nat) {y : Nat} (h : 0 < y) : (digits (x % y)).length ≤ (digits y).length := digits_len_mul (Nat.le_of_lt (Nat.mod_lt x h)) (Nat.le_refl _)
theorem tdivN (x y : Nat) : ((x : Int)).tdiv (y : Int) = ((x / y : Nat) : Int) := by
  rw [Int.tdiv_eq_ediv_of_nonneg (by omega)]; rfl
theorem tmodNN (x y : Nat) : ((x : Int)).tmod (y : Int) = ((x % y : Nat) : Int) := by
  rw [Int.tmod_eq_emod_of_nonneg (by omega)]; rfl
theorem mulBB (r : Nat) : (r : Int) * 1000000000 = ((r * BB : Nat) : Int) := by rw [Int.natCast_mul]; rfl
/-- division by one limb -/
theorem small_loop (a : List Int) (d : Nat) (hd : 0 < d ∧ d < 1000000000) (ha : dgs a) (hla : a.length ≤ 1000) : ∀ (k r : Nat) (v : List Int), k ≤ a.length → r < d → dgs v → v.length = a.length → val (a.drop k) = d * val (v.drop k) + r → v.take k = List.replicate k 0 →
    ∃ (r' : Nat) (v' : List Int), lp (spec_l02Small_L1 a (d : Int)) ((r : Int), (k : Int) - 1, v) = some ((r' : Int), v') ∧ r' < d ∧ dgs v' ∧ v'.length = a.length ∧ val a = d * val v' + r' := by
  intro k
  induction k with
  | zero =>
    intro r v hk hr hv hl he ht
    refine ⟨r, v, lp_done ?_, hr, hv, hl, by simpa using he⟩
    unfold spec_l02Small_L1; simp only []; rw [if_neg (by omega)]
  | succ k ih =>
    intro r v hk hr hv hl he ht
    have h1 : k < a.length := by omega
    have h2 : k < v.length := by omega
    have d1 := dgs_get ha h1
    obtain ⟨x, hx⟩ : ∃ x : Nat, a[k] = (x : Int) := ⟨(a[k]).toNat, by omega⟩
    have hn : r * BB + x < d * BB := by
      have : (r + 1) * BB ≤ d * BB := Nat.mul_le_mul_right _ hr
      rw [Nat.succ_mul] at this
      have : x < BB := by rw [BB_eq]; omega
      omega
    have hq : (r * BB + x) / d < BB := by rw [Nat.div_lt_iff_lt_mul hd.1, Nat.mul_comm BB]; exact hn
    have hm := Nat.mod_lt (r * BB + x) hd.1
    have hmd := Nat.mod_add_div (r * BB + x) d
    have hrB : r * BB ≤ 999999999 * 1000000000 := Nat.mul_le_mul (by omega) (by rw [BB_eq]; omega)
    have t1 := tdivN (r * BB + x) d
    have t2 := tmodNN (r * BB + x) d
    generalize (r * BB + x) / d = Q at hq hmd t1
    generalize (r * BB + x) % d = R at hm hmd t2
    rw [BB_eq] at hq
    have s1 : spec_l02Small_L1 a (d : Int) ((r : Int), ((k + 1 : Nat) : Int) - 1, v) = some (.inl ((R : Int), (k : Int) - 1, v.set k (Q : Int))) := by
      unfold spec_l02Small_L1
      simp only []
      rw [show ((k + 1 : Nat) : Int) - 1 = (k : Int) by omega, if_pos (by omega), idx_lt h1, hx, idx_lt h2]
      simp only [Option.bind_some, letO_bind, setI_nat]
      rw [mulBB, wi (n := ((r * BB : Nat) : Int)) (by omega), show ((r * BB : Nat) : Int) + (x : Int) = ((r * BB + x : Nat) : Int) by omega, chk_pos (by omega), wi (n := ((r * BB + x : Nat) : Int)) (by omega), t1, t2]
      simp only [Option.bind_some]
      rw [wi (by omega), wi (by omega)]
    obtain ⟨r', v', e1, e2, e3, e4, e5⟩ := ih R (v.set k (Q : Int)) (by omega) hm (dgs_set hv _ _ (by omega)) (by simpa using hl) (by
        rw [val_drop_cons h1, val_drop_cons (l := v.set k _) (by simpa using h2), List.getElem_set_self, val_drop_set, he, hx, Int.toNat_natCast, Int.toNat_natCast]
        rw [Nat.mul_add, Nat.mul_add d, ← Nat.mul_assoc BB d, ← Nat.mul_assoc d BB, Nat.mul_comm BB d]
        rw [Nat.mul_comm BB r]
        omega) (by
        rw [List.take_set_of_le (by omega)]
        have := congrArg (List.take k) ht
        rw [List.take_take, Nat.min_eq_left (by omega), List.take_replicate, Nat.min_eq_left (by omega)] at this
        exact this)
    exact ⟨r', v', by rw [lp_more s1]; exact e1, e2, e3, e4, e5⟩
theorem div_unique {a b q r : Nat} (hb : r < b) (h : a = b * q + r) : q = a / b ∧ r = a % b := by
  subst h
  constructor
  · rw [Nat.mul_comm, Nat.add_comm, Nat.add_mul_div_right _ _ (by omega), Nat.div_eq_of_lt hb, Nat.zero_add]
  · rw [Nat.add_comm, Nat.add_mul_mod_self_left, Nat.mod_eq_of_lt hb]
theorem l02Small_d (x d : Nat) (hd : 0 < d ∧ d < 1000000000) (hx : (digits x).length ≤ 1000) : spec_l02Small (digits x) (d : Int) = some (digits (x / d), ((x % d : Nat) : Int)) := by
  obtain ⟨r', v', e1, e2, e3, e4, e5⟩ := small_loop (digits x) d hd (digits_dgs x) hx (digits x).length 0 (List.replicate (digits x).length 0) (Nat.le_refl _) hd.1 (dgs_rep _) (by simp) (by rw [val_drop_nil (Nat.le_refl _), val_drop_nil (by simp)]; rfl) (by simp)
  rw [val_digits] at e5
  obtain ⟨q1, q2⟩ := div_unique e2 e5
  unfold spec_l02Small
  rw [chk_pos (by omega)]
  simp only [Option.bind_some, letO_bind, Int.toNat_natCast]
  rw [show ((0 : Nat) : Int) = 0 from rfl] at e1
  rw [wi (by omega), e1]
  simp only [Option.bind_some]
  rw [trim_d e3 (by omega), q1, q2]; rfl
/-- the greatest digit -/
theorem digit_loop (r b : Nat) (hb : 0 < b) (hlr : (digits r).length ≤ 800) (hlb : (digits b).length ≤ 800) : ∀ (m lo hi : Nat), hi - lo ≤ m → lo ≤ r / b → r / b ≤ hi → hi ≤ 999999999 → lp (spec_l02Digit_L1 (digits r) (digits b)) ((lo : Int), (hi : Int)) = some ((r / b : Nat) : Int) := by
  intro m
  induction m with
  | zero =>
    intro lo hi h1 h2 h3 h4
    have : lo = r / b := by omega
    subst this
    refine lp_done ?_
    unfold spec_l02Digit_L1; simp only []; rw [if_neg (by omega)]
  | succ m ih =>
    intro lo hi h1 h2 h3 h4
    by_cases c : lo < hi
    · have hq : ((lo : Int) + (hi : Int) + 1).tdiv 2 = (((lo + hi + 1) / 2 : Nat) : Int) := by
        rw [show (lo : Int) + (hi : Int) + 1 = ((lo + hi + 1 : Nat) : Int) by omega, show (2 : Int) = ((2 : Nat) : Int) from rfl, tdivN]
      obtain ⟨q, hqe⟩ : ∃ q, q = (lo + hi + 1) / 2 := ⟨_, rfl⟩
      have hlq : (digits q).length ≤ 1 := digits_len_le (by rw [BB_eq]; omega)
      have hlm : (digits (b * q)).length ≤ 900 := by have := digits_len_prod b q; omega
      have hc : cmpN (b * q) r ≤ 0 ↔ q ≤ r / b := by
        rw [Nat.le_div_iff_mul_le hb, Nat.mul_comm q b]
        unfold cmpN
        by_cases c1 : b * q < r
        · rw [if_pos c1]; constructor <;> intro _ <;> omega
        · rw [if_neg c1]
          by_cases c2 : r < b * q
          · rw [if_pos c2]; constructor <;> intro _ <;> omega
          · rw [if_neg c2]; constructor <;> intro _ <;> omega
      by_cases c2 : q ≤ r / b
      · have s1 : spec_l02Digit_L1 (digits r) (digits b) ((lo : Int), (hi : Int)) = some (.inl ((q : Int), (hi : Int))) := by
          unfold spec_l02Digit_L1
          simp only [letO_bind]
          rw [if_pos (by omega), wi (n := (lo : Int) + hi) (by omega), wi (n := (lo : Int) + hi + 1) (by omega), hq, ← hqe, wi (by omega), NatOf_p _ (by omega)]
          simp only [Option.bind_some]
          rw [(mul_both b q (by omega) (by omega)).1]
          simp only [Option.bind_some]
          rw [l02Cmp_d _ _ (by omega) (by omega)]
          simp only [Option.bind_some]
          rw [if_pos (hc.2 c2)]
        rw [lp_more s1]
        exact ih q hi (by omega) c2 h3 h4
      · have s1 : spec_l02Digit_L1 (digits r) (digits b) ((lo : Int), (hi : Int)) = some (.inl ((lo : Int), ((q - 1 : Nat) : Int))) := by
          unfold spec_l02Digit_L1
          simp only [letO_bind]
          rw [if_pos (by omega), wi (n := (lo : Int) + hi) (by omega), wi (n := (lo : Int) + hi + 1) (by omega), hq, ← hqe, wi (n := (q : Int)) (by omega), NatOf_p _ (by omega)]
          simp only [Option.bind_some]
          rw [(mul_both b q (by omega) (by omega)).1]
          simp only [Option.bind_some]
          rw [l02Cmp_d _ _ (by omega) (by omega)]
          simp only [Option.bind_some]
          rw [if_neg (fun h => c2 (hc.1 h)), wi (by omega), show (q : Int) - 1 = ((q - 1 : Nat) : Int) by omega]
        rw [lp_more s1]
        exact ih lo (q - 1) (by omega) h2 (by omega) (by omega)
    · have : lo = r / b := by omega
      subst this
      refine lp_done ?_
      unfold spec_l02Digit_L1; simp only []; rw [if_neg (by omega)]
theorem l02Digit_d (r b : Nat) (hb : 0 < b) (hlr : (digits r).length ≤ 800) (hlb : (digits b).length ≤ 800) (h : r / b ≤ 999999999) : spec_l02Digit (digits r) (digits b) = some ((r / b : Nat) : Int) := by
  unfold spec_l02Digit
  have := digit_loop r b hb hlr hlb 999999999 0 999999999 (by omega) (Nat.zero_le _) h (Nat.le_refl _)
  rw [show ((0 : Nat) : Int) = 0 from rfl, show ((999999999 : Nat) : Int) = 999999999 from rfl] at this
  rw [this]; rfl
end Go.Ev

/- Naturals as limbs: quotients of any length; both programs. -/
namespace Go.Ev
set_option linter.all false
theorem digits_len1 {d : Nat} (h : d < BB) : (digits d).length ≤ 1 := digits_len_le (by simpa using h)
theorem front_trim (x R : Nat) (hx : x < 1000000000) (hl : (digits R).length ≤ 4000) : spec_l02Trim ([(x : Int)] ++ digits R) = some (digits (x + BB * R)) := by
  rw [trim_d (by rw [dgs_app]; exact ⟨by intro z hz; simp at hz; omega, digits_dgs R⟩) (by simp; omega)]
  rw [List.singleton_append, val, val_digits, Int.toNat_natCast]
theorem rest_len {R b : Nat} (h : R < b * BB) : (digits R).length ≤ (digits b).length + 2 := by
  have h1 := digits_len_prod b BB
  have h2 : (digits BB).length ≤ 2 := digits_len_le (by rw [BB_eq]; omega)
  have h3 := digits_len_mul (Nat.le_of_lt h) (Nat.le_refl _)
  omega
theorem rest_lt {x R b : Nat} (hx : x < 1000000000) (hR : R < b) : x + BB * R < b * BB := by
  have : (R + 1) * BB ≤ b * BB := Nat.mul_le_mul_right _ hR
  rw [Nat.succ_mul, Nat.mul_comm R] at this
  have : x < BB := by rw [BB_eq]; omega
  omega
theorem quot_lt {R b : Nat} (hb : 0 < b) (h : R < b * BB) : R / b < BB := by rw [Nat.div_lt_iff_lt_mul hb, Nat.mul_comm BB]; exact h
/-- the spec's long division -/
theorem div_loop (a : List Int) (b : Nat) (hb : 0 < b) (hlb : (digits b).length ≤ 700) (ha : dgs a) (hla : a.length ≤ 1000) : ∀ (k R : Nat) (v : List Int), k ≤ a.length → R < b → dgs v → v.length = a.length → val (a.drop k) = b * val (v.drop k) + R → v.take k = List.replicate k 0 →
    ∃ (R' : Nat) (v' : List Int), lp (spec_l02Div_L1 a (digits b)) (digits R, (k : Int) - 1, v) = some (digits R', v') ∧ R' < b ∧ dgs v' ∧ v'.length = a.length ∧ val a = b * val v' + R' := by
  intro k
  induction k with
  | zero =>
    intro R v hk hr hv hl he ht
    refine ⟨R, v, lp_done ?_, hr, hv, hl, by simpa using he⟩
    unfold spec_l02Div_L1; simp only []; rw [if_neg (by omega)]
  | succ k ih =>
    intro R v hk hr hv hl he ht
    have h1 : k < a.length := by omega
    have h2 : k < v.length := by omega
    have d1 := dgs_get ha h1
    obtain ⟨x, hx⟩ : ∃ x : Nat, a[k] = (x : Int) := ⟨(a[k]).toNat, by omega⟩
    have hx2 : x < 1000000000 := by omega
    have hn := rest_lt hx2 hr
    have hq := quot_lt hb hn
    have hm := Nat.mod_lt (x + BB * R) hb
    have hmd := Nat.mod_add_div (x + BB * R) b
    have hlR : (digits R).length ≤ (digits b).length := digits_len_mul (Nat.le_of_lt hr) (Nat.le_refl _)
    have hlR2 := rest_len hn
    have hv0 : v[k] = 0 := by
      have q : (v.take (k + 1))[k]? = some 0 := by rw [ht]; simp
      rw [List.getElem?_take_of_lt (by omega), List.getElem?_eq_getElem h2] at q
      exact Option.some.inj q
    obtain ⟨Q, hQ⟩ : ∃ Q, Q = (x + BB * R) / b := ⟨_, rfl⟩
    obtain ⟨M, hM⟩ : ∃ M, M = (x + BB * R) % b := ⟨_, rfl⟩
    have hq' : (x + BB * R) / b < 1000000000 := Nat.lt_of_lt_of_eq hq BB_eq
    have hq2 : Q < 1000000000 := by rw [hQ]; exact hq'
    have s1 : spec_l02Div_L1 a (digits b) (digits R, ((k + 1 : Nat) : Int) - 1, v) = some (.inl (digits M, (k : Int) - 1, v.set k (Q : Int))) := by
      unfold spec_l02Div_L1
      simp only []
      rw [show ((k + 1 : Nat) : Int) - 1 = (k : Int) by omega, if_pos (by omega), idx_lt h1, hx, idx_lt h2]
      simp only [Option.bind_some, letO_bind, setI_nat]
      rw [chk_pos (by simp; omega)]
      simp only [Option.bind_some]
      rw [front_trim x R hx2 (by omega)]
      simp only [Option.bind_some]
      rw [l02Cmp_d _ _ (by omega) (by omega)]
      simp only [Option.bind_some]
      by_cases c : x + BB * R < b
      · have e1 : Q = 0 := by rw [hQ, Nat.div_eq_of_lt c]
        have e2 : M = x + BB * R := by rw [hM, Nat.mod_eq_of_lt c]
        have e3 : v.set k ((0 : Nat) : Int) = v := by
          apply List.ext_getElem
          · simp
          · intro i q1 q2
            rw [List.getElem_set]
            split
            · rename_i h; subst h; exact hv0.symm
            · rfl
        rw [e1, e2, e3, if_pos (by unfold cmpN; rw [if_pos c]; omega), wi (by omega)]
      · have hcm : ¬ cmpN (x + BB * R) b < 0 := by
          unfold cmpN; rw [if_neg c]; split <;> omega
        rw [if_neg hcm, l02Digit_d _ b hb (by omega) (by omega) (by omega)]
        simp only [Option.bind_some]
        rw [← hQ, NatOf_p _ (by omega)]
        simp only [Option.bind_some]
        have hl1 : (digits Q).length ≤ 1 := digits_len1 (by rw [BB_eq]; omega)
        rw [(mul_both b Q (by omega) (by omega)).1]
        simp only [Option.bind_some]
        rw [← hM, ← hQ] at hmd
        rw [(sub_both (x + BB * R) (b * Q) (by omega) (by omega)).1]
        simp only [Option.bind_some]
        rw [show x + BB * R - b * Q = M by omega, wi (by omega)]
    obtain ⟨R', v', e1, e2, e3, e4, e5⟩ := ih M (v.set k (Q : Int)) (by omega) (by rw [hM]; exact hm) (dgs_set hv _ _ (by omega)) (by simpa using hl) (by
        rw [val_drop_cons h1, val_drop_cons (l := v.set k _) (by simpa using h2), List.getElem_set_self, val_drop_set, he, hx, Int.toNat_natCast, Int.toNat_natCast]
        rw [Nat.mul_add, Nat.mul_add b, ← Nat.mul_assoc BB b, ← Nat.mul_assoc b BB, Nat.mul_comm BB b]
        rw [← hM, ← hQ] at hmd
        omega) (by
        rw [List.take_set_of_le (by omega)]
        have := congrArg (List.take k) ht
        rw [List.take_take, Nat.min_eq_left (by omega), List.take_replicate, Nat.min_eq_left (by omega)] at this
        exact this)
    exact ⟨R', v', by rw [lp_more s1]; exact e1, e2, e3, e4, e5⟩
theorem l02Div_d (x b : Nat) (hb : 0 < b) (hx : (digits x).length ≤ 700) (hlb : (digits b).length ≤ 700) : spec_l02Div (digits x) (digits b) = some (digits (x / b), digits (x % b)) := by
  unfold spec_l02Div
  by_cases c : (digits b).length = 1
  · rw [if_pos (by omega)]
    have hbB : b < BB := by have := digits_lt b; rw [c, Nat.pow_one] at this; exact this
    have e := digits_small hbB (by omega)
    rw [show (0 : Int) = ((0 : Nat) : Int) from rfl, idx_lt (by omega)]
    simp only [e, List.getElem_cons_zero, Option.bind_some]
    rw [BB_eq] at hbB
    rw [l02Small_d x b ⟨hb, by omega⟩ (by omega)]
    simp only [Option.bind_some]
    have := Nat.mod_lt x hb
    rw [NatOf_p _ (by omega)]; rfl
  · rw [if_neg (by omega), chk_pos (by omega)]
    simp only [Option.bind_some, letO_bind, Int.toNat_natCast]
    obtain ⟨r', v', e1, e2, e3, e4, e5⟩ := div_loop (digits x) b hb hlb (digits_dgs x) (by omega) (digits x).length 0 (List.replicate (digits x).length 0) (Nat.le_refl _) hb (dgs_rep _) (by simp) (by rw [val_drop_nil (Nat.le_refl _), val_drop_nil (by simp)]; rfl) (by simp)
    rw [val_digits] at e5
    rw [digits_zero] at e1
    obtain ⟨q1, q2⟩ := div_unique e2 e5
    rw [wi (by omega), e1]
    simp only [Option.bind_some]
    rw [trim_d e3 (by omega), q1, q2]; rfl
/-- a quotient's digit guessed from the top -/
theorem guess_d (R b : Nat) (hb : 0 < b) (hR : b ≤ R) (h : R < b * BB) (hlb : (digits b).length ≤ 700) : ∃ g : Nat, impl_natGuess (digits R) (digits b) = some (g : Int) ∧ 1 ≤ g ∧ b * g ≤ R := by
  obtain ⟨m, hm⟩ : ∃ m, (digits b).length = m + 1 := by
    have : (digits b).length ≠ 0 := fun e => digits_ne (n := b) (by omega) (List.length_eq_zero_iff.1 e)
    exact ⟨(digits b).length - 1, by omega⟩
  have hbl := digits_lt b
  rw [hm, Nat.pow_succ] at hbl
  have hr1 : m + 1 ≤ (digits R).length := by rw [← hm]; exact digits_len_mul hR (Nat.le_refl _)
  have hRl : R < BB ^ m * BB * BB := Nat.lt_of_lt_of_le h (Nat.mul_le_mul_right _ (Nat.le_of_lt hbl))
  have hr2 : (digits R).length ≤ m + 2 := digits_len_le (by rw [Nat.pow_succ, Nat.pow_succ]; exact hRl)
  have hp := pow_pos' m
  have hbt : b / BB ^ m < BB := by rw [Nat.div_lt_iff_lt_mul hp, Nat.mul_comm BB]; exact hbl
  have hT : R / BB ^ m < BB * BB := by rw [Nat.div_lt_iff_lt_mul hp, Nat.mul_comm (BB * BB), ← Nat.mul_assoc]; exact hRl
  have hbd : b < BB ^ m * (b / BB ^ m + 1) := Nat.lt_mul_div_succ b hp
  have hTd : BB ^ m * (R / BB ^ m) ≤ R := Nat.mul_div_le R _
  have hi1 : m < (digits R).length := by omega
  have hi2 : m < (digits b).length := by omega
  have g1 := digits_getM hi1
  have g2 := digits_getM hi2
  rw [Nat.mod_eq_of_lt hbt] at g2
  unfold impl_natGuess
  simp only [letO_bind]
  rw [hm, wi (by omega), show (((m + 1 : Nat) : Int) - 1) = (m : Int) by omega, idx_lt hi1, idx_lt hi2, g1, g2]
  simp only [Option.bind_some]
  have top : ((if (((m + 1 : Nat) : Int) < ((digits R).length : Int)) then (idx (digits R) ((m + 1 : Nat) : Int)).bind fun y3 => some (IntKind.i64.wrap (((R / BB ^ m % BB : Nat) : Int) + IntKind.i64.wrap (y3 * 1000000000))) else some ((R / BB ^ m % BB : Nat) : Int)) : Option Int) = some ((R / BB ^ m : Nat) : Int) := by
    have hmod := Nat.mod_add_div (R / BB ^ m) BB
    by_cases c : m + 1 < (digits R).length
    · have g3 := digits_getM c
      rw [Nat.pow_succ, ← Nat.div_div_eq_div_mul] at g3
      have h3 : R / BB ^ m / BB < BB := by rw [Nat.div_lt_iff_lt_mul BB_pos]; exact hT
      rw [Nat.mod_eq_of_lt h3] at g3
      rw [if_pos (by omega), idx_lt c, g3]
      simp only [Option.bind_some]
      generalize R / BB ^ m = T at hT hmod h3 ⊢
      have h4 : T % BB < BB := Nat.mod_lt _ BB_pos
      generalize T % BB = T0 at hmod h4 ⊢
      generalize T / BB = T1 at hmod h3 ⊢
      rw [mulBB, Nat.mul_comm T1]
      rw [BB_eq] at hT
      rw [wi (n := ((BB * T1 : Nat) : Int)) (by omega), wi (by omega)]; congr 1; omega
    · have e : (digits R).length = m + 1 := by omega
      have h3 : R / BB ^ m < BB := by
        rw [Nat.div_lt_iff_lt_mul hp, Nat.mul_comm BB, ← Nat.pow_succ]
        have := digits_lt R
        rwa [e] at this
      rw [if_neg (by omega), Nat.mod_eq_of_lt h3]
  rw [top]
  simp only [Option.bind_some]
  by_cases c : m = 0
  · subst c
    rw [if_pos (by omega), show (0 : Int) = ((0 : Nat) : Int) from rfl, idx_lt hi2, g2]
    simp only [Nat.pow_zero, Nat.div_one, Option.bind_some]
    rw [chk_pos (by omega), tdivN]
    have hq := quot_lt hb h
    rw [BB_eq] at hq
    generalize hQ : R / b = Q at hq
    refine ⟨Q, by simp only [Option.bind_some]; rw [wi (by omega)], ?_, ?_⟩
    · rw [← hQ, Nat.le_div_iff_mul_le hb]; omega
    · rw [← hQ]; exact Nat.mul_div_le R b
  · rw [if_neg (by omega)]
    generalize b / BB ^ m = t at hbt hbd ⊢
    generalize R / BB ^ m = T at hT hTd ⊢
    rw [BB_eq] at hbt
    rw [wi (n := (t : Int) + 1) (by omega), chk_pos (by omega), show (t : Int) + 1 = ((t + 1 : Nat) : Int) by omega, tdivN]
    have hg := Nat.div_mul_le_self T (t + 1)
    have hgT : T / (t + 1) ≤ T := Nat.div_le_self _ _
    generalize T / (t + 1) = G at hg hgT ⊢
    rw [BB_eq] at hT
    simp only [Option.bind_some]
    rw [wi (by omega)]
    by_cases c2 : G = 0
    · subst c2
      exact ⟨1, by rw [if_pos (by omega)]; rfl, Nat.le_refl _, by omega⟩
    · refine ⟨G, by rw [if_neg (by omega)], by omega, ?_⟩
      have e1 : G * b ≤ G * (BB ^ m * (t + 1)) := Nat.mul_le_mul_left _ (Nat.le_of_lt hbd)
      have e2 : BB ^ m * (G * (t + 1)) ≤ BB ^ m * T := Nat.mul_le_mul_left _ hg
      rw [Nat.mul_left_comm] at e2
      rw [Nat.mul_comm b]; omega
/-- the inner loop of the program's long division -/
theorem divI_inner (b : Nat) (hb : 0 < b) (hlb : (digits b).length ≤ 700) (k : Nat) : ∀ (R q0 : Nat) (v : List Int), R < b * BB → k < v.length → v[k]? = some (q0 : Int) → q0 + R / b ≤ 999999999 →
    lp (impl_natDiv_L1 (digits b) (k : Int)) (digits R, v) = some (digits (R % b), v.set k ((q0 + R / b : Nat) : Int)) := by
  intro R
  induction R using Nat.strongRecOn with
  | _ R ih =>
    intro q0 v hR hk hv hq
    have hl := rest_len hR
    by_cases c : R < b
    · rw [Nat.div_eq_of_lt c, Nat.mod_eq_of_lt c, Nat.add_zero]
      have : v.set k (q0 : Int) = v := by
        apply List.ext_getElem
        · simp
        · intro i p1 p2
          rw [List.getElem_set]
          split
          · rename_i h; subst h
            rw [List.getElem?_eq_getElem hk] at hv; exact (Option.some.inj hv).symm
          · rfl
      rw [this]
      refine lp_done ?_
      unfold impl_natDiv_L1
      simp only []
      rw [natCmp_d _ _ (by omega) (by omega)]
      simp only [Option.bind_some]
      rw [if_neg (by unfold cmpN; rw [if_pos c]; omega)]
    · obtain ⟨g, e1, e2, e3⟩ := guess_d R b hb (by omega) hR hlb
      have hgq : g ≤ R / b := by rw [Nat.le_div_iff_mul_le hb, Nat.mul_comm]; exact e3
      have hdiv : (R - b * g) / b = R / b - g := by rw [Nat.sub_mul_div]
      have hmod : (R - b * g) % b = R % b := Nat.sub_mul_mod (by omega)
      have hbg : b ≤ b * g := Nat.le_mul_of_pos_right _ e2
      generalize R / b = Q at hq hgq hdiv ⊢
      have hd : ([(g : Int)] : List Int) = digits g := (digits_small (by rw [BB_eq]; omega) (by omega)).symm
      have hl1 : (digits g).length ≤ 1 := digits_len1 (by rw [BB_eq]; omega)
      have s1 : impl_natDiv_L1 (digits b) (k : Int) (digits R, v) = some (.inl (digits (R - b * g), v.set k ((q0 + g : Nat) : Int))) := by
        unfold impl_natDiv_L1
        simp only []
        rw [natCmp_d _ _ (by omega) (by omega)]
        simp only [Option.bind_some]
        rw [if_pos (by unfold cmpN; rw [if_neg c]; split <;> omega), e1]
        simp only [Option.bind_some]
        rw [hd, (mul_both b g (by omega) (by omega)).2]
        simp only [Option.bind_some]
        rw [(sub_both R (b * g) (by omega) e3).2]
        simp only [Option.bind_some]
        rw [idx_nat, hv]
        simp only [Option.bind_some, letO_bind, setI_nat]
        rw [wi (by omega)]; rfl
      rw [lp_more s1, ih (R - b * g) (by omega) (q0 + g) _ (by omega) (by simpa using hk) (by rw [List.getElem?_set_self hk]) (by rw [hdiv]; omega), hmod, hdiv, List.set_set]
      congr 3; congr 1; omega
theorem divI_loop (a : List Int) (b : Nat) (hb : 0 < b) (hlb : (digits b).length ≤ 700) (ha : dgs a) (hla : a.length ≤ 1000) : ∀ (k R : Nat) (v : List Int), k ≤ a.length → R < b → dgs v → v.length = a.length → val (a.drop k) = b * val (v.drop k) + R → v.take k = List.replicate k 0 →
    ∃ (R' : Nat) (v' : List Int), lp (impl_natDiv_L2 a (digits b)) (digits R, (k : Int) - 1, v) = some (digits R', v') ∧ R' < b ∧ dgs v' ∧ v'.length = a.length ∧ val a = b * val v' + R' := by
  intro k
  induction k with
  | zero =>
    intro R v hk hr hv hl he ht
    refine ⟨R, v, lp_done ?_, hr, hv, hl, by simpa using he⟩
    unfold impl_natDiv_L2; simp only []; rw [if_neg (by omega)]
  | succ k ih =>
    intro R v hk hr hv hl he ht
    have h1 : k < a.length := by omega
    have h2 : k < v.length := by omega
    have d1 := dgs_get ha h1
    obtain ⟨x, hx⟩ : ∃ x : Nat, a[k] = (x : Int) := ⟨(a[k]).toNat, by omega⟩
    have hx2 : x < 1000000000 := by omega
    have hn := rest_lt hx2 hr
    have hq := quot_lt hb hn
    have hm := Nat.mod_lt (x + BB * R) hb
    have hmd := Nat.mod_add_div (x + BB * R) b
    have hlR : (digits R).length ≤ (digits b).length := digits_len_mul (Nat.le_of_lt hr) (Nat.le_refl _)
    have hv0 : v[k]? = some ((0 : Nat) : Int) := by
      have q : (v.take (k + 1))[k]? = some 0 := by rw [ht]; simp
      rw [List.getElem?_take_of_lt (by omega)] at q
      exact q
    have hq' : (x + BB * R) / b < 1000000000 := Nat.lt_of_lt_of_eq hq BB_eq
    clear hq
    have inn := divI_inner b hb hlb k (x + BB * R) 0 v hn h2 hv0 (by omega)
    rw [Nat.zero_add] at inn
    generalize (x + BB * R) / b = Q at hq' hmd inn
    generalize (x + BB * R) % b = M at hm hmd inn
    have s1 : impl_natDiv_L2 a (digits b) (digits R, ((k + 1 : Nat) : Int) - 1, v) = some (.inl (digits M, (k : Int) - 1, v.set k (Q : Int))) := by
      unfold impl_natDiv_L2
      simp only []
      rw [show ((k + 1 : Nat) : Int) - 1 = (k : Int) by omega, if_pos (by omega), idx_lt h1, hx]
      simp only [Option.bind_some, letO_bind]
      rw [chk_pos (by simp; omega)]
      simp only [Option.bind_some]
      rw [natTrim_same, front_trim x R hx2 (by omega)]
      simp only [Option.bind_some]
      rw [inn]
      simp only [Option.bind_some]
      rw [wi (by omega)]
    obtain ⟨R', v', e1, e2, e3, e4, e5⟩ := ih M (v.set k (Q : Int)) (by omega) hm (dgs_set hv _ _ (by omega)) (by simpa using hl) (by
        rw [val_drop_cons h1, val_drop_cons (l := v.set k _) (by simpa using h2), List.getElem_set_self, val_drop_set, he, hx, Int.toNat_natCast, Int.toNat_natCast]
        rw [Nat.mul_add, Nat.mul_add b, ← Nat.mul_assoc BB b, ← Nat.mul_assoc b BB, Nat.mul_comm BB b]
        omega) (by
        rw [List.take_set_of_le (by omega)]
        have := congrArg (List.take k) ht
        rw [List.take_take, Nat.min_eq_left (by omega), List.take_replicate, Nat.min_eq_left (by omega)] at this
        exact this)
    exact ⟨R', v', by rw [lp_more s1]; exact e1, e2, e3, e4, e5⟩
theorem small2_p : ∀ (l : List Int), dgs l → l.length ≤ 2 → impl_natSmall l = some (val l : Int)
  | [], _, _ => by
    unfold impl_natSmall
    simp only [letO_bind, List.length_nil]
    rw [wi (by omega), lp_done (r := 0) (by unfold impl_natSmall_L1; simp)]; rfl
  | [d], h, _ => by
    rw [dgs_cons] at h
    unfold impl_natSmall
    simp only [letO_bind, List.length_cons, List.length_nil]
    have s1 : impl_natSmall_L1 [d] (0, ((0 : Nat) : Int)) = some (.inl (d, -1)) := by
      unfold impl_natSmall_L1
      simp only []
      rw [if_pos (by omega), idx_lt (by simp)]
      simp only [Option.bind_some, letO_bind, List.getElem_cons_zero]
      rw [wi (n := 0 * 1000000000) (by omega), wi (by omega), wi (by omega)]
      simp
    rw [wi (by omega), show (((0 + 1 : Nat) : Int) - 1) = ((0 : Nat) : Int) by omega, lp_more s1, lp_done (r := d) (by unfold impl_natSmall_L1; simp)]
    simp [val] <;> omega
  | [d, e], h, _ => by
    rw [dgs_cons, dgs_cons] at h
    unfold impl_natSmall
    simp only [letO_bind, List.length_cons, List.length_nil]
    have s1 : impl_natSmall_L1 [d, e] (0, ((1 : Nat) : Int)) = some (.inl (e, ((0 : Nat) : Int))) := by
      unfold impl_natSmall_L1
      simp only []
      rw [if_pos (by omega), idx_lt (by simp)]
      simp only [Option.bind_some, letO_bind, List.getElem_cons_zero, List.getElem_cons_succ]
      rw [wi (n := 0 * 1000000000) (by omega), wi (by omega), wi (by omega)]
      simp
    have s2 : impl_natSmall_L1 [d, e] (e, ((0 : Nat) : Int)) = some (.inl (e * 1000000000 + d, -1)) := by
      unfold impl_natSmall_L1
      simp only []
      rw [if_pos (by omega), idx_lt (by simp)]
      simp only [Option.bind_some, letO_bind, List.getElem_cons_zero]
      rw [wi (n := e * 1000000000) (by omega), wi (by omega), wi (by omega)]
      rfl
    rw [wi (by omega), show (((0 + 1 + 1 : Nat) : Int) - 1) = ((1 : Nat) : Int) by omega, lp_more s1, lp_more s2, lp_done (r := e * 1000000000 + d) (by unfold impl_natSmall_L1; simp)]
    simp only [Option.bind_some, val, BB_eq, Nat.mul_zero, Nat.add_zero]
    congr 1; omega
  | _ :: _ :: _ :: _, _, h => by simp at h <;> omega
theorem small2_d (x : Nat) (h : (digits x).length ≤ 2) : impl_natSmall (digits x) = some (x : Int) := by rw [small2_p _ (digits_dgs x) h, val_digits]
theorem small2_lt {x : Nat} (h : (digits x).length ≤ 2) : x < 1000000000000000000 := by
  have h1 := digits_lt x
  have h2 : BB ^ (digits x).length ≤ BB ^ 2 := Nat.pow_le_pow_right BB_pos h
  have h3 : BB ^ 2 = 1000000000000000000 := by rw [BB_eq]
  omega
theorem natDiv_d (x b : Nat) (hb : 0 < b) (hx : (digits x).length ≤ 700) (hlb : (digits b).length ≤ 700) : impl_natDiv (digits x) (digits b) = some (digits (x / b), digits (x % b)) := by
  unfold impl_natDiv
  by_cases c : (digits x).length ≤ 2 ∧ (digits b).length ≤ 2
  · have h1 := small2_lt c.1
    have h2 := small2_lt c.2
    have n1 : ((digits x).length : Int) ≤ 2 := by omega
    have n2 : ((digits b).length : Int) ≤ 2 := by omega
    simp only [n1, n2, if_true, decide_true, Option.bind_some]
    rw [small2_d x c.1, small2_d b c.2]
    simp only [Option.bind_some, letO_bind]
    have q1 := Nat.div_le_self x b
    have q2 := Nat.mod_le x b
    rw [chk_pos (by omega), tdivN, tmodNN]
    generalize x / b = Q at q1 ⊢
    generalize x % b = M at q2 ⊢
    simp only [Option.bind_some]
    rw [wi (by omega), wu (by omega), wu (by omega), natOfUint_p Q (by omega), natOfUint_p M (by omega)]
    rfl
  · have : ((if ((digits x).length : Int) ≤ 2 then some (decide (((digits b).length : Int) ≤ 2)) else some false) : Option Bool) = some false := by
      by_cases c1 : (digits x).length ≤ 2
      · have c2 : ¬ (digits b).length ≤ 2 := fun h => c ⟨c1, h⟩
        rw [if_pos (by omega), decide_eq_false (by omega)]
      · rw [if_neg (by omega)]
    rw [this]
    simp only [Option.bind_some, Bool.false_eq_true, if_false, letO_bind]
    rw [chk_pos (by omega)]
    simp only [Option.bind_some, Int.toNat_natCast]
    obtain ⟨r', v', e1, e2, e3, e4, e5⟩ := divI_loop (digits x) b hb hlb (digits_dgs x) (by omega) (digits x).length 0 (List.replicate (digits x).length 0) (Nat.le_refl _) hb (dgs_rep _) (by simp) (by rw [val_drop_nil (Nat.le_refl _), val_drop_nil (by simp)]; rfl) (by simp)
    rw [val_digits] at e5
    rw [digits_zero] at e1
    obtain ⟨q1, q2⟩ := div_unique e2 e5
    rw [wi (by omega), e1]
    simp only [Option.bind_some]
    rw [natTrim_same, trim_d e3 (by omega), q1, q2]; rfl
end Go.Ev

/- Naturals as limbs: greatest common divisors, and which lists are naturals; both programs. -/
namespace Go.Ev
set_option linter.all false
theorem gcd_step (x y : Nat) : Nat.gcd x y = Nat.gcd y (x % y) := by rw [Nat.gcd_comm x y, Nat.gcd_rec y x, Nat.gcd_comm]
theorem plain_loop : ∀ (y x : Nat), lp impl_natGcd_L1 ((x : Int), (y : Int)) = some ((Nat.gcd x y : Nat) : Int) := by
  intro y
  induction y using Nat.strongRecOn with
  | _ y ih =>
    intro x
    by_cases c : y = 0
    · subst c
      rw [Nat.gcd_zero_right]
      exact lp_done (by unfold impl_natGcd_L1; simp)
    · have s1 : impl_natGcd_L1 ((x : Int), (y : Int)) = some (.inl ((y : Int), ((x % y : Nat) : Int))) := by
        unfold impl_natGcd_L1
        simp only []
        rw [if_pos (by omega), chk_pos (by omega), tmodNN]; rfl
      rw [lp_more s1, ih (x % y) (Nat.mod_lt _ (by omega)), ← gcd_step]
theorem plain_same : spec_l02Plain_L1 = impl_natGcd_L1 := rfl
theorem gcd_le18 {x y : Nat} (hx : x < 1000000000000000000) (hy : y < 1000000000000000000) : Nat.gcd x y < 1000000000000000000 := by
  by_cases c : x = 0
  · subst c; rw [Nat.gcd_zero_left]; exact hy
  · have := Nat.gcd_le_left y (Nat.pos_of_ne_zero c); omega
theorem gcd_loopI : ∀ (y x : Nat), (digits x).length ≤ 700 → (digits y).length ≤ 700 → ∃ r, lp impl_natGcd_L2 (digits x, digits y) = some r ∧ (r = .inl (digits (Nat.gcd x y)) ∨ r = .inr (digits (Nat.gcd x y))) := by
  intro y
  induction y using Nat.strongRecOn with
  | _ y ih =>
    intro x hx hy
    by_cases c : y = 0
    · subst c
      rw [Nat.gcd_zero_right]
      refine ⟨.inl (digits x), lp_done ?_, .inl rfl⟩
      unfold impl_natGcd_L2
      simp [digits_zero]
    · have hy0 : (digits y).length ≠ 0 := fun e => digits_ne c (List.length_eq_zero_iff.1 e)
      by_cases c2 : (digits x).length ≤ 2 ∧ (digits y).length ≤ 2
      · refine ⟨.inr (digits (Nat.gcd x y)), lp_done ?_, .inr rfl⟩
        have h1 := small2_lt c2.1
        have h2 := small2_lt c2.2
        have h3 := gcd_le18 h1 h2
        have n1 : ((digits x).length : Int) ≤ 2 := by omega
        have n2 : ((digits y).length : Int) ≤ 2 := by omega
        unfold impl_natGcd_L2
        simp only [n1, n2, if_true, decide_true, Option.bind_some]
        rw [if_pos (by omega), small2_d x c2.1, small2_d y c2.2]
        simp only [Option.bind_some]
        rw [plain_loop]
        simp only [Option.bind_some]
        rw [wu (by omega), natOfUint_p _ (by omega)]; rfl
      · have s1 : impl_natGcd_L2 (digits x, digits y) = some (.inl (digits y, digits (x % y))) := by
          unfold impl_natGcd_L2
          simp only []
          have : ((if ((digits x).length : Int) ≤ 2 then some (decide (((digits y).length : Int) ≤ 2)) else some false) : Option Bool) = some false := by
            by_cases c1 : (digits x).length ≤ 2
            · have c2 : ¬ (digits y).length ≤ 2 := fun h => c2 ⟨c1, h⟩
              rw [if_pos (by omega), decide_eq_false (by omega)]
            · rw [if_neg (by omega)]
          rw [if_pos (by omega), this]
          simp only [Option.bind_some, Bool.false_eq_true, if_false]
          rw [natDiv_d x y (by omega) hx hy]; rfl
        rw [lp_more s1, gcd_step x y]
        exact ih (x % y) (Nat.mod_lt _ (by omega)) y hy (by have := mod_len x (y := y) (by omega); omega)
theorem natGcd_d (x y : Nat) (hx : (digits x).length ≤ 700) (hy : (digits y).length ≤ 700) : impl_natGcd (digits x) (digits y) = some (digits (Nat.gcd x y)) := by
  unfold impl_natGcd
  obtain ⟨r, e1, e2⟩ := gcd_loopI y x hx hy
  have hl : (digits (Nat.gcd x y)).length ≤ 700 := by
    by_cases c : x = 0
    · subst c; rw [Nat.gcd_zero_left]; exact hy
    · exact Nat.le_trans (digits_len_mul (Nat.gcd_le_left y (Nat.pos_of_ne_zero c)) (Nat.le_refl _)) hx
  rw [e1]
  rcases e2 with rfl | rfl
  · simp only [Option.bind_some]
    unfold impl_copyInts
    rw [chk_pos (by simp; omega)]; rfl
  · rfl
/-- which lists are naturals -/
instance (l : List Int) : Decidable (dgs l) := by unfold dgs; infer_instance
def natOk (l : List Int) : Prop := dgs l ∧ l.length ≤ 60 ∧ l.getLast? ≠ some 0
instance (l : List Int) : Decidable (natOk l) := by unfold natOk; infer_instance
theorem natOk_nat {l : List Int} (h : natOk l) : nat l := ⟨h.1, h.2.2⟩
theorem natOk_digits {l : List Int} (h : natOk l) : l = digits (val l) := nat_digits (natOk_nat h)
theorem natOk_d {x : Nat} (h : (digits x).length ≤ 60) : natOk (digits x) := ⟨digits_dgs x, h, digits_last x⟩
theorem okI_loop (l : List Int) (hl : l.length ≤ 4294967296) : ∀ m k : Nat, m + k = l.length → lp (impl_NatOk_L1 l) (k : Int) = some (if dgs (l.drop k) then .inl () else .inr false) := by
  intro m
  induction m with
  | zero =>
    intro k hk
    rw [if_pos (by rw [List.drop_eq_nil_of_le (by omega)]; exact dgs_nil)]
    exact lp_done (by unfold impl_NatOk_L1; rw [if_neg (by omega)])
  | succ m ih =>
    intro k hk
    have hlt : k < l.length := by omega
    by_cases c : 0 ≤ l[k] ∧ l[k] < 1000000000
    · have s1 : impl_NatOk_L1 l (k : Int) = some (.inl ((k + 1 : Nat) : Int)) := by
        unfold impl_NatOk_L1
        have n1 : ¬ l[k] < 0 := by omega
        have n2 : ¬ 1000000000 ≤ l[k] := by omega
        rw [if_pos (by omega), idx_lt hlt, wi (by omega)]
        simp [n1, n2]
      rw [lp_more s1, ih (k + 1) (by omega)]
      have hd : dgs (l.drop k) ↔ dgs (l.drop (k + 1)) := by rw [List.drop_eq_getElem_cons hlt, dgs_cons]; exact ⟨fun h => h.2, fun h => ⟨c, h⟩⟩
      simp only [hd]
    · have h2 : ¬ dgs (l.drop k) := by rw [List.drop_eq_getElem_cons hlt, dgs_cons]; exact fun h => c h.1
      rw [if_neg h2]
      refine lp_done ?_
      unfold impl_NatOk_L1
      rw [if_pos (by omega), idx_lt hlt]
      simp only [Option.bind_some]
      by_cases n1 : l[k] < 0
      · rw [if_pos n1]; rfl
      · rw [if_neg n1, decide_eq_true (by omega)]; rfl
theorem l01In_q (a b c : Int) : spec_l01In a b c = some (decide (b ≤ a ∧ a ≤ c)) := by
  unfold spec_l01In
  by_cases h : b ≤ a <;> simp [h]
theorem okS_loop (l : List Int) (hl : l.length ≤ 4294967296) : ∀ m k : Nat, m + k = l.length → lp (spec_NatOk_L1 l) (k : Int) = some (if dgs (l.drop k) then .inl () else .inr false) := by
  intro m
  induction m with
  | zero =>
    intro k hk
    rw [if_pos (by rw [List.drop_eq_nil_of_le (by omega)]; exact dgs_nil)]
    exact lp_done (by unfold spec_NatOk_L1; rw [if_neg (by omega)])
  | succ m ih =>
    intro k hk
    have hlt : k < l.length := by omega
    by_cases c : 0 ≤ l[k] ∧ l[k] < 1000000000
    · have s1 : spec_NatOk_L1 l (k : Int) = some (.inl ((k + 1 : Nat) : Int)) := by
        unfold spec_NatOk_L1
        rw [if_pos (by omega), idx_lt hlt, wi (by omega)]
        simp only [Option.bind_some]
        rw [l01In_q, decide_eq_true (by omega)]; rfl
      rw [lp_more s1, ih (k + 1) (by omega)]
      have hd : dgs (l.drop k) ↔ dgs (l.drop (k + 1)) := by rw [List.drop_eq_getElem_cons hlt, dgs_cons]; exact ⟨fun h => h.2, fun h => ⟨c, h⟩⟩
      simp only [hd]
    · have h2 : ¬ dgs (l.drop k) := by rw [List.drop_eq_getElem_cons hlt, dgs_cons]; exact fun h => c h.1
      rw [if_neg h2]
      refine lp_done ?_
      unfold spec_NatOk_L1
      rw [if_pos (by omega), idx_lt hlt]
      simp only [Option.bind_some]
      rw [l01In_q, decide_eq_false (by omega)]; rfl
theorem ok_last (l : List Int) (hl : l.length ≤ 4294967296) (h : l.length ≠ 0) : (idx l (IntKind.i64.wrap ((l.length : Int) - 1))).bind (fun y => some (decide (y ≠ 0))) = some (decide (l.getLast? ≠ some 0)) := by
  have hlt : l.length - 1 < l.length := by omega
  rw [wi (by omega), show (l.length : Int) - 1 = ((l.length - 1 : Nat) : Int) by omega, idx_lt hlt, List.getLast?_eq_getElem?, List.getElem?_eq_getElem hlt]
  simp
theorem NatOkI_p (l : List Int) (hl : l.length ≤ 4294967296) : impl_NatOk l = some (decide (natOk l)) := by
  unfold impl_NatOk
  by_cases c : 60 < l.length
  · have : ¬ natOk l := fun h => by have := h.2.1; omega
    rw [if_pos (by omega), decide_eq_false this]
  · have := okI_loop l hl l.length 0 (by omega)
    rw [show ((0 : Nat) : Int) = 0 from rfl, List.drop_zero] at this
    rw [if_neg (by omega), this]
    by_cases d : dgs l
    · rw [if_pos d]
      simp only [Option.bind_some]
      by_cases z : l.length = 0
      · have e : l = [] := List.length_eq_zero_iff.1 z
        subst e
        rw [if_pos (by simp), decide_eq_true ⟨dgs_nil, by simp, by simp⟩]
      · rw [if_neg (by omega), letO_bind, ok_last l hl z]
        congr 1
        exact decide_eq_decide.2 ⟨fun h => ⟨d, by omega, h⟩, fun h => h.2.2⟩
    · have : ¬ natOk l := fun h => d h.1
      rw [if_neg d, decide_eq_false this]; rfl
theorem NatOkS_p (l : List Int) (hl : l.length ≤ 4294967296) : spec_NatOk l = some (decide (natOk l)) := by
  unfold spec_NatOk
  have := okS_loop l hl l.length 0 (by omega)
  rw [show ((0 : Nat) : Int) = 0 from rfl, List.drop_zero] at this
  rw [this]
  by_cases d : dgs l
  · rw [if_pos d]
    simp only [Option.bind_some]
    by_cases c : 60 < l.length
    · have : ¬ natOk l := fun h => by have := h.2.1; omega
      rw [if_neg (by omega), decide_eq_false this]
    · rw [if_pos (by omega)]
      by_cases z : l.length = 0
      · have e : l = [] := List.length_eq_zero_iff.1 z
        subst e
        rw [if_pos (by simp), decide_eq_true ⟨dgs_nil, by simp, by simp⟩]
      · rw [if_neg (by omega), letO_bind, ok_last l hl z]
        congr 1
        exact decide_eq_decide.2 ⟨fun h => ⟨d, by omega, h⟩, fun h => h.2.2⟩
  · have : ¬ natOk l := fun h => d h.1
    rw [if_neg d, decide_eq_false this]; rfl
theorem max_digits : ([854775807, 223372036, 9] : List Int) = digits 9223372036854775807 := by
  have h1 : dgs [854775807, 223372036, 9] := by intro d hd; simp at hd; omega
  have := nat_digits (l := [854775807, 223372036, 9]) ⟨h1, by simp⟩
  rw [this]; rfl
theorem toInt_loop : ∀ (l : List Int), dgs l → l.length ≤ 2 → lp (spec_NatToInt_L1 l) (0, (l.length : Int) - 1) = some (val l : Int)
  | [], _, _ => by
    rw [lp_done (r := 0) (by unfold spec_NatToInt_L1; simp)]; rfl
  | [d], h, _ => by
    rw [dgs_cons] at h
    have s1 : spec_NatToInt_L1 [d] (0, ((0 : Nat) : Int)) = some (.inl (d, -1)) := by
      unfold spec_NatToInt_L1
      simp only []
      rw [if_pos (by omega), idx_lt (by simp)]
      simp only [Option.bind_some, letO_bind, List.getElem_cons_zero]
      rw [wi (n := 0 * 1000000000) (by omega), wi (by omega), wi (by omega)]
      simp
    rw [show ((([d] : List Int).length : Int) - 1) = ((0 : Nat) : Int) by simp, lp_more s1, lp_done (r := d) (by unfold spec_NatToInt_L1; simp)]
    simp [val] <;> omega
  | [d, e], h, _ => by
    rw [dgs_cons, dgs_cons] at h
    have s1 : spec_NatToInt_L1 [d, e] (0, ((1 : Nat) : Int)) = some (.inl (e, ((0 : Nat) : Int))) := by
      unfold spec_NatToInt_L1
      simp only []
      rw [if_pos (by omega), idx_lt (by simp)]
      simp only [Option.bind_some, letO_bind, List.getElem_cons_zero, List.getElem_cons_succ]
      rw [wi (n := 0 * 1000000000) (by omega), wi (by omega), wi (by omega)]
      simp
    have s2 : spec_NatToInt_L1 [d, e] (e, ((0 : Nat) : Int)) = some (.inl (e * 1000000000 + d, -1)) := by
      unfold spec_NatToInt_L1
      simp only []
      rw [if_pos (by omega), idx_lt (by simp)]
      simp only [Option.bind_some, letO_bind, List.getElem_cons_zero]
      rw [wi (n := e * 1000000000) (by omega), wi (by omega), wi (by omega)]
      rfl
    rw [show ((([d, e] : List Int).length : Int) - 1) = ((1 : Nat) : Int) by simp, lp_more s1, lp_more s2, lp_done (r := e * 1000000000 + d) (by unfold spec_NatToInt_L1; simp)]
    simp only [val, BB_eq, Nat.mul_zero, Nat.add_zero]
    congr 1; omega
  | _ :: _ :: _ :: _, _, h => by simp at h <;> omega
theorem NatToInt_d (x : Nat) (h : (digits x).length ≤ 2) : spec_NatToInt (digits x) = some ((x : Int), true) := by
  have hx := small2_lt h
  have hl := digits_len64 (v := 9223372036854775807) (by omega)
  unfold spec_NatToInt
  rw [NatOkS_p _ (by omega), decide_eq_true (natOk_d (by omega)), max_digits]
  simp only [Option.bind_some, if_true]
  rw [l02Cmp_d _ _ (by omega) (by omega)]
  simp only [Option.bind_some, letO_bind]
  have : ¬ (0 < cmpN x 9223372036854775807) := by unfold cmpN; rw [if_pos (by omega)]; omega
  simp only [this, decide_false, Bool.false_eq_true, if_false]
  have e := toInt_loop (digits x) (digits_dgs x) h
  rw [val_digits] at e
  rw [wi (by omega), e]; rfl
theorem gcd_loopS : ∀ (y x : Nat), (digits x).length ≤ 700 → (digits y).length ≤ 700 → ∃ r, lp spec_l02Gcd_L1 (digits x, digits y) = some r ∧ (r = .inl (digits (Nat.gcd x y)) ∨ r = .inr (digits (Nat.gcd x y))) := by
  intro y
  induction y using Nat.strongRecOn with
  | _ y ih =>
    intro x hx hy
    by_cases c : y = 0
    · subst c
      rw [Nat.gcd_zero_right]
      refine ⟨.inl (digits x), lp_done ?_, .inl rfl⟩
      unfold spec_l02Gcd_L1
      simp [digits_zero]
    · have hy0 : (digits y).length ≠ 0 := fun e => digits_ne c (List.length_eq_zero_iff.1 e)
      by_cases c2 : (digits x).length ≤ 2 ∧ (digits y).length ≤ 2
      · refine ⟨.inr (digits (Nat.gcd x y)), lp_done ?_, .inr rfl⟩
        have h1 := small2_lt c2.1
        have h2 := small2_lt c2.2
        have h3 := gcd_le18 h1 h2
        have n1 : ((digits x).length : Int) < 3 := by omega
        have n2 : ((digits y).length : Int) < 3 := by omega
        unfold spec_l02Gcd_L1
        simp only [n1, n2, if_true, decide_true, Option.bind_some]
        rw [if_pos (by omega), NatToInt_d x c2.1, NatToInt_d y c2.2]
        simp only [Option.bind_some]
        unfold spec_l02Plain
        rw [plain_same, plain_loop]
        simp only [Option.bind_some]
        rw [NatOf_p _ (by omega)]; rfl
      · have s1 : spec_l02Gcd_L1 (digits x, digits y) = some (.inl (digits y, digits (x % y))) := by
          unfold spec_l02Gcd_L1
          simp only []
          have : ((if ((digits x).length : Int) < 3 then some (decide (((digits y).length : Int) < 3)) else some false) : Option Bool) = some false := by
            by_cases c1 : (digits x).length ≤ 2
            · have c2 : ¬ (digits y).length ≤ 2 := fun h => c2 ⟨c1, h⟩
              rw [if_pos (by omega), decide_eq_false (by omega)]
            · rw [if_neg (by omega)]
          rw [if_pos (by omega), this]
          simp only [Option.bind_some, Bool.false_eq_true, if_false]
          rw [l02Div_d x y (by omega) hx hy]; rfl
        rw [lp_more s1, gcd_step x y]
        exact ih (x % y) (Nat.mod_lt _ (by omega)) y hy (by have := mod_len x (y := y) (by omega); omega)
theorem l02Gcd_d (x y : Nat) (hx : (digits x).length ≤ 700) (hy : (digits y).length ≤ 700) : spec_l02Gcd (digits x) (digits y) = some (digits (Nat.gcd x y)) := by
  unfold spec_l02Gcd
  obtain ⟨r, e1, e2⟩ := gcd_loopS y x hx hy
  rw [chk_pos (by simp; omega), chk_pos (by simp; omega)]
  simp only [Option.bind_some, letO_bind, List.nil_append]
  rw [e1]
  rcases e2 with rfl | rfl <;> rfl
end Go.Ev

/- Whole numbers and fractions; both programs. -/
namespace Go.Ev
set_option linter.all false
def bigOk (x : BigInt) : Prop := natOk x.fMag ∧ (x.fNeg = true → x.fMag ≠ [])
instance (x : BigInt) : Decidable (bigOk x) := by unfold bigOk; infer_instance
theorem BigOkI_p (x : BigInt) (h : x.fMag.length ≤ 4294967296) : impl_BigIntOk x = some (decide (bigOk x)) := by
  unfold impl_BigIntOk
  rw [NatOkI_p _ h]
  simp only [Option.bind_some]
  by_cases c : natOk x.fMag
  · rw [decide_eq_true c]
    simp only [if_true]
    cases hn : x.fNeg with
    | true =>
      simp only [if_true]
      by_cases e : x.fMag = []
      · rw [decide_eq_false (fun g : bigOk x => g.2 hn e), e]; rfl
      · have : x.fMag.length ≠ 0 := fun g => e (List.length_eq_zero_iff.1 g)
        have hb : bigOk x := ⟨c, fun _ => e⟩
        rw [decide_eq_true hb, decide_eq_false (by omega)]; rfl
    | false =>
      have hb : bigOk x := ⟨c, fun g => by rw [hn] at g; cases g⟩
      rw [decide_eq_true hb]; rfl
  · rw [decide_eq_false c, decide_eq_false (fun g : bigOk x => c g.1)]; rfl
theorem BigOkS_p (x : BigInt) (h : x.fMag.length ≤ 4294967296) : spec_BigIntOk x = some (decide (bigOk x)) := by
  unfold spec_BigIntOk
  rw [NatOkS_p _ h]
  simp only [Option.bind_some]
  by_cases c : natOk x.fMag
  · rw [decide_eq_true c]
    simp only [if_true]
    cases hn : x.fNeg with
    | true =>
      simp only [if_true]
      by_cases e : x.fMag = []
      · rw [decide_eq_false (fun g : bigOk x => g.2 hn e), e]; rfl
      · have : x.fMag.length ≠ 0 := fun g => e (List.length_eq_zero_iff.1 g)
        have hb : bigOk x := ⟨c, fun _ => e⟩
        rw [decide_eq_true hb, decide_eq_true (by omega)]
    | false =>
      have hb : bigOk x := ⟨c, fun g => by rw [hn] at g; cases g⟩
      rw [decide_eq_true hb]; rfl
  · rw [decide_eq_false c, decide_eq_false (fun g : bigOk x => c g.1)]; rfl
def bval (x : BigInt) : Int := if x.fNeg = true then -(val x.fMag : Int) else (val x.fMag : Int)
theorem bval_abs (x : BigInt) : (bval x).natAbs = val x.fMag := by unfold bval; split <;> omega
theorem big_of {x : BigInt} (h : bigOk x) : x = big (bval x) := by
  obtain ⟨neg, mag⟩ := x
  unfold big
  rw [bval_abs]
  have e := natOk_digits h.1
  simp only [] at e ⊢
  rw [← e]
  congr 1
  unfold bval
  cases neg with
  | true =>
    have : val mag ≠ 0 := fun z => h.2 rfl (by simp only [] at e ⊢; rw [e, z, digits_zero])
    simp only [if_true]
    rw [decide_eq_true (by omega)]
  | false => simp
theorem sgn_mul (n m : Int) : ((!(decide (n < 0) == decide (m < 0))) && decide (n.natAbs * m.natAbs ≠ 0)) = decide (n * m < 0) := by
  rw [← Int.natAbs_mul]
  rcases Int.lt_trichotomy n 0 with h1 | h1 | h1
  · rcases Int.lt_trichotomy m 0 with h2 | h2 | h2
    · have := Int.mul_pos_of_neg_of_neg h1 h2
      rw [decide_eq_true h1, decide_eq_true h2, decide_eq_false (show ¬ n * m < 0 by omega)]; rfl
    · subst h2; simp
    · have := Int.mul_neg_of_neg_of_pos h1 h2
      rw [decide_eq_true h1, decide_eq_false (show ¬ m < 0 by omega), decide_eq_true (show (n * m).natAbs ≠ 0 by omega), decide_eq_true this]; rfl
  · subst h1; simp
  · rcases Int.lt_trichotomy m 0 with h2 | h2 | h2
    · have := Int.mul_neg_of_pos_of_neg h1 h2
      rw [decide_eq_false (show ¬ n < 0 by omega), decide_eq_true h2, decide_eq_true (show (n * m).natAbs ≠ 0 by omega), decide_eq_true this]; rfl
    · subst h2; simp
    · have := Int.mul_pos h1 h2
      rw [decide_eq_false (show ¬ n < 0 by omega), decide_eq_false (show ¬ m < 0 by omega), decide_eq_false (show ¬ n * m < 0 by omega)]; rfl
theorem big_mag (n : Int) : (big n).fMag = digits n.natAbs := rfl
theorem big_neg (n : Int) : (big n).fNeg = decide (n < 0) := rfl
def bl (n : Int) : Nat := (digits n.natAbs).length
theorem bl_mul (n m : Int) : bl (n * m) ≤ bl n + bl m := by unfold bl; rw [Int.natAbs_mul]; exact digits_len_prod _ _
theorem bl_add (n m : Int) : bl (n + m) ≤ max (bl n) (bl m) + 1 := by
  unfold bl
  exact Nat.le_trans (digits_len_mul (Int.natAbs_add_le n m) (Nat.le_refl _)) (digits_len_sum _ _)
theorem bigMul_d (n m : Int) (hn : bl n ≤ 60) (hm : bl m ≤ 60) (h : bl (n * m) ≤ 60) : impl_bigMul (big n) (big m) = some (big (n * m)) := by
  unfold impl_bigMul
  unfold bl at *
  rw [Int.natAbs_mul] at h
  simp only [big]
  rw [(mul_both n.natAbs m.natAbs (by omega) (by omega)).2]
  simp only [Option.bind_some]
  rw [bigMake_d _ _ h]
  simp only [Option.bind_some]
  rw [sgn_mul, Int.natAbs_mul]
theorem make_prod (n : Int) (d : Nat) (h : (digits (n.natAbs * d)).length ≤ 60) : spec_l03Make (decide (n < 0)) (digits (n.natAbs * d)) = some (big (n * d)) := by
  rw [l03Make_d _ _ h]
  have := sgn_mul n (d : Int)
  rw [decide_eq_false (show ¬ ((d : Int) < 0) by omega)] at this
  simp only [Int.natAbs_natCast] at this
  unfold big
  rw [← this]
  simp only [Int.natAbs_mul, Int.natAbs_natCast]
  congr 2
  cases decide (n < 0) <;> rfl
theorem add_sgn (n m : Int) (h : (decide (n < 0) == decide (m < 0)) = true) : (n + m).natAbs = n.natAbs + m.natAbs ∧ (decide (n < 0) && decide ((n + m).natAbs ≠ 0)) = decide (n + m < 0) := by
  by_cases c1 : n < 0
  · by_cases c2 : m < 0
    · refine ⟨by omega, ?_⟩
      rw [decide_eq_true c1, decide_eq_true (by omega), decide_eq_true (by omega)]; rfl
    · simp [c1, c2] at h
  · by_cases c2 : m < 0
    · simp [c1, c2] at h
    · refine ⟨by omega, ?_⟩
      rw [decide_eq_false c1, decide_eq_false (show ¬ (n + m < 0) by omega)]; rfl
theorem add_sub (n m : Int) (h : ¬ (decide (n < 0) == decide (m < 0)) = true) (hle : m.natAbs ≤ n.natAbs) : (n + m).natAbs = n.natAbs - m.natAbs ∧ (decide (n < 0) && decide ((n + m).natAbs ≠ 0)) = decide (n + m < 0) := by
  by_cases c1 : n < 0
  · by_cases c2 : m < 0
    · simp [c1, c2] at h
    · refine ⟨by omega, ?_⟩
      rw [decide_eq_true c1, Bool.true_and]
      exact decide_eq_decide.2 (by omega)
  · by_cases c2 : m < 0
    · refine ⟨by omega, ?_⟩
      rw [decide_eq_false c1, decide_eq_false (show ¬ (n + m < 0) by omega)]; rfl
    · simp [c1, c2] at h
theorem bigAdd_d (n m : Int) (hn : bl n ≤ 60) (hm : bl m ≤ 60) (h : bl (n + m) ≤ 60) : impl_bigAdd (big n) (big m) = some (big (n + m)) := by
  unfold impl_bigAdd
  unfold bl at *
  by_cases c : (decide (n < 0) == decide (m < 0)) = true
  · obtain ⟨e1, e2⟩ := add_sgn n m c
    rw [if_pos (show ((big n).fNeg == (big m).fNeg) = true from c)]
    simp only [big_mag, big_neg]
    rw [natAdd_d _ _ (by omega) (by omega)]
    simp only [Option.bind_some]
    rw [← e1, bigMake_d _ _ h, e2]; rfl
  · rw [if_neg (show ¬ ((big n).fNeg == (big m).fNeg) = true from c)]
    simp only [big_mag, big_neg]
    rw [natCmp_d _ _ (by omega) (by omega)]
    simp only [Option.bind_some]
    by_cases c2 : m.natAbs ≤ n.natAbs
    · obtain ⟨e1, e2⟩ := add_sub n m c c2
      have c3 : 0 ≤ cmpN n.natAbs m.natAbs := by unfold cmpN; rw [if_neg (by omega)]; split <;> omega
      rw [if_pos c3, (sub_both _ _ (by omega) c2).2]
      simp only [Option.bind_some]
      rw [← e1, bigMake_d _ _ h, e2]; rfl
    · obtain ⟨e1, e2⟩ := add_sub m n (by rw [Bool.beq_comm]; exact c) (by omega)
      have c3 : ¬ 0 ≤ cmpN n.natAbs m.natAbs := by unfold cmpN; rw [if_pos (by omega)]; omega
      rw [if_neg c3, (sub_both _ _ (by omega) (by omega)).2]
      simp only [Option.bind_some]
      rw [← e1, Int.add_comm m n] at *
      rw [bigMake_d _ _ h, e2]; rfl
theorem l03Add_d (n m : Int) (hn : bl n ≤ 60) (hm : bl m ≤ 60) (h : bl (n + m) ≤ 60) : spec_l03Add (big n) (big m) = some (big (n + m)) := by
  unfold spec_l03Add
  unfold bl at *
  by_cases c : (decide (n < 0) == decide (m < 0)) = true
  · obtain ⟨e1, e2⟩ := add_sgn n m c
    rw [if_pos (show ((big n).fNeg == (big m).fNeg) = true from c)]
    simp only [big_mag, big_neg]
    rw [l02Add_d _ _ (by omega) (by omega)]
    simp only [Option.bind_some]
    rw [← e1, l03Make_d _ _ h, e2]; rfl
  · rw [if_neg (show ¬ ((big n).fNeg == (big m).fNeg) = true from c)]
    simp only [big_mag, big_neg]
    rw [l02Cmp_d _ _ (by omega) (by omega)]
    simp only [Option.bind_some]
    by_cases c2 : m.natAbs ≤ n.natAbs
    · obtain ⟨e1, e2⟩ := add_sub n m c c2
      have c3 : 0 ≤ cmpN n.natAbs m.natAbs := by unfold cmpN; rw [if_neg (by omega)]; split <;> omega
      rw [if_pos c3, (sub_both _ _ (by omega) c2).1]
      simp only [Option.bind_some]
      rw [← e1, l03Make_d _ _ h, e2]; rfl
    · obtain ⟨e1, e2⟩ := add_sub m n (by rw [Bool.beq_comm]; exact c) (by omega)
      have c3 : ¬ 0 ≤ cmpN n.natAbs m.natAbs := by unfold cmpN; rw [if_pos (by omega)]; omega
      rw [if_neg c3, (sub_both _ _ (by omega) (by omega)).1]
      simp only [Option.bind_some]
      rw [← e1, Int.add_comm m n] at *
      rw [l03Make_d _ _ h, e2]; rfl
/-- the fraction -/
def zRat : Rat := Rat.mk (BigInt.mk false []) []
def mkR (s : Bool) (x y : Nat) : Rat :=
  if y = 0 then zRat else if 24 < (digits (x / Nat.gcd x y)).length ∨ 24 < (digits (y / Nat.gcd x y)).length then zRat
  else ⟨⟨s && decide (x / Nat.gcd x y ≠ 0), digits (x / Nat.gcd x y)⟩, digits (y / Nat.gcd x y)⟩
theorem zRat_sz : szN_Rat zRat ≤ 48 := by decide
theorem gcd_len {x y : Nat} (hx : (digits x).length ≤ 700) (hy : (digits y).length ≤ 700) : (digits (Nat.gcd x y)).length ≤ 700 := by
  by_cases c : x = 0
  · subst c; rw [Nat.gcd_zero_left]; exact hy
  · exact Nat.le_trans (digits_len_mul (Nat.gcd_le_left y (Nat.pos_of_ne_zero c)) (Nat.le_refl _)) hx
theorem ratMake_d (s t : Bool) (x y : Nat) (hx : (digits x).length ≤ 60) (hy : (digits y).length ≤ 60) : impl_ratMake ⟨s, digits x⟩ ⟨t, digits y⟩ = some (mkR (!(s == t)) x y) := by
  unfold impl_ratMake mkR
  simp only []
  by_cases c : y = 0
  · rw [if_pos c, if_pos (by rw [c, digits_zero]; rfl)]; rfl
  · have hl : (digits y).length ≠ 0 := fun e => digits_ne c (List.length_eq_zero_iff.1 e)
    have hg := gcd_len (x := x) (y := y) (by omega) (by omega)
    have hg0 : 0 < Nat.gcd x y := Nat.gcd_pos_of_pos_right x (Nat.pos_of_ne_zero c)
    rw [if_neg c, if_neg (by omega), natGcd_d x y (by omega) (by omega)]
    simp only [Option.bind_some]
    rw [natDiv_d x _ hg0 (by omega) hg, natDiv_d y _ hg0 (by omega) hg]
    simp only [Option.bind_some]
    have l1 := div_len x (Nat.gcd x y)
    by_cases c1 : 24 < (digits (x / Nat.gcd x y)).length
    · rw [if_pos (by omega), if_pos (.inl c1)]; rfl
    · rw [if_neg (by omega)]
      by_cases c2 : 24 < (digits (y / Nat.gcd x y)).length
      · rw [if_pos (.inr c2), decide_eq_true (by omega)]; rfl
      · rw [if_neg (by omega), decide_eq_false (by omega)]
        simp only [Option.bind_some, Bool.false_eq_true, if_false]
        rw [bigMake_d _ _ (by omega)]; rfl
theorem one_digits : ([1] : List Int) = digits 1 := by rw [digits_small (by rw [BB_eq]; omega) (by omega)]; rfl
theorem One_d (x : Nat) : spec_l04One (digits x) = some (decide (x = 1)) := by
  unfold spec_l04One
  by_cases c : x = 1
  · subst c; rw [← one_digits]; simp [idx]
  · rw [decide_eq_false c]
    by_cases h : (digits x).length = 1
    · have hx : x < BB := by have := digits_lt x; rw [h, Nat.pow_one] at this; exact this
      have h0 : x ≠ 0 := by rintro rfl; rw [digits_zero] at h; simp at h
      rw [if_pos (by omega), show (0 : Int) = ((0 : Nat) : Int) from rfl, idx_lt (by omega)]
      simp only [digits_small hx h0, List.getElem_cons_zero, Option.bind_some]
      rw [decide_eq_false (by omega)]
    · rw [if_neg (by omega)]
theorem l04Low_d (s : Bool) (x y : Nat) (hx : (digits x).length ≤ 60) (hy : (digits y).length ≤ 60) : spec_l04Low s (digits x) (digits y) = some (mkR s x y) := by
  unfold spec_l04Low mkR
  rw [trim_d (digits_dgs x) (by omega), trim_d (digits_dgs y) (by omega), val_digits, val_digits]
  simp only [Option.bind_some]
  by_cases c : y = 0
  · rw [if_pos c, if_pos (by rw [c, digits_zero]; rfl)]; rfl
  · have hl : (digits y).length ≠ 0 := fun e => digits_ne c (List.length_eq_zero_iff.1 e)
    have hg := gcd_len (x := x) (y := y) (by omega) (by omega)
    have hg0 : 0 < Nat.gcd x y := Nat.gcd_pos_of_pos_right x (Nat.pos_of_ne_zero c)
    rw [if_neg c, if_neg (by omega), One_d]
    simp only [Option.bind_some]
    have key : ((if decide (y = 1) = true then some (digits x, digits y) else (spec_l02Gcd (digits x) (digits y)).bind fun r4 => (spec_l04One r4).bind fun r5 => (if r5 = true then some (digits x, digits y) else (spec_l02Div (digits x) r4).bind fun r6 => (spec_l02Div (digits y) r4).bind fun r7 => some (r6.1, r7.1))) : Option ((List Int) × (List Int))) = some (digits (x / Nat.gcd x y), digits (y / Nat.gcd x y)) := by
      by_cases c1 : y = 1
      · rw [decide_eq_true c1, if_pos rfl, c1, Nat.gcd_one_right, Nat.div_one, Nat.div_one]
      · rw [decide_eq_false c1, if_neg (by simp), l02Gcd_d x y (by omega) (by omega)]
        simp only [Option.bind_some]
        rw [One_d]
        simp only [Option.bind_some]
        by_cases c2 : Nat.gcd x y = 1
        · rw [decide_eq_true c2, if_pos rfl, c2, Nat.div_one, Nat.div_one]
        · rw [decide_eq_false c2, if_neg (by simp), l02Div_d x _ hg0 (by omega) hg, l02Div_d y _ hg0 (by omega) hg]; rfl
    rw [key]
    simp only [Option.bind_some]
    by_cases c1 : 24 < (digits (x / Nat.gcd x y)).length
    · rw [if_pos (by omega), if_pos (.inl c1)]; rfl
    · rw [if_neg (by omega)]
      by_cases c2 : 24 < (digits (y / Nat.gcd x y)).length
      · rw [if_pos (.inr c2), decide_eq_true (by omega)]; rfl
      · rw [if_neg (by omega), decide_eq_false (by omega)]
        simp only [Option.bind_some, Bool.false_eq_true, if_false]
        rw [l03Make_d _ _ (by omega)]
        simp only [Option.bind_some]
        rw [chk_pos (by simp; omega)]
        simp only [Option.bind_some, letO_bind, List.nil_append]
/-- which fractions are valid -/
def ratOk (r : Rat) : Prop := bigOk r.fNum ∧ natOk r.fDen ∧ r.fDen ≠ [] ∧ r.fDen.length ≤ 24 ∧ r.fNum.fMag.length ≤ 24 ∧ Nat.gcd (val r.fNum.fMag) (val r.fDen) = 1
instance (r : Rat) : Decidable (ratOk r) := by unfold ratOk; infer_instance
theorem ratSz (r : Rat) (h : szN_Rat r ≤ 4294967296) : r.fNum.fMag.length ≤ 4294967296 ∧ r.fDen.length ≤ 4294967296 := by
  unfold szN_Rat szN_BigInt szN_IntS at h
  simp only [szL_flat] at h; omega
theorem RatOkI_p (r : Rat) (h : szN_Rat r ≤ 4294967296) : impl_RatOk r = some (decide (ratOk r)) := by
  obtain ⟨h1, h2⟩ := ratSz r h
  unfold impl_RatOk
  rw [BigOkI_p _ h1]
  simp only [Option.bind_some]
  by_cases c1 : bigOk r.fNum
  · rw [decide_eq_true c1, if_pos rfl, NatOkI_p _ h2]
    simp only [Option.bind_some]
    by_cases c2 : natOk r.fDen
    · rw [decide_eq_true c2, if_pos rfl]
      simp only [Option.bind_some]
      by_cases c3 : r.fDen = []
      · rw [decide_eq_false (fun g : ratOk r => g.2.2.1 c3), decide_eq_true (by rw [c3]; rfl)]; rfl
      · have hn : r.fDen.length ≠ 0 := fun e => c3 (List.length_eq_zero_iff.1 e)
        rw [decide_eq_false (show ¬ ((r.fDen.length : Int) = 0) by omega)]
        simp only [Bool.false_eq_true, if_false]
        by_cases c4 : 24 < r.fNum.fMag.length
        · rw [if_pos (by omega), decide_eq_false (fun g : ratOk r => by have := g.2.2.2.2.1; omega)]; rfl
        · rw [if_neg (by omega)]
          by_cases c5 : 24 < r.fDen.length
          · rw [decide_eq_true (show (24 : Int) < r.fDen.length by omega), decide_eq_false (fun g : ratOk r => by have := g.2.2.2.1; omega)]; rfl
          · rw [decide_eq_false (show ¬ (24 : Int) < r.fDen.length by omega)]
            simp only [Option.bind_some, Bool.false_eq_true, if_false]
            have e1 := natOk_digits c1.1
            have e2 := natOk_digits c2
            have g := natGcd_d (val r.fNum.fMag) (val r.fDen) (by rw [← e1]; omega) (by rw [← e2]; omega)
            rw [← e1, ← e2] at g
            rw [g]
            have o := One_d (Nat.gcd (val r.fNum.fMag) (val r.fDen))
            unfold spec_l04One at o
            simp only [Option.bind_some]
            rw [o]
            congr 1
            exact decide_eq_decide.2 ⟨fun q => ⟨c1, c2, c3, by omega, by omega, q⟩, fun q => q.2.2.2.2.2⟩
    · rw [decide_eq_false c2, decide_eq_false (fun g : ratOk r => c2 g.2.1)]; rfl
  · rw [decide_eq_false c1, decide_eq_false (fun g : ratOk r => c1 g.1)]; rfl
theorem RatOkS_p (r : Rat) (h : szN_Rat r ≤ 4294967296) : spec_RatOk r = some (decide (ratOk r)) := by
  obtain ⟨h1, h2⟩ := ratSz r h
  unfold spec_RatOk
  rw [BigOkS_p _ h1]
  simp only [Option.bind_some]
  by_cases c1 : bigOk r.fNum
  · rw [decide_eq_true c1, if_pos rfl, NatOkS_p _ h2]
    simp only [Option.bind_some]
    by_cases c2 : natOk r.fDen
    · rw [decide_eq_true c2, if_pos rfl]
      by_cases c3 : r.fDen = []
      · rw [decide_eq_false (fun g : ratOk r => g.2.2.1 c3), if_pos (by rw [c3]; rfl)]; rfl
      · have hn : r.fDen.length ≠ 0 := fun e => c3 (List.length_eq_zero_iff.1 e)
        rw [if_neg (by omega)]
        by_cases c5 : 24 < r.fDen.length
        · rw [if_pos (by omega), decide_eq_false (fun g : ratOk r => by have := g.2.2.2.1; omega)]; rfl
        · rw [if_neg (by omega)]
          by_cases c4 : 24 < r.fNum.fMag.length
          · rw [decide_eq_true (show (24 : Int) < r.fNum.fMag.length by omega), decide_eq_false (fun g : ratOk r => by have := g.2.2.2.2.1; omega)]; rfl
          · rw [decide_eq_false (show ¬ (24 : Int) < r.fNum.fMag.length by omega)]
            simp only [Option.bind_some, Bool.false_eq_true, if_false]
            have e1 := natOk_digits c1.1
            have e2 := natOk_digits c2
            have g := l02Gcd_d (val r.fNum.fMag) (val r.fDen) (by rw [← e1]; omega) (by rw [← e2]; omega)
            rw [← e1, ← e2] at g
            rw [g]
            simp only [Option.bind_some]
            rw [One_d]
            simp only [Option.bind_some]
            congr 1
            exact decide_eq_decide.2 ⟨fun q => ⟨c1, c2, c3, by omega, by omega, q⟩, fun q => q.2.2.2.2.2⟩
    · rw [decide_eq_false c2, decide_eq_false (fun g : ratOk r => c2 g.2.1)]; rfl
  · rw [decide_eq_false c1, decide_eq_false (fun g : ratOk r => c1 g.1)]; rfl
/-- a valid fraction, spelled out -/
theorem rat_of {r : Rat} (h : ratOk r) : ∃ (n : Int) (d : Nat), r = ⟨big n, digits d⟩ ∧ 0 < d ∧ bl n ≤ 24 ∧ (digits d).length ≤ 24 ∧ Nat.gcd n.natAbs d = 1 := by
  obtain ⟨h1, h2, h3, h4, h5, h6⟩ := h
  have e1 := big_of h1
  have e2 := natOk_digits h2
  refine ⟨bval r.fNum, val r.fDen, ?_, ?_, ?_, by rw [← e2]; exact h4, by rw [bval_abs]; exact h6⟩
  · rw [← e1, ← e2]
  · rcases Nat.eq_zero_or_pos (val r.fDen) with z | z
    · rw [z, digits_zero] at e2; exact absurd e2 h3
    · exact z
  · unfold bl; rw [bval_abs, ← natOk_digits h1.1]; exact h5
theorem big_nat (d : Nat) : (⟨false, digits d⟩ : BigInt) = big (d : Int) := by
  unfold big
  rw [decide_eq_false (by omega), Int.natAbs_natCast]
theorem good_d {n : Int} {d : Nat} (h : 0 < d) : impl_good ⟨big n, digits d⟩ = some true := by
  unfold impl_good
  have : (digits d).length ≠ 0 := fun e => digits_ne (n := d) (by omega) (List.length_eq_zero_iff.1 e)
  simp only []
  rw [decide_eq_true (by omega)]
/-- the sum of two valid fractions -/
def addR (n : Int) (d : Nat) (m : Int) (e : Nat) : Rat := mkR (decide (n * e + m * d < 0)) (n * e + m * d).natAbs (d * e)
theorem ratAdd_d (n : Int) (d : Nat) (m : Int) (e : Nat) (hd : 0 < d) (he : 0 < e) (h1 : bl n ≤ 24) (h2 : (digits d).length ≤ 24) (h3 : bl m ≤ 24) (h4 : (digits e).length ≤ 24) : impl_ratAdd ⟨big n, digits d⟩ ⟨big m, digits e⟩ = some (addR n d m e) := by
  unfold impl_ratAdd
  rw [good_d hd, good_d he]
  simp only [Option.bind_some, if_true, Bool.not_true, Bool.false_eq_true, if_false, impl_denOf]
  have b1 : bl (e : Int) ≤ 24 := by unfold bl; rw [Int.natAbs_natCast]; exact h4
  have b2 : bl (d : Int) ≤ 24 := by unfold bl; rw [Int.natAbs_natCast]; exact h2
  have b3 := bl_mul n e
  have b4 := bl_mul m d
  have b5 := bl_add (n * e) (m * d)
  have b6 := bl_mul d e
  rw [big_nat, big_nat, bigMul_d n e (by omega) (by omega) (by omega), bigMul_d m d (by omega) (by omega) (by omega)]
  simp only [Option.bind_some]
  rw [bigAdd_d _ _ (by omega) (by omega) (by omega), bigMul_d d e (by omega) (by omega) (by omega)]
  simp only [Option.bind_some]
  unfold big addR
  unfold bl at b5 b6 b1 b2 b3 b4 h1 h3
  rw [ratMake_d _ _ _ _ (by omega) (by omega)]
  have : decide ((d : Int) * (e : Int) < 0) = false := decide_eq_false (by have := Int.mul_nonneg (a := (d : Int)) (b := (e : Int)) (by omega) (by omega); omega)
  rw [this, Int.natAbs_mul, Int.natAbs_natCast, Int.natAbs_natCast]
  simp only [Option.bind_some]
  congr 2
  cases decide (n * (e : Int) + m * (d : Int) < 0) <;> rfl
theorem l04Add_d (n : Int) (d : Nat) (m : Int) (e : Nat) (hd : 0 < d) (he : 0 < e) (h1 : bl n ≤ 24) (h2 : (digits d).length ≤ 24) (h3 : bl m ≤ 24) (h4 : (digits e).length ≤ 24) : spec_l04Add ⟨big n, digits d⟩ ⟨big m, digits e⟩ = some (addR n d m e) := by
  have b1 : bl (e : Int) ≤ 24 := by unfold bl; rw [Int.natAbs_natCast]; exact h4
  have b2 : bl (d : Int) ≤ 24 := by unfold bl; rw [Int.natAbs_natCast]; exact h2
  have b3 := bl_mul n e
  have b4 := bl_mul m d
  have b5 := bl_add (n * e) (m * d)
  have b7 := bl_add n m
  have b6 := digits_len_prod d e
  unfold spec_l04Add
  simp only []
  rw [One_d, One_d]
  simp only [Option.bind_some]
  have key : ((if decide (d = 1) = true then some (decide (e = 1)) else some false) : Option Bool) = some (decide (d = 1 ∧ e = 1)) := by
    by_cases c : d = 1 <;> simp [c]
  rw [key]
  simp only [Option.bind_some]
  by_cases c : d = 1 ∧ e = 1
  · rw [decide_eq_true c, if_pos rfl, l03Add_d n m (by omega) (by omega) (by omega)]
    simp only [Option.bind_some]
    obtain ⟨c1, c2⟩ := c
    unfold addR
    rw [one_digits]
    unfold bl at b7 h1 h3
    simp only [big]
    rw [l04Low_d _ _ _ (by omega) (by rw [← one_digits]; simp), c1, c2]
    simp
  · rw [decide_eq_false c, if_neg (by simp)]
    have p1 : (digits (n.natAbs * e)).length ≤ 48 := by have := digits_len_prod n.natAbs e; unfold bl at h1; omega
    have p2 : (digits (m.natAbs * d)).length ≤ 48 := by have := digits_len_prod m.natAbs d; unfold bl at h3; omega
    have q1 : spec_l02Mul (big n).fMag (digits e) = some (digits (n.natAbs * e)) := by unfold bl at h1; exact (mul_both n.natAbs e (by omega) (by omega)).1
    have q2 : spec_l02Mul (big m).fMag (digits d) = some (digits (m.natAbs * d)) := by unfold bl at h3; exact (mul_both m.natAbs d (by omega) (by omega)).1
    have q3 : spec_l03Make (big n).fNeg (digits (n.natAbs * e)) = some (big (n * e)) := make_prod n e (by omega)
    have q4 : spec_l03Make (big m).fNeg (digits (m.natAbs * d)) = some (big (m * d)) := make_prod m d (by omega)
    rw [q1]
    simp only [Option.bind_some]
    rw [q3]
    simp only [Option.bind_some]
    rw [q2]
    simp only [Option.bind_some]
    rw [q4]
    simp only [Option.bind_some]
    rw [l03Add_d _ _ (by omega) (by omega) (by omega)]
    simp only [Option.bind_some]
    rw [(mul_both d e (by omega) (by omega)).1]
    simp only [Option.bind_some]
    unfold addR
    unfold bl at b5 b3 b4 h1 h3 b1 b2
    simp only [big]
    rw [l04Low_d _ _ _ (by omega) (by omega)]; rfl
end Go.Ev

/- Fractions: the interface that both programs meet. -/
namespace Go.Ev
set_option linter.all false
/-- valid, or the zero value -/
def VZ (r : Rat) : Prop := ratOk r ∨ r = zRat
theorem zRat_not : ¬ ratOk zRat := fun h => h.2.2.1 rfl
theorem VZ_z : VZ zRat := .inr rfl
theorem VZ_sz {r : Rat} (h : VZ r) : szN_Rat r ≤ 48 := by
  rcases h with h | h
  · unfold szN_Rat szN_BigInt szN_IntS
    simp only [szL_flat]
    have h1 := h.2.2.2.1
    have h2 := h.2.2.2.2.1
    omega
  · subst h; exact zRat_sz
theorem digits_ne' {n : Nat} (h : 0 < n) : digits n ≠ [] := digits_ne (by omega)
theorem mkR_vz (s : Bool) (x y : Nat) : VZ (mkR s x y) := by
  unfold mkR
  by_cases c : y = 0
  · rw [if_pos c]; exact VZ_z
  · rw [if_neg c]
    by_cases c2 : 24 < (digits (x / Nat.gcd x y)).length ∨ 24 < (digits (y / Nat.gcd x y)).length
    · rw [if_pos c2]; exact VZ_z
    · rw [if_neg c2]
      left
      have hg0 : 0 < Nat.gcd x y := Nat.gcd_pos_of_pos_right x (Nat.pos_of_ne_zero c)
      have hy : 0 < y / Nat.gcd x y := Nat.div_pos (Nat.gcd_le_right x (Nat.pos_of_ne_zero c)) hg0
      refine ⟨⟨natOk_d (by omega), fun h => ?_⟩, natOk_d (by omega), digits_ne' hy, by show (digits (y / Nat.gcd x y)).length ≤ 24; omega, by show (digits (x / Nat.gcd x y)).length ≤ 24; omega, ?_⟩
      · simp only [Bool.and_eq_true, decide_eq_true_eq] at h
        exact digits_ne h.2
      · simp only [val_digits]
        have := Nat.gcd_div (Nat.gcd_dvd_left x y) (Nat.gcd_dvd_right x y)
        rw [this, Nat.div_self hg0]
theorem mkR_sgn {s s' : Bool} {x y : Nat} (h : x ≠ 0 → s = s') : mkR s x y = mkR s' x y := by
  by_cases c : x = 0
  · subst c; unfold mkR; simp
  · rw [h c]
theorem good_vz {r : Rat} (h : VZ r) : impl_good r = some (decide (ratOk r)) := by
  unfold impl_good
  rcases h with h | h
  · have : r.fDen.length ≠ 0 := fun e => h.2.2.1 (List.length_eq_zero_iff.1 e)
    rw [decide_eq_true h, decide_eq_true (by omega)]
  · subst h
    rw [decide_eq_false zRat_not]; rfl
theorem RatAdd_q (r s : Rat) (hr : szN_Rat r ≤ 4294967296) (hs : szN_Rat s ≤ 4294967296) : ∃ t, spec_RatAdd r s = some t ∧ impl_RatAdd r s = some t ∧ VZ t ∧ (VZ r → VZ s → impl_ratAdd r s = some t) := by
  unfold spec_RatAdd impl_RatAdd
  rw [RatOkI_p r hr, RatOkS_p r hr]
  simp only [Option.bind_some]
  by_cases c1 : ratOk r
  · rw [decide_eq_true c1, if_pos rfl, if_pos rfl, RatOkI_p s hs, RatOkS_p s hs]
    simp only [Option.bind_some]
    by_cases c2 : ratOk s
    · rw [decide_eq_true c2]
      obtain ⟨n, d, e1, e2, e3, e4, _⟩ := rat_of c1
      obtain ⟨m, e, g1, g2, g3, g4, _⟩ := rat_of c2
      subst e1; subst g1
      simp only [Bool.not_true, Bool.false_eq_true, if_false]
      have q := ratAdd_d n d m e e2 g2 e3 e4 g3 g4
      rw [q, l04Add_d n d m e e2 g2 e3 e4 g3 g4]
      exact ⟨_, rfl, rfl, mkR_vz _ _ _, fun _ _ => rfl⟩
    · rw [decide_eq_false c2]
      refine ⟨zRat, rfl, rfl, VZ_z, fun v1 v2 => ?_⟩
      unfold impl_ratAdd
      rw [good_vz v1, good_vz v2, decide_eq_true c1, decide_eq_false c2]; rfl
  · rw [decide_eq_false c1]
    refine ⟨zRat, rfl, rfl, VZ_z, fun v1 v2 => ?_⟩
    unfold impl_ratAdd
    rw [good_vz v1, decide_eq_false c1]; rfl
def mulR (n : Int) (d : Nat) (m : Int) (e : Nat) : Rat := mkR (!(decide (n < 0) == decide (m < 0))) (n.natAbs * m.natAbs) (d * e)
theorem ratMul_d (n : Int) (d : Nat) (m : Int) (e : Nat) (hd : 0 < d) (he : 0 < e) (h1 : bl n ≤ 24) (h2 : (digits d).length ≤ 24) (h3 : bl m ≤ 24) (h4 : (digits e).length ≤ 24) : impl_ratMul ⟨big n, digits d⟩ ⟨big m, digits e⟩ = some (mulR n d m e) := by
  unfold impl_ratMul
  rw [good_d hd, good_d he]
  simp only [Option.bind_some, if_true, Bool.not_true, Bool.false_eq_true, if_false, impl_denOf]
  have b1 : bl (e : Int) ≤ 24 := by unfold bl; rw [Int.natAbs_natCast]; exact h4
  have b2 : bl (d : Int) ≤ 24 := by unfold bl; rw [Int.natAbs_natCast]; exact h2
  have b3 := bl_mul n m
  have b6 := bl_mul d e
  rw [bigMul_d n m (by omega) (by omega) (by omega), big_nat, big_nat, bigMul_d d e (by omega) (by omega) (by omega)]
  simp only [Option.bind_some]
  unfold big mulR
  unfold bl at b6 b1 b2 b3 h1 h3
  rw [ratMake_d _ _ _ _ (by omega) (by omega)]
  have : decide ((d : Int) * (e : Int) < 0) = false := decide_eq_false (by have := Int.mul_nonneg (a := (d : Int)) (b := (e : Int)) (by omega) (by omega); omega)
  rw [this, Int.natAbs_mul, Int.natAbs_mul, Int.natAbs_natCast, Int.natAbs_natCast]
  simp only [Option.bind_some]
  congr 1
  refine mkR_sgn fun hx => ?_
  have q := sgn_mul n m
  rw [decide_eq_true hx, Bool.and_true] at q
  rw [← q]
  cases decide (n < 0) <;> cases decide (m < 0) <;> rfl
theorem l04Mul_d (n : Int) (d : Nat) (m : Int) (e : Nat) (h1 : bl n ≤ 24) (h2 : (digits d).length ≤ 24) (h3 : bl m ≤ 24) (h4 : (digits e).length ≤ 24) : spec_l04Mul ⟨big n, digits d⟩ ⟨big m, digits e⟩ = some (mulR n d m e) := by
  unfold bl at h1 h3
  have b1 := digits_len_prod n.natAbs m.natAbs
  have b2 := digits_len_prod d e
  unfold spec_l04Mul
  simp only [big]
  rw [(mul_both _ _ (by omega) (by omega)).1]
  simp only [Option.bind_some]
  rw [(mul_both _ _ (by omega) (by omega)).1]
  simp only [Option.bind_some]
  rw [l04Low_d _ _ _ (by omega) (by omega)]
  rfl
theorem RatMul_q (r s : Rat) (hr : szN_Rat r ≤ 4294967296) (hs : szN_Rat s ≤ 4294967296) : ∃ t, spec_RatMul r s = some t ∧ VZ t ∧ (VZ r → VZ s → impl_ratMul r s = some t) := by
  unfold spec_RatMul
  rw [RatOkS_p r hr]
  simp only [Option.bind_some]
  by_cases c1 : ratOk r
  · rw [decide_eq_true c1, if_pos rfl, RatOkS_p s hs]
    simp only [Option.bind_some]
    by_cases c2 : ratOk s
    · rw [decide_eq_true c2]
      obtain ⟨n, d, e1, e2, e3, e4, _⟩ := rat_of c1
      obtain ⟨m, e, g1, g2, g3, g4, _⟩ := rat_of c2
      subst e1; subst g1
      simp only [Bool.not_true, Bool.false_eq_true, if_false]
      rw [l04Mul_d n d m e e3 e4 g3 g4]
      exact ⟨_, rfl, mkR_vz _ _ _, fun _ _ => ratMul_d n d m e e2 g2 e3 e4 g3 g4⟩
    · rw [decide_eq_false c2]
      refine ⟨zRat, rfl, VZ_z, fun v1 v2 => ?_⟩
      unfold impl_ratMul
      rw [good_vz v1, good_vz v2, decide_eq_true c1, decide_eq_false c2]; rfl
  · rw [decide_eq_false c1]
    refine ⟨zRat, rfl, VZ_z, fun v1 v2 => ?_⟩
    unfold impl_ratMul
    rw [good_vz v1, decide_eq_false c1]; rfl
def sgnR (r : Rat) : Int := if ratOk r then (if r.fNum.fMag = [] then 0 else if r.fNum.fNeg = true then -1 else 1) else 0
theorem sgnR_pos {r : Rat} (h : 0 < sgnR r) : ratOk r := by
  unfold sgnR at h
  by_cases c : ratOk r
  · exact c
  · rw [if_neg c] at h; omega
theorem RatSign_q (r : Rat) (hr : szN_Rat r ≤ 4294967296) : spec_RatSign r = some (sgnR r) ∧ impl_RatSign r = some (sgnR r) := by
  unfold spec_RatSign impl_RatSign sgnR
  rw [RatOkI_p r hr, RatOkS_p r hr]
  simp only [Option.bind_some]
  by_cases c1 : ratOk r
  · rw [decide_eq_true c1, if_pos c1, if_pos rfl, if_pos rfl]
    unfold impl_ratSign
    rw [good_vz (.inl c1), decide_eq_true c1]
    simp only [Option.bind_some, if_true]
    by_cases c2 : r.fNum.fMag = []
    · rw [if_pos c2, decide_eq_true (by rw [c2]; rfl)]; exact ⟨rfl, rfl⟩
    · have : r.fNum.fMag.length ≠ 0 := fun e => c2 (List.length_eq_zero_iff.1 e)
      rw [if_neg c2, decide_eq_false (by omega)]
      simp only [Bool.false_eq_true, if_false]
      cases r.fNum.fNeg <;> exact ⟨rfl, rfl⟩
  · rw [decide_eq_false c1, if_neg c1]; exact ⟨rfl, rfl⟩
theorem eqL_p (a b : List Int) (h : a.length ≤ 4294967296) : spec_l04List a b = some (decide (a = b)) := by
  unfold spec_l04List
  by_cases c : a.length = b.length
  · rw [if_neg (by omega)]
    have main : ∀ m k : Nat, m + k = a.length → lp (spec_l04List_L1 a b) (k : Int) = some (if a.drop k = b.drop k then .inl () else .inr false) := by
      intro m
      induction m with
      | zero =>
        intro k hk
        rw [if_pos (by rw [List.drop_eq_nil_of_le (by omega), List.drop_eq_nil_of_le (by omega)])]
        exact lp_done (by unfold spec_l04List_L1; rw [if_neg (by omega)])
      | succ m ih =>
        intro k hk
        have h1 : k < a.length := by omega
        have h2 : k < b.length := by omega
        by_cases e : a[k] = b[k]
        · have s1 : spec_l04List_L1 a b (k : Int) = some (.inl ((k + 1 : Nat) : Int)) := by
            unfold spec_l04List_L1
            rw [if_pos (by omega), idx_lt h1, idx_lt h2, wi (by omega)]; simp [e]
          rw [lp_more s1, ih (k + 1) (by omega)]
          have : a.drop k = b.drop k ↔ a.drop (k + 1) = b.drop (k + 1) := by
            rw [List.drop_eq_getElem_cons h1, List.drop_eq_getElem_cons h2, List.cons.injEq]
            exact ⟨fun h => h.2, fun h => ⟨e, h⟩⟩
          simp only [this]
        · have : ¬ a.drop k = b.drop k := by
            rw [List.drop_eq_getElem_cons h1, List.drop_eq_getElem_cons h2, List.cons.injEq]
            exact fun h => e h.1
          rw [if_neg this]
          refine lp_done ?_
          unfold spec_l04List_L1
          rw [if_pos (by omega), idx_lt h1, idx_lt h2]; simp [e]
    have := main a.length 0 (by omega)
    rw [show ((0 : Nat) : Int) = 0 from rfl, List.drop_zero, List.drop_zero] at this
    rw [this]
    by_cases e : a = b
    · simp [e]
    · simp [e]
  · rw [if_pos (by omega), decide_eq_false (fun e => c (by rw [e]))]
theorem RatEqual_same : impl_RatEqual = spec_RatEqual := rfl
theorem RatEqual_q (r s : Rat) (hr : szN_Rat r ≤ 4294967296) : ∃ b, spec_RatEqual r s = some b := by
  obtain ⟨h1, h2⟩ := ratSz r hr
  unfold spec_RatEqual
  rw [eqL_p _ _ h1, eqL_p _ _ h2]
  simp only [Option.bind_some]
  split
  · split
    · exact ⟨_, rfl⟩
    · exact ⟨_, rfl⟩
  · exact ⟨_, rfl⟩
theorem rat_int_ok (n : Int) (h : -9223372036854775808 ≤ n ∧ n ≤ 9223372036854775807) : ratOk (ratI n) := by
  have hl := digits_len64 (v := n.natAbs) (by omega)
  unfold ratI
  rw [one_digits]
  refine ⟨⟨natOk_d (by omega), fun hn => ?_⟩, natOk_d (by rw [← one_digits]; simp), digits_ne' (by omega), by rw [← one_digits]; simp, by show (digits n.natAbs).length ≤ 24; omega, ?_⟩
  · simp only [big, decide_eq_true_eq] at hn
    exact digits_ne (by omega)
  · simp only [val_digits, Nat.gcd_one_right]
end Go.Ev

/- Conditionals and nets, both programs. -/
namespace Go.Ev
set_option linter.all false
theorem isNode_q (a : Int) : impl_isNode a = some (decide (0 ≤ a ∧ a ≤ 9)) := by
  unfold impl_isNode
  by_cases h : 0 ≤ a
  · rw [if_pos h]; congr 1; rw [decide_eq_decide]; omega
  · rw [if_neg h, decide_eq_false (by omega)]
theorem l06Node_q (a : Int) : spec_l06Node a = some (decide (0 ≤ a ∧ a ≤ 9)) := by
  unfold spec_l06Node
  rw [l01In_q]; rfl
/-- a parent that is good at its place -/
def pGood (c : Conditional) (k : Nat) (p : Parent) : Prop := (0 ≤ p.fNode ∧ p.fNode ≤ 9) ∧ p.fNode ≠ c.fNode ∧ (∀ q, 0 < k → c.fParents[k - 1]? = some q → q.fNode < p.fNode) ∧ 0 < sgnR p.fShare ∧ ratOk p.fDX ∧ ratOk p.fDY
theorem parSz {c : Conditional} (h : szN_Conditional c ≤ 4294967296) {k : Nat} (hk : k < c.fParents.length) : szN_Rat (c.fParents[k]).fShare ≤ 4294967296 ∧ szN_Rat (c.fParents[k]).fDX ≤ 4294967296 ∧ szN_Rat (c.fParents[k]).fDY ≤ 4294967296 := by
  unfold szN_Conditional szN_ParentS at h
  have := szL_mem (w := szN_Parent) (List.getElem_mem hk)
  have e : szN_Parent c.fParents[k] = szN_Rat (c.fParents[k]).fShare + szN_Rat (c.fParents[k]).fDX + szN_Rat (c.fParents[k]).fDY := rfl
  omega
theorem parLen {c : Conditional} (h : szN_Conditional c ≤ 4294967296) : c.fParents.length ≤ 4294967296 ∧ szN_Rat c.fTotal ≤ 4294967296 := by
  unfold szN_Conditional szN_ParentS at h
  have := szL_len szN_Parent c.fParents
  omega
theorem valid_loop (c : Conditional) (h : szN_Conditional c ≤ 4294967296) : ∀ m k : Nat, m + k = c.fParents.length → ∀ s : Rat, VZ s →
    ∃ r, lp (spec_IsValidConditional_L1 c) ((k : Int), s) = some r ∧ lp (impl_IsValidConditional_L1 c) ((k : Int), s) = some r ∧
      (match r with | .inl v => VZ v ∧ ∀ j (hj : j < c.fParents.length), k ≤ j → pGood c j c.fParents[j] | .inr b => b = false) := by
  have hl := (parLen h).1
  intro m
  induction m with
  | zero =>
    intro k hk s hs
    refine ⟨.inl s, lp_done ?_, lp_done ?_, hs, fun j hj hkj => by omega⟩
    · unfold spec_IsValidConditional_L1; simp only []; rw [if_neg (by omega)]
    · unfold impl_IsValidConditional_L1; simp only []; rw [if_neg (by omega)]
  | succ m ih =>
    intro k hk s hs
    have hlt : k < c.fParents.length := by omega
    obtain ⟨z1, z2, z3⟩ := parSz h hlt
    obtain ⟨g1, g2⟩ := RatSign_q _ z1
    have a1 := RatOkI_p _ z2
    have a2 := RatOkI_p _ z3
    have b1 := RatOkS_p _ z2
    have b2 := RatOkS_p _ z3
    obtain ⟨t, t1, t2, t3, t4⟩ := RatAdd_q s (c.fParents[k]).fShare (by have := VZ_sz hs; omega) z1
    -- good or not
    have step : (pGood c k c.fParents[k] → spec_IsValidConditional_L1 c ((k : Int), s) = some (.inl (((k + 1 : Nat) : Int), t)) ∧ impl_IsValidConditional_L1 c ((k : Int), s) = some (.inl (((k + 1 : Nat) : Int), t))) ∧
        (¬ pGood c k c.fParents[k] → spec_IsValidConditional_L1 c ((k : Int), s) = some (.inr (.inr false)) ∧ impl_IsValidConditional_L1 c ((k : Int), s) = some (.inr (.inr false))) := by
      have w1 : IntKind.i64.wrap ((k : Int) + 1) = ((k + 1 : Nat) : Int) := by rw [wi (by omega)]; omega
      have hin : (k : Int) < (c.fParents.length : Int) := by omega
      unfold spec_IsValidConditional_L1 impl_IsValidConditional_L1
      simp only [hin, if_true, idx_lt hlt, Option.bind_some, isNode_q, l06Node_q, g1, g2, a1, a2, b1, b2, t1, w1]
      by_cases A : 0 ≤ (c.fParents[k]).fNode ∧ (c.fParents[k]).fNode ≤ 9
      · by_cases B : (c.fParents[k]).fNode = c.fNode
        · refine ⟨fun g => absurd B g.2.1, fun _ => ?_⟩
          simp [A, B]
        · by_cases D : 0 < sgnR (c.fParents[k]).fShare
          · have D' : ¬ sgnR (c.fParents[k]).fShare ≤ 0 := by omega
            have t5 := t4 hs (.inl (sgnR_pos D))
            by_cases K : 0 < k
            · have hlt2 : k - 1 < c.fParents.length := by omega
              have w2 : IntKind.i64.wrap ((k : Int) - 1) = ((k - 1 : Nat) : Int) := by rw [wi (by omega)]; omega
              have K' : (0 : Int) < (k : Int) := by omega
              simp only [A, B, K', D', w2, idx_lt hlt2, and_self, decide_true, if_true, if_false, Option.bind_some]
              by_cases C : (c.fParents[k]).fNode ≤ (c.fParents[k - 1]).fNode
              · refine ⟨fun g => ?_, fun _ => ?_⟩
                · have := g.2.2.1 (c.fParents[k - 1]) K (by rw [List.getElem?_eq_getElem hlt2]); omega
                · simp [C]
              · by_cases E : ratOk (c.fParents[k]).fDX
                · by_cases F : ratOk (c.fParents[k]).fDY
                  · refine ⟨fun _ => ?_, fun g => absurd ⟨A, B, fun q _ hq => ?_, D, E, F⟩ g⟩
                    · simp [C, E, F, t5]
                    · rw [List.getElem?_eq_getElem hlt2] at hq; cases hq; omega
                  · refine ⟨fun g => absurd g.2.2.2.2.2 F, fun _ => ?_⟩
                    simp [C, E, F]
                · refine ⟨fun g => absurd g.2.2.2.2.1 E, fun _ => ?_⟩
                  simp [C, E]
            · have K' : ¬ (0 : Int) < (k : Int) := by omega
              simp only [A, B, K', D', and_self, decide_true, if_true, if_false, Option.bind_some]
              by_cases E : ratOk (c.fParents[k]).fDX
              · by_cases F : ratOk (c.fParents[k]).fDY
                · refine ⟨fun _ => ?_, fun g => absurd ⟨A, B, fun q hq _ => absurd hq K, D, E, F⟩ g⟩
                  simp [E, F, t5]
                · refine ⟨fun g => absurd g.2.2.2.2.2 F, fun _ => ?_⟩
                  simp [E, F]
              · refine ⟨fun g => absurd g.2.2.2.2.1 E, fun _ => ?_⟩
                simp [E]
          · have D' : sgnR (c.fParents[k]).fShare ≤ 0 := by omega
            refine ⟨fun g => absurd g.2.2.2.1 D, fun _ => ?_⟩
            by_cases K : 0 < k
            · have hlt2 : k - 1 < c.fParents.length := by omega
              have w2 : IntKind.i64.wrap ((k : Int) - 1) = ((k - 1 : Nat) : Int) := by rw [wi (by omega)]; omega
              have K' : (0 : Int) < (k : Int) := by omega
              simp only [A, B, K', D', w2, idx_lt hlt2, and_self, decide_true, if_true, if_false, Option.bind_some]
              by_cases C : (c.fParents[k]).fNode ≤ (c.fParents[k - 1]).fNode <;> simp [C]
            · have K' : ¬ (0 : Int) < (k : Int) := by omega
              simp only [A, B, K', D', and_self, decide_true, if_true, if_false, Option.bind_some]
              simp
      · refine ⟨fun g => absurd g.1 A, fun _ => ?_⟩
        simp [A]
    by_cases G : pGood c k c.fParents[k]
    · obtain ⟨s1, s2⟩ := step.1 G
      rw [lp_more s1, lp_more s2]
      obtain ⟨r, e1, e2, e3⟩ := ih (k + 1) (by omega) t t3
      refine ⟨r, e1, e2, ?_⟩
      cases r with
      | inl v =>
        refine ⟨e3.1, fun j hj hkj => ?_⟩
        by_cases e : j = k
        · subst e; exact G
        · exact e3.2 j hj (by omega)
      | inr b => exact e3
    · obtain ⟨s1, s2⟩ := step.2 G
      exact ⟨.inr false, lp_done s1, lp_done s2, rfl⟩
theorem rat0_vz : VZ (ratI 0) := .inl (rat_int_ok 0 (by omega))
/-- both programs say the same of a conditional; what is valid has good parents -/
theorem Valid_q (c : Conditional) (h : szN_Conditional c ≤ 4294967296) : ∃ b, spec_IsValidConditional c = some b ∧ impl_IsValidConditional c = some b ∧ (b = true → (1 ≤ c.fNode ∧ c.fNode ≤ 9) ∧ ∀ j (hj : j < c.fParents.length), pGood c j c.fParents[j]) := by
  obtain ⟨hl, hT⟩ := parLen h
  obtain ⟨g1, g2⟩ := RatSign_q _ hT
  obtain ⟨r, e1, e2, e3⟩ := valid_loop c h c.fParents.length 0 (by omega) (ratI 0) rat0_vz
  rw [show ((0 : Nat) : Int) = 0 from rfl] at e1 e2
  unfold spec_IsValidConditional impl_IsValidConditional
  rw [spec_RatFromInt_p 0 (by omega), impl_RatFromInt_p 0 (by omega), spec_RatFromInt_p 1 (by omega), impl_RatFromInt_p 1 (by omega)]
  simp only [Option.bind_some, e1, e2, g1, g2, l01In_q]
  by_cases A : 1 ≤ c.fNode ∧ c.fNode ≤ 9
  · have A1 : ¬ c.fNode < 1 := by omega
    have A2 : ¬ 10 ≤ c.fNode := by omega
    by_cases B : 0 < sgnR c.fTotal
    · have B' : ¬ sgnR c.fTotal ≤ 0 := by omega
      by_cases D : c.fParents.length = 0
      · have D1 : ¬ (0 : Int) < (c.fParents.length : Int) := by omega
        have D2 : (c.fParents.length : Int) = 0 := by omega
        refine ⟨false, ?_, ?_, fun h => by cases h⟩
        · cases r with
          | inl v => simp only [A, B, D1, and_self, decide_true, if_true, if_false, Option.bind_some]
          | inr b => simp only [] at e3; subst e3; rfl
        · simp [A1, A2, B', D2]
      · have D1 : (0 : Int) < (c.fParents.length : Int) := by omega
        have D2 : ¬ (c.fParents.length : Int) = 0 := by omega
        cases r with
        | inl v =>
          obtain ⟨b, hb⟩ := RatEqual_q v (ratI 1) (by have := VZ_sz e3.1; omega)
          refine ⟨b, ?_, ?_, fun _ => ⟨A, fun j hj => e3.2 j hj (by omega)⟩⟩
          · simp only [A, B, D1, hb, and_self, decide_true, if_true, if_false, Option.bind_some]
          · rw [RatEqual_same]; simp only [A1, A2, B', D2, hb, decide_false, if_true, if_false, Option.bind_some, Bool.false_eq_true]
        | inr b =>
          simp only [] at e3; subst e3
          refine ⟨false, rfl, ?_, fun h => by cases h⟩
          simp [A1, A2, B', D2]
    · have B' : sgnR c.fTotal ≤ 0 := by omega
      refine ⟨false, ?_, ?_, fun h => by cases h⟩
      · cases r with
        | inl v => simp [A, B]
        | inr b => simp only [] at e3; subst e3; rfl
      · simp [A1, A2, B']
  · refine ⟨false, ?_, ?_, fun h => by cases h⟩
    · cases r with
      | inl v => simp [A]
      | inr b => simp only [] at e3; subst e3; rfl
    · by_cases A1 : c.fNode < 1
      · simp [A1]
      · have A2 : 10 ≤ c.fNode := by omega
        simp [A1, A2]
end Go.Ev

/- Nets and their solution, both programs. -/
namespace Go.Ev
set_option linter.all false
theorem lp_every {step : Int → Option (Int ⊕ (Unit ⊕ Bool))} (n : Nat) (G : Nat → Prop) (h1 : ∀ k : Nat, k < n → (G k ∧ step (k : Int) = some (.inl ((k + 1 : Nat) : Int))) ∨ (¬ G k ∧ step (k : Int) = some (.inr (.inr false)))) (h2 : step (n : Int) = some (.inr (.inl ()))) :
    (lp step 0 = some (.inl ()) ∧ ∀ k, k < n → G k) ∨ (lp step 0 = some (.inr false) ∧ ∃ k, k < n ∧ ¬ G k) := by
  have main : ∀ m k : Nat, m + k = n → (lp step (k : Int) = some (.inl ()) ∧ ∀ j, k ≤ j → j < n → G j) ∨ (lp step (k : Int) = some (.inr false) ∧ ∃ j, j < n ∧ ¬ G j) := by
    intro m
    induction m with
    | zero =>
      intro k hk
      have : k = n := by omega
      subst this
      exact .inl ⟨lp_done h2, fun j _ _ => by omega⟩
    | succ m ih =>
      intro k hk
      rcases h1 k (by omega) with ⟨g, e⟩ | ⟨g, e⟩
      · rw [lp_more e]
        rcases ih (k + 1) (by omega) with ⟨a, b⟩ | ⟨a, b⟩
        · refine .inl ⟨a, fun j h1 h2 => ?_⟩
          by_cases e : j = k
          · subst e; exact g
          · exact b j (by omega) h2
        · exact .inr ⟨a, b⟩
      · exact .inr ⟨lp_done e, k, by omega, g⟩
  rcases main n 0 (by omega) with ⟨a, b⟩ | ⟨a, b⟩
  · exact .inl ⟨a, fun j h => b j (Nat.zero_le _) h⟩
  · exact .inr ⟨a, b⟩
theorem l5_p (l : List Conditional) (hl : l.length ≤ 4294967296) : lp (spec_IsNet_L5 l) 0 = some () := by
  have main : ∀ m k : Nat, m + k = l.length → lp (spec_IsNet_L5 l) (k : Int) = some () := by
    intro m
    induction m with
    | zero => intro k hk; exact lp_done (by unfold spec_IsNet_L5; rw [if_neg (by omega)])
    | succ m ih =>
      intro k hk
      have hlt : k < l.length := by omega
      have e : spec_IsNet_L5 l (k : Int) = some (.inl ((k + 1 : Nat) : Int)) := by
        unfold spec_IsNet_L5; rw [if_pos (by omega), idx_lt hlt, wi (by omega)]; rfl
      rw [lp_more e]; exact ih (k + 1) (by omega)
  exact main l.length 0 (by omega)
theorem l6_p (l : List Conditional) (p : Parent) (hl : l.length ≤ 4294967296) : ∃ b, lp (spec_IsNet_L6 l p) (false, 0) = some b ∧ (b = true ↔ ∃ d ∈ l, d.fNode = p.fNode) := by
  have main : ∀ m k : Nat, m + k = l.length → ∀ b : Bool, ∃ b', lp (spec_IsNet_L6 l p) (b, (k : Int)) = some b' ∧ (b' = true ↔ (b = true ∨ ∃ d ∈ l.drop k, d.fNode = p.fNode)) := by
    intro m
    induction m with
    | zero =>
      intro k hk b
      refine ⟨b, lp_done (by unfold spec_IsNet_L6; simp only []; rw [if_neg (by omega)]), ?_⟩
      rw [List.drop_eq_nil_of_le (by omega)]; simp
    | succ m ih =>
      intro k hk b
      have hlt : k < l.length := by omega
      have w : IntKind.i64.wrap ((k : Int) + 1) = ((k + 1 : Nat) : Int) := by rw [wi (by omega)]; omega
      have e : spec_IsNet_L6 l p (b, (k : Int)) = some (.inl (b || decide ((l[k]).fNode = p.fNode), ((k + 1 : Nat) : Int))) := by
        unfold spec_IsNet_L6; simp only []
        rw [if_pos (by omega), idx_lt hlt]
        simp only [Option.bind_some, w]
        cases b with
        | true => rfl
        | false =>
          by_cases c : (l[k]).fNode = p.fNode <;> simp [c]
      obtain ⟨b', e1, e2⟩ := ih (k + 1) (by omega) (b || decide ((l[k]).fNode = p.fNode))
      refine ⟨b', by rw [lp_more e]; exact e1, ?_⟩
      rw [e2, List.drop_eq_getElem_cons hlt]
      simp only [Bool.or_eq_true, decide_eq_true_eq, List.mem_cons, exists_eq_or_imp]
      rw [or_assoc]
  obtain ⟨b, e1, e2⟩ := main l.length 0 (by omega) false
  refine ⟨b, e1, ?_⟩
  rw [e2, List.drop_zero]; simp
def netOk (l : List Conditional) (i : Nat) : Prop := ∃ h : i < l.length, spec_IsValidConditional l[i] = some true ∧ (∀ p ∈ (l[i]).fParents, p.fNode = 0 ∨ ∃ d ∈ l.drop (i + 1), d.fNode = p.fNode) ∧ ∀ d ∈ l.drop (i + 1), d.fNode ≠ (l[i]).fNode
theorem netLen {l : List Conditional} (h : szN_ConditionalS l ≤ 4294967296) : l.length ≤ 4294967296 ∧ ∀ i (hi : i < l.length), szN_Conditional l[i] ≤ 4294967296 := by
  unfold szN_ConditionalS at h
  have := szL_len szN_Conditional l
  refine ⟨by omega, fun i hi => ?_⟩
  have := szL_mem (w := szN_Conditional) (List.getElem_mem hi)
  omega
theorem sub_tail {α : Type} (l : List α) (k : Nat) (h : k + 1 ≤ l.length) (hl : l.length ≤ 4294967296) : sub l (IntKind.i64.wrap ((k : Int) + 1)) (l.length : Int) = some (l.drop (k + 1)) := by
  rw [wi (by omega), sub_all _ _ _ (by omega)]
  congr 1
  rw [show ((k : Int) + 1).toNat = k + 1 by omega]
  exact List.take_of_length_le (by simp; omega)
theorem specNet_step (l : List Conditional) (h : szN_ConditionalS l ≤ 4294967296) (i : Nat) (hi : i < l.length) :
    (netOk l i ∧ spec_IsNet_L9 l (i : Int) = some (.inl ((i + 1 : Nat) : Int))) ∨ (¬ netOk l i ∧ spec_IsNet_L9 l (i : Int) = some (.inr (.inr false))) := by
  obtain ⟨hl, hz⟩ := netLen h
  have hzi := hz i hi
  obtain ⟨hp, _⟩ := parLen hzi
  obtain ⟨b, e1, e2, e3⟩ := Valid_q l[i] hzi
  have w : IntKind.i64.wrap ((i : Int) + 1) = ((i + 1 : Nat) : Int) := by rw [wi (by omega)]; omega
  have hdl : (l.drop (i + 1)).length ≤ 4294967296 := by simp; omega
  unfold spec_IsNet_L9
  rw [if_pos (by omega), idx_lt hi]
  simp only [Option.bind_some]
  rw [e1]
  simp only [Option.bind_some]
  cases b with
  | false => exact .inr ⟨fun ⟨_, g, _⟩ => (by rw [e1] at g; cases g), rfl⟩
  | true =>
    rw [if_pos rfl]
    have q7 := lp_every (step := spec_IsNet_L7 l l[i] (i : Int)) (l[i]).fParents.length (fun k => ∃ p, (l[i]).fParents[k]? = some p ∧ (p.fNode = 0 ∨ ∃ d ∈ l.drop (i + 1), d.fNode = p.fNode)) (fun k hk => by
      have w2 : IntKind.i64.wrap ((k : Int) + 1) = ((k + 1 : Nat) : Int) := by rw [wi (by omega)]; omega
      unfold spec_IsNet_L7
      rw [if_pos (by omega), idx_lt hk]
      simp only [Option.bind_some]
      by_cases c : ((l[i]).fParents[k]).fNode = 0
      · left
        refine ⟨⟨_, List.getElem?_eq_getElem hk, .inl c⟩, ?_⟩
        rw [if_pos c, sub_tail l i (by omega) hl]
        simp only [Option.bind_some]
        rw [l5_p _ hdl, w2]; rfl
      · rw [if_neg c, sub_tail l i (by omega) hl]
        simp only [Option.bind_some]
        obtain ⟨b, f1, f2⟩ := l6_p (l.drop (i + 1)) (l[i]).fParents[k] hdl
        rw [f1]
        simp only [Option.bind_some]
        cases b with
        | true => exact .inl ⟨⟨_, List.getElem?_eq_getElem hk, .inr (f2.1 rfl)⟩, by rw [if_pos rfl, w2]⟩
        | false =>
          refine .inr ⟨?_, by rw [if_neg (by simp)]⟩
          rintro ⟨p, g1, g2⟩
          rw [List.getElem?_eq_getElem hk] at g1; cases g1
          rcases g2 with g2 | g2
          · exact c g2
          · have := f2.2 g2; cases this) (by unfold spec_IsNet_L7; rw [if_neg (by omega)])
    rcases q7 with ⟨f1, f2⟩ | ⟨f1, k, hk, f2⟩
    · rw [f1]
      simp only [Option.bind_some]
      rw [sub_tail l i (by omega) hl]
      simp only [Option.bind_some]
      have q8 := lp_every (step := spec_IsNet_L8 (l.drop (i + 1)) l[i]) (l.drop (i + 1)).length (fun k => ∃ d, (l.drop (i + 1))[k]? = some d ∧ d.fNode ≠ (l[i]).fNode) (fun k hk => by
        have w2 : IntKind.i64.wrap ((k : Int) + 1) = ((k + 1 : Nat) : Int) := by rw [wi (by omega)]; omega
        unfold spec_IsNet_L8
        rw [if_pos (by omega), idx_lt hk]
        simp only [Option.bind_some]
        by_cases c : ((l.drop (i + 1))[k]).fNode = (l[i]).fNode
        · refine .inr ⟨?_, by rw [if_pos c]⟩
          rintro ⟨p, g1, g2⟩
          rw [List.getElem?_eq_getElem hk] at g1; cases g1
          exact g2 c
        · exact .inl ⟨⟨_, List.getElem?_eq_getElem hk, c⟩, by rw [if_neg c, w2]⟩) (by unfold spec_IsNet_L8; rw [if_neg (by omega)])
      rcases q8 with ⟨g1, g2⟩ | ⟨g1, k, hk, g2⟩
      · rw [g1]
        left
        refine ⟨⟨hi, e1, fun p hp => ?_, fun d hd => ?_⟩, by simp only [Option.bind_some]; rw [w]⟩
        · obtain ⟨k, hk, rfl⟩ := List.getElem_of_mem hp
          obtain ⟨q, r1, r2⟩ := f2 k hk
          rw [List.getElem?_eq_getElem hk] at r1; cases r1; exact r2
        · obtain ⟨k, hk, rfl⟩ := List.getElem_of_mem hd
          obtain ⟨q, r1, r2⟩ := g2 k hk
          rw [List.getElem?_eq_getElem hk] at r1; cases r1; exact r2
      · rw [g1]
        right
        refine ⟨fun ⟨_, _, _, r⟩ => g2 ⟨_, List.getElem?_eq_getElem hk, r _ (List.getElem_mem hk)⟩, rfl⟩
    · rw [f1]
      right
      refine ⟨fun ⟨_, _, r, _⟩ => f2 ⟨_, List.getElem?_eq_getElem hk, r _ (List.getElem_mem hk)⟩, rfl⟩
theorem specNet_p (l : List Conditional) (h : szN_ConditionalS l ≤ 4294967296) : (spec_IsNet l = some true ∧ ∀ i, i < l.length → netOk l i) ∨ (spec_IsNet l = some false ∧ ∃ i, i < l.length ∧ ¬ netOk l i) := by
  unfold spec_IsNet
  rcases lp_every (step := spec_IsNet_L9 l) l.length (netOk l) (fun k hk => specNet_step l h k hk) (by unfold spec_IsNet_L9; rw [if_neg (by omega)]) with ⟨a, b⟩ | ⟨a, b⟩
  · exact .inl ⟨by rw [a]; rfl, b⟩
  · exact .inr ⟨by rw [a]; rfl, b⟩
theorem implNet_loop (l : List Conditional) (h : szN_ConditionalS l ≤ 4294967296) : ∀ (k : Nat) (ns : List Int), k ≤ l.length → ns.length + k = l.length + 1 → (∀ x, x ∈ ns ↔ (x = 0 ∨ ∃ d ∈ l.drop k, d.fNode = x)) →
    (lp (impl_IsNet_L2 l) ((k : Int) - 1, ns) = some (.inl ()) ∧ ∀ i, i < k → netOk l i) ∨ (lp (impl_IsNet_L2 l) ((k : Int) - 1, ns) = some (.inr false) ∧ ∃ i, i < k ∧ ¬ netOk l i) := by
  obtain ⟨hl, hz⟩ := netLen h
  intro k
  induction k with
  | zero =>
    intro ns _ _ _
    exact .inl ⟨lp_done (by unfold impl_IsNet_L2; simp only []; rw [if_neg (by omega)]), fun i hi => by omega⟩
  | succ k ih =>
    intro ns hk hlen hm
    have hlt : k < l.length := by omega
    have hzi := hz k hlt
    obtain ⟨hp, _⟩ := parLen hzi
    obtain ⟨b, e1, e2, e3⟩ := Valid_q l[k] hzi
    have key : (netOk l k ∧ impl_IsNet_L2 l (((k + 1 : Nat) : Int) - 1, ns) = some (.inl ((k : Int) - 1, ns ++ [(l[k]).fNode]))) ∨ (¬ netOk l k ∧ impl_IsNet_L2 l (((k + 1 : Nat) : Int) - 1, ns) = some (.inr (.inr false))) := by
      unfold impl_IsNet_L2
      simp only []
      rw [show ((k + 1 : Nat) : Int) - 1 = (k : Int) by omega, if_pos (by omega), idx_lt hlt]
      simp only [Option.bind_some]
      rw [e2]
      simp only [Option.bind_some]
      cases b with
      | false => exact .inr ⟨fun ⟨_, g, _⟩ => (by rw [e1] at g; cases g), rfl⟩
      | true =>
        rw [if_pos rfl, hasInt_p _ _ (by omega)]
        simp only [Option.bind_some]
        obtain ⟨hn, _⟩ := e3 rfl
        by_cases c : (l[k]).fNode ∈ ns
        · right
          refine ⟨fun ⟨_, _, _, r⟩ => ?_, by rw [decide_eq_true c]; rfl⟩
          rcases (hm _).1 c with z | ⟨d, hd, z⟩
          · omega
          · exact r d hd z
        · rw [decide_eq_false c]
          simp only [Bool.false_eq_true, if_false]
          have q1 := lp_every (step := impl_IsNet_L1 l[k] ns) (l[k]).fParents.length (fun j => ∃ p, (l[k]).fParents[j]? = some p ∧ p.fNode ∈ ns) (fun j hj => by
            have w2 : IntKind.i64.wrap ((j : Int) + 1) = ((j + 1 : Nat) : Int) := by rw [wi (by omega)]; omega
            unfold impl_IsNet_L1
            rw [if_pos (by omega), idx_lt hj]
            simp only [Option.bind_some]
            rw [hasInt_p _ _ (by omega)]
            simp only [Option.bind_some]
            by_cases c2 : ((l[k]).fParents[j]).fNode ∈ ns
            · exact .inl ⟨⟨_, List.getElem?_eq_getElem hj, c2⟩, by rw [decide_eq_true c2, if_pos rfl, w2]⟩
            · refine .inr ⟨?_, by rw [decide_eq_false c2, if_neg (by simp)]⟩
              rintro ⟨p, g1, g2⟩
              rw [List.getElem?_eq_getElem hj] at g1; cases g1
              exact c2 g2) (by unfold impl_IsNet_L1; rw [if_neg (by omega)])
          rcases q1 with ⟨f1, f2⟩ | ⟨f1, j, hj, f2⟩
          · left
            refine ⟨⟨hlt, e1, fun p hp => ?_, fun d hd z => c ((hm _).2 (.inr ⟨d, hd, z⟩))⟩, ?_⟩
            · obtain ⟨j, hj, rfl⟩ := List.getElem_of_mem hp
              obtain ⟨q, r1, r2⟩ := f2 j hj
              rw [List.getElem?_eq_getElem hj] at r1; cases r1
              exact (hm _).1 r2
            · rw [f1]
              simp only [Option.bind_some]
              rw [chk_pos (by omega), wi (by omega)]; rfl
          · right
            refine ⟨fun ⟨_, _, r, _⟩ => f2 ⟨_, List.getElem?_eq_getElem hj, (hm _).2 (r _ (List.getElem_mem hj))⟩, ?_⟩
            rw [f1]; rfl
    rcases key with ⟨g, e⟩ | ⟨g, e⟩
    · rw [lp_more e]
      rcases ih (ns ++ [(l[k]).fNode]) (by omega) (by simp; omega) (fun x => by
        rw [List.mem_append, hm, List.drop_eq_getElem_cons hlt]
        simp only [List.mem_cons, List.not_mem_nil, or_false, exists_eq_or_imp]
        constructor
        · rintro ((z | z) | z)
          · exact .inl z
          · exact .inr (.inr z)
          · exact .inr (.inl z.symm)
        · rintro (z | z | z)
          · exact .inl (.inl z)
          · exact .inr z.symm
          · exact .inl (.inr z)) with ⟨a, b⟩ | ⟨a, i, hi, b⟩
      · refine .inl ⟨a, fun i hi => ?_⟩
        by_cases z : i = k
        · subst z; exact g
        · exact b i (by omega)
      · exact .inr ⟨a, i, by omega, b⟩
    · exact .inr ⟨lp_done e, k, by omega, g⟩
theorem Net_q (l : List Conditional) (h : szN_ConditionalS l ≤ 4294967296) : ∃ b, spec_IsNet l = some b ∧ impl_IsNet l = some b ∧ (b = true → ∀ i, i < l.length → netOk l i) := by
  obtain ⟨hl, _⟩ := netLen h
  have hi : (impl_IsNet l = some true ∧ ∀ i, i < l.length → netOk l i) ∨ (impl_IsNet l = some false ∧ ∃ i, i < l.length ∧ ¬ netOk l i) := by
    unfold impl_IsNet
    rw [letO_bind, wi (by omega)]
    rcases implNet_loop l h l.length [0] (Nat.le_refl _) (by simp; omega) (fun x => by rw [List.drop_length]; simp) with ⟨a, b⟩ | ⟨a, b⟩
    · exact .inl ⟨by rw [a]; rfl, b⟩
    · exact .inr ⟨by rw [a]; rfl, b⟩
  rcases specNet_p l h with ⟨a, b⟩ | ⟨a, i, hi1, b⟩
  · rcases hi with ⟨c, _⟩ | ⟨c, j, hj, d⟩
    · exact ⟨true, a, c, fun _ => b⟩
    · exact absurd (b j hj) d
  · rcases hi with ⟨c, d⟩ | ⟨c, _⟩
    · exact absurd (d i hi1) b
    · exact ⟨false, a, c, fun z => by cases z⟩
end Go.Ev

/- Nets solved, both programs; the law. -/
namespace Go.Ev
set_option linter.all false
def VP (p : Point) : Prop := VZ p.fX ∧ VZ p.fY
def zPt : Point := Point.mk (Rat.mk (BigInt.mk false ([])) ([])) (Rat.mk (BigInt.mk false ([])) ([]))
theorem zPt_v : VP zPt := ⟨VZ_z, VZ_z⟩
theorem VP_sz {p : Point} (h : VP p) : szN_Point p ≤ 96 := by
  have h1 := VZ_sz h.1
  have h2 := VZ_sz h.2
  unfold szN_Point; omega
theorem sz48 {r : Rat} (h : VZ r) : szN_Rat r ≤ 4294967296 := by have := VZ_sz h; omega
theorem apply_loop (c : Conditional) (h : szN_Conditional c ≤ 4294967296) (hg : ∀ j (hj : j < c.fParents.length), pGood c j c.fParents[j]) (at_ : List Point) (hat : at_.length ≤ 4294967296) (hv : ∀ p ∈ at_, VP p) : ∀ m k : Nat, m + k = c.fParents.length → ∀ p : Point, VP p →
    ∃ r, lp (spec_ApplyConditional_L1 c at_) ((k : Int), p) = some r ∧ lp (impl_ApplyConditional_L1 c at_) ((k : Int), p) = some r ∧ (match r with | .inl q => VP q | .inr q => q = (zPt, false)) := by
  have hl := (parLen h).1
  intro m
  induction m with
  | zero =>
    intro k hk p hp
    refine ⟨.inl p, lp_done ?_, lp_done ?_, hp⟩
    · unfold spec_ApplyConditional_L1; simp only []; rw [if_neg (by omega)]
    · unfold impl_ApplyConditional_L1; simp only []; rw [if_neg (by omega)]
  | succ m ih =>
    intro k hk p hp
    have hlt : k < c.fParents.length := by omega
    obtain ⟨z1, z2, z3⟩ := parSz h hlt
    obtain ⟨⟨n0, n9⟩, _, _, hD, _, _⟩ := hg k hlt
    have hsh : VZ (c.fParents[k]).fShare := .inl (sgnR_pos hD)
    have hin : (k : Int) < (c.fParents.length : Int) := by omega
    by_cases C : (at_.length : Int) ≤ (c.fParents[k]).fNode
    · refine ⟨.inr (zPt, false), lp_done ?_, lp_done ?_, rfl⟩
      · unfold spec_ApplyConditional_L1
        simp only [hin, if_true, idx_lt hlt, Option.bind_some, C]; rfl
      · unfold impl_ApplyConditional_L1
        simp only [hin, if_true, idx_lt hlt, Option.bind_some, C]; rfl
    · obtain ⟨n, hn⟩ : ∃ n : Nat, (c.fParents[k]).fNode = (n : Int) := ⟨((c.fParents[k]).fNode).toNat, by omega⟩
      have hnl : n < at_.length := by omega
      obtain ⟨vx, vy⟩ := hv _ (List.getElem_mem hnl)
      have C' : ¬ (at_.length : Int) ≤ (n : Int) := by omega
      obtain ⟨x1, a1, a2, a3, _⟩ := RatAdd_q (at_[n]).fX (c.fParents[k]).fDX (sz48 vx) z2
      obtain ⟨x2, b1, b2, b3⟩ := RatMul_q (c.fParents[k]).fShare x1 z1 (sz48 a3)
      obtain ⟨x3, c1, _, c3, c4⟩ := RatAdd_q p.fX x2 (sz48 hp.1) (sz48 b2)
      obtain ⟨y1, d1, d2, d3, _⟩ := RatAdd_q (at_[n]).fY (c.fParents[k]).fDY (sz48 vy) z3
      obtain ⟨y2, f1, f2, f3⟩ := RatMul_q (c.fParents[k]).fShare y1 z1 (sz48 d3)
      obtain ⟨y3, g1, _, g3, g4⟩ := RatAdd_q p.fY y2 (sz48 hp.2) (sz48 f2)
      have w : IntKind.i64.wrap ((k : Int) + 1) = ((k + 1 : Nat) : Int) := by rw [wi (by omega)]; omega
      have s1 : spec_ApplyConditional_L1 c at_ ((k : Int), p) = some (.inl (((k + 1 : Nat) : Int), ⟨x3, y3⟩)) := by
        unfold spec_ApplyConditional_L1
        simp only [hin, if_true, idx_lt hlt, Option.bind_some, hn, C', if_false, idx_lt hnl, a1, b1, c1, d1, f1, g1, w]
      have s2 : impl_ApplyConditional_L1 c at_ ((k : Int), p) = some (.inl (((k + 1 : Nat) : Int), ⟨x3, y3⟩)) := by
        unfold impl_ApplyConditional_L1
        simp only [hin, if_true, idx_lt hlt, Option.bind_some, hn, C', if_false, idx_lt hnl, a2, b3 hsh a3, c4 hp.1 b2, d2, f3 hsh d3, g4 hp.2 f2, w]
      rw [lp_more s1, lp_more s2]
      exact ih (k + 1) (by omega) ⟨x3, y3⟩ ⟨c3, g3⟩
theorem Apply_q (c : Conditional) (h : szN_Conditional c ≤ 4294967296) (at_ : List Point) (hat : at_.length ≤ 4294967296) (hv : ∀ p ∈ at_, VP p) : ∃ v, spec_ApplyConditional c at_ = some v ∧ impl_ApplyConditional c at_ = some v ∧ VP v.1 := by
  obtain ⟨b, e1, e2, e3⟩ := Valid_q c h
  unfold spec_ApplyConditional impl_ApplyConditional
  rw [e1, e2]
  simp only [Option.bind_some]
  cases b with
  | false => exact ⟨(zPt, false), rfl, rfl, zPt_v⟩
  | true =>
    rw [if_pos rfl, if_pos rfl]
    unfold impl_zeroPoint
    rw [spec_RatFromInt_p 0 (by omega), impl_RatFromInt_p 0 (by omega)]
    simp only [Option.bind_some]
    obtain ⟨r, f1, f2, f3⟩ := apply_loop c h (e3 rfl).2 at_ hat hv c.fParents.length 0 (by omega) ⟨ratI 0, ratI 0⟩ ⟨rat0_vz, rat0_vz⟩
    rw [show ((0 : Nat) : Int) = 0 from rfl] at f1 f2
    rw [f1, f2]
    cases r with
    | inr q => simp only [] at f3; subst f3; exact ⟨(zPt, false), rfl, rfl, zPt_v⟩
    | inl q =>
      simp only [] at f3
      simp only [Option.bind_some]
      unfold spec_l08Point
      rw [RatOkS_p _ (sz48 f3.1), RatOkS_p _ (sz48 f3.2), good_vz f3.1, good_vz f3.2]
      simp only [Option.bind_some]
      by_cases c1 : ratOk q.fX
      · by_cases c2 : ratOk q.fY
        · exact ⟨(q, true), by simp [c1, c2], by simp [c1, c2], f3⟩
        · exact ⟨(zPt, false), by simp [c1, c2, zPt], by simp [c1, c2, zPt], zPt_v⟩
      · exact ⟨(zPt, false), by simp [c1, zPt], by simp [c1, zPt], zPt_v⟩
theorem most_loop (l : List Conditional) (hl : l.length ≤ 4294967296) (hn : ∀ i (hi : i < l.length), 1 ≤ (l[i]).fNode ∧ (l[i]).fNode ≤ 9) : ∀ m k : Nat, m + k = l.length → ∀ g : Nat, g ≤ 9 → (∀ i (hi : i < l.length), i < k → (l[i]).fNode ≤ g) →
    ∃ g' : Nat, lp (spec_SolveNet_L1 l) ((g : Int), (k : Int)) = some (g' : Int) ∧ lp (impl_SolveNet_L1 l) ((g : Int), (k : Int)) = some (g' : Int) ∧ g' ≤ 9 ∧ ∀ i (hi : i < l.length), (l[i]).fNode ≤ g' := by
  intro m
  induction m with
  | zero =>
    intro k hk g hg hb
    refine ⟨g, lp_done ?_, lp_done ?_, hg, fun i hi => hb i hi (by omega)⟩
    · unfold spec_SolveNet_L1; simp only []; rw [if_neg (by omega)]
    · unfold impl_SolveNet_L1; simp only []; rw [if_neg (by omega)]
  | succ m ih =>
    intro k hk g hg hb
    have hlt : k < l.length := by omega
    have hnk := hn k hlt
    obtain ⟨x, hx⟩ : ∃ x : Nat, (l[k]).fNode = (x : Int) := ⟨((l[k]).fNode).toNat, by omega⟩
    have w : IntKind.i64.wrap ((k : Int) + 1) = ((k + 1 : Nat) : Int) := by rw [wi (by omega)]; omega
    have hin : (k : Int) < (l.length : Int) := by omega
    have s1 : spec_SolveNet_L1 l ((g : Int), (k : Int)) = some (.inl (((max g x : Nat) : Int), ((k + 1 : Nat) : Int))) := by
      unfold spec_SolveNet_L1 spec_l11Max
      simp only [hin, if_true, idx_lt hlt, Option.bind_some, hx, w]
      by_cases c : (x : Int) < (g : Int)
      · rw [if_pos c, Nat.max_eq_left (by omega)]; rfl
      · rw [if_neg c, Nat.max_eq_right (by omega)]; rfl
    have s2 : impl_SolveNet_L1 l ((g : Int), (k : Int)) = some (.inl (((max g x : Nat) : Int), ((k + 1 : Nat) : Int))) := by
      unfold impl_SolveNet_L1
      simp only [hin, if_true, idx_lt hlt, Option.bind_some, hx, w]
      rw [show max (g : Int) (x : Int) = ((max g x : Nat) : Int) by omega]
    rw [lp_more s1, lp_more s2]
    exact ih (k + 1) (by omega) (max g x) (by omega) (fun i hi hik => by
      by_cases e : i = k
      · subst e; omega
      · have := hb i hi (by omega); omega)
theorem solve_loop (l : List Conditional) (h : szN_ConditionalS l ≤ 4294967296) (g : Nat) (hg : g ≤ 9) (hn : ∀ i (hi : i < l.length), 1 ≤ (l[i]).fNode ∧ (l[i]).fNode ≤ g) : ∀ (k : Nat) (at_ : List Point), k ≤ l.length → at_.length = g + 1 → (∀ p ∈ at_, VP p) →
    ∃ r, lp (spec_SolveNet_L2 l) ((k : Int) - 1, at_) = some r ∧ lp (impl_SolveNet_L2 l) ((k : Int) - 1, at_) = some r ∧ (match r with | .inl v => v.length = g + 1 ∧ ∀ p ∈ v, VP p | .inr w => w = ([], false)) := by
  obtain ⟨hl, hz⟩ := netLen h
  intro k
  induction k with
  | zero =>
    intro at_ _ hal hv
    refine ⟨.inl at_, lp_done ?_, lp_done ?_, hal, hv⟩
    · unfold spec_SolveNet_L2; simp only []; rw [if_neg (by omega)]
    · unfold impl_SolveNet_L2; simp only []; rw [if_neg (by omega)]
  | succ k ih =>
    intro at_ hk hal hv
    have hlt : k < l.length := by omega
    obtain ⟨v, e1, e2, e3⟩ := Apply_q l[k] (hz k hlt) at_ (by omega) hv
    have hnk := hn k hlt
    obtain ⟨x, hx⟩ : ∃ x : Nat, (l[k]).fNode = (x : Int) := ⟨((l[k]).fNode).toNat, by omega⟩
    have hxl : x < at_.length := by omega
    have hin : (0 : Int) ≤ (k : Int) := by omega
    have w : IntKind.i64.wrap ((k : Int) - 1) = (k : Int) - 1 := wi (by omega)
    rw [show ((k + 1 : Nat) : Int) - 1 = (k : Int) by omega]
    cases hv2 : v.2 with
    | true =>
      have s1 : spec_SolveNet_L2 l ((k : Int), at_) = some (.inl ((k : Int) - 1, at_.set x v.1)) := by
        unfold spec_SolveNet_L2
        simp only [hin, if_true, idx_lt hlt, Option.bind_some, e1, hv2, hx, idx_lt hxl, letO_bind, setI_nat, w]
      have s2 : impl_SolveNet_L2 l ((k : Int), at_) = some (.inl ((k : Int) - 1, at_.set x v.1)) := by
        unfold impl_SolveNet_L2
        simp only [hin, if_true, idx_lt hlt, Option.bind_some, e2, hv2, hx, idx_lt hxl, letO_bind, setI_nat, w]
      rw [lp_more s1, lp_more s2]
      exact ih (at_.set x v.1) (by omega) (by simpa using hal) (fun p hp => by
        rcases List.mem_or_eq_of_mem_set hp with q | q
        · exact hv p q
        · subst q; exact e3)
    | false =>
      refine ⟨.inr ([], false), lp_done ?_, lp_done ?_, rfl⟩
      · unfold spec_SolveNet_L2
        simp [idx_lt hlt, e1, hv2]
      · unfold impl_SolveNet_L2
        simp [idx_lt hlt, e2, hv2]
theorem SolveNet_q (l : List Conditional) (h : szN_ConditionalS l ≤ 4294967296) : ∃ v, spec_SolveNet l = some v ∧ impl_SolveNet l = some v ∧ szN_PointS v.1 ≤ 970 := by
  obtain ⟨hl, hz⟩ := netLen h
  obtain ⟨b, e1, e2, e3⟩ := Net_q l h
  unfold spec_SolveNet impl_SolveNet
  rw [e1, e2]
  simp only [Option.bind_some]
  cases b with
  | false => exact ⟨([], false), rfl, rfl, by simp [szN_PointS, szL_nil]⟩
  | true =>
    rw [if_pos rfl, if_pos rfl]
    have hn : ∀ i (hi : i < l.length), 1 ≤ (l[i]).fNode ∧ (l[i]).fNode ≤ 9 := fun i hi => by
      obtain ⟨_, q, _⟩ := e3 rfl i hi
      obtain ⟨b', r1, _, r3⟩ := Valid_q l[i] (hz i hi)
      rw [q] at r1; cases r1
      exact (r3 rfl).1
    obtain ⟨g, g1, g2, g3, g4⟩ := most_loop l hl hn l.length 0 (by omega) 0 (by omega) (fun i hi h => by omega)
    rw [show ((0 : Nat) : Int) = 0 from rfl] at g1 g2
    have w : IntKind.i64.wrap ((g : Int) + 1) = ((g + 1 : Nat) : Int) := by rw [wi (by omega)]; omega
    have wl : IntKind.i64.wrap ((l.length : Int) - 1) = (l.length : Int) - 1 := wi (by omega)
    rw [g1, g2]
    simp only [Option.bind_some, w, wl, letO_bind]
    unfold impl_zeroPoint
    rw [chk_pos (by omega), spec_RatFromInt_p 0 (by omega), impl_RatFromInt_p 0 (by omega)]
    simp only [Option.bind_some, Int.toNat_natCast]
    have hi0 : idx (List.replicate (g + 1) zPt) 0 = some zPt := by
      have := idx_lt (l := List.replicate (g + 1) zPt) (k := 0) (by simp)
      rw [show ((0 : Nat) : Int) = 0 from rfl] at this
      rw [this]; simp
    rw [show (Point.mk (Rat.mk (BigInt.mk false ([])) ([])) (Rat.mk (BigInt.mk false ([])) ([]))) = zPt from rfl, hi0]
    simp only [Option.bind_some]
    rw [show setI (List.replicate (g + 1) zPt) 0 (Point.mk (ratI 0) (ratI 0)) = (List.replicate (g + 1) zPt).set 0 (Point.mk (ratI 0) (ratI 0)) from rfl]
    obtain ⟨r, f1, f2, f3⟩ := solve_loop l h g g3 (fun i hi => ⟨(hn i hi).1, g4 i hi⟩) l.length ((List.replicate (g + 1) zPt).set 0 (Point.mk (ratI 0) (ratI 0))) (Nat.le_refl _) (by simp) (fun p hp => by
      rcases List.mem_or_eq_of_mem_set hp with q | q
      · rw [List.mem_replicate] at q; rw [q.2]; exact zPt_v
      · subst q; exact ⟨rat0_vz, rat0_vz⟩)
    rw [f1, f2]
    cases r with
    | inr w => simp only [] at f3; subst f3; exact ⟨([], false), rfl, rfl, by simp [szN_PointS, szL_nil]⟩
    | inl v =>
      refine ⟨(v, true), rfl, rfl, ?_⟩
      simp only [] at f3 ⊢
      have : ∀ (l : List Point), (∀ p ∈ l, VP p) → szN_PointS l ≤ 97 * l.length := by
        intro l
        induction l with
        | nil => intro _; simp [szN_PointS, szL_nil]
        | cons p l ih =>
          intro hp
          have h1 := VP_sz (hp p (by simp))
          have h2 := ih (fun q hq => hp q (by simp [hq]))
          unfold szN_PointS at h2 ⊢
          rw [szL_cons, List.length_cons]; omega
      have := this v f3.2
      omega
theorem Solve_q (t : Tree) (h : szN_Tree t ≤ 4294967296) : ∃ v, spec_SolveTree t = some v ∧ impl_SolveTree t = some v ∧ szN_PointS v.1 ≤ 970 := by
  have hs : szN_ConditionalS (condAll t.fNodes) ≤ 4294967296 := by
    have := condAll_sz t.fNodes
    unfold szN_Tree szN_TreeNodeS at h; omega
  obtain ⟨v, e1, e2, e3⟩ := SolveNet_q _ hs
  unfold spec_SolveTree impl_SolveTree
  rw [spec_TreeNet_p t h, impl_TreeNet_p t h]
  simp only [Option.bind_some, e1, e2]
  exact ⟨v, rfl, rfl, e3⟩
theorem law_SolveTree (t : Tree) (o : okTree t) : laws_FnExactSolveTree t = some true := by
  unfold laws_FnExactSolveTree
  rw [sz_Tree t o _ (by omega) (by omega)]
  simp only [Option.bind_some]
  by_cases h : (szN_Tree t : Int) ≤ 1048576
  · rw [if_pos h, if_neg (by omega)]
    obtain ⟨v, e1, e2, e3⟩ := Solve_q t (by omega)
    obtain ⟨k1, x1, m1, m2, m3⟩ := mh_Tree t 1 (by omega) (by omega)
    obtain ⟨k2, x2, n1, n2, n3, n4, _⟩ := mh_PointS v.1 1 (by omega) (by omega)
    have c1 : ¬ k1 < 0 := by omega
    have c2 : ¬ k2 < 0 := by omega
    simp only [to_Tree t (by omega), e1, e2, Option.bind_some, eq_PointS v.1 (by omega), eq_Tree t (by omega), m1, n1, n2, c1, c2, if_true, if_false, beq_self_eq_true, Bool.not_true, Bool.false_eq_true, ne_eq, not_true_eq_false]
  · rw [if_neg h, if_pos (by omega)]
end Go.Ev

