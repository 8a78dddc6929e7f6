/- The engine, part PP: a drawn region in which one pair of operations is not ordered (printed by mkpp.py). -/
import Derived.Test.YtbfjidhekfnfjaaEvOO
set_option linter.all false
namespace Go.Ev
def exm (p q : Nat) (l : List Nat) : List Nat := l.set q (l.getD q 0 ||| 2 ^ p)
theorem exm_bit {p q i j : Nat} {l : List Nat} (h : ¬ (i = q ∧ j = p)) : ((exm p q l).getD i 0).testBit j = (l.getD i 0).testBit j := by
  unfold exm
  by_cases hi : i = q
  · subst hi
    have hj : j ≠ p := fun e => h ⟨rfl, e⟩
    simp only [List.getD_eq_getElem?_getD]
    by_cases hl : i < l.length
    · rw [List.getElem?_set_self hl, Option.getD_some, Nat.testBit_or, Nat.testBit_two_pow_of_ne (Ne.symm hj), Bool.or_false]
    · rw [List.getElem?_eq_none (by simp; omega), List.getElem?_eq_none (by omega)]
  · simp only [List.getD_eq_getElem?_getD]
    rw [List.getElem?_set_ne (fun e => hi e.symm)]
/-- q may be taken before or after p: q's rule is shown both ways -/
def XOk {P : Program} {N : Nat} (Γ : Ctx P N) (ops : Array Oper) (items : List Item) (E0 : Env) (p q : Nat) : Prop :=
  ∃ x y, items[q]? = some x ∧ items[p]? = some y ∧ p < q ∧ hits x y = false ∧ x.nl = [] ∧ y.nl = [] ∧ LocalAt Γ ops q (pt (fun j => Nat.blt j q && !(Nat.beq j p)) items 0 E0) x.e x.rs x.ro x.nl
theorem XOk.intro {P : Program} {N : Nat} {Γ : Ctx P N} {ops : Array Oper} {items : List Item} {E0 : Env} {p q : Nat} {x y : Item} {o : Oper} (h1 : items[q]? = some x) (h2 : items[p]? = some y) (h3 : Nat.blt p q = true) (h4 : hits x y = false) (h5 : x.nl = []) (h6 : y.nl = [])
    (ho : ops[q]? = some o) (hg : o.guard = none) (hl : Local Γ o ⟨(pt (fun j => Nat.blt j q && !(Nat.beq j p)) items 0 E0).s, (pt (fun j => Nat.blt j q && !(Nat.beq j p)) items 0 E0).o⟩ x.e x.rs x.ro x.nl) : XOk Γ ops items E0 p q :=
  ⟨x, y, h1, h2, (blt_iff _ _).1 h3, h4, h5, h6, Local.at ho hg hl⟩
theorem region_anyX {P : Program} {N : Nat} {Γ : Ctx P N} {ops : Array Oper} {items : List Item} {E0 : Env} {p q : Nat} {Q : Exit → Act → World → Prop}
    (hlen : items.length = ops.size) (hch : Chain Γ ops items E0) (hdep : depsOk (exm p q (ancs ops.toList [])) items items 0 = true) (hed : edgesOk ops.toList 0 = true) (hX : XOk Γ ops items E0 p q)
    (hQ : ∀ a w, Sim Γ (pt (fun _ => true) items 0 E0) a w → Q .normal a w) :
    ∀ (fuel : Nat) (listed : Array Bool) (a : Act) (w : World), listed.size = ops.size → ((List.range ops.size).filter fun j => !listed.getD j false).length ≤ fuel →
      (∀ i j, listed.getD i false = true → ((ancs ops.toList []).getD i 0).testBit j = true → listed.getD j false = true) →
      Sim Γ (pt (fun j => listed.getD j false) items 0 E0) a w → wpAny P .any ops Q fuel listed a w := by
  -- nothing is ready: all has been done
  have hend : ∀ (listed : Array Bool) (a : Act) (w : World), listed.size = ops.size → Region.ready .any ops listed = [] → Sim Γ (pt (fun j => listed.getD j false) items 0 E0) a w → Q .normal a w := by
    intro listed a w hsz hr hs
    have hall : ∀ i, i < ops.size → listed.getD i false = true := by
      intro i
      induction i using Nat.strongRecOn with
      | _ i ih =>
        intro hi
        cases hx : listed.getD i false with
        | true => rfl
        | false =>
          exfalso
          have hm : i ∈ Region.ready .any ops listed := by
            rw [mem_ready]
            have ho : ops[i]? = some ops[i] := Array.getElem?_eq_getElem hi
            refine ⟨?_, ops[i], ho, fun e he hb => ?_⟩
            · simp only [Array.getD_eq_getD_getElem?] at hx ⊢
              rw [Array.getElem?_eq_getElem (by omega)] at hx ⊢; simpa using hx
            · have hlt := edgesOk_spec hed i ops[i] (by simp) e he hb
              rw [Nat.zero_add] at hlt
              exact ih e.on hlt (by omega)
          rw [hr] at hm; cases hm
    refine hQ a w (hs.congr (fun k => ?_) (fun l => ?_))
    · refine pt_lk items 0 E0 E0 (fun j x hx _ => ?_) rfl
      have : j < ops.size := by rw [← hlen]; exact (List.getElem?_eq_some_iff.1 hx).1
      simp only [Nat.zero_add]; rw [hall j this]
    · refine pt_lo items 0 E0 E0 (fun j x hx _ => ?_) rfl
      have : j < ops.size := by rw [← hlen]; exact (List.getElem?_eq_some_iff.1 hx).1
      simp only [Nat.zero_add]; rw [hall j this]
  intro fuel
  induction fuel with
  | zero =>
    intro listed a w hsz hc _ hs
    have hr : Region.ready .any ops listed = [] := by
      rw [List.eq_nil_iff_forall_not_mem]
      intro i hi
      obtain ⟨h1, o, ho, _⟩ := mem_ready.1 hi
      have hi' : i < ops.size := (Array.getElem?_eq_some_iff.1 ho).1
      have : i ∈ (List.range ops.size).filter fun j => !listed.getD j false := by
        rw [List.mem_filter]
        refine ⟨List.mem_range.2 hi', ?_⟩
        simp only [Array.getD_eq_getD_getElem?] at h1 ⊢
        rw [Array.getElem?_eq_getElem (by omega)] at h1 ⊢; simpa using h1
      rw [List.length_eq_zero_iff.1 (Nat.le_zero.1 hc)] at this; cases this
    exact ⟨hr, hend listed a w hsz hr hs⟩
  | succ fuel ih =>
    intro listed a w hsz hc hcl hs
    refine ⟨fun hr => hend listed a w hsz hr hs, fun i hi => ?_⟩
    obtain ⟨h1, o, ho, hedges⟩ := mem_ready.1 hi
    have hi' : i < ops.size := (Array.getElem?_eq_some_iff.1 ho).1
    have hun : listed.getD i false = false := by
      simp only [Array.getD_eq_getD_getElem?] at h1 ⊢
      rw [Array.getElem?_eq_getElem (by omega)] at h1 ⊢; simpa using h1
    obtain ⟨x, hx⟩ : ∃ x, items[i]? = some x := ⟨items[i]'(by omega), by simp⟩
    have hol : ops.toList[i]? = some o := by simpa using ho
    -- what stands before i has been done
    have hanc : ∀ j, ((ancs ops.toList []).getD i 0).testBit j = true → listed.getD j false = true := by
      intro j hj
      obtain ⟨e, he, hb, h2⟩ := ancs_spec' hol hj
      have h3 := hedges e he hb
      rcases h2 with rfl | h2
      · exact h3
      · exact hcl _ j h3 h2
    obtain ⟨xq, xp, q1, q2, hpq, q4, q5, q6, q7⟩ := hX
    have hpast : ∀ j y, j < i → items[j]? = some y → (hits x y = true ∨ hits y x = true) → ¬ (i = q ∧ j = p) → listed.getD j false = true := by
      intro j y hj hy hh hne
      refine hanc j ?_
      have := depsOk_spec hdep i x hx j y (by omega) hy hh
      rw [Nat.zero_add] at this
      rwa [exm_bit hne] at this
    have hfut : ∀ j y, i < j → items[j]? = some y → (hits x y = true ∨ hits y x = true) → ¬ (j = q ∧ i = p) → listed.getD j false = false := by
      intro j y hj hy hh hne
      cases hd : listed.getD j false with
      | false => rfl
      | true =>
        have := depsOk_spec hdep j y hy i x (by omega) hx hh.symm
        rw [Nat.zero_add, exm_bit hne] at this
        rw [hcl j i hd this] at hun; cases hun
    -- p's reads are not written by q
    have hno : ∀ y, items[q]? = some y → i = p → hits y x = false := by
      intro y hy hi2
      subst hi2
      rw [q1] at hy; cases hy
      rw [q2] at hx; cases hx
      exact q4
    -- the view in which i is taken
    have hview : ∃ D : Nat → Bool, (D = (fun j => Nat.blt j i) ∨ (i = q ∧ D = (fun j => Nat.blt j q && !(Nat.beq j p)))) ∧ (∀ j y, items[j]? = some y → hits y x = true → j ≠ i → listed.getD j false = D j) ∧ (∀ j, j = i → listed.getD j false = D j) := by
      by_cases hc : i = q ∧ listed.getD p false = false
      · refine ⟨_, .inr ⟨hc.1, rfl⟩, fun j y hy hh hne => ?_, ?_⟩
        · obtain ⟨hi2, hp2⟩ := hc
          by_cases hjp : j = p
          · subst hjp; rw [hp2]; simp
          · rcases Nat.lt_or_ge j i with h | h
            · rw [hpast j y h hy (.inr hh) (fun g => hjp g.2), (blt_iff _ _).2 (by omega), beq_eq, decide_eq_false hjp]; rfl
            · rw [hfut j y (by omega) hy (.inr hh) (fun g => by omega)]
              have : Nat.blt j q = false := by rw [blt_dec]; exact decide_eq_false (by omega)
              rw [this]; rfl
        · rintro j rfl
          rw [hun]
          have : Nat.blt j q = false := by rw [blt_dec]; exact decide_eq_false (by omega)
          rw [this]; rfl
      · refine ⟨_, .inl rfl, fun j y hy hh hne => ?_, ?_⟩
        · rcases Nat.lt_or_ge j i with h | h
          · rw [(blt_iff _ _).2 h]
            by_cases hq2 : i = q ∧ j = p
            · obtain ⟨g1, g2⟩ := hq2
              subst g2
              cases hl : listed.getD j false with
              | true => rfl
              | false => exact absurd ⟨g1, hl⟩ hc
            · exact hpast j y h hy (.inr hh) hq2
          · have hlt : i < j := by omega
            have hne2 : ¬ (j = q ∧ i = p) := by
              rintro ⟨g1, g2⟩
              subst g1
              rw [hno y hy g2] at hh; cases hh
            rw [hfut j y hlt hy (.inr hh) hne2, blt_dec]; exact (decide_eq_false (by omega)).symm
        · rintro j rfl
          rw [hun, blt_dec]; exact (decide_eq_false (by omega)).symm
    obtain ⟨D, hD1, hsel, hself⟩ := hview
    have hloc : LocalAt Γ ops i (pt D items 0 E0) x.e x.rs x.ro x.nl := by
      rcases hD1 with rfl | ⟨g, rfl⟩
      · exact (hch i x hx).1
      · subst g
        rw [q1] at hx; cases hx
        exact q7
    have hwr : ∀ j y, i < j → items[j]? = some y → hits y x = true → listed.getD j false = false := by
      intro j y hj hy hh
      refine hfut j y hj hy (.inr hh) ?_
      rintro ⟨g1, g2⟩
      subst g1
      rw [hno y hy g2] at hh; cases hh
    have hst := hloc (pt (fun j => listed.getD j false) items 0 E0)
      (fun k hk => pt_lk items 0 E0 E0 (fun j y hy hky => by
        simp only [Nat.zero_add]
        by_cases hji : j = i
        · exact hself j hji
        · exact hsel j y hy (hits_s hky (.inl hk)) hji) rfl)
      (fun l hl => pt_lo items 0 E0 E0 (fun j y hy hky => by
        simp only [Nat.zero_add]
        by_cases hji : j = i
        · exact hself j hji
        · exact hsel j y hy (hits_o hky (.inl hl)) hji) rfl)
      (fun d hd => pt_noLab ((hch i x hx).2 d hd).1 (fun j y hy hD => by
        rcases Nat.lt_trichotomy j i with hlt | heq | hgt
        · exact ((hch i x hx).2 d hd).2 j y hlt hy
        · subst heq; rw [hun] at hD; cases hD
        · cases hsy : says y.e d with
          | false => rfl
          | true =>
            rw [hfut j y hgt hy (.inl (hits_l hd hsy)) (fun g => by
              obtain ⟨_, g2⟩ := g
              subst g2
              rw [q2] at hx; cases hx
              rw [q6] at hd; cases hd)] at hD; cases hD))
    refine wpOp_mono (fun a' w' hs' => ?_) (hst a w hs Q)
    have hset : ∀ j, (listed.setIfInBounds i true).getD j false = (bif Nat.beq i j then true else listed.getD j false) := by
      intro j
      simp only [Array.getD_eq_getD_getElem?, beq_eq]
      by_cases hij : i = j
      · subst hij; simp [hsz, hi']
      · simp [Array.getElem?_setIfInBounds_ne hij, hij]
    refine ih (listed.setIfInBounds i true) a' w' (by simpa using hsz) ?_ ?_ ?_
    · have hlt : ((List.range ops.size).filter fun j => !(listed.setIfInBounds i true).getD j false).length < ((List.range ops.size).filter fun j => !listed.getD j false).length := by
        have e : ((List.range ops.size).filter fun j => !(listed.setIfInBounds i true).getD j false) = ((List.range ops.size).filter fun j => !listed.getD j false).filter (fun j => !Nat.beq i j) := by
          rw [List.filter_filter]
          congr 1; funext j; rw [hset]
          cases Nat.beq i j <;> simp
        rw [e, List.length_filter_lt_length_iff_exists]
        refine ⟨i, ?_, by simp⟩
        rw [List.mem_filter]; exact ⟨List.mem_range.2 hi', by rw [hun]; rfl⟩
      omega
    · intro i' j h2 h3
      rw [hset] at h2 ⊢
      have : listed.getD j false = true := by
        cases hb : Nat.beq i i' with
        | true =>
          have := Nat.eq_of_beq_eq_true hb
          subst this
          exact hanc j h3
        | false => rw [hb] at h2; exact hcl i' j h2 h3
      rw [this]; cases Nat.beq i j <;> rfl
    · refine hs'.congr (fun k => ?_) (fun l => ?_)
      · by_cases hk : k ∈ x.e.s.map (·.1)
        · simp only [Env.app]
          rw [lk_append_of_mem _ _ _ hk]
          refine pt_last items 0 E0 i x hx ?_ hk (fun j' y hj' hy hky => ?_)
          · rw [hset]; simp
          · rw [Nat.zero_add, hset, hwr j' y hj' hy (hits_s hky (.inr hk))]
            rw [beq_eq, decide_eq_false (by omega)]; rfl
        · simp only [Env.app]
          rw [lk_append_of_not_mem _ _ _ hk]
          refine pt_lk items 0 E0 E0 (fun j y hy hky => ?_) rfl
          rw [Nat.zero_add, hset, beq_eq]
          by_cases hij : i = j
          · subst hij; rw [hx] at hy; cases hy; exact absurd hky hk
          · rw [decide_eq_false hij]; rfl
      · by_cases hk : l ∈ x.e.o.map (·.1)
        · simp only [Env.app]
          rw [lo_append_of_mem _ _ _ hk]
          refine pt_lastO items 0 E0 i x hx ?_ hk (fun j' y hj' hy hky => ?_)
          · rw [hset]; simp
          · rw [Nat.zero_add, hset, hwr j' y hj' hy (hits_o hky (.inr hk))]
            rw [beq_eq, decide_eq_false (by omega)]; rfl
        · simp only [Env.app]
          rw [lo_append_of_not_mem _ _ _ hk]
          refine pt_lo items 0 E0 E0 (fun j y hy hky => ?_) rfl
          rw [Nat.zero_add, hset, beq_eq]
          by_cases hij : i = j
          · subst hij; rw [hx] at hy; cases hy; exact absurd hky hk
          · rw [decide_eq_false hij]; rfl

section
variable {P : Program} {N : Nat} {Γ : Ctx P N} {E : Env} {Q : Exit → Env → Prop}
theorem CodeT.regionX (p q : Nat) {id : Nat} {l : List Oper} (hm : P.follows .mixedOrders = true)
    (h : Run Γ l (fun items E' => (depsOk (exm p q (ancs l [])) items items 0 = true ∧ edgesOk l 0 = true ∧ XOk Γ l.toArray items E p q) ∧ Q .normal E') l [] E) : CodeT Γ (.region id l.toArray true) E Q := by
  intro a w hs
  obtain ⟨items, h1, h2, h3, h4⟩ := run_chain (ops := l.toArray) (E0 := E) h [] rfl rfl (by intro i x hx; simp at hx) (by simp [pt])
  refine wp_region_any hm ?_
  refine region_anyX h1 h2 h3.1 h3.2.1 h3.2.2 (fun a w hs => ⟨_, hs, h4⟩) _ _ _ _ (by simp) ?_ ?_ ?_
  · exact Nat.le_trans (List.length_filter_le _ _) (by simp)
  · intro i j hi
    simp [Array.getD_eq_getD_getElem?, Array.getElem?_replicate] at hi
    split at hi <;> simp at hi
  · rw [pt_none _ _ _ _ (fun j => by
      simp [Array.getD_eq_getD_getElem?, Array.getElem?_replicate]
      split <;> simp)]
    obtain ⟨ow, β, hs⟩ := hs
    exact ⟨ow, β, { size := hs.size, defers := hs.defers, kept := ⟨hs.kept.os, hs.kept.output, hs.kept.tape, hs.kept.size, hs.kept.old, hs.kept.ios⟩, slots := hs.slots, objs := hs.objs, gone := hs.gone, own := hs.own, ios := hs.ios, fresh := hs.fresh }⟩
end
end Go.Ev
