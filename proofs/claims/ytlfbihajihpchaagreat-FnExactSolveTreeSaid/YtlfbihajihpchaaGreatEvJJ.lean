/- The engine, part JJ: rows that become values as they are made. -/
import Derived.Test.YtlfbihajihpchaaGreatEvII
set_option linter.all false
namespace Go.Ev
open Go.RowKit (Below)
section
variable {P : Program} {N : Nat} {Γ : Ctx P N} {S : List (Nat × Slot)} {O : List (Nat × Option Ob)} {ow : Nat → Own} {β : Nat → Option (Option Nat)} {F : Env} {a : Act} {w : World}
/-- An own row becomes a value of the slot that speaks of it. -/
theorem Ent.freezeW {k l s n : Nat} {cells : List PV} {dp dp0 : Bool} (hk : lkq S k = some ⟨.ref l s 0 n, dp0⟩) (ho : loq O l = some ⟨cells, dp, false⟩) (hio : Γ.io l = none) (hN : Nat.blt k N = true) :
    Ent Γ ⟨S, O⟩ ⟨(k, ⟨.rw s n cells, dp⟩) :: S, (l, none) :: O⟩ := by
  rintro a w ⟨ow, β, h⟩
  obtain ⟨B, h1, _, _⟩ := h.slots k
  rw [lkq_lk hk] at h1
  simp only [RelV] at h1
  have ho' : lo (Env.mk S O).o l = some ⟨cells, dp, false⟩ := by rw [← loq_lo]; exact ho
  obtain ⟨Bo, o1, o2, hob⟩ := h.objs l _ ho'
  have hkN := (blt_iff _ _).1 hN
  rcases hob with ⟨p1, p2, p3⟩ | ⟨b, cs, t, p1, p2, p3, p4⟩
  · obtain ⟨rfl, _, e⟩ := h1.2.1 p1
    simp only at p2; subst p2; subst p3
    obtain ⟨ow', h'⟩ := h.toSlot ho' hio hkN (v := .rw s 0 []) (c := a.tmps.getD k undef) (B := []) (dp := dp) (by simp only [RelV]; exact .inl ⟨trivial, trivial, trivial, e⟩) (by simp) (by simp) rfl
    rw [put_same] at h'
    exact ⟨_, _, h'⟩
  · obtain ⟨cap, cs', t', q1, q2, q3, q4⟩ := h1.2.2 b p1
    simp only [Nat.zero_mul] at q1
    rw [p3] at q2; cases q2
    obtain ⟨ow', h'⟩ := h.toSlot ho' hio hkN (v := .rw s n cells) (c := a.tmps.getD k undef) (B := b :: Bo) (dp := dp) (by
        simp only [RelV]; exact .inr ⟨b, cap, cs, t, Bo, ⟨q1, q4, by simpa using q3⟩, p3, p4, rfl⟩) (fun c hc => by
        rcases List.mem_cons.1 hc with rfl | hc
        · exact .inr p2
        · exact .inl (o1 c hc)) (fun hx => by
        obtain ⟨e1, e2⟩ := o2 hx
        refine ⟨List.nodup_cons.2 ⟨fun hb => (by have := (e2 b hb).1; rw [p2] at this; cases this), e1⟩, fun c hc => ?_⟩
        rcases List.mem_cons.1 hc with rfl | hc
        · exact ⟨.inr p2, _, _, p3⟩
        · exact ⟨.inl (e2 c hc).1, (e2 c hc).2⟩) rfl
    rw [put_same] at h'
    exact ⟨_, _, h'⟩
theorem lkq_app {s S : List (Nat × Slot)} {k : Nat} {v : Slot} (h : lkq s k = some v) : lkq (s ++ S) k = some v := by
  induction s with
  | nil => cases h
  | cons x r ih =>
    obtain ⟨j, u⟩ := x
    simp only [lkq, List.cons_append] at h ⊢
    cases hb : Nat.beq j k with
    | true => rw [hb] at h; exact h
    | false => rw [hb] at h; exact ih h
theorem loq_app {s S : List (Nat × Option Ob)} {k : Nat} {v : Ob} (h : loq s k = some v) : loq (s ++ S) k = some v := by
  induction s with
  | nil => cases h
  | cons x r ih =>
    obtain ⟨j, u⟩ := x
    simp only [loq, List.cons_append] at h ⊢
    cases hb : Nat.beq j k with
    | true => rw [hb] at h; exact h
    | false => rw [hb] at h; exact ih h
/-- A rule that makes an own row: the row is a value at once. -/
theorem Local.frz {o : Oper} {ss : List (Nat × Slot)} {us : List (Nat × Option Ob)} {rs ro nl : List Nat} (k : Nat) {l s n : Nat} {cells : List PV} {dp dp0 : Bool} (h : Local Γ o ⟨S, O⟩ ⟨ss, us⟩ rs ro nl) (hk : lkq ss k = some ⟨.ref l s 0 n, dp0⟩) (ho : loq us l = some ⟨cells, dp, false⟩)
    (hio : Γ.io l = none) (hN : Nat.blt k N = true) : Local Γ o ⟨S, O⟩ ⟨(k, ⟨.rw s n cells, dp⟩) :: ss, (l, none) :: us⟩ rs ro nl := by
  intro F h1 h2 h3 a w hsim Q
  exact Oper.wp_mono (fun a' w' h' => Ent.freezeW (lkq_app hk) (loq_app ho) hio hN a' w' h') (h F h1 h2 h3 a w hsim Q)
end
end Go.Ev
