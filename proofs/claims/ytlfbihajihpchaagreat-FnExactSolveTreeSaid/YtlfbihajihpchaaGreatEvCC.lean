/- The engine, part CC: values put together from others, values softened. -/
import Derived.Test.YtlfbihajihpchaaGreatEvBB
set_option linter.all false
namespace Go.Ev
open Go.RowKit (Below)
section
variable {P : Program} {N : Nat} {Γ : Ctx P N} {S : List (Nat × Slot)} {O : List (Nat × Option Ob)} {ow : Nat → Own} {β : Nat → Option (Option Nat)} {F : Env} {a : Act} {w : World}
open Classical in
/-- Slot d takes a value whose blocks are no one's or those of the slots ks, which give them up. -/
theorem SimG.gather (h : SimG Γ ow β F a w) {d : Nat} (hd : d < N) (ks : List Nat) {v : PV} {c : Value} {B : List Nat} {dp : Bool} (hv : RelV w.heap β v c B) (hB : ∀ b ∈ B, Im Γ ow w b)
    (hdeep : dp = true → B.Nodup ∧ ∀ b ∈ B, Free w b ∧ Γ.nw b ∧ (ow b = .none ∨ ∃ k ∈ ks, ow b = .slot k)) :
    ∃ ow', SimG Γ ow' β (F.app ⟨(d, ⟨v, dp⟩) :: ks.map (fun j => (j, ⟨.any, false⟩)), []⟩) (a.put (some d) c) w := by
  let ow' : Nat → Own := fun b => if b ∈ B ∧ dp = true then .slot d else ow b
  have hst : ∀ b o, ow b = o → (∀ k ∈ ks, o ≠ .slot k) → o ≠ .none → ow' b = o := by
    intro b o e h1 h2
    show (if _ then _ else _) = _
    rw [if_neg]
    · exact e
    · rintro ⟨hb, hx⟩
      rcases ((hdeep hx).2 b hb).2.2 with e' | ⟨k, hk, e'⟩
      · rw [e] at e'; exact h2 e'
      · rw [e] at e'; exact h1 k hk e'
  have hIm : ∀ b, Im Γ ow w b → Im Γ ow' w b := by
    intro b ⟨h1, h2, h3⟩
    refine ⟨h1, h2, fun l => ?_⟩
    show (if _ then _ else _) ≠ _
    split
    · simp
    · exact h3 l
  refine ⟨ow', { size := by simp [Act.put, h.size], defers := by simp [Act.put, h.defers], kept := h.kept, slots := fun k => ?_, objs := fun l ob hl => ?_, gone := by simpa [Env.app] using h.gone, own := fun b hb => ?_, ios := by simpa [Env.app] using h.ios, fresh := h.fresh }⟩
  · simp only [Env.app, List.cons_append, lk_cons, Act.put]
    by_cases hk : d = k
    · subst hk
      rw [if_pos rfl, getD_put_same (by rw [h.size]; exact hd)]
      exact ⟨B, hv, fun b hb => hIm b (hB b hb), fun hx => ⟨(hdeep hx).1, fun b hb => ⟨by show (if _ then _ else _) = _; rw [if_pos ⟨hb, hx⟩], ((hdeep hx).2 b hb).1⟩⟩⟩
    · rw [if_neg hk, getD_put_ne hk]
      rw [lk_killed]
      by_cases hks : k ∈ ks
      · rw [if_pos hks]; exact ⟨[], by simp [RelV], by simp, by simp⟩
      · rw [if_neg hks]
        obtain ⟨O', g1, g2, g3⟩ := h.slots k
        exact ⟨O', g1, fun b hb => hIm b (g2 b hb), fun hx => ⟨(g3 hx).1, fun b hb => ⟨hst b _ ((g3 hx).2 b hb).1 (fun k' hk' e => by injection e with e; exact hks (e ▸ hk')) (by simp), ((g3 hx).2 b hb).2⟩⟩⟩
  · simp only [Env.app, List.nil_append] at hl
    obtain ⟨O', g1, g2, g3⟩ := h.objs l ob hl
    refine ⟨O', fun b hb => hIm b (g1 b hb), fun hx => ⟨(g2 hx).1, fun b hb => ⟨hst b _ ((g2 hx).2 b hb).1 (by simp) (by simp), ((g2 hx).2 b hb).2⟩⟩, ?_⟩
    rcases g3 with g3 | ⟨b, cs, t, e1, e2, e3, e4⟩
    · exact .inl g3
    · exact .inr ⟨b, cs, t, e1, hst b _ e2 (by simp) (by simp), e3, e4⟩
  · by_cases hbB : b ∈ B ∧ dp = true
    · exact ⟨(hB b hbB.1).1, .inl ((hdeep hbB.2).2 b hbB.1).2.1⟩
    · have e : ow' b = ow b := by show (if _ then _ else _) = _; rw [if_neg hbB]
      rw [e] at hb
      obtain ⟨g1, g2⟩ := h.own b hb
      exact ⟨g1, by rw [e]; exact g2⟩
/-- Object cells softened. -/
theorem Ent.soften {l : Nat} {cells cells' : List PV} {dp bx : Bool} (ho : loq O l = some ⟨cells, dp, bx⟩) (hl : SoftL cells cells') : Ent Γ ⟨S, O⟩ ⟨S, (l, some ⟨cells', dp, bx⟩) :: O⟩ := by
  rintro a w ⟨ow, β, h⟩
  have ho' : lo (Env.mk S O).o l = some ⟨cells, dp, bx⟩ := by rw [← loq_lo]; exact ho
  refine ⟨ow, β, { size := h.size, defers := h.defers, kept := h.kept, slots := h.slots, objs := fun m ob hm => ?_, gone := fun m hm => ?_, own := h.own, ios := fun m b hm hs => ?_, fresh := h.fresh }⟩
  · simp only [lo_cons] at hm
    by_cases hml : l = m
    · subst hml
      rw [if_pos rfl] at hm; cases hm
      obtain ⟨B, o1, o2, o3⟩ := h.objs l _ ho'
      refine ⟨B, o1, o2, o3.imp (fun ⟨e1, e2, e3⟩ => ⟨e1, by simp only at e2 ⊢; subst e2; exact hl.empty, e3⟩) fun ⟨b, cs, t, e1, e2, e3, e4⟩ => ⟨b, cs, t, e1, e2, e3, hl.2 _ _ _ _ _ _ e4⟩⟩
    · rw [if_neg hml] at hm; exact h.objs m ob hm
  · simp only [lo_cons] at hm
    by_cases hml : l = m
    · rw [if_pos hml] at hm; cases hm
    · rw [if_neg hml] at hm; exact h.gone m hm
  · simp only [lo_cons] at hs
    by_cases hml : l = m
    · subst hml; exact h.ios l b hm (by rw [ho']; rfl)
    · rw [if_neg hml] at hs; exact h.ios m b hm hs
/-- A slot's value softened. -/
theorem Ent.softS {k : Nat} {p p' : PV} {dp : Bool} (hk : lkq S k = some ⟨p, dp⟩) (hs : Soft p p') : Ent Γ ⟨S, O⟩ ⟨(k, ⟨p', dp⟩) :: S, O⟩ := by
  rintro a w ⟨ow, β, h⟩
  refine ⟨ow, β, { size := h.size, defers := h.defers, kept := h.kept, slots := fun j => ?_, objs := h.objs, gone := h.gone, own := h.own, ios := h.ios, fresh := h.fresh }⟩
  simp only [lk_cons]
  by_cases hj : k = j
  · subst hj
    rw [if_pos rfl]
    obtain ⟨B, g1, g2, g3⟩ := h.slots k
    simp only [lkq_lk hk] at g1 g3
    exact ⟨B, hs _ _ _ _ g1, g2, g3⟩
  · rw [if_neg hj]; exact h.slots j
variable {d : Nat} {ty : TypeId} {pos : String} {af : Array Edge} {g : Option (Nat × Bool)}
/-- What a rule says, softened. -/
theorem Local.soft {o : Oper} {d : Nat} {p p' : PV} {dp : Bool} {us : List (Nat × Option Ob)} {rs ro nl : List Nat} (hs : Soft p p') (h : Local Γ o ⟨S, O⟩ ⟨[(d, ⟨p, dp⟩)], us⟩ rs ro nl) : Local Γ o ⟨S, O⟩ ⟨[(d, ⟨p', dp⟩)], us⟩ rs ro nl := by
  intro F h1 h2 h3 a w hsim Q
  refine Oper.wp_mono ?_ (h F h1 h2 h3 a w hsim Q)
  rintro a' w' ⟨ow, β, h'⟩
  refine ⟨ow, β, { size := h'.size, defers := h'.defers, kept := h'.kept, slots := fun j => ?_, objs := h'.objs, gone := h'.gone, own := h'.own, ios := h'.ios, fresh := h'.fresh }⟩
  obtain ⟨B, g1, g2, g3⟩ := h'.slots j
  simp only [Env.app, List.cons_append, List.nil_append, lk_cons] at g1 g3 ⊢
  by_cases hj : d = j
  · rw [if_pos hj] at g1 g3 ⊢
    exact ⟨B, hs _ _ _ _ g1, g2, g3⟩
  · rw [if_neg hj] at g1 g3 ⊢
    exact ⟨B, g1, g2, g3⟩
end
end Go.Ev
