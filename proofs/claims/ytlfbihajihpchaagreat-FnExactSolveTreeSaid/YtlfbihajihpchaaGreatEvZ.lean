/- The engine, part Z: an own row put back into another; calls that write rows with rows within. -/
import Derived.Test.YtlfbihajihpchaaGreatEvY
set_option linter.all false
namespace Go.Ev
open Go.RowKit (Below)
section
variable {P : Program} {N : Nat} {Γ : Ctx P N} {S : List (Nat × Slot)} {O : List (Nat × Option Ob)} {ow : Nat → Own} {β : Nat → Option (Option Nat)} {F : Env} {a : Act} {w : World}
/-- An own row is put into another: it gives up its label. -/
theorem Ent.pack (l L c : Nat) {s n : Nat} {cells cs' : List PV} (ho : loq O l = some ⟨cells, true, true⟩) (hL : loq O L = some ⟨cs', true, false⟩) (hc : cells[c]? = some (.ref L s 0 n)) (hne : Nat.beq l L = false) (hio : Γ.io L = none) :
    Ent Γ ⟨S, O⟩ ⟨S, (L, none) :: (l, some ⟨cells.set c (.rw s n cs'), true, true⟩) :: O⟩ := by
  classical
  rintro a w ⟨ow, β, h⟩
  have hne : l ≠ L := by rintro rfl; simp at hne
  have ho' : lo (Env.mk S O).o l = some ⟨cells, true, true⟩ := by rw [← loq_lo]; exact ho
  have hL' : lo (Env.mk S O).o L = some ⟨cs', true, false⟩ := by rw [← loq_lo]; exact hL
  obtain ⟨Ol, o1, o2, o3⟩ := h.objs l _ ho'
  obtain ⟨nd, o2⟩ := o2 rfl
  obtain ⟨OL, u1, u2, u3⟩ := h.objs L _ hL'
  obtain ⟨ndL, u2⟩ := u2 rfl
  rcases o3 with ⟨_, e, _⟩ | ⟨b0, cs, t, p1, p2, p3, p4⟩
  · simp only at e; subst e; simp at hc
  simp only [if_true] at p4
  obtain ⟨v, O1, Oc, O2, q1, q2, q3, q4, q5, rfl⟩ := p4.at hc
  simp only [RelV] at q3
  obtain ⟨rfl, q3n, q3s⟩ := q3
  simp only [List.nil_append] at nd o1 o2 p4
  -- what the row within reads
  have hrow : ∃ (o : Option Nat), β L = some o ∧ RelV w.heap dead (.rw s n cs') v (o.toList ++ OL) ∧ ∀ b, o = some b → ow b = .lab L ∧ Free w b := by
    rcases u3 with ⟨e1, e2, e3⟩ | ⟨b, cs2, t2, e1, e2, e3, e4⟩
    · refine ⟨none, e1, ?_, by simp⟩
      obtain ⟨g1, g2, g3⟩ := q3n e1
      simp only at e2; subst e2; subst e3
      simp only [RelV]
      exact .inl ⟨g1, trivial, by simp, g3⟩
    · refine ⟨some b, e1, ?_, fun b' e => by cases e; exact ⟨e2, _, _, e3⟩⟩
      obtain ⟨cap, cs3, t3, g1, g2, g3, g4⟩ := q3s b e1
      rw [e3] at g2; cases g2
      simp only [RelV]
      exact .inr ⟨b, cap, cs2, t2, OL, ⟨by simpa using g1, g4, by simpa using g3⟩, e3, by simpa using e4, by simp⟩
  obtain ⟨o, hβo, hrel, hob⟩ := hrow
  let ow' : Nat → Own := fun b => if o = some b ∨ b ∈ OL then .obj l else ow b
  let β' : Nat → Option (Option Nat) := fun m => if m = L then none else β m
  have hβ' : ∀ m, m ≠ L → β' m = β m := fun m hm => by show (if _ then _ else _) = _; rw [if_neg hm]
  have hβ'L : β' L = none := by show (if _ then _ else _) = _; rw [if_pos rfl]
  have hmine : ∀ b, (o = some b ∨ b ∈ OL) → ow b = .lab L ∨ ow b = .obj L := fun b hb => hb.elim (fun e => .inl (hob b e).1) (fun e => .inr (u2 b e).1)
  have how1 : ∀ b, (o = some b ∨ b ∈ OL) → ow' b = .obj l := fun b hb => by show (if _ then _ else _) = _; rw [if_pos hb]
  have how2 : ∀ b, ow b ≠ .lab L → ow b ≠ .obj L → ow' b = ow b := by
    intro b h1 h2
    show (if _ then _ else _) = _
    rw [if_neg (fun hb => (hmine b hb).elim h1 h2)]
  have hnolab : ∀ b m, ow b ≠ .lab m → ow' b ≠ .lab m := by
    intro b m hb
    show (if _ then _ else _) ≠ _
    split
    · simp
    · exact hb
  have hIm : ∀ b, Im Γ ow w b → Im Γ ow' w b := fun b ⟨h1, h2, h3⟩ => ⟨h1, h2, fun m => hnolab b m (h3 m)⟩
  have hkeep : ∀ m, KeepB w.heap w.heap β β' m := by
    intro m ob e
    by_cases hm : m = L
    · rw [hm, hβ'L] at e; cases e
    · exact ⟨by rw [hβ' m hm] at e; exact e, fun b _ c t hc => ⟨c, hc, rfl⟩⟩
  have hin : ∀ b, (o = some b ∨ b ∈ OL) → b < w.heap.size ∧ Γ.nw b ∧ Free w b := by
    intro b hb
    have e := hmine b hb
    obtain ⟨g1, g2⟩ := h.own b (by rcases e with e | e <;> rw [e] <;> simp)
    refine ⟨g1, ?_, hb.elim (fun e => (hob b e).2) (fun e => (u2 b e).2)⟩
    rcases g2 with g | ⟨m, g, g'⟩
    · exact g
    · rcases e with e | e <;> rw [e] at g <;> cases g
      rw [hio] at g'; cases g'
  have hO : ∀ b, b ∈ O1 ++ O2 → ow b = .obj l := fun b hb => (o2 b hb).1
  refine ⟨ow', β', { size := h.size, defers := h.defers, kept := h.kept, slots := fun k => ?_, objs := fun m ob hm => ?_, gone := fun m hm => ?_, own := fun b hb => ?_, ios := fun m b hm hs => ?_, fresh := fun m b hm hiom => ?_ }⟩
  · obtain ⟨B, g1, g2, g3⟩ := h.slots k
    refine ⟨B, RelV.keep _ _ _ (fun m _ => hkeep m) (fun _ _ => rfl) g1, fun b hb => hIm b (g2 b hb), fun hd => ⟨(g3 hd).1, fun b hb => ⟨?_, ((g3 hd).2 b hb).2⟩⟩⟩
    have e := ((g3 hd).2 b hb).1
    rw [how2 b (by rw [e]; simp) (by rw [e]; simp)]; exact e
  · simp only [lo_cons] at hm
    by_cases hmL : L = m
    · rw [if_pos hmL] at hm; cases hm
    · rw [if_neg hmL] at hm
      by_cases hml : l = m
      · subst hml
        rw [if_pos rfl] at hm; cases hm
        have hdis : ∀ b, b ∈ o.toList ++ OL → o = some b ∨ b ∈ OL := by
          intro b hb
          rcases List.mem_append.1 hb with hb | hb
          · left; simpa using hb
          · exact .inr hb
        have hno : ∀ b, b ∈ O1 ++ O2 → b ∉ o.toList ++ OL := by
          intro b hb hb'
          rcases hmine b (hdis b hb') with e | e <;> rw [hO b hb] at e
          · cases e
          · injection e with e'; exact hne e'
        have ndO : (o.toList ++ OL).Nodup := by
          refine List.nodup_append.2 ⟨by cases o <;> simp, ndL, fun x hx y hy e => ?_⟩
          subst e
          have e1 := (hob x (by simpa using hx)).1
          rw [(u2 x hy).1] at e1; cases e1
        have nd1 := List.nodup_append.1 nd
        refine ⟨O1 ++ ((o.toList ++ OL) ++ O2), fun b hb => ?_, fun _ => ⟨?_, fun b hb => ?_⟩, .inr ⟨b0, cs, t, by rw [hβ' l hne]; exact p1, ?_, p3, ?_⟩⟩
        · by_cases hb' : b ∈ o.toList ++ OL
          · obtain ⟨g1, g2, _⟩ := hin b (hdis b hb')
            exact ⟨g1, .inr g2, fun m => by rw [how1 b (hdis b hb')]; simp⟩
          · exact hIm b (o1 b (by simp only [List.mem_append] at hb hb' ⊢; rcases hb with hb | hb | hb; exact .inl hb; exact absurd hb hb'; exact .inr hb))
        · refine List.nodup_append.2 ⟨nd1.1, List.nodup_append.2 ⟨ndO, nd1.2.1, fun x hx y hy e => hno y (by simp [hy]) (e ▸ hx)⟩, fun x hx y hy => ?_⟩
          rcases List.mem_append.1 hy with hy | hy
          · intro e; exact hno x (by simp [hx]) (e ▸ hy)
          · exact nd1.2.2 x hx y hy
        · by_cases hb' : b ∈ o.toList ++ OL
          · exact ⟨how1 b (hdis b hb'), (hin b (hdis b hb')).2.2⟩
          · have hb2 : b ∈ O1 ++ O2 := by simp only [List.mem_append] at hb hb' ⊢; rcases hb with hb | hb | hb; exact .inl hb; exact absurd hb hb'; exact .inr hb
            have e := hO b hb2
            refine ⟨?_, (o2 b hb2).2⟩
            show (if _ then _ else _) = _
            rw [if_neg (fun hh => hb' (by rcases hh with hh | hh; · subst hh; simp
                                          simp [hh])), e]
        · rw [how2 b0 (by rw [p2]; intro e; injection e with e'; exact hne e') (by rw [p2]; simp)]; exact p2
        · simp only [if_true]
          refine RelL.put (q := .rw s n cs') (Oc := o.toList ++ OL) hc q1 q2 ?_ (RelL.keep _ _ _ _ (fun _ _ m' _ => hkeep m') (fun _ _ => rfl) q4) (RelL.keep _ _ _ _ (fun _ _ m' _ => hkeep m') (fun _ _ => rfl) q5)
          exact RelV.keep _ _ _ (fun l' hl' => by simp [PV.labs] at hl') (fun _ _ => rfl) hrel
      · rw [if_neg hml] at hm
        obtain ⟨B, g1, g2, g3⟩ := h.objs m ob hm
        refine ⟨B, fun b hb => hIm b (g1 b hb), fun hd => ⟨(g2 hd).1, fun b hb => ⟨?_, ((g2 hd).2 b hb).2⟩⟩, ?_⟩
        · have e := ((g2 hd).2 b hb).1
          rw [how2 b (by rw [e]; simp) (by rw [e]; intro e'; injection e' with e''; exact hmL e''.symm)]; exact e
        · rcases g3 with ⟨e1, e2, e3⟩ | ⟨b, c1, t1, e1, e2, e3, e4⟩
          · exact .inl ⟨by rw [hβ' m (fun e => hmL e.symm)]; exact e1, e2, e3⟩
          · refine .inr ⟨b, c1, t1, by rw [hβ' m (fun e => hmL e.symm)]; exact e1, ?_, e3, ?_⟩
            · rw [how2 b (by rw [e2]; intro e'; injection e' with e''; exact hmL e''.symm) (by rw [e2]; simp)]; exact e2
            · cases hbb : ob.box with
              | false => rw [hbb] at e4; exact e4
              | true => rw [hbb] at e4; exact RelL.keep _ _ _ _ (fun _ _ m' _ => hkeep m') (fun _ _ => rfl) e4
  · simp only [lo_cons] at hm
    by_cases hmL : L = m
    · rw [← hmL]; exact hβ'L
    · rw [if_neg hmL] at hm
      by_cases hml : l = m
      · rw [if_pos hml] at hm; cases hm
      · rw [if_neg hml] at hm; rw [hβ' m (fun e => hmL e.symm)]; exact h.gone m hm
  · rcases Classical.em (o = some b ∨ b ∈ OL) with hb' | hb'
    · exact ⟨(hin b hb').1, .inl (hin b hb').2.1⟩
    · have e : ow' b = ow b := by show (if _ then _ else _) = _; rw [if_neg hb']
      rw [e] at hb
      obtain ⟨g1, g2⟩ := h.own b hb
      exact ⟨g1, by rw [e]; exact g2⟩
  · have hmL : m ≠ L := fun e => by rw [e, hio] at hm; cases hm
    rw [hβ' m hmL]
    refine h.ios m b hm ?_
    simp only [lo_cons] at hs
    rw [if_neg (fun e => hmL e.symm)] at hs
    by_cases hml : l = m
    · subst hml; rw [ho']; rfl
    · rw [if_neg hml] at hs; exact hs
  · by_cases hmL : m = L
    · subst hmL; rw [hβ'L] at hm; cases hm
    · rw [hβ' m hmL] at hm; exact h.fresh m b hm hiom
/-- Cells that hold no own rows need no box. -/
theorem Ent.unbox (l : Nat) {cells : List PV} {dp : Bool} (ho : loq O l = some ⟨cells, dp, true⟩) (hn : noLabs cells = true) : Ent Γ ⟨S, O⟩ ⟨S, (l, some ⟨cells, dp, false⟩) :: O⟩ := by
  rintro a w ⟨ow, β, h⟩
  have ho' : lo (Env.mk S O).o l = some ⟨cells, dp, true⟩ := by rw [← loq_lo]; exact ho
  refine ⟨ow, β, { size := h.size, defers := h.defers, kept := h.kept, slots := h.slots, objs := fun m ob hm => ?_, gone := fun m hm => ?_, own := h.own, ios := fun m b hm hs => ?_, fresh := h.fresh }⟩
  · simp only [lo_cons] at hm
    by_cases hml : l = m
    · subst hml
      rw [if_pos rfl] at hm; cases hm
      obtain ⟨B, o1, o2, o3⟩ := h.objs l _ ho'
      refine ⟨B, o1, o2, o3.imp (fun ⟨e1, e2, e3⟩ => ⟨e1, e2, e3⟩) fun ⟨b, cs, t, e1, e2, e3, e4⟩ => ⟨b, cs, t, e1, e2, e3, ?_⟩⟩
      simp only [if_true] at e4
      simp only [Bool.false_eq_true, if_false]
      exact relL_nolab (noLabs_iff hn) e4
    · rw [if_neg hml] at hm; exact h.objs m ob hm
  · simp only [lo_cons] at hm
    by_cases hml : l = m
    · rw [if_pos hml] at hm; cases hm
    · rw [if_neg hml] at hm; exact h.gone m hm
  · simp only [lo_cons] at hs
    by_cases hml : l = m
    · subst hml; exact h.ios l b hm (by rw [ho']; rfl)
    · rw [if_neg hml] at hs; exact h.ios m b hm hs
end
end Go.Ev
