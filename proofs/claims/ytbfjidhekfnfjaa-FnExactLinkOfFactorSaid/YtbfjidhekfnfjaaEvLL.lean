/- The engine, part LL: rows that grow within a struct. -/
import Derived.Test.YtbfjidhekfnfjaaEvKK
set_option linter.all false
namespace Go.Ev
open Go.RowKit (Below)
section
variable {P : Program} {N : Nat} {Γ : Ctx P N} {S : List (Nat × Slot)} {O : List (Nat × Option Ob)}
/-- A nil field of an own struct gets a label. -/
theorem Ent.nilCell (l L c s : Nat) {cells : List PV} {dp : Bool} (ho : loq O l = some ⟨cells, dp, true⟩) (hc : cells[c]? = some (.sc (.slice none 0 0))) (hL : says ⟨S, O⟩ L = false) (hne : Nat.beq l L = false) (hio : Γ.io L = none) :
    Ent Γ ⟨S, O⟩ ⟨S, (l, some ⟨cells.set c (.ref L s 0 0), dp, true⟩) :: (L, some ⟨[], true, false⟩) :: O⟩ := by
  rintro a w ⟨ow, β, h⟩
  have hnl := NoLab.of_says hL
  have hne : L ≠ l := by rintro rfl; simp at hne
  obtain ⟨ow', h'⟩ := h.layNil hnl hio [] [] true false
  have h2 : SimG Γ ow' (fun m => if m = L then some none else if m ∈ ([] : List Nat) then none else β m) ⟨S, (L, some ⟨[], true, false⟩) :: O⟩ a w := h'.congr (fun _ => rfl) (fun _ => rfl)
  have ho2 : loq ((L, some ⟨[], true, false⟩) :: O) l = some ⟨cells, dp, true⟩ := by
    simp only [loq, beq_eq, hne, decide_false, cond_false]; exact ho
  refine ⟨ow', _, h2.recell ho2 (by rintro rfl; simp at hc) fun cs B H => ?_⟩
  simp only [if_true] at H ⊢
  obtain ⟨v, O1, Oc, O2, q1, q2, q3, q4, q5, rfl⟩ := H.at hc
  simp only [RelV] at q3
  obtain ⟨q3, rfl⟩ := q3
  exact RelL.put hc q1 q2 (by simp only [RelV, if_true]; exact ⟨trivial, fun _ => ⟨trivial, trivial, q3⟩, fun b e => by simp at e⟩) q4 q5
/-- A row of one's own within a struct of one's own is a value again, which may be shared. -/
theorem Ent.packS (l L c : Nat) {s n : Nat} {cells cs' : List PV} {dl dL : Bool} (ho : loq O l = some ⟨cells, dl, true⟩) (hL : loq O L = some ⟨cs', dL, false⟩) (hc : cells[c]? = some (.ref L s 0 n)) (hne : Nat.beq l L = false) (hio : Γ.io L = none) :
    Ent Γ ⟨S, O⟩ ⟨S, (L, none) :: (l, some ⟨cells.set c (.sl n cs'), false, true⟩) :: O⟩ := by
  classical
  rintro a w ⟨ow, β, h⟩
  have hne : l ≠ L := by rintro rfl; simp at hne
  have ho' : lo (Env.mk S O).o l = some ⟨cells, dl, true⟩ := by rw [← loq_lo]; exact ho
  have hL' : lo (Env.mk S O).o L = some ⟨cs', dL, false⟩ := by rw [← loq_lo]; exact hL
  obtain ⟨Ol, o1, o2, o3⟩ := h.objs l _ ho'
  obtain ⟨OL, u1, u2, u3⟩ := h.objs L _ hL'
  rcases o3 with ⟨_, e, _⟩ | ⟨b0, cs, t, p1, p2, p3, p4⟩
  · simp only at e; subst e; simp at hc
  simp only [if_true] at p4
  obtain ⟨v, O1, Oc, O2, q1, q2, q3, q4, q5, rfl⟩ := p4.at hc
  simp only [RelV] at q3
  obtain ⟨rfl, q3n, q3s⟩ := q3
  have hrow : ∃ (o : Option Nat), β L = some o ∧ RelV w.heap dead (.sl n cs') v (o.toList ++ OL) ∧ ∀ b, o = some b → ow b = .lab L ∧ b < w.heap.size ∧ Γ.nw b := by
    rcases u3 with ⟨e1, e2, e3⟩ | ⟨b, cs2, t2, e1, e2, e3, e4⟩
    · refine ⟨none, e1, ?_, by simp⟩
      obtain ⟨g1, g2, g3⟩ := q3n e1
      simp only at e2; subst e2; subst e3
      simp only [RelV]
      exact .inl ⟨g1, trivial, by simp, none, 0, g3⟩
    · refine ⟨some b, e1, ?_, fun b' e => by cases e; exact ⟨e2, h.block_lt e1, .inl (h.fresh L b e1 hio)⟩⟩
      obtain ⟨cap, cs3, t3, g1, g2, g3, g4⟩ := q3s b e1
      rw [e3] at g2; cases g2
      simp only [RelV]
      exact .inr ⟨b, 0, cap, cs2, t2, (0, 0), OL, ⟨by simpa using g1, g4⟩, e3, by simpa using e4, by simp⟩
  obtain ⟨o, hβo, hrel, hob⟩ := hrow
  let ow' : Nat → Own := fun b => match ow b with
    | .lab m => if m = L then .none else .lab m
    | .obj m => if m = L then .none else .obj m
    | x => x
  let β' : Nat → Option (Option Nat) := fun m => if m = L then none else β m
  have hβ' : ∀ m, m ≠ L → β' m = β m := fun m hm => by show (if _ then _ else _) = _; rw [if_neg hm]
  have hβ'L : β' L = none := by show (if _ then _ else _) = _; rw [if_pos rfl]
  have hlab : ∀ b m, ow' b = .lab m → ow b = .lab m ∧ m ≠ L := by
    intro b m e
    have e : (match ow b with | .lab m => if m = L then Own.none else .lab m | .obj m => if m = L then .none else .obj m | x => x) = .lab m := e
    cases hx : ow b with
    | lab m' =>
      rw [hx] at e; simp only at e
      split at e
      · cases e
      · rename_i hm; cases e; exact ⟨rfl, hm⟩
    | obj m' => rw [hx] at e; simp only at e; split at e <;> cases e
    | slot k => rw [hx] at e; cases e
    | none => rw [hx] at e; cases e
  have hkeepow : ∀ b x, ow b = x → x ≠ .lab L → x ≠ .obj L → ow' b = x := by
    intro b x e h1 h2
    show (match ow b with | .lab m => if m = L then Own.none else .lab m | .obj m => if m = L then .none else .obj m | x => x) = x
    rw [e]
    cases x with
    | lab m => simp only; rw [if_neg (fun e => h1 (by rw [e]))]
    | obj m => simp only; rw [if_neg (fun e => h2 (by rw [e]))]
    | slot k => rfl
    | none => rfl
  have hIm : ∀ b, Im Γ ow w b → Im Γ ow' w b := fun b ⟨h1, h2, h3⟩ => ⟨h1, h2, fun m e => h3 m (hlab b m e).1⟩
  have hkeep : ∀ m, KeepB w.heap w.heap β β' m := by
    intro m ob e
    by_cases hm : m = L
    · rw [hm, hβ'L] at e; cases e
    · rw [hβ' m hm] at e; exact ⟨e, fun b _ c t hc => ⟨c, hc, rfl⟩⟩
  refine ⟨ow', β', { size := h.size, defers := h.defers, kept := h.kept, slots := fun k => ?_, objs := fun m ob hm => ?_, gone := fun m hm => ?_, own := fun b hb => ?_, ios := fun m b hm hs => ?_, fresh := fun m b hm hi => ?_ }⟩
  · obtain ⟨B, g1, g2, g3⟩ := h.slots k
    exact ⟨B, RelV.keep _ _ _ (fun m _ => hkeep m) (fun _ _ => rfl) g1, fun b hb => hIm b (g2 b hb), fun hd => ⟨(g3 hd).1, fun b hb => ⟨hkeepow b _ ((g3 hd).2 b hb).1 (by simp) (by simp), ((g3 hd).2 b hb).2⟩⟩⟩
  · simp only [lo_cons] at hm
    by_cases hmL : L = m
    · rw [if_pos hmL] at hm; cases hm
    · rw [if_neg hmL] at hm
      by_cases hml : l = m
      · subst hml
        rw [if_pos rfl] at hm; cases hm
        refine ⟨O1 ++ ((o.toList ++ OL) ++ O2), fun b hb => ?_, (fun h => by cases h), .inr ⟨b0, cs, t, by rw [hβ' l hne]; exact p1, hkeepow b0 _ p2 (fun e => by injection e with e; exact hne e) (by simp), p3, ?_⟩⟩
        · simp only [List.mem_append] at hb
          rcases hb with hb | (hb | hb) | hb
          · exact hIm b (o1 b (by simp [hb]))
          · have e : o = some b := by simpa using hb
            obtain ⟨g1, g2, g3⟩ := hob b e
            refine ⟨g2, .inr g3, fun m e' => ?_⟩
            obtain ⟨e1, e2⟩ := hlab b m e'
            rw [g1] at e1; injection e1 with e1; exact e2 e1.symm
          · exact hIm b (u1 b hb)
          · exact hIm b (o1 b (by simp [hb]))
        · simp only [if_true]
          refine RelL.put hc q1 q2 (RelV.nolab rfl hrel) ?_ ?_
          · exact RelL.keep _ _ _ _ (fun _ _ m _ => hkeep m) (fun _ _ => rfl) q4
          · exact RelL.keep _ _ _ _ (fun _ _ m _ => hkeep m) (fun _ _ => rfl) q5
      · rw [if_neg hml] at hm
        obtain ⟨B, g1, g2, g3⟩ := h.objs m ob hm
        refine ⟨B, fun b hb => hIm b (g1 b hb), fun hd => ⟨(g2 hd).1, fun b hb => ⟨hkeepow b _ ((g2 hd).2 b hb).1 (by simp) (fun e => by injection e with e; exact hmL e.symm), ((g2 hd).2 b hb).2⟩⟩, ?_⟩
        rcases g3 with ⟨e1, e2, e3⟩ | ⟨b, c1, t1, e1, e2, e3, e4⟩
        · exact .inl ⟨by rw [hβ' m (fun e => hmL e.symm)]; exact e1, e2, e3⟩
        · refine .inr ⟨b, c1, t1, by rw [hβ' m (fun e => hmL e.symm)]; exact e1, hkeepow b _ e2 (fun e => by injection e with e; exact hmL e.symm) (by simp), e3, ?_⟩
          cases hbb : ob.box with
          | false => rw [hbb] at e4; exact e4
          | true => rw [hbb] at e4; exact RelL.keep _ _ _ _ (fun _ _ m' _ => hkeep m') (fun _ _ => rfl) e4
  · simp only [lo_cons] at hm
    by_cases hmL : L = m
    · rw [← hmL]; exact hβ'L
    · rw [if_neg hmL] at hm
      by_cases hml : l = m
      · rw [if_pos hml] at hm; cases hm
      · rw [if_neg hml] at hm; rw [hβ' m (fun e => hmL e.symm)]; exact h.gone m hm
  · have hb0 : ow b ≠ .none := by
      intro e; apply hb
      show (match ow b with | .lab m => if m = L then Own.none else .lab m | .obj m => if m = L then .none else .obj m | x => x) = _
      rw [e]
    obtain ⟨g1, g2⟩ := h.own b hb0
    refine ⟨g1, g2.imp id fun ⟨m, g3, g4⟩ => ⟨m, hkeepow b _ g3 (fun e => by injection e with e; subst e; rw [hio] at g4; cases g4) (by simp), g4⟩⟩
  · have hmL : m ≠ L := fun e => by rw [e, hio] at hm; cases hm
    rw [hβ' m hmL]
    refine h.ios m b hm ?_
    simp only [lo_cons] at hs
    rw [if_neg (fun e => hmL e.symm)] at hs
    by_cases hml : l = m
    · subst hml; rw [ho']; rfl
    · rw [if_neg hml] at hs; exact hs
  · by_cases hmL : m = L
    · subst hmL; rw [hβ'L] at hm; cases hm
    · rw [hβ' m hmL] at hm; exact h.fresh m b hm hi
/-- A row's length within a struct, spelled anew. -/
theorem Ent.relenO (l c : Nat) {L s0 n n' : Nat} {cells : List PV} {dp bx : Bool} (ho : loq O l = some ⟨cells, dp, bx⟩) (hc : cells[c]? = some (.ref L s0 0 n)) (hn : n = n') : Ent Γ ⟨S, O⟩ ⟨S, (l, some ⟨cells.set c (.ref L s0 0 n'), dp, bx⟩) :: O⟩ := by
  subst hn
  have e : cells.set c (.ref L s0 0 n) = cells := by
    have hl := (List.getElem?_eq_some_iff.1 hc)
    rw [← hl.2]; exact List.set_getElem_self hl.1
  rw [e]
  exact Ent.soften ho (SoftL.refl _)
end
end Go.Ev
