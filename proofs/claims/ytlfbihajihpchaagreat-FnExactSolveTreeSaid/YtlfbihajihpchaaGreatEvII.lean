/- The engine, part II: laws that write what they have made: parameters that sleep. -/
import Derived.Test.YtlfbihajihpchaaGreatEvHH
set_option linter.all false
namespace Go.Ev
open Go.RowKit (Below)
section
variable {P : Program} {N : Nat} {Γ : Ctx P N} {S : List (Nat × Slot)} {O : List (Nat × Option Ob)} {ow : Nat → Own} {β : Nat → Option (Option Nat)} {F : Env} {a : Act} {w : World}
theorem wz_len : ∀ {a : List Value} {b : List PV}, a.length = b.length → (wz a b).length = b.length
  | [], [], _ => rfl
  | x :: a, y :: b, h => by simp [wz, wz_len (a := a) (b := b) (by simpa using h)]
  | [], _ :: _, h => by simp at h
  | _ :: _, [], h => by simp at h
theorem CodeT.exposeAll {code : Code} {Q : Exit → Env → Prop} (l : Nat) {cells : List PV} {dp bx : Bool} (ho : loq O l = some ⟨cells, dp, bx⟩) (hne : Nat.blt 0 cells.length = true)
    (h : ∀ vs : List Value, vs.length = cells.length → CodeT Γ code ⟨S, (l, some ⟨wz vs cells, dp, bx⟩) :: O⟩ Q) : CodeT Γ code ⟨S, O⟩ Q := by
  rintro a w ⟨ow, β, hs⟩
  have ho' : lo (Env.mk S O).o l = some ⟨cells, dp, bx⟩ := by rw [← loq_lo]; exact ho
  have hne := (blt_iff _ _).1 hne
  obtain ⟨B, o1, o2, o3⟩ := hs.objs l _ ho'
  rcases o3 with ⟨_, e2, _⟩ | ⟨b, cs, t, e1, e2, e3, e4⟩
  · simp only at e2; subst e2; simp at hne
  · have hlen := RelL.length _ _ _ _ (Nat.zero_le _) e4
    simp only [Nat.zero_add] at hlen
    have hvl : (cs.toList.take cells.length).length = cells.length := by rw [List.length_take]; simp; omega
    refine h (cs.toList.take cells.length) hvl a w ⟨ow, β, { size := hs.size, defers := hs.defers, kept := hs.kept, slots := hs.slots, objs := fun m ob hm => ?_, gone := fun m hm => ?_, own := hs.own, ios := fun m b hm hx => ?_, fresh := hs.fresh }⟩
    · simp only [lo_cons] at hm
      by_cases hml : l = m
      · subst hml
        rw [if_pos rfl] at hm; cases hm
        refine ⟨_, o1, o2, .inr ⟨b, cs, t, e1, e2, e3, relL_wz hvl (fun k hk => ?_) e4⟩⟩
        rw [hvl] at hk
        rw [List.getElem?_take, if_pos hk]; simp
      · rw [if_neg hml] at hm; exact hs.objs m ob hm
    · simp only [lo_cons] at hm
      by_cases hml : l = m
      · rw [if_pos hml] at hm; cases hm
      · rw [if_neg hml] at hm; exact hs.gone m hm
    · simp only [lo_cons] at hx
      by_cases hml : l = m
      · subst hml; exact hs.ios l b hm (by rw [ho']; rfl)
      · rw [if_neg hml] at hx; exact hs.ios m b hm hx
def OldL (Γ : Ctx P N) : List Value → List PV → Prop
  | v :: vs, p :: ps => OldF Γ v p ∧ OldL Γ vs ps
  | [], [] => True
  | _, _ => False
theorem OldL.of {Γ : Ctx P N} (hB : ∀ b, Γ.ok b → b < Γ.base → True) : ∀ {ps : List PV} {vs : List Value} {cs : Array Value} {i : Nat} {B : List Nat}, vs.length = ps.length → (∀ k, k < vs.length → cs[i + k]? = vs[k]?) → noLabs ps = true → RelL Γ.w0.heap true dead ps cs i B → (∀ b ∈ B, Γ.ok b ∧ b < Γ.base ∧ (¬ Γ.mine b ∧ ¬ Γ.lent b) ∧ ∀ l, Γ.io l ≠ some b) → OldL Γ vs ps
  | [], [], _, _, _, _, _, _, _, _ => trivial
  | p :: ps, v :: vs, cs, i, B, hl, hk, hn, H, hb => by
    simp only [RelL] at H
    obtain ⟨c, O1, O2, h1, h2, h3, rfl⟩ := H
    have h0 := hk 0 (by simp)
    simp only [Nat.add_zero, List.getElem?_cons_zero] at h0
    rw [h1.1] at h0; injection h0 with h0
    subst h0
    refine ⟨⟨noLabs_iff hn p (by simp), O1, h2, fun b hb' => hb b (by simp [hb'])⟩, ?_⟩
    refine OldL.of hB (by simpa using hl) (fun k hk' => ?_) ?_ h3 (fun b hb' => hb b (by simp [hb']))
    · have := hk (k + 1) (by simpa using hk')
      rw [show i + 1 + k = i + (k + 1) by omega, this]; simp
    · simp only [noLabs, Bool.and_eq_true] at hn; exact hn.2
  | [], _ :: _, _, _, _, hl, _, _, _, _ => by simp at hl
  | _ :: _, [], _, _, _, hl, _, _, _, _ => by simp at hl
/-- A struct that is a parameter: its cells' own values get names. -/
theorem CodeT.openAgg {code : Code} {Q : Exit → Env → Prop} (k : Nat) {c : Value} {cells : List PV} {dp : Bool} (hk : lkq S k = some ⟨.was c (.agg cells), dp⟩) (hf : OldF Γ c (.agg cells)) (hn : noLabs cells = true)
    (h : ∀ vs : List Value, vs.length = cells.length → OldL Γ vs cells → CodeT Γ code ⟨(k, ⟨.agg (wz vs cells), false⟩) :: S, O⟩ Q) : CodeT Γ code ⟨S, O⟩ Q := by
  rintro a w ⟨ow, β, hs⟩
  obtain ⟨hl, B, hB1, hB2⟩ := hf
  simp only [RelV] at hB1
  obtain ⟨cs, rfl, hsz, hrel⟩ := hB1
  have hvl : cs.toList.length = cells.length := by simpa using hsz
  refine h cs.toList hvl (OldL.of (fun _ _ _ => trivial) hvl (fun k hk => by simp) hn hrel hB2) a w ⟨ow, β, { size := hs.size, defers := hs.defers, kept := hs.kept, slots := fun j => ?_, objs := hs.objs, gone := hs.gone, own := hs.own, ios := hs.ios, fresh := hs.fresh }⟩
  simp only [lk_cons]
  by_cases hj : k = j
  · subst hj
    rw [if_pos rfl]
    obtain ⟨B', g1, g2, _⟩ := hs.slots k
    simp only [lkq_lk hk, RelV] at g1
    obtain ⟨e1, cs', e2, e3, e4⟩ := g1
    rw [e1] at e2; injection e2 with e2; subst e2
    refine ⟨B', ?_, g2, by simp⟩
    simp only [RelV]
    rw [e1]
    exact ⟨cs, rfl, by rw [wz_len hvl]; exact e3, relL_wz hvl (fun k hk => by simp) e4⟩
  · rw [if_neg hj]; exact hs.slots j
theorem Ent.sleepO (l : Nat) {ws : List PV} {dp : Bool} (ho : loq O l = some ⟨ws, dp, false⟩) (ha : allWas ws = true) : Ent Γ ⟨S, O⟩ ⟨S, (l, some ⟨ws.map slp, true, false⟩) :: O⟩ := by
  rintro a w ⟨ow, β, h⟩
  have ho' : lo (Env.mk S O).o l = some ⟨ws, dp, false⟩ := by rw [← loq_lo]; exact ho
  refine ⟨ow, β, { size := h.size, defers := h.defers, kept := h.kept, slots := h.slots, objs := fun m ob hm => ?_, gone := fun m hm => ?_, own := h.own, ios := fun m b hm hs => ?_, fresh := h.fresh }⟩
  · simp only [lo_cons] at hm
    by_cases hml : l = m
    · subst hml
      rw [if_pos rfl] at hm; cases hm
      obtain ⟨B, o1, o2, o3⟩ := h.objs l _ ho'
      refine ⟨[], by simp, by simp, ?_⟩
      rcases o3 with ⟨e1, e2, _⟩ | ⟨b, cs, t, e1, e2, e3, e4⟩
      · simp only at e2; subst e2; exact .inl ⟨e1, rfl, rfl⟩
      · exact .inr ⟨b, cs, t, e1, e2, e3, forgL ha e4⟩
    · rw [if_neg hml] at hm; exact h.objs m ob hm
  · simp only [lo_cons] at hm
    by_cases hml : l = m
    · rw [if_pos hml] at hm; cases hm
    · rw [if_neg hml] at hm; exact h.gone m hm
  · simp only [lo_cons] at hs
    by_cases hml : l = m
    · subst hml; exact h.ios l b hm (by rw [ho']; rfl)
    · rw [if_neg hml] at hs; exact h.ios m b hm hs
theorem OldL.wake {ow : Nat → Own} {β : Nat → Option (Option Nat)} {E : Env} {a : Act} {w : World} (h : SimG Γ ow β E a w) : ∀ {vs : List Value} {ps : List PV} {cs : Array Value} {i : Nat}, OldL Γ vs ps → RelL w.heap true dead (vs.map .sc) cs i [] → ∃ B, RelL w.heap true dead (wz vs ps) cs i B ∧ ∀ b ∈ B, Im Γ ow w b
  | [], [], cs, i, _, _ => ⟨[], by simp [wz, RelL], by simp⟩
  | v :: vs, p :: ps, cs, i, ho, H => by
    obtain ⟨⟨hl, B1, hB1, hB2⟩, ho⟩ := ho
    simp only [List.map_cons, RelL, RelV] at H
    obtain ⟨c, O1, O2, h1, ⟨h2, rfl⟩, h3, h4⟩ := H
    have : O2 = [] := by simpa using h4.symm
    subst this
    obtain ⟨B2, g1, g2⟩ := OldL.wake h ho h3
    refine ⟨B1 ++ B2, ?_, fun b hb => ?_⟩
    · simp only [wz, RelL, RelV]
      refine ⟨c, B1, B2, h1, ⟨h2, ?_⟩, g1, rfl⟩
      rw [h2]
      exact RelV.keep _ _ _ (fun l hl' => by rw [hl] at hl'; cases hl') (fun b hb => by obtain ⟨_, e2, e3, e4⟩ := hB2 b hb; exact h.kept.old b e2 e4 e3.1) hB1
    · rcases List.mem_append.1 hb with hb | hb
      · obtain ⟨e1, e2, e3, e4⟩ := hB2 b hb
        refine ⟨Nat.lt_of_lt_of_le e2 h.kept.size, .inl e1, fun l e => ?_⟩
        rcases (h.own b (by rw [e]; simp)).2 with g | ⟨m, _, g⟩
        · rcases g with (g | g) | g
          · omega
          · exact e3.1 g
          · exact e3.2 g
        · exact e4 m g
      · exact g2 b hb
  | [], _ :: _, _, _, ho, _ => ho.elim
  | _ :: _, [], _, _, ho, _ => ho.elim
theorem Ent.wakeO (l : Nat) {vs : List Value} {cells : List PV} {dp : Bool} (ho : loq O l = some ⟨vs.map .sc, dp, false⟩) (hf : OldL Γ vs cells) : Ent Γ ⟨S, O⟩ ⟨S, (l, some ⟨wz vs cells, false, false⟩) :: O⟩ := by
  rintro a w ⟨ow, β, h⟩
  have ho' : lo (Env.mk S O).o l = some ⟨vs.map .sc, dp, false⟩ := by rw [← loq_lo]; exact ho
  refine ⟨ow, β, { size := h.size, defers := h.defers, kept := h.kept, slots := h.slots, objs := fun m ob hm => ?_, gone := fun m hm => ?_, own := h.own, ios := fun m b hm hs => ?_, fresh := h.fresh }⟩
  · simp only [lo_cons] at hm
    by_cases hml : l = m
    · subst hml
      rw [if_pos rfl] at hm; cases hm
      obtain ⟨B, o1, o2, o3⟩ := h.objs l _ ho'
      rcases o3 with ⟨e1, e2, _⟩ | ⟨b, cs, t, e1, e2, e3, e4⟩
      · have : vs = [] := by simpa using e2
        subst this
        cases cells with
        | nil => exact ⟨[], (fun _ h => by cases h), (fun h => by cases h), .inl ⟨e1, rfl, rfl⟩⟩
        | cons p r => exact hf.elim
      · simp only [Bool.false_eq_true, if_false] at e4
        have hB : B = [] := by
          have : ∀ (vs : List Value) (i : Nat) (B : List Nat), RelL w.heap true dead (vs.map .sc) cs i B → B = [] := by
            intro vs
            induction vs with
            | nil => intro i B H; simpa [RelL] using H
            | cons v vs ih =>
              intro i B H
              simp only [List.map_cons, RelL, RelV] at H
              obtain ⟨_, _, _, _, ⟨_, rfl⟩, h3, rfl⟩ := H
              rw [ih _ _ h3]
          exact this _ _ _ e4
        subst hB
        obtain ⟨B2, g1, g2⟩ := OldL.wake h hf e4
        exact ⟨B2, g2, (fun h => by cases h), .inr ⟨b, cs, t, e1, e2, e3, by simpa using g1⟩⟩
    · rw [if_neg hml] at hm; exact h.objs m ob hm
  · simp only [lo_cons] at hm
    by_cases hml : l = m
    · rw [if_pos hml] at hm; cases hm
    · rw [if_neg hml] at hm; exact h.gone m hm
  · simp only [lo_cons] at hs
    by_cases hml : l = m
    · subst hml; exact h.ios l b hm (by rw [ho']; rfl)
    · rw [if_neg hml] at hs; exact h.ios m b hm hs
end
end Go.Ev
