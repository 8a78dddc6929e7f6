/- The engine, part H: an environment is made weaker: what is no longer wanted is dropped, own blocks get other names. -/
import Derived.Test.YtlfbihajihpchaaGreatEvG
set_option linter.all false
namespace Go.Ev
open Go.RowKit (Below)

def rn : List (Nat × Nat) → Nat → Nat
  | [], l => l
  | (a, b) :: r, l => bif Nat.beq a l then b else rn r l
mutual
def renV' (ρ : List (Nat × Nat)) : PV → PV
  | .ref l s off n => .ref (rn ρ l) s off n
  | .ptr l k => .ptr (rn ρ l) k
  | .agg cells => .agg (renL' ρ cells)
  | .tup vs => .tup (renL' ρ vs)
  | .was v p => .was v (renV' ρ p)
  | p => p
def renL' (ρ : List (Nat × Nat)) : List PV → List PV
  | [] => []
  | p :: ps => renV' ρ p :: renL' ρ ps
end
def renV : List (Nat × Nat) → PV → PV
  | [], p => p
  | x :: r, p => renV' (x :: r) p
def renL : List (Nat × Nat) → List PV → List PV
  | [], ps => ps
  | x :: r, ps => renL' (x :: r) ps
/-- Each listed slot of the weaker environment is one of the stronger (its own blocks by their elder names). -/
def EntS (ρ : List (Nat × Nat)) (S : List (Nat × Slot)) : List (Nat × Slot) → Prop
  | [] => True
  | (k, sl) :: r => (∃ dp, lkq S k = some ⟨renV ρ sl.v, dp⟩ ∧ (sl.deep = true → dp = true)) ∧ EntS ρ S r
def EntO (ρ : List (Nat × Nat)) (O : List (Nat × Option Ob)) : List (Nat × Option Ob) → Prop
  | [] => True
  | (_, none) :: r => EntO ρ O r
  | (l, some ob) :: r => (∃ dp, loq O (rn ρ l) = some ⟨if ob.box then renL ρ ob.cells else ob.cells, dp, ob.box⟩ ∧ (ob.deep = true → dp = true)) ∧ EntO ρ O r
def keysB : List (Nat × Option Ob) → List Nat
  | [] => []
  | (l, _) :: r => l :: keysB r
/-- no two of these own blocks are one -/
def injB (ρ : List (Nat × Nat)) : List Nat → Bool
  | [] => true
  | l :: r => !(memB (r.map (rn ρ)) (rn ρ l)) && injB ρ r

theorem EntS.get {ρ : List (Nat × Nat)} {S : List (Nat × Slot)} : ∀ {S' : List (Nat × Slot)}, EntS ρ S S' → ∀ k, lkq S' k = none ∨ ∃ sl dp, lkq S' k = some sl ∧ lk S k = ⟨renV ρ sl.v, dp⟩ ∧ (sl.deep = true → dp = true)
  | [], _, k => .inl rfl
  | (j, sl) :: r, h, k => by
    obtain ⟨⟨dp, h1, h2⟩, h3⟩ := h
    by_cases hj : j = k
    · subst hj; exact .inr ⟨sl, dp, by simp [lkq], lkq_lk h1, h2⟩
    · have e : lkq ((j, sl) :: r) k = lkq r k := by simp [lkq, beq_eq, hj]
      rw [e]; exact EntS.get h3 k
theorem lkq_none {s : List (Nat × Slot)} {k : Nat} (h : lkq s k = none) : lk s k = ⟨.any, false⟩ := by
  induction s with
  | nil => rfl
  | cons x r ih =>
    obtain ⟨j, u⟩ := x
    simp only [lkq, beq_eq] at h
    rw [lk_cons]
    by_cases hj : j = k
    · simp [hj] at h
    · rw [if_neg hj]; simp [hj] at h; exact ih h
theorem EntO.get {ρ : List (Nat × Nat)} {O : List (Nat × Option Ob)} : ∀ {O' : List (Nat × Option Ob)}, EntO ρ O O' → ∀ l ob, lo O' l = some ob → l ∈ keysB O' ∧ ∃ dp, lo O (rn ρ l) = some ⟨if ob.box then renL ρ ob.cells else ob.cells, dp, ob.box⟩ ∧ (ob.deep = true → dp = true)
  | [], _, l, ob, hl => by simp [lo] at hl
  | (j, none) :: r, h, l, ob, hl => by
    rw [lo_cons] at hl
    by_cases hj : j = l
    · rw [if_pos hj] at hl; cases hl
    · rw [if_neg hj] at hl
      obtain ⟨h1, h2⟩ := EntO.get (O' := r) h l ob hl
      exact ⟨by simp [keysB, h1], h2⟩
  | (j, some o) :: r, h, l, ob, hl => by
    rw [lo_cons] at hl
    obtain ⟨⟨dp, h1, h2⟩, h3⟩ := h
    by_cases hj : j = l
    · subst hj; rw [if_pos rfl] at hl; cases hl
      exact ⟨by simp [keysB], dp, by rw [← loq_lo]; exact h1, h2⟩
    · rw [if_neg hj] at hl
      obtain ⟨g1, g2⟩ := EntO.get h3 l ob hl
      exact ⟨by simp [keysB, g1], g2⟩
theorem injB_spec {ρ : List (Nat × Nat)} : ∀ {ls : List Nat}, injB ρ ls = true → ∀ a ∈ ls, ∀ b ∈ ls, rn ρ a = rn ρ b → a = b
  | [], _, a, ha => by cases ha
  | l :: r, h, a, ha => by
    intro b hb e
    simp only [injB, Bool.and_eq_true, Bool.not_eq_true'] at h
    have hn : ∀ x ∈ r, rn ρ x ≠ rn ρ l := by
      intro x hx ex
      have : memB (r.map (rn ρ)) (rn ρ l) = true := (memB_iff _ _).2 (List.mem_map.2 ⟨x, hx, ex⟩)
      rw [this] at h; cases h.1
    rcases List.mem_cons.1 ha with ha' | ha' <;> rcases List.mem_cons.1 hb with hb' | hb'
    · rw [ha', hb']
    · subst ha'; exact absurd e.symm (hn b hb')
    · subst hb'; exact absurd e (hn a ha')
    · exact injB_spec h.2 a ha' b hb' e

section
variable {P : Program} {N : Nat} {Γ : Ctx P N}

theorem renL_nil {ρ : List (Nat × Nat)} {ps : List PV} (h : renL ρ ps = []) : ps = [] := by
  cases ρ with
  | nil => exact h
  | cons x r => cases ps with
    | nil => rfl
    | cons p q => simp [renL, renL'] at h
mutual
theorem relV_ren' {h : Array Obj} {β β' : Nat → Option (Option Nat)} {ρ : List (Nat × Nat)} (hb : ∀ l o, β' l = some o → β (rn ρ l) = some o) : ∀ (p : PV) {c : Value} {B : List Nat}, RelV h β (renV' ρ p) c B → RelV h β' p c B
  | .ref l s off n, c, B, H => by
    simp only [renV', RelV] at H ⊢
    exact ⟨H.1, fun e => H.2.1 (hb _ _ e), fun b e => H.2.2 b (hb _ _ e)⟩
  | .ptr l k, c, B, H => by
    simp only [renV', RelV] at H ⊢
    exact ⟨H.1, fun b e => H.2 b (hb _ _ e)⟩
  | .sc _, _, _, H => by simpa only [renV', RelV] using H
  | .sl _ _, _, _, H => by simpa only [renV', RelV] using H
  | .iptr _, _, _, H => by simpa only [renV', RelV] using H
  | .rw _ _ _, _, _, H => by simpa only [renV', RelV] using H
  | .agg cells, _, _, H => by
    simp only [renV', RelV] at H ⊢
    obtain ⟨cs, h1, h2, h3⟩ := H
    exact ⟨cs, h1, by rw [h2]; exact renL_len cells, relL_ren' hb cells h3⟩
  | .tup vs, _, _, H => by
    simp only [renV', RelV] at H ⊢
    obtain ⟨cs, h1, h2, h3⟩ := H
    exact ⟨cs, h1, by rw [h2]; exact renL_len vs, relL_ren' hb vs h3⟩
  | .any, _, _, H => by simpa only [renV', RelV] using H
  | .was v p, _, _, H => by
    simp only [renV', RelV] at H ⊢
    exact ⟨H.1, relV_ren' hb p H.2⟩
theorem renL_len {ρ : List (Nat × Nat)} : ∀ (ps : List PV), (renL' ρ ps).length = ps.length
  | [] => by simp [renL']
  | p :: ps => by simp [renL', renL_len ps]
theorem relL_ren' {h : Array Obj} {q : Bool} {β β' : Nat → Option (Option Nat)} {ρ : List (Nat × Nat)} (hb : ∀ l o, β' l = some o → β (rn ρ l) = some o) : ∀ (ps : List PV) {cs : Array Value} {i : Nat} {B : List Nat}, RelL h q β (renL' ρ ps) cs i B → RelL h q β' ps cs i B
  | [], _, _, _, H => by simpa only [renL', RelL] using H
  | p :: ps, cs, i, B, H => by
    simp only [renL', RelL] at H ⊢
    obtain ⟨c, B1, B2, h1, h2, h3, rfl⟩ := H
    exact ⟨c, B1, B2, h1, relV_ren' hb p h2, relL_ren' hb ps h3, rfl⟩
end
theorem relV_ren {h : Array Obj} {β β' : Nat → Option (Option Nat)} {ρ : List (Nat × Nat)} (hb : ∀ l o, β' l = some o → β (rn ρ l) = some o) {p : PV} {c : Value} {B : List Nat} (H : RelV h β (renV ρ p) c B) : RelV h β' p c B := by
  cases ρ with
  | nil => exact RelV.keep p c B (fun l _ o ho => ⟨hb l o ho, fun b _ cs t hc => ⟨cs, hc, rfl⟩⟩) (fun _ _ => rfl) H
  | cons x r => exact relV_ren' hb p H
theorem relL_ren {h : Array Obj} {q : Bool} {β β' : Nat → Option (Option Nat)} {ρ : List (Nat × Nat)} (hb : ∀ l o, β' l = some o → β (rn ρ l) = some o) {ps : List PV} {cs : Array Value} {i : Nat} {B : List Nat} (H : RelL h q β (renL ρ ps) cs i B) : RelL h q β' ps cs i B := by
  cases ρ with
  | nil => exact RelL.keep ps cs i B (fun _ _ l _ o ho => ⟨hb l o ho, fun b _ cs t hc => ⟨cs, hc, rfl⟩⟩) (fun _ _ => rfl) H
  | cons x r => exact relL_ren' hb ps H

theorem Ent.list {S S' : List (Nat × Slot)} {O O' : List (Nat × Option Ob)} (ρ : List (Nat × Nat)) (hio : ∀ l, Γ.io (rn ρ l) = Γ.io l ∧ (Γ.io l ≠ none → rn ρ l = l)) (hi : injB ρ (keysB O') = true) (hS : EntS ρ S S') (hO : EntO ρ O O') : Ent Γ ⟨S, O⟩ ⟨S', O'⟩ := by
  rintro a w ⟨ow, β, h⟩
  have hinj := injB_spec hi
  -- the label that an elder label has now
  have hex : ∀ l : Nat, ∃ o : Option Nat, (∀ l', o = some l' → l' ∈ keysB O' ∧ rn ρ l' = l) ∧ (o = none → ∀ l' ∈ keysB O', rn ρ l' ≠ l) := by
    intro l
    by_cases hx : ∃ l' ∈ keysB O', rn ρ l' = l
    · obtain ⟨l', h1, h2⟩ := hx
      exact ⟨some l', fun x e => (by cases e; exact ⟨h1, h2⟩), fun e => (by cases e)⟩
    · exact ⟨none, fun x e => (by cases e), fun _ l' h1 h2 => hx ⟨l', h1, h2⟩⟩
  obtain ⟨f, hf⟩ := Classical.axiomOfChoice hex
  have hfk : ∀ l' ∈ keysB O', f (rn ρ l') = some l' := by
    intro l' hl'
    cases hx : f (rn ρ l') with
    | none => exact absurd rfl ((hf (rn ρ l')).2 hx l' hl')
    | some x =>
      obtain ⟨h1, h2⟩ := (hf (rn ρ l')).1 x hx
      rw [hinj x h1 l' hl' h2]
  let ow' : Nat → Own := fun b => match ow b with
    | .none => .none
    | .slot k => .slot k
    | .obj l => match f l with
      | some l' => .obj l'
      | none => .none
    | .lab l => match f l with
      | some l' => .lab l'
      | none => .none
  let β' : Nat → Option (Option Nat) := fun l => if (lo O' l).isSome = true then β (rn ρ l) else none
  have hβ' : ∀ l o, β' l = some o → β (rn ρ l) = some o := by
    intro l o e
    have e' : (if (lo O' l).isSome = true then β (rn ρ l) else none) = some o := e
    by_cases hx : (lo O' l).isSome = true
    · rw [if_pos hx] at e'; exact e'
    · rw [if_neg hx] at e'; cases e'
  have hIm : ∀ b, Im Γ ow w b → Im Γ ow' w b := by
    rintro b ⟨h1, h2, h3⟩
    refine ⟨h1, h2, fun l => ?_⟩
    show (match ow b with | .none => _ | .slot k => _ | .obj l => _ | .lab l => _) ≠ _
    cases hb : ow b with
    | none => simp
    | slot k => simp
    | obj m => simp only; cases f m <;> simp
    | lab m => exact absurd hb (h3 m)
  refine ⟨ow', β', { size := h.size, defers := h.defers, kept := h.kept, slots := fun k => ?_, objs := fun l ob hl => ?_, gone := fun l hl => ?_, own := fun b hb => ?_, ios := fun l b hl hs => ?_, fresh := fun l b hl hi => ?_ }⟩
  · rcases hS.get k with hk | ⟨sl, dp, hk, h1, h2⟩
    · rw [lkq_none hk]; exact ⟨[], by simp [RelV], by simp, by simp⟩
    · rw [lkq_lk hk]
      obtain ⟨B, g1, g2, g3⟩ := h.slots k
      simp only [h1] at g1 g3
      refine ⟨B, relV_ren hβ' g1, fun b hb => hIm b (g2 b hb), fun hd => ⟨(g3 (h2 hd)).1, fun b hb => ⟨?_, ((g3 (h2 hd)).2 b hb).2⟩⟩⟩
      have e := ((g3 (h2 hd)).2 b hb).1
      show (match ow b with | .none => _ | .slot k => _ | .obj l => _ | .lab l => _) = _
      rw [e]
  · obtain ⟨h1, dp, h2, h3⟩ := hO.get l ob hl
    obtain ⟨B, g1, g2, g3⟩ := h.objs (rn ρ l) _ h2
    have eβ : β' l = β (rn ρ l) := by show (if _ then _ else _) = _; rw [if_pos (by rw [hl]; rfl)]
    refine ⟨B, fun b hb => hIm b (g1 b hb), fun hd => ⟨(g2 (h3 hd)).1, fun b hb => ⟨?_, ((g2 (h3 hd)).2 b hb).2⟩⟩, ?_⟩
    · have e := ((g2 (h3 hd)).2 b hb).1
      show (match ow b with | .none => _ | .slot k => _ | .obj l => _ | .lab l => _) = _
      rw [e]; simp only [hfk l h1]
    · rcases g3 with ⟨e1, e2, e3⟩ | ⟨b, cs, t, e1, e2, e3, e4⟩
      · refine .inl ⟨eβ.trans e1, ?_, e3⟩
        simp only at e2
        cases hbx : ob.box with
        | false => rw [hbx] at e2; simpa using e2
        | true => rw [hbx] at e2; exact renL_nil (by simpa using e2)
      · refine .inr ⟨b, cs, t, eβ.trans e1, ?_, e3, ?_⟩
        · show (match ow b with | .none => _ | .slot k => _ | .obj l => _ | .lab l => _) = _
          rw [e2]; simp only [hfk l h1]
        · simp only at e4
          cases hbx : ob.box with
          | false => rw [hbx] at e4; simpa using e4
          | true => rw [hbx] at e4; simp only [if_true] at e4 ⊢; exact relL_ren hβ' e4
  · show (if _ then _ else _) = _
    rw [if_neg (by rw [hl]; simp)]
  · have hb' : ow b ≠ .none := by
      intro e
      apply hb
      show (match ow b with | .none => _ | .slot k => _ | .obj l => _ | .lab l => _) = _
      rw [e]
    obtain ⟨g1, g2⟩ := h.own b hb'
    refine ⟨g1, ?_⟩
    rcases g2 with g2 | ⟨l, g3, g4⟩
    · exact .inl g2
    · refine .inr ⟨l, ?_, g4⟩
      have hb2 : (match f l with | some l' => Own.lab l' | none => Own.none) ≠ .none := by
        have : ow' b = (match f l with | some l' => Own.lab l' | none => Own.none) := by
          show (match ow b with | .none => _ | .slot k => _ | .obj l => _ | .lab l => _) = _
          rw [g3]
        rw [← this]; exact hb
      show (match ow b with | .none => _ | .slot k => _ | .obj l => _ | .lab l => _) = _
      rw [g3]
      simp only
      cases hx : f l with
      | none => rw [hx] at hb2; simp at hb2
      | some l' =>
        obtain ⟨e1, e2⟩ := (hf l).1 l' hx
        have : Γ.io l' ≠ none := by rw [← (hio l').1, e2, g4]; simp
        have e3 := (hio l').2 this
        rw [e3] at e2; rw [e2]
  · have e1 := (hio l).2 (by rw [hl]; simp)
    show (if _ then _ else _) = _
    rw [if_pos hs, e1]
    cases hx : lo O' l with
    | none => simp only at hs; rw [hx] at hs; cases hs
    | some ob =>
      obtain ⟨_, dp, h2, _⟩ := hO.get l ob hx
      rw [e1] at h2
      exact h.ios l b hl (by rw [h2]; rfl)
  · exact h.fresh (rn ρ l) b (hβ' l _ hl) (by rw [(hio l).1]; exact hi)

theorem Ent.refl (E : Env) : Ent Γ E E := fun _ _ h => h
theorem Ent.trans {E1 E2 E3 : Env} (h1 : Ent Γ E1 E2) (h2 : Ent Γ E2 E3) : Ent Γ E1 E3 := fun a w h => h2 a w (h1 a w h)

section ends
variable {K : Env → Prop} {Q : Exit → Env → Prop} {E Em : Env} {i j n : Nat} {I : Nat → Env → Prop} {rs : Array ResultVar} {r : PV} {deep : Bool}
theorem x1 (h : Q .ret E) : Then K Q .ret E := h
theorem x2 (h : Q (.exit i) E) : Then K Q (.exit i) E := h
theorem x3 (h : K E) : Then K Q .normal E := h
theorem x4 (h : Q .ret E) : InBlock i Q .ret E := h
theorem x5 (h : Q .normal E) : InBlock i Q .normal E := h
theorem x6 (h : Nat.beq j i = true) (h' : Q .normal E) : InBlock i Q (.exit j) E := by simp only [InBlock, h]; exact h'
theorem x12 (h : RetIs Γ rs E r deep) : ends Γ rs r deep .ret E := h
end ends
end
end Go.Ev
