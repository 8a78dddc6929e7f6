/- The engine, part OO: short forms: a rule and the step that uses it in one (printed by mkoo.py). -/
import Derived.Test.YtlfbihajihpchaaGreatEvNN
set_option linter.all false
namespace Go.Ev
section
variable {P : Program} {N : Nat} {Γ : Ctx P N} {S S' : List (Nat × Slot)} {O O' : List (Nat × Option Ob)}
/-- the walk of a region that is not drawn ends -/
theorem dn {ops : List Oper} {X : List Item → Prop} {Q : Env → Prop} {acc : List Item} {E : Env} (h : Q E) : Run Γ ops (fun items E' => (false = true → X items) ∧ Q E') [] acc E := .done ⟨fun h => Bool.noConfusion h, h⟩
theorem sq {x y : Code} {E : Env} {Q : Exit → Env → Prop} (h : CodeT Γ x E (Then (fun E' => CodeT Γ y E' Q) Q)) : CodeT Γ (.seq x y) E Q := CodeT.seq h
def valsS (S : List (Nat × Slot)) : List (Nat × Slot) → List (Option PV)
  | [] => []
  | (k, _) :: r => (lkq S k).map (·.v) :: valsS S r
def wantS (ρ : List (Nat × Nat)) : List (Nat × Slot) → List (Option PV)
  | [] => []
  | (_, sl) :: r => some (renV ρ sl.v) :: wantS ρ r
def deepS (S : List (Nat × Slot)) : List (Nat × Slot) → Bool
  | [] => true
  | (k, sl) :: r => (match sl.deep with | true => (match lkq S k with | some s => s.deep | none => false) | false => true) && deepS S r
theorem EntS.fast {ρ : List (Nat × Nat)} : ∀ {S' : List (Nat × Slot)}, valsS S S' = wantS ρ S' → deepS S S' = true → EntS ρ S S'
  | [], _, _ => trivial
  | (k, sl) :: r, h1, h2 => by
    simp only [valsS, wantS, List.cons.injEq] at h1
    simp only [deepS, Bool.and_eq_true] at h2
    refine ⟨?_, EntS.fast h1.2 h2.2⟩
    cases hs : lkq S k with
    | none => rw [hs] at h1; simp at h1
    | some s =>
      rw [hs] at h1 h2
      refine ⟨s.deep, ?_, fun hd => ?_⟩
      · have := h1.1; simp only [Option.map_some, Option.some.injEq] at this; rw [← this]
      · have := h2.1; rw [hd] at this; simpa using this
def valsO (ρ : List (Nat × Nat)) (O : List (Nat × Option Ob)) : List (Nat × Option Ob) → List (Option (List PV × Bool))
  | [] => []
  | (_, none) :: r => valsO ρ O r
  | (l, some _) :: r => (loq O (rn ρ l)).map (fun o => (o.cells, o.box)) :: valsO ρ O r
def wantO (ρ : List (Nat × Nat)) : List (Nat × Option Ob) → List (Option (List PV × Bool))
  | [] => []
  | (_, none) :: r => wantO ρ r
  | (_, some ob) :: r => some (match ob.box with | true => renL ρ ob.cells | false => ob.cells, ob.box) :: wantO ρ r
def deepO (ρ : List (Nat × Nat)) (O : List (Nat × Option Ob)) : List (Nat × Option Ob) → Bool
  | [] => true
  | (_, none) :: r => deepO ρ O r
  | (l, some ob) :: r => (match ob.deep with | true => (match loq O (rn ρ l) with | some o => o.deep | none => false) | false => true) && deepO ρ O r
theorem EntO.fast {ρ : List (Nat × Nat)} : ∀ {O' : List (Nat × Option Ob)}, valsO ρ O O' = wantO ρ O' → deepO ρ O O' = true → EntO ρ O O'
  | [], _, _ => trivial
  | (_, none) :: r, h1, h2 => by
    simp only [valsO, wantO] at h1
    simp only [deepO] at h2
    simp only [EntO]
    exact EntO.fast h1 h2
  | (l, some ob) :: r, h1, h2 => by
    simp only [valsO, wantO, List.cons.injEq] at h1
    simp only [deepO, Bool.and_eq_true] at h2
    simp only [EntO]
    refine ⟨?_, EntO.fast h1.2 h2.2⟩
    cases hs : loq O (rn ρ l) with
    | none => rw [hs] at h1; simp at h1
    | some o =>
      rw [hs] at h1 h2
      have h3 := h1.1
      simp only [Option.map_some, Option.some.injEq, Prod.mk.injEq] at h3
      refine ⟨o.deep, ?_, fun hd => ?_⟩
      · obtain ⟨c1, c2⟩ := h3
        cases o; simp only [] at c1 c2 ⊢
        rw [c1, c2]; cases ob.box <;> rfl
      · have := h2.1; rw [hd] at this; simpa using this
theorem el (ρ : List (Nat × Nat)) (hio : ∀ l, Γ.io (rn ρ l) = Γ.io l ∧ (Γ.io l ≠ none → rn ρ l = l)) (hi : injB ρ (keysB O') = true) (h1 : valsS S S' = wantS ρ S') (h2 : deepS S S' = true) (h3 : valsO ρ O O' = wantO ρ O') (h4 : deepO ρ O O' = true) : Ent Γ ⟨S, O⟩ ⟨S', O'⟩ :=
  Ent.list ρ hio hi (EntS.fast h1 h2) (EntO.fast h3 h4)
variable {d : Nat} {ty : TypeId} {pos : String} {af : Array Edge} {g : Option (Nat × Bool)}
variable {x y : Operand} {u u' : TypeId} {k : IntKind} {m n r : Int}
variable {ops rest : List Oper} {K : List Item → Env → Prop} {acc : List Item} {gs : List Nat}

/-- a cell that holds no block's name -/
def plainC (c : PV) : Bool := match c.labs with | [] => true | _ => false
theorem plainC_spec {bx : Bool} {c : PV} (h : (bx || plainC c) = true) : bx = true ∨ c.labs = [] := by
  cases bx with
  | true => exact .inl rfl
  | false =>
    right
    simp only [Bool.false_or, plainC] at h
    split at h
    · assumption
    · cases h
end
end Go.Ev
