/- The engine, part OO: short forms: a rule and the step that uses it in one (printed by mkoo.py). -/
import Derived.Test.YtbfjidhekfnfjaaEvNN
set_option linter.all false
namespace Go.Ev
section
variable {P : Program} {N : Nat} {Γ : Ctx P N} {S S' : List (Nat × Slot)} {O O' : List (Nat × Option Ob)}
/-- the walk of a region that is not drawn ends -/
theorem dn {ops : List Oper} {X : List Item → Prop} {Q : Env → Prop} {acc : List Item} {E : Env} (h : Q E) : Run Γ ops (fun items E' => (false = true → X items) ∧ Q E') [] acc E := .done ⟨fun h => Bool.noConfusion h, h⟩
theorem sq {x y : Code} {E : Env} {Q : Exit → Env → Prop} (h : CodeT Γ x E (Then (fun E' => CodeT Γ y E' Q) Q)) : CodeT Γ (.seq x y) E Q := CodeT.seq h
def valsS (S : List (Nat × Slot)) : List (Nat × Slot) → List (Option PV)
  | [] => []
  | (k, _) :: r => (lkq S k).map (·.v) :: valsS S r
def wantS (ρ : List (Nat × Nat)) : List (Nat × Slot) → List (Option PV)
  | [] => []
  | (_, sl) :: r => some (renV ρ sl.v) :: wantS ρ r
def deepS (S : List (Nat × Slot)) : List (Nat × Slot) → Bool
  | [] => true
  | (k, sl) :: r => (match sl.deep with | true => (match lkq S k with | some s => s.deep | none => false) | false => true) && deepS S r
theorem EntS.fast {ρ : List (Nat × Nat)} : ∀ {S' : List (Nat × Slot)}, valsS S S' = wantS ρ S' → deepS S S' = true → EntS ρ S S'
  | [], _, _ => trivial
  | (k, sl) :: r, h1, h2 => by
    simp only [valsS, wantS, List.cons.injEq] at h1
    simp only [deepS, Bool.and_eq_true] at h2
    refine ⟨?_, EntS.fast h1.2 h2.2⟩
    cases hs : lkq S k with
    | none => rw [hs] at h1; simp at h1
    | some s =>
      rw [hs] at h1 h2
      refine ⟨s.deep, ?_, fun hd => ?_⟩
      · have := h1.1; simp only [Option.map_some, Option.some.injEq] at this; rw [← this]
      · have := h2.1; rw [hd] at this; simpa using this
def valsO (ρ : List (Nat × Nat)) (O : List (Nat × Option Ob)) : List (Nat × Option Ob) → List (Option (List PV × Bool))
  | [] => []
  | (_, none) :: r => valsO ρ O r
  | (l, some _) :: r => (loq O (rn ρ l)).map (fun o => (o.cells, o.box)) :: valsO ρ O r
def wantO (ρ : List (Nat × Nat)) : List (Nat × Option Ob) → List (Option (List PV × Bool))
  | [] => []
  | (_, none) :: r => wantO ρ r
  | (_, some ob) :: r => some (match ob.box with | true => renL ρ ob.cells | false => ob.cells, ob.box) :: wantO ρ r
def deepO (ρ : List (Nat × Nat)) (O : List (Nat × Option Ob)) : List (Nat × Option Ob) → Bool
  | [] => true
  | (_, none) :: r => deepO ρ O r
  | (l, some ob) :: r => (match ob.deep with | true => (match loq O (rn ρ l) with | some o => o.deep | none => false) | false => true) && deepO ρ O r
theorem EntO.fast {ρ : List (Nat × Nat)} : ∀ {O' : List (Nat × Option Ob)}, valsO ρ O O' = wantO ρ O' → deepO ρ O O' = true → EntO ρ O O'
  | [], _, _ => trivial
  | (_, none) :: r, h1, h2 => by
    simp only [valsO, wantO] at h1
    simp only [deepO] at h2
    simp only [EntO]
    exact EntO.fast h1 h2
  | (l, some ob) :: r, h1, h2 => by
    simp only [valsO, wantO, List.cons.injEq] at h1
    simp only [deepO, Bool.and_eq_true] at h2
    simp only [EntO]
    refine ⟨?_, EntO.fast h1.2 h2.2⟩
    cases hs : loq O (rn ρ l) with
    | none => rw [hs] at h1; simp at h1
    | some o =>
      rw [hs] at h1 h2
      have h3 := h1.1
      simp only [Option.map_some, Option.some.injEq, Prod.mk.injEq] at h3
      refine ⟨o.deep, ?_, fun hd => ?_⟩
      · obtain ⟨c1, c2⟩ := h3
        cases o; simp only [] at c1 c2 ⊢
        rw [c1, c2]; cases ob.box <;> rfl
      · have := h2.1; rw [hd] at this; simpa using this
theorem el (ρ : List (Nat × Nat)) (hio : ∀ l, Γ.io (rn ρ l) = Γ.io l ∧ (Γ.io l ≠ none → rn ρ l = l)) (hi : injB ρ (keysB O') = true) (h1 : valsS S S' = wantS ρ S') (h2 : deepS S S' = true) (h3 : valsO ρ O O' = wantO ρ O') (h4 : deepO ρ O O' = true) : Ent Γ ⟨S, O⟩ ⟨S', O'⟩ :=
  Ent.list ρ hio hi (EntS.fast h1 h2) (EntO.fast h3 h4)
variable {d : Nat} {ty : TypeId} {pos : String} {af : Array Edge} {g : Option (Nat × Bool)}
variable {x y : Operand} {u u' : TypeId} {k : IntKind} {m n r : Int}
variable {ops rest : List Oper} {K : List Item → Env → Prop} {acc : List Item} {gs : List Nat}

theorem R_mov {x : Operand} {v : PV} (hv : evq S x = some v) (hd : Nat.blt d N = true) (hg : gd N ops S true g = some gs) (hk : Run Γ ops K rest (⟨⟨[(d, ⟨v, false⟩)], []⟩, gs ++ (ors x), [], []⟩ :: acc) ⟨[(d, ⟨v, false⟩)] ++ S, [] ++ O⟩) : Run Γ ops K (⟨some d, .move x, ty, pos, af, g⟩ :: rest) acc ⟨S, O⟩ := .op (L_mov hv hd) hg rfl hk
theorem R_asg {x : Operand} {v : PV} (hv : evq S x = some v) (hd : Nat.blt d N = true) (hg : gd N ops S true g = some gs) (hk : Run Γ ops K rest (⟨⟨[(d, ⟨v, false⟩)], []⟩, gs ++ (ors x), [], []⟩ :: acc) ⟨[(d, ⟨v, false⟩)] ++ S, [] ++ O⟩) : Run Γ ops K (⟨some d, .assign x, ty, pos, af, g⟩ :: rest) acc ⟨S, O⟩ := .op (L_asg hv hd) hg rfl hk
theorem R_fldP {x : Operand} {t f off l k : Nat} {ob : Ob} [hf : FldT P t f off] (hx : evq S x = some (.ptr l k)) (ho : loq O l = some ob) (hne : Nat.blt 0 ob.cells.length = true) (hd : Nat.blt d N = true) (hg : gd N ops S true g = some gs) (hk : Run Γ ops K rest (⟨⟨[(d, ⟨.ptr l (k + off), false⟩)], []⟩, gs ++ (ors x), [l], []⟩ :: acc) ⟨[(d, ⟨.ptr l (k + off), false⟩)] ++ S, [] ++ O⟩) : Run Γ ops K (⟨some d, .fieldAddr t x f, ty, pos, af, g⟩ :: rest) acc ⟨S, O⟩ := .op (L_fldP hx ho hne hd) hg rfl hk
theorem R_movT {s : Nat} {v : PV} {dp : Bool} (hv : lkq S s = some ⟨v, dp⟩) (hd : Nat.blt d N = true) (hne : Nat.beq d s = false) (hg : gd N ops S true g = some gs) (hk : Run Γ ops K rest (⟨⟨[(d, ⟨v, dp⟩), (s, ⟨.any, false⟩)], []⟩, gs ++ [s], [], []⟩ :: acc) ⟨[(d, ⟨v, dp⟩), (s, ⟨.any, false⟩)] ++ S, [] ++ O⟩) : Run Γ ops K (⟨some d, .move (.tmp s), ty, pos, af, g⟩ :: rest) acc ⟨S, O⟩ := .op (L_movT hv hd hne) hg rfl hk
theorem R_asgT {s : Nat} {v : PV} {dp : Bool} (hv : lkq S s = some ⟨v, dp⟩) (hd : Nat.blt d N = true) (hne : Nat.beq d s = false) (hg : gd N ops S true g = some gs) (hk : Run Γ ops K rest (⟨⟨[(d, ⟨v, dp⟩), (s, ⟨.any, false⟩)], []⟩, gs ++ [s], [], []⟩ :: acc) ⟨[(d, ⟨v, dp⟩), (s, ⟨.any, false⟩)] ++ S, [] ++ O⟩) : Run Γ ops K (⟨some d, .assign (.tmp s), ty, pos, af, g⟩ :: rest) acc ⟨S, O⟩ := .op (L_asgT hv hd hne) hg rfl hk
theorem R_len {x : Operand} {t e : Nat} [ht : SlT P t e] {n : Nat} {cells : List PV} (hx : evq S x = some (.sl n cells)) (hd : Nat.blt d N = true) (hg : gd N ops S true g = some gs) (hk : Run Γ ops K rest (⟨⟨[(d, ⟨.sc (.int .i64 n), false⟩)], []⟩, gs ++ (ors x), [], []⟩ :: acc) ⟨[(d, ⟨.sc (.int .i64 n), false⟩)] ++ S, [] ++ O⟩) : Run Γ ops K (⟨some d, .call ⟨.builtin .len, #[x], #[t]⟩, ty, pos, af, g⟩ :: rest) acc ⟨S, O⟩ := .op (L_len hx hd) hg rfl hk
theorem R_pickT {c x y : Operand} {v : PV} (hc : evq S c = some (.sc (.bool true))) (hv : evq S x = some v) (hd : Nat.blt d N = true) (hg : gd N ops S true g = some gs) (hk : Run Γ ops K rest (⟨⟨[(d, ⟨v, false⟩)], []⟩, gs ++ (ors c ++ ors x), [], []⟩ :: acc) ⟨[(d, ⟨v, false⟩)] ++ S, [] ++ O⟩) : Run Γ ops K (⟨some d, .pick c x y, ty, pos, af, g⟩ :: rest) acc ⟨S, O⟩ := .op (L_pickT hc hv hd) hg rfl hk
theorem R_pickF {c x y : Operand} {v : PV} (hc : evq S c = some (.sc (.bool false))) (hv : evq S y = some v) (hd : Nat.blt d N = true) (hg : gd N ops S true g = some gs) (hk : Run Γ ops K rest (⟨⟨[(d, ⟨v, false⟩)], []⟩, gs ++ (ors c ++ ors y), [], []⟩ :: acc) ⟨[(d, ⟨v, false⟩)] ++ S, [] ++ O⟩) : Run Γ ops K (⟨some d, .pick c x y, ty, pos, af, g⟩ :: rest) acc ⟨S, O⟩ := .op (L_pickF hc hv hd) hg rfl hk
theorem R_add (hx : evq S x = some (.sc (.int k m))) (hy : evq S y = some (.sc (.int k n))) (hr : k.wrap (m + n) = r) (hd : Nat.blt d N = true) (hg : gd N ops S true g = some gs) (hk : Run Γ ops K rest (⟨⟨[(d, ⟨.sc (.int k r), false⟩)], []⟩, gs ++ (ors x ++ ors y), [], []⟩ :: acc) ⟨[(d, ⟨.sc (.int k r), false⟩)] ++ S, [] ++ O⟩) : Run Γ ops K (⟨some d, .binOp .add u x y u', ty, pos, af, g⟩ :: rest) acc ⟨S, O⟩ := .op (L_add hx hy hr hd) hg rfl hk
theorem R_sub (hx : evq S x = some (.sc (.int k m))) (hy : evq S y = some (.sc (.int k n))) (hr : k.wrap (m - n) = r) (hd : Nat.blt d N = true) (hg : gd N ops S true g = some gs) (hk : Run Γ ops K rest (⟨⟨[(d, ⟨.sc (.int k r), false⟩)], []⟩, gs ++ (ors x ++ ors y), [], []⟩ :: acc) ⟨[(d, ⟨.sc (.int k r), false⟩)] ++ S, [] ++ O⟩) : Run Γ ops K (⟨some d, .binOp .sub u x y u', ty, pos, af, g⟩ :: rest) acc ⟨S, O⟩ := .op (L_sub hx hy hr hd) hg rfl hk
theorem R_not {x : Operand} {u : TypeId} {b : Bool} (hx : evq S x = some (.sc (.bool b))) (hd : Nat.blt d N = true) (hg : gd N ops S true g = some gs) (hk : Run Γ ops K rest (⟨⟨[(d, ⟨.sc (.bool (!b)), false⟩)], []⟩, gs ++ (ors x), [], []⟩ :: acc) ⟨[(d, ⟨.sc (.bool (!b)), false⟩)] ++ S, [] ++ O⟩) : Run Γ ops K (⟨some d, .unOp .not u x, ty, pos, af, g⟩ :: rest) acc ⟨S, O⟩ := .op (L_not hx hd) hg rfl hk
theorem R_lss (hx : evq S x = some (.sc (.int k m))) (hy : evq S y = some (.sc (.int k n))) (hd : Nat.blt d N = true) (hg : gd N ops S true g = some gs) (hk : Run Γ ops K rest (⟨⟨[(d, ⟨.sc (.bool (decide (m < n))), false⟩)], []⟩, gs ++ (ors x ++ ors y), [], []⟩ :: acc) ⟨[(d, ⟨.sc (.bool (decide (m < n))), false⟩)] ++ S, [] ++ O⟩) : Run Γ ops K (⟨some d, .binOp .lss u x y u', ty, pos, af, g⟩ :: rest) acc ⟨S, O⟩ := .op (L_lss hx hy hd) hg rfl hk
theorem R_leq (hx : evq S x = some (.sc (.int k m))) (hy : evq S y = some (.sc (.int k n))) (hd : Nat.blt d N = true) (hg : gd N ops S true g = some gs) (hk : Run Γ ops K rest (⟨⟨[(d, ⟨.sc (.bool (decide (m ≤ n))), false⟩)], []⟩, gs ++ (ors x ++ ors y), [], []⟩ :: acc) ⟨[(d, ⟨.sc (.bool (decide (m ≤ n))), false⟩)] ++ S, [] ++ O⟩) : Run Γ ops K (⟨some d, .binOp .leq u x y u', ty, pos, af, g⟩ :: rest) acc ⟨S, O⟩ := .op (L_leq hx hy hd) hg rfl hk
theorem R_gtr (hx : evq S x = some (.sc (.int k m))) (hy : evq S y = some (.sc (.int k n))) (hd : Nat.blt d N = true) (hg : gd N ops S true g = some gs) (hk : Run Γ ops K rest (⟨⟨[(d, ⟨.sc (.bool (decide (n < m))), false⟩)], []⟩, gs ++ (ors x ++ ors y), [], []⟩ :: acc) ⟨[(d, ⟨.sc (.bool (decide (n < m))), false⟩)] ++ S, [] ++ O⟩) : Run Γ ops K (⟨some d, .binOp .gtr u x y u', ty, pos, af, g⟩ :: rest) acc ⟨S, O⟩ := .op (L_gtr hx hy hd) hg rfl hk
theorem R_eql (hx : evq S x = some (.sc (.int k m))) (hy : evq S y = some (.sc (.int k n))) (hd : Nat.blt d N = true) (hg : gd N ops S true g = some gs) (hk : Run Γ ops K rest (⟨⟨[(d, ⟨.sc (.bool (decide (m = n))), false⟩)], []⟩, gs ++ (ors x ++ ors y), [], []⟩ :: acc) ⟨[(d, ⟨.sc (.bool (decide (m = n))), false⟩)] ++ S, [] ++ O⟩) : Run Γ ops K (⟨some d, .binOp .eql u x y u', ty, pos, af, g⟩ :: rest) acc ⟨S, O⟩ := .op (L_eql hx hy hd) hg rfl hk
theorem R_neq (hx : evq S x = some (.sc (.int k m))) (hy : evq S y = some (.sc (.int k n))) (hd : Nat.blt d N = true) (hg : gd N ops S true g = some gs) (hk : Run Γ ops K rest (⟨⟨[(d, ⟨.sc (.bool (decide (m ≠ n))), false⟩)], []⟩, gs ++ (ors x ++ ors y), [], []⟩ :: acc) ⟨[(d, ⟨.sc (.bool (decide (m ≠ n))), false⟩)] ++ S, [] ++ O⟩) : Run Γ ops K (⟨some d, .binOp .neq u x y u', ty, pos, af, g⟩ :: rest) acc ⟨S, O⟩ := .op (L_neq hx hy hd) hg rfl hk
theorem R_fldI {x : Operand} {t f off : Nat} {cells : List PV} [hf : FldT P t f off] (hx : evq S x = some (.iptr cells)) (hd : Nat.blt d N = true) (hg : gd N ops S true g = some gs) (hk : Run Γ ops K rest (⟨⟨[(d, ⟨.iptr (cells.drop off), false⟩)], []⟩, gs ++ (ors x), [], []⟩ :: acc) ⟨[(d, ⟨.iptr (cells.drop off), false⟩)] ++ S, [] ++ O⟩) : Run Γ ops K (⟨some d, .fieldAddr t x f, ty, pos, af, g⟩ :: rest) acc ⟨S, O⟩ := .op (L_fldI hx hd) hg rfl hk
theorem R_ldI {x : Operand} {t n by_ : Nat} {cells : List PV} {c : PV} [ht : TI P t n false by_] (hx : evq S x = some (.iptr cells)) (hc : cells[0]? = some c) (hl : c.labs = []) (hd : Nat.blt d N = true) (hg : gd N ops S true g = some gs) (hk : Run Γ ops K rest (⟨⟨[(d, ⟨c, false⟩)], []⟩, gs ++ (ors x), [], []⟩ :: acc) ⟨[(d, ⟨c, false⟩)] ++ S, [] ++ O⟩) : Run Γ ops K (⟨some d, .load t x, ty, pos, af, g⟩ :: rest) acc ⟨S, O⟩ := .op (L_ldI hx hc hl hd) hg rfl hk
/-- a cell that holds no block's name -/
def plainC (c : PV) : Bool := match c.labs with | [] => true | _ => false
theorem plainC_spec {bx : Bool} {c : PV} (h : (bx || plainC c) = true) : bx = true ∨ c.labs = [] := by
  cases bx with
  | true => exact .inl rfl
  | false =>
    right
    simp only [Bool.false_or, plainC] at h
    split at h
    · assumption
    · cases h
theorem R_ldP {t n by_ l k : Nat} {cells : List PV} {dp bx : Bool} {c : PV} [ht : TI P t n false by_] (hx : evq S x = some (.ptr l k)) (ho : loq O l = some ⟨cells, dp, bx⟩) (hc : cells[k]? = some c) (hl : (bx || plainC c) = true) (hd : Nat.blt d N = true) (hg : gd N ops S true g = some gs)
    (hk : Run Γ ops K rest (⟨⟨[(d, ⟨c, false⟩)], []⟩, gs ++ (ors x), [l], []⟩ :: acc) ⟨[(d, ⟨c, false⟩)] ++ S, [] ++ O⟩) : Run Γ ops K (⟨some d, .load t x, ty, pos, af, g⟩ :: rest) acc ⟨S, O⟩ := .op (L_ldP hx ho hc (plainC_spec hl) hd) hg rfl hk
theorem R_ldPA {t n by_ l k : Nat} {cells vs : List PV} {dp bx : Bool} [ht : TI P t n true by_] (hx : evq S x = some (.ptr l k)) (ho : loq O l = some ⟨cells, dp, bx⟩) (hc : (cells.drop k).take n = vs) (hn : Nat.beq vs.length n = true) (hn0 : Nat.beq n 0 = false) (hl : (bx || noLabs vs) = true) (hd : Nat.blt d N = true) (hg : gd N ops S true g = some gs)
    (hk : Run Γ ops K rest (⟨⟨[(d, ⟨.agg vs, false⟩)], []⟩, gs ++ (ors x), [l], []⟩ :: acc) ⟨[(d, ⟨.agg vs, false⟩)] ++ S, [] ++ O⟩) : Run Γ ops K (⟨some d, .load t x, ty, pos, af, g⟩ :: rest) acc ⟨S, O⟩ :=
  .op (L_ldPA hx ho hc hn (by intro h; subst h; simp at hn0) (by cases bx with | true => exact .inl rfl | false => exact .inr (by simpa using hl)) hd) hg rfl hk
end
end Go.Ev
