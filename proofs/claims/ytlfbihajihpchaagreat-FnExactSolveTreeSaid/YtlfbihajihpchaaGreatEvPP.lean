/- The engine, part PP: a drawn region in which one pair of operations is not ordered (printed by mkpp.py). -/
import Derived.Test.YtlfbihajihpchaaGreatEvOO
set_option linter.all false
namespace Go.Ev
/-- q may be taken before or after p: q's rule is shown both ways -/
def XOk {P : Program} {N : Nat} (Γ : Ctx P N) (ops : Array Oper) (items : List Item) (E0 : Env) (p q : Nat) : Prop :=
  ∃ x y, items[q]? = some x ∧ items[p]? = some y ∧ p < q ∧ hits x y = false ∧ x.nl = [] ∧ y.nl = [] ∧ LocalAt Γ ops q (pt (fun j => Nat.blt j q && !(Nat.beq j p)) items 0 E0) x.e x.rs x.ro x.nl
theorem XOk.intro {P : Program} {N : Nat} {Γ : Ctx P N} {ops : Array Oper} {items : List Item} {E0 : Env} {p q : Nat} {x y : Item} {o : Oper} (h1 : items[q]? = some x) (h2 : items[p]? = some y) (h3 : Nat.blt p q = true) (h4 : hits x y = false) (h5 : x.nl = []) (h6 : y.nl = [])
    (ho : ops[q]? = some o) (hg : o.guard = none) (hl : Local Γ o ⟨(pt (fun j => Nat.blt j q && !(Nat.beq j p)) items 0 E0).s, (pt (fun j => Nat.blt j q && !(Nat.beq j p)) items 0 E0).o⟩ x.e x.rs x.ro x.nl) : XOk Γ ops items E0 p q :=
  ⟨x, y, h1, h2, (blt_iff _ _).1 h3, h4, h5, h6, Local.at ho hg hl⟩

section
variable {P : Program} {N : Nat} {Γ : Ctx P N} {E : Env} {Q : Exit → Env → Prop}
end
end Go.Ev
