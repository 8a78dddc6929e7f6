/- The engine, part KK: a law's rest, begun anew: what there is by then is old. -/
import Derived.Test.YtlfbihajihpchaaGreatEvJJ
set_option linter.all false
namespace Go.Ev
open Go.RowKit (Below)
section
variable {P : Program} {N : Nat} {Γ : Ctx P N} {S : List (Nat × Slot)} {O : List (Nat × Option Ob)}
end
end Go.Ev
