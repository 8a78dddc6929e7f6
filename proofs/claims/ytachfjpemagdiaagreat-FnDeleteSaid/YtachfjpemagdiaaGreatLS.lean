/- Parts LS. -/
import Derived.Shelf.Sort.Plain
import Derived.Shelf.Slices.In.SortNone2
import Derived.Ground.Names2Prog
import Derived.Test.YtachfjpemagdiaaGreatW0
set_option linter.all false
/- The order of ints: what sort.Ints does to an own row. -/
namespace Go.Proofs
open Go.Shelf
end Go.Proofs
namespace Go.Ev
open Go.Sort Go.RowKit Go.Proofs
set_option linter.all false
end Go.Ev
