/- Plain laws of loops: comparison of lists, search. No program. -/
import Derived.Test.YtlfbihajihpchaaGreatPN
set_option linter.all false
namespace Go.Ev
section
variable {α : Type}
end
end Go.Ev
