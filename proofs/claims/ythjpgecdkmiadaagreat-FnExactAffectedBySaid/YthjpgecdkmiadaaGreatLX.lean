/- Parts LX. -/
import Derived.Test.YthjpgecdkmiadaaGreatL1
import Derived.Test.YthjpgecdkmiadaaGreatL2
set_option linter.all false
/- test -/
namespace Go.Ev
open Go.Proofs
set_option linter.all false
set_option maxHeartbeats 4000000
attribute [local irreducible] CodeT Ent Meets MeetsX Local rS Res1 RetIs RetX Sim OpT aG4 NoLab xB oM aG5 aAy aD3 xC aIT XEnv XRet XRetX XRetN MeetsN MeetsD MeetsF MeetsR MarkC RetN RetM aFV aFW
end Go.Ev
