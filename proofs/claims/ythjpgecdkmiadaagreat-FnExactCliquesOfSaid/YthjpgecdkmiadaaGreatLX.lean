/- Parts LX. -/
import Derived.Test.YthjpgecdkmiadaaGreatL1
import Derived.Test.YthjpgecdkmiadaaGreatL2
set_option linter.all false
/- test -/
namespace Go.Ev
open Go.Proofs
set_option linter.all false
set_option maxHeartbeats 4000000
attribute [local irreducible] CodeT Ent Meets MeetsX Local qY Res1 RetIs RetX Sim OpT aGB NoLab wW nR aGC aBe aDA wX aIp XEnv XRet XRetX XRetN MeetsN MeetsD MeetsF MeetsR MarkC RetN RetM aFt aFu
end Go.Ev
