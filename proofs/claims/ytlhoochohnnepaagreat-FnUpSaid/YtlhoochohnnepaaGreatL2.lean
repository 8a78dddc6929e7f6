/- Parts L2. -/
import Derived.Test.YtlhoochohnnepaaGreatL1
set_option linter.all false
/- The walks of lifted functions, printed by program (lift.py). -/
namespace Go.Ev
open Go.Proofs
set_option linter.all false
set_option maxHeartbeats 4000000
set_option maxRecDepth 20000
attribute [local irreducible] CodeT Ent Meets MeetsX Local oX Res1 RetIs RetX Sim OpT aET NoLab sM lH aEU Cut aAg aAy sN aGP XEnv XRet XRetX XRetN MeetsN MeetsD MeetsF MeetsR RetN RetM aEL
end Go.Ev
