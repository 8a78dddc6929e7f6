/- Parts LX2. -/
import Derived.Test.YtlhoochohnnepaaGreatT1
import Derived.Test.YtlhoochohnnepaaGreatLX1
set_option linter.all false
/- The walks of lifted functions, printed by program (lift.py). -/
namespace Go.Ev
open Go.Proofs
set_option maxHeartbeats 4000000
set_option maxRecDepth 20000
attribute [local irreducible] CodeT Ent Meets MeetsX Local qF Res1 RetIs RetX Sim OpT aFc NoLab wJ mC aCh Cut aBh aAH vA aHL XEnv XRet XRetX XRetN MeetsN MeetsD MeetsF MeetsR RetN RetM aG8
end Go.Ev
