/- Parts L4. -/
import Derived.Test.YtlhoochohnnepaaGreatL3
set_option linter.all false
/- The walks of lifted functions, printed by program (lift.py). -/
namespace Go.Ev
open Go.Proofs
set_option linter.all false
set_option maxHeartbeats 4000000
attribute [local irreducible] CodeT Ent Meets MeetsX Local pR Res1 RetIs RetX Sim OpT aF1 NoLab uB oQ aF2 Cut aAT aBd uC aIg XEnv XRet XRetX XRetN MeetsN MeetsD MeetsF MeetsR RetN RetM aFS
end Go.Ev
