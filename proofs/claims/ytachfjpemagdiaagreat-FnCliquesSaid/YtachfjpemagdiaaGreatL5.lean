/- Parts L5. -/
import Derived.Test.YtachfjpemagdiaaGreatLd
set_option linter.all false
/- The walks of lifted functions, printed by program (lift.py). -/
namespace Go.Ev
open Go.Proofs
set_option linter.all false
set_option maxHeartbeats 4000000
attribute [local irreducible] CodeT Ent Meets MeetsX Local oK Res1 RetIs RetX Sim OpT aFb NoLab uQ lK aFd Cut aAI aAH tU aHb XEnv XRet XRetX XRetN MeetsN MeetsD MeetsF MeetsR RetN RetM aEW
theorem xS {a0 : (List Int)} {a1 : Int} (r : Bool) (H : pC a0 a1 = some r) : Meets Tryz.prog 11 [.sl a0.length (a0.flatMap (aB .i64)), .sc (.int .i64 a1)] (.sc (.bool r)) true := by
  refine mi 17 #[.tmp 4] Tryz.func11 ?_;intro Γ hio;unfold pC at H;refine q8 ?_;refine l2 #[.tmp 4] true H (fun s=>⟨[(1,vI a1),(7,vS (aB .i64) a0),(8,vI (a0.length : Int)),(9,vI s)],[]⟩) (fun d=>⟨[],[]⟩) (fun d=>(.sc (.bool d))) ?_ ?_ ?_ ?_;exact le [];rintro v2 o H;unfold jU at H;refine q4 ?_;refine cT H ?_ ?_;intro h H;refine q5 ?_;refine ix H ?_;intro y3 _ H;refine q7 ?_;refine cT H ?_ ?_;exact zz;exact zz;exact zz;intro d5 H;cases H;exact z;intro d7 H E' g8;cases H;exact z
end Go.Ev
