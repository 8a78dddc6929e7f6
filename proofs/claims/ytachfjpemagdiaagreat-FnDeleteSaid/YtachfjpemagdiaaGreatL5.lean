/- Parts L5. -/
import Derived.Test.YtachfjpemagdiaaGreatLd
set_option linter.all false
/- The walks of lifted functions, printed by program (lift.py). -/
namespace Go.Ev
open Go.Proofs
set_option linter.all false
set_option maxHeartbeats 4000000
attribute [local irreducible] CodeT Ent Meets MeetsX Local pT Res1 RetIs RetX Sim OpT aGM NoLab wZ mI aEt Cut aBT aBS vQ aI0 XEnv XRet XRetX XRetN MeetsN MeetsD MeetsF MeetsR RetN RetM aGv
theorem aG8 {a0 : (List Int)}{a1 : Int}(r : Bool)(H : wR a0 a1 = some r) : Meets Tryz.prog 11 [.sl a0.length (a0.flatMap (aB .i64)), .sc (.int .i64 a1)] (.sc (.bool r)) true:=by
 refine mi 17 #[.tmp 4] Tryz.func11 ?_;intro Γ hio;unfold wR at H;refine q8 ?_;refine l2 #[.tmp 4] true H (fun s=>⟨[(1,vI a1),(7,vS (aB .i64) a0),(8,vI (a0.length : Int)),(9,vI s)],[]⟩) (fun d=>⟨[],[]⟩) (fun d=>(.sc (.bool d))) ?_ ?_ ?_ ?_;exact le [];rintro v2 o H;unfold kL at H;refine q4 ?_;refine cT H ?_ ?_;intro h H;refine q5 ?_;refine ix H ?_;intro y3 _ H;refine q7 ?_;refine cT H ?_ ?_;exact zz;exact zz;exact zz;intro d5 H;cases H;exact z;intro d7 H E' g8;cases H;exact z
theorem aEL {a0 : (List Int)}{a1 : (List Int)}(r : Bool)(H : wC a0 a1 = some r) : Meets Tryz.prog 22 [.sl a0.length (a0.flatMap (aB .i64)), .sl a1.length (a1.flatMap (aB .i64))] (.sc (.bool r)) true:=by
 refine mi 26 #[.tmp 4] Tryz.func22 ?_;intro Γ hio;unfold wC at H;refine q9 ?_;refine cT H ?_ ?_;exact zz;intro h H;refine q8 ?_;refine l2 #[.tmp 4] true H (fun s=>⟨[(1,vS (aB .i64) a1),(12,vS (aB .i64) a0),(13,vI (a0.length : Int)),(14,vI s)],[]⟩) (fun d=>⟨[],[]⟩) (fun d=>(.sc (.bool d))) ?_ ?_ ?_ ?_;exact le [];rintro v3 o H;unfold aAw at H;refine q4 ?_;refine cT H ?_ ?_;intro h H;refine q6 ?_;refine ix H ?_;intro y4 _ H;refine q7 ?_;refine ix H ?_;intro y5 _ H;refine q3 ?_;refine cT H ?_ ?_;exact zz;exact zz;exact zz;intro d7 H;cases H;exact z;intro d9 H E' g10;cases H;exact z
end Go.Ev
