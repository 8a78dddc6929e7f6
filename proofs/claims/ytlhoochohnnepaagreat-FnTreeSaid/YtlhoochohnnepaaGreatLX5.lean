/- Parts LX5. -/
import Derived.Test.YtlhoochohnnepaaGreatT1
import Derived.Test.YtlhoochohnnepaaGreatLX2
import Derived.Test.YtlhoochohnnepaaGreatLX4
set_option linter.all false
/- The walks of lifted functions, printed by program (lift.py). -/
namespace Go.Ev
open Go.Proofs
set_option maxHeartbeats 4000000
set_option maxRecDepth 20000
attribute [local irreducible] CodeT Ent Meets MeetsX Local qF Res1 RetIs RetX Sim OpT aFc NoLab wJ mC aCh Cut aBh aAH vA aHL XEnv XRet XRetX XRetN MeetsN MeetsD MeetsF MeetsR RetN RetM aG8
theorem aQf {a0}(r)(H : zY a0 = some r) : MP 6 [.sl a0.length (a0.flatMap (aC .u8))] (.sc (.bool r)) true:=by
 refine mi 69 #[.tmp 2] Tryz.func6 ?_;intro Γ hio;unfold zY at H;refine q7 ?_;refine cT H ?_ ?_;exact zz;intro h H;refine q4 ?_;refine cl H aAA ?_;intro r1 H;refine q3 ?_;refine cl H aGN ?_;intro r2 H;refine q5 ?_;obtain⟨r3,hr3,H⟩:=aB H;refine cK ?_ (av (av .nil)) (aEE _ hr3);refine cl H aAD ?_;intro r4 H;refine dQ ?_;refine sG ?_;refine q1 ?_;refine aG false ?_;refine aZ (cells':=(uV r4.1)) ?_;refine q2 ?_;apply aWO;(apply aWP (aWN (aDA _));apply cW;rfl;rfl;(first | exact bA rfl | rfl);rfl;(intro h;cases h);(first | exact .inl rfl | exact .inr rfl);rfl);rfl;rfl;obtain⟨r5,hr5,H⟩:=aB H;apply aWO;(apply aFQ 1300;((apply aW5;(apply aW4;rfl;rfl));(apply aXe));(exact aEJ _ hr5);rfl;rfl;rfl;(exact⟨io1 hio _,trivial⟩);rfl);rfl;rfl;refine q7 ?_;refine cl H aBZ ?_;intro r6 H;refine q8 ?_;refine cl H aDi ?_;intro r7 H;refine q3 ?_;refine aG false ?_;refine bF (cells':=(aF r7.1)) ?_;refine q2 ?_;refine dB H ?_ ?_;intro h H;refine q1 ?_;refine dB H ?_ ?_;intro h H;refine q2 ?_;refine dB H ?_ ?_;intro h H;refine q2 ?_;refine dB H ?_ ?_;intro h H;refine q2 ?_;apply aWO;(apply aWP (aWN (aDA _));apply cW;rfl;rfl;(first | exact bA rfl | rfl);rfl;(intro h;cases h);(first | exact .inl rfl | exact .inr rfl);rfl);rfl;rfl;refine dC H aHH ?_ ?_;intro H;refine q4 ?_;obtain⟨r9,hr9,H⟩:=aB H;apply aJs;(apply aCl;((apply aW5;(apply ArgV.refS;rfl;rfl;(exact(aXa aEs _))));(apply aW5;(apply aW4;rfl;rfl));(apply aXe));(exact aDY _ hr9);rfl;rfl;rfl);rfl;intro h;replace H:=aPe h H;refine q2 ?_;refine fZ ?_;obtain⟨r10,hr10,H⟩:=aB H;refine bR ?_ (avS .nil (aWN (aDA _))) (aDX _ hr10);refine q1 ?_;obtain⟨r11,hr11,H⟩:=aB H;refine bR ?_ (avS (av .nil) (aWN (aP _))) (dA _ hr11);cases H;exact z;intro h;replace H:=aPf h H;cases H;exact z;intro H;cases H;exact z;exact zz;exact zz;exact zz;exact zz
end Go.Ev
