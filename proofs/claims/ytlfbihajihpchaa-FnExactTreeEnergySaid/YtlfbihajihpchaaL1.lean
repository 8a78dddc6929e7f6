/- The walks of lifted functions, printed by program (lift.py). -/
import Derived.Test.YtlfbihajihpchaaLd
set_option linter.all false
namespace Go.Ev
open Go.Proofs
set_option linter.all false
set_option maxHeartbeats 4000000
attribute [local irreducible] CodeT Ent Meets MeetsX Local LocalAt Res1 RetIs RetX Sim OpT StepT NoLab Then InBlock Round Cut ends endsX LRound LCut XEnv XRet XRetX XRetN MeetsN MeetsD MarkC RetN RetM endsN endsM
theorem m_laws_szIntS (a0 : (List Int)) (a1 : Int) (r : Int) (H : laws_szIntS a0 a1 = some r) : Meets Try.prog 68 [.sl a0.length (a0.flatMap (encI .i64)), .sc (.int .i64 a1)] (.sc (.int .i64 r)) true := by
  refine Meets.intro2 (N := 12) (rs := #[.tmp 4]) Try.func68 rfl rfl rfl rfl ?_
  intro Γ hio
  unfold laws_szIntS at H
  (repeat apply sq)
  apply rg
  apply R_asg; rfl; rfl; rfl
  apply dn
  apply x3
  (repeat apply sq)
  apply rg
  apply R_mov; rfl; rfl; rfl
  apply R_mov; rfl; rfl; rfl
  apply R_len; rfl; rfl; rfl
  obtain ⟨v1, hv1, H⟩ := bindS H
  apply R_sub; rfl; rfl; (exact letS hv1); rfl; rfl
  apply R_asg; rfl; rfl; rfl
  apply dn
  apply x3
  (repeat apply sq)
  apply rg
  apply R_mov; rfl; rfl; rfl
  apply R_lss; rfl; rfl; rfl; rfl
  apply dn
  apply x3
  (repeat apply sq)
  refine CodeT.cond rfl (fun h => ?_) (fun h => ?_)
  replace H := ifT (of_decide_eq_true h) H
  (repeat apply sq)
  apply rg
  apply R_asg; rfl; rfl; rfl
  apply dn
  apply x3
  apply CodeT.ret
  apply x1
  cases H
  apply x12
  exact RetIs.sc1 rfl
  replace H := ifF (of_decide_eq_false h) H
  (repeat apply sq)
  apply CodeT.skip
  apply x3
  (repeat apply sq)
  apply rg
  apply R_mov; rfl; rfl; rfl
  apply R_asg; rfl; rfl; rfl
  apply dn
  apply x3
  apply CodeT.ret
  cases H
  apply x12
  exact RetIs.sc1 rfl
theorem m_laws_szBigInt (a0 : BigInt) (a1 : Int) (r : Int) (H : laws_szBigInt a0 a1 = some r) : Meets Try.prog 67 [.agg (encBigInt a0), .sc (.int .i64 a1)] (.sc (.int .i64 r)) true := by
  refine Meets.intro2 (N := 12) (rs := #[.tmp 4]) Try.func67 rfl rfl rfl rfl ?_
  intro Γ hio
  unfold laws_szBigInt at H
  (repeat apply sq)
  apply rg
  apply Run.op; (apply L_box false; rfl; rfl; rfl; (exact io1 hio _); rfl); rfl; rfl
  apply R_asg; rfl; rfl; rfl
  apply dn
  apply x3
  (repeat apply sq)
  apply rg
  apply R_fldP; rfl; rfl; rfl; rfl; rfl
  apply R_ldP; rfl; rfl; rfl; rfl; rfl; rfl
  apply R_mov; rfl; rfl; rfl
  obtain ⟨r1, hr1, H⟩ := bindS H
  apply Run.op; (apply L_call; ((apply ArgsV.cons; (apply ArgV.val; rfl; rfl)); (apply ArgsV.cons; (apply ArgV.val; rfl; rfl)); (apply ArgsV.nil)); (exact m_laws_szIntS a0.fMag a1 _ hr1); rfl; rfl; rfl); rfl; rfl
  apply R_asg; rfl; rfl; rfl
  apply dn
  apply x3
  (repeat apply sq)
  apply rg
  apply R_mov; rfl; rfl; rfl
  apply R_lss; rfl; rfl; rfl; rfl
  apply dn
  apply x3
  (repeat apply sq)
  refine CodeT.cond rfl (fun h => ?_) (fun h => ?_)
  replace H := ifT (of_decide_eq_true h) H
  (repeat apply sq)
  apply rg
  apply R_asg; rfl; rfl; rfl
  apply dn
  apply x3
  apply CodeT.ret
  apply x1
  cases H
  apply x12
  exact RetIs.sc1 rfl
  replace H := ifF (of_decide_eq_false h) H
  (repeat apply sq)
  apply CodeT.skip
  apply x3
  (repeat apply sq)
  apply rg
  apply R_mov; rfl; rfl; rfl
  apply R_asg; rfl; rfl; rfl
  apply dn
  apply x3
  apply CodeT.ret
  cases H
  apply x12
  exact RetIs.sc1 rfl
theorem m_laws_szRat (a0 : Rat) (a1 : Int) (r : Int) (H : laws_szRat a0 a1 = some r) : Meets Try.prog 40 [.agg (encRat a0), .sc (.int .i64 a1)] (.sc (.int .i64 r)) true := by
  refine Meets.intro2 (N := 18) (rs := #[.tmp 4]) Try.func40 rfl rfl rfl rfl ?_
  intro Γ hio
  unfold laws_szRat at H
  (repeat apply sq)
  apply rg
  apply Run.op; (apply L_box false; rfl; rfl; rfl; (exact io1 hio _); rfl); rfl; rfl
  apply R_asg; rfl; rfl; rfl
  apply dn
  apply x3
  (repeat apply sq)
  apply rg
  apply R_fldP; rfl; rfl; rfl; rfl; rfl
  apply R_ldPA; rfl; rfl; (first | exact seg_whole rfl | rfl); rfl; rfl; rfl; rfl; rfl
  apply R_mov; rfl; rfl; rfl
  obtain ⟨r1, hr1, H⟩ := bindS H
  apply Run.op; (apply L_call; ((apply ArgsV.cons; (apply ArgV.val; rfl; rfl)); (apply ArgsV.cons; (apply ArgV.val; rfl; rfl)); (apply ArgsV.nil)); (exact m_laws_szBigInt a0.fNum a1 _ hr1); rfl; rfl; rfl); rfl; rfl
  apply R_asg; rfl; rfl; rfl
  apply dn
  apply x3
  (repeat apply sq)
  apply rg
  apply R_mov; rfl; rfl; rfl
  apply R_lss; rfl; rfl; rfl; rfl
  apply dn
  apply x3
  (repeat apply sq)
  refine CodeT.cond rfl (fun h => ?_) (fun h => ?_)
  replace H := ifT (of_decide_eq_true h) H
  (repeat apply sq)
  apply rg
  apply R_asg; rfl; rfl; rfl
  apply dn
  apply x3
  apply CodeT.ret
  apply x1
  cases H
  apply x12
  exact RetIs.sc1 rfl
  replace H := ifF (of_decide_eq_false h) H
  (repeat apply sq)
  apply CodeT.skip
  apply x3
  (repeat apply sq)
  apply rg
  apply R_fldP; rfl; rfl; rfl; rfl; rfl
  apply R_ldP; rfl; rfl; rfl; rfl; rfl; rfl
  apply R_mov; rfl; rfl; rfl
  obtain ⟨r2, hr2, H⟩ := bindS H
  apply Run.op; (apply L_call; ((apply ArgsV.cons; (apply ArgV.val; rfl; rfl)); (apply ArgsV.cons; (apply ArgV.val; rfl; rfl)); (apply ArgsV.nil)); (exact m_laws_szIntS a0.fDen r1 _ hr2); rfl; rfl; rfl); rfl; rfl
  apply R_asg; rfl; rfl; rfl
  apply dn
  apply x3
  (repeat apply sq)
  apply rg
  apply R_mov; rfl; rfl; rfl
  apply R_lss; rfl; rfl; rfl; rfl
  apply dn
  apply x3
  (repeat apply sq)
  refine CodeT.cond rfl (fun h => ?_) (fun h => ?_)
  replace H := ifT (of_decide_eq_true h) H
  (repeat apply sq)
  apply rg
  apply R_asg; rfl; rfl; rfl
  apply dn
  apply x3
  apply CodeT.ret
  apply x1
  cases H
  apply x12
  exact RetIs.sc1 rfl
  replace H := ifF (of_decide_eq_false h) H
  (repeat apply sq)
  apply CodeT.skip
  apply x3
  (repeat apply sq)
  apply rg
  apply R_mov; rfl; rfl; rfl
  apply R_asg; rfl; rfl; rfl
  apply dn
  apply x3
  apply CodeT.ret
  cases H
  apply x12
  exact RetIs.sc1 rfl
theorem m_laws_szLink (a0 : Link) (a1 : Int) (r : Int) (H : laws_szLink a0 a1 = some r) : Meets Try.prog 65 [.agg (encLink a0), .sc (.int .i64 a1)] (.sc (.int .i64 r)) true := by
  refine Meets.intro2 (N := 24) (rs := #[.tmp 4]) Try.func65 rfl rfl rfl rfl ?_
  intro Γ hio
  unfold laws_szLink at H
  (repeat apply sq)
  apply rg
  apply Run.op; (apply L_box false; rfl; rfl; rfl; (exact io1 hio _); rfl); rfl; rfl
  apply R_asg; rfl; rfl; rfl
  apply dn
  apply x3
  (repeat apply sq)
  apply rg
  apply R_fldP; rfl; rfl; rfl; rfl; rfl
  apply R_ldPA; rfl; rfl; (first | exact seg_whole rfl | rfl); rfl; rfl; rfl; rfl; rfl
  apply R_mov; rfl; rfl; rfl
  obtain ⟨r1, hr1, H⟩ := bindS H
  apply Run.op; (apply L_call; ((apply ArgsV.cons; (apply ArgV.val; rfl; rfl)); (apply ArgsV.cons; (apply ArgV.val; rfl; rfl)); (apply ArgsV.nil)); (exact m_laws_szRat a0.fWeight a1 _ hr1); rfl; rfl; rfl); rfl; rfl
  apply R_asg; rfl; rfl; rfl
  apply dn
  apply x3
  (repeat apply sq)
  apply rg
  apply R_mov; rfl; rfl; rfl
  apply R_lss; rfl; rfl; rfl; rfl
  apply dn
  apply x3
  (repeat apply sq)
  refine CodeT.cond rfl (fun h => ?_) (fun h => ?_)
  replace H := ifT (of_decide_eq_true h) H
  (repeat apply sq)
  apply rg
  apply R_asg; rfl; rfl; rfl
  apply dn
  apply x3
  apply CodeT.ret
  apply x1
  cases H
  apply x12
  exact RetIs.sc1 rfl
  replace H := ifF (of_decide_eq_false h) H
  (repeat apply sq)
  apply CodeT.skip
  apply x3
  (repeat apply sq)
  apply rg
  apply R_fldP; rfl; rfl; rfl; rfl; rfl
  apply R_ldPA; rfl; rfl; (first | exact seg_whole rfl | rfl); rfl; rfl; rfl; rfl; rfl
  apply R_mov; rfl; rfl; rfl
  obtain ⟨r2, hr2, H⟩ := bindS H
  apply Run.op; (apply L_call; ((apply ArgsV.cons; (apply ArgV.val; rfl; rfl)); (apply ArgsV.cons; (apply ArgV.val; rfl; rfl)); (apply ArgsV.nil)); (exact m_laws_szRat a0.fDX r1 _ hr2); rfl; rfl; rfl); rfl; rfl
  apply R_asg; rfl; rfl; rfl
  apply dn
  apply x3
  (repeat apply sq)
  apply rg
  apply R_mov; rfl; rfl; rfl
  apply R_lss; rfl; rfl; rfl; rfl
  apply dn
  apply x3
  (repeat apply sq)
  refine CodeT.cond rfl (fun h => ?_) (fun h => ?_)
  replace H := ifT (of_decide_eq_true h) H
  (repeat apply sq)
  apply rg
  apply R_asg; rfl; rfl; rfl
  apply dn
  apply x3
  apply CodeT.ret
  apply x1
  cases H
  apply x12
  exact RetIs.sc1 rfl
  replace H := ifF (of_decide_eq_false h) H
  (repeat apply sq)
  apply CodeT.skip
  apply x3
  (repeat apply sq)
  apply rg
  apply R_fldP; rfl; rfl; rfl; rfl; rfl
  apply R_ldPA; rfl; rfl; (first | exact seg_whole rfl | rfl); rfl; rfl; rfl; rfl; rfl
  apply R_mov; rfl; rfl; rfl
  obtain ⟨r3, hr3, H⟩ := bindS H
  apply Run.op; (apply L_call; ((apply ArgsV.cons; (apply ArgV.val; rfl; rfl)); (apply ArgsV.cons; (apply ArgV.val; rfl; rfl)); (apply ArgsV.nil)); (exact m_laws_szRat a0.fDY r2 _ hr3); rfl; rfl; rfl); rfl; rfl
  apply R_asg; rfl; rfl; rfl
  apply dn
  apply x3
  (repeat apply sq)
  apply rg
  apply R_mov; rfl; rfl; rfl
  apply R_lss; rfl; rfl; rfl; rfl
  apply dn
  apply x3
  (repeat apply sq)
  refine CodeT.cond rfl (fun h => ?_) (fun h => ?_)
  replace H := ifT (of_decide_eq_true h) H
  (repeat apply sq)
  apply rg
  apply R_asg; rfl; rfl; rfl
  apply dn
  apply x3
  apply CodeT.ret
  apply x1
  cases H
  apply x12
  exact RetIs.sc1 rfl
  replace H := ifF (of_decide_eq_false h) H
  (repeat apply sq)
  apply CodeT.skip
  apply x3
  (repeat apply sq)
  apply rg
  apply R_mov; rfl; rfl; rfl
  apply R_asg; rfl; rfl; rfl
  apply dn
  apply x3
  apply CodeT.ret
  cases H
  apply x12
  exact RetIs.sc1 rfl
theorem m_laws_szLinkS (a0 : (List Link)) (a1 : Int) (r : Int) (H : laws_szLinkS a0 a1 = some r) : Meets Try.prog 38 [.sl a0.length (a0.flatMap encLink), .sc (.int .i64 a1)] (.sc (.int .i64 r)) true := by
  refine Meets.intro2 (N := 27) (rs := #[.tmp 4]) Try.func38 rfl rfl rfl rfl ?_
  intro Γ hio
  unfold laws_szLinkS at H
  (repeat apply sq)
  apply rg
  apply R_asg; rfl; rfl; rfl
  apply dn
  apply x3
  (repeat apply sq)
  apply rg
  apply R_mov; rfl; rfl; rfl
  apply R_mov; rfl; rfl; rfl
  apply R_len; rfl; rfl; rfl
  obtain ⟨v1, hv1, H⟩ := bindS H
  apply R_sub; rfl; rfl; (exact letS hv1); rfl; rfl
  apply R_asg; rfl; rfl; rfl
  apply dn
  apply x3
  (repeat apply sq)
  apply rg
  apply R_mov; rfl; rfl; rfl
  apply R_lss; rfl; rfl; rfl; rfl
  apply dn
  apply x3
  (repeat apply sq)
  refine CodeT.cond rfl (fun h => ?_) (fun h => ?_)
  replace H := ifT (of_decide_eq_true h) H
  (repeat apply sq)
  apply rg
  apply R_asg; rfl; rfl; rfl
  apply dn
  apply x3
  apply CodeT.ret
  apply x1
  cases H
  apply x12
  exact RetIs.sc1 rfl
  replace H := ifF (of_decide_eq_false h) H
  (repeat apply sq)
  apply CodeT.skip
  apply x3
  (repeat apply sq)
  apply rg
  apply R_asg; rfl; rfl; rfl
  apply dn
  apply x3
  (repeat apply sq)
  apply CodeT.block
  (repeat apply sq)
  obtain ⟨d8, hd8, H⟩ := bindS H
  refine CodeT.lloop (fun s => ⟨[(0, ⟨.sl a0.length (a0.flatMap encLink), false⟩), (1, ⟨.sc (.int .i64 s.1), false⟩), (5, ⟨.sc (.int .i64 s.2), false⟩)], []⟩) (fun x e E => match x with | (.inl d) => XEnv Γ (.exit 0) ⟨[(1, ⟨.sc (.int .i64 d), false⟩)], []⟩ e E | (.inr d) => XRet Γ #[.tmp 4] (.sc (.int .i64 d)) true e E) hd8 ?_ ?_ ?_
  apply el [] (io0 hio _) <;> rfl
  clear H hd8
  rintro ⟨v4, v5⟩ o H
  unfold laws_szLinkS_L1 at H
  (repeat apply sq)
  apply rg
  apply R_mov; rfl; rfl; rfl
  apply R_mov; rfl; rfl; rfl
  apply R_len; rfl; rfl; rfl
  apply R_lss; rfl; rfl; rfl; rfl
  apply dn
  apply x3
  (repeat apply sq)
  refine CodeT.cond rfl (fun h => ?_) (fun h => ?_)
  replace H := ifT (of_decide_eq_true h) H
  (repeat apply sq)
  apply CodeT.skip
  apply x3
  (repeat apply sq)
  apply CodeT.block
  (repeat apply sq)
  apply rg
  apply R_mov; rfl; rfl; rfl
  apply R_mov; rfl; rfl; rfl
  obtain ⟨y6, hy6, H⟩ := bindS H
  apply Run.op; (apply L_ixS2; rfl; rfl; rfl; (exact hy6); (intro _; rfl); rfl); rfl; rfl
  apply Run.op; (apply L_ldIA; rfl; (first | exact take_whole rfl | rfl); rfl; (intro h; cases h); rfl; rfl); rfl; rfl
  apply R_mov; rfl; rfl; rfl
  obtain ⟨r7, hr7, H⟩ := bindS H
  apply Run.op; (apply L_call; ((apply ArgsV.cons; (apply ArgV.val; rfl; rfl)); (apply ArgsV.cons; (apply ArgV.val; rfl; rfl)); (apply ArgsV.nil)); (exact m_laws_szLink y6 v4 _ hr7); rfl; rfl; rfl); rfl; rfl
  apply R_asg; rfl; rfl; rfl
  apply dn
  apply x3
  (repeat apply sq)
  apply rg
  apply R_mov; rfl; rfl; rfl
  apply R_lss; rfl; rfl; rfl; rfl
  apply dn
  apply x3
  refine CodeT.cond rfl (fun h => ?_) (fun h => ?_)
  replace H := ifT (of_decide_eq_true h) H
  (repeat apply sq)
  apply rg
  apply R_asg; rfl; rfl; rfl
  apply dn
  apply x3
  apply CodeT.ret
  apply x4
  apply x1
  obtain rfl := Option.some.inj H
  refine Ev.y2 ?_
  refine XRet.mk ?_
  exact RetIs.sc1 rfl
  replace H := ifF (of_decide_eq_false h) H
  (repeat apply sq)
  apply CodeT.skip
  apply x5
  apply x3
  apply rg
  apply R_mov; rfl; rfl; rfl
  apply R_add; rfl; rfl; rfl; rfl; rfl
  apply R_asg; rfl; rfl; rfl
  apply dn
  obtain rfl := Option.some.inj H
  refine Ev.y1 ?_
  apply el [] (io0 hio _) <;> rfl
  replace H := ifF (of_decide_eq_false h) H
  (repeat apply sq)
  apply CodeT.exit
  apply x2
  obtain rfl := Option.some.inj H
  refine Ev.y3 ?_
  refine XEnv.mk ?_
  apply el [] (io0 hio _) <;> rfl
  rcases d8 with (d9 | d11)
  intro e E' hX; obtain ⟨rfl, g10⟩ := XEnv.out hX
  refine x6 rfl ?_
  apply x3
  refine CodeT.weak g10 ?_
  (repeat apply sq)
  apply rg
  apply R_mov; rfl; rfl; rfl
  apply R_asg; rfl; rfl; rfl
  apply dn
  apply x3
  apply CodeT.ret
  cases H
  apply x12
  exact RetIs.sc1 rfl
  intro e E' hX; obtain ⟨rfl, g12⟩ := XRet.out hX
  apply x4
  apply x1
  cases H
  apply x12
  exact g12
theorem m_laws_szParent (a0 : Parent) (a1 : Int) (r : Int) (H : laws_szParent a0 a1 = some r) : Meets Try.prog 91 [.agg (encParent a0), .sc (.int .i64 a1)] (.sc (.int .i64 r)) true := by
  refine Meets.intro2 (N := 24) (rs := #[.tmp 4]) Try.func91 rfl rfl rfl rfl ?_
  intro Γ hio
  unfold laws_szParent at H
  (repeat apply sq)
  apply rg
  apply Run.op; (apply L_box false; rfl; rfl; rfl; (exact io1 hio _); rfl); rfl; rfl
  apply R_asg; rfl; rfl; rfl
  apply dn
  apply x3
  (repeat apply sq)
  apply rg
  apply R_fldP; rfl; rfl; rfl; rfl; rfl
  apply R_ldPA; rfl; rfl; (first | exact seg_whole rfl | rfl); rfl; rfl; rfl; rfl; rfl
  apply R_mov; rfl; rfl; rfl
  obtain ⟨r1, hr1, H⟩ := bindS H
  apply Run.op; (apply L_call; ((apply ArgsV.cons; (apply ArgV.val; rfl; rfl)); (apply ArgsV.cons; (apply ArgV.val; rfl; rfl)); (apply ArgsV.nil)); (exact m_laws_szRat a0.fShare a1 _ hr1); rfl; rfl; rfl); rfl; rfl
  apply R_asg; rfl; rfl; rfl
  apply dn
  apply x3
  (repeat apply sq)
  apply rg
  apply R_mov; rfl; rfl; rfl
  apply R_lss; rfl; rfl; rfl; rfl
  apply dn
  apply x3
  (repeat apply sq)
  refine CodeT.cond rfl (fun h => ?_) (fun h => ?_)
  replace H := ifT (of_decide_eq_true h) H
  (repeat apply sq)
  apply rg
  apply R_asg; rfl; rfl; rfl
  apply dn
  apply x3
  apply CodeT.ret
  apply x1
  cases H
  apply x12
  exact RetIs.sc1 rfl
  replace H := ifF (of_decide_eq_false h) H
  (repeat apply sq)
  apply CodeT.skip
  apply x3
  (repeat apply sq)
  apply rg
  apply R_fldP; rfl; rfl; rfl; rfl; rfl
  apply R_ldPA; rfl; rfl; (first | exact seg_whole rfl | rfl); rfl; rfl; rfl; rfl; rfl
  apply R_mov; rfl; rfl; rfl
  obtain ⟨r2, hr2, H⟩ := bindS H
  apply Run.op; (apply L_call; ((apply ArgsV.cons; (apply ArgV.val; rfl; rfl)); (apply ArgsV.cons; (apply ArgV.val; rfl; rfl)); (apply ArgsV.nil)); (exact m_laws_szRat a0.fDX r1 _ hr2); rfl; rfl; rfl); rfl; rfl
  apply R_asg; rfl; rfl; rfl
  apply dn
  apply x3
  (repeat apply sq)
  apply rg
  apply R_mov; rfl; rfl; rfl
  apply R_lss; rfl; rfl; rfl; rfl
  apply dn
  apply x3
  (repeat apply sq)
  refine CodeT.cond rfl (fun h => ?_) (fun h => ?_)
  replace H := ifT (of_decide_eq_true h) H
  (repeat apply sq)
  apply rg
  apply R_asg; rfl; rfl; rfl
  apply dn
  apply x3
  apply CodeT.ret
  apply x1
  cases H
  apply x12
  exact RetIs.sc1 rfl
  replace H := ifF (of_decide_eq_false h) H
  (repeat apply sq)
  apply CodeT.skip
  apply x3
  (repeat apply sq)
  apply rg
  apply R_fldP; rfl; rfl; rfl; rfl; rfl
  apply R_ldPA; rfl; rfl; (first | exact seg_whole rfl | rfl); rfl; rfl; rfl; rfl; rfl
  apply R_mov; rfl; rfl; rfl
  obtain ⟨r3, hr3, H⟩ := bindS H
  apply Run.op; (apply L_call; ((apply ArgsV.cons; (apply ArgV.val; rfl; rfl)); (apply ArgsV.cons; (apply ArgV.val; rfl; rfl)); (apply ArgsV.nil)); (exact m_laws_szRat a0.fDY r2 _ hr3); rfl; rfl; rfl); rfl; rfl
  apply R_asg; rfl; rfl; rfl
  apply dn
  apply x3
  (repeat apply sq)
  apply rg
  apply R_mov; rfl; rfl; rfl
  apply R_lss; rfl; rfl; rfl; rfl
  apply dn
  apply x3
  (repeat apply sq)
  refine CodeT.cond rfl (fun h => ?_) (fun h => ?_)
  replace H := ifT (of_decide_eq_true h) H
  (repeat apply sq)
  apply rg
  apply R_asg; rfl; rfl; rfl
  apply dn
  apply x3
  apply CodeT.ret
  apply x1
  cases H
  apply x12
  exact RetIs.sc1 rfl
  replace H := ifF (of_decide_eq_false h) H
  (repeat apply sq)
  apply CodeT.skip
  apply x3
  (repeat apply sq)
  apply rg
  apply R_mov; rfl; rfl; rfl
  apply R_asg; rfl; rfl; rfl
  apply dn
  apply x3
  apply CodeT.ret
  cases H
  apply x12
  exact RetIs.sc1 rfl
theorem m_laws_szParentS (a0 : (List Parent)) (a1 : Int) (r : Int) (H : laws_szParentS a0 a1 = some r) : Meets Try.prog 66 [.sl a0.length (a0.flatMap encParent), .sc (.int .i64 a1)] (.sc (.int .i64 r)) true := by
  refine Meets.intro2 (N := 27) (rs := #[.tmp 4]) Try.func66 rfl rfl rfl rfl ?_
  intro Γ hio
  unfold laws_szParentS at H
  (repeat apply sq)
  apply rg
  apply R_asg; rfl; rfl; rfl
  apply dn
  apply x3
  (repeat apply sq)
  apply rg
  apply R_mov; rfl; rfl; rfl
  apply R_mov; rfl; rfl; rfl
  apply R_len; rfl; rfl; rfl
  obtain ⟨v1, hv1, H⟩ := bindS H
  apply R_sub; rfl; rfl; (exact letS hv1); rfl; rfl
  apply R_asg; rfl; rfl; rfl
  apply dn
  apply x3
  (repeat apply sq)
  apply rg
  apply R_mov; rfl; rfl; rfl
  apply R_lss; rfl; rfl; rfl; rfl
  apply dn
  apply x3
  (repeat apply sq)
  refine CodeT.cond rfl (fun h => ?_) (fun h => ?_)
  replace H := ifT (of_decide_eq_true h) H
  (repeat apply sq)
  apply rg
  apply R_asg; rfl; rfl; rfl
  apply dn
  apply x3
  apply CodeT.ret
  apply x1
  cases H
  apply x12
  exact RetIs.sc1 rfl
  replace H := ifF (of_decide_eq_false h) H
  (repeat apply sq)
  apply CodeT.skip
  apply x3
  (repeat apply sq)
  apply rg
  apply R_asg; rfl; rfl; rfl
  apply dn
  apply x3
  (repeat apply sq)
  apply CodeT.block
  (repeat apply sq)
  obtain ⟨d8, hd8, H⟩ := bindS H
  refine CodeT.lloop (fun s => ⟨[(0, ⟨.sl a0.length (a0.flatMap encParent), false⟩), (1, ⟨.sc (.int .i64 s.1), false⟩), (5, ⟨.sc (.int .i64 s.2), false⟩)], []⟩) (fun x e E => match x with | (.inl d) => XEnv Γ (.exit 0) ⟨[(1, ⟨.sc (.int .i64 d), false⟩)], []⟩ e E | (.inr d) => XRet Γ #[.tmp 4] (.sc (.int .i64 d)) true e E) hd8 ?_ ?_ ?_
  apply el [] (io0 hio _) <;> rfl
  clear H hd8
  rintro ⟨v4, v5⟩ o H
  unfold laws_szParentS_L1 at H
  (repeat apply sq)
  apply rg
  apply R_mov; rfl; rfl; rfl
  apply R_mov; rfl; rfl; rfl
  apply R_len; rfl; rfl; rfl
  apply R_lss; rfl; rfl; rfl; rfl
  apply dn
  apply x3
  (repeat apply sq)
  refine CodeT.cond rfl (fun h => ?_) (fun h => ?_)
  replace H := ifT (of_decide_eq_true h) H
  (repeat apply sq)
  apply CodeT.skip
  apply x3
  (repeat apply sq)
  apply CodeT.block
  (repeat apply sq)
  apply rg
  apply R_mov; rfl; rfl; rfl
  apply R_mov; rfl; rfl; rfl
  obtain ⟨y6, hy6, H⟩ := bindS H
  apply Run.op; (apply L_ixS2; rfl; rfl; rfl; (exact hy6); (intro _; rfl); rfl); rfl; rfl
  apply Run.op; (apply L_ldIA; rfl; (first | exact take_whole rfl | rfl); rfl; (intro h; cases h); rfl; rfl); rfl; rfl
  apply R_mov; rfl; rfl; rfl
  obtain ⟨r7, hr7, H⟩ := bindS H
  apply Run.op; (apply L_call; ((apply ArgsV.cons; (apply ArgV.val; rfl; rfl)); (apply ArgsV.cons; (apply ArgV.val; rfl; rfl)); (apply ArgsV.nil)); (exact m_laws_szParent y6 v4 _ hr7); rfl; rfl; rfl); rfl; rfl
  apply R_asg; rfl; rfl; rfl
  apply dn
  apply x3
  (repeat apply sq)
  apply rg
  apply R_mov; rfl; rfl; rfl
  apply R_lss; rfl; rfl; rfl; rfl
  apply dn
  apply x3
  refine CodeT.cond rfl (fun h => ?_) (fun h => ?_)
  replace H := ifT (of_decide_eq_true h) H
  (repeat apply sq)
  apply rg
  apply R_asg; rfl; rfl; rfl
  apply dn
  apply x3
  apply CodeT.ret
  apply x4
  apply x1
  obtain rfl := Option.some.inj H
  refine Ev.y2 ?_
  refine XRet.mk ?_
  exact RetIs.sc1 rfl
  replace H := ifF (of_decide_eq_false h) H
  (repeat apply sq)
  apply CodeT.skip
  apply x5
  apply x3
  apply rg
  apply R_mov; rfl; rfl; rfl
  apply R_add; rfl; rfl; rfl; rfl; rfl
  apply R_asg; rfl; rfl; rfl
  apply dn
  obtain rfl := Option.some.inj H
  refine Ev.y1 ?_
  apply el [] (io0 hio _) <;> rfl
  replace H := ifF (of_decide_eq_false h) H
  (repeat apply sq)
  apply CodeT.exit
  apply x2
  obtain rfl := Option.some.inj H
  refine Ev.y3 ?_
  refine XEnv.mk ?_
  apply el [] (io0 hio _) <;> rfl
  rcases d8 with (d9 | d11)
  intro e E' hX; obtain ⟨rfl, g10⟩ := XEnv.out hX
  refine x6 rfl ?_
  apply x3
  refine CodeT.weak g10 ?_
  (repeat apply sq)
  apply rg
  apply R_mov; rfl; rfl; rfl
  apply R_asg; rfl; rfl; rfl
  apply dn
  apply x3
  apply CodeT.ret
  cases H
  apply x12
  exact RetIs.sc1 rfl
  intro e E' hX; obtain ⟨rfl, g12⟩ := XRet.out hX
  apply x4
  apply x1
  cases H
  apply x12
  exact g12
theorem m_laws_szConditional (a0 : Conditional) (a1 : Int) (r : Int) (H : laws_szConditional a0 a1 = some r) : Meets Try.prog 39 [.agg (encConditional a0), .sc (.int .i64 a1)] (.sc (.int .i64 r)) true := by
  refine Meets.intro2 (N := 18) (rs := #[.tmp 4]) Try.func39 rfl rfl rfl rfl ?_
  intro Γ hio
  unfold laws_szConditional at H
  (repeat apply sq)
  apply rg
  apply Run.op; (apply L_box false; rfl; rfl; rfl; (exact io1 hio _); rfl); rfl; rfl
  apply R_asg; rfl; rfl; rfl
  apply dn
  apply x3
  (repeat apply sq)
  apply rg
  apply R_fldP; rfl; rfl; rfl; rfl; rfl
  apply R_ldPA; rfl; rfl; (first | exact seg_whole rfl | rfl); rfl; rfl; rfl; rfl; rfl
  apply R_mov; rfl; rfl; rfl
  obtain ⟨r1, hr1, H⟩ := bindS H
  apply Run.op; (apply L_call; ((apply ArgsV.cons; (apply ArgV.val; rfl; rfl)); (apply ArgsV.cons; (apply ArgV.val; rfl; rfl)); (apply ArgsV.nil)); (exact m_laws_szRat a0.fTotal a1 _ hr1); rfl; rfl; rfl); rfl; rfl
  apply R_asg; rfl; rfl; rfl
  apply dn
  apply x3
  (repeat apply sq)
  apply rg
  apply R_mov; rfl; rfl; rfl
  apply R_lss; rfl; rfl; rfl; rfl
  apply dn
  apply x3
  (repeat apply sq)
  refine CodeT.cond rfl (fun h => ?_) (fun h => ?_)
  replace H := ifT (of_decide_eq_true h) H
  (repeat apply sq)
  apply rg
  apply R_asg; rfl; rfl; rfl
  apply dn
  apply x3
  apply CodeT.ret
  apply x1
  cases H
  apply x12
  exact RetIs.sc1 rfl
  replace H := ifF (of_decide_eq_false h) H
  (repeat apply sq)
  apply CodeT.skip
  apply x3
  (repeat apply sq)
  apply rg
  apply R_fldP; rfl; rfl; rfl; rfl; rfl
  apply R_ldP; rfl; rfl; rfl; rfl; rfl; rfl
  apply R_mov; rfl; rfl; rfl
  obtain ⟨r2, hr2, H⟩ := bindS H
  apply Run.op; (apply L_call; ((apply ArgsV.cons; (apply ArgV.val; rfl; rfl)); (apply ArgsV.cons; (apply ArgV.val; rfl; rfl)); (apply ArgsV.nil)); (exact m_laws_szParentS a0.fParents r1 _ hr2); rfl; rfl; rfl); rfl; rfl
  apply R_asg; rfl; rfl; rfl
  apply dn
  apply x3
  (repeat apply sq)
  apply rg
  apply R_mov; rfl; rfl; rfl
  apply R_lss; rfl; rfl; rfl; rfl
  apply dn
  apply x3
  (repeat apply sq)
  refine CodeT.cond rfl (fun h => ?_) (fun h => ?_)
  replace H := ifT (of_decide_eq_true h) H
  (repeat apply sq)
  apply rg
  apply R_asg; rfl; rfl; rfl
  apply dn
  apply x3
  apply CodeT.ret
  apply x1
  cases H
  apply x12
  exact RetIs.sc1 rfl
  replace H := ifF (of_decide_eq_false h) H
  (repeat apply sq)
  apply CodeT.skip
  apply x3
  (repeat apply sq)
  apply rg
  apply R_mov; rfl; rfl; rfl
  apply R_asg; rfl; rfl; rfl
  apply dn
  apply x3
  apply CodeT.ret
  cases H
  apply x12
  exact RetIs.sc1 rfl
theorem m_laws_szTreeNode (a0 : TreeNode) (a1 : Int) (r : Int) (H : laws_szTreeNode a0 a1 = some r) : Meets Try.prog 27 [.agg (encTreeNode a0), .sc (.int .i64 a1)] (.sc (.int .i64 r)) true := by
  refine Meets.intro2 (N := 30) (rs := #[.tmp 4]) Try.func27 rfl rfl rfl rfl ?_
  intro Γ hio
  unfold laws_szTreeNode at H
  (repeat apply sq)
  apply rg
  apply Run.op; (apply L_box false; rfl; rfl; rfl; (exact io1 hio _); rfl); rfl; rfl
  apply R_asg; rfl; rfl; rfl
  apply dn
  apply x3
  (repeat apply sq)
  apply rg
  apply R_fldP; rfl; rfl; rfl; rfl; rfl
  apply R_ldP; rfl; rfl; rfl; rfl; rfl; rfl
  apply R_mov; rfl; rfl; rfl
  obtain ⟨r1, hr1, H⟩ := bindS H
  apply Run.op; (apply L_call; ((apply ArgsV.cons; (apply ArgV.val; rfl; rfl)); (apply ArgsV.cons; (apply ArgV.val; rfl; rfl)); (apply ArgsV.nil)); (exact m_laws_szLinkS a0.fOwn a1 _ hr1); rfl; rfl; rfl); rfl; rfl
  apply R_asg; rfl; rfl; rfl
  apply dn
  apply x3
  (repeat apply sq)
  apply rg
  apply R_mov; rfl; rfl; rfl
  apply R_lss; rfl; rfl; rfl; rfl
  apply dn
  apply x3
  (repeat apply sq)
  refine CodeT.cond rfl (fun h => ?_) (fun h => ?_)
  replace H := ifT (of_decide_eq_true h) H
  (repeat apply sq)
  apply rg
  apply R_asg; rfl; rfl; rfl
  apply dn
  apply x3
  apply CodeT.ret
  apply x1
  cases H
  apply x12
  exact RetIs.sc1 rfl
  replace H := ifF (of_decide_eq_false h) H
  (repeat apply sq)
  apply CodeT.skip
  apply x3
  (repeat apply sq)
  apply rg
  apply R_fldP; rfl; rfl; rfl; rfl; rfl
  apply R_ldPA; rfl; rfl; (first | exact seg_whole rfl | rfl); rfl; rfl; rfl; rfl; rfl
  apply R_mov; rfl; rfl; rfl
  obtain ⟨r2, hr2, H⟩ := bindS H
  apply Run.op; (apply L_call; ((apply ArgsV.cons; (apply ArgV.val; rfl; rfl)); (apply ArgsV.cons; (apply ArgV.val; rfl; rfl)); (apply ArgsV.nil)); (exact m_laws_szConditional a0.fCond r1 _ hr2); rfl; rfl; rfl); rfl; rfl
  apply R_asg; rfl; rfl; rfl
  apply dn
  apply x3
  (repeat apply sq)
  apply rg
  apply R_mov; rfl; rfl; rfl
  apply R_lss; rfl; rfl; rfl; rfl
  apply dn
  apply x3
  (repeat apply sq)
  refine CodeT.cond rfl (fun h => ?_) (fun h => ?_)
  replace H := ifT (of_decide_eq_true h) H
  (repeat apply sq)
  apply rg
  apply R_asg; rfl; rfl; rfl
  apply dn
  apply x3
  apply CodeT.ret
  apply x1
  cases H
  apply x12
  exact RetIs.sc1 rfl
  replace H := ifF (of_decide_eq_false h) H
  (repeat apply sq)
  apply CodeT.skip
  apply x3
  (repeat apply sq)
  apply rg
  apply R_fldP; rfl; rfl; rfl; rfl; rfl
  apply R_ldP; rfl; rfl; rfl; rfl; rfl; rfl
  apply R_mov; rfl; rfl; rfl
  obtain ⟨r3, hr3, H⟩ := bindS H
  apply Run.op; (apply L_call; ((apply ArgsV.cons; (apply ArgV.val; rfl; rfl)); (apply ArgsV.cons; (apply ArgV.val; rfl; rfl)); (apply ArgsV.nil)); (exact m_laws_szLinkS a0.fMessages r2 _ hr3); rfl; rfl; rfl); rfl; rfl
  apply R_asg; rfl; rfl; rfl
  apply dn
  apply x3
  (repeat apply sq)
  apply rg
  apply R_mov; rfl; rfl; rfl
  apply R_lss; rfl; rfl; rfl; rfl
  apply dn
  apply x3
  (repeat apply sq)
  refine CodeT.cond rfl (fun h => ?_) (fun h => ?_)
  replace H := ifT (of_decide_eq_true h) H
  (repeat apply sq)
  apply rg
  apply R_asg; rfl; rfl; rfl
  apply dn
  apply x3
  apply CodeT.ret
  apply x1
  cases H
  apply x12
  exact RetIs.sc1 rfl
  replace H := ifF (of_decide_eq_false h) H
  (repeat apply sq)
  apply CodeT.skip
  apply x3
  (repeat apply sq)
  apply rg
  apply R_fldP; rfl; rfl; rfl; rfl; rfl
  apply R_ldPA; rfl; rfl; (first | exact seg_whole rfl | rfl); rfl; rfl; rfl; rfl; rfl
  apply R_mov; rfl; rfl; rfl
  obtain ⟨r4, hr4, H⟩ := bindS H
  apply Run.op; (apply L_call; ((apply ArgsV.cons; (apply ArgV.val; rfl; rfl)); (apply ArgsV.cons; (apply ArgV.val; rfl; rfl)); (apply ArgsV.nil)); (exact m_laws_szRat a0.fEnergy r3 _ hr4); rfl; rfl; rfl); rfl; rfl
  apply R_asg; rfl; rfl; rfl
  apply dn
  apply x3
  (repeat apply sq)
  apply rg
  apply R_mov; rfl; rfl; rfl
  apply R_lss; rfl; rfl; rfl; rfl
  apply dn
  apply x3
  (repeat apply sq)
  refine CodeT.cond rfl (fun h => ?_) (fun h => ?_)
  replace H := ifT (of_decide_eq_true h) H
  (repeat apply sq)
  apply rg
  apply R_asg; rfl; rfl; rfl
  apply dn
  apply x3
  apply CodeT.ret
  apply x1
  cases H
  apply x12
  exact RetIs.sc1 rfl
  replace H := ifF (of_decide_eq_false h) H
  (repeat apply sq)
  apply CodeT.skip
  apply x3
  (repeat apply sq)
  apply rg
  apply R_mov; rfl; rfl; rfl
  apply R_asg; rfl; rfl; rfl
  apply dn
  apply x3
  apply CodeT.ret
  cases H
  apply x12
  exact RetIs.sc1 rfl
theorem m_laws_szTreeNodeS (a0 : (List TreeNode)) (a1 : Int) (r : Int) (H : laws_szTreeNodeS a0 a1 = some r) : Meets Try.prog 13 [.sl a0.length (a0.flatMap encTreeNode), .sc (.int .i64 a1)] (.sc (.int .i64 r)) true := by
  refine Meets.intro2 (N := 27) (rs := #[.tmp 4]) Try.func13 rfl rfl rfl rfl ?_
  intro Γ hio
  unfold laws_szTreeNodeS at H
  (repeat apply sq)
  apply rg
  apply R_asg; rfl; rfl; rfl
  apply dn
  apply x3
  (repeat apply sq)
  apply rg
  apply R_mov; rfl; rfl; rfl
  apply R_mov; rfl; rfl; rfl
  apply R_len; rfl; rfl; rfl
  obtain ⟨v1, hv1, H⟩ := bindS H
  apply R_sub; rfl; rfl; (exact letS hv1); rfl; rfl
  apply R_asg; rfl; rfl; rfl
  apply dn
  apply x3
  (repeat apply sq)
  apply rg
  apply R_mov; rfl; rfl; rfl
  apply R_lss; rfl; rfl; rfl; rfl
  apply dn
  apply x3
  (repeat apply sq)
  refine CodeT.cond rfl (fun h => ?_) (fun h => ?_)
  replace H := ifT (of_decide_eq_true h) H
  (repeat apply sq)
  apply rg
  apply R_asg; rfl; rfl; rfl
  apply dn
  apply x3
  apply CodeT.ret
  apply x1
  cases H
  apply x12
  exact RetIs.sc1 rfl
  replace H := ifF (of_decide_eq_false h) H
  (repeat apply sq)
  apply CodeT.skip
  apply x3
  (repeat apply sq)
  apply rg
  apply R_asg; rfl; rfl; rfl
  apply dn
  apply x3
  (repeat apply sq)
  apply CodeT.block
  (repeat apply sq)
  obtain ⟨d8, hd8, H⟩ := bindS H
  refine CodeT.lloop (fun s => ⟨[(0, ⟨.sl a0.length (a0.flatMap encTreeNode), false⟩), (1, ⟨.sc (.int .i64 s.1), false⟩), (5, ⟨.sc (.int .i64 s.2), false⟩)], []⟩) (fun x e E => match x with | (.inl d) => XEnv Γ (.exit 0) ⟨[(1, ⟨.sc (.int .i64 d), false⟩)], []⟩ e E | (.inr d) => XRet Γ #[.tmp 4] (.sc (.int .i64 d)) true e E) hd8 ?_ ?_ ?_
  apply el [] (io0 hio _) <;> rfl
  clear H hd8
  rintro ⟨v4, v5⟩ o H
  unfold laws_szTreeNodeS_L1 at H
  (repeat apply sq)
  apply rg
  apply R_mov; rfl; rfl; rfl
  apply R_mov; rfl; rfl; rfl
  apply R_len; rfl; rfl; rfl
  apply R_lss; rfl; rfl; rfl; rfl
  apply dn
  apply x3
  (repeat apply sq)
  refine CodeT.cond rfl (fun h => ?_) (fun h => ?_)
  replace H := ifT (of_decide_eq_true h) H
  (repeat apply sq)
  apply CodeT.skip
  apply x3
  (repeat apply sq)
  apply CodeT.block
  (repeat apply sq)
  apply rg
  apply R_mov; rfl; rfl; rfl
  apply R_mov; rfl; rfl; rfl
  obtain ⟨y6, hy6, H⟩ := bindS H
  apply Run.op; (apply L_ixS2; rfl; rfl; rfl; (exact hy6); (intro _; rfl); rfl); rfl; rfl
  apply Run.op; (apply L_ldIA; rfl; (first | exact take_whole rfl | rfl); rfl; (intro h; cases h); rfl; rfl); rfl; rfl
  apply R_mov; rfl; rfl; rfl
  obtain ⟨r7, hr7, H⟩ := bindS H
  apply Run.op; (apply L_call; ((apply ArgsV.cons; (apply ArgV.val; rfl; rfl)); (apply ArgsV.cons; (apply ArgV.val; rfl; rfl)); (apply ArgsV.nil)); (exact m_laws_szTreeNode y6 v4 _ hr7); rfl; rfl; rfl); rfl; rfl
  apply R_asg; rfl; rfl; rfl
  apply dn
  apply x3
  (repeat apply sq)
  apply rg
  apply R_mov; rfl; rfl; rfl
  apply R_lss; rfl; rfl; rfl; rfl
  apply dn
  apply x3
  refine CodeT.cond rfl (fun h => ?_) (fun h => ?_)
  replace H := ifT (of_decide_eq_true h) H
  (repeat apply sq)
  apply rg
  apply R_asg; rfl; rfl; rfl
  apply dn
  apply x3
  apply CodeT.ret
  apply x4
  apply x1
  obtain rfl := Option.some.inj H
  refine Ev.y2 ?_
  refine XRet.mk ?_
  exact RetIs.sc1 rfl
  replace H := ifF (of_decide_eq_false h) H
  (repeat apply sq)
  apply CodeT.skip
  apply x5
  apply x3
  apply rg
  apply R_mov; rfl; rfl; rfl
  apply R_add; rfl; rfl; rfl; rfl; rfl
  apply R_asg; rfl; rfl; rfl
  apply dn
  obtain rfl := Option.some.inj H
  refine Ev.y1 ?_
  apply el [] (io0 hio _) <;> rfl
  replace H := ifF (of_decide_eq_false h) H
  (repeat apply sq)
  apply CodeT.exit
  apply x2
  obtain rfl := Option.some.inj H
  refine Ev.y3 ?_
  refine XEnv.mk ?_
  apply el [] (io0 hio _) <;> rfl
  rcases d8 with (d9 | d11)
  intro e E' hX; obtain ⟨rfl, g10⟩ := XEnv.out hX
  refine x6 rfl ?_
  apply x3
  refine CodeT.weak g10 ?_
  (repeat apply sq)
  apply rg
  apply R_mov; rfl; rfl; rfl
  apply R_asg; rfl; rfl; rfl
  apply dn
  apply x3
  apply CodeT.ret
  cases H
  apply x12
  exact RetIs.sc1 rfl
  intro e E' hX; obtain ⟨rfl, g12⟩ := XRet.out hX
  apply x4
  apply x1
  cases H
  apply x12
  exact g12
theorem m_laws_szTree (a0 : Tree) (a1 : Int) (r : Int) (H : laws_szTree a0 a1 = some r) : Meets Try.prog 4 [.agg (encTree a0), .sc (.int .i64 a1)] (.sc (.int .i64 r)) true := by
  refine Meets.intro2 (N := 12) (rs := #[.tmp 4]) Try.func4 rfl rfl rfl rfl ?_
  intro Γ hio
  unfold laws_szTree at H
  (repeat apply sq)
  apply rg
  apply Run.op; (apply L_box false; rfl; rfl; rfl; (exact io1 hio _); rfl); rfl; rfl
  apply R_asg; rfl; rfl; rfl
  apply dn
  apply x3
  (repeat apply sq)
  apply rg
  apply R_fldP; rfl; rfl; rfl; rfl; rfl
  apply R_ldP; rfl; rfl; rfl; rfl; rfl; rfl
  apply R_mov; rfl; rfl; rfl
  obtain ⟨r1, hr1, H⟩ := bindS H
  apply Run.op; (apply L_call; ((apply ArgsV.cons; (apply ArgV.val; rfl; rfl)); (apply ArgsV.cons; (apply ArgV.val; rfl; rfl)); (apply ArgsV.nil)); (exact m_laws_szTreeNodeS a0.fNodes a1 _ hr1); rfl; rfl; rfl); rfl; rfl
  apply R_asg; rfl; rfl; rfl
  apply dn
  apply x3
  (repeat apply sq)
  apply rg
  apply R_mov; rfl; rfl; rfl
  apply R_lss; rfl; rfl; rfl; rfl
  apply dn
  apply x3
  (repeat apply sq)
  refine CodeT.cond rfl (fun h => ?_) (fun h => ?_)
  replace H := ifT (of_decide_eq_true h) H
  (repeat apply sq)
  apply rg
  apply R_asg; rfl; rfl; rfl
  apply dn
  apply x3
  apply CodeT.ret
  apply x1
  cases H
  apply x12
  exact RetIs.sc1 rfl
  replace H := ifF (of_decide_eq_false h) H
  (repeat apply sq)
  apply CodeT.skip
  apply x3
  (repeat apply sq)
  apply rg
  apply R_mov; rfl; rfl; rfl
  apply R_asg; rfl; rfl; rfl
  apply dn
  apply x3
  apply CodeT.ret
  cases H
  apply x12
  exact RetIs.sc1 rfl
theorem m_laws_toIntS (a0 : (List Int)) (r : (List Int)) (H : laws_toIntS a0 = some r) : Meets Try.prog 81 [.sl a0.length (a0.flatMap (encI .i64))] (.rw 1 r.length (r.flatMap (encI .i64))) true := by
  refine Meets.intro2 (N := 22) (rs := #[.tmp 2]) Try.func81 rfl rfl rfl rfl ?_
  intro Γ hio
  unfold laws_toIntS at H
  (repeat apply sq)
  apply rg
  apply R_asg; rfl; rfl; rfl
  apply dn
  apply x3
  (repeat apply sq)
  apply rg
  apply R_mov; rfl; rfl; rfl
  apply R_len; rfl; rfl; rfl
  obtain ⟨_u, hm1, H⟩ := bindS H
  apply Run.op; (apply L_make2 (enc := (encI .i64)) (z := 0); rfl; rfl; rfl; (exact chkS hm1); rfl; decide; (intro h; cases h); (exact io1 hio _); rfl); rfl; rfl
  apply R_asg; rfl; rfl; rfl
  apply dn
  apply x3
  (repeat apply sq)
  apply rg
  apply R_asg; rfl; rfl; rfl
  apply dn
  apply x3
  (repeat apply sq)
  apply CodeT.block
  (repeat apply sq)
  obtain ⟨d13, hd13, H⟩ := bindS H
  refine CodeT.lloop (fun s => ⟨[(0, ⟨.sl a0.length (a0.flatMap (encI .i64)), false⟩), (3, ⟨.ref 503 1 0 s.2.length, false⟩), (4, ⟨.sc (.int .i64 s.1), false⟩)], [(503, some ⟨s.2.flatMap (encI .i64), true, false⟩)]⟩) (fun d e E => XEnv Γ (.exit 0) ⟨[(3, ⟨.ref 503 1 0 d.length, false⟩)], [(503, some ⟨d.flatMap (encI .i64), true, false⟩)]⟩ e E) hd13 ?_ ?_ ?_
  apply el [(503, 7)] (io0 hio _) <;> rfl
  clear H hd13
  rintro ⟨v6, v7⟩ o H
  unfold laws_toIntS_L1 at H
  (repeat apply sq)
  apply rg
  apply R_mov; rfl; rfl; rfl
  apply R_mov; rfl; rfl; rfl
  apply R_len; rfl; rfl; rfl
  apply R_lss; rfl; rfl; rfl; rfl
  apply dn
  apply x3
  (repeat apply sq)
  refine CodeT.cond rfl (fun h => ?_) (fun h => ?_)
  replace H := ifT (of_decide_eq_true h) H
  (repeat apply sq)
  apply CodeT.skip
  apply x3
  (repeat apply sq)
  apply CodeT.block
  (repeat apply sq)
  apply rg
  apply R_mov; rfl; rfl; rfl
  apply R_mov; rfl; rfl; rfl
  apply R_mov; rfl; rfl; rfl
  apply R_mov; rfl; rfl; rfl
  obtain ⟨y8, hy8, H⟩ := bindS H
  apply Run.op; (apply L_ixS2; rfl; rfl; rfl; (exact hy8); (intro _; rfl); rfl); rfl; rfl
  apply R_ldI; rfl; rfl; rfl; rfl; rfl
  obtain ⟨y9, hy9, H⟩ := bindS H
  apply Run.op; (apply L_ixR2; rfl; rfl; rfl; (exact hy9); rfl; rfl); rfl; rfl
  obtain ⟨v10, hv10, H⟩ := bindS H
  have hl11 := setI_lenS hv10
  apply Run.op; (apply L_st; rfl; rfl; rfl; rfl; rfl; (intro h; cases h); (exact row_ble0 (sz := 1) (n := 1) hy9 (fun _ => rfl) (by decide)); (exact row_stL (sz := 1) hv10 hy9 (fun _ => rfl) rfl)); rfl; rfl
  apply dn
  apply x5
  apply x3
  refine CodeT.weak (Ent.relen (k := 3) (n' := v10.length) rfl (by first | (simp only [setI_len]; done) | (simp only [setI_len]; omega) | omega)) ?_
  apply rg
  apply R_mov; rfl; rfl; rfl
  apply R_add; rfl; rfl; rfl; rfl; rfl
  apply R_asg; rfl; rfl; rfl
  apply dn
  obtain rfl := Option.some.inj H
  refine Ev.y1 ?_
  apply el [] (io0 hio _) <;> rfl
  replace H := ifF (of_decide_eq_false h) H
  (repeat apply sq)
  apply CodeT.exit
  apply x2
  obtain rfl := Option.some.inj H
  refine Ev.y3 ?_
  refine XEnv.mk ?_
  apply el [] (io0 hio _) <;> rfl
  skip
  intro e E' hX; obtain ⟨rfl, g14⟩ := XEnv.out hX
  refine x6 rfl ?_
  apply x3
  refine CodeT.weak g14 ?_
  (repeat apply sq)
  apply rg
  apply R_mov; rfl; rfl; rfl
  apply R_asg; rfl; rfl; rfl
  apply dn
  apply x3
  apply CodeT.ret
  cases H
  apply x12
  exact RetIs.rW rfl rfl rfl (io1 hio _)
theorem m_laws_toBigInt (a0 : BigInt) (r : BigInt) (H : laws_toBigInt a0 = some r) : Meets Try.prog 80 [.agg (encBigInt a0)] (.agg (encWBigInt r)) true := by
  refine Meets.intro2 (N := 12) (rs := #[.cell 2 28]) Try.func80 rfl rfl rfl rfl ?_
  intro Γ hio
  unfold laws_toBigInt at H
  (repeat apply sq)
  apply rg
  apply Run.op; (apply L_box false; rfl; rfl; rfl; (exact io1 hio _); rfl); rfl; rfl
  apply Run.op; (apply L_alloc false; (exact io1 hio _); rfl); rfl; rfl
  apply dn
  apply x3
  (repeat apply sq)
  apply rg
  apply Run.op; (apply L_alloc false; (exact io1 hio _); rfl); rfl; rfl
  apply dn
  apply x3
  (repeat apply sq)
  apply rg
  apply R_fldP; rfl; rfl; rfl; rfl; rfl
  apply R_ldP; rfl; rfl; rfl; rfl; rfl; rfl
  apply R_fldP; rfl; rfl; rfl; rfl; rfl
  apply Run.op; (apply L_st (cells' := [.sc (.bool a0.fNeg), .sc (.slice none 0 0)]); rfl; rfl; rfl; rfl; rfl; (intro h; cases h); rfl; (first | exact splice_whole rfl | rfl)); rfl; rfl
  apply dn
  apply x3
  (repeat apply sq)
  apply rg
  apply R_fldP; rfl; rfl; rfl; rfl; rfl
  apply R_ldP; rfl; rfl; rfl; rfl; rfl; rfl
  obtain ⟨r1, hr1, H⟩ := bindS H
  apply Run.op; (apply L_call; ((apply ArgsV.cons; (apply ArgV.val; rfl; rfl)); (apply ArgsV.nil)); (exact m_laws_toIntS a0.fMag _ hr1); rfl; rfl; rfl); rfl; rfl
  apply R_fldP; rfl; rfl; rfl; rfl; rfl
  apply Run.op; (apply L_stT (cells' := [.sc (.bool a0.fNeg), .rw 1 r1.length (r1.flatMap (encI .i64))]); rfl; rfl; rfl; rfl; rfl; rfl; (intro h; cases h); rfl; (first | exact splice_whole rfl | rfl)); rfl; rfl
  apply dn
  apply x3
  (repeat apply sq)
  apply rg
  apply Run.op; (apply L_ldPAT; rfl; rfl; rfl; (intro h; cases h); rfl; (exact io1 hio _); rfl); rfl; rfl
  apply Run.op; (apply L_stT (cells' := [.sc (.bool a0.fNeg), .rw 1 r1.length (r1.flatMap (encI .i64))]); rfl; rfl; rfl; rfl; rfl; rfl; (intro h; cases h); rfl; (first | exact splice_whole rfl | rfl)); rfl; rfl
  apply dn
  apply x3
  apply CodeT.ret
  cases H
  apply x12
  exact RetIs.c1 rfl rfl rfl rfl (by intro h; cases h)
theorem m_laws_toRat (a0 : Rat) (r : Rat) (H : laws_toRat a0 = some r) : Meets Try.prog 52 [.agg (encRat a0)] (.agg (encWRat r)) true := by
  refine Meets.intro2 (N := 13) (rs := #[.cell 2 30]) Try.func52 rfl rfl rfl rfl ?_
  intro Γ hio
  unfold laws_toRat at H
  (repeat apply sq)
  apply rg
  apply Run.op; (apply L_box false; rfl; rfl; rfl; (exact io1 hio _); rfl); rfl; rfl
  apply Run.op; (apply L_alloc false; (exact io1 hio _); rfl); rfl; rfl
  apply dn
  apply x3
  (repeat apply sq)
  apply rg
  apply Run.op; (apply L_alloc false; (exact io1 hio _); rfl); rfl; rfl
  apply dn
  apply x3
  (repeat apply sq)
  apply rg
  apply R_fldP; rfl; rfl; rfl; rfl; rfl
  apply R_ldPA; rfl; rfl; (first | exact seg_whole rfl | rfl); rfl; rfl; rfl; rfl; rfl
  obtain ⟨r1, hr1, H⟩ := bindS H
  apply Run.op; (apply L_call; ((apply ArgsV.cons; (apply ArgV.val; rfl; rfl)); (apply ArgsV.nil)); (exact m_laws_toBigInt a0.fNum _ hr1); rfl; rfl; rfl); rfl; rfl
  apply R_fldP; rfl; rfl; rfl; rfl; rfl
  apply Run.op; (apply L_stT (cells' := [.sc (.bool r1.fNeg), .rw 1 r1.fMag.length (r1.fMag.flatMap (encI .i64)), .sc (.slice none 0 0)]); rfl; rfl; rfl; rfl; rfl; rfl; (intro h; cases h); rfl; (first | exact splice_whole rfl | rfl)); rfl; rfl
  apply dn
  apply x3
  (repeat apply sq)
  apply rg
  apply R_fldP; rfl; rfl; rfl; rfl; rfl
  apply R_ldP; rfl; rfl; rfl; rfl; rfl; rfl
  obtain ⟨r2, hr2, H⟩ := bindS H
  apply Run.op; (apply L_call; ((apply ArgsV.cons; (apply ArgV.val; rfl; rfl)); (apply ArgsV.nil)); (exact m_laws_toIntS a0.fDen _ hr2); rfl; rfl; rfl); rfl; rfl
  apply R_fldP; rfl; rfl; rfl; rfl; rfl
  apply Run.op; (apply L_stT (cells' := [.sc (.bool r1.fNeg), .rw 1 r1.fMag.length (r1.fMag.flatMap (encI .i64)), .rw 1 r2.length (r2.flatMap (encI .i64))]); rfl; rfl; rfl; rfl; rfl; rfl; (intro h; cases h); rfl; (first | exact splice_whole rfl | rfl)); rfl; rfl
  apply dn
  apply x3
  (repeat apply sq)
  apply rg
  apply Run.op; (apply L_ldPAT; rfl; rfl; rfl; (intro h; cases h); rfl; (exact io1 hio _); rfl); rfl; rfl
  apply Run.op; (apply L_stT (cells' := [.sc (.bool r1.fNeg), .rw 1 r1.fMag.length (r1.fMag.flatMap (encI .i64)), .rw 1 r2.length (r2.flatMap (encI .i64))]); rfl; rfl; rfl; rfl; rfl; rfl; (intro h; cases h); rfl; (first | exact splice_whole rfl | rfl)); rfl; rfl
  apply dn
  apply x3
  apply CodeT.ret
  cases H
  apply x12
  exact RetIs.c1 rfl rfl rfl rfl (by intro h; cases h)
theorem m_laws_toLink (a0 : Link) (r : Link) (H : laws_toLink a0 = some r) : Meets Try.prog 78 [.agg (encLink a0)] (.agg (encWLink r)) true := by
  refine Meets.intro2 (N := 23) (rs := #[.cell 2 93]) Try.func78 rfl rfl rfl rfl ?_
  intro Γ hio
  unfold laws_toLink at H
  (repeat apply sq)
  apply rg
  apply Run.op; (apply L_box false; rfl; rfl; rfl; (exact io1 hio _); rfl); rfl; rfl
  apply Run.op; (apply L_alloc false; (exact io1 hio _); rfl); rfl; rfl
  apply dn
  apply x3
  (repeat apply sq)
  apply rg
  apply Run.op; (apply L_alloc false; (exact io1 hio _); rfl); rfl; rfl
  apply dn
  apply x3
  (repeat apply sq)
  apply rg
  apply R_fldP; rfl; rfl; rfl; rfl; rfl
  apply R_ldP; rfl; rfl; rfl; rfl; rfl; rfl
  apply R_fldP; rfl; rfl; rfl; rfl; rfl
  apply Run.op; (apply L_st (cells' := [.sc (.int .i64 a0.fA), .sc (.int .i64 0), .sc (.bool false), .sc (.slice none 0 0), .sc (.slice none 0 0), .sc (.bool false), .sc (.slice none 0 0), .sc (.slice none 0 0), .sc (.bool false), .sc (.slice none 0 0), .sc (.slice none 0 0)]); rfl; rfl; rfl; rfl; rfl; (intro h; cases h); rfl; (first | exact splice_whole rfl | rfl)); rfl; rfl
  apply dn
  apply x3
  (repeat apply sq)
  apply rg
  apply R_fldP; rfl; rfl; rfl; rfl; rfl
  apply R_ldP; rfl; rfl; rfl; rfl; rfl; rfl
  apply R_fldP; rfl; rfl; rfl; rfl; rfl
  apply Run.op; (apply L_st (cells' := [.sc (.int .i64 a0.fA), .sc (.int .i64 a0.fB), .sc (.bool false), .sc (.slice none 0 0), .sc (.slice none 0 0), .sc (.bool false), .sc (.slice none 0 0), .sc (.slice none 0 0), .sc (.bool false), .sc (.slice none 0 0), .sc (.slice none 0 0)]); rfl; rfl; rfl; rfl; rfl; (intro h; cases h); rfl; (first | exact splice_whole rfl | rfl)); rfl; rfl
  apply dn
  apply x3
  (repeat apply sq)
  apply rg
  apply R_fldP; rfl; rfl; rfl; rfl; rfl
  apply R_ldPA; rfl; rfl; (first | exact seg_whole rfl | rfl); rfl; rfl; rfl; rfl; rfl
  obtain ⟨r1, hr1, H⟩ := bindS H
  apply Run.op; (apply L_call; ((apply ArgsV.cons; (apply ArgV.val; rfl; rfl)); (apply ArgsV.nil)); (exact m_laws_toRat a0.fWeight _ hr1); rfl; rfl; rfl); rfl; rfl
  apply R_fldP; rfl; rfl; rfl; rfl; rfl
  apply Run.op; (apply L_stT (cells' := [.sc (.int .i64 a0.fA), .sc (.int .i64 a0.fB), .sc (.bool r1.fNum.fNeg), .rw 1 r1.fNum.fMag.length (r1.fNum.fMag.flatMap (encI .i64)), .rw 1 r1.fDen.length (r1.fDen.flatMap (encI .i64)), .sc (.bool false), .sc (.slice none 0 0), .sc (.slice none 0 0), .sc (.bool false), .sc (.slice none 0 0), .sc (.slice none 0 0)]); rfl; rfl; rfl; rfl; rfl; rfl; (intro h; cases h); rfl; (first | exact splice_whole rfl | rfl)); rfl; rfl
  apply dn
  apply x3
  (repeat apply sq)
  apply rg
  apply R_fldP; rfl; rfl; rfl; rfl; rfl
  apply R_ldPA; rfl; rfl; (first | exact seg_whole rfl | rfl); rfl; rfl; rfl; rfl; rfl
  obtain ⟨r2, hr2, H⟩ := bindS H
  apply Run.op; (apply L_call; ((apply ArgsV.cons; (apply ArgV.val; rfl; rfl)); (apply ArgsV.nil)); (exact m_laws_toRat a0.fDX _ hr2); rfl; rfl; rfl); rfl; rfl
  apply R_fldP; rfl; rfl; rfl; rfl; rfl
  apply Run.op; (apply L_stT (cells' := [.sc (.int .i64 a0.fA), .sc (.int .i64 a0.fB), .sc (.bool r1.fNum.fNeg), .rw 1 r1.fNum.fMag.length (r1.fNum.fMag.flatMap (encI .i64)), .rw 1 r1.fDen.length (r1.fDen.flatMap (encI .i64)), .sc (.bool r2.fNum.fNeg), .rw 1 r2.fNum.fMag.length (r2.fNum.fMag.flatMap (encI .i64)), .rw 1 r2.fDen.length (r2.fDen.flatMap (encI .i64)), .sc (.bool false), .sc (.slice none 0 0), .sc (.slice none 0 0)]); rfl; rfl; rfl; rfl; rfl; rfl; (intro h; cases h); rfl; (first | exact splice_whole rfl | rfl)); rfl; rfl
  apply dn
  apply x3
  (repeat apply sq)
  apply rg
  apply R_fldP; rfl; rfl; rfl; rfl; rfl
  apply R_ldPA; rfl; rfl; (first | exact seg_whole rfl | rfl); rfl; rfl; rfl; rfl; rfl
  obtain ⟨r3, hr3, H⟩ := bindS H
  apply Run.op; (apply L_call; ((apply ArgsV.cons; (apply ArgV.val; rfl; rfl)); (apply ArgsV.nil)); (exact m_laws_toRat a0.fDY _ hr3); rfl; rfl; rfl); rfl; rfl
  apply R_fldP; rfl; rfl; rfl; rfl; rfl
  apply Run.op; (apply L_stT (cells' := [.sc (.int .i64 a0.fA), .sc (.int .i64 a0.fB), .sc (.bool r1.fNum.fNeg), .rw 1 r1.fNum.fMag.length (r1.fNum.fMag.flatMap (encI .i64)), .rw 1 r1.fDen.length (r1.fDen.flatMap (encI .i64)), .sc (.bool r2.fNum.fNeg), .rw 1 r2.fNum.fMag.length (r2.fNum.fMag.flatMap (encI .i64)), .rw 1 r2.fDen.length (r2.fDen.flatMap (encI .i64)), .sc (.bool r3.fNum.fNeg), .rw 1 r3.fNum.fMag.length (r3.fNum.fMag.flatMap (encI .i64)), .rw 1 r3.fDen.length (r3.fDen.flatMap (encI .i64))]); rfl; rfl; rfl; rfl; rfl; rfl; (intro h; cases h); rfl; (first | exact splice_whole rfl | rfl)); rfl; rfl
  apply dn
  apply x3
  (repeat apply sq)
  apply rg
  apply Run.op; (apply L_ldPAT; rfl; rfl; rfl; (intro h; cases h); rfl; (exact io1 hio _); rfl); rfl; rfl
  apply Run.op; (apply L_stT (cells' := [.sc (.int .i64 a0.fA), .sc (.int .i64 a0.fB), .sc (.bool r1.fNum.fNeg), .rw 1 r1.fNum.fMag.length (r1.fNum.fMag.flatMap (encI .i64)), .rw 1 r1.fDen.length (r1.fDen.flatMap (encI .i64)), .sc (.bool r2.fNum.fNeg), .rw 1 r2.fNum.fMag.length (r2.fNum.fMag.flatMap (encI .i64)), .rw 1 r2.fDen.length (r2.fDen.flatMap (encI .i64)), .sc (.bool r3.fNum.fNeg), .rw 1 r3.fNum.fMag.length (r3.fNum.fMag.flatMap (encI .i64)), .rw 1 r3.fDen.length (r3.fDen.flatMap (encI .i64))]); rfl; rfl; rfl; rfl; rfl; rfl; (intro h; cases h); rfl; (first | exact splice_whole rfl | rfl)); rfl; rfl
  apply dn
  apply x3
  apply CodeT.ret
  cases H
  apply x12
  exact RetIs.c1 rfl rfl rfl rfl (by intro h; cases h)
theorem m_laws_toLinkS (a0 : (List Link)) (r : (List Link)) (H : laws_toLinkS a0 = some r) : Meets Try.prog 50 [.sl a0.length (a0.flatMap encLink)] (.rw 11 r.length (r.flatMap encWLink)) true := by
  refine Meets.intro2 (N := 23) (rs := #[.tmp 2]) Try.func50 rfl rfl rfl rfl ?_
  intro Γ hio
  unfold laws_toLinkS at H
  (repeat apply sq)
  apply rg
  apply R_asg; rfl; rfl; rfl
  apply dn
  apply x3
  (repeat apply sq)
  apply rg
  apply R_mov; rfl; rfl; rfl
  apply R_len; rfl; rfl; rfl
  obtain ⟨_u, hm1, H⟩ := bindS H
  apply Run.op; (apply Local.softO (SoftL.rep (e := fun _ => [.sc (.int .i64 0), .sc (.int .i64 0), .sc (.bool false), .sc (.slice none 0 0), .sc (.slice none 0 0), .sc (.bool false), .sc (.slice none 0 0), .sc (.slice none 0 0), .sc (.bool false), .sc (.slice none 0 0), .sc (.slice none 0 0)]) (e' := encWLink) (z := (Link.mk 0 0 (Rat.mk (BigInt.mk false ([])) ([])) (Rat.mk (BigInt.mk false ([])) ([])) (Rat.mk (BigInt.mk false ([])) ([])))) (SoftL.cons (Soft.refl _) (SoftL.cons (Soft.refl _) (SoftL.cons (Soft.refl _) (SoftL.cons Soft.nilW (SoftL.cons Soft.nilW (SoftL.cons (Soft.refl _) (SoftL.cons Soft.nilW (SoftL.cons Soft.nilW (SoftL.cons (Soft.refl _) (SoftL.cons Soft.nilW (SoftL.cons Soft.nilW SoftL.nil))))))))))) _); apply L_make2 (enc := fun _ => [.sc (.int .i64 0), .sc (.int .i64 0), .sc (.bool false), .sc (.slice none 0 0), .sc (.slice none 0 0), .sc (.bool false), .sc (.slice none 0 0), .sc (.slice none 0 0), .sc (.bool false), .sc (.slice none 0 0), .sc (.slice none 0 0)]) (z := (Link.mk 0 0 (Rat.mk (BigInt.mk false ([])) ([])) (Rat.mk (BigInt.mk false ([])) ([])) (Rat.mk (BigInt.mk false ([])) ([])))); rfl; rfl; rfl; (exact chkS hm1); rfl; decide; (intro h; cases h); (exact io1 hio _); rfl); rfl; rfl
  apply R_asg; rfl; rfl; rfl
  apply dn
  apply x3
  (repeat apply sq)
  apply rg
  apply R_asg; rfl; rfl; rfl
  apply dn
  apply x3
  (repeat apply sq)
  apply CodeT.block
  (repeat apply sq)
  obtain ⟨d15, hd15, H⟩ := bindS H
  refine CodeT.lloop (fun s => ⟨[(0, ⟨.sl a0.length (a0.flatMap encLink), false⟩), (3, ⟨.ref 503 11 0 s.2.length, false⟩), (4, ⟨.sc (.int .i64 s.1), false⟩)], [(503, some ⟨s.2.flatMap encWLink, true, false⟩)]⟩) (fun d e E => XEnv Γ (.exit 0) ⟨[(3, ⟨.ref 503 11 0 d.length, false⟩)], [(503, some ⟨d.flatMap encWLink, true, false⟩)]⟩ e E) hd15 ?_ ?_ ?_
  apply el [(503, 7)] (io0 hio _) <;> rfl
  clear H hd15
  rintro ⟨v7, v8⟩ o H
  unfold laws_toLinkS_L1 at H
  (repeat apply sq)
  apply rg
  apply R_mov; rfl; rfl; rfl
  apply R_mov; rfl; rfl; rfl
  apply R_len; rfl; rfl; rfl
  apply R_lss; rfl; rfl; rfl; rfl
  apply dn
  apply x3
  (repeat apply sq)
  refine CodeT.cond rfl (fun h => ?_) (fun h => ?_)
  replace H := ifT (of_decide_eq_true h) H
  (repeat apply sq)
  apply CodeT.skip
  apply x3
  (repeat apply sq)
  apply CodeT.block
  (repeat apply sq)
  apply rg
  apply R_mov; rfl; rfl; rfl
  apply R_mov; rfl; rfl; rfl
  apply R_mov; rfl; rfl; rfl
  apply R_mov; rfl; rfl; rfl
  obtain ⟨y9, hy9, H⟩ := bindS H
  apply Run.op; (apply L_ixS2; rfl; rfl; rfl; (exact hy9); (intro _; rfl); rfl); rfl; rfl
  apply Run.op; (apply L_ldIA; rfl; (first | exact take_whole rfl | rfl); rfl; (intro h; cases h); rfl; rfl); rfl; rfl
  obtain ⟨r10, hr10, H⟩ := bindS H
  apply Run.op; (apply L_call; ((apply ArgsV.cons; (apply ArgV.val; rfl; rfl)); (apply ArgsV.nil)); (exact m_laws_toLink y9 _ hr10); rfl; rfl; rfl); rfl; rfl
  obtain ⟨y11, hy11, H⟩ := bindS H
  apply Run.op; (apply L_ixR2; rfl; rfl; rfl; (exact hy11); rfl; rfl); rfl; rfl
  obtain ⟨v12, hv12, H⟩ := bindS H
  have hl13 := setI_lenS hv12
  apply Run.op; (apply L_stT; rfl; rfl; rfl; rfl; rfl; rfl; (intro h; cases h); (exact row_ble0 (sz := 11) (n := 11) hy11 (fun _ => rfl) (by decide)); (exact row_stL (sz := 11) hv12 hy11 (fun _ => rfl) rfl)); rfl; rfl
  apply dn
  apply x5
  apply x3
  refine CodeT.weak (Ent.relen (k := 3) (n' := v12.length) rfl (by first | (simp only [setI_len]; done) | (simp only [setI_len]; omega) | omega)) ?_
  apply rg
  apply R_mov; rfl; rfl; rfl
  apply R_add; rfl; rfl; rfl; rfl; rfl
  apply R_asg; rfl; rfl; rfl
  apply dn
  obtain rfl := Option.some.inj H
  refine Ev.y1 ?_
  apply el [] (io0 hio _) <;> rfl
  replace H := ifF (of_decide_eq_false h) H
  (repeat apply sq)
  apply CodeT.exit
  apply x2
  obtain rfl := Option.some.inj H
  refine Ev.y3 ?_
  refine XEnv.mk ?_
  apply el [] (io0 hio _) <;> rfl
  skip
  intro e E' hX; obtain ⟨rfl, g16⟩ := XEnv.out hX
  refine x6 rfl ?_
  apply x3
  refine CodeT.weak g16 ?_
  (repeat apply sq)
  apply rg
  apply R_mov; rfl; rfl; rfl
  apply R_asg; rfl; rfl; rfl
  apply dn
  apply x3
  apply CodeT.ret
  cases H
  apply x12
  exact RetIs.rW rfl rfl rfl (io1 hio _)
theorem m_laws_toParent (a0 : Parent) (r : Parent) (H : laws_toParent a0 = some r) : Meets Try.prog 94 [.agg (encParent a0)] (.agg (encWParent r)) true := by
  refine Meets.intro2 (N := 20) (rs := #[.cell 2 95]) Try.func94 rfl rfl rfl rfl ?_
  intro Γ hio
  unfold laws_toParent at H
  (repeat apply sq)
  apply rg
  apply Run.op; (apply L_box false; rfl; rfl; rfl; (exact io1 hio _); rfl); rfl; rfl
  apply Run.op; (apply L_alloc false; (exact io1 hio _); rfl); rfl; rfl
  apply dn
  apply x3
  (repeat apply sq)
  apply rg
  apply Run.op; (apply L_alloc false; (exact io1 hio _); rfl); rfl; rfl
  apply dn
  apply x3
  (repeat apply sq)
  apply rg
  apply R_fldP; rfl; rfl; rfl; rfl; rfl
  apply R_ldP; rfl; rfl; rfl; rfl; rfl; rfl
  apply R_fldP; rfl; rfl; rfl; rfl; rfl
  apply Run.op; (apply L_st (cells' := [.sc (.int .i64 a0.fNode), .sc (.bool false), .sc (.slice none 0 0), .sc (.slice none 0 0), .sc (.bool false), .sc (.slice none 0 0), .sc (.slice none 0 0), .sc (.bool false), .sc (.slice none 0 0), .sc (.slice none 0 0)]); rfl; rfl; rfl; rfl; rfl; (intro h; cases h); rfl; (first | exact splice_whole rfl | rfl)); rfl; rfl
  apply dn
  apply x3
  (repeat apply sq)
  apply rg
  apply R_fldP; rfl; rfl; rfl; rfl; rfl
  apply R_ldPA; rfl; rfl; (first | exact seg_whole rfl | rfl); rfl; rfl; rfl; rfl; rfl
  obtain ⟨r1, hr1, H⟩ := bindS H
  apply Run.op; (apply L_call; ((apply ArgsV.cons; (apply ArgV.val; rfl; rfl)); (apply ArgsV.nil)); (exact m_laws_toRat a0.fShare _ hr1); rfl; rfl; rfl); rfl; rfl
  apply R_fldP; rfl; rfl; rfl; rfl; rfl
  apply Run.op; (apply L_stT (cells' := [.sc (.int .i64 a0.fNode), .sc (.bool r1.fNum.fNeg), .rw 1 r1.fNum.fMag.length (r1.fNum.fMag.flatMap (encI .i64)), .rw 1 r1.fDen.length (r1.fDen.flatMap (encI .i64)), .sc (.bool false), .sc (.slice none 0 0), .sc (.slice none 0 0), .sc (.bool false), .sc (.slice none 0 0), .sc (.slice none 0 0)]); rfl; rfl; rfl; rfl; rfl; rfl; (intro h; cases h); rfl; (first | exact splice_whole rfl | rfl)); rfl; rfl
  apply dn
  apply x3
  (repeat apply sq)
  apply rg
  apply R_fldP; rfl; rfl; rfl; rfl; rfl
  apply R_ldPA; rfl; rfl; (first | exact seg_whole rfl | rfl); rfl; rfl; rfl; rfl; rfl
  obtain ⟨r2, hr2, H⟩ := bindS H
  apply Run.op; (apply L_call; ((apply ArgsV.cons; (apply ArgV.val; rfl; rfl)); (apply ArgsV.nil)); (exact m_laws_toRat a0.fDX _ hr2); rfl; rfl; rfl); rfl; rfl
  apply R_fldP; rfl; rfl; rfl; rfl; rfl
  apply Run.op; (apply L_stT (cells' := [.sc (.int .i64 a0.fNode), .sc (.bool r1.fNum.fNeg), .rw 1 r1.fNum.fMag.length (r1.fNum.fMag.flatMap (encI .i64)), .rw 1 r1.fDen.length (r1.fDen.flatMap (encI .i64)), .sc (.bool r2.fNum.fNeg), .rw 1 r2.fNum.fMag.length (r2.fNum.fMag.flatMap (encI .i64)), .rw 1 r2.fDen.length (r2.fDen.flatMap (encI .i64)), .sc (.bool false), .sc (.slice none 0 0), .sc (.slice none 0 0)]); rfl; rfl; rfl; rfl; rfl; rfl; (intro h; cases h); rfl; (first | exact splice_whole rfl | rfl)); rfl; rfl
  apply dn
  apply x3
  (repeat apply sq)
  apply rg
  apply R_fldP; rfl; rfl; rfl; rfl; rfl
  apply R_ldPA; rfl; rfl; (first | exact seg_whole rfl | rfl); rfl; rfl; rfl; rfl; rfl
  obtain ⟨r3, hr3, H⟩ := bindS H
  apply Run.op; (apply L_call; ((apply ArgsV.cons; (apply ArgV.val; rfl; rfl)); (apply ArgsV.nil)); (exact m_laws_toRat a0.fDY _ hr3); rfl; rfl; rfl); rfl; rfl
  apply R_fldP; rfl; rfl; rfl; rfl; rfl
  apply Run.op; (apply L_stT (cells' := [.sc (.int .i64 a0.fNode), .sc (.bool r1.fNum.fNeg), .rw 1 r1.fNum.fMag.length (r1.fNum.fMag.flatMap (encI .i64)), .rw 1 r1.fDen.length (r1.fDen.flatMap (encI .i64)), .sc (.bool r2.fNum.fNeg), .rw 1 r2.fNum.fMag.length (r2.fNum.fMag.flatMap (encI .i64)), .rw 1 r2.fDen.length (r2.fDen.flatMap (encI .i64)), .sc (.bool r3.fNum.fNeg), .rw 1 r3.fNum.fMag.length (r3.fNum.fMag.flatMap (encI .i64)), .rw 1 r3.fDen.length (r3.fDen.flatMap (encI .i64))]); rfl; rfl; rfl; rfl; rfl; rfl; (intro h; cases h); rfl; (first | exact splice_whole rfl | rfl)); rfl; rfl
  apply dn
  apply x3
  (repeat apply sq)
  apply rg
  apply Run.op; (apply L_ldPAT; rfl; rfl; rfl; (intro h; cases h); rfl; (exact io1 hio _); rfl); rfl; rfl
  apply Run.op; (apply L_stT (cells' := [.sc (.int .i64 a0.fNode), .sc (.bool r1.fNum.fNeg), .rw 1 r1.fNum.fMag.length (r1.fNum.fMag.flatMap (encI .i64)), .rw 1 r1.fDen.length (r1.fDen.flatMap (encI .i64)), .sc (.bool r2.fNum.fNeg), .rw 1 r2.fNum.fMag.length (r2.fNum.fMag.flatMap (encI .i64)), .rw 1 r2.fDen.length (r2.fDen.flatMap (encI .i64)), .sc (.bool r3.fNum.fNeg), .rw 1 r3.fNum.fMag.length (r3.fNum.fMag.flatMap (encI .i64)), .rw 1 r3.fDen.length (r3.fDen.flatMap (encI .i64))]); rfl; rfl; rfl; rfl; rfl; rfl; (intro h; cases h); rfl; (first | exact splice_whole rfl | rfl)); rfl; rfl
  apply dn
  apply x3
  apply CodeT.ret
  cases H
  apply x12
  exact RetIs.c1 rfl rfl rfl rfl (by intro h; cases h)
theorem m_laws_toParentS (a0 : (List Parent)) (r : (List Parent)) (H : laws_toParentS a0 = some r) : Meets Try.prog 79 [.sl a0.length (a0.flatMap encParent)] (.rw 10 r.length (r.flatMap encWParent)) true := by
  refine Meets.intro2 (N := 23) (rs := #[.tmp 2]) Try.func79 rfl rfl rfl rfl ?_
  intro Γ hio
  unfold laws_toParentS at H
  (repeat apply sq)
  apply rg
  apply R_asg; rfl; rfl; rfl
  apply dn
  apply x3
  (repeat apply sq)
  apply rg
  apply R_mov; rfl; rfl; rfl
  apply R_len; rfl; rfl; rfl
  obtain ⟨_u, hm1, H⟩ := bindS H
  apply Run.op; (apply Local.softO (SoftL.rep (e := fun _ => [.sc (.int .i64 0), .sc (.bool false), .sc (.slice none 0 0), .sc (.slice none 0 0), .sc (.bool false), .sc (.slice none 0 0), .sc (.slice none 0 0), .sc (.bool false), .sc (.slice none 0 0), .sc (.slice none 0 0)]) (e' := encWParent) (z := (Parent.mk 0 (Rat.mk (BigInt.mk false ([])) ([])) (Rat.mk (BigInt.mk false ([])) ([])) (Rat.mk (BigInt.mk false ([])) ([])))) (SoftL.cons (Soft.refl _) (SoftL.cons (Soft.refl _) (SoftL.cons Soft.nilW (SoftL.cons Soft.nilW (SoftL.cons (Soft.refl _) (SoftL.cons Soft.nilW (SoftL.cons Soft.nilW (SoftL.cons (Soft.refl _) (SoftL.cons Soft.nilW (SoftL.cons Soft.nilW SoftL.nil)))))))))) _); apply L_make2 (enc := fun _ => [.sc (.int .i64 0), .sc (.bool false), .sc (.slice none 0 0), .sc (.slice none 0 0), .sc (.bool false), .sc (.slice none 0 0), .sc (.slice none 0 0), .sc (.bool false), .sc (.slice none 0 0), .sc (.slice none 0 0)]) (z := (Parent.mk 0 (Rat.mk (BigInt.mk false ([])) ([])) (Rat.mk (BigInt.mk false ([])) ([])) (Rat.mk (BigInt.mk false ([])) ([])))); rfl; rfl; rfl; (exact chkS hm1); rfl; decide; (intro h; cases h); (exact io1 hio _); rfl); rfl; rfl
  apply R_asg; rfl; rfl; rfl
  apply dn
  apply x3
  (repeat apply sq)
  apply rg
  apply R_asg; rfl; rfl; rfl
  apply dn
  apply x3
  (repeat apply sq)
  apply CodeT.block
  (repeat apply sq)
  obtain ⟨d15, hd15, H⟩ := bindS H
  refine CodeT.lloop (fun s => ⟨[(0, ⟨.sl a0.length (a0.flatMap encParent), false⟩), (3, ⟨.ref 503 10 0 s.2.length, false⟩), (4, ⟨.sc (.int .i64 s.1), false⟩)], [(503, some ⟨s.2.flatMap encWParent, true, false⟩)]⟩) (fun d e E => XEnv Γ (.exit 0) ⟨[(3, ⟨.ref 503 10 0 d.length, false⟩)], [(503, some ⟨d.flatMap encWParent, true, false⟩)]⟩ e E) hd15 ?_ ?_ ?_
  apply el [(503, 7)] (io0 hio _) <;> rfl
  clear H hd15
  rintro ⟨v7, v8⟩ o H
  unfold laws_toParentS_L1 at H
  (repeat apply sq)
  apply rg
  apply R_mov; rfl; rfl; rfl
  apply R_mov; rfl; rfl; rfl
  apply R_len; rfl; rfl; rfl
  apply R_lss; rfl; rfl; rfl; rfl
  apply dn
  apply x3
  (repeat apply sq)
  refine CodeT.cond rfl (fun h => ?_) (fun h => ?_)
  replace H := ifT (of_decide_eq_true h) H
  (repeat apply sq)
  apply CodeT.skip
  apply x3
  (repeat apply sq)
  apply CodeT.block
  (repeat apply sq)
  apply rg
  apply R_mov; rfl; rfl; rfl
  apply R_mov; rfl; rfl; rfl
  apply R_mov; rfl; rfl; rfl
  apply R_mov; rfl; rfl; rfl
  obtain ⟨y9, hy9, H⟩ := bindS H
  apply Run.op; (apply L_ixS2; rfl; rfl; rfl; (exact hy9); (intro _; rfl); rfl); rfl; rfl
  apply Run.op; (apply L_ldIA; rfl; (first | exact take_whole rfl | rfl); rfl; (intro h; cases h); rfl; rfl); rfl; rfl
  obtain ⟨r10, hr10, H⟩ := bindS H
  apply Run.op; (apply L_call; ((apply ArgsV.cons; (apply ArgV.val; rfl; rfl)); (apply ArgsV.nil)); (exact m_laws_toParent y9 _ hr10); rfl; rfl; rfl); rfl; rfl
  obtain ⟨y11, hy11, H⟩ := bindS H
  apply Run.op; (apply L_ixR2; rfl; rfl; rfl; (exact hy11); rfl; rfl); rfl; rfl
  obtain ⟨v12, hv12, H⟩ := bindS H
  have hl13 := setI_lenS hv12
  apply Run.op; (apply L_stT; rfl; rfl; rfl; rfl; rfl; rfl; (intro h; cases h); (exact row_ble0 (sz := 10) (n := 10) hy11 (fun _ => rfl) (by decide)); (exact row_stL (sz := 10) hv12 hy11 (fun _ => rfl) rfl)); rfl; rfl
  apply dn
  apply x5
  apply x3
  refine CodeT.weak (Ent.relen (k := 3) (n' := v12.length) rfl (by first | (simp only [setI_len]; done) | (simp only [setI_len]; omega) | omega)) ?_
  apply rg
  apply R_mov; rfl; rfl; rfl
  apply R_add; rfl; rfl; rfl; rfl; rfl
  apply R_asg; rfl; rfl; rfl
  apply dn
  obtain rfl := Option.some.inj H
  refine Ev.y1 ?_
  apply el [] (io0 hio _) <;> rfl
  replace H := ifF (of_decide_eq_false h) H
  (repeat apply sq)
  apply CodeT.exit
  apply x2
  obtain rfl := Option.some.inj H
  refine Ev.y3 ?_
  refine XEnv.mk ?_
  apply el [] (io0 hio _) <;> rfl
  skip
  intro e E' hX; obtain ⟨rfl, g16⟩ := XEnv.out hX
  refine x6 rfl ?_
  apply x3
  refine CodeT.weak g16 ?_
  (repeat apply sq)
  apply rg
  apply R_mov; rfl; rfl; rfl
  apply R_asg; rfl; rfl; rfl
  apply dn
  apply x3
  apply CodeT.ret
  cases H
  apply x12
  exact RetIs.rW rfl rfl rfl (io1 hio _)
theorem m_laws_toConditional (a0 : Conditional) (r : Conditional) (H : laws_toConditional a0 = some r) : Meets Try.prog 51 [.agg (encConditional a0)] (.agg (encWConditional r)) true := by
  refine Meets.intro2 (N := 16) (rs := #[.cell 2 46]) Try.func51 rfl rfl rfl rfl ?_
  intro Γ hio
  unfold laws_toConditional at H
  (repeat apply sq)
  apply rg
  apply Run.op; (apply L_box false; rfl; rfl; rfl; (exact io1 hio _); rfl); rfl; rfl
  apply Run.op; (apply L_alloc false; (exact io1 hio _); rfl); rfl; rfl
  apply dn
  apply x3
  (repeat apply sq)
  apply rg
  apply Run.op; (apply L_alloc false; (exact io1 hio _); rfl); rfl; rfl
  apply dn
  apply x3
  (repeat apply sq)
  apply rg
  apply R_fldP; rfl; rfl; rfl; rfl; rfl
  apply R_ldP; rfl; rfl; rfl; rfl; rfl; rfl
  apply R_fldP; rfl; rfl; rfl; rfl; rfl
  apply Run.op; (apply L_st (cells' := [.sc (.int .i64 a0.fNode), .sc (.bool false), .sc (.slice none 0 0), .sc (.slice none 0 0), .sc (.slice none 0 0)]); rfl; rfl; rfl; rfl; rfl; (intro h; cases h); rfl; (first | exact splice_whole rfl | rfl)); rfl; rfl
  apply dn
  apply x3
  (repeat apply sq)
  apply rg
  apply R_fldP; rfl; rfl; rfl; rfl; rfl
  apply R_ldPA; rfl; rfl; (first | exact seg_whole rfl | rfl); rfl; rfl; rfl; rfl; rfl
  obtain ⟨r1, hr1, H⟩ := bindS H
  apply Run.op; (apply L_call; ((apply ArgsV.cons; (apply ArgV.val; rfl; rfl)); (apply ArgsV.nil)); (exact m_laws_toRat a0.fTotal _ hr1); rfl; rfl; rfl); rfl; rfl
  apply R_fldP; rfl; rfl; rfl; rfl; rfl
  apply Run.op; (apply L_stT (cells' := [.sc (.int .i64 a0.fNode), .sc (.bool r1.fNum.fNeg), .rw 1 r1.fNum.fMag.length (r1.fNum.fMag.flatMap (encI .i64)), .rw 1 r1.fDen.length (r1.fDen.flatMap (encI .i64)), .sc (.slice none 0 0)]); rfl; rfl; rfl; rfl; rfl; rfl; (intro h; cases h); rfl; (first | exact splice_whole rfl | rfl)); rfl; rfl
  apply dn
  apply x3
  (repeat apply sq)
  apply rg
  apply R_fldP; rfl; rfl; rfl; rfl; rfl
  apply R_ldP; rfl; rfl; rfl; rfl; rfl; rfl
  obtain ⟨r2, hr2, H⟩ := bindS H
  apply Run.op; (apply L_call; ((apply ArgsV.cons; (apply ArgV.val; rfl; rfl)); (apply ArgsV.nil)); (exact m_laws_toParentS a0.fParents _ hr2); rfl; rfl; rfl); rfl; rfl
  apply R_fldP; rfl; rfl; rfl; rfl; rfl
  apply Run.op; (apply L_stT (cells' := [.sc (.int .i64 a0.fNode), .sc (.bool r1.fNum.fNeg), .rw 1 r1.fNum.fMag.length (r1.fNum.fMag.flatMap (encI .i64)), .rw 1 r1.fDen.length (r1.fDen.flatMap (encI .i64)), .rw 10 r2.length (r2.flatMap encWParent)]); rfl; rfl; rfl; rfl; rfl; rfl; (intro h; cases h); rfl; (first | exact splice_whole rfl | rfl)); rfl; rfl
  apply dn
  apply x3
  (repeat apply sq)
  apply rg
  apply Run.op; (apply L_ldPAT; rfl; rfl; rfl; (intro h; cases h); rfl; (exact io1 hio _); rfl); rfl; rfl
  apply Run.op; (apply L_stT (cells' := [.sc (.int .i64 a0.fNode), .sc (.bool r1.fNum.fNeg), .rw 1 r1.fNum.fMag.length (r1.fNum.fMag.flatMap (encI .i64)), .rw 1 r1.fDen.length (r1.fDen.flatMap (encI .i64)), .rw 10 r2.length (r2.flatMap encWParent)]); rfl; rfl; rfl; rfl; rfl; rfl; (intro h; cases h); rfl; (first | exact splice_whole rfl | rfl)); rfl; rfl
  apply dn
  apply x3
  apply CodeT.ret
  cases H
  apply x12
  exact RetIs.c1 rfl rfl rfl rfl (by intro h; cases h)
theorem m_laws_toTreeNode (a0 : TreeNode) (r : TreeNode) (H : laws_toTreeNode a0 = some r) : Meets Try.prog 31 [.agg (encTreeNode a0)] (.agg (encWTreeNode r)) true := by
  refine Meets.intro2 (N := 27) (rs := #[.cell 2 48]) Try.func31 rfl rfl rfl rfl ?_
  intro Γ hio
  unfold laws_toTreeNode at H
  (repeat apply sq)
  apply rg
  apply Run.op; (apply L_box false; rfl; rfl; rfl; (exact io1 hio _); rfl); rfl; rfl
  apply Run.op; (apply L_alloc false; (exact io1 hio _); rfl); rfl; rfl
  apply dn
  apply x3
  (repeat apply sq)
  apply rg
  apply Run.op; (apply L_alloc false; (exact io1 hio _); rfl); rfl; rfl
  apply dn
  apply x3
  (repeat apply sq)
  apply rg
  apply R_fldP; rfl; rfl; rfl; rfl; rfl
  apply R_ldP; rfl; rfl; rfl; rfl; rfl; rfl
  apply R_fldP; rfl; rfl; rfl; rfl; rfl
  apply Run.op; (apply L_st (cells' := [.sc (.int .i64 a0.fNode), .sc (.int .i64 0), .sc (.slice none 0 0), .sc (.int .i64 0), .sc (.bool false), .sc (.slice none 0 0), .sc (.slice none 0 0), .sc (.slice none 0 0), .sc (.slice none 0 0), .sc (.bool false), .sc (.slice none 0 0), .sc (.slice none 0 0)]); rfl; rfl; rfl; rfl; rfl; (intro h; cases h); rfl; (first | exact splice_whole rfl | rfl)); rfl; rfl
  apply dn
  apply x3
  (repeat apply sq)
  apply rg
  apply R_fldP; rfl; rfl; rfl; rfl; rfl
  apply R_ldP; rfl; rfl; rfl; rfl; rfl; rfl
  apply R_fldP; rfl; rfl; rfl; rfl; rfl
  apply Run.op; (apply L_st (cells' := [.sc (.int .i64 a0.fNode), .sc (.int .i64 a0.fUp), .sc (.slice none 0 0), .sc (.int .i64 0), .sc (.bool false), .sc (.slice none 0 0), .sc (.slice none 0 0), .sc (.slice none 0 0), .sc (.slice none 0 0), .sc (.bool false), .sc (.slice none 0 0), .sc (.slice none 0 0)]); rfl; rfl; rfl; rfl; rfl; (intro h; cases h); rfl; (first | exact splice_whole rfl | rfl)); rfl; rfl
  apply dn
  apply x3
  (repeat apply sq)
  apply rg
  apply R_fldP; rfl; rfl; rfl; rfl; rfl
  apply R_ldP; rfl; rfl; rfl; rfl; rfl; rfl
  obtain ⟨r1, hr1, H⟩ := bindS H
  apply Run.op; (apply L_call; ((apply ArgsV.cons; (apply ArgV.val; rfl; rfl)); (apply ArgsV.nil)); (exact m_laws_toLinkS a0.fOwn _ hr1); rfl; rfl; rfl); rfl; rfl
  apply R_fldP; rfl; rfl; rfl; rfl; rfl
  apply Run.op; (apply L_stT (cells' := [.sc (.int .i64 a0.fNode), .sc (.int .i64 a0.fUp), .rw 11 r1.length (r1.flatMap encWLink), .sc (.int .i64 0), .sc (.bool false), .sc (.slice none 0 0), .sc (.slice none 0 0), .sc (.slice none 0 0), .sc (.slice none 0 0), .sc (.bool false), .sc (.slice none 0 0), .sc (.slice none 0 0)]); rfl; rfl; rfl; rfl; rfl; rfl; (intro h; cases h); rfl; (first | exact splice_whole rfl | rfl)); rfl; rfl
  apply dn
  apply x3
  (repeat apply sq)
  apply rg
  apply R_fldP; rfl; rfl; rfl; rfl; rfl
  apply R_ldPA; rfl; rfl; (first | exact seg_whole rfl | rfl); rfl; rfl; rfl; rfl; rfl
  obtain ⟨r2, hr2, H⟩ := bindS H
  apply Run.op; (apply L_call; ((apply ArgsV.cons; (apply ArgV.val; rfl; rfl)); (apply ArgsV.nil)); (exact m_laws_toConditional a0.fCond _ hr2); rfl; rfl; rfl); rfl; rfl
  apply R_fldP; rfl; rfl; rfl; rfl; rfl
  apply Run.op; (apply L_stT (cells' := [.sc (.int .i64 a0.fNode), .sc (.int .i64 a0.fUp), .rw 11 r1.length (r1.flatMap encWLink), .sc (.int .i64 r2.fNode), .sc (.bool r2.fTotal.fNum.fNeg), .rw 1 r2.fTotal.fNum.fMag.length (r2.fTotal.fNum.fMag.flatMap (encI .i64)), .rw 1 r2.fTotal.fDen.length (r2.fTotal.fDen.flatMap (encI .i64)), .rw 10 r2.fParents.length (r2.fParents.flatMap encWParent), .sc (.slice none 0 0), .sc (.bool false), .sc (.slice none 0 0), .sc (.slice none 0 0)]); rfl; rfl; rfl; rfl; rfl; rfl; (intro h; cases h); rfl; (first | exact splice_whole rfl | rfl)); rfl; rfl
  apply dn
  apply x3
  (repeat apply sq)
  apply rg
  apply R_fldP; rfl; rfl; rfl; rfl; rfl
  apply R_ldP; rfl; rfl; rfl; rfl; rfl; rfl
  obtain ⟨r3, hr3, H⟩ := bindS H
  apply Run.op; (apply L_call; ((apply ArgsV.cons; (apply ArgV.val; rfl; rfl)); (apply ArgsV.nil)); (exact m_laws_toLinkS a0.fMessages _ hr3); rfl; rfl; rfl); rfl; rfl
  apply R_fldP; rfl; rfl; rfl; rfl; rfl
  apply Run.op; (apply L_stT (cells' := [.sc (.int .i64 a0.fNode), .sc (.int .i64 a0.fUp), .rw 11 r1.length (r1.flatMap encWLink), .sc (.int .i64 r2.fNode), .sc (.bool r2.fTotal.fNum.fNeg), .rw 1 r2.fTotal.fNum.fMag.length (r2.fTotal.fNum.fMag.flatMap (encI .i64)), .rw 1 r2.fTotal.fDen.length (r2.fTotal.fDen.flatMap (encI .i64)), .rw 10 r2.fParents.length (r2.fParents.flatMap encWParent), .rw 11 r3.length (r3.flatMap encWLink), .sc (.bool false), .sc (.slice none 0 0), .sc (.slice none 0 0)]); rfl; rfl; rfl; rfl; rfl; rfl; (intro h; cases h); rfl; (first | exact splice_whole rfl | rfl)); rfl; rfl
  apply dn
  apply x3
  (repeat apply sq)
  apply rg
  apply R_fldP; rfl; rfl; rfl; rfl; rfl
  apply R_ldPA; rfl; rfl; (first | exact seg_whole rfl | rfl); rfl; rfl; rfl; rfl; rfl
  obtain ⟨r4, hr4, H⟩ := bindS H
  apply Run.op; (apply L_call; ((apply ArgsV.cons; (apply ArgV.val; rfl; rfl)); (apply ArgsV.nil)); (exact m_laws_toRat a0.fEnergy _ hr4); rfl; rfl; rfl); rfl; rfl
  apply R_fldP; rfl; rfl; rfl; rfl; rfl
  apply Run.op; (apply L_stT (cells' := [.sc (.int .i64 a0.fNode), .sc (.int .i64 a0.fUp), .rw 11 r1.length (r1.flatMap encWLink), .sc (.int .i64 r2.fNode), .sc (.bool r2.fTotal.fNum.fNeg), .rw 1 r2.fTotal.fNum.fMag.length (r2.fTotal.fNum.fMag.flatMap (encI .i64)), .rw 1 r2.fTotal.fDen.length (r2.fTotal.fDen.flatMap (encI .i64)), .rw 10 r2.fParents.length (r2.fParents.flatMap encWParent), .rw 11 r3.length (r3.flatMap encWLink), .sc (.bool r4.fNum.fNeg), .rw 1 r4.fNum.fMag.length (r4.fNum.fMag.flatMap (encI .i64)), .rw 1 r4.fDen.length (r4.fDen.flatMap (encI .i64))]); rfl; rfl; rfl; rfl; rfl; rfl; (intro h; cases h); rfl; (first | exact splice_whole rfl | rfl)); rfl; rfl
  apply dn
  apply x3
  (repeat apply sq)
  apply rg
  apply Run.op; (apply L_ldPAT; rfl; rfl; rfl; (intro h; cases h); rfl; (exact io1 hio _); rfl); rfl; rfl
  apply Run.op; (apply L_stT (cells' := [.sc (.int .i64 a0.fNode), .sc (.int .i64 a0.fUp), .rw 11 r1.length (r1.flatMap encWLink), .sc (.int .i64 r2.fNode), .sc (.bool r2.fTotal.fNum.fNeg), .rw 1 r2.fTotal.fNum.fMag.length (r2.fTotal.fNum.fMag.flatMap (encI .i64)), .rw 1 r2.fTotal.fDen.length (r2.fTotal.fDen.flatMap (encI .i64)), .rw 10 r2.fParents.length (r2.fParents.flatMap encWParent), .rw 11 r3.length (r3.flatMap encWLink), .sc (.bool r4.fNum.fNeg), .rw 1 r4.fNum.fMag.length (r4.fNum.fMag.flatMap (encI .i64)), .rw 1 r4.fDen.length (r4.fDen.flatMap (encI .i64))]); rfl; rfl; rfl; rfl; rfl; rfl; (intro h; cases h); rfl; (first | exact splice_whole rfl | rfl)); rfl; rfl
  apply dn
  apply x3
  apply CodeT.ret
  cases H
  apply x12
  exact RetIs.c1 rfl rfl rfl rfl (by intro h; cases h)
theorem m_laws_toTreeNodeS (a0 : (List TreeNode)) (r : (List TreeNode)) (H : laws_toTreeNodeS a0 = some r) : Meets Try.prog 16 [.sl a0.length (a0.flatMap encTreeNode)] (.rw 12 r.length (r.flatMap encWTreeNode)) true := by
  refine Meets.intro2 (N := 23) (rs := #[.tmp 2]) Try.func16 rfl rfl rfl rfl ?_
  intro Γ hio
  unfold laws_toTreeNodeS at H
  (repeat apply sq)
  apply rg
  apply R_asg; rfl; rfl; rfl
  apply dn
  apply x3
  (repeat apply sq)
  apply rg
  apply R_mov; rfl; rfl; rfl
  apply R_len; rfl; rfl; rfl
  obtain ⟨_u, hm1, H⟩ := bindS H
  apply Run.op; (apply Local.softO (SoftL.rep (e := fun _ => [.sc (.int .i64 0), .sc (.int .i64 0), .sc (.slice none 0 0), .sc (.int .i64 0), .sc (.bool false), .sc (.slice none 0 0), .sc (.slice none 0 0), .sc (.slice none 0 0), .sc (.slice none 0 0), .sc (.bool false), .sc (.slice none 0 0), .sc (.slice none 0 0)]) (e' := encWTreeNode) (z := (TreeNode.mk 0 0 ([]) (Conditional.mk 0 (Rat.mk (BigInt.mk false ([])) ([])) ([])) ([]) (Rat.mk (BigInt.mk false ([])) ([])))) (SoftL.cons (Soft.refl _) (SoftL.cons (Soft.refl _) (SoftL.cons Soft.nilW (SoftL.cons (Soft.refl _) (SoftL.cons (Soft.refl _) (SoftL.cons Soft.nilW (SoftL.cons Soft.nilW (SoftL.cons Soft.nilW (SoftL.cons Soft.nilW (SoftL.cons (Soft.refl _) (SoftL.cons Soft.nilW (SoftL.cons Soft.nilW SoftL.nil)))))))))))) _); apply L_make2 (enc := fun _ => [.sc (.int .i64 0), .sc (.int .i64 0), .sc (.slice none 0 0), .sc (.int .i64 0), .sc (.bool false), .sc (.slice none 0 0), .sc (.slice none 0 0), .sc (.slice none 0 0), .sc (.slice none 0 0), .sc (.bool false), .sc (.slice none 0 0), .sc (.slice none 0 0)]) (z := (TreeNode.mk 0 0 ([]) (Conditional.mk 0 (Rat.mk (BigInt.mk false ([])) ([])) ([])) ([]) (Rat.mk (BigInt.mk false ([])) ([])))); rfl; rfl; rfl; (exact chkS hm1); rfl; decide; (intro h; cases h); (exact io1 hio _); rfl); rfl; rfl
  apply R_asg; rfl; rfl; rfl
  apply dn
  apply x3
  (repeat apply sq)
  apply rg
  apply R_asg; rfl; rfl; rfl
  apply dn
  apply x3
  (repeat apply sq)
  apply CodeT.block
  (repeat apply sq)
  obtain ⟨d15, hd15, H⟩ := bindS H
  refine CodeT.lloop (fun s => ⟨[(0, ⟨.sl a0.length (a0.flatMap encTreeNode), false⟩), (3, ⟨.ref 503 12 0 s.2.length, false⟩), (4, ⟨.sc (.int .i64 s.1), false⟩)], [(503, some ⟨s.2.flatMap encWTreeNode, true, false⟩)]⟩) (fun d e E => XEnv Γ (.exit 0) ⟨[(3, ⟨.ref 503 12 0 d.length, false⟩)], [(503, some ⟨d.flatMap encWTreeNode, true, false⟩)]⟩ e E) hd15 ?_ ?_ ?_
  apply el [(503, 7)] (io0 hio _) <;> rfl
  clear H hd15
  rintro ⟨v7, v8⟩ o H
  unfold laws_toTreeNodeS_L1 at H
  (repeat apply sq)
  apply rg
  apply R_mov; rfl; rfl; rfl
  apply R_mov; rfl; rfl; rfl
  apply R_len; rfl; rfl; rfl
  apply R_lss; rfl; rfl; rfl; rfl
  apply dn
  apply x3
  (repeat apply sq)
  refine CodeT.cond rfl (fun h => ?_) (fun h => ?_)
  replace H := ifT (of_decide_eq_true h) H
  (repeat apply sq)
  apply CodeT.skip
  apply x3
  (repeat apply sq)
  apply CodeT.block
  (repeat apply sq)
  apply rg
  apply R_mov; rfl; rfl; rfl
  apply R_mov; rfl; rfl; rfl
  apply R_mov; rfl; rfl; rfl
  apply R_mov; rfl; rfl; rfl
  obtain ⟨y9, hy9, H⟩ := bindS H
  apply Run.op; (apply L_ixS2; rfl; rfl; rfl; (exact hy9); (intro _; rfl); rfl); rfl; rfl
  apply Run.op; (apply L_ldIA; rfl; (first | exact take_whole rfl | rfl); rfl; (intro h; cases h); rfl; rfl); rfl; rfl
  obtain ⟨r10, hr10, H⟩ := bindS H
  apply Run.op; (apply L_call; ((apply ArgsV.cons; (apply ArgV.val; rfl; rfl)); (apply ArgsV.nil)); (exact m_laws_toTreeNode y9 _ hr10); rfl; rfl; rfl); rfl; rfl
  obtain ⟨y11, hy11, H⟩ := bindS H
  apply Run.op; (apply L_ixR2; rfl; rfl; rfl; (exact hy11); rfl; rfl); rfl; rfl
  obtain ⟨v12, hv12, H⟩ := bindS H
  have hl13 := setI_lenS hv12
  apply Run.op; (apply L_stT; rfl; rfl; rfl; rfl; rfl; rfl; (intro h; cases h); (exact row_ble0 (sz := 12) (n := 12) hy11 (fun _ => rfl) (by decide)); (exact row_stL (sz := 12) hv12 hy11 (fun _ => rfl) rfl)); rfl; rfl
  apply dn
  apply x5
  apply x3
  refine CodeT.weak (Ent.relen (k := 3) (n' := v12.length) rfl (by first | (simp only [setI_len]; done) | (simp only [setI_len]; omega) | omega)) ?_
  apply rg
  apply R_mov; rfl; rfl; rfl
  apply R_add; rfl; rfl; rfl; rfl; rfl
  apply R_asg; rfl; rfl; rfl
  apply dn
  obtain rfl := Option.some.inj H
  refine Ev.y1 ?_
  apply el [] (io0 hio _) <;> rfl
  replace H := ifF (of_decide_eq_false h) H
  (repeat apply sq)
  apply CodeT.exit
  apply x2
  obtain rfl := Option.some.inj H
  refine Ev.y3 ?_
  refine XEnv.mk ?_
  apply el [] (io0 hio _) <;> rfl
  skip
  intro e E' hX; obtain ⟨rfl, g16⟩ := XEnv.out hX
  refine x6 rfl ?_
  apply x3
  refine CodeT.weak g16 ?_
  (repeat apply sq)
  apply rg
  apply R_mov; rfl; rfl; rfl
  apply R_asg; rfl; rfl; rfl
  apply dn
  apply x3
  apply CodeT.ret
  cases H
  apply x12
  exact RetIs.rW rfl rfl rfl (io1 hio _)
theorem m_laws_toTree (a0 : Tree) (r : Tree) (H : laws_toTree a0 = some r) : Meets Try.prog 6 [.agg (encTree a0)] (.agg (encWTree r)) true := by
  refine Meets.intro2 (N := 9) (rs := #[.cell 2 34]) Try.func6 rfl rfl rfl rfl ?_
  intro Γ hio
  unfold laws_toTree at H
  (repeat apply sq)
  apply rg
  apply Run.op; (apply L_box false; rfl; rfl; rfl; (exact io1 hio _); rfl); rfl; rfl
  apply Run.op; (apply L_alloc false; (exact io1 hio _); rfl); rfl; rfl
  apply dn
  apply x3
  (repeat apply sq)
  apply rg
  apply Run.op; (apply L_alloc false; (exact io1 hio _); rfl); rfl; rfl
  apply dn
  apply x3
  (repeat apply sq)
  apply rg
  apply R_fldP; rfl; rfl; rfl; rfl; rfl
  apply R_ldP; rfl; rfl; rfl; rfl; rfl; rfl
  obtain ⟨r1, hr1, H⟩ := bindS H
  apply Run.op; (apply L_call; ((apply ArgsV.cons; (apply ArgV.val; rfl; rfl)); (apply ArgsV.nil)); (exact m_laws_toTreeNodeS a0.fNodes _ hr1); rfl; rfl; rfl); rfl; rfl
  apply R_fldP; rfl; rfl; rfl; rfl; rfl
  apply Run.op; (apply L_stT (cells' := [.rw 12 r1.length (r1.flatMap encWTreeNode)]); rfl; rfl; rfl; rfl; rfl; rfl; (intro h; cases h); rfl; (first | exact splice_whole rfl | rfl)); rfl; rfl
  apply dn
  apply x3
  (repeat apply sq)
  apply rg
  apply Run.op; (apply L_ldPAT; rfl; rfl; rfl; (intro h; cases h); rfl; (exact io1 hio _); rfl); rfl; rfl
  apply Run.op; (apply L_stT (cells' := [.rw 12 r1.length (r1.flatMap encWTreeNode)]); rfl; rfl; rfl; rfl; rfl; rfl; (intro h; cases h); rfl; (first | exact splice_whole rfl | rfl)); rfl; rfl
  apply dn
  apply x3
  apply CodeT.ret
  cases H
  apply x12
  exact RetIs.c1 rfl rfl rfl rfl (by intro h; cases h)
theorem m_spec_l02Trim (a0 : (List Int)) (r : (List Int)) (H : spec_l02Trim a0 = some r) : Meets Try.prog 77 [.sl a0.length (a0.flatMap (encI .i64))] (.sl r.length (r.flatMap (encI .i64))) false := by
  refine Meets.intro2 (N := 21) (rs := #[.tmp 2]) Try.func77 rfl rfl rfl rfl ?_
  intro Γ hio
  unfold spec_l02Trim at H
  (repeat apply sq)
  apply rg
  apply R_asg; rfl; rfl; rfl
  apply dn
  apply x3
  (repeat apply sq)
  apply rg
  apply R_mov; rfl; rfl; rfl
  apply R_len; rfl; rfl; rfl
  apply R_asg; rfl; rfl; rfl
  apply dn
  apply x3
  (repeat apply sq)
  apply CodeT.block
  (repeat apply sq)
  obtain ⟨d13, hd13, H⟩ := bindS H
  refine CodeT.lloop (fun s => ⟨[(0, ⟨.sl a0.length (a0.flatMap (encI .i64)), false⟩), (3, ⟨.sc (.int .i64 s), false⟩)], []⟩) (fun d e E => XEnv Γ (.exit 0) ⟨[(0, ⟨.sl a0.length (a0.flatMap (encI .i64)), false⟩), (3, ⟨.sc (.int .i64 d), false⟩)], []⟩ e E) hd13 ?_ ?_ ?_
  apply el [] (io0 hio _) <;> rfl
  clear H hd13
  rintro v7 o H
  unfold spec_l02Trim_L1 at H
  (repeat apply sq)
  obtain ⟨d10, hd10, H⟩ := bindS H
  refine CodeT.lcut (x := d10) (fun d e E => XEnv Γ .normal ⟨[(0, ⟨.sl a0.length (a0.flatMap (encI .i64)), false⟩), (3, ⟨.sc (.int .i64 v7), false⟩), (15, ⟨.sc (.bool d), false⟩)], []⟩ e E) ?_ ?_
  clear H; have H := hd10; clear hd10
  apply rg
  apply R_mov; rfl; rfl; rfl
  apply R_dec; (apply L_gtr; rfl; rfl; rfl); rfl
  intro h; replace H := ifT h H
  apply R_mov; rfl; rfl; rfl
  apply R_mov; rfl; rfl; rfl
  apply R_mov; rfl; rfl; rfl
  apply R_sub; rfl; rfl; rfl; rfl; rfl
  obtain ⟨y8, hy8, H⟩ := bindS H
  apply Run.op; (apply L_ixS2; rfl; rfl; rfl; (exact hy8); (intro _; rfl); rfl); rfl; rfl
  apply R_ldI; rfl; rfl; rfl; rfl; rfl
  apply R_eql; rfl; rfl; rfl; rfl
  apply R_pickT; rfl; rfl; rfl; rfl
  apply dn
  obtain rfl := Option.some.inj H
  refine Ev.y4 ?_
  refine XEnv.mk ?_
  apply el [] (io0 hio _) <;> rfl
  intro h; replace H := ifF h H
  apply R_mov; rfl; rfl; rfl
  apply Run.skip; rfl
  apply Run.skip; rfl
  apply Run.skip; rfl
  apply Run.skip; rfl
  apply Run.skip; rfl
  apply Run.skip; rfl
  apply R_pickF; rfl; rfl; rfl; rfl
  apply dn
  obtain rfl := Option.some.inj H
  refine Ev.y4 ?_
  refine XEnv.mk ?_
  apply el [] (io0 hio _) <;> rfl
  intro e E' hX; obtain ⟨rfl, g11⟩ := XEnv.out hX
  apply x3
  refine CodeT.weak g11 ?_
  (repeat apply sq)
  refine CodeT.cond rfl (fun h => ?_) (fun h => ?_)
  replace H := ifTb h H
  (repeat apply sq)
  apply CodeT.skip
  apply x3
  apply CodeT.block
  (repeat apply sq)
  apply rg
  apply R_mov; rfl; rfl; rfl
  apply R_sub; rfl; rfl; rfl; rfl; rfl
  apply R_asg; rfl; rfl; rfl
  apply dn
  apply x5
  obtain rfl := Option.some.inj H
  refine Ev.y1 ?_
  apply el [] (io0 hio _) <;> rfl
  replace H := ifFb h H
  (repeat apply sq)
  apply CodeT.exit
  apply x2
  obtain rfl := Option.some.inj H
  refine Ev.y3 ?_
  refine XEnv.mk ?_
  apply el [] (io0 hio _) <;> rfl
  skip
  intro e E' hX; obtain ⟨rfl, g14⟩ := XEnv.out hX
  refine x6 rfl ?_
  apply x3
  refine CodeT.weak g14 ?_
  (repeat apply sq)
  apply rg
  apply R_mov; rfl; rfl; rfl
  apply R_mov; rfl; rfl; rfl
  obtain ⟨y15, hy15, H⟩ := bindS H
  apply Run.op; (apply L_slS; rfl; rfl; rfl; rfl; (exact hy15); (intro _; rfl); rfl); rfl; rfl
  apply R_asg; rfl; rfl; rfl
  apply dn
  apply x3
  apply CodeT.ret
  cases H
  apply x12
  exact RetIs.one (Res1.val rfl rfl) (fun h => by cases h)
theorem md_spec_l02Trim (a0 : (List Int)) (r : (List Int)) (H : spec_l02Trim a0 = some r) : MeetsD Try.prog 77 [(.rw 1 a0.length (a0.flatMap (encI .i64)), true)] (.rw 1 r.length (r.flatMap (encI .i64))) := by
  refine MeetsD.intro (N := 21) (rs := #[.tmp 2]) Try.func77 rfl rfl rfl rfl ?_
  intro Γ hio
  unfold spec_l02Trim at H
  (repeat apply sq)
  apply rg
  apply R_asg; rfl; rfl; rfl
  apply dn
  apply x3
  (repeat apply sq)
  apply rg
  apply Run.op; (apply Local.soft (Soft.rw (SoftL.refl _)); apply L_mov; rfl; rfl); rfl; rfl
  apply R_len; rfl; rfl; rfl
  apply R_asg; rfl; rfl; rfl
  apply dn
  apply x3
  (repeat apply sq)
  apply CodeT.block
  (repeat apply sq)
  obtain ⟨d13, hd13, H⟩ := bindS H
  refine CodeT.lloop (fun s => ⟨[(0, ⟨.rw 1 a0.length (a0.flatMap (encI .i64)), true⟩), (3, ⟨.sc (.int .i64 s), false⟩)], []⟩) (fun d e E => XEnv Γ (.exit 0) ⟨[(0, ⟨.rw 1 a0.length (a0.flatMap (encI .i64)), true⟩), (3, ⟨.sc (.int .i64 d), false⟩)], []⟩ e E) hd13 ?_ ?_ ?_
  apply el [] (io0 hio _) <;> rfl
  clear H hd13
  rintro v7 o H
  unfold spec_l02Trim_L1 at H
  (repeat apply sq)
  obtain ⟨d10, hd10, H⟩ := bindS H
  refine CodeT.lcut (x := d10) (fun d e E => XEnv Γ .normal ⟨[(0, ⟨.rw 1 a0.length (a0.flatMap (encI .i64)), true⟩), (3, ⟨.sc (.int .i64 v7), false⟩), (15, ⟨.sc (.bool d), false⟩)], []⟩ e E) ?_ ?_
  clear H; have H := hd10; clear hd10
  apply rg
  apply R_mov; rfl; rfl; rfl
  apply R_dec; (apply L_gtr; rfl; rfl; rfl); rfl
  intro h; replace H := ifT h H
  apply R_mov; rfl; rfl; rfl
  apply Run.op; (apply Local.soft (Soft.rw (SoftL.refl _)); apply L_mov; rfl; rfl); rfl; rfl
  apply R_mov; rfl; rfl; rfl
  apply R_sub; rfl; rfl; rfl; rfl; rfl
  obtain ⟨y8, hy8, H⟩ := bindS H
  apply Run.op; (apply L_ixS2; rfl; rfl; rfl; (exact hy8); (intro _; rfl); rfl); rfl; rfl
  apply R_ldI; rfl; rfl; rfl; rfl; rfl
  apply R_eql; rfl; rfl; rfl; rfl
  apply R_pickT; rfl; rfl; rfl; rfl
  apply dn
  obtain rfl := Option.some.inj H
  refine Ev.y4 ?_
  refine XEnv.mk ?_
  apply el [] (io0 hio _) <;> rfl
  intro h; replace H := ifF h H
  apply R_mov; rfl; rfl; rfl
  apply Run.skip; rfl
  apply Run.skip; rfl
  apply Run.skip; rfl
  apply Run.skip; rfl
  apply Run.skip; rfl
  apply Run.skip; rfl
  apply R_pickF; rfl; rfl; rfl; rfl
  apply dn
  obtain rfl := Option.some.inj H
  refine Ev.y4 ?_
  refine XEnv.mk ?_
  apply el [] (io0 hio _) <;> rfl
  intro e E' hX; obtain ⟨rfl, g11⟩ := XEnv.out hX
  apply x3
  refine CodeT.weak g11 ?_
  (repeat apply sq)
  refine CodeT.cond rfl (fun h => ?_) (fun h => ?_)
  replace H := ifTb h H
  (repeat apply sq)
  apply CodeT.skip
  apply x3
  apply CodeT.block
  (repeat apply sq)
  apply rg
  apply R_mov; rfl; rfl; rfl
  apply R_sub; rfl; rfl; rfl; rfl; rfl
  apply R_asg; rfl; rfl; rfl
  apply dn
  apply x5
  obtain rfl := Option.some.inj H
  refine Ev.y1 ?_
  apply el [] (io0 hio _) <;> rfl
  replace H := ifFb h H
  (repeat apply sq)
  apply CodeT.exit
  apply x2
  obtain rfl := Option.some.inj H
  refine Ev.y3 ?_
  refine XEnv.mk ?_
  apply el [] (io0 hio _) <;> rfl
  skip
  intro e E' hX; obtain ⟨rfl, g14⟩ := XEnv.out hX
  refine x6 rfl ?_
  apply x3
  refine CodeT.weak g14 ?_
  (repeat apply sq)
  apply rg
  apply R_movT; rfl; rfl; rfl; rfl
  apply R_mov; rfl; rfl; rfl
  obtain ⟨y15, hy15, H⟩ := bindS H
  apply Run.op; (apply L_slW; rfl; rfl; rfl; (exact hy15); (intro _; rfl); (intro _; rfl); rfl); rfl; rfl
  apply R_asgT; rfl; rfl; rfl; rfl
  apply dn
  apply x3
  apply CodeT.ret
  cases H
  apply x12
  exact RetIs.one (Res1.deep rfl rfl) (fun _ h => by cases h)
theorem m_spec_l02Cap (a0 : (List Int)) (r : (List Int)) (H : spec_l02Cap a0 = some r) : Meets Try.prog 69 [.sl a0.length (a0.flatMap (encI .i64))] (.sl r.length (r.flatMap (encI .i64))) false := by
  refine Meets.intro2 (N := 10) (rs := #[.tmp 2]) Try.func69 rfl rfl rfl rfl ?_
  intro Γ hio
  unfold spec_l02Cap at H
  (repeat apply sq)
  apply rg
  apply R_asg; rfl; rfl; rfl
  apply dn
  apply x3
  (repeat apply sq)
  apply rg
  apply R_mov; rfl; rfl; rfl
  obtain ⟨r1, hr1, H⟩ := bindS H
  apply Run.op; (apply L_call; ((apply ArgsV.cons; (apply ArgV.val; rfl; rfl)); (apply ArgsV.nil)); (exact m_spec_l02Trim a0 _ hr1); rfl; rfl; rfl); rfl; rfl
  apply R_asg; rfl; rfl; rfl
  apply dn
  apply x3
  (repeat apply sq)
  apply rg
  apply R_mov; rfl; rfl; rfl
  apply R_len; rfl; rfl; rfl
  apply R_gtr; rfl; rfl; rfl; rfl
  apply dn
  apply x3
  (repeat apply sq)
  refine CodeT.cond rfl (fun h => ?_) (fun h => ?_)
  replace H := ifT (of_decide_eq_true h) H
  (repeat apply sq)
  apply rg
  apply R_asg; rfl; rfl; rfl
  apply dn
  apply x3
  apply CodeT.ret
  apply x1
  cases H
  apply x12
  exact RetIs.one (Res1.nil rfl) (fun _ h => by cases h)
  replace H := ifF (of_decide_eq_false h) H
  (repeat apply sq)
  apply CodeT.skip
  apply x3
  (repeat apply sq)
  apply rg
  apply R_mov; rfl; rfl; rfl
  apply R_asg; rfl; rfl; rfl
  apply dn
  apply x3
  apply CodeT.ret
  cases H
  apply x12
  exact RetIs.one (Res1.val rfl rfl) (fun h => by cases h)
theorem md_spec_l02Cap (a0 : (List Int)) (r : (List Int)) (H : spec_l02Cap a0 = some r) : MeetsD Try.prog 69 [(.rw 1 a0.length (a0.flatMap (encI .i64)), true)] (.rw 1 r.length (r.flatMap (encI .i64))) := by
  refine MeetsD.intro (N := 10) (rs := #[.tmp 2]) Try.func69 rfl rfl rfl rfl ?_
  intro Γ hio
  unfold spec_l02Cap at H
  (repeat apply sq)
  apply rg
  apply R_asg; rfl; rfl; rfl
  apply dn
  apply x3
  (repeat apply sq)
  apply rg
  apply R_movT; rfl; rfl; rfl; rfl
  obtain ⟨r1, hr1, H⟩ := bindS H
  apply Run.op; (apply L_callD1; rfl; rfl; (exact md_spec_l02Trim a0 _ hr1); rfl; rfl); rfl; rfl
  apply R_asgT; rfl; rfl; rfl; rfl
  apply dn
  apply x3
  (repeat apply sq)
  apply rg
  apply Run.op; (apply Local.soft (Soft.rw (SoftL.refl _)); apply L_mov; rfl; rfl); rfl; rfl
  apply R_len; rfl; rfl; rfl
  apply R_gtr; rfl; rfl; rfl; rfl
  apply dn
  apply x3
  (repeat apply sq)
  refine CodeT.cond rfl (fun h => ?_) (fun h => ?_)
  replace H := ifT (of_decide_eq_true h) H
  (repeat apply sq)
  apply rg
  apply R_asg; rfl; rfl; rfl
  apply dn
  apply x3
  apply CodeT.ret
  apply x1
  cases H
  apply x12
  exact RetIs.one (Res1.nilW rfl) (fun _ h => by cases h)
  replace H := ifF (of_decide_eq_false h) H
  (repeat apply sq)
  apply CodeT.skip
  apply x3
  (repeat apply sq)
  apply rg
  apply R_movT; rfl; rfl; rfl; rfl
  apply R_asgT; rfl; rfl; rfl; rfl
  apply dn
  apply x3
  apply CodeT.ret
  cases H
  apply x12
  exact RetIs.one (Res1.deep rfl rfl) (fun _ h => by cases h)
theorem m_spec_l03Make (a0 : Bool) (a1 : (List Int)) (r : BigInt) (H : spec_l03Make a0 a1 = some r) : Meets Try.prog 41 [.sc (.bool a0), .sl a1.length (a1.flatMap (encI .i64))] (.agg (encWBigInt r)) true := by
  refine Meets.intro2 (N := 18) (rs := #[.cell 4 28]) Try.func41 rfl rfl rfl rfl ?_
  intro Γ hio
  unfold spec_l03Make at H
  (repeat apply sq)
  apply rg
  apply Run.op; (apply L_alloc false; (exact io1 hio _); rfl); rfl; rfl
  apply dn
  apply x3
  (repeat apply sq)
  apply rg
  apply R_mov; rfl; rfl; rfl
  obtain ⟨r1, hr1, H⟩ := bindS H
  apply Run.op; (apply L_call; ((apply ArgsV.cons; (apply ArgV.val; rfl; rfl)); (apply ArgsV.nil)); (exact m_spec_l02Cap a1 _ hr1); rfl; rfl; rfl); rfl; rfl
  apply R_asg; rfl; rfl; rfl
  apply dn
  apply x3
  (repeat apply sq)
  apply rg
  apply R_bool; (apply L_mov; rfl; rfl); rfl
  intro h; replace H := ifTb h H
  apply R_mov; rfl; rfl; rfl
  apply R_mov; rfl; rfl; rfl
  apply R_len; rfl; rfl; rfl
  apply R_gtr; rfl; rfl; rfl; rfl
  apply R_pickT; rfl; rfl; rfl; rfl
  apply Run.op; (apply L_bs0; (exact io1 hio _); rfl); rfl; rfl
  apply R_mov; rfl; rfl; rfl
  obtain ⟨_u, ha2, H⟩ := bindS H
  obtain ⟨v3, hv3, H⟩ := bindS H
  apply Run.op; (apply Local.frz 16; apply L_app true; rfl; rfl; rfl; (exact flat_len (l := ([] : List Int)) (enc := (encI .i64)) (fun _ => rfl)); (exact flat_len (l := r1) (enc := (encI .i64)) (fun _ => rfl)); (exact chkS ha2); (exact app63 (by decide) (chkS ha2)); (exact ⟨io1 hio _, io1 hio _⟩); (intro _; exact allSc_flat (l := r1) (enc := (encI .i64)) (fun _ => rfl)); (exact flat_catL (l := ([] : List Int)) (r := r1) (enc := (encI .i64)) hv3); rfl; rfl; rfl; (exact io1 hio _); rfl); rfl; rfl
  apply Run.op; (apply L_buildC true; (apply BuildV.sc; rfl; rfl; rfl; rfl; rfl; rfl; rfl; apply BuildV.tk (ks := []); rfl; rfl; rfl; rfl; rfl; rfl; rfl; apply BuildV.nil); rfl; rfl); rfl; rfl
  apply Run.op; (apply L_stT (cells' := [.sc (.bool (decide (0 < (r1.length : Int)))), .rw 1 v3.length (v3.flatMap (encI .i64))]); rfl; rfl; rfl; rfl; rfl; rfl; (intro h; cases h); rfl; (first | exact splice_whole rfl | rfl)); rfl; rfl
  apply dn
  apply x3
  apply CodeT.ret
  cases H
  apply x12
  exact RetIs.c1 rfl rfl rfl rfl (by intro h; cases h)
  intro h; replace H := ifFb h H
  apply R_mov; rfl; rfl; rfl
  apply Run.skip; rfl
  apply Run.skip; rfl
  apply Run.skip; rfl
  apply R_pickF; rfl; rfl; rfl; rfl
  apply Run.op; (apply L_bs0; (exact io1 hio _); rfl); rfl; rfl
  apply R_mov; rfl; rfl; rfl
  obtain ⟨_u, ha4, H⟩ := bindS H
  obtain ⟨v5, hv5, H⟩ := bindS H
  apply Run.op; (apply Local.frz 16; apply L_app true; rfl; rfl; rfl; (exact flat_len (l := ([] : List Int)) (enc := (encI .i64)) (fun _ => rfl)); (exact flat_len (l := r1) (enc := (encI .i64)) (fun _ => rfl)); (exact chkS ha4); (exact app63 (by decide) (chkS ha4)); (exact ⟨io1 hio _, io1 hio _⟩); (intro _; exact allSc_flat (l := r1) (enc := (encI .i64)) (fun _ => rfl)); (exact flat_catL (l := ([] : List Int)) (r := r1) (enc := (encI .i64)) hv5); rfl; rfl; rfl; (exact io1 hio _); rfl); rfl; rfl
  apply Run.op; (apply L_buildC true; (apply BuildV.sc; rfl; rfl; rfl; rfl; rfl; rfl; rfl; apply BuildV.tk (ks := []); rfl; rfl; rfl; rfl; rfl; rfl; rfl; apply BuildV.nil); rfl; rfl); rfl; rfl
  apply Run.op; (apply L_stT (cells' := [.sc (.bool false), .rw 1 v5.length (v5.flatMap (encI .i64))]); rfl; rfl; rfl; rfl; rfl; rfl; (intro h; cases h); rfl; (first | exact splice_whole rfl | rfl)); rfl; rfl
  apply dn
  apply x3
  apply CodeT.ret
  cases H
  apply x12
  exact RetIs.c1 rfl rfl rfl rfl (by intro h; cases h)
theorem m_spec_NatOf (a0 : Int) (r : (List Int)) (H : spec_NatOf a0 = some r) : Meets Try.prog 42 [.sc (.int .i64 a0)] (.rw 1 r.length (r.flatMap (encI .i64))) true := by
  refine Meets.intro2 (N := 15) (rs := #[.tmp 2]) Try.func42 rfl rfl rfl rfl ?_
  intro Γ hio
  unfold spec_NatOf at H
  (repeat apply sq)
  apply rg
  apply R_asg; rfl; rfl; rfl
  apply dn
  apply x3
  (repeat apply sq)
  apply rg
  apply Run.op; (apply L_bs0; (exact io1 hio _); rfl); rfl; rfl
  apply R_asg; rfl; rfl; rfl
  apply dn
  apply x3
  (repeat apply sq)
  apply CodeT.block
  (repeat apply sq)
  obtain ⟨d10, hd10, H⟩ := bindS H
  refine CodeT.lloop (fun s => ⟨[(0, ⟨.sc (.int .i64 s.1), false⟩), (3, ⟨.ref 503 1 0 s.2.length, false⟩)], [(503, some ⟨s.2.flatMap (encI .i64), true, false⟩)]⟩) (fun d e E => XEnv Γ (.exit 0) ⟨[(3, ⟨.ref 503 1 0 d.length, false⟩)], [(503, some ⟨d.flatMap (encI .i64), true, false⟩)]⟩ e E) hd10 ?_ ?_ ?_
  apply el [(503, 4)] (io0 hio _) <;> rfl
  clear H hd10
  rintro ⟨v4, v5⟩ o H
  unfold spec_NatOf_L1 at H
  (repeat apply sq)
  apply rg
  apply R_mov; rfl; rfl; rfl
  apply R_gtr; rfl; rfl; rfl; rfl
  apply dn
  apply x3
  (repeat apply sq)
  refine CodeT.cond rfl (fun h => ?_) (fun h => ?_)
  replace H := ifT (of_decide_eq_true h) H
  (repeat apply sq)
  apply CodeT.skip
  apply x3
  apply CodeT.block
  (repeat apply sq)
  apply rg
  apply R_mov; rfl; rfl; rfl
  apply R_mov; rfl; rfl; rfl
  apply Run.op; (apply L_rem; rfl; rfl; (intro h; cases h); rfl; rfl); rfl; rfl
  apply Run.op; (apply L_bs1; rfl; rfl; rfl; rfl; rfl; rfl; rfl; rfl); rfl; rfl
  obtain ⟨_u, ha6, H⟩ := bindS H
  obtain ⟨v7, hv7, H⟩ := bindS H
  apply Run.op; (apply L_app true; rfl; rfl; rfl; (exact flat_len (l := v5) (enc := (encI .i64)) (fun _ => rfl)); rfl; (exact chkS ha6); (exact app63 (by decide) (chkS ha6)); (exact ⟨io1 hio _, io1 hio _⟩); (intro _; rfl); (exact flat_snocL (l := v5) (y := v4.tmod 1000000000) (enc := (encI .i64)) hv7); rfl); rfl; rfl
  apply R_asg; rfl; rfl; rfl
  apply dn
  apply x3
  apply rg
  apply R_mov; rfl; rfl; rfl
  obtain ⟨v8, hv8, H⟩ := bindS H
  apply Run.op; (apply L_quo; rfl; rfl; (intro h; cases h); (exact letS hv8); rfl); rfl; rfl
  apply R_asg; rfl; rfl; rfl
  apply dn
  apply x5
  obtain rfl := Option.some.inj H
  refine Ev.y1 ?_
  apply el [(503, 11)] (io0 hio _) <;> rfl
  replace H := ifF (of_decide_eq_false h) H
  (repeat apply sq)
  apply CodeT.exit
  apply x2
  obtain rfl := Option.some.inj H
  refine Ev.y3 ?_
  refine XEnv.mk ?_
  apply el [] (io0 hio _) <;> rfl
  skip
  intro e E' hX; obtain ⟨rfl, g11⟩ := XEnv.out hX
  refine x6 rfl ?_
  apply x3
  refine CodeT.weak g11 ?_
  (repeat apply sq)
  apply rg
  apply R_mov; rfl; rfl; rfl
  apply R_asg; rfl; rfl; rfl
  apply dn
  apply x3
  apply CodeT.ret
  cases H
  apply x12
  exact RetIs.rW rfl rfl rfl (io1 hio _)
theorem m_spec_BigIntOf (a0 : Int) (r : BigInt) (H : spec_BigIntOf a0 = some r) : Meets Try.prog 28 [.sc (.int .i64 a0)] (.agg (encWBigInt r)) true := by
  refine Meets.intro2 (N := 16) (rs := #[.cell 2 28]) Try.func28 rfl rfl rfl rfl ?_
  intro Γ hio
  unfold spec_BigIntOf at H
  (repeat apply sq)
  apply rg
  apply Run.op; (apply L_alloc false; (exact io1 hio _); rfl); rfl; rfl
  apply dn
  apply x3
  (repeat apply sq)
  apply rg
  apply R_mov; rfl; rfl; rfl
  apply R_eql; rfl; rfl; rfl; rfl
  apply dn
  apply x3
  (repeat apply sq)
  refine CodeT.cond rfl (fun h => ?_) (fun h => ?_)
  replace H := ifT (of_decide_eq_true h) H
  (repeat apply sq)
  apply rg
  apply Run.op; (apply L_bsR; rfl; rfl; rfl; rfl; (exact io1 hio _); rfl); rfl; rfl
  obtain ⟨r1, hr1, H⟩ := bindS H
  apply Run.op; (apply L_call; ((apply ArgsV.cons; (apply ArgV.val; rfl; rfl)); (apply ArgsV.cons; (apply ArgV.ref; rfl; rfl; (first | exact Nat.le_of_eq (flat_len (fun _ => rfl)) | exact Nat.le_of_ble_eq_true rfl))); (apply ArgsV.nil)); (exact m_spec_l03Make true ([854775808, 223372036, 9]) _ hr1); rfl; rfl; rfl); rfl; rfl
  apply Run.op; (apply L_stT (cells' := (encWBigInt r1)); rfl; rfl; rfl; rfl; rfl; rfl; (intro h; cases h); rfl; (first | exact splice_whole rfl | rfl)); rfl; rfl
  apply dn
  apply x3
  apply CodeT.ret
  apply x1
  cases H
  apply x12
  exact RetIs.c1 rfl rfl rfl rfl (by intro h; cases h)
  replace H := ifF (of_decide_eq_false h) H
  (repeat apply sq)
  apply CodeT.skip
  apply x3
  (repeat apply sq)
  apply rg
  apply R_mov; rfl; rfl; rfl
  apply R_lss; rfl; rfl; rfl; rfl
  apply dn
  apply x3
  (repeat apply sq)
  refine CodeT.cond rfl (fun h => ?_) (fun h => ?_)
  replace H := ifT (of_decide_eq_true h) H
  (repeat apply sq)
  apply rg
  apply R_mov; rfl; rfl; rfl
  apply Run.op; (apply L_neg; rfl; rfl; rfl); rfl; rfl
  obtain ⟨r2, hr2, H⟩ := bindS H
  apply Run.op; (apply L_callW; ((apply ArgsV.cons; (apply ArgV.val; rfl; rfl)); (apply ArgsV.nil)); (exact m_spec_NatOf (IntKind.i64.wrap (0 - a0)) _ hr2); (exact io1 hio _); rfl); rfl; rfl
  obtain ⟨r3, hr3, H⟩ := bindS H
  apply Run.op; (apply L_call; ((apply ArgsV.cons; (apply ArgV.val; rfl; rfl)); (apply ArgsV.cons; (apply ArgV.ref; rfl; rfl; (first | exact Nat.le_of_eq (flat_len (fun _ => rfl)) | exact Nat.le_of_ble_eq_true rfl))); (apply ArgsV.nil)); (exact m_spec_l03Make true r2 _ hr3); rfl; rfl; rfl); rfl; rfl
  apply Run.op; (apply L_stT (cells' := (encWBigInt r3)); rfl; rfl; rfl; rfl; rfl; rfl; (intro h; cases h); rfl; (first | exact splice_whole rfl | rfl)); rfl; rfl
  apply dn
  apply x3
  apply CodeT.ret
  apply x1
  cases H
  apply x12
  exact RetIs.c1 rfl rfl rfl rfl (by intro h; cases h)
  replace H := ifF (of_decide_eq_false h) H
  (repeat apply sq)
  apply CodeT.skip
  apply x3
  (repeat apply sq)
  apply rg
  apply R_mov; rfl; rfl; rfl
  obtain ⟨r4, hr4, H⟩ := bindS H
  apply Run.op; (apply L_callW; ((apply ArgsV.cons; (apply ArgV.val; rfl; rfl)); (apply ArgsV.nil)); (exact m_spec_NatOf a0 _ hr4); (exact io1 hio _); rfl); rfl; rfl
  obtain ⟨r5, hr5, H⟩ := bindS H
  apply Run.op; (apply L_call; ((apply ArgsV.cons; (apply ArgV.val; rfl; rfl)); (apply ArgsV.cons; (apply ArgV.ref; rfl; rfl; (first | exact Nat.le_of_eq (flat_len (fun _ => rfl)) | exact Nat.le_of_ble_eq_true rfl))); (apply ArgsV.nil)); (exact m_spec_l03Make false r4 _ hr5); rfl; rfl; rfl); rfl; rfl
  apply Run.op; (apply L_stT (cells' := (encWBigInt r5)); rfl; rfl; rfl; rfl; rfl; rfl; (intro h; cases h); rfl; (first | exact splice_whole rfl | rfl)); rfl; rfl
  apply dn
  apply x3
  apply CodeT.ret
  cases H
  apply x12
  exact RetIs.c1 rfl rfl rfl rfl (by intro h; cases h)
theorem m_spec_RatFromInt (a0 : Int) (r : Rat) (H : spec_RatFromInt a0 = some r) : Meets Try.prog 14 [.sc (.int .i64 a0)] (.agg (encWRat r)) true := by
  refine Meets.intro2 (N := 7) (rs := #[.cell 2 30]) Try.func14 rfl rfl rfl rfl ?_
  intro Γ hio
  unfold spec_RatFromInt at H
  (repeat apply sq)
  apply rg
  apply Run.op; (apply L_alloc false; (exact io1 hio _); rfl); rfl; rfl
  apply dn
  apply x3
  (repeat apply sq)
  apply rg
  apply R_mov; rfl; rfl; rfl
  obtain ⟨r1, hr1, H⟩ := bindS H
  apply Run.op; (apply L_call; ((apply ArgsV.cons; (apply ArgV.val; rfl; rfl)); (apply ArgsV.nil)); (exact m_spec_BigIntOf a0 _ hr1); rfl; rfl; rfl); rfl; rfl
  apply Run.op; (apply Local.frz 5; apply L_bsR; rfl; rfl; rfl; rfl; (exact io1 hio _); rfl; rfl; rfl; (exact io1 hio _); rfl); rfl; rfl
  apply Run.op; (apply L_buildC true; (apply BuildV.tk (ks := [5]); rfl; rfl; rfl; rfl; rfl; rfl; rfl; apply BuildV.tk (ks := []); rfl; rfl; rfl; rfl; rfl; rfl; rfl; apply BuildV.nil); rfl; rfl); rfl; rfl
  apply Run.op; (apply L_stT (cells' := [.sc (.bool r1.fNeg), .rw 1 r1.fMag.length (r1.fMag.flatMap (encI .i64)), .rw 1 ([1]).length (([1]).flatMap (encI .i64))]); rfl; rfl; rfl; rfl; rfl; rfl; (intro h; cases h); rfl; (first | exact splice_whole rfl | rfl)); rfl; rfl
  apply dn
  apply x3
  apply CodeT.ret
  cases H
  apply x12
  exact RetIs.c1 rfl rfl rfl rfl (by intro h; cases h)
theorem m_spec_l01In (a0 : Int) (a1 : Int) (a2 : Int) (r : Bool) (H : spec_l01In a0 a1 a2 = some r) : Meets Try.prog 70 [.sc (.int .i64 a0), .sc (.int .i64 a1), .sc (.int .i64 a2)] (.sc (.bool r)) true := by
  refine Meets.intro2 (N := 15) (rs := #[.tmp 6]) Try.func70 rfl rfl rfl rfl ?_
  intro Γ hio
  unfold spec_l01In at H
  (repeat apply sq)
  apply rg
  apply R_asg; rfl; rfl; rfl
  apply dn
  apply x3
  (repeat apply sq)
  apply rg
  apply R_mov; rfl; rfl; rfl
  apply R_mov; rfl; rfl; rfl
  apply R_dec; (apply L_geq; rfl; rfl; rfl); rfl
  intro h; replace H := ifT h H
  apply R_mov; rfl; rfl; rfl
  apply R_mov; rfl; rfl; rfl
  apply R_mov; rfl; rfl; rfl
  apply R_leq; rfl; rfl; rfl; rfl
  apply R_pickT; rfl; rfl; rfl; rfl
  apply R_asg; rfl; rfl; rfl
  apply dn
  apply x3
  apply CodeT.ret
  cases H
  apply x12
  exact RetIs.sc1 rfl
  intro h; replace H := ifF h H
  apply R_mov; rfl; rfl; rfl
  apply Run.skip; rfl
  apply Run.skip; rfl
  apply Run.skip; rfl
  apply R_pickF; rfl; rfl; rfl; rfl
  apply R_asg; rfl; rfl; rfl
  apply dn
  apply x3
  apply CodeT.ret
  cases H
  apply x12
  exact RetIs.sc1 rfl
theorem m_spec_NatOk (a0 : (List Int)) (r : Bool) (H : spec_NatOk a0 = some r) : Meets Try.prog 44 [.sl a0.length (a0.flatMap (encI .i64))] (.sc (.bool r)) true := by
  refine Meets.intro2 (N := 32) (rs := #[.tmp 2]) Try.func44 rfl rfl rfl rfl ?_
  intro Γ hio
  unfold spec_NatOk at H
  (repeat apply sq)
  apply rg
  apply R_asg; rfl; rfl; rfl
  apply dn
  apply x3
  (repeat apply sq)
  apply rg
  apply R_mov; rfl; rfl; rfl
  apply R_len; rfl; rfl; rfl
  apply R_mov; rfl; rfl; rfl
  apply dn
  apply x3
  (repeat apply sq)
  apply CodeT.block
  (repeat apply sq)
  obtain ⟨d6, hd6, H⟩ := bindS H
  refine CodeT.lloop (fun s => ⟨[(0, ⟨.sl a0.length (a0.flatMap (encI .i64)), false⟩), (5, ⟨.sl a0.length (a0.flatMap (encI .i64)), false⟩), (6, ⟨.sc (.int .i64 (a0.length : Int)), false⟩), (7, ⟨.sc (.int .i64 s), false⟩)], []⟩) (fun x e E => match x with | (.inl d) => XEnv Γ (.exit 0) ⟨[(0, ⟨.sl a0.length (a0.flatMap (encI .i64)), false⟩)], []⟩ e E | (.inr d) => XRet Γ #[.tmp 2] (.sc (.bool d)) true e E) hd6 ?_ ?_ ?_
  apply el [] (io0 hio _) <;> rfl
  clear H hd6
  rintro v3 o H
  unfold spec_NatOk_L1 at H
  (repeat apply sq)
  apply rg
  apply R_lss; rfl; rfl; rfl; rfl
  apply dn
  apply x3
  (repeat apply sq)
  refine CodeT.cond rfl (fun h => ?_) (fun h => ?_)
  replace H := ifT (of_decide_eq_true h) H
  (repeat apply sq)
  apply CodeT.skip
  apply x3
  (repeat apply sq)
  apply CodeT.block
  (repeat apply sq)
  apply rg
  obtain ⟨y4, hy4, H⟩ := bindS H
  apply Run.op; (apply L_ixS2; rfl; rfl; rfl; (exact hy4); (intro _; rfl); rfl); rfl; rfl
  apply R_ldI; rfl; rfl; rfl; rfl; rfl
  apply R_asg; rfl; rfl; rfl
  apply dn
  apply x3
  (repeat apply sq)
  apply rg
  apply R_mov; rfl; rfl; rfl
  obtain ⟨r5, hr5, H⟩ := bindS H
  apply Run.op; (apply L_call; ((apply ArgsV.cons; (apply ArgV.val; rfl; rfl)); (apply ArgsV.cons; (apply ArgV.val; rfl; rfl)); (apply ArgsV.cons; (apply ArgV.val; rfl; rfl)); (apply ArgsV.nil)); (exact m_spec_l01In y4 0 999999999 _ hr5); rfl; rfl; rfl); rfl; rfl
  apply R_not; rfl; rfl; rfl
  apply dn
  apply x3
  refine CodeT.cond rfl (fun h => ?_) (fun h => ?_)
  replace H := ifFb (notT h) H
  (repeat apply sq)
  apply rg
  apply R_asg; rfl; rfl; rfl
  apply dn
  apply x3
  apply CodeT.ret
  apply x4
  apply x1
  obtain rfl := Option.some.inj H
  refine Ev.y2 ?_
  refine XRet.mk ?_
  exact RetIs.sc1 rfl
  replace H := ifTb (notF h) H
  (repeat apply sq)
  apply CodeT.skip
  apply x5
  apply x3
  apply rg
  apply R_add; rfl; rfl; rfl; rfl; rfl
  apply R_mov; rfl; rfl; rfl
  apply dn
  obtain rfl := Option.some.inj H
  refine Ev.y1 ?_
  apply el [] (io0 hio _) <;> rfl
  replace H := ifF (of_decide_eq_false h) H
  (repeat apply sq)
  apply CodeT.exit
  apply x2
  obtain rfl := Option.some.inj H
  refine Ev.y3 ?_
  refine XEnv.mk ?_
  apply el [] (io0 hio _) <;> rfl
  rcases d6 with (d7 | d11)
  intro e E' hX; obtain ⟨rfl, g8⟩ := XEnv.out hX
  refine x6 rfl ?_
  apply x3
  refine CodeT.weak g8 ?_
  (repeat apply sq)
  apply rg
  apply R_mov; rfl; rfl; rfl
  apply R_len; rfl; rfl; rfl
  apply R_dec; (apply L_leq; rfl; rfl; rfl); rfl
  intro h; replace H := ifT h H
  apply R_mov; rfl; rfl; rfl
  apply R_mov; rfl; rfl; rfl
  apply R_len; rfl; rfl; rfl
  apply R_dec; (apply L_eql; rfl; rfl; rfl); rfl
  intro h; replace H := ifT h H
  apply R_mov; rfl; rfl; rfl
  apply Run.skip; rfl
  apply Run.skip; rfl
  apply Run.skip; rfl
  apply Run.skip; rfl
  apply Run.skip; rfl
  apply Run.skip; rfl
  apply Run.skip; rfl
  apply R_pickT; rfl; rfl; rfl; rfl
  apply R_pickT; rfl; rfl; rfl; rfl
  apply R_asg; rfl; rfl; rfl
  apply dn
  apply x3
  apply CodeT.ret
  cases H
  apply x12
  exact RetIs.sc1 rfl
  intro h; replace H := ifF h H
  apply R_mov; rfl; rfl; rfl
  apply R_mov; rfl; rfl; rfl
  apply R_mov; rfl; rfl; rfl
  apply R_len; rfl; rfl; rfl
  obtain ⟨v9, hv9, H⟩ := bindS H
  apply R_sub; rfl; rfl; (exact letS hv9); rfl; rfl
  obtain ⟨y10, hy10, H⟩ := bindS H
  apply Run.op; (apply L_ixS2; rfl; rfl; rfl; (exact hy10); (intro _; rfl); rfl); rfl; rfl
  apply R_ldI; rfl; rfl; rfl; rfl; rfl
  apply R_neq; rfl; rfl; rfl; rfl
  apply R_pickF; rfl; rfl; rfl; rfl
  apply R_pickT; rfl; rfl; rfl; rfl
  apply R_asg; rfl; rfl; rfl
  apply dn
  apply x3
  apply CodeT.ret
  cases H
  apply x12
  exact RetIs.sc1 rfl
  intro h; replace H := ifF h H
  apply R_mov; rfl; rfl; rfl
  apply Run.skip; rfl
  apply Run.skip; rfl
  apply Run.skip; rfl
  apply Run.skip; rfl
  apply Run.skip; rfl
  apply Run.skip; rfl
  apply Run.skip; rfl
  apply Run.skip; rfl
  apply Run.skip; rfl
  apply Run.skip; rfl
  apply Run.skip; rfl
  apply Run.skip; rfl
  apply R_pickF; rfl; rfl; rfl; rfl
  apply R_asg; rfl; rfl; rfl
  apply dn
  apply x3
  apply CodeT.ret
  cases H
  apply x12
  exact RetIs.sc1 rfl
  intro e E' hX; obtain ⟨rfl, g12⟩ := XRet.out hX
  apply x4
  apply x1
  cases H
  apply x12
  exact g12
theorem m_spec_BigIntOk (a0 : BigInt) (r : Bool) (H : spec_BigIntOk a0 = some r) : Meets Try.prog 43 [.agg (encBigInt a0)] (.sc (.bool r)) true := by
  refine Meets.intro2 (N := 17) (rs := #[.tmp 2]) Try.func43 rfl rfl rfl rfl ?_
  intro Γ hio
  unfold spec_BigIntOk at H
  (repeat apply sq)
  apply rg
  apply Run.op; (apply L_box false; rfl; rfl; rfl; (exact io1 hio _); rfl); rfl; rfl
  apply R_asg; rfl; rfl; rfl
  apply dn
  apply x3
  (repeat apply sq)
  apply rg
  apply R_fldP; rfl; rfl; rfl; rfl; rfl
  apply R_ldP; rfl; rfl; rfl; rfl; rfl; rfl
  obtain ⟨r1, hr1, H⟩ := bindS H
  apply R_bool; (apply L_call; ((apply ArgsV.cons; (apply ArgV.val; rfl; rfl)); (apply ArgsV.nil)); (exact m_spec_NatOk a0.fMag _ hr1); rfl; rfl; rfl); rfl
  intro h; replace H := ifTb h H
  apply R_mov; rfl; rfl; rfl
  apply R_fldP; rfl; rfl; rfl; rfl; rfl
  apply R_bool; (apply L_ldP; rfl; rfl; rfl; (first | exact .inl rfl | exact .inr rfl); rfl); rfl
  intro h; replace H := ifTb h H
  apply R_not; rfl; rfl; rfl
  apply R_mov; rfl; rfl; rfl
  apply R_fldP; rfl; rfl; rfl; rfl; rfl
  apply R_ldP; rfl; rfl; rfl; rfl; rfl; rfl
  apply R_len; rfl; rfl; rfl
  apply R_gtr; rfl; rfl; rfl; rfl
  apply R_pickF; rfl; rfl; rfl; rfl
  apply R_pickT; rfl; rfl; rfl; rfl
  apply R_asg; rfl; rfl; rfl
  apply dn
  apply x3
  apply CodeT.ret
  cases H
  apply x12
  exact RetIs.sc1 rfl
  intro h; replace H := ifFb h H
  apply R_not; rfl; rfl; rfl
  apply R_mov; rfl; rfl; rfl
  apply Run.skip; rfl
  apply Run.skip; rfl
  apply Run.skip; rfl
  apply Run.skip; rfl
  apply R_pickT; rfl; rfl; rfl; rfl
  apply R_pickT; rfl; rfl; rfl; rfl
  apply R_asg; rfl; rfl; rfl
  apply dn
  apply x3
  apply CodeT.ret
  cases H
  apply x12
  exact RetIs.sc1 rfl
  intro h; replace H := ifFb h H
  apply R_mov; rfl; rfl; rfl
  apply Run.skip; rfl
  apply Run.skip; rfl
  apply Run.skip; rfl
  apply Run.skip; rfl
  apply Run.skip; rfl
  apply Run.skip; rfl
  apply Run.skip; rfl
  apply Run.skip; rfl
  apply Run.skip; rfl
  apply R_pickF; rfl; rfl; rfl; rfl
  apply R_asg; rfl; rfl; rfl
  apply dn
  apply x3
  apply CodeT.ret
  cases H
  apply x12
  exact RetIs.sc1 rfl
theorem m_spec_l02Cmp (a0 : (List Int)) (a1 : (List Int)) (r : Int) (H : spec_l02Cmp a0 a1 = some r) : Meets Try.prog 75 [.sl a0.length (a0.flatMap (encI .i64)), .sl a1.length (a1.flatMap (encI .i64))] (.sc (.int .i64 r)) true := by
  refine Meets.intro2 (N := 41) (rs := #[.tmp 4]) Try.func75 rfl rfl rfl rfl ?_
  intro Γ hio
  unfold spec_l02Cmp at H
  (repeat apply sq)
  apply rg
  apply R_asg; rfl; rfl; rfl
  apply dn
  apply x3
  (repeat apply sq)
  apply rg
  apply R_mov; rfl; rfl; rfl
  apply R_len; rfl; rfl; rfl
  apply R_mov; rfl; rfl; rfl
  apply R_len; rfl; rfl; rfl
  apply R_neq; rfl; rfl; rfl; rfl
  apply dn
  apply x3
  (repeat apply sq)
  refine CodeT.cond rfl (fun h => ?_) (fun h => ?_)
  replace H := ifT (of_decide_eq_true h) H
  (repeat apply sq)
  apply rg
  apply R_mov; rfl; rfl; rfl
  apply R_len; rfl; rfl; rfl
  apply R_mov; rfl; rfl; rfl
  apply R_len; rfl; rfl; rfl
  apply R_lss; rfl; rfl; rfl; rfl
  apply dn
  apply x3
  (repeat apply sq)
  refine CodeT.cond rfl (fun h => ?_) (fun h => ?_)
  replace H := ifT (of_decide_eq_true h) H
  (repeat apply sq)
  apply rg
  apply R_asg; rfl; rfl; rfl
  apply dn
  apply x3
  apply CodeT.ret
  apply x1
  apply x1
  cases H
  apply x12
  exact RetIs.sc1 rfl
  replace H := ifF (of_decide_eq_false h) H
  (repeat apply sq)
  apply CodeT.skip
  apply x3
  (repeat apply sq)
  apply rg
  apply R_asg; rfl; rfl; rfl
  apply dn
  apply x3
  apply CodeT.ret
  apply x1
  cases H
  apply x12
  exact RetIs.sc1 rfl
  replace H := ifF (of_decide_eq_false h) H
  (repeat apply sq)
  apply CodeT.skip
  apply x3
  (repeat apply sq)
  apply rg
  apply R_mov; rfl; rfl; rfl
  apply R_len; rfl; rfl; rfl
  obtain ⟨v1, hv1, H⟩ := bindS H
  apply R_sub; rfl; rfl; (exact letS hv1); rfl; rfl
  apply R_asg; rfl; rfl; rfl
  apply dn
  apply x3
  (repeat apply sq)
  apply CodeT.block
  (repeat apply sq)
  obtain ⟨d11, hd11, H⟩ := bindS H
  refine CodeT.lloop (fun s => ⟨[(0, ⟨.sl a0.length (a0.flatMap (encI .i64)), false⟩), (1, ⟨.sl a1.length (a1.flatMap (encI .i64)), false⟩), (5, ⟨.sc (.int .i64 s), false⟩)], []⟩) (fun x e E => match x with | (.inl d) => XEnv Γ (.exit 0) ⟨[], []⟩ e E | (.inr d) => XRet Γ #[.tmp 4] (.sc (.int .i64 d)) true e E) hd11 ?_ ?_ ?_
  apply el [] (io0 hio _) <;> rfl
  clear H hd11
  rintro v6 o H
  unfold spec_l02Cmp_L1 at H
  (repeat apply sq)
  apply rg
  apply R_mov; rfl; rfl; rfl
  apply Run.op; (apply L_geq; rfl; rfl; rfl); rfl; rfl
  apply dn
  apply x3
  (repeat apply sq)
  refine CodeT.cond rfl (fun h => ?_) (fun h => ?_)
  replace H := ifT (of_decide_eq_true h) H
  (repeat apply sq)
  apply CodeT.skip
  apply x3
  (repeat apply sq)
  apply CodeT.block
  (repeat apply sq)
  apply rg
  apply R_mov; rfl; rfl; rfl
  apply R_mov; rfl; rfl; rfl
  obtain ⟨y7, hy7, H⟩ := bindS H
  apply Run.op; (apply L_ixS2; rfl; rfl; rfl; (exact hy7); (intro _; rfl); rfl); rfl; rfl
  apply R_ldI; rfl; rfl; rfl; rfl; rfl
  apply R_mov; rfl; rfl; rfl
  apply R_mov; rfl; rfl; rfl
  obtain ⟨y8, hy8, H⟩ := bindS H
  apply Run.op; (apply L_ixS2; rfl; rfl; rfl; (exact hy8); (intro _; rfl); rfl); rfl; rfl
  apply R_ldI; rfl; rfl; rfl; rfl; rfl
  apply R_lss; rfl; rfl; rfl; rfl
  apply Run.done; refine ⟨fun _ => ⟨rfl, rfl⟩, ?_⟩
  apply x3
  (repeat apply sq)
  refine CodeT.cond rfl (fun h => ?_) (fun h => ?_)
  replace H := ifT (of_decide_eq_true h) H
  (repeat apply sq)
  apply rg
  apply R_asg; rfl; rfl; rfl
  apply dn
  apply x3
  apply CodeT.ret
  apply x1
  apply x4
  apply x1
  obtain rfl := Option.some.inj H
  refine Ev.y2 ?_
  refine XRet.mk ?_
  exact RetIs.sc1 rfl
  replace H := ifF (of_decide_eq_false h) H
  (repeat apply sq)
  apply CodeT.skip
  apply x3
  (repeat apply sq)
  apply rg
  apply R_mov; rfl; rfl; rfl
  apply R_mov; rfl; rfl; rfl
  obtain ⟨y9, hy9, H⟩ := bindS H
  apply Run.op; (apply L_ixS2; rfl; rfl; rfl; (exact hy9); (intro _; rfl); rfl); rfl; rfl
  apply R_ldI; rfl; rfl; rfl; rfl; rfl
  apply R_mov; rfl; rfl; rfl
  apply R_mov; rfl; rfl; rfl
  obtain ⟨y10, hy10, H⟩ := bindS H
  apply Run.op; (apply L_ixS2; rfl; rfl; rfl; (exact hy10); (intro _; rfl); rfl); rfl; rfl
  apply R_ldI; rfl; rfl; rfl; rfl; rfl
  apply R_gtr; rfl; rfl; rfl; rfl
  apply Run.done; refine ⟨fun _ => ⟨rfl, rfl⟩, ?_⟩
  apply x3
  refine CodeT.cond rfl (fun h => ?_) (fun h => ?_)
  replace H := ifT (of_decide_eq_true h) H
  (repeat apply sq)
  apply rg
  apply R_asg; rfl; rfl; rfl
  apply dn
  apply x3
  apply CodeT.ret
  apply x4
  apply x1
  obtain rfl := Option.some.inj H
  refine Ev.y2 ?_
  refine XRet.mk ?_
  exact RetIs.sc1 rfl
  replace H := ifF (of_decide_eq_false h) H
  (repeat apply sq)
  apply CodeT.skip
  apply x5
  apply x3
  apply rg
  apply R_mov; rfl; rfl; rfl
  apply R_sub; rfl; rfl; rfl; rfl; rfl
  apply R_asg; rfl; rfl; rfl
  apply dn
  obtain rfl := Option.some.inj H
  refine Ev.y1 ?_
  apply el [] (io0 hio _) <;> rfl
  replace H := ifF (of_decide_eq_false h) H
  (repeat apply sq)
  apply CodeT.exit
  apply x2
  obtain rfl := Option.some.inj H
  refine Ev.y3 ?_
  refine XEnv.mk ?_
  apply el [] (io0 hio _) <;> rfl
  rcases d11 with (d12 | d14)
  intro e E' hX; obtain ⟨rfl, g13⟩ := XEnv.out hX
  refine x6 rfl ?_
  apply x3
  refine CodeT.weak g13 ?_
  (repeat apply sq)
  apply rg
  apply R_asg; rfl; rfl; rfl
  apply dn
  apply x3
  apply CodeT.ret
  cases H
  apply x12
  exact RetIs.sc1 rfl
  intro e E' hX; obtain ⟨rfl, g15⟩ := XRet.out hX
  apply x4
  apply x1
  cases H
  apply x12
  exact g15
theorem m_spec_NatToInt (a0 : (List Int)) (r : (Int × Bool)) (H : spec_NatToInt a0 = some r) : Meets Try.prog 71 [.sl a0.length (a0.flatMap (encI .i64))] (.tup [.sc (.int .i64 r.1), .sc (.bool r.2)]) true := by
  refine Meets.intro2 (N := 30) (rs := #[.tmp 2, .tmp 3]) Try.func71 rfl rfl rfl rfl ?_
  intro Γ hio
  unfold spec_NatToInt at H
  (repeat apply sq)
  apply rg
  apply R_asg; rfl; rfl; rfl
  apply R_asg; rfl; rfl; rfl
  apply dn
  apply x3
  (repeat apply sq)
  obtain ⟨d4, hd4, H⟩ := bindS H
  refine CodeT.lcut (x := d4) (fun d e E => XEnv Γ .normal ⟨[(0, ⟨.sl a0.length (a0.flatMap (encI .i64)), false⟩), (14, ⟨.sc (.bool d), false⟩)], []⟩ e E) ?_ ?_
  clear H; have H := hd4; clear hd4
  apply rg
  apply R_mov; rfl; rfl; rfl
  obtain ⟨r1, hr1, H⟩ := bindS H
  apply R_bool; (apply L_call; ((apply ArgsV.cons; (apply ArgV.val; rfl; rfl)); (apply ArgsV.nil)); (exact m_spec_NatOk a0 _ hr1); rfl; rfl; rfl); rfl
  intro h; replace H := ifTb h H
  apply R_not; rfl; rfl; rfl
  apply R_mov; rfl; rfl; rfl
  apply R_mov; rfl; rfl; rfl
  apply Run.op; (apply L_bsR; rfl; rfl; rfl; rfl; (exact io1 hio _); rfl); rfl; rfl
  obtain ⟨r2, hr2, H⟩ := bindS H
  apply Run.op; (apply L_call; ((apply ArgsV.cons; (apply ArgV.val; rfl; rfl)); (apply ArgsV.cons; (apply ArgV.ref; rfl; rfl; (first | exact Nat.le_of_eq (flat_len (fun _ => rfl)) | exact Nat.le_of_ble_eq_true rfl))); (apply ArgsV.nil)); (exact m_spec_l02Cmp a0 ([854775807, 223372036, 9]) _ hr2); rfl; rfl; rfl); rfl; rfl
  apply R_gtr; rfl; rfl; rfl; rfl
  apply R_pickF; rfl; rfl; rfl; rfl
  apply dn
  obtain rfl := Option.some.inj H
  refine Ev.y4 ?_
  refine XEnv.mk ?_
  apply el [] (io0 hio _) <;> rfl
  intro h; replace H := ifFb h H
  apply R_not; rfl; rfl; rfl
  apply R_mov; rfl; rfl; rfl
  apply Run.skip; rfl
  apply Run.skip; rfl
  apply Run.skip; rfl
  apply Run.skip; rfl
  apply R_pickT; rfl; rfl; rfl; rfl
  apply dn
  obtain rfl := Option.some.inj H
  refine Ev.y4 ?_
  refine XEnv.mk ?_
  apply el [] (io0 hio _) <;> rfl
  intro e E' hX; obtain ⟨rfl, g5⟩ := XEnv.out hX
  apply x3
  refine CodeT.weak g5 ?_
  (repeat apply sq)
  refine CodeT.cond rfl (fun h => ?_) (fun h => ?_)
  replace H := ifTb h H
  (repeat apply sq)
  apply rg
  apply R_asg; rfl; rfl; rfl
  apply R_asg; rfl; rfl; rfl
  apply dn
  apply x3
  apply CodeT.ret
  apply x1
  cases H
  apply x12
  exact RetIs.many (.inl rfl) (ResL.cons (Res1.sc rfl) (ResL.cons (Res1.sc rfl) ResL.nil)) (fun h => by first | rfl | cases h)
  replace H := ifFb h H
  (repeat apply sq)
  apply CodeT.skip
  apply x3
  (repeat apply sq)
  apply rg
  apply R_asg; rfl; rfl; rfl
  apply dn
  apply x3
  (repeat apply sq)
  apply rg
  apply R_mov; rfl; rfl; rfl
  apply R_len; rfl; rfl; rfl
  obtain ⟨v6, hv6, H⟩ := bindS H
  apply R_sub; rfl; rfl; (exact letS hv6); rfl; rfl
  apply R_asg; rfl; rfl; rfl
  apply dn
  apply x3
  (repeat apply sq)
  apply CodeT.block
  (repeat apply sq)
  obtain ⟨d14, hd14, H⟩ := bindS H
  refine CodeT.lloop (fun s => ⟨[(0, ⟨.sl a0.length (a0.flatMap (encI .i64)), false⟩), (4, ⟨.sc (.int .i64 s.1), false⟩), (5, ⟨.sc (.int .i64 s.2), false⟩)], []⟩) (fun d e E => XEnv Γ (.exit 0) ⟨[(4, ⟨.sc (.int .i64 d), false⟩)], []⟩ e E) hd14 ?_ ?_ ?_
  apply el [] (io0 hio _) <;> rfl
  clear H hd14
  rintro ⟨v9, v10⟩ o H
  unfold spec_NatToInt_L1 at H
  (repeat apply sq)
  apply rg
  apply R_mov; rfl; rfl; rfl
  apply Run.op; (apply L_geq; rfl; rfl; rfl); rfl; rfl
  apply dn
  apply x3
  (repeat apply sq)
  refine CodeT.cond rfl (fun h => ?_) (fun h => ?_)
  replace H := ifT (of_decide_eq_true h) H
  (repeat apply sq)
  apply CodeT.skip
  apply x3
  (repeat apply sq)
  apply CodeT.block
  (repeat apply sq)
  apply rg
  apply R_mov; rfl; rfl; rfl
  apply Run.op; (apply L_mul; rfl; rfl; rfl; rfl); rfl; rfl
  apply R_mov; rfl; rfl; rfl
  apply R_mov; rfl; rfl; rfl
  obtain ⟨y11, hy11, H⟩ := bindS H
  apply Run.op; (apply L_ixS2; rfl; rfl; rfl; (exact hy11); (intro _; rfl); rfl); rfl; rfl
  apply R_ldI; rfl; rfl; rfl; rfl; rfl
  obtain ⟨v12, hv12, H⟩ := bindS H
  apply R_add; rfl; rfl; (exact letS hv12); rfl; rfl
  apply R_asg; rfl; rfl; rfl
  apply dn
  apply x5
  apply x3
  apply rg
  apply R_mov; rfl; rfl; rfl
  apply R_sub; rfl; rfl; rfl; rfl; rfl
  apply R_asg; rfl; rfl; rfl
  apply dn
  obtain rfl := Option.some.inj H
  refine Ev.y1 ?_
  apply el [] (io0 hio _) <;> rfl
  replace H := ifF (of_decide_eq_false h) H
  (repeat apply sq)
  apply CodeT.exit
  apply x2
  obtain rfl := Option.some.inj H
  refine Ev.y3 ?_
  refine XEnv.mk ?_
  apply el [] (io0 hio _) <;> rfl
  skip
  intro e E' hX; obtain ⟨rfl, g15⟩ := XEnv.out hX
  refine x6 rfl ?_
  apply x3
  refine CodeT.weak g15 ?_
  (repeat apply sq)
  apply rg
  apply R_mov; rfl; rfl; rfl
  apply R_asg; rfl; rfl; rfl
  apply R_asg; rfl; rfl; rfl
  apply dn
  apply x3
  apply CodeT.ret
  cases H
  apply x12
  exact RetIs.many (.inl rfl) (ResL.cons (Res1.sc rfl) (ResL.cons (Res1.sc rfl) ResL.nil)) (fun h => by first | rfl | cases h)
theorem m_spec_l02Plain (a0 : Int) (a1 : Int) (r : (List Int)) (H : spec_l02Plain a0 a1 = some r) : Meets Try.prog 72 [.sc (.int .i64 a0), .sc (.int .i64 a1)] (.rw 1 r.length (r.flatMap (encI .i64))) true := by
  refine Meets.intro2 (N := 15) (rs := #[.tmp 4]) Try.func72 rfl rfl rfl rfl ?_
  intro Γ hio
  unfold spec_l02Plain at H
  (repeat apply sq)
  apply rg
  apply R_asg; rfl; rfl; rfl
  apply dn
  apply x3
  (repeat apply sq)
  apply CodeT.block
  (repeat apply sq)
  obtain ⟨d6, hd6, H⟩ := bindS H
  refine CodeT.lloop (fun s => ⟨[(0, ⟨.sc (.int .i64 s.1), false⟩), (1, ⟨.sc (.int .i64 s.2), false⟩)], []⟩) (fun d e E => XEnv Γ (.exit 0) ⟨[(0, ⟨.sc (.int .i64 d), false⟩)], []⟩ e E) hd6 ?_ ?_ ?_
  apply el [] (io0 hio _) <;> rfl
  clear H hd6
  rintro ⟨v2, v3⟩ o H
  unfold spec_l02Plain_L1 at H
  (repeat apply sq)
  apply rg
  apply R_mov; rfl; rfl; rfl
  apply R_gtr; rfl; rfl; rfl; rfl
  apply dn
  apply x3
  (repeat apply sq)
  refine CodeT.cond rfl (fun h => ?_) (fun h => ?_)
  replace H := ifT (of_decide_eq_true h) H
  (repeat apply sq)
  apply CodeT.skip
  apply x3
  apply CodeT.block
  (repeat apply sq)
  apply rg
  apply R_mov; rfl; rfl; rfl
  apply R_mov; rfl; rfl; rfl
  obtain ⟨_u, hq4, H⟩ := bindS H
  apply Run.op; (apply L_rem; rfl; rfl; (exact chkS hq4); rfl; rfl); rfl; rfl
  apply R_asg; rfl; rfl; rfl
  apply dn
  apply x3
  (repeat apply sq)
  apply rg
  apply R_mov; rfl; rfl; rfl
  apply R_asg; rfl; rfl; rfl
  apply dn
  apply x3
  apply rg
  apply R_mov; rfl; rfl; rfl
  apply R_asg; rfl; rfl; rfl
  apply dn
  apply x5
  obtain rfl := Option.some.inj H
  refine Ev.y1 ?_
  apply el [] (io0 hio _) <;> rfl
  replace H := ifF (of_decide_eq_false h) H
  (repeat apply sq)
  apply CodeT.exit
  apply x2
  obtain rfl := Option.some.inj H
  refine Ev.y3 ?_
  refine XEnv.mk ?_
  apply el [] (io0 hio _) <;> rfl
  skip
  intro e E' hX; obtain ⟨rfl, g7⟩ := XEnv.out hX
  refine x6 rfl ?_
  apply x3
  refine CodeT.weak g7 ?_
  (repeat apply sq)
  apply rg
  apply R_mov; rfl; rfl; rfl
  obtain ⟨r8, hr8, H⟩ := bindS H
  apply Run.op; (apply L_callW; ((apply ArgsV.cons; (apply ArgV.val; rfl; rfl)); (apply ArgsV.nil)); (exact m_spec_NatOf d6 _ hr8); (exact io1 hio _); rfl); rfl; rfl
  apply R_asg; rfl; rfl; rfl
  apply dn
  apply x3
  apply CodeT.ret
  cases H
  apply x12
  exact RetIs.rW rfl rfl rfl (io1 hio _)
theorem m_spec_l02Small (a0 : (List Int)) (a1 : Int) (r : ((List Int) × Int)) (H : spec_l02Small a0 a1 = some r) : Meets Try.prog 92 [.sl a0.length (a0.flatMap (encI .i64)), .sc (.int .i64 a1)] (.tup [.rw 1 r.1.length (r.1.flatMap (encI .i64)), .sc (.int .i64 r.2)]) true := by
  refine Meets.intro2 (N := 39) (rs := #[.tmp 4, .tmp 5]) Try.func92 rfl rfl rfl rfl ?_
  intro Γ hio
  unfold spec_l02Small at H
  (repeat apply sq)
  apply rg
  apply R_asg; rfl; rfl; rfl
  apply R_asg; rfl; rfl; rfl
  apply dn
  apply x3
  (repeat apply sq)
  apply rg
  apply R_mov; rfl; rfl; rfl
  apply R_len; rfl; rfl; rfl
  obtain ⟨_u, hm1, H⟩ := bindS H
  apply Run.op; (apply L_make2 (enc := (encI .i64)) (z := 0); rfl; rfl; rfl; (exact chkS hm1); rfl; decide; (intro h; cases h); (exact io1 hio _); rfl); rfl; rfl
  apply R_asg; rfl; rfl; rfl
  apply dn
  apply x3
  (repeat apply sq)
  apply rg
  apply R_asg; rfl; rfl; rfl
  apply dn
  apply x3
  (repeat apply sq)
  apply rg
  apply R_mov; rfl; rfl; rfl
  apply R_len; rfl; rfl; rfl
  obtain ⟨v2, hv2, H⟩ := bindS H
  apply R_sub; rfl; rfl; (exact letS hv2); rfl; rfl
  apply R_asg; rfl; rfl; rfl
  apply dn
  apply x3
  (repeat apply sq)
  apply CodeT.block
  (repeat apply sq)
  obtain ⟨d23, hd23, H⟩ := bindS H
  refine CodeT.lloop (fun s => ⟨[(0, ⟨.sl a0.length (a0.flatMap (encI .i64)), false⟩), (1, ⟨.sc (.int .i64 a1), false⟩), (6, ⟨.ref 506 1 0 s.2.2.length, false⟩), (7, ⟨.sc (.int .i64 s.1), false⟩), (8, ⟨.sc (.int .i64 s.2.1), false⟩)], [(506, some ⟨s.2.2.flatMap (encI .i64), true, false⟩)]⟩) (fun d e E => XEnv Γ (.exit 0) ⟨[(6, ⟨.ref 506 1 0 d.2.length, false⟩), (7, ⟨.sc (.int .i64 d.1), false⟩)], [(506, some ⟨d.2.flatMap (encI .i64), true, false⟩)]⟩ e E) hd23 ?_ ?_ ?_
  apply el [(506, 12)] (io0 hio _) <;> rfl
  clear H hd23
  rintro ⟨v10, v11, v12⟩ o H
  unfold spec_l02Small_L1 at H
  (repeat apply sq)
  apply rg
  apply R_mov; rfl; rfl; rfl
  apply Run.op; (apply L_geq; rfl; rfl; rfl); rfl; rfl
  apply dn
  apply x3
  (repeat apply sq)
  refine CodeT.cond rfl (fun h => ?_) (fun h => ?_)
  replace H := ifT (of_decide_eq_true h) H
  (repeat apply sq)
  apply CodeT.skip
  apply x3
  (repeat apply sq)
  apply CodeT.block
  (repeat apply sq)
  apply rg
  apply R_mov; rfl; rfl; rfl
  obtain ⟨v13, hv13, H⟩ := bindS H
  apply Run.op; (apply L_mul; rfl; rfl; (exact letS hv13); rfl); rfl; rfl
  apply R_mov; rfl; rfl; rfl
  apply R_mov; rfl; rfl; rfl
  obtain ⟨y14, hy14, H⟩ := bindS H
  apply Run.op; (apply L_ixS2; rfl; rfl; rfl; (exact hy14); (intro _; rfl); rfl); rfl; rfl
  apply R_ldI; rfl; rfl; rfl; rfl; rfl
  apply R_add; rfl; rfl; rfl; rfl; rfl
  apply R_asg; rfl; rfl; rfl
  apply dn
  apply x3
  (repeat apply sq)
  apply rg
  apply R_mov; rfl; rfl; rfl
  apply R_mov; rfl; rfl; rfl
  apply R_mov; rfl; rfl; rfl
  apply R_mov; rfl; rfl; rfl
  obtain ⟨_u, hq15, H⟩ := bindS H
  obtain ⟨v16, hv16, H⟩ := bindS H
  apply Run.op; (apply L_quo; rfl; rfl; (exact chkS hq15); (exact letS hv16); rfl); rfl; rfl
  obtain ⟨y17, hy17, H⟩ := bindS H
  apply Run.op; (apply L_ixR2; rfl; rfl; rfl; (exact hy17); rfl; rfl); rfl; rfl
  obtain ⟨v18, hv18, H⟩ := bindS H
  have hl19 := setI_lenS hv18
  apply Run.op; (apply L_st; rfl; rfl; rfl; rfl; rfl; (intro h; cases h); (exact row_ble0 (sz := 1) (n := 1) hy17 (fun _ => rfl) (by decide)); (exact row_stL (sz := 1) hv18 hy17 (fun _ => rfl) rfl)); rfl; rfl
  apply dn
  apply x3
  refine CodeT.weak (Ent.relen (k := 6) (n' := v18.length) rfl (by first | (simp only [setI_len]; done) | (simp only [setI_len]; omega) | omega)) ?_
  apply rg
  apply R_mov; rfl; rfl; rfl
  apply R_mov; rfl; rfl; rfl
  obtain ⟨_u, hq20, H⟩ := bindS H
  obtain ⟨v21, hv21, H⟩ := bindS H
  apply Run.op; (apply L_rem; rfl; rfl; (exact chkS hq20); (exact letS hv21); rfl); rfl; rfl
  apply R_asg; rfl; rfl; rfl
  apply dn
  apply x5
  apply x3
  apply rg
  apply R_mov; rfl; rfl; rfl
  apply R_sub; rfl; rfl; rfl; rfl; rfl
  apply R_asg; rfl; rfl; rfl
  apply dn
  obtain rfl := Option.some.inj H
  refine Ev.y1 ?_
  apply el [] (io0 hio _) <;> rfl
  replace H := ifF (of_decide_eq_false h) H
  (repeat apply sq)
  apply CodeT.exit
  apply x2
  obtain rfl := Option.some.inj H
  refine Ev.y3 ?_
  refine XEnv.mk ?_
  apply el [] (io0 hio _) <;> rfl
  skip
  intro e E' hX; obtain ⟨rfl, g24⟩ := XEnv.out hX
  refine x6 rfl ?_
  apply x3
  refine CodeT.weak g24 ?_
  (repeat apply sq)
  refine CodeT.weak (Ent.freezeW (k := 6) rfl rfl (io1 hio _) rfl) ?_
  apply rg
  apply R_movT; rfl; rfl; rfl; rfl
  obtain ⟨r25, hr25, H⟩ := bindS H
  apply Run.op; (apply L_callD1; rfl; rfl; (exact md_spec_l02Trim d23.2 _ hr25); rfl; rfl); rfl; rfl
  apply R_mov; rfl; rfl; rfl
  apply R_asgT; rfl; rfl; rfl; rfl
  apply R_asg; rfl; rfl; rfl
  apply dn
  apply x3
  apply CodeT.ret
  cases H
  apply x12
  exact RetIs.many (.inl rfl) (ResL.cons (Res1.deep rfl rfl) (ResL.cons (Res1.sc rfl) ResL.nil)) (fun h => by first | rfl | cases h)
theorem m_spec_l02Mul (a0 : (List Int)) (a1 : (List Int)) (r : (List Int)) (H : spec_l02Mul a0 a1 = some r) : Meets Try.prog 49 [.sl a0.length (a0.flatMap (encI .i64)), .sl a1.length (a1.flatMap (encI .i64))] (.rw 1 r.length (r.flatMap (encI .i64))) true := by
  refine Meets.intro2 (N := 72) (rs := #[.tmp 4]) Try.func49 rfl rfl rfl rfl ?_
  intro Γ hio
  unfold spec_l02Mul at H
  (repeat apply sq)
  apply rg
  apply R_asg; rfl; rfl; rfl
  apply dn
  apply x3
  (repeat apply sq)
  obtain ⟨d2, hd2, H⟩ := bindS H
  refine CodeT.lcut (x := d2) (fun d e E => XEnv Γ .normal ⟨[(0, ⟨.sl a0.length (a0.flatMap (encI .i64)), false⟩), (1, ⟨.sl a1.length (a1.flatMap (encI .i64)), false⟩), (19, ⟨.sc (.bool d), false⟩)], []⟩ e E) ?_ ?_
  clear H; have H := hd2; clear hd2
  apply rg
  apply R_mov; rfl; rfl; rfl
  apply R_len; rfl; rfl; rfl
  apply R_dec; (apply L_eql; rfl; rfl; rfl); rfl
  intro h; replace H := ifT h H
  apply R_mov; rfl; rfl; rfl
  apply Run.skip; rfl
  apply Run.skip; rfl
  apply Run.skip; rfl
  apply R_pickT; rfl; rfl; rfl; rfl
  apply dn
  obtain rfl := Option.some.inj H
  refine Ev.y4 ?_
  refine XEnv.mk ?_
  apply el [] (io0 hio _) <;> rfl
  intro h; replace H := ifF h H
  apply R_mov; rfl; rfl; rfl
  apply R_mov; rfl; rfl; rfl
  apply R_len; rfl; rfl; rfl
  apply R_eql; rfl; rfl; rfl; rfl
  apply R_pickF; rfl; rfl; rfl; rfl
  apply dn
  obtain rfl := Option.some.inj H
  refine Ev.y4 ?_
  refine XEnv.mk ?_
  apply el [] (io0 hio _) <;> rfl
  intro e E' hX; obtain ⟨rfl, g3⟩ := XEnv.out hX
  apply x3
  refine CodeT.weak g3 ?_
  (repeat apply sq)
  refine CodeT.cond rfl (fun h => ?_) (fun h => ?_)
  replace H := ifTb h H
  (repeat apply sq)
  apply rg
  apply R_asg; rfl; rfl; rfl
  apply dn
  apply x3
  apply CodeT.ret
  apply x1
  cases H
  apply x12
  exact RetIs.one (Res1.nilW rfl) (fun _ h => by cases h)
  replace H := ifFb h H
  (repeat apply sq)
  apply CodeT.skip
  apply x3
  (repeat apply sq)
  apply rg
  apply R_mov; rfl; rfl; rfl
  apply R_len; rfl; rfl; rfl
  apply R_mov; rfl; rfl; rfl
  apply R_len; rfl; rfl; rfl
  obtain ⟨v4, hv4, H⟩ := bindS H
  apply R_add; rfl; rfl; (exact letS hv4); rfl; rfl
  obtain ⟨_u, hm5, H⟩ := bindS H
  apply Run.op; (apply L_make2 (enc := (encI .i64)) (z := 0); rfl; rfl; rfl; (exact chkS hm5); rfl; decide; (intro h; cases h); (exact io1 hio _); rfl); rfl; rfl
  apply R_asg; rfl; rfl; rfl
  apply dn
  apply x3
  (repeat apply sq)
  apply rg
  apply R_mov; rfl; rfl; rfl
  apply R_len; rfl; rfl; rfl
  apply R_mov; rfl; rfl; rfl
  apply dn
  apply x3
  (repeat apply sq)
  apply CodeT.block
  (repeat apply sq)
  obtain ⟨d63, hd63, H⟩ := bindS H
  refine CodeT.lloop (fun s => ⟨[(1, ⟨.sl a1.length (a1.flatMap (encI .i64)), false⟩), (5, ⟨.ref 505 1 0 s.2.length, false⟩), (26, ⟨.sl a0.length (a0.flatMap (encI .i64)), false⟩), (27, ⟨.sc (.int .i64 (a0.length : Int)), false⟩), (28, ⟨.sc (.int .i64 s.1), false⟩)], [(505, some ⟨s.2.flatMap (encI .i64), true, false⟩)]⟩) (fun d e E => XEnv Γ (.exit 0) ⟨[(5, ⟨.ref 505 1 0 d.length, false⟩)], [(505, some ⟨d.flatMap (encI .i64), true, false⟩)]⟩ e E) hd63 ?_ ?_ ?_
  apply el [(505, 25)] (io0 hio _) <;> rfl
  clear H hd63
  rintro ⟨v33, v34⟩ o H
  unfold spec_l02Mul_L2 at H
  (repeat apply sq)
  apply rg
  apply R_lss; rfl; rfl; rfl; rfl
  apply dn
  apply x3
  (repeat apply sq)
  refine CodeT.cond rfl (fun h => ?_) (fun h => ?_)
  replace H := ifT (of_decide_eq_true h) H
  (repeat apply sq)
  apply CodeT.skip
  apply x3
  (repeat apply sq)
  apply CodeT.block
  (repeat apply sq)
  apply rg
  apply R_mov; rfl; rfl; rfl
  obtain ⟨y35, hy35, H⟩ := bindS H
  apply Run.op; (apply L_ixS2; rfl; rfl; rfl; (exact hy35); (intro _; rfl); rfl); rfl; rfl
  apply R_ldI; rfl; rfl; rfl; rfl; rfl
  apply R_asg; rfl; rfl; rfl
  apply R_asg; rfl; rfl; rfl
  apply dn
  apply x3
  (repeat apply sq)
  apply rg
  apply R_asg; rfl; rfl; rfl
  apply dn
  apply x3
  (repeat apply sq)
  apply rg
  apply R_mov; rfl; rfl; rfl
  apply R_len; rfl; rfl; rfl
  apply R_mov; rfl; rfl; rfl
  apply dn
  apply x3
  (repeat apply sq)
  apply CodeT.block
  (repeat apply sq)
  obtain ⟨d56, hd56, H⟩ := bindS H
  refine CodeT.lloop (fun s => ⟨[(1, ⟨.sl a1.length (a1.flatMap (encI .i64)), false⟩), (5, ⟨.ref 505 1 0 s.2.2.length, false⟩), (6, ⟨.sc (.int .i64 v33), false⟩), (7, ⟨.sc (.int .i64 y35), false⟩), (8, ⟨.sc (.int .i64 s.1), false⟩), (26, ⟨.sl a0.length (a0.flatMap (encI .i64)), false⟩), (27, ⟨.sc (.int .i64 (a0.length : Int)), false⟩), (28, ⟨.sc (.int .i64 v33), false⟩), (33, ⟨.sl a1.length (a1.flatMap (encI .i64)), false⟩), (34, ⟨.sc (.int .i64 (a1.length : Int)), false⟩), (35, ⟨.sc (.int .i64 s.2.1), false⟩)], [(505, some ⟨s.2.2.flatMap (encI .i64), true, false⟩)]⟩) (fun d e E => XEnv Γ (.exit 2) ⟨[(1, ⟨.sl a1.length (a1.flatMap (encI .i64)), false⟩), (5, ⟨.ref 505 1 0 d.2.length, false⟩), (6, ⟨.sc (.int .i64 v33), false⟩), (8, ⟨.sc (.int .i64 d.1), false⟩), (26, ⟨.sl a0.length (a0.flatMap (encI .i64)), false⟩), (27, ⟨.sc (.int .i64 (a0.length : Int)), false⟩), (28, ⟨.sc (.int .i64 v33), false⟩)], [(505, some ⟨d.2.flatMap (encI .i64), true, false⟩)]⟩ e E) hd56 ?_ ?_ ?_
  apply el [] (io0 hio _) <;> rfl
  clear H hd56
  rintro ⟨v44, v45, v46⟩ o H
  unfold spec_l02Mul_L1 at H
  (repeat apply sq)
  apply rg
  apply R_lss; rfl; rfl; rfl; rfl
  apply dn
  apply x3
  (repeat apply sq)
  refine CodeT.cond rfl (fun h => ?_) (fun h => ?_)
  replace H := ifT (of_decide_eq_true h) H
  (repeat apply sq)
  apply CodeT.skip
  apply x3
  (repeat apply sq)
  apply CodeT.block
  (repeat apply sq)
  apply rg
  apply R_mov; rfl; rfl; rfl
  obtain ⟨y47, hy47, H⟩ := bindS H
  apply Run.op; (apply L_ixS2; rfl; rfl; rfl; (exact hy47); (intro _; rfl); rfl); rfl; rfl
  apply R_ldI; rfl; rfl; rfl; rfl; rfl
  apply R_asg; rfl; rfl; rfl
  apply R_asg; rfl; rfl; rfl
  apply dn
  apply x3
  (repeat apply sq)
  apply rg
  apply R_mov; rfl; rfl; rfl
  apply R_mov; rfl; rfl; rfl
  apply R_mov; rfl; rfl; rfl
  apply R_add; rfl; rfl; rfl; rfl; rfl
  obtain ⟨y48, hy48, H⟩ := bindS H
  apply Run.op; (apply L_ixR2; rfl; rfl; rfl; (exact hy48); rfl; rfl); rfl; rfl
  apply R_ldP; rfl; rfl; (exact row_ld0 hy48 rfl (fun _ => rfl)); rfl; rfl; rfl
  apply R_mov; rfl; rfl; rfl
  apply R_mov; rfl; rfl; rfl
  apply Run.op; (apply L_mul; rfl; rfl; rfl; rfl); rfl; rfl
  obtain ⟨v49, hv49, H⟩ := bindS H
  apply R_add; rfl; rfl; (exact letS hv49); rfl; rfl
  apply R_mov; rfl; rfl; rfl
  apply R_add; rfl; rfl; rfl; rfl; rfl
  apply R_asg; rfl; rfl; rfl
  apply dn
  apply x3
  (repeat apply sq)
  apply rg
  apply R_mov; rfl; rfl; rfl
  apply R_mov; rfl; rfl; rfl
  apply R_mov; rfl; rfl; rfl
  apply R_add; rfl; rfl; rfl; rfl; rfl
  apply R_mov; rfl; rfl; rfl
  obtain ⟨v50, hv50, H⟩ := bindS H
  apply Run.op; (apply L_rem; rfl; rfl; (intro h; cases h); (exact letS hv50); rfl); rfl; rfl
  obtain ⟨y51, hy51, H⟩ := bindS H
  apply Run.op; (apply L_ixR2; rfl; rfl; rfl; (exact hy51); rfl; rfl); rfl; rfl
  obtain ⟨v52, hv52, H⟩ := bindS H
  have hl53 := setI_lenS hv52
  apply Run.op; (apply L_st; rfl; rfl; rfl; rfl; rfl; (intro h; cases h); (exact row_ble0 (sz := 1) (n := 1) hy51 (fun _ => rfl) (by decide)); (exact row_stL (sz := 1) hv52 hy51 (fun _ => rfl) rfl)); rfl; rfl
  apply dn
  apply x3
  refine CodeT.weak (Ent.relen (k := 5) (n' := v52.length) rfl (by first | (simp only [setI_len]; done) | (simp only [setI_len]; omega) | omega)) ?_
  apply rg
  apply R_mov; rfl; rfl; rfl
  obtain ⟨v54, hv54, H⟩ := bindS H
  apply Run.op; (apply L_quo; rfl; rfl; (intro h; cases h); (exact letS hv54); rfl); rfl; rfl
  apply R_asg; rfl; rfl; rfl
  apply dn
  apply x5
  apply x3
  apply rg
  apply R_add; rfl; rfl; rfl; rfl; rfl
  apply R_mov; rfl; rfl; rfl
  apply dn
  obtain rfl := Option.some.inj H
  refine Ev.y1 ?_
  apply el [] (io0 hio _) <;> rfl
  replace H := ifF (of_decide_eq_false h) H
  (repeat apply sq)
  apply CodeT.exit
  apply x2
  obtain rfl := Option.some.inj H
  refine Ev.y3 ?_
  refine XEnv.mk ?_
  apply el [] (io0 hio _) <;> rfl
  skip
  intro e E' hX; obtain ⟨rfl, g57⟩ := XEnv.out hX
  refine x6 rfl ?_
  apply x3
  refine CodeT.weak g57 ?_
  apply rg
  apply R_mov; rfl; rfl; rfl
  apply R_mov; rfl; rfl; rfl
  apply R_mov; rfl; rfl; rfl
  apply R_len; rfl; rfl; rfl
  obtain ⟨v58, hv58, H⟩ := bindS H
  apply R_add; rfl; rfl; (exact letS hv58); rfl; rfl
  apply R_mov; rfl; rfl; rfl
  obtain ⟨y59, hy59, H⟩ := bindS H
  apply Run.op; (apply L_ixR2; rfl; rfl; rfl; (exact hy59); rfl; rfl); rfl; rfl
  obtain ⟨v60, hv60, H⟩ := bindS H
  have hl61 := setI_lenS hv60
  apply Run.op; (apply L_st; rfl; rfl; rfl; rfl; rfl; (intro h; cases h); (exact row_ble0 (sz := 1) (n := 1) hy59 (fun _ => rfl) (by decide)); (exact row_stL (sz := 1) hv60 hy59 (fun _ => rfl) rfl)); rfl; rfl
  apply dn
  apply x5
  apply x3
  refine CodeT.weak (Ent.relen (k := 5) (n' := v60.length) rfl (by first | (simp only [setI_len]; done) | (simp only [setI_len]; omega) | omega)) ?_
  apply rg
  apply R_add; rfl; rfl; rfl; rfl; rfl
  apply R_mov; rfl; rfl; rfl
  apply dn
  obtain rfl := Option.some.inj H
  refine Ev.y1 ?_
  apply el [] (io0 hio _) <;> rfl
  replace H := ifF (of_decide_eq_false h) H
  (repeat apply sq)
  apply CodeT.exit
  apply x2
  obtain rfl := Option.some.inj H
  refine Ev.y3 ?_
  refine XEnv.mk ?_
  apply el [] (io0 hio _) <;> rfl
  skip
  intro e E' hX; obtain ⟨rfl, g64⟩ := XEnv.out hX
  refine x6 rfl ?_
  apply x3
  refine CodeT.weak g64 ?_
  (repeat apply sq)
  refine CodeT.weak (Ent.freezeW (k := 5) rfl rfl (io1 hio _) rfl) ?_
  apply rg
  apply R_movT; rfl; rfl; rfl; rfl
  obtain ⟨r65, hr65, H⟩ := bindS H
  apply Run.op; (apply L_callD1; rfl; rfl; (exact md_spec_l02Trim d63 _ hr65); rfl; rfl); rfl; rfl
  apply R_asgT; rfl; rfl; rfl; rfl
  apply dn
  apply x3
  apply CodeT.ret
  cases H
  apply x12
  exact RetIs.one (Res1.deep rfl rfl) (fun _ h => by cases h)
theorem m_spec_l02Digit (a0 : (List Int)) (a1 : (List Int)) (r : Int) (H : spec_l02Digit a0 a1 = some r) : Meets Try.prog 93 [.sl a0.length (a0.flatMap (encI .i64)), .sl a1.length (a1.flatMap (encI .i64))] (.sc (.int .i64 r)) true := by
  refine Meets.intro2 (N := 27) (rs := #[.tmp 4]) Try.func93 rfl rfl rfl rfl ?_
  intro Γ hio
  unfold spec_l02Digit at H
  (repeat apply sq)
  apply rg
  apply R_asg; rfl; rfl; rfl
  apply dn
  apply x3
  (repeat apply sq)
  apply rg
  apply R_asg; rfl; rfl; rfl
  apply dn
  apply x3
  (repeat apply sq)
  apply rg
  apply R_asg; rfl; rfl; rfl
  apply dn
  apply x3
  (repeat apply sq)
  apply CodeT.block
  (repeat apply sq)
  obtain ⟨d14, hd14, H⟩ := bindS H
  refine CodeT.lloop (fun s => ⟨[(0, ⟨.sl a0.length (a0.flatMap (encI .i64)), false⟩), (1, ⟨.sl a1.length (a1.flatMap (encI .i64)), false⟩), (5, ⟨.sc (.int .i64 s.1), false⟩), (6, ⟨.sc (.int .i64 s.2), false⟩)], []⟩) (fun d e E => XEnv Γ (.exit 0) ⟨[(5, ⟨.sc (.int .i64 d), false⟩)], []⟩ e E) hd14 ?_ ?_ ?_
  apply el [] (io0 hio _) <;> rfl
  clear H hd14
  rintro ⟨v6, v7⟩ o H
  unfold spec_l02Digit_L1 at H
  (repeat apply sq)
  apply rg
  apply R_mov; rfl; rfl; rfl
  apply R_mov; rfl; rfl; rfl
  apply R_lss; rfl; rfl; rfl; rfl
  apply dn
  apply x3
  (repeat apply sq)
  refine CodeT.cond rfl (fun h => ?_) (fun h => ?_)
  replace H := ifT (of_decide_eq_true h) H
  (repeat apply sq)
  apply CodeT.skip
  apply x3
  apply CodeT.block
  (repeat apply sq)
  apply rg
  apply R_mov; rfl; rfl; rfl
  apply R_mov; rfl; rfl; rfl
  apply R_add; rfl; rfl; rfl; rfl; rfl
  obtain ⟨v8, hv8, H⟩ := bindS H
  apply R_add; rfl; rfl; (exact letS hv8); rfl; rfl
  apply Run.op; (apply L_quo; rfl; rfl; (intro h; cases h); rfl; rfl); rfl; rfl
  apply R_asg; rfl; rfl; rfl
  apply dn
  apply x3
  (repeat apply sq)
  apply rg
  apply R_mov; rfl; rfl; rfl
  apply R_mov; rfl; rfl; rfl
  obtain ⟨r9, hr9, H⟩ := bindS H
  apply Run.op; (apply L_callW; ((apply ArgsV.cons; (apply ArgV.val; rfl; rfl)); (apply ArgsV.nil)); (exact m_spec_NatOf (IntKind.i64.wrap (v8.tdiv 2)) _ hr9); (exact io1 hio _); rfl); rfl; rfl
  obtain ⟨r10, hr10, H⟩ := bindS H
  apply Run.op; (apply L_callW; ((apply ArgsV.cons; (apply ArgV.val; rfl; rfl)); (apply ArgsV.cons; (apply ArgV.ref; rfl; rfl; (first | exact Nat.le_of_eq (flat_len (fun _ => rfl)) | exact Nat.le_of_ble_eq_true rfl))); (apply ArgsV.nil)); (exact m_spec_l02Mul a1 r9 _ hr10); (exact io1 hio _); rfl); rfl; rfl
  apply R_mov; rfl; rfl; rfl
  obtain ⟨r11, hr11, H⟩ := bindS H
  apply Run.op; (apply L_call; ((apply ArgsV.cons; (apply ArgV.ref; rfl; rfl; (first | exact Nat.le_of_eq (flat_len (fun _ => rfl)) | exact Nat.le_of_ble_eq_true rfl))); (apply ArgsV.cons; (apply ArgV.val; rfl; rfl)); (apply ArgsV.nil)); (exact m_spec_l02Cmp r10 a0 _ hr11); rfl; rfl; rfl); rfl; rfl
  apply R_leq; rfl; rfl; rfl; rfl
  apply dn
  apply x3
  refine CodeT.cond rfl (fun h => ?_) (fun h => ?_)
  replace H := ifT (of_decide_eq_true h) H
  (repeat apply sq)
  apply rg
  apply R_mov; rfl; rfl; rfl
  apply R_asg; rfl; rfl; rfl
  apply dn
  apply x5
  obtain rfl := Option.some.inj H
  refine Ev.y1 ?_
  apply el [] (io0 hio _) <;> rfl
  replace H := ifF (of_decide_eq_false h) H
  (repeat apply sq)
  apply rg
  apply R_mov; rfl; rfl; rfl
  obtain ⟨v12, hv12, H⟩ := bindS H
  apply R_sub; rfl; rfl; (exact letS hv12); rfl; rfl
  apply R_asg; rfl; rfl; rfl
  apply dn
  apply x5
  obtain rfl := Option.some.inj H
  refine Ev.y1 ?_
  apply el [] (io0 hio _) <;> rfl
  replace H := ifF (of_decide_eq_false h) H
  (repeat apply sq)
  apply CodeT.exit
  apply x2
  obtain rfl := Option.some.inj H
  refine Ev.y3 ?_
  refine XEnv.mk ?_
  apply el [] (io0 hio _) <;> rfl
  skip
  intro e E' hX; obtain ⟨rfl, g15⟩ := XEnv.out hX
  refine x6 rfl ?_
  apply x3
  refine CodeT.weak g15 ?_
  (repeat apply sq)
  apply rg
  apply R_mov; rfl; rfl; rfl
  apply R_asg; rfl; rfl; rfl
  apply dn
  apply x3
  apply CodeT.ret
  cases H
  apply x12
  exact RetIs.sc1 rfl
theorem m_spec_l02Sub (a0 : (List Int)) (a1 : (List Int)) (r : (List Int)) (H : spec_l02Sub a0 a1 = some r) : Meets Try.prog 76 [.sl a0.length (a0.flatMap (encI .i64)), .sl a1.length (a1.flatMap (encI .i64))] (.rw 1 r.length (r.flatMap (encI .i64))) true := by
  refine Meets.intro2 (N := 42) (rs := #[.tmp 4]) Try.func76 rfl rfl rfl rfl ?_
  intro Γ hio
  unfold spec_l02Sub at H
  (repeat apply sq)
  apply rg
  apply R_asg; rfl; rfl; rfl
  apply dn
  apply x3
  (repeat apply sq)
  apply rg
  apply Run.op; (apply L_bs0; (exact io1 hio _); rfl); rfl; rfl
  apply R_asg; rfl; rfl; rfl
  apply dn
  apply x3
  (repeat apply sq)
  apply rg
  apply R_asg; rfl; rfl; rfl
  apply dn
  apply x3
  (repeat apply sq)
  apply rg
  apply R_mov; rfl; rfl; rfl
  apply R_len; rfl; rfl; rfl
  apply R_mov; rfl; rfl; rfl
  apply dn
  apply x3
  (repeat apply sq)
  apply CodeT.block
  (repeat apply sq)
  obtain ⟨d28, hd28, H⟩ := bindS H
  refine CodeT.lloop (fun s => ⟨[(0, ⟨.sl a0.length (a0.flatMap (encI .i64)), false⟩), (1, ⟨.sl a1.length (a1.flatMap (encI .i64)), false⟩), (5, ⟨.ref 505 1 0 s.2.2.length, false⟩), (6, ⟨.sc (.int .i64 s.1), false⟩), (11, ⟨.sc (.int .i64 (a0.length : Int)), false⟩), (12, ⟨.sc (.int .i64 s.2.1), false⟩)], [(505, some ⟨s.2.2.flatMap (encI .i64), true, false⟩)]⟩) (fun d e E => XEnv Γ (.exit 0) ⟨[(5, ⟨.ref 505 1 0 d.length, false⟩)], [(505, some ⟨d.flatMap (encI .i64), true, false⟩)]⟩ e E) hd28 ?_ ?_ ?_
  apply el [(505, 9)] (io0 hio _) <;> rfl
  clear H hd28
  rintro ⟨v12, v13, v14⟩ o H
  unfold spec_l02Sub_L1 at H
  (repeat apply sq)
  apply rg
  apply R_lss; rfl; rfl; rfl; rfl
  apply dn
  apply x3
  (repeat apply sq)
  refine CodeT.cond rfl (fun h => ?_) (fun h => ?_)
  replace H := ifT (of_decide_eq_true h) H
  (repeat apply sq)
  apply CodeT.skip
  apply x3
  (repeat apply sq)
  apply CodeT.block
  (repeat apply sq)
  apply rg
  apply R_mov; rfl; rfl; rfl
  apply R_asg; rfl; rfl; rfl
  apply dn
  apply x3
  (repeat apply sq)
  apply rg
  apply R_mov; rfl; rfl; rfl
  apply R_mov; rfl; rfl; rfl
  obtain ⟨y15, hy15, H⟩ := bindS H
  apply Run.op; (apply L_ixS2; rfl; rfl; rfl; (exact hy15); (intro _; rfl); rfl); rfl; rfl
  apply R_ldI; rfl; rfl; rfl; rfl; rfl
  apply R_mov; rfl; rfl; rfl
  apply R_sub; rfl; rfl; rfl; rfl; rfl
  apply R_asg; rfl; rfl; rfl
  apply dn
  apply x3
  (repeat apply sq)
  apply rg
  apply R_mov; rfl; rfl; rfl
  apply R_mov; rfl; rfl; rfl
  apply R_len; rfl; rfl; rfl
  apply R_lss; rfl; rfl; rfl; rfl
  apply dn
  apply x3
  (repeat apply sq)
  obtain ⟨d19, hd19, H⟩ := bindS H
  refine CodeT.lcut (x := d19) (fun d e E => XEnv Γ .normal ⟨[(0, ⟨.sl a0.length (a0.flatMap (encI .i64)), false⟩), (1, ⟨.sl a1.length (a1.flatMap (encI .i64)), false⟩), (5, ⟨.ref 505 1 0 v14.length, false⟩), (8, ⟨.sc (.int .i64 d), false⟩), (11, ⟨.sc (.int .i64 (a0.length : Int)), false⟩), (12, ⟨.sc (.int .i64 v13), false⟩)], [(505, some ⟨v14.flatMap (encI .i64), true, false⟩)]⟩ e E) ?_ ?_
  clear H; have H := hd19; clear hd19
  refine CodeT.cond rfl (fun h => ?_) (fun h => ?_)
  replace H := ifT (of_decide_eq_true h) H
  (repeat apply sq)
  apply rg
  apply R_mov; rfl; rfl; rfl
  apply R_mov; rfl; rfl; rfl
  apply R_mov; rfl; rfl; rfl
  obtain ⟨y16, hy16, H⟩ := bindS H
  apply Run.op; (apply L_ixS2; rfl; rfl; rfl; (exact hy16); (intro _; rfl); rfl); rfl; rfl
  apply R_ldI; rfl; rfl; rfl; rfl; rfl
  obtain ⟨v17, hv17, H⟩ := bindS H
  apply R_sub; rfl; rfl; (exact letS hv17); rfl; rfl
  apply R_asg; rfl; rfl; rfl
  apply dn
  obtain rfl := Option.some.inj H
  refine Ev.y4 ?_
  refine XEnv.mk ?_
  apply el [] (io0 hio _) <;> rfl
  replace H := ifF (of_decide_eq_false h) H
  (repeat apply sq)
  apply CodeT.skip
  obtain rfl := Option.some.inj H
  refine Ev.y4 ?_
  refine XEnv.mk ?_
  apply el [] (io0 hio _) <;> rfl
  intro e E' hX; obtain ⟨rfl, g20⟩ := XEnv.out hX
  apply x3
  refine CodeT.weak g20 ?_
  (repeat apply sq)
  apply rg
  apply R_asg; rfl; rfl; rfl
  apply dn
  apply x3
  (repeat apply sq)
  apply rg
  apply R_mov; rfl; rfl; rfl
  apply R_lss; rfl; rfl; rfl; rfl
  apply dn
  apply x3
  (repeat apply sq)
  obtain ⟨d23, hd23, H⟩ := bindS H
  refine CodeT.lcut (x := d23) (fun d e E => XEnv Γ .normal ⟨[(0, ⟨.sl a0.length (a0.flatMap (encI .i64)), false⟩), (1, ⟨.sl a1.length (a1.flatMap (encI .i64)), false⟩), (5, ⟨.ref 505 1 0 v14.length, false⟩), (6, ⟨.sc (.int .i64 d.1), false⟩), (8, ⟨.sc (.int .i64 d.2), false⟩), (11, ⟨.sc (.int .i64 (a0.length : Int)), false⟩), (12, ⟨.sc (.int .i64 v13), false⟩)], [(505, some ⟨v14.flatMap (encI .i64), true, false⟩)]⟩ e E) ?_ ?_
  clear H; have H := hd23; clear hd23
  refine CodeT.cond rfl (fun h => ?_) (fun h => ?_)
  replace H := ifT (of_decide_eq_true h) H
  (repeat apply sq)
  apply rg
  apply R_mov; rfl; rfl; rfl
  obtain ⟨v21, hv21, H⟩ := bindS H
  apply R_add; rfl; rfl; (exact letS hv21); rfl; rfl
  apply R_asg; rfl; rfl; rfl
  apply dn
  apply x3
  apply rg
  apply R_asg; rfl; rfl; rfl
  apply dn
  obtain rfl := Option.some.inj H
  refine Ev.y4 ?_
  refine XEnv.mk ?_
  apply el [] (io0 hio _) <;> rfl
  replace H := ifF (of_decide_eq_false h) H
  (repeat apply sq)
  apply CodeT.skip
  obtain rfl := Option.some.inj H
  refine Ev.y4 ?_
  refine XEnv.mk ?_
  apply el [] (io0 hio _) <;> rfl
  intro e E' hX; obtain ⟨rfl, g24⟩ := XEnv.out hX
  apply x3
  refine CodeT.weak g24 ?_
  apply rg
  apply R_mov; rfl; rfl; rfl
  apply R_mov; rfl; rfl; rfl
  apply Run.op; (apply L_bs1; rfl; rfl; rfl; rfl; rfl; rfl; rfl; rfl); rfl; rfl
  obtain ⟨_u, ha25, H⟩ := bindS H
  obtain ⟨v26, hv26, H⟩ := bindS H
  apply Run.op; (apply L_app true; rfl; rfl; rfl; (exact flat_len (l := v14) (enc := (encI .i64)) (fun _ => rfl)); rfl; (exact chkS ha25); (exact app63 (by decide) (chkS ha25)); (exact ⟨io1 hio _, io1 hio _⟩); (intro _; rfl); (exact flat_snocL (l := v14) (y := d23.2) (enc := (encI .i64)) hv26); rfl); rfl; rfl
  apply R_asg; rfl; rfl; rfl
  apply dn
  apply x5
  apply x3
  apply rg
  apply R_add; rfl; rfl; rfl; rfl; rfl
  apply R_mov; rfl; rfl; rfl
  apply dn
  obtain rfl := Option.some.inj H
  refine Ev.y1 ?_
  apply el [(505, 38)] (io0 hio _) <;> rfl
  replace H := ifF (of_decide_eq_false h) H
  (repeat apply sq)
  apply CodeT.exit
  apply x2
  obtain rfl := Option.some.inj H
  refine Ev.y3 ?_
  refine XEnv.mk ?_
  apply el [] (io0 hio _) <;> rfl
  skip
  intro e E' hX; obtain ⟨rfl, g29⟩ := XEnv.out hX
  refine x6 rfl ?_
  apply x3
  refine CodeT.weak g29 ?_
  (repeat apply sq)
  refine CodeT.weak (Ent.freezeW (k := 5) rfl rfl (io1 hio _) rfl) ?_
  apply rg
  apply R_movT; rfl; rfl; rfl; rfl
  obtain ⟨r30, hr30, H⟩ := bindS H
  apply Run.op; (apply L_callD1; rfl; rfl; (exact md_spec_l02Trim d28 _ hr30); rfl; rfl); rfl; rfl
  apply R_asgT; rfl; rfl; rfl; rfl
  apply dn
  apply x3
  apply CodeT.ret
  cases H
  apply x12
  exact RetIs.one (Res1.deep rfl rfl) (fun _ h => by cases h)
theorem m_spec_l02Div (a0 : (List Int)) (a1 : (List Int)) (r : ((List Int) × (List Int))) (H : spec_l02Div a0 a1 = some r) : Meets Try.prog 73 [.sl a0.length (a0.flatMap (encI .i64)), .sl a1.length (a1.flatMap (encI .i64))] (.tup [.rw 1 r.1.length (r.1.flatMap (encI .i64)), .sl r.2.length (r.2.flatMap (encI .i64))]) true := by
  refine Meets.intro2 (N := 65) (rs := #[.tmp 4, .tmp 5]) Try.func73 rfl rfl rfl rfl ?_
  intro Γ hio
  unfold spec_l02Div at H
  (repeat apply sq)
  apply rg
  apply R_asg; rfl; rfl; rfl
  apply R_asg; rfl; rfl; rfl
  apply dn
  apply x3
  (repeat apply sq)
  apply rg
  apply R_mov; rfl; rfl; rfl
  apply R_len; rfl; rfl; rfl
  apply R_eql; rfl; rfl; rfl; rfl
  apply dn
  apply x3
  (repeat apply sq)
  refine CodeT.cond rfl (fun h => ?_) (fun h => ?_)
  replace H := ifT (of_decide_eq_true h) H
  (repeat apply sq)
  apply rg
  apply R_mov; rfl; rfl; rfl
  apply R_mov; rfl; rfl; rfl
  obtain ⟨y1, hy1, H⟩ := bindS H
  apply Run.op; (apply L_ixS2; rfl; rfl; rfl; (exact hy1); (intro _; rfl); rfl); rfl; rfl
  apply R_ldI; rfl; rfl; rfl; rfl; rfl
  obtain ⟨r2, hr2, H⟩ := bindS H
  apply Run.op; (apply L_callT 1200; ((apply ArgsV.cons; (apply ArgV.val; rfl; rfl)); (apply ArgsV.cons; (apply ArgV.val; rfl; rfl)); (apply ArgsV.nil)); (exact m_spec_l02Small a0 y1 _ hr2); rfl; rfl; rfl; (exact ⟨io1 hio _, trivial⟩); rfl); rfl; rfl
  apply R_mov; rfl; rfl; rfl
  apply Run.op; (apply L_extR; rfl; rfl; rfl); rfl; rfl
  apply Run.op; (apply L_extR; rfl; rfl; rfl); rfl; rfl
  apply R_asg; rfl; rfl; rfl
  apply R_asg; rfl; rfl; rfl
  apply dn
  apply x3
  (repeat apply sq)
  apply rg
  apply R_mov; rfl; rfl; rfl
  apply R_mov; rfl; rfl; rfl
  obtain ⟨r3, hr3, H⟩ := bindS H
  apply Run.op; (apply L_callW; ((apply ArgsV.cons; (apply ArgV.val; rfl; rfl)); (apply ArgsV.nil)); (exact m_spec_NatOf r2.2 _ hr3); (exact io1 hio _); rfl); rfl; rfl
  apply R_asg; rfl; rfl; rfl
  apply R_asg; rfl; rfl; rfl
  apply dn
  apply x3
  apply CodeT.ret
  apply x1
  cases H
  apply x12
  exact RetIs.many (.inl rfl) (ResL.cons (Res1.refW rfl rfl (io1 hio _)) (ResL.cons (Res1.ref rfl rfl (io1 hio _)) ResL.nil)) (fun h => by first | rfl | cases h)
  replace H := ifF (of_decide_eq_false h) H
  (repeat apply sq)
  apply CodeT.skip
  apply x3
  (repeat apply sq)
  apply rg
  apply R_mov; rfl; rfl; rfl
  apply R_len; rfl; rfl; rfl
  obtain ⟨_u, hm4, H⟩ := bindS H
  apply Run.op; (apply L_make2 (enc := (encI .i64)) (z := 0); rfl; rfl; rfl; (exact chkS hm4); rfl; decide; (intro h; cases h); (exact io1 hio _); rfl); rfl; rfl
  apply R_asg; rfl; rfl; rfl
  apply dn
  apply x3
  (repeat apply sq)
  apply rg
  apply Run.op; (apply L_bs0; (exact io1 hio _); rfl); rfl; rfl
  apply R_asg; rfl; rfl; rfl
  apply dn
  apply x3
  (repeat apply sq)
  apply rg
  apply R_mov; rfl; rfl; rfl
  apply R_len; rfl; rfl; rfl
  obtain ⟨v5, hv5, H⟩ := bindS H
  apply R_sub; rfl; rfl; (exact letS hv5); rfl; rfl
  apply R_asg; rfl; rfl; rfl
  apply dn
  apply x3
  (repeat apply sq)
  apply CodeT.block
  (repeat apply sq)
  obtain ⟨d34, hd34, H⟩ := bindS H
  refine CodeT.lloop (fun s => ⟨[(0, ⟨.sl a0.length (a0.flatMap (encI .i64)), false⟩), (1, ⟨.sl a1.length (a1.flatMap (encI .i64)), false⟩), (8, ⟨.ref 508 1 0 s.2.2.length, false⟩), (9, ⟨.sl s.1.length (s.1.flatMap (encI .i64)), true⟩), (10, ⟨.sc (.int .i64 s.2.1), false⟩)], [(508, some ⟨s.2.2.flatMap (encI .i64), true, false⟩)]⟩) (fun d e E => XEnv Γ (.exit 0) ⟨[(8, ⟨.ref 508 1 0 d.2.length, false⟩), (9, ⟨.sl d.1.length (d.1.flatMap (encI .i64)), true⟩)], [(508, some ⟨d.2.flatMap (encI .i64), true, false⟩)]⟩ e E) hd34 ?_ ?_ ?_
  refine Ent.trans (Ent.freeze (k := 9) rfl rfl (io1 hio _) rfl) ?_
  apply el [(508, 28)] (io0 hio _) <;> rfl
  clear H hd34
  rintro ⟨v18, v19, v20⟩ o H
  unfold spec_l02Div_L1 at H
  (repeat apply sq)
  apply rg
  apply R_mov; rfl; rfl; rfl
  apply Run.op; (apply L_geq; rfl; rfl; rfl); rfl; rfl
  apply dn
  apply x3
  (repeat apply sq)
  refine CodeT.cond rfl (fun h => ?_) (fun h => ?_)
  replace H := ifT (of_decide_eq_true h) H
  (repeat apply sq)
  apply CodeT.skip
  apply x3
  (repeat apply sq)
  apply CodeT.block
  (repeat apply sq)
  apply rg
  apply R_mov; rfl; rfl; rfl
  apply R_mov; rfl; rfl; rfl
  obtain ⟨y21, hy21, H⟩ := bindS H
  apply Run.op; (apply L_ixS2; rfl; rfl; rfl; (exact hy21); (intro _; rfl); rfl); rfl; rfl
  apply R_ldI; rfl; rfl; rfl; rfl; rfl
  apply Run.op; (apply L_bsR; rfl; rfl; rfl; rfl; (exact io1 hio _); rfl); rfl; rfl
  apply R_movT; rfl; rfl; rfl; rfl
  obtain ⟨_u, ha22, H⟩ := bindS H
  obtain ⟨v23, hv23, H⟩ := bindS H
  apply Run.op; (apply Local.frz 43; apply L_app true; rfl; rfl; rfl; (exact flat_len (l := ([y21])) (enc := (encI .i64)) (fun _ => rfl)); (exact flat_len (l := v18) (enc := (encI .i64)) (fun _ => rfl)); (exact chkS ha22); (exact app63 (by decide) (chkS ha22)); (exact ⟨io1 hio _, io1 hio _⟩); (intro _; exact allSc_flat (l := v18) (enc := (encI .i64)) (fun _ => rfl)); (exact flat_catL (l := ([y21])) (r := v18) (enc := (encI .i64)) hv23); rfl; rfl; rfl; (exact io1 hio _); rfl); rfl; rfl
  obtain ⟨r24, hr24, H⟩ := bindS H
  apply Run.op; (apply L_callD1; rfl; rfl; (exact md_spec_l02Trim v23 _ hr24); rfl; rfl); rfl; rfl
  apply R_asgT; rfl; rfl; rfl; rfl
  apply dn
  apply x3
  (repeat apply sq)
  apply rg
  apply Run.op; (apply Local.soft (Soft.rw (SoftL.refl _)); apply L_mov; rfl; rfl); rfl; rfl
  apply R_mov; rfl; rfl; rfl
  obtain ⟨r25, hr25, H⟩ := bindS H
  apply Run.op; (apply L_call; ((apply ArgsV.cons; (apply ArgV.val; rfl; rfl)); (apply ArgsV.cons; (apply ArgV.val; rfl; rfl)); (apply ArgsV.nil)); (exact m_spec_l02Cmp r24 a1 _ hr25); rfl; rfl; rfl); rfl; rfl
  apply R_lss; rfl; rfl; rfl; rfl
  apply dn
  apply x3
  (repeat apply sq)
  refine CodeT.cond rfl (fun h => ?_) (fun h => ?_)
  replace H := ifT (of_decide_eq_true h) H
  (repeat apply sq)
  apply CodeT.exit
  apply x2
  refine x6 rfl ?_
  apply x3
  apply rg
  apply R_mov; rfl; rfl; rfl
  apply R_sub; rfl; rfl; rfl; rfl; rfl
  apply R_asg; rfl; rfl; rfl
  apply dn
  obtain rfl := Option.some.inj H
  refine Ev.y1 ?_
  refine Ent.trans (Ent.softS (k := 9) rfl (Soft.rw (SoftL.refl _))) ?_
  apply el [] (io0 hio _) <;> rfl
  replace H := ifF (of_decide_eq_false h) H
  (repeat apply sq)
  apply CodeT.skip
  apply x3
  (repeat apply sq)
  apply rg
  apply Run.op; (apply Local.soft (Soft.rw (SoftL.refl _)); apply L_mov; rfl; rfl); rfl; rfl
  apply R_mov; rfl; rfl; rfl
  obtain ⟨r26, hr26, H⟩ := bindS H
  apply Run.op; (apply L_call; ((apply ArgsV.cons; (apply ArgV.val; rfl; rfl)); (apply ArgsV.cons; (apply ArgV.val; rfl; rfl)); (apply ArgsV.nil)); (exact m_spec_l02Digit r24 a1 _ hr26); rfl; rfl; rfl); rfl; rfl
  apply R_asg; rfl; rfl; rfl
  apply dn
  apply x3
  (repeat apply sq)
  apply rg
  apply R_mov; rfl; rfl; rfl
  apply R_mov; rfl; rfl; rfl
  apply R_mov; rfl; rfl; rfl
  obtain ⟨y27, hy27, H⟩ := bindS H
  apply Run.op; (apply L_ixR2; rfl; rfl; rfl; (exact hy27); rfl; rfl); rfl; rfl
  obtain ⟨v28, hv28, H⟩ := bindS H
  have hl29 := setI_lenS hv28
  apply Run.op; (apply L_st; rfl; rfl; rfl; rfl; rfl; (intro h; cases h); (exact row_ble0 (sz := 1) (n := 1) hy27 (fun _ => rfl) (by decide)); (exact row_stL (sz := 1) hv28 hy27 (fun _ => rfl) rfl)); rfl; rfl
  apply dn
  apply x3
  refine CodeT.weak (Ent.relen (k := 8) (n' := v28.length) rfl (by first | (simp only [setI_len]; done) | (simp only [setI_len]; omega) | omega)) ?_
  apply rg
  apply R_movT; rfl; rfl; rfl; rfl
  apply R_mov; rfl; rfl; rfl
  apply R_mov; rfl; rfl; rfl
  obtain ⟨r30, hr30, H⟩ := bindS H
  apply Run.op; (apply L_callW; ((apply ArgsV.cons; (apply ArgV.val; rfl; rfl)); (apply ArgsV.nil)); (exact m_spec_NatOf r26 _ hr30); (exact io1 hio _); rfl); rfl; rfl
  obtain ⟨r31, hr31, H⟩ := bindS H
  apply Run.op; (apply L_callW; ((apply ArgsV.cons; (apply ArgV.val; rfl; rfl)); (apply ArgsV.cons; (apply ArgV.ref; rfl; rfl; (first | exact Nat.le_of_eq (flat_len (fun _ => rfl)) | exact Nat.le_of_ble_eq_true rfl))); (apply ArgsV.nil)); (exact m_spec_l02Mul a1 r30 _ hr31); (exact io1 hio _); rfl); rfl; rfl
  obtain ⟨r32, hr32, H⟩ := bindS H
  apply Run.op; (apply L_callW; ((apply ArgsV.cons; (apply ArgV.valS; rfl; rfl; (exact (Soft.rw (SoftL.refl _))))); (apply ArgsV.cons; (apply ArgV.ref; rfl; rfl; (first | exact Nat.le_of_eq (flat_len (fun _ => rfl)) | exact Nat.le_of_ble_eq_true rfl))); (apply ArgsV.nil)); (exact m_spec_l02Sub r24 r31 _ hr32); (exact io1 hio _); rfl); rfl; rfl
  apply R_asg; rfl; rfl; rfl
  apply dn
  apply x5
  apply x3
  apply rg
  apply R_mov; rfl; rfl; rfl
  apply R_sub; rfl; rfl; rfl; rfl; rfl
  apply R_asg; rfl; rfl; rfl
  apply dn
  obtain rfl := Option.some.inj H
  refine Ev.y1 ?_
  refine Ent.trans (Ent.freeze (k := 9) rfl rfl (io1 hio _) rfl) ?_
  apply el [] (io0 hio _) <;> rfl
  replace H := ifF (of_decide_eq_false h) H
  (repeat apply sq)
  apply CodeT.exit
  apply x2
  obtain rfl := Option.some.inj H
  refine Ev.y3 ?_
  refine XEnv.mk ?_
  apply el [] (io0 hio _) <;> rfl
  skip
  intro e E' hX; obtain ⟨rfl, g35⟩ := XEnv.out hX
  refine x6 rfl ?_
  apply x3
  refine CodeT.weak g35 ?_
  (repeat apply sq)
  refine CodeT.weak (Ent.freezeW (k := 8) rfl rfl (io1 hio _) rfl) ?_
  apply rg
  apply R_movT; rfl; rfl; rfl; rfl
  obtain ⟨r36, hr36, H⟩ := bindS H
  apply Run.op; (apply L_callD1; rfl; rfl; (exact md_spec_l02Trim d34.2 _ hr36); rfl; rfl); rfl; rfl
  apply R_movT; rfl; rfl; rfl; rfl
  apply R_asgT; rfl; rfl; rfl; rfl
  apply R_asgT; rfl; rfl; rfl; rfl
  apply dn
  apply x3
  apply CodeT.ret
  cases H
  apply x12
  exact RetIs.many (.inl rfl) (ResL.cons (Res1.deep rfl rfl) (ResL.cons (Res1.deep rfl rfl) ResL.nil)) (fun h => by first | rfl | cases h)
theorem m_spec_l02Gcd (a0 : (List Int)) (a1 : (List Int)) (r : (List Int)) (H : spec_l02Gcd a0 a1 = some r) : Meets Try.prog 46 [.sl a0.length (a0.flatMap (encI .i64)), .sl a1.length (a1.flatMap (encI .i64))] (.sl r.length (r.flatMap (encI .i64))) true := by
  refine Meets.intro2 (N := 52) (rs := #[.tmp 4]) Try.func46 rfl rfl rfl rfl ?_
  intro Γ hio
  unfold spec_l02Gcd at H
  (repeat apply sq)
  apply rg
  apply R_asg; rfl; rfl; rfl
  apply dn
  apply x3
  (repeat apply sq)
  apply rg
  apply Run.op; (apply L_bs0; (exact io1 hio _); rfl); rfl; rfl
  apply R_mov; rfl; rfl; rfl
  obtain ⟨_u, ha1, H⟩ := bindS H
  obtain ⟨v2, hv2, H⟩ := bindS H
  apply Run.op; (apply L_app true; rfl; rfl; rfl; (exact flat_len (l := ([] : List Int)) (enc := (encI .i64)) (fun _ => rfl)); (exact flat_len (l := a0) (enc := (encI .i64)) (fun _ => rfl)); (exact chkS ha1); (exact app63 (by decide) (chkS ha1)); (exact ⟨io1 hio _, io1 hio _⟩); (intro _; exact allSc_flat (l := a0) (enc := (encI .i64)) (fun _ => rfl)); (exact flat_catL (l := ([] : List Int)) (r := a0) (enc := (encI .i64)) hv2); rfl); rfl; rfl
  apply R_asg; rfl; rfl; rfl
  apply dn
  apply x3
  (repeat apply sq)
  apply rg
  apply Run.op; (apply L_bs0; (exact io1 hio _); rfl); rfl; rfl
  apply R_mov; rfl; rfl; rfl
  obtain ⟨_u, ha3, H⟩ := bindS H
  obtain ⟨v4, hv4, H⟩ := bindS H
  apply Run.op; (apply L_app true; rfl; rfl; rfl; (exact flat_len (l := ([] : List Int)) (enc := (encI .i64)) (fun _ => rfl)); (exact flat_len (l := a1) (enc := (encI .i64)) (fun _ => rfl)); (exact chkS ha3); (exact app63 (by decide) (chkS ha3)); (exact ⟨io1 hio _, io1 hio _⟩); (intro _; exact allSc_flat (l := a1) (enc := (encI .i64)) (fun _ => rfl)); (exact flat_catL (l := ([] : List Int)) (r := a1) (enc := (encI .i64)) hv4); rfl); rfl; rfl
  apply R_asg; rfl; rfl; rfl
  apply dn
  apply x3
  (repeat apply sq)
  apply CodeT.block
  (repeat apply sq)
  obtain ⟨d30, hd30, H⟩ := bindS H
  refine CodeT.lloop (fun s => ⟨[(5, ⟨.sl s.1.length (s.1.flatMap (encI .i64)), true⟩), (6, ⟨.sl s.2.length (s.2.flatMap (encI .i64)), true⟩)], []⟩) (fun x e E => match x with | (.inl d) => XEnv Γ (.exit 0) ⟨[(5, ⟨.sl d.length (d.flatMap (encI .i64)), true⟩)], []⟩ e E | (.inr d) => XRet Γ #[.tmp 4] (.sl d.length (d.flatMap (encI .i64))) true e E) hd30 ?_ ?_ ?_
  refine Ent.trans (Ent.freeze (k := 5) rfl rfl (io1 hio _) rfl) ?_
  refine Ent.trans (Ent.freeze (k := 6) rfl rfl (io1 hio _) rfl) ?_
  apply el [] (io0 hio _) <;> rfl
  clear H hd30
  rintro ⟨v21, v22⟩ o H
  unfold spec_l02Gcd_L1 at H
  (repeat apply sq)
  apply rg
  apply R_mov; rfl; rfl; rfl
  apply R_len; rfl; rfl; rfl
  apply R_gtr; rfl; rfl; rfl; rfl
  apply dn
  apply x3
  (repeat apply sq)
  refine CodeT.cond rfl (fun h => ?_) (fun h => ?_)
  replace H := ifT (of_decide_eq_true h) H
  (repeat apply sq)
  apply CodeT.skip
  apply x3
  apply CodeT.block
  (repeat apply sq)
  obtain ⟨d24, hd24, H⟩ := bindS H
  refine CodeT.lcut (x := d24) (fun d e E => XEnv Γ .normal ⟨[(5, ⟨.sl v21.length (v21.flatMap (encI .i64)), true⟩), (6, ⟨.sl v22.length (v22.flatMap (encI .i64)), true⟩), (29, ⟨.sc (.bool d), false⟩)], []⟩ e E) ?_ ?_
  clear H; have H := hd24; clear hd24
  apply rg
  apply R_mov; rfl; rfl; rfl
  apply R_len; rfl; rfl; rfl
  apply R_dec; (apply L_lss; rfl; rfl; rfl); rfl
  intro h; replace H := ifT h H
  apply R_mov; rfl; rfl; rfl
  apply R_mov; rfl; rfl; rfl
  apply R_len; rfl; rfl; rfl
  apply R_lss; rfl; rfl; rfl; rfl
  apply R_pickT; rfl; rfl; rfl; rfl
  apply dn
  obtain rfl := Option.some.inj H
  refine Ev.y4 ?_
  refine XEnv.mk ?_
  apply el [] (io0 hio _) <;> rfl
  intro h; replace H := ifF h H
  apply R_mov; rfl; rfl; rfl
  apply Run.skip; rfl
  apply Run.skip; rfl
  apply Run.skip; rfl
  apply R_pickF; rfl; rfl; rfl; rfl
  apply dn
  obtain rfl := Option.some.inj H
  refine Ev.y4 ?_
  refine XEnv.mk ?_
  apply el [] (io0 hio _) <;> rfl
  intro e E' hX; obtain ⟨rfl, g25⟩ := XEnv.out hX
  apply x3
  refine CodeT.weak g25 ?_
  (repeat apply sq)
  refine CodeT.cond rfl (fun h => ?_) (fun h => ?_)
  replace H := ifTb h H
  (repeat apply sq)
  apply rg
  apply R_movT; rfl; rfl; rfl; rfl
  obtain ⟨r26, hr26, H⟩ := bindS H
  apply Run.op; (apply L_call; ((apply ArgsV.cons; (apply ArgV.val; rfl; rfl)); (apply ArgsV.nil)); (exact m_spec_NatToInt v21 _ hr26); rfl; rfl; rfl); rfl; rfl
  apply R_mov; rfl; rfl; rfl
  apply Run.op; (apply L_extR; rfl; rfl; rfl); rfl; rfl
  apply Run.op; (apply L_extR; rfl; rfl; rfl); rfl; rfl
  apply R_asg; rfl; rfl; rfl
  apply R_asg; rfl; rfl; rfl
  apply dn
  apply x3
  (repeat apply sq)
  apply rg
  apply R_movT; rfl; rfl; rfl; rfl
  obtain ⟨r27, hr27, H⟩ := bindS H
  apply Run.op; (apply L_call; ((apply ArgsV.cons; (apply ArgV.val; rfl; rfl)); (apply ArgsV.nil)); (exact m_spec_NatToInt v22 _ hr27); rfl; rfl; rfl); rfl; rfl
  apply R_mov; rfl; rfl; rfl
  apply Run.op; (apply L_extR; rfl; rfl; rfl); rfl; rfl
  apply Run.op; (apply L_extR; rfl; rfl; rfl); rfl; rfl
  apply R_asg; rfl; rfl; rfl
  apply R_asg; rfl; rfl; rfl
  apply dn
  apply x3
  (repeat apply sq)
  apply rg
  apply R_mov; rfl; rfl; rfl
  apply R_mov; rfl; rfl; rfl
  obtain ⟨r28, hr28, H⟩ := bindS H
  apply Run.op; (apply L_callW; ((apply ArgsV.cons; (apply ArgV.val; rfl; rfl)); (apply ArgsV.cons; (apply ArgV.val; rfl; rfl)); (apply ArgsV.nil)); (exact m_spec_l02Plain r26.1 r27.1 _ hr28); (exact io1 hio _); rfl); rfl; rfl
  apply R_asg; rfl; rfl; rfl
  apply dn
  apply x3
  apply CodeT.ret
  apply x1
  apply x4
  obtain rfl := Option.some.inj H
  refine Ev.y2 ?_
  refine XRet.mk ?_
  exact RetIs.r1 rfl rfl rfl (io1 hio _)
  replace H := ifFb h H
  (repeat apply sq)
  apply CodeT.skip
  apply x3
  (repeat apply sq)
  apply rg
  apply R_movT; rfl; rfl; rfl; rfl
  apply R_mov; rfl; rfl; rfl
  obtain ⟨r29, hr29, H⟩ := bindS H
  apply Run.op; (apply L_call; ((apply ArgsV.cons; (apply ArgV.val; rfl; rfl)); (apply ArgsV.cons; (apply ArgV.val; rfl; rfl)); (apply ArgsV.nil)); (exact m_spec_l02Div v21 v22 _ hr29); rfl; rfl; rfl); rfl; rfl
  apply R_movT; rfl; rfl; rfl; rfl
  apply Run.op; (apply L_extT; rfl; rfl; rfl; rfl; rfl); rfl; rfl
  apply Run.op; (apply L_extT; rfl; rfl; rfl; rfl; rfl); rfl; rfl
  apply R_asgT; rfl; rfl; rfl; rfl
  apply R_asgT; rfl; rfl; rfl; rfl
  apply dn
  apply x3
  (repeat apply sq)
  apply rg
  apply R_movT; rfl; rfl; rfl; rfl
  apply R_asgT; rfl; rfl; rfl; rfl
  apply dn
  apply x3
  apply rg
  apply R_movT; rfl; rfl; rfl; rfl
  apply R_asgT; rfl; rfl; rfl; rfl
  apply dn
  apply x5
  obtain rfl := Option.some.inj H
  refine Ev.y1 ?_
  apply el [] (io0 hio _) <;> rfl
  replace H := ifF (of_decide_eq_false h) H
  (repeat apply sq)
  apply CodeT.exit
  apply x2
  obtain rfl := Option.some.inj H
  refine Ev.y3 ?_
  refine XEnv.mk ?_
  apply el [] (io0 hio _) <;> rfl
  rcases d30 with (d31 | d33)
  intro e E' hX; obtain ⟨rfl, g32⟩ := XEnv.out hX
  refine x6 rfl ?_
  apply x3
  refine CodeT.weak g32 ?_
  (repeat apply sq)
  apply rg
  apply R_movT; rfl; rfl; rfl; rfl
  apply R_asgT; rfl; rfl; rfl; rfl
  apply dn
  apply x3
  apply CodeT.ret
  cases H
  apply x12
  exact RetIs.one (Res1.deep rfl rfl) (fun _ h => by cases h)
  intro e E' hX; obtain ⟨rfl, g34⟩ := XRet.out hX
  apply x4
  apply x1
  cases H
  apply x12
  exact g34
theorem m_spec_l04One (a0 : (List Int)) (r : Bool) (H : spec_l04One a0 = some r) : Meets Try.prog 45 [.sl a0.length (a0.flatMap (encI .i64))] (.sc (.bool r)) true := by
  refine Meets.intro2 (N := 12) (rs := #[.tmp 2]) Try.func45 rfl rfl rfl rfl ?_
  intro Γ hio
  unfold spec_l04One at H
  (repeat apply sq)
  apply rg
  apply R_asg; rfl; rfl; rfl
  apply dn
  apply x3
  (repeat apply sq)
  apply rg
  apply R_mov; rfl; rfl; rfl
  apply R_len; rfl; rfl; rfl
  apply R_dec; (apply L_eql; rfl; rfl; rfl); rfl
  intro h; replace H := ifT h H
  apply R_mov; rfl; rfl; rfl
  apply R_mov; rfl; rfl; rfl
  obtain ⟨y1, hy1, H⟩ := bindS H
  apply Run.op; (apply L_ixS2; rfl; rfl; rfl; (exact hy1); (intro _; rfl); rfl); rfl; rfl
  apply R_ldI; rfl; rfl; rfl; rfl; rfl
  apply R_eql; rfl; rfl; rfl; rfl
  apply R_pickT; rfl; rfl; rfl; rfl
  apply R_asg; rfl; rfl; rfl
  apply dn
  apply x3
  apply CodeT.ret
  cases H
  apply x12
  exact RetIs.sc1 rfl
  intro h; replace H := ifF h H
  apply R_mov; rfl; rfl; rfl
  apply Run.skip; rfl
  apply Run.skip; rfl
  apply Run.skip; rfl
  apply Run.skip; rfl
  apply R_pickF; rfl; rfl; rfl; rfl
  apply R_asg; rfl; rfl; rfl
  apply dn
  apply x3
  apply CodeT.ret
  cases H
  apply x12
  exact RetIs.sc1 rfl
theorem m_spec_RatOk (a0 : Rat) (r : Bool) (H : spec_RatOk a0 = some r) : Meets Try.prog 29 [.agg (encRat a0)] (.sc (.bool r)) true := by
  refine Meets.intro2 (N := 39) (rs := #[.tmp 2]) Try.func29 rfl rfl rfl rfl ?_
  intro Γ hio
  unfold spec_RatOk at H
  (repeat apply sq)
  apply rg
  apply Run.op; (apply L_box false; rfl; rfl; rfl; (exact io1 hio _); rfl); rfl; rfl
  apply R_asg; rfl; rfl; rfl
  apply dn
  apply x3
  (repeat apply sq)
  obtain ⟨d4, hd4, H⟩ := bindS H
  refine CodeT.lcut (x := d4) (fun d e E => XEnv Γ .normal ⟨[(1, ⟨.ptr 1 0, false⟩), (31, ⟨.sc (.bool d), false⟩)], [(1, some ⟨(encRat a0), false, false⟩)]⟩ e E) ?_ ?_
  clear H; have H := hd4; clear hd4
  apply rg
  apply R_fldP; rfl; rfl; rfl; rfl; rfl
  apply R_ldPA; rfl; rfl; (first | exact seg_whole rfl | rfl); rfl; rfl; rfl; rfl; rfl
  obtain ⟨r1, hr1, H⟩ := bindS H
  apply R_bool; (apply L_call; ((apply ArgsV.cons; (apply ArgV.val; rfl; rfl)); (apply ArgsV.nil)); (exact m_spec_BigIntOk a0.fNum _ hr1); rfl; rfl; rfl); rfl
  intro h; replace H := ifTb h H
  apply R_not; rfl; rfl; rfl
  apply R_mov; rfl; rfl; rfl
  apply R_fldP; rfl; rfl; rfl; rfl; rfl
  apply R_ldP; rfl; rfl; rfl; rfl; rfl; rfl
  obtain ⟨r2, hr2, H⟩ := bindS H
  apply R_bool; (apply L_call; ((apply ArgsV.cons; (apply ArgV.val; rfl; rfl)); (apply ArgsV.nil)); (exact m_spec_NatOk a0.fDen _ hr2); rfl; rfl; rfl); rfl
  intro h; replace H := ifTb h H
  apply R_not; rfl; rfl; rfl
  apply R_pickF; rfl; rfl; rfl; rfl
  apply R_mov; rfl; rfl; rfl
  apply R_fldP; rfl; rfl; rfl; rfl; rfl
  apply R_ldP; rfl; rfl; rfl; rfl; rfl; rfl
  apply R_len; rfl; rfl; rfl
  apply R_dec; (apply L_eql; rfl; rfl; rfl); rfl
  intro h; replace H := ifT h H
  apply R_pickF; rfl; rfl; rfl; rfl
  apply R_mov; rfl; rfl; rfl
  apply Run.skip; rfl
  apply Run.skip; rfl
  apply Run.skip; rfl
  apply Run.skip; rfl
  apply R_pickT; rfl; rfl; rfl; rfl
  apply R_mov; rfl; rfl; rfl
  apply Run.skip; rfl
  apply Run.skip; rfl
  apply Run.skip; rfl
  apply Run.skip; rfl
  apply Run.skip; rfl
  apply R_pickT; rfl; rfl; rfl; rfl
  apply dn
  obtain rfl := Option.some.inj H
  refine Ev.y4 ?_
  refine XEnv.mk ?_
  apply el [] (io0 hio _) <;> rfl
  intro h; replace H := ifF h H
  apply R_pickF; rfl; rfl; rfl; rfl
  apply R_mov; rfl; rfl; rfl
  apply R_fldP; rfl; rfl; rfl; rfl; rfl
  apply R_ldP; rfl; rfl; rfl; rfl; rfl; rfl
  apply R_len; rfl; rfl; rfl
  apply R_dec; (apply L_gtr; rfl; rfl; rfl); rfl
  intro h; replace H := ifT h H
  apply R_pickF; rfl; rfl; rfl; rfl
  apply R_mov; rfl; rfl; rfl
  apply Run.skip; rfl
  apply Run.skip; rfl
  apply Run.skip; rfl
  apply Run.skip; rfl
  apply Run.skip; rfl
  apply R_pickT; rfl; rfl; rfl; rfl
  apply dn
  obtain rfl := Option.some.inj H
  refine Ev.y4 ?_
  refine XEnv.mk ?_
  apply el [] (io0 hio _) <;> rfl
  intro h; replace H := ifF h H
  apply R_pickF; rfl; rfl; rfl; rfl
  apply R_mov; rfl; rfl; rfl
  apply R_fldP; rfl; rfl; rfl; rfl; rfl
  apply R_fldP; rfl; rfl; rfl; rfl; rfl
  apply R_ldP; rfl; rfl; rfl; rfl; rfl; rfl
  apply R_len; rfl; rfl; rfl
  apply R_gtr; rfl; rfl; rfl; rfl
  apply R_pickF; rfl; rfl; rfl; rfl
  apply dn
  obtain rfl := Option.some.inj H
  refine Ev.y4 ?_
  refine XEnv.mk ?_
  apply el [] (io0 hio _) <;> rfl
  intro h; replace H := ifFb h H
  apply R_not; rfl; rfl; rfl
  apply R_pickF; rfl; rfl; rfl; rfl
  apply R_mov; rfl; rfl; rfl
  apply Run.skip; rfl
  apply Run.skip; rfl
  apply Run.skip; rfl
  apply Run.skip; rfl
  apply R_pickT; rfl; rfl; rfl; rfl
  apply R_mov; rfl; rfl; rfl
  apply Run.skip; rfl
  apply Run.skip; rfl
  apply Run.skip; rfl
  apply Run.skip; rfl
  apply R_pickT; rfl; rfl; rfl; rfl
  apply R_mov; rfl; rfl; rfl
  apply Run.skip; rfl
  apply Run.skip; rfl
  apply Run.skip; rfl
  apply Run.skip; rfl
  apply Run.skip; rfl
  apply R_pickT; rfl; rfl; rfl; rfl
  apply dn
  obtain rfl := Option.some.inj H
  refine Ev.y4 ?_
  refine XEnv.mk ?_
  apply el [] (io0 hio _) <;> rfl
  intro h; replace H := ifFb h H
  apply R_not; rfl; rfl; rfl
  apply R_mov; rfl; rfl; rfl
  apply Run.skip; rfl
  apply Run.skip; rfl
  apply Run.skip; rfl
  apply Run.skip; rfl
  apply R_pickT; rfl; rfl; rfl; rfl
  apply R_mov; rfl; rfl; rfl
  apply Run.skip; rfl
  apply Run.skip; rfl
  apply Run.skip; rfl
  apply Run.skip; rfl
  apply R_pickT; rfl; rfl; rfl; rfl
  apply R_mov; rfl; rfl; rfl
  apply Run.skip; rfl
  apply Run.skip; rfl
  apply Run.skip; rfl
  apply Run.skip; rfl
  apply R_pickT; rfl; rfl; rfl; rfl
  apply R_mov; rfl; rfl; rfl
  apply Run.skip; rfl
  apply Run.skip; rfl
  apply Run.skip; rfl
  apply Run.skip; rfl
  apply Run.skip; rfl
  apply R_pickT; rfl; rfl; rfl; rfl
  apply dn
  obtain rfl := Option.some.inj H
  refine Ev.y4 ?_
  refine XEnv.mk ?_
  apply el [] (io0 hio _) <;> rfl
  intro e E' hX; obtain ⟨rfl, g5⟩ := XEnv.out hX
  apply x3
  refine CodeT.weak g5 ?_
  (repeat apply sq)
  refine CodeT.cond rfl (fun h => ?_) (fun h => ?_)
  replace H := ifTb h H
  (repeat apply sq)
  apply rg
  apply R_asg; rfl; rfl; rfl
  apply dn
  apply x3
  apply CodeT.ret
  apply x1
  cases H
  apply x12
  exact RetIs.sc1 rfl
  replace H := ifFb h H
  (repeat apply sq)
  apply CodeT.skip
  apply x3
  (repeat apply sq)
  apply rg
  apply R_fldP; rfl; rfl; rfl; rfl; rfl
  apply R_fldP; rfl; rfl; rfl; rfl; rfl
  apply R_ldP; rfl; rfl; rfl; rfl; rfl; rfl
  apply R_fldP; rfl; rfl; rfl; rfl; rfl
  apply R_ldP; rfl; rfl; rfl; rfl; rfl; rfl
  obtain ⟨r6, hr6, H⟩ := bindS H
  apply Run.op; (apply L_call; ((apply ArgsV.cons; (apply ArgV.val; rfl; rfl)); (apply ArgsV.cons; (apply ArgV.val; rfl; rfl)); (apply ArgsV.nil)); (exact m_spec_l02Gcd a0.fNum.fMag a0.fDen _ hr6); rfl; rfl; rfl); rfl; rfl
  obtain ⟨r7, hr7, H⟩ := bindS H
  apply Run.op; (apply L_call; ((apply ArgsV.cons; (apply ArgV.val; rfl; rfl)); (apply ArgsV.nil)); (exact m_spec_l04One r6 _ hr7); rfl; rfl; rfl); rfl; rfl
  apply R_asg; rfl; rfl; rfl
  apply dn
  apply x3
  apply CodeT.ret
  cases H
  apply x12
  exact RetIs.sc1 rfl
theorem m_spec_l02Add (a0 : (List Int)) (a1 : (List Int)) (r : (List Int)) (H : spec_l02Add a0 a1 = some r) : Meets Try.prog 74 [.sl a0.length (a0.flatMap (encI .i64)), .sl a1.length (a1.flatMap (encI .i64))] (.rw 1 r.length (r.flatMap (encI .i64))) true := by
  refine Meets.intro2 (N := 55) (rs := #[.tmp 4]) Try.func74 rfl rfl rfl rfl ?_
  intro Γ hio
  unfold spec_l02Add at H
  (repeat apply sq)
  apply rg
  apply R_asg; rfl; rfl; rfl
  apply dn
  apply x3
  (repeat apply sq)
  apply rg
  apply Run.op; (apply L_bs0; (exact io1 hio _); rfl); rfl; rfl
  apply R_asg; rfl; rfl; rfl
  apply dn
  apply x3
  (repeat apply sq)
  apply rg
  apply R_asg; rfl; rfl; rfl
  apply dn
  apply x3
  (repeat apply sq)
  apply rg
  apply R_asg; rfl; rfl; rfl
  apply dn
  apply x3
  (repeat apply sq)
  apply CodeT.block
  (repeat apply sq)
  obtain ⟨d33, hd33, H⟩ := bindS H
  refine CodeT.lloop (fun s => ⟨[(0, ⟨.sl a0.length (a0.flatMap (encI .i64)), false⟩), (1, ⟨.sl a1.length (a1.flatMap (encI .i64)), false⟩), (5, ⟨.ref 505 1 0 s.2.2.length, false⟩), (6, ⟨.sc (.int .i64 s.1), false⟩), (7, ⟨.sc (.int .i64 s.2.1), false⟩)], [(505, some ⟨s.2.2.flatMap (encI .i64), true, false⟩)]⟩) (fun d e E => XEnv Γ (.exit 0) ⟨[(5, ⟨.ref 505 1 0 d.length, false⟩)], [(505, some ⟨d.flatMap (encI .i64), true, false⟩)]⟩ e E) hd33 ?_ ?_ ?_
  apply el [(505, 9)] (io0 hio _) <;> rfl
  clear H hd33
  rintro ⟨v15, v16, v17⟩ o H
  unfold spec_l02Add_L1 at H
  (repeat apply sq)
  obtain ⟨d19, hd19, H⟩ := bindS H
  refine CodeT.lcut (x := d19) (fun d e E => XEnv Γ .normal ⟨[(0, ⟨.sl a0.length (a0.flatMap (encI .i64)), false⟩), (1, ⟨.sl a1.length (a1.flatMap (encI .i64)), false⟩), (5, ⟨.ref 505 1 0 v17.length, false⟩), (6, ⟨.sc (.int .i64 v15), false⟩), (7, ⟨.sc (.int .i64 v16), false⟩), (23, ⟨.sc (.bool d), false⟩)], [(505, some ⟨v17.flatMap (encI .i64), true, false⟩)]⟩ e E) ?_ ?_
  clear H; have H := hd19; clear hd19
  apply rg
  apply R_mov; rfl; rfl; rfl
  apply R_mov; rfl; rfl; rfl
  apply R_len; rfl; rfl; rfl
  apply R_dec; (apply L_lss; rfl; rfl; rfl); rfl
  intro h; replace H := ifT h H
  apply R_mov; rfl; rfl; rfl
  apply Run.skip; rfl
  apply Run.skip; rfl
  apply Run.skip; rfl
  apply Run.skip; rfl
  apply R_pickT; rfl; rfl; rfl; rfl
  apply R_mov; rfl; rfl; rfl
  apply Run.skip; rfl
  apply Run.skip; rfl
  apply R_pickT; rfl; rfl; rfl; rfl
  apply dn
  obtain rfl := Option.some.inj H
  refine Ev.y4 ?_
  refine XEnv.mk ?_
  apply el [] (io0 hio _) <;> rfl
  intro h; replace H := ifF h H
  apply R_mov; rfl; rfl; rfl
  apply R_mov; rfl; rfl; rfl
  apply R_mov; rfl; rfl; rfl
  apply R_len; rfl; rfl; rfl
  apply R_dec; (apply L_lss; rfl; rfl; rfl); rfl
  intro h; replace H := ifT h H
  apply R_pickF; rfl; rfl; rfl; rfl
  apply R_mov; rfl; rfl; rfl
  apply Run.skip; rfl
  apply Run.skip; rfl
  apply R_pickT; rfl; rfl; rfl; rfl
  apply dn
  obtain rfl := Option.some.inj H
  refine Ev.y4 ?_
  refine XEnv.mk ?_
  apply el [] (io0 hio _) <;> rfl
  intro h; replace H := ifF h H
  apply R_pickF; rfl; rfl; rfl; rfl
  apply R_mov; rfl; rfl; rfl
  apply R_mov; rfl; rfl; rfl
  apply R_gtr; rfl; rfl; rfl; rfl
  apply R_pickF; rfl; rfl; rfl; rfl
  apply dn
  obtain rfl := Option.some.inj H
  refine Ev.y4 ?_
  refine XEnv.mk ?_
  apply el [] (io0 hio _) <;> rfl
  intro e E' hX; obtain ⟨rfl, g20⟩ := XEnv.out hX
  apply x3
  refine CodeT.weak g20 ?_
  (repeat apply sq)
  refine CodeT.cond rfl (fun h => ?_) (fun h => ?_)
  replace H := ifTb h H
  (repeat apply sq)
  apply CodeT.skip
  apply x3
  (repeat apply sq)
  apply CodeT.block
  (repeat apply sq)
  apply rg
  apply R_mov; rfl; rfl; rfl
  apply R_asg; rfl; rfl; rfl
  apply dn
  apply x3
  (repeat apply sq)
  apply rg
  apply R_mov; rfl; rfl; rfl
  apply R_mov; rfl; rfl; rfl
  apply R_len; rfl; rfl; rfl
  apply R_lss; rfl; rfl; rfl; rfl
  apply dn
  apply x3
  (repeat apply sq)
  obtain ⟨d23, hd23, H⟩ := bindS H
  refine CodeT.lcut (x := d23) (fun d e E => XEnv Γ .normal ⟨[(0, ⟨.sl a0.length (a0.flatMap (encI .i64)), false⟩), (1, ⟨.sl a1.length (a1.flatMap (encI .i64)), false⟩), (5, ⟨.ref 505 1 0 v17.length, false⟩), (7, ⟨.sc (.int .i64 v16), false⟩), (8, ⟨.sc (.int .i64 d), false⟩)], [(505, some ⟨v17.flatMap (encI .i64), true, false⟩)]⟩ e E) ?_ ?_
  clear H; have H := hd23; clear hd23
  refine CodeT.cond rfl (fun h => ?_) (fun h => ?_)
  replace H := ifT (of_decide_eq_true h) H
  (repeat apply sq)
  apply rg
  apply R_mov; rfl; rfl; rfl
  apply R_mov; rfl; rfl; rfl
  apply R_mov; rfl; rfl; rfl
  obtain ⟨y21, hy21, H⟩ := bindS H
  apply Run.op; (apply L_ixS2; rfl; rfl; rfl; (exact hy21); (intro _; rfl); rfl); rfl; rfl
  apply R_ldI; rfl; rfl; rfl; rfl; rfl
  apply R_add; rfl; rfl; rfl; rfl; rfl
  apply R_asg; rfl; rfl; rfl
  apply dn
  obtain rfl := Option.some.inj H
  refine Ev.y4 ?_
  refine XEnv.mk ?_
  apply el [] (io0 hio _) <;> rfl
  replace H := ifF (of_decide_eq_false h) H
  (repeat apply sq)
  apply CodeT.skip
  obtain rfl := Option.some.inj H
  refine Ev.y4 ?_
  refine XEnv.mk ?_
  apply el [] (io0 hio _) <;> rfl
  intro e E' hX; obtain ⟨rfl, g24⟩ := XEnv.out hX
  apply x3
  refine CodeT.weak g24 ?_
  (repeat apply sq)
  apply rg
  apply R_mov; rfl; rfl; rfl
  apply R_mov; rfl; rfl; rfl
  apply R_len; rfl; rfl; rfl
  apply R_lss; rfl; rfl; rfl; rfl
  apply dn
  apply x3
  (repeat apply sq)
  obtain ⟨d27, hd27, H⟩ := bindS H
  refine CodeT.lcut (x := d27) (fun d e E => XEnv Γ .normal ⟨[(0, ⟨.sl a0.length (a0.flatMap (encI .i64)), false⟩), (1, ⟨.sl a1.length (a1.flatMap (encI .i64)), false⟩), (5, ⟨.ref 505 1 0 v17.length, false⟩), (7, ⟨.sc (.int .i64 v16), false⟩), (8, ⟨.sc (.int .i64 d), false⟩)], [(505, some ⟨v17.flatMap (encI .i64), true, false⟩)]⟩ e E) ?_ ?_
  clear H; have H := hd27; clear hd27
  refine CodeT.cond rfl (fun h => ?_) (fun h => ?_)
  replace H := ifT (of_decide_eq_true h) H
  (repeat apply sq)
  apply rg
  apply R_mov; rfl; rfl; rfl
  apply R_mov; rfl; rfl; rfl
  apply R_mov; rfl; rfl; rfl
  obtain ⟨y25, hy25, H⟩ := bindS H
  apply Run.op; (apply L_ixS2; rfl; rfl; rfl; (exact hy25); (intro _; rfl); rfl); rfl; rfl
  apply R_ldI; rfl; rfl; rfl; rfl; rfl
  apply R_add; rfl; rfl; rfl; rfl; rfl
  apply R_asg; rfl; rfl; rfl
  apply dn
  obtain rfl := Option.some.inj H
  refine Ev.y4 ?_
  refine XEnv.mk ?_
  apply el [] (io0 hio _) <;> rfl
  replace H := ifF (of_decide_eq_false h) H
  (repeat apply sq)
  apply CodeT.skip
  obtain rfl := Option.some.inj H
  refine Ev.y4 ?_
  refine XEnv.mk ?_
  apply el [] (io0 hio _) <;> rfl
  intro e E' hX; obtain ⟨rfl, g28⟩ := XEnv.out hX
  apply x3
  refine CodeT.weak g28 ?_
  (repeat apply sq)
  apply rg
  apply R_mov; rfl; rfl; rfl
  apply R_mov; rfl; rfl; rfl
  apply Run.op; (apply L_rem; rfl; rfl; (intro h; cases h); rfl; rfl); rfl; rfl
  apply Run.op; (apply L_bs1; rfl; rfl; rfl; rfl; rfl; rfl; rfl; rfl); rfl; rfl
  obtain ⟨_u, ha29, H⟩ := bindS H
  obtain ⟨v30, hv30, H⟩ := bindS H
  apply Run.op; (apply L_app true; rfl; rfl; rfl; (exact flat_len (l := v17) (enc := (encI .i64)) (fun _ => rfl)); rfl; (exact chkS ha29); (exact app63 (by decide) (chkS ha29)); (exact ⟨io1 hio _, io1 hio _⟩); (intro _; rfl); (exact flat_snocL (l := v17) (y := d27.tmod 1000000000) (enc := (encI .i64)) hv30); rfl); rfl; rfl
  apply R_asg; rfl; rfl; rfl
  apply dn
  apply x3
  apply rg
  apply R_mov; rfl; rfl; rfl
  obtain ⟨v31, hv31, H⟩ := bindS H
  apply Run.op; (apply L_quo; rfl; rfl; (intro h; cases h); (exact letS hv31); rfl); rfl; rfl
  apply R_asg; rfl; rfl; rfl
  apply dn
  apply x5
  apply x3
  apply rg
  apply R_mov; rfl; rfl; rfl
  apply R_add; rfl; rfl; rfl; rfl; rfl
  apply R_asg; rfl; rfl; rfl
  apply dn
  obtain rfl := Option.some.inj H
  refine Ev.y1 ?_
  apply el [(505, 51)] (io0 hio _) <;> rfl
  replace H := ifFb h H
  (repeat apply sq)
  apply CodeT.exit
  apply x2
  obtain rfl := Option.some.inj H
  refine Ev.y3 ?_
  refine XEnv.mk ?_
  apply el [] (io0 hio _) <;> rfl
  skip
  intro e E' hX; obtain ⟨rfl, g34⟩ := XEnv.out hX
  refine x6 rfl ?_
  apply x3
  refine CodeT.weak g34 ?_
  (repeat apply sq)
  apply rg
  apply R_mov; rfl; rfl; rfl
  apply R_asg; rfl; rfl; rfl
  apply dn
  apply x3
  apply CodeT.ret
  cases H
  apply x12
  exact RetIs.rW rfl rfl rfl (io1 hio _)
theorem m_spec_l03Add (a0 : BigInt) (a1 : BigInt) (r : BigInt) (H : spec_l03Add a0 a1 = some r) : Meets Try.prog 47 [.agg (encBigInt a0), .agg (encBigInt a1)] (.agg (encWBigInt r)) true := by
  refine Meets.intro2 (N := 40) (rs := #[.cell 4 28]) Try.func47 rfl rfl rfl rfl ?_
  intro Γ hio
  unfold spec_l03Add at H
  (repeat apply sq)
  apply rg
  apply Run.op; (apply L_box false; rfl; rfl; rfl; (exact io1 hio _); rfl); rfl; rfl
  apply Run.op; (apply L_box false; rfl; rfl; rfl; (exact io1 hio _); rfl); rfl; rfl
  apply Run.op; (apply L_alloc false; (exact io1 hio _); rfl); rfl; rfl
  apply dn
  apply x3
  (repeat apply sq)
  apply rg
  apply R_fldP; rfl; rfl; rfl; rfl; rfl
  apply R_ldP; rfl; rfl; rfl; rfl; rfl; rfl
  apply R_fldP; rfl; rfl; rfl; rfl; rfl
  apply R_ldP; rfl; rfl; rfl; rfl; rfl; rfl
  apply Run.op; (apply L_beql; rfl; rfl; rfl); rfl; rfl
  apply dn
  apply x3
  (repeat apply sq)
  refine CodeT.cond rfl (fun h => ?_) (fun h => ?_)
  replace H := ifTb h H
  (repeat apply sq)
  apply rg
  apply R_fldP; rfl; rfl; rfl; rfl; rfl
  apply R_ldP; rfl; rfl; rfl; rfl; rfl; rfl
  apply R_fldP; rfl; rfl; rfl; rfl; rfl
  apply R_ldP; rfl; rfl; rfl; rfl; rfl; rfl
  apply R_fldP; rfl; rfl; rfl; rfl; rfl
  apply R_ldP; rfl; rfl; rfl; rfl; rfl; rfl
  obtain ⟨r1, hr1, H⟩ := bindS H
  apply Run.op; (apply L_callW; ((apply ArgsV.cons; (apply ArgV.val; rfl; rfl)); (apply ArgsV.cons; (apply ArgV.val; rfl; rfl)); (apply ArgsV.nil)); (exact m_spec_l02Add a0.fMag a1.fMag _ hr1); (exact io1 hio _); rfl); rfl; rfl
  obtain ⟨r2, hr2, H⟩ := bindS H
  apply Run.op; (apply L_call; ((apply ArgsV.cons; (apply ArgV.val; rfl; rfl)); (apply ArgsV.cons; (apply ArgV.ref; rfl; rfl; (first | exact Nat.le_of_eq (flat_len (fun _ => rfl)) | exact Nat.le_of_ble_eq_true rfl))); (apply ArgsV.nil)); (exact m_spec_l03Make a0.fNeg r1 _ hr2); rfl; rfl; rfl); rfl; rfl
  apply Run.op; (apply L_stT (cells' := (encWBigInt r2)); rfl; rfl; rfl; rfl; rfl; rfl; (intro h; cases h); rfl; (first | exact splice_whole rfl | rfl)); rfl; rfl
  apply Run.done; refine ⟨fun _ => ⟨rfl, rfl⟩, ?_⟩
  apply x3
  apply CodeT.ret
  apply x1
  cases H
  apply x12
  exact RetIs.c1 rfl rfl rfl rfl (by intro h; cases h)
  replace H := ifFb h H
  (repeat apply sq)
  apply CodeT.skip
  apply x3
  (repeat apply sq)
  apply rg
  apply R_fldP; rfl; rfl; rfl; rfl; rfl
  apply R_ldP; rfl; rfl; rfl; rfl; rfl; rfl
  apply R_fldP; rfl; rfl; rfl; rfl; rfl
  apply R_ldP; rfl; rfl; rfl; rfl; rfl; rfl
  obtain ⟨r3, hr3, H⟩ := bindS H
  apply Run.op; (apply L_call; ((apply ArgsV.cons; (apply ArgV.val; rfl; rfl)); (apply ArgsV.cons; (apply ArgV.val; rfl; rfl)); (apply ArgsV.nil)); (exact m_spec_l02Cmp a0.fMag a1.fMag _ hr3); rfl; rfl; rfl); rfl; rfl
  apply Run.op; (apply L_geq; rfl; rfl; rfl); rfl; rfl
  apply dn
  apply x3
  (repeat apply sq)
  refine CodeT.cond rfl (fun h => ?_) (fun h => ?_)
  replace H := ifT (of_decide_eq_true h) H
  (repeat apply sq)
  apply rg
  apply R_fldP; rfl; rfl; rfl; rfl; rfl
  apply R_ldP; rfl; rfl; rfl; rfl; rfl; rfl
  apply R_fldP; rfl; rfl; rfl; rfl; rfl
  apply R_ldP; rfl; rfl; rfl; rfl; rfl; rfl
  apply R_fldP; rfl; rfl; rfl; rfl; rfl
  apply R_ldP; rfl; rfl; rfl; rfl; rfl; rfl
  obtain ⟨r4, hr4, H⟩ := bindS H
  apply Run.op; (apply L_callW; ((apply ArgsV.cons; (apply ArgV.val; rfl; rfl)); (apply ArgsV.cons; (apply ArgV.val; rfl; rfl)); (apply ArgsV.nil)); (exact m_spec_l02Sub a0.fMag a1.fMag _ hr4); (exact io1 hio _); rfl); rfl; rfl
  obtain ⟨r5, hr5, H⟩ := bindS H
  apply Run.op; (apply L_call; ((apply ArgsV.cons; (apply ArgV.val; rfl; rfl)); (apply ArgsV.cons; (apply ArgV.ref; rfl; rfl; (first | exact Nat.le_of_eq (flat_len (fun _ => rfl)) | exact Nat.le_of_ble_eq_true rfl))); (apply ArgsV.nil)); (exact m_spec_l03Make a0.fNeg r4 _ hr5); rfl; rfl; rfl); rfl; rfl
  apply Run.op; (apply L_stT (cells' := (encWBigInt r5)); rfl; rfl; rfl; rfl; rfl; rfl; (intro h; cases h); rfl; (first | exact splice_whole rfl | rfl)); rfl; rfl
  apply Run.done; refine ⟨fun _ => ⟨rfl, rfl⟩, ?_⟩
  apply x3
  apply CodeT.ret
  apply x1
  cases H
  apply x12
  exact RetIs.c1 rfl rfl rfl rfl (by intro h; cases h)
  replace H := ifF (of_decide_eq_false h) H
  (repeat apply sq)
  apply CodeT.skip
  apply x3
  (repeat apply sq)
  apply rg
  apply R_fldP; rfl; rfl; rfl; rfl; rfl
  apply R_ldP; rfl; rfl; rfl; rfl; rfl; rfl
  apply R_fldP; rfl; rfl; rfl; rfl; rfl
  apply R_ldP; rfl; rfl; rfl; rfl; rfl; rfl
  apply R_fldP; rfl; rfl; rfl; rfl; rfl
  apply R_ldP; rfl; rfl; rfl; rfl; rfl; rfl
  obtain ⟨r6, hr6, H⟩ := bindS H
  apply Run.op; (apply L_callW; ((apply ArgsV.cons; (apply ArgV.val; rfl; rfl)); (apply ArgsV.cons; (apply ArgV.val; rfl; rfl)); (apply ArgsV.nil)); (exact m_spec_l02Sub a1.fMag a0.fMag _ hr6); (exact io1 hio _); rfl); rfl; rfl
  obtain ⟨r7, hr7, H⟩ := bindS H
  apply Run.op; (apply L_call; ((apply ArgsV.cons; (apply ArgV.val; rfl; rfl)); (apply ArgsV.cons; (apply ArgV.ref; rfl; rfl; (first | exact Nat.le_of_eq (flat_len (fun _ => rfl)) | exact Nat.le_of_ble_eq_true rfl))); (apply ArgsV.nil)); (exact m_spec_l03Make a1.fNeg r6 _ hr7); rfl; rfl; rfl); rfl; rfl
  apply Run.op; (apply L_stT (cells' := (encWBigInt r7)); rfl; rfl; rfl; rfl; rfl; rfl; (intro h; cases h); rfl; (first | exact splice_whole rfl | rfl)); rfl; rfl
  apply Run.done; refine ⟨fun _ => ⟨rfl, rfl⟩, ?_⟩
  apply x3
  apply CodeT.ret
  cases H
  apply x12
  exact RetIs.c1 rfl rfl rfl rfl (by intro h; cases h)
theorem m_spec_l04Low (a0 : Bool) (a1 : (List Int)) (a2 : (List Int)) (r : Rat) (H : spec_l04Low a0 a1 a2 = some r) : Meets Try.prog 48 [.sc (.bool a0), .sl a1.length (a1.flatMap (encI .i64)), .sl a2.length (a2.flatMap (encI .i64))] (.agg (encWRat r)) true := by
  refine Meets.intro2 (N := 55) (rs := #[.cell 6 30]) Try.func48 rfl rfl rfl rfl ?_
  intro Γ hio
  unfold spec_l04Low at H
  (repeat apply sq)
  apply rg
  apply Run.op; (apply L_alloc false; (exact io1 hio _); rfl); rfl; rfl
  apply dn
  apply x3
  (repeat apply sq)
  apply rg
  apply R_mov; rfl; rfl; rfl
  obtain ⟨r1, hr1, H⟩ := bindS H
  apply Run.op; (apply L_call; ((apply ArgsV.cons; (apply ArgV.val; rfl; rfl)); (apply ArgsV.nil)); (exact m_spec_l02Trim a1 _ hr1); rfl; rfl; rfl); rfl; rfl
  apply R_asg; rfl; rfl; rfl
  apply dn
  apply x3
  (repeat apply sq)
  apply rg
  apply R_mov; rfl; rfl; rfl
  obtain ⟨r2, hr2, H⟩ := bindS H
  apply Run.op; (apply L_call; ((apply ArgsV.cons; (apply ArgV.val; rfl; rfl)); (apply ArgsV.nil)); (exact m_spec_l02Trim a2 _ hr2); rfl; rfl; rfl); rfl; rfl
  apply R_asg; rfl; rfl; rfl
  apply dn
  apply x3
  (repeat apply sq)
  apply rg
  apply R_mov; rfl; rfl; rfl
  apply R_len; rfl; rfl; rfl
  apply R_eql; rfl; rfl; rfl; rfl
  apply dn
  apply x3
  (repeat apply sq)
  refine CodeT.cond rfl (fun h => ?_) (fun h => ?_)
  replace H := ifT (of_decide_eq_true h) H
  (repeat apply sq)
  apply rg
  apply Run.op; (apply L_buildC true; (apply BuildV.nil); rfl; rfl); rfl; rfl
  apply Run.op; (apply L_st (cells' := [.sc (.bool false), .sc (.slice none 0 0), .sc (.slice none 0 0)]); rfl; rfl; rfl; rfl; rfl; (intro h; cases h); rfl; (first | exact splice_whole rfl | rfl)); rfl; rfl
  apply dn
  apply x3
  apply CodeT.ret
  apply x1
  cases H
  apply x12
  refine RetIs.weak (Ent.soften (l := 6) (cells' := encWRat (Rat.mk (BigInt.mk false ([])) ([]))) rfl (SoftL.cons (Soft.refl _) (SoftL.cons Soft.nilW (SoftL.cons Soft.nilW SoftL.nil)))) ?_
  exact RetIs.c1 rfl rfl rfl rfl (by intro h; cases h)
  replace H := ifF (of_decide_eq_false h) H
  (repeat apply sq)
  apply CodeT.skip
  apply x3
  (repeat apply sq)
  apply rg
  apply R_mov; rfl; rfl; rfl
  obtain ⟨r3, hr3, H⟩ := bindS H
  apply Run.op; (apply L_call; ((apply ArgsV.cons; (apply ArgV.val; rfl; rfl)); (apply ArgsV.nil)); (exact m_spec_l04One r2 _ hr3); rfl; rfl; rfl); rfl; rfl
  apply R_not; rfl; rfl; rfl
  apply dn
  apply x3
  (repeat apply sq)
  obtain ⟨d9, hd9, H⟩ := bindS H
  refine CodeT.lcut (x := d9) (fun d e E => XEnv Γ .normal ⟨[(0, ⟨.sc (.bool a0), false⟩), (6, ⟨.ptr 6 0, false⟩), (7, ⟨.sl d.1.length (d.1.flatMap (encI .i64)), false⟩), (8, ⟨.sl d.2.length (d.2.flatMap (encI .i64)), false⟩)], [(6, some ⟨[.sc (.bool false), .sc (.slice none 0 0), .sc (.slice none 0 0)], true, false⟩)]⟩ e E) ?_ ?_
  clear H; have H := hd9; clear hd9
  refine CodeT.cond rfl (fun h => ?_) (fun h => ?_)
  replace H := ifFb (notT h) H
  (repeat apply sq)
  apply rg
  apply R_mov; rfl; rfl; rfl
  apply R_mov; rfl; rfl; rfl
  obtain ⟨r4, hr4, H⟩ := bindS H
  apply Run.op; (apply L_call; ((apply ArgsV.cons; (apply ArgV.val; rfl; rfl)); (apply ArgsV.cons; (apply ArgV.val; rfl; rfl)); (apply ArgsV.nil)); (exact m_spec_l02Gcd r1 r2 _ hr4); rfl; rfl; rfl); rfl; rfl
  apply R_asgT; rfl; rfl; rfl; rfl
  apply dn
  apply x3
  (repeat apply sq)
  apply rg
  apply R_mov; rfl; rfl; rfl
  obtain ⟨r5, hr5, H⟩ := bindS H
  apply Run.op; (apply L_call; ((apply ArgsV.cons; (apply ArgV.val; rfl; rfl)); (apply ArgsV.nil)); (exact m_spec_l04One r4 _ hr5); rfl; rfl; rfl); rfl; rfl
  apply R_not; rfl; rfl; rfl
  apply dn
  apply x3
  refine CodeT.cond rfl (fun h => ?_) (fun h => ?_)
  replace H := ifFb (notT h) H
  (repeat apply sq)
  apply rg
  apply R_mov; rfl; rfl; rfl
  apply R_mov; rfl; rfl; rfl
  obtain ⟨r6, hr6, H⟩ := bindS H
  apply Run.op; (apply L_call; ((apply ArgsV.cons; (apply ArgV.val; rfl; rfl)); (apply ArgsV.cons; (apply ArgV.val; rfl; rfl)); (apply ArgsV.nil)); (exact m_spec_l02Div r1 r4 _ hr6); rfl; rfl; rfl); rfl; rfl
  apply R_movT; rfl; rfl; rfl; rfl
  apply Run.op; (apply L_extT; rfl; rfl; rfl; rfl; rfl); rfl; rfl
  apply Run.op; (apply L_extT; rfl; rfl; rfl; rfl; rfl); rfl; rfl
  apply Run.op; (apply Local.softC (Soft.rw (SoftL.refl _)); apply L_asgT; rfl; rfl; rfl); rfl; rfl
  apply dn
  apply x3
  apply rg
  apply R_mov; rfl; rfl; rfl
  apply R_movT; rfl; rfl; rfl; rfl
  obtain ⟨r7, hr7, H⟩ := bindS H
  apply Run.op; (apply L_call; ((apply ArgsV.cons; (apply ArgV.val; rfl; rfl)); (apply ArgsV.cons; (apply ArgV.val; rfl; rfl)); (apply ArgsV.nil)); (exact m_spec_l02Div r2 r4 _ hr7); rfl; rfl; rfl); rfl; rfl
  apply R_movT; rfl; rfl; rfl; rfl
  apply Run.op; (apply L_extT; rfl; rfl; rfl; rfl; rfl); rfl; rfl
  apply Run.op; (apply L_extT; rfl; rfl; rfl; rfl; rfl); rfl; rfl
  apply Run.op; (apply Local.softC (Soft.rw (SoftL.refl _)); apply L_asgT; rfl; rfl; rfl); rfl; rfl
  apply dn
  obtain rfl := Option.some.inj H
  refine Ev.y4 ?_
  refine XEnv.mk ?_
  apply el [] (io0 hio _) <;> rfl
  replace H := ifTb (notF h) H
  (repeat apply sq)
  apply CodeT.skip
  obtain rfl := Option.some.inj H
  refine Ev.y4 ?_
  refine XEnv.mk ?_
  apply el [] (io0 hio _) <;> rfl
  replace H := ifTb (notF h) H
  (repeat apply sq)
  apply CodeT.skip
  obtain rfl := Option.some.inj H
  refine Ev.y4 ?_
  refine XEnv.mk ?_
  apply el [] (io0 hio _) <;> rfl
  intro e E' hX; obtain ⟨rfl, g10⟩ := XEnv.out hX
  apply x3
  refine CodeT.weak g10 ?_
  (repeat apply sq)
  obtain ⟨d12, hd12, H⟩ := bindS H
  refine CodeT.lcut (x := d12) (fun d e E => XEnv Γ .normal ⟨[(0, ⟨.sc (.bool a0), false⟩), (6, ⟨.ptr 6 0, false⟩), (7, ⟨.sl d9.1.length (d9.1.flatMap (encI .i64)), false⟩), (8, ⟨.sl d9.2.length (d9.2.flatMap (encI .i64)), false⟩), (46, ⟨.sc (.bool d), false⟩)], [(6, some ⟨[.sc (.bool false), .sc (.slice none 0 0), .sc (.slice none 0 0)], true, false⟩)]⟩ e E) ?_ ?_
  clear H; have H := hd12; clear hd12
  apply rg
  apply R_mov; rfl; rfl; rfl
  apply R_len; rfl; rfl; rfl
  apply R_dec; (apply L_gtr; rfl; rfl; rfl); rfl
  intro h; replace H := ifT h H
  apply R_mov; rfl; rfl; rfl
  apply Run.skip; rfl
  apply Run.skip; rfl
  apply Run.skip; rfl
  apply R_pickT; rfl; rfl; rfl; rfl
  apply dn
  obtain rfl := Option.some.inj H
  refine Ev.y4 ?_
  refine XEnv.mk ?_
  apply el [] (io0 hio _) <;> rfl
  intro h; replace H := ifF h H
  apply R_mov; rfl; rfl; rfl
  apply R_mov; rfl; rfl; rfl
  apply R_len; rfl; rfl; rfl
  apply R_gtr; rfl; rfl; rfl; rfl
  apply R_pickF; rfl; rfl; rfl; rfl
  apply dn
  obtain rfl := Option.some.inj H
  refine Ev.y4 ?_
  refine XEnv.mk ?_
  apply el [] (io0 hio _) <;> rfl
  intro e E' hX; obtain ⟨rfl, g13⟩ := XEnv.out hX
  apply x3
  refine CodeT.weak g13 ?_
  (repeat apply sq)
  refine CodeT.cond rfl (fun h => ?_) (fun h => ?_)
  replace H := ifTb h H
  (repeat apply sq)
  apply rg
  apply Run.op; (apply L_buildC true; (apply BuildV.nil); rfl; rfl); rfl; rfl
  apply Run.op; (apply L_st (cells' := [.sc (.bool false), .sc (.slice none 0 0), .sc (.slice none 0 0)]); rfl; rfl; rfl; rfl; rfl; (intro h; cases h); rfl; (first | exact splice_whole rfl | rfl)); rfl; rfl
  apply dn
  apply x3
  apply CodeT.ret
  apply x1
  cases H
  apply x12
  refine RetIs.weak (Ent.soften (l := 6) (cells' := encWRat (Rat.mk (BigInt.mk false ([])) ([]))) rfl (SoftL.cons (Soft.refl _) (SoftL.cons Soft.nilW (SoftL.cons Soft.nilW SoftL.nil)))) ?_
  exact RetIs.c1 rfl rfl rfl rfl (by intro h; cases h)
  replace H := ifFb h H
  (repeat apply sq)
  apply CodeT.skip
  apply x3
  (repeat apply sq)
  apply rg
  apply R_mov; rfl; rfl; rfl
  apply R_mov; rfl; rfl; rfl
  obtain ⟨r14, hr14, H⟩ := bindS H
  apply Run.op; (apply L_call; ((apply ArgsV.cons; (apply ArgV.val; rfl; rfl)); (apply ArgsV.cons; (apply ArgV.val; rfl; rfl)); (apply ArgsV.nil)); (exact m_spec_l03Make a0 d9.1 _ hr14); rfl; rfl; rfl); rfl; rfl
  apply Run.op; (apply L_bs0; (exact io1 hio _); rfl); rfl; rfl
  apply R_mov; rfl; rfl; rfl
  obtain ⟨_u, ha15, H⟩ := bindS H
  obtain ⟨v16, hv16, H⟩ := bindS H
  apply Run.op; (apply Local.frz 53; apply L_app true; rfl; rfl; rfl; (exact flat_len (l := ([] : List Int)) (enc := (encI .i64)) (fun _ => rfl)); (exact flat_len (l := d9.2) (enc := (encI .i64)) (fun _ => rfl)); (exact chkS ha15); (exact app63 (by decide) (chkS ha15)); (exact ⟨io1 hio _, io1 hio _⟩); (intro _; exact allSc_flat (l := d9.2) (enc := (encI .i64)) (fun _ => rfl)); (exact flat_catL (l := ([] : List Int)) (r := d9.2) (enc := (encI .i64)) hv16); rfl; rfl; rfl; (exact io1 hio _); rfl); rfl; rfl
  apply Run.op; (apply L_buildC true; (apply BuildV.tk (ks := [53]); rfl; rfl; rfl; rfl; rfl; rfl; rfl; apply BuildV.tk (ks := []); rfl; rfl; rfl; rfl; rfl; rfl; rfl; apply BuildV.nil); rfl; rfl); rfl; rfl
  apply Run.op; (apply L_stT (cells' := [.sc (.bool r14.fNeg), .rw 1 r14.fMag.length (r14.fMag.flatMap (encI .i64)), .rw 1 v16.length (v16.flatMap (encI .i64))]); rfl; rfl; rfl; rfl; rfl; rfl; (intro h; cases h); rfl; (first | exact splice_whole rfl | rfl)); rfl; rfl
  apply dn
  apply x3
  apply CodeT.ret
  cases H
  apply x12
  exact RetIs.c1 rfl rfl rfl rfl (by intro h; cases h)
theorem m_spec_l04Add (a0 : Rat) (a1 : Rat) (r : Rat) (H : spec_l04Add a0 a1 = some r) : Meets Try.prog 30 [.agg (encRat a0), .agg (encRat a1)] (.agg (encWRat r)) true := by
  refine Meets.intro2 (N := 61) (rs := #[.cell 4 30]) Try.func30 rfl rfl rfl rfl ?_
  intro Γ hio
  unfold spec_l04Add at H
  (repeat apply sq)
  apply rg
  apply Run.op; (apply L_box false; rfl; rfl; rfl; (exact io1 hio _); rfl); rfl; rfl
  apply Run.op; (apply L_box false; rfl; rfl; rfl; (exact io1 hio _); rfl); rfl; rfl
  apply Run.op; (apply L_alloc false; (exact io1 hio _); rfl); rfl; rfl
  apply dn
  apply x3
  (repeat apply sq)
  obtain ⟨d4, hd4, H⟩ := bindS H
  refine CodeT.lcut (x := d4) (fun d e E => XEnv Γ .normal ⟨[(2, ⟨.ptr 2 0, false⟩), (3, ⟨.ptr 3 0, false⟩), (4, ⟨.ptr 4 0, false⟩), (16, ⟨.sc (.bool d), false⟩)], [(2, some ⟨(encRat a0), false, false⟩), (3, some ⟨(encRat a1), false, false⟩), (4, some ⟨[.sc (.bool false), .sc (.slice none 0 0), .sc (.slice none 0 0)], true, false⟩)]⟩ e E) ?_ ?_
  clear H; have H := hd4; clear hd4
  apply rg
  apply R_fldP; rfl; rfl; rfl; rfl; rfl
  apply R_ldP; rfl; rfl; rfl; rfl; rfl; rfl
  obtain ⟨r1, hr1, H⟩ := bindS H
  apply R_bool; (apply L_call; ((apply ArgsV.cons; (apply ArgV.val; rfl; rfl)); (apply ArgsV.nil)); (exact m_spec_l04One a0.fDen _ hr1); rfl; rfl; rfl); rfl
  intro h; replace H := ifTb h H
  apply R_mov; rfl; rfl; rfl
  apply R_fldP; rfl; rfl; rfl; rfl; rfl
  apply R_ldP; rfl; rfl; rfl; rfl; rfl; rfl
  obtain ⟨r2, hr2, H⟩ := bindS H
  apply Run.op; (apply L_call; ((apply ArgsV.cons; (apply ArgV.val; rfl; rfl)); (apply ArgsV.nil)); (exact m_spec_l04One a1.fDen _ hr2); rfl; rfl; rfl); rfl; rfl
  apply R_pickT; rfl; rfl; rfl; rfl
  apply dn
  obtain rfl := Option.some.inj H
  refine Ev.y4 ?_
  refine XEnv.mk ?_
  apply el [] (io0 hio _) <;> rfl
  intro h; replace H := ifFb h H
  apply R_mov; rfl; rfl; rfl
  apply Run.skip; rfl
  apply Run.skip; rfl
  apply Run.skip; rfl
  apply R_pickF; rfl; rfl; rfl; rfl
  apply dn
  obtain rfl := Option.some.inj H
  refine Ev.y4 ?_
  refine XEnv.mk ?_
  apply el [] (io0 hio _) <;> rfl
  intro e E' hX; obtain ⟨rfl, g5⟩ := XEnv.out hX
  apply x3
  refine CodeT.weak g5 ?_
  (repeat apply sq)
  refine CodeT.cond rfl (fun h => ?_) (fun h => ?_)
  replace H := ifTb h H
  (repeat apply sq)
  apply rg
  apply R_fldP; rfl; rfl; rfl; rfl; rfl
  apply R_ldPA; rfl; rfl; (first | exact seg_whole rfl | rfl); rfl; rfl; rfl; rfl; rfl
  apply R_fldP; rfl; rfl; rfl; rfl; rfl
  apply R_ldPA; rfl; rfl; (first | exact seg_whole rfl | rfl); rfl; rfl; rfl; rfl; rfl
  obtain ⟨r6, hr6, H⟩ := bindS H
  apply Run.op; (apply L_call; ((apply ArgsV.cons; (apply ArgV.val; rfl; rfl)); (apply ArgsV.cons; (apply ArgV.val; rfl; rfl)); (apply ArgsV.nil)); (exact m_spec_l03Add a0.fNum a1.fNum _ hr6); rfl; rfl; rfl); rfl; rfl
  apply Run.op; (apply L_alloc false; (exact io1 hio _); rfl); rfl; rfl
  apply Run.op; (apply L_stT (cells' := (encWBigInt r6)); rfl; rfl; rfl; rfl; rfl; rfl; (intro h; cases h); rfl; (first | exact splice_whole rfl | rfl)); rfl; rfl
  apply dn
  apply x3
  (repeat apply sq)
  apply rg
  apply R_fldP; rfl; rfl; rfl; rfl; rfl
  apply R_ldP; rfl; rfl; rfl; rfl; rfl; rfl
  apply R_fldP; rfl; rfl; rfl; rfl; rfl
  apply Run.op; (apply Local.soft (Soft.rw (SoftL.refl _)); apply L_ldP; rfl; rfl; rfl; (first | exact .inl rfl | exact .inr rfl); rfl); rfl; rfl
  apply Run.op; (apply L_bsR; rfl; rfl; rfl; rfl; (exact io1 hio _); rfl); rfl; rfl
  obtain ⟨r7, hr7, H⟩ := bindS H
  apply Run.op; (apply L_call; ((apply ArgsV.cons; (apply ArgV.val; rfl; rfl)); (apply ArgsV.cons; (apply ArgV.val; rfl; rfl)); (apply ArgsV.cons; (apply ArgV.ref; rfl; rfl; (first | exact Nat.le_of_eq (flat_len (fun _ => rfl)) | exact Nat.le_of_ble_eq_true rfl))); (apply ArgsV.nil)); (exact m_spec_l04Low r6.fNeg r6.fMag ([1]) _ hr7); rfl; rfl; rfl); rfl; rfl
  apply Run.op; (apply L_stT (cells' := (encWRat r7)); rfl; rfl; rfl; rfl; rfl; rfl; (intro h; cases h); rfl; (first | exact splice_whole rfl | rfl)); rfl; rfl
  apply dn
  apply x3
  apply CodeT.ret
  apply x1
  cases H
  apply x12
  exact RetIs.c1 rfl rfl rfl rfl (by intro h; cases h)
  replace H := ifFb h H
  (repeat apply sq)
  apply CodeT.skip
  apply x3
  (repeat apply sq)
  apply rg
  apply R_fldP; rfl; rfl; rfl; rfl; rfl
  apply R_fldP; rfl; rfl; rfl; rfl; rfl
  apply R_ldP; rfl; rfl; rfl; rfl; rfl; rfl
  apply R_fldP; rfl; rfl; rfl; rfl; rfl
  apply R_fldP; rfl; rfl; rfl; rfl; rfl
  apply R_ldP; rfl; rfl; rfl; rfl; rfl; rfl
  apply R_fldP; rfl; rfl; rfl; rfl; rfl
  apply R_ldP; rfl; rfl; rfl; rfl; rfl; rfl
  obtain ⟨r8, hr8, H⟩ := bindS H
  apply Run.op; (apply L_callW; ((apply ArgsV.cons; (apply ArgV.val; rfl; rfl)); (apply ArgsV.cons; (apply ArgV.val; rfl; rfl)); (apply ArgsV.nil)); (exact m_spec_l02Mul a0.fNum.fMag a1.fDen _ hr8); (exact io1 hio _); rfl); rfl; rfl
  obtain ⟨r9, hr9, H⟩ := bindS H
  apply Run.op; (apply L_call; ((apply ArgsV.cons; (apply ArgV.val; rfl; rfl)); (apply ArgsV.cons; (apply ArgV.ref; rfl; rfl; (first | exact Nat.le_of_eq (flat_len (fun _ => rfl)) | exact Nat.le_of_ble_eq_true rfl))); (apply ArgsV.nil)); (exact m_spec_l03Make a0.fNum.fNeg r8 _ hr9); rfl; rfl; rfl); rfl; rfl
  apply Run.op; (apply L_alloc false; (exact io1 hio _); rfl); rfl; rfl
  apply Run.op; (apply L_stT (cells' := (encWBigInt r9)); rfl; rfl; rfl; rfl; rfl; rfl; (intro h; cases h); rfl; (first | exact splice_whole rfl | rfl)); rfl; rfl
  apply Run.done; refine ⟨fun _ => ⟨rfl, rfl⟩, ?_⟩
  apply x3
  (repeat apply sq)
  apply rg
  apply R_fldP; rfl; rfl; rfl; rfl; rfl
  apply R_fldP; rfl; rfl; rfl; rfl; rfl
  apply R_ldP; rfl; rfl; rfl; rfl; rfl; rfl
  apply R_fldP; rfl; rfl; rfl; rfl; rfl
  apply R_fldP; rfl; rfl; rfl; rfl; rfl
  apply R_ldP; rfl; rfl; rfl; rfl; rfl; rfl
  apply R_fldP; rfl; rfl; rfl; rfl; rfl
  apply R_ldP; rfl; rfl; rfl; rfl; rfl; rfl
  obtain ⟨r10, hr10, H⟩ := bindS H
  apply Run.op; (apply L_callW; ((apply ArgsV.cons; (apply ArgV.val; rfl; rfl)); (apply ArgsV.cons; (apply ArgV.val; rfl; rfl)); (apply ArgsV.nil)); (exact m_spec_l02Mul a1.fNum.fMag a0.fDen _ hr10); (exact io1 hio _); rfl); rfl; rfl
  obtain ⟨r11, hr11, H⟩ := bindS H
  apply Run.op; (apply L_call; ((apply ArgsV.cons; (apply ArgV.val; rfl; rfl)); (apply ArgsV.cons; (apply ArgV.ref; rfl; rfl; (first | exact Nat.le_of_eq (flat_len (fun _ => rfl)) | exact Nat.le_of_ble_eq_true rfl))); (apply ArgsV.nil)); (exact m_spec_l03Make a1.fNum.fNeg r10 _ hr11); rfl; rfl; rfl); rfl; rfl
  apply Run.op; (apply L_alloc false; (exact io1 hio _); rfl); rfl; rfl
  apply Run.op; (apply L_stT (cells' := (encWBigInt r11)); rfl; rfl; rfl; rfl; rfl; rfl; (intro h; cases h); rfl; (first | exact splice_whole rfl | rfl)); rfl; rfl
  apply Run.done; refine ⟨fun _ => ⟨rfl, rfl⟩, ?_⟩
  apply x3
  (repeat apply sq)
  apply rg
  apply Run.op; (apply L_ldPAT; rfl; rfl; rfl; (intro h; cases h); rfl; (exact io1 hio _); rfl); rfl; rfl
  apply Run.op; (apply L_ldPAT; rfl; rfl; rfl; (intro h; cases h); rfl; (exact io1 hio _); rfl); rfl; rfl
  obtain ⟨r12, hr12, H⟩ := bindS H
  apply Run.op; (apply L_call; ((apply ArgsV.cons; (apply ArgV.valS; rfl; rfl; (exact (Soft.agg (softBigInt _))))); (apply ArgsV.cons; (apply ArgV.valS; rfl; rfl; (exact (Soft.agg (softBigInt _))))); (apply ArgsV.nil)); (exact m_spec_l03Add r9 r11 _ hr12); rfl; rfl; rfl); rfl; rfl
  apply Run.op; (apply L_alloc false; (exact io1 hio _); rfl); rfl; rfl
  apply Run.op; (apply L_stT (cells' := (encWBigInt r12)); rfl; rfl; rfl; rfl; rfl; rfl; (intro h; cases h); rfl; (first | exact splice_whole rfl | rfl)); rfl; rfl
  apply dn
  apply x3
  (repeat apply sq)
  apply rg
  apply R_fldP; rfl; rfl; rfl; rfl; rfl
  apply R_ldP; rfl; rfl; rfl; rfl; rfl; rfl
  apply R_fldP; rfl; rfl; rfl; rfl; rfl
  apply Run.op; (apply Local.soft (Soft.rw (SoftL.refl _)); apply L_ldP; rfl; rfl; rfl; (first | exact .inl rfl | exact .inr rfl); rfl); rfl; rfl
  apply R_fldP; rfl; rfl; rfl; rfl; rfl
  apply R_ldP; rfl; rfl; rfl; rfl; rfl; rfl
  apply R_fldP; rfl; rfl; rfl; rfl; rfl
  apply R_ldP; rfl; rfl; rfl; rfl; rfl; rfl
  obtain ⟨r13, hr13, H⟩ := bindS H
  apply Run.op; (apply L_callW; ((apply ArgsV.cons; (apply ArgV.val; rfl; rfl)); (apply ArgsV.cons; (apply ArgV.val; rfl; rfl)); (apply ArgsV.nil)); (exact m_spec_l02Mul a0.fDen a1.fDen _ hr13); (exact io1 hio _); rfl); rfl; rfl
  obtain ⟨r14, hr14, H⟩ := bindS H
  apply Run.op; (apply L_call; ((apply ArgsV.cons; (apply ArgV.val; rfl; rfl)); (apply ArgsV.cons; (apply ArgV.val; rfl; rfl)); (apply ArgsV.cons; (apply ArgV.ref; rfl; rfl; (first | exact Nat.le_of_eq (flat_len (fun _ => rfl)) | exact Nat.le_of_ble_eq_true rfl))); (apply ArgsV.nil)); (exact m_spec_l04Low r12.fNeg r12.fMag r13 _ hr14); rfl; rfl; rfl); rfl; rfl
  apply Run.op; (apply L_stT (cells' := (encWRat r14)); rfl; rfl; rfl; rfl; rfl; rfl; (intro h; cases h); rfl; (first | exact splice_whole rfl | rfl)); rfl; rfl
  apply Run.done; refine ⟨fun _ => ⟨rfl, rfl⟩, ?_⟩
  apply x3
  apply CodeT.ret
  cases H
  apply x12
  exact RetIs.c1 rfl rfl rfl rfl (by intro h; cases h)
theorem m_spec_RatAdd (a0 : Rat) (a1 : Rat) (r : Rat) (H : spec_RatAdd a0 a1 = some r) : Meets Try.prog 15 [.agg (encRat a0), .agg (encRat a1)] (.agg (encWRat r)) true := by
  refine Meets.intro2 (N := 17) (rs := #[.cell 4 30]) Try.func15 rfl rfl rfl rfl ?_
  intro Γ hio
  unfold spec_RatAdd at H
  (repeat apply sq)
  apply rg
  apply Run.op; (apply L_box false; rfl; rfl; rfl; (exact io1 hio _); rfl); rfl; rfl
  apply Run.op; (apply L_box false; rfl; rfl; rfl; (exact io1 hio _); rfl); rfl; rfl
  apply Run.op; (apply L_alloc false; (exact io1 hio _); rfl); rfl; rfl
  apply dn
  apply x3
  (repeat apply sq)
  obtain ⟨d4, hd4, H⟩ := bindS H
  refine CodeT.lcut (x := d4) (fun d e E => XEnv Γ .normal ⟨[(2, ⟨.ptr 2 0, false⟩), (3, ⟨.ptr 3 0, false⟩), (4, ⟨.ptr 4 0, false⟩), (12, ⟨.sc (.bool d), false⟩)], [(2, some ⟨(encRat a0), false, false⟩), (3, some ⟨(encRat a1), false, false⟩), (4, some ⟨[.sc (.bool false), .sc (.slice none 0 0), .sc (.slice none 0 0)], true, false⟩)]⟩ e E) ?_ ?_
  clear H; have H := hd4; clear hd4
  apply rg
  apply R_ldPA; rfl; rfl; (first | exact seg_whole rfl | rfl); rfl; rfl; rfl; rfl; rfl
  obtain ⟨r1, hr1, H⟩ := bindS H
  apply R_bool; (apply L_call; ((apply ArgsV.cons; (apply ArgV.val; rfl; rfl)); (apply ArgsV.nil)); (exact m_spec_RatOk a0 _ hr1); rfl; rfl; rfl); rfl
  intro h; replace H := ifTb h H
  apply R_not; rfl; rfl; rfl
  apply R_mov; rfl; rfl; rfl
  apply R_ldPA; rfl; rfl; (first | exact seg_whole rfl | rfl); rfl; rfl; rfl; rfl; rfl
  obtain ⟨r2, hr2, H⟩ := bindS H
  apply Run.op; (apply L_call; ((apply ArgsV.cons; (apply ArgV.val; rfl; rfl)); (apply ArgsV.nil)); (exact m_spec_RatOk a1 _ hr2); rfl; rfl; rfl); rfl; rfl
  apply R_not; rfl; rfl; rfl
  apply R_pickF; rfl; rfl; rfl; rfl
  apply dn
  obtain rfl := Option.some.inj H
  refine Ev.y4 ?_
  refine XEnv.mk ?_
  apply el [] (io0 hio _) <;> rfl
  intro h; replace H := ifFb h H
  apply R_not; rfl; rfl; rfl
  apply R_mov; rfl; rfl; rfl
  apply Run.skip; rfl
  apply Run.skip; rfl
  apply Run.skip; rfl
  apply R_pickT; rfl; rfl; rfl; rfl
  apply dn
  obtain rfl := Option.some.inj H
  refine Ev.y4 ?_
  refine XEnv.mk ?_
  apply el [] (io0 hio _) <;> rfl
  intro e E' hX; obtain ⟨rfl, g5⟩ := XEnv.out hX
  apply x3
  refine CodeT.weak g5 ?_
  (repeat apply sq)
  refine CodeT.cond rfl (fun h => ?_) (fun h => ?_)
  replace H := ifTb h H
  (repeat apply sq)
  apply rg
  apply Run.op; (apply L_buildC true; (apply BuildV.nil); rfl; rfl); rfl; rfl
  apply Run.op; (apply L_st (cells' := [.sc (.bool false), .sc (.slice none 0 0), .sc (.slice none 0 0)]); rfl; rfl; rfl; rfl; rfl; (intro h; cases h); rfl; (first | exact splice_whole rfl | rfl)); rfl; rfl
  apply dn
  apply x3
  apply CodeT.ret
  apply x1
  cases H
  apply x12
  refine RetIs.weak (Ent.soften (l := 4) (cells' := encWRat (Rat.mk (BigInt.mk false ([])) ([]))) rfl (SoftL.cons (Soft.refl _) (SoftL.cons Soft.nilW (SoftL.cons Soft.nilW SoftL.nil)))) ?_
  exact RetIs.c1 rfl rfl rfl rfl (by intro h; cases h)
  replace H := ifFb h H
  (repeat apply sq)
  apply CodeT.skip
  apply x3
  (repeat apply sq)
  apply rg
  apply R_ldPA; rfl; rfl; (first | exact seg_whole rfl | rfl); rfl; rfl; rfl; rfl; rfl
  apply R_ldPA; rfl; rfl; (first | exact seg_whole rfl | rfl); rfl; rfl; rfl; rfl; rfl
  obtain ⟨r6, hr6, H⟩ := bindS H
  apply Run.op; (apply L_call; ((apply ArgsV.cons; (apply ArgV.val; rfl; rfl)); (apply ArgsV.cons; (apply ArgV.val; rfl; rfl)); (apply ArgsV.nil)); (exact m_spec_l04Add a0 a1 _ hr6); rfl; rfl; rfl); rfl; rfl
  apply Run.op; (apply L_stT (cells' := (encWRat r6)); rfl; rfl; rfl; rfl; rfl; rfl; (intro h; cases h); rfl; (first | exact splice_whole rfl | rfl)); rfl; rfl
  apply dn
  apply x3
  apply CodeT.ret
  cases H
  apply x12
  exact RetIs.c1 rfl rfl rfl rfl (by intro h; cases h)
theorem m_spec_TreeEnergy (a0 : Tree) (r : Rat) (H : spec_TreeEnergy a0 = some r) : Meets Try.prog 5 [.agg (encTree a0)] (.agg (encWRat r)) true := by
  refine Meets.intro2 (N := 20) (rs := #[.cell 2 30]) Try.func5 rfl rfl rfl rfl ?_
  intro Γ hio
  unfold spec_TreeEnergy at H
  (repeat apply sq)
  apply rg
  apply Run.op; (apply L_box false; rfl; rfl; rfl; (exact io1 hio _); rfl); rfl; rfl
  apply Run.op; (apply L_alloc false; (exact io1 hio _); rfl); rfl; rfl
  apply dn
  apply x3
  (repeat apply sq)
  apply rg
  obtain ⟨r1, hr1, H⟩ := bindS H
  apply Run.op; (apply L_call; ((apply ArgsV.cons; (apply ArgV.val; rfl; rfl)); (apply ArgsV.nil)); (exact m_spec_RatFromInt 0 _ hr1); rfl; rfl; rfl); rfl; rfl
  apply Run.op; (apply L_alloc false; (exact io1 hio _); rfl); rfl; rfl
  apply Run.op; (apply L_stT (cells' := (encWRat r1)); rfl; rfl; rfl; rfl; rfl; rfl; (intro h; cases h); rfl; (first | exact splice_whole rfl | rfl)); rfl; rfl
  apply dn
  apply x3
  (repeat apply sq)
  apply rg
  apply R_fldP; rfl; rfl; rfl; rfl; rfl
  apply R_ldP; rfl; rfl; rfl; rfl; rfl; rfl
  apply R_len; rfl; rfl; rfl
  apply R_mov; rfl; rfl; rfl
  apply dn
  apply x3
  (repeat apply sq)
  apply CodeT.block
  (repeat apply sq)
  obtain ⟨d9, hd9, H⟩ := bindS H
  refine CodeT.lloop (fun s => ⟨[(2, ⟨.ptr 2 0, false⟩), (3, ⟨.ptr 3 0, false⟩), (8, ⟨.sl a0.fNodes.length (a0.fNodes.flatMap encTreeNode), false⟩), (9, ⟨.sc (.int .i64 (a0.fNodes.length : Int)), false⟩), (10, ⟨.sc (.int .i64 s.1), false⟩)], [(2, some ⟨[.sc (.bool false), .sc (.slice none 0 0), .sc (.slice none 0 0)], true, false⟩), (3, some ⟨(encWRat s.2), true, false⟩)]⟩) (fun d e E => XEnv Γ (.exit 0) ⟨[(2, ⟨.ptr 2 0, false⟩), (3, ⟨.ptr 3 0, false⟩)], [(2, some ⟨[.sc (.bool false), .sc (.slice none 0 0), .sc (.slice none 0 0)], true, false⟩), (3, some ⟨(encWRat d), true, false⟩)]⟩ e E) hd9 ?_ ?_ ?_
  apply el [] (io0 hio _) <;> rfl
  clear H hd9
  rintro ⟨v4, v5⟩ o H
  unfold spec_TreeEnergy_L1 at H
  (repeat apply sq)
  apply rg
  apply R_lss; rfl; rfl; rfl; rfl
  apply dn
  apply x3
  (repeat apply sq)
  refine CodeT.cond rfl (fun h => ?_) (fun h => ?_)
  replace H := ifT (of_decide_eq_true h) H
  (repeat apply sq)
  apply CodeT.skip
  apply x3
  (repeat apply sq)
  apply CodeT.block
  (repeat apply sq)
  apply rg
  obtain ⟨y6, hy6, H⟩ := bindS H
  apply Run.op; (apply L_ixS2; rfl; rfl; rfl; (exact hy6); (intro _; rfl); rfl); rfl; rfl
  apply Run.op; (apply L_ldIA; rfl; (first | exact take_whole rfl | rfl); rfl; (intro h; cases h); rfl; rfl); rfl; rfl
  apply Run.op; (apply L_alloc false; (exact io1 hio _); rfl); rfl; rfl
  apply Run.op; (apply L_st (cells' := (encTreeNode y6)); rfl; rfl; rfl; rfl; rfl; (intro h; cases h); rfl; (first | exact splice_whole rfl | rfl)); rfl; rfl
  apply dn
  apply x3
  apply rg
  apply Run.op; (apply Local.soft (Soft.agg (softRat _)); apply L_ldPA; rfl; rfl; (first | exact seg_whole rfl | rfl); rfl; (intro h; cases h); (first | exact .inl rfl | exact .inr rfl); rfl); rfl; rfl
  apply R_fldP; rfl; rfl; rfl; rfl; rfl
  apply R_ldPA; rfl; rfl; (first | exact seg_whole rfl | rfl); rfl; rfl; rfl; rfl; rfl
  obtain ⟨r7, hr7, H⟩ := bindS H
  apply Run.op; (apply L_call; ((apply ArgsV.cons; (apply ArgV.val; rfl; rfl)); (apply ArgsV.cons; (apply ArgV.val; rfl; rfl)); (apply ArgsV.nil)); (exact m_spec_RatAdd v5 y6.fEnergy _ hr7); rfl; rfl; rfl); rfl; rfl
  apply Run.op; (apply L_stT (cells' := (encWRat r7)); rfl; rfl; rfl; rfl; rfl; rfl; (intro h; cases h); rfl; (first | exact splice_whole rfl | rfl)); rfl; rfl
  apply dn
  apply x5
  apply x3
  apply rg
  apply R_add; rfl; rfl; rfl; rfl; rfl
  apply R_mov; rfl; rfl; rfl
  apply dn
  obtain rfl := Option.some.inj H
  refine Ev.y1 ?_
  apply el [] (io0 hio _) <;> rfl
  replace H := ifF (of_decide_eq_false h) H
  (repeat apply sq)
  apply CodeT.exit
  apply x2
  obtain rfl := Option.some.inj H
  refine Ev.y3 ?_
  refine XEnv.mk ?_
  apply el [] (io0 hio _) <;> rfl
  skip
  intro e E' hX; obtain ⟨rfl, g10⟩ := XEnv.out hX
  refine x6 rfl ?_
  apply x3
  refine CodeT.weak g10 ?_
  (repeat apply sq)
  apply rg
  apply Run.op; (apply L_ldPAT; rfl; rfl; rfl; (intro h; cases h); rfl; (exact io1 hio _); rfl); rfl; rfl
  apply Run.op; (apply L_stT (cells' := (encWRat d9)); rfl; rfl; rfl; rfl; rfl; rfl; (intro h; cases h); rfl; (first | exact splice_whole rfl | rfl)); rfl; rfl
  apply dn
  apply x3
  apply CodeT.ret
  cases H
  apply x12
  exact RetIs.c1 rfl rfl rfl rfl (by intro h; cases h)
theorem m_impl_natOfUint (a0 : Int) (r : (List Int)) (H : impl_natOfUint a0 = some r) : Meets Try.prog 54 [.sc (.int .u64 a0)] (.rw 1 r.length (r.flatMap (encI .i64))) true := by
  refine Meets.intro2 (N := 16) (rs := #[.tmp 2]) Try.func54 rfl rfl rfl rfl ?_
  intro Γ hio
  unfold impl_natOfUint at H
  (repeat apply sq)
  apply rg
  apply R_asg; rfl; rfl; rfl
  apply dn
  apply x3
  (repeat apply sq)
  apply rg
  apply Run.op; (apply L_bs0; (exact io1 hio _); rfl); rfl; rfl
  apply R_asg; rfl; rfl; rfl
  apply dn
  apply x3
  (repeat apply sq)
  apply CodeT.block
  (repeat apply sq)
  obtain ⟨d12, hd12, H⟩ := bindS H
  refine CodeT.lloop (fun s => ⟨[(0, ⟨.sc (.int .u64 s.1), false⟩), (3, ⟨.ref 503 1 0 s.2.length, false⟩)], [(503, some ⟨s.2.flatMap (encI .i64), true, false⟩)]⟩) (fun d e E => XEnv Γ (.exit 0) ⟨[(3, ⟨.ref 503 1 0 d.length, false⟩)], [(503, some ⟨d.flatMap (encI .i64), true, false⟩)]⟩ e E) hd12 ?_ ?_ ?_
  apply el [(503, 4)] (io0 hio _) <;> rfl
  clear H hd12
  rintro ⟨v5, v6⟩ o H
  unfold impl_natOfUint_L1 at H
  (repeat apply sq)
  apply rg
  apply R_mov; rfl; rfl; rfl
  apply R_gtr; rfl; rfl; rfl; rfl
  apply dn
  apply x3
  (repeat apply sq)
  refine CodeT.cond rfl (fun h => ?_) (fun h => ?_)
  replace H := ifT (of_decide_eq_true h) H
  (repeat apply sq)
  apply CodeT.skip
  apply x3
  apply CodeT.block
  (repeat apply sq)
  apply rg
  apply R_mov; rfl; rfl; rfl
  apply R_mov; rfl; rfl; rfl
  apply Run.op; (apply L_rem; rfl; rfl; (intro h; cases h); rfl; rfl); rfl; rfl
  obtain ⟨v7, hv7, H⟩ := bindS H
  apply Run.op; (apply L_conv; rfl; (exact letS hv7); rfl); rfl; rfl
  apply Run.op; (apply L_bs1; rfl; rfl; rfl; rfl; rfl; rfl; rfl; rfl); rfl; rfl
  obtain ⟨_u, ha8, H⟩ := bindS H
  obtain ⟨v9, hv9, H⟩ := bindS H
  apply Run.op; (apply L_app true; rfl; rfl; rfl; (exact flat_len (l := v6) (enc := (encI .i64)) (fun _ => rfl)); rfl; (exact chkS ha8); (exact app63 (by decide) (chkS ha8)); (exact ⟨io1 hio _, io1 hio _⟩); (intro _; rfl); (exact flat_snocL (l := v6) (y := v7) (enc := (encI .i64)) hv9); rfl); rfl; rfl
  apply R_asg; rfl; rfl; rfl
  apply dn
  apply x3
  apply rg
  apply R_mov; rfl; rfl; rfl
  obtain ⟨v10, hv10, H⟩ := bindS H
  apply Run.op; (apply L_quo; rfl; rfl; (intro h; cases h); (exact letS hv10); rfl); rfl; rfl
  apply R_asg; rfl; rfl; rfl
  apply dn
  apply x5
  obtain rfl := Option.some.inj H
  refine Ev.y1 ?_
  apply el [(503, 12)] (io0 hio _) <;> rfl
  replace H := ifF (of_decide_eq_false h) H
  (repeat apply sq)
  apply CodeT.exit
  apply x2
  obtain rfl := Option.some.inj H
  refine Ev.y3 ?_
  refine XEnv.mk ?_
  apply el [] (io0 hio _) <;> rfl
  skip
  intro e E' hX; obtain ⟨rfl, g13⟩ := XEnv.out hX
  refine x6 rfl ?_
  apply x3
  refine CodeT.weak g13 ?_
  (repeat apply sq)
  apply rg
  apply R_mov; rfl; rfl; rfl
  apply R_asg; rfl; rfl; rfl
  apply dn
  apply x3
  apply CodeT.ret
  cases H
  apply x12
  exact RetIs.rW rfl rfl rfl (io1 hio _)
theorem m_impl_bigMake (a0 : Bool) (a1 : (List Int)) (r : BigInt) (H : impl_bigMake a0 a1 = some r) : Meets Try.prog 53 [.sc (.bool a0), .sl a1.length (a1.flatMap (encI .i64))] (.agg (encBigInt r)) false := by
  refine Meets.intro2 (N := 17) (rs := #[.cell 4 28]) Try.func53 rfl rfl rfl rfl ?_
  intro Γ hio
  unfold impl_bigMake at H
  (repeat apply sq)
  apply rg
  apply Run.op; (apply L_alloc false; (exact io1 hio _); rfl); rfl; rfl
  apply dn
  apply x3
  (repeat apply sq)
  obtain ⟨d2, hd2, H⟩ := bindS H
  refine CodeT.lcut (x := d2) (fun d e E => XEnv Γ .normal ⟨[(0, ⟨.sc (.bool a0), false⟩), (1, ⟨.sl a1.length (a1.flatMap (encI .i64)), false⟩), (4, ⟨.ptr 4 0, false⟩), (12, ⟨.sc (.bool d), false⟩)], [(4, some ⟨[.sc (.bool false), .sc (.slice none 0 0)], true, false⟩)]⟩ e E) ?_ ?_
  clear H; have H := hd2; clear hd2
  apply rg
  apply R_mov; rfl; rfl; rfl
  apply R_len; rfl; rfl; rfl
  apply R_dec; (apply L_eql; rfl; rfl; rfl); rfl
  intro h; replace H := ifT h H
  apply R_mov; rfl; rfl; rfl
  apply Run.skip; rfl
  apply Run.skip; rfl
  apply Run.skip; rfl
  apply R_pickT; rfl; rfl; rfl; rfl
  apply dn
  obtain rfl := Option.some.inj H
  refine Ev.y4 ?_
  refine XEnv.mk ?_
  apply el [] (io0 hio _) <;> rfl
  intro h; replace H := ifF h H
  apply R_mov; rfl; rfl; rfl
  apply R_mov; rfl; rfl; rfl
  apply R_len; rfl; rfl; rfl
  apply R_gtr; rfl; rfl; rfl; rfl
  apply R_pickF; rfl; rfl; rfl; rfl
  apply dn
  obtain rfl := Option.some.inj H
  refine Ev.y4 ?_
  refine XEnv.mk ?_
  apply el [] (io0 hio _) <;> rfl
  intro e E' hX; obtain ⟨rfl, g3⟩ := XEnv.out hX
  apply x3
  refine CodeT.weak g3 ?_
  (repeat apply sq)
  refine CodeT.cond rfl (fun h => ?_) (fun h => ?_)
  replace H := ifTb h H
  (repeat apply sq)
  apply rg
  apply Run.op; (apply L_buildC true; (apply BuildV.nil); rfl; rfl); rfl; rfl
  apply Run.op; (apply L_st (cells' := [.sc (.bool false), .sc (.slice none 0 0)]); rfl; rfl; rfl; rfl; rfl; (intro h; cases h); rfl; (first | exact splice_whole rfl | rfl)); rfl; rfl
  apply dn
  apply x3
  apply CodeT.ret
  apply x1
  cases H
  apply x12
  refine RetIs.weak (Ent.cells (l := 4) (cells' := encBigInt (BigInt.mk false ([]))) rfl (LeL.same (LeL.nl LeL.nil)) (by intro h; cases h)) ?_
  exact RetIs.c0 rfl rfl rfl (by intro h; cases h)
  replace H := ifFb h H
  (repeat apply sq)
  apply CodeT.skip
  apply x3
  (repeat apply sq)
  apply rg
  apply R_mov; rfl; rfl; rfl
  apply R_mov; rfl; rfl; rfl
  apply Run.op; (apply L_buildC false; (apply BuildV.sc; rfl; rfl; rfl; rfl; rfl; rfl; rfl; apply BuildV.sh; rfl; rfl; rfl; rfl; rfl; rfl; rfl; apply BuildV.nil); rfl; rfl); rfl; rfl
  apply Run.op; (apply L_st (cells' := [.sc (.bool a0), .sl a1.length (a1.flatMap (encI .i64))]); rfl; rfl; rfl; rfl; rfl; (intro h; cases h); rfl; (first | exact splice_whole rfl | rfl)); rfl; rfl
  apply dn
  apply x3
  apply CodeT.ret
  cases H
  apply x12
  exact RetIs.c0 rfl rfl rfl (by intro h; cases h)
theorem md_impl_bigMake (a0 : Bool) (a1 : (List Int)) (r : BigInt) (H : impl_bigMake a0 a1 = some r) : MeetsD Try.prog 53 [(.sc (.bool a0), false), (.rw 1 a1.length (a1.flatMap (encI .i64)), true)] (.agg (encWBigInt r)) := by
  refine MeetsD.intro (N := 17) (rs := #[.cell 4 28]) Try.func53 rfl rfl rfl rfl ?_
  intro Γ hio
  unfold impl_bigMake at H
  (repeat apply sq)
  apply rg
  apply Run.op; (apply L_alloc false; (exact io1 hio _); rfl); rfl; rfl
  apply dn
  apply x3
  (repeat apply sq)
  obtain ⟨d2, hd2, H⟩ := bindS H
  refine CodeT.lcut (x := d2) (fun d e E => XEnv Γ .normal ⟨[(0, ⟨.sc (.bool a0), false⟩), (1, ⟨.rw 1 a1.length (a1.flatMap (encI .i64)), true⟩), (4, ⟨.ptr 4 0, false⟩), (12, ⟨.sc (.bool d), false⟩)], [(4, some ⟨[.sc (.bool false), .sc (.slice none 0 0)], true, false⟩)]⟩ e E) ?_ ?_
  clear H; have H := hd2; clear hd2
  apply rg
  apply Run.op; (apply Local.soft (Soft.rw (SoftL.refl _)); apply L_mov; rfl; rfl); rfl; rfl
  apply R_len; rfl; rfl; rfl
  apply R_dec; (apply L_eql; rfl; rfl; rfl); rfl
  intro h; replace H := ifT h H
  apply R_mov; rfl; rfl; rfl
  apply Run.skip; rfl
  apply Run.skip; rfl
  apply Run.skip; rfl
  apply R_pickT; rfl; rfl; rfl; rfl
  apply dn
  obtain rfl := Option.some.inj H
  refine Ev.y4 ?_
  refine XEnv.mk ?_
  apply el [] (io0 hio _) <;> rfl
  intro h; replace H := ifF h H
  apply R_mov; rfl; rfl; rfl
  apply Run.op; (apply Local.soft (Soft.rw (SoftL.refl _)); apply L_mov; rfl; rfl); rfl; rfl
  apply R_len; rfl; rfl; rfl
  apply R_gtr; rfl; rfl; rfl; rfl
  apply R_pickF; rfl; rfl; rfl; rfl
  apply dn
  obtain rfl := Option.some.inj H
  refine Ev.y4 ?_
  refine XEnv.mk ?_
  apply el [] (io0 hio _) <;> rfl
  intro e E' hX; obtain ⟨rfl, g3⟩ := XEnv.out hX
  apply x3
  refine CodeT.weak g3 ?_
  (repeat apply sq)
  refine CodeT.cond rfl (fun h => ?_) (fun h => ?_)
  replace H := ifTb h H
  (repeat apply sq)
  apply rg
  apply Run.op; (apply L_buildC true; (apply BuildV.nil); rfl; rfl); rfl; rfl
  apply Run.op; (apply L_st (cells' := [.sc (.bool false), .sc (.slice none 0 0)]); rfl; rfl; rfl; rfl; rfl; (intro h; cases h); rfl; (first | exact splice_whole rfl | rfl)); rfl; rfl
  apply dn
  apply x3
  apply CodeT.ret
  apply x1
  cases H
  apply x12
  refine RetIs.weak (Ent.soften (l := 4) (cells' := encWBigInt (BigInt.mk false ([]))) rfl (SoftL.cons (Soft.refl _) (SoftL.cons Soft.nilW SoftL.nil))) ?_
  exact RetIs.c1 rfl rfl rfl rfl (by intro h; cases h)
  replace H := ifFb h H
  (repeat apply sq)
  apply CodeT.skip
  apply x3
  (repeat apply sq)
  apply rg
  apply R_mov; rfl; rfl; rfl
  apply R_movT; rfl; rfl; rfl; rfl
  apply Run.op; (apply L_buildC true; (apply BuildV.sc; rfl; rfl; rfl; rfl; rfl; rfl; rfl; apply BuildV.tk (ks := []); rfl; rfl; rfl; rfl; rfl; rfl; rfl; apply BuildV.nil); rfl; rfl); rfl; rfl
  apply Run.op; (apply L_stT (cells' := [.sc (.bool a0), .rw 1 a1.length (a1.flatMap (encI .i64))]); rfl; rfl; rfl; rfl; rfl; rfl; (intro h; cases h); rfl; (first | exact splice_whole rfl | rfl)); rfl; rfl
  apply dn
  apply x3
  apply CodeT.ret
  cases H
  apply x12
  exact RetIs.c1 rfl rfl rfl rfl (by intro h; cases h)
theorem m_impl_BigIntOf (a0 : Int) (r : BigInt) (H : impl_BigIntOf a0 = some r) : Meets Try.prog 32 [.sc (.int .i64 a0)] (.agg (encWBigInt r)) true := by
  refine Meets.intro2 (N := 16) (rs := #[.cell 2 28]) Try.func32 rfl rfl rfl rfl ?_
  intro Γ hio
  unfold impl_BigIntOf at H
  (repeat apply sq)
  apply rg
  apply Run.op; (apply L_alloc false; (exact io1 hio _); rfl); rfl; rfl
  apply dn
  apply x3
  (repeat apply sq)
  apply rg
  apply R_mov; rfl; rfl; rfl
  apply R_lss; rfl; rfl; rfl; rfl
  apply dn
  apply x3
  (repeat apply sq)
  refine CodeT.cond rfl (fun h => ?_) (fun h => ?_)
  replace H := ifT (of_decide_eq_true h) H
  (repeat apply sq)
  apply rg
  apply R_mov; rfl; rfl; rfl
  apply R_add; rfl; rfl; rfl; rfl; rfl
  obtain ⟨v1, hv1, H⟩ := bindS H
  apply Run.op; (apply L_neg; rfl; (exact letS hv1); rfl); rfl; rfl
  apply Run.op; (apply L_conv; rfl; rfl; rfl); rfl; rfl
  obtain ⟨v2, hv2, H⟩ := bindS H
  apply R_add; rfl; rfl; (exact letS hv2); rfl; rfl
  obtain ⟨r3, hr3, H⟩ := bindS H
  apply Run.op; (apply L_call; ((apply ArgsV.cons; (apply ArgV.val; rfl; rfl)); (apply ArgsV.nil)); (exact m_impl_natOfUint v2 _ hr3); rfl; rfl; rfl); rfl; rfl
  obtain ⟨r4, hr4, H⟩ := bindS H
  apply Run.op; (apply L_callD2; rfl; rfl; rfl; rfl; rfl; (exact md_impl_bigMake true r3 _ hr4); rfl; rfl); rfl; rfl
  apply Run.op; (apply L_stT (cells' := (encWBigInt r4)); rfl; rfl; rfl; rfl; rfl; rfl; (intro h; cases h); rfl; (first | exact splice_whole rfl | rfl)); rfl; rfl
  apply dn
  apply x3
  apply CodeT.ret
  apply x1
  cases H
  apply x12
  exact RetIs.c1 rfl rfl rfl rfl (by intro h; cases h)
  replace H := ifF (of_decide_eq_false h) H
  (repeat apply sq)
  apply CodeT.skip
  apply x3
  (repeat apply sq)
  apply rg
  apply R_mov; rfl; rfl; rfl
  apply Run.op; (apply L_conv; rfl; rfl; rfl); rfl; rfl
  obtain ⟨r5, hr5, H⟩ := bindS H
  apply Run.op; (apply L_call; ((apply ArgsV.cons; (apply ArgV.val; rfl; rfl)); (apply ArgsV.nil)); (exact m_impl_natOfUint (IntKind.u64.wrap a0) _ hr5); rfl; rfl; rfl); rfl; rfl
  obtain ⟨r6, hr6, H⟩ := bindS H
  apply Run.op; (apply L_callD2; rfl; rfl; rfl; rfl; rfl; (exact md_impl_bigMake false r5 _ hr6); rfl; rfl); rfl; rfl
  apply Run.op; (apply L_stT (cells' := (encWBigInt r6)); rfl; rfl; rfl; rfl; rfl; rfl; (intro h; cases h); rfl; (first | exact splice_whole rfl | rfl)); rfl; rfl
  apply dn
  apply x3
  apply CodeT.ret
  cases H
  apply x12
  exact RetIs.c1 rfl rfl rfl rfl (by intro h; cases h)
theorem m_impl_RatFromInt (a0 : Int) (r : Rat) (H : impl_RatFromInt a0 = some r) : Meets Try.prog 17 [.sc (.int .i64 a0)] (.agg (encWRat r)) true := by
  refine Meets.intro2 (N := 7) (rs := #[.cell 2 30]) Try.func17 rfl rfl rfl rfl ?_
  intro Γ hio
  unfold impl_RatFromInt at H
  (repeat apply sq)
  apply rg
  apply Run.op; (apply L_alloc false; (exact io1 hio _); rfl); rfl; rfl
  apply dn
  apply x3
  (repeat apply sq)
  apply rg
  apply R_mov; rfl; rfl; rfl
  obtain ⟨r1, hr1, H⟩ := bindS H
  apply Run.op; (apply L_call; ((apply ArgsV.cons; (apply ArgV.val; rfl; rfl)); (apply ArgsV.nil)); (exact m_impl_BigIntOf a0 _ hr1); rfl; rfl; rfl); rfl; rfl
  apply Run.op; (apply Local.frz 5; apply L_bsR; rfl; rfl; rfl; rfl; (exact io1 hio _); rfl; rfl; rfl; (exact io1 hio _); rfl); rfl; rfl
  apply Run.op; (apply L_buildC true; (apply BuildV.tk (ks := [5]); rfl; rfl; rfl; rfl; rfl; rfl; rfl; apply BuildV.tk (ks := []); rfl; rfl; rfl; rfl; rfl; rfl; rfl; apply BuildV.nil); rfl; rfl); rfl; rfl
  apply Run.op; (apply L_stT (cells' := [.sc (.bool r1.fNeg), .rw 1 r1.fMag.length (r1.fMag.flatMap (encI .i64)), .rw 1 ([1]).length (([1]).flatMap (encI .i64))]); rfl; rfl; rfl; rfl; rfl; rfl; (intro h; cases h); rfl; (first | exact splice_whole rfl | rfl)); rfl; rfl
  apply dn
  apply x3
  apply CodeT.ret
  cases H
  apply x12
  exact RetIs.c1 rfl rfl rfl rfl (by intro h; cases h)
theorem m_impl_NatOk (a0 : (List Int)) (r : Bool) (H : impl_NatOk a0 = some r) : Meets Try.prog 56 [.sl a0.length (a0.flatMap (encI .i64))] (.sc (.bool r)) true := by
  refine Meets.intro2 (N := 33) (rs := #[.tmp 2]) Try.func56 rfl rfl rfl rfl ?_
  intro Γ hio
  unfold impl_NatOk at H
  (repeat apply sq)
  apply rg
  apply R_asg; rfl; rfl; rfl
  apply dn
  apply x3
  (repeat apply sq)
  apply rg
  apply R_mov; rfl; rfl; rfl
  apply R_len; rfl; rfl; rfl
  apply R_gtr; rfl; rfl; rfl; rfl
  apply dn
  apply x3
  (repeat apply sq)
  refine CodeT.cond rfl (fun h => ?_) (fun h => ?_)
  replace H := ifT (of_decide_eq_true h) H
  (repeat apply sq)
  apply rg
  apply R_asg; rfl; rfl; rfl
  apply dn
  apply x3
  apply CodeT.ret
  apply x1
  cases H
  apply x12
  exact RetIs.sc1 rfl
  replace H := ifF (of_decide_eq_false h) H
  (repeat apply sq)
  apply CodeT.skip
  apply x3
  (repeat apply sq)
  apply rg
  apply R_mov; rfl; rfl; rfl
  apply R_len; rfl; rfl; rfl
  apply R_mov; rfl; rfl; rfl
  apply dn
  apply x3
  (repeat apply sq)
  apply CodeT.block
  (repeat apply sq)
  obtain ⟨d10, hd10, H⟩ := bindS H
  refine CodeT.lloop (fun s => ⟨[(0, ⟨.sl a0.length (a0.flatMap (encI .i64)), false⟩), (8, ⟨.sl a0.length (a0.flatMap (encI .i64)), false⟩), (9, ⟨.sc (.int .i64 (a0.length : Int)), false⟩), (10, ⟨.sc (.int .i64 s), false⟩)], []⟩) (fun x e E => match x with | (.inl d) => XEnv Γ (.exit 0) ⟨[(0, ⟨.sl a0.length (a0.flatMap (encI .i64)), false⟩)], []⟩ e E | (.inr d) => XRet Γ #[.tmp 2] (.sc (.bool d)) true e E) hd10 ?_ ?_ ?_
  apply el [] (io0 hio _) <;> rfl
  clear H hd10
  rintro v5 o H
  unfold impl_NatOk_L1 at H
  (repeat apply sq)
  apply rg
  apply R_lss; rfl; rfl; rfl; rfl
  apply dn
  apply x3
  (repeat apply sq)
  refine CodeT.cond rfl (fun h => ?_) (fun h => ?_)
  replace H := ifT (of_decide_eq_true h) H
  (repeat apply sq)
  apply CodeT.skip
  apply x3
  (repeat apply sq)
  apply CodeT.block
  (repeat apply sq)
  apply rg
  obtain ⟨y6, hy6, H⟩ := bindS H
  apply Run.op; (apply L_ixS2; rfl; rfl; rfl; (exact hy6); (intro _; rfl); rfl); rfl; rfl
  apply R_ldI; rfl; rfl; rfl; rfl; rfl
  apply R_asg; rfl; rfl; rfl
  apply dn
  apply x3
  (repeat apply sq)
  obtain ⟨d8, hd8, H⟩ := bindS H
  refine CodeT.lcut (x := d8) (fun d e E => XEnv Γ .normal ⟨[(0, ⟨.sl a0.length (a0.flatMap (encI .i64)), false⟩), (8, ⟨.sl a0.length (a0.flatMap (encI .i64)), false⟩), (9, ⟨.sc (.int .i64 (a0.length : Int)), false⟩), (10, ⟨.sc (.int .i64 v5), false⟩), (19, ⟨.sc (.bool d), false⟩)], []⟩ e E) ?_ ?_
  clear H; have H := hd8; clear hd8
  apply rg
  apply R_mov; rfl; rfl; rfl
  apply R_dec; (apply L_lss; rfl; rfl; rfl); rfl
  intro h; replace H := ifT h H
  apply R_mov; rfl; rfl; rfl
  apply Run.skip; rfl
  apply Run.skip; rfl
  apply R_pickT; rfl; rfl; rfl; rfl
  apply dn
  obtain rfl := Option.some.inj H
  refine Ev.y4 ?_
  refine XEnv.mk ?_
  apply el [] (io0 hio _) <;> rfl
  intro h; replace H := ifF h H
  apply R_mov; rfl; rfl; rfl
  apply R_mov; rfl; rfl; rfl
  apply Run.op; (apply L_geq; rfl; rfl; rfl); rfl; rfl
  apply R_pickF; rfl; rfl; rfl; rfl
  apply dn
  obtain rfl := Option.some.inj H
  refine Ev.y4 ?_
  refine XEnv.mk ?_
  apply el [] (io0 hio _) <;> rfl
  intro e E' hX; obtain ⟨rfl, g9⟩ := XEnv.out hX
  apply x3
  refine CodeT.weak g9 ?_
  refine CodeT.cond rfl (fun h => ?_) (fun h => ?_)
  replace H := ifTb h H
  (repeat apply sq)
  apply rg
  apply R_asg; rfl; rfl; rfl
  apply dn
  apply x3
  apply CodeT.ret
  apply x4
  apply x1
  obtain rfl := Option.some.inj H
  refine Ev.y2 ?_
  refine XRet.mk ?_
  exact RetIs.sc1 rfl
  replace H := ifFb h H
  (repeat apply sq)
  apply CodeT.skip
  apply x5
  apply x3
  apply rg
  apply R_add; rfl; rfl; rfl; rfl; rfl
  apply R_mov; rfl; rfl; rfl
  apply dn
  obtain rfl := Option.some.inj H
  refine Ev.y1 ?_
  apply el [] (io0 hio _) <;> rfl
  replace H := ifF (of_decide_eq_false h) H
  (repeat apply sq)
  apply CodeT.exit
  apply x2
  obtain rfl := Option.some.inj H
  refine Ev.y3 ?_
  refine XEnv.mk ?_
  apply el [] (io0 hio _) <;> rfl
  rcases d10 with (d11 | d15)
  intro e E' hX; obtain ⟨rfl, g12⟩ := XEnv.out hX
  refine x6 rfl ?_
  apply x3
  refine CodeT.weak g12 ?_
  (repeat apply sq)
  apply rg
  apply R_mov; rfl; rfl; rfl
  apply R_len; rfl; rfl; rfl
  apply R_dec; (apply L_eql; rfl; rfl; rfl); rfl
  intro h; replace H := ifT h H
  apply R_mov; rfl; rfl; rfl
  apply Run.skip; rfl
  apply Run.skip; rfl
  apply Run.skip; rfl
  apply Run.skip; rfl
  apply Run.skip; rfl
  apply Run.skip; rfl
  apply Run.skip; rfl
  apply R_pickT; rfl; rfl; rfl; rfl
  apply R_asg; rfl; rfl; rfl
  apply dn
  apply x3
  apply CodeT.ret
  cases H
  apply x12
  exact RetIs.sc1 rfl
  intro h; replace H := ifF h H
  apply R_mov; rfl; rfl; rfl
  apply R_mov; rfl; rfl; rfl
  apply R_mov; rfl; rfl; rfl
  apply R_len; rfl; rfl; rfl
  obtain ⟨v13, hv13, H⟩ := bindS H
  apply R_sub; rfl; rfl; (exact letS hv13); rfl; rfl
  obtain ⟨y14, hy14, H⟩ := bindS H
  apply Run.op; (apply L_ixS2; rfl; rfl; rfl; (exact hy14); (intro _; rfl); rfl); rfl; rfl
  apply R_ldI; rfl; rfl; rfl; rfl; rfl
  apply R_neq; rfl; rfl; rfl; rfl
  apply R_pickF; rfl; rfl; rfl; rfl
  apply R_asg; rfl; rfl; rfl
  apply dn
  apply x3
  apply CodeT.ret
  cases H
  apply x12
  exact RetIs.sc1 rfl
  intro e E' hX; obtain ⟨rfl, g16⟩ := XRet.out hX
  apply x4
  apply x1
  cases H
  apply x12
  exact g16
theorem m_impl_BigIntOk (a0 : BigInt) (r : Bool) (H : impl_BigIntOk a0 = some r) : Meets Try.prog 55 [.agg (encBigInt a0)] (.sc (.bool r)) true := by
  refine Meets.intro2 (N := 17) (rs := #[.tmp 2]) Try.func55 rfl rfl rfl rfl ?_
  intro Γ hio
  unfold impl_BigIntOk at H
  (repeat apply sq)
  apply rg
  apply Run.op; (apply L_box false; rfl; rfl; rfl; (exact io1 hio _); rfl); rfl; rfl
  apply R_asg; rfl; rfl; rfl
  apply dn
  apply x3
  (repeat apply sq)
  apply rg
  apply R_fldP; rfl; rfl; rfl; rfl; rfl
  apply R_ldP; rfl; rfl; rfl; rfl; rfl; rfl
  obtain ⟨r1, hr1, H⟩ := bindS H
  apply R_bool; (apply L_call; ((apply ArgsV.cons; (apply ArgV.val; rfl; rfl)); (apply ArgsV.nil)); (exact m_impl_NatOk a0.fMag _ hr1); rfl; rfl; rfl); rfl
  intro h; replace H := ifTb h H
  apply R_mov; rfl; rfl; rfl
  apply R_fldP; rfl; rfl; rfl; rfl; rfl
  apply R_bool; (apply L_ldP; rfl; rfl; rfl; (first | exact .inl rfl | exact .inr rfl); rfl); rfl
  intro h; replace H := ifTb h H
  apply R_mov; rfl; rfl; rfl
  apply R_fldP; rfl; rfl; rfl; rfl; rfl
  apply R_ldP; rfl; rfl; rfl; rfl; rfl; rfl
  apply R_len; rfl; rfl; rfl
  apply R_eql; rfl; rfl; rfl; rfl
  apply R_pickT; rfl; rfl; rfl; rfl
  apply R_not; rfl; rfl; rfl
  apply R_pickT; rfl; rfl; rfl; rfl
  apply R_asg; rfl; rfl; rfl
  apply dn
  apply x3
  apply CodeT.ret
  cases H
  apply x12
  exact RetIs.sc1 rfl
  intro h; replace H := ifFb h H
  apply R_mov; rfl; rfl; rfl
  apply Run.skip; rfl
  apply Run.skip; rfl
  apply Run.skip; rfl
  apply Run.skip; rfl
  apply R_pickF; rfl; rfl; rfl; rfl
  apply R_not; rfl; rfl; rfl
  apply R_pickT; rfl; rfl; rfl; rfl
  apply R_asg; rfl; rfl; rfl
  apply dn
  apply x3
  apply CodeT.ret
  cases H
  apply x12
  exact RetIs.sc1 rfl
  intro h; replace H := ifFb h H
  apply R_mov; rfl; rfl; rfl
  apply Run.skip; rfl
  apply Run.skip; rfl
  apply Run.skip; rfl
  apply Run.skip; rfl
  apply Run.skip; rfl
  apply Run.skip; rfl
  apply Run.skip; rfl
  apply Run.skip; rfl
  apply Run.skip; rfl
  apply R_pickF; rfl; rfl; rfl; rfl
  apply R_asg; rfl; rfl; rfl
  apply dn
  apply x3
  apply CodeT.ret
  cases H
  apply x12
  exact RetIs.sc1 rfl
theorem m_impl_natSmall (a0 : (List Int)) (r : Int) (H : impl_natSmall a0 = some r) : Meets Try.prog 82 [.sl a0.length (a0.flatMap (encI .i64))] (.sc (.int .i64 r)) true := by
  refine Meets.intro2 (N := 20) (rs := #[.tmp 2]) Try.func82 rfl rfl rfl rfl ?_
  intro Γ hio
  unfold impl_natSmall at H
  (repeat apply sq)
  apply rg
  apply R_asg; rfl; rfl; rfl
  apply dn
  apply x3
  (repeat apply sq)
  apply rg
  apply R_asg; rfl; rfl; rfl
  apply dn
  apply x3
  (repeat apply sq)
  apply rg
  apply R_mov; rfl; rfl; rfl
  apply R_len; rfl; rfl; rfl
  obtain ⟨v1, hv1, H⟩ := bindS H
  apply R_sub; rfl; rfl; (exact letS hv1); rfl; rfl
  apply R_asg; rfl; rfl; rfl
  apply dn
  apply x3
  (repeat apply sq)
  apply CodeT.block
  (repeat apply sq)
  obtain ⟨d9, hd9, H⟩ := bindS H
  refine CodeT.lloop (fun s => ⟨[(0, ⟨.sl a0.length (a0.flatMap (encI .i64)), false⟩), (3, ⟨.sc (.int .i64 s.1), false⟩), (4, ⟨.sc (.int .i64 s.2), false⟩)], []⟩) (fun d e E => XEnv Γ (.exit 0) ⟨[(3, ⟨.sc (.int .i64 d), false⟩)], []⟩ e E) hd9 ?_ ?_ ?_
  apply el [] (io0 hio _) <;> rfl
  clear H hd9
  rintro ⟨v4, v5⟩ o H
  unfold impl_natSmall_L1 at H
  (repeat apply sq)
  apply rg
  apply R_mov; rfl; rfl; rfl
  apply Run.op; (apply L_geq; rfl; rfl; rfl); rfl; rfl
  apply dn
  apply x3
  (repeat apply sq)
  refine CodeT.cond rfl (fun h => ?_) (fun h => ?_)
  replace H := ifT (of_decide_eq_true h) H
  (repeat apply sq)
  apply CodeT.skip
  apply x3
  (repeat apply sq)
  apply CodeT.block
  (repeat apply sq)
  apply rg
  apply R_mov; rfl; rfl; rfl
  apply Run.op; (apply L_mul; rfl; rfl; rfl; rfl); rfl; rfl
  apply R_mov; rfl; rfl; rfl
  apply R_mov; rfl; rfl; rfl
  obtain ⟨y6, hy6, H⟩ := bindS H
  apply Run.op; (apply L_ixS2; rfl; rfl; rfl; (exact hy6); (intro _; rfl); rfl); rfl; rfl
  apply R_ldI; rfl; rfl; rfl; rfl; rfl
  obtain ⟨v7, hv7, H⟩ := bindS H
  apply R_add; rfl; rfl; (exact letS hv7); rfl; rfl
  apply R_asg; rfl; rfl; rfl
  apply dn
  apply x5
  apply x3
  apply rg
  apply R_mov; rfl; rfl; rfl
  apply R_sub; rfl; rfl; rfl; rfl; rfl
  apply R_asg; rfl; rfl; rfl
  apply dn
  obtain rfl := Option.some.inj H
  refine Ev.y1 ?_
  apply el [] (io0 hio _) <;> rfl
  replace H := ifF (of_decide_eq_false h) H
  (repeat apply sq)
  apply CodeT.exit
  apply x2
  obtain rfl := Option.some.inj H
  refine Ev.y3 ?_
  refine XEnv.mk ?_
  apply el [] (io0 hio _) <;> rfl
  skip
  intro e E' hX; obtain ⟨rfl, g10⟩ := XEnv.out hX
  refine x6 rfl ?_
  apply x3
  refine CodeT.weak g10 ?_
  (repeat apply sq)
  apply rg
  apply R_mov; rfl; rfl; rfl
  apply R_asg; rfl; rfl; rfl
  apply dn
  apply x3
  apply CodeT.ret
  cases H
  apply x12
  exact RetIs.sc1 rfl
theorem m_impl_natTrim (a0 : (List Int)) (r : (List Int)) (H : impl_natTrim a0 = some r) : Meets Try.prog 95 [.sl a0.length (a0.flatMap (encI .i64))] (.sl r.length (r.flatMap (encI .i64))) false := by
  refine Meets.intro2 (N := 21) (rs := #[.tmp 2]) Try.func95 rfl rfl rfl rfl ?_
  intro Γ hio
  unfold impl_natTrim at H
  (repeat apply sq)
  apply rg
  apply R_asg; rfl; rfl; rfl
  apply dn
  apply x3
  (repeat apply sq)
  apply rg
  apply R_mov; rfl; rfl; rfl
  apply R_len; rfl; rfl; rfl
  apply R_asg; rfl; rfl; rfl
  apply dn
  apply x3
  (repeat apply sq)
  apply CodeT.block
  (repeat apply sq)
  obtain ⟨d13, hd13, H⟩ := bindS H
  refine CodeT.lloop (fun s => ⟨[(0, ⟨.sl a0.length (a0.flatMap (encI .i64)), false⟩), (3, ⟨.sc (.int .i64 s), false⟩)], []⟩) (fun d e E => XEnv Γ (.exit 0) ⟨[(0, ⟨.sl a0.length (a0.flatMap (encI .i64)), false⟩), (3, ⟨.sc (.int .i64 d), false⟩)], []⟩ e E) hd13 ?_ ?_ ?_
  apply el [] (io0 hio _) <;> rfl
  clear H hd13
  rintro v7 o H
  unfold impl_natTrim_L1 at H
  (repeat apply sq)
  obtain ⟨d10, hd10, H⟩ := bindS H
  refine CodeT.lcut (x := d10) (fun d e E => XEnv Γ .normal ⟨[(0, ⟨.sl a0.length (a0.flatMap (encI .i64)), false⟩), (3, ⟨.sc (.int .i64 v7), false⟩), (15, ⟨.sc (.bool d), false⟩)], []⟩ e E) ?_ ?_
  clear H; have H := hd10; clear hd10
  apply rg
  apply R_mov; rfl; rfl; rfl
  apply R_dec; (apply L_gtr; rfl; rfl; rfl); rfl
  intro h; replace H := ifT h H
  apply R_mov; rfl; rfl; rfl
  apply R_mov; rfl; rfl; rfl
  apply R_mov; rfl; rfl; rfl
  apply R_sub; rfl; rfl; rfl; rfl; rfl
  obtain ⟨y8, hy8, H⟩ := bindS H
  apply Run.op; (apply L_ixS2; rfl; rfl; rfl; (exact hy8); (intro _; rfl); rfl); rfl; rfl
  apply R_ldI; rfl; rfl; rfl; rfl; rfl
  apply R_eql; rfl; rfl; rfl; rfl
  apply R_pickT; rfl; rfl; rfl; rfl
  apply dn
  obtain rfl := Option.some.inj H
  refine Ev.y4 ?_
  refine XEnv.mk ?_
  apply el [] (io0 hio _) <;> rfl
  intro h; replace H := ifF h H
  apply R_mov; rfl; rfl; rfl
  apply Run.skip; rfl
  apply Run.skip; rfl
  apply Run.skip; rfl
  apply Run.skip; rfl
  apply Run.skip; rfl
  apply Run.skip; rfl
  apply R_pickF; rfl; rfl; rfl; rfl
  apply dn
  obtain rfl := Option.some.inj H
  refine Ev.y4 ?_
  refine XEnv.mk ?_
  apply el [] (io0 hio _) <;> rfl
  intro e E' hX; obtain ⟨rfl, g11⟩ := XEnv.out hX
  apply x3
  refine CodeT.weak g11 ?_
  (repeat apply sq)
  refine CodeT.cond rfl (fun h => ?_) (fun h => ?_)
  replace H := ifTb h H
  (repeat apply sq)
  apply CodeT.skip
  apply x3
  apply CodeT.block
  (repeat apply sq)
  apply rg
  apply R_mov; rfl; rfl; rfl
  apply R_sub; rfl; rfl; rfl; rfl; rfl
  apply R_asg; rfl; rfl; rfl
  apply dn
  apply x5
  obtain rfl := Option.some.inj H
  refine Ev.y1 ?_
  apply el [] (io0 hio _) <;> rfl
  replace H := ifFb h H
  (repeat apply sq)
  apply CodeT.exit
  apply x2
  obtain rfl := Option.some.inj H
  refine Ev.y3 ?_
  refine XEnv.mk ?_
  apply el [] (io0 hio _) <;> rfl
  skip
  intro e E' hX; obtain ⟨rfl, g14⟩ := XEnv.out hX
  refine x6 rfl ?_
  apply x3
  refine CodeT.weak g14 ?_
  (repeat apply sq)
  apply rg
  apply R_mov; rfl; rfl; rfl
  apply R_mov; rfl; rfl; rfl
  obtain ⟨y15, hy15, H⟩ := bindS H
  apply Run.op; (apply L_slS; rfl; rfl; rfl; rfl; (exact hy15); (intro _; rfl); rfl); rfl; rfl
  apply R_asg; rfl; rfl; rfl
  apply dn
  apply x3
  apply CodeT.ret
  cases H
  apply x12
  exact RetIs.one (Res1.val rfl rfl) (fun h => by cases h)
theorem md_impl_natTrim (a0 : (List Int)) (r : (List Int)) (H : impl_natTrim a0 = some r) : MeetsD Try.prog 95 [(.rw 1 a0.length (a0.flatMap (encI .i64)), true)] (.rw 1 r.length (r.flatMap (encI .i64))) := by
  refine MeetsD.intro (N := 21) (rs := #[.tmp 2]) Try.func95 rfl rfl rfl rfl ?_
  intro Γ hio
  unfold impl_natTrim at H
  (repeat apply sq)
  apply rg
  apply R_asg; rfl; rfl; rfl
  apply dn
  apply x3
  (repeat apply sq)
  apply rg
  apply Run.op; (apply Local.soft (Soft.rw (SoftL.refl _)); apply L_mov; rfl; rfl); rfl; rfl
  apply R_len; rfl; rfl; rfl
  apply R_asg; rfl; rfl; rfl
  apply dn
  apply x3
  (repeat apply sq)
  apply CodeT.block
  (repeat apply sq)
  obtain ⟨d13, hd13, H⟩ := bindS H
  refine CodeT.lloop (fun s => ⟨[(0, ⟨.rw 1 a0.length (a0.flatMap (encI .i64)), true⟩), (3, ⟨.sc (.int .i64 s), false⟩)], []⟩) (fun d e E => XEnv Γ (.exit 0) ⟨[(0, ⟨.rw 1 a0.length (a0.flatMap (encI .i64)), true⟩), (3, ⟨.sc (.int .i64 d), false⟩)], []⟩ e E) hd13 ?_ ?_ ?_
  apply el [] (io0 hio _) <;> rfl
  clear H hd13
  rintro v7 o H
  unfold impl_natTrim_L1 at H
  (repeat apply sq)
  obtain ⟨d10, hd10, H⟩ := bindS H
  refine CodeT.lcut (x := d10) (fun d e E => XEnv Γ .normal ⟨[(0, ⟨.rw 1 a0.length (a0.flatMap (encI .i64)), true⟩), (3, ⟨.sc (.int .i64 v7), false⟩), (15, ⟨.sc (.bool d), false⟩)], []⟩ e E) ?_ ?_
  clear H; have H := hd10; clear hd10
  apply rg
  apply R_mov; rfl; rfl; rfl
  apply R_dec; (apply L_gtr; rfl; rfl; rfl); rfl
  intro h; replace H := ifT h H
  apply R_mov; rfl; rfl; rfl
  apply Run.op; (apply Local.soft (Soft.rw (SoftL.refl _)); apply L_mov; rfl; rfl); rfl; rfl
  apply R_mov; rfl; rfl; rfl
  apply R_sub; rfl; rfl; rfl; rfl; rfl
  obtain ⟨y8, hy8, H⟩ := bindS H
  apply Run.op; (apply L_ixS2; rfl; rfl; rfl; (exact hy8); (intro _; rfl); rfl); rfl; rfl
  apply R_ldI; rfl; rfl; rfl; rfl; rfl
  apply R_eql; rfl; rfl; rfl; rfl
  apply R_pickT; rfl; rfl; rfl; rfl
  apply dn
  obtain rfl := Option.some.inj H
  refine Ev.y4 ?_
  refine XEnv.mk ?_
  apply el [] (io0 hio _) <;> rfl
  intro h; replace H := ifF h H
  apply R_mov; rfl; rfl; rfl
  apply Run.skip; rfl
  apply Run.skip; rfl
  apply Run.skip; rfl
  apply Run.skip; rfl
  apply Run.skip; rfl
  apply Run.skip; rfl
  apply R_pickF; rfl; rfl; rfl; rfl
  apply dn
  obtain rfl := Option.some.inj H
  refine Ev.y4 ?_
  refine XEnv.mk ?_
  apply el [] (io0 hio _) <;> rfl
  intro e E' hX; obtain ⟨rfl, g11⟩ := XEnv.out hX
  apply x3
  refine CodeT.weak g11 ?_
  (repeat apply sq)
  refine CodeT.cond rfl (fun h => ?_) (fun h => ?_)
  replace H := ifTb h H
  (repeat apply sq)
  apply CodeT.skip
  apply x3
  apply CodeT.block
  (repeat apply sq)
  apply rg
  apply R_mov; rfl; rfl; rfl
  apply R_sub; rfl; rfl; rfl; rfl; rfl
  apply R_asg; rfl; rfl; rfl
  apply dn
  apply x5
  obtain rfl := Option.some.inj H
  refine Ev.y1 ?_
  apply el [] (io0 hio _) <;> rfl
  replace H := ifFb h H
  (repeat apply sq)
  apply CodeT.exit
  apply x2
  obtain rfl := Option.some.inj H
  refine Ev.y3 ?_
  refine XEnv.mk ?_
  apply el [] (io0 hio _) <;> rfl
  skip
  intro e E' hX; obtain ⟨rfl, g14⟩ := XEnv.out hX
  refine x6 rfl ?_
  apply x3
  refine CodeT.weak g14 ?_
  (repeat apply sq)
  apply rg
  apply R_movT; rfl; rfl; rfl; rfl
  apply R_mov; rfl; rfl; rfl
  obtain ⟨y15, hy15, H⟩ := bindS H
  apply Run.op; (apply L_slW; rfl; rfl; rfl; (exact hy15); (intro _; rfl); (intro _; rfl); rfl); rfl; rfl
  apply R_asgT; rfl; rfl; rfl; rfl
  apply dn
  apply x3
  apply CodeT.ret
  cases H
  apply x12
  exact RetIs.one (Res1.deep rfl rfl) (fun _ h => by cases h)
theorem m_impl_natCmp (a0 : (List Int)) (a1 : (List Int)) (r : Int) (H : impl_natCmp a0 a1 = some r) : Meets Try.prog 86 [.sl a0.length (a0.flatMap (encI .i64)), .sl a1.length (a1.flatMap (encI .i64))] (.sc (.int .i64 r)) true := by
  refine Meets.intro2 (N := 41) (rs := #[.tmp 4]) Try.func86 rfl rfl rfl rfl ?_
  intro Γ hio
  unfold impl_natCmp at H
  (repeat apply sq)
  apply rg
  apply R_asg; rfl; rfl; rfl
  apply dn
  apply x3
  (repeat apply sq)
  apply rg
  apply R_mov; rfl; rfl; rfl
  apply R_len; rfl; rfl; rfl
  apply R_mov; rfl; rfl; rfl
  apply R_len; rfl; rfl; rfl
  apply R_lss; rfl; rfl; rfl; rfl
  apply dn
  apply x3
  (repeat apply sq)
  refine CodeT.cond rfl (fun h => ?_) (fun h => ?_)
  replace H := ifT (of_decide_eq_true h) H
  (repeat apply sq)
  apply rg
  apply R_asg; rfl; rfl; rfl
  apply dn
  apply x3
  apply CodeT.ret
  apply x1
  cases H
  apply x12
  exact RetIs.sc1 rfl
  replace H := ifF (of_decide_eq_false h) H
  (repeat apply sq)
  apply CodeT.skip
  apply x3
  (repeat apply sq)
  apply rg
  apply R_mov; rfl; rfl; rfl
  apply R_len; rfl; rfl; rfl
  apply R_mov; rfl; rfl; rfl
  apply R_len; rfl; rfl; rfl
  apply R_gtr; rfl; rfl; rfl; rfl
  apply dn
  apply x3
  (repeat apply sq)
  refine CodeT.cond rfl (fun h => ?_) (fun h => ?_)
  replace H := ifT (of_decide_eq_true h) H
  (repeat apply sq)
  apply rg
  apply R_asg; rfl; rfl; rfl
  apply dn
  apply x3
  apply CodeT.ret
  apply x1
  cases H
  apply x12
  exact RetIs.sc1 rfl
  replace H := ifF (of_decide_eq_false h) H
  (repeat apply sq)
  apply CodeT.skip
  apply x3
  (repeat apply sq)
  apply rg
  apply R_mov; rfl; rfl; rfl
  apply R_len; rfl; rfl; rfl
  obtain ⟨v1, hv1, H⟩ := bindS H
  apply R_sub; rfl; rfl; (exact letS hv1); rfl; rfl
  apply R_asg; rfl; rfl; rfl
  apply dn
  apply x3
  (repeat apply sq)
  apply CodeT.block
  (repeat apply sq)
  obtain ⟨d11, hd11, H⟩ := bindS H
  refine CodeT.lloop (fun s => ⟨[(0, ⟨.sl a0.length (a0.flatMap (encI .i64)), false⟩), (1, ⟨.sl a1.length (a1.flatMap (encI .i64)), false⟩), (5, ⟨.sc (.int .i64 s), false⟩)], []⟩) (fun x e E => match x with | (.inl d) => XEnv Γ (.exit 0) ⟨[], []⟩ e E | (.inr d) => XRet Γ #[.tmp 4] (.sc (.int .i64 d)) true e E) hd11 ?_ ?_ ?_
  apply el [] (io0 hio _) <;> rfl
  clear H hd11
  rintro v6 o H
  unfold impl_natCmp_L1 at H
  (repeat apply sq)
  apply rg
  apply R_mov; rfl; rfl; rfl
  apply Run.op; (apply L_geq; rfl; rfl; rfl); rfl; rfl
  apply dn
  apply x3
  (repeat apply sq)
  refine CodeT.cond rfl (fun h => ?_) (fun h => ?_)
  replace H := ifT (of_decide_eq_true h) H
  (repeat apply sq)
  apply CodeT.skip
  apply x3
  (repeat apply sq)
  apply CodeT.block
  (repeat apply sq)
  apply rg
  apply R_mov; rfl; rfl; rfl
  apply R_mov; rfl; rfl; rfl
  obtain ⟨y7, hy7, H⟩ := bindS H
  apply Run.op; (apply L_ixS2; rfl; rfl; rfl; (exact hy7); (intro _; rfl); rfl); rfl; rfl
  apply R_ldI; rfl; rfl; rfl; rfl; rfl
  apply R_mov; rfl; rfl; rfl
  apply R_mov; rfl; rfl; rfl
  obtain ⟨y8, hy8, H⟩ := bindS H
  apply Run.op; (apply L_ixS2; rfl; rfl; rfl; (exact hy8); (intro _; rfl); rfl); rfl; rfl
  apply R_ldI; rfl; rfl; rfl; rfl; rfl
  apply R_lss; rfl; rfl; rfl; rfl
  apply Run.done; refine ⟨fun _ => ⟨rfl, rfl⟩, ?_⟩
  apply x3
  (repeat apply sq)
  refine CodeT.cond rfl (fun h => ?_) (fun h => ?_)
  replace H := ifT (of_decide_eq_true h) H
  (repeat apply sq)
  apply rg
  apply R_asg; rfl; rfl; rfl
  apply dn
  apply x3
  apply CodeT.ret
  apply x1
  apply x4
  apply x1
  obtain rfl := Option.some.inj H
  refine Ev.y2 ?_
  refine XRet.mk ?_
  exact RetIs.sc1 rfl
  replace H := ifF (of_decide_eq_false h) H
  (repeat apply sq)
  apply CodeT.skip
  apply x3
  (repeat apply sq)
  apply rg
  apply R_mov; rfl; rfl; rfl
  apply R_mov; rfl; rfl; rfl
  obtain ⟨y9, hy9, H⟩ := bindS H
  apply Run.op; (apply L_ixS2; rfl; rfl; rfl; (exact hy9); (intro _; rfl); rfl); rfl; rfl
  apply R_ldI; rfl; rfl; rfl; rfl; rfl
  apply R_mov; rfl; rfl; rfl
  apply R_mov; rfl; rfl; rfl
  obtain ⟨y10, hy10, H⟩ := bindS H
  apply Run.op; (apply L_ixS2; rfl; rfl; rfl; (exact hy10); (intro _; rfl); rfl); rfl; rfl
  apply R_ldI; rfl; rfl; rfl; rfl; rfl
  apply R_gtr; rfl; rfl; rfl; rfl
  apply Run.done; refine ⟨fun _ => ⟨rfl, rfl⟩, ?_⟩
  apply x3
  refine CodeT.cond rfl (fun h => ?_) (fun h => ?_)
  replace H := ifT (of_decide_eq_true h) H
  (repeat apply sq)
  apply rg
  apply R_asg; rfl; rfl; rfl
  apply dn
  apply x3
  apply CodeT.ret
  apply x4
  apply x1
  obtain rfl := Option.some.inj H
  refine Ev.y2 ?_
  refine XRet.mk ?_
  exact RetIs.sc1 rfl
  replace H := ifF (of_decide_eq_false h) H
  (repeat apply sq)
  apply CodeT.skip
  apply x5
  apply x3
  apply rg
  apply R_mov; rfl; rfl; rfl
  apply R_sub; rfl; rfl; rfl; rfl; rfl
  apply R_asg; rfl; rfl; rfl
  apply dn
  obtain rfl := Option.some.inj H
  refine Ev.y1 ?_
  apply el [] (io0 hio _) <;> rfl
  replace H := ifF (of_decide_eq_false h) H
  (repeat apply sq)
  apply CodeT.exit
  apply x2
  obtain rfl := Option.some.inj H
  refine Ev.y3 ?_
  refine XEnv.mk ?_
  apply el [] (io0 hio _) <;> rfl
  rcases d11 with (d12 | d14)
  intro e E' hX; obtain ⟨rfl, g13⟩ := XEnv.out hX
  refine x6 rfl ?_
  apply x3
  refine CodeT.weak g13 ?_
  (repeat apply sq)
  apply rg
  apply R_asg; rfl; rfl; rfl
  apply dn
  apply x3
  apply CodeT.ret
  cases H
  apply x12
  exact RetIs.sc1 rfl
  intro e E' hX; obtain ⟨rfl, g15⟩ := XRet.out hX
  apply x4
  apply x1
  cases H
  apply x12
  exact g15
end Go.Ev
