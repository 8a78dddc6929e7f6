/- The walks of lifted functions, printed by program (lift.py). -/
import Derived.Test.YtbfjidhekfnfjaaLd
set_option linter.all false
namespace Go.Ev
open Go.Proofs
set_option linter.all false
set_option maxHeartbeats 4000000
attribute [local irreducible] CodeT Ent Meets MeetsX Local LocalAt Res1 RetIs RetX Sim OpT StepT NoLab Then InBlock Round Cut ends endsX LRound LCut XEnv XRet XRetX XRetN MeetsN MeetsD MarkC RetN RetM endsN endsM
theorem m_laws_szFactor (a0 : Factor) (a1 : Int) (r : Int) (H : laws_szFactor a0 a1 = some r) : Meets Try.prog 59 [.agg (encFactor a0), .sc (.int .i64 a1)] (.sc (.int .i64 r)) true := by
  refine Meets.intro2 (N := 20) (rs := #[.tmp 4]) Try.func59 rfl rfl rfl rfl ?_
  intro Γ hio
  unfold laws_szFactor at H
  (repeat apply sq)
  apply rg
  apply Run.op; (apply L_box false; rfl; rfl; rfl; (exact io1 hio _); rfl); rfl; rfl
  apply R_asg; rfl; rfl; rfl
  apply dn
  apply x3
  (repeat apply sq)
  apply rg
  apply R_mov; rfl; rfl; rfl
  apply R_fldP; rfl; rfl; rfl; rfl; rfl
  apply R_ldP; rfl; rfl; rfl; rfl; rfl; rfl
  apply Run.op; (apply L_lenS; rfl; rfl); rfl; rfl
  obtain ⟨v1, hv1, H⟩ := bindS H
  apply R_sub; rfl; rfl; (exact letS hv1); rfl; rfl
  apply R_asg; rfl; rfl; rfl
  apply dn
  apply x3
  (repeat apply sq)
  apply rg
  apply R_mov; rfl; rfl; rfl
  apply R_lss; rfl; rfl; rfl; rfl
  apply dn
  apply x3
  (repeat apply sq)
  refine CodeT.cond rfl (fun h => ?_) (fun h => ?_)
  replace H := ifT (of_decide_eq_true h) H
  (repeat apply sq)
  apply rg
  apply R_asg; rfl; rfl; rfl
  apply dn
  apply x3
  apply CodeT.ret
  apply x1
  cases H
  apply x12
  exact RetIs.sc1 rfl
  replace H := ifF (of_decide_eq_false h) H
  (repeat apply sq)
  apply CodeT.skip
  apply x3
  (repeat apply sq)
  apply rg
  apply R_mov; rfl; rfl; rfl
  apply R_fldP; rfl; rfl; rfl; rfl; rfl
  apply R_ldP; rfl; rfl; rfl; rfl; rfl; rfl
  apply Run.op; (apply L_lenS; rfl; rfl); rfl; rfl
  obtain ⟨v2, hv2, H⟩ := bindS H
  apply R_sub; rfl; rfl; (exact letS hv2); rfl; rfl
  apply R_asg; rfl; rfl; rfl
  apply dn
  apply x3
  (repeat apply sq)
  apply rg
  apply R_mov; rfl; rfl; rfl
  apply R_lss; rfl; rfl; rfl; rfl
  apply dn
  apply x3
  (repeat apply sq)
  refine CodeT.cond rfl (fun h => ?_) (fun h => ?_)
  replace H := ifT (of_decide_eq_true h) H
  (repeat apply sq)
  apply rg
  apply R_asg; rfl; rfl; rfl
  apply dn
  apply x3
  apply CodeT.ret
  apply x1
  cases H
  apply x12
  exact RetIs.sc1 rfl
  replace H := ifF (of_decide_eq_false h) H
  (repeat apply sq)
  apply CodeT.skip
  apply x3
  (repeat apply sq)
  apply rg
  apply R_mov; rfl; rfl; rfl
  apply R_asg; rfl; rfl; rfl
  apply dn
  apply x3
  apply CodeT.ret
  cases H
  apply x12
  exact RetIs.sc1 rfl
theorem m_laws_szFactorS (a0 : (List Factor)) (a1 : Int) (r : Int) (H : laws_szFactorS a0 a1 = some r) : Meets Try.prog 14 [.sl a0.length (a0.flatMap encFactor), .sc (.int .i64 a1)] (.sc (.int .i64 r)) true := by
  refine Meets.intro2 (N := 27) (rs := #[.tmp 4]) Try.func14 rfl rfl rfl rfl ?_
  intro Γ hio
  unfold laws_szFactorS at H
  (repeat apply sq)
  apply rg
  apply R_asg; rfl; rfl; rfl
  apply dn
  apply x3
  (repeat apply sq)
  apply rg
  apply R_mov; rfl; rfl; rfl
  apply R_mov; rfl; rfl; rfl
  apply R_len; rfl; rfl; rfl
  obtain ⟨v1, hv1, H⟩ := bindS H
  apply R_sub; rfl; rfl; (exact letS hv1); rfl; rfl
  apply R_asg; rfl; rfl; rfl
  apply dn
  apply x3
  (repeat apply sq)
  apply rg
  apply R_mov; rfl; rfl; rfl
  apply R_lss; rfl; rfl; rfl; rfl
  apply dn
  apply x3
  (repeat apply sq)
  refine CodeT.cond rfl (fun h => ?_) (fun h => ?_)
  replace H := ifT (of_decide_eq_true h) H
  (repeat apply sq)
  apply rg
  apply R_asg; rfl; rfl; rfl
  apply dn
  apply x3
  apply CodeT.ret
  apply x1
  cases H
  apply x12
  exact RetIs.sc1 rfl
  replace H := ifF (of_decide_eq_false h) H
  (repeat apply sq)
  apply CodeT.skip
  apply x3
  (repeat apply sq)
  apply rg
  apply R_asg; rfl; rfl; rfl
  apply dn
  apply x3
  (repeat apply sq)
  apply CodeT.block
  (repeat apply sq)
  obtain ⟨d8, hd8, H⟩ := bindS H
  refine CodeT.lloop (fun s => ⟨[(0, ⟨.sl a0.length (a0.flatMap encFactor), false⟩), (1, ⟨.sc (.int .i64 s.1), false⟩), (5, ⟨.sc (.int .i64 s.2), false⟩)], []⟩) (fun x e E => match x with | (.inl d) => XEnv Γ (.exit 0) ⟨[(1, ⟨.sc (.int .i64 d), false⟩)], []⟩ e E | (.inr d) => XRet Γ #[.tmp 4] (.sc (.int .i64 d)) true e E) hd8 ?_ ?_ ?_
  apply el [] (io0 hio _) <;> rfl
  clear H hd8
  rintro ⟨v4, v5⟩ o H
  unfold laws_szFactorS_L1 at H
  (repeat apply sq)
  apply rg
  apply R_mov; rfl; rfl; rfl
  apply R_mov; rfl; rfl; rfl
  apply R_len; rfl; rfl; rfl
  apply R_lss; rfl; rfl; rfl; rfl
  apply dn
  apply x3
  (repeat apply sq)
  refine CodeT.cond rfl (fun h => ?_) (fun h => ?_)
  replace H := ifT (of_decide_eq_true h) H
  (repeat apply sq)
  apply CodeT.skip
  apply x3
  (repeat apply sq)
  apply CodeT.block
  (repeat apply sq)
  apply rg
  apply R_mov; rfl; rfl; rfl
  apply R_mov; rfl; rfl; rfl
  obtain ⟨y6, hy6, H⟩ := bindS H
  apply Run.op; (apply L_ixS2; rfl; rfl; rfl; (exact hy6); (intro _; rfl); rfl); rfl; rfl
  apply Run.op; (apply L_ldIA; rfl; (first | exact take_whole rfl | rfl); rfl; (intro h; cases h); rfl; rfl); rfl; rfl
  apply R_mov; rfl; rfl; rfl
  obtain ⟨r7, hr7, H⟩ := bindS H
  apply Run.op; (apply L_call; ((apply ArgsV.cons; (apply ArgV.val; rfl; rfl)); (apply ArgsV.cons; (apply ArgV.val; rfl; rfl)); (apply ArgsV.nil)); (exact m_laws_szFactor y6 v4 _ hr7); rfl; rfl; rfl); rfl; rfl
  apply R_asg; rfl; rfl; rfl
  apply dn
  apply x3
  (repeat apply sq)
  apply rg
  apply R_mov; rfl; rfl; rfl
  apply R_lss; rfl; rfl; rfl; rfl
  apply dn
  apply x3
  refine CodeT.cond rfl (fun h => ?_) (fun h => ?_)
  replace H := ifT (of_decide_eq_true h) H
  (repeat apply sq)
  apply rg
  apply R_asg; rfl; rfl; rfl
  apply dn
  apply x3
  apply CodeT.ret
  apply x4
  apply x1
  obtain rfl := Option.some.inj H
  refine Ev.y2 ?_
  refine XRet.mk ?_
  exact RetIs.sc1 rfl
  replace H := ifF (of_decide_eq_false h) H
  (repeat apply sq)
  apply CodeT.skip
  apply x5
  apply x3
  apply rg
  apply R_mov; rfl; rfl; rfl
  apply R_add; rfl; rfl; rfl; rfl; rfl
  apply R_asg; rfl; rfl; rfl
  apply dn
  obtain rfl := Option.some.inj H
  refine Ev.y1 ?_
  apply el [] (io0 hio _) <;> rfl
  replace H := ifF (of_decide_eq_false h) H
  (repeat apply sq)
  apply CodeT.exit
  apply x2
  obtain rfl := Option.some.inj H
  refine Ev.y3 ?_
  refine XEnv.mk ?_
  apply el [] (io0 hio _) <;> rfl
  rcases d8 with (d9 | d11)
  intro e E' hX; obtain ⟨rfl, g10⟩ := XEnv.out hX
  refine x6 rfl ?_
  apply x3
  refine CodeT.weak g10 ?_
  (repeat apply sq)
  apply rg
  apply R_mov; rfl; rfl; rfl
  apply R_asg; rfl; rfl; rfl
  apply dn
  apply x3
  apply CodeT.ret
  cases H
  apply x12
  exact RetIs.sc1 rfl
  intro e E' hX; obtain ⟨rfl, g12⟩ := XRet.out hX
  apply x4
  apply x1
  cases H
  apply x12
  exact g12
theorem m_laws_toPose (a0 : Pose) (r : Pose) (H : laws_toPose a0 = some r) : Meets Try.prog 111 [.agg (encPose a0)] (.agg (encPose r)) true := by
  refine Meets.intro2 (N := 14) (rs := #[.cell 2 86]) Try.func111 rfl rfl rfl rfl ?_
  intro Γ hio
  unfold laws_toPose at H
  (repeat apply sq)
  apply rg
  apply Run.op; (apply L_box false; rfl; rfl; rfl; (exact io1 hio _); rfl); rfl; rfl
  apply Run.op; (apply L_alloc false; (exact io1 hio _); rfl); rfl; rfl
  apply dn
  apply x3
  (repeat apply sq)
  apply rg
  apply Run.op; (apply L_alloc false; (exact io1 hio _); rfl); rfl; rfl
  apply dn
  apply x3
  (repeat apply sq)
  apply rg
  apply R_fldP; rfl; rfl; rfl; rfl; rfl
  apply R_ldP; rfl; rfl; rfl; rfl; rfl; rfl
  apply R_fldP; rfl; rfl; rfl; rfl; rfl
  apply Run.op; (apply L_st (cells' := [.sc (.int .i64 a0.fTurn), .sc (.int .i64 0), .sc (.int .i64 0)]); rfl; rfl; rfl; rfl; rfl; (intro h; cases h); rfl; (first | exact splice_whole rfl | rfl)); rfl; rfl
  apply dn
  apply x3
  (repeat apply sq)
  apply rg
  apply R_fldP; rfl; rfl; rfl; rfl; rfl
  apply R_ldP; rfl; rfl; rfl; rfl; rfl; rfl
  apply R_fldP; rfl; rfl; rfl; rfl; rfl
  apply Run.op; (apply L_st (cells' := [.sc (.int .i64 a0.fTurn), .sc (.int .i64 a0.fX), .sc (.int .i64 0)]); rfl; rfl; rfl; rfl; rfl; (intro h; cases h); rfl; (first | exact splice_whole rfl | rfl)); rfl; rfl
  apply dn
  apply x3
  (repeat apply sq)
  apply rg
  apply R_fldP; rfl; rfl; rfl; rfl; rfl
  apply R_ldP; rfl; rfl; rfl; rfl; rfl; rfl
  apply R_fldP; rfl; rfl; rfl; rfl; rfl
  apply Run.op; (apply L_st (cells' := [.sc (.int .i64 a0.fTurn), .sc (.int .i64 a0.fX), .sc (.int .i64 a0.fY)]); rfl; rfl; rfl; rfl; rfl; (intro h; cases h); rfl; (first | exact splice_whole rfl | rfl)); rfl; rfl
  apply dn
  apply x3
  (repeat apply sq)
  apply rg
  apply R_ldPA; rfl; rfl; (first | exact seg_whole rfl | rfl); rfl; rfl; rfl; rfl; rfl
  apply Run.op; (apply L_st (cells' := [.sc (.int .i64 a0.fTurn), .sc (.int .i64 a0.fX), .sc (.int .i64 a0.fY)]); rfl; rfl; rfl; rfl; rfl; (intro h; cases h); rfl; (first | exact splice_whole rfl | rfl)); rfl; rfl
  apply dn
  apply x3
  apply CodeT.ret
  cases H
  apply x12
  exact RetIs.c1 rfl rfl rfl rfl (by intro h; cases h)
theorem m_laws_toFactor (a0 : Factor) (r : Factor) (H : laws_toFactor a0 = some r) : Meets Try.prog 61 [.agg (encFactor a0)] (.agg (encFactor r)) true := by
  refine Meets.intro2 (N := 24) (rs := #[.cell 2 88]) Try.func61 rfl rfl rfl rfl ?_
  intro Γ hio
  unfold laws_toFactor at H
  (repeat apply sq)
  apply rg
  apply Run.op; (apply L_box false; rfl; rfl; rfl; (exact io1 hio _); rfl); rfl; rfl
  apply Run.op; (apply L_alloc false; (exact io1 hio _); rfl); rfl; rfl
  apply dn
  apply x3
  (repeat apply sq)
  apply rg
  apply Run.op; (apply L_alloc false; (exact io1 hio _); rfl); rfl; rfl
  apply dn
  apply x3
  (repeat apply sq)
  apply rg
  apply R_fldP; rfl; rfl; rfl; rfl; rfl
  apply R_ldP; rfl; rfl; rfl; rfl; rfl; rfl
  apply R_fldP; rfl; rfl; rfl; rfl; rfl
  apply Run.op; (apply L_st (cells' := [.sc (.int .i64 a0.fId), .sc (.int .i64 0), .sc (.string ByteArray.empty), .sc (.string ByteArray.empty), .sc (.int .i64 0), .sc (.int .i64 0), .sc (.int .i64 0), .sc (.int .i64 0)]); rfl; rfl; rfl; rfl; rfl; (intro h; cases h); rfl; (first | exact splice_whole rfl | rfl)); rfl; rfl
  apply dn
  apply x3
  (repeat apply sq)
  apply rg
  apply R_fldP; rfl; rfl; rfl; rfl; rfl
  apply R_ldP; rfl; rfl; rfl; rfl; rfl; rfl
  apply R_fldP; rfl; rfl; rfl; rfl; rfl
  apply Run.op; (apply L_st (cells' := [.sc (.int .i64 a0.fId), .sc (.int .i64 a0.fKind), .sc (.string ByteArray.empty), .sc (.string ByteArray.empty), .sc (.int .i64 0), .sc (.int .i64 0), .sc (.int .i64 0), .sc (.int .i64 0)]); rfl; rfl; rfl; rfl; rfl; (intro h; cases h); rfl; (first | exact splice_whole rfl | rfl)); rfl; rfl
  apply dn
  apply x3
  (repeat apply sq)
  apply rg
  apply R_fldP; rfl; rfl; rfl; rfl; rfl
  apply R_ldP; rfl; rfl; rfl; rfl; rfl; rfl
  apply R_fldP; rfl; rfl; rfl; rfl; rfl
  apply Run.op; (apply L_st (cells' := [.sc (.int .i64 a0.fId), .sc (.int .i64 a0.fKind), .sc (.string a0.fFrom), .sc (.string ByteArray.empty), .sc (.int .i64 0), .sc (.int .i64 0), .sc (.int .i64 0), .sc (.int .i64 0)]); rfl; rfl; rfl; rfl; rfl; (intro h; cases h); rfl; (first | exact splice_whole rfl | rfl)); rfl; rfl
  apply dn
  apply x3
  (repeat apply sq)
  apply rg
  apply R_fldP; rfl; rfl; rfl; rfl; rfl
  apply R_ldP; rfl; rfl; rfl; rfl; rfl; rfl
  apply R_fldP; rfl; rfl; rfl; rfl; rfl
  apply Run.op; (apply L_st (cells' := [.sc (.int .i64 a0.fId), .sc (.int .i64 a0.fKind), .sc (.string a0.fFrom), .sc (.string a0.fTo), .sc (.int .i64 0), .sc (.int .i64 0), .sc (.int .i64 0), .sc (.int .i64 0)]); rfl; rfl; rfl; rfl; rfl; (intro h; cases h); rfl; (first | exact splice_whole rfl | rfl)); rfl; rfl
  apply dn
  apply x3
  (repeat apply sq)
  apply rg
  apply R_fldP; rfl; rfl; rfl; rfl; rfl
  apply R_ldPA; rfl; rfl; (first | exact seg_whole rfl | rfl); rfl; rfl; rfl; rfl; rfl
  obtain ⟨r1, hr1, H⟩ := bindS H
  apply Run.op; (apply L_call; ((apply ArgsV.cons; (apply ArgV.val; rfl; rfl)); (apply ArgsV.nil)); (exact m_laws_toPose a0.fPose _ hr1); rfl; rfl; rfl); rfl; rfl
  apply R_fldP; rfl; rfl; rfl; rfl; rfl
  apply Run.op; (apply L_st (cells' := [.sc (.int .i64 a0.fId), .sc (.int .i64 a0.fKind), .sc (.string a0.fFrom), .sc (.string a0.fTo), .sc (.int .i64 r1.fTurn), .sc (.int .i64 r1.fX), .sc (.int .i64 r1.fY), .sc (.int .i64 0)]); rfl; rfl; rfl; rfl; rfl; (intro h; cases h); rfl; (first | exact splice_whole rfl | rfl)); rfl; rfl
  apply dn
  apply x3
  (repeat apply sq)
  apply rg
  apply R_fldP; rfl; rfl; rfl; rfl; rfl
  apply R_ldP; rfl; rfl; rfl; rfl; rfl; rfl
  apply R_fldP; rfl; rfl; rfl; rfl; rfl
  apply Run.op; (apply L_st (cells' := [.sc (.int .i64 a0.fId), .sc (.int .i64 a0.fKind), .sc (.string a0.fFrom), .sc (.string a0.fTo), .sc (.int .i64 r1.fTurn), .sc (.int .i64 r1.fX), .sc (.int .i64 r1.fY), .sc (.int .i64 a0.fWeight)]); rfl; rfl; rfl; rfl; rfl; (intro h; cases h); rfl; (first | exact splice_whole rfl | rfl)); rfl; rfl
  apply dn
  apply x3
  (repeat apply sq)
  apply rg
  apply R_ldPA; rfl; rfl; (first | exact seg_whole rfl | rfl); rfl; rfl; rfl; rfl; rfl
  apply Run.op; (apply L_st (cells' := [.sc (.int .i64 a0.fId), .sc (.int .i64 a0.fKind), .sc (.string a0.fFrom), .sc (.string a0.fTo), .sc (.int .i64 r1.fTurn), .sc (.int .i64 r1.fX), .sc (.int .i64 r1.fY), .sc (.int .i64 a0.fWeight)]); rfl; rfl; rfl; rfl; rfl; (intro h; cases h); rfl; (first | exact splice_whole rfl | rfl)); rfl; rfl
  apply dn
  apply x3
  apply CodeT.ret
  cases H
  apply x12
  exact RetIs.c1 rfl rfl rfl rfl (by intro h; cases h)
theorem m_laws_toFactorS (a0 : (List Factor)) (r : (List Factor)) (H : laws_toFactorS a0 = some r) : Meets Try.prog 16 [.sl a0.length (a0.flatMap encFactor)] (.rw 8 r.length (r.flatMap encFactor)) true := by
  refine Meets.intro2 (N := 23) (rs := #[.tmp 2]) Try.func16 rfl rfl rfl rfl ?_
  intro Γ hio
  unfold laws_toFactorS at H
  (repeat apply sq)
  apply rg
  apply R_asg; rfl; rfl; rfl
  apply dn
  apply x3
  (repeat apply sq)
  apply rg
  apply R_mov; rfl; rfl; rfl
  apply R_len; rfl; rfl; rfl
  obtain ⟨_u, hm1, H⟩ := bindS H
  apply Run.op; (apply L_make2 (enc := encFactor) (z := (Factor.mk 0 0 ByteArray.empty ByteArray.empty (Pose.mk 0 0 0) 0)); rfl; rfl; rfl; (exact chkS hm1); rfl; decide; (intro h; cases h); (exact io1 hio _); rfl); rfl; rfl
  apply R_asg; rfl; rfl; rfl
  apply dn
  apply x3
  (repeat apply sq)
  apply rg
  apply R_asg; rfl; rfl; rfl
  apply dn
  apply x3
  (repeat apply sq)
  apply CodeT.block
  (repeat apply sq)
  obtain ⟨d15, hd15, H⟩ := bindS H
  refine CodeT.lloop (fun s => ⟨[(0, ⟨.sl a0.length (a0.flatMap encFactor), false⟩), (3, ⟨.ref 503 8 0 s.2.length, false⟩), (4, ⟨.sc (.int .i64 s.1), false⟩)], [(503, some ⟨s.2.flatMap encFactor, true, false⟩)]⟩) (fun d e E => XEnv Γ (.exit 0) ⟨[(3, ⟨.ref 503 8 0 d.length, false⟩)], [(503, some ⟨d.flatMap encFactor, true, false⟩)]⟩ e E) hd15 ?_ ?_ ?_
  apply el [(503, 7)] (io0 hio _) <;> rfl
  clear H hd15
  rintro ⟨v7, v8⟩ o H
  unfold laws_toFactorS_L1 at H
  (repeat apply sq)
  apply rg
  apply R_mov; rfl; rfl; rfl
  apply R_mov; rfl; rfl; rfl
  apply R_len; rfl; rfl; rfl
  apply R_lss; rfl; rfl; rfl; rfl
  apply dn
  apply x3
  (repeat apply sq)
  refine CodeT.cond rfl (fun h => ?_) (fun h => ?_)
  replace H := ifT (of_decide_eq_true h) H
  (repeat apply sq)
  apply CodeT.skip
  apply x3
  (repeat apply sq)
  apply CodeT.block
  (repeat apply sq)
  apply rg
  apply R_mov; rfl; rfl; rfl
  apply R_mov; rfl; rfl; rfl
  apply R_mov; rfl; rfl; rfl
  apply R_mov; rfl; rfl; rfl
  obtain ⟨y9, hy9, H⟩ := bindS H
  apply Run.op; (apply L_ixS2; rfl; rfl; rfl; (exact hy9); (intro _; rfl); rfl); rfl; rfl
  apply Run.op; (apply L_ldIA; rfl; (first | exact take_whole rfl | rfl); rfl; (intro h; cases h); rfl; rfl); rfl; rfl
  obtain ⟨r10, hr10, H⟩ := bindS H
  apply Run.op; (apply L_call; ((apply ArgsV.cons; (apply ArgV.val; rfl; rfl)); (apply ArgsV.nil)); (exact m_laws_toFactor y9 _ hr10); rfl; rfl; rfl); rfl; rfl
  obtain ⟨y11, hy11, H⟩ := bindS H
  apply Run.op; (apply L_ixR2; rfl; rfl; rfl; (exact hy11); rfl; rfl); rfl; rfl
  obtain ⟨v12, hv12, H⟩ := bindS H
  have hl13 := setI_lenS hv12
  apply Run.op; (apply L_st; rfl; rfl; rfl; rfl; rfl; (intro h; cases h); (exact row_ble0 (sz := 8) (n := 8) hy11 (fun _ => rfl) (by decide)); (exact row_stL (sz := 8) hv12 hy11 (fun _ => rfl) rfl)); rfl; rfl
  apply dn
  apply x5
  apply x3
  refine CodeT.weak (Ent.relen (k := 3) (n' := v12.length) rfl (by first | (simp only [setI_len]; done) | (simp only [setI_len]; omega) | omega)) ?_
  apply rg
  apply R_mov; rfl; rfl; rfl
  apply R_add; rfl; rfl; rfl; rfl; rfl
  apply R_asg; rfl; rfl; rfl
  apply dn
  obtain rfl := Option.some.inj H
  refine Ev.y1 ?_
  apply el [] (io0 hio _) <;> rfl
  replace H := ifF (of_decide_eq_false h) H
  (repeat apply sq)
  apply CodeT.exit
  apply x2
  obtain rfl := Option.some.inj H
  refine Ev.y3 ?_
  refine XEnv.mk ?_
  apply el [] (io0 hio _) <;> rfl
  skip
  intro e E' hX; obtain ⟨rfl, g16⟩ := XEnv.out hX
  refine x6 rfl ?_
  apply x3
  refine CodeT.weak g16 ?_
  (repeat apply sq)
  apply rg
  apply R_mov; rfl; rfl; rfl
  apply R_asg; rfl; rfl; rfl
  apply dn
  apply x3
  apply CodeT.ret
  cases H
  apply x12
  exact RetIs.rW rfl rfl rfl (io1 hio _)
theorem m_spec_l01In (a0 : Int) (a1 : Int) (a2 : Int) (r : Bool) (H : spec_l01In a0 a1 a2 = some r) : Meets Try.prog 87 [.sc (.int .i64 a0), .sc (.int .i64 a1), .sc (.int .i64 a2)] (.sc (.bool r)) true := by
  refine Meets.intro2 (N := 15) (rs := #[.tmp 6]) Try.func87 rfl rfl rfl rfl ?_
  intro Γ hio
  unfold spec_l01In at H
  (repeat apply sq)
  apply rg
  apply R_asg; rfl; rfl; rfl
  apply dn
  apply x3
  (repeat apply sq)
  apply rg
  apply R_mov; rfl; rfl; rfl
  apply R_mov; rfl; rfl; rfl
  apply R_dec; (apply L_geq; rfl; rfl; rfl); rfl
  intro h; replace H := ifT h H
  apply R_mov; rfl; rfl; rfl
  apply R_mov; rfl; rfl; rfl
  apply R_mov; rfl; rfl; rfl
  apply R_leq; rfl; rfl; rfl; rfl
  apply R_pickT; rfl; rfl; rfl; rfl
  apply R_asg; rfl; rfl; rfl
  apply dn
  apply x3
  apply CodeT.ret
  cases H
  apply x12
  exact RetIs.sc1 rfl
  intro h; replace H := ifF h H
  apply R_mov; rfl; rfl; rfl
  apply Run.skip; rfl
  apply Run.skip; rfl
  apply Run.skip; rfl
  apply R_pickF; rfl; rfl; rfl; rfl
  apply R_asg; rfl; rfl; rfl
  apply dn
  apply x3
  apply CodeT.ret
  cases H
  apply x12
  exact RetIs.sc1 rfl
theorem m_spec_IsValidPose (a0 : Pose) (r : Bool) (H : spec_IsValidPose a0 = some r) : Meets Try.prog 145 [.agg (encPose a0)] (.sc (.bool r)) true := by
  refine Meets.intro2 (N := 16) (rs := #[.tmp 2]) Try.func145 rfl rfl rfl rfl ?_
  intro Γ hio
  unfold spec_IsValidPose at H
  (repeat apply sq)
  apply rg
  apply Run.op; (apply L_box false; rfl; rfl; rfl; (exact io1 hio _); rfl); rfl; rfl
  apply R_asg; rfl; rfl; rfl
  apply dn
  apply x3
  (repeat apply sq)
  apply rg
  apply R_fldP; rfl; rfl; rfl; rfl; rfl
  apply R_ldP; rfl; rfl; rfl; rfl; rfl; rfl
  obtain ⟨r1, hr1, H⟩ := bindS H
  apply R_bool; (apply L_call; ((apply ArgsV.cons; (apply ArgV.val; rfl; rfl)); (apply ArgsV.cons; (apply ArgV.val; rfl; rfl)); (apply ArgsV.cons; (apply ArgV.val; rfl; rfl)); (apply ArgsV.nil)); (exact m_spec_l01In a0.fTurn 0 3 _ hr1); rfl; rfl; rfl); rfl
  intro h; replace H := ifTb h H
  apply R_mov; rfl; rfl; rfl
  apply R_fldP; rfl; rfl; rfl; rfl; rfl
  apply R_ldP; rfl; rfl; rfl; rfl; rfl; rfl
  obtain ⟨r2, hr2, H⟩ := bindS H
  apply R_bool; (apply L_call; ((apply ArgsV.cons; (apply ArgV.val; rfl; rfl)); (apply ArgsV.cons; (apply ArgV.val; rfl; rfl)); (apply ArgsV.cons; (apply ArgV.val; rfl; rfl)); (apply ArgsV.nil)); (exact m_spec_l01In a0.fX (-1000000) 1000000 _ hr2); rfl; rfl; rfl); rfl
  intro h; replace H := ifTb h H
  apply R_pickT; rfl; rfl; rfl; rfl
  apply R_mov; rfl; rfl; rfl
  apply R_fldP; rfl; rfl; rfl; rfl; rfl
  apply R_ldP; rfl; rfl; rfl; rfl; rfl; rfl
  obtain ⟨r3, hr3, H⟩ := bindS H
  apply Run.op; (apply L_call; ((apply ArgsV.cons; (apply ArgV.val; rfl; rfl)); (apply ArgsV.cons; (apply ArgV.val; rfl; rfl)); (apply ArgsV.cons; (apply ArgV.val; rfl; rfl)); (apply ArgsV.nil)); (exact m_spec_l01In a0.fY (-1000000) 1000000 _ hr3); rfl; rfl; rfl); rfl; rfl
  apply R_pickT; rfl; rfl; rfl; rfl
  apply R_asg; rfl; rfl; rfl
  apply dn
  apply x3
  apply CodeT.ret
  cases H
  apply x12
  exact RetIs.sc1 rfl
  intro h; replace H := ifFb h H
  apply R_pickT; rfl; rfl; rfl; rfl
  apply R_mov; rfl; rfl; rfl
  apply Run.skip; rfl
  apply Run.skip; rfl
  apply Run.skip; rfl
  apply R_pickF; rfl; rfl; rfl; rfl
  apply R_asg; rfl; rfl; rfl
  apply dn
  apply x3
  apply CodeT.ret
  cases H
  apply x12
  exact RetIs.sc1 rfl
  intro h; replace H := ifFb h H
  apply R_mov; rfl; rfl; rfl
  apply Run.skip; rfl
  apply Run.skip; rfl
  apply Run.skip; rfl
  apply R_pickF; rfl; rfl; rfl; rfl
  apply R_mov; rfl; rfl; rfl
  apply Run.skip; rfl
  apply Run.skip; rfl
  apply Run.skip; rfl
  apply R_pickF; rfl; rfl; rfl; rfl
  apply R_asg; rfl; rfl; rfl
  apply dn
  apply x3
  apply CodeT.ret
  cases H
  apply x12
  exact RetIs.sc1 rfl
theorem m_spec_IsName (a0 : ByteArray) (r : Bool) (H : spec_IsName a0 = some r) : Meets Try.prog 171 [.sc (.string a0)] (.sc (.bool r)) true := by
  refine Meets.intro2 (N := 42) (rs := #[.tmp 2]) Try.func171 rfl rfl rfl rfl ?_
  intro Γ hio
  unfold spec_IsName at H
  (repeat apply sq)
  apply rg
  apply R_asg; rfl; rfl; rfl
  apply dn
  apply x3
  (repeat apply sq)
  apply rg
  apply R_asg; rfl; rfl; rfl
  apply dn
  apply x3
  (repeat apply sq)
  apply CodeT.block
  (repeat apply sq)
  obtain ⟨d22, hd22, H⟩ := bindS H
  refine CodeT.lloop (fun s => ⟨[(0, ⟨.sc (.string a0), false⟩), (3, ⟨.sc (.int .i64 s), false⟩)], []⟩) (fun x e E => match x with | (.inl d) => XEnv Γ (.exit 0) ⟨[(0, ⟨.sc (.string a0), false⟩)], []⟩ e E | (.inr d) => XRet Γ #[.tmp 2] (.sc (.bool d)) true e E) hd22 ?_ ?_ ?_
  apply el [] (io0 hio _) <;> rfl
  clear H hd22
  rintro v11 o H
  unfold spec_IsName_L1 at H
  (repeat apply sq)
  apply rg
  apply R_mov; rfl; rfl; rfl
  apply R_mov; rfl; rfl; rfl
  apply Run.op; (apply L_lenS; rfl; rfl); rfl; rfl
  apply R_lss; rfl; rfl; rfl; rfl
  apply dn
  apply x3
  (repeat apply sq)
  refine CodeT.cond rfl (fun h => ?_) (fun h => ?_)
  replace H := ifT (of_decide_eq_true h) H
  (repeat apply sq)
  apply CodeT.skip
  apply x3
  (repeat apply sq)
  apply CodeT.block
  (repeat apply sq)
  obtain ⟨d15, hd15, H⟩ := bindS H
  refine CodeT.lcut (x := d15) (fun d e E => XEnv Γ .normal ⟨[(0, ⟨.sc (.string a0), false⟩), (3, ⟨.sc (.int .i64 v11), false⟩), (4, ⟨.sc (.bool d), false⟩)], []⟩ e E) ?_ ?_
  clear H; have H := hd15; clear hd15
  apply rg
  apply R_mov; rfl; rfl; rfl
  apply R_mov; rfl; rfl; rfl
  obtain ⟨b12, hb12, H⟩ := bindS H
  apply Run.op; (apply L_indexS2; rfl; rfl; (exact hb12); rfl); rfl; rfl
  apply R_dec; (apply L_geq; rfl; rfl; rfl); rfl
  intro h; replace H := ifT h H
  apply R_mov; rfl; rfl; rfl
  apply R_mov; rfl; rfl; rfl
  apply R_mov; rfl; rfl; rfl
  obtain ⟨b13, hb13, H⟩ := bindS H
  apply Run.op; (apply L_indexS2; rfl; rfl; (exact hb13); rfl); rfl; rfl
  apply R_leq; rfl; rfl; rfl; rfl
  apply R_pickT; rfl; rfl; rfl; rfl
  apply R_asg; rfl; rfl; rfl
  apply dn
  obtain rfl := Option.some.inj H
  refine Ev.y4 ?_
  refine XEnv.mk ?_
  apply el [] (io0 hio _) <;> rfl
  intro h; replace H := ifF h H
  apply R_mov; rfl; rfl; rfl
  apply Run.skip; rfl
  apply Run.skip; rfl
  apply Run.skip; rfl
  apply Run.skip; rfl
  apply R_pickF; rfl; rfl; rfl; rfl
  apply R_asg; rfl; rfl; rfl
  apply dn
  obtain rfl := Option.some.inj H
  refine Ev.y4 ?_
  refine XEnv.mk ?_
  apply el [] (io0 hio _) <;> rfl
  intro e E' hX; obtain ⟨rfl, g16⟩ := XEnv.out hX
  apply x3
  refine CodeT.weak g16 ?_
  (repeat apply sq)
  obtain ⟨d20, hd20, H⟩ := bindS H
  refine CodeT.lcut (x := d20) (fun d e E => XEnv Γ .normal ⟨[(0, ⟨.sc (.string a0), false⟩), (3, ⟨.sc (.int .i64 v11), false⟩), (38, ⟨.sc (.bool d), false⟩)], []⟩ e E) ?_ ?_
  clear H; have H := hd20; clear hd20
  apply rg
  apply R_bool; (apply L_mov; rfl; rfl); rfl
  intro h; replace H := ifTb h H
  apply R_not; rfl; rfl; rfl
  apply R_mov; rfl; rfl; rfl
  apply Run.skip; rfl
  apply Run.skip; rfl
  apply Run.skip; rfl
  apply Run.skip; rfl
  apply Run.skip; rfl
  apply Run.skip; rfl
  apply Run.skip; rfl
  apply Run.skip; rfl
  apply Run.skip; rfl
  apply Run.skip; rfl
  apply Run.skip; rfl
  apply Run.skip; rfl
  apply Run.skip; rfl
  apply Run.skip; rfl
  apply R_pickF; rfl; rfl; rfl; rfl
  apply dn
  obtain rfl := Option.some.inj H
  refine Ev.y4 ?_
  refine XEnv.mk ?_
  apply el [] (io0 hio _) <;> rfl
  intro h; replace H := ifFb h H
  apply R_not; rfl; rfl; rfl
  apply R_mov; rfl; rfl; rfl
  apply R_mov; rfl; rfl; rfl
  apply R_dec; (apply L_eql; rfl; rfl; rfl); rfl
  intro h; replace H := ifT h H
  apply R_mov; rfl; rfl; rfl
  apply Run.skip; rfl
  apply Run.skip; rfl
  apply Run.skip; rfl
  apply Run.skip; rfl
  apply R_pickT; rfl; rfl; rfl; rfl
  apply R_mov; rfl; rfl; rfl
  apply Run.skip; rfl
  apply Run.skip; rfl
  apply Run.skip; rfl
  apply Run.skip; rfl
  apply R_pickT; rfl; rfl; rfl; rfl
  apply R_pickT; rfl; rfl; rfl; rfl
  apply dn
  obtain rfl := Option.some.inj H
  refine Ev.y4 ?_
  refine XEnv.mk ?_
  apply el [] (io0 hio _) <;> rfl
  intro h; replace H := ifF h H
  apply R_mov; rfl; rfl; rfl
  apply R_mov; rfl; rfl; rfl
  apply R_mov; rfl; rfl; rfl
  obtain ⟨b17, hb17, H⟩ := bindS H
  apply Run.op; (apply L_indexS2; rfl; rfl; (exact hb17); rfl); rfl; rfl
  apply R_dec; (apply L_lss; rfl; rfl; rfl); rfl
  intro h; replace H := ifT h H
  apply R_pickF; rfl; rfl; rfl; rfl
  apply R_mov; rfl; rfl; rfl
  apply Run.skip; rfl
  apply Run.skip; rfl
  apply Run.skip; rfl
  apply Run.skip; rfl
  apply R_pickT; rfl; rfl; rfl; rfl
  apply R_pickT; rfl; rfl; rfl; rfl
  apply dn
  obtain rfl := Option.some.inj H
  refine Ev.y4 ?_
  refine XEnv.mk ?_
  apply el [] (io0 hio _) <;> rfl
  intro h; replace H := ifF h H
  apply R_pickF; rfl; rfl; rfl; rfl
  apply R_mov; rfl; rfl; rfl
  apply R_mov; rfl; rfl; rfl
  apply R_mov; rfl; rfl; rfl
  obtain ⟨b18, hb18, H⟩ := bindS H
  apply Run.op; (apply L_indexS2; rfl; rfl; (exact hb18); rfl); rfl; rfl
  apply R_gtr; rfl; rfl; rfl; rfl
  apply R_pickF; rfl; rfl; rfl; rfl
  apply R_pickT; rfl; rfl; rfl; rfl
  apply dn
  obtain rfl := Option.some.inj H
  refine Ev.y4 ?_
  refine XEnv.mk ?_
  apply el [] (io0 hio _) <;> rfl
  intro e E' hX; obtain ⟨rfl, g21⟩ := XEnv.out hX
  apply x3
  refine CodeT.weak g21 ?_
  refine CodeT.cond rfl (fun h => ?_) (fun h => ?_)
  replace H := ifTb h H
  (repeat apply sq)
  apply rg
  apply R_asg; rfl; rfl; rfl
  apply dn
  apply x3
  apply CodeT.ret
  apply x4
  apply x1
  obtain rfl := Option.some.inj H
  refine Ev.y2 ?_
  refine XRet.mk ?_
  exact RetIs.sc1 rfl
  replace H := ifFb h H
  (repeat apply sq)
  apply CodeT.skip
  apply x5
  apply x3
  apply rg
  apply R_mov; rfl; rfl; rfl
  apply R_add; rfl; rfl; rfl; rfl; rfl
  apply R_asg; rfl; rfl; rfl
  apply dn
  obtain rfl := Option.some.inj H
  refine Ev.y1 ?_
  apply el [] (io0 hio _) <;> rfl
  replace H := ifF (of_decide_eq_false h) H
  (repeat apply sq)
  apply CodeT.exit
  apply x2
  obtain rfl := Option.some.inj H
  refine Ev.y3 ?_
  refine XEnv.mk ?_
  apply el [] (io0 hio _) <;> rfl
  rcases d22 with (d23 | d26)
  intro e E' hX; obtain ⟨rfl, g24⟩ := XEnv.out hX
  refine x6 rfl ?_
  apply x3
  refine CodeT.weak g24 ?_
  (repeat apply sq)
  apply rg
  apply R_mov; rfl; rfl; rfl
  apply Run.op; (apply L_lenS; rfl; rfl); rfl; rfl
  obtain ⟨r25, hr25, H⟩ := bindS H
  apply Run.op; (apply L_call; ((apply ArgsV.cons; (apply ArgV.val; rfl; rfl)); (apply ArgsV.cons; (apply ArgV.val; rfl; rfl)); (apply ArgsV.cons; (apply ArgV.val; rfl; rfl)); (apply ArgsV.nil)); (exact m_spec_l01In (a0.size : Int) 1 8 _ hr25); rfl; rfl; rfl); rfl; rfl
  apply R_asg; rfl; rfl; rfl
  apply dn
  apply x3
  apply CodeT.ret
  cases H
  apply x12
  exact RetIs.sc1 rfl
  intro e E' hX; obtain ⟨rfl, g27⟩ := XRet.out hX
  apply x4
  apply x1
  cases H
  apply x12
  exact g27
theorem m_spec_IsPoseName (a0 : ByteArray) (r : Bool) (H : spec_IsPoseName a0 = some r) : Meets Try.prog 146 [.sc (.string a0)] (.sc (.bool r)) true := by
  refine Meets.intro2 (N := 10) (rs := #[.tmp 2]) Try.func146 rfl rfl rfl rfl ?_
  intro Γ hio
  unfold spec_IsPoseName at H
  (repeat apply sq)
  apply rg
  apply R_asg; rfl; rfl; rfl
  apply dn
  apply x3
  (repeat apply sq)
  apply rg
  apply R_mov; rfl; rfl; rfl
  obtain ⟨r1, hr1, H⟩ := bindS H
  apply R_bool; (apply L_call; ((apply ArgsV.cons; (apply ArgV.val; rfl; rfl)); (apply ArgsV.nil)); (exact m_spec_IsName a0 _ hr1); rfl; rfl; rfl); rfl
  intro h; replace H := ifTb h H
  apply R_mov; rfl; rfl; rfl
  apply R_mov; rfl; rfl; rfl
  obtain ⟨b2, hb2, H⟩ := bindS H
  apply Run.op; (apply L_indexS2; rfl; rfl; (exact hb2); rfl); rfl; rfl
  apply R_eql; rfl; rfl; rfl; rfl
  apply R_pickT; rfl; rfl; rfl; rfl
  apply R_asg; rfl; rfl; rfl
  apply dn
  apply x3
  apply CodeT.ret
  cases H
  apply x12
  exact RetIs.sc1 rfl
  intro h; replace H := ifFb h H
  apply R_mov; rfl; rfl; rfl
  apply Run.skip; rfl
  apply Run.skip; rfl
  apply Run.skip; rfl
  apply R_pickF; rfl; rfl; rfl; rfl
  apply R_asg; rfl; rfl; rfl
  apply dn
  apply x3
  apply CodeT.ret
  cases H
  apply x12
  exact RetIs.sc1 rfl
theorem m_spec_IsLandmarkName (a0 : ByteArray) (r : Bool) (H : spec_IsLandmarkName a0 = some r) : Meets Try.prog 147 [.sc (.string a0)] (.sc (.bool r)) true := by
  refine Meets.intro2 (N := 10) (rs := #[.tmp 2]) Try.func147 rfl rfl rfl rfl ?_
  intro Γ hio
  unfold spec_IsLandmarkName at H
  (repeat apply sq)
  apply rg
  apply R_asg; rfl; rfl; rfl
  apply dn
  apply x3
  (repeat apply sq)
  apply rg
  apply R_mov; rfl; rfl; rfl
  obtain ⟨r1, hr1, H⟩ := bindS H
  apply R_bool; (apply L_call; ((apply ArgsV.cons; (apply ArgV.val; rfl; rfl)); (apply ArgsV.nil)); (exact m_spec_IsName a0 _ hr1); rfl; rfl; rfl); rfl
  intro h; replace H := ifTb h H
  apply R_mov; rfl; rfl; rfl
  apply R_mov; rfl; rfl; rfl
  obtain ⟨b2, hb2, H⟩ := bindS H
  apply Run.op; (apply L_indexS2; rfl; rfl; (exact hb2); rfl); rfl; rfl
  apply R_eql; rfl; rfl; rfl; rfl
  apply R_pickT; rfl; rfl; rfl; rfl
  apply R_asg; rfl; rfl; rfl
  apply dn
  apply x3
  apply CodeT.ret
  cases H
  apply x12
  exact RetIs.sc1 rfl
  intro h; replace H := ifFb h H
  apply R_mov; rfl; rfl; rfl
  apply Run.skip; rfl
  apply Run.skip; rfl
  apply Run.skip; rfl
  apply R_pickF; rfl; rfl; rfl; rfl
  apply R_asg; rfl; rfl; rfl
  apply dn
  apply x3
  apply CodeT.ret
  cases H
  apply x12
  exact RetIs.sc1 rfl
theorem m_spec_IsValidFactor (a0 : Factor) (r : Bool) (H : spec_IsValidFactor a0 = some r) : Meets Try.prog 108 [.agg (encFactor a0)] (.sc (.bool r)) true := by
  refine Meets.intro2 (N := 65) (rs := #[.tmp 2]) Try.func108 rfl rfl rfl rfl ?_
  intro Γ hio
  unfold spec_IsValidFactor at H
  (repeat apply sq)
  apply rg
  apply Run.op; (apply L_box false; rfl; rfl; rfl; (exact io1 hio _); rfl); rfl; rfl
  apply R_asg; rfl; rfl; rfl
  apply dn
  apply x3
  (repeat apply sq)
  obtain ⟨d5, hd5, H⟩ := bindS H
  refine CodeT.lcut (x := d5) (fun d e E => XEnv Γ .normal ⟨[(1, ⟨.ptr 1 0, false⟩), (18, ⟨.sc (.bool d), false⟩)], [(1, some ⟨(encFactor a0), true, false⟩)]⟩ e E) ?_ ?_
  clear H; have H := hd5; clear hd5
  apply rg
  apply R_fldP; rfl; rfl; rfl; rfl; rfl
  apply R_ldP; rfl; rfl; rfl; rfl; rfl; rfl
  obtain ⟨r1, hr1, H⟩ := bindS H
  apply R_bool; (apply L_call; ((apply ArgsV.cons; (apply ArgV.val; rfl; rfl)); (apply ArgsV.cons; (apply ArgV.val; rfl; rfl)); (apply ArgsV.cons; (apply ArgV.val; rfl; rfl)); (apply ArgsV.nil)); (exact m_spec_l01In a0.fId 0 99999 _ hr1); rfl; rfl; rfl); rfl
  intro h; replace H := ifTb h H
  apply R_not; rfl; rfl; rfl
  apply R_mov; rfl; rfl; rfl
  apply R_fldP; rfl; rfl; rfl; rfl; rfl
  apply R_ldPA; rfl; rfl; (first | exact seg_whole rfl | rfl); rfl; rfl; rfl; rfl; rfl
  obtain ⟨r2, hr2, H⟩ := bindS H
  apply R_bool; (apply L_call; ((apply ArgsV.cons; (apply ArgV.val; rfl; rfl)); (apply ArgsV.nil)); (exact m_spec_IsValidPose a0.fPose _ hr2); rfl; rfl; rfl); rfl
  intro h; replace H := ifTb h H
  apply R_not; rfl; rfl; rfl
  apply R_pickF; rfl; rfl; rfl; rfl
  apply R_mov; rfl; rfl; rfl
  apply R_fldP; rfl; rfl; rfl; rfl; rfl
  apply R_ldP; rfl; rfl; rfl; rfl; rfl; rfl
  obtain ⟨r3, hr3, H⟩ := bindS H
  apply Run.op; (apply L_call; ((apply ArgsV.cons; (apply ArgV.val; rfl; rfl)); (apply ArgsV.cons; (apply ArgV.val; rfl; rfl)); (apply ArgsV.cons; (apply ArgV.val; rfl; rfl)); (apply ArgsV.nil)); (exact m_spec_l01In a0.fWeight 1 9999 _ hr3); rfl; rfl; rfl); rfl; rfl
  apply R_not; rfl; rfl; rfl
  apply R_pickF; rfl; rfl; rfl; rfl
  apply dn
  obtain rfl := Option.some.inj H
  refine Ev.y4 ?_
  refine XEnv.mk ?_
  apply el [] (io0 hio _) <;> rfl
  intro h; replace H := ifFb h H
  apply R_not; rfl; rfl; rfl
  apply R_pickF; rfl; rfl; rfl; rfl
  apply R_mov; rfl; rfl; rfl
  apply Run.skip; rfl
  apply Run.skip; rfl
  apply Run.skip; rfl
  apply Run.skip; rfl
  apply R_pickT; rfl; rfl; rfl; rfl
  apply dn
  obtain rfl := Option.some.inj H
  refine Ev.y4 ?_
  refine XEnv.mk ?_
  apply el [] (io0 hio _) <;> rfl
  intro h; replace H := ifFb h H
  apply R_not; rfl; rfl; rfl
  apply R_mov; rfl; rfl; rfl
  apply Run.skip; rfl
  apply Run.skip; rfl
  apply Run.skip; rfl
  apply Run.skip; rfl
  apply R_pickT; rfl; rfl; rfl; rfl
  apply R_mov; rfl; rfl; rfl
  apply Run.skip; rfl
  apply Run.skip; rfl
  apply Run.skip; rfl
  apply Run.skip; rfl
  apply R_pickT; rfl; rfl; rfl; rfl
  apply dn
  obtain rfl := Option.some.inj H
  refine Ev.y4 ?_
  refine XEnv.mk ?_
  apply el [] (io0 hio _) <;> rfl
  intro e E' hX; obtain ⟨rfl, g6⟩ := XEnv.out hX
  apply x3
  refine CodeT.weak g6 ?_
  (repeat apply sq)
  refine CodeT.cond rfl (fun h => ?_) (fun h => ?_)
  replace H := ifTb h H
  (repeat apply sq)
  apply rg
  apply R_asg; rfl; rfl; rfl
  apply dn
  apply x3
  apply CodeT.ret
  apply x1
  cases H
  apply x12
  exact RetIs.sc1 rfl
  replace H := ifFb h H
  (repeat apply sq)
  apply CodeT.skip
  apply x3
  (repeat apply sq)
  apply rg
  apply R_fldP; rfl; rfl; rfl; rfl; rfl
  apply R_ldP; rfl; rfl; rfl; rfl; rfl; rfl
  apply dn
  apply x3
  (repeat apply sq)
  apply CodeT.block
  (repeat apply sq)
  apply rg
  apply R_eql; rfl; rfl; rfl; rfl
  apply R_asg; rfl; rfl; rfl
  apply dn
  apply x3
  refine CodeT.cond rfl (fun h => ?_) (fun h => ?_)
  replace H := ifT (of_decide_eq_true h) H
  (repeat apply sq)
  apply rg
  apply R_fldP; rfl; rfl; rfl; rfl; rfl
  apply R_ldP; rfl; rfl; rfl; rfl; rfl; rfl
  apply R_dec; (apply L_seql; rfl; rfl; rfl); rfl
  intro h; replace H := ifT h H
  apply R_mov; rfl; rfl; rfl
  apply R_fldP; rfl; rfl; rfl; rfl; rfl
  apply R_ldP; rfl; rfl; rfl; rfl; rfl; rfl
  obtain ⟨r7, hr7, H⟩ := bindS H
  apply Run.op; (apply L_call; ((apply ArgsV.cons; (apply ArgV.val; rfl; rfl)); (apply ArgsV.nil)); (exact m_spec_IsPoseName a0.fTo _ hr7); rfl; rfl; rfl); rfl; rfl
  apply R_pickT; rfl; rfl; rfl; rfl
  apply R_asg; rfl; rfl; rfl
  apply dn
  apply x3
  apply CodeT.ret
  apply x4
  apply x1
  cases H
  apply x12
  exact RetIs.sc1 rfl
  intro h; replace H := ifF h H
  apply R_mov; rfl; rfl; rfl
  apply Run.skip; rfl
  apply Run.skip; rfl
  apply Run.skip; rfl
  apply R_pickF; rfl; rfl; rfl; rfl
  apply R_asg; rfl; rfl; rfl
  apply dn
  apply x3
  apply CodeT.ret
  apply x4
  apply x1
  cases H
  apply x12
  exact RetIs.sc1 rfl
  replace H := ifF (of_decide_eq_false h) H
  (repeat apply sq)
  apply rg
  apply R_eql; rfl; rfl; rfl; rfl
  apply R_asg; rfl; rfl; rfl
  apply dn
  apply x3
  (repeat apply sq)
  obtain ⟨d9, hd9, H⟩ := bindS H
  refine CodeT.lcut (x := d9) (fun d e E => XEnv Γ .normal ⟨[(1, ⟨.ptr 1 0, false⟩), (20, ⟨.sc (.int .i64 a0.fKind), false⟩), (31, ⟨.sc (.bool d), false⟩)], [(1, some ⟨(encFactor a0), true, false⟩)]⟩ e E) ?_ ?_
  clear H; have H := hd9; clear hd9
  refine CodeT.cond rfl (fun h => ?_) (fun h => ?_)
  replace H := ifT (of_decide_eq_true h) H
  (repeat apply sq)
  apply CodeT.skip
  obtain rfl := Option.some.inj H
  refine Ev.y4 ?_
  refine XEnv.mk ?_
  apply el [] (io0 hio _) <;> rfl
  replace H := ifF (of_decide_eq_false h) H
  (repeat apply sq)
  apply rg
  apply R_eql; rfl; rfl; rfl; rfl
  apply R_asg; rfl; rfl; rfl
  apply dn
  obtain rfl := Option.some.inj H
  refine Ev.y4 ?_
  refine XEnv.mk ?_
  apply el [] (io0 hio _) <;> rfl
  intro e E' hX; obtain ⟨rfl, g10⟩ := XEnv.out hX
  apply x3
  refine CodeT.weak g10 ?_
  refine CodeT.cond rfl (fun h => ?_) (fun h => ?_)
  replace H := ifTb h H
  (repeat apply sq)
  apply rg
  apply R_fldP; rfl; rfl; rfl; rfl; rfl
  apply R_ldP; rfl; rfl; rfl; rfl; rfl; rfl
  obtain ⟨r11, hr11, H⟩ := bindS H
  apply R_bool; (apply L_call; ((apply ArgsV.cons; (apply ArgV.val; rfl; rfl)); (apply ArgsV.nil)); (exact m_spec_IsPoseName a0.fFrom _ hr11); rfl; rfl; rfl); rfl
  intro h; replace H := ifTb h H
  apply R_mov; rfl; rfl; rfl
  apply R_fldP; rfl; rfl; rfl; rfl; rfl
  apply R_ldP; rfl; rfl; rfl; rfl; rfl; rfl
  obtain ⟨r12, hr12, H⟩ := bindS H
  apply R_bool; (apply L_call; ((apply ArgsV.cons; (apply ArgV.val; rfl; rfl)); (apply ArgsV.nil)); (exact m_spec_IsPoseName a0.fTo _ hr12); rfl; rfl; rfl); rfl
  intro h; replace H := ifTb h H
  apply R_pickT; rfl; rfl; rfl; rfl
  apply R_mov; rfl; rfl; rfl
  apply R_fldP; rfl; rfl; rfl; rfl; rfl
  apply R_ldP; rfl; rfl; rfl; rfl; rfl; rfl
  apply R_fldP; rfl; rfl; rfl; rfl; rfl
  apply R_ldP; rfl; rfl; rfl; rfl; rfl; rfl
  apply Run.op; (apply L_sneq; rfl; rfl; rfl); rfl; rfl
  apply R_pickT; rfl; rfl; rfl; rfl
  apply R_asg; rfl; rfl; rfl
  apply dn
  apply x3
  apply CodeT.ret
  apply x4
  apply x1
  cases H
  apply x12
  exact RetIs.sc1 rfl
  intro h; replace H := ifFb h H
  apply R_pickT; rfl; rfl; rfl; rfl
  apply R_mov; rfl; rfl; rfl
  apply Run.skip; rfl
  apply Run.skip; rfl
  apply Run.skip; rfl
  apply Run.skip; rfl
  apply Run.skip; rfl
  apply R_pickF; rfl; rfl; rfl; rfl
  apply R_asg; rfl; rfl; rfl
  apply dn
  apply x3
  apply CodeT.ret
  apply x4
  apply x1
  cases H
  apply x12
  exact RetIs.sc1 rfl
  intro h; replace H := ifFb h H
  apply R_mov; rfl; rfl; rfl
  apply Run.skip; rfl
  apply Run.skip; rfl
  apply Run.skip; rfl
  apply R_pickF; rfl; rfl; rfl; rfl
  apply R_mov; rfl; rfl; rfl
  apply Run.skip; rfl
  apply Run.skip; rfl
  apply Run.skip; rfl
  apply Run.skip; rfl
  apply Run.skip; rfl
  apply R_pickF; rfl; rfl; rfl; rfl
  apply R_asg; rfl; rfl; rfl
  apply dn
  apply x3
  apply CodeT.ret
  apply x4
  apply x1
  cases H
  apply x12
  exact RetIs.sc1 rfl
  replace H := ifFb h H
  (repeat apply sq)
  apply rg
  apply R_eql; rfl; rfl; rfl; rfl
  apply R_asg; rfl; rfl; rfl
  apply dn
  apply x3
  refine CodeT.cond rfl (fun h => ?_) (fun h => ?_)
  replace H := ifT (of_decide_eq_true h) H
  (repeat apply sq)
  apply rg
  apply R_fldP; rfl; rfl; rfl; rfl; rfl
  apply R_ldP; rfl; rfl; rfl; rfl; rfl; rfl
  obtain ⟨r13, hr13, H⟩ := bindS H
  apply R_bool; (apply L_call; ((apply ArgsV.cons; (apply ArgV.val; rfl; rfl)); (apply ArgsV.nil)); (exact m_spec_IsPoseName a0.fFrom _ hr13); rfl; rfl; rfl); rfl
  intro h; replace H := ifTb h H
  apply R_mov; rfl; rfl; rfl
  apply R_fldP; rfl; rfl; rfl; rfl; rfl
  apply R_ldP; rfl; rfl; rfl; rfl; rfl; rfl
  obtain ⟨r14, hr14, H⟩ := bindS H
  apply R_bool; (apply L_call; ((apply ArgsV.cons; (apply ArgV.val; rfl; rfl)); (apply ArgsV.nil)); (exact m_spec_IsLandmarkName a0.fTo _ hr14); rfl; rfl; rfl); rfl
  intro h; replace H := ifTb h H
  apply R_pickT; rfl; rfl; rfl; rfl
  apply R_mov; rfl; rfl; rfl
  apply R_fldP; rfl; rfl; rfl; rfl; rfl
  apply R_fldP; rfl; rfl; rfl; rfl; rfl
  apply R_ldP; rfl; rfl; rfl; rfl; rfl; rfl
  apply R_eql; rfl; rfl; rfl; rfl
  apply R_pickT; rfl; rfl; rfl; rfl
  apply R_asg; rfl; rfl; rfl
  apply dn
  apply x3
  apply CodeT.ret
  apply x4
  apply x1
  cases H
  apply x12
  exact RetIs.sc1 rfl
  intro h; replace H := ifFb h H
  apply R_pickT; rfl; rfl; rfl; rfl
  apply R_mov; rfl; rfl; rfl
  apply Run.skip; rfl
  apply Run.skip; rfl
  apply Run.skip; rfl
  apply Run.skip; rfl
  apply R_pickF; rfl; rfl; rfl; rfl
  apply R_asg; rfl; rfl; rfl
  apply dn
  apply x3
  apply CodeT.ret
  apply x4
  apply x1
  cases H
  apply x12
  exact RetIs.sc1 rfl
  intro h; replace H := ifFb h H
  apply R_mov; rfl; rfl; rfl
  apply Run.skip; rfl
  apply Run.skip; rfl
  apply Run.skip; rfl
  apply R_pickF; rfl; rfl; rfl; rfl
  apply R_mov; rfl; rfl; rfl
  apply Run.skip; rfl
  apply Run.skip; rfl
  apply Run.skip; rfl
  apply Run.skip; rfl
  apply R_pickF; rfl; rfl; rfl; rfl
  apply R_asg; rfl; rfl; rfl
  apply dn
  apply x3
  apply CodeT.ret
  apply x4
  apply x1
  cases H
  apply x12
  exact RetIs.sc1 rfl
  replace H := ifF (of_decide_eq_false h) H
  (repeat apply sq)
  apply CodeT.skip
  apply x5
  apply x3
  (repeat apply sq)
  apply rg
  apply R_asg; rfl; rfl; rfl
  apply dn
  apply x3
  apply CodeT.ret
  cases H
  apply x12
  exact RetIs.sc1 rfl
theorem m_spec_l16Has (a0 : (List ByteArray)) (a1 : ByteArray) (r : Bool) (H : spec_l16Has a0 a1 = some r) : Meets Try.prog 120 [.sl a0.length (a0.flatMap encS), .sc (.string a1)] (.sc (.bool r)) true := by
  refine Meets.intro2 (N := 17) (rs := #[.tmp 4]) Try.func120 rfl rfl rfl rfl ?_
  intro Γ hio
  unfold spec_l16Has at H
  (repeat apply sq)
  apply rg
  apply R_asg; rfl; rfl; rfl
  apply dn
  apply x3
  (repeat apply sq)
  apply rg
  apply R_mov; rfl; rfl; rfl
  apply R_len; rfl; rfl; rfl
  apply R_mov; rfl; rfl; rfl
  apply dn
  apply x3
  (repeat apply sq)
  apply CodeT.block
  (repeat apply sq)
  obtain ⟨d4, hd4, H⟩ := bindS H
  refine CodeT.lloop (fun s => ⟨[(1, ⟨.sc (.string a1), false⟩), (7, ⟨.sl a0.length (a0.flatMap encS), false⟩), (8, ⟨.sc (.int .i64 (a0.length : Int)), false⟩), (9, ⟨.sc (.int .i64 s), false⟩)], []⟩) (fun x e E => match x with | (.inl d) => XEnv Γ (.exit 0) ⟨[], []⟩ e E | (.inr d) => XRet Γ #[.tmp 4] (.sc (.bool d)) true e E) hd4 ?_ ?_ ?_
  apply el [] (io0 hio _) <;> rfl
  clear H hd4
  rintro v2 o H
  unfold spec_l16Has_L1 at H
  (repeat apply sq)
  apply rg
  apply R_lss; rfl; rfl; rfl; rfl
  apply dn
  apply x3
  (repeat apply sq)
  refine CodeT.cond rfl (fun h => ?_) (fun h => ?_)
  replace H := ifT (of_decide_eq_true h) H
  (repeat apply sq)
  apply CodeT.skip
  apply x3
  (repeat apply sq)
  apply CodeT.block
  (repeat apply sq)
  apply rg
  obtain ⟨y3, hy3, H⟩ := bindS H
  apply Run.op; (apply L_ixS2; rfl; rfl; rfl; (exact hy3); (intro _; rfl); rfl); rfl; rfl
  apply R_ldI; rfl; rfl; rfl; rfl; rfl
  apply R_asg; rfl; rfl; rfl
  apply dn
  apply x3
  (repeat apply sq)
  apply rg
  apply R_mov; rfl; rfl; rfl
  apply R_mov; rfl; rfl; rfl
  apply Run.op; (apply L_seql; rfl; rfl; rfl); rfl; rfl
  apply dn
  apply x3
  refine CodeT.cond rfl (fun h => ?_) (fun h => ?_)
  replace H := ifT (of_decide_eq_true h) H
  (repeat apply sq)
  apply rg
  apply R_asg; rfl; rfl; rfl
  apply dn
  apply x3
  apply CodeT.ret
  apply x4
  apply x1
  obtain rfl := Option.some.inj H
  refine Ev.y2 ?_
  refine XRet.mk ?_
  exact RetIs.sc1 rfl
  replace H := ifF (of_decide_eq_false h) H
  (repeat apply sq)
  apply CodeT.skip
  apply x5
  apply x3
  apply rg
  apply R_add; rfl; rfl; rfl; rfl; rfl
  apply R_mov; rfl; rfl; rfl
  apply dn
  obtain rfl := Option.some.inj H
  refine Ev.y1 ?_
  apply el [] (io0 hio _) <;> rfl
  replace H := ifF (of_decide_eq_false h) H
  (repeat apply sq)
  apply CodeT.exit
  apply x2
  obtain rfl := Option.some.inj H
  refine Ev.y3 ?_
  refine XEnv.mk ?_
  apply el [] (io0 hio _) <;> rfl
  rcases d4 with (d5 | d7)
  intro e E' hX; obtain ⟨rfl, g6⟩ := XEnv.out hX
  refine x6 rfl ?_
  apply x3
  refine CodeT.weak g6 ?_
  (repeat apply sq)
  apply rg
  apply R_asg; rfl; rfl; rfl
  apply dn
  apply x3
  apply CodeT.ret
  cases H
  apply x12
  exact RetIs.sc1 rfl
  intro e E' hX; obtain ⟨rfl, g8⟩ := XRet.out hX
  apply x4
  apply x1
  cases H
  apply x12
  exact g8
theorem m_spec_NamesOf (a0 : (List Factor)) (r : (List ByteArray)) (H : spec_NamesOf a0 = some r) : Meets Try.prog 70 [.sl a0.length (a0.flatMap encFactor)] (.rw 1 r.length (r.flatMap encS)) true := by
  refine Meets.intro2 (N := 40) (rs := #[.tmp 2]) Try.func70 rfl rfl rfl rfl ?_
  intro Γ hio
  unfold spec_NamesOf at H
  (repeat apply sq)
  apply rg
  apply R_asg; rfl; rfl; rfl
  apply dn
  apply x3
  (repeat apply sq)
  apply rg
  apply Run.op; (apply L_bs0; (exact io1 hio _); rfl); rfl; rfl
  apply R_asg; rfl; rfl; rfl
  apply dn
  apply x3
  (repeat apply sq)
  apply rg
  apply R_mov; rfl; rfl; rfl
  apply R_len; rfl; rfl; rfl
  apply R_mov; rfl; rfl; rfl
  apply dn
  apply x3
  (repeat apply sq)
  apply CodeT.block
  (repeat apply sq)
  obtain ⟨d44, hd44, H⟩ := bindS H
  refine CodeT.lloop (fun s => ⟨[(3, ⟨.ref 503 1 0 s.2.length, false⟩), (9, ⟨.sl a0.length (a0.flatMap encFactor), false⟩), (10, ⟨.sc (.int .i64 (a0.length : Int)), false⟩), (11, ⟨.sc (.int .i64 s.1), false⟩)], [(503, some ⟨s.2.flatMap encS, true, false⟩)]⟩) (fun d e E => XEnv Γ (.exit 0) ⟨[(3, ⟨.ref 503 1 0 d.length, false⟩)], [(503, some ⟨d.flatMap encS, true, false⟩)]⟩ e E) hd44 ?_ ?_ ?_
  apply el [(503, 8)] (io0 hio _) <;> rfl
  clear H hd44
  rintro ⟨v21, v22⟩ o H
  unfold spec_NamesOf_L2 at H
  (repeat apply sq)
  apply rg
  apply R_lss; rfl; rfl; rfl; rfl
  apply dn
  apply x3
  (repeat apply sq)
  refine CodeT.cond rfl (fun h => ?_) (fun h => ?_)
  replace H := ifT (of_decide_eq_true h) H
  (repeat apply sq)
  apply CodeT.skip
  apply x3
  (repeat apply sq)
  apply CodeT.block
  (repeat apply sq)
  apply rg
  obtain ⟨y23, hy23, H⟩ := bindS H
  apply Run.op; (apply L_ixS2; rfl; rfl; rfl; (exact hy23); (intro _; rfl); rfl); rfl; rfl
  apply Run.op; (apply L_ldIA; rfl; (first | exact take_whole rfl | rfl); rfl; (intro h; cases h); rfl; rfl); rfl; rfl
  apply Run.op; (apply L_alloc false; (exact io1 hio _); rfl); rfl; rfl
  apply Run.op; (apply L_st (cells' := (encFactor y23)); rfl; rfl; rfl; rfl; rfl; (intro h; cases h); rfl; (first | exact splice_whole rfl | rfl)); rfl; rfl
  apply dn
  apply x3
  (repeat apply sq)
  apply rg
  apply R_fldP; rfl; rfl; rfl; rfl; rfl
  apply R_ldP; rfl; rfl; rfl; rfl; rfl; rfl
  apply R_fldP; rfl; rfl; rfl; rfl; rfl
  apply R_ldP; rfl; rfl; rfl; rfl; rfl; rfl
  apply Run.op; (apply L_bsR; rfl; rfl; rfl; rfl; (exact io1 hio _); rfl); rfl; rfl
  apply Run.op; (apply L_lenR; rfl; rfl; rfl); rfl; rfl
  apply R_mov; rfl; rfl; rfl
  apply dn
  apply x3
  apply CodeT.block
  (repeat apply sq)
  obtain ⟨d41, hd41, H⟩ := bindS H
  refine CodeT.lloop (fun s => ⟨[(3, ⟨.ref 503 1 0 s.2.length, false⟩), (9, ⟨.sl a0.length (a0.flatMap encFactor), false⟩), (10, ⟨.sc (.int .i64 (a0.length : Int)), false⟩), (11, ⟨.sc (.int .i64 v21), false⟩), (19, ⟨.ref 519 1 0 ([y23.fFrom, y23.fTo]).length, false⟩), (20, ⟨.sc (.int .i64 (([y23.fFrom, y23.fTo]).length : Int)), false⟩), (21, ⟨.sc (.int .i64 s.1), false⟩)], [(503, some ⟨s.2.flatMap encS, true, false⟩), (519, some ⟨([y23.fFrom, y23.fTo]).flatMap encS, true, false⟩)]⟩) (fun d e E => XEnv Γ (.exit 2) ⟨[(3, ⟨.ref 503 1 0 d.length, false⟩), (9, ⟨.sl a0.length (a0.flatMap encFactor), false⟩), (10, ⟨.sc (.int .i64 (a0.length : Int)), false⟩), (11, ⟨.sc (.int .i64 v21), false⟩)], [(503, some ⟨d.flatMap encS, true, false⟩)]⟩ e E) hd41 ?_ ?_ ?_
  apply el [(519, 19)] (io0 hio _) <;> rfl
  clear H hd41
  rintro ⟨v31, v32⟩ o H
  unfold spec_NamesOf_L1 at H
  (repeat apply sq)
  apply rg
  apply R_lss; rfl; rfl; rfl; rfl
  apply dn
  apply x3
  (repeat apply sq)
  refine CodeT.cond rfl (fun h => ?_) (fun h => ?_)
  replace H := ifT (of_decide_eq_true h) H
  (repeat apply sq)
  apply CodeT.skip
  apply x3
  (repeat apply sq)
  apply CodeT.block
  (repeat apply sq)
  apply rg
  obtain ⟨y33, hy33, H⟩ := bindS H
  apply Run.op; (apply L_ixR2; rfl; rfl; rfl; (exact hy33); rfl; rfl); rfl; rfl
  apply R_ldP; rfl; rfl; (exact row_ld0 hy33 rfl (fun _ => rfl)); rfl; rfl; rfl
  apply R_asg; rfl; rfl; rfl
  apply dn
  apply x3
  (repeat apply sq)
  obtain ⟨d36, hd36, H⟩ := bindS H
  refine CodeT.lcut (x := d36) (fun d e E => XEnv Γ .normal ⟨[(3, ⟨.ref 503 1 0 v32.length, false⟩), (7, ⟨.sc (.string y33), false⟩), (9, ⟨.sl a0.length (a0.flatMap encFactor), false⟩), (10, ⟨.sc (.int .i64 (a0.length : Int)), false⟩), (11, ⟨.sc (.int .i64 v21), false⟩), (19, ⟨.ref 519 1 0 ([y23.fFrom, y23.fTo]).length, false⟩), (20, ⟨.sc (.int .i64 (([y23.fFrom, y23.fTo]).length : Int)), false⟩), (21, ⟨.sc (.int .i64 v31), false⟩), (32, ⟨.sc (.bool d), false⟩)], [(503, some ⟨v32.flatMap encS, true, false⟩), (519, some ⟨([y23.fFrom, y23.fTo]).flatMap encS, true, false⟩)]⟩ e E) ?_ ?_
  clear H; have H := hd36; clear hd36
  apply rg
  apply R_mov; rfl; rfl; rfl
  apply R_dec; (apply L_sneq; rfl; rfl; rfl); rfl
  intro h; replace H := ifT h H
  apply R_mov; rfl; rfl; rfl
  apply R_mov; rfl; rfl; rfl
  apply R_mov; rfl; rfl; rfl
  obtain ⟨r34, hr34, H⟩ := bindS H
  apply Run.op; (apply L_call; ((apply ArgsV.cons; (apply ArgV.ref; rfl; rfl; (first | exact Nat.le_of_eq (flat_len (fun _ => rfl)) | exact Nat.le_of_ble_eq_true rfl))); (apply ArgsV.cons; (apply ArgV.val; rfl; rfl)); (apply ArgsV.nil)); (exact m_spec_l16Has v32 y33 _ hr34); rfl; rfl; rfl); rfl; rfl
  apply R_not; rfl; rfl; rfl
  apply R_pickT; rfl; rfl; rfl; rfl
  apply dn
  obtain rfl := Option.some.inj H
  refine Ev.y4 ?_
  refine XEnv.mk ?_
  apply el [] (io0 hio _) <;> rfl
  intro h; replace H := ifF h H
  apply R_mov; rfl; rfl; rfl
  apply Run.skip; rfl
  apply Run.skip; rfl
  apply Run.skip; rfl
  apply Run.skip; rfl
  apply R_pickF; rfl; rfl; rfl; rfl
  apply dn
  obtain rfl := Option.some.inj H
  refine Ev.y4 ?_
  refine XEnv.mk ?_
  apply el [] (io0 hio _) <;> rfl
  intro e E' hX; obtain ⟨rfl, g37⟩ := XEnv.out hX
  apply x3
  refine CodeT.weak g37 ?_
  refine CodeT.cond rfl (fun h => ?_) (fun h => ?_)
  replace H := ifTb h H
  (repeat apply sq)
  apply rg
  apply R_mov; rfl; rfl; rfl
  apply R_mov; rfl; rfl; rfl
  apply Run.op; (apply L_bs1; rfl; rfl; rfl; rfl; rfl; rfl; rfl; rfl); rfl; rfl
  obtain ⟨_u, ha38, H⟩ := bindS H
  obtain ⟨v39, hv39, H⟩ := bindS H
  apply Run.op; (apply L_app true; rfl; rfl; rfl; (exact flat_len (l := v32) (enc := encS) (fun _ => rfl)); rfl; (exact chkS ha38); (exact app63 (by decide) (chkS ha38)); (exact ⟨io1 hio _, io1 hio _⟩); (intro _; rfl); (exact flat_snocL (l := v32) (y := y33) (enc := encS) hv39); rfl); rfl; rfl
  apply R_asg; rfl; rfl; rfl
  apply dn
  apply x5
  apply x3
  apply rg
  apply R_add; rfl; rfl; rfl; rfl; rfl
  apply R_mov; rfl; rfl; rfl
  apply dn
  obtain rfl := Option.some.inj H
  refine Ev.y1 ?_
  apply el [(503, 36)] (io0 hio _) <;> rfl
  replace H := ifFb h H
  (repeat apply sq)
  apply CodeT.skip
  apply x5
  apply x3
  apply rg
  apply R_add; rfl; rfl; rfl; rfl; rfl
  apply R_mov; rfl; rfl; rfl
  apply dn
  obtain rfl := Option.some.inj H
  refine Ev.y1 ?_
  apply el [] (io0 hio _) <;> rfl
  replace H := ifF (of_decide_eq_false h) H
  (repeat apply sq)
  apply CodeT.exit
  apply x2
  obtain rfl := Option.some.inj H
  refine Ev.y3 ?_
  refine XEnv.mk ?_
  apply el [] (io0 hio _) <;> rfl
  skip
  intro e E' hX; obtain ⟨rfl, g42⟩ := XEnv.out hX
  refine x6 rfl ?_
  apply x5
  apply x3
  refine CodeT.weak g42 ?_
  apply rg
  apply R_add; rfl; rfl; rfl; rfl; rfl
  apply R_mov; rfl; rfl; rfl
  apply dn
  obtain rfl := Option.some.inj H
  refine Ev.y1 ?_
  apply el [] (io0 hio _) <;> rfl
  replace H := ifF (of_decide_eq_false h) H
  (repeat apply sq)
  apply CodeT.exit
  apply x2
  obtain rfl := Option.some.inj H
  refine Ev.y3 ?_
  refine XEnv.mk ?_
  apply el [] (io0 hio _) <;> rfl
  skip
  intro e E' hX; obtain ⟨rfl, g45⟩ := XEnv.out hX
  refine x6 rfl ?_
  apply x3
  refine CodeT.weak g45 ?_
  (repeat apply sq)
  apply rg
  apply R_mov; rfl; rfl; rfl
  apply R_asg; rfl; rfl; rfl
  apply dn
  apply x3
  apply CodeT.ret
  cases H
  apply x12
  exact RetIs.rW rfl rfl rfl (io1 hio _)
theorem m_spec_IsFactorList (a0 : (List Factor)) (r : Bool) (H : spec_IsFactorList a0 = some r) : Meets Try.prog 69 [.sl a0.length (a0.flatMap encFactor)] (.sc (.bool r)) true := by
  refine Meets.intro2 (N := 40) (rs := #[.tmp 2]) Try.func69 rfl rfl rfl rfl ?_
  intro Γ hio
  unfold spec_IsFactorList at H
  (repeat apply sq)
  apply rg
  apply R_asg; rfl; rfl; rfl
  apply dn
  apply x3
  (repeat apply sq)
  apply rg
  apply R_mov; rfl; rfl; rfl
  apply R_len; rfl; rfl; rfl
  apply R_mov; rfl; rfl; rfl
  apply dn
  apply x3
  (repeat apply sq)
  apply CodeT.block
  (repeat apply sq)
  obtain ⟨d14, hd14, H⟩ := bindS H
  refine CodeT.lloop (fun s => ⟨[(0, ⟨.sl a0.length (a0.flatMap encFactor), false⟩), (5, ⟨.sl a0.length (a0.flatMap encFactor), false⟩), (6, ⟨.sc (.int .i64 (a0.length : Int)), false⟩), (7, ⟨.sc (.int .i64 s), false⟩)], []⟩) (fun x e E => match x with | (.inl d) => XEnv Γ (.exit 0) ⟨[(0, ⟨.sl a0.length (a0.flatMap encFactor), false⟩)], []⟩ e E | (.inr d) => XRet Γ #[.tmp 2] (.sc (.bool d)) true e E) hd14 ?_ ?_ ?_
  apply el [] (io0 hio _) <;> rfl
  clear H hd14
  rintro v7 o H
  unfold spec_IsFactorList_L1 at H
  (repeat apply sq)
  apply rg
  apply R_lss; rfl; rfl; rfl; rfl
  apply dn
  apply x3
  (repeat apply sq)
  refine CodeT.cond rfl (fun h => ?_) (fun h => ?_)
  replace H := ifT (of_decide_eq_true h) H
  (repeat apply sq)
  apply CodeT.skip
  apply x3
  (repeat apply sq)
  apply CodeT.block
  (repeat apply sq)
  apply rg
  apply R_mov; rfl; rfl; rfl
  obtain ⟨y8, hy8, H⟩ := bindS H
  apply Run.op; (apply L_ixS2; rfl; rfl; rfl; (exact hy8); (intro _; rfl); rfl); rfl; rfl
  apply Run.op; (apply L_ldIA; rfl; (first | exact take_whole rfl | rfl); rfl; (intro h; cases h); rfl; rfl); rfl; rfl
  apply Run.op; (apply L_alloc false; (exact io1 hio _); rfl); rfl; rfl
  apply R_asg; rfl; rfl; rfl
  apply Run.op; (apply L_st (cells' := (encFactor y8)); rfl; rfl; rfl; rfl; rfl; (intro h; cases h); rfl; (first | exact splice_whole rfl | rfl)); rfl; rfl
  apply dn
  apply x3
  (repeat apply sq)
  obtain ⟨d12, hd12, H⟩ := bindS H
  refine CodeT.lcut (x := d12) (fun d e E => XEnv Γ .normal ⟨[(0, ⟨.sl a0.length (a0.flatMap encFactor), false⟩), (5, ⟨.sl a0.length (a0.flatMap encFactor), false⟩), (6, ⟨.sc (.int .i64 (a0.length : Int)), false⟩), (7, ⟨.sc (.int .i64 v7), false⟩), (29, ⟨.sc (.bool d), false⟩)], []⟩ e E) ?_ ?_
  clear H; have H := hd12; clear hd12
  apply rg
  apply R_ldPA; rfl; rfl; (first | exact seg_whole rfl | rfl); rfl; rfl; rfl; rfl; rfl
  obtain ⟨r9, hr9, H⟩ := bindS H
  apply R_bool; (apply L_call; ((apply ArgsV.cons; (apply ArgV.val; rfl; rfl)); (apply ArgsV.nil)); (exact m_spec_IsValidFactor y8 _ hr9); rfl; rfl; rfl); rfl
  intro h; replace H := ifTb h H
  apply R_not; rfl; rfl; rfl
  apply R_mov; rfl; rfl; rfl
  apply R_mov; rfl; rfl; rfl
  apply R_dec; (apply L_gtr; rfl; rfl; rfl); rfl
  intro h; replace H := ifT h H
  apply R_mov; rfl; rfl; rfl
  apply R_mov; rfl; rfl; rfl
  apply R_mov; rfl; rfl; rfl
  apply R_sub; rfl; rfl; rfl; rfl; rfl
  obtain ⟨y10, hy10, H⟩ := bindS H
  apply Run.op; (apply L_ixS2; rfl; rfl; rfl; (exact hy10); (intro _; rfl); rfl); rfl; rfl
  apply R_fldI; rfl; rfl; rfl
  apply R_ldI; rfl; rfl; rfl; rfl; rfl
  apply R_fldP; rfl; rfl; rfl; rfl; rfl
  apply R_ldP; rfl; rfl; rfl; rfl; rfl; rfl
  apply Run.op; (apply L_geq; rfl; rfl; rfl); rfl; rfl
  apply R_pickT; rfl; rfl; rfl; rfl
  apply R_pickF; rfl; rfl; rfl; rfl
  apply Run.done; refine ⟨fun _ => ⟨rfl, rfl⟩, ?_⟩
  obtain rfl := Option.some.inj H
  refine Ev.y4 ?_
  refine XEnv.mk ?_
  apply el [] (io0 hio _) <;> rfl
  intro h; replace H := ifF h H
  apply R_mov; rfl; rfl; rfl
  apply Run.skip; rfl
  apply Run.skip; rfl
  apply Run.skip; rfl
  apply Run.skip; rfl
  apply Run.skip; rfl
  apply Run.skip; rfl
  apply Run.skip; rfl
  apply Run.skip; rfl
  apply Run.skip; rfl
  apply R_pickF; rfl; rfl; rfl; rfl
  apply R_pickF; rfl; rfl; rfl; rfl
  apply Run.done; refine ⟨fun _ => ⟨rfl, rfl⟩, ?_⟩
  obtain rfl := Option.some.inj H
  refine Ev.y4 ?_
  refine XEnv.mk ?_
  apply el [] (io0 hio _) <;> rfl
  intro h; replace H := ifFb h H
  apply R_not; rfl; rfl; rfl
  apply R_mov; rfl; rfl; rfl
  apply Run.skip; rfl
  apply Run.skip; rfl
  apply Run.skip; rfl
  apply Run.skip; rfl
  apply Run.skip; rfl
  apply Run.skip; rfl
  apply Run.skip; rfl
  apply Run.skip; rfl
  apply Run.skip; rfl
  apply Run.skip; rfl
  apply Run.skip; rfl
  apply Run.skip; rfl
  apply Run.skip; rfl
  apply R_pickT; rfl; rfl; rfl; rfl
  apply Run.done; refine ⟨fun _ => ⟨rfl, rfl⟩, ?_⟩
  obtain rfl := Option.some.inj H
  refine Ev.y4 ?_
  refine XEnv.mk ?_
  apply el [] (io0 hio _) <;> rfl
  intro e E' hX; obtain ⟨rfl, g13⟩ := XEnv.out hX
  apply x3
  refine CodeT.weak g13 ?_
  refine CodeT.cond rfl (fun h => ?_) (fun h => ?_)
  replace H := ifTb h H
  (repeat apply sq)
  apply rg
  apply R_asg; rfl; rfl; rfl
  apply dn
  apply x3
  apply CodeT.ret
  apply x4
  apply x1
  obtain rfl := Option.some.inj H
  refine Ev.y2 ?_
  refine XRet.mk ?_
  exact RetIs.sc1 rfl
  replace H := ifFb h H
  (repeat apply sq)
  apply CodeT.skip
  apply x5
  apply x3
  apply rg
  apply R_add; rfl; rfl; rfl; rfl; rfl
  apply R_mov; rfl; rfl; rfl
  apply dn
  obtain rfl := Option.some.inj H
  refine Ev.y1 ?_
  apply el [] (io0 hio _) <;> rfl
  replace H := ifF (of_decide_eq_false h) H
  (repeat apply sq)
  apply CodeT.exit
  apply x2
  obtain rfl := Option.some.inj H
  refine Ev.y3 ?_
  refine XEnv.mk ?_
  apply el [] (io0 hio _) <;> rfl
  rcases d14 with (d15 | d18)
  intro e E' hX; obtain ⟨rfl, g16⟩ := XEnv.out hX
  refine x6 rfl ?_
  apply x3
  refine CodeT.weak g16 ?_
  (repeat apply sq)
  apply rg
  apply R_mov; rfl; rfl; rfl
  apply R_len; rfl; rfl; rfl
  apply R_dec; (apply L_leq; rfl; rfl; rfl); rfl
  intro h; replace H := ifT h H
  apply R_mov; rfl; rfl; rfl
  apply R_mov; rfl; rfl; rfl
  obtain ⟨r17, hr17, H⟩ := bindS H
  apply Run.op; (apply L_callW; ((apply ArgsV.cons; (apply ArgV.val; rfl; rfl)); (apply ArgsV.nil)); (exact m_spec_NamesOf a0 _ hr17); (exact io1 hio _); rfl); rfl; rfl
  apply Run.op; (apply L_lenR; rfl; rfl; rfl); rfl; rfl
  apply R_lss; rfl; rfl; rfl; rfl
  apply R_pickT; rfl; rfl; rfl; rfl
  apply R_asg; rfl; rfl; rfl
  apply dn
  apply x3
  apply CodeT.ret
  cases H
  apply x12
  exact RetIs.sc1 rfl
  intro h; replace H := ifF h H
  apply R_mov; rfl; rfl; rfl
  apply Run.skip; rfl
  apply Run.skip; rfl
  apply Run.skip; rfl
  apply Run.skip; rfl
  apply R_pickF; rfl; rfl; rfl; rfl
  apply R_asg; rfl; rfl; rfl
  apply dn
  apply x3
  apply CodeT.ret
  cases H
  apply x12
  exact RetIs.sc1 rfl
  intro e E' hX; obtain ⟨rfl, g19⟩ := XRet.out hX
  apply x4
  apply x1
  cases H
  apply x12
  exact g19
theorem m_spec_l17Index (a0 : (List ByteArray)) (a1 : ByteArray) (r : Int) (H : spec_l17Index a0 a1 = some r) : Meets Try.prog 72 [.sl a0.length (a0.flatMap encS), .sc (.string a1)] (.sc (.int .i64 r)) true := by
  refine Meets.intro2 (N := 19) (rs := #[.tmp 4]) Try.func72 rfl rfl rfl rfl ?_
  intro Γ hio
  unfold spec_l17Index at H
  (repeat apply sq)
  apply rg
  apply R_asg; rfl; rfl; rfl
  apply dn
  apply x3
  (repeat apply sq)
  apply rg
  apply R_mov; rfl; rfl; rfl
  apply R_len; rfl; rfl; rfl
  apply R_mov; rfl; rfl; rfl
  apply dn
  apply x3
  (repeat apply sq)
  apply CodeT.block
  (repeat apply sq)
  obtain ⟨d4, hd4, H⟩ := bindS H
  refine CodeT.lloop (fun s => ⟨[(1, ⟨.sc (.string a1), false⟩), (7, ⟨.sl a0.length (a0.flatMap encS), false⟩), (8, ⟨.sc (.int .i64 (a0.length : Int)), false⟩), (9, ⟨.sc (.int .i64 s), false⟩)], []⟩) (fun x e E => match x with | (.inl d) => XEnv Γ (.exit 0) ⟨[], []⟩ e E | (.inr d) => XRet Γ #[.tmp 4] (.sc (.int .i64 d)) true e E) hd4 ?_ ?_ ?_
  apply el [] (io0 hio _) <;> rfl
  clear H hd4
  rintro v2 o H
  unfold spec_l17Index_L1 at H
  (repeat apply sq)
  apply rg
  apply R_lss; rfl; rfl; rfl; rfl
  apply dn
  apply x3
  (repeat apply sq)
  refine CodeT.cond rfl (fun h => ?_) (fun h => ?_)
  replace H := ifT (of_decide_eq_true h) H
  (repeat apply sq)
  apply CodeT.skip
  apply x3
  (repeat apply sq)
  apply CodeT.block
  (repeat apply sq)
  apply rg
  apply R_mov; rfl; rfl; rfl
  obtain ⟨y3, hy3, H⟩ := bindS H
  apply Run.op; (apply L_ixS2; rfl; rfl; rfl; (exact hy3); (intro _; rfl); rfl); rfl; rfl
  apply R_ldI; rfl; rfl; rfl; rfl; rfl
  apply R_asg; rfl; rfl; rfl
  apply R_asg; rfl; rfl; rfl
  apply dn
  apply x3
  (repeat apply sq)
  apply rg
  apply R_mov; rfl; rfl; rfl
  apply R_mov; rfl; rfl; rfl
  apply Run.op; (apply L_seql; rfl; rfl; rfl); rfl; rfl
  apply dn
  apply x3
  refine CodeT.cond rfl (fun h => ?_) (fun h => ?_)
  replace H := ifT (of_decide_eq_true h) H
  (repeat apply sq)
  apply rg
  apply R_mov; rfl; rfl; rfl
  apply R_asg; rfl; rfl; rfl
  apply dn
  apply x3
  apply CodeT.ret
  apply x4
  apply x1
  obtain rfl := Option.some.inj H
  refine Ev.y2 ?_
  refine XRet.mk ?_
  exact RetIs.sc1 rfl
  replace H := ifF (of_decide_eq_false h) H
  (repeat apply sq)
  apply CodeT.skip
  apply x5
  apply x3
  apply rg
  apply R_add; rfl; rfl; rfl; rfl; rfl
  apply R_mov; rfl; rfl; rfl
  apply dn
  obtain rfl := Option.some.inj H
  refine Ev.y1 ?_
  apply el [] (io0 hio _) <;> rfl
  replace H := ifF (of_decide_eq_false h) H
  (repeat apply sq)
  apply CodeT.exit
  apply x2
  obtain rfl := Option.some.inj H
  refine Ev.y3 ?_
  refine XEnv.mk ?_
  apply el [] (io0 hio _) <;> rfl
  rcases d4 with (d5 | d7)
  intro e E' hX; obtain ⟨rfl, g6⟩ := XEnv.out hX
  refine x6 rfl ?_
  apply x3
  refine CodeT.weak g6 ?_
  (repeat apply sq)
  apply rg
  apply R_asg; rfl; rfl; rfl
  apply dn
  apply x3
  apply CodeT.ret
  cases H
  apply x12
  exact RetIs.sc1 rfl
  intro e E' hX; obtain ⟨rfl, g8⟩ := XRet.out hX
  apply x4
  apply x1
  cases H
  apply x12
  exact g8
theorem m_spec_NodeOf (a0 : (List Factor)) (a1 : ByteArray) (r : Int) (H : spec_NodeOf a0 a1 = some r) : Meets Try.prog 107 [.sl a0.length (a0.flatMap encFactor), .sc (.string a1)] (.sc (.int .i64 r)) true := by
  refine Meets.intro2 (N := 13) (rs := #[.tmp 4]) Try.func107 rfl rfl rfl rfl ?_
  intro Γ hio
  unfold spec_NodeOf at H
  (repeat apply sq)
  apply rg
  apply R_asg; rfl; rfl; rfl
  apply dn
  apply x3
  (repeat apply sq)
  apply rg
  apply R_mov; rfl; rfl; rfl
  obtain ⟨r1, hr1, H⟩ := bindS H
  apply Run.op; (apply L_call; ((apply ArgsV.cons; (apply ArgV.val; rfl; rfl)); (apply ArgsV.nil)); (exact m_spec_IsFactorList a0 _ hr1); rfl; rfl; rfl); rfl; rfl
  apply R_not; rfl; rfl; rfl
  apply dn
  apply x3
  (repeat apply sq)
  refine CodeT.cond rfl (fun h => ?_) (fun h => ?_)
  replace H := ifFb (notT h) H
  (repeat apply sq)
  apply rg
  apply R_asg; rfl; rfl; rfl
  apply dn
  apply x3
  apply CodeT.ret
  apply x1
  cases H
  apply x12
  exact RetIs.sc1 rfl
  replace H := ifTb (notF h) H
  (repeat apply sq)
  apply CodeT.skip
  apply x3
  (repeat apply sq)
  apply rg
  apply R_mov; rfl; rfl; rfl
  obtain ⟨r2, hr2, H⟩ := bindS H
  apply Run.op; (apply L_callW; ((apply ArgsV.cons; (apply ArgV.val; rfl; rfl)); (apply ArgsV.nil)); (exact m_spec_NamesOf a0 _ hr2); (exact io1 hio _); rfl); rfl; rfl
  apply R_mov; rfl; rfl; rfl
  obtain ⟨r3, hr3, H⟩ := bindS H
  apply Run.op; (apply L_call; ((apply ArgsV.cons; (apply ArgV.ref; rfl; rfl; (first | exact Nat.le_of_eq (flat_len (fun _ => rfl)) | exact Nat.le_of_ble_eq_true rfl))); (apply ArgsV.cons; (apply ArgV.val; rfl; rfl)); (apply ArgsV.nil)); (exact m_spec_l17Index r2 a1 _ hr3); rfl; rfl; rfl); rfl; rfl
  apply R_add; rfl; rfl; rfl; rfl; rfl
  apply R_asg; rfl; rfl; rfl
  apply dn
  apply x3
  apply CodeT.ret
  cases H
  apply x12
  exact RetIs.sc1 rfl
theorem m_spec_l06Node (a0 : Int) (r : Bool) (H : spec_l06Node a0 = some r) : Meets Try.prog 148 [.sc (.int .i64 a0)] (.sc (.bool r)) true := by
  refine Meets.intro2 (N := 5) (rs := #[.tmp 2]) Try.func148 rfl rfl rfl rfl ?_
  intro Γ hio
  unfold spec_l06Node at H
  (repeat apply sq)
  apply rg
  apply R_asg; rfl; rfl; rfl
  apply dn
  apply x3
  (repeat apply sq)
  apply rg
  apply R_mov; rfl; rfl; rfl
  obtain ⟨r1, hr1, H⟩ := bindS H
  apply Run.op; (apply L_call; ((apply ArgsV.cons; (apply ArgV.val; rfl; rfl)); (apply ArgsV.cons; (apply ArgV.val; rfl; rfl)); (apply ArgsV.cons; (apply ArgV.val; rfl; rfl)); (apply ArgsV.nil)); (exact m_spec_l01In a0 0 9 _ hr1); rfl; rfl; rfl); rfl; rfl
  apply R_asg; rfl; rfl; rfl
  apply dn
  apply x3
  apply CodeT.ret
  cases H
  apply x12
  exact RetIs.sc1 rfl
theorem m_spec_l02Trim (a0 : (List Int)) (r : (List Int)) (H : spec_l02Trim a0 = some r) : Meets Try.prog 206 [.sl a0.length (a0.flatMap (encI .i64))] (.sl r.length (r.flatMap (encI .i64))) false := by
  refine Meets.intro2 (N := 21) (rs := #[.tmp 2]) Try.func206 rfl rfl rfl rfl ?_
  intro Γ hio
  unfold spec_l02Trim at H
  (repeat apply sq)
  apply rg
  apply R_asg; rfl; rfl; rfl
  apply dn
  apply x3
  (repeat apply sq)
  apply rg
  apply R_mov; rfl; rfl; rfl
  apply R_len; rfl; rfl; rfl
  apply R_asg; rfl; rfl; rfl
  apply dn
  apply x3
  (repeat apply sq)
  apply CodeT.block
  (repeat apply sq)
  obtain ⟨d13, hd13, H⟩ := bindS H
  refine CodeT.lloop (fun s => ⟨[(0, ⟨.sl a0.length (a0.flatMap (encI .i64)), false⟩), (3, ⟨.sc (.int .i64 s), false⟩)], []⟩) (fun d e E => XEnv Γ (.exit 0) ⟨[(0, ⟨.sl a0.length (a0.flatMap (encI .i64)), false⟩), (3, ⟨.sc (.int .i64 d), false⟩)], []⟩ e E) hd13 ?_ ?_ ?_
  apply el [] (io0 hio _) <;> rfl
  clear H hd13
  rintro v7 o H
  unfold spec_l02Trim_L1 at H
  (repeat apply sq)
  obtain ⟨d10, hd10, H⟩ := bindS H
  refine CodeT.lcut (x := d10) (fun d e E => XEnv Γ .normal ⟨[(0, ⟨.sl a0.length (a0.flatMap (encI .i64)), false⟩), (3, ⟨.sc (.int .i64 v7), false⟩), (15, ⟨.sc (.bool d), false⟩)], []⟩ e E) ?_ ?_
  clear H; have H := hd10; clear hd10
  apply rg
  apply R_mov; rfl; rfl; rfl
  apply R_dec; (apply L_gtr; rfl; rfl; rfl); rfl
  intro h; replace H := ifT h H
  apply R_mov; rfl; rfl; rfl
  apply R_mov; rfl; rfl; rfl
  apply R_mov; rfl; rfl; rfl
  apply R_sub; rfl; rfl; rfl; rfl; rfl
  obtain ⟨y8, hy8, H⟩ := bindS H
  apply Run.op; (apply L_ixS2; rfl; rfl; rfl; (exact hy8); (intro _; rfl); rfl); rfl; rfl
  apply R_ldI; rfl; rfl; rfl; rfl; rfl
  apply R_eql; rfl; rfl; rfl; rfl
  apply R_pickT; rfl; rfl; rfl; rfl
  apply dn
  obtain rfl := Option.some.inj H
  refine Ev.y4 ?_
  refine XEnv.mk ?_
  apply el [] (io0 hio _) <;> rfl
  intro h; replace H := ifF h H
  apply R_mov; rfl; rfl; rfl
  apply Run.skip; rfl
  apply Run.skip; rfl
  apply Run.skip; rfl
  apply Run.skip; rfl
  apply Run.skip; rfl
  apply Run.skip; rfl
  apply R_pickF; rfl; rfl; rfl; rfl
  apply dn
  obtain rfl := Option.some.inj H
  refine Ev.y4 ?_
  refine XEnv.mk ?_
  apply el [] (io0 hio _) <;> rfl
  intro e E' hX; obtain ⟨rfl, g11⟩ := XEnv.out hX
  apply x3
  refine CodeT.weak g11 ?_
  (repeat apply sq)
  refine CodeT.cond rfl (fun h => ?_) (fun h => ?_)
  replace H := ifTb h H
  (repeat apply sq)
  apply CodeT.skip
  apply x3
  apply CodeT.block
  (repeat apply sq)
  apply rg
  apply R_mov; rfl; rfl; rfl
  apply R_sub; rfl; rfl; rfl; rfl; rfl
  apply R_asg; rfl; rfl; rfl
  apply dn
  apply x5
  obtain rfl := Option.some.inj H
  refine Ev.y1 ?_
  apply el [] (io0 hio _) <;> rfl
  replace H := ifFb h H
  (repeat apply sq)
  apply CodeT.exit
  apply x2
  obtain rfl := Option.some.inj H
  refine Ev.y3 ?_
  refine XEnv.mk ?_
  apply el [] (io0 hio _) <;> rfl
  skip
  intro e E' hX; obtain ⟨rfl, g14⟩ := XEnv.out hX
  refine x6 rfl ?_
  apply x3
  refine CodeT.weak g14 ?_
  (repeat apply sq)
  apply rg
  apply R_mov; rfl; rfl; rfl
  apply R_mov; rfl; rfl; rfl
  obtain ⟨y15, hy15, H⟩ := bindS H
  apply Run.op; (apply L_slS; rfl; rfl; rfl; rfl; (exact hy15); (intro _; rfl); rfl); rfl; rfl
  apply R_asg; rfl; rfl; rfl
  apply dn
  apply x3
  apply CodeT.ret
  cases H
  apply x12
  exact RetIs.one (Res1.val rfl rfl) (fun h => by cases h)
theorem md_spec_l02Trim (a0 : (List Int)) (r : (List Int)) (H : spec_l02Trim a0 = some r) : MeetsD Try.prog 206 [(.rw 1 a0.length (a0.flatMap (encI .i64)), true)] (.rw 1 r.length (r.flatMap (encI .i64))) := by
  refine MeetsD.intro (N := 21) (rs := #[.tmp 2]) Try.func206 rfl rfl rfl rfl ?_
  intro Γ hio
  unfold spec_l02Trim at H
  (repeat apply sq)
  apply rg
  apply R_asg; rfl; rfl; rfl
  apply dn
  apply x3
  (repeat apply sq)
  apply rg
  apply Run.op; (apply Local.soft (Soft.rw (SoftL.refl _)); apply L_mov; rfl; rfl); rfl; rfl
  apply R_len; rfl; rfl; rfl
  apply R_asg; rfl; rfl; rfl
  apply dn
  apply x3
  (repeat apply sq)
  apply CodeT.block
  (repeat apply sq)
  obtain ⟨d13, hd13, H⟩ := bindS H
  refine CodeT.lloop (fun s => ⟨[(0, ⟨.rw 1 a0.length (a0.flatMap (encI .i64)), true⟩), (3, ⟨.sc (.int .i64 s), false⟩)], []⟩) (fun d e E => XEnv Γ (.exit 0) ⟨[(0, ⟨.rw 1 a0.length (a0.flatMap (encI .i64)), true⟩), (3, ⟨.sc (.int .i64 d), false⟩)], []⟩ e E) hd13 ?_ ?_ ?_
  apply el [] (io0 hio _) <;> rfl
  clear H hd13
  rintro v7 o H
  unfold spec_l02Trim_L1 at H
  (repeat apply sq)
  obtain ⟨d10, hd10, H⟩ := bindS H
  refine CodeT.lcut (x := d10) (fun d e E => XEnv Γ .normal ⟨[(0, ⟨.rw 1 a0.length (a0.flatMap (encI .i64)), true⟩), (3, ⟨.sc (.int .i64 v7), false⟩), (15, ⟨.sc (.bool d), false⟩)], []⟩ e E) ?_ ?_
  clear H; have H := hd10; clear hd10
  apply rg
  apply R_mov; rfl; rfl; rfl
  apply R_dec; (apply L_gtr; rfl; rfl; rfl); rfl
  intro h; replace H := ifT h H
  apply R_mov; rfl; rfl; rfl
  apply Run.op; (apply Local.soft (Soft.rw (SoftL.refl _)); apply L_mov; rfl; rfl); rfl; rfl
  apply R_mov; rfl; rfl; rfl
  apply R_sub; rfl; rfl; rfl; rfl; rfl
  obtain ⟨y8, hy8, H⟩ := bindS H
  apply Run.op; (apply L_ixS2; rfl; rfl; rfl; (exact hy8); (intro _; rfl); rfl); rfl; rfl
  apply R_ldI; rfl; rfl; rfl; rfl; rfl
  apply R_eql; rfl; rfl; rfl; rfl
  apply R_pickT; rfl; rfl; rfl; rfl
  apply dn
  obtain rfl := Option.some.inj H
  refine Ev.y4 ?_
  refine XEnv.mk ?_
  apply el [] (io0 hio _) <;> rfl
  intro h; replace H := ifF h H
  apply R_mov; rfl; rfl; rfl
  apply Run.skip; rfl
  apply Run.skip; rfl
  apply Run.skip; rfl
  apply Run.skip; rfl
  apply Run.skip; rfl
  apply Run.skip; rfl
  apply R_pickF; rfl; rfl; rfl; rfl
  apply dn
  obtain rfl := Option.some.inj H
  refine Ev.y4 ?_
  refine XEnv.mk ?_
  apply el [] (io0 hio _) <;> rfl
  intro e E' hX; obtain ⟨rfl, g11⟩ := XEnv.out hX
  apply x3
  refine CodeT.weak g11 ?_
  (repeat apply sq)
  refine CodeT.cond rfl (fun h => ?_) (fun h => ?_)
  replace H := ifTb h H
  (repeat apply sq)
  apply CodeT.skip
  apply x3
  apply CodeT.block
  (repeat apply sq)
  apply rg
  apply R_mov; rfl; rfl; rfl
  apply R_sub; rfl; rfl; rfl; rfl; rfl
  apply R_asg; rfl; rfl; rfl
  apply dn
  apply x5
  obtain rfl := Option.some.inj H
  refine Ev.y1 ?_
  apply el [] (io0 hio _) <;> rfl
  replace H := ifFb h H
  (repeat apply sq)
  apply CodeT.exit
  apply x2
  obtain rfl := Option.some.inj H
  refine Ev.y3 ?_
  refine XEnv.mk ?_
  apply el [] (io0 hio _) <;> rfl
  skip
  intro e E' hX; obtain ⟨rfl, g14⟩ := XEnv.out hX
  refine x6 rfl ?_
  apply x3
  refine CodeT.weak g14 ?_
  (repeat apply sq)
  apply rg
  apply R_movT; rfl; rfl; rfl; rfl
  apply R_mov; rfl; rfl; rfl
  obtain ⟨y15, hy15, H⟩ := bindS H
  apply Run.op; (apply L_slW; rfl; rfl; rfl; (exact hy15); (intro _; rfl); (intro _; rfl); rfl); rfl; rfl
  apply R_asgT; rfl; rfl; rfl; rfl
  apply dn
  apply x3
  apply CodeT.ret
  cases H
  apply x12
  exact RetIs.one (Res1.deep rfl rfl) (fun _ h => by cases h)
theorem m_spec_l02Cap (a0 : (List Int)) (r : (List Int)) (H : spec_l02Cap a0 = some r) : Meets Try.prog 204 [.sl a0.length (a0.flatMap (encI .i64))] (.sl r.length (r.flatMap (encI .i64))) false := by
  refine Meets.intro2 (N := 10) (rs := #[.tmp 2]) Try.func204 rfl rfl rfl rfl ?_
  intro Γ hio
  unfold spec_l02Cap at H
  (repeat apply sq)
  apply rg
  apply R_asg; rfl; rfl; rfl
  apply dn
  apply x3
  (repeat apply sq)
  apply rg
  apply R_mov; rfl; rfl; rfl
  obtain ⟨r1, hr1, H⟩ := bindS H
  apply Run.op; (apply L_call; ((apply ArgsV.cons; (apply ArgV.val; rfl; rfl)); (apply ArgsV.nil)); (exact m_spec_l02Trim a0 _ hr1); rfl; rfl; rfl); rfl; rfl
  apply R_asg; rfl; rfl; rfl
  apply dn
  apply x3
  (repeat apply sq)
  apply rg
  apply R_mov; rfl; rfl; rfl
  apply R_len; rfl; rfl; rfl
  apply R_gtr; rfl; rfl; rfl; rfl
  apply dn
  apply x3
  (repeat apply sq)
  refine CodeT.cond rfl (fun h => ?_) (fun h => ?_)
  replace H := ifT (of_decide_eq_true h) H
  (repeat apply sq)
  apply rg
  apply R_asg; rfl; rfl; rfl
  apply dn
  apply x3
  apply CodeT.ret
  apply x1
  cases H
  apply x12
  exact RetIs.one (Res1.nil rfl) (fun _ h => by cases h)
  replace H := ifF (of_decide_eq_false h) H
  (repeat apply sq)
  apply CodeT.skip
  apply x3
  (repeat apply sq)
  apply rg
  apply R_mov; rfl; rfl; rfl
  apply R_asg; rfl; rfl; rfl
  apply dn
  apply x3
  apply CodeT.ret
  cases H
  apply x12
  exact RetIs.one (Res1.val rfl rfl) (fun h => by cases h)
theorem md_spec_l02Cap (a0 : (List Int)) (r : (List Int)) (H : spec_l02Cap a0 = some r) : MeetsD Try.prog 204 [(.rw 1 a0.length (a0.flatMap (encI .i64)), true)] (.rw 1 r.length (r.flatMap (encI .i64))) := by
  refine MeetsD.intro (N := 10) (rs := #[.tmp 2]) Try.func204 rfl rfl rfl rfl ?_
  intro Γ hio
  unfold spec_l02Cap at H
  (repeat apply sq)
  apply rg
  apply R_asg; rfl; rfl; rfl
  apply dn
  apply x3
  (repeat apply sq)
  apply rg
  apply R_movT; rfl; rfl; rfl; rfl
  obtain ⟨r1, hr1, H⟩ := bindS H
  apply Run.op; (apply L_callD1; rfl; rfl; (exact md_spec_l02Trim a0 _ hr1); rfl; rfl); rfl; rfl
  apply R_asgT; rfl; rfl; rfl; rfl
  apply dn
  apply x3
  (repeat apply sq)
  apply rg
  apply Run.op; (apply Local.soft (Soft.rw (SoftL.refl _)); apply L_mov; rfl; rfl); rfl; rfl
  apply R_len; rfl; rfl; rfl
  apply R_gtr; rfl; rfl; rfl; rfl
  apply dn
  apply x3
  (repeat apply sq)
  refine CodeT.cond rfl (fun h => ?_) (fun h => ?_)
  replace H := ifT (of_decide_eq_true h) H
  (repeat apply sq)
  apply rg
  apply R_asg; rfl; rfl; rfl
  apply dn
  apply x3
  apply CodeT.ret
  apply x1
  cases H
  apply x12
  exact RetIs.one (Res1.nilW rfl) (fun _ h => by cases h)
  replace H := ifF (of_decide_eq_false h) H
  (repeat apply sq)
  apply CodeT.skip
  apply x3
  (repeat apply sq)
  apply rg
  apply R_movT; rfl; rfl; rfl; rfl
  apply R_asgT; rfl; rfl; rfl; rfl
  apply dn
  apply x3
  apply CodeT.ret
  cases H
  apply x12
  exact RetIs.one (Res1.deep rfl rfl) (fun _ h => by cases h)
theorem m_spec_l03Make (a0 : Bool) (a1 : (List Int)) (r : BigInt) (H : spec_l03Make a0 a1 = some r) : Meets Try.prog 192 [.sc (.bool a0), .sl a1.length (a1.flatMap (encI .i64))] (.agg (encWBigInt r)) true := by
  refine Meets.intro2 (N := 18) (rs := #[.cell 4 79]) Try.func192 rfl rfl rfl rfl ?_
  intro Γ hio
  unfold spec_l03Make at H
  (repeat apply sq)
  apply rg
  apply Run.op; (apply L_alloc false; (exact io1 hio _); rfl); rfl; rfl
  apply dn
  apply x3
  (repeat apply sq)
  apply rg
  apply R_mov; rfl; rfl; rfl
  obtain ⟨r1, hr1, H⟩ := bindS H
  apply Run.op; (apply L_call; ((apply ArgsV.cons; (apply ArgV.val; rfl; rfl)); (apply ArgsV.nil)); (exact m_spec_l02Cap a1 _ hr1); rfl; rfl; rfl); rfl; rfl
  apply R_asg; rfl; rfl; rfl
  apply dn
  apply x3
  (repeat apply sq)
  apply rg
  apply R_bool; (apply L_mov; rfl; rfl); rfl
  intro h; replace H := ifTb h H
  apply R_mov; rfl; rfl; rfl
  apply R_mov; rfl; rfl; rfl
  apply R_len; rfl; rfl; rfl
  apply R_gtr; rfl; rfl; rfl; rfl
  apply R_pickT; rfl; rfl; rfl; rfl
  apply Run.op; (apply L_bs0; (exact io1 hio _); rfl); rfl; rfl
  apply R_mov; rfl; rfl; rfl
  obtain ⟨_u, ha2, H⟩ := bindS H
  obtain ⟨v3, hv3, H⟩ := bindS H
  apply Run.op; (apply Local.frz 16; apply L_app true; rfl; rfl; rfl; (exact flat_len (l := ([] : List Int)) (enc := (encI .i64)) (fun _ => rfl)); (exact flat_len (l := r1) (enc := (encI .i64)) (fun _ => rfl)); (exact chkS ha2); (exact app63 (by decide) (chkS ha2)); (exact ⟨io1 hio _, io1 hio _⟩); (intro _; exact allSc_flat (l := r1) (enc := (encI .i64)) (fun _ => rfl)); (exact flat_catL (l := ([] : List Int)) (r := r1) (enc := (encI .i64)) hv3); rfl; rfl; rfl; (exact io1 hio _); rfl); rfl; rfl
  apply Run.op; (apply L_buildC true; (apply BuildV.sc; rfl; rfl; rfl; rfl; rfl; rfl; rfl; apply BuildV.tk (ks := []); rfl; rfl; rfl; rfl; rfl; rfl; rfl; apply BuildV.nil); rfl; rfl); rfl; rfl
  apply Run.op; (apply L_stT (cells' := [.sc (.bool (decide (0 < (r1.length : Int)))), .rw 1 v3.length (v3.flatMap (encI .i64))]); rfl; rfl; rfl; rfl; rfl; rfl; (intro h; cases h); rfl; (first | exact splice_whole rfl | rfl)); rfl; rfl
  apply dn
  apply x3
  apply CodeT.ret
  cases H
  apply x12
  exact RetIs.c1 rfl rfl rfl rfl (by intro h; cases h)
  intro h; replace H := ifFb h H
  apply R_mov; rfl; rfl; rfl
  apply Run.skip; rfl
  apply Run.skip; rfl
  apply Run.skip; rfl
  apply R_pickF; rfl; rfl; rfl; rfl
  apply Run.op; (apply L_bs0; (exact io1 hio _); rfl); rfl; rfl
  apply R_mov; rfl; rfl; rfl
  obtain ⟨_u, ha4, H⟩ := bindS H
  obtain ⟨v5, hv5, H⟩ := bindS H
  apply Run.op; (apply Local.frz 16; apply L_app true; rfl; rfl; rfl; (exact flat_len (l := ([] : List Int)) (enc := (encI .i64)) (fun _ => rfl)); (exact flat_len (l := r1) (enc := (encI .i64)) (fun _ => rfl)); (exact chkS ha4); (exact app63 (by decide) (chkS ha4)); (exact ⟨io1 hio _, io1 hio _⟩); (intro _; exact allSc_flat (l := r1) (enc := (encI .i64)) (fun _ => rfl)); (exact flat_catL (l := ([] : List Int)) (r := r1) (enc := (encI .i64)) hv5); rfl; rfl; rfl; (exact io1 hio _); rfl); rfl; rfl
  apply Run.op; (apply L_buildC true; (apply BuildV.sc; rfl; rfl; rfl; rfl; rfl; rfl; rfl; apply BuildV.tk (ks := []); rfl; rfl; rfl; rfl; rfl; rfl; rfl; apply BuildV.nil); rfl; rfl); rfl; rfl
  apply Run.op; (apply L_stT (cells' := [.sc (.bool false), .rw 1 v5.length (v5.flatMap (encI .i64))]); rfl; rfl; rfl; rfl; rfl; rfl; (intro h; cases h); rfl; (first | exact splice_whole rfl | rfl)); rfl; rfl
  apply dn
  apply x3
  apply CodeT.ret
  cases H
  apply x12
  exact RetIs.c1 rfl rfl rfl rfl (by intro h; cases h)
theorem m_spec_NatOf (a0 : Int) (r : (List Int)) (H : spec_NatOf a0 = some r) : Meets Try.prog 193 [.sc (.int .i64 a0)] (.rw 1 r.length (r.flatMap (encI .i64))) true := by
  refine Meets.intro2 (N := 15) (rs := #[.tmp 2]) Try.func193 rfl rfl rfl rfl ?_
  intro Γ hio
  unfold spec_NatOf at H
  (repeat apply sq)
  apply rg
  apply R_asg; rfl; rfl; rfl
  apply dn
  apply x3
  (repeat apply sq)
  apply rg
  apply Run.op; (apply L_bs0; (exact io1 hio _); rfl); rfl; rfl
  apply R_asg; rfl; rfl; rfl
  apply dn
  apply x3
  (repeat apply sq)
  apply CodeT.block
  (repeat apply sq)
  obtain ⟨d10, hd10, H⟩ := bindS H
  refine CodeT.lloop (fun s => ⟨[(0, ⟨.sc (.int .i64 s.1), false⟩), (3, ⟨.ref 503 1 0 s.2.length, false⟩)], [(503, some ⟨s.2.flatMap (encI .i64), true, false⟩)]⟩) (fun d e E => XEnv Γ (.exit 0) ⟨[(3, ⟨.ref 503 1 0 d.length, false⟩)], [(503, some ⟨d.flatMap (encI .i64), true, false⟩)]⟩ e E) hd10 ?_ ?_ ?_
  apply el [(503, 4)] (io0 hio _) <;> rfl
  clear H hd10
  rintro ⟨v4, v5⟩ o H
  unfold spec_NatOf_L1 at H
  (repeat apply sq)
  apply rg
  apply R_mov; rfl; rfl; rfl
  apply R_gtr; rfl; rfl; rfl; rfl
  apply dn
  apply x3
  (repeat apply sq)
  refine CodeT.cond rfl (fun h => ?_) (fun h => ?_)
  replace H := ifT (of_decide_eq_true h) H
  (repeat apply sq)
  apply CodeT.skip
  apply x3
  apply CodeT.block
  (repeat apply sq)
  apply rg
  apply R_mov; rfl; rfl; rfl
  apply R_mov; rfl; rfl; rfl
  apply Run.op; (apply L_rem; rfl; rfl; (intro h; cases h); rfl; rfl); rfl; rfl
  apply Run.op; (apply L_bs1; rfl; rfl; rfl; rfl; rfl; rfl; rfl; rfl); rfl; rfl
  obtain ⟨_u, ha6, H⟩ := bindS H
  obtain ⟨v7, hv7, H⟩ := bindS H
  apply Run.op; (apply L_app true; rfl; rfl; rfl; (exact flat_len (l := v5) (enc := (encI .i64)) (fun _ => rfl)); rfl; (exact chkS ha6); (exact app63 (by decide) (chkS ha6)); (exact ⟨io1 hio _, io1 hio _⟩); (intro _; rfl); (exact flat_snocL (l := v5) (y := v4.tmod 1000000000) (enc := (encI .i64)) hv7); rfl); rfl; rfl
  apply R_asg; rfl; rfl; rfl
  apply dn
  apply x3
  apply rg
  apply R_mov; rfl; rfl; rfl
  obtain ⟨v8, hv8, H⟩ := bindS H
  apply Run.op; (apply L_quo; rfl; rfl; (intro h; cases h); (exact letS hv8); rfl); rfl; rfl
  apply R_asg; rfl; rfl; rfl
  apply dn
  apply x5
  obtain rfl := Option.some.inj H
  refine Ev.y1 ?_
  apply el [(503, 11)] (io0 hio _) <;> rfl
  replace H := ifF (of_decide_eq_false h) H
  (repeat apply sq)
  apply CodeT.exit
  apply x2
  obtain rfl := Option.some.inj H
  refine Ev.y3 ?_
  refine XEnv.mk ?_
  apply el [] (io0 hio _) <;> rfl
  skip
  intro e E' hX; obtain ⟨rfl, g11⟩ := XEnv.out hX
  refine x6 rfl ?_
  apply x3
  refine CodeT.weak g11 ?_
  (repeat apply sq)
  apply rg
  apply R_mov; rfl; rfl; rfl
  apply R_asg; rfl; rfl; rfl
  apply dn
  apply x3
  apply CodeT.ret
  cases H
  apply x12
  exact RetIs.rW rfl rfl rfl (io1 hio _)
theorem m_spec_BigIntOf (a0 : Int) (r : BigInt) (H : spec_BigIntOf a0 = some r) : Meets Try.prog 172 [.sc (.int .i64 a0)] (.agg (encWBigInt r)) true := by
  refine Meets.intro2 (N := 16) (rs := #[.cell 2 79]) Try.func172 rfl rfl rfl rfl ?_
  intro Γ hio
  unfold spec_BigIntOf at H
  (repeat apply sq)
  apply rg
  apply Run.op; (apply L_alloc false; (exact io1 hio _); rfl); rfl; rfl
  apply dn
  apply x3
  (repeat apply sq)
  apply rg
  apply R_mov; rfl; rfl; rfl
  apply R_eql; rfl; rfl; rfl; rfl
  apply dn
  apply x3
  (repeat apply sq)
  refine CodeT.cond rfl (fun h => ?_) (fun h => ?_)
  replace H := ifT (of_decide_eq_true h) H
  (repeat apply sq)
  apply rg
  apply Run.op; (apply L_bsR; rfl; rfl; rfl; rfl; (exact io1 hio _); rfl); rfl; rfl
  obtain ⟨r1, hr1, H⟩ := bindS H
  apply Run.op; (apply L_call; ((apply ArgsV.cons; (apply ArgV.val; rfl; rfl)); (apply ArgsV.cons; (apply ArgV.ref; rfl; rfl; (first | exact Nat.le_of_eq (flat_len (fun _ => rfl)) | exact Nat.le_of_ble_eq_true rfl))); (apply ArgsV.nil)); (exact m_spec_l03Make true ([854775808, 223372036, 9]) _ hr1); rfl; rfl; rfl); rfl; rfl
  apply Run.op; (apply L_stT (cells' := (encWBigInt r1)); rfl; rfl; rfl; rfl; rfl; rfl; (intro h; cases h); rfl; (first | exact splice_whole rfl | rfl)); rfl; rfl
  apply dn
  apply x3
  apply CodeT.ret
  apply x1
  cases H
  apply x12
  exact RetIs.c1 rfl rfl rfl rfl (by intro h; cases h)
  replace H := ifF (of_decide_eq_false h) H
  (repeat apply sq)
  apply CodeT.skip
  apply x3
  (repeat apply sq)
  apply rg
  apply R_mov; rfl; rfl; rfl
  apply R_lss; rfl; rfl; rfl; rfl
  apply dn
  apply x3
  (repeat apply sq)
  refine CodeT.cond rfl (fun h => ?_) (fun h => ?_)
  replace H := ifT (of_decide_eq_true h) H
  (repeat apply sq)
  apply rg
  apply R_mov; rfl; rfl; rfl
  apply Run.op; (apply L_neg; rfl; rfl; rfl); rfl; rfl
  obtain ⟨r2, hr2, H⟩ := bindS H
  apply Run.op; (apply L_callW; ((apply ArgsV.cons; (apply ArgV.val; rfl; rfl)); (apply ArgsV.nil)); (exact m_spec_NatOf (IntKind.i64.wrap (0 - a0)) _ hr2); (exact io1 hio _); rfl); rfl; rfl
  obtain ⟨r3, hr3, H⟩ := bindS H
  apply Run.op; (apply L_call; ((apply ArgsV.cons; (apply ArgV.val; rfl; rfl)); (apply ArgsV.cons; (apply ArgV.ref; rfl; rfl; (first | exact Nat.le_of_eq (flat_len (fun _ => rfl)) | exact Nat.le_of_ble_eq_true rfl))); (apply ArgsV.nil)); (exact m_spec_l03Make true r2 _ hr3); rfl; rfl; rfl); rfl; rfl
  apply Run.op; (apply L_stT (cells' := (encWBigInt r3)); rfl; rfl; rfl; rfl; rfl; rfl; (intro h; cases h); rfl; (first | exact splice_whole rfl | rfl)); rfl; rfl
  apply dn
  apply x3
  apply CodeT.ret
  apply x1
  cases H
  apply x12
  exact RetIs.c1 rfl rfl rfl rfl (by intro h; cases h)
  replace H := ifF (of_decide_eq_false h) H
  (repeat apply sq)
  apply CodeT.skip
  apply x3
  (repeat apply sq)
  apply rg
  apply R_mov; rfl; rfl; rfl
  obtain ⟨r4, hr4, H⟩ := bindS H
  apply Run.op; (apply L_callW; ((apply ArgsV.cons; (apply ArgV.val; rfl; rfl)); (apply ArgsV.nil)); (exact m_spec_NatOf a0 _ hr4); (exact io1 hio _); rfl); rfl; rfl
  obtain ⟨r5, hr5, H⟩ := bindS H
  apply Run.op; (apply L_call; ((apply ArgsV.cons; (apply ArgV.val; rfl; rfl)); (apply ArgsV.cons; (apply ArgV.ref; rfl; rfl; (first | exact Nat.le_of_eq (flat_len (fun _ => rfl)) | exact Nat.le_of_ble_eq_true rfl))); (apply ArgsV.nil)); (exact m_spec_l03Make false r4 _ hr5); rfl; rfl; rfl); rfl; rfl
  apply Run.op; (apply L_stT (cells' := (encWBigInt r5)); rfl; rfl; rfl; rfl; rfl; rfl; (intro h; cases h); rfl; (first | exact splice_whole rfl | rfl)); rfl; rfl
  apply dn
  apply x3
  apply CodeT.ret
  cases H
  apply x12
  exact RetIs.c1 rfl rfl rfl rfl (by intro h; cases h)
theorem m_spec_RatFromInt (a0 : Int) (r : Rat) (H : spec_RatFromInt a0 = some r) : Meets Try.prog 149 [.sc (.int .i64 a0)] (.agg (encWRat r)) true := by
  refine Meets.intro2 (N := 7) (rs := #[.cell 2 81]) Try.func149 rfl rfl rfl rfl ?_
  intro Γ hio
  unfold spec_RatFromInt at H
  (repeat apply sq)
  apply rg
  apply Run.op; (apply L_alloc false; (exact io1 hio _); rfl); rfl; rfl
  apply dn
  apply x3
  (repeat apply sq)
  apply rg
  apply R_mov; rfl; rfl; rfl
  obtain ⟨r1, hr1, H⟩ := bindS H
  apply Run.op; (apply L_call; ((apply ArgsV.cons; (apply ArgV.val; rfl; rfl)); (apply ArgsV.nil)); (exact m_spec_BigIntOf a0 _ hr1); rfl; rfl; rfl); rfl; rfl
  apply Run.op; (apply Local.frz 5; apply L_bsR; rfl; rfl; rfl; rfl; (exact io1 hio _); rfl; rfl; rfl; (exact io1 hio _); rfl); rfl; rfl
  apply Run.op; (apply L_buildC true; (apply BuildV.tk (ks := [5]); rfl; rfl; rfl; rfl; rfl; rfl; rfl; apply BuildV.tk (ks := []); rfl; rfl; rfl; rfl; rfl; rfl; rfl; apply BuildV.nil); rfl; rfl); rfl; rfl
  apply Run.op; (apply L_stT (cells' := [.sc (.bool r1.fNeg), .rw 1 r1.fMag.length (r1.fMag.flatMap (encI .i64)), .rw 1 ([1]).length (([1]).flatMap (encI .i64))]); rfl; rfl; rfl; rfl; rfl; rfl; (intro h; cases h); rfl; (first | exact splice_whole rfl | rfl)); rfl; rfl
  apply dn
  apply x3
  apply CodeT.ret
  cases H
  apply x12
  exact RetIs.c1 rfl rfl rfl rfl (by intro h; cases h)
theorem m_spec_NewLink (a0 : Int) (a1 : Int) (a2 : Int) (a3 : Int) (a4 : Int) (r : (Link × Bool)) (H : spec_NewLink a0 a1 a2 a3 a4 = some r) : Meets Try.prog 109 [.sc (.int .i64 a0), .sc (.int .i64 a1), .sc (.int .i64 a2), .sc (.int .i64 a3), .sc (.int .i64 a4)] (.tup [.agg (encWLink r.1), .sc (.bool r.2)]) true := by
  refine Meets.intro2 (N := 59) (rs := #[.cell 10 83, .tmp 11]) Try.func109 rfl rfl rfl rfl ?_
  intro Γ hio
  unfold spec_NewLink at H
  (repeat apply sq)
  apply rg
  apply Run.op; (apply L_alloc false; (exact io1 hio _); rfl); rfl; rfl
  apply R_asg; rfl; rfl; rfl
  apply dn
  apply x3
  (repeat apply sq)
  obtain ⟨d7, hd7, H⟩ := bindS H
  refine CodeT.lcut (x := d7) (fun d e E => XEnv Γ .normal ⟨[(0, ⟨.sc (.int .i64 a0), false⟩), (1, ⟨.sc (.int .i64 a1), false⟩), (2, ⟨.sc (.int .i64 a2), false⟩), (3, ⟨.sc (.int .i64 a3), false⟩), (4, ⟨.sc (.int .i64 a4), false⟩), (10, ⟨.ptr 10 0, false⟩), (39, ⟨.sc (.bool d), false⟩)], [(10, some ⟨[.sc (.int .i64 0), .sc (.int .i64 0), .sc (.bool false), .sc (.slice none 0 0), .sc (.slice none 0 0), .sc (.bool false), .sc (.slice none 0 0), .sc (.slice none 0 0), .sc (.bool false), .sc (.slice none 0 0), .sc (.slice none 0 0)], true, false⟩)]⟩ e E) ?_ ?_
  clear H; have H := hd7; clear hd7
  apply rg
  apply R_mov; rfl; rfl; rfl
  obtain ⟨r1, hr1, H⟩ := bindS H
  apply R_bool; (apply L_call; ((apply ArgsV.cons; (apply ArgV.val; rfl; rfl)); (apply ArgsV.nil)); (exact m_spec_l06Node a0 _ hr1); rfl; rfl; rfl); rfl
  intro h; replace H := ifTb h H
  apply R_not; rfl; rfl; rfl
  apply R_mov; rfl; rfl; rfl
  apply R_mov; rfl; rfl; rfl
  obtain ⟨r2, hr2, H⟩ := bindS H
  apply R_bool; (apply L_call; ((apply ArgsV.cons; (apply ArgV.val; rfl; rfl)); (apply ArgsV.nil)); (exact m_spec_l06Node a1 _ hr2); rfl; rfl; rfl); rfl
  intro h; replace H := ifTb h H
  apply R_not; rfl; rfl; rfl
  apply R_pickF; rfl; rfl; rfl; rfl
  apply R_mov; rfl; rfl; rfl
  apply R_mov; rfl; rfl; rfl
  apply R_mov; rfl; rfl; rfl
  apply R_dec; (apply L_eql; rfl; rfl; rfl); rfl
  intro h; replace H := ifT h H
  apply R_pickF; rfl; rfl; rfl; rfl
  apply R_mov; rfl; rfl; rfl
  apply Run.skip; rfl
  apply Run.skip; rfl
  apply Run.skip; rfl
  apply R_pickT; rfl; rfl; rfl; rfl
  apply R_mov; rfl; rfl; rfl
  apply Run.skip; rfl
  apply Run.skip; rfl
  apply Run.skip; rfl
  apply R_pickT; rfl; rfl; rfl; rfl
  apply R_mov; rfl; rfl; rfl
  apply Run.skip; rfl
  apply Run.skip; rfl
  apply Run.skip; rfl
  apply R_pickT; rfl; rfl; rfl; rfl
  apply dn
  obtain rfl := Option.some.inj H
  refine Ev.y4 ?_
  refine XEnv.mk ?_
  apply el [] (io0 hio _) <;> rfl
  intro h; replace H := ifF h H
  apply R_pickF; rfl; rfl; rfl; rfl
  apply R_mov; rfl; rfl; rfl
  apply R_mov; rfl; rfl; rfl
  obtain ⟨r3, hr3, H⟩ := bindS H
  apply R_bool; (apply L_call; ((apply ArgsV.cons; (apply ArgV.val; rfl; rfl)); (apply ArgsV.cons; (apply ArgV.val; rfl; rfl)); (apply ArgsV.cons; (apply ArgV.val; rfl; rfl)); (apply ArgsV.nil)); (exact m_spec_l01In a2 1 9999 _ hr3); rfl; rfl; rfl); rfl
  intro h; replace H := ifTb h H
  apply R_not; rfl; rfl; rfl
  apply R_pickF; rfl; rfl; rfl; rfl
  apply R_mov; rfl; rfl; rfl
  apply R_mov; rfl; rfl; rfl
  obtain ⟨r4, hr4, H⟩ := bindS H
  apply R_bool; (apply L_call; ((apply ArgsV.cons; (apply ArgV.val; rfl; rfl)); (apply ArgsV.cons; (apply ArgV.val; rfl; rfl)); (apply ArgsV.cons; (apply ArgV.val; rfl; rfl)); (apply ArgsV.nil)); (exact m_spec_l01In a3 (-1000000) 1000000 _ hr4); rfl; rfl; rfl); rfl
  intro h; replace H := ifTb h H
  apply R_not; rfl; rfl; rfl
  apply R_pickF; rfl; rfl; rfl; rfl
  apply R_mov; rfl; rfl; rfl
  apply R_mov; rfl; rfl; rfl
  obtain ⟨r5, hr5, H⟩ := bindS H
  apply Run.op; (apply L_call; ((apply ArgsV.cons; (apply ArgV.val; rfl; rfl)); (apply ArgsV.cons; (apply ArgV.val; rfl; rfl)); (apply ArgsV.cons; (apply ArgV.val; rfl; rfl)); (apply ArgsV.nil)); (exact m_spec_l01In a4 (-1000000) 1000000 _ hr5); rfl; rfl; rfl); rfl; rfl
  apply R_not; rfl; rfl; rfl
  apply R_pickF; rfl; rfl; rfl; rfl
  apply dn
  obtain rfl := Option.some.inj H
  refine Ev.y4 ?_
  refine XEnv.mk ?_
  apply el [] (io0 hio _) <;> rfl
  intro h; replace H := ifFb h H
  apply R_not; rfl; rfl; rfl
  apply R_pickF; rfl; rfl; rfl; rfl
  apply R_mov; rfl; rfl; rfl
  apply Run.skip; rfl
  apply Run.skip; rfl
  apply Run.skip; rfl
  apply R_pickT; rfl; rfl; rfl; rfl
  apply dn
  obtain rfl := Option.some.inj H
  refine Ev.y4 ?_
  refine XEnv.mk ?_
  apply el [] (io0 hio _) <;> rfl
  intro h; replace H := ifFb h H
  apply R_not; rfl; rfl; rfl
  apply R_pickF; rfl; rfl; rfl; rfl
  apply R_mov; rfl; rfl; rfl
  apply Run.skip; rfl
  apply Run.skip; rfl
  apply Run.skip; rfl
  apply R_pickT; rfl; rfl; rfl; rfl
  apply R_mov; rfl; rfl; rfl
  apply Run.skip; rfl
  apply Run.skip; rfl
  apply Run.skip; rfl
  apply R_pickT; rfl; rfl; rfl; rfl
  apply dn
  obtain rfl := Option.some.inj H
  refine Ev.y4 ?_
  refine XEnv.mk ?_
  apply el [] (io0 hio _) <;> rfl
  intro h; replace H := ifFb h H
  apply R_not; rfl; rfl; rfl
  apply R_pickF; rfl; rfl; rfl; rfl
  apply R_mov; rfl; rfl; rfl
  apply Run.skip; rfl
  apply Run.skip; rfl
  apply Run.skip; rfl
  apply R_pickT; rfl; rfl; rfl; rfl
  apply R_mov; rfl; rfl; rfl
  apply Run.skip; rfl
  apply Run.skip; rfl
  apply Run.skip; rfl
  apply R_pickT; rfl; rfl; rfl; rfl
  apply R_mov; rfl; rfl; rfl
  apply Run.skip; rfl
  apply Run.skip; rfl
  apply Run.skip; rfl
  apply R_pickT; rfl; rfl; rfl; rfl
  apply R_mov; rfl; rfl; rfl
  apply Run.skip; rfl
  apply Run.skip; rfl
  apply Run.skip; rfl
  apply R_pickT; rfl; rfl; rfl; rfl
  apply dn
  obtain rfl := Option.some.inj H
  refine Ev.y4 ?_
  refine XEnv.mk ?_
  apply el [] (io0 hio _) <;> rfl
  intro h; replace H := ifFb h H
  apply R_not; rfl; rfl; rfl
  apply R_mov; rfl; rfl; rfl
  apply Run.skip; rfl
  apply Run.skip; rfl
  apply Run.skip; rfl
  apply R_pickT; rfl; rfl; rfl; rfl
  apply R_mov; rfl; rfl; rfl
  apply Run.skip; rfl
  apply Run.skip; rfl
  apply Run.skip; rfl
  apply R_pickT; rfl; rfl; rfl; rfl
  apply R_mov; rfl; rfl; rfl
  apply Run.skip; rfl
  apply Run.skip; rfl
  apply Run.skip; rfl
  apply R_pickT; rfl; rfl; rfl; rfl
  apply R_mov; rfl; rfl; rfl
  apply Run.skip; rfl
  apply Run.skip; rfl
  apply Run.skip; rfl
  apply R_pickT; rfl; rfl; rfl; rfl
  apply R_mov; rfl; rfl; rfl
  apply Run.skip; rfl
  apply Run.skip; rfl
  apply Run.skip; rfl
  apply R_pickT; rfl; rfl; rfl; rfl
  apply dn
  obtain rfl := Option.some.inj H
  refine Ev.y4 ?_
  refine XEnv.mk ?_
  apply el [] (io0 hio _) <;> rfl
  intro e E' hX; obtain ⟨rfl, g8⟩ := XEnv.out hX
  apply x3
  refine CodeT.weak g8 ?_
  (repeat apply sq)
  refine CodeT.cond rfl (fun h => ?_) (fun h => ?_)
  replace H := ifTb h H
  (repeat apply sq)
  apply rg
  apply Run.op; (apply L_buildC true; (apply BuildV.nil); rfl; rfl); rfl; rfl
  apply Run.op; (apply L_st (cells' := [.sc (.int .i64 0), .sc (.int .i64 0), .sc (.bool false), .sc (.slice none 0 0), .sc (.slice none 0 0), .sc (.bool false), .sc (.slice none 0 0), .sc (.slice none 0 0), .sc (.bool false), .sc (.slice none 0 0), .sc (.slice none 0 0)]); rfl; rfl; rfl; rfl; rfl; (intro h; cases h); rfl; (first | exact splice_whole rfl | rfl)); rfl; rfl
  apply R_asg; rfl; rfl; rfl
  apply dn
  apply x3
  apply CodeT.ret
  apply x1
  cases H
  apply x12
  refine RetIs.weak (Ent.soften (l := 10) (cells' := encWLink (Link.mk 0 0 (Rat.mk (BigInt.mk false ([])) ([])) (Rat.mk (BigInt.mk false ([])) ([])) (Rat.mk (BigInt.mk false ([])) ([])))) rfl (SoftL.cons (Soft.refl _) (SoftL.cons (Soft.refl _) (SoftL.cons (Soft.refl _) (SoftL.cons Soft.nilW (SoftL.cons Soft.nilW (SoftL.cons (Soft.refl _) (SoftL.cons Soft.nilW (SoftL.cons Soft.nilW (SoftL.cons (Soft.refl _) (SoftL.cons Soft.nilW (SoftL.cons Soft.nilW SoftL.nil)))))))))))) ?_
  exact RetIs.many (.inl rfl) (ResL.cons (Res1.cell rfl rfl rfl (by intro h; cases h)) (ResL.cons (Res1.sc rfl) ResL.nil)) (fun h => by first | rfl | cases h)
  replace H := ifFb h H
  (repeat apply sq)
  apply CodeT.skip
  apply x3
  (repeat apply sq)
  apply rg
  apply R_mov; rfl; rfl; rfl
  apply R_mov; rfl; rfl; rfl
  apply R_gtr; rfl; rfl; rfl; rfl
  apply dn
  apply x3
  (repeat apply sq)
  obtain ⟨d10, hd10, H⟩ := bindS H
  refine CodeT.lcut (x := d10) (fun d e E => XEnv Γ .normal ⟨[(0, ⟨.sc (.int .i64 d.1), false⟩), (1, ⟨.sc (.int .i64 d.2.1), false⟩), (2, ⟨.sc (.int .i64 a2), false⟩), (3, ⟨.sc (.int .i64 d.2.2.1), false⟩), (4, ⟨.sc (.int .i64 d.2.2.2), false⟩), (10, ⟨.ptr 10 0, false⟩)], [(10, some ⟨[.sc (.int .i64 0), .sc (.int .i64 0), .sc (.bool false), .sc (.slice none 0 0), .sc (.slice none 0 0), .sc (.bool false), .sc (.slice none 0 0), .sc (.slice none 0 0), .sc (.bool false), .sc (.slice none 0 0), .sc (.slice none 0 0)], true, false⟩)]⟩ e E) ?_ ?_
  clear H; have H := hd10; clear hd10
  refine CodeT.cond rfl (fun h => ?_) (fun h => ?_)
  replace H := ifT (of_decide_eq_true h) H
  (repeat apply sq)
  apply rg
  apply R_mov; rfl; rfl; rfl
  apply R_mov; rfl; rfl; rfl
  apply R_mov; rfl; rfl; rfl
  apply Run.op; (apply L_neg; rfl; rfl; rfl); rfl; rfl
  apply R_mov; rfl; rfl; rfl
  apply Run.op; (apply L_neg; rfl; rfl; rfl); rfl; rfl
  apply R_asg; rfl; rfl; rfl
  apply R_asg; rfl; rfl; rfl
  apply R_asg; rfl; rfl; rfl
  apply R_asg; rfl; rfl; rfl
  apply dn
  obtain rfl := Option.some.inj H
  refine Ev.y4 ?_
  refine XEnv.mk ?_
  apply el [] (io0 hio _) <;> rfl
  replace H := ifF (of_decide_eq_false h) H
  (repeat apply sq)
  apply CodeT.skip
  obtain rfl := Option.some.inj H
  refine Ev.y4 ?_
  refine XEnv.mk ?_
  apply el [] (io0 hio _) <;> rfl
  intro e E' hX; obtain ⟨rfl, g11⟩ := XEnv.out hX
  apply x3
  refine CodeT.weak g11 ?_
  (repeat apply sq)
  apply rg
  apply R_mov; rfl; rfl; rfl
  apply R_mov; rfl; rfl; rfl
  apply R_mov; rfl; rfl; rfl
  obtain ⟨r12, hr12, H⟩ := bindS H
  apply Run.op; (apply L_call; ((apply ArgsV.cons; (apply ArgV.val; rfl; rfl)); (apply ArgsV.nil)); (exact m_spec_RatFromInt a2 _ hr12); rfl; rfl; rfl); rfl; rfl
  apply R_mov; rfl; rfl; rfl
  obtain ⟨r13, hr13, H⟩ := bindS H
  apply Run.op; (apply L_call; ((apply ArgsV.cons; (apply ArgV.val; rfl; rfl)); (apply ArgsV.nil)); (exact m_spec_RatFromInt d10.2.2.1 _ hr13); rfl; rfl; rfl); rfl; rfl
  apply R_mov; rfl; rfl; rfl
  obtain ⟨r14, hr14, H⟩ := bindS H
  apply Run.op; (apply L_call; ((apply ArgsV.cons; (apply ArgV.val; rfl; rfl)); (apply ArgsV.nil)); (exact m_spec_RatFromInt d10.2.2.2 _ hr14); rfl; rfl; rfl); rfl; rfl
  apply Run.op; (apply L_buildC true; (apply BuildV.sc; rfl; rfl; rfl; rfl; rfl; rfl; rfl; apply BuildV.sc; rfl; rfl; rfl; rfl; rfl; rfl; rfl; apply BuildV.tk (ks := [55, 57]); rfl; rfl; rfl; rfl; rfl; rfl; rfl; apply BuildV.tk (ks := [57]); rfl; rfl; rfl; rfl; rfl; rfl; rfl; apply BuildV.tk (ks := []); rfl; rfl; rfl; rfl; rfl; rfl; rfl; apply BuildV.nil); rfl; rfl); rfl; rfl
  apply Run.op; (apply L_stT (cells' := [.sc (.int .i64 d10.1), .sc (.int .i64 d10.2.1), .sc (.bool r12.fNum.fNeg), .rw 1 r12.fNum.fMag.length (r12.fNum.fMag.flatMap (encI .i64)), .rw 1 r12.fDen.length (r12.fDen.flatMap (encI .i64)), .sc (.bool r13.fNum.fNeg), .rw 1 r13.fNum.fMag.length (r13.fNum.fMag.flatMap (encI .i64)), .rw 1 r13.fDen.length (r13.fDen.flatMap (encI .i64)), .sc (.bool r14.fNum.fNeg), .rw 1 r14.fNum.fMag.length (r14.fNum.fMag.flatMap (encI .i64)), .rw 1 r14.fDen.length (r14.fDen.flatMap (encI .i64))]); rfl; rfl; rfl; rfl; rfl; rfl; (intro h; cases h); rfl; (first | exact splice_whole rfl | rfl)); rfl; rfl
  apply R_asg; rfl; rfl; rfl
  apply dn
  apply x3
  apply CodeT.ret
  cases H
  apply x12
  exact RetIs.many (.inl rfl) (ResL.cons (Res1.cell rfl rfl rfl (by intro h; cases h)) (ResL.cons (Res1.sc rfl) ResL.nil)) (fun h => by first | rfl | cases h)
theorem m_spec_l17Step (a0 : (List Factor)) (a1 : (List ByteArray)) (a2 : (List Int)) (r : (Int × Int)) (H : spec_l17Step a0 a1 a2 = some r) : Meets Try.prog 121 [.sl a0.length (a0.flatMap encFactor), .sl a1.length (a1.flatMap encS), .sl a2.length (a2.flatMap (encI .i64))] (.tup [.sc (.int .i64 r.1), .sc (.int .i64 r.2)]) true := by
  refine Meets.intro2 (N := 89) (rs := #[.tmp 6, .tmp 7]) Try.func121 rfl rfl rfl rfl ?_
  intro Γ hio
  unfold spec_l17Step at H
  (repeat apply sq)
  apply rg
  apply R_asg; rfl; rfl; rfl
  apply R_asg; rfl; rfl; rfl
  apply dn
  apply x3
  (repeat apply sq)
  apply rg
  apply R_mov; rfl; rfl; rfl
  apply R_len; rfl; rfl; rfl
  apply R_mov; rfl; rfl; rfl
  apply dn
  apply x3
  (repeat apply sq)
  apply CodeT.block
  (repeat apply sq)
  obtain ⟨d44, hd44, H⟩ := bindS H
  refine CodeT.lloop (fun s => ⟨[(1, ⟨.sl a1.length (a1.flatMap encS), false⟩), (2, ⟨.sl a2.length (a2.flatMap (encI .i64)), false⟩), (12, ⟨.sl a0.length (a0.flatMap encFactor), false⟩), (13, ⟨.sc (.int .i64 (a0.length : Int)), false⟩), (14, ⟨.sc (.int .i64 s), false⟩)], []⟩) (fun x e E => match x with | (.inl d) => XEnv Γ (.exit 0) ⟨[], []⟩ e E | (.inr d) => XRet Γ #[.tmp 6, .tmp 7] (.tup [.sc (.int .i64 d.1), .sc (.int .i64 d.2)]) true e E) hd44 ?_ ?_ ?_
  apply el [] (io0 hio _) <;> rfl
  clear H hd44
  rintro v22 o H
  unfold spec_l17Step_L1 at H
  (repeat apply sq)
  apply rg
  apply R_lss; rfl; rfl; rfl; rfl
  apply dn
  apply x3
  (repeat apply sq)
  refine CodeT.cond rfl (fun h => ?_) (fun h => ?_)
  replace H := ifT (of_decide_eq_true h) H
  (repeat apply sq)
  apply CodeT.skip
  apply x3
  (repeat apply sq)
  apply CodeT.block
  (repeat apply sq)
  apply rg
  obtain ⟨y23, hy23, H⟩ := bindS H
  apply Run.op; (apply L_ixS2; rfl; rfl; rfl; (exact hy23); (intro _; rfl); rfl); rfl; rfl
  apply Run.op; (apply L_ldIA; rfl; (first | exact take_whole rfl | rfl); rfl; (intro h; cases h); rfl; rfl); rfl; rfl
  apply Run.op; (apply L_alloc false; (exact io1 hio _); rfl); rfl; rfl
  apply Run.op; (apply L_st (cells' := (encFactor y23)); rfl; rfl; rfl; rfl; rfl; (intro h; cases h); rfl; (first | exact splice_whole rfl | rfl)); rfl; rfl
  apply dn
  apply x3
  (repeat apply sq)
  apply rg
  apply R_mov; rfl; rfl; rfl
  apply R_fldP; rfl; rfl; rfl; rfl; rfl
  apply R_ldP; rfl; rfl; rfl; rfl; rfl; rfl
  obtain ⟨r24, hr24, H⟩ := bindS H
  apply Run.op; (apply L_call; ((apply ArgsV.cons; (apply ArgV.val; rfl; rfl)); (apply ArgsV.cons; (apply ArgV.val; rfl; rfl)); (apply ArgsV.nil)); (exact m_spec_l17Index a1 y23.fTo _ hr24); rfl; rfl; rfl); rfl; rfl
  apply R_asg; rfl; rfl; rfl
  apply dn
  apply x3
  (repeat apply sq)
  obtain ⟨d27, hd27, H⟩ := bindS H
  refine CodeT.lcut (x := d27) (fun d e E => XEnv Γ .normal ⟨[(1, ⟨.sl a1.length (a1.flatMap encS), false⟩), (2, ⟨.sl a2.length (a2.flatMap (encI .i64)), false⟩), (9, ⟨.ptr 9 0, false⟩), (10, ⟨.sc (.int .i64 r24), false⟩), (12, ⟨.sl a0.length (a0.flatMap encFactor), false⟩), (13, ⟨.sc (.int .i64 (a0.length : Int)), false⟩), (14, ⟨.sc (.int .i64 v22), false⟩), (31, ⟨.sc (.bool d), false⟩)], [(9, some ⟨(encFactor y23), true, false⟩)]⟩ e E) ?_ ?_
  clear H; have H := hd27; clear hd27
  apply rg
  apply R_fldP; rfl; rfl; rfl; rfl; rfl
  apply R_ldP; rfl; rfl; rfl; rfl; rfl; rfl
  apply R_dec; (apply L_eql; rfl; rfl; rfl); rfl
  intro h; replace H := ifT h H
  apply R_mov; rfl; rfl; rfl
  apply R_mov; rfl; rfl; rfl
  apply R_mov; rfl; rfl; rfl
  obtain ⟨y25, hy25, H⟩ := bindS H
  apply Run.op; (apply L_ixS2; rfl; rfl; rfl; (exact hy25); (intro _; rfl); rfl); rfl; rfl
  apply R_ldI; rfl; rfl; rfl; rfl; rfl
  apply R_lss; rfl; rfl; rfl; rfl
  apply R_pickT; rfl; rfl; rfl; rfl
  apply dn
  obtain rfl := Option.some.inj H
  refine Ev.y4 ?_
  refine XEnv.mk ?_
  apply el [] (io0 hio _) <;> rfl
  intro h; replace H := ifF h H
  apply R_mov; rfl; rfl; rfl
  apply Run.skip; rfl
  apply Run.skip; rfl
  apply Run.skip; rfl
  apply Run.skip; rfl
  apply Run.skip; rfl
  apply R_pickF; rfl; rfl; rfl; rfl
  apply dn
  obtain rfl := Option.some.inj H
  refine Ev.y4 ?_
  refine XEnv.mk ?_
  apply el [] (io0 hio _) <;> rfl
  intro e E' hX; obtain ⟨rfl, g28⟩ := XEnv.out hX
  apply x3
  refine CodeT.weak g28 ?_
  (repeat apply sq)
  refine CodeT.cond rfl (fun h => ?_) (fun h => ?_)
  replace H := ifTb h H
  (repeat apply sq)
  apply rg
  apply R_mov; rfl; rfl; rfl
  apply R_fldP; rfl; rfl; rfl; rfl; rfl
  apply R_fldP; rfl; rfl; rfl; rfl; rfl
  apply R_ldP; rfl; rfl; rfl; rfl; rfl; rfl
  apply R_asg; rfl; rfl; rfl
  apply R_asg; rfl; rfl; rfl
  apply Run.done; refine ⟨fun _ => ⟨rfl, rfl⟩, ?_⟩
  apply x3
  apply CodeT.ret
  apply x1
  apply x4
  apply x1
  obtain rfl := Option.some.inj H
  refine Ev.y2 ?_
  refine XRet.mk ?_
  exact RetIs.many (.inl rfl) (ResL.cons (Res1.sc rfl) (ResL.cons (Res1.sc rfl) ResL.nil)) (fun h => by first | rfl | cases h)
  replace H := ifFb h H
  (repeat apply sq)
  apply CodeT.skip
  apply x3
  (repeat apply sq)
  apply rg
  apply R_fldP; rfl; rfl; rfl; rfl; rfl
  apply R_ldP; rfl; rfl; rfl; rfl; rfl; rfl
  apply R_neq; rfl; rfl; rfl; rfl
  apply dn
  apply x3
  (repeat apply sq)
  refine CodeT.cond rfl (fun h => ?_) (fun h => ?_)
  replace H := ifT (of_decide_eq_true h) H
  (repeat apply sq)
  apply CodeT.exit
  apply x2
  refine x6 rfl ?_
  apply x3
  apply rg
  apply R_add; rfl; rfl; rfl; rfl; rfl
  apply R_mov; rfl; rfl; rfl
  apply dn
  obtain rfl := Option.some.inj H
  refine Ev.y1 ?_
  apply el [] (io0 hio _) <;> rfl
  replace H := ifF (of_decide_eq_false h) H
  (repeat apply sq)
  apply CodeT.skip
  apply x3
  (repeat apply sq)
  apply rg
  apply R_mov; rfl; rfl; rfl
  apply R_fldP; rfl; rfl; rfl; rfl; rfl
  apply R_ldP; rfl; rfl; rfl; rfl; rfl; rfl
  obtain ⟨r29, hr29, H⟩ := bindS H
  apply Run.op; (apply L_call; ((apply ArgsV.cons; (apply ArgV.val; rfl; rfl)); (apply ArgsV.cons; (apply ArgV.val; rfl; rfl)); (apply ArgsV.nil)); (exact m_spec_l17Index a1 y23.fFrom _ hr29); rfl; rfl; rfl); rfl; rfl
  apply R_asg; rfl; rfl; rfl
  apply dn
  apply x3
  (repeat apply sq)
  obtain ⟨d33, hd33, H⟩ := bindS H
  refine CodeT.lcut (x := d33) (fun d e E => XEnv Γ .normal ⟨[(1, ⟨.sl a1.length (a1.flatMap encS), false⟩), (2, ⟨.sl a2.length (a2.flatMap (encI .i64)), false⟩), (9, ⟨.ptr 9 0, false⟩), (10, ⟨.sc (.int .i64 r24), false⟩), (11, ⟨.sc (.int .i64 r29), false⟩), (12, ⟨.sl a0.length (a0.flatMap encFactor), false⟩), (13, ⟨.sc (.int .i64 (a0.length : Int)), false⟩), (14, ⟨.sc (.int .i64 v22), false⟩), (54, ⟨.sc (.bool d), false⟩)], [(9, some ⟨(encFactor y23), true, false⟩)]⟩ e E) ?_ ?_
  clear H; have H := hd33; clear hd33
  apply rg
  apply R_mov; rfl; rfl; rfl
  apply R_mov; rfl; rfl; rfl
  obtain ⟨y30, hy30, H⟩ := bindS H
  apply Run.op; (apply L_ixS2; rfl; rfl; rfl; (exact hy30); (intro _; rfl); rfl); rfl; rfl
  apply R_ldI; rfl; rfl; rfl; rfl; rfl
  apply R_dec; (apply L_geq; rfl; rfl; rfl); rfl
  intro h; replace H := ifT h H
  apply R_mov; rfl; rfl; rfl
  apply R_mov; rfl; rfl; rfl
  apply R_mov; rfl; rfl; rfl
  obtain ⟨y31, hy31, H⟩ := bindS H
  apply Run.op; (apply L_ixS2; rfl; rfl; rfl; (exact hy31); (intro _; rfl); rfl); rfl; rfl
  apply R_ldI; rfl; rfl; rfl; rfl; rfl
  apply R_lss; rfl; rfl; rfl; rfl
  apply R_pickT; rfl; rfl; rfl; rfl
  apply dn
  obtain rfl := Option.some.inj H
  refine Ev.y4 ?_
  refine XEnv.mk ?_
  apply el [] (io0 hio _) <;> rfl
  intro h; replace H := ifF h H
  apply R_mov; rfl; rfl; rfl
  apply Run.skip; rfl
  apply Run.skip; rfl
  apply Run.skip; rfl
  apply Run.skip; rfl
  apply Run.skip; rfl
  apply R_pickF; rfl; rfl; rfl; rfl
  apply dn
  obtain rfl := Option.some.inj H
  refine Ev.y4 ?_
  refine XEnv.mk ?_
  apply el [] (io0 hio _) <;> rfl
  intro e E' hX; obtain ⟨rfl, g34⟩ := XEnv.out hX
  apply x3
  refine CodeT.weak g34 ?_
  (repeat apply sq)
  refine CodeT.cond rfl (fun h => ?_) (fun h => ?_)
  replace H := ifTb h H
  (repeat apply sq)
  apply rg
  apply R_mov; rfl; rfl; rfl
  apply R_mov; rfl; rfl; rfl
  apply R_mov; rfl; rfl; rfl
  obtain ⟨y35, hy35, H⟩ := bindS H
  apply Run.op; (apply L_ixS2; rfl; rfl; rfl; (exact hy35); (intro _; rfl); rfl); rfl; rfl
  apply R_ldI; rfl; rfl; rfl; rfl; rfl
  apply R_fldP; rfl; rfl; rfl; rfl; rfl
  apply R_fldP; rfl; rfl; rfl; rfl; rfl
  apply R_ldP; rfl; rfl; rfl; rfl; rfl; rfl
  obtain ⟨v36, hv36, H⟩ := bindS H
  apply R_add; rfl; rfl; (exact letS hv36); rfl; rfl
  apply Run.op; (apply L_rem; rfl; rfl; (intro h; cases h); rfl; rfl); rfl; rfl
  apply R_asg; rfl; rfl; rfl
  apply R_asg; rfl; rfl; rfl
  apply Run.done; refine ⟨fun _ => ⟨rfl, rfl⟩, ?_⟩
  apply x3
  apply CodeT.ret
  apply x1
  apply x4
  apply x1
  obtain rfl := Option.some.inj H
  refine Ev.y2 ?_
  refine XRet.mk ?_
  exact RetIs.many (.inl rfl) (ResL.cons (Res1.sc rfl) (ResL.cons (Res1.sc rfl) ResL.nil)) (fun h => by first | rfl | cases h)
  replace H := ifFb h H
  (repeat apply sq)
  apply CodeT.skip
  apply x3
  (repeat apply sq)
  obtain ⟨d40, hd40, H⟩ := bindS H
  refine CodeT.lcut (x := d40) (fun d e E => XEnv Γ .normal ⟨[(1, ⟨.sl a1.length (a1.flatMap encS), false⟩), (2, ⟨.sl a2.length (a2.flatMap (encI .i64)), false⟩), (9, ⟨.ptr 9 0, false⟩), (10, ⟨.sc (.int .i64 r24), false⟩), (11, ⟨.sc (.int .i64 r29), false⟩), (12, ⟨.sl a0.length (a0.flatMap encFactor), false⟩), (13, ⟨.sc (.int .i64 (a0.length : Int)), false⟩), (14, ⟨.sc (.int .i64 v22), false⟩), (76, ⟨.sc (.bool d), false⟩)], [(9, some ⟨(encFactor y23), true, false⟩)]⟩ e E) ?_ ?_
  clear H; have H := hd40; clear hd40
  apply rg
  apply R_mov; rfl; rfl; rfl
  apply R_mov; rfl; rfl; rfl
  obtain ⟨y37, hy37, H⟩ := bindS H
  apply Run.op; (apply L_ixS2; rfl; rfl; rfl; (exact hy37); (intro _; rfl); rfl); rfl; rfl
  apply R_ldI; rfl; rfl; rfl; rfl; rfl
  apply R_dec; (apply L_lss; rfl; rfl; rfl); rfl
  intro h; replace H := ifT h H
  apply R_mov; rfl; rfl; rfl
  apply R_mov; rfl; rfl; rfl
  apply R_mov; rfl; rfl; rfl
  obtain ⟨y38, hy38, H⟩ := bindS H
  apply Run.op; (apply L_ixS2; rfl; rfl; rfl; (exact hy38); (intro _; rfl); rfl); rfl; rfl
  apply R_ldI; rfl; rfl; rfl; rfl; rfl
  apply Run.op; (apply L_geq; rfl; rfl; rfl); rfl; rfl
  apply R_pickT; rfl; rfl; rfl; rfl
  apply dn
  obtain rfl := Option.some.inj H
  refine Ev.y4 ?_
  refine XEnv.mk ?_
  apply el [] (io0 hio _) <;> rfl
  intro h; replace H := ifF h H
  apply R_mov; rfl; rfl; rfl
  apply Run.skip; rfl
  apply Run.skip; rfl
  apply Run.skip; rfl
  apply Run.skip; rfl
  apply Run.skip; rfl
  apply R_pickF; rfl; rfl; rfl; rfl
  apply dn
  obtain rfl := Option.some.inj H
  refine Ev.y4 ?_
  refine XEnv.mk ?_
  apply el [] (io0 hio _) <;> rfl
  intro e E' hX; obtain ⟨rfl, g41⟩ := XEnv.out hX
  apply x3
  refine CodeT.weak g41 ?_
  refine CodeT.cond rfl (fun h => ?_) (fun h => ?_)
  replace H := ifTb h H
  (repeat apply sq)
  apply rg
  apply R_mov; rfl; rfl; rfl
  apply R_mov; rfl; rfl; rfl
  apply R_mov; rfl; rfl; rfl
  obtain ⟨y42, hy42, H⟩ := bindS H
  apply Run.op; (apply L_ixS2; rfl; rfl; rfl; (exact hy42); (intro _; rfl); rfl); rfl; rfl
  apply R_ldI; rfl; rfl; rfl; rfl; rfl
  apply R_add; rfl; rfl; rfl; rfl; rfl
  apply R_fldP; rfl; rfl; rfl; rfl; rfl
  apply R_fldP; rfl; rfl; rfl; rfl; rfl
  apply R_ldP; rfl; rfl; rfl; rfl; rfl; rfl
  obtain ⟨v43, hv43, H⟩ := bindS H
  apply R_sub; rfl; rfl; (exact letS hv43); rfl; rfl
  apply Run.op; (apply L_rem; rfl; rfl; (intro h; cases h); rfl; rfl); rfl; rfl
  apply R_asg; rfl; rfl; rfl
  apply R_asg; rfl; rfl; rfl
  apply Run.done; refine ⟨fun _ => ⟨rfl, rfl⟩, ?_⟩
  apply x3
  apply CodeT.ret
  apply x4
  apply x1
  obtain rfl := Option.some.inj H
  refine Ev.y2 ?_
  refine XRet.mk ?_
  exact RetIs.many (.inl rfl) (ResL.cons (Res1.sc rfl) (ResL.cons (Res1.sc rfl) ResL.nil)) (fun h => by first | rfl | cases h)
  replace H := ifFb h H
  (repeat apply sq)
  apply CodeT.skip
  apply x5
  apply x3
  apply rg
  apply R_add; rfl; rfl; rfl; rfl; rfl
  apply R_mov; rfl; rfl; rfl
  apply dn
  obtain rfl := Option.some.inj H
  refine Ev.y1 ?_
  apply el [] (io0 hio _) <;> rfl
  replace H := ifF (of_decide_eq_false h) H
  (repeat apply sq)
  apply CodeT.exit
  apply x2
  obtain rfl := Option.some.inj H
  refine Ev.y3 ?_
  refine XEnv.mk ?_
  apply el [] (io0 hio _) <;> rfl
  rcases d44 with (d45 | d47)
  intro e E' hX; obtain ⟨rfl, g46⟩ := XEnv.out hX
  refine x6 rfl ?_
  apply x3
  refine CodeT.weak g46 ?_
  (repeat apply sq)
  apply rg
  apply R_asg; rfl; rfl; rfl
  apply R_asg; rfl; rfl; rfl
  apply dn
  apply x3
  apply CodeT.ret
  cases H
  apply x12
  exact RetIs.many (.inl rfl) (ResL.cons (Res1.sc rfl) (ResL.cons (Res1.sc rfl) ResL.nil)) (fun h => by first | rfl | cases h)
  intro e E' hX; obtain ⟨rfl, g48⟩ := XRet.out hX
  apply x4
  apply x1
  cases H
  apply x12
  exact g48
theorem m_spec_HeadingsOf (a0 : (List Factor)) (r : (List Int)) (H : spec_HeadingsOf a0 = some r) : Meets Try.prog 71 [.sl a0.length (a0.flatMap encFactor)] (.rw 1 r.length (r.flatMap (encI .i64))) true := by
  refine Meets.intro2 (N := 35) (rs := #[.tmp 2]) Try.func71 rfl rfl rfl rfl ?_
  intro Γ hio
  unfold spec_HeadingsOf at H
  (repeat apply sq)
  apply rg
  apply R_asg; rfl; rfl; rfl
  apply dn
  apply x3
  (repeat apply sq)
  apply rg
  apply R_mov; rfl; rfl; rfl
  obtain ⟨r1, hr1, H⟩ := bindS H
  apply Run.op; (apply L_call; ((apply ArgsV.cons; (apply ArgV.val; rfl; rfl)); (apply ArgsV.nil)); (exact m_spec_IsFactorList a0 _ hr1); rfl; rfl; rfl); rfl; rfl
  apply R_not; rfl; rfl; rfl
  apply dn
  apply x3
  (repeat apply sq)
  refine CodeT.cond rfl (fun h => ?_) (fun h => ?_)
  replace H := ifFb (notT h) H
  (repeat apply sq)
  apply rg
  apply R_asg; rfl; rfl; rfl
  apply dn
  apply x3
  apply CodeT.ret
  apply x1
  cases H
  apply x12
  exact RetIs.one (Res1.nilW rfl) (fun _ h => by cases h)
  replace H := ifTb (notF h) H
  (repeat apply sq)
  apply CodeT.skip
  apply x3
  (repeat apply sq)
  apply rg
  apply R_mov; rfl; rfl; rfl
  obtain ⟨r2, hr2, H⟩ := bindS H
  apply Run.op; (apply L_callW; ((apply ArgsV.cons; (apply ArgV.val; rfl; rfl)); (apply ArgsV.nil)); (exact m_spec_NamesOf a0 _ hr2); (exact io1 hio _); rfl); rfl; rfl
  apply R_asg; rfl; rfl; rfl
  apply dn
  apply x3
  (repeat apply sq)
  apply rg
  apply Run.op; (apply L_bs0; (exact io1 hio _); rfl); rfl; rfl
  apply R_asg; rfl; rfl; rfl
  apply dn
  apply x3
  (repeat apply sq)
  apply rg
  apply R_mov; rfl; rfl; rfl
  apply Run.op; (apply L_lenR; rfl; rfl; rfl); rfl; rfl
  apply R_mov; rfl; rfl; rfl
  apply dn
  apply x3
  (repeat apply sq)
  apply CodeT.block
  (repeat apply sq)
  obtain ⟨d10, hd10, H⟩ := bindS H
  refine CodeT.lloop (fun s => ⟨[(0, ⟨.sl a0.length (a0.flatMap encFactor), false⟩), (3, ⟨.ref 503 1 0 r2.length, false⟩), (4, ⟨.ref 504 1 0 s.2.length, false⟩), (14, ⟨.sc (.int .i64 (r2.length : Int)), false⟩), (15, ⟨.sc (.int .i64 s.1), false⟩)], [(503, some ⟨r2.flatMap encS, true, false⟩), (504, some ⟨s.2.flatMap (encI .i64), true, false⟩)]⟩) (fun d e E => XEnv Γ (.exit 0) ⟨[(0, ⟨.sl a0.length (a0.flatMap encFactor), false⟩), (3, ⟨.ref 503 1 0 r2.length, false⟩), (4, ⟨.ref 504 1 0 d.length, false⟩)], [(503, some ⟨r2.flatMap encS, true, false⟩), (504, some ⟨d.flatMap (encI .i64), true, false⟩)]⟩ e E) hd10 ?_ ?_ ?_
  apply el [(503, 11), (504, 12)] (io0 hio _) <;> rfl
  clear H hd10
  rintro ⟨v5, v6⟩ o H
  unfold spec_HeadingsOf_L1 at H
  (repeat apply sq)
  apply rg
  apply R_lss; rfl; rfl; rfl; rfl
  apply dn
  apply x3
  (repeat apply sq)
  refine CodeT.cond rfl (fun h => ?_) (fun h => ?_)
  replace H := ifT (of_decide_eq_true h) H
  (repeat apply sq)
  apply CodeT.skip
  apply x3
  (repeat apply sq)
  apply CodeT.block
  (repeat apply sq)
  apply rg
  apply R_mov; rfl; rfl; rfl
  apply Run.op; (apply L_bs1; rfl; rfl; rfl; rfl; rfl; rfl; rfl; rfl); rfl; rfl
  obtain ⟨_u, ha7, H⟩ := bindS H
  obtain ⟨v8, hv8, H⟩ := bindS H
  apply Run.op; (apply L_app true; rfl; rfl; rfl; (exact flat_len (l := v6) (enc := (encI .i64)) (fun _ => rfl)); rfl; (exact chkS ha7); (exact app63 (by decide) (chkS ha7)); (exact ⟨io1 hio _, io1 hio _⟩); (intro _; rfl); (exact flat_snocL (l := v6) (y := (-1)) (enc := (encI .i64)) hv8); rfl); rfl; rfl
  apply R_asg; rfl; rfl; rfl
  apply dn
  apply x5
  apply x3
  apply rg
  apply R_add; rfl; rfl; rfl; rfl; rfl
  apply R_mov; rfl; rfl; rfl
  apply dn
  obtain rfl := Option.some.inj H
  refine Ev.y1 ?_
  apply el [(504, 19)] (io0 hio _) <;> rfl
  replace H := ifF (of_decide_eq_false h) H
  (repeat apply sq)
  apply CodeT.exit
  apply x2
  obtain rfl := Option.some.inj H
  refine Ev.y3 ?_
  refine XEnv.mk ?_
  apply el [] (io0 hio _) <;> rfl
  skip
  intro e E' hX; obtain ⟨rfl, g11⟩ := XEnv.out hX
  refine x6 rfl ?_
  apply x3
  refine CodeT.weak g11 ?_
  apply CodeT.block
  (repeat apply sq)
  obtain ⟨d22, hd22, H⟩ := bindS H
  refine CodeT.lloop (fun s => ⟨[(0, ⟨.sl a0.length (a0.flatMap encFactor), false⟩), (3, ⟨.ref 503 1 0 r2.length, false⟩), (4, ⟨.ref 504 1 0 s.length, false⟩)], [(503, some ⟨r2.flatMap encS, true, false⟩), (504, some ⟨s.flatMap (encI .i64), true, false⟩)]⟩) (fun d e E => XRet Γ #[.tmp 2] (.rw 1 d.length (d.flatMap (encI .i64))) true e E) hd22 ?_ ?_ ?_
  apply el [] (io0 hio _) <;> rfl
  clear H hd22
  rintro v16 o H
  unfold spec_HeadingsOf_L2 at H
  (repeat apply sq)
  apply CodeT.block
  (repeat apply sq)
  apply rg
  apply R_mov; rfl; rfl; rfl
  apply R_mov; rfl; rfl; rfl
  apply R_mov; rfl; rfl; rfl
  obtain ⟨r17, hr17, H⟩ := bindS H
  apply Run.op; (apply L_call; ((apply ArgsV.cons; (apply ArgV.val; rfl; rfl)); (apply ArgsV.cons; (apply ArgV.ref; rfl; rfl; (first | exact Nat.le_of_eq (flat_len (fun _ => rfl)) | exact Nat.le_of_ble_eq_true rfl))); (apply ArgsV.cons; (apply ArgV.ref; rfl; rfl; (first | exact Nat.le_of_eq (flat_len (fun _ => rfl)) | exact Nat.le_of_ble_eq_true rfl))); (apply ArgsV.nil)); (exact m_spec_l17Step a0 r2 v16 _ hr17); rfl; rfl; rfl); rfl; rfl
  apply R_mov; rfl; rfl; rfl
  apply Run.op; (apply L_extR; rfl; rfl; rfl); rfl; rfl
  apply Run.op; (apply L_extR; rfl; rfl; rfl); rfl; rfl
  apply R_asg; rfl; rfl; rfl
  apply R_asg; rfl; rfl; rfl
  apply dn
  apply x3
  (repeat apply sq)
  apply rg
  apply R_mov; rfl; rfl; rfl
  apply R_lss; rfl; rfl; rfl; rfl
  apply dn
  apply x3
  (repeat apply sq)
  refine CodeT.cond rfl (fun h => ?_) (fun h => ?_)
  replace H := ifT (of_decide_eq_true h) H
  (repeat apply sq)
  apply rg
  apply R_mov; rfl; rfl; rfl
  apply R_asg; rfl; rfl; rfl
  apply dn
  apply x3
  apply CodeT.ret
  apply x1
  apply x4
  obtain rfl := Option.some.inj H
  refine Ev.y2 ?_
  refine XRet.mk ?_
  exact RetIs.rW rfl rfl rfl (io1 hio _)
  replace H := ifF (of_decide_eq_false h) H
  (repeat apply sq)
  apply CodeT.skip
  apply x3
  apply rg
  apply R_mov; rfl; rfl; rfl
  apply R_mov; rfl; rfl; rfl
  apply R_mov; rfl; rfl; rfl
  obtain ⟨y18, hy18, H⟩ := bindS H
  apply Run.op; (apply L_ixR2; rfl; rfl; rfl; (exact hy18); rfl; rfl); rfl; rfl
  obtain ⟨v19, hv19, H⟩ := bindS H
  have hl20 := setI_lenS hv19
  apply Run.op; (apply L_st; rfl; rfl; rfl; rfl; rfl; (intro h; cases h); (exact row_ble0 (sz := 1) (n := 1) hy18 (fun _ => rfl) (by decide)); (exact row_stL (sz := 1) hv19 hy18 (fun _ => rfl) rfl)); rfl; rfl
  apply dn
  apply x5
  obtain rfl := Option.some.inj H
  refine Ev.y1 ?_
  refine Ent.trans (Ent.relen (k := 4) (n' := v19.length) rfl (by first | (simp only [setI_len]; done) | (simp only [setI_len]; omega) | omega)) ?_
  apply el [] (io0 hio _) <;> rfl
  skip
  intro e E' hX; obtain ⟨rfl, g23⟩ := XRet.out hX
  apply x4
  cases H
  apply x12
  exact g23
theorem m_spec_RotateXY (a0 : Int) (a1 : Int) (a2 : Int) (r : (Int × Int)) (H : spec_RotateXY a0 a1 a2 = some r) : Meets Try.prog 110 [.sc (.int .i64 a0), .sc (.int .i64 a1), .sc (.int .i64 a2)] (.tup [.sc (.int .i64 r.1), .sc (.int .i64 r.2)]) true := by
  refine Meets.intro2 (N := 25) (rs := #[.tmp 6, .tmp 7]) Try.func110 rfl rfl rfl rfl ?_
  intro Γ hio
  unfold spec_RotateXY at H
  (repeat apply sq)
  apply rg
  apply R_asg; rfl; rfl; rfl
  apply R_asg; rfl; rfl; rfl
  apply dn
  apply x3
  (repeat apply sq)
  apply rg
  apply R_mov; rfl; rfl; rfl
  apply R_mov; rfl; rfl; rfl
  apply R_mov; rfl; rfl; rfl
  apply Run.op; (apply L_buildF (vals := [(0, .int .i64 a2), (1, .int .i64 a0), (2, .int .i64 a1)]) (cs := [.int .i64 a2, .int .i64 a0, .int .i64 a1]); rfl; kernel_rfl; rfl; rfl; rfl); rfl; rfl
  obtain ⟨r1, hr1, H⟩ := bindS H
  apply Run.op; (apply L_call; ((apply ArgsV.cons; (apply ArgV.val; rfl; rfl)); (apply ArgsV.nil)); (exact m_spec_IsValidPose (Pose.mk a2 a0 a1) _ hr1); rfl; rfl; rfl); rfl; rfl
  apply R_not; rfl; rfl; rfl
  apply dn
  apply x3
  (repeat apply sq)
  refine CodeT.cond rfl (fun h => ?_) (fun h => ?_)
  replace H := ifFb (notT h) H
  (repeat apply sq)
  apply rg
  apply R_asg; rfl; rfl; rfl
  apply R_asg; rfl; rfl; rfl
  apply dn
  apply x3
  apply CodeT.ret
  apply x1
  cases H
  apply x12
  exact RetIs.many (.inl rfl) (ResL.cons (Res1.sc rfl) (ResL.cons (Res1.sc rfl) ResL.nil)) (fun h => by first | rfl | cases h)
  replace H := ifTb (notF h) H
  (repeat apply sq)
  apply CodeT.skip
  apply x3
  (repeat apply sq)
  apply rg
  apply R_asg; rfl; rfl; rfl
  apply dn
  apply x3
  (repeat apply sq)
  apply CodeT.block
  (repeat apply sq)
  obtain ⟨d6, hd6, H⟩ := bindS H
  refine CodeT.lloop (fun s => ⟨[(0, ⟨.sc (.int .i64 s.1), false⟩), (1, ⟨.sc (.int .i64 s.2.1), false⟩), (2, ⟨.sc (.int .i64 a2), false⟩), (8, ⟨.sc (.int .i64 s.2.2), false⟩)], []⟩) (fun d e E => XEnv Γ (.exit 0) ⟨[(0, ⟨.sc (.int .i64 d.1), false⟩), (1, ⟨.sc (.int .i64 d.2), false⟩)], []⟩ e E) hd6 ?_ ?_ ?_
  apply el [] (io0 hio _) <;> rfl
  clear H hd6
  rintro ⟨v2, v3, v4⟩ o H
  unfold spec_RotateXY_L1 at H
  (repeat apply sq)
  apply rg
  apply R_mov; rfl; rfl; rfl
  apply R_mov; rfl; rfl; rfl
  apply R_lss; rfl; rfl; rfl; rfl
  apply dn
  apply x3
  (repeat apply sq)
  refine CodeT.cond rfl (fun h => ?_) (fun h => ?_)
  replace H := ifT (of_decide_eq_true h) H
  (repeat apply sq)
  apply CodeT.skip
  apply x3
  (repeat apply sq)
  apply CodeT.block
  (repeat apply sq)
  apply rg
  apply R_mov; rfl; rfl; rfl
  apply Run.op; (apply L_neg; rfl; rfl; rfl); rfl; rfl
  apply R_mov; rfl; rfl; rfl
  apply R_asg; rfl; rfl; rfl
  apply R_asg; rfl; rfl; rfl
  apply dn
  apply x5
  apply x3
  apply rg
  apply R_mov; rfl; rfl; rfl
  apply R_add; rfl; rfl; rfl; rfl; rfl
  apply R_asg; rfl; rfl; rfl
  apply dn
  obtain rfl := Option.some.inj H
  refine Ev.y1 ?_
  apply el [] (io0 hio _) <;> rfl
  replace H := ifF (of_decide_eq_false h) H
  (repeat apply sq)
  apply CodeT.exit
  apply x2
  obtain rfl := Option.some.inj H
  refine Ev.y3 ?_
  refine XEnv.mk ?_
  apply el [] (io0 hio _) <;> rfl
  skip
  intro e E' hX; obtain ⟨rfl, g7⟩ := XEnv.out hX
  refine x6 rfl ?_
  apply x3
  refine CodeT.weak g7 ?_
  (repeat apply sq)
  apply rg
  apply R_mov; rfl; rfl; rfl
  apply R_mov; rfl; rfl; rfl
  apply R_asg; rfl; rfl; rfl
  apply R_asg; rfl; rfl; rfl
  apply dn
  apply x3
  apply CodeT.ret
  cases H
  apply x12
  exact RetIs.many (.inl rfl) (ResL.cons (Res1.sc rfl) (ResL.cons (Res1.sc rfl) ResL.nil)) (fun h => by first | rfl | cases h)
theorem m_spec_LinkOfFactor (a0 : (List Factor)) (a1 : Factor) (r : (Link × Bool)) (H : spec_LinkOfFactor a0 a1 = some r) : Meets Try.prog 60 [.sl a0.length (a0.flatMap encFactor), .agg (encFactor a1)] (.tup [.agg (encWLink r.1), .sc (.bool r.2)]) true := by
  refine Meets.intro2 (N := 93) (rs := #[.cell 4 83, .tmp 5]) Try.func60 rfl rfl rfl rfl ?_
  intro Γ hio
  unfold spec_LinkOfFactor at H
  (repeat apply sq)
  apply rg
  apply Run.op; (apply L_box false; rfl; rfl; rfl; (exact io1 hio _); rfl); rfl; rfl
  apply Run.op; (apply L_alloc false; (exact io1 hio _); rfl); rfl; rfl
  apply R_asg; rfl; rfl; rfl
  apply dn
  apply x3
  (repeat apply sq)
  apply rg
  apply R_mov; rfl; rfl; rfl
  apply R_fldP; rfl; rfl; rfl; rfl; rfl
  apply R_ldP; rfl; rfl; rfl; rfl; rfl; rfl
  obtain ⟨r1, hr1, H⟩ := bindS H
  apply Run.op; (apply L_call; ((apply ArgsV.cons; (apply ArgV.val; rfl; rfl)); (apply ArgsV.cons; (apply ArgV.val; rfl; rfl)); (apply ArgsV.nil)); (exact m_spec_NodeOf a0 a1.fTo _ hr1); rfl; rfl; rfl); rfl; rfl
  apply R_asg; rfl; rfl; rfl
  apply dn
  apply x3
  (repeat apply sq)
  obtain ⟨d5, hd5, H⟩ := bindS H
  refine CodeT.lcut (x := d5) (fun d e E => XEnv Γ .normal ⟨[(0, ⟨.sl a0.length (a0.flatMap encFactor), false⟩), (3, ⟨.ptr 3 0, false⟩), (4, ⟨.ptr 4 0, false⟩), (6, ⟨.sc (.int .i64 r1), false⟩), (26, ⟨.sc (.bool d), false⟩)], [(3, some ⟨(encFactor a1), true, false⟩), (4, some ⟨[.sc (.int .i64 0), .sc (.int .i64 0), .sc (.bool false), .sc (.slice none 0 0), .sc (.slice none 0 0), .sc (.bool false), .sc (.slice none 0 0), .sc (.slice none 0 0), .sc (.bool false), .sc (.slice none 0 0), .sc (.slice none 0 0)], true, false⟩)]⟩ e E) ?_ ?_
  clear H; have H := hd5; clear hd5
  apply rg
  apply R_mov; rfl; rfl; rfl
  obtain ⟨r2, hr2, H⟩ := bindS H
  apply R_bool; (apply L_call; ((apply ArgsV.cons; (apply ArgV.val; rfl; rfl)); (apply ArgsV.nil)); (exact m_spec_IsFactorList a0 _ hr2); rfl; rfl; rfl); rfl
  intro h; replace H := ifTb h H
  apply R_not; rfl; rfl; rfl
  apply R_mov; rfl; rfl; rfl
  apply R_ldPA; rfl; rfl; (first | exact seg_whole rfl | rfl); rfl; rfl; rfl; rfl; rfl
  obtain ⟨r3, hr3, H⟩ := bindS H
  apply R_bool; (apply L_call; ((apply ArgsV.cons; (apply ArgV.val; rfl; rfl)); (apply ArgsV.nil)); (exact m_spec_IsValidFactor a1 _ hr3); rfl; rfl; rfl); rfl
  intro h; replace H := ifTb h H
  apply R_not; rfl; rfl; rfl
  apply R_pickF; rfl; rfl; rfl; rfl
  apply R_mov; rfl; rfl; rfl
  apply R_mov; rfl; rfl; rfl
  apply R_eql; rfl; rfl; rfl; rfl
  apply R_pickF; rfl; rfl; rfl; rfl
  apply dn
  obtain rfl := Option.some.inj H
  refine Ev.y4 ?_
  refine XEnv.mk ?_
  apply el [] (io0 hio _) <;> rfl
  intro h; replace H := ifFb h H
  apply R_not; rfl; rfl; rfl
  apply R_pickF; rfl; rfl; rfl; rfl
  apply R_mov; rfl; rfl; rfl
  apply Run.skip; rfl
  apply Run.skip; rfl
  apply R_pickT; rfl; rfl; rfl; rfl
  apply dn
  obtain rfl := Option.some.inj H
  refine Ev.y4 ?_
  refine XEnv.mk ?_
  apply el [] (io0 hio _) <;> rfl
  intro h; replace H := ifFb h H
  apply R_not; rfl; rfl; rfl
  apply R_mov; rfl; rfl; rfl
  apply Run.skip; rfl
  apply Run.skip; rfl
  apply Run.skip; rfl
  apply R_pickT; rfl; rfl; rfl; rfl
  apply R_mov; rfl; rfl; rfl
  apply Run.skip; rfl
  apply Run.skip; rfl
  apply R_pickT; rfl; rfl; rfl; rfl
  apply dn
  obtain rfl := Option.some.inj H
  refine Ev.y4 ?_
  refine XEnv.mk ?_
  apply el [] (io0 hio _) <;> rfl
  intro e E' hX; obtain ⟨rfl, g6⟩ := XEnv.out hX
  apply x3
  refine CodeT.weak g6 ?_
  (repeat apply sq)
  refine CodeT.cond rfl (fun h => ?_) (fun h => ?_)
  replace H := ifTb h H
  (repeat apply sq)
  apply rg
  apply Run.op; (apply L_buildC true; (apply BuildV.nil); rfl; rfl); rfl; rfl
  apply Run.op; (apply L_st (cells' := [.sc (.int .i64 0), .sc (.int .i64 0), .sc (.bool false), .sc (.slice none 0 0), .sc (.slice none 0 0), .sc (.bool false), .sc (.slice none 0 0), .sc (.slice none 0 0), .sc (.bool false), .sc (.slice none 0 0), .sc (.slice none 0 0)]); rfl; rfl; rfl; rfl; rfl; (intro h; cases h); rfl; (first | exact splice_whole rfl | rfl)); rfl; rfl
  apply R_asg; rfl; rfl; rfl
  apply dn
  apply x3
  apply CodeT.ret
  apply x1
  cases H
  apply x12
  refine RetIs.weak (Ent.soften (l := 4) (cells' := encWLink (Link.mk 0 0 (Rat.mk (BigInt.mk false ([])) ([])) (Rat.mk (BigInt.mk false ([])) ([])) (Rat.mk (BigInt.mk false ([])) ([])))) rfl (SoftL.cons (Soft.refl _) (SoftL.cons (Soft.refl _) (SoftL.cons (Soft.refl _) (SoftL.cons Soft.nilW (SoftL.cons Soft.nilW (SoftL.cons (Soft.refl _) (SoftL.cons Soft.nilW (SoftL.cons Soft.nilW (SoftL.cons (Soft.refl _) (SoftL.cons Soft.nilW (SoftL.cons Soft.nilW SoftL.nil)))))))))))) ?_
  exact RetIs.many (.inl rfl) (ResL.cons (Res1.cell rfl rfl rfl (by intro h; cases h)) (ResL.cons (Res1.sc rfl) ResL.nil)) (fun h => by first | rfl | cases h)
  replace H := ifFb h H
  (repeat apply sq)
  apply CodeT.skip
  apply x3
  (repeat apply sq)
  apply rg
  apply R_fldP; rfl; rfl; rfl; rfl; rfl
  apply R_ldP; rfl; rfl; rfl; rfl; rfl; rfl
  apply R_eql; rfl; rfl; rfl; rfl
  apply dn
  apply x3
  (repeat apply sq)
  refine CodeT.cond rfl (fun h => ?_) (fun h => ?_)
  replace H := ifT (of_decide_eq_true h) H
  (repeat apply sq)
  apply rg
  apply R_mov; rfl; rfl; rfl
  apply R_fldP; rfl; rfl; rfl; rfl; rfl
  apply R_ldP; rfl; rfl; rfl; rfl; rfl; rfl
  apply R_fldP; rfl; rfl; rfl; rfl; rfl
  apply R_fldP; rfl; rfl; rfl; rfl; rfl
  apply R_ldP; rfl; rfl; rfl; rfl; rfl; rfl
  apply R_fldP; rfl; rfl; rfl; rfl; rfl
  apply R_fldP; rfl; rfl; rfl; rfl; rfl
  apply R_ldP; rfl; rfl; rfl; rfl; rfl; rfl
  obtain ⟨r7, hr7, H⟩ := bindS H
  apply Run.op; (apply L_call; ((apply ArgsV.cons; (apply ArgV.val; rfl; rfl)); (apply ArgsV.cons; (apply ArgV.val; rfl; rfl)); (apply ArgsV.cons; (apply ArgV.val; rfl; rfl)); (apply ArgsV.cons; (apply ArgV.val; rfl; rfl)); (apply ArgsV.cons; (apply ArgV.val; rfl; rfl)); (apply ArgsV.nil)); (exact m_spec_NewLink 0 r1 a1.fWeight a1.fPose.fX a1.fPose.fY _ hr7); rfl; rfl; rfl); rfl; rfl
  apply Run.op; (apply L_extT; rfl; rfl; rfl; rfl; rfl); rfl; rfl
  apply Run.op; (apply L_extR; rfl; rfl; rfl); rfl; rfl
  apply Run.op; (apply L_stT (cells' := (encWLink r7.1)); rfl; rfl; rfl; rfl; rfl; rfl; (intro h; cases h); rfl; (first | exact splice_whole rfl | rfl)); rfl; rfl
  apply R_asg; rfl; rfl; rfl
  apply dn
  apply x3
  apply CodeT.ret
  apply x1
  cases H
  apply x12
  exact RetIs.many (.inl rfl) (ResL.cons (Res1.cell rfl rfl rfl (by intro h; cases h)) (ResL.cons (Res1.sc rfl) ResL.nil)) (fun h => by first | rfl | cases h)
  replace H := ifF (of_decide_eq_false h) H
  (repeat apply sq)
  apply CodeT.skip
  apply x3
  (repeat apply sq)
  apply rg
  apply R_mov; rfl; rfl; rfl
  apply R_fldP; rfl; rfl; rfl; rfl; rfl
  apply R_ldP; rfl; rfl; rfl; rfl; rfl; rfl
  obtain ⟨r8, hr8, H⟩ := bindS H
  apply Run.op; (apply L_call; ((apply ArgsV.cons; (apply ArgV.val; rfl; rfl)); (apply ArgsV.cons; (apply ArgV.val; rfl; rfl)); (apply ArgsV.nil)); (exact m_spec_NodeOf a0 a1.fFrom _ hr8); rfl; rfl; rfl); rfl; rfl
  apply R_asg; rfl; rfl; rfl
  apply dn
  apply x3
  (repeat apply sq)
  apply rg
  apply R_mov; rfl; rfl; rfl
  apply R_eql; rfl; rfl; rfl; rfl
  apply dn
  apply x3
  (repeat apply sq)
  refine CodeT.cond rfl (fun h => ?_) (fun h => ?_)
  replace H := ifT (of_decide_eq_true h) H
  (repeat apply sq)
  apply rg
  apply Run.op; (apply L_buildC true; (apply BuildV.nil); rfl; rfl); rfl; rfl
  apply Run.op; (apply L_st (cells' := [.sc (.int .i64 0), .sc (.int .i64 0), .sc (.bool false), .sc (.slice none 0 0), .sc (.slice none 0 0), .sc (.bool false), .sc (.slice none 0 0), .sc (.slice none 0 0), .sc (.bool false), .sc (.slice none 0 0), .sc (.slice none 0 0)]); rfl; rfl; rfl; rfl; rfl; (intro h; cases h); rfl; (first | exact splice_whole rfl | rfl)); rfl; rfl
  apply R_asg; rfl; rfl; rfl
  apply dn
  apply x3
  apply CodeT.ret
  apply x1
  cases H
  apply x12
  refine RetIs.weak (Ent.soften (l := 4) (cells' := encWLink (Link.mk 0 0 (Rat.mk (BigInt.mk false ([])) ([])) (Rat.mk (BigInt.mk false ([])) ([])) (Rat.mk (BigInt.mk false ([])) ([])))) rfl (SoftL.cons (Soft.refl _) (SoftL.cons (Soft.refl _) (SoftL.cons (Soft.refl _) (SoftL.cons Soft.nilW (SoftL.cons Soft.nilW (SoftL.cons (Soft.refl _) (SoftL.cons Soft.nilW (SoftL.cons Soft.nilW (SoftL.cons (Soft.refl _) (SoftL.cons Soft.nilW (SoftL.cons Soft.nilW SoftL.nil)))))))))))) ?_
  exact RetIs.many (.inl rfl) (ResL.cons (Res1.cell rfl rfl rfl (by intro h; cases h)) (ResL.cons (Res1.sc rfl) ResL.nil)) (fun h => by first | rfl | cases h)
  replace H := ifF (of_decide_eq_false h) H
  (repeat apply sq)
  apply CodeT.skip
  apply x3
  (repeat apply sq)
  apply rg
  apply R_mov; rfl; rfl; rfl
  obtain ⟨r9, hr9, H⟩ := bindS H
  apply Run.op; (apply L_callW; ((apply ArgsV.cons; (apply ArgV.val; rfl; rfl)); (apply ArgsV.nil)); (exact m_spec_HeadingsOf a0 _ hr9); (exact io1 hio _); rfl); rfl; rfl
  apply R_mov; rfl; rfl; rfl
  apply R_sub; rfl; rfl; rfl; rfl; rfl
  obtain ⟨y10, hy10, H⟩ := bindS H
  apply Run.op; (apply L_ixR2; rfl; rfl; rfl; (exact hy10); rfl; rfl); rfl; rfl
  apply R_ldP; rfl; rfl; (exact row_ld0 hy10 rfl (fun _ => rfl)); rfl; rfl; rfl
  apply R_asg; rfl; rfl; rfl
  apply dn
  apply x3
  (repeat apply sq)
  obtain ⟨d12, hd12, H⟩ := bindS H
  refine CodeT.lcut (x := d12) (fun d e E => XEnv Γ .normal ⟨[(3, ⟨.ptr 3 0, false⟩), (4, ⟨.ptr 4 0, false⟩), (6, ⟨.sc (.int .i64 r1), false⟩), (7, ⟨.sc (.int .i64 r8), false⟩), (8, ⟨.sc (.int .i64 y10), false⟩), (69, ⟨.sc (.bool d), false⟩)], [(3, some ⟨(encFactor a1), true, false⟩), (4, some ⟨[.sc (.int .i64 0), .sc (.int .i64 0), .sc (.bool false), .sc (.slice none 0 0), .sc (.slice none 0 0), .sc (.bool false), .sc (.slice none 0 0), .sc (.slice none 0 0), .sc (.bool false), .sc (.slice none 0 0), .sc (.slice none 0 0)], true, false⟩)]⟩ e E) ?_ ?_
  clear H; have H := hd12; clear hd12
  apply rg
  apply R_mov; rfl; rfl; rfl
  apply R_dec; (apply L_lss; rfl; rfl; rfl); rfl
  intro h; replace H := ifT h H
  apply R_mov; rfl; rfl; rfl
  apply R_fldP; rfl; rfl; rfl; rfl; rfl
  apply R_fldP; rfl; rfl; rfl; rfl; rfl
  apply R_ldP; rfl; rfl; rfl; rfl; rfl; rfl
  apply R_dec; (apply L_neq; rfl; rfl; rfl); rfl
  intro h; replace H := ifT h H
  apply R_mov; rfl; rfl; rfl
  apply Run.skip; rfl
  apply Run.skip; rfl
  apply Run.skip; rfl
  apply Run.skip; rfl
  apply R_pickT; rfl; rfl; rfl; rfl
  apply R_pickT; rfl; rfl; rfl; rfl
  apply dn
  obtain rfl := Option.some.inj H
  refine Ev.y4 ?_
  refine XEnv.mk ?_
  apply el [] (io0 hio _) <;> rfl
  intro h; replace H := ifF h H
  apply R_mov; rfl; rfl; rfl
  apply R_fldP; rfl; rfl; rfl; rfl; rfl
  apply R_fldP; rfl; rfl; rfl; rfl; rfl
  apply R_ldP; rfl; rfl; rfl; rfl; rfl; rfl
  apply R_neq; rfl; rfl; rfl; rfl
  apply R_pickF; rfl; rfl; rfl; rfl
  apply R_pickT; rfl; rfl; rfl; rfl
  apply dn
  obtain rfl := Option.some.inj H
  refine Ev.y4 ?_
  refine XEnv.mk ?_
  apply el [] (io0 hio _) <;> rfl
  intro h; replace H := ifF h H
  apply R_mov; rfl; rfl; rfl
  apply Run.skip; rfl
  apply Run.skip; rfl
  apply Run.skip; rfl
  apply Run.skip; rfl
  apply Run.skip; rfl
  apply Run.skip; rfl
  apply Run.skip; rfl
  apply Run.skip; rfl
  apply Run.skip; rfl
  apply Run.skip; rfl
  apply R_pickF; rfl; rfl; rfl; rfl
  apply dn
  obtain rfl := Option.some.inj H
  refine Ev.y4 ?_
  refine XEnv.mk ?_
  apply el [] (io0 hio _) <;> rfl
  intro e E' hX; obtain ⟨rfl, g13⟩ := XEnv.out hX
  apply x3
  refine CodeT.weak g13 ?_
  (repeat apply sq)
  refine CodeT.cond rfl (fun h => ?_) (fun h => ?_)
  replace H := ifTb h H
  (repeat apply sq)
  apply rg
  apply Run.op; (apply L_buildC true; (apply BuildV.nil); rfl; rfl); rfl; rfl
  apply Run.op; (apply L_st (cells' := [.sc (.int .i64 0), .sc (.int .i64 0), .sc (.bool false), .sc (.slice none 0 0), .sc (.slice none 0 0), .sc (.bool false), .sc (.slice none 0 0), .sc (.slice none 0 0), .sc (.bool false), .sc (.slice none 0 0), .sc (.slice none 0 0)]); rfl; rfl; rfl; rfl; rfl; (intro h; cases h); rfl; (first | exact splice_whole rfl | rfl)); rfl; rfl
  apply R_asg; rfl; rfl; rfl
  apply dn
  apply x3
  apply CodeT.ret
  apply x1
  cases H
  apply x12
  refine RetIs.weak (Ent.soften (l := 4) (cells' := encWLink (Link.mk 0 0 (Rat.mk (BigInt.mk false ([])) ([])) (Rat.mk (BigInt.mk false ([])) ([])) (Rat.mk (BigInt.mk false ([])) ([])))) rfl (SoftL.cons (Soft.refl _) (SoftL.cons (Soft.refl _) (SoftL.cons (Soft.refl _) (SoftL.cons Soft.nilW (SoftL.cons Soft.nilW (SoftL.cons (Soft.refl _) (SoftL.cons Soft.nilW (SoftL.cons Soft.nilW (SoftL.cons (Soft.refl _) (SoftL.cons Soft.nilW (SoftL.cons Soft.nilW SoftL.nil)))))))))))) ?_
  exact RetIs.many (.inl rfl) (ResL.cons (Res1.cell rfl rfl rfl (by intro h; cases h)) (ResL.cons (Res1.sc rfl) ResL.nil)) (fun h => by first | rfl | cases h)
  replace H := ifFb h H
  (repeat apply sq)
  apply CodeT.skip
  apply x3
  (repeat apply sq)
  apply rg
  apply R_mov; rfl; rfl; rfl
  apply R_lss; rfl; rfl; rfl; rfl
  apply dn
  apply x3
  (repeat apply sq)
  obtain ⟨d15, hd15, H⟩ := bindS H
  refine CodeT.lcut (x := d15) (fun d e E => XEnv Γ .normal ⟨[(3, ⟨.ptr 3 0, false⟩), (4, ⟨.ptr 4 0, false⟩), (6, ⟨.sc (.int .i64 r1), false⟩), (7, ⟨.sc (.int .i64 r8), false⟩), (8, ⟨.sc (.int .i64 d), false⟩)], [(3, some ⟨(encFactor a1), true, false⟩), (4, some ⟨[.sc (.int .i64 0), .sc (.int .i64 0), .sc (.bool false), .sc (.slice none 0 0), .sc (.slice none 0 0), .sc (.bool false), .sc (.slice none 0 0), .sc (.slice none 0 0), .sc (.bool false), .sc (.slice none 0 0), .sc (.slice none 0 0)], true, false⟩)]⟩ e E) ?_ ?_
  clear H; have H := hd15; clear hd15
  refine CodeT.cond rfl (fun h => ?_) (fun h => ?_)
  replace H := ifT (of_decide_eq_true h) H
  (repeat apply sq)
  apply rg
  apply R_asg; rfl; rfl; rfl
  apply dn
  obtain rfl := Option.some.inj H
  refine Ev.y4 ?_
  refine XEnv.mk ?_
  apply el [] (io0 hio _) <;> rfl
  replace H := ifF (of_decide_eq_false h) H
  (repeat apply sq)
  apply CodeT.skip
  obtain rfl := Option.some.inj H
  refine Ev.y4 ?_
  refine XEnv.mk ?_
  apply el [] (io0 hio _) <;> rfl
  intro e E' hX; obtain ⟨rfl, g16⟩ := XEnv.out hX
  apply x3
  refine CodeT.weak g16 ?_
  (repeat apply sq)
  apply rg
  apply R_fldP; rfl; rfl; rfl; rfl; rfl
  apply R_fldP; rfl; rfl; rfl; rfl; rfl
  apply R_ldP; rfl; rfl; rfl; rfl; rfl; rfl
  apply R_fldP; rfl; rfl; rfl; rfl; rfl
  apply R_fldP; rfl; rfl; rfl; rfl; rfl
  apply R_ldP; rfl; rfl; rfl; rfl; rfl; rfl
  apply R_mov; rfl; rfl; rfl
  obtain ⟨r17, hr17, H⟩ := bindS H
  apply Run.op; (apply L_call; ((apply ArgsV.cons; (apply ArgV.val; rfl; rfl)); (apply ArgsV.cons; (apply ArgV.val; rfl; rfl)); (apply ArgsV.cons; (apply ArgV.val; rfl; rfl)); (apply ArgsV.nil)); (exact m_spec_RotateXY a1.fPose.fX a1.fPose.fY d15 _ hr17); rfl; rfl; rfl); rfl; rfl
  apply R_mov; rfl; rfl; rfl
  apply Run.op; (apply L_extR; rfl; rfl; rfl); rfl; rfl
  apply Run.op; (apply L_extR; rfl; rfl; rfl); rfl; rfl
  apply R_asg; rfl; rfl; rfl
  apply R_asg; rfl; rfl; rfl
  apply dn
  apply x3
  (repeat apply sq)
  apply rg
  apply R_mov; rfl; rfl; rfl
  apply R_mov; rfl; rfl; rfl
  apply R_fldP; rfl; rfl; rfl; rfl; rfl
  apply R_ldP; rfl; rfl; rfl; rfl; rfl; rfl
  apply R_mov; rfl; rfl; rfl
  apply R_mov; rfl; rfl; rfl
  obtain ⟨r18, hr18, H⟩ := bindS H
  apply Run.op; (apply L_call; ((apply ArgsV.cons; (apply ArgV.val; rfl; rfl)); (apply ArgsV.cons; (apply ArgV.val; rfl; rfl)); (apply ArgsV.cons; (apply ArgV.val; rfl; rfl)); (apply ArgsV.cons; (apply ArgV.val; rfl; rfl)); (apply ArgsV.cons; (apply ArgV.val; rfl; rfl)); (apply ArgsV.nil)); (exact m_spec_NewLink r8 r1 a1.fWeight r17.1 r17.2 _ hr18); rfl; rfl; rfl); rfl; rfl
  apply Run.op; (apply L_extT; rfl; rfl; rfl; rfl; rfl); rfl; rfl
  apply Run.op; (apply L_extR; rfl; rfl; rfl); rfl; rfl
  apply Run.op; (apply L_stT (cells' := (encWLink r18.1)); rfl; rfl; rfl; rfl; rfl; rfl; (intro h; cases h); rfl; (first | exact splice_whole rfl | rfl)); rfl; rfl
  apply R_asg; rfl; rfl; rfl
  apply dn
  apply x3
  apply CodeT.ret
  cases H
  apply x12
  exact RetIs.many (.inl rfl) (ResL.cons (Res1.cell rfl rfl rfl (by intro h; cases h)) (ResL.cons (Res1.sc rfl) ResL.nil)) (fun h => by first | rfl | cases h)
theorem m_impl_inRange (a0 : Int) (r : Bool) (H : impl_inRange a0 = some r) : Meets Try.prog 154 [.sc (.int .i64 a0)] (.sc (.bool r)) true := by
  refine Meets.intro2 (N := 9) (rs := #[.tmp 2]) Try.func154 rfl rfl rfl rfl ?_
  intro Γ hio
  unfold impl_inRange at H
  (repeat apply sq)
  apply rg
  apply R_asg; rfl; rfl; rfl
  apply dn
  apply x3
  (repeat apply sq)
  apply rg
  apply R_mov; rfl; rfl; rfl
  apply R_dec; (apply L_geq; rfl; rfl; rfl); rfl
  intro h; replace H := ifT h H
  apply R_mov; rfl; rfl; rfl
  apply R_mov; rfl; rfl; rfl
  apply R_leq; rfl; rfl; rfl; rfl
  apply R_pickT; rfl; rfl; rfl; rfl
  apply R_asg; rfl; rfl; rfl
  apply dn
  apply x3
  apply CodeT.ret
  cases H
  apply x12
  exact RetIs.sc1 rfl
  intro h; replace H := ifF h H
  apply R_mov; rfl; rfl; rfl
  apply Run.skip; rfl
  apply Run.skip; rfl
  apply R_pickF; rfl; rfl; rfl; rfl
  apply R_asg; rfl; rfl; rfl
  apply dn
  apply x3
  apply CodeT.ret
  cases H
  apply x12
  exact RetIs.sc1 rfl
theorem m_impl_IsValidPose (a0 : Pose) (r : Bool) (H : impl_IsValidPose a0 = some r) : Meets Try.prog 150 [.agg (encPose a0)] (.sc (.bool r)) true := by
  refine Meets.intro2 (N := 21) (rs := #[.tmp 2]) Try.func150 rfl rfl rfl rfl ?_
  intro Γ hio
  unfold impl_IsValidPose at H
  (repeat apply sq)
  apply rg
  apply Run.op; (apply L_box false; rfl; rfl; rfl; (exact io1 hio _); rfl); rfl; rfl
  apply R_asg; rfl; rfl; rfl
  apply dn
  apply x3
  (repeat apply sq)
  apply rg
  apply R_fldP; rfl; rfl; rfl; rfl; rfl
  apply R_ldP; rfl; rfl; rfl; rfl; rfl; rfl
  apply R_dec; (apply L_geq; rfl; rfl; rfl); rfl
  intro h; replace H := ifT h H
  apply R_mov; rfl; rfl; rfl
  apply R_fldP; rfl; rfl; rfl; rfl; rfl
  apply R_ldP; rfl; rfl; rfl; rfl; rfl; rfl
  apply R_dec; (apply L_leq; rfl; rfl; rfl); rfl
  intro h; replace H := ifT h H
  apply R_pickT; rfl; rfl; rfl; rfl
  apply R_mov; rfl; rfl; rfl
  apply R_fldP; rfl; rfl; rfl; rfl; rfl
  apply R_ldP; rfl; rfl; rfl; rfl; rfl; rfl
  obtain ⟨r1, hr1, H⟩ := bindS H
  apply R_bool; (apply L_call; ((apply ArgsV.cons; (apply ArgV.val; rfl; rfl)); (apply ArgsV.nil)); (exact m_impl_inRange a0.fX _ hr1); rfl; rfl; rfl); rfl
  intro h; replace H := ifTb h H
  apply R_pickT; rfl; rfl; rfl; rfl
  apply R_mov; rfl; rfl; rfl
  apply R_fldP; rfl; rfl; rfl; rfl; rfl
  apply R_ldP; rfl; rfl; rfl; rfl; rfl; rfl
  obtain ⟨r2, hr2, H⟩ := bindS H
  apply Run.op; (apply L_call; ((apply ArgsV.cons; (apply ArgV.val; rfl; rfl)); (apply ArgsV.nil)); (exact m_impl_inRange a0.fY _ hr2); rfl; rfl; rfl); rfl; rfl
  apply R_pickT; rfl; rfl; rfl; rfl
  apply R_asg; rfl; rfl; rfl
  apply dn
  apply x3
  apply CodeT.ret
  cases H
  apply x12
  exact RetIs.sc1 rfl
  intro h; replace H := ifFb h H
  apply R_pickT; rfl; rfl; rfl; rfl
  apply R_mov; rfl; rfl; rfl
  apply Run.skip; rfl
  apply Run.skip; rfl
  apply Run.skip; rfl
  apply R_pickF; rfl; rfl; rfl; rfl
  apply R_asg; rfl; rfl; rfl
  apply dn
  apply x3
  apply CodeT.ret
  cases H
  apply x12
  exact RetIs.sc1 rfl
  intro h; replace H := ifF h H
  apply R_pickT; rfl; rfl; rfl; rfl
  apply R_mov; rfl; rfl; rfl
  apply Run.skip; rfl
  apply Run.skip; rfl
  apply Run.skip; rfl
  apply R_pickF; rfl; rfl; rfl; rfl
  apply R_mov; rfl; rfl; rfl
  apply Run.skip; rfl
  apply Run.skip; rfl
  apply Run.skip; rfl
  apply R_pickF; rfl; rfl; rfl; rfl
  apply R_asg; rfl; rfl; rfl
  apply dn
  apply x3
  apply CodeT.ret
  cases H
  apply x12
  exact RetIs.sc1 rfl
  intro h; replace H := ifF h H
  apply R_mov; rfl; rfl; rfl
  apply Run.skip; rfl
  apply Run.skip; rfl
  apply Run.skip; rfl
  apply R_pickF; rfl; rfl; rfl; rfl
  apply R_mov; rfl; rfl; rfl
  apply Run.skip; rfl
  apply Run.skip; rfl
  apply Run.skip; rfl
  apply R_pickF; rfl; rfl; rfl; rfl
  apply R_mov; rfl; rfl; rfl
  apply Run.skip; rfl
  apply Run.skip; rfl
  apply Run.skip; rfl
  apply R_pickF; rfl; rfl; rfl; rfl
  apply R_asg; rfl; rfl; rfl
  apply dn
  apply x3
  apply CodeT.ret
  cases H
  apply x12
  exact RetIs.sc1 rfl
theorem m_impl_IsName (a0 : ByteArray) (r : Bool) (H : impl_IsName a0 = some r) : Meets Try.prog 173 [.sc (.string a0)] (.sc (.bool r)) true := by
  refine Meets.intro2 (N := 50) (rs := #[.tmp 2]) Try.func173 rfl rfl rfl rfl ?_
  intro Γ hio
  unfold impl_IsName at H
  (repeat apply sq)
  apply rg
  apply R_asg; rfl; rfl; rfl
  apply dn
  apply x3
  (repeat apply sq)
  obtain ⟨d2, hd2, H⟩ := bindS H
  refine CodeT.lcut (x := d2) (fun d e E => XEnv Γ .normal ⟨[(0, ⟨.sc (.string a0), false⟩), (13, ⟨.sc (.bool d), false⟩)], []⟩ e E) ?_ ?_
  clear H; have H := hd2; clear hd2
  apply rg
  apply R_mov; rfl; rfl; rfl
  apply Run.op; (apply L_lenS; rfl; rfl); rfl; rfl
  apply R_dec; (apply L_lss; rfl; rfl; rfl); rfl
  intro h; replace H := ifT h H
  apply R_mov; rfl; rfl; rfl
  apply Run.skip; rfl
  apply Run.skip; rfl
  apply Run.skip; rfl
  apply R_pickT; rfl; rfl; rfl; rfl
  apply dn
  obtain rfl := Option.some.inj H
  refine Ev.y4 ?_
  refine XEnv.mk ?_
  apply el [] (io0 hio _) <;> rfl
  intro h; replace H := ifF h H
  apply R_mov; rfl; rfl; rfl
  apply R_mov; rfl; rfl; rfl
  apply Run.op; (apply L_lenS; rfl; rfl); rfl; rfl
  apply R_gtr; rfl; rfl; rfl; rfl
  apply R_pickF; rfl; rfl; rfl; rfl
  apply dn
  obtain rfl := Option.some.inj H
  refine Ev.y4 ?_
  refine XEnv.mk ?_
  apply el [] (io0 hio _) <;> rfl
  intro e E' hX; obtain ⟨rfl, g3⟩ := XEnv.out hX
  apply x3
  refine CodeT.weak g3 ?_
  (repeat apply sq)
  refine CodeT.cond rfl (fun h => ?_) (fun h => ?_)
  replace H := ifTb h H
  (repeat apply sq)
  apply rg
  apply R_asg; rfl; rfl; rfl
  apply dn
  apply x3
  apply CodeT.ret
  apply x1
  cases H
  apply x12
  exact RetIs.sc1 rfl
  replace H := ifFb h H
  (repeat apply sq)
  apply CodeT.skip
  apply x3
  (repeat apply sq)
  apply rg
  apply R_asg; rfl; rfl; rfl
  apply dn
  apply x3
  (repeat apply sq)
  apply CodeT.block
  (repeat apply sq)
  obtain ⟨d31, hd31, H⟩ := bindS H
  refine CodeT.lloop (fun s => ⟨[(0, ⟨.sc (.string a0), false⟩), (3, ⟨.sc (.int .i64 s), false⟩)], []⟩) (fun x e E => match x with | (.inl d) => XEnv Γ (.exit 0) ⟨[], []⟩ e E | (.inr d) => XRet Γ #[.tmp 2] (.sc (.bool d)) true e E) hd31 ?_ ?_ ?_
  apply el [] (io0 hio _) <;> rfl
  clear H hd31
  rintro v17 o H
  unfold impl_IsName_L1 at H
  (repeat apply sq)
  apply rg
  apply R_mov; rfl; rfl; rfl
  apply R_mov; rfl; rfl; rfl
  apply Run.op; (apply L_lenS; rfl; rfl); rfl; rfl
  apply R_lss; rfl; rfl; rfl; rfl
  apply dn
  apply x3
  (repeat apply sq)
  refine CodeT.cond rfl (fun h => ?_) (fun h => ?_)
  replace H := ifT (of_decide_eq_true h) H
  (repeat apply sq)
  apply CodeT.skip
  apply x3
  (repeat apply sq)
  apply CodeT.block
  (repeat apply sq)
  obtain ⟨d21, hd21, H⟩ := bindS H
  refine CodeT.lcut (x := d21) (fun d e E => XEnv Γ .normal ⟨[(0, ⟨.sc (.string a0), false⟩), (3, ⟨.sc (.int .i64 v17), false⟩), (4, ⟨.sc (.bool d), false⟩)], []⟩ e E) ?_ ?_
  clear H; have H := hd21; clear hd21
  apply rg
  apply R_mov; rfl; rfl; rfl
  apply R_mov; rfl; rfl; rfl
  obtain ⟨b18, hb18, H⟩ := bindS H
  apply Run.op; (apply L_indexS2; rfl; rfl; (exact hb18); rfl); rfl; rfl
  apply R_dec; (apply L_geq; rfl; rfl; rfl); rfl
  intro h; replace H := ifT h H
  apply R_mov; rfl; rfl; rfl
  apply R_mov; rfl; rfl; rfl
  apply R_mov; rfl; rfl; rfl
  obtain ⟨b19, hb19, H⟩ := bindS H
  apply Run.op; (apply L_indexS2; rfl; rfl; (exact hb19); rfl); rfl; rfl
  apply R_leq; rfl; rfl; rfl; rfl
  apply R_pickT; rfl; rfl; rfl; rfl
  apply R_asg; rfl; rfl; rfl
  apply dn
  obtain rfl := Option.some.inj H
  refine Ev.y4 ?_
  refine XEnv.mk ?_
  apply el [] (io0 hio _) <;> rfl
  intro h; replace H := ifF h H
  apply R_mov; rfl; rfl; rfl
  apply Run.skip; rfl
  apply Run.skip; rfl
  apply Run.skip; rfl
  apply Run.skip; rfl
  apply R_pickF; rfl; rfl; rfl; rfl
  apply R_asg; rfl; rfl; rfl
  apply dn
  obtain rfl := Option.some.inj H
  refine Ev.y4 ?_
  refine XEnv.mk ?_
  apply el [] (io0 hio _) <;> rfl
  intro e E' hX; obtain ⟨rfl, g22⟩ := XEnv.out hX
  apply x3
  refine CodeT.weak g22 ?_
  (repeat apply sq)
  obtain ⟨d26, hd26, H⟩ := bindS H
  refine CodeT.lcut (x := d26) (fun d e E => XEnv Γ .normal ⟨[(0, ⟨.sc (.string a0), false⟩), (3, ⟨.sc (.int .i64 v17), false⟩), (4, ⟨.sc (.bool d21), false⟩), (5, ⟨.sc (.bool d), false⟩)], []⟩ e E) ?_ ?_
  clear H; have H := hd26; clear hd26
  apply rg
  apply R_mov; rfl; rfl; rfl
  apply R_mov; rfl; rfl; rfl
  obtain ⟨b23, hb23, H⟩ := bindS H
  apply Run.op; (apply L_indexS2; rfl; rfl; (exact hb23); rfl); rfl; rfl
  apply R_dec; (apply L_geq; rfl; rfl; rfl); rfl
  intro h; replace H := ifT h H
  apply R_mov; rfl; rfl; rfl
  apply R_mov; rfl; rfl; rfl
  apply R_mov; rfl; rfl; rfl
  obtain ⟨b24, hb24, H⟩ := bindS H
  apply Run.op; (apply L_indexS2; rfl; rfl; (exact hb24); rfl); rfl; rfl
  apply R_leq; rfl; rfl; rfl; rfl
  apply R_pickT; rfl; rfl; rfl; rfl
  apply R_asg; rfl; rfl; rfl
  apply dn
  obtain rfl := Option.some.inj H
  refine Ev.y4 ?_
  refine XEnv.mk ?_
  apply el [] (io0 hio _) <;> rfl
  intro h; replace H := ifF h H
  apply R_mov; rfl; rfl; rfl
  apply Run.skip; rfl
  apply Run.skip; rfl
  apply Run.skip; rfl
  apply Run.skip; rfl
  apply R_pickF; rfl; rfl; rfl; rfl
  apply R_asg; rfl; rfl; rfl
  apply dn
  obtain rfl := Option.some.inj H
  refine Ev.y4 ?_
  refine XEnv.mk ?_
  apply el [] (io0 hio _) <;> rfl
  intro e E' hX; obtain ⟨rfl, g27⟩ := XEnv.out hX
  apply x3
  refine CodeT.weak g27 ?_
  (repeat apply sq)
  obtain ⟨d29, hd29, H⟩ := bindS H
  refine CodeT.lcut (x := d29) (fun d e E => XEnv Γ .normal ⟨[(0, ⟨.sc (.string a0), false⟩), (3, ⟨.sc (.int .i64 v17), false⟩), (49, ⟨.sc (.bool d), false⟩)], []⟩ e E) ?_ ?_
  clear H; have H := hd29; clear hd29
  apply rg
  apply R_bool; (apply L_mov; rfl; rfl); rfl
  intro h; replace H := ifTb h H
  apply R_not; rfl; rfl; rfl
  apply R_mov; rfl; rfl; rfl
  apply Run.skip; rfl
  apply Run.skip; rfl
  apply Run.skip; rfl
  apply Run.skip; rfl
  apply Run.skip; rfl
  apply Run.skip; rfl
  apply R_pickF; rfl; rfl; rfl; rfl
  apply dn
  obtain rfl := Option.some.inj H
  refine Ev.y4 ?_
  refine XEnv.mk ?_
  apply el [] (io0 hio _) <;> rfl
  intro h; replace H := ifFb h H
  apply R_not; rfl; rfl; rfl
  apply R_mov; rfl; rfl; rfl
  apply R_mov; rfl; rfl; rfl
  apply R_dec; (apply L_eql; rfl; rfl; rfl); rfl
  intro h; replace H := ifT h H
  apply R_mov; rfl; rfl; rfl
  apply Run.skip; rfl
  apply Run.skip; rfl
  apply R_pickT; rfl; rfl; rfl; rfl
  apply R_pickT; rfl; rfl; rfl; rfl
  apply dn
  obtain rfl := Option.some.inj H
  refine Ev.y4 ?_
  refine XEnv.mk ?_
  apply el [] (io0 hio _) <;> rfl
  intro h; replace H := ifF h H
  apply R_mov; rfl; rfl; rfl
  apply R_mov; rfl; rfl; rfl
  apply R_not; rfl; rfl; rfl
  apply R_pickF; rfl; rfl; rfl; rfl
  apply R_pickT; rfl; rfl; rfl; rfl
  apply dn
  obtain rfl := Option.some.inj H
  refine Ev.y4 ?_
  refine XEnv.mk ?_
  apply el [] (io0 hio _) <;> rfl
  intro e E' hX; obtain ⟨rfl, g30⟩ := XEnv.out hX
  apply x3
  refine CodeT.weak g30 ?_
  refine CodeT.cond rfl (fun h => ?_) (fun h => ?_)
  replace H := ifTb h H
  (repeat apply sq)
  apply rg
  apply R_asg; rfl; rfl; rfl
  apply dn
  apply x3
  apply CodeT.ret
  apply x4
  apply x1
  obtain rfl := Option.some.inj H
  refine Ev.y2 ?_
  refine XRet.mk ?_
  exact RetIs.sc1 rfl
  replace H := ifFb h H
  (repeat apply sq)
  apply CodeT.skip
  apply x5
  apply x3
  apply rg
  apply R_mov; rfl; rfl; rfl
  apply R_add; rfl; rfl; rfl; rfl; rfl
  apply R_asg; rfl; rfl; rfl
  apply dn
  obtain rfl := Option.some.inj H
  refine Ev.y1 ?_
  apply el [] (io0 hio _) <;> rfl
  replace H := ifF (of_decide_eq_false h) H
  (repeat apply sq)
  apply CodeT.exit
  apply x2
  obtain rfl := Option.some.inj H
  refine Ev.y3 ?_
  refine XEnv.mk ?_
  apply el [] (io0 hio _) <;> rfl
  rcases d31 with (d32 | d34)
  intro e E' hX; obtain ⟨rfl, g33⟩ := XEnv.out hX
  refine x6 rfl ?_
  apply x3
  refine CodeT.weak g33 ?_
  (repeat apply sq)
  apply rg
  apply R_asg; rfl; rfl; rfl
  apply dn
  apply x3
  apply CodeT.ret
  cases H
  apply x12
  exact RetIs.sc1 rfl
  intro e E' hX; obtain ⟨rfl, g35⟩ := XRet.out hX
  apply x4
  apply x1
  cases H
  apply x12
  exact g35
theorem m_impl_IsPoseName (a0 : ByteArray) (r : Bool) (H : impl_IsPoseName a0 = some r) : Meets Try.prog 151 [.sc (.string a0)] (.sc (.bool r)) true := by
  refine Meets.intro2 (N := 10) (rs := #[.tmp 2]) Try.func151 rfl rfl rfl rfl ?_
  intro Γ hio
  unfold impl_IsPoseName at H
  (repeat apply sq)
  apply rg
  apply R_asg; rfl; rfl; rfl
  apply dn
  apply x3
  (repeat apply sq)
  apply rg
  apply R_mov; rfl; rfl; rfl
  obtain ⟨r1, hr1, H⟩ := bindS H
  apply R_bool; (apply L_call; ((apply ArgsV.cons; (apply ArgV.val; rfl; rfl)); (apply ArgsV.nil)); (exact m_impl_IsName a0 _ hr1); rfl; rfl; rfl); rfl
  intro h; replace H := ifTb h H
  apply R_mov; rfl; rfl; rfl
  apply R_mov; rfl; rfl; rfl
  obtain ⟨b2, hb2, H⟩ := bindS H
  apply Run.op; (apply L_indexS2; rfl; rfl; (exact hb2); rfl); rfl; rfl
  apply R_eql; rfl; rfl; rfl; rfl
  apply R_pickT; rfl; rfl; rfl; rfl
  apply R_asg; rfl; rfl; rfl
  apply dn
  apply x3
  apply CodeT.ret
  cases H
  apply x12
  exact RetIs.sc1 rfl
  intro h; replace H := ifFb h H
  apply R_mov; rfl; rfl; rfl
  apply Run.skip; rfl
  apply Run.skip; rfl
  apply Run.skip; rfl
  apply R_pickF; rfl; rfl; rfl; rfl
  apply R_asg; rfl; rfl; rfl
  apply dn
  apply x3
  apply CodeT.ret
  cases H
  apply x12
  exact RetIs.sc1 rfl
theorem m_impl_IsLandmarkName (a0 : ByteArray) (r : Bool) (H : impl_IsLandmarkName a0 = some r) : Meets Try.prog 152 [.sc (.string a0)] (.sc (.bool r)) true := by
  refine Meets.intro2 (N := 10) (rs := #[.tmp 2]) Try.func152 rfl rfl rfl rfl ?_
  intro Γ hio
  unfold impl_IsLandmarkName at H
  (repeat apply sq)
  apply rg
  apply R_asg; rfl; rfl; rfl
  apply dn
  apply x3
  (repeat apply sq)
  apply rg
  apply R_mov; rfl; rfl; rfl
  obtain ⟨r1, hr1, H⟩ := bindS H
  apply R_bool; (apply L_call; ((apply ArgsV.cons; (apply ArgV.val; rfl; rfl)); (apply ArgsV.nil)); (exact m_impl_IsName a0 _ hr1); rfl; rfl; rfl); rfl
  intro h; replace H := ifTb h H
  apply R_mov; rfl; rfl; rfl
  apply R_mov; rfl; rfl; rfl
  obtain ⟨b2, hb2, H⟩ := bindS H
  apply Run.op; (apply L_indexS2; rfl; rfl; (exact hb2); rfl); rfl; rfl
  apply R_eql; rfl; rfl; rfl; rfl
  apply R_pickT; rfl; rfl; rfl; rfl
  apply R_asg; rfl; rfl; rfl
  apply dn
  apply x3
  apply CodeT.ret
  cases H
  apply x12
  exact RetIs.sc1 rfl
  intro h; replace H := ifFb h H
  apply R_mov; rfl; rfl; rfl
  apply Run.skip; rfl
  apply Run.skip; rfl
  apply Run.skip; rfl
  apply R_pickF; rfl; rfl; rfl; rfl
  apply R_asg; rfl; rfl; rfl
  apply dn
  apply x3
  apply CodeT.ret
  cases H
  apply x12
  exact RetIs.sc1 rfl
theorem m_impl_IsValidFactor (a0 : Factor) (r : Bool) (H : impl_IsValidFactor a0 = some r) : Meets Try.prog 112 [.agg (encFactor a0)] (.sc (.bool r)) true := by
  refine Meets.intro2 (N := 73) (rs := #[.tmp 2]) Try.func112 rfl rfl rfl rfl ?_
  intro Γ hio
  unfold impl_IsValidFactor at H
  (repeat apply sq)
  apply rg
  apply Run.op; (apply L_box false; rfl; rfl; rfl; (exact io1 hio _); rfl); rfl; rfl
  apply R_asg; rfl; rfl; rfl
  apply dn
  apply x3
  (repeat apply sq)
  obtain ⟨d3, hd3, H⟩ := bindS H
  refine CodeT.lcut (x := d3) (fun d e E => XEnv Γ .normal ⟨[(1, ⟨.ptr 1 0, false⟩), (26, ⟨.sc (.bool d), false⟩)], [(1, some ⟨(encFactor a0), true, false⟩)]⟩ e E) ?_ ?_
  clear H; have H := hd3; clear hd3
  apply rg
  apply R_fldP; rfl; rfl; rfl; rfl; rfl
  apply R_ldP; rfl; rfl; rfl; rfl; rfl; rfl
  apply R_dec; (apply L_lss; rfl; rfl; rfl); rfl
  intro h; replace H := ifT h H
  apply R_mov; rfl; rfl; rfl
  apply Run.skip; rfl
  apply Run.skip; rfl
  apply Run.skip; rfl
  apply R_pickT; rfl; rfl; rfl; rfl
  apply R_mov; rfl; rfl; rfl
  apply Run.skip; rfl
  apply Run.skip; rfl
  apply Run.skip; rfl
  apply Run.skip; rfl
  apply R_pickT; rfl; rfl; rfl; rfl
  apply R_mov; rfl; rfl; rfl
  apply Run.skip; rfl
  apply Run.skip; rfl
  apply Run.skip; rfl
  apply R_pickT; rfl; rfl; rfl; rfl
  apply R_mov; rfl; rfl; rfl
  apply Run.skip; rfl
  apply Run.skip; rfl
  apply Run.skip; rfl
  apply R_pickT; rfl; rfl; rfl; rfl
  apply dn
  obtain rfl := Option.some.inj H
  refine Ev.y4 ?_
  refine XEnv.mk ?_
  apply el [] (io0 hio _) <;> rfl
  intro h; replace H := ifF h H
  apply R_mov; rfl; rfl; rfl
  apply R_fldP; rfl; rfl; rfl; rfl; rfl
  apply R_ldP; rfl; rfl; rfl; rfl; rfl; rfl
  apply R_dec; (apply L_gtr; rfl; rfl; rfl); rfl
  intro h; replace H := ifT h H
  apply R_pickF; rfl; rfl; rfl; rfl
  apply R_mov; rfl; rfl; rfl
  apply Run.skip; rfl
  apply Run.skip; rfl
  apply Run.skip; rfl
  apply Run.skip; rfl
  apply R_pickT; rfl; rfl; rfl; rfl
  apply R_mov; rfl; rfl; rfl
  apply Run.skip; rfl
  apply Run.skip; rfl
  apply Run.skip; rfl
  apply R_pickT; rfl; rfl; rfl; rfl
  apply R_mov; rfl; rfl; rfl
  apply Run.skip; rfl
  apply Run.skip; rfl
  apply Run.skip; rfl
  apply R_pickT; rfl; rfl; rfl; rfl
  apply dn
  obtain rfl := Option.some.inj H
  refine Ev.y4 ?_
  refine XEnv.mk ?_
  apply el [] (io0 hio _) <;> rfl
  intro h; replace H := ifF h H
  apply R_pickF; rfl; rfl; rfl; rfl
  apply R_mov; rfl; rfl; rfl
  apply R_fldP; rfl; rfl; rfl; rfl; rfl
  apply R_ldPA; rfl; rfl; (first | exact seg_whole rfl | rfl); rfl; rfl; rfl; rfl; rfl
  obtain ⟨r1, hr1, H⟩ := bindS H
  apply R_bool; (apply L_call; ((apply ArgsV.cons; (apply ArgV.val; rfl; rfl)); (apply ArgsV.nil)); (exact m_impl_IsValidPose a0.fPose _ hr1); rfl; rfl; rfl); rfl
  intro h; replace H := ifTb h H
  apply R_not; rfl; rfl; rfl
  apply R_pickF; rfl; rfl; rfl; rfl
  apply R_mov; rfl; rfl; rfl
  apply R_fldP; rfl; rfl; rfl; rfl; rfl
  apply R_ldP; rfl; rfl; rfl; rfl; rfl; rfl
  apply R_dec; (apply L_lss; rfl; rfl; rfl); rfl
  intro h; replace H := ifT h H
  apply R_pickF; rfl; rfl; rfl; rfl
  apply R_mov; rfl; rfl; rfl
  apply Run.skip; rfl
  apply Run.skip; rfl
  apply Run.skip; rfl
  apply R_pickT; rfl; rfl; rfl; rfl
  apply dn
  obtain rfl := Option.some.inj H
  refine Ev.y4 ?_
  refine XEnv.mk ?_
  apply el [] (io0 hio _) <;> rfl
  intro h; replace H := ifF h H
  apply R_pickF; rfl; rfl; rfl; rfl
  apply R_mov; rfl; rfl; rfl
  apply R_fldP; rfl; rfl; rfl; rfl; rfl
  apply R_ldP; rfl; rfl; rfl; rfl; rfl; rfl
  apply R_gtr; rfl; rfl; rfl; rfl
  apply R_pickF; rfl; rfl; rfl; rfl
  apply dn
  obtain rfl := Option.some.inj H
  refine Ev.y4 ?_
  refine XEnv.mk ?_
  apply el [] (io0 hio _) <;> rfl
  intro h; replace H := ifFb h H
  apply R_not; rfl; rfl; rfl
  apply R_pickF; rfl; rfl; rfl; rfl
  apply R_mov; rfl; rfl; rfl
  apply Run.skip; rfl
  apply Run.skip; rfl
  apply Run.skip; rfl
  apply R_pickT; rfl; rfl; rfl; rfl
  apply R_mov; rfl; rfl; rfl
  apply Run.skip; rfl
  apply Run.skip; rfl
  apply Run.skip; rfl
  apply R_pickT; rfl; rfl; rfl; rfl
  apply dn
  obtain rfl := Option.some.inj H
  refine Ev.y4 ?_
  refine XEnv.mk ?_
  apply el [] (io0 hio _) <;> rfl
  intro e E' hX; obtain ⟨rfl, g4⟩ := XEnv.out hX
  apply x3
  refine CodeT.weak g4 ?_
  (repeat apply sq)
  refine CodeT.cond rfl (fun h => ?_) (fun h => ?_)
  replace H := ifTb h H
  (repeat apply sq)
  apply rg
  apply R_asg; rfl; rfl; rfl
  apply dn
  apply x3
  apply CodeT.ret
  apply x1
  cases H
  apply x12
  exact RetIs.sc1 rfl
  replace H := ifFb h H
  (repeat apply sq)
  apply CodeT.skip
  apply x3
  (repeat apply sq)
  apply rg
  apply R_fldP; rfl; rfl; rfl; rfl; rfl
  apply R_ldP; rfl; rfl; rfl; rfl; rfl; rfl
  apply dn
  apply x3
  (repeat apply sq)
  apply CodeT.block
  (repeat apply sq)
  apply rg
  apply R_eql; rfl; rfl; rfl; rfl
  apply R_asg; rfl; rfl; rfl
  apply dn
  apply x3
  refine CodeT.cond rfl (fun h => ?_) (fun h => ?_)
  replace H := ifT (of_decide_eq_true h) H
  (repeat apply sq)
  apply rg
  apply R_fldP; rfl; rfl; rfl; rfl; rfl
  apply R_ldP; rfl; rfl; rfl; rfl; rfl; rfl
  apply R_dec; (apply L_seql; rfl; rfl; rfl); rfl
  intro h; replace H := ifT h H
  apply R_mov; rfl; rfl; rfl
  apply R_fldP; rfl; rfl; rfl; rfl; rfl
  apply R_ldP; rfl; rfl; rfl; rfl; rfl; rfl
  obtain ⟨r5, hr5, H⟩ := bindS H
  apply Run.op; (apply L_call; ((apply ArgsV.cons; (apply ArgV.val; rfl; rfl)); (apply ArgsV.nil)); (exact m_impl_IsPoseName a0.fTo _ hr5); rfl; rfl; rfl); rfl; rfl
  apply R_pickT; rfl; rfl; rfl; rfl
  apply R_asg; rfl; rfl; rfl
  apply dn
  apply x3
  apply CodeT.ret
  apply x4
  apply x1
  cases H
  apply x12
  exact RetIs.sc1 rfl
  intro h; replace H := ifF h H
  apply R_mov; rfl; rfl; rfl
  apply Run.skip; rfl
  apply Run.skip; rfl
  apply Run.skip; rfl
  apply R_pickF; rfl; rfl; rfl; rfl
  apply R_asg; rfl; rfl; rfl
  apply dn
  apply x3
  apply CodeT.ret
  apply x4
  apply x1
  cases H
  apply x12
  exact RetIs.sc1 rfl
  replace H := ifF (of_decide_eq_false h) H
  (repeat apply sq)
  apply rg
  apply R_eql; rfl; rfl; rfl; rfl
  apply R_asg; rfl; rfl; rfl
  apply dn
  apply x3
  (repeat apply sq)
  obtain ⟨d7, hd7, H⟩ := bindS H
  refine CodeT.lcut (x := d7) (fun d e E => XEnv Γ .normal ⟨[(1, ⟨.ptr 1 0, false⟩), (28, ⟨.sc (.int .i64 a0.fKind), false⟩), (39, ⟨.sc (.bool d), false⟩)], [(1, some ⟨(encFactor a0), true, false⟩)]⟩ e E) ?_ ?_
  clear H; have H := hd7; clear hd7
  refine CodeT.cond rfl (fun h => ?_) (fun h => ?_)
  replace H := ifT (of_decide_eq_true h) H
  (repeat apply sq)
  apply CodeT.skip
  obtain rfl := Option.some.inj H
  refine Ev.y4 ?_
  refine XEnv.mk ?_
  apply el [] (io0 hio _) <;> rfl
  replace H := ifF (of_decide_eq_false h) H
  (repeat apply sq)
  apply rg
  apply R_eql; rfl; rfl; rfl; rfl
  apply R_asg; rfl; rfl; rfl
  apply dn
  obtain rfl := Option.some.inj H
  refine Ev.y4 ?_
  refine XEnv.mk ?_
  apply el [] (io0 hio _) <;> rfl
  intro e E' hX; obtain ⟨rfl, g8⟩ := XEnv.out hX
  apply x3
  refine CodeT.weak g8 ?_
  refine CodeT.cond rfl (fun h => ?_) (fun h => ?_)
  replace H := ifTb h H
  (repeat apply sq)
  apply rg
  apply R_fldP; rfl; rfl; rfl; rfl; rfl
  apply R_ldP; rfl; rfl; rfl; rfl; rfl; rfl
  obtain ⟨r9, hr9, H⟩ := bindS H
  apply R_bool; (apply L_call; ((apply ArgsV.cons; (apply ArgV.val; rfl; rfl)); (apply ArgsV.nil)); (exact m_impl_IsPoseName a0.fFrom _ hr9); rfl; rfl; rfl); rfl
  intro h; replace H := ifTb h H
  apply R_mov; rfl; rfl; rfl
  apply R_fldP; rfl; rfl; rfl; rfl; rfl
  apply R_ldP; rfl; rfl; rfl; rfl; rfl; rfl
  obtain ⟨r10, hr10, H⟩ := bindS H
  apply R_bool; (apply L_call; ((apply ArgsV.cons; (apply ArgV.val; rfl; rfl)); (apply ArgsV.nil)); (exact m_impl_IsPoseName a0.fTo _ hr10); rfl; rfl; rfl); rfl
  intro h; replace H := ifTb h H
  apply R_pickT; rfl; rfl; rfl; rfl
  apply R_mov; rfl; rfl; rfl
  apply R_fldP; rfl; rfl; rfl; rfl; rfl
  apply R_ldP; rfl; rfl; rfl; rfl; rfl; rfl
  apply R_fldP; rfl; rfl; rfl; rfl; rfl
  apply R_ldP; rfl; rfl; rfl; rfl; rfl; rfl
  apply Run.op; (apply L_sneq; rfl; rfl; rfl); rfl; rfl
  apply R_pickT; rfl; rfl; rfl; rfl
  apply R_asg; rfl; rfl; rfl
  apply dn
  apply x3
  apply CodeT.ret
  apply x4
  apply x1
  cases H
  apply x12
  exact RetIs.sc1 rfl
  intro h; replace H := ifFb h H
  apply R_pickT; rfl; rfl; rfl; rfl
  apply R_mov; rfl; rfl; rfl
  apply Run.skip; rfl
  apply Run.skip; rfl
  apply Run.skip; rfl
  apply Run.skip; rfl
  apply Run.skip; rfl
  apply R_pickF; rfl; rfl; rfl; rfl
  apply R_asg; rfl; rfl; rfl
  apply dn
  apply x3
  apply CodeT.ret
  apply x4
  apply x1
  cases H
  apply x12
  exact RetIs.sc1 rfl
  intro h; replace H := ifFb h H
  apply R_mov; rfl; rfl; rfl
  apply Run.skip; rfl
  apply Run.skip; rfl
  apply Run.skip; rfl
  apply R_pickF; rfl; rfl; rfl; rfl
  apply R_mov; rfl; rfl; rfl
  apply Run.skip; rfl
  apply Run.skip; rfl
  apply Run.skip; rfl
  apply Run.skip; rfl
  apply Run.skip; rfl
  apply R_pickF; rfl; rfl; rfl; rfl
  apply R_asg; rfl; rfl; rfl
  apply dn
  apply x3
  apply CodeT.ret
  apply x4
  apply x1
  cases H
  apply x12
  exact RetIs.sc1 rfl
  replace H := ifFb h H
  (repeat apply sq)
  apply rg
  apply R_eql; rfl; rfl; rfl; rfl
  apply R_asg; rfl; rfl; rfl
  apply dn
  apply x3
  refine CodeT.cond rfl (fun h => ?_) (fun h => ?_)
  replace H := ifT (of_decide_eq_true h) H
  (repeat apply sq)
  apply rg
  apply R_fldP; rfl; rfl; rfl; rfl; rfl
  apply R_ldP; rfl; rfl; rfl; rfl; rfl; rfl
  obtain ⟨r11, hr11, H⟩ := bindS H
  apply R_bool; (apply L_call; ((apply ArgsV.cons; (apply ArgV.val; rfl; rfl)); (apply ArgsV.nil)); (exact m_impl_IsPoseName a0.fFrom _ hr11); rfl; rfl; rfl); rfl
  intro h; replace H := ifTb h H
  apply R_mov; rfl; rfl; rfl
  apply R_fldP; rfl; rfl; rfl; rfl; rfl
  apply R_ldP; rfl; rfl; rfl; rfl; rfl; rfl
  obtain ⟨r12, hr12, H⟩ := bindS H
  apply R_bool; (apply L_call; ((apply ArgsV.cons; (apply ArgV.val; rfl; rfl)); (apply ArgsV.nil)); (exact m_impl_IsLandmarkName a0.fTo _ hr12); rfl; rfl; rfl); rfl
  intro h; replace H := ifTb h H
  apply R_pickT; rfl; rfl; rfl; rfl
  apply R_mov; rfl; rfl; rfl
  apply R_fldP; rfl; rfl; rfl; rfl; rfl
  apply R_fldP; rfl; rfl; rfl; rfl; rfl
  apply R_ldP; rfl; rfl; rfl; rfl; rfl; rfl
  apply R_eql; rfl; rfl; rfl; rfl
  apply R_pickT; rfl; rfl; rfl; rfl
  apply R_asg; rfl; rfl; rfl
  apply dn
  apply x3
  apply CodeT.ret
  apply x4
  apply x1
  cases H
  apply x12
  exact RetIs.sc1 rfl
  intro h; replace H := ifFb h H
  apply R_pickT; rfl; rfl; rfl; rfl
  apply R_mov; rfl; rfl; rfl
  apply Run.skip; rfl
  apply Run.skip; rfl
  apply Run.skip; rfl
  apply Run.skip; rfl
  apply R_pickF; rfl; rfl; rfl; rfl
  apply R_asg; rfl; rfl; rfl
  apply dn
  apply x3
  apply CodeT.ret
  apply x4
  apply x1
  cases H
  apply x12
  exact RetIs.sc1 rfl
  intro h; replace H := ifFb h H
  apply R_mov; rfl; rfl; rfl
  apply Run.skip; rfl
  apply Run.skip; rfl
  apply Run.skip; rfl
  apply R_pickF; rfl; rfl; rfl; rfl
  apply R_mov; rfl; rfl; rfl
  apply Run.skip; rfl
  apply Run.skip; rfl
  apply Run.skip; rfl
  apply Run.skip; rfl
  apply R_pickF; rfl; rfl; rfl; rfl
  apply R_asg; rfl; rfl; rfl
  apply dn
  apply x3
  apply CodeT.ret
  apply x4
  apply x1
  cases H
  apply x12
  exact RetIs.sc1 rfl
  replace H := ifF (of_decide_eq_false h) H
  (repeat apply sq)
  apply CodeT.skip
  apply x5
  apply x3
  (repeat apply sq)
  apply rg
  apply R_asg; rfl; rfl; rfl
  apply dn
  apply x3
  apply CodeT.ret
  cases H
  apply x12
  exact RetIs.sc1 rfl
theorem m_impl_hasString (a0 : (List ByteArray)) (a1 : ByteArray) (r : Bool) (H : impl_hasString a0 a1 = some r) : Meets Try.prog 122 [.sl a0.length (a0.flatMap encS), .sc (.string a1)] (.sc (.bool r)) true := by
  refine Meets.intro2 (N := 17) (rs := #[.tmp 4]) Try.func122 rfl rfl rfl rfl ?_
  intro Γ hio
  unfold impl_hasString at H
  (repeat apply sq)
  apply rg
  apply R_asg; rfl; rfl; rfl
  apply dn
  apply x3
  (repeat apply sq)
  apply rg
  apply R_mov; rfl; rfl; rfl
  apply R_len; rfl; rfl; rfl
  apply R_mov; rfl; rfl; rfl
  apply dn
  apply x3
  (repeat apply sq)
  apply CodeT.block
  (repeat apply sq)
  obtain ⟨d4, hd4, H⟩ := bindS H
  refine CodeT.lloop (fun s => ⟨[(1, ⟨.sc (.string a1), false⟩), (7, ⟨.sl a0.length (a0.flatMap encS), false⟩), (8, ⟨.sc (.int .i64 (a0.length : Int)), false⟩), (9, ⟨.sc (.int .i64 s), false⟩)], []⟩) (fun x e E => match x with | (.inl d) => XEnv Γ (.exit 0) ⟨[], []⟩ e E | (.inr d) => XRet Γ #[.tmp 4] (.sc (.bool d)) true e E) hd4 ?_ ?_ ?_
  apply el [] (io0 hio _) <;> rfl
  clear H hd4
  rintro v2 o H
  unfold impl_hasString_L1 at H
  (repeat apply sq)
  apply rg
  apply R_lss; rfl; rfl; rfl; rfl
  apply dn
  apply x3
  (repeat apply sq)
  refine CodeT.cond rfl (fun h => ?_) (fun h => ?_)
  replace H := ifT (of_decide_eq_true h) H
  (repeat apply sq)
  apply CodeT.skip
  apply x3
  (repeat apply sq)
  apply CodeT.block
  (repeat apply sq)
  apply rg
  obtain ⟨y3, hy3, H⟩ := bindS H
  apply Run.op; (apply L_ixS2; rfl; rfl; rfl; (exact hy3); (intro _; rfl); rfl); rfl; rfl
  apply R_ldI; rfl; rfl; rfl; rfl; rfl
  apply R_asg; rfl; rfl; rfl
  apply dn
  apply x3
  (repeat apply sq)
  apply rg
  apply R_mov; rfl; rfl; rfl
  apply R_mov; rfl; rfl; rfl
  apply Run.op; (apply L_seql; rfl; rfl; rfl); rfl; rfl
  apply dn
  apply x3
  refine CodeT.cond rfl (fun h => ?_) (fun h => ?_)
  replace H := ifT (of_decide_eq_true h) H
  (repeat apply sq)
  apply rg
  apply R_asg; rfl; rfl; rfl
  apply dn
  apply x3
  apply CodeT.ret
  apply x4
  apply x1
  obtain rfl := Option.some.inj H
  refine Ev.y2 ?_
  refine XRet.mk ?_
  exact RetIs.sc1 rfl
  replace H := ifF (of_decide_eq_false h) H
  (repeat apply sq)
  apply CodeT.skip
  apply x5
  apply x3
  apply rg
  apply R_add; rfl; rfl; rfl; rfl; rfl
  apply R_mov; rfl; rfl; rfl
  apply dn
  obtain rfl := Option.some.inj H
  refine Ev.y1 ?_
  apply el [] (io0 hio _) <;> rfl
  replace H := ifF (of_decide_eq_false h) H
  (repeat apply sq)
  apply CodeT.exit
  apply x2
  obtain rfl := Option.some.inj H
  refine Ev.y3 ?_
  refine XEnv.mk ?_
  apply el [] (io0 hio _) <;> rfl
  rcases d4 with (d5 | d7)
  intro e E' hX; obtain ⟨rfl, g6⟩ := XEnv.out hX
  refine x6 rfl ?_
  apply x3
  refine CodeT.weak g6 ?_
  (repeat apply sq)
  apply rg
  apply R_asg; rfl; rfl; rfl
  apply dn
  apply x3
  apply CodeT.ret
  cases H
  apply x12
  exact RetIs.sc1 rfl
  intro e E' hX; obtain ⟨rfl, g8⟩ := XRet.out hX
  apply x4
  apply x1
  cases H
  apply x12
  exact g8
theorem m_impl_NamesOf (a0 : (List Factor)) (r : (List ByteArray)) (H : impl_NamesOf a0 = some r) : Meets Try.prog 74 [.sl a0.length (a0.flatMap encFactor)] (.rw 1 r.length (r.flatMap encS)) true := by
  refine Meets.intro2 (N := 45) (rs := #[.tmp 2]) Try.func74 rfl rfl rfl rfl ?_
  intro Γ hio
  unfold impl_NamesOf at H
  (repeat apply sq)
  apply rg
  apply R_asg; rfl; rfl; rfl
  apply dn
  apply x3
  (repeat apply sq)
  apply rg
  apply Run.op; (apply L_bs0; (exact io1 hio _); rfl); rfl; rfl
  apply R_asg; rfl; rfl; rfl
  apply dn
  apply x3
  (repeat apply sq)
  apply rg
  apply R_mov; rfl; rfl; rfl
  apply R_len; rfl; rfl; rfl
  apply R_mov; rfl; rfl; rfl
  apply dn
  apply x3
  (repeat apply sq)
  apply CodeT.block
  (repeat apply sq)
  obtain ⟨d36, hd36, H⟩ := bindS H
  refine CodeT.lloop (fun s => ⟨[(3, ⟨.ref 503 1 0 s.2.length, false⟩), (7, ⟨.sl a0.length (a0.flatMap encFactor), false⟩), (8, ⟨.sc (.int .i64 (a0.length : Int)), false⟩), (9, ⟨.sc (.int .i64 s.1), false⟩)], [(503, some ⟨s.2.flatMap encS, true, false⟩)]⟩) (fun d e E => XEnv Γ (.exit 0) ⟨[(3, ⟨.ref 503 1 0 d.length, false⟩)], [(503, some ⟨d.flatMap encS, true, false⟩)]⟩ e E) hd36 ?_ ?_ ?_
  apply el [(503, 6)] (io0 hio _) <;> rfl
  clear H hd36
  rintro ⟨v17, v18⟩ o H
  unfold impl_NamesOf_L1 at H
  (repeat apply sq)
  apply rg
  apply R_lss; rfl; rfl; rfl; rfl
  apply dn
  apply x3
  (repeat apply sq)
  refine CodeT.cond rfl (fun h => ?_) (fun h => ?_)
  replace H := ifT (of_decide_eq_true h) H
  (repeat apply sq)
  apply CodeT.skip
  apply x3
  (repeat apply sq)
  apply CodeT.block
  (repeat apply sq)
  apply rg
  obtain ⟨y19, hy19, H⟩ := bindS H
  apply Run.op; (apply L_ixS2; rfl; rfl; rfl; (exact hy19); (intro _; rfl); rfl); rfl; rfl
  apply Run.op; (apply L_ldIA; rfl; (first | exact take_whole rfl | rfl); rfl; (intro h; cases h); rfl; rfl); rfl; rfl
  apply Run.op; (apply L_alloc false; (exact io1 hio _); rfl); rfl; rfl
  apply Run.op; (apply L_st (cells' := (encFactor y19)); rfl; rfl; rfl; rfl; rfl; (intro h; cases h); rfl; (first | exact splice_whole rfl | rfl)); rfl; rfl
  apply dn
  apply x3
  (repeat apply sq)
  obtain ⟨d22, hd22, H⟩ := bindS H
  refine CodeT.lcut (x := d22) (fun d e E => XEnv Γ .normal ⟨[(3, ⟨.ref 503 1 0 v18.length, false⟩), (5, ⟨.ptr 5 0, false⟩), (7, ⟨.sl a0.length (a0.flatMap encFactor), false⟩), (8, ⟨.sc (.int .i64 (a0.length : Int)), false⟩), (9, ⟨.sc (.int .i64 v17), false⟩), (22, ⟨.sc (.bool d), false⟩)], [(5, some ⟨(encFactor y19), true, false⟩), (503, some ⟨v18.flatMap encS, true, false⟩)]⟩ e E) ?_ ?_
  clear H; have H := hd22; clear hd22
  apply rg
  apply R_fldP; rfl; rfl; rfl; rfl; rfl
  apply R_ldP; rfl; rfl; rfl; rfl; rfl; rfl
  apply R_dec; (apply L_sneq; rfl; rfl; rfl); rfl
  intro h; replace H := ifT h H
  apply R_mov; rfl; rfl; rfl
  apply R_mov; rfl; rfl; rfl
  apply R_fldP; rfl; rfl; rfl; rfl; rfl
  apply R_ldP; rfl; rfl; rfl; rfl; rfl; rfl
  obtain ⟨r20, hr20, H⟩ := bindS H
  apply Run.op; (apply L_call; ((apply ArgsV.cons; (apply ArgV.ref; rfl; rfl; (first | exact Nat.le_of_eq (flat_len (fun _ => rfl)) | exact Nat.le_of_ble_eq_true rfl))); (apply ArgsV.cons; (apply ArgV.val; rfl; rfl)); (apply ArgsV.nil)); (exact m_impl_hasString v18 y19.fFrom _ hr20); rfl; rfl; rfl); rfl; rfl
  apply R_not; rfl; rfl; rfl
  apply R_pickT; rfl; rfl; rfl; rfl
  apply dn
  obtain rfl := Option.some.inj H
  refine Ev.y4 ?_
  refine XEnv.mk ?_
  apply el [] (io0 hio _) <;> rfl
  intro h; replace H := ifF h H
  apply R_mov; rfl; rfl; rfl
  apply Run.skip; rfl
  apply Run.skip; rfl
  apply Run.skip; rfl
  apply Run.skip; rfl
  apply Run.skip; rfl
  apply R_pickF; rfl; rfl; rfl; rfl
  apply dn
  obtain rfl := Option.some.inj H
  refine Ev.y4 ?_
  refine XEnv.mk ?_
  apply el [] (io0 hio _) <;> rfl
  intro e E' hX; obtain ⟨rfl, g23⟩ := XEnv.out hX
  apply x3
  refine CodeT.weak g23 ?_
  (repeat apply sq)
  obtain ⟨d27, hd27, H⟩ := bindS H
  refine CodeT.lcut (x := d27) (fun d e E => XEnv Γ .normal ⟨[(3, ⟨.ref 503 1 0 d.length, false⟩), (5, ⟨.ptr 5 0, false⟩), (7, ⟨.sl a0.length (a0.flatMap encFactor), false⟩), (8, ⟨.sc (.int .i64 (a0.length : Int)), false⟩), (9, ⟨.sc (.int .i64 v17), false⟩)], [(5, some ⟨(encFactor y19), true, false⟩), (503, some ⟨d.flatMap encS, true, false⟩)]⟩ e E) ?_ ?_
  clear H; have H := hd27; clear hd27
  refine CodeT.cond rfl (fun h => ?_) (fun h => ?_)
  replace H := ifTb h H
  (repeat apply sq)
  apply rg
  apply R_mov; rfl; rfl; rfl
  apply R_fldP; rfl; rfl; rfl; rfl; rfl
  apply R_ldP; rfl; rfl; rfl; rfl; rfl; rfl
  apply Run.op; (apply L_bs1; rfl; rfl; rfl; rfl; rfl; rfl; rfl; rfl); rfl; rfl
  obtain ⟨_u, ha24, H⟩ := bindS H
  obtain ⟨v25, hv25, H⟩ := bindS H
  apply Run.op; (apply L_app true; rfl; rfl; rfl; (exact flat_len (l := v18) (enc := encS) (fun _ => rfl)); rfl; (exact chkS ha24); (exact app63 (by decide) (chkS ha24)); (exact ⟨io1 hio _, io1 hio _⟩); (intro _; rfl); (exact flat_snocL (l := v18) (y := y19.fFrom) (enc := encS) hv25); rfl); rfl; rfl
  apply R_asg; rfl; rfl; rfl
  apply dn
  obtain rfl := Option.some.inj H
  refine Ev.y4 ?_
  refine XEnv.mk ?_
  apply el [(503, 27)] (io0 hio _) <;> rfl
  replace H := ifFb h H
  (repeat apply sq)
  apply CodeT.skip
  obtain rfl := Option.some.inj H
  refine Ev.y4 ?_
  refine XEnv.mk ?_
  apply el [] (io0 hio _) <;> rfl
  intro e E' hX; obtain ⟨rfl, g28⟩ := XEnv.out hX
  apply x3
  refine CodeT.weak g28 ?_
  (repeat apply sq)
  obtain ⟨d31, hd31, H⟩ := bindS H
  refine CodeT.lcut (x := d31) (fun d e E => XEnv Γ .normal ⟨[(3, ⟨.ref 503 1 0 d27.length, false⟩), (5, ⟨.ptr 5 0, false⟩), (7, ⟨.sl a0.length (a0.flatMap encFactor), false⟩), (8, ⟨.sc (.int .i64 (a0.length : Int)), false⟩), (9, ⟨.sc (.int .i64 v17), false⟩), (37, ⟨.sc (.bool d), false⟩)], [(5, some ⟨(encFactor y19), true, false⟩), (503, some ⟨d27.flatMap encS, true, false⟩)]⟩ e E) ?_ ?_
  clear H; have H := hd31; clear hd31
  apply rg
  apply R_fldP; rfl; rfl; rfl; rfl; rfl
  apply R_ldP; rfl; rfl; rfl; rfl; rfl; rfl
  apply R_dec; (apply L_sneq; rfl; rfl; rfl); rfl
  intro h; replace H := ifT h H
  apply R_mov; rfl; rfl; rfl
  apply R_mov; rfl; rfl; rfl
  apply R_fldP; rfl; rfl; rfl; rfl; rfl
  apply R_ldP; rfl; rfl; rfl; rfl; rfl; rfl
  obtain ⟨r29, hr29, H⟩ := bindS H
  apply Run.op; (apply L_call; ((apply ArgsV.cons; (apply ArgV.ref; rfl; rfl; (first | exact Nat.le_of_eq (flat_len (fun _ => rfl)) | exact Nat.le_of_ble_eq_true rfl))); (apply ArgsV.cons; (apply ArgV.val; rfl; rfl)); (apply ArgsV.nil)); (exact m_impl_hasString d27 y19.fTo _ hr29); rfl; rfl; rfl); rfl; rfl
  apply R_not; rfl; rfl; rfl
  apply R_pickT; rfl; rfl; rfl; rfl
  apply dn
  obtain rfl := Option.some.inj H
  refine Ev.y4 ?_
  refine XEnv.mk ?_
  apply el [] (io0 hio _) <;> rfl
  intro h; replace H := ifF h H
  apply R_mov; rfl; rfl; rfl
  apply Run.skip; rfl
  apply Run.skip; rfl
  apply Run.skip; rfl
  apply Run.skip; rfl
  apply Run.skip; rfl
  apply R_pickF; rfl; rfl; rfl; rfl
  apply dn
  obtain rfl := Option.some.inj H
  refine Ev.y4 ?_
  refine XEnv.mk ?_
  apply el [] (io0 hio _) <;> rfl
  intro e E' hX; obtain ⟨rfl, g32⟩ := XEnv.out hX
  apply x3
  refine CodeT.weak g32 ?_
  refine CodeT.cond rfl (fun h => ?_) (fun h => ?_)
  replace H := ifTb h H
  (repeat apply sq)
  apply rg
  apply R_mov; rfl; rfl; rfl
  apply R_fldP; rfl; rfl; rfl; rfl; rfl
  apply R_ldP; rfl; rfl; rfl; rfl; rfl; rfl
  apply Run.op; (apply L_bs1; rfl; rfl; rfl; rfl; rfl; rfl; rfl; rfl); rfl; rfl
  obtain ⟨_u, ha33, H⟩ := bindS H
  obtain ⟨v34, hv34, H⟩ := bindS H
  apply Run.op; (apply L_app true; rfl; rfl; rfl; (exact flat_len (l := d27) (enc := encS) (fun _ => rfl)); rfl; (exact chkS ha33); (exact app63 (by decide) (chkS ha33)); (exact ⟨io1 hio _, io1 hio _⟩); (intro _; rfl); (exact flat_snocL (l := d27) (y := y19.fTo) (enc := encS) hv34); rfl); rfl; rfl
  apply R_asg; rfl; rfl; rfl
  apply dn
  apply x5
  apply x3
  apply rg
  apply R_add; rfl; rfl; rfl; rfl; rfl
  apply R_mov; rfl; rfl; rfl
  apply dn
  obtain rfl := Option.some.inj H
  refine Ev.y1 ?_
  apply el [(503, 42)] (io0 hio _) <;> rfl
  replace H := ifFb h H
  (repeat apply sq)
  apply CodeT.skip
  apply x5
  apply x3
  apply rg
  apply R_add; rfl; rfl; rfl; rfl; rfl
  apply R_mov; rfl; rfl; rfl
  apply dn
  obtain rfl := Option.some.inj H
  refine Ev.y1 ?_
  apply el [] (io0 hio _) <;> rfl
  replace H := ifF (of_decide_eq_false h) H
  (repeat apply sq)
  apply CodeT.exit
  apply x2
  obtain rfl := Option.some.inj H
  refine Ev.y3 ?_
  refine XEnv.mk ?_
  apply el [] (io0 hio _) <;> rfl
  skip
  intro e E' hX; obtain ⟨rfl, g37⟩ := XEnv.out hX
  refine x6 rfl ?_
  apply x3
  refine CodeT.weak g37 ?_
  (repeat apply sq)
  apply rg
  apply R_mov; rfl; rfl; rfl
  apply R_asg; rfl; rfl; rfl
  apply dn
  apply x3
  apply CodeT.ret
  cases H
  apply x12
  exact RetIs.rW rfl rfl rfl (io1 hio _)
theorem m_impl_IsFactorList (a0 : (List Factor)) (r : Bool) (H : impl_IsFactorList a0 = some r) : Meets Try.prog 73 [.sl a0.length (a0.flatMap encFactor)] (.sc (.bool r)) true := by
  refine Meets.intro2 (N := 38) (rs := #[.tmp 2]) Try.func73 rfl rfl rfl rfl ?_
  intro Γ hio
  unfold impl_IsFactorList at H
  (repeat apply sq)
  apply rg
  apply R_asg; rfl; rfl; rfl
  apply dn
  apply x3
  (repeat apply sq)
  apply rg
  apply R_mov; rfl; rfl; rfl
  apply R_len; rfl; rfl; rfl
  apply R_gtr; rfl; rfl; rfl; rfl
  apply dn
  apply x3
  (repeat apply sq)
  refine CodeT.cond rfl (fun h => ?_) (fun h => ?_)
  replace H := ifT (of_decide_eq_true h) H
  (repeat apply sq)
  apply rg
  apply R_asg; rfl; rfl; rfl
  apply dn
  apply x3
  apply CodeT.ret
  apply x1
  cases H
  apply x12
  exact RetIs.sc1 rfl
  replace H := ifF (of_decide_eq_false h) H
  (repeat apply sq)
  apply CodeT.skip
  apply x3
  (repeat apply sq)
  apply rg
  apply R_mov; rfl; rfl; rfl
  apply R_len; rfl; rfl; rfl
  apply R_mov; rfl; rfl; rfl
  apply dn
  apply x3
  (repeat apply sq)
  apply CodeT.block
  (repeat apply sq)
  obtain ⟨d14, hd14, H⟩ := bindS H
  refine CodeT.lloop (fun s => ⟨[(0, ⟨.sl a0.length (a0.flatMap encFactor), false⟩), (8, ⟨.sl a0.length (a0.flatMap encFactor), false⟩), (9, ⟨.sc (.int .i64 (a0.length : Int)), false⟩), (10, ⟨.sc (.int .i64 s), false⟩)], []⟩) (fun x e E => match x with | (.inl d) => XEnv Γ (.exit 0) ⟨[(0, ⟨.sl a0.length (a0.flatMap encFactor), false⟩)], []⟩ e E | (.inr d) => XRet Γ #[.tmp 2] (.sc (.bool d)) true e E) hd14 ?_ ?_ ?_
  apply el [] (io0 hio _) <;> rfl
  clear H hd14
  rintro v7 o H
  unfold impl_IsFactorList_L1 at H
  (repeat apply sq)
  apply rg
  apply R_lss; rfl; rfl; rfl; rfl
  apply dn
  apply x3
  (repeat apply sq)
  refine CodeT.cond rfl (fun h => ?_) (fun h => ?_)
  replace H := ifT (of_decide_eq_true h) H
  (repeat apply sq)
  apply CodeT.skip
  apply x3
  (repeat apply sq)
  apply CodeT.block
  (repeat apply sq)
  apply rg
  apply R_mov; rfl; rfl; rfl
  obtain ⟨y8, hy8, H⟩ := bindS H
  apply Run.op; (apply L_ixS2; rfl; rfl; rfl; (exact hy8); (intro _; rfl); rfl); rfl; rfl
  apply Run.op; (apply L_ldIA; rfl; (first | exact take_whole rfl | rfl); rfl; (intro h; cases h); rfl; rfl); rfl; rfl
  apply Run.op; (apply L_alloc false; (exact io1 hio _); rfl); rfl; rfl
  apply R_asg; rfl; rfl; rfl
  apply Run.op; (apply L_st (cells' := (encFactor y8)); rfl; rfl; rfl; rfl; rfl; (intro h; cases h); rfl; (first | exact splice_whole rfl | rfl)); rfl; rfl
  apply dn
  apply x3
  (repeat apply sq)
  obtain ⟨d12, hd12, H⟩ := bindS H
  refine CodeT.lcut (x := d12) (fun d e E => XEnv Γ .normal ⟨[(0, ⟨.sl a0.length (a0.flatMap encFactor), false⟩), (8, ⟨.sl a0.length (a0.flatMap encFactor), false⟩), (9, ⟨.sc (.int .i64 (a0.length : Int)), false⟩), (10, ⟨.sc (.int .i64 v7), false⟩), (32, ⟨.sc (.bool d), false⟩)], []⟩ e E) ?_ ?_
  clear H; have H := hd12; clear hd12
  apply rg
  apply R_ldPA; rfl; rfl; (first | exact seg_whole rfl | rfl); rfl; rfl; rfl; rfl; rfl
  obtain ⟨r9, hr9, H⟩ := bindS H
  apply R_bool; (apply L_call; ((apply ArgsV.cons; (apply ArgV.val; rfl; rfl)); (apply ArgsV.nil)); (exact m_impl_IsValidFactor y8 _ hr9); rfl; rfl; rfl); rfl
  intro h; replace H := ifTb h H
  apply R_not; rfl; rfl; rfl
  apply R_mov; rfl; rfl; rfl
  apply R_mov; rfl; rfl; rfl
  apply R_dec; (apply L_gtr; rfl; rfl; rfl); rfl
  intro h; replace H := ifT h H
  apply R_mov; rfl; rfl; rfl
  apply R_mov; rfl; rfl; rfl
  apply R_mov; rfl; rfl; rfl
  apply R_sub; rfl; rfl; rfl; rfl; rfl
  obtain ⟨y10, hy10, H⟩ := bindS H
  apply Run.op; (apply L_ixS2; rfl; rfl; rfl; (exact hy10); (intro _; rfl); rfl); rfl; rfl
  apply R_fldI; rfl; rfl; rfl
  apply R_ldI; rfl; rfl; rfl; rfl; rfl
  apply R_fldP; rfl; rfl; rfl; rfl; rfl
  apply R_ldP; rfl; rfl; rfl; rfl; rfl; rfl
  apply Run.op; (apply L_geq; rfl; rfl; rfl); rfl; rfl
  apply R_pickT; rfl; rfl; rfl; rfl
  apply R_pickF; rfl; rfl; rfl; rfl
  apply Run.done; refine ⟨fun _ => ⟨rfl, rfl⟩, ?_⟩
  obtain rfl := Option.some.inj H
  refine Ev.y4 ?_
  refine XEnv.mk ?_
  apply el [] (io0 hio _) <;> rfl
  intro h; replace H := ifF h H
  apply R_mov; rfl; rfl; rfl
  apply Run.skip; rfl
  apply Run.skip; rfl
  apply Run.skip; rfl
  apply Run.skip; rfl
  apply Run.skip; rfl
  apply Run.skip; rfl
  apply Run.skip; rfl
  apply Run.skip; rfl
  apply Run.skip; rfl
  apply R_pickF; rfl; rfl; rfl; rfl
  apply R_pickF; rfl; rfl; rfl; rfl
  apply Run.done; refine ⟨fun _ => ⟨rfl, rfl⟩, ?_⟩
  obtain rfl := Option.some.inj H
  refine Ev.y4 ?_
  refine XEnv.mk ?_
  apply el [] (io0 hio _) <;> rfl
  intro h; replace H := ifFb h H
  apply R_not; rfl; rfl; rfl
  apply R_mov; rfl; rfl; rfl
  apply Run.skip; rfl
  apply Run.skip; rfl
  apply Run.skip; rfl
  apply Run.skip; rfl
  apply Run.skip; rfl
  apply Run.skip; rfl
  apply Run.skip; rfl
  apply Run.skip; rfl
  apply Run.skip; rfl
  apply Run.skip; rfl
  apply Run.skip; rfl
  apply Run.skip; rfl
  apply Run.skip; rfl
  apply R_pickT; rfl; rfl; rfl; rfl
  apply Run.done; refine ⟨fun _ => ⟨rfl, rfl⟩, ?_⟩
  obtain rfl := Option.some.inj H
  refine Ev.y4 ?_
  refine XEnv.mk ?_
  apply el [] (io0 hio _) <;> rfl
  intro e E' hX; obtain ⟨rfl, g13⟩ := XEnv.out hX
  apply x3
  refine CodeT.weak g13 ?_
  refine CodeT.cond rfl (fun h => ?_) (fun h => ?_)
  replace H := ifTb h H
  (repeat apply sq)
  apply rg
  apply R_asg; rfl; rfl; rfl
  apply dn
  apply x3
  apply CodeT.ret
  apply x4
  apply x1
  obtain rfl := Option.some.inj H
  refine Ev.y2 ?_
  refine XRet.mk ?_
  exact RetIs.sc1 rfl
  replace H := ifFb h H
  (repeat apply sq)
  apply CodeT.skip
  apply x5
  apply x3
  apply rg
  apply R_add; rfl; rfl; rfl; rfl; rfl
  apply R_mov; rfl; rfl; rfl
  apply dn
  obtain rfl := Option.some.inj H
  refine Ev.y1 ?_
  apply el [] (io0 hio _) <;> rfl
  replace H := ifF (of_decide_eq_false h) H
  (repeat apply sq)
  apply CodeT.exit
  apply x2
  obtain rfl := Option.some.inj H
  refine Ev.y3 ?_
  refine XEnv.mk ?_
  apply el [] (io0 hio _) <;> rfl
  rcases d14 with (d15 | d18)
  intro e E' hX; obtain ⟨rfl, g16⟩ := XEnv.out hX
  refine x6 rfl ?_
  apply x3
  refine CodeT.weak g16 ?_
  (repeat apply sq)
  apply rg
  apply R_mov; rfl; rfl; rfl
  obtain ⟨r17, hr17, H⟩ := bindS H
  apply Run.op; (apply L_callW; ((apply ArgsV.cons; (apply ArgV.val; rfl; rfl)); (apply ArgsV.nil)); (exact m_impl_NamesOf a0 _ hr17); (exact io1 hio _); rfl); rfl; rfl
  apply Run.op; (apply L_lenR; rfl; rfl; rfl); rfl; rfl
  apply R_lss; rfl; rfl; rfl; rfl
  apply R_asg; rfl; rfl; rfl
  apply dn
  apply x3
  apply CodeT.ret
  cases H
  apply x12
  exact RetIs.sc1 rfl
  intro e E' hX; obtain ⟨rfl, g19⟩ := XRet.out hX
  apply x4
  apply x1
  cases H
  apply x12
  exact g19
theorem m_impl_nameIndex (a0 : (List ByteArray)) (a1 : ByteArray) (r : Int) (H : impl_nameIndex a0 a1 = some r) : Meets Try.prog 76 [.sl a0.length (a0.flatMap encS), .sc (.string a1)] (.sc (.int .i64 r)) true := by
  refine Meets.intro2 (N := 19) (rs := #[.tmp 4]) Try.func76 rfl rfl rfl rfl ?_
  intro Γ hio
  unfold impl_nameIndex at H
  (repeat apply sq)
  apply rg
  apply R_asg; rfl; rfl; rfl
  apply dn
  apply x3
  (repeat apply sq)
  apply rg
  apply R_mov; rfl; rfl; rfl
  apply R_len; rfl; rfl; rfl
  apply R_mov; rfl; rfl; rfl
  apply dn
  apply x3
  (repeat apply sq)
  apply CodeT.block
  (repeat apply sq)
  obtain ⟨d4, hd4, H⟩ := bindS H
  refine CodeT.lloop (fun s => ⟨[(1, ⟨.sc (.string a1), false⟩), (7, ⟨.sl a0.length (a0.flatMap encS), false⟩), (8, ⟨.sc (.int .i64 (a0.length : Int)), false⟩), (9, ⟨.sc (.int .i64 s), false⟩)], []⟩) (fun x e E => match x with | (.inl d) => XEnv Γ (.exit 0) ⟨[], []⟩ e E | (.inr d) => XRet Γ #[.tmp 4] (.sc (.int .i64 d)) true e E) hd4 ?_ ?_ ?_
  apply el [] (io0 hio _) <;> rfl
  clear H hd4
  rintro v2 o H
  unfold impl_nameIndex_L1 at H
  (repeat apply sq)
  apply rg
  apply R_lss; rfl; rfl; rfl; rfl
  apply dn
  apply x3
  (repeat apply sq)
  refine CodeT.cond rfl (fun h => ?_) (fun h => ?_)
  replace H := ifT (of_decide_eq_true h) H
  (repeat apply sq)
  apply CodeT.skip
  apply x3
  (repeat apply sq)
  apply CodeT.block
  (repeat apply sq)
  apply rg
  apply R_mov; rfl; rfl; rfl
  obtain ⟨y3, hy3, H⟩ := bindS H
  apply Run.op; (apply L_ixS2; rfl; rfl; rfl; (exact hy3); (intro _; rfl); rfl); rfl; rfl
  apply R_ldI; rfl; rfl; rfl; rfl; rfl
  apply R_asg; rfl; rfl; rfl
  apply R_asg; rfl; rfl; rfl
  apply dn
  apply x3
  (repeat apply sq)
  apply rg
  apply R_mov; rfl; rfl; rfl
  apply R_mov; rfl; rfl; rfl
  apply Run.op; (apply L_seql; rfl; rfl; rfl); rfl; rfl
  apply dn
  apply x3
  refine CodeT.cond rfl (fun h => ?_) (fun h => ?_)
  replace H := ifT (of_decide_eq_true h) H
  (repeat apply sq)
  apply rg
  apply R_mov; rfl; rfl; rfl
  apply R_asg; rfl; rfl; rfl
  apply dn
  apply x3
  apply CodeT.ret
  apply x4
  apply x1
  obtain rfl := Option.some.inj H
  refine Ev.y2 ?_
  refine XRet.mk ?_
  exact RetIs.sc1 rfl
  replace H := ifF (of_decide_eq_false h) H
  (repeat apply sq)
  apply CodeT.skip
  apply x5
  apply x3
  apply rg
  apply R_add; rfl; rfl; rfl; rfl; rfl
  apply R_mov; rfl; rfl; rfl
  apply dn
  obtain rfl := Option.some.inj H
  refine Ev.y1 ?_
  apply el [] (io0 hio _) <;> rfl
  replace H := ifF (of_decide_eq_false h) H
  (repeat apply sq)
  apply CodeT.exit
  apply x2
  obtain rfl := Option.some.inj H
  refine Ev.y3 ?_
  refine XEnv.mk ?_
  apply el [] (io0 hio _) <;> rfl
  rcases d4 with (d5 | d7)
  intro e E' hX; obtain ⟨rfl, g6⟩ := XEnv.out hX
  refine x6 rfl ?_
  apply x3
  refine CodeT.weak g6 ?_
  (repeat apply sq)
  apply rg
  apply R_asg; rfl; rfl; rfl
  apply dn
  apply x3
  apply CodeT.ret
  cases H
  apply x12
  exact RetIs.sc1 rfl
  intro e E' hX; obtain ⟨rfl, g8⟩ := XRet.out hX
  apply x4
  apply x1
  cases H
  apply x12
  exact g8
theorem m_impl_NodeOf (a0 : (List Factor)) (a1 : ByteArray) (r : Int) (H : impl_NodeOf a0 a1 = some r) : Meets Try.prog 113 [.sl a0.length (a0.flatMap encFactor), .sc (.string a1)] (.sc (.int .i64 r)) true := by
  refine Meets.intro2 (N := 13) (rs := #[.tmp 4]) Try.func113 rfl rfl rfl rfl ?_
  intro Γ hio
  unfold impl_NodeOf at H
  (repeat apply sq)
  apply rg
  apply R_asg; rfl; rfl; rfl
  apply dn
  apply x3
  (repeat apply sq)
  apply rg
  apply R_mov; rfl; rfl; rfl
  obtain ⟨r1, hr1, H⟩ := bindS H
  apply Run.op; (apply L_call; ((apply ArgsV.cons; (apply ArgV.val; rfl; rfl)); (apply ArgsV.nil)); (exact m_impl_IsFactorList a0 _ hr1); rfl; rfl; rfl); rfl; rfl
  apply R_not; rfl; rfl; rfl
  apply dn
  apply x3
  (repeat apply sq)
  refine CodeT.cond rfl (fun h => ?_) (fun h => ?_)
  replace H := ifFb (notT h) H
  (repeat apply sq)
  apply rg
  apply R_asg; rfl; rfl; rfl
  apply dn
  apply x3
  apply CodeT.ret
  apply x1
  cases H
  apply x12
  exact RetIs.sc1 rfl
  replace H := ifTb (notF h) H
  (repeat apply sq)
  apply CodeT.skip
  apply x3
  (repeat apply sq)
  apply rg
  apply R_mov; rfl; rfl; rfl
  obtain ⟨r2, hr2, H⟩ := bindS H
  apply Run.op; (apply L_callW; ((apply ArgsV.cons; (apply ArgV.val; rfl; rfl)); (apply ArgsV.nil)); (exact m_impl_NamesOf a0 _ hr2); (exact io1 hio _); rfl); rfl; rfl
  apply R_mov; rfl; rfl; rfl
  obtain ⟨r3, hr3, H⟩ := bindS H
  apply Run.op; (apply L_call; ((apply ArgsV.cons; (apply ArgV.ref; rfl; rfl; (first | exact Nat.le_of_eq (flat_len (fun _ => rfl)) | exact Nat.le_of_ble_eq_true rfl))); (apply ArgsV.cons; (apply ArgV.val; rfl; rfl)); (apply ArgsV.nil)); (exact m_impl_nameIndex r2 a1 _ hr3); rfl; rfl; rfl); rfl; rfl
  apply R_add; rfl; rfl; rfl; rfl; rfl
  apply R_asg; rfl; rfl; rfl
  apply dn
  apply x3
  apply CodeT.ret
  cases H
  apply x12
  exact RetIs.sc1 rfl
theorem m_impl_isNode (a0 : Int) (r : Bool) (H : impl_isNode a0 = some r) : Meets Try.prog 153 [.sc (.int .i64 a0)] (.sc (.bool r)) true := by
  refine Meets.intro2 (N := 9) (rs := #[.tmp 2]) Try.func153 rfl rfl rfl rfl ?_
  intro Γ hio
  unfold impl_isNode at H
  (repeat apply sq)
  apply rg
  apply R_asg; rfl; rfl; rfl
  apply dn
  apply x3
  (repeat apply sq)
  apply rg
  apply R_mov; rfl; rfl; rfl
  apply R_dec; (apply L_geq; rfl; rfl; rfl); rfl
  intro h; replace H := ifT h H
  apply R_mov; rfl; rfl; rfl
  apply R_mov; rfl; rfl; rfl
  apply R_lss; rfl; rfl; rfl; rfl
  apply R_pickT; rfl; rfl; rfl; rfl
  apply R_asg; rfl; rfl; rfl
  apply dn
  apply x3
  apply CodeT.ret
  cases H
  apply x12
  exact RetIs.sc1 rfl
  intro h; replace H := ifF h H
  apply R_mov; rfl; rfl; rfl
  apply Run.skip; rfl
  apply Run.skip; rfl
  apply R_pickF; rfl; rfl; rfl; rfl
  apply R_asg; rfl; rfl; rfl
  apply dn
  apply x3
  apply CodeT.ret
  cases H
  apply x12
  exact RetIs.sc1 rfl
theorem m_impl_natOfUint (a0 : Int) (r : (List Int)) (H : impl_natOfUint a0 = some r) : Meets Try.prog 195 [.sc (.int .u64 a0)] (.rw 1 r.length (r.flatMap (encI .i64))) true := by
  refine Meets.intro2 (N := 16) (rs := #[.tmp 2]) Try.func195 rfl rfl rfl rfl ?_
  intro Γ hio
  unfold impl_natOfUint at H
  (repeat apply sq)
  apply rg
  apply R_asg; rfl; rfl; rfl
  apply dn
  apply x3
  (repeat apply sq)
  apply rg
  apply Run.op; (apply L_bs0; (exact io1 hio _); rfl); rfl; rfl
  apply R_asg; rfl; rfl; rfl
  apply dn
  apply x3
  (repeat apply sq)
  apply CodeT.block
  (repeat apply sq)
  obtain ⟨d12, hd12, H⟩ := bindS H
  refine CodeT.lloop (fun s => ⟨[(0, ⟨.sc (.int .u64 s.1), false⟩), (3, ⟨.ref 503 1 0 s.2.length, false⟩)], [(503, some ⟨s.2.flatMap (encI .i64), true, false⟩)]⟩) (fun d e E => XEnv Γ (.exit 0) ⟨[(3, ⟨.ref 503 1 0 d.length, false⟩)], [(503, some ⟨d.flatMap (encI .i64), true, false⟩)]⟩ e E) hd12 ?_ ?_ ?_
  apply el [(503, 4)] (io0 hio _) <;> rfl
  clear H hd12
  rintro ⟨v5, v6⟩ o H
  unfold impl_natOfUint_L1 at H
  (repeat apply sq)
  apply rg
  apply R_mov; rfl; rfl; rfl
  apply R_gtr; rfl; rfl; rfl; rfl
  apply dn
  apply x3
  (repeat apply sq)
  refine CodeT.cond rfl (fun h => ?_) (fun h => ?_)
  replace H := ifT (of_decide_eq_true h) H
  (repeat apply sq)
  apply CodeT.skip
  apply x3
  apply CodeT.block
  (repeat apply sq)
  apply rg
  apply R_mov; rfl; rfl; rfl
  apply R_mov; rfl; rfl; rfl
  apply Run.op; (apply L_rem; rfl; rfl; (intro h; cases h); rfl; rfl); rfl; rfl
  obtain ⟨v7, hv7, H⟩ := bindS H
  apply Run.op; (apply L_conv; rfl; (exact letS hv7); rfl); rfl; rfl
  apply Run.op; (apply L_bs1; rfl; rfl; rfl; rfl; rfl; rfl; rfl; rfl); rfl; rfl
  obtain ⟨_u, ha8, H⟩ := bindS H
  obtain ⟨v9, hv9, H⟩ := bindS H
  apply Run.op; (apply L_app true; rfl; rfl; rfl; (exact flat_len (l := v6) (enc := (encI .i64)) (fun _ => rfl)); rfl; (exact chkS ha8); (exact app63 (by decide) (chkS ha8)); (exact ⟨io1 hio _, io1 hio _⟩); (intro _; rfl); (exact flat_snocL (l := v6) (y := v7) (enc := (encI .i64)) hv9); rfl); rfl; rfl
  apply R_asg; rfl; rfl; rfl
  apply dn
  apply x3
  apply rg
  apply R_mov; rfl; rfl; rfl
  obtain ⟨v10, hv10, H⟩ := bindS H
  apply Run.op; (apply L_quo; rfl; rfl; (intro h; cases h); (exact letS hv10); rfl); rfl; rfl
  apply R_asg; rfl; rfl; rfl
  apply dn
  apply x5
  obtain rfl := Option.some.inj H
  refine Ev.y1 ?_
  apply el [(503, 12)] (io0 hio _) <;> rfl
  replace H := ifF (of_decide_eq_false h) H
  (repeat apply sq)
  apply CodeT.exit
  apply x2
  obtain rfl := Option.some.inj H
  refine Ev.y3 ?_
  refine XEnv.mk ?_
  apply el [] (io0 hio _) <;> rfl
  skip
  intro e E' hX; obtain ⟨rfl, g13⟩ := XEnv.out hX
  refine x6 rfl ?_
  apply x3
  refine CodeT.weak g13 ?_
  (repeat apply sq)
  apply rg
  apply R_mov; rfl; rfl; rfl
  apply R_asg; rfl; rfl; rfl
  apply dn
  apply x3
  apply CodeT.ret
  cases H
  apply x12
  exact RetIs.rW rfl rfl rfl (io1 hio _)
theorem m_impl_bigMake (a0 : Bool) (a1 : (List Int)) (r : BigInt) (H : impl_bigMake a0 a1 = some r) : Meets Try.prog 194 [.sc (.bool a0), .sl a1.length (a1.flatMap (encI .i64))] (.agg (encBigInt r)) false := by
  refine Meets.intro2 (N := 17) (rs := #[.cell 4 79]) Try.func194 rfl rfl rfl rfl ?_
  intro Γ hio
  unfold impl_bigMake at H
  (repeat apply sq)
  apply rg
  apply Run.op; (apply L_alloc false; (exact io1 hio _); rfl); rfl; rfl
  apply dn
  apply x3
  (repeat apply sq)
  obtain ⟨d2, hd2, H⟩ := bindS H
  refine CodeT.lcut (x := d2) (fun d e E => XEnv Γ .normal ⟨[(0, ⟨.sc (.bool a0), false⟩), (1, ⟨.sl a1.length (a1.flatMap (encI .i64)), false⟩), (4, ⟨.ptr 4 0, false⟩), (12, ⟨.sc (.bool d), false⟩)], [(4, some ⟨[.sc (.bool false), .sc (.slice none 0 0)], true, false⟩)]⟩ e E) ?_ ?_
  clear H; have H := hd2; clear hd2
  apply rg
  apply R_mov; rfl; rfl; rfl
  apply R_len; rfl; rfl; rfl
  apply R_dec; (apply L_eql; rfl; rfl; rfl); rfl
  intro h; replace H := ifT h H
  apply R_mov; rfl; rfl; rfl
  apply Run.skip; rfl
  apply Run.skip; rfl
  apply Run.skip; rfl
  apply R_pickT; rfl; rfl; rfl; rfl
  apply dn
  obtain rfl := Option.some.inj H
  refine Ev.y4 ?_
  refine XEnv.mk ?_
  apply el [] (io0 hio _) <;> rfl
  intro h; replace H := ifF h H
  apply R_mov; rfl; rfl; rfl
  apply R_mov; rfl; rfl; rfl
  apply R_len; rfl; rfl; rfl
  apply R_gtr; rfl; rfl; rfl; rfl
  apply R_pickF; rfl; rfl; rfl; rfl
  apply dn
  obtain rfl := Option.some.inj H
  refine Ev.y4 ?_
  refine XEnv.mk ?_
  apply el [] (io0 hio _) <;> rfl
  intro e E' hX; obtain ⟨rfl, g3⟩ := XEnv.out hX
  apply x3
  refine CodeT.weak g3 ?_
  (repeat apply sq)
  refine CodeT.cond rfl (fun h => ?_) (fun h => ?_)
  replace H := ifTb h H
  (repeat apply sq)
  apply rg
  apply Run.op; (apply L_buildC true; (apply BuildV.nil); rfl; rfl); rfl; rfl
  apply Run.op; (apply L_st (cells' := [.sc (.bool false), .sc (.slice none 0 0)]); rfl; rfl; rfl; rfl; rfl; (intro h; cases h); rfl; (first | exact splice_whole rfl | rfl)); rfl; rfl
  apply dn
  apply x3
  apply CodeT.ret
  apply x1
  cases H
  apply x12
  refine RetIs.weak (Ent.cells (l := 4) (cells' := encBigInt (BigInt.mk false ([]))) rfl (LeL.same (LeL.nl LeL.nil)) (by intro h; cases h)) ?_
  exact RetIs.c0 rfl rfl rfl (by intro h; cases h)
  replace H := ifFb h H
  (repeat apply sq)
  apply CodeT.skip
  apply x3
  (repeat apply sq)
  apply rg
  apply R_mov; rfl; rfl; rfl
  apply R_mov; rfl; rfl; rfl
  apply Run.op; (apply L_buildC false; (apply BuildV.sc; rfl; rfl; rfl; rfl; rfl; rfl; rfl; apply BuildV.sh; rfl; rfl; rfl; rfl; rfl; rfl; rfl; apply BuildV.nil); rfl; rfl); rfl; rfl
  apply Run.op; (apply L_st (cells' := [.sc (.bool a0), .sl a1.length (a1.flatMap (encI .i64))]); rfl; rfl; rfl; rfl; rfl; (intro h; cases h); rfl; (first | exact splice_whole rfl | rfl)); rfl; rfl
  apply dn
  apply x3
  apply CodeT.ret
  cases H
  apply x12
  exact RetIs.c0 rfl rfl rfl (by intro h; cases h)
theorem md_impl_bigMake (a0 : Bool) (a1 : (List Int)) (r : BigInt) (H : impl_bigMake a0 a1 = some r) : MeetsD Try.prog 194 [(.sc (.bool a0), false), (.rw 1 a1.length (a1.flatMap (encI .i64)), true)] (.agg (encWBigInt r)) := by
  refine MeetsD.intro (N := 17) (rs := #[.cell 4 79]) Try.func194 rfl rfl rfl rfl ?_
  intro Γ hio
  unfold impl_bigMake at H
  (repeat apply sq)
  apply rg
  apply Run.op; (apply L_alloc false; (exact io1 hio _); rfl); rfl; rfl
  apply dn
  apply x3
  (repeat apply sq)
  obtain ⟨d2, hd2, H⟩ := bindS H
  refine CodeT.lcut (x := d2) (fun d e E => XEnv Γ .normal ⟨[(0, ⟨.sc (.bool a0), false⟩), (1, ⟨.rw 1 a1.length (a1.flatMap (encI .i64)), true⟩), (4, ⟨.ptr 4 0, false⟩), (12, ⟨.sc (.bool d), false⟩)], [(4, some ⟨[.sc (.bool false), .sc (.slice none 0 0)], true, false⟩)]⟩ e E) ?_ ?_
  clear H; have H := hd2; clear hd2
  apply rg
  apply Run.op; (apply Local.soft (Soft.rw (SoftL.refl _)); apply L_mov; rfl; rfl); rfl; rfl
  apply R_len; rfl; rfl; rfl
  apply R_dec; (apply L_eql; rfl; rfl; rfl); rfl
  intro h; replace H := ifT h H
  apply R_mov; rfl; rfl; rfl
  apply Run.skip; rfl
  apply Run.skip; rfl
  apply Run.skip; rfl
  apply R_pickT; rfl; rfl; rfl; rfl
  apply dn
  obtain rfl := Option.some.inj H
  refine Ev.y4 ?_
  refine XEnv.mk ?_
  apply el [] (io0 hio _) <;> rfl
  intro h; replace H := ifF h H
  apply R_mov; rfl; rfl; rfl
  apply Run.op; (apply Local.soft (Soft.rw (SoftL.refl _)); apply L_mov; rfl; rfl); rfl; rfl
  apply R_len; rfl; rfl; rfl
  apply R_gtr; rfl; rfl; rfl; rfl
  apply R_pickF; rfl; rfl; rfl; rfl
  apply dn
  obtain rfl := Option.some.inj H
  refine Ev.y4 ?_
  refine XEnv.mk ?_
  apply el [] (io0 hio _) <;> rfl
  intro e E' hX; obtain ⟨rfl, g3⟩ := XEnv.out hX
  apply x3
  refine CodeT.weak g3 ?_
  (repeat apply sq)
  refine CodeT.cond rfl (fun h => ?_) (fun h => ?_)
  replace H := ifTb h H
  (repeat apply sq)
  apply rg
  apply Run.op; (apply L_buildC true; (apply BuildV.nil); rfl; rfl); rfl; rfl
  apply Run.op; (apply L_st (cells' := [.sc (.bool false), .sc (.slice none 0 0)]); rfl; rfl; rfl; rfl; rfl; (intro h; cases h); rfl; (first | exact splice_whole rfl | rfl)); rfl; rfl
  apply dn
  apply x3
  apply CodeT.ret
  apply x1
  cases H
  apply x12
  refine RetIs.weak (Ent.soften (l := 4) (cells' := encWBigInt (BigInt.mk false ([]))) rfl (SoftL.cons (Soft.refl _) (SoftL.cons Soft.nilW SoftL.nil))) ?_
  exact RetIs.c1 rfl rfl rfl rfl (by intro h; cases h)
  replace H := ifFb h H
  (repeat apply sq)
  apply CodeT.skip
  apply x3
  (repeat apply sq)
  apply rg
  apply R_mov; rfl; rfl; rfl
  apply R_movT; rfl; rfl; rfl; rfl
  apply Run.op; (apply L_buildC true; (apply BuildV.sc; rfl; rfl; rfl; rfl; rfl; rfl; rfl; apply BuildV.tk (ks := []); rfl; rfl; rfl; rfl; rfl; rfl; rfl; apply BuildV.nil); rfl; rfl); rfl; rfl
  apply Run.op; (apply L_stT (cells' := [.sc (.bool a0), .rw 1 a1.length (a1.flatMap (encI .i64))]); rfl; rfl; rfl; rfl; rfl; rfl; (intro h; cases h); rfl; (first | exact splice_whole rfl | rfl)); rfl; rfl
  apply dn
  apply x3
  apply CodeT.ret
  cases H
  apply x12
  exact RetIs.c1 rfl rfl rfl rfl (by intro h; cases h)
theorem m_impl_BigIntOf (a0 : Int) (r : BigInt) (H : impl_BigIntOf a0 = some r) : Meets Try.prog 174 [.sc (.int .i64 a0)] (.agg (encWBigInt r)) true := by
  refine Meets.intro2 (N := 16) (rs := #[.cell 2 79]) Try.func174 rfl rfl rfl rfl ?_
  intro Γ hio
  unfold impl_BigIntOf at H
  (repeat apply sq)
  apply rg
  apply Run.op; (apply L_alloc false; (exact io1 hio _); rfl); rfl; rfl
  apply dn
  apply x3
  (repeat apply sq)
  apply rg
  apply R_mov; rfl; rfl; rfl
  apply R_lss; rfl; rfl; rfl; rfl
  apply dn
  apply x3
  (repeat apply sq)
  refine CodeT.cond rfl (fun h => ?_) (fun h => ?_)
  replace H := ifT (of_decide_eq_true h) H
  (repeat apply sq)
  apply rg
  apply R_mov; rfl; rfl; rfl
  apply R_add; rfl; rfl; rfl; rfl; rfl
  obtain ⟨v1, hv1, H⟩ := bindS H
  apply Run.op; (apply L_neg; rfl; (exact letS hv1); rfl); rfl; rfl
  apply Run.op; (apply L_conv; rfl; rfl; rfl); rfl; rfl
  obtain ⟨v2, hv2, H⟩ := bindS H
  apply R_add; rfl; rfl; (exact letS hv2); rfl; rfl
  obtain ⟨r3, hr3, H⟩ := bindS H
  apply Run.op; (apply L_call; ((apply ArgsV.cons; (apply ArgV.val; rfl; rfl)); (apply ArgsV.nil)); (exact m_impl_natOfUint v2 _ hr3); rfl; rfl; rfl); rfl; rfl
  obtain ⟨r4, hr4, H⟩ := bindS H
  apply Run.op; (apply L_callD2; rfl; rfl; rfl; rfl; rfl; (exact md_impl_bigMake true r3 _ hr4); rfl; rfl); rfl; rfl
  apply Run.op; (apply L_stT (cells' := (encWBigInt r4)); rfl; rfl; rfl; rfl; rfl; rfl; (intro h; cases h); rfl; (first | exact splice_whole rfl | rfl)); rfl; rfl
  apply dn
  apply x3
  apply CodeT.ret
  apply x1
  cases H
  apply x12
  exact RetIs.c1 rfl rfl rfl rfl (by intro h; cases h)
  replace H := ifF (of_decide_eq_false h) H
  (repeat apply sq)
  apply CodeT.skip
  apply x3
  (repeat apply sq)
  apply rg
  apply R_mov; rfl; rfl; rfl
  apply Run.op; (apply L_conv; rfl; rfl; rfl); rfl; rfl
  obtain ⟨r5, hr5, H⟩ := bindS H
  apply Run.op; (apply L_call; ((apply ArgsV.cons; (apply ArgV.val; rfl; rfl)); (apply ArgsV.nil)); (exact m_impl_natOfUint (IntKind.u64.wrap a0) _ hr5); rfl; rfl; rfl); rfl; rfl
  obtain ⟨r6, hr6, H⟩ := bindS H
  apply Run.op; (apply L_callD2; rfl; rfl; rfl; rfl; rfl; (exact md_impl_bigMake false r5 _ hr6); rfl; rfl); rfl; rfl
  apply Run.op; (apply L_stT (cells' := (encWBigInt r6)); rfl; rfl; rfl; rfl; rfl; rfl; (intro h; cases h); rfl; (first | exact splice_whole rfl | rfl)); rfl; rfl
  apply dn
  apply x3
  apply CodeT.ret
  cases H
  apply x12
  exact RetIs.c1 rfl rfl rfl rfl (by intro h; cases h)
theorem m_impl_RatFromInt (a0 : Int) (r : Rat) (H : impl_RatFromInt a0 = some r) : Meets Try.prog 155 [.sc (.int .i64 a0)] (.agg (encWRat r)) true := by
  refine Meets.intro2 (N := 7) (rs := #[.cell 2 81]) Try.func155 rfl rfl rfl rfl ?_
  intro Γ hio
  unfold impl_RatFromInt at H
  (repeat apply sq)
  apply rg
  apply Run.op; (apply L_alloc false; (exact io1 hio _); rfl); rfl; rfl
  apply dn
  apply x3
  (repeat apply sq)
  apply rg
  apply R_mov; rfl; rfl; rfl
  obtain ⟨r1, hr1, H⟩ := bindS H
  apply Run.op; (apply L_call; ((apply ArgsV.cons; (apply ArgV.val; rfl; rfl)); (apply ArgsV.nil)); (exact m_impl_BigIntOf a0 _ hr1); rfl; rfl; rfl); rfl; rfl
  apply Run.op; (apply Local.frz 5; apply L_bsR; rfl; rfl; rfl; rfl; (exact io1 hio _); rfl; rfl; rfl; (exact io1 hio _); rfl); rfl; rfl
  apply Run.op; (apply L_buildC true; (apply BuildV.tk (ks := [5]); rfl; rfl; rfl; rfl; rfl; rfl; rfl; apply BuildV.tk (ks := []); rfl; rfl; rfl; rfl; rfl; rfl; rfl; apply BuildV.nil); rfl; rfl); rfl; rfl
  apply Run.op; (apply L_stT (cells' := [.sc (.bool r1.fNeg), .rw 1 r1.fMag.length (r1.fMag.flatMap (encI .i64)), .rw 1 ([1]).length (([1]).flatMap (encI .i64))]); rfl; rfl; rfl; rfl; rfl; rfl; (intro h; cases h); rfl; (first | exact splice_whole rfl | rfl)); rfl; rfl
  apply dn
  apply x3
  apply CodeT.ret
  cases H
  apply x12
  exact RetIs.c1 rfl rfl rfl rfl (by intro h; cases h)
theorem m_impl_NewLink (a0 : Int) (a1 : Int) (a2 : Int) (a3 : Int) (a4 : Int) (r : (Link × Bool)) (H : impl_NewLink a0 a1 a2 a3 a4 = some r) : Meets Try.prog 114 [.sc (.int .i64 a0), .sc (.int .i64 a1), .sc (.int .i64 a2), .sc (.int .i64 a3), .sc (.int .i64 a4)] (.tup [.agg (encWLink r.1), .sc (.bool r.2)]) true := by
  refine Meets.intro2 (N := 61) (rs := #[.cell 10 83, .tmp 11]) Try.func114 rfl rfl rfl rfl ?_
  intro Γ hio
  unfold impl_NewLink at H
  (repeat apply sq)
  apply rg
  apply Run.op; (apply L_alloc false; (exact io1 hio _); rfl); rfl; rfl
  apply R_asg; rfl; rfl; rfl
  apply dn
  apply x3
  (repeat apply sq)
  obtain ⟨d4, hd4, H⟩ := bindS H
  refine CodeT.lcut (x := d4) (fun d e E => XEnv Γ .normal ⟨[(0, ⟨.sc (.int .i64 a0), false⟩), (1, ⟨.sc (.int .i64 a1), false⟩), (2, ⟨.sc (.int .i64 a2), false⟩), (3, ⟨.sc (.int .i64 a3), false⟩), (4, ⟨.sc (.int .i64 a4), false⟩), (10, ⟨.ptr 10 0, false⟩), (32, ⟨.sc (.bool d), false⟩)], [(10, some ⟨[.sc (.int .i64 0), .sc (.int .i64 0), .sc (.bool false), .sc (.slice none 0 0), .sc (.slice none 0 0), .sc (.bool false), .sc (.slice none 0 0), .sc (.slice none 0 0), .sc (.bool false), .sc (.slice none 0 0), .sc (.slice none 0 0)], true, false⟩)]⟩ e E) ?_ ?_
  clear H; have H := hd4; clear hd4
  apply rg
  apply R_mov; rfl; rfl; rfl
  obtain ⟨r1, hr1, H⟩ := bindS H
  apply R_bool; (apply L_call; ((apply ArgsV.cons; (apply ArgV.val; rfl; rfl)); (apply ArgsV.nil)); (exact m_impl_isNode a0 _ hr1); rfl; rfl; rfl); rfl
  intro h; replace H := ifTb h H
  apply R_not; rfl; rfl; rfl
  apply R_mov; rfl; rfl; rfl
  apply R_mov; rfl; rfl; rfl
  obtain ⟨r2, hr2, H⟩ := bindS H
  apply R_bool; (apply L_call; ((apply ArgsV.cons; (apply ArgV.val; rfl; rfl)); (apply ArgsV.nil)); (exact m_impl_isNode a1 _ hr2); rfl; rfl; rfl); rfl
  intro h; replace H := ifTb h H
  apply R_not; rfl; rfl; rfl
  apply R_pickF; rfl; rfl; rfl; rfl
  apply R_mov; rfl; rfl; rfl
  apply R_mov; rfl; rfl; rfl
  apply R_mov; rfl; rfl; rfl
  apply R_dec; (apply L_eql; rfl; rfl; rfl); rfl
  intro h; replace H := ifT h H
  apply R_pickF; rfl; rfl; rfl; rfl
  apply R_mov; rfl; rfl; rfl
  apply Run.skip; rfl
  apply Run.skip; rfl
  apply R_pickT; rfl; rfl; rfl; rfl
  apply R_mov; rfl; rfl; rfl
  apply Run.skip; rfl
  apply Run.skip; rfl
  apply R_pickT; rfl; rfl; rfl; rfl
  apply dn
  obtain rfl := Option.some.inj H
  refine Ev.y4 ?_
  refine XEnv.mk ?_
  apply el [] (io0 hio _) <;> rfl
  intro h; replace H := ifF h H
  apply R_pickF; rfl; rfl; rfl; rfl
  apply R_mov; rfl; rfl; rfl
  apply R_mov; rfl; rfl; rfl
  apply R_dec; (apply L_lss; rfl; rfl; rfl); rfl
  intro h; replace H := ifT h H
  apply R_pickF; rfl; rfl; rfl; rfl
  apply R_mov; rfl; rfl; rfl
  apply Run.skip; rfl
  apply Run.skip; rfl
  apply R_pickT; rfl; rfl; rfl; rfl
  apply dn
  obtain rfl := Option.some.inj H
  refine Ev.y4 ?_
  refine XEnv.mk ?_
  apply el [] (io0 hio _) <;> rfl
  intro h; replace H := ifF h H
  apply R_pickF; rfl; rfl; rfl; rfl
  apply R_mov; rfl; rfl; rfl
  apply R_mov; rfl; rfl; rfl
  apply R_gtr; rfl; rfl; rfl; rfl
  apply R_pickF; rfl; rfl; rfl; rfl
  apply dn
  obtain rfl := Option.some.inj H
  refine Ev.y4 ?_
  refine XEnv.mk ?_
  apply el [] (io0 hio _) <;> rfl
  intro h; replace H := ifFb h H
  apply R_not; rfl; rfl; rfl
  apply R_pickF; rfl; rfl; rfl; rfl
  apply R_mov; rfl; rfl; rfl
  apply Run.skip; rfl
  apply Run.skip; rfl
  apply Run.skip; rfl
  apply R_pickT; rfl; rfl; rfl; rfl
  apply R_mov; rfl; rfl; rfl
  apply Run.skip; rfl
  apply Run.skip; rfl
  apply R_pickT; rfl; rfl; rfl; rfl
  apply R_mov; rfl; rfl; rfl
  apply Run.skip; rfl
  apply Run.skip; rfl
  apply R_pickT; rfl; rfl; rfl; rfl
  apply dn
  obtain rfl := Option.some.inj H
  refine Ev.y4 ?_
  refine XEnv.mk ?_
  apply el [] (io0 hio _) <;> rfl
  intro h; replace H := ifFb h H
  apply R_not; rfl; rfl; rfl
  apply R_mov; rfl; rfl; rfl
  apply Run.skip; rfl
  apply Run.skip; rfl
  apply Run.skip; rfl
  apply R_pickT; rfl; rfl; rfl; rfl
  apply R_mov; rfl; rfl; rfl
  apply Run.skip; rfl
  apply Run.skip; rfl
  apply Run.skip; rfl
  apply R_pickT; rfl; rfl; rfl; rfl
  apply R_mov; rfl; rfl; rfl
  apply Run.skip; rfl
  apply Run.skip; rfl
  apply R_pickT; rfl; rfl; rfl; rfl
  apply R_mov; rfl; rfl; rfl
  apply Run.skip; rfl
  apply Run.skip; rfl
  apply R_pickT; rfl; rfl; rfl; rfl
  apply dn
  obtain rfl := Option.some.inj H
  refine Ev.y4 ?_
  refine XEnv.mk ?_
  apply el [] (io0 hio _) <;> rfl
  intro e E' hX; obtain ⟨rfl, g5⟩ := XEnv.out hX
  apply x3
  refine CodeT.weak g5 ?_
  (repeat apply sq)
  refine CodeT.cond rfl (fun h => ?_) (fun h => ?_)
  replace H := ifTb h H
  (repeat apply sq)
  apply rg
  apply Run.op; (apply L_buildC true; (apply BuildV.nil); rfl; rfl); rfl; rfl
  apply Run.op; (apply L_st (cells' := [.sc (.int .i64 0), .sc (.int .i64 0), .sc (.bool false), .sc (.slice none 0 0), .sc (.slice none 0 0), .sc (.bool false), .sc (.slice none 0 0), .sc (.slice none 0 0), .sc (.bool false), .sc (.slice none 0 0), .sc (.slice none 0 0)]); rfl; rfl; rfl; rfl; rfl; (intro h; cases h); rfl; (first | exact splice_whole rfl | rfl)); rfl; rfl
  apply R_asg; rfl; rfl; rfl
  apply dn
  apply x3
  apply CodeT.ret
  apply x1
  cases H
  apply x12
  refine RetIs.weak (Ent.soften (l := 10) (cells' := encWLink (Link.mk 0 0 (Rat.mk (BigInt.mk false ([])) ([])) (Rat.mk (BigInt.mk false ([])) ([])) (Rat.mk (BigInt.mk false ([])) ([])))) rfl (SoftL.cons (Soft.refl _) (SoftL.cons (Soft.refl _) (SoftL.cons (Soft.refl _) (SoftL.cons Soft.nilW (SoftL.cons Soft.nilW (SoftL.cons (Soft.refl _) (SoftL.cons Soft.nilW (SoftL.cons Soft.nilW (SoftL.cons (Soft.refl _) (SoftL.cons Soft.nilW (SoftL.cons Soft.nilW SoftL.nil)))))))))))) ?_
  exact RetIs.many (.inl rfl) (ResL.cons (Res1.cell rfl rfl rfl (by intro h; cases h)) (ResL.cons (Res1.sc rfl) ResL.nil)) (fun h => by first | rfl | cases h)
  replace H := ifFb h H
  (repeat apply sq)
  apply CodeT.skip
  apply x3
  (repeat apply sq)
  obtain ⟨d9, hd9, H⟩ := bindS H
  refine CodeT.lcut (x := d9) (fun d e E => XEnv Γ .normal ⟨[(0, ⟨.sc (.int .i64 a0), false⟩), (1, ⟨.sc (.int .i64 a1), false⟩), (2, ⟨.sc (.int .i64 a2), false⟩), (3, ⟨.sc (.int .i64 a3), false⟩), (4, ⟨.sc (.int .i64 a4), false⟩), (10, ⟨.ptr 10 0, false⟩), (41, ⟨.sc (.bool d), false⟩)], [(10, some ⟨[.sc (.int .i64 0), .sc (.int .i64 0), .sc (.bool false), .sc (.slice none 0 0), .sc (.slice none 0 0), .sc (.bool false), .sc (.slice none 0 0), .sc (.slice none 0 0), .sc (.bool false), .sc (.slice none 0 0), .sc (.slice none 0 0)], true, false⟩)]⟩ e E) ?_ ?_
  clear H; have H := hd9; clear hd9
  apply rg
  apply R_mov; rfl; rfl; rfl
  obtain ⟨r6, hr6, H⟩ := bindS H
  apply R_bool; (apply L_call; ((apply ArgsV.cons; (apply ArgV.val; rfl; rfl)); (apply ArgsV.nil)); (exact m_impl_inRange a3 _ hr6); rfl; rfl; rfl); rfl
  intro h; replace H := ifTb h H
  apply R_not; rfl; rfl; rfl
  apply R_mov; rfl; rfl; rfl
  apply R_mov; rfl; rfl; rfl
  obtain ⟨r7, hr7, H⟩ := bindS H
  apply Run.op; (apply L_call; ((apply ArgsV.cons; (apply ArgV.val; rfl; rfl)); (apply ArgsV.nil)); (exact m_impl_inRange a4 _ hr7); rfl; rfl; rfl); rfl; rfl
  apply R_not; rfl; rfl; rfl
  apply R_pickF; rfl; rfl; rfl; rfl
  apply dn
  obtain rfl := Option.some.inj H
  refine Ev.y4 ?_
  refine XEnv.mk ?_
  apply el [] (io0 hio _) <;> rfl
  intro h; replace H := ifFb h H
  apply R_not; rfl; rfl; rfl
  apply R_mov; rfl; rfl; rfl
  apply Run.skip; rfl
  apply Run.skip; rfl
  apply Run.skip; rfl
  apply R_pickT; rfl; rfl; rfl; rfl
  apply dn
  obtain rfl := Option.some.inj H
  refine Ev.y4 ?_
  refine XEnv.mk ?_
  apply el [] (io0 hio _) <;> rfl
  intro e E' hX; obtain ⟨rfl, g10⟩ := XEnv.out hX
  apply x3
  refine CodeT.weak g10 ?_
  (repeat apply sq)
  refine CodeT.cond rfl (fun h => ?_) (fun h => ?_)
  replace H := ifTb h H
  (repeat apply sq)
  apply rg
  apply Run.op; (apply L_buildC true; (apply BuildV.nil); rfl; rfl); rfl; rfl
  apply Run.op; (apply L_st (cells' := [.sc (.int .i64 0), .sc (.int .i64 0), .sc (.bool false), .sc (.slice none 0 0), .sc (.slice none 0 0), .sc (.bool false), .sc (.slice none 0 0), .sc (.slice none 0 0), .sc (.bool false), .sc (.slice none 0 0), .sc (.slice none 0 0)]); rfl; rfl; rfl; rfl; rfl; (intro h; cases h); rfl; (first | exact splice_whole rfl | rfl)); rfl; rfl
  apply R_asg; rfl; rfl; rfl
  apply dn
  apply x3
  apply CodeT.ret
  apply x1
  cases H
  apply x12
  refine RetIs.weak (Ent.soften (l := 10) (cells' := encWLink (Link.mk 0 0 (Rat.mk (BigInt.mk false ([])) ([])) (Rat.mk (BigInt.mk false ([])) ([])) (Rat.mk (BigInt.mk false ([])) ([])))) rfl (SoftL.cons (Soft.refl _) (SoftL.cons (Soft.refl _) (SoftL.cons (Soft.refl _) (SoftL.cons Soft.nilW (SoftL.cons Soft.nilW (SoftL.cons (Soft.refl _) (SoftL.cons Soft.nilW (SoftL.cons Soft.nilW (SoftL.cons (Soft.refl _) (SoftL.cons Soft.nilW (SoftL.cons Soft.nilW SoftL.nil)))))))))))) ?_
  exact RetIs.many (.inl rfl) (ResL.cons (Res1.cell rfl rfl rfl (by intro h; cases h)) (ResL.cons (Res1.sc rfl) ResL.nil)) (fun h => by first | rfl | cases h)
  replace H := ifFb h H
  (repeat apply sq)
  apply CodeT.skip
  apply x3
  (repeat apply sq)
  apply rg
  apply R_mov; rfl; rfl; rfl
  apply R_mov; rfl; rfl; rfl
  apply R_gtr; rfl; rfl; rfl; rfl
  apply dn
  apply x3
  (repeat apply sq)
  obtain ⟨d12, hd12, H⟩ := bindS H
  refine CodeT.lcut (x := d12) (fun d e E => XEnv Γ .normal ⟨[(0, ⟨.sc (.int .i64 d.1), false⟩), (1, ⟨.sc (.int .i64 d.2.1), false⟩), (2, ⟨.sc (.int .i64 a2), false⟩), (3, ⟨.sc (.int .i64 d.2.2.1), false⟩), (4, ⟨.sc (.int .i64 d.2.2.2), false⟩), (10, ⟨.ptr 10 0, false⟩)], [(10, some ⟨[.sc (.int .i64 0), .sc (.int .i64 0), .sc (.bool false), .sc (.slice none 0 0), .sc (.slice none 0 0), .sc (.bool false), .sc (.slice none 0 0), .sc (.slice none 0 0), .sc (.bool false), .sc (.slice none 0 0), .sc (.slice none 0 0)], true, false⟩)]⟩ e E) ?_ ?_
  clear H; have H := hd12; clear hd12
  refine CodeT.cond rfl (fun h => ?_) (fun h => ?_)
  replace H := ifT (of_decide_eq_true h) H
  (repeat apply sq)
  apply rg
  apply R_mov; rfl; rfl; rfl
  apply R_mov; rfl; rfl; rfl
  apply R_mov; rfl; rfl; rfl
  apply Run.op; (apply L_neg; rfl; rfl; rfl); rfl; rfl
  apply R_mov; rfl; rfl; rfl
  apply Run.op; (apply L_neg; rfl; rfl; rfl); rfl; rfl
  apply R_asg; rfl; rfl; rfl
  apply R_asg; rfl; rfl; rfl
  apply R_asg; rfl; rfl; rfl
  apply R_asg; rfl; rfl; rfl
  apply dn
  obtain rfl := Option.some.inj H
  refine Ev.y4 ?_
  refine XEnv.mk ?_
  apply el [] (io0 hio _) <;> rfl
  replace H := ifF (of_decide_eq_false h) H
  (repeat apply sq)
  apply CodeT.skip
  obtain rfl := Option.some.inj H
  refine Ev.y4 ?_
  refine XEnv.mk ?_
  apply el [] (io0 hio _) <;> rfl
  intro e E' hX; obtain ⟨rfl, g13⟩ := XEnv.out hX
  apply x3
  refine CodeT.weak g13 ?_
  (repeat apply sq)
  apply rg
  apply R_mov; rfl; rfl; rfl
  apply R_mov; rfl; rfl; rfl
  apply R_mov; rfl; rfl; rfl
  obtain ⟨r14, hr14, H⟩ := bindS H
  apply Run.op; (apply L_call; ((apply ArgsV.cons; (apply ArgV.val; rfl; rfl)); (apply ArgsV.nil)); (exact m_impl_RatFromInt a2 _ hr14); rfl; rfl; rfl); rfl; rfl
  apply R_mov; rfl; rfl; rfl
  obtain ⟨r15, hr15, H⟩ := bindS H
  apply Run.op; (apply L_call; ((apply ArgsV.cons; (apply ArgV.val; rfl; rfl)); (apply ArgsV.nil)); (exact m_impl_RatFromInt d12.2.2.1 _ hr15); rfl; rfl; rfl); rfl; rfl
  apply R_mov; rfl; rfl; rfl
  obtain ⟨r16, hr16, H⟩ := bindS H
  apply Run.op; (apply L_call; ((apply ArgsV.cons; (apply ArgV.val; rfl; rfl)); (apply ArgsV.nil)); (exact m_impl_RatFromInt d12.2.2.2 _ hr16); rfl; rfl; rfl); rfl; rfl
  apply Run.op; (apply L_buildC true; (apply BuildV.sc; rfl; rfl; rfl; rfl; rfl; rfl; rfl; apply BuildV.sc; rfl; rfl; rfl; rfl; rfl; rfl; rfl; apply BuildV.tk (ks := [57, 59]); rfl; rfl; rfl; rfl; rfl; rfl; rfl; apply BuildV.tk (ks := [59]); rfl; rfl; rfl; rfl; rfl; rfl; rfl; apply BuildV.tk (ks := []); rfl; rfl; rfl; rfl; rfl; rfl; rfl; apply BuildV.nil); rfl; rfl); rfl; rfl
  apply Run.op; (apply L_stT (cells' := [.sc (.int .i64 d12.1), .sc (.int .i64 d12.2.1), .sc (.bool r14.fNum.fNeg), .rw 1 r14.fNum.fMag.length (r14.fNum.fMag.flatMap (encI .i64)), .rw 1 r14.fDen.length (r14.fDen.flatMap (encI .i64)), .sc (.bool r15.fNum.fNeg), .rw 1 r15.fNum.fMag.length (r15.fNum.fMag.flatMap (encI .i64)), .rw 1 r15.fDen.length (r15.fDen.flatMap (encI .i64)), .sc (.bool r16.fNum.fNeg), .rw 1 r16.fNum.fMag.length (r16.fNum.fMag.flatMap (encI .i64)), .rw 1 r16.fDen.length (r16.fDen.flatMap (encI .i64))]); rfl; rfl; rfl; rfl; rfl; rfl; (intro h; cases h); rfl; (first | exact splice_whole rfl | rfl)); rfl; rfl
  apply R_asg; rfl; rfl; rfl
  apply dn
  apply x3
  apply CodeT.ret
  cases H
  apply x12
  exact RetIs.many (.inl rfl) (ResL.cons (Res1.cell rfl rfl rfl (by intro h; cases h)) (ResL.cons (Res1.sc rfl) ResL.nil)) (fun h => by first | rfl | cases h)
theorem m_impl_headingStep (a0 : (List Factor)) (a1 : (List ByteArray)) (a2 : (List Int)) (r : (Bool × (List Int))) (H : impl_headingStep a0 a1 a2 = some r) : MeetsX Try.prog 123 [.sl a0.length (a0.flatMap encFactor), .sl a1.length (a1.flatMap encS), .ref 100002 1 0 a2.length] [⟨100002, a2.flatMap (encI .i64), r.2.flatMap (encI .i64)⟩] (.sc (.bool r.1)) true := by
  have H0 := H; clear H
  obtain ⟨r', H, H2⟩ := bindS H0; clear H0
  obtain ⟨_, hlen, H2⟩ := bindS H2
  obtain rfl := Option.some.inj H2
  have hlen := chkS hlen
  refine MeetsX.intro (N := 101) (rs := #[.tmp 6]) Try.func123 rfl rfl rfl rfl rfl (xo1 (nil_new (sz := 1) hlen (fun _ => rfl) (by decide))) (xo1 (allSc_flat (fun _ => rfl))) ?_
  clear hlen
  intro Γ hio
  unfold impl_headingStep_raw at H
  (repeat apply sq)
  apply rg
  apply R_asg; rfl; rfl; rfl
  apply dn
  apply x3
  (repeat apply sq)
  apply rg
  apply R_mov; rfl; rfl; rfl
  apply R_len; rfl; rfl; rfl
  apply R_mov; rfl; rfl; rfl
  apply dn
  apply x3
  (repeat apply sq)
  apply CodeT.block
  (repeat apply sq)
  obtain ⟨d62, hd62, H⟩ := bindS H
  refine CodeT.lloop (fun s => ⟨[(1, ⟨.sl a1.length (a1.flatMap encS), false⟩), (2, ⟨.ref 100002 1 0 a2.length, false⟩), (11, ⟨.sl a0.length (a0.flatMap encFactor), false⟩), (12, ⟨.sc (.int .i64 (a0.length : Int)), false⟩), (13, ⟨.sc (.int .i64 s), false⟩)], [(100002, some ⟨a2.flatMap (encI .i64), true, false⟩)]⟩) (fun x e E => match x with | (.inl d) => XEnv Γ (.exit 0) ⟨[], [(100002, some ⟨a2.flatMap (encI .i64), true, false⟩)]⟩ e E | (.inr d) => XRetX Γ #[.tmp 6] (.sc (.bool d.1)) true [⟨100002, a2.flatMap (encI .i64), d.2.flatMap (encI .i64)⟩] e E) hd62 ?_ ?_ ?_
  apply el [] (io0 hio _) <;> rfl
  clear H hd62
  rintro v31 o H
  unfold impl_headingStep_L1 at H
  (repeat apply sq)
  apply rg
  apply R_lss; rfl; rfl; rfl; rfl
  apply dn
  apply x3
  (repeat apply sq)
  refine CodeT.cond rfl (fun h => ?_) (fun h => ?_)
  replace H := ifT (of_decide_eq_true h) H
  (repeat apply sq)
  apply CodeT.skip
  apply x3
  (repeat apply sq)
  apply CodeT.block
  (repeat apply sq)
  apply rg
  obtain ⟨y32, hy32, H⟩ := bindS H
  apply Run.op; (apply L_ixS2; rfl; rfl; rfl; (exact hy32); (intro _; rfl); rfl); rfl; rfl
  apply Run.op; (apply L_ldIA; rfl; (first | exact take_whole rfl | rfl); rfl; (intro h; cases h); rfl; rfl); rfl; rfl
  apply Run.op; (apply L_alloc false; (exact io1 hio _); rfl); rfl; rfl
  apply Run.op; (apply L_st (cells' := (encFactor y32)); rfl; rfl; rfl; rfl; rfl; (intro h; cases h); rfl; (first | exact splice_whole rfl | rfl)); rfl; rfl
  apply dn
  apply x3
  (repeat apply sq)
  apply rg
  apply R_mov; rfl; rfl; rfl
  apply R_fldP; rfl; rfl; rfl; rfl; rfl
  apply R_ldP; rfl; rfl; rfl; rfl; rfl; rfl
  obtain ⟨r33, hr33, H⟩ := bindS H
  apply Run.op; (apply L_call; ((apply ArgsV.cons; (apply ArgV.val; rfl; rfl)); (apply ArgsV.cons; (apply ArgV.val; rfl; rfl)); (apply ArgsV.nil)); (exact m_impl_nameIndex a1 y32.fFrom _ hr33); rfl; rfl; rfl); rfl; rfl
  apply R_asg; rfl; rfl; rfl
  apply dn
  apply x3
  (repeat apply sq)
  apply rg
  apply R_mov; rfl; rfl; rfl
  apply R_fldP; rfl; rfl; rfl; rfl; rfl
  apply R_ldP; rfl; rfl; rfl; rfl; rfl; rfl
  obtain ⟨r34, hr34, H⟩ := bindS H
  apply Run.op; (apply L_call; ((apply ArgsV.cons; (apply ArgV.val; rfl; rfl)); (apply ArgsV.cons; (apply ArgV.val; rfl; rfl)); (apply ArgsV.nil)); (exact m_impl_nameIndex a1 y32.fTo _ hr34); rfl; rfl; rfl); rfl; rfl
  apply R_asg; rfl; rfl; rfl
  apply dn
  apply x3
  (repeat apply sq)
  obtain ⟨d37, hd37, H⟩ := bindS H
  refine CodeT.lcut (x := d37) (fun d e E => XEnv Γ .normal ⟨[(1, ⟨.sl a1.length (a1.flatMap encS), false⟩), (2, ⟨.ref 100002 1 0 a2.length, false⟩), (8, ⟨.ptr 8 0, false⟩), (9, ⟨.sc (.int .i64 r33), false⟩), (10, ⟨.sc (.int .i64 r34), false⟩), (11, ⟨.sl a0.length (a0.flatMap encFactor), false⟩), (12, ⟨.sc (.int .i64 (a0.length : Int)), false⟩), (13, ⟨.sc (.int .i64 v31), false⟩), (34, ⟨.sc (.bool d), false⟩)], [(8, some ⟨(encFactor y32), true, false⟩), (100002, some ⟨a2.flatMap (encI .i64), true, false⟩)]⟩ e E) ?_ ?_
  clear H; have H := hd37; clear hd37
  apply rg
  apply R_fldP; rfl; rfl; rfl; rfl; rfl
  apply R_ldP; rfl; rfl; rfl; rfl; rfl; rfl
  apply R_dec; (apply L_eql; rfl; rfl; rfl); rfl
  intro h; replace H := ifT h H
  apply R_mov; rfl; rfl; rfl
  apply R_mov; rfl; rfl; rfl
  apply R_mov; rfl; rfl; rfl
  obtain ⟨y35, hy35, H⟩ := bindS H
  apply Run.op; (apply L_ixR2; rfl; rfl; rfl; (exact hy35); rfl; rfl); rfl; rfl
  apply R_ldP; rfl; rfl; (exact row_ld0 hy35 rfl (fun _ => rfl)); rfl; rfl; rfl
  apply R_lss; rfl; rfl; rfl; rfl
  apply R_pickT; rfl; rfl; rfl; rfl
  apply dn
  obtain rfl := Option.some.inj H
  refine Ev.y4 ?_
  refine XEnv.mk ?_
  apply el [] (io0 hio _) <;> rfl
  intro h; replace H := ifF h H
  apply R_mov; rfl; rfl; rfl
  apply Run.skip; rfl
  apply Run.skip; rfl
  apply Run.skip; rfl
  apply Run.skip; rfl
  apply Run.skip; rfl
  apply R_pickF; rfl; rfl; rfl; rfl
  apply dn
  obtain rfl := Option.some.inj H
  refine Ev.y4 ?_
  refine XEnv.mk ?_
  apply el [] (io0 hio _) <;> rfl
  intro e E' hX; obtain ⟨rfl, g38⟩ := XEnv.out hX
  apply x3
  refine CodeT.weak g38 ?_
  (repeat apply sq)
  refine CodeT.cond rfl (fun h => ?_) (fun h => ?_)
  replace H := ifTb h H
  (repeat apply sq)
  apply rg
  apply R_mov; rfl; rfl; rfl
  apply R_mov; rfl; rfl; rfl
  apply R_fldP; rfl; rfl; rfl; rfl; rfl
  apply R_fldP; rfl; rfl; rfl; rfl; rfl
  apply R_ldP; rfl; rfl; rfl; rfl; rfl; rfl
  obtain ⟨y39, hy39, H⟩ := bindS H
  apply Run.op; (apply L_ixR2; rfl; rfl; rfl; (exact hy39); rfl; rfl); rfl; rfl
  obtain ⟨v40, hv40, H⟩ := bindS H
  have hl41 := setI_lenS hv40
  apply Run.op; (apply L_st; rfl; rfl; rfl; rfl; rfl; (intro h; cases h); (exact row_ble0 (sz := 1) (n := 1) hy39 (fun _ => rfl) (by decide)); (exact row_stL (sz := 1) hv40 hy39 (fun _ => rfl) rfl)); rfl; rfl
  apply dn
  apply x3
  (repeat apply sq)
  apply rg
  apply R_asg; rfl; rfl; rfl
  apply dn
  apply x3
  apply CodeT.ret
  apply x1
  apply x4
  apply x1
  obtain rfl := Option.some.inj H
  refine Ev.y2 ?_
  refine XRetX.mk ?_
  exact RetX.mk (RetIs.sc1 rfl) (xo1 ⟨_, rfl⟩)
  replace H := ifFb h H
  (repeat apply sq)
  apply CodeT.skip
  apply x3
  (repeat apply sq)
  obtain ⟨d45, hd45, H⟩ := bindS H
  refine CodeT.lcut (x := d45) (fun d e E => XEnv Γ .normal ⟨[(1, ⟨.sl a1.length (a1.flatMap encS), false⟩), (2, ⟨.ref 100002 1 0 a2.length, false⟩), (8, ⟨.ptr 8 0, false⟩), (9, ⟨.sc (.int .i64 r33), false⟩), (10, ⟨.sc (.int .i64 r34), false⟩), (11, ⟨.sl a0.length (a0.flatMap encFactor), false⟩), (12, ⟨.sc (.int .i64 (a0.length : Int)), false⟩), (13, ⟨.sc (.int .i64 v31), false⟩), (57, ⟨.sc (.bool d), false⟩)], [(8, some ⟨(encFactor y32), true, false⟩), (100002, some ⟨a2.flatMap (encI .i64), true, false⟩)]⟩ e E) ?_ ?_
  clear H; have H := hd45; clear hd45
  apply rg
  apply R_fldP; rfl; rfl; rfl; rfl; rfl
  apply R_ldP; rfl; rfl; rfl; rfl; rfl; rfl
  apply R_dec; (apply L_eql; rfl; rfl; rfl); rfl
  intro h; replace H := ifT h H
  apply R_mov; rfl; rfl; rfl
  apply R_mov; rfl; rfl; rfl
  apply R_mov; rfl; rfl; rfl
  obtain ⟨y42, hy42, H⟩ := bindS H
  apply Run.op; (apply L_ixR2; rfl; rfl; rfl; (exact hy42); rfl; rfl); rfl; rfl
  apply R_ldP; rfl; rfl; (exact row_ld0 hy42 rfl (fun _ => rfl)); rfl; rfl; rfl
  apply R_dec; (apply L_geq; rfl; rfl; rfl); rfl
  intro h; replace H := ifT h H
  apply R_pickT; rfl; rfl; rfl; rfl
  apply R_mov; rfl; rfl; rfl
  apply R_mov; rfl; rfl; rfl
  apply R_mov; rfl; rfl; rfl
  obtain ⟨y43, hy43, H⟩ := bindS H
  apply Run.op; (apply L_ixR2; rfl; rfl; rfl; (exact hy43); rfl; rfl); rfl; rfl
  apply R_ldP; rfl; rfl; (exact row_ld0 hy43 rfl (fun _ => rfl)); rfl; rfl; rfl
  apply R_lss; rfl; rfl; rfl; rfl
  apply R_pickT; rfl; rfl; rfl; rfl
  apply dn
  obtain rfl := Option.some.inj H
  refine Ev.y4 ?_
  refine XEnv.mk ?_
  apply el [] (io0 hio _) <;> rfl
  intro h; replace H := ifF h H
  apply R_pickT; rfl; rfl; rfl; rfl
  apply R_mov; rfl; rfl; rfl
  apply Run.skip; rfl
  apply Run.skip; rfl
  apply Run.skip; rfl
  apply Run.skip; rfl
  apply Run.skip; rfl
  apply R_pickF; rfl; rfl; rfl; rfl
  apply dn
  obtain rfl := Option.some.inj H
  refine Ev.y4 ?_
  refine XEnv.mk ?_
  apply el [] (io0 hio _) <;> rfl
  intro h; replace H := ifF h H
  apply R_mov; rfl; rfl; rfl
  apply Run.skip; rfl
  apply Run.skip; rfl
  apply Run.skip; rfl
  apply Run.skip; rfl
  apply Run.skip; rfl
  apply R_pickF; rfl; rfl; rfl; rfl
  apply R_mov; rfl; rfl; rfl
  apply Run.skip; rfl
  apply Run.skip; rfl
  apply Run.skip; rfl
  apply Run.skip; rfl
  apply Run.skip; rfl
  apply R_pickF; rfl; rfl; rfl; rfl
  apply dn
  obtain rfl := Option.some.inj H
  refine Ev.y4 ?_
  refine XEnv.mk ?_
  apply el [] (io0 hio _) <;> rfl
  intro e E' hX; obtain ⟨rfl, g46⟩ := XEnv.out hX
  apply x3
  refine CodeT.weak g46 ?_
  (repeat apply sq)
  refine CodeT.cond rfl (fun h => ?_) (fun h => ?_)
  replace H := ifTb h H
  (repeat apply sq)
  apply rg
  apply R_mov; rfl; rfl; rfl
  apply R_mov; rfl; rfl; rfl
  apply R_mov; rfl; rfl; rfl
  apply R_mov; rfl; rfl; rfl
  obtain ⟨y47, hy47, H⟩ := bindS H
  apply Run.op; (apply L_ixR2; rfl; rfl; rfl; (exact hy47); rfl; rfl); rfl; rfl
  apply R_ldP; rfl; rfl; (exact row_ld0 hy47 rfl (fun _ => rfl)); rfl; rfl; rfl
  apply R_fldP; rfl; rfl; rfl; rfl; rfl
  apply R_fldP; rfl; rfl; rfl; rfl; rfl
  apply R_ldP; rfl; rfl; rfl; rfl; rfl; rfl
  obtain ⟨v48, hv48, H⟩ := bindS H
  apply R_add; rfl; rfl; (exact letS hv48); rfl; rfl
  apply Run.op; (apply L_rem; rfl; rfl; (intro h; cases h); rfl; rfl); rfl; rfl
  obtain ⟨y49, hy49, H⟩ := bindS H
  apply Run.op; (apply L_ixR2; rfl; rfl; rfl; (exact hy49); rfl; rfl); rfl; rfl
  obtain ⟨v50, hv50, H⟩ := bindS H
  have hl51 := setI_lenS hv50
  apply Run.op; (apply L_st; rfl; rfl; rfl; rfl; rfl; (intro h; cases h); (exact row_ble0 (sz := 1) (n := 1) hy49 (fun _ => rfl) (by decide)); (exact row_stL (sz := 1) hv50 hy49 (fun _ => rfl) rfl)); rfl; rfl
  apply Run.done; refine ⟨fun _ => ⟨rfl, rfl⟩, ?_⟩
  apply x3
  (repeat apply sq)
  apply rg
  apply R_asg; rfl; rfl; rfl
  apply dn
  apply x3
  apply CodeT.ret
  apply x1
  apply x4
  apply x1
  obtain rfl := Option.some.inj H
  refine Ev.y2 ?_
  refine XRetX.mk ?_
  exact RetX.mk (RetIs.sc1 rfl) (xo1 ⟨_, rfl⟩)
  replace H := ifFb h H
  (repeat apply sq)
  apply CodeT.skip
  apply x3
  (repeat apply sq)
  obtain ⟨d55, hd55, H⟩ := bindS H
  refine CodeT.lcut (x := d55) (fun d e E => XEnv Γ .normal ⟨[(1, ⟨.sl a1.length (a1.flatMap encS), false⟩), (2, ⟨.ref 100002 1 0 a2.length, false⟩), (8, ⟨.ptr 8 0, false⟩), (9, ⟨.sc (.int .i64 r33), false⟩), (10, ⟨.sc (.int .i64 r34), false⟩), (11, ⟨.sl a0.length (a0.flatMap encFactor), false⟩), (12, ⟨.sc (.int .i64 (a0.length : Int)), false⟩), (13, ⟨.sc (.int .i64 v31), false⟩), (86, ⟨.sc (.bool d), false⟩)], [(8, some ⟨(encFactor y32), true, false⟩), (100002, some ⟨a2.flatMap (encI .i64), true, false⟩)]⟩ e E) ?_ ?_
  clear H; have H := hd55; clear hd55
  apply rg
  apply R_fldP; rfl; rfl; rfl; rfl; rfl
  apply R_ldP; rfl; rfl; rfl; rfl; rfl; rfl
  apply R_dec; (apply L_eql; rfl; rfl; rfl); rfl
  intro h; replace H := ifT h H
  apply R_mov; rfl; rfl; rfl
  apply R_mov; rfl; rfl; rfl
  apply R_mov; rfl; rfl; rfl
  obtain ⟨y52, hy52, H⟩ := bindS H
  apply Run.op; (apply L_ixR2; rfl; rfl; rfl; (exact hy52); rfl; rfl); rfl; rfl
  apply R_ldP; rfl; rfl; (exact row_ld0 hy52 rfl (fun _ => rfl)); rfl; rfl; rfl
  apply R_dec; (apply L_lss; rfl; rfl; rfl); rfl
  intro h; replace H := ifT h H
  apply R_pickT; rfl; rfl; rfl; rfl
  apply R_mov; rfl; rfl; rfl
  apply R_mov; rfl; rfl; rfl
  apply R_mov; rfl; rfl; rfl
  obtain ⟨y53, hy53, H⟩ := bindS H
  apply Run.op; (apply L_ixR2; rfl; rfl; rfl; (exact hy53); rfl; rfl); rfl; rfl
  apply R_ldP; rfl; rfl; (exact row_ld0 hy53 rfl (fun _ => rfl)); rfl; rfl; rfl
  apply Run.op; (apply L_geq; rfl; rfl; rfl); rfl; rfl
  apply R_pickT; rfl; rfl; rfl; rfl
  apply dn
  obtain rfl := Option.some.inj H
  refine Ev.y4 ?_
  refine XEnv.mk ?_
  apply el [] (io0 hio _) <;> rfl
  intro h; replace H := ifF h H
  apply R_pickT; rfl; rfl; rfl; rfl
  apply R_mov; rfl; rfl; rfl
  apply Run.skip; rfl
  apply Run.skip; rfl
  apply Run.skip; rfl
  apply Run.skip; rfl
  apply Run.skip; rfl
  apply R_pickF; rfl; rfl; rfl; rfl
  apply dn
  obtain rfl := Option.some.inj H
  refine Ev.y4 ?_
  refine XEnv.mk ?_
  apply el [] (io0 hio _) <;> rfl
  intro h; replace H := ifF h H
  apply R_mov; rfl; rfl; rfl
  apply Run.skip; rfl
  apply Run.skip; rfl
  apply Run.skip; rfl
  apply Run.skip; rfl
  apply Run.skip; rfl
  apply R_pickF; rfl; rfl; rfl; rfl
  apply R_mov; rfl; rfl; rfl
  apply Run.skip; rfl
  apply Run.skip; rfl
  apply Run.skip; rfl
  apply Run.skip; rfl
  apply Run.skip; rfl
  apply R_pickF; rfl; rfl; rfl; rfl
  apply dn
  obtain rfl := Option.some.inj H
  refine Ev.y4 ?_
  refine XEnv.mk ?_
  apply el [] (io0 hio _) <;> rfl
  intro e E' hX; obtain ⟨rfl, g56⟩ := XEnv.out hX
  apply x3
  refine CodeT.weak g56 ?_
  refine CodeT.cond rfl (fun h => ?_) (fun h => ?_)
  replace H := ifTb h H
  (repeat apply sq)
  apply rg
  apply R_mov; rfl; rfl; rfl
  apply R_mov; rfl; rfl; rfl
  apply R_mov; rfl; rfl; rfl
  apply R_mov; rfl; rfl; rfl
  obtain ⟨y57, hy57, H⟩ := bindS H
  apply Run.op; (apply L_ixR2; rfl; rfl; rfl; (exact hy57); rfl; rfl); rfl; rfl
  apply R_ldP; rfl; rfl; (exact row_ld0 hy57 rfl (fun _ => rfl)); rfl; rfl; rfl
  apply R_add; rfl; rfl; rfl; rfl; rfl
  apply R_fldP; rfl; rfl; rfl; rfl; rfl
  apply R_fldP; rfl; rfl; rfl; rfl; rfl
  apply R_ldP; rfl; rfl; rfl; rfl; rfl; rfl
  obtain ⟨v58, hv58, H⟩ := bindS H
  apply R_sub; rfl; rfl; (exact letS hv58); rfl; rfl
  apply Run.op; (apply L_rem; rfl; rfl; (intro h; cases h); rfl; rfl); rfl; rfl
  obtain ⟨y59, hy59, H⟩ := bindS H
  apply Run.op; (apply L_ixR2; rfl; rfl; rfl; (exact hy59); rfl; rfl); rfl; rfl
  obtain ⟨v60, hv60, H⟩ := bindS H
  have hl61 := setI_lenS hv60
  apply Run.op; (apply L_st; rfl; rfl; rfl; rfl; rfl; (intro h; cases h); (exact row_ble0 (sz := 1) (n := 1) hy59 (fun _ => rfl) (by decide)); (exact row_stL (sz := 1) hv60 hy59 (fun _ => rfl) rfl)); rfl; rfl
  apply Run.done; refine ⟨fun _ => ⟨rfl, rfl⟩, ?_⟩
  apply x3
  (repeat apply sq)
  apply rg
  apply R_asg; rfl; rfl; rfl
  apply dn
  apply x3
  apply CodeT.ret
  apply x4
  apply x1
  obtain rfl := Option.some.inj H
  refine Ev.y2 ?_
  refine XRetX.mk ?_
  exact RetX.mk (RetIs.sc1 rfl) (xo1 ⟨_, rfl⟩)
  replace H := ifFb h H
  (repeat apply sq)
  apply CodeT.skip
  apply x5
  apply x3
  apply rg
  apply R_add; rfl; rfl; rfl; rfl; rfl
  apply R_mov; rfl; rfl; rfl
  apply dn
  obtain rfl := Option.some.inj H
  refine Ev.y1 ?_
  apply el [] (io0 hio _) <;> rfl
  replace H := ifF (of_decide_eq_false h) H
  (repeat apply sq)
  apply CodeT.exit
  apply x2
  obtain rfl := Option.some.inj H
  refine Ev.y3 ?_
  refine XEnv.mk ?_
  apply el [] (io0 hio _) <;> rfl
  rcases d62 with (d63 | d65)
  intro e E' hX; obtain ⟨rfl, g64⟩ := XEnv.out hX
  refine x6 rfl ?_
  apply x3
  refine CodeT.weak g64 ?_
  (repeat apply sq)
  apply rg
  apply R_asg; rfl; rfl; rfl
  apply dn
  apply x3
  apply CodeT.ret
  cases H
  apply z12
  exact RetX.mk (RetIs.sc1 rfl) (xo1 ⟨_, rfl⟩)
  intro e E' hX; obtain ⟨rfl, g66⟩ := XRetX.out hX
  apply x4
  apply x1
  cases H
  apply z12
  exact g66
theorem m_impl_HeadingsOf (a0 : (List Factor)) (r : (List Int)) (H : impl_HeadingsOf a0 = some r) : Meets Try.prog 75 [.sl a0.length (a0.flatMap encFactor)] (.rw 1 r.length (r.flatMap (encI .i64))) true := by
  refine Meets.intro2 (N := 24) (rs := #[.tmp 2]) Try.func75 rfl rfl rfl rfl ?_
  intro Γ hio
  unfold impl_HeadingsOf at H
  (repeat apply sq)
  apply rg
  apply R_asg; rfl; rfl; rfl
  apply dn
  apply x3
  (repeat apply sq)
  apply rg
  apply R_mov; rfl; rfl; rfl
  obtain ⟨r1, hr1, H⟩ := bindS H
  apply Run.op; (apply L_call; ((apply ArgsV.cons; (apply ArgV.val; rfl; rfl)); (apply ArgsV.nil)); (exact m_impl_IsFactorList a0 _ hr1); rfl; rfl; rfl); rfl; rfl
  apply R_not; rfl; rfl; rfl
  apply dn
  apply x3
  (repeat apply sq)
  refine CodeT.cond rfl (fun h => ?_) (fun h => ?_)
  replace H := ifFb (notT h) H
  (repeat apply sq)
  apply rg
  apply R_asg; rfl; rfl; rfl
  apply dn
  apply x3
  apply CodeT.ret
  apply x1
  cases H
  apply x12
  exact RetIs.one (Res1.nilW rfl) (fun _ h => by cases h)
  replace H := ifTb (notF h) H
  (repeat apply sq)
  apply CodeT.skip
  apply x3
  (repeat apply sq)
  apply rg
  apply R_mov; rfl; rfl; rfl
  obtain ⟨r2, hr2, H⟩ := bindS H
  apply Run.op; (apply L_callW; ((apply ArgsV.cons; (apply ArgV.val; rfl; rfl)); (apply ArgsV.nil)); (exact m_impl_NamesOf a0 _ hr2); (exact io1 hio _); rfl); rfl; rfl
  apply R_asg; rfl; rfl; rfl
  apply dn
  apply x3
  (repeat apply sq)
  apply rg
  apply Run.op; (apply L_bs0; (exact io1 hio _); rfl); rfl; rfl
  apply R_asg; rfl; rfl; rfl
  apply dn
  apply x3
  (repeat apply sq)
  apply rg
  apply R_mov; rfl; rfl; rfl
  apply Run.op; (apply L_lenR; rfl; rfl; rfl); rfl; rfl
  apply R_mov; rfl; rfl; rfl
  apply dn
  apply x3
  (repeat apply sq)
  apply CodeT.block
  (repeat apply sq)
  obtain ⟨d10, hd10, H⟩ := bindS H
  refine CodeT.lloop (fun s => ⟨[(0, ⟨.sl a0.length (a0.flatMap encFactor), false⟩), (3, ⟨.ref 503 1 0 r2.length, false⟩), (4, ⟨.ref 504 1 0 s.2.length, false⟩), (12, ⟨.sc (.int .i64 (r2.length : Int)), false⟩), (13, ⟨.sc (.int .i64 s.1), false⟩)], [(503, some ⟨r2.flatMap encS, true, false⟩), (504, some ⟨s.2.flatMap (encI .i64), true, false⟩)]⟩) (fun d e E => XEnv Γ (.exit 0) ⟨[(0, ⟨.sl a0.length (a0.flatMap encFactor), false⟩), (3, ⟨.ref 503 1 0 r2.length, false⟩), (4, ⟨.ref 504 1 0 d.length, false⟩)], [(503, some ⟨r2.flatMap encS, true, false⟩), (504, some ⟨d.flatMap (encI .i64), true, false⟩)]⟩ e E) hd10 ?_ ?_ ?_
  apply el [(503, 9), (504, 10)] (io0 hio _) <;> rfl
  clear H hd10
  rintro ⟨v5, v6⟩ o H
  unfold impl_HeadingsOf_L1 at H
  (repeat apply sq)
  apply rg
  apply R_lss; rfl; rfl; rfl; rfl
  apply dn
  apply x3
  (repeat apply sq)
  refine CodeT.cond rfl (fun h => ?_) (fun h => ?_)
  replace H := ifT (of_decide_eq_true h) H
  (repeat apply sq)
  apply CodeT.skip
  apply x3
  (repeat apply sq)
  apply CodeT.block
  (repeat apply sq)
  apply rg
  apply R_mov; rfl; rfl; rfl
  apply Run.op; (apply L_bs1; rfl; rfl; rfl; rfl; rfl; rfl; rfl; rfl); rfl; rfl
  obtain ⟨_u, ha7, H⟩ := bindS H
  obtain ⟨v8, hv8, H⟩ := bindS H
  apply Run.op; (apply L_app true; rfl; rfl; rfl; (exact flat_len (l := v6) (enc := (encI .i64)) (fun _ => rfl)); rfl; (exact chkS ha7); (exact app63 (by decide) (chkS ha7)); (exact ⟨io1 hio _, io1 hio _⟩); (intro _; rfl); (exact flat_snocL (l := v6) (y := (-1)) (enc := (encI .i64)) hv8); rfl); rfl; rfl
  apply R_asg; rfl; rfl; rfl
  apply dn
  apply x5
  apply x3
  apply rg
  apply R_add; rfl; rfl; rfl; rfl; rfl
  apply R_mov; rfl; rfl; rfl
  apply dn
  obtain rfl := Option.some.inj H
  refine Ev.y1 ?_
  apply el [(504, 17)] (io0 hio _) <;> rfl
  replace H := ifF (of_decide_eq_false h) H
  (repeat apply sq)
  apply CodeT.exit
  apply x2
  obtain rfl := Option.some.inj H
  refine Ev.y3 ?_
  refine XEnv.mk ?_
  apply el [] (io0 hio _) <;> rfl
  skip
  intro e E' hX; obtain ⟨rfl, g11⟩ := XEnv.out hX
  refine x6 rfl ?_
  apply x3
  refine CodeT.weak g11 ?_
  (repeat apply sq)
  apply CodeT.block
  (repeat apply sq)
  obtain ⟨d18, hd18, H⟩ := bindS H
  refine CodeT.lloop (fun s => ⟨[(0, ⟨.sl a0.length (a0.flatMap encFactor), false⟩), (3, ⟨.ref 503 1 0 r2.length, false⟩), (4, ⟨.ref 504 1 0 s.length, false⟩)], [(503, some ⟨r2.flatMap encS, true, false⟩), (504, some ⟨s.flatMap (encI .i64), true, false⟩)]⟩) (fun d e E => XEnv Γ (.exit 2) ⟨[(4, ⟨.ref 504 1 0 d.length, false⟩)], [(504, some ⟨d.flatMap (encI .i64), true, false⟩)]⟩ e E) hd18 ?_ ?_ ?_
  apply el [] (io0 hio _) <;> rfl
  clear H hd18
  rintro v14 o H
  unfold impl_HeadingsOf_L2 at H
  (repeat apply sq)
  apply rg
  apply R_mov; rfl; rfl; rfl
  apply R_mov; rfl; rfl; rfl
  apply R_mov; rfl; rfl; rfl
  obtain ⟨r15, hr15, H⟩ := bindS H
  have hl16 := len_impl_headingStep a0 r2 v14 _ hr15
  apply Run.op; (apply L_callX [(100002, 504)]; ((apply ArgsX.cons; (apply ArgX.val; (apply ArgV.val; rfl; rfl); rfl)); (apply ArgsX.cons; (apply ArgX.val; (apply ArgV.ref; rfl; rfl; (first | exact Nat.le_of_eq (flat_len (fun _ => rfl)) | exact Nat.le_of_ble_eq_true rfl)); rfl)); (apply ArgsX.cons; (apply ArgX.io (p := .ref 100002 1 0 v14.length); rfl)); (apply ArgsX.nil)); (exact m_impl_headingStep a0 r2 v14 _ hr15); ((apply ObsX.cons; rfl; (exact allSc_flat (fun _ => rfl))); (apply ObsX.nil)); rfl; rfl; rfl; rfl; rfl); rfl; rfl
  apply dn
  apply x3
  (repeat apply sq)
  refine CodeT.cond rfl (fun h => ?_) (fun h => ?_)
  replace H := ifTb h H
  (repeat apply sq)
  apply CodeT.skip
  apply x3
  apply CodeT.block
  (repeat apply sq)
  apply CodeT.skip
  apply x5
  obtain rfl := Option.some.inj H
  refine Ev.y1 ?_
  refine Ent.trans (Ent.relen (k := 4) (n' := r15.2.length) rfl (by first | (simp only [setI_len]; done) | (simp only [setI_len]; omega) | omega)) ?_
  apply el [] (io0 hio _) <;> rfl
  replace H := ifFb h H
  (repeat apply sq)
  apply CodeT.exit
  apply x2
  obtain rfl := Option.some.inj H
  refine Ev.y3 ?_
  refine XEnv.mk ?_
  refine Ent.trans (Ent.relen (k := 4) (n' := r15.2.length) rfl (by first | (simp only [setI_len]; done) | (simp only [setI_len]; omega) | omega)) ?_
  apply el [] (io0 hio _) <;> rfl
  skip
  intro e E' hX; obtain ⟨rfl, g19⟩ := XEnv.out hX
  refine x6 rfl ?_
  apply x3
  refine CodeT.weak g19 ?_
  (repeat apply sq)
  apply rg
  apply R_mov; rfl; rfl; rfl
  apply R_asg; rfl; rfl; rfl
  apply dn
  apply x3
  apply CodeT.ret
  cases H
  apply x12
  exact RetIs.rW rfl rfl rfl (io1 hio _)
theorem m_impl_HeadingOf (a0 : (List Factor)) (a1 : ByteArray) (r : Int) (H : impl_HeadingOf a0 a1 = some r) : Meets Try.prog 115 [.sl a0.length (a0.flatMap encFactor), .sc (.string a1)] (.sc (.int .i64 r)) true := by
  refine Meets.intro2 (N := 25) (rs := #[.tmp 4]) Try.func115 rfl rfl rfl rfl ?_
  intro Γ hio
  unfold impl_HeadingOf at H
  (repeat apply sq)
  apply rg
  apply R_asg; rfl; rfl; rfl
  apply dn
  apply x3
  (repeat apply sq)
  apply rg
  apply R_mov; rfl; rfl; rfl
  obtain ⟨r1, hr1, H⟩ := bindS H
  apply Run.op; (apply L_callW; ((apply ArgsV.cons; (apply ArgV.val; rfl; rfl)); (apply ArgsV.nil)); (exact m_impl_HeadingsOf a0 _ hr1); (exact io1 hio _); rfl); rfl; rfl
  apply R_asg; rfl; rfl; rfl
  apply dn
  apply x3
  (repeat apply sq)
  apply rg
  apply R_mov; rfl; rfl; rfl
  obtain ⟨r2, hr2, H⟩ := bindS H
  apply Run.op; (apply L_callW; ((apply ArgsV.cons; (apply ArgV.val; rfl; rfl)); (apply ArgsV.nil)); (exact m_impl_NamesOf a0 _ hr2); (exact io1 hio _); rfl); rfl; rfl
  apply R_mov; rfl; rfl; rfl
  obtain ⟨r3, hr3, H⟩ := bindS H
  apply Run.op; (apply L_call; ((apply ArgsV.cons; (apply ArgV.ref; rfl; rfl; (first | exact Nat.le_of_eq (flat_len (fun _ => rfl)) | exact Nat.le_of_ble_eq_true rfl))); (apply ArgsV.cons; (apply ArgV.val; rfl; rfl)); (apply ArgsV.nil)); (exact m_impl_nameIndex r2 a1 _ hr3); rfl; rfl; rfl); rfl; rfl
  apply R_asg; rfl; rfl; rfl
  apply dn
  apply x3
  (repeat apply sq)
  obtain ⟨d5, hd5, H⟩ := bindS H
  refine CodeT.lcut (x := d5) (fun d e E => XEnv Γ .normal ⟨[(5, ⟨.ref 505 1 0 r1.length, false⟩), (6, ⟨.sc (.int .i64 r3), false⟩), (20, ⟨.sc (.bool d), false⟩)], [(505, some ⟨r1.flatMap (encI .i64), true, false⟩)]⟩ e E) ?_ ?_
  clear H; have H := hd5; clear hd5
  apply rg
  apply R_mov; rfl; rfl; rfl
  apply R_dec; (apply L_lss; rfl; rfl; rfl); rfl
  intro h; replace H := ifT h H
  apply R_mov; rfl; rfl; rfl
  apply Run.skip; rfl
  apply Run.skip; rfl
  apply Run.skip; rfl
  apply Run.skip; rfl
  apply R_pickT; rfl; rfl; rfl; rfl
  apply dn
  obtain rfl := Option.some.inj H
  refine Ev.y4 ?_
  refine XEnv.mk ?_
  apply el [(505, 8)] (io0 hio _) <;> rfl
  intro h; replace H := ifF h H
  apply R_mov; rfl; rfl; rfl
  apply R_mov; rfl; rfl; rfl
  apply R_mov; rfl; rfl; rfl
  apply Run.op; (apply L_lenR; rfl; rfl; rfl); rfl; rfl
  apply Run.op; (apply L_geq; rfl; rfl; rfl); rfl; rfl
  apply R_pickF; rfl; rfl; rfl; rfl
  apply dn
  obtain rfl := Option.some.inj H
  refine Ev.y4 ?_
  refine XEnv.mk ?_
  apply el [(505, 8)] (io0 hio _) <;> rfl
  intro e E' hX; obtain ⟨rfl, g6⟩ := XEnv.out hX
  apply x3
  refine CodeT.weak g6 ?_
  (repeat apply sq)
  refine CodeT.cond rfl (fun h => ?_) (fun h => ?_)
  replace H := ifTb h H
  (repeat apply sq)
  apply rg
  apply R_asg; rfl; rfl; rfl
  apply dn
  apply x3
  apply CodeT.ret
  apply x1
  cases H
  apply x12
  exact RetIs.sc1 rfl
  replace H := ifFb h H
  (repeat apply sq)
  apply CodeT.skip
  apply x3
  (repeat apply sq)
  apply rg
  apply R_mov; rfl; rfl; rfl
  apply R_mov; rfl; rfl; rfl
  obtain ⟨y7, hy7, H⟩ := bindS H
  apply Run.op; (apply L_ixR2; rfl; rfl; rfl; (exact hy7); rfl; rfl); rfl; rfl
  apply R_ldP; rfl; rfl; (exact row_ld0 hy7 rfl (fun _ => rfl)); rfl; rfl; rfl
  apply R_asg; rfl; rfl; rfl
  apply dn
  apply x3
  apply CodeT.ret
  cases H
  apply x12
  exact RetIs.sc1 rfl
theorem m_impl_RotateXY (a0 : Int) (a1 : Int) (a2 : Int) (r : (Int × Int)) (H : impl_RotateXY a0 a1 a2 = some r) : Meets Try.prog 116 [.sc (.int .i64 a0), .sc (.int .i64 a1), .sc (.int .i64 a2)] (.tup [.sc (.int .i64 r.1), .sc (.int .i64 r.2)]) true := by
  refine Meets.intro2 (N := 35) (rs := #[.tmp 6, .tmp 7]) Try.func116 rfl rfl rfl rfl ?_
  intro Γ hio
  unfold impl_RotateXY at H
  (repeat apply sq)
  apply rg
  apply R_asg; rfl; rfl; rfl
  apply R_asg; rfl; rfl; rfl
  apply dn
  apply x3
  (repeat apply sq)
  obtain ⟨d4, hd4, H⟩ := bindS H
  refine CodeT.lcut (x := d4) (fun d e E => XEnv Γ .normal ⟨[(0, ⟨.sc (.int .i64 a0), false⟩), (1, ⟨.sc (.int .i64 a1), false⟩), (2, ⟨.sc (.int .i64 a2), false⟩), (24, ⟨.sc (.bool d), false⟩)], []⟩ e E) ?_ ?_
  clear H; have H := hd4; clear hd4
  apply rg
  apply R_mov; rfl; rfl; rfl
  apply R_dec; (apply L_lss; rfl; rfl; rfl); rfl
  intro h; replace H := ifT h H
  apply R_mov; rfl; rfl; rfl
  apply Run.skip; rfl
  apply Run.skip; rfl
  apply R_pickT; rfl; rfl; rfl; rfl
  apply R_mov; rfl; rfl; rfl
  apply Run.skip; rfl
  apply Run.skip; rfl
  apply Run.skip; rfl
  apply R_pickT; rfl; rfl; rfl; rfl
  apply R_mov; rfl; rfl; rfl
  apply Run.skip; rfl
  apply Run.skip; rfl
  apply Run.skip; rfl
  apply R_pickT; rfl; rfl; rfl; rfl
  apply dn
  obtain rfl := Option.some.inj H
  refine Ev.y4 ?_
  refine XEnv.mk ?_
  apply el [] (io0 hio _) <;> rfl
  intro h; replace H := ifF h H
  apply R_mov; rfl; rfl; rfl
  apply R_mov; rfl; rfl; rfl
  apply R_dec; (apply L_gtr; rfl; rfl; rfl); rfl
  intro h; replace H := ifT h H
  apply R_pickF; rfl; rfl; rfl; rfl
  apply R_mov; rfl; rfl; rfl
  apply Run.skip; rfl
  apply Run.skip; rfl
  apply Run.skip; rfl
  apply R_pickT; rfl; rfl; rfl; rfl
  apply R_mov; rfl; rfl; rfl
  apply Run.skip; rfl
  apply Run.skip; rfl
  apply Run.skip; rfl
  apply R_pickT; rfl; rfl; rfl; rfl
  apply dn
  obtain rfl := Option.some.inj H
  refine Ev.y4 ?_
  refine XEnv.mk ?_
  apply el [] (io0 hio _) <;> rfl
  intro h; replace H := ifF h H
  apply R_pickF; rfl; rfl; rfl; rfl
  apply R_mov; rfl; rfl; rfl
  apply R_mov; rfl; rfl; rfl
  obtain ⟨r1, hr1, H⟩ := bindS H
  apply R_bool; (apply L_call; ((apply ArgsV.cons; (apply ArgV.val; rfl; rfl)); (apply ArgsV.nil)); (exact m_impl_inRange a0 _ hr1); rfl; rfl; rfl); rfl
  intro h; replace H := ifTb h H
  apply R_not; rfl; rfl; rfl
  apply R_pickF; rfl; rfl; rfl; rfl
  apply R_mov; rfl; rfl; rfl
  apply R_mov; rfl; rfl; rfl
  obtain ⟨r2, hr2, H⟩ := bindS H
  apply Run.op; (apply L_call; ((apply ArgsV.cons; (apply ArgV.val; rfl; rfl)); (apply ArgsV.nil)); (exact m_impl_inRange a1 _ hr2); rfl; rfl; rfl); rfl; rfl
  apply R_not; rfl; rfl; rfl
  apply R_pickF; rfl; rfl; rfl; rfl
  apply dn
  obtain rfl := Option.some.inj H
  refine Ev.y4 ?_
  refine XEnv.mk ?_
  apply el [] (io0 hio _) <;> rfl
  intro h; replace H := ifFb h H
  apply R_not; rfl; rfl; rfl
  apply R_pickF; rfl; rfl; rfl; rfl
  apply R_mov; rfl; rfl; rfl
  apply Run.skip; rfl
  apply Run.skip; rfl
  apply Run.skip; rfl
  apply R_pickT; rfl; rfl; rfl; rfl
  apply dn
  obtain rfl := Option.some.inj H
  refine Ev.y4 ?_
  refine XEnv.mk ?_
  apply el [] (io0 hio _) <;> rfl
  intro e E' hX; obtain ⟨rfl, g5⟩ := XEnv.out hX
  apply x3
  refine CodeT.weak g5 ?_
  (repeat apply sq)
  refine CodeT.cond rfl (fun h => ?_) (fun h => ?_)
  replace H := ifTb h H
  (repeat apply sq)
  apply rg
  apply R_asg; rfl; rfl; rfl
  apply R_asg; rfl; rfl; rfl
  apply dn
  apply x3
  apply CodeT.ret
  apply x1
  cases H
  apply x12
  exact RetIs.many (.inl rfl) (ResL.cons (Res1.sc rfl) (ResL.cons (Res1.sc rfl) ResL.nil)) (fun h => by first | rfl | cases h)
  replace H := ifFb h H
  (repeat apply sq)
  apply CodeT.skip
  apply x3
  (repeat apply sq)
  apply rg
  apply R_asg; rfl; rfl; rfl
  apply dn
  apply x3
  (repeat apply sq)
  apply CodeT.block
  (repeat apply sq)
  obtain ⟨d10, hd10, H⟩ := bindS H
  refine CodeT.lloop (fun s => ⟨[(0, ⟨.sc (.int .i64 s.1), false⟩), (1, ⟨.sc (.int .i64 s.2.1), false⟩), (2, ⟨.sc (.int .i64 a2), false⟩), (8, ⟨.sc (.int .i64 s.2.2), false⟩)], []⟩) (fun d e E => XEnv Γ (.exit 0) ⟨[(0, ⟨.sc (.int .i64 d.1), false⟩), (1, ⟨.sc (.int .i64 d.2), false⟩)], []⟩ e E) hd10 ?_ ?_ ?_
  apply el [] (io0 hio _) <;> rfl
  clear H hd10
  rintro ⟨v6, v7, v8⟩ o H
  unfold impl_RotateXY_L1 at H
  (repeat apply sq)
  apply rg
  apply R_mov; rfl; rfl; rfl
  apply R_mov; rfl; rfl; rfl
  apply R_lss; rfl; rfl; rfl; rfl
  apply dn
  apply x3
  (repeat apply sq)
  refine CodeT.cond rfl (fun h => ?_) (fun h => ?_)
  replace H := ifT (of_decide_eq_true h) H
  (repeat apply sq)
  apply CodeT.skip
  apply x3
  (repeat apply sq)
  apply CodeT.block
  (repeat apply sq)
  apply rg
  apply R_mov; rfl; rfl; rfl
  apply Run.op; (apply L_neg; rfl; rfl; rfl); rfl; rfl
  apply R_mov; rfl; rfl; rfl
  apply R_asg; rfl; rfl; rfl
  apply R_asg; rfl; rfl; rfl
  apply dn
  apply x5
  apply x3
  apply rg
  apply R_mov; rfl; rfl; rfl
  apply R_add; rfl; rfl; rfl; rfl; rfl
  apply R_asg; rfl; rfl; rfl
  apply dn
  obtain rfl := Option.some.inj H
  refine Ev.y1 ?_
  apply el [] (io0 hio _) <;> rfl
  replace H := ifF (of_decide_eq_false h) H
  (repeat apply sq)
  apply CodeT.exit
  apply x2
  obtain rfl := Option.some.inj H
  refine Ev.y3 ?_
  refine XEnv.mk ?_
  apply el [] (io0 hio _) <;> rfl
  skip
  intro e E' hX; obtain ⟨rfl, g11⟩ := XEnv.out hX
  refine x6 rfl ?_
  apply x3
  refine CodeT.weak g11 ?_
  (repeat apply sq)
  apply rg
  apply R_mov; rfl; rfl; rfl
  apply R_mov; rfl; rfl; rfl
  apply R_asg; rfl; rfl; rfl
  apply R_asg; rfl; rfl; rfl
  apply dn
  apply x3
  apply CodeT.ret
  cases H
  apply x12
  exact RetIs.many (.inl rfl) (ResL.cons (Res1.sc rfl) (ResL.cons (Res1.sc rfl) ResL.nil)) (fun h => by first | rfl | cases h)
end Go.Ev
