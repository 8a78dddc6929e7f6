/- The walks of lifted functions, printed by program (lift.py). -/
import Derived.Test.YtbfjidhekfnfjaaL2
set_option linter.all false
namespace Go.Ev
open Go.Proofs
set_option linter.all false
attribute [local irreducible] CodeT Ent Meets MeetsX Local LocalAt Res1 RetIs RetX Sim OpT StepT NoLab Then InBlock Round Cut ends endsX LRound LCut XEnv XRet XRetX XRetN MeetsN MeetsD MarkC RetN RetM endsN endsM
theorem m_laws_heldLinkS (a0 : (List Link)) (a1 : Int) (r : Int) (H : laws_heldLinkS a0 a1 = some r) : Meets Try.prog 47 [.sl a0.length (a0.flatMap encLink), .sc (.int .i64 a1)] (.sc (.int .i64 r)) true := by
  refine Meets.intro2 (N := 133) (rs := #[.tmp 4]) Try.func47 rfl rfl rfl rfl ?_
  intro Γ hio
  unfold laws_heldLinkS at H
  (repeat apply CodeT.seq)
  apply CodeT.region (fun _ => PPm)
  apply Run.op; (apply L_asg; rfl; rfl); rfl; rfl
  apply Run.done; refine ⟨fun h => Bool.noConfusion h, ?_⟩
  apply x3
  (repeat apply CodeT.seq)
  apply CodeT.region (fun _ => PPm)
  apply Run.op; (apply L_asg; rfl; rfl); rfl; rfl
  apply Run.done; refine ⟨fun h => Bool.noConfusion h, ?_⟩
  apply x3
  (repeat apply CodeT.seq)
  apply CodeT.block
  (repeat apply CodeT.seq)
  obtain ⟨d39, hd39, H⟩ := bindS H
  refine CodeT.lloop (fun s => ⟨[(0, ⟨.sl a0.length (a0.flatMap encLink), false⟩), (1, ⟨.sc (.int .i64 s.1), false⟩), (5, ⟨.sc (.int .i64 s.2), false⟩)], []⟩) (fun x e E => match x with | (.inl d) => XEnv Γ (.exit 0) ⟨[(1, ⟨.sc (.int .i64 d), false⟩)], []⟩ e E | (.inr d) => XRet Γ #[.tmp 4] (.sc (.int .i64 d)) true e E) hd39 ?_ ?_ ?_
  refine Ent.list [] (io0 hio _) rfl ?_ ?_ <;> (repeat' first | exact trivial | (refine And.intro ⟨_, rfl, fun h => (by first | rfl | exact Bool.noConfusion h)⟩ ?_))
  clear H hd39
  rintro ⟨v19, v20⟩ o H
  unfold laws_heldLinkS_L1 at H
  (repeat apply CodeT.seq)
  apply CodeT.region (fun _ => PPm)
  apply Run.op; (apply L_mov; rfl; rfl); rfl; rfl
  apply Run.op; (apply L_mov; rfl; rfl); rfl; rfl
  apply Run.op; (apply L_len; rfl; rfl); rfl; rfl
  apply Run.op; (apply L_lss; rfl; rfl; rfl); rfl; rfl
  apply Run.done; refine ⟨fun h => Bool.noConfusion h, ?_⟩
  apply x3
  (repeat apply CodeT.seq)
  refine CodeT.cond rfl (fun h => ?_) (fun h => ?_)
  replace H := ifT (of_decide_eq_true h) H
  (repeat apply CodeT.seq)
  apply CodeT.skip
  apply x3
  (repeat apply CodeT.seq)
  apply CodeT.block
  (repeat apply CodeT.seq)
  apply CodeT.region (fun _ => PPm)
  apply Run.op; (apply L_mov; rfl; rfl); rfl; rfl
  apply Run.op; (apply L_mov; rfl; rfl); rfl; rfl
  obtain ⟨y21, hy21, H⟩ := bindS H
  apply Run.op; (apply L_ixS2; rfl; rfl; rfl; (exact hy21); (intro _; rfl); rfl); rfl; rfl
  apply Run.op; (apply L_fldI; rfl; rfl); rfl; rfl
  apply Run.op; (apply L_ldI; rfl; rfl; rfl; rfl); rfl; rfl
  apply Run.op; (apply L_mov; rfl; rfl); rfl; rfl
  apply Run.op; (apply L_neq; rfl; rfl; rfl); rfl; rfl
  apply Run.done; refine ⟨fun h => Bool.noConfusion h, ?_⟩
  apply x3
  (repeat apply CodeT.seq)
  refine CodeT.cond rfl (fun h => ?_) (fun h => ?_)
  replace H := ifT (of_decide_eq_true h) H
  (repeat apply CodeT.seq)
  apply CodeT.region (fun _ => PPm)
  apply Run.op; (apply L_asg; rfl; rfl); rfl; rfl
  apply Run.done; refine ⟨fun h => Bool.noConfusion h, ?_⟩
  apply x3
  apply CodeT.ret
  apply x1
  apply x4
  apply x1
  obtain rfl := Option.some.inj H
  refine Ev.y2 ?_
  refine XRet.mk ?_
  exact RetIs.sc1 rfl
  replace H := ifF (of_decide_eq_false h) H
  (repeat apply CodeT.seq)
  apply CodeT.skip
  apply x3
  (repeat apply CodeT.seq)
  apply CodeT.region (fun _ => PPm)
  apply Run.op; (apply L_mov; rfl; rfl); rfl; rfl
  apply Run.op; (apply L_add; rfl; rfl; rfl; rfl); rfl; rfl
  apply Run.op; (apply L_asg; rfl; rfl); rfl; rfl
  apply Run.done; refine ⟨fun h => Bool.noConfusion h, ?_⟩
  apply x3
  (repeat apply CodeT.seq)
  apply CodeT.region (fun _ => PPm)
  apply Run.op; (apply L_mov; rfl; rfl); rfl; rfl
  apply Run.op; (apply L_mov; rfl; rfl); rfl; rfl
  obtain ⟨y22, hy22, H⟩ := bindS H
  apply Run.op; (apply L_ixS2; rfl; rfl; rfl; (exact hy22); (intro _; rfl); rfl); rfl; rfl
  apply Run.op; (apply L_fldI; rfl; rfl); rfl; rfl
  apply Run.op; (apply L_ldI; rfl; rfl; rfl; rfl); rfl; rfl
  apply Run.op; (apply L_mov; rfl; rfl); rfl; rfl
  apply Run.op; (apply L_neq; rfl; rfl; rfl); rfl; rfl
  apply Run.done; refine ⟨fun h => Bool.noConfusion h, ?_⟩
  apply x3
  (repeat apply CodeT.seq)
  refine CodeT.cond rfl (fun h => ?_) (fun h => ?_)
  replace H := ifT (of_decide_eq_true h) H
  (repeat apply CodeT.seq)
  apply CodeT.region (fun _ => PPm)
  apply Run.op; (apply L_asg; rfl; rfl); rfl; rfl
  apply Run.done; refine ⟨fun h => Bool.noConfusion h, ?_⟩
  apply x3
  apply CodeT.ret
  apply x1
  apply x4
  apply x1
  obtain rfl := Option.some.inj H
  refine Ev.y2 ?_
  refine XRet.mk ?_
  exact RetIs.sc1 rfl
  replace H := ifF (of_decide_eq_false h) H
  (repeat apply CodeT.seq)
  apply CodeT.skip
  apply x3
  (repeat apply CodeT.seq)
  apply CodeT.region (fun _ => PPm)
  apply Run.op; (apply L_mov; rfl; rfl); rfl; rfl
  obtain ⟨v23, hv23, H⟩ := bindS H
  apply Run.op; (apply L_add; rfl; rfl; (exact letS hv23); rfl); rfl; rfl
  apply Run.op; (apply L_asg; rfl; rfl); rfl; rfl
  apply Run.done; refine ⟨fun h => Bool.noConfusion h, ?_⟩
  apply x3
  (repeat apply CodeT.seq)
  apply CodeT.region (fun _ => PPm)
  apply Run.op; (apply L_mov; rfl; rfl); rfl; rfl
  apply Run.op; (apply L_mov; rfl; rfl); rfl; rfl
  obtain ⟨y24, hy24, H⟩ := bindS H
  apply Run.op; (apply L_ixS2; rfl; rfl; rfl; (exact hy24); (intro _; rfl); rfl); rfl; rfl
  apply Run.op; (apply L_fldI; rfl; rfl); rfl; rfl
  apply Run.op; (apply L_fldI; rfl; rfl); rfl; rfl
  apply Run.op; (apply L_fldI; rfl; rfl); rfl; rfl
  apply Run.op; (apply L_ldI; rfl; rfl; rfl; rfl); rfl; rfl
  apply Run.op; (apply L_mov; rfl; rfl); rfl; rfl
  apply Run.op; (apply L_rem; rfl; rfl; (intro h; cases h); rfl; rfl); rfl; rfl
  apply Run.op; (apply L_eql; rfl; rfl; rfl); rfl; rfl
  apply Run.op; (apply L_bneq; rfl; rfl; rfl); rfl; rfl
  apply Run.done; refine ⟨fun h => Bool.noConfusion h, ?_⟩
  apply x3
  (repeat apply CodeT.seq)
  refine CodeT.cond rfl (fun h => ?_) (fun h => ?_)
  replace H := ifFb (notT h) H
  (repeat apply CodeT.seq)
  apply CodeT.region (fun _ => PPm)
  apply Run.op; (apply L_asg; rfl; rfl); rfl; rfl
  apply Run.done; refine ⟨fun h => Bool.noConfusion h, ?_⟩
  apply x3
  apply CodeT.ret
  apply x1
  apply x4
  apply x1
  obtain rfl := Option.some.inj H
  refine Ev.y2 ?_
  refine XRet.mk ?_
  exact RetIs.sc1 rfl
  replace H := ifTb (notF h) H
  (repeat apply CodeT.seq)
  apply CodeT.skip
  apply x3
  (repeat apply CodeT.seq)
  apply CodeT.region (fun _ => PPm)
  apply Run.op; (apply L_mov; rfl; rfl); rfl; rfl
  apply Run.op; (apply L_add; rfl; rfl; rfl; rfl); rfl; rfl
  apply Run.op; (apply L_asg; rfl; rfl); rfl; rfl
  apply Run.done; refine ⟨fun h => Bool.noConfusion h, ?_⟩
  apply x3
  (repeat apply CodeT.seq)
  apply CodeT.region (fun _ => PPm)
  apply Run.op; (apply L_mov; rfl; rfl); rfl; rfl
  apply Run.op; (apply L_mov; rfl; rfl); rfl; rfl
  obtain ⟨y25, hy25, H⟩ := bindS H
  apply Run.op; (apply L_ixS2; rfl; rfl; rfl; (exact hy25); (intro _; rfl); rfl); rfl; rfl
  apply Run.op; (apply L_fldI; rfl; rfl); rfl; rfl
  apply Run.op; (apply L_fldI; rfl; rfl); rfl; rfl
  apply Run.op; (apply L_fldI; rfl; rfl); rfl; rfl
  apply Run.op; (apply L_ldI; rfl; rfl; rfl; rfl); rfl; rfl
  apply Run.op; (apply L_mov; rfl; rfl); rfl; rfl
  obtain ⟨r26, hr26, H⟩ := bindS H
  apply Run.op; (apply L_call; ((apply ArgsV.cons; (apply ArgV.val; rfl; rfl)); (apply ArgsV.cons; (apply ArgV.val; rfl; rfl)); (apply ArgsV.nil)); (exact m_laws_heldIntS y25.fWeight.fNum.fMag (IntKind.i64.wrap (v23 + 1)) _ hr26); rfl; rfl; rfl); rfl; rfl
  apply Run.op; (apply L_asg; rfl; rfl); rfl; rfl
  apply Run.done; refine ⟨fun h => Bool.noConfusion h, ?_⟩
  apply x3
  (repeat apply CodeT.seq)
  apply CodeT.region (fun _ => PPm)
  apply Run.op; (apply L_mov; rfl; rfl); rfl; rfl
  apply Run.op; (apply L_lss; rfl; rfl; rfl); rfl; rfl
  apply Run.done; refine ⟨fun h => Bool.noConfusion h, ?_⟩
  apply x3
  (repeat apply CodeT.seq)
  refine CodeT.cond rfl (fun h => ?_) (fun h => ?_)
  replace H := ifT (of_decide_eq_true h) H
  (repeat apply CodeT.seq)
  apply CodeT.region (fun _ => PPm)
  apply Run.op; (apply L_asg; rfl; rfl); rfl; rfl
  apply Run.done; refine ⟨fun h => Bool.noConfusion h, ?_⟩
  apply x3
  apply CodeT.ret
  apply x1
  apply x4
  apply x1
  obtain rfl := Option.some.inj H
  refine Ev.y2 ?_
  refine XRet.mk ?_
  exact RetIs.sc1 rfl
  replace H := ifF (of_decide_eq_false h) H
  (repeat apply CodeT.seq)
  apply CodeT.skip
  apply x3
  (repeat apply CodeT.seq)
  apply CodeT.region (fun _ => PPm)
  apply Run.op; (apply L_mov; rfl; rfl); rfl; rfl
  apply Run.op; (apply L_mov; rfl; rfl); rfl; rfl
  obtain ⟨y27, hy27, H⟩ := bindS H
  apply Run.op; (apply L_ixS2; rfl; rfl; rfl; (exact hy27); (intro _; rfl); rfl); rfl; rfl
  apply Run.op; (apply L_fldI; rfl; rfl); rfl; rfl
  apply Run.op; (apply L_fldI; rfl; rfl); rfl; rfl
  apply Run.op; (apply L_ldI; rfl; rfl; rfl; rfl); rfl; rfl
  apply Run.op; (apply L_mov; rfl; rfl); rfl; rfl
  obtain ⟨r28, hr28, H⟩ := bindS H
  apply Run.op; (apply L_call; ((apply ArgsV.cons; (apply ArgV.val; rfl; rfl)); (apply ArgsV.cons; (apply ArgV.val; rfl; rfl)); (apply ArgsV.nil)); (exact m_laws_heldIntS y27.fWeight.fDen r26 _ hr28); rfl; rfl; rfl); rfl; rfl
  apply Run.op; (apply L_asg; rfl; rfl); rfl; rfl
  apply Run.done; refine ⟨fun h => Bool.noConfusion h, ?_⟩
  apply x3
  (repeat apply CodeT.seq)
  apply CodeT.region (fun _ => PPm)
  apply Run.op; (apply L_mov; rfl; rfl); rfl; rfl
  apply Run.op; (apply L_lss; rfl; rfl; rfl); rfl; rfl
  apply Run.done; refine ⟨fun h => Bool.noConfusion h, ?_⟩
  apply x3
  (repeat apply CodeT.seq)
  refine CodeT.cond rfl (fun h => ?_) (fun h => ?_)
  replace H := ifT (of_decide_eq_true h) H
  (repeat apply CodeT.seq)
  apply CodeT.region (fun _ => PPm)
  apply Run.op; (apply L_asg; rfl; rfl); rfl; rfl
  apply Run.done; refine ⟨fun h => Bool.noConfusion h, ?_⟩
  apply x3
  apply CodeT.ret
  apply x1
  apply x4
  apply x1
  obtain rfl := Option.some.inj H
  refine Ev.y2 ?_
  refine XRet.mk ?_
  exact RetIs.sc1 rfl
  replace H := ifF (of_decide_eq_false h) H
  (repeat apply CodeT.seq)
  apply CodeT.skip
  apply x3
  (repeat apply CodeT.seq)
  apply CodeT.region (fun _ => PPm)
  apply Run.op; (apply L_mov; rfl; rfl); rfl; rfl
  apply Run.op; (apply L_mov; rfl; rfl); rfl; rfl
  obtain ⟨y29, hy29, H⟩ := bindS H
  apply Run.op; (apply L_ixS2; rfl; rfl; rfl; (exact hy29); (intro _; rfl); rfl); rfl; rfl
  apply Run.op; (apply L_fldI; rfl; rfl); rfl; rfl
  apply Run.op; (apply L_fldI; rfl; rfl); rfl; rfl
  apply Run.op; (apply L_fldI; rfl; rfl); rfl; rfl
  apply Run.op; (apply L_ldI; rfl; rfl; rfl; rfl); rfl; rfl
  apply Run.op; (apply L_mov; rfl; rfl); rfl; rfl
  apply Run.op; (apply L_rem; rfl; rfl; (intro h; cases h); rfl; rfl); rfl; rfl
  apply Run.op; (apply L_eql; rfl; rfl; rfl); rfl; rfl
  apply Run.op; (apply L_bneq; rfl; rfl; rfl); rfl; rfl
  apply Run.done; refine ⟨fun h => Bool.noConfusion h, ?_⟩
  apply x3
  (repeat apply CodeT.seq)
  refine CodeT.cond rfl (fun h => ?_) (fun h => ?_)
  replace H := ifFb (notT h) H
  (repeat apply CodeT.seq)
  apply CodeT.region (fun _ => PPm)
  apply Run.op; (apply L_asg; rfl; rfl); rfl; rfl
  apply Run.done; refine ⟨fun h => Bool.noConfusion h, ?_⟩
  apply x3
  apply CodeT.ret
  apply x1
  apply x4
  apply x1
  obtain rfl := Option.some.inj H
  refine Ev.y2 ?_
  refine XRet.mk ?_
  exact RetIs.sc1 rfl
  replace H := ifTb (notF h) H
  (repeat apply CodeT.seq)
  apply CodeT.skip
  apply x3
  (repeat apply CodeT.seq)
  apply CodeT.region (fun _ => PPm)
  apply Run.op; (apply L_mov; rfl; rfl); rfl; rfl
  apply Run.op; (apply L_add; rfl; rfl; rfl; rfl); rfl; rfl
  apply Run.op; (apply L_asg; rfl; rfl); rfl; rfl
  apply Run.done; refine ⟨fun h => Bool.noConfusion h, ?_⟩
  apply x3
  (repeat apply CodeT.seq)
  apply CodeT.region (fun _ => PPm)
  apply Run.op; (apply L_mov; rfl; rfl); rfl; rfl
  apply Run.op; (apply L_mov; rfl; rfl); rfl; rfl
  obtain ⟨y30, hy30, H⟩ := bindS H
  apply Run.op; (apply L_ixS2; rfl; rfl; rfl; (exact hy30); (intro _; rfl); rfl); rfl; rfl
  apply Run.op; (apply L_fldI; rfl; rfl); rfl; rfl
  apply Run.op; (apply L_fldI; rfl; rfl); rfl; rfl
  apply Run.op; (apply L_fldI; rfl; rfl); rfl; rfl
  apply Run.op; (apply L_ldI; rfl; rfl; rfl; rfl); rfl; rfl
  apply Run.op; (apply L_mov; rfl; rfl); rfl; rfl
  obtain ⟨r31, hr31, H⟩ := bindS H
  apply Run.op; (apply L_call; ((apply ArgsV.cons; (apply ArgV.val; rfl; rfl)); (apply ArgsV.cons; (apply ArgV.val; rfl; rfl)); (apply ArgsV.nil)); (exact m_laws_heldIntS y30.fDX.fNum.fMag (IntKind.i64.wrap (r28 + 1)) _ hr31); rfl; rfl; rfl); rfl; rfl
  apply Run.op; (apply L_asg; rfl; rfl); rfl; rfl
  apply Run.done; refine ⟨fun h => Bool.noConfusion h, ?_⟩
  apply x3
  (repeat apply CodeT.seq)
  apply CodeT.region (fun _ => PPm)
  apply Run.op; (apply L_mov; rfl; rfl); rfl; rfl
  apply Run.op; (apply L_lss; rfl; rfl; rfl); rfl; rfl
  apply Run.done; refine ⟨fun h => Bool.noConfusion h, ?_⟩
  apply x3
  (repeat apply CodeT.seq)
  refine CodeT.cond rfl (fun h => ?_) (fun h => ?_)
  replace H := ifT (of_decide_eq_true h) H
  (repeat apply CodeT.seq)
  apply CodeT.region (fun _ => PPm)
  apply Run.op; (apply L_asg; rfl; rfl); rfl; rfl
  apply Run.done; refine ⟨fun h => Bool.noConfusion h, ?_⟩
  apply x3
  apply CodeT.ret
  apply x1
  apply x4
  apply x1
  obtain rfl := Option.some.inj H
  refine Ev.y2 ?_
  refine XRet.mk ?_
  exact RetIs.sc1 rfl
  replace H := ifF (of_decide_eq_false h) H
  (repeat apply CodeT.seq)
  apply CodeT.skip
  apply x3
  (repeat apply CodeT.seq)
  apply CodeT.region (fun _ => PPm)
  apply Run.op; (apply L_mov; rfl; rfl); rfl; rfl
  apply Run.op; (apply L_mov; rfl; rfl); rfl; rfl
  obtain ⟨y32, hy32, H⟩ := bindS H
  apply Run.op; (apply L_ixS2; rfl; rfl; rfl; (exact hy32); (intro _; rfl); rfl); rfl; rfl
  apply Run.op; (apply L_fldI; rfl; rfl); rfl; rfl
  apply Run.op; (apply L_fldI; rfl; rfl); rfl; rfl
  apply Run.op; (apply L_ldI; rfl; rfl; rfl; rfl); rfl; rfl
  apply Run.op; (apply L_mov; rfl; rfl); rfl; rfl
  obtain ⟨r33, hr33, H⟩ := bindS H
  apply Run.op; (apply L_call; ((apply ArgsV.cons; (apply ArgV.val; rfl; rfl)); (apply ArgsV.cons; (apply ArgV.val; rfl; rfl)); (apply ArgsV.nil)); (exact m_laws_heldIntS y32.fDX.fDen r31 _ hr33); rfl; rfl; rfl); rfl; rfl
  apply Run.op; (apply L_asg; rfl; rfl); rfl; rfl
  apply Run.done; refine ⟨fun h => Bool.noConfusion h, ?_⟩
  apply x3
  (repeat apply CodeT.seq)
  apply CodeT.region (fun _ => PPm)
  apply Run.op; (apply L_mov; rfl; rfl); rfl; rfl
  apply Run.op; (apply L_lss; rfl; rfl; rfl); rfl; rfl
  apply Run.done; refine ⟨fun h => Bool.noConfusion h, ?_⟩
  apply x3
  (repeat apply CodeT.seq)
  refine CodeT.cond rfl (fun h => ?_) (fun h => ?_)
  replace H := ifT (of_decide_eq_true h) H
  (repeat apply CodeT.seq)
  apply CodeT.region (fun _ => PPm)
  apply Run.op; (apply L_asg; rfl; rfl); rfl; rfl
  apply Run.done; refine ⟨fun h => Bool.noConfusion h, ?_⟩
  apply x3
  apply CodeT.ret
  apply x1
  apply x4
  apply x1
  obtain rfl := Option.some.inj H
  refine Ev.y2 ?_
  refine XRet.mk ?_
  exact RetIs.sc1 rfl
  replace H := ifF (of_decide_eq_false h) H
  (repeat apply CodeT.seq)
  apply CodeT.skip
  apply x3
  (repeat apply CodeT.seq)
  apply CodeT.region (fun _ => PPm)
  apply Run.op; (apply L_mov; rfl; rfl); rfl; rfl
  apply Run.op; (apply L_mov; rfl; rfl); rfl; rfl
  obtain ⟨y34, hy34, H⟩ := bindS H
  apply Run.op; (apply L_ixS2; rfl; rfl; rfl; (exact hy34); (intro _; rfl); rfl); rfl; rfl
  apply Run.op; (apply L_fldI; rfl; rfl); rfl; rfl
  apply Run.op; (apply L_fldI; rfl; rfl); rfl; rfl
  apply Run.op; (apply L_fldI; rfl; rfl); rfl; rfl
  apply Run.op; (apply L_ldI; rfl; rfl; rfl; rfl); rfl; rfl
  apply Run.op; (apply L_mov; rfl; rfl); rfl; rfl
  apply Run.op; (apply L_rem; rfl; rfl; (intro h; cases h); rfl; rfl); rfl; rfl
  apply Run.op; (apply L_eql; rfl; rfl; rfl); rfl; rfl
  apply Run.op; (apply L_bneq; rfl; rfl; rfl); rfl; rfl
  apply Run.done; refine ⟨fun h => Bool.noConfusion h, ?_⟩
  apply x3
  (repeat apply CodeT.seq)
  refine CodeT.cond rfl (fun h => ?_) (fun h => ?_)
  replace H := ifFb (notT h) H
  (repeat apply CodeT.seq)
  apply CodeT.region (fun _ => PPm)
  apply Run.op; (apply L_asg; rfl; rfl); rfl; rfl
  apply Run.done; refine ⟨fun h => Bool.noConfusion h, ?_⟩
  apply x3
  apply CodeT.ret
  apply x1
  apply x4
  apply x1
  obtain rfl := Option.some.inj H
  refine Ev.y2 ?_
  refine XRet.mk ?_
  exact RetIs.sc1 rfl
  replace H := ifTb (notF h) H
  (repeat apply CodeT.seq)
  apply CodeT.skip
  apply x3
  (repeat apply CodeT.seq)
  apply CodeT.region (fun _ => PPm)
  apply Run.op; (apply L_mov; rfl; rfl); rfl; rfl
  apply Run.op; (apply L_add; rfl; rfl; rfl; rfl); rfl; rfl
  apply Run.op; (apply L_asg; rfl; rfl); rfl; rfl
  apply Run.done; refine ⟨fun h => Bool.noConfusion h, ?_⟩
  apply x3
  (repeat apply CodeT.seq)
  apply CodeT.region (fun _ => PPm)
  apply Run.op; (apply L_mov; rfl; rfl); rfl; rfl
  apply Run.op; (apply L_mov; rfl; rfl); rfl; rfl
  obtain ⟨y35, hy35, H⟩ := bindS H
  apply Run.op; (apply L_ixS2; rfl; rfl; rfl; (exact hy35); (intro _; rfl); rfl); rfl; rfl
  apply Run.op; (apply L_fldI; rfl; rfl); rfl; rfl
  apply Run.op; (apply L_fldI; rfl; rfl); rfl; rfl
  apply Run.op; (apply L_fldI; rfl; rfl); rfl; rfl
  apply Run.op; (apply L_ldI; rfl; rfl; rfl; rfl); rfl; rfl
  apply Run.op; (apply L_mov; rfl; rfl); rfl; rfl
  obtain ⟨r36, hr36, H⟩ := bindS H
  apply Run.op; (apply L_call; ((apply ArgsV.cons; (apply ArgV.val; rfl; rfl)); (apply ArgsV.cons; (apply ArgV.val; rfl; rfl)); (apply ArgsV.nil)); (exact m_laws_heldIntS y35.fDY.fNum.fMag (IntKind.i64.wrap (r33 + 1)) _ hr36); rfl; rfl; rfl); rfl; rfl
  apply Run.op; (apply L_asg; rfl; rfl); rfl; rfl
  apply Run.done; refine ⟨fun h => Bool.noConfusion h, ?_⟩
  apply x3
  (repeat apply CodeT.seq)
  apply CodeT.region (fun _ => PPm)
  apply Run.op; (apply L_mov; rfl; rfl); rfl; rfl
  apply Run.op; (apply L_lss; rfl; rfl; rfl); rfl; rfl
  apply Run.done; refine ⟨fun h => Bool.noConfusion h, ?_⟩
  apply x3
  (repeat apply CodeT.seq)
  refine CodeT.cond rfl (fun h => ?_) (fun h => ?_)
  replace H := ifT (of_decide_eq_true h) H
  (repeat apply CodeT.seq)
  apply CodeT.region (fun _ => PPm)
  apply Run.op; (apply L_asg; rfl; rfl); rfl; rfl
  apply Run.done; refine ⟨fun h => Bool.noConfusion h, ?_⟩
  apply x3
  apply CodeT.ret
  apply x1
  apply x4
  apply x1
  obtain rfl := Option.some.inj H
  refine Ev.y2 ?_
  refine XRet.mk ?_
  exact RetIs.sc1 rfl
  replace H := ifF (of_decide_eq_false h) H
  (repeat apply CodeT.seq)
  apply CodeT.skip
  apply x3
  (repeat apply CodeT.seq)
  apply CodeT.region (fun _ => PPm)
  apply Run.op; (apply L_mov; rfl; rfl); rfl; rfl
  apply Run.op; (apply L_mov; rfl; rfl); rfl; rfl
  obtain ⟨y37, hy37, H⟩ := bindS H
  apply Run.op; (apply L_ixS2; rfl; rfl; rfl; (exact hy37); (intro _; rfl); rfl); rfl; rfl
  apply Run.op; (apply L_fldI; rfl; rfl); rfl; rfl
  apply Run.op; (apply L_fldI; rfl; rfl); rfl; rfl
  apply Run.op; (apply L_ldI; rfl; rfl; rfl; rfl); rfl; rfl
  apply Run.op; (apply L_mov; rfl; rfl); rfl; rfl
  obtain ⟨r38, hr38, H⟩ := bindS H
  apply Run.op; (apply L_call; ((apply ArgsV.cons; (apply ArgV.val; rfl; rfl)); (apply ArgsV.cons; (apply ArgV.val; rfl; rfl)); (apply ArgsV.nil)); (exact m_laws_heldIntS y37.fDY.fDen r36 _ hr38); rfl; rfl; rfl); rfl; rfl
  apply Run.op; (apply L_asg; rfl; rfl); rfl; rfl
  apply Run.done; refine ⟨fun h => Bool.noConfusion h, ?_⟩
  apply x3
  (repeat apply CodeT.seq)
  apply CodeT.region (fun _ => PPm)
  apply Run.op; (apply L_mov; rfl; rfl); rfl; rfl
  apply Run.op; (apply L_lss; rfl; rfl; rfl); rfl; rfl
  apply Run.done; refine ⟨fun h => Bool.noConfusion h, ?_⟩
  apply x3
  refine CodeT.cond rfl (fun h => ?_) (fun h => ?_)
  replace H := ifT (of_decide_eq_true h) H
  (repeat apply CodeT.seq)
  apply CodeT.region (fun _ => PPm)
  apply Run.op; (apply L_asg; rfl; rfl); rfl; rfl
  apply Run.done; refine ⟨fun h => Bool.noConfusion h, ?_⟩
  apply x3
  apply CodeT.ret
  apply x4
  apply x1
  obtain rfl := Option.some.inj H
  refine Ev.y2 ?_
  refine XRet.mk ?_
  exact RetIs.sc1 rfl
  replace H := ifF (of_decide_eq_false h) H
  (repeat apply CodeT.seq)
  apply CodeT.skip
  apply x5
  apply x3
  apply CodeT.region (fun _ => PPm)
  apply Run.op; (apply L_mov; rfl; rfl); rfl; rfl
  apply Run.op; (apply L_add; rfl; rfl; rfl; rfl); rfl; rfl
  apply Run.op; (apply L_asg; rfl; rfl); rfl; rfl
  apply Run.done; refine ⟨fun h => Bool.noConfusion h, ?_⟩
  obtain rfl := Option.some.inj H
  refine Ev.y1 ?_
  refine Ent.list [] (io0 hio _) rfl ?_ ?_ <;> (repeat' first | exact trivial | (refine And.intro ⟨_, rfl, fun h => (by first | rfl | exact Bool.noConfusion h)⟩ ?_))
  replace H := ifF (of_decide_eq_false h) H
  (repeat apply CodeT.seq)
  apply CodeT.exit
  apply x2
  obtain rfl := Option.some.inj H
  refine Ev.y3 ?_
  refine XEnv.mk ?_
  refine Ent.list [] (io0 hio _) rfl ?_ ?_ <;> (repeat' first | exact trivial | (refine And.intro ⟨_, rfl, fun h => (by first | rfl | exact Bool.noConfusion h)⟩ ?_))
  rcases d39 with (d40 | d42)
  intro e E' hX; obtain ⟨rfl, g41⟩ := XEnv.out hX
  refine x6 rfl ?_
  apply x3
  refine CodeT.weak g41 ?_
  (repeat apply CodeT.seq)
  apply CodeT.region (fun _ => PPm)
  apply Run.op; (apply L_mov; rfl; rfl); rfl; rfl
  apply Run.op; (apply L_asg; rfl; rfl); rfl; rfl
  apply Run.done; refine ⟨fun h => Bool.noConfusion h, ?_⟩
  apply x3
  apply CodeT.ret
  cases H
  apply x12
  exact RetIs.sc1 rfl
  intro e E' hX; obtain ⟨rfl, g43⟩ := XRet.out hX
  apply x4
  apply x1
  cases H
  apply x12
  exact g43
theorem m_laws_FnExactLinksOf (a0 : (List Factor)) (a1 : (List Int)) (r : Bool) (H : laws_FnExactLinksOf a0 a1 = some r) : Meets Try.prog 13 [.sl a0.length (a0.flatMap encFactor), .sl a1.length (a1.flatMap (encI .i64))] (.sc (.bool r)) true := by
  refine Meets.introW2 (N := 117) (rs := #[.tmp 4]) Try.func13 rfl rfl rfl rfl rfl ?_
  intro Γ c0 c1 hio hle hi0 old0 old1
  unfold laws_FnExactLinksOf at H
  (repeat apply CodeT.seq)
  apply CodeT.region (fun _ => PPm)
  apply Run.op; (apply L_asg; rfl; rfl); rfl; rfl
  apply Run.done; refine ⟨fun h => Bool.noConfusion h, ?_⟩
  apply x3
  (repeat apply CodeT.seq)
  apply CodeT.region (fun _ => PPm)
  apply Run.op; (apply L_mov; rfl; rfl); rfl; rfl
  apply Run.op; (apply L_len; rfl; rfl); rfl; rfl
  apply Run.op; (apply L_gtr; rfl; rfl; rfl); rfl; rfl
  apply Run.done; refine ⟨fun h => Bool.noConfusion h, ?_⟩
  apply x3
  (repeat apply CodeT.seq)
  refine CodeT.cond rfl (fun h => ?_) (fun h => ?_)
  replace H := ifT (of_decide_eq_true h) H
  (repeat apply CodeT.seq)
  apply CodeT.region (fun _ => PPm)
  apply Run.op; (apply L_asg; rfl; rfl); rfl; rfl
  apply Run.done; refine ⟨fun h => Bool.noConfusion h, ?_⟩
  apply x3
  apply CodeT.ret
  apply x1
  cases H
  apply x12
  exact RetIs.sc1 rfl
  replace H := ifF (of_decide_eq_false h) H
  (repeat apply CodeT.seq)
  apply CodeT.skip
  apply x3
  (repeat apply CodeT.seq)
  apply CodeT.region (fun _ => PPm)
  apply Run.op; (apply L_asg; rfl; rfl); rfl; rfl
  apply Run.done; refine ⟨fun h => Bool.noConfusion h, ?_⟩
  apply x3
  (repeat apply CodeT.seq)
  apply CodeT.region (fun _ => PPm)
  apply Run.op; (apply L_mov; rfl; rfl); rfl; rfl
  apply Run.op; (apply L_mov; rfl; rfl); rfl; rfl
  obtain ⟨r1, hr1, H⟩ := bindS H
  apply Run.op; (apply L_call; ((apply ArgsV.cons; (apply ArgV.val; rfl; rfl)); (apply ArgsV.cons; (apply ArgV.val; rfl; rfl)); (apply ArgsV.nil)); (exact m_laws_szFactorS a0 1048576 _ hr1); rfl; rfl; rfl); rfl; rfl
  apply Run.op; (apply L_asg; rfl; rfl); rfl; rfl
  apply Run.done; refine ⟨fun h => Bool.noConfusion h, ?_⟩
  apply x3
  (repeat apply CodeT.seq)
  apply CodeT.region (fun _ => PPm)
  apply Run.op; (apply L_mov; rfl; rfl); rfl; rfl
  apply Run.op; (apply L_lss; rfl; rfl; rfl); rfl; rfl
  apply Run.done; refine ⟨fun h => Bool.noConfusion h, ?_⟩
  apply x3
  (repeat apply CodeT.seq)
  refine CodeT.cond rfl (fun h => ?_) (fun h => ?_)
  replace H := ifT (of_decide_eq_true h) H
  (repeat apply CodeT.seq)
  apply CodeT.region (fun _ => PPm)
  apply Run.op; (apply L_asg; rfl; rfl); rfl; rfl
  apply Run.done; refine ⟨fun h => Bool.noConfusion h, ?_⟩
  apply x3
  apply CodeT.ret
  apply x1
  cases H
  apply x12
  exact RetIs.sc1 rfl
  replace H := ifF (of_decide_eq_false h) H
  (repeat apply CodeT.seq)
  apply CodeT.skip
  apply x3
  (repeat apply CodeT.seq)
  apply CodeT.region (fun _ => PPm)
  apply Run.op; (apply L_mov; rfl; rfl); rfl; rfl
  obtain ⟨r2, hr2, H⟩ := bindS H
  apply Run.op; (apply L_callW; ((apply ArgsV.cons; (apply ArgV.val; rfl; rfl)); (apply ArgsV.nil)); (exact m_laws_toFactorS a0 _ hr2); (exact io1 hio _); rfl); rfl; rfl
  apply Run.op; (apply L_mov; rfl; rfl); rfl; rfl
  obtain ⟨r3, hr3, H⟩ := bindS H
  apply Run.op; (apply L_callW; ((apply ArgsV.cons; (apply ArgV.val; rfl; rfl)); (apply ArgsV.nil)); (exact m_laws_toIntS a1 _ hr3); (exact io1 hio _); rfl); rfl; rfl
  obtain ⟨r4, hr4, H⟩ := bindS H
  apply Run.op; (apply L_callT 1300; ((apply ArgsV.cons; (apply ArgV.ref; rfl; rfl; (first | exact Nat.le_of_eq (flat_len (fun _ => rfl)) | exact Nat.le_of_ble_eq_true rfl))); (apply ArgsV.cons; (apply ArgV.ref; rfl; rfl; (first | exact Nat.le_of_eq (flat_len (fun _ => rfl)) | exact Nat.le_of_ble_eq_true rfl))); (apply ArgsV.nil)); (exact m_spec_LinksOf r2 r3 _ hr4); rfl; rfl; rfl; (exact ⟨io1 hio _, trivial⟩); rfl); rfl; rfl
  apply Run.op; (apply L_mov; rfl; rfl); rfl; rfl
  apply Run.op; (apply L_extR; rfl; rfl; rfl); rfl; rfl
  apply Run.op; (apply L_extR; rfl; rfl; rfl); rfl; rfl
  apply Run.op; (apply L_asg; rfl; rfl); rfl; rfl
  apply Run.op; (apply L_asg; rfl; rfl); rfl; rfl
  apply Run.done; refine ⟨fun h => Bool.noConfusion h, ?_⟩
  apply x3
  (repeat apply CodeT.seq)
  apply CodeT.region (fun _ => PPm)
  apply Run.op; (apply L_mov; rfl; rfl); rfl; rfl
  obtain ⟨r5, hr5, H⟩ := bindS H
  apply Run.op; (apply L_callW; ((apply ArgsV.cons; (apply ArgV.val; rfl; rfl)); (apply ArgsV.nil)); (exact m_laws_toFactorS a0 _ hr5); (exact io1 hio _); rfl); rfl; rfl
  apply Run.op; (apply L_asg; rfl; rfl); rfl; rfl
  apply Run.done; refine ⟨fun h => Bool.noConfusion h, ?_⟩
  apply x3
  (repeat apply CodeT.seq)
  apply CodeT.region (fun _ => PPm)
  apply Run.op; (apply L_mov; rfl; rfl); rfl; rfl
  obtain ⟨r6, hr6, H⟩ := bindS H
  apply Run.op; (apply L_callW; ((apply ArgsV.cons; (apply ArgV.val; rfl; rfl)); (apply ArgsV.nil)); (exact m_laws_toIntS a1 _ hr6); (exact io1 hio _); rfl); rfl; rfl
  apply Run.op; (apply L_asg; rfl; rfl); rfl; rfl
  apply Run.done; refine ⟨fun h => Bool.noConfusion h, ?_⟩
  apply x3
  (repeat apply CodeT.seq)
  apply CodeT.region (fun _ => PPm)
  apply Run.op; (apply L_mov; rfl; rfl); rfl; rfl
  apply Run.op; (apply L_mov; rfl; rfl); rfl; rfl
  obtain ⟨r7, hr7, H⟩ := bindS H
  apply Run.op; (apply L_callT 1400; ((apply ArgsV.cons; (apply ArgV.ref; rfl; rfl; (first | exact Nat.le_of_eq (flat_len (fun _ => rfl)) | exact Nat.le_of_ble_eq_true rfl))); (apply ArgsV.cons; (apply ArgV.ref; rfl; rfl; (first | exact Nat.le_of_eq (flat_len (fun _ => rfl)) | exact Nat.le_of_ble_eq_true rfl))); (apply ArgsV.nil)); (exact m_impl_LinksOf r5 r6 _ hr7); rfl; rfl; rfl; (exact ⟨io1 hio _, trivial⟩); rfl); rfl; rfl
  apply Run.op; (apply L_mov; rfl; rfl); rfl; rfl
  apply Run.op; (apply L_extR; rfl; rfl; rfl); rfl; rfl
  apply Run.op; (apply L_extR; rfl; rfl; rfl); rfl; rfl
  apply Run.op; (apply L_asg; rfl; rfl); rfl; rfl
  apply Run.op; (apply L_asg; rfl; rfl); rfl; rfl
  apply Run.done; refine ⟨fun h => Bool.noConfusion h, ?_⟩
  apply x3
  (repeat apply CodeT.seq)
  obtain ⟨d10, hd10, H⟩ := bindS H
  refine CodeT.lcut (x := d10) (fun d e E => XEnv Γ .normal ⟨[(0, ⟨.was c0 (.sl a0.length (a0.flatMap encFactor)), false⟩), (1, ⟨.was c1 (.sl a1.length (a1.flatMap (encI .i64))), false⟩), (6, ⟨.ref 506 11 0 r4.1.length, false⟩), (7, ⟨.sc (.bool r4.2), false⟩), (8, ⟨.ref 508 8 0 r5.length, false⟩), (9, ⟨.ref 509 1 0 r6.length, false⟩), (10, ⟨.ref 510 11 0 r7.1.length, false⟩), (11, ⟨.sc (.bool r7.2), false⟩), (51, ⟨.sc (.bool d), false⟩)], [(506, some ⟨r4.1.flatMap encWLink, true, false⟩), (508, some ⟨r5.flatMap encFactor, true, false⟩), (509, some ⟨r6.flatMap (encI .i64), true, false⟩), (510, some ⟨r7.1.flatMap encWLink, true, false⟩)]⟩ e E) ?_ ?_
  clear H; have H := hd10; clear hd10
  apply CodeT.region (fun _ => PPm)
  apply Run.op; (apply L_mov; rfl; rfl); rfl; rfl
  apply Run.op; (apply L_mov; rfl; rfl); rfl; rfl
  obtain ⟨r8, hr8, H⟩ := bindS H
  apply R_bool; (apply L_call; ((apply ArgsV.cons; (apply ArgV.refS; rfl; rfl; (exact (SoftL.flat softLink _)))); (apply ArgsV.cons; (apply ArgV.refS; rfl; rfl; (exact (SoftL.flat softLink _)))); (apply ArgsV.nil)); (exact m_laws_eqLinkS r7.1 r4.1 _ hr8); rfl; rfl; rfl); rfl
  intro h; replace H := ifTb h H
  apply Run.op; (apply L_not; rfl; rfl); rfl; rfl
  apply Run.op; (apply L_mov; rfl; rfl); rfl; rfl
  apply Run.op; (apply L_mov; rfl; rfl); rfl; rfl
  apply Run.op; (apply L_mov; rfl; rfl); rfl; rfl
  apply Run.op; (apply L_bneq; rfl; rfl; rfl); rfl; rfl
  apply Run.op; (apply L_pickF; rfl; rfl; rfl); rfl; rfl
  apply Run.done; refine ⟨fun h => Bool.noConfusion h, ?_⟩
  obtain rfl := Option.some.inj H
  refine Ev.y4 ?_
  refine XEnv.mk ?_
  refine Ent.list [(506, 1300), (508, 34), (509, 36), (510, 1400)] (io0 hio _) rfl ?_ ?_ <;> (repeat' first | exact trivial | (refine And.intro ⟨_, rfl, fun h => (by first | rfl | exact Bool.noConfusion h)⟩ ?_))
  intro h; replace H := ifFb h H
  apply Run.op; (apply L_not; rfl; rfl); rfl; rfl
  apply Run.op; (apply L_mov; rfl; rfl); rfl; rfl
  apply Run.skip; rfl
  apply Run.skip; rfl
  apply Run.skip; rfl
  apply Run.op; (apply L_pickT; rfl; rfl; rfl); rfl; rfl
  apply Run.done; refine ⟨fun h => Bool.noConfusion h, ?_⟩
  obtain rfl := Option.some.inj H
  refine Ev.y4 ?_
  refine XEnv.mk ?_
  refine Ent.list [(506, 1300), (508, 34), (509, 36), (510, 1400)] (io0 hio _) rfl ?_ ?_ <;> (repeat' first | exact trivial | (refine And.intro ⟨_, rfl, fun h => (by first | rfl | exact Bool.noConfusion h)⟩ ?_))
  intro e E' hX; obtain ⟨rfl, g11⟩ := XEnv.out hX
  apply x3
  refine CodeT.weak g11 ?_
  (repeat apply CodeT.seq)
  refine CodeT.cond rfl (fun h => ?_) (fun h => ?_)
  replace H := ifTb h H
  (repeat apply CodeT.seq)
  apply CodeT.region (fun _ => PPm)
  apply Run.op; (apply L_asg; rfl; rfl); rfl; rfl
  apply Run.done; refine ⟨fun h => Bool.noConfusion h, ?_⟩
  apply x3
  apply CodeT.ret
  apply x1
  cases H
  apply x12
  exact RetIs.sc1 rfl
  replace H := ifFb h H
  (repeat apply CodeT.seq)
  apply CodeT.skip
  apply x3
  (repeat apply CodeT.seq)
  apply CodeT.region (fun _ => PPm)
  apply Run.op; (apply L_mov; rfl; rfl); rfl; rfl
  apply Run.op; (apply L_mov; rfl; rfl); rfl; rfl
  obtain ⟨r12, hr12, H⟩ := bindS H
  apply Run.op; (apply L_callW; ((apply ArgsV.cons; (apply ArgV.val; rfl; rfl)); (apply ArgsV.nil)); (exact m_laws_toFactorS a0 _ hr12); (exact io1 hio _); rfl); rfl; rfl
  obtain ⟨r13, hr13, H⟩ := bindS H
  apply Run.op; (apply L_call; ((apply ArgsV.cons; (apply ArgV.ref; rfl; rfl; (first | exact Nat.le_of_eq (flat_len (fun _ => rfl)) | exact Nat.le_of_ble_eq_true rfl))); (apply ArgsV.cons; (apply ArgV.ref; rfl; rfl; (first | exact Nat.le_of_eq (flat_len (fun _ => rfl)) | exact Nat.le_of_ble_eq_true rfl))); (apply ArgsV.nil)); (exact m_laws_eqFactorS r5 r12 _ hr13); rfl; rfl; rfl); rfl; rfl
  apply Run.op; (apply L_not; rfl; rfl); rfl; rfl
  apply Run.done; refine ⟨fun h => Bool.noConfusion h, ?_⟩
  apply x3
  (repeat apply CodeT.seq)
  refine CodeT.cond rfl (fun h => ?_) (fun h => ?_)
  replace H := ifFb (notT h) H
  (repeat apply CodeT.seq)
  apply CodeT.region (fun _ => PPm)
  apply Run.op; (apply L_asg; rfl; rfl); rfl; rfl
  apply Run.done; refine ⟨fun h => Bool.noConfusion h, ?_⟩
  apply x3
  apply CodeT.ret
  apply x1
  cases H
  apply x12
  exact RetIs.sc1 rfl
  replace H := ifTb (notF h) H
  (repeat apply CodeT.seq)
  apply CodeT.skip
  apply x3
  (repeat apply CodeT.seq)
  apply CodeT.region (fun _ => PPm)
  apply Run.op; (apply L_mov; rfl; rfl); rfl; rfl
  apply Run.op; (apply L_mov; rfl; rfl); rfl; rfl
  obtain ⟨r14, hr14, H⟩ := bindS H
  apply Run.op; (apply L_callW; ((apply ArgsV.cons; (apply ArgV.val; rfl; rfl)); (apply ArgsV.nil)); (exact m_laws_toIntS a1 _ hr14); (exact io1 hio _); rfl); rfl; rfl
  obtain ⟨r15, hr15, H⟩ := bindS H
  apply Run.op; (apply L_call; ((apply ArgsV.cons; (apply ArgV.ref; rfl; rfl; (first | exact Nat.le_of_eq (flat_len (fun _ => rfl)) | exact Nat.le_of_ble_eq_true rfl))); (apply ArgsV.cons; (apply ArgV.ref; rfl; rfl; (first | exact Nat.le_of_eq (flat_len (fun _ => rfl)) | exact Nat.le_of_ble_eq_true rfl))); (apply ArgsV.nil)); (exact m_laws_eqIntS r6 r14 _ hr15); rfl; rfl; rfl); rfl; rfl
  apply Run.op; (apply L_not; rfl; rfl); rfl; rfl
  apply Run.done; refine ⟨fun h => Bool.noConfusion h, ?_⟩
  apply x3
  (repeat apply CodeT.seq)
  refine CodeT.cond rfl (fun h => ?_) (fun h => ?_)
  replace H := ifFb (notT h) H
  (repeat apply CodeT.seq)
  apply CodeT.region (fun _ => PPm)
  apply Run.op; (apply L_asg; rfl; rfl); rfl; rfl
  apply Run.done; refine ⟨fun h => Bool.noConfusion h, ?_⟩
  apply x3
  apply CodeT.ret
  apply x1
  cases H
  apply x12
  exact RetIs.sc1 rfl
  replace H := ifTb (notF h) H
  (repeat apply CodeT.seq)
  apply CodeT.skip
  apply x3
  (repeat apply CodeT.seq)
  apply CodeT.region (fun _ => PPm)
  apply Run.op; (apply L_asg; rfl; rfl); rfl; rfl
  apply Run.done; refine ⟨fun h => Bool.noConfusion h, ?_⟩
  apply x3
  (repeat apply CodeT.seq)
  apply CodeT.region (fun _ => PPm)
  apply Run.op; (apply L_mov; rfl; rfl); rfl; rfl
  apply Run.op; (apply L_mov; rfl; rfl); rfl; rfl
  obtain ⟨r16, hr16, H⟩ := bindS H
  have hl17 := len_laws_markFactorS r5 1 _ hr16
  apply Run.op; (apply L_callX [(100000, 508)]; ((apply ArgsX.cons; (apply ArgX.io (p := .ref 100000 8 0 r5.length); rfl)); (apply ArgsX.cons; (apply ArgX.val; (apply ArgV.val; rfl; rfl); rfl)); (apply ArgsX.nil)); (exact m_laws_markFactorS r5 1 _ hr16); ((apply ObsX.cons; rfl; (exact allSc_flat (fun _ => rfl))); (apply ObsX.nil)); rfl; rfl; rfl; rfl; rfl); rfl; rfl
  apply Run.op; (apply L_asg; rfl; rfl); rfl; rfl
  apply Run.done; refine ⟨fun h => Bool.noConfusion h, ?_⟩
  apply x3
  (repeat apply CodeT.seq)
  apply CodeT.region (fun _ => PPm)
  apply Run.op; (apply L_mov; rfl; rfl); rfl; rfl
  apply Run.op; (apply L_mov; rfl; rfl); rfl; rfl
  obtain ⟨r18, hr18, H⟩ := bindS H
  have hl19 := len_laws_markIntS r6 r16.1 _ hr18
  apply Run.op; (apply L_callX [(100000, 509)]; ((apply ArgsX.cons; (apply ArgX.io (p := .ref 100000 1 0 r6.length); rfl)); (apply ArgsX.cons; (apply ArgX.val; (apply ArgV.val; rfl; rfl); rfl)); (apply ArgsX.nil)); (exact m_laws_markIntS r6 r16.1 _ hr18); ((apply ObsX.cons; rfl; (exact allSc_flat (fun _ => rfl))); (apply ObsX.nil)); rfl; rfl; rfl; rfl; rfl); rfl; rfl
  apply Run.op; (apply L_asg; rfl; rfl); rfl; rfl
  apply Run.done; refine ⟨fun h => Bool.noConfusion h, ?_⟩
  apply x3
  (repeat apply CodeT.seq)
  obtain ⟨d22, hd22, H⟩ := bindS H
  refine CodeT.lcut (x := d22) (fun d e E => XEnv Γ .normal ⟨[(0, ⟨.was c0 (.sl a0.length (a0.flatMap encFactor)), false⟩), (1, ⟨.was c1 (.sl a1.length (a1.flatMap (encI .i64))), false⟩), (6, ⟨.ref 506 11 0 r4.1.length, false⟩), (7, ⟨.sc (.bool r4.2), false⟩), (10, ⟨.ref 510 11 0 r7.1.length, false⟩), (80, ⟨.sc (.bool d), false⟩)], [(506, some ⟨r4.1.flatMap encWLink, true, false⟩), (510, some ⟨r7.1.flatMap encWLink, true, false⟩)]⟩ e E) ?_ ?_
  clear H; have H := hd22; clear hd22
  apply CodeT.region (fun _ => PPm)
  apply Run.op; (apply L_mov; rfl; rfl); rfl; rfl
  apply R_dec; (apply L_lss; rfl; rfl; rfl); rfl
  intro h; replace H := ifT h H
  apply Run.op; (apply L_mov; rfl; rfl); rfl; rfl
  apply Run.skip; rfl
  apply Run.skip; rfl
  apply Run.skip; rfl
  apply Run.skip; rfl
  apply Run.op; (apply L_pickT; rfl; rfl; rfl); rfl; rfl
  apply Run.op; (apply L_mov; rfl; rfl); rfl; rfl
  apply Run.skip; rfl
  apply Run.skip; rfl
  apply Run.skip; rfl
  apply Run.op; (apply L_pickT; rfl; rfl; rfl); rfl; rfl
  apply Run.done; refine ⟨fun h => Bool.noConfusion h, ?_⟩
  obtain rfl := Option.some.inj H
  refine Ev.y4 ?_
  refine XEnv.mk ?_
  refine Ent.list [] (io0 hio _) rfl ?_ ?_ <;> (repeat' first | exact trivial | (refine And.intro ⟨_, rfl, fun h => (by first | rfl | exact Bool.noConfusion h)⟩ ?_))
  intro h; replace H := ifF h H
  apply Run.op; (apply L_mov; rfl; rfl); rfl; rfl
  apply Run.op; (apply L_mov; rfl; rfl); rfl; rfl
  apply Run.op; (apply L_mov; rfl; rfl); rfl; rfl
  obtain ⟨r20, hr20, H⟩ := bindS H
  apply R_bool; (apply L_call; ((apply ArgsV.cons; (apply ArgV.refS; rfl; rfl; (exact (SoftL.flat softLink _)))); (apply ArgsV.cons; (apply ArgV.refS; rfl; rfl; (exact (SoftL.flat softLink _)))); (apply ArgsV.nil)); (exact m_laws_eqLinkS r7.1 r4.1 _ hr20); rfl; rfl; rfl); rfl
  intro h; replace H := ifTb h H
  apply Run.op; (apply L_not; rfl; rfl); rfl; rfl
  apply Run.op; (apply L_pickF; rfl; rfl; rfl); rfl; rfl
  apply Run.op; (apply L_mov; rfl; rfl); rfl; rfl
  apply Run.op; (apply L_mov; rfl; rfl); rfl; rfl
  apply Run.op; (apply L_mov; rfl; rfl); rfl; rfl
  apply Run.op; (apply L_bneq; rfl; rfl; rfl); rfl; rfl
  apply Run.op; (apply L_pickF; rfl; rfl; rfl); rfl; rfl
  apply Run.done; refine ⟨fun h => Bool.noConfusion h, ?_⟩
  obtain rfl := Option.some.inj H
  refine Ev.y4 ?_
  refine XEnv.mk ?_
  refine Ent.list [] (io0 hio _) rfl ?_ ?_ <;> (repeat' first | exact trivial | (refine And.intro ⟨_, rfl, fun h => (by first | rfl | exact Bool.noConfusion h)⟩ ?_))
  intro h; replace H := ifFb h H
  apply Run.op; (apply L_not; rfl; rfl); rfl; rfl
  apply Run.op; (apply L_pickF; rfl; rfl; rfl); rfl; rfl
  apply Run.op; (apply L_mov; rfl; rfl); rfl; rfl
  apply Run.skip; rfl
  apply Run.skip; rfl
  apply Run.skip; rfl
  apply Run.op; (apply L_pickT; rfl; rfl; rfl); rfl; rfl
  apply Run.done; refine ⟨fun h => Bool.noConfusion h, ?_⟩
  obtain rfl := Option.some.inj H
  refine Ev.y4 ?_
  refine XEnv.mk ?_
  refine Ent.list [] (io0 hio _) rfl ?_ ?_ <;> (repeat' first | exact trivial | (refine And.intro ⟨_, rfl, fun h => (by first | rfl | exact Bool.noConfusion h)⟩ ?_))
  intro e E' hX; obtain ⟨rfl, g23⟩ := XEnv.out hX
  apply x3
  refine CodeT.weak g23 ?_
  (repeat apply CodeT.seq)
  refine CodeT.cond rfl (fun h => ?_) (fun h => ?_)
  replace H := ifTb h H
  (repeat apply CodeT.seq)
  apply CodeT.region (fun _ => PPm)
  apply Run.op; (apply L_asg; rfl; rfl); rfl; rfl
  apply Run.done; refine ⟨fun h => Bool.noConfusion h, ?_⟩
  apply x3
  apply CodeT.ret
  apply x1
  cases H
  apply x12
  exact RetIs.sc1 rfl
  replace H := ifFb h H
  (repeat apply CodeT.seq)
  apply CodeT.skip
  apply x3
  (repeat apply CodeT.seq)
  apply CodeT.region (fun _ => PPm)
  apply Run.op; (apply L_asg; rfl; rfl); rfl; rfl
  apply Run.done; refine ⟨fun h => Bool.noConfusion h, ?_⟩
  apply x3
  (repeat apply CodeT.seq)
  refine CodeT.weak (Ent.sleep (k := 0) rfl) ?_
  refine CodeT.weak (Ent.sleep (k := 1) rfl) ?_
  refine CodeT.weak (E' := ⟨[(0, ⟨.sc c0, false⟩), (1, ⟨.sc c1, false⟩), (6, ⟨.ref 506 11 0 r4.1.length, false⟩), (7, ⟨.sc (.bool r4.2), false⟩), (10, ⟨.ref 510 11 0 r7.1.length, false⟩), (13, ⟨.sc (.int .i64 1), false⟩)], [(506, some ⟨r4.1.flatMap encWLink, true, false⟩), (510, some ⟨r7.1.flatMap encWLink, true, false⟩)]⟩) ?_ ?_
  refine Ent.list [] (io0 hio _) rfl ?_ ?_ <;> (repeat' first | exact trivial | (refine And.intro ⟨_, rfl, fun h => (by first | rfl | exact Bool.noConfusion h)⟩ ?_))
  apply CodeT.region (fun _ => PPm)
  apply Run.op; (apply L_mov; rfl; rfl); rfl; rfl
  apply Run.op; (apply L_mov; rfl; rfl); rfl; rfl
  obtain ⟨r24, hr24, H⟩ := bindS H
  have hl25 := len_laws_markLinkS r7.1 1 _ hr24
  apply Run.op; (apply L_callN (l := 510); ((apply ArgsX.cons (l := []) (m := []); (apply ArgX.io (p := .ref 100000 11 0 r7.1.length); rfl)); (apply ArgsX.cons (l := []) (m := []); (apply ArgX.val; (apply ArgV.val; rfl; rfl); rfl)); (apply ArgsX.nil)); (exact m_laws_markLinkS r7.1 1 _ hr24); rfl; rfl; rfl; rfl; (exact hle); rfl); rfl; rfl
  apply Run.op; (apply L_asg; rfl; rfl); rfl; rfl
  apply Run.done; refine ⟨fun h => Bool.noConfusion h, ?_⟩
  apply x3
  refine CodeT.weak (Ent.wake (k := 0) rfl old0) ?_
  refine CodeT.weak (Ent.wake (k := 1) rfl old1) ?_
  (repeat apply CodeT.seq)
  refine CodeT.weak (Ent.relen (k := 10) (n' := r24.2.length) rfl (by first | (simp only [setI_len]; done) | (simp only [setI_len]; omega) | omega)) ?_
  apply CodeT.region (fun _ => PPm)
  apply Run.op; (apply L_asg; rfl; rfl); rfl; rfl
  apply Run.done; refine ⟨fun h => Bool.noConfusion h, ?_⟩
  apply x3
  (repeat apply CodeT.seq)
  apply CodeT.region (fun _ => PPm)
  apply Run.op; (apply L_mov; rfl; rfl); rfl; rfl
  apply Run.op; (apply L_mov; rfl; rfl); rfl; rfl
  obtain ⟨r26, hr26, H⟩ := bindS H
  apply Run.op; (apply L_call; ((apply ArgsV.cons; (apply ArgV.refS; rfl; rfl; (exact (SoftL.flat softLink _)))); (apply ArgsV.cons; (apply ArgV.val; rfl; rfl)); (apply ArgsV.nil)); (exact m_laws_heldLinkS r24.2 1 _ hr26); rfl; rfl; rfl); rfl; rfl
  apply Run.op; (apply L_asg; rfl; rfl); rfl; rfl
  apply Run.done; refine ⟨fun h => Bool.noConfusion h, ?_⟩
  apply x3
  (repeat apply CodeT.seq)
  apply CodeT.region (fun _ => PPm)
  apply Run.op; (apply L_mov; rfl; rfl); rfl; rfl
  apply Run.op; (apply L_lss; rfl; rfl; rfl); rfl; rfl
  apply Run.done; refine ⟨fun h => Bool.noConfusion h, ?_⟩
  apply x3
  (repeat apply CodeT.seq)
  refine CodeT.cond rfl (fun h => ?_) (fun h => ?_)
  replace H := ifT (of_decide_eq_true h) H
  (repeat apply CodeT.seq)
  apply CodeT.region (fun _ => PPm)
  apply Run.op; (apply L_asg; rfl; rfl); rfl; rfl
  apply Run.done; refine ⟨fun h => Bool.noConfusion h, ?_⟩
  apply x3
  apply CodeT.ret
  apply x1
  cases H
  apply x12
  exact RetIs.sc1 rfl
  replace H := ifF (of_decide_eq_false h) H
  (repeat apply CodeT.seq)
  apply CodeT.skip
  apply x3
  (repeat apply CodeT.seq)
  apply CodeT.region (fun _ => PPm)
  apply Run.op; (apply L_mov; rfl; rfl); rfl; rfl
  apply Run.op; (apply L_mov; rfl; rfl); rfl; rfl
  apply Run.op; (apply L_neq; rfl; rfl; rfl); rfl; rfl
  apply Run.done; refine ⟨fun h => Bool.noConfusion h, ?_⟩
  apply x3
  (repeat apply CodeT.seq)
  refine CodeT.cond rfl (fun h => ?_) (fun h => ?_)
  replace H := ifT (of_decide_eq_true h) H
  (repeat apply CodeT.seq)
  apply CodeT.region (fun _ => PPm)
  apply Run.op; (apply L_asg; rfl; rfl); rfl; rfl
  apply Run.done; refine ⟨fun h => Bool.noConfusion h, ?_⟩
  apply x3
  apply CodeT.ret
  apply x1
  cases H
  apply x12
  exact RetIs.sc1 rfl
  replace H := ifF (of_decide_eq_false h) H
  (repeat apply CodeT.seq)
  apply CodeT.skip
  apply x3
  (repeat apply CodeT.seq)
  apply CodeT.region (fun _ => PPm)
  apply Run.op; (apply L_mov; rfl; rfl); rfl; rfl
  obtain ⟨r27, hr27, H⟩ := bindS H
  apply Run.op; (apply L_callW; ((apply ArgsV.cons; (apply ArgV.val; rfl; rfl)); (apply ArgsV.nil)); (exact m_laws_toFactorS a0 _ hr27); (exact io1 hio _); rfl); rfl; rfl
  apply Run.op; (apply L_mov; rfl; rfl); rfl; rfl
  obtain ⟨r28, hr28, H⟩ := bindS H
  apply Run.op; (apply L_callW; ((apply ArgsV.cons; (apply ArgV.val; rfl; rfl)); (apply ArgsV.nil)); (exact m_laws_toIntS a1 _ hr28); (exact io1 hio _); rfl); rfl; rfl
  obtain ⟨r29, hr29, H⟩ := bindS H
  apply Run.op; (apply L_callT 1970; ((apply ArgsV.cons; (apply ArgV.ref; rfl; rfl; (first | exact Nat.le_of_eq (flat_len (fun _ => rfl)) | exact Nat.le_of_ble_eq_true rfl))); (apply ArgsV.cons; (apply ArgV.ref; rfl; rfl; (first | exact Nat.le_of_eq (flat_len (fun _ => rfl)) | exact Nat.le_of_ble_eq_true rfl))); (apply ArgsV.nil)); (exact m_impl_LinksOf r27 r28 _ hr29); rfl; rfl; rfl; (exact ⟨io1 hio _, trivial⟩); rfl); rfl; rfl
  apply Run.op; (apply L_mov; rfl; rfl); rfl; rfl
  apply Run.op; (apply L_extR; rfl; rfl; rfl); rfl; rfl
  apply Run.op; (apply L_extR; rfl; rfl; rfl); rfl; rfl
  apply Run.op; (apply L_asg; rfl; rfl); rfl; rfl
  apply Run.op; (apply L_asg; rfl; rfl); rfl; rfl
  apply Run.done; refine ⟨fun h => Bool.noConfusion h, ?_⟩
  apply x3
  (repeat apply CodeT.seq)
  obtain ⟨d32, hd32, H⟩ := bindS H
  refine CodeT.lcut (x := d32) (fun d e E => XEnv Γ .normal ⟨[(10, ⟨.ref 510 11 0 r24.2.length, false⟩), (13, ⟨.sc (.int .i64 r24.1), false⟩), (108, ⟨.sc (.bool d), false⟩)], [(510, some ⟨r24.2.flatMap encWLink, true, false⟩)]⟩ e E) ?_ ?_
  clear H; have H := hd32; clear hd32
  apply CodeT.region (fun _ => PPm)
  apply Run.op; (apply L_mov; rfl; rfl); rfl; rfl
  apply Run.op; (apply L_mov; rfl; rfl); rfl; rfl
  obtain ⟨r30, hr30, H⟩ := bindS H
  apply R_bool; (apply L_call; ((apply ArgsV.cons; (apply ArgV.refS; rfl; rfl; (exact (SoftL.flat softLink _)))); (apply ArgsV.cons; (apply ArgV.refS; rfl; rfl; (exact (SoftL.flat softLink _)))); (apply ArgsV.nil)); (exact m_laws_eqLinkS r29.1 r4.1 _ hr30); rfl; rfl; rfl); rfl
  intro h; replace H := ifTb h H
  apply Run.op; (apply L_not; rfl; rfl); rfl; rfl
  apply Run.op; (apply L_mov; rfl; rfl); rfl; rfl
  apply Run.op; (apply L_mov; rfl; rfl); rfl; rfl
  apply Run.op; (apply L_mov; rfl; rfl); rfl; rfl
  apply Run.op; (apply L_bneq; rfl; rfl; rfl); rfl; rfl
  apply Run.op; (apply L_pickF; rfl; rfl; rfl); rfl; rfl
  apply Run.done; refine ⟨fun h => Bool.noConfusion h, ?_⟩
  obtain rfl := Option.some.inj H
  refine Ev.y4 ?_
  refine XEnv.mk ?_
  refine Ent.list [] (io0 hio _) rfl ?_ ?_ <;> (repeat' first | exact trivial | (refine And.intro ⟨_, rfl, fun h => (by first | rfl | exact Bool.noConfusion h)⟩ ?_))
  intro h; replace H := ifFb h H
  apply Run.op; (apply L_not; rfl; rfl); rfl; rfl
  apply Run.op; (apply L_mov; rfl; rfl); rfl; rfl
  apply Run.skip; rfl
  apply Run.skip; rfl
  apply Run.skip; rfl
  apply Run.op; (apply L_pickT; rfl; rfl; rfl); rfl; rfl
  apply Run.done; refine ⟨fun h => Bool.noConfusion h, ?_⟩
  obtain rfl := Option.some.inj H
  refine Ev.y4 ?_
  refine XEnv.mk ?_
  refine Ent.list [] (io0 hio _) rfl ?_ ?_ <;> (repeat' first | exact trivial | (refine And.intro ⟨_, rfl, fun h => (by first | rfl | exact Bool.noConfusion h)⟩ ?_))
  intro e E' hX; obtain ⟨rfl, g33⟩ := XEnv.out hX
  apply x3
  refine CodeT.weak g33 ?_
  (repeat apply CodeT.seq)
  refine CodeT.cond rfl (fun h => ?_) (fun h => ?_)
  replace H := ifTb h H
  (repeat apply CodeT.seq)
  apply CodeT.region (fun _ => PPm)
  apply Run.op; (apply L_asg; rfl; rfl); rfl; rfl
  apply Run.done; refine ⟨fun h => Bool.noConfusion h, ?_⟩
  apply x3
  apply CodeT.ret
  apply x1
  cases H
  apply x12
  exact RetIs.sc1 rfl
  replace H := ifFb h H
  (repeat apply CodeT.seq)
  apply CodeT.skip
  apply x3
  (repeat apply CodeT.seq)
  apply CodeT.region (fun _ => PPm)
  apply Run.op; (apply L_asg; rfl; rfl); rfl; rfl
  apply Run.done; refine ⟨fun h => Bool.noConfusion h, ?_⟩
  apply x3
  (repeat apply CodeT.seq)
  apply CodeT.region (fun _ => PPm)
  apply Run.op; (apply L_mov; rfl; rfl); rfl; rfl
  apply Run.op; (apply L_mov; rfl; rfl); rfl; rfl
  obtain ⟨r34, hr34, H⟩ := bindS H
  apply Run.op; (apply L_call; ((apply ArgsV.cons; (apply ArgV.refS; rfl; rfl; (exact (SoftL.flat softLink _)))); (apply ArgsV.cons; (apply ArgV.val; rfl; rfl)); (apply ArgsV.nil)); (exact m_laws_heldLinkS r24.2 1 _ hr34); rfl; rfl; rfl); rfl; rfl
  apply Run.op; (apply L_asg; rfl; rfl); rfl; rfl
  apply Run.done; refine ⟨fun h => Bool.noConfusion h, ?_⟩
  apply x3
  (repeat apply CodeT.seq)
  apply CodeT.region (fun _ => PPm)
  apply Run.op; (apply L_mov; rfl; rfl); rfl; rfl
  apply Run.op; (apply L_lss; rfl; rfl; rfl); rfl; rfl
  apply Run.done; refine ⟨fun h => Bool.noConfusion h, ?_⟩
  apply x3
  (repeat apply CodeT.seq)
  refine CodeT.cond rfl (fun h => ?_) (fun h => ?_)
  replace H := ifT (of_decide_eq_true h) H
  (repeat apply CodeT.seq)
  apply CodeT.region (fun _ => PPm)
  apply Run.op; (apply L_asg; rfl; rfl); rfl; rfl
  apply Run.done; refine ⟨fun h => Bool.noConfusion h, ?_⟩
  apply x3
  apply CodeT.ret
  apply x1
  cases H
  apply x12
  exact RetIs.sc1 rfl
  replace H := ifF (of_decide_eq_false h) H
  (repeat apply CodeT.seq)
  apply CodeT.skip
  apply x3
  (repeat apply CodeT.seq)
  apply CodeT.region (fun _ => PPm)
  apply Run.op; (apply L_mov; rfl; rfl); rfl; rfl
  apply Run.op; (apply L_mov; rfl; rfl); rfl; rfl
  apply Run.op; (apply L_neq; rfl; rfl; rfl); rfl; rfl
  apply Run.done; refine ⟨fun h => Bool.noConfusion h, ?_⟩
  apply x3
  (repeat apply CodeT.seq)
  refine CodeT.cond rfl (fun h => ?_) (fun h => ?_)
  replace H := ifT (of_decide_eq_true h) H
  (repeat apply CodeT.seq)
  apply CodeT.region (fun _ => PPm)
  apply Run.op; (apply L_asg; rfl; rfl); rfl; rfl
  apply Run.done; refine ⟨fun h => Bool.noConfusion h, ?_⟩
  apply x3
  apply CodeT.ret
  apply x1
  cases H
  apply x12
  exact RetIs.sc1 rfl
  replace H := ifF (of_decide_eq_false h) H
  (repeat apply CodeT.seq)
  apply CodeT.skip
  apply x3
  (repeat apply CodeT.seq)
  apply CodeT.region (fun _ => PPm)
  apply Run.op; (apply L_asg; rfl; rfl); rfl; rfl
  apply Run.done; refine ⟨fun h => Bool.noConfusion h, ?_⟩
  apply x3
  apply CodeT.ret
  cases H
  apply x12
  exact RetIs.sc1 rfl
end Go.Ev
