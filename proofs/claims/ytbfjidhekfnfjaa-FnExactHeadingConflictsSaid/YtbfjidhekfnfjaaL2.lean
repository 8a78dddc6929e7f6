/- The walks of lifted functions, printed by program (lift.py). -/
import Derived.Test.YtbfjidhekfnfjaaL1
set_option linter.all false
namespace Go.Ev
open Go.Proofs
set_option linter.all false
attribute [local irreducible] CodeT Ent Meets MeetsX Local LocalAt Res1 RetIs RetX Sim OpT StepT NoLab Then InBlock Round Cut ends endsX LRound LCut XEnv XRet XRetX
theorem m_laws_eqIntS (a0 : (List Int)) (a1 : (List Int)) (r : Bool) (H : laws_eqIntS a0 a1 = some r) : Meets Try.prog 18 [.sl a0.length (a0.flatMap (encI .i64)), .sl a1.length (a1.flatMap (encI .i64))] (.sc (.bool r)) true := by
  refine Meets.intro2 (N := 26) (rs := #[.tmp 4]) Try.func18 rfl rfl rfl rfl ?_
  intro Γ hio
  unfold laws_eqIntS at H
  (repeat apply CodeT.seq)
  apply CodeT.region (fun _ => PPm)
  apply Run.op; (apply L_asg; rfl; rfl); rfl; rfl
  apply Run.done; refine ⟨fun h => Bool.noConfusion h, ?_⟩
  apply x3
  (repeat apply CodeT.seq)
  apply CodeT.region (fun _ => PPm)
  apply Run.op; (apply L_mov; rfl; rfl); rfl; rfl
  apply Run.op; (apply L_len; rfl; rfl); rfl; rfl
  apply Run.op; (apply L_mov; rfl; rfl); rfl; rfl
  apply Run.op; (apply L_len; rfl; rfl); rfl; rfl
  apply Run.op; (apply L_neq; rfl; rfl; rfl); rfl; rfl
  apply Run.done; refine ⟨fun h => Bool.noConfusion h, ?_⟩
  apply x3
  (repeat apply CodeT.seq)
  refine CodeT.cond rfl (fun h => ?_) (fun h => ?_)
  replace H := ifT (of_decide_eq_true h) H
  (repeat apply CodeT.seq)
  apply CodeT.region (fun _ => PPm)
  apply Run.op; (apply L_asg; rfl; rfl); rfl; rfl
  apply Run.done; refine ⟨fun h => Bool.noConfusion h, ?_⟩
  apply x3
  apply CodeT.ret
  apply x1
  cases H
  apply x12
  exact RetIs.sc1 rfl
  replace H := ifF (of_decide_eq_false h) H
  (repeat apply CodeT.seq)
  apply CodeT.skip
  apply x3
  (repeat apply CodeT.seq)
  apply CodeT.region (fun _ => PPm)
  apply Run.op; (apply L_asg; rfl; rfl); rfl; rfl
  apply Run.done; refine ⟨fun h => Bool.noConfusion h, ?_⟩
  apply x3
  (repeat apply CodeT.seq)
  apply CodeT.block
  (repeat apply CodeT.seq)
  obtain ⟨d6, hd6, H⟩ := bindS H
  refine CodeT.lloop (fun s => ⟨[(0, ⟨.sl a0.length (a0.flatMap (encI .i64)), false⟩), (1, ⟨.sl a1.length (a1.flatMap (encI .i64)), false⟩), (5, ⟨.sc (.int .i64 s), false⟩)], []⟩) (fun x e E => match x with | (.inl d) => XEnv Γ (.exit 0) ⟨[], []⟩ e E | (.inr d) => XRet Γ #[.tmp 4] (.sc (.bool d)) true e E) hd6 ?_ ?_ ?_
  refine Ent.list [] (io0 hio _) rfl ?_ ?_ <;> (repeat' first | exact trivial | (refine And.intro ⟨_, rfl, fun h => (by first | rfl | exact Bool.noConfusion h)⟩ ?_))
  clear H hd6
  rintro v3 o H
  unfold laws_eqIntS_L1 at H
  (repeat apply CodeT.seq)
  apply CodeT.region (fun _ => PPm)
  apply Run.op; (apply L_mov; rfl; rfl); rfl; rfl
  apply Run.op; (apply L_mov; rfl; rfl); rfl; rfl
  apply Run.op; (apply L_len; rfl; rfl); rfl; rfl
  apply Run.op; (apply L_lss; rfl; rfl; rfl); rfl; rfl
  apply Run.done; refine ⟨fun h => Bool.noConfusion h, ?_⟩
  apply x3
  (repeat apply CodeT.seq)
  refine CodeT.cond rfl (fun h => ?_) (fun h => ?_)
  replace H := ifT (of_decide_eq_true h) H
  (repeat apply CodeT.seq)
  apply CodeT.skip
  apply x3
  (repeat apply CodeT.seq)
  apply CodeT.block
  (repeat apply CodeT.seq)
  apply CodeT.region (fun _ => PPm)
  apply Run.op; (apply L_mov; rfl; rfl); rfl; rfl
  apply Run.op; (apply L_mov; rfl; rfl); rfl; rfl
  obtain ⟨y4, hy4, H⟩ := bindS H
  apply Run.op; (apply L_ixS2; rfl; rfl; rfl; (exact hy4); (intro _; rfl); rfl); rfl; rfl
  apply Run.op; (apply L_ldI; rfl; rfl; rfl; rfl); rfl; rfl
  apply Run.op; (apply L_mov; rfl; rfl); rfl; rfl
  apply Run.op; (apply L_mov; rfl; rfl); rfl; rfl
  obtain ⟨y5, hy5, H⟩ := bindS H
  apply Run.op; (apply L_ixS2; rfl; rfl; rfl; (exact hy5); (intro _; rfl); rfl); rfl; rfl
  apply Run.op; (apply L_ldI; rfl; rfl; rfl; rfl); rfl; rfl
  apply Run.op; (apply L_neq; rfl; rfl; rfl); rfl; rfl
  apply Run.done; refine ⟨fun _ => ⟨rfl, rfl⟩, ?_⟩
  apply x3
  refine CodeT.cond rfl (fun h => ?_) (fun h => ?_)
  replace H := ifT (of_decide_eq_true h) H
  (repeat apply CodeT.seq)
  apply CodeT.region (fun _ => PPm)
  apply Run.op; (apply L_asg; rfl; rfl); rfl; rfl
  apply Run.done; refine ⟨fun h => Bool.noConfusion h, ?_⟩
  apply x3
  apply CodeT.ret
  apply x4
  apply x1
  obtain rfl := Option.some.inj H
  refine Ev.y2 ?_
  refine XRet.mk ?_
  exact RetIs.sc1 rfl
  replace H := ifF (of_decide_eq_false h) H
  (repeat apply CodeT.seq)
  apply CodeT.skip
  apply x5
  apply x3
  apply CodeT.region (fun _ => PPm)
  apply Run.op; (apply L_mov; rfl; rfl); rfl; rfl
  apply Run.op; (apply L_add; rfl; rfl; rfl; rfl); rfl; rfl
  apply Run.op; (apply L_asg; rfl; rfl); rfl; rfl
  apply Run.done; refine ⟨fun h => Bool.noConfusion h, ?_⟩
  obtain rfl := Option.some.inj H
  refine Ev.y1 ?_
  refine Ent.list [] (io0 hio _) rfl ?_ ?_ <;> (repeat' first | exact trivial | (refine And.intro ⟨_, rfl, fun h => (by first | rfl | exact Bool.noConfusion h)⟩ ?_))
  replace H := ifF (of_decide_eq_false h) H
  (repeat apply CodeT.seq)
  apply CodeT.exit
  apply x2
  obtain rfl := Option.some.inj H
  refine Ev.y3 ?_
  refine XEnv.mk ?_
  refine Ent.list [] (io0 hio _) rfl ?_ ?_ <;> (repeat' first | exact trivial | (refine And.intro ⟨_, rfl, fun h => (by first | rfl | exact Bool.noConfusion h)⟩ ?_))
  rcases d6 with (d7 | d9)
  intro e E' hX; obtain ⟨rfl, g8⟩ := XEnv.out hX
  refine x6 rfl ?_
  apply x3
  refine CodeT.weak g8 ?_
  (repeat apply CodeT.seq)
  apply CodeT.region (fun _ => PPm)
  apply Run.op; (apply L_asg; rfl; rfl); rfl; rfl
  apply Run.done; refine ⟨fun h => Bool.noConfusion h, ?_⟩
  apply x3
  apply CodeT.ret
  cases H
  apply x12
  exact RetIs.sc1 rfl
  intro e E' hX; obtain ⟨rfl, g10⟩ := XRet.out hX
  apply x4
  apply x1
  cases H
  apply x12
  exact g10
theorem m_laws_eqPose (a0 : Pose) (a1 : Pose) (r : Bool) (H : laws_eqPose a0 a1 = some r) : Meets Try.prog 81 [.agg (encPose a0), .agg (encPose a1)] (.sc (.bool r)) true := by
  refine Meets.intro2 (N := 20) (rs := #[.tmp 4]) Try.func81 rfl rfl rfl rfl ?_
  intro Γ hio
  unfold laws_eqPose at H
  (repeat apply CodeT.seq)
  apply CodeT.region (fun _ => PPm)
  apply Run.op; (apply L_box false; rfl; rfl; rfl; (exact io1 hio _); rfl); rfl; rfl
  apply Run.op; (apply L_box false; rfl; rfl; rfl; (exact io1 hio _); rfl); rfl; rfl
  apply Run.op; (apply L_asg; rfl; rfl); rfl; rfl
  apply Run.done; refine ⟨fun h => Bool.noConfusion h, ?_⟩
  apply x3
  (repeat apply CodeT.seq)
  apply CodeT.region (fun _ => PPm)
  apply Run.op; (apply L_fldP; rfl; rfl; rfl; rfl); rfl; rfl
  apply Run.op; (apply L_ldP; rfl; rfl; rfl; (first | exact .inl rfl | exact .inr rfl); rfl); rfl; rfl
  apply Run.op; (apply L_fldP; rfl; rfl; rfl; rfl); rfl; rfl
  apply Run.op; (apply L_ldP; rfl; rfl; rfl; (first | exact .inl rfl | exact .inr rfl); rfl); rfl; rfl
  apply Run.op; (apply L_neq; rfl; rfl; rfl); rfl; rfl
  apply Run.done; refine ⟨fun h => Bool.noConfusion h, ?_⟩
  apply x3
  (repeat apply CodeT.seq)
  refine CodeT.cond rfl (fun h => ?_) (fun h => ?_)
  replace H := ifT (of_decide_eq_true h) H
  (repeat apply CodeT.seq)
  apply CodeT.region (fun _ => PPm)
  apply Run.op; (apply L_asg; rfl; rfl); rfl; rfl
  apply Run.done; refine ⟨fun h => Bool.noConfusion h, ?_⟩
  apply x3
  apply CodeT.ret
  apply x1
  cases H
  apply x12
  exact RetIs.sc1 rfl
  replace H := ifF (of_decide_eq_false h) H
  (repeat apply CodeT.seq)
  apply CodeT.skip
  apply x3
  (repeat apply CodeT.seq)
  apply CodeT.region (fun _ => PPm)
  apply Run.op; (apply L_fldP; rfl; rfl; rfl; rfl); rfl; rfl
  apply Run.op; (apply L_ldP; rfl; rfl; rfl; (first | exact .inl rfl | exact .inr rfl); rfl); rfl; rfl
  apply Run.op; (apply L_fldP; rfl; rfl; rfl; rfl); rfl; rfl
  apply Run.op; (apply L_ldP; rfl; rfl; rfl; (first | exact .inl rfl | exact .inr rfl); rfl); rfl; rfl
  apply Run.op; (apply L_neq; rfl; rfl; rfl); rfl; rfl
  apply Run.done; refine ⟨fun h => Bool.noConfusion h, ?_⟩
  apply x3
  (repeat apply CodeT.seq)
  refine CodeT.cond rfl (fun h => ?_) (fun h => ?_)
  replace H := ifT (of_decide_eq_true h) H
  (repeat apply CodeT.seq)
  apply CodeT.region (fun _ => PPm)
  apply Run.op; (apply L_asg; rfl; rfl); rfl; rfl
  apply Run.done; refine ⟨fun h => Bool.noConfusion h, ?_⟩
  apply x3
  apply CodeT.ret
  apply x1
  cases H
  apply x12
  exact RetIs.sc1 rfl
  replace H := ifF (of_decide_eq_false h) H
  (repeat apply CodeT.seq)
  apply CodeT.skip
  apply x3
  (repeat apply CodeT.seq)
  apply CodeT.region (fun _ => PPm)
  apply Run.op; (apply L_fldP; rfl; rfl; rfl; rfl); rfl; rfl
  apply Run.op; (apply L_ldP; rfl; rfl; rfl; (first | exact .inl rfl | exact .inr rfl); rfl); rfl; rfl
  apply Run.op; (apply L_fldP; rfl; rfl; rfl; rfl); rfl; rfl
  apply Run.op; (apply L_ldP; rfl; rfl; rfl; (first | exact .inl rfl | exact .inr rfl); rfl); rfl; rfl
  apply Run.op; (apply L_neq; rfl; rfl; rfl); rfl; rfl
  apply Run.done; refine ⟨fun h => Bool.noConfusion h, ?_⟩
  apply x3
  (repeat apply CodeT.seq)
  refine CodeT.cond rfl (fun h => ?_) (fun h => ?_)
  replace H := ifT (of_decide_eq_true h) H
  (repeat apply CodeT.seq)
  apply CodeT.region (fun _ => PPm)
  apply Run.op; (apply L_asg; rfl; rfl); rfl; rfl
  apply Run.done; refine ⟨fun h => Bool.noConfusion h, ?_⟩
  apply x3
  apply CodeT.ret
  apply x1
  cases H
  apply x12
  exact RetIs.sc1 rfl
  replace H := ifF (of_decide_eq_false h) H
  (repeat apply CodeT.seq)
  apply CodeT.skip
  apply x3
  (repeat apply CodeT.seq)
  apply CodeT.region (fun _ => PPm)
  apply Run.op; (apply L_asg; rfl; rfl); rfl; rfl
  apply Run.done; refine ⟨fun h => Bool.noConfusion h, ?_⟩
  apply x3
  apply CodeT.ret
  cases H
  apply x12
  exact RetIs.sc1 rfl
theorem m_laws_eqFactor (a0 : Factor) (a1 : Factor) (r : Bool) (H : laws_eqFactor a0 a1 = some r) : Meets Try.prog 77 [.agg (encFactor a0), .agg (encFactor a1)] (.sc (.bool r)) true := by
  refine Meets.intro2 (N := 36) (rs := #[.tmp 4]) Try.func77 rfl rfl rfl rfl ?_
  intro Γ hio
  unfold laws_eqFactor at H
  (repeat apply CodeT.seq)
  apply CodeT.region (fun _ => PPm)
  apply Run.op; (apply L_box false; rfl; rfl; rfl; (exact io1 hio _); rfl); rfl; rfl
  apply Run.op; (apply L_box false; rfl; rfl; rfl; (exact io1 hio _); rfl); rfl; rfl
  apply Run.op; (apply L_asg; rfl; rfl); rfl; rfl
  apply Run.done; refine ⟨fun h => Bool.noConfusion h, ?_⟩
  apply x3
  (repeat apply CodeT.seq)
  apply CodeT.region (fun _ => PPm)
  apply Run.op; (apply L_fldP; rfl; rfl; rfl; rfl); rfl; rfl
  apply Run.op; (apply L_ldP; rfl; rfl; rfl; (first | exact .inl rfl | exact .inr rfl); rfl); rfl; rfl
  apply Run.op; (apply L_fldP; rfl; rfl; rfl; rfl); rfl; rfl
  apply Run.op; (apply L_ldP; rfl; rfl; rfl; (first | exact .inl rfl | exact .inr rfl); rfl); rfl; rfl
  apply Run.op; (apply L_neq; rfl; rfl; rfl); rfl; rfl
  apply Run.done; refine ⟨fun h => Bool.noConfusion h, ?_⟩
  apply x3
  (repeat apply CodeT.seq)
  refine CodeT.cond rfl (fun h => ?_) (fun h => ?_)
  replace H := ifT (of_decide_eq_true h) H
  (repeat apply CodeT.seq)
  apply CodeT.region (fun _ => PPm)
  apply Run.op; (apply L_asg; rfl; rfl); rfl; rfl
  apply Run.done; refine ⟨fun h => Bool.noConfusion h, ?_⟩
  apply x3
  apply CodeT.ret
  apply x1
  cases H
  apply x12
  exact RetIs.sc1 rfl
  replace H := ifF (of_decide_eq_false h) H
  (repeat apply CodeT.seq)
  apply CodeT.skip
  apply x3
  (repeat apply CodeT.seq)
  apply CodeT.region (fun _ => PPm)
  apply Run.op; (apply L_fldP; rfl; rfl; rfl; rfl); rfl; rfl
  apply Run.op; (apply L_ldP; rfl; rfl; rfl; (first | exact .inl rfl | exact .inr rfl); rfl); rfl; rfl
  apply Run.op; (apply L_fldP; rfl; rfl; rfl; rfl); rfl; rfl
  apply Run.op; (apply L_ldP; rfl; rfl; rfl; (first | exact .inl rfl | exact .inr rfl); rfl); rfl; rfl
  apply Run.op; (apply L_neq; rfl; rfl; rfl); rfl; rfl
  apply Run.done; refine ⟨fun h => Bool.noConfusion h, ?_⟩
  apply x3
  (repeat apply CodeT.seq)
  refine CodeT.cond rfl (fun h => ?_) (fun h => ?_)
  replace H := ifT (of_decide_eq_true h) H
  (repeat apply CodeT.seq)
  apply CodeT.region (fun _ => PPm)
  apply Run.op; (apply L_asg; rfl; rfl); rfl; rfl
  apply Run.done; refine ⟨fun h => Bool.noConfusion h, ?_⟩
  apply x3
  apply CodeT.ret
  apply x1
  cases H
  apply x12
  exact RetIs.sc1 rfl
  replace H := ifF (of_decide_eq_false h) H
  (repeat apply CodeT.seq)
  apply CodeT.skip
  apply x3
  (repeat apply CodeT.seq)
  apply CodeT.region (fun _ => PPm)
  apply Run.op; (apply L_fldP; rfl; rfl; rfl; rfl); rfl; rfl
  apply Run.op; (apply L_ldP; rfl; rfl; rfl; (first | exact .inl rfl | exact .inr rfl); rfl); rfl; rfl
  apply Run.op; (apply L_fldP; rfl; rfl; rfl; rfl); rfl; rfl
  apply Run.op; (apply L_ldP; rfl; rfl; rfl; (first | exact .inl rfl | exact .inr rfl); rfl); rfl; rfl
  apply Run.op; (apply L_sneq; rfl; rfl; rfl); rfl; rfl
  apply Run.done; refine ⟨fun h => Bool.noConfusion h, ?_⟩
  apply x3
  (repeat apply CodeT.seq)
  refine CodeT.cond rfl (fun h => ?_) (fun h => ?_)
  replace H := ifT (of_decide_eq_true h) H
  (repeat apply CodeT.seq)
  apply CodeT.region (fun _ => PPm)
  apply Run.op; (apply L_asg; rfl; rfl); rfl; rfl
  apply Run.done; refine ⟨fun h => Bool.noConfusion h, ?_⟩
  apply x3
  apply CodeT.ret
  apply x1
  cases H
  apply x12
  exact RetIs.sc1 rfl
  replace H := ifF (of_decide_eq_false h) H
  (repeat apply CodeT.seq)
  apply CodeT.skip
  apply x3
  (repeat apply CodeT.seq)
  apply CodeT.region (fun _ => PPm)
  apply Run.op; (apply L_fldP; rfl; rfl; rfl; rfl); rfl; rfl
  apply Run.op; (apply L_ldP; rfl; rfl; rfl; (first | exact .inl rfl | exact .inr rfl); rfl); rfl; rfl
  apply Run.op; (apply L_fldP; rfl; rfl; rfl; rfl); rfl; rfl
  apply Run.op; (apply L_ldP; rfl; rfl; rfl; (first | exact .inl rfl | exact .inr rfl); rfl); rfl; rfl
  apply Run.op; (apply L_sneq; rfl; rfl; rfl); rfl; rfl
  apply Run.done; refine ⟨fun h => Bool.noConfusion h, ?_⟩
  apply x3
  (repeat apply CodeT.seq)
  refine CodeT.cond rfl (fun h => ?_) (fun h => ?_)
  replace H := ifT (of_decide_eq_true h) H
  (repeat apply CodeT.seq)
  apply CodeT.region (fun _ => PPm)
  apply Run.op; (apply L_asg; rfl; rfl); rfl; rfl
  apply Run.done; refine ⟨fun h => Bool.noConfusion h, ?_⟩
  apply x3
  apply CodeT.ret
  apply x1
  cases H
  apply x12
  exact RetIs.sc1 rfl
  replace H := ifF (of_decide_eq_false h) H
  (repeat apply CodeT.seq)
  apply CodeT.skip
  apply x3
  (repeat apply CodeT.seq)
  apply CodeT.region (fun _ => PPm)
  apply Run.op; (apply L_fldP; rfl; rfl; rfl; rfl); rfl; rfl
  apply Run.op; (apply L_ldPA; rfl; rfl; (first | exact seg_whole rfl | rfl); rfl; (intro h; cases h); (first | exact .inl rfl | exact .inr rfl); rfl); rfl; rfl
  apply Run.op; (apply L_fldP; rfl; rfl; rfl; rfl); rfl; rfl
  apply Run.op; (apply L_ldPA; rfl; rfl; (first | exact seg_whole rfl | rfl); rfl; (intro h; cases h); (first | exact .inl rfl | exact .inr rfl); rfl); rfl; rfl
  obtain ⟨r1, hr1, H⟩ := bindS H
  apply Run.op; (apply L_call; ((apply ArgsV.cons; (apply ArgV.val; rfl; rfl)); (apply ArgsV.cons; (apply ArgV.val; rfl; rfl)); (apply ArgsV.nil)); (exact m_laws_eqPose a0.fPose a1.fPose _ hr1); rfl; rfl; rfl); rfl; rfl
  apply Run.op; (apply L_not; rfl; rfl); rfl; rfl
  apply Run.done; refine ⟨fun h => Bool.noConfusion h, ?_⟩
  apply x3
  (repeat apply CodeT.seq)
  refine CodeT.cond rfl (fun h => ?_) (fun h => ?_)
  replace H := ifFb (notT h) H
  (repeat apply CodeT.seq)
  apply CodeT.region (fun _ => PPm)
  apply Run.op; (apply L_asg; rfl; rfl); rfl; rfl
  apply Run.done; refine ⟨fun h => Bool.noConfusion h, ?_⟩
  apply x3
  apply CodeT.ret
  apply x1
  cases H
  apply x12
  exact RetIs.sc1 rfl
  replace H := ifTb (notF h) H
  (repeat apply CodeT.seq)
  apply CodeT.skip
  apply x3
  (repeat apply CodeT.seq)
  apply CodeT.region (fun _ => PPm)
  apply Run.op; (apply L_fldP; rfl; rfl; rfl; rfl); rfl; rfl
  apply Run.op; (apply L_ldP; rfl; rfl; rfl; (first | exact .inl rfl | exact .inr rfl); rfl); rfl; rfl
  apply Run.op; (apply L_fldP; rfl; rfl; rfl; rfl); rfl; rfl
  apply Run.op; (apply L_ldP; rfl; rfl; rfl; (first | exact .inl rfl | exact .inr rfl); rfl); rfl; rfl
  apply Run.op; (apply L_neq; rfl; rfl; rfl); rfl; rfl
  apply Run.done; refine ⟨fun h => Bool.noConfusion h, ?_⟩
  apply x3
  (repeat apply CodeT.seq)
  refine CodeT.cond rfl (fun h => ?_) (fun h => ?_)
  replace H := ifT (of_decide_eq_true h) H
  (repeat apply CodeT.seq)
  apply CodeT.region (fun _ => PPm)
  apply Run.op; (apply L_asg; rfl; rfl); rfl; rfl
  apply Run.done; refine ⟨fun h => Bool.noConfusion h, ?_⟩
  apply x3
  apply CodeT.ret
  apply x1
  cases H
  apply x12
  exact RetIs.sc1 rfl
  replace H := ifF (of_decide_eq_false h) H
  (repeat apply CodeT.seq)
  apply CodeT.skip
  apply x3
  (repeat apply CodeT.seq)
  apply CodeT.region (fun _ => PPm)
  apply Run.op; (apply L_asg; rfl; rfl); rfl; rfl
  apply Run.done; refine ⟨fun h => Bool.noConfusion h, ?_⟩
  apply x3
  apply CodeT.ret
  cases H
  apply x12
  exact RetIs.sc1 rfl
theorem m_laws_eqFactorS (a0 : (List Factor)) (a1 : (List Factor)) (r : Bool) (H : laws_eqFactorS a0 a1 = some r) : Meets Try.prog 19 [.sl a0.length (a0.flatMap encFactor), .sl a1.length (a1.flatMap encFactor)] (.sc (.bool r)) true := by
  refine Meets.intro2 (N := 27) (rs := #[.tmp 4]) Try.func19 rfl rfl rfl rfl ?_
  intro Γ hio
  unfold laws_eqFactorS at H
  (repeat apply CodeT.seq)
  apply CodeT.region (fun _ => PPm)
  apply Run.op; (apply L_asg; rfl; rfl); rfl; rfl
  apply Run.done; refine ⟨fun h => Bool.noConfusion h, ?_⟩
  apply x3
  (repeat apply CodeT.seq)
  apply CodeT.region (fun _ => PPm)
  apply Run.op; (apply L_mov; rfl; rfl); rfl; rfl
  apply Run.op; (apply L_len; rfl; rfl); rfl; rfl
  apply Run.op; (apply L_mov; rfl; rfl); rfl; rfl
  apply Run.op; (apply L_len; rfl; rfl); rfl; rfl
  apply Run.op; (apply L_neq; rfl; rfl; rfl); rfl; rfl
  apply Run.done; refine ⟨fun h => Bool.noConfusion h, ?_⟩
  apply x3
  (repeat apply CodeT.seq)
  refine CodeT.cond rfl (fun h => ?_) (fun h => ?_)
  replace H := ifT (of_decide_eq_true h) H
  (repeat apply CodeT.seq)
  apply CodeT.region (fun _ => PPm)
  apply Run.op; (apply L_asg; rfl; rfl); rfl; rfl
  apply Run.done; refine ⟨fun h => Bool.noConfusion h, ?_⟩
  apply x3
  apply CodeT.ret
  apply x1
  cases H
  apply x12
  exact RetIs.sc1 rfl
  replace H := ifF (of_decide_eq_false h) H
  (repeat apply CodeT.seq)
  apply CodeT.skip
  apply x3
  (repeat apply CodeT.seq)
  apply CodeT.region (fun _ => PPm)
  apply Run.op; (apply L_asg; rfl; rfl); rfl; rfl
  apply Run.done; refine ⟨fun h => Bool.noConfusion h, ?_⟩
  apply x3
  (repeat apply CodeT.seq)
  apply CodeT.block
  (repeat apply CodeT.seq)
  obtain ⟨d8, hd8, H⟩ := bindS H
  refine CodeT.lloop (fun s => ⟨[(0, ⟨.sl a0.length (a0.flatMap encFactor), false⟩), (1, ⟨.sl a1.length (a1.flatMap encFactor), false⟩), (5, ⟨.sc (.int .i64 s), false⟩)], []⟩) (fun x e E => match x with | (.inl d) => XEnv Γ (.exit 0) ⟨[], []⟩ e E | (.inr d) => XRet Γ #[.tmp 4] (.sc (.bool d)) true e E) hd8 ?_ ?_ ?_
  refine Ent.list [] (io0 hio _) rfl ?_ ?_ <;> (repeat' first | exact trivial | (refine And.intro ⟨_, rfl, fun h => (by first | rfl | exact Bool.noConfusion h)⟩ ?_))
  clear H hd8
  rintro v4 o H
  unfold laws_eqFactorS_L1 at H
  (repeat apply CodeT.seq)
  apply CodeT.region (fun _ => PPm)
  apply Run.op; (apply L_mov; rfl; rfl); rfl; rfl
  apply Run.op; (apply L_mov; rfl; rfl); rfl; rfl
  apply Run.op; (apply L_len; rfl; rfl); rfl; rfl
  apply Run.op; (apply L_lss; rfl; rfl; rfl); rfl; rfl
  apply Run.done; refine ⟨fun h => Bool.noConfusion h, ?_⟩
  apply x3
  (repeat apply CodeT.seq)
  refine CodeT.cond rfl (fun h => ?_) (fun h => ?_)
  replace H := ifT (of_decide_eq_true h) H
  (repeat apply CodeT.seq)
  apply CodeT.skip
  apply x3
  (repeat apply CodeT.seq)
  apply CodeT.block
  (repeat apply CodeT.seq)
  apply CodeT.region (fun _ => PPm)
  apply Run.op; (apply L_mov; rfl; rfl); rfl; rfl
  apply Run.op; (apply L_mov; rfl; rfl); rfl; rfl
  obtain ⟨y5, hy5, H⟩ := bindS H
  apply Run.op; (apply L_ixS2; rfl; rfl; rfl; (exact hy5); (intro _; rfl); rfl); rfl; rfl
  apply Run.op; (apply L_ldIA; rfl; (first | exact take_whole rfl | rfl); rfl; (intro h; cases h); rfl; rfl); rfl; rfl
  apply Run.op; (apply L_mov; rfl; rfl); rfl; rfl
  apply Run.op; (apply L_mov; rfl; rfl); rfl; rfl
  obtain ⟨y6, hy6, H⟩ := bindS H
  apply Run.op; (apply L_ixS2; rfl; rfl; rfl; (exact hy6); (intro _; rfl); rfl); rfl; rfl
  apply Run.op; (apply L_ldIA; rfl; (first | exact take_whole rfl | rfl); rfl; (intro h; cases h); rfl; rfl); rfl; rfl
  obtain ⟨r7, hr7, H⟩ := bindS H
  apply Run.op; (apply L_call; ((apply ArgsV.cons; (apply ArgV.val; rfl; rfl)); (apply ArgsV.cons; (apply ArgV.val; rfl; rfl)); (apply ArgsV.nil)); (exact m_laws_eqFactor y5 y6 _ hr7); rfl; rfl; rfl); rfl; rfl
  apply Run.op; (apply L_not; rfl; rfl); rfl; rfl
  apply Run.done; refine ⟨fun _ => ⟨rfl, rfl⟩, ?_⟩
  apply x3
  refine CodeT.cond rfl (fun h => ?_) (fun h => ?_)
  replace H := ifFb (notT h) H
  (repeat apply CodeT.seq)
  apply CodeT.region (fun _ => PPm)
  apply Run.op; (apply L_asg; rfl; rfl); rfl; rfl
  apply Run.done; refine ⟨fun h => Bool.noConfusion h, ?_⟩
  apply x3
  apply CodeT.ret
  apply x4
  apply x1
  obtain rfl := Option.some.inj H
  refine Ev.y2 ?_
  refine XRet.mk ?_
  exact RetIs.sc1 rfl
  replace H := ifTb (notF h) H
  (repeat apply CodeT.seq)
  apply CodeT.skip
  apply x5
  apply x3
  apply CodeT.region (fun _ => PPm)
  apply Run.op; (apply L_mov; rfl; rfl); rfl; rfl
  apply Run.op; (apply L_add; rfl; rfl; rfl; rfl); rfl; rfl
  apply Run.op; (apply L_asg; rfl; rfl); rfl; rfl
  apply Run.done; refine ⟨fun h => Bool.noConfusion h, ?_⟩
  obtain rfl := Option.some.inj H
  refine Ev.y1 ?_
  refine Ent.list [] (io0 hio _) rfl ?_ ?_ <;> (repeat' first | exact trivial | (refine And.intro ⟨_, rfl, fun h => (by first | rfl | exact Bool.noConfusion h)⟩ ?_))
  replace H := ifF (of_decide_eq_false h) H
  (repeat apply CodeT.seq)
  apply CodeT.exit
  apply x2
  obtain rfl := Option.some.inj H
  refine Ev.y3 ?_
  refine XEnv.mk ?_
  refine Ent.list [] (io0 hio _) rfl ?_ ?_ <;> (repeat' first | exact trivial | (refine And.intro ⟨_, rfl, fun h => (by first | rfl | exact Bool.noConfusion h)⟩ ?_))
  rcases d8 with (d9 | d11)
  intro e E' hX; obtain ⟨rfl, g10⟩ := XEnv.out hX
  refine x6 rfl ?_
  apply x3
  refine CodeT.weak g10 ?_
  (repeat apply CodeT.seq)
  apply CodeT.region (fun _ => PPm)
  apply Run.op; (apply L_asg; rfl; rfl); rfl; rfl
  apply Run.done; refine ⟨fun h => Bool.noConfusion h, ?_⟩
  apply x3
  apply CodeT.ret
  cases H
  apply x12
  exact RetIs.sc1 rfl
  intro e E' hX; obtain ⟨rfl, g12⟩ := XRet.out hX
  apply x4
  apply x1
  cases H
  apply x12
  exact g12
theorem m_laws_markText (a0 : Int) (r : ByteArray) (H : laws_markText a0 = some r) : Meets Try.prog 78 [.sc (.int .i64 a0)] (.sc (.string r)) true := by
  refine Meets.intro2 (N := 20) (rs := #[.tmp 2]) Try.func78 rfl rfl rfl rfl ?_
  intro Γ hio
  unfold laws_markText at H
  (repeat apply CodeT.seq)
  apply CodeT.region (fun _ => PPm)
  apply Run.op; (apply L_asg; rfl; rfl); rfl; rfl
  apply Run.done; refine ⟨fun h => Bool.noConfusion h, ?_⟩
  apply x3
  (repeat apply CodeT.seq)
  apply CodeT.region (fun _ => PPm)
  apply Run.op; (apply L_mov; rfl; rfl); rfl; rfl
  apply Run.op; (apply L_leq; rfl; rfl; rfl); rfl; rfl
  apply Run.done; refine ⟨fun h => Bool.noConfusion h, ?_⟩
  apply x3
  (repeat apply CodeT.seq)
  refine CodeT.cond rfl (fun h => ?_) (fun h => ?_)
  replace H := ifT (of_decide_eq_true h) H
  (repeat apply CodeT.seq)
  apply CodeT.region (fun _ => PPm)
  apply Run.op; (apply L_asg; rfl; rfl); rfl; rfl
  apply Run.done; refine ⟨fun h => Bool.noConfusion h, ?_⟩
  apply x3
  apply CodeT.ret
  apply x1
  cases H
  apply x12
  exact RetIs.sc1 rfl
  replace H := ifF (of_decide_eq_false h) H
  (repeat apply CodeT.seq)
  apply CodeT.skip
  apply x3
  (repeat apply CodeT.seq)
  apply CodeT.region (fun _ => PPm)
  apply Run.op; (apply L_asg; rfl; rfl); rfl; rfl
  apply Run.done; refine ⟨fun h => Bool.noConfusion h, ?_⟩
  apply x3
  (repeat apply CodeT.seq)
  apply CodeT.block
  (repeat apply CodeT.seq)
  obtain ⟨d10, hd10, H⟩ := bindS H
  refine CodeT.lloop (fun s => ⟨[(0, ⟨.sc (.int .i64 s.1), false⟩), (3, ⟨.sc (.string s.2), false⟩)], []⟩) (fun d e E => XEnv Γ (.exit 0) ⟨[(3, ⟨.sc (.string d), false⟩)], []⟩ e E) hd10 ?_ ?_ ?_
  refine Ent.list [] (io0 hio _) rfl ?_ ?_ <;> (repeat' first | exact trivial | (refine And.intro ⟨_, rfl, fun h => (by first | rfl | exact Bool.noConfusion h)⟩ ?_))
  clear H hd10
  rintro ⟨v4, v5⟩ o H
  unfold laws_markText_L1 at H
  (repeat apply CodeT.seq)
  apply CodeT.region (fun _ => PPm)
  apply Run.op; (apply L_mov; rfl; rfl); rfl; rfl
  apply Run.op; (apply L_gtr; rfl; rfl; rfl); rfl; rfl
  apply Run.done; refine ⟨fun h => Bool.noConfusion h, ?_⟩
  apply x3
  (repeat apply CodeT.seq)
  refine CodeT.cond rfl (fun h => ?_) (fun h => ?_)
  replace H := ifT (of_decide_eq_true h) H
  (repeat apply CodeT.seq)
  apply CodeT.skip
  apply x3
  apply CodeT.block
  (repeat apply CodeT.seq)
  apply CodeT.region (fun _ => PPm)
  apply Run.op; (apply L_mov; rfl; rfl); rfl; rfl
  apply Run.op; (apply L_rem; rfl; rfl; (intro h; cases h); rfl; rfl); rfl; rfl
  apply Run.op; (apply L_add; rfl; rfl; rfl; rfl); rfl; rfl
  obtain ⟨v6, hv6, H⟩ := bindS H
  apply Run.op; (apply L_conv; rfl; (exact letS hv6); rfl); rfl; rfl
  apply Run.op; (apply L_bs1; rfl; rfl; rfl; rfl; rfl; rfl; rfl; rfl); rfl; rfl
  apply Run.op; (apply L_convB1; rfl; (rw [← letS hv6]; exact u8_wrap _); rfl); rfl; rfl
  apply Run.op; (apply L_mov; rfl; rfl); rfl; rfl
  obtain ⟨_u, hs7, H⟩ := bindS H
  obtain ⟨v8, hv8, H⟩ := bindS H
  apply Run.op; (apply L_saddL; rfl; rfl; (exact chkS hs7); (exact hv8); rfl); rfl; rfl
  apply Run.op; (apply L_asg; rfl; rfl); rfl; rfl
  apply Run.done; refine ⟨fun h => Bool.noConfusion h, ?_⟩
  apply x3
  apply CodeT.region (fun _ => PPm)
  apply Run.op; (apply L_mov; rfl; rfl); rfl; rfl
  apply Run.op; (apply L_quo; rfl; rfl; (intro h; cases h); rfl; rfl); rfl; rfl
  apply Run.op; (apply L_asg; rfl; rfl); rfl; rfl
  apply Run.done; refine ⟨fun h => Bool.noConfusion h, ?_⟩
  apply x5
  obtain rfl := Option.some.inj H
  refine Ev.y1 ?_
  refine Ent.list [] (io0 hio _) rfl ?_ ?_ <;> (repeat' first | exact trivial | (refine And.intro ⟨_, rfl, fun h => (by first | rfl | exact Bool.noConfusion h)⟩ ?_))
  replace H := ifF (of_decide_eq_false h) H
  (repeat apply CodeT.seq)
  apply CodeT.exit
  apply x2
  obtain rfl := Option.some.inj H
  refine Ev.y3 ?_
  refine XEnv.mk ?_
  refine Ent.list [] (io0 hio _) rfl ?_ ?_ <;> (repeat' first | exact trivial | (refine And.intro ⟨_, rfl, fun h => (by first | rfl | exact Bool.noConfusion h)⟩ ?_))
  skip
  intro e E' hX; obtain ⟨rfl, g11⟩ := XEnv.out hX
  refine x6 rfl ?_
  apply x3
  refine CodeT.weak g11 ?_
  (repeat apply CodeT.seq)
  apply CodeT.region (fun _ => PPm)
  apply Run.op; (apply L_mov; rfl; rfl); rfl; rfl
  obtain ⟨_u, hs12, H⟩ := bindS H
  obtain ⟨v13, hv13, H⟩ := bindS H
  apply Run.op; (apply L_saddL; rfl; rfl; (exact chkS hs12); (exact hv13); rfl); rfl; rfl
  apply Run.op; (apply L_asg; rfl; rfl); rfl; rfl
  apply Run.done; refine ⟨fun h => Bool.noConfusion h, ?_⟩
  apply x3
  apply CodeT.ret
  cases H
  apply x12
  exact RetIs.sc1 rfl
theorem m_laws_markFactorS (a0 : (List Factor)) (a1 : Int) (r : (Int × (List Factor))) (H : laws_markFactorS a0 a1 = some r) : MeetsX Try.prog 20 [.ref 100000 8 0 a0.length, .sc (.int .i64 a1)] [⟨100000, a0.flatMap encFactor, r.2.flatMap encFactor⟩] (.sc (.int .i64 r.1)) true := by
  have H0 := H; clear H
  obtain ⟨r', H, H2⟩ := bindS H0; clear H0
  obtain ⟨_, hlen, H2⟩ := bindS H2
  obtain rfl := Option.some.inj H2
  have hlen := chkS hlen
  refine MeetsX.intro (N := 74) (rs := #[.tmp 4]) Try.func20 rfl rfl rfl rfl rfl (xo1 (nil_new (sz := 8) hlen (fun _ => rfl) (by decide))) (xo1 (allSc_flat (fun _ => rfl))) ?_
  clear hlen
  intro Γ hio
  unfold laws_markFactorS_raw at H
  (repeat apply CodeT.seq)
  apply CodeT.region (fun _ => PPm)
  apply Run.op; (apply L_asg; rfl; rfl); rfl; rfl
  apply Run.done; refine ⟨fun h => Bool.noConfusion h, ?_⟩
  apply x3
  (repeat apply CodeT.seq)
  apply CodeT.region (fun _ => PPm)
  apply Run.op; (apply L_asg; rfl; rfl); rfl; rfl
  apply Run.done; refine ⟨fun h => Bool.noConfusion h, ?_⟩
  apply x3
  (repeat apply CodeT.seq)
  apply CodeT.block
  (repeat apply CodeT.seq)
  obtain ⟨d65, hd65, H⟩ := bindS H
  refine CodeT.lloop (fun s => ⟨[(0, ⟨.ref 100000 8 0 s.2.2.length, false⟩), (1, ⟨.sc (.int .i64 s.1), false⟩), (5, ⟨.sc (.int .i64 s.2.1), false⟩)], [(100000, some ⟨s.2.2.flatMap encFactor, true, false⟩)]⟩) (fun d e E => XEnv Γ (.exit 0) ⟨[(1, ⟨.sc (.int .i64 d.1), false⟩)], [(100000, some ⟨d.2.flatMap encFactor, true, false⟩)]⟩ e E) hd65 ?_ ?_ ?_
  refine Ent.list [] (io0 hio _) rfl ?_ ?_ <;> (repeat' first | exact trivial | (refine And.intro ⟨_, rfl, fun h => (by first | rfl | exact Bool.noConfusion h)⟩ ?_))
  clear H hd65
  rintro ⟨v31, v32, v33⟩ o H
  unfold laws_markFactorS_L1 at H
  (repeat apply CodeT.seq)
  apply CodeT.region (fun _ => PPm)
  apply Run.op; (apply L_mov; rfl; rfl); rfl; rfl
  apply Run.op; (apply L_mov; rfl; rfl); rfl; rfl
  apply Run.op; (apply L_lenR; rfl; rfl; rfl); rfl; rfl
  apply Run.op; (apply L_lss; rfl; rfl; rfl); rfl; rfl
  apply Run.done; refine ⟨fun h => Bool.noConfusion h, ?_⟩
  apply x3
  (repeat apply CodeT.seq)
  refine CodeT.cond rfl (fun h => ?_) (fun h => ?_)
  replace H := ifT (of_decide_eq_true h) H
  (repeat apply CodeT.seq)
  apply CodeT.skip
  apply x3
  (repeat apply CodeT.seq)
  apply CodeT.block
  (repeat apply CodeT.seq)
  apply CodeT.region (fun _ => PPm)
  apply Run.op; (apply L_mov; rfl; rfl); rfl; rfl
  apply Run.op; (apply L_mov; rfl; rfl); rfl; rfl
  apply Run.op; (apply L_mov; rfl; rfl); rfl; rfl
  obtain ⟨y34, hy34, H⟩ := bindS H
  apply Run.op; (apply L_ixR2; rfl; rfl; rfl; (exact hy34); rfl; rfl); rfl; rfl
  apply Run.op; (apply L_fldP; rfl; rfl; (exact row_pos (sz := 8) hy34 (fun _ => rfl) (by decide)); rfl); rfl; rfl
  obtain ⟨v35, hv35, H⟩ := bindS H
  have hl36 := setI_lenS hv35
  apply Run.op; (apply L_st; rfl; rfl; rfl; rfl; rfl; (intro h; cases h); (exact row_ble (sz := 8) (o := 0) (n := 1) hy34 (fun _ => rfl) (by decide)); (exact row_fldL (sz := 8) (o := 0) (n := 1) hv35 hy34 (fun _ => rfl) (by decide) rfl)); rfl; rfl
  apply Run.done; refine ⟨fun h => Bool.noConfusion h, ?_⟩
  apply x3
  (repeat apply CodeT.seq)
  refine CodeT.weak (Ent.relen (k := 0) (n' := v35.length) rfl (by first | (simp only [setI_len]; done) | (simp only [setI_len]; omega) | omega)) ?_
  apply CodeT.region (fun _ => PPm)
  apply Run.op; (apply L_mov; rfl; rfl); rfl; rfl
  apply Run.op; (apply L_add; rfl; rfl; rfl; rfl); rfl; rfl
  apply Run.op; (apply L_asg; rfl; rfl); rfl; rfl
  apply Run.done; refine ⟨fun h => Bool.noConfusion h, ?_⟩
  apply x3
  (repeat apply CodeT.seq)
  apply CodeT.region (fun _ => PPm)
  apply Run.op; (apply L_mov; rfl; rfl); rfl; rfl
  apply Run.op; (apply L_mov; rfl; rfl); rfl; rfl
  apply Run.op; (apply L_mov; rfl; rfl); rfl; rfl
  obtain ⟨y37, hy37, H⟩ := bindS H
  apply Run.op; (apply L_ixR2; rfl; rfl; rfl; (exact hy37); rfl; rfl); rfl; rfl
  apply Run.op; (apply L_fldP; rfl; rfl; (exact row_pos (sz := 8) hy37 (fun _ => rfl) (by decide)); rfl); rfl; rfl
  obtain ⟨v38, hv38, H⟩ := bindS H
  have hl39 := setI_lenS hv38
  apply Run.op; (apply L_st; rfl; rfl; rfl; rfl; rfl; (intro h; cases h); (exact row_ble (sz := 8) (o := 1) (n := 1) hy37 (fun _ => rfl) (by decide)); (exact row_fldL (sz := 8) (o := 1) (n := 1) hv38 hy37 (fun _ => rfl) (by decide) rfl)); rfl; rfl
  apply Run.done; refine ⟨fun h => Bool.noConfusion h, ?_⟩
  apply x3
  (repeat apply CodeT.seq)
  refine CodeT.weak (Ent.relen (k := 0) (n' := v38.length) rfl (by first | (simp only [setI_len]; done) | (simp only [setI_len]; omega) | omega)) ?_
  apply CodeT.region (fun _ => PPm)
  apply Run.op; (apply L_mov; rfl; rfl); rfl; rfl
  obtain ⟨v40, hv40, H⟩ := bindS H
  apply Run.op; (apply L_add; rfl; rfl; (exact letS hv40); rfl); rfl; rfl
  apply Run.op; (apply L_asg; rfl; rfl); rfl; rfl
  apply Run.done; refine ⟨fun h => Bool.noConfusion h, ?_⟩
  apply x3
  (repeat apply CodeT.seq)
  apply CodeT.region (fun _ => PPm)
  apply Run.op; (apply L_mov; rfl; rfl); rfl; rfl
  apply Run.op; (apply L_mov; rfl; rfl); rfl; rfl
  apply Run.op; (apply L_mov; rfl; rfl); rfl; rfl
  obtain ⟨r41, hr41, H⟩ := bindS H
  apply Run.op; (apply L_call; ((apply ArgsV.cons; (apply ArgV.val; rfl; rfl)); (apply ArgsV.nil)); (exact m_laws_markText v40 _ hr41); rfl; rfl; rfl); rfl; rfl
  obtain ⟨y42, hy42, H⟩ := bindS H
  apply Run.op; (apply L_ixR2; rfl; rfl; rfl; (exact hy42); rfl; rfl); rfl; rfl
  apply Run.op; (apply L_fldP; rfl; rfl; (exact row_pos (sz := 8) hy42 (fun _ => rfl) (by decide)); rfl); rfl; rfl
  obtain ⟨v43, hv43, H⟩ := bindS H
  have hl44 := setI_lenS hv43
  apply Run.op; (apply L_st; rfl; rfl; rfl; rfl; rfl; (intro h; cases h); (exact row_ble (sz := 8) (o := 2) (n := 1) hy42 (fun _ => rfl) (by decide)); (exact row_fldL (sz := 8) (o := 2) (n := 1) hv43 hy42 (fun _ => rfl) (by decide) rfl)); rfl; rfl
  apply Run.done; refine ⟨fun h => Bool.noConfusion h, ?_⟩
  apply x3
  (repeat apply CodeT.seq)
  refine CodeT.weak (Ent.relen (k := 0) (n' := v43.length) rfl (by first | (simp only [setI_len]; done) | (simp only [setI_len]; omega) | omega)) ?_
  apply CodeT.region (fun _ => PPm)
  apply Run.op; (apply L_mov; rfl; rfl); rfl; rfl
  apply Run.op; (apply L_add; rfl; rfl; rfl; rfl); rfl; rfl
  apply Run.op; (apply L_asg; rfl; rfl); rfl; rfl
  apply Run.done; refine ⟨fun h => Bool.noConfusion h, ?_⟩
  apply x3
  (repeat apply CodeT.seq)
  apply CodeT.region (fun _ => PPm)
  apply Run.op; (apply L_mov; rfl; rfl); rfl; rfl
  apply Run.op; (apply L_mov; rfl; rfl); rfl; rfl
  apply Run.op; (apply L_mov; rfl; rfl); rfl; rfl
  obtain ⟨r45, hr45, H⟩ := bindS H
  apply Run.op; (apply L_call; ((apply ArgsV.cons; (apply ArgV.val; rfl; rfl)); (apply ArgsV.nil)); (exact m_laws_markText (IntKind.i64.wrap (v40 + 1)) _ hr45); rfl; rfl; rfl); rfl; rfl
  obtain ⟨y46, hy46, H⟩ := bindS H
  apply Run.op; (apply L_ixR2; rfl; rfl; rfl; (exact hy46); rfl; rfl); rfl; rfl
  apply Run.op; (apply L_fldP; rfl; rfl; (exact row_pos (sz := 8) hy46 (fun _ => rfl) (by decide)); rfl); rfl; rfl
  obtain ⟨v47, hv47, H⟩ := bindS H
  have hl48 := setI_lenS hv47
  apply Run.op; (apply L_st; rfl; rfl; rfl; rfl; rfl; (intro h; cases h); (exact row_ble (sz := 8) (o := 3) (n := 1) hy46 (fun _ => rfl) (by decide)); (exact row_fldL (sz := 8) (o := 3) (n := 1) hv47 hy46 (fun _ => rfl) (by decide) rfl)); rfl; rfl
  apply Run.done; refine ⟨fun h => Bool.noConfusion h, ?_⟩
  apply x3
  (repeat apply CodeT.seq)
  refine CodeT.weak (Ent.relen (k := 0) (n' := v47.length) rfl (by first | (simp only [setI_len]; done) | (simp only [setI_len]; omega) | omega)) ?_
  apply CodeT.region (fun _ => PPm)
  apply Run.op; (apply L_mov; rfl; rfl); rfl; rfl
  obtain ⟨v49, hv49, H⟩ := bindS H
  apply Run.op; (apply L_add; rfl; rfl; (exact letS hv49); rfl); rfl; rfl
  apply Run.op; (apply L_asg; rfl; rfl); rfl; rfl
  apply Run.done; refine ⟨fun h => Bool.noConfusion h, ?_⟩
  apply x3
  (repeat apply CodeT.seq)
  apply CodeT.region (fun _ => PPm)
  apply Run.op; (apply L_mov; rfl; rfl); rfl; rfl
  apply Run.op; (apply L_mov; rfl; rfl); rfl; rfl
  apply Run.op; (apply L_mov; rfl; rfl); rfl; rfl
  obtain ⟨y50, hy50, H⟩ := bindS H
  apply Run.op; (apply L_ixR2; rfl; rfl; rfl; (exact hy50); rfl; rfl); rfl; rfl
  apply Run.op; (apply L_fldP; rfl; rfl; (exact row_pos (sz := 8) hy50 (fun _ => rfl) (by decide)); rfl); rfl; rfl
  apply Run.op; (apply L_fldP; rfl; rfl; (exact row_pos (sz := 8) hy50 (fun _ => rfl) (by decide)); rfl); rfl; rfl
  obtain ⟨v51, hv51, H⟩ := bindS H
  have hl52 := setI_lenS hv51
  apply Run.op; (apply L_st; rfl; rfl; rfl; rfl; rfl; (intro h; cases h); (exact row_ble (sz := 8) (o := 4) (n := 1) hy50 (fun _ => rfl) (by decide)); (exact row_fldL (sz := 8) (o := 4) (n := 1) hv51 hy50 (fun _ => rfl) (by decide) rfl)); rfl; rfl
  apply Run.done; refine ⟨fun h => Bool.noConfusion h, ?_⟩
  apply x3
  (repeat apply CodeT.seq)
  refine CodeT.weak (Ent.relen (k := 0) (n' := v51.length) rfl (by first | (simp only [setI_len]; done) | (simp only [setI_len]; omega) | omega)) ?_
  apply CodeT.region (fun _ => PPm)
  apply Run.op; (apply L_mov; rfl; rfl); rfl; rfl
  apply Run.op; (apply L_add; rfl; rfl; rfl; rfl); rfl; rfl
  apply Run.op; (apply L_asg; rfl; rfl); rfl; rfl
  apply Run.done; refine ⟨fun h => Bool.noConfusion h, ?_⟩
  apply x3
  (repeat apply CodeT.seq)
  apply CodeT.region (fun _ => PPm)
  apply Run.op; (apply L_mov; rfl; rfl); rfl; rfl
  apply Run.op; (apply L_mov; rfl; rfl); rfl; rfl
  apply Run.op; (apply L_mov; rfl; rfl); rfl; rfl
  obtain ⟨y53, hy53, H⟩ := bindS H
  apply Run.op; (apply L_ixR2; rfl; rfl; rfl; (exact hy53); rfl; rfl); rfl; rfl
  apply Run.op; (apply L_fldP; rfl; rfl; (exact row_pos (sz := 8) hy53 (fun _ => rfl) (by decide)); rfl); rfl; rfl
  apply Run.op; (apply L_fldP; rfl; rfl; (exact row_pos (sz := 8) hy53 (fun _ => rfl) (by decide)); rfl); rfl; rfl
  obtain ⟨v54, hv54, H⟩ := bindS H
  have hl55 := setI_lenS hv54
  apply Run.op; (apply L_st; rfl; rfl; rfl; rfl; rfl; (intro h; cases h); (exact row_ble (sz := 8) (o := 5) (n := 1) hy53 (fun _ => rfl) (by decide)); (exact row_fldL (sz := 8) (o := 5) (n := 1) hv54 hy53 (fun _ => rfl) (by decide) rfl)); rfl; rfl
  apply Run.done; refine ⟨fun h => Bool.noConfusion h, ?_⟩
  apply x3
  (repeat apply CodeT.seq)
  refine CodeT.weak (Ent.relen (k := 0) (n' := v54.length) rfl (by first | (simp only [setI_len]; done) | (simp only [setI_len]; omega) | omega)) ?_
  apply CodeT.region (fun _ => PPm)
  apply Run.op; (apply L_mov; rfl; rfl); rfl; rfl
  obtain ⟨v56, hv56, H⟩ := bindS H
  apply Run.op; (apply L_add; rfl; rfl; (exact letS hv56); rfl); rfl; rfl
  apply Run.op; (apply L_asg; rfl; rfl); rfl; rfl
  apply Run.done; refine ⟨fun h => Bool.noConfusion h, ?_⟩
  apply x3
  (repeat apply CodeT.seq)
  apply CodeT.region (fun _ => PPm)
  apply Run.op; (apply L_mov; rfl; rfl); rfl; rfl
  apply Run.op; (apply L_mov; rfl; rfl); rfl; rfl
  apply Run.op; (apply L_mov; rfl; rfl); rfl; rfl
  obtain ⟨y57, hy57, H⟩ := bindS H
  apply Run.op; (apply L_ixR2; rfl; rfl; rfl; (exact hy57); rfl; rfl); rfl; rfl
  apply Run.op; (apply L_fldP; rfl; rfl; (exact row_pos (sz := 8) hy57 (fun _ => rfl) (by decide)); rfl); rfl; rfl
  apply Run.op; (apply L_fldP; rfl; rfl; (exact row_pos (sz := 8) hy57 (fun _ => rfl) (by decide)); rfl); rfl; rfl
  obtain ⟨v58, hv58, H⟩ := bindS H
  have hl59 := setI_lenS hv58
  apply Run.op; (apply L_st; rfl; rfl; rfl; rfl; rfl; (intro h; cases h); (exact row_ble (sz := 8) (o := 6) (n := 1) hy57 (fun _ => rfl) (by decide)); (exact row_fldL (sz := 8) (o := 6) (n := 1) hv58 hy57 (fun _ => rfl) (by decide) rfl)); rfl; rfl
  apply Run.done; refine ⟨fun h => Bool.noConfusion h, ?_⟩
  apply x3
  (repeat apply CodeT.seq)
  refine CodeT.weak (Ent.relen (k := 0) (n' := v58.length) rfl (by first | (simp only [setI_len]; done) | (simp only [setI_len]; omega) | omega)) ?_
  apply CodeT.region (fun _ => PPm)
  apply Run.op; (apply L_mov; rfl; rfl); rfl; rfl
  apply Run.op; (apply L_add; rfl; rfl; rfl; rfl); rfl; rfl
  apply Run.op; (apply L_asg; rfl; rfl); rfl; rfl
  apply Run.done; refine ⟨fun h => Bool.noConfusion h, ?_⟩
  apply x3
  (repeat apply CodeT.seq)
  apply CodeT.region (fun _ => PPm)
  apply Run.op; (apply L_mov; rfl; rfl); rfl; rfl
  apply Run.op; (apply L_mov; rfl; rfl); rfl; rfl
  apply Run.op; (apply L_mov; rfl; rfl); rfl; rfl
  obtain ⟨y60, hy60, H⟩ := bindS H
  apply Run.op; (apply L_ixR2; rfl; rfl; rfl; (exact hy60); rfl; rfl); rfl; rfl
  apply Run.op; (apply L_fldP; rfl; rfl; (exact row_pos (sz := 8) hy60 (fun _ => rfl) (by decide)); rfl); rfl; rfl
  obtain ⟨v61, hv61, H⟩ := bindS H
  have hl62 := setI_lenS hv61
  apply Run.op; (apply L_st; rfl; rfl; rfl; rfl; rfl; (intro h; cases h); (exact row_ble (sz := 8) (o := 7) (n := 1) hy60 (fun _ => rfl) (by decide)); (exact row_fldL (sz := 8) (o := 7) (n := 1) hv61 hy60 (fun _ => rfl) (by decide) rfl)); rfl; rfl
  apply Run.done; refine ⟨fun h => Bool.noConfusion h, ?_⟩
  apply x3
  refine CodeT.weak (Ent.relen (k := 0) (n' := v61.length) rfl (by first | (simp only [setI_len]; done) | (simp only [setI_len]; omega) | omega)) ?_
  apply CodeT.region (fun _ => PPm)
  apply Run.op; (apply L_mov; rfl; rfl); rfl; rfl
  obtain ⟨v63, hv63, H⟩ := bindS H
  apply Run.op; (apply L_add; rfl; rfl; (exact letS hv63); rfl); rfl; rfl
  apply Run.op; (apply L_asg; rfl; rfl); rfl; rfl
  apply Run.done; refine ⟨fun h => Bool.noConfusion h, ?_⟩
  apply x5
  apply x3
  apply CodeT.region (fun _ => PPm)
  apply Run.op; (apply L_mov; rfl; rfl); rfl; rfl
  apply Run.op; (apply L_add; rfl; rfl; rfl; rfl); rfl; rfl
  apply Run.op; (apply L_asg; rfl; rfl); rfl; rfl
  apply Run.done; refine ⟨fun h => Bool.noConfusion h, ?_⟩
  obtain rfl := Option.some.inj H
  refine Ev.y1 ?_
  refine Ent.list [] (io0 hio _) rfl ?_ ?_ <;> (repeat' first | exact trivial | (refine And.intro ⟨_, rfl, fun h => (by first | rfl | exact Bool.noConfusion h)⟩ ?_))
  replace H := ifF (of_decide_eq_false h) H
  (repeat apply CodeT.seq)
  apply CodeT.exit
  apply x2
  obtain rfl := Option.some.inj H
  refine Ev.y3 ?_
  refine XEnv.mk ?_
  refine Ent.list [] (io0 hio _) rfl ?_ ?_ <;> (repeat' first | exact trivial | (refine And.intro ⟨_, rfl, fun h => (by first | rfl | exact Bool.noConfusion h)⟩ ?_))
  skip
  intro e E' hX; obtain ⟨rfl, g66⟩ := XEnv.out hX
  refine x6 rfl ?_
  apply x3
  refine CodeT.weak g66 ?_
  (repeat apply CodeT.seq)
  apply CodeT.region (fun _ => PPm)
  apply Run.op; (apply L_mov; rfl; rfl); rfl; rfl
  apply Run.op; (apply L_asg; rfl; rfl); rfl; rfl
  apply Run.done; refine ⟨fun h => Bool.noConfusion h, ?_⟩
  apply x3
  apply CodeT.ret
  cases H
  apply z12
  exact RetX.mk (RetIs.sc1 rfl) (xo1 ⟨_, rfl⟩)
theorem m_laws_markIntS (a0 : (List Int)) (a1 : Int) (r : (Int × (List Int))) (H : laws_markIntS a0 a1 = some r) : MeetsX Try.prog 21 [.ref 100000 1 0 a0.length, .sc (.int .i64 a1)] [⟨100000, a0.flatMap (encI .i64), r.2.flatMap (encI .i64)⟩] (.sc (.int .i64 r.1)) true := by
  have H0 := H; clear H
  obtain ⟨r', H, H2⟩ := bindS H0; clear H0
  obtain ⟨_, hlen, H2⟩ := bindS H2
  obtain rfl := Option.some.inj H2
  have hlen := chkS hlen
  refine MeetsX.intro (N := 19) (rs := #[.tmp 4]) Try.func21 rfl rfl rfl rfl rfl (xo1 (nil_new (sz := 1) hlen (fun _ => rfl) (by decide))) (xo1 (allSc_flat (fun _ => rfl))) ?_
  clear hlen
  intro Γ hio
  unfold laws_markIntS_raw at H
  (repeat apply CodeT.seq)
  apply CodeT.region (fun _ => PPm)
  apply Run.op; (apply L_asg; rfl; rfl); rfl; rfl
  apply Run.done; refine ⟨fun h => Bool.noConfusion h, ?_⟩
  apply x3
  (repeat apply CodeT.seq)
  apply CodeT.region (fun _ => PPm)
  apply Run.op; (apply L_asg; rfl; rfl); rfl; rfl
  apply Run.done; refine ⟨fun h => Bool.noConfusion h, ?_⟩
  apply x3
  (repeat apply CodeT.seq)
  apply CodeT.block
  (repeat apply CodeT.seq)
  obtain ⟨d11, hd11, H⟩ := bindS H
  refine CodeT.lloop (fun s => ⟨[(0, ⟨.ref 100000 1 0 s.2.2.length, false⟩), (1, ⟨.sc (.int .i64 s.1), false⟩), (5, ⟨.sc (.int .i64 s.2.1), false⟩)], [(100000, some ⟨s.2.2.flatMap (encI .i64), true, false⟩)]⟩) (fun d e E => XEnv Γ (.exit 0) ⟨[(1, ⟨.sc (.int .i64 d.1), false⟩)], [(100000, some ⟨d.2.flatMap (encI .i64), true, false⟩)]⟩ e E) hd11 ?_ ?_ ?_
  refine Ent.list [] (io0 hio _) rfl ?_ ?_ <;> (repeat' first | exact trivial | (refine And.intro ⟨_, rfl, fun h => (by first | rfl | exact Bool.noConfusion h)⟩ ?_))
  clear H hd11
  rintro ⟨v4, v5, v6⟩ o H
  unfold laws_markIntS_L1 at H
  (repeat apply CodeT.seq)
  apply CodeT.region (fun _ => PPm)
  apply Run.op; (apply L_mov; rfl; rfl); rfl; rfl
  apply Run.op; (apply L_mov; rfl; rfl); rfl; rfl
  apply Run.op; (apply L_lenR; rfl; rfl; rfl); rfl; rfl
  apply Run.op; (apply L_lss; rfl; rfl; rfl); rfl; rfl
  apply Run.done; refine ⟨fun h => Bool.noConfusion h, ?_⟩
  apply x3
  (repeat apply CodeT.seq)
  refine CodeT.cond rfl (fun h => ?_) (fun h => ?_)
  replace H := ifT (of_decide_eq_true h) H
  (repeat apply CodeT.seq)
  apply CodeT.skip
  apply x3
  (repeat apply CodeT.seq)
  apply CodeT.block
  (repeat apply CodeT.seq)
  apply CodeT.region (fun _ => PPm)
  apply Run.op; (apply L_mov; rfl; rfl); rfl; rfl
  apply Run.op; (apply L_mov; rfl; rfl); rfl; rfl
  apply Run.op; (apply L_mov; rfl; rfl); rfl; rfl
  obtain ⟨y7, hy7, H⟩ := bindS H
  apply Run.op; (apply L_ixR2; rfl; rfl; rfl; (exact hy7); rfl; rfl); rfl; rfl
  obtain ⟨v8, hv8, H⟩ := bindS H
  have hl9 := setI_lenS hv8
  apply Run.op; (apply L_st; rfl; rfl; rfl; rfl; rfl; (intro h; cases h); (exact row_ble0 (sz := 1) (n := 1) hy7 (fun _ => rfl) (by decide)); (exact row_stL (sz := 1) hv8 hy7 (fun _ => rfl) rfl)); rfl; rfl
  apply Run.done; refine ⟨fun h => Bool.noConfusion h, ?_⟩
  apply x3
  refine CodeT.weak (Ent.relen (k := 0) (n' := v8.length) rfl (by first | (simp only [setI_len]; done) | (simp only [setI_len]; omega) | omega)) ?_
  apply CodeT.region (fun _ => PPm)
  apply Run.op; (apply L_mov; rfl; rfl); rfl; rfl
  apply Run.op; (apply L_add; rfl; rfl; rfl; rfl); rfl; rfl
  apply Run.op; (apply L_asg; rfl; rfl); rfl; rfl
  apply Run.done; refine ⟨fun h => Bool.noConfusion h, ?_⟩
  apply x5
  apply x3
  apply CodeT.region (fun _ => PPm)
  apply Run.op; (apply L_mov; rfl; rfl); rfl; rfl
  apply Run.op; (apply L_add; rfl; rfl; rfl; rfl); rfl; rfl
  apply Run.op; (apply L_asg; rfl; rfl); rfl; rfl
  apply Run.done; refine ⟨fun h => Bool.noConfusion h, ?_⟩
  obtain rfl := Option.some.inj H
  refine Ev.y1 ?_
  refine Ent.list [] (io0 hio _) rfl ?_ ?_ <;> (repeat' first | exact trivial | (refine And.intro ⟨_, rfl, fun h => (by first | rfl | exact Bool.noConfusion h)⟩ ?_))
  replace H := ifF (of_decide_eq_false h) H
  (repeat apply CodeT.seq)
  apply CodeT.exit
  apply x2
  obtain rfl := Option.some.inj H
  refine Ev.y3 ?_
  refine XEnv.mk ?_
  refine Ent.list [] (io0 hio _) rfl ?_ ?_ <;> (repeat' first | exact trivial | (refine And.intro ⟨_, rfl, fun h => (by first | rfl | exact Bool.noConfusion h)⟩ ?_))
  skip
  intro e E' hX; obtain ⟨rfl, g12⟩ := XEnv.out hX
  refine x6 rfl ?_
  apply x3
  refine CodeT.weak g12 ?_
  (repeat apply CodeT.seq)
  apply CodeT.region (fun _ => PPm)
  apply Run.op; (apply L_mov; rfl; rfl); rfl; rfl
  apply Run.op; (apply L_asg; rfl; rfl); rfl; rfl
  apply Run.done; refine ⟨fun h => Bool.noConfusion h, ?_⟩
  apply x3
  apply CodeT.ret
  cases H
  apply z12
  exact RetX.mk (RetIs.sc1 rfl) (xo1 ⟨_, rfl⟩)
theorem m_laws_heldIntS (a0 : (List Int)) (a1 : Int) (r : Int) (H : laws_heldIntS a0 a1 = some r) : Meets Try.prog 22 [.sl a0.length (a0.flatMap (encI .i64)), .sc (.int .i64 a1)] (.sc (.int .i64 r)) true := by
  refine Meets.intro2 (N := 21) (rs := #[.tmp 4]) Try.func22 rfl rfl rfl rfl ?_
  intro Γ hio
  unfold laws_heldIntS at H
  (repeat apply CodeT.seq)
  apply CodeT.region (fun _ => PPm)
  apply Run.op; (apply L_asg; rfl; rfl); rfl; rfl
  apply Run.done; refine ⟨fun h => Bool.noConfusion h, ?_⟩
  apply x3
  (repeat apply CodeT.seq)
  apply CodeT.region (fun _ => PPm)
  apply Run.op; (apply L_asg; rfl; rfl); rfl; rfl
  apply Run.done; refine ⟨fun h => Bool.noConfusion h, ?_⟩
  apply x3
  (repeat apply CodeT.seq)
  apply CodeT.block
  (repeat apply CodeT.seq)
  obtain ⟨d5, hd5, H⟩ := bindS H
  refine CodeT.lloop (fun s => ⟨[(0, ⟨.sl a0.length (a0.flatMap (encI .i64)), false⟩), (1, ⟨.sc (.int .i64 s.1), false⟩), (5, ⟨.sc (.int .i64 s.2), false⟩)], []⟩) (fun x e E => match x with | (.inl d) => XEnv Γ (.exit 0) ⟨[(1, ⟨.sc (.int .i64 d), false⟩)], []⟩ e E | (.inr d) => XRet Γ #[.tmp 4] (.sc (.int .i64 d)) true e E) hd5 ?_ ?_ ?_
  refine Ent.list [] (io0 hio _) rfl ?_ ?_ <;> (repeat' first | exact trivial | (refine And.intro ⟨_, rfl, fun h => (by first | rfl | exact Bool.noConfusion h)⟩ ?_))
  clear H hd5
  rintro ⟨v2, v3⟩ o H
  unfold laws_heldIntS_L1 at H
  (repeat apply CodeT.seq)
  apply CodeT.region (fun _ => PPm)
  apply Run.op; (apply L_mov; rfl; rfl); rfl; rfl
  apply Run.op; (apply L_mov; rfl; rfl); rfl; rfl
  apply Run.op; (apply L_len; rfl; rfl); rfl; rfl
  apply Run.op; (apply L_lss; rfl; rfl; rfl); rfl; rfl
  apply Run.done; refine ⟨fun h => Bool.noConfusion h, ?_⟩
  apply x3
  (repeat apply CodeT.seq)
  refine CodeT.cond rfl (fun h => ?_) (fun h => ?_)
  replace H := ifT (of_decide_eq_true h) H
  (repeat apply CodeT.seq)
  apply CodeT.skip
  apply x3
  (repeat apply CodeT.seq)
  apply CodeT.block
  (repeat apply CodeT.seq)
  apply CodeT.region (fun _ => PPm)
  apply Run.op; (apply L_mov; rfl; rfl); rfl; rfl
  apply Run.op; (apply L_mov; rfl; rfl); rfl; rfl
  obtain ⟨y4, hy4, H⟩ := bindS H
  apply Run.op; (apply L_ixS2; rfl; rfl; rfl; (exact hy4); (intro _; rfl); rfl); rfl; rfl
  apply Run.op; (apply L_ldI; rfl; rfl; rfl; rfl); rfl; rfl
  apply Run.op; (apply L_mov; rfl; rfl); rfl; rfl
  apply Run.op; (apply L_neq; rfl; rfl; rfl); rfl; rfl
  apply Run.done; refine ⟨fun h => Bool.noConfusion h, ?_⟩
  apply x3
  (repeat apply CodeT.seq)
  refine CodeT.cond rfl (fun h => ?_) (fun h => ?_)
  replace H := ifT (of_decide_eq_true h) H
  (repeat apply CodeT.seq)
  apply CodeT.region (fun _ => PPm)
  apply Run.op; (apply L_asg; rfl; rfl); rfl; rfl
  apply Run.done; refine ⟨fun h => Bool.noConfusion h, ?_⟩
  apply x3
  apply CodeT.ret
  apply x1
  apply x4
  apply x1
  obtain rfl := Option.some.inj H
  refine Ev.y2 ?_
  refine XRet.mk ?_
  exact RetIs.sc1 rfl
  replace H := ifF (of_decide_eq_false h) H
  (repeat apply CodeT.seq)
  apply CodeT.skip
  apply x3
  apply CodeT.region (fun _ => PPm)
  apply Run.op; (apply L_mov; rfl; rfl); rfl; rfl
  apply Run.op; (apply L_add; rfl; rfl; rfl; rfl); rfl; rfl
  apply Run.op; (apply L_asg; rfl; rfl); rfl; rfl
  apply Run.done; refine ⟨fun h => Bool.noConfusion h, ?_⟩
  apply x5
  apply x3
  apply CodeT.region (fun _ => PPm)
  apply Run.op; (apply L_mov; rfl; rfl); rfl; rfl
  apply Run.op; (apply L_add; rfl; rfl; rfl; rfl); rfl; rfl
  apply Run.op; (apply L_asg; rfl; rfl); rfl; rfl
  apply Run.done; refine ⟨fun h => Bool.noConfusion h, ?_⟩
  obtain rfl := Option.some.inj H
  refine Ev.y1 ?_
  refine Ent.list [] (io0 hio _) rfl ?_ ?_ <;> (repeat' first | exact trivial | (refine And.intro ⟨_, rfl, fun h => (by first | rfl | exact Bool.noConfusion h)⟩ ?_))
  replace H := ifF (of_decide_eq_false h) H
  (repeat apply CodeT.seq)
  apply CodeT.exit
  apply x2
  obtain rfl := Option.some.inj H
  refine Ev.y3 ?_
  refine XEnv.mk ?_
  refine Ent.list [] (io0 hio _) rfl ?_ ?_ <;> (repeat' first | exact trivial | (refine And.intro ⟨_, rfl, fun h => (by first | rfl | exact Bool.noConfusion h)⟩ ?_))
  rcases d5 with (d6 | d8)
  intro e E' hX; obtain ⟨rfl, g7⟩ := XEnv.out hX
  refine x6 rfl ?_
  apply x3
  refine CodeT.weak g7 ?_
  (repeat apply CodeT.seq)
  apply CodeT.region (fun _ => PPm)
  apply Run.op; (apply L_mov; rfl; rfl); rfl; rfl
  apply Run.op; (apply L_asg; rfl; rfl); rfl; rfl
  apply Run.done; refine ⟨fun h => Bool.noConfusion h, ?_⟩
  apply x3
  apply CodeT.ret
  cases H
  apply x12
  exact RetIs.sc1 rfl
  intro e E' hX; obtain ⟨rfl, g9⟩ := XRet.out hX
  apply x4
  apply x1
  cases H
  apply x12
  exact g9
theorem m_laws_FnExactHeadingConflicts (a0 : (List Factor)) (r : Bool) (H : laws_FnExactHeadingConflicts a0 = some r) : Meets Try.prog 3 [.sl a0.length (a0.flatMap encFactor)] (.sc (.bool r)) true := by
  refine Meets.intro2 (N := 69) (rs := #[.tmp 2]) Try.func3 rfl rfl rfl rfl ?_
  intro Γ hio
  unfold laws_FnExactHeadingConflicts at H
  (repeat apply CodeT.seq)
  apply CodeT.region (fun _ => PPm)
  apply Run.op; (apply L_asg; rfl; rfl); rfl; rfl
  apply Run.done; refine ⟨fun h => Bool.noConfusion h, ?_⟩
  apply x3
  (repeat apply CodeT.seq)
  apply CodeT.region (fun _ => PPm)
  apply Run.op; (apply L_asg; rfl; rfl); rfl; rfl
  apply Run.done; refine ⟨fun h => Bool.noConfusion h, ?_⟩
  apply x3
  (repeat apply CodeT.seq)
  apply CodeT.region (fun _ => PPm)
  apply Run.op; (apply L_mov; rfl; rfl); rfl; rfl
  apply Run.op; (apply L_mov; rfl; rfl); rfl; rfl
  obtain ⟨r1, hr1, H⟩ := bindS H
  apply Run.op; (apply L_call; ((apply ArgsV.cons; (apply ArgV.val; rfl; rfl)); (apply ArgsV.cons; (apply ArgV.val; rfl; rfl)); (apply ArgsV.nil)); (exact m_laws_szFactorS a0 1048576 _ hr1); rfl; rfl; rfl); rfl; rfl
  apply Run.op; (apply L_asg; rfl; rfl); rfl; rfl
  apply Run.done; refine ⟨fun h => Bool.noConfusion h, ?_⟩
  apply x3
  (repeat apply CodeT.seq)
  apply CodeT.region (fun _ => PPm)
  apply Run.op; (apply L_mov; rfl; rfl); rfl; rfl
  apply Run.op; (apply L_lss; rfl; rfl; rfl); rfl; rfl
  apply Run.done; refine ⟨fun h => Bool.noConfusion h, ?_⟩
  apply x3
  (repeat apply CodeT.seq)
  refine CodeT.cond rfl (fun h => ?_) (fun h => ?_)
  replace H := ifT (of_decide_eq_true h) H
  (repeat apply CodeT.seq)
  apply CodeT.region (fun _ => PPm)
  apply Run.op; (apply L_asg; rfl; rfl); rfl; rfl
  apply Run.done; refine ⟨fun h => Bool.noConfusion h, ?_⟩
  apply x3
  apply CodeT.ret
  apply x1
  cases H
  apply x12
  exact RetIs.sc1 rfl
  replace H := ifF (of_decide_eq_false h) H
  (repeat apply CodeT.seq)
  apply CodeT.skip
  apply x3
  (repeat apply CodeT.seq)
  apply CodeT.region (fun _ => PPm)
  apply Run.op; (apply L_mov; rfl; rfl); rfl; rfl
  obtain ⟨r2, hr2, H⟩ := bindS H
  apply Run.op; (apply L_callW; ((apply ArgsV.cons; (apply ArgV.val; rfl; rfl)); (apply ArgsV.nil)); (exact m_laws_toFactorS a0 _ hr2); (exact io1 hio _); rfl); rfl; rfl
  obtain ⟨r3, hr3, H⟩ := bindS H
  apply Run.op; (apply L_callW; ((apply ArgsV.cons; (apply ArgV.ref; rfl; rfl; (exact Nat.le_of_eq (flat_len (fun _ => rfl))))); (apply ArgsV.nil)); (exact m_spec_HeadingConflicts r2 _ hr3); (exact io1 hio _); rfl); rfl; rfl
  apply Run.op; (apply L_asg; rfl; rfl); rfl; rfl
  apply Run.done; refine ⟨fun h => Bool.noConfusion h, ?_⟩
  apply x3
  (repeat apply CodeT.seq)
  apply CodeT.region (fun _ => PPm)
  apply Run.op; (apply L_mov; rfl; rfl); rfl; rfl
  obtain ⟨r4, hr4, H⟩ := bindS H
  apply Run.op; (apply L_callW; ((apply ArgsV.cons; (apply ArgV.val; rfl; rfl)); (apply ArgsV.nil)); (exact m_laws_toFactorS a0 _ hr4); (exact io1 hio _); rfl); rfl; rfl
  apply Run.op; (apply L_asg; rfl; rfl); rfl; rfl
  apply Run.done; refine ⟨fun h => Bool.noConfusion h, ?_⟩
  apply x3
  (repeat apply CodeT.seq)
  apply CodeT.region (fun _ => PPm)
  apply Run.op; (apply L_mov; rfl; rfl); rfl; rfl
  obtain ⟨r5, hr5, H⟩ := bindS H
  apply Run.op; (apply L_callW; ((apply ArgsV.cons; (apply ArgV.ref; rfl; rfl; (exact Nat.le_of_eq (flat_len (fun _ => rfl))))); (apply ArgsV.nil)); (exact m_impl_HeadingConflicts r4 _ hr5); (exact io1 hio _); rfl); rfl; rfl
  apply Run.op; (apply L_asg; rfl; rfl); rfl; rfl
  apply Run.done; refine ⟨fun h => Bool.noConfusion h, ?_⟩
  apply x3
  (repeat apply CodeT.seq)
  apply CodeT.region (fun _ => PPm)
  apply Run.op; (apply L_mov; rfl; rfl); rfl; rfl
  apply Run.op; (apply L_mov; rfl; rfl); rfl; rfl
  obtain ⟨r6, hr6, H⟩ := bindS H
  apply Run.op; (apply L_call; ((apply ArgsV.cons; (apply ArgV.ref; rfl; rfl; (exact Nat.le_of_eq (flat_len (fun _ => rfl))))); (apply ArgsV.cons; (apply ArgV.ref; rfl; rfl; (exact Nat.le_of_eq (flat_len (fun _ => rfl))))); (apply ArgsV.nil)); (exact m_laws_eqIntS r5 r3 _ hr6); rfl; rfl; rfl); rfl; rfl
  apply Run.op; (apply L_not; rfl; rfl); rfl; rfl
  apply Run.done; refine ⟨fun h => Bool.noConfusion h, ?_⟩
  apply x3
  (repeat apply CodeT.seq)
  refine CodeT.cond rfl (fun h => ?_) (fun h => ?_)
  replace H := ifFb (notT h) H
  (repeat apply CodeT.seq)
  apply CodeT.region (fun _ => PPm)
  apply Run.op; (apply L_asg; rfl; rfl); rfl; rfl
  apply Run.done; refine ⟨fun h => Bool.noConfusion h, ?_⟩
  apply x3
  apply CodeT.ret
  apply x1
  cases H
  apply x12
  exact RetIs.sc1 rfl
  replace H := ifTb (notF h) H
  (repeat apply CodeT.seq)
  apply CodeT.skip
  apply x3
  (repeat apply CodeT.seq)
  apply CodeT.region (fun _ => PPm)
  apply Run.op; (apply L_mov; rfl; rfl); rfl; rfl
  apply Run.op; (apply L_mov; rfl; rfl); rfl; rfl
  obtain ⟨r7, hr7, H⟩ := bindS H
  apply Run.op; (apply L_callW; ((apply ArgsV.cons; (apply ArgV.val; rfl; rfl)); (apply ArgsV.nil)); (exact m_laws_toFactorS a0 _ hr7); (exact io1 hio _); rfl); rfl; rfl
  obtain ⟨r8, hr8, H⟩ := bindS H
  apply Run.op; (apply L_call; ((apply ArgsV.cons; (apply ArgV.ref; rfl; rfl; (exact Nat.le_of_eq (flat_len (fun _ => rfl))))); (apply ArgsV.cons; (apply ArgV.ref; rfl; rfl; (exact Nat.le_of_eq (flat_len (fun _ => rfl))))); (apply ArgsV.nil)); (exact m_laws_eqFactorS r4 r7 _ hr8); rfl; rfl; rfl); rfl; rfl
  apply Run.op; (apply L_not; rfl; rfl); rfl; rfl
  apply Run.done; refine ⟨fun h => Bool.noConfusion h, ?_⟩
  apply x3
  (repeat apply CodeT.seq)
  refine CodeT.cond rfl (fun h => ?_) (fun h => ?_)
  replace H := ifFb (notT h) H
  (repeat apply CodeT.seq)
  apply CodeT.region (fun _ => PPm)
  apply Run.op; (apply L_asg; rfl; rfl); rfl; rfl
  apply Run.done; refine ⟨fun h => Bool.noConfusion h, ?_⟩
  apply x3
  apply CodeT.ret
  apply x1
  cases H
  apply x12
  exact RetIs.sc1 rfl
  replace H := ifTb (notF h) H
  (repeat apply CodeT.seq)
  apply CodeT.skip
  apply x3
  (repeat apply CodeT.seq)
  apply CodeT.region (fun _ => PPm)
  apply Run.op; (apply L_asg; rfl; rfl); rfl; rfl
  apply Run.done; refine ⟨fun h => Bool.noConfusion h, ?_⟩
  apply x3
  (repeat apply CodeT.seq)
  apply CodeT.region (fun _ => PPm)
  apply Run.op; (apply L_mov; rfl; rfl); rfl; rfl
  apply Run.op; (apply L_mov; rfl; rfl); rfl; rfl
  obtain ⟨r9, hr9, H⟩ := bindS H
  have hl10 := len_laws_markFactorS r4 1 _ hr9
  apply Run.op; (apply L_callX [(100000, 20)]; ((apply ArgsX.cons; (apply ArgX.io (p := .ref 100000 8 0 r4.length); rfl)); (apply ArgsX.cons; (apply ArgX.val; (apply ArgV.val; rfl; rfl); rfl)); (apply ArgsX.nil)); (exact m_laws_markFactorS r4 1 _ hr9); ((apply ObsX.cons; rfl; (exact allSc_flat (fun _ => rfl))); (apply ObsX.nil)); rfl; rfl; rfl; rfl; rfl); rfl; rfl
  apply Run.op; (apply L_asg; rfl; rfl); rfl; rfl
  apply Run.done; refine ⟨fun h => Bool.noConfusion h, ?_⟩
  apply x3
  (repeat apply CodeT.seq)
  obtain ⟨d13, hd13, H⟩ := bindS H
  refine CodeT.lcut (x := d13) (fun d e E => XEnv Γ .normal ⟨[(0, ⟨.sl a0.length (a0.flatMap encFactor), false⟩), (4, ⟨.ref 504 1 0 r3.length, false⟩), (6, ⟨.ref 506 1 0 r5.length, false⟩), (42, ⟨.sc (.bool d), false⟩)], [(504, some ⟨r3.flatMap (encI .i64), true, false⟩), (506, some ⟨r5.flatMap (encI .i64), true, false⟩)]⟩ e E) ?_ ?_
  clear H; have H := hd13; clear hd13
  apply CodeT.region (fun _ => PPm)
  apply Run.op; (apply L_mov; rfl; rfl); rfl; rfl
  apply R_dec; (apply L_lss; rfl; rfl; rfl); rfl
  intro h; replace H := ifT h H
  apply Run.op; (apply L_mov; rfl; rfl); rfl; rfl
  apply Run.skip; rfl
  apply Run.skip; rfl
  apply Run.skip; rfl
  apply Run.skip; rfl
  apply Run.op; (apply L_pickT; rfl; rfl; rfl); rfl; rfl
  apply Run.done; refine ⟨fun h => Bool.noConfusion h, ?_⟩
  obtain rfl := Option.some.inj H
  refine Ev.y4 ?_
  refine XEnv.mk ?_
  refine Ent.list [(504, 18), (506, 22)] (io0 hio _) rfl ?_ ?_ <;> (repeat' first | exact trivial | (refine And.intro ⟨_, rfl, fun h => (by first | rfl | exact Bool.noConfusion h)⟩ ?_))
  intro h; replace H := ifF h H
  apply Run.op; (apply L_mov; rfl; rfl); rfl; rfl
  apply Run.op; (apply L_mov; rfl; rfl); rfl; rfl
  apply Run.op; (apply L_mov; rfl; rfl); rfl; rfl
  obtain ⟨r11, hr11, H⟩ := bindS H
  apply Run.op; (apply L_call; ((apply ArgsV.cons; (apply ArgV.ref; rfl; rfl; (exact Nat.le_of_eq (flat_len (fun _ => rfl))))); (apply ArgsV.cons; (apply ArgV.ref; rfl; rfl; (exact Nat.le_of_eq (flat_len (fun _ => rfl))))); (apply ArgsV.nil)); (exact m_laws_eqIntS r5 r3 _ hr11); rfl; rfl; rfl); rfl; rfl
  apply Run.op; (apply L_not; rfl; rfl); rfl; rfl
  apply Run.op; (apply L_pickF; rfl; rfl; rfl); rfl; rfl
  apply Run.done; refine ⟨fun h => Bool.noConfusion h, ?_⟩
  obtain rfl := Option.some.inj H
  refine Ev.y4 ?_
  refine XEnv.mk ?_
  refine Ent.list [(504, 18), (506, 22)] (io0 hio _) rfl ?_ ?_ <;> (repeat' first | exact trivial | (refine And.intro ⟨_, rfl, fun h => (by first | rfl | exact Bool.noConfusion h)⟩ ?_))
  intro e E' hX; obtain ⟨rfl, g14⟩ := XEnv.out hX
  apply x3
  refine CodeT.weak g14 ?_
  (repeat apply CodeT.seq)
  refine CodeT.cond rfl (fun h => ?_) (fun h => ?_)
  replace H := ifTb h H
  (repeat apply CodeT.seq)
  apply CodeT.region (fun _ => PPm)
  apply Run.op; (apply L_asg; rfl; rfl); rfl; rfl
  apply Run.done; refine ⟨fun h => Bool.noConfusion h, ?_⟩
  apply x3
  apply CodeT.ret
  apply x1
  cases H
  apply x12
  exact RetIs.sc1 rfl
  replace H := ifFb h H
  (repeat apply CodeT.seq)
  apply CodeT.skip
  apply x3
  (repeat apply CodeT.seq)
  apply CodeT.region (fun _ => PPm)
  apply Run.op; (apply L_asg; rfl; rfl); rfl; rfl
  apply Run.done; refine ⟨fun h => Bool.noConfusion h, ?_⟩
  apply x3
  (repeat apply CodeT.seq)
  apply CodeT.region (fun _ => PPm)
  apply Run.op; (apply L_mov; rfl; rfl); rfl; rfl
  apply Run.op; (apply L_mov; rfl; rfl); rfl; rfl
  obtain ⟨r15, hr15, H⟩ := bindS H
  have hl16 := len_laws_markIntS r5 1 _ hr15
  apply Run.op; (apply L_callX [(100000, 506)]; ((apply ArgsX.cons; (apply ArgX.io (p := .ref 100000 1 0 r5.length); rfl)); (apply ArgsX.cons; (apply ArgX.val; (apply ArgV.val; rfl; rfl); rfl)); (apply ArgsX.nil)); (exact m_laws_markIntS r5 1 _ hr15); ((apply ObsX.cons; rfl; (exact allSc_flat (fun _ => rfl))); (apply ObsX.nil)); rfl; rfl; rfl; rfl; rfl); rfl; rfl
  apply Run.op; (apply L_asg; rfl; rfl); rfl; rfl
  apply Run.done; refine ⟨fun h => Bool.noConfusion h, ?_⟩
  apply x3
  (repeat apply CodeT.seq)
  refine CodeT.weak (Ent.relen (k := 6) (n' := r15.2.length) rfl (by first | (simp only [setI_len]; done) | (simp only [setI_len]; omega) | omega)) ?_
  apply CodeT.region (fun _ => PPm)
  apply Run.op; (apply L_asg; rfl; rfl); rfl; rfl
  apply Run.done; refine ⟨fun h => Bool.noConfusion h, ?_⟩
  apply x3
  (repeat apply CodeT.seq)
  apply CodeT.region (fun _ => PPm)
  apply Run.op; (apply L_mov; rfl; rfl); rfl; rfl
  apply Run.op; (apply L_mov; rfl; rfl); rfl; rfl
  obtain ⟨r17, hr17, H⟩ := bindS H
  apply Run.op; (apply L_call; ((apply ArgsV.cons; (apply ArgV.ref; rfl; rfl; (exact Nat.le_of_eq (flat_len (fun _ => rfl))))); (apply ArgsV.cons; (apply ArgV.val; rfl; rfl)); (apply ArgsV.nil)); (exact m_laws_heldIntS r15.2 1 _ hr17); rfl; rfl; rfl); rfl; rfl
  apply Run.op; (apply L_asg; rfl; rfl); rfl; rfl
  apply Run.done; refine ⟨fun h => Bool.noConfusion h, ?_⟩
  apply x3
  (repeat apply CodeT.seq)
  apply CodeT.region (fun _ => PPm)
  apply Run.op; (apply L_mov; rfl; rfl); rfl; rfl
  apply Run.op; (apply L_lss; rfl; rfl; rfl); rfl; rfl
  apply Run.done; refine ⟨fun h => Bool.noConfusion h, ?_⟩
  apply x3
  (repeat apply CodeT.seq)
  refine CodeT.cond rfl (fun h => ?_) (fun h => ?_)
  replace H := ifT (of_decide_eq_true h) H
  (repeat apply CodeT.seq)
  apply CodeT.region (fun _ => PPm)
  apply Run.op; (apply L_asg; rfl; rfl); rfl; rfl
  apply Run.done; refine ⟨fun h => Bool.noConfusion h, ?_⟩
  apply x3
  apply CodeT.ret
  apply x1
  cases H
  apply x12
  exact RetIs.sc1 rfl
  replace H := ifF (of_decide_eq_false h) H
  (repeat apply CodeT.seq)
  apply CodeT.skip
  apply x3
  (repeat apply CodeT.seq)
  apply CodeT.region (fun _ => PPm)
  apply Run.op; (apply L_mov; rfl; rfl); rfl; rfl
  apply Run.op; (apply L_mov; rfl; rfl); rfl; rfl
  apply Run.op; (apply L_neq; rfl; rfl; rfl); rfl; rfl
  apply Run.done; refine ⟨fun h => Bool.noConfusion h, ?_⟩
  apply x3
  (repeat apply CodeT.seq)
  refine CodeT.cond rfl (fun h => ?_) (fun h => ?_)
  replace H := ifT (of_decide_eq_true h) H
  (repeat apply CodeT.seq)
  apply CodeT.region (fun _ => PPm)
  apply Run.op; (apply L_asg; rfl; rfl); rfl; rfl
  apply Run.done; refine ⟨fun h => Bool.noConfusion h, ?_⟩
  apply x3
  apply CodeT.ret
  apply x1
  cases H
  apply x12
  exact RetIs.sc1 rfl
  replace H := ifF (of_decide_eq_false h) H
  (repeat apply CodeT.seq)
  apply CodeT.skip
  apply x3
  (repeat apply CodeT.seq)
  apply CodeT.region (fun _ => PPm)
  apply Run.op; (apply L_mov; rfl; rfl); rfl; rfl
  obtain ⟨r18, hr18, H⟩ := bindS H
  apply Run.op; (apply L_callW; ((apply ArgsV.cons; (apply ArgV.val; rfl; rfl)); (apply ArgsV.nil)); (exact m_laws_toFactorS a0 _ hr18); (exact io1 hio _); rfl); rfl; rfl
  obtain ⟨r19, hr19, H⟩ := bindS H
  apply Run.op; (apply L_callW; ((apply ArgsV.cons; (apply ArgV.ref; rfl; rfl; (exact Nat.le_of_eq (flat_len (fun _ => rfl))))); (apply ArgsV.nil)); (exact m_impl_HeadingConflicts r18 _ hr19); (exact io1 hio _); rfl); rfl; rfl
  apply Run.op; (apply L_asg; rfl; rfl); rfl; rfl
  apply Run.done; refine ⟨fun h => Bool.noConfusion h, ?_⟩
  apply x3
  (repeat apply CodeT.seq)
  apply CodeT.region (fun _ => PPm)
  apply Run.op; (apply L_mov; rfl; rfl); rfl; rfl
  apply Run.op; (apply L_mov; rfl; rfl); rfl; rfl
  obtain ⟨r20, hr20, H⟩ := bindS H
  apply Run.op; (apply L_call; ((apply ArgsV.cons; (apply ArgV.ref; rfl; rfl; (exact Nat.le_of_eq (flat_len (fun _ => rfl))))); (apply ArgsV.cons; (apply ArgV.ref; rfl; rfl; (exact Nat.le_of_eq (flat_len (fun _ => rfl))))); (apply ArgsV.nil)); (exact m_laws_eqIntS r19 r3 _ hr20); rfl; rfl; rfl); rfl; rfl
  apply Run.op; (apply L_not; rfl; rfl); rfl; rfl
  apply Run.done; refine ⟨fun h => Bool.noConfusion h, ?_⟩
  apply x3
  (repeat apply CodeT.seq)
  refine CodeT.cond rfl (fun h => ?_) (fun h => ?_)
  replace H := ifFb (notT h) H
  (repeat apply CodeT.seq)
  apply CodeT.region (fun _ => PPm)
  apply Run.op; (apply L_asg; rfl; rfl); rfl; rfl
  apply Run.done; refine ⟨fun h => Bool.noConfusion h, ?_⟩
  apply x3
  apply CodeT.ret
  apply x1
  cases H
  apply x12
  exact RetIs.sc1 rfl
  replace H := ifTb (notF h) H
  (repeat apply CodeT.seq)
  apply CodeT.skip
  apply x3
  (repeat apply CodeT.seq)
  apply CodeT.region (fun _ => PPm)
  apply Run.op; (apply L_asg; rfl; rfl); rfl; rfl
  apply Run.done; refine ⟨fun h => Bool.noConfusion h, ?_⟩
  apply x3
  (repeat apply CodeT.seq)
  apply CodeT.region (fun _ => PPm)
  apply Run.op; (apply L_mov; rfl; rfl); rfl; rfl
  apply Run.op; (apply L_mov; rfl; rfl); rfl; rfl
  obtain ⟨r21, hr21, H⟩ := bindS H
  apply Run.op; (apply L_call; ((apply ArgsV.cons; (apply ArgV.ref; rfl; rfl; (exact Nat.le_of_eq (flat_len (fun _ => rfl))))); (apply ArgsV.cons; (apply ArgV.val; rfl; rfl)); (apply ArgsV.nil)); (exact m_laws_heldIntS r15.2 1 _ hr21); rfl; rfl; rfl); rfl; rfl
  apply Run.op; (apply L_asg; rfl; rfl); rfl; rfl
  apply Run.done; refine ⟨fun h => Bool.noConfusion h, ?_⟩
  apply x3
  (repeat apply CodeT.seq)
  apply CodeT.region (fun _ => PPm)
  apply Run.op; (apply L_mov; rfl; rfl); rfl; rfl
  apply Run.op; (apply L_lss; rfl; rfl; rfl); rfl; rfl
  apply Run.done; refine ⟨fun h => Bool.noConfusion h, ?_⟩
  apply x3
  (repeat apply CodeT.seq)
  refine CodeT.cond rfl (fun h => ?_) (fun h => ?_)
  replace H := ifT (of_decide_eq_true h) H
  (repeat apply CodeT.seq)
  apply CodeT.region (fun _ => PPm)
  apply Run.op; (apply L_asg; rfl; rfl); rfl; rfl
  apply Run.done; refine ⟨fun h => Bool.noConfusion h, ?_⟩
  apply x3
  apply CodeT.ret
  apply x1
  cases H
  apply x12
  exact RetIs.sc1 rfl
  replace H := ifF (of_decide_eq_false h) H
  (repeat apply CodeT.seq)
  apply CodeT.skip
  apply x3
  (repeat apply CodeT.seq)
  apply CodeT.region (fun _ => PPm)
  apply Run.op; (apply L_mov; rfl; rfl); rfl; rfl
  apply Run.op; (apply L_mov; rfl; rfl); rfl; rfl
  apply Run.op; (apply L_neq; rfl; rfl; rfl); rfl; rfl
  apply Run.done; refine ⟨fun h => Bool.noConfusion h, ?_⟩
  apply x3
  (repeat apply CodeT.seq)
  refine CodeT.cond rfl (fun h => ?_) (fun h => ?_)
  replace H := ifT (of_decide_eq_true h) H
  (repeat apply CodeT.seq)
  apply CodeT.region (fun _ => PPm)
  apply Run.op; (apply L_asg; rfl; rfl); rfl; rfl
  apply Run.done; refine ⟨fun h => Bool.noConfusion h, ?_⟩
  apply x3
  apply CodeT.ret
  apply x1
  cases H
  apply x12
  exact RetIs.sc1 rfl
  replace H := ifF (of_decide_eq_false h) H
  (repeat apply CodeT.seq)
  apply CodeT.skip
  apply x3
  (repeat apply CodeT.seq)
  apply CodeT.region (fun _ => PPm)
  apply Run.op; (apply L_asg; rfl; rfl); rfl; rfl
  apply Run.done; refine ⟨fun h => Bool.noConfusion h, ?_⟩
  apply x3
  apply CodeT.ret
  cases H
  apply x12
  exact RetIs.sc1 rfl
theorem m_spec_RotateXY (a0 : Int) (a1 : Int) (a2 : Int) (r : (Int × Int)) (H : spec_RotateXY a0 a1 a2 = some r) : Meets Try.prog 110 [.sc (.int .i64 a0), .sc (.int .i64 a1), .sc (.int .i64 a2)] (.tup [.sc (.int .i64 r.1), .sc (.int .i64 r.2)]) true := by
  refine Meets.intro2 (N := 25) (rs := #[.tmp 6, .tmp 7]) Try.func110 rfl rfl rfl rfl ?_
  intro Γ hio
  unfold spec_RotateXY at H
  (repeat apply CodeT.seq)
  apply CodeT.region (fun _ => PPm)
  apply Run.op; (apply L_asg; rfl; rfl); rfl; rfl
  apply Run.op; (apply L_asg; rfl; rfl); rfl; rfl
  apply Run.done; refine ⟨fun h => Bool.noConfusion h, ?_⟩
  apply x3
  (repeat apply CodeT.seq)
  apply CodeT.region (fun _ => PPm)
  apply Run.op; (apply L_mov; rfl; rfl); rfl; rfl
  apply Run.op; (apply L_mov; rfl; rfl); rfl; rfl
  apply Run.op; (apply L_mov; rfl; rfl); rfl; rfl
  apply Run.op; (apply L_buildF (vals := [(0, .int .i64 a2), (1, .int .i64 a0), (2, .int .i64 a1)]) (cs := [.int .i64 a2, .int .i64 a0, .int .i64 a1]); rfl; kernel_rfl; rfl; rfl; rfl); rfl; rfl
  obtain ⟨r1, hr1, H⟩ := bindS H
  apply Run.op; (apply L_call; ((apply ArgsV.cons; (apply ArgV.val; rfl; rfl)); (apply ArgsV.nil)); (exact m_spec_IsValidPose (Pose.mk a2 a0 a1) _ hr1); rfl; rfl; rfl); rfl; rfl
  apply Run.op; (apply L_not; rfl; rfl); rfl; rfl
  apply Run.done; refine ⟨fun h => Bool.noConfusion h, ?_⟩
  apply x3
  (repeat apply CodeT.seq)
  refine CodeT.cond rfl (fun h => ?_) (fun h => ?_)
  replace H := ifFb (notT h) H
  (repeat apply CodeT.seq)
  apply CodeT.region (fun _ => PPm)
  apply Run.op; (apply L_asg; rfl; rfl); rfl; rfl
  apply Run.op; (apply L_asg; rfl; rfl); rfl; rfl
  apply Run.done; refine ⟨fun h => Bool.noConfusion h, ?_⟩
  apply x3
  apply CodeT.ret
  apply x1
  cases H
  apply x12
  exact RetIs.many (.inl rfl) (ResL.cons (Res1.sc rfl) (ResL.cons (Res1.sc rfl) ResL.nil)) (fun h => by first | rfl | cases h)
  replace H := ifTb (notF h) H
  (repeat apply CodeT.seq)
  apply CodeT.skip
  apply x3
  (repeat apply CodeT.seq)
  apply CodeT.region (fun _ => PPm)
  apply Run.op; (apply L_asg; rfl; rfl); rfl; rfl
  apply Run.done; refine ⟨fun h => Bool.noConfusion h, ?_⟩
  apply x3
  (repeat apply CodeT.seq)
  apply CodeT.block
  (repeat apply CodeT.seq)
  obtain ⟨d6, hd6, H⟩ := bindS H
  refine CodeT.lloop (fun s => ⟨[(0, ⟨.sc (.int .i64 s.1), false⟩), (1, ⟨.sc (.int .i64 s.2.1), false⟩), (2, ⟨.sc (.int .i64 a2), false⟩), (8, ⟨.sc (.int .i64 s.2.2), false⟩)], []⟩) (fun d e E => XEnv Γ (.exit 0) ⟨[(0, ⟨.sc (.int .i64 d.1), false⟩), (1, ⟨.sc (.int .i64 d.2), false⟩)], []⟩ e E) hd6 ?_ ?_ ?_
  refine Ent.list [] (io0 hio _) rfl ?_ ?_ <;> (repeat' first | exact trivial | (refine And.intro ⟨_, rfl, fun h => (by first | rfl | exact Bool.noConfusion h)⟩ ?_))
  clear H hd6
  rintro ⟨v2, v3, v4⟩ o H
  unfold spec_RotateXY_L1 at H
  (repeat apply CodeT.seq)
  apply CodeT.region (fun _ => PPm)
  apply Run.op; (apply L_mov; rfl; rfl); rfl; rfl
  apply Run.op; (apply L_mov; rfl; rfl); rfl; rfl
  apply Run.op; (apply L_lss; rfl; rfl; rfl); rfl; rfl
  apply Run.done; refine ⟨fun h => Bool.noConfusion h, ?_⟩
  apply x3
  (repeat apply CodeT.seq)
  refine CodeT.cond rfl (fun h => ?_) (fun h => ?_)
  replace H := ifT (of_decide_eq_true h) H
  (repeat apply CodeT.seq)
  apply CodeT.skip
  apply x3
  (repeat apply CodeT.seq)
  apply CodeT.block
  (repeat apply CodeT.seq)
  apply CodeT.region (fun _ => PPm)
  apply Run.op; (apply L_mov; rfl; rfl); rfl; rfl
  apply Run.op; (apply L_neg; rfl; rfl; rfl); rfl; rfl
  apply Run.op; (apply L_mov; rfl; rfl); rfl; rfl
  apply Run.op; (apply L_asg; rfl; rfl); rfl; rfl
  apply Run.op; (apply L_asg; rfl; rfl); rfl; rfl
  apply Run.done; refine ⟨fun h => Bool.noConfusion h, ?_⟩
  apply x5
  apply x3
  apply CodeT.region (fun _ => PPm)
  apply Run.op; (apply L_mov; rfl; rfl); rfl; rfl
  apply Run.op; (apply L_add; rfl; rfl; rfl; rfl); rfl; rfl
  apply Run.op; (apply L_asg; rfl; rfl); rfl; rfl
  apply Run.done; refine ⟨fun h => Bool.noConfusion h, ?_⟩
  obtain rfl := Option.some.inj H
  refine Ev.y1 ?_
  refine Ent.list [] (io0 hio _) rfl ?_ ?_ <;> (repeat' first | exact trivial | (refine And.intro ⟨_, rfl, fun h => (by first | rfl | exact Bool.noConfusion h)⟩ ?_))
  replace H := ifF (of_decide_eq_false h) H
  (repeat apply CodeT.seq)
  apply CodeT.exit
  apply x2
  obtain rfl := Option.some.inj H
  refine Ev.y3 ?_
  refine XEnv.mk ?_
  refine Ent.list [] (io0 hio _) rfl ?_ ?_ <;> (repeat' first | exact trivial | (refine And.intro ⟨_, rfl, fun h => (by first | rfl | exact Bool.noConfusion h)⟩ ?_))
  skip
  intro e E' hX; obtain ⟨rfl, g7⟩ := XEnv.out hX
  refine x6 rfl ?_
  apply x3
  refine CodeT.weak g7 ?_
  (repeat apply CodeT.seq)
  apply CodeT.region (fun _ => PPm)
  apply Run.op; (apply L_mov; rfl; rfl); rfl; rfl
  apply Run.op; (apply L_mov; rfl; rfl); rfl; rfl
  apply Run.op; (apply L_asg; rfl; rfl); rfl; rfl
  apply Run.op; (apply L_asg; rfl; rfl); rfl; rfl
  apply Run.done; refine ⟨fun h => Bool.noConfusion h, ?_⟩
  apply x3
  apply CodeT.ret
  cases H
  apply x12
  exact RetIs.many (.inl rfl) (ResL.cons (Res1.sc rfl) (ResL.cons (Res1.sc rfl) ResL.nil)) (fun h => by first | rfl | cases h)
theorem m_spec_l05Compose (a0 : Pose) (a1 : Pose) (r : (Pose × Bool)) (H : spec_l05Compose a0 a1 = some r) : Meets Try.prog 124 [.agg (encPose a0), .agg (encPose a1)] (.tup [.agg (encPose r.1), .sc (.bool r.2)]) true := by
  refine Meets.intro2 (N := 48) (rs := #[.cell 4 86, .tmp 5]) Try.func124 rfl rfl rfl rfl ?_
  intro Γ hio
  unfold spec_l05Compose at H
  (repeat apply CodeT.seq)
  apply CodeT.region (fun _ => PPm)
  apply Run.op; (apply L_box false; rfl; rfl; rfl; (exact io1 hio _); rfl); rfl; rfl
  apply Run.op; (apply L_box false; rfl; rfl; rfl; (exact io1 hio _); rfl); rfl; rfl
  apply Run.op; (apply L_alloc false; (exact io1 hio _); rfl); rfl; rfl
  apply Run.op; (apply L_asg; rfl; rfl); rfl; rfl
  apply Run.done; refine ⟨fun h => Bool.noConfusion h, ?_⟩
  apply x3
  (repeat apply CodeT.seq)
  obtain ⟨d4, hd4, H⟩ := bindS H
  refine CodeT.lcut (x := d4) (fun d e E => XEnv Γ .normal ⟨[(2, ⟨.ptr 2 0, false⟩), (3, ⟨.ptr 3 0, false⟩), (4, ⟨.ptr 4 0, false⟩), (16, ⟨.sc (.bool d), false⟩)], [(2, some ⟨(encPose a0), true, false⟩), (3, some ⟨(encPose a1), true, false⟩), (4, some ⟨[.sc (.int .i64 0), .sc (.int .i64 0), .sc (.int .i64 0)], true, false⟩)]⟩ e E) ?_ ?_
  clear H; have H := hd4; clear hd4
  apply CodeT.region (fun _ => PPm)
  apply Run.op; (apply L_ldPA; rfl; rfl; (first | exact seg_whole rfl | rfl); rfl; (intro h; cases h); (first | exact .inl rfl | exact .inr rfl); rfl); rfl; rfl
  obtain ⟨r1, hr1, H⟩ := bindS H
  apply R_bool; (apply L_call; ((apply ArgsV.cons; (apply ArgV.val; rfl; rfl)); (apply ArgsV.nil)); (exact m_spec_IsValidPose a0 _ hr1); rfl; rfl; rfl); rfl
  intro h; replace H := ifTb h H
  apply Run.op; (apply L_not; rfl; rfl); rfl; rfl
  apply Run.op; (apply L_mov; rfl; rfl); rfl; rfl
  apply Run.op; (apply L_ldPA; rfl; rfl; (first | exact seg_whole rfl | rfl); rfl; (intro h; cases h); (first | exact .inl rfl | exact .inr rfl); rfl); rfl; rfl
  obtain ⟨r2, hr2, H⟩ := bindS H
  apply Run.op; (apply L_call; ((apply ArgsV.cons; (apply ArgV.val; rfl; rfl)); (apply ArgsV.nil)); (exact m_spec_IsValidPose a1 _ hr2); rfl; rfl; rfl); rfl; rfl
  apply Run.op; (apply L_not; rfl; rfl); rfl; rfl
  apply Run.op; (apply L_pickF; rfl; rfl; rfl); rfl; rfl
  apply Run.done; refine ⟨fun h => Bool.noConfusion h, ?_⟩
  obtain rfl := Option.some.inj H
  refine Ev.y4 ?_
  refine XEnv.mk ?_
  refine Ent.list [] (io0 hio _) rfl ?_ ?_ <;> (repeat' first | exact trivial | (refine And.intro ⟨_, rfl, fun h => (by first | rfl | exact Bool.noConfusion h)⟩ ?_))
  intro h; replace H := ifFb h H
  apply Run.op; (apply L_not; rfl; rfl); rfl; rfl
  apply Run.op; (apply L_mov; rfl; rfl); rfl; rfl
  apply Run.skip; rfl
  apply Run.skip; rfl
  apply Run.skip; rfl
  apply Run.op; (apply L_pickT; rfl; rfl; rfl); rfl; rfl
  apply Run.done; refine ⟨fun h => Bool.noConfusion h, ?_⟩
  obtain rfl := Option.some.inj H
  refine Ev.y4 ?_
  refine XEnv.mk ?_
  refine Ent.list [] (io0 hio _) rfl ?_ ?_ <;> (repeat' first | exact trivial | (refine And.intro ⟨_, rfl, fun h => (by first | rfl | exact Bool.noConfusion h)⟩ ?_))
  intro e E' hX; obtain ⟨rfl, g5⟩ := XEnv.out hX
  apply x3
  refine CodeT.weak g5 ?_
  (repeat apply CodeT.seq)
  refine CodeT.cond rfl (fun h => ?_) (fun h => ?_)
  replace H := ifTb h H
  (repeat apply CodeT.seq)
  apply CodeT.region (fun _ => PPm)
  apply Run.op; (apply L_buildF (vals := []) (cs := [.int .i64 0, .int .i64 0, .int .i64 0]); rfl; kernel_rfl; rfl; rfl; rfl); rfl; rfl
  apply Run.op; (apply L_st; rfl; rfl; rfl; rfl; rfl; (intro h; cases h); rfl; (first | exact splice_whole rfl | rfl)); rfl; rfl
  apply Run.op; (apply L_asg; rfl; rfl); rfl; rfl
  apply Run.done; refine ⟨fun h => Bool.noConfusion h, ?_⟩
  apply x3
  apply CodeT.ret
  apply x1
  cases H
  apply x12
  exact RetIs.many (.inl rfl) (ResL.cons (Res1.cell rfl rfl rfl (by intro h; cases h)) (ResL.cons (Res1.sc rfl) ResL.nil)) (fun h => by first | rfl | cases h)
  replace H := ifFb h H
  (repeat apply CodeT.seq)
  apply CodeT.skip
  apply x3
  (repeat apply CodeT.seq)
  apply CodeT.region (fun _ => PPm)
  apply Run.op; (apply L_fldP; rfl; rfl; rfl; rfl); rfl; rfl
  apply Run.op; (apply L_ldP; rfl; rfl; rfl; (first | exact .inl rfl | exact .inr rfl); rfl); rfl; rfl
  apply Run.op; (apply L_fldP; rfl; rfl; rfl; rfl); rfl; rfl
  apply Run.op; (apply L_ldP; rfl; rfl; rfl; (first | exact .inl rfl | exact .inr rfl); rfl); rfl; rfl
  apply Run.op; (apply L_fldP; rfl; rfl; rfl; rfl); rfl; rfl
  apply Run.op; (apply L_ldP; rfl; rfl; rfl; (first | exact .inl rfl | exact .inr rfl); rfl); rfl; rfl
  obtain ⟨r6, hr6, H⟩ := bindS H
  apply Run.op; (apply L_call; ((apply ArgsV.cons; (apply ArgV.val; rfl; rfl)); (apply ArgsV.cons; (apply ArgV.val; rfl; rfl)); (apply ArgsV.cons; (apply ArgV.val; rfl; rfl)); (apply ArgsV.nil)); (exact m_spec_RotateXY a1.fX a1.fY a0.fTurn _ hr6); rfl; rfl; rfl); rfl; rfl
  apply Run.op; (apply L_mov; rfl; rfl); rfl; rfl
  apply Run.op; (apply L_extR; rfl; rfl; rfl); rfl; rfl
  apply Run.op; (apply L_extR; rfl; rfl; rfl); rfl; rfl
  apply Run.op; (apply L_asg; rfl; rfl); rfl; rfl
  apply Run.op; (apply L_asg; rfl; rfl); rfl; rfl
  apply Run.done; refine ⟨fun h => Bool.noConfusion h, ?_⟩
  apply x3
  (repeat apply CodeT.seq)
  apply CodeT.region (fun _ => PPm)
  apply Run.op; (apply L_fldP; rfl; rfl; rfl; rfl); rfl; rfl
  apply Run.op; (apply L_ldP; rfl; rfl; rfl; (first | exact .inl rfl | exact .inr rfl); rfl); rfl; rfl
  apply Run.op; (apply L_fldP; rfl; rfl; rfl; rfl); rfl; rfl
  apply Run.op; (apply L_ldP; rfl; rfl; rfl; (first | exact .inl rfl | exact .inr rfl); rfl); rfl; rfl
  obtain ⟨v7, hv7, H⟩ := bindS H
  apply Run.op; (apply L_add; rfl; rfl; (exact letS hv7); rfl); rfl; rfl
  apply Run.op; (apply L_rem; rfl; rfl; (intro h; cases h); rfl; rfl); rfl; rfl
  apply Run.op; (apply L_fldP; rfl; rfl; rfl; rfl); rfl; rfl
  apply Run.op; (apply L_ldP; rfl; rfl; rfl; (first | exact .inl rfl | exact .inr rfl); rfl); rfl; rfl
  apply Run.op; (apply L_mov; rfl; rfl); rfl; rfl
  apply Run.op; (apply L_add; rfl; rfl; rfl; rfl); rfl; rfl
  apply Run.op; (apply L_fldP; rfl; rfl; rfl; rfl); rfl; rfl
  apply Run.op; (apply L_ldP; rfl; rfl; rfl; (first | exact .inl rfl | exact .inr rfl); rfl); rfl; rfl
  apply Run.op; (apply L_mov; rfl; rfl); rfl; rfl
  apply Run.op; (apply L_add; rfl; rfl; rfl; rfl); rfl; rfl
  apply Run.op; (apply L_buildF (vals := [(0, .int .i64 (v7.tmod 4)), (1, .int .i64 (IntKind.i64.wrap (a0.fX + r6.1))), (2, .int .i64 (IntKind.i64.wrap (a0.fY + r6.2)))]) (cs := [.int .i64 (v7.tmod 4), .int .i64 (IntKind.i64.wrap (a0.fX + r6.1)), .int .i64 (IntKind.i64.wrap (a0.fY + r6.2))]); rfl; kernel_rfl; rfl; rfl; rfl); rfl; rfl
  apply Run.op; (apply L_alloc false; (exact io1 hio _); rfl); rfl; rfl
  apply Run.op; (apply L_st; rfl; rfl; rfl; rfl; rfl; (intro h; cases h); rfl; (first | exact splice_whole rfl | rfl)); rfl; rfl
  apply Run.done; refine ⟨fun h => Bool.noConfusion h, ?_⟩
  apply x3
  (repeat apply CodeT.seq)
  apply CodeT.region (fun _ => PPm)
  apply Run.op; (apply L_ldPA; rfl; rfl; (first | exact seg_whole rfl | rfl); rfl; (intro h; cases h); (first | exact .inl rfl | exact .inr rfl); rfl); rfl; rfl
  obtain ⟨r8, hr8, H⟩ := bindS H
  apply Run.op; (apply L_call; ((apply ArgsV.cons; (apply ArgV.val; rfl; rfl)); (apply ArgsV.nil)); (exact m_spec_IsValidPose (Pose.mk (v7.tmod 4) (IntKind.i64.wrap (a0.fX + r6.1)) (IntKind.i64.wrap (a0.fY + r6.2))) _ hr8); rfl; rfl; rfl); rfl; rfl
  apply Run.op; (apply L_not; rfl; rfl); rfl; rfl
  apply Run.done; refine ⟨fun h => Bool.noConfusion h, ?_⟩
  apply x3
  (repeat apply CodeT.seq)
  refine CodeT.cond rfl (fun h => ?_) (fun h => ?_)
  replace H := ifFb (notT h) H
  (repeat apply CodeT.seq)
  apply CodeT.region (fun _ => PPm)
  apply Run.op; (apply L_buildF (vals := []) (cs := [.int .i64 0, .int .i64 0, .int .i64 0]); rfl; kernel_rfl; rfl; rfl; rfl); rfl; rfl
  apply Run.op; (apply L_st; rfl; rfl; rfl; rfl; rfl; (intro h; cases h); rfl; (first | exact splice_whole rfl | rfl)); rfl; rfl
  apply Run.op; (apply L_asg; rfl; rfl); rfl; rfl
  apply Run.done; refine ⟨fun h => Bool.noConfusion h, ?_⟩
  apply x3
  apply CodeT.ret
  apply x1
  cases H
  apply x12
  exact RetIs.many (.inl rfl) (ResL.cons (Res1.cell rfl rfl rfl (by intro h; cases h)) (ResL.cons (Res1.sc rfl) ResL.nil)) (fun h => by first | rfl | cases h)
  replace H := ifTb (notF h) H
  (repeat apply CodeT.seq)
  apply CodeT.skip
  apply x3
  (repeat apply CodeT.seq)
  apply CodeT.region (fun _ => PPm)
  apply Run.op; (apply L_ldPA; rfl; rfl; (first | exact seg_whole rfl | rfl); rfl; (intro h; cases h); (first | exact .inl rfl | exact .inr rfl); rfl); rfl; rfl
  apply Run.op; (apply L_st; rfl; rfl; rfl; rfl; rfl; (intro h; cases h); rfl; (first | exact splice_whole rfl | rfl)); rfl; rfl
  apply Run.op; (apply L_asg; rfl; rfl); rfl; rfl
  apply Run.done; refine ⟨fun h => Bool.noConfusion h, ?_⟩
  apply x3
  apply CodeT.ret
  cases H
  apply x12
  exact RetIs.many (.inl rfl) (ResL.cons (Res1.cell rfl rfl rfl (by intro h; cases h)) (ResL.cons (Res1.sc rfl) ResL.nil)) (fun h => by first | rfl | cases h)
theorem m_spec_Inverse (a0 : Pose) (r : Pose) (H : spec_Inverse a0 = some r) : Meets Try.prog 125 [.agg (encPose a0)] (.agg (encPose r)) true := by
  refine Meets.intro2 (N := 29) (rs := #[.cell 2 86]) Try.func125 rfl rfl rfl rfl ?_
  intro Γ hio
  unfold spec_Inverse at H
  (repeat apply CodeT.seq)
  apply CodeT.region (fun _ => PPm)
  apply Run.op; (apply L_box false; rfl; rfl; rfl; (exact io1 hio _); rfl); rfl; rfl
  apply Run.op; (apply L_alloc false; (exact io1 hio _); rfl); rfl; rfl
  apply Run.done; refine ⟨fun h => Bool.noConfusion h, ?_⟩
  apply x3
  (repeat apply CodeT.seq)
  apply CodeT.region (fun _ => PPm)
  apply Run.op; (apply L_ldPA; rfl; rfl; (first | exact seg_whole rfl | rfl); rfl; (intro h; cases h); (first | exact .inl rfl | exact .inr rfl); rfl); rfl; rfl
  obtain ⟨r1, hr1, H⟩ := bindS H
  apply Run.op; (apply L_call; ((apply ArgsV.cons; (apply ArgV.val; rfl; rfl)); (apply ArgsV.nil)); (exact m_spec_IsValidPose a0 _ hr1); rfl; rfl; rfl); rfl; rfl
  apply Run.op; (apply L_not; rfl; rfl); rfl; rfl
  apply Run.done; refine ⟨fun h => Bool.noConfusion h, ?_⟩
  apply x3
  (repeat apply CodeT.seq)
  refine CodeT.cond rfl (fun h => ?_) (fun h => ?_)
  replace H := ifFb (notT h) H
  (repeat apply CodeT.seq)
  apply CodeT.region (fun _ => PPm)
  apply Run.op; (apply L_buildF (vals := []) (cs := [.int .i64 0, .int .i64 0, .int .i64 0]); rfl; kernel_rfl; rfl; rfl; rfl); rfl; rfl
  apply Run.op; (apply L_st; rfl; rfl; rfl; rfl; rfl; (intro h; cases h); rfl; (first | exact splice_whole rfl | rfl)); rfl; rfl
  apply Run.done; refine ⟨fun h => Bool.noConfusion h, ?_⟩
  apply x3
  apply CodeT.ret
  apply x1
  cases H
  apply x12
  exact RetIs.c1 rfl rfl rfl rfl (by intro h; cases h)
  replace H := ifTb (notF h) H
  (repeat apply CodeT.seq)
  apply CodeT.skip
  apply x3
  (repeat apply CodeT.seq)
  apply CodeT.region (fun _ => PPm)
  apply Run.op; (apply L_fldP; rfl; rfl; rfl; rfl); rfl; rfl
  apply Run.op; (apply L_ldP; rfl; rfl; rfl; (first | exact .inl rfl | exact .inr rfl); rfl); rfl; rfl
  apply Run.op; (apply L_sub; rfl; rfl; rfl; rfl); rfl; rfl
  obtain ⟨v2, hv2, H⟩ := bindS H
  apply Run.op; (apply L_rem; rfl; rfl; (intro h; cases h); (exact letS hv2); rfl); rfl; rfl
  apply Run.op; (apply L_asg; rfl; rfl); rfl; rfl
  apply Run.done; refine ⟨fun h => Bool.noConfusion h, ?_⟩
  apply x3
  (repeat apply CodeT.seq)
  apply CodeT.region (fun _ => PPm)
  apply Run.op; (apply L_fldP; rfl; rfl; rfl; rfl); rfl; rfl
  apply Run.op; (apply L_ldP; rfl; rfl; rfl; (first | exact .inl rfl | exact .inr rfl); rfl); rfl; rfl
  apply Run.op; (apply L_neg; rfl; rfl; rfl); rfl; rfl
  apply Run.op; (apply L_fldP; rfl; rfl; rfl; rfl); rfl; rfl
  apply Run.op; (apply L_ldP; rfl; rfl; rfl; (first | exact .inl rfl | exact .inr rfl); rfl); rfl; rfl
  apply Run.op; (apply L_neg; rfl; rfl; rfl); rfl; rfl
  apply Run.op; (apply L_mov; rfl; rfl); rfl; rfl
  obtain ⟨r3, hr3, H⟩ := bindS H
  apply Run.op; (apply L_call; ((apply ArgsV.cons; (apply ArgV.val; rfl; rfl)); (apply ArgsV.cons; (apply ArgV.val; rfl; rfl)); (apply ArgsV.cons; (apply ArgV.val; rfl; rfl)); (apply ArgsV.nil)); (exact m_spec_RotateXY (IntKind.i64.wrap (0 - a0.fX)) (IntKind.i64.wrap (0 - a0.fY)) v2 _ hr3); rfl; rfl; rfl); rfl; rfl
  apply Run.op; (apply L_mov; rfl; rfl); rfl; rfl
  apply Run.op; (apply L_extR; rfl; rfl; rfl); rfl; rfl
  apply Run.op; (apply L_extR; rfl; rfl; rfl); rfl; rfl
  apply Run.op; (apply L_asg; rfl; rfl); rfl; rfl
  apply Run.op; (apply L_asg; rfl; rfl); rfl; rfl
  apply Run.done; refine ⟨fun h => Bool.noConfusion h, ?_⟩
  apply x3
  (repeat apply CodeT.seq)
  apply CodeT.region (fun _ => PPm)
  apply Run.op; (apply L_mov; rfl; rfl); rfl; rfl
  apply Run.op; (apply L_mov; rfl; rfl); rfl; rfl
  apply Run.op; (apply L_mov; rfl; rfl); rfl; rfl
  apply Run.op; (apply L_buildF (vals := [(0, .int .i64 v2), (1, .int .i64 r3.1), (2, .int .i64 r3.2)]) (cs := [.int .i64 v2, .int .i64 r3.1, .int .i64 r3.2]); rfl; kernel_rfl; rfl; rfl; rfl); rfl; rfl
  apply Run.op; (apply L_st; rfl; rfl; rfl; rfl; rfl; (intro h; cases h); rfl; (first | exact splice_whole rfl | rfl)); rfl; rfl
  apply Run.done; refine ⟨fun h => Bool.noConfusion h, ?_⟩
  apply x3
  apply CodeT.ret
  cases H
  apply x12
  exact RetIs.c1 rfl rfl rfl rfl (by intro h; cases h)
theorem m_spec_l17Reckon (a0 : (List Factor)) (a1 : (List ByteArray)) (a2 : (List Pose)) (a3 : (List Bool)) (r : (Int × Pose)) (H : spec_l17Reckon a0 a1 a2 a3 = some r) : Meets Try.prog 79 [.sl a0.length (a0.flatMap encFactor), .sl a1.length (a1.flatMap encS), .sl a2.length (a2.flatMap encPose), .sl a3.length (a3.flatMap encB)] (.tup [.sc (.int .i64 r.1), .agg (encPose r.2)]) true := by
  refine Meets.intro2 (N := 99) (rs := #[.tmp 8, .cell 9 86]) Try.func79 rfl rfl rfl rfl ?_
  intro Γ hio
  unfold spec_l17Reckon at H
  (repeat apply CodeT.seq)
  apply CodeT.region (fun _ => PPm)
  apply Run.op; (apply L_asg; rfl; rfl); rfl; rfl
  apply Run.op; (apply L_alloc false; (exact io1 hio _); rfl); rfl; rfl
  apply Run.done; refine ⟨fun h => Bool.noConfusion h, ?_⟩
  apply x3
  (repeat apply CodeT.seq)
  apply CodeT.region (fun _ => PPm)
  apply Run.op; (apply L_mov; rfl; rfl); rfl; rfl
  apply Run.op; (apply L_len; rfl; rfl); rfl; rfl
  apply Run.op; (apply L_mov; rfl; rfl); rfl; rfl
  apply Run.done; refine ⟨fun h => Bool.noConfusion h, ?_⟩
  apply x3
  (repeat apply CodeT.seq)
  apply CodeT.block
  (repeat apply CodeT.seq)
  obtain ⟨d56, hd56, H⟩ := bindS H
  refine CodeT.lloop (fun s => ⟨[(1, ⟨.sl a1.length (a1.flatMap encS), false⟩), (2, ⟨.sl a2.length (a2.flatMap encPose), false⟩), (3, ⟨.sl a3.length (a3.flatMap encB), false⟩), (9, ⟨.ptr 9 0, false⟩), (18, ⟨.sl a0.length (a0.flatMap encFactor), false⟩), (19, ⟨.sc (.int .i64 (a0.length : Int)), false⟩), (20, ⟨.sc (.int .i64 s), false⟩)], [(9, some ⟨[.sc (.int .i64 0), .sc (.int .i64 0), .sc (.int .i64 0)], true, false⟩)]⟩) (fun x e E => match x with | (.inl d) => XEnv Γ (.exit 0) ⟨[(9, ⟨.ptr 9 0, false⟩)], [(9, some ⟨[.sc (.int .i64 0), .sc (.int .i64 0), .sc (.int .i64 0)], true, false⟩)]⟩ e E | (.inr d) => XRet Γ #[.tmp 8, .cell 9 86] (.tup [.sc (.int .i64 d.1), .agg (encPose d.2)]) true e E) hd56 ?_ ?_ ?_
  refine Ent.list [] (io0 hio _) rfl ?_ ?_ <;> (repeat' first | exact trivial | (refine And.intro ⟨_, rfl, fun h => (by first | rfl | exact Bool.noConfusion h)⟩ ?_))
  clear H hd56
  rintro v28 o H
  unfold spec_l17Reckon_L1 at H
  (repeat apply CodeT.seq)
  apply CodeT.region (fun _ => PPm)
  apply Run.op; (apply L_lss; rfl; rfl; rfl); rfl; rfl
  apply Run.done; refine ⟨fun h => Bool.noConfusion h, ?_⟩
  apply x3
  (repeat apply CodeT.seq)
  refine CodeT.cond rfl (fun h => ?_) (fun h => ?_)
  replace H := ifT (of_decide_eq_true h) H
  (repeat apply CodeT.seq)
  apply CodeT.skip
  apply x3
  (repeat apply CodeT.seq)
  apply CodeT.block
  (repeat apply CodeT.seq)
  apply CodeT.region (fun _ => PPm)
  obtain ⟨y29, hy29, H⟩ := bindS H
  apply Run.op; (apply L_ixS2; rfl; rfl; rfl; (exact hy29); (intro _; rfl); rfl); rfl; rfl
  apply Run.op; (apply L_ldIA; rfl; (first | exact take_whole rfl | rfl); rfl; (intro h; cases h); rfl; rfl); rfl; rfl
  apply Run.op; (apply L_alloc false; (exact io1 hio _); rfl); rfl; rfl
  apply Run.op; (apply L_st; rfl; rfl; rfl; rfl; rfl; (intro h; cases h); rfl; (first | exact splice_whole rfl | rfl)); rfl; rfl
  apply Run.done; refine ⟨fun h => Bool.noConfusion h, ?_⟩
  apply x3
  (repeat apply CodeT.seq)
  apply CodeT.region (fun _ => PPm)
  apply Run.op; (apply L_mov; rfl; rfl); rfl; rfl
  apply Run.op; (apply L_fldP; rfl; rfl; rfl; rfl); rfl; rfl
  apply Run.op; (apply L_ldP; rfl; rfl; rfl; (first | exact .inl rfl | exact .inr rfl); rfl); rfl; rfl
  obtain ⟨r30, hr30, H⟩ := bindS H
  apply Run.op; (apply L_call; ((apply ArgsV.cons; (apply ArgV.val; rfl; rfl)); (apply ArgsV.cons; (apply ArgV.val; rfl; rfl)); (apply ArgsV.nil)); (exact m_spec_l17Index a1 y29.fTo _ hr30); rfl; rfl; rfl); rfl; rfl
  apply Run.op; (apply L_asg; rfl; rfl); rfl; rfl
  apply Run.done; refine ⟨fun h => Bool.noConfusion h, ?_⟩
  apply x3
  (repeat apply CodeT.seq)
  obtain ⟨d33, hd33, H⟩ := bindS H
  refine CodeT.lcut (x := d33) (fun d e E => XEnv Γ .normal ⟨[(1, ⟨.sl a1.length (a1.flatMap encS), false⟩), (2, ⟨.sl a2.length (a2.flatMap encPose), false⟩), (3, ⟨.sl a3.length (a3.flatMap encB), false⟩), (9, ⟨.ptr 9 0, false⟩), (11, ⟨.ptr 11 0, false⟩), (12, ⟨.sc (.int .i64 r30), false⟩), (18, ⟨.sl a0.length (a0.flatMap encFactor), false⟩), (19, ⟨.sc (.int .i64 (a0.length : Int)), false⟩), (20, ⟨.sc (.int .i64 v28), false⟩), (37, ⟨.sc (.bool d), false⟩)], [(9, some ⟨[.sc (.int .i64 0), .sc (.int .i64 0), .sc (.int .i64 0)], true, false⟩), (11, some ⟨(encFactor y29), true, false⟩)]⟩ e E) ?_ ?_
  clear H; have H := hd33; clear hd33
  apply CodeT.region (fun _ => PPm)
  apply Run.op; (apply L_fldP; rfl; rfl; rfl; rfl); rfl; rfl
  apply Run.op; (apply L_ldP; rfl; rfl; rfl; (first | exact .inl rfl | exact .inr rfl); rfl); rfl; rfl
  apply R_dec; (apply L_eql; rfl; rfl; rfl); rfl
  intro h; replace H := ifT h H
  apply Run.op; (apply L_mov; rfl; rfl); rfl; rfl
  apply Run.op; (apply L_mov; rfl; rfl); rfl; rfl
  apply Run.op; (apply L_mov; rfl; rfl); rfl; rfl
  obtain ⟨y31, hy31, H⟩ := bindS H
  apply Run.op; (apply L_ixS2; rfl; rfl; rfl; (exact hy31); (intro _; rfl); rfl); rfl; rfl
  apply Run.op; (apply L_ldI; rfl; rfl; rfl; rfl); rfl; rfl
  apply Run.op; (apply L_not; rfl; rfl); rfl; rfl
  apply Run.op; (apply L_pickT; rfl; rfl; rfl); rfl; rfl
  apply Run.done; refine ⟨fun h => Bool.noConfusion h, ?_⟩
  obtain rfl := Option.some.inj H
  refine Ev.y4 ?_
  refine XEnv.mk ?_
  refine Ent.list [] (io0 hio _) rfl ?_ ?_ <;> (repeat' first | exact trivial | (refine And.intro ⟨_, rfl, fun h => (by first | rfl | exact Bool.noConfusion h)⟩ ?_))
  intro h; replace H := ifF h H
  apply Run.op; (apply L_mov; rfl; rfl); rfl; rfl
  apply Run.skip; rfl
  apply Run.skip; rfl
  apply Run.skip; rfl
  apply Run.skip; rfl
  apply Run.skip; rfl
  apply Run.op; (apply L_pickF; rfl; rfl; rfl); rfl; rfl
  apply Run.done; refine ⟨fun h => Bool.noConfusion h, ?_⟩
  obtain rfl := Option.some.inj H
  refine Ev.y4 ?_
  refine XEnv.mk ?_
  refine Ent.list [] (io0 hio _) rfl ?_ ?_ <;> (repeat' first | exact trivial | (refine And.intro ⟨_, rfl, fun h => (by first | rfl | exact Bool.noConfusion h)⟩ ?_))
  intro e E' hX; obtain ⟨rfl, g34⟩ := XEnv.out hX
  apply x3
  refine CodeT.weak g34 ?_
  (repeat apply CodeT.seq)
  refine CodeT.cond rfl (fun h => ?_) (fun h => ?_)
  replace H := ifTb h H
  (repeat apply CodeT.seq)
  apply CodeT.region (fun _ => PPm)
  apply Run.op; (apply L_mov; rfl; rfl); rfl; rfl
  apply Run.op; (apply L_fldP; rfl; rfl; rfl; rfl); rfl; rfl
  apply Run.op; (apply L_ldPA; rfl; rfl; (first | exact seg_whole rfl | rfl); rfl; (intro h; cases h); (first | exact .inl rfl | exact .inr rfl); rfl); rfl; rfl
  apply Run.op; (apply L_asg; rfl; rfl); rfl; rfl
  apply Run.op; (apply L_st; rfl; rfl; rfl; rfl; rfl; (intro h; cases h); rfl; (first | exact splice_whole rfl | rfl)); rfl; rfl
  apply Run.done; refine ⟨fun _ => ⟨rfl, rfl⟩, ?_⟩
  apply x3
  apply CodeT.ret
  apply x1
  apply x4
  apply x1
  obtain rfl := Option.some.inj H
  refine Ev.y2 ?_
  refine XRet.mk ?_
  exact RetIs.many (.inl rfl) (ResL.cons (Res1.sc rfl) (ResL.cons (Res1.cell rfl rfl rfl (by intro h; cases h)) ResL.nil)) (fun h => by first | rfl | cases h)
  replace H := ifFb h H
  (repeat apply CodeT.seq)
  apply CodeT.skip
  apply x3
  (repeat apply CodeT.seq)
  apply CodeT.region (fun _ => PPm)
  apply Run.op; (apply L_fldP; rfl; rfl; rfl; rfl); rfl; rfl
  apply Run.op; (apply L_ldP; rfl; rfl; rfl; (first | exact .inl rfl | exact .inr rfl); rfl); rfl; rfl
  apply Run.op; (apply L_neq; rfl; rfl; rfl); rfl; rfl
  apply Run.done; refine ⟨fun h => Bool.noConfusion h, ?_⟩
  apply x3
  (repeat apply CodeT.seq)
  refine CodeT.cond rfl (fun h => ?_) (fun h => ?_)
  replace H := ifT (of_decide_eq_true h) H
  (repeat apply CodeT.seq)
  apply CodeT.exit
  apply x2
  refine x6 rfl ?_
  apply x3
  apply CodeT.region (fun _ => PPm)
  apply Run.op; (apply L_add; rfl; rfl; rfl; rfl); rfl; rfl
  apply Run.op; (apply L_mov; rfl; rfl); rfl; rfl
  apply Run.done; refine ⟨fun h => Bool.noConfusion h, ?_⟩
  obtain rfl := Option.some.inj H
  refine Ev.y1 ?_
  refine Ent.list [] (io0 hio _) rfl ?_ ?_ <;> (repeat' first | exact trivial | (refine And.intro ⟨_, rfl, fun h => (by first | rfl | exact Bool.noConfusion h)⟩ ?_))
  replace H := ifF (of_decide_eq_false h) H
  (repeat apply CodeT.seq)
  apply CodeT.skip
  apply x3
  (repeat apply CodeT.seq)
  apply CodeT.region (fun _ => PPm)
  apply Run.op; (apply L_mov; rfl; rfl); rfl; rfl
  apply Run.op; (apply L_fldP; rfl; rfl; rfl; rfl); rfl; rfl
  apply Run.op; (apply L_ldP; rfl; rfl; rfl; (first | exact .inl rfl | exact .inr rfl); rfl); rfl; rfl
  obtain ⟨r35, hr35, H⟩ := bindS H
  apply Run.op; (apply L_call; ((apply ArgsV.cons; (apply ArgV.val; rfl; rfl)); (apply ArgsV.cons; (apply ArgV.val; rfl; rfl)); (apply ArgsV.nil)); (exact m_spec_l17Index a1 y29.fFrom _ hr35); rfl; rfl; rfl); rfl; rfl
  apply Run.op; (apply L_asg; rfl; rfl); rfl; rfl
  apply Run.done; refine ⟨fun h => Bool.noConfusion h, ?_⟩
  apply x3
  (repeat apply CodeT.seq)
  obtain ⟨d39, hd39, H⟩ := bindS H
  refine CodeT.lcut (x := d39) (fun d e E => XEnv Γ .normal ⟨[(1, ⟨.sl a1.length (a1.flatMap encS), false⟩), (2, ⟨.sl a2.length (a2.flatMap encPose), false⟩), (3, ⟨.sl a3.length (a3.flatMap encB), false⟩), (9, ⟨.ptr 9 0, false⟩), (11, ⟨.ptr 11 0, false⟩), (12, ⟨.sc (.int .i64 r30), false⟩), (13, ⟨.sc (.int .i64 r35), false⟩), (18, ⟨.sl a0.length (a0.flatMap encFactor), false⟩), (19, ⟨.sc (.int .i64 (a0.length : Int)), false⟩), (20, ⟨.sc (.int .i64 v28), false⟩), (58, ⟨.sc (.bool d), false⟩)], [(9, some ⟨[.sc (.int .i64 0), .sc (.int .i64 0), .sc (.int .i64 0)], true, false⟩), (11, some ⟨(encFactor y29), true, false⟩)]⟩ e E) ?_ ?_
  clear H; have H := hd39; clear hd39
  apply CodeT.region (fun _ => PPm)
  apply Run.op; (apply L_mov; rfl; rfl); rfl; rfl
  apply Run.op; (apply L_mov; rfl; rfl); rfl; rfl
  obtain ⟨y36, hy36, H⟩ := bindS H
  apply Run.op; (apply L_ixS2; rfl; rfl; rfl; (exact hy36); (intro _; rfl); rfl); rfl; rfl
  apply R_bool; (apply L_ldI; rfl; rfl; rfl; rfl); rfl
  intro h; replace H := ifTb h H
  apply Run.op; (apply L_mov; rfl; rfl); rfl; rfl
  apply Run.op; (apply L_mov; rfl; rfl); rfl; rfl
  apply Run.op; (apply L_mov; rfl; rfl); rfl; rfl
  obtain ⟨y37, hy37, H⟩ := bindS H
  apply Run.op; (apply L_ixS2; rfl; rfl; rfl; (exact hy37); (intro _; rfl); rfl); rfl; rfl
  apply Run.op; (apply L_ldI; rfl; rfl; rfl; rfl); rfl; rfl
  apply Run.op; (apply L_not; rfl; rfl); rfl; rfl
  apply Run.op; (apply L_pickT; rfl; rfl; rfl); rfl; rfl
  apply Run.done; refine ⟨fun h => Bool.noConfusion h, ?_⟩
  obtain rfl := Option.some.inj H
  refine Ev.y4 ?_
  refine XEnv.mk ?_
  refine Ent.list [] (io0 hio _) rfl ?_ ?_ <;> (repeat' first | exact trivial | (refine And.intro ⟨_, rfl, fun h => (by first | rfl | exact Bool.noConfusion h)⟩ ?_))
  intro h; replace H := ifFb h H
  apply Run.op; (apply L_mov; rfl; rfl); rfl; rfl
  apply Run.skip; rfl
  apply Run.skip; rfl
  apply Run.skip; rfl
  apply Run.skip; rfl
  apply Run.skip; rfl
  apply Run.op; (apply L_pickF; rfl; rfl; rfl); rfl; rfl
  apply Run.done; refine ⟨fun h => Bool.noConfusion h, ?_⟩
  obtain rfl := Option.some.inj H
  refine Ev.y4 ?_
  refine XEnv.mk ?_
  refine Ent.list [] (io0 hio _) rfl ?_ ?_ <;> (repeat' first | exact trivial | (refine And.intro ⟨_, rfl, fun h => (by first | rfl | exact Bool.noConfusion h)⟩ ?_))
  intro e E' hX; obtain ⟨rfl, g40⟩ := XEnv.out hX
  apply x3
  refine CodeT.weak g40 ?_
  (repeat apply CodeT.seq)
  obtain ⟨d43, hd43, H⟩ := bindS H
  refine CodeT.lcut (x := d43) (fun x e E => match x with | (.inl d) => XEnv Γ .normal ⟨[(1, ⟨.sl a1.length (a1.flatMap encS), false⟩), (2, ⟨.sl a2.length (a2.flatMap encPose), false⟩), (3, ⟨.sl a3.length (a3.flatMap encB), false⟩), (9, ⟨.ptr 9 0, false⟩), (11, ⟨.ptr 11 0, false⟩), (12, ⟨.sc (.int .i64 r30), false⟩), (13, ⟨.sc (.int .i64 r35), false⟩), (18, ⟨.sl a0.length (a0.flatMap encFactor), false⟩), (19, ⟨.sc (.int .i64 (a0.length : Int)), false⟩), (20, ⟨.sc (.int .i64 v28), false⟩)], [(9, some ⟨[.sc (.int .i64 0), .sc (.int .i64 0), .sc (.int .i64 0)], true, false⟩), (11, some ⟨(encFactor y29), true, false⟩)]⟩ e E | (.inr d) => XRet Γ #[.tmp 8, .cell 9 86] (.tup [.sc (.int .i64 d.1), .agg (encPose d.2)]) true e E) ?_ ?_
  clear H; have H := hd43; clear hd43
  refine CodeT.cond rfl (fun h => ?_) (fun h => ?_)
  replace H := ifTb h H
  (repeat apply CodeT.seq)
  apply CodeT.region (fun _ => PPm)
  apply Run.op; (apply L_mov; rfl; rfl); rfl; rfl
  apply Run.op; (apply L_mov; rfl; rfl); rfl; rfl
  obtain ⟨y41, hy41, H⟩ := bindS H
  apply Run.op; (apply L_ixS2; rfl; rfl; rfl; (exact hy41); (intro _; rfl); rfl); rfl; rfl
  apply Run.op; (apply L_ldIA; rfl; (first | exact take_whole rfl | rfl); rfl; (intro h; cases h); rfl; rfl); rfl; rfl
  apply Run.op; (apply L_fldP; rfl; rfl; rfl; rfl); rfl; rfl
  apply Run.op; (apply L_ldPA; rfl; rfl; (first | exact seg_whole rfl | rfl); rfl; (intro h; cases h); (first | exact .inl rfl | exact .inr rfl); rfl); rfl; rfl
  obtain ⟨r42, hr42, H⟩ := bindS H
  apply Run.op; (apply L_call; ((apply ArgsV.cons; (apply ArgV.val; rfl; rfl)); (apply ArgsV.cons; (apply ArgV.val; rfl; rfl)); (apply ArgsV.nil)); (exact m_spec_l05Compose y41 y29.fPose _ hr42); rfl; rfl; rfl); rfl; rfl
  apply Run.op; (apply L_mov; rfl; rfl); rfl; rfl
  apply Run.op; (apply L_extR; rfl; rfl; rfl); rfl; rfl
  apply Run.op; (apply L_extR; rfl; rfl; rfl); rfl; rfl
  apply Run.op; (apply L_alloc false; (exact io1 hio _); rfl); rfl; rfl
  apply Run.op; (apply L_st; rfl; rfl; rfl; rfl; rfl; (intro h; cases h); rfl; (first | exact splice_whole rfl | rfl)); rfl; rfl
  apply Run.op; (apply L_asg; rfl; rfl); rfl; rfl
  apply Run.done; refine ⟨fun _ => ⟨rfl, rfl⟩, ?_⟩
  apply x3
  (repeat apply CodeT.seq)
  apply CodeT.region (fun _ => PPm)
  apply Run.op; (apply L_mov; rfl; rfl); rfl; rfl
  apply Run.done; refine ⟨fun h => Bool.noConfusion h, ?_⟩
  apply x3
  refine CodeT.cond rfl (fun h => ?_) (fun h => ?_)
  replace H := ifTb h H
  (repeat apply CodeT.seq)
  apply CodeT.region (fun _ => PPm)
  apply Run.op; (apply L_mov; rfl; rfl); rfl; rfl
  apply Run.op; (apply L_ldPA; rfl; rfl; (first | exact seg_whole rfl | rfl); rfl; (intro h; cases h); (first | exact .inl rfl | exact .inr rfl); rfl); rfl; rfl
  apply Run.op; (apply L_asg; rfl; rfl); rfl; rfl
  apply Run.op; (apply L_st; rfl; rfl; rfl; rfl; rfl; (intro h; cases h); rfl; (first | exact splice_whole rfl | rfl)); rfl; rfl
  apply Run.done; refine ⟨fun _ => ⟨rfl, rfl⟩, ?_⟩
  apply x3
  apply CodeT.ret
  obtain rfl := Option.some.inj H
  refine Ev.y4 ?_
  refine XRet.mk ?_
  exact RetIs.many (.inl rfl) (ResL.cons (Res1.sc rfl) (ResL.cons (Res1.cell rfl rfl rfl (by intro h; cases h)) ResL.nil)) (fun h => by first | rfl | cases h)
  replace H := ifFb h H
  (repeat apply CodeT.seq)
  apply CodeT.skip
  obtain rfl := Option.some.inj H
  refine Ev.y4 ?_
  refine XEnv.mk ?_
  refine Ent.list [] (io0 hio _) rfl ?_ ?_ <;> (repeat' first | exact trivial | (refine And.intro ⟨_, rfl, fun h => (by first | rfl | exact Bool.noConfusion h)⟩ ?_))
  replace H := ifFb h H
  (repeat apply CodeT.seq)
  apply CodeT.skip
  obtain rfl := Option.some.inj H
  refine Ev.y4 ?_
  refine XEnv.mk ?_
  refine Ent.list [] (io0 hio _) rfl ?_ ?_ <;> (repeat' first | exact trivial | (refine And.intro ⟨_, rfl, fun h => (by first | rfl | exact Bool.noConfusion h)⟩ ?_))
  rcases d43 with (d44 | d54)
  intro e E' hX; obtain ⟨rfl, g45⟩ := XEnv.out hX
  apply x3
  refine CodeT.weak g45 ?_
  (repeat apply CodeT.seq)
  obtain ⟨d49, hd49, H⟩ := bindS H
  refine CodeT.lcut (x := d49) (fun d e E => XEnv Γ .normal ⟨[(1, ⟨.sl a1.length (a1.flatMap encS), false⟩), (2, ⟨.sl a2.length (a2.flatMap encPose), false⟩), (3, ⟨.sl a3.length (a3.flatMap encB), false⟩), (9, ⟨.ptr 9 0, false⟩), (11, ⟨.ptr 11 0, false⟩), (12, ⟨.sc (.int .i64 r30), false⟩), (13, ⟨.sc (.int .i64 r35), false⟩), (18, ⟨.sl a0.length (a0.flatMap encFactor), false⟩), (19, ⟨.sc (.int .i64 (a0.length : Int)), false⟩), (20, ⟨.sc (.int .i64 v28), false⟩), (82, ⟨.sc (.bool d), false⟩)], [(9, some ⟨[.sc (.int .i64 0), .sc (.int .i64 0), .sc (.int .i64 0)], true, false⟩), (11, some ⟨(encFactor y29), true, false⟩)]⟩ e E) ?_ ?_
  clear H; have H := hd49; clear hd49
  apply CodeT.region (fun _ => PPm)
  apply Run.op; (apply L_mov; rfl; rfl); rfl; rfl
  apply Run.op; (apply L_mov; rfl; rfl); rfl; rfl
  obtain ⟨y46, hy46, H⟩ := bindS H
  apply Run.op; (apply L_ixS2; rfl; rfl; rfl; (exact hy46); (intro _; rfl); rfl); rfl; rfl
  apply R_bool; (apply L_ldI; rfl; rfl; rfl; rfl); rfl
  intro h; replace H := ifTb h H
  apply Run.op; (apply L_not; rfl; rfl); rfl; rfl
  apply Run.op; (apply L_mov; rfl; rfl); rfl; rfl
  apply Run.skip; rfl
  apply Run.skip; rfl
  apply Run.skip; rfl
  apply Run.skip; rfl
  apply Run.op; (apply L_pickF; rfl; rfl; rfl); rfl; rfl
  apply Run.done; refine ⟨fun h => Bool.noConfusion h, ?_⟩
  obtain rfl := Option.some.inj H
  refine Ev.y4 ?_
  refine XEnv.mk ?_
  refine Ent.list [] (io0 hio _) rfl ?_ ?_ <;> (repeat' first | exact trivial | (refine And.intro ⟨_, rfl, fun h => (by first | rfl | exact Bool.noConfusion h)⟩ ?_))
  intro h; replace H := ifFb h H
  apply Run.op; (apply L_not; rfl; rfl); rfl; rfl
  apply Run.op; (apply L_mov; rfl; rfl); rfl; rfl
  apply Run.op; (apply L_mov; rfl; rfl); rfl; rfl
  apply Run.op; (apply L_mov; rfl; rfl); rfl; rfl
  obtain ⟨y47, hy47, H⟩ := bindS H
  apply Run.op; (apply L_ixS2; rfl; rfl; rfl; (exact hy47); (intro _; rfl); rfl); rfl; rfl
  apply Run.op; (apply L_ldI; rfl; rfl; rfl; rfl); rfl; rfl
  apply Run.op; (apply L_pickT; rfl; rfl; rfl); rfl; rfl
  apply Run.done; refine ⟨fun h => Bool.noConfusion h, ?_⟩
  obtain rfl := Option.some.inj H
  refine Ev.y4 ?_
  refine XEnv.mk ?_
  refine Ent.list [] (io0 hio _) rfl ?_ ?_ <;> (repeat' first | exact trivial | (refine And.intro ⟨_, rfl, fun h => (by first | rfl | exact Bool.noConfusion h)⟩ ?_))
  intro e E' hX; obtain ⟨rfl, g50⟩ := XEnv.out hX
  apply x3
  refine CodeT.weak g50 ?_
  refine CodeT.cond rfl (fun h => ?_) (fun h => ?_)
  replace H := ifTb h H
  (repeat apply CodeT.seq)
  apply CodeT.region (fun _ => PPm)
  apply Run.op; (apply L_mov; rfl; rfl); rfl; rfl
  apply Run.op; (apply L_mov; rfl; rfl); rfl; rfl
  obtain ⟨y51, hy51, H⟩ := bindS H
  apply Run.op; (apply L_ixS2; rfl; rfl; rfl; (exact hy51); (intro _; rfl); rfl); rfl; rfl
  apply Run.op; (apply L_ldIA; rfl; (first | exact take_whole rfl | rfl); rfl; (intro h; cases h); rfl; rfl); rfl; rfl
  apply Run.op; (apply L_fldP; rfl; rfl; rfl; rfl); rfl; rfl
  apply Run.op; (apply L_ldPA; rfl; rfl; (first | exact seg_whole rfl | rfl); rfl; (intro h; cases h); (first | exact .inl rfl | exact .inr rfl); rfl); rfl; rfl
  obtain ⟨r52, hr52, H⟩ := bindS H
  apply Run.op; (apply L_call; ((apply ArgsV.cons; (apply ArgV.val; rfl; rfl)); (apply ArgsV.nil)); (exact m_spec_Inverse y29.fPose _ hr52); rfl; rfl; rfl); rfl; rfl
  obtain ⟨r53, hr53, H⟩ := bindS H
  apply Run.op; (apply L_call; ((apply ArgsV.cons; (apply ArgV.val; rfl; rfl)); (apply ArgsV.cons; (apply ArgV.val; rfl; rfl)); (apply ArgsV.nil)); (exact m_spec_l05Compose y51 r52 _ hr53); rfl; rfl; rfl); rfl; rfl
  apply Run.op; (apply L_mov; rfl; rfl); rfl; rfl
  apply Run.op; (apply L_extR; rfl; rfl; rfl); rfl; rfl
  apply Run.op; (apply L_extR; rfl; rfl; rfl); rfl; rfl
  apply Run.op; (apply L_alloc false; (exact io1 hio _); rfl); rfl; rfl
  apply Run.op; (apply L_st; rfl; rfl; rfl; rfl; rfl; (intro h; cases h); rfl; (first | exact splice_whole rfl | rfl)); rfl; rfl
  apply Run.op; (apply L_asg; rfl; rfl); rfl; rfl
  apply Run.done; refine ⟨fun _ => ⟨rfl, rfl⟩, ?_⟩
  apply x3
  (repeat apply CodeT.seq)
  apply CodeT.region (fun _ => PPm)
  apply Run.op; (apply L_mov; rfl; rfl); rfl; rfl
  apply Run.done; refine ⟨fun h => Bool.noConfusion h, ?_⟩
  apply x3
  refine CodeT.cond rfl (fun h => ?_) (fun h => ?_)
  replace H := ifTb h H
  (repeat apply CodeT.seq)
  apply CodeT.region (fun _ => PPm)
  apply Run.op; (apply L_mov; rfl; rfl); rfl; rfl
  apply Run.op; (apply L_ldPA; rfl; rfl; (first | exact seg_whole rfl | rfl); rfl; (intro h; cases h); (first | exact .inl rfl | exact .inr rfl); rfl); rfl; rfl
  apply Run.op; (apply L_asg; rfl; rfl); rfl; rfl
  apply Run.op; (apply L_st; rfl; rfl; rfl; rfl; rfl; (intro h; cases h); rfl; (first | exact splice_whole rfl | rfl)); rfl; rfl
  apply Run.done; refine ⟨fun _ => ⟨rfl, rfl⟩, ?_⟩
  apply x3
  apply CodeT.ret
  apply x4
  apply x1
  obtain rfl := Option.some.inj H
  refine Ev.y2 ?_
  refine XRet.mk ?_
  exact RetIs.many (.inl rfl) (ResL.cons (Res1.sc rfl) (ResL.cons (Res1.cell rfl rfl rfl (by intro h; cases h)) ResL.nil)) (fun h => by first | rfl | cases h)
  replace H := ifFb h H
  (repeat apply CodeT.seq)
  apply CodeT.skip
  apply x5
  apply x3
  apply CodeT.region (fun _ => PPm)
  apply Run.op; (apply L_add; rfl; rfl; rfl; rfl); rfl; rfl
  apply Run.op; (apply L_mov; rfl; rfl); rfl; rfl
  apply Run.done; refine ⟨fun h => Bool.noConfusion h, ?_⟩
  obtain rfl := Option.some.inj H
  refine Ev.y1 ?_
  refine Ent.list [] (io0 hio _) rfl ?_ ?_ <;> (repeat' first | exact trivial | (refine And.intro ⟨_, rfl, fun h => (by first | rfl | exact Bool.noConfusion h)⟩ ?_))
  replace H := ifFb h H
  (repeat apply CodeT.seq)
  apply CodeT.skip
  apply x5
  apply x3
  apply CodeT.region (fun _ => PPm)
  apply Run.op; (apply L_add; rfl; rfl; rfl; rfl); rfl; rfl
  apply Run.op; (apply L_mov; rfl; rfl); rfl; rfl
  apply Run.done; refine ⟨fun h => Bool.noConfusion h, ?_⟩
  obtain rfl := Option.some.inj H
  refine Ev.y1 ?_
  refine Ent.list [] (io0 hio _) rfl ?_ ?_ <;> (repeat' first | exact trivial | (refine And.intro ⟨_, rfl, fun h => (by first | rfl | exact Bool.noConfusion h)⟩ ?_))
  intro e E' hX; obtain ⟨rfl, g55⟩ := XRet.out hX
  apply x1
  apply x4
  apply x1
  obtain rfl := Option.some.inj H
  refine Ev.y2 ?_
  exact XRet.mk g55
  replace H := ifF (of_decide_eq_false h) H
  (repeat apply CodeT.seq)
  apply CodeT.exit
  apply x2
  obtain rfl := Option.some.inj H
  refine Ev.y3 ?_
  refine XEnv.mk ?_
  refine Ent.list [] (io0 hio _) rfl ?_ ?_ <;> (repeat' first | exact trivial | (refine And.intro ⟨_, rfl, fun h => (by first | rfl | exact Bool.noConfusion h)⟩ ?_))
  rcases d56 with (d57 | d59)
  intro e E' hX; obtain ⟨rfl, g58⟩ := XEnv.out hX
  refine x6 rfl ?_
  apply x3
  refine CodeT.weak g58 ?_
  (repeat apply CodeT.seq)
  apply CodeT.region (fun _ => PPm)
  apply Run.op; (apply L_buildF (vals := []) (cs := [.int .i64 0, .int .i64 0, .int .i64 0]); rfl; kernel_rfl; rfl; rfl; rfl); rfl; rfl
  apply Run.op; (apply L_asg; rfl; rfl); rfl; rfl
  apply Run.op; (apply L_st; rfl; rfl; rfl; rfl; rfl; (intro h; cases h); rfl; (first | exact splice_whole rfl | rfl)); rfl; rfl
  apply Run.done; refine ⟨fun h => Bool.noConfusion h, ?_⟩
  apply x3
  apply CodeT.ret
  cases H
  apply x12
  exact RetIs.many (.inl rfl) (ResL.cons (Res1.sc rfl) (ResL.cons (Res1.cell rfl rfl rfl (by intro h; cases h)) ResL.nil)) (fun h => by first | rfl | cases h)
  intro e E' hX; obtain ⟨rfl, g60⟩ := XRet.out hX
  apply x4
  apply x1
  cases H
  apply x12
  exact g60
theorem m_spec_DeadReckoning (a0 : (List Factor)) (r : ((List Pose) × (List Bool))) (H : spec_DeadReckoning a0 = some r) : Meets Try.prog 23 [.sl a0.length (a0.flatMap encFactor)] (.tup [.rw 3 r.1.length (r.1.flatMap encPose), .rw 1 r.2.length (r.2.flatMap encB)]) true := by
  refine Meets.intro2 (N := 39) (rs := #[.tmp 2, .tmp 3]) Try.func23 rfl rfl rfl rfl ?_
  intro Γ hio
  unfold spec_DeadReckoning at H
  (repeat apply CodeT.seq)
  apply CodeT.region (fun _ => PPm)
  apply Run.op; (apply L_asg; rfl; rfl); rfl; rfl
  apply Run.op; (apply L_asg; rfl; rfl); rfl; rfl
  apply Run.done; refine ⟨fun h => Bool.noConfusion h, ?_⟩
  apply x3
  (repeat apply CodeT.seq)
  apply CodeT.region (fun _ => PPm)
  apply Run.op; (apply L_mov; rfl; rfl); rfl; rfl
  obtain ⟨r1, hr1, H⟩ := bindS H
  apply Run.op; (apply L_call; ((apply ArgsV.cons; (apply ArgV.val; rfl; rfl)); (apply ArgsV.nil)); (exact m_spec_IsFactorList a0 _ hr1); rfl; rfl; rfl); rfl; rfl
  apply Run.op; (apply L_not; rfl; rfl); rfl; rfl
  apply Run.done; refine ⟨fun h => Bool.noConfusion h, ?_⟩
  apply x3
  (repeat apply CodeT.seq)
  refine CodeT.cond rfl (fun h => ?_) (fun h => ?_)
  replace H := ifFb (notT h) H
  (repeat apply CodeT.seq)
  apply CodeT.region (fun _ => PPm)
  apply Run.op; (apply L_asg; rfl; rfl); rfl; rfl
  apply Run.op; (apply L_asg; rfl; rfl); rfl; rfl
  apply Run.done; refine ⟨fun h => Bool.noConfusion h, ?_⟩
  apply x3
  apply CodeT.ret
  apply x1
  cases H
  apply x12
  exact RetIs.many (.inl rfl) (ResL.cons (Res1.nilW rfl) (ResL.cons (Res1.nilW rfl) ResL.nil)) (fun h => by first | rfl | cases h)
  replace H := ifTb (notF h) H
  (repeat apply CodeT.seq)
  apply CodeT.skip
  apply x3
  (repeat apply CodeT.seq)
  apply CodeT.region (fun _ => PPm)
  apply Run.op; (apply L_mov; rfl; rfl); rfl; rfl
  obtain ⟨r2, hr2, H⟩ := bindS H
  apply Run.op; (apply L_callW; ((apply ArgsV.cons; (apply ArgV.val; rfl; rfl)); (apply ArgsV.nil)); (exact m_spec_NamesOf a0 _ hr2); (exact io1 hio _); rfl); rfl; rfl
  apply Run.op; (apply L_asg; rfl; rfl); rfl; rfl
  apply Run.done; refine ⟨fun h => Bool.noConfusion h, ?_⟩
  apply x3
  (repeat apply CodeT.seq)
  apply CodeT.region (fun _ => PPm)
  apply Run.op; (apply L_mov; rfl; rfl); rfl; rfl
  apply Run.op; (apply L_lenR; rfl; rfl; rfl); rfl; rfl
  obtain ⟨_u, hm3, H⟩ := bindS H
  apply Run.op; (apply L_make2 (enc := encPose) (z := (Pose.mk 0 0 0)); rfl; rfl; rfl; (exact chkS hm3); rfl; decide; (intro h; cases h); (exact io1 hio _); rfl); rfl; rfl
  apply Run.op; (apply L_asg; rfl; rfl); rfl; rfl
  apply Run.done; refine ⟨fun h => Bool.noConfusion h, ?_⟩
  apply x3
  (repeat apply CodeT.seq)
  apply CodeT.region (fun _ => PPm)
  apply Run.op; (apply L_mov; rfl; rfl); rfl; rfl
  apply Run.op; (apply L_lenR; rfl; rfl; rfl); rfl; rfl
  obtain ⟨_u, hm4, H⟩ := bindS H
  apply Run.op; (apply L_make2 (enc := encB) (z := false); rfl; rfl; rfl; (exact chkS hm4); rfl; decide; (intro h; cases h); (exact io1 hio _); rfl); rfl; rfl
  apply Run.op; (apply L_asg; rfl; rfl); rfl; rfl
  apply Run.done; refine ⟨fun h => Bool.noConfusion h, ?_⟩
  apply x3
  apply CodeT.block
  (repeat apply CodeT.seq)
  obtain ⟨d22, hd22, H⟩ := bindS H
  refine CodeT.lloop (fun s => ⟨[(0, ⟨.sl a0.length (a0.flatMap encFactor), false⟩), (4, ⟨.ref 504 1 0 r2.length, false⟩), (5, ⟨.ref 505 3 0 s.1.length, false⟩), (6, ⟨.ref 506 1 0 s.2.length, false⟩)], [(504, some ⟨r2.flatMap encS, true, false⟩), (505, some ⟨s.1.flatMap encPose, true, false⟩), (506, some ⟨s.2.flatMap encB, true, false⟩)]⟩) (fun d e E => XRet Γ #[.tmp 2, .tmp 3] (.tup [.rw 3 d.1.length (d.1.flatMap encPose), .rw 1 d.2.length (d.2.flatMap encB)]) true e E) hd22 ?_ ?_ ?_
  refine Ent.list [(504, 13), (505, 16), (506, 19)] (io0 hio _) rfl ?_ ?_ <;> (repeat' first | exact trivial | (refine And.intro ⟨_, rfl, fun h => (by first | rfl | exact Bool.noConfusion h)⟩ ?_))
  clear H hd22
  rintro ⟨v12, v13⟩ o H
  unfold spec_DeadReckoning_L1 at H
  (repeat apply CodeT.seq)
  apply CodeT.block
  (repeat apply CodeT.seq)
  apply CodeT.region (fun _ => PPm)
  apply Run.op; (apply L_mov; rfl; rfl); rfl; rfl
  apply Run.op; (apply L_mov; rfl; rfl); rfl; rfl
  apply Run.op; (apply L_mov; rfl; rfl); rfl; rfl
  apply Run.op; (apply L_mov; rfl; rfl); rfl; rfl
  obtain ⟨r14, hr14, H⟩ := bindS H
  apply Run.op; (apply L_call; ((apply ArgsV.cons; (apply ArgV.val; rfl; rfl)); (apply ArgsV.cons; (apply ArgV.ref; rfl; rfl; (exact Nat.le_of_eq (flat_len (fun _ => rfl))))); (apply ArgsV.cons; (apply ArgV.ref; rfl; rfl; (exact Nat.le_of_eq (flat_len (fun _ => rfl))))); (apply ArgsV.cons; (apply ArgV.ref; rfl; rfl; (exact Nat.le_of_eq (flat_len (fun _ => rfl))))); (apply ArgsV.nil)); (exact m_spec_l17Reckon a0 r2 v12 v13 _ hr14); rfl; rfl; rfl); rfl; rfl
  apply Run.op; (apply L_mov; rfl; rfl); rfl; rfl
  apply Run.op; (apply L_extR; rfl; rfl; rfl); rfl; rfl
  apply Run.op; (apply L_extR; rfl; rfl; rfl); rfl; rfl
  apply Run.op; (apply L_alloc false; (exact io1 hio _); rfl); rfl; rfl
  apply Run.op; (apply L_asg; rfl; rfl); rfl; rfl
  apply Run.op; (apply L_st; rfl; rfl; rfl; rfl; rfl; (intro h; cases h); rfl; (first | exact splice_whole rfl | rfl)); rfl; rfl
  apply Run.done; refine ⟨fun h => Bool.noConfusion h, ?_⟩
  apply x3
  (repeat apply CodeT.seq)
  apply CodeT.region (fun _ => PPm)
  apply Run.op; (apply L_mov; rfl; rfl); rfl; rfl
  apply Run.op; (apply L_lss; rfl; rfl; rfl); rfl; rfl
  apply Run.done; refine ⟨fun h => Bool.noConfusion h, ?_⟩
  apply x3
  (repeat apply CodeT.seq)
  refine CodeT.cond rfl (fun h => ?_) (fun h => ?_)
  replace H := ifT (of_decide_eq_true h) H
  (repeat apply CodeT.seq)
  apply CodeT.region (fun _ => PPm)
  apply Run.op; (apply L_mov; rfl; rfl); rfl; rfl
  apply Run.op; (apply L_mov; rfl; rfl); rfl; rfl
  apply Run.op; (apply L_asg; rfl; rfl); rfl; rfl
  apply Run.op; (apply L_asg; rfl; rfl); rfl; rfl
  apply Run.done; refine ⟨fun h => Bool.noConfusion h, ?_⟩
  apply x3
  apply CodeT.ret
  apply x1
  apply x4
  obtain rfl := Option.some.inj H
  refine Ev.y2 ?_
  refine XRet.mk ?_
  exact RetIs.many (.inl rfl) (ResL.cons (Res1.refW rfl rfl (io1 hio _)) (ResL.cons (Res1.refW rfl rfl (io1 hio _)) ResL.nil)) (fun h => by first | rfl | cases h)
  replace H := ifF (of_decide_eq_false h) H
  (repeat apply CodeT.seq)
  apply CodeT.skip
  apply x3
  (repeat apply CodeT.seq)
  apply CodeT.region (fun _ => PPm)
  apply Run.op; (apply L_mov; rfl; rfl); rfl; rfl
  apply Run.op; (apply L_mov; rfl; rfl); rfl; rfl
  apply Run.op; (apply L_ldPA; rfl; rfl; (first | exact seg_whole rfl | rfl); rfl; (intro h; cases h); (first | exact .inl rfl | exact .inr rfl); rfl); rfl; rfl
  obtain ⟨y15, hy15, H⟩ := bindS H
  apply Run.op; (apply L_ixR2; rfl; rfl; rfl; (exact hy15); rfl; rfl); rfl; rfl
  obtain ⟨v16, hv16, H⟩ := bindS H
  have hl17 := setI_lenS hv16
  apply Run.op; (apply L_st; rfl; rfl; rfl; rfl; rfl; (intro h; cases h); (exact row_ble0 (sz := 3) (n := 3) hy15 (fun _ => rfl) (by decide)); (exact row_stL (sz := 3) hv16 hy15 (fun _ => rfl) rfl)); rfl; rfl
  apply Run.done; refine ⟨fun h => Bool.noConfusion h, ?_⟩
  apply x3
  refine CodeT.weak (Ent.relen (k := 5) (n' := v16.length) rfl (by first | (simp only [setI_len]; done) | (simp only [setI_len]; omega) | omega)) ?_
  apply CodeT.region (fun _ => PPm)
  apply Run.op; (apply L_mov; rfl; rfl); rfl; rfl
  apply Run.op; (apply L_mov; rfl; rfl); rfl; rfl
  obtain ⟨y18, hy18, H⟩ := bindS H
  apply Run.op; (apply L_ixR2; rfl; rfl; rfl; (exact hy18); rfl; rfl); rfl; rfl
  obtain ⟨v19, hv19, H⟩ := bindS H
  have hl20 := setI_lenS hv19
  apply Run.op; (apply L_st; rfl; rfl; rfl; rfl; rfl; (intro h; cases h); (exact row_ble0 (sz := 1) (n := 1) hy18 (fun _ => rfl) (by decide)); (exact row_stL (sz := 1) hv19 hy18 (fun _ => rfl) rfl)); rfl; rfl
  apply Run.done; refine ⟨fun h => Bool.noConfusion h, ?_⟩
  apply x5
  obtain rfl := Option.some.inj H
  refine Ev.y1 ?_
  refine Ent.trans (Ent.relen (k := 6) (n' := v19.length) rfl (by first | (simp only [setI_len]; done) | (simp only [setI_len]; omega) | omega)) ?_
  refine Ent.list [] (io0 hio _) rfl ?_ ?_ <;> (repeat' first | exact trivial | (refine And.intro ⟨_, rfl, fun h => (by first | rfl | exact Bool.noConfusion h)⟩ ?_))
  skip
  intro e E' hX; obtain ⟨rfl, g23⟩ := XRet.out hX
  apply x4
  cases H
  apply x12
  exact g23
theorem m_impl_RotateXY (a0 : Int) (a1 : Int) (a2 : Int) (r : (Int × Int)) (H : impl_RotateXY a0 a1 a2 = some r) : Meets Try.prog 116 [.sc (.int .i64 a0), .sc (.int .i64 a1), .sc (.int .i64 a2)] (.tup [.sc (.int .i64 r.1), .sc (.int .i64 r.2)]) true := by
  refine Meets.intro2 (N := 35) (rs := #[.tmp 6, .tmp 7]) Try.func116 rfl rfl rfl rfl ?_
  intro Γ hio
  unfold impl_RotateXY at H
  (repeat apply CodeT.seq)
  apply CodeT.region (fun _ => PPm)
  apply Run.op; (apply L_asg; rfl; rfl); rfl; rfl
  apply Run.op; (apply L_asg; rfl; rfl); rfl; rfl
  apply Run.done; refine ⟨fun h => Bool.noConfusion h, ?_⟩
  apply x3
  (repeat apply CodeT.seq)
  obtain ⟨d4, hd4, H⟩ := bindS H
  refine CodeT.lcut (x := d4) (fun d e E => XEnv Γ .normal ⟨[(0, ⟨.sc (.int .i64 a0), false⟩), (1, ⟨.sc (.int .i64 a1), false⟩), (2, ⟨.sc (.int .i64 a2), false⟩), (24, ⟨.sc (.bool d), false⟩)], []⟩ e E) ?_ ?_
  clear H; have H := hd4; clear hd4
  apply CodeT.region (fun _ => PPm)
  apply Run.op; (apply L_mov; rfl; rfl); rfl; rfl
  apply R_dec; (apply L_lss; rfl; rfl; rfl); rfl
  intro h; replace H := ifT h H
  apply Run.op; (apply L_mov; rfl; rfl); rfl; rfl
  apply Run.skip; rfl
  apply Run.skip; rfl
  apply Run.op; (apply L_pickT; rfl; rfl; rfl); rfl; rfl
  apply Run.op; (apply L_mov; rfl; rfl); rfl; rfl
  apply Run.skip; rfl
  apply Run.skip; rfl
  apply Run.skip; rfl
  apply Run.op; (apply L_pickT; rfl; rfl; rfl); rfl; rfl
  apply Run.op; (apply L_mov; rfl; rfl); rfl; rfl
  apply Run.skip; rfl
  apply Run.skip; rfl
  apply Run.skip; rfl
  apply Run.op; (apply L_pickT; rfl; rfl; rfl); rfl; rfl
  apply Run.done; refine ⟨fun h => Bool.noConfusion h, ?_⟩
  obtain rfl := Option.some.inj H
  refine Ev.y4 ?_
  refine XEnv.mk ?_
  refine Ent.list [] (io0 hio _) rfl ?_ ?_ <;> (repeat' first | exact trivial | (refine And.intro ⟨_, rfl, fun h => (by first | rfl | exact Bool.noConfusion h)⟩ ?_))
  intro h; replace H := ifF h H
  apply Run.op; (apply L_mov; rfl; rfl); rfl; rfl
  apply Run.op; (apply L_mov; rfl; rfl); rfl; rfl
  apply R_dec; (apply L_gtr; rfl; rfl; rfl); rfl
  intro h; replace H := ifT h H
  apply Run.op; (apply L_pickF; rfl; rfl; rfl); rfl; rfl
  apply Run.op; (apply L_mov; rfl; rfl); rfl; rfl
  apply Run.skip; rfl
  apply Run.skip; rfl
  apply Run.skip; rfl
  apply Run.op; (apply L_pickT; rfl; rfl; rfl); rfl; rfl
  apply Run.op; (apply L_mov; rfl; rfl); rfl; rfl
  apply Run.skip; rfl
  apply Run.skip; rfl
  apply Run.skip; rfl
  apply Run.op; (apply L_pickT; rfl; rfl; rfl); rfl; rfl
  apply Run.done; refine ⟨fun h => Bool.noConfusion h, ?_⟩
  obtain rfl := Option.some.inj H
  refine Ev.y4 ?_
  refine XEnv.mk ?_
  refine Ent.list [] (io0 hio _) rfl ?_ ?_ <;> (repeat' first | exact trivial | (refine And.intro ⟨_, rfl, fun h => (by first | rfl | exact Bool.noConfusion h)⟩ ?_))
  intro h; replace H := ifF h H
  apply Run.op; (apply L_pickF; rfl; rfl; rfl); rfl; rfl
  apply Run.op; (apply L_mov; rfl; rfl); rfl; rfl
  apply Run.op; (apply L_mov; rfl; rfl); rfl; rfl
  obtain ⟨r1, hr1, H⟩ := bindS H
  apply R_bool; (apply L_call; ((apply ArgsV.cons; (apply ArgV.val; rfl; rfl)); (apply ArgsV.nil)); (exact m_impl_inRange a0 _ hr1); rfl; rfl; rfl); rfl
  intro h; replace H := ifTb h H
  apply Run.op; (apply L_not; rfl; rfl); rfl; rfl
  apply Run.op; (apply L_pickF; rfl; rfl; rfl); rfl; rfl
  apply Run.op; (apply L_mov; rfl; rfl); rfl; rfl
  apply Run.op; (apply L_mov; rfl; rfl); rfl; rfl
  obtain ⟨r2, hr2, H⟩ := bindS H
  apply Run.op; (apply L_call; ((apply ArgsV.cons; (apply ArgV.val; rfl; rfl)); (apply ArgsV.nil)); (exact m_impl_inRange a1 _ hr2); rfl; rfl; rfl); rfl; rfl
  apply Run.op; (apply L_not; rfl; rfl); rfl; rfl
  apply Run.op; (apply L_pickF; rfl; rfl; rfl); rfl; rfl
  apply Run.done; refine ⟨fun h => Bool.noConfusion h, ?_⟩
  obtain rfl := Option.some.inj H
  refine Ev.y4 ?_
  refine XEnv.mk ?_
  refine Ent.list [] (io0 hio _) rfl ?_ ?_ <;> (repeat' first | exact trivial | (refine And.intro ⟨_, rfl, fun h => (by first | rfl | exact Bool.noConfusion h)⟩ ?_))
  intro h; replace H := ifFb h H
  apply Run.op; (apply L_not; rfl; rfl); rfl; rfl
  apply Run.op; (apply L_pickF; rfl; rfl; rfl); rfl; rfl
  apply Run.op; (apply L_mov; rfl; rfl); rfl; rfl
  apply Run.skip; rfl
  apply Run.skip; rfl
  apply Run.skip; rfl
  apply Run.op; (apply L_pickT; rfl; rfl; rfl); rfl; rfl
  apply Run.done; refine ⟨fun h => Bool.noConfusion h, ?_⟩
  obtain rfl := Option.some.inj H
  refine Ev.y4 ?_
  refine XEnv.mk ?_
  refine Ent.list [] (io0 hio _) rfl ?_ ?_ <;> (repeat' first | exact trivial | (refine And.intro ⟨_, rfl, fun h => (by first | rfl | exact Bool.noConfusion h)⟩ ?_))
  intro e E' hX; obtain ⟨rfl, g5⟩ := XEnv.out hX
  apply x3
  refine CodeT.weak g5 ?_
  (repeat apply CodeT.seq)
  refine CodeT.cond rfl (fun h => ?_) (fun h => ?_)
  replace H := ifTb h H
  (repeat apply CodeT.seq)
  apply CodeT.region (fun _ => PPm)
  apply Run.op; (apply L_asg; rfl; rfl); rfl; rfl
  apply Run.op; (apply L_asg; rfl; rfl); rfl; rfl
  apply Run.done; refine ⟨fun h => Bool.noConfusion h, ?_⟩
  apply x3
  apply CodeT.ret
  apply x1
  cases H
  apply x12
  exact RetIs.many (.inl rfl) (ResL.cons (Res1.sc rfl) (ResL.cons (Res1.sc rfl) ResL.nil)) (fun h => by first | rfl | cases h)
  replace H := ifFb h H
  (repeat apply CodeT.seq)
  apply CodeT.skip
  apply x3
  (repeat apply CodeT.seq)
  apply CodeT.region (fun _ => PPm)
  apply Run.op; (apply L_asg; rfl; rfl); rfl; rfl
  apply Run.done; refine ⟨fun h => Bool.noConfusion h, ?_⟩
  apply x3
  (repeat apply CodeT.seq)
  apply CodeT.block
  (repeat apply CodeT.seq)
  obtain ⟨d10, hd10, H⟩ := bindS H
  refine CodeT.lloop (fun s => ⟨[(0, ⟨.sc (.int .i64 s.1), false⟩), (1, ⟨.sc (.int .i64 s.2.1), false⟩), (2, ⟨.sc (.int .i64 a2), false⟩), (8, ⟨.sc (.int .i64 s.2.2), false⟩)], []⟩) (fun d e E => XEnv Γ (.exit 0) ⟨[(0, ⟨.sc (.int .i64 d.1), false⟩), (1, ⟨.sc (.int .i64 d.2), false⟩)], []⟩ e E) hd10 ?_ ?_ ?_
  refine Ent.list [] (io0 hio _) rfl ?_ ?_ <;> (repeat' first | exact trivial | (refine And.intro ⟨_, rfl, fun h => (by first | rfl | exact Bool.noConfusion h)⟩ ?_))
  clear H hd10
  rintro ⟨v6, v7, v8⟩ o H
  unfold impl_RotateXY_L1 at H
  (repeat apply CodeT.seq)
  apply CodeT.region (fun _ => PPm)
  apply Run.op; (apply L_mov; rfl; rfl); rfl; rfl
  apply Run.op; (apply L_mov; rfl; rfl); rfl; rfl
  apply Run.op; (apply L_lss; rfl; rfl; rfl); rfl; rfl
  apply Run.done; refine ⟨fun h => Bool.noConfusion h, ?_⟩
  apply x3
  (repeat apply CodeT.seq)
  refine CodeT.cond rfl (fun h => ?_) (fun h => ?_)
  replace H := ifT (of_decide_eq_true h) H
  (repeat apply CodeT.seq)
  apply CodeT.skip
  apply x3
  (repeat apply CodeT.seq)
  apply CodeT.block
  (repeat apply CodeT.seq)
  apply CodeT.region (fun _ => PPm)
  apply Run.op; (apply L_mov; rfl; rfl); rfl; rfl
  apply Run.op; (apply L_neg; rfl; rfl; rfl); rfl; rfl
  apply Run.op; (apply L_mov; rfl; rfl); rfl; rfl
  apply Run.op; (apply L_asg; rfl; rfl); rfl; rfl
  apply Run.op; (apply L_asg; rfl; rfl); rfl; rfl
  apply Run.done; refine ⟨fun h => Bool.noConfusion h, ?_⟩
  apply x5
  apply x3
  apply CodeT.region (fun _ => PPm)
  apply Run.op; (apply L_mov; rfl; rfl); rfl; rfl
  apply Run.op; (apply L_add; rfl; rfl; rfl; rfl); rfl; rfl
  apply Run.op; (apply L_asg; rfl; rfl); rfl; rfl
  apply Run.done; refine ⟨fun h => Bool.noConfusion h, ?_⟩
  obtain rfl := Option.some.inj H
  refine Ev.y1 ?_
  refine Ent.list [] (io0 hio _) rfl ?_ ?_ <;> (repeat' first | exact trivial | (refine And.intro ⟨_, rfl, fun h => (by first | rfl | exact Bool.noConfusion h)⟩ ?_))
  replace H := ifF (of_decide_eq_false h) H
  (repeat apply CodeT.seq)
  apply CodeT.exit
  apply x2
  obtain rfl := Option.some.inj H
  refine Ev.y3 ?_
  refine XEnv.mk ?_
  refine Ent.list [] (io0 hio _) rfl ?_ ?_ <;> (repeat' first | exact trivial | (refine And.intro ⟨_, rfl, fun h => (by first | rfl | exact Bool.noConfusion h)⟩ ?_))
  skip
  intro e E' hX; obtain ⟨rfl, g11⟩ := XEnv.out hX
  refine x6 rfl ?_
  apply x3
  refine CodeT.weak g11 ?_
  (repeat apply CodeT.seq)
  apply CodeT.region (fun _ => PPm)
  apply Run.op; (apply L_mov; rfl; rfl); rfl; rfl
  apply Run.op; (apply L_mov; rfl; rfl); rfl; rfl
  apply Run.op; (apply L_asg; rfl; rfl); rfl; rfl
  apply Run.op; (apply L_asg; rfl; rfl); rfl; rfl
  apply Run.done; refine ⟨fun h => Bool.noConfusion h, ?_⟩
  apply x3
  apply CodeT.ret
  cases H
  apply x12
  exact RetIs.many (.inl rfl) (ResL.cons (Res1.sc rfl) (ResL.cons (Res1.sc rfl) ResL.nil)) (fun h => by first | rfl | cases h)
theorem m_impl_composeOk (a0 : Pose) (a1 : Pose) (r : (Pose × Bool)) (H : impl_composeOk a0 a1 = some r) : Meets Try.prog 126 [.agg (encPose a0), .agg (encPose a1)] (.tup [.agg (encPose r.1), .sc (.bool r.2)]) true := by
  refine Meets.intro2 (N := 48) (rs := #[.cell 4 86, .tmp 5]) Try.func126 rfl rfl rfl rfl ?_
  intro Γ hio
  unfold impl_composeOk at H
  (repeat apply CodeT.seq)
  apply CodeT.region (fun _ => PPm)
  apply Run.op; (apply L_box false; rfl; rfl; rfl; (exact io1 hio _); rfl); rfl; rfl
  apply Run.op; (apply L_box false; rfl; rfl; rfl; (exact io1 hio _); rfl); rfl; rfl
  apply Run.op; (apply L_alloc false; (exact io1 hio _); rfl); rfl; rfl
  apply Run.op; (apply L_asg; rfl; rfl); rfl; rfl
  apply Run.done; refine ⟨fun h => Bool.noConfusion h, ?_⟩
  apply x3
  (repeat apply CodeT.seq)
  obtain ⟨d4, hd4, H⟩ := bindS H
  refine CodeT.lcut (x := d4) (fun d e E => XEnv Γ .normal ⟨[(2, ⟨.ptr 2 0, false⟩), (3, ⟨.ptr 3 0, false⟩), (4, ⟨.ptr 4 0, false⟩), (16, ⟨.sc (.bool d), false⟩)], [(2, some ⟨(encPose a0), true, false⟩), (3, some ⟨(encPose a1), true, false⟩), (4, some ⟨[.sc (.int .i64 0), .sc (.int .i64 0), .sc (.int .i64 0)], true, false⟩)]⟩ e E) ?_ ?_
  clear H; have H := hd4; clear hd4
  apply CodeT.region (fun _ => PPm)
  apply Run.op; (apply L_ldPA; rfl; rfl; (first | exact seg_whole rfl | rfl); rfl; (intro h; cases h); (first | exact .inl rfl | exact .inr rfl); rfl); rfl; rfl
  obtain ⟨r1, hr1, H⟩ := bindS H
  apply R_bool; (apply L_call; ((apply ArgsV.cons; (apply ArgV.val; rfl; rfl)); (apply ArgsV.nil)); (exact m_impl_IsValidPose a0 _ hr1); rfl; rfl; rfl); rfl
  intro h; replace H := ifTb h H
  apply Run.op; (apply L_not; rfl; rfl); rfl; rfl
  apply Run.op; (apply L_mov; rfl; rfl); rfl; rfl
  apply Run.op; (apply L_ldPA; rfl; rfl; (first | exact seg_whole rfl | rfl); rfl; (intro h; cases h); (first | exact .inl rfl | exact .inr rfl); rfl); rfl; rfl
  obtain ⟨r2, hr2, H⟩ := bindS H
  apply Run.op; (apply L_call; ((apply ArgsV.cons; (apply ArgV.val; rfl; rfl)); (apply ArgsV.nil)); (exact m_impl_IsValidPose a1 _ hr2); rfl; rfl; rfl); rfl; rfl
  apply Run.op; (apply L_not; rfl; rfl); rfl; rfl
  apply Run.op; (apply L_pickF; rfl; rfl; rfl); rfl; rfl
  apply Run.done; refine ⟨fun h => Bool.noConfusion h, ?_⟩
  obtain rfl := Option.some.inj H
  refine Ev.y4 ?_
  refine XEnv.mk ?_
  refine Ent.list [] (io0 hio _) rfl ?_ ?_ <;> (repeat' first | exact trivial | (refine And.intro ⟨_, rfl, fun h => (by first | rfl | exact Bool.noConfusion h)⟩ ?_))
  intro h; replace H := ifFb h H
  apply Run.op; (apply L_not; rfl; rfl); rfl; rfl
  apply Run.op; (apply L_mov; rfl; rfl); rfl; rfl
  apply Run.skip; rfl
  apply Run.skip; rfl
  apply Run.skip; rfl
  apply Run.op; (apply L_pickT; rfl; rfl; rfl); rfl; rfl
  apply Run.done; refine ⟨fun h => Bool.noConfusion h, ?_⟩
  obtain rfl := Option.some.inj H
  refine Ev.y4 ?_
  refine XEnv.mk ?_
  refine Ent.list [] (io0 hio _) rfl ?_ ?_ <;> (repeat' first | exact trivial | (refine And.intro ⟨_, rfl, fun h => (by first | rfl | exact Bool.noConfusion h)⟩ ?_))
  intro e E' hX; obtain ⟨rfl, g5⟩ := XEnv.out hX
  apply x3
  refine CodeT.weak g5 ?_
  (repeat apply CodeT.seq)
  refine CodeT.cond rfl (fun h => ?_) (fun h => ?_)
  replace H := ifTb h H
  (repeat apply CodeT.seq)
  apply CodeT.region (fun _ => PPm)
  apply Run.op; (apply L_buildF (vals := []) (cs := [.int .i64 0, .int .i64 0, .int .i64 0]); rfl; kernel_rfl; rfl; rfl; rfl); rfl; rfl
  apply Run.op; (apply L_st; rfl; rfl; rfl; rfl; rfl; (intro h; cases h); rfl; (first | exact splice_whole rfl | rfl)); rfl; rfl
  apply Run.op; (apply L_asg; rfl; rfl); rfl; rfl
  apply Run.done; refine ⟨fun h => Bool.noConfusion h, ?_⟩
  apply x3
  apply CodeT.ret
  apply x1
  cases H
  apply x12
  exact RetIs.many (.inl rfl) (ResL.cons (Res1.cell rfl rfl rfl (by intro h; cases h)) (ResL.cons (Res1.sc rfl) ResL.nil)) (fun h => by first | rfl | cases h)
  replace H := ifFb h H
  (repeat apply CodeT.seq)
  apply CodeT.skip
  apply x3
  (repeat apply CodeT.seq)
  apply CodeT.region (fun _ => PPm)
  apply Run.op; (apply L_fldP; rfl; rfl; rfl; rfl); rfl; rfl
  apply Run.op; (apply L_ldP; rfl; rfl; rfl; (first | exact .inl rfl | exact .inr rfl); rfl); rfl; rfl
  apply Run.op; (apply L_fldP; rfl; rfl; rfl; rfl); rfl; rfl
  apply Run.op; (apply L_ldP; rfl; rfl; rfl; (first | exact .inl rfl | exact .inr rfl); rfl); rfl; rfl
  apply Run.op; (apply L_fldP; rfl; rfl; rfl; rfl); rfl; rfl
  apply Run.op; (apply L_ldP; rfl; rfl; rfl; (first | exact .inl rfl | exact .inr rfl); rfl); rfl; rfl
  obtain ⟨r6, hr6, H⟩ := bindS H
  apply Run.op; (apply L_call; ((apply ArgsV.cons; (apply ArgV.val; rfl; rfl)); (apply ArgsV.cons; (apply ArgV.val; rfl; rfl)); (apply ArgsV.cons; (apply ArgV.val; rfl; rfl)); (apply ArgsV.nil)); (exact m_impl_RotateXY a1.fX a1.fY a0.fTurn _ hr6); rfl; rfl; rfl); rfl; rfl
  apply Run.op; (apply L_mov; rfl; rfl); rfl; rfl
  apply Run.op; (apply L_extR; rfl; rfl; rfl); rfl; rfl
  apply Run.op; (apply L_extR; rfl; rfl; rfl); rfl; rfl
  apply Run.op; (apply L_asg; rfl; rfl); rfl; rfl
  apply Run.op; (apply L_asg; rfl; rfl); rfl; rfl
  apply Run.done; refine ⟨fun h => Bool.noConfusion h, ?_⟩
  apply x3
  (repeat apply CodeT.seq)
  apply CodeT.region (fun _ => PPm)
  apply Run.op; (apply L_fldP; rfl; rfl; rfl; rfl); rfl; rfl
  apply Run.op; (apply L_ldP; rfl; rfl; rfl; (first | exact .inl rfl | exact .inr rfl); rfl); rfl; rfl
  apply Run.op; (apply L_fldP; rfl; rfl; rfl; rfl); rfl; rfl
  apply Run.op; (apply L_ldP; rfl; rfl; rfl; (first | exact .inl rfl | exact .inr rfl); rfl); rfl; rfl
  obtain ⟨v7, hv7, H⟩ := bindS H
  apply Run.op; (apply L_add; rfl; rfl; (exact letS hv7); rfl); rfl; rfl
  apply Run.op; (apply L_rem; rfl; rfl; (intro h; cases h); rfl; rfl); rfl; rfl
  apply Run.op; (apply L_fldP; rfl; rfl; rfl; rfl); rfl; rfl
  apply Run.op; (apply L_ldP; rfl; rfl; rfl; (first | exact .inl rfl | exact .inr rfl); rfl); rfl; rfl
  apply Run.op; (apply L_mov; rfl; rfl); rfl; rfl
  apply Run.op; (apply L_add; rfl; rfl; rfl; rfl); rfl; rfl
  apply Run.op; (apply L_fldP; rfl; rfl; rfl; rfl); rfl; rfl
  apply Run.op; (apply L_ldP; rfl; rfl; rfl; (first | exact .inl rfl | exact .inr rfl); rfl); rfl; rfl
  apply Run.op; (apply L_mov; rfl; rfl); rfl; rfl
  apply Run.op; (apply L_add; rfl; rfl; rfl; rfl); rfl; rfl
  apply Run.op; (apply L_buildF (vals := [(0, .int .i64 (v7.tmod 4)), (1, .int .i64 (IntKind.i64.wrap (a0.fX + r6.1))), (2, .int .i64 (IntKind.i64.wrap (a0.fY + r6.2)))]) (cs := [.int .i64 (v7.tmod 4), .int .i64 (IntKind.i64.wrap (a0.fX + r6.1)), .int .i64 (IntKind.i64.wrap (a0.fY + r6.2))]); rfl; kernel_rfl; rfl; rfl; rfl); rfl; rfl
  apply Run.op; (apply L_alloc false; (exact io1 hio _); rfl); rfl; rfl
  apply Run.op; (apply L_st; rfl; rfl; rfl; rfl; rfl; (intro h; cases h); rfl; (first | exact splice_whole rfl | rfl)); rfl; rfl
  apply Run.done; refine ⟨fun h => Bool.noConfusion h, ?_⟩
  apply x3
  (repeat apply CodeT.seq)
  apply CodeT.region (fun _ => PPm)
  apply Run.op; (apply L_ldPA; rfl; rfl; (first | exact seg_whole rfl | rfl); rfl; (intro h; cases h); (first | exact .inl rfl | exact .inr rfl); rfl); rfl; rfl
  obtain ⟨r8, hr8, H⟩ := bindS H
  apply Run.op; (apply L_call; ((apply ArgsV.cons; (apply ArgV.val; rfl; rfl)); (apply ArgsV.nil)); (exact m_impl_IsValidPose (Pose.mk (v7.tmod 4) (IntKind.i64.wrap (a0.fX + r6.1)) (IntKind.i64.wrap (a0.fY + r6.2))) _ hr8); rfl; rfl; rfl); rfl; rfl
  apply Run.op; (apply L_not; rfl; rfl); rfl; rfl
  apply Run.done; refine ⟨fun h => Bool.noConfusion h, ?_⟩
  apply x3
  (repeat apply CodeT.seq)
  refine CodeT.cond rfl (fun h => ?_) (fun h => ?_)
  replace H := ifFb (notT h) H
  (repeat apply CodeT.seq)
  apply CodeT.region (fun _ => PPm)
  apply Run.op; (apply L_buildF (vals := []) (cs := [.int .i64 0, .int .i64 0, .int .i64 0]); rfl; kernel_rfl; rfl; rfl; rfl); rfl; rfl
  apply Run.op; (apply L_st; rfl; rfl; rfl; rfl; rfl; (intro h; cases h); rfl; (first | exact splice_whole rfl | rfl)); rfl; rfl
  apply Run.op; (apply L_asg; rfl; rfl); rfl; rfl
  apply Run.done; refine ⟨fun h => Bool.noConfusion h, ?_⟩
  apply x3
  apply CodeT.ret
  apply x1
  cases H
  apply x12
  exact RetIs.many (.inl rfl) (ResL.cons (Res1.cell rfl rfl rfl (by intro h; cases h)) (ResL.cons (Res1.sc rfl) ResL.nil)) (fun h => by first | rfl | cases h)
  replace H := ifTb (notF h) H
  (repeat apply CodeT.seq)
  apply CodeT.skip
  apply x3
  (repeat apply CodeT.seq)
  apply CodeT.region (fun _ => PPm)
  apply Run.op; (apply L_ldPA; rfl; rfl; (first | exact seg_whole rfl | rfl); rfl; (intro h; cases h); (first | exact .inl rfl | exact .inr rfl); rfl); rfl; rfl
  apply Run.op; (apply L_st; rfl; rfl; rfl; rfl; rfl; (intro h; cases h); rfl; (first | exact splice_whole rfl | rfl)); rfl; rfl
  apply Run.op; (apply L_asg; rfl; rfl); rfl; rfl
  apply Run.done; refine ⟨fun h => Bool.noConfusion h, ?_⟩
  apply x3
  apply CodeT.ret
  cases H
  apply x12
  exact RetIs.many (.inl rfl) (ResL.cons (Res1.cell rfl rfl rfl (by intro h; cases h)) (ResL.cons (Res1.sc rfl) ResL.nil)) (fun h => by first | rfl | cases h)
theorem m_impl_Inverse (a0 : Pose) (r : Pose) (H : impl_Inverse a0 = some r) : Meets Try.prog 127 [.agg (encPose a0)] (.agg (encPose r)) true := by
  refine Meets.intro2 (N := 29) (rs := #[.cell 2 86]) Try.func127 rfl rfl rfl rfl ?_
  intro Γ hio
  unfold impl_Inverse at H
  (repeat apply CodeT.seq)
  apply CodeT.region (fun _ => PPm)
  apply Run.op; (apply L_box false; rfl; rfl; rfl; (exact io1 hio _); rfl); rfl; rfl
  apply Run.op; (apply L_alloc false; (exact io1 hio _); rfl); rfl; rfl
  apply Run.done; refine ⟨fun h => Bool.noConfusion h, ?_⟩
  apply x3
  (repeat apply CodeT.seq)
  apply CodeT.region (fun _ => PPm)
  apply Run.op; (apply L_ldPA; rfl; rfl; (first | exact seg_whole rfl | rfl); rfl; (intro h; cases h); (first | exact .inl rfl | exact .inr rfl); rfl); rfl; rfl
  obtain ⟨r1, hr1, H⟩ := bindS H
  apply Run.op; (apply L_call; ((apply ArgsV.cons; (apply ArgV.val; rfl; rfl)); (apply ArgsV.nil)); (exact m_impl_IsValidPose a0 _ hr1); rfl; rfl; rfl); rfl; rfl
  apply Run.op; (apply L_not; rfl; rfl); rfl; rfl
  apply Run.done; refine ⟨fun h => Bool.noConfusion h, ?_⟩
  apply x3
  (repeat apply CodeT.seq)
  refine CodeT.cond rfl (fun h => ?_) (fun h => ?_)
  replace H := ifFb (notT h) H
  (repeat apply CodeT.seq)
  apply CodeT.region (fun _ => PPm)
  apply Run.op; (apply L_buildF (vals := []) (cs := [.int .i64 0, .int .i64 0, .int .i64 0]); rfl; kernel_rfl; rfl; rfl; rfl); rfl; rfl
  apply Run.op; (apply L_st; rfl; rfl; rfl; rfl; rfl; (intro h; cases h); rfl; (first | exact splice_whole rfl | rfl)); rfl; rfl
  apply Run.done; refine ⟨fun h => Bool.noConfusion h, ?_⟩
  apply x3
  apply CodeT.ret
  apply x1
  cases H
  apply x12
  exact RetIs.c1 rfl rfl rfl rfl (by intro h; cases h)
  replace H := ifTb (notF h) H
  (repeat apply CodeT.seq)
  apply CodeT.skip
  apply x3
  (repeat apply CodeT.seq)
  apply CodeT.region (fun _ => PPm)
  apply Run.op; (apply L_fldP; rfl; rfl; rfl; rfl); rfl; rfl
  apply Run.op; (apply L_ldP; rfl; rfl; rfl; (first | exact .inl rfl | exact .inr rfl); rfl); rfl; rfl
  apply Run.op; (apply L_sub; rfl; rfl; rfl; rfl); rfl; rfl
  obtain ⟨v2, hv2, H⟩ := bindS H
  apply Run.op; (apply L_rem; rfl; rfl; (intro h; cases h); (exact letS hv2); rfl); rfl; rfl
  apply Run.op; (apply L_asg; rfl; rfl); rfl; rfl
  apply Run.done; refine ⟨fun h => Bool.noConfusion h, ?_⟩
  apply x3
  (repeat apply CodeT.seq)
  apply CodeT.region (fun _ => PPm)
  apply Run.op; (apply L_fldP; rfl; rfl; rfl; rfl); rfl; rfl
  apply Run.op; (apply L_ldP; rfl; rfl; rfl; (first | exact .inl rfl | exact .inr rfl); rfl); rfl; rfl
  apply Run.op; (apply L_neg; rfl; rfl; rfl); rfl; rfl
  apply Run.op; (apply L_fldP; rfl; rfl; rfl; rfl); rfl; rfl
  apply Run.op; (apply L_ldP; rfl; rfl; rfl; (first | exact .inl rfl | exact .inr rfl); rfl); rfl; rfl
  apply Run.op; (apply L_neg; rfl; rfl; rfl); rfl; rfl
  apply Run.op; (apply L_mov; rfl; rfl); rfl; rfl
  obtain ⟨r3, hr3, H⟩ := bindS H
  apply Run.op; (apply L_call; ((apply ArgsV.cons; (apply ArgV.val; rfl; rfl)); (apply ArgsV.cons; (apply ArgV.val; rfl; rfl)); (apply ArgsV.cons; (apply ArgV.val; rfl; rfl)); (apply ArgsV.nil)); (exact m_impl_RotateXY (IntKind.i64.wrap (0 - a0.fX)) (IntKind.i64.wrap (0 - a0.fY)) v2 _ hr3); rfl; rfl; rfl); rfl; rfl
  apply Run.op; (apply L_mov; rfl; rfl); rfl; rfl
  apply Run.op; (apply L_extR; rfl; rfl; rfl); rfl; rfl
  apply Run.op; (apply L_extR; rfl; rfl; rfl); rfl; rfl
  apply Run.op; (apply L_asg; rfl; rfl); rfl; rfl
  apply Run.op; (apply L_asg; rfl; rfl); rfl; rfl
  apply Run.done; refine ⟨fun h => Bool.noConfusion h, ?_⟩
  apply x3
  (repeat apply CodeT.seq)
  apply CodeT.region (fun _ => PPm)
  apply Run.op; (apply L_mov; rfl; rfl); rfl; rfl
  apply Run.op; (apply L_mov; rfl; rfl); rfl; rfl
  apply Run.op; (apply L_mov; rfl; rfl); rfl; rfl
  apply Run.op; (apply L_buildF (vals := [(0, .int .i64 v2), (1, .int .i64 r3.1), (2, .int .i64 r3.2)]) (cs := [.int .i64 v2, .int .i64 r3.1, .int .i64 r3.2]); rfl; kernel_rfl; rfl; rfl; rfl); rfl; rfl
  apply Run.op; (apply L_st; rfl; rfl; rfl; rfl; rfl; (intro h; cases h); rfl; (first | exact splice_whole rfl | rfl)); rfl; rfl
  apply Run.done; refine ⟨fun h => Bool.noConfusion h, ?_⟩
  apply x3
  apply CodeT.ret
  cases H
  apply x12
  exact RetIs.c1 rfl rfl rfl rfl (by intro h; cases h)
theorem m_impl_poseStep (a0 : (List Factor)) (a1 : (List ByteArray)) (a2 : (List Pose)) (a3 : (List Bool)) (r : (Bool × (List Pose) × (List Bool))) (H : impl_poseStep a0 a1 a2 a3 = some r) : MeetsX Try.prog 80 [.sl a0.length (a0.flatMap encFactor), .sl a1.length (a1.flatMap encS), .ref 100002 3 0 a2.length, .ref 100003 1 0 a3.length] [⟨100002, a2.flatMap encPose, r.2.1.flatMap encPose⟩, ⟨100003, a3.flatMap encB, r.2.2.flatMap encB⟩] (.sc (.bool r.1)) true := by
  have H0 := H; clear H
  obtain ⟨r', H, H2⟩ := bindS H0; clear H0
  obtain ⟨_, hlen, H2⟩ := bindS H2
  obtain rfl := Option.some.inj H2
  have hlen := chkS hlen
  refine MeetsX.intro (N := 119) (rs := #[.tmp 8]) Try.func80 rfl rfl rfl rfl rfl (xo2 (nil_new (sz := 3) hlen.1 (fun _ => rfl) (by decide)) (nil_new (sz := 1) hlen.2 (fun _ => rfl) (by decide))) (xo2 (allSc_flat (fun _ => rfl)) (allSc_flat (fun _ => rfl))) ?_
  clear hlen
  intro Γ hio
  unfold impl_poseStep_raw at H
  (repeat apply CodeT.seq)
  apply CodeT.region (fun _ => PPm)
  apply Run.op; (apply L_asg; rfl; rfl); rfl; rfl
  apply Run.done; refine ⟨fun h => Bool.noConfusion h, ?_⟩
  apply x3
  (repeat apply CodeT.seq)
  apply CodeT.region (fun _ => PPm)
  apply Run.op; (apply L_mov; rfl; rfl); rfl; rfl
  apply Run.op; (apply L_len; rfl; rfl); rfl; rfl
  apply Run.op; (apply L_mov; rfl; rfl); rfl; rfl
  apply Run.done; refine ⟨fun h => Bool.noConfusion h, ?_⟩
  apply x3
  (repeat apply CodeT.seq)
  apply CodeT.block
  (repeat apply CodeT.seq)
  obtain ⟨d92, hd92, H⟩ := bindS H
  refine CodeT.lloop (fun s => ⟨[(1, ⟨.sl a1.length (a1.flatMap encS), false⟩), (2, ⟨.ref 100002 3 0 a2.length, false⟩), (3, ⟨.ref 100003 1 0 a3.length, false⟩), (17, ⟨.sl a0.length (a0.flatMap encFactor), false⟩), (18, ⟨.sc (.int .i64 (a0.length : Int)), false⟩), (19, ⟨.sc (.int .i64 s), false⟩)], [(100002, some ⟨a2.flatMap encPose, true, false⟩), (100003, some ⟨a3.flatMap encB, true, false⟩)]⟩) (fun x e E => match x with | (.inl d) => XEnv Γ (.exit 0) ⟨[], [(100002, some ⟨a2.flatMap encPose, true, false⟩), (100003, some ⟨a3.flatMap encB, true, false⟩)]⟩ e E | (.inr d) => XRetX Γ #[.tmp 8] (.sc (.bool d.1)) true [⟨100002, a2.flatMap encPose, d.2.1.flatMap encPose⟩, ⟨100003, a3.flatMap encB, d.2.2.flatMap encB⟩] e E) hd92 ?_ ?_ ?_
  refine Ent.list [] (io0 hio _) rfl ?_ ?_ <;> (repeat' first | exact trivial | (refine And.intro ⟨_, rfl, fun h => (by first | rfl | exact Bool.noConfusion h)⟩ ?_))
  clear H hd92
  rintro v46 o H
  unfold impl_poseStep_L1 at H
  (repeat apply CodeT.seq)
  apply CodeT.region (fun _ => PPm)
  apply Run.op; (apply L_lss; rfl; rfl; rfl); rfl; rfl
  apply Run.done; refine ⟨fun h => Bool.noConfusion h, ?_⟩
  apply x3
  (repeat apply CodeT.seq)
  refine CodeT.cond rfl (fun h => ?_) (fun h => ?_)
  replace H := ifT (of_decide_eq_true h) H
  (repeat apply CodeT.seq)
  apply CodeT.skip
  apply x3
  (repeat apply CodeT.seq)
  apply CodeT.block
  (repeat apply CodeT.seq)
  apply CodeT.region (fun _ => PPm)
  obtain ⟨y47, hy47, H⟩ := bindS H
  apply Run.op; (apply L_ixS2; rfl; rfl; rfl; (exact hy47); (intro _; rfl); rfl); rfl; rfl
  apply Run.op; (apply L_ldIA; rfl; (first | exact take_whole rfl | rfl); rfl; (intro h; cases h); rfl; rfl); rfl; rfl
  apply Run.op; (apply L_alloc false; (exact io1 hio _); rfl); rfl; rfl
  apply Run.op; (apply L_st; rfl; rfl; rfl; rfl; rfl; (intro h; cases h); rfl; (first | exact splice_whole rfl | rfl)); rfl; rfl
  apply Run.done; refine ⟨fun h => Bool.noConfusion h, ?_⟩
  apply x3
  (repeat apply CodeT.seq)
  apply CodeT.region (fun _ => PPm)
  apply Run.op; (apply L_mov; rfl; rfl); rfl; rfl
  apply Run.op; (apply L_fldP; rfl; rfl; rfl; rfl); rfl; rfl
  apply Run.op; (apply L_ldP; rfl; rfl; rfl; (first | exact .inl rfl | exact .inr rfl); rfl); rfl; rfl
  obtain ⟨r48, hr48, H⟩ := bindS H
  apply Run.op; (apply L_call; ((apply ArgsV.cons; (apply ArgV.val; rfl; rfl)); (apply ArgsV.cons; (apply ArgV.val; rfl; rfl)); (apply ArgsV.nil)); (exact m_impl_nameIndex a1 y47.fFrom _ hr48); rfl; rfl; rfl); rfl; rfl
  apply Run.op; (apply L_asg; rfl; rfl); rfl; rfl
  apply Run.done; refine ⟨fun h => Bool.noConfusion h, ?_⟩
  apply x3
  (repeat apply CodeT.seq)
  apply CodeT.region (fun _ => PPm)
  apply Run.op; (apply L_mov; rfl; rfl); rfl; rfl
  apply Run.op; (apply L_fldP; rfl; rfl; rfl; rfl); rfl; rfl
  apply Run.op; (apply L_ldP; rfl; rfl; rfl; (first | exact .inl rfl | exact .inr rfl); rfl); rfl; rfl
  obtain ⟨r49, hr49, H⟩ := bindS H
  apply Run.op; (apply L_call; ((apply ArgsV.cons; (apply ArgV.val; rfl; rfl)); (apply ArgsV.cons; (apply ArgV.val; rfl; rfl)); (apply ArgsV.nil)); (exact m_impl_nameIndex a1 y47.fTo _ hr49); rfl; rfl; rfl); rfl; rfl
  apply Run.op; (apply L_asg; rfl; rfl); rfl; rfl
  apply Run.done; refine ⟨fun h => Bool.noConfusion h, ?_⟩
  apply x3
  (repeat apply CodeT.seq)
  obtain ⟨d52, hd52, H⟩ := bindS H
  refine CodeT.lcut (x := d52) (fun d e E => XEnv Γ .normal ⟨[(1, ⟨.sl a1.length (a1.flatMap encS), false⟩), (2, ⟨.ref 100002 3 0 a2.length, false⟩), (3, ⟨.ref 100003 1 0 a3.length, false⟩), (10, ⟨.ptr 10 0, false⟩), (11, ⟨.sc (.int .i64 r48), false⟩), (12, ⟨.sc (.int .i64 r49), false⟩), (17, ⟨.sl a0.length (a0.flatMap encFactor), false⟩), (18, ⟨.sc (.int .i64 (a0.length : Int)), false⟩), (19, ⟨.sc (.int .i64 v46), false⟩), (40, ⟨.sc (.bool d), false⟩)], [(10, some ⟨(encFactor y47), true, false⟩), (100002, some ⟨a2.flatMap encPose, true, false⟩), (100003, some ⟨a3.flatMap encB, true, false⟩)]⟩ e E) ?_ ?_
  clear H; have H := hd52; clear hd52
  apply CodeT.region (fun _ => PPm)
  apply Run.op; (apply L_fldP; rfl; rfl; rfl; rfl); rfl; rfl
  apply Run.op; (apply L_ldP; rfl; rfl; rfl; (first | exact .inl rfl | exact .inr rfl); rfl); rfl; rfl
  apply R_dec; (apply L_eql; rfl; rfl; rfl); rfl
  intro h; replace H := ifT h H
  apply Run.op; (apply L_mov; rfl; rfl); rfl; rfl
  apply Run.op; (apply L_mov; rfl; rfl); rfl; rfl
  apply Run.op; (apply L_mov; rfl; rfl); rfl; rfl
  obtain ⟨y50, hy50, H⟩ := bindS H
  apply Run.op; (apply L_ixR2; rfl; rfl; rfl; (exact hy50); rfl; rfl); rfl; rfl
  apply Run.op; (apply L_ldP; rfl; rfl; (exact row_ld0 hy50 rfl (fun _ => rfl)); (exact .inr rfl); rfl); rfl; rfl
  apply Run.op; (apply L_not; rfl; rfl); rfl; rfl
  apply Run.op; (apply L_pickT; rfl; rfl; rfl); rfl; rfl
  apply Run.done; refine ⟨fun h => Bool.noConfusion h, ?_⟩
  obtain rfl := Option.some.inj H
  refine Ev.y4 ?_
  refine XEnv.mk ?_
  refine Ent.list [] (io0 hio _) rfl ?_ ?_ <;> (repeat' first | exact trivial | (refine And.intro ⟨_, rfl, fun h => (by first | rfl | exact Bool.noConfusion h)⟩ ?_))
  intro h; replace H := ifF h H
  apply Run.op; (apply L_mov; rfl; rfl); rfl; rfl
  apply Run.skip; rfl
  apply Run.skip; rfl
  apply Run.skip; rfl
  apply Run.skip; rfl
  apply Run.skip; rfl
  apply Run.op; (apply L_pickF; rfl; rfl; rfl); rfl; rfl
  apply Run.done; refine ⟨fun h => Bool.noConfusion h, ?_⟩
  obtain rfl := Option.some.inj H
  refine Ev.y4 ?_
  refine XEnv.mk ?_
  refine Ent.list [] (io0 hio _) rfl ?_ ?_ <;> (repeat' first | exact trivial | (refine And.intro ⟨_, rfl, fun h => (by first | rfl | exact Bool.noConfusion h)⟩ ?_))
  intro e E' hX; obtain ⟨rfl, g53⟩ := XEnv.out hX
  apply x3
  refine CodeT.weak g53 ?_
  (repeat apply CodeT.seq)
  refine CodeT.cond rfl (fun h => ?_) (fun h => ?_)
  replace H := ifTb h H
  (repeat apply CodeT.seq)
  apply CodeT.region (fun _ => PPm)
  apply Run.op; (apply L_mov; rfl; rfl); rfl; rfl
  apply Run.op; (apply L_mov; rfl; rfl); rfl; rfl
  apply Run.op; (apply L_mov; rfl; rfl); rfl; rfl
  apply Run.op; (apply L_mov; rfl; rfl); rfl; rfl
  apply Run.op; (apply L_fldP; rfl; rfl; rfl; rfl); rfl; rfl
  apply Run.op; (apply L_ldPA; rfl; rfl; (first | exact seg_whole rfl | rfl); rfl; (intro h; cases h); (first | exact .inl rfl | exact .inr rfl); rfl); rfl; rfl
  obtain ⟨y54, hy54, H⟩ := bindS H
  apply Run.op; (apply L_ixR2; rfl; rfl; rfl; (exact hy54); rfl; rfl); rfl; rfl
  obtain ⟨v55, hv55, H⟩ := bindS H
  have hl56 := setI_lenS hv55
  apply Run.op; (apply L_st; rfl; rfl; rfl; rfl; rfl; (intro h; cases h); (exact row_ble0 (sz := 3) (n := 3) hy54 (fun _ => rfl) (by decide)); (exact row_stL (sz := 3) hv55 hy54 (fun _ => rfl) rfl)); rfl; rfl
  obtain ⟨y57, hy57, H⟩ := bindS H
  apply Run.op; (apply L_ixR2; rfl; rfl; rfl; (exact hy57); rfl; rfl); rfl; rfl
  obtain ⟨v58, hv58, H⟩ := bindS H
  have hl59 := setI_lenS hv58
  apply Run.op; (apply L_st; rfl; rfl; rfl; rfl; rfl; (intro h; cases h); (exact row_ble0 (sz := 1) (n := 1) hy57 (fun _ => rfl) (by decide)); (exact row_stL (sz := 1) hv58 hy57 (fun _ => rfl) rfl)); rfl; rfl
  apply Run.done; refine ⟨fun h => Bool.noConfusion h, ?_⟩
  apply x3
  (repeat apply CodeT.seq)
  apply CodeT.region (fun _ => PPm)
  apply Run.op; (apply L_asg; rfl; rfl); rfl; rfl
  apply Run.done; refine ⟨fun h => Bool.noConfusion h, ?_⟩
  apply x3
  apply CodeT.ret
  apply x1
  apply x4
  apply x1
  obtain rfl := Option.some.inj H
  refine Ev.y2 ?_
  refine XRetX.mk ?_
  exact RetX.mk (RetIs.sc1 rfl) (xo2 ⟨_, rfl⟩ ⟨_, rfl⟩)
  replace H := ifFb h H
  (repeat apply CodeT.seq)
  apply CodeT.skip
  apply x3
  (repeat apply CodeT.seq)
  obtain ⟨d63, hd63, H⟩ := bindS H
  refine CodeT.lcut (x := d63) (fun d e E => XEnv Γ .normal ⟨[(1, ⟨.sl a1.length (a1.flatMap encS), false⟩), (2, ⟨.ref 100002 3 0 a2.length, false⟩), (3, ⟨.ref 100003 1 0 a3.length, false⟩), (10, ⟨.ptr 10 0, false⟩), (11, ⟨.sc (.int .i64 r48), false⟩), (12, ⟨.sc (.int .i64 r49), false⟩), (17, ⟨.sl a0.length (a0.flatMap encFactor), false⟩), (18, ⟨.sc (.int .i64 (a0.length : Int)), false⟩), (19, ⟨.sc (.int .i64 v46), false⟩), (64, ⟨.sc (.bool d), false⟩)], [(10, some ⟨(encFactor y47), true, false⟩), (100002, some ⟨a2.flatMap encPose, true, false⟩), (100003, some ⟨a3.flatMap encB, true, false⟩)]⟩ e E) ?_ ?_
  clear H; have H := hd63; clear hd63
  apply CodeT.region (fun _ => PPm)
  apply Run.op; (apply L_fldP; rfl; rfl; rfl; rfl); rfl; rfl
  apply Run.op; (apply L_ldP; rfl; rfl; rfl; (first | exact .inl rfl | exact .inr rfl); rfl); rfl; rfl
  apply R_dec; (apply L_eql; rfl; rfl; rfl); rfl
  intro h; replace H := ifT h H
  apply Run.op; (apply L_mov; rfl; rfl); rfl; rfl
  apply Run.op; (apply L_mov; rfl; rfl); rfl; rfl
  apply Run.op; (apply L_mov; rfl; rfl); rfl; rfl
  obtain ⟨y60, hy60, H⟩ := bindS H
  apply Run.op; (apply L_ixR2; rfl; rfl; rfl; (exact hy60); rfl; rfl); rfl; rfl
  apply R_bool; (apply L_ldP; rfl; rfl; (exact row_ld0 hy60 rfl (fun _ => rfl)); (exact .inr rfl); rfl); rfl
  intro h; replace H := ifTb h H
  apply Run.op; (apply L_pickT; rfl; rfl; rfl); rfl; rfl
  apply Run.op; (apply L_mov; rfl; rfl); rfl; rfl
  apply Run.op; (apply L_mov; rfl; rfl); rfl; rfl
  apply Run.op; (apply L_mov; rfl; rfl); rfl; rfl
  obtain ⟨y61, hy61, H⟩ := bindS H
  apply Run.op; (apply L_ixR2; rfl; rfl; rfl; (exact hy61); rfl; rfl); rfl; rfl
  apply Run.op; (apply L_ldP; rfl; rfl; (exact row_ld0 hy61 rfl (fun _ => rfl)); (exact .inr rfl); rfl); rfl; rfl
  apply Run.op; (apply L_not; rfl; rfl); rfl; rfl
  apply Run.op; (apply L_pickT; rfl; rfl; rfl); rfl; rfl
  apply Run.done; refine ⟨fun h => Bool.noConfusion h, ?_⟩
  obtain rfl := Option.some.inj H
  refine Ev.y4 ?_
  refine XEnv.mk ?_
  refine Ent.list [] (io0 hio _) rfl ?_ ?_ <;> (repeat' first | exact trivial | (refine And.intro ⟨_, rfl, fun h => (by first | rfl | exact Bool.noConfusion h)⟩ ?_))
  intro h; replace H := ifFb h H
  apply Run.op; (apply L_pickT; rfl; rfl; rfl); rfl; rfl
  apply Run.op; (apply L_mov; rfl; rfl); rfl; rfl
  apply Run.skip; rfl
  apply Run.skip; rfl
  apply Run.skip; rfl
  apply Run.skip; rfl
  apply Run.skip; rfl
  apply Run.op; (apply L_pickF; rfl; rfl; rfl); rfl; rfl
  apply Run.done; refine ⟨fun h => Bool.noConfusion h, ?_⟩
  obtain rfl := Option.some.inj H
  refine Ev.y4 ?_
  refine XEnv.mk ?_
  refine Ent.list [] (io0 hio _) rfl ?_ ?_ <;> (repeat' first | exact trivial | (refine And.intro ⟨_, rfl, fun h => (by first | rfl | exact Bool.noConfusion h)⟩ ?_))
  intro h; replace H := ifF h H
  apply Run.op; (apply L_mov; rfl; rfl); rfl; rfl
  apply Run.skip; rfl
  apply Run.skip; rfl
  apply Run.skip; rfl
  apply Run.skip; rfl
  apply Run.op; (apply L_pickF; rfl; rfl; rfl); rfl; rfl
  apply Run.op; (apply L_mov; rfl; rfl); rfl; rfl
  apply Run.skip; rfl
  apply Run.skip; rfl
  apply Run.skip; rfl
  apply Run.skip; rfl
  apply Run.skip; rfl
  apply Run.op; (apply L_pickF; rfl; rfl; rfl); rfl; rfl
  apply Run.done; refine ⟨fun h => Bool.noConfusion h, ?_⟩
  obtain rfl := Option.some.inj H
  refine Ev.y4 ?_
  refine XEnv.mk ?_
  refine Ent.list [] (io0 hio _) rfl ?_ ?_ <;> (repeat' first | exact trivial | (refine And.intro ⟨_, rfl, fun h => (by first | rfl | exact Bool.noConfusion h)⟩ ?_))
  intro e E' hX; obtain ⟨rfl, g64⟩ := XEnv.out hX
  apply x3
  refine CodeT.weak g64 ?_
  (repeat apply CodeT.seq)
  obtain ⟨d73, hd73, H⟩ := bindS H
  refine CodeT.lcut (x := d73) (fun x e E => match x with | (.inl d) => XEnv Γ .normal ⟨[(1, ⟨.sl a1.length (a1.flatMap encS), false⟩), (2, ⟨.ref 100002 3 0 a2.length, false⟩), (3, ⟨.ref 100003 1 0 a3.length, false⟩), (10, ⟨.ptr 10 0, false⟩), (11, ⟨.sc (.int .i64 r48), false⟩), (12, ⟨.sc (.int .i64 r49), false⟩), (17, ⟨.sl a0.length (a0.flatMap encFactor), false⟩), (18, ⟨.sc (.int .i64 (a0.length : Int)), false⟩), (19, ⟨.sc (.int .i64 v46), false⟩)], [(10, some ⟨(encFactor y47), true, false⟩), (100002, some ⟨a2.flatMap encPose, true, false⟩), (100003, some ⟨a3.flatMap encB, true, false⟩)]⟩ e E | (.inr d) => XRetX Γ #[.tmp 8] (.sc (.bool d.1)) true [⟨100002, a2.flatMap encPose, d.2.1.flatMap encPose⟩, ⟨100003, a3.flatMap encB, d.2.2.flatMap encB⟩] e E) ?_ ?_
  clear H; have H := hd73; clear hd73
  refine CodeT.cond rfl (fun h => ?_) (fun h => ?_)
  replace H := ifTb h H
  (repeat apply CodeT.seq)
  apply CodeT.region (fun _ => PPm)
  apply Run.op; (apply L_mov; rfl; rfl); rfl; rfl
  apply Run.op; (apply L_mov; rfl; rfl); rfl; rfl
  obtain ⟨y65, hy65, H⟩ := bindS H
  apply Run.op; (apply L_ixR2; rfl; rfl; rfl; (exact hy65); rfl; rfl); rfl; rfl
  apply Run.op; (apply L_ldPA; rfl; rfl; (exact row_seg hy65 (fun _ => rfl)); rfl; (intro h; cases h); (exact .inr rfl); rfl); rfl; rfl
  apply Run.op; (apply L_fldP; rfl; rfl; rfl; rfl); rfl; rfl
  apply Run.op; (apply L_ldPA; rfl; rfl; (first | exact seg_whole rfl | rfl); rfl; (intro h; cases h); (first | exact .inl rfl | exact .inr rfl); rfl); rfl; rfl
  obtain ⟨r66, hr66, H⟩ := bindS H
  apply Run.op; (apply L_call; ((apply ArgsV.cons; (apply ArgV.val; rfl; rfl)); (apply ArgsV.cons; (apply ArgV.val; rfl; rfl)); (apply ArgsV.nil)); (exact m_impl_composeOk y65 y47.fPose _ hr66); rfl; rfl; rfl); rfl; rfl
  apply Run.op; (apply L_mov; rfl; rfl); rfl; rfl
  apply Run.op; (apply L_extR; rfl; rfl; rfl); rfl; rfl
  apply Run.op; (apply L_extR; rfl; rfl; rfl); rfl; rfl
  apply Run.op; (apply L_alloc false; (exact io1 hio _); rfl); rfl; rfl
  apply Run.op; (apply L_st; rfl; rfl; rfl; rfl; rfl; (intro h; cases h); rfl; (first | exact splice_whole rfl | rfl)); rfl; rfl
  apply Run.op; (apply L_asg; rfl; rfl); rfl; rfl
  apply Run.done; refine ⟨fun _ => ⟨rfl, rfl⟩, ?_⟩
  apply x3
  (repeat apply CodeT.seq)
  apply CodeT.region (fun _ => PPm)
  apply Run.op; (apply L_mov; rfl; rfl); rfl; rfl
  apply Run.done; refine ⟨fun h => Bool.noConfusion h, ?_⟩
  apply x3
  refine CodeT.cond rfl (fun h => ?_) (fun h => ?_)
  replace H := ifTb h H
  (repeat apply CodeT.seq)
  apply CodeT.region (fun _ => PPm)
  apply Run.op; (apply L_mov; rfl; rfl); rfl; rfl
  apply Run.op; (apply L_mov; rfl; rfl); rfl; rfl
  apply Run.op; (apply L_mov; rfl; rfl); rfl; rfl
  apply Run.op; (apply L_mov; rfl; rfl); rfl; rfl
  apply Run.op; (apply L_ldPA; rfl; rfl; (first | exact seg_whole rfl | rfl); rfl; (intro h; cases h); (first | exact .inl rfl | exact .inr rfl); rfl); rfl; rfl
  obtain ⟨y67, hy67, H⟩ := bindS H
  apply Run.op; (apply L_ixR2; rfl; rfl; rfl; (exact hy67); rfl; rfl); rfl; rfl
  obtain ⟨v68, hv68, H⟩ := bindS H
  have hl69 := setI_lenS hv68
  apply Run.op; (apply L_st; rfl; rfl; rfl; rfl; rfl; (intro h; cases h); (exact row_ble0 (sz := 3) (n := 3) hy67 (fun _ => rfl) (by decide)); (exact row_stL (sz := 3) hv68 hy67 (fun _ => rfl) rfl)); rfl; rfl
  obtain ⟨y70, hy70, H⟩ := bindS H
  apply Run.op; (apply L_ixR2; rfl; rfl; rfl; (exact hy70); rfl; rfl); rfl; rfl
  obtain ⟨v71, hv71, H⟩ := bindS H
  have hl72 := setI_lenS hv71
  apply Run.op; (apply L_st; rfl; rfl; rfl; rfl; rfl; (intro h; cases h); (exact row_ble0 (sz := 1) (n := 1) hy70 (fun _ => rfl) (by decide)); (exact row_stL (sz := 1) hv71 hy70 (fun _ => rfl) rfl)); rfl; rfl
  apply Run.done; refine ⟨fun h => Bool.noConfusion h, ?_⟩
  apply x3
  (repeat apply CodeT.seq)
  apply CodeT.region (fun _ => PPm)
  apply Run.op; (apply L_asg; rfl; rfl); rfl; rfl
  apply Run.done; refine ⟨fun h => Bool.noConfusion h, ?_⟩
  apply x3
  apply CodeT.ret
  obtain rfl := Option.some.inj H
  refine Ev.y4 ?_
  refine XRetX.mk ?_
  exact RetX.mk (RetIs.sc1 rfl) (xo2 ⟨_, rfl⟩ ⟨_, rfl⟩)
  replace H := ifFb h H
  (repeat apply CodeT.seq)
  apply CodeT.skip
  obtain rfl := Option.some.inj H
  refine Ev.y4 ?_
  refine XEnv.mk ?_
  refine Ent.list [] (io0 hio _) rfl ?_ ?_ <;> (repeat' first | exact trivial | (refine And.intro ⟨_, rfl, fun h => (by first | rfl | exact Bool.noConfusion h)⟩ ?_))
  replace H := ifFb h H
  (repeat apply CodeT.seq)
  apply CodeT.skip
  obtain rfl := Option.some.inj H
  refine Ev.y4 ?_
  refine XEnv.mk ?_
  refine Ent.list [] (io0 hio _) rfl ?_ ?_ <;> (repeat' first | exact trivial | (refine And.intro ⟨_, rfl, fun h => (by first | rfl | exact Bool.noConfusion h)⟩ ?_))
  rcases d73 with (d74 | d90)
  intro e E' hX; obtain ⟨rfl, g75⟩ := XEnv.out hX
  apply x3
  refine CodeT.weak g75 ?_
  (repeat apply CodeT.seq)
  obtain ⟨d79, hd79, H⟩ := bindS H
  refine CodeT.lcut (x := d79) (fun d e E => XEnv Γ .normal ⟨[(1, ⟨.sl a1.length (a1.flatMap encS), false⟩), (2, ⟨.ref 100002 3 0 a2.length, false⟩), (3, ⟨.ref 100003 1 0 a3.length, false⟩), (10, ⟨.ptr 10 0, false⟩), (11, ⟨.sc (.int .i64 r48), false⟩), (12, ⟨.sc (.int .i64 r49), false⟩), (17, ⟨.sl a0.length (a0.flatMap encFactor), false⟩), (18, ⟨.sc (.int .i64 (a0.length : Int)), false⟩), (19, ⟨.sc (.int .i64 v46), false⟩), (98, ⟨.sc (.bool d), false⟩)], [(10, some ⟨(encFactor y47), true, false⟩), (100002, some ⟨a2.flatMap encPose, true, false⟩), (100003, some ⟨a3.flatMap encB, true, false⟩)]⟩ e E) ?_ ?_
  clear H; have H := hd79; clear hd79
  apply CodeT.region (fun _ => PPm)
  apply Run.op; (apply L_fldP; rfl; rfl; rfl; rfl); rfl; rfl
  apply Run.op; (apply L_ldP; rfl; rfl; rfl; (first | exact .inl rfl | exact .inr rfl); rfl); rfl; rfl
  apply R_dec; (apply L_eql; rfl; rfl; rfl); rfl
  intro h; replace H := ifT h H
  apply Run.op; (apply L_mov; rfl; rfl); rfl; rfl
  apply Run.op; (apply L_mov; rfl; rfl); rfl; rfl
  apply Run.op; (apply L_mov; rfl; rfl); rfl; rfl
  obtain ⟨y76, hy76, H⟩ := bindS H
  apply Run.op; (apply L_ixR2; rfl; rfl; rfl; (exact hy76); rfl; rfl); rfl; rfl
  apply R_bool; (apply L_ldP; rfl; rfl; (exact row_ld0 hy76 rfl (fun _ => rfl)); (exact .inr rfl); rfl); rfl
  intro h; replace H := ifTb h H
  apply Run.op; (apply L_not; rfl; rfl); rfl; rfl
  apply Run.op; (apply L_pickT; rfl; rfl; rfl); rfl; rfl
  apply Run.op; (apply L_mov; rfl; rfl); rfl; rfl
  apply Run.skip; rfl
  apply Run.skip; rfl
  apply Run.skip; rfl
  apply Run.skip; rfl
  apply Run.op; (apply L_pickF; rfl; rfl; rfl); rfl; rfl
  apply Run.done; refine ⟨fun h => Bool.noConfusion h, ?_⟩
  obtain rfl := Option.some.inj H
  refine Ev.y4 ?_
  refine XEnv.mk ?_
  refine Ent.list [] (io0 hio _) rfl ?_ ?_ <;> (repeat' first | exact trivial | (refine And.intro ⟨_, rfl, fun h => (by first | rfl | exact Bool.noConfusion h)⟩ ?_))
  intro h; replace H := ifFb h H
  apply Run.op; (apply L_not; rfl; rfl); rfl; rfl
  apply Run.op; (apply L_pickT; rfl; rfl; rfl); rfl; rfl
  apply Run.op; (apply L_mov; rfl; rfl); rfl; rfl
  apply Run.op; (apply L_mov; rfl; rfl); rfl; rfl
  apply Run.op; (apply L_mov; rfl; rfl); rfl; rfl
  obtain ⟨y77, hy77, H⟩ := bindS H
  apply Run.op; (apply L_ixR2; rfl; rfl; rfl; (exact hy77); rfl; rfl); rfl; rfl
  apply Run.op; (apply L_ldP; rfl; rfl; (exact row_ld0 hy77 rfl (fun _ => rfl)); (exact .inr rfl); rfl); rfl; rfl
  apply Run.op; (apply L_pickT; rfl; rfl; rfl); rfl; rfl
  apply Run.done; refine ⟨fun h => Bool.noConfusion h, ?_⟩
  obtain rfl := Option.some.inj H
  refine Ev.y4 ?_
  refine XEnv.mk ?_
  refine Ent.list [] (io0 hio _) rfl ?_ ?_ <;> (repeat' first | exact trivial | (refine And.intro ⟨_, rfl, fun h => (by first | rfl | exact Bool.noConfusion h)⟩ ?_))
  intro h; replace H := ifF h H
  apply Run.op; (apply L_mov; rfl; rfl); rfl; rfl
  apply Run.skip; rfl
  apply Run.skip; rfl
  apply Run.skip; rfl
  apply Run.skip; rfl
  apply Run.skip; rfl
  apply Run.op; (apply L_pickF; rfl; rfl; rfl); rfl; rfl
  apply Run.op; (apply L_mov; rfl; rfl); rfl; rfl
  apply Run.skip; rfl
  apply Run.skip; rfl
  apply Run.skip; rfl
  apply Run.skip; rfl
  apply Run.op; (apply L_pickF; rfl; rfl; rfl); rfl; rfl
  apply Run.done; refine ⟨fun h => Bool.noConfusion h, ?_⟩
  obtain rfl := Option.some.inj H
  refine Ev.y4 ?_
  refine XEnv.mk ?_
  refine Ent.list [] (io0 hio _) rfl ?_ ?_ <;> (repeat' first | exact trivial | (refine And.intro ⟨_, rfl, fun h => (by first | rfl | exact Bool.noConfusion h)⟩ ?_))
  intro e E' hX; obtain ⟨rfl, g80⟩ := XEnv.out hX
  apply x3
  refine CodeT.weak g80 ?_
  refine CodeT.cond rfl (fun h => ?_) (fun h => ?_)
  replace H := ifTb h H
  (repeat apply CodeT.seq)
  apply CodeT.region (fun _ => PPm)
  apply Run.op; (apply L_mov; rfl; rfl); rfl; rfl
  apply Run.op; (apply L_mov; rfl; rfl); rfl; rfl
  obtain ⟨y81, hy81, H⟩ := bindS H
  apply Run.op; (apply L_ixR2; rfl; rfl; rfl; (exact hy81); rfl; rfl); rfl; rfl
  apply Run.op; (apply L_ldPA; rfl; rfl; (exact row_seg hy81 (fun _ => rfl)); rfl; (intro h; cases h); (exact .inr rfl); rfl); rfl; rfl
  apply Run.op; (apply L_fldP; rfl; rfl; rfl; rfl); rfl; rfl
  apply Run.op; (apply L_ldPA; rfl; rfl; (first | exact seg_whole rfl | rfl); rfl; (intro h; cases h); (first | exact .inl rfl | exact .inr rfl); rfl); rfl; rfl
  obtain ⟨r82, hr82, H⟩ := bindS H
  apply Run.op; (apply L_call; ((apply ArgsV.cons; (apply ArgV.val; rfl; rfl)); (apply ArgsV.nil)); (exact m_impl_Inverse y47.fPose _ hr82); rfl; rfl; rfl); rfl; rfl
  obtain ⟨r83, hr83, H⟩ := bindS H
  apply Run.op; (apply L_call; ((apply ArgsV.cons; (apply ArgV.val; rfl; rfl)); (apply ArgsV.cons; (apply ArgV.val; rfl; rfl)); (apply ArgsV.nil)); (exact m_impl_composeOk y81 r82 _ hr83); rfl; rfl; rfl); rfl; rfl
  apply Run.op; (apply L_mov; rfl; rfl); rfl; rfl
  apply Run.op; (apply L_extR; rfl; rfl; rfl); rfl; rfl
  apply Run.op; (apply L_extR; rfl; rfl; rfl); rfl; rfl
  apply Run.op; (apply L_alloc false; (exact io1 hio _); rfl); rfl; rfl
  apply Run.op; (apply L_st; rfl; rfl; rfl; rfl; rfl; (intro h; cases h); rfl; (first | exact splice_whole rfl | rfl)); rfl; rfl
  apply Run.op; (apply L_asg; rfl; rfl); rfl; rfl
  apply Run.done; refine ⟨fun _ => ⟨rfl, rfl⟩, ?_⟩
  apply x3
  (repeat apply CodeT.seq)
  apply CodeT.region (fun _ => PPm)
  apply Run.op; (apply L_mov; rfl; rfl); rfl; rfl
  apply Run.done; refine ⟨fun h => Bool.noConfusion h, ?_⟩
  apply x3
  refine CodeT.cond rfl (fun h => ?_) (fun h => ?_)
  replace H := ifTb h H
  (repeat apply CodeT.seq)
  apply CodeT.region (fun _ => PPm)
  apply Run.op; (apply L_mov; rfl; rfl); rfl; rfl
  apply Run.op; (apply L_mov; rfl; rfl); rfl; rfl
  apply Run.op; (apply L_mov; rfl; rfl); rfl; rfl
  apply Run.op; (apply L_mov; rfl; rfl); rfl; rfl
  apply Run.op; (apply L_ldPA; rfl; rfl; (first | exact seg_whole rfl | rfl); rfl; (intro h; cases h); (first | exact .inl rfl | exact .inr rfl); rfl); rfl; rfl
  obtain ⟨y84, hy84, H⟩ := bindS H
  apply Run.op; (apply L_ixR2; rfl; rfl; rfl; (exact hy84); rfl; rfl); rfl; rfl
  obtain ⟨v85, hv85, H⟩ := bindS H
  have hl86 := setI_lenS hv85
  apply Run.op; (apply L_st; rfl; rfl; rfl; rfl; rfl; (intro h; cases h); (exact row_ble0 (sz := 3) (n := 3) hy84 (fun _ => rfl) (by decide)); (exact row_stL (sz := 3) hv85 hy84 (fun _ => rfl) rfl)); rfl; rfl
  obtain ⟨y87, hy87, H⟩ := bindS H
  apply Run.op; (apply L_ixR2; rfl; rfl; rfl; (exact hy87); rfl; rfl); rfl; rfl
  obtain ⟨v88, hv88, H⟩ := bindS H
  have hl89 := setI_lenS hv88
  apply Run.op; (apply L_st; rfl; rfl; rfl; rfl; rfl; (intro h; cases h); (exact row_ble0 (sz := 1) (n := 1) hy87 (fun _ => rfl) (by decide)); (exact row_stL (sz := 1) hv88 hy87 (fun _ => rfl) rfl)); rfl; rfl
  apply Run.done; refine ⟨fun h => Bool.noConfusion h, ?_⟩
  apply x3
  (repeat apply CodeT.seq)
  apply CodeT.region (fun _ => PPm)
  apply Run.op; (apply L_asg; rfl; rfl); rfl; rfl
  apply Run.done; refine ⟨fun h => Bool.noConfusion h, ?_⟩
  apply x3
  apply CodeT.ret
  apply x4
  apply x1
  obtain rfl := Option.some.inj H
  refine Ev.y2 ?_
  refine XRetX.mk ?_
  exact RetX.mk (RetIs.sc1 rfl) (xo2 ⟨_, rfl⟩ ⟨_, rfl⟩)
  replace H := ifFb h H
  (repeat apply CodeT.seq)
  apply CodeT.skip
  apply x5
  apply x3
  apply CodeT.region (fun _ => PPm)
  apply Run.op; (apply L_add; rfl; rfl; rfl; rfl); rfl; rfl
  apply Run.op; (apply L_mov; rfl; rfl); rfl; rfl
  apply Run.done; refine ⟨fun h => Bool.noConfusion h, ?_⟩
  obtain rfl := Option.some.inj H
  refine Ev.y1 ?_
  refine Ent.list [] (io0 hio _) rfl ?_ ?_ <;> (repeat' first | exact trivial | (refine And.intro ⟨_, rfl, fun h => (by first | rfl | exact Bool.noConfusion h)⟩ ?_))
  replace H := ifFb h H
  (repeat apply CodeT.seq)
  apply CodeT.skip
  apply x5
  apply x3
  apply CodeT.region (fun _ => PPm)
  apply Run.op; (apply L_add; rfl; rfl; rfl; rfl); rfl; rfl
  apply Run.op; (apply L_mov; rfl; rfl); rfl; rfl
  apply Run.done; refine ⟨fun h => Bool.noConfusion h, ?_⟩
  obtain rfl := Option.some.inj H
  refine Ev.y1 ?_
  refine Ent.list [] (io0 hio _) rfl ?_ ?_ <;> (repeat' first | exact trivial | (refine And.intro ⟨_, rfl, fun h => (by first | rfl | exact Bool.noConfusion h)⟩ ?_))
  intro e E' hX; obtain ⟨rfl, g91⟩ := XRetX.out hX
  apply x1
  apply x4
  apply x1
  obtain rfl := Option.some.inj H
  refine Ev.y2 ?_
  exact XRetX.mk g91
  replace H := ifF (of_decide_eq_false h) H
  (repeat apply CodeT.seq)
  apply CodeT.exit
  apply x2
  obtain rfl := Option.some.inj H
  refine Ev.y3 ?_
  refine XEnv.mk ?_
  refine Ent.list [] (io0 hio _) rfl ?_ ?_ <;> (repeat' first | exact trivial | (refine And.intro ⟨_, rfl, fun h => (by first | rfl | exact Bool.noConfusion h)⟩ ?_))
  rcases d92 with (d93 | d95)
  intro e E' hX; obtain ⟨rfl, g94⟩ := XEnv.out hX
  refine x6 rfl ?_
  apply x3
  refine CodeT.weak g94 ?_
  (repeat apply CodeT.seq)
  apply CodeT.region (fun _ => PPm)
  apply Run.op; (apply L_asg; rfl; rfl); rfl; rfl
  apply Run.done; refine ⟨fun h => Bool.noConfusion h, ?_⟩
  apply x3
  apply CodeT.ret
  cases H
  apply z12
  exact RetX.mk (RetIs.sc1 rfl) (xo2 ⟨_, rfl⟩ ⟨_, rfl⟩)
  intro e E' hX; obtain ⟨rfl, g96⟩ := XRetX.out hX
  apply x4
  apply x1
  cases H
  apply z12
  exact g96
theorem m_impl_DeadReckoning (a0 : (List Factor)) (r : ((List Pose) × (List Bool))) (H : impl_DeadReckoning a0 = some r) : Meets Try.prog 24 [.sl a0.length (a0.flatMap encFactor)] (.tup [.rw 3 r.1.length (r.1.flatMap encPose), .rw 1 r.2.length (r.2.flatMap encB)]) true := by
  refine Meets.intro2 (N := 25) (rs := #[.tmp 2, .tmp 3]) Try.func24 rfl rfl rfl rfl ?_
  intro Γ hio
  unfold impl_DeadReckoning at H
  (repeat apply CodeT.seq)
  apply CodeT.region (fun _ => PPm)
  apply Run.op; (apply L_asg; rfl; rfl); rfl; rfl
  apply Run.op; (apply L_asg; rfl; rfl); rfl; rfl
  apply Run.done; refine ⟨fun h => Bool.noConfusion h, ?_⟩
  apply x3
  (repeat apply CodeT.seq)
  apply CodeT.region (fun _ => PPm)
  apply Run.op; (apply L_mov; rfl; rfl); rfl; rfl
  obtain ⟨r1, hr1, H⟩ := bindS H
  apply Run.op; (apply L_call; ((apply ArgsV.cons; (apply ArgV.val; rfl; rfl)); (apply ArgsV.nil)); (exact m_impl_IsFactorList a0 _ hr1); rfl; rfl; rfl); rfl; rfl
  apply Run.op; (apply L_not; rfl; rfl); rfl; rfl
  apply Run.done; refine ⟨fun h => Bool.noConfusion h, ?_⟩
  apply x3
  (repeat apply CodeT.seq)
  refine CodeT.cond rfl (fun h => ?_) (fun h => ?_)
  replace H := ifFb (notT h) H
  (repeat apply CodeT.seq)
  apply CodeT.region (fun _ => PPm)
  apply Run.op; (apply L_asg; rfl; rfl); rfl; rfl
  apply Run.op; (apply L_asg; rfl; rfl); rfl; rfl
  apply Run.done; refine ⟨fun h => Bool.noConfusion h, ?_⟩
  apply x3
  apply CodeT.ret
  apply x1
  cases H
  apply x12
  exact RetIs.many (.inl rfl) (ResL.cons (Res1.nilW rfl) (ResL.cons (Res1.nilW rfl) ResL.nil)) (fun h => by first | rfl | cases h)
  replace H := ifTb (notF h) H
  (repeat apply CodeT.seq)
  apply CodeT.skip
  apply x3
  (repeat apply CodeT.seq)
  apply CodeT.region (fun _ => PPm)
  apply Run.op; (apply L_mov; rfl; rfl); rfl; rfl
  obtain ⟨r2, hr2, H⟩ := bindS H
  apply Run.op; (apply L_callW; ((apply ArgsV.cons; (apply ArgV.val; rfl; rfl)); (apply ArgsV.nil)); (exact m_impl_NamesOf a0 _ hr2); (exact io1 hio _); rfl); rfl; rfl
  apply Run.op; (apply L_asg; rfl; rfl); rfl; rfl
  apply Run.done; refine ⟨fun h => Bool.noConfusion h, ?_⟩
  apply x3
  (repeat apply CodeT.seq)
  apply CodeT.region (fun _ => PPm)
  apply Run.op; (apply L_mov; rfl; rfl); rfl; rfl
  apply Run.op; (apply L_lenR; rfl; rfl; rfl); rfl; rfl
  obtain ⟨_u, hm3, H⟩ := bindS H
  apply Run.op; (apply L_make2 (enc := encPose) (z := (Pose.mk 0 0 0)); rfl; rfl; rfl; (exact chkS hm3); rfl; decide; (intro h; cases h); (exact io1 hio _); rfl); rfl; rfl
  apply Run.op; (apply L_asg; rfl; rfl); rfl; rfl
  apply Run.done; refine ⟨fun h => Bool.noConfusion h, ?_⟩
  apply x3
  (repeat apply CodeT.seq)
  apply CodeT.region (fun _ => PPm)
  apply Run.op; (apply L_mov; rfl; rfl); rfl; rfl
  apply Run.op; (apply L_lenR; rfl; rfl; rfl); rfl; rfl
  obtain ⟨_u, hm4, H⟩ := bindS H
  apply Run.op; (apply L_make2 (enc := encB) (z := false); rfl; rfl; rfl; (exact chkS hm4); rfl; decide; (intro h; cases h); (exact io1 hio _); rfl); rfl; rfl
  apply Run.op; (apply L_asg; rfl; rfl); rfl; rfl
  apply Run.done; refine ⟨fun h => Bool.noConfusion h, ?_⟩
  apply x3
  (repeat apply CodeT.seq)
  apply CodeT.block
  (repeat apply CodeT.seq)
  obtain ⟨d12, hd12, H⟩ := bindS H
  refine CodeT.lloop (fun s => ⟨[(0, ⟨.sl a0.length (a0.flatMap encFactor), false⟩), (4, ⟨.ref 504 1 0 r2.length, false⟩), (5, ⟨.ref 505 3 0 s.1.length, false⟩), (6, ⟨.ref 506 1 0 s.2.length, false⟩)], [(504, some ⟨r2.flatMap encS, true, false⟩), (505, some ⟨s.1.flatMap encPose, true, false⟩), (506, some ⟨s.2.flatMap encB, true, false⟩)]⟩) (fun d e E => XEnv Γ (.exit 0) ⟨[(5, ⟨.ref 505 3 0 d.1.length, false⟩), (6, ⟨.ref 506 1 0 d.2.length, false⟩)], [(505, some ⟨d.1.flatMap encPose, true, false⟩), (506, some ⟨d.2.flatMap encB, true, false⟩)]⟩ e E) hd12 ?_ ?_ ?_
  refine Ent.list [(504, 11), (505, 14), (506, 17)] (io0 hio _) rfl ?_ ?_ <;> (repeat' first | exact trivial | (refine And.intro ⟨_, rfl, fun h => (by first | rfl | exact Bool.noConfusion h)⟩ ?_))
  clear H hd12
  rintro ⟨v7, v8⟩ o H
  unfold impl_DeadReckoning_L1 at H
  (repeat apply CodeT.seq)
  apply CodeT.region (fun _ => PPm)
  apply Run.op; (apply L_mov; rfl; rfl); rfl; rfl
  apply Run.op; (apply L_mov; rfl; rfl); rfl; rfl
  apply Run.op; (apply L_mov; rfl; rfl); rfl; rfl
  apply Run.op; (apply L_mov; rfl; rfl); rfl; rfl
  obtain ⟨r9, hr9, H⟩ := bindS H
  have hl10 := len_impl_poseStep a0 r2 v7 v8 _ hr9
  apply Run.op; (apply L_callX [(100002, 505), (100003, 506)]; ((apply ArgsX.cons; (apply ArgX.val; (apply ArgV.val; rfl; rfl); rfl)); (apply ArgsX.cons; (apply ArgX.val; (apply ArgV.ref; rfl; rfl; (exact Nat.le_of_eq (flat_len (fun _ => rfl)))); rfl)); (apply ArgsX.cons; (apply ArgX.io (p := .ref 100002 3 0 v7.length); rfl)); (apply ArgsX.cons; (apply ArgX.io (p := .ref 100003 1 0 v8.length); rfl)); (apply ArgsX.nil)); (exact m_impl_poseStep a0 r2 v7 v8 _ hr9); ((apply ObsX.cons; rfl; (exact allSc_flat (fun _ => rfl))); (apply ObsX.cons; rfl; (exact allSc_flat (fun _ => rfl))); (apply ObsX.nil)); rfl; rfl; rfl; rfl; rfl); rfl; rfl
  apply Run.done; refine ⟨fun h => Bool.noConfusion h, ?_⟩
  apply x3
  (repeat apply CodeT.seq)
  refine CodeT.cond rfl (fun h => ?_) (fun h => ?_)
  replace H := ifTb h H
  (repeat apply CodeT.seq)
  apply CodeT.skip
  apply x3
  apply CodeT.block
  (repeat apply CodeT.seq)
  apply CodeT.skip
  apply x5
  obtain rfl := Option.some.inj H
  refine Ev.y1 ?_
  refine Ent.trans (Ent.relen (k := 5) (n' := r9.2.1.length) rfl (by first | (simp only [setI_len]; done) | (simp only [setI_len]; omega) | omega)) ?_
  refine Ent.trans (Ent.relen (k := 6) (n' := r9.2.2.length) rfl (by first | (simp only [setI_len]; done) | (simp only [setI_len]; omega) | omega)) ?_
  refine Ent.list [] (io0 hio _) rfl ?_ ?_ <;> (repeat' first | exact trivial | (refine And.intro ⟨_, rfl, fun h => (by first | rfl | exact Bool.noConfusion h)⟩ ?_))
  replace H := ifFb h H
  (repeat apply CodeT.seq)
  apply CodeT.exit
  apply x2
  obtain rfl := Option.some.inj H
  refine Ev.y3 ?_
  refine XEnv.mk ?_
  refine Ent.trans (Ent.relen (k := 5) (n' := r9.2.1.length) rfl (by first | (simp only [setI_len]; done) | (simp only [setI_len]; omega) | omega)) ?_
  refine Ent.trans (Ent.relen (k := 6) (n' := r9.2.2.length) rfl (by first | (simp only [setI_len]; done) | (simp only [setI_len]; omega) | omega)) ?_
  refine Ent.list [] (io0 hio _) rfl ?_ ?_ <;> (repeat' first | exact trivial | (refine And.intro ⟨_, rfl, fun h => (by first | rfl | exact Bool.noConfusion h)⟩ ?_))
  skip
  intro e E' hX; obtain ⟨rfl, g13⟩ := XEnv.out hX
  refine x6 rfl ?_
  apply x3
  refine CodeT.weak g13 ?_
  (repeat apply CodeT.seq)
  apply CodeT.region (fun _ => PPm)
  apply Run.op; (apply L_mov; rfl; rfl); rfl; rfl
  apply Run.op; (apply L_mov; rfl; rfl); rfl; rfl
  apply Run.op; (apply L_asg; rfl; rfl); rfl; rfl
  apply Run.op; (apply L_asg; rfl; rfl); rfl; rfl
  apply Run.done; refine ⟨fun h => Bool.noConfusion h, ?_⟩
  apply x3
  apply CodeT.ret
  cases H
  apply x12
  exact RetIs.many (.inl rfl) (ResL.cons (Res1.refW rfl rfl (io1 hio _)) (ResL.cons (Res1.refW rfl rfl (io1 hio _)) ResL.nil)) (fun h => by first | rfl | cases h)
theorem m_laws_eqPoseS (a0 : (List Pose)) (a1 : (List Pose)) (r : Bool) (H : laws_eqPoseS a0 a1 = some r) : Meets Try.prog 25 [.sl a0.length (a0.flatMap encPose), .sl a1.length (a1.flatMap encPose)] (.sc (.bool r)) true := by
  refine Meets.intro2 (N := 27) (rs := #[.tmp 4]) Try.func25 rfl rfl rfl rfl ?_
  intro Γ hio
  unfold laws_eqPoseS at H
  (repeat apply CodeT.seq)
  apply CodeT.region (fun _ => PPm)
  apply Run.op; (apply L_asg; rfl; rfl); rfl; rfl
  apply Run.done; refine ⟨fun h => Bool.noConfusion h, ?_⟩
  apply x3
  (repeat apply CodeT.seq)
  apply CodeT.region (fun _ => PPm)
  apply Run.op; (apply L_mov; rfl; rfl); rfl; rfl
  apply Run.op; (apply L_len; rfl; rfl); rfl; rfl
  apply Run.op; (apply L_mov; rfl; rfl); rfl; rfl
  apply Run.op; (apply L_len; rfl; rfl); rfl; rfl
  apply Run.op; (apply L_neq; rfl; rfl; rfl); rfl; rfl
  apply Run.done; refine ⟨fun h => Bool.noConfusion h, ?_⟩
  apply x3
  (repeat apply CodeT.seq)
  refine CodeT.cond rfl (fun h => ?_) (fun h => ?_)
  replace H := ifT (of_decide_eq_true h) H
  (repeat apply CodeT.seq)
  apply CodeT.region (fun _ => PPm)
  apply Run.op; (apply L_asg; rfl; rfl); rfl; rfl
  apply Run.done; refine ⟨fun h => Bool.noConfusion h, ?_⟩
  apply x3
  apply CodeT.ret
  apply x1
  cases H
  apply x12
  exact RetIs.sc1 rfl
  replace H := ifF (of_decide_eq_false h) H
  (repeat apply CodeT.seq)
  apply CodeT.skip
  apply x3
  (repeat apply CodeT.seq)
  apply CodeT.region (fun _ => PPm)
  apply Run.op; (apply L_asg; rfl; rfl); rfl; rfl
  apply Run.done; refine ⟨fun h => Bool.noConfusion h, ?_⟩
  apply x3
  (repeat apply CodeT.seq)
  apply CodeT.block
  (repeat apply CodeT.seq)
  obtain ⟨d8, hd8, H⟩ := bindS H
  refine CodeT.lloop (fun s => ⟨[(0, ⟨.sl a0.length (a0.flatMap encPose), false⟩), (1, ⟨.sl a1.length (a1.flatMap encPose), false⟩), (5, ⟨.sc (.int .i64 s), false⟩)], []⟩) (fun x e E => match x with | (.inl d) => XEnv Γ (.exit 0) ⟨[], []⟩ e E | (.inr d) => XRet Γ #[.tmp 4] (.sc (.bool d)) true e E) hd8 ?_ ?_ ?_
  refine Ent.list [] (io0 hio _) rfl ?_ ?_ <;> (repeat' first | exact trivial | (refine And.intro ⟨_, rfl, fun h => (by first | rfl | exact Bool.noConfusion h)⟩ ?_))
  clear H hd8
  rintro v4 o H
  unfold laws_eqPoseS_L1 at H
  (repeat apply CodeT.seq)
  apply CodeT.region (fun _ => PPm)
  apply Run.op; (apply L_mov; rfl; rfl); rfl; rfl
  apply Run.op; (apply L_mov; rfl; rfl); rfl; rfl
  apply Run.op; (apply L_len; rfl; rfl); rfl; rfl
  apply Run.op; (apply L_lss; rfl; rfl; rfl); rfl; rfl
  apply Run.done; refine ⟨fun h => Bool.noConfusion h, ?_⟩
  apply x3
  (repeat apply CodeT.seq)
  refine CodeT.cond rfl (fun h => ?_) (fun h => ?_)
  replace H := ifT (of_decide_eq_true h) H
  (repeat apply CodeT.seq)
  apply CodeT.skip
  apply x3
  (repeat apply CodeT.seq)
  apply CodeT.block
  (repeat apply CodeT.seq)
  apply CodeT.region (fun _ => PPm)
  apply Run.op; (apply L_mov; rfl; rfl); rfl; rfl
  apply Run.op; (apply L_mov; rfl; rfl); rfl; rfl
  obtain ⟨y5, hy5, H⟩ := bindS H
  apply Run.op; (apply L_ixS2; rfl; rfl; rfl; (exact hy5); (intro _; rfl); rfl); rfl; rfl
  apply Run.op; (apply L_ldIA; rfl; (first | exact take_whole rfl | rfl); rfl; (intro h; cases h); rfl; rfl); rfl; rfl
  apply Run.op; (apply L_mov; rfl; rfl); rfl; rfl
  apply Run.op; (apply L_mov; rfl; rfl); rfl; rfl
  obtain ⟨y6, hy6, H⟩ := bindS H
  apply Run.op; (apply L_ixS2; rfl; rfl; rfl; (exact hy6); (intro _; rfl); rfl); rfl; rfl
  apply Run.op; (apply L_ldIA; rfl; (first | exact take_whole rfl | rfl); rfl; (intro h; cases h); rfl; rfl); rfl; rfl
  obtain ⟨r7, hr7, H⟩ := bindS H
  apply Run.op; (apply L_call; ((apply ArgsV.cons; (apply ArgV.val; rfl; rfl)); (apply ArgsV.cons; (apply ArgV.val; rfl; rfl)); (apply ArgsV.nil)); (exact m_laws_eqPose y5 y6 _ hr7); rfl; rfl; rfl); rfl; rfl
  apply Run.op; (apply L_not; rfl; rfl); rfl; rfl
  apply Run.done; refine ⟨fun _ => ⟨rfl, rfl⟩, ?_⟩
  apply x3
  refine CodeT.cond rfl (fun h => ?_) (fun h => ?_)
  replace H := ifFb (notT h) H
  (repeat apply CodeT.seq)
  apply CodeT.region (fun _ => PPm)
  apply Run.op; (apply L_asg; rfl; rfl); rfl; rfl
  apply Run.done; refine ⟨fun h => Bool.noConfusion h, ?_⟩
  apply x3
  apply CodeT.ret
  apply x4
  apply x1
  obtain rfl := Option.some.inj H
  refine Ev.y2 ?_
  refine XRet.mk ?_
  exact RetIs.sc1 rfl
  replace H := ifTb (notF h) H
  (repeat apply CodeT.seq)
  apply CodeT.skip
  apply x5
  apply x3
  apply CodeT.region (fun _ => PPm)
  apply Run.op; (apply L_mov; rfl; rfl); rfl; rfl
  apply Run.op; (apply L_add; rfl; rfl; rfl; rfl); rfl; rfl
  apply Run.op; (apply L_asg; rfl; rfl); rfl; rfl
  apply Run.done; refine ⟨fun h => Bool.noConfusion h, ?_⟩
  obtain rfl := Option.some.inj H
  refine Ev.y1 ?_
  refine Ent.list [] (io0 hio _) rfl ?_ ?_ <;> (repeat' first | exact trivial | (refine And.intro ⟨_, rfl, fun h => (by first | rfl | exact Bool.noConfusion h)⟩ ?_))
  replace H := ifF (of_decide_eq_false h) H
  (repeat apply CodeT.seq)
  apply CodeT.exit
  apply x2
  obtain rfl := Option.some.inj H
  refine Ev.y3 ?_
  refine XEnv.mk ?_
  refine Ent.list [] (io0 hio _) rfl ?_ ?_ <;> (repeat' first | exact trivial | (refine And.intro ⟨_, rfl, fun h => (by first | rfl | exact Bool.noConfusion h)⟩ ?_))
  rcases d8 with (d9 | d11)
  intro e E' hX; obtain ⟨rfl, g10⟩ := XEnv.out hX
  refine x6 rfl ?_
  apply x3
  refine CodeT.weak g10 ?_
  (repeat apply CodeT.seq)
  apply CodeT.region (fun _ => PPm)
  apply Run.op; (apply L_asg; rfl; rfl); rfl; rfl
  apply Run.done; refine ⟨fun h => Bool.noConfusion h, ?_⟩
  apply x3
  apply CodeT.ret
  cases H
  apply x12
  exact RetIs.sc1 rfl
  intro e E' hX; obtain ⟨rfl, g12⟩ := XRet.out hX
  apply x4
  apply x1
  cases H
  apply x12
  exact g12
theorem m_laws_eqBoolS (a0 : (List Bool)) (a1 : (List Bool)) (r : Bool) (H : laws_eqBoolS a0 a1 = some r) : Meets Try.prog 26 [.sl a0.length (a0.flatMap encB), .sl a1.length (a1.flatMap encB)] (.sc (.bool r)) true := by
  refine Meets.intro2 (N := 26) (rs := #[.tmp 4]) Try.func26 rfl rfl rfl rfl ?_
  intro Γ hio
  unfold laws_eqBoolS at H
  (repeat apply CodeT.seq)
  apply CodeT.region (fun _ => PPm)
  apply Run.op; (apply L_asg; rfl; rfl); rfl; rfl
  apply Run.done; refine ⟨fun h => Bool.noConfusion h, ?_⟩
  apply x3
  (repeat apply CodeT.seq)
  apply CodeT.region (fun _ => PPm)
  apply Run.op; (apply L_mov; rfl; rfl); rfl; rfl
  apply Run.op; (apply L_len; rfl; rfl); rfl; rfl
  apply Run.op; (apply L_mov; rfl; rfl); rfl; rfl
  apply Run.op; (apply L_len; rfl; rfl); rfl; rfl
  apply Run.op; (apply L_neq; rfl; rfl; rfl); rfl; rfl
  apply Run.done; refine ⟨fun h => Bool.noConfusion h, ?_⟩
  apply x3
  (repeat apply CodeT.seq)
  refine CodeT.cond rfl (fun h => ?_) (fun h => ?_)
  replace H := ifT (of_decide_eq_true h) H
  (repeat apply CodeT.seq)
  apply CodeT.region (fun _ => PPm)
  apply Run.op; (apply L_asg; rfl; rfl); rfl; rfl
  apply Run.done; refine ⟨fun h => Bool.noConfusion h, ?_⟩
  apply x3
  apply CodeT.ret
  apply x1
  cases H
  apply x12
  exact RetIs.sc1 rfl
  replace H := ifF (of_decide_eq_false h) H
  (repeat apply CodeT.seq)
  apply CodeT.skip
  apply x3
  (repeat apply CodeT.seq)
  apply CodeT.region (fun _ => PPm)
  apply Run.op; (apply L_asg; rfl; rfl); rfl; rfl
  apply Run.done; refine ⟨fun h => Bool.noConfusion h, ?_⟩
  apply x3
  (repeat apply CodeT.seq)
  apply CodeT.block
  (repeat apply CodeT.seq)
  obtain ⟨d6, hd6, H⟩ := bindS H
  refine CodeT.lloop (fun s => ⟨[(0, ⟨.sl a0.length (a0.flatMap encB), false⟩), (1, ⟨.sl a1.length (a1.flatMap encB), false⟩), (5, ⟨.sc (.int .i64 s), false⟩)], []⟩) (fun x e E => match x with | (.inl d) => XEnv Γ (.exit 0) ⟨[], []⟩ e E | (.inr d) => XRet Γ #[.tmp 4] (.sc (.bool d)) true e E) hd6 ?_ ?_ ?_
  refine Ent.list [] (io0 hio _) rfl ?_ ?_ <;> (repeat' first | exact trivial | (refine And.intro ⟨_, rfl, fun h => (by first | rfl | exact Bool.noConfusion h)⟩ ?_))
  clear H hd6
  rintro v3 o H
  unfold laws_eqBoolS_L1 at H
  (repeat apply CodeT.seq)
  apply CodeT.region (fun _ => PPm)
  apply Run.op; (apply L_mov; rfl; rfl); rfl; rfl
  apply Run.op; (apply L_mov; rfl; rfl); rfl; rfl
  apply Run.op; (apply L_len; rfl; rfl); rfl; rfl
  apply Run.op; (apply L_lss; rfl; rfl; rfl); rfl; rfl
  apply Run.done; refine ⟨fun h => Bool.noConfusion h, ?_⟩
  apply x3
  (repeat apply CodeT.seq)
  refine CodeT.cond rfl (fun h => ?_) (fun h => ?_)
  replace H := ifT (of_decide_eq_true h) H
  (repeat apply CodeT.seq)
  apply CodeT.skip
  apply x3
  (repeat apply CodeT.seq)
  apply CodeT.block
  (repeat apply CodeT.seq)
  apply CodeT.region (fun _ => PPm)
  apply Run.op; (apply L_mov; rfl; rfl); rfl; rfl
  apply Run.op; (apply L_mov; rfl; rfl); rfl; rfl
  obtain ⟨y4, hy4, H⟩ := bindS H
  apply Run.op; (apply L_ixS2; rfl; rfl; rfl; (exact hy4); (intro _; rfl); rfl); rfl; rfl
  apply Run.op; (apply L_ldI; rfl; rfl; rfl; rfl); rfl; rfl
  apply Run.op; (apply L_mov; rfl; rfl); rfl; rfl
  apply Run.op; (apply L_mov; rfl; rfl); rfl; rfl
  obtain ⟨y5, hy5, H⟩ := bindS H
  apply Run.op; (apply L_ixS2; rfl; rfl; rfl; (exact hy5); (intro _; rfl); rfl); rfl; rfl
  apply Run.op; (apply L_ldI; rfl; rfl; rfl; rfl); rfl; rfl
  apply Run.op; (apply L_bneq; rfl; rfl; rfl); rfl; rfl
  apply Run.done; refine ⟨fun _ => ⟨rfl, rfl⟩, ?_⟩
  apply x3
  refine CodeT.cond rfl (fun h => ?_) (fun h => ?_)
  replace H := ifFb (notT h) H
  (repeat apply CodeT.seq)
  apply CodeT.region (fun _ => PPm)
  apply Run.op; (apply L_asg; rfl; rfl); rfl; rfl
  apply Run.done; refine ⟨fun h => Bool.noConfusion h, ?_⟩
  apply x3
  apply CodeT.ret
  apply x4
  apply x1
  obtain rfl := Option.some.inj H
  refine Ev.y2 ?_
  refine XRet.mk ?_
  exact RetIs.sc1 rfl
  replace H := ifTb (notF h) H
  (repeat apply CodeT.seq)
  apply CodeT.skip
  apply x5
  apply x3
  apply CodeT.region (fun _ => PPm)
  apply Run.op; (apply L_mov; rfl; rfl); rfl; rfl
  apply Run.op; (apply L_add; rfl; rfl; rfl; rfl); rfl; rfl
  apply Run.op; (apply L_asg; rfl; rfl); rfl; rfl
  apply Run.done; refine ⟨fun h => Bool.noConfusion h, ?_⟩
  obtain rfl := Option.some.inj H
  refine Ev.y1 ?_
  refine Ent.list [] (io0 hio _) rfl ?_ ?_ <;> (repeat' first | exact trivial | (refine And.intro ⟨_, rfl, fun h => (by first | rfl | exact Bool.noConfusion h)⟩ ?_))
  replace H := ifF (of_decide_eq_false h) H
  (repeat apply CodeT.seq)
  apply CodeT.exit
  apply x2
  obtain rfl := Option.some.inj H
  refine Ev.y3 ?_
  refine XEnv.mk ?_
  refine Ent.list [] (io0 hio _) rfl ?_ ?_ <;> (repeat' first | exact trivial | (refine And.intro ⟨_, rfl, fun h => (by first | rfl | exact Bool.noConfusion h)⟩ ?_))
  rcases d6 with (d7 | d9)
  intro e E' hX; obtain ⟨rfl, g8⟩ := XEnv.out hX
  refine x6 rfl ?_
  apply x3
  refine CodeT.weak g8 ?_
  (repeat apply CodeT.seq)
  apply CodeT.region (fun _ => PPm)
  apply Run.op; (apply L_asg; rfl; rfl); rfl; rfl
  apply Run.done; refine ⟨fun h => Bool.noConfusion h, ?_⟩
  apply x3
  apply CodeT.ret
  cases H
  apply x12
  exact RetIs.sc1 rfl
  intro e E' hX; obtain ⟨rfl, g10⟩ := XRet.out hX
  apply x4
  apply x1
  cases H
  apply x12
  exact g10
theorem m_laws_markPoseS (a0 : (List Pose)) (a1 : Int) (r : (Int × (List Pose))) (H : laws_markPoseS a0 a1 = some r) : MeetsX Try.prog 27 [.ref 100000 3 0 a0.length, .sc (.int .i64 a1)] [⟨100000, a0.flatMap encPose, r.2.flatMap encPose⟩] (.sc (.int .i64 r.1)) true := by
  have H0 := H; clear H
  obtain ⟨r', H, H2⟩ := bindS H0; clear H0
  obtain ⟨_, hlen, H2⟩ := bindS H2
  obtain rfl := Option.some.inj H2
  have hlen := chkS hlen
  refine MeetsX.intro (N := 34) (rs := #[.tmp 4]) Try.func27 rfl rfl rfl rfl rfl (xo1 (nil_new (sz := 3) hlen (fun _ => rfl) (by decide))) (xo1 (allSc_flat (fun _ => rfl))) ?_
  clear hlen
  intro Γ hio
  unfold laws_markPoseS_raw at H
  (repeat apply CodeT.seq)
  apply CodeT.region (fun _ => PPm)
  apply Run.op; (apply L_asg; rfl; rfl); rfl; rfl
  apply Run.done; refine ⟨fun h => Bool.noConfusion h, ?_⟩
  apply x3
  (repeat apply CodeT.seq)
  apply CodeT.region (fun _ => PPm)
  apply Run.op; (apply L_asg; rfl; rfl); rfl; rfl
  apply Run.done; refine ⟨fun h => Bool.noConfusion h, ?_⟩
  apply x3
  (repeat apply CodeT.seq)
  apply CodeT.block
  (repeat apply CodeT.seq)
  obtain ⟨d25, hd25, H⟩ := bindS H
  refine CodeT.lloop (fun s => ⟨[(0, ⟨.ref 100000 3 0 s.2.2.length, false⟩), (1, ⟨.sc (.int .i64 s.1), false⟩), (5, ⟨.sc (.int .i64 s.2.1), false⟩)], [(100000, some ⟨s.2.2.flatMap encPose, true, false⟩)]⟩) (fun d e E => XEnv Γ (.exit 0) ⟨[(1, ⟨.sc (.int .i64 d.1), false⟩)], [(100000, some ⟨d.2.flatMap encPose, true, false⟩)]⟩ e E) hd25 ?_ ?_ ?_
  refine Ent.list [] (io0 hio _) rfl ?_ ?_ <;> (repeat' first | exact trivial | (refine And.intro ⟨_, rfl, fun h => (by first | rfl | exact Bool.noConfusion h)⟩ ?_))
  clear H hd25
  rintro ⟨v11, v12, v13⟩ o H
  unfold laws_markPoseS_L1 at H
  (repeat apply CodeT.seq)
  apply CodeT.region (fun _ => PPm)
  apply Run.op; (apply L_mov; rfl; rfl); rfl; rfl
  apply Run.op; (apply L_mov; rfl; rfl); rfl; rfl
  apply Run.op; (apply L_lenR; rfl; rfl; rfl); rfl; rfl
  apply Run.op; (apply L_lss; rfl; rfl; rfl); rfl; rfl
  apply Run.done; refine ⟨fun h => Bool.noConfusion h, ?_⟩
  apply x3
  (repeat apply CodeT.seq)
  refine CodeT.cond rfl (fun h => ?_) (fun h => ?_)
  replace H := ifT (of_decide_eq_true h) H
  (repeat apply CodeT.seq)
  apply CodeT.skip
  apply x3
  (repeat apply CodeT.seq)
  apply CodeT.block
  (repeat apply CodeT.seq)
  apply CodeT.region (fun _ => PPm)
  apply Run.op; (apply L_mov; rfl; rfl); rfl; rfl
  apply Run.op; (apply L_mov; rfl; rfl); rfl; rfl
  apply Run.op; (apply L_mov; rfl; rfl); rfl; rfl
  obtain ⟨y14, hy14, H⟩ := bindS H
  apply Run.op; (apply L_ixR2; rfl; rfl; rfl; (exact hy14); rfl; rfl); rfl; rfl
  apply Run.op; (apply L_fldP; rfl; rfl; (exact row_pos (sz := 3) hy14 (fun _ => rfl) (by decide)); rfl); rfl; rfl
  obtain ⟨v15, hv15, H⟩ := bindS H
  have hl16 := setI_lenS hv15
  apply Run.op; (apply L_st; rfl; rfl; rfl; rfl; rfl; (intro h; cases h); (exact row_ble (sz := 3) (o := 0) (n := 1) hy14 (fun _ => rfl) (by decide)); (exact row_fldL (sz := 3) (o := 0) (n := 1) hv15 hy14 (fun _ => rfl) (by decide) rfl)); rfl; rfl
  apply Run.done; refine ⟨fun h => Bool.noConfusion h, ?_⟩
  apply x3
  (repeat apply CodeT.seq)
  refine CodeT.weak (Ent.relen (k := 0) (n' := v15.length) rfl (by first | (simp only [setI_len]; done) | (simp only [setI_len]; omega) | omega)) ?_
  apply CodeT.region (fun _ => PPm)
  apply Run.op; (apply L_mov; rfl; rfl); rfl; rfl
  apply Run.op; (apply L_add; rfl; rfl; rfl; rfl); rfl; rfl
  apply Run.op; (apply L_asg; rfl; rfl); rfl; rfl
  apply Run.done; refine ⟨fun h => Bool.noConfusion h, ?_⟩
  apply x3
  (repeat apply CodeT.seq)
  apply CodeT.region (fun _ => PPm)
  apply Run.op; (apply L_mov; rfl; rfl); rfl; rfl
  apply Run.op; (apply L_mov; rfl; rfl); rfl; rfl
  apply Run.op; (apply L_mov; rfl; rfl); rfl; rfl
  obtain ⟨y17, hy17, H⟩ := bindS H
  apply Run.op; (apply L_ixR2; rfl; rfl; rfl; (exact hy17); rfl; rfl); rfl; rfl
  apply Run.op; (apply L_fldP; rfl; rfl; (exact row_pos (sz := 3) hy17 (fun _ => rfl) (by decide)); rfl); rfl; rfl
  obtain ⟨v18, hv18, H⟩ := bindS H
  have hl19 := setI_lenS hv18
  apply Run.op; (apply L_st; rfl; rfl; rfl; rfl; rfl; (intro h; cases h); (exact row_ble (sz := 3) (o := 1) (n := 1) hy17 (fun _ => rfl) (by decide)); (exact row_fldL (sz := 3) (o := 1) (n := 1) hv18 hy17 (fun _ => rfl) (by decide) rfl)); rfl; rfl
  apply Run.done; refine ⟨fun h => Bool.noConfusion h, ?_⟩
  apply x3
  (repeat apply CodeT.seq)
  refine CodeT.weak (Ent.relen (k := 0) (n' := v18.length) rfl (by first | (simp only [setI_len]; done) | (simp only [setI_len]; omega) | omega)) ?_
  apply CodeT.region (fun _ => PPm)
  apply Run.op; (apply L_mov; rfl; rfl); rfl; rfl
  obtain ⟨v20, hv20, H⟩ := bindS H
  apply Run.op; (apply L_add; rfl; rfl; (exact letS hv20); rfl); rfl; rfl
  apply Run.op; (apply L_asg; rfl; rfl); rfl; rfl
  apply Run.done; refine ⟨fun h => Bool.noConfusion h, ?_⟩
  apply x3
  (repeat apply CodeT.seq)
  apply CodeT.region (fun _ => PPm)
  apply Run.op; (apply L_mov; rfl; rfl); rfl; rfl
  apply Run.op; (apply L_mov; rfl; rfl); rfl; rfl
  apply Run.op; (apply L_mov; rfl; rfl); rfl; rfl
  obtain ⟨y21, hy21, H⟩ := bindS H
  apply Run.op; (apply L_ixR2; rfl; rfl; rfl; (exact hy21); rfl; rfl); rfl; rfl
  apply Run.op; (apply L_fldP; rfl; rfl; (exact row_pos (sz := 3) hy21 (fun _ => rfl) (by decide)); rfl); rfl; rfl
  obtain ⟨v22, hv22, H⟩ := bindS H
  have hl23 := setI_lenS hv22
  apply Run.op; (apply L_st; rfl; rfl; rfl; rfl; rfl; (intro h; cases h); (exact row_ble (sz := 3) (o := 2) (n := 1) hy21 (fun _ => rfl) (by decide)); (exact row_fldL (sz := 3) (o := 2) (n := 1) hv22 hy21 (fun _ => rfl) (by decide) rfl)); rfl; rfl
  apply Run.done; refine ⟨fun h => Bool.noConfusion h, ?_⟩
  apply x3
  refine CodeT.weak (Ent.relen (k := 0) (n' := v22.length) rfl (by first | (simp only [setI_len]; done) | (simp only [setI_len]; omega) | omega)) ?_
  apply CodeT.region (fun _ => PPm)
  apply Run.op; (apply L_mov; rfl; rfl); rfl; rfl
  apply Run.op; (apply L_add; rfl; rfl; rfl; rfl); rfl; rfl
  apply Run.op; (apply L_asg; rfl; rfl); rfl; rfl
  apply Run.done; refine ⟨fun h => Bool.noConfusion h, ?_⟩
  apply x5
  apply x3
  apply CodeT.region (fun _ => PPm)
  apply Run.op; (apply L_mov; rfl; rfl); rfl; rfl
  apply Run.op; (apply L_add; rfl; rfl; rfl; rfl); rfl; rfl
  apply Run.op; (apply L_asg; rfl; rfl); rfl; rfl
  apply Run.done; refine ⟨fun h => Bool.noConfusion h, ?_⟩
  obtain rfl := Option.some.inj H
  refine Ev.y1 ?_
  refine Ent.list [] (io0 hio _) rfl ?_ ?_ <;> (repeat' first | exact trivial | (refine And.intro ⟨_, rfl, fun h => (by first | rfl | exact Bool.noConfusion h)⟩ ?_))
  replace H := ifF (of_decide_eq_false h) H
  (repeat apply CodeT.seq)
  apply CodeT.exit
  apply x2
  obtain rfl := Option.some.inj H
  refine Ev.y3 ?_
  refine XEnv.mk ?_
  refine Ent.list [] (io0 hio _) rfl ?_ ?_ <;> (repeat' first | exact trivial | (refine And.intro ⟨_, rfl, fun h => (by first | rfl | exact Bool.noConfusion h)⟩ ?_))
  skip
  intro e E' hX; obtain ⟨rfl, g26⟩ := XEnv.out hX
  refine x6 rfl ?_
  apply x3
  refine CodeT.weak g26 ?_
  (repeat apply CodeT.seq)
  apply CodeT.region (fun _ => PPm)
  apply Run.op; (apply L_mov; rfl; rfl); rfl; rfl
  apply Run.op; (apply L_asg; rfl; rfl); rfl; rfl
  apply Run.done; refine ⟨fun h => Bool.noConfusion h, ?_⟩
  apply x3
  apply CodeT.ret
  cases H
  apply z12
  exact RetX.mk (RetIs.sc1 rfl) (xo1 ⟨_, rfl⟩)
theorem m_laws_markBoolS (a0 : (List Bool)) (a1 : Int) (r : (Int × (List Bool))) (H : laws_markBoolS a0 a1 = some r) : MeetsX Try.prog 28 [.ref 100000 1 0 a0.length, .sc (.int .i64 a1)] [⟨100000, a0.flatMap encB, r.2.flatMap encB⟩] (.sc (.int .i64 r.1)) true := by
  have H0 := H; clear H
  obtain ⟨r', H, H2⟩ := bindS H0; clear H0
  obtain ⟨_, hlen, H2⟩ := bindS H2
  obtain rfl := Option.some.inj H2
  have hlen := chkS hlen
  refine MeetsX.intro (N := 21) (rs := #[.tmp 4]) Try.func28 rfl rfl rfl rfl rfl (xo1 (nil_new (sz := 1) hlen (fun _ => rfl) (by decide))) (xo1 (allSc_flat (fun _ => rfl))) ?_
  clear hlen
  intro Γ hio
  unfold laws_markBoolS_raw at H
  (repeat apply CodeT.seq)
  apply CodeT.region (fun _ => PPm)
  apply Run.op; (apply L_asg; rfl; rfl); rfl; rfl
  apply Run.done; refine ⟨fun h => Bool.noConfusion h, ?_⟩
  apply x3
  (repeat apply CodeT.seq)
  apply CodeT.region (fun _ => PPm)
  apply Run.op; (apply L_asg; rfl; rfl); rfl; rfl
  apply Run.done; refine ⟨fun h => Bool.noConfusion h, ?_⟩
  apply x3
  (repeat apply CodeT.seq)
  apply CodeT.block
  (repeat apply CodeT.seq)
  obtain ⟨d11, hd11, H⟩ := bindS H
  refine CodeT.lloop (fun s => ⟨[(0, ⟨.ref 100000 1 0 s.2.2.length, false⟩), (1, ⟨.sc (.int .i64 s.1), false⟩), (5, ⟨.sc (.int .i64 s.2.1), false⟩)], [(100000, some ⟨s.2.2.flatMap encB, true, false⟩)]⟩) (fun d e E => XEnv Γ (.exit 0) ⟨[(1, ⟨.sc (.int .i64 d.1), false⟩)], [(100000, some ⟨d.2.flatMap encB, true, false⟩)]⟩ e E) hd11 ?_ ?_ ?_
  refine Ent.list [] (io0 hio _) rfl ?_ ?_ <;> (repeat' first | exact trivial | (refine And.intro ⟨_, rfl, fun h => (by first | rfl | exact Bool.noConfusion h)⟩ ?_))
  clear H hd11
  rintro ⟨v4, v5, v6⟩ o H
  unfold laws_markBoolS_L1 at H
  (repeat apply CodeT.seq)
  apply CodeT.region (fun _ => PPm)
  apply Run.op; (apply L_mov; rfl; rfl); rfl; rfl
  apply Run.op; (apply L_mov; rfl; rfl); rfl; rfl
  apply Run.op; (apply L_lenR; rfl; rfl; rfl); rfl; rfl
  apply Run.op; (apply L_lss; rfl; rfl; rfl); rfl; rfl
  apply Run.done; refine ⟨fun h => Bool.noConfusion h, ?_⟩
  apply x3
  (repeat apply CodeT.seq)
  refine CodeT.cond rfl (fun h => ?_) (fun h => ?_)
  replace H := ifT (of_decide_eq_true h) H
  (repeat apply CodeT.seq)
  apply CodeT.skip
  apply x3
  (repeat apply CodeT.seq)
  apply CodeT.block
  (repeat apply CodeT.seq)
  apply CodeT.region (fun _ => PPm)
  apply Run.op; (apply L_mov; rfl; rfl); rfl; rfl
  apply Run.op; (apply L_mov; rfl; rfl); rfl; rfl
  apply Run.op; (apply L_mov; rfl; rfl); rfl; rfl
  apply Run.op; (apply L_rem; rfl; rfl; (intro h; cases h); rfl; rfl); rfl; rfl
  apply Run.op; (apply L_eql; rfl; rfl; rfl); rfl; rfl
  obtain ⟨y7, hy7, H⟩ := bindS H
  apply Run.op; (apply L_ixR2; rfl; rfl; rfl; (exact hy7); rfl; rfl); rfl; rfl
  obtain ⟨v8, hv8, H⟩ := bindS H
  have hl9 := setI_lenS hv8
  apply Run.op; (apply L_st; rfl; rfl; rfl; rfl; rfl; (intro h; cases h); (exact row_ble0 (sz := 1) (n := 1) hy7 (fun _ => rfl) (by decide)); (exact row_stL (sz := 1) hv8 hy7 (fun _ => rfl) rfl)); rfl; rfl
  apply Run.done; refine ⟨fun h => Bool.noConfusion h, ?_⟩
  apply x3
  refine CodeT.weak (Ent.relen (k := 0) (n' := v8.length) rfl (by first | (simp only [setI_len]; done) | (simp only [setI_len]; omega) | omega)) ?_
  apply CodeT.region (fun _ => PPm)
  apply Run.op; (apply L_mov; rfl; rfl); rfl; rfl
  apply Run.op; (apply L_add; rfl; rfl; rfl; rfl); rfl; rfl
  apply Run.op; (apply L_asg; rfl; rfl); rfl; rfl
  apply Run.done; refine ⟨fun h => Bool.noConfusion h, ?_⟩
  apply x5
  apply x3
  apply CodeT.region (fun _ => PPm)
  apply Run.op; (apply L_mov; rfl; rfl); rfl; rfl
  apply Run.op; (apply L_add; rfl; rfl; rfl; rfl); rfl; rfl
  apply Run.op; (apply L_asg; rfl; rfl); rfl; rfl
  apply Run.done; refine ⟨fun h => Bool.noConfusion h, ?_⟩
  obtain rfl := Option.some.inj H
  refine Ev.y1 ?_
  refine Ent.list [] (io0 hio _) rfl ?_ ?_ <;> (repeat' first | exact trivial | (refine And.intro ⟨_, rfl, fun h => (by first | rfl | exact Bool.noConfusion h)⟩ ?_))
  replace H := ifF (of_decide_eq_false h) H
  (repeat apply CodeT.seq)
  apply CodeT.exit
  apply x2
  obtain rfl := Option.some.inj H
  refine Ev.y3 ?_
  refine XEnv.mk ?_
  refine Ent.list [] (io0 hio _) rfl ?_ ?_ <;> (repeat' first | exact trivial | (refine And.intro ⟨_, rfl, fun h => (by first | rfl | exact Bool.noConfusion h)⟩ ?_))
  skip
  intro e E' hX; obtain ⟨rfl, g12⟩ := XEnv.out hX
  refine x6 rfl ?_
  apply x3
  refine CodeT.weak g12 ?_
  (repeat apply CodeT.seq)
  apply CodeT.region (fun _ => PPm)
  apply Run.op; (apply L_mov; rfl; rfl); rfl; rfl
  apply Run.op; (apply L_asg; rfl; rfl); rfl; rfl
  apply Run.done; refine ⟨fun h => Bool.noConfusion h, ?_⟩
  apply x3
  apply CodeT.ret
  cases H
  apply z12
  exact RetX.mk (RetIs.sc1 rfl) (xo1 ⟨_, rfl⟩)
theorem m_laws_heldPoseS (a0 : (List Pose)) (a1 : Int) (r : Int) (H : laws_heldPoseS a0 a1 = some r) : Meets Try.prog 29 [.sl a0.length (a0.flatMap encPose), .sc (.int .i64 a1)] (.sc (.int .i64 r)) true := by
  refine Meets.intro2 (N := 40) (rs := #[.tmp 4]) Try.func29 rfl rfl rfl rfl ?_
  intro Γ hio
  unfold laws_heldPoseS at H
  (repeat apply CodeT.seq)
  apply CodeT.region (fun _ => PPm)
  apply Run.op; (apply L_asg; rfl; rfl); rfl; rfl
  apply Run.done; refine ⟨fun h => Bool.noConfusion h, ?_⟩
  apply x3
  (repeat apply CodeT.seq)
  apply CodeT.region (fun _ => PPm)
  apply Run.op; (apply L_asg; rfl; rfl); rfl; rfl
  apply Run.done; refine ⟨fun h => Bool.noConfusion h, ?_⟩
  apply x3
  (repeat apply CodeT.seq)
  apply CodeT.block
  (repeat apply CodeT.seq)
  obtain ⟨d11, hd11, H⟩ := bindS H
  refine CodeT.lloop (fun s => ⟨[(0, ⟨.sl a0.length (a0.flatMap encPose), false⟩), (1, ⟨.sc (.int .i64 s.1), false⟩), (5, ⟨.sc (.int .i64 s.2), false⟩)], []⟩) (fun x e E => match x with | (.inl d) => XEnv Γ (.exit 0) ⟨[(1, ⟨.sc (.int .i64 d), false⟩)], []⟩ e E | (.inr d) => XRet Γ #[.tmp 4] (.sc (.int .i64 d)) true e E) hd11 ?_ ?_ ?_
  refine Ent.list [] (io0 hio _) rfl ?_ ?_ <;> (repeat' first | exact trivial | (refine And.intro ⟨_, rfl, fun h => (by first | rfl | exact Bool.noConfusion h)⟩ ?_))
  clear H hd11
  rintro ⟨v5, v6⟩ o H
  unfold laws_heldPoseS_L1 at H
  (repeat apply CodeT.seq)
  apply CodeT.region (fun _ => PPm)
  apply Run.op; (apply L_mov; rfl; rfl); rfl; rfl
  apply Run.op; (apply L_mov; rfl; rfl); rfl; rfl
  apply Run.op; (apply L_len; rfl; rfl); rfl; rfl
  apply Run.op; (apply L_lss; rfl; rfl; rfl); rfl; rfl
  apply Run.done; refine ⟨fun h => Bool.noConfusion h, ?_⟩
  apply x3
  (repeat apply CodeT.seq)
  refine CodeT.cond rfl (fun h => ?_) (fun h => ?_)
  replace H := ifT (of_decide_eq_true h) H
  (repeat apply CodeT.seq)
  apply CodeT.skip
  apply x3
  (repeat apply CodeT.seq)
  apply CodeT.block
  (repeat apply CodeT.seq)
  apply CodeT.region (fun _ => PPm)
  apply Run.op; (apply L_mov; rfl; rfl); rfl; rfl
  apply Run.op; (apply L_mov; rfl; rfl); rfl; rfl
  obtain ⟨y7, hy7, H⟩ := bindS H
  apply Run.op; (apply L_ixS2; rfl; rfl; rfl; (exact hy7); (intro _; rfl); rfl); rfl; rfl
  apply Run.op; (apply L_fldI; rfl; rfl); rfl; rfl
  apply Run.op; (apply L_ldI; rfl; rfl; rfl; rfl); rfl; rfl
  apply Run.op; (apply L_mov; rfl; rfl); rfl; rfl
  apply Run.op; (apply L_neq; rfl; rfl; rfl); rfl; rfl
  apply Run.done; refine ⟨fun h => Bool.noConfusion h, ?_⟩
  apply x3
  (repeat apply CodeT.seq)
  refine CodeT.cond rfl (fun h => ?_) (fun h => ?_)
  replace H := ifT (of_decide_eq_true h) H
  (repeat apply CodeT.seq)
  apply CodeT.region (fun _ => PPm)
  apply Run.op; (apply L_asg; rfl; rfl); rfl; rfl
  apply Run.done; refine ⟨fun h => Bool.noConfusion h, ?_⟩
  apply x3
  apply CodeT.ret
  apply x1
  apply x4
  apply x1
  obtain rfl := Option.some.inj H
  refine Ev.y2 ?_
  refine XRet.mk ?_
  exact RetIs.sc1 rfl
  replace H := ifF (of_decide_eq_false h) H
  (repeat apply CodeT.seq)
  apply CodeT.skip
  apply x3
  (repeat apply CodeT.seq)
  apply CodeT.region (fun _ => PPm)
  apply Run.op; (apply L_mov; rfl; rfl); rfl; rfl
  apply Run.op; (apply L_add; rfl; rfl; rfl; rfl); rfl; rfl
  apply Run.op; (apply L_asg; rfl; rfl); rfl; rfl
  apply Run.done; refine ⟨fun h => Bool.noConfusion h, ?_⟩
  apply x3
  (repeat apply CodeT.seq)
  apply CodeT.region (fun _ => PPm)
  apply Run.op; (apply L_mov; rfl; rfl); rfl; rfl
  apply Run.op; (apply L_mov; rfl; rfl); rfl; rfl
  obtain ⟨y8, hy8, H⟩ := bindS H
  apply Run.op; (apply L_ixS2; rfl; rfl; rfl; (exact hy8); (intro _; rfl); rfl); rfl; rfl
  apply Run.op; (apply L_fldI; rfl; rfl); rfl; rfl
  apply Run.op; (apply L_ldI; rfl; rfl; rfl; rfl); rfl; rfl
  apply Run.op; (apply L_mov; rfl; rfl); rfl; rfl
  apply Run.op; (apply L_neq; rfl; rfl; rfl); rfl; rfl
  apply Run.done; refine ⟨fun h => Bool.noConfusion h, ?_⟩
  apply x3
  (repeat apply CodeT.seq)
  refine CodeT.cond rfl (fun h => ?_) (fun h => ?_)
  replace H := ifT (of_decide_eq_true h) H
  (repeat apply CodeT.seq)
  apply CodeT.region (fun _ => PPm)
  apply Run.op; (apply L_asg; rfl; rfl); rfl; rfl
  apply Run.done; refine ⟨fun h => Bool.noConfusion h, ?_⟩
  apply x3
  apply CodeT.ret
  apply x1
  apply x4
  apply x1
  obtain rfl := Option.some.inj H
  refine Ev.y2 ?_
  refine XRet.mk ?_
  exact RetIs.sc1 rfl
  replace H := ifF (of_decide_eq_false h) H
  (repeat apply CodeT.seq)
  apply CodeT.skip
  apply x3
  (repeat apply CodeT.seq)
  apply CodeT.region (fun _ => PPm)
  apply Run.op; (apply L_mov; rfl; rfl); rfl; rfl
  obtain ⟨v9, hv9, H⟩ := bindS H
  apply Run.op; (apply L_add; rfl; rfl; (exact letS hv9); rfl); rfl; rfl
  apply Run.op; (apply L_asg; rfl; rfl); rfl; rfl
  apply Run.done; refine ⟨fun h => Bool.noConfusion h, ?_⟩
  apply x3
  (repeat apply CodeT.seq)
  apply CodeT.region (fun _ => PPm)
  apply Run.op; (apply L_mov; rfl; rfl); rfl; rfl
  apply Run.op; (apply L_mov; rfl; rfl); rfl; rfl
  obtain ⟨y10, hy10, H⟩ := bindS H
  apply Run.op; (apply L_ixS2; rfl; rfl; rfl; (exact hy10); (intro _; rfl); rfl); rfl; rfl
  apply Run.op; (apply L_fldI; rfl; rfl); rfl; rfl
  apply Run.op; (apply L_ldI; rfl; rfl; rfl; rfl); rfl; rfl
  apply Run.op; (apply L_mov; rfl; rfl); rfl; rfl
  apply Run.op; (apply L_neq; rfl; rfl; rfl); rfl; rfl
  apply Run.done; refine ⟨fun h => Bool.noConfusion h, ?_⟩
  apply x3
  (repeat apply CodeT.seq)
  refine CodeT.cond rfl (fun h => ?_) (fun h => ?_)
  replace H := ifT (of_decide_eq_true h) H
  (repeat apply CodeT.seq)
  apply CodeT.region (fun _ => PPm)
  apply Run.op; (apply L_asg; rfl; rfl); rfl; rfl
  apply Run.done; refine ⟨fun h => Bool.noConfusion h, ?_⟩
  apply x3
  apply CodeT.ret
  apply x1
  apply x4
  apply x1
  obtain rfl := Option.some.inj H
  refine Ev.y2 ?_
  refine XRet.mk ?_
  exact RetIs.sc1 rfl
  replace H := ifF (of_decide_eq_false h) H
  (repeat apply CodeT.seq)
  apply CodeT.skip
  apply x3
  apply CodeT.region (fun _ => PPm)
  apply Run.op; (apply L_mov; rfl; rfl); rfl; rfl
  apply Run.op; (apply L_add; rfl; rfl; rfl; rfl); rfl; rfl
  apply Run.op; (apply L_asg; rfl; rfl); rfl; rfl
  apply Run.done; refine ⟨fun h => Bool.noConfusion h, ?_⟩
  apply x5
  apply x3
  apply CodeT.region (fun _ => PPm)
  apply Run.op; (apply L_mov; rfl; rfl); rfl; rfl
  apply Run.op; (apply L_add; rfl; rfl; rfl; rfl); rfl; rfl
  apply Run.op; (apply L_asg; rfl; rfl); rfl; rfl
  apply Run.done; refine ⟨fun h => Bool.noConfusion h, ?_⟩
  obtain rfl := Option.some.inj H
  refine Ev.y1 ?_
  refine Ent.list [] (io0 hio _) rfl ?_ ?_ <;> (repeat' first | exact trivial | (refine And.intro ⟨_, rfl, fun h => (by first | rfl | exact Bool.noConfusion h)⟩ ?_))
  replace H := ifF (of_decide_eq_false h) H
  (repeat apply CodeT.seq)
  apply CodeT.exit
  apply x2
  obtain rfl := Option.some.inj H
  refine Ev.y3 ?_
  refine XEnv.mk ?_
  refine Ent.list [] (io0 hio _) rfl ?_ ?_ <;> (repeat' first | exact trivial | (refine And.intro ⟨_, rfl, fun h => (by first | rfl | exact Bool.noConfusion h)⟩ ?_))
  rcases d11 with (d12 | d14)
  intro e E' hX; obtain ⟨rfl, g13⟩ := XEnv.out hX
  refine x6 rfl ?_
  apply x3
  refine CodeT.weak g13 ?_
  (repeat apply CodeT.seq)
  apply CodeT.region (fun _ => PPm)
  apply Run.op; (apply L_mov; rfl; rfl); rfl; rfl
  apply Run.op; (apply L_asg; rfl; rfl); rfl; rfl
  apply Run.done; refine ⟨fun h => Bool.noConfusion h, ?_⟩
  apply x3
  apply CodeT.ret
  cases H
  apply x12
  exact RetIs.sc1 rfl
  intro e E' hX; obtain ⟨rfl, g15⟩ := XRet.out hX
  apply x4
  apply x1
  cases H
  apply x12
  exact g15
theorem m_laws_heldBoolS (a0 : (List Bool)) (a1 : Int) (r : Int) (H : laws_heldBoolS a0 a1 = some r) : Meets Try.prog 30 [.sl a0.length (a0.flatMap encB), .sc (.int .i64 a1)] (.sc (.int .i64 r)) true := by
  refine Meets.intro2 (N := 23) (rs := #[.tmp 4]) Try.func30 rfl rfl rfl rfl ?_
  intro Γ hio
  unfold laws_heldBoolS at H
  (repeat apply CodeT.seq)
  apply CodeT.region (fun _ => PPm)
  apply Run.op; (apply L_asg; rfl; rfl); rfl; rfl
  apply Run.done; refine ⟨fun h => Bool.noConfusion h, ?_⟩
  apply x3
  (repeat apply CodeT.seq)
  apply CodeT.region (fun _ => PPm)
  apply Run.op; (apply L_asg; rfl; rfl); rfl; rfl
  apply Run.done; refine ⟨fun h => Bool.noConfusion h, ?_⟩
  apply x3
  (repeat apply CodeT.seq)
  apply CodeT.block
  (repeat apply CodeT.seq)
  obtain ⟨d5, hd5, H⟩ := bindS H
  refine CodeT.lloop (fun s => ⟨[(0, ⟨.sl a0.length (a0.flatMap encB), false⟩), (1, ⟨.sc (.int .i64 s.1), false⟩), (5, ⟨.sc (.int .i64 s.2), false⟩)], []⟩) (fun x e E => match x with | (.inl d) => XEnv Γ (.exit 0) ⟨[(1, ⟨.sc (.int .i64 d), false⟩)], []⟩ e E | (.inr d) => XRet Γ #[.tmp 4] (.sc (.int .i64 d)) true e E) hd5 ?_ ?_ ?_
  refine Ent.list [] (io0 hio _) rfl ?_ ?_ <;> (repeat' first | exact trivial | (refine And.intro ⟨_, rfl, fun h => (by first | rfl | exact Bool.noConfusion h)⟩ ?_))
  clear H hd5
  rintro ⟨v2, v3⟩ o H
  unfold laws_heldBoolS_L1 at H
  (repeat apply CodeT.seq)
  apply CodeT.region (fun _ => PPm)
  apply Run.op; (apply L_mov; rfl; rfl); rfl; rfl
  apply Run.op; (apply L_mov; rfl; rfl); rfl; rfl
  apply Run.op; (apply L_len; rfl; rfl); rfl; rfl
  apply Run.op; (apply L_lss; rfl; rfl; rfl); rfl; rfl
  apply Run.done; refine ⟨fun h => Bool.noConfusion h, ?_⟩
  apply x3
  (repeat apply CodeT.seq)
  refine CodeT.cond rfl (fun h => ?_) (fun h => ?_)
  replace H := ifT (of_decide_eq_true h) H
  (repeat apply CodeT.seq)
  apply CodeT.skip
  apply x3
  (repeat apply CodeT.seq)
  apply CodeT.block
  (repeat apply CodeT.seq)
  apply CodeT.region (fun _ => PPm)
  apply Run.op; (apply L_mov; rfl; rfl); rfl; rfl
  apply Run.op; (apply L_mov; rfl; rfl); rfl; rfl
  obtain ⟨y4, hy4, H⟩ := bindS H
  apply Run.op; (apply L_ixS2; rfl; rfl; rfl; (exact hy4); (intro _; rfl); rfl); rfl; rfl
  apply Run.op; (apply L_ldI; rfl; rfl; rfl; rfl); rfl; rfl
  apply Run.op; (apply L_mov; rfl; rfl); rfl; rfl
  apply Run.op; (apply L_rem; rfl; rfl; (intro h; cases h); rfl; rfl); rfl; rfl
  apply Run.op; (apply L_eql; rfl; rfl; rfl); rfl; rfl
  apply Run.op; (apply L_bneq; rfl; rfl; rfl); rfl; rfl
  apply Run.done; refine ⟨fun h => Bool.noConfusion h, ?_⟩
  apply x3
  (repeat apply CodeT.seq)
  refine CodeT.cond rfl (fun h => ?_) (fun h => ?_)
  replace H := ifFb (notT h) H
  (repeat apply CodeT.seq)
  apply CodeT.region (fun _ => PPm)
  apply Run.op; (apply L_asg; rfl; rfl); rfl; rfl
  apply Run.done; refine ⟨fun h => Bool.noConfusion h, ?_⟩
  apply x3
  apply CodeT.ret
  apply x1
  apply x4
  apply x1
  obtain rfl := Option.some.inj H
  refine Ev.y2 ?_
  refine XRet.mk ?_
  exact RetIs.sc1 rfl
  replace H := ifTb (notF h) H
  (repeat apply CodeT.seq)
  apply CodeT.skip
  apply x3
  apply CodeT.region (fun _ => PPm)
  apply Run.op; (apply L_mov; rfl; rfl); rfl; rfl
  apply Run.op; (apply L_add; rfl; rfl; rfl; rfl); rfl; rfl
  apply Run.op; (apply L_asg; rfl; rfl); rfl; rfl
  apply Run.done; refine ⟨fun h => Bool.noConfusion h, ?_⟩
  apply x5
  apply x3
  apply CodeT.region (fun _ => PPm)
  apply Run.op; (apply L_mov; rfl; rfl); rfl; rfl
  apply Run.op; (apply L_add; rfl; rfl; rfl; rfl); rfl; rfl
  apply Run.op; (apply L_asg; rfl; rfl); rfl; rfl
  apply Run.done; refine ⟨fun h => Bool.noConfusion h, ?_⟩
  obtain rfl := Option.some.inj H
  refine Ev.y1 ?_
  refine Ent.list [] (io0 hio _) rfl ?_ ?_ <;> (repeat' first | exact trivial | (refine And.intro ⟨_, rfl, fun h => (by first | rfl | exact Bool.noConfusion h)⟩ ?_))
  replace H := ifF (of_decide_eq_false h) H
  (repeat apply CodeT.seq)
  apply CodeT.exit
  apply x2
  obtain rfl := Option.some.inj H
  refine Ev.y3 ?_
  refine XEnv.mk ?_
  refine Ent.list [] (io0 hio _) rfl ?_ ?_ <;> (repeat' first | exact trivial | (refine And.intro ⟨_, rfl, fun h => (by first | rfl | exact Bool.noConfusion h)⟩ ?_))
  rcases d5 with (d6 | d8)
  intro e E' hX; obtain ⟨rfl, g7⟩ := XEnv.out hX
  refine x6 rfl ?_
  apply x3
  refine CodeT.weak g7 ?_
  (repeat apply CodeT.seq)
  apply CodeT.region (fun _ => PPm)
  apply Run.op; (apply L_mov; rfl; rfl); rfl; rfl
  apply Run.op; (apply L_asg; rfl; rfl); rfl; rfl
  apply Run.done; refine ⟨fun h => Bool.noConfusion h, ?_⟩
  apply x3
  apply CodeT.ret
  cases H
  apply x12
  exact RetIs.sc1 rfl
  intro e E' hX; obtain ⟨rfl, g9⟩ := XRet.out hX
  apply x4
  apply x1
  cases H
  apply x12
  exact g9
theorem m_laws_FnExactDeadReckoning (a0 : (List Factor)) (r : Bool) (H : laws_FnExactDeadReckoning a0 = some r) : Meets Try.prog 4 [.sl a0.length (a0.flatMap encFactor)] (.sc (.bool r)) true := by
  refine Meets.intro2 (N := 112) (rs := #[.tmp 2]) Try.func4 rfl rfl rfl rfl ?_
  intro Γ hio
  unfold laws_FnExactDeadReckoning at H
  (repeat apply CodeT.seq)
  apply CodeT.region (fun _ => PPm)
  apply Run.op; (apply L_asg; rfl; rfl); rfl; rfl
  apply Run.done; refine ⟨fun h => Bool.noConfusion h, ?_⟩
  apply x3
  (repeat apply CodeT.seq)
  apply CodeT.region (fun _ => PPm)
  apply Run.op; (apply L_asg; rfl; rfl); rfl; rfl
  apply Run.done; refine ⟨fun h => Bool.noConfusion h, ?_⟩
  apply x3
  (repeat apply CodeT.seq)
  apply CodeT.region (fun _ => PPm)
  apply Run.op; (apply L_mov; rfl; rfl); rfl; rfl
  apply Run.op; (apply L_mov; rfl; rfl); rfl; rfl
  obtain ⟨r1, hr1, H⟩ := bindS H
  apply Run.op; (apply L_call; ((apply ArgsV.cons; (apply ArgV.val; rfl; rfl)); (apply ArgsV.cons; (apply ArgV.val; rfl; rfl)); (apply ArgsV.nil)); (exact m_laws_szFactorS a0 1048576 _ hr1); rfl; rfl; rfl); rfl; rfl
  apply Run.op; (apply L_asg; rfl; rfl); rfl; rfl
  apply Run.done; refine ⟨fun h => Bool.noConfusion h, ?_⟩
  apply x3
  (repeat apply CodeT.seq)
  apply CodeT.region (fun _ => PPm)
  apply Run.op; (apply L_mov; rfl; rfl); rfl; rfl
  apply Run.op; (apply L_lss; rfl; rfl; rfl); rfl; rfl
  apply Run.done; refine ⟨fun h => Bool.noConfusion h, ?_⟩
  apply x3
  (repeat apply CodeT.seq)
  refine CodeT.cond rfl (fun h => ?_) (fun h => ?_)
  replace H := ifT (of_decide_eq_true h) H
  (repeat apply CodeT.seq)
  apply CodeT.region (fun _ => PPm)
  apply Run.op; (apply L_asg; rfl; rfl); rfl; rfl
  apply Run.done; refine ⟨fun h => Bool.noConfusion h, ?_⟩
  apply x3
  apply CodeT.ret
  apply x1
  cases H
  apply x12
  exact RetIs.sc1 rfl
  replace H := ifF (of_decide_eq_false h) H
  (repeat apply CodeT.seq)
  apply CodeT.skip
  apply x3
  (repeat apply CodeT.seq)
  apply CodeT.region (fun _ => PPm)
  apply Run.op; (apply L_mov; rfl; rfl); rfl; rfl
  obtain ⟨r2, hr2, H⟩ := bindS H
  apply Run.op; (apply L_callW; ((apply ArgsV.cons; (apply ArgV.val; rfl; rfl)); (apply ArgsV.nil)); (exact m_laws_toFactorS a0 _ hr2); (exact io1 hio _); rfl); rfl; rfl
  obtain ⟨r3, hr3, H⟩ := bindS H
  apply Run.op; (apply L_callT 1220; ((apply ArgsV.cons; (apply ArgV.ref; rfl; rfl; (exact Nat.le_of_eq (flat_len (fun _ => rfl))))); (apply ArgsV.nil)); (exact m_spec_DeadReckoning r2 _ hr3); rfl; rfl; rfl; (exact ⟨io1 hio _, io1 hio _, trivial⟩); rfl); rfl; rfl
  apply Run.op; (apply L_mov; rfl; rfl); rfl; rfl
  apply Run.op; (apply L_extR; rfl; rfl; rfl); rfl; rfl
  apply Run.op; (apply L_extR; rfl; rfl; rfl); rfl; rfl
  apply Run.op; (apply L_asg; rfl; rfl); rfl; rfl
  apply Run.op; (apply L_asg; rfl; rfl); rfl; rfl
  apply Run.done; refine ⟨fun h => Bool.noConfusion h, ?_⟩
  apply x3
  (repeat apply CodeT.seq)
  apply CodeT.region (fun _ => PPm)
  apply Run.op; (apply L_mov; rfl; rfl); rfl; rfl
  obtain ⟨r4, hr4, H⟩ := bindS H
  apply Run.op; (apply L_callW; ((apply ArgsV.cons; (apply ArgV.val; rfl; rfl)); (apply ArgsV.nil)); (exact m_laws_toFactorS a0 _ hr4); (exact io1 hio _); rfl); rfl; rfl
  apply Run.op; (apply L_asg; rfl; rfl); rfl; rfl
  apply Run.done; refine ⟨fun h => Bool.noConfusion h, ?_⟩
  apply x3
  (repeat apply CodeT.seq)
  apply CodeT.region (fun _ => PPm)
  apply Run.op; (apply L_mov; rfl; rfl); rfl; rfl
  obtain ⟨r5, hr5, H⟩ := bindS H
  apply Run.op; (apply L_callT 1290; ((apply ArgsV.cons; (apply ArgV.ref; rfl; rfl; (exact Nat.le_of_eq (flat_len (fun _ => rfl))))); (apply ArgsV.nil)); (exact m_impl_DeadReckoning r4 _ hr5); rfl; rfl; rfl; (exact ⟨io1 hio _, io1 hio _, trivial⟩); rfl); rfl; rfl
  apply Run.op; (apply L_mov; rfl; rfl); rfl; rfl
  apply Run.op; (apply L_extR; rfl; rfl; rfl); rfl; rfl
  apply Run.op; (apply L_extR; rfl; rfl; rfl); rfl; rfl
  apply Run.op; (apply L_asg; rfl; rfl); rfl; rfl
  apply Run.op; (apply L_asg; rfl; rfl); rfl; rfl
  apply Run.done; refine ⟨fun h => Bool.noConfusion h, ?_⟩
  apply x3
  (repeat apply CodeT.seq)
  obtain ⟨d9, hd9, H⟩ := bindS H
  refine CodeT.lcut (x := d9) (fun d e E => XEnv Γ .normal ⟨[(0, ⟨.sl a0.length (a0.flatMap encFactor), false⟩), (4, ⟨.ref 504 3 0 r3.1.length, false⟩), (5, ⟨.ref 505 1 0 r3.2.length, false⟩), (6, ⟨.ref 506 8 0 r4.length, false⟩), (7, ⟨.ref 507 3 0 r5.1.length, false⟩), (8, ⟨.ref 508 1 0 r5.2.length, false⟩), (41, ⟨.sc (.bool d), false⟩)], [(504, some ⟨r3.1.flatMap encPose, true, false⟩), (505, some ⟨r3.2.flatMap encB, true, false⟩), (506, some ⟨r4.flatMap encFactor, true, false⟩), (507, some ⟨r5.1.flatMap encPose, true, false⟩), (508, some ⟨r5.2.flatMap encB, true, false⟩)]⟩ e E) ?_ ?_
  clear H; have H := hd9; clear hd9
  apply CodeT.region (fun _ => PPm)
  apply Run.op; (apply L_mov; rfl; rfl); rfl; rfl
  apply Run.op; (apply L_mov; rfl; rfl); rfl; rfl
  obtain ⟨r6, hr6, H⟩ := bindS H
  apply R_bool; (apply L_call; ((apply ArgsV.cons; (apply ArgV.ref; rfl; rfl; (exact Nat.le_of_eq (flat_len (fun _ => rfl))))); (apply ArgsV.cons; (apply ArgV.ref; rfl; rfl; (exact Nat.le_of_eq (flat_len (fun _ => rfl))))); (apply ArgsV.nil)); (exact m_laws_eqPoseS r5.1 r3.1 _ hr6); rfl; rfl; rfl); rfl
  intro h; replace H := ifTb h H
  apply Run.op; (apply L_not; rfl; rfl); rfl; rfl
  apply Run.op; (apply L_mov; rfl; rfl); rfl; rfl
  apply Run.op; (apply L_mov; rfl; rfl); rfl; rfl
  apply Run.op; (apply L_mov; rfl; rfl); rfl; rfl
  obtain ⟨r7, hr7, H⟩ := bindS H
  apply Run.op; (apply L_call; ((apply ArgsV.cons; (apply ArgV.ref; rfl; rfl; (exact Nat.le_of_eq (flat_len (fun _ => rfl))))); (apply ArgsV.cons; (apply ArgV.ref; rfl; rfl; (exact Nat.le_of_eq (flat_len (fun _ => rfl))))); (apply ArgsV.nil)); (exact m_laws_eqBoolS r5.2 r3.2 _ hr7); rfl; rfl; rfl); rfl; rfl
  apply Run.op; (apply L_not; rfl; rfl); rfl; rfl
  apply Run.op; (apply L_pickF; rfl; rfl; rfl); rfl; rfl
  apply Run.done; refine ⟨fun h => Bool.noConfusion h, ?_⟩
  obtain rfl := Option.some.inj H
  refine Ev.y4 ?_
  refine XEnv.mk ?_
  refine Ent.list [(504, 1220), (505, 1221), (506, 26), (507, 1290), (508, 1291)] (io0 hio _) rfl ?_ ?_ <;> (repeat' first | exact trivial | (refine And.intro ⟨_, rfl, fun h => (by first | rfl | exact Bool.noConfusion h)⟩ ?_))
  intro h; replace H := ifFb h H
  apply Run.op; (apply L_not; rfl; rfl); rfl; rfl
  apply Run.op; (apply L_mov; rfl; rfl); rfl; rfl
  apply Run.skip; rfl
  apply Run.skip; rfl
  apply Run.skip; rfl
  apply Run.skip; rfl
  apply Run.op; (apply L_pickT; rfl; rfl; rfl); rfl; rfl
  apply Run.done; refine ⟨fun h => Bool.noConfusion h, ?_⟩
  obtain rfl := Option.some.inj H
  refine Ev.y4 ?_
  refine XEnv.mk ?_
  refine Ent.list [(504, 1220), (505, 1221), (506, 26), (507, 1290), (508, 1291)] (io0 hio _) rfl ?_ ?_ <;> (repeat' first | exact trivial | (refine And.intro ⟨_, rfl, fun h => (by first | rfl | exact Bool.noConfusion h)⟩ ?_))
  intro e E' hX; obtain ⟨rfl, g10⟩ := XEnv.out hX
  apply x3
  refine CodeT.weak g10 ?_
  (repeat apply CodeT.seq)
  refine CodeT.cond rfl (fun h => ?_) (fun h => ?_)
  replace H := ifTb h H
  (repeat apply CodeT.seq)
  apply CodeT.region (fun _ => PPm)
  apply Run.op; (apply L_asg; rfl; rfl); rfl; rfl
  apply Run.done; refine ⟨fun h => Bool.noConfusion h, ?_⟩
  apply x3
  apply CodeT.ret
  apply x1
  cases H
  apply x12
  exact RetIs.sc1 rfl
  replace H := ifFb h H
  (repeat apply CodeT.seq)
  apply CodeT.skip
  apply x3
  (repeat apply CodeT.seq)
  apply CodeT.region (fun _ => PPm)
  apply Run.op; (apply L_mov; rfl; rfl); rfl; rfl
  apply Run.op; (apply L_mov; rfl; rfl); rfl; rfl
  obtain ⟨r11, hr11, H⟩ := bindS H
  apply Run.op; (apply L_callW; ((apply ArgsV.cons; (apply ArgV.val; rfl; rfl)); (apply ArgsV.nil)); (exact m_laws_toFactorS a0 _ hr11); (exact io1 hio _); rfl); rfl; rfl
  obtain ⟨r12, hr12, H⟩ := bindS H
  apply Run.op; (apply L_call; ((apply ArgsV.cons; (apply ArgV.ref; rfl; rfl; (exact Nat.le_of_eq (flat_len (fun _ => rfl))))); (apply ArgsV.cons; (apply ArgV.ref; rfl; rfl; (exact Nat.le_of_eq (flat_len (fun _ => rfl))))); (apply ArgsV.nil)); (exact m_laws_eqFactorS r4 r11 _ hr12); rfl; rfl; rfl); rfl; rfl
  apply Run.op; (apply L_not; rfl; rfl); rfl; rfl
  apply Run.done; refine ⟨fun h => Bool.noConfusion h, ?_⟩
  apply x3
  (repeat apply CodeT.seq)
  refine CodeT.cond rfl (fun h => ?_) (fun h => ?_)
  replace H := ifFb (notT h) H
  (repeat apply CodeT.seq)
  apply CodeT.region (fun _ => PPm)
  apply Run.op; (apply L_asg; rfl; rfl); rfl; rfl
  apply Run.done; refine ⟨fun h => Bool.noConfusion h, ?_⟩
  apply x3
  apply CodeT.ret
  apply x1
  cases H
  apply x12
  exact RetIs.sc1 rfl
  replace H := ifTb (notF h) H
  (repeat apply CodeT.seq)
  apply CodeT.skip
  apply x3
  (repeat apply CodeT.seq)
  apply CodeT.region (fun _ => PPm)
  apply Run.op; (apply L_asg; rfl; rfl); rfl; rfl
  apply Run.done; refine ⟨fun h => Bool.noConfusion h, ?_⟩
  apply x3
  (repeat apply CodeT.seq)
  apply CodeT.region (fun _ => PPm)
  apply Run.op; (apply L_mov; rfl; rfl); rfl; rfl
  apply Run.op; (apply L_mov; rfl; rfl); rfl; rfl
  obtain ⟨r13, hr13, H⟩ := bindS H
  have hl14 := len_laws_markFactorS r4 1 _ hr13
  apply Run.op; (apply L_callX [(100000, 506)]; ((apply ArgsX.cons; (apply ArgX.io (p := .ref 100000 8 0 r4.length); rfl)); (apply ArgsX.cons; (apply ArgX.val; (apply ArgV.val; rfl; rfl); rfl)); (apply ArgsX.nil)); (exact m_laws_markFactorS r4 1 _ hr13); ((apply ObsX.cons; rfl; (exact allSc_flat (fun _ => rfl))); (apply ObsX.nil)); rfl; rfl; rfl; rfl; rfl); rfl; rfl
  apply Run.op; (apply L_asg; rfl; rfl); rfl; rfl
  apply Run.done; refine ⟨fun h => Bool.noConfusion h, ?_⟩
  apply x3
  (repeat apply CodeT.seq)
  obtain ⟨d18, hd18, H⟩ := bindS H
  refine CodeT.lcut (x := d18) (fun d e E => XEnv Γ .normal ⟨[(0, ⟨.sl a0.length (a0.flatMap encFactor), false⟩), (4, ⟨.ref 504 3 0 r3.1.length, false⟩), (5, ⟨.ref 505 1 0 r3.2.length, false⟩), (7, ⟨.ref 507 3 0 r5.1.length, false⟩), (8, ⟨.ref 508 1 0 r5.2.length, false⟩), (63, ⟨.sc (.bool d), false⟩)], [(504, some ⟨r3.1.flatMap encPose, true, false⟩), (505, some ⟨r3.2.flatMap encB, true, false⟩), (507, some ⟨r5.1.flatMap encPose, true, false⟩), (508, some ⟨r5.2.flatMap encB, true, false⟩)]⟩ e E) ?_ ?_
  clear H; have H := hd18; clear hd18
  apply CodeT.region (fun _ => PPm)
  apply Run.op; (apply L_mov; rfl; rfl); rfl; rfl
  apply R_dec; (apply L_lss; rfl; rfl; rfl); rfl
  intro h; replace H := ifT h H
  apply Run.op; (apply L_mov; rfl; rfl); rfl; rfl
  apply Run.skip; rfl
  apply Run.skip; rfl
  apply Run.skip; rfl
  apply Run.skip; rfl
  apply Run.op; (apply L_pickT; rfl; rfl; rfl); rfl; rfl
  apply Run.op; (apply L_mov; rfl; rfl); rfl; rfl
  apply Run.skip; rfl
  apply Run.skip; rfl
  apply Run.skip; rfl
  apply Run.skip; rfl
  apply Run.op; (apply L_pickT; rfl; rfl; rfl); rfl; rfl
  apply Run.done; refine ⟨fun h => Bool.noConfusion h, ?_⟩
  obtain rfl := Option.some.inj H
  refine Ev.y4 ?_
  refine XEnv.mk ?_
  refine Ent.list [] (io0 hio _) rfl ?_ ?_ <;> (repeat' first | exact trivial | (refine And.intro ⟨_, rfl, fun h => (by first | rfl | exact Bool.noConfusion h)⟩ ?_))
  intro h; replace H := ifF h H
  apply Run.op; (apply L_mov; rfl; rfl); rfl; rfl
  apply Run.op; (apply L_mov; rfl; rfl); rfl; rfl
  apply Run.op; (apply L_mov; rfl; rfl); rfl; rfl
  obtain ⟨r15, hr15, H⟩ := bindS H
  apply R_bool; (apply L_call; ((apply ArgsV.cons; (apply ArgV.ref; rfl; rfl; (exact Nat.le_of_eq (flat_len (fun _ => rfl))))); (apply ArgsV.cons; (apply ArgV.ref; rfl; rfl; (exact Nat.le_of_eq (flat_len (fun _ => rfl))))); (apply ArgsV.nil)); (exact m_laws_eqPoseS r5.1 r3.1 _ hr15); rfl; rfl; rfl); rfl
  intro h; replace H := ifTb h H
  apply Run.op; (apply L_not; rfl; rfl); rfl; rfl
  apply Run.op; (apply L_pickF; rfl; rfl; rfl); rfl; rfl
  apply Run.op; (apply L_mov; rfl; rfl); rfl; rfl
  apply Run.op; (apply L_mov; rfl; rfl); rfl; rfl
  apply Run.op; (apply L_mov; rfl; rfl); rfl; rfl
  obtain ⟨r16, hr16, H⟩ := bindS H
  apply Run.op; (apply L_call; ((apply ArgsV.cons; (apply ArgV.ref; rfl; rfl; (exact Nat.le_of_eq (flat_len (fun _ => rfl))))); (apply ArgsV.cons; (apply ArgV.ref; rfl; rfl; (exact Nat.le_of_eq (flat_len (fun _ => rfl))))); (apply ArgsV.nil)); (exact m_laws_eqBoolS r5.2 r3.2 _ hr16); rfl; rfl; rfl); rfl; rfl
  apply Run.op; (apply L_not; rfl; rfl); rfl; rfl
  apply Run.op; (apply L_pickF; rfl; rfl; rfl); rfl; rfl
  apply Run.done; refine ⟨fun h => Bool.noConfusion h, ?_⟩
  obtain rfl := Option.some.inj H
  refine Ev.y4 ?_
  refine XEnv.mk ?_
  refine Ent.list [] (io0 hio _) rfl ?_ ?_ <;> (repeat' first | exact trivial | (refine And.intro ⟨_, rfl, fun h => (by first | rfl | exact Bool.noConfusion h)⟩ ?_))
  intro h; replace H := ifFb h H
  apply Run.op; (apply L_not; rfl; rfl); rfl; rfl
  apply Run.op; (apply L_pickF; rfl; rfl; rfl); rfl; rfl
  apply Run.op; (apply L_mov; rfl; rfl); rfl; rfl
  apply Run.skip; rfl
  apply Run.skip; rfl
  apply Run.skip; rfl
  apply Run.skip; rfl
  apply Run.op; (apply L_pickT; rfl; rfl; rfl); rfl; rfl
  apply Run.done; refine ⟨fun h => Bool.noConfusion h, ?_⟩
  obtain rfl := Option.some.inj H
  refine Ev.y4 ?_
  refine XEnv.mk ?_
  refine Ent.list [] (io0 hio _) rfl ?_ ?_ <;> (repeat' first | exact trivial | (refine And.intro ⟨_, rfl, fun h => (by first | rfl | exact Bool.noConfusion h)⟩ ?_))
  intro e E' hX; obtain ⟨rfl, g19⟩ := XEnv.out hX
  apply x3
  refine CodeT.weak g19 ?_
  (repeat apply CodeT.seq)
  refine CodeT.cond rfl (fun h => ?_) (fun h => ?_)
  replace H := ifTb h H
  (repeat apply CodeT.seq)
  apply CodeT.region (fun _ => PPm)
  apply Run.op; (apply L_asg; rfl; rfl); rfl; rfl
  apply Run.done; refine ⟨fun h => Bool.noConfusion h, ?_⟩
  apply x3
  apply CodeT.ret
  apply x1
  cases H
  apply x12
  exact RetIs.sc1 rfl
  replace H := ifFb h H
  (repeat apply CodeT.seq)
  apply CodeT.skip
  apply x3
  (repeat apply CodeT.seq)
  apply CodeT.region (fun _ => PPm)
  apply Run.op; (apply L_asg; rfl; rfl); rfl; rfl
  apply Run.done; refine ⟨fun h => Bool.noConfusion h, ?_⟩
  apply x3
  (repeat apply CodeT.seq)
  apply CodeT.region (fun _ => PPm)
  apply Run.op; (apply L_mov; rfl; rfl); rfl; rfl
  apply Run.op; (apply L_mov; rfl; rfl); rfl; rfl
  obtain ⟨r20, hr20, H⟩ := bindS H
  have hl21 := len_laws_markPoseS r5.1 1 _ hr20
  apply Run.op; (apply L_callX [(100000, 507)]; ((apply ArgsX.cons; (apply ArgX.io (p := .ref 100000 3 0 r5.1.length); rfl)); (apply ArgsX.cons; (apply ArgX.val; (apply ArgV.val; rfl; rfl); rfl)); (apply ArgsX.nil)); (exact m_laws_markPoseS r5.1 1 _ hr20); ((apply ObsX.cons; rfl; (exact allSc_flat (fun _ => rfl))); (apply ObsX.nil)); rfl; rfl; rfl; rfl; rfl); rfl; rfl
  apply Run.op; (apply L_asg; rfl; rfl); rfl; rfl
  apply Run.done; refine ⟨fun h => Bool.noConfusion h, ?_⟩
  apply x3
  (repeat apply CodeT.seq)
  refine CodeT.weak (Ent.relen (k := 7) (n' := r20.2.length) rfl (by first | (simp only [setI_len]; done) | (simp only [setI_len]; omega) | omega)) ?_
  apply CodeT.region (fun _ => PPm)
  apply Run.op; (apply L_mov; rfl; rfl); rfl; rfl
  apply Run.op; (apply L_mov; rfl; rfl); rfl; rfl
  obtain ⟨r22, hr22, H⟩ := bindS H
  have hl23 := len_laws_markBoolS r5.2 r20.1 _ hr22
  apply Run.op; (apply L_callX [(100000, 508)]; ((apply ArgsX.cons; (apply ArgX.io (p := .ref 100000 1 0 r5.2.length); rfl)); (apply ArgsX.cons; (apply ArgX.val; (apply ArgV.val; rfl; rfl); rfl)); (apply ArgsX.nil)); (exact m_laws_markBoolS r5.2 r20.1 _ hr22); ((apply ObsX.cons; rfl; (exact allSc_flat (fun _ => rfl))); (apply ObsX.nil)); rfl; rfl; rfl; rfl; rfl); rfl; rfl
  apply Run.op; (apply L_asg; rfl; rfl); rfl; rfl
  apply Run.done; refine ⟨fun h => Bool.noConfusion h, ?_⟩
  apply x3
  (repeat apply CodeT.seq)
  refine CodeT.weak (Ent.relen (k := 8) (n' := r22.2.length) rfl (by first | (simp only [setI_len]; done) | (simp only [setI_len]; omega) | omega)) ?_
  apply CodeT.region (fun _ => PPm)
  apply Run.op; (apply L_asg; rfl; rfl); rfl; rfl
  apply Run.done; refine ⟨fun h => Bool.noConfusion h, ?_⟩
  apply x3
  (repeat apply CodeT.seq)
  apply CodeT.region (fun _ => PPm)
  apply Run.op; (apply L_mov; rfl; rfl); rfl; rfl
  apply Run.op; (apply L_mov; rfl; rfl); rfl; rfl
  obtain ⟨r24, hr24, H⟩ := bindS H
  apply Run.op; (apply L_call; ((apply ArgsV.cons; (apply ArgV.ref; rfl; rfl; (exact Nat.le_of_eq (flat_len (fun _ => rfl))))); (apply ArgsV.cons; (apply ArgV.val; rfl; rfl)); (apply ArgsV.nil)); (exact m_laws_heldPoseS r20.2 1 _ hr24); rfl; rfl; rfl); rfl; rfl
  apply Run.op; (apply L_asg; rfl; rfl); rfl; rfl
  apply Run.done; refine ⟨fun h => Bool.noConfusion h, ?_⟩
  apply x3
  (repeat apply CodeT.seq)
  apply CodeT.region (fun _ => PPm)
  apply Run.op; (apply L_mov; rfl; rfl); rfl; rfl
  apply Run.op; (apply L_lss; rfl; rfl; rfl); rfl; rfl
  apply Run.done; refine ⟨fun h => Bool.noConfusion h, ?_⟩
  apply x3
  (repeat apply CodeT.seq)
  refine CodeT.cond rfl (fun h => ?_) (fun h => ?_)
  replace H := ifT (of_decide_eq_true h) H
  (repeat apply CodeT.seq)
  apply CodeT.region (fun _ => PPm)
  apply Run.op; (apply L_asg; rfl; rfl); rfl; rfl
  apply Run.done; refine ⟨fun h => Bool.noConfusion h, ?_⟩
  apply x3
  apply CodeT.ret
  apply x1
  cases H
  apply x12
  exact RetIs.sc1 rfl
  replace H := ifF (of_decide_eq_false h) H
  (repeat apply CodeT.seq)
  apply CodeT.skip
  apply x3
  (repeat apply CodeT.seq)
  apply CodeT.region (fun _ => PPm)
  apply Run.op; (apply L_mov; rfl; rfl); rfl; rfl
  apply Run.op; (apply L_mov; rfl; rfl); rfl; rfl
  obtain ⟨r25, hr25, H⟩ := bindS H
  apply Run.op; (apply L_call; ((apply ArgsV.cons; (apply ArgV.ref; rfl; rfl; (exact Nat.le_of_eq (flat_len (fun _ => rfl))))); (apply ArgsV.cons; (apply ArgV.val; rfl; rfl)); (apply ArgsV.nil)); (exact m_laws_heldBoolS r22.2 r24 _ hr25); rfl; rfl; rfl); rfl; rfl
  apply Run.op; (apply L_asg; rfl; rfl); rfl; rfl
  apply Run.done; refine ⟨fun h => Bool.noConfusion h, ?_⟩
  apply x3
  (repeat apply CodeT.seq)
  apply CodeT.region (fun _ => PPm)
  apply Run.op; (apply L_mov; rfl; rfl); rfl; rfl
  apply Run.op; (apply L_lss; rfl; rfl; rfl); rfl; rfl
  apply Run.done; refine ⟨fun h => Bool.noConfusion h, ?_⟩
  apply x3
  (repeat apply CodeT.seq)
  refine CodeT.cond rfl (fun h => ?_) (fun h => ?_)
  replace H := ifT (of_decide_eq_true h) H
  (repeat apply CodeT.seq)
  apply CodeT.region (fun _ => PPm)
  apply Run.op; (apply L_asg; rfl; rfl); rfl; rfl
  apply Run.done; refine ⟨fun h => Bool.noConfusion h, ?_⟩
  apply x3
  apply CodeT.ret
  apply x1
  cases H
  apply x12
  exact RetIs.sc1 rfl
  replace H := ifF (of_decide_eq_false h) H
  (repeat apply CodeT.seq)
  apply CodeT.skip
  apply x3
  (repeat apply CodeT.seq)
  apply CodeT.region (fun _ => PPm)
  apply Run.op; (apply L_mov; rfl; rfl); rfl; rfl
  apply Run.op; (apply L_mov; rfl; rfl); rfl; rfl
  apply Run.op; (apply L_neq; rfl; rfl; rfl); rfl; rfl
  apply Run.done; refine ⟨fun h => Bool.noConfusion h, ?_⟩
  apply x3
  (repeat apply CodeT.seq)
  refine CodeT.cond rfl (fun h => ?_) (fun h => ?_)
  replace H := ifT (of_decide_eq_true h) H
  (repeat apply CodeT.seq)
  apply CodeT.region (fun _ => PPm)
  apply Run.op; (apply L_asg; rfl; rfl); rfl; rfl
  apply Run.done; refine ⟨fun h => Bool.noConfusion h, ?_⟩
  apply x3
  apply CodeT.ret
  apply x1
  cases H
  apply x12
  exact RetIs.sc1 rfl
  replace H := ifF (of_decide_eq_false h) H
  (repeat apply CodeT.seq)
  apply CodeT.skip
  apply x3
  (repeat apply CodeT.seq)
  apply CodeT.region (fun _ => PPm)
  apply Run.op; (apply L_mov; rfl; rfl); rfl; rfl
  obtain ⟨r26, hr26, H⟩ := bindS H
  apply Run.op; (apply L_callW; ((apply ArgsV.cons; (apply ArgV.val; rfl; rfl)); (apply ArgsV.nil)); (exact m_laws_toFactorS a0 _ hr26); (exact io1 hio _); rfl); rfl; rfl
  obtain ⟨r27, hr27, H⟩ := bindS H
  apply Run.op; (apply L_callT 1860; ((apply ArgsV.cons; (apply ArgV.ref; rfl; rfl; (exact Nat.le_of_eq (flat_len (fun _ => rfl))))); (apply ArgsV.nil)); (exact m_impl_DeadReckoning r26 _ hr27); rfl; rfl; rfl; (exact ⟨io1 hio _, io1 hio _, trivial⟩); rfl); rfl; rfl
  apply Run.op; (apply L_mov; rfl; rfl); rfl; rfl
  apply Run.op; (apply L_extR; rfl; rfl; rfl); rfl; rfl
  apply Run.op; (apply L_extR; rfl; rfl; rfl); rfl; rfl
  apply Run.op; (apply L_asg; rfl; rfl); rfl; rfl
  apply Run.op; (apply L_asg; rfl; rfl); rfl; rfl
  apply Run.done; refine ⟨fun h => Bool.noConfusion h, ?_⟩
  apply x3
  (repeat apply CodeT.seq)
  obtain ⟨d31, hd31, H⟩ := bindS H
  refine CodeT.lcut (x := d31) (fun d e E => XEnv Γ .normal ⟨[(7, ⟨.ref 507 3 0 r20.2.length, false⟩), (8, ⟨.ref 508 1 0 r22.2.length, false⟩), (10, ⟨.sc (.int .i64 r22.1), false⟩), (98, ⟨.sc (.bool d), false⟩)], [(507, some ⟨r20.2.flatMap encPose, true, false⟩), (508, some ⟨r22.2.flatMap encB, true, false⟩)]⟩ e E) ?_ ?_
  clear H; have H := hd31; clear hd31
  apply CodeT.region (fun _ => PPm)
  apply Run.op; (apply L_mov; rfl; rfl); rfl; rfl
  apply Run.op; (apply L_mov; rfl; rfl); rfl; rfl
  obtain ⟨r28, hr28, H⟩ := bindS H
  apply R_bool; (apply L_call; ((apply ArgsV.cons; (apply ArgV.ref; rfl; rfl; (exact Nat.le_of_eq (flat_len (fun _ => rfl))))); (apply ArgsV.cons; (apply ArgV.ref; rfl; rfl; (exact Nat.le_of_eq (flat_len (fun _ => rfl))))); (apply ArgsV.nil)); (exact m_laws_eqPoseS r27.1 r3.1 _ hr28); rfl; rfl; rfl); rfl
  intro h; replace H := ifTb h H
  apply Run.op; (apply L_not; rfl; rfl); rfl; rfl
  apply Run.op; (apply L_mov; rfl; rfl); rfl; rfl
  apply Run.op; (apply L_mov; rfl; rfl); rfl; rfl
  apply Run.op; (apply L_mov; rfl; rfl); rfl; rfl
  obtain ⟨r29, hr29, H⟩ := bindS H
  apply Run.op; (apply L_call; ((apply ArgsV.cons; (apply ArgV.ref; rfl; rfl; (exact Nat.le_of_eq (flat_len (fun _ => rfl))))); (apply ArgsV.cons; (apply ArgV.ref; rfl; rfl; (exact Nat.le_of_eq (flat_len (fun _ => rfl))))); (apply ArgsV.nil)); (exact m_laws_eqBoolS r27.2 r3.2 _ hr29); rfl; rfl; rfl); rfl; rfl
  apply Run.op; (apply L_not; rfl; rfl); rfl; rfl
  apply Run.op; (apply L_pickF; rfl; rfl; rfl); rfl; rfl
  apply Run.done; refine ⟨fun h => Bool.noConfusion h, ?_⟩
  obtain rfl := Option.some.inj H
  refine Ev.y4 ?_
  refine XEnv.mk ?_
  refine Ent.list [] (io0 hio _) rfl ?_ ?_ <;> (repeat' first | exact trivial | (refine And.intro ⟨_, rfl, fun h => (by first | rfl | exact Bool.noConfusion h)⟩ ?_))
  intro h; replace H := ifFb h H
  apply Run.op; (apply L_not; rfl; rfl); rfl; rfl
  apply Run.op; (apply L_mov; rfl; rfl); rfl; rfl
  apply Run.skip; rfl
  apply Run.skip; rfl
  apply Run.skip; rfl
  apply Run.skip; rfl
  apply Run.op; (apply L_pickT; rfl; rfl; rfl); rfl; rfl
  apply Run.done; refine ⟨fun h => Bool.noConfusion h, ?_⟩
  obtain rfl := Option.some.inj H
  refine Ev.y4 ?_
  refine XEnv.mk ?_
  refine Ent.list [] (io0 hio _) rfl ?_ ?_ <;> (repeat' first | exact trivial | (refine And.intro ⟨_, rfl, fun h => (by first | rfl | exact Bool.noConfusion h)⟩ ?_))
  intro e E' hX; obtain ⟨rfl, g32⟩ := XEnv.out hX
  apply x3
  refine CodeT.weak g32 ?_
  (repeat apply CodeT.seq)
  refine CodeT.cond rfl (fun h => ?_) (fun h => ?_)
  replace H := ifTb h H
  (repeat apply CodeT.seq)
  apply CodeT.region (fun _ => PPm)
  apply Run.op; (apply L_asg; rfl; rfl); rfl; rfl
  apply Run.done; refine ⟨fun h => Bool.noConfusion h, ?_⟩
  apply x3
  apply CodeT.ret
  apply x1
  cases H
  apply x12
  exact RetIs.sc1 rfl
  replace H := ifFb h H
  (repeat apply CodeT.seq)
  apply CodeT.skip
  apply x3
  (repeat apply CodeT.seq)
  apply CodeT.region (fun _ => PPm)
  apply Run.op; (apply L_asg; rfl; rfl); rfl; rfl
  apply Run.done; refine ⟨fun h => Bool.noConfusion h, ?_⟩
  apply x3
  (repeat apply CodeT.seq)
  apply CodeT.region (fun _ => PPm)
  apply Run.op; (apply L_mov; rfl; rfl); rfl; rfl
  apply Run.op; (apply L_mov; rfl; rfl); rfl; rfl
  obtain ⟨r33, hr33, H⟩ := bindS H
  apply Run.op; (apply L_call; ((apply ArgsV.cons; (apply ArgV.ref; rfl; rfl; (exact Nat.le_of_eq (flat_len (fun _ => rfl))))); (apply ArgsV.cons; (apply ArgV.val; rfl; rfl)); (apply ArgsV.nil)); (exact m_laws_heldPoseS r20.2 1 _ hr33); rfl; rfl; rfl); rfl; rfl
  apply Run.op; (apply L_asg; rfl; rfl); rfl; rfl
  apply Run.done; refine ⟨fun h => Bool.noConfusion h, ?_⟩
  apply x3
  (repeat apply CodeT.seq)
  apply CodeT.region (fun _ => PPm)
  apply Run.op; (apply L_mov; rfl; rfl); rfl; rfl
  apply Run.op; (apply L_lss; rfl; rfl; rfl); rfl; rfl
  apply Run.done; refine ⟨fun h => Bool.noConfusion h, ?_⟩
  apply x3
  (repeat apply CodeT.seq)
  refine CodeT.cond rfl (fun h => ?_) (fun h => ?_)
  replace H := ifT (of_decide_eq_true h) H
  (repeat apply CodeT.seq)
  apply CodeT.region (fun _ => PPm)
  apply Run.op; (apply L_asg; rfl; rfl); rfl; rfl
  apply Run.done; refine ⟨fun h => Bool.noConfusion h, ?_⟩
  apply x3
  apply CodeT.ret
  apply x1
  cases H
  apply x12
  exact RetIs.sc1 rfl
  replace H := ifF (of_decide_eq_false h) H
  (repeat apply CodeT.seq)
  apply CodeT.skip
  apply x3
  (repeat apply CodeT.seq)
  apply CodeT.region (fun _ => PPm)
  apply Run.op; (apply L_mov; rfl; rfl); rfl; rfl
  apply Run.op; (apply L_mov; rfl; rfl); rfl; rfl
  obtain ⟨r34, hr34, H⟩ := bindS H
  apply Run.op; (apply L_call; ((apply ArgsV.cons; (apply ArgV.ref; rfl; rfl; (exact Nat.le_of_eq (flat_len (fun _ => rfl))))); (apply ArgsV.cons; (apply ArgV.val; rfl; rfl)); (apply ArgsV.nil)); (exact m_laws_heldBoolS r22.2 r33 _ hr34); rfl; rfl; rfl); rfl; rfl
  apply Run.op; (apply L_asg; rfl; rfl); rfl; rfl
  apply Run.done; refine ⟨fun h => Bool.noConfusion h, ?_⟩
  apply x3
  (repeat apply CodeT.seq)
  apply CodeT.region (fun _ => PPm)
  apply Run.op; (apply L_mov; rfl; rfl); rfl; rfl
  apply Run.op; (apply L_lss; rfl; rfl; rfl); rfl; rfl
  apply Run.done; refine ⟨fun h => Bool.noConfusion h, ?_⟩
  apply x3
  (repeat apply CodeT.seq)
  refine CodeT.cond rfl (fun h => ?_) (fun h => ?_)
  replace H := ifT (of_decide_eq_true h) H
  (repeat apply CodeT.seq)
  apply CodeT.region (fun _ => PPm)
  apply Run.op; (apply L_asg; rfl; rfl); rfl; rfl
  apply Run.done; refine ⟨fun h => Bool.noConfusion h, ?_⟩
  apply x3
  apply CodeT.ret
  apply x1
  cases H
  apply x12
  exact RetIs.sc1 rfl
  replace H := ifF (of_decide_eq_false h) H
  (repeat apply CodeT.seq)
  apply CodeT.skip
  apply x3
  (repeat apply CodeT.seq)
  apply CodeT.region (fun _ => PPm)
  apply Run.op; (apply L_mov; rfl; rfl); rfl; rfl
  apply Run.op; (apply L_mov; rfl; rfl); rfl; rfl
  apply Run.op; (apply L_neq; rfl; rfl; rfl); rfl; rfl
  apply Run.done; refine ⟨fun h => Bool.noConfusion h, ?_⟩
  apply x3
  (repeat apply CodeT.seq)
  refine CodeT.cond rfl (fun h => ?_) (fun h => ?_)
  replace H := ifT (of_decide_eq_true h) H
  (repeat apply CodeT.seq)
  apply CodeT.region (fun _ => PPm)
  apply Run.op; (apply L_asg; rfl; rfl); rfl; rfl
  apply Run.done; refine ⟨fun h => Bool.noConfusion h, ?_⟩
  apply x3
  apply CodeT.ret
  apply x1
  cases H
  apply x12
  exact RetIs.sc1 rfl
  replace H := ifF (of_decide_eq_false h) H
  (repeat apply CodeT.seq)
  apply CodeT.skip
  apply x3
  (repeat apply CodeT.seq)
  apply CodeT.region (fun _ => PPm)
  apply Run.op; (apply L_asg; rfl; rfl); rfl; rfl
  apply Run.done; refine ⟨fun h => Bool.noConfusion h, ?_⟩
  apply x3
  apply CodeT.ret
  cases H
  apply x12
  exact RetIs.sc1 rfl
end Go.Ev
