/- The walks of lifted functions, printed by program (lift.py). -/
import Derived.Test.YtbfjidhekfnfjaaLd
set_option linter.all false
namespace Go.Ev
open Go.Proofs
set_option linter.all false
attribute [local irreducible] CodeT Ent Meets MeetsX Local LocalAt Res1 RetIs RetX Sim OpT StepT NoLab Then InBlock Round Cut ends endsX LRound LCut XEnv XRet XRetX XRetN MeetsN MarkC RetN RetM endsN endsM
theorem m_laws_szIntS (a0 : (List Int)) (a1 : Int) (r : Int) (H : laws_szIntS a0 a1 = some r) : Meets Try.prog 128 [.sl a0.length (a0.flatMap (encI .i64)), .sc (.int .i64 a1)] (.sc (.int .i64 r)) true := by
  refine Meets.intro2 (N := 12) (rs := #[.tmp 4]) Try.func128 rfl rfl rfl rfl ?_
  intro Γ hio
  unfold laws_szIntS at H
  (repeat apply CodeT.seq)
  apply CodeT.region (fun _ => PPm)
  apply Run.op; (apply L_asg; rfl; rfl); rfl; rfl
  apply Run.done; refine ⟨fun h => Bool.noConfusion h, ?_⟩
  apply x3
  (repeat apply CodeT.seq)
  apply CodeT.region (fun _ => PPm)
  apply Run.op; (apply L_mov; rfl; rfl); rfl; rfl
  apply Run.op; (apply L_mov; rfl; rfl); rfl; rfl
  apply Run.op; (apply L_len; rfl; rfl); rfl; rfl
  obtain ⟨v1, hv1, H⟩ := bindS H
  apply Run.op; (apply L_sub; rfl; rfl; (exact letS hv1); rfl); rfl; rfl
  apply Run.op; (apply L_asg; rfl; rfl); rfl; rfl
  apply Run.done; refine ⟨fun h => Bool.noConfusion h, ?_⟩
  apply x3
  (repeat apply CodeT.seq)
  apply CodeT.region (fun _ => PPm)
  apply Run.op; (apply L_mov; rfl; rfl); rfl; rfl
  apply Run.op; (apply L_lss; rfl; rfl; rfl); rfl; rfl
  apply Run.done; refine ⟨fun h => Bool.noConfusion h, ?_⟩
  apply x3
  (repeat apply CodeT.seq)
  refine CodeT.cond rfl (fun h => ?_) (fun h => ?_)
  replace H := ifT (of_decide_eq_true h) H
  (repeat apply CodeT.seq)
  apply CodeT.region (fun _ => PPm)
  apply Run.op; (apply L_asg; rfl; rfl); rfl; rfl
  apply Run.done; refine ⟨fun h => Bool.noConfusion h, ?_⟩
  apply x3
  apply CodeT.ret
  apply x1
  cases H
  apply x12
  exact RetIs.sc1 rfl
  replace H := ifF (of_decide_eq_false h) H
  (repeat apply CodeT.seq)
  apply CodeT.skip
  apply x3
  (repeat apply CodeT.seq)
  apply CodeT.region (fun _ => PPm)
  apply Run.op; (apply L_mov; rfl; rfl); rfl; rfl
  apply Run.op; (apply L_asg; rfl; rfl); rfl; rfl
  apply Run.done; refine ⟨fun h => Bool.noConfusion h, ?_⟩
  apply x3
  apply CodeT.ret
  cases H
  apply x12
  exact RetIs.sc1 rfl
theorem m_laws_szBigInt (a0 : BigInt) (a1 : Int) (r : Int) (H : laws_szBigInt a0 a1 = some r) : Meets Try.prog 188 [.agg (encBigInt a0), .sc (.int .i64 a1)] (.sc (.int .i64 r)) true := by
  refine Meets.intro2 (N := 12) (rs := #[.tmp 4]) Try.func188 rfl rfl rfl rfl ?_
  intro Γ hio
  unfold laws_szBigInt at H
  (repeat apply CodeT.seq)
  apply CodeT.region (fun _ => PPm)
  apply Run.op; (apply L_box false; rfl; rfl; rfl; (exact io1 hio _); rfl); rfl; rfl
  apply Run.op; (apply L_asg; rfl; rfl); rfl; rfl
  apply Run.done; refine ⟨fun h => Bool.noConfusion h, ?_⟩
  apply x3
  (repeat apply CodeT.seq)
  apply CodeT.region (fun _ => PPm)
  apply Run.op; (apply L_fldP; rfl; rfl; rfl; rfl); rfl; rfl
  apply Run.op; (apply L_ldP; rfl; rfl; rfl; (first | exact .inl rfl | exact .inr rfl); rfl); rfl; rfl
  apply Run.op; (apply L_mov; rfl; rfl); rfl; rfl
  obtain ⟨r1, hr1, H⟩ := bindS H
  apply Run.op; (apply L_call; ((apply ArgsV.cons; (apply ArgV.val; rfl; rfl)); (apply ArgsV.cons; (apply ArgV.val; rfl; rfl)); (apply ArgsV.nil)); (exact m_laws_szIntS a0.fMag a1 _ hr1); rfl; rfl; rfl); rfl; rfl
  apply Run.op; (apply L_asg; rfl; rfl); rfl; rfl
  apply Run.done; refine ⟨fun h => Bool.noConfusion h, ?_⟩
  apply x3
  (repeat apply CodeT.seq)
  apply CodeT.region (fun _ => PPm)
  apply Run.op; (apply L_mov; rfl; rfl); rfl; rfl
  apply Run.op; (apply L_lss; rfl; rfl; rfl); rfl; rfl
  apply Run.done; refine ⟨fun h => Bool.noConfusion h, ?_⟩
  apply x3
  (repeat apply CodeT.seq)
  refine CodeT.cond rfl (fun h => ?_) (fun h => ?_)
  replace H := ifT (of_decide_eq_true h) H
  (repeat apply CodeT.seq)
  apply CodeT.region (fun _ => PPm)
  apply Run.op; (apply L_asg; rfl; rfl); rfl; rfl
  apply Run.done; refine ⟨fun h => Bool.noConfusion h, ?_⟩
  apply x3
  apply CodeT.ret
  apply x1
  cases H
  apply x12
  exact RetIs.sc1 rfl
  replace H := ifF (of_decide_eq_false h) H
  (repeat apply CodeT.seq)
  apply CodeT.skip
  apply x3
  (repeat apply CodeT.seq)
  apply CodeT.region (fun _ => PPm)
  apply Run.op; (apply L_mov; rfl; rfl); rfl; rfl
  apply Run.op; (apply L_asg; rfl; rfl); rfl; rfl
  apply Run.done; refine ⟨fun h => Bool.noConfusion h, ?_⟩
  apply x3
  apply CodeT.ret
  cases H
  apply x12
  exact RetIs.sc1 rfl
theorem m_laws_szRat (a0 : Rat) (a1 : Int) (r : Int) (H : laws_szRat a0 a1 = some r) : Meets Try.prog 163 [.agg (encRat a0), .sc (.int .i64 a1)] (.sc (.int .i64 r)) true := by
  refine Meets.intro2 (N := 18) (rs := #[.tmp 4]) Try.func163 rfl rfl rfl rfl ?_
  intro Γ hio
  unfold laws_szRat at H
  (repeat apply CodeT.seq)
  apply CodeT.region (fun _ => PPm)
  apply Run.op; (apply L_box false; rfl; rfl; rfl; (exact io1 hio _); rfl); rfl; rfl
  apply Run.op; (apply L_asg; rfl; rfl); rfl; rfl
  apply Run.done; refine ⟨fun h => Bool.noConfusion h, ?_⟩
  apply x3
  (repeat apply CodeT.seq)
  apply CodeT.region (fun _ => PPm)
  apply Run.op; (apply L_fldP; rfl; rfl; rfl; rfl); rfl; rfl
  apply Run.op; (apply L_ldPA; rfl; rfl; (first | exact seg_whole rfl | rfl); rfl; (intro h; cases h); (first | exact .inl rfl | exact .inr rfl); rfl); rfl; rfl
  apply Run.op; (apply L_mov; rfl; rfl); rfl; rfl
  obtain ⟨r1, hr1, H⟩ := bindS H
  apply Run.op; (apply L_call; ((apply ArgsV.cons; (apply ArgV.val; rfl; rfl)); (apply ArgsV.cons; (apply ArgV.val; rfl; rfl)); (apply ArgsV.nil)); (exact m_laws_szBigInt a0.fNum a1 _ hr1); rfl; rfl; rfl); rfl; rfl
  apply Run.op; (apply L_asg; rfl; rfl); rfl; rfl
  apply Run.done; refine ⟨fun h => Bool.noConfusion h, ?_⟩
  apply x3
  (repeat apply CodeT.seq)
  apply CodeT.region (fun _ => PPm)
  apply Run.op; (apply L_mov; rfl; rfl); rfl; rfl
  apply Run.op; (apply L_lss; rfl; rfl; rfl); rfl; rfl
  apply Run.done; refine ⟨fun h => Bool.noConfusion h, ?_⟩
  apply x3
  (repeat apply CodeT.seq)
  refine CodeT.cond rfl (fun h => ?_) (fun h => ?_)
  replace H := ifT (of_decide_eq_true h) H
  (repeat apply CodeT.seq)
  apply CodeT.region (fun _ => PPm)
  apply Run.op; (apply L_asg; rfl; rfl); rfl; rfl
  apply Run.done; refine ⟨fun h => Bool.noConfusion h, ?_⟩
  apply x3
  apply CodeT.ret
  apply x1
  cases H
  apply x12
  exact RetIs.sc1 rfl
  replace H := ifF (of_decide_eq_false h) H
  (repeat apply CodeT.seq)
  apply CodeT.skip
  apply x3
  (repeat apply CodeT.seq)
  apply CodeT.region (fun _ => PPm)
  apply Run.op; (apply L_fldP; rfl; rfl; rfl; rfl); rfl; rfl
  apply Run.op; (apply L_ldP; rfl; rfl; rfl; (first | exact .inl rfl | exact .inr rfl); rfl); rfl; rfl
  apply Run.op; (apply L_mov; rfl; rfl); rfl; rfl
  obtain ⟨r2, hr2, H⟩ := bindS H
  apply Run.op; (apply L_call; ((apply ArgsV.cons; (apply ArgV.val; rfl; rfl)); (apply ArgsV.cons; (apply ArgV.val; rfl; rfl)); (apply ArgsV.nil)); (exact m_laws_szIntS a0.fDen r1 _ hr2); rfl; rfl; rfl); rfl; rfl
  apply Run.op; (apply L_asg; rfl; rfl); rfl; rfl
  apply Run.done; refine ⟨fun h => Bool.noConfusion h, ?_⟩
  apply x3
  (repeat apply CodeT.seq)
  apply CodeT.region (fun _ => PPm)
  apply Run.op; (apply L_mov; rfl; rfl); rfl; rfl
  apply Run.op; (apply L_lss; rfl; rfl; rfl); rfl; rfl
  apply Run.done; refine ⟨fun h => Bool.noConfusion h, ?_⟩
  apply x3
  (repeat apply CodeT.seq)
  refine CodeT.cond rfl (fun h => ?_) (fun h => ?_)
  replace H := ifT (of_decide_eq_true h) H
  (repeat apply CodeT.seq)
  apply CodeT.region (fun _ => PPm)
  apply Run.op; (apply L_asg; rfl; rfl); rfl; rfl
  apply Run.done; refine ⟨fun h => Bool.noConfusion h, ?_⟩
  apply x3
  apply CodeT.ret
  apply x1
  cases H
  apply x12
  exact RetIs.sc1 rfl
  replace H := ifF (of_decide_eq_false h) H
  (repeat apply CodeT.seq)
  apply CodeT.skip
  apply x3
  (repeat apply CodeT.seq)
  apply CodeT.region (fun _ => PPm)
  apply Run.op; (apply L_mov; rfl; rfl); rfl; rfl
  apply Run.op; (apply L_asg; rfl; rfl); rfl; rfl
  apply Run.done; refine ⟨fun h => Bool.noConfusion h, ?_⟩
  apply x3
  apply CodeT.ret
  cases H
  apply x12
  exact RetIs.sc1 rfl
theorem m_laws_szLink (a0 : Link) (a1 : Int) (r : Int) (H : laws_szLink a0 a1 = some r) : Meets Try.prog 186 [.agg (encLink a0), .sc (.int .i64 a1)] (.sc (.int .i64 r)) true := by
  refine Meets.intro2 (N := 24) (rs := #[.tmp 4]) Try.func186 rfl rfl rfl rfl ?_
  intro Γ hio
  unfold laws_szLink at H
  (repeat apply CodeT.seq)
  apply CodeT.region (fun _ => PPm)
  apply Run.op; (apply L_box false; rfl; rfl; rfl; (exact io1 hio _); rfl); rfl; rfl
  apply Run.op; (apply L_asg; rfl; rfl); rfl; rfl
  apply Run.done; refine ⟨fun h => Bool.noConfusion h, ?_⟩
  apply x3
  (repeat apply CodeT.seq)
  apply CodeT.region (fun _ => PPm)
  apply Run.op; (apply L_fldP; rfl; rfl; rfl; rfl); rfl; rfl
  apply Run.op; (apply L_ldPA; rfl; rfl; (first | exact seg_whole rfl | rfl); rfl; (intro h; cases h); (first | exact .inl rfl | exact .inr rfl); rfl); rfl; rfl
  apply Run.op; (apply L_mov; rfl; rfl); rfl; rfl
  obtain ⟨r1, hr1, H⟩ := bindS H
  apply Run.op; (apply L_call; ((apply ArgsV.cons; (apply ArgV.val; rfl; rfl)); (apply ArgsV.cons; (apply ArgV.val; rfl; rfl)); (apply ArgsV.nil)); (exact m_laws_szRat a0.fWeight a1 _ hr1); rfl; rfl; rfl); rfl; rfl
  apply Run.op; (apply L_asg; rfl; rfl); rfl; rfl
  apply Run.done; refine ⟨fun h => Bool.noConfusion h, ?_⟩
  apply x3
  (repeat apply CodeT.seq)
  apply CodeT.region (fun _ => PPm)
  apply Run.op; (apply L_mov; rfl; rfl); rfl; rfl
  apply Run.op; (apply L_lss; rfl; rfl; rfl); rfl; rfl
  apply Run.done; refine ⟨fun h => Bool.noConfusion h, ?_⟩
  apply x3
  (repeat apply CodeT.seq)
  refine CodeT.cond rfl (fun h => ?_) (fun h => ?_)
  replace H := ifT (of_decide_eq_true h) H
  (repeat apply CodeT.seq)
  apply CodeT.region (fun _ => PPm)
  apply Run.op; (apply L_asg; rfl; rfl); rfl; rfl
  apply Run.done; refine ⟨fun h => Bool.noConfusion h, ?_⟩
  apply x3
  apply CodeT.ret
  apply x1
  cases H
  apply x12
  exact RetIs.sc1 rfl
  replace H := ifF (of_decide_eq_false h) H
  (repeat apply CodeT.seq)
  apply CodeT.skip
  apply x3
  (repeat apply CodeT.seq)
  apply CodeT.region (fun _ => PPm)
  apply Run.op; (apply L_fldP; rfl; rfl; rfl; rfl); rfl; rfl
  apply Run.op; (apply L_ldPA; rfl; rfl; (first | exact seg_whole rfl | rfl); rfl; (intro h; cases h); (first | exact .inl rfl | exact .inr rfl); rfl); rfl; rfl
  apply Run.op; (apply L_mov; rfl; rfl); rfl; rfl
  obtain ⟨r2, hr2, H⟩ := bindS H
  apply Run.op; (apply L_call; ((apply ArgsV.cons; (apply ArgV.val; rfl; rfl)); (apply ArgsV.cons; (apply ArgV.val; rfl; rfl)); (apply ArgsV.nil)); (exact m_laws_szRat a0.fDX r1 _ hr2); rfl; rfl; rfl); rfl; rfl
  apply Run.op; (apply L_asg; rfl; rfl); rfl; rfl
  apply Run.done; refine ⟨fun h => Bool.noConfusion h, ?_⟩
  apply x3
  (repeat apply CodeT.seq)
  apply CodeT.region (fun _ => PPm)
  apply Run.op; (apply L_mov; rfl; rfl); rfl; rfl
  apply Run.op; (apply L_lss; rfl; rfl; rfl); rfl; rfl
  apply Run.done; refine ⟨fun h => Bool.noConfusion h, ?_⟩
  apply x3
  (repeat apply CodeT.seq)
  refine CodeT.cond rfl (fun h => ?_) (fun h => ?_)
  replace H := ifT (of_decide_eq_true h) H
  (repeat apply CodeT.seq)
  apply CodeT.region (fun _ => PPm)
  apply Run.op; (apply L_asg; rfl; rfl); rfl; rfl
  apply Run.done; refine ⟨fun h => Bool.noConfusion h, ?_⟩
  apply x3
  apply CodeT.ret
  apply x1
  cases H
  apply x12
  exact RetIs.sc1 rfl
  replace H := ifF (of_decide_eq_false h) H
  (repeat apply CodeT.seq)
  apply CodeT.skip
  apply x3
  (repeat apply CodeT.seq)
  apply CodeT.region (fun _ => PPm)
  apply Run.op; (apply L_fldP; rfl; rfl; rfl; rfl); rfl; rfl
  apply Run.op; (apply L_ldPA; rfl; rfl; (first | exact seg_whole rfl | rfl); rfl; (intro h; cases h); (first | exact .inl rfl | exact .inr rfl); rfl); rfl; rfl
  apply Run.op; (apply L_mov; rfl; rfl); rfl; rfl
  obtain ⟨r3, hr3, H⟩ := bindS H
  apply Run.op; (apply L_call; ((apply ArgsV.cons; (apply ArgV.val; rfl; rfl)); (apply ArgsV.cons; (apply ArgV.val; rfl; rfl)); (apply ArgsV.nil)); (exact m_laws_szRat a0.fDY r2 _ hr3); rfl; rfl; rfl); rfl; rfl
  apply Run.op; (apply L_asg; rfl; rfl); rfl; rfl
  apply Run.done; refine ⟨fun h => Bool.noConfusion h, ?_⟩
  apply x3
  (repeat apply CodeT.seq)
  apply CodeT.region (fun _ => PPm)
  apply Run.op; (apply L_mov; rfl; rfl); rfl; rfl
  apply Run.op; (apply L_lss; rfl; rfl; rfl); rfl; rfl
  apply Run.done; refine ⟨fun h => Bool.noConfusion h, ?_⟩
  apply x3
  (repeat apply CodeT.seq)
  refine CodeT.cond rfl (fun h => ?_) (fun h => ?_)
  replace H := ifT (of_decide_eq_true h) H
  (repeat apply CodeT.seq)
  apply CodeT.region (fun _ => PPm)
  apply Run.op; (apply L_asg; rfl; rfl); rfl; rfl
  apply Run.done; refine ⟨fun h => Bool.noConfusion h, ?_⟩
  apply x3
  apply CodeT.ret
  apply x1
  cases H
  apply x12
  exact RetIs.sc1 rfl
  replace H := ifF (of_decide_eq_false h) H
  (repeat apply CodeT.seq)
  apply CodeT.skip
  apply x3
  (repeat apply CodeT.seq)
  apply CodeT.region (fun _ => PPm)
  apply Run.op; (apply L_mov; rfl; rfl); rfl; rfl
  apply Run.op; (apply L_asg; rfl; rfl); rfl; rfl
  apply Run.done; refine ⟨fun h => Bool.noConfusion h, ?_⟩
  apply x3
  apply CodeT.ret
  cases H
  apply x12
  exact RetIs.sc1 rfl
theorem m_laws_szLinkS (a0 : (List Link)) (a1 : Int) (r : Int) (H : laws_szLinkS a0 a1 = some r) : Meets Try.prog 161 [.sl a0.length (a0.flatMap encLink), .sc (.int .i64 a1)] (.sc (.int .i64 r)) true := by
  refine Meets.intro2 (N := 27) (rs := #[.tmp 4]) Try.func161 rfl rfl rfl rfl ?_
  intro Γ hio
  unfold laws_szLinkS at H
  (repeat apply CodeT.seq)
  apply CodeT.region (fun _ => PPm)
  apply Run.op; (apply L_asg; rfl; rfl); rfl; rfl
  apply Run.done; refine ⟨fun h => Bool.noConfusion h, ?_⟩
  apply x3
  (repeat apply CodeT.seq)
  apply CodeT.region (fun _ => PPm)
  apply Run.op; (apply L_mov; rfl; rfl); rfl; rfl
  apply Run.op; (apply L_mov; rfl; rfl); rfl; rfl
  apply Run.op; (apply L_len; rfl; rfl); rfl; rfl
  obtain ⟨v1, hv1, H⟩ := bindS H
  apply Run.op; (apply L_sub; rfl; rfl; (exact letS hv1); rfl); rfl; rfl
  apply Run.op; (apply L_asg; rfl; rfl); rfl; rfl
  apply Run.done; refine ⟨fun h => Bool.noConfusion h, ?_⟩
  apply x3
  (repeat apply CodeT.seq)
  apply CodeT.region (fun _ => PPm)
  apply Run.op; (apply L_mov; rfl; rfl); rfl; rfl
  apply Run.op; (apply L_lss; rfl; rfl; rfl); rfl; rfl
  apply Run.done; refine ⟨fun h => Bool.noConfusion h, ?_⟩
  apply x3
  (repeat apply CodeT.seq)
  refine CodeT.cond rfl (fun h => ?_) (fun h => ?_)
  replace H := ifT (of_decide_eq_true h) H
  (repeat apply CodeT.seq)
  apply CodeT.region (fun _ => PPm)
  apply Run.op; (apply L_asg; rfl; rfl); rfl; rfl
  apply Run.done; refine ⟨fun h => Bool.noConfusion h, ?_⟩
  apply x3
  apply CodeT.ret
  apply x1
  cases H
  apply x12
  exact RetIs.sc1 rfl
  replace H := ifF (of_decide_eq_false h) H
  (repeat apply CodeT.seq)
  apply CodeT.skip
  apply x3
  (repeat apply CodeT.seq)
  apply CodeT.region (fun _ => PPm)
  apply Run.op; (apply L_asg; rfl; rfl); rfl; rfl
  apply Run.done; refine ⟨fun h => Bool.noConfusion h, ?_⟩
  apply x3
  (repeat apply CodeT.seq)
  apply CodeT.block
  (repeat apply CodeT.seq)
  obtain ⟨d8, hd8, H⟩ := bindS H
  refine CodeT.lloop (fun s => ⟨[(0, ⟨.sl a0.length (a0.flatMap encLink), false⟩), (1, ⟨.sc (.int .i64 s.1), false⟩), (5, ⟨.sc (.int .i64 s.2), false⟩)], []⟩) (fun x e E => match x with | (.inl d) => XEnv Γ (.exit 0) ⟨[(1, ⟨.sc (.int .i64 d), false⟩)], []⟩ e E | (.inr d) => XRet Γ #[.tmp 4] (.sc (.int .i64 d)) true e E) hd8 ?_ ?_ ?_
  refine Ent.list [] (io0 hio _) rfl ?_ ?_ <;> (repeat' first | exact trivial | (refine And.intro ⟨_, rfl, fun h => (by first | rfl | exact Bool.noConfusion h)⟩ ?_))
  clear H hd8
  rintro ⟨v4, v5⟩ o H
  unfold laws_szLinkS_L1 at H
  (repeat apply CodeT.seq)
  apply CodeT.region (fun _ => PPm)
  apply Run.op; (apply L_mov; rfl; rfl); rfl; rfl
  apply Run.op; (apply L_mov; rfl; rfl); rfl; rfl
  apply Run.op; (apply L_len; rfl; rfl); rfl; rfl
  apply Run.op; (apply L_lss; rfl; rfl; rfl); rfl; rfl
  apply Run.done; refine ⟨fun h => Bool.noConfusion h, ?_⟩
  apply x3
  (repeat apply CodeT.seq)
  refine CodeT.cond rfl (fun h => ?_) (fun h => ?_)
  replace H := ifT (of_decide_eq_true h) H
  (repeat apply CodeT.seq)
  apply CodeT.skip
  apply x3
  (repeat apply CodeT.seq)
  apply CodeT.block
  (repeat apply CodeT.seq)
  apply CodeT.region (fun _ => PPm)
  apply Run.op; (apply L_mov; rfl; rfl); rfl; rfl
  apply Run.op; (apply L_mov; rfl; rfl); rfl; rfl
  obtain ⟨y6, hy6, H⟩ := bindS H
  apply Run.op; (apply L_ixS2; rfl; rfl; rfl; (exact hy6); (intro _; rfl); rfl); rfl; rfl
  apply Run.op; (apply L_ldIA; rfl; (first | exact take_whole rfl | rfl); rfl; (intro h; cases h); rfl; rfl); rfl; rfl
  apply Run.op; (apply L_mov; rfl; rfl); rfl; rfl
  obtain ⟨r7, hr7, H⟩ := bindS H
  apply Run.op; (apply L_call; ((apply ArgsV.cons; (apply ArgV.val; rfl; rfl)); (apply ArgsV.cons; (apply ArgV.val; rfl; rfl)); (apply ArgsV.nil)); (exact m_laws_szLink y6 v4 _ hr7); rfl; rfl; rfl); rfl; rfl
  apply Run.op; (apply L_asg; rfl; rfl); rfl; rfl
  apply Run.done; refine ⟨fun h => Bool.noConfusion h, ?_⟩
  apply x3
  (repeat apply CodeT.seq)
  apply CodeT.region (fun _ => PPm)
  apply Run.op; (apply L_mov; rfl; rfl); rfl; rfl
  apply Run.op; (apply L_lss; rfl; rfl; rfl); rfl; rfl
  apply Run.done; refine ⟨fun h => Bool.noConfusion h, ?_⟩
  apply x3
  refine CodeT.cond rfl (fun h => ?_) (fun h => ?_)
  replace H := ifT (of_decide_eq_true h) H
  (repeat apply CodeT.seq)
  apply CodeT.region (fun _ => PPm)
  apply Run.op; (apply L_asg; rfl; rfl); rfl; rfl
  apply Run.done; refine ⟨fun h => Bool.noConfusion h, ?_⟩
  apply x3
  apply CodeT.ret
  apply x4
  apply x1
  obtain rfl := Option.some.inj H
  refine Ev.y2 ?_
  refine XRet.mk ?_
  exact RetIs.sc1 rfl
  replace H := ifF (of_decide_eq_false h) H
  (repeat apply CodeT.seq)
  apply CodeT.skip
  apply x5
  apply x3
  apply CodeT.region (fun _ => PPm)
  apply Run.op; (apply L_mov; rfl; rfl); rfl; rfl
  apply Run.op; (apply L_add; rfl; rfl; rfl; rfl); rfl; rfl
  apply Run.op; (apply L_asg; rfl; rfl); rfl; rfl
  apply Run.done; refine ⟨fun h => Bool.noConfusion h, ?_⟩
  obtain rfl := Option.some.inj H
  refine Ev.y1 ?_
  refine Ent.list [] (io0 hio _) rfl ?_ ?_ <;> (repeat' first | exact trivial | (refine And.intro ⟨_, rfl, fun h => (by first | rfl | exact Bool.noConfusion h)⟩ ?_))
  replace H := ifF (of_decide_eq_false h) H
  (repeat apply CodeT.seq)
  apply CodeT.exit
  apply x2
  obtain rfl := Option.some.inj H
  refine Ev.y3 ?_
  refine XEnv.mk ?_
  refine Ent.list [] (io0 hio _) rfl ?_ ?_ <;> (repeat' first | exact trivial | (refine And.intro ⟨_, rfl, fun h => (by first | rfl | exact Bool.noConfusion h)⟩ ?_))
  rcases d8 with (d9 | d11)
  intro e E' hX; obtain ⟨rfl, g10⟩ := XEnv.out hX
  refine x6 rfl ?_
  apply x3
  refine CodeT.weak g10 ?_
  (repeat apply CodeT.seq)
  apply CodeT.region (fun _ => PPm)
  apply Run.op; (apply L_mov; rfl; rfl); rfl; rfl
  apply Run.op; (apply L_asg; rfl; rfl); rfl; rfl
  apply Run.done; refine ⟨fun h => Bool.noConfusion h, ?_⟩
  apply x3
  apply CodeT.ret
  cases H
  apply x12
  exact RetIs.sc1 rfl
  intro e E' hX; obtain ⟨rfl, g12⟩ := XRet.out hX
  apply x4
  apply x1
  cases H
  apply x12
  exact g12
theorem m_laws_szParent (a0 : Parent) (a1 : Int) (r : Int) (H : laws_szParent a0 a1 = some r) : Meets Try.prog 202 [.agg (encParent a0), .sc (.int .i64 a1)] (.sc (.int .i64 r)) true := by
  refine Meets.intro2 (N := 24) (rs := #[.tmp 4]) Try.func202 rfl rfl rfl rfl ?_
  intro Γ hio
  unfold laws_szParent at H
  (repeat apply CodeT.seq)
  apply CodeT.region (fun _ => PPm)
  apply Run.op; (apply L_box false; rfl; rfl; rfl; (exact io1 hio _); rfl); rfl; rfl
  apply Run.op; (apply L_asg; rfl; rfl); rfl; rfl
  apply Run.done; refine ⟨fun h => Bool.noConfusion h, ?_⟩
  apply x3
  (repeat apply CodeT.seq)
  apply CodeT.region (fun _ => PPm)
  apply Run.op; (apply L_fldP; rfl; rfl; rfl; rfl); rfl; rfl
  apply Run.op; (apply L_ldPA; rfl; rfl; (first | exact seg_whole rfl | rfl); rfl; (intro h; cases h); (first | exact .inl rfl | exact .inr rfl); rfl); rfl; rfl
  apply Run.op; (apply L_mov; rfl; rfl); rfl; rfl
  obtain ⟨r1, hr1, H⟩ := bindS H
  apply Run.op; (apply L_call; ((apply ArgsV.cons; (apply ArgV.val; rfl; rfl)); (apply ArgsV.cons; (apply ArgV.val; rfl; rfl)); (apply ArgsV.nil)); (exact m_laws_szRat a0.fShare a1 _ hr1); rfl; rfl; rfl); rfl; rfl
  apply Run.op; (apply L_asg; rfl; rfl); rfl; rfl
  apply Run.done; refine ⟨fun h => Bool.noConfusion h, ?_⟩
  apply x3
  (repeat apply CodeT.seq)
  apply CodeT.region (fun _ => PPm)
  apply Run.op; (apply L_mov; rfl; rfl); rfl; rfl
  apply Run.op; (apply L_lss; rfl; rfl; rfl); rfl; rfl
  apply Run.done; refine ⟨fun h => Bool.noConfusion h, ?_⟩
  apply x3
  (repeat apply CodeT.seq)
  refine CodeT.cond rfl (fun h => ?_) (fun h => ?_)
  replace H := ifT (of_decide_eq_true h) H
  (repeat apply CodeT.seq)
  apply CodeT.region (fun _ => PPm)
  apply Run.op; (apply L_asg; rfl; rfl); rfl; rfl
  apply Run.done; refine ⟨fun h => Bool.noConfusion h, ?_⟩
  apply x3
  apply CodeT.ret
  apply x1
  cases H
  apply x12
  exact RetIs.sc1 rfl
  replace H := ifF (of_decide_eq_false h) H
  (repeat apply CodeT.seq)
  apply CodeT.skip
  apply x3
  (repeat apply CodeT.seq)
  apply CodeT.region (fun _ => PPm)
  apply Run.op; (apply L_fldP; rfl; rfl; rfl; rfl); rfl; rfl
  apply Run.op; (apply L_ldPA; rfl; rfl; (first | exact seg_whole rfl | rfl); rfl; (intro h; cases h); (first | exact .inl rfl | exact .inr rfl); rfl); rfl; rfl
  apply Run.op; (apply L_mov; rfl; rfl); rfl; rfl
  obtain ⟨r2, hr2, H⟩ := bindS H
  apply Run.op; (apply L_call; ((apply ArgsV.cons; (apply ArgV.val; rfl; rfl)); (apply ArgsV.cons; (apply ArgV.val; rfl; rfl)); (apply ArgsV.nil)); (exact m_laws_szRat a0.fDX r1 _ hr2); rfl; rfl; rfl); rfl; rfl
  apply Run.op; (apply L_asg; rfl; rfl); rfl; rfl
  apply Run.done; refine ⟨fun h => Bool.noConfusion h, ?_⟩
  apply x3
  (repeat apply CodeT.seq)
  apply CodeT.region (fun _ => PPm)
  apply Run.op; (apply L_mov; rfl; rfl); rfl; rfl
  apply Run.op; (apply L_lss; rfl; rfl; rfl); rfl; rfl
  apply Run.done; refine ⟨fun h => Bool.noConfusion h, ?_⟩
  apply x3
  (repeat apply CodeT.seq)
  refine CodeT.cond rfl (fun h => ?_) (fun h => ?_)
  replace H := ifT (of_decide_eq_true h) H
  (repeat apply CodeT.seq)
  apply CodeT.region (fun _ => PPm)
  apply Run.op; (apply L_asg; rfl; rfl); rfl; rfl
  apply Run.done; refine ⟨fun h => Bool.noConfusion h, ?_⟩
  apply x3
  apply CodeT.ret
  apply x1
  cases H
  apply x12
  exact RetIs.sc1 rfl
  replace H := ifF (of_decide_eq_false h) H
  (repeat apply CodeT.seq)
  apply CodeT.skip
  apply x3
  (repeat apply CodeT.seq)
  apply CodeT.region (fun _ => PPm)
  apply Run.op; (apply L_fldP; rfl; rfl; rfl; rfl); rfl; rfl
  apply Run.op; (apply L_ldPA; rfl; rfl; (first | exact seg_whole rfl | rfl); rfl; (intro h; cases h); (first | exact .inl rfl | exact .inr rfl); rfl); rfl; rfl
  apply Run.op; (apply L_mov; rfl; rfl); rfl; rfl
  obtain ⟨r3, hr3, H⟩ := bindS H
  apply Run.op; (apply L_call; ((apply ArgsV.cons; (apply ArgV.val; rfl; rfl)); (apply ArgsV.cons; (apply ArgV.val; rfl; rfl)); (apply ArgsV.nil)); (exact m_laws_szRat a0.fDY r2 _ hr3); rfl; rfl; rfl); rfl; rfl
  apply Run.op; (apply L_asg; rfl; rfl); rfl; rfl
  apply Run.done; refine ⟨fun h => Bool.noConfusion h, ?_⟩
  apply x3
  (repeat apply CodeT.seq)
  apply CodeT.region (fun _ => PPm)
  apply Run.op; (apply L_mov; rfl; rfl); rfl; rfl
  apply Run.op; (apply L_lss; rfl; rfl; rfl); rfl; rfl
  apply Run.done; refine ⟨fun h => Bool.noConfusion h, ?_⟩
  apply x3
  (repeat apply CodeT.seq)
  refine CodeT.cond rfl (fun h => ?_) (fun h => ?_)
  replace H := ifT (of_decide_eq_true h) H
  (repeat apply CodeT.seq)
  apply CodeT.region (fun _ => PPm)
  apply Run.op; (apply L_asg; rfl; rfl); rfl; rfl
  apply Run.done; refine ⟨fun h => Bool.noConfusion h, ?_⟩
  apply x3
  apply CodeT.ret
  apply x1
  cases H
  apply x12
  exact RetIs.sc1 rfl
  replace H := ifF (of_decide_eq_false h) H
  (repeat apply CodeT.seq)
  apply CodeT.skip
  apply x3
  (repeat apply CodeT.seq)
  apply CodeT.region (fun _ => PPm)
  apply Run.op; (apply L_mov; rfl; rfl); rfl; rfl
  apply Run.op; (apply L_asg; rfl; rfl); rfl; rfl
  apply Run.done; refine ⟨fun h => Bool.noConfusion h, ?_⟩
  apply x3
  apply CodeT.ret
  cases H
  apply x12
  exact RetIs.sc1 rfl
theorem m_laws_szParentS (a0 : (List Parent)) (a1 : Int) (r : Int) (H : laws_szParentS a0 a1 = some r) : Meets Try.prog 187 [.sl a0.length (a0.flatMap encParent), .sc (.int .i64 a1)] (.sc (.int .i64 r)) true := by
  refine Meets.intro2 (N := 27) (rs := #[.tmp 4]) Try.func187 rfl rfl rfl rfl ?_
  intro Γ hio
  unfold laws_szParentS at H
  (repeat apply CodeT.seq)
  apply CodeT.region (fun _ => PPm)
  apply Run.op; (apply L_asg; rfl; rfl); rfl; rfl
  apply Run.done; refine ⟨fun h => Bool.noConfusion h, ?_⟩
  apply x3
  (repeat apply CodeT.seq)
  apply CodeT.region (fun _ => PPm)
  apply Run.op; (apply L_mov; rfl; rfl); rfl; rfl
  apply Run.op; (apply L_mov; rfl; rfl); rfl; rfl
  apply Run.op; (apply L_len; rfl; rfl); rfl; rfl
  obtain ⟨v1, hv1, H⟩ := bindS H
  apply Run.op; (apply L_sub; rfl; rfl; (exact letS hv1); rfl); rfl; rfl
  apply Run.op; (apply L_asg; rfl; rfl); rfl; rfl
  apply Run.done; refine ⟨fun h => Bool.noConfusion h, ?_⟩
  apply x3
  (repeat apply CodeT.seq)
  apply CodeT.region (fun _ => PPm)
  apply Run.op; (apply L_mov; rfl; rfl); rfl; rfl
  apply Run.op; (apply L_lss; rfl; rfl; rfl); rfl; rfl
  apply Run.done; refine ⟨fun h => Bool.noConfusion h, ?_⟩
  apply x3
  (repeat apply CodeT.seq)
  refine CodeT.cond rfl (fun h => ?_) (fun h => ?_)
  replace H := ifT (of_decide_eq_true h) H
  (repeat apply CodeT.seq)
  apply CodeT.region (fun _ => PPm)
  apply Run.op; (apply L_asg; rfl; rfl); rfl; rfl
  apply Run.done; refine ⟨fun h => Bool.noConfusion h, ?_⟩
  apply x3
  apply CodeT.ret
  apply x1
  cases H
  apply x12
  exact RetIs.sc1 rfl
  replace H := ifF (of_decide_eq_false h) H
  (repeat apply CodeT.seq)
  apply CodeT.skip
  apply x3
  (repeat apply CodeT.seq)
  apply CodeT.region (fun _ => PPm)
  apply Run.op; (apply L_asg; rfl; rfl); rfl; rfl
  apply Run.done; refine ⟨fun h => Bool.noConfusion h, ?_⟩
  apply x3
  (repeat apply CodeT.seq)
  apply CodeT.block
  (repeat apply CodeT.seq)
  obtain ⟨d8, hd8, H⟩ := bindS H
  refine CodeT.lloop (fun s => ⟨[(0, ⟨.sl a0.length (a0.flatMap encParent), false⟩), (1, ⟨.sc (.int .i64 s.1), false⟩), (5, ⟨.sc (.int .i64 s.2), false⟩)], []⟩) (fun x e E => match x with | (.inl d) => XEnv Γ (.exit 0) ⟨[(1, ⟨.sc (.int .i64 d), false⟩)], []⟩ e E | (.inr d) => XRet Γ #[.tmp 4] (.sc (.int .i64 d)) true e E) hd8 ?_ ?_ ?_
  refine Ent.list [] (io0 hio _) rfl ?_ ?_ <;> (repeat' first | exact trivial | (refine And.intro ⟨_, rfl, fun h => (by first | rfl | exact Bool.noConfusion h)⟩ ?_))
  clear H hd8
  rintro ⟨v4, v5⟩ o H
  unfold laws_szParentS_L1 at H
  (repeat apply CodeT.seq)
  apply CodeT.region (fun _ => PPm)
  apply Run.op; (apply L_mov; rfl; rfl); rfl; rfl
  apply Run.op; (apply L_mov; rfl; rfl); rfl; rfl
  apply Run.op; (apply L_len; rfl; rfl); rfl; rfl
  apply Run.op; (apply L_lss; rfl; rfl; rfl); rfl; rfl
  apply Run.done; refine ⟨fun h => Bool.noConfusion h, ?_⟩
  apply x3
  (repeat apply CodeT.seq)
  refine CodeT.cond rfl (fun h => ?_) (fun h => ?_)
  replace H := ifT (of_decide_eq_true h) H
  (repeat apply CodeT.seq)
  apply CodeT.skip
  apply x3
  (repeat apply CodeT.seq)
  apply CodeT.block
  (repeat apply CodeT.seq)
  apply CodeT.region (fun _ => PPm)
  apply Run.op; (apply L_mov; rfl; rfl); rfl; rfl
  apply Run.op; (apply L_mov; rfl; rfl); rfl; rfl
  obtain ⟨y6, hy6, H⟩ := bindS H
  apply Run.op; (apply L_ixS2; rfl; rfl; rfl; (exact hy6); (intro _; rfl); rfl); rfl; rfl
  apply Run.op; (apply L_ldIA; rfl; (first | exact take_whole rfl | rfl); rfl; (intro h; cases h); rfl; rfl); rfl; rfl
  apply Run.op; (apply L_mov; rfl; rfl); rfl; rfl
  obtain ⟨r7, hr7, H⟩ := bindS H
  apply Run.op; (apply L_call; ((apply ArgsV.cons; (apply ArgV.val; rfl; rfl)); (apply ArgsV.cons; (apply ArgV.val; rfl; rfl)); (apply ArgsV.nil)); (exact m_laws_szParent y6 v4 _ hr7); rfl; rfl; rfl); rfl; rfl
  apply Run.op; (apply L_asg; rfl; rfl); rfl; rfl
  apply Run.done; refine ⟨fun h => Bool.noConfusion h, ?_⟩
  apply x3
  (repeat apply CodeT.seq)
  apply CodeT.region (fun _ => PPm)
  apply Run.op; (apply L_mov; rfl; rfl); rfl; rfl
  apply Run.op; (apply L_lss; rfl; rfl; rfl); rfl; rfl
  apply Run.done; refine ⟨fun h => Bool.noConfusion h, ?_⟩
  apply x3
  refine CodeT.cond rfl (fun h => ?_) (fun h => ?_)
  replace H := ifT (of_decide_eq_true h) H
  (repeat apply CodeT.seq)
  apply CodeT.region (fun _ => PPm)
  apply Run.op; (apply L_asg; rfl; rfl); rfl; rfl
  apply Run.done; refine ⟨fun h => Bool.noConfusion h, ?_⟩
  apply x3
  apply CodeT.ret
  apply x4
  apply x1
  obtain rfl := Option.some.inj H
  refine Ev.y2 ?_
  refine XRet.mk ?_
  exact RetIs.sc1 rfl
  replace H := ifF (of_decide_eq_false h) H
  (repeat apply CodeT.seq)
  apply CodeT.skip
  apply x5
  apply x3
  apply CodeT.region (fun _ => PPm)
  apply Run.op; (apply L_mov; rfl; rfl); rfl; rfl
  apply Run.op; (apply L_add; rfl; rfl; rfl; rfl); rfl; rfl
  apply Run.op; (apply L_asg; rfl; rfl); rfl; rfl
  apply Run.done; refine ⟨fun h => Bool.noConfusion h, ?_⟩
  obtain rfl := Option.some.inj H
  refine Ev.y1 ?_
  refine Ent.list [] (io0 hio _) rfl ?_ ?_ <;> (repeat' first | exact trivial | (refine And.intro ⟨_, rfl, fun h => (by first | rfl | exact Bool.noConfusion h)⟩ ?_))
  replace H := ifF (of_decide_eq_false h) H
  (repeat apply CodeT.seq)
  apply CodeT.exit
  apply x2
  obtain rfl := Option.some.inj H
  refine Ev.y3 ?_
  refine XEnv.mk ?_
  refine Ent.list [] (io0 hio _) rfl ?_ ?_ <;> (repeat' first | exact trivial | (refine And.intro ⟨_, rfl, fun h => (by first | rfl | exact Bool.noConfusion h)⟩ ?_))
  rcases d8 with (d9 | d11)
  intro e E' hX; obtain ⟨rfl, g10⟩ := XEnv.out hX
  refine x6 rfl ?_
  apply x3
  refine CodeT.weak g10 ?_
  (repeat apply CodeT.seq)
  apply CodeT.region (fun _ => PPm)
  apply Run.op; (apply L_mov; rfl; rfl); rfl; rfl
  apply Run.op; (apply L_asg; rfl; rfl); rfl; rfl
  apply Run.done; refine ⟨fun h => Bool.noConfusion h, ?_⟩
  apply x3
  apply CodeT.ret
  cases H
  apply x12
  exact RetIs.sc1 rfl
  intro e E' hX; obtain ⟨rfl, g12⟩ := XRet.out hX
  apply x4
  apply x1
  cases H
  apply x12
  exact g12
theorem m_laws_szConditional (a0 : Conditional) (a1 : Int) (r : Int) (H : laws_szConditional a0 a1 = some r) : Meets Try.prog 162 [.agg (encConditional a0), .sc (.int .i64 a1)] (.sc (.int .i64 r)) true := by
  refine Meets.intro2 (N := 18) (rs := #[.tmp 4]) Try.func162 rfl rfl rfl rfl ?_
  intro Γ hio
  unfold laws_szConditional at H
  (repeat apply CodeT.seq)
  apply CodeT.region (fun _ => PPm)
  apply Run.op; (apply L_box false; rfl; rfl; rfl; (exact io1 hio _); rfl); rfl; rfl
  apply Run.op; (apply L_asg; rfl; rfl); rfl; rfl
  apply Run.done; refine ⟨fun h => Bool.noConfusion h, ?_⟩
  apply x3
  (repeat apply CodeT.seq)
  apply CodeT.region (fun _ => PPm)
  apply Run.op; (apply L_fldP; rfl; rfl; rfl; rfl); rfl; rfl
  apply Run.op; (apply L_ldPA; rfl; rfl; (first | exact seg_whole rfl | rfl); rfl; (intro h; cases h); (first | exact .inl rfl | exact .inr rfl); rfl); rfl; rfl
  apply Run.op; (apply L_mov; rfl; rfl); rfl; rfl
  obtain ⟨r1, hr1, H⟩ := bindS H
  apply Run.op; (apply L_call; ((apply ArgsV.cons; (apply ArgV.val; rfl; rfl)); (apply ArgsV.cons; (apply ArgV.val; rfl; rfl)); (apply ArgsV.nil)); (exact m_laws_szRat a0.fTotal a1 _ hr1); rfl; rfl; rfl); rfl; rfl
  apply Run.op; (apply L_asg; rfl; rfl); rfl; rfl
  apply Run.done; refine ⟨fun h => Bool.noConfusion h, ?_⟩
  apply x3
  (repeat apply CodeT.seq)
  apply CodeT.region (fun _ => PPm)
  apply Run.op; (apply L_mov; rfl; rfl); rfl; rfl
  apply Run.op; (apply L_lss; rfl; rfl; rfl); rfl; rfl
  apply Run.done; refine ⟨fun h => Bool.noConfusion h, ?_⟩
  apply x3
  (repeat apply CodeT.seq)
  refine CodeT.cond rfl (fun h => ?_) (fun h => ?_)
  replace H := ifT (of_decide_eq_true h) H
  (repeat apply CodeT.seq)
  apply CodeT.region (fun _ => PPm)
  apply Run.op; (apply L_asg; rfl; rfl); rfl; rfl
  apply Run.done; refine ⟨fun h => Bool.noConfusion h, ?_⟩
  apply x3
  apply CodeT.ret
  apply x1
  cases H
  apply x12
  exact RetIs.sc1 rfl
  replace H := ifF (of_decide_eq_false h) H
  (repeat apply CodeT.seq)
  apply CodeT.skip
  apply x3
  (repeat apply CodeT.seq)
  apply CodeT.region (fun _ => PPm)
  apply Run.op; (apply L_fldP; rfl; rfl; rfl; rfl); rfl; rfl
  apply Run.op; (apply L_ldP; rfl; rfl; rfl; (first | exact .inl rfl | exact .inr rfl); rfl); rfl; rfl
  apply Run.op; (apply L_mov; rfl; rfl); rfl; rfl
  obtain ⟨r2, hr2, H⟩ := bindS H
  apply Run.op; (apply L_call; ((apply ArgsV.cons; (apply ArgV.val; rfl; rfl)); (apply ArgsV.cons; (apply ArgV.val; rfl; rfl)); (apply ArgsV.nil)); (exact m_laws_szParentS a0.fParents r1 _ hr2); rfl; rfl; rfl); rfl; rfl
  apply Run.op; (apply L_asg; rfl; rfl); rfl; rfl
  apply Run.done; refine ⟨fun h => Bool.noConfusion h, ?_⟩
  apply x3
  (repeat apply CodeT.seq)
  apply CodeT.region (fun _ => PPm)
  apply Run.op; (apply L_mov; rfl; rfl); rfl; rfl
  apply Run.op; (apply L_lss; rfl; rfl; rfl); rfl; rfl
  apply Run.done; refine ⟨fun h => Bool.noConfusion h, ?_⟩
  apply x3
  (repeat apply CodeT.seq)
  refine CodeT.cond rfl (fun h => ?_) (fun h => ?_)
  replace H := ifT (of_decide_eq_true h) H
  (repeat apply CodeT.seq)
  apply CodeT.region (fun _ => PPm)
  apply Run.op; (apply L_asg; rfl; rfl); rfl; rfl
  apply Run.done; refine ⟨fun h => Bool.noConfusion h, ?_⟩
  apply x3
  apply CodeT.ret
  apply x1
  cases H
  apply x12
  exact RetIs.sc1 rfl
  replace H := ifF (of_decide_eq_false h) H
  (repeat apply CodeT.seq)
  apply CodeT.skip
  apply x3
  (repeat apply CodeT.seq)
  apply CodeT.region (fun _ => PPm)
  apply Run.op; (apply L_mov; rfl; rfl); rfl; rfl
  apply Run.op; (apply L_asg; rfl; rfl); rfl; rfl
  apply Run.done; refine ⟨fun h => Bool.noConfusion h, ?_⟩
  apply x3
  apply CodeT.ret
  cases H
  apply x12
  exact RetIs.sc1 rfl
theorem m_laws_szTreeNode (a0 : TreeNode) (a1 : Int) (r : Int) (H : laws_szTreeNode a0 a1 = some r) : Meets Try.prog 131 [.agg (encTreeNode a0), .sc (.int .i64 a1)] (.sc (.int .i64 r)) true := by
  refine Meets.intro2 (N := 30) (rs := #[.tmp 4]) Try.func131 rfl rfl rfl rfl ?_
  intro Γ hio
  unfold laws_szTreeNode at H
  (repeat apply CodeT.seq)
  apply CodeT.region (fun _ => PPm)
  apply Run.op; (apply L_box false; rfl; rfl; rfl; (exact io1 hio _); rfl); rfl; rfl
  apply Run.op; (apply L_asg; rfl; rfl); rfl; rfl
  apply Run.done; refine ⟨fun h => Bool.noConfusion h, ?_⟩
  apply x3
  (repeat apply CodeT.seq)
  apply CodeT.region (fun _ => PPm)
  apply Run.op; (apply L_fldP; rfl; rfl; rfl; rfl); rfl; rfl
  apply Run.op; (apply L_ldP; rfl; rfl; rfl; (first | exact .inl rfl | exact .inr rfl); rfl); rfl; rfl
  apply Run.op; (apply L_mov; rfl; rfl); rfl; rfl
  obtain ⟨r1, hr1, H⟩ := bindS H
  apply Run.op; (apply L_call; ((apply ArgsV.cons; (apply ArgV.val; rfl; rfl)); (apply ArgsV.cons; (apply ArgV.val; rfl; rfl)); (apply ArgsV.nil)); (exact m_laws_szLinkS a0.fOwn a1 _ hr1); rfl; rfl; rfl); rfl; rfl
  apply Run.op; (apply L_asg; rfl; rfl); rfl; rfl
  apply Run.done; refine ⟨fun h => Bool.noConfusion h, ?_⟩
  apply x3
  (repeat apply CodeT.seq)
  apply CodeT.region (fun _ => PPm)
  apply Run.op; (apply L_mov; rfl; rfl); rfl; rfl
  apply Run.op; (apply L_lss; rfl; rfl; rfl); rfl; rfl
  apply Run.done; refine ⟨fun h => Bool.noConfusion h, ?_⟩
  apply x3
  (repeat apply CodeT.seq)
  refine CodeT.cond rfl (fun h => ?_) (fun h => ?_)
  replace H := ifT (of_decide_eq_true h) H
  (repeat apply CodeT.seq)
  apply CodeT.region (fun _ => PPm)
  apply Run.op; (apply L_asg; rfl; rfl); rfl; rfl
  apply Run.done; refine ⟨fun h => Bool.noConfusion h, ?_⟩
  apply x3
  apply CodeT.ret
  apply x1
  cases H
  apply x12
  exact RetIs.sc1 rfl
  replace H := ifF (of_decide_eq_false h) H
  (repeat apply CodeT.seq)
  apply CodeT.skip
  apply x3
  (repeat apply CodeT.seq)
  apply CodeT.region (fun _ => PPm)
  apply Run.op; (apply L_fldP; rfl; rfl; rfl; rfl); rfl; rfl
  apply Run.op; (apply L_ldPA; rfl; rfl; (first | exact seg_whole rfl | rfl); rfl; (intro h; cases h); (first | exact .inl rfl | exact .inr rfl); rfl); rfl; rfl
  apply Run.op; (apply L_mov; rfl; rfl); rfl; rfl
  obtain ⟨r2, hr2, H⟩ := bindS H
  apply Run.op; (apply L_call; ((apply ArgsV.cons; (apply ArgV.val; rfl; rfl)); (apply ArgsV.cons; (apply ArgV.val; rfl; rfl)); (apply ArgsV.nil)); (exact m_laws_szConditional a0.fCond r1 _ hr2); rfl; rfl; rfl); rfl; rfl
  apply Run.op; (apply L_asg; rfl; rfl); rfl; rfl
  apply Run.done; refine ⟨fun h => Bool.noConfusion h, ?_⟩
  apply x3
  (repeat apply CodeT.seq)
  apply CodeT.region (fun _ => PPm)
  apply Run.op; (apply L_mov; rfl; rfl); rfl; rfl
  apply Run.op; (apply L_lss; rfl; rfl; rfl); rfl; rfl
  apply Run.done; refine ⟨fun h => Bool.noConfusion h, ?_⟩
  apply x3
  (repeat apply CodeT.seq)
  refine CodeT.cond rfl (fun h => ?_) (fun h => ?_)
  replace H := ifT (of_decide_eq_true h) H
  (repeat apply CodeT.seq)
  apply CodeT.region (fun _ => PPm)
  apply Run.op; (apply L_asg; rfl; rfl); rfl; rfl
  apply Run.done; refine ⟨fun h => Bool.noConfusion h, ?_⟩
  apply x3
  apply CodeT.ret
  apply x1
  cases H
  apply x12
  exact RetIs.sc1 rfl
  replace H := ifF (of_decide_eq_false h) H
  (repeat apply CodeT.seq)
  apply CodeT.skip
  apply x3
  (repeat apply CodeT.seq)
  apply CodeT.region (fun _ => PPm)
  apply Run.op; (apply L_fldP; rfl; rfl; rfl; rfl); rfl; rfl
  apply Run.op; (apply L_ldP; rfl; rfl; rfl; (first | exact .inl rfl | exact .inr rfl); rfl); rfl; rfl
  apply Run.op; (apply L_mov; rfl; rfl); rfl; rfl
  obtain ⟨r3, hr3, H⟩ := bindS H
  apply Run.op; (apply L_call; ((apply ArgsV.cons; (apply ArgV.val; rfl; rfl)); (apply ArgsV.cons; (apply ArgV.val; rfl; rfl)); (apply ArgsV.nil)); (exact m_laws_szLinkS a0.fMessages r2 _ hr3); rfl; rfl; rfl); rfl; rfl
  apply Run.op; (apply L_asg; rfl; rfl); rfl; rfl
  apply Run.done; refine ⟨fun h => Bool.noConfusion h, ?_⟩
  apply x3
  (repeat apply CodeT.seq)
  apply CodeT.region (fun _ => PPm)
  apply Run.op; (apply L_mov; rfl; rfl); rfl; rfl
  apply Run.op; (apply L_lss; rfl; rfl; rfl); rfl; rfl
  apply Run.done; refine ⟨fun h => Bool.noConfusion h, ?_⟩
  apply x3
  (repeat apply CodeT.seq)
  refine CodeT.cond rfl (fun h => ?_) (fun h => ?_)
  replace H := ifT (of_decide_eq_true h) H
  (repeat apply CodeT.seq)
  apply CodeT.region (fun _ => PPm)
  apply Run.op; (apply L_asg; rfl; rfl); rfl; rfl
  apply Run.done; refine ⟨fun h => Bool.noConfusion h, ?_⟩
  apply x3
  apply CodeT.ret
  apply x1
  cases H
  apply x12
  exact RetIs.sc1 rfl
  replace H := ifF (of_decide_eq_false h) H
  (repeat apply CodeT.seq)
  apply CodeT.skip
  apply x3
  (repeat apply CodeT.seq)
  apply CodeT.region (fun _ => PPm)
  apply Run.op; (apply L_fldP; rfl; rfl; rfl; rfl); rfl; rfl
  apply Run.op; (apply L_ldPA; rfl; rfl; (first | exact seg_whole rfl | rfl); rfl; (intro h; cases h); (first | exact .inl rfl | exact .inr rfl); rfl); rfl; rfl
  apply Run.op; (apply L_mov; rfl; rfl); rfl; rfl
  obtain ⟨r4, hr4, H⟩ := bindS H
  apply Run.op; (apply L_call; ((apply ArgsV.cons; (apply ArgV.val; rfl; rfl)); (apply ArgsV.cons; (apply ArgV.val; rfl; rfl)); (apply ArgsV.nil)); (exact m_laws_szRat a0.fEnergy r3 _ hr4); rfl; rfl; rfl); rfl; rfl
  apply Run.op; (apply L_asg; rfl; rfl); rfl; rfl
  apply Run.done; refine ⟨fun h => Bool.noConfusion h, ?_⟩
  apply x3
  (repeat apply CodeT.seq)
  apply CodeT.region (fun _ => PPm)
  apply Run.op; (apply L_mov; rfl; rfl); rfl; rfl
  apply Run.op; (apply L_lss; rfl; rfl; rfl); rfl; rfl
  apply Run.done; refine ⟨fun h => Bool.noConfusion h, ?_⟩
  apply x3
  (repeat apply CodeT.seq)
  refine CodeT.cond rfl (fun h => ?_) (fun h => ?_)
  replace H := ifT (of_decide_eq_true h) H
  (repeat apply CodeT.seq)
  apply CodeT.region (fun _ => PPm)
  apply Run.op; (apply L_asg; rfl; rfl); rfl; rfl
  apply Run.done; refine ⟨fun h => Bool.noConfusion h, ?_⟩
  apply x3
  apply CodeT.ret
  apply x1
  cases H
  apply x12
  exact RetIs.sc1 rfl
  replace H := ifF (of_decide_eq_false h) H
  (repeat apply CodeT.seq)
  apply CodeT.skip
  apply x3
  (repeat apply CodeT.seq)
  apply CodeT.region (fun _ => PPm)
  apply Run.op; (apply L_mov; rfl; rfl); rfl; rfl
  apply Run.op; (apply L_asg; rfl; rfl); rfl; rfl
  apply Run.done; refine ⟨fun h => Bool.noConfusion h, ?_⟩
  apply x3
  apply CodeT.ret
  cases H
  apply x12
  exact RetIs.sc1 rfl
theorem m_laws_szTreeNodeS (a0 : (List TreeNode)) (a1 : Int) (r : Int) (H : laws_szTreeNodeS a0 a1 = some r) : Meets Try.prog 90 [.sl a0.length (a0.flatMap encTreeNode), .sc (.int .i64 a1)] (.sc (.int .i64 r)) true := by
  refine Meets.intro2 (N := 27) (rs := #[.tmp 4]) Try.func90 rfl rfl rfl rfl ?_
  intro Γ hio
  unfold laws_szTreeNodeS at H
  (repeat apply CodeT.seq)
  apply CodeT.region (fun _ => PPm)
  apply Run.op; (apply L_asg; rfl; rfl); rfl; rfl
  apply Run.done; refine ⟨fun h => Bool.noConfusion h, ?_⟩
  apply x3
  (repeat apply CodeT.seq)
  apply CodeT.region (fun _ => PPm)
  apply Run.op; (apply L_mov; rfl; rfl); rfl; rfl
  apply Run.op; (apply L_mov; rfl; rfl); rfl; rfl
  apply Run.op; (apply L_len; rfl; rfl); rfl; rfl
  obtain ⟨v1, hv1, H⟩ := bindS H
  apply Run.op; (apply L_sub; rfl; rfl; (exact letS hv1); rfl); rfl; rfl
  apply Run.op; (apply L_asg; rfl; rfl); rfl; rfl
  apply Run.done; refine ⟨fun h => Bool.noConfusion h, ?_⟩
  apply x3
  (repeat apply CodeT.seq)
  apply CodeT.region (fun _ => PPm)
  apply Run.op; (apply L_mov; rfl; rfl); rfl; rfl
  apply Run.op; (apply L_lss; rfl; rfl; rfl); rfl; rfl
  apply Run.done; refine ⟨fun h => Bool.noConfusion h, ?_⟩
  apply x3
  (repeat apply CodeT.seq)
  refine CodeT.cond rfl (fun h => ?_) (fun h => ?_)
  replace H := ifT (of_decide_eq_true h) H
  (repeat apply CodeT.seq)
  apply CodeT.region (fun _ => PPm)
  apply Run.op; (apply L_asg; rfl; rfl); rfl; rfl
  apply Run.done; refine ⟨fun h => Bool.noConfusion h, ?_⟩
  apply x3
  apply CodeT.ret
  apply x1
  cases H
  apply x12
  exact RetIs.sc1 rfl
  replace H := ifF (of_decide_eq_false h) H
  (repeat apply CodeT.seq)
  apply CodeT.skip
  apply x3
  (repeat apply CodeT.seq)
  apply CodeT.region (fun _ => PPm)
  apply Run.op; (apply L_asg; rfl; rfl); rfl; rfl
  apply Run.done; refine ⟨fun h => Bool.noConfusion h, ?_⟩
  apply x3
  (repeat apply CodeT.seq)
  apply CodeT.block
  (repeat apply CodeT.seq)
  obtain ⟨d8, hd8, H⟩ := bindS H
  refine CodeT.lloop (fun s => ⟨[(0, ⟨.sl a0.length (a0.flatMap encTreeNode), false⟩), (1, ⟨.sc (.int .i64 s.1), false⟩), (5, ⟨.sc (.int .i64 s.2), false⟩)], []⟩) (fun x e E => match x with | (.inl d) => XEnv Γ (.exit 0) ⟨[(1, ⟨.sc (.int .i64 d), false⟩)], []⟩ e E | (.inr d) => XRet Γ #[.tmp 4] (.sc (.int .i64 d)) true e E) hd8 ?_ ?_ ?_
  refine Ent.list [] (io0 hio _) rfl ?_ ?_ <;> (repeat' first | exact trivial | (refine And.intro ⟨_, rfl, fun h => (by first | rfl | exact Bool.noConfusion h)⟩ ?_))
  clear H hd8
  rintro ⟨v4, v5⟩ o H
  unfold laws_szTreeNodeS_L1 at H
  (repeat apply CodeT.seq)
  apply CodeT.region (fun _ => PPm)
  apply Run.op; (apply L_mov; rfl; rfl); rfl; rfl
  apply Run.op; (apply L_mov; rfl; rfl); rfl; rfl
  apply Run.op; (apply L_len; rfl; rfl); rfl; rfl
  apply Run.op; (apply L_lss; rfl; rfl; rfl); rfl; rfl
  apply Run.done; refine ⟨fun h => Bool.noConfusion h, ?_⟩
  apply x3
  (repeat apply CodeT.seq)
  refine CodeT.cond rfl (fun h => ?_) (fun h => ?_)
  replace H := ifT (of_decide_eq_true h) H
  (repeat apply CodeT.seq)
  apply CodeT.skip
  apply x3
  (repeat apply CodeT.seq)
  apply CodeT.block
  (repeat apply CodeT.seq)
  apply CodeT.region (fun _ => PPm)
  apply Run.op; (apply L_mov; rfl; rfl); rfl; rfl
  apply Run.op; (apply L_mov; rfl; rfl); rfl; rfl
  obtain ⟨y6, hy6, H⟩ := bindS H
  apply Run.op; (apply L_ixS2; rfl; rfl; rfl; (exact hy6); (intro _; rfl); rfl); rfl; rfl
  apply Run.op; (apply L_ldIA; rfl; (first | exact take_whole rfl | rfl); rfl; (intro h; cases h); rfl; rfl); rfl; rfl
  apply Run.op; (apply L_mov; rfl; rfl); rfl; rfl
  obtain ⟨r7, hr7, H⟩ := bindS H
  apply Run.op; (apply L_call; ((apply ArgsV.cons; (apply ArgV.val; rfl; rfl)); (apply ArgsV.cons; (apply ArgV.val; rfl; rfl)); (apply ArgsV.nil)); (exact m_laws_szTreeNode y6 v4 _ hr7); rfl; rfl; rfl); rfl; rfl
  apply Run.op; (apply L_asg; rfl; rfl); rfl; rfl
  apply Run.done; refine ⟨fun h => Bool.noConfusion h, ?_⟩
  apply x3
  (repeat apply CodeT.seq)
  apply CodeT.region (fun _ => PPm)
  apply Run.op; (apply L_mov; rfl; rfl); rfl; rfl
  apply Run.op; (apply L_lss; rfl; rfl; rfl); rfl; rfl
  apply Run.done; refine ⟨fun h => Bool.noConfusion h, ?_⟩
  apply x3
  refine CodeT.cond rfl (fun h => ?_) (fun h => ?_)
  replace H := ifT (of_decide_eq_true h) H
  (repeat apply CodeT.seq)
  apply CodeT.region (fun _ => PPm)
  apply Run.op; (apply L_asg; rfl; rfl); rfl; rfl
  apply Run.done; refine ⟨fun h => Bool.noConfusion h, ?_⟩
  apply x3
  apply CodeT.ret
  apply x4
  apply x1
  obtain rfl := Option.some.inj H
  refine Ev.y2 ?_
  refine XRet.mk ?_
  exact RetIs.sc1 rfl
  replace H := ifF (of_decide_eq_false h) H
  (repeat apply CodeT.seq)
  apply CodeT.skip
  apply x5
  apply x3
  apply CodeT.region (fun _ => PPm)
  apply Run.op; (apply L_mov; rfl; rfl); rfl; rfl
  apply Run.op; (apply L_add; rfl; rfl; rfl; rfl); rfl; rfl
  apply Run.op; (apply L_asg; rfl; rfl); rfl; rfl
  apply Run.done; refine ⟨fun h => Bool.noConfusion h, ?_⟩
  obtain rfl := Option.some.inj H
  refine Ev.y1 ?_
  refine Ent.list [] (io0 hio _) rfl ?_ ?_ <;> (repeat' first | exact trivial | (refine And.intro ⟨_, rfl, fun h => (by first | rfl | exact Bool.noConfusion h)⟩ ?_))
  replace H := ifF (of_decide_eq_false h) H
  (repeat apply CodeT.seq)
  apply CodeT.exit
  apply x2
  obtain rfl := Option.some.inj H
  refine Ev.y3 ?_
  refine XEnv.mk ?_
  refine Ent.list [] (io0 hio _) rfl ?_ ?_ <;> (repeat' first | exact trivial | (refine And.intro ⟨_, rfl, fun h => (by first | rfl | exact Bool.noConfusion h)⟩ ?_))
  rcases d8 with (d9 | d11)
  intro e E' hX; obtain ⟨rfl, g10⟩ := XEnv.out hX
  refine x6 rfl ?_
  apply x3
  refine CodeT.weak g10 ?_
  (repeat apply CodeT.seq)
  apply CodeT.region (fun _ => PPm)
  apply Run.op; (apply L_mov; rfl; rfl); rfl; rfl
  apply Run.op; (apply L_asg; rfl; rfl); rfl; rfl
  apply Run.done; refine ⟨fun h => Bool.noConfusion h, ?_⟩
  apply x3
  apply CodeT.ret
  cases H
  apply x12
  exact RetIs.sc1 rfl
  intro e E' hX; obtain ⟨rfl, g12⟩ := XRet.out hX
  apply x4
  apply x1
  cases H
  apply x12
  exact g12
theorem m_laws_szTree (a0 : Tree) (a1 : Int) (r : Int) (H : laws_szTree a0 a1 = some r) : Meets Try.prog 39 [.agg (encTree a0), .sc (.int .i64 a1)] (.sc (.int .i64 r)) true := by
  refine Meets.intro2 (N := 12) (rs := #[.tmp 4]) Try.func39 rfl rfl rfl rfl ?_
  intro Γ hio
  unfold laws_szTree at H
  (repeat apply CodeT.seq)
  apply CodeT.region (fun _ => PPm)
  apply Run.op; (apply L_box false; rfl; rfl; rfl; (exact io1 hio _); rfl); rfl; rfl
  apply Run.op; (apply L_asg; rfl; rfl); rfl; rfl
  apply Run.done; refine ⟨fun h => Bool.noConfusion h, ?_⟩
  apply x3
  (repeat apply CodeT.seq)
  apply CodeT.region (fun _ => PPm)
  apply Run.op; (apply L_fldP; rfl; rfl; rfl; rfl); rfl; rfl
  apply Run.op; (apply L_ldP; rfl; rfl; rfl; (first | exact .inl rfl | exact .inr rfl); rfl); rfl; rfl
  apply Run.op; (apply L_mov; rfl; rfl); rfl; rfl
  obtain ⟨r1, hr1, H⟩ := bindS H
  apply Run.op; (apply L_call; ((apply ArgsV.cons; (apply ArgV.val; rfl; rfl)); (apply ArgsV.cons; (apply ArgV.val; rfl; rfl)); (apply ArgsV.nil)); (exact m_laws_szTreeNodeS a0.fNodes a1 _ hr1); rfl; rfl; rfl); rfl; rfl
  apply Run.op; (apply L_asg; rfl; rfl); rfl; rfl
  apply Run.done; refine ⟨fun h => Bool.noConfusion h, ?_⟩
  apply x3
  (repeat apply CodeT.seq)
  apply CodeT.region (fun _ => PPm)
  apply Run.op; (apply L_mov; rfl; rfl); rfl; rfl
  apply Run.op; (apply L_lss; rfl; rfl; rfl); rfl; rfl
  apply Run.done; refine ⟨fun h => Bool.noConfusion h, ?_⟩
  apply x3
  (repeat apply CodeT.seq)
  refine CodeT.cond rfl (fun h => ?_) (fun h => ?_)
  replace H := ifT (of_decide_eq_true h) H
  (repeat apply CodeT.seq)
  apply CodeT.region (fun _ => PPm)
  apply Run.op; (apply L_asg; rfl; rfl); rfl; rfl
  apply Run.done; refine ⟨fun h => Bool.noConfusion h, ?_⟩
  apply x3
  apply CodeT.ret
  apply x1
  cases H
  apply x12
  exact RetIs.sc1 rfl
  replace H := ifF (of_decide_eq_false h) H
  (repeat apply CodeT.seq)
  apply CodeT.skip
  apply x3
  (repeat apply CodeT.seq)
  apply CodeT.region (fun _ => PPm)
  apply Run.op; (apply L_mov; rfl; rfl); rfl; rfl
  apply Run.op; (apply L_asg; rfl; rfl); rfl; rfl
  apply Run.done; refine ⟨fun h => Bool.noConfusion h, ?_⟩
  apply x3
  apply CodeT.ret
  cases H
  apply x12
  exact RetIs.sc1 rfl
theorem m_laws_toIntS (a0 : (List Int)) (r : (List Int)) (H : laws_toIntS a0 = some r) : Meets Try.prog 67 [.sl a0.length (a0.flatMap (encI .i64))] (.rw 1 r.length (r.flatMap (encI .i64))) true := by
  refine Meets.intro2 (N := 22) (rs := #[.tmp 2]) Try.func67 rfl rfl rfl rfl ?_
  intro Γ hio
  unfold laws_toIntS at H
  (repeat apply CodeT.seq)
  apply CodeT.region (fun _ => PPm)
  apply Run.op; (apply L_asg; rfl; rfl); rfl; rfl
  apply Run.done; refine ⟨fun h => Bool.noConfusion h, ?_⟩
  apply x3
  (repeat apply CodeT.seq)
  apply CodeT.region (fun _ => PPm)
  apply Run.op; (apply L_mov; rfl; rfl); rfl; rfl
  apply Run.op; (apply L_len; rfl; rfl); rfl; rfl
  obtain ⟨_u, hm1, H⟩ := bindS H
  apply Run.op; (apply L_make2 (enc := (encI .i64)) (z := 0); rfl; rfl; rfl; (exact chkS hm1); rfl; decide; (intro h; cases h); (exact io1 hio _); rfl); rfl; rfl
  apply Run.op; (apply L_asg; rfl; rfl); rfl; rfl
  apply Run.done; refine ⟨fun h => Bool.noConfusion h, ?_⟩
  apply x3
  (repeat apply CodeT.seq)
  apply CodeT.region (fun _ => PPm)
  apply Run.op; (apply L_asg; rfl; rfl); rfl; rfl
  apply Run.done; refine ⟨fun h => Bool.noConfusion h, ?_⟩
  apply x3
  (repeat apply CodeT.seq)
  apply CodeT.block
  (repeat apply CodeT.seq)
  obtain ⟨d13, hd13, H⟩ := bindS H
  refine CodeT.lloop (fun s => ⟨[(0, ⟨.sl a0.length (a0.flatMap (encI .i64)), false⟩), (3, ⟨.ref 503 1 0 s.2.length, false⟩), (4, ⟨.sc (.int .i64 s.1), false⟩)], [(503, some ⟨s.2.flatMap (encI .i64), true, false⟩)]⟩) (fun d e E => XEnv Γ (.exit 0) ⟨[(3, ⟨.ref 503 1 0 d.length, false⟩)], [(503, some ⟨d.flatMap (encI .i64), true, false⟩)]⟩ e E) hd13 ?_ ?_ ?_
  refine Ent.list [(503, 7)] (io0 hio _) rfl ?_ ?_ <;> (repeat' first | exact trivial | (refine And.intro ⟨_, rfl, fun h => (by first | rfl | exact Bool.noConfusion h)⟩ ?_))
  clear H hd13
  rintro ⟨v6, v7⟩ o H
  unfold laws_toIntS_L1 at H
  (repeat apply CodeT.seq)
  apply CodeT.region (fun _ => PPm)
  apply Run.op; (apply L_mov; rfl; rfl); rfl; rfl
  apply Run.op; (apply L_mov; rfl; rfl); rfl; rfl
  apply Run.op; (apply L_len; rfl; rfl); rfl; rfl
  apply Run.op; (apply L_lss; rfl; rfl; rfl); rfl; rfl
  apply Run.done; refine ⟨fun h => Bool.noConfusion h, ?_⟩
  apply x3
  (repeat apply CodeT.seq)
  refine CodeT.cond rfl (fun h => ?_) (fun h => ?_)
  replace H := ifT (of_decide_eq_true h) H
  (repeat apply CodeT.seq)
  apply CodeT.skip
  apply x3
  (repeat apply CodeT.seq)
  apply CodeT.block
  (repeat apply CodeT.seq)
  apply CodeT.region (fun _ => PPm)
  apply Run.op; (apply L_mov; rfl; rfl); rfl; rfl
  apply Run.op; (apply L_mov; rfl; rfl); rfl; rfl
  apply Run.op; (apply L_mov; rfl; rfl); rfl; rfl
  apply Run.op; (apply L_mov; rfl; rfl); rfl; rfl
  obtain ⟨y8, hy8, H⟩ := bindS H
  apply Run.op; (apply L_ixS2; rfl; rfl; rfl; (exact hy8); (intro _; rfl); rfl); rfl; rfl
  apply Run.op; (apply L_ldI; rfl; rfl; rfl; rfl); rfl; rfl
  obtain ⟨y9, hy9, H⟩ := bindS H
  apply Run.op; (apply L_ixR2; rfl; rfl; rfl; (exact hy9); rfl; rfl); rfl; rfl
  obtain ⟨v10, hv10, H⟩ := bindS H
  have hl11 := setI_lenS hv10
  apply Run.op; (apply L_st; rfl; rfl; rfl; rfl; rfl; (intro h; cases h); (exact row_ble0 (sz := 1) (n := 1) hy9 (fun _ => rfl) (by decide)); (exact row_stL (sz := 1) hv10 hy9 (fun _ => rfl) rfl)); rfl; rfl
  apply Run.done; refine ⟨fun h => Bool.noConfusion h, ?_⟩
  apply x5
  apply x3
  refine CodeT.weak (Ent.relen (k := 3) (n' := v10.length) rfl (by first | (simp only [setI_len]; done) | (simp only [setI_len]; omega) | omega)) ?_
  apply CodeT.region (fun _ => PPm)
  apply Run.op; (apply L_mov; rfl; rfl); rfl; rfl
  apply Run.op; (apply L_add; rfl; rfl; rfl; rfl); rfl; rfl
  apply Run.op; (apply L_asg; rfl; rfl); rfl; rfl
  apply Run.done; refine ⟨fun h => Bool.noConfusion h, ?_⟩
  obtain rfl := Option.some.inj H
  refine Ev.y1 ?_
  refine Ent.list [] (io0 hio _) rfl ?_ ?_ <;> (repeat' first | exact trivial | (refine And.intro ⟨_, rfl, fun h => (by first | rfl | exact Bool.noConfusion h)⟩ ?_))
  replace H := ifF (of_decide_eq_false h) H
  (repeat apply CodeT.seq)
  apply CodeT.exit
  apply x2
  obtain rfl := Option.some.inj H
  refine Ev.y3 ?_
  refine XEnv.mk ?_
  refine Ent.list [] (io0 hio _) rfl ?_ ?_ <;> (repeat' first | exact trivial | (refine And.intro ⟨_, rfl, fun h => (by first | rfl | exact Bool.noConfusion h)⟩ ?_))
  skip
  intro e E' hX; obtain ⟨rfl, g14⟩ := XEnv.out hX
  refine x6 rfl ?_
  apply x3
  refine CodeT.weak g14 ?_
  (repeat apply CodeT.seq)
  apply CodeT.region (fun _ => PPm)
  apply Run.op; (apply L_mov; rfl; rfl); rfl; rfl
  apply Run.op; (apply L_asg; rfl; rfl); rfl; rfl
  apply Run.done; refine ⟨fun h => Bool.noConfusion h, ?_⟩
  apply x3
  apply CodeT.ret
  cases H
  apply x12
  exact RetIs.rW rfl rfl rfl (io1 hio _)
theorem m_laws_toBigInt (a0 : BigInt) (r : BigInt) (H : laws_toBigInt a0 = some r) : Meets Try.prog 191 [.agg (encBigInt a0)] (.agg (encWBigInt r)) true := by
  refine Meets.intro2 (N := 12) (rs := #[.cell 2 79]) Try.func191 rfl rfl rfl rfl ?_
  intro Γ hio
  unfold laws_toBigInt at H
  (repeat apply CodeT.seq)
  apply CodeT.region (fun _ => PPm)
  apply Run.op; (apply L_box false; rfl; rfl; rfl; (exact io1 hio _); rfl); rfl; rfl
  apply Run.op; (apply L_alloc false; (exact io1 hio _); rfl); rfl; rfl
  apply Run.done; refine ⟨fun h => Bool.noConfusion h, ?_⟩
  apply x3
  (repeat apply CodeT.seq)
  apply CodeT.region (fun _ => PPm)
  apply Run.op; (apply L_alloc false; (exact io1 hio _); rfl); rfl; rfl
  apply Run.done; refine ⟨fun h => Bool.noConfusion h, ?_⟩
  apply x3
  (repeat apply CodeT.seq)
  apply CodeT.region (fun _ => PPm)
  apply Run.op; (apply L_fldP; rfl; rfl; rfl; rfl); rfl; rfl
  apply Run.op; (apply L_ldP; rfl; rfl; rfl; (first | exact .inl rfl | exact .inr rfl); rfl); rfl; rfl
  apply Run.op; (apply L_fldP; rfl; rfl; rfl; rfl); rfl; rfl
  apply Run.op; (apply L_st; rfl; rfl; rfl; rfl; rfl; (intro h; cases h); rfl; (first | exact splice_whole rfl | rfl)); rfl; rfl
  apply Run.done; refine ⟨fun h => Bool.noConfusion h, ?_⟩
  apply x3
  (repeat apply CodeT.seq)
  apply CodeT.region (fun _ => PPm)
  apply Run.op; (apply L_fldP; rfl; rfl; rfl; rfl); rfl; rfl
  apply Run.op; (apply L_ldP; rfl; rfl; rfl; (first | exact .inl rfl | exact .inr rfl); rfl); rfl; rfl
  obtain ⟨r1, hr1, H⟩ := bindS H
  apply Run.op; (apply L_call; ((apply ArgsV.cons; (apply ArgV.val; rfl; rfl)); (apply ArgsV.nil)); (exact m_laws_toIntS a0.fMag _ hr1); rfl; rfl; rfl); rfl; rfl
  apply Run.op; (apply L_fldP; rfl; rfl; rfl; rfl); rfl; rfl
  apply Run.op; (apply L_stT; rfl; rfl; rfl; rfl; rfl; rfl; (intro h; cases h); rfl; (first | exact splice_whole rfl | rfl)); rfl; rfl
  apply Run.done; refine ⟨fun h => Bool.noConfusion h, ?_⟩
  apply x3
  (repeat apply CodeT.seq)
  apply CodeT.region (fun _ => PPm)
  apply Run.op; (apply L_ldPAT; rfl; rfl; rfl; (intro h; cases h); rfl; (exact io1 hio _); rfl); rfl; rfl
  apply Run.op; (apply L_stT; rfl; rfl; rfl; rfl; rfl; rfl; (intro h; cases h); rfl; (first | exact splice_whole rfl | rfl)); rfl; rfl
  apply Run.done; refine ⟨fun h => Bool.noConfusion h, ?_⟩
  apply x3
  apply CodeT.ret
  cases H
  apply x12
  exact RetIs.c1 rfl rfl rfl rfl (by intro h; cases h)
theorem m_laws_toRat (a0 : Rat) (r : Rat) (H : laws_toRat a0 = some r) : Meets Try.prog 166 [.agg (encRat a0)] (.agg (encWRat r)) true := by
  refine Meets.intro2 (N := 13) (rs := #[.cell 2 81]) Try.func166 rfl rfl rfl rfl ?_
  intro Γ hio
  unfold laws_toRat at H
  (repeat apply CodeT.seq)
  apply CodeT.region (fun _ => PPm)
  apply Run.op; (apply L_box false; rfl; rfl; rfl; (exact io1 hio _); rfl); rfl; rfl
  apply Run.op; (apply L_alloc false; (exact io1 hio _); rfl); rfl; rfl
  apply Run.done; refine ⟨fun h => Bool.noConfusion h, ?_⟩
  apply x3
  (repeat apply CodeT.seq)
  apply CodeT.region (fun _ => PPm)
  apply Run.op; (apply L_alloc false; (exact io1 hio _); rfl); rfl; rfl
  apply Run.done; refine ⟨fun h => Bool.noConfusion h, ?_⟩
  apply x3
  (repeat apply CodeT.seq)
  apply CodeT.region (fun _ => PPm)
  apply Run.op; (apply L_fldP; rfl; rfl; rfl; rfl); rfl; rfl
  apply Run.op; (apply L_ldPA; rfl; rfl; (first | exact seg_whole rfl | rfl); rfl; (intro h; cases h); (first | exact .inl rfl | exact .inr rfl); rfl); rfl; rfl
  obtain ⟨r1, hr1, H⟩ := bindS H
  apply Run.op; (apply L_call; ((apply ArgsV.cons; (apply ArgV.val; rfl; rfl)); (apply ArgsV.nil)); (exact m_laws_toBigInt a0.fNum _ hr1); rfl; rfl; rfl); rfl; rfl
  apply Run.op; (apply L_fldP; rfl; rfl; rfl; rfl); rfl; rfl
  apply Run.op; (apply L_stT; rfl; rfl; rfl; rfl; rfl; rfl; (intro h; cases h); rfl; (first | exact splice_whole rfl | rfl)); rfl; rfl
  apply Run.done; refine ⟨fun h => Bool.noConfusion h, ?_⟩
  apply x3
  (repeat apply CodeT.seq)
  apply CodeT.region (fun _ => PPm)
  apply Run.op; (apply L_fldP; rfl; rfl; rfl; rfl); rfl; rfl
  apply Run.op; (apply L_ldP; rfl; rfl; rfl; (first | exact .inl rfl | exact .inr rfl); rfl); rfl; rfl
  obtain ⟨r2, hr2, H⟩ := bindS H
  apply Run.op; (apply L_call; ((apply ArgsV.cons; (apply ArgV.val; rfl; rfl)); (apply ArgsV.nil)); (exact m_laws_toIntS a0.fDen _ hr2); rfl; rfl; rfl); rfl; rfl
  apply Run.op; (apply L_fldP; rfl; rfl; rfl; rfl); rfl; rfl
  apply Run.op; (apply L_stT; rfl; rfl; rfl; rfl; rfl; rfl; (intro h; cases h); rfl; (first | exact splice_whole rfl | rfl)); rfl; rfl
  apply Run.done; refine ⟨fun h => Bool.noConfusion h, ?_⟩
  apply x3
  (repeat apply CodeT.seq)
  apply CodeT.region (fun _ => PPm)
  apply Run.op; (apply L_ldPAT; rfl; rfl; rfl; (intro h; cases h); rfl; (exact io1 hio _); rfl); rfl; rfl
  apply Run.op; (apply L_stT; rfl; rfl; rfl; rfl; rfl; rfl; (intro h; cases h); rfl; (first | exact splice_whole rfl | rfl)); rfl; rfl
  apply Run.done; refine ⟨fun h => Bool.noConfusion h, ?_⟩
  apply x3
  apply CodeT.ret
  cases H
  apply x12
  exact RetIs.c1 rfl rfl rfl rfl (by intro h; cases h)
theorem m_laws_toLink (a0 : Link) (r : Link) (H : laws_toLink a0 = some r) : Meets Try.prog 189 [.agg (encLink a0)] (.agg (encWLink r)) true := by
  refine Meets.intro2 (N := 23) (rs := #[.cell 2 83]) Try.func189 rfl rfl rfl rfl ?_
  intro Γ hio
  unfold laws_toLink at H
  (repeat apply CodeT.seq)
  apply CodeT.region (fun _ => PPm)
  apply Run.op; (apply L_box false; rfl; rfl; rfl; (exact io1 hio _); rfl); rfl; rfl
  apply Run.op; (apply L_alloc false; (exact io1 hio _); rfl); rfl; rfl
  apply Run.done; refine ⟨fun h => Bool.noConfusion h, ?_⟩
  apply x3
  (repeat apply CodeT.seq)
  apply CodeT.region (fun _ => PPm)
  apply Run.op; (apply L_alloc false; (exact io1 hio _); rfl); rfl; rfl
  apply Run.done; refine ⟨fun h => Bool.noConfusion h, ?_⟩
  apply x3
  (repeat apply CodeT.seq)
  apply CodeT.region (fun _ => PPm)
  apply Run.op; (apply L_fldP; rfl; rfl; rfl; rfl); rfl; rfl
  apply Run.op; (apply L_ldP; rfl; rfl; rfl; (first | exact .inl rfl | exact .inr rfl); rfl); rfl; rfl
  apply Run.op; (apply L_fldP; rfl; rfl; rfl; rfl); rfl; rfl
  apply Run.op; (apply L_st; rfl; rfl; rfl; rfl; rfl; (intro h; cases h); rfl; (first | exact splice_whole rfl | rfl)); rfl; rfl
  apply Run.done; refine ⟨fun h => Bool.noConfusion h, ?_⟩
  apply x3
  (repeat apply CodeT.seq)
  apply CodeT.region (fun _ => PPm)
  apply Run.op; (apply L_fldP; rfl; rfl; rfl; rfl); rfl; rfl
  apply Run.op; (apply L_ldP; rfl; rfl; rfl; (first | exact .inl rfl | exact .inr rfl); rfl); rfl; rfl
  apply Run.op; (apply L_fldP; rfl; rfl; rfl; rfl); rfl; rfl
  apply Run.op; (apply L_st; rfl; rfl; rfl; rfl; rfl; (intro h; cases h); rfl; (first | exact splice_whole rfl | rfl)); rfl; rfl
  apply Run.done; refine ⟨fun h => Bool.noConfusion h, ?_⟩
  apply x3
  (repeat apply CodeT.seq)
  apply CodeT.region (fun _ => PPm)
  apply Run.op; (apply L_fldP; rfl; rfl; rfl; rfl); rfl; rfl
  apply Run.op; (apply L_ldPA; rfl; rfl; (first | exact seg_whole rfl | rfl); rfl; (intro h; cases h); (first | exact .inl rfl | exact .inr rfl); rfl); rfl; rfl
  obtain ⟨r1, hr1, H⟩ := bindS H
  apply Run.op; (apply L_call; ((apply ArgsV.cons; (apply ArgV.val; rfl; rfl)); (apply ArgsV.nil)); (exact m_laws_toRat a0.fWeight _ hr1); rfl; rfl; rfl); rfl; rfl
  apply Run.op; (apply L_fldP; rfl; rfl; rfl; rfl); rfl; rfl
  apply Run.op; (apply L_stT; rfl; rfl; rfl; rfl; rfl; rfl; (intro h; cases h); rfl; (first | exact splice_whole rfl | rfl)); rfl; rfl
  apply Run.done; refine ⟨fun h => Bool.noConfusion h, ?_⟩
  apply x3
  (repeat apply CodeT.seq)
  apply CodeT.region (fun _ => PPm)
  apply Run.op; (apply L_fldP; rfl; rfl; rfl; rfl); rfl; rfl
  apply Run.op; (apply L_ldPA; rfl; rfl; (first | exact seg_whole rfl | rfl); rfl; (intro h; cases h); (first | exact .inl rfl | exact .inr rfl); rfl); rfl; rfl
  obtain ⟨r2, hr2, H⟩ := bindS H
  apply Run.op; (apply L_call; ((apply ArgsV.cons; (apply ArgV.val; rfl; rfl)); (apply ArgsV.nil)); (exact m_laws_toRat a0.fDX _ hr2); rfl; rfl; rfl); rfl; rfl
  apply Run.op; (apply L_fldP; rfl; rfl; rfl; rfl); rfl; rfl
  apply Run.op; (apply L_stT; rfl; rfl; rfl; rfl; rfl; rfl; (intro h; cases h); rfl; (first | exact splice_whole rfl | rfl)); rfl; rfl
  apply Run.done; refine ⟨fun h => Bool.noConfusion h, ?_⟩
  apply x3
  (repeat apply CodeT.seq)
  apply CodeT.region (fun _ => PPm)
  apply Run.op; (apply L_fldP; rfl; rfl; rfl; rfl); rfl; rfl
  apply Run.op; (apply L_ldPA; rfl; rfl; (first | exact seg_whole rfl | rfl); rfl; (intro h; cases h); (first | exact .inl rfl | exact .inr rfl); rfl); rfl; rfl
  obtain ⟨r3, hr3, H⟩ := bindS H
  apply Run.op; (apply L_call; ((apply ArgsV.cons; (apply ArgV.val; rfl; rfl)); (apply ArgsV.nil)); (exact m_laws_toRat a0.fDY _ hr3); rfl; rfl; rfl); rfl; rfl
  apply Run.op; (apply L_fldP; rfl; rfl; rfl; rfl); rfl; rfl
  apply Run.op; (apply L_stT; rfl; rfl; rfl; rfl; rfl; rfl; (intro h; cases h); rfl; (first | exact splice_whole rfl | rfl)); rfl; rfl
  apply Run.done; refine ⟨fun h => Bool.noConfusion h, ?_⟩
  apply x3
  (repeat apply CodeT.seq)
  apply CodeT.region (fun _ => PPm)
  apply Run.op; (apply L_ldPAT; rfl; rfl; rfl; (intro h; cases h); rfl; (exact io1 hio _); rfl); rfl; rfl
  apply Run.op; (apply L_stT; rfl; rfl; rfl; rfl; rfl; rfl; (intro h; cases h); rfl; (first | exact splice_whole rfl | rfl)); rfl; rfl
  apply Run.done; refine ⟨fun h => Bool.noConfusion h, ?_⟩
  apply x3
  apply CodeT.ret
  cases H
  apply x12
  exact RetIs.c1 rfl rfl rfl rfl (by intro h; cases h)
theorem m_laws_toLinkS (a0 : (List Link)) (r : (List Link)) (H : laws_toLinkS a0 = some r) : Meets Try.prog 164 [.sl a0.length (a0.flatMap encLink)] (.rw 11 r.length (r.flatMap encWLink)) true := by
  refine Meets.intro2 (N := 23) (rs := #[.tmp 2]) Try.func164 rfl rfl rfl rfl ?_
  intro Γ hio
  unfold laws_toLinkS at H
  (repeat apply CodeT.seq)
  apply CodeT.region (fun _ => PPm)
  apply Run.op; (apply L_asg; rfl; rfl); rfl; rfl
  apply Run.done; refine ⟨fun h => Bool.noConfusion h, ?_⟩
  apply x3
  (repeat apply CodeT.seq)
  apply CodeT.region (fun _ => PPm)
  apply Run.op; (apply L_mov; rfl; rfl); rfl; rfl
  apply Run.op; (apply L_len; rfl; rfl); rfl; rfl
  obtain ⟨_u, hm1, H⟩ := bindS H
  apply Run.op; (apply Local.softO (SoftL.rep (e := fun _ => [.sc (.int .i64 0), .sc (.int .i64 0), .sc (.bool false), .sc (.slice none 0 0), .sc (.slice none 0 0), .sc (.bool false), .sc (.slice none 0 0), .sc (.slice none 0 0), .sc (.bool false), .sc (.slice none 0 0), .sc (.slice none 0 0)]) (e' := encWLink) (z := (Link.mk 0 0 (Rat.mk (BigInt.mk false ([])) ([])) (Rat.mk (BigInt.mk false ([])) ([])) (Rat.mk (BigInt.mk false ([])) ([])))) (SoftL.cons (Soft.refl _) (SoftL.cons (Soft.refl _) (SoftL.cons (Soft.refl _) (SoftL.cons Soft.nilW (SoftL.cons Soft.nilW (SoftL.cons (Soft.refl _) (SoftL.cons Soft.nilW (SoftL.cons Soft.nilW (SoftL.cons (Soft.refl _) (SoftL.cons Soft.nilW (SoftL.cons Soft.nilW SoftL.nil))))))))))) _); apply L_make2 (enc := fun _ => [.sc (.int .i64 0), .sc (.int .i64 0), .sc (.bool false), .sc (.slice none 0 0), .sc (.slice none 0 0), .sc (.bool false), .sc (.slice none 0 0), .sc (.slice none 0 0), .sc (.bool false), .sc (.slice none 0 0), .sc (.slice none 0 0)]) (z := (Link.mk 0 0 (Rat.mk (BigInt.mk false ([])) ([])) (Rat.mk (BigInt.mk false ([])) ([])) (Rat.mk (BigInt.mk false ([])) ([])))); rfl; rfl; rfl; (exact chkS hm1); rfl; decide; (intro h; cases h); (exact io1 hio _); rfl); rfl; rfl
  apply Run.op; (apply L_asg; rfl; rfl); rfl; rfl
  apply Run.done; refine ⟨fun h => Bool.noConfusion h, ?_⟩
  apply x3
  (repeat apply CodeT.seq)
  apply CodeT.region (fun _ => PPm)
  apply Run.op; (apply L_asg; rfl; rfl); rfl; rfl
  apply Run.done; refine ⟨fun h => Bool.noConfusion h, ?_⟩
  apply x3
  (repeat apply CodeT.seq)
  apply CodeT.block
  (repeat apply CodeT.seq)
  obtain ⟨d15, hd15, H⟩ := bindS H
  refine CodeT.lloop (fun s => ⟨[(0, ⟨.sl a0.length (a0.flatMap encLink), false⟩), (3, ⟨.ref 503 11 0 s.2.length, false⟩), (4, ⟨.sc (.int .i64 s.1), false⟩)], [(503, some ⟨s.2.flatMap encWLink, true, false⟩)]⟩) (fun d e E => XEnv Γ (.exit 0) ⟨[(3, ⟨.ref 503 11 0 d.length, false⟩)], [(503, some ⟨d.flatMap encWLink, true, false⟩)]⟩ e E) hd15 ?_ ?_ ?_
  refine Ent.list [(503, 7)] (io0 hio _) rfl ?_ ?_ <;> (repeat' first | exact trivial | (refine And.intro ⟨_, rfl, fun h => (by first | rfl | exact Bool.noConfusion h)⟩ ?_))
  clear H hd15
  rintro ⟨v7, v8⟩ o H
  unfold laws_toLinkS_L1 at H
  (repeat apply CodeT.seq)
  apply CodeT.region (fun _ => PPm)
  apply Run.op; (apply L_mov; rfl; rfl); rfl; rfl
  apply Run.op; (apply L_mov; rfl; rfl); rfl; rfl
  apply Run.op; (apply L_len; rfl; rfl); rfl; rfl
  apply Run.op; (apply L_lss; rfl; rfl; rfl); rfl; rfl
  apply Run.done; refine ⟨fun h => Bool.noConfusion h, ?_⟩
  apply x3
  (repeat apply CodeT.seq)
  refine CodeT.cond rfl (fun h => ?_) (fun h => ?_)
  replace H := ifT (of_decide_eq_true h) H
  (repeat apply CodeT.seq)
  apply CodeT.skip
  apply x3
  (repeat apply CodeT.seq)
  apply CodeT.block
  (repeat apply CodeT.seq)
  apply CodeT.region (fun _ => PPm)
  apply Run.op; (apply L_mov; rfl; rfl); rfl; rfl
  apply Run.op; (apply L_mov; rfl; rfl); rfl; rfl
  apply Run.op; (apply L_mov; rfl; rfl); rfl; rfl
  apply Run.op; (apply L_mov; rfl; rfl); rfl; rfl
  obtain ⟨y9, hy9, H⟩ := bindS H
  apply Run.op; (apply L_ixS2; rfl; rfl; rfl; (exact hy9); (intro _; rfl); rfl); rfl; rfl
  apply Run.op; (apply L_ldIA; rfl; (first | exact take_whole rfl | rfl); rfl; (intro h; cases h); rfl; rfl); rfl; rfl
  obtain ⟨r10, hr10, H⟩ := bindS H
  apply Run.op; (apply L_call; ((apply ArgsV.cons; (apply ArgV.val; rfl; rfl)); (apply ArgsV.nil)); (exact m_laws_toLink y9 _ hr10); rfl; rfl; rfl); rfl; rfl
  obtain ⟨y11, hy11, H⟩ := bindS H
  apply Run.op; (apply L_ixR2; rfl; rfl; rfl; (exact hy11); rfl; rfl); rfl; rfl
  obtain ⟨v12, hv12, H⟩ := bindS H
  have hl13 := setI_lenS hv12
  apply Run.op; (apply L_stT; rfl; rfl; rfl; rfl; rfl; rfl; (intro h; cases h); (exact row_ble0 (sz := 11) (n := 11) hy11 (fun _ => rfl) (by decide)); (exact row_stL (sz := 11) hv12 hy11 (fun _ => rfl) rfl)); rfl; rfl
  apply Run.done; refine ⟨fun h => Bool.noConfusion h, ?_⟩
  apply x5
  apply x3
  refine CodeT.weak (Ent.relen (k := 3) (n' := v12.length) rfl (by first | (simp only [setI_len]; done) | (simp only [setI_len]; omega) | omega)) ?_
  apply CodeT.region (fun _ => PPm)
  apply Run.op; (apply L_mov; rfl; rfl); rfl; rfl
  apply Run.op; (apply L_add; rfl; rfl; rfl; rfl); rfl; rfl
  apply Run.op; (apply L_asg; rfl; rfl); rfl; rfl
  apply Run.done; refine ⟨fun h => Bool.noConfusion h, ?_⟩
  obtain rfl := Option.some.inj H
  refine Ev.y1 ?_
  refine Ent.list [] (io0 hio _) rfl ?_ ?_ <;> (repeat' first | exact trivial | (refine And.intro ⟨_, rfl, fun h => (by first | rfl | exact Bool.noConfusion h)⟩ ?_))
  replace H := ifF (of_decide_eq_false h) H
  (repeat apply CodeT.seq)
  apply CodeT.exit
  apply x2
  obtain rfl := Option.some.inj H
  refine Ev.y3 ?_
  refine XEnv.mk ?_
  refine Ent.list [] (io0 hio _) rfl ?_ ?_ <;> (repeat' first | exact trivial | (refine And.intro ⟨_, rfl, fun h => (by first | rfl | exact Bool.noConfusion h)⟩ ?_))
  skip
  intro e E' hX; obtain ⟨rfl, g16⟩ := XEnv.out hX
  refine x6 rfl ?_
  apply x3
  refine CodeT.weak g16 ?_
  (repeat apply CodeT.seq)
  apply CodeT.region (fun _ => PPm)
  apply Run.op; (apply L_mov; rfl; rfl); rfl; rfl
  apply Run.op; (apply L_asg; rfl; rfl); rfl; rfl
  apply Run.done; refine ⟨fun h => Bool.noConfusion h, ?_⟩
  apply x3
  apply CodeT.ret
  cases H
  apply x12
  exact RetIs.rW rfl rfl rfl (io1 hio _)
theorem m_laws_toParent (a0 : Parent) (r : Parent) (H : laws_toParent a0 = some r) : Meets Try.prog 203 [.agg (encParent a0)] (.agg (encWParent r)) true := by
  refine Meets.intro2 (N := 20) (rs := #[.cell 2 162]) Try.func203 rfl rfl rfl rfl ?_
  intro Γ hio
  unfold laws_toParent at H
  (repeat apply CodeT.seq)
  apply CodeT.region (fun _ => PPm)
  apply Run.op; (apply L_box false; rfl; rfl; rfl; (exact io1 hio _); rfl); rfl; rfl
  apply Run.op; (apply L_alloc false; (exact io1 hio _); rfl); rfl; rfl
  apply Run.done; refine ⟨fun h => Bool.noConfusion h, ?_⟩
  apply x3
  (repeat apply CodeT.seq)
  apply CodeT.region (fun _ => PPm)
  apply Run.op; (apply L_alloc false; (exact io1 hio _); rfl); rfl; rfl
  apply Run.done; refine ⟨fun h => Bool.noConfusion h, ?_⟩
  apply x3
  (repeat apply CodeT.seq)
  apply CodeT.region (fun _ => PPm)
  apply Run.op; (apply L_fldP; rfl; rfl; rfl; rfl); rfl; rfl
  apply Run.op; (apply L_ldP; rfl; rfl; rfl; (first | exact .inl rfl | exact .inr rfl); rfl); rfl; rfl
  apply Run.op; (apply L_fldP; rfl; rfl; rfl; rfl); rfl; rfl
  apply Run.op; (apply L_st; rfl; rfl; rfl; rfl; rfl; (intro h; cases h); rfl; (first | exact splice_whole rfl | rfl)); rfl; rfl
  apply Run.done; refine ⟨fun h => Bool.noConfusion h, ?_⟩
  apply x3
  (repeat apply CodeT.seq)
  apply CodeT.region (fun _ => PPm)
  apply Run.op; (apply L_fldP; rfl; rfl; rfl; rfl); rfl; rfl
  apply Run.op; (apply L_ldPA; rfl; rfl; (first | exact seg_whole rfl | rfl); rfl; (intro h; cases h); (first | exact .inl rfl | exact .inr rfl); rfl); rfl; rfl
  obtain ⟨r1, hr1, H⟩ := bindS H
  apply Run.op; (apply L_call; ((apply ArgsV.cons; (apply ArgV.val; rfl; rfl)); (apply ArgsV.nil)); (exact m_laws_toRat a0.fShare _ hr1); rfl; rfl; rfl); rfl; rfl
  apply Run.op; (apply L_fldP; rfl; rfl; rfl; rfl); rfl; rfl
  apply Run.op; (apply L_stT; rfl; rfl; rfl; rfl; rfl; rfl; (intro h; cases h); rfl; (first | exact splice_whole rfl | rfl)); rfl; rfl
  apply Run.done; refine ⟨fun h => Bool.noConfusion h, ?_⟩
  apply x3
  (repeat apply CodeT.seq)
  apply CodeT.region (fun _ => PPm)
  apply Run.op; (apply L_fldP; rfl; rfl; rfl; rfl); rfl; rfl
  apply Run.op; (apply L_ldPA; rfl; rfl; (first | exact seg_whole rfl | rfl); rfl; (intro h; cases h); (first | exact .inl rfl | exact .inr rfl); rfl); rfl; rfl
  obtain ⟨r2, hr2, H⟩ := bindS H
  apply Run.op; (apply L_call; ((apply ArgsV.cons; (apply ArgV.val; rfl; rfl)); (apply ArgsV.nil)); (exact m_laws_toRat a0.fDX _ hr2); rfl; rfl; rfl); rfl; rfl
  apply Run.op; (apply L_fldP; rfl; rfl; rfl; rfl); rfl; rfl
  apply Run.op; (apply L_stT; rfl; rfl; rfl; rfl; rfl; rfl; (intro h; cases h); rfl; (first | exact splice_whole rfl | rfl)); rfl; rfl
  apply Run.done; refine ⟨fun h => Bool.noConfusion h, ?_⟩
  apply x3
  (repeat apply CodeT.seq)
  apply CodeT.region (fun _ => PPm)
  apply Run.op; (apply L_fldP; rfl; rfl; rfl; rfl); rfl; rfl
  apply Run.op; (apply L_ldPA; rfl; rfl; (first | exact seg_whole rfl | rfl); rfl; (intro h; cases h); (first | exact .inl rfl | exact .inr rfl); rfl); rfl; rfl
  obtain ⟨r3, hr3, H⟩ := bindS H
  apply Run.op; (apply L_call; ((apply ArgsV.cons; (apply ArgV.val; rfl; rfl)); (apply ArgsV.nil)); (exact m_laws_toRat a0.fDY _ hr3); rfl; rfl; rfl); rfl; rfl
  apply Run.op; (apply L_fldP; rfl; rfl; rfl; rfl); rfl; rfl
  apply Run.op; (apply L_stT; rfl; rfl; rfl; rfl; rfl; rfl; (intro h; cases h); rfl; (first | exact splice_whole rfl | rfl)); rfl; rfl
  apply Run.done; refine ⟨fun h => Bool.noConfusion h, ?_⟩
  apply x3
  (repeat apply CodeT.seq)
  apply CodeT.region (fun _ => PPm)
  apply Run.op; (apply L_ldPAT; rfl; rfl; rfl; (intro h; cases h); rfl; (exact io1 hio _); rfl); rfl; rfl
  apply Run.op; (apply L_stT; rfl; rfl; rfl; rfl; rfl; rfl; (intro h; cases h); rfl; (first | exact splice_whole rfl | rfl)); rfl; rfl
  apply Run.done; refine ⟨fun h => Bool.noConfusion h, ?_⟩
  apply x3
  apply CodeT.ret
  cases H
  apply x12
  exact RetIs.c1 rfl rfl rfl rfl (by intro h; cases h)
theorem m_laws_toParentS (a0 : (List Parent)) (r : (List Parent)) (H : laws_toParentS a0 = some r) : Meets Try.prog 190 [.sl a0.length (a0.flatMap encParent)] (.rw 10 r.length (r.flatMap encWParent)) true := by
  refine Meets.intro2 (N := 23) (rs := #[.tmp 2]) Try.func190 rfl rfl rfl rfl ?_
  intro Γ hio
  unfold laws_toParentS at H
  (repeat apply CodeT.seq)
  apply CodeT.region (fun _ => PPm)
  apply Run.op; (apply L_asg; rfl; rfl); rfl; rfl
  apply Run.done; refine ⟨fun h => Bool.noConfusion h, ?_⟩
  apply x3
  (repeat apply CodeT.seq)
  apply CodeT.region (fun _ => PPm)
  apply Run.op; (apply L_mov; rfl; rfl); rfl; rfl
  apply Run.op; (apply L_len; rfl; rfl); rfl; rfl
  obtain ⟨_u, hm1, H⟩ := bindS H
  apply Run.op; (apply Local.softO (SoftL.rep (e := fun _ => [.sc (.int .i64 0), .sc (.bool false), .sc (.slice none 0 0), .sc (.slice none 0 0), .sc (.bool false), .sc (.slice none 0 0), .sc (.slice none 0 0), .sc (.bool false), .sc (.slice none 0 0), .sc (.slice none 0 0)]) (e' := encWParent) (z := (Parent.mk 0 (Rat.mk (BigInt.mk false ([])) ([])) (Rat.mk (BigInt.mk false ([])) ([])) (Rat.mk (BigInt.mk false ([])) ([])))) (SoftL.cons (Soft.refl _) (SoftL.cons (Soft.refl _) (SoftL.cons Soft.nilW (SoftL.cons Soft.nilW (SoftL.cons (Soft.refl _) (SoftL.cons Soft.nilW (SoftL.cons Soft.nilW (SoftL.cons (Soft.refl _) (SoftL.cons Soft.nilW (SoftL.cons Soft.nilW SoftL.nil)))))))))) _); apply L_make2 (enc := fun _ => [.sc (.int .i64 0), .sc (.bool false), .sc (.slice none 0 0), .sc (.slice none 0 0), .sc (.bool false), .sc (.slice none 0 0), .sc (.slice none 0 0), .sc (.bool false), .sc (.slice none 0 0), .sc (.slice none 0 0)]) (z := (Parent.mk 0 (Rat.mk (BigInt.mk false ([])) ([])) (Rat.mk (BigInt.mk false ([])) ([])) (Rat.mk (BigInt.mk false ([])) ([])))); rfl; rfl; rfl; (exact chkS hm1); rfl; decide; (intro h; cases h); (exact io1 hio _); rfl); rfl; rfl
  apply Run.op; (apply L_asg; rfl; rfl); rfl; rfl
  apply Run.done; refine ⟨fun h => Bool.noConfusion h, ?_⟩
  apply x3
  (repeat apply CodeT.seq)
  apply CodeT.region (fun _ => PPm)
  apply Run.op; (apply L_asg; rfl; rfl); rfl; rfl
  apply Run.done; refine ⟨fun h => Bool.noConfusion h, ?_⟩
  apply x3
  (repeat apply CodeT.seq)
  apply CodeT.block
  (repeat apply CodeT.seq)
  obtain ⟨d15, hd15, H⟩ := bindS H
  refine CodeT.lloop (fun s => ⟨[(0, ⟨.sl a0.length (a0.flatMap encParent), false⟩), (3, ⟨.ref 503 10 0 s.2.length, false⟩), (4, ⟨.sc (.int .i64 s.1), false⟩)], [(503, some ⟨s.2.flatMap encWParent, true, false⟩)]⟩) (fun d e E => XEnv Γ (.exit 0) ⟨[(3, ⟨.ref 503 10 0 d.length, false⟩)], [(503, some ⟨d.flatMap encWParent, true, false⟩)]⟩ e E) hd15 ?_ ?_ ?_
  refine Ent.list [(503, 7)] (io0 hio _) rfl ?_ ?_ <;> (repeat' first | exact trivial | (refine And.intro ⟨_, rfl, fun h => (by first | rfl | exact Bool.noConfusion h)⟩ ?_))
  clear H hd15
  rintro ⟨v7, v8⟩ o H
  unfold laws_toParentS_L1 at H
  (repeat apply CodeT.seq)
  apply CodeT.region (fun _ => PPm)
  apply Run.op; (apply L_mov; rfl; rfl); rfl; rfl
  apply Run.op; (apply L_mov; rfl; rfl); rfl; rfl
  apply Run.op; (apply L_len; rfl; rfl); rfl; rfl
  apply Run.op; (apply L_lss; rfl; rfl; rfl); rfl; rfl
  apply Run.done; refine ⟨fun h => Bool.noConfusion h, ?_⟩
  apply x3
  (repeat apply CodeT.seq)
  refine CodeT.cond rfl (fun h => ?_) (fun h => ?_)
  replace H := ifT (of_decide_eq_true h) H
  (repeat apply CodeT.seq)
  apply CodeT.skip
  apply x3
  (repeat apply CodeT.seq)
  apply CodeT.block
  (repeat apply CodeT.seq)
  apply CodeT.region (fun _ => PPm)
  apply Run.op; (apply L_mov; rfl; rfl); rfl; rfl
  apply Run.op; (apply L_mov; rfl; rfl); rfl; rfl
  apply Run.op; (apply L_mov; rfl; rfl); rfl; rfl
  apply Run.op; (apply L_mov; rfl; rfl); rfl; rfl
  obtain ⟨y9, hy9, H⟩ := bindS H
  apply Run.op; (apply L_ixS2; rfl; rfl; rfl; (exact hy9); (intro _; rfl); rfl); rfl; rfl
  apply Run.op; (apply L_ldIA; rfl; (first | exact take_whole rfl | rfl); rfl; (intro h; cases h); rfl; rfl); rfl; rfl
  obtain ⟨r10, hr10, H⟩ := bindS H
  apply Run.op; (apply L_call; ((apply ArgsV.cons; (apply ArgV.val; rfl; rfl)); (apply ArgsV.nil)); (exact m_laws_toParent y9 _ hr10); rfl; rfl; rfl); rfl; rfl
  obtain ⟨y11, hy11, H⟩ := bindS H
  apply Run.op; (apply L_ixR2; rfl; rfl; rfl; (exact hy11); rfl; rfl); rfl; rfl
  obtain ⟨v12, hv12, H⟩ := bindS H
  have hl13 := setI_lenS hv12
  apply Run.op; (apply L_stT; rfl; rfl; rfl; rfl; rfl; rfl; (intro h; cases h); (exact row_ble0 (sz := 10) (n := 10) hy11 (fun _ => rfl) (by decide)); (exact row_stL (sz := 10) hv12 hy11 (fun _ => rfl) rfl)); rfl; rfl
  apply Run.done; refine ⟨fun h => Bool.noConfusion h, ?_⟩
  apply x5
  apply x3
  refine CodeT.weak (Ent.relen (k := 3) (n' := v12.length) rfl (by first | (simp only [setI_len]; done) | (simp only [setI_len]; omega) | omega)) ?_
  apply CodeT.region (fun _ => PPm)
  apply Run.op; (apply L_mov; rfl; rfl); rfl; rfl
  apply Run.op; (apply L_add; rfl; rfl; rfl; rfl); rfl; rfl
  apply Run.op; (apply L_asg; rfl; rfl); rfl; rfl
  apply Run.done; refine ⟨fun h => Bool.noConfusion h, ?_⟩
  obtain rfl := Option.some.inj H
  refine Ev.y1 ?_
  refine Ent.list [] (io0 hio _) rfl ?_ ?_ <;> (repeat' first | exact trivial | (refine And.intro ⟨_, rfl, fun h => (by first | rfl | exact Bool.noConfusion h)⟩ ?_))
  replace H := ifF (of_decide_eq_false h) H
  (repeat apply CodeT.seq)
  apply CodeT.exit
  apply x2
  obtain rfl := Option.some.inj H
  refine Ev.y3 ?_
  refine XEnv.mk ?_
  refine Ent.list [] (io0 hio _) rfl ?_ ?_ <;> (repeat' first | exact trivial | (refine And.intro ⟨_, rfl, fun h => (by first | rfl | exact Bool.noConfusion h)⟩ ?_))
  skip
  intro e E' hX; obtain ⟨rfl, g16⟩ := XEnv.out hX
  refine x6 rfl ?_
  apply x3
  refine CodeT.weak g16 ?_
  (repeat apply CodeT.seq)
  apply CodeT.region (fun _ => PPm)
  apply Run.op; (apply L_mov; rfl; rfl); rfl; rfl
  apply Run.op; (apply L_asg; rfl; rfl); rfl; rfl
  apply Run.done; refine ⟨fun h => Bool.noConfusion h, ?_⟩
  apply x3
  apply CodeT.ret
  cases H
  apply x12
  exact RetIs.rW rfl rfl rfl (io1 hio _)
theorem m_laws_toConditional (a0 : Conditional) (r : Conditional) (H : laws_toConditional a0 = some r) : Meets Try.prog 165 [.agg (encConditional a0)] (.agg (encWConditional r)) true := by
  refine Meets.intro2 (N := 16) (rs := #[.cell 2 120]) Try.func165 rfl rfl rfl rfl ?_
  intro Γ hio
  unfold laws_toConditional at H
  (repeat apply CodeT.seq)
  apply CodeT.region (fun _ => PPm)
  apply Run.op; (apply L_box false; rfl; rfl; rfl; (exact io1 hio _); rfl); rfl; rfl
  apply Run.op; (apply L_alloc false; (exact io1 hio _); rfl); rfl; rfl
  apply Run.done; refine ⟨fun h => Bool.noConfusion h, ?_⟩
  apply x3
  (repeat apply CodeT.seq)
  apply CodeT.region (fun _ => PPm)
  apply Run.op; (apply L_alloc false; (exact io1 hio _); rfl); rfl; rfl
  apply Run.done; refine ⟨fun h => Bool.noConfusion h, ?_⟩
  apply x3
  (repeat apply CodeT.seq)
  apply CodeT.region (fun _ => PPm)
  apply Run.op; (apply L_fldP; rfl; rfl; rfl; rfl); rfl; rfl
  apply Run.op; (apply L_ldP; rfl; rfl; rfl; (first | exact .inl rfl | exact .inr rfl); rfl); rfl; rfl
  apply Run.op; (apply L_fldP; rfl; rfl; rfl; rfl); rfl; rfl
  apply Run.op; (apply L_st; rfl; rfl; rfl; rfl; rfl; (intro h; cases h); rfl; (first | exact splice_whole rfl | rfl)); rfl; rfl
  apply Run.done; refine ⟨fun h => Bool.noConfusion h, ?_⟩
  apply x3
  (repeat apply CodeT.seq)
  apply CodeT.region (fun _ => PPm)
  apply Run.op; (apply L_fldP; rfl; rfl; rfl; rfl); rfl; rfl
  apply Run.op; (apply L_ldPA; rfl; rfl; (first | exact seg_whole rfl | rfl); rfl; (intro h; cases h); (first | exact .inl rfl | exact .inr rfl); rfl); rfl; rfl
  obtain ⟨r1, hr1, H⟩ := bindS H
  apply Run.op; (apply L_call; ((apply ArgsV.cons; (apply ArgV.val; rfl; rfl)); (apply ArgsV.nil)); (exact m_laws_toRat a0.fTotal _ hr1); rfl; rfl; rfl); rfl; rfl
  apply Run.op; (apply L_fldP; rfl; rfl; rfl; rfl); rfl; rfl
  apply Run.op; (apply L_stT; rfl; rfl; rfl; rfl; rfl; rfl; (intro h; cases h); rfl; (first | exact splice_whole rfl | rfl)); rfl; rfl
  apply Run.done; refine ⟨fun h => Bool.noConfusion h, ?_⟩
  apply x3
  (repeat apply CodeT.seq)
  apply CodeT.region (fun _ => PPm)
  apply Run.op; (apply L_fldP; rfl; rfl; rfl; rfl); rfl; rfl
  apply Run.op; (apply L_ldP; rfl; rfl; rfl; (first | exact .inl rfl | exact .inr rfl); rfl); rfl; rfl
  obtain ⟨r2, hr2, H⟩ := bindS H
  apply Run.op; (apply L_call; ((apply ArgsV.cons; (apply ArgV.val; rfl; rfl)); (apply ArgsV.nil)); (exact m_laws_toParentS a0.fParents _ hr2); rfl; rfl; rfl); rfl; rfl
  apply Run.op; (apply L_fldP; rfl; rfl; rfl; rfl); rfl; rfl
  apply Run.op; (apply L_stT; rfl; rfl; rfl; rfl; rfl; rfl; (intro h; cases h); rfl; (first | exact splice_whole rfl | rfl)); rfl; rfl
  apply Run.done; refine ⟨fun h => Bool.noConfusion h, ?_⟩
  apply x3
  (repeat apply CodeT.seq)
  apply CodeT.region (fun _ => PPm)
  apply Run.op; (apply L_ldPAT; rfl; rfl; rfl; (intro h; cases h); rfl; (exact io1 hio _); rfl); rfl; rfl
  apply Run.op; (apply L_stT; rfl; rfl; rfl; rfl; rfl; rfl; (intro h; cases h); rfl; (first | exact splice_whole rfl | rfl)); rfl; rfl
  apply Run.done; refine ⟨fun h => Bool.noConfusion h, ?_⟩
  apply x3
  apply CodeT.ret
  cases H
  apply x12
  exact RetIs.c1 rfl rfl rfl rfl (by intro h; cases h)
theorem m_laws_toTreeNode (a0 : TreeNode) (r : TreeNode) (H : laws_toTreeNode a0 = some r) : Meets Try.prog 133 [.agg (encTreeNode a0)] (.agg (encWTreeNode r)) true := by
  refine Meets.intro2 (N := 27) (rs := #[.cell 2 122]) Try.func133 rfl rfl rfl rfl ?_
  intro Γ hio
  unfold laws_toTreeNode at H
  (repeat apply CodeT.seq)
  apply CodeT.region (fun _ => PPm)
  apply Run.op; (apply L_box false; rfl; rfl; rfl; (exact io1 hio _); rfl); rfl; rfl
  apply Run.op; (apply L_alloc false; (exact io1 hio _); rfl); rfl; rfl
  apply Run.done; refine ⟨fun h => Bool.noConfusion h, ?_⟩
  apply x3
  (repeat apply CodeT.seq)
  apply CodeT.region (fun _ => PPm)
  apply Run.op; (apply L_alloc false; (exact io1 hio _); rfl); rfl; rfl
  apply Run.done; refine ⟨fun h => Bool.noConfusion h, ?_⟩
  apply x3
  (repeat apply CodeT.seq)
  apply CodeT.region (fun _ => PPm)
  apply Run.op; (apply L_fldP; rfl; rfl; rfl; rfl); rfl; rfl
  apply Run.op; (apply L_ldP; rfl; rfl; rfl; (first | exact .inl rfl | exact .inr rfl); rfl); rfl; rfl
  apply Run.op; (apply L_fldP; rfl; rfl; rfl; rfl); rfl; rfl
  apply Run.op; (apply L_st; rfl; rfl; rfl; rfl; rfl; (intro h; cases h); rfl; (first | exact splice_whole rfl | rfl)); rfl; rfl
  apply Run.done; refine ⟨fun h => Bool.noConfusion h, ?_⟩
  apply x3
  (repeat apply CodeT.seq)
  apply CodeT.region (fun _ => PPm)
  apply Run.op; (apply L_fldP; rfl; rfl; rfl; rfl); rfl; rfl
  apply Run.op; (apply L_ldP; rfl; rfl; rfl; (first | exact .inl rfl | exact .inr rfl); rfl); rfl; rfl
  apply Run.op; (apply L_fldP; rfl; rfl; rfl; rfl); rfl; rfl
  apply Run.op; (apply L_st; rfl; rfl; rfl; rfl; rfl; (intro h; cases h); rfl; (first | exact splice_whole rfl | rfl)); rfl; rfl
  apply Run.done; refine ⟨fun h => Bool.noConfusion h, ?_⟩
  apply x3
  (repeat apply CodeT.seq)
  apply CodeT.region (fun _ => PPm)
  apply Run.op; (apply L_fldP; rfl; rfl; rfl; rfl); rfl; rfl
  apply Run.op; (apply L_ldP; rfl; rfl; rfl; (first | exact .inl rfl | exact .inr rfl); rfl); rfl; rfl
  obtain ⟨r1, hr1, H⟩ := bindS H
  apply Run.op; (apply L_call; ((apply ArgsV.cons; (apply ArgV.val; rfl; rfl)); (apply ArgsV.nil)); (exact m_laws_toLinkS a0.fOwn _ hr1); rfl; rfl; rfl); rfl; rfl
  apply Run.op; (apply L_fldP; rfl; rfl; rfl; rfl); rfl; rfl
  apply Run.op; (apply L_stT; rfl; rfl; rfl; rfl; rfl; rfl; (intro h; cases h); rfl; (first | exact splice_whole rfl | rfl)); rfl; rfl
  apply Run.done; refine ⟨fun h => Bool.noConfusion h, ?_⟩
  apply x3
  (repeat apply CodeT.seq)
  apply CodeT.region (fun _ => PPm)
  apply Run.op; (apply L_fldP; rfl; rfl; rfl; rfl); rfl; rfl
  apply Run.op; (apply L_ldPA; rfl; rfl; (first | exact seg_whole rfl | rfl); rfl; (intro h; cases h); (first | exact .inl rfl | exact .inr rfl); rfl); rfl; rfl
  obtain ⟨r2, hr2, H⟩ := bindS H
  apply Run.op; (apply L_call; ((apply ArgsV.cons; (apply ArgV.val; rfl; rfl)); (apply ArgsV.nil)); (exact m_laws_toConditional a0.fCond _ hr2); rfl; rfl; rfl); rfl; rfl
  apply Run.op; (apply L_fldP; rfl; rfl; rfl; rfl); rfl; rfl
  apply Run.op; (apply L_stT; rfl; rfl; rfl; rfl; rfl; rfl; (intro h; cases h); rfl; (first | exact splice_whole rfl | rfl)); rfl; rfl
  apply Run.done; refine ⟨fun h => Bool.noConfusion h, ?_⟩
  apply x3
  (repeat apply CodeT.seq)
  apply CodeT.region (fun _ => PPm)
  apply Run.op; (apply L_fldP; rfl; rfl; rfl; rfl); rfl; rfl
  apply Run.op; (apply L_ldP; rfl; rfl; rfl; (first | exact .inl rfl | exact .inr rfl); rfl); rfl; rfl
  obtain ⟨r3, hr3, H⟩ := bindS H
  apply Run.op; (apply L_call; ((apply ArgsV.cons; (apply ArgV.val; rfl; rfl)); (apply ArgsV.nil)); (exact m_laws_toLinkS a0.fMessages _ hr3); rfl; rfl; rfl); rfl; rfl
  apply Run.op; (apply L_fldP; rfl; rfl; rfl; rfl); rfl; rfl
  apply Run.op; (apply L_stT; rfl; rfl; rfl; rfl; rfl; rfl; (intro h; cases h); rfl; (first | exact splice_whole rfl | rfl)); rfl; rfl
  apply Run.done; refine ⟨fun h => Bool.noConfusion h, ?_⟩
  apply x3
  (repeat apply CodeT.seq)
  apply CodeT.region (fun _ => PPm)
  apply Run.op; (apply L_fldP; rfl; rfl; rfl; rfl); rfl; rfl
  apply Run.op; (apply L_ldPA; rfl; rfl; (first | exact seg_whole rfl | rfl); rfl; (intro h; cases h); (first | exact .inl rfl | exact .inr rfl); rfl); rfl; rfl
  obtain ⟨r4, hr4, H⟩ := bindS H
  apply Run.op; (apply L_call; ((apply ArgsV.cons; (apply ArgV.val; rfl; rfl)); (apply ArgsV.nil)); (exact m_laws_toRat a0.fEnergy _ hr4); rfl; rfl; rfl); rfl; rfl
  apply Run.op; (apply L_fldP; rfl; rfl; rfl; rfl); rfl; rfl
  apply Run.op; (apply L_stT; rfl; rfl; rfl; rfl; rfl; rfl; (intro h; cases h); rfl; (first | exact splice_whole rfl | rfl)); rfl; rfl
  apply Run.done; refine ⟨fun h => Bool.noConfusion h, ?_⟩
  apply x3
  (repeat apply CodeT.seq)
  apply CodeT.region (fun _ => PPm)
  apply Run.op; (apply L_ldPAT; rfl; rfl; rfl; (intro h; cases h); rfl; (exact io1 hio _); rfl); rfl; rfl
  apply Run.op; (apply L_stT; rfl; rfl; rfl; rfl; rfl; rfl; (intro h; cases h); rfl; (first | exact splice_whole rfl | rfl)); rfl; rfl
  apply Run.done; refine ⟨fun h => Bool.noConfusion h, ?_⟩
  apply x3
  apply CodeT.ret
  cases H
  apply x12
  exact RetIs.c1 rfl rfl rfl rfl (by intro h; cases h)
theorem m_laws_toTreeNodeS (a0 : (List TreeNode)) (r : (List TreeNode)) (H : laws_toTreeNodeS a0 = some r) : Meets Try.prog 92 [.sl a0.length (a0.flatMap encTreeNode)] (.rw 12 r.length (r.flatMap encWTreeNode)) true := by
  refine Meets.intro2 (N := 23) (rs := #[.tmp 2]) Try.func92 rfl rfl rfl rfl ?_
  intro Γ hio
  unfold laws_toTreeNodeS at H
  (repeat apply CodeT.seq)
  apply CodeT.region (fun _ => PPm)
  apply Run.op; (apply L_asg; rfl; rfl); rfl; rfl
  apply Run.done; refine ⟨fun h => Bool.noConfusion h, ?_⟩
  apply x3
  (repeat apply CodeT.seq)
  apply CodeT.region (fun _ => PPm)
  apply Run.op; (apply L_mov; rfl; rfl); rfl; rfl
  apply Run.op; (apply L_len; rfl; rfl); rfl; rfl
  obtain ⟨_u, hm1, H⟩ := bindS H
  apply Run.op; (apply Local.softO (SoftL.rep (e := fun _ => [.sc (.int .i64 0), .sc (.int .i64 0), .sc (.slice none 0 0), .sc (.int .i64 0), .sc (.bool false), .sc (.slice none 0 0), .sc (.slice none 0 0), .sc (.slice none 0 0), .sc (.slice none 0 0), .sc (.bool false), .sc (.slice none 0 0), .sc (.slice none 0 0)]) (e' := encWTreeNode) (z := (TreeNode.mk 0 0 ([]) (Conditional.mk 0 (Rat.mk (BigInt.mk false ([])) ([])) ([])) ([]) (Rat.mk (BigInt.mk false ([])) ([])))) (SoftL.cons (Soft.refl _) (SoftL.cons (Soft.refl _) (SoftL.cons Soft.nilW (SoftL.cons (Soft.refl _) (SoftL.cons (Soft.refl _) (SoftL.cons Soft.nilW (SoftL.cons Soft.nilW (SoftL.cons Soft.nilW (SoftL.cons Soft.nilW (SoftL.cons (Soft.refl _) (SoftL.cons Soft.nilW (SoftL.cons Soft.nilW SoftL.nil)))))))))))) _); apply L_make2 (enc := fun _ => [.sc (.int .i64 0), .sc (.int .i64 0), .sc (.slice none 0 0), .sc (.int .i64 0), .sc (.bool false), .sc (.slice none 0 0), .sc (.slice none 0 0), .sc (.slice none 0 0), .sc (.slice none 0 0), .sc (.bool false), .sc (.slice none 0 0), .sc (.slice none 0 0)]) (z := (TreeNode.mk 0 0 ([]) (Conditional.mk 0 (Rat.mk (BigInt.mk false ([])) ([])) ([])) ([]) (Rat.mk (BigInt.mk false ([])) ([])))); rfl; rfl; rfl; (exact chkS hm1); rfl; decide; (intro h; cases h); (exact io1 hio _); rfl); rfl; rfl
  apply Run.op; (apply L_asg; rfl; rfl); rfl; rfl
  apply Run.done; refine ⟨fun h => Bool.noConfusion h, ?_⟩
  apply x3
  (repeat apply CodeT.seq)
  apply CodeT.region (fun _ => PPm)
  apply Run.op; (apply L_asg; rfl; rfl); rfl; rfl
  apply Run.done; refine ⟨fun h => Bool.noConfusion h, ?_⟩
  apply x3
  (repeat apply CodeT.seq)
  apply CodeT.block
  (repeat apply CodeT.seq)
  obtain ⟨d15, hd15, H⟩ := bindS H
  refine CodeT.lloop (fun s => ⟨[(0, ⟨.sl a0.length (a0.flatMap encTreeNode), false⟩), (3, ⟨.ref 503 12 0 s.2.length, false⟩), (4, ⟨.sc (.int .i64 s.1), false⟩)], [(503, some ⟨s.2.flatMap encWTreeNode, true, false⟩)]⟩) (fun d e E => XEnv Γ (.exit 0) ⟨[(3, ⟨.ref 503 12 0 d.length, false⟩)], [(503, some ⟨d.flatMap encWTreeNode, true, false⟩)]⟩ e E) hd15 ?_ ?_ ?_
  refine Ent.list [(503, 7)] (io0 hio _) rfl ?_ ?_ <;> (repeat' first | exact trivial | (refine And.intro ⟨_, rfl, fun h => (by first | rfl | exact Bool.noConfusion h)⟩ ?_))
  clear H hd15
  rintro ⟨v7, v8⟩ o H
  unfold laws_toTreeNodeS_L1 at H
  (repeat apply CodeT.seq)
  apply CodeT.region (fun _ => PPm)
  apply Run.op; (apply L_mov; rfl; rfl); rfl; rfl
  apply Run.op; (apply L_mov; rfl; rfl); rfl; rfl
  apply Run.op; (apply L_len; rfl; rfl); rfl; rfl
  apply Run.op; (apply L_lss; rfl; rfl; rfl); rfl; rfl
  apply Run.done; refine ⟨fun h => Bool.noConfusion h, ?_⟩
  apply x3
  (repeat apply CodeT.seq)
  refine CodeT.cond rfl (fun h => ?_) (fun h => ?_)
  replace H := ifT (of_decide_eq_true h) H
  (repeat apply CodeT.seq)
  apply CodeT.skip
  apply x3
  (repeat apply CodeT.seq)
  apply CodeT.block
  (repeat apply CodeT.seq)
  apply CodeT.region (fun _ => PPm)
  apply Run.op; (apply L_mov; rfl; rfl); rfl; rfl
  apply Run.op; (apply L_mov; rfl; rfl); rfl; rfl
  apply Run.op; (apply L_mov; rfl; rfl); rfl; rfl
  apply Run.op; (apply L_mov; rfl; rfl); rfl; rfl
  obtain ⟨y9, hy9, H⟩ := bindS H
  apply Run.op; (apply L_ixS2; rfl; rfl; rfl; (exact hy9); (intro _; rfl); rfl); rfl; rfl
  apply Run.op; (apply L_ldIA; rfl; (first | exact take_whole rfl | rfl); rfl; (intro h; cases h); rfl; rfl); rfl; rfl
  obtain ⟨r10, hr10, H⟩ := bindS H
  apply Run.op; (apply L_call; ((apply ArgsV.cons; (apply ArgV.val; rfl; rfl)); (apply ArgsV.nil)); (exact m_laws_toTreeNode y9 _ hr10); rfl; rfl; rfl); rfl; rfl
  obtain ⟨y11, hy11, H⟩ := bindS H
  apply Run.op; (apply L_ixR2; rfl; rfl; rfl; (exact hy11); rfl; rfl); rfl; rfl
  obtain ⟨v12, hv12, H⟩ := bindS H
  have hl13 := setI_lenS hv12
  apply Run.op; (apply L_stT; rfl; rfl; rfl; rfl; rfl; rfl; (intro h; cases h); (exact row_ble0 (sz := 12) (n := 12) hy11 (fun _ => rfl) (by decide)); (exact row_stL (sz := 12) hv12 hy11 (fun _ => rfl) rfl)); rfl; rfl
  apply Run.done; refine ⟨fun h => Bool.noConfusion h, ?_⟩
  apply x5
  apply x3
  refine CodeT.weak (Ent.relen (k := 3) (n' := v12.length) rfl (by first | (simp only [setI_len]; done) | (simp only [setI_len]; omega) | omega)) ?_
  apply CodeT.region (fun _ => PPm)
  apply Run.op; (apply L_mov; rfl; rfl); rfl; rfl
  apply Run.op; (apply L_add; rfl; rfl; rfl; rfl); rfl; rfl
  apply Run.op; (apply L_asg; rfl; rfl); rfl; rfl
  apply Run.done; refine ⟨fun h => Bool.noConfusion h, ?_⟩
  obtain rfl := Option.some.inj H
  refine Ev.y1 ?_
  refine Ent.list [] (io0 hio _) rfl ?_ ?_ <;> (repeat' first | exact trivial | (refine And.intro ⟨_, rfl, fun h => (by first | rfl | exact Bool.noConfusion h)⟩ ?_))
  replace H := ifF (of_decide_eq_false h) H
  (repeat apply CodeT.seq)
  apply CodeT.exit
  apply x2
  obtain rfl := Option.some.inj H
  refine Ev.y3 ?_
  refine XEnv.mk ?_
  refine Ent.list [] (io0 hio _) rfl ?_ ?_ <;> (repeat' first | exact trivial | (refine And.intro ⟨_, rfl, fun h => (by first | rfl | exact Bool.noConfusion h)⟩ ?_))
  skip
  intro e E' hX; obtain ⟨rfl, g16⟩ := XEnv.out hX
  refine x6 rfl ?_
  apply x3
  refine CodeT.weak g16 ?_
  (repeat apply CodeT.seq)
  apply CodeT.region (fun _ => PPm)
  apply Run.op; (apply L_mov; rfl; rfl); rfl; rfl
  apply Run.op; (apply L_asg; rfl; rfl); rfl; rfl
  apply Run.done; refine ⟨fun h => Bool.noConfusion h, ?_⟩
  apply x3
  apply CodeT.ret
  cases H
  apply x12
  exact RetIs.rW rfl rfl rfl (io1 hio _)
theorem m_laws_toTree (a0 : Tree) (r : Tree) (H : laws_toTree a0 = some r) : Meets Try.prog 41 [.agg (encTree a0)] (.agg (encWTree r)) true := by
  refine Meets.intro2 (N := 9) (rs := #[.cell 2 59]) Try.func41 rfl rfl rfl rfl ?_
  intro Γ hio
  unfold laws_toTree at H
  (repeat apply CodeT.seq)
  apply CodeT.region (fun _ => PPm)
  apply Run.op; (apply L_box false; rfl; rfl; rfl; (exact io1 hio _); rfl); rfl; rfl
  apply Run.op; (apply L_alloc false; (exact io1 hio _); rfl); rfl; rfl
  apply Run.done; refine ⟨fun h => Bool.noConfusion h, ?_⟩
  apply x3
  (repeat apply CodeT.seq)
  apply CodeT.region (fun _ => PPm)
  apply Run.op; (apply L_alloc false; (exact io1 hio _); rfl); rfl; rfl
  apply Run.done; refine ⟨fun h => Bool.noConfusion h, ?_⟩
  apply x3
  (repeat apply CodeT.seq)
  apply CodeT.region (fun _ => PPm)
  apply Run.op; (apply L_fldP; rfl; rfl; rfl; rfl); rfl; rfl
  apply Run.op; (apply L_ldP; rfl; rfl; rfl; (first | exact .inl rfl | exact .inr rfl); rfl); rfl; rfl
  obtain ⟨r1, hr1, H⟩ := bindS H
  apply Run.op; (apply L_call; ((apply ArgsV.cons; (apply ArgV.val; rfl; rfl)); (apply ArgsV.nil)); (exact m_laws_toTreeNodeS a0.fNodes _ hr1); rfl; rfl; rfl); rfl; rfl
  apply Run.op; (apply L_fldP; rfl; rfl; rfl; rfl); rfl; rfl
  apply Run.op; (apply L_stT; rfl; rfl; rfl; rfl; rfl; rfl; (intro h; cases h); rfl; (first | exact splice_whole rfl | rfl)); rfl; rfl
  apply Run.done; refine ⟨fun h => Bool.noConfusion h, ?_⟩
  apply x3
  (repeat apply CodeT.seq)
  apply CodeT.region (fun _ => PPm)
  apply Run.op; (apply L_ldPAT; rfl; rfl; rfl; (intro h; cases h); rfl; (exact io1 hio _); rfl); rfl; rfl
  apply Run.op; (apply L_stT; rfl; rfl; rfl; rfl; rfl; rfl; (intro h; cases h); rfl; (first | exact splice_whole rfl | rfl)); rfl; rfl
  apply Run.done; refine ⟨fun h => Bool.noConfusion h, ?_⟩
  apply x3
  apply CodeT.ret
  cases H
  apply x12
  exact RetIs.c1 rfl rfl rfl rfl (by intro h; cases h)
theorem m_spec_l12At (a0 : Tree) (a1 : Int) (r : Int) (H : spec_l12At a0 a1 = some r) : Meets Try.prog 98 [.agg (encTree a0), .sc (.int .i64 a1)] (.sc (.int .i64 r)) true := by
  refine Meets.intro2 (N := 21) (rs := #[.tmp 4]) Try.func98 rfl rfl rfl rfl ?_
  intro Γ hio
  unfold spec_l12At at H
  (repeat apply CodeT.seq)
  apply CodeT.region (fun _ => PPm)
  apply Run.op; (apply L_box false; rfl; rfl; rfl; (exact io1 hio _); rfl); rfl; rfl
  apply Run.op; (apply L_asg; rfl; rfl); rfl; rfl
  apply Run.done; refine ⟨fun h => Bool.noConfusion h, ?_⟩
  apply x3
  (repeat apply CodeT.seq)
  apply CodeT.region (fun _ => PPm)
  apply Run.op; (apply L_fldP; rfl; rfl; rfl; rfl); rfl; rfl
  apply Run.op; (apply L_ldP; rfl; rfl; rfl; (first | exact .inl rfl | exact .inr rfl); rfl); rfl; rfl
  apply Run.op; (apply L_len; rfl; rfl); rfl; rfl
  apply Run.op; (apply L_mov; rfl; rfl); rfl; rfl
  apply Run.done; refine ⟨fun h => Bool.noConfusion h, ?_⟩
  apply x3
  (repeat apply CodeT.seq)
  apply CodeT.block
  (repeat apply CodeT.seq)
  obtain ⟨d4, hd4, H⟩ := bindS H
  refine CodeT.lloop (fun s => ⟨[(1, ⟨.sc (.int .i64 a1), false⟩), (8, ⟨.sl a0.fNodes.length (a0.fNodes.flatMap encTreeNode), false⟩), (9, ⟨.sc (.int .i64 (a0.fNodes.length : Int)), false⟩), (10, ⟨.sc (.int .i64 s), false⟩)], []⟩) (fun x e E => match x with | (.inl d) => XEnv Γ (.exit 0) ⟨[], []⟩ e E | (.inr d) => XRet Γ #[.tmp 4] (.sc (.int .i64 d)) true e E) hd4 ?_ ?_ ?_
  refine Ent.list [] (io0 hio _) rfl ?_ ?_ <;> (repeat' first | exact trivial | (refine And.intro ⟨_, rfl, fun h => (by first | rfl | exact Bool.noConfusion h)⟩ ?_))
  clear H hd4
  rintro v2 o H
  unfold spec_l12At_L1 at H
  (repeat apply CodeT.seq)
  apply CodeT.region (fun _ => PPm)
  apply Run.op; (apply L_lss; rfl; rfl; rfl); rfl; rfl
  apply Run.done; refine ⟨fun h => Bool.noConfusion h, ?_⟩
  apply x3
  (repeat apply CodeT.seq)
  refine CodeT.cond rfl (fun h => ?_) (fun h => ?_)
  replace H := ifT (of_decide_eq_true h) H
  (repeat apply CodeT.seq)
  apply CodeT.skip
  apply x3
  (repeat apply CodeT.seq)
  apply CodeT.block
  (repeat apply CodeT.seq)
  apply CodeT.region (fun _ => PPm)
  apply Run.op; (apply L_mov; rfl; rfl); rfl; rfl
  obtain ⟨y3, hy3, H⟩ := bindS H
  apply Run.op; (apply L_ixS2; rfl; rfl; rfl; (exact hy3); (intro _; rfl); rfl); rfl; rfl
  apply Run.op; (apply L_ldIA; rfl; (first | exact take_whole rfl | rfl); rfl; (intro h; cases h); rfl; rfl); rfl; rfl
  apply Run.op; (apply L_alloc false; (exact io1 hio _); rfl); rfl; rfl
  apply Run.op; (apply L_asg; rfl; rfl); rfl; rfl
  apply Run.op; (apply L_st; rfl; rfl; rfl; rfl; rfl; (intro h; cases h); rfl; (first | exact splice_whole rfl | rfl)); rfl; rfl
  apply Run.done; refine ⟨fun h => Bool.noConfusion h, ?_⟩
  apply x3
  (repeat apply CodeT.seq)
  apply CodeT.region (fun _ => PPm)
  apply Run.op; (apply L_fldP; rfl; rfl; rfl; rfl); rfl; rfl
  apply Run.op; (apply L_ldP; rfl; rfl; rfl; (first | exact .inl rfl | exact .inr rfl); rfl); rfl; rfl
  apply Run.op; (apply L_mov; rfl; rfl); rfl; rfl
  apply Run.op; (apply L_eql; rfl; rfl; rfl); rfl; rfl
  apply Run.done; refine ⟨fun h => Bool.noConfusion h, ?_⟩
  apply x3
  refine CodeT.cond rfl (fun h => ?_) (fun h => ?_)
  replace H := ifT (of_decide_eq_true h) H
  (repeat apply CodeT.seq)
  apply CodeT.region (fun _ => PPm)
  apply Run.op; (apply L_mov; rfl; rfl); rfl; rfl
  apply Run.op; (apply L_asg; rfl; rfl); rfl; rfl
  apply Run.done; refine ⟨fun h => Bool.noConfusion h, ?_⟩
  apply x3
  apply CodeT.ret
  apply x4
  apply x1
  obtain rfl := Option.some.inj H
  refine Ev.y2 ?_
  refine XRet.mk ?_
  exact RetIs.sc1 rfl
  replace H := ifF (of_decide_eq_false h) H
  (repeat apply CodeT.seq)
  apply CodeT.skip
  apply x5
  apply x3
  apply CodeT.region (fun _ => PPm)
  apply Run.op; (apply L_add; rfl; rfl; rfl; rfl); rfl; rfl
  apply Run.op; (apply L_mov; rfl; rfl); rfl; rfl
  apply Run.done; refine ⟨fun h => Bool.noConfusion h, ?_⟩
  obtain rfl := Option.some.inj H
  refine Ev.y1 ?_
  refine Ent.list [] (io0 hio _) rfl ?_ ?_ <;> (repeat' first | exact trivial | (refine And.intro ⟨_, rfl, fun h => (by first | rfl | exact Bool.noConfusion h)⟩ ?_))
  replace H := ifF (of_decide_eq_false h) H
  (repeat apply CodeT.seq)
  apply CodeT.exit
  apply x2
  obtain rfl := Option.some.inj H
  refine Ev.y3 ?_
  refine XEnv.mk ?_
  refine Ent.list [] (io0 hio _) rfl ?_ ?_ <;> (repeat' first | exact trivial | (refine And.intro ⟨_, rfl, fun h => (by first | rfl | exact Bool.noConfusion h)⟩ ?_))
  rcases d4 with (d5 | d7)
  intro e E' hX; obtain ⟨rfl, g6⟩ := XEnv.out hX
  refine x6 rfl ?_
  apply x3
  refine CodeT.weak g6 ?_
  (repeat apply CodeT.seq)
  apply CodeT.region (fun _ => PPm)
  apply Run.op; (apply L_asg; rfl; rfl); rfl; rfl
  apply Run.done; refine ⟨fun h => Bool.noConfusion h, ?_⟩
  apply x3
  apply CodeT.ret
  cases H
  apply x12
  exact RetIs.sc1 rfl
  intro e E' hX; obtain ⟨rfl, g8⟩ := XRet.out hX
  apply x4
  apply x1
  cases H
  apply x12
  exact g8
theorem m_spec_l04List (a0 : (List Int)) (a1 : (List Int)) (r : Bool) (H : spec_l04List a0 a1 = some r) : Meets Try.prog 167 [.sl a0.length (a0.flatMap (encI .i64)), .sl a1.length (a1.flatMap (encI .i64))] (.sc (.bool r)) true := by
  refine Meets.intro2 (N := 26) (rs := #[.tmp 4]) Try.func167 rfl rfl rfl rfl ?_
  intro Γ hio
  unfold spec_l04List at H
  (repeat apply CodeT.seq)
  apply CodeT.region (fun _ => PPm)
  apply Run.op; (apply L_asg; rfl; rfl); rfl; rfl
  apply Run.done; refine ⟨fun h => Bool.noConfusion h, ?_⟩
  apply x3
  (repeat apply CodeT.seq)
  apply CodeT.region (fun _ => PPm)
  apply Run.op; (apply L_mov; rfl; rfl); rfl; rfl
  apply Run.op; (apply L_len; rfl; rfl); rfl; rfl
  apply Run.op; (apply L_mov; rfl; rfl); rfl; rfl
  apply Run.op; (apply L_len; rfl; rfl); rfl; rfl
  apply Run.op; (apply L_neq; rfl; rfl; rfl); rfl; rfl
  apply Run.done; refine ⟨fun h => Bool.noConfusion h, ?_⟩
  apply x3
  (repeat apply CodeT.seq)
  refine CodeT.cond rfl (fun h => ?_) (fun h => ?_)
  replace H := ifT (of_decide_eq_true h) H
  (repeat apply CodeT.seq)
  apply CodeT.region (fun _ => PPm)
  apply Run.op; (apply L_asg; rfl; rfl); rfl; rfl
  apply Run.done; refine ⟨fun h => Bool.noConfusion h, ?_⟩
  apply x3
  apply CodeT.ret
  apply x1
  cases H
  apply x12
  exact RetIs.sc1 rfl
  replace H := ifF (of_decide_eq_false h) H
  (repeat apply CodeT.seq)
  apply CodeT.skip
  apply x3
  (repeat apply CodeT.seq)
  apply CodeT.region (fun _ => PPm)
  apply Run.op; (apply L_mov; rfl; rfl); rfl; rfl
  apply Run.op; (apply L_len; rfl; rfl); rfl; rfl
  apply Run.op; (apply L_mov; rfl; rfl); rfl; rfl
  apply Run.done; refine ⟨fun h => Bool.noConfusion h, ?_⟩
  apply x3
  (repeat apply CodeT.seq)
  apply CodeT.block
  (repeat apply CodeT.seq)
  obtain ⟨d6, hd6, H⟩ := bindS H
  refine CodeT.lloop (fun s => ⟨[(0, ⟨.sl a0.length (a0.flatMap (encI .i64)), false⟩), (1, ⟨.sl a1.length (a1.flatMap (encI .i64)), false⟩), (12, ⟨.sc (.int .i64 (a0.length : Int)), false⟩), (13, ⟨.sc (.int .i64 s), false⟩)], []⟩) (fun x e E => match x with | (.inl d) => XEnv Γ (.exit 0) ⟨[], []⟩ e E | (.inr d) => XRet Γ #[.tmp 4] (.sc (.bool d)) true e E) hd6 ?_ ?_ ?_
  refine Ent.list [] (io0 hio _) rfl ?_ ?_ <;> (repeat' first | exact trivial | (refine And.intro ⟨_, rfl, fun h => (by first | rfl | exact Bool.noConfusion h)⟩ ?_))
  clear H hd6
  rintro v3 o H
  unfold spec_l04List_L1 at H
  (repeat apply CodeT.seq)
  apply CodeT.region (fun _ => PPm)
  apply Run.op; (apply L_lss; rfl; rfl; rfl); rfl; rfl
  apply Run.done; refine ⟨fun h => Bool.noConfusion h, ?_⟩
  apply x3
  (repeat apply CodeT.seq)
  refine CodeT.cond rfl (fun h => ?_) (fun h => ?_)
  replace H := ifT (of_decide_eq_true h) H
  (repeat apply CodeT.seq)
  apply CodeT.skip
  apply x3
  (repeat apply CodeT.seq)
  apply CodeT.block
  (repeat apply CodeT.seq)
  apply CodeT.region (fun _ => PPm)
  apply Run.op; (apply L_mov; rfl; rfl); rfl; rfl
  apply Run.op; (apply L_asg; rfl; rfl); rfl; rfl
  apply Run.done; refine ⟨fun h => Bool.noConfusion h, ?_⟩
  apply x3
  (repeat apply CodeT.seq)
  apply CodeT.region (fun _ => PPm)
  apply Run.op; (apply L_mov; rfl; rfl); rfl; rfl
  apply Run.op; (apply L_mov; rfl; rfl); rfl; rfl
  obtain ⟨y4, hy4, H⟩ := bindS H
  apply Run.op; (apply L_ixS2; rfl; rfl; rfl; (exact hy4); (intro _; rfl); rfl); rfl; rfl
  apply Run.op; (apply L_ldI; rfl; rfl; rfl; rfl); rfl; rfl
  apply Run.op; (apply L_mov; rfl; rfl); rfl; rfl
  apply Run.op; (apply L_mov; rfl; rfl); rfl; rfl
  obtain ⟨y5, hy5, H⟩ := bindS H
  apply Run.op; (apply L_ixS2; rfl; rfl; rfl; (exact hy5); (intro _; rfl); rfl); rfl; rfl
  apply Run.op; (apply L_ldI; rfl; rfl; rfl; rfl); rfl; rfl
  apply Run.op; (apply L_neq; rfl; rfl; rfl); rfl; rfl
  apply Run.done; refine ⟨fun _ => ⟨rfl, rfl⟩, ?_⟩
  apply x3
  refine CodeT.cond rfl (fun h => ?_) (fun h => ?_)
  replace H := ifT (of_decide_eq_true h) H
  (repeat apply CodeT.seq)
  apply CodeT.region (fun _ => PPm)
  apply Run.op; (apply L_asg; rfl; rfl); rfl; rfl
  apply Run.done; refine ⟨fun h => Bool.noConfusion h, ?_⟩
  apply x3
  apply CodeT.ret
  apply x4
  apply x1
  obtain rfl := Option.some.inj H
  refine Ev.y2 ?_
  refine XRet.mk ?_
  exact RetIs.sc1 rfl
  replace H := ifF (of_decide_eq_false h) H
  (repeat apply CodeT.seq)
  apply CodeT.skip
  apply x5
  apply x3
  apply CodeT.region (fun _ => PPm)
  apply Run.op; (apply L_add; rfl; rfl; rfl; rfl); rfl; rfl
  apply Run.op; (apply L_mov; rfl; rfl); rfl; rfl
  apply Run.done; refine ⟨fun h => Bool.noConfusion h, ?_⟩
  obtain rfl := Option.some.inj H
  refine Ev.y1 ?_
  refine Ent.list [] (io0 hio _) rfl ?_ ?_ <;> (repeat' first | exact trivial | (refine And.intro ⟨_, rfl, fun h => (by first | rfl | exact Bool.noConfusion h)⟩ ?_))
  replace H := ifF (of_decide_eq_false h) H
  (repeat apply CodeT.seq)
  apply CodeT.exit
  apply x2
  obtain rfl := Option.some.inj H
  refine Ev.y3 ?_
  refine XEnv.mk ?_
  refine Ent.list [] (io0 hio _) rfl ?_ ?_ <;> (repeat' first | exact trivial | (refine And.intro ⟨_, rfl, fun h => (by first | rfl | exact Bool.noConfusion h)⟩ ?_))
  rcases d6 with (d7 | d9)
  intro e E' hX; obtain ⟨rfl, g8⟩ := XEnv.out hX
  refine x6 rfl ?_
  apply x3
  refine CodeT.weak g8 ?_
  (repeat apply CodeT.seq)
  apply CodeT.region (fun _ => PPm)
  apply Run.op; (apply L_asg; rfl; rfl); rfl; rfl
  apply Run.done; refine ⟨fun h => Bool.noConfusion h, ?_⟩
  apply x3
  apply CodeT.ret
  cases H
  apply x12
  exact RetIs.sc1 rfl
  intro e E' hX; obtain ⟨rfl, g10⟩ := XRet.out hX
  apply x4
  apply x1
  cases H
  apply x12
  exact g10
theorem m_spec_RatEqual (a0 : Rat) (a1 : Rat) (r : Bool) (H : spec_RatEqual a0 a1 = some r) : Meets Try.prog 138 [.agg (encRat a0), .agg (encRat a1)] (.sc (.bool r)) true := by
  refine Meets.intro2 (N := 28) (rs := #[.tmp 4]) Try.func138 rfl rfl rfl rfl ?_
  intro Γ hio
  unfold spec_RatEqual at H
  (repeat apply CodeT.seq)
  apply CodeT.region (fun _ => PPm)
  apply Run.op; (apply L_box false; rfl; rfl; rfl; (exact io1 hio _); rfl); rfl; rfl
  apply Run.op; (apply L_box false; rfl; rfl; rfl; (exact io1 hio _); rfl); rfl; rfl
  apply Run.op; (apply L_asg; rfl; rfl); rfl; rfl
  apply Run.done; refine ⟨fun h => Bool.noConfusion h, ?_⟩
  apply x3
  (repeat apply CodeT.seq)
  apply CodeT.region (fun _ => PPm)
  apply Run.op; (apply L_fldP; rfl; rfl; rfl; rfl); rfl; rfl
  apply Run.op; (apply L_fldP; rfl; rfl; rfl; rfl); rfl; rfl
  apply Run.op; (apply L_ldP; rfl; rfl; rfl; (first | exact .inl rfl | exact .inr rfl); rfl); rfl; rfl
  apply Run.op; (apply L_fldP; rfl; rfl; rfl; rfl); rfl; rfl
  apply Run.op; (apply L_fldP; rfl; rfl; rfl; rfl); rfl; rfl
  apply Run.op; (apply L_ldP; rfl; rfl; rfl; (first | exact .inl rfl | exact .inr rfl); rfl); rfl; rfl
  apply R_bool; (apply L_beql; rfl; rfl; rfl); rfl
  intro h; replace H := ifTb h H
  apply Run.op; (apply L_mov; rfl; rfl); rfl; rfl
  apply Run.op; (apply L_fldP; rfl; rfl; rfl; rfl); rfl; rfl
  apply Run.op; (apply L_fldP; rfl; rfl; rfl; rfl); rfl; rfl
  apply Run.op; (apply L_ldP; rfl; rfl; rfl; (first | exact .inl rfl | exact .inr rfl); rfl); rfl; rfl
  apply Run.op; (apply L_fldP; rfl; rfl; rfl; rfl); rfl; rfl
  apply Run.op; (apply L_fldP; rfl; rfl; rfl; rfl); rfl; rfl
  apply Run.op; (apply L_ldP; rfl; rfl; rfl; (first | exact .inl rfl | exact .inr rfl); rfl); rfl; rfl
  obtain ⟨r1, hr1, H⟩ := bindS H
  apply R_bool; (apply L_call; ((apply ArgsV.cons; (apply ArgV.val; rfl; rfl)); (apply ArgsV.cons; (apply ArgV.val; rfl; rfl)); (apply ArgsV.nil)); (exact m_spec_l04List a0.fNum.fMag a1.fNum.fMag _ hr1); rfl; rfl; rfl); rfl
  intro h; replace H := ifTb h H
  apply Run.op; (apply L_pickT; rfl; rfl; rfl); rfl; rfl
  apply Run.op; (apply L_mov; rfl; rfl); rfl; rfl
  apply Run.op; (apply L_fldP; rfl; rfl; rfl; rfl); rfl; rfl
  apply Run.op; (apply L_ldP; rfl; rfl; rfl; (first | exact .inl rfl | exact .inr rfl); rfl); rfl; rfl
  apply Run.op; (apply L_fldP; rfl; rfl; rfl; rfl); rfl; rfl
  apply Run.op; (apply L_ldP; rfl; rfl; rfl; (first | exact .inl rfl | exact .inr rfl); rfl); rfl; rfl
  obtain ⟨r2, hr2, H⟩ := bindS H
  apply Run.op; (apply L_call; ((apply ArgsV.cons; (apply ArgV.val; rfl; rfl)); (apply ArgsV.cons; (apply ArgV.val; rfl; rfl)); (apply ArgsV.nil)); (exact m_spec_l04List a0.fDen a1.fDen _ hr2); rfl; rfl; rfl); rfl; rfl
  apply Run.op; (apply L_pickT; rfl; rfl; rfl); rfl; rfl
  apply Run.op; (apply L_asg; rfl; rfl); rfl; rfl
  apply Run.done; refine ⟨fun h => Bool.noConfusion h, ?_⟩
  apply x3
  apply CodeT.ret
  cases H
  apply x12
  exact RetIs.sc1 rfl
  intro h; replace H := ifFb h H
  apply Run.op; (apply L_pickT; rfl; rfl; rfl); rfl; rfl
  apply Run.op; (apply L_mov; rfl; rfl); rfl; rfl
  apply Run.skip; rfl
  apply Run.skip; rfl
  apply Run.skip; rfl
  apply Run.skip; rfl
  apply Run.skip; rfl
  apply Run.op; (apply L_pickF; rfl; rfl; rfl); rfl; rfl
  apply Run.op; (apply L_asg; rfl; rfl); rfl; rfl
  apply Run.done; refine ⟨fun h => Bool.noConfusion h, ?_⟩
  apply x3
  apply CodeT.ret
  cases H
  apply x12
  exact RetIs.sc1 rfl
  intro h; replace H := ifFb h H
  apply Run.op; (apply L_mov; rfl; rfl); rfl; rfl
  apply Run.skip; rfl
  apply Run.skip; rfl
  apply Run.skip; rfl
  apply Run.skip; rfl
  apply Run.skip; rfl
  apply Run.skip; rfl
  apply Run.skip; rfl
  apply Run.op; (apply L_pickF; rfl; rfl; rfl); rfl; rfl
  apply Run.op; (apply L_mov; rfl; rfl); rfl; rfl
  apply Run.skip; rfl
  apply Run.skip; rfl
  apply Run.skip; rfl
  apply Run.skip; rfl
  apply Run.skip; rfl
  apply Run.op; (apply L_pickF; rfl; rfl; rfl); rfl; rfl
  apply Run.op; (apply L_asg; rfl; rfl); rfl; rfl
  apply Run.done; refine ⟨fun h => Bool.noConfusion h, ?_⟩
  apply x3
  apply CodeT.ret
  cases H
  apply x12
  exact RetIs.sc1 rfl
theorem m_spec_SameLinks (a0 : (List Link)) (a1 : (List Link)) (r : Bool) (H : spec_SameLinks a0 a1 = some r) : Meets Try.prog 136 [.sl a0.length (a0.flatMap encLink), .sl a1.length (a1.flatMap encLink)] (.sc (.bool r)) true := by
  refine Meets.intro2 (N := 61) (rs := #[.tmp 4]) Try.func136 rfl rfl rfl rfl ?_
  intro Γ hio
  unfold spec_SameLinks at H
  (repeat apply CodeT.seq)
  apply CodeT.region (fun _ => PPm)
  apply Run.op; (apply L_asg; rfl; rfl); rfl; rfl
  apply Run.done; refine ⟨fun h => Bool.noConfusion h, ?_⟩
  apply x3
  (repeat apply CodeT.seq)
  apply CodeT.region (fun _ => PPm)
  apply Run.op; (apply L_mov; rfl; rfl); rfl; rfl
  apply Run.op; (apply L_len; rfl; rfl); rfl; rfl
  apply Run.op; (apply L_mov; rfl; rfl); rfl; rfl
  apply Run.op; (apply L_len; rfl; rfl); rfl; rfl
  apply Run.op; (apply L_neq; rfl; rfl; rfl); rfl; rfl
  apply Run.done; refine ⟨fun h => Bool.noConfusion h, ?_⟩
  apply x3
  (repeat apply CodeT.seq)
  refine CodeT.cond rfl (fun h => ?_) (fun h => ?_)
  replace H := ifT (of_decide_eq_true h) H
  (repeat apply CodeT.seq)
  apply CodeT.region (fun _ => PPm)
  apply Run.op; (apply L_asg; rfl; rfl); rfl; rfl
  apply Run.done; refine ⟨fun h => Bool.noConfusion h, ?_⟩
  apply x3
  apply CodeT.ret
  apply x1
  cases H
  apply x12
  exact RetIs.sc1 rfl
  replace H := ifF (of_decide_eq_false h) H
  (repeat apply CodeT.seq)
  apply CodeT.skip
  apply x3
  (repeat apply CodeT.seq)
  apply CodeT.region (fun _ => PPm)
  apply Run.op; (apply L_mov; rfl; rfl); rfl; rfl
  apply Run.op; (apply L_len; rfl; rfl); rfl; rfl
  apply Run.op; (apply L_mov; rfl; rfl); rfl; rfl
  apply Run.done; refine ⟨fun h => Bool.noConfusion h, ?_⟩
  apply x3
  (repeat apply CodeT.seq)
  apply CodeT.block
  (repeat apply CodeT.seq)
  obtain ⟨d18, hd18, H⟩ := bindS H
  refine CodeT.lloop (fun s => ⟨[(1, ⟨.sl a1.length (a1.flatMap encLink), false⟩), (13, ⟨.sl a0.length (a0.flatMap encLink), false⟩), (14, ⟨.sc (.int .i64 (a0.length : Int)), false⟩), (15, ⟨.sc (.int .i64 s), false⟩)], []⟩) (fun x e E => match x with | (.inl d) => XEnv Γ (.exit 0) ⟨[], []⟩ e E | (.inr d) => XRet Γ #[.tmp 4] (.sc (.bool d)) true e E) hd18 ?_ ?_ ?_
  refine Ent.list [] (io0 hio _) rfl ?_ ?_ <;> (repeat' first | exact trivial | (refine And.intro ⟨_, rfl, fun h => (by first | rfl | exact Bool.noConfusion h)⟩ ?_))
  clear H hd18
  rintro v9 o H
  unfold spec_SameLinks_L1 at H
  (repeat apply CodeT.seq)
  apply CodeT.region (fun _ => PPm)
  apply Run.op; (apply L_lss; rfl; rfl; rfl); rfl; rfl
  apply Run.done; refine ⟨fun h => Bool.noConfusion h, ?_⟩
  apply x3
  (repeat apply CodeT.seq)
  refine CodeT.cond rfl (fun h => ?_) (fun h => ?_)
  replace H := ifT (of_decide_eq_true h) H
  (repeat apply CodeT.seq)
  apply CodeT.skip
  apply x3
  (repeat apply CodeT.seq)
  apply CodeT.block
  (repeat apply CodeT.seq)
  apply CodeT.region (fun _ => PPm)
  apply Run.op; (apply L_mov; rfl; rfl); rfl; rfl
  obtain ⟨y10, hy10, H⟩ := bindS H
  apply Run.op; (apply L_ixS2; rfl; rfl; rfl; (exact hy10); (intro _; rfl); rfl); rfl; rfl
  apply Run.op; (apply L_ldIA; rfl; (first | exact take_whole rfl | rfl); rfl; (intro h; cases h); rfl; rfl); rfl; rfl
  apply Run.op; (apply L_alloc false; (exact io1 hio _); rfl); rfl; rfl
  apply Run.op; (apply L_asg; rfl; rfl); rfl; rfl
  apply Run.op; (apply L_st; rfl; rfl; rfl; rfl; rfl; (intro h; cases h); rfl; (first | exact splice_whole rfl | rfl)); rfl; rfl
  apply Run.done; refine ⟨fun h => Bool.noConfusion h, ?_⟩
  apply x3
  (repeat apply CodeT.seq)
  apply CodeT.region (fun _ => PPm)
  apply Run.op; (apply L_mov; rfl; rfl); rfl; rfl
  apply Run.op; (apply L_mov; rfl; rfl); rfl; rfl
  obtain ⟨y11, hy11, H⟩ := bindS H
  apply Run.op; (apply L_ixS2; rfl; rfl; rfl; (exact hy11); (intro _; rfl); rfl); rfl; rfl
  apply Run.op; (apply L_ldIA; rfl; (first | exact take_whole rfl | rfl); rfl; (intro h; cases h); rfl; rfl); rfl; rfl
  apply Run.op; (apply L_alloc false; (exact io1 hio _); rfl); rfl; rfl
  apply Run.op; (apply L_st; rfl; rfl; rfl; rfl; rfl; (intro h; cases h); rfl; (first | exact splice_whole rfl | rfl)); rfl; rfl
  apply Run.done; refine ⟨fun h => Bool.noConfusion h, ?_⟩
  apply x3
  (repeat apply CodeT.seq)
  obtain ⟨d16, hd16, H⟩ := bindS H
  refine CodeT.lcut (x := d16) (fun d e E => XEnv Γ .normal ⟨[(1, ⟨.sl a1.length (a1.flatMap encLink), false⟩), (13, ⟨.sl a0.length (a0.flatMap encLink), false⟩), (14, ⟨.sc (.int .i64 (a0.length : Int)), false⟩), (15, ⟨.sc (.int .i64 v9), false⟩), (59, ⟨.sc (.bool d), false⟩)], []⟩ e E) ?_ ?_
  clear H; have H := hd16; clear hd16
  apply CodeT.region (fun _ => PPm)
  apply Run.op; (apply L_fldP; rfl; rfl; rfl; rfl); rfl; rfl
  apply Run.op; (apply L_ldP; rfl; rfl; rfl; (first | exact .inl rfl | exact .inr rfl); rfl); rfl; rfl
  apply Run.op; (apply L_fldP; rfl; rfl; rfl; rfl); rfl; rfl
  apply Run.op; (apply L_ldP; rfl; rfl; rfl; (first | exact .inl rfl | exact .inr rfl); rfl); rfl; rfl
  apply R_dec; (apply L_neq; rfl; rfl; rfl); rfl
  intro h; replace H := ifT h H
  apply Run.op; (apply L_mov; rfl; rfl); rfl; rfl
  apply Run.skip; rfl
  apply Run.skip; rfl
  apply Run.skip; rfl
  apply Run.skip; rfl
  apply Run.skip; rfl
  apply Run.op; (apply L_pickT; rfl; rfl; rfl); rfl; rfl
  apply Run.op; (apply L_mov; rfl; rfl); rfl; rfl
  apply Run.skip; rfl
  apply Run.skip; rfl
  apply Run.skip; rfl
  apply Run.skip; rfl
  apply Run.skip; rfl
  apply Run.skip; rfl
  apply Run.op; (apply L_pickT; rfl; rfl; rfl); rfl; rfl
  apply Run.op; (apply L_mov; rfl; rfl); rfl; rfl
  apply Run.skip; rfl
  apply Run.skip; rfl
  apply Run.skip; rfl
  apply Run.skip; rfl
  apply Run.skip; rfl
  apply Run.skip; rfl
  apply Run.op; (apply L_pickT; rfl; rfl; rfl); rfl; rfl
  apply Run.op; (apply L_mov; rfl; rfl); rfl; rfl
  apply Run.skip; rfl
  apply Run.skip; rfl
  apply Run.skip; rfl
  apply Run.skip; rfl
  apply Run.skip; rfl
  apply Run.skip; rfl
  apply Run.op; (apply L_pickT; rfl; rfl; rfl); rfl; rfl
  apply Run.done; refine ⟨fun h => Bool.noConfusion h, ?_⟩
  obtain rfl := Option.some.inj H
  refine Ev.y4 ?_
  refine XEnv.mk ?_
  refine Ent.list [] (io0 hio _) rfl ?_ ?_ <;> (repeat' first | exact trivial | (refine And.intro ⟨_, rfl, fun h => (by first | rfl | exact Bool.noConfusion h)⟩ ?_))
  intro h; replace H := ifF h H
  apply Run.op; (apply L_mov; rfl; rfl); rfl; rfl
  apply Run.op; (apply L_fldP; rfl; rfl; rfl; rfl); rfl; rfl
  apply Run.op; (apply L_ldP; rfl; rfl; rfl; (first | exact .inl rfl | exact .inr rfl); rfl); rfl; rfl
  apply Run.op; (apply L_fldP; rfl; rfl; rfl; rfl); rfl; rfl
  apply Run.op; (apply L_ldP; rfl; rfl; rfl; (first | exact .inl rfl | exact .inr rfl); rfl); rfl; rfl
  apply R_dec; (apply L_neq; rfl; rfl; rfl); rfl
  intro h; replace H := ifT h H
  apply Run.op; (apply L_pickF; rfl; rfl; rfl); rfl; rfl
  apply Run.op; (apply L_mov; rfl; rfl); rfl; rfl
  apply Run.skip; rfl
  apply Run.skip; rfl
  apply Run.skip; rfl
  apply Run.skip; rfl
  apply Run.skip; rfl
  apply Run.skip; rfl
  apply Run.op; (apply L_pickT; rfl; rfl; rfl); rfl; rfl
  apply Run.op; (apply L_mov; rfl; rfl); rfl; rfl
  apply Run.skip; rfl
  apply Run.skip; rfl
  apply Run.skip; rfl
  apply Run.skip; rfl
  apply Run.skip; rfl
  apply Run.skip; rfl
  apply Run.op; (apply L_pickT; rfl; rfl; rfl); rfl; rfl
  apply Run.op; (apply L_mov; rfl; rfl); rfl; rfl
  apply Run.skip; rfl
  apply Run.skip; rfl
  apply Run.skip; rfl
  apply Run.skip; rfl
  apply Run.skip; rfl
  apply Run.skip; rfl
  apply Run.op; (apply L_pickT; rfl; rfl; rfl); rfl; rfl
  apply Run.done; refine ⟨fun h => Bool.noConfusion h, ?_⟩
  obtain rfl := Option.some.inj H
  refine Ev.y4 ?_
  refine XEnv.mk ?_
  refine Ent.list [] (io0 hio _) rfl ?_ ?_ <;> (repeat' first | exact trivial | (refine And.intro ⟨_, rfl, fun h => (by first | rfl | exact Bool.noConfusion h)⟩ ?_))
  intro h; replace H := ifF h H
  apply Run.op; (apply L_pickF; rfl; rfl; rfl); rfl; rfl
  apply Run.op; (apply L_mov; rfl; rfl); rfl; rfl
  apply Run.op; (apply L_fldP; rfl; rfl; rfl; rfl); rfl; rfl
  apply Run.op; (apply L_ldPA; rfl; rfl; (first | exact seg_whole rfl | rfl); rfl; (intro h; cases h); (first | exact .inl rfl | exact .inr rfl); rfl); rfl; rfl
  apply Run.op; (apply L_fldP; rfl; rfl; rfl; rfl); rfl; rfl
  apply Run.op; (apply L_ldPA; rfl; rfl; (first | exact seg_whole rfl | rfl); rfl; (intro h; cases h); (first | exact .inl rfl | exact .inr rfl); rfl); rfl; rfl
  obtain ⟨r12, hr12, H⟩ := bindS H
  apply R_bool; (apply L_call; ((apply ArgsV.cons; (apply ArgV.val; rfl; rfl)); (apply ArgsV.cons; (apply ArgV.val; rfl; rfl)); (apply ArgsV.nil)); (exact m_spec_RatEqual y10.fWeight y11.fWeight _ hr12); rfl; rfl; rfl); rfl
  intro h; replace H := ifTb h H
  apply Run.op; (apply L_not; rfl; rfl); rfl; rfl
  apply Run.op; (apply L_pickF; rfl; rfl; rfl); rfl; rfl
  apply Run.op; (apply L_mov; rfl; rfl); rfl; rfl
  apply Run.op; (apply L_fldP; rfl; rfl; rfl; rfl); rfl; rfl
  apply Run.op; (apply L_ldPA; rfl; rfl; (first | exact seg_whole rfl | rfl); rfl; (intro h; cases h); (first | exact .inl rfl | exact .inr rfl); rfl); rfl; rfl
  apply Run.op; (apply L_fldP; rfl; rfl; rfl; rfl); rfl; rfl
  apply Run.op; (apply L_ldPA; rfl; rfl; (first | exact seg_whole rfl | rfl); rfl; (intro h; cases h); (first | exact .inl rfl | exact .inr rfl); rfl); rfl; rfl
  obtain ⟨r13, hr13, H⟩ := bindS H
  apply R_bool; (apply L_call; ((apply ArgsV.cons; (apply ArgV.val; rfl; rfl)); (apply ArgsV.cons; (apply ArgV.val; rfl; rfl)); (apply ArgsV.nil)); (exact m_spec_RatEqual y10.fDX y11.fDX _ hr13); rfl; rfl; rfl); rfl
  intro h; replace H := ifTb h H
  apply Run.op; (apply L_not; rfl; rfl); rfl; rfl
  apply Run.op; (apply L_pickF; rfl; rfl; rfl); rfl; rfl
  apply Run.op; (apply L_mov; rfl; rfl); rfl; rfl
  apply Run.op; (apply L_fldP; rfl; rfl; rfl; rfl); rfl; rfl
  apply Run.op; (apply L_ldPA; rfl; rfl; (first | exact seg_whole rfl | rfl); rfl; (intro h; cases h); (first | exact .inl rfl | exact .inr rfl); rfl); rfl; rfl
  apply Run.op; (apply L_fldP; rfl; rfl; rfl; rfl); rfl; rfl
  apply Run.op; (apply L_ldPA; rfl; rfl; (first | exact seg_whole rfl | rfl); rfl; (intro h; cases h); (first | exact .inl rfl | exact .inr rfl); rfl); rfl; rfl
  obtain ⟨r14, hr14, H⟩ := bindS H
  apply Run.op; (apply L_call; ((apply ArgsV.cons; (apply ArgV.val; rfl; rfl)); (apply ArgsV.cons; (apply ArgV.val; rfl; rfl)); (apply ArgsV.nil)); (exact m_spec_RatEqual y10.fDY y11.fDY _ hr14); rfl; rfl; rfl); rfl; rfl
  apply Run.op; (apply L_not; rfl; rfl); rfl; rfl
  apply Run.op; (apply L_pickF; rfl; rfl; rfl); rfl; rfl
  apply Run.done; refine ⟨fun h => Bool.noConfusion h, ?_⟩
  obtain rfl := Option.some.inj H
  refine Ev.y4 ?_
  refine XEnv.mk ?_
  refine Ent.list [] (io0 hio _) rfl ?_ ?_ <;> (repeat' first | exact trivial | (refine And.intro ⟨_, rfl, fun h => (by first | rfl | exact Bool.noConfusion h)⟩ ?_))
  intro h; replace H := ifFb h H
  apply Run.op; (apply L_not; rfl; rfl); rfl; rfl
  apply Run.op; (apply L_pickF; rfl; rfl; rfl); rfl; rfl
  apply Run.op; (apply L_mov; rfl; rfl); rfl; rfl
  apply Run.skip; rfl
  apply Run.skip; rfl
  apply Run.skip; rfl
  apply Run.skip; rfl
  apply Run.skip; rfl
  apply Run.skip; rfl
  apply Run.op; (apply L_pickT; rfl; rfl; rfl); rfl; rfl
  apply Run.done; refine ⟨fun h => Bool.noConfusion h, ?_⟩
  obtain rfl := Option.some.inj H
  refine Ev.y4 ?_
  refine XEnv.mk ?_
  refine Ent.list [] (io0 hio _) rfl ?_ ?_ <;> (repeat' first | exact trivial | (refine And.intro ⟨_, rfl, fun h => (by first | rfl | exact Bool.noConfusion h)⟩ ?_))
  intro h; replace H := ifFb h H
  apply Run.op; (apply L_not; rfl; rfl); rfl; rfl
  apply Run.op; (apply L_pickF; rfl; rfl; rfl); rfl; rfl
  apply Run.op; (apply L_mov; rfl; rfl); rfl; rfl
  apply Run.skip; rfl
  apply Run.skip; rfl
  apply Run.skip; rfl
  apply Run.skip; rfl
  apply Run.skip; rfl
  apply Run.skip; rfl
  apply Run.op; (apply L_pickT; rfl; rfl; rfl); rfl; rfl
  apply Run.op; (apply L_mov; rfl; rfl); rfl; rfl
  apply Run.skip; rfl
  apply Run.skip; rfl
  apply Run.skip; rfl
  apply Run.skip; rfl
  apply Run.skip; rfl
  apply Run.skip; rfl
  apply Run.op; (apply L_pickT; rfl; rfl; rfl); rfl; rfl
  apply Run.done; refine ⟨fun h => Bool.noConfusion h, ?_⟩
  obtain rfl := Option.some.inj H
  refine Ev.y4 ?_
  refine XEnv.mk ?_
  refine Ent.list [] (io0 hio _) rfl ?_ ?_ <;> (repeat' first | exact trivial | (refine And.intro ⟨_, rfl, fun h => (by first | rfl | exact Bool.noConfusion h)⟩ ?_))
  intro e E' hX; obtain ⟨rfl, g17⟩ := XEnv.out hX
  apply x3
  refine CodeT.weak g17 ?_
  refine CodeT.cond rfl (fun h => ?_) (fun h => ?_)
  replace H := ifTb h H
  (repeat apply CodeT.seq)
  apply CodeT.region (fun _ => PPm)
  apply Run.op; (apply L_asg; rfl; rfl); rfl; rfl
  apply Run.done; refine ⟨fun h => Bool.noConfusion h, ?_⟩
  apply x3
  apply CodeT.ret
  apply x4
  apply x1
  obtain rfl := Option.some.inj H
  refine Ev.y2 ?_
  refine XRet.mk ?_
  exact RetIs.sc1 rfl
  replace H := ifFb h H
  (repeat apply CodeT.seq)
  apply CodeT.skip
  apply x5
  apply x3
  apply CodeT.region (fun _ => PPm)
  apply Run.op; (apply L_add; rfl; rfl; rfl; rfl); rfl; rfl
  apply Run.op; (apply L_mov; rfl; rfl); rfl; rfl
  apply Run.done; refine ⟨fun h => Bool.noConfusion h, ?_⟩
  obtain rfl := Option.some.inj H
  refine Ev.y1 ?_
  refine Ent.list [] (io0 hio _) rfl ?_ ?_ <;> (repeat' first | exact trivial | (refine And.intro ⟨_, rfl, fun h => (by first | rfl | exact Bool.noConfusion h)⟩ ?_))
  replace H := ifF (of_decide_eq_false h) H
  (repeat apply CodeT.seq)
  apply CodeT.exit
  apply x2
  obtain rfl := Option.some.inj H
  refine Ev.y3 ?_
  refine XEnv.mk ?_
  refine Ent.list [] (io0 hio _) rfl ?_ ?_ <;> (repeat' first | exact trivial | (refine And.intro ⟨_, rfl, fun h => (by first | rfl | exact Bool.noConfusion h)⟩ ?_))
  rcases d18 with (d19 | d21)
  intro e E' hX; obtain ⟨rfl, g20⟩ := XEnv.out hX
  refine x6 rfl ?_
  apply x3
  refine CodeT.weak g20 ?_
  (repeat apply CodeT.seq)
  apply CodeT.region (fun _ => PPm)
  apply Run.op; (apply L_asg; rfl; rfl); rfl; rfl
  apply Run.done; refine ⟨fun h => Bool.noConfusion h, ?_⟩
  apply x3
  apply CodeT.ret
  cases H
  apply x12
  exact RetIs.sc1 rfl
  intro e E' hX; obtain ⟨rfl, g22⟩ := XRet.out hX
  apply x4
  apply x1
  cases H
  apply x12
  exact g22
theorem m_spec_SameConditional (a0 : Conditional) (a1 : Conditional) (r : Bool) (H : spec_SameConditional a0 a1 = some r) : Meets Try.prog 137 [.agg (encConditional a0), .agg (encConditional a1)] (.sc (.bool r)) true := by
  refine Meets.intro2 (N := 73) (rs := #[.tmp 4]) Try.func137 rfl rfl rfl rfl ?_
  intro Γ hio
  unfold spec_SameConditional at H
  (repeat apply CodeT.seq)
  apply CodeT.region (fun _ => PPm)
  apply Run.op; (apply L_box false; rfl; rfl; rfl; (exact io1 hio _); rfl); rfl; rfl
  apply Run.op; (apply L_box false; rfl; rfl; rfl; (exact io1 hio _); rfl); rfl; rfl
  apply Run.op; (apply L_asg; rfl; rfl); rfl; rfl
  apply Run.done; refine ⟨fun h => Bool.noConfusion h, ?_⟩
  apply x3
  (repeat apply CodeT.seq)
  obtain ⟨d3, hd3, H⟩ := bindS H
  refine CodeT.lcut (x := d3) (fun d e E => XEnv Γ .normal ⟨[(2, ⟨.ptr 2 0, false⟩), (3, ⟨.ptr 3 0, false⟩), (29, ⟨.sc (.bool d), false⟩)], [(2, some ⟨(encConditional a0), false, false⟩), (3, some ⟨(encConditional a1), false, false⟩)]⟩ e E) ?_ ?_
  clear H; have H := hd3; clear hd3
  apply CodeT.region (fun _ => PPm)
  apply Run.op; (apply L_fldP; rfl; rfl; rfl; rfl); rfl; rfl
  apply Run.op; (apply L_ldP; rfl; rfl; rfl; (first | exact .inl rfl | exact .inr rfl); rfl); rfl; rfl
  apply Run.op; (apply L_fldP; rfl; rfl; rfl; rfl); rfl; rfl
  apply Run.op; (apply L_ldP; rfl; rfl; rfl; (first | exact .inl rfl | exact .inr rfl); rfl); rfl; rfl
  apply R_dec; (apply L_neq; rfl; rfl; rfl); rfl
  intro h; replace H := ifT h H
  apply Run.op; (apply L_mov; rfl; rfl); rfl; rfl
  apply Run.skip; rfl
  apply Run.skip; rfl
  apply Run.skip; rfl
  apply Run.skip; rfl
  apply Run.skip; rfl
  apply Run.skip; rfl
  apply Run.op; (apply L_pickT; rfl; rfl; rfl); rfl; rfl
  apply Run.op; (apply L_mov; rfl; rfl); rfl; rfl
  apply Run.skip; rfl
  apply Run.skip; rfl
  apply Run.skip; rfl
  apply Run.skip; rfl
  apply Run.skip; rfl
  apply Run.skip; rfl
  apply Run.skip; rfl
  apply Run.op; (apply L_pickT; rfl; rfl; rfl); rfl; rfl
  apply Run.done; refine ⟨fun h => Bool.noConfusion h, ?_⟩
  obtain rfl := Option.some.inj H
  refine Ev.y4 ?_
  refine XEnv.mk ?_
  refine Ent.list [] (io0 hio _) rfl ?_ ?_ <;> (repeat' first | exact trivial | (refine And.intro ⟨_, rfl, fun h => (by first | rfl | exact Bool.noConfusion h)⟩ ?_))
  intro h; replace H := ifF h H
  apply Run.op; (apply L_mov; rfl; rfl); rfl; rfl
  apply Run.op; (apply L_fldP; rfl; rfl; rfl; rfl); rfl; rfl
  apply Run.op; (apply L_ldPA; rfl; rfl; (first | exact seg_whole rfl | rfl); rfl; (intro h; cases h); (first | exact .inl rfl | exact .inr rfl); rfl); rfl; rfl
  apply Run.op; (apply L_fldP; rfl; rfl; rfl; rfl); rfl; rfl
  apply Run.op; (apply L_ldPA; rfl; rfl; (first | exact seg_whole rfl | rfl); rfl; (intro h; cases h); (first | exact .inl rfl | exact .inr rfl); rfl); rfl; rfl
  obtain ⟨r1, hr1, H⟩ := bindS H
  apply R_bool; (apply L_call; ((apply ArgsV.cons; (apply ArgV.val; rfl; rfl)); (apply ArgsV.cons; (apply ArgV.val; rfl; rfl)); (apply ArgsV.nil)); (exact m_spec_RatEqual a0.fTotal a1.fTotal _ hr1); rfl; rfl; rfl); rfl
  intro h; replace H := ifTb h H
  apply Run.op; (apply L_not; rfl; rfl); rfl; rfl
  apply Run.op; (apply L_pickF; rfl; rfl; rfl); rfl; rfl
  apply Run.op; (apply L_mov; rfl; rfl); rfl; rfl
  apply Run.op; (apply L_fldP; rfl; rfl; rfl; rfl); rfl; rfl
  apply Run.op; (apply L_ldP; rfl; rfl; rfl; (first | exact .inl rfl | exact .inr rfl); rfl); rfl; rfl
  apply Run.op; (apply L_len; rfl; rfl); rfl; rfl
  apply Run.op; (apply L_fldP; rfl; rfl; rfl; rfl); rfl; rfl
  apply Run.op; (apply L_ldP; rfl; rfl; rfl; (first | exact .inl rfl | exact .inr rfl); rfl); rfl; rfl
  apply Run.op; (apply L_len; rfl; rfl); rfl; rfl
  apply Run.op; (apply L_neq; rfl; rfl; rfl); rfl; rfl
  apply Run.op; (apply L_pickF; rfl; rfl; rfl); rfl; rfl
  apply Run.done; refine ⟨fun h => Bool.noConfusion h, ?_⟩
  obtain rfl := Option.some.inj H
  refine Ev.y4 ?_
  refine XEnv.mk ?_
  refine Ent.list [] (io0 hio _) rfl ?_ ?_ <;> (repeat' first | exact trivial | (refine And.intro ⟨_, rfl, fun h => (by first | rfl | exact Bool.noConfusion h)⟩ ?_))
  intro h; replace H := ifFb h H
  apply Run.op; (apply L_not; rfl; rfl); rfl; rfl
  apply Run.op; (apply L_pickF; rfl; rfl; rfl); rfl; rfl
  apply Run.op; (apply L_mov; rfl; rfl); rfl; rfl
  apply Run.skip; rfl
  apply Run.skip; rfl
  apply Run.skip; rfl
  apply Run.skip; rfl
  apply Run.skip; rfl
  apply Run.skip; rfl
  apply Run.skip; rfl
  apply Run.op; (apply L_pickT; rfl; rfl; rfl); rfl; rfl
  apply Run.done; refine ⟨fun h => Bool.noConfusion h, ?_⟩
  obtain rfl := Option.some.inj H
  refine Ev.y4 ?_
  refine XEnv.mk ?_
  refine Ent.list [] (io0 hio _) rfl ?_ ?_ <;> (repeat' first | exact trivial | (refine And.intro ⟨_, rfl, fun h => (by first | rfl | exact Bool.noConfusion h)⟩ ?_))
  intro e E' hX; obtain ⟨rfl, g4⟩ := XEnv.out hX
  apply x3
  refine CodeT.weak g4 ?_
  (repeat apply CodeT.seq)
  refine CodeT.cond rfl (fun h => ?_) (fun h => ?_)
  replace H := ifTb h H
  (repeat apply CodeT.seq)
  apply CodeT.region (fun _ => PPm)
  apply Run.op; (apply L_asg; rfl; rfl); rfl; rfl
  apply Run.done; refine ⟨fun h => Bool.noConfusion h, ?_⟩
  apply x3
  apply CodeT.ret
  apply x1
  cases H
  apply x12
  exact RetIs.sc1 rfl
  replace H := ifFb h H
  (repeat apply CodeT.seq)
  apply CodeT.skip
  apply x3
  (repeat apply CodeT.seq)
  apply CodeT.region (fun _ => PPm)
  apply Run.op; (apply L_fldP; rfl; rfl; rfl; rfl); rfl; rfl
  apply Run.op; (apply L_ldP; rfl; rfl; rfl; (first | exact .inl rfl | exact .inr rfl); rfl); rfl; rfl
  apply Run.op; (apply L_len; rfl; rfl); rfl; rfl
  apply Run.op; (apply L_mov; rfl; rfl); rfl; rfl
  apply Run.done; refine ⟨fun h => Bool.noConfusion h, ?_⟩
  apply x3
  (repeat apply CodeT.seq)
  apply CodeT.block
  (repeat apply CodeT.seq)
  obtain ⟨d22, hd22, H⟩ := bindS H
  refine CodeT.lloop (fun s => ⟨[(3, ⟨.ptr 3 0, false⟩), (31, ⟨.sl a0.fParents.length (a0.fParents.flatMap encParent), false⟩), (32, ⟨.sc (.int .i64 (a0.fParents.length : Int)), false⟩), (33, ⟨.sc (.int .i64 s), false⟩)], [(3, some ⟨(encConditional a1), false, false⟩)]⟩) (fun x e E => match x with | (.inl d) => XEnv Γ (.exit 0) ⟨[], []⟩ e E | (.inr d) => XRet Γ #[.tmp 4] (.sc (.bool d)) true e E) hd22 ?_ ?_ ?_
  refine Ent.list [] (io0 hio _) rfl ?_ ?_ <;> (repeat' first | exact trivial | (refine And.intro ⟨_, rfl, fun h => (by first | rfl | exact Bool.noConfusion h)⟩ ?_))
  clear H hd22
  rintro v13 o H
  unfold spec_SameConditional_L1 at H
  (repeat apply CodeT.seq)
  apply CodeT.region (fun _ => PPm)
  apply Run.op; (apply L_lss; rfl; rfl; rfl); rfl; rfl
  apply Run.done; refine ⟨fun h => Bool.noConfusion h, ?_⟩
  apply x3
  (repeat apply CodeT.seq)
  refine CodeT.cond rfl (fun h => ?_) (fun h => ?_)
  replace H := ifT (of_decide_eq_true h) H
  (repeat apply CodeT.seq)
  apply CodeT.skip
  apply x3
  (repeat apply CodeT.seq)
  apply CodeT.block
  (repeat apply CodeT.seq)
  apply CodeT.region (fun _ => PPm)
  apply Run.op; (apply L_mov; rfl; rfl); rfl; rfl
  obtain ⟨y14, hy14, H⟩ := bindS H
  apply Run.op; (apply L_ixS2; rfl; rfl; rfl; (exact hy14); (intro _; rfl); rfl); rfl; rfl
  apply Run.op; (apply L_ldIA; rfl; (first | exact take_whole rfl | rfl); rfl; (intro h; cases h); rfl; rfl); rfl; rfl
  apply Run.op; (apply L_alloc false; (exact io1 hio _); rfl); rfl; rfl
  apply Run.op; (apply L_asg; rfl; rfl); rfl; rfl
  apply Run.op; (apply L_st; rfl; rfl; rfl; rfl; rfl; (intro h; cases h); rfl; (first | exact splice_whole rfl | rfl)); rfl; rfl
  apply Run.done; refine ⟨fun h => Bool.noConfusion h, ?_⟩
  apply x3
  (repeat apply CodeT.seq)
  apply CodeT.region (fun _ => PPm)
  apply Run.op; (apply L_fldP; rfl; rfl; rfl; rfl); rfl; rfl
  apply Run.op; (apply L_ldP; rfl; rfl; rfl; (first | exact .inl rfl | exact .inr rfl); rfl); rfl; rfl
  apply Run.op; (apply L_mov; rfl; rfl); rfl; rfl
  obtain ⟨y15, hy15, H⟩ := bindS H
  apply Run.op; (apply L_ixS2; rfl; rfl; rfl; (exact hy15); (intro _; rfl); rfl); rfl; rfl
  apply Run.op; (apply L_ldIA; rfl; (first | exact take_whole rfl | rfl); rfl; (intro h; cases h); rfl; rfl); rfl; rfl
  apply Run.op; (apply L_alloc false; (exact io1 hio _); rfl); rfl; rfl
  apply Run.op; (apply L_st; rfl; rfl; rfl; rfl; rfl; (intro h; cases h); rfl; (first | exact splice_whole rfl | rfl)); rfl; rfl
  apply Run.done; refine ⟨fun h => Bool.noConfusion h, ?_⟩
  apply x3
  (repeat apply CodeT.seq)
  obtain ⟨d20, hd20, H⟩ := bindS H
  refine CodeT.lcut (x := d20) (fun d e E => XEnv Γ .normal ⟨[(3, ⟨.ptr 3 0, false⟩), (31, ⟨.sl a0.fParents.length (a0.fParents.flatMap encParent), false⟩), (32, ⟨.sc (.int .i64 (a0.fParents.length : Int)), false⟩), (33, ⟨.sc (.int .i64 v13), false⟩), (71, ⟨.sc (.bool d), false⟩)], [(3, some ⟨(encConditional a1), false, false⟩)]⟩ e E) ?_ ?_
  clear H; have H := hd20; clear hd20
  apply CodeT.region (fun _ => PPm)
  apply Run.op; (apply L_fldP; rfl; rfl; rfl; rfl); rfl; rfl
  apply Run.op; (apply L_ldP; rfl; rfl; rfl; (first | exact .inl rfl | exact .inr rfl); rfl); rfl; rfl
  apply Run.op; (apply L_fldP; rfl; rfl; rfl; rfl); rfl; rfl
  apply Run.op; (apply L_ldP; rfl; rfl; rfl; (first | exact .inl rfl | exact .inr rfl); rfl); rfl; rfl
  apply R_dec; (apply L_neq; rfl; rfl; rfl); rfl
  intro h; replace H := ifT h H
  apply Run.op; (apply L_mov; rfl; rfl); rfl; rfl
  apply Run.skip; rfl
  apply Run.skip; rfl
  apply Run.skip; rfl
  apply Run.skip; rfl
  apply Run.skip; rfl
  apply Run.skip; rfl
  apply Run.op; (apply L_pickT; rfl; rfl; rfl); rfl; rfl
  apply Run.op; (apply L_mov; rfl; rfl); rfl; rfl
  apply Run.skip; rfl
  apply Run.skip; rfl
  apply Run.skip; rfl
  apply Run.skip; rfl
  apply Run.skip; rfl
  apply Run.skip; rfl
  apply Run.op; (apply L_pickT; rfl; rfl; rfl); rfl; rfl
  apply Run.op; (apply L_mov; rfl; rfl); rfl; rfl
  apply Run.skip; rfl
  apply Run.skip; rfl
  apply Run.skip; rfl
  apply Run.skip; rfl
  apply Run.skip; rfl
  apply Run.skip; rfl
  apply Run.op; (apply L_pickT; rfl; rfl; rfl); rfl; rfl
  apply Run.done; refine ⟨fun h => Bool.noConfusion h, ?_⟩
  obtain rfl := Option.some.inj H
  refine Ev.y4 ?_
  refine XEnv.mk ?_
  refine Ent.list [] (io0 hio _) rfl ?_ ?_ <;> (repeat' first | exact trivial | (refine And.intro ⟨_, rfl, fun h => (by first | rfl | exact Bool.noConfusion h)⟩ ?_))
  intro h; replace H := ifF h H
  apply Run.op; (apply L_mov; rfl; rfl); rfl; rfl
  apply Run.op; (apply L_fldP; rfl; rfl; rfl; rfl); rfl; rfl
  apply Run.op; (apply L_ldPA; rfl; rfl; (first | exact seg_whole rfl | rfl); rfl; (intro h; cases h); (first | exact .inl rfl | exact .inr rfl); rfl); rfl; rfl
  apply Run.op; (apply L_fldP; rfl; rfl; rfl; rfl); rfl; rfl
  apply Run.op; (apply L_ldPA; rfl; rfl; (first | exact seg_whole rfl | rfl); rfl; (intro h; cases h); (first | exact .inl rfl | exact .inr rfl); rfl); rfl; rfl
  obtain ⟨r16, hr16, H⟩ := bindS H
  apply R_bool; (apply L_call; ((apply ArgsV.cons; (apply ArgV.val; rfl; rfl)); (apply ArgsV.cons; (apply ArgV.val; rfl; rfl)); (apply ArgsV.nil)); (exact m_spec_RatEqual y14.fShare y15.fShare _ hr16); rfl; rfl; rfl); rfl
  intro h; replace H := ifTb h H
  apply Run.op; (apply L_not; rfl; rfl); rfl; rfl
  apply Run.op; (apply L_pickF; rfl; rfl; rfl); rfl; rfl
  apply Run.op; (apply L_mov; rfl; rfl); rfl; rfl
  apply Run.op; (apply L_fldP; rfl; rfl; rfl; rfl); rfl; rfl
  apply Run.op; (apply L_ldPA; rfl; rfl; (first | exact seg_whole rfl | rfl); rfl; (intro h; cases h); (first | exact .inl rfl | exact .inr rfl); rfl); rfl; rfl
  apply Run.op; (apply L_fldP; rfl; rfl; rfl; rfl); rfl; rfl
  apply Run.op; (apply L_ldPA; rfl; rfl; (first | exact seg_whole rfl | rfl); rfl; (intro h; cases h); (first | exact .inl rfl | exact .inr rfl); rfl); rfl; rfl
  obtain ⟨r17, hr17, H⟩ := bindS H
  apply R_bool; (apply L_call; ((apply ArgsV.cons; (apply ArgV.val; rfl; rfl)); (apply ArgsV.cons; (apply ArgV.val; rfl; rfl)); (apply ArgsV.nil)); (exact m_spec_RatEqual y14.fDX y15.fDX _ hr17); rfl; rfl; rfl); rfl
  intro h; replace H := ifTb h H
  apply Run.op; (apply L_not; rfl; rfl); rfl; rfl
  apply Run.op; (apply L_pickF; rfl; rfl; rfl); rfl; rfl
  apply Run.op; (apply L_mov; rfl; rfl); rfl; rfl
  apply Run.op; (apply L_fldP; rfl; rfl; rfl; rfl); rfl; rfl
  apply Run.op; (apply L_ldPA; rfl; rfl; (first | exact seg_whole rfl | rfl); rfl; (intro h; cases h); (first | exact .inl rfl | exact .inr rfl); rfl); rfl; rfl
  apply Run.op; (apply L_fldP; rfl; rfl; rfl; rfl); rfl; rfl
  apply Run.op; (apply L_ldPA; rfl; rfl; (first | exact seg_whole rfl | rfl); rfl; (intro h; cases h); (first | exact .inl rfl | exact .inr rfl); rfl); rfl; rfl
  obtain ⟨r18, hr18, H⟩ := bindS H
  apply Run.op; (apply L_call; ((apply ArgsV.cons; (apply ArgV.val; rfl; rfl)); (apply ArgsV.cons; (apply ArgV.val; rfl; rfl)); (apply ArgsV.nil)); (exact m_spec_RatEqual y14.fDY y15.fDY _ hr18); rfl; rfl; rfl); rfl; rfl
  apply Run.op; (apply L_not; rfl; rfl); rfl; rfl
  apply Run.op; (apply L_pickF; rfl; rfl; rfl); rfl; rfl
  apply Run.done; refine ⟨fun h => Bool.noConfusion h, ?_⟩
  obtain rfl := Option.some.inj H
  refine Ev.y4 ?_
  refine XEnv.mk ?_
  refine Ent.list [] (io0 hio _) rfl ?_ ?_ <;> (repeat' first | exact trivial | (refine And.intro ⟨_, rfl, fun h => (by first | rfl | exact Bool.noConfusion h)⟩ ?_))
  intro h; replace H := ifFb h H
  apply Run.op; (apply L_not; rfl; rfl); rfl; rfl
  apply Run.op; (apply L_pickF; rfl; rfl; rfl); rfl; rfl
  apply Run.op; (apply L_mov; rfl; rfl); rfl; rfl
  apply Run.skip; rfl
  apply Run.skip; rfl
  apply Run.skip; rfl
  apply Run.skip; rfl
  apply Run.skip; rfl
  apply Run.skip; rfl
  apply Run.op; (apply L_pickT; rfl; rfl; rfl); rfl; rfl
  apply Run.done; refine ⟨fun h => Bool.noConfusion h, ?_⟩
  obtain rfl := Option.some.inj H
  refine Ev.y4 ?_
  refine XEnv.mk ?_
  refine Ent.list [] (io0 hio _) rfl ?_ ?_ <;> (repeat' first | exact trivial | (refine And.intro ⟨_, rfl, fun h => (by first | rfl | exact Bool.noConfusion h)⟩ ?_))
  intro h; replace H := ifFb h H
  apply Run.op; (apply L_not; rfl; rfl); rfl; rfl
  apply Run.op; (apply L_pickF; rfl; rfl; rfl); rfl; rfl
  apply Run.op; (apply L_mov; rfl; rfl); rfl; rfl
  apply Run.skip; rfl
  apply Run.skip; rfl
  apply Run.skip; rfl
  apply Run.skip; rfl
  apply Run.skip; rfl
  apply Run.skip; rfl
  apply Run.op; (apply L_pickT; rfl; rfl; rfl); rfl; rfl
  apply Run.op; (apply L_mov; rfl; rfl); rfl; rfl
  apply Run.skip; rfl
  apply Run.skip; rfl
  apply Run.skip; rfl
  apply Run.skip; rfl
  apply Run.skip; rfl
  apply Run.skip; rfl
  apply Run.op; (apply L_pickT; rfl; rfl; rfl); rfl; rfl
  apply Run.done; refine ⟨fun h => Bool.noConfusion h, ?_⟩
  obtain rfl := Option.some.inj H
  refine Ev.y4 ?_
  refine XEnv.mk ?_
  refine Ent.list [] (io0 hio _) rfl ?_ ?_ <;> (repeat' first | exact trivial | (refine And.intro ⟨_, rfl, fun h => (by first | rfl | exact Bool.noConfusion h)⟩ ?_))
  intro e E' hX; obtain ⟨rfl, g21⟩ := XEnv.out hX
  apply x3
  refine CodeT.weak g21 ?_
  refine CodeT.cond rfl (fun h => ?_) (fun h => ?_)
  replace H := ifTb h H
  (repeat apply CodeT.seq)
  apply CodeT.region (fun _ => PPm)
  apply Run.op; (apply L_asg; rfl; rfl); rfl; rfl
  apply Run.done; refine ⟨fun h => Bool.noConfusion h, ?_⟩
  apply x3
  apply CodeT.ret
  apply x4
  apply x1
  obtain rfl := Option.some.inj H
  refine Ev.y2 ?_
  refine XRet.mk ?_
  exact RetIs.sc1 rfl
  replace H := ifFb h H
  (repeat apply CodeT.seq)
  apply CodeT.skip
  apply x5
  apply x3
  apply CodeT.region (fun _ => PPm)
  apply Run.op; (apply L_add; rfl; rfl; rfl; rfl); rfl; rfl
  apply Run.op; (apply L_mov; rfl; rfl); rfl; rfl
  apply Run.done; refine ⟨fun h => Bool.noConfusion h, ?_⟩
  obtain rfl := Option.some.inj H
  refine Ev.y1 ?_
  refine Ent.list [] (io0 hio _) rfl ?_ ?_ <;> (repeat' first | exact trivial | (refine And.intro ⟨_, rfl, fun h => (by first | rfl | exact Bool.noConfusion h)⟩ ?_))
  replace H := ifF (of_decide_eq_false h) H
  (repeat apply CodeT.seq)
  apply CodeT.exit
  apply x2
  obtain rfl := Option.some.inj H
  refine Ev.y3 ?_
  refine XEnv.mk ?_
  refine Ent.list [] (io0 hio _) rfl ?_ ?_ <;> (repeat' first | exact trivial | (refine And.intro ⟨_, rfl, fun h => (by first | rfl | exact Bool.noConfusion h)⟩ ?_))
  rcases d22 with (d23 | d25)
  intro e E' hX; obtain ⟨rfl, g24⟩ := XEnv.out hX
  refine x6 rfl ?_
  apply x3
  refine CodeT.weak g24 ?_
  (repeat apply CodeT.seq)
  apply CodeT.region (fun _ => PPm)
  apply Run.op; (apply L_asg; rfl; rfl); rfl; rfl
  apply Run.done; refine ⟨fun h => Bool.noConfusion h, ?_⟩
  apply x3
  apply CodeT.ret
  cases H
  apply x12
  exact RetIs.sc1 rfl
  intro e E' hX; obtain ⟨rfl, g26⟩ := XRet.out hX
  apply x4
  apply x1
  cases H
  apply x12
  exact g26
theorem m_spec_l12Same (a0 : TreeNode) (a1 : TreeNode) (r : Bool) (H : spec_l12Same a0 a1 = some r) : Meets Try.prog 99 [.agg (encTreeNode a0), .agg (encTreeNode a1)] (.sc (.bool r)) true := by
  refine Meets.intro2 (N := 45) (rs := #[.tmp 4]) Try.func99 rfl rfl rfl rfl ?_
  intro Γ hio
  unfold spec_l12Same at H
  (repeat apply CodeT.seq)
  apply CodeT.region (fun _ => PPm)
  apply Run.op; (apply L_box false; rfl; rfl; rfl; (exact io1 hio _); rfl); rfl; rfl
  apply Run.op; (apply L_box false; rfl; rfl; rfl; (exact io1 hio _); rfl); rfl; rfl
  apply Run.op; (apply L_asg; rfl; rfl); rfl; rfl
  apply Run.done; refine ⟨fun h => Bool.noConfusion h, ?_⟩
  apply x3
  (repeat apply CodeT.seq)
  apply CodeT.region (fun _ => PPm)
  apply Run.op; (apply L_fldP; rfl; rfl; rfl; rfl); rfl; rfl
  apply Run.op; (apply L_ldP; rfl; rfl; rfl; (first | exact .inl rfl | exact .inr rfl); rfl); rfl; rfl
  apply Run.op; (apply L_fldP; rfl; rfl; rfl; rfl); rfl; rfl
  apply Run.op; (apply L_ldP; rfl; rfl; rfl; (first | exact .inl rfl | exact .inr rfl); rfl); rfl; rfl
  apply R_dec; (apply L_eql; rfl; rfl; rfl); rfl
  intro h; replace H := ifT h H
  apply Run.op; (apply L_mov; rfl; rfl); rfl; rfl
  apply Run.op; (apply L_fldP; rfl; rfl; rfl; rfl); rfl; rfl
  apply Run.op; (apply L_ldP; rfl; rfl; rfl; (first | exact .inl rfl | exact .inr rfl); rfl); rfl; rfl
  apply Run.op; (apply L_fldP; rfl; rfl; rfl; rfl); rfl; rfl
  apply Run.op; (apply L_ldP; rfl; rfl; rfl; (first | exact .inl rfl | exact .inr rfl); rfl); rfl; rfl
  apply R_dec; (apply L_eql; rfl; rfl; rfl); rfl
  intro h; replace H := ifT h H
  apply Run.op; (apply L_pickT; rfl; rfl; rfl); rfl; rfl
  apply Run.op; (apply L_mov; rfl; rfl); rfl; rfl
  apply Run.op; (apply L_fldP; rfl; rfl; rfl; rfl); rfl; rfl
  apply Run.op; (apply L_ldP; rfl; rfl; rfl; (first | exact .inl rfl | exact .inr rfl); rfl); rfl; rfl
  apply Run.op; (apply L_fldP; rfl; rfl; rfl; rfl); rfl; rfl
  apply Run.op; (apply L_ldP; rfl; rfl; rfl; (first | exact .inl rfl | exact .inr rfl); rfl); rfl; rfl
  obtain ⟨r1, hr1, H⟩ := bindS H
  apply R_bool; (apply L_call; ((apply ArgsV.cons; (apply ArgV.val; rfl; rfl)); (apply ArgsV.cons; (apply ArgV.val; rfl; rfl)); (apply ArgsV.nil)); (exact m_spec_SameLinks a0.fOwn a1.fOwn _ hr1); rfl; rfl; rfl); rfl
  intro h; replace H := ifTb h H
  apply Run.op; (apply L_pickT; rfl; rfl; rfl); rfl; rfl
  apply Run.op; (apply L_mov; rfl; rfl); rfl; rfl
  apply Run.op; (apply L_fldP; rfl; rfl; rfl; rfl); rfl; rfl
  apply Run.op; (apply L_ldPA; rfl; rfl; (first | exact seg_whole rfl | rfl); rfl; (intro h; cases h); (first | exact .inl rfl | exact .inr rfl); rfl); rfl; rfl
  apply Run.op; (apply L_fldP; rfl; rfl; rfl; rfl); rfl; rfl
  apply Run.op; (apply L_ldPA; rfl; rfl; (first | exact seg_whole rfl | rfl); rfl; (intro h; cases h); (first | exact .inl rfl | exact .inr rfl); rfl); rfl; rfl
  obtain ⟨r2, hr2, H⟩ := bindS H
  apply R_bool; (apply L_call; ((apply ArgsV.cons; (apply ArgV.val; rfl; rfl)); (apply ArgsV.cons; (apply ArgV.val; rfl; rfl)); (apply ArgsV.nil)); (exact m_spec_SameConditional a0.fCond a1.fCond _ hr2); rfl; rfl; rfl); rfl
  intro h; replace H := ifTb h H
  apply Run.op; (apply L_pickT; rfl; rfl; rfl); rfl; rfl
  apply Run.op; (apply L_mov; rfl; rfl); rfl; rfl
  apply Run.op; (apply L_fldP; rfl; rfl; rfl; rfl); rfl; rfl
  apply Run.op; (apply L_ldP; rfl; rfl; rfl; (first | exact .inl rfl | exact .inr rfl); rfl); rfl; rfl
  apply Run.op; (apply L_fldP; rfl; rfl; rfl; rfl); rfl; rfl
  apply Run.op; (apply L_ldP; rfl; rfl; rfl; (first | exact .inl rfl | exact .inr rfl); rfl); rfl; rfl
  obtain ⟨r3, hr3, H⟩ := bindS H
  apply R_bool; (apply L_call; ((apply ArgsV.cons; (apply ArgV.val; rfl; rfl)); (apply ArgsV.cons; (apply ArgV.val; rfl; rfl)); (apply ArgsV.nil)); (exact m_spec_SameLinks a0.fMessages a1.fMessages _ hr3); rfl; rfl; rfl); rfl
  intro h; replace H := ifTb h H
  apply Run.op; (apply L_pickT; rfl; rfl; rfl); rfl; rfl
  apply Run.op; (apply L_mov; rfl; rfl); rfl; rfl
  apply Run.op; (apply L_fldP; rfl; rfl; rfl; rfl); rfl; rfl
  apply Run.op; (apply L_ldPA; rfl; rfl; (first | exact seg_whole rfl | rfl); rfl; (intro h; cases h); (first | exact .inl rfl | exact .inr rfl); rfl); rfl; rfl
  apply Run.op; (apply L_fldP; rfl; rfl; rfl; rfl); rfl; rfl
  apply Run.op; (apply L_ldPA; rfl; rfl; (first | exact seg_whole rfl | rfl); rfl; (intro h; cases h); (first | exact .inl rfl | exact .inr rfl); rfl); rfl; rfl
  obtain ⟨r4, hr4, H⟩ := bindS H
  apply Run.op; (apply L_call; ((apply ArgsV.cons; (apply ArgV.val; rfl; rfl)); (apply ArgsV.cons; (apply ArgV.val; rfl; rfl)); (apply ArgsV.nil)); (exact m_spec_RatEqual a0.fEnergy a1.fEnergy _ hr4); rfl; rfl; rfl); rfl; rfl
  apply Run.op; (apply L_pickT; rfl; rfl; rfl); rfl; rfl
  apply Run.op; (apply L_asg; rfl; rfl); rfl; rfl
  apply Run.done; refine ⟨fun h => Bool.noConfusion h, ?_⟩
  apply x3
  apply CodeT.ret
  cases H
  apply x12
  exact RetIs.sc1 rfl
  intro h; replace H := ifFb h H
  apply Run.op; (apply L_pickT; rfl; rfl; rfl); rfl; rfl
  apply Run.op; (apply L_mov; rfl; rfl); rfl; rfl
  apply Run.skip; rfl
  apply Run.skip; rfl
  apply Run.skip; rfl
  apply Run.skip; rfl
  apply Run.skip; rfl
  apply Run.op; (apply L_pickF; rfl; rfl; rfl); rfl; rfl
  apply Run.op; (apply L_asg; rfl; rfl); rfl; rfl
  apply Run.done; refine ⟨fun h => Bool.noConfusion h, ?_⟩
  apply x3
  apply CodeT.ret
  cases H
  apply x12
  exact RetIs.sc1 rfl
  intro h; replace H := ifFb h H
  apply Run.op; (apply L_pickT; rfl; rfl; rfl); rfl; rfl
  apply Run.op; (apply L_mov; rfl; rfl); rfl; rfl
  apply Run.skip; rfl
  apply Run.skip; rfl
  apply Run.skip; rfl
  apply Run.skip; rfl
  apply Run.skip; rfl
  apply Run.op; (apply L_pickF; rfl; rfl; rfl); rfl; rfl
  apply Run.op; (apply L_mov; rfl; rfl); rfl; rfl
  apply Run.skip; rfl
  apply Run.skip; rfl
  apply Run.skip; rfl
  apply Run.skip; rfl
  apply Run.skip; rfl
  apply Run.op; (apply L_pickF; rfl; rfl; rfl); rfl; rfl
  apply Run.op; (apply L_asg; rfl; rfl); rfl; rfl
  apply Run.done; refine ⟨fun h => Bool.noConfusion h, ?_⟩
  apply x3
  apply CodeT.ret
  cases H
  apply x12
  exact RetIs.sc1 rfl
  intro h; replace H := ifFb h H
  apply Run.op; (apply L_pickT; rfl; rfl; rfl); rfl; rfl
  apply Run.op; (apply L_mov; rfl; rfl); rfl; rfl
  apply Run.skip; rfl
  apply Run.skip; rfl
  apply Run.skip; rfl
  apply Run.skip; rfl
  apply Run.skip; rfl
  apply Run.op; (apply L_pickF; rfl; rfl; rfl); rfl; rfl
  apply Run.op; (apply L_mov; rfl; rfl); rfl; rfl
  apply Run.skip; rfl
  apply Run.skip; rfl
  apply Run.skip; rfl
  apply Run.skip; rfl
  apply Run.skip; rfl
  apply Run.op; (apply L_pickF; rfl; rfl; rfl); rfl; rfl
  apply Run.op; (apply L_mov; rfl; rfl); rfl; rfl
  apply Run.skip; rfl
  apply Run.skip; rfl
  apply Run.skip; rfl
  apply Run.skip; rfl
  apply Run.skip; rfl
  apply Run.op; (apply L_pickF; rfl; rfl; rfl); rfl; rfl
  apply Run.op; (apply L_asg; rfl; rfl); rfl; rfl
  apply Run.done; refine ⟨fun h => Bool.noConfusion h, ?_⟩
  apply x3
  apply CodeT.ret
  cases H
  apply x12
  exact RetIs.sc1 rfl
  intro h; replace H := ifF h H
  apply Run.op; (apply L_pickT; rfl; rfl; rfl); rfl; rfl
  apply Run.op; (apply L_mov; rfl; rfl); rfl; rfl
  apply Run.skip; rfl
  apply Run.skip; rfl
  apply Run.skip; rfl
  apply Run.skip; rfl
  apply Run.skip; rfl
  apply Run.op; (apply L_pickF; rfl; rfl; rfl); rfl; rfl
  apply Run.op; (apply L_mov; rfl; rfl); rfl; rfl
  apply Run.skip; rfl
  apply Run.skip; rfl
  apply Run.skip; rfl
  apply Run.skip; rfl
  apply Run.skip; rfl
  apply Run.op; (apply L_pickF; rfl; rfl; rfl); rfl; rfl
  apply Run.op; (apply L_mov; rfl; rfl); rfl; rfl
  apply Run.skip; rfl
  apply Run.skip; rfl
  apply Run.skip; rfl
  apply Run.skip; rfl
  apply Run.skip; rfl
  apply Run.op; (apply L_pickF; rfl; rfl; rfl); rfl; rfl
  apply Run.op; (apply L_mov; rfl; rfl); rfl; rfl
  apply Run.skip; rfl
  apply Run.skip; rfl
  apply Run.skip; rfl
  apply Run.skip; rfl
  apply Run.skip; rfl
  apply Run.op; (apply L_pickF; rfl; rfl; rfl); rfl; rfl
  apply Run.op; (apply L_asg; rfl; rfl); rfl; rfl
  apply Run.done; refine ⟨fun h => Bool.noConfusion h, ?_⟩
  apply x3
  apply CodeT.ret
  cases H
  apply x12
  exact RetIs.sc1 rfl
  intro h; replace H := ifF h H
  apply Run.op; (apply L_mov; rfl; rfl); rfl; rfl
  apply Run.skip; rfl
  apply Run.skip; rfl
  apply Run.skip; rfl
  apply Run.skip; rfl
  apply Run.skip; rfl
  apply Run.op; (apply L_pickF; rfl; rfl; rfl); rfl; rfl
  apply Run.op; (apply L_mov; rfl; rfl); rfl; rfl
  apply Run.skip; rfl
  apply Run.skip; rfl
  apply Run.skip; rfl
  apply Run.skip; rfl
  apply Run.skip; rfl
  apply Run.op; (apply L_pickF; rfl; rfl; rfl); rfl; rfl
  apply Run.op; (apply L_mov; rfl; rfl); rfl; rfl
  apply Run.skip; rfl
  apply Run.skip; rfl
  apply Run.skip; rfl
  apply Run.skip; rfl
  apply Run.skip; rfl
  apply Run.op; (apply L_pickF; rfl; rfl; rfl); rfl; rfl
  apply Run.op; (apply L_mov; rfl; rfl); rfl; rfl
  apply Run.skip; rfl
  apply Run.skip; rfl
  apply Run.skip; rfl
  apply Run.skip; rfl
  apply Run.skip; rfl
  apply Run.op; (apply L_pickF; rfl; rfl; rfl); rfl; rfl
  apply Run.op; (apply L_mov; rfl; rfl); rfl; rfl
  apply Run.skip; rfl
  apply Run.skip; rfl
  apply Run.skip; rfl
  apply Run.skip; rfl
  apply Run.skip; rfl
  apply Run.op; (apply L_pickF; rfl; rfl; rfl); rfl; rfl
  apply Run.op; (apply L_asg; rfl; rfl); rfl; rfl
  apply Run.done; refine ⟨fun h => Bool.noConfusion h, ?_⟩
  apply x3
  apply CodeT.ret
  cases H
  apply x12
  exact RetIs.sc1 rfl
theorem m_spec_ChangedNodes (a0 : Tree) (a1 : Tree) (r : (List Int)) (H : spec_ChangedNodes a0 a1 = some r) : Meets Try.prog 52 [.agg (encTree a0), .agg (encTree a1)] (.rw 1 r.length (r.flatMap (encI .i64))) true := by
  refine Meets.intro2 (N := 40) (rs := #[.tmp 4]) Try.func52 rfl rfl rfl rfl ?_
  intro Γ hio
  unfold spec_ChangedNodes at H
  (repeat apply CodeT.seq)
  apply CodeT.region (fun _ => PPm)
  apply Run.op; (apply L_box false; rfl; rfl; rfl; (exact io1 hio _); rfl); rfl; rfl
  apply Run.op; (apply L_box false; rfl; rfl; rfl; (exact io1 hio _); rfl); rfl; rfl
  apply Run.op; (apply L_asg; rfl; rfl); rfl; rfl
  apply Run.done; refine ⟨fun h => Bool.noConfusion h, ?_⟩
  apply x3
  (repeat apply CodeT.seq)
  apply CodeT.region (fun _ => PPm)
  apply Run.op; (apply L_bs0; (exact io1 hio _); rfl); rfl; rfl
  apply Run.op; (apply L_asg; rfl; rfl); rfl; rfl
  apply Run.done; refine ⟨fun h => Bool.noConfusion h, ?_⟩
  apply x3
  (repeat apply CodeT.seq)
  apply CodeT.region (fun _ => PPm)
  apply Run.op; (apply L_fldP; rfl; rfl; rfl; rfl); rfl; rfl
  apply Run.op; (apply L_ldP; rfl; rfl; rfl; (first | exact .inl rfl | exact .inr rfl); rfl); rfl; rfl
  apply Run.op; (apply L_len; rfl; rfl); rfl; rfl
  apply Run.op; (apply L_mov; rfl; rfl); rfl; rfl
  apply Run.done; refine ⟨fun h => Bool.noConfusion h, ?_⟩
  apply x3
  (repeat apply CodeT.seq)
  apply CodeT.block
  (repeat apply CodeT.seq)
  obtain ⟨d22, hd22, H⟩ := bindS H
  refine CodeT.lloop (fun s => ⟨[(2, ⟨.ptr 2 0, false⟩), (5, ⟨.ref 505 1 0 s.2.length, false⟩), (11, ⟨.sl a1.fNodes.length (a1.fNodes.flatMap encTreeNode), false⟩), (12, ⟨.sc (.int .i64 (a1.fNodes.length : Int)), false⟩), (13, ⟨.sc (.int .i64 s.1), false⟩)], [(2, some ⟨(encTree a0), false, false⟩), (505, some ⟨s.2.flatMap (encI .i64), true, false⟩)]⟩) (fun d e E => XEnv Γ (.exit 0) ⟨[(5, ⟨.ref 505 1 0 d.length, false⟩)], [(505, some ⟨d.flatMap (encI .i64), true, false⟩)]⟩ e E) hd22 ?_ ?_ ?_
  refine Ent.list [(505, 9)] (io0 hio _) rfl ?_ ?_ <;> (repeat' first | exact trivial | (refine And.intro ⟨_, rfl, fun h => (by first | rfl | exact Bool.noConfusion h)⟩ ?_))
  clear H hd22
  rintro ⟨v10, v11⟩ o H
  unfold spec_ChangedNodes_L1 at H
  (repeat apply CodeT.seq)
  apply CodeT.region (fun _ => PPm)
  apply Run.op; (apply L_lss; rfl; rfl; rfl); rfl; rfl
  apply Run.done; refine ⟨fun h => Bool.noConfusion h, ?_⟩
  apply x3
  (repeat apply CodeT.seq)
  refine CodeT.cond rfl (fun h => ?_) (fun h => ?_)
  replace H := ifT (of_decide_eq_true h) H
  (repeat apply CodeT.seq)
  apply CodeT.skip
  apply x3
  (repeat apply CodeT.seq)
  apply CodeT.block
  (repeat apply CodeT.seq)
  apply CodeT.region (fun _ => PPm)
  obtain ⟨y12, hy12, H⟩ := bindS H
  apply Run.op; (apply L_ixS2; rfl; rfl; rfl; (exact hy12); (intro _; rfl); rfl); rfl; rfl
  apply Run.op; (apply L_ldIA; rfl; (first | exact take_whole rfl | rfl); rfl; (intro h; cases h); rfl; rfl); rfl; rfl
  apply Run.op; (apply L_alloc false; (exact io1 hio _); rfl); rfl; rfl
  apply Run.op; (apply L_st; rfl; rfl; rfl; rfl; rfl; (intro h; cases h); rfl; (first | exact splice_whole rfl | rfl)); rfl; rfl
  apply Run.done; refine ⟨fun h => Bool.noConfusion h, ?_⟩
  apply x3
  (repeat apply CodeT.seq)
  apply CodeT.region (fun _ => PPm)
  apply Run.op; (apply L_ldPA; rfl; rfl; (first | exact seg_whole rfl | rfl); rfl; (intro h; cases h); (first | exact .inl rfl | exact .inr rfl); rfl); rfl; rfl
  apply Run.op; (apply L_fldP; rfl; rfl; rfl; rfl); rfl; rfl
  apply Run.op; (apply L_ldP; rfl; rfl; rfl; (first | exact .inl rfl | exact .inr rfl); rfl); rfl; rfl
  obtain ⟨r13, hr13, H⟩ := bindS H
  apply Run.op; (apply L_call; ((apply ArgsV.cons; (apply ArgV.val; rfl; rfl)); (apply ArgsV.cons; (apply ArgV.val; rfl; rfl)); (apply ArgsV.nil)); (exact m_spec_l12At a0 y12.fNode _ hr13); rfl; rfl; rfl); rfl; rfl
  apply Run.op; (apply L_asg; rfl; rfl); rfl; rfl
  apply Run.done; refine ⟨fun h => Bool.noConfusion h, ?_⟩
  apply x3
  (repeat apply CodeT.seq)
  obtain ⟨d17, hd17, H⟩ := bindS H
  refine CodeT.lcut (x := d17) (fun d e E => XEnv Γ .normal ⟨[(2, ⟨.ptr 2 0, false⟩), (5, ⟨.ref 505 1 0 v11.length, false⟩), (7, ⟨.ptr 7 0, false⟩), (11, ⟨.sl a1.fNodes.length (a1.fNodes.flatMap encTreeNode), false⟩), (12, ⟨.sc (.int .i64 (a1.fNodes.length : Int)), false⟩), (13, ⟨.sc (.int .i64 v10), false⟩), (32, ⟨.sc (.bool d), false⟩)], [(2, some ⟨(encTree a0), false, false⟩), (7, some ⟨(encTreeNode y12), false, false⟩), (505, some ⟨v11.flatMap (encI .i64), true, false⟩)]⟩ e E) ?_ ?_
  clear H; have H := hd17; clear hd17
  apply CodeT.region (fun _ => PPm)
  apply Run.op; (apply L_mov; rfl; rfl); rfl; rfl
  apply R_dec; (apply L_lss; rfl; rfl; rfl); rfl
  intro h; replace H := ifT h H
  apply Run.op; (apply L_mov; rfl; rfl); rfl; rfl
  apply Run.skip; rfl
  apply Run.skip; rfl
  apply Run.skip; rfl
  apply Run.skip; rfl
  apply Run.skip; rfl
  apply Run.skip; rfl
  apply Run.skip; rfl
  apply Run.skip; rfl
  apply Run.op; (apply L_pickT; rfl; rfl; rfl); rfl; rfl
  apply Run.done; refine ⟨fun _ => ⟨rfl, rfl⟩, ?_⟩
  obtain rfl := Option.some.inj H
  refine Ev.y4 ?_
  refine XEnv.mk ?_
  refine Ent.list [] (io0 hio _) rfl ?_ ?_ <;> (repeat' first | exact trivial | (refine And.intro ⟨_, rfl, fun h => (by first | rfl | exact Bool.noConfusion h)⟩ ?_))
  intro h; replace H := ifF h H
  apply Run.op; (apply L_mov; rfl; rfl); rfl; rfl
  apply Run.op; (apply L_fldP; rfl; rfl; rfl; rfl); rfl; rfl
  apply Run.op; (apply L_ldP; rfl; rfl; rfl; (first | exact .inl rfl | exact .inr rfl); rfl); rfl; rfl
  apply Run.op; (apply L_mov; rfl; rfl); rfl; rfl
  obtain ⟨y14, hy14, H⟩ := bindS H
  apply Run.op; (apply L_ixS2; rfl; rfl; rfl; (exact hy14); (intro _; rfl); rfl); rfl; rfl
  apply Run.op; (apply L_ldIA; rfl; (first | exact take_whole rfl | rfl); rfl; (intro h; cases h); rfl; rfl); rfl; rfl
  apply Run.op; (apply L_ldPA; rfl; rfl; (first | exact seg_whole rfl | rfl); rfl; (intro h; cases h); (first | exact .inl rfl | exact .inr rfl); rfl); rfl; rfl
  obtain ⟨r15, hr15, H⟩ := bindS H
  apply Run.op; (apply L_call; ((apply ArgsV.cons; (apply ArgV.val; rfl; rfl)); (apply ArgsV.cons; (apply ArgV.val; rfl; rfl)); (apply ArgsV.nil)); (exact m_spec_l12Same y14 y12 _ hr15); rfl; rfl; rfl); rfl; rfl
  apply Run.op; (apply L_not; rfl; rfl); rfl; rfl
  apply Run.op; (apply L_pickF; rfl; rfl; rfl); rfl; rfl
  apply Run.done; refine ⟨fun _ => ⟨rfl, rfl⟩, ?_⟩
  obtain rfl := Option.some.inj H
  refine Ev.y4 ?_
  refine XEnv.mk ?_
  refine Ent.list [] (io0 hio _) rfl ?_ ?_ <;> (repeat' first | exact trivial | (refine And.intro ⟨_, rfl, fun h => (by first | rfl | exact Bool.noConfusion h)⟩ ?_))
  intro e E' hX; obtain ⟨rfl, g18⟩ := XEnv.out hX
  apply x3
  refine CodeT.weak g18 ?_
  refine CodeT.cond rfl (fun h => ?_) (fun h => ?_)
  replace H := ifTb h H
  (repeat apply CodeT.seq)
  apply CodeT.region (fun _ => PPm)
  apply Run.op; (apply L_mov; rfl; rfl); rfl; rfl
  apply Run.op; (apply L_fldP; rfl; rfl; rfl; rfl); rfl; rfl
  apply Run.op; (apply L_ldP; rfl; rfl; rfl; (first | exact .inl rfl | exact .inr rfl); rfl); rfl; rfl
  apply Run.op; (apply L_bs1; rfl; rfl; rfl; rfl; rfl; rfl; rfl; rfl); rfl; rfl
  obtain ⟨_u, ha19, H⟩ := bindS H
  obtain ⟨v20, hv20, H⟩ := bindS H
  apply Run.op; (apply L_app true; rfl; rfl; rfl; (exact flat_len (l := v11) (enc := (encI .i64)) (fun _ => rfl)); rfl; (exact chkS ha19); (exact app63 (by decide) (chkS ha19)); (exact ⟨io1 hio _, io1 hio _⟩); (intro _; rfl); (exact flat_snocL (l := v11) (y := y12.fNode) (enc := (encI .i64)) hv20); rfl); rfl; rfl
  apply Run.op; (apply L_asg; rfl; rfl); rfl; rfl
  apply Run.done; refine ⟨fun h => Bool.noConfusion h, ?_⟩
  apply x5
  apply x3
  apply CodeT.region (fun _ => PPm)
  apply Run.op; (apply L_add; rfl; rfl; rfl; rfl); rfl; rfl
  apply Run.op; (apply L_mov; rfl; rfl); rfl; rfl
  apply Run.done; refine ⟨fun h => Bool.noConfusion h, ?_⟩
  obtain rfl := Option.some.inj H
  refine Ev.y1 ?_
  refine Ent.list [(505, 37)] (io0 hio _) rfl ?_ ?_ <;> (repeat' first | exact trivial | (refine And.intro ⟨_, rfl, fun h => (by first | rfl | exact Bool.noConfusion h)⟩ ?_))
  replace H := ifFb h H
  (repeat apply CodeT.seq)
  apply CodeT.skip
  apply x5
  apply x3
  apply CodeT.region (fun _ => PPm)
  apply Run.op; (apply L_add; rfl; rfl; rfl; rfl); rfl; rfl
  apply Run.op; (apply L_mov; rfl; rfl); rfl; rfl
  apply Run.done; refine ⟨fun h => Bool.noConfusion h, ?_⟩
  obtain rfl := Option.some.inj H
  refine Ev.y1 ?_
  refine Ent.list [] (io0 hio _) rfl ?_ ?_ <;> (repeat' first | exact trivial | (refine And.intro ⟨_, rfl, fun h => (by first | rfl | exact Bool.noConfusion h)⟩ ?_))
  replace H := ifF (of_decide_eq_false h) H
  (repeat apply CodeT.seq)
  apply CodeT.exit
  apply x2
  obtain rfl := Option.some.inj H
  refine Ev.y3 ?_
  refine XEnv.mk ?_
  refine Ent.list [] (io0 hio _) rfl ?_ ?_ <;> (repeat' first | exact trivial | (refine And.intro ⟨_, rfl, fun h => (by first | rfl | exact Bool.noConfusion h)⟩ ?_))
  skip
  intro e E' hX; obtain ⟨rfl, g23⟩ := XEnv.out hX
  refine x6 rfl ?_
  apply x3
  refine CodeT.weak g23 ?_
  (repeat apply CodeT.seq)
  apply CodeT.region (fun _ => PPm)
  apply Run.op; (apply L_mov; rfl; rfl); rfl; rfl
  apply Run.op; (apply L_asg; rfl; rfl); rfl; rfl
  apply Run.done; refine ⟨fun h => Bool.noConfusion h, ?_⟩
  apply x3
  apply CodeT.ret
  cases H
  apply x12
  exact RetIs.rW rfl rfl rfl (io1 hio _)
theorem m_impl_indexOf (a0 : Tree) (a1 : Int) (r : Int) (H : impl_indexOf a0 a1 = some r) : Meets Try.prog 100 [.agg (encTree a0), .sc (.int .i64 a1)] (.sc (.int .i64 r)) true := by
  refine Meets.intro2 (N := 21) (rs := #[.tmp 4]) Try.func100 rfl rfl rfl rfl ?_
  intro Γ hio
  unfold impl_indexOf at H
  (repeat apply CodeT.seq)
  apply CodeT.region (fun _ => PPm)
  apply Run.op; (apply L_box false; rfl; rfl; rfl; (exact io1 hio _); rfl); rfl; rfl
  apply Run.op; (apply L_asg; rfl; rfl); rfl; rfl
  apply Run.done; refine ⟨fun h => Bool.noConfusion h, ?_⟩
  apply x3
  (repeat apply CodeT.seq)
  apply CodeT.region (fun _ => PPm)
  apply Run.op; (apply L_fldP; rfl; rfl; rfl; rfl); rfl; rfl
  apply Run.op; (apply L_ldP; rfl; rfl; rfl; (first | exact .inl rfl | exact .inr rfl); rfl); rfl; rfl
  apply Run.op; (apply L_len; rfl; rfl); rfl; rfl
  apply Run.op; (apply L_mov; rfl; rfl); rfl; rfl
  apply Run.done; refine ⟨fun h => Bool.noConfusion h, ?_⟩
  apply x3
  (repeat apply CodeT.seq)
  apply CodeT.block
  (repeat apply CodeT.seq)
  obtain ⟨d4, hd4, H⟩ := bindS H
  refine CodeT.lloop (fun s => ⟨[(1, ⟨.sc (.int .i64 a1), false⟩), (8, ⟨.sl a0.fNodes.length (a0.fNodes.flatMap encTreeNode), false⟩), (9, ⟨.sc (.int .i64 (a0.fNodes.length : Int)), false⟩), (10, ⟨.sc (.int .i64 s), false⟩)], []⟩) (fun x e E => match x with | (.inl d) => XEnv Γ (.exit 0) ⟨[], []⟩ e E | (.inr d) => XRet Γ #[.tmp 4] (.sc (.int .i64 d)) true e E) hd4 ?_ ?_ ?_
  refine Ent.list [] (io0 hio _) rfl ?_ ?_ <;> (repeat' first | exact trivial | (refine And.intro ⟨_, rfl, fun h => (by first | rfl | exact Bool.noConfusion h)⟩ ?_))
  clear H hd4
  rintro v2 o H
  unfold impl_indexOf_L1 at H
  (repeat apply CodeT.seq)
  apply CodeT.region (fun _ => PPm)
  apply Run.op; (apply L_lss; rfl; rfl; rfl); rfl; rfl
  apply Run.done; refine ⟨fun h => Bool.noConfusion h, ?_⟩
  apply x3
  (repeat apply CodeT.seq)
  refine CodeT.cond rfl (fun h => ?_) (fun h => ?_)
  replace H := ifT (of_decide_eq_true h) H
  (repeat apply CodeT.seq)
  apply CodeT.skip
  apply x3
  (repeat apply CodeT.seq)
  apply CodeT.block
  (repeat apply CodeT.seq)
  apply CodeT.region (fun _ => PPm)
  apply Run.op; (apply L_mov; rfl; rfl); rfl; rfl
  obtain ⟨y3, hy3, H⟩ := bindS H
  apply Run.op; (apply L_ixS2; rfl; rfl; rfl; (exact hy3); (intro _; rfl); rfl); rfl; rfl
  apply Run.op; (apply L_ldIA; rfl; (first | exact take_whole rfl | rfl); rfl; (intro h; cases h); rfl; rfl); rfl; rfl
  apply Run.op; (apply L_alloc false; (exact io1 hio _); rfl); rfl; rfl
  apply Run.op; (apply L_asg; rfl; rfl); rfl; rfl
  apply Run.op; (apply L_st; rfl; rfl; rfl; rfl; rfl; (intro h; cases h); rfl; (first | exact splice_whole rfl | rfl)); rfl; rfl
  apply Run.done; refine ⟨fun h => Bool.noConfusion h, ?_⟩
  apply x3
  (repeat apply CodeT.seq)
  apply CodeT.region (fun _ => PPm)
  apply Run.op; (apply L_fldP; rfl; rfl; rfl; rfl); rfl; rfl
  apply Run.op; (apply L_ldP; rfl; rfl; rfl; (first | exact .inl rfl | exact .inr rfl); rfl); rfl; rfl
  apply Run.op; (apply L_mov; rfl; rfl); rfl; rfl
  apply Run.op; (apply L_eql; rfl; rfl; rfl); rfl; rfl
  apply Run.done; refine ⟨fun h => Bool.noConfusion h, ?_⟩
  apply x3
  refine CodeT.cond rfl (fun h => ?_) (fun h => ?_)
  replace H := ifT (of_decide_eq_true h) H
  (repeat apply CodeT.seq)
  apply CodeT.region (fun _ => PPm)
  apply Run.op; (apply L_mov; rfl; rfl); rfl; rfl
  apply Run.op; (apply L_asg; rfl; rfl); rfl; rfl
  apply Run.done; refine ⟨fun h => Bool.noConfusion h, ?_⟩
  apply x3
  apply CodeT.ret
  apply x4
  apply x1
  obtain rfl := Option.some.inj H
  refine Ev.y2 ?_
  refine XRet.mk ?_
  exact RetIs.sc1 rfl
  replace H := ifF (of_decide_eq_false h) H
  (repeat apply CodeT.seq)
  apply CodeT.skip
  apply x5
  apply x3
  apply CodeT.region (fun _ => PPm)
  apply Run.op; (apply L_add; rfl; rfl; rfl; rfl); rfl; rfl
  apply Run.op; (apply L_mov; rfl; rfl); rfl; rfl
  apply Run.done; refine ⟨fun h => Bool.noConfusion h, ?_⟩
  obtain rfl := Option.some.inj H
  refine Ev.y1 ?_
  refine Ent.list [] (io0 hio _) rfl ?_ ?_ <;> (repeat' first | exact trivial | (refine And.intro ⟨_, rfl, fun h => (by first | rfl | exact Bool.noConfusion h)⟩ ?_))
  replace H := ifF (of_decide_eq_false h) H
  (repeat apply CodeT.seq)
  apply CodeT.exit
  apply x2
  obtain rfl := Option.some.inj H
  refine Ev.y3 ?_
  refine XEnv.mk ?_
  refine Ent.list [] (io0 hio _) rfl ?_ ?_ <;> (repeat' first | exact trivial | (refine And.intro ⟨_, rfl, fun h => (by first | rfl | exact Bool.noConfusion h)⟩ ?_))
  rcases d4 with (d5 | d7)
  intro e E' hX; obtain ⟨rfl, g6⟩ := XEnv.out hX
  refine x6 rfl ?_
  apply x3
  refine CodeT.weak g6 ?_
  (repeat apply CodeT.seq)
  apply CodeT.region (fun _ => PPm)
  apply Run.op; (apply L_asg; rfl; rfl); rfl; rfl
  apply Run.done; refine ⟨fun h => Bool.noConfusion h, ?_⟩
  apply x3
  apply CodeT.ret
  cases H
  apply x12
  exact RetIs.sc1 rfl
  intro e E' hX; obtain ⟨rfl, g8⟩ := XRet.out hX
  apply x4
  apply x1
  cases H
  apply x12
  exact g8
theorem m_impl_sameInts (a0 : (List Int)) (a1 : (List Int)) (r : Bool) (H : impl_sameInts a0 a1 = some r) : Meets Try.prog 169 [.sl a0.length (a0.flatMap (encI .i64)), .sl a1.length (a1.flatMap (encI .i64))] (.sc (.bool r)) true := by
  refine Meets.intro2 (N := 26) (rs := #[.tmp 4]) Try.func169 rfl rfl rfl rfl ?_
  intro Γ hio
  unfold impl_sameInts at H
  (repeat apply CodeT.seq)
  apply CodeT.region (fun _ => PPm)
  apply Run.op; (apply L_asg; rfl; rfl); rfl; rfl
  apply Run.done; refine ⟨fun h => Bool.noConfusion h, ?_⟩
  apply x3
  (repeat apply CodeT.seq)
  apply CodeT.region (fun _ => PPm)
  apply Run.op; (apply L_mov; rfl; rfl); rfl; rfl
  apply Run.op; (apply L_len; rfl; rfl); rfl; rfl
  apply Run.op; (apply L_mov; rfl; rfl); rfl; rfl
  apply Run.op; (apply L_len; rfl; rfl); rfl; rfl
  apply Run.op; (apply L_neq; rfl; rfl; rfl); rfl; rfl
  apply Run.done; refine ⟨fun h => Bool.noConfusion h, ?_⟩
  apply x3
  (repeat apply CodeT.seq)
  refine CodeT.cond rfl (fun h => ?_) (fun h => ?_)
  replace H := ifT (of_decide_eq_true h) H
  (repeat apply CodeT.seq)
  apply CodeT.region (fun _ => PPm)
  apply Run.op; (apply L_asg; rfl; rfl); rfl; rfl
  apply Run.done; refine ⟨fun h => Bool.noConfusion h, ?_⟩
  apply x3
  apply CodeT.ret
  apply x1
  cases H
  apply x12
  exact RetIs.sc1 rfl
  replace H := ifF (of_decide_eq_false h) H
  (repeat apply CodeT.seq)
  apply CodeT.skip
  apply x3
  (repeat apply CodeT.seq)
  apply CodeT.region (fun _ => PPm)
  apply Run.op; (apply L_mov; rfl; rfl); rfl; rfl
  apply Run.op; (apply L_len; rfl; rfl); rfl; rfl
  apply Run.op; (apply L_mov; rfl; rfl); rfl; rfl
  apply Run.done; refine ⟨fun h => Bool.noConfusion h, ?_⟩
  apply x3
  (repeat apply CodeT.seq)
  apply CodeT.block
  (repeat apply CodeT.seq)
  obtain ⟨d6, hd6, H⟩ := bindS H
  refine CodeT.lloop (fun s => ⟨[(1, ⟨.sl a1.length (a1.flatMap (encI .i64)), false⟩), (12, ⟨.sl a0.length (a0.flatMap (encI .i64)), false⟩), (13, ⟨.sc (.int .i64 (a0.length : Int)), false⟩), (14, ⟨.sc (.int .i64 s), false⟩)], []⟩) (fun x e E => match x with | (.inl d) => XEnv Γ (.exit 0) ⟨[], []⟩ e E | (.inr d) => XRet Γ #[.tmp 4] (.sc (.bool d)) true e E) hd6 ?_ ?_ ?_
  refine Ent.list [] (io0 hio _) rfl ?_ ?_ <;> (repeat' first | exact trivial | (refine And.intro ⟨_, rfl, fun h => (by first | rfl | exact Bool.noConfusion h)⟩ ?_))
  clear H hd6
  rintro v3 o H
  unfold impl_sameInts_L1 at H
  (repeat apply CodeT.seq)
  apply CodeT.region (fun _ => PPm)
  apply Run.op; (apply L_lss; rfl; rfl; rfl); rfl; rfl
  apply Run.done; refine ⟨fun h => Bool.noConfusion h, ?_⟩
  apply x3
  (repeat apply CodeT.seq)
  refine CodeT.cond rfl (fun h => ?_) (fun h => ?_)
  replace H := ifT (of_decide_eq_true h) H
  (repeat apply CodeT.seq)
  apply CodeT.skip
  apply x3
  (repeat apply CodeT.seq)
  apply CodeT.block
  (repeat apply CodeT.seq)
  apply CodeT.region (fun _ => PPm)
  apply Run.op; (apply L_mov; rfl; rfl); rfl; rfl
  obtain ⟨y4, hy4, H⟩ := bindS H
  apply Run.op; (apply L_ixS2; rfl; rfl; rfl; (exact hy4); (intro _; rfl); rfl); rfl; rfl
  apply Run.op; (apply L_ldI; rfl; rfl; rfl; rfl); rfl; rfl
  apply Run.op; (apply L_asg; rfl; rfl); rfl; rfl
  apply Run.op; (apply L_asg; rfl; rfl); rfl; rfl
  apply Run.done; refine ⟨fun h => Bool.noConfusion h, ?_⟩
  apply x3
  (repeat apply CodeT.seq)
  apply CodeT.region (fun _ => PPm)
  apply Run.op; (apply L_mov; rfl; rfl); rfl; rfl
  apply Run.op; (apply L_mov; rfl; rfl); rfl; rfl
  apply Run.op; (apply L_mov; rfl; rfl); rfl; rfl
  obtain ⟨y5, hy5, H⟩ := bindS H
  apply Run.op; (apply L_ixS2; rfl; rfl; rfl; (exact hy5); (intro _; rfl); rfl); rfl; rfl
  apply Run.op; (apply L_ldI; rfl; rfl; rfl; rfl); rfl; rfl
  apply Run.op; (apply L_neq; rfl; rfl; rfl); rfl; rfl
  apply Run.done; refine ⟨fun h => Bool.noConfusion h, ?_⟩
  apply x3
  refine CodeT.cond rfl (fun h => ?_) (fun h => ?_)
  replace H := ifT (of_decide_eq_true h) H
  (repeat apply CodeT.seq)
  apply CodeT.region (fun _ => PPm)
  apply Run.op; (apply L_asg; rfl; rfl); rfl; rfl
  apply Run.done; refine ⟨fun h => Bool.noConfusion h, ?_⟩
  apply x3
  apply CodeT.ret
  apply x4
  apply x1
  obtain rfl := Option.some.inj H
  refine Ev.y2 ?_
  refine XRet.mk ?_
  exact RetIs.sc1 rfl
  replace H := ifF (of_decide_eq_false h) H
  (repeat apply CodeT.seq)
  apply CodeT.skip
  apply x5
  apply x3
  apply CodeT.region (fun _ => PPm)
  apply Run.op; (apply L_add; rfl; rfl; rfl; rfl); rfl; rfl
  apply Run.op; (apply L_mov; rfl; rfl); rfl; rfl
  apply Run.done; refine ⟨fun h => Bool.noConfusion h, ?_⟩
  obtain rfl := Option.some.inj H
  refine Ev.y1 ?_
  refine Ent.list [] (io0 hio _) rfl ?_ ?_ <;> (repeat' first | exact trivial | (refine And.intro ⟨_, rfl, fun h => (by first | rfl | exact Bool.noConfusion h)⟩ ?_))
  replace H := ifF (of_decide_eq_false h) H
  (repeat apply CodeT.seq)
  apply CodeT.exit
  apply x2
  obtain rfl := Option.some.inj H
  refine Ev.y3 ?_
  refine XEnv.mk ?_
  refine Ent.list [] (io0 hio _) rfl ?_ ?_ <;> (repeat' first | exact trivial | (refine And.intro ⟨_, rfl, fun h => (by first | rfl | exact Bool.noConfusion h)⟩ ?_))
  rcases d6 with (d7 | d9)
  intro e E' hX; obtain ⟨rfl, g8⟩ := XEnv.out hX
  refine x6 rfl ?_
  apply x3
  refine CodeT.weak g8 ?_
  (repeat apply CodeT.seq)
  apply CodeT.region (fun _ => PPm)
  apply Run.op; (apply L_asg; rfl; rfl); rfl; rfl
  apply Run.done; refine ⟨fun h => Bool.noConfusion h, ?_⟩
  apply x3
  apply CodeT.ret
  cases H
  apply x12
  exact RetIs.sc1 rfl
  intro e E' hX; obtain ⟨rfl, g10⟩ := XRet.out hX
  apply x4
  apply x1
  cases H
  apply x12
  exact g10
theorem m_impl_RatEqual (a0 : Rat) (a1 : Rat) (r : Bool) (H : impl_RatEqual a0 a1 = some r) : Meets Try.prog 141 [.agg (encRat a0), .agg (encRat a1)] (.sc (.bool r)) true := by
  refine Meets.intro2 (N := 28) (rs := #[.tmp 4]) Try.func141 rfl rfl rfl rfl ?_
  intro Γ hio
  unfold impl_RatEqual at H
  (repeat apply CodeT.seq)
  apply CodeT.region (fun _ => PPm)
  apply Run.op; (apply L_box false; rfl; rfl; rfl; (exact io1 hio _); rfl); rfl; rfl
  apply Run.op; (apply L_box false; rfl; rfl; rfl; (exact io1 hio _); rfl); rfl; rfl
  apply Run.op; (apply L_asg; rfl; rfl); rfl; rfl
  apply Run.done; refine ⟨fun h => Bool.noConfusion h, ?_⟩
  apply x3
  (repeat apply CodeT.seq)
  apply CodeT.region (fun _ => PPm)
  apply Run.op; (apply L_fldP; rfl; rfl; rfl; rfl); rfl; rfl
  apply Run.op; (apply L_fldP; rfl; rfl; rfl; rfl); rfl; rfl
  apply Run.op; (apply L_ldP; rfl; rfl; rfl; (first | exact .inl rfl | exact .inr rfl); rfl); rfl; rfl
  apply Run.op; (apply L_fldP; rfl; rfl; rfl; rfl); rfl; rfl
  apply Run.op; (apply L_fldP; rfl; rfl; rfl; rfl); rfl; rfl
  apply Run.op; (apply L_ldP; rfl; rfl; rfl; (first | exact .inl rfl | exact .inr rfl); rfl); rfl; rfl
  apply R_bool; (apply L_beql; rfl; rfl; rfl); rfl
  intro h; replace H := ifTb h H
  apply Run.op; (apply L_mov; rfl; rfl); rfl; rfl
  apply Run.op; (apply L_fldP; rfl; rfl; rfl; rfl); rfl; rfl
  apply Run.op; (apply L_fldP; rfl; rfl; rfl; rfl); rfl; rfl
  apply Run.op; (apply L_ldP; rfl; rfl; rfl; (first | exact .inl rfl | exact .inr rfl); rfl); rfl; rfl
  apply Run.op; (apply L_fldP; rfl; rfl; rfl; rfl); rfl; rfl
  apply Run.op; (apply L_fldP; rfl; rfl; rfl; rfl); rfl; rfl
  apply Run.op; (apply L_ldP; rfl; rfl; rfl; (first | exact .inl rfl | exact .inr rfl); rfl); rfl; rfl
  obtain ⟨r1, hr1, H⟩ := bindS H
  apply R_bool; (apply L_call; ((apply ArgsV.cons; (apply ArgV.val; rfl; rfl)); (apply ArgsV.cons; (apply ArgV.val; rfl; rfl)); (apply ArgsV.nil)); (exact m_impl_sameInts a0.fNum.fMag a1.fNum.fMag _ hr1); rfl; rfl; rfl); rfl
  intro h; replace H := ifTb h H
  apply Run.op; (apply L_pickT; rfl; rfl; rfl); rfl; rfl
  apply Run.op; (apply L_mov; rfl; rfl); rfl; rfl
  apply Run.op; (apply L_fldP; rfl; rfl; rfl; rfl); rfl; rfl
  apply Run.op; (apply L_ldP; rfl; rfl; rfl; (first | exact .inl rfl | exact .inr rfl); rfl); rfl; rfl
  apply Run.op; (apply L_fldP; rfl; rfl; rfl; rfl); rfl; rfl
  apply Run.op; (apply L_ldP; rfl; rfl; rfl; (first | exact .inl rfl | exact .inr rfl); rfl); rfl; rfl
  obtain ⟨r2, hr2, H⟩ := bindS H
  apply Run.op; (apply L_call; ((apply ArgsV.cons; (apply ArgV.val; rfl; rfl)); (apply ArgsV.cons; (apply ArgV.val; rfl; rfl)); (apply ArgsV.nil)); (exact m_impl_sameInts a0.fDen a1.fDen _ hr2); rfl; rfl; rfl); rfl; rfl
  apply Run.op; (apply L_pickT; rfl; rfl; rfl); rfl; rfl
  apply Run.op; (apply L_asg; rfl; rfl); rfl; rfl
  apply Run.done; refine ⟨fun h => Bool.noConfusion h, ?_⟩
  apply x3
  apply CodeT.ret
  cases H
  apply x12
  exact RetIs.sc1 rfl
  intro h; replace H := ifFb h H
  apply Run.op; (apply L_pickT; rfl; rfl; rfl); rfl; rfl
  apply Run.op; (apply L_mov; rfl; rfl); rfl; rfl
  apply Run.skip; rfl
  apply Run.skip; rfl
  apply Run.skip; rfl
  apply Run.skip; rfl
  apply Run.skip; rfl
  apply Run.op; (apply L_pickF; rfl; rfl; rfl); rfl; rfl
  apply Run.op; (apply L_asg; rfl; rfl); rfl; rfl
  apply Run.done; refine ⟨fun h => Bool.noConfusion h, ?_⟩
  apply x3
  apply CodeT.ret
  cases H
  apply x12
  exact RetIs.sc1 rfl
  intro h; replace H := ifFb h H
  apply Run.op; (apply L_mov; rfl; rfl); rfl; rfl
  apply Run.skip; rfl
  apply Run.skip; rfl
  apply Run.skip; rfl
  apply Run.skip; rfl
  apply Run.skip; rfl
  apply Run.skip; rfl
  apply Run.skip; rfl
  apply Run.op; (apply L_pickF; rfl; rfl; rfl); rfl; rfl
  apply Run.op; (apply L_mov; rfl; rfl); rfl; rfl
  apply Run.skip; rfl
  apply Run.skip; rfl
  apply Run.skip; rfl
  apply Run.skip; rfl
  apply Run.skip; rfl
  apply Run.op; (apply L_pickF; rfl; rfl; rfl); rfl; rfl
  apply Run.op; (apply L_asg; rfl; rfl); rfl; rfl
  apply Run.done; refine ⟨fun h => Bool.noConfusion h, ?_⟩
  apply x3
  apply CodeT.ret
  cases H
  apply x12
  exact RetIs.sc1 rfl
theorem m_impl_sameLink (a0 : Link) (a1 : Link) (r : Bool) (H : impl_sameLink a0 a1 = some r) : Meets Try.prog 168 [.agg (encLink a0), .agg (encLink a1)] (.sc (.bool r)) true := by
  refine Meets.intro2 (N := 38) (rs := #[.tmp 4]) Try.func168 rfl rfl rfl rfl ?_
  intro Γ hio
  unfold impl_sameLink at H
  (repeat apply CodeT.seq)
  apply CodeT.region (fun _ => PPm)
  apply Run.op; (apply L_box false; rfl; rfl; rfl; (exact io1 hio _); rfl); rfl; rfl
  apply Run.op; (apply L_box false; rfl; rfl; rfl; (exact io1 hio _); rfl); rfl; rfl
  apply Run.op; (apply L_asg; rfl; rfl); rfl; rfl
  apply Run.done; refine ⟨fun h => Bool.noConfusion h, ?_⟩
  apply x3
  (repeat apply CodeT.seq)
  apply CodeT.region (fun _ => PPm)
  apply Run.op; (apply L_fldP; rfl; rfl; rfl; rfl); rfl; rfl
  apply Run.op; (apply L_ldP; rfl; rfl; rfl; (first | exact .inl rfl | exact .inr rfl); rfl); rfl; rfl
  apply Run.op; (apply L_fldP; rfl; rfl; rfl; rfl); rfl; rfl
  apply Run.op; (apply L_ldP; rfl; rfl; rfl; (first | exact .inl rfl | exact .inr rfl); rfl); rfl; rfl
  apply R_dec; (apply L_eql; rfl; rfl; rfl); rfl
  intro h; replace H := ifT h H
  apply Run.op; (apply L_mov; rfl; rfl); rfl; rfl
  apply Run.op; (apply L_fldP; rfl; rfl; rfl; rfl); rfl; rfl
  apply Run.op; (apply L_ldP; rfl; rfl; rfl; (first | exact .inl rfl | exact .inr rfl); rfl); rfl; rfl
  apply Run.op; (apply L_fldP; rfl; rfl; rfl; rfl); rfl; rfl
  apply Run.op; (apply L_ldP; rfl; rfl; rfl; (first | exact .inl rfl | exact .inr rfl); rfl); rfl; rfl
  apply R_dec; (apply L_eql; rfl; rfl; rfl); rfl
  intro h; replace H := ifT h H
  apply Run.op; (apply L_pickT; rfl; rfl; rfl); rfl; rfl
  apply Run.op; (apply L_mov; rfl; rfl); rfl; rfl
  apply Run.op; (apply L_fldP; rfl; rfl; rfl; rfl); rfl; rfl
  apply Run.op; (apply L_ldPA; rfl; rfl; (first | exact seg_whole rfl | rfl); rfl; (intro h; cases h); (first | exact .inl rfl | exact .inr rfl); rfl); rfl; rfl
  apply Run.op; (apply L_fldP; rfl; rfl; rfl; rfl); rfl; rfl
  apply Run.op; (apply L_ldPA; rfl; rfl; (first | exact seg_whole rfl | rfl); rfl; (intro h; cases h); (first | exact .inl rfl | exact .inr rfl); rfl); rfl; rfl
  obtain ⟨r1, hr1, H⟩ := bindS H
  apply R_bool; (apply L_call; ((apply ArgsV.cons; (apply ArgV.val; rfl; rfl)); (apply ArgsV.cons; (apply ArgV.val; rfl; rfl)); (apply ArgsV.nil)); (exact m_impl_RatEqual a0.fWeight a1.fWeight _ hr1); rfl; rfl; rfl); rfl
  intro h; replace H := ifTb h H
  apply Run.op; (apply L_pickT; rfl; rfl; rfl); rfl; rfl
  apply Run.op; (apply L_mov; rfl; rfl); rfl; rfl
  apply Run.op; (apply L_fldP; rfl; rfl; rfl; rfl); rfl; rfl
  apply Run.op; (apply L_ldPA; rfl; rfl; (first | exact seg_whole rfl | rfl); rfl; (intro h; cases h); (first | exact .inl rfl | exact .inr rfl); rfl); rfl; rfl
  apply Run.op; (apply L_fldP; rfl; rfl; rfl; rfl); rfl; rfl
  apply Run.op; (apply L_ldPA; rfl; rfl; (first | exact seg_whole rfl | rfl); rfl; (intro h; cases h); (first | exact .inl rfl | exact .inr rfl); rfl); rfl; rfl
  obtain ⟨r2, hr2, H⟩ := bindS H
  apply R_bool; (apply L_call; ((apply ArgsV.cons; (apply ArgV.val; rfl; rfl)); (apply ArgsV.cons; (apply ArgV.val; rfl; rfl)); (apply ArgsV.nil)); (exact m_impl_RatEqual a0.fDX a1.fDX _ hr2); rfl; rfl; rfl); rfl
  intro h; replace H := ifTb h H
  apply Run.op; (apply L_pickT; rfl; rfl; rfl); rfl; rfl
  apply Run.op; (apply L_mov; rfl; rfl); rfl; rfl
  apply Run.op; (apply L_fldP; rfl; rfl; rfl; rfl); rfl; rfl
  apply Run.op; (apply L_ldPA; rfl; rfl; (first | exact seg_whole rfl | rfl); rfl; (intro h; cases h); (first | exact .inl rfl | exact .inr rfl); rfl); rfl; rfl
  apply Run.op; (apply L_fldP; rfl; rfl; rfl; rfl); rfl; rfl
  apply Run.op; (apply L_ldPA; rfl; rfl; (first | exact seg_whole rfl | rfl); rfl; (intro h; cases h); (first | exact .inl rfl | exact .inr rfl); rfl); rfl; rfl
  obtain ⟨r3, hr3, H⟩ := bindS H
  apply Run.op; (apply L_call; ((apply ArgsV.cons; (apply ArgV.val; rfl; rfl)); (apply ArgsV.cons; (apply ArgV.val; rfl; rfl)); (apply ArgsV.nil)); (exact m_impl_RatEqual a0.fDY a1.fDY _ hr3); rfl; rfl; rfl); rfl; rfl
  apply Run.op; (apply L_pickT; rfl; rfl; rfl); rfl; rfl
  apply Run.op; (apply L_asg; rfl; rfl); rfl; rfl
  apply Run.done; refine ⟨fun h => Bool.noConfusion h, ?_⟩
  apply x3
  apply CodeT.ret
  cases H
  apply x12
  exact RetIs.sc1 rfl
  intro h; replace H := ifFb h H
  apply Run.op; (apply L_pickT; rfl; rfl; rfl); rfl; rfl
  apply Run.op; (apply L_mov; rfl; rfl); rfl; rfl
  apply Run.skip; rfl
  apply Run.skip; rfl
  apply Run.skip; rfl
  apply Run.skip; rfl
  apply Run.skip; rfl
  apply Run.op; (apply L_pickF; rfl; rfl; rfl); rfl; rfl
  apply Run.op; (apply L_asg; rfl; rfl); rfl; rfl
  apply Run.done; refine ⟨fun h => Bool.noConfusion h, ?_⟩
  apply x3
  apply CodeT.ret
  cases H
  apply x12
  exact RetIs.sc1 rfl
  intro h; replace H := ifFb h H
  apply Run.op; (apply L_pickT; rfl; rfl; rfl); rfl; rfl
  apply Run.op; (apply L_mov; rfl; rfl); rfl; rfl
  apply Run.skip; rfl
  apply Run.skip; rfl
  apply Run.skip; rfl
  apply Run.skip; rfl
  apply Run.skip; rfl
  apply Run.op; (apply L_pickF; rfl; rfl; rfl); rfl; rfl
  apply Run.op; (apply L_mov; rfl; rfl); rfl; rfl
  apply Run.skip; rfl
  apply Run.skip; rfl
  apply Run.skip; rfl
  apply Run.skip; rfl
  apply Run.skip; rfl
  apply Run.op; (apply L_pickF; rfl; rfl; rfl); rfl; rfl
  apply Run.op; (apply L_asg; rfl; rfl); rfl; rfl
  apply Run.done; refine ⟨fun h => Bool.noConfusion h, ?_⟩
  apply x3
  apply CodeT.ret
  cases H
  apply x12
  exact RetIs.sc1 rfl
  intro h; replace H := ifF h H
  apply Run.op; (apply L_pickT; rfl; rfl; rfl); rfl; rfl
  apply Run.op; (apply L_mov; rfl; rfl); rfl; rfl
  apply Run.skip; rfl
  apply Run.skip; rfl
  apply Run.skip; rfl
  apply Run.skip; rfl
  apply Run.skip; rfl
  apply Run.op; (apply L_pickF; rfl; rfl; rfl); rfl; rfl
  apply Run.op; (apply L_mov; rfl; rfl); rfl; rfl
  apply Run.skip; rfl
  apply Run.skip; rfl
  apply Run.skip; rfl
  apply Run.skip; rfl
  apply Run.skip; rfl
  apply Run.op; (apply L_pickF; rfl; rfl; rfl); rfl; rfl
  apply Run.op; (apply L_mov; rfl; rfl); rfl; rfl
  apply Run.skip; rfl
  apply Run.skip; rfl
  apply Run.skip; rfl
  apply Run.skip; rfl
  apply Run.skip; rfl
  apply Run.op; (apply L_pickF; rfl; rfl; rfl); rfl; rfl
  apply Run.op; (apply L_asg; rfl; rfl); rfl; rfl
  apply Run.done; refine ⟨fun h => Bool.noConfusion h, ?_⟩
  apply x3
  apply CodeT.ret
  cases H
  apply x12
  exact RetIs.sc1 rfl
  intro h; replace H := ifF h H
  apply Run.op; (apply L_mov; rfl; rfl); rfl; rfl
  apply Run.skip; rfl
  apply Run.skip; rfl
  apply Run.skip; rfl
  apply Run.skip; rfl
  apply Run.skip; rfl
  apply Run.op; (apply L_pickF; rfl; rfl; rfl); rfl; rfl
  apply Run.op; (apply L_mov; rfl; rfl); rfl; rfl
  apply Run.skip; rfl
  apply Run.skip; rfl
  apply Run.skip; rfl
  apply Run.skip; rfl
  apply Run.skip; rfl
  apply Run.op; (apply L_pickF; rfl; rfl; rfl); rfl; rfl
  apply Run.op; (apply L_mov; rfl; rfl); rfl; rfl
  apply Run.skip; rfl
  apply Run.skip; rfl
  apply Run.skip; rfl
  apply Run.skip; rfl
  apply Run.skip; rfl
  apply Run.op; (apply L_pickF; rfl; rfl; rfl); rfl; rfl
  apply Run.op; (apply L_mov; rfl; rfl); rfl; rfl
  apply Run.skip; rfl
  apply Run.skip; rfl
  apply Run.skip; rfl
  apply Run.skip; rfl
  apply Run.skip; rfl
  apply Run.op; (apply L_pickF; rfl; rfl; rfl); rfl; rfl
  apply Run.op; (apply L_asg; rfl; rfl); rfl; rfl
  apply Run.done; refine ⟨fun h => Bool.noConfusion h, ?_⟩
  apply x3
  apply CodeT.ret
  cases H
  apply x12
  exact RetIs.sc1 rfl
theorem m_impl_SameLinks (a0 : (List Link)) (a1 : (List Link)) (r : Bool) (H : impl_SameLinks a0 a1 = some r) : Meets Try.prog 139 [.sl a0.length (a0.flatMap encLink), .sl a1.length (a1.flatMap encLink)] (.sc (.bool r)) true := by
  refine Meets.intro2 (N := 27) (rs := #[.tmp 4]) Try.func139 rfl rfl rfl rfl ?_
  intro Γ hio
  unfold impl_SameLinks at H
  (repeat apply CodeT.seq)
  apply CodeT.region (fun _ => PPm)
  apply Run.op; (apply L_asg; rfl; rfl); rfl; rfl
  apply Run.done; refine ⟨fun h => Bool.noConfusion h, ?_⟩
  apply x3
  (repeat apply CodeT.seq)
  apply CodeT.region (fun _ => PPm)
  apply Run.op; (apply L_mov; rfl; rfl); rfl; rfl
  apply Run.op; (apply L_len; rfl; rfl); rfl; rfl
  apply Run.op; (apply L_mov; rfl; rfl); rfl; rfl
  apply Run.op; (apply L_len; rfl; rfl); rfl; rfl
  apply Run.op; (apply L_neq; rfl; rfl; rfl); rfl; rfl
  apply Run.done; refine ⟨fun h => Bool.noConfusion h, ?_⟩
  apply x3
  (repeat apply CodeT.seq)
  refine CodeT.cond rfl (fun h => ?_) (fun h => ?_)
  replace H := ifT (of_decide_eq_true h) H
  (repeat apply CodeT.seq)
  apply CodeT.region (fun _ => PPm)
  apply Run.op; (apply L_asg; rfl; rfl); rfl; rfl
  apply Run.done; refine ⟨fun h => Bool.noConfusion h, ?_⟩
  apply x3
  apply CodeT.ret
  apply x1
  cases H
  apply x12
  exact RetIs.sc1 rfl
  replace H := ifF (of_decide_eq_false h) H
  (repeat apply CodeT.seq)
  apply CodeT.skip
  apply x3
  (repeat apply CodeT.seq)
  apply CodeT.region (fun _ => PPm)
  apply Run.op; (apply L_mov; rfl; rfl); rfl; rfl
  apply Run.op; (apply L_len; rfl; rfl); rfl; rfl
  apply Run.op; (apply L_mov; rfl; rfl); rfl; rfl
  apply Run.done; refine ⟨fun h => Bool.noConfusion h, ?_⟩
  apply x3
  (repeat apply CodeT.seq)
  apply CodeT.block
  (repeat apply CodeT.seq)
  obtain ⟨d8, hd8, H⟩ := bindS H
  refine CodeT.lloop (fun s => ⟨[(1, ⟨.sl a1.length (a1.flatMap encLink), false⟩), (12, ⟨.sl a0.length (a0.flatMap encLink), false⟩), (13, ⟨.sc (.int .i64 (a0.length : Int)), false⟩), (14, ⟨.sc (.int .i64 s), false⟩)], []⟩) (fun x e E => match x with | (.inl d) => XEnv Γ (.exit 0) ⟨[], []⟩ e E | (.inr d) => XRet Γ #[.tmp 4] (.sc (.bool d)) true e E) hd8 ?_ ?_ ?_
  refine Ent.list [] (io0 hio _) rfl ?_ ?_ <;> (repeat' first | exact trivial | (refine And.intro ⟨_, rfl, fun h => (by first | rfl | exact Bool.noConfusion h)⟩ ?_))
  clear H hd8
  rintro v4 o H
  unfold impl_SameLinks_L1 at H
  (repeat apply CodeT.seq)
  apply CodeT.region (fun _ => PPm)
  apply Run.op; (apply L_lss; rfl; rfl; rfl); rfl; rfl
  apply Run.done; refine ⟨fun h => Bool.noConfusion h, ?_⟩
  apply x3
  (repeat apply CodeT.seq)
  refine CodeT.cond rfl (fun h => ?_) (fun h => ?_)
  replace H := ifT (of_decide_eq_true h) H
  (repeat apply CodeT.seq)
  apply CodeT.skip
  apply x3
  (repeat apply CodeT.seq)
  apply CodeT.block
  (repeat apply CodeT.seq)
  apply CodeT.region (fun _ => PPm)
  apply Run.op; (apply L_mov; rfl; rfl); rfl; rfl
  obtain ⟨y5, hy5, H⟩ := bindS H
  apply Run.op; (apply L_ixS2; rfl; rfl; rfl; (exact hy5); (intro _; rfl); rfl); rfl; rfl
  apply Run.op; (apply L_ldIA; rfl; (first | exact take_whole rfl | rfl); rfl; (intro h; cases h); rfl; rfl); rfl; rfl
  apply Run.op; (apply L_alloc false; (exact io1 hio _); rfl); rfl; rfl
  apply Run.op; (apply L_asg; rfl; rfl); rfl; rfl
  apply Run.op; (apply L_st; rfl; rfl; rfl; rfl; rfl; (intro h; cases h); rfl; (first | exact splice_whole rfl | rfl)); rfl; rfl
  apply Run.done; refine ⟨fun h => Bool.noConfusion h, ?_⟩
  apply x3
  (repeat apply CodeT.seq)
  apply CodeT.region (fun _ => PPm)
  apply Run.op; (apply L_ldPA; rfl; rfl; (first | exact seg_whole rfl | rfl); rfl; (intro h; cases h); (first | exact .inl rfl | exact .inr rfl); rfl); rfl; rfl
  apply Run.op; (apply L_mov; rfl; rfl); rfl; rfl
  apply Run.op; (apply L_mov; rfl; rfl); rfl; rfl
  obtain ⟨y6, hy6, H⟩ := bindS H
  apply Run.op; (apply L_ixS2; rfl; rfl; rfl; (exact hy6); (intro _; rfl); rfl); rfl; rfl
  apply Run.op; (apply L_ldIA; rfl; (first | exact take_whole rfl | rfl); rfl; (intro h; cases h); rfl; rfl); rfl; rfl
  obtain ⟨r7, hr7, H⟩ := bindS H
  apply Run.op; (apply L_call; ((apply ArgsV.cons; (apply ArgV.val; rfl; rfl)); (apply ArgsV.cons; (apply ArgV.val; rfl; rfl)); (apply ArgsV.nil)); (exact m_impl_sameLink y5 y6 _ hr7); rfl; rfl; rfl); rfl; rfl
  apply Run.op; (apply L_not; rfl; rfl); rfl; rfl
  apply Run.done; refine ⟨fun _ => ⟨rfl, rfl⟩, ?_⟩
  apply x3
  refine CodeT.cond rfl (fun h => ?_) (fun h => ?_)
  replace H := ifFb (notT h) H
  (repeat apply CodeT.seq)
  apply CodeT.region (fun _ => PPm)
  apply Run.op; (apply L_asg; rfl; rfl); rfl; rfl
  apply Run.done; refine ⟨fun h => Bool.noConfusion h, ?_⟩
  apply x3
  apply CodeT.ret
  apply x4
  apply x1
  obtain rfl := Option.some.inj H
  refine Ev.y2 ?_
  refine XRet.mk ?_
  exact RetIs.sc1 rfl
  replace H := ifTb (notF h) H
  (repeat apply CodeT.seq)
  apply CodeT.skip
  apply x5
  apply x3
  apply CodeT.region (fun _ => PPm)
  apply Run.op; (apply L_add; rfl; rfl; rfl; rfl); rfl; rfl
  apply Run.op; (apply L_mov; rfl; rfl); rfl; rfl
  apply Run.done; refine ⟨fun h => Bool.noConfusion h, ?_⟩
  obtain rfl := Option.some.inj H
  refine Ev.y1 ?_
  refine Ent.list [] (io0 hio _) rfl ?_ ?_ <;> (repeat' first | exact trivial | (refine And.intro ⟨_, rfl, fun h => (by first | rfl | exact Bool.noConfusion h)⟩ ?_))
  replace H := ifF (of_decide_eq_false h) H
  (repeat apply CodeT.seq)
  apply CodeT.exit
  apply x2
  obtain rfl := Option.some.inj H
  refine Ev.y3 ?_
  refine XEnv.mk ?_
  refine Ent.list [] (io0 hio _) rfl ?_ ?_ <;> (repeat' first | exact trivial | (refine And.intro ⟨_, rfl, fun h => (by first | rfl | exact Bool.noConfusion h)⟩ ?_))
  rcases d8 with (d9 | d11)
  intro e E' hX; obtain ⟨rfl, g10⟩ := XEnv.out hX
  refine x6 rfl ?_
  apply x3
  refine CodeT.weak g10 ?_
  (repeat apply CodeT.seq)
  apply CodeT.region (fun _ => PPm)
  apply Run.op; (apply L_asg; rfl; rfl); rfl; rfl
  apply Run.done; refine ⟨fun h => Bool.noConfusion h, ?_⟩
  apply x3
  apply CodeT.ret
  cases H
  apply x12
  exact RetIs.sc1 rfl
  intro e E' hX; obtain ⟨rfl, g12⟩ := XRet.out hX
  apply x4
  apply x1
  cases H
  apply x12
  exact g12
theorem m_impl_SameConditional (a0 : Conditional) (a1 : Conditional) (r : Bool) (H : impl_SameConditional a0 a1 = some r) : Meets Try.prog 140 [.agg (encConditional a0), .agg (encConditional a1)] (.sc (.bool r)) true := by
  refine Meets.intro2 (N := 73) (rs := #[.tmp 4]) Try.func140 rfl rfl rfl rfl ?_
  intro Γ hio
  unfold impl_SameConditional at H
  (repeat apply CodeT.seq)
  apply CodeT.region (fun _ => PPm)
  apply Run.op; (apply L_box false; rfl; rfl; rfl; (exact io1 hio _); rfl); rfl; rfl
  apply Run.op; (apply L_box false; rfl; rfl; rfl; (exact io1 hio _); rfl); rfl; rfl
  apply Run.op; (apply L_asg; rfl; rfl); rfl; rfl
  apply Run.done; refine ⟨fun h => Bool.noConfusion h, ?_⟩
  apply x3
  (repeat apply CodeT.seq)
  obtain ⟨d3, hd3, H⟩ := bindS H
  refine CodeT.lcut (x := d3) (fun d e E => XEnv Γ .normal ⟨[(2, ⟨.ptr 2 0, false⟩), (3, ⟨.ptr 3 0, false⟩), (29, ⟨.sc (.bool d), false⟩)], [(2, some ⟨(encConditional a0), false, false⟩), (3, some ⟨(encConditional a1), false, false⟩)]⟩ e E) ?_ ?_
  clear H; have H := hd3; clear hd3
  apply CodeT.region (fun _ => PPm)
  apply Run.op; (apply L_fldP; rfl; rfl; rfl; rfl); rfl; rfl
  apply Run.op; (apply L_ldP; rfl; rfl; rfl; (first | exact .inl rfl | exact .inr rfl); rfl); rfl; rfl
  apply Run.op; (apply L_fldP; rfl; rfl; rfl; rfl); rfl; rfl
  apply Run.op; (apply L_ldP; rfl; rfl; rfl; (first | exact .inl rfl | exact .inr rfl); rfl); rfl; rfl
  apply R_dec; (apply L_neq; rfl; rfl; rfl); rfl
  intro h; replace H := ifT h H
  apply Run.op; (apply L_mov; rfl; rfl); rfl; rfl
  apply Run.skip; rfl
  apply Run.skip; rfl
  apply Run.skip; rfl
  apply Run.skip; rfl
  apply Run.skip; rfl
  apply Run.skip; rfl
  apply Run.op; (apply L_pickT; rfl; rfl; rfl); rfl; rfl
  apply Run.op; (apply L_mov; rfl; rfl); rfl; rfl
  apply Run.skip; rfl
  apply Run.skip; rfl
  apply Run.skip; rfl
  apply Run.skip; rfl
  apply Run.skip; rfl
  apply Run.skip; rfl
  apply Run.skip; rfl
  apply Run.op; (apply L_pickT; rfl; rfl; rfl); rfl; rfl
  apply Run.done; refine ⟨fun h => Bool.noConfusion h, ?_⟩
  obtain rfl := Option.some.inj H
  refine Ev.y4 ?_
  refine XEnv.mk ?_
  refine Ent.list [] (io0 hio _) rfl ?_ ?_ <;> (repeat' first | exact trivial | (refine And.intro ⟨_, rfl, fun h => (by first | rfl | exact Bool.noConfusion h)⟩ ?_))
  intro h; replace H := ifF h H
  apply Run.op; (apply L_mov; rfl; rfl); rfl; rfl
  apply Run.op; (apply L_fldP; rfl; rfl; rfl; rfl); rfl; rfl
  apply Run.op; (apply L_ldPA; rfl; rfl; (first | exact seg_whole rfl | rfl); rfl; (intro h; cases h); (first | exact .inl rfl | exact .inr rfl); rfl); rfl; rfl
  apply Run.op; (apply L_fldP; rfl; rfl; rfl; rfl); rfl; rfl
  apply Run.op; (apply L_ldPA; rfl; rfl; (first | exact seg_whole rfl | rfl); rfl; (intro h; cases h); (first | exact .inl rfl | exact .inr rfl); rfl); rfl; rfl
  obtain ⟨r1, hr1, H⟩ := bindS H
  apply R_bool; (apply L_call; ((apply ArgsV.cons; (apply ArgV.val; rfl; rfl)); (apply ArgsV.cons; (apply ArgV.val; rfl; rfl)); (apply ArgsV.nil)); (exact m_impl_RatEqual a0.fTotal a1.fTotal _ hr1); rfl; rfl; rfl); rfl
  intro h; replace H := ifTb h H
  apply Run.op; (apply L_not; rfl; rfl); rfl; rfl
  apply Run.op; (apply L_pickF; rfl; rfl; rfl); rfl; rfl
  apply Run.op; (apply L_mov; rfl; rfl); rfl; rfl
  apply Run.op; (apply L_fldP; rfl; rfl; rfl; rfl); rfl; rfl
  apply Run.op; (apply L_ldP; rfl; rfl; rfl; (first | exact .inl rfl | exact .inr rfl); rfl); rfl; rfl
  apply Run.op; (apply L_len; rfl; rfl); rfl; rfl
  apply Run.op; (apply L_fldP; rfl; rfl; rfl; rfl); rfl; rfl
  apply Run.op; (apply L_ldP; rfl; rfl; rfl; (first | exact .inl rfl | exact .inr rfl); rfl); rfl; rfl
  apply Run.op; (apply L_len; rfl; rfl); rfl; rfl
  apply Run.op; (apply L_neq; rfl; rfl; rfl); rfl; rfl
  apply Run.op; (apply L_pickF; rfl; rfl; rfl); rfl; rfl
  apply Run.done; refine ⟨fun h => Bool.noConfusion h, ?_⟩
  obtain rfl := Option.some.inj H
  refine Ev.y4 ?_
  refine XEnv.mk ?_
  refine Ent.list [] (io0 hio _) rfl ?_ ?_ <;> (repeat' first | exact trivial | (refine And.intro ⟨_, rfl, fun h => (by first | rfl | exact Bool.noConfusion h)⟩ ?_))
  intro h; replace H := ifFb h H
  apply Run.op; (apply L_not; rfl; rfl); rfl; rfl
  apply Run.op; (apply L_pickF; rfl; rfl; rfl); rfl; rfl
  apply Run.op; (apply L_mov; rfl; rfl); rfl; rfl
  apply Run.skip; rfl
  apply Run.skip; rfl
  apply Run.skip; rfl
  apply Run.skip; rfl
  apply Run.skip; rfl
  apply Run.skip; rfl
  apply Run.skip; rfl
  apply Run.op; (apply L_pickT; rfl; rfl; rfl); rfl; rfl
  apply Run.done; refine ⟨fun h => Bool.noConfusion h, ?_⟩
  obtain rfl := Option.some.inj H
  refine Ev.y4 ?_
  refine XEnv.mk ?_
  refine Ent.list [] (io0 hio _) rfl ?_ ?_ <;> (repeat' first | exact trivial | (refine And.intro ⟨_, rfl, fun h => (by first | rfl | exact Bool.noConfusion h)⟩ ?_))
  intro e E' hX; obtain ⟨rfl, g4⟩ := XEnv.out hX
  apply x3
  refine CodeT.weak g4 ?_
  (repeat apply CodeT.seq)
  refine CodeT.cond rfl (fun h => ?_) (fun h => ?_)
  replace H := ifTb h H
  (repeat apply CodeT.seq)
  apply CodeT.region (fun _ => PPm)
  apply Run.op; (apply L_asg; rfl; rfl); rfl; rfl
  apply Run.done; refine ⟨fun h => Bool.noConfusion h, ?_⟩
  apply x3
  apply CodeT.ret
  apply x1
  cases H
  apply x12
  exact RetIs.sc1 rfl
  replace H := ifFb h H
  (repeat apply CodeT.seq)
  apply CodeT.skip
  apply x3
  (repeat apply CodeT.seq)
  apply CodeT.region (fun _ => PPm)
  apply Run.op; (apply L_fldP; rfl; rfl; rfl; rfl); rfl; rfl
  apply Run.op; (apply L_ldP; rfl; rfl; rfl; (first | exact .inl rfl | exact .inr rfl); rfl); rfl; rfl
  apply Run.op; (apply L_len; rfl; rfl); rfl; rfl
  apply Run.op; (apply L_mov; rfl; rfl); rfl; rfl
  apply Run.done; refine ⟨fun h => Bool.noConfusion h, ?_⟩
  apply x3
  (repeat apply CodeT.seq)
  apply CodeT.block
  (repeat apply CodeT.seq)
  obtain ⟨d22, hd22, H⟩ := bindS H
  refine CodeT.lloop (fun s => ⟨[(3, ⟨.ptr 3 0, false⟩), (31, ⟨.sl a0.fParents.length (a0.fParents.flatMap encParent), false⟩), (32, ⟨.sc (.int .i64 (a0.fParents.length : Int)), false⟩), (33, ⟨.sc (.int .i64 s), false⟩)], [(3, some ⟨(encConditional a1), false, false⟩)]⟩) (fun x e E => match x with | (.inl d) => XEnv Γ (.exit 0) ⟨[], []⟩ e E | (.inr d) => XRet Γ #[.tmp 4] (.sc (.bool d)) true e E) hd22 ?_ ?_ ?_
  refine Ent.list [] (io0 hio _) rfl ?_ ?_ <;> (repeat' first | exact trivial | (refine And.intro ⟨_, rfl, fun h => (by first | rfl | exact Bool.noConfusion h)⟩ ?_))
  clear H hd22
  rintro v13 o H
  unfold impl_SameConditional_L1 at H
  (repeat apply CodeT.seq)
  apply CodeT.region (fun _ => PPm)
  apply Run.op; (apply L_lss; rfl; rfl; rfl); rfl; rfl
  apply Run.done; refine ⟨fun h => Bool.noConfusion h, ?_⟩
  apply x3
  (repeat apply CodeT.seq)
  refine CodeT.cond rfl (fun h => ?_) (fun h => ?_)
  replace H := ifT (of_decide_eq_true h) H
  (repeat apply CodeT.seq)
  apply CodeT.skip
  apply x3
  (repeat apply CodeT.seq)
  apply CodeT.block
  (repeat apply CodeT.seq)
  apply CodeT.region (fun _ => PPm)
  apply Run.op; (apply L_mov; rfl; rfl); rfl; rfl
  obtain ⟨y14, hy14, H⟩ := bindS H
  apply Run.op; (apply L_ixS2; rfl; rfl; rfl; (exact hy14); (intro _; rfl); rfl); rfl; rfl
  apply Run.op; (apply L_ldIA; rfl; (first | exact take_whole rfl | rfl); rfl; (intro h; cases h); rfl; rfl); rfl; rfl
  apply Run.op; (apply L_alloc false; (exact io1 hio _); rfl); rfl; rfl
  apply Run.op; (apply L_asg; rfl; rfl); rfl; rfl
  apply Run.op; (apply L_st; rfl; rfl; rfl; rfl; rfl; (intro h; cases h); rfl; (first | exact splice_whole rfl | rfl)); rfl; rfl
  apply Run.done; refine ⟨fun h => Bool.noConfusion h, ?_⟩
  apply x3
  (repeat apply CodeT.seq)
  apply CodeT.region (fun _ => PPm)
  apply Run.op; (apply L_fldP; rfl; rfl; rfl; rfl); rfl; rfl
  apply Run.op; (apply L_ldP; rfl; rfl; rfl; (first | exact .inl rfl | exact .inr rfl); rfl); rfl; rfl
  apply Run.op; (apply L_mov; rfl; rfl); rfl; rfl
  obtain ⟨y15, hy15, H⟩ := bindS H
  apply Run.op; (apply L_ixS2; rfl; rfl; rfl; (exact hy15); (intro _; rfl); rfl); rfl; rfl
  apply Run.op; (apply L_ldIA; rfl; (first | exact take_whole rfl | rfl); rfl; (intro h; cases h); rfl; rfl); rfl; rfl
  apply Run.op; (apply L_alloc false; (exact io1 hio _); rfl); rfl; rfl
  apply Run.op; (apply L_st; rfl; rfl; rfl; rfl; rfl; (intro h; cases h); rfl; (first | exact splice_whole rfl | rfl)); rfl; rfl
  apply Run.done; refine ⟨fun h => Bool.noConfusion h, ?_⟩
  apply x3
  (repeat apply CodeT.seq)
  obtain ⟨d20, hd20, H⟩ := bindS H
  refine CodeT.lcut (x := d20) (fun d e E => XEnv Γ .normal ⟨[(3, ⟨.ptr 3 0, false⟩), (31, ⟨.sl a0.fParents.length (a0.fParents.flatMap encParent), false⟩), (32, ⟨.sc (.int .i64 (a0.fParents.length : Int)), false⟩), (33, ⟨.sc (.int .i64 v13), false⟩), (71, ⟨.sc (.bool d), false⟩)], [(3, some ⟨(encConditional a1), false, false⟩)]⟩ e E) ?_ ?_
  clear H; have H := hd20; clear hd20
  apply CodeT.region (fun _ => PPm)
  apply Run.op; (apply L_fldP; rfl; rfl; rfl; rfl); rfl; rfl
  apply Run.op; (apply L_ldP; rfl; rfl; rfl; (first | exact .inl rfl | exact .inr rfl); rfl); rfl; rfl
  apply Run.op; (apply L_fldP; rfl; rfl; rfl; rfl); rfl; rfl
  apply Run.op; (apply L_ldP; rfl; rfl; rfl; (first | exact .inl rfl | exact .inr rfl); rfl); rfl; rfl
  apply R_dec; (apply L_neq; rfl; rfl; rfl); rfl
  intro h; replace H := ifT h H
  apply Run.op; (apply L_mov; rfl; rfl); rfl; rfl
  apply Run.skip; rfl
  apply Run.skip; rfl
  apply Run.skip; rfl
  apply Run.skip; rfl
  apply Run.skip; rfl
  apply Run.skip; rfl
  apply Run.op; (apply L_pickT; rfl; rfl; rfl); rfl; rfl
  apply Run.op; (apply L_mov; rfl; rfl); rfl; rfl
  apply Run.skip; rfl
  apply Run.skip; rfl
  apply Run.skip; rfl
  apply Run.skip; rfl
  apply Run.skip; rfl
  apply Run.skip; rfl
  apply Run.op; (apply L_pickT; rfl; rfl; rfl); rfl; rfl
  apply Run.op; (apply L_mov; rfl; rfl); rfl; rfl
  apply Run.skip; rfl
  apply Run.skip; rfl
  apply Run.skip; rfl
  apply Run.skip; rfl
  apply Run.skip; rfl
  apply Run.skip; rfl
  apply Run.op; (apply L_pickT; rfl; rfl; rfl); rfl; rfl
  apply Run.done; refine ⟨fun h => Bool.noConfusion h, ?_⟩
  obtain rfl := Option.some.inj H
  refine Ev.y4 ?_
  refine XEnv.mk ?_
  refine Ent.list [] (io0 hio _) rfl ?_ ?_ <;> (repeat' first | exact trivial | (refine And.intro ⟨_, rfl, fun h => (by first | rfl | exact Bool.noConfusion h)⟩ ?_))
  intro h; replace H := ifF h H
  apply Run.op; (apply L_mov; rfl; rfl); rfl; rfl
  apply Run.op; (apply L_fldP; rfl; rfl; rfl; rfl); rfl; rfl
  apply Run.op; (apply L_ldPA; rfl; rfl; (first | exact seg_whole rfl | rfl); rfl; (intro h; cases h); (first | exact .inl rfl | exact .inr rfl); rfl); rfl; rfl
  apply Run.op; (apply L_fldP; rfl; rfl; rfl; rfl); rfl; rfl
  apply Run.op; (apply L_ldPA; rfl; rfl; (first | exact seg_whole rfl | rfl); rfl; (intro h; cases h); (first | exact .inl rfl | exact .inr rfl); rfl); rfl; rfl
  obtain ⟨r16, hr16, H⟩ := bindS H
  apply R_bool; (apply L_call; ((apply ArgsV.cons; (apply ArgV.val; rfl; rfl)); (apply ArgsV.cons; (apply ArgV.val; rfl; rfl)); (apply ArgsV.nil)); (exact m_impl_RatEqual y14.fShare y15.fShare _ hr16); rfl; rfl; rfl); rfl
  intro h; replace H := ifTb h H
  apply Run.op; (apply L_not; rfl; rfl); rfl; rfl
  apply Run.op; (apply L_pickF; rfl; rfl; rfl); rfl; rfl
  apply Run.op; (apply L_mov; rfl; rfl); rfl; rfl
  apply Run.op; (apply L_fldP; rfl; rfl; rfl; rfl); rfl; rfl
  apply Run.op; (apply L_ldPA; rfl; rfl; (first | exact seg_whole rfl | rfl); rfl; (intro h; cases h); (first | exact .inl rfl | exact .inr rfl); rfl); rfl; rfl
  apply Run.op; (apply L_fldP; rfl; rfl; rfl; rfl); rfl; rfl
  apply Run.op; (apply L_ldPA; rfl; rfl; (first | exact seg_whole rfl | rfl); rfl; (intro h; cases h); (first | exact .inl rfl | exact .inr rfl); rfl); rfl; rfl
  obtain ⟨r17, hr17, H⟩ := bindS H
  apply R_bool; (apply L_call; ((apply ArgsV.cons; (apply ArgV.val; rfl; rfl)); (apply ArgsV.cons; (apply ArgV.val; rfl; rfl)); (apply ArgsV.nil)); (exact m_impl_RatEqual y14.fDX y15.fDX _ hr17); rfl; rfl; rfl); rfl
  intro h; replace H := ifTb h H
  apply Run.op; (apply L_not; rfl; rfl); rfl; rfl
  apply Run.op; (apply L_pickF; rfl; rfl; rfl); rfl; rfl
  apply Run.op; (apply L_mov; rfl; rfl); rfl; rfl
  apply Run.op; (apply L_fldP; rfl; rfl; rfl; rfl); rfl; rfl
  apply Run.op; (apply L_ldPA; rfl; rfl; (first | exact seg_whole rfl | rfl); rfl; (intro h; cases h); (first | exact .inl rfl | exact .inr rfl); rfl); rfl; rfl
  apply Run.op; (apply L_fldP; rfl; rfl; rfl; rfl); rfl; rfl
  apply Run.op; (apply L_ldPA; rfl; rfl; (first | exact seg_whole rfl | rfl); rfl; (intro h; cases h); (first | exact .inl rfl | exact .inr rfl); rfl); rfl; rfl
  obtain ⟨r18, hr18, H⟩ := bindS H
  apply Run.op; (apply L_call; ((apply ArgsV.cons; (apply ArgV.val; rfl; rfl)); (apply ArgsV.cons; (apply ArgV.val; rfl; rfl)); (apply ArgsV.nil)); (exact m_impl_RatEqual y14.fDY y15.fDY _ hr18); rfl; rfl; rfl); rfl; rfl
  apply Run.op; (apply L_not; rfl; rfl); rfl; rfl
  apply Run.op; (apply L_pickF; rfl; rfl; rfl); rfl; rfl
  apply Run.done; refine ⟨fun h => Bool.noConfusion h, ?_⟩
  obtain rfl := Option.some.inj H
  refine Ev.y4 ?_
  refine XEnv.mk ?_
  refine Ent.list [] (io0 hio _) rfl ?_ ?_ <;> (repeat' first | exact trivial | (refine And.intro ⟨_, rfl, fun h => (by first | rfl | exact Bool.noConfusion h)⟩ ?_))
  intro h; replace H := ifFb h H
  apply Run.op; (apply L_not; rfl; rfl); rfl; rfl
  apply Run.op; (apply L_pickF; rfl; rfl; rfl); rfl; rfl
  apply Run.op; (apply L_mov; rfl; rfl); rfl; rfl
  apply Run.skip; rfl
  apply Run.skip; rfl
  apply Run.skip; rfl
  apply Run.skip; rfl
  apply Run.skip; rfl
  apply Run.skip; rfl
  apply Run.op; (apply L_pickT; rfl; rfl; rfl); rfl; rfl
  apply Run.done; refine ⟨fun h => Bool.noConfusion h, ?_⟩
  obtain rfl := Option.some.inj H
  refine Ev.y4 ?_
  refine XEnv.mk ?_
  refine Ent.list [] (io0 hio _) rfl ?_ ?_ <;> (repeat' first | exact trivial | (refine And.intro ⟨_, rfl, fun h => (by first | rfl | exact Bool.noConfusion h)⟩ ?_))
  intro h; replace H := ifFb h H
  apply Run.op; (apply L_not; rfl; rfl); rfl; rfl
  apply Run.op; (apply L_pickF; rfl; rfl; rfl); rfl; rfl
  apply Run.op; (apply L_mov; rfl; rfl); rfl; rfl
  apply Run.skip; rfl
  apply Run.skip; rfl
  apply Run.skip; rfl
  apply Run.skip; rfl
  apply Run.skip; rfl
  apply Run.skip; rfl
  apply Run.op; (apply L_pickT; rfl; rfl; rfl); rfl; rfl
  apply Run.op; (apply L_mov; rfl; rfl); rfl; rfl
  apply Run.skip; rfl
  apply Run.skip; rfl
  apply Run.skip; rfl
  apply Run.skip; rfl
  apply Run.skip; rfl
  apply Run.skip; rfl
  apply Run.op; (apply L_pickT; rfl; rfl; rfl); rfl; rfl
  apply Run.done; refine ⟨fun h => Bool.noConfusion h, ?_⟩
  obtain rfl := Option.some.inj H
  refine Ev.y4 ?_
  refine XEnv.mk ?_
  refine Ent.list [] (io0 hio _) rfl ?_ ?_ <;> (repeat' first | exact trivial | (refine And.intro ⟨_, rfl, fun h => (by first | rfl | exact Bool.noConfusion h)⟩ ?_))
  intro e E' hX; obtain ⟨rfl, g21⟩ := XEnv.out hX
  apply x3
  refine CodeT.weak g21 ?_
  refine CodeT.cond rfl (fun h => ?_) (fun h => ?_)
  replace H := ifTb h H
  (repeat apply CodeT.seq)
  apply CodeT.region (fun _ => PPm)
  apply Run.op; (apply L_asg; rfl; rfl); rfl; rfl
  apply Run.done; refine ⟨fun h => Bool.noConfusion h, ?_⟩
  apply x3
  apply CodeT.ret
  apply x4
  apply x1
  obtain rfl := Option.some.inj H
  refine Ev.y2 ?_
  refine XRet.mk ?_
  exact RetIs.sc1 rfl
  replace H := ifFb h H
  (repeat apply CodeT.seq)
  apply CodeT.skip
  apply x5
  apply x3
  apply CodeT.region (fun _ => PPm)
  apply Run.op; (apply L_add; rfl; rfl; rfl; rfl); rfl; rfl
  apply Run.op; (apply L_mov; rfl; rfl); rfl; rfl
  apply Run.done; refine ⟨fun h => Bool.noConfusion h, ?_⟩
  obtain rfl := Option.some.inj H
  refine Ev.y1 ?_
  refine Ent.list [] (io0 hio _) rfl ?_ ?_ <;> (repeat' first | exact trivial | (refine And.intro ⟨_, rfl, fun h => (by first | rfl | exact Bool.noConfusion h)⟩ ?_))
  replace H := ifF (of_decide_eq_false h) H
  (repeat apply CodeT.seq)
  apply CodeT.exit
  apply x2
  obtain rfl := Option.some.inj H
  refine Ev.y3 ?_
  refine XEnv.mk ?_
  refine Ent.list [] (io0 hio _) rfl ?_ ?_ <;> (repeat' first | exact trivial | (refine And.intro ⟨_, rfl, fun h => (by first | rfl | exact Bool.noConfusion h)⟩ ?_))
  rcases d22 with (d23 | d25)
  intro e E' hX; obtain ⟨rfl, g24⟩ := XEnv.out hX
  refine x6 rfl ?_
  apply x3
  refine CodeT.weak g24 ?_
  (repeat apply CodeT.seq)
  apply CodeT.region (fun _ => PPm)
  apply Run.op; (apply L_asg; rfl; rfl); rfl; rfl
  apply Run.done; refine ⟨fun h => Bool.noConfusion h, ?_⟩
  apply x3
  apply CodeT.ret
  cases H
  apply x12
  exact RetIs.sc1 rfl
  intro e E' hX; obtain ⟨rfl, g26⟩ := XRet.out hX
  apply x4
  apply x1
  cases H
  apply x12
  exact g26
theorem m_impl_sameTreeNode (a0 : TreeNode) (a1 : TreeNode) (r : Bool) (H : impl_sameTreeNode a0 a1 = some r) : Meets Try.prog 101 [.agg (encTreeNode a0), .agg (encTreeNode a1)] (.sc (.bool r)) true := by
  refine Meets.intro2 (N := 45) (rs := #[.tmp 4]) Try.func101 rfl rfl rfl rfl ?_
  intro Γ hio
  unfold impl_sameTreeNode at H
  (repeat apply CodeT.seq)
  apply CodeT.region (fun _ => PPm)
  apply Run.op; (apply L_box false; rfl; rfl; rfl; (exact io1 hio _); rfl); rfl; rfl
  apply Run.op; (apply L_box false; rfl; rfl; rfl; (exact io1 hio _); rfl); rfl; rfl
  apply Run.op; (apply L_asg; rfl; rfl); rfl; rfl
  apply Run.done; refine ⟨fun h => Bool.noConfusion h, ?_⟩
  apply x3
  (repeat apply CodeT.seq)
  apply CodeT.region (fun _ => PPm)
  apply Run.op; (apply L_fldP; rfl; rfl; rfl; rfl); rfl; rfl
  apply Run.op; (apply L_ldP; rfl; rfl; rfl; (first | exact .inl rfl | exact .inr rfl); rfl); rfl; rfl
  apply Run.op; (apply L_fldP; rfl; rfl; rfl; rfl); rfl; rfl
  apply Run.op; (apply L_ldP; rfl; rfl; rfl; (first | exact .inl rfl | exact .inr rfl); rfl); rfl; rfl
  apply R_dec; (apply L_eql; rfl; rfl; rfl); rfl
  intro h; replace H := ifT h H
  apply Run.op; (apply L_mov; rfl; rfl); rfl; rfl
  apply Run.op; (apply L_fldP; rfl; rfl; rfl; rfl); rfl; rfl
  apply Run.op; (apply L_ldP; rfl; rfl; rfl; (first | exact .inl rfl | exact .inr rfl); rfl); rfl; rfl
  apply Run.op; (apply L_fldP; rfl; rfl; rfl; rfl); rfl; rfl
  apply Run.op; (apply L_ldP; rfl; rfl; rfl; (first | exact .inl rfl | exact .inr rfl); rfl); rfl; rfl
  apply R_dec; (apply L_eql; rfl; rfl; rfl); rfl
  intro h; replace H := ifT h H
  apply Run.op; (apply L_pickT; rfl; rfl; rfl); rfl; rfl
  apply Run.op; (apply L_mov; rfl; rfl); rfl; rfl
  apply Run.op; (apply L_fldP; rfl; rfl; rfl; rfl); rfl; rfl
  apply Run.op; (apply L_ldP; rfl; rfl; rfl; (first | exact .inl rfl | exact .inr rfl); rfl); rfl; rfl
  apply Run.op; (apply L_fldP; rfl; rfl; rfl; rfl); rfl; rfl
  apply Run.op; (apply L_ldP; rfl; rfl; rfl; (first | exact .inl rfl | exact .inr rfl); rfl); rfl; rfl
  obtain ⟨r1, hr1, H⟩ := bindS H
  apply R_bool; (apply L_call; ((apply ArgsV.cons; (apply ArgV.val; rfl; rfl)); (apply ArgsV.cons; (apply ArgV.val; rfl; rfl)); (apply ArgsV.nil)); (exact m_impl_SameLinks a0.fOwn a1.fOwn _ hr1); rfl; rfl; rfl); rfl
  intro h; replace H := ifTb h H
  apply Run.op; (apply L_pickT; rfl; rfl; rfl); rfl; rfl
  apply Run.op; (apply L_mov; rfl; rfl); rfl; rfl
  apply Run.op; (apply L_fldP; rfl; rfl; rfl; rfl); rfl; rfl
  apply Run.op; (apply L_ldPA; rfl; rfl; (first | exact seg_whole rfl | rfl); rfl; (intro h; cases h); (first | exact .inl rfl | exact .inr rfl); rfl); rfl; rfl
  apply Run.op; (apply L_fldP; rfl; rfl; rfl; rfl); rfl; rfl
  apply Run.op; (apply L_ldPA; rfl; rfl; (first | exact seg_whole rfl | rfl); rfl; (intro h; cases h); (first | exact .inl rfl | exact .inr rfl); rfl); rfl; rfl
  obtain ⟨r2, hr2, H⟩ := bindS H
  apply R_bool; (apply L_call; ((apply ArgsV.cons; (apply ArgV.val; rfl; rfl)); (apply ArgsV.cons; (apply ArgV.val; rfl; rfl)); (apply ArgsV.nil)); (exact m_impl_SameConditional a0.fCond a1.fCond _ hr2); rfl; rfl; rfl); rfl
  intro h; replace H := ifTb h H
  apply Run.op; (apply L_pickT; rfl; rfl; rfl); rfl; rfl
  apply Run.op; (apply L_mov; rfl; rfl); rfl; rfl
  apply Run.op; (apply L_fldP; rfl; rfl; rfl; rfl); rfl; rfl
  apply Run.op; (apply L_ldP; rfl; rfl; rfl; (first | exact .inl rfl | exact .inr rfl); rfl); rfl; rfl
  apply Run.op; (apply L_fldP; rfl; rfl; rfl; rfl); rfl; rfl
  apply Run.op; (apply L_ldP; rfl; rfl; rfl; (first | exact .inl rfl | exact .inr rfl); rfl); rfl; rfl
  obtain ⟨r3, hr3, H⟩ := bindS H
  apply R_bool; (apply L_call; ((apply ArgsV.cons; (apply ArgV.val; rfl; rfl)); (apply ArgsV.cons; (apply ArgV.val; rfl; rfl)); (apply ArgsV.nil)); (exact m_impl_SameLinks a0.fMessages a1.fMessages _ hr3); rfl; rfl; rfl); rfl
  intro h; replace H := ifTb h H
  apply Run.op; (apply L_pickT; rfl; rfl; rfl); rfl; rfl
  apply Run.op; (apply L_mov; rfl; rfl); rfl; rfl
  apply Run.op; (apply L_fldP; rfl; rfl; rfl; rfl); rfl; rfl
  apply Run.op; (apply L_ldPA; rfl; rfl; (first | exact seg_whole rfl | rfl); rfl; (intro h; cases h); (first | exact .inl rfl | exact .inr rfl); rfl); rfl; rfl
  apply Run.op; (apply L_fldP; rfl; rfl; rfl; rfl); rfl; rfl
  apply Run.op; (apply L_ldPA; rfl; rfl; (first | exact seg_whole rfl | rfl); rfl; (intro h; cases h); (first | exact .inl rfl | exact .inr rfl); rfl); rfl; rfl
  obtain ⟨r4, hr4, H⟩ := bindS H
  apply Run.op; (apply L_call; ((apply ArgsV.cons; (apply ArgV.val; rfl; rfl)); (apply ArgsV.cons; (apply ArgV.val; rfl; rfl)); (apply ArgsV.nil)); (exact m_impl_RatEqual a0.fEnergy a1.fEnergy _ hr4); rfl; rfl; rfl); rfl; rfl
  apply Run.op; (apply L_pickT; rfl; rfl; rfl); rfl; rfl
  apply Run.op; (apply L_asg; rfl; rfl); rfl; rfl
  apply Run.done; refine ⟨fun h => Bool.noConfusion h, ?_⟩
  apply x3
  apply CodeT.ret
  cases H
  apply x12
  exact RetIs.sc1 rfl
  intro h; replace H := ifFb h H
  apply Run.op; (apply L_pickT; rfl; rfl; rfl); rfl; rfl
  apply Run.op; (apply L_mov; rfl; rfl); rfl; rfl
  apply Run.skip; rfl
  apply Run.skip; rfl
  apply Run.skip; rfl
  apply Run.skip; rfl
  apply Run.skip; rfl
  apply Run.op; (apply L_pickF; rfl; rfl; rfl); rfl; rfl
  apply Run.op; (apply L_asg; rfl; rfl); rfl; rfl
  apply Run.done; refine ⟨fun h => Bool.noConfusion h, ?_⟩
  apply x3
  apply CodeT.ret
  cases H
  apply x12
  exact RetIs.sc1 rfl
  intro h; replace H := ifFb h H
  apply Run.op; (apply L_pickT; rfl; rfl; rfl); rfl; rfl
  apply Run.op; (apply L_mov; rfl; rfl); rfl; rfl
  apply Run.skip; rfl
  apply Run.skip; rfl
  apply Run.skip; rfl
  apply Run.skip; rfl
  apply Run.skip; rfl
  apply Run.op; (apply L_pickF; rfl; rfl; rfl); rfl; rfl
  apply Run.op; (apply L_mov; rfl; rfl); rfl; rfl
  apply Run.skip; rfl
  apply Run.skip; rfl
  apply Run.skip; rfl
  apply Run.skip; rfl
  apply Run.skip; rfl
  apply Run.op; (apply L_pickF; rfl; rfl; rfl); rfl; rfl
  apply Run.op; (apply L_asg; rfl; rfl); rfl; rfl
  apply Run.done; refine ⟨fun h => Bool.noConfusion h, ?_⟩
  apply x3
  apply CodeT.ret
  cases H
  apply x12
  exact RetIs.sc1 rfl
  intro h; replace H := ifFb h H
  apply Run.op; (apply L_pickT; rfl; rfl; rfl); rfl; rfl
  apply Run.op; (apply L_mov; rfl; rfl); rfl; rfl
  apply Run.skip; rfl
  apply Run.skip; rfl
  apply Run.skip; rfl
  apply Run.skip; rfl
  apply Run.skip; rfl
  apply Run.op; (apply L_pickF; rfl; rfl; rfl); rfl; rfl
  apply Run.op; (apply L_mov; rfl; rfl); rfl; rfl
  apply Run.skip; rfl
  apply Run.skip; rfl
  apply Run.skip; rfl
  apply Run.skip; rfl
  apply Run.skip; rfl
  apply Run.op; (apply L_pickF; rfl; rfl; rfl); rfl; rfl
  apply Run.op; (apply L_mov; rfl; rfl); rfl; rfl
  apply Run.skip; rfl
  apply Run.skip; rfl
  apply Run.skip; rfl
  apply Run.skip; rfl
  apply Run.skip; rfl
  apply Run.op; (apply L_pickF; rfl; rfl; rfl); rfl; rfl
  apply Run.op; (apply L_asg; rfl; rfl); rfl; rfl
  apply Run.done; refine ⟨fun h => Bool.noConfusion h, ?_⟩
  apply x3
  apply CodeT.ret
  cases H
  apply x12
  exact RetIs.sc1 rfl
  intro h; replace H := ifF h H
  apply Run.op; (apply L_pickT; rfl; rfl; rfl); rfl; rfl
  apply Run.op; (apply L_mov; rfl; rfl); rfl; rfl
  apply Run.skip; rfl
  apply Run.skip; rfl
  apply Run.skip; rfl
  apply Run.skip; rfl
  apply Run.skip; rfl
  apply Run.op; (apply L_pickF; rfl; rfl; rfl); rfl; rfl
  apply Run.op; (apply L_mov; rfl; rfl); rfl; rfl
  apply Run.skip; rfl
  apply Run.skip; rfl
  apply Run.skip; rfl
  apply Run.skip; rfl
  apply Run.skip; rfl
  apply Run.op; (apply L_pickF; rfl; rfl; rfl); rfl; rfl
  apply Run.op; (apply L_mov; rfl; rfl); rfl; rfl
  apply Run.skip; rfl
  apply Run.skip; rfl
  apply Run.skip; rfl
  apply Run.skip; rfl
  apply Run.skip; rfl
  apply Run.op; (apply L_pickF; rfl; rfl; rfl); rfl; rfl
  apply Run.op; (apply L_mov; rfl; rfl); rfl; rfl
  apply Run.skip; rfl
  apply Run.skip; rfl
  apply Run.skip; rfl
  apply Run.skip; rfl
  apply Run.skip; rfl
  apply Run.op; (apply L_pickF; rfl; rfl; rfl); rfl; rfl
  apply Run.op; (apply L_asg; rfl; rfl); rfl; rfl
  apply Run.done; refine ⟨fun h => Bool.noConfusion h, ?_⟩
  apply x3
  apply CodeT.ret
  cases H
  apply x12
  exact RetIs.sc1 rfl
  intro h; replace H := ifF h H
  apply Run.op; (apply L_mov; rfl; rfl); rfl; rfl
  apply Run.skip; rfl
  apply Run.skip; rfl
  apply Run.skip; rfl
  apply Run.skip; rfl
  apply Run.skip; rfl
  apply Run.op; (apply L_pickF; rfl; rfl; rfl); rfl; rfl
  apply Run.op; (apply L_mov; rfl; rfl); rfl; rfl
  apply Run.skip; rfl
  apply Run.skip; rfl
  apply Run.skip; rfl
  apply Run.skip; rfl
  apply Run.skip; rfl
  apply Run.op; (apply L_pickF; rfl; rfl; rfl); rfl; rfl
  apply Run.op; (apply L_mov; rfl; rfl); rfl; rfl
  apply Run.skip; rfl
  apply Run.skip; rfl
  apply Run.skip; rfl
  apply Run.skip; rfl
  apply Run.skip; rfl
  apply Run.op; (apply L_pickF; rfl; rfl; rfl); rfl; rfl
  apply Run.op; (apply L_mov; rfl; rfl); rfl; rfl
  apply Run.skip; rfl
  apply Run.skip; rfl
  apply Run.skip; rfl
  apply Run.skip; rfl
  apply Run.skip; rfl
  apply Run.op; (apply L_pickF; rfl; rfl; rfl); rfl; rfl
  apply Run.op; (apply L_mov; rfl; rfl); rfl; rfl
  apply Run.skip; rfl
  apply Run.skip; rfl
  apply Run.skip; rfl
  apply Run.skip; rfl
  apply Run.skip; rfl
  apply Run.op; (apply L_pickF; rfl; rfl; rfl); rfl; rfl
  apply Run.op; (apply L_asg; rfl; rfl); rfl; rfl
  apply Run.done; refine ⟨fun h => Bool.noConfusion h, ?_⟩
  apply x3
  apply CodeT.ret
  cases H
  apply x12
  exact RetIs.sc1 rfl
theorem m_impl_ChangedNodes (a0 : Tree) (a1 : Tree) (r : (List Int)) (H : impl_ChangedNodes a0 a1 = some r) : Meets Try.prog 53 [.agg (encTree a0), .agg (encTree a1)] (.rw 1 r.length (r.flatMap (encI .i64))) true := by
  refine Meets.intro2 (N := 40) (rs := #[.tmp 4]) Try.func53 rfl rfl rfl rfl ?_
  intro Γ hio
  unfold impl_ChangedNodes at H
  (repeat apply CodeT.seq)
  apply CodeT.region (fun _ => PPm)
  apply Run.op; (apply L_box false; rfl; rfl; rfl; (exact io1 hio _); rfl); rfl; rfl
  apply Run.op; (apply L_box false; rfl; rfl; rfl; (exact io1 hio _); rfl); rfl; rfl
  apply Run.op; (apply L_asg; rfl; rfl); rfl; rfl
  apply Run.done; refine ⟨fun h => Bool.noConfusion h, ?_⟩
  apply x3
  (repeat apply CodeT.seq)
  apply CodeT.region (fun _ => PPm)
  apply Run.op; (apply L_bs0; (exact io1 hio _); rfl); rfl; rfl
  apply Run.op; (apply L_asg; rfl; rfl); rfl; rfl
  apply Run.done; refine ⟨fun h => Bool.noConfusion h, ?_⟩
  apply x3
  (repeat apply CodeT.seq)
  apply CodeT.region (fun _ => PPm)
  apply Run.op; (apply L_fldP; rfl; rfl; rfl; rfl); rfl; rfl
  apply Run.op; (apply L_ldP; rfl; rfl; rfl; (first | exact .inl rfl | exact .inr rfl); rfl); rfl; rfl
  apply Run.op; (apply L_len; rfl; rfl); rfl; rfl
  apply Run.op; (apply L_mov; rfl; rfl); rfl; rfl
  apply Run.done; refine ⟨fun h => Bool.noConfusion h, ?_⟩
  apply x3
  (repeat apply CodeT.seq)
  apply CodeT.block
  (repeat apply CodeT.seq)
  obtain ⟨d22, hd22, H⟩ := bindS H
  refine CodeT.lloop (fun s => ⟨[(2, ⟨.ptr 2 0, false⟩), (5, ⟨.ref 505 1 0 s.2.length, false⟩), (11, ⟨.sl a1.fNodes.length (a1.fNodes.flatMap encTreeNode), false⟩), (12, ⟨.sc (.int .i64 (a1.fNodes.length : Int)), false⟩), (13, ⟨.sc (.int .i64 s.1), false⟩)], [(2, some ⟨(encTree a0), false, false⟩), (505, some ⟨s.2.flatMap (encI .i64), true, false⟩)]⟩) (fun d e E => XEnv Γ (.exit 0) ⟨[(5, ⟨.ref 505 1 0 d.length, false⟩)], [(505, some ⟨d.flatMap (encI .i64), true, false⟩)]⟩ e E) hd22 ?_ ?_ ?_
  refine Ent.list [(505, 9)] (io0 hio _) rfl ?_ ?_ <;> (repeat' first | exact trivial | (refine And.intro ⟨_, rfl, fun h => (by first | rfl | exact Bool.noConfusion h)⟩ ?_))
  clear H hd22
  rintro ⟨v10, v11⟩ o H
  unfold impl_ChangedNodes_L1 at H
  (repeat apply CodeT.seq)
  apply CodeT.region (fun _ => PPm)
  apply Run.op; (apply L_lss; rfl; rfl; rfl); rfl; rfl
  apply Run.done; refine ⟨fun h => Bool.noConfusion h, ?_⟩
  apply x3
  (repeat apply CodeT.seq)
  refine CodeT.cond rfl (fun h => ?_) (fun h => ?_)
  replace H := ifT (of_decide_eq_true h) H
  (repeat apply CodeT.seq)
  apply CodeT.skip
  apply x3
  (repeat apply CodeT.seq)
  apply CodeT.block
  (repeat apply CodeT.seq)
  apply CodeT.region (fun _ => PPm)
  obtain ⟨y12, hy12, H⟩ := bindS H
  apply Run.op; (apply L_ixS2; rfl; rfl; rfl; (exact hy12); (intro _; rfl); rfl); rfl; rfl
  apply Run.op; (apply L_ldIA; rfl; (first | exact take_whole rfl | rfl); rfl; (intro h; cases h); rfl; rfl); rfl; rfl
  apply Run.op; (apply L_alloc false; (exact io1 hio _); rfl); rfl; rfl
  apply Run.op; (apply L_st; rfl; rfl; rfl; rfl; rfl; (intro h; cases h); rfl; (first | exact splice_whole rfl | rfl)); rfl; rfl
  apply Run.done; refine ⟨fun h => Bool.noConfusion h, ?_⟩
  apply x3
  (repeat apply CodeT.seq)
  apply CodeT.region (fun _ => PPm)
  apply Run.op; (apply L_ldPA; rfl; rfl; (first | exact seg_whole rfl | rfl); rfl; (intro h; cases h); (first | exact .inl rfl | exact .inr rfl); rfl); rfl; rfl
  apply Run.op; (apply L_fldP; rfl; rfl; rfl; rfl); rfl; rfl
  apply Run.op; (apply L_ldP; rfl; rfl; rfl; (first | exact .inl rfl | exact .inr rfl); rfl); rfl; rfl
  obtain ⟨r13, hr13, H⟩ := bindS H
  apply Run.op; (apply L_call; ((apply ArgsV.cons; (apply ArgV.val; rfl; rfl)); (apply ArgsV.cons; (apply ArgV.val; rfl; rfl)); (apply ArgsV.nil)); (exact m_impl_indexOf a0 y12.fNode _ hr13); rfl; rfl; rfl); rfl; rfl
  apply Run.op; (apply L_asg; rfl; rfl); rfl; rfl
  apply Run.done; refine ⟨fun h => Bool.noConfusion h, ?_⟩
  apply x3
  (repeat apply CodeT.seq)
  obtain ⟨d17, hd17, H⟩ := bindS H
  refine CodeT.lcut (x := d17) (fun d e E => XEnv Γ .normal ⟨[(2, ⟨.ptr 2 0, false⟩), (5, ⟨.ref 505 1 0 v11.length, false⟩), (7, ⟨.ptr 7 0, false⟩), (11, ⟨.sl a1.fNodes.length (a1.fNodes.flatMap encTreeNode), false⟩), (12, ⟨.sc (.int .i64 (a1.fNodes.length : Int)), false⟩), (13, ⟨.sc (.int .i64 v10), false⟩), (32, ⟨.sc (.bool d), false⟩)], [(2, some ⟨(encTree a0), false, false⟩), (7, some ⟨(encTreeNode y12), false, false⟩), (505, some ⟨v11.flatMap (encI .i64), true, false⟩)]⟩ e E) ?_ ?_
  clear H; have H := hd17; clear hd17
  apply CodeT.region (fun _ => PPm)
  apply Run.op; (apply L_mov; rfl; rfl); rfl; rfl
  apply R_dec; (apply L_lss; rfl; rfl; rfl); rfl
  intro h; replace H := ifT h H
  apply Run.op; (apply L_mov; rfl; rfl); rfl; rfl
  apply Run.skip; rfl
  apply Run.skip; rfl
  apply Run.skip; rfl
  apply Run.skip; rfl
  apply Run.skip; rfl
  apply Run.skip; rfl
  apply Run.skip; rfl
  apply Run.skip; rfl
  apply Run.op; (apply L_pickT; rfl; rfl; rfl); rfl; rfl
  apply Run.done; refine ⟨fun _ => ⟨rfl, rfl⟩, ?_⟩
  obtain rfl := Option.some.inj H
  refine Ev.y4 ?_
  refine XEnv.mk ?_
  refine Ent.list [] (io0 hio _) rfl ?_ ?_ <;> (repeat' first | exact trivial | (refine And.intro ⟨_, rfl, fun h => (by first | rfl | exact Bool.noConfusion h)⟩ ?_))
  intro h; replace H := ifF h H
  apply Run.op; (apply L_mov; rfl; rfl); rfl; rfl
  apply Run.op; (apply L_fldP; rfl; rfl; rfl; rfl); rfl; rfl
  apply Run.op; (apply L_ldP; rfl; rfl; rfl; (first | exact .inl rfl | exact .inr rfl); rfl); rfl; rfl
  apply Run.op; (apply L_mov; rfl; rfl); rfl; rfl
  obtain ⟨y14, hy14, H⟩ := bindS H
  apply Run.op; (apply L_ixS2; rfl; rfl; rfl; (exact hy14); (intro _; rfl); rfl); rfl; rfl
  apply Run.op; (apply L_ldIA; rfl; (first | exact take_whole rfl | rfl); rfl; (intro h; cases h); rfl; rfl); rfl; rfl
  apply Run.op; (apply L_ldPA; rfl; rfl; (first | exact seg_whole rfl | rfl); rfl; (intro h; cases h); (first | exact .inl rfl | exact .inr rfl); rfl); rfl; rfl
  obtain ⟨r15, hr15, H⟩ := bindS H
  apply Run.op; (apply L_call; ((apply ArgsV.cons; (apply ArgV.val; rfl; rfl)); (apply ArgsV.cons; (apply ArgV.val; rfl; rfl)); (apply ArgsV.nil)); (exact m_impl_sameTreeNode y14 y12 _ hr15); rfl; rfl; rfl); rfl; rfl
  apply Run.op; (apply L_not; rfl; rfl); rfl; rfl
  apply Run.op; (apply L_pickF; rfl; rfl; rfl); rfl; rfl
  apply Run.done; refine ⟨fun _ => ⟨rfl, rfl⟩, ?_⟩
  obtain rfl := Option.some.inj H
  refine Ev.y4 ?_
  refine XEnv.mk ?_
  refine Ent.list [] (io0 hio _) rfl ?_ ?_ <;> (repeat' first | exact trivial | (refine And.intro ⟨_, rfl, fun h => (by first | rfl | exact Bool.noConfusion h)⟩ ?_))
  intro e E' hX; obtain ⟨rfl, g18⟩ := XEnv.out hX
  apply x3
  refine CodeT.weak g18 ?_
  refine CodeT.cond rfl (fun h => ?_) (fun h => ?_)
  replace H := ifTb h H
  (repeat apply CodeT.seq)
  apply CodeT.region (fun _ => PPm)
  apply Run.op; (apply L_mov; rfl; rfl); rfl; rfl
  apply Run.op; (apply L_fldP; rfl; rfl; rfl; rfl); rfl; rfl
  apply Run.op; (apply L_ldP; rfl; rfl; rfl; (first | exact .inl rfl | exact .inr rfl); rfl); rfl; rfl
  apply Run.op; (apply L_bs1; rfl; rfl; rfl; rfl; rfl; rfl; rfl; rfl); rfl; rfl
  obtain ⟨_u, ha19, H⟩ := bindS H
  obtain ⟨v20, hv20, H⟩ := bindS H
  apply Run.op; (apply L_app true; rfl; rfl; rfl; (exact flat_len (l := v11) (enc := (encI .i64)) (fun _ => rfl)); rfl; (exact chkS ha19); (exact app63 (by decide) (chkS ha19)); (exact ⟨io1 hio _, io1 hio _⟩); (intro _; rfl); (exact flat_snocL (l := v11) (y := y12.fNode) (enc := (encI .i64)) hv20); rfl); rfl; rfl
  apply Run.op; (apply L_asg; rfl; rfl); rfl; rfl
  apply Run.done; refine ⟨fun h => Bool.noConfusion h, ?_⟩
  apply x5
  apply x3
  apply CodeT.region (fun _ => PPm)
  apply Run.op; (apply L_add; rfl; rfl; rfl; rfl); rfl; rfl
  apply Run.op; (apply L_mov; rfl; rfl); rfl; rfl
  apply Run.done; refine ⟨fun h => Bool.noConfusion h, ?_⟩
  obtain rfl := Option.some.inj H
  refine Ev.y1 ?_
  refine Ent.list [(505, 37)] (io0 hio _) rfl ?_ ?_ <;> (repeat' first | exact trivial | (refine And.intro ⟨_, rfl, fun h => (by first | rfl | exact Bool.noConfusion h)⟩ ?_))
  replace H := ifFb h H
  (repeat apply CodeT.seq)
  apply CodeT.skip
  apply x5
  apply x3
  apply CodeT.region (fun _ => PPm)
  apply Run.op; (apply L_add; rfl; rfl; rfl; rfl); rfl; rfl
  apply Run.op; (apply L_mov; rfl; rfl); rfl; rfl
  apply Run.done; refine ⟨fun h => Bool.noConfusion h, ?_⟩
  obtain rfl := Option.some.inj H
  refine Ev.y1 ?_
  refine Ent.list [] (io0 hio _) rfl ?_ ?_ <;> (repeat' first | exact trivial | (refine And.intro ⟨_, rfl, fun h => (by first | rfl | exact Bool.noConfusion h)⟩ ?_))
  replace H := ifF (of_decide_eq_false h) H
  (repeat apply CodeT.seq)
  apply CodeT.exit
  apply x2
  obtain rfl := Option.some.inj H
  refine Ev.y3 ?_
  refine XEnv.mk ?_
  refine Ent.list [] (io0 hio _) rfl ?_ ?_ <;> (repeat' first | exact trivial | (refine And.intro ⟨_, rfl, fun h => (by first | rfl | exact Bool.noConfusion h)⟩ ?_))
  skip
  intro e E' hX; obtain ⟨rfl, g23⟩ := XEnv.out hX
  refine x6 rfl ?_
  apply x3
  refine CodeT.weak g23 ?_
  (repeat apply CodeT.seq)
  apply CodeT.region (fun _ => PPm)
  apply Run.op; (apply L_mov; rfl; rfl); rfl; rfl
  apply Run.op; (apply L_asg; rfl; rfl); rfl; rfl
  apply Run.done; refine ⟨fun h => Bool.noConfusion h, ?_⟩
  apply x3
  apply CodeT.ret
  cases H
  apply x12
  exact RetIs.rW rfl rfl rfl (io1 hio _)
theorem m_laws_eqIntS (a0 : (List Int)) (a1 : (List Int)) (r : Bool) (H : laws_eqIntS a0 a1 = some r) : Meets Try.prog 18 [.sl a0.length (a0.flatMap (encI .i64)), .sl a1.length (a1.flatMap (encI .i64))] (.sc (.bool r)) true := by
  refine Meets.intro2 (N := 26) (rs := #[.tmp 4]) Try.func18 rfl rfl rfl rfl ?_
  intro Γ hio
  unfold laws_eqIntS at H
  (repeat apply CodeT.seq)
  apply CodeT.region (fun _ => PPm)
  apply Run.op; (apply L_asg; rfl; rfl); rfl; rfl
  apply Run.done; refine ⟨fun h => Bool.noConfusion h, ?_⟩
  apply x3
  (repeat apply CodeT.seq)
  apply CodeT.region (fun _ => PPm)
  apply Run.op; (apply L_mov; rfl; rfl); rfl; rfl
  apply Run.op; (apply L_len; rfl; rfl); rfl; rfl
  apply Run.op; (apply L_mov; rfl; rfl); rfl; rfl
  apply Run.op; (apply L_len; rfl; rfl); rfl; rfl
  apply Run.op; (apply L_neq; rfl; rfl; rfl); rfl; rfl
  apply Run.done; refine ⟨fun h => Bool.noConfusion h, ?_⟩
  apply x3
  (repeat apply CodeT.seq)
  refine CodeT.cond rfl (fun h => ?_) (fun h => ?_)
  replace H := ifT (of_decide_eq_true h) H
  (repeat apply CodeT.seq)
  apply CodeT.region (fun _ => PPm)
  apply Run.op; (apply L_asg; rfl; rfl); rfl; rfl
  apply Run.done; refine ⟨fun h => Bool.noConfusion h, ?_⟩
  apply x3
  apply CodeT.ret
  apply x1
  cases H
  apply x12
  exact RetIs.sc1 rfl
  replace H := ifF (of_decide_eq_false h) H
  (repeat apply CodeT.seq)
  apply CodeT.skip
  apply x3
  (repeat apply CodeT.seq)
  apply CodeT.region (fun _ => PPm)
  apply Run.op; (apply L_asg; rfl; rfl); rfl; rfl
  apply Run.done; refine ⟨fun h => Bool.noConfusion h, ?_⟩
  apply x3
  (repeat apply CodeT.seq)
  apply CodeT.block
  (repeat apply CodeT.seq)
  obtain ⟨d6, hd6, H⟩ := bindS H
  refine CodeT.lloop (fun s => ⟨[(0, ⟨.sl a0.length (a0.flatMap (encI .i64)), false⟩), (1, ⟨.sl a1.length (a1.flatMap (encI .i64)), false⟩), (5, ⟨.sc (.int .i64 s), false⟩)], []⟩) (fun x e E => match x with | (.inl d) => XEnv Γ (.exit 0) ⟨[], []⟩ e E | (.inr d) => XRet Γ #[.tmp 4] (.sc (.bool d)) true e E) hd6 ?_ ?_ ?_
  refine Ent.list [] (io0 hio _) rfl ?_ ?_ <;> (repeat' first | exact trivial | (refine And.intro ⟨_, rfl, fun h => (by first | rfl | exact Bool.noConfusion h)⟩ ?_))
  clear H hd6
  rintro v3 o H
  unfold laws_eqIntS_L1 at H
  (repeat apply CodeT.seq)
  apply CodeT.region (fun _ => PPm)
  apply Run.op; (apply L_mov; rfl; rfl); rfl; rfl
  apply Run.op; (apply L_mov; rfl; rfl); rfl; rfl
  apply Run.op; (apply L_len; rfl; rfl); rfl; rfl
  apply Run.op; (apply L_lss; rfl; rfl; rfl); rfl; rfl
  apply Run.done; refine ⟨fun h => Bool.noConfusion h, ?_⟩
  apply x3
  (repeat apply CodeT.seq)
  refine CodeT.cond rfl (fun h => ?_) (fun h => ?_)
  replace H := ifT (of_decide_eq_true h) H
  (repeat apply CodeT.seq)
  apply CodeT.skip
  apply x3
  (repeat apply CodeT.seq)
  apply CodeT.block
  (repeat apply CodeT.seq)
  apply CodeT.region (fun _ => PPm)
  apply Run.op; (apply L_mov; rfl; rfl); rfl; rfl
  apply Run.op; (apply L_mov; rfl; rfl); rfl; rfl
  obtain ⟨y4, hy4, H⟩ := bindS H
  apply Run.op; (apply L_ixS2; rfl; rfl; rfl; (exact hy4); (intro _; rfl); rfl); rfl; rfl
  apply Run.op; (apply L_ldI; rfl; rfl; rfl; rfl); rfl; rfl
  apply Run.op; (apply L_mov; rfl; rfl); rfl; rfl
  apply Run.op; (apply L_mov; rfl; rfl); rfl; rfl
  obtain ⟨y5, hy5, H⟩ := bindS H
  apply Run.op; (apply L_ixS2; rfl; rfl; rfl; (exact hy5); (intro _; rfl); rfl); rfl; rfl
  apply Run.op; (apply L_ldI; rfl; rfl; rfl; rfl); rfl; rfl
  apply Run.op; (apply L_neq; rfl; rfl; rfl); rfl; rfl
  apply Run.done; refine ⟨fun _ => ⟨rfl, rfl⟩, ?_⟩
  apply x3
  refine CodeT.cond rfl (fun h => ?_) (fun h => ?_)
  replace H := ifT (of_decide_eq_true h) H
  (repeat apply CodeT.seq)
  apply CodeT.region (fun _ => PPm)
  apply Run.op; (apply L_asg; rfl; rfl); rfl; rfl
  apply Run.done; refine ⟨fun h => Bool.noConfusion h, ?_⟩
  apply x3
  apply CodeT.ret
  apply x4
  apply x1
  obtain rfl := Option.some.inj H
  refine Ev.y2 ?_
  refine XRet.mk ?_
  exact RetIs.sc1 rfl
  replace H := ifF (of_decide_eq_false h) H
  (repeat apply CodeT.seq)
  apply CodeT.skip
  apply x5
  apply x3
  apply CodeT.region (fun _ => PPm)
  apply Run.op; (apply L_mov; rfl; rfl); rfl; rfl
  apply Run.op; (apply L_add; rfl; rfl; rfl; rfl); rfl; rfl
  apply Run.op; (apply L_asg; rfl; rfl); rfl; rfl
  apply Run.done; refine ⟨fun h => Bool.noConfusion h, ?_⟩
  obtain rfl := Option.some.inj H
  refine Ev.y1 ?_
  refine Ent.list [] (io0 hio _) rfl ?_ ?_ <;> (repeat' first | exact trivial | (refine And.intro ⟨_, rfl, fun h => (by first | rfl | exact Bool.noConfusion h)⟩ ?_))
  replace H := ifF (of_decide_eq_false h) H
  (repeat apply CodeT.seq)
  apply CodeT.exit
  apply x2
  obtain rfl := Option.some.inj H
  refine Ev.y3 ?_
  refine XEnv.mk ?_
  refine Ent.list [] (io0 hio _) rfl ?_ ?_ <;> (repeat' first | exact trivial | (refine And.intro ⟨_, rfl, fun h => (by first | rfl | exact Bool.noConfusion h)⟩ ?_))
  rcases d6 with (d7 | d9)
  intro e E' hX; obtain ⟨rfl, g8⟩ := XEnv.out hX
  refine x6 rfl ?_
  apply x3
  refine CodeT.weak g8 ?_
  (repeat apply CodeT.seq)
  apply CodeT.region (fun _ => PPm)
  apply Run.op; (apply L_asg; rfl; rfl); rfl; rfl
  apply Run.done; refine ⟨fun h => Bool.noConfusion h, ?_⟩
  apply x3
  apply CodeT.ret
  cases H
  apply x12
  exact RetIs.sc1 rfl
  intro e E' hX; obtain ⟨rfl, g10⟩ := XRet.out hX
  apply x4
  apply x1
  cases H
  apply x12
  exact g10
theorem m_laws_eqBigInt (a0 : BigInt) (a1 : BigInt) (r : Bool) (H : laws_eqBigInt a0 a1 = some r) : Meets Try.prog 156 [.agg (encBigInt a0), .agg (encBigInt a1)] (.sc (.bool r)) true := by
  refine Meets.intro2 (N := 16) (rs := #[.tmp 4]) Try.func156 rfl rfl rfl rfl ?_
  intro Γ hio
  unfold laws_eqBigInt at H
  (repeat apply CodeT.seq)
  apply CodeT.region (fun _ => PPm)
  apply Run.op; (apply L_box false; rfl; rfl; rfl; (exact io1 hio _); rfl); rfl; rfl
  apply Run.op; (apply L_box false; rfl; rfl; rfl; (exact io1 hio _); rfl); rfl; rfl
  apply Run.op; (apply L_asg; rfl; rfl); rfl; rfl
  apply Run.done; refine ⟨fun h => Bool.noConfusion h, ?_⟩
  apply x3
  (repeat apply CodeT.seq)
  apply CodeT.region (fun _ => PPm)
  apply Run.op; (apply L_fldP; rfl; rfl; rfl; rfl); rfl; rfl
  apply Run.op; (apply L_ldP; rfl; rfl; rfl; (first | exact .inl rfl | exact .inr rfl); rfl); rfl; rfl
  apply Run.op; (apply L_fldP; rfl; rfl; rfl; rfl); rfl; rfl
  apply Run.op; (apply L_ldP; rfl; rfl; rfl; (first | exact .inl rfl | exact .inr rfl); rfl); rfl; rfl
  apply Run.op; (apply L_bneq; rfl; rfl; rfl); rfl; rfl
  apply Run.done; refine ⟨fun h => Bool.noConfusion h, ?_⟩
  apply x3
  (repeat apply CodeT.seq)
  refine CodeT.cond rfl (fun h => ?_) (fun h => ?_)
  replace H := ifFb (notT h) H
  (repeat apply CodeT.seq)
  apply CodeT.region (fun _ => PPm)
  apply Run.op; (apply L_asg; rfl; rfl); rfl; rfl
  apply Run.done; refine ⟨fun h => Bool.noConfusion h, ?_⟩
  apply x3
  apply CodeT.ret
  apply x1
  cases H
  apply x12
  exact RetIs.sc1 rfl
  replace H := ifTb (notF h) H
  (repeat apply CodeT.seq)
  apply CodeT.skip
  apply x3
  (repeat apply CodeT.seq)
  apply CodeT.region (fun _ => PPm)
  apply Run.op; (apply L_fldP; rfl; rfl; rfl; rfl); rfl; rfl
  apply Run.op; (apply L_ldP; rfl; rfl; rfl; (first | exact .inl rfl | exact .inr rfl); rfl); rfl; rfl
  apply Run.op; (apply L_fldP; rfl; rfl; rfl; rfl); rfl; rfl
  apply Run.op; (apply L_ldP; rfl; rfl; rfl; (first | exact .inl rfl | exact .inr rfl); rfl); rfl; rfl
  obtain ⟨r1, hr1, H⟩ := bindS H
  apply Run.op; (apply L_call; ((apply ArgsV.cons; (apply ArgV.val; rfl; rfl)); (apply ArgsV.cons; (apply ArgV.val; rfl; rfl)); (apply ArgsV.nil)); (exact m_laws_eqIntS a0.fMag a1.fMag _ hr1); rfl; rfl; rfl); rfl; rfl
  apply Run.op; (apply L_not; rfl; rfl); rfl; rfl
  apply Run.done; refine ⟨fun h => Bool.noConfusion h, ?_⟩
  apply x3
  (repeat apply CodeT.seq)
  refine CodeT.cond rfl (fun h => ?_) (fun h => ?_)
  replace H := ifFb (notT h) H
  (repeat apply CodeT.seq)
  apply CodeT.region (fun _ => PPm)
  apply Run.op; (apply L_asg; rfl; rfl); rfl; rfl
  apply Run.done; refine ⟨fun h => Bool.noConfusion h, ?_⟩
  apply x3
  apply CodeT.ret
  apply x1
  cases H
  apply x12
  exact RetIs.sc1 rfl
  replace H := ifTb (notF h) H
  (repeat apply CodeT.seq)
  apply CodeT.skip
  apply x3
  (repeat apply CodeT.seq)
  apply CodeT.region (fun _ => PPm)
  apply Run.op; (apply L_asg; rfl; rfl); rfl; rfl
  apply Run.done; refine ⟨fun h => Bool.noConfusion h, ?_⟩
  apply x3
  apply CodeT.ret
  cases H
  apply x12
  exact RetIs.sc1 rfl
theorem m_laws_eqRat (a0 : Rat) (a1 : Rat) (r : Bool) (H : laws_eqRat a0 a1 = some r) : Meets Try.prog 117 [.agg (encRat a0), .agg (encRat a1)] (.sc (.bool r)) true := by
  refine Meets.intro2 (N := 17) (rs := #[.tmp 4]) Try.func117 rfl rfl rfl rfl ?_
  intro Γ hio
  unfold laws_eqRat at H
  (repeat apply CodeT.seq)
  apply CodeT.region (fun _ => PPm)
  apply Run.op; (apply L_box false; rfl; rfl; rfl; (exact io1 hio _); rfl); rfl; rfl
  apply Run.op; (apply L_box false; rfl; rfl; rfl; (exact io1 hio _); rfl); rfl; rfl
  apply Run.op; (apply L_asg; rfl; rfl); rfl; rfl
  apply Run.done; refine ⟨fun h => Bool.noConfusion h, ?_⟩
  apply x3
  (repeat apply CodeT.seq)
  apply CodeT.region (fun _ => PPm)
  apply Run.op; (apply L_fldP; rfl; rfl; rfl; rfl); rfl; rfl
  apply Run.op; (apply L_ldPA; rfl; rfl; (first | exact seg_whole rfl | rfl); rfl; (intro h; cases h); (first | exact .inl rfl | exact .inr rfl); rfl); rfl; rfl
  apply Run.op; (apply L_fldP; rfl; rfl; rfl; rfl); rfl; rfl
  apply Run.op; (apply L_ldPA; rfl; rfl; (first | exact seg_whole rfl | rfl); rfl; (intro h; cases h); (first | exact .inl rfl | exact .inr rfl); rfl); rfl; rfl
  obtain ⟨r1, hr1, H⟩ := bindS H
  apply Run.op; (apply L_call; ((apply ArgsV.cons; (apply ArgV.val; rfl; rfl)); (apply ArgsV.cons; (apply ArgV.val; rfl; rfl)); (apply ArgsV.nil)); (exact m_laws_eqBigInt a0.fNum a1.fNum _ hr1); rfl; rfl; rfl); rfl; rfl
  apply Run.op; (apply L_not; rfl; rfl); rfl; rfl
  apply Run.done; refine ⟨fun h => Bool.noConfusion h, ?_⟩
  apply x3
  (repeat apply CodeT.seq)
  refine CodeT.cond rfl (fun h => ?_) (fun h => ?_)
  replace H := ifFb (notT h) H
  (repeat apply CodeT.seq)
  apply CodeT.region (fun _ => PPm)
  apply Run.op; (apply L_asg; rfl; rfl); rfl; rfl
  apply Run.done; refine ⟨fun h => Bool.noConfusion h, ?_⟩
  apply x3
  apply CodeT.ret
  apply x1
  cases H
  apply x12
  exact RetIs.sc1 rfl
  replace H := ifTb (notF h) H
  (repeat apply CodeT.seq)
  apply CodeT.skip
  apply x3
  (repeat apply CodeT.seq)
  apply CodeT.region (fun _ => PPm)
  apply Run.op; (apply L_fldP; rfl; rfl; rfl; rfl); rfl; rfl
  apply Run.op; (apply L_ldP; rfl; rfl; rfl; (first | exact .inl rfl | exact .inr rfl); rfl); rfl; rfl
  apply Run.op; (apply L_fldP; rfl; rfl; rfl; rfl); rfl; rfl
  apply Run.op; (apply L_ldP; rfl; rfl; rfl; (first | exact .inl rfl | exact .inr rfl); rfl); rfl; rfl
  obtain ⟨r2, hr2, H⟩ := bindS H
  apply Run.op; (apply L_call; ((apply ArgsV.cons; (apply ArgV.val; rfl; rfl)); (apply ArgsV.cons; (apply ArgV.val; rfl; rfl)); (apply ArgsV.nil)); (exact m_laws_eqIntS a0.fDen a1.fDen _ hr2); rfl; rfl; rfl); rfl; rfl
  apply Run.op; (apply L_not; rfl; rfl); rfl; rfl
  apply Run.done; refine ⟨fun h => Bool.noConfusion h, ?_⟩
  apply x3
  (repeat apply CodeT.seq)
  refine CodeT.cond rfl (fun h => ?_) (fun h => ?_)
  replace H := ifFb (notT h) H
  (repeat apply CodeT.seq)
  apply CodeT.region (fun _ => PPm)
  apply Run.op; (apply L_asg; rfl; rfl); rfl; rfl
  apply Run.done; refine ⟨fun h => Bool.noConfusion h, ?_⟩
  apply x3
  apply CodeT.ret
  apply x1
  cases H
  apply x12
  exact RetIs.sc1 rfl
  replace H := ifTb (notF h) H
  (repeat apply CodeT.seq)
  apply CodeT.skip
  apply x3
  (repeat apply CodeT.seq)
  apply CodeT.region (fun _ => PPm)
  apply Run.op; (apply L_asg; rfl; rfl); rfl; rfl
  apply Run.done; refine ⟨fun h => Bool.noConfusion h, ?_⟩
  apply x3
  apply CodeT.ret
  cases H
  apply x12
  exact RetIs.sc1 rfl
theorem m_laws_eqLink (a0 : Link) (a1 : Link) (r : Bool) (H : laws_eqLink a0 a1 = some r) : Meets Try.prog 63 [.agg (encLink a0), .agg (encLink a1)] (.sc (.bool r)) true := by
  refine Meets.intro2 (N := 33) (rs := #[.tmp 4]) Try.func63 rfl rfl rfl rfl ?_
  intro Γ hio
  unfold laws_eqLink at H
  (repeat apply CodeT.seq)
  apply CodeT.region (fun _ => PPm)
  apply Run.op; (apply L_box false; rfl; rfl; rfl; (exact io1 hio _); rfl); rfl; rfl
  apply Run.op; (apply L_box false; rfl; rfl; rfl; (exact io1 hio _); rfl); rfl; rfl
  apply Run.op; (apply L_asg; rfl; rfl); rfl; rfl
  apply Run.done; refine ⟨fun h => Bool.noConfusion h, ?_⟩
  apply x3
  (repeat apply CodeT.seq)
  apply CodeT.region (fun _ => PPm)
  apply Run.op; (apply L_fldP; rfl; rfl; rfl; rfl); rfl; rfl
  apply Run.op; (apply L_ldP; rfl; rfl; rfl; (first | exact .inl rfl | exact .inr rfl); rfl); rfl; rfl
  apply Run.op; (apply L_fldP; rfl; rfl; rfl; rfl); rfl; rfl
  apply Run.op; (apply L_ldP; rfl; rfl; rfl; (first | exact .inl rfl | exact .inr rfl); rfl); rfl; rfl
  apply Run.op; (apply L_neq; rfl; rfl; rfl); rfl; rfl
  apply Run.done; refine ⟨fun h => Bool.noConfusion h, ?_⟩
  apply x3
  (repeat apply CodeT.seq)
  refine CodeT.cond rfl (fun h => ?_) (fun h => ?_)
  replace H := ifT (of_decide_eq_true h) H
  (repeat apply CodeT.seq)
  apply CodeT.region (fun _ => PPm)
  apply Run.op; (apply L_asg; rfl; rfl); rfl; rfl
  apply Run.done; refine ⟨fun h => Bool.noConfusion h, ?_⟩
  apply x3
  apply CodeT.ret
  apply x1
  cases H
  apply x12
  exact RetIs.sc1 rfl
  replace H := ifF (of_decide_eq_false h) H
  (repeat apply CodeT.seq)
  apply CodeT.skip
  apply x3
  (repeat apply CodeT.seq)
  apply CodeT.region (fun _ => PPm)
  apply Run.op; (apply L_fldP; rfl; rfl; rfl; rfl); rfl; rfl
  apply Run.op; (apply L_ldP; rfl; rfl; rfl; (first | exact .inl rfl | exact .inr rfl); rfl); rfl; rfl
  apply Run.op; (apply L_fldP; rfl; rfl; rfl; rfl); rfl; rfl
  apply Run.op; (apply L_ldP; rfl; rfl; rfl; (first | exact .inl rfl | exact .inr rfl); rfl); rfl; rfl
  apply Run.op; (apply L_neq; rfl; rfl; rfl); rfl; rfl
  apply Run.done; refine ⟨fun h => Bool.noConfusion h, ?_⟩
  apply x3
  (repeat apply CodeT.seq)
  refine CodeT.cond rfl (fun h => ?_) (fun h => ?_)
  replace H := ifT (of_decide_eq_true h) H
  (repeat apply CodeT.seq)
  apply CodeT.region (fun _ => PPm)
  apply Run.op; (apply L_asg; rfl; rfl); rfl; rfl
  apply Run.done; refine ⟨fun h => Bool.noConfusion h, ?_⟩
  apply x3
  apply CodeT.ret
  apply x1
  cases H
  apply x12
  exact RetIs.sc1 rfl
  replace H := ifF (of_decide_eq_false h) H
  (repeat apply CodeT.seq)
  apply CodeT.skip
  apply x3
  (repeat apply CodeT.seq)
  apply CodeT.region (fun _ => PPm)
  apply Run.op; (apply L_fldP; rfl; rfl; rfl; rfl); rfl; rfl
  apply Run.op; (apply L_ldPA; rfl; rfl; (first | exact seg_whole rfl | rfl); rfl; (intro h; cases h); (first | exact .inl rfl | exact .inr rfl); rfl); rfl; rfl
  apply Run.op; (apply L_fldP; rfl; rfl; rfl; rfl); rfl; rfl
  apply Run.op; (apply L_ldPA; rfl; rfl; (first | exact seg_whole rfl | rfl); rfl; (intro h; cases h); (first | exact .inl rfl | exact .inr rfl); rfl); rfl; rfl
  obtain ⟨r1, hr1, H⟩ := bindS H
  apply Run.op; (apply L_call; ((apply ArgsV.cons; (apply ArgV.val; rfl; rfl)); (apply ArgsV.cons; (apply ArgV.val; rfl; rfl)); (apply ArgsV.nil)); (exact m_laws_eqRat a0.fWeight a1.fWeight _ hr1); rfl; rfl; rfl); rfl; rfl
  apply Run.op; (apply L_not; rfl; rfl); rfl; rfl
  apply Run.done; refine ⟨fun h => Bool.noConfusion h, ?_⟩
  apply x3
  (repeat apply CodeT.seq)
  refine CodeT.cond rfl (fun h => ?_) (fun h => ?_)
  replace H := ifFb (notT h) H
  (repeat apply CodeT.seq)
  apply CodeT.region (fun _ => PPm)
  apply Run.op; (apply L_asg; rfl; rfl); rfl; rfl
  apply Run.done; refine ⟨fun h => Bool.noConfusion h, ?_⟩
  apply x3
  apply CodeT.ret
  apply x1
  cases H
  apply x12
  exact RetIs.sc1 rfl
  replace H := ifTb (notF h) H
  (repeat apply CodeT.seq)
  apply CodeT.skip
  apply x3
  (repeat apply CodeT.seq)
  apply CodeT.region (fun _ => PPm)
  apply Run.op; (apply L_fldP; rfl; rfl; rfl; rfl); rfl; rfl
  apply Run.op; (apply L_ldPA; rfl; rfl; (first | exact seg_whole rfl | rfl); rfl; (intro h; cases h); (first | exact .inl rfl | exact .inr rfl); rfl); rfl; rfl
  apply Run.op; (apply L_fldP; rfl; rfl; rfl; rfl); rfl; rfl
  apply Run.op; (apply L_ldPA; rfl; rfl; (first | exact seg_whole rfl | rfl); rfl; (intro h; cases h); (first | exact .inl rfl | exact .inr rfl); rfl); rfl; rfl
  obtain ⟨r2, hr2, H⟩ := bindS H
  apply Run.op; (apply L_call; ((apply ArgsV.cons; (apply ArgV.val; rfl; rfl)); (apply ArgsV.cons; (apply ArgV.val; rfl; rfl)); (apply ArgsV.nil)); (exact m_laws_eqRat a0.fDX a1.fDX _ hr2); rfl; rfl; rfl); rfl; rfl
  apply Run.op; (apply L_not; rfl; rfl); rfl; rfl
  apply Run.done; refine ⟨fun h => Bool.noConfusion h, ?_⟩
  apply x3
  (repeat apply CodeT.seq)
  refine CodeT.cond rfl (fun h => ?_) (fun h => ?_)
  replace H := ifFb (notT h) H
  (repeat apply CodeT.seq)
  apply CodeT.region (fun _ => PPm)
  apply Run.op; (apply L_asg; rfl; rfl); rfl; rfl
  apply Run.done; refine ⟨fun h => Bool.noConfusion h, ?_⟩
  apply x3
  apply CodeT.ret
  apply x1
  cases H
  apply x12
  exact RetIs.sc1 rfl
  replace H := ifTb (notF h) H
  (repeat apply CodeT.seq)
  apply CodeT.skip
  apply x3
  (repeat apply CodeT.seq)
  apply CodeT.region (fun _ => PPm)
  apply Run.op; (apply L_fldP; rfl; rfl; rfl; rfl); rfl; rfl
  apply Run.op; (apply L_ldPA; rfl; rfl; (first | exact seg_whole rfl | rfl); rfl; (intro h; cases h); (first | exact .inl rfl | exact .inr rfl); rfl); rfl; rfl
  apply Run.op; (apply L_fldP; rfl; rfl; rfl; rfl); rfl; rfl
  apply Run.op; (apply L_ldPA; rfl; rfl; (first | exact seg_whole rfl | rfl); rfl; (intro h; cases h); (first | exact .inl rfl | exact .inr rfl); rfl); rfl; rfl
  obtain ⟨r3, hr3, H⟩ := bindS H
  apply Run.op; (apply L_call; ((apply ArgsV.cons; (apply ArgV.val; rfl; rfl)); (apply ArgsV.cons; (apply ArgV.val; rfl; rfl)); (apply ArgsV.nil)); (exact m_laws_eqRat a0.fDY a1.fDY _ hr3); rfl; rfl; rfl); rfl; rfl
  apply Run.op; (apply L_not; rfl; rfl); rfl; rfl
  apply Run.done; refine ⟨fun h => Bool.noConfusion h, ?_⟩
  apply x3
  (repeat apply CodeT.seq)
  refine CodeT.cond rfl (fun h => ?_) (fun h => ?_)
  replace H := ifFb (notT h) H
  (repeat apply CodeT.seq)
  apply CodeT.region (fun _ => PPm)
  apply Run.op; (apply L_asg; rfl; rfl); rfl; rfl
  apply Run.done; refine ⟨fun h => Bool.noConfusion h, ?_⟩
  apply x3
  apply CodeT.ret
  apply x1
  cases H
  apply x12
  exact RetIs.sc1 rfl
  replace H := ifTb (notF h) H
  (repeat apply CodeT.seq)
  apply CodeT.skip
  apply x3
  (repeat apply CodeT.seq)
  apply CodeT.region (fun _ => PPm)
  apply Run.op; (apply L_asg; rfl; rfl); rfl; rfl
  apply Run.done; refine ⟨fun h => Bool.noConfusion h, ?_⟩
  apply x3
  apply CodeT.ret
  cases H
  apply x12
  exact RetIs.sc1 rfl
end Go.Ev
