/- The walks of lifted functions, printed by program (lift.py). -/
import Derived.Test.YtbfjidhekfnfjaaL1
set_option linter.all false
namespace Go.Ev
open Go.Proofs
set_option linter.all false
set_option maxHeartbeats 4000000
attribute [local irreducible] CodeT Ent Meets MeetsX Local LocalAt Res1 RetIs RetX Sim OpT StepT NoLab Then InBlock Round Cut ends endsX LRound LCut XEnv XRet XRetX XRetN MeetsN MeetsD MarkC RetN RetM endsN endsM
theorem m_impl_LinkOfFactor (a0 : (List Factor)) (a1 : Factor) (r : (Link × Bool)) (H : impl_LinkOfFactor a0 a1 = some r) : Meets Try.prog 62 [.sl a0.length (a0.flatMap encFactor), .agg (encFactor a1)] (.tup [.agg (encWLink r.1), .sc (.bool r.2)]) true := by
  refine Meets.intro2 (N := 80) (rs := #[.cell 4 83, .tmp 5]) Try.func62 rfl rfl rfl rfl ?_
  intro Γ hio
  unfold impl_LinkOfFactor at H
  (repeat apply sq)
  apply rg
  apply Run.op; (apply L_box false; rfl; rfl; rfl; (exact io1 hio _); rfl); rfl; rfl
  apply Run.op; (apply L_alloc false; (exact io1 hio _); rfl); rfl; rfl
  apply R_asg; rfl; rfl; rfl
  apply dn
  apply x3
  (repeat apply sq)
  obtain ⟨d4, hd4, H⟩ := bindS H
  refine CodeT.lcut (x := d4) (fun d e E => XEnv Γ .normal ⟨[(0, ⟨.sl a0.length (a0.flatMap encFactor), false⟩), (3, ⟨.ptr 3 0, false⟩), (4, ⟨.ptr 4 0, false⟩), (18, ⟨.sc (.bool d), false⟩)], [(3, some ⟨(encFactor a1), true, false⟩), (4, some ⟨[.sc (.int .i64 0), .sc (.int .i64 0), .sc (.bool false), .sc (.slice none 0 0), .sc (.slice none 0 0), .sc (.bool false), .sc (.slice none 0 0), .sc (.slice none 0 0), .sc (.bool false), .sc (.slice none 0 0), .sc (.slice none 0 0)], true, false⟩)]⟩ e E) ?_ ?_
  clear H; have H := hd4; clear hd4
  apply rg
  apply R_mov; rfl; rfl; rfl
  obtain ⟨r1, hr1, H⟩ := bindS H
  apply R_bool; (apply L_call; ((apply ArgsV.cons; (apply ArgV.val; rfl; rfl)); (apply ArgsV.nil)); (exact m_impl_IsFactorList a0 _ hr1); rfl; rfl; rfl); rfl
  intro h; replace H := ifTb h H
  apply R_not; rfl; rfl; rfl
  apply R_mov; rfl; rfl; rfl
  apply R_ldPA; rfl; rfl; (first | exact seg_whole rfl | rfl); rfl; rfl; rfl; rfl; rfl
  obtain ⟨r2, hr2, H⟩ := bindS H
  apply Run.op; (apply L_call; ((apply ArgsV.cons; (apply ArgV.val; rfl; rfl)); (apply ArgsV.nil)); (exact m_impl_IsValidFactor a1 _ hr2); rfl; rfl; rfl); rfl; rfl
  apply R_not; rfl; rfl; rfl
  apply R_pickF; rfl; rfl; rfl; rfl
  apply dn
  obtain rfl := Option.some.inj H
  refine Ev.y4 ?_
  refine XEnv.mk ?_
  apply el [] (io0 hio _) <;> rfl
  intro h; replace H := ifFb h H
  apply R_not; rfl; rfl; rfl
  apply R_mov; rfl; rfl; rfl
  apply Run.skip; rfl
  apply Run.skip; rfl
  apply Run.skip; rfl
  apply R_pickT; rfl; rfl; rfl; rfl
  apply dn
  obtain rfl := Option.some.inj H
  refine Ev.y4 ?_
  refine XEnv.mk ?_
  apply el [] (io0 hio _) <;> rfl
  intro e E' hX; obtain ⟨rfl, g5⟩ := XEnv.out hX
  apply x3
  refine CodeT.weak g5 ?_
  (repeat apply sq)
  refine CodeT.cond rfl (fun h => ?_) (fun h => ?_)
  replace H := ifTb h H
  (repeat apply sq)
  apply rg
  apply Run.op; (apply L_buildC true; (apply BuildV.nil); rfl; rfl); rfl; rfl
  apply Run.op; (apply L_st (cells' := [.sc (.int .i64 0), .sc (.int .i64 0), .sc (.bool false), .sc (.slice none 0 0), .sc (.slice none 0 0), .sc (.bool false), .sc (.slice none 0 0), .sc (.slice none 0 0), .sc (.bool false), .sc (.slice none 0 0), .sc (.slice none 0 0)]); rfl; rfl; rfl; rfl; rfl; (intro h; cases h); rfl; (first | exact splice_whole rfl | rfl)); rfl; rfl
  apply R_asg; rfl; rfl; rfl
  apply dn
  apply x3
  apply CodeT.ret
  apply x1
  cases H
  apply x12
  refine RetIs.weak (Ent.soften (l := 4) (cells' := encWLink (Link.mk 0 0 (Rat.mk (BigInt.mk false ([])) ([])) (Rat.mk (BigInt.mk false ([])) ([])) (Rat.mk (BigInt.mk false ([])) ([])))) rfl (SoftL.cons (Soft.refl _) (SoftL.cons (Soft.refl _) (SoftL.cons (Soft.refl _) (SoftL.cons Soft.nilW (SoftL.cons Soft.nilW (SoftL.cons (Soft.refl _) (SoftL.cons Soft.nilW (SoftL.cons Soft.nilW (SoftL.cons (Soft.refl _) (SoftL.cons Soft.nilW (SoftL.cons Soft.nilW SoftL.nil)))))))))))) ?_
  exact RetIs.many (.inl rfl) (ResL.cons (Res1.cell rfl rfl rfl (by intro h; cases h)) (ResL.cons (Res1.sc rfl) ResL.nil)) (fun h => by first | rfl | cases h)
  replace H := ifFb h H
  (repeat apply sq)
  apply CodeT.skip
  apply x3
  (repeat apply sq)
  apply rg
  apply R_mov; rfl; rfl; rfl
  apply R_fldP; rfl; rfl; rfl; rfl; rfl
  apply R_ldP; rfl; rfl; rfl; rfl; rfl; rfl
  obtain ⟨r6, hr6, H⟩ := bindS H
  apply Run.op; (apply L_call; ((apply ArgsV.cons; (apply ArgV.val; rfl; rfl)); (apply ArgsV.cons; (apply ArgV.val; rfl; rfl)); (apply ArgsV.nil)); (exact m_impl_NodeOf a0 a1.fTo _ hr6); rfl; rfl; rfl); rfl; rfl
  apply R_asg; rfl; rfl; rfl
  apply dn
  apply x3
  (repeat apply sq)
  apply rg
  apply R_mov; rfl; rfl; rfl
  apply R_eql; rfl; rfl; rfl; rfl
  apply dn
  apply x3
  (repeat apply sq)
  refine CodeT.cond rfl (fun h => ?_) (fun h => ?_)
  replace H := ifT (of_decide_eq_true h) H
  (repeat apply sq)
  apply rg
  apply Run.op; (apply L_buildC true; (apply BuildV.nil); rfl; rfl); rfl; rfl
  apply Run.op; (apply L_st (cells' := [.sc (.int .i64 0), .sc (.int .i64 0), .sc (.bool false), .sc (.slice none 0 0), .sc (.slice none 0 0), .sc (.bool false), .sc (.slice none 0 0), .sc (.slice none 0 0), .sc (.bool false), .sc (.slice none 0 0), .sc (.slice none 0 0)]); rfl; rfl; rfl; rfl; rfl; (intro h; cases h); rfl; (first | exact splice_whole rfl | rfl)); rfl; rfl
  apply R_asg; rfl; rfl; rfl
  apply dn
  apply x3
  apply CodeT.ret
  apply x1
  cases H
  apply x12
  refine RetIs.weak (Ent.soften (l := 4) (cells' := encWLink (Link.mk 0 0 (Rat.mk (BigInt.mk false ([])) ([])) (Rat.mk (BigInt.mk false ([])) ([])) (Rat.mk (BigInt.mk false ([])) ([])))) rfl (SoftL.cons (Soft.refl _) (SoftL.cons (Soft.refl _) (SoftL.cons (Soft.refl _) (SoftL.cons Soft.nilW (SoftL.cons Soft.nilW (SoftL.cons (Soft.refl _) (SoftL.cons Soft.nilW (SoftL.cons Soft.nilW (SoftL.cons (Soft.refl _) (SoftL.cons Soft.nilW (SoftL.cons Soft.nilW SoftL.nil)))))))))))) ?_
  exact RetIs.many (.inl rfl) (ResL.cons (Res1.cell rfl rfl rfl (by intro h; cases h)) (ResL.cons (Res1.sc rfl) ResL.nil)) (fun h => by first | rfl | cases h)
  replace H := ifF (of_decide_eq_false h) H
  (repeat apply sq)
  apply CodeT.skip
  apply x3
  (repeat apply sq)
  apply rg
  apply R_fldP; rfl; rfl; rfl; rfl; rfl
  apply R_fldP; rfl; rfl; rfl; rfl; rfl
  apply R_ldP; rfl; rfl; rfl; rfl; rfl; rfl
  apply R_fldP; rfl; rfl; rfl; rfl; rfl
  apply R_fldP; rfl; rfl; rfl; rfl; rfl
  apply R_ldP; rfl; rfl; rfl; rfl; rfl; rfl
  apply R_asg; rfl; rfl; rfl
  apply R_asg; rfl; rfl; rfl
  apply Run.done; refine ⟨fun _ => ⟨rfl, rfl⟩, ?_⟩
  apply x3
  (repeat apply sq)
  apply rg
  apply R_fldP; rfl; rfl; rfl; rfl; rfl
  apply R_ldP; rfl; rfl; rfl; rfl; rfl; rfl
  apply R_eql; rfl; rfl; rfl; rfl
  apply dn
  apply x3
  (repeat apply sq)
  refine CodeT.cond rfl (fun h => ?_) (fun h => ?_)
  replace H := ifT (of_decide_eq_true h) H
  (repeat apply sq)
  apply rg
  apply R_mov; rfl; rfl; rfl
  apply R_fldP; rfl; rfl; rfl; rfl; rfl
  apply R_ldP; rfl; rfl; rfl; rfl; rfl; rfl
  apply R_mov; rfl; rfl; rfl
  apply R_mov; rfl; rfl; rfl
  obtain ⟨r7, hr7, H⟩ := bindS H
  apply Run.op; (apply L_call; ((apply ArgsV.cons; (apply ArgV.val; rfl; rfl)); (apply ArgsV.cons; (apply ArgV.val; rfl; rfl)); (apply ArgsV.cons; (apply ArgV.val; rfl; rfl)); (apply ArgsV.cons; (apply ArgV.val; rfl; rfl)); (apply ArgsV.cons; (apply ArgV.val; rfl; rfl)); (apply ArgsV.nil)); (exact m_impl_NewLink 0 r6 a1.fWeight a1.fPose.fX a1.fPose.fY _ hr7); rfl; rfl; rfl); rfl; rfl
  apply Run.op; (apply L_extT; rfl; rfl; rfl; rfl; rfl); rfl; rfl
  apply Run.op; (apply L_extR; rfl; rfl; rfl); rfl; rfl
  apply Run.op; (apply L_stT (cells' := (encWLink r7.1)); rfl; rfl; rfl; rfl; rfl; rfl; (intro h; cases h); rfl; (first | exact splice_whole rfl | rfl)); rfl; rfl
  apply R_asg; rfl; rfl; rfl
  apply dn
  apply x3
  apply CodeT.ret
  apply x1
  cases H
  apply x12
  exact RetIs.many (.inl rfl) (ResL.cons (Res1.cell rfl rfl rfl (by intro h; cases h)) (ResL.cons (Res1.sc rfl) ResL.nil)) (fun h => by first | rfl | cases h)
  replace H := ifF (of_decide_eq_false h) H
  (repeat apply sq)
  apply CodeT.skip
  apply x3
  (repeat apply sq)
  apply rg
  apply R_mov; rfl; rfl; rfl
  apply R_fldP; rfl; rfl; rfl; rfl; rfl
  apply R_ldP; rfl; rfl; rfl; rfl; rfl; rfl
  obtain ⟨r8, hr8, H⟩ := bindS H
  apply Run.op; (apply L_call; ((apply ArgsV.cons; (apply ArgV.val; rfl; rfl)); (apply ArgsV.cons; (apply ArgV.val; rfl; rfl)); (apply ArgsV.nil)); (exact m_impl_NodeOf a0 a1.fFrom _ hr8); rfl; rfl; rfl); rfl; rfl
  apply R_asg; rfl; rfl; rfl
  apply dn
  apply x3
  (repeat apply sq)
  apply rg
  apply R_mov; rfl; rfl; rfl
  apply R_eql; rfl; rfl; rfl; rfl
  apply dn
  apply x3
  (repeat apply sq)
  refine CodeT.cond rfl (fun h => ?_) (fun h => ?_)
  replace H := ifT (of_decide_eq_true h) H
  (repeat apply sq)
  apply rg
  apply Run.op; (apply L_buildC true; (apply BuildV.nil); rfl; rfl); rfl; rfl
  apply Run.op; (apply L_st (cells' := [.sc (.int .i64 0), .sc (.int .i64 0), .sc (.bool false), .sc (.slice none 0 0), .sc (.slice none 0 0), .sc (.bool false), .sc (.slice none 0 0), .sc (.slice none 0 0), .sc (.bool false), .sc (.slice none 0 0), .sc (.slice none 0 0)]); rfl; rfl; rfl; rfl; rfl; (intro h; cases h); rfl; (first | exact splice_whole rfl | rfl)); rfl; rfl
  apply R_asg; rfl; rfl; rfl
  apply dn
  apply x3
  apply CodeT.ret
  apply x1
  cases H
  apply x12
  refine RetIs.weak (Ent.soften (l := 4) (cells' := encWLink (Link.mk 0 0 (Rat.mk (BigInt.mk false ([])) ([])) (Rat.mk (BigInt.mk false ([])) ([])) (Rat.mk (BigInt.mk false ([])) ([])))) rfl (SoftL.cons (Soft.refl _) (SoftL.cons (Soft.refl _) (SoftL.cons (Soft.refl _) (SoftL.cons Soft.nilW (SoftL.cons Soft.nilW (SoftL.cons (Soft.refl _) (SoftL.cons Soft.nilW (SoftL.cons Soft.nilW (SoftL.cons (Soft.refl _) (SoftL.cons Soft.nilW (SoftL.cons Soft.nilW SoftL.nil)))))))))))) ?_
  exact RetIs.many (.inl rfl) (ResL.cons (Res1.cell rfl rfl rfl (by intro h; cases h)) (ResL.cons (Res1.sc rfl) ResL.nil)) (fun h => by first | rfl | cases h)
  replace H := ifF (of_decide_eq_false h) H
  (repeat apply sq)
  apply CodeT.skip
  apply x3
  (repeat apply sq)
  obtain ⟨d10, hd10, H⟩ := bindS H
  refine CodeT.lcut (x := d10) (fun d e E => XEnv Γ .normal ⟨[(0, ⟨.sl a0.length (a0.flatMap encFactor), false⟩), (3, ⟨.ptr 3 0, false⟩), (4, ⟨.ptr 4 0, false⟩), (6, ⟨.sc (.int .i64 r6), false⟩), (7, ⟨.sc (.int .i64 a1.fPose.fX), false⟩), (8, ⟨.sc (.int .i64 a1.fPose.fY), false⟩), (9, ⟨.sc (.int .i64 r8), false⟩), (56, ⟨.sc (.bool d), false⟩)], [(3, some ⟨(encFactor a1), true, false⟩), (4, some ⟨[.sc (.int .i64 0), .sc (.int .i64 0), .sc (.bool false), .sc (.slice none 0 0), .sc (.slice none 0 0), .sc (.bool false), .sc (.slice none 0 0), .sc (.slice none 0 0), .sc (.bool false), .sc (.slice none 0 0), .sc (.slice none 0 0)], true, false⟩)]⟩ e E) ?_ ?_
  clear H; have H := hd10; clear hd10
  apply rg
  apply R_mov; rfl; rfl; rfl
  apply R_dec; (apply L_neq; rfl; rfl; rfl); rfl
  intro h; replace H := ifT h H
  apply R_mov; rfl; rfl; rfl
  apply Run.skip; rfl
  apply Run.skip; rfl
  apply R_pickT; rfl; rfl; rfl; rfl
  apply dn
  obtain rfl := Option.some.inj H
  refine Ev.y4 ?_
  refine XEnv.mk ?_
  apply el [] (io0 hio _) <;> rfl
  intro h; replace H := ifF h H
  apply R_mov; rfl; rfl; rfl
  apply R_mov; rfl; rfl; rfl
  apply R_neq; rfl; rfl; rfl; rfl
  apply R_pickF; rfl; rfl; rfl; rfl
  apply dn
  obtain rfl := Option.some.inj H
  refine Ev.y4 ?_
  refine XEnv.mk ?_
  apply el [] (io0 hio _) <;> rfl
  intro e E' hX; obtain ⟨rfl, g11⟩ := XEnv.out hX
  apply x3
  refine CodeT.weak g11 ?_
  (repeat apply sq)
  obtain ⟨d14, hd14, H⟩ := bindS H
  refine CodeT.lcut (x := d14) (fun x e E => match x with | (.inl d) => XEnv Γ .normal ⟨[(3, ⟨.ptr 3 0, false⟩), (4, ⟨.ptr 4 0, false⟩), (6, ⟨.sc (.int .i64 r6), false⟩), (7, ⟨.sc (.int .i64 d.1), false⟩), (8, ⟨.sc (.int .i64 d.2), false⟩), (9, ⟨.sc (.int .i64 r8), false⟩)], [(3, some ⟨(encFactor a1), true, false⟩), (4, some ⟨[.sc (.int .i64 0), .sc (.int .i64 0), .sc (.bool false), .sc (.slice none 0 0), .sc (.slice none 0 0), .sc (.bool false), .sc (.slice none 0 0), .sc (.slice none 0 0), .sc (.bool false), .sc (.slice none 0 0), .sc (.slice none 0 0)], true, false⟩)]⟩ e E | (.inr d) => XRet Γ #[.cell 4 83, .tmp 5] (.tup [.agg (encWLink d.1), .sc (.bool d.2)]) true e E) ?_ ?_
  clear H; have H := hd14; clear hd14
  refine CodeT.cond rfl (fun h => ?_) (fun h => ?_)
  replace H := ifTb h H
  (repeat apply sq)
  apply rg
  apply R_mov; rfl; rfl; rfl
  apply R_fldP; rfl; rfl; rfl; rfl; rfl
  apply R_ldP; rfl; rfl; rfl; rfl; rfl; rfl
  obtain ⟨r12, hr12, H⟩ := bindS H
  apply Run.op; (apply L_call; ((apply ArgsV.cons; (apply ArgV.val; rfl; rfl)); (apply ArgsV.cons; (apply ArgV.val; rfl; rfl)); (apply ArgsV.nil)); (exact m_impl_HeadingOf a0 a1.fFrom _ hr12); rfl; rfl; rfl); rfl; rfl
  apply R_asg; rfl; rfl; rfl
  apply dn
  apply x3
  (repeat apply sq)
  apply rg
  apply R_mov; rfl; rfl; rfl
  apply R_lss; rfl; rfl; rfl; rfl
  apply dn
  apply x3
  (repeat apply sq)
  refine CodeT.cond rfl (fun h => ?_) (fun h => ?_)
  replace H := ifT (of_decide_eq_true h) H
  (repeat apply sq)
  apply rg
  apply Run.op; (apply L_buildC true; (apply BuildV.nil); rfl; rfl); rfl; rfl
  apply Run.op; (apply L_st (cells' := [.sc (.int .i64 0), .sc (.int .i64 0), .sc (.bool false), .sc (.slice none 0 0), .sc (.slice none 0 0), .sc (.bool false), .sc (.slice none 0 0), .sc (.slice none 0 0), .sc (.bool false), .sc (.slice none 0 0), .sc (.slice none 0 0)]); rfl; rfl; rfl; rfl; rfl; (intro h; cases h); rfl; (first | exact splice_whole rfl | rfl)); rfl; rfl
  apply R_asg; rfl; rfl; rfl
  apply dn
  apply x3
  apply CodeT.ret
  apply x1
  obtain rfl := Option.some.inj H
  refine Ev.y4 ?_
  refine XRet.mk ?_
  refine RetIs.weak (Ent.soften (l := 4) (cells' := encWLink (Link.mk 0 0 (Rat.mk (BigInt.mk false ([])) ([])) (Rat.mk (BigInt.mk false ([])) ([])) (Rat.mk (BigInt.mk false ([])) ([])))) rfl (SoftL.cons (Soft.refl _) (SoftL.cons (Soft.refl _) (SoftL.cons (Soft.refl _) (SoftL.cons Soft.nilW (SoftL.cons Soft.nilW (SoftL.cons (Soft.refl _) (SoftL.cons Soft.nilW (SoftL.cons Soft.nilW (SoftL.cons (Soft.refl _) (SoftL.cons Soft.nilW (SoftL.cons Soft.nilW SoftL.nil)))))))))))) ?_
  exact RetIs.many (.inl rfl) (ResL.cons (Res1.cell rfl rfl rfl (by intro h; cases h)) (ResL.cons (Res1.sc rfl) ResL.nil)) (fun h => by first | rfl | cases h)
  replace H := ifF (of_decide_eq_false h) H
  (repeat apply sq)
  apply CodeT.skip
  apply x3
  apply rg
  apply R_mov; rfl; rfl; rfl
  apply R_mov; rfl; rfl; rfl
  apply R_mov; rfl; rfl; rfl
  obtain ⟨r13, hr13, H⟩ := bindS H
  apply Run.op; (apply L_call; ((apply ArgsV.cons; (apply ArgV.val; rfl; rfl)); (apply ArgsV.cons; (apply ArgV.val; rfl; rfl)); (apply ArgsV.cons; (apply ArgV.val; rfl; rfl)); (apply ArgsV.nil)); (exact m_impl_RotateXY a1.fPose.fX a1.fPose.fY r12 _ hr13); rfl; rfl; rfl); rfl; rfl
  apply R_mov; rfl; rfl; rfl
  apply Run.op; (apply L_extR; rfl; rfl; rfl); rfl; rfl
  apply Run.op; (apply L_extR; rfl; rfl; rfl); rfl; rfl
  apply R_asg; rfl; rfl; rfl
  apply R_asg; rfl; rfl; rfl
  apply dn
  obtain rfl := Option.some.inj H
  refine Ev.y4 ?_
  refine XEnv.mk ?_
  apply el [] (io0 hio _) <;> rfl
  replace H := ifFb h H
  (repeat apply sq)
  apply CodeT.skip
  obtain rfl := Option.some.inj H
  refine Ev.y4 ?_
  refine XEnv.mk ?_
  apply el [] (io0 hio _) <;> rfl
  rcases d14 with (d15 | d18)
  intro e E' hX; obtain ⟨rfl, g16⟩ := XEnv.out hX
  apply x3
  refine CodeT.weak g16 ?_
  (repeat apply sq)
  apply rg
  apply R_mov; rfl; rfl; rfl
  apply R_mov; rfl; rfl; rfl
  apply R_fldP; rfl; rfl; rfl; rfl; rfl
  apply R_ldP; rfl; rfl; rfl; rfl; rfl; rfl
  apply R_mov; rfl; rfl; rfl
  apply R_mov; rfl; rfl; rfl
  obtain ⟨r17, hr17, H⟩ := bindS H
  apply Run.op; (apply L_call; ((apply ArgsV.cons; (apply ArgV.val; rfl; rfl)); (apply ArgsV.cons; (apply ArgV.val; rfl; rfl)); (apply ArgsV.cons; (apply ArgV.val; rfl; rfl)); (apply ArgsV.cons; (apply ArgV.val; rfl; rfl)); (apply ArgsV.cons; (apply ArgV.val; rfl; rfl)); (apply ArgsV.nil)); (exact m_impl_NewLink r8 r6 a1.fWeight d15.1 d15.2 _ hr17); rfl; rfl; rfl); rfl; rfl
  apply Run.op; (apply L_extT; rfl; rfl; rfl; rfl; rfl); rfl; rfl
  apply Run.op; (apply L_extR; rfl; rfl; rfl); rfl; rfl
  apply Run.op; (apply L_stT (cells' := (encWLink r17.1)); rfl; rfl; rfl; rfl; rfl; rfl; (intro h; cases h); rfl; (first | exact splice_whole rfl | rfl)); rfl; rfl
  apply R_asg; rfl; rfl; rfl
  apply dn
  apply x3
  apply CodeT.ret
  cases H
  apply x12
  exact RetIs.many (.inl rfl) (ResL.cons (Res1.cell rfl rfl rfl (by intro h; cases h)) (ResL.cons (Res1.sc rfl) ResL.nil)) (fun h => by first | rfl | cases h)
  intro e E' hX; obtain ⟨rfl, g19⟩ := XRet.out hX
  apply x1
  cases H
  apply x12
  exact g19
theorem m_laws_eqIntS (a0 : (List Int)) (a1 : (List Int)) (r : Bool) (H : laws_eqIntS a0 a1 = some r) : Meets Try.prog 18 [.sl a0.length (a0.flatMap (encI .i64)), .sl a1.length (a1.flatMap (encI .i64))] (.sc (.bool r)) true := by
  refine Meets.intro2 (N := 26) (rs := #[.tmp 4]) Try.func18 rfl rfl rfl rfl ?_
  intro Γ hio
  unfold laws_eqIntS at H
  (repeat apply sq)
  apply rg
  apply R_asg; rfl; rfl; rfl
  apply dn
  apply x3
  (repeat apply sq)
  apply rg
  apply R_mov; rfl; rfl; rfl
  apply R_len; rfl; rfl; rfl
  apply R_mov; rfl; rfl; rfl
  apply R_len; rfl; rfl; rfl
  apply R_neq; rfl; rfl; rfl; rfl
  apply dn
  apply x3
  (repeat apply sq)
  refine CodeT.cond rfl (fun h => ?_) (fun h => ?_)
  replace H := ifT (of_decide_eq_true h) H
  (repeat apply sq)
  apply rg
  apply R_asg; rfl; rfl; rfl
  apply dn
  apply x3
  apply CodeT.ret
  apply x1
  cases H
  apply x12
  exact RetIs.sc1 rfl
  replace H := ifF (of_decide_eq_false h) H
  (repeat apply sq)
  apply CodeT.skip
  apply x3
  (repeat apply sq)
  apply rg
  apply R_asg; rfl; rfl; rfl
  apply dn
  apply x3
  (repeat apply sq)
  apply CodeT.block
  (repeat apply sq)
  obtain ⟨d6, hd6, H⟩ := bindS H
  refine CodeT.lloop (fun s => ⟨[(0, ⟨.sl a0.length (a0.flatMap (encI .i64)), false⟩), (1, ⟨.sl a1.length (a1.flatMap (encI .i64)), false⟩), (5, ⟨.sc (.int .i64 s), false⟩)], []⟩) (fun x e E => match x with | (.inl d) => XEnv Γ (.exit 0) ⟨[], []⟩ e E | (.inr d) => XRet Γ #[.tmp 4] (.sc (.bool d)) true e E) hd6 ?_ ?_ ?_
  apply el [] (io0 hio _) <;> rfl
  clear H hd6
  rintro v3 o H
  unfold laws_eqIntS_L1 at H
  (repeat apply sq)
  apply rg
  apply R_mov; rfl; rfl; rfl
  apply R_mov; rfl; rfl; rfl
  apply R_len; rfl; rfl; rfl
  apply R_lss; rfl; rfl; rfl; rfl
  apply dn
  apply x3
  (repeat apply sq)
  refine CodeT.cond rfl (fun h => ?_) (fun h => ?_)
  replace H := ifT (of_decide_eq_true h) H
  (repeat apply sq)
  apply CodeT.skip
  apply x3
  (repeat apply sq)
  apply CodeT.block
  (repeat apply sq)
  apply rg
  apply R_mov; rfl; rfl; rfl
  apply R_mov; rfl; rfl; rfl
  obtain ⟨y4, hy4, H⟩ := bindS H
  apply Run.op; (apply L_ixS2; rfl; rfl; rfl; (exact hy4); (intro _; rfl); rfl); rfl; rfl
  apply R_ldI; rfl; rfl; rfl; rfl; rfl
  apply R_mov; rfl; rfl; rfl
  apply R_mov; rfl; rfl; rfl
  obtain ⟨y5, hy5, H⟩ := bindS H
  apply Run.op; (apply L_ixS2; rfl; rfl; rfl; (exact hy5); (intro _; rfl); rfl); rfl; rfl
  apply R_ldI; rfl; rfl; rfl; rfl; rfl
  apply R_neq; rfl; rfl; rfl; rfl
  apply Run.done; refine ⟨fun _ => ⟨rfl, rfl⟩, ?_⟩
  apply x3
  refine CodeT.cond rfl (fun h => ?_) (fun h => ?_)
  replace H := ifT (of_decide_eq_true h) H
  (repeat apply sq)
  apply rg
  apply R_asg; rfl; rfl; rfl
  apply dn
  apply x3
  apply CodeT.ret
  apply x4
  apply x1
  obtain rfl := Option.some.inj H
  refine Ev.y2 ?_
  refine XRet.mk ?_
  exact RetIs.sc1 rfl
  replace H := ifF (of_decide_eq_false h) H
  (repeat apply sq)
  apply CodeT.skip
  apply x5
  apply x3
  apply rg
  apply R_mov; rfl; rfl; rfl
  apply R_add; rfl; rfl; rfl; rfl; rfl
  apply R_asg; rfl; rfl; rfl
  apply dn
  obtain rfl := Option.some.inj H
  refine Ev.y1 ?_
  apply el [] (io0 hio _) <;> rfl
  replace H := ifF (of_decide_eq_false h) H
  (repeat apply sq)
  apply CodeT.exit
  apply x2
  obtain rfl := Option.some.inj H
  refine Ev.y3 ?_
  refine XEnv.mk ?_
  apply el [] (io0 hio _) <;> rfl
  rcases d6 with (d7 | d9)
  intro e E' hX; obtain ⟨rfl, g8⟩ := XEnv.out hX
  refine x6 rfl ?_
  apply x3
  refine CodeT.weak g8 ?_
  (repeat apply sq)
  apply rg
  apply R_asg; rfl; rfl; rfl
  apply dn
  apply x3
  apply CodeT.ret
  cases H
  apply x12
  exact RetIs.sc1 rfl
  intro e E' hX; obtain ⟨rfl, g10⟩ := XRet.out hX
  apply x4
  apply x1
  cases H
  apply x12
  exact g10
theorem m_laws_eqBigInt (a0 : BigInt) (a1 : BigInt) (r : Bool) (H : laws_eqBigInt a0 a1 = some r) : Meets Try.prog 156 [.agg (encBigInt a0), .agg (encBigInt a1)] (.sc (.bool r)) true := by
  refine Meets.intro2 (N := 16) (rs := #[.tmp 4]) Try.func156 rfl rfl rfl rfl ?_
  intro Γ hio
  unfold laws_eqBigInt at H
  (repeat apply sq)
  apply rg
  apply Run.op; (apply L_box false; rfl; rfl; rfl; (exact io1 hio _); rfl); rfl; rfl
  apply Run.op; (apply L_box false; rfl; rfl; rfl; (exact io1 hio _); rfl); rfl; rfl
  apply R_asg; rfl; rfl; rfl
  apply dn
  apply x3
  (repeat apply sq)
  apply rg
  apply R_fldP; rfl; rfl; rfl; rfl; rfl
  apply R_ldP; rfl; rfl; rfl; rfl; rfl; rfl
  apply R_fldP; rfl; rfl; rfl; rfl; rfl
  apply R_ldP; rfl; rfl; rfl; rfl; rfl; rfl
  apply Run.op; (apply L_bneq; rfl; rfl; rfl); rfl; rfl
  apply dn
  apply x3
  (repeat apply sq)
  refine CodeT.cond rfl (fun h => ?_) (fun h => ?_)
  replace H := ifFb (notT h) H
  (repeat apply sq)
  apply rg
  apply R_asg; rfl; rfl; rfl
  apply dn
  apply x3
  apply CodeT.ret
  apply x1
  cases H
  apply x12
  exact RetIs.sc1 rfl
  replace H := ifTb (notF h) H
  (repeat apply sq)
  apply CodeT.skip
  apply x3
  (repeat apply sq)
  apply rg
  apply R_fldP; rfl; rfl; rfl; rfl; rfl
  apply R_ldP; rfl; rfl; rfl; rfl; rfl; rfl
  apply R_fldP; rfl; rfl; rfl; rfl; rfl
  apply R_ldP; rfl; rfl; rfl; rfl; rfl; rfl
  obtain ⟨r1, hr1, H⟩ := bindS H
  apply Run.op; (apply L_call; ((apply ArgsV.cons; (apply ArgV.val; rfl; rfl)); (apply ArgsV.cons; (apply ArgV.val; rfl; rfl)); (apply ArgsV.nil)); (exact m_laws_eqIntS a0.fMag a1.fMag _ hr1); rfl; rfl; rfl); rfl; rfl
  apply R_not; rfl; rfl; rfl
  apply dn
  apply x3
  (repeat apply sq)
  refine CodeT.cond rfl (fun h => ?_) (fun h => ?_)
  replace H := ifFb (notT h) H
  (repeat apply sq)
  apply rg
  apply R_asg; rfl; rfl; rfl
  apply dn
  apply x3
  apply CodeT.ret
  apply x1
  cases H
  apply x12
  exact RetIs.sc1 rfl
  replace H := ifTb (notF h) H
  (repeat apply sq)
  apply CodeT.skip
  apply x3
  (repeat apply sq)
  apply rg
  apply R_asg; rfl; rfl; rfl
  apply dn
  apply x3
  apply CodeT.ret
  cases H
  apply x12
  exact RetIs.sc1 rfl
theorem m_laws_eqRat (a0 : Rat) (a1 : Rat) (r : Bool) (H : laws_eqRat a0 a1 = some r) : Meets Try.prog 117 [.agg (encRat a0), .agg (encRat a1)] (.sc (.bool r)) true := by
  refine Meets.intro2 (N := 17) (rs := #[.tmp 4]) Try.func117 rfl rfl rfl rfl ?_
  intro Γ hio
  unfold laws_eqRat at H
  (repeat apply sq)
  apply rg
  apply Run.op; (apply L_box false; rfl; rfl; rfl; (exact io1 hio _); rfl); rfl; rfl
  apply Run.op; (apply L_box false; rfl; rfl; rfl; (exact io1 hio _); rfl); rfl; rfl
  apply R_asg; rfl; rfl; rfl
  apply dn
  apply x3
  (repeat apply sq)
  apply rg
  apply R_fldP; rfl; rfl; rfl; rfl; rfl
  apply R_ldPA; rfl; rfl; (first | exact seg_whole rfl | rfl); rfl; rfl; rfl; rfl; rfl
  apply R_fldP; rfl; rfl; rfl; rfl; rfl
  apply R_ldPA; rfl; rfl; (first | exact seg_whole rfl | rfl); rfl; rfl; rfl; rfl; rfl
  obtain ⟨r1, hr1, H⟩ := bindS H
  apply Run.op; (apply L_call; ((apply ArgsV.cons; (apply ArgV.val; rfl; rfl)); (apply ArgsV.cons; (apply ArgV.val; rfl; rfl)); (apply ArgsV.nil)); (exact m_laws_eqBigInt a0.fNum a1.fNum _ hr1); rfl; rfl; rfl); rfl; rfl
  apply R_not; rfl; rfl; rfl
  apply dn
  apply x3
  (repeat apply sq)
  refine CodeT.cond rfl (fun h => ?_) (fun h => ?_)
  replace H := ifFb (notT h) H
  (repeat apply sq)
  apply rg
  apply R_asg; rfl; rfl; rfl
  apply dn
  apply x3
  apply CodeT.ret
  apply x1
  cases H
  apply x12
  exact RetIs.sc1 rfl
  replace H := ifTb (notF h) H
  (repeat apply sq)
  apply CodeT.skip
  apply x3
  (repeat apply sq)
  apply rg
  apply R_fldP; rfl; rfl; rfl; rfl; rfl
  apply R_ldP; rfl; rfl; rfl; rfl; rfl; rfl
  apply R_fldP; rfl; rfl; rfl; rfl; rfl
  apply R_ldP; rfl; rfl; rfl; rfl; rfl; rfl
  obtain ⟨r2, hr2, H⟩ := bindS H
  apply Run.op; (apply L_call; ((apply ArgsV.cons; (apply ArgV.val; rfl; rfl)); (apply ArgsV.cons; (apply ArgV.val; rfl; rfl)); (apply ArgsV.nil)); (exact m_laws_eqIntS a0.fDen a1.fDen _ hr2); rfl; rfl; rfl); rfl; rfl
  apply R_not; rfl; rfl; rfl
  apply dn
  apply x3
  (repeat apply sq)
  refine CodeT.cond rfl (fun h => ?_) (fun h => ?_)
  replace H := ifFb (notT h) H
  (repeat apply sq)
  apply rg
  apply R_asg; rfl; rfl; rfl
  apply dn
  apply x3
  apply CodeT.ret
  apply x1
  cases H
  apply x12
  exact RetIs.sc1 rfl
  replace H := ifTb (notF h) H
  (repeat apply sq)
  apply CodeT.skip
  apply x3
  (repeat apply sq)
  apply rg
  apply R_asg; rfl; rfl; rfl
  apply dn
  apply x3
  apply CodeT.ret
  cases H
  apply x12
  exact RetIs.sc1 rfl
theorem m_laws_eqLink (a0 : Link) (a1 : Link) (r : Bool) (H : laws_eqLink a0 a1 = some r) : Meets Try.prog 63 [.agg (encLink a0), .agg (encLink a1)] (.sc (.bool r)) true := by
  refine Meets.intro2 (N := 33) (rs := #[.tmp 4]) Try.func63 rfl rfl rfl rfl ?_
  intro Γ hio
  unfold laws_eqLink at H
  (repeat apply sq)
  apply rg
  apply Run.op; (apply L_box false; rfl; rfl; rfl; (exact io1 hio _); rfl); rfl; rfl
  apply Run.op; (apply L_box false; rfl; rfl; rfl; (exact io1 hio _); rfl); rfl; rfl
  apply R_asg; rfl; rfl; rfl
  apply dn
  apply x3
  (repeat apply sq)
  apply rg
  apply R_fldP; rfl; rfl; rfl; rfl; rfl
  apply R_ldP; rfl; rfl; rfl; rfl; rfl; rfl
  apply R_fldP; rfl; rfl; rfl; rfl; rfl
  apply R_ldP; rfl; rfl; rfl; rfl; rfl; rfl
  apply R_neq; rfl; rfl; rfl; rfl
  apply dn
  apply x3
  (repeat apply sq)
  refine CodeT.cond rfl (fun h => ?_) (fun h => ?_)
  replace H := ifT (of_decide_eq_true h) H
  (repeat apply sq)
  apply rg
  apply R_asg; rfl; rfl; rfl
  apply dn
  apply x3
  apply CodeT.ret
  apply x1
  cases H
  apply x12
  exact RetIs.sc1 rfl
  replace H := ifF (of_decide_eq_false h) H
  (repeat apply sq)
  apply CodeT.skip
  apply x3
  (repeat apply sq)
  apply rg
  apply R_fldP; rfl; rfl; rfl; rfl; rfl
  apply R_ldP; rfl; rfl; rfl; rfl; rfl; rfl
  apply R_fldP; rfl; rfl; rfl; rfl; rfl
  apply R_ldP; rfl; rfl; rfl; rfl; rfl; rfl
  apply R_neq; rfl; rfl; rfl; rfl
  apply dn
  apply x3
  (repeat apply sq)
  refine CodeT.cond rfl (fun h => ?_) (fun h => ?_)
  replace H := ifT (of_decide_eq_true h) H
  (repeat apply sq)
  apply rg
  apply R_asg; rfl; rfl; rfl
  apply dn
  apply x3
  apply CodeT.ret
  apply x1
  cases H
  apply x12
  exact RetIs.sc1 rfl
  replace H := ifF (of_decide_eq_false h) H
  (repeat apply sq)
  apply CodeT.skip
  apply x3
  (repeat apply sq)
  apply rg
  apply R_fldP; rfl; rfl; rfl; rfl; rfl
  apply R_ldPA; rfl; rfl; (first | exact seg_whole rfl | rfl); rfl; rfl; rfl; rfl; rfl
  apply R_fldP; rfl; rfl; rfl; rfl; rfl
  apply R_ldPA; rfl; rfl; (first | exact seg_whole rfl | rfl); rfl; rfl; rfl; rfl; rfl
  obtain ⟨r1, hr1, H⟩ := bindS H
  apply Run.op; (apply L_call; ((apply ArgsV.cons; (apply ArgV.val; rfl; rfl)); (apply ArgsV.cons; (apply ArgV.val; rfl; rfl)); (apply ArgsV.nil)); (exact m_laws_eqRat a0.fWeight a1.fWeight _ hr1); rfl; rfl; rfl); rfl; rfl
  apply R_not; rfl; rfl; rfl
  apply dn
  apply x3
  (repeat apply sq)
  refine CodeT.cond rfl (fun h => ?_) (fun h => ?_)
  replace H := ifFb (notT h) H
  (repeat apply sq)
  apply rg
  apply R_asg; rfl; rfl; rfl
  apply dn
  apply x3
  apply CodeT.ret
  apply x1
  cases H
  apply x12
  exact RetIs.sc1 rfl
  replace H := ifTb (notF h) H
  (repeat apply sq)
  apply CodeT.skip
  apply x3
  (repeat apply sq)
  apply rg
  apply R_fldP; rfl; rfl; rfl; rfl; rfl
  apply R_ldPA; rfl; rfl; (first | exact seg_whole rfl | rfl); rfl; rfl; rfl; rfl; rfl
  apply R_fldP; rfl; rfl; rfl; rfl; rfl
  apply R_ldPA; rfl; rfl; (first | exact seg_whole rfl | rfl); rfl; rfl; rfl; rfl; rfl
  obtain ⟨r2, hr2, H⟩ := bindS H
  apply Run.op; (apply L_call; ((apply ArgsV.cons; (apply ArgV.val; rfl; rfl)); (apply ArgsV.cons; (apply ArgV.val; rfl; rfl)); (apply ArgsV.nil)); (exact m_laws_eqRat a0.fDX a1.fDX _ hr2); rfl; rfl; rfl); rfl; rfl
  apply R_not; rfl; rfl; rfl
  apply dn
  apply x3
  (repeat apply sq)
  refine CodeT.cond rfl (fun h => ?_) (fun h => ?_)
  replace H := ifFb (notT h) H
  (repeat apply sq)
  apply rg
  apply R_asg; rfl; rfl; rfl
  apply dn
  apply x3
  apply CodeT.ret
  apply x1
  cases H
  apply x12
  exact RetIs.sc1 rfl
  replace H := ifTb (notF h) H
  (repeat apply sq)
  apply CodeT.skip
  apply x3
  (repeat apply sq)
  apply rg
  apply R_fldP; rfl; rfl; rfl; rfl; rfl
  apply R_ldPA; rfl; rfl; (first | exact seg_whole rfl | rfl); rfl; rfl; rfl; rfl; rfl
  apply R_fldP; rfl; rfl; rfl; rfl; rfl
  apply R_ldPA; rfl; rfl; (first | exact seg_whole rfl | rfl); rfl; rfl; rfl; rfl; rfl
  obtain ⟨r3, hr3, H⟩ := bindS H
  apply Run.op; (apply L_call; ((apply ArgsV.cons; (apply ArgV.val; rfl; rfl)); (apply ArgsV.cons; (apply ArgV.val; rfl; rfl)); (apply ArgsV.nil)); (exact m_laws_eqRat a0.fDY a1.fDY _ hr3); rfl; rfl; rfl); rfl; rfl
  apply R_not; rfl; rfl; rfl
  apply dn
  apply x3
  (repeat apply sq)
  refine CodeT.cond rfl (fun h => ?_) (fun h => ?_)
  replace H := ifFb (notT h) H
  (repeat apply sq)
  apply rg
  apply R_asg; rfl; rfl; rfl
  apply dn
  apply x3
  apply CodeT.ret
  apply x1
  cases H
  apply x12
  exact RetIs.sc1 rfl
  replace H := ifTb (notF h) H
  (repeat apply sq)
  apply CodeT.skip
  apply x3
  (repeat apply sq)
  apply rg
  apply R_asg; rfl; rfl; rfl
  apply dn
  apply x3
  apply CodeT.ret
  cases H
  apply x12
  exact RetIs.sc1 rfl
theorem m_laws_eqPose (a0 : Pose) (a1 : Pose) (r : Bool) (H : laws_eqPose a0 a1 = some r) : Meets Try.prog 81 [.agg (encPose a0), .agg (encPose a1)] (.sc (.bool r)) true := by
  refine Meets.intro2 (N := 20) (rs := #[.tmp 4]) Try.func81 rfl rfl rfl rfl ?_
  intro Γ hio
  unfold laws_eqPose at H
  (repeat apply sq)
  apply rg
  apply Run.op; (apply L_box false; rfl; rfl; rfl; (exact io1 hio _); rfl); rfl; rfl
  apply Run.op; (apply L_box false; rfl; rfl; rfl; (exact io1 hio _); rfl); rfl; rfl
  apply R_asg; rfl; rfl; rfl
  apply dn
  apply x3
  (repeat apply sq)
  apply rg
  apply R_fldP; rfl; rfl; rfl; rfl; rfl
  apply R_ldP; rfl; rfl; rfl; rfl; rfl; rfl
  apply R_fldP; rfl; rfl; rfl; rfl; rfl
  apply R_ldP; rfl; rfl; rfl; rfl; rfl; rfl
  apply R_neq; rfl; rfl; rfl; rfl
  apply dn
  apply x3
  (repeat apply sq)
  refine CodeT.cond rfl (fun h => ?_) (fun h => ?_)
  replace H := ifT (of_decide_eq_true h) H
  (repeat apply sq)
  apply rg
  apply R_asg; rfl; rfl; rfl
  apply dn
  apply x3
  apply CodeT.ret
  apply x1
  cases H
  apply x12
  exact RetIs.sc1 rfl
  replace H := ifF (of_decide_eq_false h) H
  (repeat apply sq)
  apply CodeT.skip
  apply x3
  (repeat apply sq)
  apply rg
  apply R_fldP; rfl; rfl; rfl; rfl; rfl
  apply R_ldP; rfl; rfl; rfl; rfl; rfl; rfl
  apply R_fldP; rfl; rfl; rfl; rfl; rfl
  apply R_ldP; rfl; rfl; rfl; rfl; rfl; rfl
  apply R_neq; rfl; rfl; rfl; rfl
  apply dn
  apply x3
  (repeat apply sq)
  refine CodeT.cond rfl (fun h => ?_) (fun h => ?_)
  replace H := ifT (of_decide_eq_true h) H
  (repeat apply sq)
  apply rg
  apply R_asg; rfl; rfl; rfl
  apply dn
  apply x3
  apply CodeT.ret
  apply x1
  cases H
  apply x12
  exact RetIs.sc1 rfl
  replace H := ifF (of_decide_eq_false h) H
  (repeat apply sq)
  apply CodeT.skip
  apply x3
  (repeat apply sq)
  apply rg
  apply R_fldP; rfl; rfl; rfl; rfl; rfl
  apply R_ldP; rfl; rfl; rfl; rfl; rfl; rfl
  apply R_fldP; rfl; rfl; rfl; rfl; rfl
  apply R_ldP; rfl; rfl; rfl; rfl; rfl; rfl
  apply R_neq; rfl; rfl; rfl; rfl
  apply dn
  apply x3
  (repeat apply sq)
  refine CodeT.cond rfl (fun h => ?_) (fun h => ?_)
  replace H := ifT (of_decide_eq_true h) H
  (repeat apply sq)
  apply rg
  apply R_asg; rfl; rfl; rfl
  apply dn
  apply x3
  apply CodeT.ret
  apply x1
  cases H
  apply x12
  exact RetIs.sc1 rfl
  replace H := ifF (of_decide_eq_false h) H
  (repeat apply sq)
  apply CodeT.skip
  apply x3
  (repeat apply sq)
  apply rg
  apply R_asg; rfl; rfl; rfl
  apply dn
  apply x3
  apply CodeT.ret
  cases H
  apply x12
  exact RetIs.sc1 rfl
theorem m_laws_eqFactor (a0 : Factor) (a1 : Factor) (r : Bool) (H : laws_eqFactor a0 a1 = some r) : Meets Try.prog 77 [.agg (encFactor a0), .agg (encFactor a1)] (.sc (.bool r)) true := by
  refine Meets.intro2 (N := 36) (rs := #[.tmp 4]) Try.func77 rfl rfl rfl rfl ?_
  intro Γ hio
  unfold laws_eqFactor at H
  (repeat apply sq)
  apply rg
  apply Run.op; (apply L_box false; rfl; rfl; rfl; (exact io1 hio _); rfl); rfl; rfl
  apply Run.op; (apply L_box false; rfl; rfl; rfl; (exact io1 hio _); rfl); rfl; rfl
  apply R_asg; rfl; rfl; rfl
  apply dn
  apply x3
  (repeat apply sq)
  apply rg
  apply R_fldP; rfl; rfl; rfl; rfl; rfl
  apply R_ldP; rfl; rfl; rfl; rfl; rfl; rfl
  apply R_fldP; rfl; rfl; rfl; rfl; rfl
  apply R_ldP; rfl; rfl; rfl; rfl; rfl; rfl
  apply R_neq; rfl; rfl; rfl; rfl
  apply dn
  apply x3
  (repeat apply sq)
  refine CodeT.cond rfl (fun h => ?_) (fun h => ?_)
  replace H := ifT (of_decide_eq_true h) H
  (repeat apply sq)
  apply rg
  apply R_asg; rfl; rfl; rfl
  apply dn
  apply x3
  apply CodeT.ret
  apply x1
  cases H
  apply x12
  exact RetIs.sc1 rfl
  replace H := ifF (of_decide_eq_false h) H
  (repeat apply sq)
  apply CodeT.skip
  apply x3
  (repeat apply sq)
  apply rg
  apply R_fldP; rfl; rfl; rfl; rfl; rfl
  apply R_ldP; rfl; rfl; rfl; rfl; rfl; rfl
  apply R_fldP; rfl; rfl; rfl; rfl; rfl
  apply R_ldP; rfl; rfl; rfl; rfl; rfl; rfl
  apply R_neq; rfl; rfl; rfl; rfl
  apply dn
  apply x3
  (repeat apply sq)
  refine CodeT.cond rfl (fun h => ?_) (fun h => ?_)
  replace H := ifT (of_decide_eq_true h) H
  (repeat apply sq)
  apply rg
  apply R_asg; rfl; rfl; rfl
  apply dn
  apply x3
  apply CodeT.ret
  apply x1
  cases H
  apply x12
  exact RetIs.sc1 rfl
  replace H := ifF (of_decide_eq_false h) H
  (repeat apply sq)
  apply CodeT.skip
  apply x3
  (repeat apply sq)
  apply rg
  apply R_fldP; rfl; rfl; rfl; rfl; rfl
  apply R_ldP; rfl; rfl; rfl; rfl; rfl; rfl
  apply R_fldP; rfl; rfl; rfl; rfl; rfl
  apply R_ldP; rfl; rfl; rfl; rfl; rfl; rfl
  apply Run.op; (apply L_sneq; rfl; rfl; rfl); rfl; rfl
  apply dn
  apply x3
  (repeat apply sq)
  refine CodeT.cond rfl (fun h => ?_) (fun h => ?_)
  replace H := ifT (of_decide_eq_true h) H
  (repeat apply sq)
  apply rg
  apply R_asg; rfl; rfl; rfl
  apply dn
  apply x3
  apply CodeT.ret
  apply x1
  cases H
  apply x12
  exact RetIs.sc1 rfl
  replace H := ifF (of_decide_eq_false h) H
  (repeat apply sq)
  apply CodeT.skip
  apply x3
  (repeat apply sq)
  apply rg
  apply R_fldP; rfl; rfl; rfl; rfl; rfl
  apply R_ldP; rfl; rfl; rfl; rfl; rfl; rfl
  apply R_fldP; rfl; rfl; rfl; rfl; rfl
  apply R_ldP; rfl; rfl; rfl; rfl; rfl; rfl
  apply Run.op; (apply L_sneq; rfl; rfl; rfl); rfl; rfl
  apply dn
  apply x3
  (repeat apply sq)
  refine CodeT.cond rfl (fun h => ?_) (fun h => ?_)
  replace H := ifT (of_decide_eq_true h) H
  (repeat apply sq)
  apply rg
  apply R_asg; rfl; rfl; rfl
  apply dn
  apply x3
  apply CodeT.ret
  apply x1
  cases H
  apply x12
  exact RetIs.sc1 rfl
  replace H := ifF (of_decide_eq_false h) H
  (repeat apply sq)
  apply CodeT.skip
  apply x3
  (repeat apply sq)
  apply rg
  apply R_fldP; rfl; rfl; rfl; rfl; rfl
  apply R_ldPA; rfl; rfl; (first | exact seg_whole rfl | rfl); rfl; rfl; rfl; rfl; rfl
  apply R_fldP; rfl; rfl; rfl; rfl; rfl
  apply R_ldPA; rfl; rfl; (first | exact seg_whole rfl | rfl); rfl; rfl; rfl; rfl; rfl
  obtain ⟨r1, hr1, H⟩ := bindS H
  apply Run.op; (apply L_call; ((apply ArgsV.cons; (apply ArgV.val; rfl; rfl)); (apply ArgsV.cons; (apply ArgV.val; rfl; rfl)); (apply ArgsV.nil)); (exact m_laws_eqPose a0.fPose a1.fPose _ hr1); rfl; rfl; rfl); rfl; rfl
  apply R_not; rfl; rfl; rfl
  apply dn
  apply x3
  (repeat apply sq)
  refine CodeT.cond rfl (fun h => ?_) (fun h => ?_)
  replace H := ifFb (notT h) H
  (repeat apply sq)
  apply rg
  apply R_asg; rfl; rfl; rfl
  apply dn
  apply x3
  apply CodeT.ret
  apply x1
  cases H
  apply x12
  exact RetIs.sc1 rfl
  replace H := ifTb (notF h) H
  (repeat apply sq)
  apply CodeT.skip
  apply x3
  (repeat apply sq)
  apply rg
  apply R_fldP; rfl; rfl; rfl; rfl; rfl
  apply R_ldP; rfl; rfl; rfl; rfl; rfl; rfl
  apply R_fldP; rfl; rfl; rfl; rfl; rfl
  apply R_ldP; rfl; rfl; rfl; rfl; rfl; rfl
  apply R_neq; rfl; rfl; rfl; rfl
  apply dn
  apply x3
  (repeat apply sq)
  refine CodeT.cond rfl (fun h => ?_) (fun h => ?_)
  replace H := ifT (of_decide_eq_true h) H
  (repeat apply sq)
  apply rg
  apply R_asg; rfl; rfl; rfl
  apply dn
  apply x3
  apply CodeT.ret
  apply x1
  cases H
  apply x12
  exact RetIs.sc1 rfl
  replace H := ifF (of_decide_eq_false h) H
  (repeat apply sq)
  apply CodeT.skip
  apply x3
  (repeat apply sq)
  apply rg
  apply R_asg; rfl; rfl; rfl
  apply dn
  apply x3
  apply CodeT.ret
  cases H
  apply x12
  exact RetIs.sc1 rfl
theorem m_laws_eqFactorS (a0 : (List Factor)) (a1 : (List Factor)) (r : Bool) (H : laws_eqFactorS a0 a1 = some r) : Meets Try.prog 19 [.sl a0.length (a0.flatMap encFactor), .sl a1.length (a1.flatMap encFactor)] (.sc (.bool r)) true := by
  refine Meets.intro2 (N := 27) (rs := #[.tmp 4]) Try.func19 rfl rfl rfl rfl ?_
  intro Γ hio
  unfold laws_eqFactorS at H
  (repeat apply sq)
  apply rg
  apply R_asg; rfl; rfl; rfl
  apply dn
  apply x3
  (repeat apply sq)
  apply rg
  apply R_mov; rfl; rfl; rfl
  apply R_len; rfl; rfl; rfl
  apply R_mov; rfl; rfl; rfl
  apply R_len; rfl; rfl; rfl
  apply R_neq; rfl; rfl; rfl; rfl
  apply dn
  apply x3
  (repeat apply sq)
  refine CodeT.cond rfl (fun h => ?_) (fun h => ?_)
  replace H := ifT (of_decide_eq_true h) H
  (repeat apply sq)
  apply rg
  apply R_asg; rfl; rfl; rfl
  apply dn
  apply x3
  apply CodeT.ret
  apply x1
  cases H
  apply x12
  exact RetIs.sc1 rfl
  replace H := ifF (of_decide_eq_false h) H
  (repeat apply sq)
  apply CodeT.skip
  apply x3
  (repeat apply sq)
  apply rg
  apply R_asg; rfl; rfl; rfl
  apply dn
  apply x3
  (repeat apply sq)
  apply CodeT.block
  (repeat apply sq)
  obtain ⟨d8, hd8, H⟩ := bindS H
  refine CodeT.lloop (fun s => ⟨[(0, ⟨.sl a0.length (a0.flatMap encFactor), false⟩), (1, ⟨.sl a1.length (a1.flatMap encFactor), false⟩), (5, ⟨.sc (.int .i64 s), false⟩)], []⟩) (fun x e E => match x with | (.inl d) => XEnv Γ (.exit 0) ⟨[], []⟩ e E | (.inr d) => XRet Γ #[.tmp 4] (.sc (.bool d)) true e E) hd8 ?_ ?_ ?_
  apply el [] (io0 hio _) <;> rfl
  clear H hd8
  rintro v4 o H
  unfold laws_eqFactorS_L1 at H
  (repeat apply sq)
  apply rg
  apply R_mov; rfl; rfl; rfl
  apply R_mov; rfl; rfl; rfl
  apply R_len; rfl; rfl; rfl
  apply R_lss; rfl; rfl; rfl; rfl
  apply dn
  apply x3
  (repeat apply sq)
  refine CodeT.cond rfl (fun h => ?_) (fun h => ?_)
  replace H := ifT (of_decide_eq_true h) H
  (repeat apply sq)
  apply CodeT.skip
  apply x3
  (repeat apply sq)
  apply CodeT.block
  (repeat apply sq)
  apply rg
  apply R_mov; rfl; rfl; rfl
  apply R_mov; rfl; rfl; rfl
  obtain ⟨y5, hy5, H⟩ := bindS H
  apply Run.op; (apply L_ixS2; rfl; rfl; rfl; (exact hy5); (intro _; rfl); rfl); rfl; rfl
  apply Run.op; (apply L_ldIA; rfl; (first | exact take_whole rfl | rfl); rfl; (intro h; cases h); rfl; rfl); rfl; rfl
  apply R_mov; rfl; rfl; rfl
  apply R_mov; rfl; rfl; rfl
  obtain ⟨y6, hy6, H⟩ := bindS H
  apply Run.op; (apply L_ixS2; rfl; rfl; rfl; (exact hy6); (intro _; rfl); rfl); rfl; rfl
  apply Run.op; (apply L_ldIA; rfl; (first | exact take_whole rfl | rfl); rfl; (intro h; cases h); rfl; rfl); rfl; rfl
  obtain ⟨r7, hr7, H⟩ := bindS H
  apply Run.op; (apply L_call; ((apply ArgsV.cons; (apply ArgV.val; rfl; rfl)); (apply ArgsV.cons; (apply ArgV.val; rfl; rfl)); (apply ArgsV.nil)); (exact m_laws_eqFactor y5 y6 _ hr7); rfl; rfl; rfl); rfl; rfl
  apply R_not; rfl; rfl; rfl
  apply Run.done; refine ⟨fun _ => ⟨rfl, rfl⟩, ?_⟩
  apply x3
  refine CodeT.cond rfl (fun h => ?_) (fun h => ?_)
  replace H := ifFb (notT h) H
  (repeat apply sq)
  apply rg
  apply R_asg; rfl; rfl; rfl
  apply dn
  apply x3
  apply CodeT.ret
  apply x4
  apply x1
  obtain rfl := Option.some.inj H
  refine Ev.y2 ?_
  refine XRet.mk ?_
  exact RetIs.sc1 rfl
  replace H := ifTb (notF h) H
  (repeat apply sq)
  apply CodeT.skip
  apply x5
  apply x3
  apply rg
  apply R_mov; rfl; rfl; rfl
  apply R_add; rfl; rfl; rfl; rfl; rfl
  apply R_asg; rfl; rfl; rfl
  apply dn
  obtain rfl := Option.some.inj H
  refine Ev.y1 ?_
  apply el [] (io0 hio _) <;> rfl
  replace H := ifF (of_decide_eq_false h) H
  (repeat apply sq)
  apply CodeT.exit
  apply x2
  obtain rfl := Option.some.inj H
  refine Ev.y3 ?_
  refine XEnv.mk ?_
  apply el [] (io0 hio _) <;> rfl
  rcases d8 with (d9 | d11)
  intro e E' hX; obtain ⟨rfl, g10⟩ := XEnv.out hX
  refine x6 rfl ?_
  apply x3
  refine CodeT.weak g10 ?_
  (repeat apply sq)
  apply rg
  apply R_asg; rfl; rfl; rfl
  apply dn
  apply x3
  apply CodeT.ret
  cases H
  apply x12
  exact RetIs.sc1 rfl
  intro e E' hX; obtain ⟨rfl, g12⟩ := XRet.out hX
  apply x4
  apply x1
  cases H
  apply x12
  exact g12
theorem m_laws_markText (a0 : Int) (r : ByteArray) (H : laws_markText a0 = some r) : Meets Try.prog 78 [.sc (.int .i64 a0)] (.sc (.string r)) true := by
  refine Meets.intro2 (N := 20) (rs := #[.tmp 2]) Try.func78 rfl rfl rfl rfl ?_
  intro Γ hio
  unfold laws_markText at H
  (repeat apply sq)
  apply rg
  apply R_asg; rfl; rfl; rfl
  apply dn
  apply x3
  (repeat apply sq)
  apply rg
  apply R_mov; rfl; rfl; rfl
  apply R_leq; rfl; rfl; rfl; rfl
  apply dn
  apply x3
  (repeat apply sq)
  refine CodeT.cond rfl (fun h => ?_) (fun h => ?_)
  replace H := ifT (of_decide_eq_true h) H
  (repeat apply sq)
  apply rg
  apply R_asg; rfl; rfl; rfl
  apply dn
  apply x3
  apply CodeT.ret
  apply x1
  cases H
  apply x12
  exact RetIs.sc1 rfl
  replace H := ifF (of_decide_eq_false h) H
  (repeat apply sq)
  apply CodeT.skip
  apply x3
  (repeat apply sq)
  apply rg
  apply R_asg; rfl; rfl; rfl
  apply dn
  apply x3
  (repeat apply sq)
  apply CodeT.block
  (repeat apply sq)
  obtain ⟨d10, hd10, H⟩ := bindS H
  refine CodeT.lloop (fun s => ⟨[(0, ⟨.sc (.int .i64 s.1), false⟩), (3, ⟨.sc (.string s.2), false⟩)], []⟩) (fun d e E => XEnv Γ (.exit 0) ⟨[(3, ⟨.sc (.string d), false⟩)], []⟩ e E) hd10 ?_ ?_ ?_
  apply el [] (io0 hio _) <;> rfl
  clear H hd10
  rintro ⟨v4, v5⟩ o H
  unfold laws_markText_L1 at H
  (repeat apply sq)
  apply rg
  apply R_mov; rfl; rfl; rfl
  apply R_gtr; rfl; rfl; rfl; rfl
  apply dn
  apply x3
  (repeat apply sq)
  refine CodeT.cond rfl (fun h => ?_) (fun h => ?_)
  replace H := ifT (of_decide_eq_true h) H
  (repeat apply sq)
  apply CodeT.skip
  apply x3
  apply CodeT.block
  (repeat apply sq)
  apply rg
  apply R_mov; rfl; rfl; rfl
  apply Run.op; (apply L_rem; rfl; rfl; (intro h; cases h); rfl; rfl); rfl; rfl
  apply R_add; rfl; rfl; rfl; rfl; rfl
  obtain ⟨v6, hv6, H⟩ := bindS H
  apply Run.op; (apply L_conv; rfl; (exact letS hv6); rfl); rfl; rfl
  apply Run.op; (apply L_bs1; rfl; rfl; rfl; rfl; rfl; rfl; rfl; rfl); rfl; rfl
  apply Run.op; (apply L_convB1; rfl; (rw [← letS hv6]; exact u8_wrap _); rfl); rfl; rfl
  apply R_mov; rfl; rfl; rfl
  obtain ⟨_u, hs7, H⟩ := bindS H
  obtain ⟨v8, hv8, H⟩ := bindS H
  apply Run.op; (apply L_saddL; rfl; rfl; (exact chkS hs7); (exact hv8); rfl); rfl; rfl
  apply R_asg; rfl; rfl; rfl
  apply dn
  apply x3
  apply rg
  apply R_mov; rfl; rfl; rfl
  apply Run.op; (apply L_quo; rfl; rfl; (intro h; cases h); rfl; rfl); rfl; rfl
  apply R_asg; rfl; rfl; rfl
  apply dn
  apply x5
  obtain rfl := Option.some.inj H
  refine Ev.y1 ?_
  apply el [] (io0 hio _) <;> rfl
  replace H := ifF (of_decide_eq_false h) H
  (repeat apply sq)
  apply CodeT.exit
  apply x2
  obtain rfl := Option.some.inj H
  refine Ev.y3 ?_
  refine XEnv.mk ?_
  apply el [] (io0 hio _) <;> rfl
  skip
  intro e E' hX; obtain ⟨rfl, g11⟩ := XEnv.out hX
  refine x6 rfl ?_
  apply x3
  refine CodeT.weak g11 ?_
  (repeat apply sq)
  apply rg
  apply R_mov; rfl; rfl; rfl
  obtain ⟨_u, hs12, H⟩ := bindS H
  obtain ⟨v13, hv13, H⟩ := bindS H
  apply Run.op; (apply L_saddL; rfl; rfl; (exact chkS hs12); (exact hv13); rfl); rfl; rfl
  apply R_asg; rfl; rfl; rfl
  apply dn
  apply x3
  apply CodeT.ret
  cases H
  apply x12
  exact RetIs.sc1 rfl
theorem m_laws_markFactorS (a0 : (List Factor)) (a1 : Int) (r : (Int × (List Factor))) (H : laws_markFactorS a0 a1 = some r) : MeetsX Try.prog 20 [.ref 100000 8 0 a0.length, .sc (.int .i64 a1)] [⟨100000, a0.flatMap encFactor, r.2.flatMap encFactor⟩] (.sc (.int .i64 r.1)) true := by
  have H0 := H; clear H
  obtain ⟨r', H, H2⟩ := bindS H0; clear H0
  obtain ⟨_, hlen, H2⟩ := bindS H2
  obtain rfl := Option.some.inj H2
  have hlen := chkS hlen
  refine MeetsX.intro (N := 74) (rs := #[.tmp 4]) Try.func20 rfl rfl rfl rfl rfl (xo1 (nil_new (sz := 8) hlen (fun _ => rfl) (by decide))) (xo1 (allSc_flat (fun _ => rfl))) ?_
  clear hlen
  intro Γ hio
  unfold laws_markFactorS_raw at H
  (repeat apply sq)
  apply rg
  apply R_asg; rfl; rfl; rfl
  apply dn
  apply x3
  (repeat apply sq)
  apply rg
  apply R_asg; rfl; rfl; rfl
  apply dn
  apply x3
  (repeat apply sq)
  apply CodeT.block
  (repeat apply sq)
  obtain ⟨d65, hd65, H⟩ := bindS H
  refine CodeT.lloop (fun s => ⟨[(0, ⟨.ref 100000 8 0 s.2.2.length, false⟩), (1, ⟨.sc (.int .i64 s.1), false⟩), (5, ⟨.sc (.int .i64 s.2.1), false⟩)], [(100000, some ⟨s.2.2.flatMap encFactor, true, false⟩)]⟩) (fun d e E => XEnv Γ (.exit 0) ⟨[(1, ⟨.sc (.int .i64 d.1), false⟩)], [(100000, some ⟨d.2.flatMap encFactor, true, false⟩)]⟩ e E) hd65 ?_ ?_ ?_
  apply el [] (io0 hio _) <;> rfl
  clear H hd65
  rintro ⟨v31, v32, v33⟩ o H
  unfold laws_markFactorS_L1 at H
  (repeat apply sq)
  apply rg
  apply R_mov; rfl; rfl; rfl
  apply R_mov; rfl; rfl; rfl
  apply Run.op; (apply L_lenR; rfl; rfl; rfl); rfl; rfl
  apply R_lss; rfl; rfl; rfl; rfl
  apply dn
  apply x3
  (repeat apply sq)
  refine CodeT.cond rfl (fun h => ?_) (fun h => ?_)
  replace H := ifT (of_decide_eq_true h) H
  (repeat apply sq)
  apply CodeT.skip
  apply x3
  (repeat apply sq)
  apply CodeT.block
  (repeat apply sq)
  apply rg
  apply R_mov; rfl; rfl; rfl
  apply R_mov; rfl; rfl; rfl
  apply R_mov; rfl; rfl; rfl
  obtain ⟨y34, hy34, H⟩ := bindS H
  apply Run.op; (apply L_ixR2; rfl; rfl; rfl; (exact hy34); rfl; rfl); rfl; rfl
  apply R_fldP; rfl; rfl; (exact row_pos (sz := 8) hy34 (fun _ => rfl) (by decide)); rfl; rfl
  obtain ⟨v35, hv35, H⟩ := bindS H
  have hl36 := setI_lenS hv35
  apply Run.op; (apply L_st; rfl; rfl; rfl; rfl; rfl; (intro h; cases h); (exact row_ble (sz := 8) (o := 0) (n := 1) hy34 (fun _ => rfl) (by decide)); (exact row_fldL (sz := 8) (o := 0) (n := 1) hv35 hy34 (fun _ => rfl) (by decide) rfl)); rfl; rfl
  apply dn
  apply x3
  (repeat apply sq)
  refine CodeT.weak (Ent.relen (k := 0) (n' := v35.length) rfl (by first | (simp only [setI_len]; done) | (simp only [setI_len]; omega) | omega)) ?_
  apply rg
  apply R_mov; rfl; rfl; rfl
  apply R_add; rfl; rfl; rfl; rfl; rfl
  apply R_asg; rfl; rfl; rfl
  apply dn
  apply x3
  (repeat apply sq)
  apply rg
  apply R_mov; rfl; rfl; rfl
  apply R_mov; rfl; rfl; rfl
  apply R_mov; rfl; rfl; rfl
  obtain ⟨y37, hy37, H⟩ := bindS H
  apply Run.op; (apply L_ixR2; rfl; rfl; rfl; (exact hy37); rfl; rfl); rfl; rfl
  apply R_fldP; rfl; rfl; (exact row_pos (sz := 8) hy37 (fun _ => rfl) (by decide)); rfl; rfl
  obtain ⟨v38, hv38, H⟩ := bindS H
  have hl39 := setI_lenS hv38
  apply Run.op; (apply L_st; rfl; rfl; rfl; rfl; rfl; (intro h; cases h); (exact row_ble (sz := 8) (o := 1) (n := 1) hy37 (fun _ => rfl) (by decide)); (exact row_fldL (sz := 8) (o := 1) (n := 1) hv38 hy37 (fun _ => rfl) (by decide) rfl)); rfl; rfl
  apply dn
  apply x3
  (repeat apply sq)
  refine CodeT.weak (Ent.relen (k := 0) (n' := v38.length) rfl (by first | (simp only [setI_len]; done) | (simp only [setI_len]; omega) | omega)) ?_
  apply rg
  apply R_mov; rfl; rfl; rfl
  obtain ⟨v40, hv40, H⟩ := bindS H
  apply R_add; rfl; rfl; (exact letS hv40); rfl; rfl
  apply R_asg; rfl; rfl; rfl
  apply dn
  apply x3
  (repeat apply sq)
  apply rg
  apply R_mov; rfl; rfl; rfl
  apply R_mov; rfl; rfl; rfl
  apply R_mov; rfl; rfl; rfl
  obtain ⟨r41, hr41, H⟩ := bindS H
  apply Run.op; (apply L_call; ((apply ArgsV.cons; (apply ArgV.val; rfl; rfl)); (apply ArgsV.nil)); (exact m_laws_markText v40 _ hr41); rfl; rfl; rfl); rfl; rfl
  obtain ⟨y42, hy42, H⟩ := bindS H
  apply Run.op; (apply L_ixR2; rfl; rfl; rfl; (exact hy42); rfl; rfl); rfl; rfl
  apply R_fldP; rfl; rfl; (exact row_pos (sz := 8) hy42 (fun _ => rfl) (by decide)); rfl; rfl
  obtain ⟨v43, hv43, H⟩ := bindS H
  have hl44 := setI_lenS hv43
  apply Run.op; (apply L_st; rfl; rfl; rfl; rfl; rfl; (intro h; cases h); (exact row_ble (sz := 8) (o := 2) (n := 1) hy42 (fun _ => rfl) (by decide)); (exact row_fldL (sz := 8) (o := 2) (n := 1) hv43 hy42 (fun _ => rfl) (by decide) rfl)); rfl; rfl
  apply dn
  apply x3
  (repeat apply sq)
  refine CodeT.weak (Ent.relen (k := 0) (n' := v43.length) rfl (by first | (simp only [setI_len]; done) | (simp only [setI_len]; omega) | omega)) ?_
  apply rg
  apply R_mov; rfl; rfl; rfl
  apply R_add; rfl; rfl; rfl; rfl; rfl
  apply R_asg; rfl; rfl; rfl
  apply dn
  apply x3
  (repeat apply sq)
  apply rg
  apply R_mov; rfl; rfl; rfl
  apply R_mov; rfl; rfl; rfl
  apply R_mov; rfl; rfl; rfl
  obtain ⟨r45, hr45, H⟩ := bindS H
  apply Run.op; (apply L_call; ((apply ArgsV.cons; (apply ArgV.val; rfl; rfl)); (apply ArgsV.nil)); (exact m_laws_markText (IntKind.i64.wrap (v40 + 1)) _ hr45); rfl; rfl; rfl); rfl; rfl
  obtain ⟨y46, hy46, H⟩ := bindS H
  apply Run.op; (apply L_ixR2; rfl; rfl; rfl; (exact hy46); rfl; rfl); rfl; rfl
  apply R_fldP; rfl; rfl; (exact row_pos (sz := 8) hy46 (fun _ => rfl) (by decide)); rfl; rfl
  obtain ⟨v47, hv47, H⟩ := bindS H
  have hl48 := setI_lenS hv47
  apply Run.op; (apply L_st; rfl; rfl; rfl; rfl; rfl; (intro h; cases h); (exact row_ble (sz := 8) (o := 3) (n := 1) hy46 (fun _ => rfl) (by decide)); (exact row_fldL (sz := 8) (o := 3) (n := 1) hv47 hy46 (fun _ => rfl) (by decide) rfl)); rfl; rfl
  apply dn
  apply x3
  (repeat apply sq)
  refine CodeT.weak (Ent.relen (k := 0) (n' := v47.length) rfl (by first | (simp only [setI_len]; done) | (simp only [setI_len]; omega) | omega)) ?_
  apply rg
  apply R_mov; rfl; rfl; rfl
  obtain ⟨v49, hv49, H⟩ := bindS H
  apply R_add; rfl; rfl; (exact letS hv49); rfl; rfl
  apply R_asg; rfl; rfl; rfl
  apply dn
  apply x3
  (repeat apply sq)
  apply rg
  apply R_mov; rfl; rfl; rfl
  apply R_mov; rfl; rfl; rfl
  apply R_mov; rfl; rfl; rfl
  obtain ⟨y50, hy50, H⟩ := bindS H
  apply Run.op; (apply L_ixR2; rfl; rfl; rfl; (exact hy50); rfl; rfl); rfl; rfl
  apply R_fldP; rfl; rfl; (exact row_pos (sz := 8) hy50 (fun _ => rfl) (by decide)); rfl; rfl
  apply R_fldP; rfl; rfl; (exact row_pos (sz := 8) hy50 (fun _ => rfl) (by decide)); rfl; rfl
  obtain ⟨v51, hv51, H⟩ := bindS H
  have hl52 := setI_lenS hv51
  apply Run.op; (apply L_st; rfl; rfl; rfl; rfl; rfl; (intro h; cases h); (exact row_ble (sz := 8) (o := 4) (n := 1) hy50 (fun _ => rfl) (by decide)); (exact row_fldL (sz := 8) (o := 4) (n := 1) hv51 hy50 (fun _ => rfl) (by decide) rfl)); rfl; rfl
  apply dn
  apply x3
  (repeat apply sq)
  refine CodeT.weak (Ent.relen (k := 0) (n' := v51.length) rfl (by first | (simp only [setI_len]; done) | (simp only [setI_len]; omega) | omega)) ?_
  apply rg
  apply R_mov; rfl; rfl; rfl
  apply R_add; rfl; rfl; rfl; rfl; rfl
  apply R_asg; rfl; rfl; rfl
  apply dn
  apply x3
  (repeat apply sq)
  apply rg
  apply R_mov; rfl; rfl; rfl
  apply R_mov; rfl; rfl; rfl
  apply R_mov; rfl; rfl; rfl
  obtain ⟨y53, hy53, H⟩ := bindS H
  apply Run.op; (apply L_ixR2; rfl; rfl; rfl; (exact hy53); rfl; rfl); rfl; rfl
  apply R_fldP; rfl; rfl; (exact row_pos (sz := 8) hy53 (fun _ => rfl) (by decide)); rfl; rfl
  apply R_fldP; rfl; rfl; (exact row_pos (sz := 8) hy53 (fun _ => rfl) (by decide)); rfl; rfl
  obtain ⟨v54, hv54, H⟩ := bindS H
  have hl55 := setI_lenS hv54
  apply Run.op; (apply L_st; rfl; rfl; rfl; rfl; rfl; (intro h; cases h); (exact row_ble (sz := 8) (o := 5) (n := 1) hy53 (fun _ => rfl) (by decide)); (exact row_fldL (sz := 8) (o := 5) (n := 1) hv54 hy53 (fun _ => rfl) (by decide) rfl)); rfl; rfl
  apply dn
  apply x3
  (repeat apply sq)
  refine CodeT.weak (Ent.relen (k := 0) (n' := v54.length) rfl (by first | (simp only [setI_len]; done) | (simp only [setI_len]; omega) | omega)) ?_
  apply rg
  apply R_mov; rfl; rfl; rfl
  obtain ⟨v56, hv56, H⟩ := bindS H
  apply R_add; rfl; rfl; (exact letS hv56); rfl; rfl
  apply R_asg; rfl; rfl; rfl
  apply dn
  apply x3
  (repeat apply sq)
  apply rg
  apply R_mov; rfl; rfl; rfl
  apply R_mov; rfl; rfl; rfl
  apply R_mov; rfl; rfl; rfl
  obtain ⟨y57, hy57, H⟩ := bindS H
  apply Run.op; (apply L_ixR2; rfl; rfl; rfl; (exact hy57); rfl; rfl); rfl; rfl
  apply R_fldP; rfl; rfl; (exact row_pos (sz := 8) hy57 (fun _ => rfl) (by decide)); rfl; rfl
  apply R_fldP; rfl; rfl; (exact row_pos (sz := 8) hy57 (fun _ => rfl) (by decide)); rfl; rfl
  obtain ⟨v58, hv58, H⟩ := bindS H
  have hl59 := setI_lenS hv58
  apply Run.op; (apply L_st; rfl; rfl; rfl; rfl; rfl; (intro h; cases h); (exact row_ble (sz := 8) (o := 6) (n := 1) hy57 (fun _ => rfl) (by decide)); (exact row_fldL (sz := 8) (o := 6) (n := 1) hv58 hy57 (fun _ => rfl) (by decide) rfl)); rfl; rfl
  apply dn
  apply x3
  (repeat apply sq)
  refine CodeT.weak (Ent.relen (k := 0) (n' := v58.length) rfl (by first | (simp only [setI_len]; done) | (simp only [setI_len]; omega) | omega)) ?_
  apply rg
  apply R_mov; rfl; rfl; rfl
  apply R_add; rfl; rfl; rfl; rfl; rfl
  apply R_asg; rfl; rfl; rfl
  apply dn
  apply x3
  (repeat apply sq)
  apply rg
  apply R_mov; rfl; rfl; rfl
  apply R_mov; rfl; rfl; rfl
  apply R_mov; rfl; rfl; rfl
  obtain ⟨y60, hy60, H⟩ := bindS H
  apply Run.op; (apply L_ixR2; rfl; rfl; rfl; (exact hy60); rfl; rfl); rfl; rfl
  apply R_fldP; rfl; rfl; (exact row_pos (sz := 8) hy60 (fun _ => rfl) (by decide)); rfl; rfl
  obtain ⟨v61, hv61, H⟩ := bindS H
  have hl62 := setI_lenS hv61
  apply Run.op; (apply L_st; rfl; rfl; rfl; rfl; rfl; (intro h; cases h); (exact row_ble (sz := 8) (o := 7) (n := 1) hy60 (fun _ => rfl) (by decide)); (exact row_fldL (sz := 8) (o := 7) (n := 1) hv61 hy60 (fun _ => rfl) (by decide) rfl)); rfl; rfl
  apply dn
  apply x3
  refine CodeT.weak (Ent.relen (k := 0) (n' := v61.length) rfl (by first | (simp only [setI_len]; done) | (simp only [setI_len]; omega) | omega)) ?_
  apply rg
  apply R_mov; rfl; rfl; rfl
  obtain ⟨v63, hv63, H⟩ := bindS H
  apply R_add; rfl; rfl; (exact letS hv63); rfl; rfl
  apply R_asg; rfl; rfl; rfl
  apply dn
  apply x5
  apply x3
  apply rg
  apply R_mov; rfl; rfl; rfl
  apply R_add; rfl; rfl; rfl; rfl; rfl
  apply R_asg; rfl; rfl; rfl
  apply dn
  obtain rfl := Option.some.inj H
  refine Ev.y1 ?_
  apply el [] (io0 hio _) <;> rfl
  replace H := ifF (of_decide_eq_false h) H
  (repeat apply sq)
  apply CodeT.exit
  apply x2
  obtain rfl := Option.some.inj H
  refine Ev.y3 ?_
  refine XEnv.mk ?_
  apply el [] (io0 hio _) <;> rfl
  skip
  intro e E' hX; obtain ⟨rfl, g66⟩ := XEnv.out hX
  refine x6 rfl ?_
  apply x3
  refine CodeT.weak g66 ?_
  (repeat apply sq)
  apply rg
  apply R_mov; rfl; rfl; rfl
  apply R_asg; rfl; rfl; rfl
  apply dn
  apply x3
  apply CodeT.ret
  cases H
  apply z12
  exact RetX.mk (RetIs.sc1 rfl) (xo1 ⟨_, rfl⟩)
theorem mk_laws_markFactorS (a0 : (List Factor)) (a1 : Int) (r : (Int × (List Factor))) (H : laws_markFactorS a0 a1 = some r) : MarkC Try.prog 20 (.rw 8 a0.length (a0.flatMap encFactor)) (.rw 8 r.2.length (r.2.flatMap encFactor)) (.int .i64 a1) (.int .i64 r.1) := by
  have h := m_laws_markFactorS a0 a1 r H
  have hl := len_laws_markFactorS a0 a1 r H
  rw [hl]; exact MarkC.ofX h (allSc_flat (fun _ => rfl))
theorem m_laws_markIntS (a0 : (List Int)) (a1 : Int) (r : (Int × (List Int))) (H : laws_markIntS a0 a1 = some r) : MeetsX Try.prog 21 [.ref 100000 1 0 a0.length, .sc (.int .i64 a1)] [⟨100000, a0.flatMap (encI .i64), r.2.flatMap (encI .i64)⟩] (.sc (.int .i64 r.1)) true := by
  have H0 := H; clear H
  obtain ⟨r', H, H2⟩ := bindS H0; clear H0
  obtain ⟨_, hlen, H2⟩ := bindS H2
  obtain rfl := Option.some.inj H2
  have hlen := chkS hlen
  refine MeetsX.intro (N := 19) (rs := #[.tmp 4]) Try.func21 rfl rfl rfl rfl rfl (xo1 (nil_new (sz := 1) hlen (fun _ => rfl) (by decide))) (xo1 (allSc_flat (fun _ => rfl))) ?_
  clear hlen
  intro Γ hio
  unfold laws_markIntS_raw at H
  (repeat apply sq)
  apply rg
  apply R_asg; rfl; rfl; rfl
  apply dn
  apply x3
  (repeat apply sq)
  apply rg
  apply R_asg; rfl; rfl; rfl
  apply dn
  apply x3
  (repeat apply sq)
  apply CodeT.block
  (repeat apply sq)
  obtain ⟨d11, hd11, H⟩ := bindS H
  refine CodeT.lloop (fun s => ⟨[(0, ⟨.ref 100000 1 0 s.2.2.length, false⟩), (1, ⟨.sc (.int .i64 s.1), false⟩), (5, ⟨.sc (.int .i64 s.2.1), false⟩)], [(100000, some ⟨s.2.2.flatMap (encI .i64), true, false⟩)]⟩) (fun d e E => XEnv Γ (.exit 0) ⟨[(1, ⟨.sc (.int .i64 d.1), false⟩)], [(100000, some ⟨d.2.flatMap (encI .i64), true, false⟩)]⟩ e E) hd11 ?_ ?_ ?_
  apply el [] (io0 hio _) <;> rfl
  clear H hd11
  rintro ⟨v4, v5, v6⟩ o H
  unfold laws_markIntS_L1 at H
  (repeat apply sq)
  apply rg
  apply R_mov; rfl; rfl; rfl
  apply R_mov; rfl; rfl; rfl
  apply Run.op; (apply L_lenR; rfl; rfl; rfl); rfl; rfl
  apply R_lss; rfl; rfl; rfl; rfl
  apply dn
  apply x3
  (repeat apply sq)
  refine CodeT.cond rfl (fun h => ?_) (fun h => ?_)
  replace H := ifT (of_decide_eq_true h) H
  (repeat apply sq)
  apply CodeT.skip
  apply x3
  (repeat apply sq)
  apply CodeT.block
  (repeat apply sq)
  apply rg
  apply R_mov; rfl; rfl; rfl
  apply R_mov; rfl; rfl; rfl
  apply R_mov; rfl; rfl; rfl
  obtain ⟨y7, hy7, H⟩ := bindS H
  apply Run.op; (apply L_ixR2; rfl; rfl; rfl; (exact hy7); rfl; rfl); rfl; rfl
  obtain ⟨v8, hv8, H⟩ := bindS H
  have hl9 := setI_lenS hv8
  apply Run.op; (apply L_st; rfl; rfl; rfl; rfl; rfl; (intro h; cases h); (exact row_ble0 (sz := 1) (n := 1) hy7 (fun _ => rfl) (by decide)); (exact row_stL (sz := 1) hv8 hy7 (fun _ => rfl) rfl)); rfl; rfl
  apply dn
  apply x3
  refine CodeT.weak (Ent.relen (k := 0) (n' := v8.length) rfl (by first | (simp only [setI_len]; done) | (simp only [setI_len]; omega) | omega)) ?_
  apply rg
  apply R_mov; rfl; rfl; rfl
  apply R_add; rfl; rfl; rfl; rfl; rfl
  apply R_asg; rfl; rfl; rfl
  apply dn
  apply x5
  apply x3
  apply rg
  apply R_mov; rfl; rfl; rfl
  apply R_add; rfl; rfl; rfl; rfl; rfl
  apply R_asg; rfl; rfl; rfl
  apply dn
  obtain rfl := Option.some.inj H
  refine Ev.y1 ?_
  apply el [] (io0 hio _) <;> rfl
  replace H := ifF (of_decide_eq_false h) H
  (repeat apply sq)
  apply CodeT.exit
  apply x2
  obtain rfl := Option.some.inj H
  refine Ev.y3 ?_
  refine XEnv.mk ?_
  apply el [] (io0 hio _) <;> rfl
  skip
  intro e E' hX; obtain ⟨rfl, g12⟩ := XEnv.out hX
  refine x6 rfl ?_
  apply x3
  refine CodeT.weak g12 ?_
  (repeat apply sq)
  apply rg
  apply R_mov; rfl; rfl; rfl
  apply R_asg; rfl; rfl; rfl
  apply dn
  apply x3
  apply CodeT.ret
  cases H
  apply z12
  exact RetX.mk (RetIs.sc1 rfl) (xo1 ⟨_, rfl⟩)
theorem mk_laws_markIntS (a0 : (List Int)) (a1 : Int) (r : (Int × (List Int))) (H : laws_markIntS a0 a1 = some r) : MarkC Try.prog 21 (.rw 1 a0.length (a0.flatMap (encI .i64))) (.rw 1 r.2.length (r.2.flatMap (encI .i64))) (.int .i64 a1) (.int .i64 r.1) := by
  have h := m_laws_markIntS a0 a1 r H
  have hl := len_laws_markIntS a0 a1 r H
  rw [hl]; exact MarkC.ofX h (allSc_flat (fun _ => rfl))
theorem mk_laws_markBigInt (a0 : BigInt) (a1 : Int) (r : (Int × BigInt)) (H : laws_markBigInt a0 a1 = some r) : MarkC Try.prog 157 (.agg (encWBigInt a0)) (.agg (encWBigInt r.2)) (.int .i64 a1) (.int .i64 r.1) := by
  refine MarkC.introS (N := 10) (rs := #[.tmp 4]) Try.func157 rfl rfl rfl rfl rfl rfl ?_
  intro Γ vs hvs hio hle
  have hvs : vs.length = 2 := hvs
  obtain ⟨u0, vs1, rfl, hv1⟩ := lenS hvs
  obtain ⟨u1, vs2, rfl, hv2⟩ := lenS hv1
  obtain rfl := len0 hv2
  unfold laws_markBigInt at H
  (repeat apply sq)
  apply rg
  apply Run.op; (apply L_boxT; rfl; rfl; rfl; (exact io1 hio _); rfl); rfl; rfl
  apply R_asg; rfl; rfl; rfl
  apply dn
  apply x3
  (repeat apply sq)
  apply rg
  apply R_fldP; rfl; rfl; rfl; rfl; rfl
  apply Run.op; (apply Local.forget Forg.was; apply L_ldP; rfl; rfl; rfl; (exact .inr rfl); rfl); rfl; rfl
  apply R_mov; rfl; rfl; rfl
  obtain ⟨r1, hr1, H⟩ := bindS H
  apply Run.op; (apply L_callM (l := 2) (off := 1) (m := 1) (p := .rw 1 a0.fMag.length (a0.fMag.flatMap (encI .i64))) (p' := .rw 1 r1.2.length (r1.2.flatMap (encI .i64))) (cells' := [.was u0 (.sc (.bool a0.fNeg)), .was u1 (.rw 1 r1.2.length (r1.2.flatMap (encI .i64)))]); rfl; rfl; rfl; rfl; rfl; rfl; (exact MCut.one); (exact mk_laws_markIntS a0.fMag a1 _ hr1); rfl; (exact hle); rfl); rfl; rfl
  apply R_asg; rfl; rfl; rfl
  apply dn
  apply x3
  (repeat apply sq)
  apply rg
  apply R_mov; rfl; rfl; rfl
  apply R_asg; rfl; rfl; rfl
  apply dn
  apply x3
  apply CodeT.ret
  cases H
  apply zm2
  exact RetM.mk 2 (RetIs.sc1 rfl) rfl
theorem mk_laws_markRat (a0 : Rat) (a1 : Int) (r : (Int × Rat)) (H : laws_markRat a0 a1 = some r) : MarkC Try.prog 118 (.agg (encWRat a0)) (.agg (encWRat r.2)) (.int .i64 a1) (.int .i64 r.1) := by
  refine MarkC.introS (N := 14) (rs := #[.tmp 4]) Try.func118 rfl rfl rfl rfl rfl rfl ?_
  intro Γ vs hvs hio hle
  have hvs : vs.length = 3 := hvs
  obtain ⟨u0, vs1, rfl, hv1⟩ := lenS hvs
  obtain ⟨u1, vs2, rfl, hv2⟩ := lenS hv1
  obtain ⟨u2, vs3, rfl, hv3⟩ := lenS hv2
  obtain rfl := len0 hv3
  unfold laws_markRat at H
  (repeat apply sq)
  apply rg
  apply Run.op; (apply L_boxT; rfl; rfl; rfl; (exact io1 hio _); rfl); rfl; rfl
  apply R_asg; rfl; rfl; rfl
  apply dn
  apply x3
  (repeat apply sq)
  apply rg
  apply R_fldP; rfl; rfl; rfl; rfl; rfl
  apply Run.op; (apply Local.forget (Forg.agg (ws := [.was u0 (.sc (.bool a0.fNum.fNeg)), .was u1 (.rw 1 a0.fNum.fMag.length (a0.fNum.fMag.flatMap (encI .i64)))]) rfl); apply L_ldPA; rfl; rfl; rfl; rfl; (intro h; cases h); (exact .inr rfl); rfl); rfl; rfl
  apply R_mov; rfl; rfl; rfl
  obtain ⟨r1, hr1, H⟩ := bindS H
  apply Run.op; (apply L_callM (l := 2) (off := 0) (m := 2) (p := .agg (encWBigInt a0.fNum)) (p' := .agg (encWBigInt r1.2)) (cells' := [.was u0 (.sc (.bool r1.2.fNeg)), .was u1 (.rw 1 r1.2.fMag.length (r1.2.fMag.flatMap (encI .i64))), .was u2 (.rw 1 a0.fDen.length (a0.fDen.flatMap (encI .i64)))]); rfl; rfl; rfl; rfl; rfl; rfl; (exact MCut.agg rfl rfl); (exact mk_laws_markBigInt a0.fNum a1 _ hr1); rfl; (exact hle); rfl); rfl; rfl
  apply R_asg; rfl; rfl; rfl
  apply dn
  apply x3
  (repeat apply sq)
  apply rg
  apply R_fldP; rfl; rfl; rfl; rfl; rfl
  apply Run.op; (apply Local.forget Forg.was; apply L_ldP; rfl; rfl; rfl; (exact .inr rfl); rfl); rfl; rfl
  apply R_mov; rfl; rfl; rfl
  obtain ⟨r2, hr2, H⟩ := bindS H
  apply Run.op; (apply L_callM (l := 2) (off := 2) (m := 1) (p := .rw 1 a0.fDen.length (a0.fDen.flatMap (encI .i64))) (p' := .rw 1 r2.2.length (r2.2.flatMap (encI .i64))) (cells' := [.was u0 (.sc (.bool r1.2.fNeg)), .was u1 (.rw 1 r1.2.fMag.length (r1.2.fMag.flatMap (encI .i64))), .was u2 (.rw 1 r2.2.length (r2.2.flatMap (encI .i64)))]); rfl; rfl; rfl; rfl; rfl; rfl; (exact MCut.one); (exact mk_laws_markIntS a0.fDen r1.1 _ hr2); rfl; (exact hle); rfl); rfl; rfl
  apply R_asg; rfl; rfl; rfl
  apply dn
  apply x3
  (repeat apply sq)
  apply rg
  apply R_mov; rfl; rfl; rfl
  apply R_asg; rfl; rfl; rfl
  apply dn
  apply x3
  apply CodeT.ret
  cases H
  apply zm2
  exact RetM.mk 2 (RetIs.sc1 rfl) rfl
theorem mk_laws_markLink (a0 : Link) (a1 : Int) (r : (Int × Link)) (H : laws_markLink a0 a1 = some r) : MarkC Try.prog 64 (.agg (encWLink a0)) (.agg (encWLink r.2)) (.int .i64 a1) (.int .i64 r.1) := by
  refine MarkC.introS (N := 18) (rs := #[.tmp 4]) Try.func64 rfl rfl rfl rfl rfl rfl ?_
  intro Γ vs hvs hio hle
  have hvs : vs.length = 11 := hvs
  obtain ⟨u0, vs1, rfl, hv1⟩ := lenS hvs
  obtain ⟨u1, vs2, rfl, hv2⟩ := lenS hv1
  obtain ⟨u2, vs3, rfl, hv3⟩ := lenS hv2
  obtain ⟨u3, vs4, rfl, hv4⟩ := lenS hv3
  obtain ⟨u4, vs5, rfl, hv5⟩ := lenS hv4
  obtain ⟨u5, vs6, rfl, hv6⟩ := lenS hv5
  obtain ⟨u6, vs7, rfl, hv7⟩ := lenS hv6
  obtain ⟨u7, vs8, rfl, hv8⟩ := lenS hv7
  obtain ⟨u8, vs9, rfl, hv9⟩ := lenS hv8
  obtain ⟨u9, vs10, rfl, hv10⟩ := lenS hv9
  obtain ⟨u10, vs11, rfl, hv11⟩ := lenS hv10
  obtain rfl := len0 hv11
  unfold laws_markLink at H
  (repeat apply sq)
  apply rg
  apply Run.op; (apply L_boxT; rfl; rfl; rfl; (exact io1 hio _); rfl); rfl; rfl
  apply R_asg; rfl; rfl; rfl
  apply dn
  apply x3
  (repeat apply sq)
  apply rg
  apply R_fldP; rfl; rfl; rfl; rfl; rfl
  apply Run.op; (apply Local.forget (Forg.agg (ws := [.was u2 (.sc (.bool a0.fWeight.fNum.fNeg)), .was u3 (.rw 1 a0.fWeight.fNum.fMag.length (a0.fWeight.fNum.fMag.flatMap (encI .i64))), .was u4 (.rw 1 a0.fWeight.fDen.length (a0.fWeight.fDen.flatMap (encI .i64)))]) rfl); apply L_ldPA; rfl; rfl; rfl; rfl; (intro h; cases h); (exact .inr rfl); rfl); rfl; rfl
  apply R_mov; rfl; rfl; rfl
  obtain ⟨r1, hr1, H⟩ := bindS H
  apply Run.op; (apply L_callM (l := 2) (off := 2) (m := 3) (p := .agg (encWRat a0.fWeight)) (p' := .agg (encWRat r1.2)) (cells' := [.was u0 (.sc (.int .i64 a0.fA)), .was u1 (.sc (.int .i64 a0.fB)), .was u2 (.sc (.bool r1.2.fNum.fNeg)), .was u3 (.rw 1 r1.2.fNum.fMag.length (r1.2.fNum.fMag.flatMap (encI .i64))), .was u4 (.rw 1 r1.2.fDen.length (r1.2.fDen.flatMap (encI .i64))), .was u5 (.sc (.bool a0.fDX.fNum.fNeg)), .was u6 (.rw 1 a0.fDX.fNum.fMag.length (a0.fDX.fNum.fMag.flatMap (encI .i64))), .was u7 (.rw 1 a0.fDX.fDen.length (a0.fDX.fDen.flatMap (encI .i64))), .was u8 (.sc (.bool a0.fDY.fNum.fNeg)), .was u9 (.rw 1 a0.fDY.fNum.fMag.length (a0.fDY.fNum.fMag.flatMap (encI .i64))), .was u10 (.rw 1 a0.fDY.fDen.length (a0.fDY.fDen.flatMap (encI .i64)))]); rfl; rfl; rfl; rfl; rfl; rfl; (exact MCut.agg rfl rfl); (exact mk_laws_markRat a0.fWeight a1 _ hr1); rfl; (exact hle); rfl); rfl; rfl
  apply R_asg; rfl; rfl; rfl
  apply dn
  apply x3
  (repeat apply sq)
  apply rg
  apply R_fldP; rfl; rfl; rfl; rfl; rfl
  apply Run.op; (apply Local.forget (Forg.agg (ws := [.was u5 (.sc (.bool a0.fDX.fNum.fNeg)), .was u6 (.rw 1 a0.fDX.fNum.fMag.length (a0.fDX.fNum.fMag.flatMap (encI .i64))), .was u7 (.rw 1 a0.fDX.fDen.length (a0.fDX.fDen.flatMap (encI .i64)))]) rfl); apply L_ldPA; rfl; rfl; rfl; rfl; (intro h; cases h); (exact .inr rfl); rfl); rfl; rfl
  apply R_mov; rfl; rfl; rfl
  obtain ⟨r2, hr2, H⟩ := bindS H
  apply Run.op; (apply L_callM (l := 2) (off := 5) (m := 3) (p := .agg (encWRat a0.fDX)) (p' := .agg (encWRat r2.2)) (cells' := [.was u0 (.sc (.int .i64 a0.fA)), .was u1 (.sc (.int .i64 a0.fB)), .was u2 (.sc (.bool r1.2.fNum.fNeg)), .was u3 (.rw 1 r1.2.fNum.fMag.length (r1.2.fNum.fMag.flatMap (encI .i64))), .was u4 (.rw 1 r1.2.fDen.length (r1.2.fDen.flatMap (encI .i64))), .was u5 (.sc (.bool r2.2.fNum.fNeg)), .was u6 (.rw 1 r2.2.fNum.fMag.length (r2.2.fNum.fMag.flatMap (encI .i64))), .was u7 (.rw 1 r2.2.fDen.length (r2.2.fDen.flatMap (encI .i64))), .was u8 (.sc (.bool a0.fDY.fNum.fNeg)), .was u9 (.rw 1 a0.fDY.fNum.fMag.length (a0.fDY.fNum.fMag.flatMap (encI .i64))), .was u10 (.rw 1 a0.fDY.fDen.length (a0.fDY.fDen.flatMap (encI .i64)))]); rfl; rfl; rfl; rfl; rfl; rfl; (exact MCut.agg rfl rfl); (exact mk_laws_markRat a0.fDX r1.1 _ hr2); rfl; (exact hle); rfl); rfl; rfl
  apply R_asg; rfl; rfl; rfl
  apply dn
  apply x3
  (repeat apply sq)
  apply rg
  apply R_fldP; rfl; rfl; rfl; rfl; rfl
  apply Run.op; (apply Local.forget (Forg.agg (ws := [.was u8 (.sc (.bool a0.fDY.fNum.fNeg)), .was u9 (.rw 1 a0.fDY.fNum.fMag.length (a0.fDY.fNum.fMag.flatMap (encI .i64))), .was u10 (.rw 1 a0.fDY.fDen.length (a0.fDY.fDen.flatMap (encI .i64)))]) rfl); apply L_ldPA; rfl; rfl; rfl; rfl; (intro h; cases h); (exact .inr rfl); rfl); rfl; rfl
  apply R_mov; rfl; rfl; rfl
  obtain ⟨r3, hr3, H⟩ := bindS H
  apply Run.op; (apply L_callM (l := 2) (off := 8) (m := 3) (p := .agg (encWRat a0.fDY)) (p' := .agg (encWRat r3.2)) (cells' := [.was u0 (.sc (.int .i64 a0.fA)), .was u1 (.sc (.int .i64 a0.fB)), .was u2 (.sc (.bool r1.2.fNum.fNeg)), .was u3 (.rw 1 r1.2.fNum.fMag.length (r1.2.fNum.fMag.flatMap (encI .i64))), .was u4 (.rw 1 r1.2.fDen.length (r1.2.fDen.flatMap (encI .i64))), .was u5 (.sc (.bool r2.2.fNum.fNeg)), .was u6 (.rw 1 r2.2.fNum.fMag.length (r2.2.fNum.fMag.flatMap (encI .i64))), .was u7 (.rw 1 r2.2.fDen.length (r2.2.fDen.flatMap (encI .i64))), .was u8 (.sc (.bool r3.2.fNum.fNeg)), .was u9 (.rw 1 r3.2.fNum.fMag.length (r3.2.fNum.fMag.flatMap (encI .i64))), .was u10 (.rw 1 r3.2.fDen.length (r3.2.fDen.flatMap (encI .i64)))]); rfl; rfl; rfl; rfl; rfl; rfl; (exact MCut.agg rfl rfl); (exact mk_laws_markRat a0.fDY r2.1 _ hr3); rfl; (exact hle); rfl); rfl; rfl
  apply R_asg; rfl; rfl; rfl
  apply dn
  apply x3
  (repeat apply sq)
  apply rg
  apply R_mov; rfl; rfl; rfl
  apply R_asg; rfl; rfl; rfl
  apply dn
  apply x3
  apply CodeT.ret
  cases H
  apply zm2
  exact RetM.mk 2 (RetIs.sc1 rfl) rfl
theorem m_laws_heldIntS (a0 : (List Int)) (a1 : Int) (r : Int) (H : laws_heldIntS a0 a1 = some r) : Meets Try.prog 22 [.sl a0.length (a0.flatMap (encI .i64)), .sc (.int .i64 a1)] (.sc (.int .i64 r)) true := by
  refine Meets.intro2 (N := 21) (rs := #[.tmp 4]) Try.func22 rfl rfl rfl rfl ?_
  intro Γ hio
  unfold laws_heldIntS at H
  (repeat apply sq)
  apply rg
  apply R_asg; rfl; rfl; rfl
  apply dn
  apply x3
  (repeat apply sq)
  apply rg
  apply R_asg; rfl; rfl; rfl
  apply dn
  apply x3
  (repeat apply sq)
  apply CodeT.block
  (repeat apply sq)
  obtain ⟨d5, hd5, H⟩ := bindS H
  refine CodeT.lloop (fun s => ⟨[(0, ⟨.sl a0.length (a0.flatMap (encI .i64)), false⟩), (1, ⟨.sc (.int .i64 s.1), false⟩), (5, ⟨.sc (.int .i64 s.2), false⟩)], []⟩) (fun x e E => match x with | (.inl d) => XEnv Γ (.exit 0) ⟨[(1, ⟨.sc (.int .i64 d), false⟩)], []⟩ e E | (.inr d) => XRet Γ #[.tmp 4] (.sc (.int .i64 d)) true e E) hd5 ?_ ?_ ?_
  apply el [] (io0 hio _) <;> rfl
  clear H hd5
  rintro ⟨v2, v3⟩ o H
  unfold laws_heldIntS_L1 at H
  (repeat apply sq)
  apply rg
  apply R_mov; rfl; rfl; rfl
  apply R_mov; rfl; rfl; rfl
  apply R_len; rfl; rfl; rfl
  apply R_lss; rfl; rfl; rfl; rfl
  apply dn
  apply x3
  (repeat apply sq)
  refine CodeT.cond rfl (fun h => ?_) (fun h => ?_)
  replace H := ifT (of_decide_eq_true h) H
  (repeat apply sq)
  apply CodeT.skip
  apply x3
  (repeat apply sq)
  apply CodeT.block
  (repeat apply sq)
  apply rg
  apply R_mov; rfl; rfl; rfl
  apply R_mov; rfl; rfl; rfl
  obtain ⟨y4, hy4, H⟩ := bindS H
  apply Run.op; (apply L_ixS2; rfl; rfl; rfl; (exact hy4); (intro _; rfl); rfl); rfl; rfl
  apply R_ldI; rfl; rfl; rfl; rfl; rfl
  apply R_mov; rfl; rfl; rfl
  apply R_neq; rfl; rfl; rfl; rfl
  apply dn
  apply x3
  (repeat apply sq)
  refine CodeT.cond rfl (fun h => ?_) (fun h => ?_)
  replace H := ifT (of_decide_eq_true h) H
  (repeat apply sq)
  apply rg
  apply R_asg; rfl; rfl; rfl
  apply dn
  apply x3
  apply CodeT.ret
  apply x1
  apply x4
  apply x1
  obtain rfl := Option.some.inj H
  refine Ev.y2 ?_
  refine XRet.mk ?_
  exact RetIs.sc1 rfl
  replace H := ifF (of_decide_eq_false h) H
  (repeat apply sq)
  apply CodeT.skip
  apply x3
  apply rg
  apply R_mov; rfl; rfl; rfl
  apply R_add; rfl; rfl; rfl; rfl; rfl
  apply R_asg; rfl; rfl; rfl
  apply dn
  apply x5
  apply x3
  apply rg
  apply R_mov; rfl; rfl; rfl
  apply R_add; rfl; rfl; rfl; rfl; rfl
  apply R_asg; rfl; rfl; rfl
  apply dn
  obtain rfl := Option.some.inj H
  refine Ev.y1 ?_
  apply el [] (io0 hio _) <;> rfl
  replace H := ifF (of_decide_eq_false h) H
  (repeat apply sq)
  apply CodeT.exit
  apply x2
  obtain rfl := Option.some.inj H
  refine Ev.y3 ?_
  refine XEnv.mk ?_
  apply el [] (io0 hio _) <;> rfl
  rcases d5 with (d6 | d8)
  intro e E' hX; obtain ⟨rfl, g7⟩ := XEnv.out hX
  refine x6 rfl ?_
  apply x3
  refine CodeT.weak g7 ?_
  (repeat apply sq)
  apply rg
  apply R_mov; rfl; rfl; rfl
  apply R_asg; rfl; rfl; rfl
  apply dn
  apply x3
  apply CodeT.ret
  cases H
  apply x12
  exact RetIs.sc1 rfl
  intro e E' hX; obtain ⟨rfl, g9⟩ := XRet.out hX
  apply x4
  apply x1
  cases H
  apply x12
  exact g9
theorem m_laws_heldBigInt (a0 : BigInt) (a1 : Int) (r : Int) (H : laws_heldBigInt a0 a1 = some r) : Meets Try.prog 158 [.agg (encBigInt a0), .sc (.int .i64 a1)] (.sc (.int .i64 r)) true := by
  refine Meets.intro2 (N := 12) (rs := #[.tmp 4]) Try.func158 rfl rfl rfl rfl ?_
  intro Γ hio
  unfold laws_heldBigInt at H
  (repeat apply sq)
  apply rg
  apply Run.op; (apply L_box false; rfl; rfl; rfl; (exact io1 hio _); rfl); rfl; rfl
  apply R_asg; rfl; rfl; rfl
  apply dn
  apply x3
  (repeat apply sq)
  apply rg
  apply R_fldP; rfl; rfl; rfl; rfl; rfl
  apply R_ldP; rfl; rfl; rfl; rfl; rfl; rfl
  apply R_mov; rfl; rfl; rfl
  obtain ⟨r1, hr1, H⟩ := bindS H
  apply Run.op; (apply L_call; ((apply ArgsV.cons; (apply ArgV.val; rfl; rfl)); (apply ArgsV.cons; (apply ArgV.val; rfl; rfl)); (apply ArgsV.nil)); (exact m_laws_heldIntS a0.fMag a1 _ hr1); rfl; rfl; rfl); rfl; rfl
  apply R_asg; rfl; rfl; rfl
  apply dn
  apply x3
  (repeat apply sq)
  apply rg
  apply R_mov; rfl; rfl; rfl
  apply R_lss; rfl; rfl; rfl; rfl
  apply dn
  apply x3
  (repeat apply sq)
  refine CodeT.cond rfl (fun h => ?_) (fun h => ?_)
  replace H := ifT (of_decide_eq_true h) H
  (repeat apply sq)
  apply rg
  apply R_asg; rfl; rfl; rfl
  apply dn
  apply x3
  apply CodeT.ret
  apply x1
  cases H
  apply x12
  exact RetIs.sc1 rfl
  replace H := ifF (of_decide_eq_false h) H
  (repeat apply sq)
  apply CodeT.skip
  apply x3
  (repeat apply sq)
  apply rg
  apply R_mov; rfl; rfl; rfl
  apply R_asg; rfl; rfl; rfl
  apply dn
  apply x3
  apply CodeT.ret
  cases H
  apply x12
  exact RetIs.sc1 rfl
theorem m_laws_heldRat (a0 : Rat) (a1 : Int) (r : Int) (H : laws_heldRat a0 a1 = some r) : Meets Try.prog 119 [.agg (encRat a0), .sc (.int .i64 a1)] (.sc (.int .i64 r)) true := by
  refine Meets.intro2 (N := 18) (rs := #[.tmp 4]) Try.func119 rfl rfl rfl rfl ?_
  intro Γ hio
  unfold laws_heldRat at H
  (repeat apply sq)
  apply rg
  apply Run.op; (apply L_box false; rfl; rfl; rfl; (exact io1 hio _); rfl); rfl; rfl
  apply R_asg; rfl; rfl; rfl
  apply dn
  apply x3
  (repeat apply sq)
  apply rg
  apply R_fldP; rfl; rfl; rfl; rfl; rfl
  apply R_ldPA; rfl; rfl; (first | exact seg_whole rfl | rfl); rfl; rfl; rfl; rfl; rfl
  apply R_mov; rfl; rfl; rfl
  obtain ⟨r1, hr1, H⟩ := bindS H
  apply Run.op; (apply L_call; ((apply ArgsV.cons; (apply ArgV.val; rfl; rfl)); (apply ArgsV.cons; (apply ArgV.val; rfl; rfl)); (apply ArgsV.nil)); (exact m_laws_heldBigInt a0.fNum a1 _ hr1); rfl; rfl; rfl); rfl; rfl
  apply R_asg; rfl; rfl; rfl
  apply dn
  apply x3
  (repeat apply sq)
  apply rg
  apply R_mov; rfl; rfl; rfl
  apply R_lss; rfl; rfl; rfl; rfl
  apply dn
  apply x3
  (repeat apply sq)
  refine CodeT.cond rfl (fun h => ?_) (fun h => ?_)
  replace H := ifT (of_decide_eq_true h) H
  (repeat apply sq)
  apply rg
  apply R_asg; rfl; rfl; rfl
  apply dn
  apply x3
  apply CodeT.ret
  apply x1
  cases H
  apply x12
  exact RetIs.sc1 rfl
  replace H := ifF (of_decide_eq_false h) H
  (repeat apply sq)
  apply CodeT.skip
  apply x3
  (repeat apply sq)
  apply rg
  apply R_fldP; rfl; rfl; rfl; rfl; rfl
  apply R_ldP; rfl; rfl; rfl; rfl; rfl; rfl
  apply R_mov; rfl; rfl; rfl
  obtain ⟨r2, hr2, H⟩ := bindS H
  apply Run.op; (apply L_call; ((apply ArgsV.cons; (apply ArgV.val; rfl; rfl)); (apply ArgsV.cons; (apply ArgV.val; rfl; rfl)); (apply ArgsV.nil)); (exact m_laws_heldIntS a0.fDen r1 _ hr2); rfl; rfl; rfl); rfl; rfl
  apply R_asg; rfl; rfl; rfl
  apply dn
  apply x3
  (repeat apply sq)
  apply rg
  apply R_mov; rfl; rfl; rfl
  apply R_lss; rfl; rfl; rfl; rfl
  apply dn
  apply x3
  (repeat apply sq)
  refine CodeT.cond rfl (fun h => ?_) (fun h => ?_)
  replace H := ifT (of_decide_eq_true h) H
  (repeat apply sq)
  apply rg
  apply R_asg; rfl; rfl; rfl
  apply dn
  apply x3
  apply CodeT.ret
  apply x1
  cases H
  apply x12
  exact RetIs.sc1 rfl
  replace H := ifF (of_decide_eq_false h) H
  (repeat apply sq)
  apply CodeT.skip
  apply x3
  (repeat apply sq)
  apply rg
  apply R_mov; rfl; rfl; rfl
  apply R_asg; rfl; rfl; rfl
  apply dn
  apply x3
  apply CodeT.ret
  cases H
  apply x12
  exact RetIs.sc1 rfl
theorem m_laws_heldLink (a0 : Link) (a1 : Int) (r : Int) (H : laws_heldLink a0 a1 = some r) : Meets Try.prog 65 [.agg (encLink a0), .sc (.int .i64 a1)] (.sc (.int .i64 r)) true := by
  refine Meets.intro2 (N := 24) (rs := #[.tmp 4]) Try.func65 rfl rfl rfl rfl ?_
  intro Γ hio
  unfold laws_heldLink at H
  (repeat apply sq)
  apply rg
  apply Run.op; (apply L_box false; rfl; rfl; rfl; (exact io1 hio _); rfl); rfl; rfl
  apply R_asg; rfl; rfl; rfl
  apply dn
  apply x3
  (repeat apply sq)
  apply rg
  apply R_fldP; rfl; rfl; rfl; rfl; rfl
  apply R_ldPA; rfl; rfl; (first | exact seg_whole rfl | rfl); rfl; rfl; rfl; rfl; rfl
  apply R_mov; rfl; rfl; rfl
  obtain ⟨r1, hr1, H⟩ := bindS H
  apply Run.op; (apply L_call; ((apply ArgsV.cons; (apply ArgV.val; rfl; rfl)); (apply ArgsV.cons; (apply ArgV.val; rfl; rfl)); (apply ArgsV.nil)); (exact m_laws_heldRat a0.fWeight a1 _ hr1); rfl; rfl; rfl); rfl; rfl
  apply R_asg; rfl; rfl; rfl
  apply dn
  apply x3
  (repeat apply sq)
  apply rg
  apply R_mov; rfl; rfl; rfl
  apply R_lss; rfl; rfl; rfl; rfl
  apply dn
  apply x3
  (repeat apply sq)
  refine CodeT.cond rfl (fun h => ?_) (fun h => ?_)
  replace H := ifT (of_decide_eq_true h) H
  (repeat apply sq)
  apply rg
  apply R_asg; rfl; rfl; rfl
  apply dn
  apply x3
  apply CodeT.ret
  apply x1
  cases H
  apply x12
  exact RetIs.sc1 rfl
  replace H := ifF (of_decide_eq_false h) H
  (repeat apply sq)
  apply CodeT.skip
  apply x3
  (repeat apply sq)
  apply rg
  apply R_fldP; rfl; rfl; rfl; rfl; rfl
  apply R_ldPA; rfl; rfl; (first | exact seg_whole rfl | rfl); rfl; rfl; rfl; rfl; rfl
  apply R_mov; rfl; rfl; rfl
  obtain ⟨r2, hr2, H⟩ := bindS H
  apply Run.op; (apply L_call; ((apply ArgsV.cons; (apply ArgV.val; rfl; rfl)); (apply ArgsV.cons; (apply ArgV.val; rfl; rfl)); (apply ArgsV.nil)); (exact m_laws_heldRat a0.fDX r1 _ hr2); rfl; rfl; rfl); rfl; rfl
  apply R_asg; rfl; rfl; rfl
  apply dn
  apply x3
  (repeat apply sq)
  apply rg
  apply R_mov; rfl; rfl; rfl
  apply R_lss; rfl; rfl; rfl; rfl
  apply dn
  apply x3
  (repeat apply sq)
  refine CodeT.cond rfl (fun h => ?_) (fun h => ?_)
  replace H := ifT (of_decide_eq_true h) H
  (repeat apply sq)
  apply rg
  apply R_asg; rfl; rfl; rfl
  apply dn
  apply x3
  apply CodeT.ret
  apply x1
  cases H
  apply x12
  exact RetIs.sc1 rfl
  replace H := ifF (of_decide_eq_false h) H
  (repeat apply sq)
  apply CodeT.skip
  apply x3
  (repeat apply sq)
  apply rg
  apply R_fldP; rfl; rfl; rfl; rfl; rfl
  apply R_ldPA; rfl; rfl; (first | exact seg_whole rfl | rfl); rfl; rfl; rfl; rfl; rfl
  apply R_mov; rfl; rfl; rfl
  obtain ⟨r3, hr3, H⟩ := bindS H
  apply Run.op; (apply L_call; ((apply ArgsV.cons; (apply ArgV.val; rfl; rfl)); (apply ArgsV.cons; (apply ArgV.val; rfl; rfl)); (apply ArgsV.nil)); (exact m_laws_heldRat a0.fDY r2 _ hr3); rfl; rfl; rfl); rfl; rfl
  apply R_asg; rfl; rfl; rfl
  apply dn
  apply x3
  (repeat apply sq)
  apply rg
  apply R_mov; rfl; rfl; rfl
  apply R_lss; rfl; rfl; rfl; rfl
  apply dn
  apply x3
  (repeat apply sq)
  refine CodeT.cond rfl (fun h => ?_) (fun h => ?_)
  replace H := ifT (of_decide_eq_true h) H
  (repeat apply sq)
  apply rg
  apply R_asg; rfl; rfl; rfl
  apply dn
  apply x3
  apply CodeT.ret
  apply x1
  cases H
  apply x12
  exact RetIs.sc1 rfl
  replace H := ifF (of_decide_eq_false h) H
  (repeat apply sq)
  apply CodeT.skip
  apply x3
  (repeat apply sq)
  apply rg
  apply R_mov; rfl; rfl; rfl
  apply R_asg; rfl; rfl; rfl
  apply dn
  apply x3
  apply CodeT.ret
  cases H
  apply x12
  exact RetIs.sc1 rfl
theorem m_laws_FnExactLinkOfFactor (a0 : (List Factor)) (a1 : Factor) (r : Bool) (H : laws_FnExactLinkOfFactor a0 a1 = some r) : Meets Try.prog 12 [.sl a0.length (a0.flatMap encFactor), .agg (encFactor a1)] (.sc (.bool r)) true := by
  refine Meets.introW2 (N := 109) (rs := #[.tmp 4]) Try.func12 rfl rfl rfl rfl rfl ?_
  intro Γ c0 c1 hio hle hi0 old0 old1
  unfold laws_FnExactLinkOfFactor at H
  (repeat apply sq)
  apply rg
  apply Run.op; (apply L_box false; rfl; rfl; rfl; (exact io1 hio _); rfl); rfl; rfl
  apply R_asg; rfl; rfl; rfl
  apply dn
  apply x3
  (repeat apply sq)
  apply rg
  apply R_asg; rfl; rfl; rfl
  apply dn
  apply x3
  (repeat apply sq)
  apply rg
  apply R_mov; rfl; rfl; rfl
  apply R_mov; rfl; rfl; rfl
  obtain ⟨r1, hr1, H⟩ := bindS H
  apply Run.op; (apply L_call; ((apply ArgsV.cons; (apply ArgV.val; rfl; rfl)); (apply ArgsV.cons; (apply ArgV.val; rfl; rfl)); (apply ArgsV.nil)); (exact m_laws_szFactorS a0 1048576 _ hr1); rfl; rfl; rfl); rfl; rfl
  apply R_asg; rfl; rfl; rfl
  apply dn
  apply x3
  (repeat apply sq)
  apply rg
  apply R_mov; rfl; rfl; rfl
  apply R_lss; rfl; rfl; rfl; rfl
  apply dn
  apply x3
  (repeat apply sq)
  refine CodeT.cond rfl (fun h => ?_) (fun h => ?_)
  replace H := ifT (of_decide_eq_true h) H
  (repeat apply sq)
  apply rg
  apply R_asg; rfl; rfl; rfl
  apply dn
  apply x3
  apply CodeT.ret
  apply x1
  cases H
  apply x12
  exact RetIs.sc1 rfl
  replace H := ifF (of_decide_eq_false h) H
  (repeat apply sq)
  apply CodeT.skip
  apply x3
  (repeat apply sq)
  apply rg
  apply R_ldPA; rfl; rfl; (first | exact seg_whole rfl | rfl); rfl; rfl; rfl; rfl; rfl
  apply R_mov; rfl; rfl; rfl
  obtain ⟨r2, hr2, H⟩ := bindS H
  apply Run.op; (apply L_call; ((apply ArgsV.cons; (apply ArgV.val; rfl; rfl)); (apply ArgsV.cons; (apply ArgV.val; rfl; rfl)); (apply ArgsV.nil)); (exact m_laws_szFactor a1 r1 _ hr2); rfl; rfl; rfl); rfl; rfl
  apply R_asg; rfl; rfl; rfl
  apply dn
  apply x3
  (repeat apply sq)
  apply rg
  apply R_mov; rfl; rfl; rfl
  apply R_lss; rfl; rfl; rfl; rfl
  apply dn
  apply x3
  (repeat apply sq)
  refine CodeT.cond rfl (fun h => ?_) (fun h => ?_)
  replace H := ifT (of_decide_eq_true h) H
  (repeat apply sq)
  apply rg
  apply R_asg; rfl; rfl; rfl
  apply dn
  apply x3
  apply CodeT.ret
  apply x1
  cases H
  apply x12
  exact RetIs.sc1 rfl
  replace H := ifF (of_decide_eq_false h) H
  (repeat apply sq)
  apply CodeT.skip
  apply x3
  (repeat apply sq)
  apply CodeT.regionX 6 7 PPm
  apply R_mov; rfl; rfl; rfl
  obtain ⟨r3, hr3, H⟩ := bindS H
  apply Run.op; (apply L_callW; ((apply ArgsV.cons; (apply ArgV.val; rfl; rfl)); (apply ArgsV.nil)); (exact m_laws_toFactorS a0 _ hr3); (exact io1 hio _); rfl); rfl; rfl
  apply R_ldPA; rfl; rfl; (first | exact seg_whole rfl | rfl); rfl; rfl; rfl; rfl; rfl
  obtain ⟨r4, hr4, H⟩ := bindS H
  apply Run.op; (apply L_call; ((apply ArgsV.cons; (apply ArgV.val; rfl; rfl)); (apply ArgsV.nil)); (exact m_laws_toFactor a1 _ hr4); rfl; rfl; rfl); rfl; rfl
  obtain ⟨r5, hr5, H⟩ := bindS H
  apply Run.op; (apply L_call; ((apply ArgsV.cons; (apply ArgV.ref; rfl; rfl; (first | exact Nat.le_of_eq (flat_len (fun _ => rfl)) | exact Nat.le_of_ble_eq_true rfl))); (apply ArgsV.cons; (apply ArgV.val; rfl; rfl)); (apply ArgsV.nil)); (exact m_spec_LinkOfFactor r3 r4 _ hr5); rfl; rfl; rfl); rfl; rfl
  apply R_movT; rfl; rfl; rfl; rfl
  apply Run.op; (apply L_extT; rfl; rfl; rfl; rfl; rfl); rfl; rfl
  apply Run.op; (apply L_extR; rfl; rfl; rfl); rfl; rfl
  apply Run.op; (apply L_alloc false; (exact io1 hio _); rfl); rfl; rfl
  apply Run.op; (apply L_stT (cells' := (encWLink r5.1)); rfl; rfl; rfl; rfl; rfl; rfl; (intro h; cases h); rfl; (first | exact splice_whole rfl | rfl)); rfl; rfl
  apply R_asg; rfl; rfl; rfl
  apply Run.done; refine ⟨⟨rfl, rfl, XOk.intro rfl rfl rfl rfl rfl rfl rfl rfl (by apply L_extR <;> rfl)⟩, ?_⟩
  apply x3
  (repeat apply sq)
  apply rg
  apply R_mov; rfl; rfl; rfl
  obtain ⟨r6, hr6, H⟩ := bindS H
  apply Run.op; (apply L_callW; ((apply ArgsV.cons; (apply ArgV.val; rfl; rfl)); (apply ArgsV.nil)); (exact m_laws_toFactorS a0 _ hr6); (exact io1 hio _); rfl); rfl; rfl
  apply R_asg; rfl; rfl; rfl
  apply dn
  apply x3
  (repeat apply sq)
  apply rg
  apply R_mov; rfl; rfl; rfl
  apply R_ldPA; rfl; rfl; (first | exact seg_whole rfl | rfl); rfl; rfl; rfl; rfl; rfl
  obtain ⟨r7, hr7, H⟩ := bindS H
  apply Run.op; (apply L_call; ((apply ArgsV.cons; (apply ArgV.val; rfl; rfl)); (apply ArgsV.nil)); (exact m_laws_toFactor a1 _ hr7); rfl; rfl; rfl); rfl; rfl
  obtain ⟨r8, hr8, H⟩ := bindS H
  apply Run.op; (apply L_call; ((apply ArgsV.cons; (apply ArgV.ref; rfl; rfl; (first | exact Nat.le_of_eq (flat_len (fun _ => rfl)) | exact Nat.le_of_ble_eq_true rfl))); (apply ArgsV.cons; (apply ArgV.val; rfl; rfl)); (apply ArgsV.nil)); (exact m_impl_LinkOfFactor r6 r7 _ hr8); rfl; rfl; rfl); rfl; rfl
  apply R_movT; rfl; rfl; rfl; rfl
  apply Run.op; (apply L_extT; rfl; rfl; rfl; rfl; rfl); rfl; rfl
  apply Run.op; (apply L_extR; rfl; rfl; rfl); rfl; rfl
  apply Run.op; (apply L_alloc false; (exact io1 hio _); rfl); rfl; rfl
  apply Run.op; (apply L_stT (cells' := (encWLink r8.1)); rfl; rfl; rfl; rfl; rfl; rfl; (intro h; cases h); rfl; (first | exact splice_whole rfl | rfl)); rfl; rfl
  apply R_asg; rfl; rfl; rfl
  apply dn
  apply x3
  (repeat apply sq)
  obtain ⟨d11, hd11, H⟩ := bindS H
  refine CodeT.lcut (x := d11) (fun d e E => XEnv Γ .normal ⟨[(0, ⟨.was c0 (.sl a0.length (a0.flatMap encFactor)), false⟩), (3, ⟨.ptr 3 0, false⟩), (6, ⟨.ptr 6 0, false⟩), (7, ⟨.sc (.bool r5.2), false⟩), (8, ⟨.ref 508 8 0 r6.length, false⟩), (9, ⟨.ptr 9 0, false⟩), (10, ⟨.sc (.bool r8.2), false⟩), (51, ⟨.sc (.bool d), false⟩)], [(3, some ⟨(encFactor a1), true, false⟩), (6, some ⟨(encWLink r5.1), true, false⟩), (9, some ⟨(encWLink r8.1), true, false⟩), (508, some ⟨r6.flatMap encFactor, true, false⟩)]⟩ e E) ?_ ?_
  clear H; have H := hd11; clear hd11
  apply rg
  apply Run.op; (apply Local.soft (Soft.agg (softLink _)); apply L_ldPA; rfl; rfl; (first | exact seg_whole rfl | rfl); rfl; (intro h; cases h); (first | exact .inl rfl | exact .inr rfl); rfl); rfl; rfl
  apply Run.op; (apply Local.soft (Soft.agg (softLink _)); apply L_ldPA; rfl; rfl; (first | exact seg_whole rfl | rfl); rfl; (intro h; cases h); (first | exact .inl rfl | exact .inr rfl); rfl); rfl; rfl
  obtain ⟨r9, hr9, H⟩ := bindS H
  apply R_bool; (apply L_call; ((apply ArgsV.cons; (apply ArgV.val; rfl; rfl)); (apply ArgsV.cons; (apply ArgV.val; rfl; rfl)); (apply ArgsV.nil)); (exact m_laws_eqLink r8.1 r5.1 _ hr9); rfl; rfl; rfl); rfl
  intro h; replace H := ifTb h H
  apply R_not; rfl; rfl; rfl
  apply R_mov; rfl; rfl; rfl
  apply R_mov; rfl; rfl; rfl
  apply R_mov; rfl; rfl; rfl
  apply Run.op; (apply L_bneq; rfl; rfl; rfl); rfl; rfl
  apply R_pickF; rfl; rfl; rfl; rfl
  apply dn
  obtain rfl := Option.some.inj H
  refine Ev.y4 ?_
  refine XEnv.mk ?_
  apply el [(508, 35)] (io0 hio _) <;> rfl
  intro h; replace H := ifFb h H
  apply R_not; rfl; rfl; rfl
  apply R_mov; rfl; rfl; rfl
  apply Run.skip; rfl
  apply Run.skip; rfl
  apply Run.skip; rfl
  apply R_pickT; rfl; rfl; rfl; rfl
  apply dn
  obtain rfl := Option.some.inj H
  refine Ev.y4 ?_
  refine XEnv.mk ?_
  apply el [(508, 35)] (io0 hio _) <;> rfl
  intro e E' hX; obtain ⟨rfl, g12⟩ := XEnv.out hX
  apply x3
  refine CodeT.weak g12 ?_
  (repeat apply sq)
  refine CodeT.cond rfl (fun h => ?_) (fun h => ?_)
  replace H := ifTb h H
  (repeat apply sq)
  apply rg
  apply R_asg; rfl; rfl; rfl
  apply dn
  apply x3
  apply CodeT.ret
  apply x1
  cases H
  apply x12
  exact RetIs.sc1 rfl
  replace H := ifFb h H
  (repeat apply sq)
  apply CodeT.skip
  apply x3
  (repeat apply sq)
  apply rg
  apply R_mov; rfl; rfl; rfl
  apply R_mov; rfl; rfl; rfl
  obtain ⟨r13, hr13, H⟩ := bindS H
  apply Run.op; (apply L_callW; ((apply ArgsV.cons; (apply ArgV.val; rfl; rfl)); (apply ArgsV.nil)); (exact m_laws_toFactorS a0 _ hr13); (exact io1 hio _); rfl); rfl; rfl
  obtain ⟨r14, hr14, H⟩ := bindS H
  apply Run.op; (apply L_call; ((apply ArgsV.cons; (apply ArgV.ref; rfl; rfl; (first | exact Nat.le_of_eq (flat_len (fun _ => rfl)) | exact Nat.le_of_ble_eq_true rfl))); (apply ArgsV.cons; (apply ArgV.ref; rfl; rfl; (first | exact Nat.le_of_eq (flat_len (fun _ => rfl)) | exact Nat.le_of_ble_eq_true rfl))); (apply ArgsV.nil)); (exact m_laws_eqFactorS r6 r13 _ hr14); rfl; rfl; rfl); rfl; rfl
  apply R_not; rfl; rfl; rfl
  apply dn
  apply x3
  (repeat apply sq)
  refine CodeT.cond rfl (fun h => ?_) (fun h => ?_)
  replace H := ifFb (notT h) H
  (repeat apply sq)
  apply rg
  apply R_asg; rfl; rfl; rfl
  apply dn
  apply x3
  apply CodeT.ret
  apply x1
  cases H
  apply x12
  exact RetIs.sc1 rfl
  replace H := ifTb (notF h) H
  (repeat apply sq)
  apply CodeT.skip
  apply x3
  (repeat apply sq)
  apply rg
  apply R_asg; rfl; rfl; rfl
  apply dn
  apply x3
  (repeat apply sq)
  apply rg
  apply R_mov; rfl; rfl; rfl
  apply R_mov; rfl; rfl; rfl
  obtain ⟨r15, hr15, H⟩ := bindS H
  have hl16 := len_laws_markFactorS r6 1 _ hr15
  apply Run.op; (apply L_callX [(100000, 508)]; ((apply ArgsX.cons; (apply ArgX.io (p := .ref 100000 8 0 r6.length); rfl)); (apply ArgsX.cons; (apply ArgX.val; (apply ArgV.val; rfl; rfl); rfl)); (apply ArgsX.nil)); (exact m_laws_markFactorS r6 1 _ hr15); ((apply ObsX.cons; rfl; (exact allSc_flat (fun _ => rfl))); (apply ObsX.nil)); rfl; rfl; rfl; rfl; rfl); rfl; rfl
  apply R_asg; rfl; rfl; rfl
  apply dn
  apply x3
  (repeat apply sq)
  obtain ⟨d19, hd19, H⟩ := bindS H
  refine CodeT.lcut (x := d19) (fun d e E => XEnv Γ .normal ⟨[(0, ⟨.was c0 (.sl a0.length (a0.flatMap encFactor)), false⟩), (3, ⟨.ptr 3 0, false⟩), (6, ⟨.ptr 6 0, false⟩), (7, ⟨.sc (.bool r5.2), false⟩), (9, ⟨.ptr 9 0, false⟩), (72, ⟨.sc (.bool d), false⟩)], [(3, some ⟨(encFactor a1), true, false⟩), (6, some ⟨(encWLink r5.1), true, false⟩), (9, some ⟨(encWLink r8.1), true, false⟩)]⟩ e E) ?_ ?_
  clear H; have H := hd19; clear hd19
  apply rg
  apply R_mov; rfl; rfl; rfl
  apply R_dec; (apply L_lss; rfl; rfl; rfl); rfl
  intro h; replace H := ifT h H
  apply R_mov; rfl; rfl; rfl
  apply Run.skip; rfl
  apply Run.skip; rfl
  apply Run.skip; rfl
  apply Run.skip; rfl
  apply R_pickT; rfl; rfl; rfl; rfl
  apply R_mov; rfl; rfl; rfl
  apply Run.skip; rfl
  apply Run.skip; rfl
  apply Run.skip; rfl
  apply R_pickT; rfl; rfl; rfl; rfl
  apply dn
  obtain rfl := Option.some.inj H
  refine Ev.y4 ?_
  refine XEnv.mk ?_
  apply el [] (io0 hio _) <;> rfl
  intro h; replace H := ifF h H
  apply R_mov; rfl; rfl; rfl
  apply Run.op; (apply Local.soft (Soft.agg (softLink _)); apply L_ldPA; rfl; rfl; (first | exact seg_whole rfl | rfl); rfl; (intro h; cases h); (first | exact .inl rfl | exact .inr rfl); rfl); rfl; rfl
  apply Run.op; (apply Local.soft (Soft.agg (softLink _)); apply L_ldPA; rfl; rfl; (first | exact seg_whole rfl | rfl); rfl; (intro h; cases h); (first | exact .inl rfl | exact .inr rfl); rfl); rfl; rfl
  obtain ⟨r17, hr17, H⟩ := bindS H
  apply R_bool; (apply L_call; ((apply ArgsV.cons; (apply ArgV.val; rfl; rfl)); (apply ArgsV.cons; (apply ArgV.val; rfl; rfl)); (apply ArgsV.nil)); (exact m_laws_eqLink r8.1 r5.1 _ hr17); rfl; rfl; rfl); rfl
  intro h; replace H := ifTb h H
  apply R_not; rfl; rfl; rfl
  apply R_pickF; rfl; rfl; rfl; rfl
  apply R_mov; rfl; rfl; rfl
  apply R_mov; rfl; rfl; rfl
  apply R_mov; rfl; rfl; rfl
  apply Run.op; (apply L_bneq; rfl; rfl; rfl); rfl; rfl
  apply R_pickF; rfl; rfl; rfl; rfl
  apply dn
  obtain rfl := Option.some.inj H
  refine Ev.y4 ?_
  refine XEnv.mk ?_
  apply el [] (io0 hio _) <;> rfl
  intro h; replace H := ifFb h H
  apply R_not; rfl; rfl; rfl
  apply R_pickF; rfl; rfl; rfl; rfl
  apply R_mov; rfl; rfl; rfl
  apply Run.skip; rfl
  apply Run.skip; rfl
  apply Run.skip; rfl
  apply R_pickT; rfl; rfl; rfl; rfl
  apply dn
  obtain rfl := Option.some.inj H
  refine Ev.y4 ?_
  refine XEnv.mk ?_
  apply el [] (io0 hio _) <;> rfl
  intro e E' hX; obtain ⟨rfl, g20⟩ := XEnv.out hX
  apply x3
  refine CodeT.weak g20 ?_
  (repeat apply sq)
  refine CodeT.cond rfl (fun h => ?_) (fun h => ?_)
  replace H := ifTb h H
  (repeat apply sq)
  apply rg
  apply R_asg; rfl; rfl; rfl
  apply dn
  apply x3
  apply CodeT.ret
  apply x1
  cases H
  apply x12
  exact RetIs.sc1 rfl
  replace H := ifFb h H
  (repeat apply sq)
  apply CodeT.skip
  apply x3
  (repeat apply sq)
  apply rg
  apply R_asg; rfl; rfl; rfl
  apply dn
  apply x3
  (repeat apply sq)
  refine CodeT.weak (Ent.sleep (k := 0) rfl) ?_
  refine CodeT.weak (E' := ⟨[(0, ⟨.sc c0, false⟩), (3, ⟨.ptr 3 0, false⟩), (6, ⟨.ptr 6 0, false⟩), (7, ⟨.sc (.bool r5.2), false⟩), (9, ⟨.ptr 9 0, false⟩), (12, ⟨.sc (.int .i64 1), false⟩)], [(3, some ⟨(encFactor a1), true, false⟩), (6, some ⟨(encWLink r5.1), true, false⟩), (9, some ⟨(encWLink r8.1), true, false⟩)]⟩) ?_ ?_
  apply el [] (io0 hio _) <;> rfl
  refine CodeT.exposeAll 9 rfl rfl (fun vs hvs => ?_)
  have hvs : vs.length = 11 := hvs
  obtain ⟨w21_0, vs1, rfl, hv1⟩ := lenS hvs
  obtain ⟨w21_1, vs2, rfl, hv2⟩ := lenS hv1
  obtain ⟨w21_2, vs3, rfl, hv3⟩ := lenS hv2
  obtain ⟨w21_3, vs4, rfl, hv4⟩ := lenS hv3
  obtain ⟨w21_4, vs5, rfl, hv5⟩ := lenS hv4
  obtain ⟨w21_5, vs6, rfl, hv6⟩ := lenS hv5
  obtain ⟨w21_6, vs7, rfl, hv7⟩ := lenS hv6
  obtain ⟨w21_7, vs8, rfl, hv8⟩ := lenS hv7
  obtain ⟨w21_8, vs9, rfl, hv9⟩ := lenS hv8
  obtain ⟨w21_9, vs10, rfl, hv10⟩ := lenS hv9
  obtain ⟨w21_10, vs11, rfl, hv11⟩ := lenS hv10
  obtain rfl := len0 hv11
  apply rg
  apply Run.op; (apply Local.forget (Forg.agg (ws := [.was w21_0 (.sc (.int .i64 r8.1.fA)), .was w21_1 (.sc (.int .i64 r8.1.fB)), .was w21_2 (.sc (.bool r8.1.fWeight.fNum.fNeg)), .was w21_3 (.rw 1 r8.1.fWeight.fNum.fMag.length (r8.1.fWeight.fNum.fMag.flatMap (encI .i64))), .was w21_4 (.rw 1 r8.1.fWeight.fDen.length (r8.1.fWeight.fDen.flatMap (encI .i64))), .was w21_5 (.sc (.bool r8.1.fDX.fNum.fNeg)), .was w21_6 (.rw 1 r8.1.fDX.fNum.fMag.length (r8.1.fDX.fNum.fMag.flatMap (encI .i64))), .was w21_7 (.rw 1 r8.1.fDX.fDen.length (r8.1.fDX.fDen.flatMap (encI .i64))), .was w21_8 (.sc (.bool r8.1.fDY.fNum.fNeg)), .was w21_9 (.rw 1 r8.1.fDY.fNum.fMag.length (r8.1.fDY.fNum.fMag.flatMap (encI .i64))), .was w21_10 (.rw 1 r8.1.fDY.fDen.length (r8.1.fDY.fDen.flatMap (encI .i64)))]) rfl); apply L_ldPA; rfl; rfl; rfl; rfl; (intro h; cases h); (exact .inr rfl); rfl); rfl; rfl
  apply R_mov; rfl; rfl; rfl
  obtain ⟨r22, hr22, H⟩ := bindS H
  apply Run.op; (apply L_callM (l := 9) (off := 0) (m := 11) (p := .agg (encWLink r8.1)) (p' := .agg (encWLink r22.2)) (cells' := [.was w21_0 (.sc (.int .i64 r22.2.fA)), .was w21_1 (.sc (.int .i64 r22.2.fB)), .was w21_2 (.sc (.bool r22.2.fWeight.fNum.fNeg)), .was w21_3 (.rw 1 r22.2.fWeight.fNum.fMag.length (r22.2.fWeight.fNum.fMag.flatMap (encI .i64))), .was w21_4 (.rw 1 r22.2.fWeight.fDen.length (r22.2.fWeight.fDen.flatMap (encI .i64))), .was w21_5 (.sc (.bool r22.2.fDX.fNum.fNeg)), .was w21_6 (.rw 1 r22.2.fDX.fNum.fMag.length (r22.2.fDX.fNum.fMag.flatMap (encI .i64))), .was w21_7 (.rw 1 r22.2.fDX.fDen.length (r22.2.fDX.fDen.flatMap (encI .i64))), .was w21_8 (.sc (.bool r22.2.fDY.fNum.fNeg)), .was w21_9 (.rw 1 r22.2.fDY.fNum.fMag.length (r22.2.fDY.fNum.fMag.flatMap (encI .i64))), .was w21_10 (.rw 1 r22.2.fDY.fDen.length (r22.2.fDY.fDen.flatMap (encI .i64)))]); rfl; rfl; rfl; rfl; rfl; rfl; (exact MCut.agg rfl rfl); (exact mk_laws_markLink r8.1 1 _ hr22); rfl; (exact hle); rfl); rfl; rfl
  apply R_asg; rfl; rfl; rfl
  apply dn
  apply x3
  refine CodeT.weak (Ent.wake (k := 0) rfl old0) ?_
  refine CodeT.weak (Ent.soften (l := 9) (cells' := (encWLink r22.2)) rfl (SoftL.cons Soft.was (SoftL.cons Soft.was (SoftL.cons Soft.was (SoftL.cons Soft.was (SoftL.cons Soft.was (SoftL.cons Soft.was (SoftL.cons Soft.was (SoftL.cons Soft.was (SoftL.cons Soft.was (SoftL.cons Soft.was (SoftL.cons Soft.was SoftL.nil)))))))))))) ?_
  (repeat apply sq)
  apply rg
  apply R_asg; rfl; rfl; rfl
  apply dn
  apply x3
  (repeat apply sq)
  apply rg
  apply Run.op; (apply Local.soft (Soft.agg (softLink _)); apply L_ldPA; rfl; rfl; (first | exact seg_whole rfl | rfl); rfl; (intro h; cases h); (first | exact .inl rfl | exact .inr rfl); rfl); rfl; rfl
  apply R_mov; rfl; rfl; rfl
  obtain ⟨r23, hr23, H⟩ := bindS H
  apply Run.op; (apply L_call; ((apply ArgsV.cons; (apply ArgV.val; rfl; rfl)); (apply ArgsV.cons; (apply ArgV.val; rfl; rfl)); (apply ArgsV.nil)); (exact m_laws_heldLink r22.2 1 _ hr23); rfl; rfl; rfl); rfl; rfl
  apply R_asg; rfl; rfl; rfl
  apply dn
  apply x3
  (repeat apply sq)
  apply rg
  apply R_mov; rfl; rfl; rfl
  apply R_lss; rfl; rfl; rfl; rfl
  apply dn
  apply x3
  (repeat apply sq)
  refine CodeT.cond rfl (fun h => ?_) (fun h => ?_)
  replace H := ifT (of_decide_eq_true h) H
  (repeat apply sq)
  apply rg
  apply R_asg; rfl; rfl; rfl
  apply dn
  apply x3
  apply CodeT.ret
  apply x1
  cases H
  apply x12
  exact RetIs.sc1 rfl
  replace H := ifF (of_decide_eq_false h) H
  (repeat apply sq)
  apply CodeT.skip
  apply x3
  (repeat apply sq)
  apply rg
  apply R_mov; rfl; rfl; rfl
  apply R_mov; rfl; rfl; rfl
  apply R_neq; rfl; rfl; rfl; rfl
  apply dn
  apply x3
  (repeat apply sq)
  refine CodeT.cond rfl (fun h => ?_) (fun h => ?_)
  replace H := ifT (of_decide_eq_true h) H
  (repeat apply sq)
  apply rg
  apply R_asg; rfl; rfl; rfl
  apply dn
  apply x3
  apply CodeT.ret
  apply x1
  cases H
  apply x12
  exact RetIs.sc1 rfl
  replace H := ifF (of_decide_eq_false h) H
  (repeat apply sq)
  apply CodeT.skip
  apply x3
  (repeat apply sq)
  apply CodeT.regionX 6 7 PPm
  apply R_mov; rfl; rfl; rfl
  obtain ⟨r24, hr24, H⟩ := bindS H
  apply Run.op; (apply L_callW; ((apply ArgsV.cons; (apply ArgV.val; rfl; rfl)); (apply ArgsV.nil)); (exact m_laws_toFactorS a0 _ hr24); (exact io1 hio _); rfl); rfl; rfl
  apply R_ldPA; rfl; rfl; (first | exact seg_whole rfl | rfl); rfl; rfl; rfl; rfl; rfl
  obtain ⟨r25, hr25, H⟩ := bindS H
  apply Run.op; (apply L_call; ((apply ArgsV.cons; (apply ArgV.val; rfl; rfl)); (apply ArgsV.nil)); (exact m_laws_toFactor a1 _ hr25); rfl; rfl; rfl); rfl; rfl
  obtain ⟨r26, hr26, H⟩ := bindS H
  apply Run.op; (apply L_call; ((apply ArgsV.cons; (apply ArgV.ref; rfl; rfl; (first | exact Nat.le_of_eq (flat_len (fun _ => rfl)) | exact Nat.le_of_ble_eq_true rfl))); (apply ArgsV.cons; (apply ArgV.val; rfl; rfl)); (apply ArgsV.nil)); (exact m_impl_LinkOfFactor r24 r25 _ hr26); rfl; rfl; rfl); rfl; rfl
  apply R_movT; rfl; rfl; rfl; rfl
  apply Run.op; (apply L_extT; rfl; rfl; rfl; rfl; rfl); rfl; rfl
  apply Run.op; (apply L_extR; rfl; rfl; rfl); rfl; rfl
  apply Run.op; (apply L_alloc false; (exact io1 hio _); rfl); rfl; rfl
  apply Run.op; (apply L_stT (cells' := (encWLink r26.1)); rfl; rfl; rfl; rfl; rfl; rfl; (intro h; cases h); rfl; (first | exact splice_whole rfl | rfl)); rfl; rfl
  apply R_asg; rfl; rfl; rfl
  apply Run.done; refine ⟨⟨rfl, rfl, XOk.intro rfl rfl rfl rfl rfl rfl rfl rfl (by apply L_extR <;> rfl)⟩, ?_⟩
  apply x3
  (repeat apply sq)
  obtain ⟨d29, hd29, H⟩ := bindS H
  refine CodeT.lcut (x := d29) (fun d e E => XEnv Γ .normal ⟨[(9, ⟨.ptr 9 0, false⟩), (12, ⟨.sc (.int .i64 r22.1), false⟩), (100, ⟨.sc (.bool d), false⟩)], [(9, some ⟨(encWLink r22.2), true, false⟩)]⟩ e E) ?_ ?_
  clear H; have H := hd29; clear hd29
  apply rg
  apply Run.op; (apply L_ldPAT; rfl; rfl; rfl; (intro h; cases h); rfl; (exact io1 hio _); rfl); rfl; rfl
  apply Run.op; (apply L_ldPAT; rfl; rfl; rfl; (intro h; cases h); rfl; (exact io1 hio _); rfl); rfl; rfl
  obtain ⟨r27, hr27, H⟩ := bindS H
  apply R_bool; (apply L_call; ((apply ArgsV.cons; (apply ArgV.valS; rfl; rfl; (exact (Soft.agg (softLink _))))); (apply ArgsV.cons; (apply ArgV.valS; rfl; rfl; (exact (Soft.agg (softLink _))))); (apply ArgsV.nil)); (exact m_laws_eqLink r26.1 r5.1 _ hr27); rfl; rfl; rfl); rfl
  intro h; replace H := ifTb h H
  apply R_not; rfl; rfl; rfl
  apply R_mov; rfl; rfl; rfl
  apply R_mov; rfl; rfl; rfl
  apply R_mov; rfl; rfl; rfl
  apply Run.op; (apply L_bneq; rfl; rfl; rfl); rfl; rfl
  apply R_pickF; rfl; rfl; rfl; rfl
  apply dn
  obtain rfl := Option.some.inj H
  refine Ev.y4 ?_
  refine XEnv.mk ?_
  apply el [] (io0 hio _) <;> rfl
  intro h; replace H := ifFb h H
  apply R_not; rfl; rfl; rfl
  apply R_mov; rfl; rfl; rfl
  apply Run.skip; rfl
  apply Run.skip; rfl
  apply Run.skip; rfl
  apply R_pickT; rfl; rfl; rfl; rfl
  apply dn
  obtain rfl := Option.some.inj H
  refine Ev.y4 ?_
  refine XEnv.mk ?_
  apply el [] (io0 hio _) <;> rfl
  intro e E' hX; obtain ⟨rfl, g30⟩ := XEnv.out hX
  apply x3
  refine CodeT.weak g30 ?_
  (repeat apply sq)
  refine CodeT.cond rfl (fun h => ?_) (fun h => ?_)
  replace H := ifTb h H
  (repeat apply sq)
  apply rg
  apply R_asg; rfl; rfl; rfl
  apply dn
  apply x3
  apply CodeT.ret
  apply x1
  cases H
  apply x12
  exact RetIs.sc1 rfl
  replace H := ifFb h H
  (repeat apply sq)
  apply CodeT.skip
  apply x3
  (repeat apply sq)
  apply rg
  apply R_asg; rfl; rfl; rfl
  apply dn
  apply x3
  (repeat apply sq)
  apply rg
  apply Run.op; (apply L_ldPAT; rfl; rfl; rfl; (intro h; cases h); rfl; (exact io1 hio _); rfl); rfl; rfl
  apply R_mov; rfl; rfl; rfl
  obtain ⟨r31, hr31, H⟩ := bindS H
  apply Run.op; (apply L_call; ((apply ArgsV.cons; (apply ArgV.valS; rfl; rfl; (exact (Soft.agg (softLink _))))); (apply ArgsV.cons; (apply ArgV.val; rfl; rfl)); (apply ArgsV.nil)); (exact m_laws_heldLink r22.2 1 _ hr31); rfl; rfl; rfl); rfl; rfl
  apply R_asg; rfl; rfl; rfl
  apply dn
  apply x3
  (repeat apply sq)
  apply rg
  apply R_mov; rfl; rfl; rfl
  apply R_lss; rfl; rfl; rfl; rfl
  apply dn
  apply x3
  (repeat apply sq)
  refine CodeT.cond rfl (fun h => ?_) (fun h => ?_)
  replace H := ifT (of_decide_eq_true h) H
  (repeat apply sq)
  apply rg
  apply R_asg; rfl; rfl; rfl
  apply dn
  apply x3
  apply CodeT.ret
  apply x1
  cases H
  apply x12
  exact RetIs.sc1 rfl
  replace H := ifF (of_decide_eq_false h) H
  (repeat apply sq)
  apply CodeT.skip
  apply x3
  (repeat apply sq)
  apply rg
  apply R_mov; rfl; rfl; rfl
  apply R_mov; rfl; rfl; rfl
  apply R_neq; rfl; rfl; rfl; rfl
  apply dn
  apply x3
  (repeat apply sq)
  refine CodeT.cond rfl (fun h => ?_) (fun h => ?_)
  replace H := ifT (of_decide_eq_true h) H
  (repeat apply sq)
  apply rg
  apply R_asg; rfl; rfl; rfl
  apply dn
  apply x3
  apply CodeT.ret
  apply x1
  cases H
  apply x12
  exact RetIs.sc1 rfl
  replace H := ifF (of_decide_eq_false h) H
  (repeat apply sq)
  apply CodeT.skip
  apply x3
  (repeat apply sq)
  apply rg
  apply R_asg; rfl; rfl; rfl
  apply dn
  apply x3
  apply CodeT.ret
  cases H
  apply x12
  exact RetIs.sc1 rfl
end Go.Ev
