/- The walks of lifted functions, printed by program (lift.py). -/
import Derived.Test.YtlfbihajihpchaaL1
set_option linter.all false
namespace Go.Ev
open Go.Proofs
set_option linter.all false
set_option maxHeartbeats 4000000
attribute [local irreducible] CodeT Ent Meets MeetsX Local LocalAt Res1 RetIs RetX Sim OpT StepT NoLab Then InBlock Round Cut ends endsX LRound LCut XEnv XRet XRetX XRetN MeetsN MeetsD MarkC RetN RetM endsN endsM
theorem m_impl_natGuess (a0 : (List Int)) (a1 : (List Int)) (r : Int) (H : impl_natGuess a0 a1 = some r) : Meets Try.prog 96 [.sl a0.length (a0.flatMap (encI .i64)), .sl a1.length (a1.flatMap (encI .i64))] (.sc (.int .i64 r)) true := by
  refine Meets.intro2 (N := 44) (rs := #[.tmp 4]) Try.func96 rfl rfl rfl rfl ?_
  intro Γ hio
  unfold impl_natGuess at H
  (repeat apply sq)
  apply rg
  apply R_asg; rfl; rfl; rfl
  apply dn
  apply x3
  (repeat apply sq)
  apply rg
  apply R_mov; rfl; rfl; rfl
  apply R_len; rfl; rfl; rfl
  apply R_asg; rfl; rfl; rfl
  apply dn
  apply x3
  (repeat apply sq)
  apply rg
  apply R_mov; rfl; rfl; rfl
  apply R_mov; rfl; rfl; rfl
  obtain ⟨v1, hv1, H⟩ := bindS H
  apply R_sub; rfl; rfl; (exact letS hv1); rfl; rfl
  obtain ⟨y2, hy2, H⟩ := bindS H
  apply Run.op; (apply L_ixS2; rfl; rfl; rfl; (exact hy2); (intro _; rfl); rfl); rfl; rfl
  apply R_ldI; rfl; rfl; rfl; rfl; rfl
  apply R_asg; rfl; rfl; rfl
  apply dn
  apply x3
  (repeat apply sq)
  apply rg
  apply R_mov; rfl; rfl; rfl
  apply R_len; rfl; rfl; rfl
  apply R_mov; rfl; rfl; rfl
  apply R_gtr; rfl; rfl; rfl; rfl
  apply dn
  apply x3
  (repeat apply sq)
  obtain ⟨d6, hd6, H⟩ := bindS H
  refine CodeT.lcut (x := d6) (fun d e E => XEnv Γ .normal ⟨[(1, ⟨.sl a1.length (a1.flatMap (encI .i64)), false⟩), (5, ⟨.sc (.int .i64 (a1.length : Int)), false⟩), (6, ⟨.sc (.int .i64 d), false⟩)], []⟩ e E) ?_ ?_
  clear H; have H := hd6; clear hd6
  refine CodeT.cond rfl (fun h => ?_) (fun h => ?_)
  replace H := ifT (of_decide_eq_true h) H
  (repeat apply sq)
  apply rg
  apply R_mov; rfl; rfl; rfl
  apply R_mov; rfl; rfl; rfl
  apply R_mov; rfl; rfl; rfl
  obtain ⟨y3, hy3, H⟩ := bindS H
  apply Run.op; (apply L_ixS2; rfl; rfl; rfl; (exact hy3); (intro _; rfl); rfl); rfl; rfl
  apply R_ldI; rfl; rfl; rfl; rfl; rfl
  apply Run.op; (apply L_mul; rfl; rfl; rfl; rfl); rfl; rfl
  obtain ⟨v4, hv4, H⟩ := bindS H
  apply R_add; rfl; rfl; (exact letS hv4); rfl; rfl
  apply R_asg; rfl; rfl; rfl
  apply dn
  obtain rfl := Option.some.inj H
  refine Ev.y4 ?_
  refine XEnv.mk ?_
  apply el [] (io0 hio _) <;> rfl
  replace H := ifF (of_decide_eq_false h) H
  (repeat apply sq)
  apply CodeT.skip
  obtain rfl := Option.some.inj H
  refine Ev.y4 ?_
  refine XEnv.mk ?_
  apply el [] (io0 hio _) <;> rfl
  intro e E' hX; obtain ⟨rfl, g7⟩ := XEnv.out hX
  apply x3
  refine CodeT.weak g7 ?_
  (repeat apply sq)
  apply rg
  apply R_mov; rfl; rfl; rfl
  apply R_eql; rfl; rfl; rfl; rfl
  apply dn
  apply x3
  (repeat apply sq)
  refine CodeT.cond rfl (fun h => ?_) (fun h => ?_)
  replace H := ifT (of_decide_eq_true h) H
  (repeat apply sq)
  apply rg
  apply R_mov; rfl; rfl; rfl
  apply R_mov; rfl; rfl; rfl
  obtain ⟨y8, hy8, H⟩ := bindS H
  apply Run.op; (apply L_ixS2; rfl; rfl; rfl; (exact hy8); (intro _; rfl); rfl); rfl; rfl
  apply R_ldI; rfl; rfl; rfl; rfl; rfl
  obtain ⟨_u, hq9, H⟩ := bindS H
  apply Run.op; (apply L_quo; rfl; rfl; (exact chkS hq9); rfl; rfl); rfl; rfl
  apply R_asg; rfl; rfl; rfl
  apply dn
  apply x3
  apply CodeT.ret
  apply x1
  cases H
  apply x12
  exact RetIs.sc1 rfl
  replace H := ifF (of_decide_eq_false h) H
  (repeat apply sq)
  apply CodeT.skip
  apply x3
  (repeat apply sq)
  apply rg
  apply R_mov; rfl; rfl; rfl
  apply R_mov; rfl; rfl; rfl
  apply R_mov; rfl; rfl; rfl
  obtain ⟨v10, hv10, H⟩ := bindS H
  apply R_sub; rfl; rfl; (exact letS hv10); rfl; rfl
  obtain ⟨y11, hy11, H⟩ := bindS H
  apply Run.op; (apply L_ixS2; rfl; rfl; rfl; (exact hy11); (intro _; rfl); rfl); rfl; rfl
  apply R_ldI; rfl; rfl; rfl; rfl; rfl
  apply R_add; rfl; rfl; rfl; rfl; rfl
  obtain ⟨_u, hq12, H⟩ := bindS H
  obtain ⟨v13, hv13, H⟩ := bindS H
  apply Run.op; (apply L_quo; rfl; rfl; (exact chkS hq12); (exact letS hv13); rfl); rfl; rfl
  apply R_asg; rfl; rfl; rfl
  apply dn
  apply x3
  (repeat apply sq)
  apply rg
  apply R_mov; rfl; rfl; rfl
  apply R_eql; rfl; rfl; rfl; rfl
  apply dn
  apply x3
  (repeat apply sq)
  refine CodeT.cond rfl (fun h => ?_) (fun h => ?_)
  replace H := ifT (of_decide_eq_true h) H
  (repeat apply sq)
  apply rg
  apply R_asg; rfl; rfl; rfl
  apply dn
  apply x3
  apply CodeT.ret
  apply x1
  cases H
  apply x12
  exact RetIs.sc1 rfl
  replace H := ifF (of_decide_eq_false h) H
  (repeat apply sq)
  apply CodeT.skip
  apply x3
  (repeat apply sq)
  apply rg
  apply R_mov; rfl; rfl; rfl
  apply R_asg; rfl; rfl; rfl
  apply dn
  apply x3
  apply CodeT.ret
  cases H
  apply x12
  exact RetIs.sc1 rfl
theorem m_impl_natMul (a0 : (List Int)) (a1 : (List Int)) (r : (List Int)) (H : impl_natMul a0 a1 = some r) : Meets Try.prog 88 [.sl a0.length (a0.flatMap (encI .i64)), .sl a1.length (a1.flatMap (encI .i64))] (.rw 1 r.length (r.flatMap (encI .i64))) true := by
  refine Meets.intro2 (N := 71) (rs := #[.tmp 4]) Try.func88 rfl rfl rfl rfl ?_
  intro Γ hio
  unfold impl_natMul at H
  (repeat apply sq)
  apply rg
  apply R_asg; rfl; rfl; rfl
  apply dn
  apply x3
  (repeat apply sq)
  obtain ⟨d2, hd2, H⟩ := bindS H
  refine CodeT.lcut (x := d2) (fun d e E => XEnv Γ .normal ⟨[(0, ⟨.sl a0.length (a0.flatMap (encI .i64)), false⟩), (1, ⟨.sl a1.length (a1.flatMap (encI .i64)), false⟩), (16, ⟨.sc (.bool d), false⟩)], []⟩ e E) ?_ ?_
  clear H; have H := hd2; clear hd2
  apply rg
  apply R_mov; rfl; rfl; rfl
  apply R_len; rfl; rfl; rfl
  apply R_dec; (apply L_eql; rfl; rfl; rfl); rfl
  intro h; replace H := ifT h H
  apply R_mov; rfl; rfl; rfl
  apply Run.skip; rfl
  apply Run.skip; rfl
  apply Run.skip; rfl
  apply R_pickT; rfl; rfl; rfl; rfl
  apply dn
  obtain rfl := Option.some.inj H
  refine Ev.y4 ?_
  refine XEnv.mk ?_
  apply el [] (io0 hio _) <;> rfl
  intro h; replace H := ifF h H
  apply R_mov; rfl; rfl; rfl
  apply R_mov; rfl; rfl; rfl
  apply R_len; rfl; rfl; rfl
  apply R_eql; rfl; rfl; rfl; rfl
  apply R_pickF; rfl; rfl; rfl; rfl
  apply dn
  obtain rfl := Option.some.inj H
  refine Ev.y4 ?_
  refine XEnv.mk ?_
  apply el [] (io0 hio _) <;> rfl
  intro e E' hX; obtain ⟨rfl, g3⟩ := XEnv.out hX
  apply x3
  refine CodeT.weak g3 ?_
  (repeat apply sq)
  refine CodeT.cond rfl (fun h => ?_) (fun h => ?_)
  replace H := ifTb h H
  (repeat apply sq)
  apply rg
  apply R_asg; rfl; rfl; rfl
  apply dn
  apply x3
  apply CodeT.ret
  apply x1
  cases H
  apply x12
  exact RetIs.one (Res1.nilW rfl) (fun _ h => by cases h)
  replace H := ifFb h H
  (repeat apply sq)
  apply CodeT.skip
  apply x3
  (repeat apply sq)
  apply rg
  apply R_mov; rfl; rfl; rfl
  apply R_len; rfl; rfl; rfl
  apply R_mov; rfl; rfl; rfl
  apply R_len; rfl; rfl; rfl
  obtain ⟨v4, hv4, H⟩ := bindS H
  apply R_add; rfl; rfl; (exact letS hv4); rfl; rfl
  obtain ⟨_u, hm5, H⟩ := bindS H
  apply Run.op; (apply L_make2 (enc := (encI .i64)) (z := 0); rfl; rfl; rfl; (exact chkS hm5); rfl; decide; (intro h; cases h); (exact io1 hio _); rfl); rfl; rfl
  apply R_asg; rfl; rfl; rfl
  apply dn
  apply x3
  (repeat apply sq)
  apply rg
  apply R_mov; rfl; rfl; rfl
  apply R_len; rfl; rfl; rfl
  apply R_mov; rfl; rfl; rfl
  apply dn
  apply x3
  (repeat apply sq)
  apply CodeT.block
  (repeat apply sq)
  obtain ⟨d65, hd65, H⟩ := bindS H
  refine CodeT.lloop (fun s => ⟨[(0, ⟨.sl a0.length (a0.flatMap (encI .i64)), false⟩), (1, ⟨.sl a1.length (a1.flatMap (encI .i64)), false⟩), (5, ⟨.ref 505 1 0 s.2.length, false⟩), (24, ⟨.sc (.int .i64 (a0.length : Int)), false⟩), (25, ⟨.sc (.int .i64 s.1), false⟩)], [(505, some ⟨s.2.flatMap (encI .i64), true, false⟩)]⟩) (fun d e E => XEnv Γ (.exit 0) ⟨[(5, ⟨.ref 505 1 0 d.length, false⟩)], [(505, some ⟨d.flatMap (encI .i64), true, false⟩)]⟩ e E) hd65 ?_ ?_ ?_
  apply el [(505, 22)] (io0 hio _) <;> rfl
  clear H hd65
  rintro ⟨v34, v35⟩ o H
  unfold impl_natMul_L2 at H
  (repeat apply sq)
  apply rg
  apply R_lss; rfl; rfl; rfl; rfl
  apply dn
  apply x3
  (repeat apply sq)
  refine CodeT.cond rfl (fun h => ?_) (fun h => ?_)
  replace H := ifT (of_decide_eq_true h) H
  (repeat apply sq)
  apply CodeT.skip
  apply x3
  (repeat apply sq)
  apply CodeT.block
  (repeat apply sq)
  apply rg
  apply R_mov; rfl; rfl; rfl
  apply R_asg; rfl; rfl; rfl
  apply dn
  apply x3
  (repeat apply sq)
  apply rg
  apply R_asg; rfl; rfl; rfl
  apply dn
  apply x3
  (repeat apply sq)
  apply rg
  apply R_mov; rfl; rfl; rfl
  apply R_len; rfl; rfl; rfl
  apply R_mov; rfl; rfl; rfl
  apply dn
  apply x3
  (repeat apply sq)
  apply CodeT.block
  (repeat apply sq)
  obtain ⟨d58, hd58, H⟩ := bindS H
  refine CodeT.lloop (fun s => ⟨[(0, ⟨.sl a0.length (a0.flatMap (encI .i64)), false⟩), (1, ⟨.sl a1.length (a1.flatMap (encI .i64)), false⟩), (5, ⟨.ref 505 1 0 s.2.2.length, false⟩), (6, ⟨.sc (.int .i64 v34), false⟩), (7, ⟨.sc (.int .i64 s.1), false⟩), (24, ⟨.sc (.int .i64 (a0.length : Int)), false⟩), (25, ⟨.sc (.int .i64 v34), false⟩), (29, ⟨.sc (.int .i64 (a1.length : Int)), false⟩), (30, ⟨.sc (.int .i64 s.2.1), false⟩)], [(505, some ⟨s.2.2.flatMap (encI .i64), true, false⟩)]⟩) (fun d e E => XEnv Γ (.exit 2) ⟨[(0, ⟨.sl a0.length (a0.flatMap (encI .i64)), false⟩), (1, ⟨.sl a1.length (a1.flatMap (encI .i64)), false⟩), (5, ⟨.ref 505 1 0 d.2.length, false⟩), (6, ⟨.sc (.int .i64 v34), false⟩), (7, ⟨.sc (.int .i64 d.1), false⟩), (24, ⟨.sc (.int .i64 (a0.length : Int)), false⟩), (25, ⟨.sc (.int .i64 v34), false⟩)], [(505, some ⟨d.2.flatMap (encI .i64), true, false⟩)]⟩ e E) hd58 ?_ ?_ ?_
  apply el [] (io0 hio _) <;> rfl
  clear H hd58
  rintro ⟨v45, v46, v47⟩ o H
  unfold impl_natMul_L1 at H
  (repeat apply sq)
  apply rg
  apply R_lss; rfl; rfl; rfl; rfl
  apply dn
  apply x3
  (repeat apply sq)
  refine CodeT.cond rfl (fun h => ?_) (fun h => ?_)
  replace H := ifT (of_decide_eq_true h) H
  (repeat apply sq)
  apply CodeT.skip
  apply x3
  (repeat apply sq)
  apply CodeT.block
  (repeat apply sq)
  apply rg
  apply R_mov; rfl; rfl; rfl
  apply R_asg; rfl; rfl; rfl
  apply dn
  apply x3
  (repeat apply sq)
  apply rg
  apply R_mov; rfl; rfl; rfl
  apply R_mov; rfl; rfl; rfl
  apply R_mov; rfl; rfl; rfl
  apply R_mov; rfl; rfl; rfl
  apply R_add; rfl; rfl; rfl; rfl; rfl
  obtain ⟨y48, hy48, H⟩ := bindS H
  apply Run.op; (apply L_ixR2; rfl; rfl; rfl; (exact hy48); rfl; rfl); rfl; rfl
  apply R_ldP; rfl; rfl; (exact row_ld0 hy48 rfl (fun _ => rfl)); rfl; rfl; rfl
  apply R_mov; rfl; rfl; rfl
  apply R_mov; rfl; rfl; rfl
  obtain ⟨y49, hy49, H⟩ := bindS H
  apply Run.op; (apply L_ixS2; rfl; rfl; rfl; (exact hy49); (intro _; rfl); rfl); rfl; rfl
  apply R_ldI; rfl; rfl; rfl; rfl; rfl
  apply R_mov; rfl; rfl; rfl
  apply R_mov; rfl; rfl; rfl
  obtain ⟨y50, hy50, H⟩ := bindS H
  apply Run.op; (apply L_ixS2; rfl; rfl; rfl; (exact hy50); (intro _; rfl); rfl); rfl; rfl
  apply R_ldI; rfl; rfl; rfl; rfl; rfl
  apply Run.op; (apply L_mul; rfl; rfl; rfl; rfl); rfl; rfl
  obtain ⟨v51, hv51, H⟩ := bindS H
  apply R_add; rfl; rfl; (exact letS hv51); rfl; rfl
  apply R_add; rfl; rfl; rfl; rfl; rfl
  apply R_asg; rfl; rfl; rfl
  apply Run.done; refine ⟨fun _ => ⟨rfl, rfl⟩, ?_⟩
  apply x3
  (repeat apply sq)
  apply rg
  apply R_mov; rfl; rfl; rfl
  apply R_mov; rfl; rfl; rfl
  apply R_mov; rfl; rfl; rfl
  apply R_add; rfl; rfl; rfl; rfl; rfl
  apply R_mov; rfl; rfl; rfl
  obtain ⟨v52, hv52, H⟩ := bindS H
  apply Run.op; (apply L_rem; rfl; rfl; (intro h; cases h); (exact letS hv52); rfl); rfl; rfl
  obtain ⟨y53, hy53, H⟩ := bindS H
  apply Run.op; (apply L_ixR2; rfl; rfl; rfl; (exact hy53); rfl; rfl); rfl; rfl
  obtain ⟨v54, hv54, H⟩ := bindS H
  have hl55 := setI_lenS hv54
  apply Run.op; (apply L_st; rfl; rfl; rfl; rfl; rfl; (intro h; cases h); (exact row_ble0 (sz := 1) (n := 1) hy53 (fun _ => rfl) (by decide)); (exact row_stL (sz := 1) hv54 hy53 (fun _ => rfl) rfl)); rfl; rfl
  apply dn
  apply x3
  refine CodeT.weak (Ent.relen (k := 5) (n' := v54.length) rfl (by first | (simp only [setI_len]; done) | (simp only [setI_len]; omega) | omega)) ?_
  apply rg
  apply R_mov; rfl; rfl; rfl
  obtain ⟨v56, hv56, H⟩ := bindS H
  apply Run.op; (apply L_quo; rfl; rfl; (intro h; cases h); (exact letS hv56); rfl); rfl; rfl
  apply R_asg; rfl; rfl; rfl
  apply dn
  apply x5
  apply x3
  apply rg
  apply R_add; rfl; rfl; rfl; rfl; rfl
  apply R_mov; rfl; rfl; rfl
  apply dn
  obtain rfl := Option.some.inj H
  refine Ev.y1 ?_
  apply el [] (io0 hio _) <;> rfl
  replace H := ifF (of_decide_eq_false h) H
  (repeat apply sq)
  apply CodeT.exit
  apply x2
  obtain rfl := Option.some.inj H
  refine Ev.y3 ?_
  refine XEnv.mk ?_
  apply el [] (io0 hio _) <;> rfl
  skip
  intro e E' hX; obtain ⟨rfl, g59⟩ := XEnv.out hX
  refine x6 rfl ?_
  apply x3
  refine CodeT.weak g59 ?_
  apply rg
  apply R_mov; rfl; rfl; rfl
  apply R_mov; rfl; rfl; rfl
  apply R_mov; rfl; rfl; rfl
  apply R_len; rfl; rfl; rfl
  obtain ⟨v60, hv60, H⟩ := bindS H
  apply R_add; rfl; rfl; (exact letS hv60); rfl; rfl
  apply R_mov; rfl; rfl; rfl
  obtain ⟨y61, hy61, H⟩ := bindS H
  apply Run.op; (apply L_ixR2; rfl; rfl; rfl; (exact hy61); rfl; rfl); rfl; rfl
  obtain ⟨v62, hv62, H⟩ := bindS H
  have hl63 := setI_lenS hv62
  apply Run.op; (apply L_st; rfl; rfl; rfl; rfl; rfl; (intro h; cases h); (exact row_ble0 (sz := 1) (n := 1) hy61 (fun _ => rfl) (by decide)); (exact row_stL (sz := 1) hv62 hy61 (fun _ => rfl) rfl)); rfl; rfl
  apply dn
  apply x5
  apply x3
  refine CodeT.weak (Ent.relen (k := 5) (n' := v62.length) rfl (by first | (simp only [setI_len]; done) | (simp only [setI_len]; omega) | omega)) ?_
  apply rg
  apply R_add; rfl; rfl; rfl; rfl; rfl
  apply R_mov; rfl; rfl; rfl
  apply dn
  obtain rfl := Option.some.inj H
  refine Ev.y1 ?_
  apply el [] (io0 hio _) <;> rfl
  replace H := ifF (of_decide_eq_false h) H
  (repeat apply sq)
  apply CodeT.exit
  apply x2
  obtain rfl := Option.some.inj H
  refine Ev.y3 ?_
  refine XEnv.mk ?_
  apply el [] (io0 hio _) <;> rfl
  skip
  intro e E' hX; obtain ⟨rfl, g66⟩ := XEnv.out hX
  refine x6 rfl ?_
  apply x3
  refine CodeT.weak g66 ?_
  (repeat apply sq)
  refine CodeT.weak (Ent.freezeW (k := 5) rfl rfl (io1 hio _) rfl) ?_
  apply rg
  apply R_movT; rfl; rfl; rfl; rfl
  obtain ⟨r67, hr67, H⟩ := bindS H
  apply Run.op; (apply L_callD1; rfl; rfl; (exact md_impl_natTrim d65 _ hr67); rfl; rfl); rfl; rfl
  apply R_asgT; rfl; rfl; rfl; rfl
  apply dn
  apply x3
  apply CodeT.ret
  cases H
  apply x12
  exact RetIs.one (Res1.deep rfl rfl) (fun _ h => by cases h)
theorem m_impl_natSub (a0 : (List Int)) (a1 : (List Int)) (r : (List Int)) (H : impl_natSub a0 a1 = some r) : Meets Try.prog 87 [.sl a0.length (a0.flatMap (encI .i64)), .sl a1.length (a1.flatMap (encI .i64))] (.rw 1 r.length (r.flatMap (encI .i64))) true := by
  refine Meets.intro2 (N := 44) (rs := #[.tmp 4]) Try.func87 rfl rfl rfl rfl ?_
  intro Γ hio
  unfold impl_natSub at H
  (repeat apply sq)
  apply rg
  apply R_asg; rfl; rfl; rfl
  apply dn
  apply x3
  (repeat apply sq)
  apply rg
  apply R_mov; rfl; rfl; rfl
  apply R_len; rfl; rfl; rfl
  obtain ⟨_u, hm1, H⟩ := bindS H
  apply Run.op; (apply L_make2 (enc := (encI .i64)) (z := 0); rfl; rfl; rfl; (exact chkS hm1); rfl; decide; (intro h; cases h); (exact io1 hio _); rfl); rfl; rfl
  apply R_asg; rfl; rfl; rfl
  apply dn
  apply x3
  (repeat apply sq)
  apply rg
  apply R_asg; rfl; rfl; rfl
  apply dn
  apply x3
  (repeat apply sq)
  apply rg
  apply R_mov; rfl; rfl; rfl
  apply R_len; rfl; rfl; rfl
  apply R_mov; rfl; rfl; rfl
  apply dn
  apply x3
  (repeat apply sq)
  apply CodeT.block
  (repeat apply sq)
  obtain ⟨d31, hd31, H⟩ := bindS H
  refine CodeT.lloop (fun s => ⟨[(0, ⟨.sl a0.length (a0.flatMap (encI .i64)), false⟩), (1, ⟨.sl a1.length (a1.flatMap (encI .i64)), false⟩), (5, ⟨.ref 505 1 0 s.2.2.length, false⟩), (6, ⟨.sc (.int .i64 s.1), false⟩), (13, ⟨.sc (.int .i64 (a0.length : Int)), false⟩), (14, ⟨.sc (.int .i64 s.2.1), false⟩)], [(505, some ⟨s.2.2.flatMap (encI .i64), true, false⟩)]⟩) (fun d e E => XEnv Γ (.exit 0) ⟨[(5, ⟨.ref 505 1 0 d.length, false⟩)], [(505, some ⟨d.flatMap (encI .i64), true, false⟩)]⟩ e E) hd31 ?_ ?_ ?_
  apply el [(505, 11)] (io0 hio _) <;> rfl
  clear H hd31
  rintro ⟨v14, v15, v16⟩ o H
  unfold impl_natSub_L1 at H
  (repeat apply sq)
  apply rg
  apply R_lss; rfl; rfl; rfl; rfl
  apply dn
  apply x3
  (repeat apply sq)
  refine CodeT.cond rfl (fun h => ?_) (fun h => ?_)
  replace H := ifT (of_decide_eq_true h) H
  (repeat apply sq)
  apply CodeT.skip
  apply x3
  (repeat apply sq)
  apply CodeT.block
  (repeat apply sq)
  apply rg
  apply R_mov; rfl; rfl; rfl
  apply R_asg; rfl; rfl; rfl
  apply dn
  apply x3
  (repeat apply sq)
  apply rg
  apply R_mov; rfl; rfl; rfl
  apply R_mov; rfl; rfl; rfl
  obtain ⟨y17, hy17, H⟩ := bindS H
  apply Run.op; (apply L_ixS2; rfl; rfl; rfl; (exact hy17); (intro _; rfl); rfl); rfl; rfl
  apply R_ldI; rfl; rfl; rfl; rfl; rfl
  apply R_mov; rfl; rfl; rfl
  apply R_sub; rfl; rfl; rfl; rfl; rfl
  apply R_asg; rfl; rfl; rfl
  apply dn
  apply x3
  (repeat apply sq)
  apply rg
  apply R_mov; rfl; rfl; rfl
  apply R_mov; rfl; rfl; rfl
  apply R_len; rfl; rfl; rfl
  apply R_lss; rfl; rfl; rfl; rfl
  apply dn
  apply x3
  (repeat apply sq)
  obtain ⟨d21, hd21, H⟩ := bindS H
  refine CodeT.lcut (x := d21) (fun d e E => XEnv Γ .normal ⟨[(0, ⟨.sl a0.length (a0.flatMap (encI .i64)), false⟩), (1, ⟨.sl a1.length (a1.flatMap (encI .i64)), false⟩), (5, ⟨.ref 505 1 0 v16.length, false⟩), (7, ⟨.sc (.int .i64 v15), false⟩), (8, ⟨.sc (.int .i64 d), false⟩), (13, ⟨.sc (.int .i64 (a0.length : Int)), false⟩), (14, ⟨.sc (.int .i64 v15), false⟩)], [(505, some ⟨v16.flatMap (encI .i64), true, false⟩)]⟩ e E) ?_ ?_
  clear H; have H := hd21; clear hd21
  refine CodeT.cond rfl (fun h => ?_) (fun h => ?_)
  replace H := ifT (of_decide_eq_true h) H
  (repeat apply sq)
  apply rg
  apply R_mov; rfl; rfl; rfl
  apply R_mov; rfl; rfl; rfl
  apply R_mov; rfl; rfl; rfl
  obtain ⟨y18, hy18, H⟩ := bindS H
  apply Run.op; (apply L_ixS2; rfl; rfl; rfl; (exact hy18); (intro _; rfl); rfl); rfl; rfl
  apply R_ldI; rfl; rfl; rfl; rfl; rfl
  obtain ⟨v19, hv19, H⟩ := bindS H
  apply R_sub; rfl; rfl; (exact letS hv19); rfl; rfl
  apply R_asg; rfl; rfl; rfl
  apply dn
  obtain rfl := Option.some.inj H
  refine Ev.y4 ?_
  refine XEnv.mk ?_
  apply el [] (io0 hio _) <;> rfl
  replace H := ifF (of_decide_eq_false h) H
  (repeat apply sq)
  apply CodeT.skip
  obtain rfl := Option.some.inj H
  refine Ev.y4 ?_
  refine XEnv.mk ?_
  apply el [] (io0 hio _) <;> rfl
  intro e E' hX; obtain ⟨rfl, g22⟩ := XEnv.out hX
  apply x3
  refine CodeT.weak g22 ?_
  (repeat apply sq)
  apply rg
  apply R_asg; rfl; rfl; rfl
  apply dn
  apply x3
  (repeat apply sq)
  apply rg
  apply R_mov; rfl; rfl; rfl
  apply R_lss; rfl; rfl; rfl; rfl
  apply dn
  apply x3
  (repeat apply sq)
  obtain ⟨d25, hd25, H⟩ := bindS H
  refine CodeT.lcut (x := d25) (fun d e E => XEnv Γ .normal ⟨[(0, ⟨.sl a0.length (a0.flatMap (encI .i64)), false⟩), (1, ⟨.sl a1.length (a1.flatMap (encI .i64)), false⟩), (5, ⟨.ref 505 1 0 v16.length, false⟩), (6, ⟨.sc (.int .i64 d.1), false⟩), (7, ⟨.sc (.int .i64 v15), false⟩), (8, ⟨.sc (.int .i64 d.2), false⟩), (13, ⟨.sc (.int .i64 (a0.length : Int)), false⟩), (14, ⟨.sc (.int .i64 v15), false⟩)], [(505, some ⟨v16.flatMap (encI .i64), true, false⟩)]⟩ e E) ?_ ?_
  clear H; have H := hd25; clear hd25
  refine CodeT.cond rfl (fun h => ?_) (fun h => ?_)
  replace H := ifT (of_decide_eq_true h) H
  (repeat apply sq)
  apply rg
  apply R_mov; rfl; rfl; rfl
  obtain ⟨v23, hv23, H⟩ := bindS H
  apply R_add; rfl; rfl; (exact letS hv23); rfl; rfl
  apply R_asg; rfl; rfl; rfl
  apply dn
  apply x3
  apply rg
  apply R_asg; rfl; rfl; rfl
  apply dn
  obtain rfl := Option.some.inj H
  refine Ev.y4 ?_
  refine XEnv.mk ?_
  apply el [] (io0 hio _) <;> rfl
  replace H := ifF (of_decide_eq_false h) H
  (repeat apply sq)
  apply CodeT.skip
  obtain rfl := Option.some.inj H
  refine Ev.y4 ?_
  refine XEnv.mk ?_
  apply el [] (io0 hio _) <;> rfl
  intro e E' hX; obtain ⟨rfl, g26⟩ := XEnv.out hX
  apply x3
  refine CodeT.weak g26 ?_
  apply rg
  apply R_mov; rfl; rfl; rfl
  apply R_mov; rfl; rfl; rfl
  apply R_mov; rfl; rfl; rfl
  obtain ⟨y27, hy27, H⟩ := bindS H
  apply Run.op; (apply L_ixR2; rfl; rfl; rfl; (exact hy27); rfl; rfl); rfl; rfl
  obtain ⟨v28, hv28, H⟩ := bindS H
  have hl29 := setI_lenS hv28
  apply Run.op; (apply L_st; rfl; rfl; rfl; rfl; rfl; (intro h; cases h); (exact row_ble0 (sz := 1) (n := 1) hy27 (fun _ => rfl) (by decide)); (exact row_stL (sz := 1) hv28 hy27 (fun _ => rfl) rfl)); rfl; rfl
  apply dn
  apply x5
  apply x3
  refine CodeT.weak (Ent.relen (k := 5) (n' := v28.length) rfl (by first | (simp only [setI_len]; done) | (simp only [setI_len]; omega) | omega)) ?_
  apply rg
  apply R_add; rfl; rfl; rfl; rfl; rfl
  apply R_mov; rfl; rfl; rfl
  apply dn
  obtain rfl := Option.some.inj H
  refine Ev.y1 ?_
  apply el [] (io0 hio _) <;> rfl
  replace H := ifF (of_decide_eq_false h) H
  (repeat apply sq)
  apply CodeT.exit
  apply x2
  obtain rfl := Option.some.inj H
  refine Ev.y3 ?_
  refine XEnv.mk ?_
  apply el [] (io0 hio _) <;> rfl
  skip
  intro e E' hX; obtain ⟨rfl, g32⟩ := XEnv.out hX
  refine x6 rfl ?_
  apply x3
  refine CodeT.weak g32 ?_
  (repeat apply sq)
  refine CodeT.weak (Ent.freezeW (k := 5) rfl rfl (io1 hio _) rfl) ?_
  apply rg
  apply R_movT; rfl; rfl; rfl; rfl
  obtain ⟨r33, hr33, H⟩ := bindS H
  apply Run.op; (apply L_callD1; rfl; rfl; (exact md_impl_natTrim d31 _ hr33); rfl; rfl); rfl; rfl
  apply R_asgT; rfl; rfl; rfl; rfl
  apply dn
  apply x3
  apply CodeT.ret
  cases H
  apply x12
  exact RetIs.one (Res1.deep rfl rfl) (fun _ h => by cases h)
theorem m_impl_natDiv (a0 : (List Int)) (a1 : (List Int)) (r : ((List Int) × (List Int))) (H : impl_natDiv a0 a1 = some r) : Meets Try.prog 83 [.sl a0.length (a0.flatMap (encI .i64)), .sl a1.length (a1.flatMap (encI .i64))] (.tup [.rw 1 r.1.length (r.1.flatMap (encI .i64)), .sl r.2.length (r.2.flatMap (encI .i64))]) true := by
  refine Meets.intro2 (N := 76) (rs := #[.tmp 4, .tmp 5]) Try.func83 rfl rfl rfl rfl ?_
  intro Γ hio
  unfold impl_natDiv at H
  (repeat apply sq)
  apply rg
  apply R_asg; rfl; rfl; rfl
  apply R_asg; rfl; rfl; rfl
  apply dn
  apply x3
  (repeat apply sq)
  obtain ⟨d2, hd2, H⟩ := bindS H
  refine CodeT.lcut (x := d2) (fun d e E => XEnv Γ .normal ⟨[(0, ⟨.sl a0.length (a0.flatMap (encI .i64)), false⟩), (1, ⟨.sl a1.length (a1.flatMap (encI .i64)), false⟩), (19, ⟨.sc (.bool d), false⟩)], []⟩ e E) ?_ ?_
  clear H; have H := hd2; clear hd2
  apply rg
  apply R_mov; rfl; rfl; rfl
  apply R_len; rfl; rfl; rfl
  apply R_dec; (apply L_leq; rfl; rfl; rfl); rfl
  intro h; replace H := ifT h H
  apply R_mov; rfl; rfl; rfl
  apply R_mov; rfl; rfl; rfl
  apply R_len; rfl; rfl; rfl
  apply R_leq; rfl; rfl; rfl; rfl
  apply R_pickT; rfl; rfl; rfl; rfl
  apply dn
  obtain rfl := Option.some.inj H
  refine Ev.y4 ?_
  refine XEnv.mk ?_
  apply el [] (io0 hio _) <;> rfl
  intro h; replace H := ifF h H
  apply R_mov; rfl; rfl; rfl
  apply Run.skip; rfl
  apply Run.skip; rfl
  apply Run.skip; rfl
  apply R_pickF; rfl; rfl; rfl; rfl
  apply dn
  obtain rfl := Option.some.inj H
  refine Ev.y4 ?_
  refine XEnv.mk ?_
  apply el [] (io0 hio _) <;> rfl
  intro e E' hX; obtain ⟨rfl, g3⟩ := XEnv.out hX
  apply x3
  refine CodeT.weak g3 ?_
  (repeat apply sq)
  refine CodeT.cond rfl (fun h => ?_) (fun h => ?_)
  replace H := ifTb h H
  (repeat apply sq)
  apply rg
  apply R_mov; rfl; rfl; rfl
  obtain ⟨r4, hr4, H⟩ := bindS H
  apply Run.op; (apply L_call; ((apply ArgsV.cons; (apply ArgV.val; rfl; rfl)); (apply ArgsV.nil)); (exact m_impl_natSmall a0 _ hr4); rfl; rfl; rfl); rfl; rfl
  apply R_mov; rfl; rfl; rfl
  obtain ⟨r5, hr5, H⟩ := bindS H
  apply Run.op; (apply L_call; ((apply ArgsV.cons; (apply ArgV.val; rfl; rfl)); (apply ArgsV.nil)); (exact m_impl_natSmall a1 _ hr5); rfl; rfl; rfl); rfl; rfl
  apply R_asg; rfl; rfl; rfl
  apply R_asg; rfl; rfl; rfl
  apply dn
  apply x3
  (repeat apply sq)
  apply rg
  apply R_mov; rfl; rfl; rfl
  apply R_mov; rfl; rfl; rfl
  obtain ⟨_u, hq6, H⟩ := bindS H
  apply Run.op; (apply L_quo; rfl; rfl; (exact chkS hq6); rfl; rfl); rfl; rfl
  obtain ⟨v7, hv7, H⟩ := bindS H
  apply Run.op; (apply L_conv; rfl; (exact letS hv7); rfl); rfl; rfl
  obtain ⟨r8, hr8, H⟩ := bindS H
  apply Run.op; (apply L_callW; ((apply ArgsV.cons; (apply ArgV.val; rfl; rfl)); (apply ArgsV.nil)); (exact m_impl_natOfUint v7 _ hr8); (exact io1 hio _); rfl); rfl; rfl
  apply R_mov; rfl; rfl; rfl
  apply R_mov; rfl; rfl; rfl
  obtain ⟨_u, hq9, H⟩ := bindS H
  apply Run.op; (apply L_rem; rfl; rfl; (exact chkS hq9); rfl; rfl); rfl; rfl
  apply Run.op; (apply L_conv; rfl; rfl; rfl); rfl; rfl
  obtain ⟨r10, hr10, H⟩ := bindS H
  apply Run.op; (apply L_callW; ((apply ArgsV.cons; (apply ArgV.val; rfl; rfl)); (apply ArgsV.nil)); (exact m_impl_natOfUint (IntKind.u64.wrap (r4.tmod r5)) _ hr10); (exact io1 hio _); rfl); rfl; rfl
  apply R_asg; rfl; rfl; rfl
  apply R_asg; rfl; rfl; rfl
  apply Run.done; refine ⟨fun _ => ⟨rfl, rfl⟩, ?_⟩
  apply x3
  apply CodeT.ret
  apply x1
  cases H
  apply x12
  exact RetIs.many (.inl rfl) (ResL.cons (Res1.refW rfl rfl (io1 hio _)) (ResL.cons (Res1.ref rfl rfl (io1 hio _)) ResL.nil)) (fun h => by first | rfl | cases h)
  replace H := ifFb h H
  (repeat apply sq)
  apply CodeT.skip
  apply x3
  (repeat apply sq)
  apply rg
  apply R_mov; rfl; rfl; rfl
  apply R_len; rfl; rfl; rfl
  obtain ⟨_u, hm11, H⟩ := bindS H
  apply Run.op; (apply L_make2 (enc := (encI .i64)) (z := 0); rfl; rfl; rfl; (exact chkS hm11); rfl; decide; (intro h; cases h); (exact io1 hio _); rfl); rfl; rfl
  apply R_asg; rfl; rfl; rfl
  apply dn
  apply x3
  (repeat apply sq)
  apply rg
  apply Run.op; (apply L_bs0; (exact io1 hio _); rfl); rfl; rfl
  apply R_asg; rfl; rfl; rfl
  apply dn
  apply x3
  (repeat apply sq)
  apply rg
  apply R_mov; rfl; rfl; rfl
  apply R_len; rfl; rfl; rfl
  obtain ⟨v12, hv12, H⟩ := bindS H
  apply R_sub; rfl; rfl; (exact letS hv12); rfl; rfl
  apply R_asg; rfl; rfl; rfl
  apply dn
  apply x3
  (repeat apply sq)
  apply CodeT.block
  (repeat apply sq)
  obtain ⟨d67, hd67, H⟩ := bindS H
  refine CodeT.lloop (fun s => ⟨[(0, ⟨.sl a0.length (a0.flatMap (encI .i64)), false⟩), (1, ⟨.sl a1.length (a1.flatMap (encI .i64)), false⟩), (8, ⟨.ref 508 1 0 s.2.2.length, false⟩), (9, ⟨.sl s.1.length (s.1.flatMap (encI .i64)), true⟩), (10, ⟨.sc (.int .i64 s.2.1), false⟩)], [(508, some ⟨s.2.2.flatMap (encI .i64), true, false⟩)]⟩) (fun d e E => XEnv Γ (.exit 0) ⟨[(8, ⟨.ref 508 1 0 d.2.length, false⟩), (9, ⟨.sl d.1.length (d.1.flatMap (encI .i64)), true⟩)], [(508, some ⟨d.2.flatMap (encI .i64), true, false⟩)]⟩ e E) hd67 ?_ ?_ ?_
  refine Ent.trans (Ent.freeze (k := 9) rfl rfl (io1 hio _) rfl) ?_
  apply el [(508, 36)] (io0 hio _) <;> rfl
  clear H hd67
  rintro ⟨v38, v39, v40⟩ o H
  unfold impl_natDiv_L2 at H
  (repeat apply sq)
  apply rg
  apply R_mov; rfl; rfl; rfl
  apply Run.op; (apply L_geq; rfl; rfl; rfl); rfl; rfl
  apply dn
  apply x3
  (repeat apply sq)
  refine CodeT.cond rfl (fun h => ?_) (fun h => ?_)
  replace H := ifT (of_decide_eq_true h) H
  (repeat apply sq)
  apply CodeT.skip
  apply x3
  (repeat apply sq)
  apply CodeT.block
  (repeat apply sq)
  apply rg
  apply R_mov; rfl; rfl; rfl
  apply R_mov; rfl; rfl; rfl
  obtain ⟨y41, hy41, H⟩ := bindS H
  apply Run.op; (apply L_ixS2; rfl; rfl; rfl; (exact hy41); (intro _; rfl); rfl); rfl; rfl
  apply R_ldI; rfl; rfl; rfl; rfl; rfl
  apply Run.op; (apply L_bsR; rfl; rfl; rfl; rfl; (exact io1 hio _); rfl); rfl; rfl
  apply R_movT; rfl; rfl; rfl; rfl
  obtain ⟨_u, ha42, H⟩ := bindS H
  obtain ⟨v43, hv43, H⟩ := bindS H
  apply Run.op; (apply Local.frz 51; apply L_app true; rfl; rfl; rfl; (exact flat_len (l := ([y41])) (enc := (encI .i64)) (fun _ => rfl)); (exact flat_len (l := v38) (enc := (encI .i64)) (fun _ => rfl)); (exact chkS ha42); (exact app63 (by decide) (chkS ha42)); (exact ⟨io1 hio _, io1 hio _⟩); (intro _; exact allSc_flat (l := v38) (enc := (encI .i64)) (fun _ => rfl)); (exact flat_catL (l := ([y41])) (r := v38) (enc := (encI .i64)) hv43); rfl; rfl; rfl; (exact io1 hio _); rfl); rfl; rfl
  obtain ⟨r44, hr44, H⟩ := bindS H
  apply Run.op; (apply L_callD1; rfl; rfl; (exact md_impl_natTrim v43 _ hr44); rfl; rfl); rfl; rfl
  apply R_asgT; rfl; rfl; rfl; rfl
  apply dn
  apply x3
  apply CodeT.block
  (repeat apply sq)
  obtain ⟨d64, hd64, H⟩ := bindS H
  refine CodeT.lloop (fun s => ⟨[(0, ⟨.sl a0.length (a0.flatMap (encI .i64)), false⟩), (1, ⟨.sl a1.length (a1.flatMap (encI .i64)), false⟩), (8, ⟨.ref 508 1 0 s.2.length, false⟩), (9, ⟨.sl s.1.length (s.1.flatMap (encI .i64)), true⟩), (10, ⟨.sc (.int .i64 v39), false⟩)], [(508, some ⟨s.2.flatMap (encI .i64), true, false⟩)]⟩) (fun d e E => XEnv Γ (.exit 2) ⟨[(0, ⟨.sl a0.length (a0.flatMap (encI .i64)), false⟩), (1, ⟨.sl a1.length (a1.flatMap (encI .i64)), false⟩), (8, ⟨.ref 508 1 0 d.2.length, false⟩), (9, ⟨.sl d.1.length (d.1.flatMap (encI .i64)), true⟩), (10, ⟨.sc (.int .i64 v39), false⟩)], [(508, some ⟨d.2.flatMap (encI .i64), true, false⟩)]⟩ e E) hd64 ?_ ?_ ?_
  refine Ent.trans (Ent.softS (k := 9) rfl (Soft.rw (SoftL.refl _))) ?_
  apply el [] (io0 hio _) <;> rfl
  clear H hd64
  rintro ⟨v53, v54⟩ o H
  unfold impl_natDiv_L1 at H
  (repeat apply sq)
  apply rg
  apply R_mov; rfl; rfl; rfl
  apply R_mov; rfl; rfl; rfl
  obtain ⟨r55, hr55, H⟩ := bindS H
  apply Run.op; (apply L_call; ((apply ArgsV.cons; (apply ArgV.val; rfl; rfl)); (apply ArgsV.cons; (apply ArgV.val; rfl; rfl)); (apply ArgsV.nil)); (exact m_impl_natCmp v53 a1 _ hr55); rfl; rfl; rfl); rfl; rfl
  apply Run.op; (apply L_geq; rfl; rfl; rfl); rfl; rfl
  apply dn
  apply x3
  (repeat apply sq)
  refine CodeT.cond rfl (fun h => ?_) (fun h => ?_)
  replace H := ifT (of_decide_eq_true h) H
  (repeat apply sq)
  apply CodeT.skip
  apply x3
  apply CodeT.block
  (repeat apply sq)
  apply rg
  apply R_mov; rfl; rfl; rfl
  apply R_mov; rfl; rfl; rfl
  obtain ⟨r56, hr56, H⟩ := bindS H
  apply Run.op; (apply L_call; ((apply ArgsV.cons; (apply ArgV.val; rfl; rfl)); (apply ArgsV.cons; (apply ArgV.val; rfl; rfl)); (apply ArgsV.nil)); (exact m_impl_natGuess v53 a1 _ hr56); rfl; rfl; rfl); rfl; rfl
  apply R_asg; rfl; rfl; rfl
  apply dn
  apply x3
  (repeat apply sq)
  apply rg
  apply R_movT; rfl; rfl; rfl; rfl
  apply R_mov; rfl; rfl; rfl
  apply R_mov; rfl; rfl; rfl
  apply Run.op; (apply L_bsR; rfl; rfl; rfl; rfl; (exact io1 hio _); rfl); rfl; rfl
  obtain ⟨r57, hr57, H⟩ := bindS H
  apply Run.op; (apply L_callW; ((apply ArgsV.cons; (apply ArgV.val; rfl; rfl)); (apply ArgsV.cons; (apply ArgV.ref; rfl; rfl; (first | exact Nat.le_of_eq (flat_len (fun _ => rfl)) | exact Nat.le_of_ble_eq_true rfl))); (apply ArgsV.nil)); (exact m_impl_natMul a1 ([r56]) _ hr57); (exact io1 hio _); rfl); rfl; rfl
  obtain ⟨r58, hr58, H⟩ := bindS H
  apply Run.op; (apply L_callW; ((apply ArgsV.cons; (apply ArgV.val; rfl; rfl)); (apply ArgsV.cons; (apply ArgV.ref; rfl; rfl; (first | exact Nat.le_of_eq (flat_len (fun _ => rfl)) | exact Nat.le_of_ble_eq_true rfl))); (apply ArgsV.nil)); (exact m_impl_natSub v53 r57 _ hr58); (exact io1 hio _); rfl); rfl; rfl
  apply R_asg; rfl; rfl; rfl
  apply dn
  apply x3
  apply rg
  apply R_mov; rfl; rfl; rfl
  apply R_mov; rfl; rfl; rfl
  obtain ⟨y59, hy59, H⟩ := bindS H
  apply Run.op; (apply L_ixR2; rfl; rfl; rfl; (exact hy59); rfl; rfl); rfl; rfl
  apply R_ldP; rfl; rfl; (exact row_ld0 hy59 rfl (fun _ => rfl)); rfl; rfl; rfl
  apply R_mov; rfl; rfl; rfl
  apply R_add; rfl; rfl; rfl; rfl; rfl
  obtain ⟨y60, hy60, H⟩ := bindS H
  apply Run.op; (apply L_ixR2; rfl; rfl; rfl; (exact hy60); rfl; rfl); rfl; rfl
  obtain ⟨v61, hv61, H⟩ := bindS H
  have hl62 := setI_lenS hv61
  apply Run.op; (apply L_st; rfl; rfl; rfl; rfl; rfl; (intro h; cases h); (exact row_ble0 (sz := 1) (n := 1) hy60 (fun _ => rfl) (by decide)); (exact row_stL (sz := 1) hv61 hy60 (fun _ => rfl) rfl)); rfl; rfl
  apply dn
  apply x5
  obtain rfl := Option.some.inj H
  refine Ev.y1 ?_
  refine Ent.trans (Ent.relen (k := 8) (n' := v61.length) rfl (by first | (simp only [setI_len]; done) | (simp only [setI_len]; omega) | omega)) ?_
  refine Ent.trans (Ent.freeze (k := 9) rfl rfl (io1 hio _) rfl) ?_
  apply el [] (io0 hio _) <;> rfl
  replace H := ifF (of_decide_eq_false h) H
  (repeat apply sq)
  apply CodeT.exit
  apply x2
  obtain rfl := Option.some.inj H
  refine Ev.y3 ?_
  refine XEnv.mk ?_
  apply el [] (io0 hio _) <;> rfl
  skip
  intro e E' hX; obtain ⟨rfl, g65⟩ := XEnv.out hX
  refine x6 rfl ?_
  apply x5
  apply x3
  refine CodeT.weak g65 ?_
  apply rg
  apply R_mov; rfl; rfl; rfl
  apply R_sub; rfl; rfl; rfl; rfl; rfl
  apply R_asg; rfl; rfl; rfl
  apply dn
  obtain rfl := Option.some.inj H
  refine Ev.y1 ?_
  apply el [] (io0 hio _) <;> rfl
  replace H := ifF (of_decide_eq_false h) H
  (repeat apply sq)
  apply CodeT.exit
  apply x2
  obtain rfl := Option.some.inj H
  refine Ev.y3 ?_
  refine XEnv.mk ?_
  apply el [] (io0 hio _) <;> rfl
  skip
  intro e E' hX; obtain ⟨rfl, g68⟩ := XEnv.out hX
  refine x6 rfl ?_
  apply x3
  refine CodeT.weak g68 ?_
  (repeat apply sq)
  refine CodeT.weak (Ent.freezeW (k := 8) rfl rfl (io1 hio _) rfl) ?_
  apply rg
  apply R_movT; rfl; rfl; rfl; rfl
  obtain ⟨r69, hr69, H⟩ := bindS H
  apply Run.op; (apply L_callD1; rfl; rfl; (exact md_impl_natTrim d67.2 _ hr69); rfl; rfl); rfl; rfl
  apply R_movT; rfl; rfl; rfl; rfl
  apply R_asgT; rfl; rfl; rfl; rfl
  apply R_asgT; rfl; rfl; rfl; rfl
  apply dn
  apply x3
  apply CodeT.ret
  cases H
  apply x12
  exact RetIs.many (.inl rfl) (ResL.cons (Res1.deep rfl rfl) (ResL.cons (Res1.deep rfl rfl) ResL.nil)) (fun h => by first | rfl | cases h)
theorem m_impl_copyInts (a0 : (List Int)) (r : (List Int)) (H : impl_copyInts a0 = some r) : Meets Try.prog 84 [.sl a0.length (a0.flatMap (encI .i64))] (.rw 1 r.length (r.flatMap (encI .i64))) true := by
  refine Meets.intro2 (N := 6) (rs := #[.tmp 2]) Try.func84 rfl rfl rfl rfl ?_
  intro Γ hio
  unfold impl_copyInts at H
  (repeat apply sq)
  apply rg
  apply R_asg; rfl; rfl; rfl
  apply dn
  apply x3
  (repeat apply sq)
  apply rg
  apply Run.op; (apply L_bs0; (exact io1 hio _); rfl); rfl; rfl
  apply R_mov; rfl; rfl; rfl
  obtain ⟨_u, ha1, H⟩ := bindS H
  obtain ⟨v2, hv2, H⟩ := bindS H
  apply Run.op; (apply L_app true; rfl; rfl; rfl; (exact flat_len (l := ([] : List Int)) (enc := (encI .i64)) (fun _ => rfl)); (exact flat_len (l := a0) (enc := (encI .i64)) (fun _ => rfl)); (exact chkS ha1); (exact app63 (by decide) (chkS ha1)); (exact ⟨io1 hio _, io1 hio _⟩); (intro _; exact allSc_flat (l := a0) (enc := (encI .i64)) (fun _ => rfl)); (exact flat_catL (l := ([] : List Int)) (r := a0) (enc := (encI .i64)) hv2); rfl); rfl; rfl
  apply R_asg; rfl; rfl; rfl
  apply dn
  apply x3
  apply CodeT.ret
  cases H
  apply x12
  exact RetIs.rW rfl rfl rfl (io1 hio _)
theorem m_impl_natGcd (a0 : (List Int)) (a1 : (List Int)) (r : (List Int)) (H : impl_natGcd a0 a1 = some r) : Meets Try.prog 57 [.sl a0.length (a0.flatMap (encI .i64)), .sl a1.length (a1.flatMap (encI .i64))] (.rw 1 r.length (r.flatMap (encI .i64))) true := by
  refine Meets.intro2 (N := 43) (rs := #[.tmp 4]) Try.func57 rfl rfl rfl rfl ?_
  intro Γ hio
  unfold impl_natGcd at H
  (repeat apply sq)
  apply rg
  apply R_asg; rfl; rfl; rfl
  apply dn
  apply x3
  (repeat apply sq)
  apply CodeT.block
  (repeat apply sq)
  obtain ⟨d31, hd31, H⟩ := bindS H
  refine CodeT.lloop (fun s => ⟨[(0, ⟨.sl s.1.length (s.1.flatMap (encI .i64)), false⟩), (1, ⟨.sl s.2.length (s.2.flatMap (encI .i64)), false⟩)], []⟩) (fun x e E => match x with | (.inl d) => XEnv Γ (.exit 0) ⟨[(0, ⟨.sl d.length (d.flatMap (encI .i64)), false⟩)], []⟩ e E | (.inr d) => XRet Γ #[.tmp 4] (.rw 1 d.length (d.flatMap (encI .i64))) true e E) hd31 ?_ ?_ ?_
  apply el [] (io0 hio _) <;> rfl
  clear H hd31
  rintro ⟨v15, v16⟩ o H
  unfold impl_natGcd_L2 at H
  (repeat apply sq)
  apply rg
  apply R_mov; rfl; rfl; rfl
  apply R_len; rfl; rfl; rfl
  apply R_gtr; rfl; rfl; rfl; rfl
  apply dn
  apply x3
  (repeat apply sq)
  refine CodeT.cond rfl (fun h => ?_) (fun h => ?_)
  replace H := ifT (of_decide_eq_true h) H
  (repeat apply sq)
  apply CodeT.skip
  apply x3
  apply CodeT.block
  (repeat apply sq)
  obtain ⟨d18, hd18, H⟩ := bindS H
  refine CodeT.lcut (x := d18) (fun d e E => XEnv Γ .normal ⟨[(0, ⟨.sl v15.length (v15.flatMap (encI .i64)), false⟩), (1, ⟨.sl v16.length (v16.flatMap (encI .i64)), false⟩), (19, ⟨.sc (.bool d), false⟩)], []⟩ e E) ?_ ?_
  clear H; have H := hd18; clear hd18
  apply rg
  apply R_mov; rfl; rfl; rfl
  apply R_len; rfl; rfl; rfl
  apply R_dec; (apply L_leq; rfl; rfl; rfl); rfl
  intro h; replace H := ifT h H
  apply R_mov; rfl; rfl; rfl
  apply R_mov; rfl; rfl; rfl
  apply R_len; rfl; rfl; rfl
  apply R_leq; rfl; rfl; rfl; rfl
  apply R_pickT; rfl; rfl; rfl; rfl
  apply dn
  obtain rfl := Option.some.inj H
  refine Ev.y4 ?_
  refine XEnv.mk ?_
  apply el [] (io0 hio _) <;> rfl
  intro h; replace H := ifF h H
  apply R_mov; rfl; rfl; rfl
  apply Run.skip; rfl
  apply Run.skip; rfl
  apply Run.skip; rfl
  apply R_pickF; rfl; rfl; rfl; rfl
  apply dn
  obtain rfl := Option.some.inj H
  refine Ev.y4 ?_
  refine XEnv.mk ?_
  apply el [] (io0 hio _) <;> rfl
  intro e E' hX; obtain ⟨rfl, g19⟩ := XEnv.out hX
  apply x3
  refine CodeT.weak g19 ?_
  (repeat apply sq)
  refine CodeT.cond rfl (fun h => ?_) (fun h => ?_)
  replace H := ifTb h H
  (repeat apply sq)
  apply rg
  apply R_mov; rfl; rfl; rfl
  obtain ⟨r20, hr20, H⟩ := bindS H
  apply Run.op; (apply L_call; ((apply ArgsV.cons; (apply ArgV.val; rfl; rfl)); (apply ArgsV.nil)); (exact m_impl_natSmall v15 _ hr20); rfl; rfl; rfl); rfl; rfl
  apply R_mov; rfl; rfl; rfl
  obtain ⟨r21, hr21, H⟩ := bindS H
  apply Run.op; (apply L_call; ((apply ArgsV.cons; (apply ArgV.val; rfl; rfl)); (apply ArgsV.nil)); (exact m_impl_natSmall v16 _ hr21); rfl; rfl; rfl); rfl; rfl
  apply R_asg; rfl; rfl; rfl
  apply R_asg; rfl; rfl; rfl
  apply dn
  apply x3
  (repeat apply sq)
  apply CodeT.block
  (repeat apply sq)
  obtain ⟨d27, hd27, H⟩ := bindS H
  refine CodeT.lloop (fun s => ⟨[(5, ⟨.sc (.int .i64 s.1), false⟩), (6, ⟨.sc (.int .i64 s.2), false⟩)], []⟩) (fun d e E => XEnv Γ (.exit 2) ⟨[(5, ⟨.sc (.int .i64 d), false⟩)], []⟩ e E) hd27 ?_ ?_ ?_
  apply el [] (io0 hio _) <;> rfl
  clear H hd27
  rintro ⟨v23, v24⟩ o H
  unfold impl_natGcd_L1 at H
  (repeat apply sq)
  apply rg
  apply R_mov; rfl; rfl; rfl
  apply R_gtr; rfl; rfl; rfl; rfl
  apply dn
  apply x3
  (repeat apply sq)
  refine CodeT.cond rfl (fun h => ?_) (fun h => ?_)
  replace H := ifT (of_decide_eq_true h) H
  (repeat apply sq)
  apply CodeT.skip
  apply x3
  apply CodeT.block
  (repeat apply sq)
  apply rg
  apply R_mov; rfl; rfl; rfl
  apply R_mov; rfl; rfl; rfl
  apply R_mov; rfl; rfl; rfl
  obtain ⟨_u, hq25, H⟩ := bindS H
  apply Run.op; (apply L_rem; rfl; rfl; (exact chkS hq25); rfl; rfl); rfl; rfl
  apply R_asg; rfl; rfl; rfl
  apply R_asg; rfl; rfl; rfl
  apply Run.done; refine ⟨fun _ => ⟨rfl, rfl⟩, ?_⟩
  apply x5
  obtain rfl := Option.some.inj H
  refine Ev.y1 ?_
  apply el [] (io0 hio _) <;> rfl
  replace H := ifF (of_decide_eq_false h) H
  (repeat apply sq)
  apply CodeT.exit
  apply x2
  obtain rfl := Option.some.inj H
  refine Ev.y3 ?_
  refine XEnv.mk ?_
  apply el [] (io0 hio _) <;> rfl
  skip
  intro e E' hX; obtain ⟨rfl, g28⟩ := XEnv.out hX
  refine x6 rfl ?_
  apply x3
  refine CodeT.weak g28 ?_
  (repeat apply sq)
  apply rg
  apply R_mov; rfl; rfl; rfl
  apply Run.op; (apply L_conv; rfl; rfl; rfl); rfl; rfl
  obtain ⟨r29, hr29, H⟩ := bindS H
  apply Run.op; (apply L_callW; ((apply ArgsV.cons; (apply ArgV.val; rfl; rfl)); (apply ArgsV.nil)); (exact m_impl_natOfUint (IntKind.u64.wrap d27) _ hr29); (exact io1 hio _); rfl); rfl; rfl
  apply R_asg; rfl; rfl; rfl
  apply dn
  apply x3
  apply CodeT.ret
  apply x1
  apply x4
  obtain rfl := Option.some.inj H
  refine Ev.y2 ?_
  refine XRet.mk ?_
  exact RetIs.rW rfl rfl rfl (io1 hio _)
  replace H := ifFb h H
  (repeat apply sq)
  apply CodeT.skip
  apply x3
  (repeat apply sq)
  apply rg
  apply R_mov; rfl; rfl; rfl
  apply R_mov; rfl; rfl; rfl
  obtain ⟨r30, hr30, H⟩ := bindS H
  apply Run.op; (apply L_call; ((apply ArgsV.cons; (apply ArgV.val; rfl; rfl)); (apply ArgsV.cons; (apply ArgV.val; rfl; rfl)); (apply ArgsV.nil)); (exact m_impl_natDiv v15 v16 _ hr30); rfl; rfl; rfl); rfl; rfl
  apply R_movT; rfl; rfl; rfl; rfl
  apply Run.op; (apply L_extT; rfl; rfl; rfl; rfl; rfl); rfl; rfl
  apply Run.op; (apply L_extT; rfl; rfl; rfl; rfl; rfl); rfl; rfl
  apply R_asgT; rfl; rfl; rfl; rfl
  apply R_asgT; rfl; rfl; rfl; rfl
  apply dn
  apply x3
  apply rg
  apply R_mov; rfl; rfl; rfl
  apply R_movT; rfl; rfl; rfl; rfl
  apply R_asg; rfl; rfl; rfl
  apply R_asgT; rfl; rfl; rfl; rfl
  apply dn
  apply x5
  obtain rfl := Option.some.inj H
  refine Ev.y1 ?_
  apply el [] (io0 hio _) <;> rfl
  replace H := ifF (of_decide_eq_false h) H
  (repeat apply sq)
  apply CodeT.exit
  apply x2
  obtain rfl := Option.some.inj H
  refine Ev.y3 ?_
  refine XEnv.mk ?_
  apply el [] (io0 hio _) <;> rfl
  rcases d31 with (d32 | d35)
  intro e E' hX; obtain ⟨rfl, g33⟩ := XEnv.out hX
  refine x6 rfl ?_
  apply x3
  refine CodeT.weak g33 ?_
  (repeat apply sq)
  apply rg
  apply R_mov; rfl; rfl; rfl
  obtain ⟨r34, hr34, H⟩ := bindS H
  apply Run.op; (apply L_callW; ((apply ArgsV.cons; (apply ArgV.val; rfl; rfl)); (apply ArgsV.nil)); (exact m_impl_copyInts d32 _ hr34); (exact io1 hio _); rfl); rfl; rfl
  apply R_asg; rfl; rfl; rfl
  apply dn
  apply x3
  apply CodeT.ret
  cases H
  apply x12
  exact RetIs.rW rfl rfl rfl (io1 hio _)
  intro e E' hX; obtain ⟨rfl, g36⟩ := XRet.out hX
  apply x4
  apply x1
  cases H
  apply x12
  exact g36
theorem m_impl_RatOk (a0 : Rat) (r : Bool) (H : impl_RatOk a0 = some r) : Meets Try.prog 33 [.agg (encRat a0)] (.sc (.bool r)) true := by
  refine Meets.intro2 (N := 46) (rs := #[.tmp 2]) Try.func33 rfl rfl rfl rfl ?_
  intro Γ hio
  unfold impl_RatOk at H
  (repeat apply sq)
  apply rg
  apply Run.op; (apply L_box false; rfl; rfl; rfl; (exact io1 hio _); rfl); rfl; rfl
  apply R_asg; rfl; rfl; rfl
  apply dn
  apply x3
  (repeat apply sq)
  obtain ⟨d4, hd4, H⟩ := bindS H
  refine CodeT.lcut (x := d4) (fun d e E => XEnv Γ .normal ⟨[(1, ⟨.ptr 1 0, false⟩), (19, ⟨.sc (.bool d), false⟩)], [(1, some ⟨(encRat a0), false, false⟩)]⟩ e E) ?_ ?_
  clear H; have H := hd4; clear hd4
  apply rg
  apply R_fldP; rfl; rfl; rfl; rfl; rfl
  apply R_ldPA; rfl; rfl; (first | exact seg_whole rfl | rfl); rfl; rfl; rfl; rfl; rfl
  obtain ⟨r1, hr1, H⟩ := bindS H
  apply R_bool; (apply L_call; ((apply ArgsV.cons; (apply ArgV.val; rfl; rfl)); (apply ArgsV.nil)); (exact m_impl_BigIntOk a0.fNum _ hr1); rfl; rfl; rfl); rfl
  intro h; replace H := ifTb h H
  apply R_not; rfl; rfl; rfl
  apply R_mov; rfl; rfl; rfl
  apply R_fldP; rfl; rfl; rfl; rfl; rfl
  apply R_ldP; rfl; rfl; rfl; rfl; rfl; rfl
  obtain ⟨r2, hr2, H⟩ := bindS H
  apply R_bool; (apply L_call; ((apply ArgsV.cons; (apply ArgV.val; rfl; rfl)); (apply ArgsV.nil)); (exact m_impl_NatOk a0.fDen _ hr2); rfl; rfl; rfl); rfl
  intro h; replace H := ifTb h H
  apply R_not; rfl; rfl; rfl
  apply R_pickF; rfl; rfl; rfl; rfl
  apply R_mov; rfl; rfl; rfl
  apply R_fldP; rfl; rfl; rfl; rfl; rfl
  apply R_ldP; rfl; rfl; rfl; rfl; rfl; rfl
  apply R_len; rfl; rfl; rfl
  apply R_eql; rfl; rfl; rfl; rfl
  apply R_pickF; rfl; rfl; rfl; rfl
  apply dn
  obtain rfl := Option.some.inj H
  refine Ev.y4 ?_
  refine XEnv.mk ?_
  apply el [] (io0 hio _) <;> rfl
  intro h; replace H := ifFb h H
  apply R_not; rfl; rfl; rfl
  apply R_pickF; rfl; rfl; rfl; rfl
  apply R_mov; rfl; rfl; rfl
  apply Run.skip; rfl
  apply Run.skip; rfl
  apply Run.skip; rfl
  apply Run.skip; rfl
  apply R_pickT; rfl; rfl; rfl; rfl
  apply dn
  obtain rfl := Option.some.inj H
  refine Ev.y4 ?_
  refine XEnv.mk ?_
  apply el [] (io0 hio _) <;> rfl
  intro h; replace H := ifFb h H
  apply R_not; rfl; rfl; rfl
  apply R_mov; rfl; rfl; rfl
  apply Run.skip; rfl
  apply Run.skip; rfl
  apply Run.skip; rfl
  apply Run.skip; rfl
  apply R_pickT; rfl; rfl; rfl; rfl
  apply R_mov; rfl; rfl; rfl
  apply Run.skip; rfl
  apply Run.skip; rfl
  apply Run.skip; rfl
  apply Run.skip; rfl
  apply R_pickT; rfl; rfl; rfl; rfl
  apply dn
  obtain rfl := Option.some.inj H
  refine Ev.y4 ?_
  refine XEnv.mk ?_
  apply el [] (io0 hio _) <;> rfl
  intro e E' hX; obtain ⟨rfl, g5⟩ := XEnv.out hX
  apply x3
  refine CodeT.weak g5 ?_
  (repeat apply sq)
  refine CodeT.cond rfl (fun h => ?_) (fun h => ?_)
  replace H := ifTb h H
  (repeat apply sq)
  apply rg
  apply R_asg; rfl; rfl; rfl
  apply dn
  apply x3
  apply CodeT.ret
  apply x1
  cases H
  apply x12
  exact RetIs.sc1 rfl
  replace H := ifFb h H
  (repeat apply sq)
  apply CodeT.skip
  apply x3
  (repeat apply sq)
  obtain ⟨d7, hd7, H⟩ := bindS H
  refine CodeT.lcut (x := d7) (fun d e E => XEnv Γ .normal ⟨[(1, ⟨.ptr 1 0, false⟩), (30, ⟨.sc (.bool d), false⟩)], [(1, some ⟨(encRat a0), false, false⟩)]⟩ e E) ?_ ?_
  clear H; have H := hd7; clear hd7
  apply rg
  apply R_fldP; rfl; rfl; rfl; rfl; rfl
  apply R_fldP; rfl; rfl; rfl; rfl; rfl
  apply R_ldP; rfl; rfl; rfl; rfl; rfl; rfl
  apply R_len; rfl; rfl; rfl
  apply R_dec; (apply L_gtr; rfl; rfl; rfl); rfl
  intro h; replace H := ifT h H
  apply R_mov; rfl; rfl; rfl
  apply Run.skip; rfl
  apply Run.skip; rfl
  apply Run.skip; rfl
  apply Run.skip; rfl
  apply R_pickT; rfl; rfl; rfl; rfl
  apply dn
  obtain rfl := Option.some.inj H
  refine Ev.y4 ?_
  refine XEnv.mk ?_
  apply el [] (io0 hio _) <;> rfl
  intro h; replace H := ifF h H
  apply R_mov; rfl; rfl; rfl
  apply R_fldP; rfl; rfl; rfl; rfl; rfl
  apply R_ldP; rfl; rfl; rfl; rfl; rfl; rfl
  apply R_len; rfl; rfl; rfl
  apply R_gtr; rfl; rfl; rfl; rfl
  apply R_pickF; rfl; rfl; rfl; rfl
  apply dn
  obtain rfl := Option.some.inj H
  refine Ev.y4 ?_
  refine XEnv.mk ?_
  apply el [] (io0 hio _) <;> rfl
  intro e E' hX; obtain ⟨rfl, g8⟩ := XEnv.out hX
  apply x3
  refine CodeT.weak g8 ?_
  (repeat apply sq)
  refine CodeT.cond rfl (fun h => ?_) (fun h => ?_)
  replace H := ifTb h H
  (repeat apply sq)
  apply rg
  apply R_asg; rfl; rfl; rfl
  apply dn
  apply x3
  apply CodeT.ret
  apply x1
  cases H
  apply x12
  exact RetIs.sc1 rfl
  replace H := ifFb h H
  (repeat apply sq)
  apply CodeT.skip
  apply x3
  (repeat apply sq)
  apply rg
  apply R_fldP; rfl; rfl; rfl; rfl; rfl
  apply R_fldP; rfl; rfl; rfl; rfl; rfl
  apply R_ldP; rfl; rfl; rfl; rfl; rfl; rfl
  apply R_fldP; rfl; rfl; rfl; rfl; rfl
  apply R_ldP; rfl; rfl; rfl; rfl; rfl; rfl
  obtain ⟨r9, hr9, H⟩ := bindS H
  apply Run.op; (apply L_callW; ((apply ArgsV.cons; (apply ArgV.val; rfl; rfl)); (apply ArgsV.cons; (apply ArgV.val; rfl; rfl)); (apply ArgsV.nil)); (exact m_impl_natGcd a0.fNum.fMag a0.fDen _ hr9); (exact io1 hio _); rfl); rfl; rfl
  apply R_asg; rfl; rfl; rfl
  apply dn
  apply x3
  (repeat apply sq)
  apply rg
  apply R_mov; rfl; rfl; rfl
  apply Run.op; (apply L_lenR; rfl; rfl; rfl); rfl; rfl
  apply R_dec; (apply L_eql; rfl; rfl; rfl); rfl
  intro h; replace H := ifT h H
  apply R_mov; rfl; rfl; rfl
  apply R_mov; rfl; rfl; rfl
  obtain ⟨y10, hy10, H⟩ := bindS H
  apply Run.op; (apply L_ixR2; rfl; rfl; rfl; (exact hy10); rfl; rfl); rfl; rfl
  apply R_ldP; rfl; rfl; (exact row_ld0 hy10 rfl (fun _ => rfl)); rfl; rfl; rfl
  apply R_eql; rfl; rfl; rfl; rfl
  apply R_pickT; rfl; rfl; rfl; rfl
  apply R_asg; rfl; rfl; rfl
  apply dn
  apply x3
  apply CodeT.ret
  cases H
  apply x12
  exact RetIs.sc1 rfl
  intro h; replace H := ifF h H
  apply R_mov; rfl; rfl; rfl
  apply Run.skip; rfl
  apply Run.skip; rfl
  apply Run.skip; rfl
  apply Run.skip; rfl
  apply R_pickF; rfl; rfl; rfl; rfl
  apply R_asg; rfl; rfl; rfl
  apply dn
  apply x3
  apply CodeT.ret
  cases H
  apply x12
  exact RetIs.sc1 rfl
theorem m_impl_good (a0 : Rat) (r : Bool) (H : impl_good a0 = some r) : Meets Try.prog 58 [.agg (encRat a0)] (.sc (.bool r)) true := by
  refine Meets.intro2 (N := 7) (rs := #[.tmp 2]) Try.func58 rfl rfl rfl rfl ?_
  intro Γ hio
  unfold impl_good at H
  (repeat apply sq)
  apply rg
  apply Run.op; (apply L_box false; rfl; rfl; rfl; (exact io1 hio _); rfl); rfl; rfl
  apply R_asg; rfl; rfl; rfl
  apply dn
  apply x3
  (repeat apply sq)
  apply rg
  apply R_fldP; rfl; rfl; rfl; rfl; rfl
  apply R_ldP; rfl; rfl; rfl; rfl; rfl; rfl
  apply R_len; rfl; rfl; rfl
  apply R_gtr; rfl; rfl; rfl; rfl
  apply R_asg; rfl; rfl; rfl
  apply dn
  apply x3
  apply CodeT.ret
  cases H
  apply x12
  exact RetIs.sc1 rfl
theorem m_impl_denOf (a0 : Rat) (r : BigInt) (H : impl_denOf a0 = some r) : Meets Try.prog 61 [.agg (encRat a0)] (.agg (encBigInt r)) false := by
  refine Meets.intro2 (N := 6) (rs := #[.cell 2 28]) Try.func61 rfl rfl rfl rfl ?_
  intro Γ hio
  unfold impl_denOf at H
  (repeat apply sq)
  apply rg
  apply Run.op; (apply L_box false; rfl; rfl; rfl; (exact io1 hio _); rfl); rfl; rfl
  apply Run.op; (apply L_alloc false; (exact io1 hio _); rfl); rfl; rfl
  apply dn
  apply x3
  (repeat apply sq)
  apply rg
  apply R_fldP; rfl; rfl; rfl; rfl; rfl
  apply R_ldP; rfl; rfl; rfl; rfl; rfl; rfl
  apply Run.op; (apply L_buildC false; (apply BuildV.sh; rfl; rfl; rfl; rfl; rfl; rfl; rfl; apply BuildV.nil); rfl; rfl); rfl; rfl
  apply Run.op; (apply L_st (cells' := [.sc (.bool false), .sl a0.fDen.length (a0.fDen.flatMap (encI .i64))]); rfl; rfl; rfl; rfl; rfl; (intro h; cases h); rfl; (first | exact splice_whole rfl | rfl)); rfl; rfl
  apply dn
  apply x3
  apply CodeT.ret
  cases H
  apply x12
  exact RetIs.c0 rfl rfl rfl (by intro h; cases h)
theorem m_impl_bigMul (a0 : BigInt) (a1 : BigInt) (r : BigInt) (H : impl_bigMul a0 a1 = some r) : Meets Try.prog 60 [.agg (encBigInt a0), .agg (encBigInt a1)] (.agg (encWBigInt r)) true := by
  refine Meets.intro2 (N := 16) (rs := #[.cell 4 28]) Try.func60 rfl rfl rfl rfl ?_
  intro Γ hio
  unfold impl_bigMul at H
  (repeat apply sq)
  apply rg
  apply Run.op; (apply L_box false; rfl; rfl; rfl; (exact io1 hio _); rfl); rfl; rfl
  apply Run.op; (apply L_box false; rfl; rfl; rfl; (exact io1 hio _); rfl); rfl; rfl
  apply Run.op; (apply L_alloc false; (exact io1 hio _); rfl); rfl; rfl
  apply dn
  apply x3
  (repeat apply sq)
  apply rg
  apply R_fldP; rfl; rfl; rfl; rfl; rfl
  apply R_ldP; rfl; rfl; rfl; rfl; rfl; rfl
  apply R_fldP; rfl; rfl; rfl; rfl; rfl
  apply R_ldP; rfl; rfl; rfl; rfl; rfl; rfl
  apply Run.op; (apply L_bneq; rfl; rfl; rfl); rfl; rfl
  apply R_fldP; rfl; rfl; rfl; rfl; rfl
  apply R_ldP; rfl; rfl; rfl; rfl; rfl; rfl
  apply R_fldP; rfl; rfl; rfl; rfl; rfl
  apply R_ldP; rfl; rfl; rfl; rfl; rfl; rfl
  obtain ⟨r1, hr1, H⟩ := bindS H
  apply Run.op; (apply L_call; ((apply ArgsV.cons; (apply ArgV.val; rfl; rfl)); (apply ArgsV.cons; (apply ArgV.val; rfl; rfl)); (apply ArgsV.nil)); (exact m_impl_natMul a0.fMag a1.fMag _ hr1); rfl; rfl; rfl); rfl; rfl
  obtain ⟨r2, hr2, H⟩ := bindS H
  apply Run.op; (apply L_callD2; rfl; rfl; rfl; rfl; rfl; (exact md_impl_bigMake (!(a0.fNeg == a1.fNeg)) r1 _ hr2); rfl; rfl); rfl; rfl
  apply Run.op; (apply L_stT (cells' := (encWBigInt r2)); rfl; rfl; rfl; rfl; rfl; rfl; (intro h; cases h); rfl; (first | exact splice_whole rfl | rfl)); rfl; rfl
  apply Run.done; refine ⟨fun _ => ⟨rfl, rfl⟩, ?_⟩
  apply x3
  apply CodeT.ret
  cases H
  apply x12
  exact RetIs.c1 rfl rfl rfl rfl (by intro h; cases h)
theorem m_impl_natAdd (a0 : (List Int)) (a1 : (List Int)) (r : (List Int)) (H : impl_natAdd a0 a1 = some r) : Meets Try.prog 85 [.sl a0.length (a0.flatMap (encI .i64)), .sl a1.length (a1.flatMap (encI .i64))] (.rw 1 r.length (r.flatMap (encI .i64))) true := by
  refine Meets.intro2 (N := 53) (rs := #[.tmp 4]) Try.func85 rfl rfl rfl rfl ?_
  intro Γ hio
  unfold impl_natAdd at H
  (repeat apply sq)
  apply rg
  apply R_asg; rfl; rfl; rfl
  apply dn
  apply x3
  (repeat apply sq)
  apply rg
  apply Run.op; (apply L_bs0; (exact io1 hio _); rfl); rfl; rfl
  apply R_asg; rfl; rfl; rfl
  apply dn
  apply x3
  (repeat apply sq)
  apply rg
  apply R_asg; rfl; rfl; rfl
  apply dn
  apply x3
  (repeat apply sq)
  apply rg
  apply R_asg; rfl; rfl; rfl
  apply dn
  apply x3
  (repeat apply sq)
  apply CodeT.block
  (repeat apply sq)
  obtain ⟨d33, hd33, H⟩ := bindS H
  refine CodeT.lloop (fun s => ⟨[(0, ⟨.sl a0.length (a0.flatMap (encI .i64)), false⟩), (1, ⟨.sl a1.length (a1.flatMap (encI .i64)), false⟩), (5, ⟨.ref 505 1 0 s.2.2.length, false⟩), (6, ⟨.sc (.int .i64 s.1), false⟩), (7, ⟨.sc (.int .i64 s.2.1), false⟩)], [(505, some ⟨s.2.2.flatMap (encI .i64), true, false⟩)]⟩) (fun d e E => XEnv Γ (.exit 0) ⟨[(5, ⟨.ref 505 1 0 d.length, false⟩)], [(505, some ⟨d.flatMap (encI .i64), true, false⟩)]⟩ e E) hd33 ?_ ?_ ?_
  apply el [(505, 8)] (io0 hio _) <;> rfl
  clear H hd33
  rintro ⟨v15, v16, v17⟩ o H
  unfold impl_natAdd_L1 at H
  (repeat apply sq)
  obtain ⟨d19, hd19, H⟩ := bindS H
  refine CodeT.lcut (x := d19) (fun d e E => XEnv Γ .normal ⟨[(0, ⟨.sl a0.length (a0.flatMap (encI .i64)), false⟩), (1, ⟨.sl a1.length (a1.flatMap (encI .i64)), false⟩), (5, ⟨.ref 505 1 0 v17.length, false⟩), (6, ⟨.sc (.int .i64 v15), false⟩), (7, ⟨.sc (.int .i64 v16), false⟩), (22, ⟨.sc (.bool d), false⟩)], [(505, some ⟨v17.flatMap (encI .i64), true, false⟩)]⟩ e E) ?_ ?_
  clear H; have H := hd19; clear hd19
  apply rg
  apply R_mov; rfl; rfl; rfl
  apply R_mov; rfl; rfl; rfl
  apply R_len; rfl; rfl; rfl
  apply R_dec; (apply L_lss; rfl; rfl; rfl); rfl
  intro h; replace H := ifT h H
  apply R_mov; rfl; rfl; rfl
  apply Run.skip; rfl
  apply Run.skip; rfl
  apply Run.skip; rfl
  apply Run.skip; rfl
  apply R_pickT; rfl; rfl; rfl; rfl
  apply R_mov; rfl; rfl; rfl
  apply Run.skip; rfl
  apply Run.skip; rfl
  apply R_pickT; rfl; rfl; rfl; rfl
  apply dn
  obtain rfl := Option.some.inj H
  refine Ev.y4 ?_
  refine XEnv.mk ?_
  apply el [] (io0 hio _) <;> rfl
  intro h; replace H := ifF h H
  apply R_mov; rfl; rfl; rfl
  apply R_mov; rfl; rfl; rfl
  apply R_mov; rfl; rfl; rfl
  apply R_len; rfl; rfl; rfl
  apply R_dec; (apply L_lss; rfl; rfl; rfl); rfl
  intro h; replace H := ifT h H
  apply R_pickF; rfl; rfl; rfl; rfl
  apply R_mov; rfl; rfl; rfl
  apply Run.skip; rfl
  apply Run.skip; rfl
  apply R_pickT; rfl; rfl; rfl; rfl
  apply dn
  obtain rfl := Option.some.inj H
  refine Ev.y4 ?_
  refine XEnv.mk ?_
  apply el [] (io0 hio _) <;> rfl
  intro h; replace H := ifF h H
  apply R_pickF; rfl; rfl; rfl; rfl
  apply R_mov; rfl; rfl; rfl
  apply R_mov; rfl; rfl; rfl
  apply R_gtr; rfl; rfl; rfl; rfl
  apply R_pickF; rfl; rfl; rfl; rfl
  apply dn
  obtain rfl := Option.some.inj H
  refine Ev.y4 ?_
  refine XEnv.mk ?_
  apply el [] (io0 hio _) <;> rfl
  intro e E' hX; obtain ⟨rfl, g20⟩ := XEnv.out hX
  apply x3
  refine CodeT.weak g20 ?_
  (repeat apply sq)
  refine CodeT.cond rfl (fun h => ?_) (fun h => ?_)
  replace H := ifTb h H
  (repeat apply sq)
  apply CodeT.skip
  apply x3
  (repeat apply sq)
  apply CodeT.block
  (repeat apply sq)
  apply rg
  apply R_mov; rfl; rfl; rfl
  apply R_mov; rfl; rfl; rfl
  apply R_len; rfl; rfl; rfl
  apply R_lss; rfl; rfl; rfl; rfl
  apply dn
  apply x3
  (repeat apply sq)
  obtain ⟨d23, hd23, H⟩ := bindS H
  refine CodeT.lcut (x := d23) (fun d e E => XEnv Γ .normal ⟨[(0, ⟨.sl a0.length (a0.flatMap (encI .i64)), false⟩), (1, ⟨.sl a1.length (a1.flatMap (encI .i64)), false⟩), (5, ⟨.ref 505 1 0 v17.length, false⟩), (6, ⟨.sc (.int .i64 d), false⟩), (7, ⟨.sc (.int .i64 v16), false⟩)], [(505, some ⟨v17.flatMap (encI .i64), true, false⟩)]⟩ e E) ?_ ?_
  clear H; have H := hd23; clear hd23
  refine CodeT.cond rfl (fun h => ?_) (fun h => ?_)
  replace H := ifT (of_decide_eq_true h) H
  (repeat apply sq)
  apply rg
  apply R_mov; rfl; rfl; rfl
  apply R_mov; rfl; rfl; rfl
  apply R_mov; rfl; rfl; rfl
  obtain ⟨y21, hy21, H⟩ := bindS H
  apply Run.op; (apply L_ixS2; rfl; rfl; rfl; (exact hy21); (intro _; rfl); rfl); rfl; rfl
  apply R_ldI; rfl; rfl; rfl; rfl; rfl
  apply R_add; rfl; rfl; rfl; rfl; rfl
  apply R_asg; rfl; rfl; rfl
  apply dn
  obtain rfl := Option.some.inj H
  refine Ev.y4 ?_
  refine XEnv.mk ?_
  apply el [] (io0 hio _) <;> rfl
  replace H := ifF (of_decide_eq_false h) H
  (repeat apply sq)
  apply CodeT.skip
  obtain rfl := Option.some.inj H
  refine Ev.y4 ?_
  refine XEnv.mk ?_
  apply el [] (io0 hio _) <;> rfl
  intro e E' hX; obtain ⟨rfl, g24⟩ := XEnv.out hX
  apply x3
  refine CodeT.weak g24 ?_
  (repeat apply sq)
  apply rg
  apply R_mov; rfl; rfl; rfl
  apply R_mov; rfl; rfl; rfl
  apply R_len; rfl; rfl; rfl
  apply R_lss; rfl; rfl; rfl; rfl
  apply dn
  apply x3
  (repeat apply sq)
  obtain ⟨d27, hd27, H⟩ := bindS H
  refine CodeT.lcut (x := d27) (fun d e E => XEnv Γ .normal ⟨[(0, ⟨.sl a0.length (a0.flatMap (encI .i64)), false⟩), (1, ⟨.sl a1.length (a1.flatMap (encI .i64)), false⟩), (5, ⟨.ref 505 1 0 v17.length, false⟩), (6, ⟨.sc (.int .i64 d), false⟩), (7, ⟨.sc (.int .i64 v16), false⟩)], [(505, some ⟨v17.flatMap (encI .i64), true, false⟩)]⟩ e E) ?_ ?_
  clear H; have H := hd27; clear hd27
  refine CodeT.cond rfl (fun h => ?_) (fun h => ?_)
  replace H := ifT (of_decide_eq_true h) H
  (repeat apply sq)
  apply rg
  apply R_mov; rfl; rfl; rfl
  apply R_mov; rfl; rfl; rfl
  apply R_mov; rfl; rfl; rfl
  obtain ⟨y25, hy25, H⟩ := bindS H
  apply Run.op; (apply L_ixS2; rfl; rfl; rfl; (exact hy25); (intro _; rfl); rfl); rfl; rfl
  apply R_ldI; rfl; rfl; rfl; rfl; rfl
  apply R_add; rfl; rfl; rfl; rfl; rfl
  apply R_asg; rfl; rfl; rfl
  apply dn
  obtain rfl := Option.some.inj H
  refine Ev.y4 ?_
  refine XEnv.mk ?_
  apply el [] (io0 hio _) <;> rfl
  replace H := ifF (of_decide_eq_false h) H
  (repeat apply sq)
  apply CodeT.skip
  obtain rfl := Option.some.inj H
  refine Ev.y4 ?_
  refine XEnv.mk ?_
  apply el [] (io0 hio _) <;> rfl
  intro e E' hX; obtain ⟨rfl, g28⟩ := XEnv.out hX
  apply x3
  refine CodeT.weak g28 ?_
  (repeat apply sq)
  apply rg
  apply R_mov; rfl; rfl; rfl
  apply R_mov; rfl; rfl; rfl
  apply Run.op; (apply L_rem; rfl; rfl; (intro h; cases h); rfl; rfl); rfl; rfl
  apply Run.op; (apply L_bs1; rfl; rfl; rfl; rfl; rfl; rfl; rfl; rfl); rfl; rfl
  obtain ⟨_u, ha29, H⟩ := bindS H
  obtain ⟨v30, hv30, H⟩ := bindS H
  apply Run.op; (apply L_app true; rfl; rfl; rfl; (exact flat_len (l := v17) (enc := (encI .i64)) (fun _ => rfl)); rfl; (exact chkS ha29); (exact app63 (by decide) (chkS ha29)); (exact ⟨io1 hio _, io1 hio _⟩); (intro _; rfl); (exact flat_snocL (l := v17) (y := d27.tmod 1000000000) (enc := (encI .i64)) hv30); rfl); rfl; rfl
  apply R_asg; rfl; rfl; rfl
  apply dn
  apply x3
  apply rg
  apply R_mov; rfl; rfl; rfl
  obtain ⟨v31, hv31, H⟩ := bindS H
  apply Run.op; (apply L_quo; rfl; rfl; (intro h; cases h); (exact letS hv31); rfl); rfl; rfl
  apply R_asg; rfl; rfl; rfl
  apply dn
  apply x5
  apply x3
  apply rg
  apply R_mov; rfl; rfl; rfl
  apply R_add; rfl; rfl; rfl; rfl; rfl
  apply R_asg; rfl; rfl; rfl
  apply dn
  obtain rfl := Option.some.inj H
  refine Ev.y1 ?_
  apply el [(505, 49)] (io0 hio _) <;> rfl
  replace H := ifFb h H
  (repeat apply sq)
  apply CodeT.exit
  apply x2
  obtain rfl := Option.some.inj H
  refine Ev.y3 ?_
  refine XEnv.mk ?_
  apply el [] (io0 hio _) <;> rfl
  skip
  intro e E' hX; obtain ⟨rfl, g34⟩ := XEnv.out hX
  refine x6 rfl ?_
  apply x3
  refine CodeT.weak g34 ?_
  (repeat apply sq)
  apply rg
  apply R_mov; rfl; rfl; rfl
  apply R_asg; rfl; rfl; rfl
  apply dn
  apply x3
  apply CodeT.ret
  cases H
  apply x12
  exact RetIs.rW rfl rfl rfl (io1 hio _)
theorem m_impl_bigAdd (a0 : BigInt) (a1 : BigInt) (r : BigInt) (H : impl_bigAdd a0 a1 = some r) : Meets Try.prog 59 [.agg (encBigInt a0), .agg (encBigInt a1)] (.agg (encWBigInt r)) true := by
  refine Meets.intro2 (N := 40) (rs := #[.cell 4 28]) Try.func59 rfl rfl rfl rfl ?_
  intro Γ hio
  unfold impl_bigAdd at H
  (repeat apply sq)
  apply rg
  apply Run.op; (apply L_box false; rfl; rfl; rfl; (exact io1 hio _); rfl); rfl; rfl
  apply Run.op; (apply L_box false; rfl; rfl; rfl; (exact io1 hio _); rfl); rfl; rfl
  apply Run.op; (apply L_alloc false; (exact io1 hio _); rfl); rfl; rfl
  apply dn
  apply x3
  (repeat apply sq)
  apply rg
  apply R_fldP; rfl; rfl; rfl; rfl; rfl
  apply R_ldP; rfl; rfl; rfl; rfl; rfl; rfl
  apply R_fldP; rfl; rfl; rfl; rfl; rfl
  apply R_ldP; rfl; rfl; rfl; rfl; rfl; rfl
  apply Run.op; (apply L_beql; rfl; rfl; rfl); rfl; rfl
  apply dn
  apply x3
  (repeat apply sq)
  refine CodeT.cond rfl (fun h => ?_) (fun h => ?_)
  replace H := ifTb h H
  (repeat apply sq)
  apply rg
  apply R_fldP; rfl; rfl; rfl; rfl; rfl
  apply R_ldP; rfl; rfl; rfl; rfl; rfl; rfl
  apply R_fldP; rfl; rfl; rfl; rfl; rfl
  apply R_ldP; rfl; rfl; rfl; rfl; rfl; rfl
  apply R_fldP; rfl; rfl; rfl; rfl; rfl
  apply R_ldP; rfl; rfl; rfl; rfl; rfl; rfl
  obtain ⟨r1, hr1, H⟩ := bindS H
  apply Run.op; (apply L_call; ((apply ArgsV.cons; (apply ArgV.val; rfl; rfl)); (apply ArgsV.cons; (apply ArgV.val; rfl; rfl)); (apply ArgsV.nil)); (exact m_impl_natAdd a0.fMag a1.fMag _ hr1); rfl; rfl; rfl); rfl; rfl
  obtain ⟨r2, hr2, H⟩ := bindS H
  apply Run.op; (apply L_callD2; rfl; rfl; rfl; rfl; rfl; (exact md_impl_bigMake a0.fNeg r1 _ hr2); rfl; rfl); rfl; rfl
  apply Run.op; (apply L_stT (cells' := (encWBigInt r2)); rfl; rfl; rfl; rfl; rfl; rfl; (intro h; cases h); rfl; (first | exact splice_whole rfl | rfl)); rfl; rfl
  apply Run.done; refine ⟨fun _ => ⟨rfl, rfl⟩, ?_⟩
  apply x3
  apply CodeT.ret
  apply x1
  cases H
  apply x12
  exact RetIs.c1 rfl rfl rfl rfl (by intro h; cases h)
  replace H := ifFb h H
  (repeat apply sq)
  apply CodeT.skip
  apply x3
  (repeat apply sq)
  apply rg
  apply R_fldP; rfl; rfl; rfl; rfl; rfl
  apply R_ldP; rfl; rfl; rfl; rfl; rfl; rfl
  apply R_fldP; rfl; rfl; rfl; rfl; rfl
  apply R_ldP; rfl; rfl; rfl; rfl; rfl; rfl
  obtain ⟨r3, hr3, H⟩ := bindS H
  apply Run.op; (apply L_call; ((apply ArgsV.cons; (apply ArgV.val; rfl; rfl)); (apply ArgsV.cons; (apply ArgV.val; rfl; rfl)); (apply ArgsV.nil)); (exact m_impl_natCmp a0.fMag a1.fMag _ hr3); rfl; rfl; rfl); rfl; rfl
  apply Run.op; (apply L_geq; rfl; rfl; rfl); rfl; rfl
  apply dn
  apply x3
  (repeat apply sq)
  refine CodeT.cond rfl (fun h => ?_) (fun h => ?_)
  replace H := ifT (of_decide_eq_true h) H
  (repeat apply sq)
  apply rg
  apply R_fldP; rfl; rfl; rfl; rfl; rfl
  apply R_ldP; rfl; rfl; rfl; rfl; rfl; rfl
  apply R_fldP; rfl; rfl; rfl; rfl; rfl
  apply R_ldP; rfl; rfl; rfl; rfl; rfl; rfl
  apply R_fldP; rfl; rfl; rfl; rfl; rfl
  apply R_ldP; rfl; rfl; rfl; rfl; rfl; rfl
  obtain ⟨r4, hr4, H⟩ := bindS H
  apply Run.op; (apply L_call; ((apply ArgsV.cons; (apply ArgV.val; rfl; rfl)); (apply ArgsV.cons; (apply ArgV.val; rfl; rfl)); (apply ArgsV.nil)); (exact m_impl_natSub a0.fMag a1.fMag _ hr4); rfl; rfl; rfl); rfl; rfl
  obtain ⟨r5, hr5, H⟩ := bindS H
  apply Run.op; (apply L_callD2; rfl; rfl; rfl; rfl; rfl; (exact md_impl_bigMake a0.fNeg r4 _ hr5); rfl; rfl); rfl; rfl
  apply Run.op; (apply L_stT (cells' := (encWBigInt r5)); rfl; rfl; rfl; rfl; rfl; rfl; (intro h; cases h); rfl; (first | exact splice_whole rfl | rfl)); rfl; rfl
  apply Run.done; refine ⟨fun _ => ⟨rfl, rfl⟩, ?_⟩
  apply x3
  apply CodeT.ret
  apply x1
  cases H
  apply x12
  exact RetIs.c1 rfl rfl rfl rfl (by intro h; cases h)
  replace H := ifF (of_decide_eq_false h) H
  (repeat apply sq)
  apply CodeT.skip
  apply x3
  (repeat apply sq)
  apply rg
  apply R_fldP; rfl; rfl; rfl; rfl; rfl
  apply R_ldP; rfl; rfl; rfl; rfl; rfl; rfl
  apply R_fldP; rfl; rfl; rfl; rfl; rfl
  apply R_ldP; rfl; rfl; rfl; rfl; rfl; rfl
  apply R_fldP; rfl; rfl; rfl; rfl; rfl
  apply R_ldP; rfl; rfl; rfl; rfl; rfl; rfl
  obtain ⟨r6, hr6, H⟩ := bindS H
  apply Run.op; (apply L_call; ((apply ArgsV.cons; (apply ArgV.val; rfl; rfl)); (apply ArgsV.cons; (apply ArgV.val; rfl; rfl)); (apply ArgsV.nil)); (exact m_impl_natSub a1.fMag a0.fMag _ hr6); rfl; rfl; rfl); rfl; rfl
  obtain ⟨r7, hr7, H⟩ := bindS H
  apply Run.op; (apply L_callD2; rfl; rfl; rfl; rfl; rfl; (exact md_impl_bigMake a1.fNeg r6 _ hr7); rfl; rfl); rfl; rfl
  apply Run.op; (apply L_stT (cells' := (encWBigInt r7)); rfl; rfl; rfl; rfl; rfl; rfl; (intro h; cases h); rfl; (first | exact splice_whole rfl | rfl)); rfl; rfl
  apply Run.done; refine ⟨fun _ => ⟨rfl, rfl⟩, ?_⟩
  apply x3
  apply CodeT.ret
  cases H
  apply x12
  exact RetIs.c1 rfl rfl rfl rfl (by intro h; cases h)
theorem m_impl_ratMake (a0 : BigInt) (a1 : BigInt) (r : Rat) (H : impl_ratMake a0 a1 = some r) : Meets Try.prog 62 [.agg (encBigInt a0), .agg (encBigInt a1)] (.agg (encWRat r)) true := by
  refine Meets.intro2 (N := 52) (rs := #[.cell 4 30]) Try.func62 rfl rfl rfl rfl ?_
  intro Γ hio
  unfold impl_ratMake at H
  (repeat apply sq)
  apply rg
  apply Run.op; (apply L_box false; rfl; rfl; rfl; (exact io1 hio _); rfl); rfl; rfl
  apply Run.op; (apply L_box false; rfl; rfl; rfl; (exact io1 hio _); rfl); rfl; rfl
  apply Run.op; (apply L_alloc false; (exact io1 hio _); rfl); rfl; rfl
  apply dn
  apply x3
  (repeat apply sq)
  apply rg
  apply R_fldP; rfl; rfl; rfl; rfl; rfl
  apply R_ldP; rfl; rfl; rfl; rfl; rfl; rfl
  apply R_len; rfl; rfl; rfl
  apply R_eql; rfl; rfl; rfl; rfl
  apply dn
  apply x3
  (repeat apply sq)
  refine CodeT.cond rfl (fun h => ?_) (fun h => ?_)
  replace H := ifT (of_decide_eq_true h) H
  (repeat apply sq)
  apply rg
  apply Run.op; (apply L_buildC true; (apply BuildV.nil); rfl; rfl); rfl; rfl
  apply Run.op; (apply L_st (cells' := [.sc (.bool false), .sc (.slice none 0 0), .sc (.slice none 0 0)]); rfl; rfl; rfl; rfl; rfl; (intro h; cases h); rfl; (first | exact splice_whole rfl | rfl)); rfl; rfl
  apply dn
  apply x3
  apply CodeT.ret
  apply x1
  cases H
  apply x12
  refine RetIs.weak (Ent.soften (l := 4) (cells' := encWRat (Rat.mk (BigInt.mk false ([])) ([]))) rfl (SoftL.cons (Soft.refl _) (SoftL.cons Soft.nilW (SoftL.cons Soft.nilW SoftL.nil)))) ?_
  exact RetIs.c1 rfl rfl rfl rfl (by intro h; cases h)
  replace H := ifF (of_decide_eq_false h) H
  (repeat apply sq)
  apply CodeT.skip
  apply x3
  (repeat apply sq)
  apply rg
  apply R_fldP; rfl; rfl; rfl; rfl; rfl
  apply R_ldP; rfl; rfl; rfl; rfl; rfl; rfl
  apply R_fldP; rfl; rfl; rfl; rfl; rfl
  apply R_ldP; rfl; rfl; rfl; rfl; rfl; rfl
  obtain ⟨r1, hr1, H⟩ := bindS H
  apply Run.op; (apply L_callW; ((apply ArgsV.cons; (apply ArgV.val; rfl; rfl)); (apply ArgsV.cons; (apply ArgV.val; rfl; rfl)); (apply ArgsV.nil)); (exact m_impl_natGcd a0.fMag a1.fMag _ hr1); (exact io1 hio _); rfl); rfl; rfl
  apply R_asg; rfl; rfl; rfl
  apply dn
  apply x3
  (repeat apply sq)
  apply rg
  apply R_fldP; rfl; rfl; rfl; rfl; rfl
  apply R_ldP; rfl; rfl; rfl; rfl; rfl; rfl
  apply R_mov; rfl; rfl; rfl
  obtain ⟨r2, hr2, H⟩ := bindS H
  apply Run.op; (apply L_call; ((apply ArgsV.cons; (apply ArgV.val; rfl; rfl)); (apply ArgsV.cons; (apply ArgV.ref; rfl; rfl; (first | exact Nat.le_of_eq (flat_len (fun _ => rfl)) | exact Nat.le_of_ble_eq_true rfl))); (apply ArgsV.nil)); (exact m_impl_natDiv a0.fMag r1 _ hr2); rfl; rfl; rfl); rfl; rfl
  apply R_movT; rfl; rfl; rfl; rfl
  apply Run.op; (apply L_extT; rfl; rfl; rfl; rfl; rfl); rfl; rfl
  apply Run.op; (apply L_extT; rfl; rfl; rfl; rfl; rfl); rfl; rfl
  apply R_asgT; rfl; rfl; rfl; rfl
  apply R_asgT; rfl; rfl; rfl; rfl
  apply dn
  apply x3
  (repeat apply sq)
  apply rg
  apply R_fldP; rfl; rfl; rfl; rfl; rfl
  apply R_ldP; rfl; rfl; rfl; rfl; rfl; rfl
  apply R_mov; rfl; rfl; rfl
  obtain ⟨r3, hr3, H⟩ := bindS H
  apply Run.op; (apply L_call; ((apply ArgsV.cons; (apply ArgV.val; rfl; rfl)); (apply ArgsV.cons; (apply ArgV.ref; rfl; rfl; (first | exact Nat.le_of_eq (flat_len (fun _ => rfl)) | exact Nat.le_of_ble_eq_true rfl))); (apply ArgsV.nil)); (exact m_impl_natDiv a1.fMag r1 _ hr3); rfl; rfl; rfl); rfl; rfl
  apply R_movT; rfl; rfl; rfl; rfl
  apply Run.op; (apply L_extT; rfl; rfl; rfl; rfl; rfl); rfl; rfl
  apply Run.op; (apply L_extT; rfl; rfl; rfl; rfl; rfl); rfl; rfl
  apply R_asgT; rfl; rfl; rfl; rfl
  apply R_asgT; rfl; rfl; rfl; rfl
  apply dn
  apply x3
  (repeat apply sq)
  obtain ⟨d5, hd5, H⟩ := bindS H
  refine CodeT.lcut (x := d5) (fun d e E => XEnv Γ .normal ⟨[(2, ⟨.ptr 2 0, false⟩), (3, ⟨.ptr 3 0, false⟩), (4, ⟨.ptr 4 0, false⟩), (6, ⟨.rw 1 r2.1.length (r2.1.flatMap (encI .i64)), true⟩), (8, ⟨.rw 1 r3.1.length (r3.1.flatMap (encI .i64)), true⟩), (41, ⟨.sc (.bool d), false⟩)], [(2, some ⟨(encBigInt a0), false, false⟩), (3, some ⟨(encBigInt a1), false, false⟩), (4, some ⟨[.sc (.bool false), .sc (.slice none 0 0), .sc (.slice none 0 0)], true, false⟩)]⟩ e E) ?_ ?_
  clear H; have H := hd5; clear hd5
  apply rg
  apply Run.op; (apply Local.soft (Soft.rw (SoftL.refl _)); apply L_mov; rfl; rfl); rfl; rfl
  apply R_len; rfl; rfl; rfl
  apply R_dec; (apply L_gtr; rfl; rfl; rfl); rfl
  intro h; replace H := ifT h H
  apply R_mov; rfl; rfl; rfl
  apply Run.skip; rfl
  apply Run.skip; rfl
  apply Run.skip; rfl
  apply R_pickT; rfl; rfl; rfl; rfl
  apply dn
  obtain rfl := Option.some.inj H
  refine Ev.y4 ?_
  refine XEnv.mk ?_
  apply el [] (io0 hio _) <;> rfl
  intro h; replace H := ifF h H
  apply R_mov; rfl; rfl; rfl
  apply Run.op; (apply Local.soft (Soft.rw (SoftL.refl _)); apply L_mov; rfl; rfl); rfl; rfl
  apply R_len; rfl; rfl; rfl
  apply R_gtr; rfl; rfl; rfl; rfl
  apply R_pickF; rfl; rfl; rfl; rfl
  apply dn
  obtain rfl := Option.some.inj H
  refine Ev.y4 ?_
  refine XEnv.mk ?_
  apply el [] (io0 hio _) <;> rfl
  intro e E' hX; obtain ⟨rfl, g6⟩ := XEnv.out hX
  apply x3
  refine CodeT.weak g6 ?_
  (repeat apply sq)
  refine CodeT.cond rfl (fun h => ?_) (fun h => ?_)
  replace H := ifTb h H
  (repeat apply sq)
  apply rg
  apply Run.op; (apply L_buildC true; (apply BuildV.nil); rfl; rfl); rfl; rfl
  apply Run.op; (apply L_st (cells' := [.sc (.bool false), .sc (.slice none 0 0), .sc (.slice none 0 0)]); rfl; rfl; rfl; rfl; rfl; (intro h; cases h); rfl; (first | exact splice_whole rfl | rfl)); rfl; rfl
  apply dn
  apply x3
  apply CodeT.ret
  apply x1
  cases H
  apply x12
  refine RetIs.weak (Ent.soften (l := 4) (cells' := encWRat (Rat.mk (BigInt.mk false ([])) ([]))) rfl (SoftL.cons (Soft.refl _) (SoftL.cons Soft.nilW (SoftL.cons Soft.nilW SoftL.nil)))) ?_
  exact RetIs.c1 rfl rfl rfl rfl (by intro h; cases h)
  replace H := ifFb h H
  (repeat apply sq)
  apply CodeT.skip
  apply x3
  (repeat apply sq)
  apply rg
  apply R_fldP; rfl; rfl; rfl; rfl; rfl
  apply R_ldP; rfl; rfl; rfl; rfl; rfl; rfl
  apply R_fldP; rfl; rfl; rfl; rfl; rfl
  apply R_ldP; rfl; rfl; rfl; rfl; rfl; rfl
  apply Run.op; (apply L_bneq; rfl; rfl; rfl); rfl; rfl
  apply R_movT; rfl; rfl; rfl; rfl
  obtain ⟨r7, hr7, H⟩ := bindS H
  apply Run.op; (apply L_callD2; rfl; rfl; rfl; rfl; rfl; (exact md_impl_bigMake (!(a0.fNeg == a1.fNeg)) r2.1 _ hr7); rfl; rfl); rfl; rfl
  apply R_movT; rfl; rfl; rfl; rfl
  apply Run.op; (apply L_buildC true; (apply BuildV.tk (ks := [50]); rfl; rfl; rfl; rfl; rfl; rfl; rfl; apply BuildV.tk (ks := []); rfl; rfl; rfl; rfl; rfl; rfl; rfl; apply BuildV.nil); rfl; rfl); rfl; rfl
  apply Run.op; (apply L_stT (cells' := [.sc (.bool r7.fNeg), .rw 1 r7.fMag.length (r7.fMag.flatMap (encI .i64)), .rw 1 r3.1.length (r3.1.flatMap (encI .i64))]); rfl; rfl; rfl; rfl; rfl; rfl; (intro h; cases h); rfl; (first | exact splice_whole rfl | rfl)); rfl; rfl
  apply dn
  apply x3
  apply CodeT.ret
  cases H
  apply x12
  exact RetIs.c1 rfl rfl rfl rfl (by intro h; cases h)
theorem m_impl_ratAdd (a0 : Rat) (a1 : Rat) (r : Rat) (H : impl_ratAdd a0 a1 = some r) : Meets Try.prog 34 [.agg (encRat a0), .agg (encRat a1)] (.agg (encWRat r)) true := by
  refine Meets.intro2 (N := 33) (rs := #[.cell 4 30]) Try.func34 rfl rfl rfl rfl ?_
  intro Γ hio
  unfold impl_ratAdd at H
  (repeat apply sq)
  apply rg
  apply Run.op; (apply L_box false; rfl; rfl; rfl; (exact io1 hio _); rfl); rfl; rfl
  apply Run.op; (apply L_box false; rfl; rfl; rfl; (exact io1 hio _); rfl); rfl; rfl
  apply Run.op; (apply L_alloc false; (exact io1 hio _); rfl); rfl; rfl
  apply dn
  apply x3
  (repeat apply sq)
  obtain ⟨d4, hd4, H⟩ := bindS H
  refine CodeT.lcut (x := d4) (fun d e E => XEnv Γ .normal ⟨[(2, ⟨.ptr 2 0, false⟩), (3, ⟨.ptr 3 0, false⟩), (4, ⟨.ptr 4 0, false⟩), (13, ⟨.sc (.bool d), false⟩)], [(2, some ⟨(encRat a0), false, false⟩), (3, some ⟨(encRat a1), false, false⟩), (4, some ⟨[.sc (.bool false), .sc (.slice none 0 0), .sc (.slice none 0 0)], true, false⟩)]⟩ e E) ?_ ?_
  clear H; have H := hd4; clear hd4
  apply rg
  apply R_ldPA; rfl; rfl; (first | exact seg_whole rfl | rfl); rfl; rfl; rfl; rfl; rfl
  obtain ⟨r1, hr1, H⟩ := bindS H
  apply R_bool; (apply L_call; ((apply ArgsV.cons; (apply ArgV.val; rfl; rfl)); (apply ArgsV.nil)); (exact m_impl_good a0 _ hr1); rfl; rfl; rfl); rfl
  intro h; replace H := ifTb h H
  apply R_not; rfl; rfl; rfl
  apply R_mov; rfl; rfl; rfl
  apply R_ldPA; rfl; rfl; (first | exact seg_whole rfl | rfl); rfl; rfl; rfl; rfl; rfl
  obtain ⟨r2, hr2, H⟩ := bindS H
  apply Run.op; (apply L_call; ((apply ArgsV.cons; (apply ArgV.val; rfl; rfl)); (apply ArgsV.nil)); (exact m_impl_good a1 _ hr2); rfl; rfl; rfl); rfl; rfl
  apply R_not; rfl; rfl; rfl
  apply R_pickF; rfl; rfl; rfl; rfl
  apply dn
  obtain rfl := Option.some.inj H
  refine Ev.y4 ?_
  refine XEnv.mk ?_
  apply el [] (io0 hio _) <;> rfl
  intro h; replace H := ifFb h H
  apply R_not; rfl; rfl; rfl
  apply R_mov; rfl; rfl; rfl
  apply Run.skip; rfl
  apply Run.skip; rfl
  apply Run.skip; rfl
  apply R_pickT; rfl; rfl; rfl; rfl
  apply dn
  obtain rfl := Option.some.inj H
  refine Ev.y4 ?_
  refine XEnv.mk ?_
  apply el [] (io0 hio _) <;> rfl
  intro e E' hX; obtain ⟨rfl, g5⟩ := XEnv.out hX
  apply x3
  refine CodeT.weak g5 ?_
  (repeat apply sq)
  refine CodeT.cond rfl (fun h => ?_) (fun h => ?_)
  replace H := ifTb h H
  (repeat apply sq)
  apply rg
  apply Run.op; (apply L_buildC true; (apply BuildV.nil); rfl; rfl); rfl; rfl
  apply Run.op; (apply L_st (cells' := [.sc (.bool false), .sc (.slice none 0 0), .sc (.slice none 0 0)]); rfl; rfl; rfl; rfl; rfl; (intro h; cases h); rfl; (first | exact splice_whole rfl | rfl)); rfl; rfl
  apply dn
  apply x3
  apply CodeT.ret
  apply x1
  cases H
  apply x12
  refine RetIs.weak (Ent.soften (l := 4) (cells' := encWRat (Rat.mk (BigInt.mk false ([])) ([]))) rfl (SoftL.cons (Soft.refl _) (SoftL.cons Soft.nilW (SoftL.cons Soft.nilW SoftL.nil)))) ?_
  exact RetIs.c1 rfl rfl rfl rfl (by intro h; cases h)
  replace H := ifFb h H
  (repeat apply sq)
  apply CodeT.skip
  apply x3
  (repeat apply sq)
  apply rg
  apply R_fldP; rfl; rfl; rfl; rfl; rfl
  apply R_ldPA; rfl; rfl; (first | exact seg_whole rfl | rfl); rfl; rfl; rfl; rfl; rfl
  apply R_ldPA; rfl; rfl; (first | exact seg_whole rfl | rfl); rfl; rfl; rfl; rfl; rfl
  obtain ⟨r6, hr6, H⟩ := bindS H
  apply Run.op; (apply L_call; ((apply ArgsV.cons; (apply ArgV.val; rfl; rfl)); (apply ArgsV.nil)); (exact m_impl_denOf a1 _ hr6); rfl; rfl; rfl); rfl; rfl
  obtain ⟨r7, hr7, H⟩ := bindS H
  apply Run.op; (apply L_call; ((apply ArgsV.cons; (apply ArgV.val; rfl; rfl)); (apply ArgsV.cons; (apply ArgV.val; rfl; rfl)); (apply ArgsV.nil)); (exact m_impl_bigMul a0.fNum r6 _ hr7); rfl; rfl; rfl); rfl; rfl
  apply R_fldP; rfl; rfl; rfl; rfl; rfl
  apply R_ldPA; rfl; rfl; (first | exact seg_whole rfl | rfl); rfl; rfl; rfl; rfl; rfl
  apply R_ldPA; rfl; rfl; (first | exact seg_whole rfl | rfl); rfl; rfl; rfl; rfl; rfl
  obtain ⟨r8, hr8, H⟩ := bindS H
  apply Run.op; (apply L_call; ((apply ArgsV.cons; (apply ArgV.val; rfl; rfl)); (apply ArgsV.nil)); (exact m_impl_denOf a0 _ hr8); rfl; rfl; rfl); rfl; rfl
  obtain ⟨r9, hr9, H⟩ := bindS H
  apply Run.op; (apply L_call; ((apply ArgsV.cons; (apply ArgV.val; rfl; rfl)); (apply ArgsV.cons; (apply ArgV.val; rfl; rfl)); (apply ArgsV.nil)); (exact m_impl_bigMul a1.fNum r8 _ hr9); rfl; rfl; rfl); rfl; rfl
  obtain ⟨r10, hr10, H⟩ := bindS H
  apply Run.op; (apply L_call; ((apply ArgsV.cons; (apply ArgV.valS; rfl; rfl; (exact (Soft.agg (softBigInt _))))); (apply ArgsV.cons; (apply ArgV.valS; rfl; rfl; (exact (Soft.agg (softBigInt _))))); (apply ArgsV.nil)); (exact m_impl_bigAdd r7 r9 _ hr10); rfl; rfl; rfl); rfl; rfl
  apply Run.op; (apply L_alloc false; (exact io1 hio _); rfl); rfl; rfl
  apply Run.op; (apply L_stT (cells' := (encWBigInt r10)); rfl; rfl; rfl; rfl; rfl; rfl; (intro h; cases h); rfl; (first | exact splice_whole rfl | rfl)); rfl; rfl
  apply Run.done; refine ⟨fun _ => ⟨rfl, rfl⟩, ?_⟩
  apply x3
  (repeat apply sq)
  apply rg
  apply Run.op; (apply L_ldPAT; rfl; rfl; rfl; (intro h; cases h); rfl; (exact io1 hio _); rfl); rfl; rfl
  apply R_ldPA; rfl; rfl; (first | exact seg_whole rfl | rfl); rfl; rfl; rfl; rfl; rfl
  obtain ⟨r11, hr11, H⟩ := bindS H
  apply Run.op; (apply L_call; ((apply ArgsV.cons; (apply ArgV.val; rfl; rfl)); (apply ArgsV.nil)); (exact m_impl_denOf a0 _ hr11); rfl; rfl; rfl); rfl; rfl
  apply R_ldPA; rfl; rfl; (first | exact seg_whole rfl | rfl); rfl; rfl; rfl; rfl; rfl
  obtain ⟨r12, hr12, H⟩ := bindS H
  apply Run.op; (apply L_call; ((apply ArgsV.cons; (apply ArgV.val; rfl; rfl)); (apply ArgsV.nil)); (exact m_impl_denOf a1 _ hr12); rfl; rfl; rfl); rfl; rfl
  obtain ⟨r13, hr13, H⟩ := bindS H
  apply Run.op; (apply L_call; ((apply ArgsV.cons; (apply ArgV.val; rfl; rfl)); (apply ArgsV.cons; (apply ArgV.val; rfl; rfl)); (apply ArgsV.nil)); (exact m_impl_bigMul r11 r12 _ hr13); rfl; rfl; rfl); rfl; rfl
  obtain ⟨r14, hr14, H⟩ := bindS H
  apply Run.op; (apply L_call; ((apply ArgsV.cons; (apply ArgV.valS; rfl; rfl; (exact (Soft.agg (softBigInt _))))); (apply ArgsV.cons; (apply ArgV.valS; rfl; rfl; (exact (Soft.agg (softBigInt _))))); (apply ArgsV.nil)); (exact m_impl_ratMake r10 r13 _ hr14); rfl; rfl; rfl); rfl; rfl
  apply Run.op; (apply L_stT (cells' := (encWRat r14)); rfl; rfl; rfl; rfl; rfl; rfl; (intro h; cases h); rfl; (first | exact splice_whole rfl | rfl)); rfl; rfl
  apply Run.done; refine ⟨fun _ => ⟨rfl, rfl⟩, ?_⟩
  apply x3
  apply CodeT.ret
  cases H
  apply x12
  exact RetIs.c1 rfl rfl rfl rfl (by intro h; cases h)
theorem m_impl_RatAdd (a0 : Rat) (a1 : Rat) (r : Rat) (H : impl_RatAdd a0 a1 = some r) : Meets Try.prog 18 [.agg (encRat a0), .agg (encRat a1)] (.agg (encWRat r)) true := by
  refine Meets.intro2 (N := 17) (rs := #[.cell 4 30]) Try.func18 rfl rfl rfl rfl ?_
  intro Γ hio
  unfold impl_RatAdd at H
  (repeat apply sq)
  apply rg
  apply Run.op; (apply L_box false; rfl; rfl; rfl; (exact io1 hio _); rfl); rfl; rfl
  apply Run.op; (apply L_box false; rfl; rfl; rfl; (exact io1 hio _); rfl); rfl; rfl
  apply Run.op; (apply L_alloc false; (exact io1 hio _); rfl); rfl; rfl
  apply dn
  apply x3
  (repeat apply sq)
  obtain ⟨d4, hd4, H⟩ := bindS H
  refine CodeT.lcut (x := d4) (fun d e E => XEnv Γ .normal ⟨[(2, ⟨.ptr 2 0, false⟩), (3, ⟨.ptr 3 0, false⟩), (4, ⟨.ptr 4 0, false⟩), (12, ⟨.sc (.bool d), false⟩)], [(2, some ⟨(encRat a0), false, false⟩), (3, some ⟨(encRat a1), false, false⟩), (4, some ⟨[.sc (.bool false), .sc (.slice none 0 0), .sc (.slice none 0 0)], true, false⟩)]⟩ e E) ?_ ?_
  clear H; have H := hd4; clear hd4
  apply rg
  apply R_ldPA; rfl; rfl; (first | exact seg_whole rfl | rfl); rfl; rfl; rfl; rfl; rfl
  obtain ⟨r1, hr1, H⟩ := bindS H
  apply R_bool; (apply L_call; ((apply ArgsV.cons; (apply ArgV.val; rfl; rfl)); (apply ArgsV.nil)); (exact m_impl_RatOk a0 _ hr1); rfl; rfl; rfl); rfl
  intro h; replace H := ifTb h H
  apply R_not; rfl; rfl; rfl
  apply R_mov; rfl; rfl; rfl
  apply R_ldPA; rfl; rfl; (first | exact seg_whole rfl | rfl); rfl; rfl; rfl; rfl; rfl
  obtain ⟨r2, hr2, H⟩ := bindS H
  apply Run.op; (apply L_call; ((apply ArgsV.cons; (apply ArgV.val; rfl; rfl)); (apply ArgsV.nil)); (exact m_impl_RatOk a1 _ hr2); rfl; rfl; rfl); rfl; rfl
  apply R_not; rfl; rfl; rfl
  apply R_pickF; rfl; rfl; rfl; rfl
  apply dn
  obtain rfl := Option.some.inj H
  refine Ev.y4 ?_
  refine XEnv.mk ?_
  apply el [] (io0 hio _) <;> rfl
  intro h; replace H := ifFb h H
  apply R_not; rfl; rfl; rfl
  apply R_mov; rfl; rfl; rfl
  apply Run.skip; rfl
  apply Run.skip; rfl
  apply Run.skip; rfl
  apply R_pickT; rfl; rfl; rfl; rfl
  apply dn
  obtain rfl := Option.some.inj H
  refine Ev.y4 ?_
  refine XEnv.mk ?_
  apply el [] (io0 hio _) <;> rfl
  intro e E' hX; obtain ⟨rfl, g5⟩ := XEnv.out hX
  apply x3
  refine CodeT.weak g5 ?_
  (repeat apply sq)
  refine CodeT.cond rfl (fun h => ?_) (fun h => ?_)
  replace H := ifTb h H
  (repeat apply sq)
  apply rg
  apply Run.op; (apply L_buildC true; (apply BuildV.nil); rfl; rfl); rfl; rfl
  apply Run.op; (apply L_st (cells' := [.sc (.bool false), .sc (.slice none 0 0), .sc (.slice none 0 0)]); rfl; rfl; rfl; rfl; rfl; (intro h; cases h); rfl; (first | exact splice_whole rfl | rfl)); rfl; rfl
  apply dn
  apply x3
  apply CodeT.ret
  apply x1
  cases H
  apply x12
  refine RetIs.weak (Ent.soften (l := 4) (cells' := encWRat (Rat.mk (BigInt.mk false ([])) ([]))) rfl (SoftL.cons (Soft.refl _) (SoftL.cons Soft.nilW (SoftL.cons Soft.nilW SoftL.nil)))) ?_
  exact RetIs.c1 rfl rfl rfl rfl (by intro h; cases h)
  replace H := ifFb h H
  (repeat apply sq)
  apply CodeT.skip
  apply x3
  (repeat apply sq)
  apply rg
  apply R_ldPA; rfl; rfl; (first | exact seg_whole rfl | rfl); rfl; rfl; rfl; rfl; rfl
  apply R_ldPA; rfl; rfl; (first | exact seg_whole rfl | rfl); rfl; rfl; rfl; rfl; rfl
  obtain ⟨r6, hr6, H⟩ := bindS H
  apply Run.op; (apply L_call; ((apply ArgsV.cons; (apply ArgV.val; rfl; rfl)); (apply ArgsV.cons; (apply ArgV.val; rfl; rfl)); (apply ArgsV.nil)); (exact m_impl_ratAdd a0 a1 _ hr6); rfl; rfl; rfl); rfl; rfl
  apply Run.op; (apply L_stT (cells' := (encWRat r6)); rfl; rfl; rfl; rfl; rfl; rfl; (intro h; cases h); rfl; (first | exact splice_whole rfl | rfl)); rfl; rfl
  apply dn
  apply x3
  apply CodeT.ret
  cases H
  apply x12
  exact RetIs.c1 rfl rfl rfl rfl (by intro h; cases h)
theorem m_impl_TreeEnergy (a0 : Tree) (r : Rat) (H : impl_TreeEnergy a0 = some r) : Meets Try.prog 7 [.agg (encTree a0)] (.agg (encWRat r)) true := by
  refine Meets.intro2 (N := 20) (rs := #[.cell 2 30]) Try.func7 rfl rfl rfl rfl ?_
  intro Γ hio
  unfold impl_TreeEnergy at H
  (repeat apply sq)
  apply rg
  apply Run.op; (apply L_box false; rfl; rfl; rfl; (exact io1 hio _); rfl); rfl; rfl
  apply Run.op; (apply L_alloc false; (exact io1 hio _); rfl); rfl; rfl
  apply dn
  apply x3
  (repeat apply sq)
  apply rg
  obtain ⟨r1, hr1, H⟩ := bindS H
  apply Run.op; (apply L_call; ((apply ArgsV.cons; (apply ArgV.val; rfl; rfl)); (apply ArgsV.nil)); (exact m_impl_RatFromInt 0 _ hr1); rfl; rfl; rfl); rfl; rfl
  apply Run.op; (apply L_alloc false; (exact io1 hio _); rfl); rfl; rfl
  apply Run.op; (apply L_stT (cells' := (encWRat r1)); rfl; rfl; rfl; rfl; rfl; rfl; (intro h; cases h); rfl; (first | exact splice_whole rfl | rfl)); rfl; rfl
  apply dn
  apply x3
  (repeat apply sq)
  apply rg
  apply R_fldP; rfl; rfl; rfl; rfl; rfl
  apply R_ldP; rfl; rfl; rfl; rfl; rfl; rfl
  apply R_len; rfl; rfl; rfl
  apply R_mov; rfl; rfl; rfl
  apply dn
  apply x3
  (repeat apply sq)
  apply CodeT.block
  (repeat apply sq)
  obtain ⟨d9, hd9, H⟩ := bindS H
  refine CodeT.lloop (fun s => ⟨[(2, ⟨.ptr 2 0, false⟩), (3, ⟨.ptr 3 0, false⟩), (8, ⟨.sl a0.fNodes.length (a0.fNodes.flatMap encTreeNode), false⟩), (9, ⟨.sc (.int .i64 (a0.fNodes.length : Int)), false⟩), (10, ⟨.sc (.int .i64 s.1), false⟩)], [(2, some ⟨[.sc (.bool false), .sc (.slice none 0 0), .sc (.slice none 0 0)], true, false⟩), (3, some ⟨(encWRat s.2), true, false⟩)]⟩) (fun d e E => XEnv Γ (.exit 0) ⟨[(2, ⟨.ptr 2 0, false⟩), (3, ⟨.ptr 3 0, false⟩)], [(2, some ⟨[.sc (.bool false), .sc (.slice none 0 0), .sc (.slice none 0 0)], true, false⟩), (3, some ⟨(encWRat d), true, false⟩)]⟩ e E) hd9 ?_ ?_ ?_
  apply el [] (io0 hio _) <;> rfl
  clear H hd9
  rintro ⟨v4, v5⟩ o H
  unfold impl_TreeEnergy_L1 at H
  (repeat apply sq)
  apply rg
  apply R_lss; rfl; rfl; rfl; rfl
  apply dn
  apply x3
  (repeat apply sq)
  refine CodeT.cond rfl (fun h => ?_) (fun h => ?_)
  replace H := ifT (of_decide_eq_true h) H
  (repeat apply sq)
  apply CodeT.skip
  apply x3
  (repeat apply sq)
  apply CodeT.block
  (repeat apply sq)
  apply rg
  obtain ⟨y6, hy6, H⟩ := bindS H
  apply Run.op; (apply L_ixS2; rfl; rfl; rfl; (exact hy6); (intro _; rfl); rfl); rfl; rfl
  apply Run.op; (apply L_ldIA; rfl; (first | exact take_whole rfl | rfl); rfl; (intro h; cases h); rfl; rfl); rfl; rfl
  apply Run.op; (apply L_alloc false; (exact io1 hio _); rfl); rfl; rfl
  apply Run.op; (apply L_st (cells' := (encTreeNode y6)); rfl; rfl; rfl; rfl; rfl; (intro h; cases h); rfl; (first | exact splice_whole rfl | rfl)); rfl; rfl
  apply dn
  apply x3
  apply rg
  apply Run.op; (apply Local.soft (Soft.agg (softRat _)); apply L_ldPA; rfl; rfl; (first | exact seg_whole rfl | rfl); rfl; (intro h; cases h); (first | exact .inl rfl | exact .inr rfl); rfl); rfl; rfl
  apply R_fldP; rfl; rfl; rfl; rfl; rfl
  apply R_ldPA; rfl; rfl; (first | exact seg_whole rfl | rfl); rfl; rfl; rfl; rfl; rfl
  obtain ⟨r7, hr7, H⟩ := bindS H
  apply Run.op; (apply L_call; ((apply ArgsV.cons; (apply ArgV.val; rfl; rfl)); (apply ArgsV.cons; (apply ArgV.val; rfl; rfl)); (apply ArgsV.nil)); (exact m_impl_RatAdd v5 y6.fEnergy _ hr7); rfl; rfl; rfl); rfl; rfl
  apply Run.op; (apply L_stT (cells' := (encWRat r7)); rfl; rfl; rfl; rfl; rfl; rfl; (intro h; cases h); rfl; (first | exact splice_whole rfl | rfl)); rfl; rfl
  apply dn
  apply x5
  apply x3
  apply rg
  apply R_add; rfl; rfl; rfl; rfl; rfl
  apply R_mov; rfl; rfl; rfl
  apply dn
  obtain rfl := Option.some.inj H
  refine Ev.y1 ?_
  apply el [] (io0 hio _) <;> rfl
  replace H := ifF (of_decide_eq_false h) H
  (repeat apply sq)
  apply CodeT.exit
  apply x2
  obtain rfl := Option.some.inj H
  refine Ev.y3 ?_
  refine XEnv.mk ?_
  apply el [] (io0 hio _) <;> rfl
  skip
  intro e E' hX; obtain ⟨rfl, g10⟩ := XEnv.out hX
  refine x6 rfl ?_
  apply x3
  refine CodeT.weak g10 ?_
  (repeat apply sq)
  apply rg
  apply Run.op; (apply L_ldPAT; rfl; rfl; rfl; (intro h; cases h); rfl; (exact io1 hio _); rfl); rfl; rfl
  apply Run.op; (apply L_stT (cells' := (encWRat d9)); rfl; rfl; rfl; rfl; rfl; rfl; (intro h; cases h); rfl; (first | exact splice_whole rfl | rfl)); rfl; rfl
  apply dn
  apply x3
  apply CodeT.ret
  cases H
  apply x12
  exact RetIs.c1 rfl rfl rfl rfl (by intro h; cases h)
theorem m_laws_eqIntS (a0 : (List Int)) (a1 : (List Int)) (r : Bool) (H : laws_eqIntS a0 a1 = some r) : Meets Try.prog 20 [.sl a0.length (a0.flatMap (encI .i64)), .sl a1.length (a1.flatMap (encI .i64))] (.sc (.bool r)) true := by
  refine Meets.intro2 (N := 26) (rs := #[.tmp 4]) Try.func20 rfl rfl rfl rfl ?_
  intro Γ hio
  unfold laws_eqIntS at H
  (repeat apply sq)
  apply rg
  apply R_asg; rfl; rfl; rfl
  apply dn
  apply x3
  (repeat apply sq)
  apply rg
  apply R_mov; rfl; rfl; rfl
  apply R_len; rfl; rfl; rfl
  apply R_mov; rfl; rfl; rfl
  apply R_len; rfl; rfl; rfl
  apply R_neq; rfl; rfl; rfl; rfl
  apply dn
  apply x3
  (repeat apply sq)
  refine CodeT.cond rfl (fun h => ?_) (fun h => ?_)
  replace H := ifT (of_decide_eq_true h) H
  (repeat apply sq)
  apply rg
  apply R_asg; rfl; rfl; rfl
  apply dn
  apply x3
  apply CodeT.ret
  apply x1
  cases H
  apply x12
  exact RetIs.sc1 rfl
  replace H := ifF (of_decide_eq_false h) H
  (repeat apply sq)
  apply CodeT.skip
  apply x3
  (repeat apply sq)
  apply rg
  apply R_asg; rfl; rfl; rfl
  apply dn
  apply x3
  (repeat apply sq)
  apply CodeT.block
  (repeat apply sq)
  obtain ⟨d6, hd6, H⟩ := bindS H
  refine CodeT.lloop (fun s => ⟨[(0, ⟨.sl a0.length (a0.flatMap (encI .i64)), false⟩), (1, ⟨.sl a1.length (a1.flatMap (encI .i64)), false⟩), (5, ⟨.sc (.int .i64 s), false⟩)], []⟩) (fun x e E => match x with | (.inl d) => XEnv Γ (.exit 0) ⟨[], []⟩ e E | (.inr d) => XRet Γ #[.tmp 4] (.sc (.bool d)) true e E) hd6 ?_ ?_ ?_
  apply el [] (io0 hio _) <;> rfl
  clear H hd6
  rintro v3 o H
  unfold laws_eqIntS_L1 at H
  (repeat apply sq)
  apply rg
  apply R_mov; rfl; rfl; rfl
  apply R_mov; rfl; rfl; rfl
  apply R_len; rfl; rfl; rfl
  apply R_lss; rfl; rfl; rfl; rfl
  apply dn
  apply x3
  (repeat apply sq)
  refine CodeT.cond rfl (fun h => ?_) (fun h => ?_)
  replace H := ifT (of_decide_eq_true h) H
  (repeat apply sq)
  apply CodeT.skip
  apply x3
  (repeat apply sq)
  apply CodeT.block
  (repeat apply sq)
  apply rg
  apply R_mov; rfl; rfl; rfl
  apply R_mov; rfl; rfl; rfl
  obtain ⟨y4, hy4, H⟩ := bindS H
  apply Run.op; (apply L_ixS2; rfl; rfl; rfl; (exact hy4); (intro _; rfl); rfl); rfl; rfl
  apply R_ldI; rfl; rfl; rfl; rfl; rfl
  apply R_mov; rfl; rfl; rfl
  apply R_mov; rfl; rfl; rfl
  obtain ⟨y5, hy5, H⟩ := bindS H
  apply Run.op; (apply L_ixS2; rfl; rfl; rfl; (exact hy5); (intro _; rfl); rfl); rfl; rfl
  apply R_ldI; rfl; rfl; rfl; rfl; rfl
  apply R_neq; rfl; rfl; rfl; rfl
  apply Run.done; refine ⟨fun _ => ⟨rfl, rfl⟩, ?_⟩
  apply x3
  refine CodeT.cond rfl (fun h => ?_) (fun h => ?_)
  replace H := ifT (of_decide_eq_true h) H
  (repeat apply sq)
  apply rg
  apply R_asg; rfl; rfl; rfl
  apply dn
  apply x3
  apply CodeT.ret
  apply x4
  apply x1
  obtain rfl := Option.some.inj H
  refine Ev.y2 ?_
  refine XRet.mk ?_
  exact RetIs.sc1 rfl
  replace H := ifF (of_decide_eq_false h) H
  (repeat apply sq)
  apply CodeT.skip
  apply x5
  apply x3
  apply rg
  apply R_mov; rfl; rfl; rfl
  apply R_add; rfl; rfl; rfl; rfl; rfl
  apply R_asg; rfl; rfl; rfl
  apply dn
  obtain rfl := Option.some.inj H
  refine Ev.y1 ?_
  apply el [] (io0 hio _) <;> rfl
  replace H := ifF (of_decide_eq_false h) H
  (repeat apply sq)
  apply CodeT.exit
  apply x2
  obtain rfl := Option.some.inj H
  refine Ev.y3 ?_
  refine XEnv.mk ?_
  apply el [] (io0 hio _) <;> rfl
  rcases d6 with (d7 | d9)
  intro e E' hX; obtain ⟨rfl, g8⟩ := XEnv.out hX
  refine x6 rfl ?_
  apply x3
  refine CodeT.weak g8 ?_
  (repeat apply sq)
  apply rg
  apply R_asg; rfl; rfl; rfl
  apply dn
  apply x3
  apply CodeT.ret
  cases H
  apply x12
  exact RetIs.sc1 rfl
  intro e E' hX; obtain ⟨rfl, g10⟩ := XRet.out hX
  apply x4
  apply x1
  cases H
  apply x12
  exact g10
theorem m_laws_eqBigInt (a0 : BigInt) (a1 : BigInt) (r : Bool) (H : laws_eqBigInt a0 a1 = some r) : Meets Try.prog 19 [.agg (encBigInt a0), .agg (encBigInt a1)] (.sc (.bool r)) true := by
  refine Meets.intro2 (N := 16) (rs := #[.tmp 4]) Try.func19 rfl rfl rfl rfl ?_
  intro Γ hio
  unfold laws_eqBigInt at H
  (repeat apply sq)
  apply rg
  apply Run.op; (apply L_box false; rfl; rfl; rfl; (exact io1 hio _); rfl); rfl; rfl
  apply Run.op; (apply L_box false; rfl; rfl; rfl; (exact io1 hio _); rfl); rfl; rfl
  apply R_asg; rfl; rfl; rfl
  apply dn
  apply x3
  (repeat apply sq)
  apply rg
  apply R_fldP; rfl; rfl; rfl; rfl; rfl
  apply R_ldP; rfl; rfl; rfl; rfl; rfl; rfl
  apply R_fldP; rfl; rfl; rfl; rfl; rfl
  apply R_ldP; rfl; rfl; rfl; rfl; rfl; rfl
  apply Run.op; (apply L_bneq; rfl; rfl; rfl); rfl; rfl
  apply dn
  apply x3
  (repeat apply sq)
  refine CodeT.cond rfl (fun h => ?_) (fun h => ?_)
  replace H := ifFb (notT h) H
  (repeat apply sq)
  apply rg
  apply R_asg; rfl; rfl; rfl
  apply dn
  apply x3
  apply CodeT.ret
  apply x1
  cases H
  apply x12
  exact RetIs.sc1 rfl
  replace H := ifTb (notF h) H
  (repeat apply sq)
  apply CodeT.skip
  apply x3
  (repeat apply sq)
  apply rg
  apply R_fldP; rfl; rfl; rfl; rfl; rfl
  apply R_ldP; rfl; rfl; rfl; rfl; rfl; rfl
  apply R_fldP; rfl; rfl; rfl; rfl; rfl
  apply R_ldP; rfl; rfl; rfl; rfl; rfl; rfl
  obtain ⟨r1, hr1, H⟩ := bindS H
  apply Run.op; (apply L_call; ((apply ArgsV.cons; (apply ArgV.val; rfl; rfl)); (apply ArgsV.cons; (apply ArgV.val; rfl; rfl)); (apply ArgsV.nil)); (exact m_laws_eqIntS a0.fMag a1.fMag _ hr1); rfl; rfl; rfl); rfl; rfl
  apply R_not; rfl; rfl; rfl
  apply dn
  apply x3
  (repeat apply sq)
  refine CodeT.cond rfl (fun h => ?_) (fun h => ?_)
  replace H := ifFb (notT h) H
  (repeat apply sq)
  apply rg
  apply R_asg; rfl; rfl; rfl
  apply dn
  apply x3
  apply CodeT.ret
  apply x1
  cases H
  apply x12
  exact RetIs.sc1 rfl
  replace H := ifTb (notF h) H
  (repeat apply sq)
  apply CodeT.skip
  apply x3
  (repeat apply sq)
  apply rg
  apply R_asg; rfl; rfl; rfl
  apply dn
  apply x3
  apply CodeT.ret
  cases H
  apply x12
  exact RetIs.sc1 rfl
theorem m_laws_eqRat (a0 : Rat) (a1 : Rat) (r : Bool) (H : laws_eqRat a0 a1 = some r) : Meets Try.prog 8 [.agg (encRat a0), .agg (encRat a1)] (.sc (.bool r)) true := by
  refine Meets.intro2 (N := 17) (rs := #[.tmp 4]) Try.func8 rfl rfl rfl rfl ?_
  intro Γ hio
  unfold laws_eqRat at H
  (repeat apply sq)
  apply rg
  apply Run.op; (apply L_box false; rfl; rfl; rfl; (exact io1 hio _); rfl); rfl; rfl
  apply Run.op; (apply L_box false; rfl; rfl; rfl; (exact io1 hio _); rfl); rfl; rfl
  apply R_asg; rfl; rfl; rfl
  apply dn
  apply x3
  (repeat apply sq)
  apply rg
  apply R_fldP; rfl; rfl; rfl; rfl; rfl
  apply R_ldPA; rfl; rfl; (first | exact seg_whole rfl | rfl); rfl; rfl; rfl; rfl; rfl
  apply R_fldP; rfl; rfl; rfl; rfl; rfl
  apply R_ldPA; rfl; rfl; (first | exact seg_whole rfl | rfl); rfl; rfl; rfl; rfl; rfl
  obtain ⟨r1, hr1, H⟩ := bindS H
  apply Run.op; (apply L_call; ((apply ArgsV.cons; (apply ArgV.val; rfl; rfl)); (apply ArgsV.cons; (apply ArgV.val; rfl; rfl)); (apply ArgsV.nil)); (exact m_laws_eqBigInt a0.fNum a1.fNum _ hr1); rfl; rfl; rfl); rfl; rfl
  apply R_not; rfl; rfl; rfl
  apply dn
  apply x3
  (repeat apply sq)
  refine CodeT.cond rfl (fun h => ?_) (fun h => ?_)
  replace H := ifFb (notT h) H
  (repeat apply sq)
  apply rg
  apply R_asg; rfl; rfl; rfl
  apply dn
  apply x3
  apply CodeT.ret
  apply x1
  cases H
  apply x12
  exact RetIs.sc1 rfl
  replace H := ifTb (notF h) H
  (repeat apply sq)
  apply CodeT.skip
  apply x3
  (repeat apply sq)
  apply rg
  apply R_fldP; rfl; rfl; rfl; rfl; rfl
  apply R_ldP; rfl; rfl; rfl; rfl; rfl; rfl
  apply R_fldP; rfl; rfl; rfl; rfl; rfl
  apply R_ldP; rfl; rfl; rfl; rfl; rfl; rfl
  obtain ⟨r2, hr2, H⟩ := bindS H
  apply Run.op; (apply L_call; ((apply ArgsV.cons; (apply ArgV.val; rfl; rfl)); (apply ArgsV.cons; (apply ArgV.val; rfl; rfl)); (apply ArgsV.nil)); (exact m_laws_eqIntS a0.fDen a1.fDen _ hr2); rfl; rfl; rfl); rfl; rfl
  apply R_not; rfl; rfl; rfl
  apply dn
  apply x3
  (repeat apply sq)
  refine CodeT.cond rfl (fun h => ?_) (fun h => ?_)
  replace H := ifFb (notT h) H
  (repeat apply sq)
  apply rg
  apply R_asg; rfl; rfl; rfl
  apply dn
  apply x3
  apply CodeT.ret
  apply x1
  cases H
  apply x12
  exact RetIs.sc1 rfl
  replace H := ifTb (notF h) H
  (repeat apply sq)
  apply CodeT.skip
  apply x3
  (repeat apply sq)
  apply rg
  apply R_asg; rfl; rfl; rfl
  apply dn
  apply x3
  apply CodeT.ret
  cases H
  apply x12
  exact RetIs.sc1 rfl
theorem m_laws_eqLink (a0 : Link) (a1 : Link) (r : Bool) (H : laws_eqLink a0 a1 = some r) : Meets Try.prog 89 [.agg (encLink a0), .agg (encLink a1)] (.sc (.bool r)) true := by
  refine Meets.intro2 (N := 33) (rs := #[.tmp 4]) Try.func89 rfl rfl rfl rfl ?_
  intro Γ hio
  unfold laws_eqLink at H
  (repeat apply sq)
  apply rg
  apply Run.op; (apply L_box false; rfl; rfl; rfl; (exact io1 hio _); rfl); rfl; rfl
  apply Run.op; (apply L_box false; rfl; rfl; rfl; (exact io1 hio _); rfl); rfl; rfl
  apply R_asg; rfl; rfl; rfl
  apply dn
  apply x3
  (repeat apply sq)
  apply rg
  apply R_fldP; rfl; rfl; rfl; rfl; rfl
  apply R_ldP; rfl; rfl; rfl; rfl; rfl; rfl
  apply R_fldP; rfl; rfl; rfl; rfl; rfl
  apply R_ldP; rfl; rfl; rfl; rfl; rfl; rfl
  apply R_neq; rfl; rfl; rfl; rfl
  apply dn
  apply x3
  (repeat apply sq)
  refine CodeT.cond rfl (fun h => ?_) (fun h => ?_)
  replace H := ifT (of_decide_eq_true h) H
  (repeat apply sq)
  apply rg
  apply R_asg; rfl; rfl; rfl
  apply dn
  apply x3
  apply CodeT.ret
  apply x1
  cases H
  apply x12
  exact RetIs.sc1 rfl
  replace H := ifF (of_decide_eq_false h) H
  (repeat apply sq)
  apply CodeT.skip
  apply x3
  (repeat apply sq)
  apply rg
  apply R_fldP; rfl; rfl; rfl; rfl; rfl
  apply R_ldP; rfl; rfl; rfl; rfl; rfl; rfl
  apply R_fldP; rfl; rfl; rfl; rfl; rfl
  apply R_ldP; rfl; rfl; rfl; rfl; rfl; rfl
  apply R_neq; rfl; rfl; rfl; rfl
  apply dn
  apply x3
  (repeat apply sq)
  refine CodeT.cond rfl (fun h => ?_) (fun h => ?_)
  replace H := ifT (of_decide_eq_true h) H
  (repeat apply sq)
  apply rg
  apply R_asg; rfl; rfl; rfl
  apply dn
  apply x3
  apply CodeT.ret
  apply x1
  cases H
  apply x12
  exact RetIs.sc1 rfl
  replace H := ifF (of_decide_eq_false h) H
  (repeat apply sq)
  apply CodeT.skip
  apply x3
  (repeat apply sq)
  apply rg
  apply R_fldP; rfl; rfl; rfl; rfl; rfl
  apply R_ldPA; rfl; rfl; (first | exact seg_whole rfl | rfl); rfl; rfl; rfl; rfl; rfl
  apply R_fldP; rfl; rfl; rfl; rfl; rfl
  apply R_ldPA; rfl; rfl; (first | exact seg_whole rfl | rfl); rfl; rfl; rfl; rfl; rfl
  obtain ⟨r1, hr1, H⟩ := bindS H
  apply Run.op; (apply L_call; ((apply ArgsV.cons; (apply ArgV.val; rfl; rfl)); (apply ArgsV.cons; (apply ArgV.val; rfl; rfl)); (apply ArgsV.nil)); (exact m_laws_eqRat a0.fWeight a1.fWeight _ hr1); rfl; rfl; rfl); rfl; rfl
  apply R_not; rfl; rfl; rfl
  apply dn
  apply x3
  (repeat apply sq)
  refine CodeT.cond rfl (fun h => ?_) (fun h => ?_)
  replace H := ifFb (notT h) H
  (repeat apply sq)
  apply rg
  apply R_asg; rfl; rfl; rfl
  apply dn
  apply x3
  apply CodeT.ret
  apply x1
  cases H
  apply x12
  exact RetIs.sc1 rfl
  replace H := ifTb (notF h) H
  (repeat apply sq)
  apply CodeT.skip
  apply x3
  (repeat apply sq)
  apply rg
  apply R_fldP; rfl; rfl; rfl; rfl; rfl
  apply R_ldPA; rfl; rfl; (first | exact seg_whole rfl | rfl); rfl; rfl; rfl; rfl; rfl
  apply R_fldP; rfl; rfl; rfl; rfl; rfl
  apply R_ldPA; rfl; rfl; (first | exact seg_whole rfl | rfl); rfl; rfl; rfl; rfl; rfl
  obtain ⟨r2, hr2, H⟩ := bindS H
  apply Run.op; (apply L_call; ((apply ArgsV.cons; (apply ArgV.val; rfl; rfl)); (apply ArgsV.cons; (apply ArgV.val; rfl; rfl)); (apply ArgsV.nil)); (exact m_laws_eqRat a0.fDX a1.fDX _ hr2); rfl; rfl; rfl); rfl; rfl
  apply R_not; rfl; rfl; rfl
  apply dn
  apply x3
  (repeat apply sq)
  refine CodeT.cond rfl (fun h => ?_) (fun h => ?_)
  replace H := ifFb (notT h) H
  (repeat apply sq)
  apply rg
  apply R_asg; rfl; rfl; rfl
  apply dn
  apply x3
  apply CodeT.ret
  apply x1
  cases H
  apply x12
  exact RetIs.sc1 rfl
  replace H := ifTb (notF h) H
  (repeat apply sq)
  apply CodeT.skip
  apply x3
  (repeat apply sq)
  apply rg
  apply R_fldP; rfl; rfl; rfl; rfl; rfl
  apply R_ldPA; rfl; rfl; (first | exact seg_whole rfl | rfl); rfl; rfl; rfl; rfl; rfl
  apply R_fldP; rfl; rfl; rfl; rfl; rfl
  apply R_ldPA; rfl; rfl; (first | exact seg_whole rfl | rfl); rfl; rfl; rfl; rfl; rfl
  obtain ⟨r3, hr3, H⟩ := bindS H
  apply Run.op; (apply L_call; ((apply ArgsV.cons; (apply ArgV.val; rfl; rfl)); (apply ArgsV.cons; (apply ArgV.val; rfl; rfl)); (apply ArgsV.nil)); (exact m_laws_eqRat a0.fDY a1.fDY _ hr3); rfl; rfl; rfl); rfl; rfl
  apply R_not; rfl; rfl; rfl
  apply dn
  apply x3
  (repeat apply sq)
  refine CodeT.cond rfl (fun h => ?_) (fun h => ?_)
  replace H := ifFb (notT h) H
  (repeat apply sq)
  apply rg
  apply R_asg; rfl; rfl; rfl
  apply dn
  apply x3
  apply CodeT.ret
  apply x1
  cases H
  apply x12
  exact RetIs.sc1 rfl
  replace H := ifTb (notF h) H
  (repeat apply sq)
  apply CodeT.skip
  apply x3
  (repeat apply sq)
  apply rg
  apply R_asg; rfl; rfl; rfl
  apply dn
  apply x3
  apply CodeT.ret
  cases H
  apply x12
  exact RetIs.sc1 rfl
theorem m_laws_eqLinkS (a0 : (List Link)) (a1 : (List Link)) (r : Bool) (H : laws_eqLinkS a0 a1 = some r) : Meets Try.prog 63 [.sl a0.length (a0.flatMap encLink), .sl a1.length (a1.flatMap encLink)] (.sc (.bool r)) true := by
  refine Meets.intro2 (N := 27) (rs := #[.tmp 4]) Try.func63 rfl rfl rfl rfl ?_
  intro Γ hio
  unfold laws_eqLinkS at H
  (repeat apply sq)
  apply rg
  apply R_asg; rfl; rfl; rfl
  apply dn
  apply x3
  (repeat apply sq)
  apply rg
  apply R_mov; rfl; rfl; rfl
  apply R_len; rfl; rfl; rfl
  apply R_mov; rfl; rfl; rfl
  apply R_len; rfl; rfl; rfl
  apply R_neq; rfl; rfl; rfl; rfl
  apply dn
  apply x3
  (repeat apply sq)
  refine CodeT.cond rfl (fun h => ?_) (fun h => ?_)
  replace H := ifT (of_decide_eq_true h) H
  (repeat apply sq)
  apply rg
  apply R_asg; rfl; rfl; rfl
  apply dn
  apply x3
  apply CodeT.ret
  apply x1
  cases H
  apply x12
  exact RetIs.sc1 rfl
  replace H := ifF (of_decide_eq_false h) H
  (repeat apply sq)
  apply CodeT.skip
  apply x3
  (repeat apply sq)
  apply rg
  apply R_asg; rfl; rfl; rfl
  apply dn
  apply x3
  (repeat apply sq)
  apply CodeT.block
  (repeat apply sq)
  obtain ⟨d8, hd8, H⟩ := bindS H
  refine CodeT.lloop (fun s => ⟨[(0, ⟨.sl a0.length (a0.flatMap encLink), false⟩), (1, ⟨.sl a1.length (a1.flatMap encLink), false⟩), (5, ⟨.sc (.int .i64 s), false⟩)], []⟩) (fun x e E => match x with | (.inl d) => XEnv Γ (.exit 0) ⟨[], []⟩ e E | (.inr d) => XRet Γ #[.tmp 4] (.sc (.bool d)) true e E) hd8 ?_ ?_ ?_
  apply el [] (io0 hio _) <;> rfl
  clear H hd8
  rintro v4 o H
  unfold laws_eqLinkS_L1 at H
  (repeat apply sq)
  apply rg
  apply R_mov; rfl; rfl; rfl
  apply R_mov; rfl; rfl; rfl
  apply R_len; rfl; rfl; rfl
  apply R_lss; rfl; rfl; rfl; rfl
  apply dn
  apply x3
  (repeat apply sq)
  refine CodeT.cond rfl (fun h => ?_) (fun h => ?_)
  replace H := ifT (of_decide_eq_true h) H
  (repeat apply sq)
  apply CodeT.skip
  apply x3
  (repeat apply sq)
  apply CodeT.block
  (repeat apply sq)
  apply rg
  apply R_mov; rfl; rfl; rfl
  apply R_mov; rfl; rfl; rfl
  obtain ⟨y5, hy5, H⟩ := bindS H
  apply Run.op; (apply L_ixS2; rfl; rfl; rfl; (exact hy5); (intro _; rfl); rfl); rfl; rfl
  apply Run.op; (apply L_ldIA; rfl; (first | exact take_whole rfl | rfl); rfl; (intro h; cases h); rfl; rfl); rfl; rfl
  apply R_mov; rfl; rfl; rfl
  apply R_mov; rfl; rfl; rfl
  obtain ⟨y6, hy6, H⟩ := bindS H
  apply Run.op; (apply L_ixS2; rfl; rfl; rfl; (exact hy6); (intro _; rfl); rfl); rfl; rfl
  apply Run.op; (apply L_ldIA; rfl; (first | exact take_whole rfl | rfl); rfl; (intro h; cases h); rfl; rfl); rfl; rfl
  obtain ⟨r7, hr7, H⟩ := bindS H
  apply Run.op; (apply L_call; ((apply ArgsV.cons; (apply ArgV.val; rfl; rfl)); (apply ArgsV.cons; (apply ArgV.val; rfl; rfl)); (apply ArgsV.nil)); (exact m_laws_eqLink y5 y6 _ hr7); rfl; rfl; rfl); rfl; rfl
  apply R_not; rfl; rfl; rfl
  apply Run.done; refine ⟨fun _ => ⟨rfl, rfl⟩, ?_⟩
  apply x3
  refine CodeT.cond rfl (fun h => ?_) (fun h => ?_)
  replace H := ifFb (notT h) H
  (repeat apply sq)
  apply rg
  apply R_asg; rfl; rfl; rfl
  apply dn
  apply x3
  apply CodeT.ret
  apply x4
  apply x1
  obtain rfl := Option.some.inj H
  refine Ev.y2 ?_
  refine XRet.mk ?_
  exact RetIs.sc1 rfl
  replace H := ifTb (notF h) H
  (repeat apply sq)
  apply CodeT.skip
  apply x5
  apply x3
  apply rg
  apply R_mov; rfl; rfl; rfl
  apply R_add; rfl; rfl; rfl; rfl; rfl
  apply R_asg; rfl; rfl; rfl
  apply dn
  obtain rfl := Option.some.inj H
  refine Ev.y1 ?_
  apply el [] (io0 hio _) <;> rfl
  replace H := ifF (of_decide_eq_false h) H
  (repeat apply sq)
  apply CodeT.exit
  apply x2
  obtain rfl := Option.some.inj H
  refine Ev.y3 ?_
  refine XEnv.mk ?_
  apply el [] (io0 hio _) <;> rfl
  rcases d8 with (d9 | d11)
  intro e E' hX; obtain ⟨rfl, g10⟩ := XEnv.out hX
  refine x6 rfl ?_
  apply x3
  refine CodeT.weak g10 ?_
  (repeat apply sq)
  apply rg
  apply R_asg; rfl; rfl; rfl
  apply dn
  apply x3
  apply CodeT.ret
  cases H
  apply x12
  exact RetIs.sc1 rfl
  intro e E' hX; obtain ⟨rfl, g12⟩ := XRet.out hX
  apply x4
  apply x1
  cases H
  apply x12
  exact g12
theorem m_laws_eqParent (a0 : Parent) (a1 : Parent) (r : Bool) (H : laws_eqParent a0 a1 = some r) : Meets Try.prog 97 [.agg (encParent a0), .agg (encParent a1)] (.sc (.bool r)) true := by
  refine Meets.intro2 (N := 28) (rs := #[.tmp 4]) Try.func97 rfl rfl rfl rfl ?_
  intro Γ hio
  unfold laws_eqParent at H
  (repeat apply sq)
  apply rg
  apply Run.op; (apply L_box false; rfl; rfl; rfl; (exact io1 hio _); rfl); rfl; rfl
  apply Run.op; (apply L_box false; rfl; rfl; rfl; (exact io1 hio _); rfl); rfl; rfl
  apply R_asg; rfl; rfl; rfl
  apply dn
  apply x3
  (repeat apply sq)
  apply rg
  apply R_fldP; rfl; rfl; rfl; rfl; rfl
  apply R_ldP; rfl; rfl; rfl; rfl; rfl; rfl
  apply R_fldP; rfl; rfl; rfl; rfl; rfl
  apply R_ldP; rfl; rfl; rfl; rfl; rfl; rfl
  apply R_neq; rfl; rfl; rfl; rfl
  apply dn
  apply x3
  (repeat apply sq)
  refine CodeT.cond rfl (fun h => ?_) (fun h => ?_)
  replace H := ifT (of_decide_eq_true h) H
  (repeat apply sq)
  apply rg
  apply R_asg; rfl; rfl; rfl
  apply dn
  apply x3
  apply CodeT.ret
  apply x1
  cases H
  apply x12
  exact RetIs.sc1 rfl
  replace H := ifF (of_decide_eq_false h) H
  (repeat apply sq)
  apply CodeT.skip
  apply x3
  (repeat apply sq)
  apply rg
  apply R_fldP; rfl; rfl; rfl; rfl; rfl
  apply R_ldPA; rfl; rfl; (first | exact seg_whole rfl | rfl); rfl; rfl; rfl; rfl; rfl
  apply R_fldP; rfl; rfl; rfl; rfl; rfl
  apply R_ldPA; rfl; rfl; (first | exact seg_whole rfl | rfl); rfl; rfl; rfl; rfl; rfl
  obtain ⟨r1, hr1, H⟩ := bindS H
  apply Run.op; (apply L_call; ((apply ArgsV.cons; (apply ArgV.val; rfl; rfl)); (apply ArgsV.cons; (apply ArgV.val; rfl; rfl)); (apply ArgsV.nil)); (exact m_laws_eqRat a0.fShare a1.fShare _ hr1); rfl; rfl; rfl); rfl; rfl
  apply R_not; rfl; rfl; rfl
  apply dn
  apply x3
  (repeat apply sq)
  refine CodeT.cond rfl (fun h => ?_) (fun h => ?_)
  replace H := ifFb (notT h) H
  (repeat apply sq)
  apply rg
  apply R_asg; rfl; rfl; rfl
  apply dn
  apply x3
  apply CodeT.ret
  apply x1
  cases H
  apply x12
  exact RetIs.sc1 rfl
  replace H := ifTb (notF h) H
  (repeat apply sq)
  apply CodeT.skip
  apply x3
  (repeat apply sq)
  apply rg
  apply R_fldP; rfl; rfl; rfl; rfl; rfl
  apply R_ldPA; rfl; rfl; (first | exact seg_whole rfl | rfl); rfl; rfl; rfl; rfl; rfl
  apply R_fldP; rfl; rfl; rfl; rfl; rfl
  apply R_ldPA; rfl; rfl; (first | exact seg_whole rfl | rfl); rfl; rfl; rfl; rfl; rfl
  obtain ⟨r2, hr2, H⟩ := bindS H
  apply Run.op; (apply L_call; ((apply ArgsV.cons; (apply ArgV.val; rfl; rfl)); (apply ArgsV.cons; (apply ArgV.val; rfl; rfl)); (apply ArgsV.nil)); (exact m_laws_eqRat a0.fDX a1.fDX _ hr2); rfl; rfl; rfl); rfl; rfl
  apply R_not; rfl; rfl; rfl
  apply dn
  apply x3
  (repeat apply sq)
  refine CodeT.cond rfl (fun h => ?_) (fun h => ?_)
  replace H := ifFb (notT h) H
  (repeat apply sq)
  apply rg
  apply R_asg; rfl; rfl; rfl
  apply dn
  apply x3
  apply CodeT.ret
  apply x1
  cases H
  apply x12
  exact RetIs.sc1 rfl
  replace H := ifTb (notF h) H
  (repeat apply sq)
  apply CodeT.skip
  apply x3
  (repeat apply sq)
  apply rg
  apply R_fldP; rfl; rfl; rfl; rfl; rfl
  apply R_ldPA; rfl; rfl; (first | exact seg_whole rfl | rfl); rfl; rfl; rfl; rfl; rfl
  apply R_fldP; rfl; rfl; rfl; rfl; rfl
  apply R_ldPA; rfl; rfl; (first | exact seg_whole rfl | rfl); rfl; rfl; rfl; rfl; rfl
  obtain ⟨r3, hr3, H⟩ := bindS H
  apply Run.op; (apply L_call; ((apply ArgsV.cons; (apply ArgV.val; rfl; rfl)); (apply ArgsV.cons; (apply ArgV.val; rfl; rfl)); (apply ArgsV.nil)); (exact m_laws_eqRat a0.fDY a1.fDY _ hr3); rfl; rfl; rfl); rfl; rfl
  apply R_not; rfl; rfl; rfl
  apply dn
  apply x3
  (repeat apply sq)
  refine CodeT.cond rfl (fun h => ?_) (fun h => ?_)
  replace H := ifFb (notT h) H
  (repeat apply sq)
  apply rg
  apply R_asg; rfl; rfl; rfl
  apply dn
  apply x3
  apply CodeT.ret
  apply x1
  cases H
  apply x12
  exact RetIs.sc1 rfl
  replace H := ifTb (notF h) H
  (repeat apply sq)
  apply CodeT.skip
  apply x3
  (repeat apply sq)
  apply rg
  apply R_asg; rfl; rfl; rfl
  apply dn
  apply x3
  apply CodeT.ret
  cases H
  apply x12
  exact RetIs.sc1 rfl
theorem m_laws_eqParentS (a0 : (List Parent)) (a1 : (List Parent)) (r : Bool) (H : laws_eqParentS a0 a1 = some r) : Meets Try.prog 90 [.sl a0.length (a0.flatMap encParent), .sl a1.length (a1.flatMap encParent)] (.sc (.bool r)) true := by
  refine Meets.intro2 (N := 27) (rs := #[.tmp 4]) Try.func90 rfl rfl rfl rfl ?_
  intro Γ hio
  unfold laws_eqParentS at H
  (repeat apply sq)
  apply rg
  apply R_asg; rfl; rfl; rfl
  apply dn
  apply x3
  (repeat apply sq)
  apply rg
  apply R_mov; rfl; rfl; rfl
  apply R_len; rfl; rfl; rfl
  apply R_mov; rfl; rfl; rfl
  apply R_len; rfl; rfl; rfl
  apply R_neq; rfl; rfl; rfl; rfl
  apply dn
  apply x3
  (repeat apply sq)
  refine CodeT.cond rfl (fun h => ?_) (fun h => ?_)
  replace H := ifT (of_decide_eq_true h) H
  (repeat apply sq)
  apply rg
  apply R_asg; rfl; rfl; rfl
  apply dn
  apply x3
  apply CodeT.ret
  apply x1
  cases H
  apply x12
  exact RetIs.sc1 rfl
  replace H := ifF (of_decide_eq_false h) H
  (repeat apply sq)
  apply CodeT.skip
  apply x3
  (repeat apply sq)
  apply rg
  apply R_asg; rfl; rfl; rfl
  apply dn
  apply x3
  (repeat apply sq)
  apply CodeT.block
  (repeat apply sq)
  obtain ⟨d8, hd8, H⟩ := bindS H
  refine CodeT.lloop (fun s => ⟨[(0, ⟨.sl a0.length (a0.flatMap encParent), false⟩), (1, ⟨.sl a1.length (a1.flatMap encParent), false⟩), (5, ⟨.sc (.int .i64 s), false⟩)], []⟩) (fun x e E => match x with | (.inl d) => XEnv Γ (.exit 0) ⟨[], []⟩ e E | (.inr d) => XRet Γ #[.tmp 4] (.sc (.bool d)) true e E) hd8 ?_ ?_ ?_
  apply el [] (io0 hio _) <;> rfl
  clear H hd8
  rintro v4 o H
  unfold laws_eqParentS_L1 at H
  (repeat apply sq)
  apply rg
  apply R_mov; rfl; rfl; rfl
  apply R_mov; rfl; rfl; rfl
  apply R_len; rfl; rfl; rfl
  apply R_lss; rfl; rfl; rfl; rfl
  apply dn
  apply x3
  (repeat apply sq)
  refine CodeT.cond rfl (fun h => ?_) (fun h => ?_)
  replace H := ifT (of_decide_eq_true h) H
  (repeat apply sq)
  apply CodeT.skip
  apply x3
  (repeat apply sq)
  apply CodeT.block
  (repeat apply sq)
  apply rg
  apply R_mov; rfl; rfl; rfl
  apply R_mov; rfl; rfl; rfl
  obtain ⟨y5, hy5, H⟩ := bindS H
  apply Run.op; (apply L_ixS2; rfl; rfl; rfl; (exact hy5); (intro _; rfl); rfl); rfl; rfl
  apply Run.op; (apply L_ldIA; rfl; (first | exact take_whole rfl | rfl); rfl; (intro h; cases h); rfl; rfl); rfl; rfl
  apply R_mov; rfl; rfl; rfl
  apply R_mov; rfl; rfl; rfl
  obtain ⟨y6, hy6, H⟩ := bindS H
  apply Run.op; (apply L_ixS2; rfl; rfl; rfl; (exact hy6); (intro _; rfl); rfl); rfl; rfl
  apply Run.op; (apply L_ldIA; rfl; (first | exact take_whole rfl | rfl); rfl; (intro h; cases h); rfl; rfl); rfl; rfl
  obtain ⟨r7, hr7, H⟩ := bindS H
  apply Run.op; (apply L_call; ((apply ArgsV.cons; (apply ArgV.val; rfl; rfl)); (apply ArgsV.cons; (apply ArgV.val; rfl; rfl)); (apply ArgsV.nil)); (exact m_laws_eqParent y5 y6 _ hr7); rfl; rfl; rfl); rfl; rfl
  apply R_not; rfl; rfl; rfl
  apply Run.done; refine ⟨fun _ => ⟨rfl, rfl⟩, ?_⟩
  apply x3
  refine CodeT.cond rfl (fun h => ?_) (fun h => ?_)
  replace H := ifFb (notT h) H
  (repeat apply sq)
  apply rg
  apply R_asg; rfl; rfl; rfl
  apply dn
  apply x3
  apply CodeT.ret
  apply x4
  apply x1
  obtain rfl := Option.some.inj H
  refine Ev.y2 ?_
  refine XRet.mk ?_
  exact RetIs.sc1 rfl
  replace H := ifTb (notF h) H
  (repeat apply sq)
  apply CodeT.skip
  apply x5
  apply x3
  apply rg
  apply R_mov; rfl; rfl; rfl
  apply R_add; rfl; rfl; rfl; rfl; rfl
  apply R_asg; rfl; rfl; rfl
  apply dn
  obtain rfl := Option.some.inj H
  refine Ev.y1 ?_
  apply el [] (io0 hio _) <;> rfl
  replace H := ifF (of_decide_eq_false h) H
  (repeat apply sq)
  apply CodeT.exit
  apply x2
  obtain rfl := Option.some.inj H
  refine Ev.y3 ?_
  refine XEnv.mk ?_
  apply el [] (io0 hio _) <;> rfl
  rcases d8 with (d9 | d11)
  intro e E' hX; obtain ⟨rfl, g10⟩ := XEnv.out hX
  refine x6 rfl ?_
  apply x3
  refine CodeT.weak g10 ?_
  (repeat apply sq)
  apply rg
  apply R_asg; rfl; rfl; rfl
  apply dn
  apply x3
  apply CodeT.ret
  cases H
  apply x12
  exact RetIs.sc1 rfl
  intro e E' hX; obtain ⟨rfl, g12⟩ := XRet.out hX
  apply x4
  apply x1
  cases H
  apply x12
  exact g12
theorem m_laws_eqConditional (a0 : Conditional) (a1 : Conditional) (r : Bool) (H : laws_eqConditional a0 a1 = some r) : Meets Try.prog 64 [.agg (encConditional a0), .agg (encConditional a1)] (.sc (.bool r)) true := by
  refine Meets.intro2 (N := 22) (rs := #[.tmp 4]) Try.func64 rfl rfl rfl rfl ?_
  intro Γ hio
  unfold laws_eqConditional at H
  (repeat apply sq)
  apply rg
  apply Run.op; (apply L_box false; rfl; rfl; rfl; (exact io1 hio _); rfl); rfl; rfl
  apply Run.op; (apply L_box false; rfl; rfl; rfl; (exact io1 hio _); rfl); rfl; rfl
  apply R_asg; rfl; rfl; rfl
  apply dn
  apply x3
  (repeat apply sq)
  apply rg
  apply R_fldP; rfl; rfl; rfl; rfl; rfl
  apply R_ldP; rfl; rfl; rfl; rfl; rfl; rfl
  apply R_fldP; rfl; rfl; rfl; rfl; rfl
  apply R_ldP; rfl; rfl; rfl; rfl; rfl; rfl
  apply R_neq; rfl; rfl; rfl; rfl
  apply dn
  apply x3
  (repeat apply sq)
  refine CodeT.cond rfl (fun h => ?_) (fun h => ?_)
  replace H := ifT (of_decide_eq_true h) H
  (repeat apply sq)
  apply rg
  apply R_asg; rfl; rfl; rfl
  apply dn
  apply x3
  apply CodeT.ret
  apply x1
  cases H
  apply x12
  exact RetIs.sc1 rfl
  replace H := ifF (of_decide_eq_false h) H
  (repeat apply sq)
  apply CodeT.skip
  apply x3
  (repeat apply sq)
  apply rg
  apply R_fldP; rfl; rfl; rfl; rfl; rfl
  apply R_ldPA; rfl; rfl; (first | exact seg_whole rfl | rfl); rfl; rfl; rfl; rfl; rfl
  apply R_fldP; rfl; rfl; rfl; rfl; rfl
  apply R_ldPA; rfl; rfl; (first | exact seg_whole rfl | rfl); rfl; rfl; rfl; rfl; rfl
  obtain ⟨r1, hr1, H⟩ := bindS H
  apply Run.op; (apply L_call; ((apply ArgsV.cons; (apply ArgV.val; rfl; rfl)); (apply ArgsV.cons; (apply ArgV.val; rfl; rfl)); (apply ArgsV.nil)); (exact m_laws_eqRat a0.fTotal a1.fTotal _ hr1); rfl; rfl; rfl); rfl; rfl
  apply R_not; rfl; rfl; rfl
  apply dn
  apply x3
  (repeat apply sq)
  refine CodeT.cond rfl (fun h => ?_) (fun h => ?_)
  replace H := ifFb (notT h) H
  (repeat apply sq)
  apply rg
  apply R_asg; rfl; rfl; rfl
  apply dn
  apply x3
  apply CodeT.ret
  apply x1
  cases H
  apply x12
  exact RetIs.sc1 rfl
  replace H := ifTb (notF h) H
  (repeat apply sq)
  apply CodeT.skip
  apply x3
  (repeat apply sq)
  apply rg
  apply R_fldP; rfl; rfl; rfl; rfl; rfl
  apply R_ldP; rfl; rfl; rfl; rfl; rfl; rfl
  apply R_fldP; rfl; rfl; rfl; rfl; rfl
  apply R_ldP; rfl; rfl; rfl; rfl; rfl; rfl
  obtain ⟨r2, hr2, H⟩ := bindS H
  apply Run.op; (apply L_call; ((apply ArgsV.cons; (apply ArgV.val; rfl; rfl)); (apply ArgsV.cons; (apply ArgV.val; rfl; rfl)); (apply ArgsV.nil)); (exact m_laws_eqParentS a0.fParents a1.fParents _ hr2); rfl; rfl; rfl); rfl; rfl
  apply R_not; rfl; rfl; rfl
  apply dn
  apply x3
  (repeat apply sq)
  refine CodeT.cond rfl (fun h => ?_) (fun h => ?_)
  replace H := ifFb (notT h) H
  (repeat apply sq)
  apply rg
  apply R_asg; rfl; rfl; rfl
  apply dn
  apply x3
  apply CodeT.ret
  apply x1
  cases H
  apply x12
  exact RetIs.sc1 rfl
  replace H := ifTb (notF h) H
  (repeat apply sq)
  apply CodeT.skip
  apply x3
  (repeat apply sq)
  apply rg
  apply R_asg; rfl; rfl; rfl
  apply dn
  apply x3
  apply CodeT.ret
  cases H
  apply x12
  exact RetIs.sc1 rfl
theorem m_laws_eqTreeNode (a0 : TreeNode) (a1 : TreeNode) (r : Bool) (H : laws_eqTreeNode a0 a1 = some r) : Meets Try.prog 35 [.agg (encTreeNode a0), .agg (encTreeNode a1)] (.sc (.bool r)) true := by
  refine Meets.intro2 (N := 39) (rs := #[.tmp 4]) Try.func35 rfl rfl rfl rfl ?_
  intro Γ hio
  unfold laws_eqTreeNode at H
  (repeat apply sq)
  apply rg
  apply Run.op; (apply L_box false; rfl; rfl; rfl; (exact io1 hio _); rfl); rfl; rfl
  apply Run.op; (apply L_box false; rfl; rfl; rfl; (exact io1 hio _); rfl); rfl; rfl
  apply R_asg; rfl; rfl; rfl
  apply dn
  apply x3
  (repeat apply sq)
  apply rg
  apply R_fldP; rfl; rfl; rfl; rfl; rfl
  apply R_ldP; rfl; rfl; rfl; rfl; rfl; rfl
  apply R_fldP; rfl; rfl; rfl; rfl; rfl
  apply R_ldP; rfl; rfl; rfl; rfl; rfl; rfl
  apply R_neq; rfl; rfl; rfl; rfl
  apply dn
  apply x3
  (repeat apply sq)
  refine CodeT.cond rfl (fun h => ?_) (fun h => ?_)
  replace H := ifT (of_decide_eq_true h) H
  (repeat apply sq)
  apply rg
  apply R_asg; rfl; rfl; rfl
  apply dn
  apply x3
  apply CodeT.ret
  apply x1
  cases H
  apply x12
  exact RetIs.sc1 rfl
  replace H := ifF (of_decide_eq_false h) H
  (repeat apply sq)
  apply CodeT.skip
  apply x3
  (repeat apply sq)
  apply rg
  apply R_fldP; rfl; rfl; rfl; rfl; rfl
  apply R_ldP; rfl; rfl; rfl; rfl; rfl; rfl
  apply R_fldP; rfl; rfl; rfl; rfl; rfl
  apply R_ldP; rfl; rfl; rfl; rfl; rfl; rfl
  apply R_neq; rfl; rfl; rfl; rfl
  apply dn
  apply x3
  (repeat apply sq)
  refine CodeT.cond rfl (fun h => ?_) (fun h => ?_)
  replace H := ifT (of_decide_eq_true h) H
  (repeat apply sq)
  apply rg
  apply R_asg; rfl; rfl; rfl
  apply dn
  apply x3
  apply CodeT.ret
  apply x1
  cases H
  apply x12
  exact RetIs.sc1 rfl
  replace H := ifF (of_decide_eq_false h) H
  (repeat apply sq)
  apply CodeT.skip
  apply x3
  (repeat apply sq)
  apply rg
  apply R_fldP; rfl; rfl; rfl; rfl; rfl
  apply R_ldP; rfl; rfl; rfl; rfl; rfl; rfl
  apply R_fldP; rfl; rfl; rfl; rfl; rfl
  apply R_ldP; rfl; rfl; rfl; rfl; rfl; rfl
  obtain ⟨r1, hr1, H⟩ := bindS H
  apply Run.op; (apply L_call; ((apply ArgsV.cons; (apply ArgV.val; rfl; rfl)); (apply ArgsV.cons; (apply ArgV.val; rfl; rfl)); (apply ArgsV.nil)); (exact m_laws_eqLinkS a0.fOwn a1.fOwn _ hr1); rfl; rfl; rfl); rfl; rfl
  apply R_not; rfl; rfl; rfl
  apply dn
  apply x3
  (repeat apply sq)
  refine CodeT.cond rfl (fun h => ?_) (fun h => ?_)
  replace H := ifFb (notT h) H
  (repeat apply sq)
  apply rg
  apply R_asg; rfl; rfl; rfl
  apply dn
  apply x3
  apply CodeT.ret
  apply x1
  cases H
  apply x12
  exact RetIs.sc1 rfl
  replace H := ifTb (notF h) H
  (repeat apply sq)
  apply CodeT.skip
  apply x3
  (repeat apply sq)
  apply rg
  apply R_fldP; rfl; rfl; rfl; rfl; rfl
  apply R_ldPA; rfl; rfl; (first | exact seg_whole rfl | rfl); rfl; rfl; rfl; rfl; rfl
  apply R_fldP; rfl; rfl; rfl; rfl; rfl
  apply R_ldPA; rfl; rfl; (first | exact seg_whole rfl | rfl); rfl; rfl; rfl; rfl; rfl
  obtain ⟨r2, hr2, H⟩ := bindS H
  apply Run.op; (apply L_call; ((apply ArgsV.cons; (apply ArgV.val; rfl; rfl)); (apply ArgsV.cons; (apply ArgV.val; rfl; rfl)); (apply ArgsV.nil)); (exact m_laws_eqConditional a0.fCond a1.fCond _ hr2); rfl; rfl; rfl); rfl; rfl
  apply R_not; rfl; rfl; rfl
  apply dn
  apply x3
  (repeat apply sq)
  refine CodeT.cond rfl (fun h => ?_) (fun h => ?_)
  replace H := ifFb (notT h) H
  (repeat apply sq)
  apply rg
  apply R_asg; rfl; rfl; rfl
  apply dn
  apply x3
  apply CodeT.ret
  apply x1
  cases H
  apply x12
  exact RetIs.sc1 rfl
  replace H := ifTb (notF h) H
  (repeat apply sq)
  apply CodeT.skip
  apply x3
  (repeat apply sq)
  apply rg
  apply R_fldP; rfl; rfl; rfl; rfl; rfl
  apply R_ldP; rfl; rfl; rfl; rfl; rfl; rfl
  apply R_fldP; rfl; rfl; rfl; rfl; rfl
  apply R_ldP; rfl; rfl; rfl; rfl; rfl; rfl
  obtain ⟨r3, hr3, H⟩ := bindS H
  apply Run.op; (apply L_call; ((apply ArgsV.cons; (apply ArgV.val; rfl; rfl)); (apply ArgsV.cons; (apply ArgV.val; rfl; rfl)); (apply ArgsV.nil)); (exact m_laws_eqLinkS a0.fMessages a1.fMessages _ hr3); rfl; rfl; rfl); rfl; rfl
  apply R_not; rfl; rfl; rfl
  apply dn
  apply x3
  (repeat apply sq)
  refine CodeT.cond rfl (fun h => ?_) (fun h => ?_)
  replace H := ifFb (notT h) H
  (repeat apply sq)
  apply rg
  apply R_asg; rfl; rfl; rfl
  apply dn
  apply x3
  apply CodeT.ret
  apply x1
  cases H
  apply x12
  exact RetIs.sc1 rfl
  replace H := ifTb (notF h) H
  (repeat apply sq)
  apply CodeT.skip
  apply x3
  (repeat apply sq)
  apply rg
  apply R_fldP; rfl; rfl; rfl; rfl; rfl
  apply R_ldPA; rfl; rfl; (first | exact seg_whole rfl | rfl); rfl; rfl; rfl; rfl; rfl
  apply R_fldP; rfl; rfl; rfl; rfl; rfl
  apply R_ldPA; rfl; rfl; (first | exact seg_whole rfl | rfl); rfl; rfl; rfl; rfl; rfl
  obtain ⟨r4, hr4, H⟩ := bindS H
  apply Run.op; (apply L_call; ((apply ArgsV.cons; (apply ArgV.val; rfl; rfl)); (apply ArgsV.cons; (apply ArgV.val; rfl; rfl)); (apply ArgsV.nil)); (exact m_laws_eqRat a0.fEnergy a1.fEnergy _ hr4); rfl; rfl; rfl); rfl; rfl
  apply R_not; rfl; rfl; rfl
  apply dn
  apply x3
  (repeat apply sq)
  refine CodeT.cond rfl (fun h => ?_) (fun h => ?_)
  replace H := ifFb (notT h) H
  (repeat apply sq)
  apply rg
  apply R_asg; rfl; rfl; rfl
  apply dn
  apply x3
  apply CodeT.ret
  apply x1
  cases H
  apply x12
  exact RetIs.sc1 rfl
  replace H := ifTb (notF h) H
  (repeat apply sq)
  apply CodeT.skip
  apply x3
  (repeat apply sq)
  apply rg
  apply R_asg; rfl; rfl; rfl
  apply dn
  apply x3
  apply CodeT.ret
  cases H
  apply x12
  exact RetIs.sc1 rfl
theorem m_laws_eqTreeNodeS (a0 : (List TreeNode)) (a1 : (List TreeNode)) (r : Bool) (H : laws_eqTreeNodeS a0 a1 = some r) : Meets Try.prog 21 [.sl a0.length (a0.flatMap encTreeNode), .sl a1.length (a1.flatMap encTreeNode)] (.sc (.bool r)) true := by
  refine Meets.intro2 (N := 27) (rs := #[.tmp 4]) Try.func21 rfl rfl rfl rfl ?_
  intro Γ hio
  unfold laws_eqTreeNodeS at H
  (repeat apply sq)
  apply rg
  apply R_asg; rfl; rfl; rfl
  apply dn
  apply x3
  (repeat apply sq)
  apply rg
  apply R_mov; rfl; rfl; rfl
  apply R_len; rfl; rfl; rfl
  apply R_mov; rfl; rfl; rfl
  apply R_len; rfl; rfl; rfl
  apply R_neq; rfl; rfl; rfl; rfl
  apply dn
  apply x3
  (repeat apply sq)
  refine CodeT.cond rfl (fun h => ?_) (fun h => ?_)
  replace H := ifT (of_decide_eq_true h) H
  (repeat apply sq)
  apply rg
  apply R_asg; rfl; rfl; rfl
  apply dn
  apply x3
  apply CodeT.ret
  apply x1
  cases H
  apply x12
  exact RetIs.sc1 rfl
  replace H := ifF (of_decide_eq_false h) H
  (repeat apply sq)
  apply CodeT.skip
  apply x3
  (repeat apply sq)
  apply rg
  apply R_asg; rfl; rfl; rfl
  apply dn
  apply x3
  (repeat apply sq)
  apply CodeT.block
  (repeat apply sq)
  obtain ⟨d8, hd8, H⟩ := bindS H
  refine CodeT.lloop (fun s => ⟨[(0, ⟨.sl a0.length (a0.flatMap encTreeNode), false⟩), (1, ⟨.sl a1.length (a1.flatMap encTreeNode), false⟩), (5, ⟨.sc (.int .i64 s), false⟩)], []⟩) (fun x e E => match x with | (.inl d) => XEnv Γ (.exit 0) ⟨[], []⟩ e E | (.inr d) => XRet Γ #[.tmp 4] (.sc (.bool d)) true e E) hd8 ?_ ?_ ?_
  apply el [] (io0 hio _) <;> rfl
  clear H hd8
  rintro v4 o H
  unfold laws_eqTreeNodeS_L1 at H
  (repeat apply sq)
  apply rg
  apply R_mov; rfl; rfl; rfl
  apply R_mov; rfl; rfl; rfl
  apply R_len; rfl; rfl; rfl
  apply R_lss; rfl; rfl; rfl; rfl
  apply dn
  apply x3
  (repeat apply sq)
  refine CodeT.cond rfl (fun h => ?_) (fun h => ?_)
  replace H := ifT (of_decide_eq_true h) H
  (repeat apply sq)
  apply CodeT.skip
  apply x3
  (repeat apply sq)
  apply CodeT.block
  (repeat apply sq)
  apply rg
  apply R_mov; rfl; rfl; rfl
  apply R_mov; rfl; rfl; rfl
  obtain ⟨y5, hy5, H⟩ := bindS H
  apply Run.op; (apply L_ixS2; rfl; rfl; rfl; (exact hy5); (intro _; rfl); rfl); rfl; rfl
  apply Run.op; (apply L_ldIA; rfl; (first | exact take_whole rfl | rfl); rfl; (intro h; cases h); rfl; rfl); rfl; rfl
  apply R_mov; rfl; rfl; rfl
  apply R_mov; rfl; rfl; rfl
  obtain ⟨y6, hy6, H⟩ := bindS H
  apply Run.op; (apply L_ixS2; rfl; rfl; rfl; (exact hy6); (intro _; rfl); rfl); rfl; rfl
  apply Run.op; (apply L_ldIA; rfl; (first | exact take_whole rfl | rfl); rfl; (intro h; cases h); rfl; rfl); rfl; rfl
  obtain ⟨r7, hr7, H⟩ := bindS H
  apply Run.op; (apply L_call; ((apply ArgsV.cons; (apply ArgV.val; rfl; rfl)); (apply ArgsV.cons; (apply ArgV.val; rfl; rfl)); (apply ArgsV.nil)); (exact m_laws_eqTreeNode y5 y6 _ hr7); rfl; rfl; rfl); rfl; rfl
  apply R_not; rfl; rfl; rfl
  apply Run.done; refine ⟨fun _ => ⟨rfl, rfl⟩, ?_⟩
  apply x3
  refine CodeT.cond rfl (fun h => ?_) (fun h => ?_)
  replace H := ifFb (notT h) H
  (repeat apply sq)
  apply rg
  apply R_asg; rfl; rfl; rfl
  apply dn
  apply x3
  apply CodeT.ret
  apply x4
  apply x1
  obtain rfl := Option.some.inj H
  refine Ev.y2 ?_
  refine XRet.mk ?_
  exact RetIs.sc1 rfl
  replace H := ifTb (notF h) H
  (repeat apply sq)
  apply CodeT.skip
  apply x5
  apply x3
  apply rg
  apply R_mov; rfl; rfl; rfl
  apply R_add; rfl; rfl; rfl; rfl; rfl
  apply R_asg; rfl; rfl; rfl
  apply dn
  obtain rfl := Option.some.inj H
  refine Ev.y1 ?_
  apply el [] (io0 hio _) <;> rfl
  replace H := ifF (of_decide_eq_false h) H
  (repeat apply sq)
  apply CodeT.exit
  apply x2
  obtain rfl := Option.some.inj H
  refine Ev.y3 ?_
  refine XEnv.mk ?_
  apply el [] (io0 hio _) <;> rfl
  rcases d8 with (d9 | d11)
  intro e E' hX; obtain ⟨rfl, g10⟩ := XEnv.out hX
  refine x6 rfl ?_
  apply x3
  refine CodeT.weak g10 ?_
  (repeat apply sq)
  apply rg
  apply R_asg; rfl; rfl; rfl
  apply dn
  apply x3
  apply CodeT.ret
  cases H
  apply x12
  exact RetIs.sc1 rfl
  intro e E' hX; obtain ⟨rfl, g12⟩ := XRet.out hX
  apply x4
  apply x1
  cases H
  apply x12
  exact g12
theorem m_laws_eqTree (a0 : Tree) (a1 : Tree) (r : Bool) (H : laws_eqTree a0 a1 = some r) : Meets Try.prog 9 [.agg (encTree a0), .agg (encTree a1)] (.sc (.bool r)) true := by
  refine Meets.intro2 (N := 11) (rs := #[.tmp 4]) Try.func9 rfl rfl rfl rfl ?_
  intro Γ hio
  unfold laws_eqTree at H
  (repeat apply sq)
  apply rg
  apply Run.op; (apply L_box false; rfl; rfl; rfl; (exact io1 hio _); rfl); rfl; rfl
  apply Run.op; (apply L_box false; rfl; rfl; rfl; (exact io1 hio _); rfl); rfl; rfl
  apply R_asg; rfl; rfl; rfl
  apply dn
  apply x3
  (repeat apply sq)
  apply rg
  apply R_fldP; rfl; rfl; rfl; rfl; rfl
  apply R_ldP; rfl; rfl; rfl; rfl; rfl; rfl
  apply R_fldP; rfl; rfl; rfl; rfl; rfl
  apply R_ldP; rfl; rfl; rfl; rfl; rfl; rfl
  obtain ⟨r1, hr1, H⟩ := bindS H
  apply Run.op; (apply L_call; ((apply ArgsV.cons; (apply ArgV.val; rfl; rfl)); (apply ArgsV.cons; (apply ArgV.val; rfl; rfl)); (apply ArgsV.nil)); (exact m_laws_eqTreeNodeS a0.fNodes a1.fNodes _ hr1); rfl; rfl; rfl); rfl; rfl
  apply R_not; rfl; rfl; rfl
  apply dn
  apply x3
  (repeat apply sq)
  refine CodeT.cond rfl (fun h => ?_) (fun h => ?_)
  replace H := ifFb (notT h) H
  (repeat apply sq)
  apply rg
  apply R_asg; rfl; rfl; rfl
  apply dn
  apply x3
  apply CodeT.ret
  apply x1
  cases H
  apply x12
  exact RetIs.sc1 rfl
  replace H := ifTb (notF h) H
  (repeat apply sq)
  apply CodeT.skip
  apply x3
  (repeat apply sq)
  apply rg
  apply R_asg; rfl; rfl; rfl
  apply dn
  apply x3
  apply CodeT.ret
  cases H
  apply x12
  exact RetIs.sc1 rfl
theorem m_laws_markIntS (a0 : (List Int)) (a1 : Int) (r : (Int × (List Int))) (H : laws_markIntS a0 a1 = some r) : MeetsX Try.prog 24 [.ref 100000 1 0 a0.length, .sc (.int .i64 a1)] [⟨100000, a0.flatMap (encI .i64), r.2.flatMap (encI .i64)⟩] (.sc (.int .i64 r.1)) true := by
  have H0 := H; clear H
  obtain ⟨r', H, H2⟩ := bindS H0; clear H0
  obtain ⟨_, hlen, H2⟩ := bindS H2
  obtain rfl := Option.some.inj H2
  have hlen := chkS hlen
  refine MeetsX.intro (N := 19) (rs := #[.tmp 4]) Try.func24 rfl rfl rfl rfl rfl (xo1 (nil_new (sz := 1) hlen (fun _ => rfl) (by decide))) (xo1 (allSc_flat (fun _ => rfl))) ?_
  clear hlen
  intro Γ hio
  unfold laws_markIntS_raw at H
  (repeat apply sq)
  apply rg
  apply R_asg; rfl; rfl; rfl
  apply dn
  apply x3
  (repeat apply sq)
  apply rg
  apply R_asg; rfl; rfl; rfl
  apply dn
  apply x3
  (repeat apply sq)
  apply CodeT.block
  (repeat apply sq)
  obtain ⟨d11, hd11, H⟩ := bindS H
  refine CodeT.lloop (fun s => ⟨[(0, ⟨.ref 100000 1 0 s.2.2.length, false⟩), (1, ⟨.sc (.int .i64 s.1), false⟩), (5, ⟨.sc (.int .i64 s.2.1), false⟩)], [(100000, some ⟨s.2.2.flatMap (encI .i64), true, false⟩)]⟩) (fun d e E => XEnv Γ (.exit 0) ⟨[(1, ⟨.sc (.int .i64 d.1), false⟩)], [(100000, some ⟨d.2.flatMap (encI .i64), true, false⟩)]⟩ e E) hd11 ?_ ?_ ?_
  apply el [] (io0 hio _) <;> rfl
  clear H hd11
  rintro ⟨v4, v5, v6⟩ o H
  unfold laws_markIntS_L1 at H
  (repeat apply sq)
  apply rg
  apply R_mov; rfl; rfl; rfl
  apply R_mov; rfl; rfl; rfl
  apply Run.op; (apply L_lenR; rfl; rfl; rfl); rfl; rfl
  apply R_lss; rfl; rfl; rfl; rfl
  apply dn
  apply x3
  (repeat apply sq)
  refine CodeT.cond rfl (fun h => ?_) (fun h => ?_)
  replace H := ifT (of_decide_eq_true h) H
  (repeat apply sq)
  apply CodeT.skip
  apply x3
  (repeat apply sq)
  apply CodeT.block
  (repeat apply sq)
  apply rg
  apply R_mov; rfl; rfl; rfl
  apply R_mov; rfl; rfl; rfl
  apply R_mov; rfl; rfl; rfl
  obtain ⟨y7, hy7, H⟩ := bindS H
  apply Run.op; (apply L_ixR2; rfl; rfl; rfl; (exact hy7); rfl; rfl); rfl; rfl
  obtain ⟨v8, hv8, H⟩ := bindS H
  have hl9 := setI_lenS hv8
  apply Run.op; (apply L_st; rfl; rfl; rfl; rfl; rfl; (intro h; cases h); (exact row_ble0 (sz := 1) (n := 1) hy7 (fun _ => rfl) (by decide)); (exact row_stL (sz := 1) hv8 hy7 (fun _ => rfl) rfl)); rfl; rfl
  apply dn
  apply x3
  refine CodeT.weak (Ent.relen (k := 0) (n' := v8.length) rfl (by first | (simp only [setI_len]; done) | (simp only [setI_len]; omega) | omega)) ?_
  apply rg
  apply R_mov; rfl; rfl; rfl
  apply R_add; rfl; rfl; rfl; rfl; rfl
  apply R_asg; rfl; rfl; rfl
  apply dn
  apply x5
  apply x3
  apply rg
  apply R_mov; rfl; rfl; rfl
  apply R_add; rfl; rfl; rfl; rfl; rfl
  apply R_asg; rfl; rfl; rfl
  apply dn
  obtain rfl := Option.some.inj H
  refine Ev.y1 ?_
  apply el [] (io0 hio _) <;> rfl
  replace H := ifF (of_decide_eq_false h) H
  (repeat apply sq)
  apply CodeT.exit
  apply x2
  obtain rfl := Option.some.inj H
  refine Ev.y3 ?_
  refine XEnv.mk ?_
  apply el [] (io0 hio _) <;> rfl
  skip
  intro e E' hX; obtain ⟨rfl, g12⟩ := XEnv.out hX
  refine x6 rfl ?_
  apply x3
  refine CodeT.weak g12 ?_
  (repeat apply sq)
  apply rg
  apply R_mov; rfl; rfl; rfl
  apply R_asg; rfl; rfl; rfl
  apply dn
  apply x3
  apply CodeT.ret
  cases H
  apply z12
  exact RetX.mk (RetIs.sc1 rfl) (xo1 ⟨_, rfl⟩)
theorem mk_laws_markIntS (a0 : (List Int)) (a1 : Int) (r : (Int × (List Int))) (H : laws_markIntS a0 a1 = some r) : MarkC Try.prog 24 (.rw 1 a0.length (a0.flatMap (encI .i64))) (.rw 1 r.2.length (r.2.flatMap (encI .i64))) (.int .i64 a1) (.int .i64 r.1) := by
  have h := m_laws_markIntS a0 a1 r H
  have hl := len_laws_markIntS a0 a1 r H
  rw [hl]; exact MarkC.ofX h (allSc_flat (fun _ => rfl))
theorem m_laws_markLinkS (a0 : (List Link)) (a1 : Int) (r : (Int × (List Link))) (H : laws_markLinkS a0 a1 = some r) : MeetsN Try.prog 36 [.ref 100000 11 0 a0.length, .sc (.int .i64 a1)] (a0.flatMap encWLink) (r.2.flatMap encWLink) (.sc (.int .i64 r.1)) := by
  have H0 := H; clear H
  obtain ⟨r', H, H2⟩ := bindS H0; clear H0
  obtain ⟨_, hlen, H2⟩ := bindS H2
  obtain rfl := Option.some.inj H2
  have hlen := chkS hlen
  refine MeetsN.intro (N := 111) (rs := #[.tmp 4]) Try.func36 rfl rfl rfl rfl (nil_new (l := 0) (sz := 11) hlen (fun _ => rfl) (by decide)) rfl ?_
  clear hlen
  intro Γ hio hle
  unfold laws_markLinkS_raw at H
  (repeat apply sq)
  apply rg
  apply R_asg; rfl; rfl; rfl
  apply dn
  apply x3
  (repeat apply sq)
  apply rg
  apply R_asg; rfl; rfl; rfl
  apply dn
  apply x3
  (repeat apply sq)
  apply CodeT.block
  (repeat apply sq)
  obtain ⟨d97, hd97, H⟩ := bindS H
  refine CodeT.lloop (fun s => ⟨[(0, ⟨.ref 100000 11 0 s.2.2.length, false⟩), (1, ⟨.sc (.int .i64 s.1), false⟩), (5, ⟨.sc (.int .i64 s.2.1), false⟩)], [(100000, some ⟨s.2.2.flatMap encWLink, true, false⟩)]⟩) (fun d e E => XEnv Γ (.exit 0) ⟨[(1, ⟨.sc (.int .i64 d.1), false⟩)], [(100000, some ⟨d.2.flatMap encWLink, true, false⟩)]⟩ e E) hd97 ?_ ?_ ?_
  apply el [] (io0 hio _) <;> rfl
  clear H hd97
  rintro ⟨v47, v48, v49⟩ o H
  unfold laws_markLinkS_L1 at H
  (repeat apply sq)
  apply rg
  apply R_mov; rfl; rfl; rfl
  apply R_mov; rfl; rfl; rfl
  apply Run.op; (apply L_lenR; rfl; rfl; rfl); rfl; rfl
  apply R_lss; rfl; rfl; rfl; rfl
  apply dn
  apply x3
  (repeat apply sq)
  refine CodeT.cond rfl (fun h => ?_) (fun h => ?_)
  replace H := ifT (of_decide_eq_true h) H
  (repeat apply sq)
  apply CodeT.skip
  apply x3
  (repeat apply sq)
  apply CodeT.block
  (repeat apply sq)
  apply rg
  apply R_mov; rfl; rfl; rfl
  apply R_mov; rfl; rfl; rfl
  apply R_mov; rfl; rfl; rfl
  obtain ⟨y50, hy50, H⟩ := bindS H
  apply Run.op; (apply L_ixR2; rfl; rfl; rfl; (exact hy50); rfl; rfl); rfl; rfl
  apply R_fldP; rfl; rfl; (exact row_pos (sz := 11) hy50 (fun _ => rfl) (by decide)); rfl; rfl
  obtain ⟨v51, hv51, H⟩ := bindS H
  have hl52 := setI_lenS hv51
  apply Run.op; (apply L_st; rfl; rfl; rfl; rfl; rfl; (intro h; cases h); (exact row_ble (sz := 11) (o := 0) (n := 1) hy50 (fun _ => rfl) (by decide)); (exact row_fldL (sz := 11) (o := 0) (n := 1) hv51 hy50 (fun _ => rfl) (by decide) rfl)); rfl; rfl
  apply dn
  apply x3
  (repeat apply sq)
  refine CodeT.weak (Ent.relen (k := 0) (n' := v51.length) rfl (by first | (simp only [setI_len]; done) | (simp only [setI_len]; omega) | omega)) ?_
  apply rg
  apply R_mov; rfl; rfl; rfl
  apply R_add; rfl; rfl; rfl; rfl; rfl
  apply R_asg; rfl; rfl; rfl
  apply dn
  apply x3
  (repeat apply sq)
  apply rg
  apply R_mov; rfl; rfl; rfl
  apply R_mov; rfl; rfl; rfl
  apply R_mov; rfl; rfl; rfl
  obtain ⟨y53, hy53, H⟩ := bindS H
  apply Run.op; (apply L_ixR2; rfl; rfl; rfl; (exact hy53); rfl; rfl); rfl; rfl
  apply R_fldP; rfl; rfl; (exact row_pos (sz := 11) hy53 (fun _ => rfl) (by decide)); rfl; rfl
  obtain ⟨v54, hv54, H⟩ := bindS H
  have hl55 := setI_lenS hv54
  apply Run.op; (apply L_st; rfl; rfl; rfl; rfl; rfl; (intro h; cases h); (exact row_ble (sz := 11) (o := 1) (n := 1) hy53 (fun _ => rfl) (by decide)); (exact row_fldL (sz := 11) (o := 1) (n := 1) hv54 hy53 (fun _ => rfl) (by decide) rfl)); rfl; rfl
  apply dn
  apply x3
  (repeat apply sq)
  refine CodeT.weak (Ent.relen (k := 0) (n' := v54.length) rfl (by first | (simp only [setI_len]; done) | (simp only [setI_len]; omega) | omega)) ?_
  apply rg
  apply R_mov; rfl; rfl; rfl
  obtain ⟨v56, hv56, H⟩ := bindS H
  apply R_add; rfl; rfl; (exact letS hv56); rfl; rfl
  apply R_asg; rfl; rfl; rfl
  apply dn
  apply x3
  (repeat apply sq)
  apply rg
  apply R_mov; rfl; rfl; rfl
  apply R_mov; rfl; rfl; rfl
  apply R_mov; rfl; rfl; rfl
  apply Run.op; (apply L_rem; rfl; rfl; (intro h; cases h); rfl; rfl); rfl; rfl
  apply R_eql; rfl; rfl; rfl; rfl
  obtain ⟨y57, hy57, H⟩ := bindS H
  apply Run.op; (apply L_ixR2; rfl; rfl; rfl; (exact hy57); rfl; rfl); rfl; rfl
  apply R_fldP; rfl; rfl; (exact row_pos (sz := 11) hy57 (fun _ => rfl) (by decide)); rfl; rfl
  apply R_fldP; rfl; rfl; (exact row_pos (sz := 11) hy57 (fun _ => rfl) (by decide)); rfl; rfl
  apply R_fldP; rfl; rfl; (exact row_pos (sz := 11) hy57 (fun _ => rfl) (by decide)); rfl; rfl
  obtain ⟨v58, hv58, H⟩ := bindS H
  have hl59 := setI_lenS hv58
  apply Run.op; (apply L_st; rfl; rfl; rfl; rfl; rfl; (intro h; cases h); (exact row_ble (sz := 11) (o := 2) (n := 1) hy57 (fun _ => rfl) (by decide)); (exact row_fldL (sz := 11) (o := 2) (n := 1) hv58 hy57 (fun _ => rfl) (by decide) rfl)); rfl; rfl
  apply dn
  apply x3
  (repeat apply sq)
  refine CodeT.weak (Ent.relen (k := 0) (n' := v58.length) rfl (by first | (simp only [setI_len]; done) | (simp only [setI_len]; omega) | omega)) ?_
  apply rg
  apply R_mov; rfl; rfl; rfl
  apply R_add; rfl; rfl; rfl; rfl; rfl
  apply R_asg; rfl; rfl; rfl
  apply dn
  apply x3
  (repeat apply sq)
  obtain ⟨y60, hy60, H⟩ := bindS H
  refine CodeT.expose (l := 100000) (c := v48.toNat * 11 + 3) rfl (row_ld (o := 3) hy60 rfl (fun _ => rfl)) (fun wy60 => ?_)
  apply rg
  apply R_mov; rfl; rfl; rfl
  apply R_mov; rfl; rfl; rfl
  apply Run.op; (apply L_ixR2; rfl; rfl; rfl; (exact hy60); rfl; rfl); rfl; rfl
  apply R_fldP; rfl; rfl; (exact row_posS (sz := 11) hy60 (fun _ => rfl) (by decide)); rfl; rfl
  apply R_fldP; rfl; rfl; (exact row_posS (sz := 11) hy60 (fun _ => rfl) (by decide)); rfl; rfl
  apply R_fldP; rfl; rfl; (exact row_posS (sz := 11) hy60 (fun _ => rfl) (by decide)); rfl; rfl
  apply Run.op; (apply Local.forget Forg.was; apply L_ldP; rfl; rfl; (exact set_self (row_ld (o := 3) hy60 rfl (fun _ => rfl))); (exact .inr rfl); rfl); rfl; rfl
  apply R_mov; rfl; rfl; rfl
  obtain ⟨r62, hr62, H⟩ := bindS H
  apply Run.op; (apply L_callM (l := 100000) (off := v48.toNat * 11 + 3) (m := 1) (p := .rw 1 y60.fWeight.fNum.fMag.length (y60.fWeight.fNum.fMag.flatMap (encI .i64))) (p' := .rw 1 r62.2.length (r62.2.flatMap (encI .i64))); rfl; rfl; rfl; (exact set_cut (row_ld (o := 3) hy60 rfl (fun _ => rfl))); rfl; rfl; (exact MCut.one); (exact mk_laws_markIntS y60.fWeight.fNum.fMag (IntKind.i64.wrap (v56 + 1)) _ hr62); (exact set_cat (row_ld (o := 3) hy60 rfl (fun _ => rfl))); (exact hle); rfl); rfl; rfl
  apply R_asg; rfl; rfl; rfl
  apply dn
  apply x3
  obtain ⟨v63, hv63, H⟩ := bindS H
  have hl64 := setI_lenS hv63
  refine CodeT.weak (Ent.soften (l := 100000) rfl (row_softM (sz := 11) hv63 hy60 (fun _ => rfl) (by decide) rfl)) ?_
  (repeat apply sq)
  refine CodeT.weak (Ent.relen (k := 0) (n' := v63.length) rfl (by first | (simp only [setI_len]; done) | (simp only [setI_len]; omega) | omega)) ?_
  obtain ⟨y65, hy65, H⟩ := bindS H
  refine CodeT.expose (l := 100000) (c := v48.toNat * 11 + 4) rfl (row_ld (o := 4) hy65 rfl (fun _ => rfl)) (fun wy65 => ?_)
  apply rg
  apply R_mov; rfl; rfl; rfl
  apply R_mov; rfl; rfl; rfl
  apply Run.op; (apply L_ixR2; rfl; rfl; rfl; (exact hy65); rfl; rfl); rfl; rfl
  apply R_fldP; rfl; rfl; (exact row_posS (sz := 11) hy65 (fun _ => rfl) (by decide)); rfl; rfl
  apply R_fldP; rfl; rfl; (exact row_posS (sz := 11) hy65 (fun _ => rfl) (by decide)); rfl; rfl
  apply Run.op; (apply Local.forget Forg.was; apply L_ldP; rfl; rfl; (exact set_self (row_ld (o := 4) hy65 rfl (fun _ => rfl))); (exact .inr rfl); rfl); rfl; rfl
  apply R_mov; rfl; rfl; rfl
  obtain ⟨r67, hr67, H⟩ := bindS H
  apply Run.op; (apply L_callM (l := 100000) (off := v48.toNat * 11 + 4) (m := 1) (p := .rw 1 y65.fWeight.fDen.length (y65.fWeight.fDen.flatMap (encI .i64))) (p' := .rw 1 r67.2.length (r67.2.flatMap (encI .i64))); rfl; rfl; rfl; (exact set_cut (row_ld (o := 4) hy65 rfl (fun _ => rfl))); rfl; rfl; (exact MCut.one); (exact mk_laws_markIntS y65.fWeight.fDen r62.1 _ hr67); (exact set_cat (row_ld (o := 4) hy65 rfl (fun _ => rfl))); (exact hle); rfl); rfl; rfl
  apply R_asg; rfl; rfl; rfl
  apply dn
  apply x3
  obtain ⟨v68, hv68, H⟩ := bindS H
  have hl69 := setI_lenS hv68
  refine CodeT.weak (Ent.soften (l := 100000) rfl (row_softM (sz := 11) hv68 hy65 (fun _ => rfl) (by decide) rfl)) ?_
  (repeat apply sq)
  refine CodeT.weak (Ent.relen (k := 0) (n' := v68.length) rfl (by first | (simp only [setI_len]; done) | (simp only [setI_len]; omega) | omega)) ?_
  apply rg
  apply R_mov; rfl; rfl; rfl
  apply R_mov; rfl; rfl; rfl
  apply R_mov; rfl; rfl; rfl
  apply Run.op; (apply L_rem; rfl; rfl; (intro h; cases h); rfl; rfl); rfl; rfl
  apply R_eql; rfl; rfl; rfl; rfl
  obtain ⟨y70, hy70, H⟩ := bindS H
  apply Run.op; (apply L_ixR2; rfl; rfl; rfl; (exact hy70); rfl; rfl); rfl; rfl
  apply R_fldP; rfl; rfl; (exact row_pos (sz := 11) hy70 (fun _ => rfl) (by decide)); rfl; rfl
  apply R_fldP; rfl; rfl; (exact row_pos (sz := 11) hy70 (fun _ => rfl) (by decide)); rfl; rfl
  apply R_fldP; rfl; rfl; (exact row_pos (sz := 11) hy70 (fun _ => rfl) (by decide)); rfl; rfl
  obtain ⟨v71, hv71, H⟩ := bindS H
  have hl72 := setI_lenS hv71
  apply Run.op; (apply L_st; rfl; rfl; rfl; rfl; rfl; (intro h; cases h); (exact row_ble (sz := 11) (o := 5) (n := 1) hy70 (fun _ => rfl) (by decide)); (exact row_fldL (sz := 11) (o := 5) (n := 1) hv71 hy70 (fun _ => rfl) (by decide) rfl)); rfl; rfl
  apply dn
  apply x3
  (repeat apply sq)
  refine CodeT.weak (Ent.relen (k := 0) (n' := v71.length) rfl (by first | (simp only [setI_len]; done) | (simp only [setI_len]; omega) | omega)) ?_
  apply rg
  apply R_mov; rfl; rfl; rfl
  apply R_add; rfl; rfl; rfl; rfl; rfl
  apply R_asg; rfl; rfl; rfl
  apply dn
  apply x3
  (repeat apply sq)
  obtain ⟨y73, hy73, H⟩ := bindS H
  refine CodeT.expose (l := 100000) (c := v48.toNat * 11 + 6) rfl (row_ld (o := 6) hy73 rfl (fun _ => rfl)) (fun wy73 => ?_)
  apply rg
  apply R_mov; rfl; rfl; rfl
  apply R_mov; rfl; rfl; rfl
  apply Run.op; (apply L_ixR2; rfl; rfl; rfl; (exact hy73); rfl; rfl); rfl; rfl
  apply R_fldP; rfl; rfl; (exact row_posS (sz := 11) hy73 (fun _ => rfl) (by decide)); rfl; rfl
  apply R_fldP; rfl; rfl; (exact row_posS (sz := 11) hy73 (fun _ => rfl) (by decide)); rfl; rfl
  apply R_fldP; rfl; rfl; (exact row_posS (sz := 11) hy73 (fun _ => rfl) (by decide)); rfl; rfl
  apply Run.op; (apply Local.forget Forg.was; apply L_ldP; rfl; rfl; (exact set_self (row_ld (o := 6) hy73 rfl (fun _ => rfl))); (exact .inr rfl); rfl); rfl; rfl
  apply R_mov; rfl; rfl; rfl
  obtain ⟨r75, hr75, H⟩ := bindS H
  apply Run.op; (apply L_callM (l := 100000) (off := v48.toNat * 11 + 6) (m := 1) (p := .rw 1 y73.fDX.fNum.fMag.length (y73.fDX.fNum.fMag.flatMap (encI .i64))) (p' := .rw 1 r75.2.length (r75.2.flatMap (encI .i64))); rfl; rfl; rfl; (exact set_cut (row_ld (o := 6) hy73 rfl (fun _ => rfl))); rfl; rfl; (exact MCut.one); (exact mk_laws_markIntS y73.fDX.fNum.fMag (IntKind.i64.wrap (r67.1 + 1)) _ hr75); (exact set_cat (row_ld (o := 6) hy73 rfl (fun _ => rfl))); (exact hle); rfl); rfl; rfl
  apply R_asg; rfl; rfl; rfl
  apply dn
  apply x3
  obtain ⟨v76, hv76, H⟩ := bindS H
  have hl77 := setI_lenS hv76
  refine CodeT.weak (Ent.soften (l := 100000) rfl (row_softM (sz := 11) hv76 hy73 (fun _ => rfl) (by decide) rfl)) ?_
  (repeat apply sq)
  refine CodeT.weak (Ent.relen (k := 0) (n' := v76.length) rfl (by first | (simp only [setI_len]; done) | (simp only [setI_len]; omega) | omega)) ?_
  obtain ⟨y78, hy78, H⟩ := bindS H
  refine CodeT.expose (l := 100000) (c := v48.toNat * 11 + 7) rfl (row_ld (o := 7) hy78 rfl (fun _ => rfl)) (fun wy78 => ?_)
  apply rg
  apply R_mov; rfl; rfl; rfl
  apply R_mov; rfl; rfl; rfl
  apply Run.op; (apply L_ixR2; rfl; rfl; rfl; (exact hy78); rfl; rfl); rfl; rfl
  apply R_fldP; rfl; rfl; (exact row_posS (sz := 11) hy78 (fun _ => rfl) (by decide)); rfl; rfl
  apply R_fldP; rfl; rfl; (exact row_posS (sz := 11) hy78 (fun _ => rfl) (by decide)); rfl; rfl
  apply Run.op; (apply Local.forget Forg.was; apply L_ldP; rfl; rfl; (exact set_self (row_ld (o := 7) hy78 rfl (fun _ => rfl))); (exact .inr rfl); rfl); rfl; rfl
  apply R_mov; rfl; rfl; rfl
  obtain ⟨r80, hr80, H⟩ := bindS H
  apply Run.op; (apply L_callM (l := 100000) (off := v48.toNat * 11 + 7) (m := 1) (p := .rw 1 y78.fDX.fDen.length (y78.fDX.fDen.flatMap (encI .i64))) (p' := .rw 1 r80.2.length (r80.2.flatMap (encI .i64))); rfl; rfl; rfl; (exact set_cut (row_ld (o := 7) hy78 rfl (fun _ => rfl))); rfl; rfl; (exact MCut.one); (exact mk_laws_markIntS y78.fDX.fDen r75.1 _ hr80); (exact set_cat (row_ld (o := 7) hy78 rfl (fun _ => rfl))); (exact hle); rfl); rfl; rfl
  apply R_asg; rfl; rfl; rfl
  apply dn
  apply x3
  obtain ⟨v81, hv81, H⟩ := bindS H
  have hl82 := setI_lenS hv81
  refine CodeT.weak (Ent.soften (l := 100000) rfl (row_softM (sz := 11) hv81 hy78 (fun _ => rfl) (by decide) rfl)) ?_
  (repeat apply sq)
  refine CodeT.weak (Ent.relen (k := 0) (n' := v81.length) rfl (by first | (simp only [setI_len]; done) | (simp only [setI_len]; omega) | omega)) ?_
  apply rg
  apply R_mov; rfl; rfl; rfl
  apply R_mov; rfl; rfl; rfl
  apply R_mov; rfl; rfl; rfl
  apply Run.op; (apply L_rem; rfl; rfl; (intro h; cases h); rfl; rfl); rfl; rfl
  apply R_eql; rfl; rfl; rfl; rfl
  obtain ⟨y83, hy83, H⟩ := bindS H
  apply Run.op; (apply L_ixR2; rfl; rfl; rfl; (exact hy83); rfl; rfl); rfl; rfl
  apply R_fldP; rfl; rfl; (exact row_pos (sz := 11) hy83 (fun _ => rfl) (by decide)); rfl; rfl
  apply R_fldP; rfl; rfl; (exact row_pos (sz := 11) hy83 (fun _ => rfl) (by decide)); rfl; rfl
  apply R_fldP; rfl; rfl; (exact row_pos (sz := 11) hy83 (fun _ => rfl) (by decide)); rfl; rfl
  obtain ⟨v84, hv84, H⟩ := bindS H
  have hl85 := setI_lenS hv84
  apply Run.op; (apply L_st; rfl; rfl; rfl; rfl; rfl; (intro h; cases h); (exact row_ble (sz := 11) (o := 8) (n := 1) hy83 (fun _ => rfl) (by decide)); (exact row_fldL (sz := 11) (o := 8) (n := 1) hv84 hy83 (fun _ => rfl) (by decide) rfl)); rfl; rfl
  apply dn
  apply x3
  (repeat apply sq)
  refine CodeT.weak (Ent.relen (k := 0) (n' := v84.length) rfl (by first | (simp only [setI_len]; done) | (simp only [setI_len]; omega) | omega)) ?_
  apply rg
  apply R_mov; rfl; rfl; rfl
  apply R_add; rfl; rfl; rfl; rfl; rfl
  apply R_asg; rfl; rfl; rfl
  apply dn
  apply x3
  (repeat apply sq)
  obtain ⟨y86, hy86, H⟩ := bindS H
  refine CodeT.expose (l := 100000) (c := v48.toNat * 11 + 9) rfl (row_ld (o := 9) hy86 rfl (fun _ => rfl)) (fun wy86 => ?_)
  apply rg
  apply R_mov; rfl; rfl; rfl
  apply R_mov; rfl; rfl; rfl
  apply Run.op; (apply L_ixR2; rfl; rfl; rfl; (exact hy86); rfl; rfl); rfl; rfl
  apply R_fldP; rfl; rfl; (exact row_posS (sz := 11) hy86 (fun _ => rfl) (by decide)); rfl; rfl
  apply R_fldP; rfl; rfl; (exact row_posS (sz := 11) hy86 (fun _ => rfl) (by decide)); rfl; rfl
  apply R_fldP; rfl; rfl; (exact row_posS (sz := 11) hy86 (fun _ => rfl) (by decide)); rfl; rfl
  apply Run.op; (apply Local.forget Forg.was; apply L_ldP; rfl; rfl; (exact set_self (row_ld (o := 9) hy86 rfl (fun _ => rfl))); (exact .inr rfl); rfl); rfl; rfl
  apply R_mov; rfl; rfl; rfl
  obtain ⟨r88, hr88, H⟩ := bindS H
  apply Run.op; (apply L_callM (l := 100000) (off := v48.toNat * 11 + 9) (m := 1) (p := .rw 1 y86.fDY.fNum.fMag.length (y86.fDY.fNum.fMag.flatMap (encI .i64))) (p' := .rw 1 r88.2.length (r88.2.flatMap (encI .i64))); rfl; rfl; rfl; (exact set_cut (row_ld (o := 9) hy86 rfl (fun _ => rfl))); rfl; rfl; (exact MCut.one); (exact mk_laws_markIntS y86.fDY.fNum.fMag (IntKind.i64.wrap (r80.1 + 1)) _ hr88); (exact set_cat (row_ld (o := 9) hy86 rfl (fun _ => rfl))); (exact hle); rfl); rfl; rfl
  apply R_asg; rfl; rfl; rfl
  apply dn
  apply x3
  obtain ⟨v89, hv89, H⟩ := bindS H
  have hl90 := setI_lenS hv89
  refine CodeT.weak (Ent.soften (l := 100000) rfl (row_softM (sz := 11) hv89 hy86 (fun _ => rfl) (by decide) rfl)) ?_
  refine CodeT.weak (Ent.relen (k := 0) (n' := v89.length) rfl (by first | (simp only [setI_len]; done) | (simp only [setI_len]; omega) | omega)) ?_
  obtain ⟨y91, hy91, H⟩ := bindS H
  refine CodeT.expose (l := 100000) (c := v48.toNat * 11 + 10) rfl (row_ld (o := 10) hy91 rfl (fun _ => rfl)) (fun wy91 => ?_)
  apply rg
  apply R_mov; rfl; rfl; rfl
  apply R_mov; rfl; rfl; rfl
  apply Run.op; (apply L_ixR2; rfl; rfl; rfl; (exact hy91); rfl; rfl); rfl; rfl
  apply R_fldP; rfl; rfl; (exact row_posS (sz := 11) hy91 (fun _ => rfl) (by decide)); rfl; rfl
  apply R_fldP; rfl; rfl; (exact row_posS (sz := 11) hy91 (fun _ => rfl) (by decide)); rfl; rfl
  apply Run.op; (apply Local.forget Forg.was; apply L_ldP; rfl; rfl; (exact set_self (row_ld (o := 10) hy91 rfl (fun _ => rfl))); (exact .inr rfl); rfl); rfl; rfl
  apply R_mov; rfl; rfl; rfl
  obtain ⟨r93, hr93, H⟩ := bindS H
  apply Run.op; (apply L_callM (l := 100000) (off := v48.toNat * 11 + 10) (m := 1) (p := .rw 1 y91.fDY.fDen.length (y91.fDY.fDen.flatMap (encI .i64))) (p' := .rw 1 r93.2.length (r93.2.flatMap (encI .i64))); rfl; rfl; rfl; (exact set_cut (row_ld (o := 10) hy91 rfl (fun _ => rfl))); rfl; rfl; (exact MCut.one); (exact mk_laws_markIntS y91.fDY.fDen r88.1 _ hr93); (exact set_cat (row_ld (o := 10) hy91 rfl (fun _ => rfl))); (exact hle); rfl); rfl; rfl
  apply R_asg; rfl; rfl; rfl
  apply dn
  apply x5
  apply x3
  obtain ⟨v94, hv94, H⟩ := bindS H
  have hl95 := setI_lenS hv94
  refine CodeT.weak (Ent.soften (l := 100000) rfl (row_softM (sz := 11) hv94 hy91 (fun _ => rfl) (by decide) rfl)) ?_
  refine CodeT.weak (Ent.relen (k := 0) (n' := v94.length) rfl (by first | (simp only [setI_len]; done) | (simp only [setI_len]; omega) | omega)) ?_
  apply rg
  apply R_mov; rfl; rfl; rfl
  apply R_add; rfl; rfl; rfl; rfl; rfl
  apply R_asg; rfl; rfl; rfl
  apply dn
  obtain rfl := Option.some.inj H
  refine Ev.y1 ?_
  apply el [] (io0 hio _) <;> rfl
  replace H := ifF (of_decide_eq_false h) H
  (repeat apply sq)
  apply CodeT.exit
  apply x2
  obtain rfl := Option.some.inj H
  refine Ev.y3 ?_
  refine XEnv.mk ?_
  apply el [] (io0 hio _) <;> rfl
  skip
  intro e E' hX; obtain ⟨rfl, g98⟩ := XEnv.out hX
  refine x6 rfl ?_
  apply x3
  refine CodeT.weak g98 ?_
  (repeat apply sq)
  apply rg
  apply R_mov; rfl; rfl; rfl
  apply R_asg; rfl; rfl; rfl
  apply dn
  apply x3
  apply CodeT.ret
  cases H
  apply zn2
  exact RetN.mk (RetIs.sc1 rfl) rfl
theorem mk_laws_markLinkS (a0 : (List Link)) (a1 : Int) (r : (Int × (List Link))) (H : laws_markLinkS a0 a1 = some r) : MarkC Try.prog 36 (.rw 11 a0.length (a0.flatMap encWLink)) (.rw 11 r.2.length (r.2.flatMap encWLink)) (.int .i64 a1) (.int .i64 r.1) := by
  have h := m_laws_markLinkS a0 a1 r H
  have hl := len_laws_markLinkS a0 a1 r H
  rw [hl]; exact MarkC.ofN h
theorem m_laws_markParentS (a0 : (List Parent)) (a1 : Int) (r : (Int × (List Parent))) (H : laws_markParentS a0 a1 = some r) : MeetsN Try.prog 37 [.ref 100000 10 0 a0.length, .sc (.int .i64 a1)] (a0.flatMap encWParent) (r.2.flatMap encWParent) (.sc (.int .i64 r.1)) := by
  have H0 := H; clear H
  obtain ⟨r', H, H2⟩ := bindS H0; clear H0
  obtain ⟨_, hlen, H2⟩ := bindS H2
  obtain rfl := Option.some.inj H2
  have hlen := chkS hlen
  refine MeetsN.intro (N := 104) (rs := #[.tmp 4]) Try.func37 rfl rfl rfl rfl (nil_new (l := 0) (sz := 10) hlen (fun _ => rfl) (by decide)) rfl ?_
  clear hlen
  intro Γ hio hle
  unfold laws_markParentS_raw at H
  (repeat apply sq)
  apply rg
  apply R_asg; rfl; rfl; rfl
  apply dn
  apply x3
  (repeat apply sq)
  apply rg
  apply R_asg; rfl; rfl; rfl
  apply dn
  apply x3
  (repeat apply sq)
  apply CodeT.block
  (repeat apply sq)
  obtain ⟨d92, hd92, H⟩ := bindS H
  refine CodeT.lloop (fun s => ⟨[(0, ⟨.ref 100000 10 0 s.2.2.length, false⟩), (1, ⟨.sc (.int .i64 s.1), false⟩), (5, ⟨.sc (.int .i64 s.2.1), false⟩)], [(100000, some ⟨s.2.2.flatMap encWParent, true, false⟩)]⟩) (fun d e E => XEnv Γ (.exit 0) ⟨[(1, ⟨.sc (.int .i64 d.1), false⟩)], [(100000, some ⟨d.2.flatMap encWParent, true, false⟩)]⟩ e E) hd92 ?_ ?_ ?_
  apply el [] (io0 hio _) <;> rfl
  clear H hd92
  rintro ⟨v44, v45, v46⟩ o H
  unfold laws_markParentS_L1 at H
  (repeat apply sq)
  apply rg
  apply R_mov; rfl; rfl; rfl
  apply R_mov; rfl; rfl; rfl
  apply Run.op; (apply L_lenR; rfl; rfl; rfl); rfl; rfl
  apply R_lss; rfl; rfl; rfl; rfl
  apply dn
  apply x3
  (repeat apply sq)
  refine CodeT.cond rfl (fun h => ?_) (fun h => ?_)
  replace H := ifT (of_decide_eq_true h) H
  (repeat apply sq)
  apply CodeT.skip
  apply x3
  (repeat apply sq)
  apply CodeT.block
  (repeat apply sq)
  apply rg
  apply R_mov; rfl; rfl; rfl
  apply R_mov; rfl; rfl; rfl
  apply R_mov; rfl; rfl; rfl
  obtain ⟨y47, hy47, H⟩ := bindS H
  apply Run.op; (apply L_ixR2; rfl; rfl; rfl; (exact hy47); rfl; rfl); rfl; rfl
  apply R_fldP; rfl; rfl; (exact row_pos (sz := 10) hy47 (fun _ => rfl) (by decide)); rfl; rfl
  obtain ⟨v48, hv48, H⟩ := bindS H
  have hl49 := setI_lenS hv48
  apply Run.op; (apply L_st; rfl; rfl; rfl; rfl; rfl; (intro h; cases h); (exact row_ble (sz := 10) (o := 0) (n := 1) hy47 (fun _ => rfl) (by decide)); (exact row_fldL (sz := 10) (o := 0) (n := 1) hv48 hy47 (fun _ => rfl) (by decide) rfl)); rfl; rfl
  apply dn
  apply x3
  (repeat apply sq)
  refine CodeT.weak (Ent.relen (k := 0) (n' := v48.length) rfl (by first | (simp only [setI_len]; done) | (simp only [setI_len]; omega) | omega)) ?_
  apply rg
  apply R_mov; rfl; rfl; rfl
  apply R_add; rfl; rfl; rfl; rfl; rfl
  apply R_asg; rfl; rfl; rfl
  apply dn
  apply x3
  (repeat apply sq)
  apply rg
  apply R_mov; rfl; rfl; rfl
  apply R_mov; rfl; rfl; rfl
  apply R_mov; rfl; rfl; rfl
  obtain ⟨v50, hv50, H⟩ := bindS H
  apply Run.op; (apply L_rem; rfl; rfl; (intro h; cases h); (exact letS hv50); rfl); rfl; rfl
  apply R_eql; rfl; rfl; rfl; rfl
  obtain ⟨y51, hy51, H⟩ := bindS H
  apply Run.op; (apply L_ixR2; rfl; rfl; rfl; (exact hy51); rfl; rfl); rfl; rfl
  apply R_fldP; rfl; rfl; (exact row_pos (sz := 10) hy51 (fun _ => rfl) (by decide)); rfl; rfl
  apply R_fldP; rfl; rfl; (exact row_pos (sz := 10) hy51 (fun _ => rfl) (by decide)); rfl; rfl
  apply R_fldP; rfl; rfl; (exact row_pos (sz := 10) hy51 (fun _ => rfl) (by decide)); rfl; rfl
  obtain ⟨v52, hv52, H⟩ := bindS H
  have hl53 := setI_lenS hv52
  apply Run.op; (apply L_st; rfl; rfl; rfl; rfl; rfl; (intro h; cases h); (exact row_ble (sz := 10) (o := 1) (n := 1) hy51 (fun _ => rfl) (by decide)); (exact row_fldL (sz := 10) (o := 1) (n := 1) hv52 hy51 (fun _ => rfl) (by decide) rfl)); rfl; rfl
  apply dn
  apply x3
  (repeat apply sq)
  refine CodeT.weak (Ent.relen (k := 0) (n' := v52.length) rfl (by first | (simp only [setI_len]; done) | (simp only [setI_len]; omega) | omega)) ?_
  apply rg
  apply R_mov; rfl; rfl; rfl
  obtain ⟨v54, hv54, H⟩ := bindS H
  apply R_add; rfl; rfl; (exact letS hv54); rfl; rfl
  apply R_asg; rfl; rfl; rfl
  apply dn
  apply x3
  (repeat apply sq)
  obtain ⟨y55, hy55, H⟩ := bindS H
  refine CodeT.expose (l := 100000) (c := v45.toNat * 10 + 2) rfl (row_ld (o := 2) hy55 rfl (fun _ => rfl)) (fun wy55 => ?_)
  apply rg
  apply R_mov; rfl; rfl; rfl
  apply R_mov; rfl; rfl; rfl
  apply Run.op; (apply L_ixR2; rfl; rfl; rfl; (exact hy55); rfl; rfl); rfl; rfl
  apply R_fldP; rfl; rfl; (exact row_posS (sz := 10) hy55 (fun _ => rfl) (by decide)); rfl; rfl
  apply R_fldP; rfl; rfl; (exact row_posS (sz := 10) hy55 (fun _ => rfl) (by decide)); rfl; rfl
  apply R_fldP; rfl; rfl; (exact row_posS (sz := 10) hy55 (fun _ => rfl) (by decide)); rfl; rfl
  apply Run.op; (apply Local.forget Forg.was; apply L_ldP; rfl; rfl; (exact set_self (row_ld (o := 2) hy55 rfl (fun _ => rfl))); (exact .inr rfl); rfl); rfl; rfl
  apply R_mov; rfl; rfl; rfl
  obtain ⟨r57, hr57, H⟩ := bindS H
  apply Run.op; (apply L_callM (l := 100000) (off := v45.toNat * 10 + 2) (m := 1) (p := .rw 1 y55.fShare.fNum.fMag.length (y55.fShare.fNum.fMag.flatMap (encI .i64))) (p' := .rw 1 r57.2.length (r57.2.flatMap (encI .i64))); rfl; rfl; rfl; (exact set_cut (row_ld (o := 2) hy55 rfl (fun _ => rfl))); rfl; rfl; (exact MCut.one); (exact mk_laws_markIntS y55.fShare.fNum.fMag v54 _ hr57); (exact set_cat (row_ld (o := 2) hy55 rfl (fun _ => rfl))); (exact hle); rfl); rfl; rfl
  apply R_asg; rfl; rfl; rfl
  apply dn
  apply x3
  obtain ⟨v58, hv58, H⟩ := bindS H
  have hl59 := setI_lenS hv58
  refine CodeT.weak (Ent.soften (l := 100000) rfl (row_softM (sz := 10) hv58 hy55 (fun _ => rfl) (by decide) rfl)) ?_
  (repeat apply sq)
  refine CodeT.weak (Ent.relen (k := 0) (n' := v58.length) rfl (by first | (simp only [setI_len]; done) | (simp only [setI_len]; omega) | omega)) ?_
  obtain ⟨y60, hy60, H⟩ := bindS H
  refine CodeT.expose (l := 100000) (c := v45.toNat * 10 + 3) rfl (row_ld (o := 3) hy60 rfl (fun _ => rfl)) (fun wy60 => ?_)
  apply rg
  apply R_mov; rfl; rfl; rfl
  apply R_mov; rfl; rfl; rfl
  apply Run.op; (apply L_ixR2; rfl; rfl; rfl; (exact hy60); rfl; rfl); rfl; rfl
  apply R_fldP; rfl; rfl; (exact row_posS (sz := 10) hy60 (fun _ => rfl) (by decide)); rfl; rfl
  apply R_fldP; rfl; rfl; (exact row_posS (sz := 10) hy60 (fun _ => rfl) (by decide)); rfl; rfl
  apply Run.op; (apply Local.forget Forg.was; apply L_ldP; rfl; rfl; (exact set_self (row_ld (o := 3) hy60 rfl (fun _ => rfl))); (exact .inr rfl); rfl); rfl; rfl
  apply R_mov; rfl; rfl; rfl
  obtain ⟨r62, hr62, H⟩ := bindS H
  apply Run.op; (apply L_callM (l := 100000) (off := v45.toNat * 10 + 3) (m := 1) (p := .rw 1 y60.fShare.fDen.length (y60.fShare.fDen.flatMap (encI .i64))) (p' := .rw 1 r62.2.length (r62.2.flatMap (encI .i64))); rfl; rfl; rfl; (exact set_cut (row_ld (o := 3) hy60 rfl (fun _ => rfl))); rfl; rfl; (exact MCut.one); (exact mk_laws_markIntS y60.fShare.fDen r57.1 _ hr62); (exact set_cat (row_ld (o := 3) hy60 rfl (fun _ => rfl))); (exact hle); rfl); rfl; rfl
  apply R_asg; rfl; rfl; rfl
  apply dn
  apply x3
  obtain ⟨v63, hv63, H⟩ := bindS H
  have hl64 := setI_lenS hv63
  refine CodeT.weak (Ent.soften (l := 100000) rfl (row_softM (sz := 10) hv63 hy60 (fun _ => rfl) (by decide) rfl)) ?_
  (repeat apply sq)
  refine CodeT.weak (Ent.relen (k := 0) (n' := v63.length) rfl (by first | (simp only [setI_len]; done) | (simp only [setI_len]; omega) | omega)) ?_
  apply rg
  apply R_mov; rfl; rfl; rfl
  apply R_mov; rfl; rfl; rfl
  apply R_mov; rfl; rfl; rfl
  apply Run.op; (apply L_rem; rfl; rfl; (intro h; cases h); rfl; rfl); rfl; rfl
  apply R_eql; rfl; rfl; rfl; rfl
  obtain ⟨y65, hy65, H⟩ := bindS H
  apply Run.op; (apply L_ixR2; rfl; rfl; rfl; (exact hy65); rfl; rfl); rfl; rfl
  apply R_fldP; rfl; rfl; (exact row_pos (sz := 10) hy65 (fun _ => rfl) (by decide)); rfl; rfl
  apply R_fldP; rfl; rfl; (exact row_pos (sz := 10) hy65 (fun _ => rfl) (by decide)); rfl; rfl
  apply R_fldP; rfl; rfl; (exact row_pos (sz := 10) hy65 (fun _ => rfl) (by decide)); rfl; rfl
  obtain ⟨v66, hv66, H⟩ := bindS H
  have hl67 := setI_lenS hv66
  apply Run.op; (apply L_st; rfl; rfl; rfl; rfl; rfl; (intro h; cases h); (exact row_ble (sz := 10) (o := 4) (n := 1) hy65 (fun _ => rfl) (by decide)); (exact row_fldL (sz := 10) (o := 4) (n := 1) hv66 hy65 (fun _ => rfl) (by decide) rfl)); rfl; rfl
  apply dn
  apply x3
  (repeat apply sq)
  refine CodeT.weak (Ent.relen (k := 0) (n' := v66.length) rfl (by first | (simp only [setI_len]; done) | (simp only [setI_len]; omega) | omega)) ?_
  apply rg
  apply R_mov; rfl; rfl; rfl
  apply R_add; rfl; rfl; rfl; rfl; rfl
  apply R_asg; rfl; rfl; rfl
  apply dn
  apply x3
  (repeat apply sq)
  obtain ⟨y68, hy68, H⟩ := bindS H
  refine CodeT.expose (l := 100000) (c := v45.toNat * 10 + 5) rfl (row_ld (o := 5) hy68 rfl (fun _ => rfl)) (fun wy68 => ?_)
  apply rg
  apply R_mov; rfl; rfl; rfl
  apply R_mov; rfl; rfl; rfl
  apply Run.op; (apply L_ixR2; rfl; rfl; rfl; (exact hy68); rfl; rfl); rfl; rfl
  apply R_fldP; rfl; rfl; (exact row_posS (sz := 10) hy68 (fun _ => rfl) (by decide)); rfl; rfl
  apply R_fldP; rfl; rfl; (exact row_posS (sz := 10) hy68 (fun _ => rfl) (by decide)); rfl; rfl
  apply R_fldP; rfl; rfl; (exact row_posS (sz := 10) hy68 (fun _ => rfl) (by decide)); rfl; rfl
  apply Run.op; (apply Local.forget Forg.was; apply L_ldP; rfl; rfl; (exact set_self (row_ld (o := 5) hy68 rfl (fun _ => rfl))); (exact .inr rfl); rfl); rfl; rfl
  apply R_mov; rfl; rfl; rfl
  obtain ⟨r70, hr70, H⟩ := bindS H
  apply Run.op; (apply L_callM (l := 100000) (off := v45.toNat * 10 + 5) (m := 1) (p := .rw 1 y68.fDX.fNum.fMag.length (y68.fDX.fNum.fMag.flatMap (encI .i64))) (p' := .rw 1 r70.2.length (r70.2.flatMap (encI .i64))); rfl; rfl; rfl; (exact set_cut (row_ld (o := 5) hy68 rfl (fun _ => rfl))); rfl; rfl; (exact MCut.one); (exact mk_laws_markIntS y68.fDX.fNum.fMag (IntKind.i64.wrap (r62.1 + 1)) _ hr70); (exact set_cat (row_ld (o := 5) hy68 rfl (fun _ => rfl))); (exact hle); rfl); rfl; rfl
  apply R_asg; rfl; rfl; rfl
  apply dn
  apply x3
  obtain ⟨v71, hv71, H⟩ := bindS H
  have hl72 := setI_lenS hv71
  refine CodeT.weak (Ent.soften (l := 100000) rfl (row_softM (sz := 10) hv71 hy68 (fun _ => rfl) (by decide) rfl)) ?_
  (repeat apply sq)
  refine CodeT.weak (Ent.relen (k := 0) (n' := v71.length) rfl (by first | (simp only [setI_len]; done) | (simp only [setI_len]; omega) | omega)) ?_
  obtain ⟨y73, hy73, H⟩ := bindS H
  refine CodeT.expose (l := 100000) (c := v45.toNat * 10 + 6) rfl (row_ld (o := 6) hy73 rfl (fun _ => rfl)) (fun wy73 => ?_)
  apply rg
  apply R_mov; rfl; rfl; rfl
  apply R_mov; rfl; rfl; rfl
  apply Run.op; (apply L_ixR2; rfl; rfl; rfl; (exact hy73); rfl; rfl); rfl; rfl
  apply R_fldP; rfl; rfl; (exact row_posS (sz := 10) hy73 (fun _ => rfl) (by decide)); rfl; rfl
  apply R_fldP; rfl; rfl; (exact row_posS (sz := 10) hy73 (fun _ => rfl) (by decide)); rfl; rfl
  apply Run.op; (apply Local.forget Forg.was; apply L_ldP; rfl; rfl; (exact set_self (row_ld (o := 6) hy73 rfl (fun _ => rfl))); (exact .inr rfl); rfl); rfl; rfl
  apply R_mov; rfl; rfl; rfl
  obtain ⟨r75, hr75, H⟩ := bindS H
  apply Run.op; (apply L_callM (l := 100000) (off := v45.toNat * 10 + 6) (m := 1) (p := .rw 1 y73.fDX.fDen.length (y73.fDX.fDen.flatMap (encI .i64))) (p' := .rw 1 r75.2.length (r75.2.flatMap (encI .i64))); rfl; rfl; rfl; (exact set_cut (row_ld (o := 6) hy73 rfl (fun _ => rfl))); rfl; rfl; (exact MCut.one); (exact mk_laws_markIntS y73.fDX.fDen r70.1 _ hr75); (exact set_cat (row_ld (o := 6) hy73 rfl (fun _ => rfl))); (exact hle); rfl); rfl; rfl
  apply R_asg; rfl; rfl; rfl
  apply dn
  apply x3
  obtain ⟨v76, hv76, H⟩ := bindS H
  have hl77 := setI_lenS hv76
  refine CodeT.weak (Ent.soften (l := 100000) rfl (row_softM (sz := 10) hv76 hy73 (fun _ => rfl) (by decide) rfl)) ?_
  (repeat apply sq)
  refine CodeT.weak (Ent.relen (k := 0) (n' := v76.length) rfl (by first | (simp only [setI_len]; done) | (simp only [setI_len]; omega) | omega)) ?_
  apply rg
  apply R_mov; rfl; rfl; rfl
  apply R_mov; rfl; rfl; rfl
  apply R_mov; rfl; rfl; rfl
  apply Run.op; (apply L_rem; rfl; rfl; (intro h; cases h); rfl; rfl); rfl; rfl
  apply R_eql; rfl; rfl; rfl; rfl
  obtain ⟨y78, hy78, H⟩ := bindS H
  apply Run.op; (apply L_ixR2; rfl; rfl; rfl; (exact hy78); rfl; rfl); rfl; rfl
  apply R_fldP; rfl; rfl; (exact row_pos (sz := 10) hy78 (fun _ => rfl) (by decide)); rfl; rfl
  apply R_fldP; rfl; rfl; (exact row_pos (sz := 10) hy78 (fun _ => rfl) (by decide)); rfl; rfl
  apply R_fldP; rfl; rfl; (exact row_pos (sz := 10) hy78 (fun _ => rfl) (by decide)); rfl; rfl
  obtain ⟨v79, hv79, H⟩ := bindS H
  have hl80 := setI_lenS hv79
  apply Run.op; (apply L_st; rfl; rfl; rfl; rfl; rfl; (intro h; cases h); (exact row_ble (sz := 10) (o := 7) (n := 1) hy78 (fun _ => rfl) (by decide)); (exact row_fldL (sz := 10) (o := 7) (n := 1) hv79 hy78 (fun _ => rfl) (by decide) rfl)); rfl; rfl
  apply dn
  apply x3
  (repeat apply sq)
  refine CodeT.weak (Ent.relen (k := 0) (n' := v79.length) rfl (by first | (simp only [setI_len]; done) | (simp only [setI_len]; omega) | omega)) ?_
  apply rg
  apply R_mov; rfl; rfl; rfl
  apply R_add; rfl; rfl; rfl; rfl; rfl
  apply R_asg; rfl; rfl; rfl
  apply dn
  apply x3
  (repeat apply sq)
  obtain ⟨y81, hy81, H⟩ := bindS H
  refine CodeT.expose (l := 100000) (c := v45.toNat * 10 + 8) rfl (row_ld (o := 8) hy81 rfl (fun _ => rfl)) (fun wy81 => ?_)
  apply rg
  apply R_mov; rfl; rfl; rfl
  apply R_mov; rfl; rfl; rfl
  apply Run.op; (apply L_ixR2; rfl; rfl; rfl; (exact hy81); rfl; rfl); rfl; rfl
  apply R_fldP; rfl; rfl; (exact row_posS (sz := 10) hy81 (fun _ => rfl) (by decide)); rfl; rfl
  apply R_fldP; rfl; rfl; (exact row_posS (sz := 10) hy81 (fun _ => rfl) (by decide)); rfl; rfl
  apply R_fldP; rfl; rfl; (exact row_posS (sz := 10) hy81 (fun _ => rfl) (by decide)); rfl; rfl
  apply Run.op; (apply Local.forget Forg.was; apply L_ldP; rfl; rfl; (exact set_self (row_ld (o := 8) hy81 rfl (fun _ => rfl))); (exact .inr rfl); rfl); rfl; rfl
  apply R_mov; rfl; rfl; rfl
  obtain ⟨r83, hr83, H⟩ := bindS H
  apply Run.op; (apply L_callM (l := 100000) (off := v45.toNat * 10 + 8) (m := 1) (p := .rw 1 y81.fDY.fNum.fMag.length (y81.fDY.fNum.fMag.flatMap (encI .i64))) (p' := .rw 1 r83.2.length (r83.2.flatMap (encI .i64))); rfl; rfl; rfl; (exact set_cut (row_ld (o := 8) hy81 rfl (fun _ => rfl))); rfl; rfl; (exact MCut.one); (exact mk_laws_markIntS y81.fDY.fNum.fMag (IntKind.i64.wrap (r75.1 + 1)) _ hr83); (exact set_cat (row_ld (o := 8) hy81 rfl (fun _ => rfl))); (exact hle); rfl); rfl; rfl
  apply R_asg; rfl; rfl; rfl
  apply dn
  apply x3
  obtain ⟨v84, hv84, H⟩ := bindS H
  have hl85 := setI_lenS hv84
  refine CodeT.weak (Ent.soften (l := 100000) rfl (row_softM (sz := 10) hv84 hy81 (fun _ => rfl) (by decide) rfl)) ?_
  refine CodeT.weak (Ent.relen (k := 0) (n' := v84.length) rfl (by first | (simp only [setI_len]; done) | (simp only [setI_len]; omega) | omega)) ?_
  obtain ⟨y86, hy86, H⟩ := bindS H
  refine CodeT.expose (l := 100000) (c := v45.toNat * 10 + 9) rfl (row_ld (o := 9) hy86 rfl (fun _ => rfl)) (fun wy86 => ?_)
  apply rg
  apply R_mov; rfl; rfl; rfl
  apply R_mov; rfl; rfl; rfl
  apply Run.op; (apply L_ixR2; rfl; rfl; rfl; (exact hy86); rfl; rfl); rfl; rfl
  apply R_fldP; rfl; rfl; (exact row_posS (sz := 10) hy86 (fun _ => rfl) (by decide)); rfl; rfl
  apply R_fldP; rfl; rfl; (exact row_posS (sz := 10) hy86 (fun _ => rfl) (by decide)); rfl; rfl
  apply Run.op; (apply Local.forget Forg.was; apply L_ldP; rfl; rfl; (exact set_self (row_ld (o := 9) hy86 rfl (fun _ => rfl))); (exact .inr rfl); rfl); rfl; rfl
  apply R_mov; rfl; rfl; rfl
  obtain ⟨r88, hr88, H⟩ := bindS H
  apply Run.op; (apply L_callM (l := 100000) (off := v45.toNat * 10 + 9) (m := 1) (p := .rw 1 y86.fDY.fDen.length (y86.fDY.fDen.flatMap (encI .i64))) (p' := .rw 1 r88.2.length (r88.2.flatMap (encI .i64))); rfl; rfl; rfl; (exact set_cut (row_ld (o := 9) hy86 rfl (fun _ => rfl))); rfl; rfl; (exact MCut.one); (exact mk_laws_markIntS y86.fDY.fDen r83.1 _ hr88); (exact set_cat (row_ld (o := 9) hy86 rfl (fun _ => rfl))); (exact hle); rfl); rfl; rfl
  apply R_asg; rfl; rfl; rfl
  apply dn
  apply x5
  apply x3
  obtain ⟨v89, hv89, H⟩ := bindS H
  have hl90 := setI_lenS hv89
  refine CodeT.weak (Ent.soften (l := 100000) rfl (row_softM (sz := 10) hv89 hy86 (fun _ => rfl) (by decide) rfl)) ?_
  refine CodeT.weak (Ent.relen (k := 0) (n' := v89.length) rfl (by first | (simp only [setI_len]; done) | (simp only [setI_len]; omega) | omega)) ?_
  apply rg
  apply R_mov; rfl; rfl; rfl
  apply R_add; rfl; rfl; rfl; rfl; rfl
  apply R_asg; rfl; rfl; rfl
  apply dn
  obtain rfl := Option.some.inj H
  refine Ev.y1 ?_
  apply el [] (io0 hio _) <;> rfl
  replace H := ifF (of_decide_eq_false h) H
  (repeat apply sq)
  apply CodeT.exit
  apply x2
  obtain rfl := Option.some.inj H
  refine Ev.y3 ?_
  refine XEnv.mk ?_
  apply el [] (io0 hio _) <;> rfl
  skip
  intro e E' hX; obtain ⟨rfl, g93⟩ := XEnv.out hX
  refine x6 rfl ?_
  apply x3
  refine CodeT.weak g93 ?_
  (repeat apply sq)
  apply rg
  apply R_mov; rfl; rfl; rfl
  apply R_asg; rfl; rfl; rfl
  apply dn
  apply x3
  apply CodeT.ret
  cases H
  apply zn2
  exact RetN.mk (RetIs.sc1 rfl) rfl
theorem mk_laws_markParentS (a0 : (List Parent)) (a1 : Int) (r : (Int × (List Parent))) (H : laws_markParentS a0 a1 = some r) : MarkC Try.prog 37 (.rw 10 a0.length (a0.flatMap encWParent)) (.rw 10 r.2.length (r.2.flatMap encWParent)) (.int .i64 a1) (.int .i64 r.1) := by
  have h := m_laws_markParentS a0 a1 r H
  have hl := len_laws_markParentS a0 a1 r H
  rw [hl]; exact MarkC.ofN h
theorem m_laws_markTreeNodeS (a0 : (List TreeNode)) (a1 : Int) (r : (Int × (List TreeNode))) (H : laws_markTreeNodeS a0 a1 = some r) : MeetsN Try.prog 22 [.ref 100000 12 0 a0.length, .sc (.int .i64 a1)] (a0.flatMap encWTreeNode) (r.2.flatMap encWTreeNode) (.sc (.int .i64 r.1)) := by
  have H0 := H; clear H
  obtain ⟨r', H, H2⟩ := bindS H0; clear H0
  obtain ⟨_, hlen, H2⟩ := bindS H2
  obtain rfl := Option.some.inj H2
  have hlen := chkS hlen
  refine MeetsN.intro (N := 116) (rs := #[.tmp 4]) Try.func22 rfl rfl rfl rfl (nil_new (l := 0) (sz := 12) hlen (fun _ => rfl) (by decide)) rfl ?_
  clear hlen
  intro Γ hio hle
  unfold laws_markTreeNodeS_raw at H
  (repeat apply sq)
  apply rg
  apply R_asg; rfl; rfl; rfl
  apply dn
  apply x3
  (repeat apply sq)
  apply rg
  apply R_asg; rfl; rfl; rfl
  apply dn
  apply x3
  (repeat apply sq)
  apply CodeT.block
  (repeat apply sq)
  obtain ⟨d111, hd111, H⟩ := bindS H
  refine CodeT.lloop (fun s => ⟨[(0, ⟨.ref 100000 12 0 s.2.2.length, false⟩), (1, ⟨.sc (.int .i64 s.1), false⟩), (5, ⟨.sc (.int .i64 s.2.1), false⟩)], [(100000, some ⟨s.2.2.flatMap encWTreeNode, true, false⟩)]⟩) (fun d e E => XEnv Γ (.exit 0) ⟨[(1, ⟨.sc (.int .i64 d.1), false⟩)], [(100000, some ⟨d.2.flatMap encWTreeNode, true, false⟩)]⟩ e E) hd111 ?_ ?_ ?_
  apply el [] (io0 hio _) <;> rfl
  clear H hd111
  rintro ⟨v54, v55, v56⟩ o H
  unfold laws_markTreeNodeS_L1 at H
  (repeat apply sq)
  apply rg
  apply R_mov; rfl; rfl; rfl
  apply R_mov; rfl; rfl; rfl
  apply Run.op; (apply L_lenR; rfl; rfl; rfl); rfl; rfl
  apply R_lss; rfl; rfl; rfl; rfl
  apply dn
  apply x3
  (repeat apply sq)
  refine CodeT.cond rfl (fun h => ?_) (fun h => ?_)
  replace H := ifT (of_decide_eq_true h) H
  (repeat apply sq)
  apply CodeT.skip
  apply x3
  (repeat apply sq)
  apply CodeT.block
  (repeat apply sq)
  apply rg
  apply R_mov; rfl; rfl; rfl
  apply R_mov; rfl; rfl; rfl
  apply R_mov; rfl; rfl; rfl
  obtain ⟨y57, hy57, H⟩ := bindS H
  apply Run.op; (apply L_ixR2; rfl; rfl; rfl; (exact hy57); rfl; rfl); rfl; rfl
  apply R_fldP; rfl; rfl; (exact row_pos (sz := 12) hy57 (fun _ => rfl) (by decide)); rfl; rfl
  obtain ⟨v58, hv58, H⟩ := bindS H
  have hl59 := setI_lenS hv58
  apply Run.op; (apply L_st; rfl; rfl; rfl; rfl; rfl; (intro h; cases h); (exact row_ble (sz := 12) (o := 0) (n := 1) hy57 (fun _ => rfl) (by decide)); (exact row_fldL (sz := 12) (o := 0) (n := 1) hv58 hy57 (fun _ => rfl) (by decide) rfl)); rfl; rfl
  apply dn
  apply x3
  (repeat apply sq)
  refine CodeT.weak (Ent.relen (k := 0) (n' := v58.length) rfl (by first | (simp only [setI_len]; done) | (simp only [setI_len]; omega) | omega)) ?_
  apply rg
  apply R_mov; rfl; rfl; rfl
  apply R_add; rfl; rfl; rfl; rfl; rfl
  apply R_asg; rfl; rfl; rfl
  apply dn
  apply x3
  (repeat apply sq)
  apply rg
  apply R_mov; rfl; rfl; rfl
  apply R_mov; rfl; rfl; rfl
  apply R_mov; rfl; rfl; rfl
  obtain ⟨y60, hy60, H⟩ := bindS H
  apply Run.op; (apply L_ixR2; rfl; rfl; rfl; (exact hy60); rfl; rfl); rfl; rfl
  apply R_fldP; rfl; rfl; (exact row_pos (sz := 12) hy60 (fun _ => rfl) (by decide)); rfl; rfl
  obtain ⟨v61, hv61, H⟩ := bindS H
  have hl62 := setI_lenS hv61
  apply Run.op; (apply L_st; rfl; rfl; rfl; rfl; rfl; (intro h; cases h); (exact row_ble (sz := 12) (o := 1) (n := 1) hy60 (fun _ => rfl) (by decide)); (exact row_fldL (sz := 12) (o := 1) (n := 1) hv61 hy60 (fun _ => rfl) (by decide) rfl)); rfl; rfl
  apply dn
  apply x3
  (repeat apply sq)
  refine CodeT.weak (Ent.relen (k := 0) (n' := v61.length) rfl (by first | (simp only [setI_len]; done) | (simp only [setI_len]; omega) | omega)) ?_
  apply rg
  apply R_mov; rfl; rfl; rfl
  obtain ⟨v63, hv63, H⟩ := bindS H
  apply R_add; rfl; rfl; (exact letS hv63); rfl; rfl
  apply R_asg; rfl; rfl; rfl
  apply dn
  apply x3
  (repeat apply sq)
  obtain ⟨y64, hy64, H⟩ := bindS H
  refine CodeT.expose (l := 100000) (c := v55.toNat * 12 + 2) rfl (row_ld (o := 2) hy64 rfl (fun _ => rfl)) (fun wy64 => ?_)
  apply rg
  apply R_mov; rfl; rfl; rfl
  apply R_mov; rfl; rfl; rfl
  apply Run.op; (apply L_ixR2; rfl; rfl; rfl; (exact hy64); rfl; rfl); rfl; rfl
  apply R_fldP; rfl; rfl; (exact row_posS (sz := 12) hy64 (fun _ => rfl) (by decide)); rfl; rfl
  apply Run.op; (apply Local.forget Forg.was; apply L_ldP; rfl; rfl; (exact set_self (row_ld (o := 2) hy64 rfl (fun _ => rfl))); (exact .inr rfl); rfl); rfl; rfl
  apply R_mov; rfl; rfl; rfl
  obtain ⟨r66, hr66, H⟩ := bindS H
  apply Run.op; (apply L_callM (l := 100000) (off := v55.toNat * 12 + 2) (m := 1) (p := .rw 11 y64.fOwn.length (y64.fOwn.flatMap encWLink)) (p' := .rw 11 r66.2.length (r66.2.flatMap encWLink)); rfl; rfl; rfl; (exact set_cut (row_ld (o := 2) hy64 rfl (fun _ => rfl))); rfl; rfl; (exact MCut.one); (exact mk_laws_markLinkS y64.fOwn v63 _ hr66); (exact set_cat (row_ld (o := 2) hy64 rfl (fun _ => rfl))); (exact hle); rfl); rfl; rfl
  apply R_asg; rfl; rfl; rfl
  apply dn
  apply x3
  obtain ⟨v67, hv67, H⟩ := bindS H
  have hl68 := setI_lenS hv67
  refine CodeT.weak (Ent.soften (l := 100000) rfl (row_softM (sz := 12) hv67 hy64 (fun _ => rfl) (by decide) rfl)) ?_
  (repeat apply sq)
  refine CodeT.weak (Ent.relen (k := 0) (n' := v67.length) rfl (by first | (simp only [setI_len]; done) | (simp only [setI_len]; omega) | omega)) ?_
  apply rg
  apply R_mov; rfl; rfl; rfl
  apply R_mov; rfl; rfl; rfl
  apply R_mov; rfl; rfl; rfl
  obtain ⟨y69, hy69, H⟩ := bindS H
  apply Run.op; (apply L_ixR2; rfl; rfl; rfl; (exact hy69); rfl; rfl); rfl; rfl
  apply R_fldP; rfl; rfl; (exact row_pos (sz := 12) hy69 (fun _ => rfl) (by decide)); rfl; rfl
  apply R_fldP; rfl; rfl; (exact row_pos (sz := 12) hy69 (fun _ => rfl) (by decide)); rfl; rfl
  obtain ⟨v70, hv70, H⟩ := bindS H
  have hl71 := setI_lenS hv70
  apply Run.op; (apply L_st; rfl; rfl; rfl; rfl; rfl; (intro h; cases h); (exact row_ble (sz := 12) (o := 3) (n := 1) hy69 (fun _ => rfl) (by decide)); (exact row_fldL (sz := 12) (o := 3) (n := 1) hv70 hy69 (fun _ => rfl) (by decide) rfl)); rfl; rfl
  apply dn
  apply x3
  (repeat apply sq)
  refine CodeT.weak (Ent.relen (k := 0) (n' := v70.length) rfl (by first | (simp only [setI_len]; done) | (simp only [setI_len]; omega) | omega)) ?_
  apply rg
  apply R_mov; rfl; rfl; rfl
  apply R_add; rfl; rfl; rfl; rfl; rfl
  apply R_asg; rfl; rfl; rfl
  apply dn
  apply x3
  (repeat apply sq)
  apply rg
  apply R_mov; rfl; rfl; rfl
  apply R_mov; rfl; rfl; rfl
  apply R_mov; rfl; rfl; rfl
  obtain ⟨v72, hv72, H⟩ := bindS H
  apply Run.op; (apply L_rem; rfl; rfl; (intro h; cases h); (exact letS hv72); rfl); rfl; rfl
  apply R_eql; rfl; rfl; rfl; rfl
  obtain ⟨y73, hy73, H⟩ := bindS H
  apply Run.op; (apply L_ixR2; rfl; rfl; rfl; (exact hy73); rfl; rfl); rfl; rfl
  apply R_fldP; rfl; rfl; (exact row_pos (sz := 12) hy73 (fun _ => rfl) (by decide)); rfl; rfl
  apply R_fldP; rfl; rfl; (exact row_pos (sz := 12) hy73 (fun _ => rfl) (by decide)); rfl; rfl
  apply R_fldP; rfl; rfl; (exact row_pos (sz := 12) hy73 (fun _ => rfl) (by decide)); rfl; rfl
  apply R_fldP; rfl; rfl; (exact row_pos (sz := 12) hy73 (fun _ => rfl) (by decide)); rfl; rfl
  obtain ⟨v74, hv74, H⟩ := bindS H
  have hl75 := setI_lenS hv74
  apply Run.op; (apply L_st; rfl; rfl; rfl; rfl; rfl; (intro h; cases h); (exact row_ble (sz := 12) (o := 4) (n := 1) hy73 (fun _ => rfl) (by decide)); (exact row_fldL (sz := 12) (o := 4) (n := 1) hv74 hy73 (fun _ => rfl) (by decide) rfl)); rfl; rfl
  apply dn
  apply x3
  (repeat apply sq)
  refine CodeT.weak (Ent.relen (k := 0) (n' := v74.length) rfl (by first | (simp only [setI_len]; done) | (simp only [setI_len]; omega) | omega)) ?_
  apply rg
  apply R_mov; rfl; rfl; rfl
  obtain ⟨v76, hv76, H⟩ := bindS H
  apply R_add; rfl; rfl; (exact letS hv76); rfl; rfl
  apply R_asg; rfl; rfl; rfl
  apply dn
  apply x3
  (repeat apply sq)
  obtain ⟨y77, hy77, H⟩ := bindS H
  refine CodeT.expose (l := 100000) (c := v55.toNat * 12 + 5) rfl (row_ld (o := 5) hy77 rfl (fun _ => rfl)) (fun wy77 => ?_)
  apply rg
  apply R_mov; rfl; rfl; rfl
  apply R_mov; rfl; rfl; rfl
  apply Run.op; (apply L_ixR2; rfl; rfl; rfl; (exact hy77); rfl; rfl); rfl; rfl
  apply R_fldP; rfl; rfl; (exact row_posS (sz := 12) hy77 (fun _ => rfl) (by decide)); rfl; rfl
  apply R_fldP; rfl; rfl; (exact row_posS (sz := 12) hy77 (fun _ => rfl) (by decide)); rfl; rfl
  apply R_fldP; rfl; rfl; (exact row_posS (sz := 12) hy77 (fun _ => rfl) (by decide)); rfl; rfl
  apply R_fldP; rfl; rfl; (exact row_posS (sz := 12) hy77 (fun _ => rfl) (by decide)); rfl; rfl
  apply Run.op; (apply Local.forget Forg.was; apply L_ldP; rfl; rfl; (exact set_self (row_ld (o := 5) hy77 rfl (fun _ => rfl))); (exact .inr rfl); rfl); rfl; rfl
  apply R_mov; rfl; rfl; rfl
  obtain ⟨r79, hr79, H⟩ := bindS H
  apply Run.op; (apply L_callM (l := 100000) (off := v55.toNat * 12 + 5) (m := 1) (p := .rw 1 y77.fCond.fTotal.fNum.fMag.length (y77.fCond.fTotal.fNum.fMag.flatMap (encI .i64))) (p' := .rw 1 r79.2.length (r79.2.flatMap (encI .i64))); rfl; rfl; rfl; (exact set_cut (row_ld (o := 5) hy77 rfl (fun _ => rfl))); rfl; rfl; (exact MCut.one); (exact mk_laws_markIntS y77.fCond.fTotal.fNum.fMag v76 _ hr79); (exact set_cat (row_ld (o := 5) hy77 rfl (fun _ => rfl))); (exact hle); rfl); rfl; rfl
  apply R_asg; rfl; rfl; rfl
  apply dn
  apply x3
  obtain ⟨v80, hv80, H⟩ := bindS H
  have hl81 := setI_lenS hv80
  refine CodeT.weak (Ent.soften (l := 100000) rfl (row_softM (sz := 12) hv80 hy77 (fun _ => rfl) (by decide) rfl)) ?_
  (repeat apply sq)
  refine CodeT.weak (Ent.relen (k := 0) (n' := v80.length) rfl (by first | (simp only [setI_len]; done) | (simp only [setI_len]; omega) | omega)) ?_
  obtain ⟨y82, hy82, H⟩ := bindS H
  refine CodeT.expose (l := 100000) (c := v55.toNat * 12 + 6) rfl (row_ld (o := 6) hy82 rfl (fun _ => rfl)) (fun wy82 => ?_)
  apply rg
  apply R_mov; rfl; rfl; rfl
  apply R_mov; rfl; rfl; rfl
  apply Run.op; (apply L_ixR2; rfl; rfl; rfl; (exact hy82); rfl; rfl); rfl; rfl
  apply R_fldP; rfl; rfl; (exact row_posS (sz := 12) hy82 (fun _ => rfl) (by decide)); rfl; rfl
  apply R_fldP; rfl; rfl; (exact row_posS (sz := 12) hy82 (fun _ => rfl) (by decide)); rfl; rfl
  apply R_fldP; rfl; rfl; (exact row_posS (sz := 12) hy82 (fun _ => rfl) (by decide)); rfl; rfl
  apply Run.op; (apply Local.forget Forg.was; apply L_ldP; rfl; rfl; (exact set_self (row_ld (o := 6) hy82 rfl (fun _ => rfl))); (exact .inr rfl); rfl); rfl; rfl
  apply R_mov; rfl; rfl; rfl
  obtain ⟨r84, hr84, H⟩ := bindS H
  apply Run.op; (apply L_callM (l := 100000) (off := v55.toNat * 12 + 6) (m := 1) (p := .rw 1 y82.fCond.fTotal.fDen.length (y82.fCond.fTotal.fDen.flatMap (encI .i64))) (p' := .rw 1 r84.2.length (r84.2.flatMap (encI .i64))); rfl; rfl; rfl; (exact set_cut (row_ld (o := 6) hy82 rfl (fun _ => rfl))); rfl; rfl; (exact MCut.one); (exact mk_laws_markIntS y82.fCond.fTotal.fDen r79.1 _ hr84); (exact set_cat (row_ld (o := 6) hy82 rfl (fun _ => rfl))); (exact hle); rfl); rfl; rfl
  apply R_asg; rfl; rfl; rfl
  apply dn
  apply x3
  obtain ⟨v85, hv85, H⟩ := bindS H
  have hl86 := setI_lenS hv85
  refine CodeT.weak (Ent.soften (l := 100000) rfl (row_softM (sz := 12) hv85 hy82 (fun _ => rfl) (by decide) rfl)) ?_
  (repeat apply sq)
  refine CodeT.weak (Ent.relen (k := 0) (n' := v85.length) rfl (by first | (simp only [setI_len]; done) | (simp only [setI_len]; omega) | omega)) ?_
  obtain ⟨y87, hy87, H⟩ := bindS H
  refine CodeT.expose (l := 100000) (c := v55.toNat * 12 + 7) rfl (row_ld (o := 7) hy87 rfl (fun _ => rfl)) (fun wy87 => ?_)
  apply rg
  apply R_mov; rfl; rfl; rfl
  apply R_mov; rfl; rfl; rfl
  apply Run.op; (apply L_ixR2; rfl; rfl; rfl; (exact hy87); rfl; rfl); rfl; rfl
  apply R_fldP; rfl; rfl; (exact row_posS (sz := 12) hy87 (fun _ => rfl) (by decide)); rfl; rfl
  apply R_fldP; rfl; rfl; (exact row_posS (sz := 12) hy87 (fun _ => rfl) (by decide)); rfl; rfl
  apply Run.op; (apply Local.forget Forg.was; apply L_ldP; rfl; rfl; (exact set_self (row_ld (o := 7) hy87 rfl (fun _ => rfl))); (exact .inr rfl); rfl); rfl; rfl
  apply R_mov; rfl; rfl; rfl
  obtain ⟨r89, hr89, H⟩ := bindS H
  apply Run.op; (apply L_callM (l := 100000) (off := v55.toNat * 12 + 7) (m := 1) (p := .rw 10 y87.fCond.fParents.length (y87.fCond.fParents.flatMap encWParent)) (p' := .rw 10 r89.2.length (r89.2.flatMap encWParent)); rfl; rfl; rfl; (exact set_cut (row_ld (o := 7) hy87 rfl (fun _ => rfl))); rfl; rfl; (exact MCut.one); (exact mk_laws_markParentS y87.fCond.fParents r84.1 _ hr89); (exact set_cat (row_ld (o := 7) hy87 rfl (fun _ => rfl))); (exact hle); rfl); rfl; rfl
  apply R_asg; rfl; rfl; rfl
  apply dn
  apply x3
  obtain ⟨v90, hv90, H⟩ := bindS H
  have hl91 := setI_lenS hv90
  refine CodeT.weak (Ent.soften (l := 100000) rfl (row_softM (sz := 12) hv90 hy87 (fun _ => rfl) (by decide) rfl)) ?_
  (repeat apply sq)
  refine CodeT.weak (Ent.relen (k := 0) (n' := v90.length) rfl (by first | (simp only [setI_len]; done) | (simp only [setI_len]; omega) | omega)) ?_
  obtain ⟨y92, hy92, H⟩ := bindS H
  refine CodeT.expose (l := 100000) (c := v55.toNat * 12 + 8) rfl (row_ld (o := 8) hy92 rfl (fun _ => rfl)) (fun wy92 => ?_)
  apply rg
  apply R_mov; rfl; rfl; rfl
  apply R_mov; rfl; rfl; rfl
  apply Run.op; (apply L_ixR2; rfl; rfl; rfl; (exact hy92); rfl; rfl); rfl; rfl
  apply R_fldP; rfl; rfl; (exact row_posS (sz := 12) hy92 (fun _ => rfl) (by decide)); rfl; rfl
  apply Run.op; (apply Local.forget Forg.was; apply L_ldP; rfl; rfl; (exact set_self (row_ld (o := 8) hy92 rfl (fun _ => rfl))); (exact .inr rfl); rfl); rfl; rfl
  apply R_mov; rfl; rfl; rfl
  obtain ⟨r94, hr94, H⟩ := bindS H
  apply Run.op; (apply L_callM (l := 100000) (off := v55.toNat * 12 + 8) (m := 1) (p := .rw 11 y92.fMessages.length (y92.fMessages.flatMap encWLink)) (p' := .rw 11 r94.2.length (r94.2.flatMap encWLink)); rfl; rfl; rfl; (exact set_cut (row_ld (o := 8) hy92 rfl (fun _ => rfl))); rfl; rfl; (exact MCut.one); (exact mk_laws_markLinkS y92.fMessages r89.1 _ hr94); (exact set_cat (row_ld (o := 8) hy92 rfl (fun _ => rfl))); (exact hle); rfl); rfl; rfl
  apply R_asg; rfl; rfl; rfl
  apply dn
  apply x3
  obtain ⟨v95, hv95, H⟩ := bindS H
  have hl96 := setI_lenS hv95
  refine CodeT.weak (Ent.soften (l := 100000) rfl (row_softM (sz := 12) hv95 hy92 (fun _ => rfl) (by decide) rfl)) ?_
  (repeat apply sq)
  refine CodeT.weak (Ent.relen (k := 0) (n' := v95.length) rfl (by first | (simp only [setI_len]; done) | (simp only [setI_len]; omega) | omega)) ?_
  apply rg
  apply R_mov; rfl; rfl; rfl
  apply R_mov; rfl; rfl; rfl
  apply R_mov; rfl; rfl; rfl
  apply Run.op; (apply L_rem; rfl; rfl; (intro h; cases h); rfl; rfl); rfl; rfl
  apply R_eql; rfl; rfl; rfl; rfl
  obtain ⟨y97, hy97, H⟩ := bindS H
  apply Run.op; (apply L_ixR2; rfl; rfl; rfl; (exact hy97); rfl; rfl); rfl; rfl
  apply R_fldP; rfl; rfl; (exact row_pos (sz := 12) hy97 (fun _ => rfl) (by decide)); rfl; rfl
  apply R_fldP; rfl; rfl; (exact row_pos (sz := 12) hy97 (fun _ => rfl) (by decide)); rfl; rfl
  apply R_fldP; rfl; rfl; (exact row_pos (sz := 12) hy97 (fun _ => rfl) (by decide)); rfl; rfl
  obtain ⟨v98, hv98, H⟩ := bindS H
  have hl99 := setI_lenS hv98
  apply Run.op; (apply L_st; rfl; rfl; rfl; rfl; rfl; (intro h; cases h); (exact row_ble (sz := 12) (o := 9) (n := 1) hy97 (fun _ => rfl) (by decide)); (exact row_fldL (sz := 12) (o := 9) (n := 1) hv98 hy97 (fun _ => rfl) (by decide) rfl)); rfl; rfl
  apply dn
  apply x3
  (repeat apply sq)
  refine CodeT.weak (Ent.relen (k := 0) (n' := v98.length) rfl (by first | (simp only [setI_len]; done) | (simp only [setI_len]; omega) | omega)) ?_
  apply rg
  apply R_mov; rfl; rfl; rfl
  apply R_add; rfl; rfl; rfl; rfl; rfl
  apply R_asg; rfl; rfl; rfl
  apply dn
  apply x3
  (repeat apply sq)
  obtain ⟨y100, hy100, H⟩ := bindS H
  refine CodeT.expose (l := 100000) (c := v55.toNat * 12 + 10) rfl (row_ld (o := 10) hy100 rfl (fun _ => rfl)) (fun wy100 => ?_)
  apply rg
  apply R_mov; rfl; rfl; rfl
  apply R_mov; rfl; rfl; rfl
  apply Run.op; (apply L_ixR2; rfl; rfl; rfl; (exact hy100); rfl; rfl); rfl; rfl
  apply R_fldP; rfl; rfl; (exact row_posS (sz := 12) hy100 (fun _ => rfl) (by decide)); rfl; rfl
  apply R_fldP; rfl; rfl; (exact row_posS (sz := 12) hy100 (fun _ => rfl) (by decide)); rfl; rfl
  apply R_fldP; rfl; rfl; (exact row_posS (sz := 12) hy100 (fun _ => rfl) (by decide)); rfl; rfl
  apply Run.op; (apply Local.forget Forg.was; apply L_ldP; rfl; rfl; (exact set_self (row_ld (o := 10) hy100 rfl (fun _ => rfl))); (exact .inr rfl); rfl); rfl; rfl
  apply R_mov; rfl; rfl; rfl
  obtain ⟨r102, hr102, H⟩ := bindS H
  apply Run.op; (apply L_callM (l := 100000) (off := v55.toNat * 12 + 10) (m := 1) (p := .rw 1 y100.fEnergy.fNum.fMag.length (y100.fEnergy.fNum.fMag.flatMap (encI .i64))) (p' := .rw 1 r102.2.length (r102.2.flatMap (encI .i64))); rfl; rfl; rfl; (exact set_cut (row_ld (o := 10) hy100 rfl (fun _ => rfl))); rfl; rfl; (exact MCut.one); (exact mk_laws_markIntS y100.fEnergy.fNum.fMag (IntKind.i64.wrap (r94.1 + 1)) _ hr102); (exact set_cat (row_ld (o := 10) hy100 rfl (fun _ => rfl))); (exact hle); rfl); rfl; rfl
  apply R_asg; rfl; rfl; rfl
  apply dn
  apply x3
  obtain ⟨v103, hv103, H⟩ := bindS H
  have hl104 := setI_lenS hv103
  refine CodeT.weak (Ent.soften (l := 100000) rfl (row_softM (sz := 12) hv103 hy100 (fun _ => rfl) (by decide) rfl)) ?_
  refine CodeT.weak (Ent.relen (k := 0) (n' := v103.length) rfl (by first | (simp only [setI_len]; done) | (simp only [setI_len]; omega) | omega)) ?_
  obtain ⟨y105, hy105, H⟩ := bindS H
  refine CodeT.expose (l := 100000) (c := v55.toNat * 12 + 11) rfl (row_ld (o := 11) hy105 rfl (fun _ => rfl)) (fun wy105 => ?_)
  apply rg
  apply R_mov; rfl; rfl; rfl
  apply R_mov; rfl; rfl; rfl
  apply Run.op; (apply L_ixR2; rfl; rfl; rfl; (exact hy105); rfl; rfl); rfl; rfl
  apply R_fldP; rfl; rfl; (exact row_posS (sz := 12) hy105 (fun _ => rfl) (by decide)); rfl; rfl
  apply R_fldP; rfl; rfl; (exact row_posS (sz := 12) hy105 (fun _ => rfl) (by decide)); rfl; rfl
  apply Run.op; (apply Local.forget Forg.was; apply L_ldP; rfl; rfl; (exact set_self (row_ld (o := 11) hy105 rfl (fun _ => rfl))); (exact .inr rfl); rfl); rfl; rfl
  apply R_mov; rfl; rfl; rfl
  obtain ⟨r107, hr107, H⟩ := bindS H
  apply Run.op; (apply L_callM (l := 100000) (off := v55.toNat * 12 + 11) (m := 1) (p := .rw 1 y105.fEnergy.fDen.length (y105.fEnergy.fDen.flatMap (encI .i64))) (p' := .rw 1 r107.2.length (r107.2.flatMap (encI .i64))); rfl; rfl; rfl; (exact set_cut (row_ld (o := 11) hy105 rfl (fun _ => rfl))); rfl; rfl; (exact MCut.one); (exact mk_laws_markIntS y105.fEnergy.fDen r102.1 _ hr107); (exact set_cat (row_ld (o := 11) hy105 rfl (fun _ => rfl))); (exact hle); rfl); rfl; rfl
  apply R_asg; rfl; rfl; rfl
  apply dn
  apply x5
  apply x3
  obtain ⟨v108, hv108, H⟩ := bindS H
  have hl109 := setI_lenS hv108
  refine CodeT.weak (Ent.soften (l := 100000) rfl (row_softM (sz := 12) hv108 hy105 (fun _ => rfl) (by decide) rfl)) ?_
  refine CodeT.weak (Ent.relen (k := 0) (n' := v108.length) rfl (by first | (simp only [setI_len]; done) | (simp only [setI_len]; omega) | omega)) ?_
  apply rg
  apply R_mov; rfl; rfl; rfl
  apply R_add; rfl; rfl; rfl; rfl; rfl
  apply R_asg; rfl; rfl; rfl
  apply dn
  obtain rfl := Option.some.inj H
  refine Ev.y1 ?_
  apply el [] (io0 hio _) <;> rfl
  replace H := ifF (of_decide_eq_false h) H
  (repeat apply sq)
  apply CodeT.exit
  apply x2
  obtain rfl := Option.some.inj H
  refine Ev.y3 ?_
  refine XEnv.mk ?_
  apply el [] (io0 hio _) <;> rfl
  skip
  intro e E' hX; obtain ⟨rfl, g112⟩ := XEnv.out hX
  refine x6 rfl ?_
  apply x3
  refine CodeT.weak g112 ?_
  (repeat apply sq)
  apply rg
  apply R_mov; rfl; rfl; rfl
  apply R_asg; rfl; rfl; rfl
  apply dn
  apply x3
  apply CodeT.ret
  cases H
  apply zn2
  exact RetN.mk (RetIs.sc1 rfl) rfl
theorem mk_laws_markTreeNodeS (a0 : (List TreeNode)) (a1 : Int) (r : (Int × (List TreeNode))) (H : laws_markTreeNodeS a0 a1 = some r) : MarkC Try.prog 22 (.rw 12 a0.length (a0.flatMap encWTreeNode)) (.rw 12 r.2.length (r.2.flatMap encWTreeNode)) (.int .i64 a1) (.int .i64 r.1) := by
  have h := m_laws_markTreeNodeS a0 a1 r H
  have hl := len_laws_markTreeNodeS a0 a1 r H
  rw [hl]; exact MarkC.ofN h
theorem mk_laws_markTree (a0 : Tree) (a1 : Int) (r : (Int × Tree)) (H : laws_markTree a0 a1 = some r) : MarkC Try.prog 10 (.agg (encWTree a0)) (.agg (encWTree r.2)) (.int .i64 a1) (.int .i64 r.1) := by
  refine MarkC.introS (N := 10) (rs := #[.tmp 4]) Try.func10 rfl rfl rfl rfl rfl rfl ?_
  intro Γ vs hvs hio hle
  have hvs : vs.length = 1 := hvs
  obtain ⟨u0, vs1, rfl, hv1⟩ := lenS hvs
  obtain rfl := len0 hv1
  unfold laws_markTree at H
  (repeat apply sq)
  apply rg
  apply Run.op; (apply L_boxT; rfl; rfl; rfl; (exact io1 hio _); rfl); rfl; rfl
  apply R_asg; rfl; rfl; rfl
  apply dn
  apply x3
  (repeat apply sq)
  apply rg
  apply R_fldP; rfl; rfl; rfl; rfl; rfl
  apply Run.op; (apply Local.forget Forg.was; apply L_ldP; rfl; rfl; rfl; (exact .inr rfl); rfl); rfl; rfl
  apply R_mov; rfl; rfl; rfl
  obtain ⟨r1, hr1, H⟩ := bindS H
  apply Run.op; (apply L_callM (l := 2) (off := 0) (m := 1) (p := .rw 12 a0.fNodes.length (a0.fNodes.flatMap encWTreeNode)) (p' := .rw 12 r1.2.length (r1.2.flatMap encWTreeNode)) (cells' := [.was u0 (.rw 12 r1.2.length (r1.2.flatMap encWTreeNode))]); rfl; rfl; rfl; rfl; rfl; rfl; (exact MCut.one); (exact mk_laws_markTreeNodeS a0.fNodes a1 _ hr1); rfl; (exact hle); rfl); rfl; rfl
  apply R_asg; rfl; rfl; rfl
  apply dn
  apply x3
  (repeat apply sq)
  apply rg
  apply R_mov; rfl; rfl; rfl
  apply R_asg; rfl; rfl; rfl
  apply dn
  apply x3
  apply CodeT.ret
  cases H
  apply zm2
  exact RetM.mk 2 (RetIs.sc1 rfl) rfl
theorem mk_laws_markBigInt (a0 : BigInt) (a1 : Int) (r : (Int × BigInt)) (H : laws_markBigInt a0 a1 = some r) : MarkC Try.prog 23 (.agg (encWBigInt a0)) (.agg (encWBigInt r.2)) (.int .i64 a1) (.int .i64 r.1) := by
  refine MarkC.introS (N := 10) (rs := #[.tmp 4]) Try.func23 rfl rfl rfl rfl rfl rfl ?_
  intro Γ vs hvs hio hle
  have hvs : vs.length = 2 := hvs
  obtain ⟨u0, vs1, rfl, hv1⟩ := lenS hvs
  obtain ⟨u1, vs2, rfl, hv2⟩ := lenS hv1
  obtain rfl := len0 hv2
  unfold laws_markBigInt at H
  (repeat apply sq)
  apply rg
  apply Run.op; (apply L_boxT; rfl; rfl; rfl; (exact io1 hio _); rfl); rfl; rfl
  apply R_asg; rfl; rfl; rfl
  apply dn
  apply x3
  (repeat apply sq)
  apply rg
  apply R_fldP; rfl; rfl; rfl; rfl; rfl
  apply Run.op; (apply Local.forget Forg.was; apply L_ldP; rfl; rfl; rfl; (exact .inr rfl); rfl); rfl; rfl
  apply R_mov; rfl; rfl; rfl
  obtain ⟨r1, hr1, H⟩ := bindS H
  apply Run.op; (apply L_callM (l := 2) (off := 1) (m := 1) (p := .rw 1 a0.fMag.length (a0.fMag.flatMap (encI .i64))) (p' := .rw 1 r1.2.length (r1.2.flatMap (encI .i64))) (cells' := [.was u0 (.sc (.bool a0.fNeg)), .was u1 (.rw 1 r1.2.length (r1.2.flatMap (encI .i64)))]); rfl; rfl; rfl; rfl; rfl; rfl; (exact MCut.one); (exact mk_laws_markIntS a0.fMag a1 _ hr1); rfl; (exact hle); rfl); rfl; rfl
  apply R_asg; rfl; rfl; rfl
  apply dn
  apply x3
  (repeat apply sq)
  apply rg
  apply R_mov; rfl; rfl; rfl
  apply R_asg; rfl; rfl; rfl
  apply dn
  apply x3
  apply CodeT.ret
  cases H
  apply zm2
  exact RetM.mk 2 (RetIs.sc1 rfl) rfl
theorem mk_laws_markRat (a0 : Rat) (a1 : Int) (r : (Int × Rat)) (H : laws_markRat a0 a1 = some r) : MarkC Try.prog 11 (.agg (encWRat a0)) (.agg (encWRat r.2)) (.int .i64 a1) (.int .i64 r.1) := by
  refine MarkC.introS (N := 14) (rs := #[.tmp 4]) Try.func11 rfl rfl rfl rfl rfl rfl ?_
  intro Γ vs hvs hio hle
  have hvs : vs.length = 3 := hvs
  obtain ⟨u0, vs1, rfl, hv1⟩ := lenS hvs
  obtain ⟨u1, vs2, rfl, hv2⟩ := lenS hv1
  obtain ⟨u2, vs3, rfl, hv3⟩ := lenS hv2
  obtain rfl := len0 hv3
  unfold laws_markRat at H
  (repeat apply sq)
  apply rg
  apply Run.op; (apply L_boxT; rfl; rfl; rfl; (exact io1 hio _); rfl); rfl; rfl
  apply R_asg; rfl; rfl; rfl
  apply dn
  apply x3
  (repeat apply sq)
  apply rg
  apply R_fldP; rfl; rfl; rfl; rfl; rfl
  apply Run.op; (apply Local.forget (Forg.agg (ws := [.was u0 (.sc (.bool a0.fNum.fNeg)), .was u1 (.rw 1 a0.fNum.fMag.length (a0.fNum.fMag.flatMap (encI .i64)))]) rfl); apply L_ldPA; rfl; rfl; rfl; rfl; (intro h; cases h); (exact .inr rfl); rfl); rfl; rfl
  apply R_mov; rfl; rfl; rfl
  obtain ⟨r1, hr1, H⟩ := bindS H
  apply Run.op; (apply L_callM (l := 2) (off := 0) (m := 2) (p := .agg (encWBigInt a0.fNum)) (p' := .agg (encWBigInt r1.2)) (cells' := [.was u0 (.sc (.bool r1.2.fNeg)), .was u1 (.rw 1 r1.2.fMag.length (r1.2.fMag.flatMap (encI .i64))), .was u2 (.rw 1 a0.fDen.length (a0.fDen.flatMap (encI .i64)))]); rfl; rfl; rfl; rfl; rfl; rfl; (exact MCut.agg rfl rfl); (exact mk_laws_markBigInt a0.fNum a1 _ hr1); rfl; (exact hle); rfl); rfl; rfl
  apply R_asg; rfl; rfl; rfl
  apply dn
  apply x3
  (repeat apply sq)
  apply rg
  apply R_fldP; rfl; rfl; rfl; rfl; rfl
  apply Run.op; (apply Local.forget Forg.was; apply L_ldP; rfl; rfl; rfl; (exact .inr rfl); rfl); rfl; rfl
  apply R_mov; rfl; rfl; rfl
  obtain ⟨r2, hr2, H⟩ := bindS H
  apply Run.op; (apply L_callM (l := 2) (off := 2) (m := 1) (p := .rw 1 a0.fDen.length (a0.fDen.flatMap (encI .i64))) (p' := .rw 1 r2.2.length (r2.2.flatMap (encI .i64))) (cells' := [.was u0 (.sc (.bool r1.2.fNeg)), .was u1 (.rw 1 r1.2.fMag.length (r1.2.fMag.flatMap (encI .i64))), .was u2 (.rw 1 r2.2.length (r2.2.flatMap (encI .i64)))]); rfl; rfl; rfl; rfl; rfl; rfl; (exact MCut.one); (exact mk_laws_markIntS a0.fDen r1.1 _ hr2); rfl; (exact hle); rfl); rfl; rfl
  apply R_asg; rfl; rfl; rfl
  apply dn
  apply x3
  (repeat apply sq)
  apply rg
  apply R_mov; rfl; rfl; rfl
  apply R_asg; rfl; rfl; rfl
  apply dn
  apply x3
  apply CodeT.ret
  cases H
  apply zm2
  exact RetM.mk 2 (RetIs.sc1 rfl) rfl
theorem m_laws_heldIntS (a0 : (List Int)) (a1 : Int) (r : Int) (H : laws_heldIntS a0 a1 = some r) : Meets Try.prog 26 [.sl a0.length (a0.flatMap (encI .i64)), .sc (.int .i64 a1)] (.sc (.int .i64 r)) true := by
  refine Meets.intro2 (N := 21) (rs := #[.tmp 4]) Try.func26 rfl rfl rfl rfl ?_
  intro Γ hio
  unfold laws_heldIntS at H
  (repeat apply sq)
  apply rg
  apply R_asg; rfl; rfl; rfl
  apply dn
  apply x3
  (repeat apply sq)
  apply rg
  apply R_asg; rfl; rfl; rfl
  apply dn
  apply x3
  (repeat apply sq)
  apply CodeT.block
  (repeat apply sq)
  obtain ⟨d5, hd5, H⟩ := bindS H
  refine CodeT.lloop (fun s => ⟨[(0, ⟨.sl a0.length (a0.flatMap (encI .i64)), false⟩), (1, ⟨.sc (.int .i64 s.1), false⟩), (5, ⟨.sc (.int .i64 s.2), false⟩)], []⟩) (fun x e E => match x with | (.inl d) => XEnv Γ (.exit 0) ⟨[(1, ⟨.sc (.int .i64 d), false⟩)], []⟩ e E | (.inr d) => XRet Γ #[.tmp 4] (.sc (.int .i64 d)) true e E) hd5 ?_ ?_ ?_
  apply el [] (io0 hio _) <;> rfl
  clear H hd5
  rintro ⟨v2, v3⟩ o H
  unfold laws_heldIntS_L1 at H
  (repeat apply sq)
  apply rg
  apply R_mov; rfl; rfl; rfl
  apply R_mov; rfl; rfl; rfl
  apply R_len; rfl; rfl; rfl
  apply R_lss; rfl; rfl; rfl; rfl
  apply dn
  apply x3
  (repeat apply sq)
  refine CodeT.cond rfl (fun h => ?_) (fun h => ?_)
  replace H := ifT (of_decide_eq_true h) H
  (repeat apply sq)
  apply CodeT.skip
  apply x3
  (repeat apply sq)
  apply CodeT.block
  (repeat apply sq)
  apply rg
  apply R_mov; rfl; rfl; rfl
  apply R_mov; rfl; rfl; rfl
  obtain ⟨y4, hy4, H⟩ := bindS H
  apply Run.op; (apply L_ixS2; rfl; rfl; rfl; (exact hy4); (intro _; rfl); rfl); rfl; rfl
  apply R_ldI; rfl; rfl; rfl; rfl; rfl
  apply R_mov; rfl; rfl; rfl
  apply R_neq; rfl; rfl; rfl; rfl
  apply dn
  apply x3
  (repeat apply sq)
  refine CodeT.cond rfl (fun h => ?_) (fun h => ?_)
  replace H := ifT (of_decide_eq_true h) H
  (repeat apply sq)
  apply rg
  apply R_asg; rfl; rfl; rfl
  apply dn
  apply x3
  apply CodeT.ret
  apply x1
  apply x4
  apply x1
  obtain rfl := Option.some.inj H
  refine Ev.y2 ?_
  refine XRet.mk ?_
  exact RetIs.sc1 rfl
  replace H := ifF (of_decide_eq_false h) H
  (repeat apply sq)
  apply CodeT.skip
  apply x3
  apply rg
  apply R_mov; rfl; rfl; rfl
  apply R_add; rfl; rfl; rfl; rfl; rfl
  apply R_asg; rfl; rfl; rfl
  apply dn
  apply x5
  apply x3
  apply rg
  apply R_mov; rfl; rfl; rfl
  apply R_add; rfl; rfl; rfl; rfl; rfl
  apply R_asg; rfl; rfl; rfl
  apply dn
  obtain rfl := Option.some.inj H
  refine Ev.y1 ?_
  apply el [] (io0 hio _) <;> rfl
  replace H := ifF (of_decide_eq_false h) H
  (repeat apply sq)
  apply CodeT.exit
  apply x2
  obtain rfl := Option.some.inj H
  refine Ev.y3 ?_
  refine XEnv.mk ?_
  apply el [] (io0 hio _) <;> rfl
  rcases d5 with (d6 | d8)
  intro e E' hX; obtain ⟨rfl, g7⟩ := XEnv.out hX
  refine x6 rfl ?_
  apply x3
  refine CodeT.weak g7 ?_
  (repeat apply sq)
  apply rg
  apply R_mov; rfl; rfl; rfl
  apply R_asg; rfl; rfl; rfl
  apply dn
  apply x3
  apply CodeT.ret
  cases H
  apply x12
  exact RetIs.sc1 rfl
  intro e E' hX; obtain ⟨rfl, g9⟩ := XRet.out hX
  apply x4
  apply x1
  cases H
  apply x12
  exact g9
theorem m_laws_heldBigInt (a0 : BigInt) (a1 : Int) (r : Int) (H : laws_heldBigInt a0 a1 = some r) : Meets Try.prog 25 [.agg (encBigInt a0), .sc (.int .i64 a1)] (.sc (.int .i64 r)) true := by
  refine Meets.intro2 (N := 12) (rs := #[.tmp 4]) Try.func25 rfl rfl rfl rfl ?_
  intro Γ hio
  unfold laws_heldBigInt at H
  (repeat apply sq)
  apply rg
  apply Run.op; (apply L_box false; rfl; rfl; rfl; (exact io1 hio _); rfl); rfl; rfl
  apply R_asg; rfl; rfl; rfl
  apply dn
  apply x3
  (repeat apply sq)
  apply rg
  apply R_fldP; rfl; rfl; rfl; rfl; rfl
  apply R_ldP; rfl; rfl; rfl; rfl; rfl; rfl
  apply R_mov; rfl; rfl; rfl
  obtain ⟨r1, hr1, H⟩ := bindS H
  apply Run.op; (apply L_call; ((apply ArgsV.cons; (apply ArgV.val; rfl; rfl)); (apply ArgsV.cons; (apply ArgV.val; rfl; rfl)); (apply ArgsV.nil)); (exact m_laws_heldIntS a0.fMag a1 _ hr1); rfl; rfl; rfl); rfl; rfl
  apply R_asg; rfl; rfl; rfl
  apply dn
  apply x3
  (repeat apply sq)
  apply rg
  apply R_mov; rfl; rfl; rfl
  apply R_lss; rfl; rfl; rfl; rfl
  apply dn
  apply x3
  (repeat apply sq)
  refine CodeT.cond rfl (fun h => ?_) (fun h => ?_)
  replace H := ifT (of_decide_eq_true h) H
  (repeat apply sq)
  apply rg
  apply R_asg; rfl; rfl; rfl
  apply dn
  apply x3
  apply CodeT.ret
  apply x1
  cases H
  apply x12
  exact RetIs.sc1 rfl
  replace H := ifF (of_decide_eq_false h) H
  (repeat apply sq)
  apply CodeT.skip
  apply x3
  (repeat apply sq)
  apply rg
  apply R_mov; rfl; rfl; rfl
  apply R_asg; rfl; rfl; rfl
  apply dn
  apply x3
  apply CodeT.ret
  cases H
  apply x12
  exact RetIs.sc1 rfl
theorem m_laws_heldRat (a0 : Rat) (a1 : Int) (r : Int) (H : laws_heldRat a0 a1 = some r) : Meets Try.prog 12 [.agg (encRat a0), .sc (.int .i64 a1)] (.sc (.int .i64 r)) true := by
  refine Meets.intro2 (N := 18) (rs := #[.tmp 4]) Try.func12 rfl rfl rfl rfl ?_
  intro Γ hio
  unfold laws_heldRat at H
  (repeat apply sq)
  apply rg
  apply Run.op; (apply L_box false; rfl; rfl; rfl; (exact io1 hio _); rfl); rfl; rfl
  apply R_asg; rfl; rfl; rfl
  apply dn
  apply x3
  (repeat apply sq)
  apply rg
  apply R_fldP; rfl; rfl; rfl; rfl; rfl
  apply R_ldPA; rfl; rfl; (first | exact seg_whole rfl | rfl); rfl; rfl; rfl; rfl; rfl
  apply R_mov; rfl; rfl; rfl
  obtain ⟨r1, hr1, H⟩ := bindS H
  apply Run.op; (apply L_call; ((apply ArgsV.cons; (apply ArgV.val; rfl; rfl)); (apply ArgsV.cons; (apply ArgV.val; rfl; rfl)); (apply ArgsV.nil)); (exact m_laws_heldBigInt a0.fNum a1 _ hr1); rfl; rfl; rfl); rfl; rfl
  apply R_asg; rfl; rfl; rfl
  apply dn
  apply x3
  (repeat apply sq)
  apply rg
  apply R_mov; rfl; rfl; rfl
  apply R_lss; rfl; rfl; rfl; rfl
  apply dn
  apply x3
  (repeat apply sq)
  refine CodeT.cond rfl (fun h => ?_) (fun h => ?_)
  replace H := ifT (of_decide_eq_true h) H
  (repeat apply sq)
  apply rg
  apply R_asg; rfl; rfl; rfl
  apply dn
  apply x3
  apply CodeT.ret
  apply x1
  cases H
  apply x12
  exact RetIs.sc1 rfl
  replace H := ifF (of_decide_eq_false h) H
  (repeat apply sq)
  apply CodeT.skip
  apply x3
  (repeat apply sq)
  apply rg
  apply R_fldP; rfl; rfl; rfl; rfl; rfl
  apply R_ldP; rfl; rfl; rfl; rfl; rfl; rfl
  apply R_mov; rfl; rfl; rfl
  obtain ⟨r2, hr2, H⟩ := bindS H
  apply Run.op; (apply L_call; ((apply ArgsV.cons; (apply ArgV.val; rfl; rfl)); (apply ArgsV.cons; (apply ArgV.val; rfl; rfl)); (apply ArgsV.nil)); (exact m_laws_heldIntS a0.fDen r1 _ hr2); rfl; rfl; rfl); rfl; rfl
  apply R_asg; rfl; rfl; rfl
  apply dn
  apply x3
  (repeat apply sq)
  apply rg
  apply R_mov; rfl; rfl; rfl
  apply R_lss; rfl; rfl; rfl; rfl
  apply dn
  apply x3
  (repeat apply sq)
  refine CodeT.cond rfl (fun h => ?_) (fun h => ?_)
  replace H := ifT (of_decide_eq_true h) H
  (repeat apply sq)
  apply rg
  apply R_asg; rfl; rfl; rfl
  apply dn
  apply x3
  apply CodeT.ret
  apply x1
  cases H
  apply x12
  exact RetIs.sc1 rfl
  replace H := ifF (of_decide_eq_false h) H
  (repeat apply sq)
  apply CodeT.skip
  apply x3
  (repeat apply sq)
  apply rg
  apply R_mov; rfl; rfl; rfl
  apply R_asg; rfl; rfl; rfl
  apply dn
  apply x3
  apply CodeT.ret
  cases H
  apply x12
  exact RetIs.sc1 rfl
theorem m_laws_FnExactTreeEnergy (a0 : Tree) (r : Bool) (H : laws_FnExactTreeEnergy a0 = some r) : Meets Try.prog 3 [.agg (encTree a0)] (.sc (.bool r)) true := by
  refine Meets.introW1 (N := 69) (rs := #[.tmp 2]) Try.func3 rfl rfl rfl rfl rfl ?_
  intro Γ c0 hio hle hi0 old0
  refine CodeT.openAgg 0 rfl old0 rfl (fun vs hvs oldl0 => ?_)
  have hvs : vs.length = 1 := hvs
  obtain ⟨w0_0, vs1, rfl, hv1⟩ := lenS hvs
  obtain rfl := len0 hv1
  unfold laws_FnExactTreeEnergy at H
  (repeat apply sq)
  apply rg
  apply Run.op; (apply L_box false; rfl; rfl; rfl; (exact io1 hio _); rfl); rfl; rfl
  apply R_asg; rfl; rfl; rfl
  apply dn
  apply x3
  (repeat apply sq)
  apply rg
  apply R_asg; rfl; rfl; rfl
  apply dn
  apply x3
  (repeat apply sq)
  apply rg
  apply Run.op; (apply Local.soft (p' := .agg (encTree a0)) (Soft.agg (SoftL.cons Soft.was SoftL.nil)); apply L_ldPA; rfl; rfl; rfl; rfl; (intro h; cases h); (first | exact .inl rfl | exact .inr rfl); rfl); rfl; rfl
  apply R_mov; rfl; rfl; rfl
  obtain ⟨r1, hr1, H⟩ := bindS H
  apply Run.op; (apply L_call; ((apply ArgsV.cons; (apply ArgV.val; rfl; rfl)); (apply ArgsV.cons; (apply ArgV.val; rfl; rfl)); (apply ArgsV.nil)); (exact m_laws_szTree a0 1048576 _ hr1); rfl; rfl; rfl); rfl; rfl
  apply R_asg; rfl; rfl; rfl
  apply dn
  apply x3
  (repeat apply sq)
  apply rg
  apply R_mov; rfl; rfl; rfl
  apply R_lss; rfl; rfl; rfl; rfl
  apply dn
  apply x3
  (repeat apply sq)
  refine CodeT.cond rfl (fun h => ?_) (fun h => ?_)
  replace H := ifT (of_decide_eq_true h) H
  (repeat apply sq)
  apply rg
  apply R_asg; rfl; rfl; rfl
  apply dn
  apply x3
  apply CodeT.ret
  apply x1
  cases H
  apply x12
  exact RetIs.sc1 rfl
  replace H := ifF (of_decide_eq_false h) H
  (repeat apply sq)
  apply CodeT.skip
  apply x3
  (repeat apply sq)
  apply rg
  apply Run.op; (apply Local.soft (p' := .agg (encTree a0)) (Soft.agg (SoftL.cons Soft.was SoftL.nil)); apply L_ldPA; rfl; rfl; rfl; rfl; (intro h; cases h); (first | exact .inl rfl | exact .inr rfl); rfl); rfl; rfl
  obtain ⟨r2, hr2, H⟩ := bindS H
  apply Run.op; (apply L_call; ((apply ArgsV.cons; (apply ArgV.val; rfl; rfl)); (apply ArgsV.nil)); (exact m_laws_toTree a0 _ hr2); rfl; rfl; rfl); rfl; rfl
  obtain ⟨r3, hr3, H⟩ := bindS H
  apply Run.op; (apply L_call; ((apply ArgsV.cons; (apply ArgV.valS; rfl; rfl; (exact (Soft.agg (softTree _))))); (apply ArgsV.nil)); (exact m_spec_TreeEnergy r2 _ hr3); rfl; rfl; rfl); rfl; rfl
  apply Run.op; (apply L_alloc false; (exact io1 hio _); rfl); rfl; rfl
  apply Run.op; (apply L_stT (cells' := (encWRat r3)); rfl; rfl; rfl; rfl; rfl; rfl; (intro h; cases h); rfl; (first | exact splice_whole rfl | rfl)); rfl; rfl
  apply dn
  apply x3
  (repeat apply sq)
  apply rg
  apply Run.op; (apply Local.soft (p' := .agg (encTree a0)) (Soft.agg (SoftL.cons Soft.was SoftL.nil)); apply L_ldPA; rfl; rfl; rfl; rfl; (intro h; cases h); (first | exact .inl rfl | exact .inr rfl); rfl); rfl; rfl
  obtain ⟨r4, hr4, H⟩ := bindS H
  apply Run.op; (apply L_call; ((apply ArgsV.cons; (apply ArgV.val; rfl; rfl)); (apply ArgsV.nil)); (exact m_laws_toTree a0 _ hr4); rfl; rfl; rfl); rfl; rfl
  apply Run.op; (apply L_alloc false; (exact io1 hio _); rfl); rfl; rfl
  apply Run.op; (apply L_stT (cells' := (encWTree r4)); rfl; rfl; rfl; rfl; rfl; rfl; (intro h; cases h); rfl; (first | exact splice_whole rfl | rfl)); rfl; rfl
  apply dn
  apply x3
  (repeat apply sq)
  apply rg
  apply Run.op; (apply Local.soft (Soft.agg (softTree _)); apply L_ldPA; rfl; rfl; (first | exact seg_whole rfl | rfl); rfl; (intro h; cases h); (first | exact .inl rfl | exact .inr rfl); rfl); rfl; rfl
  obtain ⟨r5, hr5, H⟩ := bindS H
  apply Run.op; (apply L_call; ((apply ArgsV.cons; (apply ArgV.val; rfl; rfl)); (apply ArgsV.nil)); (exact m_impl_TreeEnergy r4 _ hr5); rfl; rfl; rfl); rfl; rfl
  apply Run.op; (apply L_alloc false; (exact io1 hio _); rfl); rfl; rfl
  apply Run.op; (apply L_stT (cells' := (encWRat r5)); rfl; rfl; rfl; rfl; rfl; rfl; (intro h; cases h); rfl; (first | exact splice_whole rfl | rfl)); rfl; rfl
  apply dn
  apply x3
  (repeat apply sq)
  apply rg
  apply Run.op; (apply Local.soft (Soft.agg (softRat _)); apply L_ldPA; rfl; rfl; (first | exact seg_whole rfl | rfl); rfl; (intro h; cases h); (first | exact .inl rfl | exact .inr rfl); rfl); rfl; rfl
  apply Run.op; (apply Local.soft (Soft.agg (softRat _)); apply L_ldPA; rfl; rfl; (first | exact seg_whole rfl | rfl); rfl; (intro h; cases h); (first | exact .inl rfl | exact .inr rfl); rfl); rfl; rfl
  obtain ⟨r6, hr6, H⟩ := bindS H
  apply Run.op; (apply L_call; ((apply ArgsV.cons; (apply ArgV.val; rfl; rfl)); (apply ArgsV.cons; (apply ArgV.val; rfl; rfl)); (apply ArgsV.nil)); (exact m_laws_eqRat r5 r3 _ hr6); rfl; rfl; rfl); rfl; rfl
  apply R_not; rfl; rfl; rfl
  apply dn
  apply x3
  (repeat apply sq)
  refine CodeT.cond rfl (fun h => ?_) (fun h => ?_)
  replace H := ifFb (notT h) H
  (repeat apply sq)
  apply rg
  apply R_asg; rfl; rfl; rfl
  apply dn
  apply x3
  apply CodeT.ret
  apply x1
  cases H
  apply x12
  exact RetIs.sc1 rfl
  replace H := ifTb (notF h) H
  (repeat apply sq)
  apply CodeT.skip
  apply x3
  (repeat apply sq)
  apply rg
  apply Run.op; (apply Local.soft (Soft.agg (softTree _)); apply L_ldPA; rfl; rfl; (first | exact seg_whole rfl | rfl); rfl; (intro h; cases h); (first | exact .inl rfl | exact .inr rfl); rfl); rfl; rfl
  apply Run.op; (apply Local.soft (p' := .agg (encTree a0)) (Soft.agg (SoftL.cons Soft.was SoftL.nil)); apply L_ldPA; rfl; rfl; rfl; rfl; (intro h; cases h); (first | exact .inl rfl | exact .inr rfl); rfl); rfl; rfl
  obtain ⟨r7, hr7, H⟩ := bindS H
  apply Run.op; (apply L_call; ((apply ArgsV.cons; (apply ArgV.val; rfl; rfl)); (apply ArgsV.nil)); (exact m_laws_toTree a0 _ hr7); rfl; rfl; rfl); rfl; rfl
  obtain ⟨r8, hr8, H⟩ := bindS H
  apply Run.op; (apply L_call; ((apply ArgsV.cons; (apply ArgV.val; rfl; rfl)); (apply ArgsV.cons; (apply ArgV.valS; rfl; rfl; (exact (Soft.agg (softTree _))))); (apply ArgsV.nil)); (exact m_laws_eqTree r4 r7 _ hr8); rfl; rfl; rfl); rfl; rfl
  apply R_not; rfl; rfl; rfl
  apply Run.done; refine ⟨fun _ => ⟨rfl, rfl⟩, ?_⟩
  apply x3
  (repeat apply sq)
  refine CodeT.cond rfl (fun h => ?_) (fun h => ?_)
  replace H := ifFb (notT h) H
  (repeat apply sq)
  apply rg
  apply R_asg; rfl; rfl; rfl
  apply dn
  apply x3
  apply CodeT.ret
  apply x1
  cases H
  apply x12
  exact RetIs.sc1 rfl
  replace H := ifTb (notF h) H
  (repeat apply sq)
  apply CodeT.skip
  apply x3
  (repeat apply sq)
  apply rg
  apply R_asg; rfl; rfl; rfl
  apply dn
  apply x3
  (repeat apply sq)
  refine CodeT.weak (Ent.sleepO 1 rfl rfl) ?_
  refine CodeT.weak (E' := ⟨[(1, ⟨.ptr 1 0, false⟩), (4, ⟨.ptr 4 0, false⟩), (5, ⟨.ptr 5 0, false⟩), (6, ⟨.ptr 6 0, false⟩), (7, ⟨.sc (.int .i64 1), false⟩)], [(1, some ⟨[.sc w0_0], true, false⟩), (4, some ⟨(encWRat r3), true, false⟩), (5, some ⟨(encWTree r4), true, false⟩), (6, some ⟨(encWRat r5), true, false⟩)]⟩) ?_ ?_
  apply el [] (io0 hio _) <;> rfl
  refine CodeT.exposeAll 5 rfl rfl (fun vs hvs => ?_)
  have hvs : vs.length = 1 := hvs
  obtain ⟨w9_0, vs1, rfl, hv1⟩ := lenS hvs
  obtain rfl := len0 hv1
  apply rg
  apply Run.op; (apply Local.forget (Forg.agg (ws := [.was w9_0 (.rw 12 r4.fNodes.length (r4.fNodes.flatMap encWTreeNode))]) rfl); apply L_ldPA; rfl; rfl; rfl; rfl; (intro h; cases h); (exact .inr rfl); rfl); rfl; rfl
  apply R_mov; rfl; rfl; rfl
  obtain ⟨r10, hr10, H⟩ := bindS H
  apply Run.op; (apply L_callM (l := 5) (off := 0) (m := 1) (p := .agg (encWTree r4)) (p' := .agg (encWTree r10.2)) (cells' := [.was w9_0 (.rw 12 r10.2.fNodes.length (r10.2.fNodes.flatMap encWTreeNode))]); rfl; rfl; rfl; rfl; rfl; rfl; (exact MCut.agg rfl rfl); (exact mk_laws_markTree r4 1 _ hr10); rfl; (exact hle); rfl); rfl; rfl
  apply R_asg; rfl; rfl; rfl
  apply dn
  apply x3
  refine CodeT.weak (Ent.wakeO 1 (vs := [w0_0]) rfl oldl0) ?_
  refine CodeT.weak (Ent.soften (l := 5) (cells' := (encWTree r10.2)) rfl (SoftL.cons Soft.was SoftL.nil)) ?_
  (repeat apply sq)
  obtain ⟨d13, hd13, H⟩ := bindS H
  refine CodeT.lcut (x := d13) (fun d e E => XEnv Γ .normal ⟨[(1, ⟨.ptr 1 0, false⟩), (4, ⟨.ptr 4 0, false⟩), (6, ⟨.ptr 6 0, false⟩), (42, ⟨.sc (.bool d), false⟩)], [(1, some ⟨[.was w0_0 (.sl a0.fNodes.length (a0.fNodes.flatMap encTreeNode))], false, false⟩), (4, some ⟨(encWRat r3), true, false⟩), (6, some ⟨(encWRat r5), true, false⟩)]⟩ e E) ?_ ?_
  clear H; have H := hd13; clear hd13
  apply rg
  apply R_mov; rfl; rfl; rfl
  apply R_dec; (apply L_lss; rfl; rfl; rfl); rfl
  intro h; replace H := ifT h H
  apply R_mov; rfl; rfl; rfl
  apply Run.skip; rfl
  apply Run.skip; rfl
  apply Run.skip; rfl
  apply Run.skip; rfl
  apply R_pickT; rfl; rfl; rfl; rfl
  apply dn
  obtain rfl := Option.some.inj H
  refine Ev.y4 ?_
  refine XEnv.mk ?_
  apply el [] (io0 hio _) <;> rfl
  intro h; replace H := ifF h H
  apply R_mov; rfl; rfl; rfl
  apply Run.op; (apply Local.soft (Soft.agg (softRat _)); apply L_ldPA; rfl; rfl; (first | exact seg_whole rfl | rfl); rfl; (intro h; cases h); (first | exact .inl rfl | exact .inr rfl); rfl); rfl; rfl
  apply Run.op; (apply Local.soft (Soft.agg (softRat _)); apply L_ldPA; rfl; rfl; (first | exact seg_whole rfl | rfl); rfl; (intro h; cases h); (first | exact .inl rfl | exact .inr rfl); rfl); rfl; rfl
  obtain ⟨r11, hr11, H⟩ := bindS H
  apply Run.op; (apply L_call; ((apply ArgsV.cons; (apply ArgV.val; rfl; rfl)); (apply ArgsV.cons; (apply ArgV.val; rfl; rfl)); (apply ArgsV.nil)); (exact m_laws_eqRat r5 r3 _ hr11); rfl; rfl; rfl); rfl; rfl
  apply R_not; rfl; rfl; rfl
  apply R_pickF; rfl; rfl; rfl; rfl
  apply dn
  obtain rfl := Option.some.inj H
  refine Ev.y4 ?_
  refine XEnv.mk ?_
  apply el [] (io0 hio _) <;> rfl
  intro e E' hX; obtain ⟨rfl, g14⟩ := XEnv.out hX
  apply x3
  refine CodeT.weak g14 ?_
  (repeat apply sq)
  refine CodeT.cond rfl (fun h => ?_) (fun h => ?_)
  replace H := ifTb h H
  (repeat apply sq)
  apply rg
  apply R_asg; rfl; rfl; rfl
  apply dn
  apply x3
  apply CodeT.ret
  apply x1
  cases H
  apply x12
  exact RetIs.sc1 rfl
  replace H := ifFb h H
  (repeat apply sq)
  apply CodeT.skip
  apply x3
  (repeat apply sq)
  apply rg
  apply R_asg; rfl; rfl; rfl
  apply dn
  apply x3
  (repeat apply sq)
  refine CodeT.weak (Ent.sleepO 1 rfl rfl) ?_
  refine CodeT.weak (E' := ⟨[(1, ⟨.ptr 1 0, false⟩), (4, ⟨.ptr 4 0, false⟩), (6, ⟨.ptr 6 0, false⟩), (8, ⟨.sc (.int .i64 1), false⟩)], [(1, some ⟨[.sc w0_0], true, false⟩), (4, some ⟨(encWRat r3), true, false⟩), (6, some ⟨(encWRat r5), true, false⟩)]⟩) ?_ ?_
  apply el [] (io0 hio _) <;> rfl
  refine CodeT.exposeAll 6 rfl rfl (fun vs hvs => ?_)
  have hvs : vs.length = 3 := hvs
  obtain ⟨w15_0, vs1, rfl, hv1⟩ := lenS hvs
  obtain ⟨w15_1, vs2, rfl, hv2⟩ := lenS hv1
  obtain ⟨w15_2, vs3, rfl, hv3⟩ := lenS hv2
  obtain rfl := len0 hv3
  apply rg
  apply Run.op; (apply Local.forget (Forg.agg (ws := [.was w15_0 (.sc (.bool r5.fNum.fNeg)), .was w15_1 (.rw 1 r5.fNum.fMag.length (r5.fNum.fMag.flatMap (encI .i64))), .was w15_2 (.rw 1 r5.fDen.length (r5.fDen.flatMap (encI .i64)))]) rfl); apply L_ldPA; rfl; rfl; rfl; rfl; (intro h; cases h); (exact .inr rfl); rfl); rfl; rfl
  apply R_mov; rfl; rfl; rfl
  obtain ⟨r16, hr16, H⟩ := bindS H
  apply Run.op; (apply L_callM (l := 6) (off := 0) (m := 3) (p := .agg (encWRat r5)) (p' := .agg (encWRat r16.2)) (cells' := [.was w15_0 (.sc (.bool r16.2.fNum.fNeg)), .was w15_1 (.rw 1 r16.2.fNum.fMag.length (r16.2.fNum.fMag.flatMap (encI .i64))), .was w15_2 (.rw 1 r16.2.fDen.length (r16.2.fDen.flatMap (encI .i64)))]); rfl; rfl; rfl; rfl; rfl; rfl; (exact MCut.agg rfl rfl); (exact mk_laws_markRat r5 1 _ hr16); rfl; (exact hle); rfl); rfl; rfl
  apply R_asg; rfl; rfl; rfl
  apply dn
  apply x3
  refine CodeT.weak (Ent.wakeO 1 (vs := [w0_0]) rfl oldl0) ?_
  refine CodeT.weak (Ent.soften (l := 6) (cells' := (encWRat r16.2)) rfl (SoftL.cons Soft.was (SoftL.cons Soft.was (SoftL.cons Soft.was SoftL.nil)))) ?_
  (repeat apply sq)
  apply rg
  apply R_asg; rfl; rfl; rfl
  apply dn
  apply x3
  (repeat apply sq)
  apply rg
  apply Run.op; (apply Local.soft (Soft.agg (softRat _)); apply L_ldPA; rfl; rfl; (first | exact seg_whole rfl | rfl); rfl; (intro h; cases h); (first | exact .inl rfl | exact .inr rfl); rfl); rfl; rfl
  apply R_mov; rfl; rfl; rfl
  obtain ⟨r17, hr17, H⟩ := bindS H
  apply Run.op; (apply L_call; ((apply ArgsV.cons; (apply ArgV.val; rfl; rfl)); (apply ArgsV.cons; (apply ArgV.val; rfl; rfl)); (apply ArgsV.nil)); (exact m_laws_heldRat r16.2 1 _ hr17); rfl; rfl; rfl); rfl; rfl
  apply R_asg; rfl; rfl; rfl
  apply dn
  apply x3
  (repeat apply sq)
  apply rg
  apply R_mov; rfl; rfl; rfl
  apply R_lss; rfl; rfl; rfl; rfl
  apply dn
  apply x3
  (repeat apply sq)
  refine CodeT.cond rfl (fun h => ?_) (fun h => ?_)
  replace H := ifT (of_decide_eq_true h) H
  (repeat apply sq)
  apply rg
  apply R_asg; rfl; rfl; rfl
  apply dn
  apply x3
  apply CodeT.ret
  apply x1
  cases H
  apply x12
  exact RetIs.sc1 rfl
  replace H := ifF (of_decide_eq_false h) H
  (repeat apply sq)
  apply CodeT.skip
  apply x3
  (repeat apply sq)
  apply rg
  apply R_mov; rfl; rfl; rfl
  apply R_mov; rfl; rfl; rfl
  apply R_neq; rfl; rfl; rfl; rfl
  apply dn
  apply x3
  (repeat apply sq)
  refine CodeT.cond rfl (fun h => ?_) (fun h => ?_)
  replace H := ifT (of_decide_eq_true h) H
  (repeat apply sq)
  apply rg
  apply R_asg; rfl; rfl; rfl
  apply dn
  apply x3
  apply CodeT.ret
  apply x1
  cases H
  apply x12
  exact RetIs.sc1 rfl
  replace H := ifF (of_decide_eq_false h) H
  (repeat apply sq)
  apply CodeT.skip
  apply x3
  (repeat apply sq)
  apply rg
  apply Run.op; (apply Local.soft (p' := .agg (encTree a0)) (Soft.agg (SoftL.cons Soft.was SoftL.nil)); apply L_ldPA; rfl; rfl; rfl; rfl; (intro h; cases h); (first | exact .inl rfl | exact .inr rfl); rfl); rfl; rfl
  obtain ⟨r18, hr18, H⟩ := bindS H
  apply Run.op; (apply L_call; ((apply ArgsV.cons; (apply ArgV.val; rfl; rfl)); (apply ArgsV.nil)); (exact m_laws_toTree a0 _ hr18); rfl; rfl; rfl); rfl; rfl
  obtain ⟨r19, hr19, H⟩ := bindS H
  apply Run.op; (apply L_call; ((apply ArgsV.cons; (apply ArgV.valS; rfl; rfl; (exact (Soft.agg (softTree _))))); (apply ArgsV.nil)); (exact m_impl_TreeEnergy r18 _ hr19); rfl; rfl; rfl); rfl; rfl
  apply Run.op; (apply L_alloc false; (exact io1 hio _); rfl); rfl; rfl
  apply Run.op; (apply L_stT (cells' := (encWRat r19)); rfl; rfl; rfl; rfl; rfl; rfl; (intro h; cases h); rfl; (first | exact splice_whole rfl | rfl)); rfl; rfl
  apply dn
  apply x3
  (repeat apply sq)
  apply rg
  apply Run.op; (apply L_ldPAT; rfl; rfl; rfl; (intro h; cases h); rfl; (exact io1 hio _); rfl); rfl; rfl
  apply Run.op; (apply L_ldPAT; rfl; rfl; rfl; (intro h; cases h); rfl; (exact io1 hio _); rfl); rfl; rfl
  obtain ⟨r20, hr20, H⟩ := bindS H
  apply Run.op; (apply L_call; ((apply ArgsV.cons; (apply ArgV.valS; rfl; rfl; (exact (Soft.agg (softRat _))))); (apply ArgsV.cons; (apply ArgV.valS; rfl; rfl; (exact (Soft.agg (softRat _))))); (apply ArgsV.nil)); (exact m_laws_eqRat r19 r3 _ hr20); rfl; rfl; rfl); rfl; rfl
  apply R_not; rfl; rfl; rfl
  apply dn
  apply x3
  (repeat apply sq)
  refine CodeT.cond rfl (fun h => ?_) (fun h => ?_)
  replace H := ifFb (notT h) H
  (repeat apply sq)
  apply rg
  apply R_asg; rfl; rfl; rfl
  apply dn
  apply x3
  apply CodeT.ret
  apply x1
  cases H
  apply x12
  exact RetIs.sc1 rfl
  replace H := ifTb (notF h) H
  (repeat apply sq)
  apply CodeT.skip
  apply x3
  (repeat apply sq)
  apply rg
  apply R_asg; rfl; rfl; rfl
  apply dn
  apply x3
  (repeat apply sq)
  apply rg
  apply Run.op; (apply L_ldPAT; rfl; rfl; rfl; (intro h; cases h); rfl; (exact io1 hio _); rfl); rfl; rfl
  apply R_mov; rfl; rfl; rfl
  obtain ⟨r21, hr21, H⟩ := bindS H
  apply Run.op; (apply L_call; ((apply ArgsV.cons; (apply ArgV.valS; rfl; rfl; (exact (Soft.agg (softRat _))))); (apply ArgsV.cons; (apply ArgV.val; rfl; rfl)); (apply ArgsV.nil)); (exact m_laws_heldRat r16.2 1 _ hr21); rfl; rfl; rfl); rfl; rfl
  apply R_asg; rfl; rfl; rfl
  apply dn
  apply x3
  (repeat apply sq)
  apply rg
  apply R_mov; rfl; rfl; rfl
  apply R_lss; rfl; rfl; rfl; rfl
  apply dn
  apply x3
  (repeat apply sq)
  refine CodeT.cond rfl (fun h => ?_) (fun h => ?_)
  replace H := ifT (of_decide_eq_true h) H
  (repeat apply sq)
  apply rg
  apply R_asg; rfl; rfl; rfl
  apply dn
  apply x3
  apply CodeT.ret
  apply x1
  cases H
  apply x12
  exact RetIs.sc1 rfl
  replace H := ifF (of_decide_eq_false h) H
  (repeat apply sq)
  apply CodeT.skip
  apply x3
  (repeat apply sq)
  apply rg
  apply R_mov; rfl; rfl; rfl
  apply R_mov; rfl; rfl; rfl
  apply R_neq; rfl; rfl; rfl; rfl
  apply dn
  apply x3
  (repeat apply sq)
  refine CodeT.cond rfl (fun h => ?_) (fun h => ?_)
  replace H := ifT (of_decide_eq_true h) H
  (repeat apply sq)
  apply rg
  apply R_asg; rfl; rfl; rfl
  apply dn
  apply x3
  apply CodeT.ret
  apply x1
  cases H
  apply x12
  exact RetIs.sc1 rfl
  replace H := ifF (of_decide_eq_false h) H
  (repeat apply sq)
  apply CodeT.skip
  apply x3
  (repeat apply sq)
  apply rg
  apply R_asg; rfl; rfl; rfl
  apply dn
  apply x3
  apply CodeT.ret
  cases H
  apply x12
  exact RetIs.sc1 rfl
end Go.Ev
