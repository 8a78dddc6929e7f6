/- The walks of lifted functions, printed by program (lift.py). -/
import Derived.Test.YtbfjidhekfnfjaaLd
set_option linter.all false
namespace Go.Ev
open Go.Proofs
set_option linter.all false
attribute [local irreducible] CodeT Ent Meets MeetsX Local LocalAt Res1 RetIs RetX Sim OpT StepT NoLab Then InBlock Round Cut ends endsX LRound LCut XEnv XRet XRetX XRetN MeetsN MarkC RetN RetM endsN endsM
theorem m_laws_szIntS (a0 : (List Int)) (a1 : Int) (r : Int) (H : laws_szIntS a0 a1 = some r) : Meets Try.prog 128 [.sl a0.length (a0.flatMap (encI .i64)), .sc (.int .i64 a1)] (.sc (.int .i64 r)) true := by
  refine Meets.intro2 (N := 12) (rs := #[.tmp 4]) Try.func128 rfl rfl rfl rfl ?_
  intro Γ hio
  unfold laws_szIntS at H
  (repeat apply CodeT.seq)
  apply CodeT.region (fun _ => PPm)
  apply Run.op; (apply L_asg; rfl; rfl); rfl; rfl
  apply Run.done; refine ⟨fun h => Bool.noConfusion h, ?_⟩
  apply x3
  (repeat apply CodeT.seq)
  apply CodeT.region (fun _ => PPm)
  apply Run.op; (apply L_mov; rfl; rfl); rfl; rfl
  apply Run.op; (apply L_mov; rfl; rfl); rfl; rfl
  apply Run.op; (apply L_len; rfl; rfl); rfl; rfl
  obtain ⟨v1, hv1, H⟩ := bindS H
  apply Run.op; (apply L_sub; rfl; rfl; (exact letS hv1); rfl); rfl; rfl
  apply Run.op; (apply L_asg; rfl; rfl); rfl; rfl
  apply Run.done; refine ⟨fun h => Bool.noConfusion h, ?_⟩
  apply x3
  (repeat apply CodeT.seq)
  apply CodeT.region (fun _ => PPm)
  apply Run.op; (apply L_mov; rfl; rfl); rfl; rfl
  apply Run.op; (apply L_lss; rfl; rfl; rfl); rfl; rfl
  apply Run.done; refine ⟨fun h => Bool.noConfusion h, ?_⟩
  apply x3
  (repeat apply CodeT.seq)
  refine CodeT.cond rfl (fun h => ?_) (fun h => ?_)
  replace H := ifT (of_decide_eq_true h) H
  (repeat apply CodeT.seq)
  apply CodeT.region (fun _ => PPm)
  apply Run.op; (apply L_asg; rfl; rfl); rfl; rfl
  apply Run.done; refine ⟨fun h => Bool.noConfusion h, ?_⟩
  apply x3
  apply CodeT.ret
  apply x1
  cases H
  apply x12
  exact RetIs.sc1 rfl
  replace H := ifF (of_decide_eq_false h) H
  (repeat apply CodeT.seq)
  apply CodeT.skip
  apply x3
  (repeat apply CodeT.seq)
  apply CodeT.region (fun _ => PPm)
  apply Run.op; (apply L_mov; rfl; rfl); rfl; rfl
  apply Run.op; (apply L_asg; rfl; rfl); rfl; rfl
  apply Run.done; refine ⟨fun h => Bool.noConfusion h, ?_⟩
  apply x3
  apply CodeT.ret
  cases H
  apply x12
  exact RetIs.sc1 rfl
theorem m_laws_szClique (a0 : Clique) (a1 : Int) (r : Int) (H : laws_szClique a0 a1 = some r) : Meets Try.prog 82 [.agg (encClique a0), .sc (.int .i64 a1)] (.sc (.int .i64 r)) true := by
  refine Meets.intro2 (N := 18) (rs := #[.tmp 4]) Try.func82 rfl rfl rfl rfl ?_
  intro Γ hio
  unfold laws_szClique at H
  (repeat apply CodeT.seq)
  apply CodeT.region (fun _ => PPm)
  apply Run.op; (apply L_box false; rfl; rfl; rfl; (exact io1 hio _); rfl); rfl; rfl
  apply Run.op; (apply L_asg; rfl; rfl); rfl; rfl
  apply Run.done; refine ⟨fun h => Bool.noConfusion h, ?_⟩
  apply x3
  (repeat apply CodeT.seq)
  apply CodeT.region (fun _ => PPm)
  apply Run.op; (apply L_fldP; rfl; rfl; rfl; rfl); rfl; rfl
  apply Run.op; (apply L_ldP; rfl; rfl; rfl; (first | exact .inl rfl | exact .inr rfl); rfl); rfl; rfl
  apply Run.op; (apply L_mov; rfl; rfl); rfl; rfl
  obtain ⟨r1, hr1, H⟩ := bindS H
  apply Run.op; (apply L_call; ((apply ArgsV.cons; (apply ArgV.val; rfl; rfl)); (apply ArgsV.cons; (apply ArgV.val; rfl; rfl)); (apply ArgsV.nil)); (exact m_laws_szIntS a0.fFrontal a1 _ hr1); rfl; rfl; rfl); rfl; rfl
  apply Run.op; (apply L_asg; rfl; rfl); rfl; rfl
  apply Run.done; refine ⟨fun h => Bool.noConfusion h, ?_⟩
  apply x3
  (repeat apply CodeT.seq)
  apply CodeT.region (fun _ => PPm)
  apply Run.op; (apply L_mov; rfl; rfl); rfl; rfl
  apply Run.op; (apply L_lss; rfl; rfl; rfl); rfl; rfl
  apply Run.done; refine ⟨fun h => Bool.noConfusion h, ?_⟩
  apply x3
  (repeat apply CodeT.seq)
  refine CodeT.cond rfl (fun h => ?_) (fun h => ?_)
  replace H := ifT (of_decide_eq_true h) H
  (repeat apply CodeT.seq)
  apply CodeT.region (fun _ => PPm)
  apply Run.op; (apply L_asg; rfl; rfl); rfl; rfl
  apply Run.done; refine ⟨fun h => Bool.noConfusion h, ?_⟩
  apply x3
  apply CodeT.ret
  apply x1
  cases H
  apply x12
  exact RetIs.sc1 rfl
  replace H := ifF (of_decide_eq_false h) H
  (repeat apply CodeT.seq)
  apply CodeT.skip
  apply x3
  (repeat apply CodeT.seq)
  apply CodeT.region (fun _ => PPm)
  apply Run.op; (apply L_fldP; rfl; rfl; rfl; rfl); rfl; rfl
  apply Run.op; (apply L_ldP; rfl; rfl; rfl; (first | exact .inl rfl | exact .inr rfl); rfl); rfl; rfl
  apply Run.op; (apply L_mov; rfl; rfl); rfl; rfl
  obtain ⟨r2, hr2, H⟩ := bindS H
  apply Run.op; (apply L_call; ((apply ArgsV.cons; (apply ArgV.val; rfl; rfl)); (apply ArgsV.cons; (apply ArgV.val; rfl; rfl)); (apply ArgsV.nil)); (exact m_laws_szIntS a0.fSeparator r1 _ hr2); rfl; rfl; rfl); rfl; rfl
  apply Run.op; (apply L_asg; rfl; rfl); rfl; rfl
  apply Run.done; refine ⟨fun h => Bool.noConfusion h, ?_⟩
  apply x3
  (repeat apply CodeT.seq)
  apply CodeT.region (fun _ => PPm)
  apply Run.op; (apply L_mov; rfl; rfl); rfl; rfl
  apply Run.op; (apply L_lss; rfl; rfl; rfl); rfl; rfl
  apply Run.done; refine ⟨fun h => Bool.noConfusion h, ?_⟩
  apply x3
  (repeat apply CodeT.seq)
  refine CodeT.cond rfl (fun h => ?_) (fun h => ?_)
  replace H := ifT (of_decide_eq_true h) H
  (repeat apply CodeT.seq)
  apply CodeT.region (fun _ => PPm)
  apply Run.op; (apply L_asg; rfl; rfl); rfl; rfl
  apply Run.done; refine ⟨fun h => Bool.noConfusion h, ?_⟩
  apply x3
  apply CodeT.ret
  apply x1
  cases H
  apply x12
  exact RetIs.sc1 rfl
  replace H := ifF (of_decide_eq_false h) H
  (repeat apply CodeT.seq)
  apply CodeT.skip
  apply x3
  (repeat apply CodeT.seq)
  apply CodeT.region (fun _ => PPm)
  apply Run.op; (apply L_mov; rfl; rfl); rfl; rfl
  apply Run.op; (apply L_asg; rfl; rfl); rfl; rfl
  apply Run.done; refine ⟨fun h => Bool.noConfusion h, ?_⟩
  apply x3
  apply CodeT.ret
  cases H
  apply x12
  exact RetIs.sc1 rfl
theorem m_laws_szCliqueS (a0 : (List Clique)) (a1 : Int) (r : Int) (H : laws_szCliqueS a0 a1 = some r) : Meets Try.prog 31 [.sl a0.length (a0.flatMap encClique), .sc (.int .i64 a1)] (.sc (.int .i64 r)) true := by
  refine Meets.intro2 (N := 27) (rs := #[.tmp 4]) Try.func31 rfl rfl rfl rfl ?_
  intro Γ hio
  unfold laws_szCliqueS at H
  (repeat apply CodeT.seq)
  apply CodeT.region (fun _ => PPm)
  apply Run.op; (apply L_asg; rfl; rfl); rfl; rfl
  apply Run.done; refine ⟨fun h => Bool.noConfusion h, ?_⟩
  apply x3
  (repeat apply CodeT.seq)
  apply CodeT.region (fun _ => PPm)
  apply Run.op; (apply L_mov; rfl; rfl); rfl; rfl
  apply Run.op; (apply L_mov; rfl; rfl); rfl; rfl
  apply Run.op; (apply L_len; rfl; rfl); rfl; rfl
  obtain ⟨v1, hv1, H⟩ := bindS H
  apply Run.op; (apply L_sub; rfl; rfl; (exact letS hv1); rfl); rfl; rfl
  apply Run.op; (apply L_asg; rfl; rfl); rfl; rfl
  apply Run.done; refine ⟨fun h => Bool.noConfusion h, ?_⟩
  apply x3
  (repeat apply CodeT.seq)
  apply CodeT.region (fun _ => PPm)
  apply Run.op; (apply L_mov; rfl; rfl); rfl; rfl
  apply Run.op; (apply L_lss; rfl; rfl; rfl); rfl; rfl
  apply Run.done; refine ⟨fun h => Bool.noConfusion h, ?_⟩
  apply x3
  (repeat apply CodeT.seq)
  refine CodeT.cond rfl (fun h => ?_) (fun h => ?_)
  replace H := ifT (of_decide_eq_true h) H
  (repeat apply CodeT.seq)
  apply CodeT.region (fun _ => PPm)
  apply Run.op; (apply L_asg; rfl; rfl); rfl; rfl
  apply Run.done; refine ⟨fun h => Bool.noConfusion h, ?_⟩
  apply x3
  apply CodeT.ret
  apply x1
  cases H
  apply x12
  exact RetIs.sc1 rfl
  replace H := ifF (of_decide_eq_false h) H
  (repeat apply CodeT.seq)
  apply CodeT.skip
  apply x3
  (repeat apply CodeT.seq)
  apply CodeT.region (fun _ => PPm)
  apply Run.op; (apply L_asg; rfl; rfl); rfl; rfl
  apply Run.done; refine ⟨fun h => Bool.noConfusion h, ?_⟩
  apply x3
  (repeat apply CodeT.seq)
  apply CodeT.block
  (repeat apply CodeT.seq)
  obtain ⟨d8, hd8, H⟩ := bindS H
  refine CodeT.lloop (fun s => ⟨[(0, ⟨.sl a0.length (a0.flatMap encClique), false⟩), (1, ⟨.sc (.int .i64 s.1), false⟩), (5, ⟨.sc (.int .i64 s.2), false⟩)], []⟩) (fun x e E => match x with | (.inl d) => XEnv Γ (.exit 0) ⟨[(1, ⟨.sc (.int .i64 d), false⟩)], []⟩ e E | (.inr d) => XRet Γ #[.tmp 4] (.sc (.int .i64 d)) true e E) hd8 ?_ ?_ ?_
  refine Ent.list [] (io0 hio _) rfl ?_ ?_ <;> (repeat' first | exact trivial | (refine And.intro ⟨_, rfl, fun h => (by first | rfl | exact Bool.noConfusion h)⟩ ?_))
  clear H hd8
  rintro ⟨v4, v5⟩ o H
  unfold laws_szCliqueS_L1 at H
  (repeat apply CodeT.seq)
  apply CodeT.region (fun _ => PPm)
  apply Run.op; (apply L_mov; rfl; rfl); rfl; rfl
  apply Run.op; (apply L_mov; rfl; rfl); rfl; rfl
  apply Run.op; (apply L_len; rfl; rfl); rfl; rfl
  apply Run.op; (apply L_lss; rfl; rfl; rfl); rfl; rfl
  apply Run.done; refine ⟨fun h => Bool.noConfusion h, ?_⟩
  apply x3
  (repeat apply CodeT.seq)
  refine CodeT.cond rfl (fun h => ?_) (fun h => ?_)
  replace H := ifT (of_decide_eq_true h) H
  (repeat apply CodeT.seq)
  apply CodeT.skip
  apply x3
  (repeat apply CodeT.seq)
  apply CodeT.block
  (repeat apply CodeT.seq)
  apply CodeT.region (fun _ => PPm)
  apply Run.op; (apply L_mov; rfl; rfl); rfl; rfl
  apply Run.op; (apply L_mov; rfl; rfl); rfl; rfl
  obtain ⟨y6, hy6, H⟩ := bindS H
  apply Run.op; (apply L_ixS2; rfl; rfl; rfl; (exact hy6); (intro _; rfl); rfl); rfl; rfl
  apply Run.op; (apply L_ldIA; rfl; (first | exact take_whole rfl | rfl); rfl; (intro h; cases h); rfl; rfl); rfl; rfl
  apply Run.op; (apply L_mov; rfl; rfl); rfl; rfl
  obtain ⟨r7, hr7, H⟩ := bindS H
  apply Run.op; (apply L_call; ((apply ArgsV.cons; (apply ArgV.val; rfl; rfl)); (apply ArgsV.cons; (apply ArgV.val; rfl; rfl)); (apply ArgsV.nil)); (exact m_laws_szClique y6 v4 _ hr7); rfl; rfl; rfl); rfl; rfl
  apply Run.op; (apply L_asg; rfl; rfl); rfl; rfl
  apply Run.done; refine ⟨fun h => Bool.noConfusion h, ?_⟩
  apply x3
  (repeat apply CodeT.seq)
  apply CodeT.region (fun _ => PPm)
  apply Run.op; (apply L_mov; rfl; rfl); rfl; rfl
  apply Run.op; (apply L_lss; rfl; rfl; rfl); rfl; rfl
  apply Run.done; refine ⟨fun h => Bool.noConfusion h, ?_⟩
  apply x3
  refine CodeT.cond rfl (fun h => ?_) (fun h => ?_)
  replace H := ifT (of_decide_eq_true h) H
  (repeat apply CodeT.seq)
  apply CodeT.region (fun _ => PPm)
  apply Run.op; (apply L_asg; rfl; rfl); rfl; rfl
  apply Run.done; refine ⟨fun h => Bool.noConfusion h, ?_⟩
  apply x3
  apply CodeT.ret
  apply x4
  apply x1
  obtain rfl := Option.some.inj H
  refine Ev.y2 ?_
  refine XRet.mk ?_
  exact RetIs.sc1 rfl
  replace H := ifF (of_decide_eq_false h) H
  (repeat apply CodeT.seq)
  apply CodeT.skip
  apply x5
  apply x3
  apply CodeT.region (fun _ => PPm)
  apply Run.op; (apply L_mov; rfl; rfl); rfl; rfl
  apply Run.op; (apply L_add; rfl; rfl; rfl; rfl); rfl; rfl
  apply Run.op; (apply L_asg; rfl; rfl); rfl; rfl
  apply Run.done; refine ⟨fun h => Bool.noConfusion h, ?_⟩
  obtain rfl := Option.some.inj H
  refine Ev.y1 ?_
  refine Ent.list [] (io0 hio _) rfl ?_ ?_ <;> (repeat' first | exact trivial | (refine And.intro ⟨_, rfl, fun h => (by first | rfl | exact Bool.noConfusion h)⟩ ?_))
  replace H := ifF (of_decide_eq_false h) H
  (repeat apply CodeT.seq)
  apply CodeT.exit
  apply x2
  obtain rfl := Option.some.inj H
  refine Ev.y3 ?_
  refine XEnv.mk ?_
  refine Ent.list [] (io0 hio _) rfl ?_ ?_ <;> (repeat' first | exact trivial | (refine And.intro ⟨_, rfl, fun h => (by first | rfl | exact Bool.noConfusion h)⟩ ?_))
  rcases d8 with (d9 | d11)
  intro e E' hX; obtain ⟨rfl, g10⟩ := XEnv.out hX
  refine x6 rfl ?_
  apply x3
  refine CodeT.weak g10 ?_
  (repeat apply CodeT.seq)
  apply CodeT.region (fun _ => PPm)
  apply Run.op; (apply L_mov; rfl; rfl); rfl; rfl
  apply Run.op; (apply L_asg; rfl; rfl); rfl; rfl
  apply Run.done; refine ⟨fun h => Bool.noConfusion h, ?_⟩
  apply x3
  apply CodeT.ret
  cases H
  apply x12
  exact RetIs.sc1 rfl
  intro e E' hX; obtain ⟨rfl, g12⟩ := XRet.out hX
  apply x4
  apply x1
  cases H
  apply x12
  exact g12
theorem m_laws_toIntS (a0 : (List Int)) (r : (List Int)) (H : laws_toIntS a0 = some r) : Meets Try.prog 67 [.sl a0.length (a0.flatMap (encI .i64))] (.rw 1 r.length (r.flatMap (encI .i64))) true := by
  refine Meets.intro2 (N := 22) (rs := #[.tmp 2]) Try.func67 rfl rfl rfl rfl ?_
  intro Γ hio
  unfold laws_toIntS at H
  (repeat apply CodeT.seq)
  apply CodeT.region (fun _ => PPm)
  apply Run.op; (apply L_asg; rfl; rfl); rfl; rfl
  apply Run.done; refine ⟨fun h => Bool.noConfusion h, ?_⟩
  apply x3
  (repeat apply CodeT.seq)
  apply CodeT.region (fun _ => PPm)
  apply Run.op; (apply L_mov; rfl; rfl); rfl; rfl
  apply Run.op; (apply L_len; rfl; rfl); rfl; rfl
  obtain ⟨_u, hm1, H⟩ := bindS H
  apply Run.op; (apply L_make2 (enc := (encI .i64)) (z := 0); rfl; rfl; rfl; (exact chkS hm1); rfl; decide; (intro h; cases h); (exact io1 hio _); rfl); rfl; rfl
  apply Run.op; (apply L_asg; rfl; rfl); rfl; rfl
  apply Run.done; refine ⟨fun h => Bool.noConfusion h, ?_⟩
  apply x3
  (repeat apply CodeT.seq)
  apply CodeT.region (fun _ => PPm)
  apply Run.op; (apply L_asg; rfl; rfl); rfl; rfl
  apply Run.done; refine ⟨fun h => Bool.noConfusion h, ?_⟩
  apply x3
  (repeat apply CodeT.seq)
  apply CodeT.block
  (repeat apply CodeT.seq)
  obtain ⟨d13, hd13, H⟩ := bindS H
  refine CodeT.lloop (fun s => ⟨[(0, ⟨.sl a0.length (a0.flatMap (encI .i64)), false⟩), (3, ⟨.ref 503 1 0 s.2.length, false⟩), (4, ⟨.sc (.int .i64 s.1), false⟩)], [(503, some ⟨s.2.flatMap (encI .i64), true, false⟩)]⟩) (fun d e E => XEnv Γ (.exit 0) ⟨[(3, ⟨.ref 503 1 0 d.length, false⟩)], [(503, some ⟨d.flatMap (encI .i64), true, false⟩)]⟩ e E) hd13 ?_ ?_ ?_
  refine Ent.list [(503, 7)] (io0 hio _) rfl ?_ ?_ <;> (repeat' first | exact trivial | (refine And.intro ⟨_, rfl, fun h => (by first | rfl | exact Bool.noConfusion h)⟩ ?_))
  clear H hd13
  rintro ⟨v6, v7⟩ o H
  unfold laws_toIntS_L1 at H
  (repeat apply CodeT.seq)
  apply CodeT.region (fun _ => PPm)
  apply Run.op; (apply L_mov; rfl; rfl); rfl; rfl
  apply Run.op; (apply L_mov; rfl; rfl); rfl; rfl
  apply Run.op; (apply L_len; rfl; rfl); rfl; rfl
  apply Run.op; (apply L_lss; rfl; rfl; rfl); rfl; rfl
  apply Run.done; refine ⟨fun h => Bool.noConfusion h, ?_⟩
  apply x3
  (repeat apply CodeT.seq)
  refine CodeT.cond rfl (fun h => ?_) (fun h => ?_)
  replace H := ifT (of_decide_eq_true h) H
  (repeat apply CodeT.seq)
  apply CodeT.skip
  apply x3
  (repeat apply CodeT.seq)
  apply CodeT.block
  (repeat apply CodeT.seq)
  apply CodeT.region (fun _ => PPm)
  apply Run.op; (apply L_mov; rfl; rfl); rfl; rfl
  apply Run.op; (apply L_mov; rfl; rfl); rfl; rfl
  apply Run.op; (apply L_mov; rfl; rfl); rfl; rfl
  apply Run.op; (apply L_mov; rfl; rfl); rfl; rfl
  obtain ⟨y8, hy8, H⟩ := bindS H
  apply Run.op; (apply L_ixS2; rfl; rfl; rfl; (exact hy8); (intro _; rfl); rfl); rfl; rfl
  apply Run.op; (apply L_ldI; rfl; rfl; rfl; rfl); rfl; rfl
  obtain ⟨y9, hy9, H⟩ := bindS H
  apply Run.op; (apply L_ixR2; rfl; rfl; rfl; (exact hy9); rfl; rfl); rfl; rfl
  obtain ⟨v10, hv10, H⟩ := bindS H
  have hl11 := setI_lenS hv10
  apply Run.op; (apply L_st; rfl; rfl; rfl; rfl; rfl; (intro h; cases h); (exact row_ble0 (sz := 1) (n := 1) hy9 (fun _ => rfl) (by decide)); (exact row_stL (sz := 1) hv10 hy9 (fun _ => rfl) rfl)); rfl; rfl
  apply Run.done; refine ⟨fun h => Bool.noConfusion h, ?_⟩
  apply x5
  apply x3
  refine CodeT.weak (Ent.relen (k := 3) (n' := v10.length) rfl (by first | (simp only [setI_len]; done) | (simp only [setI_len]; omega) | omega)) ?_
  apply CodeT.region (fun _ => PPm)
  apply Run.op; (apply L_mov; rfl; rfl); rfl; rfl
  apply Run.op; (apply L_add; rfl; rfl; rfl; rfl); rfl; rfl
  apply Run.op; (apply L_asg; rfl; rfl); rfl; rfl
  apply Run.done; refine ⟨fun h => Bool.noConfusion h, ?_⟩
  obtain rfl := Option.some.inj H
  refine Ev.y1 ?_
  refine Ent.list [] (io0 hio _) rfl ?_ ?_ <;> (repeat' first | exact trivial | (refine And.intro ⟨_, rfl, fun h => (by first | rfl | exact Bool.noConfusion h)⟩ ?_))
  replace H := ifF (of_decide_eq_false h) H
  (repeat apply CodeT.seq)
  apply CodeT.exit
  apply x2
  obtain rfl := Option.some.inj H
  refine Ev.y3 ?_
  refine XEnv.mk ?_
  refine Ent.list [] (io0 hio _) rfl ?_ ?_ <;> (repeat' first | exact trivial | (refine And.intro ⟨_, rfl, fun h => (by first | rfl | exact Bool.noConfusion h)⟩ ?_))
  skip
  intro e E' hX; obtain ⟨rfl, g14⟩ := XEnv.out hX
  refine x6 rfl ?_
  apply x3
  refine CodeT.weak g14 ?_
  (repeat apply CodeT.seq)
  apply CodeT.region (fun _ => PPm)
  apply Run.op; (apply L_mov; rfl; rfl); rfl; rfl
  apply Run.op; (apply L_asg; rfl; rfl); rfl; rfl
  apply Run.done; refine ⟨fun h => Bool.noConfusion h, ?_⟩
  apply x3
  apply CodeT.ret
  cases H
  apply x12
  exact RetIs.rW rfl rfl rfl (io1 hio _)
theorem m_laws_toClique (a0 : Clique) (r : Clique) (H : laws_toClique a0 = some r) : Meets Try.prog 85 [.agg (encClique a0)] (.agg (encWClique r)) true := by
  refine Meets.intro2 (N := 16) (rs := #[.cell 2 110]) Try.func85 rfl rfl rfl rfl ?_
  intro Γ hio
  unfold laws_toClique at H
  (repeat apply CodeT.seq)
  apply CodeT.region (fun _ => PPm)
  apply Run.op; (apply L_box false; rfl; rfl; rfl; (exact io1 hio _); rfl); rfl; rfl
  apply Run.op; (apply L_alloc false; (exact io1 hio _); rfl); rfl; rfl
  apply Run.done; refine ⟨fun h => Bool.noConfusion h, ?_⟩
  apply x3
  (repeat apply CodeT.seq)
  apply CodeT.region (fun _ => PPm)
  apply Run.op; (apply L_alloc false; (exact io1 hio _); rfl); rfl; rfl
  apply Run.done; refine ⟨fun h => Bool.noConfusion h, ?_⟩
  apply x3
  (repeat apply CodeT.seq)
  apply CodeT.region (fun _ => PPm)
  apply Run.op; (apply L_fldP; rfl; rfl; rfl; rfl); rfl; rfl
  apply Run.op; (apply L_ldP; rfl; rfl; rfl; (first | exact .inl rfl | exact .inr rfl); rfl); rfl; rfl
  obtain ⟨r1, hr1, H⟩ := bindS H
  apply Run.op; (apply L_call; ((apply ArgsV.cons; (apply ArgV.val; rfl; rfl)); (apply ArgsV.nil)); (exact m_laws_toIntS a0.fFrontal _ hr1); rfl; rfl; rfl); rfl; rfl
  apply Run.op; (apply L_fldP; rfl; rfl; rfl; rfl); rfl; rfl
  apply Run.op; (apply L_stT; rfl; rfl; rfl; rfl; rfl; rfl; (intro h; cases h); rfl; (first | exact splice_whole rfl | rfl)); rfl; rfl
  apply Run.done; refine ⟨fun h => Bool.noConfusion h, ?_⟩
  apply x3
  (repeat apply CodeT.seq)
  apply CodeT.region (fun _ => PPm)
  apply Run.op; (apply L_fldP; rfl; rfl; rfl; rfl); rfl; rfl
  apply Run.op; (apply L_ldP; rfl; rfl; rfl; (first | exact .inl rfl | exact .inr rfl); rfl); rfl; rfl
  obtain ⟨r2, hr2, H⟩ := bindS H
  apply Run.op; (apply L_call; ((apply ArgsV.cons; (apply ArgV.val; rfl; rfl)); (apply ArgsV.nil)); (exact m_laws_toIntS a0.fSeparator _ hr2); rfl; rfl; rfl); rfl; rfl
  apply Run.op; (apply L_fldP; rfl; rfl; rfl; rfl); rfl; rfl
  apply Run.op; (apply L_stT; rfl; rfl; rfl; rfl; rfl; rfl; (intro h; cases h); rfl; (first | exact splice_whole rfl | rfl)); rfl; rfl
  apply Run.done; refine ⟨fun h => Bool.noConfusion h, ?_⟩
  apply x3
  (repeat apply CodeT.seq)
  apply CodeT.region (fun _ => PPm)
  apply Run.op; (apply L_fldP; rfl; rfl; rfl; rfl); rfl; rfl
  apply Run.op; (apply L_ldP; rfl; rfl; rfl; (first | exact .inl rfl | exact .inr rfl); rfl); rfl; rfl
  apply Run.op; (apply L_fldP; rfl; rfl; rfl; rfl); rfl; rfl
  apply Run.op; (apply L_st; rfl; rfl; rfl; rfl; rfl; (intro h; cases h); rfl; (first | exact splice_whole rfl | rfl)); rfl; rfl
  apply Run.done; refine ⟨fun h => Bool.noConfusion h, ?_⟩
  apply x3
  (repeat apply CodeT.seq)
  apply CodeT.region (fun _ => PPm)
  apply Run.op; (apply L_ldPAT; rfl; rfl; rfl; (intro h; cases h); rfl; (exact io1 hio _); rfl); rfl; rfl
  apply Run.op; (apply L_stT; rfl; rfl; rfl; rfl; rfl; rfl; (intro h; cases h); rfl; (first | exact splice_whole rfl | rfl)); rfl; rfl
  apply Run.done; refine ⟨fun h => Bool.noConfusion h, ?_⟩
  apply x3
  apply CodeT.ret
  cases H
  apply x12
  exact RetIs.c1 rfl rfl rfl rfl (by intro h; cases h)
theorem m_laws_toCliqueS (a0 : (List Clique)) (r : (List Clique)) (H : laws_toCliqueS a0 = some r) : Meets Try.prog 33 [.sl a0.length (a0.flatMap encClique)] (.rw 3 r.length (r.flatMap encWClique)) true := by
  refine Meets.intro2 (N := 23) (rs := #[.tmp 2]) Try.func33 rfl rfl rfl rfl ?_
  intro Γ hio
  unfold laws_toCliqueS at H
  (repeat apply CodeT.seq)
  apply CodeT.region (fun _ => PPm)
  apply Run.op; (apply L_asg; rfl; rfl); rfl; rfl
  apply Run.done; refine ⟨fun h => Bool.noConfusion h, ?_⟩
  apply x3
  (repeat apply CodeT.seq)
  apply CodeT.region (fun _ => PPm)
  apply Run.op; (apply L_mov; rfl; rfl); rfl; rfl
  apply Run.op; (apply L_len; rfl; rfl); rfl; rfl
  obtain ⟨_u, hm1, H⟩ := bindS H
  apply Run.op; (apply Local.softO (SoftL.rep (e := fun _ => [.sc (.slice none 0 0), .sc (.slice none 0 0), .sc (.int .i64 0)]) (e' := encWClique) (z := (Clique.mk ([]) ([]) 0)) (SoftL.cons Soft.nilW (SoftL.cons Soft.nilW (SoftL.cons (Soft.refl _) SoftL.nil))) _); apply L_make2 (enc := fun _ => [.sc (.slice none 0 0), .sc (.slice none 0 0), .sc (.int .i64 0)]) (z := (Clique.mk ([]) ([]) 0)); rfl; rfl; rfl; (exact chkS hm1); rfl; decide; (intro h; cases h); (exact io1 hio _); rfl); rfl; rfl
  apply Run.op; (apply L_asg; rfl; rfl); rfl; rfl
  apply Run.done; refine ⟨fun h => Bool.noConfusion h, ?_⟩
  apply x3
  (repeat apply CodeT.seq)
  apply CodeT.region (fun _ => PPm)
  apply Run.op; (apply L_asg; rfl; rfl); rfl; rfl
  apply Run.done; refine ⟨fun h => Bool.noConfusion h, ?_⟩
  apply x3
  (repeat apply CodeT.seq)
  apply CodeT.block
  (repeat apply CodeT.seq)
  obtain ⟨d15, hd15, H⟩ := bindS H
  refine CodeT.lloop (fun s => ⟨[(0, ⟨.sl a0.length (a0.flatMap encClique), false⟩), (3, ⟨.ref 503 3 0 s.2.length, false⟩), (4, ⟨.sc (.int .i64 s.1), false⟩)], [(503, some ⟨s.2.flatMap encWClique, true, false⟩)]⟩) (fun d e E => XEnv Γ (.exit 0) ⟨[(3, ⟨.ref 503 3 0 d.length, false⟩)], [(503, some ⟨d.flatMap encWClique, true, false⟩)]⟩ e E) hd15 ?_ ?_ ?_
  refine Ent.list [(503, 7)] (io0 hio _) rfl ?_ ?_ <;> (repeat' first | exact trivial | (refine And.intro ⟨_, rfl, fun h => (by first | rfl | exact Bool.noConfusion h)⟩ ?_))
  clear H hd15
  rintro ⟨v7, v8⟩ o H
  unfold laws_toCliqueS_L1 at H
  (repeat apply CodeT.seq)
  apply CodeT.region (fun _ => PPm)
  apply Run.op; (apply L_mov; rfl; rfl); rfl; rfl
  apply Run.op; (apply L_mov; rfl; rfl); rfl; rfl
  apply Run.op; (apply L_len; rfl; rfl); rfl; rfl
  apply Run.op; (apply L_lss; rfl; rfl; rfl); rfl; rfl
  apply Run.done; refine ⟨fun h => Bool.noConfusion h, ?_⟩
  apply x3
  (repeat apply CodeT.seq)
  refine CodeT.cond rfl (fun h => ?_) (fun h => ?_)
  replace H := ifT (of_decide_eq_true h) H
  (repeat apply CodeT.seq)
  apply CodeT.skip
  apply x3
  (repeat apply CodeT.seq)
  apply CodeT.block
  (repeat apply CodeT.seq)
  apply CodeT.region (fun _ => PPm)
  apply Run.op; (apply L_mov; rfl; rfl); rfl; rfl
  apply Run.op; (apply L_mov; rfl; rfl); rfl; rfl
  apply Run.op; (apply L_mov; rfl; rfl); rfl; rfl
  apply Run.op; (apply L_mov; rfl; rfl); rfl; rfl
  obtain ⟨y9, hy9, H⟩ := bindS H
  apply Run.op; (apply L_ixS2; rfl; rfl; rfl; (exact hy9); (intro _; rfl); rfl); rfl; rfl
  apply Run.op; (apply L_ldIA; rfl; (first | exact take_whole rfl | rfl); rfl; (intro h; cases h); rfl; rfl); rfl; rfl
  obtain ⟨r10, hr10, H⟩ := bindS H
  apply Run.op; (apply L_call; ((apply ArgsV.cons; (apply ArgV.val; rfl; rfl)); (apply ArgsV.nil)); (exact m_laws_toClique y9 _ hr10); rfl; rfl; rfl); rfl; rfl
  obtain ⟨y11, hy11, H⟩ := bindS H
  apply Run.op; (apply L_ixR2; rfl; rfl; rfl; (exact hy11); rfl; rfl); rfl; rfl
  obtain ⟨v12, hv12, H⟩ := bindS H
  have hl13 := setI_lenS hv12
  apply Run.op; (apply L_stT; rfl; rfl; rfl; rfl; rfl; rfl; (intro h; cases h); (exact row_ble0 (sz := 3) (n := 3) hy11 (fun _ => rfl) (by decide)); (exact row_stL (sz := 3) hv12 hy11 (fun _ => rfl) rfl)); rfl; rfl
  apply Run.done; refine ⟨fun h => Bool.noConfusion h, ?_⟩
  apply x5
  apply x3
  refine CodeT.weak (Ent.relen (k := 3) (n' := v12.length) rfl (by first | (simp only [setI_len]; done) | (simp only [setI_len]; omega) | omega)) ?_
  apply CodeT.region (fun _ => PPm)
  apply Run.op; (apply L_mov; rfl; rfl); rfl; rfl
  apply Run.op; (apply L_add; rfl; rfl; rfl; rfl); rfl; rfl
  apply Run.op; (apply L_asg; rfl; rfl); rfl; rfl
  apply Run.done; refine ⟨fun h => Bool.noConfusion h, ?_⟩
  obtain rfl := Option.some.inj H
  refine Ev.y1 ?_
  refine Ent.list [] (io0 hio _) rfl ?_ ?_ <;> (repeat' first | exact trivial | (refine And.intro ⟨_, rfl, fun h => (by first | rfl | exact Bool.noConfusion h)⟩ ?_))
  replace H := ifF (of_decide_eq_false h) H
  (repeat apply CodeT.seq)
  apply CodeT.exit
  apply x2
  obtain rfl := Option.some.inj H
  refine Ev.y3 ?_
  refine XEnv.mk ?_
  refine Ent.list [] (io0 hio _) rfl ?_ ?_ <;> (repeat' first | exact trivial | (refine And.intro ⟨_, rfl, fun h => (by first | rfl | exact Bool.noConfusion h)⟩ ?_))
  skip
  intro e E' hX; obtain ⟨rfl, g16⟩ := XEnv.out hX
  refine x6 rfl ?_
  apply x3
  refine CodeT.weak g16 ?_
  (repeat apply CodeT.seq)
  apply CodeT.region (fun _ => PPm)
  apply Run.op; (apply L_mov; rfl; rfl); rfl; rfl
  apply Run.op; (apply L_asg; rfl; rfl); rfl; rfl
  apply Run.done; refine ⟨fun h => Bool.noConfusion h, ?_⟩
  apply x3
  apply CodeT.ret
  cases H
  apply x12
  exact RetIs.rW rfl rfl rfl (io1 hio _)
theorem m_spec_l01In (a0 : Int) (a1 : Int) (a2 : Int) (r : Bool) (H : spec_l01In a0 a1 a2 = some r) : Meets Try.prog 87 [.sc (.int .i64 a0), .sc (.int .i64 a1), .sc (.int .i64 a2)] (.sc (.bool r)) true := by
  refine Meets.intro2 (N := 15) (rs := #[.tmp 6]) Try.func87 rfl rfl rfl rfl ?_
  intro Γ hio
  unfold spec_l01In at H
  (repeat apply CodeT.seq)
  apply CodeT.region (fun _ => PPm)
  apply Run.op; (apply L_asg; rfl; rfl); rfl; rfl
  apply Run.done; refine ⟨fun h => Bool.noConfusion h, ?_⟩
  apply x3
  (repeat apply CodeT.seq)
  apply CodeT.region (fun _ => PPm)
  apply Run.op; (apply L_mov; rfl; rfl); rfl; rfl
  apply Run.op; (apply L_mov; rfl; rfl); rfl; rfl
  apply R_dec; (apply L_geq; rfl; rfl; rfl); rfl
  intro h; replace H := ifT h H
  apply Run.op; (apply L_mov; rfl; rfl); rfl; rfl
  apply Run.op; (apply L_mov; rfl; rfl); rfl; rfl
  apply Run.op; (apply L_mov; rfl; rfl); rfl; rfl
  apply Run.op; (apply L_leq; rfl; rfl; rfl); rfl; rfl
  apply Run.op; (apply L_pickT; rfl; rfl; rfl); rfl; rfl
  apply Run.op; (apply L_asg; rfl; rfl); rfl; rfl
  apply Run.done; refine ⟨fun h => Bool.noConfusion h, ?_⟩
  apply x3
  apply CodeT.ret
  cases H
  apply x12
  exact RetIs.sc1 rfl
  intro h; replace H := ifF h H
  apply Run.op; (apply L_mov; rfl; rfl); rfl; rfl
  apply Run.skip; rfl
  apply Run.skip; rfl
  apply Run.skip; rfl
  apply Run.op; (apply L_pickF; rfl; rfl; rfl); rfl; rfl
  apply Run.op; (apply L_asg; rfl; rfl); rfl; rfl
  apply Run.done; refine ⟨fun h => Bool.noConfusion h, ?_⟩
  apply x3
  apply CodeT.ret
  cases H
  apply x12
  exact RetIs.sc1 rfl
theorem m_spec_l07Put (a0 : (List Int)) (a1 : Int) (r : (List Int)) (H : spec_l07Put a0 a1 = some r) : Meets Try.prog 129 [.sl a0.length (a0.flatMap (encI .i64)), .sc (.int .i64 a1)] (.sl r.length (r.flatMap (encI .i64))) false := by
  refine Meets.intro2 (N := 48) (rs := #[.tmp 4]) Try.func129 rfl rfl rfl rfl ?_
  intro Γ hio
  unfold spec_l07Put at H
  (repeat apply CodeT.seq)
  apply CodeT.region (fun _ => PPm)
  apply Run.op; (apply L_asg; rfl; rfl); rfl; rfl
  apply Run.done; refine ⟨fun h => Bool.noConfusion h, ?_⟩
  apply x3
  (repeat apply CodeT.seq)
  apply CodeT.region (fun _ => PPm)
  apply Run.op; (apply L_asg; rfl; rfl); rfl; rfl
  apply Run.done; refine ⟨fun h => Bool.noConfusion h, ?_⟩
  apply x3
  (repeat apply CodeT.seq)
  apply CodeT.block
  (repeat apply CodeT.seq)
  obtain ⟨d11, hd11, H⟩ := bindS H
  refine CodeT.lloop (fun s => ⟨[(0, ⟨.sl a0.length (a0.flatMap (encI .i64)), false⟩), (1, ⟨.sc (.int .i64 a1), false⟩), (5, ⟨.sc (.int .i64 s), false⟩)], []⟩) (fun d e E => XEnv Γ (.exit 0) ⟨[(0, ⟨.sl a0.length (a0.flatMap (encI .i64)), false⟩), (1, ⟨.sc (.int .i64 a1), false⟩), (5, ⟨.sc (.int .i64 d), false⟩)], []⟩ e E) hd11 ?_ ?_ ?_
  refine Ent.list [] (io0 hio _) rfl ?_ ?_ <;> (repeat' first | exact trivial | (refine And.intro ⟨_, rfl, fun h => (by first | rfl | exact Bool.noConfusion h)⟩ ?_))
  clear H hd11
  rintro v5 o H
  unfold spec_l07Put_L1 at H
  (repeat apply CodeT.seq)
  obtain ⟨d8, hd8, H⟩ := bindS H
  refine CodeT.lcut (x := d8) (fun d e E => XEnv Γ .normal ⟨[(0, ⟨.sl a0.length (a0.flatMap (encI .i64)), false⟩), (1, ⟨.sc (.int .i64 a1), false⟩), (5, ⟨.sc (.int .i64 v5), false⟩), (18, ⟨.sc (.bool d), false⟩)], []⟩ e E) ?_ ?_
  clear H; have H := hd8; clear hd8
  apply CodeT.region (fun _ => PPm)
  apply Run.op; (apply L_mov; rfl; rfl); rfl; rfl
  apply Run.op; (apply L_mov; rfl; rfl); rfl; rfl
  apply Run.op; (apply L_len; rfl; rfl); rfl; rfl
  apply R_dec; (apply L_lss; rfl; rfl; rfl); rfl
  intro h; replace H := ifT h H
  apply Run.op; (apply L_mov; rfl; rfl); rfl; rfl
  apply Run.op; (apply L_mov; rfl; rfl); rfl; rfl
  apply Run.op; (apply L_mov; rfl; rfl); rfl; rfl
  obtain ⟨y6, hy6, H⟩ := bindS H
  apply Run.op; (apply L_ixS2; rfl; rfl; rfl; (exact hy6); (intro _; rfl); rfl); rfl; rfl
  apply Run.op; (apply L_ldI; rfl; rfl; rfl; rfl); rfl; rfl
  apply Run.op; (apply L_mov; rfl; rfl); rfl; rfl
  apply Run.op; (apply L_lss; rfl; rfl; rfl); rfl; rfl
  apply Run.op; (apply L_pickT; rfl; rfl; rfl); rfl; rfl
  apply Run.done; refine ⟨fun h => Bool.noConfusion h, ?_⟩
  obtain rfl := Option.some.inj H
  refine Ev.y4 ?_
  refine XEnv.mk ?_
  refine Ent.list [] (io0 hio _) rfl ?_ ?_ <;> (repeat' first | exact trivial | (refine And.intro ⟨_, rfl, fun h => (by first | rfl | exact Bool.noConfusion h)⟩ ?_))
  intro h; replace H := ifF h H
  apply Run.op; (apply L_mov; rfl; rfl); rfl; rfl
  apply Run.skip; rfl
  apply Run.skip; rfl
  apply Run.skip; rfl
  apply Run.skip; rfl
  apply Run.skip; rfl
  apply Run.skip; rfl
  apply Run.op; (apply L_pickF; rfl; rfl; rfl); rfl; rfl
  apply Run.done; refine ⟨fun h => Bool.noConfusion h, ?_⟩
  obtain rfl := Option.some.inj H
  refine Ev.y4 ?_
  refine XEnv.mk ?_
  refine Ent.list [] (io0 hio _) rfl ?_ ?_ <;> (repeat' first | exact trivial | (refine And.intro ⟨_, rfl, fun h => (by first | rfl | exact Bool.noConfusion h)⟩ ?_))
  intro e E' hX; obtain ⟨rfl, g9⟩ := XEnv.out hX
  apply x3
  refine CodeT.weak g9 ?_
  (repeat apply CodeT.seq)
  refine CodeT.cond rfl (fun h => ?_) (fun h => ?_)
  replace H := ifTb h H
  (repeat apply CodeT.seq)
  apply CodeT.skip
  apply x3
  apply CodeT.block
  (repeat apply CodeT.seq)
  apply CodeT.region (fun _ => PPm)
  apply Run.op; (apply L_mov; rfl; rfl); rfl; rfl
  apply Run.op; (apply L_add; rfl; rfl; rfl; rfl); rfl; rfl
  apply Run.op; (apply L_asg; rfl; rfl); rfl; rfl
  apply Run.done; refine ⟨fun h => Bool.noConfusion h, ?_⟩
  apply x5
  obtain rfl := Option.some.inj H
  refine Ev.y1 ?_
  refine Ent.list [] (io0 hio _) rfl ?_ ?_ <;> (repeat' first | exact trivial | (refine And.intro ⟨_, rfl, fun h => (by first | rfl | exact Bool.noConfusion h)⟩ ?_))
  replace H := ifFb h H
  (repeat apply CodeT.seq)
  apply CodeT.exit
  apply x2
  obtain rfl := Option.some.inj H
  refine Ev.y3 ?_
  refine XEnv.mk ?_
  refine Ent.list [] (io0 hio _) rfl ?_ ?_ <;> (repeat' first | exact trivial | (refine And.intro ⟨_, rfl, fun h => (by first | rfl | exact Bool.noConfusion h)⟩ ?_))
  skip
  intro e E' hX; obtain ⟨rfl, g12⟩ := XEnv.out hX
  refine x6 rfl ?_
  apply x3
  refine CodeT.weak g12 ?_
  (repeat apply CodeT.seq)
  obtain ⟨d15, hd15, H⟩ := bindS H
  refine CodeT.lcut (x := d15) (fun d e E => XEnv Γ .normal ⟨[(0, ⟨.sl a0.length (a0.flatMap (encI .i64)), false⟩), (1, ⟨.sc (.int .i64 a1), false⟩), (5, ⟨.sc (.int .i64 d11), false⟩), (32, ⟨.sc (.bool d), false⟩)], []⟩ e E) ?_ ?_
  clear H; have H := hd15; clear hd15
  apply CodeT.region (fun _ => PPm)
  apply Run.op; (apply L_mov; rfl; rfl); rfl; rfl
  apply Run.op; (apply L_mov; rfl; rfl); rfl; rfl
  apply Run.op; (apply L_len; rfl; rfl); rfl; rfl
  apply R_dec; (apply L_lss; rfl; rfl; rfl); rfl
  intro h; replace H := ifT h H
  apply Run.op; (apply L_mov; rfl; rfl); rfl; rfl
  apply Run.op; (apply L_mov; rfl; rfl); rfl; rfl
  apply Run.op; (apply L_mov; rfl; rfl); rfl; rfl
  obtain ⟨y13, hy13, H⟩ := bindS H
  apply Run.op; (apply L_ixS2; rfl; rfl; rfl; (exact hy13); (intro _; rfl); rfl); rfl; rfl
  apply Run.op; (apply L_ldI; rfl; rfl; rfl; rfl); rfl; rfl
  apply Run.op; (apply L_mov; rfl; rfl); rfl; rfl
  apply Run.op; (apply L_eql; rfl; rfl; rfl); rfl; rfl
  apply Run.op; (apply L_pickT; rfl; rfl; rfl); rfl; rfl
  apply Run.done; refine ⟨fun h => Bool.noConfusion h, ?_⟩
  obtain rfl := Option.some.inj H
  refine Ev.y4 ?_
  refine XEnv.mk ?_
  refine Ent.list [] (io0 hio _) rfl ?_ ?_ <;> (repeat' first | exact trivial | (refine And.intro ⟨_, rfl, fun h => (by first | rfl | exact Bool.noConfusion h)⟩ ?_))
  intro h; replace H := ifF h H
  apply Run.op; (apply L_mov; rfl; rfl); rfl; rfl
  apply Run.skip; rfl
  apply Run.skip; rfl
  apply Run.skip; rfl
  apply Run.skip; rfl
  apply Run.skip; rfl
  apply Run.skip; rfl
  apply Run.op; (apply L_pickF; rfl; rfl; rfl); rfl; rfl
  apply Run.done; refine ⟨fun h => Bool.noConfusion h, ?_⟩
  obtain rfl := Option.some.inj H
  refine Ev.y4 ?_
  refine XEnv.mk ?_
  refine Ent.list [] (io0 hio _) rfl ?_ ?_ <;> (repeat' first | exact trivial | (refine And.intro ⟨_, rfl, fun h => (by first | rfl | exact Bool.noConfusion h)⟩ ?_))
  intro e E' hX; obtain ⟨rfl, g16⟩ := XEnv.out hX
  apply x3
  refine CodeT.weak g16 ?_
  (repeat apply CodeT.seq)
  refine CodeT.cond rfl (fun h => ?_) (fun h => ?_)
  replace H := ifTb h H
  (repeat apply CodeT.seq)
  apply CodeT.region (fun _ => PPm)
  apply Run.op; (apply L_mov; rfl; rfl); rfl; rfl
  apply Run.op; (apply L_asg; rfl; rfl); rfl; rfl
  apply Run.done; refine ⟨fun h => Bool.noConfusion h, ?_⟩
  apply x3
  apply CodeT.ret
  apply x1
  cases H
  apply x12
  exact RetIs.one (Res1.val rfl rfl) (fun h => by cases h)
  replace H := ifFb h H
  (repeat apply CodeT.seq)
  apply CodeT.skip
  apply x3
  (repeat apply CodeT.seq)
  apply CodeT.region (fun _ => PPm)
  apply Run.op; (apply L_bs0; (exact io1 hio _); rfl); rfl; rfl
  apply Run.op; (apply L_mov; rfl; rfl); rfl; rfl
  apply Run.op; (apply L_mov; rfl; rfl); rfl; rfl
  obtain ⟨y17, hy17, H⟩ := bindS H
  apply Run.op; (apply L_slS; rfl; rfl; rfl; rfl; (exact hy17); (intro _; rfl); rfl); rfl; rfl
  obtain ⟨_u, ha18, H⟩ := bindS H
  obtain ⟨v19, hv19, H⟩ := bindS H
  apply Run.op; (apply L_app true; rfl; rfl; rfl; (exact flat_len (l := ([] : List Int)) (enc := (encI .i64)) (fun _ => rfl)); (exact flat_len (l := y17) (enc := (encI .i64)) (fun _ => rfl)); (exact chkS ha18); (exact app63 (by decide) (chkS ha18)); (exact ⟨io1 hio _, io1 hio _⟩); (intro _; exact allSc_flat (l := y17) (enc := (encI .i64)) (fun _ => rfl)); (exact flat_catL (l := ([] : List Int)) (r := y17) (enc := (encI .i64)) hv19); rfl); rfl; rfl
  apply Run.op; (apply L_asg; rfl; rfl); rfl; rfl
  apply Run.done; refine ⟨fun h => Bool.noConfusion h, ?_⟩
  apply x3
  (repeat apply CodeT.seq)
  apply CodeT.region (fun _ => PPm)
  apply Run.op; (apply L_mov; rfl; rfl); rfl; rfl
  apply Run.op; (apply L_mov; rfl; rfl); rfl; rfl
  apply Run.op; (apply L_bs1; rfl; rfl; rfl; rfl; rfl; rfl; rfl; rfl); rfl; rfl
  obtain ⟨_u, ha20, H⟩ := bindS H
  obtain ⟨v21, hv21, H⟩ := bindS H
  apply Run.op; (apply L_app true; rfl; rfl; rfl; (exact flat_len (l := v19) (enc := (encI .i64)) (fun _ => rfl)); rfl; (exact chkS ha20); (exact app63 (by decide) (chkS ha20)); (exact ⟨io1 hio _, io1 hio _⟩); (intro _; rfl); (exact flat_snocL (l := v19) (y := a1) (enc := (encI .i64)) hv21); rfl); rfl; rfl
  apply Run.op; (apply L_asg; rfl; rfl); rfl; rfl
  apply Run.done; refine ⟨fun h => Bool.noConfusion h, ?_⟩
  apply x3
  (repeat apply CodeT.seq)
  apply CodeT.region (fun _ => PPm)
  apply Run.op; (apply L_mov; rfl; rfl); rfl; rfl
  apply Run.op; (apply L_mov; rfl; rfl); rfl; rfl
  apply Run.op; (apply L_mov; rfl; rfl); rfl; rfl
  obtain ⟨y22, hy22, H⟩ := bindS H
  apply Run.op; (apply L_slS; rfl; rfl; rfl; rfl; (exact hy22); (intro _; rfl); rfl); rfl; rfl
  obtain ⟨_u, ha23, H⟩ := bindS H
  obtain ⟨v24, hv24, H⟩ := bindS H
  apply Run.op; (apply L_app true; rfl; rfl; rfl; (exact flat_len (l := v21) (enc := (encI .i64)) (fun _ => rfl)); (exact flat_len (l := y22) (enc := (encI .i64)) (fun _ => rfl)); (exact chkS ha23); (exact app63 (by decide) (chkS ha23)); (exact ⟨io1 hio _, io1 hio _⟩); (intro _; exact allSc_flat (l := y22) (enc := (encI .i64)) (fun _ => rfl)); (exact flat_catL (l := v21) (r := y22) (enc := (encI .i64)) hv24); rfl); rfl; rfl
  apply Run.op; (apply L_asg; rfl; rfl); rfl; rfl
  apply Run.done; refine ⟨fun h => Bool.noConfusion h, ?_⟩
  apply x3
  apply CodeT.ret
  cases H
  apply x12
  exact RetIs.one (Res1.ref rfl rfl (io1 hio _)) (fun h => by cases h)
theorem m_spec_l14Nodes (a0 : Clique) (r : (List Int)) (H : spec_l14Nodes a0 = some r) : Meets Try.prog 84 [.agg (encClique a0)] (.sl r.length (r.flatMap (encI .i64))) false := by
  refine Meets.intro2 (N := 32) (rs := #[.tmp 2]) Try.func84 rfl rfl rfl rfl ?_
  intro Γ hio
  unfold spec_l14Nodes at H
  (repeat apply CodeT.seq)
  apply CodeT.region (fun _ => PPm)
  apply Run.op; (apply L_box false; rfl; rfl; rfl; (exact io1 hio _); rfl); rfl; rfl
  apply Run.op; (apply L_asg; rfl; rfl); rfl; rfl
  apply Run.done; refine ⟨fun h => Bool.noConfusion h, ?_⟩
  apply x3
  (repeat apply CodeT.seq)
  apply CodeT.region (fun _ => PPm)
  apply Run.op; (apply L_bs0; (exact io1 hio _); rfl); rfl; rfl
  apply Run.op; (apply L_asg; rfl; rfl); rfl; rfl
  apply Run.done; refine ⟨fun h => Bool.noConfusion h, ?_⟩
  apply x3
  (repeat apply CodeT.seq)
  apply CodeT.region (fun _ => PPm)
  apply Run.op; (apply L_fldP; rfl; rfl; rfl; rfl); rfl; rfl
  apply Run.op; (apply L_ldP; rfl; rfl; rfl; (first | exact .inl rfl | exact .inr rfl); rfl); rfl; rfl
  apply Run.op; (apply L_len; rfl; rfl); rfl; rfl
  apply Run.op; (apply L_mov; rfl; rfl); rfl; rfl
  apply Run.done; refine ⟨fun h => Bool.noConfusion h, ?_⟩
  apply x3
  (repeat apply CodeT.seq)
  apply CodeT.block
  (repeat apply CodeT.seq)
  obtain ⟨d8, hd8, H⟩ := bindS H
  refine CodeT.lloop (fun s => ⟨[(1, ⟨.ptr 1 0, false⟩), (3, ⟨.sl s.1.length (s.1.flatMap (encI .i64)), false⟩), (10, ⟨.sl a0.fFrontal.length (a0.fFrontal.flatMap (encI .i64)), false⟩), (11, ⟨.sc (.int .i64 (a0.fFrontal.length : Int)), false⟩), (12, ⟨.sc (.int .i64 s.2), false⟩)], [(1, some ⟨(encClique a0), false, false⟩)]⟩) (fun d e E => XEnv Γ (.exit 0) ⟨[(1, ⟨.ptr 1 0, false⟩), (3, ⟨.sl d.length (d.flatMap (encI .i64)), false⟩)], [(1, some ⟨(encClique a0), false, false⟩)]⟩ e E) hd8 ?_ ?_ ?_
  refine Ent.trans (Ent.freeze (k := 3) rfl rfl (io1 hio _) rfl) ?_
  refine Ent.list [] (io0 hio _) rfl ?_ ?_ <;> (repeat' first | exact trivial | (refine And.intro ⟨_, rfl, fun h => (by first | rfl | exact Bool.noConfusion h)⟩ ?_))
  clear H hd8
  rintro ⟨v3, v4⟩ o H
  unfold spec_l14Nodes_L1 at H
  (repeat apply CodeT.seq)
  apply CodeT.region (fun _ => PPm)
  apply Run.op; (apply L_lss; rfl; rfl; rfl); rfl; rfl
  apply Run.done; refine ⟨fun h => Bool.noConfusion h, ?_⟩
  apply x3
  (repeat apply CodeT.seq)
  refine CodeT.cond rfl (fun h => ?_) (fun h => ?_)
  replace H := ifT (of_decide_eq_true h) H
  (repeat apply CodeT.seq)
  apply CodeT.skip
  apply x3
  (repeat apply CodeT.seq)
  apply CodeT.block
  (repeat apply CodeT.seq)
  apply CodeT.region (fun _ => PPm)
  obtain ⟨y5, hy5, H⟩ := bindS H
  apply Run.op; (apply L_ixS2; rfl; rfl; rfl; (exact hy5); (intro _; rfl); rfl); rfl; rfl
  apply Run.op; (apply L_ldI; rfl; rfl; rfl; rfl); rfl; rfl
  apply Run.op; (apply L_asg; rfl; rfl); rfl; rfl
  apply Run.done; refine ⟨fun h => Bool.noConfusion h, ?_⟩
  apply x3
  apply CodeT.region (fun _ => PPm)
  apply Run.op; (apply L_mov; rfl; rfl); rfl; rfl
  apply Run.op; (apply L_mov; rfl; rfl); rfl; rfl
  obtain ⟨r6, hr6, H⟩ := bindS H
  apply Run.op; (apply L_call; ((apply ArgsV.cons; (apply ArgV.val; rfl; rfl)); (apply ArgsV.cons; (apply ArgV.val; rfl; rfl)); (apply ArgsV.nil)); (exact m_spec_l07Put v3 y5 _ hr6); rfl; rfl; rfl); rfl; rfl
  apply Run.op; (apply L_asg; rfl; rfl); rfl; rfl
  apply Run.done; refine ⟨fun h => Bool.noConfusion h, ?_⟩
  apply x5
  apply x3
  apply CodeT.region (fun _ => PPm)
  apply Run.op; (apply L_add; rfl; rfl; rfl; rfl); rfl; rfl
  apply Run.op; (apply L_mov; rfl; rfl); rfl; rfl
  apply Run.done; refine ⟨fun h => Bool.noConfusion h, ?_⟩
  obtain rfl := Option.some.inj H
  refine Ev.y1 ?_
  refine Ent.list [] (io0 hio _) rfl ?_ ?_ <;> (repeat' first | exact trivial | (refine And.intro ⟨_, rfl, fun h => (by first | rfl | exact Bool.noConfusion h)⟩ ?_))
  replace H := ifF (of_decide_eq_false h) H
  (repeat apply CodeT.seq)
  apply CodeT.exit
  apply x2
  obtain rfl := Option.some.inj H
  refine Ev.y3 ?_
  refine XEnv.mk ?_
  refine Ent.list [] (io0 hio _) rfl ?_ ?_ <;> (repeat' first | exact trivial | (refine And.intro ⟨_, rfl, fun h => (by first | rfl | exact Bool.noConfusion h)⟩ ?_))
  skip
  intro e E' hX; obtain ⟨rfl, g9⟩ := XEnv.out hX
  refine x6 rfl ?_
  apply x3
  refine CodeT.weak g9 ?_
  (repeat apply CodeT.seq)
  apply CodeT.region (fun _ => PPm)
  apply Run.op; (apply L_fldP; rfl; rfl; rfl; rfl); rfl; rfl
  apply Run.op; (apply L_ldP; rfl; rfl; rfl; (first | exact .inl rfl | exact .inr rfl); rfl); rfl; rfl
  apply Run.op; (apply L_len; rfl; rfl); rfl; rfl
  apply Run.op; (apply L_mov; rfl; rfl); rfl; rfl
  apply Run.done; refine ⟨fun h => Bool.noConfusion h, ?_⟩
  apply x3
  (repeat apply CodeT.seq)
  apply CodeT.block
  (repeat apply CodeT.seq)
  obtain ⟨d17, hd17, H⟩ := bindS H
  refine CodeT.lloop (fun s => ⟨[(3, ⟨.sl s.1.length (s.1.flatMap (encI .i64)), false⟩), (21, ⟨.sl a0.fSeparator.length (a0.fSeparator.flatMap (encI .i64)), false⟩), (22, ⟨.sc (.int .i64 (a0.fSeparator.length : Int)), false⟩), (23, ⟨.sc (.int .i64 s.2), false⟩)], []⟩) (fun d e E => XEnv Γ (.exit 2) ⟨[(3, ⟨.sl d.length (d.flatMap (encI .i64)), false⟩)], []⟩ e E) hd17 ?_ ?_ ?_
  refine Ent.list [] (io0 hio _) rfl ?_ ?_ <;> (repeat' first | exact trivial | (refine And.intro ⟨_, rfl, fun h => (by first | rfl | exact Bool.noConfusion h)⟩ ?_))
  clear H hd17
  rintro ⟨v12, v13⟩ o H
  unfold spec_l14Nodes_L2 at H
  (repeat apply CodeT.seq)
  apply CodeT.region (fun _ => PPm)
  apply Run.op; (apply L_lss; rfl; rfl; rfl); rfl; rfl
  apply Run.done; refine ⟨fun h => Bool.noConfusion h, ?_⟩
  apply x3
  (repeat apply CodeT.seq)
  refine CodeT.cond rfl (fun h => ?_) (fun h => ?_)
  replace H := ifT (of_decide_eq_true h) H
  (repeat apply CodeT.seq)
  apply CodeT.skip
  apply x3
  (repeat apply CodeT.seq)
  apply CodeT.block
  (repeat apply CodeT.seq)
  apply CodeT.region (fun _ => PPm)
  obtain ⟨y14, hy14, H⟩ := bindS H
  apply Run.op; (apply L_ixS2; rfl; rfl; rfl; (exact hy14); (intro _; rfl); rfl); rfl; rfl
  apply Run.op; (apply L_ldI; rfl; rfl; rfl; rfl); rfl; rfl
  apply Run.op; (apply L_asg; rfl; rfl); rfl; rfl
  apply Run.done; refine ⟨fun h => Bool.noConfusion h, ?_⟩
  apply x3
  apply CodeT.region (fun _ => PPm)
  apply Run.op; (apply L_mov; rfl; rfl); rfl; rfl
  apply Run.op; (apply L_mov; rfl; rfl); rfl; rfl
  obtain ⟨r15, hr15, H⟩ := bindS H
  apply Run.op; (apply L_call; ((apply ArgsV.cons; (apply ArgV.val; rfl; rfl)); (apply ArgsV.cons; (apply ArgV.val; rfl; rfl)); (apply ArgsV.nil)); (exact m_spec_l07Put v12 y14 _ hr15); rfl; rfl; rfl); rfl; rfl
  apply Run.op; (apply L_asg; rfl; rfl); rfl; rfl
  apply Run.done; refine ⟨fun h => Bool.noConfusion h, ?_⟩
  apply x5
  apply x3
  apply CodeT.region (fun _ => PPm)
  apply Run.op; (apply L_add; rfl; rfl; rfl; rfl); rfl; rfl
  apply Run.op; (apply L_mov; rfl; rfl); rfl; rfl
  apply Run.done; refine ⟨fun h => Bool.noConfusion h, ?_⟩
  obtain rfl := Option.some.inj H
  refine Ev.y1 ?_
  refine Ent.list [] (io0 hio _) rfl ?_ ?_ <;> (repeat' first | exact trivial | (refine And.intro ⟨_, rfl, fun h => (by first | rfl | exact Bool.noConfusion h)⟩ ?_))
  replace H := ifF (of_decide_eq_false h) H
  (repeat apply CodeT.seq)
  apply CodeT.exit
  apply x2
  obtain rfl := Option.some.inj H
  refine Ev.y3 ?_
  refine XEnv.mk ?_
  refine Ent.list [] (io0 hio _) rfl ?_ ?_ <;> (repeat' first | exact trivial | (refine And.intro ⟨_, rfl, fun h => (by first | rfl | exact Bool.noConfusion h)⟩ ?_))
  skip
  intro e E' hX; obtain ⟨rfl, g18⟩ := XEnv.out hX
  refine x6 rfl ?_
  apply x3
  refine CodeT.weak g18 ?_
  (repeat apply CodeT.seq)
  apply CodeT.region (fun _ => PPm)
  apply Run.op; (apply L_mov; rfl; rfl); rfl; rfl
  apply Run.op; (apply L_asg; rfl; rfl); rfl; rfl
  apply Run.done; refine ⟨fun h => Bool.noConfusion h, ?_⟩
  apply x3
  apply CodeT.ret
  cases H
  apply x12
  exact RetIs.one (Res1.val rfl rfl) (fun h => by cases h)
theorem m_spec_CliqueNodes (a0 : (List Clique)) (a1 : Int) (r : (List Int)) (H : spec_CliqueNodes a0 a1 = some r) : Meets Try.prog 36 [.sl a0.length (a0.flatMap encClique), .sc (.int .i64 a1)] (.sl r.length (r.flatMap (encI .i64))) false := by
  refine Meets.intro2 (N := 16) (rs := #[.tmp 4]) Try.func36 rfl rfl rfl rfl ?_
  intro Γ hio
  unfold spec_CliqueNodes at H
  (repeat apply CodeT.seq)
  apply CodeT.region (fun _ => PPm)
  apply Run.op; (apply L_asg; rfl; rfl); rfl; rfl
  apply Run.done; refine ⟨fun h => Bool.noConfusion h, ?_⟩
  apply x3
  (repeat apply CodeT.seq)
  apply CodeT.region (fun _ => PPm)
  apply Run.op; (apply L_mov; rfl; rfl); rfl; rfl
  apply Run.op; (apply L_mov; rfl; rfl); rfl; rfl
  apply Run.op; (apply L_len; rfl; rfl); rfl; rfl
  obtain ⟨v1, hv1, H⟩ := bindS H
  apply Run.op; (apply L_sub; rfl; rfl; (exact letS hv1); rfl); rfl; rfl
  obtain ⟨r2, hr2, H⟩ := bindS H
  apply Run.op; (apply L_call; ((apply ArgsV.cons; (apply ArgV.val; rfl; rfl)); (apply ArgsV.cons; (apply ArgV.val; rfl; rfl)); (apply ArgsV.cons; (apply ArgV.val; rfl; rfl)); (apply ArgsV.nil)); (exact m_spec_l01In a1 0 v1 _ hr2); rfl; rfl; rfl); rfl; rfl
  apply Run.op; (apply L_not; rfl; rfl); rfl; rfl
  apply Run.done; refine ⟨fun h => Bool.noConfusion h, ?_⟩
  apply x3
  (repeat apply CodeT.seq)
  refine CodeT.cond rfl (fun h => ?_) (fun h => ?_)
  replace H := ifFb (notT h) H
  (repeat apply CodeT.seq)
  apply CodeT.region (fun _ => PPm)
  apply Run.op; (apply L_asg; rfl; rfl); rfl; rfl
  apply Run.done; refine ⟨fun h => Bool.noConfusion h, ?_⟩
  apply x3
  apply CodeT.ret
  apply x1
  cases H
  apply x12
  exact RetIs.one (Res1.nil rfl) (fun _ h => by cases h)
  replace H := ifTb (notF h) H
  (repeat apply CodeT.seq)
  apply CodeT.skip
  apply x3
  (repeat apply CodeT.seq)
  apply CodeT.region (fun _ => PPm)
  apply Run.op; (apply L_mov; rfl; rfl); rfl; rfl
  apply Run.op; (apply L_mov; rfl; rfl); rfl; rfl
  obtain ⟨y3, hy3, H⟩ := bindS H
  apply Run.op; (apply L_ixS2; rfl; rfl; rfl; (exact hy3); (intro _; rfl); rfl); rfl; rfl
  apply Run.op; (apply L_ldIA; rfl; (first | exact take_whole rfl | rfl); rfl; (intro h; cases h); rfl; rfl); rfl; rfl
  obtain ⟨r4, hr4, H⟩ := bindS H
  apply Run.op; (apply L_call; ((apply ArgsV.cons; (apply ArgV.val; rfl; rfl)); (apply ArgsV.nil)); (exact m_spec_l14Nodes y3 _ hr4); rfl; rfl; rfl); rfl; rfl
  apply Run.op; (apply L_asg; rfl; rfl); rfl; rfl
  apply Run.done; refine ⟨fun h => Bool.noConfusion h, ?_⟩
  apply x3
  apply CodeT.ret
  cases H
  apply x12
  exact RetIs.one (Res1.val rfl rfl) (fun h => by cases h)
theorem m_impl_copyInts (a0 : (List Int)) (r : (List Int)) (H : impl_copyInts a0 = some r) : Meets Try.prog 88 [.sl a0.length (a0.flatMap (encI .i64))] (.rw 1 r.length (r.flatMap (encI .i64))) true := by
  refine Meets.intro2 (N := 6) (rs := #[.tmp 2]) Try.func88 rfl rfl rfl rfl ?_
  intro Γ hio
  unfold impl_copyInts at H
  (repeat apply CodeT.seq)
  apply CodeT.region (fun _ => PPm)
  apply Run.op; (apply L_asg; rfl; rfl); rfl; rfl
  apply Run.done; refine ⟨fun h => Bool.noConfusion h, ?_⟩
  apply x3
  (repeat apply CodeT.seq)
  apply CodeT.region (fun _ => PPm)
  apply Run.op; (apply L_bs0; (exact io1 hio _); rfl); rfl; rfl
  apply Run.op; (apply L_mov; rfl; rfl); rfl; rfl
  obtain ⟨_u, ha1, H⟩ := bindS H
  obtain ⟨v2, hv2, H⟩ := bindS H
  apply Run.op; (apply L_app true; rfl; rfl; rfl; (exact flat_len (l := ([] : List Int)) (enc := (encI .i64)) (fun _ => rfl)); (exact flat_len (l := a0) (enc := (encI .i64)) (fun _ => rfl)); (exact chkS ha1); (exact app63 (by decide) (chkS ha1)); (exact ⟨io1 hio _, io1 hio _⟩); (intro _; exact allSc_flat (l := a0) (enc := (encI .i64)) (fun _ => rfl)); (exact flat_catL (l := ([] : List Int)) (r := a0) (enc := (encI .i64)) hv2); rfl); rfl; rfl
  apply Run.op; (apply L_asg; rfl; rfl); rfl; rfl
  apply Run.done; refine ⟨fun h => Bool.noConfusion h, ?_⟩
  apply x3
  apply CodeT.ret
  cases H
  apply x12
  exact RetIs.rW rfl rfl rfl (io1 hio _)
theorem m_impl_CliqueNodes (a0 : (List Clique)) (a1 : Int) (r : (List Int)) (H : impl_CliqueNodes a0 a1 = some r) : Meets Try.prog 37 [.sl a0.length (a0.flatMap encClique), .sc (.int .i64 a1)] (.rw 1 r.length (r.flatMap (encI .i64))) true := by
  refine Meets.intro2 (N := 56) (rs := #[.tmp 4]) Try.func37 rfl rfl rfl rfl ?_
  intro Γ hio
  unfold impl_CliqueNodes at H
  (repeat apply CodeT.seq)
  apply CodeT.region (fun _ => PPm)
  apply Run.op; (apply L_asg; rfl; rfl); rfl; rfl
  apply Run.done; refine ⟨fun h => Bool.noConfusion h, ?_⟩
  apply x3
  (repeat apply CodeT.seq)
  obtain ⟨d2, hd2, H⟩ := bindS H
  refine CodeT.lcut (x := d2) (fun d e E => XEnv Γ .normal ⟨[(0, ⟨.sl a0.length (a0.flatMap encClique), false⟩), (1, ⟨.sc (.int .i64 a1), false⟩), (16, ⟨.sc (.bool d), false⟩)], []⟩ e E) ?_ ?_
  clear H; have H := hd2; clear hd2
  apply CodeT.region (fun _ => PPm)
  apply Run.op; (apply L_mov; rfl; rfl); rfl; rfl
  apply R_dec; (apply L_lss; rfl; rfl; rfl); rfl
  intro h; replace H := ifT h H
  apply Run.op; (apply L_mov; rfl; rfl); rfl; rfl
  apply Run.skip; rfl
  apply Run.skip; rfl
  apply Run.skip; rfl
  apply Run.skip; rfl
  apply Run.op; (apply L_pickT; rfl; rfl; rfl); rfl; rfl
  apply Run.done; refine ⟨fun h => Bool.noConfusion h, ?_⟩
  obtain rfl := Option.some.inj H
  refine Ev.y4 ?_
  refine XEnv.mk ?_
  refine Ent.list [] (io0 hio _) rfl ?_ ?_ <;> (repeat' first | exact trivial | (refine And.intro ⟨_, rfl, fun h => (by first | rfl | exact Bool.noConfusion h)⟩ ?_))
  intro h; replace H := ifF h H
  apply Run.op; (apply L_mov; rfl; rfl); rfl; rfl
  apply Run.op; (apply L_mov; rfl; rfl); rfl; rfl
  apply Run.op; (apply L_mov; rfl; rfl); rfl; rfl
  apply Run.op; (apply L_len; rfl; rfl); rfl; rfl
  apply Run.op; (apply L_geq; rfl; rfl; rfl); rfl; rfl
  apply Run.op; (apply L_pickF; rfl; rfl; rfl); rfl; rfl
  apply Run.done; refine ⟨fun h => Bool.noConfusion h, ?_⟩
  obtain rfl := Option.some.inj H
  refine Ev.y4 ?_
  refine XEnv.mk ?_
  refine Ent.list [] (io0 hio _) rfl ?_ ?_ <;> (repeat' first | exact trivial | (refine And.intro ⟨_, rfl, fun h => (by first | rfl | exact Bool.noConfusion h)⟩ ?_))
  intro e E' hX; obtain ⟨rfl, g3⟩ := XEnv.out hX
  apply x3
  refine CodeT.weak g3 ?_
  (repeat apply CodeT.seq)
  refine CodeT.cond rfl (fun h => ?_) (fun h => ?_)
  replace H := ifTb h H
  (repeat apply CodeT.seq)
  apply CodeT.region (fun _ => PPm)
  apply Run.op; (apply L_asg; rfl; rfl); rfl; rfl
  apply Run.done; refine ⟨fun h => Bool.noConfusion h, ?_⟩
  apply x3
  apply CodeT.ret
  apply x1
  cases H
  apply x12
  exact RetIs.one (Res1.nilW rfl) (fun _ h => by cases h)
  replace H := ifFb h H
  (repeat apply CodeT.seq)
  apply CodeT.skip
  apply x3
  (repeat apply CodeT.seq)
  apply CodeT.region (fun _ => PPm)
  apply Run.op; (apply L_mov; rfl; rfl); rfl; rfl
  apply Run.op; (apply L_mov; rfl; rfl); rfl; rfl
  obtain ⟨y4, hy4, H⟩ := bindS H
  apply Run.op; (apply L_ixS2; rfl; rfl; rfl; (exact hy4); (intro _; rfl); rfl); rfl; rfl
  apply Run.op; (apply L_fldI; rfl; rfl); rfl; rfl
  apply Run.op; (apply L_ldI; rfl; rfl; rfl; rfl); rfl; rfl
  obtain ⟨r5, hr5, H⟩ := bindS H
  apply Run.op; (apply L_callW; ((apply ArgsV.cons; (apply ArgV.val; rfl; rfl)); (apply ArgsV.nil)); (exact m_impl_copyInts y4.fFrontal _ hr5); (exact io1 hio _); rfl); rfl; rfl
  apply Run.op; (apply L_mov; rfl; rfl); rfl; rfl
  apply Run.op; (apply L_mov; rfl; rfl); rfl; rfl
  obtain ⟨y6, hy6, H⟩ := bindS H
  apply Run.op; (apply L_ixS2; rfl; rfl; rfl; (exact hy6); (intro _; rfl); rfl); rfl; rfl
  apply Run.op; (apply L_fldI; rfl; rfl); rfl; rfl
  apply Run.op; (apply L_ldI; rfl; rfl; rfl; rfl); rfl; rfl
  obtain ⟨_u, ha7, H⟩ := bindS H
  obtain ⟨v8, hv8, H⟩ := bindS H
  apply Run.op; (apply L_app true; rfl; rfl; rfl; (exact flat_len (l := r5) (enc := (encI .i64)) (fun _ => rfl)); (exact flat_len (l := y6.fSeparator) (enc := (encI .i64)) (fun _ => rfl)); (exact chkS ha7); (exact app63 (by decide) (chkS ha7)); (exact ⟨io1 hio _, io1 hio _⟩); (intro _; exact allSc_flat (l := y6.fSeparator) (enc := (encI .i64)) (fun _ => rfl)); (exact flat_catL (l := r5) (r := y6.fSeparator) (enc := (encI .i64)) hv8); rfl); rfl; rfl
  apply Run.op; (apply L_asg; rfl; rfl); rfl; rfl
  apply Run.done; refine ⟨fun _ => ⟨rfl, rfl⟩, ?_⟩
  apply x3
  (repeat apply CodeT.seq)
  apply CodeT.region (fun _ => PPm)
  apply Run.op; (apply L_mov; rfl; rfl); rfl; rfl
  obtain ⟨r9, hr9, H⟩ := bindS H
  have hl10 := len_srtO v8 _ hr9
  apply Run.op; (apply L_callX [(100000, 28)]; ((apply ArgsX.cons; (apply ArgX.io (p := .ref 100000 1 0 v8.length); rfl)); (apply ArgsX.nil)); (exact m_srtO v8 _ hr9); ((apply ObsX.cons; rfl; (exact allSc_flat (fun _ => rfl))); (apply ObsX.nil)); rfl; rfl; rfl; rfl; rfl); rfl; rfl
  apply Run.done; refine ⟨fun h => Bool.noConfusion h, ?_⟩
  apply x3
  (repeat apply CodeT.seq)
  refine CodeT.weak (Ent.relen (k := 5) (n' := r9.length) rfl (by first | (simp only [setI_len]; done) | (simp only [setI_len]; omega) | omega)) ?_
  apply CodeT.region (fun _ => PPm)
  apply Run.op; (apply L_bs0; (exact io1 hio _); rfl); rfl; rfl
  apply Run.op; (apply L_asg; rfl; rfl); rfl; rfl
  apply Run.done; refine ⟨fun h => Bool.noConfusion h, ?_⟩
  apply x3
  (repeat apply CodeT.seq)
  apply CodeT.region (fun _ => PPm)
  apply Run.op; (apply L_mov; rfl; rfl); rfl; rfl
  apply Run.op; (apply L_lenR; rfl; rfl; rfl); rfl; rfl
  apply Run.op; (apply L_mov; rfl; rfl); rfl; rfl
  apply Run.done; refine ⟨fun h => Bool.noConfusion h, ?_⟩
  apply x3
  (repeat apply CodeT.seq)
  apply CodeT.block
  (repeat apply CodeT.seq)
  obtain ⟨d28, hd28, H⟩ := bindS H
  refine CodeT.lloop (fun s => ⟨[(5, ⟨.ref 505 1 0 r9.length, false⟩), (6, ⟨.ref 506 1 0 s.2.length, false⟩), (32, ⟨.ref 505 1 0 r9.length, false⟩), (33, ⟨.sc (.int .i64 (r9.length : Int)), false⟩), (34, ⟨.sc (.int .i64 s.1), false⟩)], [(505, some ⟨r9.flatMap (encI .i64), true, false⟩), (506, some ⟨s.2.flatMap (encI .i64), true, false⟩)]⟩) (fun d e E => XEnv Γ (.exit 0) ⟨[(6, ⟨.ref 506 1 0 d.length, false⟩)], [(506, some ⟨d.flatMap (encI .i64), true, false⟩)]⟩ e E) hd28 ?_ ?_ ?_
  refine Ent.list [(505, 28), (506, 31)] (io0 hio _) rfl ?_ ?_ <;> (repeat' first | exact trivial | (refine And.intro ⟨_, rfl, fun h => (by first | rfl | exact Bool.noConfusion h)⟩ ?_))
  clear H hd28
  rintro ⟨v18, v19⟩ o H
  unfold impl_CliqueNodes_L1 at H
  (repeat apply CodeT.seq)
  apply CodeT.region (fun _ => PPm)
  apply Run.op; (apply L_lss; rfl; rfl; rfl); rfl; rfl
  apply Run.done; refine ⟨fun h => Bool.noConfusion h, ?_⟩
  apply x3
  (repeat apply CodeT.seq)
  refine CodeT.cond rfl (fun h => ?_) (fun h => ?_)
  replace H := ifT (of_decide_eq_true h) H
  (repeat apply CodeT.seq)
  apply CodeT.skip
  apply x3
  (repeat apply CodeT.seq)
  apply CodeT.block
  (repeat apply CodeT.seq)
  apply CodeT.region (fun _ => PPm)
  apply Run.op; (apply L_mov; rfl; rfl); rfl; rfl
  obtain ⟨y20, hy20, H⟩ := bindS H
  apply Run.op; (apply L_ixR2; rfl; rfl; rfl; (exact hy20); rfl; rfl); rfl; rfl
  apply Run.op; (apply L_ldP; rfl; rfl; (exact row_ld0 hy20 rfl (fun _ => rfl)); (exact .inr rfl); rfl); rfl; rfl
  apply Run.op; (apply L_asg; rfl; rfl); rfl; rfl
  apply Run.op; (apply L_asg; rfl; rfl); rfl; rfl
  apply Run.done; refine ⟨fun h => Bool.noConfusion h, ?_⟩
  apply x3
  (repeat apply CodeT.seq)
  obtain ⟨d23, hd23, H⟩ := bindS H
  refine CodeT.lcut (x := d23) (fun d e E => XEnv Γ .normal ⟨[(5, ⟨.ref 505 1 0 r9.length, false⟩), (6, ⟨.ref 506 1 0 v19.length, false⟩), (8, ⟨.sc (.int .i64 y20), false⟩), (32, ⟨.ref 505 1 0 r9.length, false⟩), (33, ⟨.sc (.int .i64 (r9.length : Int)), false⟩), (34, ⟨.sc (.int .i64 v18), false⟩), (49, ⟨.sc (.bool d), false⟩)], [(505, some ⟨r9.flatMap (encI .i64), true, false⟩), (506, some ⟨v19.flatMap (encI .i64), true, false⟩)]⟩ e E) ?_ ?_
  clear H; have H := hd23; clear hd23
  apply CodeT.region (fun _ => PPm)
  apply Run.op; (apply L_mov; rfl; rfl); rfl; rfl
  apply R_dec; (apply L_eql; rfl; rfl; rfl); rfl
  intro h; replace H := ifT h H
  apply Run.op; (apply L_mov; rfl; rfl); rfl; rfl
  apply Run.skip; rfl
  apply Run.skip; rfl
  apply Run.skip; rfl
  apply Run.skip; rfl
  apply Run.skip; rfl
  apply Run.skip; rfl
  apply Run.skip; rfl
  apply Run.op; (apply L_pickT; rfl; rfl; rfl); rfl; rfl
  apply Run.done; refine ⟨fun h => Bool.noConfusion h, ?_⟩
  obtain rfl := Option.some.inj H
  refine Ev.y4 ?_
  refine XEnv.mk ?_
  refine Ent.list [] (io0 hio _) rfl ?_ ?_ <;> (repeat' first | exact trivial | (refine And.intro ⟨_, rfl, fun h => (by first | rfl | exact Bool.noConfusion h)⟩ ?_))
  intro h; replace H := ifF h H
  apply Run.op; (apply L_mov; rfl; rfl); rfl; rfl
  apply Run.op; (apply L_mov; rfl; rfl); rfl; rfl
  apply Run.op; (apply L_mov; rfl; rfl); rfl; rfl
  apply Run.op; (apply L_sub; rfl; rfl; rfl; rfl); rfl; rfl
  obtain ⟨y21, hy21, H⟩ := bindS H
  apply Run.op; (apply L_ixR2; rfl; rfl; rfl; (exact hy21); rfl; rfl); rfl; rfl
  apply Run.op; (apply L_ldP; rfl; rfl; (exact row_ld0 hy21 rfl (fun _ => rfl)); (exact .inr rfl); rfl); rfl; rfl
  apply Run.op; (apply L_mov; rfl; rfl); rfl; rfl
  apply Run.op; (apply L_neq; rfl; rfl; rfl); rfl; rfl
  apply Run.op; (apply L_pickF; rfl; rfl; rfl); rfl; rfl
  apply Run.done; refine ⟨fun h => Bool.noConfusion h, ?_⟩
  obtain rfl := Option.some.inj H
  refine Ev.y4 ?_
  refine XEnv.mk ?_
  refine Ent.list [] (io0 hio _) rfl ?_ ?_ <;> (repeat' first | exact trivial | (refine And.intro ⟨_, rfl, fun h => (by first | rfl | exact Bool.noConfusion h)⟩ ?_))
  intro e E' hX; obtain ⟨rfl, g24⟩ := XEnv.out hX
  apply x3
  refine CodeT.weak g24 ?_
  refine CodeT.cond rfl (fun h => ?_) (fun h => ?_)
  replace H := ifTb h H
  (repeat apply CodeT.seq)
  apply CodeT.region (fun _ => PPm)
  apply Run.op; (apply L_mov; rfl; rfl); rfl; rfl
  apply Run.op; (apply L_mov; rfl; rfl); rfl; rfl
  apply Run.op; (apply L_bs1; rfl; rfl; rfl; rfl; rfl; rfl; rfl; rfl); rfl; rfl
  obtain ⟨_u, ha25, H⟩ := bindS H
  obtain ⟨v26, hv26, H⟩ := bindS H
  apply Run.op; (apply L_app true; rfl; rfl; rfl; (exact flat_len (l := v19) (enc := (encI .i64)) (fun _ => rfl)); rfl; (exact chkS ha25); (exact app63 (by decide) (chkS ha25)); (exact ⟨io1 hio _, io1 hio _⟩); (intro _; rfl); (exact flat_snocL (l := v19) (y := y20) (enc := (encI .i64)) hv26); rfl); rfl; rfl
  apply Run.op; (apply L_asg; rfl; rfl); rfl; rfl
  apply Run.done; refine ⟨fun h => Bool.noConfusion h, ?_⟩
  apply x5
  apply x3
  apply CodeT.region (fun _ => PPm)
  apply Run.op; (apply L_add; rfl; rfl; rfl; rfl); rfl; rfl
  apply Run.op; (apply L_mov; rfl; rfl); rfl; rfl
  apply Run.done; refine ⟨fun h => Bool.noConfusion h, ?_⟩
  obtain rfl := Option.some.inj H
  refine Ev.y1 ?_
  refine Ent.list [(506, 53)] (io0 hio _) rfl ?_ ?_ <;> (repeat' first | exact trivial | (refine And.intro ⟨_, rfl, fun h => (by first | rfl | exact Bool.noConfusion h)⟩ ?_))
  replace H := ifFb h H
  (repeat apply CodeT.seq)
  apply CodeT.skip
  apply x5
  apply x3
  apply CodeT.region (fun _ => PPm)
  apply Run.op; (apply L_add; rfl; rfl; rfl; rfl); rfl; rfl
  apply Run.op; (apply L_mov; rfl; rfl); rfl; rfl
  apply Run.done; refine ⟨fun h => Bool.noConfusion h, ?_⟩
  obtain rfl := Option.some.inj H
  refine Ev.y1 ?_
  refine Ent.list [] (io0 hio _) rfl ?_ ?_ <;> (repeat' first | exact trivial | (refine And.intro ⟨_, rfl, fun h => (by first | rfl | exact Bool.noConfusion h)⟩ ?_))
  replace H := ifF (of_decide_eq_false h) H
  (repeat apply CodeT.seq)
  apply CodeT.exit
  apply x2
  obtain rfl := Option.some.inj H
  refine Ev.y3 ?_
  refine XEnv.mk ?_
  refine Ent.list [] (io0 hio _) rfl ?_ ?_ <;> (repeat' first | exact trivial | (refine And.intro ⟨_, rfl, fun h => (by first | rfl | exact Bool.noConfusion h)⟩ ?_))
  skip
  intro e E' hX; obtain ⟨rfl, g29⟩ := XEnv.out hX
  refine x6 rfl ?_
  apply x3
  refine CodeT.weak g29 ?_
  (repeat apply CodeT.seq)
  apply CodeT.region (fun _ => PPm)
  apply Run.op; (apply L_mov; rfl; rfl); rfl; rfl
  apply Run.op; (apply L_asg; rfl; rfl); rfl; rfl
  apply Run.done; refine ⟨fun h => Bool.noConfusion h, ?_⟩
  apply x3
  apply CodeT.ret
  cases H
  apply x12
  exact RetIs.rW rfl rfl rfl (io1 hio _)
theorem m_laws_eqIntS (a0 : (List Int)) (a1 : (List Int)) (r : Bool) (H : laws_eqIntS a0 a1 = some r) : Meets Try.prog 18 [.sl a0.length (a0.flatMap (encI .i64)), .sl a1.length (a1.flatMap (encI .i64))] (.sc (.bool r)) true := by
  refine Meets.intro2 (N := 26) (rs := #[.tmp 4]) Try.func18 rfl rfl rfl rfl ?_
  intro Γ hio
  unfold laws_eqIntS at H
  (repeat apply CodeT.seq)
  apply CodeT.region (fun _ => PPm)
  apply Run.op; (apply L_asg; rfl; rfl); rfl; rfl
  apply Run.done; refine ⟨fun h => Bool.noConfusion h, ?_⟩
  apply x3
  (repeat apply CodeT.seq)
  apply CodeT.region (fun _ => PPm)
  apply Run.op; (apply L_mov; rfl; rfl); rfl; rfl
  apply Run.op; (apply L_len; rfl; rfl); rfl; rfl
  apply Run.op; (apply L_mov; rfl; rfl); rfl; rfl
  apply Run.op; (apply L_len; rfl; rfl); rfl; rfl
  apply Run.op; (apply L_neq; rfl; rfl; rfl); rfl; rfl
  apply Run.done; refine ⟨fun h => Bool.noConfusion h, ?_⟩
  apply x3
  (repeat apply CodeT.seq)
  refine CodeT.cond rfl (fun h => ?_) (fun h => ?_)
  replace H := ifT (of_decide_eq_true h) H
  (repeat apply CodeT.seq)
  apply CodeT.region (fun _ => PPm)
  apply Run.op; (apply L_asg; rfl; rfl); rfl; rfl
  apply Run.done; refine ⟨fun h => Bool.noConfusion h, ?_⟩
  apply x3
  apply CodeT.ret
  apply x1
  cases H
  apply x12
  exact RetIs.sc1 rfl
  replace H := ifF (of_decide_eq_false h) H
  (repeat apply CodeT.seq)
  apply CodeT.skip
  apply x3
  (repeat apply CodeT.seq)
  apply CodeT.region (fun _ => PPm)
  apply Run.op; (apply L_asg; rfl; rfl); rfl; rfl
  apply Run.done; refine ⟨fun h => Bool.noConfusion h, ?_⟩
  apply x3
  (repeat apply CodeT.seq)
  apply CodeT.block
  (repeat apply CodeT.seq)
  obtain ⟨d6, hd6, H⟩ := bindS H
  refine CodeT.lloop (fun s => ⟨[(0, ⟨.sl a0.length (a0.flatMap (encI .i64)), false⟩), (1, ⟨.sl a1.length (a1.flatMap (encI .i64)), false⟩), (5, ⟨.sc (.int .i64 s), false⟩)], []⟩) (fun x e E => match x with | (.inl d) => XEnv Γ (.exit 0) ⟨[], []⟩ e E | (.inr d) => XRet Γ #[.tmp 4] (.sc (.bool d)) true e E) hd6 ?_ ?_ ?_
  refine Ent.list [] (io0 hio _) rfl ?_ ?_ <;> (repeat' first | exact trivial | (refine And.intro ⟨_, rfl, fun h => (by first | rfl | exact Bool.noConfusion h)⟩ ?_))
  clear H hd6
  rintro v3 o H
  unfold laws_eqIntS_L1 at H
  (repeat apply CodeT.seq)
  apply CodeT.region (fun _ => PPm)
  apply Run.op; (apply L_mov; rfl; rfl); rfl; rfl
  apply Run.op; (apply L_mov; rfl; rfl); rfl; rfl
  apply Run.op; (apply L_len; rfl; rfl); rfl; rfl
  apply Run.op; (apply L_lss; rfl; rfl; rfl); rfl; rfl
  apply Run.done; refine ⟨fun h => Bool.noConfusion h, ?_⟩
  apply x3
  (repeat apply CodeT.seq)
  refine CodeT.cond rfl (fun h => ?_) (fun h => ?_)
  replace H := ifT (of_decide_eq_true h) H
  (repeat apply CodeT.seq)
  apply CodeT.skip
  apply x3
  (repeat apply CodeT.seq)
  apply CodeT.block
  (repeat apply CodeT.seq)
  apply CodeT.region (fun _ => PPm)
  apply Run.op; (apply L_mov; rfl; rfl); rfl; rfl
  apply Run.op; (apply L_mov; rfl; rfl); rfl; rfl
  obtain ⟨y4, hy4, H⟩ := bindS H
  apply Run.op; (apply L_ixS2; rfl; rfl; rfl; (exact hy4); (intro _; rfl); rfl); rfl; rfl
  apply Run.op; (apply L_ldI; rfl; rfl; rfl; rfl); rfl; rfl
  apply Run.op; (apply L_mov; rfl; rfl); rfl; rfl
  apply Run.op; (apply L_mov; rfl; rfl); rfl; rfl
  obtain ⟨y5, hy5, H⟩ := bindS H
  apply Run.op; (apply L_ixS2; rfl; rfl; rfl; (exact hy5); (intro _; rfl); rfl); rfl; rfl
  apply Run.op; (apply L_ldI; rfl; rfl; rfl; rfl); rfl; rfl
  apply Run.op; (apply L_neq; rfl; rfl; rfl); rfl; rfl
  apply Run.done; refine ⟨fun _ => ⟨rfl, rfl⟩, ?_⟩
  apply x3
  refine CodeT.cond rfl (fun h => ?_) (fun h => ?_)
  replace H := ifT (of_decide_eq_true h) H
  (repeat apply CodeT.seq)
  apply CodeT.region (fun _ => PPm)
  apply Run.op; (apply L_asg; rfl; rfl); rfl; rfl
  apply Run.done; refine ⟨fun h => Bool.noConfusion h, ?_⟩
  apply x3
  apply CodeT.ret
  apply x4
  apply x1
  obtain rfl := Option.some.inj H
  refine Ev.y2 ?_
  refine XRet.mk ?_
  exact RetIs.sc1 rfl
  replace H := ifF (of_decide_eq_false h) H
  (repeat apply CodeT.seq)
  apply CodeT.skip
  apply x5
  apply x3
  apply CodeT.region (fun _ => PPm)
  apply Run.op; (apply L_mov; rfl; rfl); rfl; rfl
  apply Run.op; (apply L_add; rfl; rfl; rfl; rfl); rfl; rfl
  apply Run.op; (apply L_asg; rfl; rfl); rfl; rfl
  apply Run.done; refine ⟨fun h => Bool.noConfusion h, ?_⟩
  obtain rfl := Option.some.inj H
  refine Ev.y1 ?_
  refine Ent.list [] (io0 hio _) rfl ?_ ?_ <;> (repeat' first | exact trivial | (refine And.intro ⟨_, rfl, fun h => (by first | rfl | exact Bool.noConfusion h)⟩ ?_))
  replace H := ifF (of_decide_eq_false h) H
  (repeat apply CodeT.seq)
  apply CodeT.exit
  apply x2
  obtain rfl := Option.some.inj H
  refine Ev.y3 ?_
  refine XEnv.mk ?_
  refine Ent.list [] (io0 hio _) rfl ?_ ?_ <;> (repeat' first | exact trivial | (refine And.intro ⟨_, rfl, fun h => (by first | rfl | exact Bool.noConfusion h)⟩ ?_))
  rcases d6 with (d7 | d9)
  intro e E' hX; obtain ⟨rfl, g8⟩ := XEnv.out hX
  refine x6 rfl ?_
  apply x3
  refine CodeT.weak g8 ?_
  (repeat apply CodeT.seq)
  apply CodeT.region (fun _ => PPm)
  apply Run.op; (apply L_asg; rfl; rfl); rfl; rfl
  apply Run.done; refine ⟨fun h => Bool.noConfusion h, ?_⟩
  apply x3
  apply CodeT.ret
  cases H
  apply x12
  exact RetIs.sc1 rfl
  intro e E' hX; obtain ⟨rfl, g10⟩ := XRet.out hX
  apply x4
  apply x1
  cases H
  apply x12
  exact g10
theorem m_laws_eqClique (a0 : Clique) (a1 : Clique) (r : Bool) (H : laws_eqClique a0 a1 = some r) : Meets Try.prog 86 [.agg (encClique a0), .agg (encClique a1)] (.sc (.bool r)) true := by
  refine Meets.intro2 (N := 22) (rs := #[.tmp 4]) Try.func86 rfl rfl rfl rfl ?_
  intro Γ hio
  unfold laws_eqClique at H
  (repeat apply CodeT.seq)
  apply CodeT.region (fun _ => PPm)
  apply Run.op; (apply L_box false; rfl; rfl; rfl; (exact io1 hio _); rfl); rfl; rfl
  apply Run.op; (apply L_box false; rfl; rfl; rfl; (exact io1 hio _); rfl); rfl; rfl
  apply Run.op; (apply L_asg; rfl; rfl); rfl; rfl
  apply Run.done; refine ⟨fun h => Bool.noConfusion h, ?_⟩
  apply x3
  (repeat apply CodeT.seq)
  apply CodeT.region (fun _ => PPm)
  apply Run.op; (apply L_fldP; rfl; rfl; rfl; rfl); rfl; rfl
  apply Run.op; (apply L_ldP; rfl; rfl; rfl; (first | exact .inl rfl | exact .inr rfl); rfl); rfl; rfl
  apply Run.op; (apply L_fldP; rfl; rfl; rfl; rfl); rfl; rfl
  apply Run.op; (apply L_ldP; rfl; rfl; rfl; (first | exact .inl rfl | exact .inr rfl); rfl); rfl; rfl
  obtain ⟨r1, hr1, H⟩ := bindS H
  apply Run.op; (apply L_call; ((apply ArgsV.cons; (apply ArgV.val; rfl; rfl)); (apply ArgsV.cons; (apply ArgV.val; rfl; rfl)); (apply ArgsV.nil)); (exact m_laws_eqIntS a0.fFrontal a1.fFrontal _ hr1); rfl; rfl; rfl); rfl; rfl
  apply Run.op; (apply L_not; rfl; rfl); rfl; rfl
  apply Run.done; refine ⟨fun h => Bool.noConfusion h, ?_⟩
  apply x3
  (repeat apply CodeT.seq)
  refine CodeT.cond rfl (fun h => ?_) (fun h => ?_)
  replace H := ifFb (notT h) H
  (repeat apply CodeT.seq)
  apply CodeT.region (fun _ => PPm)
  apply Run.op; (apply L_asg; rfl; rfl); rfl; rfl
  apply Run.done; refine ⟨fun h => Bool.noConfusion h, ?_⟩
  apply x3
  apply CodeT.ret
  apply x1
  cases H
  apply x12
  exact RetIs.sc1 rfl
  replace H := ifTb (notF h) H
  (repeat apply CodeT.seq)
  apply CodeT.skip
  apply x3
  (repeat apply CodeT.seq)
  apply CodeT.region (fun _ => PPm)
  apply Run.op; (apply L_fldP; rfl; rfl; rfl; rfl); rfl; rfl
  apply Run.op; (apply L_ldP; rfl; rfl; rfl; (first | exact .inl rfl | exact .inr rfl); rfl); rfl; rfl
  apply Run.op; (apply L_fldP; rfl; rfl; rfl; rfl); rfl; rfl
  apply Run.op; (apply L_ldP; rfl; rfl; rfl; (first | exact .inl rfl | exact .inr rfl); rfl); rfl; rfl
  obtain ⟨r2, hr2, H⟩ := bindS H
  apply Run.op; (apply L_call; ((apply ArgsV.cons; (apply ArgV.val; rfl; rfl)); (apply ArgsV.cons; (apply ArgV.val; rfl; rfl)); (apply ArgsV.nil)); (exact m_laws_eqIntS a0.fSeparator a1.fSeparator _ hr2); rfl; rfl; rfl); rfl; rfl
  apply Run.op; (apply L_not; rfl; rfl); rfl; rfl
  apply Run.done; refine ⟨fun h => Bool.noConfusion h, ?_⟩
  apply x3
  (repeat apply CodeT.seq)
  refine CodeT.cond rfl (fun h => ?_) (fun h => ?_)
  replace H := ifFb (notT h) H
  (repeat apply CodeT.seq)
  apply CodeT.region (fun _ => PPm)
  apply Run.op; (apply L_asg; rfl; rfl); rfl; rfl
  apply Run.done; refine ⟨fun h => Bool.noConfusion h, ?_⟩
  apply x3
  apply CodeT.ret
  apply x1
  cases H
  apply x12
  exact RetIs.sc1 rfl
  replace H := ifTb (notF h) H
  (repeat apply CodeT.seq)
  apply CodeT.skip
  apply x3
  (repeat apply CodeT.seq)
  apply CodeT.region (fun _ => PPm)
  apply Run.op; (apply L_fldP; rfl; rfl; rfl; rfl); rfl; rfl
  apply Run.op; (apply L_ldP; rfl; rfl; rfl; (first | exact .inl rfl | exact .inr rfl); rfl); rfl; rfl
  apply Run.op; (apply L_fldP; rfl; rfl; rfl; rfl); rfl; rfl
  apply Run.op; (apply L_ldP; rfl; rfl; rfl; (first | exact .inl rfl | exact .inr rfl); rfl); rfl; rfl
  apply Run.op; (apply L_neq; rfl; rfl; rfl); rfl; rfl
  apply Run.done; refine ⟨fun h => Bool.noConfusion h, ?_⟩
  apply x3
  (repeat apply CodeT.seq)
  refine CodeT.cond rfl (fun h => ?_) (fun h => ?_)
  replace H := ifT (of_decide_eq_true h) H
  (repeat apply CodeT.seq)
  apply CodeT.region (fun _ => PPm)
  apply Run.op; (apply L_asg; rfl; rfl); rfl; rfl
  apply Run.done; refine ⟨fun h => Bool.noConfusion h, ?_⟩
  apply x3
  apply CodeT.ret
  apply x1
  cases H
  apply x12
  exact RetIs.sc1 rfl
  replace H := ifF (of_decide_eq_false h) H
  (repeat apply CodeT.seq)
  apply CodeT.skip
  apply x3
  (repeat apply CodeT.seq)
  apply CodeT.region (fun _ => PPm)
  apply Run.op; (apply L_asg; rfl; rfl); rfl; rfl
  apply Run.done; refine ⟨fun h => Bool.noConfusion h, ?_⟩
  apply x3
  apply CodeT.ret
  cases H
  apply x12
  exact RetIs.sc1 rfl
theorem m_laws_eqCliqueS (a0 : (List Clique)) (a1 : (List Clique)) (r : Bool) (H : laws_eqCliqueS a0 a1 = some r) : Meets Try.prog 35 [.sl a0.length (a0.flatMap encClique), .sl a1.length (a1.flatMap encClique)] (.sc (.bool r)) true := by
  refine Meets.intro2 (N := 27) (rs := #[.tmp 4]) Try.func35 rfl rfl rfl rfl ?_
  intro Γ hio
  unfold laws_eqCliqueS at H
  (repeat apply CodeT.seq)
  apply CodeT.region (fun _ => PPm)
  apply Run.op; (apply L_asg; rfl; rfl); rfl; rfl
  apply Run.done; refine ⟨fun h => Bool.noConfusion h, ?_⟩
  apply x3
  (repeat apply CodeT.seq)
  apply CodeT.region (fun _ => PPm)
  apply Run.op; (apply L_mov; rfl; rfl); rfl; rfl
  apply Run.op; (apply L_len; rfl; rfl); rfl; rfl
  apply Run.op; (apply L_mov; rfl; rfl); rfl; rfl
  apply Run.op; (apply L_len; rfl; rfl); rfl; rfl
  apply Run.op; (apply L_neq; rfl; rfl; rfl); rfl; rfl
  apply Run.done; refine ⟨fun h => Bool.noConfusion h, ?_⟩
  apply x3
  (repeat apply CodeT.seq)
  refine CodeT.cond rfl (fun h => ?_) (fun h => ?_)
  replace H := ifT (of_decide_eq_true h) H
  (repeat apply CodeT.seq)
  apply CodeT.region (fun _ => PPm)
  apply Run.op; (apply L_asg; rfl; rfl); rfl; rfl
  apply Run.done; refine ⟨fun h => Bool.noConfusion h, ?_⟩
  apply x3
  apply CodeT.ret
  apply x1
  cases H
  apply x12
  exact RetIs.sc1 rfl
  replace H := ifF (of_decide_eq_false h) H
  (repeat apply CodeT.seq)
  apply CodeT.skip
  apply x3
  (repeat apply CodeT.seq)
  apply CodeT.region (fun _ => PPm)
  apply Run.op; (apply L_asg; rfl; rfl); rfl; rfl
  apply Run.done; refine ⟨fun h => Bool.noConfusion h, ?_⟩
  apply x3
  (repeat apply CodeT.seq)
  apply CodeT.block
  (repeat apply CodeT.seq)
  obtain ⟨d8, hd8, H⟩ := bindS H
  refine CodeT.lloop (fun s => ⟨[(0, ⟨.sl a0.length (a0.flatMap encClique), false⟩), (1, ⟨.sl a1.length (a1.flatMap encClique), false⟩), (5, ⟨.sc (.int .i64 s), false⟩)], []⟩) (fun x e E => match x with | (.inl d) => XEnv Γ (.exit 0) ⟨[], []⟩ e E | (.inr d) => XRet Γ #[.tmp 4] (.sc (.bool d)) true e E) hd8 ?_ ?_ ?_
  refine Ent.list [] (io0 hio _) rfl ?_ ?_ <;> (repeat' first | exact trivial | (refine And.intro ⟨_, rfl, fun h => (by first | rfl | exact Bool.noConfusion h)⟩ ?_))
  clear H hd8
  rintro v4 o H
  unfold laws_eqCliqueS_L1 at H
  (repeat apply CodeT.seq)
  apply CodeT.region (fun _ => PPm)
  apply Run.op; (apply L_mov; rfl; rfl); rfl; rfl
  apply Run.op; (apply L_mov; rfl; rfl); rfl; rfl
  apply Run.op; (apply L_len; rfl; rfl); rfl; rfl
  apply Run.op; (apply L_lss; rfl; rfl; rfl); rfl; rfl
  apply Run.done; refine ⟨fun h => Bool.noConfusion h, ?_⟩
  apply x3
  (repeat apply CodeT.seq)
  refine CodeT.cond rfl (fun h => ?_) (fun h => ?_)
  replace H := ifT (of_decide_eq_true h) H
  (repeat apply CodeT.seq)
  apply CodeT.skip
  apply x3
  (repeat apply CodeT.seq)
  apply CodeT.block
  (repeat apply CodeT.seq)
  apply CodeT.region (fun _ => PPm)
  apply Run.op; (apply L_mov; rfl; rfl); rfl; rfl
  apply Run.op; (apply L_mov; rfl; rfl); rfl; rfl
  obtain ⟨y5, hy5, H⟩ := bindS H
  apply Run.op; (apply L_ixS2; rfl; rfl; rfl; (exact hy5); (intro _; rfl); rfl); rfl; rfl
  apply Run.op; (apply L_ldIA; rfl; (first | exact take_whole rfl | rfl); rfl; (intro h; cases h); rfl; rfl); rfl; rfl
  apply Run.op; (apply L_mov; rfl; rfl); rfl; rfl
  apply Run.op; (apply L_mov; rfl; rfl); rfl; rfl
  obtain ⟨y6, hy6, H⟩ := bindS H
  apply Run.op; (apply L_ixS2; rfl; rfl; rfl; (exact hy6); (intro _; rfl); rfl); rfl; rfl
  apply Run.op; (apply L_ldIA; rfl; (first | exact take_whole rfl | rfl); rfl; (intro h; cases h); rfl; rfl); rfl; rfl
  obtain ⟨r7, hr7, H⟩ := bindS H
  apply Run.op; (apply L_call; ((apply ArgsV.cons; (apply ArgV.val; rfl; rfl)); (apply ArgsV.cons; (apply ArgV.val; rfl; rfl)); (apply ArgsV.nil)); (exact m_laws_eqClique y5 y6 _ hr7); rfl; rfl; rfl); rfl; rfl
  apply Run.op; (apply L_not; rfl; rfl); rfl; rfl
  apply Run.done; refine ⟨fun _ => ⟨rfl, rfl⟩, ?_⟩
  apply x3
  refine CodeT.cond rfl (fun h => ?_) (fun h => ?_)
  replace H := ifFb (notT h) H
  (repeat apply CodeT.seq)
  apply CodeT.region (fun _ => PPm)
  apply Run.op; (apply L_asg; rfl; rfl); rfl; rfl
  apply Run.done; refine ⟨fun h => Bool.noConfusion h, ?_⟩
  apply x3
  apply CodeT.ret
  apply x4
  apply x1
  obtain rfl := Option.some.inj H
  refine Ev.y2 ?_
  refine XRet.mk ?_
  exact RetIs.sc1 rfl
  replace H := ifTb (notF h) H
  (repeat apply CodeT.seq)
  apply CodeT.skip
  apply x5
  apply x3
  apply CodeT.region (fun _ => PPm)
  apply Run.op; (apply L_mov; rfl; rfl); rfl; rfl
  apply Run.op; (apply L_add; rfl; rfl; rfl; rfl); rfl; rfl
  apply Run.op; (apply L_asg; rfl; rfl); rfl; rfl
  apply Run.done; refine ⟨fun h => Bool.noConfusion h, ?_⟩
  obtain rfl := Option.some.inj H
  refine Ev.y1 ?_
  refine Ent.list [] (io0 hio _) rfl ?_ ?_ <;> (repeat' first | exact trivial | (refine And.intro ⟨_, rfl, fun h => (by first | rfl | exact Bool.noConfusion h)⟩ ?_))
  replace H := ifF (of_decide_eq_false h) H
  (repeat apply CodeT.seq)
  apply CodeT.exit
  apply x2
  obtain rfl := Option.some.inj H
  refine Ev.y3 ?_
  refine XEnv.mk ?_
  refine Ent.list [] (io0 hio _) rfl ?_ ?_ <;> (repeat' first | exact trivial | (refine And.intro ⟨_, rfl, fun h => (by first | rfl | exact Bool.noConfusion h)⟩ ?_))
  rcases d8 with (d9 | d11)
  intro e E' hX; obtain ⟨rfl, g10⟩ := XEnv.out hX
  refine x6 rfl ?_
  apply x3
  refine CodeT.weak g10 ?_
  (repeat apply CodeT.seq)
  apply CodeT.region (fun _ => PPm)
  apply Run.op; (apply L_asg; rfl; rfl); rfl; rfl
  apply Run.done; refine ⟨fun h => Bool.noConfusion h, ?_⟩
  apply x3
  apply CodeT.ret
  cases H
  apply x12
  exact RetIs.sc1 rfl
  intro e E' hX; obtain ⟨rfl, g12⟩ := XRet.out hX
  apply x4
  apply x1
  cases H
  apply x12
  exact g12
theorem m_laws_markIntS (a0 : (List Int)) (a1 : Int) (r : (Int × (List Int))) (H : laws_markIntS a0 a1 = some r) : MeetsX Try.prog 21 [.ref 100000 1 0 a0.length, .sc (.int .i64 a1)] [⟨100000, a0.flatMap (encI .i64), r.2.flatMap (encI .i64)⟩] (.sc (.int .i64 r.1)) true := by
  have H0 := H; clear H
  obtain ⟨r', H, H2⟩ := bindS H0; clear H0
  obtain ⟨_, hlen, H2⟩ := bindS H2
  obtain rfl := Option.some.inj H2
  have hlen := chkS hlen
  refine MeetsX.intro (N := 19) (rs := #[.tmp 4]) Try.func21 rfl rfl rfl rfl rfl (xo1 (nil_new (sz := 1) hlen (fun _ => rfl) (by decide))) (xo1 (allSc_flat (fun _ => rfl))) ?_
  clear hlen
  intro Γ hio
  unfold laws_markIntS_raw at H
  (repeat apply CodeT.seq)
  apply CodeT.region (fun _ => PPm)
  apply Run.op; (apply L_asg; rfl; rfl); rfl; rfl
  apply Run.done; refine ⟨fun h => Bool.noConfusion h, ?_⟩
  apply x3
  (repeat apply CodeT.seq)
  apply CodeT.region (fun _ => PPm)
  apply Run.op; (apply L_asg; rfl; rfl); rfl; rfl
  apply Run.done; refine ⟨fun h => Bool.noConfusion h, ?_⟩
  apply x3
  (repeat apply CodeT.seq)
  apply CodeT.block
  (repeat apply CodeT.seq)
  obtain ⟨d11, hd11, H⟩ := bindS H
  refine CodeT.lloop (fun s => ⟨[(0, ⟨.ref 100000 1 0 s.2.2.length, false⟩), (1, ⟨.sc (.int .i64 s.1), false⟩), (5, ⟨.sc (.int .i64 s.2.1), false⟩)], [(100000, some ⟨s.2.2.flatMap (encI .i64), true, false⟩)]⟩) (fun d e E => XEnv Γ (.exit 0) ⟨[(1, ⟨.sc (.int .i64 d.1), false⟩)], [(100000, some ⟨d.2.flatMap (encI .i64), true, false⟩)]⟩ e E) hd11 ?_ ?_ ?_
  refine Ent.list [] (io0 hio _) rfl ?_ ?_ <;> (repeat' first | exact trivial | (refine And.intro ⟨_, rfl, fun h => (by first | rfl | exact Bool.noConfusion h)⟩ ?_))
  clear H hd11
  rintro ⟨v4, v5, v6⟩ o H
  unfold laws_markIntS_L1 at H
  (repeat apply CodeT.seq)
  apply CodeT.region (fun _ => PPm)
  apply Run.op; (apply L_mov; rfl; rfl); rfl; rfl
  apply Run.op; (apply L_mov; rfl; rfl); rfl; rfl
  apply Run.op; (apply L_lenR; rfl; rfl; rfl); rfl; rfl
  apply Run.op; (apply L_lss; rfl; rfl; rfl); rfl; rfl
  apply Run.done; refine ⟨fun h => Bool.noConfusion h, ?_⟩
  apply x3
  (repeat apply CodeT.seq)
  refine CodeT.cond rfl (fun h => ?_) (fun h => ?_)
  replace H := ifT (of_decide_eq_true h) H
  (repeat apply CodeT.seq)
  apply CodeT.skip
  apply x3
  (repeat apply CodeT.seq)
  apply CodeT.block
  (repeat apply CodeT.seq)
  apply CodeT.region (fun _ => PPm)
  apply Run.op; (apply L_mov; rfl; rfl); rfl; rfl
  apply Run.op; (apply L_mov; rfl; rfl); rfl; rfl
  apply Run.op; (apply L_mov; rfl; rfl); rfl; rfl
  obtain ⟨y7, hy7, H⟩ := bindS H
  apply Run.op; (apply L_ixR2; rfl; rfl; rfl; (exact hy7); rfl; rfl); rfl; rfl
  obtain ⟨v8, hv8, H⟩ := bindS H
  have hl9 := setI_lenS hv8
  apply Run.op; (apply L_st; rfl; rfl; rfl; rfl; rfl; (intro h; cases h); (exact row_ble0 (sz := 1) (n := 1) hy7 (fun _ => rfl) (by decide)); (exact row_stL (sz := 1) hv8 hy7 (fun _ => rfl) rfl)); rfl; rfl
  apply Run.done; refine ⟨fun h => Bool.noConfusion h, ?_⟩
  apply x3
  refine CodeT.weak (Ent.relen (k := 0) (n' := v8.length) rfl (by first | (simp only [setI_len]; done) | (simp only [setI_len]; omega) | omega)) ?_
  apply CodeT.region (fun _ => PPm)
  apply Run.op; (apply L_mov; rfl; rfl); rfl; rfl
  apply Run.op; (apply L_add; rfl; rfl; rfl; rfl); rfl; rfl
  apply Run.op; (apply L_asg; rfl; rfl); rfl; rfl
  apply Run.done; refine ⟨fun h => Bool.noConfusion h, ?_⟩
  apply x5
  apply x3
  apply CodeT.region (fun _ => PPm)
  apply Run.op; (apply L_mov; rfl; rfl); rfl; rfl
  apply Run.op; (apply L_add; rfl; rfl; rfl; rfl); rfl; rfl
  apply Run.op; (apply L_asg; rfl; rfl); rfl; rfl
  apply Run.done; refine ⟨fun h => Bool.noConfusion h, ?_⟩
  obtain rfl := Option.some.inj H
  refine Ev.y1 ?_
  refine Ent.list [] (io0 hio _) rfl ?_ ?_ <;> (repeat' first | exact trivial | (refine And.intro ⟨_, rfl, fun h => (by first | rfl | exact Bool.noConfusion h)⟩ ?_))
  replace H := ifF (of_decide_eq_false h) H
  (repeat apply CodeT.seq)
  apply CodeT.exit
  apply x2
  obtain rfl := Option.some.inj H
  refine Ev.y3 ?_
  refine XEnv.mk ?_
  refine Ent.list [] (io0 hio _) rfl ?_ ?_ <;> (repeat' first | exact trivial | (refine And.intro ⟨_, rfl, fun h => (by first | rfl | exact Bool.noConfusion h)⟩ ?_))
  skip
  intro e E' hX; obtain ⟨rfl, g12⟩ := XEnv.out hX
  refine x6 rfl ?_
  apply x3
  refine CodeT.weak g12 ?_
  (repeat apply CodeT.seq)
  apply CodeT.region (fun _ => PPm)
  apply Run.op; (apply L_mov; rfl; rfl); rfl; rfl
  apply Run.op; (apply L_asg; rfl; rfl); rfl; rfl
  apply Run.done; refine ⟨fun h => Bool.noConfusion h, ?_⟩
  apply x3
  apply CodeT.ret
  cases H
  apply z12
  exact RetX.mk (RetIs.sc1 rfl) (xo1 ⟨_, rfl⟩)
theorem mk_laws_markIntS (a0 : (List Int)) (a1 : Int) (r : (Int × (List Int))) (H : laws_markIntS a0 a1 = some r) : MarkC Try.prog 21 (.rw 1 a0.length (a0.flatMap (encI .i64))) (.rw 1 r.2.length (r.2.flatMap (encI .i64))) (.int .i64 a1) (.int .i64 r.1) := by
  have h := m_laws_markIntS a0 a1 r H
  have hl := len_laws_markIntS a0 a1 r H
  rw [hl]; exact MarkC.ofX h (allSc_flat (fun _ => rfl))
theorem m_laws_markCliqueS (a0 : (List Clique)) (a1 : Int) (r : (Int × (List Clique))) (H : laws_markCliqueS a0 a1 = some r) : MeetsN Try.prog 38 [.ref 100000 3 0 a0.length, .sc (.int .i64 a1)] (a0.flatMap encWClique) (r.2.flatMap encWClique) (.sc (.int .i64 r.1)) := by
  have H0 := H; clear H
  obtain ⟨r', H, H2⟩ := bindS H0; clear H0
  obtain ⟨_, hlen, H2⟩ := bindS H2
  obtain rfl := Option.some.inj H2
  have hlen := chkS hlen
  refine MeetsN.intro (N := 34) (rs := #[.tmp 4]) Try.func38 rfl rfl rfl rfl (nil_new (l := 0) (sz := 3) hlen (fun _ => rfl) (by decide)) rfl ?_
  clear hlen
  intro Γ hio hle
  unfold laws_markCliqueS_raw at H
  (repeat apply CodeT.seq)
  apply CodeT.region (fun _ => PPm)
  apply Run.op; (apply L_asg; rfl; rfl); rfl; rfl
  apply Run.done; refine ⟨fun h => Bool.noConfusion h, ?_⟩
  apply x3
  (repeat apply CodeT.seq)
  apply CodeT.region (fun _ => PPm)
  apply Run.op; (apply L_asg; rfl; rfl); rfl; rfl
  apply Run.done; refine ⟨fun h => Bool.noConfusion h, ?_⟩
  apply x3
  (repeat apply CodeT.seq)
  apply CodeT.block
  (repeat apply CodeT.seq)
  obtain ⟨d31, hd31, H⟩ := bindS H
  refine CodeT.lloop (fun s => ⟨[(0, ⟨.ref 100000 3 0 s.2.2.length, false⟩), (1, ⟨.sc (.int .i64 s.1), false⟩), (5, ⟨.sc (.int .i64 s.2.1), false⟩)], [(100000, some ⟨s.2.2.flatMap encWClique, true, false⟩)]⟩) (fun d e E => XEnv Γ (.exit 0) ⟨[(1, ⟨.sc (.int .i64 d.1), false⟩)], [(100000, some ⟨d.2.flatMap encWClique, true, false⟩)]⟩ e E) hd31 ?_ ?_ ?_
  refine Ent.list [] (io0 hio _) rfl ?_ ?_ <;> (repeat' first | exact trivial | (refine And.intro ⟨_, rfl, fun h => (by first | rfl | exact Bool.noConfusion h)⟩ ?_))
  clear H hd31
  rintro ⟨v14, v15, v16⟩ o H
  unfold laws_markCliqueS_L1 at H
  (repeat apply CodeT.seq)
  apply CodeT.region (fun _ => PPm)
  apply Run.op; (apply L_mov; rfl; rfl); rfl; rfl
  apply Run.op; (apply L_mov; rfl; rfl); rfl; rfl
  apply Run.op; (apply L_lenR; rfl; rfl; rfl); rfl; rfl
  apply Run.op; (apply L_lss; rfl; rfl; rfl); rfl; rfl
  apply Run.done; refine ⟨fun h => Bool.noConfusion h, ?_⟩
  apply x3
  (repeat apply CodeT.seq)
  refine CodeT.cond rfl (fun h => ?_) (fun h => ?_)
  replace H := ifT (of_decide_eq_true h) H
  (repeat apply CodeT.seq)
  apply CodeT.skip
  apply x3
  (repeat apply CodeT.seq)
  apply CodeT.block
  (repeat apply CodeT.seq)
  obtain ⟨y17, hy17, H⟩ := bindS H
  refine CodeT.expose (l := 100000) (c := v15.toNat * 3 + 0) rfl (row_ld (o := 0) hy17 rfl (fun _ => rfl)) (fun wy17 => ?_)
  apply CodeT.region (fun _ => PPm)
  apply Run.op; (apply L_mov; rfl; rfl); rfl; rfl
  apply Run.op; (apply L_mov; rfl; rfl); rfl; rfl
  apply Run.op; (apply L_ixR2; rfl; rfl; rfl; (exact hy17); rfl; rfl); rfl; rfl
  apply Run.op; (apply L_fldP; rfl; rfl; (exact row_posS (sz := 3) hy17 (fun _ => rfl) (by decide)); rfl); rfl; rfl
  apply Run.op; (apply Local.forget Forg.was; apply L_ldP; rfl; rfl; (exact set_self (row_ld (o := 0) hy17 rfl (fun _ => rfl))); (exact .inr rfl); rfl); rfl; rfl
  apply Run.op; (apply L_mov; rfl; rfl); rfl; rfl
  obtain ⟨r19, hr19, H⟩ := bindS H
  apply Run.op; (apply L_callM (l := 100000) (off := v15.toNat * 3 + 0) (m := 1) (p := .rw 1 y17.fFrontal.length (y17.fFrontal.flatMap (encI .i64))) (p' := .rw 1 r19.2.length (r19.2.flatMap (encI .i64))); rfl; rfl; rfl; (exact set_cut (row_ld (o := 0) hy17 rfl (fun _ => rfl))); rfl; rfl; (exact MCut.one); (exact mk_laws_markIntS y17.fFrontal v14 _ hr19); (exact set_cat (row_ld (o := 0) hy17 rfl (fun _ => rfl))); (exact hle); rfl); rfl; rfl
  apply Run.op; (apply L_asg; rfl; rfl); rfl; rfl
  apply Run.done; refine ⟨fun h => Bool.noConfusion h, ?_⟩
  apply x3
  obtain ⟨v20, hv20, H⟩ := bindS H
  have hl21 := setI_lenS hv20
  refine CodeT.weak (Ent.soften (l := 100000) rfl (row_softM (sz := 3) hv20 hy17 (fun _ => rfl) (by decide) rfl)) ?_
  (repeat apply CodeT.seq)
  refine CodeT.weak (Ent.relen (k := 0) (n' := v20.length) rfl (by first | (simp only [setI_len]; done) | (simp only [setI_len]; omega) | omega)) ?_
  obtain ⟨y22, hy22, H⟩ := bindS H
  refine CodeT.expose (l := 100000) (c := v15.toNat * 3 + 1) rfl (row_ld (o := 1) hy22 rfl (fun _ => rfl)) (fun wy22 => ?_)
  apply CodeT.region (fun _ => PPm)
  apply Run.op; (apply L_mov; rfl; rfl); rfl; rfl
  apply Run.op; (apply L_mov; rfl; rfl); rfl; rfl
  apply Run.op; (apply L_ixR2; rfl; rfl; rfl; (exact hy22); rfl; rfl); rfl; rfl
  apply Run.op; (apply L_fldP; rfl; rfl; (exact row_posS (sz := 3) hy22 (fun _ => rfl) (by decide)); rfl); rfl; rfl
  apply Run.op; (apply Local.forget Forg.was; apply L_ldP; rfl; rfl; (exact set_self (row_ld (o := 1) hy22 rfl (fun _ => rfl))); (exact .inr rfl); rfl); rfl; rfl
  apply Run.op; (apply L_mov; rfl; rfl); rfl; rfl
  obtain ⟨r24, hr24, H⟩ := bindS H
  apply Run.op; (apply L_callM (l := 100000) (off := v15.toNat * 3 + 1) (m := 1) (p := .rw 1 y22.fSeparator.length (y22.fSeparator.flatMap (encI .i64))) (p' := .rw 1 r24.2.length (r24.2.flatMap (encI .i64))); rfl; rfl; rfl; (exact set_cut (row_ld (o := 1) hy22 rfl (fun _ => rfl))); rfl; rfl; (exact MCut.one); (exact mk_laws_markIntS y22.fSeparator r19.1 _ hr24); (exact set_cat (row_ld (o := 1) hy22 rfl (fun _ => rfl))); (exact hle); rfl); rfl; rfl
  apply Run.op; (apply L_asg; rfl; rfl); rfl; rfl
  apply Run.done; refine ⟨fun h => Bool.noConfusion h, ?_⟩
  apply x3
  obtain ⟨v25, hv25, H⟩ := bindS H
  have hl26 := setI_lenS hv25
  refine CodeT.weak (Ent.soften (l := 100000) rfl (row_softM (sz := 3) hv25 hy22 (fun _ => rfl) (by decide) rfl)) ?_
  (repeat apply CodeT.seq)
  refine CodeT.weak (Ent.relen (k := 0) (n' := v25.length) rfl (by first | (simp only [setI_len]; done) | (simp only [setI_len]; omega) | omega)) ?_
  apply CodeT.region (fun _ => PPm)
  apply Run.op; (apply L_mov; rfl; rfl); rfl; rfl
  apply Run.op; (apply L_mov; rfl; rfl); rfl; rfl
  apply Run.op; (apply L_mov; rfl; rfl); rfl; rfl
  obtain ⟨y27, hy27, H⟩ := bindS H
  apply Run.op; (apply L_ixR2; rfl; rfl; rfl; (exact hy27); rfl; rfl); rfl; rfl
  apply Run.op; (apply L_fldP; rfl; rfl; (exact row_pos (sz := 3) hy27 (fun _ => rfl) (by decide)); rfl); rfl; rfl
  obtain ⟨v28, hv28, H⟩ := bindS H
  have hl29 := setI_lenS hv28
  apply Run.op; (apply L_st; rfl; rfl; rfl; rfl; rfl; (intro h; cases h); (exact row_ble (sz := 3) (o := 2) (n := 1) hy27 (fun _ => rfl) (by decide)); (exact row_fldL (sz := 3) (o := 2) (n := 1) hv28 hy27 (fun _ => rfl) (by decide) rfl)); rfl; rfl
  apply Run.done; refine ⟨fun h => Bool.noConfusion h, ?_⟩
  apply x3
  refine CodeT.weak (Ent.relen (k := 0) (n' := v28.length) rfl (by first | (simp only [setI_len]; done) | (simp only [setI_len]; omega) | omega)) ?_
  apply CodeT.region (fun _ => PPm)
  apply Run.op; (apply L_mov; rfl; rfl); rfl; rfl
  apply Run.op; (apply L_add; rfl; rfl; rfl; rfl); rfl; rfl
  apply Run.op; (apply L_asg; rfl; rfl); rfl; rfl
  apply Run.done; refine ⟨fun h => Bool.noConfusion h, ?_⟩
  apply x5
  apply x3
  apply CodeT.region (fun _ => PPm)
  apply Run.op; (apply L_mov; rfl; rfl); rfl; rfl
  apply Run.op; (apply L_add; rfl; rfl; rfl; rfl); rfl; rfl
  apply Run.op; (apply L_asg; rfl; rfl); rfl; rfl
  apply Run.done; refine ⟨fun h => Bool.noConfusion h, ?_⟩
  obtain rfl := Option.some.inj H
  refine Ev.y1 ?_
  refine Ent.list [] (io0 hio _) rfl ?_ ?_ <;> (repeat' first | exact trivial | (refine And.intro ⟨_, rfl, fun h => (by first | rfl | exact Bool.noConfusion h)⟩ ?_))
  replace H := ifF (of_decide_eq_false h) H
  (repeat apply CodeT.seq)
  apply CodeT.exit
  apply x2
  obtain rfl := Option.some.inj H
  refine Ev.y3 ?_
  refine XEnv.mk ?_
  refine Ent.list [] (io0 hio _) rfl ?_ ?_ <;> (repeat' first | exact trivial | (refine And.intro ⟨_, rfl, fun h => (by first | rfl | exact Bool.noConfusion h)⟩ ?_))
  skip
  intro e E' hX; obtain ⟨rfl, g32⟩ := XEnv.out hX
  refine x6 rfl ?_
  apply x3
  refine CodeT.weak g32 ?_
  (repeat apply CodeT.seq)
  apply CodeT.region (fun _ => PPm)
  apply Run.op; (apply L_mov; rfl; rfl); rfl; rfl
  apply Run.op; (apply L_asg; rfl; rfl); rfl; rfl
  apply Run.done; refine ⟨fun h => Bool.noConfusion h, ?_⟩
  apply x3
  apply CodeT.ret
  cases H
  apply zn2
  exact RetN.mk (RetIs.sc1 rfl) rfl
theorem mk_laws_markCliqueS (a0 : (List Clique)) (a1 : Int) (r : (Int × (List Clique))) (H : laws_markCliqueS a0 a1 = some r) : MarkC Try.prog 38 (.rw 3 a0.length (a0.flatMap encWClique)) (.rw 3 r.2.length (r.2.flatMap encWClique)) (.int .i64 a1) (.int .i64 r.1) := by
  have h := m_laws_markCliqueS a0 a1 r H
  have hl := len_laws_markCliqueS a0 a1 r H
  rw [hl]; exact MarkC.ofN h
theorem m_laws_heldIntS (a0 : (List Int)) (a1 : Int) (r : Int) (H : laws_heldIntS a0 a1 = some r) : Meets Try.prog 22 [.sl a0.length (a0.flatMap (encI .i64)), .sc (.int .i64 a1)] (.sc (.int .i64 r)) true := by
  refine Meets.intro2 (N := 21) (rs := #[.tmp 4]) Try.func22 rfl rfl rfl rfl ?_
  intro Γ hio
  unfold laws_heldIntS at H
  (repeat apply CodeT.seq)
  apply CodeT.region (fun _ => PPm)
  apply Run.op; (apply L_asg; rfl; rfl); rfl; rfl
  apply Run.done; refine ⟨fun h => Bool.noConfusion h, ?_⟩
  apply x3
  (repeat apply CodeT.seq)
  apply CodeT.region (fun _ => PPm)
  apply Run.op; (apply L_asg; rfl; rfl); rfl; rfl
  apply Run.done; refine ⟨fun h => Bool.noConfusion h, ?_⟩
  apply x3
  (repeat apply CodeT.seq)
  apply CodeT.block
  (repeat apply CodeT.seq)
  obtain ⟨d5, hd5, H⟩ := bindS H
  refine CodeT.lloop (fun s => ⟨[(0, ⟨.sl a0.length (a0.flatMap (encI .i64)), false⟩), (1, ⟨.sc (.int .i64 s.1), false⟩), (5, ⟨.sc (.int .i64 s.2), false⟩)], []⟩) (fun x e E => match x with | (.inl d) => XEnv Γ (.exit 0) ⟨[(1, ⟨.sc (.int .i64 d), false⟩)], []⟩ e E | (.inr d) => XRet Γ #[.tmp 4] (.sc (.int .i64 d)) true e E) hd5 ?_ ?_ ?_
  refine Ent.list [] (io0 hio _) rfl ?_ ?_ <;> (repeat' first | exact trivial | (refine And.intro ⟨_, rfl, fun h => (by first | rfl | exact Bool.noConfusion h)⟩ ?_))
  clear H hd5
  rintro ⟨v2, v3⟩ o H
  unfold laws_heldIntS_L1 at H
  (repeat apply CodeT.seq)
  apply CodeT.region (fun _ => PPm)
  apply Run.op; (apply L_mov; rfl; rfl); rfl; rfl
  apply Run.op; (apply L_mov; rfl; rfl); rfl; rfl
  apply Run.op; (apply L_len; rfl; rfl); rfl; rfl
  apply Run.op; (apply L_lss; rfl; rfl; rfl); rfl; rfl
  apply Run.done; refine ⟨fun h => Bool.noConfusion h, ?_⟩
  apply x3
  (repeat apply CodeT.seq)
  refine CodeT.cond rfl (fun h => ?_) (fun h => ?_)
  replace H := ifT (of_decide_eq_true h) H
  (repeat apply CodeT.seq)
  apply CodeT.skip
  apply x3
  (repeat apply CodeT.seq)
  apply CodeT.block
  (repeat apply CodeT.seq)
  apply CodeT.region (fun _ => PPm)
  apply Run.op; (apply L_mov; rfl; rfl); rfl; rfl
  apply Run.op; (apply L_mov; rfl; rfl); rfl; rfl
  obtain ⟨y4, hy4, H⟩ := bindS H
  apply Run.op; (apply L_ixS2; rfl; rfl; rfl; (exact hy4); (intro _; rfl); rfl); rfl; rfl
  apply Run.op; (apply L_ldI; rfl; rfl; rfl; rfl); rfl; rfl
  apply Run.op; (apply L_mov; rfl; rfl); rfl; rfl
  apply Run.op; (apply L_neq; rfl; rfl; rfl); rfl; rfl
  apply Run.done; refine ⟨fun h => Bool.noConfusion h, ?_⟩
  apply x3
  (repeat apply CodeT.seq)
  refine CodeT.cond rfl (fun h => ?_) (fun h => ?_)
  replace H := ifT (of_decide_eq_true h) H
  (repeat apply CodeT.seq)
  apply CodeT.region (fun _ => PPm)
  apply Run.op; (apply L_asg; rfl; rfl); rfl; rfl
  apply Run.done; refine ⟨fun h => Bool.noConfusion h, ?_⟩
  apply x3
  apply CodeT.ret
  apply x1
  apply x4
  apply x1
  obtain rfl := Option.some.inj H
  refine Ev.y2 ?_
  refine XRet.mk ?_
  exact RetIs.sc1 rfl
  replace H := ifF (of_decide_eq_false h) H
  (repeat apply CodeT.seq)
  apply CodeT.skip
  apply x3
  apply CodeT.region (fun _ => PPm)
  apply Run.op; (apply L_mov; rfl; rfl); rfl; rfl
  apply Run.op; (apply L_add; rfl; rfl; rfl; rfl); rfl; rfl
  apply Run.op; (apply L_asg; rfl; rfl); rfl; rfl
  apply Run.done; refine ⟨fun h => Bool.noConfusion h, ?_⟩
  apply x5
  apply x3
  apply CodeT.region (fun _ => PPm)
  apply Run.op; (apply L_mov; rfl; rfl); rfl; rfl
  apply Run.op; (apply L_add; rfl; rfl; rfl; rfl); rfl; rfl
  apply Run.op; (apply L_asg; rfl; rfl); rfl; rfl
  apply Run.done; refine ⟨fun h => Bool.noConfusion h, ?_⟩
  obtain rfl := Option.some.inj H
  refine Ev.y1 ?_
  refine Ent.list [] (io0 hio _) rfl ?_ ?_ <;> (repeat' first | exact trivial | (refine And.intro ⟨_, rfl, fun h => (by first | rfl | exact Bool.noConfusion h)⟩ ?_))
  replace H := ifF (of_decide_eq_false h) H
  (repeat apply CodeT.seq)
  apply CodeT.exit
  apply x2
  obtain rfl := Option.some.inj H
  refine Ev.y3 ?_
  refine XEnv.mk ?_
  refine Ent.list [] (io0 hio _) rfl ?_ ?_ <;> (repeat' first | exact trivial | (refine And.intro ⟨_, rfl, fun h => (by first | rfl | exact Bool.noConfusion h)⟩ ?_))
  rcases d5 with (d6 | d8)
  intro e E' hX; obtain ⟨rfl, g7⟩ := XEnv.out hX
  refine x6 rfl ?_
  apply x3
  refine CodeT.weak g7 ?_
  (repeat apply CodeT.seq)
  apply CodeT.region (fun _ => PPm)
  apply Run.op; (apply L_mov; rfl; rfl); rfl; rfl
  apply Run.op; (apply L_asg; rfl; rfl); rfl; rfl
  apply Run.done; refine ⟨fun h => Bool.noConfusion h, ?_⟩
  apply x3
  apply CodeT.ret
  cases H
  apply x12
  exact RetIs.sc1 rfl
  intro e E' hX; obtain ⟨rfl, g9⟩ := XRet.out hX
  apply x4
  apply x1
  cases H
  apply x12
  exact g9
theorem m_laws_FnExactCliqueNodes (a0 : (List Clique)) (a1 : Int) (r : Bool) (H : laws_FnExactCliqueNodes a0 a1 = some r) : Meets Try.prog 6 [.sl a0.length (a0.flatMap encClique), .sc (.int .i64 a1)] (.sc (.bool r)) true := by
  refine Meets.introW2 (N := 74) (rs := #[.tmp 4]) Try.func6 rfl rfl rfl rfl rfl ?_
  intro Γ c0 c1 hio hle hi0 old0 old1
  unfold laws_FnExactCliqueNodes at H
  (repeat apply CodeT.seq)
  apply CodeT.region (fun _ => PPm)
  apply Run.op; (apply L_asg; rfl; rfl); rfl; rfl
  apply Run.done; refine ⟨fun h => Bool.noConfusion h, ?_⟩
  apply x3
  (repeat apply CodeT.seq)
  apply CodeT.region (fun _ => PPm)
  apply Run.op; (apply L_asg; rfl; rfl); rfl; rfl
  apply Run.done; refine ⟨fun h => Bool.noConfusion h, ?_⟩
  apply x3
  (repeat apply CodeT.seq)
  apply CodeT.region (fun _ => PPm)
  apply Run.op; (apply L_mov; rfl; rfl); rfl; rfl
  apply Run.op; (apply L_mov; rfl; rfl); rfl; rfl
  obtain ⟨r1, hr1, H⟩ := bindS H
  apply Run.op; (apply L_call; ((apply ArgsV.cons; (apply ArgV.val; rfl; rfl)); (apply ArgsV.cons; (apply ArgV.val; rfl; rfl)); (apply ArgsV.nil)); (exact m_laws_szCliqueS a0 1048576 _ hr1); rfl; rfl; rfl); rfl; rfl
  apply Run.op; (apply L_asg; rfl; rfl); rfl; rfl
  apply Run.done; refine ⟨fun h => Bool.noConfusion h, ?_⟩
  apply x3
  (repeat apply CodeT.seq)
  apply CodeT.region (fun _ => PPm)
  apply Run.op; (apply L_mov; rfl; rfl); rfl; rfl
  apply Run.op; (apply L_lss; rfl; rfl; rfl); rfl; rfl
  apply Run.done; refine ⟨fun h => Bool.noConfusion h, ?_⟩
  apply x3
  (repeat apply CodeT.seq)
  refine CodeT.cond rfl (fun h => ?_) (fun h => ?_)
  replace H := ifT (of_decide_eq_true h) H
  (repeat apply CodeT.seq)
  apply CodeT.region (fun _ => PPm)
  apply Run.op; (apply L_asg; rfl; rfl); rfl; rfl
  apply Run.done; refine ⟨fun h => Bool.noConfusion h, ?_⟩
  apply x3
  apply CodeT.ret
  apply x1
  cases H
  apply x12
  exact RetIs.sc1 rfl
  replace H := ifF (of_decide_eq_false h) H
  (repeat apply CodeT.seq)
  apply CodeT.skip
  apply x3
  (repeat apply CodeT.seq)
  apply CodeT.region (fun _ => PPm)
  apply Run.op; (apply L_mov; rfl; rfl); rfl; rfl
  obtain ⟨r2, hr2, H⟩ := bindS H
  apply Run.op; (apply L_call; ((apply ArgsV.cons; (apply ArgV.val; rfl; rfl)); (apply ArgsV.nil)); (exact m_laws_toCliqueS a0 _ hr2); rfl; rfl; rfl); rfl; rfl
  apply Run.op; (apply L_mov; rfl; rfl); rfl; rfl
  obtain ⟨r3, hr3, H⟩ := bindS H
  apply Run.op; (apply L_call; ((apply ArgsV.cons; (apply ArgV.valS; rfl; rfl; (exact (Soft.rw (SoftL.flat softClique _))))); (apply ArgsV.cons; (apply ArgV.val; rfl; rfl)); (apply ArgsV.nil)); (exact m_spec_CliqueNodes r2 a1 _ hr3); rfl; rfl; rfl); rfl; rfl
  apply Run.op; (apply L_asg; rfl; rfl); rfl; rfl
  apply Run.done; refine ⟨fun h => Bool.noConfusion h, ?_⟩
  apply x3
  refine CodeT.nameS 6 rfl (fun c4 => ?_)
  refine CodeT.weak (E' := ⟨[(0, ⟨.was c0 (.sl a0.length (a0.flatMap encClique)), false⟩), (1, ⟨.sc (.int .i64 a1), false⟩), (6, ⟨.was c4 (.sl r3.length (r3.flatMap (encI .i64))), false⟩)], []⟩) ?_ ?_
  refine Ent.list [] (io0 hio _) rfl ?_ ?_ <;> (repeat' first | exact trivial | (refine And.intro ⟨_, rfl, fun h => (by first | rfl | exact Bool.noConfusion h)⟩ ?_))
  refine CodeT.rebase Try.f6 rfl hi0 rfl rfl (fun Γ hio hle hi0 hS hO => ?_)
  have old0 := hS 0 _ _ _ rfl rfl
  have oldc4 := hS 6 _ _ _ rfl rfl
  (repeat apply CodeT.seq)
  apply CodeT.region (fun _ => PPm)
  apply Run.op; (apply L_mov; rfl; rfl); rfl; rfl
  obtain ⟨r5, hr5, H⟩ := bindS H
  apply Run.op; (apply L_callW; ((apply ArgsV.cons; (apply ArgV.val; rfl; rfl)); (apply ArgsV.nil)); (exact m_laws_toCliqueS a0 _ hr5); (exact io1 hio _); rfl); rfl; rfl
  apply Run.op; (apply L_asg; rfl; rfl); rfl; rfl
  apply Run.done; refine ⟨fun h => Bool.noConfusion h, ?_⟩
  apply x3
  (repeat apply CodeT.seq)
  apply CodeT.region (fun _ => PPm)
  apply Run.op; (apply L_mov; rfl; rfl); rfl; rfl
  apply Run.op; (apply L_mov; rfl; rfl); rfl; rfl
  obtain ⟨r6, hr6, H⟩ := bindS H
  apply Run.op; (apply L_callW; ((apply ArgsV.cons; (apply ArgV.refS; rfl; rfl; (exact (SoftL.flat softClique _)))); (apply ArgsV.cons; (apply ArgV.val; rfl; rfl)); (apply ArgsV.nil)); (exact m_impl_CliqueNodes r5 a1 _ hr6); (exact io1 hio _); rfl); rfl; rfl
  apply Run.op; (apply L_asg; rfl; rfl); rfl; rfl
  apply Run.done; refine ⟨fun h => Bool.noConfusion h, ?_⟩
  apply x3
  (repeat apply CodeT.seq)
  apply CodeT.region (fun _ => PPm)
  apply Run.op; (apply L_mov; rfl; rfl); rfl; rfl
  apply Run.op; (apply L_mov; rfl; rfl); rfl; rfl
  obtain ⟨r7, hr7, H⟩ := bindS H
  apply Run.op; (apply L_call; ((apply ArgsV.cons; (apply ArgV.ref; rfl; rfl; (exact Nat.le_of_eq (flat_len (fun _ => rfl))))); (apply ArgsV.cons; (apply ArgV.val; rfl; rfl)); (apply ArgsV.nil)); (exact m_laws_eqIntS r6 r3 _ hr7); rfl; rfl; rfl); rfl; rfl
  apply Run.op; (apply L_not; rfl; rfl); rfl; rfl
  apply Run.done; refine ⟨fun h => Bool.noConfusion h, ?_⟩
  apply x3
  (repeat apply CodeT.seq)
  refine CodeT.cond rfl (fun h => ?_) (fun h => ?_)
  replace H := ifFb (notT h) H
  (repeat apply CodeT.seq)
  apply CodeT.region (fun _ => PPm)
  apply Run.op; (apply L_asg; rfl; rfl); rfl; rfl
  apply Run.done; refine ⟨fun h => Bool.noConfusion h, ?_⟩
  apply x3
  apply CodeT.ret
  apply x1
  cases H
  apply x12
  exact RetIs.sc1 rfl
  replace H := ifTb (notF h) H
  (repeat apply CodeT.seq)
  apply CodeT.skip
  apply x3
  (repeat apply CodeT.seq)
  apply CodeT.region (fun _ => PPm)
  apply Run.op; (apply L_mov; rfl; rfl); rfl; rfl
  apply Run.op; (apply L_mov; rfl; rfl); rfl; rfl
  obtain ⟨r8, hr8, H⟩ := bindS H
  apply Run.op; (apply L_callW; ((apply ArgsV.cons; (apply ArgV.val; rfl; rfl)); (apply ArgsV.nil)); (exact m_laws_toCliqueS a0 _ hr8); (exact io1 hio _); rfl); rfl; rfl
  obtain ⟨r9, hr9, H⟩ := bindS H
  apply Run.op; (apply L_call; ((apply ArgsV.cons; (apply ArgV.refS; rfl; rfl; (exact (SoftL.flat softClique _)))); (apply ArgsV.cons; (apply ArgV.refS; rfl; rfl; (exact (SoftL.flat softClique _)))); (apply ArgsV.nil)); (exact m_laws_eqCliqueS r5 r8 _ hr9); rfl; rfl; rfl); rfl; rfl
  apply Run.op; (apply L_not; rfl; rfl); rfl; rfl
  apply Run.done; refine ⟨fun h => Bool.noConfusion h, ?_⟩
  apply x3
  (repeat apply CodeT.seq)
  refine CodeT.cond rfl (fun h => ?_) (fun h => ?_)
  replace H := ifFb (notT h) H
  (repeat apply CodeT.seq)
  apply CodeT.region (fun _ => PPm)
  apply Run.op; (apply L_asg; rfl; rfl); rfl; rfl
  apply Run.done; refine ⟨fun h => Bool.noConfusion h, ?_⟩
  apply x3
  apply CodeT.ret
  apply x1
  cases H
  apply x12
  exact RetIs.sc1 rfl
  replace H := ifTb (notF h) H
  (repeat apply CodeT.seq)
  apply CodeT.skip
  apply x3
  (repeat apply CodeT.seq)
  apply CodeT.region (fun _ => PPm)
  apply Run.op; (apply L_asg; rfl; rfl); rfl; rfl
  apply Run.done; refine ⟨fun h => Bool.noConfusion h, ?_⟩
  apply x3
  (repeat apply CodeT.seq)
  refine CodeT.weak (Ent.sleep (k := 0) rfl) ?_
  refine CodeT.weak (Ent.sleep (k := 6) rfl) ?_
  refine CodeT.weak (E' := ⟨[(0, ⟨.sc c0, false⟩), (1, ⟨.sc (.int .i64 a1), false⟩), (6, ⟨.sc c4, false⟩), (7, ⟨.ref 507 3 0 r5.length, false⟩), (8, ⟨.ref 508 1 0 r6.length, false⟩), (9, ⟨.sc (.int .i64 1), false⟩)], [(507, some ⟨r5.flatMap encWClique, true, false⟩), (508, some ⟨r6.flatMap (encI .i64), true, false⟩)]⟩) ?_ ?_
  refine Ent.list [(507, 23), (508, 26)] (io0 hio _) rfl ?_ ?_ <;> (repeat' first | exact trivial | (refine And.intro ⟨_, rfl, fun h => (by first | rfl | exact Bool.noConfusion h)⟩ ?_))
  apply CodeT.region (fun _ => PPm)
  apply Run.op; (apply L_mov; rfl; rfl); rfl; rfl
  apply Run.op; (apply L_mov; rfl; rfl); rfl; rfl
  obtain ⟨r10, hr10, H⟩ := bindS H
  have hl11 := len_laws_markCliqueS r5 1 _ hr10
  apply Run.op; (apply L_callN (l := 507); ((apply ArgsX.cons (l := []) (m := []); (apply ArgX.io (p := .ref 100000 3 0 r5.length); rfl)); (apply ArgsX.cons (l := []) (m := []); (apply ArgX.val; (apply ArgV.val; rfl; rfl); rfl)); (apply ArgsX.nil)); (exact m_laws_markCliqueS r5 1 _ hr10); rfl; rfl; rfl; rfl; (exact hle); rfl); rfl; rfl
  apply Run.op; (apply L_asg; rfl; rfl); rfl; rfl
  apply Run.done; refine ⟨fun h => Bool.noConfusion h, ?_⟩
  apply x3
  refine CodeT.weak (Ent.wake (k := 0) rfl old0) ?_
  refine CodeT.weak (Ent.wake (k := 6) rfl oldc4) ?_
  (repeat apply CodeT.seq)
  obtain ⟨d14, hd14, H⟩ := bindS H
  refine CodeT.lcut (x := d14) (fun d e E => XEnv Γ .normal ⟨[(0, ⟨.was c0 (.sl a0.length (a0.flatMap encClique)), false⟩), (1, ⟨.sc (.int .i64 a1), false⟩), (6, ⟨.was c4 (.sl r3.length (r3.flatMap (encI .i64))), false⟩), (8, ⟨.ref 508 1 0 r6.length, false⟩), (46, ⟨.sc (.bool d), false⟩)], [(508, some ⟨r6.flatMap (encI .i64), true, false⟩)]⟩ e E) ?_ ?_
  clear H; have H := hd14; clear hd14
  apply CodeT.region (fun _ => PPm)
  apply Run.op; (apply L_mov; rfl; rfl); rfl; rfl
  apply R_dec; (apply L_lss; rfl; rfl; rfl); rfl
  intro h; replace H := ifT h H
  apply Run.op; (apply L_mov; rfl; rfl); rfl; rfl
  apply Run.skip; rfl
  apply Run.skip; rfl
  apply Run.skip; rfl
  apply Run.skip; rfl
  apply Run.op; (apply L_pickT; rfl; rfl; rfl); rfl; rfl
  apply Run.done; refine ⟨fun h => Bool.noConfusion h, ?_⟩
  obtain rfl := Option.some.inj H
  refine Ev.y4 ?_
  refine XEnv.mk ?_
  refine Ent.list [] (io0 hio _) rfl ?_ ?_ <;> (repeat' first | exact trivial | (refine And.intro ⟨_, rfl, fun h => (by first | rfl | exact Bool.noConfusion h)⟩ ?_))
  intro h; replace H := ifF h H
  apply Run.op; (apply L_mov; rfl; rfl); rfl; rfl
  apply Run.op; (apply L_mov; rfl; rfl); rfl; rfl
  apply Run.op; (apply L_mov; rfl; rfl); rfl; rfl
  obtain ⟨r12, hr12, H⟩ := bindS H
  apply Run.op; (apply L_call; ((apply ArgsV.cons; (apply ArgV.ref; rfl; rfl; (exact Nat.le_of_eq (flat_len (fun _ => rfl))))); (apply ArgsV.cons; (apply ArgV.val; rfl; rfl)); (apply ArgsV.nil)); (exact m_laws_eqIntS r6 r3 _ hr12); rfl; rfl; rfl); rfl; rfl
  apply Run.op; (apply L_not; rfl; rfl); rfl; rfl
  apply Run.op; (apply L_pickF; rfl; rfl; rfl); rfl; rfl
  apply Run.done; refine ⟨fun h => Bool.noConfusion h, ?_⟩
  obtain rfl := Option.some.inj H
  refine Ev.y4 ?_
  refine XEnv.mk ?_
  refine Ent.list [] (io0 hio _) rfl ?_ ?_ <;> (repeat' first | exact trivial | (refine And.intro ⟨_, rfl, fun h => (by first | rfl | exact Bool.noConfusion h)⟩ ?_))
  intro e E' hX; obtain ⟨rfl, g15⟩ := XEnv.out hX
  apply x3
  refine CodeT.weak g15 ?_
  (repeat apply CodeT.seq)
  refine CodeT.cond rfl (fun h => ?_) (fun h => ?_)
  replace H := ifTb h H
  (repeat apply CodeT.seq)
  apply CodeT.region (fun _ => PPm)
  apply Run.op; (apply L_asg; rfl; rfl); rfl; rfl
  apply Run.done; refine ⟨fun h => Bool.noConfusion h, ?_⟩
  apply x3
  apply CodeT.ret
  apply x1
  cases H
  apply x12
  exact RetIs.sc1 rfl
  replace H := ifFb h H
  (repeat apply CodeT.seq)
  apply CodeT.skip
  apply x3
  (repeat apply CodeT.seq)
  apply CodeT.region (fun _ => PPm)
  apply Run.op; (apply L_asg; rfl; rfl); rfl; rfl
  apply Run.done; refine ⟨fun h => Bool.noConfusion h, ?_⟩
  apply x3
  (repeat apply CodeT.seq)
  apply CodeT.region (fun _ => PPm)
  apply Run.op; (apply L_mov; rfl; rfl); rfl; rfl
  apply Run.op; (apply L_mov; rfl; rfl); rfl; rfl
  obtain ⟨r16, hr16, H⟩ := bindS H
  have hl17 := len_laws_markIntS r6 1 _ hr16
  apply Run.op; (apply L_callX [(100000, 508)]; ((apply ArgsX.cons; (apply ArgX.io (p := .ref 100000 1 0 r6.length); rfl)); (apply ArgsX.cons; (apply ArgX.val; (apply ArgV.val; rfl; rfl); rfl)); (apply ArgsX.nil)); (exact m_laws_markIntS r6 1 _ hr16); ((apply ObsX.cons; rfl; (exact allSc_flat (fun _ => rfl))); (apply ObsX.nil)); rfl; rfl; rfl; rfl; rfl); rfl; rfl
  apply Run.op; (apply L_asg; rfl; rfl); rfl; rfl
  apply Run.done; refine ⟨fun h => Bool.noConfusion h, ?_⟩
  apply x3
  (repeat apply CodeT.seq)
  refine CodeT.weak (Ent.relen (k := 8) (n' := r16.2.length) rfl (by first | (simp only [setI_len]; done) | (simp only [setI_len]; omega) | omega)) ?_
  apply CodeT.region (fun _ => PPm)
  apply Run.op; (apply L_asg; rfl; rfl); rfl; rfl
  apply Run.done; refine ⟨fun h => Bool.noConfusion h, ?_⟩
  apply x3
  (repeat apply CodeT.seq)
  apply CodeT.region (fun _ => PPm)
  apply Run.op; (apply L_mov; rfl; rfl); rfl; rfl
  apply Run.op; (apply L_mov; rfl; rfl); rfl; rfl
  obtain ⟨r18, hr18, H⟩ := bindS H
  apply Run.op; (apply L_call; ((apply ArgsV.cons; (apply ArgV.ref; rfl; rfl; (exact Nat.le_of_eq (flat_len (fun _ => rfl))))); (apply ArgsV.cons; (apply ArgV.val; rfl; rfl)); (apply ArgsV.nil)); (exact m_laws_heldIntS r16.2 1 _ hr18); rfl; rfl; rfl); rfl; rfl
  apply Run.op; (apply L_asg; rfl; rfl); rfl; rfl
  apply Run.done; refine ⟨fun h => Bool.noConfusion h, ?_⟩
  apply x3
  (repeat apply CodeT.seq)
  apply CodeT.region (fun _ => PPm)
  apply Run.op; (apply L_mov; rfl; rfl); rfl; rfl
  apply Run.op; (apply L_lss; rfl; rfl; rfl); rfl; rfl
  apply Run.done; refine ⟨fun h => Bool.noConfusion h, ?_⟩
  apply x3
  (repeat apply CodeT.seq)
  refine CodeT.cond rfl (fun h => ?_) (fun h => ?_)
  replace H := ifT (of_decide_eq_true h) H
  (repeat apply CodeT.seq)
  apply CodeT.region (fun _ => PPm)
  apply Run.op; (apply L_asg; rfl; rfl); rfl; rfl
  apply Run.done; refine ⟨fun h => Bool.noConfusion h, ?_⟩
  apply x3
  apply CodeT.ret
  apply x1
  cases H
  apply x12
  exact RetIs.sc1 rfl
  replace H := ifF (of_decide_eq_false h) H
  (repeat apply CodeT.seq)
  apply CodeT.skip
  apply x3
  (repeat apply CodeT.seq)
  apply CodeT.region (fun _ => PPm)
  apply Run.op; (apply L_mov; rfl; rfl); rfl; rfl
  apply Run.op; (apply L_mov; rfl; rfl); rfl; rfl
  apply Run.op; (apply L_neq; rfl; rfl; rfl); rfl; rfl
  apply Run.done; refine ⟨fun h => Bool.noConfusion h, ?_⟩
  apply x3
  (repeat apply CodeT.seq)
  refine CodeT.cond rfl (fun h => ?_) (fun h => ?_)
  replace H := ifT (of_decide_eq_true h) H
  (repeat apply CodeT.seq)
  apply CodeT.region (fun _ => PPm)
  apply Run.op; (apply L_asg; rfl; rfl); rfl; rfl
  apply Run.done; refine ⟨fun h => Bool.noConfusion h, ?_⟩
  apply x3
  apply CodeT.ret
  apply x1
  cases H
  apply x12
  exact RetIs.sc1 rfl
  replace H := ifF (of_decide_eq_false h) H
  (repeat apply CodeT.seq)
  apply CodeT.skip
  apply x3
  (repeat apply CodeT.seq)
  apply CodeT.region (fun _ => PPm)
  apply Run.op; (apply L_mov; rfl; rfl); rfl; rfl
  obtain ⟨r19, hr19, H⟩ := bindS H
  apply Run.op; (apply L_callW; ((apply ArgsV.cons; (apply ArgV.val; rfl; rfl)); (apply ArgsV.nil)); (exact m_laws_toCliqueS a0 _ hr19); (exact io1 hio _); rfl); rfl; rfl
  apply Run.op; (apply L_mov; rfl; rfl); rfl; rfl
  obtain ⟨r20, hr20, H⟩ := bindS H
  apply Run.op; (apply L_callW; ((apply ArgsV.cons; (apply ArgV.refS; rfl; rfl; (exact (SoftL.flat softClique _)))); (apply ArgsV.cons; (apply ArgV.val; rfl; rfl)); (apply ArgsV.nil)); (exact m_impl_CliqueNodes r19 a1 _ hr20); (exact io1 hio _); rfl); rfl; rfl
  apply Run.op; (apply L_asg; rfl; rfl); rfl; rfl
  apply Run.done; refine ⟨fun h => Bool.noConfusion h, ?_⟩
  apply x3
  (repeat apply CodeT.seq)
  apply CodeT.region (fun _ => PPm)
  apply Run.op; (apply L_mov; rfl; rfl); rfl; rfl
  apply Run.op; (apply L_mov; rfl; rfl); rfl; rfl
  obtain ⟨r21, hr21, H⟩ := bindS H
  apply Run.op; (apply L_call; ((apply ArgsV.cons; (apply ArgV.ref; rfl; rfl; (exact Nat.le_of_eq (flat_len (fun _ => rfl))))); (apply ArgsV.cons; (apply ArgV.val; rfl; rfl)); (apply ArgsV.nil)); (exact m_laws_eqIntS r20 r3 _ hr21); rfl; rfl; rfl); rfl; rfl
  apply Run.op; (apply L_not; rfl; rfl); rfl; rfl
  apply Run.done; refine ⟨fun h => Bool.noConfusion h, ?_⟩
  apply x3
  (repeat apply CodeT.seq)
  refine CodeT.cond rfl (fun h => ?_) (fun h => ?_)
  replace H := ifFb (notT h) H
  (repeat apply CodeT.seq)
  apply CodeT.region (fun _ => PPm)
  apply Run.op; (apply L_asg; rfl; rfl); rfl; rfl
  apply Run.done; refine ⟨fun h => Bool.noConfusion h, ?_⟩
  apply x3
  apply CodeT.ret
  apply x1
  cases H
  apply x12
  exact RetIs.sc1 rfl
  replace H := ifTb (notF h) H
  (repeat apply CodeT.seq)
  apply CodeT.skip
  apply x3
  (repeat apply CodeT.seq)
  apply CodeT.region (fun _ => PPm)
  apply Run.op; (apply L_asg; rfl; rfl); rfl; rfl
  apply Run.done; refine ⟨fun h => Bool.noConfusion h, ?_⟩
  apply x3
  (repeat apply CodeT.seq)
  apply CodeT.region (fun _ => PPm)
  apply Run.op; (apply L_mov; rfl; rfl); rfl; rfl
  apply Run.op; (apply L_mov; rfl; rfl); rfl; rfl
  obtain ⟨r22, hr22, H⟩ := bindS H
  apply Run.op; (apply L_call; ((apply ArgsV.cons; (apply ArgV.ref; rfl; rfl; (exact Nat.le_of_eq (flat_len (fun _ => rfl))))); (apply ArgsV.cons; (apply ArgV.val; rfl; rfl)); (apply ArgsV.nil)); (exact m_laws_heldIntS r16.2 1 _ hr22); rfl; rfl; rfl); rfl; rfl
  apply Run.op; (apply L_asg; rfl; rfl); rfl; rfl
  apply Run.done; refine ⟨fun h => Bool.noConfusion h, ?_⟩
  apply x3
  (repeat apply CodeT.seq)
  apply CodeT.region (fun _ => PPm)
  apply Run.op; (apply L_mov; rfl; rfl); rfl; rfl
  apply Run.op; (apply L_lss; rfl; rfl; rfl); rfl; rfl
  apply Run.done; refine ⟨fun h => Bool.noConfusion h, ?_⟩
  apply x3
  (repeat apply CodeT.seq)
  refine CodeT.cond rfl (fun h => ?_) (fun h => ?_)
  replace H := ifT (of_decide_eq_true h) H
  (repeat apply CodeT.seq)
  apply CodeT.region (fun _ => PPm)
  apply Run.op; (apply L_asg; rfl; rfl); rfl; rfl
  apply Run.done; refine ⟨fun h => Bool.noConfusion h, ?_⟩
  apply x3
  apply CodeT.ret
  apply x1
  cases H
  apply x12
  exact RetIs.sc1 rfl
  replace H := ifF (of_decide_eq_false h) H
  (repeat apply CodeT.seq)
  apply CodeT.skip
  apply x3
  (repeat apply CodeT.seq)
  apply CodeT.region (fun _ => PPm)
  apply Run.op; (apply L_mov; rfl; rfl); rfl; rfl
  apply Run.op; (apply L_mov; rfl; rfl); rfl; rfl
  apply Run.op; (apply L_neq; rfl; rfl; rfl); rfl; rfl
  apply Run.done; refine ⟨fun h => Bool.noConfusion h, ?_⟩
  apply x3
  (repeat apply CodeT.seq)
  refine CodeT.cond rfl (fun h => ?_) (fun h => ?_)
  replace H := ifT (of_decide_eq_true h) H
  (repeat apply CodeT.seq)
  apply CodeT.region (fun _ => PPm)
  apply Run.op; (apply L_asg; rfl; rfl); rfl; rfl
  apply Run.done; refine ⟨fun h => Bool.noConfusion h, ?_⟩
  apply x3
  apply CodeT.ret
  apply x1
  cases H
  apply x12
  exact RetIs.sc1 rfl
  replace H := ifF (of_decide_eq_false h) H
  (repeat apply CodeT.seq)
  apply CodeT.skip
  apply x3
  (repeat apply CodeT.seq)
  apply CodeT.region (fun _ => PPm)
  apply Run.op; (apply L_asg; rfl; rfl); rfl; rfl
  apply Run.done; refine ⟨fun h => Bool.noConfusion h, ?_⟩
  apply x3
  apply CodeT.ret
  cases H
  apply x12
  exact RetIs.sc1 rfl
theorem m_spec_l11Max (a0 : Int) (a1 : Int) (r : Int) (H : spec_l11Max a0 a1 = some r) : Meets Try.prog 83 [.sc (.int .i64 a0), .sc (.int .i64 a1)] (.sc (.int .i64 r)) true := by
  refine Meets.intro2 (N := 10) (rs := #[.tmp 4]) Try.func83 rfl rfl rfl rfl ?_
  intro Γ hio
  unfold spec_l11Max at H
  (repeat apply CodeT.seq)
  apply CodeT.region (fun _ => PPm)
  apply Run.op; (apply L_asg; rfl; rfl); rfl; rfl
  apply Run.done; refine ⟨fun h => Bool.noConfusion h, ?_⟩
  apply x3
  (repeat apply CodeT.seq)
  apply CodeT.region (fun _ => PPm)
  apply Run.op; (apply L_mov; rfl; rfl); rfl; rfl
  apply Run.op; (apply L_mov; rfl; rfl); rfl; rfl
  apply Run.op; (apply L_gtr; rfl; rfl; rfl); rfl; rfl
  apply Run.done; refine ⟨fun h => Bool.noConfusion h, ?_⟩
  apply x3
  (repeat apply CodeT.seq)
  refine CodeT.cond rfl (fun h => ?_) (fun h => ?_)
  replace H := ifT (of_decide_eq_true h) H
  (repeat apply CodeT.seq)
  apply CodeT.region (fun _ => PPm)
  apply Run.op; (apply L_mov; rfl; rfl); rfl; rfl
  apply Run.op; (apply L_asg; rfl; rfl); rfl; rfl
  apply Run.done; refine ⟨fun h => Bool.noConfusion h, ?_⟩
  apply x3
  apply CodeT.ret
  apply x1
  cases H
  apply x12
  exact RetIs.sc1 rfl
  replace H := ifF (of_decide_eq_false h) H
  (repeat apply CodeT.seq)
  apply CodeT.skip
  apply x3
  (repeat apply CodeT.seq)
  apply CodeT.region (fun _ => PPm)
  apply Run.op; (apply L_mov; rfl; rfl); rfl; rfl
  apply Run.op; (apply L_asg; rfl; rfl); rfl; rfl
  apply Run.done; refine ⟨fun h => Bool.noConfusion h, ?_⟩
  apply x3
  apply CodeT.ret
  cases H
  apply x12
  exact RetIs.sc1 rfl
theorem m_spec_WidestClique (a0 : (List Clique)) (r : Int) (H : spec_WidestClique a0 = some r) : Meets Try.prog 32 [.sl a0.length (a0.flatMap encClique)] (.sc (.int .i64 r)) true := by
  refine Meets.intro2 (N := 19) (rs := #[.tmp 2]) Try.func32 rfl rfl rfl rfl ?_
  intro Γ hio
  unfold spec_WidestClique at H
  (repeat apply CodeT.seq)
  apply CodeT.region (fun _ => PPm)
  apply Run.op; (apply L_asg; rfl; rfl); rfl; rfl
  apply Run.done; refine ⟨fun h => Bool.noConfusion h, ?_⟩
  apply x3
  (repeat apply CodeT.seq)
  apply CodeT.region (fun _ => PPm)
  apply Run.op; (apply L_asg; rfl; rfl); rfl; rfl
  apply Run.done; refine ⟨fun h => Bool.noConfusion h, ?_⟩
  apply x3
  (repeat apply CodeT.seq)
  apply CodeT.region (fun _ => PPm)
  apply Run.op; (apply L_mov; rfl; rfl); rfl; rfl
  apply Run.op; (apply L_len; rfl; rfl); rfl; rfl
  apply Run.op; (apply L_mov; rfl; rfl); rfl; rfl
  apply Run.done; refine ⟨fun h => Bool.noConfusion h, ?_⟩
  apply x3
  (repeat apply CodeT.seq)
  apply CodeT.block
  (repeat apply CodeT.seq)
  obtain ⟨d10, hd10, H⟩ := bindS H
  refine CodeT.lloop (fun s => ⟨[(3, ⟨.sc (.int .i64 s.1), false⟩), (6, ⟨.sl a0.length (a0.flatMap encClique), false⟩), (7, ⟨.sc (.int .i64 (a0.length : Int)), false⟩), (8, ⟨.sc (.int .i64 s.2), false⟩)], []⟩) (fun d e E => XEnv Γ (.exit 0) ⟨[(3, ⟨.sc (.int .i64 d), false⟩)], []⟩ e E) hd10 ?_ ?_ ?_
  refine Ent.list [] (io0 hio _) rfl ?_ ?_ <;> (repeat' first | exact trivial | (refine And.intro ⟨_, rfl, fun h => (by first | rfl | exact Bool.noConfusion h)⟩ ?_))
  clear H hd10
  rintro ⟨v4, v5⟩ o H
  unfold spec_WidestClique_L1 at H
  (repeat apply CodeT.seq)
  apply CodeT.region (fun _ => PPm)
  apply Run.op; (apply L_lss; rfl; rfl; rfl); rfl; rfl
  apply Run.done; refine ⟨fun h => Bool.noConfusion h, ?_⟩
  apply x3
  (repeat apply CodeT.seq)
  refine CodeT.cond rfl (fun h => ?_) (fun h => ?_)
  replace H := ifT (of_decide_eq_true h) H
  (repeat apply CodeT.seq)
  apply CodeT.skip
  apply x3
  (repeat apply CodeT.seq)
  apply CodeT.block
  (repeat apply CodeT.seq)
  apply CodeT.region (fun _ => PPm)
  obtain ⟨y6, hy6, H⟩ := bindS H
  apply Run.op; (apply L_ixS2; rfl; rfl; rfl; (exact hy6); (intro _; rfl); rfl); rfl; rfl
  apply Run.op; (apply L_ldIA; rfl; (first | exact take_whole rfl | rfl); rfl; (intro h; cases h); rfl; rfl); rfl; rfl
  apply Run.op; (apply L_alloc false; (exact io1 hio _); rfl); rfl; rfl
  apply Run.op; (apply L_st; rfl; rfl; rfl; rfl; rfl; (intro h; cases h); rfl; (first | exact splice_whole rfl | rfl)); rfl; rfl
  apply Run.done; refine ⟨fun h => Bool.noConfusion h, ?_⟩
  apply x3
  apply CodeT.region (fun _ => PPm)
  apply Run.op; (apply L_mov; rfl; rfl); rfl; rfl
  apply Run.op; (apply L_ldPA; rfl; rfl; (first | exact seg_whole rfl | rfl); rfl; (intro h; cases h); (first | exact .inl rfl | exact .inr rfl); rfl); rfl; rfl
  obtain ⟨r7, hr7, H⟩ := bindS H
  apply Run.op; (apply L_call; ((apply ArgsV.cons; (apply ArgV.val; rfl; rfl)); (apply ArgsV.nil)); (exact m_spec_l14Nodes y6 _ hr7); rfl; rfl; rfl); rfl; rfl
  apply Run.op; (apply L_len; rfl; rfl); rfl; rfl
  obtain ⟨r8, hr8, H⟩ := bindS H
  apply Run.op; (apply L_call; ((apply ArgsV.cons; (apply ArgV.val; rfl; rfl)); (apply ArgsV.cons; (apply ArgV.val; rfl; rfl)); (apply ArgsV.nil)); (exact m_spec_l11Max v4 (r7.length : Int) _ hr8); rfl; rfl; rfl); rfl; rfl
  apply Run.op; (apply L_asg; rfl; rfl); rfl; rfl
  apply Run.done; refine ⟨fun h => Bool.noConfusion h, ?_⟩
  apply x5
  apply x3
  apply CodeT.region (fun _ => PPm)
  apply Run.op; (apply L_add; rfl; rfl; rfl; rfl); rfl; rfl
  apply Run.op; (apply L_mov; rfl; rfl); rfl; rfl
  apply Run.done; refine ⟨fun h => Bool.noConfusion h, ?_⟩
  obtain rfl := Option.some.inj H
  refine Ev.y1 ?_
  refine Ent.list [] (io0 hio _) rfl ?_ ?_ <;> (repeat' first | exact trivial | (refine And.intro ⟨_, rfl, fun h => (by first | rfl | exact Bool.noConfusion h)⟩ ?_))
  replace H := ifF (of_decide_eq_false h) H
  (repeat apply CodeT.seq)
  apply CodeT.exit
  apply x2
  obtain rfl := Option.some.inj H
  refine Ev.y3 ?_
  refine XEnv.mk ?_
  refine Ent.list [] (io0 hio _) rfl ?_ ?_ <;> (repeat' first | exact trivial | (refine And.intro ⟨_, rfl, fun h => (by first | rfl | exact Bool.noConfusion h)⟩ ?_))
  skip
  intro e E' hX; obtain ⟨rfl, g11⟩ := XEnv.out hX
  refine x6 rfl ?_
  apply x3
  refine CodeT.weak g11 ?_
  (repeat apply CodeT.seq)
  apply CodeT.region (fun _ => PPm)
  apply Run.op; (apply L_mov; rfl; rfl); rfl; rfl
  apply Run.op; (apply L_asg; rfl; rfl); rfl; rfl
  apply Run.done; refine ⟨fun h => Bool.noConfusion h, ?_⟩
  apply x3
  apply CodeT.ret
  cases H
  apply x12
  exact RetIs.sc1 rfl
theorem m_impl_WidestClique (a0 : (List Clique)) (r : Int) (H : impl_WidestClique a0 = some r) : Meets Try.prog 34 [.sl a0.length (a0.flatMap encClique)] (.sc (.int .i64 r)) true := by
  refine Meets.intro2 (N := 18) (rs := #[.tmp 2]) Try.func34 rfl rfl rfl rfl ?_
  intro Γ hio
  unfold impl_WidestClique at H
  (repeat apply CodeT.seq)
  apply CodeT.region (fun _ => PPm)
  apply Run.op; (apply L_asg; rfl; rfl); rfl; rfl
  apply Run.done; refine ⟨fun h => Bool.noConfusion h, ?_⟩
  apply x3
  (repeat apply CodeT.seq)
  apply CodeT.region (fun _ => PPm)
  apply Run.op; (apply L_asg; rfl; rfl); rfl; rfl
  apply Run.done; refine ⟨fun h => Bool.noConfusion h, ?_⟩
  apply x3
  (repeat apply CodeT.seq)
  apply CodeT.region (fun _ => PPm)
  apply Run.op; (apply L_mov; rfl; rfl); rfl; rfl
  apply Run.op; (apply L_len; rfl; rfl); rfl; rfl
  apply Run.op; (apply L_mov; rfl; rfl); rfl; rfl
  apply Run.done; refine ⟨fun h => Bool.noConfusion h, ?_⟩
  apply x3
  (repeat apply CodeT.seq)
  apply CodeT.block
  (repeat apply CodeT.seq)
  obtain ⟨d6, hd6, H⟩ := bindS H
  refine CodeT.lloop (fun s => ⟨[(0, ⟨.sl a0.length (a0.flatMap encClique), false⟩), (3, ⟨.sc (.int .i64 s.1), false⟩), (6, ⟨.sc (.int .i64 (a0.length : Int)), false⟩), (7, ⟨.sc (.int .i64 s.2), false⟩)], []⟩) (fun d e E => XEnv Γ (.exit 0) ⟨[(3, ⟨.sc (.int .i64 d), false⟩)], []⟩ e E) hd6 ?_ ?_ ?_
  refine Ent.list [] (io0 hio _) rfl ?_ ?_ <;> (repeat' first | exact trivial | (refine And.intro ⟨_, rfl, fun h => (by first | rfl | exact Bool.noConfusion h)⟩ ?_))
  clear H hd6
  rintro ⟨v2, v3⟩ o H
  unfold impl_WidestClique_L1 at H
  (repeat apply CodeT.seq)
  apply CodeT.region (fun _ => PPm)
  apply Run.op; (apply L_lss; rfl; rfl; rfl); rfl; rfl
  apply Run.done; refine ⟨fun h => Bool.noConfusion h, ?_⟩
  apply x3
  (repeat apply CodeT.seq)
  refine CodeT.cond rfl (fun h => ?_) (fun h => ?_)
  replace H := ifT (of_decide_eq_true h) H
  (repeat apply CodeT.seq)
  apply CodeT.skip
  apply x3
  (repeat apply CodeT.seq)
  apply CodeT.block
  (repeat apply CodeT.seq)
  apply CodeT.region (fun _ => PPm)
  apply Run.op; (apply L_mov; rfl; rfl); rfl; rfl
  apply Run.op; (apply L_asg; rfl; rfl); rfl; rfl
  apply Run.done; refine ⟨fun h => Bool.noConfusion h, ?_⟩
  apply x3
  apply CodeT.region (fun _ => PPm)
  apply Run.op; (apply L_mov; rfl; rfl); rfl; rfl
  apply Run.op; (apply L_mov; rfl; rfl); rfl; rfl
  apply Run.op; (apply L_mov; rfl; rfl); rfl; rfl
  obtain ⟨r4, hr4, H⟩ := bindS H
  apply Run.op; (apply L_callW; ((apply ArgsV.cons; (apply ArgV.val; rfl; rfl)); (apply ArgsV.cons; (apply ArgV.val; rfl; rfl)); (apply ArgsV.nil)); (exact m_impl_CliqueNodes a0 v3 _ hr4); (exact io1 hio _); rfl); rfl; rfl
  apply Run.op; (apply L_lenR; rfl; rfl; rfl); rfl; rfl
  apply Run.op; (apply L_max; rfl; rfl; rfl); rfl; rfl
  apply Run.op; (apply L_asg; rfl; rfl); rfl; rfl
  apply Run.done; refine ⟨fun h => Bool.noConfusion h, ?_⟩
  apply x5
  apply x3
  apply CodeT.region (fun _ => PPm)
  apply Run.op; (apply L_add; rfl; rfl; rfl; rfl); rfl; rfl
  apply Run.op; (apply L_mov; rfl; rfl); rfl; rfl
  apply Run.done; refine ⟨fun h => Bool.noConfusion h, ?_⟩
  obtain rfl := Option.some.inj H
  refine Ev.y1 ?_
  refine Ent.list [] (io0 hio _) rfl ?_ ?_ <;> (repeat' first | exact trivial | (refine And.intro ⟨_, rfl, fun h => (by first | rfl | exact Bool.noConfusion h)⟩ ?_))
  replace H := ifF (of_decide_eq_false h) H
  (repeat apply CodeT.seq)
  apply CodeT.exit
  apply x2
  obtain rfl := Option.some.inj H
  refine Ev.y3 ?_
  refine XEnv.mk ?_
  refine Ent.list [] (io0 hio _) rfl ?_ ?_ <;> (repeat' first | exact trivial | (refine And.intro ⟨_, rfl, fun h => (by first | rfl | exact Bool.noConfusion h)⟩ ?_))
  skip
  intro e E' hX; obtain ⟨rfl, g7⟩ := XEnv.out hX
  refine x6 rfl ?_
  apply x3
  refine CodeT.weak g7 ?_
  (repeat apply CodeT.seq)
  apply CodeT.region (fun _ => PPm)
  apply Run.op; (apply L_mov; rfl; rfl); rfl; rfl
  apply Run.op; (apply L_asg; rfl; rfl); rfl; rfl
  apply Run.done; refine ⟨fun h => Bool.noConfusion h, ?_⟩
  apply x3
  apply CodeT.ret
  cases H
  apply x12
  exact RetIs.sc1 rfl
theorem m_laws_FnExactWidestClique (a0 : (List Clique)) (r : Bool) (H : laws_FnExactWidestClique a0 = some r) : Meets Try.prog 5 [.sl a0.length (a0.flatMap encClique)] (.sc (.bool r)) true := by
  refine Meets.intro2 (N := 27) (rs := #[.tmp 2]) Try.func5 rfl rfl rfl rfl ?_
  intro Γ hio
  unfold laws_FnExactWidestClique at H
  (repeat apply CodeT.seq)
  apply CodeT.region (fun _ => PPm)
  apply Run.op; (apply L_asg; rfl; rfl); rfl; rfl
  apply Run.done; refine ⟨fun h => Bool.noConfusion h, ?_⟩
  apply x3
  (repeat apply CodeT.seq)
  apply CodeT.region (fun _ => PPm)
  apply Run.op; (apply L_asg; rfl; rfl); rfl; rfl
  apply Run.done; refine ⟨fun h => Bool.noConfusion h, ?_⟩
  apply x3
  (repeat apply CodeT.seq)
  apply CodeT.region (fun _ => PPm)
  apply Run.op; (apply L_mov; rfl; rfl); rfl; rfl
  apply Run.op; (apply L_mov; rfl; rfl); rfl; rfl
  obtain ⟨r1, hr1, H⟩ := bindS H
  apply Run.op; (apply L_call; ((apply ArgsV.cons; (apply ArgV.val; rfl; rfl)); (apply ArgsV.cons; (apply ArgV.val; rfl; rfl)); (apply ArgsV.nil)); (exact m_laws_szCliqueS a0 1048576 _ hr1); rfl; rfl; rfl); rfl; rfl
  apply Run.op; (apply L_asg; rfl; rfl); rfl; rfl
  apply Run.done; refine ⟨fun h => Bool.noConfusion h, ?_⟩
  apply x3
  (repeat apply CodeT.seq)
  apply CodeT.region (fun _ => PPm)
  apply Run.op; (apply L_mov; rfl; rfl); rfl; rfl
  apply Run.op; (apply L_lss; rfl; rfl; rfl); rfl; rfl
  apply Run.done; refine ⟨fun h => Bool.noConfusion h, ?_⟩
  apply x3
  (repeat apply CodeT.seq)
  refine CodeT.cond rfl (fun h => ?_) (fun h => ?_)
  replace H := ifT (of_decide_eq_true h) H
  (repeat apply CodeT.seq)
  apply CodeT.region (fun _ => PPm)
  apply Run.op; (apply L_asg; rfl; rfl); rfl; rfl
  apply Run.done; refine ⟨fun h => Bool.noConfusion h, ?_⟩
  apply x3
  apply CodeT.ret
  apply x1
  cases H
  apply x12
  exact RetIs.sc1 rfl
  replace H := ifF (of_decide_eq_false h) H
  (repeat apply CodeT.seq)
  apply CodeT.skip
  apply x3
  (repeat apply CodeT.seq)
  apply CodeT.region (fun _ => PPm)
  apply Run.op; (apply L_mov; rfl; rfl); rfl; rfl
  obtain ⟨r2, hr2, H⟩ := bindS H
  apply Run.op; (apply L_callW; ((apply ArgsV.cons; (apply ArgV.val; rfl; rfl)); (apply ArgsV.nil)); (exact m_laws_toCliqueS a0 _ hr2); (exact io1 hio _); rfl); rfl; rfl
  obtain ⟨r3, hr3, H⟩ := bindS H
  apply Run.op; (apply L_call; ((apply ArgsV.cons; (apply ArgV.refS; rfl; rfl; (exact (SoftL.flat softClique _)))); (apply ArgsV.nil)); (exact m_spec_WidestClique r2 _ hr3); rfl; rfl; rfl); rfl; rfl
  apply Run.op; (apply L_asg; rfl; rfl); rfl; rfl
  apply Run.done; refine ⟨fun h => Bool.noConfusion h, ?_⟩
  apply x3
  (repeat apply CodeT.seq)
  apply CodeT.region (fun _ => PPm)
  apply Run.op; (apply L_mov; rfl; rfl); rfl; rfl
  obtain ⟨r4, hr4, H⟩ := bindS H
  apply Run.op; (apply L_callW; ((apply ArgsV.cons; (apply ArgV.val; rfl; rfl)); (apply ArgsV.nil)); (exact m_laws_toCliqueS a0 _ hr4); (exact io1 hio _); rfl); rfl; rfl
  apply Run.op; (apply L_asg; rfl; rfl); rfl; rfl
  apply Run.done; refine ⟨fun h => Bool.noConfusion h, ?_⟩
  apply x3
  (repeat apply CodeT.seq)
  apply CodeT.region (fun _ => PPm)
  apply Run.op; (apply L_mov; rfl; rfl); rfl; rfl
  obtain ⟨r5, hr5, H⟩ := bindS H
  apply Run.op; (apply L_call; ((apply ArgsV.cons; (apply ArgV.refS; rfl; rfl; (exact (SoftL.flat softClique _)))); (apply ArgsV.nil)); (exact m_impl_WidestClique r4 _ hr5); rfl; rfl; rfl); rfl; rfl
  apply Run.op; (apply L_asg; rfl; rfl); rfl; rfl
  apply Run.done; refine ⟨fun h => Bool.noConfusion h, ?_⟩
  apply x3
  (repeat apply CodeT.seq)
  apply CodeT.region (fun _ => PPm)
  apply Run.op; (apply L_mov; rfl; rfl); rfl; rfl
  apply Run.op; (apply L_mov; rfl; rfl); rfl; rfl
  apply Run.op; (apply L_neq; rfl; rfl; rfl); rfl; rfl
  apply Run.done; refine ⟨fun h => Bool.noConfusion h, ?_⟩
  apply x3
  (repeat apply CodeT.seq)
  refine CodeT.cond rfl (fun h => ?_) (fun h => ?_)
  replace H := ifT (of_decide_eq_true h) H
  (repeat apply CodeT.seq)
  apply CodeT.region (fun _ => PPm)
  apply Run.op; (apply L_asg; rfl; rfl); rfl; rfl
  apply Run.done; refine ⟨fun h => Bool.noConfusion h, ?_⟩
  apply x3
  apply CodeT.ret
  apply x1
  cases H
  apply x12
  exact RetIs.sc1 rfl
  replace H := ifF (of_decide_eq_false h) H
  (repeat apply CodeT.seq)
  apply CodeT.skip
  apply x3
  (repeat apply CodeT.seq)
  apply CodeT.region (fun _ => PPm)
  apply Run.op; (apply L_mov; rfl; rfl); rfl; rfl
  apply Run.op; (apply L_mov; rfl; rfl); rfl; rfl
  obtain ⟨r6, hr6, H⟩ := bindS H
  apply Run.op; (apply L_callW; ((apply ArgsV.cons; (apply ArgV.val; rfl; rfl)); (apply ArgsV.nil)); (exact m_laws_toCliqueS a0 _ hr6); (exact io1 hio _); rfl); rfl; rfl
  obtain ⟨r7, hr7, H⟩ := bindS H
  apply Run.op; (apply L_call; ((apply ArgsV.cons; (apply ArgV.refS; rfl; rfl; (exact (SoftL.flat softClique _)))); (apply ArgsV.cons; (apply ArgV.refS; rfl; rfl; (exact (SoftL.flat softClique _)))); (apply ArgsV.nil)); (exact m_laws_eqCliqueS r4 r6 _ hr7); rfl; rfl; rfl); rfl; rfl
  apply Run.op; (apply L_not; rfl; rfl); rfl; rfl
  apply Run.done; refine ⟨fun h => Bool.noConfusion h, ?_⟩
  apply x3
  (repeat apply CodeT.seq)
  refine CodeT.cond rfl (fun h => ?_) (fun h => ?_)
  replace H := ifFb (notT h) H
  (repeat apply CodeT.seq)
  apply CodeT.region (fun _ => PPm)
  apply Run.op; (apply L_asg; rfl; rfl); rfl; rfl
  apply Run.done; refine ⟨fun h => Bool.noConfusion h, ?_⟩
  apply x3
  apply CodeT.ret
  apply x1
  cases H
  apply x12
  exact RetIs.sc1 rfl
  replace H := ifTb (notF h) H
  (repeat apply CodeT.seq)
  apply CodeT.skip
  apply x3
  (repeat apply CodeT.seq)
  apply CodeT.region (fun _ => PPm)
  apply Run.op; (apply L_asg; rfl; rfl); rfl; rfl
  apply Run.done; refine ⟨fun h => Bool.noConfusion h, ?_⟩
  apply x3
  apply CodeT.ret
  cases H
  apply x12
  exact RetIs.sc1 rfl
theorem m_spec_l07Has (a0 : (List Int)) (a1 : Int) (r : Bool) (H : spec_l07Has a0 a1 = some r) : Meets Try.prog 96 [.sl a0.length (a0.flatMap (encI .i64)), .sc (.int .i64 a1)] (.sc (.bool r)) true := by
  refine Meets.intro2 (N := 17) (rs := #[.tmp 4]) Try.func96 rfl rfl rfl rfl ?_
  intro Γ hio
  unfold spec_l07Has at H
  (repeat apply CodeT.seq)
  apply CodeT.region (fun _ => PPm)
  apply Run.op; (apply L_asg; rfl; rfl); rfl; rfl
  apply Run.done; refine ⟨fun h => Bool.noConfusion h, ?_⟩
  apply x3
  (repeat apply CodeT.seq)
  apply CodeT.region (fun _ => PPm)
  apply Run.op; (apply L_mov; rfl; rfl); rfl; rfl
  apply Run.op; (apply L_len; rfl; rfl); rfl; rfl
  apply Run.op; (apply L_mov; rfl; rfl); rfl; rfl
  apply Run.done; refine ⟨fun h => Bool.noConfusion h, ?_⟩
  apply x3
  (repeat apply CodeT.seq)
  apply CodeT.block
  (repeat apply CodeT.seq)
  obtain ⟨d4, hd4, H⟩ := bindS H
  refine CodeT.lloop (fun s => ⟨[(1, ⟨.sc (.int .i64 a1), false⟩), (7, ⟨.sl a0.length (a0.flatMap (encI .i64)), false⟩), (8, ⟨.sc (.int .i64 (a0.length : Int)), false⟩), (9, ⟨.sc (.int .i64 s), false⟩)], []⟩) (fun x e E => match x with | (.inl d) => XEnv Γ (.exit 0) ⟨[], []⟩ e E | (.inr d) => XRet Γ #[.tmp 4] (.sc (.bool d)) true e E) hd4 ?_ ?_ ?_
  refine Ent.list [] (io0 hio _) rfl ?_ ?_ <;> (repeat' first | exact trivial | (refine And.intro ⟨_, rfl, fun h => (by first | rfl | exact Bool.noConfusion h)⟩ ?_))
  clear H hd4
  rintro v2 o H
  unfold spec_l07Has_L1 at H
  (repeat apply CodeT.seq)
  apply CodeT.region (fun _ => PPm)
  apply Run.op; (apply L_lss; rfl; rfl; rfl); rfl; rfl
  apply Run.done; refine ⟨fun h => Bool.noConfusion h, ?_⟩
  apply x3
  (repeat apply CodeT.seq)
  refine CodeT.cond rfl (fun h => ?_) (fun h => ?_)
  replace H := ifT (of_decide_eq_true h) H
  (repeat apply CodeT.seq)
  apply CodeT.skip
  apply x3
  (repeat apply CodeT.seq)
  apply CodeT.block
  (repeat apply CodeT.seq)
  apply CodeT.region (fun _ => PPm)
  obtain ⟨y3, hy3, H⟩ := bindS H
  apply Run.op; (apply L_ixS2; rfl; rfl; rfl; (exact hy3); (intro _; rfl); rfl); rfl; rfl
  apply Run.op; (apply L_ldI; rfl; rfl; rfl; rfl); rfl; rfl
  apply Run.op; (apply L_asg; rfl; rfl); rfl; rfl
  apply Run.done; refine ⟨fun h => Bool.noConfusion h, ?_⟩
  apply x3
  (repeat apply CodeT.seq)
  apply CodeT.region (fun _ => PPm)
  apply Run.op; (apply L_mov; rfl; rfl); rfl; rfl
  apply Run.op; (apply L_mov; rfl; rfl); rfl; rfl
  apply Run.op; (apply L_eql; rfl; rfl; rfl); rfl; rfl
  apply Run.done; refine ⟨fun h => Bool.noConfusion h, ?_⟩
  apply x3
  refine CodeT.cond rfl (fun h => ?_) (fun h => ?_)
  replace H := ifT (of_decide_eq_true h) H
  (repeat apply CodeT.seq)
  apply CodeT.region (fun _ => PPm)
  apply Run.op; (apply L_asg; rfl; rfl); rfl; rfl
  apply Run.done; refine ⟨fun h => Bool.noConfusion h, ?_⟩
  apply x3
  apply CodeT.ret
  apply x4
  apply x1
  obtain rfl := Option.some.inj H
  refine Ev.y2 ?_
  refine XRet.mk ?_
  exact RetIs.sc1 rfl
  replace H := ifF (of_decide_eq_false h) H
  (repeat apply CodeT.seq)
  apply CodeT.skip
  apply x5
  apply x3
  apply CodeT.region (fun _ => PPm)
  apply Run.op; (apply L_add; rfl; rfl; rfl; rfl); rfl; rfl
  apply Run.op; (apply L_mov; rfl; rfl); rfl; rfl
  apply Run.done; refine ⟨fun h => Bool.noConfusion h, ?_⟩
  obtain rfl := Option.some.inj H
  refine Ev.y1 ?_
  refine Ent.list [] (io0 hio _) rfl ?_ ?_ <;> (repeat' first | exact trivial | (refine And.intro ⟨_, rfl, fun h => (by first | rfl | exact Bool.noConfusion h)⟩ ?_))
  replace H := ifF (of_decide_eq_false h) H
  (repeat apply CodeT.seq)
  apply CodeT.exit
  apply x2
  obtain rfl := Option.some.inj H
  refine Ev.y3 ?_
  refine XEnv.mk ?_
  refine Ent.list [] (io0 hio _) rfl ?_ ?_ <;> (repeat' first | exact trivial | (refine And.intro ⟨_, rfl, fun h => (by first | rfl | exact Bool.noConfusion h)⟩ ?_))
  rcases d4 with (d5 | d7)
  intro e E' hX; obtain ⟨rfl, g6⟩ := XEnv.out hX
  refine x6 rfl ?_
  apply x3
  refine CodeT.weak g6 ?_
  (repeat apply CodeT.seq)
  apply CodeT.region (fun _ => PPm)
  apply Run.op; (apply L_asg; rfl; rfl); rfl; rfl
  apply Run.done; refine ⟨fun h => Bool.noConfusion h, ?_⟩
  apply x3
  apply CodeT.ret
  cases H
  apply x12
  exact RetIs.sc1 rfl
  intro e E' hX; obtain ⟨rfl, g8⟩ := XRet.out hX
  apply x4
  apply x1
  cases H
  apply x12
  exact g8
theorem m_spec_IsCliqueTree (a0 : (List Clique)) (r : Bool) (H : spec_IsCliqueTree a0 = some r) : Meets Try.prog 48 [.sl a0.length (a0.flatMap encClique)] (.sc (.bool r)) true := by
  refine Meets.intro2 (N := 72) (rs := #[.tmp 2]) Try.func48 rfl rfl rfl rfl ?_
  intro Γ hio
  unfold spec_IsCliqueTree at H
  (repeat apply CodeT.seq)
  apply CodeT.region (fun _ => PPm)
  apply Run.op; (apply L_asg; rfl; rfl); rfl; rfl
  apply Run.done; refine ⟨fun h => Bool.noConfusion h, ?_⟩
  apply x3
  (repeat apply CodeT.seq)
  apply CodeT.region (fun _ => PPm)
  apply Run.op; (apply L_bs0; (exact io1 hio _); rfl); rfl; rfl
  apply Run.op; (apply L_asg; rfl; rfl); rfl; rfl
  apply Run.done; refine ⟨fun h => Bool.noConfusion h, ?_⟩
  apply x3
  (repeat apply CodeT.seq)
  apply CodeT.region (fun _ => PPm)
  apply Run.op; (apply L_mov; rfl; rfl); rfl; rfl
  apply Run.op; (apply L_len; rfl; rfl); rfl; rfl
  apply Run.op; (apply L_mov; rfl; rfl); rfl; rfl
  apply Run.done; refine ⟨fun h => Bool.noConfusion h, ?_⟩
  apply x3
  (repeat apply CodeT.seq)
  apply CodeT.block
  (repeat apply CodeT.seq)
  obtain ⟨d67, hd67, H⟩ := bindS H
  refine CodeT.lloop (fun s => ⟨[(0, ⟨.sl a0.length (a0.flatMap encClique), false⟩), (3, ⟨.ref 503 1 0 s.2.length, false⟩), (11, ⟨.sl a0.length (a0.flatMap encClique), false⟩), (12, ⟨.sc (.int .i64 (a0.length : Int)), false⟩), (13, ⟨.sc (.int .i64 s.1), false⟩)], [(503, some ⟨s.2.flatMap (encI .i64), true, false⟩)]⟩) (fun x e E => match x with | (.inl d) => XEnv Γ (.exit 0) ⟨[], []⟩ e E | (.inr d) => XRet Γ #[.tmp 2] (.sc (.bool d)) true e E) hd67 ?_ ?_ ?_
  refine Ent.list [(503, 10)] (io0 hio _) rfl ?_ ?_ <;> (repeat' first | exact trivial | (refine And.intro ⟨_, rfl, fun h => (by first | rfl | exact Bool.noConfusion h)⟩ ?_))
  clear H hd67
  rintro ⟨v33, v34⟩ o H
  unfold spec_IsCliqueTree_L3 at H
  (repeat apply CodeT.seq)
  apply CodeT.region (fun _ => PPm)
  apply Run.op; (apply L_lss; rfl; rfl; rfl); rfl; rfl
  apply Run.done; refine ⟨fun h => Bool.noConfusion h, ?_⟩
  apply x3
  (repeat apply CodeT.seq)
  refine CodeT.cond rfl (fun h => ?_) (fun h => ?_)
  replace H := ifT (of_decide_eq_true h) H
  (repeat apply CodeT.seq)
  apply CodeT.skip
  apply x3
  (repeat apply CodeT.seq)
  apply CodeT.block
  (repeat apply CodeT.seq)
  apply CodeT.region (fun _ => PPm)
  apply Run.op; (apply L_mov; rfl; rfl); rfl; rfl
  obtain ⟨y35, hy35, H⟩ := bindS H
  apply Run.op; (apply L_ixS2; rfl; rfl; rfl; (exact hy35); (intro _; rfl); rfl); rfl; rfl
  apply Run.op; (apply L_ldIA; rfl; (first | exact take_whole rfl | rfl); rfl; (intro h; cases h); rfl; rfl); rfl; rfl
  apply Run.op; (apply L_alloc false; (exact io1 hio _); rfl); rfl; rfl
  apply Run.op; (apply L_asg; rfl; rfl); rfl; rfl
  apply Run.op; (apply L_st; rfl; rfl; rfl; rfl; rfl; (intro h; cases h); rfl; (first | exact splice_whole rfl | rfl)); rfl; rfl
  apply Run.done; refine ⟨fun h => Bool.noConfusion h, ?_⟩
  apply x3
  (repeat apply CodeT.seq)
  obtain ⟨d38, hd38, H⟩ := bindS H
  refine CodeT.lcut (x := d38) (fun d e E => XEnv Γ .normal ⟨[(0, ⟨.sl a0.length (a0.flatMap encClique), false⟩), (3, ⟨.ref 503 1 0 v34.length, false⟩), (5, ⟨.ptr 5 0, false⟩), (11, ⟨.sl a0.length (a0.flatMap encClique), false⟩), (12, ⟨.sc (.int .i64 (a0.length : Int)), false⟩), (13, ⟨.sc (.int .i64 v33), false⟩), (40, ⟨.sc (.bool d), false⟩)], [(5, some ⟨(encClique y35), false, false⟩), (503, some ⟨v34.flatMap (encI .i64), true, false⟩)]⟩ e E) ?_ ?_
  clear H; have H := hd38; clear hd38
  apply CodeT.region (fun _ => PPm)
  apply Run.op; (apply L_fldP; rfl; rfl; rfl; rfl); rfl; rfl
  apply Run.op; (apply L_ldP; rfl; rfl; rfl; (first | exact .inl rfl | exact .inr rfl); rfl); rfl; rfl
  apply Run.op; (apply L_len; rfl; rfl); rfl; rfl
  apply R_dec; (apply L_eql; rfl; rfl; rfl); rfl
  intro h; replace H := ifT h H
  apply Run.op; (apply L_mov; rfl; rfl); rfl; rfl
  apply Run.skip; rfl
  apply Run.skip; rfl
  apply Run.skip; rfl
  apply Run.skip; rfl
  apply Run.skip; rfl
  apply Run.skip; rfl
  apply Run.op; (apply L_pickT; rfl; rfl; rfl); rfl; rfl
  apply Run.op; (apply L_mov; rfl; rfl); rfl; rfl
  apply Run.skip; rfl
  apply Run.skip; rfl
  apply Run.skip; rfl
  apply Run.skip; rfl
  apply Run.skip; rfl
  apply Run.skip; rfl
  apply Run.skip; rfl
  apply Run.skip; rfl
  apply Run.skip; rfl
  apply Run.op; (apply L_pickT; rfl; rfl; rfl); rfl; rfl
  apply Run.done; refine ⟨fun h => Bool.noConfusion h, ?_⟩
  obtain rfl := Option.some.inj H
  refine Ev.y4 ?_
  refine XEnv.mk ?_
  refine Ent.list [] (io0 hio _) rfl ?_ ?_ <;> (repeat' first | exact trivial | (refine And.intro ⟨_, rfl, fun h => (by first | rfl | exact Bool.noConfusion h)⟩ ?_))
  intro h; replace H := ifF h H
  apply Run.op; (apply L_mov; rfl; rfl); rfl; rfl
  apply Run.op; (apply L_fldP; rfl; rfl; rfl; rfl); rfl; rfl
  apply Run.op; (apply L_ldP; rfl; rfl; rfl; (first | exact .inl rfl | exact .inr rfl); rfl); rfl; rfl
  apply Run.op; (apply L_mov; rfl; rfl); rfl; rfl
  apply Run.op; (apply L_sub; rfl; rfl; rfl; rfl); rfl; rfl
  obtain ⟨r36, hr36, H⟩ := bindS H
  apply R_bool; (apply L_call; ((apply ArgsV.cons; (apply ArgV.val; rfl; rfl)); (apply ArgsV.cons; (apply ArgV.val; rfl; rfl)); (apply ArgsV.cons; (apply ArgV.val; rfl; rfl)); (apply ArgsV.nil)); (exact m_spec_l01In y35.fUp (-1) (IntKind.i64.wrap (v33 - 1)) _ hr36); rfl; rfl; rfl); rfl
  intro h; replace H := ifTb h H
  apply Run.op; (apply L_not; rfl; rfl); rfl; rfl
  apply Run.op; (apply L_pickF; rfl; rfl; rfl); rfl; rfl
  apply Run.op; (apply L_mov; rfl; rfl); rfl; rfl
  apply Run.op; (apply L_fldP; rfl; rfl; rfl; rfl); rfl; rfl
  apply Run.op; (apply L_ldP; rfl; rfl; rfl; (first | exact .inl rfl | exact .inr rfl); rfl); rfl; rfl
  apply R_dec; (apply L_lss; rfl; rfl; rfl); rfl
  intro h; replace H := ifT h H
  apply Run.op; (apply L_mov; rfl; rfl); rfl; rfl
  apply Run.op; (apply L_fldP; rfl; rfl; rfl; rfl); rfl; rfl
  apply Run.op; (apply L_ldP; rfl; rfl; rfl; (first | exact .inl rfl | exact .inr rfl); rfl); rfl; rfl
  apply Run.op; (apply L_len; rfl; rfl); rfl; rfl
  apply Run.op; (apply L_gtr; rfl; rfl; rfl); rfl; rfl
  apply Run.op; (apply L_pickT; rfl; rfl; rfl); rfl; rfl
  apply Run.op; (apply L_pickF; rfl; rfl; rfl); rfl; rfl
  apply Run.done; refine ⟨fun h => Bool.noConfusion h, ?_⟩
  obtain rfl := Option.some.inj H
  refine Ev.y4 ?_
  refine XEnv.mk ?_
  refine Ent.list [] (io0 hio _) rfl ?_ ?_ <;> (repeat' first | exact trivial | (refine And.intro ⟨_, rfl, fun h => (by first | rfl | exact Bool.noConfusion h)⟩ ?_))
  intro h; replace H := ifF h H
  apply Run.op; (apply L_mov; rfl; rfl); rfl; rfl
  apply Run.skip; rfl
  apply Run.skip; rfl
  apply Run.skip; rfl
  apply Run.skip; rfl
  apply Run.op; (apply L_pickF; rfl; rfl; rfl); rfl; rfl
  apply Run.op; (apply L_pickF; rfl; rfl; rfl); rfl; rfl
  apply Run.done; refine ⟨fun h => Bool.noConfusion h, ?_⟩
  obtain rfl := Option.some.inj H
  refine Ev.y4 ?_
  refine XEnv.mk ?_
  refine Ent.list [] (io0 hio _) rfl ?_ ?_ <;> (repeat' first | exact trivial | (refine And.intro ⟨_, rfl, fun h => (by first | rfl | exact Bool.noConfusion h)⟩ ?_))
  intro h; replace H := ifFb h H
  apply Run.op; (apply L_not; rfl; rfl); rfl; rfl
  apply Run.op; (apply L_pickF; rfl; rfl; rfl); rfl; rfl
  apply Run.op; (apply L_mov; rfl; rfl); rfl; rfl
  apply Run.skip; rfl
  apply Run.skip; rfl
  apply Run.skip; rfl
  apply Run.skip; rfl
  apply Run.skip; rfl
  apply Run.skip; rfl
  apply Run.skip; rfl
  apply Run.skip; rfl
  apply Run.skip; rfl
  apply Run.op; (apply L_pickT; rfl; rfl; rfl); rfl; rfl
  apply Run.done; refine ⟨fun h => Bool.noConfusion h, ?_⟩
  obtain rfl := Option.some.inj H
  refine Ev.y4 ?_
  refine XEnv.mk ?_
  refine Ent.list [] (io0 hio _) rfl ?_ ?_ <;> (repeat' first | exact trivial | (refine And.intro ⟨_, rfl, fun h => (by first | rfl | exact Bool.noConfusion h)⟩ ?_))
  intro e E' hX; obtain ⟨rfl, g39⟩ := XEnv.out hX
  apply x3
  refine CodeT.weak g39 ?_
  (repeat apply CodeT.seq)
  refine CodeT.cond rfl (fun h => ?_) (fun h => ?_)
  replace H := ifTb h H
  (repeat apply CodeT.seq)
  apply CodeT.region (fun _ => PPm)
  apply Run.op; (apply L_asg; rfl; rfl); rfl; rfl
  apply Run.done; refine ⟨fun h => Bool.noConfusion h, ?_⟩
  apply x3
  apply CodeT.ret
  apply x1
  apply x4
  apply x1
  obtain rfl := Option.some.inj H
  refine Ev.y2 ?_
  refine XRet.mk ?_
  exact RetIs.sc1 rfl
  replace H := ifFb h H
  (repeat apply CodeT.seq)
  apply CodeT.skip
  apply x3
  (repeat apply CodeT.seq)
  apply CodeT.region (fun _ => PPm)
  apply Run.op; (apply L_fldP; rfl; rfl; rfl; rfl); rfl; rfl
  apply Run.op; (apply L_ldP; rfl; rfl; rfl; (first | exact .inl rfl | exact .inr rfl); rfl); rfl; rfl
  apply Run.op; (apply L_len; rfl; rfl); rfl; rfl
  apply Run.op; (apply L_mov; rfl; rfl); rfl; rfl
  apply Run.done; refine ⟨fun h => Bool.noConfusion h, ?_⟩
  apply x3
  (repeat apply CodeT.seq)
  apply CodeT.block
  (repeat apply CodeT.seq)
  obtain ⟨d50, hd50, H⟩ := bindS H
  refine CodeT.lloop (fun s => ⟨[(0, ⟨.sl a0.length (a0.flatMap encClique), false⟩), (3, ⟨.ref 503 1 0 s.2.length, false⟩), (5, ⟨.ptr 5 0, false⟩), (11, ⟨.sl a0.length (a0.flatMap encClique), false⟩), (12, ⟨.sc (.int .i64 (a0.length : Int)), false⟩), (13, ⟨.sc (.int .i64 v33), false⟩), (42, ⟨.sl y35.fFrontal.length (y35.fFrontal.flatMap (encI .i64)), false⟩), (43, ⟨.sc (.int .i64 (y35.fFrontal.length : Int)), false⟩), (44, ⟨.sc (.int .i64 s.1), false⟩)], [(5, some ⟨(encClique y35), false, false⟩), (503, some ⟨s.2.flatMap (encI .i64), true, false⟩)]⟩) (fun x e E => match x with | (.inl d) => XEnv Γ (.exit 2) ⟨[(0, ⟨.sl a0.length (a0.flatMap encClique), false⟩), (3, ⟨.ref 503 1 0 d.length, false⟩), (5, ⟨.ptr 5 0, false⟩), (11, ⟨.sl a0.length (a0.flatMap encClique), false⟩), (12, ⟨.sc (.int .i64 (a0.length : Int)), false⟩), (13, ⟨.sc (.int .i64 v33), false⟩)], [(5, some ⟨(encClique y35), false, false⟩), (503, some ⟨d.flatMap (encI .i64), true, false⟩)]⟩ e E | (.inr d) => XRet Γ #[.tmp 2] (.sc (.bool d)) true e E) hd50 ?_ ?_ ?_
  refine Ent.list [] (io0 hio _) rfl ?_ ?_ <;> (repeat' first | exact trivial | (refine And.intro ⟨_, rfl, fun h => (by first | rfl | exact Bool.noConfusion h)⟩ ?_))
  clear H hd50
  rintro ⟨v44, v45⟩ o H
  unfold spec_IsCliqueTree_L1 at H
  (repeat apply CodeT.seq)
  apply CodeT.region (fun _ => PPm)
  apply Run.op; (apply L_lss; rfl; rfl; rfl); rfl; rfl
  apply Run.done; refine ⟨fun h => Bool.noConfusion h, ?_⟩
  apply x3
  (repeat apply CodeT.seq)
  refine CodeT.cond rfl (fun h => ?_) (fun h => ?_)
  replace H := ifT (of_decide_eq_true h) H
  (repeat apply CodeT.seq)
  apply CodeT.skip
  apply x3
  (repeat apply CodeT.seq)
  apply CodeT.block
  (repeat apply CodeT.seq)
  apply CodeT.region (fun _ => PPm)
  obtain ⟨y46, hy46, H⟩ := bindS H
  apply Run.op; (apply L_ixS2; rfl; rfl; rfl; (exact hy46); (intro _; rfl); rfl); rfl; rfl
  apply Run.op; (apply L_ldI; rfl; rfl; rfl; rfl); rfl; rfl
  apply Run.op; (apply L_asg; rfl; rfl); rfl; rfl
  apply Run.done; refine ⟨fun h => Bool.noConfusion h, ?_⟩
  apply x3
  (repeat apply CodeT.seq)
  apply CodeT.region (fun _ => PPm)
  apply Run.op; (apply L_mov; rfl; rfl); rfl; rfl
  apply Run.op; (apply L_mov; rfl; rfl); rfl; rfl
  obtain ⟨r47, hr47, H⟩ := bindS H
  apply Run.op; (apply L_call; ((apply ArgsV.cons; (apply ArgV.ref; rfl; rfl; (exact Nat.le_of_eq (flat_len (fun _ => rfl))))); (apply ArgsV.cons; (apply ArgV.val; rfl; rfl)); (apply ArgsV.nil)); (exact m_spec_l07Has v45 y46 _ hr47); rfl; rfl; rfl); rfl; rfl
  apply Run.done; refine ⟨fun h => Bool.noConfusion h, ?_⟩
  apply x3
  (repeat apply CodeT.seq)
  refine CodeT.cond rfl (fun h => ?_) (fun h => ?_)
  replace H := ifTb h H
  (repeat apply CodeT.seq)
  apply CodeT.region (fun _ => PPm)
  apply Run.op; (apply L_asg; rfl; rfl); rfl; rfl
  apply Run.done; refine ⟨fun h => Bool.noConfusion h, ?_⟩
  apply x3
  apply CodeT.ret
  apply x1
  apply x4
  apply x1
  obtain rfl := Option.some.inj H
  refine Ev.y2 ?_
  refine XRet.mk ?_
  exact RetIs.sc1 rfl
  replace H := ifFb h H
  (repeat apply CodeT.seq)
  apply CodeT.skip
  apply x3
  apply CodeT.region (fun _ => PPm)
  apply Run.op; (apply L_mov; rfl; rfl); rfl; rfl
  apply Run.op; (apply L_mov; rfl; rfl); rfl; rfl
  apply Run.op; (apply L_bs1; rfl; rfl; rfl; rfl; rfl; rfl; rfl; rfl); rfl; rfl
  obtain ⟨_u, ha48, H⟩ := bindS H
  obtain ⟨v49, hv49, H⟩ := bindS H
  apply Run.op; (apply L_app true; rfl; rfl; rfl; (exact flat_len (l := v45) (enc := (encI .i64)) (fun _ => rfl)); rfl; (exact chkS ha48); (exact app63 (by decide) (chkS ha48)); (exact ⟨io1 hio _, io1 hio _⟩); (intro _; rfl); (exact flat_snocL (l := v45) (y := y46) (enc := (encI .i64)) hv49); rfl); rfl; rfl
  apply Run.op; (apply L_asg; rfl; rfl); rfl; rfl
  apply Run.done; refine ⟨fun h => Bool.noConfusion h, ?_⟩
  apply x5
  apply x3
  apply CodeT.region (fun _ => PPm)
  apply Run.op; (apply L_add; rfl; rfl; rfl; rfl); rfl; rfl
  apply Run.op; (apply L_mov; rfl; rfl); rfl; rfl
  apply Run.done; refine ⟨fun h => Bool.noConfusion h, ?_⟩
  obtain rfl := Option.some.inj H
  refine Ev.y1 ?_
  refine Ent.list [(503, 54)] (io0 hio _) rfl ?_ ?_ <;> (repeat' first | exact trivial | (refine And.intro ⟨_, rfl, fun h => (by first | rfl | exact Bool.noConfusion h)⟩ ?_))
  replace H := ifF (of_decide_eq_false h) H
  (repeat apply CodeT.seq)
  apply CodeT.exit
  apply x2
  obtain rfl := Option.some.inj H
  refine Ev.y3 ?_
  refine XEnv.mk ?_
  refine Ent.list [] (io0 hio _) rfl ?_ ?_ <;> (repeat' first | exact trivial | (refine And.intro ⟨_, rfl, fun h => (by first | rfl | exact Bool.noConfusion h)⟩ ?_))
  rcases d50 with (d51 | d65)
  intro e E' hX; obtain ⟨rfl, g52⟩ := XEnv.out hX
  refine x6 rfl ?_
  apply x3
  refine CodeT.weak g52 ?_
  (repeat apply CodeT.seq)
  apply CodeT.region (fun _ => PPm)
  apply Run.op; (apply L_fldP; rfl; rfl; rfl; rfl); rfl; rfl
  apply Run.op; (apply L_ldP; rfl; rfl; rfl; (first | exact .inl rfl | exact .inr rfl); rfl); rfl; rfl
  apply Run.op; (apply L_len; rfl; rfl); rfl; rfl
  apply Run.op; (apply L_mov; rfl; rfl); rfl; rfl
  apply Run.done; refine ⟨fun h => Bool.noConfusion h, ?_⟩
  apply x3
  apply CodeT.block
  (repeat apply CodeT.seq)
  obtain ⟨d60, hd60, H⟩ := bindS H
  refine CodeT.lloop (fun s => ⟨[(0, ⟨.sl a0.length (a0.flatMap encClique), false⟩), (3, ⟨.ref 503 1 0 d51.length, false⟩), (5, ⟨.ptr 5 0, false⟩), (11, ⟨.sl a0.length (a0.flatMap encClique), false⟩), (12, ⟨.sc (.int .i64 (a0.length : Int)), false⟩), (13, ⟨.sc (.int .i64 v33), false⟩), (57, ⟨.sl y35.fSeparator.length (y35.fSeparator.flatMap (encI .i64)), false⟩), (58, ⟨.sc (.int .i64 (y35.fSeparator.length : Int)), false⟩), (59, ⟨.sc (.int .i64 s), false⟩)], [(5, some ⟨(encClique y35), false, false⟩), (503, some ⟨d51.flatMap (encI .i64), true, false⟩)]⟩) (fun x e E => match x with | (.inl d) => XEnv Γ (.exit 4) ⟨[(0, ⟨.sl a0.length (a0.flatMap encClique), false⟩), (3, ⟨.ref 503 1 0 d51.length, false⟩), (11, ⟨.sl a0.length (a0.flatMap encClique), false⟩), (12, ⟨.sc (.int .i64 (a0.length : Int)), false⟩), (13, ⟨.sc (.int .i64 v33), false⟩)], [(503, some ⟨d51.flatMap (encI .i64), true, false⟩)]⟩ e E | (.inr d) => XRet Γ #[.tmp 2] (.sc (.bool d)) true e E) hd60 ?_ ?_ ?_
  refine Ent.list [] (io0 hio _) rfl ?_ ?_ <;> (repeat' first | exact trivial | (refine And.intro ⟨_, rfl, fun h => (by first | rfl | exact Bool.noConfusion h)⟩ ?_))
  clear H hd60
  rintro v56 o H
  unfold spec_IsCliqueTree_L2 at H
  (repeat apply CodeT.seq)
  apply CodeT.region (fun _ => PPm)
  apply Run.op; (apply L_lss; rfl; rfl; rfl); rfl; rfl
  apply Run.done; refine ⟨fun h => Bool.noConfusion h, ?_⟩
  apply x3
  (repeat apply CodeT.seq)
  refine CodeT.cond rfl (fun h => ?_) (fun h => ?_)
  replace H := ifT (of_decide_eq_true h) H
  (repeat apply CodeT.seq)
  apply CodeT.skip
  apply x3
  (repeat apply CodeT.seq)
  apply CodeT.block
  (repeat apply CodeT.seq)
  apply CodeT.region (fun _ => PPm)
  obtain ⟨y57, hy57, H⟩ := bindS H
  apply Run.op; (apply L_ixS2; rfl; rfl; rfl; (exact hy57); (intro _; rfl); rfl); rfl; rfl
  apply Run.op; (apply L_ldI; rfl; rfl; rfl; rfl); rfl; rfl
  apply Run.op; (apply L_asg; rfl; rfl); rfl; rfl
  apply Run.done; refine ⟨fun h => Bool.noConfusion h, ?_⟩
  apply x3
  (repeat apply CodeT.seq)
  apply CodeT.region (fun _ => PPm)
  apply Run.op; (apply L_mov; rfl; rfl); rfl; rfl
  apply Run.op; (apply L_fldP; rfl; rfl; rfl; rfl); rfl; rfl
  apply Run.op; (apply L_ldP; rfl; rfl; rfl; (first | exact .inl rfl | exact .inr rfl); rfl); rfl; rfl
  obtain ⟨r58, hr58, H⟩ := bindS H
  apply Run.op; (apply L_call; ((apply ArgsV.cons; (apply ArgV.val; rfl; rfl)); (apply ArgsV.cons; (apply ArgV.val; rfl; rfl)); (apply ArgsV.nil)); (exact m_spec_CliqueNodes a0 y35.fUp _ hr58); rfl; rfl; rfl); rfl; rfl
  apply Run.op; (apply L_mov; rfl; rfl); rfl; rfl
  obtain ⟨r59, hr59, H⟩ := bindS H
  apply Run.op; (apply L_call; ((apply ArgsV.cons; (apply ArgV.val; rfl; rfl)); (apply ArgsV.cons; (apply ArgV.val; rfl; rfl)); (apply ArgsV.nil)); (exact m_spec_l07Has r58 y57 _ hr59); rfl; rfl; rfl); rfl; rfl
  apply Run.op; (apply L_not; rfl; rfl); rfl; rfl
  apply Run.done; refine ⟨fun h => Bool.noConfusion h, ?_⟩
  apply x3
  refine CodeT.cond rfl (fun h => ?_) (fun h => ?_)
  replace H := ifFb (notT h) H
  (repeat apply CodeT.seq)
  apply CodeT.region (fun _ => PPm)
  apply Run.op; (apply L_asg; rfl; rfl); rfl; rfl
  apply Run.done; refine ⟨fun h => Bool.noConfusion h, ?_⟩
  apply x3
  apply CodeT.ret
  apply x4
  apply x1
  obtain rfl := Option.some.inj H
  refine Ev.y2 ?_
  refine XRet.mk ?_
  exact RetIs.sc1 rfl
  replace H := ifTb (notF h) H
  (repeat apply CodeT.seq)
  apply CodeT.skip
  apply x5
  apply x3
  apply CodeT.region (fun _ => PPm)
  apply Run.op; (apply L_add; rfl; rfl; rfl; rfl); rfl; rfl
  apply Run.op; (apply L_mov; rfl; rfl); rfl; rfl
  apply Run.done; refine ⟨fun h => Bool.noConfusion h, ?_⟩
  obtain rfl := Option.some.inj H
  refine Ev.y1 ?_
  refine Ent.list [] (io0 hio _) rfl ?_ ?_ <;> (repeat' first | exact trivial | (refine And.intro ⟨_, rfl, fun h => (by first | rfl | exact Bool.noConfusion h)⟩ ?_))
  replace H := ifF (of_decide_eq_false h) H
  (repeat apply CodeT.seq)
  apply CodeT.exit
  apply x2
  obtain rfl := Option.some.inj H
  refine Ev.y3 ?_
  refine XEnv.mk ?_
  refine Ent.list [] (io0 hio _) rfl ?_ ?_ <;> (repeat' first | exact trivial | (refine And.intro ⟨_, rfl, fun h => (by first | rfl | exact Bool.noConfusion h)⟩ ?_))
  rcases d60 with (d61 | d63)
  intro e E' hX; obtain ⟨rfl, g62⟩ := XEnv.out hX
  refine x6 rfl ?_
  apply x5
  apply x3
  refine CodeT.weak g62 ?_
  apply CodeT.region (fun _ => PPm)
  apply Run.op; (apply L_add; rfl; rfl; rfl; rfl); rfl; rfl
  apply Run.op; (apply L_mov; rfl; rfl); rfl; rfl
  apply Run.done; refine ⟨fun h => Bool.noConfusion h, ?_⟩
  obtain rfl := Option.some.inj H
  refine Ev.y1 ?_
  refine Ent.list [] (io0 hio _) rfl ?_ ?_ <;> (repeat' first | exact trivial | (refine And.intro ⟨_, rfl, fun h => (by first | rfl | exact Bool.noConfusion h)⟩ ?_))
  intro e E' hX; obtain ⟨rfl, g64⟩ := XRet.out hX
  apply x4
  apply x4
  apply x1
  obtain rfl := Option.some.inj H
  refine Ev.y2 ?_
  exact XRet.mk g64
  intro e E' hX; obtain ⟨rfl, g66⟩ := XRet.out hX
  apply x4
  apply x1
  apply x4
  apply x1
  obtain rfl := Option.some.inj H
  refine Ev.y2 ?_
  exact XRet.mk g66
  replace H := ifF (of_decide_eq_false h) H
  (repeat apply CodeT.seq)
  apply CodeT.exit
  apply x2
  obtain rfl := Option.some.inj H
  refine Ev.y3 ?_
  refine XEnv.mk ?_
  refine Ent.list [] (io0 hio _) rfl ?_ ?_ <;> (repeat' first | exact trivial | (refine And.intro ⟨_, rfl, fun h => (by first | rfl | exact Bool.noConfusion h)⟩ ?_))
  rcases d67 with (d68 | d70)
  intro e E' hX; obtain ⟨rfl, g69⟩ := XEnv.out hX
  refine x6 rfl ?_
  apply x3
  refine CodeT.weak g69 ?_
  (repeat apply CodeT.seq)
  apply CodeT.region (fun _ => PPm)
  apply Run.op; (apply L_asg; rfl; rfl); rfl; rfl
  apply Run.done; refine ⟨fun h => Bool.noConfusion h, ?_⟩
  apply x3
  apply CodeT.ret
  cases H
  apply x12
  exact RetIs.sc1 rfl
  intro e E' hX; obtain ⟨rfl, g71⟩ := XRet.out hX
  apply x4
  apply x1
  cases H
  apply x12
  exact g71
theorem m_impl_hasInt (a0 : (List Int)) (a1 : Int) (r : Bool) (H : impl_hasInt a0 a1 = some r) : Meets Try.prog 97 [.sl a0.length (a0.flatMap (encI .i64)), .sc (.int .i64 a1)] (.sc (.bool r)) true := by
  refine Meets.intro2 (N := 17) (rs := #[.tmp 4]) Try.func97 rfl rfl rfl rfl ?_
  intro Γ hio
  unfold impl_hasInt at H
  (repeat apply CodeT.seq)
  apply CodeT.region (fun _ => PPm)
  apply Run.op; (apply L_asg; rfl; rfl); rfl; rfl
  apply Run.done; refine ⟨fun h => Bool.noConfusion h, ?_⟩
  apply x3
  (repeat apply CodeT.seq)
  apply CodeT.region (fun _ => PPm)
  apply Run.op; (apply L_mov; rfl; rfl); rfl; rfl
  apply Run.op; (apply L_len; rfl; rfl); rfl; rfl
  apply Run.op; (apply L_mov; rfl; rfl); rfl; rfl
  apply Run.done; refine ⟨fun h => Bool.noConfusion h, ?_⟩
  apply x3
  (repeat apply CodeT.seq)
  apply CodeT.block
  (repeat apply CodeT.seq)
  obtain ⟨d4, hd4, H⟩ := bindS H
  refine CodeT.lloop (fun s => ⟨[(1, ⟨.sc (.int .i64 a1), false⟩), (7, ⟨.sl a0.length (a0.flatMap (encI .i64)), false⟩), (8, ⟨.sc (.int .i64 (a0.length : Int)), false⟩), (9, ⟨.sc (.int .i64 s), false⟩)], []⟩) (fun x e E => match x with | (.inl d) => XEnv Γ (.exit 0) ⟨[], []⟩ e E | (.inr d) => XRet Γ #[.tmp 4] (.sc (.bool d)) true e E) hd4 ?_ ?_ ?_
  refine Ent.list [] (io0 hio _) rfl ?_ ?_ <;> (repeat' first | exact trivial | (refine And.intro ⟨_, rfl, fun h => (by first | rfl | exact Bool.noConfusion h)⟩ ?_))
  clear H hd4
  rintro v2 o H
  unfold impl_hasInt_L1 at H
  (repeat apply CodeT.seq)
  apply CodeT.region (fun _ => PPm)
  apply Run.op; (apply L_lss; rfl; rfl; rfl); rfl; rfl
  apply Run.done; refine ⟨fun h => Bool.noConfusion h, ?_⟩
  apply x3
  (repeat apply CodeT.seq)
  refine CodeT.cond rfl (fun h => ?_) (fun h => ?_)
  replace H := ifT (of_decide_eq_true h) H
  (repeat apply CodeT.seq)
  apply CodeT.skip
  apply x3
  (repeat apply CodeT.seq)
  apply CodeT.block
  (repeat apply CodeT.seq)
  apply CodeT.region (fun _ => PPm)
  obtain ⟨y3, hy3, H⟩ := bindS H
  apply Run.op; (apply L_ixS2; rfl; rfl; rfl; (exact hy3); (intro _; rfl); rfl); rfl; rfl
  apply Run.op; (apply L_ldI; rfl; rfl; rfl; rfl); rfl; rfl
  apply Run.op; (apply L_asg; rfl; rfl); rfl; rfl
  apply Run.done; refine ⟨fun h => Bool.noConfusion h, ?_⟩
  apply x3
  (repeat apply CodeT.seq)
  apply CodeT.region (fun _ => PPm)
  apply Run.op; (apply L_mov; rfl; rfl); rfl; rfl
  apply Run.op; (apply L_mov; rfl; rfl); rfl; rfl
  apply Run.op; (apply L_eql; rfl; rfl; rfl); rfl; rfl
  apply Run.done; refine ⟨fun h => Bool.noConfusion h, ?_⟩
  apply x3
  refine CodeT.cond rfl (fun h => ?_) (fun h => ?_)
  replace H := ifT (of_decide_eq_true h) H
  (repeat apply CodeT.seq)
  apply CodeT.region (fun _ => PPm)
  apply Run.op; (apply L_asg; rfl; rfl); rfl; rfl
  apply Run.done; refine ⟨fun h => Bool.noConfusion h, ?_⟩
  apply x3
  apply CodeT.ret
  apply x4
  apply x1
  obtain rfl := Option.some.inj H
  refine Ev.y2 ?_
  refine XRet.mk ?_
  exact RetIs.sc1 rfl
  replace H := ifF (of_decide_eq_false h) H
  (repeat apply CodeT.seq)
  apply CodeT.skip
  apply x5
  apply x3
  apply CodeT.region (fun _ => PPm)
  apply Run.op; (apply L_add; rfl; rfl; rfl; rfl); rfl; rfl
  apply Run.op; (apply L_mov; rfl; rfl); rfl; rfl
  apply Run.done; refine ⟨fun h => Bool.noConfusion h, ?_⟩
  obtain rfl := Option.some.inj H
  refine Ev.y1 ?_
  refine Ent.list [] (io0 hio _) rfl ?_ ?_ <;> (repeat' first | exact trivial | (refine And.intro ⟨_, rfl, fun h => (by first | rfl | exact Bool.noConfusion h)⟩ ?_))
  replace H := ifF (of_decide_eq_false h) H
  (repeat apply CodeT.seq)
  apply CodeT.exit
  apply x2
  obtain rfl := Option.some.inj H
  refine Ev.y3 ?_
  refine XEnv.mk ?_
  refine Ent.list [] (io0 hio _) rfl ?_ ?_ <;> (repeat' first | exact trivial | (refine And.intro ⟨_, rfl, fun h => (by first | rfl | exact Bool.noConfusion h)⟩ ?_))
  rcases d4 with (d5 | d7)
  intro e E' hX; obtain ⟨rfl, g6⟩ := XEnv.out hX
  refine x6 rfl ?_
  apply x3
  refine CodeT.weak g6 ?_
  (repeat apply CodeT.seq)
  apply CodeT.region (fun _ => PPm)
  apply Run.op; (apply L_asg; rfl; rfl); rfl; rfl
  apply Run.done; refine ⟨fun h => Bool.noConfusion h, ?_⟩
  apply x3
  apply CodeT.ret
  cases H
  apply x12
  exact RetIs.sc1 rfl
  intro e E' hX; obtain ⟨rfl, g8⟩ := XRet.out hX
  apply x4
  apply x1
  cases H
  apply x12
  exact g8
theorem m_impl_IsCliqueTree (a0 : (List Clique)) (r : Bool) (H : impl_IsCliqueTree a0 = some r) : Meets Try.prog 49 [.sl a0.length (a0.flatMap encClique)] (.sc (.bool r)) true := by
  refine Meets.intro2 (N := 66) (rs := #[.tmp 2]) Try.func49 rfl rfl rfl rfl ?_
  intro Γ hio
  unfold impl_IsCliqueTree at H
  (repeat apply CodeT.seq)
  apply CodeT.region (fun _ => PPm)
  apply Run.op; (apply L_asg; rfl; rfl); rfl; rfl
  apply Run.done; refine ⟨fun h => Bool.noConfusion h, ?_⟩
  apply x3
  (repeat apply CodeT.seq)
  apply CodeT.region (fun _ => PPm)
  apply Run.op; (apply L_bs0; (exact io1 hio _); rfl); rfl; rfl
  apply Run.op; (apply L_asg; rfl; rfl); rfl; rfl
  apply Run.done; refine ⟨fun h => Bool.noConfusion h, ?_⟩
  apply x3
  (repeat apply CodeT.seq)
  apply CodeT.region (fun _ => PPm)
  apply Run.op; (apply L_mov; rfl; rfl); rfl; rfl
  apply Run.op; (apply L_len; rfl; rfl); rfl; rfl
  apply Run.op; (apply L_mov; rfl; rfl); rfl; rfl
  apply Run.done; refine ⟨fun h => Bool.noConfusion h, ?_⟩
  apply x3
  (repeat apply CodeT.seq)
  apply CodeT.block
  (repeat apply CodeT.seq)
  obtain ⟨d63, hd63, H⟩ := bindS H
  refine CodeT.lloop (fun s => ⟨[(0, ⟨.sl a0.length (a0.flatMap encClique), false⟩), (3, ⟨.ref 503 1 0 s.2.length, false⟩), (12, ⟨.sl a0.length (a0.flatMap encClique), false⟩), (13, ⟨.sc (.int .i64 (a0.length : Int)), false⟩), (14, ⟨.sc (.int .i64 s.1), false⟩)], [(503, some ⟨s.2.flatMap (encI .i64), true, false⟩)]⟩) (fun x e E => match x with | (.inl d) => XEnv Γ (.exit 0) ⟨[], []⟩ e E | (.inr d) => XRet Γ #[.tmp 2] (.sc (.bool d)) true e E) hd63 ?_ ?_ ?_
  refine Ent.list [(503, 11)] (io0 hio _) rfl ?_ ?_ <;> (repeat' first | exact trivial | (refine And.intro ⟨_, rfl, fun h => (by first | rfl | exact Bool.noConfusion h)⟩ ?_))
  clear H hd63
  rintro ⟨v31, v32⟩ o H
  unfold impl_IsCliqueTree_L3 at H
  (repeat apply CodeT.seq)
  apply CodeT.region (fun _ => PPm)
  apply Run.op; (apply L_lss; rfl; rfl; rfl); rfl; rfl
  apply Run.done; refine ⟨fun h => Bool.noConfusion h, ?_⟩
  apply x3
  (repeat apply CodeT.seq)
  refine CodeT.cond rfl (fun h => ?_) (fun h => ?_)
  replace H := ifT (of_decide_eq_true h) H
  (repeat apply CodeT.seq)
  apply CodeT.skip
  apply x3
  (repeat apply CodeT.seq)
  apply CodeT.block
  (repeat apply CodeT.seq)
  apply CodeT.region (fun _ => PPm)
  apply Run.op; (apply L_mov; rfl; rfl); rfl; rfl
  obtain ⟨y33, hy33, H⟩ := bindS H
  apply Run.op; (apply L_ixS2; rfl; rfl; rfl; (exact hy33); (intro _; rfl); rfl); rfl; rfl
  apply Run.op; (apply L_ldIA; rfl; (first | exact take_whole rfl | rfl); rfl; (intro h; cases h); rfl; rfl); rfl; rfl
  apply Run.op; (apply L_alloc false; (exact io1 hio _); rfl); rfl; rfl
  apply Run.op; (apply L_asg; rfl; rfl); rfl; rfl
  apply Run.op; (apply L_st; rfl; rfl; rfl; rfl; rfl; (intro h; cases h); rfl; (first | exact splice_whole rfl | rfl)); rfl; rfl
  apply Run.done; refine ⟨fun h => Bool.noConfusion h, ?_⟩
  apply x3
  (repeat apply CodeT.seq)
  obtain ⟨d35, hd35, H⟩ := bindS H
  refine CodeT.lcut (x := d35) (fun d e E => XEnv Γ .normal ⟨[(0, ⟨.sl a0.length (a0.flatMap encClique), false⟩), (3, ⟨.ref 503 1 0 v32.length, false⟩), (5, ⟨.ptr 5 0, false⟩), (12, ⟨.sl a0.length (a0.flatMap encClique), false⟩), (13, ⟨.sc (.int .i64 (a0.length : Int)), false⟩), (14, ⟨.sc (.int .i64 v31), false⟩), (33, ⟨.sc (.bool d), false⟩)], [(5, some ⟨(encClique y33), false, false⟩), (503, some ⟨v32.flatMap (encI .i64), true, false⟩)]⟩ e E) ?_ ?_
  clear H; have H := hd35; clear hd35
  apply CodeT.region (fun _ => PPm)
  apply Run.op; (apply L_fldP; rfl; rfl; rfl; rfl); rfl; rfl
  apply Run.op; (apply L_ldP; rfl; rfl; rfl; (first | exact .inl rfl | exact .inr rfl); rfl); rfl; rfl
  apply Run.op; (apply L_len; rfl; rfl); rfl; rfl
  apply R_dec; (apply L_eql; rfl; rfl; rfl); rfl
  intro h; replace H := ifT h H
  apply Run.op; (apply L_mov; rfl; rfl); rfl; rfl
  apply Run.skip; rfl
  apply Run.skip; rfl
  apply Run.skip; rfl
  apply Run.op; (apply L_pickT; rfl; rfl; rfl); rfl; rfl
  apply Run.op; (apply L_mov; rfl; rfl); rfl; rfl
  apply Run.skip; rfl
  apply Run.skip; rfl
  apply Run.skip; rfl
  apply Run.skip; rfl
  apply Run.op; (apply L_pickT; rfl; rfl; rfl); rfl; rfl
  apply Run.done; refine ⟨fun h => Bool.noConfusion h, ?_⟩
  obtain rfl := Option.some.inj H
  refine Ev.y4 ?_
  refine XEnv.mk ?_
  refine Ent.list [] (io0 hio _) rfl ?_ ?_ <;> (repeat' first | exact trivial | (refine And.intro ⟨_, rfl, fun h => (by first | rfl | exact Bool.noConfusion h)⟩ ?_))
  intro h; replace H := ifF h H
  apply Run.op; (apply L_mov; rfl; rfl); rfl; rfl
  apply Run.op; (apply L_fldP; rfl; rfl; rfl; rfl); rfl; rfl
  apply Run.op; (apply L_ldP; rfl; rfl; rfl; (first | exact .inl rfl | exact .inr rfl); rfl); rfl; rfl
  apply R_dec; (apply L_lss; rfl; rfl; rfl); rfl
  intro h; replace H := ifT h H
  apply Run.op; (apply L_pickF; rfl; rfl; rfl); rfl; rfl
  apply Run.op; (apply L_mov; rfl; rfl); rfl; rfl
  apply Run.skip; rfl
  apply Run.skip; rfl
  apply Run.skip; rfl
  apply Run.skip; rfl
  apply Run.op; (apply L_pickT; rfl; rfl; rfl); rfl; rfl
  apply Run.done; refine ⟨fun h => Bool.noConfusion h, ?_⟩
  obtain rfl := Option.some.inj H
  refine Ev.y4 ?_
  refine XEnv.mk ?_
  refine Ent.list [] (io0 hio _) rfl ?_ ?_ <;> (repeat' first | exact trivial | (refine And.intro ⟨_, rfl, fun h => (by first | rfl | exact Bool.noConfusion h)⟩ ?_))
  intro h; replace H := ifF h H
  apply Run.op; (apply L_pickF; rfl; rfl; rfl); rfl; rfl
  apply Run.op; (apply L_mov; rfl; rfl); rfl; rfl
  apply Run.op; (apply L_fldP; rfl; rfl; rfl; rfl); rfl; rfl
  apply Run.op; (apply L_ldP; rfl; rfl; rfl; (first | exact .inl rfl | exact .inr rfl); rfl); rfl; rfl
  apply Run.op; (apply L_mov; rfl; rfl); rfl; rfl
  apply Run.op; (apply L_geq; rfl; rfl; rfl); rfl; rfl
  apply Run.op; (apply L_pickF; rfl; rfl; rfl); rfl; rfl
  apply Run.done; refine ⟨fun h => Bool.noConfusion h, ?_⟩
  obtain rfl := Option.some.inj H
  refine Ev.y4 ?_
  refine XEnv.mk ?_
  refine Ent.list [] (io0 hio _) rfl ?_ ?_ <;> (repeat' first | exact trivial | (refine And.intro ⟨_, rfl, fun h => (by first | rfl | exact Bool.noConfusion h)⟩ ?_))
  intro e E' hX; obtain ⟨rfl, g36⟩ := XEnv.out hX
  apply x3
  refine CodeT.weak g36 ?_
  (repeat apply CodeT.seq)
  refine CodeT.cond rfl (fun h => ?_) (fun h => ?_)
  replace H := ifTb h H
  (repeat apply CodeT.seq)
  apply CodeT.region (fun _ => PPm)
  apply Run.op; (apply L_asg; rfl; rfl); rfl; rfl
  apply Run.done; refine ⟨fun h => Bool.noConfusion h, ?_⟩
  apply x3
  apply CodeT.ret
  apply x1
  apply x4
  apply x1
  obtain rfl := Option.some.inj H
  refine Ev.y2 ?_
  refine XRet.mk ?_
  exact RetIs.sc1 rfl
  replace H := ifFb h H
  (repeat apply CodeT.seq)
  apply CodeT.skip
  apply x3
  (repeat apply CodeT.seq)
  apply CodeT.region (fun _ => PPm)
  apply Run.op; (apply L_fldP; rfl; rfl; rfl; rfl); rfl; rfl
  apply Run.op; (apply L_ldP; rfl; rfl; rfl; (first | exact .inl rfl | exact .inr rfl); rfl); rfl; rfl
  apply Run.op; (apply L_len; rfl; rfl); rfl; rfl
  apply Run.op; (apply L_mov; rfl; rfl); rfl; rfl
  apply Run.done; refine ⟨fun h => Bool.noConfusion h, ?_⟩
  apply x3
  (repeat apply CodeT.seq)
  apply CodeT.block
  (repeat apply CodeT.seq)
  obtain ⟨d47, hd47, H⟩ := bindS H
  refine CodeT.lloop (fun s => ⟨[(0, ⟨.sl a0.length (a0.flatMap encClique), false⟩), (3, ⟨.ref 503 1 0 s.2.length, false⟩), (5, ⟨.ptr 5 0, false⟩), (12, ⟨.sl a0.length (a0.flatMap encClique), false⟩), (13, ⟨.sc (.int .i64 (a0.length : Int)), false⟩), (14, ⟨.sc (.int .i64 v31), false⟩), (35, ⟨.sl y33.fFrontal.length (y33.fFrontal.flatMap (encI .i64)), false⟩), (36, ⟨.sc (.int .i64 (y33.fFrontal.length : Int)), false⟩), (37, ⟨.sc (.int .i64 s.1), false⟩)], [(5, some ⟨(encClique y33), false, false⟩), (503, some ⟨s.2.flatMap (encI .i64), true, false⟩)]⟩) (fun x e E => match x with | (.inl d) => XEnv Γ (.exit 2) ⟨[(0, ⟨.sl a0.length (a0.flatMap encClique), false⟩), (3, ⟨.ref 503 1 0 d.length, false⟩), (5, ⟨.ptr 5 0, false⟩), (12, ⟨.sl a0.length (a0.flatMap encClique), false⟩), (13, ⟨.sc (.int .i64 (a0.length : Int)), false⟩), (14, ⟨.sc (.int .i64 v31), false⟩)], [(5, some ⟨(encClique y33), false, false⟩), (503, some ⟨d.flatMap (encI .i64), true, false⟩)]⟩ e E | (.inr d) => XRet Γ #[.tmp 2] (.sc (.bool d)) true e E) hd47 ?_ ?_ ?_
  refine Ent.list [] (io0 hio _) rfl ?_ ?_ <;> (repeat' first | exact trivial | (refine And.intro ⟨_, rfl, fun h => (by first | rfl | exact Bool.noConfusion h)⟩ ?_))
  clear H hd47
  rintro ⟨v41, v42⟩ o H
  unfold impl_IsCliqueTree_L1 at H
  (repeat apply CodeT.seq)
  apply CodeT.region (fun _ => PPm)
  apply Run.op; (apply L_lss; rfl; rfl; rfl); rfl; rfl
  apply Run.done; refine ⟨fun h => Bool.noConfusion h, ?_⟩
  apply x3
  (repeat apply CodeT.seq)
  refine CodeT.cond rfl (fun h => ?_) (fun h => ?_)
  replace H := ifT (of_decide_eq_true h) H
  (repeat apply CodeT.seq)
  apply CodeT.skip
  apply x3
  (repeat apply CodeT.seq)
  apply CodeT.block
  (repeat apply CodeT.seq)
  apply CodeT.region (fun _ => PPm)
  obtain ⟨y43, hy43, H⟩ := bindS H
  apply Run.op; (apply L_ixS2; rfl; rfl; rfl; (exact hy43); (intro _; rfl); rfl); rfl; rfl
  apply Run.op; (apply L_ldI; rfl; rfl; rfl; rfl); rfl; rfl
  apply Run.op; (apply L_asg; rfl; rfl); rfl; rfl
  apply Run.done; refine ⟨fun h => Bool.noConfusion h, ?_⟩
  apply x3
  (repeat apply CodeT.seq)
  apply CodeT.region (fun _ => PPm)
  apply Run.op; (apply L_mov; rfl; rfl); rfl; rfl
  apply Run.op; (apply L_mov; rfl; rfl); rfl; rfl
  obtain ⟨r44, hr44, H⟩ := bindS H
  apply Run.op; (apply L_call; ((apply ArgsV.cons; (apply ArgV.ref; rfl; rfl; (exact Nat.le_of_eq (flat_len (fun _ => rfl))))); (apply ArgsV.cons; (apply ArgV.val; rfl; rfl)); (apply ArgsV.nil)); (exact m_impl_hasInt v42 y43 _ hr44); rfl; rfl; rfl); rfl; rfl
  apply Run.done; refine ⟨fun h => Bool.noConfusion h, ?_⟩
  apply x3
  (repeat apply CodeT.seq)
  refine CodeT.cond rfl (fun h => ?_) (fun h => ?_)
  replace H := ifTb h H
  (repeat apply CodeT.seq)
  apply CodeT.region (fun _ => PPm)
  apply Run.op; (apply L_asg; rfl; rfl); rfl; rfl
  apply Run.done; refine ⟨fun h => Bool.noConfusion h, ?_⟩
  apply x3
  apply CodeT.ret
  apply x1
  apply x4
  apply x1
  obtain rfl := Option.some.inj H
  refine Ev.y2 ?_
  refine XRet.mk ?_
  exact RetIs.sc1 rfl
  replace H := ifFb h H
  (repeat apply CodeT.seq)
  apply CodeT.skip
  apply x3
  apply CodeT.region (fun _ => PPm)
  apply Run.op; (apply L_mov; rfl; rfl); rfl; rfl
  apply Run.op; (apply L_mov; rfl; rfl); rfl; rfl
  apply Run.op; (apply L_bs1; rfl; rfl; rfl; rfl; rfl; rfl; rfl; rfl); rfl; rfl
  obtain ⟨_u, ha45, H⟩ := bindS H
  obtain ⟨v46, hv46, H⟩ := bindS H
  apply Run.op; (apply L_app true; rfl; rfl; rfl; (exact flat_len (l := v42) (enc := (encI .i64)) (fun _ => rfl)); rfl; (exact chkS ha45); (exact app63 (by decide) (chkS ha45)); (exact ⟨io1 hio _, io1 hio _⟩); (intro _; rfl); (exact flat_snocL (l := v42) (y := y43) (enc := (encI .i64)) hv46); rfl); rfl; rfl
  apply Run.op; (apply L_asg; rfl; rfl); rfl; rfl
  apply Run.done; refine ⟨fun h => Bool.noConfusion h, ?_⟩
  apply x5
  apply x3
  apply CodeT.region (fun _ => PPm)
  apply Run.op; (apply L_add; rfl; rfl; rfl; rfl); rfl; rfl
  apply Run.op; (apply L_mov; rfl; rfl); rfl; rfl
  apply Run.done; refine ⟨fun h => Bool.noConfusion h, ?_⟩
  obtain rfl := Option.some.inj H
  refine Ev.y1 ?_
  refine Ent.list [(503, 47)] (io0 hio _) rfl ?_ ?_ <;> (repeat' first | exact trivial | (refine And.intro ⟨_, rfl, fun h => (by first | rfl | exact Bool.noConfusion h)⟩ ?_))
  replace H := ifF (of_decide_eq_false h) H
  (repeat apply CodeT.seq)
  apply CodeT.exit
  apply x2
  obtain rfl := Option.some.inj H
  refine Ev.y3 ?_
  refine XEnv.mk ?_
  refine Ent.list [] (io0 hio _) rfl ?_ ?_ <;> (repeat' first | exact trivial | (refine And.intro ⟨_, rfl, fun h => (by first | rfl | exact Bool.noConfusion h)⟩ ?_))
  rcases d47 with (d48 | d61)
  intro e E' hX; obtain ⟨rfl, g49⟩ := XEnv.out hX
  refine x6 rfl ?_
  apply x3
  refine CodeT.weak g49 ?_
  (repeat apply CodeT.seq)
  apply CodeT.region (fun _ => PPm)
  apply Run.op; (apply L_mov; rfl; rfl); rfl; rfl
  apply Run.op; (apply L_fldP; rfl; rfl; rfl; rfl); rfl; rfl
  apply Run.op; (apply L_ldP; rfl; rfl; rfl; (first | exact .inl rfl | exact .inr rfl); rfl); rfl; rfl
  obtain ⟨r50, hr50, H⟩ := bindS H
  apply Run.op; (apply L_callW; ((apply ArgsV.cons; (apply ArgV.val; rfl; rfl)); (apply ArgsV.cons; (apply ArgV.val; rfl; rfl)); (apply ArgsV.nil)); (exact m_impl_CliqueNodes a0 y33.fUp _ hr50); (exact io1 hio _); rfl); rfl; rfl
  apply Run.op; (apply L_asg; rfl; rfl); rfl; rfl
  apply Run.done; refine ⟨fun h => Bool.noConfusion h, ?_⟩
  apply x3
  (repeat apply CodeT.seq)
  apply CodeT.region (fun _ => PPm)
  apply Run.op; (apply L_fldP; rfl; rfl; rfl; rfl); rfl; rfl
  apply Run.op; (apply L_ldP; rfl; rfl; rfl; (first | exact .inl rfl | exact .inr rfl); rfl); rfl; rfl
  apply Run.op; (apply L_len; rfl; rfl); rfl; rfl
  apply Run.op; (apply L_mov; rfl; rfl); rfl; rfl
  apply Run.done; refine ⟨fun h => Bool.noConfusion h, ?_⟩
  apply x3
  apply CodeT.block
  (repeat apply CodeT.seq)
  obtain ⟨d56, hd56, H⟩ := bindS H
  refine CodeT.lloop (fun s => ⟨[(0, ⟨.sl a0.length (a0.flatMap encClique), false⟩), (3, ⟨.ref 503 1 0 d48.length, false⟩), (8, ⟨.ref 508 1 0 r50.length, false⟩), (12, ⟨.sl a0.length (a0.flatMap encClique), false⟩), (13, ⟨.sc (.int .i64 (a0.length : Int)), false⟩), (14, ⟨.sc (.int .i64 v31), false⟩), (54, ⟨.sl y33.fSeparator.length (y33.fSeparator.flatMap (encI .i64)), false⟩), (55, ⟨.sc (.int .i64 (y33.fSeparator.length : Int)), false⟩), (56, ⟨.sc (.int .i64 s), false⟩)], [(503, some ⟨d48.flatMap (encI .i64), true, false⟩), (508, some ⟨r50.flatMap (encI .i64), true, false⟩)]⟩) (fun x e E => match x with | (.inl d) => XEnv Γ (.exit 4) ⟨[(0, ⟨.sl a0.length (a0.flatMap encClique), false⟩), (3, ⟨.ref 503 1 0 d48.length, false⟩), (12, ⟨.sl a0.length (a0.flatMap encClique), false⟩), (13, ⟨.sc (.int .i64 (a0.length : Int)), false⟩), (14, ⟨.sc (.int .i64 v31), false⟩)], [(503, some ⟨d48.flatMap (encI .i64), true, false⟩)]⟩ e E | (.inr d) => XRet Γ #[.tmp 2] (.sc (.bool d)) true e E) hd56 ?_ ?_ ?_
  refine Ent.list [(508, 52)] (io0 hio _) rfl ?_ ?_ <;> (repeat' first | exact trivial | (refine And.intro ⟨_, rfl, fun h => (by first | rfl | exact Bool.noConfusion h)⟩ ?_))
  clear H hd56
  rintro v53 o H
  unfold impl_IsCliqueTree_L2 at H
  (repeat apply CodeT.seq)
  apply CodeT.region (fun _ => PPm)
  apply Run.op; (apply L_lss; rfl; rfl; rfl); rfl; rfl
  apply Run.done; refine ⟨fun h => Bool.noConfusion h, ?_⟩
  apply x3
  (repeat apply CodeT.seq)
  refine CodeT.cond rfl (fun h => ?_) (fun h => ?_)
  replace H := ifT (of_decide_eq_true h) H
  (repeat apply CodeT.seq)
  apply CodeT.skip
  apply x3
  (repeat apply CodeT.seq)
  apply CodeT.block
  (repeat apply CodeT.seq)
  apply CodeT.region (fun _ => PPm)
  obtain ⟨y54, hy54, H⟩ := bindS H
  apply Run.op; (apply L_ixS2; rfl; rfl; rfl; (exact hy54); (intro _; rfl); rfl); rfl; rfl
  apply Run.op; (apply L_ldI; rfl; rfl; rfl; rfl); rfl; rfl
  apply Run.op; (apply L_asg; rfl; rfl); rfl; rfl
  apply Run.done; refine ⟨fun h => Bool.noConfusion h, ?_⟩
  apply x3
  (repeat apply CodeT.seq)
  apply CodeT.region (fun _ => PPm)
  apply Run.op; (apply L_mov; rfl; rfl); rfl; rfl
  apply Run.op; (apply L_mov; rfl; rfl); rfl; rfl
  obtain ⟨r55, hr55, H⟩ := bindS H
  apply Run.op; (apply L_call; ((apply ArgsV.cons; (apply ArgV.ref; rfl; rfl; (exact Nat.le_of_eq (flat_len (fun _ => rfl))))); (apply ArgsV.cons; (apply ArgV.val; rfl; rfl)); (apply ArgsV.nil)); (exact m_impl_hasInt r50 y54 _ hr55); rfl; rfl; rfl); rfl; rfl
  apply Run.op; (apply L_not; rfl; rfl); rfl; rfl
  apply Run.done; refine ⟨fun h => Bool.noConfusion h, ?_⟩
  apply x3
  refine CodeT.cond rfl (fun h => ?_) (fun h => ?_)
  replace H := ifFb (notT h) H
  (repeat apply CodeT.seq)
  apply CodeT.region (fun _ => PPm)
  apply Run.op; (apply L_asg; rfl; rfl); rfl; rfl
  apply Run.done; refine ⟨fun h => Bool.noConfusion h, ?_⟩
  apply x3
  apply CodeT.ret
  apply x4
  apply x1
  obtain rfl := Option.some.inj H
  refine Ev.y2 ?_
  refine XRet.mk ?_
  exact RetIs.sc1 rfl
  replace H := ifTb (notF h) H
  (repeat apply CodeT.seq)
  apply CodeT.skip
  apply x5
  apply x3
  apply CodeT.region (fun _ => PPm)
  apply Run.op; (apply L_add; rfl; rfl; rfl; rfl); rfl; rfl
  apply Run.op; (apply L_mov; rfl; rfl); rfl; rfl
  apply Run.done; refine ⟨fun h => Bool.noConfusion h, ?_⟩
  obtain rfl := Option.some.inj H
  refine Ev.y1 ?_
  refine Ent.list [] (io0 hio _) rfl ?_ ?_ <;> (repeat' first | exact trivial | (refine And.intro ⟨_, rfl, fun h => (by first | rfl | exact Bool.noConfusion h)⟩ ?_))
  replace H := ifF (of_decide_eq_false h) H
  (repeat apply CodeT.seq)
  apply CodeT.exit
  apply x2
  obtain rfl := Option.some.inj H
  refine Ev.y3 ?_
  refine XEnv.mk ?_
  refine Ent.list [] (io0 hio _) rfl ?_ ?_ <;> (repeat' first | exact trivial | (refine And.intro ⟨_, rfl, fun h => (by first | rfl | exact Bool.noConfusion h)⟩ ?_))
  rcases d56 with (d57 | d59)
  intro e E' hX; obtain ⟨rfl, g58⟩ := XEnv.out hX
  refine x6 rfl ?_
  apply x5
  apply x3
  refine CodeT.weak g58 ?_
  apply CodeT.region (fun _ => PPm)
  apply Run.op; (apply L_add; rfl; rfl; rfl; rfl); rfl; rfl
  apply Run.op; (apply L_mov; rfl; rfl); rfl; rfl
  apply Run.done; refine ⟨fun h => Bool.noConfusion h, ?_⟩
  obtain rfl := Option.some.inj H
  refine Ev.y1 ?_
  refine Ent.list [] (io0 hio _) rfl ?_ ?_ <;> (repeat' first | exact trivial | (refine And.intro ⟨_, rfl, fun h => (by first | rfl | exact Bool.noConfusion h)⟩ ?_))
  intro e E' hX; obtain ⟨rfl, g60⟩ := XRet.out hX
  apply x4
  apply x4
  apply x1
  obtain rfl := Option.some.inj H
  refine Ev.y2 ?_
  exact XRet.mk g60
  intro e E' hX; obtain ⟨rfl, g62⟩ := XRet.out hX
  apply x4
  apply x1
  apply x4
  apply x1
  obtain rfl := Option.some.inj H
  refine Ev.y2 ?_
  exact XRet.mk g62
  replace H := ifF (of_decide_eq_false h) H
  (repeat apply CodeT.seq)
  apply CodeT.exit
  apply x2
  obtain rfl := Option.some.inj H
  refine Ev.y3 ?_
  refine XEnv.mk ?_
  refine Ent.list [] (io0 hio _) rfl ?_ ?_ <;> (repeat' first | exact trivial | (refine And.intro ⟨_, rfl, fun h => (by first | rfl | exact Bool.noConfusion h)⟩ ?_))
  rcases d63 with (d64 | d66)
  intro e E' hX; obtain ⟨rfl, g65⟩ := XEnv.out hX
  refine x6 rfl ?_
  apply x3
  refine CodeT.weak g65 ?_
  (repeat apply CodeT.seq)
  apply CodeT.region (fun _ => PPm)
  apply Run.op; (apply L_asg; rfl; rfl); rfl; rfl
  apply Run.done; refine ⟨fun h => Bool.noConfusion h, ?_⟩
  apply x3
  apply CodeT.ret
  cases H
  apply x12
  exact RetIs.sc1 rfl
  intro e E' hX; obtain ⟨rfl, g67⟩ := XRet.out hX
  apply x4
  apply x1
  cases H
  apply x12
  exact g67
theorem m_laws_FnExactIsCliqueTree (a0 : (List Clique)) (r : Bool) (H : laws_FnExactIsCliqueTree a0 = some r) : Meets Try.prog 8 [.sl a0.length (a0.flatMap encClique)] (.sc (.bool r)) true := by
  refine Meets.intro2 (N := 27) (rs := #[.tmp 2]) Try.func8 rfl rfl rfl rfl ?_
  intro Γ hio
  unfold laws_FnExactIsCliqueTree at H
  (repeat apply CodeT.seq)
  apply CodeT.region (fun _ => PPm)
  apply Run.op; (apply L_asg; rfl; rfl); rfl; rfl
  apply Run.done; refine ⟨fun h => Bool.noConfusion h, ?_⟩
  apply x3
  (repeat apply CodeT.seq)
  apply CodeT.region (fun _ => PPm)
  apply Run.op; (apply L_asg; rfl; rfl); rfl; rfl
  apply Run.done; refine ⟨fun h => Bool.noConfusion h, ?_⟩
  apply x3
  (repeat apply CodeT.seq)
  apply CodeT.region (fun _ => PPm)
  apply Run.op; (apply L_mov; rfl; rfl); rfl; rfl
  apply Run.op; (apply L_mov; rfl; rfl); rfl; rfl
  obtain ⟨r1, hr1, H⟩ := bindS H
  apply Run.op; (apply L_call; ((apply ArgsV.cons; (apply ArgV.val; rfl; rfl)); (apply ArgsV.cons; (apply ArgV.val; rfl; rfl)); (apply ArgsV.nil)); (exact m_laws_szCliqueS a0 1048576 _ hr1); rfl; rfl; rfl); rfl; rfl
  apply Run.op; (apply L_asg; rfl; rfl); rfl; rfl
  apply Run.done; refine ⟨fun h => Bool.noConfusion h, ?_⟩
  apply x3
  (repeat apply CodeT.seq)
  apply CodeT.region (fun _ => PPm)
  apply Run.op; (apply L_mov; rfl; rfl); rfl; rfl
  apply Run.op; (apply L_lss; rfl; rfl; rfl); rfl; rfl
  apply Run.done; refine ⟨fun h => Bool.noConfusion h, ?_⟩
  apply x3
  (repeat apply CodeT.seq)
  refine CodeT.cond rfl (fun h => ?_) (fun h => ?_)
  replace H := ifT (of_decide_eq_true h) H
  (repeat apply CodeT.seq)
  apply CodeT.region (fun _ => PPm)
  apply Run.op; (apply L_asg; rfl; rfl); rfl; rfl
  apply Run.done; refine ⟨fun h => Bool.noConfusion h, ?_⟩
  apply x3
  apply CodeT.ret
  apply x1
  cases H
  apply x12
  exact RetIs.sc1 rfl
  replace H := ifF (of_decide_eq_false h) H
  (repeat apply CodeT.seq)
  apply CodeT.skip
  apply x3
  (repeat apply CodeT.seq)
  apply CodeT.region (fun _ => PPm)
  apply Run.op; (apply L_mov; rfl; rfl); rfl; rfl
  obtain ⟨r2, hr2, H⟩ := bindS H
  apply Run.op; (apply L_callW; ((apply ArgsV.cons; (apply ArgV.val; rfl; rfl)); (apply ArgsV.nil)); (exact m_laws_toCliqueS a0 _ hr2); (exact io1 hio _); rfl); rfl; rfl
  obtain ⟨r3, hr3, H⟩ := bindS H
  apply Run.op; (apply L_call; ((apply ArgsV.cons; (apply ArgV.refS; rfl; rfl; (exact (SoftL.flat softClique _)))); (apply ArgsV.nil)); (exact m_spec_IsCliqueTree r2 _ hr3); rfl; rfl; rfl); rfl; rfl
  apply Run.op; (apply L_asg; rfl; rfl); rfl; rfl
  apply Run.done; refine ⟨fun h => Bool.noConfusion h, ?_⟩
  apply x3
  (repeat apply CodeT.seq)
  apply CodeT.region (fun _ => PPm)
  apply Run.op; (apply L_mov; rfl; rfl); rfl; rfl
  obtain ⟨r4, hr4, H⟩ := bindS H
  apply Run.op; (apply L_callW; ((apply ArgsV.cons; (apply ArgV.val; rfl; rfl)); (apply ArgsV.nil)); (exact m_laws_toCliqueS a0 _ hr4); (exact io1 hio _); rfl); rfl; rfl
  apply Run.op; (apply L_asg; rfl; rfl); rfl; rfl
  apply Run.done; refine ⟨fun h => Bool.noConfusion h, ?_⟩
  apply x3
  (repeat apply CodeT.seq)
  apply CodeT.region (fun _ => PPm)
  apply Run.op; (apply L_mov; rfl; rfl); rfl; rfl
  obtain ⟨r5, hr5, H⟩ := bindS H
  apply Run.op; (apply L_call; ((apply ArgsV.cons; (apply ArgV.refS; rfl; rfl; (exact (SoftL.flat softClique _)))); (apply ArgsV.nil)); (exact m_impl_IsCliqueTree r4 _ hr5); rfl; rfl; rfl); rfl; rfl
  apply Run.op; (apply L_asg; rfl; rfl); rfl; rfl
  apply Run.done; refine ⟨fun h => Bool.noConfusion h, ?_⟩
  apply x3
  (repeat apply CodeT.seq)
  apply CodeT.region (fun _ => PPm)
  apply Run.op; (apply L_mov; rfl; rfl); rfl; rfl
  apply Run.op; (apply L_mov; rfl; rfl); rfl; rfl
  apply Run.op; (apply L_bneq; rfl; rfl; rfl); rfl; rfl
  apply Run.done; refine ⟨fun h => Bool.noConfusion h, ?_⟩
  apply x3
  (repeat apply CodeT.seq)
  refine CodeT.cond rfl (fun h => ?_) (fun h => ?_)
  replace H := ifFb (notT h) H
  (repeat apply CodeT.seq)
  apply CodeT.region (fun _ => PPm)
  apply Run.op; (apply L_asg; rfl; rfl); rfl; rfl
  apply Run.done; refine ⟨fun h => Bool.noConfusion h, ?_⟩
  apply x3
  apply CodeT.ret
  apply x1
  cases H
  apply x12
  exact RetIs.sc1 rfl
  replace H := ifTb (notF h) H
  (repeat apply CodeT.seq)
  apply CodeT.skip
  apply x3
  (repeat apply CodeT.seq)
  apply CodeT.region (fun _ => PPm)
  apply Run.op; (apply L_mov; rfl; rfl); rfl; rfl
  apply Run.op; (apply L_mov; rfl; rfl); rfl; rfl
  obtain ⟨r6, hr6, H⟩ := bindS H
  apply Run.op; (apply L_callW; ((apply ArgsV.cons; (apply ArgV.val; rfl; rfl)); (apply ArgsV.nil)); (exact m_laws_toCliqueS a0 _ hr6); (exact io1 hio _); rfl); rfl; rfl
  obtain ⟨r7, hr7, H⟩ := bindS H
  apply Run.op; (apply L_call; ((apply ArgsV.cons; (apply ArgV.refS; rfl; rfl; (exact (SoftL.flat softClique _)))); (apply ArgsV.cons; (apply ArgV.refS; rfl; rfl; (exact (SoftL.flat softClique _)))); (apply ArgsV.nil)); (exact m_laws_eqCliqueS r4 r6 _ hr7); rfl; rfl; rfl); rfl; rfl
  apply Run.op; (apply L_not; rfl; rfl); rfl; rfl
  apply Run.done; refine ⟨fun h => Bool.noConfusion h, ?_⟩
  apply x3
  (repeat apply CodeT.seq)
  refine CodeT.cond rfl (fun h => ?_) (fun h => ?_)
  replace H := ifFb (notT h) H
  (repeat apply CodeT.seq)
  apply CodeT.region (fun _ => PPm)
  apply Run.op; (apply L_asg; rfl; rfl); rfl; rfl
  apply Run.done; refine ⟨fun h => Bool.noConfusion h, ?_⟩
  apply x3
  apply CodeT.ret
  apply x1
  cases H
  apply x12
  exact RetIs.sc1 rfl
  replace H := ifTb (notF h) H
  (repeat apply CodeT.seq)
  apply CodeT.skip
  apply x3
  (repeat apply CodeT.seq)
  apply CodeT.region (fun _ => PPm)
  apply Run.op; (apply L_asg; rfl; rfl); rfl; rfl
  apply Run.done; refine ⟨fun h => Bool.noConfusion h, ?_⟩
  apply x3
  apply CodeT.ret
  cases H
  apply x12
  exact RetIs.sc1 rfl
theorem m_spec_CliqueDepth (a0 : (List Clique)) (a1 : Int) (r : Int) (H : spec_CliqueDepth a0 a1 = some r) : Meets Try.prog 50 [.sl a0.length (a0.flatMap encClique), .sc (.int .i64 a1)] (.sc (.int .i64 r)) true := by
  refine Meets.intro2 (N := 27) (rs := #[.tmp 4]) Try.func50 rfl rfl rfl rfl ?_
  intro Γ hio
  unfold spec_CliqueDepth at H
  (repeat apply CodeT.seq)
  apply CodeT.region (fun _ => PPm)
  apply Run.op; (apply L_asg; rfl; rfl); rfl; rfl
  apply Run.done; refine ⟨fun h => Bool.noConfusion h, ?_⟩
  apply x3
  (repeat apply CodeT.seq)
  obtain ⟨d5, hd5, H⟩ := bindS H
  refine CodeT.lcut (x := d5) (fun d e E => XEnv Γ .normal ⟨[(0, ⟨.sl a0.length (a0.flatMap encClique), false⟩), (1, ⟨.sc (.int .i64 a1), false⟩), (16, ⟨.sc (.bool d), false⟩)], []⟩ e E) ?_ ?_
  clear H; have H := hd5; clear hd5
  apply CodeT.region (fun _ => PPm)
  apply Run.op; (apply L_mov; rfl; rfl); rfl; rfl
  obtain ⟨r1, hr1, H⟩ := bindS H
  apply R_bool; (apply L_call; ((apply ArgsV.cons; (apply ArgV.val; rfl; rfl)); (apply ArgsV.nil)); (exact m_spec_IsCliqueTree a0 _ hr1); rfl; rfl; rfl); rfl
  intro h; replace H := ifTb h H
  apply Run.op; (apply L_not; rfl; rfl); rfl; rfl
  apply Run.op; (apply L_mov; rfl; rfl); rfl; rfl
  apply Run.op; (apply L_mov; rfl; rfl); rfl; rfl
  apply Run.op; (apply L_mov; rfl; rfl); rfl; rfl
  apply Run.op; (apply L_len; rfl; rfl); rfl; rfl
  obtain ⟨v2, hv2, H⟩ := bindS H
  apply Run.op; (apply L_sub; rfl; rfl; (exact letS hv2); rfl); rfl; rfl
  obtain ⟨r3, hr3, H⟩ := bindS H
  apply Run.op; (apply L_call; ((apply ArgsV.cons; (apply ArgV.val; rfl; rfl)); (apply ArgsV.cons; (apply ArgV.val; rfl; rfl)); (apply ArgsV.cons; (apply ArgV.val; rfl; rfl)); (apply ArgsV.nil)); (exact m_spec_l01In a1 0 v2 _ hr3); rfl; rfl; rfl); rfl; rfl
  apply Run.op; (apply L_not; rfl; rfl); rfl; rfl
  apply Run.op; (apply L_pickF; rfl; rfl; rfl); rfl; rfl
  apply Run.done; refine ⟨fun h => Bool.noConfusion h, ?_⟩
  obtain rfl := Option.some.inj H
  refine Ev.y4 ?_
  refine XEnv.mk ?_
  refine Ent.list [] (io0 hio _) rfl ?_ ?_ <;> (repeat' first | exact trivial | (refine And.intro ⟨_, rfl, fun h => (by first | rfl | exact Bool.noConfusion h)⟩ ?_))
  intro h; replace H := ifFb h H
  apply Run.op; (apply L_not; rfl; rfl); rfl; rfl
  apply Run.op; (apply L_mov; rfl; rfl); rfl; rfl
  apply Run.skip; rfl
  apply Run.skip; rfl
  apply Run.skip; rfl
  apply Run.skip; rfl
  apply Run.skip; rfl
  apply Run.skip; rfl
  apply Run.op; (apply L_pickT; rfl; rfl; rfl); rfl; rfl
  apply Run.done; refine ⟨fun h => Bool.noConfusion h, ?_⟩
  obtain rfl := Option.some.inj H
  refine Ev.y4 ?_
  refine XEnv.mk ?_
  refine Ent.list [] (io0 hio _) rfl ?_ ?_ <;> (repeat' first | exact trivial | (refine And.intro ⟨_, rfl, fun h => (by first | rfl | exact Bool.noConfusion h)⟩ ?_))
  intro e E' hX; obtain ⟨rfl, g6⟩ := XEnv.out hX
  apply x3
  refine CodeT.weak g6 ?_
  (repeat apply CodeT.seq)
  refine CodeT.cond rfl (fun h => ?_) (fun h => ?_)
  replace H := ifTb h H
  (repeat apply CodeT.seq)
  apply CodeT.region (fun _ => PPm)
  apply Run.op; (apply L_asg; rfl; rfl); rfl; rfl
  apply Run.done; refine ⟨fun h => Bool.noConfusion h, ?_⟩
  apply x3
  apply CodeT.ret
  apply x1
  cases H
  apply x12
  exact RetIs.sc1 rfl
  replace H := ifFb h H
  (repeat apply CodeT.seq)
  apply CodeT.skip
  apply x3
  (repeat apply CodeT.seq)
  apply CodeT.region (fun _ => PPm)
  apply Run.op; (apply L_asg; rfl; rfl); rfl; rfl
  apply Run.done; refine ⟨fun h => Bool.noConfusion h, ?_⟩
  apply x3
  (repeat apply CodeT.seq)
  apply CodeT.block
  (repeat apply CodeT.seq)
  obtain ⟨d12, hd12, H⟩ := bindS H
  refine CodeT.lloop (fun s => ⟨[(0, ⟨.sl a0.length (a0.flatMap encClique), false⟩), (1, ⟨.sc (.int .i64 s.1), false⟩), (5, ⟨.sc (.int .i64 s.2), false⟩)], []⟩) (fun d e E => XEnv Γ (.exit 0) ⟨[(5, ⟨.sc (.int .i64 d), false⟩)], []⟩ e E) hd12 ?_ ?_ ?_
  refine Ent.list [] (io0 hio _) rfl ?_ ?_ <;> (repeat' first | exact trivial | (refine And.intro ⟨_, rfl, fun h => (by first | rfl | exact Bool.noConfusion h)⟩ ?_))
  clear H hd12
  rintro ⟨v8, v9⟩ o H
  unfold spec_CliqueDepth_L1 at H
  (repeat apply CodeT.seq)
  apply CodeT.region (fun _ => PPm)
  apply Run.op; (apply L_mov; rfl; rfl); rfl; rfl
  apply Run.op; (apply L_geq; rfl; rfl; rfl); rfl; rfl
  apply Run.done; refine ⟨fun h => Bool.noConfusion h, ?_⟩
  apply x3
  (repeat apply CodeT.seq)
  refine CodeT.cond rfl (fun h => ?_) (fun h => ?_)
  replace H := ifT (of_decide_eq_true h) H
  (repeat apply CodeT.seq)
  apply CodeT.skip
  apply x3
  apply CodeT.block
  (repeat apply CodeT.seq)
  apply CodeT.region (fun _ => PPm)
  apply Run.op; (apply L_mov; rfl; rfl); rfl; rfl
  apply Run.op; (apply L_add; rfl; rfl; rfl; rfl); rfl; rfl
  apply Run.op; (apply L_asg; rfl; rfl); rfl; rfl
  apply Run.done; refine ⟨fun h => Bool.noConfusion h, ?_⟩
  apply x3
  apply CodeT.region (fun _ => PPm)
  apply Run.op; (apply L_mov; rfl; rfl); rfl; rfl
  apply Run.op; (apply L_mov; rfl; rfl); rfl; rfl
  obtain ⟨y10, hy10, H⟩ := bindS H
  apply Run.op; (apply L_ixS2; rfl; rfl; rfl; (exact hy10); (intro _; rfl); rfl); rfl; rfl
  apply Run.op; (apply L_fldI; rfl; rfl); rfl; rfl
  apply Run.op; (apply L_ldI; rfl; rfl; rfl; rfl); rfl; rfl
  apply Run.op; (apply L_asg; rfl; rfl); rfl; rfl
  apply Run.done; refine ⟨fun h => Bool.noConfusion h, ?_⟩
  apply x5
  obtain rfl := Option.some.inj H
  refine Ev.y1 ?_
  refine Ent.list [] (io0 hio _) rfl ?_ ?_ <;> (repeat' first | exact trivial | (refine And.intro ⟨_, rfl, fun h => (by first | rfl | exact Bool.noConfusion h)⟩ ?_))
  replace H := ifF (of_decide_eq_false h) H
  (repeat apply CodeT.seq)
  apply CodeT.exit
  apply x2
  obtain rfl := Option.some.inj H
  refine Ev.y3 ?_
  refine XEnv.mk ?_
  refine Ent.list [] (io0 hio _) rfl ?_ ?_ <;> (repeat' first | exact trivial | (refine And.intro ⟨_, rfl, fun h => (by first | rfl | exact Bool.noConfusion h)⟩ ?_))
  skip
  intro e E' hX; obtain ⟨rfl, g13⟩ := XEnv.out hX
  refine x6 rfl ?_
  apply x3
  refine CodeT.weak g13 ?_
  (repeat apply CodeT.seq)
  apply CodeT.region (fun _ => PPm)
  apply Run.op; (apply L_mov; rfl; rfl); rfl; rfl
  apply Run.op; (apply L_asg; rfl; rfl); rfl; rfl
  apply Run.done; refine ⟨fun h => Bool.noConfusion h, ?_⟩
  apply x3
  apply CodeT.ret
  cases H
  apply x12
  exact RetIs.sc1 rfl
theorem m_impl_CliqueDepth (a0 : (List Clique)) (a1 : Int) (r : Int) (H : impl_CliqueDepth a0 a1 = some r) : Meets Try.prog 51 [.sl a0.length (a0.flatMap encClique), .sc (.int .i64 a1)] (.sc (.int .i64 r)) true := by
  refine Meets.intro2 (N := 29) (rs := #[.tmp 4]) Try.func51 rfl rfl rfl rfl ?_
  intro Γ hio
  unfold impl_CliqueDepth at H
  (repeat apply CodeT.seq)
  apply CodeT.region (fun _ => PPm)
  apply Run.op; (apply L_asg; rfl; rfl); rfl; rfl
  apply Run.done; refine ⟨fun h => Bool.noConfusion h, ?_⟩
  apply x3
  (repeat apply CodeT.seq)
  obtain ⟨d3, hd3, H⟩ := bindS H
  refine CodeT.lcut (x := d3) (fun d e E => XEnv Γ .normal ⟨[(0, ⟨.sl a0.length (a0.flatMap encClique), false⟩), (1, ⟨.sc (.int .i64 a1), false⟩), (18, ⟨.sc (.bool d), false⟩)], []⟩ e E) ?_ ?_
  clear H; have H := hd3; clear hd3
  apply CodeT.region (fun _ => PPm)
  apply Run.op; (apply L_mov; rfl; rfl); rfl; rfl
  obtain ⟨r1, hr1, H⟩ := bindS H
  apply R_bool; (apply L_call; ((apply ArgsV.cons; (apply ArgV.val; rfl; rfl)); (apply ArgsV.nil)); (exact m_impl_IsCliqueTree a0 _ hr1); rfl; rfl; rfl); rfl
  intro h; replace H := ifTb h H
  apply Run.op; (apply L_not; rfl; rfl); rfl; rfl
  apply Run.op; (apply L_mov; rfl; rfl); rfl; rfl
  apply Run.op; (apply L_mov; rfl; rfl); rfl; rfl
  apply R_dec; (apply L_lss; rfl; rfl; rfl); rfl
  intro h; replace H := ifT h H
  apply Run.op; (apply L_pickF; rfl; rfl; rfl); rfl; rfl
  apply Run.op; (apply L_mov; rfl; rfl); rfl; rfl
  apply Run.skip; rfl
  apply Run.skip; rfl
  apply Run.skip; rfl
  apply Run.skip; rfl
  apply Run.op; (apply L_pickT; rfl; rfl; rfl); rfl; rfl
  apply Run.done; refine ⟨fun h => Bool.noConfusion h, ?_⟩
  obtain rfl := Option.some.inj H
  refine Ev.y4 ?_
  refine XEnv.mk ?_
  refine Ent.list [] (io0 hio _) rfl ?_ ?_ <;> (repeat' first | exact trivial | (refine And.intro ⟨_, rfl, fun h => (by first | rfl | exact Bool.noConfusion h)⟩ ?_))
  intro h; replace H := ifF h H
  apply Run.op; (apply L_pickF; rfl; rfl; rfl); rfl; rfl
  apply Run.op; (apply L_mov; rfl; rfl); rfl; rfl
  apply Run.op; (apply L_mov; rfl; rfl); rfl; rfl
  apply Run.op; (apply L_mov; rfl; rfl); rfl; rfl
  apply Run.op; (apply L_len; rfl; rfl); rfl; rfl
  apply Run.op; (apply L_geq; rfl; rfl; rfl); rfl; rfl
  apply Run.op; (apply L_pickF; rfl; rfl; rfl); rfl; rfl
  apply Run.done; refine ⟨fun h => Bool.noConfusion h, ?_⟩
  obtain rfl := Option.some.inj H
  refine Ev.y4 ?_
  refine XEnv.mk ?_
  refine Ent.list [] (io0 hio _) rfl ?_ ?_ <;> (repeat' first | exact trivial | (refine And.intro ⟨_, rfl, fun h => (by first | rfl | exact Bool.noConfusion h)⟩ ?_))
  intro h; replace H := ifFb h H
  apply Run.op; (apply L_not; rfl; rfl); rfl; rfl
  apply Run.op; (apply L_mov; rfl; rfl); rfl; rfl
  apply Run.skip; rfl
  apply Run.skip; rfl
  apply Run.op; (apply L_pickT; rfl; rfl; rfl); rfl; rfl
  apply Run.op; (apply L_mov; rfl; rfl); rfl; rfl
  apply Run.skip; rfl
  apply Run.skip; rfl
  apply Run.skip; rfl
  apply Run.skip; rfl
  apply Run.op; (apply L_pickT; rfl; rfl; rfl); rfl; rfl
  apply Run.done; refine ⟨fun h => Bool.noConfusion h, ?_⟩
  obtain rfl := Option.some.inj H
  refine Ev.y4 ?_
  refine XEnv.mk ?_
  refine Ent.list [] (io0 hio _) rfl ?_ ?_ <;> (repeat' first | exact trivial | (refine And.intro ⟨_, rfl, fun h => (by first | rfl | exact Bool.noConfusion h)⟩ ?_))
  intro e E' hX; obtain ⟨rfl, g4⟩ := XEnv.out hX
  apply x3
  refine CodeT.weak g4 ?_
  (repeat apply CodeT.seq)
  refine CodeT.cond rfl (fun h => ?_) (fun h => ?_)
  replace H := ifTb h H
  (repeat apply CodeT.seq)
  apply CodeT.region (fun _ => PPm)
  apply Run.op; (apply L_asg; rfl; rfl); rfl; rfl
  apply Run.done; refine ⟨fun h => Bool.noConfusion h, ?_⟩
  apply x3
  apply CodeT.ret
  apply x1
  cases H
  apply x12
  exact RetIs.sc1 rfl
  replace H := ifFb h H
  (repeat apply CodeT.seq)
  apply CodeT.skip
  apply x3
  (repeat apply CodeT.seq)
  apply CodeT.region (fun _ => PPm)
  apply Run.op; (apply L_asg; rfl; rfl); rfl; rfl
  apply Run.done; refine ⟨fun h => Bool.noConfusion h, ?_⟩
  apply x3
  (repeat apply CodeT.seq)
  apply CodeT.block
  (repeat apply CodeT.seq)
  obtain ⟨d10, hd10, H⟩ := bindS H
  refine CodeT.lloop (fun s => ⟨[(0, ⟨.sl a0.length (a0.flatMap encClique), false⟩), (1, ⟨.sc (.int .i64 s.1), false⟩), (5, ⟨.sc (.int .i64 s.2), false⟩)], []⟩) (fun d e E => XEnv Γ (.exit 0) ⟨[(5, ⟨.sc (.int .i64 d), false⟩)], []⟩ e E) hd10 ?_ ?_ ?_
  refine Ent.list [] (io0 hio _) rfl ?_ ?_ <;> (repeat' first | exact trivial | (refine And.intro ⟨_, rfl, fun h => (by first | rfl | exact Bool.noConfusion h)⟩ ?_))
  clear H hd10
  rintro ⟨v6, v7⟩ o H
  unfold impl_CliqueDepth_L1 at H
  (repeat apply CodeT.seq)
  apply CodeT.region (fun _ => PPm)
  apply Run.op; (apply L_mov; rfl; rfl); rfl; rfl
  apply Run.op; (apply L_geq; rfl; rfl; rfl); rfl; rfl
  apply Run.done; refine ⟨fun h => Bool.noConfusion h, ?_⟩
  apply x3
  (repeat apply CodeT.seq)
  refine CodeT.cond rfl (fun h => ?_) (fun h => ?_)
  replace H := ifT (of_decide_eq_true h) H
  (repeat apply CodeT.seq)
  apply CodeT.skip
  apply x3
  (repeat apply CodeT.seq)
  apply CodeT.block
  (repeat apply CodeT.seq)
  apply CodeT.region (fun _ => PPm)
  apply Run.op; (apply L_mov; rfl; rfl); rfl; rfl
  apply Run.op; (apply L_add; rfl; rfl; rfl; rfl); rfl; rfl
  apply Run.op; (apply L_asg; rfl; rfl); rfl; rfl
  apply Run.done; refine ⟨fun h => Bool.noConfusion h, ?_⟩
  apply x5
  apply x3
  apply CodeT.region (fun _ => PPm)
  apply Run.op; (apply L_mov; rfl; rfl); rfl; rfl
  apply Run.op; (apply L_mov; rfl; rfl); rfl; rfl
  obtain ⟨y8, hy8, H⟩ := bindS H
  apply Run.op; (apply L_ixS2; rfl; rfl; rfl; (exact hy8); (intro _; rfl); rfl); rfl; rfl
  apply Run.op; (apply L_fldI; rfl; rfl); rfl; rfl
  apply Run.op; (apply L_ldI; rfl; rfl; rfl; rfl); rfl; rfl
  apply Run.op; (apply L_asg; rfl; rfl); rfl; rfl
  apply Run.done; refine ⟨fun h => Bool.noConfusion h, ?_⟩
  obtain rfl := Option.some.inj H
  refine Ev.y1 ?_
  refine Ent.list [] (io0 hio _) rfl ?_ ?_ <;> (repeat' first | exact trivial | (refine And.intro ⟨_, rfl, fun h => (by first | rfl | exact Bool.noConfusion h)⟩ ?_))
  replace H := ifF (of_decide_eq_false h) H
  (repeat apply CodeT.seq)
  apply CodeT.exit
  apply x2
  obtain rfl := Option.some.inj H
  refine Ev.y3 ?_
  refine XEnv.mk ?_
  refine Ent.list [] (io0 hio _) rfl ?_ ?_ <;> (repeat' first | exact trivial | (refine And.intro ⟨_, rfl, fun h => (by first | rfl | exact Bool.noConfusion h)⟩ ?_))
  skip
  intro e E' hX; obtain ⟨rfl, g11⟩ := XEnv.out hX
  refine x6 rfl ?_
  apply x3
  refine CodeT.weak g11 ?_
  (repeat apply CodeT.seq)
  apply CodeT.region (fun _ => PPm)
  apply Run.op; (apply L_mov; rfl; rfl); rfl; rfl
  apply Run.op; (apply L_asg; rfl; rfl); rfl; rfl
  apply Run.done; refine ⟨fun h => Bool.noConfusion h, ?_⟩
  apply x3
  apply CodeT.ret
  cases H
  apply x12
  exact RetIs.sc1 rfl
theorem m_laws_FnExactCliqueDepth (a0 : (List Clique)) (a1 : Int) (r : Bool) (H : laws_FnExactCliqueDepth a0 a1 = some r) : Meets Try.prog 9 [.sl a0.length (a0.flatMap encClique), .sc (.int .i64 a1)] (.sc (.bool r)) true := by
  refine Meets.intro2 (N := 31) (rs := #[.tmp 4]) Try.func9 rfl rfl rfl rfl ?_
  intro Γ hio
  unfold laws_FnExactCliqueDepth at H
  (repeat apply CodeT.seq)
  apply CodeT.region (fun _ => PPm)
  apply Run.op; (apply L_asg; rfl; rfl); rfl; rfl
  apply Run.done; refine ⟨fun h => Bool.noConfusion h, ?_⟩
  apply x3
  (repeat apply CodeT.seq)
  apply CodeT.region (fun _ => PPm)
  apply Run.op; (apply L_asg; rfl; rfl); rfl; rfl
  apply Run.done; refine ⟨fun h => Bool.noConfusion h, ?_⟩
  apply x3
  (repeat apply CodeT.seq)
  apply CodeT.region (fun _ => PPm)
  apply Run.op; (apply L_mov; rfl; rfl); rfl; rfl
  apply Run.op; (apply L_mov; rfl; rfl); rfl; rfl
  obtain ⟨r1, hr1, H⟩ := bindS H
  apply Run.op; (apply L_call; ((apply ArgsV.cons; (apply ArgV.val; rfl; rfl)); (apply ArgsV.cons; (apply ArgV.val; rfl; rfl)); (apply ArgsV.nil)); (exact m_laws_szCliqueS a0 1048576 _ hr1); rfl; rfl; rfl); rfl; rfl
  apply Run.op; (apply L_asg; rfl; rfl); rfl; rfl
  apply Run.done; refine ⟨fun h => Bool.noConfusion h, ?_⟩
  apply x3
  (repeat apply CodeT.seq)
  apply CodeT.region (fun _ => PPm)
  apply Run.op; (apply L_mov; rfl; rfl); rfl; rfl
  apply Run.op; (apply L_lss; rfl; rfl; rfl); rfl; rfl
  apply Run.done; refine ⟨fun h => Bool.noConfusion h, ?_⟩
  apply x3
  (repeat apply CodeT.seq)
  refine CodeT.cond rfl (fun h => ?_) (fun h => ?_)
  replace H := ifT (of_decide_eq_true h) H
  (repeat apply CodeT.seq)
  apply CodeT.region (fun _ => PPm)
  apply Run.op; (apply L_asg; rfl; rfl); rfl; rfl
  apply Run.done; refine ⟨fun h => Bool.noConfusion h, ?_⟩
  apply x3
  apply CodeT.ret
  apply x1
  cases H
  apply x12
  exact RetIs.sc1 rfl
  replace H := ifF (of_decide_eq_false h) H
  (repeat apply CodeT.seq)
  apply CodeT.skip
  apply x3
  (repeat apply CodeT.seq)
  apply CodeT.region (fun _ => PPm)
  apply Run.op; (apply L_mov; rfl; rfl); rfl; rfl
  obtain ⟨r2, hr2, H⟩ := bindS H
  apply Run.op; (apply L_callW; ((apply ArgsV.cons; (apply ArgV.val; rfl; rfl)); (apply ArgsV.nil)); (exact m_laws_toCliqueS a0 _ hr2); (exact io1 hio _); rfl); rfl; rfl
  apply Run.op; (apply L_mov; rfl; rfl); rfl; rfl
  obtain ⟨r3, hr3, H⟩ := bindS H
  apply Run.op; (apply L_call; ((apply ArgsV.cons; (apply ArgV.refS; rfl; rfl; (exact (SoftL.flat softClique _)))); (apply ArgsV.cons; (apply ArgV.val; rfl; rfl)); (apply ArgsV.nil)); (exact m_spec_CliqueDepth r2 a1 _ hr3); rfl; rfl; rfl); rfl; rfl
  apply Run.op; (apply L_asg; rfl; rfl); rfl; rfl
  apply Run.done; refine ⟨fun h => Bool.noConfusion h, ?_⟩
  apply x3
  (repeat apply CodeT.seq)
  apply CodeT.region (fun _ => PPm)
  apply Run.op; (apply L_mov; rfl; rfl); rfl; rfl
  obtain ⟨r4, hr4, H⟩ := bindS H
  apply Run.op; (apply L_callW; ((apply ArgsV.cons; (apply ArgV.val; rfl; rfl)); (apply ArgsV.nil)); (exact m_laws_toCliqueS a0 _ hr4); (exact io1 hio _); rfl); rfl; rfl
  apply Run.op; (apply L_asg; rfl; rfl); rfl; rfl
  apply Run.done; refine ⟨fun h => Bool.noConfusion h, ?_⟩
  apply x3
  (repeat apply CodeT.seq)
  apply CodeT.region (fun _ => PPm)
  apply Run.op; (apply L_mov; rfl; rfl); rfl; rfl
  apply Run.op; (apply L_mov; rfl; rfl); rfl; rfl
  obtain ⟨r5, hr5, H⟩ := bindS H
  apply Run.op; (apply L_call; ((apply ArgsV.cons; (apply ArgV.refS; rfl; rfl; (exact (SoftL.flat softClique _)))); (apply ArgsV.cons; (apply ArgV.val; rfl; rfl)); (apply ArgsV.nil)); (exact m_impl_CliqueDepth r4 a1 _ hr5); rfl; rfl; rfl); rfl; rfl
  apply Run.op; (apply L_asg; rfl; rfl); rfl; rfl
  apply Run.done; refine ⟨fun h => Bool.noConfusion h, ?_⟩
  apply x3
  (repeat apply CodeT.seq)
  apply CodeT.region (fun _ => PPm)
  apply Run.op; (apply L_mov; rfl; rfl); rfl; rfl
  apply Run.op; (apply L_mov; rfl; rfl); rfl; rfl
  apply Run.op; (apply L_neq; rfl; rfl; rfl); rfl; rfl
  apply Run.done; refine ⟨fun h => Bool.noConfusion h, ?_⟩
  apply x3
  (repeat apply CodeT.seq)
  refine CodeT.cond rfl (fun h => ?_) (fun h => ?_)
  replace H := ifT (of_decide_eq_true h) H
  (repeat apply CodeT.seq)
  apply CodeT.region (fun _ => PPm)
  apply Run.op; (apply L_asg; rfl; rfl); rfl; rfl
  apply Run.done; refine ⟨fun h => Bool.noConfusion h, ?_⟩
  apply x3
  apply CodeT.ret
  apply x1
  cases H
  apply x12
  exact RetIs.sc1 rfl
  replace H := ifF (of_decide_eq_false h) H
  (repeat apply CodeT.seq)
  apply CodeT.skip
  apply x3
  (repeat apply CodeT.seq)
  apply CodeT.region (fun _ => PPm)
  apply Run.op; (apply L_mov; rfl; rfl); rfl; rfl
  apply Run.op; (apply L_mov; rfl; rfl); rfl; rfl
  obtain ⟨r6, hr6, H⟩ := bindS H
  apply Run.op; (apply L_callW; ((apply ArgsV.cons; (apply ArgV.val; rfl; rfl)); (apply ArgsV.nil)); (exact m_laws_toCliqueS a0 _ hr6); (exact io1 hio _); rfl); rfl; rfl
  obtain ⟨r7, hr7, H⟩ := bindS H
  apply Run.op; (apply L_call; ((apply ArgsV.cons; (apply ArgV.refS; rfl; rfl; (exact (SoftL.flat softClique _)))); (apply ArgsV.cons; (apply ArgV.refS; rfl; rfl; (exact (SoftL.flat softClique _)))); (apply ArgsV.nil)); (exact m_laws_eqCliqueS r4 r6 _ hr7); rfl; rfl; rfl); rfl; rfl
  apply Run.op; (apply L_not; rfl; rfl); rfl; rfl
  apply Run.done; refine ⟨fun h => Bool.noConfusion h, ?_⟩
  apply x3
  (repeat apply CodeT.seq)
  refine CodeT.cond rfl (fun h => ?_) (fun h => ?_)
  replace H := ifFb (notT h) H
  (repeat apply CodeT.seq)
  apply CodeT.region (fun _ => PPm)
  apply Run.op; (apply L_asg; rfl; rfl); rfl; rfl
  apply Run.done; refine ⟨fun h => Bool.noConfusion h, ?_⟩
  apply x3
  apply CodeT.ret
  apply x1
  cases H
  apply x12
  exact RetIs.sc1 rfl
  replace H := ifTb (notF h) H
  (repeat apply CodeT.seq)
  apply CodeT.skip
  apply x3
  (repeat apply CodeT.seq)
  apply CodeT.region (fun _ => PPm)
  apply Run.op; (apply L_asg; rfl; rfl); rfl; rfl
  apply Run.done; refine ⟨fun h => Bool.noConfusion h, ?_⟩
  apply x3
  apply CodeT.ret
  cases H
  apply x12
  exact RetIs.sc1 rfl
end Go.Ev
