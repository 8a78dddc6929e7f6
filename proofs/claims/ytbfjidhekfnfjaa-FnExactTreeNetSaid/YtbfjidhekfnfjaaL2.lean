/- The walks of lifted functions, printed by program (lift.py). -/
import Derived.Test.YtbfjidhekfnfjaaL1
set_option linter.all false
namespace Go.Ev
open Go.Proofs
set_option linter.all false
attribute [local irreducible] CodeT Ent Meets MeetsX Local LocalAt Res1 RetIs RetX Sim OpT StepT NoLab Then InBlock Round Cut ends endsX LRound LCut XEnv XRet XRetX XRetN MeetsN MeetsD MarkC RetN RetM endsN endsM
theorem m_laws_markParentS (a0 : (List Parent)) (a1 : Int) (r : (Int × (List Parent))) (H : laws_markParentS a0 a1 = some r) : MeetsN Try.prog 105 [.ref 100000 10 0 a0.length, .sc (.int .i64 a1)] (a0.flatMap encWParent) (r.2.flatMap encWParent) (.sc (.int .i64 r.1)) := by
  have H0 := H; clear H
  obtain ⟨r', H, H2⟩ := bindS H0; clear H0
  obtain ⟨_, hlen, H2⟩ := bindS H2
  obtain rfl := Option.some.inj H2
  have hlen := chkS hlen
  refine MeetsN.intro (N := 104) (rs := #[.tmp 4]) Try.func105 rfl rfl rfl rfl (nil_new (l := 0) (sz := 10) hlen (fun _ => rfl) (by decide)) rfl ?_
  clear hlen
  intro Γ hio hle
  unfold laws_markParentS_raw at H
  (repeat apply CodeT.seq)
  apply CodeT.region (fun _ => PPm)
  apply Run.op; (apply L_asg; rfl; rfl); rfl; rfl
  apply Run.done; refine ⟨fun h => Bool.noConfusion h, ?_⟩
  apply x3
  (repeat apply CodeT.seq)
  apply CodeT.region (fun _ => PPm)
  apply Run.op; (apply L_asg; rfl; rfl); rfl; rfl
  apply Run.done; refine ⟨fun h => Bool.noConfusion h, ?_⟩
  apply x3
  (repeat apply CodeT.seq)
  apply CodeT.block
  (repeat apply CodeT.seq)
  obtain ⟨d92, hd92, H⟩ := bindS H
  refine CodeT.lloop (fun s => ⟨[(0, ⟨.ref 100000 10 0 s.2.2.length, false⟩), (1, ⟨.sc (.int .i64 s.1), false⟩), (5, ⟨.sc (.int .i64 s.2.1), false⟩)], [(100000, some ⟨s.2.2.flatMap encWParent, true, false⟩)]⟩) (fun d e E => XEnv Γ (.exit 0) ⟨[(1, ⟨.sc (.int .i64 d.1), false⟩)], [(100000, some ⟨d.2.flatMap encWParent, true, false⟩)]⟩ e E) hd92 ?_ ?_ ?_
  refine Ent.list [] (io0 hio _) rfl ?_ ?_ <;> (repeat' first | exact trivial | (refine And.intro ⟨_, rfl, fun h => (by first | rfl | exact Bool.noConfusion h)⟩ ?_))
  clear H hd92
  rintro ⟨v44, v45, v46⟩ o H
  unfold laws_markParentS_L1 at H
  (repeat apply CodeT.seq)
  apply CodeT.region (fun _ => PPm)
  apply Run.op; (apply L_mov; rfl; rfl); rfl; rfl
  apply Run.op; (apply L_mov; rfl; rfl); rfl; rfl
  apply Run.op; (apply L_lenR; rfl; rfl; rfl); rfl; rfl
  apply Run.op; (apply L_lss; rfl; rfl; rfl); rfl; rfl
  apply Run.done; refine ⟨fun h => Bool.noConfusion h, ?_⟩
  apply x3
  (repeat apply CodeT.seq)
  refine CodeT.cond rfl (fun h => ?_) (fun h => ?_)
  replace H := ifT (of_decide_eq_true h) H
  (repeat apply CodeT.seq)
  apply CodeT.skip
  apply x3
  (repeat apply CodeT.seq)
  apply CodeT.block
  (repeat apply CodeT.seq)
  apply CodeT.region (fun _ => PPm)
  apply Run.op; (apply L_mov; rfl; rfl); rfl; rfl
  apply Run.op; (apply L_mov; rfl; rfl); rfl; rfl
  apply Run.op; (apply L_mov; rfl; rfl); rfl; rfl
  obtain ⟨y47, hy47, H⟩ := bindS H
  apply Run.op; (apply L_ixR2; rfl; rfl; rfl; (exact hy47); rfl; rfl); rfl; rfl
  apply Run.op; (apply L_fldP; rfl; rfl; (exact row_pos (sz := 10) hy47 (fun _ => rfl) (by decide)); rfl); rfl; rfl
  obtain ⟨v48, hv48, H⟩ := bindS H
  have hl49 := setI_lenS hv48
  apply Run.op; (apply L_st; rfl; rfl; rfl; rfl; rfl; (intro h; cases h); (exact row_ble (sz := 10) (o := 0) (n := 1) hy47 (fun _ => rfl) (by decide)); (exact row_fldL (sz := 10) (o := 0) (n := 1) hv48 hy47 (fun _ => rfl) (by decide) rfl)); rfl; rfl
  apply Run.done; refine ⟨fun h => Bool.noConfusion h, ?_⟩
  apply x3
  (repeat apply CodeT.seq)
  refine CodeT.weak (Ent.relen (k := 0) (n' := v48.length) rfl (by first | (simp only [setI_len]; done) | (simp only [setI_len]; omega) | omega)) ?_
  apply CodeT.region (fun _ => PPm)
  apply Run.op; (apply L_mov; rfl; rfl); rfl; rfl
  apply Run.op; (apply L_add; rfl; rfl; rfl; rfl); rfl; rfl
  apply Run.op; (apply L_asg; rfl; rfl); rfl; rfl
  apply Run.done; refine ⟨fun h => Bool.noConfusion h, ?_⟩
  apply x3
  (repeat apply CodeT.seq)
  apply CodeT.region (fun _ => PPm)
  apply Run.op; (apply L_mov; rfl; rfl); rfl; rfl
  apply Run.op; (apply L_mov; rfl; rfl); rfl; rfl
  apply Run.op; (apply L_mov; rfl; rfl); rfl; rfl
  obtain ⟨v50, hv50, H⟩ := bindS H
  apply Run.op; (apply L_rem; rfl; rfl; (intro h; cases h); (exact letS hv50); rfl); rfl; rfl
  apply Run.op; (apply L_eql; rfl; rfl; rfl); rfl; rfl
  obtain ⟨y51, hy51, H⟩ := bindS H
  apply Run.op; (apply L_ixR2; rfl; rfl; rfl; (exact hy51); rfl; rfl); rfl; rfl
  apply Run.op; (apply L_fldP; rfl; rfl; (exact row_pos (sz := 10) hy51 (fun _ => rfl) (by decide)); rfl); rfl; rfl
  apply Run.op; (apply L_fldP; rfl; rfl; (exact row_pos (sz := 10) hy51 (fun _ => rfl) (by decide)); rfl); rfl; rfl
  apply Run.op; (apply L_fldP; rfl; rfl; (exact row_pos (sz := 10) hy51 (fun _ => rfl) (by decide)); rfl); rfl; rfl
  obtain ⟨v52, hv52, H⟩ := bindS H
  have hl53 := setI_lenS hv52
  apply Run.op; (apply L_st; rfl; rfl; rfl; rfl; rfl; (intro h; cases h); (exact row_ble (sz := 10) (o := 1) (n := 1) hy51 (fun _ => rfl) (by decide)); (exact row_fldL (sz := 10) (o := 1) (n := 1) hv52 hy51 (fun _ => rfl) (by decide) rfl)); rfl; rfl
  apply Run.done; refine ⟨fun h => Bool.noConfusion h, ?_⟩
  apply x3
  (repeat apply CodeT.seq)
  refine CodeT.weak (Ent.relen (k := 0) (n' := v52.length) rfl (by first | (simp only [setI_len]; done) | (simp only [setI_len]; omega) | omega)) ?_
  apply CodeT.region (fun _ => PPm)
  apply Run.op; (apply L_mov; rfl; rfl); rfl; rfl
  obtain ⟨v54, hv54, H⟩ := bindS H
  apply Run.op; (apply L_add; rfl; rfl; (exact letS hv54); rfl); rfl; rfl
  apply Run.op; (apply L_asg; rfl; rfl); rfl; rfl
  apply Run.done; refine ⟨fun h => Bool.noConfusion h, ?_⟩
  apply x3
  (repeat apply CodeT.seq)
  obtain ⟨y55, hy55, H⟩ := bindS H
  refine CodeT.expose (l := 100000) (c := v45.toNat * 10 + 2) rfl (row_ld (o := 2) hy55 rfl (fun _ => rfl)) (fun wy55 => ?_)
  apply CodeT.region (fun _ => PPm)
  apply Run.op; (apply L_mov; rfl; rfl); rfl; rfl
  apply Run.op; (apply L_mov; rfl; rfl); rfl; rfl
  apply Run.op; (apply L_ixR2; rfl; rfl; rfl; (exact hy55); rfl; rfl); rfl; rfl
  apply Run.op; (apply L_fldP; rfl; rfl; (exact row_posS (sz := 10) hy55 (fun _ => rfl) (by decide)); rfl); rfl; rfl
  apply Run.op; (apply L_fldP; rfl; rfl; (exact row_posS (sz := 10) hy55 (fun _ => rfl) (by decide)); rfl); rfl; rfl
  apply Run.op; (apply L_fldP; rfl; rfl; (exact row_posS (sz := 10) hy55 (fun _ => rfl) (by decide)); rfl); rfl; rfl
  apply Run.op; (apply Local.forget Forg.was; apply L_ldP; rfl; rfl; (exact set_self (row_ld (o := 2) hy55 rfl (fun _ => rfl))); (exact .inr rfl); rfl); rfl; rfl
  apply Run.op; (apply L_mov; rfl; rfl); rfl; rfl
  obtain ⟨r57, hr57, H⟩ := bindS H
  apply Run.op; (apply L_callM (l := 100000) (off := v45.toNat * 10 + 2) (m := 1) (p := .rw 1 y55.fShare.fNum.fMag.length (y55.fShare.fNum.fMag.flatMap (encI .i64))) (p' := .rw 1 r57.2.length (r57.2.flatMap (encI .i64))); rfl; rfl; rfl; (exact set_cut (row_ld (o := 2) hy55 rfl (fun _ => rfl))); rfl; rfl; (exact MCut.one); (exact mk_laws_markIntS y55.fShare.fNum.fMag v54 _ hr57); (exact set_cat (row_ld (o := 2) hy55 rfl (fun _ => rfl))); (exact hle); rfl); rfl; rfl
  apply Run.op; (apply L_asg; rfl; rfl); rfl; rfl
  apply Run.done; refine ⟨fun h => Bool.noConfusion h, ?_⟩
  apply x3
  obtain ⟨v58, hv58, H⟩ := bindS H
  have hl59 := setI_lenS hv58
  refine CodeT.weak (Ent.soften (l := 100000) rfl (row_softM (sz := 10) hv58 hy55 (fun _ => rfl) (by decide) rfl)) ?_
  (repeat apply CodeT.seq)
  refine CodeT.weak (Ent.relen (k := 0) (n' := v58.length) rfl (by first | (simp only [setI_len]; done) | (simp only [setI_len]; omega) | omega)) ?_
  obtain ⟨y60, hy60, H⟩ := bindS H
  refine CodeT.expose (l := 100000) (c := v45.toNat * 10 + 3) rfl (row_ld (o := 3) hy60 rfl (fun _ => rfl)) (fun wy60 => ?_)
  apply CodeT.region (fun _ => PPm)
  apply Run.op; (apply L_mov; rfl; rfl); rfl; rfl
  apply Run.op; (apply L_mov; rfl; rfl); rfl; rfl
  apply Run.op; (apply L_ixR2; rfl; rfl; rfl; (exact hy60); rfl; rfl); rfl; rfl
  apply Run.op; (apply L_fldP; rfl; rfl; (exact row_posS (sz := 10) hy60 (fun _ => rfl) (by decide)); rfl); rfl; rfl
  apply Run.op; (apply L_fldP; rfl; rfl; (exact row_posS (sz := 10) hy60 (fun _ => rfl) (by decide)); rfl); rfl; rfl
  apply Run.op; (apply Local.forget Forg.was; apply L_ldP; rfl; rfl; (exact set_self (row_ld (o := 3) hy60 rfl (fun _ => rfl))); (exact .inr rfl); rfl); rfl; rfl
  apply Run.op; (apply L_mov; rfl; rfl); rfl; rfl
  obtain ⟨r62, hr62, H⟩ := bindS H
  apply Run.op; (apply L_callM (l := 100000) (off := v45.toNat * 10 + 3) (m := 1) (p := .rw 1 y60.fShare.fDen.length (y60.fShare.fDen.flatMap (encI .i64))) (p' := .rw 1 r62.2.length (r62.2.flatMap (encI .i64))); rfl; rfl; rfl; (exact set_cut (row_ld (o := 3) hy60 rfl (fun _ => rfl))); rfl; rfl; (exact MCut.one); (exact mk_laws_markIntS y60.fShare.fDen r57.1 _ hr62); (exact set_cat (row_ld (o := 3) hy60 rfl (fun _ => rfl))); (exact hle); rfl); rfl; rfl
  apply Run.op; (apply L_asg; rfl; rfl); rfl; rfl
  apply Run.done; refine ⟨fun h => Bool.noConfusion h, ?_⟩
  apply x3
  obtain ⟨v63, hv63, H⟩ := bindS H
  have hl64 := setI_lenS hv63
  refine CodeT.weak (Ent.soften (l := 100000) rfl (row_softM (sz := 10) hv63 hy60 (fun _ => rfl) (by decide) rfl)) ?_
  (repeat apply CodeT.seq)
  refine CodeT.weak (Ent.relen (k := 0) (n' := v63.length) rfl (by first | (simp only [setI_len]; done) | (simp only [setI_len]; omega) | omega)) ?_
  apply CodeT.region (fun _ => PPm)
  apply Run.op; (apply L_mov; rfl; rfl); rfl; rfl
  apply Run.op; (apply L_mov; rfl; rfl); rfl; rfl
  apply Run.op; (apply L_mov; rfl; rfl); rfl; rfl
  apply Run.op; (apply L_rem; rfl; rfl; (intro h; cases h); rfl; rfl); rfl; rfl
  apply Run.op; (apply L_eql; rfl; rfl; rfl); rfl; rfl
  obtain ⟨y65, hy65, H⟩ := bindS H
  apply Run.op; (apply L_ixR2; rfl; rfl; rfl; (exact hy65); rfl; rfl); rfl; rfl
  apply Run.op; (apply L_fldP; rfl; rfl; (exact row_pos (sz := 10) hy65 (fun _ => rfl) (by decide)); rfl); rfl; rfl
  apply Run.op; (apply L_fldP; rfl; rfl; (exact row_pos (sz := 10) hy65 (fun _ => rfl) (by decide)); rfl); rfl; rfl
  apply Run.op; (apply L_fldP; rfl; rfl; (exact row_pos (sz := 10) hy65 (fun _ => rfl) (by decide)); rfl); rfl; rfl
  obtain ⟨v66, hv66, H⟩ := bindS H
  have hl67 := setI_lenS hv66
  apply Run.op; (apply L_st; rfl; rfl; rfl; rfl; rfl; (intro h; cases h); (exact row_ble (sz := 10) (o := 4) (n := 1) hy65 (fun _ => rfl) (by decide)); (exact row_fldL (sz := 10) (o := 4) (n := 1) hv66 hy65 (fun _ => rfl) (by decide) rfl)); rfl; rfl
  apply Run.done; refine ⟨fun h => Bool.noConfusion h, ?_⟩
  apply x3
  (repeat apply CodeT.seq)
  refine CodeT.weak (Ent.relen (k := 0) (n' := v66.length) rfl (by first | (simp only [setI_len]; done) | (simp only [setI_len]; omega) | omega)) ?_
  apply CodeT.region (fun _ => PPm)
  apply Run.op; (apply L_mov; rfl; rfl); rfl; rfl
  apply Run.op; (apply L_add; rfl; rfl; rfl; rfl); rfl; rfl
  apply Run.op; (apply L_asg; rfl; rfl); rfl; rfl
  apply Run.done; refine ⟨fun h => Bool.noConfusion h, ?_⟩
  apply x3
  (repeat apply CodeT.seq)
  obtain ⟨y68, hy68, H⟩ := bindS H
  refine CodeT.expose (l := 100000) (c := v45.toNat * 10 + 5) rfl (row_ld (o := 5) hy68 rfl (fun _ => rfl)) (fun wy68 => ?_)
  apply CodeT.region (fun _ => PPm)
  apply Run.op; (apply L_mov; rfl; rfl); rfl; rfl
  apply Run.op; (apply L_mov; rfl; rfl); rfl; rfl
  apply Run.op; (apply L_ixR2; rfl; rfl; rfl; (exact hy68); rfl; rfl); rfl; rfl
  apply Run.op; (apply L_fldP; rfl; rfl; (exact row_posS (sz := 10) hy68 (fun _ => rfl) (by decide)); rfl); rfl; rfl
  apply Run.op; (apply L_fldP; rfl; rfl; (exact row_posS (sz := 10) hy68 (fun _ => rfl) (by decide)); rfl); rfl; rfl
  apply Run.op; (apply L_fldP; rfl; rfl; (exact row_posS (sz := 10) hy68 (fun _ => rfl) (by decide)); rfl); rfl; rfl
  apply Run.op; (apply Local.forget Forg.was; apply L_ldP; rfl; rfl; (exact set_self (row_ld (o := 5) hy68 rfl (fun _ => rfl))); (exact .inr rfl); rfl); rfl; rfl
  apply Run.op; (apply L_mov; rfl; rfl); rfl; rfl
  obtain ⟨r70, hr70, H⟩ := bindS H
  apply Run.op; (apply L_callM (l := 100000) (off := v45.toNat * 10 + 5) (m := 1) (p := .rw 1 y68.fDX.fNum.fMag.length (y68.fDX.fNum.fMag.flatMap (encI .i64))) (p' := .rw 1 r70.2.length (r70.2.flatMap (encI .i64))); rfl; rfl; rfl; (exact set_cut (row_ld (o := 5) hy68 rfl (fun _ => rfl))); rfl; rfl; (exact MCut.one); (exact mk_laws_markIntS y68.fDX.fNum.fMag (IntKind.i64.wrap (r62.1 + 1)) _ hr70); (exact set_cat (row_ld (o := 5) hy68 rfl (fun _ => rfl))); (exact hle); rfl); rfl; rfl
  apply Run.op; (apply L_asg; rfl; rfl); rfl; rfl
  apply Run.done; refine ⟨fun h => Bool.noConfusion h, ?_⟩
  apply x3
  obtain ⟨v71, hv71, H⟩ := bindS H
  have hl72 := setI_lenS hv71
  refine CodeT.weak (Ent.soften (l := 100000) rfl (row_softM (sz := 10) hv71 hy68 (fun _ => rfl) (by decide) rfl)) ?_
  (repeat apply CodeT.seq)
  refine CodeT.weak (Ent.relen (k := 0) (n' := v71.length) rfl (by first | (simp only [setI_len]; done) | (simp only [setI_len]; omega) | omega)) ?_
  obtain ⟨y73, hy73, H⟩ := bindS H
  refine CodeT.expose (l := 100000) (c := v45.toNat * 10 + 6) rfl (row_ld (o := 6) hy73 rfl (fun _ => rfl)) (fun wy73 => ?_)
  apply CodeT.region (fun _ => PPm)
  apply Run.op; (apply L_mov; rfl; rfl); rfl; rfl
  apply Run.op; (apply L_mov; rfl; rfl); rfl; rfl
  apply Run.op; (apply L_ixR2; rfl; rfl; rfl; (exact hy73); rfl; rfl); rfl; rfl
  apply Run.op; (apply L_fldP; rfl; rfl; (exact row_posS (sz := 10) hy73 (fun _ => rfl) (by decide)); rfl); rfl; rfl
  apply Run.op; (apply L_fldP; rfl; rfl; (exact row_posS (sz := 10) hy73 (fun _ => rfl) (by decide)); rfl); rfl; rfl
  apply Run.op; (apply Local.forget Forg.was; apply L_ldP; rfl; rfl; (exact set_self (row_ld (o := 6) hy73 rfl (fun _ => rfl))); (exact .inr rfl); rfl); rfl; rfl
  apply Run.op; (apply L_mov; rfl; rfl); rfl; rfl
  obtain ⟨r75, hr75, H⟩ := bindS H
  apply Run.op; (apply L_callM (l := 100000) (off := v45.toNat * 10 + 6) (m := 1) (p := .rw 1 y73.fDX.fDen.length (y73.fDX.fDen.flatMap (encI .i64))) (p' := .rw 1 r75.2.length (r75.2.flatMap (encI .i64))); rfl; rfl; rfl; (exact set_cut (row_ld (o := 6) hy73 rfl (fun _ => rfl))); rfl; rfl; (exact MCut.one); (exact mk_laws_markIntS y73.fDX.fDen r70.1 _ hr75); (exact set_cat (row_ld (o := 6) hy73 rfl (fun _ => rfl))); (exact hle); rfl); rfl; rfl
  apply Run.op; (apply L_asg; rfl; rfl); rfl; rfl
  apply Run.done; refine ⟨fun h => Bool.noConfusion h, ?_⟩
  apply x3
  obtain ⟨v76, hv76, H⟩ := bindS H
  have hl77 := setI_lenS hv76
  refine CodeT.weak (Ent.soften (l := 100000) rfl (row_softM (sz := 10) hv76 hy73 (fun _ => rfl) (by decide) rfl)) ?_
  (repeat apply CodeT.seq)
  refine CodeT.weak (Ent.relen (k := 0) (n' := v76.length) rfl (by first | (simp only [setI_len]; done) | (simp only [setI_len]; omega) | omega)) ?_
  apply CodeT.region (fun _ => PPm)
  apply Run.op; (apply L_mov; rfl; rfl); rfl; rfl
  apply Run.op; (apply L_mov; rfl; rfl); rfl; rfl
  apply Run.op; (apply L_mov; rfl; rfl); rfl; rfl
  apply Run.op; (apply L_rem; rfl; rfl; (intro h; cases h); rfl; rfl); rfl; rfl
  apply Run.op; (apply L_eql; rfl; rfl; rfl); rfl; rfl
  obtain ⟨y78, hy78, H⟩ := bindS H
  apply Run.op; (apply L_ixR2; rfl; rfl; rfl; (exact hy78); rfl; rfl); rfl; rfl
  apply Run.op; (apply L_fldP; rfl; rfl; (exact row_pos (sz := 10) hy78 (fun _ => rfl) (by decide)); rfl); rfl; rfl
  apply Run.op; (apply L_fldP; rfl; rfl; (exact row_pos (sz := 10) hy78 (fun _ => rfl) (by decide)); rfl); rfl; rfl
  apply Run.op; (apply L_fldP; rfl; rfl; (exact row_pos (sz := 10) hy78 (fun _ => rfl) (by decide)); rfl); rfl; rfl
  obtain ⟨v79, hv79, H⟩ := bindS H
  have hl80 := setI_lenS hv79
  apply Run.op; (apply L_st; rfl; rfl; rfl; rfl; rfl; (intro h; cases h); (exact row_ble (sz := 10) (o := 7) (n := 1) hy78 (fun _ => rfl) (by decide)); (exact row_fldL (sz := 10) (o := 7) (n := 1) hv79 hy78 (fun _ => rfl) (by decide) rfl)); rfl; rfl
  apply Run.done; refine ⟨fun h => Bool.noConfusion h, ?_⟩
  apply x3
  (repeat apply CodeT.seq)
  refine CodeT.weak (Ent.relen (k := 0) (n' := v79.length) rfl (by first | (simp only [setI_len]; done) | (simp only [setI_len]; omega) | omega)) ?_
  apply CodeT.region (fun _ => PPm)
  apply Run.op; (apply L_mov; rfl; rfl); rfl; rfl
  apply Run.op; (apply L_add; rfl; rfl; rfl; rfl); rfl; rfl
  apply Run.op; (apply L_asg; rfl; rfl); rfl; rfl
  apply Run.done; refine ⟨fun h => Bool.noConfusion h, ?_⟩
  apply x3
  (repeat apply CodeT.seq)
  obtain ⟨y81, hy81, H⟩ := bindS H
  refine CodeT.expose (l := 100000) (c := v45.toNat * 10 + 8) rfl (row_ld (o := 8) hy81 rfl (fun _ => rfl)) (fun wy81 => ?_)
  apply CodeT.region (fun _ => PPm)
  apply Run.op; (apply L_mov; rfl; rfl); rfl; rfl
  apply Run.op; (apply L_mov; rfl; rfl); rfl; rfl
  apply Run.op; (apply L_ixR2; rfl; rfl; rfl; (exact hy81); rfl; rfl); rfl; rfl
  apply Run.op; (apply L_fldP; rfl; rfl; (exact row_posS (sz := 10) hy81 (fun _ => rfl) (by decide)); rfl); rfl; rfl
  apply Run.op; (apply L_fldP; rfl; rfl; (exact row_posS (sz := 10) hy81 (fun _ => rfl) (by decide)); rfl); rfl; rfl
  apply Run.op; (apply L_fldP; rfl; rfl; (exact row_posS (sz := 10) hy81 (fun _ => rfl) (by decide)); rfl); rfl; rfl
  apply Run.op; (apply Local.forget Forg.was; apply L_ldP; rfl; rfl; (exact set_self (row_ld (o := 8) hy81 rfl (fun _ => rfl))); (exact .inr rfl); rfl); rfl; rfl
  apply Run.op; (apply L_mov; rfl; rfl); rfl; rfl
  obtain ⟨r83, hr83, H⟩ := bindS H
  apply Run.op; (apply L_callM (l := 100000) (off := v45.toNat * 10 + 8) (m := 1) (p := .rw 1 y81.fDY.fNum.fMag.length (y81.fDY.fNum.fMag.flatMap (encI .i64))) (p' := .rw 1 r83.2.length (r83.2.flatMap (encI .i64))); rfl; rfl; rfl; (exact set_cut (row_ld (o := 8) hy81 rfl (fun _ => rfl))); rfl; rfl; (exact MCut.one); (exact mk_laws_markIntS y81.fDY.fNum.fMag (IntKind.i64.wrap (r75.1 + 1)) _ hr83); (exact set_cat (row_ld (o := 8) hy81 rfl (fun _ => rfl))); (exact hle); rfl); rfl; rfl
  apply Run.op; (apply L_asg; rfl; rfl); rfl; rfl
  apply Run.done; refine ⟨fun h => Bool.noConfusion h, ?_⟩
  apply x3
  obtain ⟨v84, hv84, H⟩ := bindS H
  have hl85 := setI_lenS hv84
  refine CodeT.weak (Ent.soften (l := 100000) rfl (row_softM (sz := 10) hv84 hy81 (fun _ => rfl) (by decide) rfl)) ?_
  refine CodeT.weak (Ent.relen (k := 0) (n' := v84.length) rfl (by first | (simp only [setI_len]; done) | (simp only [setI_len]; omega) | omega)) ?_
  obtain ⟨y86, hy86, H⟩ := bindS H
  refine CodeT.expose (l := 100000) (c := v45.toNat * 10 + 9) rfl (row_ld (o := 9) hy86 rfl (fun _ => rfl)) (fun wy86 => ?_)
  apply CodeT.region (fun _ => PPm)
  apply Run.op; (apply L_mov; rfl; rfl); rfl; rfl
  apply Run.op; (apply L_mov; rfl; rfl); rfl; rfl
  apply Run.op; (apply L_ixR2; rfl; rfl; rfl; (exact hy86); rfl; rfl); rfl; rfl
  apply Run.op; (apply L_fldP; rfl; rfl; (exact row_posS (sz := 10) hy86 (fun _ => rfl) (by decide)); rfl); rfl; rfl
  apply Run.op; (apply L_fldP; rfl; rfl; (exact row_posS (sz := 10) hy86 (fun _ => rfl) (by decide)); rfl); rfl; rfl
  apply Run.op; (apply Local.forget Forg.was; apply L_ldP; rfl; rfl; (exact set_self (row_ld (o := 9) hy86 rfl (fun _ => rfl))); (exact .inr rfl); rfl); rfl; rfl
  apply Run.op; (apply L_mov; rfl; rfl); rfl; rfl
  obtain ⟨r88, hr88, H⟩ := bindS H
  apply Run.op; (apply L_callM (l := 100000) (off := v45.toNat * 10 + 9) (m := 1) (p := .rw 1 y86.fDY.fDen.length (y86.fDY.fDen.flatMap (encI .i64))) (p' := .rw 1 r88.2.length (r88.2.flatMap (encI .i64))); rfl; rfl; rfl; (exact set_cut (row_ld (o := 9) hy86 rfl (fun _ => rfl))); rfl; rfl; (exact MCut.one); (exact mk_laws_markIntS y86.fDY.fDen r83.1 _ hr88); (exact set_cat (row_ld (o := 9) hy86 rfl (fun _ => rfl))); (exact hle); rfl); rfl; rfl
  apply Run.op; (apply L_asg; rfl; rfl); rfl; rfl
  apply Run.done; refine ⟨fun h => Bool.noConfusion h, ?_⟩
  apply x5
  apply x3
  obtain ⟨v89, hv89, H⟩ := bindS H
  have hl90 := setI_lenS hv89
  refine CodeT.weak (Ent.soften (l := 100000) rfl (row_softM (sz := 10) hv89 hy86 (fun _ => rfl) (by decide) rfl)) ?_
  refine CodeT.weak (Ent.relen (k := 0) (n' := v89.length) rfl (by first | (simp only [setI_len]; done) | (simp only [setI_len]; omega) | omega)) ?_
  apply CodeT.region (fun _ => PPm)
  apply Run.op; (apply L_mov; rfl; rfl); rfl; rfl
  apply Run.op; (apply L_add; rfl; rfl; rfl; rfl); rfl; rfl
  apply Run.op; (apply L_asg; rfl; rfl); rfl; rfl
  apply Run.done; refine ⟨fun h => Bool.noConfusion h, ?_⟩
  obtain rfl := Option.some.inj H
  refine Ev.y1 ?_
  refine Ent.list [] (io0 hio _) rfl ?_ ?_ <;> (repeat' first | exact trivial | (refine And.intro ⟨_, rfl, fun h => (by first | rfl | exact Bool.noConfusion h)⟩ ?_))
  replace H := ifF (of_decide_eq_false h) H
  (repeat apply CodeT.seq)
  apply CodeT.exit
  apply x2
  obtain rfl := Option.some.inj H
  refine Ev.y3 ?_
  refine XEnv.mk ?_
  refine Ent.list [] (io0 hio _) rfl ?_ ?_ <;> (repeat' first | exact trivial | (refine And.intro ⟨_, rfl, fun h => (by first | rfl | exact Bool.noConfusion h)⟩ ?_))
  skip
  intro e E' hX; obtain ⟨rfl, g93⟩ := XEnv.out hX
  refine x6 rfl ?_
  apply x3
  refine CodeT.weak g93 ?_
  (repeat apply CodeT.seq)
  apply CodeT.region (fun _ => PPm)
  apply Run.op; (apply L_mov; rfl; rfl); rfl; rfl
  apply Run.op; (apply L_asg; rfl; rfl); rfl; rfl
  apply Run.done; refine ⟨fun h => Bool.noConfusion h, ?_⟩
  apply x3
  apply CodeT.ret
  cases H
  apply zn2
  exact RetN.mk (RetIs.sc1 rfl) rfl
theorem mk_laws_markParentS (a0 : (List Parent)) (a1 : Int) (r : (Int × (List Parent))) (H : laws_markParentS a0 a1 = some r) : MarkC Try.prog 105 (.rw 10 a0.length (a0.flatMap encWParent)) (.rw 10 r.2.length (r.2.flatMap encWParent)) (.int .i64 a1) (.int .i64 r.1) := by
  have h := m_laws_markParentS a0 a1 r H
  have hl := len_laws_markParentS a0 a1 r H
  rw [hl]; exact MarkC.ofN h
theorem m_laws_markTreeNodeS (a0 : (List TreeNode)) (a1 : Int) (r : (Int × (List TreeNode))) (H : laws_markTreeNodeS a0 a1 = some r) : MeetsN Try.prog 95 [.ref 100000 12 0 a0.length, .sc (.int .i64 a1)] (a0.flatMap encWTreeNode) (r.2.flatMap encWTreeNode) (.sc (.int .i64 r.1)) := by
  have H0 := H; clear H
  obtain ⟨r', H, H2⟩ := bindS H0; clear H0
  obtain ⟨_, hlen, H2⟩ := bindS H2
  obtain rfl := Option.some.inj H2
  have hlen := chkS hlen
  refine MeetsN.intro (N := 116) (rs := #[.tmp 4]) Try.func95 rfl rfl rfl rfl (nil_new (l := 0) (sz := 12) hlen (fun _ => rfl) (by decide)) rfl ?_
  clear hlen
  intro Γ hio hle
  unfold laws_markTreeNodeS_raw at H
  (repeat apply CodeT.seq)
  apply CodeT.region (fun _ => PPm)
  apply Run.op; (apply L_asg; rfl; rfl); rfl; rfl
  apply Run.done; refine ⟨fun h => Bool.noConfusion h, ?_⟩
  apply x3
  (repeat apply CodeT.seq)
  apply CodeT.region (fun _ => PPm)
  apply Run.op; (apply L_asg; rfl; rfl); rfl; rfl
  apply Run.done; refine ⟨fun h => Bool.noConfusion h, ?_⟩
  apply x3
  (repeat apply CodeT.seq)
  apply CodeT.block
  (repeat apply CodeT.seq)
  obtain ⟨d111, hd111, H⟩ := bindS H
  refine CodeT.lloop (fun s => ⟨[(0, ⟨.ref 100000 12 0 s.2.2.length, false⟩), (1, ⟨.sc (.int .i64 s.1), false⟩), (5, ⟨.sc (.int .i64 s.2.1), false⟩)], [(100000, some ⟨s.2.2.flatMap encWTreeNode, true, false⟩)]⟩) (fun d e E => XEnv Γ (.exit 0) ⟨[(1, ⟨.sc (.int .i64 d.1), false⟩)], [(100000, some ⟨d.2.flatMap encWTreeNode, true, false⟩)]⟩ e E) hd111 ?_ ?_ ?_
  refine Ent.list [] (io0 hio _) rfl ?_ ?_ <;> (repeat' first | exact trivial | (refine And.intro ⟨_, rfl, fun h => (by first | rfl | exact Bool.noConfusion h)⟩ ?_))
  clear H hd111
  rintro ⟨v54, v55, v56⟩ o H
  unfold laws_markTreeNodeS_L1 at H
  (repeat apply CodeT.seq)
  apply CodeT.region (fun _ => PPm)
  apply Run.op; (apply L_mov; rfl; rfl); rfl; rfl
  apply Run.op; (apply L_mov; rfl; rfl); rfl; rfl
  apply Run.op; (apply L_lenR; rfl; rfl; rfl); rfl; rfl
  apply Run.op; (apply L_lss; rfl; rfl; rfl); rfl; rfl
  apply Run.done; refine ⟨fun h => Bool.noConfusion h, ?_⟩
  apply x3
  (repeat apply CodeT.seq)
  refine CodeT.cond rfl (fun h => ?_) (fun h => ?_)
  replace H := ifT (of_decide_eq_true h) H
  (repeat apply CodeT.seq)
  apply CodeT.skip
  apply x3
  (repeat apply CodeT.seq)
  apply CodeT.block
  (repeat apply CodeT.seq)
  apply CodeT.region (fun _ => PPm)
  apply Run.op; (apply L_mov; rfl; rfl); rfl; rfl
  apply Run.op; (apply L_mov; rfl; rfl); rfl; rfl
  apply Run.op; (apply L_mov; rfl; rfl); rfl; rfl
  obtain ⟨y57, hy57, H⟩ := bindS H
  apply Run.op; (apply L_ixR2; rfl; rfl; rfl; (exact hy57); rfl; rfl); rfl; rfl
  apply Run.op; (apply L_fldP; rfl; rfl; (exact row_pos (sz := 12) hy57 (fun _ => rfl) (by decide)); rfl); rfl; rfl
  obtain ⟨v58, hv58, H⟩ := bindS H
  have hl59 := setI_lenS hv58
  apply Run.op; (apply L_st; rfl; rfl; rfl; rfl; rfl; (intro h; cases h); (exact row_ble (sz := 12) (o := 0) (n := 1) hy57 (fun _ => rfl) (by decide)); (exact row_fldL (sz := 12) (o := 0) (n := 1) hv58 hy57 (fun _ => rfl) (by decide) rfl)); rfl; rfl
  apply Run.done; refine ⟨fun h => Bool.noConfusion h, ?_⟩
  apply x3
  (repeat apply CodeT.seq)
  refine CodeT.weak (Ent.relen (k := 0) (n' := v58.length) rfl (by first | (simp only [setI_len]; done) | (simp only [setI_len]; omega) | omega)) ?_
  apply CodeT.region (fun _ => PPm)
  apply Run.op; (apply L_mov; rfl; rfl); rfl; rfl
  apply Run.op; (apply L_add; rfl; rfl; rfl; rfl); rfl; rfl
  apply Run.op; (apply L_asg; rfl; rfl); rfl; rfl
  apply Run.done; refine ⟨fun h => Bool.noConfusion h, ?_⟩
  apply x3
  (repeat apply CodeT.seq)
  apply CodeT.region (fun _ => PPm)
  apply Run.op; (apply L_mov; rfl; rfl); rfl; rfl
  apply Run.op; (apply L_mov; rfl; rfl); rfl; rfl
  apply Run.op; (apply L_mov; rfl; rfl); rfl; rfl
  obtain ⟨y60, hy60, H⟩ := bindS H
  apply Run.op; (apply L_ixR2; rfl; rfl; rfl; (exact hy60); rfl; rfl); rfl; rfl
  apply Run.op; (apply L_fldP; rfl; rfl; (exact row_pos (sz := 12) hy60 (fun _ => rfl) (by decide)); rfl); rfl; rfl
  obtain ⟨v61, hv61, H⟩ := bindS H
  have hl62 := setI_lenS hv61
  apply Run.op; (apply L_st; rfl; rfl; rfl; rfl; rfl; (intro h; cases h); (exact row_ble (sz := 12) (o := 1) (n := 1) hy60 (fun _ => rfl) (by decide)); (exact row_fldL (sz := 12) (o := 1) (n := 1) hv61 hy60 (fun _ => rfl) (by decide) rfl)); rfl; rfl
  apply Run.done; refine ⟨fun h => Bool.noConfusion h, ?_⟩
  apply x3
  (repeat apply CodeT.seq)
  refine CodeT.weak (Ent.relen (k := 0) (n' := v61.length) rfl (by first | (simp only [setI_len]; done) | (simp only [setI_len]; omega) | omega)) ?_
  apply CodeT.region (fun _ => PPm)
  apply Run.op; (apply L_mov; rfl; rfl); rfl; rfl
  obtain ⟨v63, hv63, H⟩ := bindS H
  apply Run.op; (apply L_add; rfl; rfl; (exact letS hv63); rfl); rfl; rfl
  apply Run.op; (apply L_asg; rfl; rfl); rfl; rfl
  apply Run.done; refine ⟨fun h => Bool.noConfusion h, ?_⟩
  apply x3
  (repeat apply CodeT.seq)
  obtain ⟨y64, hy64, H⟩ := bindS H
  refine CodeT.expose (l := 100000) (c := v55.toNat * 12 + 2) rfl (row_ld (o := 2) hy64 rfl (fun _ => rfl)) (fun wy64 => ?_)
  apply CodeT.region (fun _ => PPm)
  apply Run.op; (apply L_mov; rfl; rfl); rfl; rfl
  apply Run.op; (apply L_mov; rfl; rfl); rfl; rfl
  apply Run.op; (apply L_ixR2; rfl; rfl; rfl; (exact hy64); rfl; rfl); rfl; rfl
  apply Run.op; (apply L_fldP; rfl; rfl; (exact row_posS (sz := 12) hy64 (fun _ => rfl) (by decide)); rfl); rfl; rfl
  apply Run.op; (apply Local.forget Forg.was; apply L_ldP; rfl; rfl; (exact set_self (row_ld (o := 2) hy64 rfl (fun _ => rfl))); (exact .inr rfl); rfl); rfl; rfl
  apply Run.op; (apply L_mov; rfl; rfl); rfl; rfl
  obtain ⟨r66, hr66, H⟩ := bindS H
  apply Run.op; (apply L_callM (l := 100000) (off := v55.toNat * 12 + 2) (m := 1) (p := .rw 11 y64.fOwn.length (y64.fOwn.flatMap encWLink)) (p' := .rw 11 r66.2.length (r66.2.flatMap encWLink)); rfl; rfl; rfl; (exact set_cut (row_ld (o := 2) hy64 rfl (fun _ => rfl))); rfl; rfl; (exact MCut.one); (exact mk_laws_markLinkS y64.fOwn v63 _ hr66); (exact set_cat (row_ld (o := 2) hy64 rfl (fun _ => rfl))); (exact hle); rfl); rfl; rfl
  apply Run.op; (apply L_asg; rfl; rfl); rfl; rfl
  apply Run.done; refine ⟨fun h => Bool.noConfusion h, ?_⟩
  apply x3
  obtain ⟨v67, hv67, H⟩ := bindS H
  have hl68 := setI_lenS hv67
  refine CodeT.weak (Ent.soften (l := 100000) rfl (row_softM (sz := 12) hv67 hy64 (fun _ => rfl) (by decide) rfl)) ?_
  (repeat apply CodeT.seq)
  refine CodeT.weak (Ent.relen (k := 0) (n' := v67.length) rfl (by first | (simp only [setI_len]; done) | (simp only [setI_len]; omega) | omega)) ?_
  apply CodeT.region (fun _ => PPm)
  apply Run.op; (apply L_mov; rfl; rfl); rfl; rfl
  apply Run.op; (apply L_mov; rfl; rfl); rfl; rfl
  apply Run.op; (apply L_mov; rfl; rfl); rfl; rfl
  obtain ⟨y69, hy69, H⟩ := bindS H
  apply Run.op; (apply L_ixR2; rfl; rfl; rfl; (exact hy69); rfl; rfl); rfl; rfl
  apply Run.op; (apply L_fldP; rfl; rfl; (exact row_pos (sz := 12) hy69 (fun _ => rfl) (by decide)); rfl); rfl; rfl
  apply Run.op; (apply L_fldP; rfl; rfl; (exact row_pos (sz := 12) hy69 (fun _ => rfl) (by decide)); rfl); rfl; rfl
  obtain ⟨v70, hv70, H⟩ := bindS H
  have hl71 := setI_lenS hv70
  apply Run.op; (apply L_st; rfl; rfl; rfl; rfl; rfl; (intro h; cases h); (exact row_ble (sz := 12) (o := 3) (n := 1) hy69 (fun _ => rfl) (by decide)); (exact row_fldL (sz := 12) (o := 3) (n := 1) hv70 hy69 (fun _ => rfl) (by decide) rfl)); rfl; rfl
  apply Run.done; refine ⟨fun h => Bool.noConfusion h, ?_⟩
  apply x3
  (repeat apply CodeT.seq)
  refine CodeT.weak (Ent.relen (k := 0) (n' := v70.length) rfl (by first | (simp only [setI_len]; done) | (simp only [setI_len]; omega) | omega)) ?_
  apply CodeT.region (fun _ => PPm)
  apply Run.op; (apply L_mov; rfl; rfl); rfl; rfl
  apply Run.op; (apply L_add; rfl; rfl; rfl; rfl); rfl; rfl
  apply Run.op; (apply L_asg; rfl; rfl); rfl; rfl
  apply Run.done; refine ⟨fun h => Bool.noConfusion h, ?_⟩
  apply x3
  (repeat apply CodeT.seq)
  apply CodeT.region (fun _ => PPm)
  apply Run.op; (apply L_mov; rfl; rfl); rfl; rfl
  apply Run.op; (apply L_mov; rfl; rfl); rfl; rfl
  apply Run.op; (apply L_mov; rfl; rfl); rfl; rfl
  obtain ⟨v72, hv72, H⟩ := bindS H
  apply Run.op; (apply L_rem; rfl; rfl; (intro h; cases h); (exact letS hv72); rfl); rfl; rfl
  apply Run.op; (apply L_eql; rfl; rfl; rfl); rfl; rfl
  obtain ⟨y73, hy73, H⟩ := bindS H
  apply Run.op; (apply L_ixR2; rfl; rfl; rfl; (exact hy73); rfl; rfl); rfl; rfl
  apply Run.op; (apply L_fldP; rfl; rfl; (exact row_pos (sz := 12) hy73 (fun _ => rfl) (by decide)); rfl); rfl; rfl
  apply Run.op; (apply L_fldP; rfl; rfl; (exact row_pos (sz := 12) hy73 (fun _ => rfl) (by decide)); rfl); rfl; rfl
  apply Run.op; (apply L_fldP; rfl; rfl; (exact row_pos (sz := 12) hy73 (fun _ => rfl) (by decide)); rfl); rfl; rfl
  apply Run.op; (apply L_fldP; rfl; rfl; (exact row_pos (sz := 12) hy73 (fun _ => rfl) (by decide)); rfl); rfl; rfl
  obtain ⟨v74, hv74, H⟩ := bindS H
  have hl75 := setI_lenS hv74
  apply Run.op; (apply L_st; rfl; rfl; rfl; rfl; rfl; (intro h; cases h); (exact row_ble (sz := 12) (o := 4) (n := 1) hy73 (fun _ => rfl) (by decide)); (exact row_fldL (sz := 12) (o := 4) (n := 1) hv74 hy73 (fun _ => rfl) (by decide) rfl)); rfl; rfl
  apply Run.done; refine ⟨fun h => Bool.noConfusion h, ?_⟩
  apply x3
  (repeat apply CodeT.seq)
  refine CodeT.weak (Ent.relen (k := 0) (n' := v74.length) rfl (by first | (simp only [setI_len]; done) | (simp only [setI_len]; omega) | omega)) ?_
  apply CodeT.region (fun _ => PPm)
  apply Run.op; (apply L_mov; rfl; rfl); rfl; rfl
  obtain ⟨v76, hv76, H⟩ := bindS H
  apply Run.op; (apply L_add; rfl; rfl; (exact letS hv76); rfl); rfl; rfl
  apply Run.op; (apply L_asg; rfl; rfl); rfl; rfl
  apply Run.done; refine ⟨fun h => Bool.noConfusion h, ?_⟩
  apply x3
  (repeat apply CodeT.seq)
  obtain ⟨y77, hy77, H⟩ := bindS H
  refine CodeT.expose (l := 100000) (c := v55.toNat * 12 + 5) rfl (row_ld (o := 5) hy77 rfl (fun _ => rfl)) (fun wy77 => ?_)
  apply CodeT.region (fun _ => PPm)
  apply Run.op; (apply L_mov; rfl; rfl); rfl; rfl
  apply Run.op; (apply L_mov; rfl; rfl); rfl; rfl
  apply Run.op; (apply L_ixR2; rfl; rfl; rfl; (exact hy77); rfl; rfl); rfl; rfl
  apply Run.op; (apply L_fldP; rfl; rfl; (exact row_posS (sz := 12) hy77 (fun _ => rfl) (by decide)); rfl); rfl; rfl
  apply Run.op; (apply L_fldP; rfl; rfl; (exact row_posS (sz := 12) hy77 (fun _ => rfl) (by decide)); rfl); rfl; rfl
  apply Run.op; (apply L_fldP; rfl; rfl; (exact row_posS (sz := 12) hy77 (fun _ => rfl) (by decide)); rfl); rfl; rfl
  apply Run.op; (apply L_fldP; rfl; rfl; (exact row_posS (sz := 12) hy77 (fun _ => rfl) (by decide)); rfl); rfl; rfl
  apply Run.op; (apply Local.forget Forg.was; apply L_ldP; rfl; rfl; (exact set_self (row_ld (o := 5) hy77 rfl (fun _ => rfl))); (exact .inr rfl); rfl); rfl; rfl
  apply Run.op; (apply L_mov; rfl; rfl); rfl; rfl
  obtain ⟨r79, hr79, H⟩ := bindS H
  apply Run.op; (apply L_callM (l := 100000) (off := v55.toNat * 12 + 5) (m := 1) (p := .rw 1 y77.fCond.fTotal.fNum.fMag.length (y77.fCond.fTotal.fNum.fMag.flatMap (encI .i64))) (p' := .rw 1 r79.2.length (r79.2.flatMap (encI .i64))); rfl; rfl; rfl; (exact set_cut (row_ld (o := 5) hy77 rfl (fun _ => rfl))); rfl; rfl; (exact MCut.one); (exact mk_laws_markIntS y77.fCond.fTotal.fNum.fMag v76 _ hr79); (exact set_cat (row_ld (o := 5) hy77 rfl (fun _ => rfl))); (exact hle); rfl); rfl; rfl
  apply Run.op; (apply L_asg; rfl; rfl); rfl; rfl
  apply Run.done; refine ⟨fun h => Bool.noConfusion h, ?_⟩
  apply x3
  obtain ⟨v80, hv80, H⟩ := bindS H
  have hl81 := setI_lenS hv80
  refine CodeT.weak (Ent.soften (l := 100000) rfl (row_softM (sz := 12) hv80 hy77 (fun _ => rfl) (by decide) rfl)) ?_
  (repeat apply CodeT.seq)
  refine CodeT.weak (Ent.relen (k := 0) (n' := v80.length) rfl (by first | (simp only [setI_len]; done) | (simp only [setI_len]; omega) | omega)) ?_
  obtain ⟨y82, hy82, H⟩ := bindS H
  refine CodeT.expose (l := 100000) (c := v55.toNat * 12 + 6) rfl (row_ld (o := 6) hy82 rfl (fun _ => rfl)) (fun wy82 => ?_)
  apply CodeT.region (fun _ => PPm)
  apply Run.op; (apply L_mov; rfl; rfl); rfl; rfl
  apply Run.op; (apply L_mov; rfl; rfl); rfl; rfl
  apply Run.op; (apply L_ixR2; rfl; rfl; rfl; (exact hy82); rfl; rfl); rfl; rfl
  apply Run.op; (apply L_fldP; rfl; rfl; (exact row_posS (sz := 12) hy82 (fun _ => rfl) (by decide)); rfl); rfl; rfl
  apply Run.op; (apply L_fldP; rfl; rfl; (exact row_posS (sz := 12) hy82 (fun _ => rfl) (by decide)); rfl); rfl; rfl
  apply Run.op; (apply L_fldP; rfl; rfl; (exact row_posS (sz := 12) hy82 (fun _ => rfl) (by decide)); rfl); rfl; rfl
  apply Run.op; (apply Local.forget Forg.was; apply L_ldP; rfl; rfl; (exact set_self (row_ld (o := 6) hy82 rfl (fun _ => rfl))); (exact .inr rfl); rfl); rfl; rfl
  apply Run.op; (apply L_mov; rfl; rfl); rfl; rfl
  obtain ⟨r84, hr84, H⟩ := bindS H
  apply Run.op; (apply L_callM (l := 100000) (off := v55.toNat * 12 + 6) (m := 1) (p := .rw 1 y82.fCond.fTotal.fDen.length (y82.fCond.fTotal.fDen.flatMap (encI .i64))) (p' := .rw 1 r84.2.length (r84.2.flatMap (encI .i64))); rfl; rfl; rfl; (exact set_cut (row_ld (o := 6) hy82 rfl (fun _ => rfl))); rfl; rfl; (exact MCut.one); (exact mk_laws_markIntS y82.fCond.fTotal.fDen r79.1 _ hr84); (exact set_cat (row_ld (o := 6) hy82 rfl (fun _ => rfl))); (exact hle); rfl); rfl; rfl
  apply Run.op; (apply L_asg; rfl; rfl); rfl; rfl
  apply Run.done; refine ⟨fun h => Bool.noConfusion h, ?_⟩
  apply x3
  obtain ⟨v85, hv85, H⟩ := bindS H
  have hl86 := setI_lenS hv85
  refine CodeT.weak (Ent.soften (l := 100000) rfl (row_softM (sz := 12) hv85 hy82 (fun _ => rfl) (by decide) rfl)) ?_
  (repeat apply CodeT.seq)
  refine CodeT.weak (Ent.relen (k := 0) (n' := v85.length) rfl (by first | (simp only [setI_len]; done) | (simp only [setI_len]; omega) | omega)) ?_
  obtain ⟨y87, hy87, H⟩ := bindS H
  refine CodeT.expose (l := 100000) (c := v55.toNat * 12 + 7) rfl (row_ld (o := 7) hy87 rfl (fun _ => rfl)) (fun wy87 => ?_)
  apply CodeT.region (fun _ => PPm)
  apply Run.op; (apply L_mov; rfl; rfl); rfl; rfl
  apply Run.op; (apply L_mov; rfl; rfl); rfl; rfl
  apply Run.op; (apply L_ixR2; rfl; rfl; rfl; (exact hy87); rfl; rfl); rfl; rfl
  apply Run.op; (apply L_fldP; rfl; rfl; (exact row_posS (sz := 12) hy87 (fun _ => rfl) (by decide)); rfl); rfl; rfl
  apply Run.op; (apply L_fldP; rfl; rfl; (exact row_posS (sz := 12) hy87 (fun _ => rfl) (by decide)); rfl); rfl; rfl
  apply Run.op; (apply Local.forget Forg.was; apply L_ldP; rfl; rfl; (exact set_self (row_ld (o := 7) hy87 rfl (fun _ => rfl))); (exact .inr rfl); rfl); rfl; rfl
  apply Run.op; (apply L_mov; rfl; rfl); rfl; rfl
  obtain ⟨r89, hr89, H⟩ := bindS H
  apply Run.op; (apply L_callM (l := 100000) (off := v55.toNat * 12 + 7) (m := 1) (p := .rw 10 y87.fCond.fParents.length (y87.fCond.fParents.flatMap encWParent)) (p' := .rw 10 r89.2.length (r89.2.flatMap encWParent)); rfl; rfl; rfl; (exact set_cut (row_ld (o := 7) hy87 rfl (fun _ => rfl))); rfl; rfl; (exact MCut.one); (exact mk_laws_markParentS y87.fCond.fParents r84.1 _ hr89); (exact set_cat (row_ld (o := 7) hy87 rfl (fun _ => rfl))); (exact hle); rfl); rfl; rfl
  apply Run.op; (apply L_asg; rfl; rfl); rfl; rfl
  apply Run.done; refine ⟨fun h => Bool.noConfusion h, ?_⟩
  apply x3
  obtain ⟨v90, hv90, H⟩ := bindS H
  have hl91 := setI_lenS hv90
  refine CodeT.weak (Ent.soften (l := 100000) rfl (row_softM (sz := 12) hv90 hy87 (fun _ => rfl) (by decide) rfl)) ?_
  (repeat apply CodeT.seq)
  refine CodeT.weak (Ent.relen (k := 0) (n' := v90.length) rfl (by first | (simp only [setI_len]; done) | (simp only [setI_len]; omega) | omega)) ?_
  obtain ⟨y92, hy92, H⟩ := bindS H
  refine CodeT.expose (l := 100000) (c := v55.toNat * 12 + 8) rfl (row_ld (o := 8) hy92 rfl (fun _ => rfl)) (fun wy92 => ?_)
  apply CodeT.region (fun _ => PPm)
  apply Run.op; (apply L_mov; rfl; rfl); rfl; rfl
  apply Run.op; (apply L_mov; rfl; rfl); rfl; rfl
  apply Run.op; (apply L_ixR2; rfl; rfl; rfl; (exact hy92); rfl; rfl); rfl; rfl
  apply Run.op; (apply L_fldP; rfl; rfl; (exact row_posS (sz := 12) hy92 (fun _ => rfl) (by decide)); rfl); rfl; rfl
  apply Run.op; (apply Local.forget Forg.was; apply L_ldP; rfl; rfl; (exact set_self (row_ld (o := 8) hy92 rfl (fun _ => rfl))); (exact .inr rfl); rfl); rfl; rfl
  apply Run.op; (apply L_mov; rfl; rfl); rfl; rfl
  obtain ⟨r94, hr94, H⟩ := bindS H
  apply Run.op; (apply L_callM (l := 100000) (off := v55.toNat * 12 + 8) (m := 1) (p := .rw 11 y92.fMessages.length (y92.fMessages.flatMap encWLink)) (p' := .rw 11 r94.2.length (r94.2.flatMap encWLink)); rfl; rfl; rfl; (exact set_cut (row_ld (o := 8) hy92 rfl (fun _ => rfl))); rfl; rfl; (exact MCut.one); (exact mk_laws_markLinkS y92.fMessages r89.1 _ hr94); (exact set_cat (row_ld (o := 8) hy92 rfl (fun _ => rfl))); (exact hle); rfl); rfl; rfl
  apply Run.op; (apply L_asg; rfl; rfl); rfl; rfl
  apply Run.done; refine ⟨fun h => Bool.noConfusion h, ?_⟩
  apply x3
  obtain ⟨v95, hv95, H⟩ := bindS H
  have hl96 := setI_lenS hv95
  refine CodeT.weak (Ent.soften (l := 100000) rfl (row_softM (sz := 12) hv95 hy92 (fun _ => rfl) (by decide) rfl)) ?_
  (repeat apply CodeT.seq)
  refine CodeT.weak (Ent.relen (k := 0) (n' := v95.length) rfl (by first | (simp only [setI_len]; done) | (simp only [setI_len]; omega) | omega)) ?_
  apply CodeT.region (fun _ => PPm)
  apply Run.op; (apply L_mov; rfl; rfl); rfl; rfl
  apply Run.op; (apply L_mov; rfl; rfl); rfl; rfl
  apply Run.op; (apply L_mov; rfl; rfl); rfl; rfl
  apply Run.op; (apply L_rem; rfl; rfl; (intro h; cases h); rfl; rfl); rfl; rfl
  apply Run.op; (apply L_eql; rfl; rfl; rfl); rfl; rfl
  obtain ⟨y97, hy97, H⟩ := bindS H
  apply Run.op; (apply L_ixR2; rfl; rfl; rfl; (exact hy97); rfl; rfl); rfl; rfl
  apply Run.op; (apply L_fldP; rfl; rfl; (exact row_pos (sz := 12) hy97 (fun _ => rfl) (by decide)); rfl); rfl; rfl
  apply Run.op; (apply L_fldP; rfl; rfl; (exact row_pos (sz := 12) hy97 (fun _ => rfl) (by decide)); rfl); rfl; rfl
  apply Run.op; (apply L_fldP; rfl; rfl; (exact row_pos (sz := 12) hy97 (fun _ => rfl) (by decide)); rfl); rfl; rfl
  obtain ⟨v98, hv98, H⟩ := bindS H
  have hl99 := setI_lenS hv98
  apply Run.op; (apply L_st; rfl; rfl; rfl; rfl; rfl; (intro h; cases h); (exact row_ble (sz := 12) (o := 9) (n := 1) hy97 (fun _ => rfl) (by decide)); (exact row_fldL (sz := 12) (o := 9) (n := 1) hv98 hy97 (fun _ => rfl) (by decide) rfl)); rfl; rfl
  apply Run.done; refine ⟨fun h => Bool.noConfusion h, ?_⟩
  apply x3
  (repeat apply CodeT.seq)
  refine CodeT.weak (Ent.relen (k := 0) (n' := v98.length) rfl (by first | (simp only [setI_len]; done) | (simp only [setI_len]; omega) | omega)) ?_
  apply CodeT.region (fun _ => PPm)
  apply Run.op; (apply L_mov; rfl; rfl); rfl; rfl
  apply Run.op; (apply L_add; rfl; rfl; rfl; rfl); rfl; rfl
  apply Run.op; (apply L_asg; rfl; rfl); rfl; rfl
  apply Run.done; refine ⟨fun h => Bool.noConfusion h, ?_⟩
  apply x3
  (repeat apply CodeT.seq)
  obtain ⟨y100, hy100, H⟩ := bindS H
  refine CodeT.expose (l := 100000) (c := v55.toNat * 12 + 10) rfl (row_ld (o := 10) hy100 rfl (fun _ => rfl)) (fun wy100 => ?_)
  apply CodeT.region (fun _ => PPm)
  apply Run.op; (apply L_mov; rfl; rfl); rfl; rfl
  apply Run.op; (apply L_mov; rfl; rfl); rfl; rfl
  apply Run.op; (apply L_ixR2; rfl; rfl; rfl; (exact hy100); rfl; rfl); rfl; rfl
  apply Run.op; (apply L_fldP; rfl; rfl; (exact row_posS (sz := 12) hy100 (fun _ => rfl) (by decide)); rfl); rfl; rfl
  apply Run.op; (apply L_fldP; rfl; rfl; (exact row_posS (sz := 12) hy100 (fun _ => rfl) (by decide)); rfl); rfl; rfl
  apply Run.op; (apply L_fldP; rfl; rfl; (exact row_posS (sz := 12) hy100 (fun _ => rfl) (by decide)); rfl); rfl; rfl
  apply Run.op; (apply Local.forget Forg.was; apply L_ldP; rfl; rfl; (exact set_self (row_ld (o := 10) hy100 rfl (fun _ => rfl))); (exact .inr rfl); rfl); rfl; rfl
  apply Run.op; (apply L_mov; rfl; rfl); rfl; rfl
  obtain ⟨r102, hr102, H⟩ := bindS H
  apply Run.op; (apply L_callM (l := 100000) (off := v55.toNat * 12 + 10) (m := 1) (p := .rw 1 y100.fEnergy.fNum.fMag.length (y100.fEnergy.fNum.fMag.flatMap (encI .i64))) (p' := .rw 1 r102.2.length (r102.2.flatMap (encI .i64))); rfl; rfl; rfl; (exact set_cut (row_ld (o := 10) hy100 rfl (fun _ => rfl))); rfl; rfl; (exact MCut.one); (exact mk_laws_markIntS y100.fEnergy.fNum.fMag (IntKind.i64.wrap (r94.1 + 1)) _ hr102); (exact set_cat (row_ld (o := 10) hy100 rfl (fun _ => rfl))); (exact hle); rfl); rfl; rfl
  apply Run.op; (apply L_asg; rfl; rfl); rfl; rfl
  apply Run.done; refine ⟨fun h => Bool.noConfusion h, ?_⟩
  apply x3
  obtain ⟨v103, hv103, H⟩ := bindS H
  have hl104 := setI_lenS hv103
  refine CodeT.weak (Ent.soften (l := 100000) rfl (row_softM (sz := 12) hv103 hy100 (fun _ => rfl) (by decide) rfl)) ?_
  refine CodeT.weak (Ent.relen (k := 0) (n' := v103.length) rfl (by first | (simp only [setI_len]; done) | (simp only [setI_len]; omega) | omega)) ?_
  obtain ⟨y105, hy105, H⟩ := bindS H
  refine CodeT.expose (l := 100000) (c := v55.toNat * 12 + 11) rfl (row_ld (o := 11) hy105 rfl (fun _ => rfl)) (fun wy105 => ?_)
  apply CodeT.region (fun _ => PPm)
  apply Run.op; (apply L_mov; rfl; rfl); rfl; rfl
  apply Run.op; (apply L_mov; rfl; rfl); rfl; rfl
  apply Run.op; (apply L_ixR2; rfl; rfl; rfl; (exact hy105); rfl; rfl); rfl; rfl
  apply Run.op; (apply L_fldP; rfl; rfl; (exact row_posS (sz := 12) hy105 (fun _ => rfl) (by decide)); rfl); rfl; rfl
  apply Run.op; (apply L_fldP; rfl; rfl; (exact row_posS (sz := 12) hy105 (fun _ => rfl) (by decide)); rfl); rfl; rfl
  apply Run.op; (apply Local.forget Forg.was; apply L_ldP; rfl; rfl; (exact set_self (row_ld (o := 11) hy105 rfl (fun _ => rfl))); (exact .inr rfl); rfl); rfl; rfl
  apply Run.op; (apply L_mov; rfl; rfl); rfl; rfl
  obtain ⟨r107, hr107, H⟩ := bindS H
  apply Run.op; (apply L_callM (l := 100000) (off := v55.toNat * 12 + 11) (m := 1) (p := .rw 1 y105.fEnergy.fDen.length (y105.fEnergy.fDen.flatMap (encI .i64))) (p' := .rw 1 r107.2.length (r107.2.flatMap (encI .i64))); rfl; rfl; rfl; (exact set_cut (row_ld (o := 11) hy105 rfl (fun _ => rfl))); rfl; rfl; (exact MCut.one); (exact mk_laws_markIntS y105.fEnergy.fDen r102.1 _ hr107); (exact set_cat (row_ld (o := 11) hy105 rfl (fun _ => rfl))); (exact hle); rfl); rfl; rfl
  apply Run.op; (apply L_asg; rfl; rfl); rfl; rfl
  apply Run.done; refine ⟨fun h => Bool.noConfusion h, ?_⟩
  apply x5
  apply x3
  obtain ⟨v108, hv108, H⟩ := bindS H
  have hl109 := setI_lenS hv108
  refine CodeT.weak (Ent.soften (l := 100000) rfl (row_softM (sz := 12) hv108 hy105 (fun _ => rfl) (by decide) rfl)) ?_
  refine CodeT.weak (Ent.relen (k := 0) (n' := v108.length) rfl (by first | (simp only [setI_len]; done) | (simp only [setI_len]; omega) | omega)) ?_
  apply CodeT.region (fun _ => PPm)
  apply Run.op; (apply L_mov; rfl; rfl); rfl; rfl
  apply Run.op; (apply L_add; rfl; rfl; rfl; rfl); rfl; rfl
  apply Run.op; (apply L_asg; rfl; rfl); rfl; rfl
  apply Run.done; refine ⟨fun h => Bool.noConfusion h, ?_⟩
  obtain rfl := Option.some.inj H
  refine Ev.y1 ?_
  refine Ent.list [] (io0 hio _) rfl ?_ ?_ <;> (repeat' first | exact trivial | (refine And.intro ⟨_, rfl, fun h => (by first | rfl | exact Bool.noConfusion h)⟩ ?_))
  replace H := ifF (of_decide_eq_false h) H
  (repeat apply CodeT.seq)
  apply CodeT.exit
  apply x2
  obtain rfl := Option.some.inj H
  refine Ev.y3 ?_
  refine XEnv.mk ?_
  refine Ent.list [] (io0 hio _) rfl ?_ ?_ <;> (repeat' first | exact trivial | (refine And.intro ⟨_, rfl, fun h => (by first | rfl | exact Bool.noConfusion h)⟩ ?_))
  skip
  intro e E' hX; obtain ⟨rfl, g112⟩ := XEnv.out hX
  refine x6 rfl ?_
  apply x3
  refine CodeT.weak g112 ?_
  (repeat apply CodeT.seq)
  apply CodeT.region (fun _ => PPm)
  apply Run.op; (apply L_mov; rfl; rfl); rfl; rfl
  apply Run.op; (apply L_asg; rfl; rfl); rfl; rfl
  apply Run.done; refine ⟨fun h => Bool.noConfusion h, ?_⟩
  apply x3
  apply CodeT.ret
  cases H
  apply zn2
  exact RetN.mk (RetIs.sc1 rfl) rfl
theorem mk_laws_markTreeNodeS (a0 : (List TreeNode)) (a1 : Int) (r : (Int × (List TreeNode))) (H : laws_markTreeNodeS a0 a1 = some r) : MarkC Try.prog 95 (.rw 12 a0.length (a0.flatMap encWTreeNode)) (.rw 12 r.2.length (r.2.flatMap encWTreeNode)) (.int .i64 a1) (.int .i64 r.1) := by
  have h := m_laws_markTreeNodeS a0 a1 r H
  have hl := len_laws_markTreeNodeS a0 a1 r H
  rw [hl]; exact MarkC.ofN h
theorem mk_laws_markTree (a0 : Tree) (a1 : Int) (r : (Int × Tree)) (H : laws_markTree a0 a1 = some r) : MarkC Try.prog 45 (.agg (encWTree a0)) (.agg (encWTree r.2)) (.int .i64 a1) (.int .i64 r.1) := by
  refine MarkC.introS (N := 10) (rs := #[.tmp 4]) Try.func45 rfl rfl rfl rfl rfl rfl ?_
  intro Γ vs hvs hio hle
  have hvs : vs.length = 1 := hvs
  obtain ⟨u0, vs1, rfl, hv1⟩ := lenS hvs
  obtain rfl := len0 hv1
  unfold laws_markTree at H
  (repeat apply CodeT.seq)
  apply CodeT.region (fun _ => PPm)
  apply Run.op; (apply L_boxT; rfl; rfl; rfl; (exact io1 hio _); rfl); rfl; rfl
  apply Run.op; (apply L_asg; rfl; rfl); rfl; rfl
  apply Run.done; refine ⟨fun h => Bool.noConfusion h, ?_⟩
  apply x3
  (repeat apply CodeT.seq)
  apply CodeT.region (fun _ => PPm)
  apply Run.op; (apply L_fldP; rfl; rfl; rfl; rfl); rfl; rfl
  apply Run.op; (apply Local.forget Forg.was; apply L_ldP; rfl; rfl; rfl; (exact .inr rfl); rfl); rfl; rfl
  apply Run.op; (apply L_mov; rfl; rfl); rfl; rfl
  obtain ⟨r1, hr1, H⟩ := bindS H
  apply Run.op; (apply L_callM (l := 2) (off := 0) (m := 1) (p := .rw 12 a0.fNodes.length (a0.fNodes.flatMap encWTreeNode)) (p' := .rw 12 r1.2.length (r1.2.flatMap encWTreeNode)) (cells' := [.was u0 (.rw 12 r1.2.length (r1.2.flatMap encWTreeNode))]); rfl; rfl; rfl; rfl; rfl; rfl; (exact MCut.one); (exact mk_laws_markTreeNodeS a0.fNodes a1 _ hr1); rfl; (exact hle); rfl); rfl; rfl
  apply Run.op; (apply L_asg; rfl; rfl); rfl; rfl
  apply Run.done; refine ⟨fun h => Bool.noConfusion h, ?_⟩
  apply x3
  (repeat apply CodeT.seq)
  apply CodeT.region (fun _ => PPm)
  apply Run.op; (apply L_mov; rfl; rfl); rfl; rfl
  apply Run.op; (apply L_asg; rfl; rfl); rfl; rfl
  apply Run.done; refine ⟨fun h => Bool.noConfusion h, ?_⟩
  apply x3
  apply CodeT.ret
  cases H
  apply zm2
  exact RetM.mk 2 (RetIs.sc1 rfl) rfl
theorem m_laws_markConditionalS (a0 : (List Conditional)) (a1 : Int) (r : (Int × (List Conditional))) (H : laws_markConditionalS a0 a1 = some r) : MeetsN Try.prog 57 [.ref 100000 5 0 a0.length, .sc (.int .i64 a1)] (a0.flatMap encWConditional) (r.2.flatMap encWConditional) (.sc (.int .i64 r.1)) := by
  have H0 := H; clear H
  obtain ⟨r', H, H2⟩ := bindS H0; clear H0
  obtain ⟨_, hlen, H2⟩ := bindS H2
  obtain rfl := Option.some.inj H2
  have hlen := chkS hlen
  refine MeetsN.intro (N := 55) (rs := #[.tmp 4]) Try.func57 rfl rfl rfl rfl (nil_new (l := 0) (sz := 5) hlen (fun _ => rfl) (by decide)) rfl ?_
  clear hlen
  intro Γ hio hle
  unfold laws_markConditionalS_raw at H
  (repeat apply CodeT.seq)
  apply CodeT.region (fun _ => PPm)
  apply Run.op; (apply L_asg; rfl; rfl); rfl; rfl
  apply Run.done; refine ⟨fun h => Bool.noConfusion h, ?_⟩
  apply x3
  (repeat apply CodeT.seq)
  apply CodeT.region (fun _ => PPm)
  apply Run.op; (apply L_asg; rfl; rfl); rfl; rfl
  apply Run.done; refine ⟨fun h => Bool.noConfusion h, ?_⟩
  apply x3
  (repeat apply CodeT.seq)
  apply CodeT.block
  (repeat apply CodeT.seq)
  obtain ⟨d50, hd50, H⟩ := bindS H
  refine CodeT.lloop (fun s => ⟨[(0, ⟨.ref 100000 5 0 s.2.2.length, false⟩), (1, ⟨.sc (.int .i64 s.1), false⟩), (5, ⟨.sc (.int .i64 s.2.1), false⟩)], [(100000, some ⟨s.2.2.flatMap encWConditional, true, false⟩)]⟩) (fun d e E => XEnv Γ (.exit 0) ⟨[(1, ⟨.sc (.int .i64 d.1), false⟩)], [(100000, some ⟨d.2.flatMap encWConditional, true, false⟩)]⟩ e E) hd50 ?_ ?_ ?_
  refine Ent.list [] (io0 hio _) rfl ?_ ?_ <;> (repeat' first | exact trivial | (refine And.intro ⟨_, rfl, fun h => (by first | rfl | exact Bool.noConfusion h)⟩ ?_))
  clear H hd50
  rintro ⟨v23, v24, v25⟩ o H
  unfold laws_markConditionalS_L1 at H
  (repeat apply CodeT.seq)
  apply CodeT.region (fun _ => PPm)
  apply Run.op; (apply L_mov; rfl; rfl); rfl; rfl
  apply Run.op; (apply L_mov; rfl; rfl); rfl; rfl
  apply Run.op; (apply L_lenR; rfl; rfl; rfl); rfl; rfl
  apply Run.op; (apply L_lss; rfl; rfl; rfl); rfl; rfl
  apply Run.done; refine ⟨fun h => Bool.noConfusion h, ?_⟩
  apply x3
  (repeat apply CodeT.seq)
  refine CodeT.cond rfl (fun h => ?_) (fun h => ?_)
  replace H := ifT (of_decide_eq_true h) H
  (repeat apply CodeT.seq)
  apply CodeT.skip
  apply x3
  (repeat apply CodeT.seq)
  apply CodeT.block
  (repeat apply CodeT.seq)
  apply CodeT.region (fun _ => PPm)
  apply Run.op; (apply L_mov; rfl; rfl); rfl; rfl
  apply Run.op; (apply L_mov; rfl; rfl); rfl; rfl
  apply Run.op; (apply L_mov; rfl; rfl); rfl; rfl
  obtain ⟨y26, hy26, H⟩ := bindS H
  apply Run.op; (apply L_ixR2; rfl; rfl; rfl; (exact hy26); rfl; rfl); rfl; rfl
  apply Run.op; (apply L_fldP; rfl; rfl; (exact row_pos (sz := 5) hy26 (fun _ => rfl) (by decide)); rfl); rfl; rfl
  obtain ⟨v27, hv27, H⟩ := bindS H
  have hl28 := setI_lenS hv27
  apply Run.op; (apply L_st; rfl; rfl; rfl; rfl; rfl; (intro h; cases h); (exact row_ble (sz := 5) (o := 0) (n := 1) hy26 (fun _ => rfl) (by decide)); (exact row_fldL (sz := 5) (o := 0) (n := 1) hv27 hy26 (fun _ => rfl) (by decide) rfl)); rfl; rfl
  apply Run.done; refine ⟨fun h => Bool.noConfusion h, ?_⟩
  apply x3
  (repeat apply CodeT.seq)
  refine CodeT.weak (Ent.relen (k := 0) (n' := v27.length) rfl (by first | (simp only [setI_len]; done) | (simp only [setI_len]; omega) | omega)) ?_
  apply CodeT.region (fun _ => PPm)
  apply Run.op; (apply L_mov; rfl; rfl); rfl; rfl
  apply Run.op; (apply L_add; rfl; rfl; rfl; rfl); rfl; rfl
  apply Run.op; (apply L_asg; rfl; rfl); rfl; rfl
  apply Run.done; refine ⟨fun h => Bool.noConfusion h, ?_⟩
  apply x3
  (repeat apply CodeT.seq)
  apply CodeT.region (fun _ => PPm)
  apply Run.op; (apply L_mov; rfl; rfl); rfl; rfl
  apply Run.op; (apply L_mov; rfl; rfl); rfl; rfl
  apply Run.op; (apply L_mov; rfl; rfl); rfl; rfl
  obtain ⟨v29, hv29, H⟩ := bindS H
  apply Run.op; (apply L_rem; rfl; rfl; (intro h; cases h); (exact letS hv29); rfl); rfl; rfl
  apply Run.op; (apply L_eql; rfl; rfl; rfl); rfl; rfl
  obtain ⟨y30, hy30, H⟩ := bindS H
  apply Run.op; (apply L_ixR2; rfl; rfl; rfl; (exact hy30); rfl; rfl); rfl; rfl
  apply Run.op; (apply L_fldP; rfl; rfl; (exact row_pos (sz := 5) hy30 (fun _ => rfl) (by decide)); rfl); rfl; rfl
  apply Run.op; (apply L_fldP; rfl; rfl; (exact row_pos (sz := 5) hy30 (fun _ => rfl) (by decide)); rfl); rfl; rfl
  apply Run.op; (apply L_fldP; rfl; rfl; (exact row_pos (sz := 5) hy30 (fun _ => rfl) (by decide)); rfl); rfl; rfl
  obtain ⟨v31, hv31, H⟩ := bindS H
  have hl32 := setI_lenS hv31
  apply Run.op; (apply L_st; rfl; rfl; rfl; rfl; rfl; (intro h; cases h); (exact row_ble (sz := 5) (o := 1) (n := 1) hy30 (fun _ => rfl) (by decide)); (exact row_fldL (sz := 5) (o := 1) (n := 1) hv31 hy30 (fun _ => rfl) (by decide) rfl)); rfl; rfl
  apply Run.done; refine ⟨fun h => Bool.noConfusion h, ?_⟩
  apply x3
  (repeat apply CodeT.seq)
  refine CodeT.weak (Ent.relen (k := 0) (n' := v31.length) rfl (by first | (simp only [setI_len]; done) | (simp only [setI_len]; omega) | omega)) ?_
  apply CodeT.region (fun _ => PPm)
  apply Run.op; (apply L_mov; rfl; rfl); rfl; rfl
  obtain ⟨v33, hv33, H⟩ := bindS H
  apply Run.op; (apply L_add; rfl; rfl; (exact letS hv33); rfl); rfl; rfl
  apply Run.op; (apply L_asg; rfl; rfl); rfl; rfl
  apply Run.done; refine ⟨fun h => Bool.noConfusion h, ?_⟩
  apply x3
  (repeat apply CodeT.seq)
  obtain ⟨y34, hy34, H⟩ := bindS H
  refine CodeT.expose (l := 100000) (c := v24.toNat * 5 + 2) rfl (row_ld (o := 2) hy34 rfl (fun _ => rfl)) (fun wy34 => ?_)
  apply CodeT.region (fun _ => PPm)
  apply Run.op; (apply L_mov; rfl; rfl); rfl; rfl
  apply Run.op; (apply L_mov; rfl; rfl); rfl; rfl
  apply Run.op; (apply L_ixR2; rfl; rfl; rfl; (exact hy34); rfl; rfl); rfl; rfl
  apply Run.op; (apply L_fldP; rfl; rfl; (exact row_posS (sz := 5) hy34 (fun _ => rfl) (by decide)); rfl); rfl; rfl
  apply Run.op; (apply L_fldP; rfl; rfl; (exact row_posS (sz := 5) hy34 (fun _ => rfl) (by decide)); rfl); rfl; rfl
  apply Run.op; (apply L_fldP; rfl; rfl; (exact row_posS (sz := 5) hy34 (fun _ => rfl) (by decide)); rfl); rfl; rfl
  apply Run.op; (apply Local.forget Forg.was; apply L_ldP; rfl; rfl; (exact set_self (row_ld (o := 2) hy34 rfl (fun _ => rfl))); (exact .inr rfl); rfl); rfl; rfl
  apply Run.op; (apply L_mov; rfl; rfl); rfl; rfl
  obtain ⟨r36, hr36, H⟩ := bindS H
  apply Run.op; (apply L_callM (l := 100000) (off := v24.toNat * 5 + 2) (m := 1) (p := .rw 1 y34.fTotal.fNum.fMag.length (y34.fTotal.fNum.fMag.flatMap (encI .i64))) (p' := .rw 1 r36.2.length (r36.2.flatMap (encI .i64))); rfl; rfl; rfl; (exact set_cut (row_ld (o := 2) hy34 rfl (fun _ => rfl))); rfl; rfl; (exact MCut.one); (exact mk_laws_markIntS y34.fTotal.fNum.fMag v33 _ hr36); (exact set_cat (row_ld (o := 2) hy34 rfl (fun _ => rfl))); (exact hle); rfl); rfl; rfl
  apply Run.op; (apply L_asg; rfl; rfl); rfl; rfl
  apply Run.done; refine ⟨fun h => Bool.noConfusion h, ?_⟩
  apply x3
  obtain ⟨v37, hv37, H⟩ := bindS H
  have hl38 := setI_lenS hv37
  refine CodeT.weak (Ent.soften (l := 100000) rfl (row_softM (sz := 5) hv37 hy34 (fun _ => rfl) (by decide) rfl)) ?_
  (repeat apply CodeT.seq)
  refine CodeT.weak (Ent.relen (k := 0) (n' := v37.length) rfl (by first | (simp only [setI_len]; done) | (simp only [setI_len]; omega) | omega)) ?_
  obtain ⟨y39, hy39, H⟩ := bindS H
  refine CodeT.expose (l := 100000) (c := v24.toNat * 5 + 3) rfl (row_ld (o := 3) hy39 rfl (fun _ => rfl)) (fun wy39 => ?_)
  apply CodeT.region (fun _ => PPm)
  apply Run.op; (apply L_mov; rfl; rfl); rfl; rfl
  apply Run.op; (apply L_mov; rfl; rfl); rfl; rfl
  apply Run.op; (apply L_ixR2; rfl; rfl; rfl; (exact hy39); rfl; rfl); rfl; rfl
  apply Run.op; (apply L_fldP; rfl; rfl; (exact row_posS (sz := 5) hy39 (fun _ => rfl) (by decide)); rfl); rfl; rfl
  apply Run.op; (apply L_fldP; rfl; rfl; (exact row_posS (sz := 5) hy39 (fun _ => rfl) (by decide)); rfl); rfl; rfl
  apply Run.op; (apply Local.forget Forg.was; apply L_ldP; rfl; rfl; (exact set_self (row_ld (o := 3) hy39 rfl (fun _ => rfl))); (exact .inr rfl); rfl); rfl; rfl
  apply Run.op; (apply L_mov; rfl; rfl); rfl; rfl
  obtain ⟨r41, hr41, H⟩ := bindS H
  apply Run.op; (apply L_callM (l := 100000) (off := v24.toNat * 5 + 3) (m := 1) (p := .rw 1 y39.fTotal.fDen.length (y39.fTotal.fDen.flatMap (encI .i64))) (p' := .rw 1 r41.2.length (r41.2.flatMap (encI .i64))); rfl; rfl; rfl; (exact set_cut (row_ld (o := 3) hy39 rfl (fun _ => rfl))); rfl; rfl; (exact MCut.one); (exact mk_laws_markIntS y39.fTotal.fDen r36.1 _ hr41); (exact set_cat (row_ld (o := 3) hy39 rfl (fun _ => rfl))); (exact hle); rfl); rfl; rfl
  apply Run.op; (apply L_asg; rfl; rfl); rfl; rfl
  apply Run.done; refine ⟨fun h => Bool.noConfusion h, ?_⟩
  apply x3
  obtain ⟨v42, hv42, H⟩ := bindS H
  have hl43 := setI_lenS hv42
  refine CodeT.weak (Ent.soften (l := 100000) rfl (row_softM (sz := 5) hv42 hy39 (fun _ => rfl) (by decide) rfl)) ?_
  refine CodeT.weak (Ent.relen (k := 0) (n' := v42.length) rfl (by first | (simp only [setI_len]; done) | (simp only [setI_len]; omega) | omega)) ?_
  obtain ⟨y44, hy44, H⟩ := bindS H
  refine CodeT.expose (l := 100000) (c := v24.toNat * 5 + 4) rfl (row_ld (o := 4) hy44 rfl (fun _ => rfl)) (fun wy44 => ?_)
  apply CodeT.region (fun _ => PPm)
  apply Run.op; (apply L_mov; rfl; rfl); rfl; rfl
  apply Run.op; (apply L_mov; rfl; rfl); rfl; rfl
  apply Run.op; (apply L_ixR2; rfl; rfl; rfl; (exact hy44); rfl; rfl); rfl; rfl
  apply Run.op; (apply L_fldP; rfl; rfl; (exact row_posS (sz := 5) hy44 (fun _ => rfl) (by decide)); rfl); rfl; rfl
  apply Run.op; (apply Local.forget Forg.was; apply L_ldP; rfl; rfl; (exact set_self (row_ld (o := 4) hy44 rfl (fun _ => rfl))); (exact .inr rfl); rfl); rfl; rfl
  apply Run.op; (apply L_mov; rfl; rfl); rfl; rfl
  obtain ⟨r46, hr46, H⟩ := bindS H
  apply Run.op; (apply L_callM (l := 100000) (off := v24.toNat * 5 + 4) (m := 1) (p := .rw 10 y44.fParents.length (y44.fParents.flatMap encWParent)) (p' := .rw 10 r46.2.length (r46.2.flatMap encWParent)); rfl; rfl; rfl; (exact set_cut (row_ld (o := 4) hy44 rfl (fun _ => rfl))); rfl; rfl; (exact MCut.one); (exact mk_laws_markParentS y44.fParents r41.1 _ hr46); (exact set_cat (row_ld (o := 4) hy44 rfl (fun _ => rfl))); (exact hle); rfl); rfl; rfl
  apply Run.op; (apply L_asg; rfl; rfl); rfl; rfl
  apply Run.done; refine ⟨fun h => Bool.noConfusion h, ?_⟩
  apply x5
  apply x3
  obtain ⟨v47, hv47, H⟩ := bindS H
  have hl48 := setI_lenS hv47
  refine CodeT.weak (Ent.soften (l := 100000) rfl (row_softM (sz := 5) hv47 hy44 (fun _ => rfl) (by decide) rfl)) ?_
  refine CodeT.weak (Ent.relen (k := 0) (n' := v47.length) rfl (by first | (simp only [setI_len]; done) | (simp only [setI_len]; omega) | omega)) ?_
  apply CodeT.region (fun _ => PPm)
  apply Run.op; (apply L_mov; rfl; rfl); rfl; rfl
  apply Run.op; (apply L_add; rfl; rfl; rfl; rfl); rfl; rfl
  apply Run.op; (apply L_asg; rfl; rfl); rfl; rfl
  apply Run.done; refine ⟨fun h => Bool.noConfusion h, ?_⟩
  obtain rfl := Option.some.inj H
  refine Ev.y1 ?_
  refine Ent.list [] (io0 hio _) rfl ?_ ?_ <;> (repeat' first | exact trivial | (refine And.intro ⟨_, rfl, fun h => (by first | rfl | exact Bool.noConfusion h)⟩ ?_))
  replace H := ifF (of_decide_eq_false h) H
  (repeat apply CodeT.seq)
  apply CodeT.exit
  apply x2
  obtain rfl := Option.some.inj H
  refine Ev.y3 ?_
  refine XEnv.mk ?_
  refine Ent.list [] (io0 hio _) rfl ?_ ?_ <;> (repeat' first | exact trivial | (refine And.intro ⟨_, rfl, fun h => (by first | rfl | exact Bool.noConfusion h)⟩ ?_))
  skip
  intro e E' hX; obtain ⟨rfl, g51⟩ := XEnv.out hX
  refine x6 rfl ?_
  apply x3
  refine CodeT.weak g51 ?_
  (repeat apply CodeT.seq)
  apply CodeT.region (fun _ => PPm)
  apply Run.op; (apply L_mov; rfl; rfl); rfl; rfl
  apply Run.op; (apply L_asg; rfl; rfl); rfl; rfl
  apply Run.done; refine ⟨fun h => Bool.noConfusion h, ?_⟩
  apply x3
  apply CodeT.ret
  cases H
  apply zn2
  exact RetN.mk (RetIs.sc1 rfl) rfl
theorem mk_laws_markConditionalS (a0 : (List Conditional)) (a1 : Int) (r : (Int × (List Conditional))) (H : laws_markConditionalS a0 a1 = some r) : MarkC Try.prog 57 (.rw 5 a0.length (a0.flatMap encWConditional)) (.rw 5 r.2.length (r.2.flatMap encWConditional)) (.int .i64 a1) (.int .i64 r.1) := by
  have h := m_laws_markConditionalS a0 a1 r H
  have hl := len_laws_markConditionalS a0 a1 r H
  rw [hl]; exact MarkC.ofN h
theorem m_laws_heldIntS (a0 : (List Int)) (a1 : Int) (r : Int) (H : laws_heldIntS a0 a1 = some r) : Meets Try.prog 22 [.sl a0.length (a0.flatMap (encI .i64)), .sc (.int .i64 a1)] (.sc (.int .i64 r)) true := by
  refine Meets.intro2 (N := 21) (rs := #[.tmp 4]) Try.func22 rfl rfl rfl rfl ?_
  intro Γ hio
  unfold laws_heldIntS at H
  (repeat apply CodeT.seq)
  apply CodeT.region (fun _ => PPm)
  apply Run.op; (apply L_asg; rfl; rfl); rfl; rfl
  apply Run.done; refine ⟨fun h => Bool.noConfusion h, ?_⟩
  apply x3
  (repeat apply CodeT.seq)
  apply CodeT.region (fun _ => PPm)
  apply Run.op; (apply L_asg; rfl; rfl); rfl; rfl
  apply Run.done; refine ⟨fun h => Bool.noConfusion h, ?_⟩
  apply x3
  (repeat apply CodeT.seq)
  apply CodeT.block
  (repeat apply CodeT.seq)
  obtain ⟨d5, hd5, H⟩ := bindS H
  refine CodeT.lloop (fun s => ⟨[(0, ⟨.sl a0.length (a0.flatMap (encI .i64)), false⟩), (1, ⟨.sc (.int .i64 s.1), false⟩), (5, ⟨.sc (.int .i64 s.2), false⟩)], []⟩) (fun x e E => match x with | (.inl d) => XEnv Γ (.exit 0) ⟨[(1, ⟨.sc (.int .i64 d), false⟩)], []⟩ e E | (.inr d) => XRet Γ #[.tmp 4] (.sc (.int .i64 d)) true e E) hd5 ?_ ?_ ?_
  refine Ent.list [] (io0 hio _) rfl ?_ ?_ <;> (repeat' first | exact trivial | (refine And.intro ⟨_, rfl, fun h => (by first | rfl | exact Bool.noConfusion h)⟩ ?_))
  clear H hd5
  rintro ⟨v2, v3⟩ o H
  unfold laws_heldIntS_L1 at H
  (repeat apply CodeT.seq)
  apply CodeT.region (fun _ => PPm)
  apply Run.op; (apply L_mov; rfl; rfl); rfl; rfl
  apply Run.op; (apply L_mov; rfl; rfl); rfl; rfl
  apply Run.op; (apply L_len; rfl; rfl); rfl; rfl
  apply Run.op; (apply L_lss; rfl; rfl; rfl); rfl; rfl
  apply Run.done; refine ⟨fun h => Bool.noConfusion h, ?_⟩
  apply x3
  (repeat apply CodeT.seq)
  refine CodeT.cond rfl (fun h => ?_) (fun h => ?_)
  replace H := ifT (of_decide_eq_true h) H
  (repeat apply CodeT.seq)
  apply CodeT.skip
  apply x3
  (repeat apply CodeT.seq)
  apply CodeT.block
  (repeat apply CodeT.seq)
  apply CodeT.region (fun _ => PPm)
  apply Run.op; (apply L_mov; rfl; rfl); rfl; rfl
  apply Run.op; (apply L_mov; rfl; rfl); rfl; rfl
  obtain ⟨y4, hy4, H⟩ := bindS H
  apply Run.op; (apply L_ixS2; rfl; rfl; rfl; (exact hy4); (intro _; rfl); rfl); rfl; rfl
  apply Run.op; (apply L_ldI; rfl; rfl; rfl; rfl); rfl; rfl
  apply Run.op; (apply L_mov; rfl; rfl); rfl; rfl
  apply Run.op; (apply L_neq; rfl; rfl; rfl); rfl; rfl
  apply Run.done; refine ⟨fun h => Bool.noConfusion h, ?_⟩
  apply x3
  (repeat apply CodeT.seq)
  refine CodeT.cond rfl (fun h => ?_) (fun h => ?_)
  replace H := ifT (of_decide_eq_true h) H
  (repeat apply CodeT.seq)
  apply CodeT.region (fun _ => PPm)
  apply Run.op; (apply L_asg; rfl; rfl); rfl; rfl
  apply Run.done; refine ⟨fun h => Bool.noConfusion h, ?_⟩
  apply x3
  apply CodeT.ret
  apply x1
  apply x4
  apply x1
  obtain rfl := Option.some.inj H
  refine Ev.y2 ?_
  refine XRet.mk ?_
  exact RetIs.sc1 rfl
  replace H := ifF (of_decide_eq_false h) H
  (repeat apply CodeT.seq)
  apply CodeT.skip
  apply x3
  apply CodeT.region (fun _ => PPm)
  apply Run.op; (apply L_mov; rfl; rfl); rfl; rfl
  apply Run.op; (apply L_add; rfl; rfl; rfl; rfl); rfl; rfl
  apply Run.op; (apply L_asg; rfl; rfl); rfl; rfl
  apply Run.done; refine ⟨fun h => Bool.noConfusion h, ?_⟩
  apply x5
  apply x3
  apply CodeT.region (fun _ => PPm)
  apply Run.op; (apply L_mov; rfl; rfl); rfl; rfl
  apply Run.op; (apply L_add; rfl; rfl; rfl; rfl); rfl; rfl
  apply Run.op; (apply L_asg; rfl; rfl); rfl; rfl
  apply Run.done; refine ⟨fun h => Bool.noConfusion h, ?_⟩
  obtain rfl := Option.some.inj H
  refine Ev.y1 ?_
  refine Ent.list [] (io0 hio _) rfl ?_ ?_ <;> (repeat' first | exact trivial | (refine And.intro ⟨_, rfl, fun h => (by first | rfl | exact Bool.noConfusion h)⟩ ?_))
  replace H := ifF (of_decide_eq_false h) H
  (repeat apply CodeT.seq)
  apply CodeT.exit
  apply x2
  obtain rfl := Option.some.inj H
  refine Ev.y3 ?_
  refine XEnv.mk ?_
  refine Ent.list [] (io0 hio _) rfl ?_ ?_ <;> (repeat' first | exact trivial | (refine And.intro ⟨_, rfl, fun h => (by first | rfl | exact Bool.noConfusion h)⟩ ?_))
  rcases d5 with (d6 | d8)
  intro e E' hX; obtain ⟨rfl, g7⟩ := XEnv.out hX
  refine x6 rfl ?_
  apply x3
  refine CodeT.weak g7 ?_
  (repeat apply CodeT.seq)
  apply CodeT.region (fun _ => PPm)
  apply Run.op; (apply L_mov; rfl; rfl); rfl; rfl
  apply Run.op; (apply L_asg; rfl; rfl); rfl; rfl
  apply Run.done; refine ⟨fun h => Bool.noConfusion h, ?_⟩
  apply x3
  apply CodeT.ret
  cases H
  apply x12
  exact RetIs.sc1 rfl
  intro e E' hX; obtain ⟨rfl, g9⟩ := XRet.out hX
  apply x4
  apply x1
  cases H
  apply x12
  exact g9
theorem m_laws_heldParentS (a0 : (List Parent)) (a1 : Int) (r : Int) (H : laws_heldParentS a0 a1 = some r) : Meets Try.prog 106 [.sl a0.length (a0.flatMap encParent), .sc (.int .i64 a1)] (.sc (.int .i64 r)) true := by
  refine Meets.intro2 (N := 124) (rs := #[.tmp 4]) Try.func106 rfl rfl rfl rfl ?_
  intro Γ hio
  unfold laws_heldParentS at H
  (repeat apply CodeT.seq)
  apply CodeT.region (fun _ => PPm)
  apply Run.op; (apply L_asg; rfl; rfl); rfl; rfl
  apply Run.done; refine ⟨fun h => Bool.noConfusion h, ?_⟩
  apply x3
  (repeat apply CodeT.seq)
  apply CodeT.region (fun _ => PPm)
  apply Run.op; (apply L_asg; rfl; rfl); rfl; rfl
  apply Run.done; refine ⟨fun h => Bool.noConfusion h, ?_⟩
  apply x3
  (repeat apply CodeT.seq)
  apply CodeT.block
  (repeat apply CodeT.seq)
  obtain ⟨d38, hd38, H⟩ := bindS H
  refine CodeT.lloop (fun s => ⟨[(0, ⟨.sl a0.length (a0.flatMap encParent), false⟩), (1, ⟨.sc (.int .i64 s.1), false⟩), (5, ⟨.sc (.int .i64 s.2), false⟩)], []⟩) (fun x e E => match x with | (.inl d) => XEnv Γ (.exit 0) ⟨[(1, ⟨.sc (.int .i64 d), false⟩)], []⟩ e E | (.inr d) => XRet Γ #[.tmp 4] (.sc (.int .i64 d)) true e E) hd38 ?_ ?_ ?_
  refine Ent.list [] (io0 hio _) rfl ?_ ?_ <;> (repeat' first | exact trivial | (refine And.intro ⟨_, rfl, fun h => (by first | rfl | exact Bool.noConfusion h)⟩ ?_))
  clear H hd38
  rintro ⟨v18, v19⟩ o H
  unfold laws_heldParentS_L1 at H
  (repeat apply CodeT.seq)
  apply CodeT.region (fun _ => PPm)
  apply Run.op; (apply L_mov; rfl; rfl); rfl; rfl
  apply Run.op; (apply L_mov; rfl; rfl); rfl; rfl
  apply Run.op; (apply L_len; rfl; rfl); rfl; rfl
  apply Run.op; (apply L_lss; rfl; rfl; rfl); rfl; rfl
  apply Run.done; refine ⟨fun h => Bool.noConfusion h, ?_⟩
  apply x3
  (repeat apply CodeT.seq)
  refine CodeT.cond rfl (fun h => ?_) (fun h => ?_)
  replace H := ifT (of_decide_eq_true h) H
  (repeat apply CodeT.seq)
  apply CodeT.skip
  apply x3
  (repeat apply CodeT.seq)
  apply CodeT.block
  (repeat apply CodeT.seq)
  apply CodeT.region (fun _ => PPm)
  apply Run.op; (apply L_mov; rfl; rfl); rfl; rfl
  apply Run.op; (apply L_mov; rfl; rfl); rfl; rfl
  obtain ⟨y20, hy20, H⟩ := bindS H
  apply Run.op; (apply L_ixS2; rfl; rfl; rfl; (exact hy20); (intro _; rfl); rfl); rfl; rfl
  apply Run.op; (apply L_fldI; rfl; rfl); rfl; rfl
  apply Run.op; (apply L_ldI; rfl; rfl; rfl; rfl); rfl; rfl
  apply Run.op; (apply L_mov; rfl; rfl); rfl; rfl
  apply Run.op; (apply L_neq; rfl; rfl; rfl); rfl; rfl
  apply Run.done; refine ⟨fun h => Bool.noConfusion h, ?_⟩
  apply x3
  (repeat apply CodeT.seq)
  refine CodeT.cond rfl (fun h => ?_) (fun h => ?_)
  replace H := ifT (of_decide_eq_true h) H
  (repeat apply CodeT.seq)
  apply CodeT.region (fun _ => PPm)
  apply Run.op; (apply L_asg; rfl; rfl); rfl; rfl
  apply Run.done; refine ⟨fun h => Bool.noConfusion h, ?_⟩
  apply x3
  apply CodeT.ret
  apply x1
  apply x4
  apply x1
  obtain rfl := Option.some.inj H
  refine Ev.y2 ?_
  refine XRet.mk ?_
  exact RetIs.sc1 rfl
  replace H := ifF (of_decide_eq_false h) H
  (repeat apply CodeT.seq)
  apply CodeT.skip
  apply x3
  (repeat apply CodeT.seq)
  apply CodeT.region (fun _ => PPm)
  apply Run.op; (apply L_mov; rfl; rfl); rfl; rfl
  apply Run.op; (apply L_add; rfl; rfl; rfl; rfl); rfl; rfl
  apply Run.op; (apply L_asg; rfl; rfl); rfl; rfl
  apply Run.done; refine ⟨fun h => Bool.noConfusion h, ?_⟩
  apply x3
  (repeat apply CodeT.seq)
  apply CodeT.region (fun _ => PPm)
  apply Run.op; (apply L_mov; rfl; rfl); rfl; rfl
  apply Run.op; (apply L_mov; rfl; rfl); rfl; rfl
  obtain ⟨y21, hy21, H⟩ := bindS H
  apply Run.op; (apply L_ixS2; rfl; rfl; rfl; (exact hy21); (intro _; rfl); rfl); rfl; rfl
  apply Run.op; (apply L_fldI; rfl; rfl); rfl; rfl
  apply Run.op; (apply L_fldI; rfl; rfl); rfl; rfl
  apply Run.op; (apply L_fldI; rfl; rfl); rfl; rfl
  apply Run.op; (apply L_ldI; rfl; rfl; rfl; rfl); rfl; rfl
  apply Run.op; (apply L_mov; rfl; rfl); rfl; rfl
  obtain ⟨v22, hv22, H⟩ := bindS H
  apply Run.op; (apply L_rem; rfl; rfl; (intro h; cases h); (exact letS hv22); rfl); rfl; rfl
  apply Run.op; (apply L_eql; rfl; rfl; rfl); rfl; rfl
  apply Run.op; (apply L_bneq; rfl; rfl; rfl); rfl; rfl
  apply Run.done; refine ⟨fun h => Bool.noConfusion h, ?_⟩
  apply x3
  (repeat apply CodeT.seq)
  refine CodeT.cond rfl (fun h => ?_) (fun h => ?_)
  replace H := ifFb (notT h) H
  (repeat apply CodeT.seq)
  apply CodeT.region (fun _ => PPm)
  apply Run.op; (apply L_asg; rfl; rfl); rfl; rfl
  apply Run.done; refine ⟨fun h => Bool.noConfusion h, ?_⟩
  apply x3
  apply CodeT.ret
  apply x1
  apply x4
  apply x1
  obtain rfl := Option.some.inj H
  refine Ev.y2 ?_
  refine XRet.mk ?_
  exact RetIs.sc1 rfl
  replace H := ifTb (notF h) H
  (repeat apply CodeT.seq)
  apply CodeT.skip
  apply x3
  (repeat apply CodeT.seq)
  apply CodeT.region (fun _ => PPm)
  apply Run.op; (apply L_mov; rfl; rfl); rfl; rfl
  obtain ⟨v23, hv23, H⟩ := bindS H
  apply Run.op; (apply L_add; rfl; rfl; (exact letS hv23); rfl); rfl; rfl
  apply Run.op; (apply L_asg; rfl; rfl); rfl; rfl
  apply Run.done; refine ⟨fun h => Bool.noConfusion h, ?_⟩
  apply x3
  (repeat apply CodeT.seq)
  apply CodeT.region (fun _ => PPm)
  apply Run.op; (apply L_mov; rfl; rfl); rfl; rfl
  apply Run.op; (apply L_mov; rfl; rfl); rfl; rfl
  obtain ⟨y24, hy24, H⟩ := bindS H
  apply Run.op; (apply L_ixS2; rfl; rfl; rfl; (exact hy24); (intro _; rfl); rfl); rfl; rfl
  apply Run.op; (apply L_fldI; rfl; rfl); rfl; rfl
  apply Run.op; (apply L_fldI; rfl; rfl); rfl; rfl
  apply Run.op; (apply L_fldI; rfl; rfl); rfl; rfl
  apply Run.op; (apply L_ldI; rfl; rfl; rfl; rfl); rfl; rfl
  apply Run.op; (apply L_mov; rfl; rfl); rfl; rfl
  obtain ⟨r25, hr25, H⟩ := bindS H
  apply Run.op; (apply L_call; ((apply ArgsV.cons; (apply ArgV.val; rfl; rfl)); (apply ArgsV.cons; (apply ArgV.val; rfl; rfl)); (apply ArgsV.nil)); (exact m_laws_heldIntS y24.fShare.fNum.fMag v23 _ hr25); rfl; rfl; rfl); rfl; rfl
  apply Run.op; (apply L_asg; rfl; rfl); rfl; rfl
  apply Run.done; refine ⟨fun h => Bool.noConfusion h, ?_⟩
  apply x3
  (repeat apply CodeT.seq)
  apply CodeT.region (fun _ => PPm)
  apply Run.op; (apply L_mov; rfl; rfl); rfl; rfl
  apply Run.op; (apply L_lss; rfl; rfl; rfl); rfl; rfl
  apply Run.done; refine ⟨fun h => Bool.noConfusion h, ?_⟩
  apply x3
  (repeat apply CodeT.seq)
  refine CodeT.cond rfl (fun h => ?_) (fun h => ?_)
  replace H := ifT (of_decide_eq_true h) H
  (repeat apply CodeT.seq)
  apply CodeT.region (fun _ => PPm)
  apply Run.op; (apply L_asg; rfl; rfl); rfl; rfl
  apply Run.done; refine ⟨fun h => Bool.noConfusion h, ?_⟩
  apply x3
  apply CodeT.ret
  apply x1
  apply x4
  apply x1
  obtain rfl := Option.some.inj H
  refine Ev.y2 ?_
  refine XRet.mk ?_
  exact RetIs.sc1 rfl
  replace H := ifF (of_decide_eq_false h) H
  (repeat apply CodeT.seq)
  apply CodeT.skip
  apply x3
  (repeat apply CodeT.seq)
  apply CodeT.region (fun _ => PPm)
  apply Run.op; (apply L_mov; rfl; rfl); rfl; rfl
  apply Run.op; (apply L_mov; rfl; rfl); rfl; rfl
  obtain ⟨y26, hy26, H⟩ := bindS H
  apply Run.op; (apply L_ixS2; rfl; rfl; rfl; (exact hy26); (intro _; rfl); rfl); rfl; rfl
  apply Run.op; (apply L_fldI; rfl; rfl); rfl; rfl
  apply Run.op; (apply L_fldI; rfl; rfl); rfl; rfl
  apply Run.op; (apply L_ldI; rfl; rfl; rfl; rfl); rfl; rfl
  apply Run.op; (apply L_mov; rfl; rfl); rfl; rfl
  obtain ⟨r27, hr27, H⟩ := bindS H
  apply Run.op; (apply L_call; ((apply ArgsV.cons; (apply ArgV.val; rfl; rfl)); (apply ArgsV.cons; (apply ArgV.val; rfl; rfl)); (apply ArgsV.nil)); (exact m_laws_heldIntS y26.fShare.fDen r25 _ hr27); rfl; rfl; rfl); rfl; rfl
  apply Run.op; (apply L_asg; rfl; rfl); rfl; rfl
  apply Run.done; refine ⟨fun h => Bool.noConfusion h, ?_⟩
  apply x3
  (repeat apply CodeT.seq)
  apply CodeT.region (fun _ => PPm)
  apply Run.op; (apply L_mov; rfl; rfl); rfl; rfl
  apply Run.op; (apply L_lss; rfl; rfl; rfl); rfl; rfl
  apply Run.done; refine ⟨fun h => Bool.noConfusion h, ?_⟩
  apply x3
  (repeat apply CodeT.seq)
  refine CodeT.cond rfl (fun h => ?_) (fun h => ?_)
  replace H := ifT (of_decide_eq_true h) H
  (repeat apply CodeT.seq)
  apply CodeT.region (fun _ => PPm)
  apply Run.op; (apply L_asg; rfl; rfl); rfl; rfl
  apply Run.done; refine ⟨fun h => Bool.noConfusion h, ?_⟩
  apply x3
  apply CodeT.ret
  apply x1
  apply x4
  apply x1
  obtain rfl := Option.some.inj H
  refine Ev.y2 ?_
  refine XRet.mk ?_
  exact RetIs.sc1 rfl
  replace H := ifF (of_decide_eq_false h) H
  (repeat apply CodeT.seq)
  apply CodeT.skip
  apply x3
  (repeat apply CodeT.seq)
  apply CodeT.region (fun _ => PPm)
  apply Run.op; (apply L_mov; rfl; rfl); rfl; rfl
  apply Run.op; (apply L_mov; rfl; rfl); rfl; rfl
  obtain ⟨y28, hy28, H⟩ := bindS H
  apply Run.op; (apply L_ixS2; rfl; rfl; rfl; (exact hy28); (intro _; rfl); rfl); rfl; rfl
  apply Run.op; (apply L_fldI; rfl; rfl); rfl; rfl
  apply Run.op; (apply L_fldI; rfl; rfl); rfl; rfl
  apply Run.op; (apply L_fldI; rfl; rfl); rfl; rfl
  apply Run.op; (apply L_ldI; rfl; rfl; rfl; rfl); rfl; rfl
  apply Run.op; (apply L_mov; rfl; rfl); rfl; rfl
  apply Run.op; (apply L_rem; rfl; rfl; (intro h; cases h); rfl; rfl); rfl; rfl
  apply Run.op; (apply L_eql; rfl; rfl; rfl); rfl; rfl
  apply Run.op; (apply L_bneq; rfl; rfl; rfl); rfl; rfl
  apply Run.done; refine ⟨fun h => Bool.noConfusion h, ?_⟩
  apply x3
  (repeat apply CodeT.seq)
  refine CodeT.cond rfl (fun h => ?_) (fun h => ?_)
  replace H := ifFb (notT h) H
  (repeat apply CodeT.seq)
  apply CodeT.region (fun _ => PPm)
  apply Run.op; (apply L_asg; rfl; rfl); rfl; rfl
  apply Run.done; refine ⟨fun h => Bool.noConfusion h, ?_⟩
  apply x3
  apply CodeT.ret
  apply x1
  apply x4
  apply x1
  obtain rfl := Option.some.inj H
  refine Ev.y2 ?_
  refine XRet.mk ?_
  exact RetIs.sc1 rfl
  replace H := ifTb (notF h) H
  (repeat apply CodeT.seq)
  apply CodeT.skip
  apply x3
  (repeat apply CodeT.seq)
  apply CodeT.region (fun _ => PPm)
  apply Run.op; (apply L_mov; rfl; rfl); rfl; rfl
  apply Run.op; (apply L_add; rfl; rfl; rfl; rfl); rfl; rfl
  apply Run.op; (apply L_asg; rfl; rfl); rfl; rfl
  apply Run.done; refine ⟨fun h => Bool.noConfusion h, ?_⟩
  apply x3
  (repeat apply CodeT.seq)
  apply CodeT.region (fun _ => PPm)
  apply Run.op; (apply L_mov; rfl; rfl); rfl; rfl
  apply Run.op; (apply L_mov; rfl; rfl); rfl; rfl
  obtain ⟨y29, hy29, H⟩ := bindS H
  apply Run.op; (apply L_ixS2; rfl; rfl; rfl; (exact hy29); (intro _; rfl); rfl); rfl; rfl
  apply Run.op; (apply L_fldI; rfl; rfl); rfl; rfl
  apply Run.op; (apply L_fldI; rfl; rfl); rfl; rfl
  apply Run.op; (apply L_fldI; rfl; rfl); rfl; rfl
  apply Run.op; (apply L_ldI; rfl; rfl; rfl; rfl); rfl; rfl
  apply Run.op; (apply L_mov; rfl; rfl); rfl; rfl
  obtain ⟨r30, hr30, H⟩ := bindS H
  apply Run.op; (apply L_call; ((apply ArgsV.cons; (apply ArgV.val; rfl; rfl)); (apply ArgsV.cons; (apply ArgV.val; rfl; rfl)); (apply ArgsV.nil)); (exact m_laws_heldIntS y29.fDX.fNum.fMag (IntKind.i64.wrap (r27 + 1)) _ hr30); rfl; rfl; rfl); rfl; rfl
  apply Run.op; (apply L_asg; rfl; rfl); rfl; rfl
  apply Run.done; refine ⟨fun h => Bool.noConfusion h, ?_⟩
  apply x3
  (repeat apply CodeT.seq)
  apply CodeT.region (fun _ => PPm)
  apply Run.op; (apply L_mov; rfl; rfl); rfl; rfl
  apply Run.op; (apply L_lss; rfl; rfl; rfl); rfl; rfl
  apply Run.done; refine ⟨fun h => Bool.noConfusion h, ?_⟩
  apply x3
  (repeat apply CodeT.seq)
  refine CodeT.cond rfl (fun h => ?_) (fun h => ?_)
  replace H := ifT (of_decide_eq_true h) H
  (repeat apply CodeT.seq)
  apply CodeT.region (fun _ => PPm)
  apply Run.op; (apply L_asg; rfl; rfl); rfl; rfl
  apply Run.done; refine ⟨fun h => Bool.noConfusion h, ?_⟩
  apply x3
  apply CodeT.ret
  apply x1
  apply x4
  apply x1
  obtain rfl := Option.some.inj H
  refine Ev.y2 ?_
  refine XRet.mk ?_
  exact RetIs.sc1 rfl
  replace H := ifF (of_decide_eq_false h) H
  (repeat apply CodeT.seq)
  apply CodeT.skip
  apply x3
  (repeat apply CodeT.seq)
  apply CodeT.region (fun _ => PPm)
  apply Run.op; (apply L_mov; rfl; rfl); rfl; rfl
  apply Run.op; (apply L_mov; rfl; rfl); rfl; rfl
  obtain ⟨y31, hy31, H⟩ := bindS H
  apply Run.op; (apply L_ixS2; rfl; rfl; rfl; (exact hy31); (intro _; rfl); rfl); rfl; rfl
  apply Run.op; (apply L_fldI; rfl; rfl); rfl; rfl
  apply Run.op; (apply L_fldI; rfl; rfl); rfl; rfl
  apply Run.op; (apply L_ldI; rfl; rfl; rfl; rfl); rfl; rfl
  apply Run.op; (apply L_mov; rfl; rfl); rfl; rfl
  obtain ⟨r32, hr32, H⟩ := bindS H
  apply Run.op; (apply L_call; ((apply ArgsV.cons; (apply ArgV.val; rfl; rfl)); (apply ArgsV.cons; (apply ArgV.val; rfl; rfl)); (apply ArgsV.nil)); (exact m_laws_heldIntS y31.fDX.fDen r30 _ hr32); rfl; rfl; rfl); rfl; rfl
  apply Run.op; (apply L_asg; rfl; rfl); rfl; rfl
  apply Run.done; refine ⟨fun h => Bool.noConfusion h, ?_⟩
  apply x3
  (repeat apply CodeT.seq)
  apply CodeT.region (fun _ => PPm)
  apply Run.op; (apply L_mov; rfl; rfl); rfl; rfl
  apply Run.op; (apply L_lss; rfl; rfl; rfl); rfl; rfl
  apply Run.done; refine ⟨fun h => Bool.noConfusion h, ?_⟩
  apply x3
  (repeat apply CodeT.seq)
  refine CodeT.cond rfl (fun h => ?_) (fun h => ?_)
  replace H := ifT (of_decide_eq_true h) H
  (repeat apply CodeT.seq)
  apply CodeT.region (fun _ => PPm)
  apply Run.op; (apply L_asg; rfl; rfl); rfl; rfl
  apply Run.done; refine ⟨fun h => Bool.noConfusion h, ?_⟩
  apply x3
  apply CodeT.ret
  apply x1
  apply x4
  apply x1
  obtain rfl := Option.some.inj H
  refine Ev.y2 ?_
  refine XRet.mk ?_
  exact RetIs.sc1 rfl
  replace H := ifF (of_decide_eq_false h) H
  (repeat apply CodeT.seq)
  apply CodeT.skip
  apply x3
  (repeat apply CodeT.seq)
  apply CodeT.region (fun _ => PPm)
  apply Run.op; (apply L_mov; rfl; rfl); rfl; rfl
  apply Run.op; (apply L_mov; rfl; rfl); rfl; rfl
  obtain ⟨y33, hy33, H⟩ := bindS H
  apply Run.op; (apply L_ixS2; rfl; rfl; rfl; (exact hy33); (intro _; rfl); rfl); rfl; rfl
  apply Run.op; (apply L_fldI; rfl; rfl); rfl; rfl
  apply Run.op; (apply L_fldI; rfl; rfl); rfl; rfl
  apply Run.op; (apply L_fldI; rfl; rfl); rfl; rfl
  apply Run.op; (apply L_ldI; rfl; rfl; rfl; rfl); rfl; rfl
  apply Run.op; (apply L_mov; rfl; rfl); rfl; rfl
  apply Run.op; (apply L_rem; rfl; rfl; (intro h; cases h); rfl; rfl); rfl; rfl
  apply Run.op; (apply L_eql; rfl; rfl; rfl); rfl; rfl
  apply Run.op; (apply L_bneq; rfl; rfl; rfl); rfl; rfl
  apply Run.done; refine ⟨fun h => Bool.noConfusion h, ?_⟩
  apply x3
  (repeat apply CodeT.seq)
  refine CodeT.cond rfl (fun h => ?_) (fun h => ?_)
  replace H := ifFb (notT h) H
  (repeat apply CodeT.seq)
  apply CodeT.region (fun _ => PPm)
  apply Run.op; (apply L_asg; rfl; rfl); rfl; rfl
  apply Run.done; refine ⟨fun h => Bool.noConfusion h, ?_⟩
  apply x3
  apply CodeT.ret
  apply x1
  apply x4
  apply x1
  obtain rfl := Option.some.inj H
  refine Ev.y2 ?_
  refine XRet.mk ?_
  exact RetIs.sc1 rfl
  replace H := ifTb (notF h) H
  (repeat apply CodeT.seq)
  apply CodeT.skip
  apply x3
  (repeat apply CodeT.seq)
  apply CodeT.region (fun _ => PPm)
  apply Run.op; (apply L_mov; rfl; rfl); rfl; rfl
  apply Run.op; (apply L_add; rfl; rfl; rfl; rfl); rfl; rfl
  apply Run.op; (apply L_asg; rfl; rfl); rfl; rfl
  apply Run.done; refine ⟨fun h => Bool.noConfusion h, ?_⟩
  apply x3
  (repeat apply CodeT.seq)
  apply CodeT.region (fun _ => PPm)
  apply Run.op; (apply L_mov; rfl; rfl); rfl; rfl
  apply Run.op; (apply L_mov; rfl; rfl); rfl; rfl
  obtain ⟨y34, hy34, H⟩ := bindS H
  apply Run.op; (apply L_ixS2; rfl; rfl; rfl; (exact hy34); (intro _; rfl); rfl); rfl; rfl
  apply Run.op; (apply L_fldI; rfl; rfl); rfl; rfl
  apply Run.op; (apply L_fldI; rfl; rfl); rfl; rfl
  apply Run.op; (apply L_fldI; rfl; rfl); rfl; rfl
  apply Run.op; (apply L_ldI; rfl; rfl; rfl; rfl); rfl; rfl
  apply Run.op; (apply L_mov; rfl; rfl); rfl; rfl
  obtain ⟨r35, hr35, H⟩ := bindS H
  apply Run.op; (apply L_call; ((apply ArgsV.cons; (apply ArgV.val; rfl; rfl)); (apply ArgsV.cons; (apply ArgV.val; rfl; rfl)); (apply ArgsV.nil)); (exact m_laws_heldIntS y34.fDY.fNum.fMag (IntKind.i64.wrap (r32 + 1)) _ hr35); rfl; rfl; rfl); rfl; rfl
  apply Run.op; (apply L_asg; rfl; rfl); rfl; rfl
  apply Run.done; refine ⟨fun h => Bool.noConfusion h, ?_⟩
  apply x3
  (repeat apply CodeT.seq)
  apply CodeT.region (fun _ => PPm)
  apply Run.op; (apply L_mov; rfl; rfl); rfl; rfl
  apply Run.op; (apply L_lss; rfl; rfl; rfl); rfl; rfl
  apply Run.done; refine ⟨fun h => Bool.noConfusion h, ?_⟩
  apply x3
  (repeat apply CodeT.seq)
  refine CodeT.cond rfl (fun h => ?_) (fun h => ?_)
  replace H := ifT (of_decide_eq_true h) H
  (repeat apply CodeT.seq)
  apply CodeT.region (fun _ => PPm)
  apply Run.op; (apply L_asg; rfl; rfl); rfl; rfl
  apply Run.done; refine ⟨fun h => Bool.noConfusion h, ?_⟩
  apply x3
  apply CodeT.ret
  apply x1
  apply x4
  apply x1
  obtain rfl := Option.some.inj H
  refine Ev.y2 ?_
  refine XRet.mk ?_
  exact RetIs.sc1 rfl
  replace H := ifF (of_decide_eq_false h) H
  (repeat apply CodeT.seq)
  apply CodeT.skip
  apply x3
  (repeat apply CodeT.seq)
  apply CodeT.region (fun _ => PPm)
  apply Run.op; (apply L_mov; rfl; rfl); rfl; rfl
  apply Run.op; (apply L_mov; rfl; rfl); rfl; rfl
  obtain ⟨y36, hy36, H⟩ := bindS H
  apply Run.op; (apply L_ixS2; rfl; rfl; rfl; (exact hy36); (intro _; rfl); rfl); rfl; rfl
  apply Run.op; (apply L_fldI; rfl; rfl); rfl; rfl
  apply Run.op; (apply L_fldI; rfl; rfl); rfl; rfl
  apply Run.op; (apply L_ldI; rfl; rfl; rfl; rfl); rfl; rfl
  apply Run.op; (apply L_mov; rfl; rfl); rfl; rfl
  obtain ⟨r37, hr37, H⟩ := bindS H
  apply Run.op; (apply L_call; ((apply ArgsV.cons; (apply ArgV.val; rfl; rfl)); (apply ArgsV.cons; (apply ArgV.val; rfl; rfl)); (apply ArgsV.nil)); (exact m_laws_heldIntS y36.fDY.fDen r35 _ hr37); rfl; rfl; rfl); rfl; rfl
  apply Run.op; (apply L_asg; rfl; rfl); rfl; rfl
  apply Run.done; refine ⟨fun h => Bool.noConfusion h, ?_⟩
  apply x3
  (repeat apply CodeT.seq)
  apply CodeT.region (fun _ => PPm)
  apply Run.op; (apply L_mov; rfl; rfl); rfl; rfl
  apply Run.op; (apply L_lss; rfl; rfl; rfl); rfl; rfl
  apply Run.done; refine ⟨fun h => Bool.noConfusion h, ?_⟩
  apply x3
  refine CodeT.cond rfl (fun h => ?_) (fun h => ?_)
  replace H := ifT (of_decide_eq_true h) H
  (repeat apply CodeT.seq)
  apply CodeT.region (fun _ => PPm)
  apply Run.op; (apply L_asg; rfl; rfl); rfl; rfl
  apply Run.done; refine ⟨fun h => Bool.noConfusion h, ?_⟩
  apply x3
  apply CodeT.ret
  apply x4
  apply x1
  obtain rfl := Option.some.inj H
  refine Ev.y2 ?_
  refine XRet.mk ?_
  exact RetIs.sc1 rfl
  replace H := ifF (of_decide_eq_false h) H
  (repeat apply CodeT.seq)
  apply CodeT.skip
  apply x5
  apply x3
  apply CodeT.region (fun _ => PPm)
  apply Run.op; (apply L_mov; rfl; rfl); rfl; rfl
  apply Run.op; (apply L_add; rfl; rfl; rfl; rfl); rfl; rfl
  apply Run.op; (apply L_asg; rfl; rfl); rfl; rfl
  apply Run.done; refine ⟨fun h => Bool.noConfusion h, ?_⟩
  obtain rfl := Option.some.inj H
  refine Ev.y1 ?_
  refine Ent.list [] (io0 hio _) rfl ?_ ?_ <;> (repeat' first | exact trivial | (refine And.intro ⟨_, rfl, fun h => (by first | rfl | exact Bool.noConfusion h)⟩ ?_))
  replace H := ifF (of_decide_eq_false h) H
  (repeat apply CodeT.seq)
  apply CodeT.exit
  apply x2
  obtain rfl := Option.some.inj H
  refine Ev.y3 ?_
  refine XEnv.mk ?_
  refine Ent.list [] (io0 hio _) rfl ?_ ?_ <;> (repeat' first | exact trivial | (refine And.intro ⟨_, rfl, fun h => (by first | rfl | exact Bool.noConfusion h)⟩ ?_))
  rcases d38 with (d39 | d41)
  intro e E' hX; obtain ⟨rfl, g40⟩ := XEnv.out hX
  refine x6 rfl ?_
  apply x3
  refine CodeT.weak g40 ?_
  (repeat apply CodeT.seq)
  apply CodeT.region (fun _ => PPm)
  apply Run.op; (apply L_mov; rfl; rfl); rfl; rfl
  apply Run.op; (apply L_asg; rfl; rfl); rfl; rfl
  apply Run.done; refine ⟨fun h => Bool.noConfusion h, ?_⟩
  apply x3
  apply CodeT.ret
  cases H
  apply x12
  exact RetIs.sc1 rfl
  intro e E' hX; obtain ⟨rfl, g42⟩ := XRet.out hX
  apply x4
  apply x1
  cases H
  apply x12
  exact g42
theorem m_laws_heldConditionalS (a0 : (List Conditional)) (a1 : Int) (r : Int) (H : laws_heldConditionalS a0 a1 = some r) : Meets Try.prog 58 [.sl a0.length (a0.flatMap encConditional), .sc (.int .i64 a1)] (.sc (.int .i64 r)) true := by
  refine Meets.intro2 (N := 65) (rs := #[.tmp 4]) Try.func58 rfl rfl rfl rfl ?_
  intro Γ hio
  unfold laws_heldConditionalS at H
  (repeat apply CodeT.seq)
  apply CodeT.region (fun _ => PPm)
  apply Run.op; (apply L_asg; rfl; rfl); rfl; rfl
  apply Run.done; refine ⟨fun h => Bool.noConfusion h, ?_⟩
  apply x3
  (repeat apply CodeT.seq)
  apply CodeT.region (fun _ => PPm)
  apply Run.op; (apply L_asg; rfl; rfl); rfl; rfl
  apply Run.done; refine ⟨fun h => Bool.noConfusion h, ?_⟩
  apply x3
  (repeat apply CodeT.seq)
  apply CodeT.block
  (repeat apply CodeT.seq)
  obtain ⟨d22, hd22, H⟩ := bindS H
  refine CodeT.lloop (fun s => ⟨[(0, ⟨.sl a0.length (a0.flatMap encConditional), false⟩), (1, ⟨.sc (.int .i64 s.1), false⟩), (5, ⟨.sc (.int .i64 s.2), false⟩)], []⟩) (fun x e E => match x with | (.inl d) => XEnv Γ (.exit 0) ⟨[(1, ⟨.sc (.int .i64 d), false⟩)], []⟩ e E | (.inr d) => XRet Γ #[.tmp 4] (.sc (.int .i64 d)) true e E) hd22 ?_ ?_ ?_
  refine Ent.list [] (io0 hio _) rfl ?_ ?_ <;> (repeat' first | exact trivial | (refine And.intro ⟨_, rfl, fun h => (by first | rfl | exact Bool.noConfusion h)⟩ ?_))
  clear H hd22
  rintro ⟨v10, v11⟩ o H
  unfold laws_heldConditionalS_L1 at H
  (repeat apply CodeT.seq)
  apply CodeT.region (fun _ => PPm)
  apply Run.op; (apply L_mov; rfl; rfl); rfl; rfl
  apply Run.op; (apply L_mov; rfl; rfl); rfl; rfl
  apply Run.op; (apply L_len; rfl; rfl); rfl; rfl
  apply Run.op; (apply L_lss; rfl; rfl; rfl); rfl; rfl
  apply Run.done; refine ⟨fun h => Bool.noConfusion h, ?_⟩
  apply x3
  (repeat apply CodeT.seq)
  refine CodeT.cond rfl (fun h => ?_) (fun h => ?_)
  replace H := ifT (of_decide_eq_true h) H
  (repeat apply CodeT.seq)
  apply CodeT.skip
  apply x3
  (repeat apply CodeT.seq)
  apply CodeT.block
  (repeat apply CodeT.seq)
  apply CodeT.region (fun _ => PPm)
  apply Run.op; (apply L_mov; rfl; rfl); rfl; rfl
  apply Run.op; (apply L_mov; rfl; rfl); rfl; rfl
  obtain ⟨y12, hy12, H⟩ := bindS H
  apply Run.op; (apply L_ixS2; rfl; rfl; rfl; (exact hy12); (intro _; rfl); rfl); rfl; rfl
  apply Run.op; (apply L_fldI; rfl; rfl); rfl; rfl
  apply Run.op; (apply L_ldI; rfl; rfl; rfl; rfl); rfl; rfl
  apply Run.op; (apply L_mov; rfl; rfl); rfl; rfl
  apply Run.op; (apply L_neq; rfl; rfl; rfl); rfl; rfl
  apply Run.done; refine ⟨fun h => Bool.noConfusion h, ?_⟩
  apply x3
  (repeat apply CodeT.seq)
  refine CodeT.cond rfl (fun h => ?_) (fun h => ?_)
  replace H := ifT (of_decide_eq_true h) H
  (repeat apply CodeT.seq)
  apply CodeT.region (fun _ => PPm)
  apply Run.op; (apply L_asg; rfl; rfl); rfl; rfl
  apply Run.done; refine ⟨fun h => Bool.noConfusion h, ?_⟩
  apply x3
  apply CodeT.ret
  apply x1
  apply x4
  apply x1
  obtain rfl := Option.some.inj H
  refine Ev.y2 ?_
  refine XRet.mk ?_
  exact RetIs.sc1 rfl
  replace H := ifF (of_decide_eq_false h) H
  (repeat apply CodeT.seq)
  apply CodeT.skip
  apply x3
  (repeat apply CodeT.seq)
  apply CodeT.region (fun _ => PPm)
  apply Run.op; (apply L_mov; rfl; rfl); rfl; rfl
  apply Run.op; (apply L_add; rfl; rfl; rfl; rfl); rfl; rfl
  apply Run.op; (apply L_asg; rfl; rfl); rfl; rfl
  apply Run.done; refine ⟨fun h => Bool.noConfusion h, ?_⟩
  apply x3
  (repeat apply CodeT.seq)
  apply CodeT.region (fun _ => PPm)
  apply Run.op; (apply L_mov; rfl; rfl); rfl; rfl
  apply Run.op; (apply L_mov; rfl; rfl); rfl; rfl
  obtain ⟨y13, hy13, H⟩ := bindS H
  apply Run.op; (apply L_ixS2; rfl; rfl; rfl; (exact hy13); (intro _; rfl); rfl); rfl; rfl
  apply Run.op; (apply L_fldI; rfl; rfl); rfl; rfl
  apply Run.op; (apply L_fldI; rfl; rfl); rfl; rfl
  apply Run.op; (apply L_fldI; rfl; rfl); rfl; rfl
  apply Run.op; (apply L_ldI; rfl; rfl; rfl; rfl); rfl; rfl
  apply Run.op; (apply L_mov; rfl; rfl); rfl; rfl
  obtain ⟨v14, hv14, H⟩ := bindS H
  apply Run.op; (apply L_rem; rfl; rfl; (intro h; cases h); (exact letS hv14); rfl); rfl; rfl
  apply Run.op; (apply L_eql; rfl; rfl; rfl); rfl; rfl
  apply Run.op; (apply L_bneq; rfl; rfl; rfl); rfl; rfl
  apply Run.done; refine ⟨fun h => Bool.noConfusion h, ?_⟩
  apply x3
  (repeat apply CodeT.seq)
  refine CodeT.cond rfl (fun h => ?_) (fun h => ?_)
  replace H := ifFb (notT h) H
  (repeat apply CodeT.seq)
  apply CodeT.region (fun _ => PPm)
  apply Run.op; (apply L_asg; rfl; rfl); rfl; rfl
  apply Run.done; refine ⟨fun h => Bool.noConfusion h, ?_⟩
  apply x3
  apply CodeT.ret
  apply x1
  apply x4
  apply x1
  obtain rfl := Option.some.inj H
  refine Ev.y2 ?_
  refine XRet.mk ?_
  exact RetIs.sc1 rfl
  replace H := ifTb (notF h) H
  (repeat apply CodeT.seq)
  apply CodeT.skip
  apply x3
  (repeat apply CodeT.seq)
  apply CodeT.region (fun _ => PPm)
  apply Run.op; (apply L_mov; rfl; rfl); rfl; rfl
  obtain ⟨v15, hv15, H⟩ := bindS H
  apply Run.op; (apply L_add; rfl; rfl; (exact letS hv15); rfl); rfl; rfl
  apply Run.op; (apply L_asg; rfl; rfl); rfl; rfl
  apply Run.done; refine ⟨fun h => Bool.noConfusion h, ?_⟩
  apply x3
  (repeat apply CodeT.seq)
  apply CodeT.region (fun _ => PPm)
  apply Run.op; (apply L_mov; rfl; rfl); rfl; rfl
  apply Run.op; (apply L_mov; rfl; rfl); rfl; rfl
  obtain ⟨y16, hy16, H⟩ := bindS H
  apply Run.op; (apply L_ixS2; rfl; rfl; rfl; (exact hy16); (intro _; rfl); rfl); rfl; rfl
  apply Run.op; (apply L_fldI; rfl; rfl); rfl; rfl
  apply Run.op; (apply L_fldI; rfl; rfl); rfl; rfl
  apply Run.op; (apply L_fldI; rfl; rfl); rfl; rfl
  apply Run.op; (apply L_ldI; rfl; rfl; rfl; rfl); rfl; rfl
  apply Run.op; (apply L_mov; rfl; rfl); rfl; rfl
  obtain ⟨r17, hr17, H⟩ := bindS H
  apply Run.op; (apply L_call; ((apply ArgsV.cons; (apply ArgV.val; rfl; rfl)); (apply ArgsV.cons; (apply ArgV.val; rfl; rfl)); (apply ArgsV.nil)); (exact m_laws_heldIntS y16.fTotal.fNum.fMag v15 _ hr17); rfl; rfl; rfl); rfl; rfl
  apply Run.op; (apply L_asg; rfl; rfl); rfl; rfl
  apply Run.done; refine ⟨fun h => Bool.noConfusion h, ?_⟩
  apply x3
  (repeat apply CodeT.seq)
  apply CodeT.region (fun _ => PPm)
  apply Run.op; (apply L_mov; rfl; rfl); rfl; rfl
  apply Run.op; (apply L_lss; rfl; rfl; rfl); rfl; rfl
  apply Run.done; refine ⟨fun h => Bool.noConfusion h, ?_⟩
  apply x3
  (repeat apply CodeT.seq)
  refine CodeT.cond rfl (fun h => ?_) (fun h => ?_)
  replace H := ifT (of_decide_eq_true h) H
  (repeat apply CodeT.seq)
  apply CodeT.region (fun _ => PPm)
  apply Run.op; (apply L_asg; rfl; rfl); rfl; rfl
  apply Run.done; refine ⟨fun h => Bool.noConfusion h, ?_⟩
  apply x3
  apply CodeT.ret
  apply x1
  apply x4
  apply x1
  obtain rfl := Option.some.inj H
  refine Ev.y2 ?_
  refine XRet.mk ?_
  exact RetIs.sc1 rfl
  replace H := ifF (of_decide_eq_false h) H
  (repeat apply CodeT.seq)
  apply CodeT.skip
  apply x3
  (repeat apply CodeT.seq)
  apply CodeT.region (fun _ => PPm)
  apply Run.op; (apply L_mov; rfl; rfl); rfl; rfl
  apply Run.op; (apply L_mov; rfl; rfl); rfl; rfl
  obtain ⟨y18, hy18, H⟩ := bindS H
  apply Run.op; (apply L_ixS2; rfl; rfl; rfl; (exact hy18); (intro _; rfl); rfl); rfl; rfl
  apply Run.op; (apply L_fldI; rfl; rfl); rfl; rfl
  apply Run.op; (apply L_fldI; rfl; rfl); rfl; rfl
  apply Run.op; (apply L_ldI; rfl; rfl; rfl; rfl); rfl; rfl
  apply Run.op; (apply L_mov; rfl; rfl); rfl; rfl
  obtain ⟨r19, hr19, H⟩ := bindS H
  apply Run.op; (apply L_call; ((apply ArgsV.cons; (apply ArgV.val; rfl; rfl)); (apply ArgsV.cons; (apply ArgV.val; rfl; rfl)); (apply ArgsV.nil)); (exact m_laws_heldIntS y18.fTotal.fDen r17 _ hr19); rfl; rfl; rfl); rfl; rfl
  apply Run.op; (apply L_asg; rfl; rfl); rfl; rfl
  apply Run.done; refine ⟨fun h => Bool.noConfusion h, ?_⟩
  apply x3
  (repeat apply CodeT.seq)
  apply CodeT.region (fun _ => PPm)
  apply Run.op; (apply L_mov; rfl; rfl); rfl; rfl
  apply Run.op; (apply L_lss; rfl; rfl; rfl); rfl; rfl
  apply Run.done; refine ⟨fun h => Bool.noConfusion h, ?_⟩
  apply x3
  (repeat apply CodeT.seq)
  refine CodeT.cond rfl (fun h => ?_) (fun h => ?_)
  replace H := ifT (of_decide_eq_true h) H
  (repeat apply CodeT.seq)
  apply CodeT.region (fun _ => PPm)
  apply Run.op; (apply L_asg; rfl; rfl); rfl; rfl
  apply Run.done; refine ⟨fun h => Bool.noConfusion h, ?_⟩
  apply x3
  apply CodeT.ret
  apply x1
  apply x4
  apply x1
  obtain rfl := Option.some.inj H
  refine Ev.y2 ?_
  refine XRet.mk ?_
  exact RetIs.sc1 rfl
  replace H := ifF (of_decide_eq_false h) H
  (repeat apply CodeT.seq)
  apply CodeT.skip
  apply x3
  (repeat apply CodeT.seq)
  apply CodeT.region (fun _ => PPm)
  apply Run.op; (apply L_mov; rfl; rfl); rfl; rfl
  apply Run.op; (apply L_mov; rfl; rfl); rfl; rfl
  obtain ⟨y20, hy20, H⟩ := bindS H
  apply Run.op; (apply L_ixS2; rfl; rfl; rfl; (exact hy20); (intro _; rfl); rfl); rfl; rfl
  apply Run.op; (apply L_fldI; rfl; rfl); rfl; rfl
  apply Run.op; (apply L_ldI; rfl; rfl; rfl; rfl); rfl; rfl
  apply Run.op; (apply L_mov; rfl; rfl); rfl; rfl
  obtain ⟨r21, hr21, H⟩ := bindS H
  apply Run.op; (apply L_call; ((apply ArgsV.cons; (apply ArgV.val; rfl; rfl)); (apply ArgsV.cons; (apply ArgV.val; rfl; rfl)); (apply ArgsV.nil)); (exact m_laws_heldParentS y20.fParents r19 _ hr21); rfl; rfl; rfl); rfl; rfl
  apply Run.op; (apply L_asg; rfl; rfl); rfl; rfl
  apply Run.done; refine ⟨fun h => Bool.noConfusion h, ?_⟩
  apply x3
  (repeat apply CodeT.seq)
  apply CodeT.region (fun _ => PPm)
  apply Run.op; (apply L_mov; rfl; rfl); rfl; rfl
  apply Run.op; (apply L_lss; rfl; rfl; rfl); rfl; rfl
  apply Run.done; refine ⟨fun h => Bool.noConfusion h, ?_⟩
  apply x3
  refine CodeT.cond rfl (fun h => ?_) (fun h => ?_)
  replace H := ifT (of_decide_eq_true h) H
  (repeat apply CodeT.seq)
  apply CodeT.region (fun _ => PPm)
  apply Run.op; (apply L_asg; rfl; rfl); rfl; rfl
  apply Run.done; refine ⟨fun h => Bool.noConfusion h, ?_⟩
  apply x3
  apply CodeT.ret
  apply x4
  apply x1
  obtain rfl := Option.some.inj H
  refine Ev.y2 ?_
  refine XRet.mk ?_
  exact RetIs.sc1 rfl
  replace H := ifF (of_decide_eq_false h) H
  (repeat apply CodeT.seq)
  apply CodeT.skip
  apply x5
  apply x3
  apply CodeT.region (fun _ => PPm)
  apply Run.op; (apply L_mov; rfl; rfl); rfl; rfl
  apply Run.op; (apply L_add; rfl; rfl; rfl; rfl); rfl; rfl
  apply Run.op; (apply L_asg; rfl; rfl); rfl; rfl
  apply Run.done; refine ⟨fun h => Bool.noConfusion h, ?_⟩
  obtain rfl := Option.some.inj H
  refine Ev.y1 ?_
  refine Ent.list [] (io0 hio _) rfl ?_ ?_ <;> (repeat' first | exact trivial | (refine And.intro ⟨_, rfl, fun h => (by first | rfl | exact Bool.noConfusion h)⟩ ?_))
  replace H := ifF (of_decide_eq_false h) H
  (repeat apply CodeT.seq)
  apply CodeT.exit
  apply x2
  obtain rfl := Option.some.inj H
  refine Ev.y3 ?_
  refine XEnv.mk ?_
  refine Ent.list [] (io0 hio _) rfl ?_ ?_ <;> (repeat' first | exact trivial | (refine And.intro ⟨_, rfl, fun h => (by first | rfl | exact Bool.noConfusion h)⟩ ?_))
  rcases d22 with (d23 | d25)
  intro e E' hX; obtain ⟨rfl, g24⟩ := XEnv.out hX
  refine x6 rfl ?_
  apply x3
  refine CodeT.weak g24 ?_
  (repeat apply CodeT.seq)
  apply CodeT.region (fun _ => PPm)
  apply Run.op; (apply L_mov; rfl; rfl); rfl; rfl
  apply Run.op; (apply L_asg; rfl; rfl); rfl; rfl
  apply Run.done; refine ⟨fun h => Bool.noConfusion h, ?_⟩
  apply x3
  apply CodeT.ret
  cases H
  apply x12
  exact RetIs.sc1 rfl
  intro e E' hX; obtain ⟨rfl, g26⟩ := XRet.out hX
  apply x4
  apply x1
  cases H
  apply x12
  exact g26
theorem m_laws_FnExactTreeNet (a0 : Tree) (r : Bool) (H : laws_FnExactTreeNet a0 = some r) : Meets Try.prog 11 [.agg (encTree a0)] (.sc (.bool r)) true := by
  refine Meets.introW1 (N := 69) (rs := #[.tmp 2]) Try.func11 rfl rfl rfl rfl rfl ?_
  intro Γ c0 hio hle hi0 old0
  refine CodeT.openAgg 0 rfl old0 rfl (fun vs hvs oldl0 => ?_)
  have hvs : vs.length = 1 := hvs
  obtain ⟨w0_0, vs1, rfl, hv1⟩ := lenS hvs
  obtain rfl := len0 hv1
  unfold laws_FnExactTreeNet at H
  (repeat apply CodeT.seq)
  apply CodeT.region (fun _ => PPm)
  apply Run.op; (apply L_box false; rfl; rfl; rfl; (exact io1 hio _); rfl); rfl; rfl
  apply Run.op; (apply L_asg; rfl; rfl); rfl; rfl
  apply Run.done; refine ⟨fun h => Bool.noConfusion h, ?_⟩
  apply x3
  (repeat apply CodeT.seq)
  apply CodeT.region (fun _ => PPm)
  apply Run.op; (apply L_asg; rfl; rfl); rfl; rfl
  apply Run.done; refine ⟨fun h => Bool.noConfusion h, ?_⟩
  apply x3
  (repeat apply CodeT.seq)
  apply CodeT.region (fun _ => PPm)
  apply Run.op; (apply Local.soft (p' := .agg (encTree a0)) (Soft.agg (SoftL.cons Soft.was SoftL.nil)); apply L_ldPA; rfl; rfl; rfl; rfl; (intro h; cases h); (first | exact .inl rfl | exact .inr rfl); rfl); rfl; rfl
  apply Run.op; (apply L_mov; rfl; rfl); rfl; rfl
  obtain ⟨r1, hr1, H⟩ := bindS H
  apply Run.op; (apply L_call; ((apply ArgsV.cons; (apply ArgV.val; rfl; rfl)); (apply ArgsV.cons; (apply ArgV.val; rfl; rfl)); (apply ArgsV.nil)); (exact m_laws_szTree a0 1048576 _ hr1); rfl; rfl; rfl); rfl; rfl
  apply Run.op; (apply L_asg; rfl; rfl); rfl; rfl
  apply Run.done; refine ⟨fun h => Bool.noConfusion h, ?_⟩
  apply x3
  (repeat apply CodeT.seq)
  apply CodeT.region (fun _ => PPm)
  apply Run.op; (apply L_mov; rfl; rfl); rfl; rfl
  apply Run.op; (apply L_lss; rfl; rfl; rfl); rfl; rfl
  apply Run.done; refine ⟨fun h => Bool.noConfusion h, ?_⟩
  apply x3
  (repeat apply CodeT.seq)
  refine CodeT.cond rfl (fun h => ?_) (fun h => ?_)
  replace H := ifT (of_decide_eq_true h) H
  (repeat apply CodeT.seq)
  apply CodeT.region (fun _ => PPm)
  apply Run.op; (apply L_asg; rfl; rfl); rfl; rfl
  apply Run.done; refine ⟨fun h => Bool.noConfusion h, ?_⟩
  apply x3
  apply CodeT.ret
  apply x1
  cases H
  apply x12
  exact RetIs.sc1 rfl
  replace H := ifF (of_decide_eq_false h) H
  (repeat apply CodeT.seq)
  apply CodeT.skip
  apply x3
  (repeat apply CodeT.seq)
  apply CodeT.region (fun _ => PPm)
  apply Run.op; (apply Local.soft (p' := .agg (encTree a0)) (Soft.agg (SoftL.cons Soft.was SoftL.nil)); apply L_ldPA; rfl; rfl; rfl; rfl; (intro h; cases h); (first | exact .inl rfl | exact .inr rfl); rfl); rfl; rfl
  obtain ⟨r2, hr2, H⟩ := bindS H
  apply Run.op; (apply L_call; ((apply ArgsV.cons; (apply ArgV.val; rfl; rfl)); (apply ArgsV.nil)); (exact m_laws_toTree a0 _ hr2); rfl; rfl; rfl); rfl; rfl
  obtain ⟨r3, hr3, H⟩ := bindS H
  apply Run.op; (apply L_callW; ((apply ArgsV.cons; (apply ArgV.valS; rfl; rfl; (exact (Soft.agg (softTree _))))); (apply ArgsV.nil)); (exact m_spec_TreeNet r2 _ hr3); (exact io1 hio _); rfl); rfl; rfl
  apply Run.op; (apply L_asg; rfl; rfl); rfl; rfl
  apply Run.done; refine ⟨fun h => Bool.noConfusion h, ?_⟩
  apply x3
  (repeat apply CodeT.seq)
  apply CodeT.region (fun _ => PPm)
  apply Run.op; (apply Local.soft (p' := .agg (encTree a0)) (Soft.agg (SoftL.cons Soft.was SoftL.nil)); apply L_ldPA; rfl; rfl; rfl; rfl; (intro h; cases h); (first | exact .inl rfl | exact .inr rfl); rfl); rfl; rfl
  obtain ⟨r4, hr4, H⟩ := bindS H
  apply Run.op; (apply L_call; ((apply ArgsV.cons; (apply ArgV.val; rfl; rfl)); (apply ArgsV.nil)); (exact m_laws_toTree a0 _ hr4); rfl; rfl; rfl); rfl; rfl
  apply Run.op; (apply L_alloc false; (exact io1 hio _); rfl); rfl; rfl
  apply Run.op; (apply L_stT (cells' := (encWTree r4)); rfl; rfl; rfl; rfl; rfl; rfl; (intro h; cases h); rfl; (first | exact splice_whole rfl | rfl)); rfl; rfl
  apply Run.done; refine ⟨fun h => Bool.noConfusion h, ?_⟩
  apply x3
  (repeat apply CodeT.seq)
  apply CodeT.region (fun _ => PPm)
  apply Run.op; (apply Local.soft (Soft.agg (softTree _)); apply L_ldPA; rfl; rfl; (first | exact seg_whole rfl | rfl); rfl; (intro h; cases h); (first | exact .inl rfl | exact .inr rfl); rfl); rfl; rfl
  obtain ⟨r5, hr5, H⟩ := bindS H
  apply Run.op; (apply L_callW; ((apply ArgsV.cons; (apply ArgV.val; rfl; rfl)); (apply ArgsV.nil)); (exact m_impl_TreeNet r4 _ hr5); (exact io1 hio _); rfl); rfl; rfl
  apply Run.op; (apply L_asg; rfl; rfl); rfl; rfl
  apply Run.done; refine ⟨fun h => Bool.noConfusion h, ?_⟩
  apply x3
  (repeat apply CodeT.seq)
  apply CodeT.region (fun _ => PPm)
  apply Run.op; (apply L_mov; rfl; rfl); rfl; rfl
  apply Run.op; (apply L_mov; rfl; rfl); rfl; rfl
  obtain ⟨r6, hr6, H⟩ := bindS H
  apply Run.op; (apply L_call; ((apply ArgsV.cons; (apply ArgV.refS; rfl; rfl; (exact (SoftL.flat softConditional _)))); (apply ArgsV.cons; (apply ArgV.refS; rfl; rfl; (exact (SoftL.flat softConditional _)))); (apply ArgsV.nil)); (exact m_laws_eqConditionalS r5 r3 _ hr6); rfl; rfl; rfl); rfl; rfl
  apply Run.op; (apply L_not; rfl; rfl); rfl; rfl
  apply Run.done; refine ⟨fun h => Bool.noConfusion h, ?_⟩
  apply x3
  (repeat apply CodeT.seq)
  refine CodeT.cond rfl (fun h => ?_) (fun h => ?_)
  replace H := ifFb (notT h) H
  (repeat apply CodeT.seq)
  apply CodeT.region (fun _ => PPm)
  apply Run.op; (apply L_asg; rfl; rfl); rfl; rfl
  apply Run.done; refine ⟨fun h => Bool.noConfusion h, ?_⟩
  apply x3
  apply CodeT.ret
  apply x1
  cases H
  apply x12
  exact RetIs.sc1 rfl
  replace H := ifTb (notF h) H
  (repeat apply CodeT.seq)
  apply CodeT.skip
  apply x3
  (repeat apply CodeT.seq)
  apply CodeT.region (fun _ => PPm)
  apply Run.op; (apply Local.soft (Soft.agg (softTree _)); apply L_ldPA; rfl; rfl; (first | exact seg_whole rfl | rfl); rfl; (intro h; cases h); (first | exact .inl rfl | exact .inr rfl); rfl); rfl; rfl
  apply Run.op; (apply Local.soft (p' := .agg (encTree a0)) (Soft.agg (SoftL.cons Soft.was SoftL.nil)); apply L_ldPA; rfl; rfl; rfl; rfl; (intro h; cases h); (first | exact .inl rfl | exact .inr rfl); rfl); rfl; rfl
  obtain ⟨r7, hr7, H⟩ := bindS H
  apply Run.op; (apply L_call; ((apply ArgsV.cons; (apply ArgV.val; rfl; rfl)); (apply ArgsV.nil)); (exact m_laws_toTree a0 _ hr7); rfl; rfl; rfl); rfl; rfl
  obtain ⟨r8, hr8, H⟩ := bindS H
  apply Run.op; (apply L_call; ((apply ArgsV.cons; (apply ArgV.val; rfl; rfl)); (apply ArgsV.cons; (apply ArgV.valS; rfl; rfl; (exact (Soft.agg (softTree _))))); (apply ArgsV.nil)); (exact m_laws_eqTree r4 r7 _ hr8); rfl; rfl; rfl); rfl; rfl
  apply Run.op; (apply L_not; rfl; rfl); rfl; rfl
  apply Run.done; refine ⟨fun _ => ⟨rfl, rfl⟩, ?_⟩
  apply x3
  (repeat apply CodeT.seq)
  refine CodeT.cond rfl (fun h => ?_) (fun h => ?_)
  replace H := ifFb (notT h) H
  (repeat apply CodeT.seq)
  apply CodeT.region (fun _ => PPm)
  apply Run.op; (apply L_asg; rfl; rfl); rfl; rfl
  apply Run.done; refine ⟨fun h => Bool.noConfusion h, ?_⟩
  apply x3
  apply CodeT.ret
  apply x1
  cases H
  apply x12
  exact RetIs.sc1 rfl
  replace H := ifTb (notF h) H
  (repeat apply CodeT.seq)
  apply CodeT.skip
  apply x3
  (repeat apply CodeT.seq)
  apply CodeT.region (fun _ => PPm)
  apply Run.op; (apply L_asg; rfl; rfl); rfl; rfl
  apply Run.done; refine ⟨fun h => Bool.noConfusion h, ?_⟩
  apply x3
  (repeat apply CodeT.seq)
  refine CodeT.weak (Ent.sleepO 1 rfl rfl) ?_
  refine CodeT.weak (E' := ⟨[(1, ⟨.ptr 1 0, false⟩), (4, ⟨.ref 504 5 0 r3.length, false⟩), (5, ⟨.ptr 5 0, false⟩), (6, ⟨.ref 506 5 0 r5.length, false⟩), (7, ⟨.sc (.int .i64 1), false⟩)], [(1, some ⟨[.sc w0_0], true, false⟩), (5, some ⟨(encWTree r4), true, false⟩), (504, some ⟨r3.flatMap encWConditional, true, false⟩), (506, some ⟨r5.flatMap encWConditional, true, false⟩)]⟩) ?_ ?_
  refine Ent.list [(504, 18), (506, 22)] (io0 hio _) rfl ?_ ?_ <;> (repeat' first | exact trivial | (refine And.intro ⟨_, rfl, fun h => (by first | rfl | exact Bool.noConfusion h)⟩ ?_))
  refine CodeT.exposeAll 5 rfl rfl (fun vs hvs => ?_)
  have hvs : vs.length = 1 := hvs
  obtain ⟨w9_0, vs1, rfl, hv1⟩ := lenS hvs
  obtain rfl := len0 hv1
  apply CodeT.region (fun _ => PPm)
  apply Run.op; (apply Local.forget (Forg.agg (ws := [.was w9_0 (.rw 12 r4.fNodes.length (r4.fNodes.flatMap encWTreeNode))]) rfl); apply L_ldPA; rfl; rfl; rfl; rfl; (intro h; cases h); (exact .inr rfl); rfl); rfl; rfl
  apply Run.op; (apply L_mov; rfl; rfl); rfl; rfl
  obtain ⟨r10, hr10, H⟩ := bindS H
  apply Run.op; (apply L_callM (l := 5) (off := 0) (m := 1) (p := .agg (encWTree r4)) (p' := .agg (encWTree r10.2)) (cells' := [.was w9_0 (.rw 12 r10.2.fNodes.length (r10.2.fNodes.flatMap encWTreeNode))]); rfl; rfl; rfl; rfl; rfl; rfl; (exact MCut.agg rfl rfl); (exact mk_laws_markTree r4 1 _ hr10); rfl; (exact hle); rfl); rfl; rfl
  apply Run.op; (apply L_asg; rfl; rfl); rfl; rfl
  apply Run.done; refine ⟨fun h => Bool.noConfusion h, ?_⟩
  apply x3
  refine CodeT.weak (Ent.wakeO 1 (vs := [w0_0]) rfl oldl0) ?_
  refine CodeT.weak (Ent.soften (l := 5) (cells' := (encWTree r10.2)) rfl (SoftL.cons Soft.was SoftL.nil)) ?_
  (repeat apply CodeT.seq)
  obtain ⟨d13, hd13, H⟩ := bindS H
  refine CodeT.lcut (x := d13) (fun d e E => XEnv Γ .normal ⟨[(1, ⟨.ptr 1 0, false⟩), (4, ⟨.ref 504 5 0 r3.length, false⟩), (6, ⟨.ref 506 5 0 r5.length, false⟩), (42, ⟨.sc (.bool d), false⟩)], [(1, some ⟨[.was w0_0 (.sl a0.fNodes.length (a0.fNodes.flatMap encTreeNode))], false, false⟩), (504, some ⟨r3.flatMap encWConditional, true, false⟩), (506, some ⟨r5.flatMap encWConditional, true, false⟩)]⟩ e E) ?_ ?_
  clear H; have H := hd13; clear hd13
  apply CodeT.region (fun _ => PPm)
  apply Run.op; (apply L_mov; rfl; rfl); rfl; rfl
  apply R_dec; (apply L_lss; rfl; rfl; rfl); rfl
  intro h; replace H := ifT h H
  apply Run.op; (apply L_mov; rfl; rfl); rfl; rfl
  apply Run.skip; rfl
  apply Run.skip; rfl
  apply Run.skip; rfl
  apply Run.skip; rfl
  apply Run.op; (apply L_pickT; rfl; rfl; rfl); rfl; rfl
  apply Run.done; refine ⟨fun h => Bool.noConfusion h, ?_⟩
  obtain rfl := Option.some.inj H
  refine Ev.y4 ?_
  refine XEnv.mk ?_
  refine Ent.list [] (io0 hio _) rfl ?_ ?_ <;> (repeat' first | exact trivial | (refine And.intro ⟨_, rfl, fun h => (by first | rfl | exact Bool.noConfusion h)⟩ ?_))
  intro h; replace H := ifF h H
  apply Run.op; (apply L_mov; rfl; rfl); rfl; rfl
  apply Run.op; (apply L_mov; rfl; rfl); rfl; rfl
  apply Run.op; (apply L_mov; rfl; rfl); rfl; rfl
  obtain ⟨r11, hr11, H⟩ := bindS H
  apply Run.op; (apply L_call; ((apply ArgsV.cons; (apply ArgV.refS; rfl; rfl; (exact (SoftL.flat softConditional _)))); (apply ArgsV.cons; (apply ArgV.refS; rfl; rfl; (exact (SoftL.flat softConditional _)))); (apply ArgsV.nil)); (exact m_laws_eqConditionalS r5 r3 _ hr11); rfl; rfl; rfl); rfl; rfl
  apply Run.op; (apply L_not; rfl; rfl); rfl; rfl
  apply Run.op; (apply L_pickF; rfl; rfl; rfl); rfl; rfl
  apply Run.done; refine ⟨fun h => Bool.noConfusion h, ?_⟩
  obtain rfl := Option.some.inj H
  refine Ev.y4 ?_
  refine XEnv.mk ?_
  refine Ent.list [] (io0 hio _) rfl ?_ ?_ <;> (repeat' first | exact trivial | (refine And.intro ⟨_, rfl, fun h => (by first | rfl | exact Bool.noConfusion h)⟩ ?_))
  intro e E' hX; obtain ⟨rfl, g14⟩ := XEnv.out hX
  apply x3
  refine CodeT.weak g14 ?_
  (repeat apply CodeT.seq)
  refine CodeT.cond rfl (fun h => ?_) (fun h => ?_)
  replace H := ifTb h H
  (repeat apply CodeT.seq)
  apply CodeT.region (fun _ => PPm)
  apply Run.op; (apply L_asg; rfl; rfl); rfl; rfl
  apply Run.done; refine ⟨fun h => Bool.noConfusion h, ?_⟩
  apply x3
  apply CodeT.ret
  apply x1
  cases H
  apply x12
  exact RetIs.sc1 rfl
  replace H := ifFb h H
  (repeat apply CodeT.seq)
  apply CodeT.skip
  apply x3
  (repeat apply CodeT.seq)
  apply CodeT.region (fun _ => PPm)
  apply Run.op; (apply L_asg; rfl; rfl); rfl; rfl
  apply Run.done; refine ⟨fun h => Bool.noConfusion h, ?_⟩
  apply x3
  (repeat apply CodeT.seq)
  refine CodeT.weak (Ent.sleepO 1 rfl rfl) ?_
  refine CodeT.weak (E' := ⟨[(1, ⟨.ptr 1 0, false⟩), (4, ⟨.ref 504 5 0 r3.length, false⟩), (6, ⟨.ref 506 5 0 r5.length, false⟩), (8, ⟨.sc (.int .i64 1), false⟩)], [(1, some ⟨[.sc w0_0], true, false⟩), (504, some ⟨r3.flatMap encWConditional, true, false⟩), (506, some ⟨r5.flatMap encWConditional, true, false⟩)]⟩) ?_ ?_
  refine Ent.list [] (io0 hio _) rfl ?_ ?_ <;> (repeat' first | exact trivial | (refine And.intro ⟨_, rfl, fun h => (by first | rfl | exact Bool.noConfusion h)⟩ ?_))
  apply CodeT.region (fun _ => PPm)
  apply Run.op; (apply L_mov; rfl; rfl); rfl; rfl
  apply Run.op; (apply L_mov; rfl; rfl); rfl; rfl
  obtain ⟨r15, hr15, H⟩ := bindS H
  have hl16 := len_laws_markConditionalS r5 1 _ hr15
  apply Run.op; (apply L_callN (l := 506); ((apply ArgsX.cons (l := []) (m := []); (apply ArgX.io (p := .ref 100000 5 0 r5.length); rfl)); (apply ArgsX.cons (l := []) (m := []); (apply ArgX.val; (apply ArgV.val; rfl; rfl); rfl)); (apply ArgsX.nil)); (exact m_laws_markConditionalS r5 1 _ hr15); rfl; rfl; rfl; rfl; (exact hle); rfl); rfl; rfl
  apply Run.op; (apply L_asg; rfl; rfl); rfl; rfl
  apply Run.done; refine ⟨fun h => Bool.noConfusion h, ?_⟩
  apply x3
  refine CodeT.weak (Ent.wakeO 1 (vs := [w0_0]) rfl oldl0) ?_
  (repeat apply CodeT.seq)
  refine CodeT.weak (Ent.relen (k := 6) (n' := r15.2.length) rfl (by first | (simp only [setI_len]; done) | (simp only [setI_len]; omega) | omega)) ?_
  apply CodeT.region (fun _ => PPm)
  apply Run.op; (apply L_asg; rfl; rfl); rfl; rfl
  apply Run.done; refine ⟨fun h => Bool.noConfusion h, ?_⟩
  apply x3
  (repeat apply CodeT.seq)
  apply CodeT.region (fun _ => PPm)
  apply Run.op; (apply L_mov; rfl; rfl); rfl; rfl
  apply Run.op; (apply L_mov; rfl; rfl); rfl; rfl
  obtain ⟨r17, hr17, H⟩ := bindS H
  apply Run.op; (apply L_call; ((apply ArgsV.cons; (apply ArgV.refS; rfl; rfl; (exact (SoftL.flat softConditional _)))); (apply ArgsV.cons; (apply ArgV.val; rfl; rfl)); (apply ArgsV.nil)); (exact m_laws_heldConditionalS r15.2 1 _ hr17); rfl; rfl; rfl); rfl; rfl
  apply Run.op; (apply L_asg; rfl; rfl); rfl; rfl
  apply Run.done; refine ⟨fun h => Bool.noConfusion h, ?_⟩
  apply x3
  (repeat apply CodeT.seq)
  apply CodeT.region (fun _ => PPm)
  apply Run.op; (apply L_mov; rfl; rfl); rfl; rfl
  apply Run.op; (apply L_lss; rfl; rfl; rfl); rfl; rfl
  apply Run.done; refine ⟨fun h => Bool.noConfusion h, ?_⟩
  apply x3
  (repeat apply CodeT.seq)
  refine CodeT.cond rfl (fun h => ?_) (fun h => ?_)
  replace H := ifT (of_decide_eq_true h) H
  (repeat apply CodeT.seq)
  apply CodeT.region (fun _ => PPm)
  apply Run.op; (apply L_asg; rfl; rfl); rfl; rfl
  apply Run.done; refine ⟨fun h => Bool.noConfusion h, ?_⟩
  apply x3
  apply CodeT.ret
  apply x1
  cases H
  apply x12
  exact RetIs.sc1 rfl
  replace H := ifF (of_decide_eq_false h) H
  (repeat apply CodeT.seq)
  apply CodeT.skip
  apply x3
  (repeat apply CodeT.seq)
  apply CodeT.region (fun _ => PPm)
  apply Run.op; (apply L_mov; rfl; rfl); rfl; rfl
  apply Run.op; (apply L_mov; rfl; rfl); rfl; rfl
  apply Run.op; (apply L_neq; rfl; rfl; rfl); rfl; rfl
  apply Run.done; refine ⟨fun h => Bool.noConfusion h, ?_⟩
  apply x3
  (repeat apply CodeT.seq)
  refine CodeT.cond rfl (fun h => ?_) (fun h => ?_)
  replace H := ifT (of_decide_eq_true h) H
  (repeat apply CodeT.seq)
  apply CodeT.region (fun _ => PPm)
  apply Run.op; (apply L_asg; rfl; rfl); rfl; rfl
  apply Run.done; refine ⟨fun h => Bool.noConfusion h, ?_⟩
  apply x3
  apply CodeT.ret
  apply x1
  cases H
  apply x12
  exact RetIs.sc1 rfl
  replace H := ifF (of_decide_eq_false h) H
  (repeat apply CodeT.seq)
  apply CodeT.skip
  apply x3
  (repeat apply CodeT.seq)
  apply CodeT.region (fun _ => PPm)
  apply Run.op; (apply Local.soft (p' := .agg (encTree a0)) (Soft.agg (SoftL.cons Soft.was SoftL.nil)); apply L_ldPA; rfl; rfl; rfl; rfl; (intro h; cases h); (first | exact .inl rfl | exact .inr rfl); rfl); rfl; rfl
  obtain ⟨r18, hr18, H⟩ := bindS H
  apply Run.op; (apply L_call; ((apply ArgsV.cons; (apply ArgV.val; rfl; rfl)); (apply ArgsV.nil)); (exact m_laws_toTree a0 _ hr18); rfl; rfl; rfl); rfl; rfl
  obtain ⟨r19, hr19, H⟩ := bindS H
  apply Run.op; (apply L_callW; ((apply ArgsV.cons; (apply ArgV.valS; rfl; rfl; (exact (Soft.agg (softTree _))))); (apply ArgsV.nil)); (exact m_impl_TreeNet r18 _ hr19); (exact io1 hio _); rfl); rfl; rfl
  apply Run.op; (apply L_asg; rfl; rfl); rfl; rfl
  apply Run.done; refine ⟨fun h => Bool.noConfusion h, ?_⟩
  apply x3
  (repeat apply CodeT.seq)
  apply CodeT.region (fun _ => PPm)
  apply Run.op; (apply L_mov; rfl; rfl); rfl; rfl
  apply Run.op; (apply L_mov; rfl; rfl); rfl; rfl
  obtain ⟨r20, hr20, H⟩ := bindS H
  apply Run.op; (apply L_call; ((apply ArgsV.cons; (apply ArgV.refS; rfl; rfl; (exact (SoftL.flat softConditional _)))); (apply ArgsV.cons; (apply ArgV.refS; rfl; rfl; (exact (SoftL.flat softConditional _)))); (apply ArgsV.nil)); (exact m_laws_eqConditionalS r19 r3 _ hr20); rfl; rfl; rfl); rfl; rfl
  apply Run.op; (apply L_not; rfl; rfl); rfl; rfl
  apply Run.done; refine ⟨fun h => Bool.noConfusion h, ?_⟩
  apply x3
  (repeat apply CodeT.seq)
  refine CodeT.cond rfl (fun h => ?_) (fun h => ?_)
  replace H := ifFb (notT h) H
  (repeat apply CodeT.seq)
  apply CodeT.region (fun _ => PPm)
  apply Run.op; (apply L_asg; rfl; rfl); rfl; rfl
  apply Run.done; refine ⟨fun h => Bool.noConfusion h, ?_⟩
  apply x3
  apply CodeT.ret
  apply x1
  cases H
  apply x12
  exact RetIs.sc1 rfl
  replace H := ifTb (notF h) H
  (repeat apply CodeT.seq)
  apply CodeT.skip
  apply x3
  (repeat apply CodeT.seq)
  apply CodeT.region (fun _ => PPm)
  apply Run.op; (apply L_asg; rfl; rfl); rfl; rfl
  apply Run.done; refine ⟨fun h => Bool.noConfusion h, ?_⟩
  apply x3
  (repeat apply CodeT.seq)
  apply CodeT.region (fun _ => PPm)
  apply Run.op; (apply L_mov; rfl; rfl); rfl; rfl
  apply Run.op; (apply L_mov; rfl; rfl); rfl; rfl
  obtain ⟨r21, hr21, H⟩ := bindS H
  apply Run.op; (apply L_call; ((apply ArgsV.cons; (apply ArgV.refS; rfl; rfl; (exact (SoftL.flat softConditional _)))); (apply ArgsV.cons; (apply ArgV.val; rfl; rfl)); (apply ArgsV.nil)); (exact m_laws_heldConditionalS r15.2 1 _ hr21); rfl; rfl; rfl); rfl; rfl
  apply Run.op; (apply L_asg; rfl; rfl); rfl; rfl
  apply Run.done; refine ⟨fun h => Bool.noConfusion h, ?_⟩
  apply x3
  (repeat apply CodeT.seq)
  apply CodeT.region (fun _ => PPm)
  apply Run.op; (apply L_mov; rfl; rfl); rfl; rfl
  apply Run.op; (apply L_lss; rfl; rfl; rfl); rfl; rfl
  apply Run.done; refine ⟨fun h => Bool.noConfusion h, ?_⟩
  apply x3
  (repeat apply CodeT.seq)
  refine CodeT.cond rfl (fun h => ?_) (fun h => ?_)
  replace H := ifT (of_decide_eq_true h) H
  (repeat apply CodeT.seq)
  apply CodeT.region (fun _ => PPm)
  apply Run.op; (apply L_asg; rfl; rfl); rfl; rfl
  apply Run.done; refine ⟨fun h => Bool.noConfusion h, ?_⟩
  apply x3
  apply CodeT.ret
  apply x1
  cases H
  apply x12
  exact RetIs.sc1 rfl
  replace H := ifF (of_decide_eq_false h) H
  (repeat apply CodeT.seq)
  apply CodeT.skip
  apply x3
  (repeat apply CodeT.seq)
  apply CodeT.region (fun _ => PPm)
  apply Run.op; (apply L_mov; rfl; rfl); rfl; rfl
  apply Run.op; (apply L_mov; rfl; rfl); rfl; rfl
  apply Run.op; (apply L_neq; rfl; rfl; rfl); rfl; rfl
  apply Run.done; refine ⟨fun h => Bool.noConfusion h, ?_⟩
  apply x3
  (repeat apply CodeT.seq)
  refine CodeT.cond rfl (fun h => ?_) (fun h => ?_)
  replace H := ifT (of_decide_eq_true h) H
  (repeat apply CodeT.seq)
  apply CodeT.region (fun _ => PPm)
  apply Run.op; (apply L_asg; rfl; rfl); rfl; rfl
  apply Run.done; refine ⟨fun h => Bool.noConfusion h, ?_⟩
  apply x3
  apply CodeT.ret
  apply x1
  cases H
  apply x12
  exact RetIs.sc1 rfl
  replace H := ifF (of_decide_eq_false h) H
  (repeat apply CodeT.seq)
  apply CodeT.skip
  apply x3
  (repeat apply CodeT.seq)
  apply CodeT.region (fun _ => PPm)
  apply Run.op; (apply L_asg; rfl; rfl); rfl; rfl
  apply Run.done; refine ⟨fun h => Bool.noConfusion h, ?_⟩
  apply x3
  apply CodeT.ret
  cases H
  apply x12
  exact RetIs.sc1 rfl
end Go.Ev
