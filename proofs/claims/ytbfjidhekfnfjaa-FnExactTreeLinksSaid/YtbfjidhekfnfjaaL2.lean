/- The walks of lifted functions, printed by program (lift.py). -/
import Derived.Test.YtbfjidhekfnfjaaL1
set_option linter.all false
namespace Go.Ev
open Go.Proofs
set_option linter.all false
attribute [local irreducible] CodeT Ent Meets MeetsX Local LocalAt Res1 RetIs RetX Sim OpT StepT NoLab Then InBlock Round Cut ends endsX LRound LCut XEnv XRet XRetX XRetN MeetsN MarkC RetN RetM endsN endsM
theorem m_laws_markTreeNodeS (a0 : (List TreeNode)) (a1 : Int) (r : (Int × (List TreeNode))) (H : laws_markTreeNodeS a0 a1 = some r) : MeetsN Try.prog 95 [.ref 100000 12 0 a0.length, .sc (.int .i64 a1)] (a0.flatMap encWTreeNode) (r.2.flatMap encWTreeNode) (.sc (.int .i64 r.1)) := by
  have H0 := H; clear H
  obtain ⟨r', H, H2⟩ := bindS H0; clear H0
  obtain ⟨_, hlen, H2⟩ := bindS H2
  obtain rfl := Option.some.inj H2
  have hlen := chkS hlen
  refine MeetsN.intro (N := 116) (rs := #[.tmp 4]) Try.func95 rfl rfl rfl rfl (nil_new (l := 0) (sz := 12) hlen (fun _ => rfl) (by decide)) rfl ?_
  clear hlen
  intro Γ hio hle
  unfold laws_markTreeNodeS_raw at H
  (repeat apply CodeT.seq)
  apply CodeT.region (fun _ => PPm)
  apply Run.op; (apply L_asg; rfl; rfl); rfl; rfl
  apply Run.done; refine ⟨fun h => Bool.noConfusion h, ?_⟩
  apply x3
  (repeat apply CodeT.seq)
  apply CodeT.region (fun _ => PPm)
  apply Run.op; (apply L_asg; rfl; rfl); rfl; rfl
  apply Run.done; refine ⟨fun h => Bool.noConfusion h, ?_⟩
  apply x3
  (repeat apply CodeT.seq)
  apply CodeT.block
  (repeat apply CodeT.seq)
  obtain ⟨d111, hd111, H⟩ := bindS H
  refine CodeT.lloop (fun s => ⟨[(0, ⟨.ref 100000 12 0 s.2.2.length, false⟩), (1, ⟨.sc (.int .i64 s.1), false⟩), (5, ⟨.sc (.int .i64 s.2.1), false⟩)], [(100000, some ⟨s.2.2.flatMap encWTreeNode, true, false⟩)]⟩) (fun d e E => XEnv Γ (.exit 0) ⟨[(1, ⟨.sc (.int .i64 d.1), false⟩)], [(100000, some ⟨d.2.flatMap encWTreeNode, true, false⟩)]⟩ e E) hd111 ?_ ?_ ?_
  refine Ent.list [] (io0 hio _) rfl ?_ ?_ <;> (repeat' first | exact trivial | (refine And.intro ⟨_, rfl, fun h => (by first | rfl | exact Bool.noConfusion h)⟩ ?_))
  clear H hd111
  rintro ⟨v54, v55, v56⟩ o H
  unfold laws_markTreeNodeS_L1 at H
  (repeat apply CodeT.seq)
  apply CodeT.region (fun _ => PPm)
  apply Run.op; (apply L_mov; rfl; rfl); rfl; rfl
  apply Run.op; (apply L_mov; rfl; rfl); rfl; rfl
  apply Run.op; (apply L_lenR; rfl; rfl; rfl); rfl; rfl
  apply Run.op; (apply L_lss; rfl; rfl; rfl); rfl; rfl
  apply Run.done; refine ⟨fun h => Bool.noConfusion h, ?_⟩
  apply x3
  (repeat apply CodeT.seq)
  refine CodeT.cond rfl (fun h => ?_) (fun h => ?_)
  replace H := ifT (of_decide_eq_true h) H
  (repeat apply CodeT.seq)
  apply CodeT.skip
  apply x3
  (repeat apply CodeT.seq)
  apply CodeT.block
  (repeat apply CodeT.seq)
  apply CodeT.region (fun _ => PPm)
  apply Run.op; (apply L_mov; rfl; rfl); rfl; rfl
  apply Run.op; (apply L_mov; rfl; rfl); rfl; rfl
  apply Run.op; (apply L_mov; rfl; rfl); rfl; rfl
  obtain ⟨y57, hy57, H⟩ := bindS H
  apply Run.op; (apply L_ixR2; rfl; rfl; rfl; (exact hy57); rfl; rfl); rfl; rfl
  apply Run.op; (apply L_fldP; rfl; rfl; (exact row_pos (sz := 12) hy57 (fun _ => rfl) (by decide)); rfl); rfl; rfl
  obtain ⟨v58, hv58, H⟩ := bindS H
  have hl59 := setI_lenS hv58
  apply Run.op; (apply L_st; rfl; rfl; rfl; rfl; rfl; (intro h; cases h); (exact row_ble (sz := 12) (o := 0) (n := 1) hy57 (fun _ => rfl) (by decide)); (exact row_fldL (sz := 12) (o := 0) (n := 1) hv58 hy57 (fun _ => rfl) (by decide) rfl)); rfl; rfl
  apply Run.done; refine ⟨fun h => Bool.noConfusion h, ?_⟩
  apply x3
  (repeat apply CodeT.seq)
  refine CodeT.weak (Ent.relen (k := 0) (n' := v58.length) rfl (by first | (simp only [setI_len]; done) | (simp only [setI_len]; omega) | omega)) ?_
  apply CodeT.region (fun _ => PPm)
  apply Run.op; (apply L_mov; rfl; rfl); rfl; rfl
  apply Run.op; (apply L_add; rfl; rfl; rfl; rfl); rfl; rfl
  apply Run.op; (apply L_asg; rfl; rfl); rfl; rfl
  apply Run.done; refine ⟨fun h => Bool.noConfusion h, ?_⟩
  apply x3
  (repeat apply CodeT.seq)
  apply CodeT.region (fun _ => PPm)
  apply Run.op; (apply L_mov; rfl; rfl); rfl; rfl
  apply Run.op; (apply L_mov; rfl; rfl); rfl; rfl
  apply Run.op; (apply L_mov; rfl; rfl); rfl; rfl
  obtain ⟨y60, hy60, H⟩ := bindS H
  apply Run.op; (apply L_ixR2; rfl; rfl; rfl; (exact hy60); rfl; rfl); rfl; rfl
  apply Run.op; (apply L_fldP; rfl; rfl; (exact row_pos (sz := 12) hy60 (fun _ => rfl) (by decide)); rfl); rfl; rfl
  obtain ⟨v61, hv61, H⟩ := bindS H
  have hl62 := setI_lenS hv61
  apply Run.op; (apply L_st; rfl; rfl; rfl; rfl; rfl; (intro h; cases h); (exact row_ble (sz := 12) (o := 1) (n := 1) hy60 (fun _ => rfl) (by decide)); (exact row_fldL (sz := 12) (o := 1) (n := 1) hv61 hy60 (fun _ => rfl) (by decide) rfl)); rfl; rfl
  apply Run.done; refine ⟨fun h => Bool.noConfusion h, ?_⟩
  apply x3
  (repeat apply CodeT.seq)
  refine CodeT.weak (Ent.relen (k := 0) (n' := v61.length) rfl (by first | (simp only [setI_len]; done) | (simp only [setI_len]; omega) | omega)) ?_
  apply CodeT.region (fun _ => PPm)
  apply Run.op; (apply L_mov; rfl; rfl); rfl; rfl
  obtain ⟨v63, hv63, H⟩ := bindS H
  apply Run.op; (apply L_add; rfl; rfl; (exact letS hv63); rfl); rfl; rfl
  apply Run.op; (apply L_asg; rfl; rfl); rfl; rfl
  apply Run.done; refine ⟨fun h => Bool.noConfusion h, ?_⟩
  apply x3
  (repeat apply CodeT.seq)
  obtain ⟨y64, hy64, H⟩ := bindS H
  refine CodeT.expose (l := 100000) (c := v55.toNat * 12 + 2) rfl (row_ld (o := 2) hy64 rfl (fun _ => rfl)) (fun wy64 => ?_)
  apply CodeT.region (fun _ => PPm)
  apply Run.op; (apply L_mov; rfl; rfl); rfl; rfl
  apply Run.op; (apply L_mov; rfl; rfl); rfl; rfl
  apply Run.op; (apply L_ixR2; rfl; rfl; rfl; (exact hy64); rfl; rfl); rfl; rfl
  apply Run.op; (apply L_fldP; rfl; rfl; (exact row_posS (sz := 12) hy64 (fun _ => rfl) (by decide)); rfl); rfl; rfl
  apply Run.op; (apply Local.forget Forg.was; apply L_ldP; rfl; rfl; (exact set_self (row_ld (o := 2) hy64 rfl (fun _ => rfl))); (exact .inr rfl); rfl); rfl; rfl
  apply Run.op; (apply L_mov; rfl; rfl); rfl; rfl
  obtain ⟨r66, hr66, H⟩ := bindS H
  apply Run.op; (apply L_callM (l := 100000) (off := v55.toNat * 12 + 2) (m := 1) (p := .rw 11 y64.fOwn.length (y64.fOwn.flatMap encWLink)) (p' := .rw 11 r66.2.length (r66.2.flatMap encWLink)); rfl; rfl; rfl; (exact set_cut (row_ld (o := 2) hy64 rfl (fun _ => rfl))); rfl; rfl; (exact MCut.one); (exact mk_laws_markLinkS y64.fOwn v63 _ hr66); (exact set_cat (row_ld (o := 2) hy64 rfl (fun _ => rfl))); (exact hle); rfl); rfl; rfl
  apply Run.op; (apply L_asg; rfl; rfl); rfl; rfl
  apply Run.done; refine ⟨fun h => Bool.noConfusion h, ?_⟩
  apply x3
  obtain ⟨v67, hv67, H⟩ := bindS H
  have hl68 := setI_lenS hv67
  refine CodeT.weak (Ent.soften (l := 100000) rfl (row_softM (sz := 12) hv67 hy64 (fun _ => rfl) (by decide) rfl)) ?_
  (repeat apply CodeT.seq)
  refine CodeT.weak (Ent.relen (k := 0) (n' := v67.length) rfl (by first | (simp only [setI_len]; done) | (simp only [setI_len]; omega) | omega)) ?_
  apply CodeT.region (fun _ => PPm)
  apply Run.op; (apply L_mov; rfl; rfl); rfl; rfl
  apply Run.op; (apply L_mov; rfl; rfl); rfl; rfl
  apply Run.op; (apply L_mov; rfl; rfl); rfl; rfl
  obtain ⟨y69, hy69, H⟩ := bindS H
  apply Run.op; (apply L_ixR2; rfl; rfl; rfl; (exact hy69); rfl; rfl); rfl; rfl
  apply Run.op; (apply L_fldP; rfl; rfl; (exact row_pos (sz := 12) hy69 (fun _ => rfl) (by decide)); rfl); rfl; rfl
  apply Run.op; (apply L_fldP; rfl; rfl; (exact row_pos (sz := 12) hy69 (fun _ => rfl) (by decide)); rfl); rfl; rfl
  obtain ⟨v70, hv70, H⟩ := bindS H
  have hl71 := setI_lenS hv70
  apply Run.op; (apply L_st; rfl; rfl; rfl; rfl; rfl; (intro h; cases h); (exact row_ble (sz := 12) (o := 3) (n := 1) hy69 (fun _ => rfl) (by decide)); (exact row_fldL (sz := 12) (o := 3) (n := 1) hv70 hy69 (fun _ => rfl) (by decide) rfl)); rfl; rfl
  apply Run.done; refine ⟨fun h => Bool.noConfusion h, ?_⟩
  apply x3
  (repeat apply CodeT.seq)
  refine CodeT.weak (Ent.relen (k := 0) (n' := v70.length) rfl (by first | (simp only [setI_len]; done) | (simp only [setI_len]; omega) | omega)) ?_
  apply CodeT.region (fun _ => PPm)
  apply Run.op; (apply L_mov; rfl; rfl); rfl; rfl
  apply Run.op; (apply L_add; rfl; rfl; rfl; rfl); rfl; rfl
  apply Run.op; (apply L_asg; rfl; rfl); rfl; rfl
  apply Run.done; refine ⟨fun h => Bool.noConfusion h, ?_⟩
  apply x3
  (repeat apply CodeT.seq)
  apply CodeT.region (fun _ => PPm)
  apply Run.op; (apply L_mov; rfl; rfl); rfl; rfl
  apply Run.op; (apply L_mov; rfl; rfl); rfl; rfl
  apply Run.op; (apply L_mov; rfl; rfl); rfl; rfl
  obtain ⟨v72, hv72, H⟩ := bindS H
  apply Run.op; (apply L_rem; rfl; rfl; (intro h; cases h); (exact letS hv72); rfl); rfl; rfl
  apply Run.op; (apply L_eql; rfl; rfl; rfl); rfl; rfl
  obtain ⟨y73, hy73, H⟩ := bindS H
  apply Run.op; (apply L_ixR2; rfl; rfl; rfl; (exact hy73); rfl; rfl); rfl; rfl
  apply Run.op; (apply L_fldP; rfl; rfl; (exact row_pos (sz := 12) hy73 (fun _ => rfl) (by decide)); rfl); rfl; rfl
  apply Run.op; (apply L_fldP; rfl; rfl; (exact row_pos (sz := 12) hy73 (fun _ => rfl) (by decide)); rfl); rfl; rfl
  apply Run.op; (apply L_fldP; rfl; rfl; (exact row_pos (sz := 12) hy73 (fun _ => rfl) (by decide)); rfl); rfl; rfl
  apply Run.op; (apply L_fldP; rfl; rfl; (exact row_pos (sz := 12) hy73 (fun _ => rfl) (by decide)); rfl); rfl; rfl
  obtain ⟨v74, hv74, H⟩ := bindS H
  have hl75 := setI_lenS hv74
  apply Run.op; (apply L_st; rfl; rfl; rfl; rfl; rfl; (intro h; cases h); (exact row_ble (sz := 12) (o := 4) (n := 1) hy73 (fun _ => rfl) (by decide)); (exact row_fldL (sz := 12) (o := 4) (n := 1) hv74 hy73 (fun _ => rfl) (by decide) rfl)); rfl; rfl
  apply Run.done; refine ⟨fun h => Bool.noConfusion h, ?_⟩
  apply x3
  (repeat apply CodeT.seq)
  refine CodeT.weak (Ent.relen (k := 0) (n' := v74.length) rfl (by first | (simp only [setI_len]; done) | (simp only [setI_len]; omega) | omega)) ?_
  apply CodeT.region (fun _ => PPm)
  apply Run.op; (apply L_mov; rfl; rfl); rfl; rfl
  obtain ⟨v76, hv76, H⟩ := bindS H
  apply Run.op; (apply L_add; rfl; rfl; (exact letS hv76); rfl); rfl; rfl
  apply Run.op; (apply L_asg; rfl; rfl); rfl; rfl
  apply Run.done; refine ⟨fun h => Bool.noConfusion h, ?_⟩
  apply x3
  (repeat apply CodeT.seq)
  obtain ⟨y77, hy77, H⟩ := bindS H
  refine CodeT.expose (l := 100000) (c := v55.toNat * 12 + 5) rfl (row_ld (o := 5) hy77 rfl (fun _ => rfl)) (fun wy77 => ?_)
  apply CodeT.region (fun _ => PPm)
  apply Run.op; (apply L_mov; rfl; rfl); rfl; rfl
  apply Run.op; (apply L_mov; rfl; rfl); rfl; rfl
  apply Run.op; (apply L_ixR2; rfl; rfl; rfl; (exact hy77); rfl; rfl); rfl; rfl
  apply Run.op; (apply L_fldP; rfl; rfl; (exact row_posS (sz := 12) hy77 (fun _ => rfl) (by decide)); rfl); rfl; rfl
  apply Run.op; (apply L_fldP; rfl; rfl; (exact row_posS (sz := 12) hy77 (fun _ => rfl) (by decide)); rfl); rfl; rfl
  apply Run.op; (apply L_fldP; rfl; rfl; (exact row_posS (sz := 12) hy77 (fun _ => rfl) (by decide)); rfl); rfl; rfl
  apply Run.op; (apply L_fldP; rfl; rfl; (exact row_posS (sz := 12) hy77 (fun _ => rfl) (by decide)); rfl); rfl; rfl
  apply Run.op; (apply Local.forget Forg.was; apply L_ldP; rfl; rfl; (exact set_self (row_ld (o := 5) hy77 rfl (fun _ => rfl))); (exact .inr rfl); rfl); rfl; rfl
  apply Run.op; (apply L_mov; rfl; rfl); rfl; rfl
  obtain ⟨r79, hr79, H⟩ := bindS H
  apply Run.op; (apply L_callM (l := 100000) (off := v55.toNat * 12 + 5) (m := 1) (p := .rw 1 y77.fCond.fTotal.fNum.fMag.length (y77.fCond.fTotal.fNum.fMag.flatMap (encI .i64))) (p' := .rw 1 r79.2.length (r79.2.flatMap (encI .i64))); rfl; rfl; rfl; (exact set_cut (row_ld (o := 5) hy77 rfl (fun _ => rfl))); rfl; rfl; (exact MCut.one); (exact mk_laws_markIntS y77.fCond.fTotal.fNum.fMag v76 _ hr79); (exact set_cat (row_ld (o := 5) hy77 rfl (fun _ => rfl))); (exact hle); rfl); rfl; rfl
  apply Run.op; (apply L_asg; rfl; rfl); rfl; rfl
  apply Run.done; refine ⟨fun h => Bool.noConfusion h, ?_⟩
  apply x3
  obtain ⟨v80, hv80, H⟩ := bindS H
  have hl81 := setI_lenS hv80
  refine CodeT.weak (Ent.soften (l := 100000) rfl (row_softM (sz := 12) hv80 hy77 (fun _ => rfl) (by decide) rfl)) ?_
  (repeat apply CodeT.seq)
  refine CodeT.weak (Ent.relen (k := 0) (n' := v80.length) rfl (by first | (simp only [setI_len]; done) | (simp only [setI_len]; omega) | omega)) ?_
  obtain ⟨y82, hy82, H⟩ := bindS H
  refine CodeT.expose (l := 100000) (c := v55.toNat * 12 + 6) rfl (row_ld (o := 6) hy82 rfl (fun _ => rfl)) (fun wy82 => ?_)
  apply CodeT.region (fun _ => PPm)
  apply Run.op; (apply L_mov; rfl; rfl); rfl; rfl
  apply Run.op; (apply L_mov; rfl; rfl); rfl; rfl
  apply Run.op; (apply L_ixR2; rfl; rfl; rfl; (exact hy82); rfl; rfl); rfl; rfl
  apply Run.op; (apply L_fldP; rfl; rfl; (exact row_posS (sz := 12) hy82 (fun _ => rfl) (by decide)); rfl); rfl; rfl
  apply Run.op; (apply L_fldP; rfl; rfl; (exact row_posS (sz := 12) hy82 (fun _ => rfl) (by decide)); rfl); rfl; rfl
  apply Run.op; (apply L_fldP; rfl; rfl; (exact row_posS (sz := 12) hy82 (fun _ => rfl) (by decide)); rfl); rfl; rfl
  apply Run.op; (apply Local.forget Forg.was; apply L_ldP; rfl; rfl; (exact set_self (row_ld (o := 6) hy82 rfl (fun _ => rfl))); (exact .inr rfl); rfl); rfl; rfl
  apply Run.op; (apply L_mov; rfl; rfl); rfl; rfl
  obtain ⟨r84, hr84, H⟩ := bindS H
  apply Run.op; (apply L_callM (l := 100000) (off := v55.toNat * 12 + 6) (m := 1) (p := .rw 1 y82.fCond.fTotal.fDen.length (y82.fCond.fTotal.fDen.flatMap (encI .i64))) (p' := .rw 1 r84.2.length (r84.2.flatMap (encI .i64))); rfl; rfl; rfl; (exact set_cut (row_ld (o := 6) hy82 rfl (fun _ => rfl))); rfl; rfl; (exact MCut.one); (exact mk_laws_markIntS y82.fCond.fTotal.fDen r79.1 _ hr84); (exact set_cat (row_ld (o := 6) hy82 rfl (fun _ => rfl))); (exact hle); rfl); rfl; rfl
  apply Run.op; (apply L_asg; rfl; rfl); rfl; rfl
  apply Run.done; refine ⟨fun h => Bool.noConfusion h, ?_⟩
  apply x3
  obtain ⟨v85, hv85, H⟩ := bindS H
  have hl86 := setI_lenS hv85
  refine CodeT.weak (Ent.soften (l := 100000) rfl (row_softM (sz := 12) hv85 hy82 (fun _ => rfl) (by decide) rfl)) ?_
  (repeat apply CodeT.seq)
  refine CodeT.weak (Ent.relen (k := 0) (n' := v85.length) rfl (by first | (simp only [setI_len]; done) | (simp only [setI_len]; omega) | omega)) ?_
  obtain ⟨y87, hy87, H⟩ := bindS H
  refine CodeT.expose (l := 100000) (c := v55.toNat * 12 + 7) rfl (row_ld (o := 7) hy87 rfl (fun _ => rfl)) (fun wy87 => ?_)
  apply CodeT.region (fun _ => PPm)
  apply Run.op; (apply L_mov; rfl; rfl); rfl; rfl
  apply Run.op; (apply L_mov; rfl; rfl); rfl; rfl
  apply Run.op; (apply L_ixR2; rfl; rfl; rfl; (exact hy87); rfl; rfl); rfl; rfl
  apply Run.op; (apply L_fldP; rfl; rfl; (exact row_posS (sz := 12) hy87 (fun _ => rfl) (by decide)); rfl); rfl; rfl
  apply Run.op; (apply L_fldP; rfl; rfl; (exact row_posS (sz := 12) hy87 (fun _ => rfl) (by decide)); rfl); rfl; rfl
  apply Run.op; (apply Local.forget Forg.was; apply L_ldP; rfl; rfl; (exact set_self (row_ld (o := 7) hy87 rfl (fun _ => rfl))); (exact .inr rfl); rfl); rfl; rfl
  apply Run.op; (apply L_mov; rfl; rfl); rfl; rfl
  obtain ⟨r89, hr89, H⟩ := bindS H
  apply Run.op; (apply L_callM (l := 100000) (off := v55.toNat * 12 + 7) (m := 1) (p := .rw 10 y87.fCond.fParents.length (y87.fCond.fParents.flatMap encWParent)) (p' := .rw 10 r89.2.length (r89.2.flatMap encWParent)); rfl; rfl; rfl; (exact set_cut (row_ld (o := 7) hy87 rfl (fun _ => rfl))); rfl; rfl; (exact MCut.one); (exact mk_laws_markParentS y87.fCond.fParents r84.1 _ hr89); (exact set_cat (row_ld (o := 7) hy87 rfl (fun _ => rfl))); (exact hle); rfl); rfl; rfl
  apply Run.op; (apply L_asg; rfl; rfl); rfl; rfl
  apply Run.done; refine ⟨fun h => Bool.noConfusion h, ?_⟩
  apply x3
  obtain ⟨v90, hv90, H⟩ := bindS H
  have hl91 := setI_lenS hv90
  refine CodeT.weak (Ent.soften (l := 100000) rfl (row_softM (sz := 12) hv90 hy87 (fun _ => rfl) (by decide) rfl)) ?_
  (repeat apply CodeT.seq)
  refine CodeT.weak (Ent.relen (k := 0) (n' := v90.length) rfl (by first | (simp only [setI_len]; done) | (simp only [setI_len]; omega) | omega)) ?_
  obtain ⟨y92, hy92, H⟩ := bindS H
  refine CodeT.expose (l := 100000) (c := v55.toNat * 12 + 8) rfl (row_ld (o := 8) hy92 rfl (fun _ => rfl)) (fun wy92 => ?_)
  apply CodeT.region (fun _ => PPm)
  apply Run.op; (apply L_mov; rfl; rfl); rfl; rfl
  apply Run.op; (apply L_mov; rfl; rfl); rfl; rfl
  apply Run.op; (apply L_ixR2; rfl; rfl; rfl; (exact hy92); rfl; rfl); rfl; rfl
  apply Run.op; (apply L_fldP; rfl; rfl; (exact row_posS (sz := 12) hy92 (fun _ => rfl) (by decide)); rfl); rfl; rfl
  apply Run.op; (apply Local.forget Forg.was; apply L_ldP; rfl; rfl; (exact set_self (row_ld (o := 8) hy92 rfl (fun _ => rfl))); (exact .inr rfl); rfl); rfl; rfl
  apply Run.op; (apply L_mov; rfl; rfl); rfl; rfl
  obtain ⟨r94, hr94, H⟩ := bindS H
  apply Run.op; (apply L_callM (l := 100000) (off := v55.toNat * 12 + 8) (m := 1) (p := .rw 11 y92.fMessages.length (y92.fMessages.flatMap encWLink)) (p' := .rw 11 r94.2.length (r94.2.flatMap encWLink)); rfl; rfl; rfl; (exact set_cut (row_ld (o := 8) hy92 rfl (fun _ => rfl))); rfl; rfl; (exact MCut.one); (exact mk_laws_markLinkS y92.fMessages r89.1 _ hr94); (exact set_cat (row_ld (o := 8) hy92 rfl (fun _ => rfl))); (exact hle); rfl); rfl; rfl
  apply Run.op; (apply L_asg; rfl; rfl); rfl; rfl
  apply Run.done; refine ⟨fun h => Bool.noConfusion h, ?_⟩
  apply x3
  obtain ⟨v95, hv95, H⟩ := bindS H
  have hl96 := setI_lenS hv95
  refine CodeT.weak (Ent.soften (l := 100000) rfl (row_softM (sz := 12) hv95 hy92 (fun _ => rfl) (by decide) rfl)) ?_
  (repeat apply CodeT.seq)
  refine CodeT.weak (Ent.relen (k := 0) (n' := v95.length) rfl (by first | (simp only [setI_len]; done) | (simp only [setI_len]; omega) | omega)) ?_
  apply CodeT.region (fun _ => PPm)
  apply Run.op; (apply L_mov; rfl; rfl); rfl; rfl
  apply Run.op; (apply L_mov; rfl; rfl); rfl; rfl
  apply Run.op; (apply L_mov; rfl; rfl); rfl; rfl
  apply Run.op; (apply L_rem; rfl; rfl; (intro h; cases h); rfl; rfl); rfl; rfl
  apply Run.op; (apply L_eql; rfl; rfl; rfl); rfl; rfl
  obtain ⟨y97, hy97, H⟩ := bindS H
  apply Run.op; (apply L_ixR2; rfl; rfl; rfl; (exact hy97); rfl; rfl); rfl; rfl
  apply Run.op; (apply L_fldP; rfl; rfl; (exact row_pos (sz := 12) hy97 (fun _ => rfl) (by decide)); rfl); rfl; rfl
  apply Run.op; (apply L_fldP; rfl; rfl; (exact row_pos (sz := 12) hy97 (fun _ => rfl) (by decide)); rfl); rfl; rfl
  apply Run.op; (apply L_fldP; rfl; rfl; (exact row_pos (sz := 12) hy97 (fun _ => rfl) (by decide)); rfl); rfl; rfl
  obtain ⟨v98, hv98, H⟩ := bindS H
  have hl99 := setI_lenS hv98
  apply Run.op; (apply L_st; rfl; rfl; rfl; rfl; rfl; (intro h; cases h); (exact row_ble (sz := 12) (o := 9) (n := 1) hy97 (fun _ => rfl) (by decide)); (exact row_fldL (sz := 12) (o := 9) (n := 1) hv98 hy97 (fun _ => rfl) (by decide) rfl)); rfl; rfl
  apply Run.done; refine ⟨fun h => Bool.noConfusion h, ?_⟩
  apply x3
  (repeat apply CodeT.seq)
  refine CodeT.weak (Ent.relen (k := 0) (n' := v98.length) rfl (by first | (simp only [setI_len]; done) | (simp only [setI_len]; omega) | omega)) ?_
  apply CodeT.region (fun _ => PPm)
  apply Run.op; (apply L_mov; rfl; rfl); rfl; rfl
  apply Run.op; (apply L_add; rfl; rfl; rfl; rfl); rfl; rfl
  apply Run.op; (apply L_asg; rfl; rfl); rfl; rfl
  apply Run.done; refine ⟨fun h => Bool.noConfusion h, ?_⟩
  apply x3
  (repeat apply CodeT.seq)
  obtain ⟨y100, hy100, H⟩ := bindS H
  refine CodeT.expose (l := 100000) (c := v55.toNat * 12 + 10) rfl (row_ld (o := 10) hy100 rfl (fun _ => rfl)) (fun wy100 => ?_)
  apply CodeT.region (fun _ => PPm)
  apply Run.op; (apply L_mov; rfl; rfl); rfl; rfl
  apply Run.op; (apply L_mov; rfl; rfl); rfl; rfl
  apply Run.op; (apply L_ixR2; rfl; rfl; rfl; (exact hy100); rfl; rfl); rfl; rfl
  apply Run.op; (apply L_fldP; rfl; rfl; (exact row_posS (sz := 12) hy100 (fun _ => rfl) (by decide)); rfl); rfl; rfl
  apply Run.op; (apply L_fldP; rfl; rfl; (exact row_posS (sz := 12) hy100 (fun _ => rfl) (by decide)); rfl); rfl; rfl
  apply Run.op; (apply L_fldP; rfl; rfl; (exact row_posS (sz := 12) hy100 (fun _ => rfl) (by decide)); rfl); rfl; rfl
  apply Run.op; (apply Local.forget Forg.was; apply L_ldP; rfl; rfl; (exact set_self (row_ld (o := 10) hy100 rfl (fun _ => rfl))); (exact .inr rfl); rfl); rfl; rfl
  apply Run.op; (apply L_mov; rfl; rfl); rfl; rfl
  obtain ⟨r102, hr102, H⟩ := bindS H
  apply Run.op; (apply L_callM (l := 100000) (off := v55.toNat * 12 + 10) (m := 1) (p := .rw 1 y100.fEnergy.fNum.fMag.length (y100.fEnergy.fNum.fMag.flatMap (encI .i64))) (p' := .rw 1 r102.2.length (r102.2.flatMap (encI .i64))); rfl; rfl; rfl; (exact set_cut (row_ld (o := 10) hy100 rfl (fun _ => rfl))); rfl; rfl; (exact MCut.one); (exact mk_laws_markIntS y100.fEnergy.fNum.fMag (IntKind.i64.wrap (r94.1 + 1)) _ hr102); (exact set_cat (row_ld (o := 10) hy100 rfl (fun _ => rfl))); (exact hle); rfl); rfl; rfl
  apply Run.op; (apply L_asg; rfl; rfl); rfl; rfl
  apply Run.done; refine ⟨fun h => Bool.noConfusion h, ?_⟩
  apply x3
  obtain ⟨v103, hv103, H⟩ := bindS H
  have hl104 := setI_lenS hv103
  refine CodeT.weak (Ent.soften (l := 100000) rfl (row_softM (sz := 12) hv103 hy100 (fun _ => rfl) (by decide) rfl)) ?_
  refine CodeT.weak (Ent.relen (k := 0) (n' := v103.length) rfl (by first | (simp only [setI_len]; done) | (simp only [setI_len]; omega) | omega)) ?_
  obtain ⟨y105, hy105, H⟩ := bindS H
  refine CodeT.expose (l := 100000) (c := v55.toNat * 12 + 11) rfl (row_ld (o := 11) hy105 rfl (fun _ => rfl)) (fun wy105 => ?_)
  apply CodeT.region (fun _ => PPm)
  apply Run.op; (apply L_mov; rfl; rfl); rfl; rfl
  apply Run.op; (apply L_mov; rfl; rfl); rfl; rfl
  apply Run.op; (apply L_ixR2; rfl; rfl; rfl; (exact hy105); rfl; rfl); rfl; rfl
  apply Run.op; (apply L_fldP; rfl; rfl; (exact row_posS (sz := 12) hy105 (fun _ => rfl) (by decide)); rfl); rfl; rfl
  apply Run.op; (apply L_fldP; rfl; rfl; (exact row_posS (sz := 12) hy105 (fun _ => rfl) (by decide)); rfl); rfl; rfl
  apply Run.op; (apply Local.forget Forg.was; apply L_ldP; rfl; rfl; (exact set_self (row_ld (o := 11) hy105 rfl (fun _ => rfl))); (exact .inr rfl); rfl); rfl; rfl
  apply Run.op; (apply L_mov; rfl; rfl); rfl; rfl
  obtain ⟨r107, hr107, H⟩ := bindS H
  apply Run.op; (apply L_callM (l := 100000) (off := v55.toNat * 12 + 11) (m := 1) (p := .rw 1 y105.fEnergy.fDen.length (y105.fEnergy.fDen.flatMap (encI .i64))) (p' := .rw 1 r107.2.length (r107.2.flatMap (encI .i64))); rfl; rfl; rfl; (exact set_cut (row_ld (o := 11) hy105 rfl (fun _ => rfl))); rfl; rfl; (exact MCut.one); (exact mk_laws_markIntS y105.fEnergy.fDen r102.1 _ hr107); (exact set_cat (row_ld (o := 11) hy105 rfl (fun _ => rfl))); (exact hle); rfl); rfl; rfl
  apply Run.op; (apply L_asg; rfl; rfl); rfl; rfl
  apply Run.done; refine ⟨fun h => Bool.noConfusion h, ?_⟩
  apply x5
  apply x3
  obtain ⟨v108, hv108, H⟩ := bindS H
  have hl109 := setI_lenS hv108
  refine CodeT.weak (Ent.soften (l := 100000) rfl (row_softM (sz := 12) hv108 hy105 (fun _ => rfl) (by decide) rfl)) ?_
  refine CodeT.weak (Ent.relen (k := 0) (n' := v108.length) rfl (by first | (simp only [setI_len]; done) | (simp only [setI_len]; omega) | omega)) ?_
  apply CodeT.region (fun _ => PPm)
  apply Run.op; (apply L_mov; rfl; rfl); rfl; rfl
  apply Run.op; (apply L_add; rfl; rfl; rfl; rfl); rfl; rfl
  apply Run.op; (apply L_asg; rfl; rfl); rfl; rfl
  apply Run.done; refine ⟨fun h => Bool.noConfusion h, ?_⟩
  obtain rfl := Option.some.inj H
  refine Ev.y1 ?_
  refine Ent.list [] (io0 hio _) rfl ?_ ?_ <;> (repeat' first | exact trivial | (refine And.intro ⟨_, rfl, fun h => (by first | rfl | exact Bool.noConfusion h)⟩ ?_))
  replace H := ifF (of_decide_eq_false h) H
  (repeat apply CodeT.seq)
  apply CodeT.exit
  apply x2
  obtain rfl := Option.some.inj H
  refine Ev.y3 ?_
  refine XEnv.mk ?_
  refine Ent.list [] (io0 hio _) rfl ?_ ?_ <;> (repeat' first | exact trivial | (refine And.intro ⟨_, rfl, fun h => (by first | rfl | exact Bool.noConfusion h)⟩ ?_))
  skip
  intro e E' hX; obtain ⟨rfl, g112⟩ := XEnv.out hX
  refine x6 rfl ?_
  apply x3
  refine CodeT.weak g112 ?_
  (repeat apply CodeT.seq)
  apply CodeT.region (fun _ => PPm)
  apply Run.op; (apply L_mov; rfl; rfl); rfl; rfl
  apply Run.op; (apply L_asg; rfl; rfl); rfl; rfl
  apply Run.done; refine ⟨fun h => Bool.noConfusion h, ?_⟩
  apply x3
  apply CodeT.ret
  cases H
  apply zn2
  exact RetN.mk (RetIs.sc1 rfl) rfl
theorem mk_laws_markTreeNodeS (a0 : (List TreeNode)) (a1 : Int) (r : (Int × (List TreeNode))) (H : laws_markTreeNodeS a0 a1 = some r) : MarkC Try.prog 95 (.rw 12 a0.length (a0.flatMap encWTreeNode)) (.rw 12 r.2.length (r.2.flatMap encWTreeNode)) (.int .i64 a1) (.int .i64 r.1) := by
  have h := m_laws_markTreeNodeS a0 a1 r H
  have hl := len_laws_markTreeNodeS a0 a1 r H
  rw [hl]; exact MarkC.ofN h
theorem mk_laws_markTree (a0 : Tree) (a1 : Int) (r : (Int × Tree)) (H : laws_markTree a0 a1 = some r) : MarkC Try.prog 45 (.agg (encWTree a0)) (.agg (encWTree r.2)) (.int .i64 a1) (.int .i64 r.1) := by
  refine MarkC.introS (N := 10) (rs := #[.tmp 4]) Try.func45 rfl rfl rfl rfl rfl rfl ?_
  intro Γ vs hvs hio hle
  have hvs : vs.length = 1 := hvs
  obtain ⟨u0, vs1, rfl, hv1⟩ := lenS hvs
  obtain rfl := len0 hv1
  unfold laws_markTree at H
  (repeat apply CodeT.seq)
  apply CodeT.region (fun _ => PPm)
  apply Run.op; (apply L_boxT; rfl; rfl; rfl; (exact io1 hio _); rfl); rfl; rfl
  apply Run.op; (apply L_asg; rfl; rfl); rfl; rfl
  apply Run.done; refine ⟨fun h => Bool.noConfusion h, ?_⟩
  apply x3
  (repeat apply CodeT.seq)
  apply CodeT.region (fun _ => PPm)
  apply Run.op; (apply L_fldP; rfl; rfl; rfl; rfl); rfl; rfl
  apply Run.op; (apply Local.forget Forg.was; apply L_ldP; rfl; rfl; rfl; (exact .inr rfl); rfl); rfl; rfl
  apply Run.op; (apply L_mov; rfl; rfl); rfl; rfl
  obtain ⟨r1, hr1, H⟩ := bindS H
  apply Run.op; (apply L_callM (l := 2) (off := 0) (m := 1) (p := .rw 12 a0.fNodes.length (a0.fNodes.flatMap encWTreeNode)) (p' := .rw 12 r1.2.length (r1.2.flatMap encWTreeNode)) (cells' := [.was u0 (.rw 12 r1.2.length (r1.2.flatMap encWTreeNode))]); rfl; rfl; rfl; rfl; rfl; rfl; (exact MCut.one); (exact mk_laws_markTreeNodeS a0.fNodes a1 _ hr1); rfl; (exact hle); rfl); rfl; rfl
  apply Run.op; (apply L_asg; rfl; rfl); rfl; rfl
  apply Run.done; refine ⟨fun h => Bool.noConfusion h, ?_⟩
  apply x3
  (repeat apply CodeT.seq)
  apply CodeT.region (fun _ => PPm)
  apply Run.op; (apply L_mov; rfl; rfl); rfl; rfl
  apply Run.op; (apply L_asg; rfl; rfl); rfl; rfl
  apply Run.done; refine ⟨fun h => Bool.noConfusion h, ?_⟩
  apply x3
  apply CodeT.ret
  cases H
  apply zm2
  exact RetM.mk 2 (RetIs.sc1 rfl) rfl
theorem m_laws_heldIntS (a0 : (List Int)) (a1 : Int) (r : Int) (H : laws_heldIntS a0 a1 = some r) : Meets Try.prog 22 [.sl a0.length (a0.flatMap (encI .i64)), .sc (.int .i64 a1)] (.sc (.int .i64 r)) true := by
  refine Meets.intro2 (N := 21) (rs := #[.tmp 4]) Try.func22 rfl rfl rfl rfl ?_
  intro Γ hio
  unfold laws_heldIntS at H
  (repeat apply CodeT.seq)
  apply CodeT.region (fun _ => PPm)
  apply Run.op; (apply L_asg; rfl; rfl); rfl; rfl
  apply Run.done; refine ⟨fun h => Bool.noConfusion h, ?_⟩
  apply x3
  (repeat apply CodeT.seq)
  apply CodeT.region (fun _ => PPm)
  apply Run.op; (apply L_asg; rfl; rfl); rfl; rfl
  apply Run.done; refine ⟨fun h => Bool.noConfusion h, ?_⟩
  apply x3
  (repeat apply CodeT.seq)
  apply CodeT.block
  (repeat apply CodeT.seq)
  obtain ⟨d5, hd5, H⟩ := bindS H
  refine CodeT.lloop (fun s => ⟨[(0, ⟨.sl a0.length (a0.flatMap (encI .i64)), false⟩), (1, ⟨.sc (.int .i64 s.1), false⟩), (5, ⟨.sc (.int .i64 s.2), false⟩)], []⟩) (fun x e E => match x with | (.inl d) => XEnv Γ (.exit 0) ⟨[(1, ⟨.sc (.int .i64 d), false⟩)], []⟩ e E | (.inr d) => XRet Γ #[.tmp 4] (.sc (.int .i64 d)) true e E) hd5 ?_ ?_ ?_
  refine Ent.list [] (io0 hio _) rfl ?_ ?_ <;> (repeat' first | exact trivial | (refine And.intro ⟨_, rfl, fun h => (by first | rfl | exact Bool.noConfusion h)⟩ ?_))
  clear H hd5
  rintro ⟨v2, v3⟩ o H
  unfold laws_heldIntS_L1 at H
  (repeat apply CodeT.seq)
  apply CodeT.region (fun _ => PPm)
  apply Run.op; (apply L_mov; rfl; rfl); rfl; rfl
  apply Run.op; (apply L_mov; rfl; rfl); rfl; rfl
  apply Run.op; (apply L_len; rfl; rfl); rfl; rfl
  apply Run.op; (apply L_lss; rfl; rfl; rfl); rfl; rfl
  apply Run.done; refine ⟨fun h => Bool.noConfusion h, ?_⟩
  apply x3
  (repeat apply CodeT.seq)
  refine CodeT.cond rfl (fun h => ?_) (fun h => ?_)
  replace H := ifT (of_decide_eq_true h) H
  (repeat apply CodeT.seq)
  apply CodeT.skip
  apply x3
  (repeat apply CodeT.seq)
  apply CodeT.block
  (repeat apply CodeT.seq)
  apply CodeT.region (fun _ => PPm)
  apply Run.op; (apply L_mov; rfl; rfl); rfl; rfl
  apply Run.op; (apply L_mov; rfl; rfl); rfl; rfl
  obtain ⟨y4, hy4, H⟩ := bindS H
  apply Run.op; (apply L_ixS2; rfl; rfl; rfl; (exact hy4); (intro _; rfl); rfl); rfl; rfl
  apply Run.op; (apply L_ldI; rfl; rfl; rfl; rfl); rfl; rfl
  apply Run.op; (apply L_mov; rfl; rfl); rfl; rfl
  apply Run.op; (apply L_neq; rfl; rfl; rfl); rfl; rfl
  apply Run.done; refine ⟨fun h => Bool.noConfusion h, ?_⟩
  apply x3
  (repeat apply CodeT.seq)
  refine CodeT.cond rfl (fun h => ?_) (fun h => ?_)
  replace H := ifT (of_decide_eq_true h) H
  (repeat apply CodeT.seq)
  apply CodeT.region (fun _ => PPm)
  apply Run.op; (apply L_asg; rfl; rfl); rfl; rfl
  apply Run.done; refine ⟨fun h => Bool.noConfusion h, ?_⟩
  apply x3
  apply CodeT.ret
  apply x1
  apply x4
  apply x1
  obtain rfl := Option.some.inj H
  refine Ev.y2 ?_
  refine XRet.mk ?_
  exact RetIs.sc1 rfl
  replace H := ifF (of_decide_eq_false h) H
  (repeat apply CodeT.seq)
  apply CodeT.skip
  apply x3
  apply CodeT.region (fun _ => PPm)
  apply Run.op; (apply L_mov; rfl; rfl); rfl; rfl
  apply Run.op; (apply L_add; rfl; rfl; rfl; rfl); rfl; rfl
  apply Run.op; (apply L_asg; rfl; rfl); rfl; rfl
  apply Run.done; refine ⟨fun h => Bool.noConfusion h, ?_⟩
  apply x5
  apply x3
  apply CodeT.region (fun _ => PPm)
  apply Run.op; (apply L_mov; rfl; rfl); rfl; rfl
  apply Run.op; (apply L_add; rfl; rfl; rfl; rfl); rfl; rfl
  apply Run.op; (apply L_asg; rfl; rfl); rfl; rfl
  apply Run.done; refine ⟨fun h => Bool.noConfusion h, ?_⟩
  obtain rfl := Option.some.inj H
  refine Ev.y1 ?_
  refine Ent.list [] (io0 hio _) rfl ?_ ?_ <;> (repeat' first | exact trivial | (refine And.intro ⟨_, rfl, fun h => (by first | rfl | exact Bool.noConfusion h)⟩ ?_))
  replace H := ifF (of_decide_eq_false h) H
  (repeat apply CodeT.seq)
  apply CodeT.exit
  apply x2
  obtain rfl := Option.some.inj H
  refine Ev.y3 ?_
  refine XEnv.mk ?_
  refine Ent.list [] (io0 hio _) rfl ?_ ?_ <;> (repeat' first | exact trivial | (refine And.intro ⟨_, rfl, fun h => (by first | rfl | exact Bool.noConfusion h)⟩ ?_))
  rcases d5 with (d6 | d8)
  intro e E' hX; obtain ⟨rfl, g7⟩ := XEnv.out hX
  refine x6 rfl ?_
  apply x3
  refine CodeT.weak g7 ?_
  (repeat apply CodeT.seq)
  apply CodeT.region (fun _ => PPm)
  apply Run.op; (apply L_mov; rfl; rfl); rfl; rfl
  apply Run.op; (apply L_asg; rfl; rfl); rfl; rfl
  apply Run.done; refine ⟨fun h => Bool.noConfusion h, ?_⟩
  apply x3
  apply CodeT.ret
  cases H
  apply x12
  exact RetIs.sc1 rfl
  intro e E' hX; obtain ⟨rfl, g9⟩ := XRet.out hX
  apply x4
  apply x1
  cases H
  apply x12
  exact g9
theorem m_laws_heldLinkS (a0 : (List Link)) (a1 : Int) (r : Int) (H : laws_heldLinkS a0 a1 = some r) : Meets Try.prog 47 [.sl a0.length (a0.flatMap encLink), .sc (.int .i64 a1)] (.sc (.int .i64 r)) true := by
  refine Meets.intro2 (N := 133) (rs := #[.tmp 4]) Try.func47 rfl rfl rfl rfl ?_
  intro Γ hio
  unfold laws_heldLinkS at H
  (repeat apply CodeT.seq)
  apply CodeT.region (fun _ => PPm)
  apply Run.op; (apply L_asg; rfl; rfl); rfl; rfl
  apply Run.done; refine ⟨fun h => Bool.noConfusion h, ?_⟩
  apply x3
  (repeat apply CodeT.seq)
  apply CodeT.region (fun _ => PPm)
  apply Run.op; (apply L_asg; rfl; rfl); rfl; rfl
  apply Run.done; refine ⟨fun h => Bool.noConfusion h, ?_⟩
  apply x3
  (repeat apply CodeT.seq)
  apply CodeT.block
  (repeat apply CodeT.seq)
  obtain ⟨d39, hd39, H⟩ := bindS H
  refine CodeT.lloop (fun s => ⟨[(0, ⟨.sl a0.length (a0.flatMap encLink), false⟩), (1, ⟨.sc (.int .i64 s.1), false⟩), (5, ⟨.sc (.int .i64 s.2), false⟩)], []⟩) (fun x e E => match x with | (.inl d) => XEnv Γ (.exit 0) ⟨[(1, ⟨.sc (.int .i64 d), false⟩)], []⟩ e E | (.inr d) => XRet Γ #[.tmp 4] (.sc (.int .i64 d)) true e E) hd39 ?_ ?_ ?_
  refine Ent.list [] (io0 hio _) rfl ?_ ?_ <;> (repeat' first | exact trivial | (refine And.intro ⟨_, rfl, fun h => (by first | rfl | exact Bool.noConfusion h)⟩ ?_))
  clear H hd39
  rintro ⟨v19, v20⟩ o H
  unfold laws_heldLinkS_L1 at H
  (repeat apply CodeT.seq)
  apply CodeT.region (fun _ => PPm)
  apply Run.op; (apply L_mov; rfl; rfl); rfl; rfl
  apply Run.op; (apply L_mov; rfl; rfl); rfl; rfl
  apply Run.op; (apply L_len; rfl; rfl); rfl; rfl
  apply Run.op; (apply L_lss; rfl; rfl; rfl); rfl; rfl
  apply Run.done; refine ⟨fun h => Bool.noConfusion h, ?_⟩
  apply x3
  (repeat apply CodeT.seq)
  refine CodeT.cond rfl (fun h => ?_) (fun h => ?_)
  replace H := ifT (of_decide_eq_true h) H
  (repeat apply CodeT.seq)
  apply CodeT.skip
  apply x3
  (repeat apply CodeT.seq)
  apply CodeT.block
  (repeat apply CodeT.seq)
  apply CodeT.region (fun _ => PPm)
  apply Run.op; (apply L_mov; rfl; rfl); rfl; rfl
  apply Run.op; (apply L_mov; rfl; rfl); rfl; rfl
  obtain ⟨y21, hy21, H⟩ := bindS H
  apply Run.op; (apply L_ixS2; rfl; rfl; rfl; (exact hy21); (intro _; rfl); rfl); rfl; rfl
  apply Run.op; (apply L_fldI; rfl; rfl); rfl; rfl
  apply Run.op; (apply L_ldI; rfl; rfl; rfl; rfl); rfl; rfl
  apply Run.op; (apply L_mov; rfl; rfl); rfl; rfl
  apply Run.op; (apply L_neq; rfl; rfl; rfl); rfl; rfl
  apply Run.done; refine ⟨fun h => Bool.noConfusion h, ?_⟩
  apply x3
  (repeat apply CodeT.seq)
  refine CodeT.cond rfl (fun h => ?_) (fun h => ?_)
  replace H := ifT (of_decide_eq_true h) H
  (repeat apply CodeT.seq)
  apply CodeT.region (fun _ => PPm)
  apply Run.op; (apply L_asg; rfl; rfl); rfl; rfl
  apply Run.done; refine ⟨fun h => Bool.noConfusion h, ?_⟩
  apply x3
  apply CodeT.ret
  apply x1
  apply x4
  apply x1
  obtain rfl := Option.some.inj H
  refine Ev.y2 ?_
  refine XRet.mk ?_
  exact RetIs.sc1 rfl
  replace H := ifF (of_decide_eq_false h) H
  (repeat apply CodeT.seq)
  apply CodeT.skip
  apply x3
  (repeat apply CodeT.seq)
  apply CodeT.region (fun _ => PPm)
  apply Run.op; (apply L_mov; rfl; rfl); rfl; rfl
  apply Run.op; (apply L_add; rfl; rfl; rfl; rfl); rfl; rfl
  apply Run.op; (apply L_asg; rfl; rfl); rfl; rfl
  apply Run.done; refine ⟨fun h => Bool.noConfusion h, ?_⟩
  apply x3
  (repeat apply CodeT.seq)
  apply CodeT.region (fun _ => PPm)
  apply Run.op; (apply L_mov; rfl; rfl); rfl; rfl
  apply Run.op; (apply L_mov; rfl; rfl); rfl; rfl
  obtain ⟨y22, hy22, H⟩ := bindS H
  apply Run.op; (apply L_ixS2; rfl; rfl; rfl; (exact hy22); (intro _; rfl); rfl); rfl; rfl
  apply Run.op; (apply L_fldI; rfl; rfl); rfl; rfl
  apply Run.op; (apply L_ldI; rfl; rfl; rfl; rfl); rfl; rfl
  apply Run.op; (apply L_mov; rfl; rfl); rfl; rfl
  apply Run.op; (apply L_neq; rfl; rfl; rfl); rfl; rfl
  apply Run.done; refine ⟨fun h => Bool.noConfusion h, ?_⟩
  apply x3
  (repeat apply CodeT.seq)
  refine CodeT.cond rfl (fun h => ?_) (fun h => ?_)
  replace H := ifT (of_decide_eq_true h) H
  (repeat apply CodeT.seq)
  apply CodeT.region (fun _ => PPm)
  apply Run.op; (apply L_asg; rfl; rfl); rfl; rfl
  apply Run.done; refine ⟨fun h => Bool.noConfusion h, ?_⟩
  apply x3
  apply CodeT.ret
  apply x1
  apply x4
  apply x1
  obtain rfl := Option.some.inj H
  refine Ev.y2 ?_
  refine XRet.mk ?_
  exact RetIs.sc1 rfl
  replace H := ifF (of_decide_eq_false h) H
  (repeat apply CodeT.seq)
  apply CodeT.skip
  apply x3
  (repeat apply CodeT.seq)
  apply CodeT.region (fun _ => PPm)
  apply Run.op; (apply L_mov; rfl; rfl); rfl; rfl
  obtain ⟨v23, hv23, H⟩ := bindS H
  apply Run.op; (apply L_add; rfl; rfl; (exact letS hv23); rfl); rfl; rfl
  apply Run.op; (apply L_asg; rfl; rfl); rfl; rfl
  apply Run.done; refine ⟨fun h => Bool.noConfusion h, ?_⟩
  apply x3
  (repeat apply CodeT.seq)
  apply CodeT.region (fun _ => PPm)
  apply Run.op; (apply L_mov; rfl; rfl); rfl; rfl
  apply Run.op; (apply L_mov; rfl; rfl); rfl; rfl
  obtain ⟨y24, hy24, H⟩ := bindS H
  apply Run.op; (apply L_ixS2; rfl; rfl; rfl; (exact hy24); (intro _; rfl); rfl); rfl; rfl
  apply Run.op; (apply L_fldI; rfl; rfl); rfl; rfl
  apply Run.op; (apply L_fldI; rfl; rfl); rfl; rfl
  apply Run.op; (apply L_fldI; rfl; rfl); rfl; rfl
  apply Run.op; (apply L_ldI; rfl; rfl; rfl; rfl); rfl; rfl
  apply Run.op; (apply L_mov; rfl; rfl); rfl; rfl
  apply Run.op; (apply L_rem; rfl; rfl; (intro h; cases h); rfl; rfl); rfl; rfl
  apply Run.op; (apply L_eql; rfl; rfl; rfl); rfl; rfl
  apply Run.op; (apply L_bneq; rfl; rfl; rfl); rfl; rfl
  apply Run.done; refine ⟨fun h => Bool.noConfusion h, ?_⟩
  apply x3
  (repeat apply CodeT.seq)
  refine CodeT.cond rfl (fun h => ?_) (fun h => ?_)
  replace H := ifFb (notT h) H
  (repeat apply CodeT.seq)
  apply CodeT.region (fun _ => PPm)
  apply Run.op; (apply L_asg; rfl; rfl); rfl; rfl
  apply Run.done; refine ⟨fun h => Bool.noConfusion h, ?_⟩
  apply x3
  apply CodeT.ret
  apply x1
  apply x4
  apply x1
  obtain rfl := Option.some.inj H
  refine Ev.y2 ?_
  refine XRet.mk ?_
  exact RetIs.sc1 rfl
  replace H := ifTb (notF h) H
  (repeat apply CodeT.seq)
  apply CodeT.skip
  apply x3
  (repeat apply CodeT.seq)
  apply CodeT.region (fun _ => PPm)
  apply Run.op; (apply L_mov; rfl; rfl); rfl; rfl
  apply Run.op; (apply L_add; rfl; rfl; rfl; rfl); rfl; rfl
  apply Run.op; (apply L_asg; rfl; rfl); rfl; rfl
  apply Run.done; refine ⟨fun h => Bool.noConfusion h, ?_⟩
  apply x3
  (repeat apply CodeT.seq)
  apply CodeT.region (fun _ => PPm)
  apply Run.op; (apply L_mov; rfl; rfl); rfl; rfl
  apply Run.op; (apply L_mov; rfl; rfl); rfl; rfl
  obtain ⟨y25, hy25, H⟩ := bindS H
  apply Run.op; (apply L_ixS2; rfl; rfl; rfl; (exact hy25); (intro _; rfl); rfl); rfl; rfl
  apply Run.op; (apply L_fldI; rfl; rfl); rfl; rfl
  apply Run.op; (apply L_fldI; rfl; rfl); rfl; rfl
  apply Run.op; (apply L_fldI; rfl; rfl); rfl; rfl
  apply Run.op; (apply L_ldI; rfl; rfl; rfl; rfl); rfl; rfl
  apply Run.op; (apply L_mov; rfl; rfl); rfl; rfl
  obtain ⟨r26, hr26, H⟩ := bindS H
  apply Run.op; (apply L_call; ((apply ArgsV.cons; (apply ArgV.val; rfl; rfl)); (apply ArgsV.cons; (apply ArgV.val; rfl; rfl)); (apply ArgsV.nil)); (exact m_laws_heldIntS y25.fWeight.fNum.fMag (IntKind.i64.wrap (v23 + 1)) _ hr26); rfl; rfl; rfl); rfl; rfl
  apply Run.op; (apply L_asg; rfl; rfl); rfl; rfl
  apply Run.done; refine ⟨fun h => Bool.noConfusion h, ?_⟩
  apply x3
  (repeat apply CodeT.seq)
  apply CodeT.region (fun _ => PPm)
  apply Run.op; (apply L_mov; rfl; rfl); rfl; rfl
  apply Run.op; (apply L_lss; rfl; rfl; rfl); rfl; rfl
  apply Run.done; refine ⟨fun h => Bool.noConfusion h, ?_⟩
  apply x3
  (repeat apply CodeT.seq)
  refine CodeT.cond rfl (fun h => ?_) (fun h => ?_)
  replace H := ifT (of_decide_eq_true h) H
  (repeat apply CodeT.seq)
  apply CodeT.region (fun _ => PPm)
  apply Run.op; (apply L_asg; rfl; rfl); rfl; rfl
  apply Run.done; refine ⟨fun h => Bool.noConfusion h, ?_⟩
  apply x3
  apply CodeT.ret
  apply x1
  apply x4
  apply x1
  obtain rfl := Option.some.inj H
  refine Ev.y2 ?_
  refine XRet.mk ?_
  exact RetIs.sc1 rfl
  replace H := ifF (of_decide_eq_false h) H
  (repeat apply CodeT.seq)
  apply CodeT.skip
  apply x3
  (repeat apply CodeT.seq)
  apply CodeT.region (fun _ => PPm)
  apply Run.op; (apply L_mov; rfl; rfl); rfl; rfl
  apply Run.op; (apply L_mov; rfl; rfl); rfl; rfl
  obtain ⟨y27, hy27, H⟩ := bindS H
  apply Run.op; (apply L_ixS2; rfl; rfl; rfl; (exact hy27); (intro _; rfl); rfl); rfl; rfl
  apply Run.op; (apply L_fldI; rfl; rfl); rfl; rfl
  apply Run.op; (apply L_fldI; rfl; rfl); rfl; rfl
  apply Run.op; (apply L_ldI; rfl; rfl; rfl; rfl); rfl; rfl
  apply Run.op; (apply L_mov; rfl; rfl); rfl; rfl
  obtain ⟨r28, hr28, H⟩ := bindS H
  apply Run.op; (apply L_call; ((apply ArgsV.cons; (apply ArgV.val; rfl; rfl)); (apply ArgsV.cons; (apply ArgV.val; rfl; rfl)); (apply ArgsV.nil)); (exact m_laws_heldIntS y27.fWeight.fDen r26 _ hr28); rfl; rfl; rfl); rfl; rfl
  apply Run.op; (apply L_asg; rfl; rfl); rfl; rfl
  apply Run.done; refine ⟨fun h => Bool.noConfusion h, ?_⟩
  apply x3
  (repeat apply CodeT.seq)
  apply CodeT.region (fun _ => PPm)
  apply Run.op; (apply L_mov; rfl; rfl); rfl; rfl
  apply Run.op; (apply L_lss; rfl; rfl; rfl); rfl; rfl
  apply Run.done; refine ⟨fun h => Bool.noConfusion h, ?_⟩
  apply x3
  (repeat apply CodeT.seq)
  refine CodeT.cond rfl (fun h => ?_) (fun h => ?_)
  replace H := ifT (of_decide_eq_true h) H
  (repeat apply CodeT.seq)
  apply CodeT.region (fun _ => PPm)
  apply Run.op; (apply L_asg; rfl; rfl); rfl; rfl
  apply Run.done; refine ⟨fun h => Bool.noConfusion h, ?_⟩
  apply x3
  apply CodeT.ret
  apply x1
  apply x4
  apply x1
  obtain rfl := Option.some.inj H
  refine Ev.y2 ?_
  refine XRet.mk ?_
  exact RetIs.sc1 rfl
  replace H := ifF (of_decide_eq_false h) H
  (repeat apply CodeT.seq)
  apply CodeT.skip
  apply x3
  (repeat apply CodeT.seq)
  apply CodeT.region (fun _ => PPm)
  apply Run.op; (apply L_mov; rfl; rfl); rfl; rfl
  apply Run.op; (apply L_mov; rfl; rfl); rfl; rfl
  obtain ⟨y29, hy29, H⟩ := bindS H
  apply Run.op; (apply L_ixS2; rfl; rfl; rfl; (exact hy29); (intro _; rfl); rfl); rfl; rfl
  apply Run.op; (apply L_fldI; rfl; rfl); rfl; rfl
  apply Run.op; (apply L_fldI; rfl; rfl); rfl; rfl
  apply Run.op; (apply L_fldI; rfl; rfl); rfl; rfl
  apply Run.op; (apply L_ldI; rfl; rfl; rfl; rfl); rfl; rfl
  apply Run.op; (apply L_mov; rfl; rfl); rfl; rfl
  apply Run.op; (apply L_rem; rfl; rfl; (intro h; cases h); rfl; rfl); rfl; rfl
  apply Run.op; (apply L_eql; rfl; rfl; rfl); rfl; rfl
  apply Run.op; (apply L_bneq; rfl; rfl; rfl); rfl; rfl
  apply Run.done; refine ⟨fun h => Bool.noConfusion h, ?_⟩
  apply x3
  (repeat apply CodeT.seq)
  refine CodeT.cond rfl (fun h => ?_) (fun h => ?_)
  replace H := ifFb (notT h) H
  (repeat apply CodeT.seq)
  apply CodeT.region (fun _ => PPm)
  apply Run.op; (apply L_asg; rfl; rfl); rfl; rfl
  apply Run.done; refine ⟨fun h => Bool.noConfusion h, ?_⟩
  apply x3
  apply CodeT.ret
  apply x1
  apply x4
  apply x1
  obtain rfl := Option.some.inj H
  refine Ev.y2 ?_
  refine XRet.mk ?_
  exact RetIs.sc1 rfl
  replace H := ifTb (notF h) H
  (repeat apply CodeT.seq)
  apply CodeT.skip
  apply x3
  (repeat apply CodeT.seq)
  apply CodeT.region (fun _ => PPm)
  apply Run.op; (apply L_mov; rfl; rfl); rfl; rfl
  apply Run.op; (apply L_add; rfl; rfl; rfl; rfl); rfl; rfl
  apply Run.op; (apply L_asg; rfl; rfl); rfl; rfl
  apply Run.done; refine ⟨fun h => Bool.noConfusion h, ?_⟩
  apply x3
  (repeat apply CodeT.seq)
  apply CodeT.region (fun _ => PPm)
  apply Run.op; (apply L_mov; rfl; rfl); rfl; rfl
  apply Run.op; (apply L_mov; rfl; rfl); rfl; rfl
  obtain ⟨y30, hy30, H⟩ := bindS H
  apply Run.op; (apply L_ixS2; rfl; rfl; rfl; (exact hy30); (intro _; rfl); rfl); rfl; rfl
  apply Run.op; (apply L_fldI; rfl; rfl); rfl; rfl
  apply Run.op; (apply L_fldI; rfl; rfl); rfl; rfl
  apply Run.op; (apply L_fldI; rfl; rfl); rfl; rfl
  apply Run.op; (apply L_ldI; rfl; rfl; rfl; rfl); rfl; rfl
  apply Run.op; (apply L_mov; rfl; rfl); rfl; rfl
  obtain ⟨r31, hr31, H⟩ := bindS H
  apply Run.op; (apply L_call; ((apply ArgsV.cons; (apply ArgV.val; rfl; rfl)); (apply ArgsV.cons; (apply ArgV.val; rfl; rfl)); (apply ArgsV.nil)); (exact m_laws_heldIntS y30.fDX.fNum.fMag (IntKind.i64.wrap (r28 + 1)) _ hr31); rfl; rfl; rfl); rfl; rfl
  apply Run.op; (apply L_asg; rfl; rfl); rfl; rfl
  apply Run.done; refine ⟨fun h => Bool.noConfusion h, ?_⟩
  apply x3
  (repeat apply CodeT.seq)
  apply CodeT.region (fun _ => PPm)
  apply Run.op; (apply L_mov; rfl; rfl); rfl; rfl
  apply Run.op; (apply L_lss; rfl; rfl; rfl); rfl; rfl
  apply Run.done; refine ⟨fun h => Bool.noConfusion h, ?_⟩
  apply x3
  (repeat apply CodeT.seq)
  refine CodeT.cond rfl (fun h => ?_) (fun h => ?_)
  replace H := ifT (of_decide_eq_true h) H
  (repeat apply CodeT.seq)
  apply CodeT.region (fun _ => PPm)
  apply Run.op; (apply L_asg; rfl; rfl); rfl; rfl
  apply Run.done; refine ⟨fun h => Bool.noConfusion h, ?_⟩
  apply x3
  apply CodeT.ret
  apply x1
  apply x4
  apply x1
  obtain rfl := Option.some.inj H
  refine Ev.y2 ?_
  refine XRet.mk ?_
  exact RetIs.sc1 rfl
  replace H := ifF (of_decide_eq_false h) H
  (repeat apply CodeT.seq)
  apply CodeT.skip
  apply x3
  (repeat apply CodeT.seq)
  apply CodeT.region (fun _ => PPm)
  apply Run.op; (apply L_mov; rfl; rfl); rfl; rfl
  apply Run.op; (apply L_mov; rfl; rfl); rfl; rfl
  obtain ⟨y32, hy32, H⟩ := bindS H
  apply Run.op; (apply L_ixS2; rfl; rfl; rfl; (exact hy32); (intro _; rfl); rfl); rfl; rfl
  apply Run.op; (apply L_fldI; rfl; rfl); rfl; rfl
  apply Run.op; (apply L_fldI; rfl; rfl); rfl; rfl
  apply Run.op; (apply L_ldI; rfl; rfl; rfl; rfl); rfl; rfl
  apply Run.op; (apply L_mov; rfl; rfl); rfl; rfl
  obtain ⟨r33, hr33, H⟩ := bindS H
  apply Run.op; (apply L_call; ((apply ArgsV.cons; (apply ArgV.val; rfl; rfl)); (apply ArgsV.cons; (apply ArgV.val; rfl; rfl)); (apply ArgsV.nil)); (exact m_laws_heldIntS y32.fDX.fDen r31 _ hr33); rfl; rfl; rfl); rfl; rfl
  apply Run.op; (apply L_asg; rfl; rfl); rfl; rfl
  apply Run.done; refine ⟨fun h => Bool.noConfusion h, ?_⟩
  apply x3
  (repeat apply CodeT.seq)
  apply CodeT.region (fun _ => PPm)
  apply Run.op; (apply L_mov; rfl; rfl); rfl; rfl
  apply Run.op; (apply L_lss; rfl; rfl; rfl); rfl; rfl
  apply Run.done; refine ⟨fun h => Bool.noConfusion h, ?_⟩
  apply x3
  (repeat apply CodeT.seq)
  refine CodeT.cond rfl (fun h => ?_) (fun h => ?_)
  replace H := ifT (of_decide_eq_true h) H
  (repeat apply CodeT.seq)
  apply CodeT.region (fun _ => PPm)
  apply Run.op; (apply L_asg; rfl; rfl); rfl; rfl
  apply Run.done; refine ⟨fun h => Bool.noConfusion h, ?_⟩
  apply x3
  apply CodeT.ret
  apply x1
  apply x4
  apply x1
  obtain rfl := Option.some.inj H
  refine Ev.y2 ?_
  refine XRet.mk ?_
  exact RetIs.sc1 rfl
  replace H := ifF (of_decide_eq_false h) H
  (repeat apply CodeT.seq)
  apply CodeT.skip
  apply x3
  (repeat apply CodeT.seq)
  apply CodeT.region (fun _ => PPm)
  apply Run.op; (apply L_mov; rfl; rfl); rfl; rfl
  apply Run.op; (apply L_mov; rfl; rfl); rfl; rfl
  obtain ⟨y34, hy34, H⟩ := bindS H
  apply Run.op; (apply L_ixS2; rfl; rfl; rfl; (exact hy34); (intro _; rfl); rfl); rfl; rfl
  apply Run.op; (apply L_fldI; rfl; rfl); rfl; rfl
  apply Run.op; (apply L_fldI; rfl; rfl); rfl; rfl
  apply Run.op; (apply L_fldI; rfl; rfl); rfl; rfl
  apply Run.op; (apply L_ldI; rfl; rfl; rfl; rfl); rfl; rfl
  apply Run.op; (apply L_mov; rfl; rfl); rfl; rfl
  apply Run.op; (apply L_rem; rfl; rfl; (intro h; cases h); rfl; rfl); rfl; rfl
  apply Run.op; (apply L_eql; rfl; rfl; rfl); rfl; rfl
  apply Run.op; (apply L_bneq; rfl; rfl; rfl); rfl; rfl
  apply Run.done; refine ⟨fun h => Bool.noConfusion h, ?_⟩
  apply x3
  (repeat apply CodeT.seq)
  refine CodeT.cond rfl (fun h => ?_) (fun h => ?_)
  replace H := ifFb (notT h) H
  (repeat apply CodeT.seq)
  apply CodeT.region (fun _ => PPm)
  apply Run.op; (apply L_asg; rfl; rfl); rfl; rfl
  apply Run.done; refine ⟨fun h => Bool.noConfusion h, ?_⟩
  apply x3
  apply CodeT.ret
  apply x1
  apply x4
  apply x1
  obtain rfl := Option.some.inj H
  refine Ev.y2 ?_
  refine XRet.mk ?_
  exact RetIs.sc1 rfl
  replace H := ifTb (notF h) H
  (repeat apply CodeT.seq)
  apply CodeT.skip
  apply x3
  (repeat apply CodeT.seq)
  apply CodeT.region (fun _ => PPm)
  apply Run.op; (apply L_mov; rfl; rfl); rfl; rfl
  apply Run.op; (apply L_add; rfl; rfl; rfl; rfl); rfl; rfl
  apply Run.op; (apply L_asg; rfl; rfl); rfl; rfl
  apply Run.done; refine ⟨fun h => Bool.noConfusion h, ?_⟩
  apply x3
  (repeat apply CodeT.seq)
  apply CodeT.region (fun _ => PPm)
  apply Run.op; (apply L_mov; rfl; rfl); rfl; rfl
  apply Run.op; (apply L_mov; rfl; rfl); rfl; rfl
  obtain ⟨y35, hy35, H⟩ := bindS H
  apply Run.op; (apply L_ixS2; rfl; rfl; rfl; (exact hy35); (intro _; rfl); rfl); rfl; rfl
  apply Run.op; (apply L_fldI; rfl; rfl); rfl; rfl
  apply Run.op; (apply L_fldI; rfl; rfl); rfl; rfl
  apply Run.op; (apply L_fldI; rfl; rfl); rfl; rfl
  apply Run.op; (apply L_ldI; rfl; rfl; rfl; rfl); rfl; rfl
  apply Run.op; (apply L_mov; rfl; rfl); rfl; rfl
  obtain ⟨r36, hr36, H⟩ := bindS H
  apply Run.op; (apply L_call; ((apply ArgsV.cons; (apply ArgV.val; rfl; rfl)); (apply ArgsV.cons; (apply ArgV.val; rfl; rfl)); (apply ArgsV.nil)); (exact m_laws_heldIntS y35.fDY.fNum.fMag (IntKind.i64.wrap (r33 + 1)) _ hr36); rfl; rfl; rfl); rfl; rfl
  apply Run.op; (apply L_asg; rfl; rfl); rfl; rfl
  apply Run.done; refine ⟨fun h => Bool.noConfusion h, ?_⟩
  apply x3
  (repeat apply CodeT.seq)
  apply CodeT.region (fun _ => PPm)
  apply Run.op; (apply L_mov; rfl; rfl); rfl; rfl
  apply Run.op; (apply L_lss; rfl; rfl; rfl); rfl; rfl
  apply Run.done; refine ⟨fun h => Bool.noConfusion h, ?_⟩
  apply x3
  (repeat apply CodeT.seq)
  refine CodeT.cond rfl (fun h => ?_) (fun h => ?_)
  replace H := ifT (of_decide_eq_true h) H
  (repeat apply CodeT.seq)
  apply CodeT.region (fun _ => PPm)
  apply Run.op; (apply L_asg; rfl; rfl); rfl; rfl
  apply Run.done; refine ⟨fun h => Bool.noConfusion h, ?_⟩
  apply x3
  apply CodeT.ret
  apply x1
  apply x4
  apply x1
  obtain rfl := Option.some.inj H
  refine Ev.y2 ?_
  refine XRet.mk ?_
  exact RetIs.sc1 rfl
  replace H := ifF (of_decide_eq_false h) H
  (repeat apply CodeT.seq)
  apply CodeT.skip
  apply x3
  (repeat apply CodeT.seq)
  apply CodeT.region (fun _ => PPm)
  apply Run.op; (apply L_mov; rfl; rfl); rfl; rfl
  apply Run.op; (apply L_mov; rfl; rfl); rfl; rfl
  obtain ⟨y37, hy37, H⟩ := bindS H
  apply Run.op; (apply L_ixS2; rfl; rfl; rfl; (exact hy37); (intro _; rfl); rfl); rfl; rfl
  apply Run.op; (apply L_fldI; rfl; rfl); rfl; rfl
  apply Run.op; (apply L_fldI; rfl; rfl); rfl; rfl
  apply Run.op; (apply L_ldI; rfl; rfl; rfl; rfl); rfl; rfl
  apply Run.op; (apply L_mov; rfl; rfl); rfl; rfl
  obtain ⟨r38, hr38, H⟩ := bindS H
  apply Run.op; (apply L_call; ((apply ArgsV.cons; (apply ArgV.val; rfl; rfl)); (apply ArgsV.cons; (apply ArgV.val; rfl; rfl)); (apply ArgsV.nil)); (exact m_laws_heldIntS y37.fDY.fDen r36 _ hr38); rfl; rfl; rfl); rfl; rfl
  apply Run.op; (apply L_asg; rfl; rfl); rfl; rfl
  apply Run.done; refine ⟨fun h => Bool.noConfusion h, ?_⟩
  apply x3
  (repeat apply CodeT.seq)
  apply CodeT.region (fun _ => PPm)
  apply Run.op; (apply L_mov; rfl; rfl); rfl; rfl
  apply Run.op; (apply L_lss; rfl; rfl; rfl); rfl; rfl
  apply Run.done; refine ⟨fun h => Bool.noConfusion h, ?_⟩
  apply x3
  refine CodeT.cond rfl (fun h => ?_) (fun h => ?_)
  replace H := ifT (of_decide_eq_true h) H
  (repeat apply CodeT.seq)
  apply CodeT.region (fun _ => PPm)
  apply Run.op; (apply L_asg; rfl; rfl); rfl; rfl
  apply Run.done; refine ⟨fun h => Bool.noConfusion h, ?_⟩
  apply x3
  apply CodeT.ret
  apply x4
  apply x1
  obtain rfl := Option.some.inj H
  refine Ev.y2 ?_
  refine XRet.mk ?_
  exact RetIs.sc1 rfl
  replace H := ifF (of_decide_eq_false h) H
  (repeat apply CodeT.seq)
  apply CodeT.skip
  apply x5
  apply x3
  apply CodeT.region (fun _ => PPm)
  apply Run.op; (apply L_mov; rfl; rfl); rfl; rfl
  apply Run.op; (apply L_add; rfl; rfl; rfl; rfl); rfl; rfl
  apply Run.op; (apply L_asg; rfl; rfl); rfl; rfl
  apply Run.done; refine ⟨fun h => Bool.noConfusion h, ?_⟩
  obtain rfl := Option.some.inj H
  refine Ev.y1 ?_
  refine Ent.list [] (io0 hio _) rfl ?_ ?_ <;> (repeat' first | exact trivial | (refine And.intro ⟨_, rfl, fun h => (by first | rfl | exact Bool.noConfusion h)⟩ ?_))
  replace H := ifF (of_decide_eq_false h) H
  (repeat apply CodeT.seq)
  apply CodeT.exit
  apply x2
  obtain rfl := Option.some.inj H
  refine Ev.y3 ?_
  refine XEnv.mk ?_
  refine Ent.list [] (io0 hio _) rfl ?_ ?_ <;> (repeat' first | exact trivial | (refine And.intro ⟨_, rfl, fun h => (by first | rfl | exact Bool.noConfusion h)⟩ ?_))
  rcases d39 with (d40 | d42)
  intro e E' hX; obtain ⟨rfl, g41⟩ := XEnv.out hX
  refine x6 rfl ?_
  apply x3
  refine CodeT.weak g41 ?_
  (repeat apply CodeT.seq)
  apply CodeT.region (fun _ => PPm)
  apply Run.op; (apply L_mov; rfl; rfl); rfl; rfl
  apply Run.op; (apply L_asg; rfl; rfl); rfl; rfl
  apply Run.done; refine ⟨fun h => Bool.noConfusion h, ?_⟩
  apply x3
  apply CodeT.ret
  cases H
  apply x12
  exact RetIs.sc1 rfl
  intro e E' hX; obtain ⟨rfl, g43⟩ := XRet.out hX
  apply x4
  apply x1
  cases H
  apply x12
  exact g43
theorem m_laws_FnExactTreeLinks (a0 : Tree) (r : Bool) (H : laws_FnExactTreeLinks a0 = some r) : Meets Try.prog 7 [.agg (encTree a0)] (.sc (.bool r)) true := by
  refine Meets.introW1 (N := 69) (rs := #[.tmp 2]) Try.func7 rfl rfl rfl rfl rfl ?_
  intro Γ c0 hio hle old0
  refine CodeT.openAgg 0 rfl old0 rfl (fun vs hvs oldl0 => ?_)
  have hvs : vs.length = 1 := hvs
  obtain ⟨w0_0, vs1, rfl, hv1⟩ := lenS hvs
  obtain rfl := len0 hv1
  unfold laws_FnExactTreeLinks at H
  (repeat apply CodeT.seq)
  apply CodeT.region (fun _ => PPm)
  apply Run.op; (apply L_box false; rfl; rfl; rfl; (exact io1 hio _); rfl); rfl; rfl
  apply Run.op; (apply L_asg; rfl; rfl); rfl; rfl
  apply Run.done; refine ⟨fun h => Bool.noConfusion h, ?_⟩
  apply x3
  (repeat apply CodeT.seq)
  apply CodeT.region (fun _ => PPm)
  apply Run.op; (apply L_asg; rfl; rfl); rfl; rfl
  apply Run.done; refine ⟨fun h => Bool.noConfusion h, ?_⟩
  apply x3
  (repeat apply CodeT.seq)
  apply CodeT.region (fun _ => PPm)
  apply Run.op; (apply Local.soft (p' := .agg (encTree a0)) (Soft.agg (SoftL.cons Soft.was SoftL.nil)); apply L_ldPA; rfl; rfl; rfl; rfl; (intro h; cases h); (first | exact .inl rfl | exact .inr rfl); rfl); rfl; rfl
  apply Run.op; (apply L_mov; rfl; rfl); rfl; rfl
  obtain ⟨r1, hr1, H⟩ := bindS H
  apply Run.op; (apply L_call; ((apply ArgsV.cons; (apply ArgV.val; rfl; rfl)); (apply ArgsV.cons; (apply ArgV.val; rfl; rfl)); (apply ArgsV.nil)); (exact m_laws_szTree a0 1048576 _ hr1); rfl; rfl; rfl); rfl; rfl
  apply Run.op; (apply L_asg; rfl; rfl); rfl; rfl
  apply Run.done; refine ⟨fun h => Bool.noConfusion h, ?_⟩
  apply x3
  (repeat apply CodeT.seq)
  apply CodeT.region (fun _ => PPm)
  apply Run.op; (apply L_mov; rfl; rfl); rfl; rfl
  apply Run.op; (apply L_lss; rfl; rfl; rfl); rfl; rfl
  apply Run.done; refine ⟨fun h => Bool.noConfusion h, ?_⟩
  apply x3
  (repeat apply CodeT.seq)
  refine CodeT.cond rfl (fun h => ?_) (fun h => ?_)
  replace H := ifT (of_decide_eq_true h) H
  (repeat apply CodeT.seq)
  apply CodeT.region (fun _ => PPm)
  apply Run.op; (apply L_asg; rfl; rfl); rfl; rfl
  apply Run.done; refine ⟨fun h => Bool.noConfusion h, ?_⟩
  apply x3
  apply CodeT.ret
  apply x1
  cases H
  apply x12
  exact RetIs.sc1 rfl
  replace H := ifF (of_decide_eq_false h) H
  (repeat apply CodeT.seq)
  apply CodeT.skip
  apply x3
  (repeat apply CodeT.seq)
  apply CodeT.region (fun _ => PPm)
  apply Run.op; (apply Local.soft (p' := .agg (encTree a0)) (Soft.agg (SoftL.cons Soft.was SoftL.nil)); apply L_ldPA; rfl; rfl; rfl; rfl; (intro h; cases h); (first | exact .inl rfl | exact .inr rfl); rfl); rfl; rfl
  obtain ⟨r2, hr2, H⟩ := bindS H
  apply Run.op; (apply L_call; ((apply ArgsV.cons; (apply ArgV.val; rfl; rfl)); (apply ArgsV.nil)); (exact m_laws_toTree a0 _ hr2); rfl; rfl; rfl); rfl; rfl
  obtain ⟨r3, hr3, H⟩ := bindS H
  apply Run.op; (apply L_callW; ((apply ArgsV.cons; (apply ArgV.valS; rfl; rfl; (exact (Soft.agg (softTree _))))); (apply ArgsV.nil)); (exact m_spec_TreeLinks r2 _ hr3); (exact io1 hio _); rfl); rfl; rfl
  apply Run.op; (apply L_asg; rfl; rfl); rfl; rfl
  apply Run.done; refine ⟨fun h => Bool.noConfusion h, ?_⟩
  apply x3
  (repeat apply CodeT.seq)
  apply CodeT.region (fun _ => PPm)
  apply Run.op; (apply Local.soft (p' := .agg (encTree a0)) (Soft.agg (SoftL.cons Soft.was SoftL.nil)); apply L_ldPA; rfl; rfl; rfl; rfl; (intro h; cases h); (first | exact .inl rfl | exact .inr rfl); rfl); rfl; rfl
  obtain ⟨r4, hr4, H⟩ := bindS H
  apply Run.op; (apply L_call; ((apply ArgsV.cons; (apply ArgV.val; rfl; rfl)); (apply ArgsV.nil)); (exact m_laws_toTree a0 _ hr4); rfl; rfl; rfl); rfl; rfl
  apply Run.op; (apply L_alloc false; (exact io1 hio _); rfl); rfl; rfl
  apply Run.op; (apply L_stT; rfl; rfl; rfl; rfl; rfl; rfl; (intro h; cases h); rfl; (first | exact splice_whole rfl | rfl)); rfl; rfl
  apply Run.done; refine ⟨fun h => Bool.noConfusion h, ?_⟩
  apply x3
  (repeat apply CodeT.seq)
  apply CodeT.region (fun _ => PPm)
  apply Run.op; (apply Local.soft (Soft.agg (softTree _)); apply L_ldPA; rfl; rfl; (first | exact seg_whole rfl | rfl); rfl; (intro h; cases h); (first | exact .inl rfl | exact .inr rfl); rfl); rfl; rfl
  obtain ⟨r5, hr5, H⟩ := bindS H
  apply Run.op; (apply L_callW; ((apply ArgsV.cons; (apply ArgV.val; rfl; rfl)); (apply ArgsV.nil)); (exact m_impl_TreeLinks r4 _ hr5); (exact io1 hio _); rfl); rfl; rfl
  apply Run.op; (apply L_asg; rfl; rfl); rfl; rfl
  apply Run.done; refine ⟨fun h => Bool.noConfusion h, ?_⟩
  apply x3
  (repeat apply CodeT.seq)
  apply CodeT.region (fun _ => PPm)
  apply Run.op; (apply L_mov; rfl; rfl); rfl; rfl
  apply Run.op; (apply L_mov; rfl; rfl); rfl; rfl
  obtain ⟨r6, hr6, H⟩ := bindS H
  apply Run.op; (apply L_call; ((apply ArgsV.cons; (apply ArgV.refS; rfl; rfl; (exact (SoftL.flat softLink _)))); (apply ArgsV.cons; (apply ArgV.refS; rfl; rfl; (exact (SoftL.flat softLink _)))); (apply ArgsV.nil)); (exact m_laws_eqLinkS r5 r3 _ hr6); rfl; rfl; rfl); rfl; rfl
  apply Run.op; (apply L_not; rfl; rfl); rfl; rfl
  apply Run.done; refine ⟨fun h => Bool.noConfusion h, ?_⟩
  apply x3
  (repeat apply CodeT.seq)
  refine CodeT.cond rfl (fun h => ?_) (fun h => ?_)
  replace H := ifFb (notT h) H
  (repeat apply CodeT.seq)
  apply CodeT.region (fun _ => PPm)
  apply Run.op; (apply L_asg; rfl; rfl); rfl; rfl
  apply Run.done; refine ⟨fun h => Bool.noConfusion h, ?_⟩
  apply x3
  apply CodeT.ret
  apply x1
  cases H
  apply x12
  exact RetIs.sc1 rfl
  replace H := ifTb (notF h) H
  (repeat apply CodeT.seq)
  apply CodeT.skip
  apply x3
  (repeat apply CodeT.seq)
  apply CodeT.region (fun _ => PPm)
  apply Run.op; (apply Local.soft (Soft.agg (softTree _)); apply L_ldPA; rfl; rfl; (first | exact seg_whole rfl | rfl); rfl; (intro h; cases h); (first | exact .inl rfl | exact .inr rfl); rfl); rfl; rfl
  apply Run.op; (apply Local.soft (p' := .agg (encTree a0)) (Soft.agg (SoftL.cons Soft.was SoftL.nil)); apply L_ldPA; rfl; rfl; rfl; rfl; (intro h; cases h); (first | exact .inl rfl | exact .inr rfl); rfl); rfl; rfl
  obtain ⟨r7, hr7, H⟩ := bindS H
  apply Run.op; (apply L_call; ((apply ArgsV.cons; (apply ArgV.val; rfl; rfl)); (apply ArgsV.nil)); (exact m_laws_toTree a0 _ hr7); rfl; rfl; rfl); rfl; rfl
  obtain ⟨r8, hr8, H⟩ := bindS H
  apply Run.op; (apply L_call; ((apply ArgsV.cons; (apply ArgV.val; rfl; rfl)); (apply ArgsV.cons; (apply ArgV.valS; rfl; rfl; (exact (Soft.agg (softTree _))))); (apply ArgsV.nil)); (exact m_laws_eqTree r4 r7 _ hr8); rfl; rfl; rfl); rfl; rfl
  apply Run.op; (apply L_not; rfl; rfl); rfl; rfl
  apply Run.done; refine ⟨fun _ => ⟨rfl, rfl⟩, ?_⟩
  apply x3
  (repeat apply CodeT.seq)
  refine CodeT.cond rfl (fun h => ?_) (fun h => ?_)
  replace H := ifFb (notT h) H
  (repeat apply CodeT.seq)
  apply CodeT.region (fun _ => PPm)
  apply Run.op; (apply L_asg; rfl; rfl); rfl; rfl
  apply Run.done; refine ⟨fun h => Bool.noConfusion h, ?_⟩
  apply x3
  apply CodeT.ret
  apply x1
  cases H
  apply x12
  exact RetIs.sc1 rfl
  replace H := ifTb (notF h) H
  (repeat apply CodeT.seq)
  apply CodeT.skip
  apply x3
  (repeat apply CodeT.seq)
  apply CodeT.region (fun _ => PPm)
  apply Run.op; (apply L_asg; rfl; rfl); rfl; rfl
  apply Run.done; refine ⟨fun h => Bool.noConfusion h, ?_⟩
  apply x3
  (repeat apply CodeT.seq)
  refine CodeT.weak (Ent.sleepO 1 rfl rfl) ?_
  refine CodeT.weak (E' := ⟨[(1, ⟨.ptr 1 0, false⟩), (4, ⟨.ref 504 11 0 r3.length, false⟩), (5, ⟨.ptr 5 0, false⟩), (6, ⟨.ref 506 11 0 r5.length, false⟩), (7, ⟨.sc (.int .i64 1), false⟩)], [(1, some ⟨[.sc w0_0], true, false⟩), (5, some ⟨(encWTree r4), true, false⟩), (504, some ⟨r3.flatMap encWLink, true, false⟩), (506, some ⟨r5.flatMap encWLink, true, false⟩)]⟩) ?_ ?_
  refine Ent.list [(504, 18), (506, 22)] (io0 hio _) rfl ?_ ?_ <;> (repeat' first | exact trivial | (refine And.intro ⟨_, rfl, fun h => (by first | rfl | exact Bool.noConfusion h)⟩ ?_))
  refine CodeT.exposeAll 5 rfl rfl (fun vs hvs => ?_)
  have hvs : vs.length = 1 := hvs
  obtain ⟨w9_0, vs1, rfl, hv1⟩ := lenS hvs
  obtain rfl := len0 hv1
  apply CodeT.region (fun _ => PPm)
  apply Run.op; (apply Local.forget (Forg.agg (ws := [.was w9_0 (.rw 12 r4.fNodes.length (r4.fNodes.flatMap encWTreeNode))]) rfl); apply L_ldPA; rfl; rfl; rfl; rfl; (intro h; cases h); (exact .inr rfl); rfl); rfl; rfl
  apply Run.op; (apply L_mov; rfl; rfl); rfl; rfl
  obtain ⟨r10, hr10, H⟩ := bindS H
  apply Run.op; (apply L_callM (l := 5) (off := 0) (m := 1) (p := .agg (encWTree r4)) (p' := .agg (encWTree r10.2)) (cells' := [.was w9_0 (.rw 12 r10.2.fNodes.length (r10.2.fNodes.flatMap encWTreeNode))]); rfl; rfl; rfl; rfl; rfl; rfl; (exact MCut.agg rfl rfl); (exact mk_laws_markTree r4 1 _ hr10); rfl; (exact hle); rfl); rfl; rfl
  apply Run.op; (apply L_asg; rfl; rfl); rfl; rfl
  apply Run.done; refine ⟨fun h => Bool.noConfusion h, ?_⟩
  apply x3
  refine CodeT.weak (Ent.wakeO 1 (vs := [w0_0]) rfl oldl0) ?_
  refine CodeT.weak (Ent.soften (l := 5) (cells' := (encWTree r10.2)) rfl (SoftL.cons Soft.was SoftL.nil)) ?_
  (repeat apply CodeT.seq)
  obtain ⟨d13, hd13, H⟩ := bindS H
  refine CodeT.lcut (x := d13) (fun d e E => XEnv Γ .normal ⟨[(1, ⟨.ptr 1 0, false⟩), (4, ⟨.ref 504 11 0 r3.length, false⟩), (6, ⟨.ref 506 11 0 r5.length, false⟩), (42, ⟨.sc (.bool d), false⟩)], [(1, some ⟨[.was w0_0 (.sl a0.fNodes.length (a0.fNodes.flatMap encTreeNode))], false, false⟩), (504, some ⟨r3.flatMap encWLink, true, false⟩), (506, some ⟨r5.flatMap encWLink, true, false⟩)]⟩ e E) ?_ ?_
  clear H; have H := hd13; clear hd13
  apply CodeT.region (fun _ => PPm)
  apply Run.op; (apply L_mov; rfl; rfl); rfl; rfl
  apply R_dec; (apply L_lss; rfl; rfl; rfl); rfl
  intro h; replace H := ifT h H
  apply Run.op; (apply L_mov; rfl; rfl); rfl; rfl
  apply Run.skip; rfl
  apply Run.skip; rfl
  apply Run.skip; rfl
  apply Run.skip; rfl
  apply Run.op; (apply L_pickT; rfl; rfl; rfl); rfl; rfl
  apply Run.done; refine ⟨fun h => Bool.noConfusion h, ?_⟩
  obtain rfl := Option.some.inj H
  refine Ev.y4 ?_
  refine XEnv.mk ?_
  refine Ent.list [] (io0 hio _) rfl ?_ ?_ <;> (repeat' first | exact trivial | (refine And.intro ⟨_, rfl, fun h => (by first | rfl | exact Bool.noConfusion h)⟩ ?_))
  intro h; replace H := ifF h H
  apply Run.op; (apply L_mov; rfl; rfl); rfl; rfl
  apply Run.op; (apply L_mov; rfl; rfl); rfl; rfl
  apply Run.op; (apply L_mov; rfl; rfl); rfl; rfl
  obtain ⟨r11, hr11, H⟩ := bindS H
  apply Run.op; (apply L_call; ((apply ArgsV.cons; (apply ArgV.refS; rfl; rfl; (exact (SoftL.flat softLink _)))); (apply ArgsV.cons; (apply ArgV.refS; rfl; rfl; (exact (SoftL.flat softLink _)))); (apply ArgsV.nil)); (exact m_laws_eqLinkS r5 r3 _ hr11); rfl; rfl; rfl); rfl; rfl
  apply Run.op; (apply L_not; rfl; rfl); rfl; rfl
  apply Run.op; (apply L_pickF; rfl; rfl; rfl); rfl; rfl
  apply Run.done; refine ⟨fun h => Bool.noConfusion h, ?_⟩
  obtain rfl := Option.some.inj H
  refine Ev.y4 ?_
  refine XEnv.mk ?_
  refine Ent.list [] (io0 hio _) rfl ?_ ?_ <;> (repeat' first | exact trivial | (refine And.intro ⟨_, rfl, fun h => (by first | rfl | exact Bool.noConfusion h)⟩ ?_))
  intro e E' hX; obtain ⟨rfl, g14⟩ := XEnv.out hX
  apply x3
  refine CodeT.weak g14 ?_
  (repeat apply CodeT.seq)
  refine CodeT.cond rfl (fun h => ?_) (fun h => ?_)
  replace H := ifTb h H
  (repeat apply CodeT.seq)
  apply CodeT.region (fun _ => PPm)
  apply Run.op; (apply L_asg; rfl; rfl); rfl; rfl
  apply Run.done; refine ⟨fun h => Bool.noConfusion h, ?_⟩
  apply x3
  apply CodeT.ret
  apply x1
  cases H
  apply x12
  exact RetIs.sc1 rfl
  replace H := ifFb h H
  (repeat apply CodeT.seq)
  apply CodeT.skip
  apply x3
  (repeat apply CodeT.seq)
  apply CodeT.region (fun _ => PPm)
  apply Run.op; (apply L_asg; rfl; rfl); rfl; rfl
  apply Run.done; refine ⟨fun h => Bool.noConfusion h, ?_⟩
  apply x3
  (repeat apply CodeT.seq)
  refine CodeT.weak (Ent.sleepO 1 rfl rfl) ?_
  refine CodeT.weak (E' := ⟨[(1, ⟨.ptr 1 0, false⟩), (4, ⟨.ref 504 11 0 r3.length, false⟩), (6, ⟨.ref 506 11 0 r5.length, false⟩), (8, ⟨.sc (.int .i64 1), false⟩)], [(1, some ⟨[.sc w0_0], true, false⟩), (504, some ⟨r3.flatMap encWLink, true, false⟩), (506, some ⟨r5.flatMap encWLink, true, false⟩)]⟩) ?_ ?_
  refine Ent.list [] (io0 hio _) rfl ?_ ?_ <;> (repeat' first | exact trivial | (refine And.intro ⟨_, rfl, fun h => (by first | rfl | exact Bool.noConfusion h)⟩ ?_))
  apply CodeT.region (fun _ => PPm)
  apply Run.op; (apply L_mov; rfl; rfl); rfl; rfl
  apply Run.op; (apply L_mov; rfl; rfl); rfl; rfl
  obtain ⟨r15, hr15, H⟩ := bindS H
  have hl16 := len_laws_markLinkS r5 1 _ hr15
  apply Run.op; (apply L_callN (l := 506); ((apply ArgsX.cons (l := []) (m := []); (apply ArgX.io (p := .ref 100000 11 0 r5.length); rfl)); (apply ArgsX.cons (l := []) (m := []); (apply ArgX.val; (apply ArgV.val; rfl; rfl); rfl)); (apply ArgsX.nil)); (exact m_laws_markLinkS r5 1 _ hr15); rfl; rfl; rfl; rfl; (exact hle); rfl); rfl; rfl
  apply Run.op; (apply L_asg; rfl; rfl); rfl; rfl
  apply Run.done; refine ⟨fun h => Bool.noConfusion h, ?_⟩
  apply x3
  refine CodeT.weak (Ent.wakeO 1 (vs := [w0_0]) rfl oldl0) ?_
  (repeat apply CodeT.seq)
  refine CodeT.weak (Ent.relen (k := 6) (n' := r15.2.length) rfl (by first | (simp only [setI_len]; done) | (simp only [setI_len]; omega) | omega)) ?_
  apply CodeT.region (fun _ => PPm)
  apply Run.op; (apply L_asg; rfl; rfl); rfl; rfl
  apply Run.done; refine ⟨fun h => Bool.noConfusion h, ?_⟩
  apply x3
  (repeat apply CodeT.seq)
  apply CodeT.region (fun _ => PPm)
  apply Run.op; (apply L_mov; rfl; rfl); rfl; rfl
  apply Run.op; (apply L_mov; rfl; rfl); rfl; rfl
  obtain ⟨r17, hr17, H⟩ := bindS H
  apply Run.op; (apply L_call; ((apply ArgsV.cons; (apply ArgV.refS; rfl; rfl; (exact (SoftL.flat softLink _)))); (apply ArgsV.cons; (apply ArgV.val; rfl; rfl)); (apply ArgsV.nil)); (exact m_laws_heldLinkS r15.2 1 _ hr17); rfl; rfl; rfl); rfl; rfl
  apply Run.op; (apply L_asg; rfl; rfl); rfl; rfl
  apply Run.done; refine ⟨fun h => Bool.noConfusion h, ?_⟩
  apply x3
  (repeat apply CodeT.seq)
  apply CodeT.region (fun _ => PPm)
  apply Run.op; (apply L_mov; rfl; rfl); rfl; rfl
  apply Run.op; (apply L_lss; rfl; rfl; rfl); rfl; rfl
  apply Run.done; refine ⟨fun h => Bool.noConfusion h, ?_⟩
  apply x3
  (repeat apply CodeT.seq)
  refine CodeT.cond rfl (fun h => ?_) (fun h => ?_)
  replace H := ifT (of_decide_eq_true h) H
  (repeat apply CodeT.seq)
  apply CodeT.region (fun _ => PPm)
  apply Run.op; (apply L_asg; rfl; rfl); rfl; rfl
  apply Run.done; refine ⟨fun h => Bool.noConfusion h, ?_⟩
  apply x3
  apply CodeT.ret
  apply x1
  cases H
  apply x12
  exact RetIs.sc1 rfl
  replace H := ifF (of_decide_eq_false h) H
  (repeat apply CodeT.seq)
  apply CodeT.skip
  apply x3
  (repeat apply CodeT.seq)
  apply CodeT.region (fun _ => PPm)
  apply Run.op; (apply L_mov; rfl; rfl); rfl; rfl
  apply Run.op; (apply L_mov; rfl; rfl); rfl; rfl
  apply Run.op; (apply L_neq; rfl; rfl; rfl); rfl; rfl
  apply Run.done; refine ⟨fun h => Bool.noConfusion h, ?_⟩
  apply x3
  (repeat apply CodeT.seq)
  refine CodeT.cond rfl (fun h => ?_) (fun h => ?_)
  replace H := ifT (of_decide_eq_true h) H
  (repeat apply CodeT.seq)
  apply CodeT.region (fun _ => PPm)
  apply Run.op; (apply L_asg; rfl; rfl); rfl; rfl
  apply Run.done; refine ⟨fun h => Bool.noConfusion h, ?_⟩
  apply x3
  apply CodeT.ret
  apply x1
  cases H
  apply x12
  exact RetIs.sc1 rfl
  replace H := ifF (of_decide_eq_false h) H
  (repeat apply CodeT.seq)
  apply CodeT.skip
  apply x3
  (repeat apply CodeT.seq)
  apply CodeT.region (fun _ => PPm)
  apply Run.op; (apply Local.soft (p' := .agg (encTree a0)) (Soft.agg (SoftL.cons Soft.was SoftL.nil)); apply L_ldPA; rfl; rfl; rfl; rfl; (intro h; cases h); (first | exact .inl rfl | exact .inr rfl); rfl); rfl; rfl
  obtain ⟨r18, hr18, H⟩ := bindS H
  apply Run.op; (apply L_call; ((apply ArgsV.cons; (apply ArgV.val; rfl; rfl)); (apply ArgsV.nil)); (exact m_laws_toTree a0 _ hr18); rfl; rfl; rfl); rfl; rfl
  obtain ⟨r19, hr19, H⟩ := bindS H
  apply Run.op; (apply L_callW; ((apply ArgsV.cons; (apply ArgV.valS; rfl; rfl; (exact (Soft.agg (softTree _))))); (apply ArgsV.nil)); (exact m_impl_TreeLinks r18 _ hr19); (exact io1 hio _); rfl); rfl; rfl
  apply Run.op; (apply L_asg; rfl; rfl); rfl; rfl
  apply Run.done; refine ⟨fun h => Bool.noConfusion h, ?_⟩
  apply x3
  (repeat apply CodeT.seq)
  apply CodeT.region (fun _ => PPm)
  apply Run.op; (apply L_mov; rfl; rfl); rfl; rfl
  apply Run.op; (apply L_mov; rfl; rfl); rfl; rfl
  obtain ⟨r20, hr20, H⟩ := bindS H
  apply Run.op; (apply L_call; ((apply ArgsV.cons; (apply ArgV.refS; rfl; rfl; (exact (SoftL.flat softLink _)))); (apply ArgsV.cons; (apply ArgV.refS; rfl; rfl; (exact (SoftL.flat softLink _)))); (apply ArgsV.nil)); (exact m_laws_eqLinkS r19 r3 _ hr20); rfl; rfl; rfl); rfl; rfl
  apply Run.op; (apply L_not; rfl; rfl); rfl; rfl
  apply Run.done; refine ⟨fun h => Bool.noConfusion h, ?_⟩
  apply x3
  (repeat apply CodeT.seq)
  refine CodeT.cond rfl (fun h => ?_) (fun h => ?_)
  replace H := ifFb (notT h) H
  (repeat apply CodeT.seq)
  apply CodeT.region (fun _ => PPm)
  apply Run.op; (apply L_asg; rfl; rfl); rfl; rfl
  apply Run.done; refine ⟨fun h => Bool.noConfusion h, ?_⟩
  apply x3
  apply CodeT.ret
  apply x1
  cases H
  apply x12
  exact RetIs.sc1 rfl
  replace H := ifTb (notF h) H
  (repeat apply CodeT.seq)
  apply CodeT.skip
  apply x3
  (repeat apply CodeT.seq)
  apply CodeT.region (fun _ => PPm)
  apply Run.op; (apply L_asg; rfl; rfl); rfl; rfl
  apply Run.done; refine ⟨fun h => Bool.noConfusion h, ?_⟩
  apply x3
  (repeat apply CodeT.seq)
  apply CodeT.region (fun _ => PPm)
  apply Run.op; (apply L_mov; rfl; rfl); rfl; rfl
  apply Run.op; (apply L_mov; rfl; rfl); rfl; rfl
  obtain ⟨r21, hr21, H⟩ := bindS H
  apply Run.op; (apply L_call; ((apply ArgsV.cons; (apply ArgV.refS; rfl; rfl; (exact (SoftL.flat softLink _)))); (apply ArgsV.cons; (apply ArgV.val; rfl; rfl)); (apply ArgsV.nil)); (exact m_laws_heldLinkS r15.2 1 _ hr21); rfl; rfl; rfl); rfl; rfl
  apply Run.op; (apply L_asg; rfl; rfl); rfl; rfl
  apply Run.done; refine ⟨fun h => Bool.noConfusion h, ?_⟩
  apply x3
  (repeat apply CodeT.seq)
  apply CodeT.region (fun _ => PPm)
  apply Run.op; (apply L_mov; rfl; rfl); rfl; rfl
  apply Run.op; (apply L_lss; rfl; rfl; rfl); rfl; rfl
  apply Run.done; refine ⟨fun h => Bool.noConfusion h, ?_⟩
  apply x3
  (repeat apply CodeT.seq)
  refine CodeT.cond rfl (fun h => ?_) (fun h => ?_)
  replace H := ifT (of_decide_eq_true h) H
  (repeat apply CodeT.seq)
  apply CodeT.region (fun _ => PPm)
  apply Run.op; (apply L_asg; rfl; rfl); rfl; rfl
  apply Run.done; refine ⟨fun h => Bool.noConfusion h, ?_⟩
  apply x3
  apply CodeT.ret
  apply x1
  cases H
  apply x12
  exact RetIs.sc1 rfl
  replace H := ifF (of_decide_eq_false h) H
  (repeat apply CodeT.seq)
  apply CodeT.skip
  apply x3
  (repeat apply CodeT.seq)
  apply CodeT.region (fun _ => PPm)
  apply Run.op; (apply L_mov; rfl; rfl); rfl; rfl
  apply Run.op; (apply L_mov; rfl; rfl); rfl; rfl
  apply Run.op; (apply L_neq; rfl; rfl; rfl); rfl; rfl
  apply Run.done; refine ⟨fun h => Bool.noConfusion h, ?_⟩
  apply x3
  (repeat apply CodeT.seq)
  refine CodeT.cond rfl (fun h => ?_) (fun h => ?_)
  replace H := ifT (of_decide_eq_true h) H
  (repeat apply CodeT.seq)
  apply CodeT.region (fun _ => PPm)
  apply Run.op; (apply L_asg; rfl; rfl); rfl; rfl
  apply Run.done; refine ⟨fun h => Bool.noConfusion h, ?_⟩
  apply x3
  apply CodeT.ret
  apply x1
  cases H
  apply x12
  exact RetIs.sc1 rfl
  replace H := ifF (of_decide_eq_false h) H
  (repeat apply CodeT.seq)
  apply CodeT.skip
  apply x3
  (repeat apply CodeT.seq)
  apply CodeT.region (fun _ => PPm)
  apply Run.op; (apply L_asg; rfl; rfl); rfl; rfl
  apply Run.done; refine ⟨fun h => Bool.noConfusion h, ?_⟩
  apply x3
  apply CodeT.ret
  cases H
  apply x12
  exact RetIs.sc1 rfl
end Go.Ev
