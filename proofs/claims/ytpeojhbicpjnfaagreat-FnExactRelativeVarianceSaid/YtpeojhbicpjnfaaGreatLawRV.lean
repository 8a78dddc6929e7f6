/- 'FnExactRelativeVariance': the law returns true for all arguments, and they read afterwards as they read before. No condition. -/
import Derived.Test.YtpeojhbicpjnfaaGreatPb2
import Derived.Test.YtpeojhbicpjnfaaGreatLX4
import Derived.Test.YtpeojhbicpjnfaaGreatRows
set_option linter.all false
namespace Go.Proofs.YtpeojhbicpjnfaaGreat
open Go.ChangeShapes Go.WideShapes Go.ChangeAt Go.RowKit Go.Ev
theorem uP (y0 : Tree) (y1 : Int) (y2 : Int) (o0 : xP y0) (o1 : (okI .i64) y1) (o2 : (okI .i64) y2) : Meets Tryz.prog 8 [.agg (Ev.dC y0), .sc (.int .i64 y1), .sc (.int .i64 y2)] (.sc (.bool true)) true := Ev.aBm y0 y1 y2 true (Ev.aFo y0 y1 y2 o0 o1 o2)
theorem tY : ownKnob Tryz.prog.godebug = none := by kernel_rfl
theorem tR : laidOutB Tryz.prog = true := by kernel_rfl
set_option maxRecDepth 100000 in
theorem tA (os : Os) (started : os.Started) (H : Type) (enc : TypeId × Value → H) :
    ReturnsInHanded {} Tryz.checked os 8 .any (Rows.fnExactRelativeVarianceSpec.pre6 enc Tryz.prog Tryz.f8 Rows.fnExactRelativeVarianceRow.domain false) (Rows.fnExactRelativeVarianceSpec.post enc Tryz.prog Tryz.f8 false true false false) := by
  refine returnsInHanded_of_change (C := Tryz.checked) tY started (by kernel_rfl) Tryz.func8
    (ChangeSpec.witness6 (enc := enc) (C := Tryz.checked) false ⟨#[], #[.agg #[.slice none 0 0], .int .i64 0, .int .i64 0], []⟩ 8 (by kernel_rfl) (by kernel_rfl) (by kernel_rfl) (by kernel_rfl)) ?_
  intro W base args ds gs before hval0 hW hcnd _
  have hval : ∀ (j : Nat) t v, Tryz.f8.params[j]? = some t → args[j]? = some v → Value.okWide Tryz.prog W .any base t v := hval0
  have hW' := hW
  obtain ⟨p, q, hA0, hV, rfl, hfz, hnd⟩ := hW
  have hA : DataW.TrodAll enc Tryz.prog W 0 (fun _ => true) true Tryz.f8.params.toList args.toList ds p := hA0
  rw [Tryz.params8] at hA hval
  obtain ⟨v0, vs0, d0, ds0, p0, q0, hargs, rfl, rfl, h0, r0⟩ := trodAll_cons hA
  obtain ⟨v1, vs1, d1, ds1, p1, q1, rfl, rfl, rfl, h1, r1⟩ := trodAll_cons r0
  obtain ⟨v2, vs2, d2, ds2, p2, q2, rfl, rfl, rfl, h2, r2⟩ := trodAll_cons r1
  obtain ⟨rfl, rfl, rfl⟩ := trodAll_nil r2
  obtain rfl : args = #[v0, v1, v2] := by cases args; simp_all
  obtain ⟨rfl, rfl⟩ := trodVars_none hV
  obtain ⟨y0, o0, B0, hr0⟩ := aEJ Tryz.underlying39 (hval 0 39 v0 rfl rfl) h0
  obtain ⟨y1, o1, hr1⟩ := tF Tryz.underlying3 rfl (hval 1 3 v1 rfl rfl) h1 (fun _ => rfl)
  obtain ⟨B1, hr1⟩ := hr1 _ rfl
  obtain ⟨y2, o2, hr2⟩ := tF Tryz.underlying3 rfl (hval 2 3 v2 rfl rfl) h2 (fun _ => rfl)
  obtain ⟨B2, hr2⟩ := hr2 _ rfl
  refine (uP y0 y1 y2 o0 o1 o2 W #[v0, v1, v2] (fun _ => True) ⟨⟨B0, hr0, fun _ _ => trivial⟩, ⟨⟨B1, hr1, fun _ _ => trivial⟩, ⟨⟨B2, hr2, fun _ _ => trivial⟩, trivial⟩⟩⟩).mono fun e W' ⟨c, B', he, hb, hc, _⟩ => ?_
  simp only [RelV] at hc
  obtain ⟨rfl, _⟩ := hc
  exact ⟨_, he, wC hW' hb tR (by kernel_rfl) (by kernel_rfl) Tryz.underlying4 rfl ⟨rfl, rfl, rfl⟩⟩
set_option maxHeartbeats 4000000 in
theorem FnExactRelativeVarianceProved : Rows.FnExactRelativeVarianceSaid :=
  OpenClaim.holds_of_wide 8 Tryz.f8 rfl rfl rfl rfl rfl rfl rfl ⟨rfl, rfl, rfl, rfl, rfl⟩ rfl rfl rfl rfl rfl (by as_aux_lemma => kernel_rfl) Tryz.func8 (by as_aux_lemma => kernel_rfl)
    (of_decide_eq_true (by as_aux_lemma => kernel_rfl)) (by as_aux_lemma => unfold Func.isWrapper; first | (rw [if_pos (by decide +kernel)]; kernel_rfl) | (rw [if_neg (by decide +kernel)]; exact ⟨rfl, rfl⟩))
    (fun os started H enc _ => tA os started H enc)
end Go.Proofs.YtpeojhbicpjnfaaGreat
