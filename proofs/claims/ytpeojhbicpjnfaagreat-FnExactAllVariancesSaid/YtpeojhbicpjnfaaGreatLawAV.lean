/- 'FnExactAllVariances': the law returns true for all arguments, and they read afterwards as they read before. No condition. -/
import Derived.Test.YtpeojhbicpjnfaaGreatPb3
import Derived.Test.YtpeojhbicpjnfaaGreatLX4
import Derived.Test.YtpeojhbicpjnfaaGreatRows
set_option linter.all false
namespace Go.Proofs.YtpeojhbicpjnfaaGreat
open Go.ChangeShapes Go.WideShapes Go.ChangeAt Go.RowKit Go.Ev
theorem wU (y0 : Tree) (o0 : xA y0) : Meets Tryz.prog 10 [.agg (Ev.cS y0)] (.sc (.bool true)) true := Ev.aCJ y0 true (Ev.aGR y0 o0)
theorem vO : ownKnob Tryz.prog.godebug = none := by kernel_rfl
theorem vB : laidOutB Tryz.prog = true := by kernel_rfl
set_option maxRecDepth 100000 in
theorem uA (os : Os) (started : os.Started) (H : Type) (enc : TypeId × Value → H) :
    ReturnsInHanded {} Tryz.checked os 10 .any (Rows.fnExactAllVariancesSpec.pre6 enc Tryz.prog Tryz.f10 Rows.fnExactAllVariancesRow.domain false) (Rows.fnExactAllVariancesSpec.post enc Tryz.prog Tryz.f10 false true false false) := by
  refine returnsInHanded_of_change (C := Tryz.checked) vO started (by kernel_rfl) Tryz.func10
    (ChangeSpec.witness6 (enc := enc) (C := Tryz.checked) false ⟨#[], #[.agg #[.slice none 0 0]], []⟩ 8 (by kernel_rfl) (by kernel_rfl) (by kernel_rfl) (by kernel_rfl)) ?_
  intro W base args ds gs before hval0 hW hcnd _
  have hval : ∀ (j : Nat) t v, Tryz.f10.params[j]? = some t → args[j]? = some v → Value.okWide Tryz.prog W .any base t v := hval0
  have hW' := hW
  obtain ⟨p, q, hA0, hV, rfl, hfz, hnd⟩ := hW
  have hA : DataW.TrodAll enc Tryz.prog W 0 (fun _ => true) true Tryz.f10.params.toList args.toList ds p := hA0
  rw [Tryz.params10] at hA hval
  obtain ⟨v0, vs0, d0, ds0, p0, q0, hargs, rfl, rfl, h0, r0⟩ := trodAll_cons hA
  obtain ⟨rfl, rfl, rfl⟩ := trodAll_nil r0
  obtain rfl : args = #[v0] := by cases args; simp_all
  obtain ⟨rfl, rfl⟩ := trodVars_none hV
  obtain ⟨y0, o0, B0, hr0⟩ := aEx Tryz.underlying39 (hval 0 39 v0 rfl rfl) h0
  refine (wU y0 o0 W #[v0] (fun _ => True) ⟨⟨B0, hr0, fun _ _ => trivial⟩, trivial⟩).mono fun e W' ⟨c, B', he, hb, hc, _⟩ => ?_
  simp only [RelV] at hc
  obtain ⟨rfl, _⟩ := hc
  exact ⟨_, he, zV hW' hb vB (by kernel_rfl) (by kernel_rfl) Tryz.underlying4 rfl ⟨rfl, rfl, rfl⟩⟩
set_option maxHeartbeats 4000000 in
theorem FnExactAllVariancesProved : Rows.FnExactAllVariancesSaid :=
  OpenClaim.holds_of_wide 10 Tryz.f10 rfl rfl rfl rfl rfl rfl rfl ⟨rfl, rfl, rfl, rfl, rfl⟩ rfl rfl rfl rfl rfl (by as_aux_lemma => kernel_rfl) Tryz.func10 (by as_aux_lemma => kernel_rfl)
    (of_decide_eq_true (by as_aux_lemma => kernel_rfl)) (by as_aux_lemma => unfold Func.isWrapper; first | (rw [if_pos (by decide +kernel)]; kernel_rfl) | (rw [if_neg (by decide +kernel)]; exact ⟨rfl, rfl⟩))
    (fun os started H enc _ => uA os started H enc)
end Go.Proofs.YtpeojhbicpjnfaaGreat
