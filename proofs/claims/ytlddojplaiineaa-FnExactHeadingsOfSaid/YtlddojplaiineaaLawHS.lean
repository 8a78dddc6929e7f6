/- 'FnExactHeadingsOf': the law returns true for all arguments, and they read afterwards as they read before. No condition. -/
import Derived.Test.YtlddojplaiineaaL3
import Derived.Test.YtlddojplaiineaaP8
import Derived.Test.YtlddojplaiineaaRows
set_option linter.all false
namespace Go.Proofs.Ytlddojplaiineaa
open Go.ChangeShapes Go.WideShapes Go.ChangeAt Go.RowKit Go.Ev
theorem c_FnExactHeadingsOf (y0 : (List Factor)) (o0 : (okL okFactor) y0) : Meets Try.prog 12 [.sl y0.length (y0.flatMap encFactor)] (.sc (.bool true)) true := Ev.m_laws_FnExactHeadingsOf y0 true (Ev.law_HeadingsOf y0 o0)
theorem ownFnExactHeadingsOf : ownKnob Try.prog.godebug = none := by kernel_rfl
theorem laidFnExactHeadingsOf : laidOutB Try.prog = true := by kernel_rfl
set_option maxRecDepth 100000 in
theorem liftedFnExactHeadingsOf (os : Os) (started : os.Started) (H : Type) (enc : TypeId × Value → H) :
    ReturnsInHanded {} Try.checked os 12 .any (Rows.fnExactHeadingsOfSpec.pre6 enc Try.prog Try.f12 Rows.fnExactHeadingsOfRow.domain false) (Rows.fnExactHeadingsOfSpec.post enc Try.prog Try.f12 false true false false) := by
  refine returnsInHanded_of_change (C := Try.checked) ownFnExactHeadingsOf started (by kernel_rfl) Try.func12
    (ChangeSpec.witness6 (enc := enc) (C := Try.checked) false ⟨#[], #[.slice none 0 0], []⟩ 8 (by kernel_rfl) (by kernel_rfl) (by kernel_rfl) (by kernel_rfl)) ?_
  intro W base args ds gs before hval0 hW hcnd _
  have hval : ∀ (j : Nat) t v, Try.f12.params[j]? = some t → args[j]? = some v → Value.okWide Try.prog W .any base t v := hval0
  have hW' := hW
  obtain ⟨p, q, hA0, hV, rfl, hfz, hnd⟩ := hW
  have hA : DataW.TrodAll enc Try.prog W 0 (fun _ => true) true Try.f12.params.toList args.toList ds p := hA0
  rw [Try.params12] at hA hval
  obtain ⟨v0, vs0, d0, ds0, p0, q0, hargs, rfl, rfl, h0, r0⟩ := trodAll_cons hA
  obtain ⟨rfl, rfl, rfl⟩ := trodAll_nil r0
  obtain rfl : args = #[v0] := by cases args; simp_all
  obtain ⟨rfl, rfl⟩ := trodVars_none hV
  obtain ⟨y0, o0, hr0⟩ := dec_cell Try.underlying22 rfl (hval 0 22 v0 rfl rfl) h0 (fun _ => rfl)
  obtain ⟨B0, hr0⟩ := hr0 _ rfl
  refine (c_FnExactHeadingsOf y0 o0 W #[v0] (fun _ => True) ⟨⟨B0, hr0, fun _ _ => trivial⟩, trivial⟩).mono fun e W' ⟨c, B', he, hb, hc, _⟩ => ?_
  simp only [RelV] at hc
  obtain ⟨rfl, _⟩ := hc
  exact ⟨_, he, post_below hW' hb laidFnExactHeadingsOf (by kernel_rfl) (by kernel_rfl) Try.underlying4 rfl ⟨rfl, rfl, rfl⟩⟩
theorem FnExactHeadingsOfProved : Rows.FnExactHeadingsOfSaid :=
  OpenClaim.holds_of_wide 12 Try.f12 rfl rfl rfl rfl rfl rfl rfl ⟨rfl, rfl, rfl, rfl, rfl⟩ rfl rfl rfl rfl rfl (by kernel_rfl) Try.func12 (by kernel_rfl)
    (of_decide_eq_true (by kernel_rfl)) (by unfold Func.isWrapper; first | (rw [if_pos (by decide +kernel)]; kernel_rfl) | (rw [if_neg (by decide +kernel)]; exact ⟨rfl, rfl⟩))
    (fun os started H enc _ => liftedFnExactHeadingsOf os started H enc)
end Go.Proofs.Ytlddojplaiineaa
