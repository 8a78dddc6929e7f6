/- 'FnExactLinkOfFactor': the law returns true for all arguments, and they read afterwards as they read before. No condition. -/
import Derived.Test.YtbfjidhekfnfjaaPB
import Derived.Test.YtbfjidhekfnfjaaL2
import Derived.Test.YtbfjidhekfnfjaaRows
set_option linter.all false
namespace Go.Proofs.Ytbfjidhekfnfjaa
open Go.ChangeShapes Go.WideShapes Go.ChangeAt Go.RowKit Go.Ev
theorem c_FnExactLinkOfFactor (y0 : (List Factor)) (y1 : Factor) (o0 : (okL okFactor) y0) (o1 : okFactor y1) : Meets Try.prog 12 [.sl y0.length (y0.flatMap encFactor), .agg (encFactor y1)] (.sc (.bool true)) true := Ev.m_laws_FnExactLinkOfFactor y0 y1 true (Ev.law_LinkOfFactor y0 y1 o0 o1)
theorem ownFnExactLinkOfFactor : ownKnob Try.prog.godebug = none := by kernel_rfl
theorem laidFnExactLinkOfFactor : laidOutB Try.prog = true := by kernel_rfl
set_option maxRecDepth 100000 in
theorem liftedFnExactLinkOfFactor (os : Os) (started : os.Started) (H : Type) (enc : TypeId × Value → H) :
    ReturnsInHanded {} Try.checked os 12 .any (Rows.fnExactLinkOfFactorSpec.pre6 enc Try.prog Try.f12 Rows.fnExactLinkOfFactorRow.domain false) (Rows.fnExactLinkOfFactorSpec.post enc Try.prog Try.f12 false true false false) := by
  refine returnsInHanded_of_change (C := Try.checked) ownFnExactLinkOfFactor started (by kernel_rfl) Try.func12
    (ChangeSpec.witness6 (enc := enc) (C := Try.checked) false ⟨#[], #[.slice none 0 0, .agg #[.int .i64 0, .int .i64 0, .string ByteArray.empty, .string ByteArray.empty, .int .i64 0, .int .i64 0, .int .i64 0, .int .i64 0]], []⟩ 8 (by kernel_rfl) (by kernel_rfl) (by kernel_rfl) (by kernel_rfl)) ?_
  intro W base args ds gs before hval0 hW hcnd _
  have hval : ∀ (j : Nat) t v, Try.f12.params[j]? = some t → args[j]? = some v → Value.okWide Try.prog W .any base t v := hval0
  have hW' := hW
  obtain ⟨p, q, hA0, hV, rfl, hfz, hnd⟩ := hW
  have hA : DataW.TrodAll enc Try.prog W 0 (fun _ => true) true Try.f12.params.toList args.toList ds p := hA0
  rw [Try.params12] at hA hval
  obtain ⟨v0, vs0, d0, ds0, p0, q0, hargs, rfl, rfl, h0, r0⟩ := trodAll_cons hA
  obtain ⟨v1, vs1, d1, ds1, p1, q1, rfl, rfl, rfl, h1, r1⟩ := trodAll_cons r0
  obtain ⟨rfl, rfl, rfl⟩ := trodAll_nil r1
  obtain rfl : args = #[v0, v1] := by cases args; simp_all
  obtain ⟨rfl, rfl⟩ := trodVars_none hV
  obtain ⟨y0, o0, hr0⟩ := dec_cell Try.underlying22 rfl (hval 0 22 v0 rfl rfl) h0 (fun _ => rfl)
  obtain ⟨B0, hr0⟩ := hr0 _ rfl
  obtain ⟨y1, o1, B1, hr1⟩ := dec_agg Try.underlying76 (hval 1 76 v1 rfl rfl) h1
  refine (c_FnExactLinkOfFactor y0 y1 o0 o1 W #[v0, v1] (fun _ => True) ⟨⟨B0, hr0, fun _ _ => trivial⟩, ⟨⟨B1, hr1, fun _ _ => trivial⟩, trivial⟩⟩).mono fun e W' ⟨c, B', he, hb, hc, _⟩ => ?_
  simp only [RelV] at hc
  obtain ⟨rfl, _⟩ := hc
  exact ⟨_, he, post_below hW' hb laidFnExactLinkOfFactor (by kernel_rfl) (by kernel_rfl) Try.underlying4 rfl ⟨rfl, rfl, rfl⟩⟩
theorem FnExactLinkOfFactorProved : Rows.FnExactLinkOfFactorSaid :=
  OpenClaim.holds_of_wide 12 Try.f12 rfl rfl rfl rfl rfl rfl rfl ⟨rfl, rfl, rfl, rfl, rfl⟩ rfl rfl rfl rfl rfl (by kernel_rfl) Try.func12 (by kernel_rfl)
    (of_decide_eq_true (by kernel_rfl)) (by unfold Func.isWrapper; first | (rw [if_pos (by decide +kernel)]; kernel_rfl) | (rw [if_neg (by decide +kernel)]; exact ⟨rfl, rfl⟩))
    (fun os started H enc _ => liftedFnExactLinkOfFactor os started H enc)
end Go.Proofs.Ytbfjidhekfnfjaa
