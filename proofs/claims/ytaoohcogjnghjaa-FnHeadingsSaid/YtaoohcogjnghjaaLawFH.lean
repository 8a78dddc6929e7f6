/- 'FnHeadings': the law returns true for all arguments, and they read afterwards as they read before. No condition. -/
import Derived.Test.YtaoohcogjnghjaaPb1
import Derived.Test.YtaoohcogjnghjaaL4
import Derived.Test.YtaoohcogjnghjaaRows
set_option linter.all false
namespace Go.Proofs.Ytaoohcogjnghjaa
open Go.ChangeShapes Go.WideShapes Go.ChangeAt Go.RowKit Go.Ev
theorem qG (y0 : (List Int)) (o0 : (okL (okI .u8)) y0) : Meets Try.prog 6 [.sl y0.length (y0.flatMap (Ev.bB .u8))] (.sc (.bool true)) true := Ev.tE  true (Ev.uY y0 o0)
theorem oJ : ownKnob Try.prog.godebug = none := by kernel_rfl
theorem nX : laidOutB Try.prog = true := by kernel_rfl
set_option maxRecDepth 100000 in
theorem lT (os : Os) (started : os.Started) (H : Type) (enc : TypeId × Value → H) :
    ReturnsInHanded {} Try.checked os 6 .any (Rows.fnHeadingsSpec.pre6 enc Try.prog Try.f6 Rows.fnHeadingsRow.domain false) (Rows.fnHeadingsSpec.post enc Try.prog Try.f6 false true false false) := by
  refine returnsInHanded_of_change (C := Try.checked) oJ started (by kernel_rfl) Try.func6
    (ChangeSpec.witness6 (enc := enc) (C := Try.checked) false ⟨#[], #[.slice none 0 0], []⟩ 8 (by kernel_rfl) (by kernel_rfl) (by kernel_rfl) (by kernel_rfl)) ?_
  intro W base args ds gs before hval0 hW hcnd _
  have hval : ∀ (j : Nat) t v, Try.f6.params[j]? = some t → args[j]? = some v → Value.okWide Try.prog W .any base t v := hval0
  have hW' := hW
  obtain ⟨p, q, hA0, hV, rfl, hfz, hnd⟩ := hW
  have hA : DataW.TrodAll enc Try.prog W 0 (fun _ => true) true Try.f6.params.toList args.toList ds p := hA0
  rw [Try.params6] at hA hval
  obtain ⟨v0, vs0, d0, ds0, p0, q0, hargs, rfl, rfl, h0, r0⟩ := trodAll_cons hA
  obtain ⟨rfl, rfl, rfl⟩ := trodAll_nil r0
  obtain rfl : args = #[v0] := by cases args; simp_all
  obtain ⟨rfl, rfl⟩ := trodVars_none hV
  obtain ⟨y0, o0, hr0⟩ := vJ Try.underlying37 rfl (hval 0 37 v0 rfl rfl) h0 (fun _ => rfl)
  obtain ⟨B0, hr0⟩ := hr0 _ rfl
  refine (qG y0 o0 W #[v0] (fun _ => True) ⟨⟨B0, hr0, fun _ _ => trivial⟩, trivial⟩).mono fun e W' ⟨c, B', he, hb, hc, _⟩ => ?_
  simp only [RelV] at hc
  obtain ⟨rfl, _⟩ := hc
  exact ⟨_, he, rU hW' hb nX (by kernel_rfl) (by kernel_rfl) Try.underlying4 rfl ⟨rfl, rfl, rfl⟩⟩
set_option maxHeartbeats 4000000 in
theorem FnHeadingsProved : Rows.FnHeadingsSaid :=
  OpenClaim.holds_of_wide 6 Try.f6 rfl rfl rfl rfl rfl rfl rfl ⟨rfl, rfl, rfl, rfl, rfl⟩ rfl rfl rfl rfl rfl (by as_aux_lemma => kernel_rfl) Try.func6 (by as_aux_lemma => kernel_rfl)
    (of_decide_eq_true (by as_aux_lemma => kernel_rfl)) (by as_aux_lemma => unfold Func.isWrapper; first | (rw [if_pos (by decide +kernel)]; kernel_rfl) | (rw [if_neg (by decide +kernel)]; exact ⟨rfl, rfl⟩))
    (fun os started H enc _ => lT os started H enc)
end Go.Proofs.Ytaoohcogjnghjaa
