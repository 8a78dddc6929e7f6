/- 'FnExactIsCliqueTree': the law returns true for all arguments, and they read afterwards as they read before. No condition. -/
import Derived.Test.YtbfjidhekfnfjaaP23
import Derived.Test.YtbfjidhekfnfjaaL1
import Derived.Test.YtbfjidhekfnfjaaRows
set_option linter.all false
namespace Go.Proofs.Ytbfjidhekfnfjaa
open Go.ChangeShapes Go.WideShapes Go.ChangeAt Go.RowKit Go.Ev
theorem c_FnExactIsCliqueTree (y0 : (List Clique)) (o0 : (okL okClique) y0) : Meets Try.prog 8 [.sl y0.length (y0.flatMap encClique)] (.sc (.bool true)) true := Ev.m_laws_FnExactIsCliqueTree y0 true (Ev.law_IsCliqueTree y0 o0)
theorem ownFnExactIsCliqueTree : ownKnob Try.prog.godebug = none := by kernel_rfl
theorem laidFnExactIsCliqueTree : laidOutB Try.prog = true := by kernel_rfl
set_option maxRecDepth 100000 in
theorem liftedFnExactIsCliqueTree (os : Os) (started : os.Started) (H : Type) (enc : TypeId × Value → H) :
    ReturnsInHanded {} Try.checked os 8 .any (Rows.fnExactIsCliqueTreeSpec.pre6 enc Try.prog Try.f8 Rows.fnExactIsCliqueTreeRow.domain false) (Rows.fnExactIsCliqueTreeSpec.post enc Try.prog Try.f8 false true false false) := by
  refine returnsInHanded_of_change (C := Try.checked) ownFnExactIsCliqueTree started (by kernel_rfl) Try.func8
    (ChangeSpec.witness6 (enc := enc) (C := Try.checked) false ⟨#[], #[.slice none 0 0], []⟩ 8 (by kernel_rfl) (by kernel_rfl) (by kernel_rfl) (by kernel_rfl)) ?_
  intro W base args ds gs before hval0 hW hcnd _
  have hval : ∀ (j : Nat) t v, Try.f8.params[j]? = some t → args[j]? = some v → Value.okWide Try.prog W .any base t v := hval0
  have hW' := hW
  obtain ⟨p, q, hA0, hV, rfl, hfz, hnd⟩ := hW
  have hA : DataW.TrodAll enc Try.prog W 0 (fun _ => true) true Try.f8.params.toList args.toList ds p := hA0
  rw [Try.params8] at hA hval
  obtain ⟨v0, vs0, d0, ds0, p0, q0, hargs, rfl, rfl, h0, r0⟩ := trodAll_cons hA
  obtain ⟨rfl, rfl, rfl⟩ := trodAll_nil r0
  obtain rfl : args = #[v0] := by cases args; simp_all
  obtain ⟨rfl, rfl⟩ := trodVars_none hV
  obtain ⟨y0, o0, hr0⟩ := dec_cell Try.underlying41 rfl (hval 0 41 v0 rfl rfl) h0 (fun _ => rfl)
  obtain ⟨B0, hr0⟩ := hr0 _ rfl
  refine (c_FnExactIsCliqueTree y0 o0 W #[v0] (fun _ => True) ⟨⟨B0, hr0, fun _ _ => trivial⟩, trivial⟩).mono fun e W' ⟨c, B', he, hb, hc, _⟩ => ?_
  simp only [RelV] at hc
  obtain ⟨rfl, _⟩ := hc
  exact ⟨_, he, post_below hW' hb laidFnExactIsCliqueTree (by kernel_rfl) (by kernel_rfl) Try.underlying4 rfl ⟨rfl, rfl, rfl⟩⟩
theorem FnExactIsCliqueTreeProved : Rows.FnExactIsCliqueTreeSaid :=
  OpenClaim.holds_of_wide 8 Try.f8 rfl rfl rfl rfl rfl rfl rfl ⟨rfl, rfl, rfl, rfl, rfl⟩ rfl rfl rfl rfl rfl (by kernel_rfl) Try.func8 (by kernel_rfl)
    (of_decide_eq_true (by kernel_rfl)) (by unfold Func.isWrapper; first | (rw [if_pos (by decide +kernel)]; kernel_rfl) | (rw [if_neg (by decide +kernel)]; exact ⟨rfl, rfl⟩))
    (fun os started H enc _ => liftedFnExactIsCliqueTree os started H enc)
end Go.Proofs.Ytbfjidhekfnfjaa
