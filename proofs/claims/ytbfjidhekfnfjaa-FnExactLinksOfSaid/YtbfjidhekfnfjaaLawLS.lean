/- 'FnExactLinksOf': the law returns true for all arguments, and they read afterwards as they read before. No condition. -/
import Derived.Test.YtbfjidhekfnfjaaPB
import Derived.Test.YtbfjidhekfnfjaaL3
import Derived.Test.YtbfjidhekfnfjaaRows
set_option linter.all false
namespace Go.Proofs.Ytbfjidhekfnfjaa
open Go.ChangeShapes Go.WideShapes Go.ChangeAt Go.RowKit Go.Ev
theorem c_FnExactLinksOf (y0 : (List Factor)) (y1 : (List Int)) (o0 : (okL okFactor) y0) (o1 : (okL (okI .i64)) y1) : Meets Try.prog 13 [.sl y0.length (y0.flatMap encFactor), .sl y1.length (y1.flatMap (encI .i64))] (.sc (.bool true)) true := Ev.m_laws_FnExactLinksOf y0 y1 true (Ev.law_LinksOf y0 y1 o0 o1)
theorem ownFnExactLinksOf : ownKnob Try.prog.godebug = none := by kernel_rfl
theorem laidFnExactLinksOf : laidOutB Try.prog = true := by kernel_rfl
set_option maxRecDepth 100000 in
theorem liftedFnExactLinksOf (os : Os) (started : os.Started) (H : Type) (enc : TypeId × Value → H) :
    ReturnsInHanded {} Try.checked os 13 .any (Rows.fnExactLinksOfSpec.pre6 enc Try.prog Try.f13 Rows.fnExactLinksOfRow.domain false) (Rows.fnExactLinksOfSpec.post enc Try.prog Try.f13 false true false false) := by
  refine returnsInHanded_of_change (C := Try.checked) ownFnExactLinksOf started (by kernel_rfl) Try.func13
    (ChangeSpec.witness6 (enc := enc) (C := Try.checked) false ⟨#[], #[.slice none 0 0, .slice none 0 0], []⟩ 8 (by kernel_rfl) (by kernel_rfl) (by kernel_rfl) (by kernel_rfl)) ?_
  intro W base args ds gs before hval0 hW hcnd _
  have hval : ∀ (j : Nat) t v, Try.f13.params[j]? = some t → args[j]? = some v → Value.okWide Try.prog W .any base t v := hval0
  have hW' := hW
  obtain ⟨p, q, hA0, hV, rfl, hfz, hnd⟩ := hW
  have hA : DataW.TrodAll enc Try.prog W 0 (fun _ => true) true Try.f13.params.toList args.toList ds p := hA0
  rw [Try.params13] at hA hval
  obtain ⟨v0, vs0, d0, ds0, p0, q0, hargs, rfl, rfl, h0, r0⟩ := trodAll_cons hA
  obtain ⟨v1, vs1, d1, ds1, p1, q1, rfl, rfl, rfl, h1, r1⟩ := trodAll_cons r0
  obtain ⟨rfl, rfl, rfl⟩ := trodAll_nil r1
  obtain rfl : args = #[v0, v1] := by cases args; simp_all
  obtain ⟨rfl, rfl⟩ := trodVars_none hV
  obtain ⟨y0, o0, hr0⟩ := dec_cell Try.underlying22 rfl (hval 0 22 v0 rfl rfl) h0 (fun _ => rfl)
  obtain ⟨B0, hr0⟩ := hr0 _ rfl
  obtain ⟨y1, o1, hr1⟩ := dec_cell Try.underlying24 rfl (hval 1 24 v1 rfl rfl) h1 (fun _ => rfl)
  obtain ⟨B1, hr1⟩ := hr1 _ rfl
  refine (c_FnExactLinksOf y0 y1 o0 o1 W #[v0, v1] (fun _ => True) ⟨⟨B0, hr0, fun _ _ => trivial⟩, ⟨⟨B1, hr1, fun _ _ => trivial⟩, trivial⟩⟩).mono fun e W' ⟨c, B', he, hb, hc, _⟩ => ?_
  simp only [RelV] at hc
  obtain ⟨rfl, _⟩ := hc
  exact ⟨_, he, post_below hW' hb laidFnExactLinksOf (by kernel_rfl) (by kernel_rfl) Try.underlying4 rfl ⟨rfl, rfl, rfl⟩⟩
theorem FnExactLinksOfProved : Rows.FnExactLinksOfSaid :=
  OpenClaim.holds_of_wide 13 Try.f13 rfl rfl rfl rfl rfl rfl rfl ⟨rfl, rfl, rfl, rfl, rfl⟩ rfl rfl rfl rfl rfl (by kernel_rfl) Try.func13 (by kernel_rfl)
    (of_decide_eq_true (by kernel_rfl)) (by unfold Func.isWrapper; first | (rw [if_pos (by decide +kernel)]; kernel_rfl) | (rw [if_neg (by decide +kernel)]; exact ⟨rfl, rfl⟩))
    (fun os started H enc _ => liftedFnExactLinksOf os started H enc)
end Go.Proofs.Ytbfjidhekfnfjaa
