/- 'FnExactInsertAll': the law returns true for all arguments, and they read afterwards as they read before. No condition. -/
import Derived.Test.YthjpgecdkmiadaaGreatPb4
import Derived.Test.YthjpgecdkmiadaaGreatL4
import Derived.Test.YthjpgecdkmiadaaGreatRows
set_option linter.all false
namespace Go.Proofs.YthjpgecdkmiadaaGreat
open Go.ChangeShapes Go.WideShapes Go.ChangeAt Go.RowKit Go.Ev
theorem aCy (y0 : Tree) (y1 : (List Link)) (o0 : aHb y0) (o1 : (okL aA3) y1) : Meets Tryz.prog 10 [.agg (aZ y0), .sl y1.length (y1.flatMap aD)] (.sc (.bool true)) true := Ev.aGv  true (Ev.aL9 y0 y1 o0 o1)
theorem aBP : ownKnob Tryz.prog.godebug = none := by kernel_rfl
theorem aBj : laidOutB Tryz.prog = true := by kernel_rfl
set_option maxRecDepth 100000 in
theorem aAs (os : Os) (started : os.Started) (H : Type) (enc : TypeId × Value → H) :
    ReturnsInHanded {} Tryz.checked os 10 .any (Rows.fnExactInsertAllSpec.pre6 enc Tryz.prog Tryz.f10 Rows.fnExactInsertAllRow.domain false) (Rows.fnExactInsertAllSpec.post enc Tryz.prog Tryz.f10 false true false false) := by
  refine returnsInHanded_of_change (C := Tryz.checked) aBP started (by kernel_rfl) Tryz.func10
    (ChangeSpec.witness6 (enc := enc) (C := Tryz.checked) false ⟨#[], #[.agg #[.slice none 0 0], .slice none 0 0], []⟩ 8 (by kernel_rfl) (by kernel_rfl) (by kernel_rfl) (by kernel_rfl)) ?_
  intro W base args ds gs before hval0 hW hcnd _
  have hval : ∀ (j : Nat) t v, Tryz.f10.params[j]? = some t → args[j]? = some v → Value.okWide Tryz.prog W .any base t v := hval0
  have hW' := hW
  obtain ⟨p, q, hA0, hV, rfl, hfz, hnd⟩ := hW
  have hA : DataW.TrodAll enc Tryz.prog W 0 (fun _ => true) true Tryz.f10.params.toList args.toList ds p := hA0
  rw [Tryz.params10] at hA hval
  obtain ⟨v0, vs0, d0, ds0, p0, q0, hargs, rfl, rfl, h0, r0⟩ := trodAll_cons hA
  obtain ⟨v1, vs1, d1, ds1, p1, q1, rfl, rfl, rfl, h1, r1⟩ := trodAll_cons r0
  obtain ⟨rfl, rfl, rfl⟩ := trodAll_nil r1
  obtain rfl : args = #[v0, v1] := by cases args; simp_all
  obtain ⟨rfl, rfl⟩ := trodVars_none hV
  obtain ⟨y0, o0, B0, hr0⟩ := aMx Tryz.underlying42 (hval 0 42 v0 rfl rfl) h0
  obtain ⟨y1, o1, hr1⟩ := aLM Tryz.underlying22 rfl (hval 1 22 v1 rfl rfl) h1 (fun _ => rfl)
  obtain ⟨B1, hr1⟩ := hr1 _ rfl
  refine (aCy y0 y1 o0 o1 W #[v0, v1] (fun _ => True) ⟨⟨B0, hr0, fun _ _ => trivial⟩, ⟨⟨B1, hr1, fun _ _ => trivial⟩, trivial⟩⟩).mono fun e W' ⟨c, B', he, hb, hc, _⟩ => ?_
  simp only [RelV] at hc
  obtain ⟨rfl, _⟩ := hc
  exact ⟨_, he, aIR hW' hb aBj (by kernel_rfl) (by kernel_rfl) Tryz.underlying4 rfl ⟨rfl, rfl, rfl⟩⟩
set_option maxHeartbeats 4000000 in
theorem FnExactInsertAllProved : Rows.FnExactInsertAllSaid :=
  OpenClaim.holds_of_wide 10 Tryz.f10 rfl rfl rfl rfl rfl rfl rfl ⟨rfl, rfl, rfl, rfl, rfl⟩ rfl rfl rfl rfl rfl (by as_aux_lemma => kernel_rfl) Tryz.func10 (by as_aux_lemma => kernel_rfl)
    (of_decide_eq_true (by as_aux_lemma => kernel_rfl)) (by as_aux_lemma => unfold Func.isWrapper; first | (rw [if_pos (by decide +kernel)]; kernel_rfl) | (rw [if_neg (by decide +kernel)]; exact ⟨rfl, rfl⟩))
    (fun os started H enc _ => aAs os started H enc)
end Go.Proofs.YthjpgecdkmiadaaGreat
