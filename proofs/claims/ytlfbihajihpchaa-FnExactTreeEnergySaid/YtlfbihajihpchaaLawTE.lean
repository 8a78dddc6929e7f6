/- 'FnExactTreeEnergy': the law returns true for all arguments, and they read afterwards as they read before. No condition. -/
import Derived.Test.YtlfbihajihpchaaPB
import Derived.Test.YtlfbihajihpchaaL2
import Derived.Test.YtlfbihajihpchaaRows
set_option linter.all false
namespace Go.Proofs.Ytlfbihajihpchaa
open Go.ChangeShapes Go.WideShapes Go.ChangeAt Go.RowKit Go.Ev
theorem c_FnExactTreeEnergy (y0 : Tree) (o0 : okTree y0) : Meets Try.prog 3 [.agg (encTree y0)] (.sc (.bool true)) true := Ev.m_laws_FnExactTreeEnergy y0 true (Ev.law_TreeEnergy y0 o0)
theorem ownFnExactTreeEnergy : ownKnob Try.prog.godebug = none := by kernel_rfl
theorem laidFnExactTreeEnergy : laidOutB Try.prog = true := by kernel_rfl
set_option maxRecDepth 100000 in
theorem liftedFnExactTreeEnergy (os : Os) (started : os.Started) (H : Type) (enc : TypeId × Value → H) :
    ReturnsInHanded {} Try.checked os 3 .any (Rows.fnExactTreeEnergySpec.pre6 enc Try.prog Try.f3 Rows.fnExactTreeEnergyRow.domain false) (Rows.fnExactTreeEnergySpec.post enc Try.prog Try.f3 false true false false) := by
  refine returnsInHanded_of_change (C := Try.checked) ownFnExactTreeEnergy started (by kernel_rfl) Try.func3
    (ChangeSpec.witness6 (enc := enc) (C := Try.checked) false ⟨#[], #[.agg #[.slice none 0 0]], []⟩ 8 (by kernel_rfl) (by kernel_rfl) (by kernel_rfl) (by kernel_rfl)) ?_
  intro W base args ds gs before hval0 hW hcnd _
  have hval : ∀ (j : Nat) t v, Try.f3.params[j]? = some t → args[j]? = some v → Value.okWide Try.prog W .any base t v := hval0
  have hW' := hW
  obtain ⟨p, q, hA0, hV, rfl, hfz, hnd⟩ := hW
  have hA : DataW.TrodAll enc Try.prog W 0 (fun _ => true) true Try.f3.params.toList args.toList ds p := hA0
  rw [Try.params3] at hA hval
  obtain ⟨v0, vs0, d0, ds0, p0, q0, hargs, rfl, rfl, h0, r0⟩ := trodAll_cons hA
  obtain ⟨rfl, rfl, rfl⟩ := trodAll_nil r0
  obtain rfl : args = #[v0] := by cases args; simp_all
  obtain ⟨rfl, rfl⟩ := trodVars_none hV
  obtain ⟨y0, o0, B0, hr0⟩ := dec_agg Try.underlying24 (hval 0 24 v0 rfl rfl) h0
  refine (c_FnExactTreeEnergy y0 o0 W #[v0] (fun _ => True) ⟨⟨B0, hr0, fun _ _ => trivial⟩, trivial⟩).mono fun e W' ⟨c, B', he, hb, hc, _⟩ => ?_
  simp only [RelV] at hc
  obtain ⟨rfl, _⟩ := hc
  exact ⟨_, he, post_below hW' hb laidFnExactTreeEnergy (by kernel_rfl) (by kernel_rfl) Try.underlying4 rfl ⟨rfl, rfl, rfl⟩⟩
theorem FnExactTreeEnergyProved : Rows.FnExactTreeEnergySaid :=
  OpenClaim.holds_of_wide 3 Try.f3 rfl rfl rfl rfl rfl rfl rfl ⟨rfl, rfl, rfl, rfl, rfl⟩ rfl rfl rfl rfl rfl (by kernel_rfl) Try.func3 (by kernel_rfl)
    (of_decide_eq_true (by kernel_rfl)) (by unfold Func.isWrapper; first | (rw [if_pos (by decide +kernel)]; kernel_rfl) | (rw [if_neg (by decide +kernel)]; exact ⟨rfl, rfl⟩))
    (fun os started H enc _ => liftedFnExactTreeEnergy os started H enc)
end Go.Proofs.Ytlfbihajihpchaa
