/- The engine, part NN: the first change of a rule that makes several, softened. -/
import Derived.Test.YtlfbihajihpchaaGreatEvMM
set_option linter.all false
namespace Go.Ev
section
variable {P : Program} {N : Nat} {Γ : Ctx P N} {S : List (Nat × Slot)} {O : List (Nat × Option Ob)}
theorem Local.softC {o : Oper} {d : Nat} {p p' : PV} {dp : Bool} {ss : List (Nat × Slot)} {us : List (Nat × Option Ob)} {rs ro nl : List Nat} (hs : Soft p p') (h : Local Γ o ⟨S, O⟩ ⟨(d, ⟨p, dp⟩) :: ss, us⟩ rs ro nl) : Local Γ o ⟨S, O⟩ ⟨(d, ⟨p', dp⟩) :: ss, us⟩ rs ro nl := by
  intro F h1 h2 h3 a w hsim Q
  refine Oper.wp_mono ?_ (h F h1 h2 h3 a w hsim Q)
  rintro a' w' ⟨ow, β, h'⟩
  refine ⟨ow, β, { size := h'.size, defers := h'.defers, kept := h'.kept, slots := fun j => ?_, objs := h'.objs, gone := h'.gone, own := h'.own, ios := h'.ios, fresh := h'.fresh }⟩
  obtain ⟨B, g1, g2, g3⟩ := h'.slots j
  simp only [Env.app, List.cons_append, List.nil_append, lk_cons] at g1 g3 ⊢
  by_cases hj : d = j
  · rw [if_pos hj] at g1 g3 ⊢
    exact ⟨B, hs _ _ _ _ g1, g2, g3⟩
  · rw [if_neg hj] at g1 g3 ⊢
    exact ⟨B, g1, g2, g3⟩
end
end Go.Ev
