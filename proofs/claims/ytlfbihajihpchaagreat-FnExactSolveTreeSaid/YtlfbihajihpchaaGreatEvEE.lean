/- The engine, part EE: softening, more. -/
import Derived.Test.YtlfbihajihpchaaGreatEvDD
set_option linter.all false
namespace Go.Ev
open Go.RowKit (Below)
theorem Soft.nilW {s : Nat} : Soft (.sc (.slice none 0 0)) (.rw s 0 []) := by
  intro h β c B H
  simp only [RelV] at H ⊢
  exact .inl ⟨trivial, trivial, H.2, H.1⟩
theorem SoftL.rep {α : Type} {e e' : α → List PV} {z : α} (h : SoftL (e z) (e' z)) : ∀ n : Nat, SoftL ((List.replicate n z).flatMap e) ((List.replicate n z).flatMap e')
  | 0 => SoftL.nil
  | n + 1 => by rw [List.replicate_succ, List.flatMap_cons, List.flatMap_cons]; exact h.app (SoftL.rep h n)
section
variable {P : Program} {N : Nat} {Γ : Ctx P N} {S : List (Nat × Slot)} {O : List (Nat × Option Ob)} {ow : Nat → Own} {β : Nat → Option (Option Nat)} {F : Env} {a : Act} {w : World}
/-- What a rule says of a row that it lays, softened. -/
theorem Local.softO {o : Oper} {l : Nat} {ss : List (Nat × Slot)} {cells cells' : List PV} {dp bx : Bool} {rs ro nl : List Nat} (hs : SoftL cells cells') (h : Local Γ o ⟨S, O⟩ ⟨ss, [(l, some ⟨cells, dp, bx⟩)]⟩ rs ro nl) : Local Γ o ⟨S, O⟩ ⟨ss, [(l, some ⟨cells', dp, bx⟩)]⟩ rs ro nl := by
  intro F h1 h2 h3 a w hsim Q
  refine Oper.wp_mono ?_ (h F h1 h2 h3 a w hsim Q)
  rintro a' w' ⟨ow, β, h'⟩
  refine ⟨ow, β, { size := h'.size, defers := h'.defers, kept := h'.kept, slots := h'.slots, objs := fun m ob hm => ?_, gone := fun m hm => ?_, own := h'.own, ios := fun m b hm hx => ?_, fresh := h'.fresh }⟩
  · simp only [Env.app, List.cons_append, List.nil_append, lo_cons] at hm
    by_cases hml : l = m
    · subst hml
      rw [if_pos rfl] at hm; cases hm
      obtain ⟨B, o1, o2, o3⟩ := h'.objs l ⟨cells, dp, bx⟩ (by simp [Env.app, lo_cons])
      refine ⟨B, o1, o2, o3.imp (fun ⟨e1, e2, e3⟩ => ⟨e1, by simp only at e2 ⊢; subst e2; exact hs.empty, e3⟩) fun ⟨b, cs, t, e1, e2, e3, e4⟩ => ⟨b, cs, t, e1, e2, e3, hs.2 _ _ _ _ _ _ e4⟩⟩
    · rw [if_neg hml] at hm
      exact h'.objs m ob (by simp only [Env.app, List.cons_append, List.nil_append, lo_cons]; rw [if_neg hml]; exact hm)
  · simp only [Env.app, List.cons_append, List.nil_append, lo_cons] at hm
    by_cases hml : l = m
    · rw [if_pos hml] at hm; cases hm
    · rw [if_neg hml] at hm
      exact h'.gone m (by simp only [Env.app, List.cons_append, List.nil_append, lo_cons]; rw [if_neg hml]; exact hm)
  · refine h'.ios m b hm ?_
    simp only [Env.app, List.cons_append, List.nil_append, lo_cons] at hx ⊢
    by_cases hml : l = m
    · rw [if_pos hml]; rfl
    · rw [if_neg hml] at hx ⊢; exact hx
end
end Go.Ev
