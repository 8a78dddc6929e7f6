/- The engine, part BB: results with rows within get labels. -/
import Derived.Test.YtlfbihajihpchaaGreatEvAA
set_option linter.all false
namespace Go.Ev
open Go.RowKit (Below)
section
variable {P : Program} {N : Nat} {Γ : Ctx P N} {S : List (Nat × Slot)} {O : List (Nat × Option Ob)} {ow : Nat → Own} {β : Nat → Option (Option Nat)} {F : Env} {a : Act} {w : World}
theorem Rows.nil {h : Array Obj} {blk : Nat → Option (Option Nat)} {nest : Nat → List Nat} {B : List Nat} : Rows [] h blk nest B := ⟨by simp, by simp, by simp, by simp, by simp, by simp⟩
theorem Rows.append {h : Array Obj} {us vs : List (Nat × Option Ob)} {blk blk' : Nat → Option (Option Nat)} {nest nest' : Nat → List Nat} {B B' : List Nat} (h1 : Rows us h blk nest B) (h2 : Rows vs h blk' nest' B') (hd : ∀ l ∈ us.map (·.1), l ∉ vs.map (·.1)) (hB : ∀ b ∈ B, b ∉ B') :
    ∃ b2 n2, (∀ l ∈ us.map (·.1), b2 l = blk l) ∧ (∀ l ∈ vs.map (·.1), b2 l = blk' l) ∧ Rows (us ++ vs) h b2 n2 (B ++ B') := by
  classical
  let b2 : Nat → Option (Option Nat) := fun l => if l ∈ us.map (·.1) then blk l else blk' l
  let n2 : Nat → List Nat := fun l => if l ∈ us.map (·.1) then nest l else nest' l
  have eb1 : ∀ l ∈ us.map (·.1), b2 l = blk l := fun l hl => by show (if _ then _ else _) = _; rw [if_pos hl]
  have eb2 : ∀ l ∈ vs.map (·.1), b2 l = blk' l := fun l hl => by show (if _ then _ else _) = _; rw [if_neg (fun e => hd l e hl)]
  have en1 : ∀ l ∈ us.map (·.1), n2 l = nest l := fun l hl => by show (if _ then _ else _) = _; rw [if_pos hl]
  have en2 : ∀ l ∈ vs.map (·.1), n2 l = nest' l := fun l hl => by show (if _ then _ else _) = _; rw [if_neg (fun e => hd l e hl)]
  have hm : ∀ l, l ∈ (us ++ vs).map (·.1) → l ∈ us.map (·.1) ∨ l ∈ vs.map (·.1) := fun l hl => by rw [List.map_append] at hl; exact List.mem_append.1 hl
  refine ⟨b2, n2, eb1, eb2, ⟨fun l hl => ?_, fun l hl => ?_, fun l hl b hb => ?_, fun l hl l' hl' b hb hb' => ?_, fun l hl l' hl' b hb hb' => ?_, fun l hl l' hl' c hc hc' => ?_⟩⟩
  · rcases hm l hl with hl | hl
    · obtain ⟨cells, g1, g2⟩ := h1.ob l hl
      exact ⟨cells, by rw [lo_append_of_mem _ _ _ hl]; exact g1, by rw [eb1 l hl, en1 l hl]; exact g2⟩
    · obtain ⟨cells, g1, g2⟩ := h2.ob l hl
      exact ⟨cells, by rw [lo_append_of_not_mem _ _ _ (fun e => hd l e hl)]; exact g1, by rw [eb2 l hl, en2 l hl]; exact g2⟩
  · rcases hm l hl with hl | hl
    · rw [en1 l hl]; exact ⟨(h1.nd l hl).1, fun c hc => List.mem_append_left _ ((h1.nd l hl).2 c hc)⟩
    · rw [en2 l hl]; exact ⟨(h2.nd l hl).1, fun c hc => List.mem_append_right _ ((h2.nd l hl).2 c hc)⟩
  · rcases hm l hl with hl | hl
    · rw [eb1 l hl] at hb; exact List.mem_append_left _ (h1.inB l hl b hb)
    · rw [eb2 l hl] at hb; exact List.mem_append_right _ (h2.inB l hl b hb)
  · rcases hm l hl with hl | hl <;> rcases hm l' hl' with hl' | hl'
    · rw [eb1 l hl] at hb; rw [eb1 l' hl'] at hb'; exact h1.bb l hl l' hl' b hb hb'
    · rw [eb1 l hl] at hb; rw [eb2 l' hl'] at hb'; exact absurd (h2.inB l' hl' b hb') (hB b (h1.inB l hl b hb))
    · rw [eb2 l hl] at hb; rw [eb1 l' hl'] at hb'; exact absurd (h2.inB l hl b hb) (hB b (h1.inB l' hl' b hb'))
    · rw [eb2 l hl] at hb; rw [eb2 l' hl'] at hb'; exact h2.bb l hl l' hl' b hb hb'
  · rcases hm l hl with hl | hl <;> rcases hm l' hl' with hl' | hl'
    · rw [eb1 l hl] at hb; rw [en1 l' hl'] at hb'; exact h1.bn l hl l' hl' b hb hb'
    · rw [eb1 l hl] at hb; rw [en2 l' hl'] at hb'; exact hB b (h1.inB l hl b hb) ((h2.nd l' hl').2 b hb')
    · rw [eb2 l hl] at hb; rw [en1 l' hl'] at hb'; exact hB b ((h1.nd l' hl').2 b hb') (h2.inB l hl b hb)
    · rw [eb2 l hl] at hb; rw [en2 l' hl'] at hb'; exact h2.bn l hl l' hl' b hb hb'
  · rcases hm l hl with hl | hl <;> rcases hm l' hl' with hl' | hl'
    · rw [en1 l hl] at hc; rw [en1 l' hl'] at hc'; exact h1.nn l hl l' hl' c hc hc'
    · rw [en1 l hl] at hc; rw [en2 l' hl'] at hc'; exact absurd ((h2.nd l' hl').2 c hc') (hB c ((h1.nd l hl).2 c hc))
    · rw [en2 l hl] at hc; rw [en1 l' hl'] at hc'; exact absurd ((h2.nd l hl).2 c hc) (hB c ((h1.nd l' hl').2 c hc'))
    · rw [en2 l hl] at hc; rw [en2 l' hl'] at hc'; exact h2.nn l hl l' hl' c hc hc'

variable {d : Nat} {ty : TypeId} {pos : String} {af : Array Edge} {g : Option (Nat × Bool)}
end
end Go.Ev
