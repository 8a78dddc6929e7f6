/- The engine, part LL: rows that grow within a struct. -/
import Derived.Test.YtlfbihajihpchaaGreatEvKK
set_option linter.all false
namespace Go.Ev
open Go.RowKit (Below)
section
variable {P : Program} {N : Nat} {Γ : Ctx P N} {S : List (Nat × Slot)} {O : List (Nat × Option Ob)}
/-- A nil field of an own struct gets a label. -/
theorem Ent.nilCell (l L c s : Nat) {cells : List PV} {dp : Bool} (ho : loq O l = some ⟨cells, dp, true⟩) (hc : cells[c]? = some (.sc (.slice none 0 0))) (hL : says ⟨S, O⟩ L = false) (hne : Nat.beq l L = false) (hio : Γ.io L = none) :
    Ent Γ ⟨S, O⟩ ⟨S, (l, some ⟨cells.set c (.ref L s 0 0), dp, true⟩) :: (L, some ⟨[], true, false⟩) :: O⟩ := by
  rintro a w ⟨ow, β, h⟩
  have hnl := NoLab.of_says hL
  have hne : L ≠ l := by rintro rfl; simp at hne
  obtain ⟨ow', h'⟩ := h.layNil hnl hio [] [] true false
  have h2 : SimG Γ ow' (fun m => if m = L then some none else if m ∈ ([] : List Nat) then none else β m) ⟨S, (L, some ⟨[], true, false⟩) :: O⟩ a w := h'.congr (fun _ => rfl) (fun _ => rfl)
  have ho2 : loq ((L, some ⟨[], true, false⟩) :: O) l = some ⟨cells, dp, true⟩ := by
    simp only [loq, beq_eq, hne, decide_false, cond_false]; exact ho
  refine ⟨ow', _, h2.recell ho2 (by rintro rfl; simp at hc) fun cs B H => ?_⟩
  simp only [if_true] at H ⊢
  obtain ⟨v, O1, Oc, O2, q1, q2, q3, q4, q5, rfl⟩ := H.at hc
  simp only [RelV] at q3
  obtain ⟨q3, rfl⟩ := q3
  exact RelL.put hc q1 q2 (by simp only [RelV, if_true]; exact ⟨trivial, fun _ => ⟨trivial, trivial, q3⟩, fun b e => by simp at e⟩) q4 q5
end
end Go.Ev
