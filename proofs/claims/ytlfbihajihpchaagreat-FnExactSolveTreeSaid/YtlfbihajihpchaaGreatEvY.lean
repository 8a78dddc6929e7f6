/- The engine, part Y: rows within rows: an own row taken out of another and put back; rows with rows within, handed over. -/
import Derived.Test.YtlfbihajihpchaaGreatEvX
set_option linter.all false
namespace Go.Ev
open Go.RowKit (Below)
section
variable {P : Program} {N : Nat} {Γ : Ctx P N} {S : List (Nat × Slot)} {O : List (Nat × Option Ob)} {ow : Nat → Own} {β : Nat → Option (Option Nat)} {F : Env} {a : Act} {w : World}

theorem RelL.at {h : Array Obj} {β : Nat → Option (Option Nat)} {cells : List PV} {cs : Array Value} {O : List Nat} {c : Nat} {p : PV} (H : RelL h true β cells cs 0 O) (hc : cells[c]? = some p) :
    ∃ v O1 Oc O2, cs[c]? = some v ∧ v.oneCell' = true ∧ RelV h β p v Oc ∧ RelL h true β (cells.take c) cs 0 O1 ∧ RelL h true β (cells.drop (c + 1)) cs (c + 1) O2 ∧ O = O1 ++ (Oc ++ O2) := by
  have hlt : c < cells.length := (List.getElem?_eq_some_iff.1 hc).1
  have e : cells = cells.take c ++ p :: cells.drop (c + 1) := by
    rw [← (List.getElem?_eq_some_iff.1 hc).2, List.getElem_cons_drop, List.take_append_drop]
  rw [e] at H
  obtain ⟨O1, O3, h1, h2, rfl⟩ := (RelL.append _ _ _ _ _).1 H
  simp only [RelL] at h2
  obtain ⟨v, Oc, O2, g1, g2, g3, rfl⟩ := h2
  have hl : (cells.take c).length = c := by rw [List.length_take]; omega
  rw [hl, Nat.zero_add] at g1 g3
  exact ⟨v, O1, Oc, O2, g1.1, by simpa using g1.2, g2, h1, g3, rfl⟩
theorem RelL.put {h : Array Obj} {β : Nat → Option (Option Nat)} {cells : List PV} {cs : Array Value} {c : Nat} {p q : PV} {v : Value} {O1 Oc O2 : List Nat} (hc : cells[c]? = some p) (hv : cs[c]? = some v) (h1c : v.oneCell' = true) (hq : RelV h β q v Oc)
    (h1 : RelL h true β (cells.take c) cs 0 O1) (h2 : RelL h true β (cells.drop (c + 1)) cs (c + 1) O2) : RelL h true β (cells.set c q) cs 0 (O1 ++ (Oc ++ O2)) := by
  have hlt : c < cells.length := (List.getElem?_eq_some_iff.1 hc).1
  have hl : (cells.take c).length = c := by rw [List.length_take]; omega
  rw [List.set_eq_take_append_cons_drop, if_pos hlt]
  refine (RelL.append _ _ _ _ _).2 ⟨O1, Oc ++ O2, h1, ?_, rfl⟩
  simp only [RelL]
  rw [hl, Nat.zero_add]
  exact ⟨v, Oc, O2, ⟨hv, fun _ => h1c⟩, hq, h2, rfl⟩

end
end Go.Ev
