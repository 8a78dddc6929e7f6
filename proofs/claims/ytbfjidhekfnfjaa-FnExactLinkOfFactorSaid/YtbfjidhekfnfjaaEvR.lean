/- The engine, part R: bytes and strings. -/
import Derived.Test.YtbfjidhekfnfjaaEvP
import Derived.Laws.IdiomStrings
import Derived.Laws.BytesArg
set_option linter.all false
namespace Go.Ev
open Go.RowKit (Below)
section
variable {P : Program} {N : Nat} {Γ : Ctx P N} {S : List (Nat × Slot)} {O : List (Nat × Option Ob)}
variable {d : Nat} {ty : TypeId} {pos : String} {af : Array Edge} {g : Option (Nat × Bool)}
def u8s (bs : List UInt8) : List PV := bs.map fun b => .sc (.int .u8 b.toNat)
theorem relL_u8 {h : Array Obj} {q : Bool} {β : Nat → Option (Option Nat)} : ∀ {bs : List UInt8} {cs : Array Value} {i : Nat} {B : List Nat}, RelL h q β (u8s bs) cs i B → ∀ j (hj : j < bs.length), cs[i + j]? = some (.int .u8 (bs[j].toNat : Int))
  | [], _, _, _, _, j, hj => by simp at hj
  | b :: bs, cs, i, B, H, j, hj => by
    simp only [u8s, List.map_cons, RelL] at H
    obtain ⟨c, B1, B2, h1, h2, h3, _⟩ := H
    simp only [RelV] at h2
    cases j with
    | zero => rw [h2.1] at h1; simpa using h1.1
    | succ j =>
      have := relL_u8 (bs := bs) (cs := cs) (i := i + 1) (B := B2) (by simpa only [u8s] using h3) j (by simpa using hj)
      rw [show i + (j + 1) = i + 1 + j by omega]; simpa using this
/-- bytes become a string -/
theorem L_convB {x : Operand} {src dst e n : Nat} {cells : List PV} (bs : List UInt8) [hs : SlT P src e] [he : UT P e (.int .u8)] [ht : UT P dst .string] (hx : evq S x = some (.sl n cells)) (hc : cells = u8s bs ∧ n = bs.length) (hd : Nat.blt d N = true) :
    Local Γ ⟨some d, .convert src dst x, ty, pos, af, g⟩ ⟨S, O⟩ ⟨[(d, ⟨.sc (.string ⟨bs.toArray⟩), false⟩)], []⟩ (ors x) [] [] :=
  L_sc rfl hd fun F a w hsim hl => by
    obtain ⟨ow, β, hsim⟩ := hsim
    obtain ⟨B, h1, _⟩ := ev_rel hsim hx hl
    obtain ⟨rfl, rfl⟩ := hc
    simp only [RelV] at h1
    have key : (convert src dst (a.eval x)).run P w = .ok (.string ⟨bs.toArray⟩) w := by
      rcases h1 with ⟨h0, _, _, ad, cap, e1⟩ | ⟨b, off, cap, cs, u, f, B', ⟨e1, _⟩, e2, e3, _⟩
      · have hb0 : bs = [] := List.length_eq_zero_iff.1 h0
        subst hb0
        rw [e1]
        cases ad with
        | none => exact run_convert_bytes_nil w src e hs.ok he.ok 0 cap dst ht.ok
        | some ad => exact run_convert_bytes_back w src dst e ad cap [] hs.ok he.ok ht.ok (by simp)
      · rw [e1]
        refine run_convert_bytes_back w src dst e ⟨b, off, none⟩ cap bs hs.ok he.ok ht.ok (fun j hj => ?_)
        rw [Addr.add_lit, cell_of_row w b (off + j) cs u f e2]
        exact relL_u8 e3 j hj
    simp [execOp, key]
end
end Go.Ev
