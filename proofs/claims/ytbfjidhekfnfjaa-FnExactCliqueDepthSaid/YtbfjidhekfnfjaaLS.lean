/- The order of ints: what sort.Ints does to an own row. -/
import Derived.Shelf.Sort.Plain
import Derived.Shelf.Slices.In.SortNone2
import Derived.Ground.Names2Prog
import Derived.Test.YtbfjidhekfnfjaaW0
set_option linter.all false
namespace Go.Proofs
open Go.Shelf
def Try.lays191_ren : Go.Shelf.Ren := ⟨fun | 191 => 89 | 189 => 130 | 125 => 160 | 257 => 159 | 128 => 184 | 129 => 185 | 294 => 175 | 295 => 176 | 296 => 177 | 297 => 178 | 298 => 179 | 299 => 180 | 216 => 181 | 300 => 182 | 301 => 183 | 328 => 196 | 329 => 197 | 330 => 198 | 331 => 199 | 332 => 200 | 215 => 201 | 343 => 205 | n => n, fun | 28 => 24 | 0 => 0 | 3 => 3 | 46 => 172 | 51 => 191 | 53 => 193 | 4 => 4 | 183 => 183 | 182 => 182 | 131 => 188 | 5 => 5 | 9 => 9 | 218 => 205 | 222 => 209 | 228 => 215 | 229 => 135 | n => n, fun | n => n⟩
theorem Try.lays191 : Go.Proofs.Lays.n191 Try.prog Try.lays191_ren := {
  mixed := by kernel_rfl
  f125 := Try.func160.trans (congrArg some (by kernel_rfl))
  f128 := Try.func184.trans (congrArg some (by kernel_rfl))
  f129 := Try.func185.trans (congrArg some (by kernel_rfl))
  f189 := Try.func130.trans (congrArg some (by kernel_rfl))
  f191 := Try.func89.trans (congrArg some (by kernel_rfl))
  f215 := Try.func201.trans (congrArg some (by kernel_rfl))
  f216 := Try.func181.trans (congrArg some (by kernel_rfl))
  f257 := Try.func159.trans (congrArg some (by kernel_rfl))
  f294 := Try.func175.trans (congrArg some (by kernel_rfl))
  f295 := Try.func176.trans (congrArg some (by kernel_rfl))
  f296 := Try.func177.trans (congrArg some (by kernel_rfl))
  f297 := Try.func178.trans (congrArg some (by kernel_rfl))
  f298 := Try.func179.trans (congrArg some (by kernel_rfl))
  f299 := Try.func180.trans (congrArg some (by kernel_rfl))
  f300 := Try.func182.trans (congrArg some (by kernel_rfl))
  f301 := Try.func183.trans (congrArg some (by kernel_rfl))
  f328 := Try.func196.trans (congrArg some (by kernel_rfl))
  f329 := Try.func197.trans (congrArg some (by kernel_rfl))
  f330 := Try.func198.trans (congrArg some (by kernel_rfl))
  f331 := Try.func199.trans (congrArg some (by kernel_rfl))
  f332 := Try.func200.trans (congrArg some (by kernel_rfl))
  f343 := Try.func205.trans (congrArg some (by kernel_rfl))
  t0 := Try.underlying0
  a0 := Try.isAgg0
  z0 := Try.sizeOf0
  v0 := Try.zeroValue0
  t3 := Try.underlying3
  a3 := Try.isAgg3
  z3 := Try.sizeOf3
  v3 := Try.zeroValue3
  t4 := Try.underlying4
  a4 := Try.isAgg4
  z4 := Try.sizeOf4
  v4 := Try.zeroValue4
  t5 := Try.underlying5
  a5 := Try.isAgg5
  z5 := Try.sizeOf5
  v5 := Try.zeroValue5
  t9 := Try.underlying9
  a9 := Try.isAgg9
  z9 := Try.sizeOf9
  v9 := Try.zeroValue9
  t28 := Try.underlying24
  a28 := Try.isAgg24
  z28 := Try.sizeOf24
  v28 := Try.zeroValue24
  t46 := Try.underlying172
  a46 := Try.isAgg172
  z46 := Try.sizeOf172
  v46 := Try.zeroValue172
  t51 := Try.underlying191
  a51 := Try.isAgg191
  z51 := Try.sizeOf191
  v51 := Try.zeroValue191
  t53 := Try.underlying193
  a53 := Try.isAgg193
  z53 := Try.sizeOf193
  v53 := Try.zeroValue193
  t131 := Try.underlying188
  a131 := Try.isAgg188
  z131 := Try.sizeOf188
  v131 := Try.zeroValue188
  t182 := Try.underlying182
  a182 := Try.isAgg182
  z182 := Try.sizeOf182
  v182 := Try.zeroValue182
  t183 := Try.underlying183
  a183 := Try.isAgg183
  z183 := Try.sizeOf183
  v183 := Try.zeroValue183
  t218 := Try.underlying205
  a218 := Try.isAgg205
  z218 := Try.sizeOf205
  v218 := Try.zeroValue205
  t222 := Try.underlying209
  a222 := Try.isAgg209
  z222 := Try.sizeOf209
  v222 := Try.zeroValue209
  t228 := Try.underlying215
  a228 := Try.isAgg215
  z228 := Try.sizeOf215
  v228 := Try.zeroValue215
  t229 := Try.underlying135
  a229 := Try.isAgg135
  z229 := Try.sizeOf135
  v229 := Try.zeroValue135 }
end Go.Proofs

namespace Go.Ev
open Go.Sort Go.RowKit Go.Proofs
set_option linter.all false
def srt (l : List Int) : List Int := l.mergeSort fun x y => decide (x ≤ y)
theorem srt_len (l : List Int) : (srt l).length = l.length := by unfold srt; exact List.length_mergeSort _
theorem relL_ints {h : Array Obj} {β : Nat → Option (Option Nat)} : ∀ {l : List Int} {cs : Array Value} {i : Nat} {O : List Nat}, RelL h true β (l.flatMap (encI .i64)) cs i O ↔ (O = [] ∧ ∀ j (hj : j < l.length), cs[i + j]? = some (.int .i64 l[j]))
  | [], cs, i, O => by simp [RelL]
  | x :: l, cs, i, O => by
    simp only [List.flatMap_cons, encI, List.singleton_append, RelL, RelV]
    constructor
    · rintro ⟨c, O1, O2, ⟨h1, _⟩, ⟨rfl, rfl⟩, h3, rfl⟩
      obtain ⟨rfl, h4⟩ := relL_ints.1 h3
      refine ⟨rfl, fun j hj => ?_⟩
      cases j with
      | zero => simpa using h1
      | succ j =>
        have := h4 j (by simpa using hj)
        rw [show i + (j + 1) = i + 1 + j by omega, this]; simp
    · rintro ⟨rfl, h⟩
      have h00 := h 0 (by simp)
      simp only [Nat.add_zero, List.getElem_cons_zero] at h00
      refine ⟨_, [], [], ⟨h00, fun _ => rfl⟩, ⟨rfl, rfl⟩, relL_ints.2 ⟨rfl, fun j hj => ?_⟩, rfl⟩
      have := h (j + 1) (by simpa using hj)
      rw [show i + 1 + j = i + (j + 1) by omega, this]; simp
theorem m_sort_Ints (l : List Int) (hl : l.length < 4611686018427387904) : MeetsX Try.prog 89 [.ref 100000 1 0 l.length] [⟨100000, l.flatMap (encI .i64), (srt l).flatMap (encI .i64)⟩] (.sc (.tuple #[])) true := by
  intro w cargs ok κ ha hob hκ hinj
  obtain ⟨c, rfl⟩ : ∃ c, cargs = #[c] := by
    obtain ⟨h1, _⟩ := ha.get
    cases cargs with
    | mk xs =>
      match xs, h1 with
      | [c], _ => exact ⟨c, rfl⟩
  obtain ⟨⟨B, hr, _⟩, _⟩ := ha
  simp only [RelV] at hr
  obtain ⟨_, hr1, hr2⟩ := hr
  have honly : ∀ m b, κ m = some (some b) → m = 100000 := fun m b e => by
    obtain ⟨x, hx, e'⟩ := hκ m _ e
    simp at hx; subst hx; exact e'.symm
  rcases hob ⟨100000, l.flatMap (encI .i64), (srt l).flatMap (encI .i64)⟩ (by simp) with ⟨e1, e2⟩ | ⟨b, cs, t, e1, _, e3, e4⟩
  · simp only at e1 e2
    obtain ⟨hn, _, rfl⟩ := hr1 e1
    have hl0 : l = [] := List.length_eq_zero_iff.1 hn
    subst hl0
    refine (Go.Proofs.Any.sort_Ints_none Go.Proofs.Try.lays191 none 0 w).mono fun e w' ⟨he, hw⟩ => ?_
    subst hw
    refine ⟨.tuple #[], [], he, ⟨rfl, rfl, rfl, Nat.le_refl _⟩, fun b hb _ => rfl, ?_, by simp [RelV], by simp, by simp⟩
    intro o ho
    simp at ho; subst ho
    refine ⟨fun _ => by simp [srt], fun b e => ?_⟩
    simp only at e; rw [e1] at e; cases e
  · simp only at e1 e3 e4
    obtain ⟨cap, cs', t', q1, q2, q3, q4⟩ := hr2 b e1
    rw [e3] at q2; cases q2
    subst q1
    simp only [Nat.zero_mul, Nat.zero_add, Nat.mul_one] at q3 ⊢
    obtain ⟨_, hcs⟩ := relL_ints.1 e4
    have hblt : b < w.heap.size := by
      rcases Nat.lt_or_ge b w.heap.size with h | h
      · exact h
      · simp [Array.getElem?_eq_none h] at e3
    have hH : Holds (Value.int .i64) w b 0 l.toArray := by
      intro j hj
      have hj' : j < l.length := by simpa using hj
      have := hcs j hj'
      simp only [Nat.zero_add] at this ⊢
      constructor
      · unfold World.cell?
        simp only [e3, this]
        simp [hj']
      · unfold World.frozen?
        simp only [e3]
        simp
    refine (Go.Proofs.Any.sort_Ints Go.Proofs.Try.lays191 b 0 cap l w hH hblt hl).mono fun e w' ⟨he, n, os, hw⟩ => ?_
    have hheap : ∀ k, k < w.heap.size → w'.heap[k]? = if k = b then some (.cells (putCells (Value.int .i64) 0 (srt l).toArray cs) t (0, 0)) else w.heap[k]? := by
      intro k hk
      rw [hw]
      unfold grow putRow mapBlock
      have hs : k < ((Sort.ahead w n).heap.modify b (onCells (putCells (Value.int .i64) 0 (srt l).toArray))).size := by simpa [Sort.ahead] using hk
      show (((Sort.ahead w n).heap.modify b (onCells (putCells (Value.int .i64) 0 (srt l).toArray))) ++ os)[k]? = _
      rw [Array.getElem?_append_left hs, Array.getElem?_modify]
      by_cases hkb : k = b
      · subst hkb
        simp only [if_true]
        show Option.map _ (w.heap[k]?) = _
        rw [e3]; rfl
      · rw [if_neg hkb, if_neg (fun h => hkb h.symm)]; rfl
    refine ⟨.tuple #[], [], he, ⟨by rw [hw]; rfl, by rw [hw]; rfl, by rw [hw]; rfl, ?_⟩, fun k hk hn => ?_, ?_, by simp [RelV], by simp, by simp⟩
    · rw [hw]; simp [grow, putRow, mapBlock, Sort.ahead]
    · rw [hheap k hk, if_neg]
      rintro rfl; exact hn 100000 e1
    · intro o ho
      simp at ho; subst ho
      refine ⟨(fun e => by simp only at e; rw [e1] at e; cases e), fun b' e cs2 t2 hc => ?_⟩
      simp only at e; rw [e1] at e; cases e
      rw [e3] at hc; cases hc
      refine ⟨_, by rw [hheap b hblt, if_pos rfl], by simp [putCells], relL_ints.2 ⟨rfl, fun j hj => ?_⟩⟩
      have hj2 : j < l.length := by rw [srt_len] at hj; exact hj
      have hjc : j < cs.size := by omega
      simp only [Nat.zero_add, putCells, Array.getElem?_mapIdx, Array.getElem?_eq_getElem hjc, Option.map_some, List.size_toArray]
      rw [if_pos ⟨Nat.zero_le _, hj⟩]
      simp [hj]
instance : FnC Try.prog 89 := ⟨_, Try.func89, by kernel_rfl, by kernel_rfl⟩
noncomputable def srtO (l : List Int) : Option (List Int) := (chk (l.length < 4611686018427387904)).bind fun _ => some (srt l)
theorem srtO_eq {l r : List Int} (H : srtO l = some r) : l.length < 4611686018427387904 ∧ r = srt l := by
  obtain ⟨u, hu, H⟩ := bindS H
  exact ⟨chkS hu, (Option.some.inj H).symm⟩
theorem len_srtO (l r : List Int) (H : srtO l = some r) : r.length = l.length := by
  obtain ⟨_, rfl⟩ := srtO_eq H
  exact srt_len l
theorem m_srtO (l r : List Int) (H : srtO l = some r) : MeetsX Try.prog 89 [.ref 100000 1 0 l.length] [⟨100000, l.flatMap (encI .i64), r.flatMap (encI .i64)⟩] (.sc (.tuple #[])) true := by
  obtain ⟨h, rfl⟩ := srtO_eq H
  exact m_sort_Ints l h
end Go.Ev
