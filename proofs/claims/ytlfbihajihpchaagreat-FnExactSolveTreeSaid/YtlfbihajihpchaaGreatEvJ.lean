/- The engine, part J: laying blocks: variables, slices, literals; storing. -/
import Derived.Test.YtlfbihajihpchaaGreatEvI
import Derived.Great.BuildSlice
set_option linter.all false
namespace Go.Ev
open Go.RowKit (Below)

/-- A type's zero, cell by cell. -/
class ZT (P : Program) (t : Nat) (ps : outParam (List PV)) : Prop where
  ok : ∃ i z, P.info? t = some i ∧ i.zero = some z ∧ z.cells.size = i.size ∧ z.cells.toList.all (·.oneCell') = true ∧ ps = z.cells.toList.map .sc
theorem ZT.of {P : Program} {t : Nat} {vals : List Value} {ps : List PV} (h : ((P.info? t).bind fun i => i.zero.bind fun z => bif Nat.beq z.cells.size i.size then some z.cells.toList else none) = some vals) (h2 : vals.all (·.oneCell') = true) (hp : ps = vals.map .sc) : ZT P t ps := by
  cases h1 : P.info? t with
  | none => rw [h1] at h; cases h
  | some i =>
    rw [h1] at h
    simp only [Option.bind_some] at h
    cases hz : i.zero with
    | none => rw [hz] at h; cases h
    | some z =>
      rw [hz] at h
      simp only [Option.bind_some] at h
      cases hb : Nat.beq z.cells.size i.size with
      | false => rw [hb] at h; cases h
      | true =>
        rw [hb] at h
        simp only [cond_true, Option.some.injEq] at h
        exact ⟨i, z, h1, hz, Nat.eq_of_beq_eq_true hb, by rw [h]; exact h2, by rw [h]; exact hp⟩

def pcells : PV → List PV
  | .agg cells => cells
  | p => [p]
/-- Can it be stored? -/
def stB (O : List (Nat × Option Ob)) (bx : Bool) : PV → Bool
  | .agg cells => bx || noLabs cells
  | .sc v => v.oneCell'
  | .sl _ _ => true
  | .iptr _ => true
  | .rw _ _ _ => true
  | .ref l _ _ _ => bx && (loq O l).isSome
  | _ => false
def labsOf (p : PV) : List Nat := p.labs
/-- Blocks of no one else's: plain values. -/
def isSc : PV → Bool
  | .sc _ => true
  | .ref _ _ _ _ => true
  | .ptr _ _ => true
  | .agg cells => cells.all fun | .sc _ => true | _ => false
  | _ => false

section
variable {P : Program} {N : Nat} {Γ : Ctx P N} {S : List (Nat × Slot)} {O : List (Nat × Option Ob)} {ow : Nat → Own} {β : Nat → Option (Option Nat)} {F : Env} {a : Act} {w : World}

theorem relL_one {h : Array Obj} {β : Nat → Option (Option Nat)} : ∀ (ps : List PV) (cs : Array Value) (i : Nat) (B : List Nat), RelL h true β ps cs i B → ∀ k, k < ps.length → ∃ c, cs[i + k]? = some c ∧ c.oneCell' = true
  | [], _, _, _, _, k, hk => by simp at hk
  | p :: ps, cs, i, B, H, k, hk => by
    simp only [RelL] at H
    obtain ⟨c, B1, B2, h1, _, h3, _⟩ := H
    cases k with
    | zero => exact ⟨c, h1.1, h1.2 trivial⟩
    | succ k =>
      obtain ⟨c', g1, g2⟩ := relL_one ps cs (i + 1) B2 h3 k (by simpa using hk)
      exact ⟨c', by rw [← g1]; congr 1; omega, g2⟩

theorem isSc_nil {h : Array Obj} {p : PV} {c : Value} {B : List Nat} (hf : isSc p = true) (H : RelV h β p c B) : B = [] := by
  cases p with
  | sc v => simp only [RelV] at H; exact H.2
  | ref => simp only [RelV] at H; exact H.1
  | ptr => simp only [RelV] at H; exact H.1
  | agg cells => simp only [RelV] at H; obtain ⟨cs, _, _, h⟩ := H; exact flatL _ _ _ _ hf h
  | _ => simp [isSc] at hf

theorem cells_rel (hs : SimG Γ ow β F a w) {bx : Bool} {p : PV} {c : Value} {B : List Nat} (H : RelV w.heap β p c B) (hb : stB O bx p = true) (hO : ∀ l ∈ labsOf p, lo F.o l = lo O l) :
    RelL w.heap true (if bx then β else dead) (pcells p) c.cells 0 B ∧ c.cells.size = (pcells p).length ∧ ∀ v ∈ c.cells.toList, v.oneCell' = true := by
  have live : ∀ l ∈ p.labs, (loq O l).isSome = true → (β l = some none ∨ ∃ b, β l = some (some b)) := by
    intro l hl hls
    cases ho : loq O l with
    | none => rw [ho] at hls; cases hls
    | some ob =>
      have := hO l (by simp [labsOf, hl])
      rw [← loq_lo O, ho] at this
      obtain ⟨_, _, _, h3⟩ := hs.objs l ob this
      rcases h3 with ⟨e, _⟩ | ⟨b, _, _, e, _⟩
      · exact .inl e
      · exact .inr ⟨b, e⟩
  cases p with
  | agg cells =>
    simp only [RelV] at H
    obtain ⟨cs, rfl, h2, h3⟩ := H
    simp only [pcells, Value.cells]
    refine ⟨?_, h2, fun v hv => ?_⟩
    · cases bx with
      | true => exact h3
      | false => simp [stB] at hb; exact relL_nolab (noLabs_iff hb) h3
    · obtain ⟨k, hk, e⟩ := List.getElem_of_mem hv
      obtain ⟨c, g1, g2⟩ := relL_one _ _ _ _ h3 k (by simp at hk; omega)
      have : c = v := by
        rw [Nat.zero_add] at g1
        have := (Array.getElem?_eq_some_iff.1 g1)
        obtain ⟨_, e2⟩ := this
        rw [← e2, ← e]; simp
      rw [← this]; exact g2
  | sc v =>
    simp only [RelV] at H
    obtain ⟨rfl, rfl⟩ := H
    simp only [stB] at hb
    have : c.cells = #[c] := by cases c <;> first | rfl | simp [Value.oneCell'] at hb
    rw [this]
    refine ⟨?_, by simp [pcells], by simp [hb]⟩
    simp only [pcells, RelL]
    exact ⟨c, [], [], ⟨by simp, fun _ => hb⟩, by simp [RelV], rfl, rfl⟩
  | sl n cells =>
    have hc : ∃ a cap, c = .slice a n cap := rel_slice H
    obtain ⟨ad, cap, rfl⟩ := hc
    refine ⟨?_, by simp [pcells, Value.cells], by simp [Value.cells, Value.oneCell']⟩
    simp only [pcells, RelL, Value.cells]
    exact ⟨.slice ad n cap, B, [], ⟨by simp, fun _ => rfl⟩, by split; exact H; exact H.nolab rfl, rfl, by simp⟩
  | rw s n cells =>
    have hc : ∃ a m cap, c = .slice a m cap := by
      simp only [RelV] at H
      rcases H with ⟨_, _, _, e⟩ | ⟨b, cap, _, _, _, ⟨e, _⟩, _⟩
      · exact ⟨_, _, _, e⟩
      · exact ⟨_, _, _, e⟩
    obtain ⟨ad, m, cap, rfl⟩ := hc
    refine ⟨?_, by simp [pcells, Value.cells], by simp [Value.cells, Value.oneCell']⟩
    simp only [pcells, RelL, Value.cells]
    exact ⟨.slice ad m cap, B, [], ⟨by simp, fun _ => rfl⟩, by split; exact H; exact H.nolab rfl, rfl, by simp⟩
  | iptr cells =>
    have hc : ∃ ad, c = .pointer (some ad) := by
      simp only [RelV] at H
      obtain ⟨b, off, _, _, _, _, rfl, _⟩ := H
      exact ⟨_, rfl⟩
    obtain ⟨ad, rfl⟩ := hc
    refine ⟨?_, by simp [pcells, Value.cells], by simp [Value.cells, Value.oneCell']⟩
    simp only [pcells, RelL, Value.cells]
    exact ⟨.pointer (some ad), B, [], ⟨by simp, fun _ => rfl⟩, by split; exact H; exact H.nolab rfl, rfl, by simp⟩
  | ref l s off n =>
    simp only [stB, Bool.and_eq_true] at hb
    obtain ⟨rfl, hb⟩ := hb
    have hc : ∃ ad m cap, c = .slice ad m cap := by
      simp only [RelV] at H
      rcases live l (by simp [PV.labs]) hb with e | ⟨b, e⟩
      · exact ⟨_, _, _, (H.2.1 e).2.2⟩
      · obtain ⟨cap, _, _, e2, _⟩ := H.2.2 b e; exact ⟨_, _, _, e2⟩
    obtain ⟨ad, m, cap, rfl⟩ := hc
    refine ⟨?_, by simp [pcells, Value.cells], by simp [Value.cells, Value.oneCell']⟩
    simp only [pcells, RelL, Value.cells]
    exact ⟨.slice ad m cap, B, [], ⟨by simp, fun _ => rfl⟩, H, rfl, by simp⟩
  | ptr => simp [stB] at hb
  | tup => simp [stB] at hb
  | any => simp [stB] at hb
  | was => simp [stB] at hb

theorem same_alloc (w : World) (ob : Obj) : Same w (w.alloc ob) := ⟨rfl, rfl, rfl, by simp⟩
theorem alloc_new (w : World) (ob : Obj) : (w.alloc ob).heap[w.heap.size]? = some ob := by
  show (w.heap.push ob)[w.heap.size]? = _
  simp
theorem alloc_old (w : World) (ob : Obj) {b : Nat} (h : b < w.heap.size) : (w.alloc ob).heap[b]? = w.heap[b]? := Below.heap_alloc w ob b h

/-- A block is laid (or an elder one taken over), and slot d speaks of it. -/
theorem SimG.layPut (h : SimG Γ ow β F a w) {w' : World} (hw : Same w w') {b0 : Nat} (hlt : b0 < w'.heap.size) (hother : ∀ b, b < w.heap.size → b ≠ b0 → w'.heap[b]? = w.heap[b]?)
    {cs : Array Value} {t : TypeId} (hrow : w'.heap[b0]? = some (.cells cs t (0, 0))) {l : Nat} (hl : NoLab F l) (hio : Γ.io l = none) (ks ls : List Nat)
    (horig : w.heap.size ≤ b0 ∨ ∃ m ∈ ls, β m = some (some b0)) (hbase : Γ.nww b0) (ob : Ob) {B : List Nat}
    (hrel : RelL w'.heap true (if ob.box then β else dead) ob.cells cs 0 B) (hlab : ob.box = true → ∀ p ∈ ob.cells, l ∉ p.labs) (hO : ∀ b ∈ B, Im Γ ow w b)
    (hdeep : ob.deep = true → B.Nodup ∧ ∀ b ∈ B, Free w b ∧ Γ.nw b ∧ ((∃ k ∈ ks, ow b = .slot k) ∨ (∃ m ∈ ls, ow b = .obj m) ∨ ow b = .none))
    {d : Nat} (hd : d < N) {v : PV} {c : Value} (hv : ∀ β', β' l = some (some b0) → RelV w'.heap β' v c []) :
    Sim Γ (F.app ⟨(d, ⟨v, false⟩) :: ks.map (fun j => (j, ⟨.any, false⟩)), (l, some ob) :: ls.map (fun j => (j, none))⟩) (a.put (some d) c) w' := by
  obtain ⟨ow', h'⟩ := h.lay hw hlt hother hrow hl hio ks ls horig hbase ob hrel hlab hO hdeep
  have := h'.put hd (hv _ (by simp)) (by simp)
  exact ⟨_, _, this⟩

variable {d : Nat} {ty : TypeId} {pos : String} {af : Array Edge} {g : Option (Nat × Bool)}

theorem relL_sc {h : Array Obj} {β : Nat → Option (Option Nat)} : ∀ (vs : List Value) (cs : Array Value) (i : Nat), (∀ k, k < vs.length → cs[i + k]? = vs[k]?) → (∀ v ∈ vs, v.oneCell' = true) → RelL h true β (vs.map .sc) cs i []
  | [], _, _, _, _ => by simp [RelL]
  | v :: vs, cs, i, h1, h2 => by
    simp only [List.map_cons, RelL]
    refine ⟨v, [], [], ⟨by have := h1 0 (by simp); simpa using this, fun _ => h2 v (by simp)⟩, by simp [RelV], relL_sc vs cs (i + 1) (fun k hk => ?_) (fun v hv => h2 v (by simp [hv])), rfl⟩
    have := h1 (k + 1) (by simp; omega)
    rw [show i + 1 + k = i + (k + 1) by omega, this]; simp
theorem noLab_sc {vs : List Value} : ∀ p ∈ vs.map PV.sc, p.labs = [] := by
  intro p hp
  obtain ⟨v, _, rfl⟩ := List.mem_map.1 hp
  rfl

/-- A new variable. -/
theorem L_alloc {e : Nat} {ps : List PV} (bx : Bool) [hz : ZT P e ps] (hio : Γ.io d = none) (hd : Nat.blt d N = true) :
    Local Γ ⟨some d, .alloc e, ty, pos, af, g⟩ ⟨S, O⟩ ⟨[(d, ⟨.ptr d 0, false⟩)], [(d, some ⟨ps, true, bx⟩)]⟩ [] [] [d] := by
  intro F hs _ hnl
  refine opT_of_run fun a w ⟨ow, β, hsim⟩ => ?_
  obtain ⟨i, z, h1, h2, h3, h4, rfl⟩ := hz.ok
  refine ⟨.pointer (some ⟨w.heap.size, 0, none⟩), w.alloc (.cells z.cells e), ?_, ?_⟩
  · simp [execOp, Instr.alloc, zeroValue, typeInfo, h1, h2, newVar, newRow]
  · refine hsim.layPut (same_alloc w _) (b0 := w.heap.size) (by simp) (fun b hb _ => alloc_old w _ hb) (alloc_new w _) (hnl d (by simp)) hio [] [] (.inl (Nat.le_refl _)) (.inl hsim.kept.size) ⟨z.cells.toList.map .sc, true, bx⟩ (B := []) ?_ ?_ (by simp) (by simp) ((blt_iff _ _).1 hd) (fun β' hβ => ?_)
    · exact relL_sc _ _ _ (fun k hk => by simp) (fun v hv => List.all_eq_true.1 h4 v hv)
    · intro _ p hp; rw [noLab_sc p hp]; simp
    · simp only [RelV]; exact ⟨trivial, fun b hb => by rw [hβ] at hb; cases hb; rfl⟩

/-- A new variable with a value. -/
theorem L_box {e : Nat} {x : Operand} {p : PV} (bx : Bool) (hx : evq S x = some p) (hst : stB O bx p = true) (hlab : memB p.labs d = false) (hio : Γ.io d = none) (hd : Nat.blt d N = true) :
    Local Γ ⟨some d, .box e x, ty, pos, af, g⟩ ⟨S, O⟩ ⟨[(d, ⟨.ptr d 0, false⟩)], [(d, some ⟨pcells p, isSc p, bx⟩)]⟩ (ors x) (labsOf p) [d] := by
  intro F hs hlo hnl
  refine opT_of_run fun a w ⟨ow, β, hsim⟩ => ?_
  obtain ⟨B, h1, h2⟩ := ev_rel hsim hx hs
  obtain ⟨r1, r2, r3⟩ := cells_rel (O := O) hsim h1 hst hlo
  refine ⟨.pointer (some ⟨w.heap.size, 0, none⟩), w.alloc (.cells (a.eval x).cells e), ?_, ?_⟩
  · simp [execOp, Instr.box, newVar, newRow]
  · refine hsim.layPut (same_alloc w _) (b0 := w.heap.size) (by simp) (fun b hb _ => alloc_old w _ hb) (alloc_new w _) (hnl d (by simp)) hio [] [] (.inl (Nat.le_refl _)) (.inl hsim.kept.size) ⟨pcells p, isSc p, bx⟩ (B := B) ?_ ?_ h2 ?_ ((blt_iff _ _).1 hd) (fun β' hβ => ?_)
    · refine RelL.keep _ _ _ _ (fun q _ l _ o ho => ⟨ho, fun b hob => ?_⟩) (fun b hb => alloc_old w _ (h2 b hb).1) r1
      subst hob
      intro cs t hc
      refine ⟨cs, ?_, rfl⟩
      have : b < w.heap.size := by
        cases bx with
        | false => cases ho
        | true => exact hsim.block_lt ho
      rw [alloc_old w _ this]; exact hc
    · intro hb q hq hd'
      have : d ∈ p.labs := by
        cases p with
        | agg cells => simp only [PV.labs]; exact mem_labsL.2 ⟨q, hq, hd'⟩
        | _ => simp only [pcells, List.mem_singleton] at hq; subst hq; exact hd'
      rw [(memB_iff _ _).2 this] at hlab; cases hlab
    · intro hsc
      rw [isSc_nil hsc h1]; simp
    · simp only [RelV]; exact ⟨trivial, fun b hb => by rw [hβ] at hb; cases hb; rfl⟩
end
end Go.Ev
