/- The engine, part AA: parameters that may be read again; results with rows within. -/
import Derived.Test.YtlfbihajihpchaaGreatEvW
set_option linter.all false
namespace Go.Ev
open Go.RowKit (Below)
section
variable {P : Program} {N : Nat} {Γ : Ctx P N} {S : List (Nat × Slot)} {O : List (Nat × Option Ob)} {ow : Nat → Own} {β : Nat → Option (Option Nat)} {F : Env} {a : Act} {w : World}
/-- The value c read as p when the call began, and it still does: its blocks are no one's to write. -/
def OldF (Γ : Ctx P N) (c : Value) (p : PV) : Prop := p.labs = [] ∧ ∃ B, RelV Γ.w0.heap dead p c B ∧ ∀ b ∈ B, Γ.ok b ∧ b < Γ.base ∧ (¬ Γ.mine b ∧ ¬ Γ.lent b) ∧ ∀ l, Γ.io l ≠ some b
theorem Ent.wake {k : Nat} {c : Value} {p : PV} {dp : Bool} (hk : lkq S k = some ⟨.sc c, dp⟩) (hf : OldF Γ c p) : Ent Γ ⟨S, O⟩ ⟨(k, ⟨.was c p, false⟩) :: S, O⟩ := by
  rintro a w ⟨ow, β, h⟩
  obtain ⟨hl, B, hB1, hB2⟩ := hf
  refine ⟨ow, β, { size := h.size, defers := h.defers, kept := h.kept, slots := fun j => ?_, objs := h.objs, gone := h.gone, own := h.own, ios := h.ios, fresh := h.fresh }⟩
  simp only [lk_cons]
  by_cases hj : k = j
  · subst hj
    rw [if_pos rfl]
    obtain ⟨B', g1, _, _⟩ := h.slots k
    simp only [lkq_lk hk, RelV] at g1
    refine ⟨B, ?_, fun b hb => ?_, by simp⟩
    · simp only [RelV]
      refine ⟨g1.1, ?_⟩
      rw [g1.1]
      exact RelV.keep _ _ _ (fun l hl' => by rw [hl] at hl'; cases hl') (fun b hb => by obtain ⟨_, e2, e3, e4⟩ := hB2 b hb; exact h.kept.old b e2 e4 e3.1) hB1
    · obtain ⟨e1, e2, e3, e4⟩ := hB2 b hb
      refine ⟨Nat.lt_of_lt_of_le e2 h.kept.size, .inl e1, fun l e => ?_⟩
      rcases (h.own b (by rw [e]; simp)).2 with g | ⟨m, _, g⟩
      · rcases g with (g | g) | g
        · omega
        · exact e3.1 g
        · exact e3.2 g
      · exact e4 m g
  · rw [if_neg hj]; exact h.slots j
/-- a parameter's value, known as such -/
def wasV (p : PV) (c : Value) : PV := match p with
  | .sc v => .sc v
  | p => .was c p
def wasL : List PV → List Value → List PV
  | p :: ps, c :: cs => wasV p c :: wasL ps cs
  | _, _ => []
theorem wasL_len : ∀ (ps : List PV) (cs : List Value), ps.length = cs.length → (wasL ps cs).length = ps.length
  | [], [], _ => rfl
  | p :: ps, c :: cs, h => by simp only [wasL, List.length_cons]; rw [wasL_len ps cs (by simpa using h)]
  | [], _ :: _, h => by simp at h
  | _ :: _, [], h => by simp at h
theorem wasL_get : ∀ (ps : List PV) (cs : List Value) (k : Nat), ps.length = cs.length → k < ps.length → (wasL ps cs).getD k .any = wasV (ps.getD k .any) (cs.getD k undef)
  | [], _, k, _, h => by simp at h
  | p :: ps, c :: cs, 0, _, _ => by simp [wasL]
  | p :: ps, c :: cs, k + 1, h, hk => by
    have := wasL_get ps cs k (by simpa using h) (by simpa using hk)
    simpa [wasL] using this
  | _ :: _, [], _, h, _ => by simp at h
theorem RelV.wasV {h : Array Obj} {β : Nat → Option (Option Nat)} {p : PV} {c : Value} {B : List Nat} (H : RelV h β p c B) : RelV h β (wasV p c) c B := by
  cases p with
  | sc v => exact H
  | _ => show RelV h β (.was c _) c B; simp only [RelV] at H ⊢; exact ⟨trivial, H⟩
theorem Meets.introW {f : FuncId} {fn : Func} {c : Code} {args : List PV} {r : PV} {deep : Bool} {rs : Array ResultVar} (hf : P.funcs[f]? = some fn) (hb : fn.body = some c) (hN : fn.ntmps = N) (hrs : fn.results = rs) (hn : Nat.ble args.length N = true) (hla : labsL args = [])
    (h : ∀ (Γ : Ctx P N) (cs : List Value), args.length = cs.length → (∀ l, Nat.blt l 100000 = true → Γ.io l = none) → (∀ b, ¬ Γ.lent b) → (∀ l, Γ.io l = none) → (∀ (k : Nat) (p : PV) (v : Value), args[k]? = some p → cs[k]? = some v → OldF Γ v p) → CodeT Γ c ⟨argEnv (wasL args cs) 0, []⟩ (ends Γ rs r deep)) : Meets P f args r deep := by
  intro w cargs ok ha
  obtain ⟨h1, h2⟩ := ha.get
  have hn := Nat.le_of_ble_eq_true hn
  let Γ : Ctx P N := { base := w.heap.size, ok := fun b => ok b, io := fun _ => none, w0 := w, mine := fun _ => False, lent := fun _ => False }
  have hsz : (cargs ++ Array.replicate (fn.ntmps - cargs.size) undef).size = N := by
    have : cargs.size = args.length := by rw [h1]; simp
    simp [this, hN]; omega
  refine calls_of_wp hf hb ?_
  have hsim : Sim Γ ⟨argEnv (wasL args cargs.toList) 0, []⟩ { tmps := cargs ++ Array.replicate (fn.ntmps - cargs.size) undef, defers := [] } w := by
    refine ⟨fun _ => .none, fun _ => none, { size := hsz, defers := rfl, kept := ⟨rfl, rfl, rfl, Nat.le_refl _, fun _ _ _ _ => rfl, fun b _ _ cs t h => ⟨cs, h, rfl⟩⟩, slots := fun k => ?_, objs := fun l ob hl => (by simp [lo] at hl), gone := fun _ _ => rfl, own := fun b hb => absurd rfl hb, ios := fun l b hl => (by cases hl), fresh := fun l b hl => (by cases hl) }⟩
    rw [argEnv_lk]
    have hwl := wasL_len args cargs.toList h1
    by_cases hk : k < args.length
    · rw [if_pos ⟨Nat.zero_le _, by simpa [hwl] using hk⟩]
      obtain ⟨B, g1, g2⟩ := h2 k hk
      refine ⟨B, ?_, fun b hb => ⟨RelV.below _ _ _ g1 b hb, .inl (g2 b hb), fun l => by simp⟩, by simp⟩
      have e : (cargs ++ Array.replicate (fn.ntmps - cargs.size) undef).getD k undef = cargs.toList.getD k undef := by
        have hlt : k < cargs.size := by rw [h1] at hk; simpa using hk
        simp [Array.getD_eq_getD_getElem?, Array.getElem?_append, hlt, List.getD_eq_getElem?_getD]
      rw [e]
      simp only [Nat.sub_zero, wasL_get _ _ _ h1 hk]
      exact (RelV.keep _ _ _ (fun l _ => by intro ob h; cases h) (fun _ _ => rfl) g1).wasV
    · rw [if_neg (by simpa [hwl] using hk)]
      exact ⟨[], by simp [RelV], by simp, by simp⟩
  have hold : ∀ (k : Nat) (p : PV) (v : Value), args[k]? = some p → cargs.toList[k]? = some v → OldF Γ v p := by
    intro k p v e1 e2
    have hk := (List.getElem?_eq_some_iff.1 e1).1
    obtain ⟨B, g1, g2⟩ := h2 k hk
    rw [List.getD_eq_getElem?_getD, e1, List.getD_eq_getElem?_getD, e2] at g1
    refine ⟨?_, B, g1, fun b hb => ⟨g2 b hb, RelV.below _ _ _ g1 b hb, ⟨fun h => h, fun h => h⟩, by simp [Γ]⟩⟩
    cases hpl : p.labs with
    | nil => rfl
    | cons x r =>
      have : x ∈ labsL args := mem_labsL.2 ⟨p, List.mem_of_getElem? e1, by rw [hpl]; simp⟩
      rw [hla] at this; cases this
  refine wp_mono (h Γ cargs.toList h1 (fun _ _ => rfl) (fun _ h => h) (fun _ => rfl) hold _ _ hsim) fun e a' w' ⟨E', hs', hq⟩ => ?_
  have fin : RetIs Γ rs E' r deep → a'.defers = [] ∧ ∃ v, (results fn a'.tmps).run P w' = .ok v w' ∧ ∃ c B, Ending.returned v = .returned c ∧ Below w.heap.size w w' ∧ RelV w'.heap dead r c B ∧ (∀ b ∈ B, ok b ∨ w.heap.size ≤ b) ∧ (deep = true → B.Nodup ∧ ∀ b ∈ B, w.heap.size ≤ b ∧ Free w' b) := by
    intro hr
    obtain ⟨c, B, g1, g2, g3, g4⟩ := hr fn hrs a' w' hs'
    obtain ⟨ow, β, hs'⟩ := hs'
    refine ⟨hs'.defers, c, g1, c, B, rfl, ⟨hs'.kept.os, hs'.kept.tape, hs'.kept.output, hs'.kept.size, fun k hk => hs'.kept.old k hk (fun l => by simp [Γ]) (fun h => h)⟩, g2, fun b hb => (g3 b hb).2.imp id (fun h => (h.elim id False.elim : Γ.nww b).elim id False.elim), fun hd => ⟨(g4 hd).1, fun b hb => ⟨(((g4 hd).2 b hb).2.elim id False.elim : Γ.nww b).elim id False.elim, ((g4 hd).2 b hb).1⟩⟩⟩
  cases e with
  | normal => exact fin hq
  | ret => exact fin hq
  | exit id => exact hq.elim
  | goto l => exact hq.elim
  | panic ch => exact hq.elim
  | outgrown => exact hq.elim
theorem Meets.introW1 {f : FuncId} {fn : Func} {c : Code} {p0 : PV} {r : PV} {deep : Bool} {rs : Array ResultVar} (hf : P.funcs[f]? = some fn) (hb : fn.body = some c) (hN : fn.ntmps = N) (hrs : fn.results = rs) (hn : Nat.ble 1 N = true) (hla : labsL [p0] = [])
    (h : ∀ (Γ : Ctx P N) (c0 : Value), (∀ l, Nat.blt l 100000 = true → Γ.io l = none) → (∀ b, ¬ Γ.lent b) → (∀ l, Γ.io l = none) → OldF Γ c0 p0 → CodeT Γ c ⟨argEnv [wasV p0 c0] 0, []⟩ (ends Γ rs r deep)) : Meets P f [p0] r deep :=
  Meets.introW hf hb hN hrs hn hla fun Γ cs hl hio hle hi0 ho => by
    match cs, hl with
    | [c0], _ => exact h Γ c0 hio hle hi0 (ho 0 _ _ rfl rfl)
end
end Go.Ev
