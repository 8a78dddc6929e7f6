/- The engine, part SS: a row of the caller's own, lent to a function that only reads it: what the function returns does not speak of the row's own block. -/
import Derived.Test.YtlfbihajihpchaaGreatEvRR
set_option linter.all false
namespace Go.Ev
open Go.RowKit (Below)
def ROk (w : World) (ok : Nat → Prop) (o : Option Nat) (old : List PV) : Prop := (o = none ∧ old = []) ∨ ∃ b cs t B, o = some b ∧ ¬ ok b ∧ w.heap[b]? = some (.cells cs t (0, 0)) ∧ RelL w.heap true dead old cs 0 B ∧ ∀ x ∈ B, ok x
def lent1 (l0 : Nat) (o : Option Nat) : Nat → Option (Option Nat) := fun l => if l = l0 then some o else none
/-- Called with arguments that read as 'args', an own row l0 among them, the function returns what reads as 'r'; the row reads as before, and the result has no part in its block. -/
def MeetsR (P : Program) (f : FuncId) (args : List PV) (l0 : Nat) (old : List PV) (r : PV) : Prop :=
  ∀ (w : World) (cargs : Array Value) (ok : Nat → Prop) (o : Option Nat), XArgs w.heap ok (lent1 l0 o) args cargs.toList → ROk w ok o old →
    Calls P f cargs w fun e w' => ∃ c B, e = .returned c ∧ Same w w' ∧ (∀ b, b < w.heap.size → o ≠ some b → w'.heap[b]? = w.heap[b]?) ∧
      (∀ b, o = some b → ∀ cs t, w.heap[b]? = some (.cells cs t (0, 0)) → ∃ cs' B', w'.heap[b]? = some (.cells cs' t (0, 0)) ∧ cs'.size = cs.size ∧ RelL w'.heap true dead old cs' 0 B' ∧ ∀ x ∈ B', x < w'.heap.size ∧ (ok x ∨ w.heap.size ≤ x)) ∧
      RelV w'.heap dead r c B ∧ (∀ b ∈ B, ok b ∨ w.heap.size ≤ b)
section
variable {P : Program} {N : Nat}
theorem MeetsR.intro {f : FuncId} {fn : Func} {c : Code} {args : List PV} {l0 : Nat} {old : List PV} {r : PV} {rs : Array ResultVar} (hf : P.funcs[f]? = some fn) (hb : fn.body = some c) (hN : fn.ntmps = N) (hrs : fn.results = rs) (hn : Nat.ble args.length N = true) (hl0 : Nat.ble 100000 l0 = true)
    (h : ∀ Γ : Ctx P N, (∀ l, Nat.blt l 100000 = true → Γ.io l = none) → CodeT Γ c ⟨argEnv args 0, [(l0, some ⟨old, false, false⟩)]⟩ (endsX Γ rs r false [⟨l0, old, old⟩])) : MeetsR P f args l0 old r := by
  intro w cargs ok o ha hob
  obtain ⟨h1, h2⟩ := ha.get
  have hn := Nat.le_of_ble_eq_true hn
  have hl0 := Nat.le_of_ble_eq_true hl0
  let Γ : Ctx P N := { base := w.heap.size, ok := ok, io := fun l => if l = l0 then o else none, w0 := w, mine := fun _ => False, lent := fun _ => False }
  have hio : ∀ l b, Γ.io l = some b ↔ l = l0 ∧ o = some b := by
    intro l b
    show (if l = l0 then o else none) = some b ↔ _
    by_cases e : l = l0 <;> simp [e]
  have hsz : (cargs ++ Array.replicate (fn.ntmps - cargs.size) undef).size = N := by
    have : cargs.size = args.length := by rw [h1]; simp
    simp [this, hN]; omega
  have hblt : ∀ b, o = some b → b < w.heap.size ∧ ¬ ok b := by
    rintro b rfl
    rcases hob with ⟨e, _⟩ | ⟨b', cs, t, B, e, hk, g, _⟩
    · cases e
    · cases e
      rcases Nat.lt_or_ge b w.heap.size with h | h
      · exact ⟨h, hk⟩
      · simp [Array.getElem?_eq_none h] at g
  refine calls_of_wp hf hb ?_
  let ow : Nat → Own := fun b => if o = some b then .lab l0 else .none
  have how : ∀ b l, ow b = .lab l → l = l0 ∧ o = some b := by
    intro b l e
    have e : (if o = some b then Own.lab l0 else .none) = .lab l := e
    by_cases hh : o = some b
    · rw [if_pos hh] at e; cases e; exact ⟨rfl, hh⟩
    · rw [if_neg hh] at e; cases e
  have hsim : Sim Γ ⟨argEnv args 0, [(l0, some ⟨old, false, false⟩)]⟩ { tmps := cargs ++ Array.replicate (fn.ntmps - cargs.size) undef, defers := [] } w := by
    refine ⟨ow, lent1 l0 o, { size := hsz, defers := rfl, kept := ⟨rfl, rfl, rfl, Nat.le_refl _, fun _ _ _ _ => rfl, fun b _ _ cs t h => ⟨cs, h, rfl⟩⟩, slots := fun k => ?_, objs := fun l ob hl => ?_, gone := fun l hl => ?_, own := fun b hb => ?_, ios := fun l b hl _ => ?_, fresh := fun l b hl hi => ?_ }⟩
    · rw [argEnv_lk]
      by_cases hk : k < args.length
      · rw [if_pos ⟨Nat.zero_le _, by simpa using hk⟩]
        obtain ⟨B, g1, g2⟩ := h2 k hk
        refine ⟨B, ?_, fun b hb => ⟨RelV.below _ _ _ g1 b hb, .inl (g2 b hb), fun l e => (hblt b (how b l e).2).2 (g2 b hb)⟩, by simp⟩
        have e : (cargs ++ Array.replicate (fn.ntmps - cargs.size) undef).getD k undef = cargs.toList.getD k undef := by
          have hlt : k < cargs.size := by rw [h1] at hk; simpa using hk
          simp [Array.getD_eq_getD_getElem?, Array.getElem?_append, hlt, List.getD_eq_getElem?_getD]
        rw [e]
        simpa only [Nat.sub_zero] using g1
      · rw [if_neg (by simpa using hk)]
        exact ⟨[], by simp [RelV], by simp, by simp⟩
    · simp only [lo_cons] at hl
      by_cases e : l0 = l
      · subst e
        rw [if_pos rfl] at hl; cases hl
        rcases hob with ⟨rfl, e2⟩ | ⟨b, cs, t, B, rfl, hk, g1, g2, g3⟩
        · exact ⟨[], by simp, by simp, .inl ⟨by simp [lent1], e2, rfl⟩⟩
        · refine ⟨B, fun x hx => ⟨RelL.below _ _ _ _ g2 x hx, .inl (g3 x hx), fun l e => (hblt x (how x l e).2).2 (g3 x hx)⟩, fun hd => (by cases hd), .inr ⟨b, cs, t, by simp [lent1], ?_, g1, g2⟩⟩
          show (if _ then _ else _) = _
          rw [if_pos rfl]
      · rw [if_neg e] at hl; simp [lo] at hl
    · simp only [lo_cons] at hl
      by_cases e : l0 = l
      · rw [if_pos e] at hl; cases hl
      · simp [lent1, Ne.symm e]
    · have hb : (if o = some b then Own.lab l0 else .none) ≠ .none := hb
      by_cases hh : o = some b
      · refine ⟨(hblt b hh).1, .inr ⟨l0, ?_, (hio l0 b).2 ⟨rfl, hh⟩⟩⟩
        show (if _ then _ else _) = _
        rw [if_pos hh]
      · rw [if_neg hh] at hb; exact absurd rfl hb
    · obtain ⟨rfl, rfl⟩ := (hio l b).1 hl
      simp [lent1]
    · have hl : (if l = l0 then some o else none) = some (some b) := hl
      by_cases e : l = l0
      · rw [if_pos e] at hl
        rw [(hio l b).2 ⟨e, Option.some.inj hl⟩] at hi; cases hi
      · rw [if_neg e] at hl; cases hl
  have hioN : ∀ l, Nat.blt l 100000 = true → Γ.io l = none := by
    intro l hl
    have hl := (blt_iff _ _).1 hl
    show (if l = l0 then o else none) = none
    rw [if_neg (by omega)]
  refine wp_mono (h Γ hioN _ _ hsim) fun e a' w' ⟨E', hs', hq⟩ => ?_
  have fin : RetX Γ rs E' r false [⟨l0, old, old⟩] → a'.defers = [] ∧ ∃ v, (results fn a'.tmps).run P w' = .ok v w' ∧ ∃ c B, Ending.returned v = .returned c ∧ Same w w' ∧ (∀ b, b < w.heap.size → o ≠ some b → w'.heap[b]? = w.heap[b]?) ∧
      (∀ b, o = some b → ∀ cs t, w.heap[b]? = some (.cells cs t (0, 0)) → ∃ cs' B', w'.heap[b]? = some (.cells cs' t (0, 0)) ∧ cs'.size = cs.size ∧ RelL w'.heap true dead old cs' 0 B' ∧ ∀ x ∈ B', x < w'.heap.size ∧ (ok x ∨ w.heap.size ≤ x)) ∧
      RelV w'.heap dead r c B ∧ (∀ b ∈ B, ok b ∨ w.heap.size ≤ b) := by
    rintro ⟨hr, hr2⟩
    obtain ⟨c, B, g1, g2, g3, g4⟩ := hr fn hrs a' w' hs'
    obtain ⟨E2, ⟨ow2, β2, hs2⟩, hr2⟩ := hr2 a' w' hs'
    refine ⟨hs2.defers, c, g1, c, B, rfl, ⟨hs2.kept.os, hs2.kept.output, hs2.kept.tape, hs2.kept.size⟩, fun b hb hn => hs2.kept.old b hb (fun l e => hn ((hio l b).1 e).2) (fun h => h), fun b e cs t hc => ?_, g2, fun b hb => (g3 b hb).2.imp id (fun h => (h.elim id False.elim : Γ.nww b).elim id False.elim)⟩
    obtain ⟨dp, hl⟩ := hr2 ⟨l0, old, old⟩ (by simp)
    obtain ⟨Bo, k1, _, k3⟩ := hs2.objs l0 _ hl
    have hβ := hs2.ios l0 b ((hio l0 b).2 ⟨rfl, e⟩) (by simp only at hl; rw [hl]; rfl)
    rcases k3 with ⟨k4, _⟩ | ⟨b', cs', t', k4, k5, k6, k7⟩
    · rw [hβ] at k4; cases k4
    · rw [hβ] at k4; cases k4
      obtain ⟨cs2, q1, q2⟩ := hs2.kept.ios b (hblt b e).1 (fun h => h) cs t hc
      rw [k6] at q1; cases q1
      exact ⟨cs', Bo, k6, q2, by simpa using k7, fun x hx => ⟨(k1 x hx).1, (k1 x hx).2.1.imp id (fun h => (h.elim id False.elim : Γ.nww x).elim id False.elim)⟩⟩
  cases e with
  | normal => exact fin hq
  | ret => exact fin hq
  | exit id => exact hq.elim
  | goto l => exact hq.elim
  | panic ch => exact hq.elim
  | outgrown => exact hq.elim
variable {Γ : Ctx P N} {S : List (Nat × Slot)} {O : List (Nat × Option Ob)} {ow : Nat → Own} {β : Nat → Option (Option Nat)} {F : Env} {a : Act} {w : World}
variable {d : Nat} {ty : TypeId} {pos : String} {af : Array Edge} {g : Option (Nat × Bool)}
end
end Go.Ev
