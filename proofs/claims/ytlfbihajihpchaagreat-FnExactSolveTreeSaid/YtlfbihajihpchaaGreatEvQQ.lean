/- The engine, part QQ: functions that return a new row whose elements are shared: the row becomes the caller's own row. -/
import Derived.Test.YtlfbihajihpchaaGreatEvPP
set_option linter.all false
namespace Go.Ev
open Go.RowKit (Below)
/-- As 'Meets', with a row as the result; the row's own block is new and in no other place, what its cells speak of may be shared. -/
def MeetsF (P : Program) (f : FuncId) (args : List PV) (s n : Nat) (cells : List PV) : Prop :=
  ∀ (w : World) (cargs : Array Value) (ok : Nat → Prop), RelArgs w.heap ok args cargs.toList →
    Calls P f cargs w fun e w' => ∃ c B, e = .returned c ∧ Below w.heap.size w w' ∧ RelV w'.heap dead (.rw s n cells) c B ∧ (∀ b ∈ B, b < w'.heap.size ∧ (ok b ∨ w.heap.size ≤ b)) ∧ (∀ b B', B = b :: B' → w.heap.size ≤ b ∧ b ∉ B')
theorem MeetsF.soft {P : Program} {f : FuncId} {args : List PV} {s n : Nat} {cells : List PV} (h : MeetsF P f args s n cells) : Meets P f args (.sl n cells) false :=
  fun w cargs ok ha => (h w cargs ok ha).mono fun _ _ ⟨c, B, h1, h2, h3, h4, _⟩ => ⟨c, B, h1, h2, h3.soft, fun b hb => (h4 b hb).2, by simp⟩
section
variable {P : Program} {N : Nat} {Γ : Ctx P N} {S : List (Nat × Slot)} {O : List (Nat × Option Ob)} {ow : Nat → Own} {β : Nat → Option (Option Nat)} {F : Env} {a : Act} {w : World}
def ResF (Γ : Ctx P N) (rs : Array ResultVar) (E : Env) (s n : Nat) (cells : List PV) : Prop :=
  ∀ fn : Func, fn.results = rs → ∀ a w, Sim Γ E a w → ∃ c B, (results fn a.tmps).run P w = .ok c w ∧ RelV w.heap dead (.rw s n cells) c B ∧ (∀ b ∈ B, b < w.heap.size ∧ (Γ.ok b ∨ Γ.nw b)) ∧ (∀ b B', B = b :: B' → Γ.nww b ∧ b ∉ B')
def endsF (Γ : Ctx P N) (rs : Array ResultVar) (s n : Nat) (cells : List PV) : Exit → Env → Prop
  | .normal, E => ResF Γ rs E s n cells
  | .ret, E => ResF Γ rs E s n cells
  | _, _ => False
theorem ResF.weak {E E0 : Env} {rs : Array ResultVar} {s n : Nat} {cells : List PV} (he : Ent Γ E E0) (h : ResF Γ rs E0 s n cells) : ResF Γ rs E s n cells := fun fn hf a w hs => h fn hf a w (he a w hs)
theorem ResF.mk {t l s n : Nat} {cells : List PV} {dp dp0 : Bool} (h : lkq S t = some ⟨.ref l s 0 n, dp0⟩) (ho : loq O l = some ⟨cells, dp, false⟩) (hio : Γ.io l = none) : ResF Γ #[.tmp t] ⟨S, O⟩ s n cells := by
  rintro fn hf a w ⟨ow, β, hs⟩
  rw [results_one hf]
  obtain ⟨B, h1, _⟩ := hs.slots t
  rw [lkq_lk h] at h1
  simp only [RelV] at h1
  obtain ⟨Bo, o1, o2, hob⟩ := hs.objs l ⟨cells, dp, false⟩ (by rw [← loq_lo]; exact ho)
  rcases hob with ⟨p1, p2, p3⟩ | ⟨b, cs, u, p1, p2, p3, p4⟩
  · obtain ⟨rfl, _, e⟩ := h1.2.1 p1
    simp only at p2; subst p2
    exact ⟨_, [], rfl, by simp only [RelV]; exact .inl ⟨trivial, trivial, trivial, e⟩, by simp, by simp⟩
  · obtain ⟨cap, cs', u', q1, q0, q3, q4⟩ := h1.2.2 b p1
    rw [p3] at q0; cases q0
    simp only [Nat.zero_mul, Nat.zero_add] at q1 q3
    refine ⟨_, b :: Bo, rfl, by simp only [RelV]; exact .inr ⟨b, cap, cs, u, Bo, ⟨q1, q4, q3⟩, p3, by simpa using p4, rfl⟩, fun c hc => ?_, fun b' B' e => ?_⟩
    · rcases List.mem_cons.1 hc with rfl | hc
      · exact ⟨hs.block_lt p1, .inr (.inl (hs.fresh l _ p1 hio))⟩
      · exact ⟨(o1 c hc).1, (o1 c hc).2.1⟩
    · cases e
      exact ⟨hs.fresh l _ p1 hio, fun hb => (o1 b hb).2.2 l p2⟩
theorem MeetsF.intro {f : FuncId} {fn : Func} {c : Code} {args : List PV} {s n : Nat} {cells : List PV} {rs : Array ResultVar} (hf : P.funcs[f]? = some fn) (hb : fn.body = some c) (hN : fn.ntmps = N) (hrs : fn.results = rs) (hn : Nat.ble args.length N = true)
    (h : ∀ Γ : Ctx P N, (∀ l, Nat.blt l 100000 = true → Γ.io l = none) → CodeT Γ c ⟨argEnv args 0, []⟩ (endsF Γ rs s n cells)) : MeetsF P f args s n cells := by
  intro w cargs ok ha
  obtain ⟨h1, h2⟩ := ha.get
  have hn := Nat.le_of_ble_eq_true hn
  let Γ : Ctx P N := { base := w.heap.size, ok := fun b => ok b, io := fun _ => none, w0 := w, mine := fun _ => False, lent := fun _ => False }
  have hsz : (cargs ++ Array.replicate (fn.ntmps - cargs.size) undef).size = N := by
    have : cargs.size = args.length := by rw [h1]; simp
    simp [this, hN]; omega
  refine calls_of_wp hf hb ?_
  have hsim : Sim Γ ⟨argEnv args 0, []⟩ { tmps := cargs ++ Array.replicate (fn.ntmps - cargs.size) undef, defers := [] } w := by
    refine ⟨fun _ => .none, fun _ => none, { size := hsz, defers := rfl, kept := ⟨rfl, rfl, rfl, Nat.le_refl _, fun _ _ _ _ => rfl, fun b _ _ cs t h => ⟨cs, h, rfl⟩⟩, slots := fun k => ?_, objs := fun l ob hl => (by simp [lo] at hl), gone := fun _ _ => rfl, own := fun b hb => absurd rfl hb, ios := fun l b hl => (by cases hl), fresh := fun l b hl => (by cases hl) }⟩
    rw [argEnv_lk]
    by_cases hk : k < args.length
    · rw [if_pos ⟨Nat.zero_le _, by simpa using hk⟩]
      obtain ⟨B, g1, g2⟩ := h2 k hk
      refine ⟨B, ?_, fun b hb => ⟨RelV.below _ _ _ g1 b hb, .inl (g2 b hb), fun l => by simp⟩, by simp⟩
      have e : (cargs ++ Array.replicate (fn.ntmps - cargs.size) undef).getD k undef = cargs.toList.getD k undef := by
        have hlt : k < cargs.size := by rw [h1] at hk; simpa using hk
        simp [Array.getD_eq_getD_getElem?, Array.getElem?_append, hlt, List.getD_eq_getElem?_getD]
      rw [e]
      simp only [Nat.sub_zero]
      exact RelV.keep _ _ _ (fun l _ => by intro ob h; cases h) (fun _ _ => rfl) g1
    · rw [if_neg (by simpa using hk)]
      exact ⟨[], by simp [RelV], by simp, by simp⟩
  refine wp_mono (h Γ (fun _ _ => rfl) _ _ hsim) fun e a' w' ⟨E', hs', hq⟩ => ?_
  have fin : ResF Γ rs E' s n cells → a'.defers = [] ∧ ∃ v, (results fn a'.tmps).run P w' = .ok v w' ∧ ∃ c B, Ending.returned v = .returned c ∧ Below w.heap.size w w' ∧ RelV w'.heap dead (.rw s n cells) c B ∧ (∀ b ∈ B, b < w'.heap.size ∧ (ok b ∨ w.heap.size ≤ b)) ∧ (∀ b B', B = b :: B' → w.heap.size ≤ b ∧ b ∉ B') := by
    intro hr
    obtain ⟨c, B, g1, g2, g3, g4⟩ := hr fn hrs a' w' hs'
    obtain ⟨ow, β, hs'⟩ := hs'
    exact ⟨hs'.defers, c, g1, c, B, rfl, ⟨hs'.kept.os, hs'.kept.tape, hs'.kept.output, hs'.kept.size, fun k hk => hs'.kept.old k hk (fun l => by simp [Γ]) (fun h => h)⟩, g2, fun b hb => ⟨(g3 b hb).1, (g3 b hb).2.imp id (fun h => (h.elim id False.elim : Γ.nww b).elim id False.elim)⟩, fun b B' e => ⟨(g4 b B' e).1.elim id False.elim, (g4 b B' e).2⟩⟩
  cases e with
  | normal => exact fin hq
  | ret => exact fin hq
  | exit id => exact hq.elim
  | goto l => exact hq.elim
  | panic ch => exact hq.elim
  | outgrown => exact hq.elim

variable {d : Nat} {ty : TypeId} {pos : String} {af : Array Edge} {g : Option (Nat × Bool)}
end
end Go.Ev
