/- The engine, part Q: functions that write a row that is handed in; functions whose result is a row of its own. Plain cells only. -/
import Derived.Test.YtbfjidhekfnfjaaEvP
set_option linter.all false
namespace Go.Ev
open Go.RowKit (Below)

/-- Where a row lies. -/
structure RowAt (h : Array Obj) (c : Value) (s n : Nat) (cells : List PV) (b cap : Nat) (cs : Array Value) (t : TypeId) : Prop where
  val : c = .slice (some ⟨b, 0, none⟩) n cap
  row : h[b]? = some (.cells cs t (0, 0))
  fit : cap * s ≤ cs.size
  len : n ≤ cap
  rel : RelL h true dead cells cs 0 []

/-- The function's first argument is a row; it is written; the others are plain values. -/
def MeetsIO (P : Program) (f : FuncId) (s n : Nat) (cells : List PV) (rest : List Value) (r : Value) (cells' : List PV) : Prop :=
  (∀ w : World, n = 0 → cells = [] → cells' = [] ∧ Calls P f (Value.slice none 0 0 :: rest).toArray w fun e w' => e = .returned r ∧ Below w.heap.size w w') ∧
  ∀ (w : World) (c : Value) (b cap : Nat) (cs : Array Value) (t : TypeId), RowAt w.heap c s n cells b cap cs t → Calls P f (c :: rest).toArray w fun e w' =>
    e = .returned r ∧ Same w w' ∧ (∀ b', b' < w.heap.size → b' ≠ b → w'.heap[b']? = w.heap[b']?) ∧ ∃ cs', w'.heap[b]? = some (.cells cs' t (0, 0)) ∧ cs'.size = cs.size ∧ RelL w'.heap true dead cells' cs' 0 []

def endsIO {P : Program} {N : Nat} (_ : Ctx P N) (rs : Array ResultVar) (r : Value) (cells' : List PV) : Exit → Env → Prop
  | .normal, E => (∃ t dp, rs = #[.tmp t] ∧ lkq E.s t = some ⟨.sc r, dp⟩) ∧ ∃ dp, loq E.o 1000 = some ⟨cells', dp, false⟩
  | .ret, E => (∃ t dp, rs = #[.tmp t] ∧ lkq E.s t = some ⟨.sc r, dp⟩) ∧ ∃ dp, loq E.o 1000 = some ⟨cells', dp, false⟩
  | _, _ => False

section
variable {P : Program} {N : Nat}
theorem x16 {Γ : Ctx P N} {S : List (Nat × Slot)} {O : List (Nat × Option Ob)} {t : Nat} {r r' : Value} {dp dp' : Bool} {cells' : List PV} (h1 : lkq S t = some ⟨.sc r', dp⟩) (h2 : r' = r) (h3 : loq O 1000 = some ⟨cells', dp', false⟩) : endsIO Γ #[.tmp t] r cells' .ret ⟨S, O⟩ := by
  subst h2; exact ⟨⟨t, dp, rfl, h1⟩, dp', h3⟩

theorem sc_slots {rest : List Value} {c0 : Value} {k M : Nat} (hk : k ≠ 0) : let tm := (c0 :: rest).toArray ++ Array.replicate (M - (c0 :: rest).toArray.size) undef
    ∃ B : List Nat, (∀ (h : Array Obj) (β : Nat → Option (Option Nat)), RelV h β (lk (argEnv (rest.map .sc) 1) k).v (tm.getD k undef) B) ∧ B = [] ∧ (lk (argEnv (rest.map .sc) 1) k).deep = false := by
  intro tm
  refine ⟨[], fun h β => ?_, rfl, ?_⟩
  · rw [argEnv_lk]
    by_cases hc : 1 ≤ k ∧ k - 1 < (rest.map PV.sc).length
    · rw [if_pos hc]
      have hlt : k - 1 < rest.length := by simpa using hc.2
      have e1 : (rest.map PV.sc).getD (k - 1) .any = .sc rest[k - 1] := by simp [List.getD_eq_getElem?_getD, hlt]
      rw [e1]
      simp only [RelV]
      refine ⟨?_, trivial⟩
      obtain ⟨j, rfl⟩ : ∃ j, k = j + 1 := ⟨k - 1, by omega⟩
      simp only [tm, Array.getD_eq_getD_getElem?]
      rw [Array.getElem?_append_left (by simp; omega)]
      simp at hlt ⊢
      simp [hlt]
    · rw [if_neg hc]; simp [RelV]
  · rw [argEnv_lk]; split <;> rfl

theorem MeetsIO.intro {f : FuncId} {fn : Func} {c : Code} {s n : Nat} {cells cells' : List PV} {rest : List Value} {r : Value} {rs : Array ResultVar} (hf : P.funcs[f]? = some fn) (hb : fn.body = some c) (hN : fn.ntmps = N) (hrs : fn.results = rs) (hn : Nat.ble (rest.length + 1) N = true) (hnil : cells = [] → cells' = []) (hsc : allSc cells' = true)
    (h : ∀ Γ : Ctx P N, (∀ l, l ≠ 1000 → Γ.io l = none) → CodeT Γ c ⟨(0, ⟨.ref 1000 s 0 n, false⟩) :: argEnv (rest.map .sc) 1, [(1000, some ⟨cells, true, false⟩)]⟩ (endsIO Γ rs r cells')) : MeetsIO P f s n cells rest r cells' := by
  have hn := Nat.le_of_ble_eq_true hn
  have hsz : ∀ c0 : Value, ((c0 :: rest).toArray ++ Array.replicate (fn.ntmps - (c0 :: rest).toArray.size) undef).size = N := by
    intro c0; simp [hN]; omega
  have hfirst : ∀ c0 : Value, ((c0 :: rest).toArray ++ Array.replicate (fn.ntmps - (c0 :: rest).toArray.size) undef).getD 0 undef = c0 := by
    intro c0
    rw [Array.getD_eq_getD_getElem?, Array.getElem?_append_left (by simp)]; simp
  refine ⟨fun w h0 hc0 => ⟨hnil hc0, ?_⟩, fun w c0 b cap cs t hr => ?_⟩
  · subst h0; subst hc0
    let Γ : Ctx P N := { base := w.heap.size, ok := fun _ => True, io := fun _ => none, w0 := w }
    refine calls_of_wp hf hb ?_
    have hsim : Sim Γ ⟨(0, ⟨.ref 1000 s 0 0, false⟩) :: argEnv (rest.map .sc) 1, [(1000, some ⟨[], true, false⟩)]⟩ { tmps := (Value.slice none 0 0 :: rest).toArray ++ Array.replicate (fn.ntmps - (Value.slice none 0 0 :: rest).toArray.size) undef, defers := [] } w := by
      refine ⟨fun _ => .none, fun l => if l = 1000 then some none else none, { size := hsz _, defers := rfl, kept := ⟨rfl, rfl, rfl, Nat.le_refl _, fun _ _ _ => rfl, fun b _ cs t h => ⟨cs, h, rfl⟩⟩, slots := fun k => ?_, objs := fun l ob hl => ?_, gone := fun l hl => ?_, own := fun b hb => absurd rfl hb, ios := fun l b hl => (by cases hl), fresh := fun l b hl => ?_ }⟩
      · rw [lk_cons]
        by_cases hk : 0 = k
        · subst hk
          rw [if_pos rfl, hfirst]
          exact ⟨[], by simp only [RelV]; exact ⟨trivial, fun _ => ⟨trivial, trivial, trivial⟩, fun b hb => by simp at hb⟩, by simp, by simp⟩
        · rw [if_neg hk]
          obtain ⟨B, h1, rfl, h3⟩ := sc_slots (rest := rest) (c0 := .slice none 0 0) (k := k) (M := fn.ntmps) (fun e => hk e.symm)
          exact ⟨[], h1 _ _, by simp, by simp⟩
      · rw [lo_cons] at hl
        by_cases hk : 1000 = l
        · subst hk; rw [if_pos rfl] at hl; cases hl
          exact ⟨[], by simp, by simp, .inl ⟨by simp, rfl, rfl⟩⟩
        · rw [if_neg hk] at hl; simp [lo] at hl
      · rw [lo_cons] at hl
        by_cases hk : 1000 = l
        · rw [if_pos hk] at hl; cases hl
        · simp [show ¬ l = 1000 from fun e => hk e.symm]
      · split at hl <;> simp at hl
    refine wp_mono (h Γ (fun _ _ => rfl) _ _ hsim) fun e a' w' ⟨E', hs', hq⟩ => ?_
    have fin : ((∃ t dp, rs = #[.tmp t] ∧ lkq E'.s t = some ⟨.sc r, dp⟩) ∧ ∃ dp, loq E'.o 1000 = some ⟨cells', dp, false⟩) → a'.defers = [] ∧ ∃ v, (results fn a'.tmps).run P w' = .ok v w' ∧ (Ending.returned v = .returned r ∧ Below w.heap.size w w') := by
      rintro ⟨⟨t, dp, e1, e2⟩, _⟩
      obtain ⟨ow, β, hs'⟩ := hs'
      obtain ⟨B, g1, _⟩ := hs'.slots t
      rw [lkq_lk e2] at g1
      simp only [RelV] at g1
      exact ⟨hs'.defers, r, by rw [results_one (hrs.trans e1)]; simp [resRun, ← g1.1], rfl, ⟨hs'.kept.os, hs'.kept.tape, hs'.kept.output, hs'.kept.size, fun k hk => hs'.kept.old k hk (fun l => by simp [Γ])⟩⟩
    cases e with
    | normal => exact fin hq
    | ret => exact fin hq
    | exit id => exact hq.elim
    | goto l => exact hq.elim
    | panic ch => exact hq.elim
    | outgrown => exact hq.elim
  · let Γ : Ctx P N := { base := w.heap.size, ok := fun _ => True, io := fun l => if l = 1000 then some b else none, w0 := w }
    have hblt : b < w.heap.size := by
      rcases Nat.lt_or_ge b w.heap.size with h | h
      · exact h
      · have := hr.row; simp [Array.getElem?_eq_none h] at this
    refine calls_of_wp hf hb ?_
    have hsim : Sim Γ ⟨(0, ⟨.ref 1000 s 0 n, false⟩) :: argEnv (rest.map .sc) 1, [(1000, some ⟨cells, true, false⟩)]⟩ { tmps := (c0 :: rest).toArray ++ Array.replicate (fn.ntmps - (c0 :: rest).toArray.size) undef, defers := [] } w := by
      refine ⟨fun b' => if b' = b then .lab 1000 else .none, fun l => if l = 1000 then some (some b) else none, { size := hsz _, defers := rfl, kept := ⟨rfl, rfl, rfl, Nat.le_refl _, fun _ _ _ => rfl, fun b _ cs t h => ⟨cs, h, rfl⟩⟩, slots := fun k => ?_, objs := fun l ob hl => ?_, gone := fun l hl => ?_, own := fun b' hb => ?_, ios := fun l b' hl hs => ?_, fresh := fun l b' hl hi => ?_ }⟩
      · rw [lk_cons]
        by_cases hk : 0 = k
        · subst hk
          rw [if_pos rfl, hfirst]
          refine ⟨[], ?_, by simp, by simp⟩
          simp only [RelV]
          refine ⟨trivial, fun h => by simp at h, fun b' hb => ?_⟩
          simp at hb; subst hb
          exact ⟨cap, cs, t, by simpa using hr.val, hr.row, by simpa using hr.fit, hr.len⟩
        · rw [if_neg hk]
          obtain ⟨B, h1, rfl, h3⟩ := sc_slots (rest := rest) (c0 := c0) (k := k) (M := fn.ntmps) (fun e => hk e.symm)
          exact ⟨[], h1 _ _, by simp, by simp⟩
      · rw [lo_cons] at hl
        by_cases hk : 1000 = l
        · subst hk; rw [if_pos rfl] at hl; cases hl
          exact ⟨[], by simp, by simp, .inr ⟨b, cs, t, by simp, by simp, hr.row, hr.rel⟩⟩
        · rw [if_neg hk] at hl; simp [lo] at hl
      · rw [lo_cons] at hl
        by_cases hk : 1000 = l
        · rw [if_pos hk] at hl; cases hl
        · simp [show ¬ l = 1000 from fun e => hk e.symm]
      · by_cases hbb : b' = b
        · subst hbb; exact ⟨hblt, .inr ⟨1000, by simp, by simp [Γ]⟩⟩
        · simp [hbb] at hb
      · by_cases hk : l = 1000
        · subst hk; simp [Γ] at hl; simp [hl]
        · simp [Γ, hk] at hl
      · by_cases hk : l = 1000
        · subst hk; simp [Γ] at hi
        · simp [hk] at hl
    refine wp_mono (h Γ (fun l hl => by simp [Γ, hl]) _ _ hsim) fun e a' w' ⟨E', hs', hq⟩ => ?_
    have fin : ((∃ t dp, rs = #[.tmp t] ∧ lkq E'.s t = some ⟨.sc r, dp⟩) ∧ ∃ dp, loq E'.o 1000 = some ⟨cells', dp, false⟩) → a'.defers = [] ∧ ∃ v, (results fn a'.tmps).run P w' = .ok v w' ∧ (Ending.returned v = .returned r ∧ Same w w' ∧ (∀ b', b' < w.heap.size → b' ≠ b → w'.heap[b']? = w.heap[b']?) ∧ ∃ cs', w'.heap[b]? = some (.cells cs' t (0, 0)) ∧ cs'.size = cs.size ∧ RelL w'.heap true dead cells' cs' 0 []) := by
      rintro ⟨⟨t', dp, e1, e2⟩, dp', e3⟩
      obtain ⟨ow, β, hs'⟩ := hs'
      obtain ⟨B, g1, _⟩ := hs'.slots t'
      rw [lkq_lk e2] at g1
      simp only [RelV] at g1
      have hlo : lo E'.o 1000 = some ⟨cells', dp', false⟩ := by rw [← loq_lo]; exact e3
      have hβ := hs'.ios 1000 b (by simp [Γ]) (by rw [hlo]; rfl)
      obtain ⟨Bo, _, _, hob⟩ := hs'.objs 1000 _ hlo
      obtain ⟨cs2, k1, k2⟩ := hs'.kept.ios b hblt cs t hr.row
      rcases hob with ⟨p1, _⟩ | ⟨b2, cs3, t3, p1, p2, p3, p4⟩
      · rw [hβ] at p1; cases p1
      · rw [hβ] at p1; cases p1
        rw [k1] at p3; cases p3
        have := allSc_nil hsc p4
        subst this
        exact ⟨hs'.defers, r, by rw [results_one (hrs.trans e1)]; simp [resRun, ← g1.1], rfl, ⟨hs'.kept.os, hs'.kept.output, hs'.kept.tape, hs'.kept.size⟩, fun b' hb' hne => hs'.kept.old b' hb' (fun l => by simp [Γ]; intro _ e; exact hne e.symm), cs2, k1, k2, p4⟩
    cases e with
    | normal => exact fin hq
    | ret => exact fin hq
    | exit id => exact hq.elim
    | goto l => exact hq.elim
    | panic ch => exact hq.elim
    | outgrown => exact hq.elim
end

section
variable {P : Program} {N : Nat} {Γ : Ctx P N} {S : List (Nat × Slot)} {O : List (Nat × Option Ob)} {F : Env} {a : Act} {w : World}
variable {d : Nat} {ty : TypeId} {pos : String} {af : Array Edge} {g : Option (Nat × Bool)}

inductive ScArgs (S : List (Nat × Slot)) : List Operand → List Value → Prop
  | nil : ScArgs S [] []
  | cons {x : Operand} {v : Value} {xs : List Operand} {vs : List Value} : evq S x = some (.sc v) → ScArgs S xs vs → ScArgs S (x :: xs) (v :: vs)
theorem ScArgs.eval {F : Env} {ow : Nat → Own} {β : Nat → Option (Option Nat)} (hs : SimG Γ ow β F a w) : ∀ {xs : List Operand} {vs : List Value}, ScArgs S xs vs → (∀ k ∈ orsA xs, lk F.s k = lk S k) → xs.map a.eval = vs
  | _, _, .nil, _ => rfl
  | x :: xs, v :: vs, .cons h1 h2, hk => by
    have e1 := ev_sc (S := S) ⟨ow, β, hs⟩ h1 (fun k hk' => hk k (by cases x <;> simp [ors, orsA] at hk' ⊢; exact .inl hk'))
    have e2 := ScArgs.eval hs h2 (fun k hk' => hk k (by cases x <;> simp [orsA, hk']))
    rw [List.map_cons, e1, e2]

theorem L_callIO {f : FuncId} [hfc : FnC P f] {x : Operand} {xs : List Operand} {us : Array TypeId} {vs : List Value} {l s n : Nat} {cells cells' : List PV} {dp : Bool} {r : Value} (hx : evq S x = some (.ref l s 0 n)) (ho : loq O l = some ⟨cells, dp, false⟩) (hv : ScArgs S xs vs) (hm : MeetsIO P f s n cells vs r cells') (hsc : allSc cells = true) (hd : Nat.blt d N = true) :
    Local Γ ⟨some d, .call ⟨.value (.func f), (x :: xs).toArray, us⟩, ty, pos, af, g⟩ ⟨S, O⟩ ⟨[(d, ⟨.sc r, false⟩)], [(l, some ⟨cells', dp, false⟩)]⟩ (ors x ++ orsA xs) [l] [] := by
  intro F hs hl _ a w ⟨ow, β, hsim⟩ Q
  have hdN := (blt_iff _ _).1 hd
  obtain ⟨B, h1, _⟩ := ev_rel hsim hx (fun k hk => hs k (by simp [hk]))
  have hvs := hv.eval hsim (fun k hk => hs k (by simp [hk]))
  have ho' : lo F.o l = some ⟨cells, dp, false⟩ := by rw [hl l (by simp), ← loq_lo]; exact ho
  obtain ⟨Bo, o1, o2, hob⟩ := hsim.objs l _ ho'
  simp only [RelV] at h1
  unfold Oper.wp
  have hrun : (execOp a.eval ⟨some d, .call ⟨.value (.func f), (x :: xs).toArray, us⟩, ty, pos, af, g⟩).run P w = .ok (.enter f (a.eval x :: vs).toArray) w := by
    simp [execOp, resolve, Act.eval, Deferred.ofValue, invoke, hfc.run, ← hvs]
  rw [hrun]
  show Calls _ _ _ _ _
  rcases hob with ⟨p1, p2, p3⟩ | ⟨b, cs, u, p1, p2, p3, p4⟩
  · obtain ⟨hn, _, hc⟩ := h1.2.1 p1
    simp only at p2
    obtain ⟨hc', hcall⟩ := hm.1 w hn p2
    rw [hc]
    refine hcall.mono fun e w' ⟨he, hb⟩ => ?_
    subst he
    show Sim Γ _ _ _
    have h2 := (hsim.grow hb).put hdN (v := .sc r) (c := r) (O := []) (by simp [RelV]) (by simp)
    refine Sim.congr (fun k => ?_) (fun m => ?_) ⟨_, _, h2⟩
    · rfl
    · simp only [Env.app, List.cons_append, List.nil_append, lo_cons]
      by_cases hm' : l = m
      · subst hm'; rw [if_pos rfl, ho', hc', p2]
      · rw [if_neg hm']
  · obtain ⟨cap, cs', u', q1, q2, q3, q4⟩ := h1.2.2 b p1
    rw [p3] at q2; cases q2
    have hBo := allSc_nil hsc p4
    subst hBo
    simp only [Nat.zero_mul, Nat.zero_add] at q1 q3
    refine (hm.2 w (a.eval x) b cap cs u ⟨q1, p3, q3, q4, p4⟩).mono fun e w' ⟨he, hsame, hoth, cs2, k1, k2, k3⟩ => ?_
    subst he
    show Sim Γ _ _ _
    obtain ⟨ow', h'⟩ := hsim.rewrite hsame p1 hoth p3 k1 k2 [] ⟨cells', dp, false⟩ (O := []) k3 (by simp) (by simp)
    have h2 := h'.put hdN (v := .sc r) (c := r) (O := []) (by simp [RelV]) (by simp)
    exact ⟨_, _, h2⟩

/-- The function's result is a row of its own, of plain cells. -/
def MeetsR (P : Program) (f : FuncId) (args : List PV) (s n : Nat) (cells : List PV) : Prop :=
  ∀ (w : World) (cargs : Array Value) (ok : Nat → Prop), RelArgs w.heap ok args cargs.toList →
    Calls P f cargs w fun e w' => ∃ c, e = .returned c ∧ Below w.heap.size w w' ∧ ((n = 0 ∧ cells = [] ∧ c = .slice none 0 0) ∨ ∃ b cap cs t, RowAt w'.heap c s n cells b cap cs t ∧ w.heap.size ≤ b)

def endsR {P : Program} {N : Nat} (Γ : Ctx P N) (rs : Array ResultVar) (s n : Nat) (cells : List PV) : Exit → Env → Prop
  | .normal, E => ∃ t l dp dp0, rs = #[.tmp t] ∧ Γ.io l = none ∧ lkq E.s t = some ⟨.ref l s 0 n, dp0⟩ ∧ loq E.o l = some ⟨cells, dp, false⟩
  | .ret, E => ∃ t l dp dp0, rs = #[.tmp t] ∧ Γ.io l = none ∧ lkq E.s t = some ⟨.ref l s 0 n, dp0⟩ ∧ loq E.o l = some ⟨cells, dp, false⟩
  | _, _ => False
theorem x17 {t l s n : Nat} {cells : List PV} {dp dp0 : Bool} (hio : Γ.io l = none) (h1 : lkq S t = some ⟨.ref l s 0 n, dp0⟩) (h2 : loq O l = some ⟨cells, dp, false⟩) : endsR Γ #[.tmp t] s n cells .ret ⟨S, O⟩ := ⟨t, l, dp, dp0, rfl, hio, h1, h2⟩

theorem MeetsR.intro {f : FuncId} {fn : Func} {c : Code} {args : List PV} {s n : Nat} {cells : List PV} {rs : Array ResultVar} (hf : P.funcs[f]? = some fn) (hb : fn.body = some c) (hN : fn.ntmps = N) (hrs : fn.results = rs) (hn : Nat.ble args.length N = true) (hsc : allSc cells = true)
    (h : ∀ Γ : Ctx P N, Γ.io = (fun _ => none) → CodeT Γ c ⟨argEnv args 0, []⟩ (endsR Γ rs s n cells)) : MeetsR P f args s n cells := by
  intro w cargs ok ha
  obtain ⟨h1, h2⟩ := ha.get
  have hn := Nat.le_of_ble_eq_true hn
  let Γ : Ctx P N := { base := w.heap.size, ok := fun b => ok b, io := fun _ => none, w0 := w }
  have hsz : (cargs ++ Array.replicate (fn.ntmps - cargs.size) undef).size = N := by
    have : cargs.size = args.length := by rw [h1]; simp
    simp [this, hN]; omega
  refine calls_of_wp hf hb ?_
  have hsim : Sim Γ ⟨argEnv args 0, []⟩ { tmps := cargs ++ Array.replicate (fn.ntmps - cargs.size) undef, defers := [] } w := by
    refine ⟨fun _ => .none, fun _ => none, { size := hsz, defers := rfl, kept := ⟨rfl, rfl, rfl, Nat.le_refl _, fun _ _ _ => rfl, fun b _ cs t h => ⟨cs, h, rfl⟩⟩, slots := fun k => ?_, objs := fun l ob hl => (by simp [lo] at hl), gone := fun _ _ => rfl, own := fun b hb => absurd rfl hb, ios := fun l b hl => (by cases hl), fresh := fun l b hl => (by cases hl) }⟩
    rw [argEnv_lk]
    by_cases hk : k < args.length
    · rw [if_pos ⟨Nat.zero_le _, by simpa using hk⟩]
      obtain ⟨B, g1, g2⟩ := h2 k hk
      refine ⟨B, ?_, fun b hb => ⟨RelV.below _ _ _ g1 b hb, .inl (g2 b hb), fun l => by simp⟩, by simp⟩
      have e : (cargs ++ Array.replicate (fn.ntmps - cargs.size) undef).getD k undef = cargs.toList.getD k undef := by
        have hlt : k < cargs.size := by rw [h1] at hk; simpa using hk
        simp [Array.getD_eq_getD_getElem?, Array.getElem?_append, hlt, List.getD_eq_getElem?_getD]
      rw [e]
      simp only [Nat.sub_zero]
      exact RelV.keep _ _ _ (fun l _ => by intro ob h; cases h) (fun _ _ => rfl) g1
    · rw [if_neg (by simpa using hk)]
      exact ⟨[], by simp [RelV], by simp, by simp⟩
  refine wp_mono (h Γ rfl _ _ hsim) fun e a' w' ⟨E', hs', hq⟩ => ?_
  have fin : (∃ t l dp dp0, rs = #[.tmp t] ∧ Γ.io l = none ∧ lkq E'.s t = some ⟨.ref l s 0 n, dp0⟩ ∧ loq E'.o l = some ⟨cells, dp, false⟩) → a'.defers = [] ∧ ∃ v, (results fn a'.tmps).run P w' = .ok v w' ∧ ∃ c, Ending.returned v = .returned c ∧ Below w.heap.size w w' ∧ ((n = 0 ∧ cells = [] ∧ c = .slice none 0 0) ∨ ∃ b cap cs t, RowAt w'.heap c s n cells b cap cs t ∧ w.heap.size ≤ b) := by
    rintro ⟨t, l, dp, dp0, e1, hio, e2, e3⟩
    obtain ⟨ow, β, hs'⟩ := hs'
    obtain ⟨B, g1, _⟩ := hs'.slots t
    rw [lkq_lk e2] at g1
    simp only [RelV] at g1
    obtain ⟨Bo, _, _, hob⟩ := hs'.objs l _ (by rw [← loq_lo]; exact e3)
    refine ⟨hs'.defers, _, by rw [results_one (hrs.trans e1)]; rfl, _, rfl, ⟨hs'.kept.os, hs'.kept.tape, hs'.kept.output, hs'.kept.size, fun k hk => hs'.kept.old k hk (fun l => by simp [Γ])⟩, ?_⟩
    rcases hob with ⟨p1, p2, _⟩ | ⟨b, cs, u, p1, p2, p3, p4⟩
    · obtain ⟨q1, _, q2⟩ := g1.2.1 p1
      exact .inl ⟨q1, p2, q2⟩
    · obtain ⟨cap, cs', u', q1, q2, q3, q4⟩ := g1.2.2 b p1
      rw [p3] at q2; cases q2
      have := allSc_nil hsc p4
      subst this
      exact .inr ⟨b, cap, cs, u, ⟨by simpa using q1, p3, by simpa using q3, q4, p4⟩, hs'.fresh l b p1 hio⟩
  cases e with
  | normal => exact fin hq
  | ret => exact fin hq
  | exit id => exact hq.elim
  | goto l => exact hq.elim
  | panic ch => exact hq.elim
  | outgrown => exact hq.elim

theorem L_callR {f : FuncId} [hfc : FnC P f] {xs : List Operand} {us : Array TypeId} {ps : List PV} {ls : List Nat} {s n : Nat} {cells : List PV} (ha : ArgsV S O xs ps ls) (hm : MeetsR P f ps s n cells) (hio : Γ.io d = none) (hd : Nat.blt d N = true) :
    Local Γ ⟨some d, .call ⟨.value (.func f), xs.toArray, us⟩, ty, pos, af, g⟩ ⟨S, O⟩ ⟨[(d, ⟨.ref d s 0 n, false⟩)], [(d, some ⟨cells, true, false⟩)]⟩ (orsA xs) ls [d] := by
  intro F hs hl hnd a w ⟨ow, β, hsim⟩ Q
  have hdN := (blt_iff _ _).1 hd
  have hargs := args_rel hsim ha hs hl
  unfold Oper.wp
  have hrun : (execOp a.eval ⟨some d, .call ⟨.value (.func f), xs.toArray, us⟩, ty, pos, af, g⟩).run P w = .ok (.enter f (xs.map a.eval).toArray) w := by
    simp [execOp, resolve, Act.eval, Deferred.ofValue, invoke, hfc.run]
  rw [hrun]
  show Calls _ _ _ _ _
  refine (hm w (xs.map a.eval).toArray (fun b => Im Γ ow w b ∨ ∃ l ∈ ls, ow b = .lab l) (by simpa using hargs)).mono fun e w' ⟨c, he, hb, hc⟩ => ?_
  subst he
  show Sim Γ _ _ _
  have hg := hsim.grow hb
  rcases hc with ⟨rfl, rfl, rfl⟩ | ⟨b, cap, cs, t, hr, hfr⟩
  · obtain ⟨ow', h'⟩ := hg.layNil (hnd d (by simp)) hio [] [] true false
    have h2 := h'.put (d := d) (v := .ref d s 0 0) (c := .slice none 0 0) (O := []) hdN (by simp only [RelV]; exact ⟨trivial, fun _ => ⟨trivial, trivial, trivial⟩, fun b hb => by simp at hb⟩) (by simp)
    exact ⟨_, _, h2⟩
  · have hlt : b < w'.heap.size := by
      rcases Nat.lt_or_ge b w'.heap.size with h | h
      · exact h
      · have := hr.row; simp [Array.getElem?_eq_none h] at this
    exact hsim.layPut (ks := []) (ls := []) ⟨hb.os, hb.output, hb.tape, hb.size⟩ (b0 := b) hlt (fun b' h _ => hb.block b' h) hr.row (hnd d (by simp)) hio (.inl hfr) (Nat.le_trans hsim.kept.size hfr) ⟨cells, true, false⟩ (B := []) hr.rel (by simp) (by simp) (by simp) hdN (fun β' hβ => by
      simp only [RelV]
      refine ⟨trivial, fun h => by rw [hβ] at h; simp at h, fun b' hb' => ?_⟩
      rw [hβ] at hb'; cases hb'
      exact ⟨cap, cs, t, by simpa using hr.val, hr.row, by simpa using hr.fit, hr.len⟩)
end
end Go.Ev
