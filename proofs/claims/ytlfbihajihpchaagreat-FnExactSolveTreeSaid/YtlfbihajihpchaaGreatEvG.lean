/- The engine, part G: functions: what a call is said to give, how it is proved, how it is used. -/
import Derived.Test.YtlfbihajihpchaaGreatEvF
set_option linter.all false
namespace Go.Ev
open Go.RowKit (Below)

def RelArgs (h : Array Obj) (ok : Nat → Prop) : List PV → List Value → Prop
  | [], [] => True
  | p :: ps, c :: cs => (∃ B, RelV h dead p c B ∧ ∀ b ∈ B, ok b) ∧ RelArgs h ok ps cs
  | _, _ => False

/-- Called with arguments that read as 'args' the function returns what reads as 'r'; nothing that was there turns; deep: the blocks of the result are new, and no two are one. -/
def Meets (P : Program) (f : FuncId) (args : List PV) (r : PV) (deep : Bool) : Prop :=
  ∀ (w : World) (cargs : Array Value) (ok : Nat → Prop), RelArgs w.heap ok args cargs.toList →
    Calls P f cargs w fun e w' => ∃ c B, e = .returned c ∧ Below w.heap.size w w' ∧ RelV w'.heap dead r c B ∧ (∀ b ∈ B, ok b ∨ w.heap.size ≤ b) ∧ (deep = true → B.Nodup ∧ ∀ b ∈ B, w.heap.size ≤ b ∧ Free w' b)

theorem Meets.weak {P : Program} {f : FuncId} {args : List PV} {r : PV} {deep : Bool} (h : Meets P f args r deep) : Meets P f args r false :=
  fun w cargs ok ha => (h w cargs ok ha).mono fun _ _ ⟨c, B, h1, h2, h3, h4, _⟩ => ⟨c, B, h1, h2, h3, h4, by simp⟩

def argEnv : List PV → Nat → List (Nat × Slot)
  | [], _ => []
  | p :: r, k => (k, ⟨p, false⟩) :: argEnv r (k + 1)

theorem argEnv_lk : ∀ (ps : List PV) (i k : Nat), lk (argEnv ps i) k = if i ≤ k ∧ k - i < ps.length then ⟨ps.getD (k - i) .any, false⟩ else ⟨.any, false⟩
  | [], i, k => by simp [argEnv, lk]
  | p :: r, i, k => by
    rw [argEnv, lk_cons, argEnv_lk r (i + 1) k]
    by_cases h : i = k
    · subst h; simp
    · rw [if_neg h]
      by_cases h2 : i + 1 ≤ k ∧ k - (i + 1) < r.length
      · rw [if_pos h2, if_pos (by simp; omega)]
        have : k - i = (k - (i + 1)) + 1 := by omega
        rw [this]; simp
      · rw [if_neg h2, if_neg (by simp; omega)]

theorem RelArgs.get {h : Array Obj} {ok : Nat → Prop} : ∀ {ps : List PV} {cs : List Value}, RelArgs h ok ps cs → ps.length = cs.length ∧ ∀ k, k < ps.length → ∃ B, RelV h dead (ps.getD k .any) (cs.getD k undef) B ∧ ∀ b ∈ B, ok b
  | [], [], _ => ⟨rfl, fun k hk => by simp at hk⟩
  | p :: ps, c :: cs, H => by
    obtain ⟨h1, h2⟩ := H
    obtain ⟨h3, h4⟩ := RelArgs.get h2
    refine ⟨by simp [h3], fun k hk => ?_⟩
    cases k with
    | zero => simpa using h1
    | succ k => simpa using h4 k (by simpa using hk)
  | [], _ :: _, H => H.elim
  | _ :: _, [], H => H.elim

/-- What a result slot gives. -/
inductive ResO where
  | slot (k : Nat)
  | obj (l : Nat)
  | none
  deriving DecidableEq
def ResO.own : ResO → Own
  | .slot k => .slot k
  | .obj l => .obj l
  | .none => .none
def resRun (tmps : Array Value) : ResultVar → Sem Value
  | .tmp t => pure (tmps.getD t undef)
  | .cell a t => do loadVar t (← asAddr (tmps.getD a undef))

section
variable {P : Program} {N : Nat} {Γ : Ctx P N} {S : List (Nat × Slot)} {O : List (Nat × Option Ob)}

/-- One result: its value, and whose its blocks are (o = none: shared). -/
def Res1 (Γ : Ctx P N) (E : Env) (rv : ResultVar) (p : PV) (o : ResO) : Prop :=
  ∀ ow β a w, SimG Γ ow β E a w → ∃ c B, (resRun a.tmps rv).run P w = .ok c w ∧ RelV w.heap dead p c B ∧ (∀ b ∈ B, b < w.heap.size ∧ (Γ.ok b ∨ Γ.nw b)) ∧ (o ≠ .none → B.Nodup ∧ ∀ b ∈ B, Free w b ∧ Γ.nw b ∧ (ow b = o.own ∨ ∃ l, ow b = .lab l ∧ o = .obj l))

def RetIs (Γ : Ctx P N) (rs : Array ResultVar) (E : Env) (r : PV) (deep : Bool) : Prop :=
  ∀ fn : Func, fn.results = rs → ∀ a w, Sim Γ E a w → ∃ c B, (results fn a.tmps).run P w = .ok c w ∧ RelV w.heap dead r c B ∧ (∀ b ∈ B, b < w.heap.size ∧ (Γ.ok b ∨ Γ.nw b)) ∧ (deep = true → B.Nodup ∧ ∀ b ∈ B, Free w b ∧ Γ.nw b)

def ends (Γ : Ctx P N) (rs : Array ResultVar) (r : PV) (deep : Bool) : Exit → Env → Prop
  | .normal, E => RetIs Γ rs E r deep
  | .ret, E => RetIs Γ rs E r deep
  | _, _ => False

theorem Meets.intro {f : FuncId} {fn : Func} {c : Code} {args : List PV} {r : PV} {deep : Bool} {rs : Array ResultVar} (hf : P.funcs[f]? = some fn) (hb : fn.body = some c) (hN : fn.ntmps = N) (hrs : fn.results = rs) (hn : Nat.ble args.length N = true)
    (h : ∀ Γ : Ctx P N, Γ.io = (fun _ => none) → CodeT Γ c ⟨argEnv args 0, []⟩ (ends Γ rs r deep)) : Meets P f args r deep := by
  intro w cargs ok ha
  obtain ⟨h1, h2⟩ := ha.get
  have hn := Nat.le_of_ble_eq_true hn
  let Γ : Ctx P N := { base := w.heap.size, ok := fun b => ok b, io := fun _ => none, w0 := w, mine := fun _ => False, lent := fun _ => False }
  have hsz : (cargs ++ Array.replicate (fn.ntmps - cargs.size) undef).size = N := by
    have : cargs.size = args.length := by rw [h1]; simp
    simp [this, hN]; omega
  refine calls_of_wp hf hb ?_
  have hsim : Sim Γ ⟨argEnv args 0, []⟩ { tmps := cargs ++ Array.replicate (fn.ntmps - cargs.size) undef, defers := [] } w := by
    refine ⟨fun _ => .none, fun _ => none, { size := hsz, defers := rfl, kept := ⟨rfl, rfl, rfl, Nat.le_refl _, fun _ _ _ _ => rfl, fun b _ _ cs t h => ⟨cs, h, rfl⟩⟩, slots := fun k => ?_, objs := fun l ob hl => (by simp [lo] at hl), gone := fun _ _ => rfl, own := fun b hb => absurd rfl hb, ios := fun l b hl => (by cases hl), fresh := fun l b hl => (by cases hl) }⟩
    rw [argEnv_lk]
    by_cases hk : k < args.length
    · rw [if_pos ⟨Nat.zero_le _, by simpa using hk⟩]
      obtain ⟨B, g1, g2⟩ := h2 k hk
      refine ⟨B, ?_, fun b hb => ⟨RelV.below _ _ _ g1 b hb, .inl (g2 b hb), fun l => by simp⟩, by simp⟩
      have e : (cargs ++ Array.replicate (fn.ntmps - cargs.size) undef).getD k undef = cargs.toList.getD k undef := by
        have hlt : k < cargs.size := by rw [h1] at hk; simpa using hk
        simp [Array.getD_eq_getD_getElem?, Array.getElem?_append, hlt, List.getD_eq_getElem?_getD]
      rw [e]
      simp only [Nat.sub_zero]
      exact RelV.keep _ _ _ (fun l _ => by intro ob h; cases h) (fun _ _ => rfl) g1
    · rw [if_neg (by simpa using hk)]
      exact ⟨[], by simp [RelV], by simp, by simp⟩
  refine wp_mono (h Γ rfl _ _ hsim) fun e a' w' ⟨E', hs', hq⟩ => ?_
  have fin : RetIs Γ rs E' r deep → a'.defers = [] ∧ ∃ v, (results fn a'.tmps).run P w' = .ok v w' ∧ ∃ c B, Ending.returned v = .returned c ∧ Below w.heap.size w w' ∧ RelV w'.heap dead r c B ∧ (∀ b ∈ B, ok b ∨ w.heap.size ≤ b) ∧ (deep = true → B.Nodup ∧ ∀ b ∈ B, w.heap.size ≤ b ∧ Free w' b) := by
    intro hr
    obtain ⟨c, B, g1, g2, g3, g4⟩ := hr fn hrs a' w' hs'
    obtain ⟨ow, β, hs'⟩ := hs'
    refine ⟨hs'.defers, c, g1, c, B, rfl, ⟨hs'.kept.os, hs'.kept.tape, hs'.kept.output, hs'.kept.size, fun k hk => hs'.kept.old k hk (fun l => by simp [Γ]) (fun h => h)⟩, g2, fun b hb => (g3 b hb).2.imp id (fun h => (h.elim id False.elim : Γ.nww b).elim id False.elim), fun hd => ⟨(g4 hd).1, fun b hb => ⟨(((g4 hd).2 b hb).2.elim id False.elim : Γ.nww b).elim id False.elim, ((g4 hd).2 b hb).1⟩⟩⟩
  cases e with
  | normal => exact fin hq
  | ret => exact fin hq
  | exit id => exact hq.elim
  | goto l => exact hq.elim
  | panic ch => exact hq.elim
  | outgrown => exact hq.elim

theorem results_map (fn : Func) (tmps : Array Value) : results fn tmps = (do let vs ← fn.results.mapM (resRun tmps); pure (if h : vs.size = 1 then vs[0] else .tuple vs)) := by
  unfold results
  congr 1
theorem results_one {rv : ResultVar} {fn : Func} (h : fn.results = #[rv]) (tmps : Array Value) : results fn tmps = resRun tmps rv := by
  unfold results
  rw [h]
  cases rv with
  | tmp t => simp [resRun]
  | cell a t => simp [resRun]
theorem results_run2 {rv1 rv2 : ResultVar} {fn : Func} (h : fn.results = #[rv1, rv2]) (tmps : Array Value) (w : World) {c1 c2 : Value} (h1 : (resRun tmps rv1).run P w = .ok c1 w) (h2 : (resRun tmps rv2).run P w = .ok c2 w) : (results fn tmps).run P w = .ok (.tuple #[c1, c2]) w := by
  rw [results_map, h]
  simp [h1, h2]
theorem results_run3 {rv1 rv2 rv3 : ResultVar} {fn : Func} (h : fn.results = #[rv1, rv2, rv3]) (tmps : Array Value) (w : World) {c1 c2 c3 : Value} (h1 : (resRun tmps rv1).run P w = .ok c1 w) (h2 : (resRun tmps rv2).run P w = .ok c2 w) (h3 : (resRun tmps rv3).run P w = .ok c3 w) : (results fn tmps).run P w = .ok (.tuple #[c1, c2, c3]) w := by
  rw [results_map, h]
  simp [h1, h2, h3]
theorem results_run4 {rv1 rv2 rv3 rv4 : ResultVar} {fn : Func} (h : fn.results = #[rv1, rv2, rv3, rv4]) (tmps : Array Value) (w : World) {c1 c2 c3 c4 : Value} (h1 : (resRun tmps rv1).run P w = .ok c1 w) (h2 : (resRun tmps rv2).run P w = .ok c2 w) (h3 : (resRun tmps rv3).run P w = .ok c3 w) (h4 : (resRun tmps rv4).run P w = .ok c4 w) : (results fn tmps).run P w = .ok (.tuple #[c1, c2, c3, c4]) w := by
  rw [results_map, h]
  simp [h1, h2, h3, h4]

/-- A plain value. -/
theorem Res1.sc {t : Nat} {v : Value} {dp : Bool} (h : lkq S t = some ⟨.sc v, dp⟩) : Res1 Γ ⟨S, O⟩ (.tmp t) (.sc v) .none := by
  intro ow β a w hs
  obtain ⟨B, h1, _, _⟩ := hs.slots t
  rw [lkq_lk h] at h1
  simp only [RelV] at h1
  exact ⟨v, [], by simp [resRun, ← h1.1], by simp [RelV], by simp, by simp⟩
/-- A value by itself, its blocks shared. -/
theorem Res1.val {t : Nat} {p : PV} {dp : Bool} (h : lkq S t = some ⟨p, dp⟩) (hl : p.labs = []) : Res1 Γ ⟨S, O⟩ (.tmp t) p .none := by
  intro ow β a w hs
  obtain ⟨B, h1, h2, _⟩ := hs.slots t
  rw [lkq_lk h] at h1
  exact ⟨_, B, rfl, RelV.keep _ _ _ (fun l hl' => by rw [hl] at hl'; cases hl') (fun _ _ => rfl) h1, fun b hb => ⟨(h2 b hb).1, (h2 b hb).2.1⟩, by simp⟩
/-- nil, for an empty slice -/
theorem Res1.nil {t : Nat} {dp : Bool} (h : lkq S t = some ⟨.sc (.slice none 0 0), dp⟩) : Res1 Γ ⟨S, O⟩ (.tmp t) (.sl 0 []) (.slot t) := by
  intro ow β a w hs
  obtain ⟨B, h1, _, _⟩ := hs.slots t
  rw [lkq_lk h] at h1
  simp only [RelV] at h1
  exact ⟨_, [], rfl, by simp only [RelV]; exact .inl ⟨trivial, trivial, trivial, _, _, h1.1⟩, by simp, by simp⟩
theorem Res1.deep {t : Nat} {p : PV} (h : lkq S t = some ⟨p, true⟩) (hl : p.labs = []) : Res1 Γ ⟨S, O⟩ (.tmp t) p (.slot t) := by
  intro ow β a w hs
  obtain ⟨B, h1, h2, h3⟩ := hs.slots t
  rw [lkq_lk h] at h1 h3
  refine ⟨_, B, rfl, RelV.keep _ _ _ (fun l hl' => by rw [hl] at hl'; cases hl') (fun _ _ => rfl) h1, fun b hb => ⟨(h2 b hb).1, (h2 b hb).2.1⟩, fun _ => ⟨(h3 rfl).1, fun b hb => ?_⟩⟩
  obtain ⟨g1, g2⟩ := (h3 rfl).2 b hb
  refine ⟨g2, ?_, .inl g1⟩
  rcases (hs.own b (by rw [g1]; simp)).2 with g | ⟨l, g, _⟩
  · exact g
  · rw [g1] at g; cases g

theorem RetIs.one {rv : ResultVar} {p : PV} {o : ResO} {deep : Bool} (h : Res1 Γ ⟨S, O⟩ rv p o) (hd : deep = true → o ≠ .none) : RetIs Γ #[rv] ⟨S, O⟩ p deep := by
  rintro fn hfn a w ⟨ow, β, hs⟩
  obtain ⟨c, B, h1, h2, h3, h4⟩ := h ow β a w hs
  refine ⟨c, B, by rw [results_one hfn]; exact h1, h2, h3, fun hx => ⟨(h4 (hd hx)).1, fun b hb => ⟨((h4 (hd hx)).2 b hb).1, ((h4 (hd hx)).2 b hb).2.1⟩⟩⟩
theorem RetIs.sc1 {t : Nat} {v : Value} {dp deep : Bool} (h : lkq S t = some ⟨.sc v, dp⟩) : RetIs Γ #[.tmp t] ⟨S, O⟩ (.sc v) deep := by
  rintro fn hfn a w ⟨ow, β, hs⟩
  obtain ⟨c, B, h1, h2, h3, h4⟩ := Res1.sc (Γ := Γ) (S := S) (O := O) h ow β a w hs
  simp only [RelV] at h2
  obtain ⟨rfl, rfl⟩ := h2
  exact ⟨c, [], by rw [results_one hfn]; exact h1, by simp [RelV], by simp, by simp⟩

/-- several results: values, owners -/
inductive ResL (Γ : Ctx P N) (E : Env) : List ResultVar → List PV → List ResO → Prop
  | nil : ResL Γ E [] [] []
  | cons {rv : ResultVar} {p : PV} {o : ResO} {rs : List ResultVar} {ps : List PV} {os : List ResO} : Res1 Γ E rv p o → ResL Γ E rs ps os → ResL Γ E (rv :: rs) (p :: ps) (o :: os)

def ownersOk : List PV → List ResO → Bool
  | [], [] => true
  | p :: ps, o :: os => (match p, o with
    | .sc _, _ => true
    | _, .none => false
    | _, o => !(os.any (· == o))) && ownersOk ps os
  | _, _ => false

theorem ResL.run {E : Env} {rs : List ResultVar} {ps : List PV} {os : List ResO} (h : ResL Γ E rs ps os) {ow : Nat → Own} {β : Nat → Option (Option Nat)} {a : Act} {w : World} (hs : SimG Γ ow β E a w) :
    ∃ (cs : List Value) (B : List Nat), cs.length = rs.length ∧ ps.length = rs.length ∧ (∀ (k : Nat) (rv : ResultVar), rs[k]? = some rv → ∃ c, cs[k]? = some c ∧ (resRun a.tmps rv).run P w = .ok c w) ∧ (∀ (pre : List Value), RelL w.heap false dead ps (pre ++ cs).toArray pre.length B) ∧
      (∀ b ∈ B, b < w.heap.size ∧ (Γ.ok b ∨ Γ.nw b)) ∧ (ownersOk ps os = true → B.Nodup ∧ ∀ b ∈ B, Free w b ∧ Γ.nw b ∧ ∃ o ∈ os, ow b = o.own ∨ ∃ l, ow b = .lab l ∧ o = .obj l) := by
  induction h with
  | nil => exact ⟨[], [], rfl, rfl, by simp, fun pre => by simp [RelL], by simp, by simp⟩
  | @cons rv p o rs ps os h1 h2 ih =>
    obtain ⟨cs, B, g1, g2, g3, g4, g5, g6⟩ := ih
    obtain ⟨c, B1, e1, e2, e3, e4⟩ := h1 ow β a w hs
    refine ⟨c :: cs, B1 ++ B, by simp [g1], by simp [g2], fun k rv' hk => ?_, fun pre => ?_, fun b hb => ?_, fun ho => ?_⟩
    · cases k with
      | zero => simp at hk; subst hk; exact ⟨c, by simp, e1⟩
      | succ k => simpa using g3 k rv' (by simpa using hk)
    · simp only [RelL]
      refine ⟨c, B1, B, ⟨by simp, by simp⟩, e2, ?_, rfl⟩
      have := g4 (pre ++ [c])
      simpa using this
    · rcases List.mem_append.1 hb with hb | hb
      · exact e3 b hb
      · exact g5 b hb
    · simp only [ownersOk, Bool.and_eq_true] at ho
      obtain ⟨ho1, ho2⟩ := ho
      obtain ⟨k1, k2⟩ := g6 ho2
      have hB1 : B1 = [] ∨ (o ≠ .none ∧ ∀ o' ∈ os, o' ≠ o) := by
        cases p with
        | sc v => simp only [RelV] at e2; exact .inl e2.2
        | _ =>
          refine .inr ?_
          cases o with
          | none => simp at ho1
          | slot k => exact ⟨by simp, fun o' ho' e => by subst e; simp at ho1; exact ho1 _ ho' rfl⟩
          | obj l => exact ⟨by simp, fun o' ho' e => by subst e; simp at ho1; exact ho1 _ ho' rfl⟩
      rcases hB1 with rfl | ⟨hne, hos⟩
      · refine ⟨by simpa using k1, fun b hb => ?_⟩
        obtain ⟨j1, j2, o', ho', j3⟩ := k2 b (by simpa using hb)
        exact ⟨j1, j2, o', by simp [ho'], j3⟩
      · obtain ⟨j1, j2⟩ := e4 hne
        refine ⟨?_, fun b hb => ?_⟩
        · rw [List.nodup_append]
          refine ⟨j1, k1, fun b hb b' hb' e => ?_⟩
          subst e
          obtain ⟨_, _, x1⟩ := j2 b hb
          obtain ⟨_, _, o', ho', x2⟩ := k2 b hb'
          apply hos o' ho'
          cases o <;> cases o' <;> simp [ResO.own] at x1 x2 hne ⊢
          all_goals first
            | (rcases x1 with x1 | x1 <;> rcases x2 with x2 | x2 <;> simp_all; done)
            | (simp_all; done)
        · rcases List.mem_append.1 hb with hb | hb
          · obtain ⟨x1, x2, x3⟩ := j2 b hb
            exact ⟨x1, x2, o, by simp, x3⟩
          · obtain ⟨x1, x2, o', ho', x3⟩ := k2 b hb
            exact ⟨x1, x2, o', by simp [ho'], x3⟩

theorem RetIs.many {rs : List ResultVar} {ps : List PV} {os : List ResO} {deep : Bool} (hlen : rs.length = 2 ∨ rs.length = 3 ∨ rs.length = 4) (h : ResL Γ ⟨S, O⟩ rs ps os) (hd : deep = true → ownersOk ps os = true) : RetIs Γ rs.toArray ⟨S, O⟩ (.tup ps) deep := by
  rintro fn hfn a w ⟨ow, β, hs⟩
  obtain ⟨cs, B, g1, g2, g3, g4, g5, g6⟩ := h.run hs
  refine ⟨.tuple cs.toArray, B, ?_, ?_, g5, fun hx => ⟨(g6 (hd hx)).1, fun b hb => ⟨((g6 (hd hx)).2 b hb).1, ((g6 (hd hx)).2 b hb).2.1⟩⟩⟩
  · rcases hlen with hl | hl | hl
    · match rs, cs, hl, g1, g3, hfn with
      | [r1, r2], [c1, c2], _, _, g3, hfn =>
        obtain ⟨_, e1, f1⟩ := g3 0 r1 rfl
        obtain ⟨_, e2, f2⟩ := g3 1 r2 rfl
        simp at e1 e2; subst e1; subst e2
        exact results_run2 hfn _ _ f1 f2
    · match rs, cs, hl, g1, g3, hfn with
      | [r1, r2, r3], [c1, c2, c3], _, _, g3, hfn =>
        obtain ⟨_, e1, f1⟩ := g3 0 r1 rfl
        obtain ⟨_, e2, f2⟩ := g3 1 r2 rfl
        obtain ⟨_, e3, f3⟩ := g3 2 r3 rfl
        simp at e1 e2 e3; subst e1; subst e2; subst e3
        exact results_run3 hfn _ _ f1 f2 f3
    · match rs, cs, hl, g1, g3, hfn with
      | [r1, r2, r3, r4], [c1, c2, c3, c4], _, _, g3, hfn =>
        obtain ⟨_, e1, f1⟩ := g3 0 r1 rfl
        obtain ⟨_, e2, f2⟩ := g3 1 r2 rfl
        obtain ⟨_, e3, f3⟩ := g3 2 r3 rfl
        obtain ⟨_, e4, f4⟩ := g3 3 r4 rfl
        simp at e1 e2 e3 e4; subst e1; subst e2; subst e3; subst e4
        exact results_run4 hfn _ _ f1 f2 f3 f4
  · simp only [RelV]
    exact ⟨cs.toArray, rfl, by simp [g1, g2], by simpa using g4 []⟩

/-- A function that can be called. -/
class FnC (P : Program) (f : FuncId) : Prop where
  ok : ∃ fn, P.funcs[f]? = some fn ∧ fn.body.isNone = false ∧ (fn.name == "runtime.NumGoroutine") = false
theorem FnC.run {P : Program} {f : FuncId} (h : FnC P f) (args : Array Value) (w : World) : (callFunc f args).run P w = .ok (.enter f args) w := by
  obtain ⟨fn, h1, h2, h3⟩ := h.ok
  have h2' : ¬ fn.body.isNone = true := by rw [h2]; simp
  have h3' : ¬ (fn.name == "runtime.NumGoroutine") = true := by rw [h3]; simp
  unfold callFunc
  rw [Sem.run_bind, run_program, Result.andThen_ok, h1]
  simp only []
  rw [if_neg h3', if_neg h2']
  rfl

/-- The cells of a struct that is handed over, its own rows among them. -/
inductive CellsR (O : List (Nat × Option Ob)) : List PV → List PV → List Nat → Prop
  | nil : CellsR O [] [] []
  | sc {v : Value} {ps qs : List PV} {ls : List Nat} : CellsR O ps qs ls → CellsR O (.sc v :: ps) (.sc v :: qs) ls
  | ref {l s n : Nat} {cells cells' : List PV} {dp : Bool} {ps qs : List PV} {ls : List Nat} : loq O l = some ⟨cells, dp, false⟩ → SoftL cells cells' → CellsR O ps qs ls → CellsR O (.ref l s 0 n :: ps) (.sl n cells' :: qs) (l :: ls)
  | vl {p p' : PV} {ps qs : List PV} {ls : List Nat} : p.labs = [] → Soft p p' → CellsR O ps qs ls → CellsR O (p :: ps) (p' :: qs) ls
/-- How an operand is handed over: what the callee reads; which own blocks it then sees. -/
inductive ArgV (S : List (Nat × Slot)) (O : List (Nat × Option Ob)) : Operand → PV → List Nat → Prop
  | val {x : Operand} {p : PV} : evq S x = some p → p.labs = [] → ArgV S O x p []
  | nil {x : Operand} : evq S x = some (.sc (.slice none 0 0)) → ArgV S O x (.sl 0 []) []
  | ref {x : Operand} {l s n : Nat} {cells : List PV} {dp : Bool} : evq S x = some (.ref l s 0 n) → loq O l = some ⟨cells, dp, false⟩ → cells.length ≤ n * s → ArgV S O x (.sl n cells) [l]
  | valS {x : Operand} {p p' : PV} : evq S x = some p → p.labs = [] → Soft p p' → ArgV S O x p' []
  | refS {x : Operand} {l s n : Nat} {cells cells' : List PV} {dp : Bool} : evq S x = some (.ref l s 0 n) → loq O l = some ⟨cells, dp, false⟩ → SoftL cells cells' → ArgV S O x (.sl n cells') [l]
  | aggR {x : Operand} {ps qs : List PV} {ls : List Nat} : evq S x = some (.agg ps) → CellsR O ps qs ls → ArgV S O x (.agg qs) ls
inductive ArgsV (S : List (Nat × Slot)) (O : List (Nat × Option Ob)) : List Operand → List PV → List Nat → Prop
  | nil : ArgsV S O [] [] []
  | cons {x : Operand} {p : PV} {l m : List Nat} {xs : List Operand} {ps : List PV} : ArgV S O x p l → ArgsV S O xs ps m → ArgsV S O (x :: xs) (p :: ps) (l ++ m)

/-- no blocks -/
def flat : PV → Bool
  | .sc _ => true
  | .agg cells => cells.all fun | .sc _ => true | _ => false
  | .tup vs => vs.all fun | .sc _ => true | .agg cells => cells.all (fun | .sc _ => true | _ => false) | _ => false
  | _ => false
theorem flatL {h : Array Obj} {q : Bool} {β : Nat → Option (Option Nat)} : ∀ (ps : List PV) (cs : Array Value) (i : Nat) (B : List Nat), ps.all (fun | .sc _ => true | _ => false) = true → RelL h q β ps cs i B → B = []
  | [], _, _, _, _, H => by simpa [RelL] using H
  | p :: ps, cs, i, B, hf, H => by
    simp only [List.all_cons, Bool.and_eq_true] at hf
    simp only [RelL] at H
    obtain ⟨c, B1, B2, _, h2, h3, rfl⟩ := H
    have e2 := flatL ps cs (i + 1) B2 hf.2 h3
    cases p with
    | sc v => simp only [RelV] at h2; rw [h2.2, e2]; rfl
    | _ => simp at hf
theorem flat_nil {h : Array Obj} {β : Nat → Option (Option Nat)} {p : PV} {c : Value} {B : List Nat} (hf : flat p = true) (H : RelV h β p c B) : B = [] := by
  cases p with
  | sc v => simp only [RelV] at H; exact H.2
  | agg cells => simp only [RelV] at H; obtain ⟨cs, _, _, h⟩ := H; exact flatL _ _ _ _ hf h
  | tup vs =>
    simp only [RelV] at H
    obtain ⟨cs, _, _, hh⟩ := H
    have key : ∀ (ps : List PV) (i : Nat) (B : List Nat), (ps.all fun | .sc _ => true | .agg cells => cells.all (fun | .sc _ => true | _ => false) | _ => false) = true → RelL h false β ps cs i B → B = [] := by
      intro ps
      induction ps with
      | nil => intro i B _ H; simpa [RelL] using H
      | cons p ps ih =>
        intro i B hf H
        simp only [List.all_cons, Bool.and_eq_true] at hf
        simp only [RelL] at H
        obtain ⟨c, B1, B2, _, h2, h3, rfl⟩ := H
        rw [ih (i + 1) B2 hf.2 h3]
        cases p with
        | sc v => simp only [RelV] at h2; rw [h2.2]; rfl
        | agg cells => simp only [RelV] at h2; obtain ⟨cs', _, _, h'⟩ := h2; rw [flatL _ _ _ _ hf.1 h']; rfl
        | _ => simp at hf
    exact key _ _ _ hf hh
  | _ => simp [flat] at hf

theorem CellsR.rel {F : Env} {ow : Nat → Own} {β : Nat → Option (Option Nat)} {a : Act} {w : World} (hs : SimG Γ ow β F a w) {ps qs : List PV} {ls : List Nat} (H : CellsR O ps qs ls) (hl : ∀ l ∈ ls, lo F.o l = lo O l) :
    ∀ {cs : Array Value} {i : Nat} {B : List Nat}, RelL w.heap true β ps cs i B → (∀ b ∈ B, Im Γ ow w b) → ps.length = qs.length ∧ ∃ B', RelL w.heap true dead qs cs i B' ∧ ∀ b ∈ B', Im Γ ow w b ∨ ∃ l ∈ ls, ow b = .lab l := by
  induction H with
  | nil => intro cs i B _ _; exact ⟨rfl, [], by simp [RelL], by simp⟩
  | sc _ ih =>
    intro cs i B H hB
    simp only [RelL] at H
    obtain ⟨c, B1, B2, g1, g2, g3, rfl⟩ := H
    obtain ⟨k1, B', k2, k3⟩ := ih hl g3 (fun b hb => hB b (by simp [hb]))
    simp only [RelV] at g2
    refine ⟨by simp [k1], B', ?_, k3⟩
    simp only [RelL]
    exact ⟨c, [], B', g1, by simp only [RelV]; exact ⟨g2.1, trivial⟩, k2, rfl⟩
  | @vl p p' ps qs ls hlb hs' _ ih =>
    intro cs i B H hB
    simp only [RelL] at H
    obtain ⟨c, B1, B2, g1, g2, g3, rfl⟩ := H
    obtain ⟨k1, B', k2, k3⟩ := ih hl g3 (fun b hb => hB b (by simp [hb]))
    refine ⟨by simp [k1], B1 ++ B', ?_, fun b hb => ?_⟩
    · simp only [RelL]
      exact ⟨c, B1, B', g1, hs' _ _ _ _ (RelV.keep _ _ _ (fun l hl' => by rw [hlb] at hl'; cases hl') (fun _ _ => rfl) g2), k2, rfl⟩
    · rcases List.mem_append.1 hb with hb | hb
      · exact .inl (hB b (by simp [hb]))
      · exact k3 b hb
  | @ref l s n cells cells' dp ps qs ls e2 e4 _ ih =>
    intro cs i B H hB
    simp only [RelL] at H
    obtain ⟨c, B1, B2, g1, g2, g3, rfl⟩ := H
    obtain ⟨k1, B', k2, k3⟩ := ih (fun l' hl' => hl l' (by simp [hl'])) g3 (fun b hb => hB b (by simp [hb]))
    refine ⟨by simp [k1], ?_⟩
    simp only [RelV] at g2
    obtain ⟨Bo, o1, _, o3⟩ := hs.objs l ⟨cells, dp, false⟩ (by rw [hl l (by simp), ← loq_lo]; exact e2)
    rcases o3 with ⟨o3, o4, o5⟩ | ⟨b, ds, t, o3, o4, o5, o6⟩
    · obtain ⟨hn, _, hc⟩ := g2.2.1 o3
      simp only at o4
      subst hn; subst o4
      refine ⟨B', ?_, fun b hb => (k3 b hb).imp id fun ⟨m, h1, h2⟩ => ⟨m, by simp [h1], h2⟩⟩
      simp only [RelL]
      exact ⟨c, [], B', g1, by simp only [RelV]; exact .inl ⟨trivial, e4.empty, trivial, _, _, hc⟩, k2, rfl⟩
    · obtain ⟨cap, cs', t', hc, hh, _, hcap⟩ := g2.2.2 b o3
      rw [o5] at hh; cases hh
      refine ⟨(b :: Bo) ++ B', ?_, fun b' hb' => ?_⟩
      · simp only [RelL]
        refine ⟨c, b :: Bo, B', g1, ?_, k2, rfl⟩
        simp only [RelV]
        exact .inr ⟨b, 0, cap, ds, t, (0, 0), Bo, ⟨by simpa using hc, hcap⟩, o5, e4.2 _ _ _ _ _ _ (by simpa using o6), rfl⟩
      · rcases List.mem_append.1 hb' with hb' | hb'
        · rcases List.mem_cons.1 hb' with rfl | hb'
          · exact .inr ⟨l, by simp, o4⟩
          · exact .inl (o1 b' hb')
        · exact (k3 b' hb').imp id fun ⟨m, h1, h2⟩ => ⟨m, by simp [h1], h2⟩
theorem args_rel {F : Env} {ow : Nat → Own} {β : Nat → Option (Option Nat)} {a : Act} {w : World} (hs : SimG Γ ow β F a w) : ∀ {xs : List Operand} {ps : List PV} {ls : List Nat}, ArgsV S O xs ps ls → (∀ k ∈ orsA xs, lk F.s k = lk S k) → (∀ l ∈ ls, lo F.o l = lo O l) →
    RelArgs w.heap (fun b => Im Γ ow w b ∨ ∃ l ∈ ls, ow b = .lab l) ps (xs.map a.eval)
  | [], _, _, .nil, _, _ => trivial
  | x :: xs, _, _, @ArgsV.cons _ _ _ p l m _ ps hx hxs, h1, h2 => by
    have hk1 : ∀ k ∈ ors x, lk F.s k = lk S k := fun k hk => h1 k (by cases x <;> simp [ors, orsA] at hk ⊢; exact .inl hk)
    have hk2 : ∀ k ∈ orsA xs, lk F.s k = lk S k := fun k hk => h1 k (by cases x <;> simp [orsA, hk])
    have ih := args_rel hs hxs hk2 (fun l' hl => h2 l' (by simp [hl]))
    have mono : ∀ {ok ok' : Nat → Prop} (ps : List PV) (cs : List Value), (∀ b, ok b → ok' b) → RelArgs w.heap ok ps cs → RelArgs w.heap ok' ps cs := by
      intro ok ok' ps
      induction ps with
      | nil => intro cs _ H; cases cs with
        | nil => trivial
        | cons => exact H.elim
      | cons p ps ih =>
        intro cs hm H
        cases cs with
        | nil => exact H.elim
        | cons c cs => obtain ⟨⟨B, e1, e2⟩, e3⟩ := H; exact ⟨⟨B, e1, fun b hb => hm b (e2 b hb)⟩, ih cs hm e3⟩
    refine ⟨?_, mono _ _ (fun b hb => hb.imp id fun ⟨l', hl, e⟩ => ⟨l', by simp [hl], e⟩) ih⟩
    cases hx with
    | val e1 e2 =>
      obtain ⟨B, g1, g2⟩ := ev_rel hs e1 hk1
      exact ⟨B, RelV.keep _ _ _ (fun l' hl => by rw [e2] at hl; cases hl) (fun _ _ => rfl) g1, fun b hb => .inl (g2 b hb)⟩
    | nil e1 =>
      obtain ⟨B, g1, g2⟩ := ev_rel hs e1 hk1
      simp only [RelV] at g1
      exact ⟨[], by simp only [RelV]; exact .inl ⟨trivial, trivial, trivial, _, _, g1.1⟩, by simp⟩
    | valS e1 e2 e3 =>
      obtain ⟨B, g1, g2⟩ := ev_rel hs e1 hk1
      exact ⟨B, e3 _ _ _ _ (RelV.keep _ _ _ (fun l' hl => by rw [e2] at hl; cases hl) (fun _ _ => rfl) g1), fun b hb => .inl (g2 b hb)⟩
    | aggR e1 e2 =>
      obtain ⟨B, g1, g2⟩ := ev_rel hs e1 hk1
      simp only [RelV] at g1
      obtain ⟨cs, h1', h2', h3'⟩ := g1
      obtain ⟨k1, B', k2, k3⟩ := e2.rel hs (fun l' hl => h2 l' (by simp [hl])) h3' g2
      refine ⟨B', ?_, fun b hb => (k3 b hb).imp id fun ⟨m, q1, q2⟩ => ⟨m, by simp [q1], q2⟩⟩
      simp only [RelV]
      exact ⟨cs, h1', by rw [h2', k1], k2⟩
    | @refS l s n cells cells' dp e1 e2 e4 =>
      obtain ⟨B, g1, g2⟩ := ev_rel hs e1 hk1
      simp only [RelV] at g1
      obtain ⟨Bo, o1, _, o3⟩ := hs.objs l ⟨cells, dp, false⟩ (by rw [h2 l (by simp), ← loq_lo]; exact e2)
      rcases o3 with ⟨o3, o4, o5⟩ | ⟨b, cs, t, o3, o4, o5, o6⟩
      · obtain ⟨hn, _, hc⟩ := g1.2.1 o3
        simp only at o4
        subst hn; subst o4
        exact ⟨[], by simp only [RelV]; exact .inl ⟨trivial, e4.empty, trivial, _, _, hc⟩, by simp⟩
      · obtain ⟨cap, cs', t', hc, hh, _, hcap⟩ := g1.2.2 b o3
        rw [o5] at hh; cases hh
        refine ⟨b :: Bo, ?_, fun b' hb' => ?_⟩
        · simp only [RelV]
          exact .inr ⟨b, 0, cap, cs, t, (0, 0), Bo, ⟨by simpa using hc, hcap⟩, o5, e4.2 _ _ _ _ _ _ (by simpa using o6), rfl⟩
        · rcases List.mem_cons.1 hb' with rfl | hb'
          · exact .inr ⟨l, by simp, o4⟩
          · exact .inl (o1 b' hb')
    | @ref l s n cells dp e1 e2 e3 =>
      obtain ⟨B, g1, g2⟩ := ev_rel hs e1 hk1
      simp only [RelV] at g1
      obtain ⟨Bo, o1, _, o3⟩ := hs.objs l ⟨cells, dp, false⟩ (by rw [h2 l (by simp), ← loq_lo]; exact e2)
      rcases o3 with ⟨o3, o4, o5⟩ | ⟨b, cs, t, o3, o4, o5, o6⟩
      · obtain ⟨hn, _, hc⟩ := g1.2.1 o3
        simp at o4
        subst hn; subst o4
        exact ⟨[], by simp only [RelV]; exact .inl ⟨trivial, trivial, trivial, _, _, hc⟩, by simp⟩
      · obtain ⟨cap, cs', t', hc, hh, _, hcap⟩ := g1.2.2 b o3
        rw [o5] at hh; cases hh
        refine ⟨b :: Bo, ?_, fun b' hb' => ?_⟩
        · simp only [RelV]
          exact .inr ⟨b, 0, cap, cs, t, (0, 0), Bo, ⟨by simpa using hc, hcap⟩, o5, by simpa using o6, rfl⟩
        · rcases List.mem_cons.1 hb' with rfl | hb'
          · exact .inr ⟨l, by simp, o4⟩
          · exact .inl (o1 b' hb')

variable {d : Nat} {ty : TypeId} {pos : String} {af : Array Edge} {g : Option (Nat × Bool)}

def nilB : List Nat → Bool
  | [] => true
  | _ => false
theorem L_call {f : FuncId} [hfc : FnC P f] {xs : List Operand} {us : Array TypeId} {ps : List PV} {ls : List Nat} {r : PV} {deep : Bool} (ha : ArgsV S O xs ps ls) (hm : Meets P f ps r deep) (hc : (nilB ls || deep || flat r) = true) (hr : r.labs = []) (hd : Nat.blt d N = true) :
    Local Γ ⟨some d, .call ⟨.value (.func f), xs.toArray, us⟩, ty, pos, af, g⟩ ⟨S, O⟩ ⟨[(d, ⟨r, deep⟩)], []⟩ (orsA xs) ls [] := by
  intro F hs hl _ a w ⟨ow, β, hsim⟩ Q
  have hargs := args_rel hsim ha hs hl
  unfold Oper.wp
  have hrun : (execOp a.eval ⟨some d, .call ⟨.value (.func f), xs.toArray, us⟩, ty, pos, af, g⟩).run P w = .ok (.enter f (xs.map a.eval).toArray) w := by
    simp [execOp, resolve, Act.eval, Deferred.ofValue, invoke, hfc.run]
  rw [hrun]
  show Calls _ _ _ _ _
  refine (hm w (xs.map a.eval).toArray (fun b => Im Γ ow w b ∨ ∃ l ∈ ls, ow b = .lab l) (by simpa using hargs)).mono fun e w' ⟨c, B, he, hb, h1, h2, h3⟩ => ?_
  subst he
  show Sim Γ _ _ _
  have hg := hsim.grow hb
  have hB : ∀ b ∈ B, b < w'.heap.size := RelV.below _ _ _ h1
  have hfresh : ∀ b, w.heap.size ≤ b → b < w'.heap.size → Im Γ ow w' b := fun b hb1 hb2 => ⟨hb2, .inr (.inl (.inl (Nat.le_trans hsim.kept.size hb1))), fun l e => by have := (hsim.own b (by rw [e]; simp)).1; omega⟩
  have hkeepV : RelV w'.heap β r c B := RelV.keep _ _ _ (fun l hl => by rw [hr] at hl; cases hl) (fun _ _ => rfl) h1
  cases deep with
  | true =>
    obtain ⟨n1, n2⟩ := h3 rfl
    exact ⟨_, β, hg.putDeep ((blt_iff _ _).1 hd) hkeepV (fun b hb => hfresh b (n2 b hb).1 (hB b hb)) n1 (fun b hb => ⟨(n2 b hb).2, .inl (.inl (Nat.le_trans hsim.kept.size (n2 b hb).1))⟩)
      (fun b hb => by
        cases hx : ow b with
        | none => exact .inl rfl
        | _ => have := (hsim.own b (by rw [hx]; simp)).1; have := (n2 b hb).1; omega)⟩
  | false =>
    refine ⟨ow, β, hg.put ((blt_iff _ _).1 hd) hkeepV fun b hbB => ?_⟩
    simp only [Bool.or_false, Bool.or_eq_true] at hc
    rcases hc with hc | hc
    · cases ls with
      | cons => cases hc
      | nil =>
        rcases h2 b hbB with (h | ⟨l, hl, _⟩) | h
        · exact ⟨Nat.lt_of_lt_of_le h.1 hb.size, h.2⟩
        · cases hl
        · exact hfresh b h (hB b hbB)
    · rw [flat_nil hc h1] at hbB; cases hbB
end
end Go.Ev
