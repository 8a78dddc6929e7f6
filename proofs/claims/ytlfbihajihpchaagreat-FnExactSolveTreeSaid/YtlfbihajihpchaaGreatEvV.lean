/- The engine, part V: functions that write rows handed in; results that are rows. -/
import Derived.Test.YtlfbihajihpchaaGreatEvU
set_option linter.all false
namespace Go.Ev
open Go.RowKit (Below)

def chkR : List (Nat × Nat) → Bool
  | [] => true
  | (a, b) :: r => Nat.blt a 100000 && Nat.blt b 100000 && chkR r
section
variable {P : Program} {N : Nat} {Γ : Ctx P N}
theorem io1 (h : ∀ l, Nat.blt l 100000 = true → Γ.io l = none) (l : Nat) (hl : Nat.blt l 100000 = true := by rfl) : Γ.io l = none := h l hl
theorem io0 (h : ∀ l, Nat.blt l 100000 = true → Γ.io l = none) (ρ : List (Nat × Nat)) (hρ : chkR ρ = true := by rfl) : ∀ l, Γ.io (rn ρ l) = Γ.io l ∧ (Γ.io l ≠ none → rn ρ l = l) := by
  induction ρ with
  | nil => intro l; exact ⟨rfl, fun _ => rfl⟩
  | cons x r ih =>
    obtain ⟨a, b⟩ := x
    simp only [chkR, Bool.and_eq_true] at hρ
    intro l
    simp only [rn, beq_eq]
    by_cases hal : a = l
    · subst hal
      simp only [decide_true, cond_true]
      rw [h b hρ.1.2, h a hρ.1.1]
      exact ⟨rfl, fun e => absurd rfl e⟩
    · simp only [hal, decide_false, cond_false]
      exact ih hρ.2 l
theorem Meets.intro2 {f : FuncId} {fn : Func} {c : Code} {args : List PV} {r : PV} {deep : Bool} {rs : Array ResultVar} (hf : P.funcs[f]? = some fn) (hb : fn.body = some c) (hN : fn.ntmps = N) (hrs : fn.results = rs) (hn : Nat.ble args.length N = true)
    (h : ∀ Γ : Ctx P N, (∀ l, Nat.blt l 100000 = true → Γ.io l = none) → CodeT Γ c ⟨argEnv args 0, []⟩ (ends Γ rs r deep)) : Meets P f args r deep :=
  Meets.intro hf hb hN hrs hn (fun Γ hΓ => h Γ (fun l _ => by rw [hΓ]))
end

/-- An own block that is handed in to be written: label, cells before, cells after. -/
structure XO where
  l : Nat
  old : List PV
  new : List PV
def XOb (w : World) (ok : Nat → Prop) (κ : Nat → Option (Option Nat)) (o : XO) : Prop :=
  (κ o.l = some none ∧ o.old = []) ∨ ∃ b cs t, κ o.l = some (some b) ∧ ¬ ok b ∧ w.heap[b]? = some (.cells cs t (0, 0)) ∧ RelL w.heap true dead o.old cs 0 []
def XPost (w w' : World) (κ : Nat → Option (Option Nat)) (o : XO) : Prop :=
  (κ o.l = some none → o.new = []) ∧ ∀ b, κ o.l = some (some b) → ∀ cs t, w.heap[b]? = some (.cells cs t (0, 0)) → ∃ cs', w'.heap[b]? = some (.cells cs' t (0, 0)) ∧ cs'.size = cs.size ∧ RelL w'.heap true dead o.new cs' 0 []
def XArgs (h : Array Obj) (ok : Nat → Prop) (κ : Nat → Option (Option Nat)) : List PV → List Value → Prop
  | [], [] => True
  | p :: ps, c :: cs => (∃ B, RelV h κ p c B ∧ ∀ b ∈ B, ok b) ∧ XArgs h ok κ ps cs
  | _, _ => False
/-- Called with arguments that read as 'args' (over own blocks handed in) the function returns what reads as 'r', and the own blocks read as said. -/
def MeetsX (P : Program) (f : FuncId) (args : List PV) (objs : List XO) (r : PV) (deep : Bool) : Prop :=
  ∀ (w : World) (cargs : Array Value) (ok : Nat → Prop) (κ : Nat → Option (Option Nat)), XArgs w.heap ok κ args cargs.toList → (∀ o ∈ objs, XOb w ok κ o) → (∀ l o, κ l = some o → ∃ x ∈ objs, x.l = l) → (∀ l l' b, κ l = some (some b) → κ l' = some (some b) → l = l') →
    Calls P f cargs w fun e w' => ∃ c B, e = .returned c ∧ Same w w' ∧ (∀ b, b < w.heap.size → (∀ l, κ l ≠ some (some b)) → w'.heap[b]? = w.heap[b]?) ∧ (∀ o ∈ objs, XPost w w' κ o) ∧
      RelV w'.heap dead r c B ∧ (∀ b ∈ B, ok b ∨ w.heap.size ≤ b) ∧ (deep = true → B.Nodup ∧ ∀ b ∈ B, w.heap.size ≤ b ∧ Free w' b)

theorem XArgs.get {h : Array Obj} {ok : Nat → Prop} {κ : Nat → Option (Option Nat)} : ∀ {ps : List PV} {cs : List Value}, XArgs h ok κ ps cs → ps.length = cs.length ∧ ∀ k, k < ps.length → ∃ B, RelV h κ (ps.getD k .any) (cs.getD k undef) B ∧ ∀ b ∈ B, ok b
  | [], [], _ => ⟨rfl, fun k hk => by simp at hk⟩
  | p :: ps, c :: cs, H => by
    obtain ⟨h1, h2⟩ := H
    obtain ⟨h3, h4⟩ := XArgs.get h2
    refine ⟨by simp [h3], fun k hk => ?_⟩
    cases k with
    | zero => simpa using h1
    | succ k => simpa using h4 k (by simpa using hk)
  | [], _ :: _, H => H.elim
  | _ :: _, [], H => H.elim

def xenv : List XO → List (Nat × Option Ob)
  | [] => []
  | o :: r => (o.l, some ⟨o.old, true, false⟩) :: xenv r
theorem xenv_lo : ∀ {os : List XO} {l : Nat}, (lo (xenv os) l = none ∧ ∀ o ∈ os, o.l ≠ l) ∨ ∃ o ∈ os, o.l = l ∧ lo (xenv os) l = some ⟨o.old, true, false⟩
  | [], l => .inl ⟨rfl, by simp⟩
  | o :: r, l => by
    simp only [xenv, lo_cons]
    by_cases h : o.l = l
    · exact .inr ⟨o, by simp, h, by rw [if_pos h]⟩
    · rw [if_neg h]
      rcases xenv_lo (os := r) (l := l) with ⟨h1, h2⟩ | ⟨o', h1, h2, h3⟩
      · exact .inl ⟨h1, fun x hx => by rcases List.mem_cons.1 hx with rfl | hx; exact h; exact h2 x hx⟩
      · exact .inr ⟨o', by simp [h1], h2, h3⟩
/-- labels are those of blocks handed in, no two alike; what is nil stays nil; plain cells -/
def xok : List XO → Bool
  | [] => true
  | o :: r => Nat.ble 100000 o.l && !(memB (r.map (·.l)) o.l) && xok r
theorem xok_spec : ∀ {os : List XO}, xok os = true → (∀ o ∈ os, 100000 ≤ o.l) ∧ ∀ o ∈ os, ∀ o' ∈ os, o.l = o'.l → o = o'
  | [], _ => ⟨by simp, by simp⟩
  | o :: r, h => by
    simp only [xok, Bool.and_eq_true, Bool.not_eq_true'] at h
    obtain ⟨g1, g2⟩ := xok_spec h.2
    have hn : ∀ x ∈ r, x.l ≠ o.l := by
      intro x hx e
      have : memB (r.map (·.l)) o.l = true := (memB_iff _ _).2 (List.mem_map.2 ⟨x, hx, e⟩)
      rw [this] at h; cases h.1.2
    refine ⟨fun x hx => ?_, fun x hx y hy e => ?_⟩
    · rcases List.mem_cons.1 hx with rfl | hx
      · exact Nat.le_of_ble_eq_true h.1.1
      · exact g1 x hx
    · rcases List.mem_cons.1 hx with e1 | e1 <;> rcases List.mem_cons.1 hy with e2 | e2
      · rw [e1, e2]
      · rw [e1] at e; exact absurd e.symm (hn y e2)
      · rw [e2] at e; exact absurd e (hn x e1)
      · exact g2 x e1 y e2 e

def RetX {P : Program} {N : Nat} (Γ : Ctx P N) (rs : Array ResultVar) (E : Env) (r : PV) (deep : Bool) (objs : List XO) : Prop :=
  RetIs Γ rs E r deep ∧ ∀ a w, Sim Γ E a w → ∃ E', Sim Γ E' a w ∧ ∀ o ∈ objs, ∃ dp, lo E'.o o.l = some ⟨o.new, dp, false⟩
def endsX {P : Program} {N : Nat} (Γ : Ctx P N) (rs : Array ResultVar) (r : PV) (deep : Bool) (objs : List XO) : Exit → Env → Prop
  | .normal, E => RetX Γ rs E r deep objs
  | .ret, E => RetX Γ rs E r deep objs
  | _, _ => False

section
variable {P : Program} {N : Nat}
theorem MeetsX.intro {f : FuncId} {fn : Func} {c : Code} {args : List PV} {objs : List XO} {r : PV} {deep : Bool} {rs : Array ResultVar} (hf : P.funcs[f]? = some fn) (hb : fn.body = some c) (hN : fn.ntmps = N) (hrs : fn.results = rs) (hn : Nat.ble args.length N = true)
    (hx : xok objs = true) (hnil : ∀ o ∈ objs, o.old = [] → o.new = []) (hsc : ∀ o ∈ objs, allSc o.new = true)
    (h : ∀ Γ : Ctx P N, (∀ l, Nat.blt l 100000 = true → Γ.io l = none) → CodeT Γ c ⟨argEnv args 0, xenv objs⟩ (endsX Γ rs r deep objs)) : MeetsX P f args objs r deep := by
  classical
  intro w cargs ok κ ha hob hκ hinj
  obtain ⟨h1, h2⟩ := ha.get
  obtain ⟨hx1, hx2⟩ := xok_spec hx
  have hn := Nat.le_of_ble_eq_true hn
  let Γ : Ctx P N := { base := w.heap.size, ok := ok, io := fun l => match κ l with | some (some b) => some b | _ => none, w0 := w, mine := fun _ => False, lent := fun _ => False }
  have hio : ∀ l b, Γ.io l = some b ↔ κ l = some (some b) := by
    intro l b
    show (match κ l with | some (some b) => some b | _ => none) = some b ↔ _
    cases κ l with
    | none => simp
    | some o => cases o <;> simp
  have hsz : (cargs ++ Array.replicate (fn.ntmps - cargs.size) undef).size = N := by
    have : cargs.size = args.length := by rw [h1]; simp
    simp [this, hN]; omega
  have hblt : ∀ l b, κ l = some (some b) → b < w.heap.size := by
    intro l b e
    obtain ⟨o, ho, rfl⟩ := hκ l _ e
    rcases hob o ho with ⟨e', _⟩ | ⟨b', cs, t, e', _, g, _⟩
    · rw [e] at e'; cases e'
    · rw [e] at e'; cases e'
      rcases Nat.lt_or_ge b w.heap.size with h | h
      · exact h
      · simp [Array.getElem?_eq_none h] at g
  refine calls_of_wp hf hb ?_
  let ow : Nat → Own := fun b => if hh : ∃ l, κ l = some (some b) then .lab hh.choose else .none
  have how : ∀ b l, κ l = some (some b) → ow b = .lab l := by
    intro b l e
    have hh : ∃ l, κ l = some (some b) := ⟨l, e⟩
    show (if hh : _ then _ else _) = _
    rw [dif_pos hh, hinj _ _ b hh.choose_spec e]
  have how2 : ∀ b, ow b ≠ .none → ∃ l, κ l = some (some b) := by
    intro b hb'
    rcases Classical.em (∃ l, κ l = some (some b)) with hh | hh
    · exact hh
    · exfalso; apply hb'
      show (if hh : _ then _ else _) = _
      rw [dif_neg hh]
  have hsim : Sim Γ ⟨argEnv args 0, xenv objs⟩ { tmps := cargs ++ Array.replicate (fn.ntmps - cargs.size) undef, defers := [] } w := by
    refine ⟨ow, κ, { size := hsz, defers := rfl, kept := ⟨rfl, rfl, rfl, Nat.le_refl _, fun _ _ _ _ => rfl, fun b _ _ cs t h => ⟨cs, h, rfl⟩⟩, slots := fun k => ?_, objs := fun l ob hl => ?_, gone := fun l hl => ?_, own := fun b hb => ?_, ios := fun l b hl _ => (hio l b).1 hl, fresh := fun l b hl hi => ?_ }⟩
    · rw [argEnv_lk]
      by_cases hk : k < args.length
      · rw [if_pos ⟨Nat.zero_le _, by simpa using hk⟩]
        obtain ⟨B, g1, g2⟩ := h2 k hk
        have hB : ∀ b ∈ B, ∀ l, ow b ≠ .lab l := by
          intro b hb l e
          obtain ⟨l', e'⟩ := how2 b (by rw [e]; simp)
          obtain ⟨o, ho, rfl⟩ := hκ l' _ e'
          rcases hob o ho with ⟨e2, _⟩ | ⟨b', cs, t, e2, hnok, _⟩
          · rw [e'] at e2; cases e2
          · rw [e'] at e2; cases e2; exact hnok (g2 b hb)
        refine ⟨B, ?_, fun b hb => ⟨RelV.below _ _ _ g1 b hb, .inl (g2 b hb), hB b hb⟩, by simp⟩
        have e : (cargs ++ Array.replicate (fn.ntmps - cargs.size) undef).getD k undef = cargs.toList.getD k undef := by
          have hlt : k < cargs.size := by rw [h1] at hk; simpa using hk
          simp [Array.getD_eq_getD_getElem?, Array.getElem?_append, hlt, List.getD_eq_getElem?_getD]
        rw [e]
        simpa only [Nat.sub_zero] using g1
      · rw [if_neg (by simpa using hk)]
        exact ⟨[], by simp [RelV], by simp, by simp⟩
    · rcases xenv_lo (os := objs) (l := l) with ⟨g1, _⟩ | ⟨o, ho, rfl, g1⟩
      · simp only [g1] at hl; cases hl
      · simp only [g1] at hl; cases hl
        refine ⟨[], by simp, by simp, ?_⟩
        rcases hob o ho with ⟨e1, e2⟩ | ⟨b, cs, t, e1, _, e3, e4⟩
        · exact .inl ⟨e1, e2, rfl⟩
        · exact .inr ⟨b, cs, t, e1, how b _ e1, e3, by simpa using e4⟩
    · cases hk : κ l with
      | none => rfl
      | some o =>
        obtain ⟨x, hx, rfl⟩ := hκ l o hk
        rcases xenv_lo (os := objs) (l := x.l) with ⟨_, g2⟩ | ⟨_, _, _, g1⟩
        · exact absurd rfl (g2 x hx)
        · simp only [g1] at hl; cases hl
    · obtain ⟨l, e⟩ := how2 b hb
      exact ⟨hblt l b e, .inr ⟨l, how b l e, (hio l b).2 e⟩⟩
    · rw [(hio l b).2 hl] at hi; cases hi
  have hioN : ∀ l, Nat.blt l 100000 = true → Γ.io l = none := by
    intro l hl
    have hl := (blt_iff _ _).1 hl
    cases hi : Γ.io l with
    | none => rfl
    | some b =>
      obtain ⟨o, ho, rfl⟩ := hκ l _ ((hio l b).1 hi)
      have := hx1 o ho; omega
  refine wp_mono (h Γ hioN _ _ hsim) fun e a' w' ⟨E', hs', hq⟩ => ?_
  have fin : RetX Γ rs E' r deep objs → a'.defers = [] ∧ ∃ v, (results fn a'.tmps).run P w' = .ok v w' ∧ ∃ c B, Ending.returned v = .returned c ∧ Same w w' ∧ (∀ b, b < w.heap.size → (∀ l, κ l ≠ some (some b)) → w'.heap[b]? = w.heap[b]?) ∧ (∀ o ∈ objs, XPost w w' κ o) ∧
      RelV w'.heap dead r c B ∧ (∀ b ∈ B, ok b ∨ w.heap.size ≤ b) ∧ (deep = true → B.Nodup ∧ ∀ b ∈ B, w.heap.size ≤ b ∧ Free w' b) := by
    rintro ⟨hr, hr2⟩
    obtain ⟨c, B, g1, g2, g3, g4⟩ := hr fn hrs a' w' hs'
    obtain ⟨E2, ⟨ow2, β2, hs2⟩, hr2⟩ := hr2 a' w' hs'
    refine ⟨hs2.defers, c, g1, c, B, rfl, ⟨hs2.kept.os, hs2.kept.output, hs2.kept.tape, hs2.kept.size⟩, fun b hb hn => hs2.kept.old b hb (fun l e => hn l ((hio l b).1 e)) (fun h => h), fun o ho => ⟨fun e => ?_, fun b e cs t hc => ?_⟩, g2, fun b hb => (g3 b hb).2.imp id (fun h => (h.elim id False.elim : Γ.nww b).elim id False.elim), fun hd => ⟨(g4 hd).1, fun b hb => ⟨(((g4 hd).2 b hb).2.elim id False.elim : Γ.nww b).elim id False.elim, ((g4 hd).2 b hb).1⟩⟩⟩
    · refine hnil o ho ?_
      rcases hob o ho with ⟨_, e2⟩ | ⟨b, _, _, e2, _⟩
      · exact e2
      · rw [e] at e2; cases e2
    · obtain ⟨dp, hl⟩ := hr2 o ho
      obtain ⟨Bo, _, _, k3⟩ := hs2.objs o.l _ hl
      have hβ := hs2.ios o.l b ((hio o.l b).2 e) (by rw [hl]; rfl)
      rcases k3 with ⟨k4, _⟩ | ⟨b', cs', t', k4, k5, k6, k7⟩
      · rw [hβ] at k4; cases k4
      · rw [hβ] at k4; cases k4
        obtain ⟨cs2, q1, q2⟩ := hs2.kept.ios b (hblt _ _ e) (fun h => h) cs t hc
        rw [k6] at q1; cases q1
        have := allSc_nil (hsc o ho) k7
        subst this
        exact ⟨cs', k6, q2, by simpa using k7⟩
  cases e with
  | normal => exact fin hq
  | ret => exact fin hq
  | exit id => exact hq.elim
  | goto l => exact hq.elim
  | panic ch => exact hq.elim
  | outgrown => exact hq.elim
end

section
variable {P : Program} {N : Nat} {Γ : Ctx P N} {S : List (Nat × Slot)} {O : List (Nat × Option Ob)} {ow : Nat → Own} {β : Nat → Option (Option Nat)} {F : Env} {a : Act} {w : World}

inductive ArgX (S : List (Nat × Slot)) (O : List (Nat × Option Ob)) (ρ : List (Nat × Nat)) : Operand → PV → List Nat → Prop
  | val {x : Operand} {p : PV} {l : List Nat} : ArgV S O x p l → p.labs = [] → ArgX S O ρ x p l
  | io {x : Operand} {p : PV} : evq S x = some (renV' ρ p) → ArgX S O ρ x p []
inductive ArgsX (S : List (Nat × Slot)) (O : List (Nat × Option Ob)) (ρ : List (Nat × Nat)) : List Operand → List PV → List Nat → Prop
  | nil : ArgsX S O ρ [] [] []
  | cons {x : Operand} {p : PV} {l m : List Nat} {xs : List Operand} {ps : List PV} : ArgX S O ρ x p l → ArgsX S O ρ xs ps m → ArgsX S O ρ (x :: xs) (p :: ps) (l ++ m)
/-- the own blocks that are handed over: where they are, that their cells are plain; what they read afterwards -/
inductive ObsX (O : List (Nat × Option Ob)) (ρ : List (Nat × Nat)) : List XO → List (Nat × Option Ob) → Prop
  | nil : ObsX O ρ [] []
  | cons {l : Nat} {old new : List PV} {dp : Bool} {os : List XO} {us : List (Nat × Option Ob)} : loq O (rn ρ l) = some ⟨old, dp, false⟩ → allSc old = true → ObsX O ρ os us → ObsX O ρ (⟨l, old, new⟩ :: os) ((rn ρ l, some ⟨new, dp, false⟩) :: us)
theorem ObsX.get {ρ : List (Nat × Nat)} {os : List XO} {us : List (Nat × Option Ob)} (h : ObsX O ρ os us) : ∀ o ∈ os, ∃ dp, loq O (rn ρ o.l) = some ⟨o.old, dp, false⟩ ∧ allSc o.old = true := by
  induction h with
  | nil => simp
  | cons h1 h2 _ ih =>
    intro o ho
    rcases List.mem_cons.1 ho with rfl | ho
    · exact ⟨_, h1, h2⟩
    · exact ih o ho

theorem ArgV.rel {x : Operand} {p : PV} {l : List Nat} (hs : SimG Γ ow β F a w) (hx : ArgV S O x p l) (hk1 : ∀ k ∈ ors x, lk F.s k = lk S k) (hl : ∀ m ∈ l, lo F.o m = lo O m) : ∃ B, RelV w.heap dead p (a.eval x) B ∧ ∀ b ∈ B, Im Γ ow w b ∨ ∃ m ∈ l, ow b = .lab m := by
  have h1 : ArgsV S O [x] [p] (l ++ []) := .cons hx .nil
  have := args_rel hs h1 (by cases x <;> simpa [orsA, ors] using hk1) (by simpa using hl)
  obtain ⟨⟨B, g1, g2⟩, _⟩ := this
  exact ⟨B, g1, fun b hb => by simpa using g2 b hb⟩

variable {d : Nat} {ty : TypeId} {pos : String} {af : Array Edge} {g : Option (Nat × Bool)}
end
end Go.Ev
