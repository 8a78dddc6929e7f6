/- The engine, part B: environments, what they say of a run's state, and statements whose order Go leaves open. -/
import Derived.Test.YtlfbihajihpchaaGreatEvA
set_option linter.all false
namespace Go.Ev

structure Slot where
  v : PV
  deep : Bool := false
structure Ob where
  cells : List PV
  deep : Bool
  box : Bool
structure Env where
  s : List (Nat × Slot)
  o : List (Nat × Option Ob)

def lk : List (Nat × Slot) → Nat → Slot
  | [], _ => ⟨.any, false⟩
  | (j, v) :: r, k => bif Nat.beq j k then v else lk r k
def lo : List (Nat × Option Ob) → Nat → Option Ob
  | [], _ => none
  | (j, v) :: r, k => bif Nat.beq j k then v else lo r k

def Env.app (E e : Env) : Env := ⟨e.s ++ E.s, e.o ++ E.o⟩

theorem beq_eq (j k : Nat) : Nat.beq j k = decide (j = k) := by
  by_cases h : j = k
  · subst h; simp
  · rw [decide_eq_false h]
    cases hb : Nat.beq j k with
    | false => rfl
    | true => exact absurd (Nat.eq_of_beq_eq_true hb) h
theorem lk_cons (j : Nat) (v : Slot) (r : List (Nat × Slot)) (k : Nat) : lk ((j, v) :: r) k = if j = k then v else lk r k := by
  simp only [lk, beq_eq]
  by_cases h : j = k <;> simp [h]
theorem lo_cons (j : Nat) (v : Option Ob) (r : List (Nat × Option Ob)) (k : Nat) : lo ((j, v) :: r) k = if j = k then v else lo r k := by
  simp only [lo, beq_eq]
  by_cases h : j = k <;> simp [h]
theorem lk_append_of_mem (a b : List (Nat × Slot)) (k : Nat) (h : k ∈ a.map (·.1)) : lk (a ++ b) k = lk a k := by
  induction a with
  | nil => cases h
  | cons x r ih =>
    obtain ⟨j, v⟩ := x
    rw [List.cons_append, lk_cons, lk_cons]
    by_cases hj : j = k
    · simp [hj]
    · rw [if_neg hj, if_neg hj]
      refine ih ?_
      simp only [List.map_cons, List.mem_cons] at h
      rcases h with h | h
      · exact absurd h.symm hj
      · exact h
theorem lk_append_of_not_mem (a b : List (Nat × Slot)) (k : Nat) (h : k ∉ a.map (·.1)) : lk (a ++ b) k = lk b k := by
  induction a with
  | nil => rfl
  | cons x r ih =>
    obtain ⟨j, v⟩ := x
    simp only [List.map_cons, List.mem_cons, not_or] at h
    rw [List.cons_append, lk_cons, if_neg (fun e => h.1 e.symm)]
    exact ih h.2
theorem lo_append_of_mem (a b : List (Nat × Option Ob)) (k : Nat) (h : k ∈ a.map (·.1)) : lo (a ++ b) k = lo a k := by
  induction a with
  | nil => cases h
  | cons x r ih =>
    obtain ⟨j, v⟩ := x
    rw [List.cons_append, lo_cons, lo_cons]
    by_cases hj : j = k
    · simp [hj]
    · rw [if_neg hj, if_neg hj]
      refine ih ?_
      simp only [List.map_cons, List.mem_cons] at h
      rcases h with h | h
      · exact absurd h.symm hj
      · exact h
theorem lo_append_of_not_mem (a b : List (Nat × Option Ob)) (k : Nat) (h : k ∉ a.map (·.1)) : lo (a ++ b) k = lo b k := by
  induction a with
  | nil => rfl
  | cons x r ih =>
    obtain ⟨j, v⟩ := x
    simp only [List.map_cons, List.mem_cons, not_or] at h
    rw [List.cons_append, lo_cons, if_neg (fun e => h.1 e.symm)]
    exact ih h.2

inductive Own where
  | none
  | slot (k : Nat)
  | obj (l : Nat)
  | lab (l : Nat)

/-- What stays the same through one call: the heap's size when the call began, the blocks that may be read, the blocks that came in to be written (by label), the world at the beginning. N: the number of temporaries. -/
structure Ctx (P : Program) (N : Nat) where
  base : Nat
  ok : Nat → Prop
  io : Nat → Option Nat
  w0 : World
  mine : Nat → Prop
  lent : Nat → Prop
/-- Blocks that a call may treat as its own: those that it has laid, those that were given to it. -/
def Ctx.nww {P : Program} {N : Nat} (Γ : Ctx P N) (b : Nat) : Prop := Γ.base ≤ b ∨ Γ.mine b
/-- .. and those that were lent to it: they may go into what it returns, but not be written. -/
def Ctx.nw {P : Program} {N : Nat} (Γ : Ctx P N) (b : Nat) : Prop := Γ.nww b ∨ Γ.lent b

def Free (w : World) (b : Nat) : Prop := ∃ cs t, w.heap[b]? = some (.cells cs t (0, 0))

structure Kept {P : Program} {N : Nat} (Γ : Ctx P N) (w : World) : Prop where
  os : w.os = Γ.w0.os
  output : w.output = Γ.w0.output
  tape : w.tape = Γ.w0.tape
  size : Γ.base ≤ w.heap.size
  old : ∀ b, b < Γ.base → (∀ l, Γ.io l ≠ some b) → ¬ Γ.mine b → w.heap[b]? = Γ.w0.heap[b]?
  ios : ∀ b, b < Γ.base → ¬ Γ.mine b → ∀ cs t, Γ.w0.heap[b]? = some (.cells cs t (0, 0)) → ∃ cs', w.heap[b]? = some (.cells cs' t (0, 0)) ∧ cs'.size = cs.size

def Im {P : Program} {N : Nat} (Γ : Ctx P N) (ow : Nat → Own) (w : World) (b : Nat) : Prop := b < w.heap.size ∧ (Γ.ok b ∨ Γ.nw b) ∧ ∀ l, ow b ≠ .lab l

structure SimG {P : Program} {N : Nat} (Γ : Ctx P N) (ow : Nat → Own) (β : Nat → Option (Option Nat)) (E : Env) (a : Act) (w : World) : Prop where
  size : a.tmps.size = N
  defers : a.defers = []
  kept : Kept Γ w
  slots : ∀ k, ∃ O, RelV w.heap β (lk E.s k).v (a.tmps.getD k undef) O ∧ (∀ b ∈ O, Im Γ ow w b) ∧ ((lk E.s k).deep = true → O.Nodup ∧ ∀ b ∈ O, ow b = .slot k ∧ Free w b)
  objs : ∀ l ob, lo E.o l = some ob → ∃ O, (∀ b ∈ O, Im Γ ow w b) ∧ (ob.deep = true → O.Nodup ∧ ∀ b ∈ O, ow b = .obj l ∧ Free w b) ∧
    ((β l = some none ∧ ob.cells = [] ∧ O = []) ∨ ∃ b cs t, β l = some (some b) ∧ ow b = .lab l ∧ w.heap[b]? = some (.cells cs t (0, 0)) ∧ RelL w.heap true (if ob.box then β else dead) ob.cells cs 0 O)
  gone : ∀ l, lo E.o l = none → β l = none
  own : ∀ b, ow b ≠ .none → b < w.heap.size ∧ (Γ.nw b ∨ ∃ l, ow b = .lab l ∧ Γ.io l = some b)
  ios : ∀ l b, Γ.io l = some b → (lo E.o l).isSome = true → β l = some (some b)
  fresh : ∀ l b, β l = some (some b) → Γ.io l = none → Γ.nww b

theorem SimG.congr {P : Program} {N : Nat} {Γ : Ctx P N} {ow : Nat → Own} {β : Nat → Option (Option Nat)} {E E' : Env} {a : Act} {w : World} (hs : ∀ k, lk E'.s k = lk E.s k) (ho : ∀ l, lo E'.o l = lo E.o l) (h : SimG Γ ow β E a w) : SimG Γ ow β E' a w :=
  { size := h.size, defers := h.defers, kept := h.kept, slots := fun k => by rw [hs]; exact h.slots k, objs := fun l ob hl => h.objs l ob (by rw [← ho]; exact hl),
    gone := fun l hl => h.gone l (by rw [← ho]; exact hl), own := h.own, ios := fun l b h1 h2 => h.ios l b h1 (by rw [← ho]; exact h2), fresh := h.fresh }

def Sim {P : Program} {N : Nat} (Γ : Ctx P N) (E : Env) (a : Act) (w : World) : Prop := ∃ ow β, SimG Γ ow β E a w
theorem Sim.congr {P : Program} {N : Nat} {Γ : Ctx P N} {E E' : Env} {a : Act} {w : World} (hs : ∀ k, lk E'.s k = lk E.s k) (ho : ∀ l, lo E'.o l = lo E.o l) : Sim Γ E a w → Sim Γ E' a w :=
  fun ⟨ow, β, h⟩ => ⟨ow, β, h.congr hs ho⟩

/-- What an operation does. -/
def OpT {P : Program} {N : Nat} (Γ : Ctx P N) (o : Oper) (F F' : Env) : Prop := ∀ a w, Sim Γ F a w → ∀ (Q : Exit → Act → World → Prop), o.wp P a w (Sim Γ F') Q
def StepT {P : Program} {N : Nat} (Γ : Ctx P N) (ops : Array Oper) (i : Nat) (F F' : Env) : Prop := ∀ a w, Sim Γ F a w → ∀ (Q : Exit → Act → World → Prop), wpOp P ops Q i (Sim Γ F') a w

mutual
/-- A value that reads no block. -/
def noRead : PV → Bool
  | .sl _ _ => false
  | .iptr _ => false
  | .rw _ _ _ => false
  | .agg cells => noReadL cells
  | .tup vs => noReadL vs
  | .was _ p => noRead p
  | _ => true
def noReadL : List PV → Bool
  | [] => true
  | p :: ps => noRead p && noReadL ps
end
mutual
theorem noRead_nil {h : Array Obj} {β : Nat → Option (Option Nat)} : ∀ (p : PV) {c : Value} {O : List Nat}, noRead p = true → RelV h β p c O → O = []
  | .sc _, _, _, _, H => by simp only [RelV] at H; exact H.2
  | .sl _ _, _, _, hp, _ => by simp [noRead] at hp
  | .ref _ _ _ _, _, _, _, H => by simp only [RelV] at H; exact H.1
  | .ptr _ _, _, _, _, H => by simp only [RelV] at H; exact H.1
  | .iptr _, _, _, hp, _ => by simp [noRead] at hp
  | .rw _ _ _, _, _, hp, _ => by simp [noRead] at hp
  | .agg cells, _, _, hp, H => by
    simp only [RelV] at H; simp only [noRead] at hp
    obtain ⟨cs, _, _, h3⟩ := H
    exact noReadL_nil cells hp h3
  | .tup vs, _, _, hp, H => by
    simp only [RelV] at H; simp only [noRead] at hp
    obtain ⟨cs, _, _, h3⟩ := H
    exact noReadL_nil vs hp h3
  | .any, _, _, _, H => by simp only [RelV] at H; exact H
  | .was _ p, _, _, hp, H => by
    simp only [RelV] at H; simp only [noRead] at hp
    exact noRead_nil p hp H.2
theorem noReadL_nil {h : Array Obj} {q : Bool} {β : Nat → Option (Option Nat)} : ∀ (ps : List PV) {cs : Array Value} {i : Nat} {O : List Nat}, noReadL ps = true → RelL h q β ps cs i O → O = []
  | [], _, _, _, _, H => by simpa only [RelL] using H
  | p :: ps, _, _, _, hp, H => by
    simp only [noReadL, Bool.and_eq_true] at hp
    simp only [RelL] at H
    obtain ⟨c, O1, O2, _, h2, h3, rfl⟩ := H
    rw [noRead_nil p hp.1 h2, noReadL_nil ps hp.2 h3]; rfl
end
/-- the label that stands for 'someone reads blocks that are not his' -/
def peekL : Nat := 777777777
def quiet (s : Slot) : Bool := s.deep || noRead s.v
def quietO (o : Ob) : Bool := o.deep || noReadL o.cells
/-- No value speaks of the own block d (of the label peekL: no value reads shared blocks). -/
def NoLab (F : Env) (d : Nat) : Prop := (∀ k, d ∉ (lk F.s k).v.labs) ∧ (∀ l ob, lo F.o l = some ob → ob.box = true → ∀ p ∈ ob.cells, d ∉ p.labs) ∧
  (d = peekL → (∀ k, quiet (lk F.s k) = true) ∧ ∀ l ob, lo F.o l = some ob → quietO ob = true)

/-- An operation's change 'e', told by what it reads alone; nl: the own blocks that it lays. -/
def Local {P : Program} {N : Nat} (Γ : Ctx P N) (o : Oper) (E e : Env) (rs ro nl : List Nat) : Prop :=
  ∀ F : Env, (∀ k ∈ rs, lk F.s k = lk E.s k) → (∀ l ∈ ro, lo F.o l = lo E.o l) → (∀ d ∈ nl, NoLab F d) → OpT Γ o F (F.app e)
def LocalAt {P : Program} {N : Nat} (Γ : Ctx P N) (ops : Array Oper) (i : Nat) (E e : Env) (rs ro nl : List Nat) : Prop :=
  ∀ F : Env, (∀ k ∈ rs, lk F.s k = lk E.s k) → (∀ l ∈ ro, lo F.o l = lo E.o l) → (∀ d ∈ nl, NoLab F d) → StepT Γ ops i F (F.app e)

structure Item where
  e : Env
  rs : List Nat
  ro : List Nat
  nl : List Nat

theorem blt_iff (a b : Nat) : Nat.blt a b = true ↔ a < b := by simp
theorem blt_dec (a b : Nat) : Nat.blt a b = decide (a < b) := by
  by_cases h : a < b
  · rw [decide_eq_true h]; exact (blt_iff a b).2 h
  · rw [decide_eq_false h]
    cases hb : Nat.blt a b with
    | false => rfl
    | true => exact absurd ((blt_iff a b).1 hb) h
def memB (l : List Nat) (k : Nat) : Bool := match l with
  | [] => false
  | j :: r => bif Nat.beq j k then true else memB r k
theorem memB_iff (l : List Nat) (k : Nat) : memB l k = true ↔ k ∈ l := by
  induction l with
  | nil => simp [memB]
  | cons j r ih =>
    simp only [memB, beq_eq, List.mem_cons]
    by_cases h : j = k
    · simp [h]
    · simp [h, ih]; intro e; exact absurd e.symm h
def anyB {α : Type} (p : α → Bool) : List α → Bool
  | [] => false
  | x :: r => bif p x then true else anyB p r
theorem anyB_iff {α : Type} (p : α → Bool) (l : List α) : anyB p l = true ↔ ∃ x ∈ l, p x = true := by
  induction l with
  | nil => simp [anyB]
  | cons x r ih =>
    cases h : p x <;> simp [anyB, h, ih]
def labIs (d : Nat) (ls : List Nat) : Bool := memB ls d
/-- a change speaks of the own block d -/
def saysS (s : List (Nat × Slot)) (d : Nat) : Bool := anyB (fun p => labIs d p.2.v.labs || (Nat.beq d 777777777 && !(quiet p.2))) s
def saysO : List (Nat × Option Ob) → Nat → Bool
  | [], _ => false
  | (_, some ob) :: r, d => ((bif ob.box then anyB (fun p => labIs d p.labs) ob.cells else false) || (Nat.beq d 777777777 && !(quietO ob))) || saysO r d
  | (_, none) :: r, d => saysO r d
def says (e : Env) (d : Nat) : Bool := saysS e.s d || saysO e.o d
/-- x writes what y reads or writes -/
def hits (x y : Item) : Bool :=
  anyB (fun p => memB y.rs p.1 || memB (y.e.s.map (·.1)) p.1) x.e.s || anyB (fun p => memB y.ro p.1 || memB (y.e.o.map (·.1)) p.1) x.e.o || anyB (fun d => says y.e d) x.nl

theorem labIs_iff (d : Nat) (ls : List Nat) : labIs d ls = true ↔ d ∈ ls := memB_iff ls d
theorem says_s {e : Env} {d k : Nat} {v : Slot} (hm : (k, v) ∈ e.s) (hl : d ∈ v.v.labs) : says e d = true := by
  unfold says saysS
  rw [Bool.or_eq_true]; left
  rw [anyB_iff]; exact ⟨_, hm, by rw [Bool.or_eq_true]; exact .inl ((labIs_iff _ _).2 hl)⟩
theorem says_ps {e : Env} {k : Nat} {v : Slot} (hm : (k, v) ∈ e.s) (hl : quiet v = false) : says e peekL = true := by
  unfold says saysS
  rw [Bool.or_eq_true]; left
  rw [anyB_iff]; exact ⟨_, hm, by rw [Bool.or_eq_true]; right; simp [hl, peekL]⟩
theorem says_po {e : Env} {l : Nat} {ob : Ob} (hm : (l, some ob) ∈ e.o) (hl : quietO ob = false) : says e peekL = true := by
  unfold says
  rw [Bool.or_eq_true]; right
  have : ∀ o : List (Nat × Option Ob), (l, some ob) ∈ o → saysO o peekL = true := by
    intro o
    induction o with
    | nil => intro h; cases h
    | cons x r ih =>
      intro h
      rcases List.mem_cons.1 h with rfl | h'
      · simp [saysO, hl, peekL]
      · clear h; have h := h'; obtain ⟨k, ob'⟩ := x
        cases ob' with
        | none => simp only [saysO]; exact ih h
        | some ob' => simp only [saysO, Bool.or_eq_true]; exact .inr (ih h)
  exact this e.o hm
theorem says_o {e : Env} {d l : Nat} {ob : Ob} (hm : (l, some ob) ∈ e.o) (hb : ob.box = true) {p : PV} (hp : p ∈ ob.cells) (hl : d ∈ p.labs) : says e d = true := by
  unfold says
  rw [Bool.or_eq_true]; right
  have : ∀ o : List (Nat × Option Ob), (l, some ob) ∈ o → saysO o d = true := by
    intro o
    induction o with
    | nil => intro h; cases h
    | cons x r ih =>
      intro h
      rcases List.mem_cons.1 h with rfl | h'
      · simp only [saysO, hb, cond_true, Bool.or_eq_true]; left; left
        rw [anyB_iff]; exact ⟨p, hp, (labIs_iff _ _).2 hl⟩
      · clear h; have h := h'; obtain ⟨k, ob'⟩ := x
        cases ob' with
        | none => simp only [saysO]; exact ih h
        | some ob' => simp only [saysO, Bool.or_eq_true]; exact .inr (ih h)
  exact this e.o hm
theorem lk_mem {s : List (Nat × Slot)} {k : Nat} (h : (lk s k).v ≠ .any) : (k, lk s k) ∈ s := by
  induction s with
  | nil => simp [lk] at h
  | cons x r ih =>
    obtain ⟨j, v⟩ := x
    rw [lk_cons] at h ⊢
    by_cases hj : j = k
    · subst hj; simp
    · rw [if_neg hj] at h ⊢; exact List.mem_cons_of_mem _ (ih h)
theorem lo_mem {s : List (Nat × Option Ob)} {k : Nat} {ob : Ob} (h : lo s k = some ob) : (k, some ob) ∈ s := by
  induction s with
  | nil => simp [lo] at h
  | cons x r ih =>
    obtain ⟨j, v⟩ := x
    rw [lo_cons] at h
    by_cases hj : j = k
    · subst hj; rw [if_pos rfl] at h; subst h; simp
    · rw [if_neg hj] at h; exact List.mem_cons_of_mem _ (ih h)
theorem NoLab.of_says {E : Env} {d : Nat} (h : says E d = false) : NoLab E d := by
  refine ⟨fun k hk => ?_, fun l ob hl hb p hp hk => ?_, fun hd => ⟨fun k => ?_, fun l ob hl => ?_⟩⟩
  · have : (lk E.s k).v ≠ .any := by intro e; rw [e] at hk; simp [PV.labs] at hk
    rw [says_s (lk_mem this) hk] at h; cases h
  · rw [says_o (lo_mem hl) hb hp hk] at h; cases h
  · cases hq : quiet (lk E.s k) with
    | true => rfl
    | false =>
      have : (lk E.s k).v ≠ .any := by intro e; simp [quiet, e, noRead] at hq
      rw [hd, says_ps (lk_mem this) hq] at h; cases h
  · cases hq : quietO ob with
    | true => rfl
    | false => rw [hd, says_po (lo_mem hl) hq] at h; cases h

def maskOf (acc : List Nat) (o : Oper) : Nat := o.after.toList.foldl (fun s e => if Region.binds .any e then s ||| 2 ^ e.on ||| acc.getD e.on 0 else s) 0
def ancs : List Oper → List Nat → List Nat
  | [], acc => acc
  | o :: r, acc => ancs r (acc ++ [maskOf acc o])
def depsOkAt (m : Nat) (x : Item) : List Item → Nat → Bool
  | [], _ => true
  | y :: r, j => (bif hits x y || hits y x then m.testBit j else true) && depsOkAt m x r (j + 1)
def depsOk (masks : List Nat) (all : List Item) : List Item → Nat → Bool
  | [], _ => true
  | x :: r, i => depsOkAt (masks.getD i 0) x (all.take i) 0 && depsOk masks all r (i + 1)
def edgesOk : List Oper → Nat → Bool
  | [], _ => true
  | o :: r, i => (o.after.toList.all fun e => !Region.binds .any e || Nat.blt e.on i) && edgesOk r (i + 1)

theorem depsOkAt_spec {m : Nat} {x : Item} : ∀ {l : List Item} {j : Nat}, depsOkAt m x l j = true → ∀ k y, l[k]? = some y → (hits x y = true ∨ hits y x = true) → m.testBit (j + k) = true
  | [], _, _, k, y, hk, _ => by simp at hk
  | z :: r, j, h, k, y, hk, hh => by
    simp only [depsOkAt, Bool.and_eq_true] at h
    cases k with
    | zero =>
      simp at hk; subst hk
      have : (hits x z || hits z x) = true := by simpa using hh
      rw [this] at h; simpa using h.1
    | succ k =>
      have := depsOkAt_spec h.2 k y (by simpa using hk) hh
      rw [← this]; congr 1; omega
theorem depsOk_spec {masks : List Nat} {all : List Item} : ∀ {l : List Item} {i : Nat}, depsOk masks all l i = true → ∀ k x, l[k]? = some x → ∀ j y, j < i + k → all[j]? = some y → (hits x y = true ∨ hits y x = true) → (masks.getD (i + k) 0).testBit j = true
  | [], _, _, k, x, hk => by simp at hk
  | z :: r, i, h, k, x, hk => by
    intro j y hj hy hh
    simp only [depsOk, Bool.and_eq_true] at h
    cases k with
    | zero =>
      simp at hk; subst hk
      have := depsOkAt_spec h.1 j y (by rw [List.getElem?_take]; simp at hj; simp [hj, hy]) hh
      simpa using this
    | succ k =>
      have := depsOk_spec h.2 k x (by simpa using hk) j y (by omega) hy hh
      rw [← this]; congr 2; omega
theorem edgesOk_spec : ∀ {l : List Oper} {i : Nat}, edgesOk l i = true → ∀ k o, l[k]? = some o → ∀ e ∈ o.after, Region.binds .any e = true → e.on < i + k
  | [], _, _, k, o, hk => by simp at hk
  | z :: r, i, h, k, o, hk => by
    intro e he hb
    simp only [edgesOk, Bool.and_eq_true] at h
    cases k with
    | zero =>
      simp at hk; subst hk
      have := List.all_eq_true.1 h.1 e (by simpa using he)
      simp only [hb, Bool.not_true, Bool.false_or] at this
      exact (by simpa using (blt_iff _ _).1 this)
    | succ k =>
      have := edgesOk_spec h.2 k o (by simpa using hk) e he hb
      omega

theorem maskOf_spec {acc : List Nat} {o : Oper} {j : Nat} (h : (maskOf acc o).testBit j = true) : ∃ e ∈ o.after, Region.binds .any e = true ∧ (e.on = j ∨ (acc.getD e.on 0).testBit j = true) := by
  unfold maskOf at h
  have key : ∀ (l : List Edge) (s : Nat), (l.foldl (fun s e => if Region.binds .any e then s ||| 2 ^ e.on ||| acc.getD e.on 0 else s) s).testBit j = true → s.testBit j = true ∨ ∃ e ∈ l, Region.binds .any e = true ∧ (e.on = j ∨ (acc.getD e.on 0).testBit j = true) := by
    intro l
    induction l with
    | nil => intro s hs; exact .inl hs
    | cons e r ih =>
      intro s hs
      simp only [List.foldl_cons] at hs
      rcases ih _ hs with h1 | ⟨e', he', h2⟩
      · by_cases hb : Region.binds .any e = true
        · rw [if_pos hb] at h1
          simp only [Nat.testBit_or, Bool.or_eq_true] at h1
          rcases h1 with (h1 | h1) | h1
          · exact .inl h1
          · refine .inr ⟨e, by simp, hb, .inl ?_⟩
            rw [Nat.testBit_two_pow] at h1
            simpa using h1
          · exact .inr ⟨e, by simp, hb, .inr h1⟩
        · rw [if_neg hb] at h1; exact .inl h1
      · exact .inr ⟨e', by simp [he'], h2⟩
  rcases key _ _ h with h | ⟨e, he, h⟩
  · simp at h
  · exact ⟨e, by simpa using he, h⟩

theorem ancs_pre : ∀ (r : List Oper) (acc : List Nat), ∃ t, ancs r acc = acc ++ t
  | [], acc => ⟨[], by simp [ancs]⟩
  | o :: r, acc => by
    obtain ⟨t, ht⟩ := ancs_pre r (acc ++ [maskOf acc o])
    exact ⟨maskOf acc o :: t, by simp [ancs, ht]⟩
theorem ancs_spec : ∀ (r : List Oper) (acc : List Nat) (i : Nat) (o : Oper), r[i]? = some o → (ancs r acc)[acc.length + i]? = some (maskOf ((ancs r acc).take (acc.length + i)) o)
  | [], _, i, o, h => by simp at h
  | z :: r, acc, i, o, h => by
    cases i with
    | zero =>
      simp at h; subst h
      obtain ⟨t, ht⟩ := ancs_pre r (acc ++ [maskOf acc z])
      simp [ancs, ht]
    | succ i =>
      have := ancs_spec r (acc ++ [maskOf acc z]) i o (by simpa using h)
      simp only [List.length_append, List.length_cons, List.length_nil] at this
      rw [show acc.length + 1 + i = acc.length + (i + 1) by omega] at this
      simpa [ancs] using this
theorem ancs_spec' {ops : List Oper} {i : Nat} {o : Oper} (h : ops[i]? = some o) {j : Nat} (hj : ((ancs ops []).getD i 0).testBit j = true) :
    ∃ e ∈ o.after, Region.binds .any e = true ∧ (e.on = j ∨ ((ancs ops []).getD e.on 0).testBit j = true) := by
  have h1 := ancs_spec ops [] i o h
  simp only [List.length_nil, Nat.zero_add] at h1
  rw [List.getD_eq_getElem?_getD, h1] at hj
  obtain ⟨e, he, hb, h2⟩ := maskOf_spec hj
  refine ⟨e, he, hb, h2.imp id fun h3 => ?_⟩
  rw [List.getD_eq_getElem?_getD, List.getElem?_take] at h3
  by_cases hlt : e.on < i
  · rw [if_pos hlt] at h3; rw [List.getD_eq_getElem?_getD]; exact h3
  · rw [if_neg hlt] at h3; simp at h3

/-- The environment when of the operations those in D have been carried out. -/
def pt (D : Nat → Bool) : List Item → Nat → Env → Env
  | [], _, E => E
  | x :: r, k, E => pt D r (k + 1) (if D k then E.app x.e else E)

theorem pt_lk {D D' : Nat → Bool} {k : Nat} : ∀ (l : List Item) (i : Nat) (E E' : Env), (∀ j x, l[j]? = some x → k ∈ x.e.s.map (·.1) → D (i + j) = D' (i + j)) → lk E.s k = lk E'.s k → lk (pt D l i E).s k = lk (pt D' l i E').s k
  | [], _, _, _, _, h => h
  | x :: r, i, E, E', hD, h => by
    refine pt_lk r (i + 1) _ _ (fun j y hy hk => ?_) ?_
    · have := hD (j + 1) y (by simpa using hy) hk
      rw [show i + 1 + j = i + (j + 1) by omega]; exact this
    · have h0 := hD 0 x (by simp)
      simp only [Nat.add_zero] at h0
      by_cases hk : k ∈ x.e.s.map (·.1)
      · rw [h0 hk]
        cases D' i with
        | true => simp only [if_true, Env.app]; rw [lk_append_of_mem _ _ _ hk, lk_append_of_mem _ _ _ hk]
        | false => simpa using h
      · have e1 : ∀ (b : Bool) (E : Env), lk (if b = true then E.app x.e else E).s k = lk E.s k := by
          intro b E; cases b
          · simp
          · simp only [if_true, Env.app]; exact lk_append_of_not_mem _ _ _ hk
        rw [e1, e1]; exact h
theorem pt_lo {D D' : Nat → Bool} {k : Nat} : ∀ (l : List Item) (i : Nat) (E E' : Env), (∀ j x, l[j]? = some x → k ∈ x.e.o.map (·.1) → D (i + j) = D' (i + j)) → lo E.o k = lo E'.o k → lo (pt D l i E).o k = lo (pt D' l i E').o k
  | [], _, _, _, _, h => h
  | x :: r, i, E, E', hD, h => by
    refine pt_lo r (i + 1) _ _ (fun j y hy hk => ?_) ?_
    · have := hD (j + 1) y (by simpa using hy) hk
      rw [show i + 1 + j = i + (j + 1) by omega]; exact this
    · have h0 := hD 0 x (by simp)
      simp only [Nat.add_zero] at h0
      by_cases hk : k ∈ x.e.o.map (·.1)
      · rw [h0 hk]
        cases D' i with
        | true => simp only [if_true, Env.app]; rw [lo_append_of_mem _ _ _ hk, lo_append_of_mem _ _ _ hk]
        | false => simpa using h
      · have e1 : ∀ (b : Bool) (E : Env), lo (if b = true then E.app x.e else E).o k = lo E.o k := by
          intro b E; cases b
          · simp
          · simp only [if_true, Env.app]; exact lo_append_of_not_mem _ _ _ hk
        rw [e1, e1]; exact h
theorem pt_last {D : Nat → Bool} {k : Nat} : ∀ (l : List Item) (i : Nat) (E : Env) (j : Nat) (x : Item), l[j]? = some x → D (i + j) = true → k ∈ x.e.s.map (·.1) → (∀ j' y, j < j' → l[j']? = some y → k ∈ y.e.s.map (·.1) → D (i + j') = false) → lk (pt D l i E).s k = lk x.e.s k
  | [], _, _, j, x, h, _, _, _ => by simp at h
  | z :: r, i, E, j, x, h, hD, hk, hl => by
    cases j with
    | zero =>
      simp at h; subst h
      simp only [Nat.add_zero] at hD
      simp only [pt, hD, if_true]
      have := pt_lk (D := D) (D' := fun _ => false) (k := k) r (i + 1) (E.app z.e) (E.app z.e) (fun j y hy hk' => by have := hl (j + 1) y (by omega) (by simpa using hy) hk'; rw [show i + 1 + j = i + (j + 1) by omega, this]) rfl
      rw [this]
      have e2 : ∀ (l : List Item) (i : Nat) (E : Env), pt (fun _ => false) l i E = E := by
        intro l; induction l with
        | nil => intro i E; rfl
        | cons a r ih => intro i E; simp [pt, ih]
      rw [e2]; exact lk_append_of_mem _ _ _ hk
    | succ j =>
      simp only [pt]
      exact pt_last r (i + 1) _ j x (by simpa using h) (by rw [show i + 1 + j = i + (j + 1) by omega]; exact hD) hk (fun j' y hj' hy hk' => by have := hl (j' + 1) y (by omega) (by simpa using hy) hk'; rw [show i + 1 + j' = i + (j' + 1) by omega]; exact this)
theorem pt_lastO {D : Nat → Bool} {k : Nat} : ∀ (l : List Item) (i : Nat) (E : Env) (j : Nat) (x : Item), l[j]? = some x → D (i + j) = true → k ∈ x.e.o.map (·.1) → (∀ j' y, j < j' → l[j']? = some y → k ∈ y.e.o.map (·.1) → D (i + j') = false) → lo (pt D l i E).o k = lo x.e.o k
  | [], _, _, j, x, h, _, _, _ => by simp at h
  | z :: r, i, E, j, x, h, hD, hk, hl => by
    cases j with
    | zero =>
      simp at h; subst h
      simp only [Nat.add_zero] at hD
      simp only [pt, hD, if_true]
      have := pt_lo (D := D) (D' := fun _ => false) (k := k) r (i + 1) (E.app z.e) (E.app z.e) (fun j y hy hk' => by have := hl (j + 1) y (by omega) (by simpa using hy) hk'; rw [show i + 1 + j = i + (j + 1) by omega, this]) rfl
      rw [this]
      have e2 : ∀ (l : List Item) (i : Nat) (E : Env), pt (fun _ => false) l i E = E := by
        intro l; induction l with
        | nil => intro i E; rfl
        | cons a r ih => intro i E; simp [pt, ih]
      rw [e2]; exact lo_append_of_mem _ _ _ hk
    | succ j =>
      simp only [pt]
      exact pt_lastO r (i + 1) _ j x (by simpa using h) (by rw [show i + 1 + j = i + (j + 1) by omega]; exact hD) hk (fun j' y hj' hy hk' => by have := hl (j' + 1) y (by omega) (by simpa using hy) hk'; rw [show i + 1 + j' = i + (j' + 1) by omega]; exact this)

theorem hits_s {x y : Item} {k : Nat} (hx : k ∈ x.e.s.map (·.1)) (hy : k ∈ y.rs ∨ k ∈ y.e.s.map (·.1)) : hits x y = true := by
  obtain ⟨p, hp, rfl⟩ := List.mem_map.1 hx
  unfold hits
  rw [Bool.or_eq_true, Bool.or_eq_true]; left; left
  rw [anyB_iff]
  exact ⟨p, hp, by rw [Bool.or_eq_true, memB_iff, memB_iff]; exact hy⟩
theorem hits_o {x y : Item} {k : Nat} (hx : k ∈ x.e.o.map (·.1)) (hy : k ∈ y.ro ∨ k ∈ y.e.o.map (·.1)) : hits x y = true := by
  obtain ⟨p, hp, rfl⟩ := List.mem_map.1 hx
  unfold hits
  rw [Bool.or_eq_true, Bool.or_eq_true]; left; right
  rw [anyB_iff]
  exact ⟨p, hp, by rw [Bool.or_eq_true, memB_iff, memB_iff]; exact hy⟩
theorem hits_l {x y : Item} {d : Nat} (hx : d ∈ x.nl) (hy : says y.e d = true) : hits x y = true := by
  unfold hits
  rw [Bool.or_eq_true]; right
  rw [anyB_iff]; exact ⟨d, hx, hy⟩

theorem pt_mem {D : Nat → Bool} : ∀ (l : List Item) (i : Nat) (E : Env), (∀ x ∈ (pt D l i E).s, x ∈ E.s ∨ ∃ j y, l[j]? = some y ∧ D (i + j) = true ∧ x ∈ y.e.s) ∧ (∀ x ∈ (pt D l i E).o, x ∈ E.o ∨ ∃ j y, l[j]? = some y ∧ D (i + j) = true ∧ x ∈ y.e.o)
  | [], _, _ => ⟨fun _ h => .inl h, fun _ h => .inl h⟩
  | z :: r, i, E => by
    obtain ⟨h1, h2⟩ := pt_mem (D := D) r (i + 1) (if D i then E.app z.e else E)
    refine ⟨fun x hx => ?_, fun x hx => ?_⟩
    · rcases h1 x hx with h | ⟨j, y, hj, hD, hm⟩
      · cases hDi : D i with
        | true =>
          rw [hDi] at h
          simp only [if_true, Env.app, List.mem_append] at h
          rcases h with h | h
          · exact .inr ⟨0, z, by simp, by simpa using hDi, h⟩
          · exact .inl h
        | false => rw [hDi] at h; exact .inl (by simpa using h)
      · exact .inr ⟨j + 1, y, by simpa using hj, by rw [show i + (j + 1) = i + 1 + j by omega]; exact hD, hm⟩
    · rcases h2 x hx with h | ⟨j, y, hj, hD, hm⟩
      · cases hDi : D i with
        | true =>
          rw [hDi] at h
          simp only [if_true, Env.app, List.mem_append] at h
          rcases h with h | h
          · exact .inr ⟨0, z, by simp, by simpa using hDi, h⟩
          · exact .inl h
        | false => rw [hDi] at h; exact .inl (by simpa using h)
      · exact .inr ⟨j + 1, y, by simpa using hj, by rw [show i + (j + 1) = i + 1 + j by omega]; exact hD, hm⟩
theorem pt_noLab {D : Nat → Bool} {items : List Item} {E0 : Env} {d : Nat} (h0 : says E0 d = false) (h : ∀ j y, items[j]? = some y → D j = true → says y.e d = false) : NoLab (pt D items 0 E0) d := by
  obtain ⟨m1, m2⟩ := pt_mem (D := D) items 0 E0
  refine ⟨fun k hk => ?_, fun l ob hl hb p hp hk => ?_, fun hd => ⟨fun k => ?_, fun l ob hl => ?_⟩⟩
  · have hne : (lk (pt D items 0 E0).s k).v ≠ .any := by intro e; rw [e] at hk; simp [PV.labs] at hk
    rcases m1 _ (lk_mem hne) with hm | ⟨j, y, hj, hD, hm⟩
    · rw [says_s hm hk] at h0; cases h0
    · have := h j y hj (by simpa using hD); rw [says_s hm hk] at this; cases this
  · rcases m2 _ (lo_mem hl) with hm | ⟨j, y, hj, hD, hm⟩
    · rw [says_o hm hb hp hk] at h0; cases h0
    · have := h j y hj (by simpa using hD); rw [says_o hm hb hp hk] at this; cases this
  · cases hq : quiet (lk (pt D items 0 E0).s k) with
    | true => rfl
    | false =>
      have hne : (lk (pt D items 0 E0).s k).v ≠ .any := by intro e; simp [quiet, e, noRead] at hq
      rcases m1 _ (lk_mem hne) with hm | ⟨j, y, hj, hD, hm⟩
      · rw [hd, says_ps hm hq] at h0; cases h0
      · have := h j y hj (by simpa using hD); rw [hd, says_ps hm hq] at this; cases this
  · cases hq : quietO ob with
    | true => rfl
    | false =>
      rcases m2 _ (lo_mem hl) with hm | ⟨j, y, hj, hD, hm⟩
      · rw [hd, says_po hm hq] at h0; cases h0
      · have := h j y hj (by simpa using hD); rw [hd, says_po hm hq] at this; cases this

/-- Each operation's change, in the order of the text. -/
def Chain {P : Program} {N : Nat} (Γ : Ctx P N) (ops : Array Oper) (items : List Item) (E0 : Env) : Prop :=
  ∀ i x, items[i]? = some x → LocalAt Γ ops i (pt (fun j => Nat.blt j i) items 0 E0) x.e x.rs x.ro x.nl ∧ ∀ d ∈ x.nl, says E0 d = false ∧ ∀ j y, j < i → items[j]? = some y → says y.e d = false

theorem region_any {P : Program} {N : Nat} {Γ : Ctx P N} {ops : Array Oper} {items : List Item} {E0 : Env} {Q : Exit → Act → World → Prop}
    (hlen : items.length = ops.size) (hch : Chain Γ ops items E0) (hdep : depsOk (ancs ops.toList []) items items 0 = true) (hed : edgesOk ops.toList 0 = true)
    (hQ : ∀ a w, Sim Γ (pt (fun _ => true) items 0 E0) a w → Q .normal a w) :
    ∀ (fuel : Nat) (listed : Array Bool) (a : Act) (w : World), listed.size = ops.size → ((List.range ops.size).filter fun j => !listed.getD j false).length ≤ fuel →
      (∀ i j, listed.getD i false = true → ((ancs ops.toList []).getD i 0).testBit j = true → listed.getD j false = true) →
      Sim Γ (pt (fun j => listed.getD j false) items 0 E0) a w → wpAny P .any ops Q fuel listed a w := by
  -- nothing is ready: all has been done
  have hend : ∀ (listed : Array Bool) (a : Act) (w : World), listed.size = ops.size → Region.ready .any ops listed = [] → Sim Γ (pt (fun j => listed.getD j false) items 0 E0) a w → Q .normal a w := by
    intro listed a w hsz hr hs
    have hall : ∀ i, i < ops.size → listed.getD i false = true := by
      intro i
      induction i using Nat.strongRecOn with
      | _ i ih =>
        intro hi
        cases hx : listed.getD i false with
        | true => rfl
        | false =>
          exfalso
          have hm : i ∈ Region.ready .any ops listed := by
            rw [mem_ready]
            have ho : ops[i]? = some ops[i] := Array.getElem?_eq_getElem hi
            refine ⟨?_, ops[i], ho, fun e he hb => ?_⟩
            · simp only [Array.getD_eq_getD_getElem?] at hx ⊢
              rw [Array.getElem?_eq_getElem (by omega)] at hx ⊢; simpa using hx
            · have hlt := edgesOk_spec hed i ops[i] (by simp) e he hb
              rw [Nat.zero_add] at hlt
              exact ih e.on hlt (by omega)
          rw [hr] at hm; cases hm
    refine hQ a w (hs.congr (fun k => ?_) (fun l => ?_))
    · refine pt_lk items 0 E0 E0 (fun j x hx _ => ?_) rfl
      have : j < ops.size := by rw [← hlen]; exact (List.getElem?_eq_some_iff.1 hx).1
      simp only [Nat.zero_add]; rw [hall j this]
    · refine pt_lo items 0 E0 E0 (fun j x hx _ => ?_) rfl
      have : j < ops.size := by rw [← hlen]; exact (List.getElem?_eq_some_iff.1 hx).1
      simp only [Nat.zero_add]; rw [hall j this]
  intro fuel
  induction fuel with
  | zero =>
    intro listed a w hsz hc _ hs
    have hr : Region.ready .any ops listed = [] := by
      rw [List.eq_nil_iff_forall_not_mem]
      intro i hi
      obtain ⟨h1, o, ho, _⟩ := mem_ready.1 hi
      have hi' : i < ops.size := (Array.getElem?_eq_some_iff.1 ho).1
      have : i ∈ (List.range ops.size).filter fun j => !listed.getD j false := by
        rw [List.mem_filter]
        refine ⟨List.mem_range.2 hi', ?_⟩
        simp only [Array.getD_eq_getD_getElem?] at h1 ⊢
        rw [Array.getElem?_eq_getElem (by omega)] at h1 ⊢; simpa using h1
      rw [List.length_eq_zero_iff.1 (Nat.le_zero.1 hc)] at this; cases this
    exact ⟨hr, hend listed a w hsz hr hs⟩
  | succ fuel ih =>
    intro listed a w hsz hc hcl hs
    refine ⟨fun hr => hend listed a w hsz hr hs, fun i hi => ?_⟩
    obtain ⟨h1, o, ho, hedges⟩ := mem_ready.1 hi
    have hi' : i < ops.size := (Array.getElem?_eq_some_iff.1 ho).1
    have hun : listed.getD i false = false := by
      simp only [Array.getD_eq_getD_getElem?] at h1 ⊢
      rw [Array.getElem?_eq_getElem (by omega)] at h1 ⊢; simpa using h1
    obtain ⟨x, hx⟩ : ∃ x, items[i]? = some x := ⟨items[i]'(by omega), by simp⟩
    have hol : ops.toList[i]? = some o := by simpa using ho
    -- what stands before i has been done
    have hanc : ∀ j, ((ancs ops.toList []).getD i 0).testBit j = true → listed.getD j false = true := by
      intro j hj
      obtain ⟨e, he, hb, h2⟩ := ancs_spec' hol hj
      have h3 := hedges e he hb
      rcases h2 with rfl | h2
      · exact h3
      · exact hcl _ j h3 h2
    have hpast : ∀ j y, j < i → items[j]? = some y → (hits x y = true ∨ hits y x = true) → listed.getD j false = true := by
      intro j y hj hy hh
      refine hanc j ?_
      have := depsOk_spec hdep i x hx j y (by omega) hy hh
      simpa using this
    have hfut : ∀ j y, i < j → items[j]? = some y → (hits x y = true ∨ hits y x = true) → listed.getD j false = false := by
      intro j y hj hy hh
      cases hd : listed.getD j false with
      | false => rfl
      | true =>
        have := depsOk_spec hdep j y hy i x (by omega) hx hh.symm
        simp only [Nat.zero_add] at this
        rw [hcl j i hd this] at hun; cases hun
    have hsel : ∀ j y, items[j]? = some y → (hits x y = true ∨ hits y x = true) → j ≠ i → listed.getD j false = Nat.blt j i := by
      intro j y hy hh hne
      rcases Nat.lt_or_ge j i with h | h
      · rw [hpast j y h hy hh, (blt_iff _ _).2 h]
      · have hlt : i < j := by omega
        rw [hfut j y hlt hy hh]
        cases hbb : Nat.blt j i with
        | false => rfl
        | true => have := (blt_iff _ _).1 hbb; omega
    have hself : ∀ j, j = i → listed.getD j false = Nat.blt j i := by
      rintro j rfl
      rw [hun]
      cases hbb : Nat.blt j j with
      | false => rfl
      | true => have := (blt_iff _ _).1 hbb; omega
    have hst := (hch i x hx).1 (pt (fun j => listed.getD j false) items 0 E0)
      (fun k hk => pt_lk items 0 E0 E0 (fun j y hy hky => by
        simp only [Nat.zero_add]
        by_cases hji : j = i
        · exact hself j hji
        · exact hsel j y hy (.inr (hits_s hky (.inl hk))) hji) rfl)
      (fun l hl => pt_lo items 0 E0 E0 (fun j y hy hky => by
        simp only [Nat.zero_add]
        by_cases hji : j = i
        · exact hself j hji
        · exact hsel j y hy (.inr (hits_o hky (.inl hl))) hji) rfl)
      (fun d hd => pt_noLab ((hch i x hx).2 d hd).1 (fun j y hy hD => by
        rcases Nat.lt_trichotomy j i with hlt | heq | hgt
        · exact ((hch i x hx).2 d hd).2 j y hlt hy
        · subst heq; rw [hun] at hD; cases hD
        · cases hsy : says y.e d with
          | false => rfl
          | true => rw [hfut j y hgt hy (.inl (hits_l hd hsy))] at hD; cases hD))
    refine wpOp_mono (fun a' w' hs' => ?_) (hst a w hs Q)
    have hset : ∀ j, (listed.setIfInBounds i true).getD j false = (bif Nat.beq i j then true else listed.getD j false) := by
      intro j
      simp only [Array.getD_eq_getD_getElem?, beq_eq]
      by_cases hij : i = j
      · subst hij; simp [hsz, hi']
      · simp [Array.getElem?_setIfInBounds_ne hij, hij]
    refine ih (listed.setIfInBounds i true) a' w' (by simpa using hsz) ?_ ?_ ?_
    · have hlt : ((List.range ops.size).filter fun j => !(listed.setIfInBounds i true).getD j false).length < ((List.range ops.size).filter fun j => !listed.getD j false).length := by
        have e : ((List.range ops.size).filter fun j => !(listed.setIfInBounds i true).getD j false) = ((List.range ops.size).filter fun j => !listed.getD j false).filter (fun j => !Nat.beq i j) := by
          rw [List.filter_filter]
          congr 1; funext j; rw [hset]
          cases Nat.beq i j <;> simp
        rw [e, List.length_filter_lt_length_iff_exists]
        refine ⟨i, ?_, by simp⟩
        rw [List.mem_filter]; exact ⟨List.mem_range.2 hi', by rw [hun]; rfl⟩
      omega
    · intro i' j h2 h3
      rw [hset] at h2 ⊢
      have : listed.getD j false = true := by
        cases hb : Nat.beq i i' with
        | true =>
          have := Nat.eq_of_beq_eq_true hb
          subst this
          exact hanc j h3
        | false => rw [hb] at h2; exact hcl i' j h2 h3
      rw [this]; cases Nat.beq i j <;> rfl
    · refine hs'.congr (fun k => ?_) (fun l => ?_)
      · by_cases hk : k ∈ x.e.s.map (·.1)
        · simp only [Env.app]
          rw [lk_append_of_mem _ _ _ hk]
          refine pt_last items 0 E0 i x hx ?_ hk (fun j' y hj' hy hky => ?_)
          · rw [hset]; simp
          · rw [Nat.zero_add, hset, hfut j' y hj' hy (.inl (hits_s hk (.inr hky)))]
            rw [beq_eq, decide_eq_false (by omega)]; rfl
        · simp only [Env.app]
          rw [lk_append_of_not_mem _ _ _ hk]
          refine pt_lk items 0 E0 E0 (fun j y hy hky => ?_) rfl
          rw [Nat.zero_add, hset, beq_eq]
          by_cases hij : i = j
          · subst hij; rw [hx] at hy; cases hy; exact absurd hky hk
          · rw [decide_eq_false hij]; rfl
      · by_cases hk : l ∈ x.e.o.map (·.1)
        · simp only [Env.app]
          rw [lo_append_of_mem _ _ _ hk]
          refine pt_lastO items 0 E0 i x hx ?_ hk (fun j' y hj' hy hky => ?_)
          · rw [hset]; simp
          · rw [Nat.zero_add, hset, hfut j' y hj' hy (.inl (hits_o hk (.inr hky)))]
            rw [beq_eq, decide_eq_false (by omega)]; rfl
        · simp only [Env.app]
          rw [lo_append_of_not_mem _ _ _ hk]
          refine pt_lo items 0 E0 E0 (fun j y hy hky => ?_) rfl
          rw [Nat.zero_add, hset, beq_eq]
          by_cases hij : i = j
          · subst hij; rw [hx] at hy; cases hy; exact absurd hky hk
          · rw [decide_eq_false hij]; rfl
end Go.Ev
