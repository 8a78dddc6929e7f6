/- The engine, part S: what a lifted function is made of; loops and cuts that go by it. -/
import Derived.Test.YtlfbihajihpchaaGreatEvR
set_option linter.all false
namespace Go.Ev
open Go.RowKit (Below)

/-- the element at an index -/
def idx {α : Type} (l : List α) (j : Int) : Option α := if 0 ≤ j then l[j.toNat]? else none
/-- l[a:b] -/
def sub {α : Type} (l : List α) (a b : Int) : Option (List α) := if 0 ≤ a ∧ a ≤ b ∧ b ≤ l.length then some ((l.drop a.toNat).take (b - a).toNat) else none
def setI {α : Type} (l : List α) (j : Int) (y : α) : List α := l.set j.toNat y
/-- a condition that must hold -/
def chk (p : Prop) [Decidable p] : Option Unit := if p then some () else none

section lift
variable {α β : Type}
theorem bindS {o : Option α} {K : α → Option β} {r : β} (H : o.bind K = some r) : ∃ x, o = some x ∧ K x = some r := by
  cases o with
  | none => cases H
  | some x => exact ⟨x, rfl, H⟩
theorem ifT {c : Prop} {_ : Decidable c} {a b : Option α} {r : α} (h : c) (H : (if c then a else b) = some r) : a = some r := by rw [if_pos h] at H; exact H
theorem ifF {c : Prop} {_ : Decidable c} {a b : Option α} {r : α} (h : ¬ c) (H : (if c then a else b) = some r) : b = some r := by rw [if_neg h] at H; exact H
theorem ifTb {c : Bool} {a b : Option α} {r : α} (h : c = true) (H : (if c = true then a else b) = some r) : a = some r := by rw [if_pos h] at H; exact H
theorem ifFb {c : Bool} {a b : Option α} {r : α} (h : c = false) (H : (if c = true then a else b) = some r) : b = some r := by rw [h] at H; exact H
theorem idxS {l : List α} {j : Int} {y : α} (h : idx l j = some y) : 0 ≤ j ∧ l[j.toNat]? = some y ∧ j.toNat < l.length := by
  unfold idx at h
  by_cases hj : 0 ≤ j
  · rw [if_pos hj] at h; exact ⟨hj, h, (List.getElem?_eq_some_iff.1 h).1⟩
  · rw [if_neg hj] at h; cases h
theorem chkS {p : Prop} {_ : Decidable p} {u : Unit} (h : chk p = some u) : p := by
  unfold chk at h
  by_cases hp : p
  · exact hp
  · rw [if_neg hp] at h; cases h

section loops
variable {σ ρ : Type}
inductive Reach (step : σ → Option (σ ⊕ ρ)) : σ → ρ → Nat → Prop
  | done {s : σ} {r : ρ} : step s = some (.inr r) → Reach step s r 0
  | more {s s' : σ} {r : ρ} {n : Nat} : step s = some (.inl s') → Reach step s' r n → Reach step s r (n + 1)
theorem Reach.det {step : σ → Option (σ ⊕ ρ)} {s : σ} {r r' : ρ} {n n' : Nat} (h : Reach step s r n) (h' : Reach step s r' n') : r = r' := by
  induction h generalizing n' with
  | done e => cases h' with
    | done e' => rw [e] at e'; cases e'; rfl
    | more e' _ => rw [e] at e'; cases e'
  | more e _ ih => cases h' with
    | done e' => rw [e] at e'; cases e'
    | more e' g => rw [e] at e'; cases e'; exact ih g
open Classical in
/-- a step is taken until it leaves; none, where that never comes -/
noncomputable def lp (step : σ → Option (σ ⊕ ρ)) (s : σ) : Option ρ := if h : ∃ r n, Reach step s r n then some h.choose else none
theorem lp_some {step : σ → Option (σ ⊕ ρ)} {s : σ} {r : ρ} : lp step s = some r ↔ ∃ n, Reach step s r n := by
  unfold lp
  constructor
  · intro h
    split at h
    · rename_i hx; cases h; exact hx.choose_spec
    · cases h
  · rintro ⟨n, h⟩
    rw [dif_pos ⟨r, n, h⟩]
    have hx : ∃ r n, Reach step s r n := ⟨r, n, h⟩
    obtain ⟨m, hm⟩ := hx.choose_spec
    exact congrArg some (hm.det h)
theorem lp_done {step : σ → Option (σ ⊕ ρ)} {s : σ} {r : ρ} (h : step s = some (.inr r)) : lp step s = some r := lp_some.2 ⟨0, .done h⟩
theorem lp_more {step : σ → Option (σ ⊕ ρ)} {s s' : σ} (h : step s = some (.inl s')) : lp step s = lp step s' := by
  apply Option.ext
  intro r
  rw [lp_some, lp_some]
  constructor
  · rintro ⟨n, hn⟩
    cases hn with
    | done e => rw [h] at e; cases e
    | more e g => rw [h] at e; cases e; exact ⟨_, g⟩
  · rintro ⟨n, hn⟩; exact ⟨n + 1, .more h hn⟩
end loops
end lift

section
variable {P : Program} {N : Nat} {Γ : Ctx P N} {E : Env} {Q : Exit → Env → Prop}
/-- A round of a lifted loop: it comes back with the next state, or leaves with what it yields. -/
def LRound {σ ρ : Type} (Γ : Ctx P N) (Es : σ → Env) (Xe : ρ → Exit → Env → Prop) (o : σ ⊕ ρ) : Exit → Env → Prop
  | .normal, E => ∃ s', o = .inl s' ∧ Ent Γ E (Es s')
  | e, E => ∃ x, o = .inr x ∧ Xe x e E
theorem CodeT.lloop {σ ρ : Type} {step : σ → Option (σ ⊕ ρ)} {s0 : σ} {x : ρ} {c : Code} (Es : σ → Env) (Xe : ρ → Exit → Env → Prop) (hx : lp step s0 = some x) (he : Ent Γ E (Es s0))
    (hr : ∀ s o, step s = some o → CodeT Γ c (Es s) (LRound Γ Es Xe o)) (hq : ∀ e E', Xe x e E' → Q e E') : CodeT Γ (.loop c) E Q := by
  obtain ⟨n, hn⟩ := lp_some.1 hx
  refine CodeT.loop (fun m E => ∃ s, E = Es s ∧ Reach step s x m) n (Es s0) he ⟨s0, rfl, hn⟩ ?_
  rintro m E' ⟨s, rfl, hs⟩
  cases hs with
  | done e =>
    refine (hr s _ e).mono fun ex E' h => ?_
    cases ex with
    | normal => obtain ⟨s', h1, _⟩ := h; cases h1
    | exit i => obtain ⟨y, h1, h2⟩ := h; cases h1; exact hq _ _ h2
    | goto i => obtain ⟨y, h1, h2⟩ := h; cases h1; exact hq _ _ h2
    | ret => obtain ⟨y, h1, h2⟩ := h; cases h1; exact hq _ _ h2
    | panic i => obtain ⟨y, h1, h2⟩ := h; cases h1; exact hq _ _ h2
    | outgrown => obtain ⟨y, h1, h2⟩ := h; cases h1; exact hq _ _ h2
  | @more _ s' _ k e g =>
    refine (hr s _ e).mono fun ex E' h => ?_
    cases ex with
    | normal =>
      obtain ⟨s2, h1, h2⟩ := h; cases h1
      exact ⟨k, Es s', by omega, h2, s', rfl, g⟩
    | exit i => obtain ⟨y, h1, h2⟩ := h; cases h1
    | goto i => obtain ⟨y, h1, h2⟩ := h; cases h1
    | ret => obtain ⟨y, h1, h2⟩ := h; cases h1
    | panic i => obtain ⟨y, h1, h2⟩ := h; cases h1
    | outgrown => obtain ⟨y, h1, h2⟩ := h; cases h1
/-- A part whose ways meet again. -/
def LCut {ρ : Type} (Xe : ρ → Exit → Env → Prop) (x : ρ) : Exit → Env → Prop := fun e E => Xe x e E
theorem CodeT.lcut {ρ : Type} {x : ρ} {c : Code} (Xe : ρ → Exit → Env → Prop) (hc : CodeT Γ c E (LCut Xe x)) (hq : ∀ e E', Xe x e E' → Q e E') : CodeT Γ c E Q := hc.mono hq
section
variable {σ ρ : Type} {Es : σ → Env} {Xe : ρ → Exit → Env → Prop} {s' : σ} {x : ρ} {i : Nat}
theorem y1 (h : Ent Γ E (Es s')) : LRound Γ Es Xe (.inl s') .normal E := ⟨s', rfl, h⟩
theorem y2 (h : Xe x .ret E) : LRound Γ Es Xe (.inr x) .ret E := ⟨x, rfl, h⟩
theorem y3 (h : Xe x (.exit i) E) : LRound Γ Es Xe (.inr x) (.exit i) E := ⟨x, rfl, h⟩
theorem y4 {e : Exit} (h : Xe x e E) : LCut Xe x e E := h
end
/-- What an exit of a part is said to be: how it leaves, and to which environment. -/
def XEnv (Γ : Ctx P N) (e0 : Exit) (E0 : Env) (e : Exit) (E : Env) : Prop := e = e0 ∧ Ent Γ E E0
def XRet (Γ : Ctx P N) (rs : Array ResultVar) (r : PV) (deep : Bool) (e : Exit) (E : Env) : Prop := e = .ret ∧ RetIs Γ rs E r deep
theorem XEnv.out {e0 e : Exit} {E0 E : Env} (h : XEnv Γ e0 E0 e E) : e = e0 ∧ Ent Γ E E0 := h
theorem XRet.out {rs : Array ResultVar} {r : PV} {deep : Bool} {e : Exit} {E : Env} (h : XRet Γ rs r deep e E) : e = .ret ∧ RetIs Γ rs E r deep := h
theorem XEnv.mk {e : Exit} {E0 : Env} (h : Ent Γ E E0) : XEnv Γ e E0 e E := ⟨rfl, h⟩
theorem XRet.mk {rs : Array ResultVar} {r : PV} {deep : Bool} (h : RetIs Γ rs E r deep) : XRet Γ rs r deep .ret E := ⟨rfl, h⟩
end
end Go.Ev
