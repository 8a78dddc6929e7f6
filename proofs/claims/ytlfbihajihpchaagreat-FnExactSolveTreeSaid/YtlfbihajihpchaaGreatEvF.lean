/- The engine, part F: the rules for single operations. -/
import Derived.Test.YtlfbihajihpchaaGreatEvE
import Derived.Laws.CopyRow
import Derived.ArgAppend
set_option linter.all false
namespace Go.Ev
open Go.RowKit (Below)

def strip : PV → PV
  | .was _ p => p
  | p => p
theorem RelV.strip {h : Array Obj} {β : Nat → Option (Option Nat)} {p : PV} {c : Value} {B : List Nat} (H : RelV h β p c B) : RelV h β (Ev.strip p) c B := by
  cases p with
  | was v q => simp only [RelV] at H; exact H.2
  | _ => exact H
def evq (S : List (Nat × Slot)) : Operand → Option PV
  | .tmp t => match lkq S t with
    | some ⟨v, _⟩ => some (strip v)
    | none => none
  | .const v => some (.sc v)
  | _ => none
def ors : Operand → List Nat
  | .tmp t => [t]
  | _ => []
def orsA : List Operand → List Nat
  | [] => []
  | .tmp t :: r => t :: orsA r
  | _ :: r => orsA r

/-- What a type is: its cells, its bytes, whether it is a struct or an array. -/
class TI (P : Program) (t : Nat) (n : outParam Nat) (agg : outParam Bool) (bytes : outParam Nat) : Prop where
  ok : (∃ i, P.info? t = some i ∧ i.size = n ∧ i.bytes = bytes) ∧ ∃ d, P.underlying t = some d ∧ (match d with | .struct _ | .array _ _ => true | _ => false) = agg
def tiB (P : Program) (t n : Nat) (agg : Bool) (bytes : Nat) : Bool :=
  match P.info? t, P.underlying t with
  | some i, some d => Nat.beq i.size n && Nat.beq i.bytes bytes && ((match d with | .struct _ | .array _ _ => true | _ => false) == agg)
  | _, _ => false
theorem TI.of {P : Program} {t n : Nat} {agg : Bool} {bytes : Nat} (h : tiB P t n agg bytes = true) : TI P t n agg bytes := by
  unfold tiB at h
  split at h
  · rename_i i d h1 h2
    simp only [Bool.and_eq_true, beq_iff_eq] at h
    exact ⟨⟨i, h1, Nat.eq_of_beq_eq_true h.1.1, Nat.eq_of_beq_eq_true h.1.2⟩, d, h2, h.2⟩
  · cases h
/-- What lies under a type. -/
class UT (P : Program) (t : Nat) (d : outParam TypeDesc) : Prop where
  ok : P.underlying t = some d
/-- A slice type and its elements' type. -/
class SlT (P : Program) (t : Nat) (e : outParam Nat) : Prop where
  ok : P.underlying t = some (.slice e)
class ArT (P : Program) (t : Nat) (len e : outParam Nat) : Prop where
  ok : P.underlying t = some (.array len e)
/-- Where a field lies. -/
class FldT (P : Program) (t f : Nat) (off : outParam Nat) : Prop where
  ok : ∃ fs fd i, P.underlying t = some (.struct fs) ∧ fs[f]? = some fd ∧ fd.offset = off ∧ P.info? fd.type = some i ∧ i.size ≠ 0
def fldB (P : Program) (t f off : Nat) : Bool :=
  match P.underlying t with
  | some (.struct fs) => match fs[f]? with
    | some fd => match P.info? fd.type with
      | some i => Nat.beq fd.offset off && !Nat.beq i.size 0
      | none => false
    | none => false
  | _ => false
theorem FldT.of {P : Program} {t f off : Nat} (h : fldB P t f off = true) : FldT P t f off := by
  unfold fldB at h
  split at h
  · rename_i fs h1
    split at h
    · rename_i fd h2
      split at h
      · rename_i i h3
        simp only [Bool.and_eq_true, Bool.not_eq_true'] at h
        refine ⟨fs, fd, i, h1, h2, Nat.eq_of_beq_eq_true h.1, h3, fun e => ?_⟩
        rw [e] at h; simp at h
      · cases h
    · cases h
  · cases h

section
variable {P : Program} {N : Nat} {Γ : Ctx P N} {S : List (Nat × Slot)} {O : List (Nat × Option Ob)}

theorem ev_rel {ow : Nat → Own} {β : Nat → Option (Option Nat)} {F : Env} {a : Act} {w : World} (h : SimG Γ ow β F a w) {x : Operand} {v : PV} (hv : evq S x = some v) (ha : ∀ k ∈ ors x, lk F.s k = lk S k) :
    ∃ B, RelV w.heap β v (a.eval x) B ∧ ∀ b ∈ B, Im Γ ow w b := by
  cases x with
  | tmp t =>
    simp only [evq] at hv
    cases hq : lkq S t with
    | none => rw [hq] at hv; cases hv
    | some sl =>
      rw [hq] at hv; cases hv
      obtain ⟨B, h1, h2, _⟩ := h.slots t
      rw [ha t (by simp [ors]), lkq_lk hq] at h1
      exact ⟨B, h1.strip, h2⟩
  | const u =>
    simp only [evq] at hv; cases hv
    exact ⟨[], by simp [RelV, Act.eval], by simp⟩
  | global g => cases hv
  | func f => cases hv

theorem ev_sc {F : Env} {a : Act} {w : World} (h : Sim Γ F a w) {x : Operand} {v : Value} (hv : evq S x = some (.sc v)) (ha : ∀ k ∈ ors x, lk F.s k = lk S k) : a.eval x = v := by
  obtain ⟨ow, β, h⟩ := h
  obtain ⟨B, h1, _⟩ := ev_rel h hv ha
  simp only [RelV] at h1
  exact h1.1

/-- The rule for an operation that computes one plain value from plain values. -/
theorem L_sc {o : Oper} {d : Nat} {v : Value} {rs : List Nat} (hd : o.dst = some d) (hn : Nat.blt d N = true)
    (h : ∀ (F : Env) (a : Act) (w : World), Sim Γ F a w → (∀ k ∈ rs, lk F.s k = lk S k) → (execOp a.eval o).run P w = .ok (.value v) w) :
    Local Γ o ⟨S, O⟩ ⟨[(d, ⟨.sc v, false⟩)], []⟩ rs [] [] := by
  intro F hs _ _
  refine opT_of_run fun a w hsim => ⟨v, w, h F a w hsim hs, ?_⟩
  obtain ⟨ow, β, hsim⟩ := hsim
  rw [hd]
  exact ⟨ow, β, hsim.put ((blt_iff _ _).1 hn) (O := []) (by simp [RelV]) (by simp)⟩

/-- The rule for an operation that hands a value on. -/
theorem L_pass {o : Oper} {d : Nat} {x : Operand} {v : PV} {rs : List Nat} (hd : o.dst = some d) (hn : Nat.blt d N = true) (hv : evq S x = some v) (hr : ∀ k ∈ ors x, k ∈ rs)
    (h : ∀ (F : Env) (a : Act) (w : World), Sim Γ F a w → (∀ k ∈ rs, lk F.s k = lk S k) → (execOp a.eval o).run P w = .ok (.value (a.eval x)) w) :
    Local Γ o ⟨S, O⟩ ⟨[(d, ⟨v, false⟩)], []⟩ rs [] [] := by
  intro F hs _ _
  refine opT_of_run fun a w hsim => ⟨a.eval x, w, h F a w hsim hs, ?_⟩
  obtain ⟨ow, β, hsim⟩ := hsim
  obtain ⟨B, h1, h2⟩ := ev_rel hsim hv (fun k hk => hs k (hr k hk))
  rw [hd]
  exact ⟨ow, β, hsim.put ((blt_iff _ _).1 hn) h1 h2⟩

variable {d : Nat} {ty : TypeId} {pos : String} {af : Array Edge} {g : Option (Nat × Bool)}

theorem L_mov {x : Operand} {v : PV} (hv : evq S x = some v) (hd : Nat.blt d N = true) : Local Γ ⟨some d, .move x, ty, pos, af, g⟩ ⟨S, O⟩ ⟨[(d, ⟨v, false⟩)], []⟩ (ors x) [] [] :=
  L_pass rfl hd hv (fun _ h => h) fun F a w _ _ => by simp [execOp]
theorem L_asg {x : Operand} {v : PV} (hv : evq S x = some v) (hd : Nat.blt d N = true) : Local Γ ⟨some d, .assign x, ty, pos, af, g⟩ ⟨S, O⟩ ⟨[(d, ⟨v, false⟩)], []⟩ (ors x) [] [] :=
  L_pass rfl hd hv (fun _ h => h) fun F a w _ _ => by simp [execOp]
theorem L_take {o : Oper} {s : Nat} {v : PV} {dp : Bool} (ho : o.dst = some d) (hop : ∀ ρ, execOp ρ o = pure (.value (ρ (.tmp s)))) (hv : lkq S s = some ⟨v, dp⟩) (hd : Nat.blt d N = true) (hne : Nat.beq d s = false) :
    Local Γ o ⟨S, O⟩ ⟨[(d, ⟨v, dp⟩), (s, ⟨.any, false⟩)], []⟩ [s] [] [] := by
  intro F hs _ _
  refine opT_of_run fun a w hsim => ⟨a.eval (.tmp s), w, by rw [hop]; simp, ?_⟩
  obtain ⟨ow, β, hsim⟩ := hsim
  rw [ho]
  obtain ⟨ow', h⟩ := hsim.take (s := s) ((blt_iff _ _).1 hd) (fun e => by rw [beq_eq] at hne; simp at hne; exact hne e) (v := v) (dp := dp) ((hs s (by simp)).trans (lkq_lk hv))
  exact ⟨ow', β, h⟩
theorem L_movT {s : Nat} {v : PV} {dp : Bool} (hv : lkq S s = some ⟨v, dp⟩) (hd : Nat.blt d N = true) (hne : Nat.beq d s = false) :
    Local Γ ⟨some d, .move (.tmp s), ty, pos, af, g⟩ ⟨S, O⟩ ⟨[(d, ⟨v, dp⟩), (s, ⟨.any, false⟩)], []⟩ [s] [] [] := L_take rfl (fun ρ => by simp [execOp]) hv hd hne
theorem L_asgT {s : Nat} {v : PV} {dp : Bool} (hv : lkq S s = some ⟨v, dp⟩) (hd : Nat.blt d N = true) (hne : Nat.beq d s = false) :
    Local Γ ⟨some d, .assign (.tmp s), ty, pos, af, g⟩ ⟨S, O⟩ ⟨[(d, ⟨v, dp⟩), (s, ⟨.any, false⟩)], []⟩ [s] [] [] := L_take rfl (fun ρ => by simp [execOp]) hv hd hne

theorem L_pickT {c x y : Operand} {v : PV} (hc : evq S c = some (.sc (.bool true))) (hv : evq S x = some v) (hd : Nat.blt d N = true) : Local Γ ⟨some d, .pick c x y, ty, pos, af, g⟩ ⟨S, O⟩ ⟨[(d, ⟨v, false⟩)], []⟩ (ors c ++ ors x) [] [] :=
  L_pass rfl hd hv (fun _ h => by simp [h]) fun F a w hsim hs => by
    have := ev_sc hsim hc (fun k hk => hs k (by simp [hk]))
    simp [execOp, this, asBool]
theorem L_pickF {c x y : Operand} {v : PV} (hc : evq S c = some (.sc (.bool false))) (hv : evq S y = some v) (hd : Nat.blt d N = true) : Local Γ ⟨some d, .pick c x y, ty, pos, af, g⟩ ⟨S, O⟩ ⟨[(d, ⟨v, false⟩)], []⟩ (ors c ++ ors y) [] [] :=
  L_pass rfl hd hv (fun _ h => by simp [h]) fun F a w hsim hs => by
    have := ev_sc hsim hc (fun k hk => hs k (by simp [hk]))
    simp [execOp, this, asBool]

theorem L_not {x : Operand} {u : TypeId} {b : Bool} (hx : evq S x = some (.sc (.bool b))) (hd : Nat.blt d N = true) : Local Γ ⟨some d, .unOp .not u x, ty, pos, af, g⟩ ⟨S, O⟩ ⟨[(d, ⟨.sc (.bool (!b)), false⟩)], []⟩ (ors x) [] [] :=
  L_sc rfl hd fun F a w hsim hs => by
    have := ev_sc hsim hx hs
    simp [execOp, this, Op.unary]
theorem L_neg {x : Operand} {u : TypeId} {k : IntKind} {n r : Int} (hx : evq S x = some (.sc (.int k n))) (hr : k.wrap (0 - n) = r) (hd : Nat.blt d N = true) : Local Γ ⟨some d, .unOp .neg u x, ty, pos, af, g⟩ ⟨S, O⟩ ⟨[(d, ⟨.sc (.int k r), false⟩)], []⟩ (ors x) [] [] :=
  L_sc rfl hd fun F a w hsim hs => by
    have := ev_sc hsim hx hs
    subst hr
    simp [execOp, this, Op.unary, Op.intArith]

section bin
variable {x y : Operand} {u u' : TypeId}
theorem L_bin {op : BinOp} {a0 b0 c : Value} (hx : evq S x = some (.sc a0)) (hy : evq S y = some (.sc b0)) (hd : Nat.blt d N = true)
    (h : ∀ w, (do eqGuard op u x y a0 b0; binOp op u a0 b0 : Sem Value).run P w = .ok c w) : Local Γ ⟨some d, .binOp op u x y u', ty, pos, af, g⟩ ⟨S, O⟩ ⟨[(d, ⟨.sc c, false⟩)], []⟩ (ors x ++ ors y) [] [] :=
  L_sc rfl hd fun F a w hsim hs => by
    have h1 := ev_sc hsim hx (fun k hk => hs k (by simp [hk]))
    have h2 := ev_sc hsim hy (fun k hk => hs k (by simp [hk]))
    have h3 := h w
    simp only [execOp, h1, h2]
    rw [Sem.run_bind, h3]; rfl

variable {k : IntKind} {m n r : Int}
theorem ibeq (m n : Int) : (m == n) = decide (m = n) := by by_cases h : m = n <;> simp [h]
theorem L_add (hx : evq S x = some (.sc (.int k m))) (hy : evq S y = some (.sc (.int k n))) (hr : k.wrap (m + n) = r) (hd : Nat.blt d N = true) :
    Local Γ ⟨some d, .binOp .add u x y u', ty, pos, af, g⟩ ⟨S, O⟩ ⟨[(d, ⟨.sc (.int k r), false⟩)], []⟩ (ors x ++ ors y) [] [] :=
  L_bin hx hy hd fun w => by subst hr; simp [eqGuard, binOp, Op.intArith]
theorem L_sub (hx : evq S x = some (.sc (.int k m))) (hy : evq S y = some (.sc (.int k n))) (hr : k.wrap (m - n) = r) (hd : Nat.blt d N = true) :
    Local Γ ⟨some d, .binOp .sub u x y u', ty, pos, af, g⟩ ⟨S, O⟩ ⟨[(d, ⟨.sc (.int k r), false⟩)], []⟩ (ors x ++ ors y) [] [] :=
  L_bin hx hy hd fun w => by subst hr; simp [eqGuard, binOp, Op.intArith]
theorem L_mul (hx : evq S x = some (.sc (.int k m))) (hy : evq S y = some (.sc (.int k n))) (hr : k.wrap (m * n) = r) (hd : Nat.blt d N = true) :
    Local Γ ⟨some d, .binOp .mul u x y u', ty, pos, af, g⟩ ⟨S, O⟩ ⟨[(d, ⟨.sc (.int k r), false⟩)], []⟩ (ors x ++ ors y) [] [] :=
  L_bin hx hy hd fun w => by subst hr; simp [eqGuard, binOp, Op.intArith]
theorem L_quo (hx : evq S x = some (.sc (.int k m))) (hy : evq S y = some (.sc (.int k n))) (hn : n ≠ 0) (hr : k.wrap (m.tdiv n) = r) (hd : Nat.blt d N = true) :
    Local Γ ⟨some d, .binOp .quo u x y u', ty, pos, af, g⟩ ⟨S, O⟩ ⟨[(d, ⟨.sc (.int k r), false⟩)], []⟩ (ors x ++ ors y) [] [] :=
  L_bin hx hy hd fun w => by subst hr; simp [eqGuard, binOp, Op.intDiv, hn]
theorem L_rem (hx : evq S x = some (.sc (.int k m))) (hy : evq S y = some (.sc (.int k n))) (hn : n ≠ 0) (hr : m.tmod n = r) (hd : Nat.blt d N = true) :
    Local Γ ⟨some d, .binOp .rem u x y u', ty, pos, af, g⟩ ⟨S, O⟩ ⟨[(d, ⟨.sc (.int k r), false⟩)], []⟩ (ors x ++ ors y) [] [] :=
  L_bin hx hy hd fun w => by subst hr; simp [eqGuard, binOp, Op.intDiv, hn]
theorem L_eql (hx : evq S x = some (.sc (.int k m))) (hy : evq S y = some (.sc (.int k n))) (hd : Nat.blt d N = true) :
    Local Γ ⟨some d, .binOp .eql u x y u', ty, pos, af, g⟩ ⟨S, O⟩ ⟨[(d, ⟨.sc (.bool (decide (m = n))), false⟩)], []⟩ (ors x ++ ors y) [] [] :=
  L_bin hx hy hd fun w => by simp [eqGuard, binOp, Op.intCmp]; exact ibeq m n
theorem L_neq (hx : evq S x = some (.sc (.int k m))) (hy : evq S y = some (.sc (.int k n))) (hd : Nat.blt d N = true) :
    Local Γ ⟨some d, .binOp .neq u x y u', ty, pos, af, g⟩ ⟨S, O⟩ ⟨[(d, ⟨.sc (.bool (decide (m ≠ n))), false⟩)], []⟩ (ors x ++ ors y) [] [] :=
  L_bin hx hy hd fun w => by simp [eqGuard, binOp, Op.intCmp, bne]; exact ibeq m n
theorem L_lss (hx : evq S x = some (.sc (.int k m))) (hy : evq S y = some (.sc (.int k n))) (hd : Nat.blt d N = true) :
    Local Γ ⟨some d, .binOp .lss u x y u', ty, pos, af, g⟩ ⟨S, O⟩ ⟨[(d, ⟨.sc (.bool (decide (m < n))), false⟩)], []⟩ (ors x ++ ors y) [] [] :=
  L_bin hx hy hd fun w => by simp [eqGuard, binOp, Op.intCmp]
theorem L_leq (hx : evq S x = some (.sc (.int k m))) (hy : evq S y = some (.sc (.int k n))) (hd : Nat.blt d N = true) :
    Local Γ ⟨some d, .binOp .leq u x y u', ty, pos, af, g⟩ ⟨S, O⟩ ⟨[(d, ⟨.sc (.bool (decide (m ≤ n))), false⟩)], []⟩ (ors x ++ ors y) [] [] :=
  L_bin hx hy hd fun w => by simp [eqGuard, binOp, Op.intCmp]
theorem L_gtr (hx : evq S x = some (.sc (.int k m))) (hy : evq S y = some (.sc (.int k n))) (hd : Nat.blt d N = true) :
    Local Γ ⟨some d, .binOp .gtr u x y u', ty, pos, af, g⟩ ⟨S, O⟩ ⟨[(d, ⟨.sc (.bool (decide (n < m))), false⟩)], []⟩ (ors x ++ ors y) [] [] :=
  L_bin hx hy hd fun w => by simp [eqGuard, binOp, Op.intCmp]
theorem L_geq (hx : evq S x = some (.sc (.int k m))) (hy : evq S y = some (.sc (.int k n))) (hd : Nat.blt d N = true) :
    Local Γ ⟨some d, .binOp .geq u x y u', ty, pos, af, g⟩ ⟨S, O⟩ ⟨[(d, ⟨.sc (.bool (decide (n ≤ m))), false⟩)], []⟩ (ors x ++ ors y) [] [] :=
  L_bin hx hy hd fun w => by simp [eqGuard, binOp, Op.intCmp]
variable {s t : ByteArray}
theorem L_beql {p q : Bool} [hu : UT P u .bool] (hx : evq S x = some (.sc (.bool p))) (hy : evq S y = some (.sc (.bool q))) (hd : Nat.blt d N = true) :
    Local Γ ⟨some d, .binOp .eql u x y u', ty, pos, af, g⟩ ⟨S, O⟩ ⟨[(d, ⟨.sc (.bool (p == q)), false⟩)], []⟩ (ors x ++ ors y) [] [] :=
  L_bin hx hy hd fun w => by simp [eqGuard, run_eql_bool w u p q hu.ok]
theorem L_bneq {p q : Bool} [hu : UT P u .bool] (hx : evq S x = some (.sc (.bool p))) (hy : evq S y = some (.sc (.bool q))) (hd : Nat.blt d N = true) :
    Local Γ ⟨some d, .binOp .neq u x y u', ty, pos, af, g⟩ ⟨S, O⟩ ⟨[(d, ⟨.sc (.bool (!(p == q))), false⟩)], []⟩ (ors x ++ ors y) [] [] :=
  L_bin hx hy hd fun w => by simp [eqGuard, run_neq_bool w u p q hu.ok]
end bin

/-- The truth of a test, parted at once. -/
theorem R_dec {ops rest : List Oper} {K : List Item → Env → Prop} {acc : List Item} {o : Oper} {p : Prop} {_hp : Decidable p} {rs ro gs : List Nat} (hl : Local Γ o ⟨S, O⟩ ⟨[(d, ⟨.sc (.bool (decide p)), false⟩)], []⟩ rs ro []) (hg : gd N ops S true o.guard = some gs)
    (ht : p → Run Γ ops K rest (⟨⟨[(d, ⟨.sc (.bool true), false⟩)], []⟩, gs ++ rs, ro, []⟩ :: acc) ⟨(d, ⟨.sc (.bool true), false⟩) :: S, O⟩)
    (hf : ¬ p → Run Γ ops K rest (⟨⟨[(d, ⟨.sc (.bool false), false⟩)], []⟩, gs ++ rs, ro, []⟩ :: acc) ⟨(d, ⟨.sc (.bool false), false⟩) :: S, O⟩) : Run Γ ops K (o :: rest) acc ⟨S, O⟩ := by
  by_cases h : p
  · rw [decide_eq_true h] at hl; exact Run.op hl hg rfl (ht h)
  · rw [decide_eq_false h] at hl; exact Run.op hl hg rfl (hf h)
theorem R_bool {ops rest : List Oper} {K : List Item → Env → Prop} {acc : List Item} {o : Oper} {b dp : Bool} {rs ro gs : List Nat} (hl : Local Γ o ⟨S, O⟩ ⟨[(d, ⟨.sc (.bool b), dp⟩)], []⟩ rs ro []) (hg : gd N ops S true o.guard = some gs)
    (ht : b = true → Run Γ ops K rest (⟨⟨[(d, ⟨.sc (.bool true), dp⟩)], []⟩, gs ++ rs, ro, []⟩ :: acc) ⟨(d, ⟨.sc (.bool true), dp⟩) :: S, O⟩)
    (hf : b = false → Run Γ ops K rest (⟨⟨[(d, ⟨.sc (.bool false), dp⟩)], []⟩, gs ++ rs, ro, []⟩ :: acc) ⟨(d, ⟨.sc (.bool false), dp⟩) :: S, O⟩) : Run Γ ops K (o :: rest) acc ⟨S, O⟩ := by
  cases b
  · exact Run.op hl hg rfl (hf rfl)
  · exact Run.op hl hg rfl (ht rfl)
theorem L_conv {x : Operand} {src dst : TypeId} {k q : IntKind} {n r : Int} {ds : TypeDesc} [hs : UT P src ds] [ht : UT P dst (.int q)] (hx : evq S x = some (.sc (.int k n))) (hr : q.wrap n = r) (hd : Nat.blt d N = true) :
    Local Γ ⟨some d, .convert src dst x, ty, pos, af, g⟩ ⟨S, O⟩ ⟨[(d, ⟨.sc (.int q r), false⟩)], []⟩ (ors x) [] [] :=
  L_sc rfl hd fun F a w hsim hl => by
    have := ev_sc hsim hx hl
    subst hr
    simp [execOp, this, convert, run_underlying ht.ok, run_underlying hs.ok, Conv.intToInt]

theorem rel_slice {h : Array Obj} {β : Nat → Option (Option Nat)} {n : Nat} {cells : List PV} {c : Value} {B : List Nat} (H : RelV h β (.sl n cells) c B) : ∃ a cap, c = .slice a n cap := by
  simp only [RelV] at H
  rcases H with ⟨rfl, _, _, a, cap, rfl⟩ | ⟨b, off, cap, _, _, _, _, ⟨rfl, _⟩, _⟩
  · exact ⟨a, cap, rfl⟩
  · exact ⟨_, cap, rfl⟩
theorem run_len {t ty : TypeId} {e : Nat} (ht : P.underlying t = some (.slice e)) (a : Option Addr) (n cap : Nat) (w : World) : (Builtin.len_ #[t] ty #[.slice a n cap]).run P w = .ok (.int .i64 n) w := by
  simp [Builtin.len_, run_underlying ht, goInt]
theorem L_len {x : Operand} {t e : Nat} [ht : SlT P t e] {n : Nat} {cells : List PV} (hx : evq S x = some (.sl n cells)) (hd : Nat.blt d N = true) :
    Local Γ ⟨some d, .call ⟨.builtin .len, #[x], #[t]⟩, ty, pos, af, g⟩ ⟨S, O⟩ ⟨[(d, ⟨.sc (.int .i64 n), false⟩)], []⟩ (ors x) [] [] :=
  L_sc rfl hd fun F a w hsim hs => by
    obtain ⟨ow, β, hsim⟩ := hsim
    obtain ⟨B, h1, _⟩ := ev_rel hsim hx hs
    obtain ⟨ad, cap, h2⟩ := rel_slice h1
    simp [execOp, resolve, invoke, builtin, h2, run_len ht.ok]
theorem L_lenR {x : Operand} {t e : Nat} [ht : SlT P t e] {l s off n : Nat} {ob : Ob} (hx : evq S x = some (.ref l s off n)) (ho : loq O l = some ob) (hd : Nat.blt d N = true) :
    Local Γ ⟨some d, .call ⟨.builtin .len, #[x], #[t]⟩, ty, pos, af, g⟩ ⟨S, O⟩ ⟨[(d, ⟨.sc (.int .i64 n), false⟩)], []⟩ (ors x) [l] [] := by
  intro F hs hl _
  refine opT_of_run fun a w hsim => ⟨.int .i64 n, w, ?_, ?_⟩
  · obtain ⟨ow, β, hsim⟩ := hsim
    obtain ⟨B, h1, _⟩ := ev_rel hsim hx hs
    simp only [RelV] at h1
    obtain ⟨_, _, _, hob⟩ := hsim.objs l ob (by rw [hl l (by simp), ← loq_lo]; exact ho)
    have h2 : ∃ ad cap, a.eval x = .slice ad n cap := by
      rcases hob with ⟨g1, _⟩ | ⟨b, cs, t, g1, _⟩
      · obtain ⟨rfl, _, e⟩ := h1.2.1 g1; exact ⟨_, _, e⟩
      · obtain ⟨cap, _, _, e, _⟩ := h1.2.2 b g1; exact ⟨_, _, e⟩
    obtain ⟨ad, cap, h2⟩ := h2
    simp [execOp, resolve, invoke, builtin, h2, run_len ht.ok]
  · obtain ⟨ow, β, hsim⟩ := hsim
    exact ⟨ow, β, hsim.put ((blt_iff _ _).1 hd) (O := []) (by simp [RelV]) (by simp)⟩
theorem L_max {x y : Operand} {t t' : Nat} {k k' : IntKind} {m n : Int} (hx : evq S x = some (.sc (.int k m))) (hy : evq S y = some (.sc (.int k' n))) (hd : Nat.blt d N = true) :
    Local Γ ⟨some d, .call ⟨.builtin .max, #[x, y], #[t, t']⟩, ty, pos, af, g⟩ ⟨S, O⟩ ⟨[(d, ⟨.sc (.int k (max m n)), false⟩)], []⟩ (ors x ++ ors y) [] [] :=
  L_sc rfl hd fun F a w hsim hs => by
    have h1 := ev_sc hsim hx (fun k hk => hs k (by simp [hk]))
    have h2 := ev_sc hsim hy (fun k hk => hs k (by simp [hk]))
    have e : (if n > m then n else m) = max m n := by omega
    simp [execOp, resolve, invoke, builtin, h1, h2, run_max_int2]
    exact e
end
end Go.Ev
