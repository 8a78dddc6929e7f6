/- The engine, part C: code, calls, results. -/
import Derived.Test.YtlfbihajihpchaaGreatEvB
set_option linter.all false
namespace Go.Ev
open Go.RowKit (Below)

def dstAny (o : Oper) : List (Nat × Slot) := match o.dst with
  | some d => [(d, ⟨.sc (.tuple #[]), false⟩)]
  | none => []

def noneSays (E : Env) : List Nat → Bool
  | [] => true
  | d :: r => bif says E d then false else noneSays E r
theorem noneSays_spec {E : Env} : ∀ {l : List Nat}, noneSays E l = true → ∀ d ∈ l, says E d = false
  | [], _, d, hd => by cases hd
  | x :: r, h, d, hd => by
    simp only [noneSays] at h
    cases hx : says E x with
    | true => rw [hx] at h; cases h
    | false =>
      rw [hx] at h
      rcases List.mem_cons.1 hd with rfl | hd
      · exact hx
      · exact noneSays_spec h d hd
theorem says_app {E e : Env} {d : Nat} (h : says (E.app e) d = false) : says E d = false ∧ says e d = false := by
  have hs : ∀ (a b : List (Nat × Slot)), saysS (a ++ b) d = (saysS a d || saysS b d) := by
    intro a b; unfold saysS
    induction a with
    | nil => simp [anyB]
    | cons x r ih => simp only [List.cons_append, anyB, ih]; cases (labIs d x.2.v.labs || Nat.beq d 777777777 && !quiet x.2) <;> simp
  have ho : ∀ (a b : List (Nat × Option Ob)), saysO (a ++ b) d = (saysO a d || saysO b d) := by
    intro a b
    induction a with
    | nil => simp [saysO]
    | cons x r ih =>
      obtain ⟨k, ob⟩ := x
      cases ob <;> simp [saysO, ih, Bool.or_assoc]
  simp only [says, Env.app, hs, ho, Bool.or_eq_false_iff] at h ⊢
  exact ⟨⟨h.1.2, h.2.2⟩, h.1.1, h.2.1⟩

def lkq : List (Nat × Slot) → Nat → Option Slot
  | [], _ => none
  | (j, v) :: r, k => bif Nat.beq j k then some v else lkq r k
theorem lkq_lk {s : List (Nat × Slot)} {k : Nat} {v : Slot} (h : lkq s k = some v) : lk s k = v := by
  induction s with
  | nil => cases h
  | cons x r ih =>
    obtain ⟨j, u⟩ := x
    simp only [lkq, beq_eq] at h
    rw [lk_cons]
    by_cases hj : j = k
    · rw [if_pos hj]; simp [hj] at h; exact h
    · rw [if_neg hj]; simp [hj] at h; exact ih h
def loq : List (Nat × Option Ob) → Nat → Option Ob
  | [], _ => none
  | (j, v) :: r, k => bif Nat.beq j k then v else loq r k
theorem loq_lo (s : List (Nat × Option Ob)) (k : Nat) : loq s k = lo s k := by
  induction s with
  | nil => rfl
  | cons x r ih => obtain ⟨j, v⟩ := x; simp only [loq, lo, ih]
def dstOf : List Oper → Nat → Option Nat
  | [], _ => none
  | o :: _, 0 => o.dst
  | _ :: r, k + 1 => dstOf r k
theorem dstOf_eq : ∀ (l : List Oper) (j : Nat), dstOf l j = (l[j]?).bind (·.dst)
  | [], j => by simp [dstOf]
  | o :: r, 0 => by simp [dstOf]
  | o :: r, j + 1 => by simp [dstOf, dstOf_eq r j]
def boolAt (S : List (Nat × Slot)) (d : Nat) : Option (Option Bool) := match lkq S d with
  | some ⟨.sc (.bool b), _⟩ => some (some b)
  | some ⟨.sc (.tuple _), _⟩ => some none
  | _ => none
def gw (b : Bool) : Option Bool → Bool
  | some b' => b' == b
  | none => false
def vb : Value → Option Bool
  | .bool b => some b
  | _ => none
/-- Is the operation carried out? The slots that decide it. -/
def gd (N : Nat) (ops : List Oper) (S : List (Nat × Slot)) (want : Bool) : Option (Nat × Bool) → Option (List Nat)
  | none => bif want then some [] else none
  | some (j, b) => match dstOf ops j with
    | some d => bif Nat.blt d N then (match boolAt S d with
      | some b' => bif gw b b' == want then some [d] else none
      | none => none) else none
    | none => none
theorem boolAt_lk {S : List (Nat × Slot)} {d : Nat} {b : Option Bool} (h : boolAt S d = some b) : ∃ v dp, lk S d = ⟨.sc v, dp⟩ ∧ b = vb v := by
  unfold boolAt at h
  split at h
  · rename_i b' dp hq; cases h; exact ⟨_, dp, lkq_lk hq, rfl⟩
  · rename_i c dp hq; cases h; exact ⟨_, dp, lkq_lk hq, rfl⟩
  · cases h
theorem gd_some {N : Nat} {ops : List Oper} {S : List (Nat × Slot)} {want : Bool} {j : Nat} {b : Bool} {gs : List Nat} (h : gd N ops S want (some (j, b)) = some gs) :
    ∃ d v dp, (ops[j]?).bind (·.dst) = some d ∧ d < N ∧ lk S d = ⟨.sc v, dp⟩ ∧ gw b (vb v) = want ∧ gs = [d] := by
  simp only [gd, dstOf_eq] at h
  split at h
  · rename_i d hd
    cases hn : Nat.blt d N with
    | false => rw [hn] at h; cases h
    | true =>
      rw [hn] at h
      simp only [cond_true] at h
      split at h
      · rename_i b' hb
        obtain ⟨v, dp, hk, rfl⟩ := boolAt_lk hb
        cases hx : gw b (vb v) == want with
        | false => rw [hx] at h; cases h
        | true => rw [hx] at h; cases h; exact ⟨d, v, dp, hd, (blt_iff _ _).1 hn, hk, by simpa using hx, rfl⟩
      · cases h
  · cases h

/-- A statement's operations in the order of the text, each with its change. -/
inductive Run {P : Program} {N : Nat} (Γ : Ctx P N) (ops : List Oper) (K : List Item → Env → Prop) : List Oper → List Item → Env → Prop
  | done {acc : List Item} {E : Env} : K acc.reverse E → Run Γ ops K [] acc E
  | op {o : Oper} {rest : List Oper} {acc : List Item} {S s : List (Nat × Slot)} {O u : List (Nat × Option Ob)} {rs ro nl gs : List Nat} : Local Γ o ⟨S, O⟩ ⟨s, u⟩ rs ro nl → gd N ops S true o.guard = some gs → noneSays ⟨S, O⟩ nl = true →
      Run Γ ops K rest (⟨⟨s, u⟩, gs ++ rs, ro, nl⟩ :: acc) ⟨s ++ S, u ++ O⟩ → Run Γ ops K (o :: rest) acc ⟨S, O⟩
  | skip {o : Oper} {rest : List Oper} {acc : List Item} {S : List (Nat × Slot)} {O : List (Nat × Option Ob)} {gs : List Nat} : gd N ops S false o.guard = some gs →
      Run Γ ops K rest (⟨⟨dstAny o, []⟩, gs, [], []⟩ :: acc) ⟨dstAny o ++ S, O⟩ → Run Γ ops K (o :: rest) acc ⟨S, O⟩

theorem Sim.val {P : Program} {N : Nat} {Γ : Ctx P N} {F : Env} {a : Act} {w : World} {d : Nat} {v : Value} {dp : Bool} (h : Sim Γ F a w) (hd : d < N) (hk : lk F.s d = ⟨.sc v, dp⟩) : a.tmps[d]? = some v := by
  obtain ⟨ow, β, h⟩ := h
  obtain ⟨O, h1, _⟩ := h.slots d
  rw [hk] at h1
  simp only [RelV] at h1
  have hlt : d < a.tmps.size := by rw [h.size]; exact hd
  rw [Array.getElem?_eq_getElem hlt]
  have := h1.1
  simp [Array.getD, hlt] at this
  rw [this]

theorem wanted_eq {ops : Array Oper} {a : Act} {o : Oper} {j d : Nat} {b : Bool} {v : Value} (hg : o.guard = some (j, b)) (hj : (ops.toList[j]?).bind (·.dst) = some d) (ht : a.tmps[d]? = some v) : Region.wanted o (yielded ops a.tmps) = gw b (vb v) := by
  have hj' : (ops[j]?).bind (·.dst) = some d := by simpa using hj
  have : yielded ops a.tmps j = (vb v) := by
    unfold yielded
    rw [hj']
    simp [ht]
    cases v <;> rfl
  unfold Region.wanted
  rw [hg]
  simp only [this]
  cases vb v with
  | none => cases b <;> rfl
  | some b' => cases b <;> cases b' <;> rfl

theorem put_self (t : Array Value) (d : Nat) : (t.setIfInBounds d undef)[d]?.getD undef = undef := by
  rw [Array.getElem?_setIfInBounds]
  simp only [if_true]
  split <;> rfl
theorem put_none_any {P : Program} {N : Nat} {Γ : Ctx P N} {F : Env} {a : Act} {w : World} {o : Oper} (h : Sim Γ F a w) : Sim Γ (F.app ⟨dstAny o, []⟩) (a.put o.dst undef) w := by
  obtain ⟨ow, β, h⟩ := h
  unfold dstAny Env.app
  cases hd : o.dst with
  | none => exact ⟨ow, β, by simpa [Act.put] using h⟩
  | some d =>
    refine ⟨ow, β, { size := by simp [Act.put, h.size], defers := by simp [Act.put, h.defers], kept := h.kept, slots := fun k => ?_, objs := by simpa using h.objs, gone := by simpa using h.gone, own := h.own, ios := by simpa using h.ios, fresh := h.fresh }⟩
    simp only [List.cons_append, List.nil_append, lk_cons, Act.put]
    by_cases hk : d = k
    · subst hk
      refine ⟨[], ?_, by simp, by simp⟩
      simp only [RelV, if_true, Array.getD_eq_getD_getElem?]
      refine ⟨?_, trivial⟩
      exact put_self a.tmps d
    · rw [if_neg hk]
      obtain ⟨O, h1, h2, h3⟩ := h.slots k
      refine ⟨O, ?_, h2, h3⟩
      have e : (a.tmps.setIfInBounds d undef).getD k undef = a.tmps.getD k undef := by
        simp only [Array.getD_eq_getD_getElem?, Array.getElem?_setIfInBounds_ne hk]
      rw [e]; exact h1

theorem Local.at {P : Program} {N : Nat} {Γ : Ctx P N} {ops : Array Oper} {i : Nat} {o : Oper} {E e : Env} {rs ro nl : List Nat} (ho : ops[i]? = some o) (hg : o.guard = none) (h : Local Γ o E e rs ro nl) : LocalAt Γ ops i E e rs ro nl := by
  intro F hs hl hnl a w hsim Q
  unfold wpOp
  simp only [ho]
  have : Region.wanted o (yielded ops a.tmps) = true := by unfold Region.wanted; rw [hg]
  rw [if_pos this]
  exact .inl (h F hs hl hnl a w hsim Q)
theorem Local.atG {P : Program} {N : Nat} {Γ : Ctx P N} {ops : Array Oper} {i : Nat} {o : Oper} {E e : Env} {rs ro nl : List Nat} {j d : Nat} {b dp : Bool} {v : Value} (ho : ops[i]? = some o) (hg : o.guard = some (j, b)) (hj : (ops.toList[j]?).bind (·.dst) = some d) (hn : d < N)
    (hk : lk E.s d = ⟨.sc v, dp⟩) (hv : gw b (vb v) = true) (h : Local Γ o E e rs ro nl) : LocalAt Γ ops i E e (d :: rs) ro nl := by
  intro F hs hl hnl a w hsim Q
  unfold wpOp
  simp only [ho]
  have hb := hsim.val hn (by rw [hs d (by simp)]; exact hk)
  rw [if_pos (by rw [wanted_eq hg hj hb]; exact hv)]
  exact .inl (h F (fun k hk => hs k (by simp [hk])) hl hnl a w hsim Q)
theorem skip_at {P : Program} {N : Nat} {Γ : Ctx P N} {ops : Array Oper} {i : Nat} {o : Oper} {E : Env} {j d : Nat} {b dp : Bool} {v : Value} (ho : ops[i]? = some o) (hg : o.guard = some (j, b)) (hj : (ops.toList[j]?).bind (·.dst) = some d) (hn : d < N)
    (hk : lk E.s d = ⟨.sc v, dp⟩) (hbb : gw b (vb v) = false) : LocalAt Γ ops i E ⟨dstAny o, []⟩ [d] [] [] := by
  intro F hs hl hnl a w hsim Q
  unfold wpOp
  simp only [ho]
  have hb := hsim.val hn (by rw [hs d (by simp)]; exact hk)
  rw [if_neg (by rw [wanted_eq hg hj hb, hbb]; simp)]
  exact put_none_any hsim

theorem pt_all_append (l : List Item) (x : Item) : ∀ (i : Nat) (E : Env) (D : Nat → Bool), D (i + l.length) = true → pt D (l ++ [x]) i E = (pt D l i E).app x.e := by
  induction l with
  | nil => intro i E D h; simp at h; simp [pt, h]
  | cons y r ih => intro i E D h; simp only [List.cons_append, pt]; exact ih _ _ _ (by rw [← h]; congr 1; simp; omega)
theorem pt_congr {D D' : Nat → Bool} : ∀ (l : List Item) (i : Nat) (E : Env), (∀ j, j < l.length → D (i + j) = D' (i + j)) → pt D l i E = pt D' l i E
  | [], _, _, _ => rfl
  | x :: r, i, E, h => by
    simp only [pt]
    have h0 := h 0 (by simp)
    simp only [Nat.add_zero] at h0
    rw [h0]
    exact pt_congr r (i + 1) _ (fun j hj => by have := h (j + 1) (by simp; omega); rw [show i + 1 + j = i + (j + 1) by omega]; exact this)
theorem pt_prefix (l m : List Item) (i : Nat) (E : Env) (D : Nat → Bool) (h : ∀ j, l.length ≤ j → D (i + j) = false) : pt D (l ++ m) i E = pt D l i E := by
  induction l generalizing i E with
  | nil =>
    simp only [List.nil_append, pt]
    induction m generalizing i E with
    | nil => rfl
    | cons x r ih =>
      have h0 := h 0 (by simp)
      simp only [Nat.add_zero] at h0
      simp only [pt, h0, Bool.false_eq_true, if_false]
      exact ih (i + 1) E (fun j hj => by have := h (j + 1) (by simp); rw [show i + 1 + j = i + (j + 1) by omega]; exact this)
  | cons x r ih =>
    simp only [List.cons_append, pt]
    exact ih (i + 1) _ (fun j hj => by have := h (j + 1) (by simp; omega); rw [show i + 1 + j = i + (j + 1) by omega]; exact this)

theorem run_chain {P : Program} {N : Nat} {Γ : Ctx P N} {ops : Array Oper} {K : List Item → Env → Prop} {E0 : Env} {rest : List Oper} {acc : List Item} {E : Env} (h : Run Γ ops.toList K rest acc E) :
    ∀ pre, ops.toList = pre ++ rest → acc.length = pre.length → Chain Γ ops acc.reverse E0 → E = pt (fun _ => true) acc.reverse 0 E0 → ∃ items, items.length = ops.size ∧ Chain Γ ops items E0 ∧ K items (pt (fun _ => true) items 0 E0) := by
  have keyChain : ∀ {acc : List Item} {x : Item} {E : Env}, Chain Γ ops acc.reverse E0 → E = pt (fun _ => true) acc.reverse 0 E0 → LocalAt Γ ops acc.length E x.e x.rs x.ro x.nl → (∀ d ∈ x.nl, says E d = false) → Chain Γ ops (x :: acc).reverse E0 := by
    intro acc x E hc hE hl hsay i y hy
    rw [List.reverse_cons] at hy ⊢
    rcases Nat.lt_trichotomy i acc.length with hlt | heq | hgt
    · rw [List.getElem?_append_left (by simpa using hlt)] at hy
      rw [pt_prefix _ _ _ _ _ (fun j hj => by
        cases hb : Nat.blt (0 + j) i with
        | false => rfl
        | true => have := (blt_iff _ _).1 hb; simp at hj; omega)]
      refine ⟨(hc i y hy).1, fun d hd => ⟨((hc i y hy).2 d hd).1, fun j z hj hz => ?_⟩⟩
      rw [List.getElem?_append_left (by simp; omega)] at hz
      exact ((hc i y hy).2 d hd).2 j z hj hz
    · subst heq
      rw [List.getElem?_append_right (by simp)] at hy
      simp at hy; subst hy
      rw [pt_prefix _ _ _ _ _ (fun j hj => by
        cases hb : Nat.blt (0 + j) acc.length with
        | false => rfl
        | true => have := (blt_iff _ _).1 hb; simp at hj; omega)]
      rw [pt_congr (D' := fun _ => true) acc.reverse 0 E0 (fun j hj => by simp at hj; simp [hj])]
      rw [← hE]
      refine ⟨hl, fun d hd => ?_⟩
      have h1 := hsay d hd
      rw [hE] at h1
      have key : ∀ (l : List Item) (i : Nat) (E : Env), says (pt (fun _ => true) l i E) d = false → says E d = false ∧ ∀ y ∈ l, says y.e d = false := by
        intro l
        induction l with
        | nil => intro i E h; exact ⟨h, by simp⟩
        | cons z r ih =>
          intro i E h
          simp only [pt, if_true] at h
          obtain ⟨g1, g2⟩ := ih _ _ h
          obtain ⟨g3, g4⟩ := says_app g1
          refine ⟨g3, fun y hy => ?_⟩
          rcases List.mem_cons.1 hy with rfl | hy
          · exact g4
          · exact g2 y hy
      obtain ⟨g1, g2⟩ := key _ _ _ h1
      refine ⟨g1, fun j z hj hz => g2 z ?_⟩
      rw [List.getElem?_append_left (by simpa using hj)] at hz
      exact List.mem_of_getElem? hz
    · rw [List.getElem?_eq_none (by simp; omega)] at hy; cases hy
  have keyE : ∀ {acc : List Item} {x : Item} {E : Env}, E = pt (fun _ => true) acc.reverse 0 E0 → E.app x.e = pt (fun _ => true) (x :: acc).reverse 0 E0 := by
    intro acc x E hE
    rw [List.reverse_cons, pt_all_append _ _ _ _ _ rfl, hE]
  have hat : ∀ {pre : List Oper} {o : Oper} {rest : List Oper} {n : Nat}, ops.toList = pre ++ o :: rest → n = pre.length → ops[n]? = some o := by
    intro pre o rest n h1 h2
    have : ops.toList[n]? = some o := by rw [h1, h2]; simp
    simpa using this
  induction h with
  | done hK =>
    intro pre h1 h2 h3 h4
    refine ⟨_, ?_, h3, ?_⟩
    · have := congrArg List.length h1; simp at this; rw [List.length_reverse, h2, ← this]
    · rw [← h4]; exact hK
  | @op o rest acc S s O u rs ro nl gs hl hg hns _ ih =>
    intro pre h1 h2 h3 h4
    have hat' : LocalAt Γ ops acc.length ⟨S, O⟩ ⟨s, u⟩ (gs ++ rs) ro nl := by
      cases hgd : o.guard with
      | none =>
        rw [hgd] at hg; simp only [gd, cond_true] at hg; cases hg
        exact Local.at (hat h1 h2) hgd hl
      | some x =>
        obtain ⟨j, b⟩ := x
        rw [hgd] at hg
        obtain ⟨d, v, dp, e1, e2, e3, e4, rfl⟩ := gd_some hg
        exact Local.atG (hat h1 h2) hgd e1 e2 e3 e4 hl
    exact ih (pre ++ [o]) (by simp [h1]) (by simp [h2]) (keyChain (x := ⟨⟨s, u⟩, gs ++ rs, ro, nl⟩) h3 h4 hat' (noneSays_spec hns)) (keyE (x := ⟨⟨s, u⟩, gs ++ rs, ro, nl⟩) h4)
  | @skip o rest acc S O gs hg _ ih =>
    intro pre h1 h2 h3 h4
    cases hgd : o.guard with
    | none => rw [hgd] at hg; simp only [gd, cond_false] at hg; cases hg
    | some x =>
      obtain ⟨j, b⟩ := x
      rw [hgd] at hg
      obtain ⟨d, v, dp, e1, e2, e3, e4, rfl⟩ := gd_some hg
      exact ih (pre ++ [o]) (by simp [h1]) (by simp [h2]) (keyChain (x := ⟨⟨dstAny o, []⟩, [d], [], []⟩) h3 h4 (skip_at (hat h1 h2) hgd e1 e2 e3 e4) (by simp)) (keyE (x := ⟨⟨dstAny o, []⟩, [d], [], []⟩) h4)

def CodeT {P : Program} {N : Nat} (Γ : Ctx P N) (c : Code) (E : Env) (Q : Exit → Env → Prop) : Prop := ∀ a w, Sim Γ E a w → c.wp P (fun x a' w' => ∃ E', Sim Γ E' a' w' ∧ Q x E') a w
def Ent {P : Program} {N : Nat} (Γ : Ctx P N) (E E' : Env) : Prop := ∀ a w, Sim Γ E a w → Sim Γ E' a w

section code
variable {P : Program} {N : Nat} {Γ : Ctx P N} {E : Env} {Q : Exit → Env → Prop}

theorem chain_text {ops : Array Oper} {items : List Item} {E0 : Env} {R : Exit → Act → World → Prop} (hlen : items.length = ops.size) (hc : Chain Γ ops items E0) (hR : ∀ a w, Sim Γ (pt (fun _ => true) items 0 E0) a w → R .normal a w) :
    ∀ (m i : Nat) (a : Act) (w : World), i + m = ops.size → Sim Γ (pt (fun j => Nat.blt j i) items 0 E0) a w → wpOps P ops R (List.range' i m) a w
  | 0, i, a, w, hm, hs => by
    simp only [List.range'_zero, wpOps]
    refine hR a w ?_
    rw [pt_congr (D' := fun j => Nat.blt j i) items 0 E0 (fun j hj => by simp; omega)]
    exact hs
  | m + 1, i, a, w, hm, hs => by
    rw [List.range'_succ, wpOps_cons]
    obtain ⟨x, hx⟩ : ∃ x, items[i]? = some x := ⟨items[i]'(by omega), by simp⟩
    refine wpOp_mono (fun a' w' hs' => chain_text hlen hc hR m (i + 1) a' w' (by omega) ?_) ((hc i x hx).1 _ (fun _ _ => rfl) (fun _ _ => rfl) (fun d hd => pt_noLab ((hc i x hx).2 d hd).1 (fun j y hy hD => ((hc i x hx).2 d hd).2 j y ((blt_iff _ _).1 hD) hy)) a w hs R)
    refine hs'.congr (fun k => ?_) (fun l => ?_)
    · by_cases hk : k ∈ x.e.s.map (·.1)
      · simp only [Env.app]; rw [lk_append_of_mem _ _ _ hk]
        refine pt_last items 0 E0 i x hx (by simp) hk (fun j' y hj' _ _ => ?_)
        rw [blt_dec]; exact decide_eq_false (by omega)
      · simp only [Env.app]; rw [lk_append_of_not_mem _ _ _ hk]
        refine pt_lk items 0 E0 E0 (fun j y hy hky => ?_) rfl
        by_cases hij : j = i
        · subst hij; rw [hx] at hy; cases hy; exact absurd hky hk
        · rw [blt_dec, blt_dec]; congr 1; exact propext ⟨fun h => by omega, fun h => by omega⟩
    · by_cases hk : l ∈ x.e.o.map (·.1)
      · simp only [Env.app]; rw [lo_append_of_mem _ _ _ hk]
        refine pt_lastO items 0 E0 i x hx (by simp) hk (fun j' y hj' _ _ => ?_)
        rw [blt_dec]; exact decide_eq_false (by omega)
      · simp only [Env.app]; rw [lo_append_of_not_mem _ _ _ hk]
        refine pt_lo items 0 E0 E0 (fun j y hy hky => ?_) rfl
        by_cases hij : j = i
        · subst hij; rw [hx] at hy; cases hy; exact absurd hky hk
        · rw [blt_dec, blt_dec]; congr 1; exact propext ⟨fun h => by omega, fun h => by omega⟩

theorem pt_none (items : List Item) (i : Nat) (E0 : Env) (D : Nat → Bool) (h : ∀ j, D j = false) : pt D items i E0 = E0 := by
  induction items generalizing i E0 with
  | nil => rfl
  | cons x r ih => simp [pt, h, ih]

theorem CodeT.region {id : Nat} {l : List Oper} {draw : Bool} (hm : draw = true → P.follows .mixedOrders = true)
    (h : Run Γ l (fun items E' => (draw = true → depsOk (ancs l []) items items 0 = true ∧ edgesOk l 0 = true) ∧ Q .normal E') l [] E) : CodeT Γ (.region id l.toArray draw) E Q := by
  intro a w hs
  obtain ⟨items, h1, h2, h3, h4⟩ := run_chain (ops := l.toArray) (E0 := E) h [] rfl rfl (by intro i x hx; simp at hx) (by simp [pt])
  cases draw with
  | false =>
    refine wp_region ?_
    rw [List.range_eq_range']
    refine chain_text h1 h2 (fun a w hs => ⟨_, hs, h4⟩) _ 0 a w (by simp) ?_
    rw [pt_none _ _ _ _ (fun j => by rw [blt_dec]; exact decide_eq_false (by omega))]; exact hs
  | true =>
    refine wp_region_any (hm rfl) ?_
    refine region_any h1 h2 (h3 rfl).1 (h3 rfl).2 (fun a w hs => ⟨_, hs, h4⟩) _ _ _ _ (by simp) ?_ ?_ ?_
    · exact Nat.le_trans (List.length_filter_le _ _) (by simp)
    · intro i j hi
      simp [Array.getD_eq_getD_getElem?, Array.getElem?_replicate] at hi
      split at hi <;> simp at hi
    · rw [pt_none _ _ _ _ (fun j => by
        simp [Array.getD_eq_getD_getElem?, Array.getElem?_replicate]
        split <;> simp)]
      obtain ⟨ow, β, hs⟩ := hs
      exact ⟨ow, β, { size := hs.size, defers := hs.defers, kept := ⟨hs.kept.os, hs.kept.output, hs.kept.tape, hs.kept.size, hs.kept.old, hs.kept.ios⟩, slots := hs.slots, objs := hs.objs, gone := hs.gone, own := hs.own, ios := hs.ios, fresh := hs.fresh }⟩

theorem CodeT.mono {c : Code} {Q' : Exit → Env → Prop} (h : CodeT Γ c E Q) (hq : ∀ x E, Q x E → Q' x E) : CodeT Γ c E Q' :=
  fun a w hs => wp_mono (h a w hs) fun _ _ _ ⟨E', h1, h2⟩ => ⟨E', h1, hq _ _ h2⟩
theorem CodeT.weak {c : Code} {E' : Env} (he : Ent Γ E E') (h : CodeT Γ c E' Q) : CodeT Γ c E Q := fun a w hs => h a w (he a w hs)
theorem CodeT.skip (h : Q .normal E) : CodeT Γ .skip E Q := fun _ _ hs => wp_skip ⟨E, hs, h⟩
theorem CodeT.exit {id : Nat} (h : Q (.exit id) E) : CodeT Γ (.exit id) E Q := fun _ _ hs => wp_exit ⟨E, hs, h⟩
theorem CodeT.ret (h : Q .ret E) : CodeT Γ .ret E Q := fun _ _ hs => wp_ret ⟨E, hs, h⟩

/-- What follows, where the first part ends normally. -/
def Then (K : Env → Prop) (Q : Exit → Env → Prop) : Exit → Env → Prop
  | .normal, E => K E
  | x, E => Q x E
theorem CodeT.seq {x y : Code} (h : CodeT Γ x E (Then (fun E' => CodeT Γ y E' Q) Q)) : CodeT Γ (.seq x y) E Q := by
  intro a w hs
  refine wp_seq (wp_mono (h a w hs) fun e a' w' ⟨E', h1, h2⟩ => ?_)
  cases e with
  | normal => exact h2 a' w' h1
  | _ => exact ⟨E', h1, h2⟩
def InBlock (id : Nat) (Q : Exit → Env → Prop) : Exit → Env → Prop
  | .exit id', E => bif Nat.beq id' id then Q .normal E else Q (.exit id') E
  | x, E => Q x E
theorem CodeT.block {id : Nat} {c : Code} (h : CodeT Γ c E (InBlock id Q)) : CodeT Γ (.block id c) E Q := by
  intro a w hs
  refine wp_block (wp_mono (h a w hs) fun e a' w' ⟨E', h1, h2⟩ => ?_)
  cases e with
  | exit id' =>
    simp only [Exit.inBlock]
    simp only [InBlock, beq_eq] at h2
    by_cases hid : id' = id
    · rw [if_pos hid]; simp [hid] at h2; exact ⟨E', h1, h2⟩
    · rw [if_neg hid]; simp [hid] at h2; exact ⟨E', h1, h2⟩
  | _ => exact ⟨E', h1, h2⟩

theorem Sim.eval_bool {a : Act} {w : World} {t : Nat} {b dp : Bool} (hs : Sim Γ E a w) (hk : lk E.s t = ⟨.sc (.bool b), dp⟩) : a.eval (.tmp t) = .bool b := by
  obtain ⟨ow, β, hs⟩ := hs
  obtain ⟨O, h1, _⟩ := hs.slots t
  rw [hk] at h1
  simp only [RelV] at h1
  exact h1.1
theorem CodeT.cond {t : Nat} {x y : Code} {b dp : Bool} (hk : lk E.s t = ⟨.sc (.bool b), dp⟩) (h1 : b = true → CodeT Γ x E Q) (h2 : b = false → CodeT Γ y E Q) : CodeT Γ (.cond (.tmp t) x y) E Q := by
  intro a w hs
  exact wp_cond_split (hs.eval_bool hk) (fun h => h1 h a w hs) (fun h => h2 h a w hs)
theorem CodeT.condF {t : Nat} {x y : Code} {dp : Bool} (hk : lk E.s t = ⟨.sc (.bool false), dp⟩) (h : CodeT Γ y E Q) : CodeT Γ (.cond (.tmp t) x y) E Q := .cond hk (fun h => by cases h) (fun _ => h)

/-- A round either leaves or comes back to the loop's relation with a smaller measure. -/
def Round {P : Program} {N : Nat} (Γ : Ctx P N) (I : Nat → Env → Prop) (n : Nat) (Q : Exit → Env → Prop) : Exit → Env → Prop
  | .normal, E => ∃ m E', m < n ∧ Ent Γ E E' ∧ I m E'
  | x, E => Q x E
theorem CodeT.loop {c : Code} (I : Nat → Env → Prop) (n : Nat) (E0 : Env) (he : Ent Γ E E0) (h0 : I n E0) (hr : ∀ m E, I m E → CodeT Γ c E (Round Γ I m Q)) : CodeT Γ (.loop c) E Q := by

  intro a w hs
  have hs := he a w hs
  -- the machine's own rule, with the measure as a part of the state
  intro b k cs
  have main : ∀ n E a w, I n E → Sim Γ E a w → ∃ e a' w', (∃ E', Sim Γ E' a' w' ∧ Q e E') ∧ Arrives P (lone (b.at a (.code c :: .inLoop c :: k)) cs w) b k cs e a' w' := by
    intro n
    induction n using Nat.strongRecOn with
    | _ n ih =>
      intro E a w hI hs
      obtain ⟨e, a₁, w₁, ⟨E', hs', hq⟩, harr⟩ := hr n E hI a w hs b (.inLoop c :: k) cs
      cases e with
      | normal =>
        obtain ⟨m, E'', hlt, hent, hI'⟩ := hq
        obtain ⟨e₂, a₂, w₂, hq₂, harr₂⟩ := ih m hlt E'' a₁ w₁ hI' (hent _ _ hs')
        exact ⟨e₂, a₂, w₂, hq₂, .of_steps (Steps.trans harr (.one step_inLoop)) harr₂⟩
      | exit id => exact ⟨_, a₁, w₁, ⟨E', hs', hq⟩, .pass (x := .inLoop c) rfl (fun _ _ => .inl (by simp)) harr⟩
      | goto l => exact ⟨_, a₁, w₁, ⟨E', hs', hq⟩, .pass (x := .inLoop c) rfl (fun _ _ => .inl (by simp)) harr⟩
      | ret => exact ⟨_, a₁, w₁, ⟨E', hs', hq⟩, .pass (x := .inLoop c) rfl (fun _ _ => .inl (by simp)) harr⟩
      | panic ch => exact ⟨_, a₁, w₁, ⟨E', hs', hq⟩, .pass (x := .inLoop c) rfl (fun _ _ => .inl (by simp)) harr⟩
      | outgrown => exact ⟨_, a₁, w₁, ⟨E', hs', hq⟩, .pass (x := .inLoop c) rfl (fun _ _ => .inl (by simp)) harr⟩
  obtain ⟨e, a', w', hq, harr⟩ := main n E0 a w h0 hs
  exact ⟨e, a', w', hq, .of_steps (.one step_loop) harr⟩
end code
end Go.Ev
