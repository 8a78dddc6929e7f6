/- The engine, part KK: a law's rest, begun anew: what there is by then is old. -/
import Derived.Test.YtbfjidhekfnfjaaEvJJ
set_option linter.all false
namespace Go.Ev
open Go.RowKit (Below)
def noDeep : List (Nat × Slot) → Bool
  | [] => true
  | (_, s) :: r => !s.deep && noDeep r
def noDeepO : List (Nat × Option Ob) → Bool
  | [] => true
  | (_, none) :: r => noDeepO r
  | (_, some ob) :: r => (!ob.deep || noReadL ob.cells) && noDeepO r
theorem noDeep_lk : ∀ {s : List (Nat × Slot)} (k : Nat), noDeep s = true → (lk s k).deep = false
  | [], k, _ => rfl
  | (j, v) :: r, k, h => by
    simp only [noDeep, Bool.and_eq_true, Bool.not_eq_true'] at h
    rw [lk_cons]
    by_cases hj : j = k
    · rw [if_pos hj]; exact h.1
    · rw [if_neg hj]; exact noDeep_lk k h.2
theorem noDeepO_lo : ∀ {s : List (Nat × Option Ob)} {l : Nat} {ob : Ob}, noDeepO s = true → lo s l = some ob → ob.deep = false ∨ noReadL ob.cells = true
  | [], l, ob, _, h => by simp [lo] at h
  | (j, none) :: r, l, ob, hn, h => by
    rw [lo_cons] at h
    by_cases hj : j = l
    · rw [if_pos hj] at h; cases h
    · rw [if_neg hj] at h; exact noDeepO_lo (s := r) hn h
  | (j, some o) :: r, l, ob, hn, h => by
    simp only [noDeepO, Bool.and_eq_true, Bool.or_eq_true, Bool.not_eq_true'] at hn
    rw [lo_cons] at h
    by_cases hj : j = l
    · rw [if_pos hj] at h; cases h; exact hn.1
    · rw [if_neg hj] at h; exact noDeepO_lo hn.2 h
section
variable {P : Program} {N : Nat} {Γ : Ctx P N} {S : List (Nat × Slot)} {O : List (Nat × Option Ob)}
/-- A slot's own value gets a name. -/
theorem CodeT.nameS {code : Code} {Q : Exit → Env → Prop} (k : Nat) {p : PV} {dp : Bool} (hk : lkq S k = some ⟨p, dp⟩) (h : ∀ c, CodeT Γ code ⟨(k, ⟨.was c p, dp⟩) :: S, O⟩ Q) : CodeT Γ code ⟨S, O⟩ Q := by
  rintro a w ⟨ow, β, hs⟩
  refine h (a.tmps.getD k undef) a w ⟨ow, β, { size := hs.size, defers := hs.defers, kept := hs.kept, slots := fun j => ?_, objs := hs.objs, gone := hs.gone, own := hs.own, ios := hs.ios, fresh := hs.fresh }⟩
  simp only [lk_cons]
  by_cases hj : k = j
  · subst hj
    rw [if_pos rfl]
    obtain ⟨B, g1, g2, g3⟩ := hs.slots k
    simp only [lkq_lk hk] at g1 g3
    exact ⟨B, by simp only [RelV]; exact ⟨trivial, g1⟩, g2, g3⟩
  · rw [if_neg hj]; exact hs.slots j
theorem CodeT.rebase {code : Code} {t : Nat} {v : Value} (fn : Func) (hfn : fn.results = #[.tmp t]) (hi0 : ∀ l, Γ.io l = none) (hS : noDeep S = true) (hO : noDeepO O = true)
    (h : ∀ Γ' : Ctx P N, (∀ l, Nat.blt l 100000 = true → Γ'.io l = none) → (∀ b, ¬ Γ'.lent b) → (∀ l, Γ'.io l = none) → (∀ k c p dp, lkq S k = some ⟨.was c p, dp⟩ → p.labs = [] → OldF Γ' c p) →
      (∀ l (vs : List Value) (cells : List PV) dp, loq O l = some ⟨wz vs cells, dp, false⟩ → vs.length = cells.length → noLabs cells = true → OldL Γ' vs cells) → CodeT Γ' code ⟨S, O⟩ (ends Γ' #[.tmp t] (.sc v) true)) : CodeT Γ code ⟨S, O⟩ (ends Γ #[.tmp t] (.sc v) true) := by
  classical
  rintro a w ⟨ow, β, hs⟩
  let Γ' : Ctx P N := { base := w.heap.size, ok := fun b => ¬ ∃ l, β l = some (some b), io := fun _ => none, w0 := w, mine := fun b => ∃ l, β l = some (some b), lent := fun _ => False }
  let ow' : Nat → Own := fun b => if h : ∃ l, β l = some (some b) then .lab h.choose else .none
  have how : ∀ b l, ow' b = .lab l ↔ β l = some (some b) := by
    intro b l
    show (if h : ∃ l, β l = some (some b) then Own.lab h.choose else .none) = _ ↔ _
    by_cases h : ∃ l, β l = some (some b)
    · rw [dif_pos h]
      constructor
      · intro e; injection e with e; rw [← e]; exact h.choose_spec
      · intro e
        have e1 := hs.lab_ne h.choose_spec
        have e2 := hs.lab_ne e
        rw [e1] at e2; injection e2 with e2; rw [e2]
    · rw [dif_neg h]
      constructor
      · intro e; cases e
      · intro e; exact absurd ⟨l, e⟩ h
  have how2 : ∀ b, ow' b ≠ .none → ∃ l, β l = some (some b) := by
    intro b hb
    rcases Classical.em (∃ l, β l = some (some b)) with h | h
    · exact h
    · exfalso; apply hb; show (if h : ∃ l, β l = some (some b) then Own.lab h.choose else .none) = _; rw [dif_neg h]
  have hlab : ∀ b l, β l = some (some b) → ow b = .lab l := fun b l e => hs.lab_ne e
  have hIm : ∀ b, Im Γ ow w b → Γ'.ok b := by
    rintro b ⟨_, _, h3⟩ ⟨l, e⟩
    exact h3 l (hlab b l e)
  have hIm' : ∀ b, Im Γ ow w b → Im Γ' ow' w b := fun b hb => ⟨hb.1, .inl (hIm b hb), fun l e => hb.2.2 l (hlab b l ((how b l).1 e))⟩
  have hold : ∀ (p : PV) (c : Value) (B : List Nat), p.labs = [] → RelV w.heap β p c B → (∀ b ∈ B, Im Γ ow w b) → OldF Γ' c p := fun p c B hl hr hb =>
    ⟨hl, B, RelV.keep _ _ _ (fun l hl' => by rw [hl] at hl'; cases hl') (fun _ _ => rfl) hr, fun b hb' => ⟨hIm b (hb b hb'), (hb b hb').1, ⟨hIm b (hb b hb'), fun h => h⟩, fun l => by simp [Γ']⟩⟩
  have hsim : Sim Γ' ⟨S, O⟩ a w := by
    refine ⟨ow', β, { size := hs.size, defers := hs.defers, kept := ⟨rfl, rfl, rfl, Nat.le_refl _, fun _ _ _ _ => rfl, fun b _ _ cs t h => ⟨cs, h, rfl⟩⟩, slots := fun k => ?_, objs := fun l ob hl => ?_, gone := hs.gone, own := fun b hb => ?_, ios := fun l b hl => (by cases hl), fresh := fun l b hl _ => .inr ⟨l, hl⟩ }⟩
    · obtain ⟨B, g1, g2, _⟩ := hs.slots k
      exact ⟨B, g1, fun b hb => hIm' b (g2 b hb), fun hd => by rw [noDeep_lk k hS] at hd; cases hd⟩
    · obtain ⟨B, g1, g2, g3⟩ := hs.objs l ob hl
      have hB : ob.deep = true → B = [] := by
        intro hd
        rcases noDeepO_lo hO hl with e | e
        · rw [hd] at e; cases e
        · rcases g3 with ⟨_, _, e3⟩ | ⟨_, _, _, _, _, _, g4⟩
          · exact e3
          · exact noReadL_nil _ e g4
      refine ⟨B, fun b hb => hIm' b (g1 b hb), fun hd => by rw [hB hd]; simp, ?_⟩
      rcases g3 with g3 | ⟨b, cs, t, e1, e2, e3, e4⟩
      · exact .inl g3
      · exact .inr ⟨b, cs, t, e1, (how b l).2 e1, e3, e4⟩
    · obtain ⟨l, e⟩ := how2 b hb
      obtain ⟨g1, _⟩ := hs.own b (by rw [hlab b l e]; simp)
      exact ⟨g1, .inl (.inl (.inr ⟨l, e⟩))⟩
  have hslot : ∀ k c p dp, lkq S k = some ⟨.was c p, dp⟩ → p.labs = [] → OldF Γ' c p := by
    intro k c p dp hk hl
    obtain ⟨B, g1, g2, _⟩ := hs.slots k
    simp only [lkq_lk hk, RelV] at g1
    exact hold p c B hl (by rw [← g1.1]; exact g1.2) g2
  have hobj : ∀ l (vs : List Value) (cells : List PV) dp, loq O l = some ⟨wz vs cells, dp, false⟩ → vs.length = cells.length → noLabs cells = true → OldL Γ' vs cells := by
    intro l vs cells dp hl hlen hn
    obtain ⟨B, g1, _, g3⟩ := hs.objs l ⟨wz vs cells, dp, false⟩ (by rw [← loq_lo]; exact hl)
    rcases g3 with ⟨_, e2, _⟩ | ⟨b, cs, t, _, _, _, e4⟩
    · cases vs with
      | nil => cases cells with
        | nil => trivial
        | cons => simp at hlen
      | cons v vs => cases cells with
        | nil => simp at hlen
        | cons p ps => simp [wz] at e2
    · obtain ⟨m1, m2⟩ := wz_relL hlen e4
      exact OldL.of (fun _ _ _ => trivial) hlen m1 hn m2 (fun b hb => ⟨hIm b (g1 b hb), (g1 b hb).1, ⟨hIm b (g1 b hb), fun h => h⟩, fun l => by simp [Γ']⟩)
  refine wp_mono (h Γ' (fun _ _ => rfl) (fun _ h => h) (fun _ => rfl) hslot hobj a w hsim) fun x a' w' ⟨E', hs', hq⟩ => ?_
  have fin : RetIs Γ' #[.tmp t] E' (.sc v) true → ∃ E'', Sim Γ E'' a' w' ∧ RetIs Γ #[.tmp t] E'' (.sc v) true := by
    intro hr
    obtain ⟨c, B, g1, g2, _, _⟩ := hr fn hfn a' w' hs'
    simp only [RelV] at g2
    rw [results_one hfn] at g1
    have hv : a'.tmps.getD t undef = v := by
      simp [resRun] at g1
      rw [← g2.1, ← g1]; simp
    obtain ⟨ow2, β2, hs2⟩ := hs'
    refine ⟨⟨[(t, ⟨.sc v, false⟩)], []⟩, ⟨fun _ => .none, fun _ => none, { size := hs2.size, defers := hs2.defers, kept := ?_, slots := fun k => ?_, objs := fun l ob hl => (by simp [lo] at hl), gone := fun _ _ => rfl, own := fun b hb => absurd rfl hb, ios := fun l b hl => (by rw [hi0] at hl; cases hl), fresh := fun l b hl => (by cases hl) }⟩, RetIs.sc1 (dp := false) (by simp [lkq])⟩
    · have hm : ∀ b, b < Γ.base → ¬ Γ.mine b → ¬ Γ'.mine b := by
        rintro b h1 h2 ⟨l, e⟩
        rcases hs.fresh l b e (hi0 l) with g | g
        · omega
        · exact h2 g
      have hsz : w.heap.size ≤ w'.heap.size := hs2.kept.size
      refine ⟨hs2.kept.os.trans hs.kept.os, hs2.kept.output.trans hs.kept.output, hs2.kept.tape.trans hs.kept.tape, Nat.le_trans hs.kept.size hsz, fun b h1 h2 h3 => ?_, fun b h1 h3 cs t hc => ?_⟩
      · exact (hs2.kept.old b (Nat.lt_of_lt_of_le h1 hs.kept.size) (fun l => by simp [Γ']) (hm b h1 h3)).trans (hs.kept.old b h1 h2 h3)
      · refine ⟨cs, ?_, rfl⟩
        rw [hs2.kept.old b (Nat.lt_of_lt_of_le h1 hs.kept.size) (fun l => by simp [Γ']) (hm b h1 h3)]
        show w.heap[b]? = _
        rw [hs.kept.old b h1 (fun l => by rw [hi0]; simp) h3]; exact hc
    · simp only [lk_cons]
      by_cases hk : t = k
      · subst hk
        rw [if_pos rfl]
        exact ⟨[], by simp only [RelV]; exact ⟨hv, trivial⟩, by simp, by simp⟩
      · rw [if_neg hk]
        exact ⟨[], by simp [RelV, lk], by simp, by simp [lk]⟩
  cases x with
  | normal => obtain ⟨E'', q1, q2⟩ := fin hq; exact ⟨E'', q1, q2⟩
  | ret => obtain ⟨E'', q1, q2⟩ := fin hq; exact ⟨E'', q1, q2⟩
  | exit id => exact hq.elim
  | goto l => exact hq.elim
  | panic ch => exact hq.elim
  | outgrown => exact hq.elim
end
end Go.Ev
