/- The engine, part D: how a state changes: a slot is written, a world grows, a block is laid, a cell of an own block is stored. -/
import Derived.Test.YtlfbihajihpchaaGreatEvC
import Derived.Laws.Append
import Derived.Laws.AppendOwn
import Derived.Laws.MakeOwn
import Derived.Laws.Tables
import Derived.Laws.Rows
import Derived.Laws.Strings
import Derived.Laws.Slices
import Derived.Laws.Small
import Derived.Laws.Concat
import Derived.Laws.BytesString
set_option linter.all false
namespace Go.Ev
open Go.RowKit (Below)

section
variable {P : Program} {N : Nat} {Γ : Ctx P N} {ow : Nat → Own} {β : Nat → Option (Option Nat)} {E : Env} {a : Act} {w : World}

theorem opT_of_run {o : Oper} {F F' : Env} (h : ∀ a w, Sim Γ F a w → ∃ c w', (execOp a.eval o).run P w = .ok (.value c) w' ∧ Sim Γ F' (a.put o.dst c) w') : OpT Γ o F F' := by
  intro a w hs Q
  obtain ⟨c, w', h1, h2⟩ := h a w hs
  unfold Oper.wp
  rw [h1]
  exact h2
theorem opT_of_skip {o : Oper} {F F' : Env} (h : ∀ a w, Sim Γ F a w → ∃ w', (execOp a.eval o).run P w = .ok .skip w' ∧ Sim Γ F' (a.put o.dst undef) w') : OpT Γ o F F' := by
  intro a w hs Q
  obtain ⟨w', h1, h2⟩ := h a w hs
  unfold Oper.wp
  rw [h1]
  exact h2

theorem SimG.block_lt (h : SimG Γ ow β E a w) {l b : Nat} (hl : β l = some (some b)) : b < w.heap.size := by
  cases ho : lo E.o l with
  | none => rw [h.gone l ho] at hl; cases hl
  | some ob =>
    obtain ⟨O, _, _, h1⟩ := h.objs l ob ho
    rcases h1 with ⟨h1, _⟩ | ⟨b', cs, t, h1, _, h3, _⟩
    · rw [h1] at hl; cases hl
    · rw [h1] at hl; cases hl
      rcases Nat.lt_or_ge b w.heap.size with h | h
      · exact h
      · simp [Array.getElem?_eq_none h] at h3

/-- The world has grown: nothing that was there has turned. -/
theorem SimG.grow {w' : World} (h : SimG Γ ow β E a w) (hb : Below w.heap.size w w') : SimG Γ ow β E a w' := by
  have hβ : ∀ l, KeepB w.heap w'.heap β β l := by
    intro l ob hl
    refine ⟨hl, fun b hob cs t hc => ⟨cs, ?_, rfl⟩⟩
    subst hob
    rw [hb.block b (h.block_lt hl)]; exact hc
  have hIm : ∀ b, Im Γ ow w b → Im Γ ow w' b := fun b ⟨h1, h2, h3⟩ => ⟨Nat.lt_of_lt_of_le h1 hb.size, h2, h3⟩
  have hFree : ∀ b, b < w.heap.size → Free w b → Free w' b := fun b hlt ⟨cs, t, hc⟩ => ⟨cs, t, by rw [hb.block b hlt]; exact hc⟩
  refine { size := h.size, defers := h.defers, kept := ?_, slots := fun k => ?_, objs := fun l ob hl => ?_, gone := h.gone, own := fun b hb' => ?_, ios := h.ios, fresh := h.fresh }
  · exact ⟨hb.os.trans h.kept.os, hb.output.trans h.kept.output, hb.tape.trans h.kept.tape, Nat.le_trans h.kept.size hb.size,
      fun b h1 h2 hm => (hb.block b (Nat.lt_of_lt_of_le h1 h.kept.size)).trans (h.kept.old b h1 h2 hm),
      fun b h1 hm cs t h2 => by
        obtain ⟨cs', h3, h4⟩ := h.kept.ios b h1 hm cs t h2
        exact ⟨cs', by rw [hb.block b (Nat.lt_of_lt_of_le h1 h.kept.size)]; exact h3, h4⟩⟩
  · obtain ⟨O, h1, h2, h3⟩ := h.slots k
    refine ⟨O, RelV.keep _ _ _ (fun l _ => hβ l) (fun b hbO => hb.block b (h2 b hbO).1) h1, fun b hbO => hIm b (h2 b hbO), fun hd => ⟨(h3 hd).1, fun b hbO => ⟨((h3 hd).2 b hbO).1, hFree b (h2 b hbO).1 ((h3 hd).2 b hbO).2⟩⟩⟩
  · obtain ⟨O, h1, h2, h3⟩ := h.objs l ob hl
    refine ⟨O, fun b hbO => hIm b (h1 b hbO), fun hd => ⟨(h2 hd).1, fun b hbO => ⟨((h2 hd).2 b hbO).1, hFree b (h1 b hbO).1 ((h2 hd).2 b hbO).2⟩⟩, ?_⟩
    rcases h3 with h3 | ⟨b, cs, t, g1, g2, g3, g4⟩
    · exact .inl h3
    · refine .inr ⟨b, cs, t, g1, g2, by rw [hb.block b (h.block_lt g1)]; exact g3, ?_⟩
      cases hbx : ob.box with
      | true => rw [hbx] at g4; exact RelL.keep _ _ _ _ (fun _ _ l _ => hβ l) (fun b hbO => hb.block b (h1 b hbO).1) g4
      | false => rw [hbx] at g4; exact RelL.keep _ _ _ _ (fun _ _ l _ => KeepB.dead _ _ l) (fun b hbO => hb.block b (h1 b hbO).1) g4
  · obtain ⟨h1, h2⟩ := h.own b hb'
    exact ⟨Nat.lt_of_lt_of_le h1 hb.size, h2⟩

theorem getD_put_same {tmps : Array Value} {d : Nat} {c : Value} (h : d < tmps.size) : (tmps.setIfInBounds d c).getD d undef = c := by
  simp [Array.getD_eq_getD_getElem?, h]
theorem getD_put_ne {tmps : Array Value} {d k : Nat} {c : Value} (h : d ≠ k) : (tmps.setIfInBounds d c).getD k undef = tmps.getD k undef := by
  simp only [Array.getD_eq_getD_getElem?, Array.getElem?_setIfInBounds_ne h]

/-- Slot d takes a value that may be shared. -/
theorem SimG.put (h : SimG Γ ow β E a w) {d : Nat} (hd : d < N) {v : PV} {c : Value} {O : List Nat} (hv : RelV w.heap β v c O) (hO : ∀ b ∈ O, Im Γ ow w b) :
    SimG Γ ow β (E.app ⟨[(d, ⟨v, false⟩)], []⟩) (a.put (some d) c) w := by
  refine { size := by simp [Act.put, h.size], defers := by simp [Act.put, h.defers], kept := h.kept, slots := fun k => ?_, objs := by simpa [Env.app] using h.objs, gone := by simpa [Env.app] using h.gone, own := h.own, ios := by simpa [Env.app] using h.ios, fresh := h.fresh }
  simp only [Env.app, List.cons_append, List.nil_append, lk_cons, Act.put]
  by_cases hk : d = k
  · subst hk
    rw [if_pos rfl, getD_put_same (by rw [h.size]; exact hd)]
    exact ⟨O, hv, hO, by simp⟩
  · rw [if_neg hk, getD_put_ne hk]; exact h.slots k

/-- Slot d takes a value whose blocks are all its own; ow' gives them to it. -/
theorem SimG.putDeep (h : SimG Γ ow β E a w) {d : Nat} (hd : d < N) {v : PV} {c : Value} {O : List Nat} (hv : RelV w.heap β v c O) (hO : ∀ b ∈ O, Im Γ ow w b) (hn : O.Nodup) (hf : ∀ b ∈ O, Free w b ∧ (Γ.nw b))
    (hfresh : ∀ b ∈ O, ow b = .none ∨ ow b = .slot d) :
    SimG Γ (fun b => if b ∈ O then .slot d else ow b) β (E.app ⟨[(d, ⟨v, true⟩)], []⟩) (a.put (some d) c) w := by
  have hIm : ∀ b, Im Γ ow w b → Im Γ (fun b => if b ∈ O then Own.slot d else ow b) w b := by
    intro b ⟨h1, h2, h3⟩
    refine ⟨h1, h2, fun l => ?_⟩
    by_cases hb : b ∈ O
    · simp [hb]
    · simp [hb, h3 l]
  refine { size := by simp [Act.put, h.size], defers := by simp [Act.put, h.defers], kept := h.kept, slots := fun k => ?_, objs := fun l ob hl => ?_, gone := by simpa [Env.app] using h.gone, own := fun b hb => ?_, ios := by simpa [Env.app] using h.ios, fresh := h.fresh }
  · simp only [Env.app, List.cons_append, List.nil_append, lk_cons, Act.put]
    by_cases hk : d = k
    · subst hk
      rw [if_pos rfl, getD_put_same (by rw [h.size]; exact hd)]
      exact ⟨O, hv, fun b hb => hIm b (hO b hb), fun _ => ⟨hn, fun b hb => ⟨by simp [hb], (hf b hb).1⟩⟩⟩
    · rw [if_neg hk, getD_put_ne hk]
      obtain ⟨O', g1, g2, g3⟩ := h.slots k
      refine ⟨O', g1, fun b hb => hIm b (g2 b hb), fun hdp => ⟨(g3 hdp).1, fun b hb => ⟨?_, ((g3 hdp).2 b hb).2⟩⟩⟩
      have := ((g3 hdp).2 b hb).1
      by_cases hbO : b ∈ O
      · rcases hfresh b hbO with e | e <;> rw [e] at this <;> simp at this
        exact absurd this hk
      · simp [hbO, this]
  · simp only [Env.app, List.nil_append] at hl
    obtain ⟨O', g1, g2, g3⟩ := h.objs l ob hl
    refine ⟨O', fun b hb => hIm b (g1 b hb), fun hdp => ⟨(g2 hdp).1, fun b hb => ⟨?_, ((g2 hdp).2 b hb).2⟩⟩, ?_⟩
    · have := ((g2 hdp).2 b hb).1
      by_cases hbO : b ∈ O
      · rcases hfresh b hbO with e | e <;> rw [e] at this <;> simp at this
      · simp [hbO, this]
    · rcases g3 with g3 | ⟨b, cs, t, e1, e2, e3, e4⟩
      · exact .inl g3
      · refine .inr ⟨b, cs, t, e1, ?_, e3, e4⟩
        by_cases hbO : b ∈ O
        · rcases hfresh b hbO with e | e <;> rw [e] at e2 <;> simp at e2
        · simp [hbO, e2]
  · by_cases hbO : b ∈ O
    · exact ⟨(hO b hbO).1, .inl (hf b hbO).2⟩
    · simp only [hbO, if_false] at hb ⊢; exact h.own b hb

/-- Slot d takes over the value of slot s, with all that was its own. -/
theorem SimG.take (h : SimG Γ ow β E a w) {d s : Nat} (hd : d < N) (hne : d ≠ s) {v : PV} {dp : Bool} (hs : lk E.s s = ⟨v, dp⟩) :
    ∃ ow', SimG Γ ow' β (E.app ⟨[(d, ⟨v, dp⟩), (s, ⟨.any, false⟩)], []⟩) (a.put (some d) (a.tmps.getD s undef)) w := by
  obtain ⟨O, hv, hO, hdp⟩ := h.slots s
  rw [hs] at hv hdp
  let ow' : Nat → Own := fun b => if b ∈ O ∧ dp = true then .slot d else ow b
  have hIm : ∀ b, Im Γ ow w b → Im Γ ow' w b := by
    intro b ⟨h1, h2, h3⟩
    refine ⟨h1, h2, fun l => ?_⟩
    show (if _ then _ else _) ≠ _
    split
    · simp
    · exact h3 l
  refine ⟨ow', { size := by simp [Act.put, h.size], defers := by simp [Act.put, h.defers], kept := h.kept, slots := fun k => ?_, objs := fun l ob hl => ?_, gone := by simpa [Env.app] using h.gone, own := fun b hb => ?_, ios := by simpa [Env.app] using h.ios, fresh := h.fresh }⟩
  · simp only [Env.app, List.cons_append, List.nil_append, lk_cons, Act.put]
    by_cases hk : d = k
    · subst hk
      rw [if_pos rfl, getD_put_same (by rw [h.size]; exact hd)]
      exact ⟨O, hv, fun b hb => hIm b (hO b hb), fun hx => ⟨(hdp hx).1, fun b hb => ⟨by show (if _ then _ else _) = _; rw [if_pos ⟨hb, hx⟩], ((hdp hx).2 b hb).2⟩⟩⟩
    · rw [if_neg hk, getD_put_ne hk]
      by_cases hks : s = k
      · rw [if_pos hks]; exact ⟨[], by simp [RelV], by simp, by simp⟩
      · rw [if_neg hks]
        obtain ⟨O', g1, g2, g3⟩ := h.slots k
        refine ⟨O', g1, fun b hb => hIm b (g2 b hb), fun hx => ⟨(g3 hx).1, fun b hb => ⟨?_, ((g3 hx).2 b hb).2⟩⟩⟩
        have e := ((g3 hx).2 b hb).1
        show (if _ then _ else _) = _
        split
        · rename_i hc
          have := ((hdp hc.2).2 b hc.1).1
          rw [e] at this; simp at this; exact absurd this.symm hks
        · exact e
  · simp only [Env.app, List.nil_append] at hl
    obtain ⟨O', g1, g2, g3⟩ := h.objs l ob hl
    refine ⟨O', fun b hb => hIm b (g1 b hb), fun hx => ⟨(g2 hx).1, fun b hb => ⟨?_, ((g2 hx).2 b hb).2⟩⟩, ?_⟩
    · have e := ((g2 hx).2 b hb).1
      show (if _ then _ else _) = _
      split
      · rename_i hc
        have := ((hdp hc.2).2 b hc.1).1
        rw [e] at this; simp at this
      · exact e
    · rcases g3 with g3 | ⟨b, cs, t, e1, e2, e3, e4⟩
      · exact .inl g3
      · refine .inr ⟨b, cs, t, e1, ?_, e3, e4⟩
        show (if _ then _ else _) = _
        split
        · rename_i hc
          have := ((hdp hc.2).2 b hc.1).1
          rw [e2] at this; simp at this
        · exact e2
  · have : ow b ≠ .none := by
      intro e
      apply hb
      show (if _ then _ else _) = _
      split
      · rename_i hc
        have := ((hdp hc.2).2 b hc.1).1
        rw [e] at this; simp at this
      · exact e
    obtain ⟨g1, g2⟩ := h.own b this
    refine ⟨g1, g2.imp id fun ⟨l, g3, g4⟩ => ⟨l, ?_, g4⟩⟩
    show (if _ then _ else _) = _
    split
    · rename_i hc
      have := ((hdp hc.2).2 b hc.1).1
      rw [g3] at this; simp at this
    · exact g3
end
end Go.Ev
