/- The engine, part E: own blocks: one is laid (or an elder one is taken over), one is written. -/
import Derived.Test.YtlfbihajihpchaaGreatEvD
set_option linter.all false
namespace Go.Ev
open Go.RowKit (Below)

theorem lk_killed (ks : List Nat) (E : List (Nat × Slot)) (k : Nat) : lk (ks.map (fun j => (j, (⟨.any, false⟩ : Slot))) ++ E) k = if k ∈ ks then ⟨.any, false⟩ else lk E k := by
  induction ks with
  | nil => simp
  | cons j r ih =>
    simp only [List.map_cons, List.cons_append, lk_cons, ih, List.mem_cons]
    by_cases h : j = k
    · subst h; simp
    · rw [if_neg h]
      by_cases h2 : k ∈ r
      · simp [h2]
      · have : ¬ k = j := fun e => h e.symm
        simp [h2, this]
theorem lo_dropped (ls : List Nat) (E : List (Nat × Option Ob)) (k : Nat) : lo (ls.map (fun j => (j, (none : Option Ob))) ++ E) k = if k ∈ ls then none else lo E k := by
  induction ls with
  | nil => simp
  | cons j r ih =>
    simp only [List.map_cons, List.cons_append, lo_cons, ih, List.mem_cons]
    by_cases h : j = k
    · subst h; simp
    · rw [if_neg h]
      by_cases h2 : k ∈ r
      · simp [h2]
      · have : ¬ k = j := fun e => h e.symm
        simp [h2, this]

section
variable {P : Program} {N : Nat} {Γ : Ctx P N} {ow : Nat → Own} {β : Nat → Option (Option Nat)} {E : Env} {a : Act} {w : World}

structure Same (w w' : World) : Prop where
  os : w'.os = w.os
  output : w'.output = w.output
  tape : w'.tape = w.tape
  size : w.heap.size ≤ w'.heap.size

theorem SimG.lab_ne (h : SimG Γ ow β E a w) {m b : Nat} (hm : β m = some (some b)) : ow b = .lab m := by
  cases ho : lo E.o m with
  | none => rw [h.gone m ho] at hm; cases hm
  | some ob =>
    obtain ⟨O, _, _, h1⟩ := h.objs m ob ho
    rcases h1 with ⟨h1, _⟩ | ⟨b', cs, t, h1, h2, _, _⟩
    · rw [h1] at hm; cases hm
    · rw [h1] at hm; cases hm; exact h2

theorem nw_ne {b b0 : Nat} (h0 : Γ.nww b0) (h1 : b < Γ.base) (h2 : ¬ Γ.mine b) : b ≠ b0 := by
  rintro rfl
  rcases h0 with g | g
  · omega
  · exact h2 g
theorem SimG.lay (h : SimG Γ ow β E a w) {w' : World} (hw : Same w w') {b0 : Nat} (hlt : b0 < w'.heap.size) (hother : ∀ b, b < w.heap.size → b ≠ b0 → w'.heap[b]? = w.heap[b]?)
    {cs : Array Value} {t : TypeId} (hrow : w'.heap[b0]? = some (.cells cs t (0, 0))) {l : Nat} (hl : NoLab E l) (hio : Γ.io l = none) (ks ls : List Nat)
    (horig : w.heap.size ≤ b0 ∨ ∃ m ∈ ls, β m = some (some b0)) (hbase : Γ.nww b0) (ob : Ob) {O : List Nat}
    (hrel : RelL w'.heap true (if ob.box then β else dead) ob.cells cs 0 O) (hlab : ob.box = true → ∀ p ∈ ob.cells, l ∉ p.labs) (hO : ∀ b ∈ O, Im Γ ow w b)
    (hdeep : ob.deep = true → O.Nodup ∧ ∀ b ∈ O, Free w b ∧ Γ.nw b ∧ ((∃ k ∈ ks, ow b = .slot k) ∨ (∃ m ∈ ls, ow b = .obj m) ∨ ow b = .none)) :
    ∃ ow', SimG Γ ow' (fun m => if m = l then some (some b0) else if m ∈ ls then none else β m) (E.app ⟨ks.map (fun j => (j, ⟨.any, false⟩)), (l, some ob) :: ls.map (fun j => (j, none))⟩) a w' := by
  let β' : Nat → Option (Option Nat) := fun m => if m = l then some (some b0) else if m ∈ ls then none else β m
  let ow' : Nat → Own := fun b => if b = b0 then .lab l else if b ∈ O ∧ ob.deep = true then .obj l else ow b
  have hImne : ∀ b, Im Γ ow w b → b ≠ b0 := by
    rintro b ⟨h1, _, h3⟩ rfl
    rcases horig with h | ⟨m, _, hm⟩
    · omega
    · exact h3 m (h.lab_ne hm)
  have hIm : ∀ b, Im Γ ow w b → Im Γ ow' w' b := by
    intro b hb
    refine ⟨Nat.lt_of_lt_of_le hb.1 hw.size, hb.2.1, fun m => ?_⟩
    show (if _ then _ else _) ≠ _
    rw [if_neg (hImne b hb)]
    split
    · simp
    · exact hb.2.2 m
  have hFree : ∀ b, Im Γ ow w b → Free w b → Free w' b := fun b hb ⟨c, t, hc⟩ => ⟨c, t, by rw [hother b hb.1 (hImne b hb)]; exact hc⟩
  -- blocks of the other own rows
  have hβb : ∀ m b, β m = some (some b) → m ∉ ls → b ≠ b0 := by
    rintro m b hm hnl rfl
    rcases horig with h1 | ⟨m', hm', he⟩
    · have := h.block_lt hm; omega
    · have e1 := h.lab_ne hm
      have e2 := h.lab_ne he
      rw [e1] at e2; simp at e2; subst e2; exact hnl hm'
  have hkeep : ∀ m, m ≠ l → KeepB w.heap w'.heap β β' m := by
    intro m hne o ho
    have ho' : (if m ∈ ls then none else β m) = some o := by
      have : β' m = (if m ∈ ls then none else β m) := by show (if _ then _ else _) = _; rw [if_neg hne]
      rw [← this]; exact ho
    by_cases hm : m ∈ ls
    · rw [if_pos hm] at ho'; cases ho'
    · rw [if_neg hm] at ho'
      refine ⟨ho', fun b hob c t hc => ⟨c, ?_, rfl⟩⟩
      subst hob
      rw [hother b (h.block_lt ho') (hβb m b ho' hm)]; exact hc
  have hheap : ∀ b, Im Γ ow w b → w'.heap[b]? = w.heap[b]? := fun b hb => hother b hb.1 (hImne b hb)
  refine ⟨ow', { size := h.size, defers := h.defers, kept := ?_, slots := fun k => ?_, objs := fun m ob' hm => ?_, gone := fun m hm => ?_, own := fun b hb => ?_, ios := fun m b hm hs => ?_, fresh := fun m b hm hiom => ?_ }⟩
  · refine ⟨hw.os.trans h.kept.os, hw.output.trans h.kept.output, hw.tape.trans h.kept.tape, Nat.le_trans h.kept.size hw.size, fun b h1 h2 hmi => ?_, fun b h1 hmi c t h2 => ?_⟩
    · exact (hother b (Nat.lt_of_lt_of_le h1 h.kept.size) (nw_ne hbase h1 hmi)).trans (h.kept.old b h1 h2 hmi)
    · obtain ⟨c', h3, h4⟩ := h.kept.ios b h1 hmi c t h2
      exact ⟨c', by rw [hother b (Nat.lt_of_lt_of_le h1 h.kept.size) (nw_ne hbase h1 hmi)]; exact h3, h4⟩
  · simp only [Env.app, lk_killed]
    by_cases hk : k ∈ ks
    · rw [if_pos hk]; exact ⟨[], by simp [RelV], by simp, by simp⟩
    · rw [if_neg hk]
      obtain ⟨O', g1, g2, g3⟩ := h.slots k
      refine ⟨O', RelV.keep _ _ _ (fun m hm => hkeep m (fun e => hl.1 k (e ▸ hm))) (fun b hb => hheap b (g2 b hb)) g1, fun b hb => hIm b (g2 b hb), fun hd => ⟨(g3 hd).1, fun b hb => ⟨?_, hFree b (g2 b hb) ((g3 hd).2 b hb).2⟩⟩⟩
      have e := ((g3 hd).2 b hb).1
      show (if _ then _ else _) = _
      rw [if_neg (hImne b (g2 b hb))]
      split
      · rename_i hc
        rcases ((hdeep hc.2).2 b hc.1).2.2 with ⟨k', hk', e'⟩ | ⟨m, _, e'⟩ | e' <;> rw [e] at e' <;> simp at e'
        subst e'; exact absurd hk' hk
      · exact e
  · simp only [Env.app, List.cons_append, lo_cons, lo_dropped] at hm
    by_cases hml : l = m
    · subst hml
      rw [if_pos rfl] at hm; cases hm
      refine ⟨O, fun b hb => hIm b (hO b hb), fun hd => ⟨(hdeep hd).1, fun b hb => ⟨?_, hFree b (hO b hb) ((hdeep hd).2 b hb).1⟩⟩, .inr ⟨b0, cs, t, ?_, ?_, hrow, ?_⟩⟩
      · show (if _ then _ else _) = _
        rw [if_neg (hImne b (hO b hb)), if_pos ⟨hb, hd⟩]
      · show (if _ then _ else _) = _; rw [if_pos rfl]
      · show (if _ then _ else _) = _; rw [if_pos rfl]
      · cases hbx : ob.box with
        | false => rw [hbx] at hrel; simpa using hrel
        | true =>
          rw [hbx] at hrel
          simp only [if_true] at hrel ⊢
          refine RelL.keep _ _ _ _ (fun p hp m hm o ho => ?_) (fun _ _ => rfl) hrel
          have hne : m ≠ l := fun e => hlab hbx p hp (e ▸ hm)
          obtain ⟨g1, g2⟩ := hkeep m hne o ho
          refine ⟨g1, fun b hob c t hc => ?_⟩
          exact ⟨c, hc, rfl⟩
    · rw [if_neg hml] at hm
      by_cases hmls : m ∈ ls
      · rw [if_pos hmls] at hm; cases hm
      · rw [if_neg hmls] at hm
        obtain ⟨O', g1, g2, g3⟩ := h.objs m ob' hm
        have eβ : β' m = β m := by show (if _ then _ else _) = _; rw [if_neg (fun e => hml e.symm), if_neg hmls]
        refine ⟨O', fun b hb => hIm b (g1 b hb), fun hd => ⟨(g2 hd).1, fun b hb => ⟨?_, hFree b (g1 b hb) ((g2 hd).2 b hb).2⟩⟩, ?_⟩
        · have e := ((g2 hd).2 b hb).1
          show (if _ then _ else _) = _
          rw [if_neg (hImne b (g1 b hb))]
          split
          · rename_i hc
            rcases ((hdeep hc.2).2 b hc.1).2.2 with ⟨k', _, e'⟩ | ⟨m', hm', e'⟩ | e' <;> rw [e] at e' <;> simp at e'
            subst e'; exact absurd hm' hmls
          · exact e
        · rcases g3 with ⟨e1, e2, e3⟩ | ⟨b, c, t', e1, e2, e3, e4⟩
          · exact .inl ⟨eβ.trans e1, e2, e3⟩
          · have hbne := hβb m b e1 hmls
            refine .inr ⟨b, c, t', eβ.trans e1, ?_, by rw [hother b (h.block_lt e1) hbne]; exact e3, ?_⟩
            · show (if _ then _ else _) = _
              rw [if_neg hbne]
              split
              · rename_i hc
                exact absurd e2 ((hO b hc.1).2.2 m)
              · exact e2
            · cases hbx : ob'.box with
              | false => rw [hbx] at e4; exact RelL.keep _ _ _ _ (fun _ _ l _ => KeepB.dead _ _ l) (fun b hb => hheap b (g1 b hb)) e4
              | true =>
                rw [hbx] at e4
                exact RelL.keep _ _ _ _ (fun p hp m' hm' => hkeep m' (fun e => hl.2.1 m ob' hm hbx p hp (e ▸ hm'))) (fun b hb => hheap b (g1 b hb)) e4
  · simp only [Env.app, List.cons_append, lo_cons, lo_dropped] at hm
    show (if _ then _ else _) = _
    by_cases hml : m = l
    · subst hml; rw [if_pos rfl] at hm; cases hm
    · rw [if_neg hml]
      rw [if_neg (fun e => hml e.symm)] at hm
      by_cases hmls : m ∈ ls
      · rw [if_pos hmls]
      · rw [if_neg hmls] at hm ⊢; exact h.gone m hm
  · have hb' : (if b = b0 then Own.lab l else if b ∈ O ∧ ob.deep = true then Own.obj l else ow b) ≠ Own.none := hb
    by_cases hbb : b = b0
    · subst hbb; exact ⟨hlt, .inl (.inl hbase)⟩
    · rw [if_neg hbb] at hb'
      by_cases hc : b ∈ O ∧ ob.deep = true
      · exact ⟨Nat.lt_of_lt_of_le (hO b hc.1).1 hw.size, .inl ((hdeep hc.2).2 b hc.1).2.1⟩
      · rw [if_neg hc] at hb'
        obtain ⟨g1, g2⟩ := h.own b hb'
        refine ⟨Nat.lt_of_lt_of_le g1 hw.size, g2.imp id fun ⟨m, g3, g4⟩ => ⟨m, ?_, g4⟩⟩
        show (if _ then _ else _) = _
        rw [if_neg hbb, if_neg hc]; exact g3
  · simp only [Env.app, List.cons_append, lo_cons, lo_dropped] at hs
    have hml : m ≠ l := by rintro rfl; rw [hio] at hm; cases hm
    rw [if_neg (fun e => hml e.symm)] at hs
    have hmls : m ∉ ls := by intro e; rw [if_pos e] at hs; simp at hs
    rw [if_neg hmls] at hs
    show (if _ then _ else _) = _
    rw [if_neg hml, if_neg hmls]; exact h.ios m b hm hs
  · have hm' : (if m = l then some (some b0) else if m ∈ ls then none else β m) = some (some b) := hm
    by_cases hml : m = l
    · rw [if_pos hml] at hm'; cases hm'; exact hbase
    · rw [if_neg hml] at hm'
      by_cases hmls : m ∈ ls
      · rw [if_pos hmls] at hm'; cases hm'
      · rw [if_neg hmls] at hm'; exact h.fresh m b hm' hiom

/-- The row of an own block is written; slots ks give up what was theirs. -/
theorem SimG.rewrite (h : SimG Γ ow β E a w) {w' : World} (hw : Same w w') {l b0 : Nat} (hβ0 : β l = some (some b0)) (hother : ∀ b, b < w.heap.size → b ≠ b0 → w'.heap[b]? = w.heap[b]?)
    {cs cs' : Array Value} {t : TypeId} (hrow0 : w.heap[b0]? = some (.cells cs t (0, 0))) (hrow : w'.heap[b0]? = some (.cells cs' t (0, 0))) (hsz : cs'.size = cs.size) (ks : List Nat) (ob : Ob) {O : List Nat}
    (hrel : RelL w'.heap true (if ob.box then β else dead) ob.cells cs' 0 O) (hO : ∀ b ∈ O, Im Γ ow w b)
    (hdeep : ob.deep = true → O.Nodup ∧ ∀ b ∈ O, Free w b ∧ Γ.nw b ∧ ((∃ k ∈ ks, ow b = .slot k) ∨ ow b = .obj l ∨ ow b = .none)) :
    ∃ ow', SimG Γ ow' β (E.app ⟨ks.map (fun j => (j, ⟨.any, false⟩)), [(l, some ob)]⟩) a w' := by
  let ow' : Nat → Own := fun b => if b ∈ O ∧ ob.deep = true then .obj l else ow b
  have hlab0 := h.lab_ne hβ0
  have hImne : ∀ b, Im Γ ow w b → b ≠ b0 := by rintro b ⟨_, _, h3⟩ rfl; exact h3 l hlab0
  have hIm : ∀ b, Im Γ ow w b → Im Γ ow' w' b := by
    intro b hb
    refine ⟨Nat.lt_of_lt_of_le hb.1 hw.size, hb.2.1, fun m => ?_⟩
    show (if _ then _ else _) ≠ _
    split
    · simp
    · exact hb.2.2 m
  have hFree : ∀ b, Im Γ ow w b → Free w b → Free w' b := fun b hb ⟨c, t, hc⟩ => ⟨c, t, by rw [hother b hb.1 (hImne b hb)]; exact hc⟩
  have hheap : ∀ b, Im Γ ow w b → w'.heap[b]? = w.heap[b]? := fun b hb => hother b hb.1 (hImne b hb)
  have hshape : ∀ b, b < w.heap.size → ShapeOk w.heap w'.heap b := by
    intro b hb c t' hc
    by_cases hbb : b = b0
    · subst hbb; rw [hrow0] at hc; cases hc; exact ⟨cs', hrow, hsz⟩
    · exact ⟨c, by rw [hother b hb hbb]; exact hc, rfl⟩
  have hkeep : ∀ m, KeepB w.heap w'.heap β β m := fun m o ho => ⟨ho, fun b hob => by subst hob; exact hshape b (h.block_lt ho)⟩
  refine ⟨ow', { size := h.size, defers := h.defers, kept := ?_, slots := fun k => ?_, objs := fun m ob' hm => ?_, gone := fun m hm => ?_, own := fun b hb => ?_, ios := fun m b hm hs => ?_, fresh := h.fresh }⟩
  · refine ⟨hw.os.trans h.kept.os, hw.output.trans h.kept.output, hw.tape.trans h.kept.tape, Nat.le_trans h.kept.size hw.size, fun b h1 h2 hmi => ?_, fun b h1 hmi c t' h2 => ?_⟩
    · have hne : b ≠ b0 := by
        rintro rfl
        cases hi : Γ.io l with
        | none =>
          rcases h.fresh l b hβ0 hi with g | g
          · omega
          · exact hmi g
        | some b' =>
          have hsome : (lo E.o l).isSome = true := by
            cases hoo : lo E.o l with
            | none => rw [h.gone l hoo] at hβ0; cases hβ0
            | some _ => rfl
          have := h.ios l b' hi hsome
          rw [hβ0] at this; cases this
          exact h2 l hi
      exact (hother b (Nat.lt_of_lt_of_le h1 h.kept.size) hne).trans (h.kept.old b h1 h2 hmi)
    · obtain ⟨c', h3, h4⟩ := h.kept.ios b h1 hmi c t' h2
      obtain ⟨c'', h5, h6⟩ := hshape b (Nat.lt_of_lt_of_le h1 h.kept.size) c' t' h3
      exact ⟨c'', h5, h6.trans h4⟩
  · simp only [Env.app, lk_killed]
    by_cases hk : k ∈ ks
    · rw [if_pos hk]; exact ⟨[], by simp [RelV], by simp, by simp⟩
    · rw [if_neg hk]
      obtain ⟨O', g1, g2, g3⟩ := h.slots k
      refine ⟨O', RelV.keep _ _ _ (fun m _ => hkeep m) (fun b hb => hheap b (g2 b hb)) g1, fun b hb => hIm b (g2 b hb), fun hd => ⟨(g3 hd).1, fun b hb => ⟨?_, hFree b (g2 b hb) ((g3 hd).2 b hb).2⟩⟩⟩
      have e := ((g3 hd).2 b hb).1
      show (if _ then _ else _) = _
      split
      · rename_i hc
        rcases ((hdeep hc.2).2 b hc.1).2.2 with ⟨k', hk', e'⟩ | e' | e' <;> rw [e] at e' <;> simp at e'
        subst e'; exact absurd hk' hk
      · exact e
  · simp only [Env.app, List.cons_append, List.nil_append, lo_cons] at hm
    by_cases hml : l = m
    · subst hml
      rw [if_pos rfl] at hm; cases hm
      refine ⟨O, fun b hb => hIm b (hO b hb), fun hd => ⟨(hdeep hd).1, fun b hb => ⟨?_, hFree b (hO b hb) ((hdeep hd).2 b hb).1⟩⟩, .inr ⟨b0, cs', t, hβ0, ?_, hrow, hrel⟩⟩
      · show (if _ then _ else _) = _; rw [if_pos ⟨hb, hd⟩]
      · show (if _ then _ else _) = _
        rw [if_neg (fun hc => hImne b0 (hO b0 hc.1) rfl)]; exact hlab0
    · rw [if_neg hml] at hm
      obtain ⟨O', g1, g2, g3⟩ := h.objs m ob' hm
      refine ⟨O', fun b hb => hIm b (g1 b hb), fun hd => ⟨(g2 hd).1, fun b hb => ⟨?_, hFree b (g1 b hb) ((g2 hd).2 b hb).2⟩⟩, ?_⟩
      · have e := ((g2 hd).2 b hb).1
        show (if _ then _ else _) = _
        split
        · rename_i hc
          rcases ((hdeep hc.2).2 b hc.1).2.2 with ⟨k', _, e'⟩ | e' | e' <;> rw [e] at e' <;> simp at e'
          exact absurd e'.symm hml
        · exact e
      · rcases g3 with g3 | ⟨b, c, t', e1, e2, e3, e4⟩
        · exact .inl g3
        · have hbne : b ≠ b0 := by rintro rfl; rw [hlab0] at e2; simp at e2; exact hml e2
          refine .inr ⟨b, c, t', e1, ?_, by rw [hother b (h.block_lt e1) hbne]; exact e3, ?_⟩
          · show (if _ then _ else _) = _
            rw [if_neg (fun hc => (hO b hc.1).2.2 m e2)]; exact e2
          · cases hbx : ob'.box with
            | false => rw [hbx] at e4; exact RelL.keep _ _ _ _ (fun _ _ l _ => KeepB.dead _ _ l) (fun b hb => hheap b (g1 b hb)) e4
            | true => rw [hbx] at e4; exact RelL.keep _ _ _ _ (fun _ _ m' _ => hkeep m') (fun b hb => hheap b (g1 b hb)) e4
  · simp only [Env.app, List.cons_append, List.nil_append, lo_cons] at hm
    by_cases hml : l = m
    · rw [if_pos hml] at hm; cases hm
    · rw [if_neg hml] at hm; exact h.gone m hm
  · have hb' : (if b ∈ O ∧ ob.deep = true then Own.obj l else ow b) ≠ Own.none := hb
    by_cases hc : b ∈ O ∧ ob.deep = true
    · exact ⟨Nat.lt_of_lt_of_le (hO b hc.1).1 hw.size, .inl ((hdeep hc.2).2 b hc.1).2.1⟩
    · rw [if_neg hc] at hb'
      obtain ⟨g1, g2⟩ := h.own b hb'
      refine ⟨Nat.lt_of_lt_of_le g1 hw.size, g2.imp id fun ⟨m, g3, g4⟩ => ⟨m, ?_, g4⟩⟩
      show (if _ then _ else _) = _
      rw [if_neg hc]; exact g3
  · simp only [Env.app, List.cons_append, List.nil_append, lo_cons] at hs
    by_cases hml : l = m
    · subst hml
      have : (lo E.o l).isSome = true := by
        cases ho : lo E.o l with
        | none => rw [h.gone l ho] at hβ0; cases hβ0
        | some _ => rfl
      exact h.ios l b hm this
    · rw [if_neg hml] at hs; exact h.ios m b hm hs
end
end Go.Ev
