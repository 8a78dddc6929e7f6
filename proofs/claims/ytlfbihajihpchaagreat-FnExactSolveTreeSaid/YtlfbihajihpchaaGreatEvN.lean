/- The engine, part N: own blocks become values again; results out of own blocks; changes of view. -/
import Derived.Test.YtlfbihajihpchaaGreatEvM
set_option linter.all false
namespace Go.Ev
open Go.RowKit (Below)

section
variable {P : Program} {N : Nat} {Γ : Ctx P N} {S : List (Nat × Slot)} {O : List (Nat × Option Ob)} {ow : Nat → Own} {β : Nat → Option (Option Nat)} {F : Env} {a : Act} {w : World}
variable {d : Nat} {ty : TypeId} {pos : String} {af : Array Edge} {g : Option (Nat × Bool)}

open Classical in
/-- An own block is given up; what it held goes to slot d. -/
theorem SimG.toSlot (h : SimG Γ ow β F a w) {l : Nat} {ob : Ob} (ho : lo F.o l = some ob) (hio : Γ.io l = none) {d : Nat} (hd : d < N) {v : PV} {c : Value} {B : List Nat} {dp : Bool} (hv : RelV w.heap dead v c B) (hB : ∀ b ∈ B, Im Γ ow w b ∨ ow b = .lab l)
    (hdeep : dp = true → B.Nodup ∧ ∀ b ∈ B, (ow b = .obj l ∨ ow b = .lab l) ∧ Free w b) (hvl : v.labs = []) :
    ∃ ow', SimG Γ ow' (fun m => if m = l then none else β m) (F.app ⟨[(d, ⟨v, dp⟩)], [(l, none)]⟩) (a.put (some d) c) w := by
  let β' : Nat → Option (Option Nat) := fun m => if m = l then none else β m
  let ow' : Nat → Own := fun b => if b ∈ B ∧ dp = true then .slot d else if ow b = .lab l ∨ ow b = .obj l then .none else ow b
  have hbase : ∀ b, ow b = .obj l ∨ ow b = .lab l → b < w.heap.size ∧ Γ.nw b := by
    intro b hb
    have hne : ow b ≠ .none := by rcases hb with e | e <;> rw [e] <;> simp
    obtain ⟨h1, h2⟩ := h.own b hne
    refine ⟨h1, ?_⟩
    rcases h2 with h2 | ⟨m, h2, h3⟩
    · exact h2
    · rcases hb with e | e <;> rw [e] at h2 <;> cases h2
      rw [hio] at h3; cases h3
  have hnolab : ∀ b m, ow b ≠ .lab m → ow' b ≠ .lab m := by
    intro b m hb
    show (if _ then _ else if _ then _ else _) ≠ _
    split
    · simp
    · split
      · simp
      · exact hb
  have hIm : ∀ b, Im Γ ow w b → Im Γ ow' w b := fun b ⟨h1, h2, h3⟩ => ⟨h1, h2, fun m => hnolab b m (h3 m)⟩
  have hkeep : ∀ m, KeepB w.heap w.heap β β' m := by
    intro m o ho
    have ho' : (if m = l then none else β m) = some o := ho
    by_cases hm : m = l
    · rw [if_pos hm] at ho'; cases ho'
    · rw [if_neg hm] at ho'; exact ⟨ho', fun b _ c t hc => ⟨c, hc, rfl⟩⟩
  have hInew : ∀ b ∈ B, Im Γ ow' w b := by
    intro b hb
    rcases hB b hb with h1 | h1
    · exact hIm b h1
    · obtain ⟨q1, q2⟩ := hbase b (.inr h1)
      refine ⟨q1, .inr q2, fun m => ?_⟩
      show (if _ then _ else if _ then _ else _) ≠ _
      split
      · simp
      · rw [if_pos (.inl h1)]; simp
  -- blocks that belong to others stay theirs
  have hstay : ∀ b o, ow b = o → (∀ x, o ≠ .lab l ∧ o ≠ .obj l ∧ (o = .slot x → True)) → (dp = true → b ∈ B → False) → ow' b = o := by
    intro b o hb ho hn
    show (if _ then _ else if _ then _ else _) = _
    rw [if_neg (fun hc => hn hc.2 hc.1), if_neg]
    · exact hb
    · rw [hb]; rintro (e | e)
      · exact (ho 0).1 e
      · exact (ho 0).2.1 e
  have hBown : ∀ b o, ow b = o → o ≠ .lab l → o ≠ .obj l → dp = true → b ∈ B → False := by
    intro b o hb h1 h2 hdp hbB
    rcases ((hdeep hdp).2 b hbB).1 with e | e <;> rw [e] at hb <;> subst hb
    · exact h2 rfl
    · exact h1 rfl
  refine ⟨ow', { size := by simp [Act.put, h.size], defers := by simp [Act.put, h.defers], kept := h.kept, slots := fun k => ?_, objs := fun m ob' hm => ?_, gone := fun m hm => ?_, own := fun b hb => ?_, ios := fun m b hm hs => ?_, fresh := fun m b hm hi => ?_ }⟩
  · simp only [Env.app, List.cons_append, List.nil_append, lk_cons, Act.put]
    by_cases hk : d = k
    · subst hk
      rw [if_pos rfl, getD_put_same (by rw [h.size]; exact hd)]
      refine ⟨B, hv.nolab hvl, hInew, fun hx => ⟨(hdeep hx).1, fun b hb => ⟨?_, ((hdeep hx).2 b hb).2⟩⟩⟩
      show (if _ then _ else _) = _
      rw [if_pos ⟨hb, hx⟩]
    · rw [if_neg hk, getD_put_ne hk]
      obtain ⟨B', g1, g2, g3⟩ := h.slots k
      refine ⟨B', RelV.keep _ _ _ (fun m _ => hkeep m) (fun _ _ => rfl) g1, fun b hb => hIm b (g2 b hb), fun hx => ⟨(g3 hx).1, fun b hb => ⟨?_, ((g3 hx).2 b hb).2⟩⟩⟩
      have e := ((g3 hx).2 b hb).1
      exact hstay b _ e (fun _ => ⟨by simp, by simp, fun _ => trivial⟩) (hBown b _ e (by simp) (by simp))
  · simp only [Env.app, List.cons_append, List.nil_append, lo_cons] at hm
    by_cases hml : l = m
    · rw [if_pos hml] at hm; cases hm
    · rw [if_neg hml] at hm
      obtain ⟨B', g1, g2, g3⟩ := h.objs m ob' hm
      have eβ : β' m = β m := by show (if _ then _ else _) = _; rw [if_neg (fun e => hml e.symm)]
      have ho1 : ∀ x, ow x = Own.obj m → ow' x = .obj m := fun x e => hstay x _ e (fun _ => ⟨by simp, by simp; exact fun e => hml e.symm, fun _ => trivial⟩) (hBown x _ e (by simp) (by simp; exact fun e => hml e.symm))
      have ho2 : ∀ x, ow x = Own.lab m → ow' x = .lab m := fun x e => hstay x _ e (fun _ => ⟨by simp; exact fun e => hml e.symm, by simp, fun _ => trivial⟩) (hBown x _ e (by simp; exact fun e => hml e.symm) (by simp))
      refine ⟨B', fun b hb => hIm b (g1 b hb), fun hx => ⟨(g2 hx).1, fun b hb => ⟨ho1 b ((g2 hx).2 b hb).1, ((g2 hx).2 b hb).2⟩⟩, ?_⟩
      rcases g3 with ⟨e1, e2, e3⟩ | ⟨b, cs, t, e1, e2, e3, e4⟩
      · exact .inl ⟨eβ.trans e1, e2, e3⟩
      · refine .inr ⟨b, cs, t, eβ.trans e1, ho2 b e2, e3, ?_⟩
        cases hbx : ob'.box with
        | false => rw [hbx] at e4; exact e4
        | true => rw [hbx] at e4; exact RelL.keep _ _ _ _ (fun p _ m' _ => hkeep m') (fun _ _ => rfl) e4
  · simp only [Env.app, List.cons_append, List.nil_append, lo_cons] at hm
    show (if _ then _ else _) = _
    by_cases hml : m = l
    · rw [if_pos hml]
    · rw [if_neg hml]; rw [if_neg (fun e => hml e.symm)] at hm; exact h.gone m hm
  · have hb' : (if b ∈ B ∧ dp = true then Own.slot d else if ow b = .lab l ∨ ow b = .obj l then .none else ow b) ≠ .none := hb
    by_cases hc : b ∈ B ∧ dp = true
    · obtain ⟨q1, q2⟩ := hbase b ((hdeep hc.2).2 b hc.1).1
      exact ⟨q1, .inl q2⟩
    · rw [if_neg hc] at hb'
      by_cases hc2 : ow b = .lab l ∨ ow b = .obj l
      · rw [if_pos hc2] at hb'; simp at hb'
      · rw [if_neg hc2] at hb'
        obtain ⟨g1, g2⟩ := h.own b hb'
        refine ⟨g1, g2.imp id fun ⟨m, g3, g4⟩ => ⟨m, ?_, g4⟩⟩
        show (if _ then _ else if _ then _ else _) = _
        rw [if_neg hc, if_neg hc2]; exact g3
  · simp only [Env.app, List.cons_append, List.nil_append, lo_cons] at hs
    have hml : m ≠ l := by rintro rfl; rw [hio] at hm; cases hm
    rw [if_neg (fun e => hml e.symm)] at hs
    show (if _ then _ else _) = _
    rw [if_neg hml]; exact h.ios m b hm hs
  · have hm' : (if m = l then none else β m) = some (some b) := hm
    by_cases hml : m = l
    · rw [if_pos hml] at hm'; cases hm'
    · rw [if_neg hml] at hm'; exact h.fresh m b hm' hi

theorem put_same {a : Act} {k : Nat} : a.put (some k) (a.tmps.getD k undef) = a := by
  cases a with
  | mk tmps defers =>
    simp only [Act.put]
    congr 1
    apply Array.ext_getElem?
    intro j
    rw [Array.getElem?_setIfInBounds]
    by_cases hj : k = j
    · subst hj
      by_cases hlt : k < tmps.size
      · simp [hlt]
      · simp [hlt]
    · simp [hj]

/-- An own row becomes a value by itself. -/
theorem Ent.freeze {k l s n : Nat} {cells : List PV} {dp dp0 : Bool} (hk : lkq S k = some ⟨.ref l s 0 n, dp0⟩) (ho : loq O l = some ⟨cells, dp, false⟩) (hio : Γ.io l = none) (hN : Nat.blt k N = true) :
    Ent Γ ⟨S, O⟩ ⟨(k, ⟨.sl n cells, dp⟩) :: S, (l, none) :: O⟩ := by
  rintro a w ⟨ow, β, h⟩
  obtain ⟨B, h1, _, _⟩ := h.slots k
  rw [lkq_lk hk] at h1
  simp only [RelV] at h1
  have ho' : lo (Env.mk S O).o l = some ⟨cells, dp, false⟩ := by rw [← loq_lo]; exact ho
  obtain ⟨Bo, o1, o2, hob⟩ := h.objs l _ ho'
  have hkN := (blt_iff _ _).1 hN
  rcases hob with ⟨p1, p2, p3⟩ | ⟨b, cs, t, p1, p2, p3, p4⟩
  · obtain ⟨rfl, _, e⟩ := h1.2.1 p1
    simp only at p2; subst p2; subst p3
    obtain ⟨ow', h'⟩ := h.toSlot ho' hio hkN (v := .sl 0 []) (c := a.tmps.getD k undef) (B := []) (dp := dp) (by simp only [RelV]; exact .inl ⟨trivial, trivial, trivial, _, _, e⟩) (by simp) (by simp) rfl
    rw [put_same] at h'
    exact ⟨_, _, h'⟩
  · obtain ⟨cap, cs', t', q1, q2, q3, q4⟩ := h1.2.2 b p1
    simp only [Nat.zero_mul] at q1
    obtain ⟨ow', h'⟩ := h.toSlot ho' hio hkN (v := .sl n cells) (c := a.tmps.getD k undef) (B := b :: Bo) (dp := dp) (by
        simp only [RelV]; exact .inr ⟨b, 0, cap, cs, t, (0, 0), Bo, ⟨q1, q4⟩, p3, p4, rfl⟩) (fun c hc => by
        rcases List.mem_cons.1 hc with rfl | hc
        · exact .inr p2
        · exact .inl (o1 c hc)) (fun hx => by
        obtain ⟨e1, e2⟩ := o2 hx
        refine ⟨List.nodup_cons.2 ⟨fun hb => (by have := (e2 b hb).1; rw [p2] at this; cases this), e1⟩, fun c hc => ?_⟩
        rcases List.mem_cons.1 hc with rfl | hc
        · exact ⟨.inr p2, _, _, p3⟩
        · exact ⟨.inl (e2 c hc).1, (e2 c hc).2⟩) rfl
    rw [put_same] at h'
    exact ⟨_, _, h'⟩

/-- A whole struct is loaded out of an own block for the last time: all that is its own goes along. -/
theorem L_ldPAT {x : Operand} {t n by_ l : Nat} {cells : List PV} {dp : Bool} [ht : TI P t n true by_] (hx : evq S x = some (.ptr l 0)) (ho : loq O l = some ⟨cells, dp, false⟩) (hn : Nat.beq cells.length n = true) (hn0 : n ≠ 0) (hnl : noLabs cells = true) (hio : Γ.io l = none) (hd : Nat.blt d N = true) :
    Local Γ ⟨some d, .load t x, ty, pos, af, g⟩ ⟨S, O⟩ ⟨[(d, ⟨.agg cells, dp⟩)], [(l, none)]⟩ (ors x) [l] [] := by
  intro F hs hlo _
  refine opT_of_run fun a w ⟨ow, β, hsim⟩ => ?_
  obtain ⟨B, h1, h2⟩ := ev_rel hsim hx hs
  simp only [RelV] at h1
  have hn := Nat.eq_of_beq_eq_true hn
  have ho' : lo F.o l = some ⟨cells, dp, false⟩ := by rw [hlo l (by simp), ← loq_lo]; exact ho
  obtain ⟨Bo, o1, o2, hob⟩ := hsim.objs l _ ho'
  rcases hob with ⟨_, e, _⟩ | ⟨b, cs, u, e1, e2, e3, e4⟩
  · simp only at e; subst e; simp at hn; exact absurd hn.symm hn0
  · have hlen := RelL.length _ _ _ _ (Nat.zero_le _) e4
    refine ⟨.agg (cs.extract 0 (0 + n)), w, by simp [execOp, h1.2 b e1, run_loadAgg (t := t) w e3 (show 0 + n ≤ cs.size by simp only at hlen; omega)], ?_⟩
    obtain ⟨ow', h'⟩ := hsim.toSlot ho' hio ((blt_iff _ _).1 hd) (v := .agg cells) (c := .agg (cs.extract 0 (0 + n))) (B := Bo) (dp := dp) (by
      simp only [RelV]; exact ⟨_, rfl, by simp only at hlen; simp; omega, rel_extract hn e4⟩) (fun c hc => .inl (o1 c hc)) (fun hx => ⟨(o2 hx).1, fun c hc => ⟨.inl ((o2 hx).2 c hc).1, ((o2 hx).2 c hc).2⟩⟩) (by simp only [PV.labs]; exact noLabs_labsL hnl)
    exact ⟨_, _, h'⟩

/-- A row as a result. -/
theorem Res1.ref {t l s n : Nat} {cells : List PV} {dp dp0 : Bool} (h : lkq S t = some ⟨.ref l s 0 n, dp0⟩) (ho : loq O l = some ⟨cells, dp, false⟩) (hio : Γ.io l = none) : Res1 Γ ⟨S, O⟩ (.tmp t) (.sl n cells) (if dp then .obj l else .none) := by
  intro ow β a w hs
  obtain ⟨B, h1, _, _⟩ := hs.slots t
  rw [lkq_lk h] at h1
  simp only [RelV] at h1
  obtain ⟨Bo, o1, o2, hob⟩ := hs.objs l ⟨cells, dp, false⟩ (by rw [← loq_lo]; exact ho)
  rcases hob with ⟨p1, p2, p3⟩ | ⟨b, cs, u, p1, p2, p3, p4⟩
  · obtain ⟨rfl, _, e⟩ := h1.2.1 p1
    simp only at p2; subst p2
    exact ⟨_, [], rfl, by simp only [RelV]; exact .inl ⟨trivial, trivial, trivial, _, _, e⟩, by simp, by simp⟩
  · obtain ⟨cap, cs', u', q1, _, _, q4⟩ := h1.2.2 b p1
    simp only [Nat.zero_mul] at q1
    refine ⟨_, b :: Bo, rfl, by simp only [RelV]; exact .inr ⟨b, 0, cap, cs, u, (0, 0), Bo, ⟨q1, q4⟩, p3, p4, rfl⟩, fun c hc => ?_, fun hne => ?_⟩
    · rcases List.mem_cons.1 hc with rfl | hc
      · exact ⟨hs.block_lt p1, .inr (.inl (hs.fresh l _ p1 hio))⟩
      · exact ⟨(o1 c hc).1, (o1 c hc).2.1⟩
    · cases dp with
      | false => simp at hne
      | true =>
        obtain ⟨e1, e2⟩ := o2 rfl
        refine ⟨List.nodup_cons.2 ⟨fun hb => (by have := (e2 b hb).1; rw [p2] at this; cases this), e1⟩, fun c hc => ?_⟩
        rcases List.mem_cons.1 hc with rfl | hc
        · exact ⟨⟨_, _, p3⟩, .inl (hs.fresh l _ p1 hio), .inr ⟨l, p2, rfl⟩⟩
        · obtain ⟨f1, f2⟩ := e2 c hc
          refine ⟨f2, ?_, .inl (by rw [f1]; rfl)⟩
          rcases (hs.own c (by rw [f1]; simp)).2 with h | ⟨m, h, _⟩
          · exact h
          · rw [f1] at h; cases h

theorem run_loadVarAgg {t n by_ : Nat} [ht : TI P t n true by_] (w : World) {b k : Nat} {cs : Array Value} {u : TypeId} {fr : Nat × Nat} (hb : w.heap[b]? = some (.cells cs u fr)) (hk : k + n ≤ cs.size) :
    (loadVar t ⟨b, k, none⟩).run P w = .ok (.agg (cs.extract k (k + n))) w := by
  have := run_loadAgg (P := P) (t := t) w hb hk
  simpa [Instr.loadAt, Instr.sureAddr] using this
/-- A struct in a variable as a result. -/
theorem Res1.cell {t ty l n by_ : Nat} {cells : List PV} {dp dp0 : Bool} [ht : TI P ty n true by_] (h : lkq S t = some ⟨.ptr l 0, dp0⟩) (ho : loq O l = some ⟨cells, dp, false⟩) (hn : Nat.beq cells.length n = true) (hn0 : n ≠ 0) : Res1 Γ ⟨S, O⟩ (.cell t ty) (.agg cells) (if dp then .obj l else .none) := by
  intro ow β a w hs
  obtain ⟨B, h1, _, _⟩ := hs.slots t
  rw [lkq_lk h] at h1
  simp only [RelV] at h1
  have hn := Nat.eq_of_beq_eq_true hn
  obtain ⟨Bo, o1, o2, hob⟩ := hs.objs l ⟨cells, dp, false⟩ (by rw [← loq_lo]; exact ho)
  rcases hob with ⟨_, e, _⟩ | ⟨b, cs, u, p1, p2, p3, p4⟩
  · simp only at e; subst e; simp at hn; exact absurd hn.symm hn0
  · have hlen := RelL.length _ _ _ _ (Nat.zero_le _) p4
    simp only at hlen
    refine ⟨.agg (cs.extract 0 (0 + n)), Bo, by simp [resRun, h1.2 b p1, asAddr, run_loadVarAgg (t := ty) w p3 (show 0 + n ≤ cs.size by omega)], ?_, fun c hc => ⟨(o1 c hc).1, (o1 c hc).2.1⟩, fun hne => ?_⟩
    · simp only [RelV]
      exact ⟨_, rfl, by simp; omega, rel_extract hn p4⟩
    · cases dp with
      | false => simp at hne
      | true =>
        obtain ⟨e1, e2⟩ := o2 rfl
        refine ⟨e1, fun c hc => ?_⟩
        obtain ⟨f1, f2⟩ := e2 c hc
        refine ⟨f2, ?_, .inl (by rw [f1]; rfl)⟩
        rcases (hs.own c (by rw [f1]; simp)).2 with h | ⟨m, h, _⟩
        · exact h
        · rw [f1] at h; cases h

/-- Cells: a nil slice may be read as an empty one. -/
inductive LeL : List PV → List PV → Prop
  | nil : LeL [] []
  | same {p : PV} {ps qs : List PV} : LeL ps qs → LeL (p :: ps) (p :: qs)
  | nl {ps qs : List PV} : LeL ps qs → LeL (.sc (.slice none 0 0) :: ps) (.sl 0 [] :: qs)
theorem LeL.refl : ∀ ps : List PV, LeL ps ps
  | [] => .nil
  | _ :: r => .same (LeL.refl r)
theorem LeL.app {a b c e : List PV} (h1 : LeL a b) (h2 : LeL c e) : LeL (a ++ c) (b ++ e) := by
  induction h1 with
  | nil => exact h2
  | same _ ih => exact .same ih
  | nl _ ih => exact .nl ih
theorem LeL.rel {h : Array Obj} {q : Bool} {β : Nat → Option (Option Nat)} {ps qs : List PV} (hl : LeL ps qs) : ∀ {cs : Array Value} {i : Nat} {B : List Nat}, RelL h q β ps cs i B → RelL h q β qs cs i B := by
  induction hl with
  | nil => exact fun H => H
  | same _ ih =>
    intro cs i B H
    simp only [RelL] at H ⊢
    obtain ⟨c, B1, B2, h1, h2, h3, h4⟩ := H
    exact ⟨c, B1, B2, h1, h2, ih h3, h4⟩
  | nl _ ih =>
    intro cs i B H
    simp only [RelL] at H ⊢
    obtain ⟨c, B1, B2, h1, h2, h3, h4⟩ := H
    simp only [RelV] at h2
    exact ⟨c, B1, B2, h1, by simp only [RelV]; exact .inl ⟨trivial, trivial, h2.2, _, _, h2.1⟩, ih h3, h4⟩
theorem Ent.cells {l : Nat} {cells cells' : List PV} {dp bx : Bool} (ho : loq O l = some ⟨cells, dp, bx⟩) (hl : LeL cells cells') (hn : cells = [] → cells' = []) : Ent Γ ⟨S, O⟩ ⟨S, (l, some ⟨cells', dp, bx⟩) :: O⟩ := by
  rintro a w ⟨ow, β, h⟩
  have ho' : lo (Env.mk S O).o l = some ⟨cells, dp, bx⟩ := by rw [← loq_lo]; exact ho
  refine ⟨ow, β, { size := h.size, defers := h.defers, kept := h.kept, slots := h.slots, objs := fun m ob hm => ?_, gone := fun m hm => ?_, own := h.own, ios := fun m b hm hs => ?_, fresh := h.fresh }⟩
  · simp only [lo_cons] at hm
    by_cases hml : l = m
    · subst hml
      rw [if_pos rfl] at hm; cases hm
      obtain ⟨B, o1, o2, o3⟩ := h.objs l _ ho'
      refine ⟨B, o1, o2, o3.imp (fun ⟨e1, e2, e3⟩ => ⟨e1, hn e2, e3⟩) fun ⟨b, cs, t, e1, e2, e3, e4⟩ => ⟨b, cs, t, e1, e2, e3, hl.rel e4⟩⟩
    · rw [if_neg hml] at hm; exact h.objs m ob hm
  · simp only [lo_cons] at hm
    by_cases hml : l = m
    · rw [if_pos hml] at hm; cases hm
    · rw [if_neg hml] at hm; exact h.gone m hm
  · simp only [lo_cons] at hs
    by_cases hml : l = m
    · subst hml; exact h.ios l b hm (by rw [ho']; rfl)
    · rw [if_neg hml] at hs; exact h.ios m b hm hs
end
end Go.Ev
