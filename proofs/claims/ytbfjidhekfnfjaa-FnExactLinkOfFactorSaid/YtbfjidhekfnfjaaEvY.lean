/- The engine, part Y: rows within rows: an own row taken out of another and put back; rows with rows within, handed over. -/
import Derived.Test.YtbfjidhekfnfjaaEvX
set_option linter.all false
namespace Go.Ev
open Go.RowKit (Below)
section
variable {P : Program} {N : Nat} {Γ : Ctx P N} {S : List (Nat × Slot)} {O : List (Nat × Option Ob)} {ow : Nat → Own} {β : Nat → Option (Option Nat)} {F : Env} {a : Act} {w : World}

/-- slots whose values read blocks of others are given up -/
def sweep1 (s : Slot) : Slot := bif quiet s then s else ⟨.any, false⟩
def sweepS : List (Nat × Slot) → List (Nat × Slot)
  | [] => []
  | (k, s) :: r => (k, sweep1 s) :: sweepS r
theorem sweepS_lk : ∀ (s : List (Nat × Slot)) (k : Nat), lk (sweepS s) k = sweep1 (lk s k)
  | [], k => rfl
  | (j, v) :: r, k => by
    simp only [sweepS, lk_cons]
    by_cases h : j = k
    · rw [if_pos h, if_pos h]
    · rw [if_neg h, if_neg h]; exact sweepS_lk r k
theorem sweep1_quiet (s : Slot) : quiet (sweep1 s) = true := by
  unfold sweep1
  cases h : quiet s with
  | true => simpa using h
  | false => simp [quiet, noRead]
/-- Values that read others' blocks are given up. -/
theorem Ent.sweep : Ent Γ ⟨S, O⟩ ⟨sweepS S, O⟩ := by
  rintro a w ⟨ow, β, h⟩
  refine ⟨ow, β, { size := h.size, defers := h.defers, kept := h.kept, slots := fun k => ?_, objs := h.objs, gone := h.gone, own := h.own, ios := h.ios, fresh := h.fresh }⟩
  simp only [sweepS_lk]
  unfold sweep1
  cases hq : quiet (lk S k) with
  | true => simpa using h.slots k
  | false => exact ⟨[], by simp [RelV], by simp, by simp⟩

/-- all own blocks but these either hold what is theirs or read nothing -/
def quietOs (ls : List Nat) : List (Nat × Option Ob) → Bool
  | [] => true
  | (_, none) :: r => quietOs ls r
  | (m, some ob) :: r => (memB ls m || quietO ob) && quietOs ls r
theorem quietOs_lo {ls : List Nat} : ∀ {O : List (Nat × Option Ob)}, quietOs ls O = true → ∀ m ob, lo O m = some ob → m ∉ ls → quietO ob = true
  | [], _, m, ob, h, _ => by simp [lo] at h
  | (j, none) :: r, hq, m, ob, h, hm => by
    rw [lo_cons] at h
    by_cases hj : j = m
    · rw [if_pos hj] at h; cases h
    · rw [if_neg hj] at h; exact quietOs_lo (O := r) hq m ob h hm
  | (j, some o) :: r, hq, m, ob, h, hm => by
    simp only [quietOs, Bool.and_eq_true, Bool.or_eq_true] at hq
    rw [lo_cons] at h
    by_cases hj : j = m
    · rw [if_pos hj] at h; cases h
      rcases hq.1 with e | e
      · subst hj; exact absurd ((memB_iff _ _).1 e) hm
      · exact e
    · rw [if_neg hj] at h; exact quietOs_lo hq.2 m ob h hm

theorem RelL.at {h : Array Obj} {β : Nat → Option (Option Nat)} {cells : List PV} {cs : Array Value} {O : List Nat} {c : Nat} {p : PV} (H : RelL h true β cells cs 0 O) (hc : cells[c]? = some p) :
    ∃ v O1 Oc O2, cs[c]? = some v ∧ v.oneCell' = true ∧ RelV h β p v Oc ∧ RelL h true β (cells.take c) cs 0 O1 ∧ RelL h true β (cells.drop (c + 1)) cs (c + 1) O2 ∧ O = O1 ++ (Oc ++ O2) := by
  have hlt : c < cells.length := (List.getElem?_eq_some_iff.1 hc).1
  have e : cells = cells.take c ++ p :: cells.drop (c + 1) := by
    rw [← (List.getElem?_eq_some_iff.1 hc).2, List.getElem_cons_drop, List.take_append_drop]
  rw [e] at H
  obtain ⟨O1, O3, h1, h2, rfl⟩ := (RelL.append _ _ _ _ _).1 H
  simp only [RelL] at h2
  obtain ⟨v, Oc, O2, g1, g2, g3, rfl⟩ := h2
  have hl : (cells.take c).length = c := by rw [List.length_take]; omega
  rw [hl, Nat.zero_add] at g1 g3
  exact ⟨v, O1, Oc, O2, g1.1, by simpa using g1.2, g2, h1, g3, rfl⟩
theorem RelL.put {h : Array Obj} {β : Nat → Option (Option Nat)} {cells : List PV} {cs : Array Value} {c : Nat} {p q : PV} {v : Value} {O1 Oc O2 : List Nat} (hc : cells[c]? = some p) (hv : cs[c]? = some v) (h1c : v.oneCell' = true) (hq : RelV h β q v Oc)
    (h1 : RelL h true β (cells.take c) cs 0 O1) (h2 : RelL h true β (cells.drop (c + 1)) cs (c + 1) O2) : RelL h true β (cells.set c q) cs 0 (O1 ++ (Oc ++ O2)) := by
  have hlt : c < cells.length := (List.getElem?_eq_some_iff.1 hc).1
  have hl : (cells.take c).length = c := by rw [List.length_take]; omega
  rw [List.set_eq_take_append_cons_drop, if_pos hlt]
  refine (RelL.append _ _ _ _ _).2 ⟨O1, Oc ++ O2, h1, ?_, rfl⟩
  simp only [RelL]
  rw [hl, Nat.zero_add]
  exact ⟨v, Oc, O2, ⟨hv, fun _ => h1c⟩, hq, h2, rfl⟩
theorem noLabs_take {cells : List PV} (h : noLabs cells = true) : ∀ p ∈ cells, p.labs = [] := noLabs_iff h

/-- An own row within an own row gets a label of its own. -/
theorem Ent.unpack (l L c : Nat) {s n : Nat} {cells cs' : List PV} {bx : Bool} (ho : loq O l = some ⟨cells, true, bx⟩) (hc : cells[c]? = some (.rw s n cs')) (hbx : (bx || noLabs cells) = true) (hq : quietOs [l] O = true) (hL : says ⟨S, O⟩ L = false) (hlo : loq O L = none) (hio : Γ.io L = none) (hle : ∀ b, ¬ Γ.lent b) :
    Ent Γ ⟨S, O⟩ ⟨sweepS S, (l, some ⟨cells.set c (.ref L s 0 n), true, true⟩) :: (L, some ⟨cs', true, false⟩) :: O⟩ := by
  classical
  rintro a w ⟨ow, β, h⟩
  have hnl := NoLab.of_says hL
  have ho' : lo (Env.mk S O).o l = some ⟨cells, true, bx⟩ := by rw [← loq_lo]; exact ho
  have hlo' : lo O L = none := by rw [← loq_lo]; exact hlo
  have hne : l ≠ L := by rintro rfl; simp only at ho'; rw [hlo'] at ho'; cases ho'
  obtain ⟨Ol, o1, o2, o3⟩ := h.objs l _ ho'
  obtain ⟨nd, o2⟩ := o2 rfl
  rcases o3 with ⟨_, e, _⟩ | ⟨b0, cs, t, p1, p2, p3, p4⟩
  · simp only at e; subst e; simp at hc
  simp only at p4
  obtain ⟨v, O1, Oc, O2, q1, q2, q3, q4, q5, rfl⟩ := p4.at hc
  -- the block of the row within
  have hrow : ∃ (o : Option Nat) (ns : List Nat), Oc = o.toList ++ ns ∧ ((o = none ∧ n = 0 ∧ cs' = [] ∧ ns = [] ∧ v = .slice none 0 0) ∨ ∃ b cap cs2 t2, o = some b ∧ (v = .slice (some ⟨b, 0, none⟩) n cap ∧ n ≤ cap ∧ cap * s ≤ cs2.size) ∧ w.heap[b]? = some (.cells cs2 t2 (0, 0)) ∧ RelL w.heap true dead cs' cs2 0 ns) := by
    simp only [RelV] at q3
    rcases q3 with ⟨e1, e2, e3, e4⟩ | ⟨b, cap, cs2, t2, O', e1, e2, e3, e4⟩
    · exact ⟨none, [], by simpa using e3, .inl ⟨rfl, e1, e2, rfl, e4⟩⟩
    · exact ⟨some b, O', by simpa using e4, .inr ⟨b, cap, cs2, t2, rfl, e1, e2, e3⟩⟩
  obtain ⟨o, ns, rfl, hcase⟩ := hrow
  have hbo : ∀ b, o = some b → b ∈ O1 ++ ((o.toList ++ ns) ++ O2) := fun b e => by subst e; simp
  have hns : ∀ b ∈ ns, b ∈ O1 ++ ((o.toList ++ ns) ++ O2) := fun b hb => by simp [hb]
  have nd1 := List.nodup_append.1 nd
  have nd2 := List.nodup_append.1 nd1.2.1
  have nd3 := List.nodup_append.1 nd2.1
  have hdis : ∀ b, (o = some b ∨ b ∈ ns) → b ∉ O1 ++ O2 := by
    intro b hb hm
    have hb' : b ∈ o.toList ++ ns := by
      rcases hb with e | e
      · subst e; simp
      · simp [e]
    rcases List.mem_append.1 hm with hm | hm
    · exact nd1.2.2 b hm b (by simp only [List.mem_append]; exact .inl (List.mem_append.1 hb')) rfl
    · exact nd2.2.2 b hb' b hm rfl
  have hon : ∀ b, o = some b → b ∉ ns := fun b e hb => by subst e; exact nd3.2.2 b (by simp) b hb rfl
  let ow' : Nat → Own := fun b => if o = some b then .lab L else if b ∈ ns then .obj L else ow b
  let β' : Nat → Option (Option Nat) := fun m => if m = L then some o else β m
  have hβL : β L = none := h.gone L hlo'
  have hβ' : ∀ m, m ≠ L → β' m = β m := fun m hm => by show (if _ then _ else _) = _; rw [if_neg hm]
  have hβ'L : β' L = some o := by show (if _ then _ else _) = _; rw [if_pos rfl]
  have howl : ∀ b, (o = some b ∨ b ∈ ns) → ow b = .obj l := fun b hb => (o2 b (hb.elim (hbo b) (hns b))).1
  have how' : ∀ b, ow b ≠ .obj l → ow' b = ow b := by
    intro b hb
    show (if _ then _ else if _ then _ else _) = _
    rw [if_neg (fun e => hb (howl b (.inl e))), if_neg (fun e => hb (howl b (.inr e)))]
  have how2 : ∀ b, b ∈ O1 ++ O2 → ow' b = .obj l := by
    intro b hb
    show (if _ then _ else if _ then _ else _) = _
    rw [if_neg (fun e => hdis b (.inl e) hb), if_neg (fun e => hdis b (.inr e) hb)]
    exact (o2 b (by rcases List.mem_append.1 hb with hb | hb <;> simp [hb])).1
  have how3 : ∀ b ∈ ns, ow' b = .obj L := by
    intro b hb
    show (if _ then _ else if _ then _ else _) = _
    rw [if_neg (fun e => hon b e hb), if_pos hb]
  have how4 : ∀ b, o = some b → ow' b = .lab L := fun b e => by show (if _ then _ else _) = _; rw [if_pos e]
  have hkeep : ∀ m, m ≠ L → KeepB w.heap w.heap β β' m := fun m hm ob e => ⟨by rw [hβ' m hm] at e; exact e, fun b _ c t hc => ⟨c, hc, rfl⟩⟩
  have hImk : ∀ b, Im Γ ow w b → ow b ≠ .obj l → Im Γ ow' w b := fun b ⟨h1, h2, h3⟩ hn => ⟨h1, h2, fun m => by rw [how' b hn]; exact h3 m⟩
  refine ⟨ow', β', { size := h.size, defers := h.defers, kept := h.kept, slots := fun k => ?_, objs := fun m ob hm => ?_, gone := fun m hm => ?_, own := fun b hb => ?_, ios := fun m b hm hs => ?_, fresh := fun m b hm hiom => ?_ }⟩
  · simp only [sweepS_lk]
    unfold sweep1
    cases hqu : quiet (lk S k) with
    | false => exact ⟨[], by simp [RelV], by simp, by simp⟩
    | true =>
      simp only [cond_true]
      obtain ⟨B, g1, g2, g3⟩ := h.slots k
      have g1' : RelV w.heap β' (lk S k).v (a.tmps.getD k undef) B := RelV.keep _ _ _ (fun m hm => hkeep m (fun e => hnl.1 k (e ▸ hm))) (fun _ _ => rfl) g1
      unfold quiet at hqu
      rw [Bool.or_eq_true] at hqu
      rcases hqu with hd | hr
      · obtain ⟨n1, n2⟩ := g3 hd
        have hno : ∀ b ∈ B, ow b ≠ .obj l := fun b hb e => by rw [(n2 b hb).1] at e; cases e
        exact ⟨B, g1', fun b hb => hImk b (g2 b hb) (hno b hb), fun _ => ⟨n1, fun b hb => ⟨by rw [how' b (hno b hb)]; exact (n2 b hb).1, (n2 b hb).2⟩⟩⟩
      · have := noRead_nil _ hr g1
        subst this
        exact ⟨[], g1', by simp, fun hd => ⟨by simp, by simp⟩⟩
  · simp only [lo_cons] at hm
    by_cases hml : l = m
    · subst hml
      rw [if_pos rfl] at hm; cases hm
      refine ⟨O1 ++ O2, fun b hb => ?_, fun _ => ⟨?_, fun b hb => ⟨how2 b hb, (o2 b (by rcases List.mem_append.1 hb with hb | hb <;> simp [hb])).2⟩⟩, .inr ⟨b0, cs, t, by rw [hβ' l hne]; exact p1, ?_, p3, ?_⟩⟩
      · have := o1 b (by rcases List.mem_append.1 hb with hb | hb <;> simp [hb])
        exact ⟨this.1, this.2.1, fun m => by rw [how2 b hb]; simp⟩
      · exact List.nodup_append.2 ⟨nd1.1, nd2.2.1, fun x hx y hy => nd1.2.2 x hx y (by simp [hy])⟩
      · rw [how' b0 (by rw [p2]; simp)]; exact p2
      · simp only [if_true]
        have hcell : ∀ (γ : Nat → Option (Option Nat)) (ps : List PV), (∀ p ∈ ps, p ∈ cells) → ∀ {cs : Array Value} {i : Nat} {B : List Nat}, RelL w.heap true (if bx then β else dead) ps cs i B → RelL w.heap true β' ps cs i B := by
          intro _ ps hps cs i B H
          cases bx with
          | true =>
            simp only [if_true] at H
            exact RelL.keep _ _ _ _ (fun p hp m' hm' => hkeep m' (fun e => hnl.2.1 l _ ho' rfl p (hps p hp) (e ▸ hm'))) (fun _ _ => rfl) H
          | false =>
            simp only [Bool.false_or] at hbx
            simp only [Bool.false_eq_true, if_false] at H
            exact relL_nolab (fun p hp => noLabs_iff hbx p (hps p hp)) H
        have := RelL.put (q := .ref L s 0 n) (Oc := []) hc q1 q2 (by
          simp only [RelV]
          rcases hcase with ⟨rfl, e1, e2, e3, e4⟩ | ⟨b, cap, cs2, t2, rfl, ⟨e1, e2, e3⟩, e4, e5⟩
          · exact ⟨trivial, fun _ => ⟨e1, trivial, e4⟩, fun b e => by rw [hβ'L] at e; cases e⟩
          · refine ⟨trivial, (fun e => by rw [hβ'L] at e; cases e), fun b' e => ?_⟩
            rw [hβ'L] at e; cases e
            exact ⟨cap, cs2, t2, by simpa using e1, e4, by simpa using e3, e2⟩) (hcell β' _ (fun p hp => List.mem_of_mem_take hp) q4) (hcell β' _ (fun p hp => List.mem_of_mem_drop hp) q5)
        simpa using this
    · rw [if_neg hml] at hm
      by_cases hmL : L = m
      · subst hmL
        rw [if_pos rfl] at hm; cases hm
        refine ⟨ns, fun b hb => ?_, fun _ => ⟨nd3.2.1, fun b hb => ⟨how3 b hb, (o2 b (hns b hb)).2⟩⟩, ?_⟩
        · have := o1 b (hns b hb)
          exact ⟨this.1, this.2.1, fun m => by rw [how3 b hb]; simp⟩
        · rcases hcase with ⟨rfl, e1, e2, e3, e4⟩ | ⟨b, cap, cs2, t2, rfl, e1, e4, e5⟩
          · exact .inl ⟨hβ'L, e2, e3⟩
          · exact .inr ⟨b, cs2, t2, hβ'L, how4 b rfl, e4, by simpa using e5⟩
      · rw [if_neg hmL] at hm
        obtain ⟨B, g1, g2, g3⟩ := h.objs m ob hm
        have hqo := quietOs_lo hq m ob hm (by simpa using fun e => hml e.symm)
        have hno : ∀ b ∈ B, ow b ≠ .obj l := by
          intro b hb e
          unfold quietO at hqo
          rw [Bool.or_eq_true] at hqo
          rcases hqo with hd | hr
          · have := ((g2 hd).2 b hb).1
            rw [e] at this; injection this with e'; exact hml e'
          · rcases g3 with ⟨_, _, e3⟩ | ⟨_, _, _, _, _, _, g4⟩
            · subst e3; cases hb
            · rw [noReadL_nil _ hr g4] at hb; cases hb
        refine ⟨B, fun b hb => hImk b (g1 b hb) (hno b hb), fun hd => ⟨(g2 hd).1, fun b hb => ⟨by rw [how' b (hno b hb)]; exact ((g2 hd).2 b hb).1, ((g2 hd).2 b hb).2⟩⟩, ?_⟩
        rcases g3 with ⟨e1, e2, e3⟩ | ⟨b, c1, t1, e1, e2, e3, e4⟩
        · exact .inl ⟨by rw [hβ' m (fun e => hmL e.symm)]; exact e1, e2, e3⟩
        · refine .inr ⟨b, c1, t1, by rw [hβ' m (fun e => hmL e.symm)]; exact e1, by rw [how' b (by rw [e2]; simp)]; exact e2, e3, ?_⟩
          cases hbb : ob.box with
          | false => rw [hbb] at e4; exact e4
          | true => rw [hbb] at e4; exact RelL.keep _ _ _ _ (fun p hp m' hm' => hkeep m' (fun e => hnl.2.1 m ob hm hbb p hp (e ▸ hm'))) (fun _ _ => rfl) e4
  · simp only [lo_cons] at hm
    by_cases hml : l = m
    · rw [if_pos hml] at hm; cases hm
    · rw [if_neg hml] at hm
      by_cases hmL : L = m
      · rw [if_pos hmL] at hm; cases hm
      · rw [if_neg hmL] at hm; rw [hβ' m (fun e => hmL e.symm)]; exact h.gone m hm
  · rcases Classical.em (o = some b ∨ b ∈ ns) with hb' | hb'
    · have e := howl b hb'
      obtain ⟨g1, g2⟩ := h.own b (by rw [e]; simp)
      refine ⟨g1, .inl ?_⟩
      rcases g2 with g | ⟨m, g, _⟩
      · exact g
      · rw [e] at g; cases g
    · have e : ow' b = ow b := by
        show (if _ then _ else if _ then _ else _) = _
        rw [if_neg (fun e => hb' (.inl e)), if_neg (fun e => hb' (.inr e))]
      rw [e] at hb
      obtain ⟨g1, g2⟩ := h.own b hb
      exact ⟨g1, by rw [e]; exact g2⟩
  · have hmL : m ≠ L := fun e => by rw [e, hio] at hm; cases hm
    rw [hβ' m hmL]
    refine h.ios m b hm ?_
    simp only [lo_cons] at hs
    by_cases hml : l = m
    · subst hml; rw [ho']; rfl
    · rw [if_neg hml, if_neg (fun e => hmL e.symm)] at hs; exact hs
  · by_cases hmL : m = L
    · subst hmL
      rw [hβ'L] at hm
      have e := howl b (.inl (Option.some.inj hm))
      rcases (h.own b (by rw [e]; simp)).2 with g | ⟨m, g, _⟩
      · exact g.elim id (fun g => absurd g (hle b))
      · rw [e] at g; cases g
    · rw [hβ' m hmL] at hm; exact h.fresh m b hm hiom
end
end Go.Ev
