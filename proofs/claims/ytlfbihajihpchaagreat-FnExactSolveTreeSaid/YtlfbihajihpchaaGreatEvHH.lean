/- The engine, part HH: cells made known, values forgotten; functions that write what a struct holds. -/
import Derived.Test.YtlfbihajihpchaaGreatEvGG
set_option linter.all false
namespace Go.Ev
open Go.RowKit (Below)
def Forg (p p' : PV) : Prop := ∀ (h : Array Obj) (β : Nat → Option (Option Nat)) (c : Value) (B : List Nat), RelV h β p c B → RelV h β p' c []
theorem Forg.was {v : Value} {p : PV} : Forg (.was v p) (.sc v) := by
  intro h β c B H
  simp only [RelV] at H ⊢
  exact ⟨H.1, trivial⟩
theorem forgL {h : Array Obj} {q : Bool} {β : Nat → Option (Option Nat)} : ∀ {ws : List PV} {cs : Array Value} {i : Nat} {O : List Nat}, allWas ws = true → RelL h q β ws cs i O → RelL h q β (ws.map slp) cs i []
  | [], _, _, _, _, _ => by simp [RelL]
  | p :: ws, cs, i, O, ha, H => by
    cases p with
    | was v p =>
      simp only [List.map_cons, slp, RelL, RelV] at H ⊢
      obtain ⟨c, O1, O2, h1, h2, h3, _⟩ := H
      exact ⟨c, [], [], h1, ⟨h2.1, rfl⟩, forgL (by simpa [allWas] using ha) h3, rfl⟩
    | _ => simp [allWas] at ha
theorem Forg.agg {ws : List PV} (ha : allWas ws = true) : Forg (.agg ws) (.agg (ws.map slp)) := by
  intro h β c B H
  simp only [RelV] at H ⊢
  obtain ⟨cs, h1, h2, h3⟩ := H
  exact ⟨cs, h1, by simpa using h2, forgL ha h3⟩
def wz : List Value → List PV → List PV
  | v :: vs, p :: ps => .was v p :: wz vs ps
  | _, _ => []
theorem relL_wz {h : Array Obj} {q : Bool} {β : Nat → Option (Option Nat)} : ∀ {vs : List Value} {ps : List PV} {cs : Array Value} {i : Nat} {O : List Nat}, vs.length = ps.length → (∀ k, k < vs.length → cs[i + k]? = vs[k]?) → RelL h q β ps cs i O → RelL h q β (wz vs ps) cs i O
  | [], [], _, _, _, _, _, H => by simpa [wz] using H
  | v :: vs, p :: ps, cs, i, O, hl, hk, H => by
    simp only [wz, RelL] at H ⊢
    obtain ⟨c, O1, O2, h1, h2, h3, e⟩ := H
    have h0 := hk 0 (by simp)
    simp only [Nat.add_zero, List.getElem?_cons_zero] at h0
    rw [h1.1] at h0; injection h0 with h0
    refine ⟨c, O1, O2, h1, by simp only [RelV]; exact ⟨h0, h2⟩, relL_wz (by simpa using hl) (fun k hk' => ?_) h3, e⟩
    have := hk (k + 1) (by simpa using hk')
    rw [show i + 1 + k = i + (k + 1) by omega, this]; simp
  | [], _ :: _, _, _, _, hl, _, _ => by simp at hl
  | _ :: _, [], _, _, _, hl, _, _ => by simp at hl
theorem wz_relL {h : Array Obj} {q : Bool} {β : Nat → Option (Option Nat)} : ∀ {vs : List Value} {ps : List PV} {cs : Array Value} {i : Nat} {O : List Nat}, vs.length = ps.length → RelL h q β (wz vs ps) cs i O → (∀ k, k < vs.length → cs[i + k]? = vs[k]?) ∧ RelL h q β ps cs i O
  | [], [], _, _, _, _, H => ⟨fun k hk => by simp at hk, by simpa [wz] using H⟩
  | v :: vs, p :: ps, cs, i, O, hl, H => by
    simp only [wz, RelL] at H ⊢
    obtain ⟨c, O1, O2, h1, h2, h3, e⟩ := H
    simp only [RelV] at h2
    obtain ⟨g1, g2⟩ := wz_relL (by simpa using hl) h3
    refine ⟨fun k hk => ?_, c, O1, O2, h1, h2.2, g2, e⟩
    cases k with
    | zero => simp only [Nat.add_zero, List.getElem?_cons_zero]; rw [h1.1, h2.1]
    | succ k =>
      rw [show i + (k + 1) = i + 1 + k by omega, g1 k (by simpa using hk)]; simp
  | [], _ :: _, _, _, _, hl, _ => by simp at hl
  | _ :: _, [], _, _, _, hl, _ => by simp at hl
section
variable {P : Program} {N : Nat} {Γ : Ctx P N} {S : List (Nat × Slot)} {O : List (Nat × Option Ob)} {ow : Nat → Own} {β : Nat → Option (Option Nat)} {F : Env} {a : Act} {w : World}
theorem SimG.recell (h : SimG Γ ow β ⟨S, O⟩ a w) {l : Nat} {cells cells' : List PV} {dp bx : Bool} (ho : loq O l = some ⟨cells, dp, bx⟩) (hne : cells ≠ [])
    (hr : ∀ cs B, RelL w.heap true (if bx then β else dead) cells cs 0 B → RelL w.heap true (if bx then β else dead) cells' cs 0 B) : SimG Γ ow β ⟨S, (l, some ⟨cells', dp, bx⟩) :: O⟩ a w := by
  have ho' : lo (Env.mk S O).o l = some ⟨cells, dp, bx⟩ := by rw [← loq_lo]; exact ho
  refine { size := h.size, defers := h.defers, kept := h.kept, slots := h.slots, objs := fun m ob hm => ?_, gone := fun m hm => ?_, own := h.own, ios := fun m b hm hs => ?_, fresh := h.fresh }
  · simp only [lo_cons] at hm
    by_cases hml : l = m
    · subst hml
      rw [if_pos rfl] at hm; cases hm
      obtain ⟨B, o1, o2, o3⟩ := h.objs l _ ho'
      refine ⟨B, o1, o2, ?_⟩
      rcases o3 with ⟨_, e2, _⟩ | ⟨b, cs, t, e1, e2, e3, e4⟩
      · exact absurd e2 hne
      · exact .inr ⟨b, cs, t, e1, e2, e3, hr _ _ e4⟩
    · rw [if_neg hml] at hm; exact h.objs m ob hm
  · simp only [lo_cons] at hm
    by_cases hml : l = m
    · rw [if_pos hml] at hm; cases hm
    · rw [if_neg hml] at hm; exact h.gone m hm
  · simp only [lo_cons] at hs
    by_cases hml : l = m
    · subst hml; exact h.ios l b hm (by rw [ho']; rfl)
    · rw [if_neg hml] at hs; exact h.ios m b hm hs
/-- A cell's own value gets a name. -/
theorem CodeT.expose {code : Code} {Q : Exit → Env → Prop} {l c : Nat} {cells : List PV} {p : PV} {dp bx : Bool} (ho : loq O l = some ⟨cells, dp, bx⟩) (hc : cells[c]? = some p)
    (h : ∀ v, CodeT Γ code ⟨S, (l, some ⟨cells.set c (.was v p), dp, bx⟩) :: O⟩ Q) : CodeT Γ code ⟨S, O⟩ Q := by
  rintro a w ⟨ow, β, hs⟩
  have ho' : lo (Env.mk S O).o l = some ⟨cells, dp, bx⟩ := by rw [← loq_lo]; exact ho
  have hne : cells ≠ [] := by rintro rfl; simp at hc
  obtain ⟨B, o1, o2, o3⟩ := hs.objs l _ ho'
  rcases o3 with ⟨_, e2, _⟩ | ⟨b, cs, t, e1, e2, e3, e4⟩
  · exact absurd e2 hne
  · obtain ⟨v, O1, Oc, O2, q1, q2, q3, q4, q5, rfl⟩ := e4.at hc
    refine h v a w ⟨ow, β, { size := hs.size, defers := hs.defers, kept := hs.kept, slots := hs.slots, objs := fun m ob hm => ?_, gone := fun m hm => ?_, own := hs.own, ios := fun m b hm hx => ?_, fresh := hs.fresh }⟩
    · simp only [lo_cons] at hm
      by_cases hml : l = m
      · subst hml
        rw [if_pos rfl] at hm; cases hm
        exact ⟨_, o1, o2, .inr ⟨b, cs, t, e1, e2, e3, RelL.put hc q1 q2 (by simp only [RelV]; exact ⟨trivial, q3⟩) q4 q5⟩⟩
      · rw [if_neg hml] at hm; exact hs.objs m ob hm
    · simp only [lo_cons] at hm
      by_cases hml : l = m
      · rw [if_pos hml] at hm; cases hm
      · rw [if_neg hml] at hm; exact hs.gone m hm
    · simp only [lo_cons] at hx
      by_cases hml : l = m
      · subst hml; exact hs.ios l b hm (by rw [ho']; rfl)
      · rw [if_neg hml] at hx; exact hs.ios m b hm hx
/-- What a rule says of a slot, forgotten but for the value itself. -/
theorem Local.forget {o : Oper} {d : Nat} {p p' : PV} {dp : Bool} {us : List (Nat × Option Ob)} {rs ro nl : List Nat} (hs : Forg p p') (h : Local Γ o ⟨S, O⟩ ⟨[(d, ⟨p, dp⟩)], us⟩ rs ro nl) : Local Γ o ⟨S, O⟩ ⟨[(d, ⟨p', false⟩)], us⟩ rs ro nl := by
  intro F h1 h2 h3 a w hsim Q
  refine Oper.wp_mono ?_ (h F h1 h2 h3 a w hsim Q)
  rintro a' w' ⟨ow, β, h'⟩
  refine ⟨ow, β, { size := h'.size, defers := h'.defers, kept := h'.kept, slots := fun j => ?_, objs := h'.objs, gone := h'.gone, own := h'.own, ios := h'.ios, fresh := h'.fresh }⟩
  obtain ⟨B, g1, g2, g3⟩ := h'.slots j
  simp only [Env.app, List.cons_append, List.nil_append, lk_cons] at g1 g3 ⊢
  by_cases hj : d = j
  · rw [if_pos hj] at g1 g3 ⊢
    exact ⟨[], hs _ _ _ _ g1, by simp, by simp⟩
  · rw [if_neg hj] at g1 g3 ⊢
    exact ⟨B, g1, g2, g3⟩
def RetM (Γ : Ctx P N) (rs : Array ResultVar) (E : Env) (k' : Value) (ws : List PV) : Prop :=
  RetIs Γ rs E (.sc k') true ∧ ∀ a w, Sim Γ E a w → ∃ E' l, Sim Γ E' a w ∧ lo E'.o l = some ⟨ws, true, false⟩
def endsM (Γ : Ctx P N) (rs : Array ResultVar) (k' : Value) (ws : List PV) : Exit → Env → Prop
  | .normal, E => RetM Γ rs E k' ws
  | .ret, E => RetM Γ rs E k' ws
  | _, _ => False
theorem zm2 {E : Env} {rs : Array ResultVar} {k' : Value} {ws : List PV} (h : RetM Γ rs E k' ws) : endsM Γ rs k' ws .ret E := h
theorem RetM.mk {rs : Array ResultVar} {k' : Value} {ws : List PV} (l : Nat) (h : RetIs Γ rs ⟨S, O⟩ (.sc k') true) (ho : loq O l = some ⟨ws, true, false⟩) : RetM Γ rs ⟨S, O⟩ k' ws := ⟨h, fun _ _ hs => ⟨_, l, hs, by rw [← loq_lo]; exact ho⟩⟩
end
theorem MarkC.introS {P : Program} {N : Nat} {f : FuncId} {fn : Func} {c : Code} {cells new : List PV} {k k' : Value} {rs : Array ResultVar} (hf : P.funcs[f]? = some fn) (hb : fn.body = some c) (hN : fn.ntmps = N) (hrs : fn.results = rs) (hn : Nat.ble 2 N = true) (hlen : Nat.beq new.length cells.length = true) (hla : noLabs cells = true)
    (h : ∀ (Γ : Ctx P N) (vs : List Value), vs.length = cells.length → (∀ l, Nat.blt l 100000 = true → Γ.io l = none) → (∀ b, ¬ Γ.lent b) → CodeT Γ c ⟨[(0, ⟨.agg (wz vs cells), true⟩), (1, ⟨.sc k, false⟩)], []⟩ (endsM Γ rs k' (wz vs new))) : MarkC P f (.agg cells) (.agg new) k k' := by
  classical
  intro w c0 B hr hnd hB
  have hn := Nat.le_of_ble_eq_true hn
  have hlen := Nat.eq_of_beq_eq_true hlen
  simp only [RelV] at hr
  obtain ⟨cs, rfl, hsize, hrel⟩ := hr
  let Γ : Ctx P N := { base := w.heap.size, ok := fun _ => False, io := fun _ => none, w0 := w, mine := fun b => b ∈ B, lent := fun _ => False }
  have hsz : (#[Value.agg cs, k] ++ Array.replicate (fn.ntmps - 2) undef).size = N := by
    simp [hN]; omega
  refine calls_of_wp hf hb ?_
  let ow : Nat → Own := fun b => if b ∈ B then .slot 0 else .none
  have how : ∀ b ∈ B, ow b = .slot 0 := fun b hb => by show (if _ then _ else _) = _; rw [if_pos hb]
  have hvs : cs.toList.length = cells.length := by simpa using hsize
  have hsim : Sim Γ ⟨[(0, ⟨.agg (wz cs.toList cells), true⟩), (1, ⟨.sc k, false⟩)], []⟩ { tmps := #[Value.agg cs, k] ++ Array.replicate (fn.ntmps - 2) undef, defers := [] } w := by
    refine ⟨ow, fun _ => none, { size := hsz, defers := rfl, kept := ⟨rfl, rfl, rfl, Nat.le_refl _, fun _ _ _ _ => rfl, fun b _ _ cs t h => ⟨cs, h, rfl⟩⟩, slots := fun j => ?_, objs := fun l ob hl => (by simp [lo] at hl), gone := fun _ _ => rfl, own := fun b hb => ?_, ios := fun l b hl => (by cases hl), fresh := fun l b hl => (by cases hl) }⟩
    · simp only [lk_cons]
      by_cases h0 : 0 = j
      · subst h0
        rw [if_pos rfl]
        refine ⟨B, ?_, fun b hb => ⟨free_lt (hB b hb), .inr (.inl (.inr hb)), fun l => by rw [how b hb]; simp⟩, fun _ => ⟨hnd, fun b hb => ⟨how b hb, hB b hb⟩⟩⟩
        have e : (#[Value.agg cs, k] ++ Array.replicate (fn.ntmps - 2) undef).getD 0 undef = .agg cs := by simp [Array.getD_eq_getD_getElem?, Array.getElem?_append]
        rw [e]
        have hwl : (wz cs.toList cells).length = cells.length := by
          have : ∀ (a : List Value) (b : List PV), a.length = b.length → (wz a b).length = b.length := by
            intro a
            induction a with
            | nil => intro b hb; cases b <;> simp [wz] at hb ⊢
            | cons x a ih => intro b hb; cases b with
              | nil => simp at hb
              | cons y b => simp [wz, ih b (by simpa using hb)]
          exact this _ _ hvs
        simp only [RelV]
        refine ⟨cs, rfl, by rw [hwl]; exact hsize, relL_wz hvs (fun k hk => by simp) (relL_nolab (noLabs_iff hla) hrel)⟩
      · rw [if_neg h0]
        by_cases h1 : 1 = j
        · subst h1
          rw [if_pos rfl]
          have e : (#[Value.agg cs, k] ++ Array.replicate (fn.ntmps - 2) undef).getD 1 undef = k := by simp [Array.getD_eq_getD_getElem?, Array.getElem?_append]
          exact ⟨[], by simp only [RelV]; exact ⟨e, trivial⟩, by simp, by simp⟩
        · rw [if_neg h1]
          exact ⟨[], by simp [RelV, lk], by simp, by simp [lk]⟩
    · by_cases hm : b ∈ B
      · exact ⟨free_lt (hB b hm), .inl (.inl (.inr hm))⟩
      · exfalso; apply hb; show (if _ then _ else _) = _; rw [if_neg hm]
  refine wp_mono (h Γ cs.toList hvs (fun _ _ => rfl) (fun _ h => h) _ _ hsim) fun e a' w' ⟨E', hs', hq⟩ => ?_
  have fin : RetM Γ rs E' k' (wz cs.toList new) → a'.defers = [] ∧ ∃ v, (results fn a'.tmps).run P w' = .ok v w' ∧ Ending.returned v = .returned k' ∧ Same w w' ∧ (∀ b, b < w.heap.size → b ∉ B → w'.heap[b]? = w.heap[b]?) ∧
      ∃ B', RelV w'.heap dead (.agg new) (.agg cs) B' ∧ B'.Nodup ∧ ∀ b ∈ B', Free w' b ∧ (w.heap.size ≤ b ∨ b ∈ B) := by
    rintro ⟨hr1, hr2⟩
    obtain ⟨c, B1, g1, g2, _, _⟩ := hr1 fn hrs a' w' hs'
    simp only [RelV] at g2
    obtain ⟨E2, l, ⟨ow2, β2, hs2⟩, hl⟩ := hr2 a' w' hs'
    obtain ⟨Bo, k1, k2, k3⟩ := hs2.objs l _ hl
    obtain ⟨k2n, k2⟩ := k2 rfl
    refine ⟨hs2.defers, c, g1, by rw [g2.1], ⟨hs2.kept.os, hs2.kept.output, hs2.kept.tape, hs2.kept.size⟩, fun b hb hn2 => hs2.kept.old b hb (fun l e => by cases e) hn2, Bo, ?_, k2n, fun c hc => ⟨(k2 c hc).2, ?_⟩⟩
    · simp only [RelV]
      refine ⟨cs, rfl, by rw [hsize, hlen], ?_⟩
      rcases k3 with ⟨_, e2, e3⟩ | ⟨b', cs', t', k4, k5, k6, k7⟩
      · have : new = [] := by
          simp only at e2
          cases hcs : cs.toList with
          | nil =>
            rw [hcs] at hvs
            exact List.length_eq_zero_iff.1 (by rw [hlen, ← hvs]; rfl)
          | cons x r =>
            cases new with
            | nil => rfl
            | cons y n => rw [hcs] at e2; simp [wz] at e2
        subst this; subst e3; simp [RelL]
      · simp only [Bool.false_eq_true, if_false] at k7
        obtain ⟨m1, m2⟩ := wz_relL (by rw [hvs, hlen]) k7
        exact RelL.shift _ cs' cs 0 0 Bo (fun k hk => by
          have := m1 k (by rw [hvs, ← hlen]; exact hk)
          rw [this]; simp) m2
    · have e := (k2 c hc).1
      rcases (hs2.own c (by rw [e]; simp)).2 with g | ⟨m, g, _⟩
      · exact (g.elim id False.elim : Γ.nww c)
      · rw [e] at g; cases g
  cases e with
  | normal => exact fin hq
  | ret => exact fin hq
  | exit id => exact hq.elim
  | goto l => exact hq.elim
  | panic ch => exact hq.elim
  | outgrown => exact hq.elim
end Go.Ev
namespace Go.Ev
section
variable {α β : Type}
theorem lenS {l : List α} {n : Nat} (h : l.length = n + 1) : ∃ a r, l = a :: r ∧ r.length = n := by
  cases l with
  | nil => simp at h
  | cons a r => exact ⟨a, r, rfl, by simpa using h⟩
theorem len0 {l : List α} (h : l.length = 0) : l = [] := List.length_eq_zero_iff.1 h
theorem set_self {l : List α} {c : Nat} {p q : α} (h : l[c]? = some p) : (l.set c q)[c]? = some q := by
  have := (List.getElem?_eq_some_iff.1 h).1
  simp [this]
theorem set_cut {l : List α} {c : Nat} {p q : α} (h : l[c]? = some p) : ((l.set c q).drop c).take 1 = [q] := by
  have hl := (List.getElem?_eq_some_iff.1 h).1
  have hl' : c < (l.set c q).length := by simpa using hl
  rw [List.drop_eq_getElem_cons hl']
  simp
theorem set_cat {l : List α} {c : Nat} {p q q' : α} (h : l[c]? = some p) : (l.set c q).take c ++ [q'] ++ (l.set c q).drop (c + 1) = l.set c q' := by
  have hl := (List.getElem?_eq_some_iff.1 h).1
  have e := List.set_eq_take_append_cons_drop (l := l.set c q) (i := c) (a := q')
  rw [if_pos (by simpa using hl), List.set_set] at e
  rw [e]; simp
theorem row_posS {l : List α} {enc : α → List PV} {j : Int} {y : α} {sz c : Nat} {q : PV} {dp bx : Bool} (hl : idx l j = some y) (h : ∀ y, (enc y).length = sz) (h0 : 0 < sz) : Nat.blt 0 (Ob.mk ((l.flatMap enc).set c q) dp bx).cells.length = true := by
  have := row_pos (dp := dp) (bx := bx) hl h h0
  simp only [List.length_set] at this ⊢; exact this
theorem row_softM {l x : List α} {enc : α → List PV} {j : Int} {y y' : α} {sz o : Nat} {w : Value} {q : PV} (hx : letO (setI l j y') = some x) (hl : idx l j = some y) (h : ∀ y, (enc y).length = sz) (ho : o + 1 ≤ sz) (he : (enc y).take o ++ [q] ++ (enc y).drop (o + 1) = enc y') :
    SoftL ((l.flatMap enc).set (j.toNat * sz + o) (.was w q)) (x.flatMap enc) := by
  have e := row_fldL (n := 1) hx hl h ho he
  have hlen := row_ble (n := 1) hl h ho
  have hlen := Nat.le_of_ble_eq_true hlen
  rw [← e, List.set_eq_take_append_cons_drop, if_pos (by omega)]
  rw [List.append_assoc]
  exact SoftL.app (SoftL.refl _) (SoftL.cons Soft.was (SoftL.refl _))
end
end Go.Ev
