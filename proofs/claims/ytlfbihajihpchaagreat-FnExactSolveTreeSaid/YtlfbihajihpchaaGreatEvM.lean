/- The engine, part M: nil rows, append. -/
import Derived.Test.YtlfbihajihpchaaGreatEvL
set_option linter.all false
namespace Go.Ev
open Go.RowKit (Below)

section
variable {P : Program} {N : Nat} {Γ : Ctx P N} {S : List (Nat × Slot)} {O : List (Nat × Option Ob)} {ow : Nat → Own} {β : Nat → Option (Option Nat)} {F : Env} {a : Act} {w : World}
variable {d : Nat} {ty : TypeId} {pos : String} {af : Array Edge} {g : Option (Nat × Bool)}

/-- An own row that is nil yet; the rows ls are given up. -/
theorem SimG.layNil (h : SimG Γ ow β F a w) {l : Nat} (hl : NoLab F l) (hio : Γ.io l = none) (ks ls : List Nat) (dp bx : Bool) :
    ∃ ow', SimG Γ ow' (fun m => if m = l then some none else if m ∈ ls then none else β m) (F.app ⟨ks.map (fun j => (j, ⟨.any, false⟩)), (l, some ⟨[], dp, bx⟩) :: ls.map (fun j => (j, none))⟩) a w := by
  let β' : Nat → Option (Option Nat) := fun m => if m = l then some none else if m ∈ ls then none else β m
  let ow' : Nat → Own := fun b => match ow b with
    | .lab m => if m = l ∨ m ∈ ls then .none else .lab m
    | .obj m => if m = l ∨ m ∈ ls then .none else .obj m
    | o => o
  have howl : ∀ b m, ow b ≠ .lab m → ow' b ≠ .lab m := by
    intro b m hb
    show (match ow b with | .lab m => _ | .obj m => _ | o => o) ≠ _
    cases hx : ow b with
    | lab k => simp only; split <;> simp; rintro rfl; exact hb hx
    | obj k => simp only; split <;> simp
    | none => simp
    | slot k => simp
  have hIm : ∀ b, Im Γ ow w b → Im Γ ow' w b := fun b ⟨h1, h2, h3⟩ => ⟨h1, h2, fun m => howl b m (h3 m)⟩
  have hkeep : ∀ m, m ≠ l → KeepB w.heap w.heap β β' m := by
    intro m hne o ho
    have ho' : (if m = l then some none else if m ∈ ls then none else β m) = some o := ho
    rw [if_neg hne] at ho'
    by_cases hm : m ∈ ls
    · rw [if_pos hm] at ho'; cases ho'
    · rw [if_neg hm] at ho'
      exact ⟨ho', fun b _ c t hc => ⟨c, hc, rfl⟩⟩
  have hβ' : ∀ m, m ≠ l → m ∉ ls → β' m = β m := by
    intro m h1 h2
    show (if _ then _ else if _ then _ else _) = _
    rw [if_neg h1, if_neg h2]
  have hslot : ∀ b k, ow b = .slot k → ow' b = .slot k := by
    intro b k hb
    show (match ow b with | .lab m => _ | .obj m => _ | o => o) = _
    rw [hb]
  refine ⟨ow', { size := h.size, defers := h.defers, kept := h.kept, slots := fun k => ?_, objs := fun m ob hm => ?_, gone := fun m hm => ?_, own := fun b hb => ?_, ios := fun m b hm hs => ?_, fresh := fun m b hm hi => ?_ }⟩
  · obtain ⟨B, g1, g2, g3⟩ := h.slots k
    simp only [Env.app, lk_killed]
    by_cases hk : k ∈ ks
    · rw [if_pos hk]; exact ⟨[], by simp [RelV], by simp, by simp⟩
    rw [if_neg hk]
    exact ⟨B, RelV.keep _ _ _ (fun m hm => hkeep m (fun e => hl.1 k (e ▸ hm))) (fun _ _ => rfl) g1, fun b hb => hIm b (g2 b hb), fun hd => ⟨(g3 hd).1, fun b hb => ⟨hslot b k ((g3 hd).2 b hb).1, ((g3 hd).2 b hb).2⟩⟩⟩
  · simp only [Env.app, List.cons_append, lo_cons, lo_dropped] at hm
    by_cases hml : l = m
    · subst hml
      rw [if_pos rfl] at hm; cases hm
      exact ⟨[], by simp, by simp, .inl ⟨by show (if _ then _ else _) = _; rw [if_pos rfl], rfl, rfl⟩⟩
    · rw [if_neg hml] at hm
      by_cases hmls : m ∈ ls
      · rw [if_pos hmls] at hm; cases hm
      · rw [if_neg hmls] at hm
        obtain ⟨B, g1, g2, g3⟩ := h.objs m ob hm
        have eβ := hβ' m (fun e => hml e.symm) hmls
        refine ⟨B, fun b hb => hIm b (g1 b hb), fun hd => ⟨(g2 hd).1, fun b hb => ⟨?_, ((g2 hd).2 b hb).2⟩⟩, ?_⟩
        · have e := ((g2 hd).2 b hb).1
          show (match ow b with | .lab m => _ | .obj m => _ | o => o) = _
          rw [e]; simp only; rw [if_neg]; rintro (e1 | e1)
          · exact hml e1.symm
          · exact hmls e1
        · rcases g3 with ⟨e1, e2, e3⟩ | ⟨b, cs, t, e1, e2, e3, e4⟩
          · exact .inl ⟨eβ.trans e1, e2, e3⟩
          · refine .inr ⟨b, cs, t, eβ.trans e1, ?_, e3, ?_⟩
            · show (match ow b with | .lab m => _ | .obj m => _ | o => o) = _
              rw [e2]; simp only; rw [if_neg]; rintro (e1 | e1)
              · exact hml e1.symm
              · exact hmls e1
            · cases hbx : ob.box with
              | false => rw [hbx] at e4; exact e4
              | true => rw [hbx] at e4; exact RelL.keep _ _ _ _ (fun p hp m' hm' => hkeep m' (fun e => hl.2.1 m ob hm hbx p hp (e ▸ hm'))) (fun _ _ => rfl) e4
  · simp only [Env.app, List.cons_append, lo_cons, lo_dropped] at hm
    by_cases hml : l = m
    · rw [if_pos hml] at hm; cases hm
    · rw [if_neg hml] at hm
      show (if _ then _ else if _ then _ else _) = _
      rw [if_neg (fun e => hml e.symm)]
      by_cases hmls : m ∈ ls
      · rw [if_pos hmls]
      · rw [if_neg hmls] at hm ⊢; exact h.gone m hm
  · have hb' : ow b ≠ .none := by
      intro e; apply hb
      show (match ow b with | .lab m => _ | .obj m => _ | o => o) = _
      rw [e]
    obtain ⟨g1, g2⟩ := h.own b hb'
    refine ⟨g1, g2.imp id fun ⟨m, g3, g4⟩ => ⟨m, ?_, g4⟩⟩
    have : ¬ (m = l ∨ m ∈ ls) := by
      intro hc
      apply hb
      show (match ow b with | .lab m => _ | .obj m => _ | o => o) = _
      rw [g3]; simp only; rw [if_pos hc]
    show (match ow b with | .lab m => _ | .obj m => _ | o => o) = _
    rw [g3]; simp only; rw [if_neg this]
  · simp only [Env.app, List.cons_append, lo_cons, lo_dropped] at hs
    have hml : m ≠ l := by rintro rfl; rw [hio] at hm; cases hm
    rw [if_neg (fun e => hml e.symm)] at hs
    have hmls : m ∉ ls := by intro e; rw [if_pos e] at hs; simp at hs
    rw [if_neg hmls] at hs
    rw [show (if m = l then some none else if m ∈ ls then none else β m) = β' m from rfl, hβ' m hml hmls]
    exact h.ios m b hm hs
  · have hm' : (if m = l then some none else if m ∈ ls then none else β m) = some (some b) := hm
    by_cases hml : m = l
    · rw [if_pos hml] at hm'; cases hm'
    · rw [if_neg hml] at hm'
      by_cases hmls : m ∈ ls
      · rw [if_pos hmls] at hm'; cases hm'
      · rw [if_neg hmls] at hm'; exact h.fresh m b hm' hi

theorem run_app_zero {t e sz by_ : Nat} {agg : Bool} [ht : SlT P t e] [hi : TI P e sz agg by_] (w : World) (ty : TypeId) (bs ad : Option Addr) (n cap c : Nat) (h : n ≤ cap) :
    (Builtin.append_ #[t, t] ty #[.slice bs n cap, .slice ad 0 c]).run P w = .ok (.slice bs n cap) w := by
  obtain ⟨⟨i, e1, e2, _⟩, _⟩ := hi.ok
  have hf : (Builtin.firstCells i.size 0 (.slice ad 0 c)).run P w = .ok #[] w := by
    cases ad with
    | none => exact run_firstCells_none w _ _ _ _
    | some x => exact run_firstCells_some (P := P) w i.size 0 x 0 c [] (by simp) (by simp)
  cases bs with
  | none => simp [Builtin.append_, run_underlying ht.ok, sizeOf, typeInfo, e1, Builtin.lenOf, h, hf]
  | some b => simp [Builtin.append_, run_underlying ht.ok, sizeOf, typeInfo, e1, Builtin.lenOf, h, hf, storeCells]

theorem run_app_room {t e sz by_ : Nat} {agg : Bool} [ht : SlT P t e] [hi : TI P e sz agg by_] (w : World) (ty : TypeId) {b n cap : Nat} {cur : Array Value} {u : TypeId} (hg : w.heap[b]? = some (.cells cur u (0, 0)))
    (x : Addr) (m c : Nat) (news : List Value) (hl : news.length = m * sz) (hnews : ∀ j v, news[j]? = some v → w.cell? (x.add j) = some v) (h1 : ∀ v ∈ news, v.oneCell' = true) (hroom : n + m ≤ cap) (hfit : n * sz + news.length ≤ cur.size) :
    (Builtin.append_ #[t, t] ty #[.slice (some ⟨b, 0, none⟩) n cap, .slice (some x) m c]).run P w = .ok (.slice (some ⟨b, 0, none⟩) (n + m) cap) (w.setRow b (cur.toList.take (n * sz) ++ news ++ cur.toList.drop (n * sz + news.length)).toArray) := by
  obtain ⟨⟨i, e1, e2, _⟩, _⟩ := hi.ok
  subst e2
  have hf := run_firstCells_some (P := P) w i.size m x m c news hl hnews
  have hst := run_storeCells_at P b (n * i.size) u news 0 cur w hg (by simpa using hfit) h1
  simp only [Nat.add_zero] at hst
  simp [Builtin.append_, run_underlying ht.ok, sizeOf, typeInfo, e1, Builtin.lenOf, hroom, hf, Addr.add_lit, hst]

theorem same_drew_alloc (w : World) (ob : Obj) : Same w (w.drew.alloc ob) := ⟨rfl, rfl, rfl, by show _ ≤ (w.heap.push ob).size; simp⟩
theorem drew_new (w : World) (ob : Obj) : (w.drew.alloc ob).heap[w.heap.size]? = some ob := alloc_new w.drew ob
theorem drew_old (w : World) (ob : Obj) {b : Nat} (h : b < w.heap.size) : (w.drew.alloc ob).heap[b]? = w.heap[b]? := alloc_old w.drew ob h

/-- What is appended: the machine's cells. -/
structure News (w : World) (v : Value) (m sz : Nat) (ncells : List PV) (Bp : List Nat) (news : List Value) : Prop where
  len : news.length = m * sz
  one : ∀ v ∈ news, v.oneCell' = true
  rel : RelL w.heap true dead ncells news.toArray 0 Bp
  val : (m = 0 ∧ ∃ ad c, v = .slice ad 0 c) ∨ ∃ x c, v = .slice (some x) m c ∧ ∀ j u, news[j]? = some u → w.cell? (x.add j) = some u

theorem news_of {b off m sz : Nat} {cs : Array Value} {u : TypeId} {f : Nat × Nat} {ncells : List PV} {Bp : List Nat} {c : Nat} (hb : w.heap[b]? = some (.cells cs u f)) (hr : RelL w.heap true dead ncells cs off Bp) (hl : ncells.length = m * sz) :
    ∃ news, News w (.slice (some ⟨b, off, none⟩) m c) m sz ncells Bp news := by
  refine ⟨(cs.extract off (off + ncells.length)).toList, ?_⟩
  have hlen : off ≤ cs.size → off + ncells.length ≤ cs.size := fun h => RelL.length _ _ _ _ h hr
  have hsz : (cs.extract off (off + ncells.length)).size = ncells.length := by
    rw [Array.size_extract]
    rcases Nat.lt_or_ge cs.size off with h | h
    · cases ncells with
      | nil => simp only [List.length_nil, Nat.add_zero]; omega
      | cons p r =>
        simp only [RelL] at hr
        obtain ⟨c, _, _, q1, _⟩ := hr
        have := (Array.getElem?_eq_some_iff.1 q1.1).1
        omega
    · have := hlen h; omega
  have hget : ∀ j, j < ncells.length → (cs.extract off (off + ncells.length)).toList[j]? = cs[off + j]? := by
    intro j hj
    rw [Array.getElem?_toList, Array.getElem?_extract, if_pos]
    rw [Array.size_extract] at hsz
    omega
  refine ⟨by rw [Array.length_toList, hsz, hl], fun v hv => ?_, ?_, .inr ⟨_, _, rfl, fun j v hj => ?_⟩⟩
  · obtain ⟨k, hk, e⟩ := List.getElem_of_mem hv
    have hk' : k < ncells.length := by rw [Array.length_toList, hsz] at hk; exact hk
    obtain ⟨c, g1, g2⟩ := relL_one _ _ _ _ hr k hk'
    have := hget k hk'
    rw [g1, List.getElem?_eq_getElem hk, e] at this
    cases this; exact g2
  · rw [Array.toArray_toList]
    exact rel_extract rfl hr
  · have hk' : j < ncells.length := by
      have := (List.getElem?_eq_some_iff.1 hj).1
      rw [Array.length_toList, hsz] at this; exact this
    rw [hget j hk'] at hj
    rw [Addr.add_lit, cell_of_row w b (off + j) cs u f hb]; exact hj

theorem app_core (hsim : SimG Γ ow β F a w) {t e sz by_ l n m : Nat} {agg dp dp' : Bool} {zs : List PV} [ht : SlT P t e] [hi : TI P e sz agg by_] [hz : ZT P e zs] {cells ncells : List PV} {bv xv : Value} {Bp : List Nat} {news : List Value}
    (hx : RelV w.heap β (.ref l sz 0 n) bv []) (ho : lo F.o l = some ⟨cells, dp, false⟩) (hlen : cells.length = n * sz) (hN : News w xv m sz ncells Bp news) (hnl : ncells.length = m * sz) (hpi : ∀ c ∈ Bp, Im Γ ow w c)
    (hb : (n + m) * by_ ≤ 140737488355328) (h63 : n + m ≤ 9223372036854775807) (hd : d < N) (hio : Γ.io d = none) (hnd : NoLab F d) (hiol : Γ.io l = none)
    (ks : List Nat) (hdp : dp' = true → dp = true ∧ Bp.Nodup ∧ ∀ c ∈ Bp, Free w c ∧ Γ.nw c ∧ ∃ s ∈ ks, ow c = .slot s) :
    ∃ c w', (Builtin.append_ #[t, t] ty #[bv, xv]).run P w = .ok c w' ∧ Sim Γ (F.app ⟨(d, ⟨.ref d sz 0 (n + m), false⟩) :: ks.map (fun j => (j, ⟨.any, false⟩)), [(d, some ⟨cells ++ ncells, dp', false⟩), (l, none)]⟩) (a.put (some d) c) w' := by
  obtain ⟨Bo, o1, o2, hob⟩ := hsim.objs l _ ho
  simp only [RelV] at hx
  obtain ⟨i, z, z1, z2, z3, _, _⟩ := hz.ok
  obtain ⟨⟨i', i1, i2, i3⟩, _⟩ := hi.ok
  rw [z1] at i1; cases i1
  -- ownership of what the new row holds
  have deepOk : ∀ (ls : List Nat), l ∈ ls → dp' = true → (Bo ++ Bp).Nodup ∧ ∀ c ∈ Bo ++ Bp, Free w c ∧ Γ.nw c ∧ ((∃ k ∈ ks, ow c = .slot k) ∨ (∃ m ∈ ls, ow c = .obj m) ∨ ow c = .none) := by
    intro ls hls h
    obtain ⟨d1, d2, d3⟩ := hdp h
    obtain ⟨e1, e2⟩ := o2 d1
    refine ⟨?_, fun c hc => ?_⟩
    · rw [List.nodup_append]
      refine ⟨e1, d2, fun c hc c' hc' e => ?_⟩
      subst e
      obtain ⟨_, _, s, _, e3⟩ := d3 c hc'
      rw [(e2 c hc).1] at e3; cases e3
    · rcases List.mem_append.1 hc with hc | hc
      · obtain ⟨f1, f2⟩ := e2 c hc
        refine ⟨f2, ?_, .inr (.inl ⟨l, hls, f1⟩)⟩
        rcases (hsim.own c (by rw [f1]; simp)).2 with h | ⟨m, h, _⟩
        · exact h
        · rw [f1] at h; cases h
      · obtain ⟨f1, f2, s, f3, f4⟩ := d3 c hc
        exact ⟨f1, f2, .inl ⟨s, f3, f4⟩⟩
  have himAll : ∀ c ∈ Bo ++ Bp, Im Γ ow w c := fun c hc => (List.mem_append.1 hc).elim (o1 c) (hpi c)
  -- m = 0, the base nil: nothing at all
  have hcells0 : m = 0 → ncells = [] := fun h => by subst h; simpa using hnl
  -- a new block
  have newBlock : ∀ (cap : Nat) (cs' : Array Value), RelL w.heap true dead ncells cs' (n * sz) Bp → RelL w.heap true dead cells cs' 0 Bo → n + m ≤ cap → cap * sz ≤ cs'.size →
      Sim Γ (F.app ⟨(d, ⟨.ref d sz 0 (n + m), false⟩) :: ks.map (fun j => (j, ⟨.any, false⟩)), [(d, some ⟨cells ++ ncells, dp', false⟩), (l, none)]⟩) (a.put (some d) (.slice (some ⟨w.heap.size, 0, none⟩) (n + m) cap)) (w.drew.alloc (.cells cs' e)) := by
    intro cap cs' h1 h2 h3 h4
    refine hsim.layPut (ks := ks) (ls := [l]) (same_drew_alloc w _) (b0 := w.heap.size) (by show _ < (w.heap.push _).size; simp) (fun b hb _ => drew_old w _ hb) (drew_new w _) hnd hio (.inl (Nat.le_refl _)) (.inl hsim.kept.size) ⟨cells ++ ncells, dp', false⟩ (B := Bo ++ Bp) ?_ (by simp) himAll (deepOk [l] (by simp)) hd (fun β' hβ => ?_)
    · refine RelL.keep (β := dead) (h := w.heap) _ _ _ _ (fun q _ m _ o hm => by cases hm) (fun c hc => drew_old w _ (himAll c hc).1) ?_
      exact (RelL.append _ _ _ _ _).2 ⟨Bo, Bp, h2, by rw [Nat.zero_add, hlen]; exact h1, rfl⟩
    · simp only [RelV]
      refine ⟨trivial, fun h => by rw [hβ] at h; simp at h, fun b hb => ?_⟩
      rw [hβ] at hb; cases hb
      exact ⟨cap, cs', e, by simp, drew_new w _, by simpa using h4, h3⟩
  have hzsz : z.cells.size = sz := z3.trans i2
  have h48 : ∀ old, old < n + m → Builtin.nextslicecap (n + m) old * i.bytes ≤ 281474976710656 := fun old h => growslice_fits h (by rw [i3]; exact hb)
  rcases hob with ⟨p1, p2, p3⟩ | ⟨b, cs, u, p1, p2, p3, p4⟩
  · -- the base is nil
    obtain ⟨rfl, _, rfl⟩ := hx.2.1 p1
    simp only at p2; subst p2; subst p3
    by_cases hm : m = 0
    · subst hm
      have hnc := hcells0 rfl
      subst hnc
      have hxv : ∃ ad c, xv = .slice ad 0 c := by
        rcases hN.val with ⟨_, ad, c, h⟩ | ⟨x, c, h, _⟩
        · exact ⟨ad, c, h⟩
        · exact ⟨some x, c, h⟩
      obtain ⟨ad, c, rfl⟩ := hxv
      refine ⟨.slice none 0 0, w, run_app_zero (t := t) (e := e) (sz := sz) w ty none ad 0 0 c (Nat.le_refl _), ?_⟩
      obtain ⟨ow', h'⟩ := hsim.layNil hnd hio ks [l] dp' false
      have h2 := h'.put (d := d) (v := .ref d sz 0 0) (c := .slice none 0 0) (O := []) hd (by simp only [RelV]; exact ⟨trivial, fun _ => ⟨trivial, trivial, trivial⟩, fun b hb => by simp at hb⟩) (by simp)
      exact ⟨_, _, h2⟩
    · rcases hN.val with ⟨h0, _⟩ | ⟨x, c, rfl, hnews⟩
      · exact absurd h0 hm
      have hr := run_append_nil (P := P) w t ty e i z ht.ok z1 z2 x m c news (by rw [i2]; exact hN.len) hnews (by omega) (by omega) (by have := h48 0 (by omega); rw [nextslicecap_zero (by omega)] at this; simpa using this)
      have hge := grownCap_ge w m 0 e
      refine ⟨_, _, hr, ?_⟩
      have := newBlock (grownCap w m 0 e) (news.toArray ++ Builtin.zeroCells z.cells (grownCap w m 0 e - m)) (RelL.shift _ _ _ _ _ _ (fun j hj => by
          rw [Nat.zero_mul, Array.getElem?_append_left (by rw [hnl] at hj; simp [hN.len]; omega)]) hN.rel) (by simp [RelL]) (by omega) (by
          simp only [Array.size_append, size_zeroCells, List.size_toArray, hN.len, hzsz]; rw [← Nat.add_mul]; exact Nat.mul_le_mul_right _ (by omega))
      simpa using this
  · obtain ⟨cap, cs', u', q1, q2, q3, q4⟩ := hx.2.2 b p1
    rw [p3] at q2; cases q2
    simp only [Nat.zero_mul, Nat.zero_add] at q1 q3
    subst q1
    have hbne : b < w.heap.size := hsim.block_lt p1
    have hbase : Γ.nww b := hsim.fresh l b p1 hiol
    by_cases hm : m = 0
    · subst hm
      have hnc := hcells0 rfl
      subst hnc
      have hxv : ∃ ad c, xv = .slice ad 0 c := by
        rcases hN.val with ⟨_, ad, c, h⟩ | ⟨x, c, h, _⟩
        · exact ⟨ad, c, h⟩
        · exact ⟨some x, c, h⟩
      obtain ⟨ad, c, rfl⟩ := hxv
      refine ⟨_, w, run_app_zero (t := t) (e := e) (sz := sz) w ty (some ⟨b, 0, none⟩) ad n cap c q4, ?_⟩
      have hBp : Bp = [] := by have := hN.rel; simpa [RelL] using this
      subst hBp
      refine hsim.layPut (ks := ks) (ls := [l]) ⟨rfl, rfl, rfl, Nat.le_refl _⟩ (b0 := b) hbne (fun _ _ _ => rfl) p3 hnd hio (.inr ⟨l, by simp, p1⟩) hbase ⟨cells ++ [], dp', false⟩ (B := Bo) ?_ (by simp) o1 (by simpa using deepOk [l] (by simp)) hd (fun β' hβ => ?_)
      · simpa using p4
      · simp only [RelV]
        refine ⟨trivial, fun h => by rw [hβ] at h; simp at h, fun b' hb => ?_⟩
        rw [hβ] at hb; cases hb
        exact ⟨cap, cs, u, by simp, p3, by simpa using q3, by simpa using q4⟩
    · rcases hN.val with ⟨h0, _⟩ | ⟨x, c, rfl, hnews⟩
      · exact absurd h0 hm
      by_cases hroom : n + m ≤ cap
      · have hfit : n * sz + news.length ≤ cs.size := by
          rw [hN.len, ← Nat.add_mul]; exact Nat.le_trans (Nat.mul_le_mul_right _ hroom) q3
        refine ⟨_, _, run_app_room (t := t) (e := e) (sz := sz) w ty p3 x m c news hN.len hnews hN.one hroom hfit, ?_⟩
        have hrow := setRow_heap w b cs (cs.toList.take (n * sz) ++ news ++ cs.toList.drop (n * sz + news.length)).toArray u (0, 0) p3
        have himne : ∀ c, Im Γ ow w c → c ≠ b := by rintro c ⟨_, _, h3⟩ rfl; exact h3 l p2
        have hsize : (cs.toList.take (n * sz) ++ news ++ cs.toList.drop (n * sz + news.length)).toArray.size = cs.size := by simp; omega
        refine hsim.layPut (ks := ks) (ls := [l]) (same_setRow w b _) (b0 := b) (by simpa using hbne) (fun c _ h => setRow_other w b c _ h) hrow hnd hio (.inr ⟨l, by simp, p1⟩) hbase ⟨cells ++ ncells, dp', false⟩ (B := Bo ++ Bp) ?_ (by simp) himAll (deepOk [l] (by simp)) hd (fun β' hβ => ?_)
        · refine RelL.keep (β := dead) (h := w.heap) _ _ _ _ (fun q _ m _ o hm => by cases hm) (fun c hc => setRow_other w b c _ (himne c (himAll c hc))) ?_
          have hlt : (cs.toList.take (n * sz)).length = n * sz := by simp; omega
          refine (RelL.append _ _ _ _ _).2 ⟨Bo, Bp, RelL.shift _ _ _ _ _ _ (fun j hj => ?_) p4, RelL.shift _ _ _ _ _ _ (fun j hj => ?_) hN.rel, rfl⟩
          · simp only [Nat.zero_add, List.getElem?_toArray]
            rw [hlen] at hj
            rw [List.append_assoc, List.getElem?_append_left (by omega), List.getElem?_take, if_pos hj]; simp
          · simp only [Nat.zero_add, List.getElem?_toArray]
            rw [hnl, ← hN.len] at hj
            rw [hlen, List.append_assoc, List.getElem?_append_right (by omega), hlt, Nat.add_sub_cancel_left, List.getElem?_append_left hj]
        · simp only [RelV]
          refine ⟨trivial, fun h => by rw [hβ] at h; simp at h, fun b' hb => ?_⟩
          rw [hβ] at hb; cases hb
          exact ⟨cap, _, u, by simp, hrow, by rw [hsize]; simpa using q3, hroom⟩
      · have hcs : n * sz ≤ cs.size := Nat.le_trans (Nat.mul_le_mul_right _ (by omega)) q3
        have hr := run_append_grow (P := P) w t ty e i z ht.ok z1 z2 ⟨b, 0, none⟩ n cap (cs.toList.take (n * sz)) (by rw [i2]; simp; omega) (fun j v hj => by
            rw [List.getElem?_take] at hj
            split at hj
            · rw [Addr.add_lit, Nat.zero_add, cell_of_row w b j cs u (0, 0) p3]; simpa using hj
            · cases hj) x m c news (by rw [i2]; exact hN.len) hnews (by omega) (by omega) (h48 cap (by omega))
        have hge := grownCap_ge w (n + m) cap e
        refine ⟨_, _, hr, ?_⟩
        have hlt : (cs.toList.take (n * sz)).length = n * sz := by simp; omega
        refine newBlock (grownCap w (n + m) cap e) _ (RelL.shift _ _ _ _ _ _ (fun j hj => ?_) hN.rel) (RelL.shift _ _ _ _ _ _ (fun j hj => ?_) p4) (by omega) ?_
        · rw [hnl, ← hN.len] at hj
          rw [Array.getElem?_append_left (by simp; omega), Array.getElem?_append_right (by simp; omega)]
          simp [show min (n * sz) cs.size = n * sz by omega]
        · rw [hlen] at hj
          rw [Nat.zero_add, Array.getElem?_append_left (by simp; omega), Array.getElem?_append_left (by simp; omega)]
          simp [hj]
        · simp only [Array.size_append, size_zeroCells, List.size_toArray, hN.len, hzsz, hlt]; rw [← Nat.add_mul, ← Nat.add_mul]; exact Nat.mul_le_mul_right _ (by omega)

def allSc : List PV → Bool
  | [] => true
  | .sc _ :: r => allSc r
  | _ :: _ => false
theorem allSc_nil {h : Array Obj} {q : Bool} {β : Nat → Option (Option Nat)} : ∀ {ps : List PV} {cs : Array Value} {i : Nat} {B : List Nat}, allSc ps = true → RelL h q β ps cs i B → B = []
  | [], _, _, _, _, H => by simpa [RelL] using H
  | .sc v :: ps, cs, i, B, hf, H => by
    simp only [RelL] at H
    obtain ⟨c, B1, B2, _, h2, h3, rfl⟩ := H
    simp only [RelV] at h2
    rw [h2.2, allSc_nil (by simpa [allSc] using hf) h3]; rfl
  | .sl _ _ :: _, _, _, _, hf, _ => by simp [allSc] at hf
  | .ref _ _ _ _ :: _, _, _, _, hf, _ => by simp [allSc] at hf
  | .ptr _ _ :: _, _, _, _, hf, _ => by simp [allSc] at hf
  | .iptr _ :: _, _, _, _, hf, _ => by simp [allSc] at hf
  | .rw _ _ _ :: _, _, _, _, hf, _ => by simp [allSc] at hf
  | .agg _ :: _, _, _, _, hf, _ => by simp [allSc] at hf
  | .tup _ :: _, _, _, _, hf, _ => by simp [allSc] at hf
  | .any :: _, _, _, _, hf, _ => by simp [allSc] at hf
theorem allSc_flat {α : Type} {l : List α} {enc : α → List PV} (h : ∀ y, allSc (enc y) = true) : allSc (l.flatMap enc) = true := by
  have happ : ∀ a b : List PV, allSc a = true → allSc b = true → allSc (a ++ b) = true := by
    intro a
    induction a with
    | nil => intro b _ hb; exact hb
    | cons p r ih =>
      intro b ha hb
      cases p <;> simp [allSc] at ha ⊢
      exact ih b ha hb
  induction l with
  | nil => rfl
  | cons x r ih => exact happ _ _ (h x) ih

theorem news_sl {m sz : Nat} {ncells : List PV} {c : Value} {B : List Nat} (H : RelV w.heap β (.sl m ncells) c B) (hl : ncells.length = m * sz) : ∃ Bp news, News w c m sz ncells Bp news ∧ ∀ b ∈ Bp, b ∈ B := by
  simp only [RelV] at H
  rcases H with ⟨rfl, rfl, rfl, ad, cap, rfl⟩ | ⟨b, off, cap, cs, u, f, B', ⟨rfl, _⟩, h2, h3, rfl⟩
  · exact ⟨[], [], ⟨by simp, by simp, by simp [RelL], .inl ⟨rfl, ad, cap, rfl⟩⟩, by simp⟩
  · obtain ⟨news, h⟩ := news_of (c := cap) h2 h3 hl
    exact ⟨B', news, h, by simp +contextual⟩

/-- append: what is appended is shared from then on. -/
theorem L_app {x y : Operand} {t e sz by_ l n m : Nat} {agg dp : Bool} (scn : Bool) {zs cells ncells cells' : List PV} {n' : Nat} [ht : SlT P t e] [hi : TI P e sz agg by_] [hz : ZT P e zs] (hx : evq S x = some (.ref l sz 0 n)) (ho : loq O l = some ⟨cells, dp, false⟩) (hy : evq S y = some (.sl m ncells))
    (hlen : cells.length = n * sz) (hnl : ncells.length = m * sz) (hb : (n + m) * by_ ≤ 140737488355328) (h63 : n + m ≤ 9223372036854775807) (hio : Γ.io d = none ∧ Γ.io l = none) (hsc : scn = true → allSc ncells = true) (hcat : cells ++ ncells = cells' ∧ n + m = n') (hd : Nat.blt d N = true) :
    Local Γ ⟨some d, .call ⟨.builtin .append, #[x, y], #[t, t]⟩, ty, pos, af, g⟩ ⟨S, O⟩ ⟨[(d, ⟨.ref d sz 0 n', false⟩)], [(d, some ⟨cells', dp && scn, false⟩), (l, none)]⟩ (ors x ++ ors y) [l] [d] := by
  obtain ⟨rfl, rfl⟩ := hcat
  intro F hs hlo hnd
  refine opT_of_run fun a w ⟨ow, β, hsim⟩ => ?_
  obtain ⟨B, h1, h2⟩ := ev_rel hsim hx (fun k hk => hs k (by simp [hk]))
  obtain ⟨By, g1, g2⟩ := ev_rel hsim hy (fun k hk => hs k (by simp [hk]))
  obtain ⟨Bp, news, hN, hsub⟩ := news_sl g1 hnl
  have hB : B = [] := by simp only [RelV] at h1; exact h1.1
  subst hB
  obtain ⟨c, w', e1, e2⟩ := app_core (ty := ty) (t := t) (e := e) (dp' := dp && scn) hsim h1 (by rw [hlo l (by simp), ← loq_lo]; exact ho) hlen hN hnl (fun c hc => g2 c (hsub c hc)) hb h63 ((blt_iff _ _).1 hd) hio.1 (hnd d (by simp)) hio.2 [] (fun h => by
    simp only [Bool.and_eq_true] at h
    rw [allSc_nil (hsc h.2) hN.rel]
    exact ⟨h.1, by simp, by simp⟩)
  refine ⟨c, w', ?_, e2⟩
  simp [execOp, resolve, invoke, builtin, e1]

/-- append that takes over what is appended, with all that is its own. -/
theorem L_appT {x : Operand} {t e sz by_ l n m s : Nat} {agg dp : Bool} {zs cells ncells cells' : List PV} {n' : Nat} [ht : SlT P t e] [hi : TI P e sz agg by_] [hz : ZT P e zs] (hx : evq S x = some (.ref l sz 0 n)) (ho : loq O l = some ⟨cells, dp, false⟩) (hy : lkq S s = some ⟨.sl m ncells, true⟩)
    (hlen : cells.length = n * sz) (hnl : ncells.length = m * sz) (hb : (n + m) * by_ ≤ 140737488355328) (h63 : n + m ≤ 9223372036854775807) (hio : Γ.io d = none ∧ Γ.io l = none) (hcat : cells ++ ncells = cells' ∧ n + m = n') (hd : Nat.blt d N = true) :
    Local Γ ⟨some d, .call ⟨.builtin .append, #[x, .tmp s], #[t, t]⟩, ty, pos, af, g⟩ ⟨S, O⟩ ⟨[(d, ⟨.ref d sz 0 n', false⟩), (s, ⟨.any, false⟩)], [(d, some ⟨cells', dp, false⟩), (l, none)]⟩ (ors x ++ [s]) [l] [d] := by
  obtain ⟨rfl, rfl⟩ := hcat
  intro F hs hlo hnd
  refine opT_of_run fun a w ⟨ow, β, hsim⟩ => ?_
  obtain ⟨B, h1, h2⟩ := ev_rel hsim hx (fun k hk => hs k (by simp [hk]))
  obtain ⟨By, g1, g2, g3⟩ := hsim.slots s
  rw [(hs s (by simp)).trans (lkq_lk hy)] at g1 g3
  have hB : B = [] := by simp only [RelV] at h1; exact h1.1
  subst hB
  have hN : ∃ Bp news, News w (a.tmps.getD s undef) m sz ncells Bp news ∧ (∀ b ∈ Bp, b ∈ By) ∧ (By.Nodup → Bp.Nodup) := by
    simp only [RelV] at g1
    rcases g1 with ⟨rfl, rfl, rfl, ad, cap, e⟩ | ⟨b, off, cap, cs, u, f, B', ⟨e, _⟩, h2, h3, rfl⟩
    · rw [e]; exact ⟨[], [], ⟨by simp, by simp, by simp [RelL], .inl ⟨rfl, ad, cap, rfl⟩⟩, by simp, by simp⟩
    · rw [e]
      obtain ⟨news, h⟩ := news_of (c := cap) h2 h3 hnl
      exact ⟨B', news, h, by simp +contextual, fun h => (List.nodup_cons.1 h).2⟩
  obtain ⟨Bp, news, hN, hsub, hnod⟩ := hN
  obtain ⟨c, w', e1, e2⟩ := app_core (ty := ty) (t := t) (e := e) (dp' := dp) hsim h1 (by rw [hlo l (by simp), ← loq_lo]; exact ho) hlen hN hnl (fun c hc => g2 c (hsub c hc)) hb h63 ((blt_iff _ _).1 hd) hio.1 (hnd d (by simp)) hio.2 [s] (fun h => by
    refine ⟨h, hnod (g3 rfl).1, fun c hc => ?_⟩
    obtain ⟨f1, f2⟩ := (g3 rfl).2 c (hsub c hc)
    refine ⟨f2, ?_, s, by simp, f1⟩
    rcases (hsim.own c (by rw [f1]; simp)).2 with h | ⟨m, h, _⟩
    · exact h
    · rw [f1] at h; cases h)
  have ev : a.eval (.tmp s) = a.tmps.getD s undef := rfl
  refine ⟨c, w', ?_, e2⟩
  rw [← ev] at e1
  simp only [execOp, resolve, invoke, builtin, List.map_toArray, List.map_cons, List.map_nil]
  simp [e1]
end
end Go.Ev
