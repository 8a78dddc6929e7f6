/- The engine, part O: what was handed in, read as typed data; what a law's call leaves. -/
import Derived.Test.YtlfbihajihpchaaGreatEvN
import Derived.WalkKit
import Derived.ProofKit
import Derived.OpenShut
set_option linter.all false
namespace Go.Ev
open Go.RowKit (Below)
open Go.ChangeShapes Go.WideShapes Go.ChangeAt

/-- The cells of a type's values, read as typed data. -/
class Dec (P : Program) (t : Nat) {α : outParam Type} (enc : outParam (α → List PV)) (ok : outParam (α → Prop)) : Prop where
  dec : ∀ {H : Type} (e : TypeId × Value → H) (w : World) (fuel : Nat) (cs : List Value) (x : DataW H × List MemPlace), DataW.trod e P w 0 (fun _ => true) true fuel t cs = some x → ∃ y : α, ok y ∧ cs.length = (enc y).length ∧ ∃ B, RelL w.heap true dead (enc y) cs.toArray 0 B

def encI (k : IntKind) (n : Int) : List PV := [.sc (.int k n)]
def encB (b : Bool) : List PV := [.sc (.bool b)]
def encL {α : Type} (enc : α → List PV) (l : List α) : List PV := [.sl l.length (l.flatMap enc)]
def okI (k : IntKind) (n : Int) : Prop := (Lit.int k n).wf = true
def okL {α : Type} (ok : α → Prop) (l : List α) : Prop := l.length ≤ maxLen ∧ ∀ y ∈ l, ok y

section
variable {P : Program}
theorem relL_one_sc {h : Array Obj} (v : Value) (hv : v.oneCell' = true) : RelL h true dead [.sc v] [v].toArray 0 [] := by
  simp only [RelL]
  exact ⟨v, [], [], ⟨by simp, fun _ => hv⟩, by simp [RelV], rfl, rfl⟩
theorem Dec.int {t : Nat} {k : IntKind} (ht : P.underlying t = some (.int k)) : Dec P t (encI k) (okI k) := ⟨fun e w fuel cs x h => by
  obtain ⟨n, rfl, _, hw⟩ := DataW.trod_int ht h
  exact ⟨n, hw, rfl, [], relL_one_sc _ rfl⟩⟩
theorem Dec.bool {t : Nat} (ht : P.underlying t = some .bool) : Dec P t encB (fun _ => True) := ⟨fun e w fuel cs x h => by
  obtain ⟨b, rfl, _⟩ := DataW.trod_bool ht h
  exact ⟨b, trivial, rfl, [], relL_one_sc _ rfl⟩⟩

theorem mapM_some {α β : Type} (f : α → Option β) : ∀ (l : List α) (r : List β), l.mapM f = some r → r.length = l.length ∧ ∀ (j : Nat) (x : α), l[j]? = some x → f x = r[j]?
  | [], r, h => by
    simp at h; subst h; simp
  | x :: l, r, h => by
    rw [List.mapM_cons] at h
    cases hx : f x with
    | none => rw [hx] at h; simp at h
    | some y =>
      rw [hx] at h
      cases hl : l.mapM f with
      | none => rw [hl] at h; simp at h
      | some r' =>
        rw [hl] at h
        simp at h; subst h
        obtain ⟨h1, h2⟩ := mapM_some f l r' hl
        refine ⟨by simp [h1], fun j z hz => ?_⟩
        cases j with
        | zero => simp at hz; subst hz; simp [hx]
        | succ j => simp at hz; simpa using h2 j z hz
theorem cells_some {w : World} {a : Addr} {n : Nat} {l : List Value} (h : w.cells? 0 a n = some l) : l.length = n ∧ ∀ j, j < n → w.cell? (a.add j) = l[j]? := by
  unfold World.cells? at h
  rw [if_pos (Nat.zero_le _)] at h
  obtain ⟨h1, h2⟩ := mapM_some _ _ _ h
  exact ⟨by simpa using h1, fun j hj => h2 j j (by simp [hj])⟩
theorem cell_block {w : World} {a : Addr} {v : Value} (h : w.cell? a = some v) : a.spot = none ∧ ∃ cs t f, w.heap[a.block]? = some (.cells cs t f) ∧ cs[a.off]? = some v := by
  unfold World.cell? at h
  split at h
  · rename_i c t f hc
    cases hs : a.spot with
    | none => rw [hs] at h; simp at h; exact ⟨rfl, c, t, f, hc, h⟩
    | some s => rw [hs] at h; simp at h
  · cases h

theorem Dec.slice {t e : Nat} {α : Type} {enc : α → List PV} {ok : α → Prop} (ht : P.underlying t = some (.slice e)) [hd : Dec P e enc ok] (sz : Nat) (hc : P.cellsOf e = sz) (h0 : sz ≠ 0) (hsz : ∀ y, (enc y).length = sz) : Dec P t (encL enc) (okL ok) := ⟨fun {H} en w fuel cs x h => by
  rcases DataW.trod_slice ht h with ⟨rfl, _⟩ | ⟨a, len, cap, elems, rest, n, _, rfl, _, _, hl, hm, hlen, hel, _, _⟩
  · exact ⟨[], ⟨by simp [maxLen], by simp⟩, rfl, [], by
      simp only [encL, RelL]
      exact ⟨.slice none 0 0, [], [], ⟨by simp, fun _ => rfl⟩, by simp only [RelV]; exact .inl ⟨by simp, by simp, by simp, _, _, rfl⟩, rfl, rfl⟩⟩
  · rcases Nat.eq_zero_or_pos len with rfl | hpos
    · exact ⟨[], ⟨by simp [maxLen], by simp⟩, rfl, [], by
        simp only [encL, RelL]
        exact ⟨.slice (some a) 0 cap, [], [], ⟨by simp, fun _ => rfl⟩, by simp only [RelV]; exact .inl ⟨by simp, by simp, by simp, _, _, rfl⟩, rfl, rfl⟩⟩
    · rw [hc] at hel
      -- every element
      have each : ∀ i, i < len → ∃ y : α, ok y ∧ ∃ sub : List Value, w.cells? 0 (a.add (i * sz)) sz = some sub ∧ sub.length = (enc y).length ∧ ∃ B, RelL w.heap true dead (enc y) sub.toArray 0 B := by
        intro i hi
        have h1 := hel i hi
        rw [List.getElem?_eq_getElem (by omega)] at h1
        obtain ⟨sub, h2, h3⟩ := Option.bind_eq_some_iff.1 h1
        obtain ⟨y, g1, g2, g3⟩ := hd.dec en w n sub _ h3
        exact ⟨y, g1, sub, h2, g2, g3⟩
      obtain ⟨y0, _, sub0, q1, q2, _⟩ := each 0 hpos
      obtain ⟨q3, q4⟩ := cells_some q1
      have q5 := q4 0 (by omega)
      rw [List.getElem?_eq_getElem (by omega)] at q5
      obtain ⟨hsp, row, ut, fr, hrow, _⟩ := cell_block q5
      have ha : a.spot = none ∧ ((a.add (0 * sz)).add 0).block = a.block := by
        cases hs : a.spot with
        | none => refine ⟨rfl, ?_⟩; unfold Addr.add; simp [hs]
        | some s =>
          exfalso
          have : ((a.add (0 * sz)).add 0).spot.isSome = true := by
            unfold Addr.add; simp [hs]
          rw [hsp] at this; cases this
      obtain ⟨bl, off, sp⟩ := a
      obtain ⟨ha1, hbl⟩ := ha
      simp only at ha1; subst ha1
      rw [hbl] at hrow
      have cellAt : ∀ k, w.cell? ⟨bl, k, none⟩ = row[k]? := fun k => cell_of_row w bl k row ut fr hrow
      have build : ∀ m, m ≤ len → ∃ l : List α, l.length = m ∧ (∀ y ∈ l, ok y) ∧ ∃ B, RelL w.heap true dead (l.flatMap enc) row off B := by
        intro m
        induction m with
        | zero => intro _; exact ⟨[], rfl, by simp, [], by simp [RelL]⟩
        | succ m ih =>
          intro hm'
          obtain ⟨l, l1, l2, B, l3⟩ := ih (by omega)
          obtain ⟨y, y1, sub, y2, y3, B2, y4⟩ := each m (by omega)
          obtain ⟨s1, s2⟩ := cells_some y2
          refine ⟨l ++ [y], by simp [l1], ?_, B ++ B2, ?_⟩
          · intro z hz
            rcases List.mem_append.1 hz with hz | hz
            · exact l2 z hz
            · simp at hz; subst hz; exact y1
          · rw [List.flatMap_append]
            refine (RelL.append _ _ _ _ _).2 ⟨B, B2, l3, ?_, rfl⟩
            rw [flat_len hsz, l1]
            simp only [List.flatMap_cons, List.flatMap_nil, List.append_nil]
            refine RelL.shift _ _ _ _ _ _ (fun j hj => ?_) y4
            have := s2 j (by omega)
            rw [Addr.add_lit, Addr.add_lit, cellAt] at this
            rw [Nat.zero_add, this]; simp
      obtain ⟨l, l1, l2, B, l3⟩ := build len (Nat.le_refl _)
      refine ⟨l, ⟨by omega, l2⟩, rfl, bl :: B, ?_⟩
      simp only [encL, RelL]
      refine ⟨.slice (some ⟨bl, off, none⟩) len cap, bl :: B, [], ⟨by simp, fun _ => rfl⟩, ?_, rfl, by simp⟩
      simp only [RelV]
      exact .inr ⟨bl, off, cap, row, ut, fr, B, ⟨by rw [l1], by rw [l1]; exact hl⟩, hrow, l3, rfl⟩⟩

/-- A struct's fields, one after the other, from cell 'off' on. -/
structure DecF (P : Program) (fs : List Field) (off : Nat) {α : Type} (enc : α → List PV) (ok : α → Prop) : Prop where
  dec : ∀ {H : Type} (e : TypeId × Value → H) (w : World) (fuel : Nat) (cs : List Value) (xs : List (DataW H × List MemPlace)), fs.mapM (fun f => DataW.trod e P w 0 (fun _ => true) true fuel f.type ((cs.drop f.offset).take (P.cellsOf f.type))) = some xs → ∃ y : α, ok y ∧ ∃ B, RelL w.heap true dead (enc y) cs.toArray off B
theorem DecF.nil {off : Nat} : DecF P [] off (fun _ : Unit => []) (fun _ => True) := ⟨fun _ _ _ _ _ _ => ⟨(), trivial, [], by simp [RelL]⟩⟩
theorem DecF.cons {f : Field} {fs : List Field} {off n : Nat} {α β : Type} {e1 : α → List PV} {ok1 : α → Prop} {e2 : β → List PV} {ok2 : β → Prop} (hf : f.offset = off) [hd : Dec P f.type e1 ok1] (hc : P.cellsOf f.type = n) (hn : ∀ y, (e1 y).length = n) (h2 : DecF P fs (off + n) e2 ok2) :
    DecF P (f :: fs) off (fun y : α × β => e1 y.1 ++ e2 y.2) (fun y => ok1 y.1 ∧ ok2 y.2) := ⟨fun {H} e w fuel cs xs h => by
  rw [List.mapM_cons] at h
  cases hx : DataW.trod e P w 0 (fun _ => true) true fuel f.type ((cs.drop f.offset).take (P.cellsOf f.type)) with
  | none => rw [hx] at h; simp at h
  | some x =>
    rw [hx] at h
    cases hl : fs.mapM (fun f => DataW.trod e P w 0 (fun _ => true) true fuel f.type ((cs.drop f.offset).take (P.cellsOf f.type))) with
    | none => rw [hl] at h; simp at h
    | some r =>
      obtain ⟨y1, o1, l1, B1, r1⟩ := hd.dec e w fuel _ _ hx
      obtain ⟨y2, o2, B2, r2⟩ := h2.dec e w fuel cs r hl
      refine ⟨(y1, y2), ⟨o1, o2⟩, B1 ++ B2, (RelL.append _ _ _ _ _).2 ⟨B1, B2, RelL.shift _ _ _ _ _ _ (fun j hj => ?_) r1, by rw [hn]; exact r2, rfl⟩⟩
      rw [Nat.zero_add, List.getElem?_toArray, List.getElem?_toArray, List.getElem?_take, if_pos (by rw [hn] at hj; rw [hc]; exact hj), List.getElem?_drop, hf]⟩
theorem Dec.struct {t : Nat} {fs : Array Field} {α β : Type} {enc : α → List PV} {ok : α → Prop} {enc' : β → List PV} {ok' : β → Prop} (ht : P.underlying t = some (.struct fs)) {n : Nat} (hc : P.cellsOf t = n) (h : DecF P fs.toList 0 enc ok) (g : α → β) (hg : ∀ y, enc' (g y) = enc y) (ho : ∀ y, ok y → ok' (g y)) (hn : ∀ y, (enc' y).length = n) : Dec P t enc' ok' := ⟨fun {H} e w fuel cs x hx => by
  cases fuel with
  | zero => simp [DataW.trod] at hx
  | succ fuel =>
    have h1 : (if cs.length = P.cellsOf t then (fs.toList.mapM fun f => DataW.trod e P w 0 (fun _ => true) true fuel f.type ((cs.drop f.offset).take (P.cellsOf f.type))).map fun xs => ((DataW.agg (xs.map (·.1)) : DataW H), xs.flatMap (·.2)) else none) = some x := by
      rw [← hx]
      simp only [DataW.trod, ht]
    by_cases hl : cs.length = P.cellsOf t
    · rw [if_pos hl] at h1
      cases hm : (fs.toList.mapM fun f => DataW.trod e P w 0 (fun _ => true) true fuel f.type ((cs.drop f.offset).take (P.cellsOf f.type))) with
      | none => rw [hm] at h1; simp at h1
      | some xs =>
        obtain ⟨y, o, B, r⟩ := h.dec e w fuel cs xs hm
        exact ⟨g y, ho y o, by rw [hn, hl, hc], B, by rw [hg]; exact r⟩
    · rw [if_neg hl] at h1; cases h1⟩

/-- A struct argument. -/
theorem dec_agg {H : Type} {t : Nat} {α : Type} {enc : α → List PV} {ok : α → Prop} [hd : Dec P t enc ok] {e : TypeId × Value → H} {w : World} {b0 : Nat} {v : Value} {d : DataW H} {ps : List MemPlace} {r : Reach} {fs : Array Field} (hu : P.underlying t = some (.struct fs)) (hv : Value.okWide P w r b0 t v) (h : DataW.Trod e P w 0 (fun _ => true) true t v d ps) :
    ∃ y : α, ok y ∧ ∃ B, RelV w.heap dead (.agg (enc y)) v B := by
  obtain ⟨fuel, hf⟩ := h
  unfold Value.okWide at hv
  rw [hu] at hv
  obtain ⟨cs, rfl, hsz, _⟩ := hv
  obtain ⟨y, o, hl, B, rl⟩ := hd.dec e w fuel _ _ hf
  refine ⟨y, o, B, ?_⟩
  simp only [RelV]
  exact ⟨cs, rfl, by simpa [Value.cells] using hl, by simpa [Value.cells] using rl⟩

theorem trodAll_below {H : Type} {enc : TypeId × Value → H} (hl : laidOutB P = true) {W W' : World} (hb : Below W.heap.size W W') : ∀ {ts : List TypeId} {vs : List Value} {ds : List (DataW H)} {ps : List MemPlace}, ts.all (fun t => P.readableRec t && decide (t < P.types.size)) = true → (∀ x ∈ ps, x.block < W.heap.size) →
    DataW.TrodAll enc P W 0 (fun _ => true) true ts vs ds ps → DataW.TrodAll enc P W' 0 (fun b => decide (b < W.heap.size)) true ts vs ds ps
  | [], vs, ds, ps, _, _, h => by
    obtain ⟨rfl, rfl, rfl⟩ := trodAll_nil h; exact trodAll_mk0
  | t :: ts, vs, ds, ps, ht, hlt, h => by
    obtain ⟨v, vs1, d, ds1, p, q, rfl, rfl, rfl, h1, h2⟩ := trodAll_cons h
    simp only [List.all_cons, Bool.and_eq_true, decide_eq_true_eq] at ht
    exact ⟨p, q, Below.trod hl ht.1.1 ht.1.2 h1 hb (fun x hx => hlt x (by simp [hx])), trodAll_below hl hb ht.2 (fun x hx => hlt x (by simp [hx])) h2, rfl⟩

/-- A law that answers true and turns nothing that was there. -/
theorem post_below {H : Type} {enc : TypeId × Value → H} {f : Func} {s : ChangeSpec} {W W' : World} {args : Array Value} {ds gs : List (DataW H)} {before : List MemPlace} {T : TypeId}
    (hW : DataW.Whole enc P f.params.toList s.vars false W args.toList ds gs before) (hb : Below W.heap.size W W') (hl : laidOutB P = true) (hread : f.params.toList.all (fun t => P.readableRec t && decide (t < P.types.size)) = true)
    (hres : f.resultTypes = #[T]) (hT : P.underlying T = some .bool) (hv : s.vars = []) (hs : (s.fn H (ds ++ [])).results = [.lit (.bool true)] ∧ (s.fn H (ds ++ [])).args = ds ∧ (s.fn H (ds ++ [])).vars = []) :
    s.post enc P f false true false false W args (.bool true) W' := by
  have hW0 := hW
  have hlt := hW.lt
  obtain ⟨p, q, h1, h2, rfl, _, _⟩ := hW
  rw [hv] at h2
  obtain ⟨rfl, rfl⟩ := trodVars_none h2
  refine ⟨ds, [], p ++ [], [], p, [], hW0, ?_, ?_, ?_, hb.frame _, fun h => by cases h⟩
  · rw [hs.1, hres]
    exact trodAll_mk1 ⟨1, by simp [DataW.trod, Value.cells, hT]⟩
  · rw [hs.2.1]
    exact trodAll_below hl hb hread (fun x hx => hlt x (by simp [hx])) h1
  · rw [hs.2.2, hv]; rfl
end
end Go.Ev
