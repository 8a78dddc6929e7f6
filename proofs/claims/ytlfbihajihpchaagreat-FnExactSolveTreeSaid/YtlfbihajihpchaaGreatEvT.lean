/- The engine, part T: more operations: parts of slices and strings, components, literals of several elements; elements by a lifted index. -/
import Derived.Test.YtlfbihajihpchaaGreatEvS
set_option linter.all false
namespace Go.Ev
open Go.RowKit (Below)
section
variable {P : Program} {N : Nat} {Γ : Ctx P N} {S : List (Nat × Slot)} {O : List (Nat × Option Ob)}
variable {d : Nat} {ty : TypeId} {pos : String} {af : Array Edge} {g : Option (Nat × Bool)}

def orsO : Option Operand → List Nat
  | some x => ors x
  | none => []
def boundOf (S : List (Nat × Slot)) (dflt : Int) : Option Operand → Option Int
  | none => some dflt
  | some x => match evq S x with
    | some (.sc (.int _ j)) => some j
    | _ => none
theorem bound_ev {F : Env} {a : Act} {w : World} (h : Sim Γ F a w) {df j : Int} {x : Option Operand} (hb : boundOf S df x = some j) (ha : ∀ k ∈ orsO x, lk F.s k = lk S k) :
    (x = none ∧ j = df) ∨ ∃ y k, x = some y ∧ a.eval y = .int k j := by
  cases x with
  | none => simp only [boundOf] at hb; cases hb; exact .inl ⟨rfl, rfl⟩
  | some y =>
    simp only [boundOf] at hb
    split at hb
    · rename_i k j' hv; cases hb
      exact .inr ⟨y, k, rfl, ev_sc h hv ha⟩
    · cases hb
theorem run_sliceBound (w : World) (k : IntKind) (i : Int) (y : Nat) (code : BoundsCode) (h : 0 ≤ i ∧ i ≤ y) : (Instr.sliceBound (.int k i) y code).run P w = .ok i.toNat w := by
  simp [Instr.sliceBound, asIntOf, h.1, h.2]
theorem run_bounds {F : Env} {a : Act} {w : World} (h : Sim Γ F a w) (isS : Bool) (len cap : Nat) (hc : len ≤ cap) {lo hi : Option Operand} {i j : Int} (hlo : boundOf S 0 lo = some i) (hhi : boundOf S len hi = some j) (h1 : ∀ k ∈ orsO lo, lk F.s k = lk S k) (h2 : ∀ k ∈ orsO hi, lk F.s k = lk S k)
    (hb : 0 ≤ i ∧ i ≤ j ∧ j ≤ len) : (Instr.sliceBounds isS len cap (lo.map a.eval) (hi.map a.eval) none).run P w = .ok (i.toNat, j.toNat, cap) w := by
  rcases bound_ev h hlo h1 with ⟨rfl, rfl⟩ | ⟨y, k, rfl, e1⟩ <;> rcases bound_ev h hhi h2 with ⟨rfl, rfl⟩ | ⟨z, k', rfl, e2⟩
  · simp [Instr.sliceBounds]
  · simp [Instr.sliceBounds, e2]
    rw [run_sliceBound w _ _ _ _ ⟨by omega, by omega⟩]; simp
  · simp [Instr.sliceBounds, e1]
    rw [run_sliceBound w _ _ _ _ ⟨by omega, by omega⟩]; simp
  · simp [Instr.sliceBounds, e1, e2]
    rw [run_sliceBound w _ _ _ _ ⟨by omega, by omega⟩]
    simp only [Result.andThen_ok]
    rw [run_sliceBound w _ _ _ _ ⟨by omega, by omega⟩]
    simp
theorem subS {α : Type} {l r : List α} {i j : Int} (h : sub l i j = some r) : (0 ≤ i ∧ i ≤ j ∧ j ≤ l.length) ∧ r = (l.drop i.toNat).take (j - i).toNat := by
  unfold sub at h
  by_cases hc : 0 ≤ i ∧ i ≤ j ∧ j ≤ l.length
  · rw [if_pos hc] at h; cases h; exact ⟨hc, rfl⟩
  · rw [if_neg hc] at h; cases h
theorem run_sizeOf {e n by_ : Nat} {agg : Bool} [hi : TI P e n agg by_] (w : World) : (sizeOf e).run P w = .ok n w := by
  obtain ⟨⟨i, h1, h2, _⟩, _⟩ := hi.ok
  simp [sizeOf, typeInfo, h1, h2]
/-- A part of a slice that was handed in. -/
theorem L_slS {α : Type} {x : Operand} {lo hi : Option Operand} {t e n by_ : Nat} {agg : Bool} {l r : List α} {enc : α → List PV} {i j : Int} {len : Nat} [ht : SlT P t e] [hi' : TI P e n agg by_] (hx : evq S x = some (.sl len (l.flatMap enc))) (hlen : len = l.length)
    (hlo : boundOf S 0 lo = some i) (hhi : boundOf S len hi = some j) (h : sub l i j = some r) (hsz : ∀ y, (enc y).length = n) (hd : Nat.blt d N = true) :
    Local Γ ⟨some d, .slice t x lo hi none, ty, pos, af, g⟩ ⟨S, O⟩ ⟨[(d, ⟨.sl r.length (r.flatMap enc), false⟩)], []⟩ (ors x ++ (orsO lo ++ orsO hi)) [] [] := by
  intro F hs _ _
  refine opT_of_run fun a w hsim => ?_
  obtain ⟨hb, hr⟩ := subS h
  subst hlen
  have hbd := fun isS cap hc => run_bounds hsim isS l.length cap hc hlo hhi (fun k hk => hs k (by simp [hk])) (fun k hk => hs k (by simp [hk])) hb
  obtain ⟨ow, β, hsim⟩ := hsim
  obtain ⟨B, h1, h2⟩ := ev_rel hsim hx (fun k hk => hs k (by simp [hk]))
  simp only [RelV] at h1
  have hrl : r.length = (j - i).toNat := by rw [hr]; simp; omega
  have run : ∀ (ad : Option Addr) (cap : Nat), a.eval x = .slice ad l.length cap → l.length ≤ cap → (Instr.sliceAt t (a.eval x) (lo.map a.eval) (hi.map a.eval) none).run P w = .ok (.slice (if cap = i.toNat then ad else ad.map (·.add (i.toNat * n))) (j.toNat - i.toNat) (cap - i.toNat)) w := by
    intro ad cap e1 hc
    rw [e1]
    simp [Instr.sliceAt, Instr.slice, run_underlying ht.ok, hbd true cap hc, run_sizeOf (e := e) (n := n)]
  rcases h1 with ⟨e0, _, _, ad, cap, e1⟩ | ⟨b, off, cap, cs, u, f, B', ⟨e1, hc⟩, e2, e3, rfl⟩
  · rw [← e0] at e1
    refine ⟨_, w, by simp [execOp, run ad cap e1 (by omega)]; rfl, ow, β, hsim.put ((blt_iff _ _).1 hd) (O := []) ?_ (by simp)⟩
    have hr0 : r = [] := by rw [hr, List.length_eq_zero_iff.1 e0]; simp
    subst hr0
    simp only [RelV]
    exact .inl ⟨rfl, rfl, trivial, _, _, by rw [show j.toNat - i.toNat = 0 by omega]⟩
  · refine ⟨_, w, by simp [execOp, run _ cap e1 hc]; rfl, ow, β, ?_⟩
    by_cases h0 : i = j
    · refine hsim.put ((blt_iff _ _).1 hd) (O := []) ?_ (by simp)
      have hr0 : r = [] := by rw [hr, h0]; simp
      subst hr0
      simp only [RelV]
      exact .inl ⟨rfl, rfl, trivial, _, _, by rw [show j.toNat - i.toNat = 0 by omega]⟩
    · have hne : cap ≠ i.toNat := by omega
      rw [if_neg hne]
      obtain ⟨B2, g1, B1, g2⟩ := e3.drop (i.toNat * n) (by rw [flat_len hsz]; exact Nat.mul_le_mul_right _ (by omega))
      obtain ⟨B3, g3, B4, g4⟩ := g1.take (r.length * n)
      have hcells : ((l.flatMap enc).drop (i.toNat * n)).take (r.length * n) = r.flatMap enc := by
        have e1 : l = l.take i.toNat ++ r ++ l.drop (i.toNat + r.length) := by
          rw [hr]
          rw [show i.toNat + ((l.drop i.toNat).take (j - i).toNat).length = i.toNat + (j - i).toNat by simp; omega]
          rw [List.append_assoc, ← List.drop_drop, List.take_append_drop, List.take_append_drop]
        have e2 : (l.take i.toNat).length = i.toNat := by simp; omega
        conv => lhs; rw [e1]
        rw [List.flatMap_append, List.flatMap_append, List.append_assoc, List.drop_append, List.drop_eq_nil_of_le (by rw [flat_len hsz, e2]; exact Nat.le_refl _), flat_len hsz, e2, Nat.sub_self, List.nil_append, List.drop_zero, List.take_append, List.take_of_length_le (by rw [flat_len hsz]; exact Nat.le_refl _), flat_len hsz, Nat.sub_self, List.take_zero, List.append_nil]
      rw [hcells] at g3
      refine hsim.put ((blt_iff _ _).1 hd) (O := b :: B3) ?_ (fun c hc => h2 c ?_)
      · simp only [RelV]
        exact .inr ⟨b, off + i.toNat * n, cap - i.toNat, cs, u, f, B3, ⟨by rw [hrl, show j.toNat - i.toNat = (j - i).toNat by omega]; simp [Addr.add_lit], by rw [hrl]; omega⟩, e2, g3, rfl⟩
      · rcases List.mem_cons.1 hc with rfl | hc
        · simp
        · rw [g2, g4]; simp [hc]

/-- An element, by a lifted index. -/
theorem L_ixS2 {α : Type} {x i : Operand} {t e n by_ : Nat} {agg : Bool} {l : List α} {enc : α → List PV} {y : α} {k : IntKind} {j : Int} {len : Nat} [ht : SlT P t e] [hi : TI P e n agg by_] (hx : evq S x = some (.sl len (l.flatMap enc))) (hix : evq S i = some (.sc (.int k j))) (hlen : len = l.length)
    (hl : idx l j = some y) (hsz : ∀ y, (enc y).length = n) (hd : Nat.blt d N = true) :
    Local Γ ⟨some d, .indexAddr t x i, ty, pos, af, g⟩ ⟨S, O⟩ ⟨[(d, ⟨.iptr (enc y), false⟩)], []⟩ (ors x ++ ors i) [] [] :=
  L_ixS (m := j.toNat) hx hix (by have := (idxS hl).1; omega) hlen (idxS hl).2.1 hsz hd
theorem L_ixR2 {α : Type} {x i : Operand} {t e sz n by_ r : Nat} {agg : Bool} {l : List α} {y : α} {k : IntKind} {j : Int} {ob : Ob} [ht : SlT P t e] [hi : TI P e sz agg by_] (hx : evq S x = some (.ref r sz 0 n)) (ho : loq O r = some ob) (hix : evq S i = some (.sc (.int k j))) (hl : idx l j = some y) (hn : n = l.length) (hd : Nat.blt d N = true) :
    Local Γ ⟨some d, .indexAddr t x i, ty, pos, af, g⟩ ⟨S, O⟩ ⟨[(d, ⟨.ptr r (j.toNat * sz), false⟩)], []⟩ (ors x ++ ors i) [r] [] :=
  L_ixR (m := j.toNat) hx ho hix (by have := (idxS hl).1; omega) (by rw [hn]; exact (idxS hl).2.2) hd

/-- the values of a literal's parts, in their order -/
def litVals (S : List (Nat × Slot)) : List (Nat × Operand) → Nat → Option (List Value)
  | [], _ => some []
  | (i, x) :: r, k => bif Nat.beq i k then (match evq S x with
    | some (.sc v) => bif v.oneCell' then (match litVals S r (k + 1) with
      | some vs => some (v :: vs)
      | none => none) else none
    | _ => none) else none
def orsL : List (Nat × Operand) → List Nat
  | [] => []
  | (_, x) :: r => ors x ++ orsL r
theorem litVals_ev {F : Env} {a : Act} {w : World} (h : Sim Γ F a w) : ∀ {ps : List (Nat × Operand)} {k : Nat} {vs : List Value}, litVals S ps k = some vs → (∀ j ∈ orsL ps, lk F.s j = lk S j) →
    ps.map (fun p => (p.1, a.eval p.2)) = (vs.zipIdx k).map (fun x => (x.2, x.1)) ∧ vs.length = ps.length ∧ ∀ v ∈ vs, v.oneCell' = true
  | [], _, vs, hv, _ => by simp only [litVals] at hv; cases hv; simp
  | (i, x) :: r, k, vs, hv, hs => by
    simp only [litVals] at hv
    cases hb : Nat.beq i k with
    | false => rw [hb] at hv; cases hv
    | true =>
      rw [hb] at hv
      simp only [cond_true] at hv
      split at hv
      · rename_i v hx
        cases hc : v.oneCell' with
        | false => rw [hc] at hv; cases hv
        | true =>
          rw [hc] at hv
          simp only [cond_true] at hv
          split at hv
          · rename_i vs' hvs; cases hv
            obtain ⟨g1, g2, g3⟩ := litVals_ev h hvs (fun j hj => hs j (by simp [orsL, hj]))
            have e := ev_sc h hx (fun j hj => hs j (by simp [orsL, hj]))
            have := Nat.eq_of_beq_eq_true hb
            subst this
            exact ⟨by simp [e, g1], by simp [g2], fun u hu => by rcases List.mem_cons.1 hu with rfl | hu; exact hc; exact g3 u hu⟩
          · cases hv
      · cases hv
theorem oneCell_cells {v : Value} (h : v.oneCell' = true) : v.cells = #[v] := by
  cases v <;> simp_all [Value.oneCell', Value.cells]
theorem relL_scs {h : Array Obj} {β : Nat → Option (Option Nat)} : ∀ {vs pre : List Value}, (∀ v ∈ vs, v.oneCell' = true) → RelL h true β (vs.map .sc) (pre ++ vs).toArray pre.length []
  | [], _, _ => by simp [RelL]
  | v :: vs, pre, hv => by
    simp only [List.map_cons, RelL]
    refine ⟨v, [], [], ⟨by simp, fun _ => hv v (by simp)⟩, by simp [RelV], ?_, rfl⟩
    have := relL_scs (h := h) (β := β) (vs := vs) (pre := pre ++ [v]) (fun u hu => hv u (by simp [hu]))
    simpa using this
theorem flat_cells : ∀ {vs : List Value}, (∀ v ∈ vs, v.oneCell' = true) → (vs.flatMap fun v => v.cells.toList) = vs
  | [], _ => rfl
  | v :: r, h => by simp only [List.flatMap_cons]; rw [oneCell_cells (h v List.mem_cons_self), flat_cells (fun u hu => h u (List.mem_cons_of_mem _ hu))]; rfl
/-- A slice literal of plain elements of one cell: a new row. -/
theorem L_bsR {t e by_ n : Nat} {agg : Bool} {ps : List PV} {parts : Array (Nat × Operand)} {vs : List Value} [ht : SlT P t e] [hi : TI P e 1 agg by_] [hz : ZT P e ps] (hv : litVals S parts.toList 0 = some vs) (hn : Nat.beq vs.length n = true) (hpos : Nat.blt 0 n = true) (hs2 : Nat.ble n 1000 = true) (hio : Γ.io d = none) (hd : Nat.blt d N = true) :
    Local Γ ⟨some d, .buildSlice t n parts, ty, pos, af, g⟩ ⟨S, O⟩ ⟨[(d, ⟨.ref d 1 0 n, false⟩)], [(d, some ⟨vs.map .sc, true, false⟩)]⟩ (orsL parts.toList) [] [d] := by
  intro F hs _ hnl
  refine opT_of_run fun a w hsim => ?_
  obtain ⟨g1, g2, g3⟩ := litVals_ev hsim hv hs
  obtain ⟨ow, β, hsim⟩ := hsim
  have hn := Nat.eq_of_beq_eq_true hn
  have hpos := (blt_iff _ _).1 hpos
  have hs2 := Nat.le_of_ble_eq_true hs2
  obtain ⟨i, z, h1, h2, h3, h4, _⟩ := hz.ok
  obtain ⟨⟨i', q1, q2, q3⟩, _⟩ := hi.ok
  rw [h1] at q1; cases q1
  have hcells : (vs.flatMap fun v => v.cells.toList) = vs := flat_cells g3
  have run : (Instr.buildSlice t n (parts.map fun (i, x) => (i, a.eval x))).run P w = .ok (.slice (some ⟨w.heap.size, 0, none⟩) n n) (w.alloc (.cells vs.toArray e)) := by
    refine run_buildSlice w t e n _ vs.toArray i z ht.ok h1 h2 (by rw [q2]; omega) (by rw [q2]; omega) ?_
    have := Go.Great.fill_whole (s := i.size) (by omega) vs ((Array.range (n * i.size)).map (z.cells[· % z.cells.size]!)) (fun v hv => by rw [oneCell_cells (g3 v hv), q2]; rfl) (by simp [hn])
    rw [hcells] at this
    rw [← this]
    congr 1
    rw [← g1]; simp
  refine ⟨_, _, by simp only [execOp]; rw [Sem.run_bind, run]; rfl, ?_⟩
  refine hsim.layPut (same_alloc w _) (b0 := w.heap.size) (by simp) (fun b hb _ => alloc_old w _ hb) (alloc_new w _) (hnl d (by simp)) hio [] [] (.inl (Nat.le_refl _)) (.inl hsim.kept.size) ⟨vs.map .sc, true, false⟩ (B := []) (by simpa using relL_scs (pre := []) g3) (by simp) (by simp) (by simp) ((blt_iff _ _).1 hd) (fun β' hβ => ?_)
  simp only [RelV]
  refine ⟨trivial, fun h => by rw [hβ] at h; simp at h, fun b hb => ?_⟩
  rw [hβ] at hb; cases hb
  exact ⟨n, vs.toArray, e, by simp, alloc_new w _, by simp [hn], Nat.le_refl _⟩

theorem RetIs.weak {E E0 : Env} {rs : Array ResultVar} {r : PV} {deep : Bool} (he : Ent Γ E E0) (h : RetIs Γ rs E0 r deep) : RetIs Γ rs E r deep := fun fn hf a w hs => h fn hf a w (he a w hs)
end
/-- rows by a lifted index -/
theorem row_ld {α : Type} {l : List α} {enc : α → List PV} {j : Int} {y : α} {sz o : Nat} {c : PV} (hl : idx l j = some y) (ho : (enc y)[o]? = some c) (h : ∀ y, (enc y).length = sz) : (l.flatMap enc)[j.toNat * sz + o]? = some c := flat_get (idxS hl).2.1 ho h
theorem row_ld0 {α : Type} {l : List α} {enc : α → List PV} {j : Int} {y : α} {sz : Nat} {c : PV} (hl : idx l j = some y) (ho : (enc y)[0]? = some c) (h : ∀ y, (enc y).length = sz) : (l.flatMap enc)[j.toNat * sz]? = some c := flat_get0 (idxS hl).2.1 ho h
theorem row_ble {α : Type} {l : List α} {enc : α → List PV} {j : Int} {y : α} {sz o n : Nat} (hl : idx l j = some y) (h : ∀ y, (enc y).length = sz) (ho : o + n ≤ sz) : Nat.ble (j.toNat * sz + o + n) (l.flatMap enc).length = true := by
  have := (idxS hl).2.2
  rw [Nat.ble_eq, flat_len h]
  have h2 : (j.toNat + 1) * sz ≤ l.length * sz := Nat.mul_le_mul_right _ (by omega)
  rw [Nat.add_mul] at h2; omega
theorem row_ble0 {α : Type} {l : List α} {enc : α → List PV} {j : Int} {y : α} {sz n : Nat} (hl : idx l j = some y) (h : ∀ y, (enc y).length = sz) (ho : n ≤ sz) : Nat.ble (j.toNat * sz + n) (l.flatMap enc).length = true := by
  have := row_ble (o := 0) (n := n) hl h (by omega)
  simpa using this
theorem row_st {α : Type} {l : List α} {enc : α → List PV} {j : Int} {y y' : α} {sz : Nat} {vs : List PV} (hl : idx l j = some y) (h : ∀ y, (enc y).length = sz) (he : vs = enc y') : (l.flatMap enc).take (j.toNat * sz) ++ vs ++ (l.flatMap enc).drop (j.toNat * sz + sz) = (setI l j y').flatMap enc := by
  subst he; exact splice_flat (idxS hl).2.2 h
theorem row_fld {α : Type} {l : List α} {enc : α → List PV} {j : Int} {y y' : α} {sz o n : Nat} {vs : List PV} (hl : idx l j = some y) (h : ∀ y, (enc y).length = sz) (ho : o + n ≤ sz) (he : (enc y).take o ++ vs ++ (enc y).drop (o + n) = enc y') :
    (l.flatMap enc).take (j.toNat * sz + o) ++ vs ++ (l.flatMap enc).drop (j.toNat * sz + o + n) = (setI l j y').flatMap enc := by
  obtain ⟨_, h1, h2⟩ := idxS hl
  rw [← row_st hl h rfl (y' := y')]
  have e1 : (l.flatMap enc).drop (j.toNat * sz) = enc y ++ (l.flatMap enc).drop (j.toNat * sz + sz) := by
    have e0 := flat_split h h1
    rw [← List.drop_drop, e0, List.drop_left' (h y)]
  have e2 : (l.flatMap enc).take (j.toNat * sz + o) = (l.flatMap enc).take (j.toNat * sz) ++ (enc y).take o := by
    rw [List.take_add, e1, List.take_append_of_le_length (by rw [h y]; omega)]
  have e3 : (l.flatMap enc).drop (j.toNat * sz + o + n) = (enc y).drop (o + n) ++ (l.flatMap enc).drop (j.toNat * sz + sz) := by
    rw [Nat.add_assoc, ← List.drop_drop, e1, List.drop_append_of_le_length (by rw [h y]; omega)]
  rw [e2, e3, ← he]
  simp
end Go.Ev
