/- The engine, part BB: results with rows within get labels. -/
import Derived.Test.YtbfjidhekfnfjaaEvAA
set_option linter.all false
namespace Go.Ev
open Go.RowKit (Below)
section
variable {P : Program} {N : Nat} {Γ : Ctx P N} {S : List (Nat × Slot)} {O : List (Nat × Option Ob)} {ow : Nat → Own} {β : Nat → Option (Option Nat)} {F : Env} {a : Act} {w : World}
theorem Rows.nil {h : Array Obj} {blk : Nat → Option (Option Nat)} {nest : Nat → List Nat} {B : List Nat} : Rows [] h blk nest B := ⟨by simp, by simp, by simp, by simp, by simp, by simp⟩
theorem Rows.append {h : Array Obj} {us vs : List (Nat × Option Ob)} {blk blk' : Nat → Option (Option Nat)} {nest nest' : Nat → List Nat} {B B' : List Nat} (h1 : Rows us h blk nest B) (h2 : Rows vs h blk' nest' B') (hd : ∀ l ∈ us.map (·.1), l ∉ vs.map (·.1)) (hB : ∀ b ∈ B, b ∉ B') :
    ∃ b2 n2, (∀ l ∈ us.map (·.1), b2 l = blk l) ∧ (∀ l ∈ vs.map (·.1), b2 l = blk' l) ∧ Rows (us ++ vs) h b2 n2 (B ++ B') := by
  classical
  let b2 : Nat → Option (Option Nat) := fun l => if l ∈ us.map (·.1) then blk l else blk' l
  let n2 : Nat → List Nat := fun l => if l ∈ us.map (·.1) then nest l else nest' l
  have eb1 : ∀ l ∈ us.map (·.1), b2 l = blk l := fun l hl => by show (if _ then _ else _) = _; rw [if_pos hl]
  have eb2 : ∀ l ∈ vs.map (·.1), b2 l = blk' l := fun l hl => by show (if _ then _ else _) = _; rw [if_neg (fun e => hd l e hl)]
  have en1 : ∀ l ∈ us.map (·.1), n2 l = nest l := fun l hl => by show (if _ then _ else _) = _; rw [if_pos hl]
  have en2 : ∀ l ∈ vs.map (·.1), n2 l = nest' l := fun l hl => by show (if _ then _ else _) = _; rw [if_neg (fun e => hd l e hl)]
  have hm : ∀ l, l ∈ (us ++ vs).map (·.1) → l ∈ us.map (·.1) ∨ l ∈ vs.map (·.1) := fun l hl => by rw [List.map_append] at hl; exact List.mem_append.1 hl
  refine ⟨b2, n2, eb1, eb2, ⟨fun l hl => ?_, fun l hl => ?_, fun l hl b hb => ?_, fun l hl l' hl' b hb hb' => ?_, fun l hl l' hl' b hb hb' => ?_, fun l hl l' hl' c hc hc' => ?_⟩⟩
  · rcases hm l hl with hl | hl
    · obtain ⟨cells, g1, g2⟩ := h1.ob l hl
      exact ⟨cells, by rw [lo_append_of_mem _ _ _ hl]; exact g1, by rw [eb1 l hl, en1 l hl]; exact g2⟩
    · obtain ⟨cells, g1, g2⟩ := h2.ob l hl
      exact ⟨cells, by rw [lo_append_of_not_mem _ _ _ (fun e => hd l e hl)]; exact g1, by rw [eb2 l hl, en2 l hl]; exact g2⟩
  · rcases hm l hl with hl | hl
    · rw [en1 l hl]; exact ⟨(h1.nd l hl).1, fun c hc => List.mem_append_left _ ((h1.nd l hl).2 c hc)⟩
    · rw [en2 l hl]; exact ⟨(h2.nd l hl).1, fun c hc => List.mem_append_right _ ((h2.nd l hl).2 c hc)⟩
  · rcases hm l hl with hl | hl
    · rw [eb1 l hl] at hb; exact List.mem_append_left _ (h1.inB l hl b hb)
    · rw [eb2 l hl] at hb; exact List.mem_append_right _ (h2.inB l hl b hb)
  · rcases hm l hl with hl | hl <;> rcases hm l' hl' with hl' | hl'
    · rw [eb1 l hl] at hb; rw [eb1 l' hl'] at hb'; exact h1.bb l hl l' hl' b hb hb'
    · rw [eb1 l hl] at hb; rw [eb2 l' hl'] at hb'; exact absurd (h2.inB l' hl' b hb') (hB b (h1.inB l hl b hb))
    · rw [eb2 l hl] at hb; rw [eb1 l' hl'] at hb'; exact absurd (h2.inB l hl b hb) (hB b (h1.inB l' hl' b hb'))
    · rw [eb2 l hl] at hb; rw [eb2 l' hl'] at hb'; exact h2.bb l hl l' hl' b hb hb'
  · rcases hm l hl with hl | hl <;> rcases hm l' hl' with hl' | hl'
    · rw [eb1 l hl] at hb; rw [en1 l' hl'] at hb'; exact h1.bn l hl l' hl' b hb hb'
    · rw [eb1 l hl] at hb; rw [en2 l' hl'] at hb'; exact hB b (h1.inB l hl b hb) ((h2.nd l' hl').2 b hb')
    · rw [eb2 l hl] at hb; rw [en1 l' hl'] at hb'; exact hB b ((h1.nd l' hl').2 b hb') (h2.inB l hl b hb)
    · rw [eb2 l hl] at hb; rw [en2 l' hl'] at hb'; exact h2.bn l hl l' hl' b hb hb'
  · rcases hm l hl with hl | hl <;> rcases hm l' hl' with hl' | hl'
    · rw [en1 l hl] at hc; rw [en1 l' hl'] at hc'; exact h1.nn l hl l' hl' c hc hc'
    · rw [en1 l hl] at hc; rw [en2 l' hl'] at hc'; exact absurd ((h2.nd l' hl').2 c hc') (hB c ((h1.nd l hl).2 c hc))
    · rw [en2 l hl] at hc; rw [en1 l' hl'] at hc'; exact absurd ((h2.nd l hl).2 c hc) (hB c ((h1.nd l' hl').2 c hc'))
    · rw [en2 l hl] at hc; rw [en2 l' hl'] at hc'; exact h2.nn l hl l' hl' c hc hc'

/-- a result with own rows: labels from L on -/
def labV : PV → Nat → PV
  | .rw s n _, L => .ref L s 0 n
  | .agg cells, L => .agg (rowsL cells L)
  | p, _ => p
def labO : PV → Nat → List (Nat × Option Ob)
  | .rw _ _ cells, L => [(L, some ⟨cells, true, false⟩)]
  | .agg cells, L => rowsO cells L
  | _, _ => []
def labN : PV → Nat
  | .rw _ _ _ => 1
  | .agg cells => cells.length
  | _ => 0
def okV : PV → Bool
  | .rw _ _ _ => true
  | .agg cells => okRows cells
  | p => flat p
theorem rowsO_hi : ∀ {vs : List PV} {L l : Nat}, l ∈ (rowsO vs L).map (·.1) → l < L + vs.length
  | [], _, _, h => by simp [rowsO] at h
  | p :: r, L, l, h => by
    cases p with
    | rw s n cells =>
      simp only [rowsO, List.map_cons, List.mem_cons] at h
      rcases h with rfl | h
      · simp
      · have := rowsO_hi h; simp only [List.length_cons]; omega
    | _ => simp only [rowsO] at h; have := rowsO_hi h; simp only [List.length_cons]; omega
theorem labO_key {p : PV} {L l : Nat} (h : l ∈ (labO p L).map (·.1)) : L ≤ l ∧ l < L + labN p := by
  cases p with
  | rw s n cells => simp only [labO, List.map_cons, List.map_nil, List.mem_singleton] at h; subst h; simp [labN]
  | agg cells => exact ⟨rowsO_key h, rowsO_hi h⟩
  | _ => simp [labO] at h
theorem lab_rel {h : Array Obj} (p : PV) {c : Value} {B : List Nat} (L : Nat) (H : RelV h dead p c B) (hok : okV p = true) (hnd : B.Nodup) :
    ∃ blk nest, Rows (labO p L) h blk nest B ∧ ∀ β', (∀ l ∈ (labO p L).map (·.1), β' l = blk l) → RelV h β' (labV p L) c [] := by
  have plain : flat p = true → labO p L = [] → labV p L = p → ∃ blk nest, Rows (labO p L) h blk nest B ∧ ∀ β', (∀ l ∈ (labO p L).map (·.1), β' l = blk l) → RelV h β' (labV p L) c [] := by
    intro hf e1 e2
    have := flat_nil hf H
    subst this
    rw [e1, e2]
    exact ⟨fun _ => none, fun _ => [], Rows.nil, fun β' _ => H.nolab (flat_labs hf)⟩
  cases p with
  | rw s n cells =>
    have q3 : RelL h true dead [.rw s n cells] #[c] 0 B ∨ True := .inr trivial
    have q4 : RelL h false dead [.rw s n cells] #[c] 0 B := by
      simp only [RelL]
      exact ⟨c, B, [], ⟨by simp, by simp⟩, H, rfl, by simp⟩
    obtain ⟨blk, nest, hr, hrel⟩ := rows_rel [.rw s n cells] #[c] 0 B L q4 rfl hnd
    refine ⟨blk, nest, hr, fun β' hβ' => ?_⟩
    have h4 := hrel β' hβ'
    simp only [rowsL, RelL] at h4
    obtain ⟨c', B1, B2, g1, g2, _, g4⟩ := h4
    simp at g1; subst g1
    obtain ⟨rfl, _⟩ := List.append_eq_nil_iff.1 g4.symm
    exact g2
  | agg cells =>
    simp only [RelV] at H
    obtain ⟨cs, rfl, q2, q3⟩ := H
    obtain ⟨blk, nest, hr, hrel⟩ := rows_rel cells cs 0 B L q3 hok hnd
    refine ⟨blk, nest, hr, fun β' hβ' => ?_⟩
    simp only [labV, RelV]
    exact ⟨cs, rfl, by rw [q2, rowsL_len], hrel β' hβ'⟩
  | sc v => exact plain hok rfl rfl
  | sl n cells => simp [okV, flat] at hok
  | ref l s off n => simp [okV, flat] at hok
  | ptr l k => simp [okV, flat] at hok
  | iptr cells => simp [okV, flat] at hok
  | tup vs => exact plain hok rfl rfl
  | any => simp [okV, flat] at hok
  | was v p => simp [okV, flat] at hok
def tupV : List PV → Nat → List PV
  | [], _ => []
  | p :: r, L => labV p L :: tupV r (L + labN p)
def tupO : List PV → Nat → List (Nat × Option Ob)
  | [], _ => []
  | p :: r, L => labO p L ++ tupO r (L + labN p)
def okT : List PV → Bool
  | [] => true
  | p :: r => okV p && okT r
theorem tupO_key : ∀ {vs : List PV} {L l : Nat}, l ∈ (tupO vs L).map (·.1) → L ≤ l
  | [], _, _, h => by simp [tupO] at h
  | p :: r, L, l, h => by
    simp only [tupO, List.map_append, List.mem_append] at h
    rcases h with h | h
    · exact (labO_key h).1
    · have := tupO_key h; omega
theorem tupV_len : ∀ (vs : List PV) (L : Nat), (tupV vs L).length = vs.length
  | [], _ => rfl
  | p :: r, L => by simp [tupV, tupV_len r]
theorem tup_rel {h : Array Obj} {q : Bool} : ∀ (vs : List PV) (cs : Array Value) (i : Nat) (B : List Nat) (L : Nat), RelL h q dead vs cs i B → okT vs = true → B.Nodup →
    ∃ blk nest, Rows (tupO vs L) h blk nest B ∧ ∀ β', (∀ l ∈ (tupO vs L).map (·.1), β' l = blk l) → RelL h q β' (tupV vs L) cs i []
  | [], cs, i, B, L, _, _, _ => ⟨fun _ => none, fun _ => [], Rows.nil, by simp [tupV, RelL]⟩
  | p :: r, cs, i, B, L, H, hok, hnd => by
    simp only [okT, Bool.and_eq_true] at hok
    simp only [RelL] at H
    obtain ⟨c, B1, B2, h1, h2, h3, rfl⟩ := H
    have nd := List.nodup_append.1 hnd
    obtain ⟨blk, nest, hr, hrel⟩ := lab_rel p L h2 hok.1 nd.1
    obtain ⟨blk', nest', hr', hrel'⟩ := tup_rel r cs (i + 1) B2 (L + labN p) h3 hok.2 nd.2.1
    obtain ⟨b2, n2, e1, e2, hr2⟩ := hr.append hr' (fun l hl hl' => by have := (labO_key hl).2; have := tupO_key hl'; omega) (fun b hb hb' => nd.2.2 b hb b hb' rfl)
    refine ⟨b2, n2, hr2, fun β' hβ' => ?_⟩
    simp only [tupV, RelL]
    have hk : ∀ l, l ∈ (labO p L).map (·.1) ∨ l ∈ (tupO r (L + labN p)).map (·.1) → l ∈ (tupO (p :: r) L).map (·.1) := fun l hl => by simp only [tupO, List.map_append, List.mem_append]; exact hl
    exact ⟨c, [], [], h1, hrel β' (fun l hl => (hβ' l (hk l (.inl hl))).trans (e1 l hl)), hrel' β' (fun l hl => (hβ' l (hk l (.inr hl))).trans (e2 l hl)), rfl⟩
variable {d : Nat} {ty : TypeId} {pos : String} {af : Array Edge} {g : Option (Nat × Bool)}
/-- A call whose result holds rows: they become own rows. -/
theorem L_callA {f : FuncId} [hfc : FnC P f] {xs : List Operand} {us : Array TypeId} {ps : List PV} {ls : List Nat} {p p' : PV} {os : List (Nat × Option Ob)} (L : Nat) (ha : ArgsV S O xs ps ls) (hm : Meets P f ps p true) (hok : okV p = true)
    (hv : labV p L = p') (ho : labO p L = os) (hio : ioFree Γ (keysO os)) (hd : Nat.blt d N = true) :
    Local Γ ⟨some d, .call ⟨.value (.func f), xs.toArray, us⟩, ty, pos, af, g⟩ ⟨S, O⟩ ⟨[(d, ⟨p', false⟩)], os⟩ (orsA xs) ls (keysO os) := by
  intro F hs hl hnd a w ⟨ow, β, hsim⟩ Q
  subst hv; subst ho
  have hdN := (blt_iff _ _).1 hd
  have hargs := args_rel hsim ha hs hl
  unfold Oper.wp
  have hrun : (execOp a.eval ⟨some d, .call ⟨.value (.func f), xs.toArray, us⟩, ty, pos, af, g⟩).run P w = .ok (.enter f (xs.map a.eval).toArray) w := by
    simp [execOp, resolve, Act.eval, Deferred.ofValue, invoke, hfc.run]
  rw [hrun]
  show Calls _ _ _ _ _
  refine (hm w (xs.map a.eval).toArray (fun b => Im Γ ow w b ∨ ∃ l ∈ ls, ow b = .lab l) (by simpa using hargs)).mono fun e w' ⟨c, B, he, hb, h1, h2, h3⟩ => ?_
  subst he
  show Sim Γ _ _ _
  obtain ⟨n1, n2⟩ := h3 rfl
  obtain ⟨blk, nest, hr, hrel⟩ := lab_rel p L h1 hok n1
  rw [keysO_eq] at hnd hio
  obtain ⟨ow', β', hβ, h'⟩ := hsim.growLay hb hr n2 hnd (ioFree_spec hio)
  have h2 := h'.put (d := d) (v := labV p L) (c := c) (O := []) hdN (hrel β' hβ) (by simp)
  exact ⟨_, _, h2.congr (fun k => rfl) (fun l => rfl)⟩
theorem L_callB {f : FuncId} [hfc : FnC P f] {xs : List Operand} {us : Array TypeId} {ps : List PV} {ls : List Nat} {vs vs' : List PV} {os : List (Nat × Option Ob)} (L : Nat) (ha : ArgsV S O xs ps ls) (hm : Meets P f ps (.tup vs) true) (hok : okT vs = true)
    (hv : tupV vs L = vs') (ho : tupO vs L = os) (hio : ioFree Γ (keysO os)) (hd : Nat.blt d N = true) :
    Local Γ ⟨some d, .call ⟨.value (.func f), xs.toArray, us⟩, ty, pos, af, g⟩ ⟨S, O⟩ ⟨[(d, ⟨.tup vs', false⟩)], os⟩ (orsA xs) ls (keysO os) := by
  intro F hs hl hnd a w ⟨ow, β, hsim⟩ Q
  subst hv; subst ho
  have hdN := (blt_iff _ _).1 hd
  have hargs := args_rel hsim ha hs hl
  unfold Oper.wp
  have hrun : (execOp a.eval ⟨some d, .call ⟨.value (.func f), xs.toArray, us⟩, ty, pos, af, g⟩).run P w = .ok (.enter f (xs.map a.eval).toArray) w := by
    simp [execOp, resolve, Act.eval, Deferred.ofValue, invoke, hfc.run]
  rw [hrun]
  show Calls _ _ _ _ _
  refine (hm w (xs.map a.eval).toArray (fun b => Im Γ ow w b ∨ ∃ l ∈ ls, ow b = .lab l) (by simpa using hargs)).mono fun e w' ⟨c, B, he, hb, h1, h2, h3⟩ => ?_
  subst he
  show Sim Γ _ _ _
  obtain ⟨n1, n2⟩ := h3 rfl
  simp only [RelV] at h1
  obtain ⟨cs, rfl, q2, q3⟩ := h1
  obtain ⟨blk, nest, hr, hrel⟩ := tup_rel vs cs 0 B L q3 hok n1
  rw [keysO_eq] at hnd hio
  obtain ⟨ow', β', hβ, h'⟩ := hsim.growLay hb hr n2 hnd (ioFree_spec hio)
  have h2 := h'.put (d := d) (v := .tup (tupV vs L)) (c := .tuple cs) (O := []) hdN (by
    simp only [RelV]
    exact ⟨cs, rfl, by rw [q2, tupV_len], hrel β' hβ⟩) (by simp)
  exact ⟨_, _, h2.congr (fun k => rfl) (fun l => rfl)⟩
end
end Go.Ev
