/- The engine, part X: results that are rows of the caller's own. -/
import Derived.Test.YtlfbihajihpchaaGreatEvV
import Derived.Laws.Tables
set_option linter.all false
namespace Go.Ev
open Go.RowKit (Below)
section
variable {P : Program} {N : Nat} {Γ : Ctx P N} {S : List (Nat × Slot)} {O : List (Nat × Option Ob)} {ow : Nat → Own} {β : Nat → Option (Option Nat)} {F : Env} {a : Act} {w : World}

/-- What is known of new rows: where they lie, which blocks their cells read. -/
structure Rows (us : List (Nat × Option Ob)) (h : Array Obj) (blk : Nat → Option (Option Nat)) (nest : Nat → List Nat) (B : List Nat) : Prop where
  ob : ∀ l ∈ us.map (·.1), ∃ cells, lo us l = some ⟨cells, true, false⟩ ∧ ((blk l = some none ∧ cells = [] ∧ nest l = []) ∨ ∃ b cs t, blk l = some (some b) ∧ h[b]? = some (.cells cs t (0, 0)) ∧ RelL h true dead cells cs 0 (nest l))
  nd : ∀ l ∈ us.map (·.1), (nest l).Nodup ∧ ∀ c ∈ nest l, c ∈ B
  inB : ∀ l ∈ us.map (·.1), ∀ b, blk l = some (some b) → b ∈ B
  bb : ∀ l ∈ us.map (·.1), ∀ l' ∈ us.map (·.1), ∀ b, blk l = some (some b) → blk l' = some (some b) → l = l'
  bn : ∀ l ∈ us.map (·.1), ∀ l' ∈ us.map (·.1), ∀ b, blk l = some (some b) → b ∉ nest l'
  nn : ∀ l ∈ us.map (·.1), ∀ l' ∈ us.map (·.1), ∀ c, c ∈ nest l → c ∈ nest l' → l = l'

theorem SimG.growLay (h : SimG Γ ow β F a w) {w' : World} (hb : Below w.heap.size w w') {us : List (Nat × Option Ob)} {blk : Nat → Option (Option Nat)} {nest : Nat → List Nat} {B : List Nat} (hr : Rows us w'.heap blk nest B)
    (hB : ∀ b ∈ B, w.heap.size ≤ b ∧ Free w' b) (hnl : ∀ l ∈ us.map (·.1), NoLab F l) (hio : ∀ l ∈ us.map (·.1), Γ.io l = none) :
    ∃ ow' β', (∀ l ∈ us.map (·.1), β' l = blk l) ∧ SimG Γ ow' β' (F.app ⟨[], us⟩) a w' := by
  classical
  let β' : Nat → Option (Option Nat) := fun l => if l ∈ us.map (·.1) then blk l else β l
  have hex : ∀ b, ∃ o : Own, (∀ l, l ∈ us.map (·.1) → blk l = some (some b) → o = .lab l) ∧ (∀ l, l ∈ us.map (·.1) → b ∈ nest l → o = .obj l) ∧ ((¬ ∃ l, l ∈ us.map (·.1) ∧ blk l = some (some b)) → (¬ ∃ l, l ∈ us.map (·.1) ∧ b ∈ nest l) → o = ow b) := by
    intro b
    rcases Classical.em (∃ l, l ∈ us.map (·.1) ∧ blk l = some (some b)) with ⟨l, h1, h2⟩ | hh
    · exact ⟨.lab l, fun l' h1' h2' => by rw [hr.bb l h1 l' h1' b h2 h2'], fun l' h1' h2' => absurd h2' (hr.bn l h1 l' h1' b h2), fun hh => absurd ⟨l, h1, h2⟩ hh⟩
    · rcases Classical.em (∃ l, l ∈ us.map (·.1) ∧ b ∈ nest l) with ⟨l, h1, h2⟩ | hn
      · exact ⟨.obj l, fun l' h1' h2' => absurd ⟨l', h1', h2'⟩ hh, fun l' h1' h2' => by rw [hr.nn l h1 l' h1' b h2 h2'], fun _ hn => absurd ⟨l, h1, h2⟩ hn⟩
      · exact ⟨ow b, fun l' h1' h2' => absurd ⟨l', h1', h2'⟩ hh, fun l' h1' h2' => absurd ⟨l', h1', h2'⟩ hn, fun _ _ => rfl⟩
  obtain ⟨ow', how⟩ := Classical.axiomOfChoice hex
  have hβ1 : ∀ l, l ∈ us.map (·.1) → β' l = blk l := fun l hl => by show (if _ then _ else _) = _; rw [if_pos hl]
  have hβ2 : ∀ l, l ∉ us.map (·.1) → β' l = β l := fun l hl => by show (if _ then _ else _) = _; rw [if_neg hl]
  have how1 : ∀ b l, l ∈ us.map (·.1) → blk l = some (some b) → ow' b = .lab l := fun b l h1 h2 => (how b).1 l h1 h2
  have how2 : ∀ b l, l ∈ us.map (·.1) → b ∈ nest l → ow' b = .obj l := fun b l h1 h2 => (how b).2.1 l h1 h2
  have how3 : ∀ b, b < w.heap.size → ow' b = ow b := by
    intro b hlt
    have hh : ¬ ∃ l, l ∈ us.map (·.1) ∧ blk l = some (some b) := fun ⟨l', h1, h2⟩ => by have := (hB b (hr.inB l' h1 b h2)).1; omega
    have hn : ¬ ∃ l, l ∈ us.map (·.1) ∧ b ∈ nest l := fun ⟨l', h1, h2⟩ => by have := (hB b ((hr.nd l' h1).2 b h2)).1; omega
    exact (how b).2.2 hh hn
  have hlt' : ∀ b, Free w' b → b < w'.heap.size := by
    rintro b ⟨cs, t, e⟩
    rcases Nat.lt_or_ge b w'.heap.size with h | h
    · exact h
    · simp [Array.getElem?_eq_none h] at e
  have hIm : ∀ b, Im Γ ow w b → Im Γ ow' w' b := fun b ⟨h1, h2, h3⟩ => ⟨Nat.lt_of_lt_of_le h1 hb.size, h2, fun l => by rw [how3 b h1]; exact h3 l⟩
  have hFree : ∀ b, b < w.heap.size → Free w b → Free w' b := fun b hlt ⟨cs, t, hc⟩ => ⟨cs, t, by rw [hb.block b hlt]; exact hc⟩
  have hkeep : ∀ m, m ∉ us.map (·.1) → KeepB w.heap w'.heap β β' m := by
    intro m hm o ho
    rw [hβ2 m hm] at ho
    refine ⟨ho, fun b hob cs t hc => ⟨cs, ?_, rfl⟩⟩
    subst hob
    rw [hb.block b (h.block_lt ho)]; exact hc
  refine ⟨ow', β', hβ1, { size := h.size, defers := h.defers, kept := ?_, slots := fun k => ?_, objs := fun l ob hl => ?_, gone := fun l hl => ?_, own := fun b hb' => ?_, ios := fun m b hm hs => ?_, fresh := fun l b hl hi => ?_ }⟩
  · exact ⟨hb.os.trans h.kept.os, hb.output.trans h.kept.output, hb.tape.trans h.kept.tape, Nat.le_trans h.kept.size hb.size,
      fun b h1 h2 hmi => (hb.block b (Nat.lt_of_lt_of_le h1 h.kept.size)).trans (h.kept.old b h1 h2 hmi),
      fun b h1 hmi cs t h2 => by
        obtain ⟨cs', h3, h4⟩ := h.kept.ios b h1 hmi cs t h2
        exact ⟨cs', by rw [hb.block b (Nat.lt_of_lt_of_le h1 h.kept.size)]; exact h3, h4⟩⟩
  · obtain ⟨B', h1, h2, h3⟩ := h.slots k
    refine ⟨B', RelV.keep _ _ _ (fun l hl => hkeep l (fun e => (hnl l e).1 k hl)) (fun b hbO => hb.block b (h2 b hbO).1) h1, fun b hbO => hIm b (h2 b hbO), fun hd => ⟨(h3 hd).1, fun b hbO => ⟨?_, hFree b (h2 b hbO).1 ((h3 hd).2 b hbO).2⟩⟩⟩
    rw [how3 b (h2 b hbO).1]; exact ((h3 hd).2 b hbO).1
  · simp only [Env.app] at hl
    by_cases hm : l ∈ us.map (·.1)
    · rw [lo_append_of_mem _ _ _ hm] at hl
      obtain ⟨cells, e1, g⟩ := hr.ob l hm
      rw [e1] at hl; cases hl
      have hnB := hr.nd l hm
      refine ⟨nest l, fun b hbn => ⟨hlt' b (hB b (hnB.2 b hbn)).2, .inr (.inl (.inl (Nat.le_trans h.kept.size (hB b (hnB.2 b hbn)).1))), fun l' => by rw [how2 b l hm hbn]; simp⟩, fun _ => ⟨hnB.1, fun b hbn => ⟨how2 b l hm hbn, (hB b (hnB.2 b hbn)).2⟩⟩, ?_⟩
      rcases g with ⟨g1, g2, g3⟩ | ⟨b, cs, t, g1, g2, g3⟩
      · exact .inl ⟨(hβ1 l hm).trans g1, g2, g3⟩
      · exact .inr ⟨b, cs, t, (hβ1 l hm).trans g1, how1 b l hm g1, g2, by simpa using g3⟩
    · rw [lo_append_of_not_mem _ _ _ hm] at hl
      obtain ⟨B', h1, h2, h3⟩ := h.objs l ob hl
      refine ⟨B', fun b hbO => hIm b (h1 b hbO), fun hd => ⟨(h2 hd).1, fun b hbO => ⟨by rw [how3 b (h1 b hbO).1]; exact ((h2 hd).2 b hbO).1, hFree b (h1 b hbO).1 ((h2 hd).2 b hbO).2⟩⟩, ?_⟩
      rcases h3 with ⟨g1, g2, g3⟩ | ⟨b, cs, t, g1, g2, g3, g4⟩
      · exact .inl ⟨(hβ2 l hm).trans g1, g2, g3⟩
      · refine .inr ⟨b, cs, t, (hβ2 l hm).trans g1, by rw [how3 b (h.block_lt g1)]; exact g2, by rw [hb.block b (h.block_lt g1)]; exact g3, ?_⟩
        cases hbx : ob.box with
        | true => rw [hbx] at g4; exact RelL.keep _ _ _ _ (fun p hp m hm' => hkeep m (fun e => (hnl m e).2.1 l ob hl hbx p hp hm')) (fun b hbO => hb.block b (h1 b hbO).1) g4
        | false => rw [hbx] at g4; exact RelL.keep _ _ _ _ (fun _ _ l _ => KeepB.dead _ _ l) (fun b hbO => hb.block b (h1 b hbO).1) g4
  · simp only [Env.app] at hl
    by_cases hm : l ∈ us.map (·.1)
    · rw [lo_append_of_mem _ _ _ hm] at hl
      obtain ⟨cells, e1, _⟩ := hr.ob l hm
      rw [e1] at hl; cases hl
    · rw [lo_append_of_not_mem _ _ _ hm] at hl
      rw [hβ2 l hm]; exact h.gone l hl
  · by_cases hlt : b < w.heap.size
    · rw [how3 b hlt] at hb'
      obtain ⟨g1, g2⟩ := h.own b hb'
      exact ⟨Nat.lt_of_lt_of_le g1 hb.size, by rw [how3 b hlt]; exact g2⟩
    · have hmem : b ∈ B := by
        rcases Classical.em (∃ l, l ∈ us.map (·.1) ∧ blk l = some (some b)) with ⟨l, h1, h2⟩ | hh
        · exact hr.inB l h1 b h2
        · rcases Classical.em (∃ l, l ∈ us.map (·.1) ∧ b ∈ nest l) with ⟨l, h1, h2⟩ | hn
          · exact (hr.nd l h1).2 b h2
          · exfalso
            have e : ow' b = ow b := (how b).2.2 hh hn
            rw [e] at hb'
            exact hlt (h.own b hb').1
      exact ⟨hlt' b (hB b hmem).2, .inl (.inl (.inl (Nat.le_trans h.kept.size (hB b hmem).1)))⟩
  · have hmn : m ∉ us.map (·.1) := fun e => by rw [hio m e] at hm; cases hm
    simp only [Env.app] at hs
    rw [lo_append_of_not_mem _ _ _ hmn] at hs
    rw [hβ2 m hmn]; exact h.ios m b hm hs
  · by_cases hm : l ∈ us.map (·.1)
    · rw [hβ1 l hm] at hl
      exact .inl (Nat.le_trans h.kept.size (hB b (hr.inB l hm b hl)).1)
    · rw [hβ2 l hm] at hl; exact h.fresh l b hl hi

/-- rows among values: each gets a label -/
def rowsL : List PV → Nat → List PV
  | [], _ => []
  | .rw s n _ :: r, L => .ref L s 0 n :: rowsL r (L + 1)
  | p :: r, L => p :: rowsL r (L + 1)
def rowsO : List PV → Nat → List (Nat × Option Ob)
  | [], _ => []
  | .rw _ _ cells :: r, L => (L, some ⟨cells, true, false⟩) :: rowsO r (L + 1)
  | _ :: r, L => rowsO r (L + 1)
theorem rowsL_len : ∀ (vs : List PV) (L : Nat), (rowsL vs L).length = vs.length
  | [], _ => rfl
  | p :: r, L => by cases p <;> simp [rowsL, rowsL_len r]
def okRows : List PV → Bool
  | [] => true
  | .rw _ _ _ :: r => okRows r
  | p :: r => flat p && okRows r
theorem flat_labs {p : PV} (h : flat p = true) : p.labs = [] := by
  have key : ∀ cells : List PV, (cells.all fun | .sc _ => true | _ => false) = true → labsL cells = [] := by
    intro cells
    induction cells with
    | nil => intro _; rfl
    | cons x r ih =>
      intro hh
      simp only [List.all_cons, Bool.and_eq_true] at hh
      cases x with
      | sc v => simp only [labsL, PV.labs, List.nil_append]; exact ih hh.2
      | _ => simp at hh
  cases p with
  | sc v => rfl
  | agg cells => simp only [PV.labs]; exact key cells h
  | tup vs =>
    simp only [PV.labs]
    simp only [flat] at h
    induction vs with
    | nil => rfl
    | cons x r ih =>
      simp only [List.all_cons, Bool.and_eq_true] at h
      simp only [labsL]
      rw [ih h.2]
      cases x with
      | sc v => rfl
      | agg cells => simp only [PV.labs, List.append_nil]; exact key cells h.1
      | _ => simp at h
  | _ => simp [flat] at h
theorem rowsO_key : ∀ {vs : List PV} {L l : Nat}, l ∈ (rowsO vs L).map (·.1) → L ≤ l
  | [], _, _, h => by simp [rowsO] at h
  | p :: r, L, l, h => by
    cases p with
    | rw s n cells =>
      simp only [rowsO, List.map_cons, List.mem_cons] at h
      rcases h with rfl | h
      · exact Nat.le_refl _
      · have := rowsO_key h; omega
    | _ => simp only [rowsO] at h; have := rowsO_key h; omega
theorem rows_rel {h : Array Obj} {q : Bool} : ∀ (vs : List PV) (cs : Array Value) (i : Nat) (B : List Nat) (L : Nat), RelL h q dead vs cs i B → okRows vs = true → B.Nodup →
    ∃ blk nest, Rows (rowsO vs L) h blk nest B ∧ ∀ β', (∀ l ∈ (rowsO vs L).map (·.1), β' l = blk l) → RelL h q β' (rowsL vs L) cs i []
  | [], cs, i, B, L, _, _, _ => ⟨fun _ => none, fun _ => [], ⟨by simp [rowsO], by simp [rowsO], by simp [rowsO], by simp [rowsO], by simp [rowsO], by simp [rowsO]⟩, by simp [rowsL, RelL]⟩
  | p :: r, cs, i, B, L, H, hok, hnd => by
    simp only [RelL] at H
    obtain ⟨c, B1, B2, h1, h2, h3, rfl⟩ := H
    have hnd' := List.nodup_append.1 hnd
    have rest : okRows r = true := by
      cases p with
      | rw s n cells => exact hok
      | _ => simp only [okRows, Bool.and_eq_true] at hok; exact hok.2
    obtain ⟨blk, nest, hr, hrel⟩ := rows_rel r cs (i + 1) B2 (L + 1) h3 rest hnd'.2.1
    have hgt : ∀ l, l ∈ (rowsO r (L + 1)).map (·.1) → l ≠ L := fun l hl e => by have := rowsO_key hl; omega
    have other : flat p = true → rowsO (p :: r) L = rowsO r (L + 1) → rowsL (p :: r) L = p :: rowsL r (L + 1) → ∃ blk nest, Rows (rowsO (p :: r) L) h blk nest (B1 ++ B2) ∧ ∀ β', (∀ l ∈ (rowsO (p :: r) L).map (·.1), β' l = blk l) → RelL h q β' (rowsL (p :: r) L) cs i [] := by
      intro hf e1 e2
      rw [e1, e2]
      refine ⟨blk, nest, ⟨hr.ob, fun l hl => ⟨(hr.nd l hl).1, fun c hc => List.mem_append_right _ ((hr.nd l hl).2 c hc)⟩, fun l hl b hb => List.mem_append_right _ (hr.inB l hl b hb), hr.bb, hr.bn, hr.nn⟩, fun β' hβ' => ?_⟩
      simp only [RelL]
      have := flat_nil hf h2
      subst this
      exact ⟨c, [], [], h1, h2.nolab (flat_labs hf), hrel β' hβ', rfl⟩
    cases p with
    | rw s n cells =>
      simp only [RelV] at h2
      have main : ∀ (o : Option Nat) (ns : List Nat), ((o = none ∧ cells = [] ∧ ns = [] ∧ n = 0 ∧ c = .slice none 0 0) ∨ ∃ b cap cs' t, o = some b ∧ (c = .slice (some ⟨b, 0, none⟩) n cap ∧ n ≤ cap ∧ cap * s ≤ cs'.size) ∧ h[b]? = some (.cells cs' t (0, 0)) ∧ RelL h true dead cells cs' 0 ns) →
          ns.Nodup → (∀ c ∈ ns, c ∈ B1) → (∀ b, o = some b → b ∈ B1 ∧ b ∉ ns) → ∃ blk nest, Rows (rowsO (.rw s n cells :: r) L) h blk nest (B1 ++ B2) ∧ ∀ β', (∀ l ∈ (rowsO (.rw s n cells :: r) L).map (·.1), β' l = blk l) → RelL h q β' (rowsL (.rw s n cells :: r) L) cs i [] := by
        intro o ns hcase hns hsub hob
        have hdis : ∀ x, x ∈ B1 → x ∉ B2 := fun x h1 h2 => hnd'.2.2 x h1 x h2 rfl
        refine ⟨fun l => if l = L then some o else blk l, fun l => if l = L then ns else nest l, ⟨?_, ?_, ?_, ?_, ?_, ?_⟩, fun β' hβ' => ?_⟩
        · intro l hl
          simp only [rowsO, List.map_cons, List.mem_cons] at hl
          simp only [rowsO, lo_cons]
          rcases hl with rfl | hl
          · refine ⟨cells, by simp, ?_⟩
            simp only [if_true]
            rcases hcase with ⟨rfl, g1, g2, _⟩ | ⟨b, cap, cs', t, rfl, _, g2, g3⟩
            · exact .inl ⟨rfl, g1, g2⟩
            · exact .inr ⟨b, cs', t, rfl, g2, g3⟩
          · have hne := hgt l hl
            obtain ⟨cl, g1, g2⟩ := hr.ob l hl
            exact ⟨cl, by rw [if_neg (fun e => hne e.symm)]; exact g1, by simp only [hne, if_false]; exact g2⟩
        · intro l hl
          simp only [rowsO, List.map_cons, List.mem_cons] at hl
          rcases hl with rfl | hl
          · simp only [if_true]; exact ⟨hns, fun c hc => List.mem_append_left _ (hsub c hc)⟩
          · simp only [hgt l hl, if_false]; exact ⟨(hr.nd l hl).1, fun c hc => List.mem_append_right _ ((hr.nd l hl).2 c hc)⟩
        · intro l hl b hb
          simp only [rowsO, List.map_cons, List.mem_cons] at hl
          rcases hl with rfl | hl
          · simp only [if_true] at hb; exact List.mem_append_left _ (hob b (Option.some.inj hb)).1
          · simp only [hgt l hl, if_false] at hb; exact List.mem_append_right _ (hr.inB l hl b hb)
        · intro l hl l' hl' b hb hb'
          simp only [rowsO, List.map_cons, List.mem_cons] at hl hl'
          rcases hl with rfl | hl <;> rcases hl' with rfl | hl'
          · rfl
          · simp only [if_true] at hb; simp only [hgt l' hl', if_false] at hb'
            exact absurd (hr.inB l' hl' b hb') (hdis b (hob b (Option.some.inj hb)).1)
          · simp only [if_true] at hb'; simp only [hgt l hl, if_false] at hb
            exact absurd (hr.inB l hl b hb) (hdis b (hob b (Option.some.inj hb')).1)
          · simp only [hgt l hl, if_false] at hb; simp only [hgt l' hl', if_false] at hb'
            exact hr.bb l hl l' hl' b hb hb'
        · intro l hl l' hl' b hb hb'
          simp only [rowsO, List.map_cons, List.mem_cons] at hl hl'
          rcases hl with rfl | hl <;> rcases hl' with rfl | hl'
          · simp only [if_true] at hb hb'; exact (hob b (Option.some.inj hb)).2 hb'
          · simp only [if_true] at hb; simp only [hgt l' hl', if_false] at hb'
            exact hdis b (hob b (Option.some.inj hb)).1 ((hr.nd l' hl').2 b hb')
          · simp only [if_true] at hb'; simp only [hgt l hl, if_false] at hb
            exact hdis b (hsub b hb') (hr.inB l hl b hb)
          · simp only [hgt l hl, if_false] at hb; simp only [hgt l' hl', if_false] at hb'
            exact hr.bn l hl l' hl' b hb hb'
        · intro l hl l' hl' x hx hx'
          simp only [rowsO, List.map_cons, List.mem_cons] at hl hl'
          rcases hl with rfl | hl <;> rcases hl' with rfl | hl'
          · rfl
          · simp only [if_true] at hx; simp only [hgt l' hl', if_false] at hx'
            exact absurd ((hr.nd l' hl').2 x hx') (hdis x (hsub x hx))
          · simp only [if_true] at hx'; simp only [hgt l hl, if_false] at hx
            exact absurd ((hr.nd l hl).2 x hx) (hdis x (hsub x hx'))
          · simp only [hgt l hl, if_false] at hx; simp only [hgt l' hl', if_false] at hx'
            exact hr.nn l hl l' hl' x hx hx'
        · simp only [rowsL, RelL]
          have eL : β' L = some o := by have := hβ' L (by simp [rowsO]); simpa using this
          refine ⟨c, [], [], h1, ?_, hrel β' (fun l hl => ?_), rfl⟩
          · simp only [RelV]
            rcases hcase with ⟨rfl, g1, g2, g3, g4⟩ | ⟨b, cap, cs', t, rfl, ⟨g1, g2, g3⟩, g4, _⟩
            · refine ⟨?_, fun _ => ⟨g3, ?_, g4⟩, fun b e => by rw [eL] at e; cases e⟩ <;> trivial
            · refine ⟨by trivial, (fun e => by rw [eL] at e; cases e), fun b' e => ?_⟩
              rw [eL] at e; cases e
              exact ⟨cap, cs', t, by simpa using g1, g4, by simpa using g3, g2⟩
          · have := hβ' l (by simp only [rowsO, List.map_cons, List.mem_cons]; exact .inr hl)
            rw [this]; simp only [hgt l hl, if_false]
      rcases h2 with ⟨e1, e2, e3, e4⟩ | ⟨b, cap, cs', t, O', e1, e2, e3, rfl⟩
      · exact main none [] (.inl ⟨rfl, e2, rfl, e1, e4⟩) (by simp) (by simp) (by simp)
      · have hb1 := List.nodup_cons.1 hnd'.1
        exact main (some b) O' (.inr ⟨b, cap, cs', t, rfl, e1, e2, e3⟩) hb1.2 (fun c hc => by simp [hc]) (fun b' e => by cases e; exact ⟨by simp, hb1.1⟩)
    | sc v => exact other (by simp only [okRows, Bool.and_eq_true] at hok; exact hok.1) rfl rfl
    | sl n cells => simp [okRows, flat] at hok
    | ref l s off n => simp [okRows, flat] at hok
    | ptr l k => simp [okRows, flat] at hok
    | iptr cells => simp [okRows, flat] at hok
    | agg cells => exact other (by simp only [okRows, Bool.and_eq_true] at hok; exact hok.1) rfl rfl
    | tup vs => exact other (by simp only [okRows, Bool.and_eq_true] at hok; exact hok.1) rfl rfl
    | any => simp [okRows, flat] at hok
    | was v p => simp [okRows, flat] at hok

variable {d : Nat} {ty : TypeId} {pos : String} {af : Array Edge} {g : Option (Nat × Bool)}
def keysO : List (Nat × Option Ob) → List Nat
  | [] => []
  | (l, _) :: r => l :: keysO r
theorem keysO_eq : ∀ (us : List (Nat × Option Ob)), keysO us = us.map (·.1)
  | [] => rfl
  | (l, o) :: r => by simp [keysO, keysO_eq r]
def ioFree (Γ : Ctx P N) : List Nat → Prop
  | [] => True
  | l :: r => Γ.io l = none ∧ ioFree Γ r
theorem ioFree_spec : ∀ {ls : List Nat}, ioFree Γ ls → ∀ l ∈ ls, Γ.io l = none
  | [], _, _, h => by cases h
  | x :: r, h, l, hl => by
    rcases List.mem_cons.1 hl with rfl | hl
    · exact h.1
    · exact ioFree_spec h.2 l hl
/-- A call whose results are rows (or plain): they become own rows. -/
theorem L_callT {f : FuncId} [hfc : FnC P f] {xs : List Operand} {us : Array TypeId} {ps : List PV} {ls : List Nat} {vs vs' : List PV} {os : List (Nat × Option Ob)} (L : Nat) (ha : ArgsV S O xs ps ls) (hm : Meets P f ps (.tup vs) true) (hok : okRows vs = true)
    (hv : rowsL vs L = vs') (ho : rowsO vs L = os) (hio : ioFree Γ (keysO os)) (hd : Nat.blt d N = true) :
    Local Γ ⟨some d, .call ⟨.value (.func f), xs.toArray, us⟩, ty, pos, af, g⟩ ⟨S, O⟩ ⟨[(d, ⟨.tup vs', false⟩)], os⟩ (orsA xs) ls (keysO os) := by
  intro F hs hl hnd a w ⟨ow, β, hsim⟩ Q
  subst hv; subst ho
  have hdN := (blt_iff _ _).1 hd
  have hargs := args_rel hsim ha hs hl
  unfold Oper.wp
  have hrun : (execOp a.eval ⟨some d, .call ⟨.value (.func f), xs.toArray, us⟩, ty, pos, af, g⟩).run P w = .ok (.enter f (xs.map a.eval).toArray) w := by
    simp [execOp, resolve, Act.eval, Deferred.ofValue, invoke, hfc.run]
  rw [hrun]
  show Calls _ _ _ _ _
  refine (hm w (xs.map a.eval).toArray (fun b => Im Γ ow w b ∨ ∃ l ∈ ls, ow b = .lab l) (by simpa using hargs)).mono fun e w' ⟨c, B, he, hb, h1, h2, h3⟩ => ?_
  subst he
  show Sim Γ _ _ _
  obtain ⟨n1, n2⟩ := h3 rfl
  simp only [RelV] at h1
  obtain ⟨cs, rfl, q2, q3⟩ := h1
  obtain ⟨blk, nest, hr, hrel⟩ := rows_rel vs cs 0 B L q3 hok n1
  rw [keysO_eq] at hnd hio
  obtain ⟨ow', β', hβ, h'⟩ := hsim.growLay hb hr n2 hnd (ioFree_spec hio)
  have h2 := h'.put (d := d) (v := .tup (rowsL vs L)) (c := .tuple cs) (O := []) hdN (by
    simp only [RelV]
    refine ⟨cs, rfl, ?_, hrel β' hβ⟩
    rw [q2, rowsL_len]) (by simp)
  exact ⟨_, _, h2.congr (fun k => rfl) (fun l => rfl)⟩
/-- A call whose result is a row: it becomes an own row. -/
theorem L_callW {f : FuncId} [hfc : FnC P f] {xs : List Operand} {us : Array TypeId} {ps : List PV} {ls : List Nat} {s n : Nat} {cells : List PV} (ha : ArgsV S O xs ps ls) (hm : Meets P f ps (.rw s n cells) true) (hio : Γ.io d = none) (hd : Nat.blt d N = true) :
    Local Γ ⟨some d, .call ⟨.value (.func f), xs.toArray, us⟩, ty, pos, af, g⟩ ⟨S, O⟩ ⟨[(d, ⟨.ref d s 0 n, false⟩)], [(d, some ⟨cells, true, false⟩)]⟩ (orsA xs) ls [d] := by
  intro F hs hl hnd a w ⟨ow, β, hsim⟩ Q
  have hdN := (blt_iff _ _).1 hd
  have hargs := args_rel hsim ha hs hl
  unfold Oper.wp
  have hrun : (execOp a.eval ⟨some d, .call ⟨.value (.func f), xs.toArray, us⟩, ty, pos, af, g⟩).run P w = .ok (.enter f (xs.map a.eval).toArray) w := by
    simp [execOp, resolve, Act.eval, Deferred.ofValue, invoke, hfc.run]
  rw [hrun]
  show Calls _ _ _ _ _
  refine (hm w (xs.map a.eval).toArray (fun b => Im Γ ow w b ∨ ∃ l ∈ ls, ow b = .lab l) (by simpa using hargs)).mono fun e w' ⟨c, B, he, hb, h1, h2, h3⟩ => ?_
  subst he
  show Sim Γ _ _ _
  obtain ⟨n1, n2⟩ := h3 rfl
  have q3 : RelL w'.heap false dead [.rw s n cells] #[c] 0 B := by
    simp only [RelL]
    exact ⟨c, B, [], ⟨by simp, by simp⟩, h1, rfl, by simp⟩
  obtain ⟨blk, nest, hr, hrel⟩ := rows_rel [.rw s n cells] #[c] 0 B d q3 rfl n1
  obtain ⟨ow', β', hβ, h'⟩ := hsim.growLay hb hr n2 (by simpa [rowsO] using hnd d (by simp)) (by simpa [rowsO] using hio)
  have h4 := hrel β' hβ
  simp only [rowsL, RelL] at h4
  obtain ⟨c', B1, B2, g1, g2, _, g4⟩ := h4
  simp at g1; subst g1
  obtain ⟨rfl, _⟩ := List.append_eq_nil_iff.1 g4.symm
  have h2 := h'.put (d := d) (v := .ref d s 0 n) (c := c) (O := []) hdN g2 (by simp)
  exact ⟨_, _, h2.congr (fun k => rfl) (fun l => rfl)⟩
/-- A component, be it a row. -/
theorem L_extR {x : Operand} {vs : List PV} {i : Nat} {p : PV} (hx : evq S x = some (.tup vs)) (hp : vs[i]? = some p) (hd : Nat.blt d N = true) :
    Local Γ ⟨some d, .extract x i, ty, pos, af, g⟩ ⟨S, O⟩ ⟨[(d, ⟨p, false⟩)], []⟩ (ors x) [] [] := by
  intro F hs _ _
  refine opT_of_run fun a w ⟨ow, β, hsim⟩ => ?_
  obtain ⟨B, h1, h2⟩ := ev_rel hsim hx hs
  simp only [RelV] at h1
  obtain ⟨cs, e1, e2, e3⟩ := h1
  obtain ⟨c, B1, g1, _, g3, g4⟩ := e3.get _ _ _ _ i p hp
  rw [Nat.zero_add] at g1
  exact ⟨c, w, by simp [execOp, e1, Instr.extract, g1], ow, β, hsim.put ((blt_iff _ _).1 hd) g3 (fun b hb => h2 b (g4 b hb))⟩
/-- An own row as a result, said to be one. -/
theorem Res1.refW {t l s n : Nat} {cells : List PV} {dp dp0 : Bool} (h : lkq S t = some ⟨.ref l s 0 n, dp0⟩) (ho : loq O l = some ⟨cells, dp, false⟩) (hio : Γ.io l = none) : Res1 Γ ⟨S, O⟩ (.tmp t) (.rw s n cells) (if dp then .obj l else .none) := by
  intro ow β a w hs
  obtain ⟨B, h1, _⟩ := hs.slots t
  rw [lkq_lk h] at h1
  simp only [RelV] at h1
  obtain ⟨Bo, o1, o2, hob⟩ := hs.objs l ⟨cells, dp, false⟩ (by rw [← loq_lo]; exact ho)
  rcases hob with ⟨p1, p2, p3⟩ | ⟨b, cs, u, p1, p2, p3, p4⟩
  · obtain ⟨rfl, _, e⟩ := h1.2.1 p1
    simp only at p2; subst p2
    exact ⟨_, [], rfl, by simp only [RelV]; exact .inl ⟨trivial, trivial, trivial, e⟩, by simp, by simp⟩
  · obtain ⟨cap, cs', u', q1, q0, q3, q4⟩ := h1.2.2 b p1
    rw [p3] at q0; cases q0
    simp only [Nat.zero_mul, Nat.zero_add] at q1 q3
    refine ⟨_, b :: Bo, rfl, by simp only [RelV]; exact .inr ⟨b, cap, cs, u, Bo, ⟨q1, q4, q3⟩, p3, by simpa using p4, rfl⟩, fun c hc => ?_, fun hne => ?_⟩
    · rcases List.mem_cons.1 hc with rfl | hc
      · exact ⟨hs.block_lt p1, .inr (.inl (hs.fresh l _ p1 hio))⟩
      · exact ⟨(o1 c hc).1, (o1 c hc).2.1⟩
    · cases dp with
      | false => simp at hne
      | true =>
        obtain ⟨n1, n2⟩ := o2 rfl
        refine ⟨List.nodup_cons.2 ⟨fun hb => (o1 b hb).2.2 l p2, n1⟩, fun c hc => ?_⟩
        rcases List.mem_cons.1 hc with rfl | hc
        · exact ⟨⟨_, _, p3⟩, .inl (hs.fresh l _ p1 hio), .inr ⟨l, p2, rfl⟩⟩
        · have e := n2 c hc
          refine ⟨e.2, ?_, .inl (by simpa [ResO.own] using e.1)⟩
          rcases (hs.own c (by rw [e.1]; simp)).2 with g | ⟨l', g, _⟩
          · exact g
          · rw [e.1] at g; cases g
theorem RetIs.rW {t l s n : Nat} {cells : List PV} {dp dp0 deep : Bool} (h : lkq S t = some ⟨.ref l s 0 n, dp0⟩) (ho : loq O l = some ⟨cells, dp, false⟩) (hd : dp = true) (hio : Γ.io l = none) : RetIs Γ #[.tmp t] ⟨S, O⟩ (.rw s n cells) deep := by
  subst hd; exact RetIs.one (Res1.refW h ho hio) (fun _ => by simp)
/-- nil as a row -/
theorem Res1.nilW {t s : Nat} {dp : Bool} (h : lkq S t = some ⟨.sc (.slice none 0 0), dp⟩) : Res1 Γ ⟨S, O⟩ (.tmp t) (.rw s 0 []) (.slot t) := by
  intro ow β a w hs
  obtain ⟨B, h1, _, _⟩ := hs.slots t
  rw [lkq_lk h] at h1
  simp only [RelV] at h1
  exact ⟨_, [], rfl, by simp only [RelV]; exact .inl ⟨trivial, trivial, trivial, h1.1⟩, by simp, by simp⟩
/-- A row may be read as a slice. -/
theorem RelV.soft {h : Array Obj} {β : Nat → Option (Option Nat)} {s n : Nat} {cells : List PV} {c : Value} {B : List Nat} (H : RelV h β (.rw s n cells) c B) : RelV h β (.sl n cells) c B := by
  simp only [RelV] at H ⊢
  rcases H with ⟨h1, h2, h3, h4⟩ | ⟨b, cap, cs, t, O', ⟨h1, h2, _⟩, h3, h4, h5⟩
  · exact .inl ⟨h1, h2, h3, none, 0, h4⟩
  · exact .inr ⟨b, 0, cap, cs, t, (0, 0), O', ⟨h1, h2⟩, h3, h4, h5⟩
theorem Meets.soft {f : FuncId} {args : List PV} {s n : Nat} {cells : List PV} {deep : Bool} (h : Meets P f args (.rw s n cells) deep) : Meets P f args (.sl n cells) deep :=
  fun w cargs ok ha => (h w cargs ok ha).mono fun _ _ ⟨c, B, h1, h2, h3, h4⟩ => ⟨c, B, h1, h2, h3.soft, h4⟩

/-- What a function that writes leaves behind. -/
theorem RetX.mk {rs : Array ResultVar} {r : PV} {deep : Bool} {objs : List XO} {E : Env} (h : RetIs Γ rs E r deep) (ho : ∀ o ∈ objs, ∃ dp, lo E.o o.l = some ⟨o.new, dp, false⟩) : RetX Γ rs E r deep objs := ⟨h, fun _ _ hs => ⟨E, hs, ho⟩⟩
theorem RetX.weak {E E0 : Env} {rs : Array ResultVar} {r : PV} {deep : Bool} {objs : List XO} (he : Ent Γ E E0) (h : RetX Γ rs E0 r deep objs) : RetX Γ rs E r deep objs := ⟨RetIs.weak he h.1, fun a w hs => h.2 a w (he a w hs)⟩
end
end Go.Ev
namespace Go.Ev
section
variable {P : Program} {N : Nat} {Γ : Ctx P N} {E : Env} {Q : Exit → Env → Prop}
def XRetX (Γ : Ctx P N) (rs : Array ResultVar) (r : PV) (deep : Bool) (objs : List XO) (e : Exit) (E : Env) : Prop := e = .ret ∧ RetX Γ rs E r deep objs
theorem XRetX.mk {rs : Array ResultVar} {r : PV} {deep : Bool} {objs : List XO} (h : RetX Γ rs E r deep objs) : XRetX Γ rs r deep objs .ret E := ⟨rfl, h⟩
theorem XRetX.out {rs : Array ResultVar} {r : PV} {deep : Bool} {objs : List XO} {e : Exit} (h : XRetX Γ rs r deep objs e E) : e = .ret ∧ RetX Γ rs E r deep objs := h
theorem z12 {rs : Array ResultVar} {r : PV} {deep : Bool} {objs : List XO} (h : RetX Γ rs E r deep objs) : endsX Γ rs r deep objs .ret E := h
theorem xo1 {p : XO → Prop} {x : XO} (h : p x) : ∀ o ∈ [x], p o := by intro o ho; rw [List.mem_singleton] at ho; subst ho; exact h
theorem nil_new {α : Type} {enc : α → List PV} {a r : List α} {l sz : Nat} (hl : r.length = a.length) (h : ∀ y, (enc y).length = sz) (h0 : 0 < sz) : (XO.mk l (a.flatMap enc) (r.flatMap enc)).old = [] → (XO.mk l (a.flatMap enc) (r.flatMap enc)).new = [] := by
  intro e
  have : a.flatMap enc = [] := e
  have := congrArg List.length this
  rw [flat_len h, List.length_nil] at this
  have ha : a.length = 0 := by
    rcases Nat.mul_eq_zero.1 this with h | h
    · exact h
    · omega
  have hr : r = [] := List.length_eq_zero_iff.1 (hl.trans ha)
  show r.flatMap enc = []
  rw [hr]; rfl
variable {S : List (Nat × Slot)} {O : List (Nat × Option Ob)} {d : Nat} {ty : TypeId} {pos : String} {af : Array Edge} {g : Option (Nat × Bool)}
end
end Go.Ev
