/- The engine, part MM: values handed over for good. -/
import Derived.Test.YtlfbihajihpchaaGreatEvLL
set_option linter.all false
namespace Go.Ev
open Go.RowKit (Below)
def dargEnv : List (PV × Bool) → Nat → List (Nat × Slot)
  | [], _ => []
  | (p, dp) :: r, k => (k, ⟨p, dp⟩) :: dargEnv r (k + 1)
theorem dargEnv_lk : ∀ (ps : List (PV × Bool)) (i k : Nat), lk (dargEnv ps i) k = if i ≤ k ∧ k - i < ps.length then ⟨(ps.getD (k - i) (.any, false)).1, (ps.getD (k - i) (.any, false)).2⟩ else ⟨.any, false⟩
  | [], i, k => by simp [dargEnv, lk]
  | (p, dp) :: r, i, k => by
    rw [dargEnv, lk_cons, dargEnv_lk r (i + 1) k]
    by_cases h : i = k
    · subst h; simp
    · rw [if_neg h]
      by_cases h2 : i + 1 ≤ k ∧ k - (i + 1) < r.length
      · rw [if_pos h2, if_pos (by simp; omega)]
        have : k - i = (k - (i + 1)) + 1 := by omega
        rw [this]; simp
      · rw [if_neg h2, if_neg (by simp; omega)]
theorem MeetsD.intro {P : Program} {N : Nat} {f : FuncId} {fn : Func} {c : Code} {args : List (PV × Bool)} {r : PV} {rs : Array ResultVar} (hf : P.funcs[f]? = some fn) (hb : fn.body = some c) (hN : fn.ntmps = N) (hrs : fn.results = rs) (hn : Nat.ble args.length N = true)
    (h : ∀ Γ : Ctx P N, (∀ l, Nat.blt l 100000 = true → Γ.io l = none) → CodeT Γ c ⟨dargEnv args 0, []⟩ (ends Γ rs r true)) : MeetsD P f args r := by
  classical
  intro w cargs ok H ha hH hdis
  obtain ⟨h1, h2⟩ := ha.get
  have hn := Nat.le_of_ble_eq_true hn
  let Γ : Ctx P N := { base := w.heap.size, ok := ok, io := fun _ => none, w0 := w, mine := fun _ => False, lent := fun b => ∃ k, b ∈ H k }
  have hsz : (cargs ++ Array.replicate (fn.ntmps - cargs.size) undef).size = N := by
    have : cargs.size = args.length := by rw [h1]; simp
    simp [this, hN]; omega
  refine calls_of_wp hf hb ?_
  let ow : Nat → Own := fun b => if hh : ∃ k, b ∈ H k then .slot hh.choose else .none
  have how : ∀ b k, b ∈ H k → ow b = .slot k := by
    intro b k e
    have hh : ∃ k, b ∈ H k := ⟨k, e⟩
    show (if hh : _ then _ else _) = _
    rw [dif_pos hh, hdis _ _ b hh.choose_spec e]
  have hnl : ∀ b l, ow b ≠ .lab l := by
    intro b l e
    have e : (if hh : ∃ k, b ∈ H k then Own.slot hh.choose else .none) = .lab l := e
    split at e <;> cases e
  have hsim : Sim Γ ⟨dargEnv args 0, []⟩ { tmps := cargs ++ Array.replicate (fn.ntmps - cargs.size) undef, defers := [] } w := by
    refine ⟨ow, fun _ => none, { size := hsz, defers := rfl, kept := ⟨rfl, rfl, rfl, Nat.le_refl _, fun _ _ _ _ => rfl, fun b _ _ cs t h => ⟨cs, h, rfl⟩⟩, slots := fun k => ?_, objs := fun l ob hl => (by simp [lo] at hl), gone := fun _ _ => rfl, own := fun b hb => ?_, ios := fun l b hl => (by cases hl), fresh := fun l b hl => (by cases hl) }⟩
    · rw [dargEnv_lk]
      by_cases hk : k < args.length
      · rw [if_pos ⟨Nat.zero_le _, by simpa using hk⟩]
        have e1 : args[k]? = some (args.getD k (.any, false)) := by
          rw [List.getElem?_eq_getElem hk, List.getD_eq_getElem?_getD, List.getElem?_eq_getElem hk]; rfl
        obtain ⟨B, g1, g2, g3⟩ := h2 k _ _ e1
        rw [Nat.zero_add] at g3
        have e : (cargs ++ Array.replicate (fn.ntmps - cargs.size) undef).getD k undef = cargs.toList.getD k undef := by
          have hlt : k < cargs.size := by rw [h1] at hk; simpa using hk
          simp [Array.getD_eq_getD_getElem?, Array.getElem?_append, hlt, List.getD_eq_getElem?_getD]
        simp only [Nat.sub_zero]
        refine ⟨B, ?_, fun b hb => ⟨RelV.below _ _ _ g1 b hb, ?_, fun l => hnl b l⟩, fun hd => ?_⟩
        · rw [e]
          exact RelV.keep _ _ _ (fun l _ => by intro ob h; cases h) (fun _ _ => rfl) g1
        · cases hdp : (args.getD k (.any, false)).2 with
          | false => exact .inl (g2 hdp b hb)
          | true => exact .inr (.inr ⟨k, by rw [← g3 hdp]; exact hb⟩)
        · have g4 := g3 hd
          subst g4
          exact ⟨(hH k).1, fun b hb => ⟨how b k hb, ((hH k).2 b hb).2⟩⟩
      · rw [if_neg (by simpa using hk)]
        exact ⟨[], by simp [RelV], by simp, by simp⟩
    · have hh : ∃ k, b ∈ H k := by
        rcases Classical.em (∃ k, b ∈ H k) with hh | hh
        · exact hh
        · exfalso; apply hb; show (if hh : ∃ k, b ∈ H k then Own.slot hh.choose else .none) = _; rw [dif_neg hh]
      obtain ⟨k, hk⟩ := hh
      exact ⟨free_lt ((hH k).2 b hk).2, .inl (.inr ⟨k, hk⟩)⟩
  refine wp_mono (h Γ (fun _ _ => rfl) _ _ hsim) fun e a' w' ⟨E', hs', hq⟩ => ?_
  have fin : RetIs Γ rs E' r true → a'.defers = [] ∧ ∃ v, (results fn a'.tmps).run P w' = .ok v w' ∧ ∃ c B, Ending.returned v = .returned c ∧ Below w.heap.size w w' ∧ RelV w'.heap dead r c B ∧ B.Nodup ∧ ∀ b ∈ B, Free w' b ∧ (w.heap.size ≤ b ∨ ∃ k, b ∈ H k) := by
    intro hr
    obtain ⟨c, B, g1, g2, g3, g4⟩ := hr fn hrs a' w' hs'
    obtain ⟨ow2, β2, hs'⟩ := hs'
    obtain ⟨g5, g6⟩ := g4 rfl
    refine ⟨hs'.defers, c, g1, c, B, rfl, ⟨hs'.kept.os, hs'.kept.tape, hs'.kept.output, hs'.kept.size, fun k hk => hs'.kept.old k hk (fun l => by simp [Γ]) (fun h => h)⟩, g2, g5, fun b hb => ⟨(g6 b hb).1, ?_⟩⟩
    rcases (g6 b hb).2 with (g | g) | g
    · exact .inl g
    · exact g.elim
    · exact .inr g
  cases e with
  | normal => exact fin hq
  | ret => exact fin hq
  | exit id => exact hq.elim
  | goto l => exact hq.elim
  | panic ch => exact hq.elim
  | outgrown => exact hq.elim
section
variable {P : Program} {N : Nat} {Γ : Ctx P N} {S : List (Nat × Slot)} {O : List (Nat × Option Ob)} {ow : Nat → Own} {β : Nat → Option (Option Nat)} {F : Env} {a : Act} {w : World}
variable {d : Nat} {ty : TypeId} {pos : String} {af : Array Edge} {g : Option (Nat × Bool)}
theorem callD_core {f : FuncId} {xs : List Operand} {args : List (PV × Bool)} {k q : Nat} {p r : PV} {dp : Bool} (hsim : SimG Γ ow β F a w) (hk : lk F.s k = ⟨p, true⟩) (hm : MeetsD P f args r) (hr : r.labs = []) (hd : d < N) {Bk : List Nat} (o1 : RelV w.heap β p (a.tmps.getD k undef) Bk) (o3 : Bk.Nodup ∧ ∀ b ∈ Bk, ow b = .slot k ∧ Free w b)
    (ha : DArgs w.heap (fun _ => False) (fun j => if j = q then Bk else []) args (xs.map a.eval) 0) {Q : Exit → Act → World → Prop} :
    Calls P f (xs.map a.eval).toArray w fun e w' => match e with | .returned c => Sim Γ (F.app ⟨(d, ⟨r, true⟩) :: [k].map (fun j => (j, ⟨.any, false⟩)), []⟩) (a.put (some d) c) w' | _ => False := by
  obtain ⟨n1, n2⟩ := o3
  refine (hm w (xs.map a.eval).toArray (fun _ => False) (fun j => if j = q then Bk else []) (by simpa using ha) (fun j => ?_) (fun j j' b hb hb' => ?_)).mono fun e w' ⟨c, B, he, hbel, h1, h2, h3⟩ => ?_
  · by_cases hj : j = q
    · rw [if_pos hj]; exact ⟨n1, fun b hb => ⟨fun h => h, (n2 b hb).2⟩⟩
    · rw [if_neg hj]; exact ⟨by simp, by simp⟩
  · by_cases hj : j = q
    · by_cases hj' : j' = q
      · rw [hj, hj']
      · simp only [if_neg hj'] at hb'; cases hb'
    · simp only [if_neg hj] at hb; cases hb
  · subst he
    have hg := hsim.grow hbel
    have hB : ∀ b ∈ B, Im Γ ow w' b := by
      intro b hb
      have hlt := RelV.below _ _ _ h1 b hb
      rcases (h3 b hb).2 with e | ⟨j, e⟩
      · exact ⟨hlt, .inr (.inl (.inl (Nat.le_trans hsim.kept.size e))), fun l e' => by have := (hsim.own b (by rw [e']; simp)).1; omega⟩
      · by_cases hj : j = q
        · rw [if_pos hj] at e
          obtain ⟨e1, e2⟩ := n2 b e
          refine ⟨hlt, ?_, fun l e' => by rw [e1] at e'; cases e'⟩
          rcases (hsim.own b (by rw [e1]; simp)).2 with g | ⟨m, g, _⟩
          · exact .inr g
          · rw [e1] at g; cases g
        · rw [if_neg hj] at e; cases e
    have hD : ∀ b ∈ B, Free w' b ∧ Γ.nw b ∧ (ow b = .none ∨ ∃ k' ∈ [k], ow b = .slot k') := by
      intro b hb
      refine ⟨(h3 b hb).1, ?_⟩
      rcases (h3 b hb).2 with e | ⟨j, e⟩
      · refine ⟨.inl (.inl (Nat.le_trans hsim.kept.size e)), .inl ?_⟩
        cases hx : ow b with
        | none => rfl
        | _ => have := (hsim.own b (by rw [hx]; simp)).1; omega
      · by_cases hj : j = q
        · rw [if_pos hj] at e
          obtain ⟨e1, _⟩ := n2 b e
          refine ⟨?_, .inr ⟨k, by simp, e1⟩⟩
          rcases (hsim.own b (by rw [e1]; simp)).2 with g | ⟨m, g, _⟩
          · exact g
          · rw [e1] at g; cases g
        · rw [if_neg hj] at e; cases e
    obtain ⟨ow', h'⟩ := hg.gather (d := d) hd [k] (v := r) (c := c) (B := B) (dp := true) (RelV.nolab hr h1) hB (fun _ => ⟨h2, hD⟩)
    exact ⟨ow', β, h'⟩
/-- A call to which a value is handed over for good. -/
theorem L_callD1 {f : FuncId} [hfc : FnC P f] {k : Nat} {tus : Array TypeId} {p r : PV} (hk : lkq S k = some ⟨p, true⟩) (hl : p.labs = []) (hm : MeetsD P f [(p, true)] r) (hr : r.labs = []) (hd : Nat.blt d N = true) :
    Local Γ ⟨some d, .call ⟨.value (.func f), #[.tmp k], tus⟩, ty, pos, af, g⟩ ⟨S, O⟩ ⟨[(d, ⟨r, true⟩), (k, ⟨.any, false⟩)], []⟩ [k] [] [] := by
  intro F hs _ _ a w ⟨ow, β, hsim⟩ Q
  have hkF : lk F.s k = ⟨p, true⟩ := by rw [hs k (by simp), lkq_lk hk]
  obtain ⟨Bk, o1, _, o3⟩ := hsim.slots k
  rw [hkF] at o1 o3
  unfold Oper.wp
  have hrun : (execOp a.eval ⟨some d, .call ⟨.value (.func f), #[.tmp k], tus⟩, ty, pos, af, g⟩).run P w = .ok (.enter f #[a.eval (.tmp k)]) w := by
    simp [execOp, resolve, Act.eval, Deferred.ofValue, invoke, hfc.run]
  rw [hrun]
  show Calls _ _ _ _ _
  refine (callD_core (xs := [.tmp k]) (q := 0) hsim hkF hm hr ((blt_iff _ _).1 hd) (dp := true) o1 (o3 rfl) ⟨?_, trivial⟩ (Q := Q)).mono fun e w' h => ?_
  · simp only [if_true]; exact RelV.nolab hl o1
  · cases e with
    | returned c => exact h
    | _ => exact h.elim
theorem L_callD2 {f : FuncId} [hfc : FnC P f] {k : Nat} {y : Operand} {tus : Array TypeId} {p0 p r : PV} (hy : evq S y = some p0) (hn0 : noRead p0 = true) (hl0 : p0.labs = []) (hk : lkq S k = some ⟨p, true⟩) (hl : p.labs = []) (hm : MeetsD P f [(p0, false), (p, true)] r) (hr : r.labs = []) (hd : Nat.blt d N = true) :
    Local Γ ⟨some d, .call ⟨.value (.func f), #[y, .tmp k], tus⟩, ty, pos, af, g⟩ ⟨S, O⟩ ⟨[(d, ⟨r, true⟩), (k, ⟨.any, false⟩)], []⟩ (ors y ++ [k]) [] [] := by
  intro F hs _ _ a w ⟨ow, β, hsim⟩ Q
  have hkF : lk F.s k = ⟨p, true⟩ := by rw [hs k (by simp), lkq_lk hk]
  obtain ⟨Bk, o1, _, o3⟩ := hsim.slots k
  rw [hkF] at o1 o3
  obtain ⟨By, y1, y2⟩ := ev_rel hsim hy (fun j hj => hs j (by simp [hj]))
  have := noRead_nil _ hn0 y1
  subst this
  unfold Oper.wp
  have hrun : (execOp a.eval ⟨some d, .call ⟨.value (.func f), #[y, .tmp k], tus⟩, ty, pos, af, g⟩).run P w = .ok (.enter f #[a.eval y, a.eval (.tmp k)]) w := by
    simp [execOp, resolve, Act.eval, Deferred.ofValue, invoke, hfc.run]
  rw [hrun]
  show Calls _ _ _ _ _
  refine (callD_core (xs := [y, .tmp k]) (q := 1) hsim hkF hm hr ((blt_iff _ _).1 hd) (dp := true) o1 (o3 rfl) ⟨⟨[], RelV.nolab hl0 y1, by simp⟩, ?_, trivial⟩ (Q := Q)).mono fun e w' h => ?_
  · simp only [Nat.zero_add, if_true]; exact RelV.nolab hl o1
  · cases e with
    | returned c => exact h
    | _ => exact h.elim
/-- The front part of a value of one's own. -/
theorem L_slW {α : Type} {s : Nat} {hi : Option Operand} {t e n by_ : Nat} {agg : Bool} {l r : List α} {enc : α → List PV} {j : Int} {len : Nat} [ht : SlT P t e] [hi' : TI P e n agg by_] (hx : lkq S s = some ⟨.rw n len (l.flatMap enc), true⟩) (hlen : len = l.length)
    (hhi : boundOf S len hi = some j) (h : sub l 0 j = some r) (hsz : ∀ y, (enc y).length = n) (hnl : ∀ y, noLabs (enc y) = true) (hd : Nat.blt d N = true) :
    Local Γ ⟨some d, .slice t (.tmp s) none hi none, ty, pos, af, g⟩ ⟨S, O⟩ ⟨[(d, ⟨.rw n r.length (r.flatMap enc), true⟩), (s, ⟨.any, false⟩)], []⟩ ([s] ++ orsO hi) [] [] := by
  intro F hs _ _
  refine opT_of_run fun a w hsim0 => ?_
  obtain ⟨hb, hr⟩ := subS h
  subst hlen
  have hbd := fun isS cap hc => run_bounds (lo := none) (i := 0) hsim0 isS l.length cap hc rfl hhi (fun k hk => by simp [orsO] at hk) (fun k hk => hs k (by simp [hk])) hb
  obtain ⟨ow, β, hsim⟩ := hsim0
  have hkF : lk F.s s = ⟨.rw n l.length (l.flatMap enc), true⟩ := by rw [hs s (by simp), lkq_lk hx]
  obtain ⟨B, h1, h2, h3⟩ := hsim.slots s
  rw [hkF] at h1 h3
  obtain ⟨nd, h3⟩ := h3 rfl
  simp only [RelV] at h1
  have hr' : r = l.take j.toNat := by rw [hr]; simp
  have run : ∀ (ad : Option Addr) (cap : Nat), a.eval (.tmp s) = .slice ad l.length cap → l.length ≤ cap → (Instr.sliceAt t (a.eval (.tmp s)) none (hi.map a.eval) none).run P w = .ok (.slice (if cap = 0 then ad else ad.map (·.add 0)) j.toNat cap) w := by
    intro ad cap e1 hc
    rw [e1]
    have := hbd true cap hc
    simp only [Option.map_none] at this
    simp [Instr.sliceAt, Instr.slice, run_underlying ht.ok, this, run_sizeOf (e := e) (n := n)]
  have hval : a.eval (.tmp s) = a.tmps.getD s undef := rfl
  rcases h1 with ⟨e0, _, _, e1⟩ | ⟨b, cap, cs, u, B', ⟨e1, hc, hcap⟩, e2, e3, rfl⟩
  · rw [← hval] at e1
    have e1' : a.eval (.tmp s) = .slice none l.length 0 := by rw [e1, e0]
    have hj : j.toNat = 0 := by omega
    have hr0 : r = [] := by rw [hr', hj]; simp
    subst hr0
    obtain ⟨ow', h'⟩ := hsim.gather (d := d) ((blt_iff _ _).1 hd) [s] (v := .rw n 0 []) (c := .slice none 0 0) (B := []) (dp := true) (by simp only [RelV]; exact .inl ⟨trivial, trivial, trivial, trivial⟩) (by simp) (fun _ => ⟨by simp, by simp⟩)
    refine ⟨.slice none 0 0, w, ?_, ow', β, h'⟩
    simp only [execOp, Option.map_none]
    rw [Sem.run_bind, run none 0 e1' (by omega)]
    simp [hj, Result.andThen]
  · rw [← hval] at e1
    have hsplit : l.flatMap enc = r.flatMap enc ++ (l.drop j.toNat).flatMap enc := by rw [hr', ← List.flatMap_append, List.take_append_drop]
    rw [hsplit] at e3
    obtain ⟨O1, O2, q1, q2, rfl⟩ := (RelL.append _ _ _ _ _).1 e3
    have nd1 := List.nodup_cons.1 nd
    have nd2 := List.nodup_append.1 nd1.2
    have hrl : r.length = j.toNat := by rw [hr', List.length_take]; omega
    obtain ⟨ow', h'⟩ := hsim.gather (d := d) ((blt_iff _ _).1 hd) [s] (v := .rw n r.length (r.flatMap enc)) (c := .slice (some ⟨b, 0, none⟩) r.length cap) (B := b :: O1) (dp := true) (by
        simp only [RelV]; exact .inr ⟨b, cap, cs, u, O1, ⟨rfl, by omega, hcap⟩, e2, q1, rfl⟩)
      (fun c hc => h2 c (by rcases List.mem_cons.1 hc with rfl | hc; simp; simp [hc]))
      (fun _ => ⟨List.nodup_cons.2 ⟨fun hb' => nd1.1 (by simp [hb']), nd2.1⟩, fun c hc => by
        have hm : c ∈ b :: (O1 ++ O2) := by rcases List.mem_cons.1 hc with rfl | hc; simp; simp [hc]
        obtain ⟨g1, g2⟩ := h3 c hm
        refine ⟨g2, ?_, .inr ⟨s, by simp, g1⟩⟩
        rcases (hsim.own c (by rw [g1]; simp)).2 with g | ⟨m, g, _⟩
        · exact g
        · rw [g1] at g; cases g⟩)
    refine ⟨.slice (some ⟨b, 0, none⟩) r.length cap, w, ?_, ow', β, h'⟩
    simp only [execOp, Option.map_none]
    rw [Sem.run_bind, run (some ⟨b, 0, none⟩) cap e1 hc, hrl]
    simp [Result.andThen, Addr.add]
theorem RelL.atQ {h : Array Obj} {q : Bool} {β : Nat → Option (Option Nat)} : ∀ {vs : List PV} {cs : Array Value} {i : Nat} {O : List Nat} {k : Nat} {p : PV}, RelL h q β vs cs i O → vs[k]? = some p → ∃ v O1 Oc O2, cs[i + k]? = some v ∧ RelV h β p v Oc ∧ O = O1 ++ (Oc ++ O2) ∧ RelL h q β (vs.set k .any) cs i (O1 ++ O2)
  | [], _, _, _, _, _, _, hk => by simp at hk
  | p0 :: vs, cs, i, O, k, p, H, hk => by
    simp only [RelL] at H
    obtain ⟨c, B1, B2, h1, h2, h3, rfl⟩ := H
    cases k with
    | zero =>
      simp at hk; subst hk
      refine ⟨c, [], B1, B2, by simpa using h1.1, h2, by simp, ?_⟩
      simp only [List.set_cons_zero, RelL, RelV, List.nil_append]
      exact ⟨c, [], B2, h1, rfl, h3, rfl⟩
    | succ k =>
      obtain ⟨v, O1, Oc, O2, g1, g2, g3, g4⟩ := RelL.atQ h3 (by simpa using hk)
      refine ⟨v, B1 ++ O1, Oc, O2, by rw [← g1]; congr 1; omega, g2, by rw [g3]; simp, ?_⟩
      simp only [List.set_cons_succ, RelL]
      exact ⟨c, B1, O1 ++ O2, h1, h2, g4, by simp⟩
/-- A component of several results is taken out, with all that is its own. -/
theorem L_extT {s i : Nat} {vs : List PV} {p : PV} (hx : lkq S s = some ⟨.tup vs, true⟩) (hp : vs[i]? = some p) (hl : p.labs = []) (hne : Nat.beq s d = false) (hd : Nat.blt d N = true) :
    Local Γ ⟨some d, .extract (.tmp s) i, ty, pos, af, g⟩ ⟨S, O⟩ ⟨[(d, ⟨p, true⟩), (s, ⟨.tup (vs.set i .any), true⟩)], []⟩ [s] [] [] := by
  classical
  intro F hs _ _
  refine opT_of_run fun a w ⟨ow, β, h⟩ => ?_
  have hne : s ≠ d := by rintro rfl; simp at hne
  have hdN := (blt_iff _ _).1 hd
  obtain ⟨O0, hv, hO, hdp⟩ := h.slots s
  rw [hs s (by simp), lkq_lk hx] at hv hdp
  obtain ⟨nd, hdp⟩ := hdp rfl
  simp only [RelV] at hv
  obtain ⟨cs, e1, e2, e3⟩ := hv
  obtain ⟨v, O1, Oc, O2, g1, g2, rfl, g4⟩ := e3.atQ hp
  rw [Nat.zero_add] at g1
  have nd1 := List.nodup_append.1 nd
  have nd2 := List.nodup_append.1 nd1.2.1
  let ow' : Nat → Own := fun b => if b ∈ Oc then .slot d else ow b
  have hIm : ∀ b, Im Γ ow w b → Im Γ ow' w b := by
    intro b ⟨h1, h2, h3⟩
    refine ⟨h1, h2, fun l => ?_⟩
    show (if _ then _ else _) ≠ _
    split
    · simp
    · exact h3 l
  have hoc : ∀ b ∈ Oc, ow b = .slot s := fun b hb => (hdp b (by simp [hb])).1
  have hkp : ∀ b x, ow b = x → x ≠ .slot s → ow' b = x := by
    intro b x e hx
    show (if _ then _ else _) = _
    rw [if_neg (fun hb => hx (by rw [← e]; exact hoc b hb))]; exact e
  have hval : a.eval (.tmp s) = .tuple cs := e1
  refine ⟨v, w, by simp [execOp, hval, Instr.extract, g1], ow', β, { size := by simp [Act.put, h.size], defers := by simp [Act.put, h.defers], kept := h.kept, slots := fun k => ?_, objs := fun l ob hl => ?_, gone := by simpa [Env.app] using h.gone, own := fun b hb => ?_, ios := by simpa [Env.app] using h.ios, fresh := h.fresh }⟩
  · simp only [Env.app, List.cons_append, List.nil_append, lk_cons, Act.put]
    by_cases hk : d = k
    · subst hk
      rw [if_pos rfl, getD_put_same (by rw [h.size]; exact hdN)]
      exact ⟨Oc, g2, fun b hb => hIm b (hO b (by simp [hb])), fun _ => ⟨nd2.1, fun b hb => ⟨by show (if _ then _ else _) = _; rw [if_pos hb], (hdp b (by simp [hb])).2⟩⟩⟩
    · rw [if_neg hk, getD_put_ne hk]
      by_cases hks : s = k
      · subst hks
        rw [if_pos rfl]
        refine ⟨O1 ++ O2, ?_, fun b hb => hIm b (hO b (by rcases List.mem_append.1 hb with hb | hb <;> simp [hb])), fun _ => ⟨?_, fun b hb => ⟨?_, (hdp b (by rcases List.mem_append.1 hb with hb | hb <;> simp [hb])).2⟩⟩⟩
        · rw [e1]
          simp only [RelV]
          exact ⟨cs, rfl, by simpa using e2, g4⟩
        · exact List.nodup_append.2 ⟨nd1.1, nd2.2.1, fun x hx y hy => nd1.2.2 x hx y (by simp [hy])⟩
        · show (if _ then _ else _) = _
          rw [if_neg]
          · exact (hdp b (by rcases List.mem_append.1 hb with hb | hb <;> simp [hb])).1
          · intro hc
            rcases List.mem_append.1 hb with hb | hb
            · exact nd1.2.2 b hb b (by simp [hc]) rfl
            · exact nd2.2.2 b hc b hb rfl
      · rw [if_neg hks]
        obtain ⟨O', q1, q2, q3⟩ := h.slots k
        exact ⟨O', q1, fun b hb => hIm b (q2 b hb), fun hx => ⟨(q3 hx).1, fun b hb => ⟨hkp b _ ((q3 hx).2 b hb).1 (by intro e; injection e with e; exact hks e.symm), ((q3 hx).2 b hb).2⟩⟩⟩
  · simp only [Env.app, List.nil_append] at hl
    obtain ⟨O', q1, q2, q3⟩ := h.objs l ob hl
    refine ⟨O', fun b hb => hIm b (q1 b hb), fun hx => ⟨(q2 hx).1, fun b hb => ⟨hkp b _ ((q2 hx).2 b hb).1 (by simp), ((q2 hx).2 b hb).2⟩⟩, ?_⟩
    rcases q3 with q3 | ⟨b, cs, t, r1, r2, r3, r4⟩
    · exact .inl q3
    · exact .inr ⟨b, cs, t, r1, hkp b _ r2 (by simp), r3, r4⟩
  · by_cases hb' : b ∈ Oc
    · have e := hoc b hb'
      obtain ⟨q1, q2⟩ := h.own b (by rw [e]; simp)
      refine ⟨q1, .inl ?_⟩
      rcases q2 with q | ⟨m, q, _⟩
      · exact q
      · rw [e] at q; cases q
    · have e : ow' b = ow b := by show (if _ then _ else _) = _; rw [if_neg hb']
      rw [e] at hb
      obtain ⟨q1, q2⟩ := h.own b hb
      exact ⟨q1, by rw [e]; exact q2⟩
end
end Go.Ev
