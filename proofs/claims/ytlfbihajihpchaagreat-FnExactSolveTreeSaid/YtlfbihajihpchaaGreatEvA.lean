/- The engine, part A: abstract by-value values, and how they stand to the machine's values. -/
import Derived.Orders
import Derived.Below
set_option linter.all false
namespace Go.Ev
open Go.RowKit (Below)

/-- Abstract values. 'sc': a value of one cell that is no reference (or nil); 'sl n cells': a slice of n elements whose cells, flat, are these; 'ref l s off n': a slice into the call's own row l (elements of s cells); 'ptr l k': the address of cell k of the own block l; 'iptr cells': an address from which on these cells can be read; 'any': unknown. -/
inductive PV where
  | sc (v : Value)
  | sl (n : Nat) (cells : List PV)
  | ref (l s off n : Nat)
  | ptr (l k : Nat)
  | iptr (cells : List PV)
  | rw (s n : Nat) (cells : List PV)
  | agg (cells : List PV)
  | tup (vs : List PV)
  | any
  | was (v : Value) (p : PV)
  deriving Inhabited

def dead : Nat → Option (Option Nat) := fun _ => none

mutual
/-- The value c is, over the heap h, what the abstract value says; O: the blocks that were read, in order. β: where the own blocks lie. -/
def RelV (h : Array Obj) : (Nat → Option (Option Nat)) → PV → Value → List Nat → Prop
  | _, .sc v, c, O => c = v ∧ O = []
  | _, .sl n cells, c, O => (n = 0 ∧ cells = [] ∧ O = [] ∧ ∃ a cap, c = .slice a 0 cap) ∨
      ∃ b off cap cs t f O', (c = .slice (some ⟨b, off, none⟩) n cap ∧ n ≤ cap) ∧ h[b]? = some (.cells cs t f) ∧ RelL h true dead cells cs off O' ∧ O = b :: O'
  | β, .ref l s off n, c, O => O = [] ∧ (β l = some none → n = 0 ∧ off = 0 ∧ c = .slice none 0 0) ∧
      ∀ b, β l = some (some b) → ∃ cap cs t, c = .slice (some ⟨b, off * s, none⟩) n cap ∧ h[b]? = some (.cells cs t (0, 0)) ∧ (off + cap) * s ≤ cs.size ∧ n ≤ cap
  | β, .ptr l k, c, O => O = [] ∧ ∀ b, β l = some (some b) → c = .pointer (some ⟨b, k, none⟩)
  | _, .iptr cells, c, O => ∃ b off cs t f O', c = .pointer (some ⟨b, off, none⟩) ∧ h[b]? = some (.cells cs t f) ∧ RelL h true dead cells cs off O' ∧ O = b :: O'
  | _, .rw s n cells, c, O => (n = 0 ∧ cells = [] ∧ O = [] ∧ c = .slice none 0 0) ∨
      ∃ b cap cs t O', (c = .slice (some ⟨b, 0, none⟩) n cap ∧ n ≤ cap ∧ cap * s ≤ cs.size) ∧ h[b]? = some (.cells cs t (0, 0)) ∧ RelL h true dead cells cs 0 O' ∧ O = b :: O'
  | β, .agg cells, c, O => ∃ cs : Array Value, c = .agg cs ∧ cs.size = cells.length ∧ RelL h true β cells cs 0 O
  | β, .tup vs, c, O => ∃ cs : Array Value, c = .tuple cs ∧ cs.size = vs.length ∧ RelL h false β vs cs 0 O
  | _, .any, _, O => O = []
  | β, .was v p, c, O => c = v ∧ RelV h β p c O
/-- From cell i on. -/
def RelL (h : Array Obj) (q : Bool) : (Nat → Option (Option Nat)) → List PV → Array Value → Nat → List Nat → Prop
  | _, [], _, _, O => O = []
  | β, p :: ps, cs, i, O => ∃ c O1 O2, (cs[i]? = some c ∧ (q = true → c.oneCell' = true)) ∧ RelV h β p c O1 ∧ RelL h q β ps cs (i + 1) O2 ∧ O = O1 ++ O2
end

/-- Of own blocks the shape alone is asked: which block it is, how many cells it has, that none is frozen. -/
def ShapeOk (h h' : Array Obj) (b : Nat) : Prop := ∀ cs t, h[b]? = some (.cells cs t (0, 0)) → ∃ cs', h'[b]? = some (.cells cs' t (0, 0)) ∧ cs'.size = cs.size

mutual
/-- The own blocks that a value speaks of. -/
def PV.labs : PV → List Nat
  | .ref l _ _ _ => [l]
  | .ptr l _ => [l]
  | .agg cells => labsL cells
  | .tup vs => labsL vs
  | .was _ p => p.labs
  | _ => []
def labsL : List PV → List Nat
  | [] => []
  | p :: ps => p.labs ++ labsL ps
end
theorem mem_labsL {l : Nat} : ∀ {ps : List PV}, l ∈ labsL ps ↔ ∃ p ∈ ps, l ∈ p.labs
  | [] => by simp [labsL]
  | p :: ps => by simp [labsL, mem_labsL (ps := ps)]

def KeepB (h h' : Array Obj) (β β' : Nat → Option (Option Nat)) (l : Nat) : Prop := ∀ ob, β' l = some ob → β l = some ob ∧ ∀ b, ob = some b → ShapeOk h h' b
theorem KeepB.dead (h h' : Array Obj) (l : Nat) : KeepB h h' Ev.dead Ev.dead l := by intro ob e; cases e

mutual
theorem RelV.keep {h h' : Array Obj} {β β' : Nat → Option (Option Nat)} :
    ∀ (p : PV) (c : Value) (O : List Nat), (∀ l ∈ p.labs, KeepB h h' β β' l) → (∀ b ∈ O, h'[b]? = h[b]?) → RelV h β p c O → RelV h' β' p c O
  | .sc v, c, O, _, _, H => H
  | .sl n cells, c, O, _, hO, H => by
    simp only [RelV] at H ⊢
    rcases H with H | ⟨b, off, cap, cs, t, f, O', h1, h2, h3, rfl⟩
    · exact .inl H
    · refine .inr ⟨b, off, cap, cs, t, f, O', h1, ?_, ?_, rfl⟩
      · rw [hO b (by simp)]; exact h2
      · exact RelL.keep cells cs off O' (fun _ _ l _ => KeepB.dead _ _ l) (fun b hb => hO b (by simp [hb])) h3
  | .ref l s off n, c, O, hβ, _, H => by
    simp only [RelV] at H ⊢
    have hβ := hβ l (by simp [PV.labs])
    refine ⟨H.1, fun hb => H.2.1 (hβ _ hb).1, fun b hb => ?_⟩
    obtain ⟨hb1, hb2⟩ := hβ _ hb
    obtain ⟨cap, cs, t, h1, h2, h3, h4⟩ := H.2.2 b hb1
    obtain ⟨cs', h5, h6⟩ := hb2 b rfl cs t h2
    exact ⟨cap, cs', t, h1, h5, by rw [h6]; exact h3, h4⟩
  | .ptr l k, c, O, hβ, _, H => by
    simp only [RelV] at H ⊢
    exact ⟨H.1, fun b hb => H.2 b (hβ l (by simp [PV.labs]) _ hb).1⟩
  | .iptr cells, c, O, _, hO, H => by
    simp only [RelV] at H ⊢
    obtain ⟨b, off, cs, t, f, O', h1, h2, h3, rfl⟩ := H
    refine ⟨b, off, cs, t, f, O', h1, ?_, ?_, rfl⟩
    · rw [hO b (by simp)]; exact h2
    · exact RelL.keep cells cs off O' (fun _ _ l _ => KeepB.dead _ _ l) (fun b hb => hO b (by simp [hb])) h3
  | .rw s n cells, c, O, _, hO, H => by
    simp only [RelV] at H ⊢
    rcases H with H | ⟨b, cap, cs, t, O', h1, h2, h3, rfl⟩
    · exact .inl H
    · refine .inr ⟨b, cap, cs, t, O', h1, ?_, ?_, rfl⟩
      · rw [hO b (by simp)]; exact h2
      · exact RelL.keep cells cs 0 O' (fun _ _ l _ => KeepB.dead _ _ l) (fun b hb => hO b (by simp [hb])) h3
  | .agg cells, c, O, hβ, hO, H => by
    simp only [RelV] at H ⊢
    obtain ⟨cs, h1, h2, h3⟩ := H
    exact ⟨cs, h1, h2, RelL.keep cells cs 0 O (fun p hp l hl => hβ l (by simp only [PV.labs]; exact mem_labsL.2 ⟨p, hp, hl⟩)) hO h3⟩
  | .tup vs, c, O, hβ, hO, H => by
    simp only [RelV] at H ⊢
    obtain ⟨cs, h1, h2, h3⟩ := H
    exact ⟨cs, h1, h2, RelL.keep vs cs 0 O (fun p hp l hl => hβ l (by simp only [PV.labs]; exact mem_labsL.2 ⟨p, hp, hl⟩)) hO h3⟩
  | .any, c, O, _, _, H => by simp only [RelV] at H ⊢; exact H
  | .was v p, c, O, hβ, hO, H => by
    simp only [RelV] at H ⊢
    exact ⟨H.1, RelV.keep p c O (fun l hl => hβ l (by simpa only [PV.labs] using hl)) hO H.2⟩
theorem RelL.keep {h h' : Array Obj} {q : Bool} {β β' : Nat → Option (Option Nat)} :
    ∀ (ps : List PV) (cs : Array Value) (i : Nat) (O : List Nat), (∀ p ∈ ps, ∀ l ∈ p.labs, KeepB h h' β β' l) → (∀ b ∈ O, h'[b]? = h[b]?) → RelL h q β ps cs i O → RelL h' q β' ps cs i O
  | [], cs, i, O, _, _, H => by simp only [RelL] at H ⊢; exact H
  | p :: ps, cs, i, O, hβ, hO, H => by
    simp only [RelL] at H ⊢
    obtain ⟨c, O1, O2, h1, h2, h3, rfl⟩ := H
    exact ⟨c, O1, O2, h1, RelV.keep p c O1 (hβ p (by simp)) (fun b hb => hO b (by simp [hb])) h2, RelL.keep ps cs (i + 1) O2 (fun q hq => hβ q (by simp [hq])) (fun b hb => hO b (by simp [hb])) h3, rfl⟩
end

mutual
/-- Every block that was read is there. -/
theorem RelV.below {h : Array Obj} {β : Nat → Option (Option Nat)} : ∀ (p : PV) (c : Value) (O : List Nat), RelV h β p c O → ∀ b ∈ O, b < h.size
  | .sc v, c, O, H, b, hb => by simp only [RelV] at H; rw [H.2] at hb; cases hb
  | .sl n cells, c, O, H, b, hb => by
    simp only [RelV] at H
    rcases H with ⟨_, _, h1, _⟩ | ⟨b', off, cap, cs, t, f, O', _, h2, h3, rfl⟩
    · rw [h1] at hb; cases hb
    · rcases List.mem_cons.1 hb with rfl | hb
      · rcases Nat.lt_or_ge b h.size with hlt | hge
        · exact hlt
        · simp [Array.getElem?_eq_none hge] at h2
      · exact RelL.below cells cs off O' h3 b hb
  | .ref l s off n, c, O, H, b, hb => by simp only [RelV] at H; rw [H.1] at hb; cases hb
  | .ptr l k, c, O, H, b, hb => by simp only [RelV] at H; rw [H.1] at hb; cases hb
  | .iptr cells, c, O, H, b, hb => by
    simp only [RelV] at H
    obtain ⟨b', off, cs, t, f, O', _, h2, h3, rfl⟩ := H
    rcases List.mem_cons.1 hb with rfl | hb
    · rcases Nat.lt_or_ge b h.size with hlt | hge
      · exact hlt
      · simp [Array.getElem?_eq_none hge] at h2
    · exact RelL.below cells cs off O' h3 b hb
  | .rw s n cells, c, O, H, b, hb => by
    simp only [RelV] at H
    rcases H with ⟨_, _, h1, _⟩ | ⟨b', cap, cs, t, O', _, h2, h3, rfl⟩
    · rw [h1] at hb; cases hb
    · rcases List.mem_cons.1 hb with rfl | hb
      · rcases Nat.lt_or_ge b h.size with hlt | hge
        · exact hlt
        · simp [Array.getElem?_eq_none hge] at h2
      · exact RelL.below cells cs 0 O' h3 b hb
  | .agg cells, c, O, H, b, hb => by
    simp only [RelV] at H
    obtain ⟨cs, _, _, h3⟩ := H
    exact RelL.below cells cs 0 O h3 b hb
  | .tup vs, c, O, H, b, hb => by
    simp only [RelV] at H
    obtain ⟨cs, _, _, h3⟩ := H
    exact RelL.below vs cs 0 O h3 b hb
  | .any, c, O, H, b, hb => by simp only [RelV] at H; rw [H] at hb; cases hb
  | .was v p, c, O, H, b, hb => by simp only [RelV] at H; exact RelV.below p c O H.2 b hb
theorem RelL.below {h : Array Obj} {q : Bool} {β : Nat → Option (Option Nat)} : ∀ (ps : List PV) (cs : Array Value) (i : Nat) (O : List Nat), RelL h q β ps cs i O → ∀ b ∈ O, b < h.size
  | [], cs, i, O, H, b, hb => by simp only [RelL] at H; rw [H] at hb; cases hb
  | p :: ps, cs, i, O, H, b, hb => by
    simp only [RelL] at H
    obtain ⟨c, O1, O2, h1, h2, h3, rfl⟩ := H
    rcases List.mem_append.1 hb with hb | hb
    · exact RelV.below p c O1 h2 b hb
    · exact RelL.below ps cs (i + 1) O2 h3 b hb
end

theorem RelL.length {h : Array Obj} {q : Bool} {β : Nat → Option (Option Nat)} : ∀ (ps : List PV) (cs : Array Value) (i : Nat) (O : List Nat), i ≤ cs.size → RelL h q β ps cs i O → i + ps.length ≤ cs.size
  | [], _, _, _, hi, _ => by simpa using hi
  | p :: ps, cs, i, O, hi, H => by
    simp only [RelL] at H
    obtain ⟨c, O1, O2, h1, h2, h3, rfl⟩ := H
    have : i < cs.size := by
      rcases Nat.lt_or_ge i cs.size with h | h
      · exact h
      · simp [Array.getElem?_eq_none h] at h1
    have := RelL.length ps cs (i + 1) O2 this h3
    simp only [List.length_cons]; omega

/-- The cells, written out. -/
theorem RelL.get {h : Array Obj} {q : Bool} {β : Nat → Option (Option Nat)} : ∀ (ps : List PV) (cs : Array Value) (i : Nat) (O : List Nat), RelL h q β ps cs i O → ∀ (k : Nat) p, ps[k]? = some p → ∃ c O1, cs[i + k]? = some c ∧ (q = true → c.oneCell' = true) ∧ RelV h β p c O1 ∧ (∀ b ∈ O1, b ∈ O)
  | [], _, _, _, _, k, p, hk => by simp at hk
  | _ :: ps, cs, i, O, H, k, p, hk => by
    simp only [RelL] at H
    obtain ⟨c, O1, O2, h1, h2, h3, rfl⟩ := H
    cases k with
    | zero => simp at hk; subst hk; exact ⟨c, O1, h1.1, h1.2, h2, fun b hb => by simp [hb]⟩
    | succ k =>
      simp at hk
      obtain ⟨c', O', g1, g2, g3, g4⟩ := RelL.get ps cs (i + 1) O2 h3 k p hk
      exact ⟨c', O', by rw [← g1]; congr 1; omega, g2, g3, fun b hb => by simp [g4 b hb]⟩

theorem RelL.append {h : Array Obj} {q : Bool} {β : Nat → Option (Option Nat)} : ∀ (ps qs : List PV) (cs : Array Value) (i : Nat) (O : List Nat), RelL h q β (ps ++ qs) cs i O ↔ ∃ O1 O2, RelL h q β ps cs i O1 ∧ RelL h q β qs cs (i + ps.length) O2 ∧ O = O1 ++ O2
  | [], qs, cs, i, O => by
    simp only [List.nil_append, List.length_nil, Nat.add_zero, RelL]
    constructor
    · intro H; exact ⟨[], O, rfl, H, rfl⟩
    · rintro ⟨O1, O2, rfl, H, rfl⟩; exact H
  | p :: ps, qs, cs, i, O => by
    simp only [List.cons_append, RelL, List.length_cons]
    constructor
    · rintro ⟨c, O1, O2, h1, h2, h3, rfl⟩
      obtain ⟨O3, O4, g1, g2, rfl⟩ := (RelL.append ps qs cs (i + 1) O2).1 h3
      exact ⟨O1 ++ O3, O4, ⟨c, O1, O3, h1, h2, g1, rfl⟩, by rw [show i + (ps.length + 1) = i + 1 + ps.length by omega]; exact g2, by simp⟩
    · rintro ⟨Oa, O4, ⟨c, O1, O3, h1, h2, g1, rfl⟩, g2, rfl⟩
      refine ⟨c, O1, O3 ++ O4, h1, h2, (RelL.append ps qs cs (i + 1) (O3 ++ O4)).2 ⟨O3, O4, g1, ?_, rfl⟩, by simp⟩
      rw [show i + 1 + ps.length = i + (ps.length + 1) by omega]; exact g2

/-- The reading hangs on the cells alone. -/
theorem RelL.shift {h : Array Obj} {q : Bool} {β : Nat → Option (Option Nat)} : ∀ (ps : List PV) (cs cs' : Array Value) (i j : Nat) (O : List Nat), (∀ k, k < ps.length → cs'[j + k]? = cs[i + k]?) → RelL h q β ps cs i O → RelL h q β ps cs' j O
  | [], _, _, _, _, _, _, H => by simp only [RelL] at H ⊢; exact H
  | p :: ps, cs, cs', i, j, O, hk, H => by
    simp only [RelL] at H ⊢
    obtain ⟨c, O1, O2, h1, h2, h3, rfl⟩ := H
    refine ⟨c, O1, O2, ⟨by have := hk 0 (by simp); simp at this; rw [this]; exact h1.1, h1.2⟩, h2, RelL.shift ps cs cs' (i + 1) (j + 1) O2 (fun k hl => ?_) h3, rfl⟩
    have := hk (k + 1) (by simp; omega)
    rw [show j + 1 + k = j + (k + 1) by omega, show i + 1 + k = i + (k + 1) by omega]; exact this

/-- The part from k on. -/
theorem RelL.drop {h : Array Obj} {q : Bool} {β : Nat → Option (Option Nat)} {ps : List PV} {cs : Array Value} {i : Nat} {O : List Nat} (H : RelL h q β ps cs i O) (k : Nat) (hk : k ≤ ps.length) : ∃ O2, RelL h q β (ps.drop k) cs (i + k) O2 ∧ ∃ O1, O = O1 ++ O2 := by
  have e : ps = ps.take k ++ ps.drop k := (List.take_append_drop k ps).symm
  rw [e] at H
  obtain ⟨O1, O2, _, h2, rfl⟩ := (RelL.append _ _ _ _ _).1 H
  rw [List.length_take, Nat.min_eq_left hk] at h2
  exact ⟨O2, h2, O1, rfl⟩
theorem RelL.take {h : Array Obj} {q : Bool} {β : Nat → Option (Option Nat)} {ps : List PV} {cs : Array Value} {i : Nat} {O : List Nat} (H : RelL h q β ps cs i O) (k : Nat) : ∃ O1, RelL h q β (ps.take k) cs i O1 ∧ ∃ O2, O = O1 ++ O2 := by
  have e : ps = ps.take k ++ ps.drop k := (List.take_append_drop k ps).symm
  rw [e] at H
  obtain ⟨O1, O2, h1, _, rfl⟩ := (RelL.append _ _ _ _ _).1 H
  exact ⟨O1, h1, O2, rfl⟩

/-- What reads as p reads as p', too (rows of one's own read as slices). -/
def Soft (p p' : PV) : Prop := ∀ (h : Array Obj) (β : Nat → Option (Option Nat)) (c : Value) (B : List Nat), RelV h β p c B → RelV h β p' c B
def SoftL (ps ps' : List PV) : Prop := ps.length = ps'.length ∧ ∀ (h : Array Obj) (q : Bool) (β : Nat → Option (Option Nat)) (cs : Array Value) (i : Nat) (B : List Nat), RelL h q β ps cs i B → RelL h q β ps' cs i B
theorem Soft.refl (p : PV) : Soft p p := fun _ _ _ _ h => h
theorem SoftL.refl (ps : List PV) : SoftL ps ps := ⟨rfl, fun _ _ _ _ _ _ h => h⟩
theorem SoftL.nil : SoftL [] [] := SoftL.refl []
theorem SoftL.cons {p p' : PV} {ps ps' : List PV} (h1 : Soft p p') (h2 : SoftL ps ps') : SoftL (p :: ps) (p' :: ps') := by
  refine ⟨by simp [h2.1], fun h q β cs i B H => ?_⟩
  simp only [RelL] at H ⊢
  obtain ⟨c, B1, B2, g1, g2, g3, e⟩ := H
  exact ⟨c, B1, B2, g1, h1 _ _ _ _ g2, h2.2 _ _ _ _ _ _ g3, e⟩
theorem SoftL.app {a a' b b' : List PV} (h1 : SoftL a a') (h2 : SoftL b b') : SoftL (a ++ b) (a' ++ b') := by
  refine ⟨by simp [h1.1, h2.1], fun h q β cs i B H => ?_⟩
  obtain ⟨B1, B2, g1, g2, e⟩ := (RelL.append _ _ _ _ _).1 H
  exact (RelL.append _ _ _ _ _).2 ⟨B1, B2, h1.2 _ _ _ _ _ _ g1, by rw [← h1.1]; exact h2.2 _ _ _ _ _ _ g2, e⟩
theorem SoftL.flat {α : Type} {e e' : α → List PV} (h : ∀ y, SoftL (e y) (e' y)) : ∀ l : List α, SoftL (l.flatMap e) (l.flatMap e')
  | [] => SoftL.nil
  | y :: r => by rw [List.flatMap_cons, List.flatMap_cons]; exact (h y).app (SoftL.flat h r)
theorem SoftL.empty {ps : List PV} (h : SoftL [] ps) : ps = [] := List.length_eq_zero_iff.1 h.1.symm
theorem Soft.rw {s n : Nat} {cs cs' : List PV} (h : SoftL cs cs') : Soft (.rw s n cs) (.sl n cs') := by
  intro hp β c B H
  simp only [RelV] at H ⊢
  rcases H with ⟨h1, h2, h3, h4⟩ | ⟨b, cap, cs, t, O', ⟨h1, h2, _⟩, h3, h4, h5⟩
  · subst h2; exact .inl ⟨h1, h.empty, h3, none, 0, h4⟩
  · exact .inr ⟨b, 0, cap, cs, t, (0, 0), O', ⟨h1, h2⟩, h3, h.2 _ _ _ _ _ _ h4, h5⟩
theorem Soft.sl {n : Nat} {cs cs' : List PV} (h : SoftL cs cs') : Soft (.sl n cs) (.sl n cs') := by
  intro hp β c B H
  simp only [RelV] at H ⊢
  rcases H with ⟨h1, h2, h3, h4⟩ | ⟨b, off, cap, cs, t, f, O', h1, h3, h4, h5⟩
  · subst h2; exact .inl ⟨h1, h.empty, h3, h4⟩
  · exact .inr ⟨b, off, cap, cs, t, f, O', h1, h3, h.2 _ _ _ _ _ _ h4, h5⟩
theorem Soft.agg {cs cs' : List PV} (h : SoftL cs cs') : Soft (.agg cs) (.agg cs') := by
  intro hp β c B H
  simp only [RelV] at H ⊢
  obtain ⟨a, h1, h2, h3⟩ := H
  exact ⟨a, h1, by rw [h2, h.1], h.2 _ _ _ _ _ _ h3⟩

/-- Weakening of values: what holds of the one holds of the other. -/
inductive CV : PV → PV → Prop
  | refl (p : PV) : CV p p
  | any (p : PV) : CV p .any
  | nil : CV (.sc (.slice none 0 0)) (.sl 0 [])
end Go.Ev
