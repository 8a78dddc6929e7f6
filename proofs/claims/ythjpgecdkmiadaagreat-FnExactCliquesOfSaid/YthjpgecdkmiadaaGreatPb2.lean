/- Parts PQ6, PQ8, PH, PQ9, PR1, P20, PR2, PR3, PV, PR4. -/
import Derived.Test.YthjpgecdkmiadaaGreatPb1
import Derived.Test.YthjpgecdkmiadaaGreatPa1
import Derived.Test.YthjpgecdkmiadaaGreatLd
set_option linter.all false
/- Whole numbers and fractions; both programs. -/
namespace Go.Ev
set_option linter.all false
def xA (x:BigInt):Prop:=uQ x.fMag∧(x.fNeg=true→x.fMag≠[])
instance (x:BigInt):Decidable (xA x):=by unfold xA;infer_instance
theorem aLT (x:BigInt) (h:x.fMag.length≤4294967296):sG x=some (decide (xA x)):=by
  unfold sG
  rw [aIn _ h]
  simp only [Option.bind_some]
  by_cases c:uQ x.fMag
  · rw [decide_eq_true c]
    simp only [if_true]
    cases hn:x.fNeg with
    | true =>
      simp only [if_true]
      by_cases e:x.fMag=[]
      · rw [decide_eq_false (fun g:xA x=>g.2 hn e),e];rfl
      · have:x.fMag.length≠0:=fun g=>e (List.length_eq_zero_iff.1 g)
        have hb:xA x:=⟨c,fun _=>e⟩
        rw [decide_eq_true hb,decide_eq_false (by omega)];rfl
    | false =>
      have hb:xA x:=⟨c,fun g=>by rw [hn] at g;cases g⟩
      rw [decide_eq_true hb];rfl
  · rw [decide_eq_false c,decide_eq_false (fun g:xA x=>c g.1)];rfl
theorem aLS (x:BigInt) (h:x.fMag.length≤4294967296):rK x=some (decide (xA x)):=by
  unfold rK
  rw [aFL _ h]
  simp only [Option.bind_some]
  by_cases c:uQ x.fMag
  · rw [decide_eq_true c]
    simp only [if_true]
    cases hn:x.fNeg with
    | true =>
      simp only [if_true]
      by_cases e:x.fMag=[]
      · rw [decide_eq_false (fun g:xA x=>g.2 hn e),e];rfl
      · have:x.fMag.length≠0:=fun g=>e (List.length_eq_zero_iff.1 g)
        have hb:xA x:=⟨c,fun _=>e⟩
        rw [decide_eq_true hb,decide_eq_true (by omega)]
    | false =>
      have hb:xA x:=⟨c,fun g=>by rw [hn] at g;cases g⟩
      rw [decide_eq_true hb];rfl
  · rw [decide_eq_false c,decide_eq_false (fun g:xA x=>c g.1)];rfl
def aLE (x:BigInt):Int:=if x.fNeg=true then -(val x.fMag:Int) else (val x.fMag:Int)
theorem aFE (x:BigInt):(aLE x).natAbs=val x.fMag:=by unfold aLE;split <;> omega
theorem aM8 {x:BigInt} (h:xA x):x=big (aLE x):=by
  obtain ⟨neg,mag⟩:=x
  unfold big
  rw [aFE]
  have e:=nJ h.1
  simp only [] at e ⊢
  rw [← e]
  congr 1
  unfold aLE
  cases neg with
  | true =>
    have:val mag≠0:=fun z=>h.2 rfl (by simp only [] at e ⊢;rw [e,z,bH])
    simp only [if_true]
    rw [decide_eq_true (by omega)]
  | false=>simp
theorem aGP (n m:Int):((!(decide (n < 0) == decide (m < 0)))&&decide (n.natAbs*m.natAbs≠0))=decide (n*m < 0):=by
  rw [← Int.natAbs_mul]
  rcases Int.lt_trichotomy n 0 with h1 | h1 | h1
  · rcases Int.lt_trichotomy m 0 with h2 | h2 | h2
    · have:=Int.mul_pos_of_neg_of_neg h1 h2
      rw [decide_eq_true h1,decide_eq_true h2,decide_eq_false (show ¬n*m < 0 by omega)];rfl
    · subst h2;simp
    · have:=Int.mul_neg_of_neg_of_pos h1 h2
      rw [decide_eq_true h1,decide_eq_false (show ¬m < 0 by omega),decide_eq_true (show (n*m).natAbs≠0 by omega),decide_eq_true this];rfl
  · subst h1;simp
  · rcases Int.lt_trichotomy m 0 with h2 | h2 | h2
    · have:=Int.mul_neg_of_pos_of_neg h1 h2
      rw [decide_eq_false (show ¬n < 0 by omega),decide_eq_true h2,decide_eq_true (show (n*m).natAbs≠0 by omega),decide_eq_true this];rfl
    · subst h2;simp
    · have:=Int.mul_pos h1 h2
      rw [decide_eq_false (show ¬n < 0 by omega),decide_eq_false (show ¬m < 0 by omega),decide_eq_false (show ¬n*m < 0 by omega)];rfl
theorem aAr (n:Int):(big n).fMag=aA n.natAbs:=rfl
theorem aAq (n:Int):(big n).fNeg=decide (n < 0):=rfl
def bl (n:Int):Nat:=(aA n.natAbs).length
theorem aAp (n m:Int):bl (n*m)≤bl n+bl m:=by unfold bl;rw [Int.natAbs_mul];exact eF _ _
theorem aJf (n m:Int):bl (n+m)≤max (bl n) (bl m)+1:=by
  unfold bl
  exact Nat.le_trans (fE (Int.natAbs_add_le n m) (Nat.le_refl _)) (aFx _ _)
theorem yB (n m:Int) (hn:bl n≤60) (hm:bl m≤60) (h:bl (n*m)≤60):iE (big n) (big m)=some (big (n*m)):=by
  unfold iE
  unfold bl at *
  rw [Int.natAbs_mul] at h
  simp only [big]
  rw [(oD n.natAbs m.natAbs (by omega) (by omega)).2]
  simp only [Option.bind_some]
  rw [vH _ _ h]
  simp only [Option.bind_some]
  rw [aGP,Int.natAbs_mul]
theorem aGo (n:Int) (d:Nat) (h:(aA (n.natAbs*d)).length≤60):cQ (decide (n < 0)) (aA (n.natAbs*d))=some (big (n*d)):=by
  rw [qT _ _ h]
  have:=aGP n (d:Int)
  rw [decide_eq_false (show ¬((d:Int) < 0) by omega)] at this
  simp only [Int.natAbs_natCast] at this
  unfold big
  rw [← this]
  simp only [Int.natAbs_mul,Int.natAbs_natCast]
  congr 2
  cases decide (n < 0) <;> rfl
theorem aJY (n m:Int) (h:(decide (n < 0) == decide (m < 0))=true):(n+m).natAbs=n.natAbs+m.natAbs∧(decide (n < 0)&&decide ((n+m).natAbs≠0))=decide (n+m < 0):=by
  by_cases c1:n < 0
  · by_cases c2:m < 0
    · refine ⟨by omega,?_⟩
      rw [decide_eq_true c1,decide_eq_true (by omega),decide_eq_true (by omega)];rfl
    · simp [c1,c2] at h
  · by_cases c2:m < 0
    · simp [c1,c2] at h
    · refine ⟨by omega,?_⟩
      rw [decide_eq_false c1,decide_eq_false (show ¬(n+m < 0) by omega)];rfl
theorem aEm (n m:Int) (h:¬(decide (n < 0) == decide (m < 0))=true) (hle:m.natAbs≤n.natAbs):(n+m).natAbs=n.natAbs - m.natAbs∧(decide (n < 0)&&decide ((n+m).natAbs≠0))=decide (n+m < 0):=by
  by_cases c1:n < 0
  · by_cases c2:m < 0
    · simp [c1,c2] at h
    · refine ⟨by omega,?_⟩
      rw [decide_eq_true c1,Bool.true_and]
      exact decide_eq_decide.2 (by omega)
  · by_cases c2:m < 0
    · refine ⟨by omega,?_⟩
      rw [decide_eq_false c1,decide_eq_false (show ¬(n+m < 0) by omega)];rfl
    · simp [c1,c2] at h
theorem aLF (n m:Int) (hn:bl n≤60) (hm:bl m≤60) (h:bl (n+m)≤60):wM (big n) (big m)=some (big (n+m)):=by
  unfold wM
  unfold bl at *
  by_cases c:(decide (n < 0) == decide (m < 0))=true
  · obtain ⟨e1,e2⟩:=aJY n m c
    rw [if_pos (show ((big n).fNeg == (big m).fNeg)=true from c)]
    simp only [aAr,aAq]
    rw [aLh _ _ (by omega) (by omega)]
    simp only [Option.bind_some]
    rw [← e1,vH _ _ h,e2];rfl
  · rw [if_neg (show ¬((big n).fNeg == (big m).fNeg)=true from c)]
    simp only [aAr,aAq]
    rw [aEY _ _ (by omega) (by omega)]
    simp only [Option.bind_some]
    by_cases c2:m.natAbs≤n.natAbs
    · obtain ⟨e1,e2⟩:=aEm n m c c2
      have c3:0≤sJ n.natAbs m.natAbs:=by unfold sJ;rw [if_neg (by omega)];split <;> omega
      rw [if_pos c3,(zB _ _ (by omega) c2).2]
      simp only [Option.bind_some]
      rw [← e1,vH _ _ h,e2];rfl
    · obtain ⟨e1,e2⟩:=aEm m n (by rw [Bool.beq_comm];exact c) (by omega)
      have c3:¬0≤sJ n.natAbs m.natAbs:=by unfold sJ;rw [if_pos (by omega)];omega
      rw [if_neg c3,(zB _ _ (by omega) (by omega)).2]
      simp only [Option.bind_some]
      rw [← e1,Int.add_comm m n] at *
      rw [vH _ _ h,e2];rfl
theorem aHS (n m:Int) (hn:bl n≤60) (hm:bl m≤60) (h:bl (n+m)≤60):sY (big n) (big m)=some (big (n+m)):=by
  unfold sY
  unfold bl at *
  by_cases c:(decide (n < 0) == decide (m < 0))=true
  · obtain ⟨e1,e2⟩:=aJY n m c
    rw [if_pos (show ((big n).fNeg == (big m).fNeg)=true from c)]
    simp only [aAr,aAq]
    rw [aHU _ _ (by omega) (by omega)]
    simp only [Option.bind_some]
    rw [← e1,qT _ _ h,e2];rfl
  · rw [if_neg (show ¬((big n).fNeg == (big m).fNeg)=true from c)]
    simp only [aAr,aAq]
    rw [aA8 _ _ (by omega) (by omega)]
    simp only [Option.bind_some]
    by_cases c2:m.natAbs≤n.natAbs
    · obtain ⟨e1,e2⟩:=aEm n m c c2
      have c3:0≤sJ n.natAbs m.natAbs:=by unfold sJ;rw [if_neg (by omega)];split <;> omega
      rw [if_pos c3,(zB _ _ (by omega) c2).1]
      simp only [Option.bind_some]
      rw [← e1,qT _ _ h,e2];rfl
    · obtain ⟨e1,e2⟩:=aEm m n (by rw [Bool.beq_comm];exact c) (by omega)
      have c3:¬0≤sJ n.natAbs m.natAbs:=by unfold sJ;rw [if_pos (by omega)];omega
      rw [if_neg c3,(zB _ _ (by omega) (by omega)).1]
      simp only [Option.bind_some]
      rw [← e1,Int.add_comm m n] at *
      rw [qT _ _ h,e2];rfl
def oV:Rat:=Rat.mk (BigInt.mk false []) []
def mkR (s:Bool) (x y:Nat):Rat :=
  if y=0 then oV else if 24 < (aA (x / Nat.gcd x y)).length∨24 < (aA (y / Nat.gcd x y)).length then oV
  else ⟨⟨s&&decide (x / Nat.gcd x y≠0),aA (x / Nat.gcd x y)⟩,aA (y / Nat.gcd x y)⟩
theorem aLV:aR oV≤48:=by decide
theorem aJR {x y:Nat} (hx:(aA x).length≤700) (hy:(aA y).length≤700):(aA (Nat.gcd x y)).length≤700:=by
  by_cases c:x=0
  · subst c;rw [Nat.gcd_zero_left];exact hy
  · exact Nat.le_trans (fE (Nat.gcd_le_left y (Nat.pos_of_ne_zero c)) (Nat.le_refl _)) hx
theorem aC0 (s t:Bool) (x y:Nat) (hx:(aA x).length≤60) (hy:(aA y).length≤60):nL ⟨s,aA x⟩ ⟨t,aA y⟩=some (mkR (!(s == t)) x y):=by
  unfold nL mkR
  simp only []
  by_cases c:y=0
  · rw [if_pos c,if_pos (by rw [c,bH];rfl)];rfl
  · have hl:(aA y).length≠0:=fun e=>dZ c (List.length_eq_zero_iff.1 e)
    have hg:=aJR (x:=x) (y:=y) (by omega) (by omega)
    have hg0:0 < Nat.gcd x y:=Nat.gcd_pos_of_pos_right x (Nat.pos_of_ne_zero c)
    rw [if_neg c,if_neg (by omega),aHJ x y (by omega) (by omega)]
    simp only [Option.bind_some]
    rw [aEX x _ hg0 (by omega) hg,aEX y _ hg0 (by omega) hg]
    simp only [Option.bind_some]
    have l1:=aMo x (Nat.gcd x y)
    by_cases c1:24 < (aA (x / Nat.gcd x y)).length
    · rw [if_pos (by omega),if_pos (.inl c1)];rfl
    · rw [if_neg (by omega)]
      by_cases c2:24 < (aA (y / Nat.gcd x y)).length
      · rw [if_pos (.inr c2),decide_eq_true (by omega)];rfl
      · rw [if_neg (by omega),decide_eq_false (by omega)]
        simp only [Option.bind_some,Bool.false_eq_true,if_false]
        rw [vH _ _ (by omega)];rfl
theorem uX:([1]:List Int)=aA 1:=by rw [uK (by rw [dO];omega) (by omega)];rfl
theorem aGD (x:Nat):hG (aA x)=some (decide (x=1)):=by
  unfold hG
  by_cases c:x=1
  · subst c;rw [← uX];simp [idx]
  · rw [decide_eq_false c]
    by_cases h:(aA x).length=1
    · have hx:x < BB:=by have:=oU x;rw [h,Nat.pow_one] at this;exact this
      have h0:x≠0:=by rintro rfl;rw [bH] at h;simp at h
      rw [if_pos (by omega),show (0:Int)=((0:Nat):Int) from rfl,aH (by omega)]
      simp only [uK hx h0,List.getElem_cons_zero,Option.bind_some]
      rw [decide_eq_false (by omega)]
    · rw [if_neg (by omega)]
theorem aCM (s:Bool) (x y:Nat) (hx:(aA x).length≤60) (hy:(aA y).length≤60):mY s (aA x) (aA y)=some (mkR s x y):=by
  unfold mY mkR
  rw [zV (eB x) (by omega),zV (eB y) (by omega),dG,dG]
  simp only [Option.bind_some]
  by_cases c:y=0
  · rw [if_pos c,if_pos (by rw [c,bH];rfl)];rfl
  · have hl:(aA y).length≠0:=fun e=>dZ c (List.length_eq_zero_iff.1 e)
    have hg:=aJR (x:=x) (y:=y) (by omega) (by omega)
    have hg0:0 < Nat.gcd x y:=Nat.gcd_pos_of_pos_right x (Nat.pos_of_ne_zero c)
    rw [if_neg c,if_neg (by omega),aGD]
    simp only [Option.bind_some]
    have key:((if decide (y=1)=true then some (aA x,aA y) else (pM (aA x) (aA y)).bind fun r4=>(hG r4).bind fun r5=>(if r5=true then some (aA x,aA y) else (kP (aA x) r4).bind fun r6=>(kP (aA y) r4).bind fun r7=>some (r6.1,r7.1))):Option ((List Int) × (List Int)))=some (aA (x / Nat.gcd x y),aA (y / Nat.gcd x y)):=by
      by_cases c1:y=1
      · rw [decide_eq_true c1,if_pos rfl,c1,Nat.gcd_one_right,Nat.div_one,Nat.div_one]
      · rw [decide_eq_false c1,if_neg (by simp),aHT x y (by omega) (by omega)]
        simp only [Option.bind_some]
        rw [aGD]
        simp only [Option.bind_some]
        by_cases c2:Nat.gcd x y=1
        · rw [decide_eq_true c2,if_pos rfl,c2,Nat.div_one,Nat.div_one]
        · rw [decide_eq_false c2,if_neg (by simp),aFh x _ hg0 (by omega) hg,aFh y _ hg0 (by omega) hg];rfl
    rw [key]
    simp only [Option.bind_some]
    by_cases c1:24 < (aA (x / Nat.gcd x y)).length
    · rw [if_pos (by omega),if_pos (.inl c1)];rfl
    · rw [if_neg (by omega)]
      by_cases c2:24 < (aA (y / Nat.gcd x y)).length
      · rw [if_pos (.inr c2),decide_eq_true (by omega)];rfl
      · rw [if_neg (by omega),decide_eq_false (by omega)]
        simp only [Option.bind_some,Bool.false_eq_true,if_false]
        rw [qT _ _ (by omega)]
        simp only [Option.bind_some]
        rw [aQ (by simp;omega)]
        simp only [Option.bind_some,aM,List.nil_append]
def bT (r:Rat):Prop:=xA r.fNum∧uQ r.fDen∧r.fDen≠[]∧r.fDen.length≤24∧r.fNum.fMag.length≤24∧Nat.gcd (val r.fNum.fMag) (val r.fDen)=1
instance (r:Rat):Decidable (bT r):=by unfold bT;infer_instance
theorem aKW (r:Rat) (h:aR r≤4294967296):r.fNum.fMag.length≤4294967296∧r.fDen.length≤4294967296:=by
  unfold aR dI eK at h
  simp only [nS] at h;omega
theorem aBj (r:Rat) (h:aR r≤4294967296):nO r=some (decide (bT r)):=by
  obtain ⟨h1,h2⟩:=aKW r h
  unfold nO
  rw [aLT _ h1]
  simp only [Option.bind_some]
  by_cases c1:xA r.fNum
  · rw [decide_eq_true c1,if_pos rfl,aIn _ h2]
    simp only [Option.bind_some]
    by_cases c2:uQ r.fDen
    · rw [decide_eq_true c2,if_pos rfl]
      simp only [Option.bind_some]
      by_cases c3:r.fDen=[]
      · rw [decide_eq_false (fun g:bT r=>g.2.2.1 c3),decide_eq_true (by rw [c3];rfl)];rfl
      · have hn:r.fDen.length≠0:=fun e=>c3 (List.length_eq_zero_iff.1 e)
        rw [decide_eq_false (show ¬((r.fDen.length:Int)=0) by omega)]
        simp only [Bool.false_eq_true,if_false]
        by_cases c4:24 < r.fNum.fMag.length
        · rw [if_pos (by omega),decide_eq_false (fun g:bT r=>by have:=g.2.2.2.2.1;omega)];rfl
        · rw [if_neg (by omega)]
          by_cases c5:24 < r.fDen.length
          · rw [decide_eq_true (show (24:Int) < r.fDen.length by omega),decide_eq_false (fun g:bT r=>by have:=g.2.2.2.1;omega)];rfl
          · rw [decide_eq_false (show ¬(24:Int) < r.fDen.length by omega)]
            simp only [Option.bind_some,Bool.false_eq_true,if_false]
            have e1:=nJ c1.1
            have e2:=nJ c2
            have g:=aHJ (val r.fNum.fMag) (val r.fDen) (by rw [← e1];omega) (by rw [← e2];omega)
            rw [← e1,← e2] at g
            rw [g]
            have o:=aGD (Nat.gcd (val r.fNum.fMag) (val r.fDen))
            unfold hG at o
            simp only [Option.bind_some]
            rw [o]
            congr 1
            exact decide_eq_decide.2 ⟨fun q=>⟨c1,c2,c3,by omega,by omega,q⟩,fun q=>q.2.2.2.2.2⟩
    · rw [decide_eq_false c2,decide_eq_false (fun g:bT r=>c2 g.2.1)];rfl
  · rw [decide_eq_false c1,decide_eq_false (fun g:bT r=>c1 g.1)];rfl
theorem fF (r:Rat) (h:aR r≤4294967296):cH r=some (decide (bT r)):=by
  obtain ⟨h1,h2⟩:=aKW r h
  unfold cH
  rw [aLS _ h1]
  simp only [Option.bind_some]
  by_cases c1:xA r.fNum
  · rw [decide_eq_true c1,if_pos rfl,aFL _ h2]
    simp only [Option.bind_some]
    by_cases c2:uQ r.fDen
    · rw [decide_eq_true c2,if_pos rfl]
      by_cases c3:r.fDen=[]
      · rw [decide_eq_false (fun g:bT r=>g.2.2.1 c3),if_pos (by rw [c3];rfl)];rfl
      · have hn:r.fDen.length≠0:=fun e=>c3 (List.length_eq_zero_iff.1 e)
        rw [if_neg (by omega)]
        by_cases c5:24 < r.fDen.length
        · rw [if_pos (by omega),decide_eq_false (fun g:bT r=>by have:=g.2.2.2.1;omega)];rfl
        · rw [if_neg (by omega)]
          by_cases c4:24 < r.fNum.fMag.length
          · rw [decide_eq_true (show (24:Int) < r.fNum.fMag.length by omega),decide_eq_false (fun g:bT r=>by have:=g.2.2.2.2.1;omega)];rfl
          · rw [decide_eq_false (show ¬(24:Int) < r.fNum.fMag.length by omega)]
            simp only [Option.bind_some,Bool.false_eq_true,if_false]
            have e1:=nJ c1.1
            have e2:=nJ c2
            have g:=aHT (val r.fNum.fMag) (val r.fDen) (by rw [← e1];omega) (by rw [← e2];omega)
            rw [← e1,← e2] at g
            rw [g]
            simp only [Option.bind_some]
            rw [aGD]
            simp only [Option.bind_some]
            congr 1
            exact decide_eq_decide.2 ⟨fun q=>⟨c1,c2,c3,by omega,by omega,q⟩,fun q=>q.2.2.2.2.2⟩
    · rw [decide_eq_false c2,decide_eq_false (fun g:bT r=>c2 g.2.1)];rfl
  · rw [decide_eq_false c1,decide_eq_false (fun g:bT r=>c1 g.1)];rfl
theorem aAc {r:Rat} (h:bT r):∃ (n:Int) (d:Nat),r=⟨big n,aA d⟩∧0 < d∧bl n≤24∧(aA d).length≤24∧Nat.gcd n.natAbs d=1:=by
  obtain ⟨h1,h2,h3,h4,h5,h6⟩:=h
  have e1:=aM8 h1
  have e2:=nJ h2
  refine ⟨aLE r.fNum,val r.fDen,?_,?_,?_,by rw [← e2];exact h4,by rw [aFE];exact h6⟩
  · rw [← e1,← e2]
  · rcases Nat.eq_zero_or_pos (val r.fDen) with z | z
    · rw [z,bH] at e2;exact absurd e2 h3
    · exact z
  · unfold bl;rw [aFE,← nJ h1.1];exact h5
theorem aBy (d:Nat):(⟨false,aA d⟩:BigInt)=big (d:Int):=by
  unfold big
  rw [decide_eq_false (by omega),Int.natAbs_natCast]
theorem aCe {n:Int} {d:Nat} (h:0 < d):dX ⟨big n,aA d⟩=some true:=by
  unfold dX
  have:(aA d).length≠0:=fun e=>dZ (n:=d) (by omega) (List.length_eq_zero_iff.1 e)
  simp only []
  rw [decide_eq_true (by omega)]
def aKC (n:Int) (d:Nat) (m:Int) (e:Nat):Rat:=mkR (decide (n*e+m*d < 0)) (n*e+m*d).natAbs (d*e)
theorem aHF (n:Int) (d:Nat) (m:Int) (e:Nat) (hd:0 < d) (he:0 < e) (h1:bl n≤24) (h2:(aA d).length≤24) (h3:bl m≤24) (h4:(aA e).length≤24):cS ⟨big n,aA d⟩ ⟨big m,aA e⟩=some (aKC n d m e):=by
  unfold cS
  rw [aCe hd,aCe he]
  simp only [Option.bind_some,if_true,Bool.not_true,Bool.false_eq_true,if_false,gO]
  have b1:bl (e:Int)≤24:=by unfold bl;rw [Int.natAbs_natCast];exact h4
  have b2:bl (d:Int)≤24:=by unfold bl;rw [Int.natAbs_natCast];exact h2
  have b3:=aAp n e
  have b4:=aAp m d
  have b5:=aJf (n*e) (m*d)
  have b6:=aAp d e
  rw [aBy,aBy,yB n e (by omega) (by omega) (by omega),yB m d (by omega) (by omega) (by omega)]
  simp only [Option.bind_some]
  rw [aLF _ _ (by omega) (by omega) (by omega),yB d e (by omega) (by omega) (by omega)]
  simp only [Option.bind_some]
  unfold big aKC
  unfold bl at b5 b6 b1 b2 b3 b4 h1 h3
  rw [aC0 _ _ _ _ (by omega) (by omega)]
  have:decide ((d:Int)*(e:Int) < 0)=false:=decide_eq_false (by have:=Int.mul_nonneg (a:=(d:Int)) (b:=(e:Int)) (by omega) (by omega);omega)
  rw [this,Int.natAbs_mul,Int.natAbs_natCast,Int.natAbs_natCast]
  simp only [Option.bind_some]
  congr 2
  cases decide (n*(e:Int)+m*(d:Int) < 0) <;> rfl
theorem aLp (n:Int) (d:Nat) (m:Int) (e:Nat) (hd:0 < d) (he:0 < e) (h1:bl n≤24) (h2:(aA d).length≤24) (h3:bl m≤24) (h4:(aA e).length≤24):pK ⟨big n,aA d⟩ ⟨big m,aA e⟩=some (aKC n d m e):=by
  have b1:bl (e:Int)≤24:=by unfold bl;rw [Int.natAbs_natCast];exact h4
  have b2:bl (d:Int)≤24:=by unfold bl;rw [Int.natAbs_natCast];exact h2
  have b3:=aAp n e
  have b4:=aAp m d
  have b5:=aJf (n*e) (m*d)
  have b7:=aJf n m
  have b6:=eF d e
  unfold pK
  simp only []
  rw [aGD,aGD]
  simp only [Option.bind_some]
  have key:((if decide (d=1)=true then some (decide (e=1)) else some false):Option Bool)=some (decide (d=1∧e=1)):=by
    by_cases c:d=1 <;> simp [c]
  rw [key]
  simp only [Option.bind_some]
  by_cases c:d=1∧e=1
  · rw [decide_eq_true c,if_pos rfl,aHS n m (by omega) (by omega) (by omega)]
    simp only [Option.bind_some]
    obtain ⟨c1,c2⟩:=c
    unfold aKC
    rw [uX]
    unfold bl at b7 h1 h3
    simp only [big]
    rw [aCM _ _ _ (by omega) (by rw [← uX];simp),c1,c2]
    simp
  · rw [decide_eq_false c,if_neg (by simp)]
    have p1:(aA (n.natAbs*e)).length≤48:=by have:=eF n.natAbs e;unfold bl at h1;omega
    have p2:(aA (m.natAbs*d)).length≤48:=by have:=eF m.natAbs d;unfold bl at h3;omega
    have q1:dD (big n).fMag (aA e)=some (aA (n.natAbs*e)):=by unfold bl at h1;exact (oD n.natAbs e (by omega) (by omega)).1
    have q2:dD (big m).fMag (aA d)=some (aA (m.natAbs*d)):=by unfold bl at h3;exact (oD m.natAbs d (by omega) (by omega)).1
    have q3:cQ (big n).fNeg (aA (n.natAbs*e))=some (big (n*e)):=aGo n e (by omega)
    have q4:cQ (big m).fNeg (aA (m.natAbs*d))=some (big (m*d)):=aGo m d (by omega)
    rw [q1]
    simp only [Option.bind_some]
    rw [q3]
    simp only [Option.bind_some]
    rw [q2]
    simp only [Option.bind_some]
    rw [q4]
    simp only [Option.bind_some]
    rw [aHS _ _ (by omega) (by omega) (by omega)]
    simp only [Option.bind_some]
    rw [(oD d e (by omega) (by omega)).1]
    simp only [Option.bind_some]
    unfold aKC
    unfold bl at b5 b3 b4 h1 h3 b1 b2
    simp only [big]
    rw [aCM _ _ _ (by omega) (by omega)];rfl
end Go.Ev
/- Fractions: the interface that both programs meet. -/
namespace Go.Ev
set_option linter.all false
def VZ (r:Rat):Prop:=bT r∨r=oV
theorem aAH:¬bT oV:=fun h=>h.2.2.1 rfl
theorem aBH:VZ oV:=.inr rfl
theorem qK {r:Rat} (h:VZ r):aR r≤48:=by
  rcases h with h | h
  · unfold aR dI eK
    simp only [nS]
    have h1:=h.2.2.2.1
    have h2:=h.2.2.2.2.1
    omega
  · subst h;exact aLV
theorem aFw {n:Nat} (h:0 < n):aA n≠[]:=dZ (by omega)
theorem aIO (s:Bool) (x y:Nat):VZ (mkR s x y):=by
  unfold mkR
  by_cases c:y=0
  · rw [if_pos c];exact aBH
  · rw [if_neg c]
    by_cases c2:24 < (aA (x / Nat.gcd x y)).length∨24 < (aA (y / Nat.gcd x y)).length
    · rw [if_pos c2];exact aBH
    · rw [if_neg c2]
      left
      have hg0:0 < Nat.gcd x y:=Nat.gcd_pos_of_pos_right x (Nat.pos_of_ne_zero c)
      have hy:0 < y / Nat.gcd x y:=Nat.div_pos (Nat.gcd_le_right x (Nat.pos_of_ne_zero c)) hg0
      refine ⟨⟨aCy (by omega),fun h=>?_⟩,aCy (by omega),aFw hy,by show (aA (y / Nat.gcd x y)).length≤24;omega,by show (aA (x / Nat.gcd x y)).length≤24;omega,?_⟩
      · simp only [Bool.and_eq_true,decide_eq_true_eq] at h
        exact dZ h.2
      · simp only [dG]
        have:=Nat.gcd_div (Nat.gcd_dvd_left x y) (Nat.gcd_dvd_right x y)
        rw [this,Nat.div_self hg0]
theorem aJI {s s':Bool} {x y:Nat} (h:x≠0→s=s'):mkR s x y=mkR s' x y:=by
  by_cases c:x=0
  · subst c;unfold mkR;simp
  · rw [h c]
theorem iN {r:Rat} (h:VZ r):dX r=some (decide (bT r)):=by
  unfold dX
  rcases h with h | h
  · have:r.fDen.length≠0:=fun e=>h.2.2.1 (List.length_eq_zero_iff.1 e)
    rw [decide_eq_true h,decide_eq_true (by omega)]
  · subst h
    rw [decide_eq_false aAH];rfl
theorem aCT (r s:Rat) (hr:aR r≤4294967296) (hs:aR s≤4294967296):∃ t,dE r s=some t∧VZ t∧(VZ r→VZ s→cS r s=some t):=by
  unfold dE
  rw [fF r hr]
  simp only [Option.bind_some]
  by_cases c1:bT r
  · rw [decide_eq_true c1,if_pos rfl,fF s hs]
    simp only [Option.bind_some]
    by_cases c2:bT s
    · rw [decide_eq_true c2]
      obtain ⟨n,d,e1,e2,e3,e4,_⟩:=aAc c1
      obtain ⟨m,e,g1,g2,g3,g4,_⟩:=aAc c2
      subst e1;subst g1
      simp only [Bool.not_true,Bool.false_eq_true,if_false]
      have q:=aHF n d m e e2 g2 e3 e4 g3 g4
      rw [aLp n d m e e2 g2 e3 e4 g3 g4]
      exact ⟨_,rfl,aIO _ _ _,fun _ _=>q⟩
    · rw [decide_eq_false c2]
      refine ⟨oV,rfl,aBH,fun v1 v2=>?_⟩
      unfold cS
      rw [iN v1,iN v2,decide_eq_true c1,decide_eq_false c2];rfl
  · rw [decide_eq_false c1]
    refine ⟨oV,rfl,aBH,fun v1 v2=>?_⟩
    unfold cS
    rw [iN v1,decide_eq_false c1];rfl
def aM3 (n:Int) (d:Nat) (m:Int) (e:Nat):Rat:=mkR (!(decide (n < 0) == decide (m < 0))) (n.natAbs*m.natAbs) (d*e)
theorem aKY (n:Int) (d:Nat) (m:Int) (e:Nat) (hd:0 < d) (he:0 < e) (h1:bl n≤24) (h2:(aA d).length≤24) (h3:bl m≤24) (h4:(aA e).length≤24):dF ⟨big n,aA d⟩ ⟨big m,aA e⟩=some (aM3 n d m e):=by
  unfold dF
  rw [aCe hd,aCe he]
  simp only [Option.bind_some,if_true,Bool.not_true,Bool.false_eq_true,if_false,gO]
  have b1:bl (e:Int)≤24:=by unfold bl;rw [Int.natAbs_natCast];exact h4
  have b2:bl (d:Int)≤24:=by unfold bl;rw [Int.natAbs_natCast];exact h2
  have b3:=aAp n m
  have b6:=aAp d e
  rw [yB n m (by omega) (by omega) (by omega),aBy,aBy,yB d e (by omega) (by omega) (by omega)]
  simp only [Option.bind_some]
  unfold big aM3
  unfold bl at b6 b1 b2 b3 h1 h3
  rw [aC0 _ _ _ _ (by omega) (by omega)]
  have:decide ((d:Int)*(e:Int) < 0)=false:=decide_eq_false (by have:=Int.mul_nonneg (a:=(d:Int)) (b:=(e:Int)) (by omega) (by omega);omega)
  rw [this,Int.natAbs_mul,Int.natAbs_mul,Int.natAbs_natCast,Int.natAbs_natCast]
  simp only [Option.bind_some]
  congr 1
  refine aJI fun hx=>?_
  have q:=aGP n m
  rw [decide_eq_true hx,Bool.and_true] at q
  rw [← q]
  cases decide (n < 0) <;> cases decide (m < 0) <;> rfl
theorem aLo (n:Int) (d:Nat) (m:Int) (e:Nat) (h1:bl n≤24) (h2:(aA d).length≤24) (h3:bl m≤24) (h4:(aA e).length≤24):wB ⟨big n,aA d⟩ ⟨big m,aA e⟩=some (aM3 n d m e):=by
  unfold bl at h1 h3
  have b1:=eF n.natAbs m.natAbs
  have b2:=eF d e
  unfold wB
  simp only [big]
  rw [(oD _ _ (by omega) (by omega)).1]
  simp only [Option.bind_some]
  rw [(oD _ _ (by omega) (by omega)).1]
  simp only [Option.bind_some]
  rw [aCM _ _ _ (by omega) (by omega)]
  rfl
theorem aLI (r s:Rat) (hr:aR r≤4294967296) (hs:aR s≤4294967296):∃ t,eA r s=some t∧VZ t∧(VZ r→VZ s→dF r s=some t):=by
  unfold eA
  rw [fF r hr]
  simp only [Option.bind_some]
  by_cases c1:bT r
  · rw [decide_eq_true c1,if_pos rfl,fF s hs]
    simp only [Option.bind_some]
    by_cases c2:bT s
    · rw [decide_eq_true c2]
      obtain ⟨n,d,e1,e2,e3,e4,_⟩:=aAc c1
      obtain ⟨m,e,g1,g2,g3,g4,_⟩:=aAc c2
      subst e1;subst g1
      simp only [Bool.not_true,Bool.false_eq_true,if_false]
      rw [aLo n d m e e3 e4 g3 g4]
      exact ⟨_,rfl,aIO _ _ _,fun _ _=>aKY n d m e e2 g2 e3 e4 g3 g4⟩
    · rw [decide_eq_false c2]
      refine ⟨oV,rfl,aBH,fun v1 v2=>?_⟩
      unfold dF
      rw [iN v1,iN v2,decide_eq_true c1,decide_eq_false c2];rfl
  · rw [decide_eq_false c1]
    refine ⟨oV,rfl,aBH,fun v1 v2=>?_⟩
    unfold dF
    rw [iN v1,decide_eq_false c1];rfl
def yP (r:Rat):Int:=if bT r then (if r.fNum.fMag=[] then 0 else if r.fNum.fNeg=true then -1 else 1) else 0
theorem aAL {r:Rat} (h:0 < yP r):bT r:=by
  unfold yP at h
  by_cases c:bT r
  · exact c
  · rw [if_neg c] at h;omega
theorem aDo (r:Rat) (hr:aR r≤4294967296):kS r=some (yP r)∧nN r=some (yP r):=by
  unfold kS nN yP
  rw [aBj r hr,fF r hr]
  simp only [Option.bind_some]
  by_cases c1:bT r
  · rw [decide_eq_true c1,if_pos c1,if_pos rfl,if_pos rfl]
    unfold xH
    rw [iN (.inl c1),decide_eq_true c1]
    simp only [Option.bind_some,if_true]
    by_cases c2:r.fNum.fMag=[]
    · rw [if_pos c2,decide_eq_true (by rw [c2];rfl)];exact ⟨rfl,rfl⟩
    · have:r.fNum.fMag.length≠0:=fun e=>c2 (List.length_eq_zero_iff.1 e)
      rw [if_neg c2,decide_eq_false (by omega)]
      simp only [Bool.false_eq_true,if_false]
      cases r.fNum.fNeg <;> exact ⟨rfl,rfl⟩
  · rw [decide_eq_false c1,if_neg c1];exact ⟨rfl,rfl⟩
theorem aMJ (a b:List Int) (h:a.length≤4294967296):qM a b=some (decide (a=b)):=by
  unfold qM
  by_cases c:a.length=b.length
  · rw [if_neg (by omega)]
    have main:∀ m k:Nat,m+k=a.length→lp (iO a b) (k:Int)=some (if a.drop k=b.drop k then .inl () else .inr false):=by
      intro m
      induction m with
      | zero =>
        intro k hk
        rw [if_pos (by rw [List.drop_eq_nil_of_le (by omega),List.drop_eq_nil_of_le (by omega)])]
        exact aN (by unfold iO;rw [if_neg (by omega)])
      | succ m ih =>
        intro k hk
        have h1:k < a.length:=by omega
        have h2:k < b.length:=by omega
        by_cases e:a[k]=b[k]
        · have s1:iO a b (k:Int)=some (.inl ((k+1:Nat):Int)):=by
            unfold iO
            rw [if_pos (by omega),aH h1,aH h2,wi (by omega)];simp [e]
          rw [bF s1,ih (k+1) (by omega)]
          have:a.drop k=b.drop k↔a.drop (k+1)=b.drop (k+1):=by
            rw [List.drop_eq_getElem_cons h1,List.drop_eq_getElem_cons h2,List.cons.injEq]
            exact ⟨fun h=>h.2,fun h=>⟨e,h⟩⟩
          simp only [this]
        · have:¬a.drop k=b.drop k:=by
            rw [List.drop_eq_getElem_cons h1,List.drop_eq_getElem_cons h2,List.cons.injEq]
            exact fun h=>e h.1
          rw [if_neg this]
          refine aN ?_
          unfold iO
          rw [if_pos (by omega),aH h1,aH h2];simp [e]
    have:=main a.length 0 (by omega)
    rw [show ((0:Nat):Int)=0 from rfl,List.drop_zero,List.drop_zero] at this
    rw [this]
    by_cases e:a=b
    · simp [e]
    · simp [e]
  · rw [if_pos (by omega),decide_eq_false (fun e=>c (by rw [e]))]
theorem aF6:cZ=cU:=rfl
theorem aJi (r s:Rat) (hr:aR r≤4294967296):∃ b,cU r s=some b:=by
  obtain ⟨h1,h2⟩:=aKW r hr
  unfold cU
  rw [aMJ _ _ h1,aMJ _ _ h2]
  simp only [Option.bind_some]
  split
  · split
    · exact ⟨_,rfl⟩
    · exact ⟨_,rfl⟩
  · exact ⟨_,rfl⟩
theorem aB2 (n:Int) (h:-9223372036854775808≤n∧n≤9223372036854775807):bT (xP n):=by
  have hl:=jE (v:=n.natAbs) (by omega)
  unfold xP
  rw [uX]
  refine ⟨⟨aCy (by omega),fun hn=>?_⟩,aCy (by rw [← uX];simp),aFw (by omega),by rw [← uX];simp,by show (aA n.natAbs).length≤24;omega,?_⟩
  · simp only [big,decide_eq_true_eq] at hn
    exact dZ (by omega)
  · simp only [dG,Nat.gcd_one_right]
end Go.Ev
/- Is a number in a list. -/
namespace Go.Ev
set_option linter.all false
theorem aFl (l:List Int) (n:Int) (h:l.length≤4294967296):gH l n=some (decide (n ∈ l)):=by
  have main:∀ m k:Nat,m+k=l.length→lp (kG l n) (k:Int)=some (if n ∈ l.drop k then .inr true else .inl ()):=by
    intro m
    induction m with
    | zero =>
      intro k hk
      have:k=l.length:=by omega
      subst this
      rw [aN (r:=.inl ()) (by unfold kG;rw [if_neg (by omega)]),List.drop_length];simp
    | succ m ih =>
      intro k hk
      have hlt:k < l.length:=by omega
      rw [List.drop_eq_getElem_cons hlt]
      by_cases c:l[k]=n
      · rw [aN (r:=.inr true) (by unfold kG;rw [if_pos (by omega),aH hlt];simp [c]),if_pos (by simp [c])]
      · have e:kG l n (k:Int)=some (.inl ((k:Int)+1)):=by
          unfold kG;rw [if_pos (by omega),aH hlt,wi (by omega)];simp [c]
        rw [bF e,show (k:Int)+1=((k+1:Nat):Int) by omega,ih (k+1) (by omega)]
        have:(n ∈ l[k]::l.drop (k+1))↔n ∈ l.drop (k+1):=by
          rw [List.mem_cons];exact ⟨fun h=>h.resolve_left (fun e=>c e.symm),.inr⟩
        simp only [this]
  have:=main l.length 0 (by omega)
  rw [show ((0:Nat):Int)=0 from rfl,List.drop_zero] at this
  unfold gH
  rw [this]
  by_cases c:n ∈ l <;> simp [c]
theorem zK (l:List Int) (n:Int) (h:l.length≤4294967296):pG l n=some (decide (n ∈ l)):=aFl l n h
end Go.Ev
/- Conditionals and nets, both programs. -/
namespace Go.Ev
set_option linter.all false
theorem aHZ (a:Int):qE a=some (decide (0≤a∧a≤9)):=by
  unfold qE
  by_cases h:0≤a
  · rw [if_pos h];congr 1;rw [decide_eq_decide];omega
  · rw [if_neg h,decide_eq_false (by omega)]
theorem aGr (a:Int):nC a=some (decide (0≤a∧a≤9)):=by
  unfold nC
  rw [aCN];rfl
def aHI (c:Conditional) (k:Nat) (p:Parent):Prop:=(0≤p.fNode∧p.fNode≤9)∧p.fNode≠c.fNode∧(∀ q,0 < k→c.fParents[k - 1]?=some q→q.fNode < p.fNode)∧0 < yP p.fShare∧bT p.fDX∧bT p.fDY
theorem aNx {c:Conditional} (h:aK c≤4294967296) {k:Nat} (hk:k < c.fParents.length):aR (c.fParents[k]).fShare≤4294967296∧aR (c.fParents[k]).fDX≤4294967296∧aR (c.fParents[k]).fDY≤4294967296:=by
  unfold aK cP at h
  have:=fH (w:=bS) (List.getElem_mem hk)
  have e:bS c.fParents[k]=aR (c.fParents[k]).fShare+aR (c.fParents[k]).fDX+aR (c.fParents[k]).fDY:=rfl
  omega
theorem aK7 {c:Conditional} (h:aK c≤4294967296):c.fParents.length≤4294967296∧aR c.fTotal≤4294967296:=by
  unfold aK cP at h
  have:=cY bS c.fParents
  omega
theorem aIt (c:Conditional) (h:aK c≤4294967296):∀ m k:Nat,m+k=c.fParents.length→∀ s:Rat,VZ s →
    ∃ r,lp (cJ c) ((k:Int),s)=some r∧lp (cK c) ((k:Int),s)=some r ∧
      (match r with | .inl v=>VZ v∧∀ j (hj:j < c.fParents.length),k≤j→aHI c j c.fParents[j] | .inr b=>b=false):=by
  have hl:=(aK7 h).1
  intro m
  induction m with
  | zero =>
    intro k hk s hs
    refine ⟨.inl s,aN ?_,aN ?_,hs,fun j hj hkj=>by omega⟩
    · unfold cJ;simp only [];rw [if_neg (by omega)]
    · unfold cK;simp only [];rw [if_neg (by omega)]
  | succ m ih =>
    intro k hk s hs
    have hlt:k < c.fParents.length:=by omega
    obtain ⟨z1,z2,z3⟩:=aNx h hlt
    obtain ⟨g1,g2⟩:=aDo _ z1
    have a1:=aBj _ z2
    have a2:=aBj _ z3
    have b1:=fF _ z2
    have b2:=fF _ z3
    obtain ⟨t,t1,t3,t4⟩:=aCT s (c.fParents[k]).fShare (by have:=qK hs;omega) z1
    have step:(aHI c k c.fParents[k]→cJ c ((k:Int),s)=some (.inl (((k+1:Nat):Int),t))∧cK c ((k:Int),s)=some (.inl (((k+1:Nat):Int),t))) ∧
        (¬aHI c k c.fParents[k]→cJ c ((k:Int),s)=some (.inr (.inr false))∧cK c ((k:Int),s)=some (.inr (.inr false))):=by
      have w1:IntKind.i64.wrap ((k:Int)+1)=((k+1:Nat):Int):=by rw [wi (by omega)];omega
      have hin:(k:Int) < (c.fParents.length:Int):=by omega
      unfold cJ cK
      simp only [hin,if_true,aH hlt,Option.bind_some,aHZ,aGr,g1,g2,a1,a2,b1,b2,t1,w1]
      by_cases A:0≤(c.fParents[k]).fNode∧(c.fParents[k]).fNode≤9
      · by_cases B:(c.fParents[k]).fNode=c.fNode
        · refine ⟨fun g=>absurd B g.2.1,fun _=>?_⟩
          simp [A,B]
        · by_cases D:0 < yP (c.fParents[k]).fShare
          · have D':¬yP (c.fParents[k]).fShare≤0:=by omega
            have t5:=t4 hs (.inl (aAL D))
            by_cases K:0 < k
            · have hlt2:k - 1 < c.fParents.length:=by omega
              have w2:IntKind.i64.wrap ((k:Int) - 1)=((k - 1:Nat):Int):=by rw [wi (by omega)];omega
              have K':(0:Int) < (k:Int):=by omega
              simp only [A,B,K',D',w2,aH hlt2,and_self,decide_true,if_true,if_false,Option.bind_some]
              by_cases C:(c.fParents[k]).fNode≤(c.fParents[k - 1]).fNode
              · refine ⟨fun g=>?_,fun _=>?_⟩
                · have:=g.2.2.1 (c.fParents[k - 1]) K (by rw [List.getElem?_eq_getElem hlt2]);omega
                · simp [C]
              · by_cases E:bT (c.fParents[k]).fDX
                · by_cases F:bT (c.fParents[k]).fDY
                  · refine ⟨fun _=>?_,fun g=>absurd ⟨A,B,fun q _ hq=>?_,D,E,F⟩ g⟩
                    · simp [C,E,F,t5]
                    · rw [List.getElem?_eq_getElem hlt2] at hq;cases hq;omega
                  · refine ⟨fun g=>absurd g.2.2.2.2.2 F,fun _=>?_⟩
                    simp [C,E,F]
                · refine ⟨fun g=>absurd g.2.2.2.2.1 E,fun _=>?_⟩
                  simp [C,E]
            · have K':¬(0:Int) < (k:Int):=by omega
              simp only [A,B,K',D',and_self,decide_true,if_true,if_false,Option.bind_some]
              by_cases E:bT (c.fParents[k]).fDX
              · by_cases F:bT (c.fParents[k]).fDY
                · refine ⟨fun _=>?_,fun g=>absurd ⟨A,B,fun q hq _=>absurd hq K,D,E,F⟩ g⟩
                  simp [E,F,t5]
                · refine ⟨fun g=>absurd g.2.2.2.2.2 F,fun _=>?_⟩
                  simp [E,F]
              · refine ⟨fun g=>absurd g.2.2.2.2.1 E,fun _=>?_⟩
                simp [E]
          · have D':yP (c.fParents[k]).fShare≤0:=by omega
            refine ⟨fun g=>absurd g.2.2.2.1 D,fun _=>?_⟩
            by_cases K:0 < k
            · have hlt2:k - 1 < c.fParents.length:=by omega
              have w2:IntKind.i64.wrap ((k:Int) - 1)=((k - 1:Nat):Int):=by rw [wi (by omega)];omega
              have K':(0:Int) < (k:Int):=by omega
              simp only [A,B,K',D',w2,aH hlt2,and_self,decide_true,if_true,if_false,Option.bind_some]
              by_cases C:(c.fParents[k]).fNode≤(c.fParents[k - 1]).fNode <;> simp [C]
            · have K':¬(0:Int) < (k:Int):=by omega
              simp only [A,B,K',D',and_self,decide_true,if_true,if_false,Option.bind_some]
              simp
      · refine ⟨fun g=>absurd g.1 A,fun _=>?_⟩
        simp [A]
    by_cases G:aHI c k c.fParents[k]
    · obtain ⟨s1,s2⟩:=step.1 G
      rw [bF s1,bF s2]
      obtain ⟨r,e1,e2,e3⟩:=ih (k+1) (by omega) t t3
      refine ⟨r,e1,e2,?_⟩
      cases r with
      | inl v =>
        refine ⟨e3.1,fun j hj hkj=>?_⟩
        by_cases e:j=k
        · subst e;exact G
        · exact e3.2 j hj (by omega)
      | inr b=>exact e3
    · obtain ⟨s1,s2⟩:=step.2 G
      exact ⟨.inr false,aN s1,aN s2,rfl⟩
theorem aMa:VZ (xP 0):=.inl (aB2 0 (by omega))
theorem aHk (c:Conditional) (h:aK c≤4294967296):∃ b,bW c=some b∧fQ c=some b∧(b=true→(1≤c.fNode∧c.fNode≤9)∧∀ j (hj:j < c.fParents.length),aHI c j c.fParents[j]):=by
  obtain ⟨hl,hT⟩:=aK7 h
  obtain ⟨g1,g2⟩:=aDo _ hT
  obtain ⟨r,e1,e2,e3⟩:=aIt c h c.fParents.length 0 (by omega) (xP 0) aMa
  rw [show ((0:Nat):Int)=0 from rfl] at e1 e2
  unfold bW fQ
  rw [kU 0 (by omega),lJ 0 (by omega),kU 1 (by omega),lJ 1 (by omega)]
  simp only [Option.bind_some,e1,e2,g1,g2,aCN]
  by_cases A:1≤c.fNode∧c.fNode≤9
  · have A1:¬c.fNode < 1:=by omega
    have A2:¬10≤c.fNode:=by omega
    by_cases B:0 < yP c.fTotal
    · have B':¬yP c.fTotal≤0:=by omega
      by_cases D:c.fParents.length=0
      · have D1:¬(0:Int) < (c.fParents.length:Int):=by omega
        have D2:(c.fParents.length:Int)=0:=by omega
        refine ⟨false,?_,?_,fun h=>by cases h⟩
        · cases r with
          | inl v=>simp only [A,B,D1,and_self,decide_true,if_true,if_false,Option.bind_some]
          | inr b=>simp only [] at e3;subst e3;rfl
        · simp [A1,A2,B',D2]
      · have D1:(0:Int) < (c.fParents.length:Int):=by omega
        have D2:¬(c.fParents.length:Int)=0:=by omega
        cases r with
        | inl v =>
          obtain ⟨b,hb⟩:=aJi v (xP 1) (by have:=qK e3.1;omega)
          refine ⟨b,?_,?_,fun _=>⟨A,fun j hj=>e3.2 j hj (by omega)⟩⟩
          · simp only [A,B,D1,hb,and_self,decide_true,if_true,if_false,Option.bind_some]
          · rw [aF6];simp only [A1,A2,B',D2,hb,decide_false,if_true,if_false,Option.bind_some,Bool.false_eq_true]
        | inr b =>
          simp only [] at e3;subst e3
          refine ⟨false,rfl,?_,fun h=>by cases h⟩
          simp [A1,A2,B',D2]
    · have B':yP c.fTotal≤0:=by omega
      refine ⟨false,?_,?_,fun h=>by cases h⟩
      · cases r with
        | inl v=>simp [A,B]
        | inr b=>simp only [] at e3;subst e3;rfl
      · simp [A1,A2,B']
  · refine ⟨false,?_,?_,fun h=>by cases h⟩
    · cases r with
      | inl v=>simp [A]
      | inr b=>simp only [] at e3;subst e3;rfl
    · by_cases A1:c.fNode < 1
      · simp [A1]
      · have A2:10≤c.fNode:=by omega
        simp [A1,A2]
end Go.Ev
/- Fractions: quotients, differences, negation; the operations as total functions that both programs meet on valid or zero values. -/
namespace Go.Ev
set_option linter.all false
def aNB (n:Int) (d:Nat) (m:Int) (e:Nat):Rat:=mkR (!(decide (n < 0) == decide (m < 0))) (n.natAbs*e) (d*m.natAbs)
theorem aKZ (n:Int) (d:Nat) (m:Int) (e:Nat) (hd:0 < d) (he:0 < e) (h1:bl n≤24) (h2:(aA d).length≤24) (h3:bl m≤24) (h4:(aA e).length≤24):fN ⟨big n,aA d⟩ ⟨big m,aA e⟩=some (aNB n d m e):=by
  unfold fN
  rw [aCe hd,aCe he]
  simp only [Option.bind_some,if_true,Bool.not_true,Bool.false_eq_true,if_false,gO]
  have b1:bl (e:Int)≤24:=by unfold bl;rw [Int.natAbs_natCast];exact h4
  have b2:bl (d:Int)≤24:=by unfold bl;rw [Int.natAbs_natCast];exact h2
  have b3:=aAp n e
  have b4:=aAp m d
  rw [aBy,aBy,yB n e (by omega) (by omega) (by omega),yB m d (by omega) (by omega) (by omega)]
  simp only [Option.bind_some]
  unfold big aNB
  unfold bl at b1 b2 b3 b4 h1 h3
  rw [aC0 _ _ _ _ (by omega) (by omega)]
  simp only [Option.bind_some,Int.natAbs_mul,Int.natAbs_natCast]
  congr 1
  rw [Nat.mul_comm d m.natAbs]
  by_cases hm:m=0
  · subst hm;unfold mkR;simp
  · refine aJI fun hx=>?_
    have s1:decide (n*(e:Int) < 0)=decide (n < 0):=by
      rw [decide_eq_decide]
      constructor
      · intro h
        rcases Int.lt_or_le n 0 with g | g
        · exact g
        · have:=Int.mul_nonneg g (by omega:(0:Int)≤e);omega
      · intro h;exact Int.mul_neg_of_neg_of_pos h (by omega)
    have s2:decide (m*(d:Int) < 0)=decide (m < 0):=by
      rw [decide_eq_decide]
      constructor
      · intro h
        rcases Int.lt_or_le m 0 with g | g
        · exact g
        · have:=Int.mul_nonneg g (by omega:(0:Int)≤d);omega
      · intro h;exact Int.mul_neg_of_neg_of_pos h (by omega)
    rw [s1,s2]
theorem aLJ (r s:Rat) (hr:aR r≤4294967296) (hs:aR s≤4294967296):∃ t,hU r s=some t∧VZ t∧(VZ r→VZ s→fN r s=some t):=by
  unfold hU
  rw [fF r hr]
  simp only [Option.bind_some]
  by_cases c1:bT r
  · rw [decide_eq_true c1,if_pos rfl,fF s hs]
    simp only [Option.bind_some]
    by_cases c2:bT s
    · rw [decide_eq_true c2]
      obtain ⟨n,d,e1,e2,e3,e4,_⟩:=aAc c1
      obtain ⟨m,e,g1,g2,g3,g4,_⟩:=aAc c2
      subst e1;subst g1
      simp only [Bool.not_true,Bool.false_eq_true,if_false]
      have e3':=e3
      have g3':=g3
      unfold bl at e3' g3'
      have b1:=eF n.natAbs e
      have b2:=eF d m.natAbs
      have q:(dD (big n).fMag (aA e))=some (aA (n.natAbs*e)):=(oD _ _ (by omega) (by omega)).1
      have q2:(dD (aA d) (big m).fMag)=some (aA (d*m.natAbs)):=(oD _ _ (by omega) (by omega)).1
      rw [q]
      simp only [Option.bind_some]
      rw [q2]
      simp only [Option.bind_some]
      rw [aCM _ _ _ (by omega) (by omega)]
      exact ⟨_,rfl,aIO _ _ _,fun _ _=>aKZ n d m e e2 g2 e3 e4 g3 g4⟩
    · rw [decide_eq_false c2]
      refine ⟨oV,rfl,aBH,fun v1 v2=>?_⟩
      unfold fN
      rw [iN v1,iN v2,decide_eq_true c1,decide_eq_false c2];rfl
  · rw [decide_eq_false c1]
    refine ⟨oV,rfl,aBH,fun v1 v2=>?_⟩
    unfold fN
    rw [iN v1,decide_eq_false c1];rfl
theorem aGl (n:Int) (h:bl n≤24):(aA n.natAbs).length≤24:=h
theorem aJF (n:Int):(if ((aA n.natAbs).length:Int)=0 then (⟨false,[]⟩:BigInt) else ⟨!decide (n < 0),aA n.natAbs⟩)=big (-n):=by
  by_cases c:n=0
  · subst c;simp [big,aA]
  · have:(aA n.natAbs).length≠0:=fun e=>dZ (n:=n.natAbs) (by omega) (List.length_eq_zero_iff.1 e)
    rw [if_neg (by omega)]
    unfold big
    rw [Int.natAbs_neg]
    congr 1
    by_cases h:n < 0
    · rw [decide_eq_true h,decide_eq_false (by omega)];rfl
    · rw [decide_eq_false h,decide_eq_true (by omega)];rfl
theorem aFA (l:List Int) (h:l.length≤4294967296):cV l=some l:=by
  unfold cV
  rw [aQ (by simp;omega)]
  simp [aT]
theorem aKX (n:Int) (d:Nat) (hd:0 < d) (h1:bl n≤24) (h2:(aA d).length≤24):jJ ⟨big n,aA d⟩=some ⟨big (-n),aA d⟩:=by
  unfold jJ
  have h1':=aGl n h1
  rw [aCe hd]
  simp only [Option.bind_some,if_true,aAr,aAq]
  rw [aFA _ (by omega),aFA _ (by omega)]
  simp only [Option.bind_some]
  unfold eI
  have e:=aJF n
  by_cases c:((aA n.natAbs).length:Int)=0
  · rw [if_pos c] at e;simp [c,e]
  · rw [if_neg c] at e
    rw [if_neg c]
    have:¬(60:Int) < (aA n.natAbs).length:=by omega
    simp [this,e]
theorem aLn (n:Int) (d:Nat) (h1:bl n≤24) (h2:(aA d).length≤24):pI ⟨big n,aA d⟩=some ⟨big (-n),aA d⟩:=by
  unfold pI
  have h1':=aGl n h1
  simp only [aAr,aAq]
  rw [qT _ _ (by omega),aQ (by simp;omega)]
  simp only [Option.bind_some,aT,List.nil_append]
  have e:=aJF n
  congr 2
  rw [← e]
  by_cases c:n=0
  · subst c;simp [aA]
  · have:(aA n.natAbs).length≠0:=fun e=>dZ (n:=n.natAbs) (by omega) (List.length_eq_zero_iff.1 e)
    rw [if_neg (by omega)]
    simp [c]
theorem aGi {n:Int} {d:Nat} (h:bT ⟨big n,aA d⟩) (h1:bl n≤24):bT ⟨big (-n),aA d⟩:=by
  obtain ⟨⟨a1,a2⟩,b,c,d1,e,f⟩:=h
  refine ⟨⟨?_,fun hn=>?_⟩,b,c,d1,?_,?_⟩
  · show uQ (aA (-n).natAbs);rw [Int.natAbs_neg];exact a1
  · simp only [big,decide_eq_true_eq] at hn ⊢
    exact dZ (by omega)
  · show (aA (-n).natAbs).length≤24;rw [Int.natAbs_neg];exact e
  · show Nat.gcd (val (aA (-n).natAbs)) _=1;rw [Int.natAbs_neg];exact f
theorem aIl (r:Rat) (hr:aR r≤4294967296):∃ t,kT r=some t∧VZ t∧(VZ r→jJ r=some t)∧(bT r→pI r=some t∧bT t):=by
  unfold kT
  rw [fF r hr]
  simp only [Option.bind_some]
  by_cases c1:bT r
  · rw [decide_eq_true c1,if_pos rfl]
    obtain ⟨n,d,e1,e2,e3,e4,_⟩:=aAc c1
    subst e1
    rw [aLn n d e3 e4]
    exact ⟨_,rfl,.inl (aGi c1 e3),fun _=>aKX n d e2 e3 e4,fun _=>⟨rfl,aGi c1 e3⟩⟩
  · rw [decide_eq_false c1]
    refine ⟨oV,rfl,aBH,fun v1=>?_,fun h=>absurd h c1⟩
    unfold jJ
    rw [iN v1,decide_eq_false c1];rfl
theorem aLH (r s:Rat) (hr:aR r≤4294967296) (hs:aR s≤4294967296):∃ t,jG r s=some t∧VZ t∧(VZ r→VZ s→iA r s=some t):=by
  unfold jG
  rw [fF r hr]
  simp only [Option.bind_some]
  obtain ⟨u,u1,u2,u3,u4⟩:=aIl s hs
  obtain ⟨t,t1,t3,t4⟩:=aCT r u hr (by have:=qK u2;omega)
  by_cases c1:bT r
  · rw [decide_eq_true c1,if_pos rfl,fF s hs]
    simp only [Option.bind_some]
    by_cases c2:bT s
    · rw [decide_eq_true c2]
      simp only [Bool.not_true,Bool.false_eq_true,if_false]
      obtain ⟨u5,u6⟩:=u4 c2
      rw [u5]
      simp only [Option.bind_some]
      have:pK r u=some t:=by
        have:=t1
        unfold dE at this
        rw [fF r hr,fF u (by have:=qK u2;omega),decide_eq_true c1,decide_eq_true u6] at this
        simpa using this
      rw [this]
      refine ⟨t,rfl,t3,fun v1 v2=>?_⟩
      unfold iA
      rw [u3 v2]
      simp only [Option.bind_some]
      rw [t4 v1 u2];rfl
    · rw [decide_eq_false c2]
      refine ⟨oV,rfl,aBH,fun v1 v2=>?_⟩
      unfold iA
      have e:u=oV:=by
        have:=u1
        unfold kT at this
        rw [fF s hs,decide_eq_false c2] at this
        simpa [oV] using this.symm
      rw [u3 v2]
      simp only [Option.bind_some]
      unfold cS
      rw [iN v1,iN u2,decide_eq_true c1,decide_eq_false (by rw [e];exact aAH)];rfl
  · rw [decide_eq_false c1]
    refine ⟨oV,rfl,aBH,fun v1 v2=>?_⟩
    unfold iA
    rw [u3 v2]
    simp only [Option.bind_some]
    unfold cS
    rw [iN v1,decide_eq_false c1];rfl
noncomputable def RA (r s:Rat):Rat:=(dE r s).getD oV
noncomputable def RM (r s:Rat):Rat:=(eA r s).getD oV
noncomputable def RD (r s:Rat):Rat:=(hU r s).getD oV
noncomputable def RS (r s:Rat):Rat:=(jG r s).getD oV
noncomputable def RN (r:Rat):Rat:=(kT r).getD oV
theorem VZs {r:Rat} (h:VZ r):aR r≤4294967296:=by have:=qK h;omega
theorem aN7 {r s:Rat} (hr:aR r≤4294967296) (hs:aR s≤4294967296):dE r s=some (RA r s)∧VZ (RA r s):=by
  obtain ⟨t,t1,t3,t4⟩:=aCT r s hr hs
  have:RA r s=t:=by unfold RA;rw [t1];rfl
  rw [this];exact ⟨t1,t3⟩
theorem aCj {r s:Rat} (hr:VZ r) (hs:VZ s):dE r s=some (RA r s)∧cS r s=some (RA r s)∧VZ (RA r s):=by
  obtain ⟨t,t1,t3,t4⟩:=aCT r s (VZs hr) (VZs hs)
  have:RA r s=t:=by unfold RA;rw [t1];rfl
  rw [this];exact ⟨t1,t4 hr hs,t3⟩
theorem aFJ {r s:Rat} (hr:VZ r) (hs:VZ s):eA r s=some (RM r s)∧dF r s=some (RM r s)∧VZ (RM r s):=by
  obtain ⟨t,t1,t3,t4⟩:=aLI r s (VZs hr) (VZs hs)
  have:RM r s=t:=by unfold RM;rw [t1];rfl
  rw [this];exact ⟨t1,t4 hr hs,t3⟩
theorem aF7 {r s:Rat} (hr:VZ r) (hs:VZ s):hU r s=some (RD r s)∧fN r s=some (RD r s)∧VZ (RD r s):=by
  obtain ⟨t,t1,t3,t4⟩:=aLJ r s (VZs hr) (VZs hs)
  have:RD r s=t:=by unfold RD;rw [t1];rfl
  rw [this];exact ⟨t1,t4 hr hs,t3⟩
theorem aIm {r s:Rat} (hr:VZ r) (hs:VZ s):jG r s=some (RS r s)∧iA r s=some (RS r s)∧VZ (RS r s):=by
  obtain ⟨t,t1,t3,t4⟩:=aLH r s (VZs hr) (VZs hs)
  have:RS r s=t:=by unfold RS;rw [t1];rfl
  rw [this];exact ⟨t1,t4 hr hs,t3⟩
theorem aLK {r:Rat} (hr:VZ r):kT r=some (RN r)∧jJ r=some (RN r)∧VZ (RN r):=by
  obtain ⟨t,t1,t3,t4,_⟩:=aIl r (VZs hr)
  have:RN r=t:=by unfold RN;rw [t1];rfl
  rw [this];exact ⟨t1,t4 hr,t3⟩
theorem aJu {n:Int} {d:Nat} (h:bT ⟨big n,aA d⟩):0 < yP ⟨big n,aA d⟩↔0 < n:=by
  unfold yP
  rw [if_pos h]
  simp only [aAr,aAq,decide_eq_true_eq]
  by_cases c:n=0
  · subst c;simp [aA]
  · rw [if_neg (dZ (by omega))]
    by_cases h:n < 0
    · rw [if_pos h];omega
    · rw [if_neg h];omega
theorem aMf {x y:Nat} (hx:0 < x) (h:bT (mkR false x y)):0 < yP (mkR false x y):=by
  unfold yP
  rw [if_pos h]
  unfold mkR at h ⊢
  by_cases c:y=0
  · rw [if_pos c] at h;exact absurd h aAH
  · rw [if_neg c] at h ⊢
    by_cases c2:24 < (aA (x / Nat.gcd x y)).length∨24 < (aA (y / Nat.gcd x y)).length
    · rw [if_pos c2] at h;exact absurd h aAH
    · rw [if_neg c2] at h ⊢
      have hg:0 < Nat.gcd x y:=Nat.gcd_pos_of_pos_left y hx
      have:0 < x / Nat.gcd x y:=Nat.div_pos (Nat.gcd_le_left y hx) hg
      simp only [Bool.false_and,Bool.false_eq_true,if_false]
      rw [if_neg (dZ (by omega))];omega
theorem aNe {r s:Rat} (hr:0 < yP r) (hs:0 < yP s) (h:bT (RA r s)):0 < yP (RA r s):=by
  have r1:=aAL hr
  have s1:=aAL hs
  obtain ⟨n,d,e1,e2,e3,e4,_⟩:=aAc r1
  obtain ⟨m,e,g1,g2,g3,g4,_⟩:=aAc s1
  subst e1;subst g1
  have hn:=(aJu r1).1 hr
  have hm:=(aJu s1).1 hs
  have q:=(aCj (.inl r1) (.inl s1)).2.1
  rw [aHF n d m e e2 g2 e3 e4 g3 g4] at q
  have q:=Option.some.inj q
  rw [← q] at h ⊢
  unfold aKC at h ⊢
  have p1:0 < n*(e:Int):=Int.mul_pos hn (by omega)
  have p2:0 < m*(d:Int):=Int.mul_pos hm (by omega)
  rw [decide_eq_false (by omega)] at h ⊢
  exact aMf (by omega) h
end Go.Ev
/- Copies of links; the links of a tree. -/
namespace Go.Ev
set_option linter.all false
theorem pJ (x:Rat) (h:aR x≤4294967296):jC x=some x:=by
  unfold aR dI eK at h
  rw [nS,nS] at h
  unfold jC
  rw [aQ (by simp;omega),aQ (by simp;omega)]
  simp only [Option.bind_some,aM,List.nil_append]
theorem tO (x:Link) (h:bG x≤4294967296):kO x=some x:=by
  unfold bG at h
  unfold kO
  rw [pJ _ (by omega)]
  simp only [Option.bind_some]
  rw [pJ _ (by omega)]
  simp only [Option.bind_some]
  rw [pJ _ (by omega)]
  simp only [Option.bind_some]
theorem yO (l:List Link) (h:aL l≤4294967296):mX l=some l:=by
  unfold aL at h
  have hl:=cY bG l
  unfold mX
  have:=zI (step:=pH l) l (fun k t=>((k:Int),t)) (fun t=>t) (fun k t hk ht=>by
    have he:=fH (w:=bG) (List.getElem_mem hk)
    unfold pH
    simp only []
    rw [if_pos (by omega),aH hk]
    simp only [Option.bind_some]
    rw [tO _ (by omega)]
    simp only [Option.bind_some]
    rw [aQ (by omega),wi (by omega)];rfl) (fun t ht=>by unfold pH;simp only [];rw [if_neg (by omega)])
  rw [show ((0:Nat):Int)=0 from rfl] at this
  rw [this];rfl
theorem aAB (l:List Int) (h:l.length≤4294967296):cV l=some l:=by
  unfold cV
  rw [aQ (by simp;omega)]
  simp only [Option.bind_some,aM,List.nil_append]
theorem iB (x:Rat) (h:aR x≤4294967296):fL x=some x:=by
  unfold aR dI eK at h
  rw [nS,nS] at h
  unfold fL
  rw [aAB _ (by omega)]
  simp only [Option.bind_some]
  rw [aAB _ (by omega)]
  simp only [Option.bind_some]
theorem aEc (x:Link) (h:bG x≤4294967296):sD x=some x:=by
  unfold bG at h
  unfold sD
  rw [iB _ (by omega)]
  simp only [Option.bind_some]
  rw [iB _ (by omega)]
  simp only [Option.bind_some]
  rw [iB _ (by omega)]
  simp only [Option.bind_some]
theorem qV (l:List Link) (h:aL l≤4294967296):iC l=some l:=by
  unfold aL at h
  have hl:=cY bG l
  unfold iC
  have:=zI (step:=lH l) l (fun k t=>((k:Int),t)) (fun t=>t) (fun k t hk ht=>by
    have he:=fH (w:=bG) (List.getElem_mem hk)
    unfold lH
    simp only []
    rw [if_pos (by omega),aH hk]
    simp only [Option.bind_some]
    rw [aEc _ (by omega)]
    simp only [Option.bind_some]
    rw [aQ (by omega),wi (by omega)];rfl) (fun t ht=>by unfold lH;simp only [];rw [if_neg (by omega)])
  rw [show ((0:Nat):Int)=0 from rfl] at this
  rw [this];rfl
def jW (l:List TreeNode):List Link:=(l.map (fun n=>n.fOwn)).flatten
theorem aC4:∀ l:List TreeNode,aL (jW l)≤szL aS l
  | []=>by simp [jW,aL,aCl]
  | y::l=>by
    have:=aC4 l
    have hn:aS y=aL y.fOwn+aK y.fCond+aL y.fMessages+aR y.fEnergy:=rfl
    unfold jW aL at *
    rw [List.map_cons,List.flatten_cons,aEg,lX]
    omega
theorem aAP (l:List TreeNode) (k:Nat) (hk:k < l.length):jW (l.take (k+1))=jW (l.take k)++l[k].fOwn:=by
  unfold jW
  rw [List.take_succ,List.getElem?_eq_getElem hk,List.map_append,List.flatten_append]
  simp
theorem aKI {α:Type} (w:α→Nat) (l:List α) (k:Nat):szL w (l.take k)≤szL w l:=by
  have:=aEg w (l.take k) (l.drop k)
  rw [List.take_append_drop] at this
  omega
theorem aIJ (l:List TreeNode) (h:szL aS l≤4294967296) (k:Nat):(jW (l.take k)).length≤4294967296:=by
  have h1:=aC4 (l.take k)
  have h2:=aKI aS l k
  have h3:=cY bG (jW (l.take k))
  unfold aL at h1
  omega
end Go.Ev
/- Links: validity, order, merging; adding links to a link set, both programs. -/
namespace Go.Ev
open IntKind
set_option linter.all false
def ValidL (l:Link):Prop:=(0≤l.fA∧l.fA≤9)∧(0≤l.fB∧l.fB≤9)∧l.fA < l.fB∧0 < yP l.fWeight∧bT l.fDX∧bT l.fDY
instance (l:Link):Decidable (ValidL l):=by unfold ValidL;infer_instance
theorem hF (l:Link) (h:bG l≤4294967296):eH l=some (decide (ValidL l))∧gP l=some (decide (ValidL l)):=by
  unfold bG at h
  obtain ⟨g1,g2⟩:=aDo l.fWeight (by omega)
  have a1:=aBj l.fDX (by omega)
  have a2:=aBj l.fDY (by omega)
  have b1:=fF l.fDX (by omega)
  have b2:=fF l.fDY (by omega)
  unfold eH gP ValidL
  simp only [aHZ,aGr,g1,g2,a1,a2,b1,b2,Option.bind_some]
  by_cases A:0≤l.fA∧l.fA≤9
  · by_cases B:0≤l.fB∧l.fB≤9
    · by_cases C:l.fA < l.fB
      · by_cases D:0 < yP l.fWeight
        · by_cases E:bT l.fDX
          · by_cases F:bT l.fDY <;> simp [A,B,C,D,E,F]
          · simp [A,B,C,D,E]
        · simp [A,B,C,D]
      · simp [A,B,C]
    · simp [A,B]
  · simp [A]
theorem ValidL.vz {l:Link} (h:ValidL l):VZ l.fWeight∧VZ l.fDX∧VZ l.fDY:=⟨.inl (aAL h.2.2.2.1),.inl h.2.2.2.2.1,.inl h.2.2.2.2.2⟩
theorem ValidL.sz {l:Link} (h:ValidL l):bG l≤144:=by
  obtain ⟨h1,h2,h3⟩:=h.vz
  have:=qK h1
  have:=qK h2
  have:=qK h3
  unfold bG;omega
theorem aCX {α:Type} {w:α→Nat} {c:Nat}:∀ {l:List α},(∀ x ∈ l,w x≤c)→szL w l≤(c+1)*l.length
  | [],_=>by simp [aCl]
  | y::l,h=>by
    have h1:=h y (by simp)
    have h2:=aCX (l:=l) (c:=c) (fun x hx=>h x (by simp [hx]))
    rw [lX,List.length_cons,Nat.mul_add,Nat.mul_one];omega
def gF (k l:Link):Prop:=k.fA < l.fA∨(k.fA=l.fA∧k.fB < l.fB)
instance (k l:Link):Decidable (gF k l):=by unfold gF;infer_instance
theorem aFM (k l:Link):nD k l=some (decide (gF k l)):=by
  unfold nD gF
  by_cases A:k.fA < l.fA
  · simp [A]
  · by_cases B:k.fA=l.fA
    · simp [A,B]
    · simp [A,B]
theorem aIr (k l:Link):jQ k l=some (decide (gF k l)):=aFM k l
theorem aA4 {a b c:Link} (h:gF a b) (g:gF b c):gF a c:=by unfold gF at *;omega
noncomputable def sqR (x y:Rat):Rat:=RA (RM x x) (RM y y)
noncomputable def aDL (k l:Link):Link:=⟨k.fA,k.fB,RA k.fWeight l.fWeight,RD (RA (RM k.fWeight k.fDX) (RM l.fWeight l.fDX)) (RA k.fWeight l.fWeight),RD (RA (RM k.fWeight k.fDY) (RM l.fWeight l.fDY)) (RA k.fWeight l.fWeight)⟩
noncomputable def aG9 (k l:Link):Rat:=RM (RD (RM k.fWeight l.fWeight) (RA k.fWeight l.fWeight)) (sqR (RS k.fDX l.fDX) (RS k.fDY l.fDY))
def aBM (k l:Link):Prop:=bT (aDL k l).fWeight∧bT (aDL k l).fDX∧bT (aDL k l).fDY∧bT (aG9 k l)
noncomputable instance (k l:Link):Decidable (aBM k l):=by unfold aBM;infer_instance
def aF9:Link:=Link.mk 0 0 (Rat.mk (BigInt.mk false ([])) ([])) (Rat.mk (BigInt.mk false ([])) ([])) (Rat.mk (BigInt.mk false ([])) ([]))
theorem aN4 {x y:Rat} (hx:VZ x) (hy:VZ y):nW x y=some (sqR x y)∧lE x y=some (sqR x y)∧VZ (sqR x y):=by
  obtain ⟨a1,a2,a3⟩:=aFJ hx hx
  obtain ⟨b1,b2,b3⟩:=aFJ hy hy
  obtain ⟨c1,c2,c3⟩:=aCj a3 b3
  unfold nW lE sqR
  simp only [a1,a2,b1,b2,c1,c2,Option.bind_some]
  exact ⟨trivial,trivial,c3⟩
theorem aHP {k l:Link} (hk:ValidL k) (hl:ValidL l) (h:aBM k l):ValidL (aDL k l) :=
  ⟨hk.1,hk.2.1,hk.2.2.1,aNe hk.2.2.2.1 hl.2.2.2.1 h.1,h.2.1,h.2.2.1⟩
theorem aJK {k l:Link} (hk:ValidL k) (hl:ValidL l) (hA:k.fA=l.fA) (hB:k.fB=l.fB) :
    oA k l=some (if aBM k l then (aDL k l,aG9 k l,true) else (aF9,oV,false))∧oL k l=some (if aBM k l then (aDL k l,aG9 k l,true) else (aF9,oV,false))∧VZ (aG9 k l):=by
  obtain ⟨k1,k2,k3⟩:=hk.vz
  obtain ⟨l1,l2,l3⟩:=hl.vz
  obtain ⟨a1,a2,a3⟩:=aCj k1 l1
  obtain ⟨b1,b2,b3⟩:=aFJ k1 k2
  obtain ⟨c1,c2,c3⟩:=aFJ l1 l2
  obtain ⟨d1,d2,d3⟩:=aCj b3 c3
  obtain ⟨e1,e2,e3⟩:=aF7 d3 a3
  obtain ⟨f1,f2,f3⟩:=aFJ k1 k3
  obtain ⟨g1,g2,g3⟩:=aFJ l1 l3
  obtain ⟨i1,i2,i3⟩:=aCj f3 g3
  obtain ⟨j1,j2,j3⟩:=aF7 i3 a3
  obtain ⟨m1,m2,m3⟩:=aFJ k1 l1
  obtain ⟨n1,n2,n3⟩:=aF7 m3 a3
  obtain ⟨o1,o2,o3⟩:=aIm k2 l2
  obtain ⟨p1,p2,p3⟩:=aIm k3 l3
  obtain ⟨q1,q2,q3⟩:=aN4 o3 p3
  obtain ⟨r1,r2,r3⟩:=aFJ n3 q3
  have v1:=(hF k (by have:=hk.sz;omega)).1
  have v2:=(hF l (by have:=hl.sz;omega)).1
  have vm:=(hF (aDL k l) (by
    have:=qK a3;have:=qK e3;have:=qK j3
    unfold bG aDL;simp only [];omega)).1
  refine ⟨?_,?_,r3⟩
  · unfold oA
    rw [v1,v2,decide_eq_true hk,decide_eq_true hl]
    simp only [Option.bind_some,if_true,hA,hB,ne_eq,not_true_eq_false,if_false,decide_false,Bool.false_eq_true]
    simp only [a1,b1,c1,d1,e1,f1,g1,i1,j1,m1,n1,o1,p1,q1,r1,Option.bind_some]
    rw [← hA,← hB]
    have e:(Link.mk k.fA k.fB (RA k.fWeight l.fWeight) (RD (RA (RM k.fWeight k.fDX) (RM l.fWeight l.fDX)) (RA k.fWeight l.fWeight)) (RD (RA (RM k.fWeight k.fDY) (RM l.fWeight l.fDY)) (RA k.fWeight l.fWeight)))=aDL k l:=rfl
    rw [e,vm]
    have e2:RM (RD (RM k.fWeight l.fWeight) (RA k.fWeight l.fWeight)) (sqR (RS k.fDX l.fDX) (RS k.fDY l.fDY))=aG9 k l:=rfl
    rw [e2,fF (aG9 k l) (VZs r3)]
    simp only [Option.bind_some]
    by_cases O:aBM k l
    · rw [if_pos O,decide_eq_true (aHP hk hl O),decide_eq_true O.2.2.2];rfl
    · rw [if_neg O]
      by_cases V:ValidL (aDL k l)
      · have:¬bT (aG9 k l):=fun h=>O ⟨aAL V.2.2.2.1,V.2.2.2.2.1,V.2.2.2.2.2,h⟩
        rw [decide_eq_true V,decide_eq_false this];rfl
      · rw [decide_eq_false V];rfl
  · unfold oL
    simp only [a2,b2,c2,d2,e2,f2,g2,i2,j2,m2,n2,o2,p2,q2,r2,Option.bind_some,iN a3,iN e3,iN j3,iN r3]
    unfold aBM aDL aG9
    simp only []
    by_cases A:bT (RA k.fWeight l.fWeight)
    · by_cases B:bT (RD (RA (RM k.fWeight k.fDX) (RM l.fWeight l.fDX)) (RA k.fWeight l.fWeight))
      · by_cases C:bT (RD (RA (RM k.fWeight k.fDY) (RM l.fWeight l.fDY)) (RA k.fWeight l.fWeight))
        · by_cases D:bT (RM (RD (RM k.fWeight l.fWeight) (RA k.fWeight l.fWeight)) (sqR (RS k.fDX l.fDX) (RS k.fDY l.fDY))) <;> simp [A,B,C,D,aF9,oV]
        · simp [A,B,C,aF9,oV]
      · simp [A,B,aF9,oV]
    · simp [A,aF9,oV]
def LSet (s:List Link):Prop:=(∀ x ∈ s,ValidL x)∧s.Pairwise gF
noncomputable instance (s:List Link):Decidable (LSet s):=Classical.propDecidable _
theorem aJP:∀ (l:List Int) (a N:Int),l.Pairwise (· < ·)→(∀ x ∈ l,a≤x∧x < N)→(l.length:Int)≤max 0 (N - a)
  | [],a,N,_,_=>by rw [List.length_nil];omega
  | x::l,a,N,h,hb=>by
    rw [List.pairwise_cons] at h
    have h1:=hb x (by simp)
    have:=aJP l (x+1) N h.2 (fun y hy=>⟨by have:=h.1 y hy;omega,(hb y (by simp [hy])).2⟩)
    rw [List.length_cons];omega
theorem LSet.len {s:List Link} (h:LSet s):s.length≤100:=by
  have:=aJP (s.map fun l=>l.fA*10+l.fB) 0 100 (by
    rw [List.pairwise_map]
    refine List.Pairwise.imp_of_mem (fun {a b} ha hb hr=>?_) h.2
    have h1:=h.1 a ha
    have h2:=h.1 b hb
    unfold ValidL at h1 h2
    unfold gF at hr
    omega) (by
    intro x hx
    obtain ⟨l,hl,rfl⟩:=List.mem_map.1 hx
    have h1:=h.1 l hl
    unfold ValidL at h1
    omega)
  rw [List.length_map] at this;omega
theorem aCW {s:List Link} (h:∀ x ∈ s,ValidL x):aL s≤145*s.length:=aCX (fun x hx=>(h x hx).sz)
theorem LSet.sz {s:List Link} (h:LSet s):aL s≤14500:=by
  have:=aCW h.1
  have:=h.len
  omega
def lsF:Option Link→List Link→Prop
  | _,[]=>True
  | p,x::r=>ValidL x∧(∀ q,p=some q→gF q x)∧lsF (some x) r
noncomputable instance (p:Option Link) (s:List Link):Decidable (lsF p s):=Classical.propDecidable _
theorem aJL:∀ (s:List Link) (p:Option Link),lsF p s↔LSet s∧∀ q,p=some q→∀ x ∈ s,gF q x
  | [],p=>by simp [lsF,LSet]
  | x::r,p=>by
    rw [lsF,aJL r (some x)]
    unfold LSet
    rw [List.pairwise_cons]
    constructor
    · rintro ⟨h1,h2,⟨h3,h4⟩,h5⟩
      refine ⟨⟨fun y hy=>?_,fun y hy=>h5 x rfl y hy,h4⟩,fun q hq y hy=>?_⟩
      · rcases List.mem_cons.1 hy with rfl | hy
        · exact h1
        · exact h3 y hy
      · rcases List.mem_cons.1 hy with rfl | hy
        · exact h2 q hq
        · exact aA4 (h2 q hq) (h5 x rfl y hy)
    · rintro ⟨⟨h1,h2,h3⟩,h4⟩
      exact ⟨h1 x (by simp),fun q hq=>h4 q hq x (by simp),⟨fun y hy=>h1 y (by simp [hy]),h3⟩,fun q hq y hy=>by cases hq;exact h2 y hy⟩
theorem lL (s:List Link) (h:aL s≤4294967296):dK s=some (decide (LSet s)):=by
  unfold aL at h
  have hl:=cY bG s
  have main:∀ m k:Nat,m+k=s.length→∀ p:Option Link,(p=if k=0 then none else s[k - 1]?)→lp (eO s) (k:Int)=some (if lsF p (s.drop k) then .inl () else .inr false):=by
    intro m
    induction m with
    | zero =>
      intro k hk p _
      rw [List.drop_eq_nil_of_le (by omega),if_pos (by simp [lsF])]
      exact aN (by unfold eO;rw [if_neg (by omega)])
    | succ m ih =>
      intro k hk p hp
      have hlt:k < s.length:=by omega
      have hz:=fH (w:=bG) (List.getElem_mem hlt)
      have v:=(hF s[k] (by omega)).1
      rw [List.drop_eq_getElem_cons hlt]
      have st:eO s (k:Int)=some (if ValidL s[k]∧(∀ q,p=some q→gF q s[k]) then .inl ((k+1:Nat):Int) else .inr (.inr false)):=by
        have w1:i64.wrap ((k:Int)+1)=((k+1:Nat):Int):=by rw [wi (by omega)];omega
        unfold eO
        rw [if_pos (by omega),aH hlt]
        simp only [Option.bind_some,v,w1]
        by_cases V:ValidL s[k]
        · rw [decide_eq_true V,if_pos rfl]
          by_cases K:k=0
          · subst K
            rw [if_pos rfl] at hp;subst hp
            simp [V]
          · have hlt2:k - 1 < s.length:=by omega
            rw [if_neg K,List.getElem?_eq_getElem hlt2] at hp;subst hp
            have w2:i64.wrap ((k:Int) - 1)=((k - 1:Nat):Int):=by rw [wi (by omega)];omega
            rw [if_pos (by omega),w2,aH hlt2]
            simp only [Option.bind_some,aFM]
            by_cases L:gF s[k - 1] s[k]
            · simp [V,L]
            · simp [L]
        · rw [decide_eq_false V];simp [V]
      by_cases G:ValidL s[k]∧(∀ q,p=some q→gF q s[k])
      · rw [if_pos G] at st
        rw [bF st,ih (k+1) (by omega) (some s[k]) (by rw [if_neg (by omega),Nat.add_sub_cancel,List.getElem?_eq_getElem hlt])]
        have:lsF p (s[k]::s.drop (k+1))↔lsF (some s[k]) (s.drop (k+1)):=by rw [lsF];exact ⟨fun h=>h.2.2,fun h=>⟨G.1,G.2,h⟩⟩
        simp only [this]
      · rw [if_neg G] at st
        rw [aN st,if_neg]
        rw [lsF];exact fun h=>G ⟨h.1,h.2.1⟩
  have:=main s.length 0 (by omega) none (by simp)
  unfold dK
  rw [show ((0:Nat):Int)=0 from rfl,List.drop_zero] at this
  rw [this]
  have e:lsF none s↔LSet s:=by rw [aJL];exact ⟨fun h=>h.1,fun h=>⟨h,fun q hq=>by cases hq⟩⟩
  by_cases c:LSet s
  · rw [if_pos (e.2 c),decide_eq_true c];rfl
  · rw [if_neg (fun h=>c (e.1 h)),decide_eq_false c];rfl
def hY (l:Link):List Link→Nat
  | []=>0
  | y::r=>if gF y l then hY l r+1 else 0
theorem aJB (l:Link):∀ s:List Link,hY l s≤s.length
  | []=>Nat.le_refl _
  | y::r=>by
    have:=aJB l r
    rw [hY];split <;> simp <;> omega
theorem aC2 (l:Link):∀ s:List Link,∀ x ∈ s.take (hY l s),gF x l
  | [],x,h=>by simp [hY] at h
  | y::r,x,h=>by
    rw [hY] at h
    by_cases c:gF y l
    · rw [if_pos c,List.take_succ_cons] at h
      rcases List.mem_cons.1 h with rfl | h
      · exact c
      · exact aC2 l r x h
    · rw [if_neg c] at h;simp at h
theorem aC3 (l:Link):∀ (s:List Link) (h:hY l s < s.length),¬gF s[hY l s] l
  | [],h=>by simp at h
  | y::r,h=>by
    by_cases c:gF y l
    · have e:hY l (y::r)=hY l r+1:=by rw [hY,if_pos c]
      have h':hY l r < r.length:=by rw [e] at h;simpa using h
      have:=aC3 l r h'
      simpa [e] using this
    · have e:hY l (y::r)=0:=by rw [hY,if_neg c]
      simpa [e] using c
theorem aK6 (s:List Link) (l:Link) (h:s.length≤4294967296):lp (gD l s) 0=some ((hY l s:Nat):Int):=by
  have main:∀ m k:Nat,m+k=s.length→lp (gD l s) (k:Int)=some ((k+hY l (s.drop k):Nat):Int):=by
    intro m
    induction m with
    | zero =>
      intro k hk
      rw [List.drop_eq_nil_of_le (by omega)]
      refine aN ?_
      unfold gD
      rw [if_neg (by omega)];rfl
    | succ m ih =>
      intro k hk
      have hlt:k < s.length:=by omega
      have w1:i64.wrap ((k:Int)+1)=((k+1:Nat):Int):=by rw [wi (by omega)];omega
      rw [List.drop_eq_getElem_cons hlt,hY]
      have st:gD l s (k:Int)=some (if gF s[k] l then .inl ((k+1:Nat):Int) else .inr (k:Int)):=by
        unfold gD
        rw [if_pos (by omega),aH hlt]
        simp only [Option.bind_some,aFM,w1]
        by_cases L:gF s[k] l <;> simp [L]
      by_cases L:gF s[k] l
      · rw [if_pos L] at st ⊢
        rw [bF st,ih (k+1) (by omega)]
        congr 2;omega
      · rw [if_neg L] at st ⊢
        rw [aN st];rfl
  have:=main s.length 0 (by omega)
  simpa using this
noncomputable def aHi (s:List Link) (l:Link):Option (List Link × Rat) :=
  if h:hY l s < s.length then
    if gF l s[hY l s] then some (s.take (hY l s)++[l]++s.drop (hY l s),xP 0)
    else if aBM s[hY l s] l then some (s.take (hY l s)++[aDL s[hY l s] l]++s.drop (hY l s+1),aG9 s[hY l s] l) else none
  else some (s.take (hY l s)++[l]++s.drop (hY l s),xP 0)
def pk:Option (List Link × Rat)→List Link × Rat × Bool
  | some (s,e)=>(s,e,true)
  | none=>([],oV,false)
theorem aFO {s:List Link} {m:Link} {p q:Nat} (hs:LSet s) (hm:ValidL m) (h1:∀ x ∈ s.take p,gF x m) (h2:∀ y ∈ s.drop q,gF m y):LSet (s.take p++[m]++s.drop q):=by
  refine ⟨fun x hx=>?_,?_⟩
  · rw [List.mem_append,List.mem_append,List.mem_singleton] at hx
    rcases hx with (hx | rfl) | hx
    · exact hs.1 x (List.mem_of_mem_take hx)
    · exact hm
    · exact hs.1 x (List.mem_of_mem_drop hx)
  · rw [List.append_assoc,List.pairwise_append]
    refine ⟨hs.2.sublist (List.take_sublist _ _),?_,fun a ha b hb=>?_⟩
    · rw [List.singleton_append,List.pairwise_cons]
      exact ⟨h2,hs.2.sublist (List.drop_sublist _ _)⟩
    · rw [List.singleton_append] at hb
      rcases List.mem_cons.1 hb with rfl | hb
      · exact h1 a ha
      · exact aA4 (h1 a ha) (h2 b hb)
theorem aM0 {s:List Link} (h:s.Pairwise gF) {p:Nat} (hp:p < s.length):(∀ x ∈ s.take p,gF x s[p])∧∀ y ∈ s.drop (p+1),gF s[p] y:=by
  have e:s=s.take p++(s[p]::s.drop (p+1)):=by rw [← List.drop_eq_getElem_cons hp,List.take_append_drop]
  rw [e,List.pairwise_append,List.pairwise_cons] at h
  exact ⟨fun x hx=>h.2.2 x hx _ List.mem_cons_self,h.2.1.1⟩
theorem aHh {s:List Link} {l:Link} (hs:LSet s) (hl:ValidL l) {s':List Link} {e:Rat} (h:aHi s l=some (s',e)):LSet s'∧VZ e:=by
  unfold aHi at h
  have z:VZ (xP 0):=.inl (aB2 0 (by omega))
  by_cases c:hY l s < s.length
  · rw [dif_pos c] at h
    obtain ⟨g1,g2⟩:=aM0 hs.2 c
    by_cases c2:gF l s[hY l s]
    · rw [if_pos c2] at h;cases h
      refine ⟨aFO hs hl (aC2 l s) (fun y hy=>?_),z⟩
      rw [List.drop_eq_getElem_cons c] at hy
      rcases List.mem_cons.1 hy with rfl | hy
      · exact c2
      · exact aA4 c2 (g2 y hy)
    · rw [if_neg c2] at h
      have hv:=hs.1 _ (List.getElem_mem c)
      have nl:=aC3 l s c
      have hA:s[hY l s].fA=l.fA∧s[hY l s].fB=l.fB:=by unfold gF at c2 nl;omega
      by_cases O:aBM s[hY l s] l
      · rw [if_pos O] at h;cases h
        exact ⟨aFO hs (aHP hv hl O) g1 g2,(aJK hv hl hA.1 hA.2).2.2⟩
      · rw [if_neg O] at h;cases h
  · rw [dif_neg c] at h;cases h
    refine ⟨aFO hs hl (aC2 l s) (fun y hy=>?_),z⟩
    rw [List.drop_eq_nil_of_le (by omega)] at hy;cases hy
theorem aHj (s:List Link) (l:Link):wV s l=gD l s:=rfl
theorem vD {α:Type} (x:α):aT x=some x:=rfl
theorem aGE {s:List Link} {l:Link} (hs:LSet s) (hl:ValidL l):nF s l=some (pk (aHi s l))∧uF s l=some (pk (aHi s l)):=by
  have hlen:=hs.len
  have hp:=aJB l s
  have v:=(hF l (by have:=hl.sz;omega)).1
  have i1:=lL s (by have:=hs.sz;omega)
  have c1:=yO s (by have:=hs.sz;omega)
  have c2:=tO l (by have:=hl.sz;omega)
  have lp1:=aK6 s l (by omega)
  have rf1:eD 0=some (xP 0):=kU 0 (by omega)
  have rf2:eE 0=some (xP 0):=lJ 0 (by omega)
  have s1:sub s 0 ((hY l s:Nat):Int)=some (s.take (hY l s)):=by rw [vK _ _ _ (by omega)];simp
  have s2:sub s ((hY l s:Nat):Int) (s.length:Int)=some (s.drop (hY l s)):=by
    rw [vK _ _ _ (by omega)];congr 1
    rw [List.take_of_length_le];rfl
    rw [List.length_drop];omega
  have t1:(s.take (hY l s)).length≤100:=by rw [List.length_take];omega
  have t2:(s.drop (hY l s)).length≤100:=by rw [List.length_drop];omega
  unfold nF uF aHi
  rw [aHj,i1,v,decide_eq_true hs,decide_eq_true hl,lp1]
  simp only [Option.bind_some,if_true,Bool.not_true,Bool.false_eq_true,if_false,c1,lp1,s1,s2,vD,List.nil_append]
  rw [aQ (by simp only [List.length_nil,Nat.zero_add];omega)]
  simp only [Option.bind_some]
  by_cases c:hY l s < s.length
  · have c':((hY l s:Nat):Int) < (s.length:Int):=by omega
    have c'':¬((hY l s:Nat):Int)=(s.length:Int):=by omega
    rw [if_pos c',if_neg c'',dif_pos c,aH c]
    simp only [Option.bind_some,aFM,aIr]
    by_cases L:gF l s[hY l s]
    · rw [if_pos L,decide_eq_true L]
      simp only [Bool.not_true,Bool.false_eq_true,if_false,if_true,c2,Option.bind_some,rf1,rf2]
      rw [aQ (by omega)]
      simp only [Option.bind_some]
      rw [aQ (by rw [List.length_append,List.length_singleton];omega)]
      exact ⟨rfl,rfl⟩
    · rw [if_neg L,decide_eq_false L]
      have hv:=hs.1 _ (List.getElem_mem c)
      have nl:=aC3 l s c
      have hA:s[hY l s].fA=l.fA∧s[hY l s].fB=l.fB:=by unfold gF at L nl;omega
      obtain ⟨m1,m2,m3⟩:=aJK hv hl hA.1 hA.2
      simp only [Bool.not_false,if_true,Bool.false_eq_true,if_false,m1,m2,Option.bind_some]
      by_cases O:aBM s[hY l s] l
      · rw [if_pos O,if_pos O]
        have w1:i64.wrap (((hY l s:Nat):Int)+1)=((hY l s+1:Nat):Int):=by rw [wi (by omega)];omega
        have s3:sub s ((hY l s+1:Nat):Int) (s.length:Int)=some (s.drop (hY l s+1)):=by
          rw [vK _ _ _ (by omega)];congr 1
          rw [List.take_of_length_le];rfl
          rw [List.length_drop];omega
        have t3:(s.drop (hY l s+1)).length≤100:=by rw [List.length_drop];omega
        simp only [if_true,w1,s3,Option.bind_some,gI]
        rw [aQ (by omega)]
        simp only [Option.bind_some]
        rw [aQ (by rw [List.length_append,List.length_singleton];omega)]
        refine ⟨?_,rfl⟩
        simp only [pk]
        rw [List.set_eq_take_append_cons_drop,if_pos c,List.append_assoc,List.singleton_append]
      · rw [if_neg O,if_neg O]
        exact ⟨rfl,rfl⟩
  · have c':¬((hY l s:Nat):Int) < (s.length:Int):=by omega
    have c'':((hY l s:Nat):Int)=(s.length:Int):=by omega
    rw [if_neg c',if_pos c'',dif_neg c]
    simp only [Option.bind_some,Bool.false_eq_true,if_false,if_true,c2,rf1,rf2]
    rw [aQ (by omega)]
    simp only [Option.bind_some]
    rw [aQ (by rw [List.length_append,List.length_singleton];omega)]
    exact ⟨rfl,rfl⟩
end Go.Ev
/- Joining links into a link set, both programs. -/
namespace Go.Ev
set_option linter.all false
theorem aNf {r s:Rat} (hr:VZ r) (hs:VZ s) (h:¬bT r):RA r s=oV:=by
  have q:=(aCj hr hs).1
  unfold dE at q
  rw [fF r (VZs hr),decide_eq_false h] at q
  simpa [oV] using q.symm
noncomputable def zM:List Link→List Link→Rat→Option (List Link × Rat)
  | [],s,e=>some (s,e)
  | x::r,s,e=>match aHi s x with
    | none=>none
    | some (s',e')=>if bT (RA e e') then zM r s' (RA e e') else none
theorem aHX:∀ (l s:List Link) (e:Rat),(∀ x ∈ l,ValidL x)→LSet s→bT e→∀ s' e',zM l s e=some (s',e')→LSet s'∧bT e'
  | [],s,e,_,hs,he,s',e',h=>by rw [zM] at h;cases h;exact ⟨hs,he⟩
  | x::r,s,e,hv,hs,he,s',e',h=>by
    rw [zM] at h
    cases ha:aHi s x with
    | none=>rw [ha] at h;cases h
    | some t =>
      obtain ⟨s1,e1⟩:=t
      rw [ha] at h
      simp only [] at h
      obtain ⟨g1,g2⟩:=aHh hs (hv x (by simp)) ha
      by_cases c:bT (RA e e1)
      · rw [if_pos c] at h
        exact aHX r s1 _ (fun y hy=>hv y (by simp [hy])) g1 c s' e' h
      · rw [if_neg c] at h;cases h
noncomputable instance (l:List Link):Decidable (∀ x ∈ l,ValidL x):=Classical.propDecidable _
def aBY:List Link × Rat × Bool:=([],oV,false)
theorem aIY (l:List Link) (hv:∀ x ∈ l,ValidL x) (hl:l.length≤4294967296):∀ m k:Nat,m+k=l.length→∀ s e,LSet s→VZ e →
    lp (gA l) (s,(k:Int),e)=some (match zM (l.drop k) s e with | some t=>.inl t | none=>.inr aBY):=by
  intro m
  induction m with
  | zero =>
    intro k hk s e hs he
    rw [List.drop_eq_nil_of_le (by omega),zM]
    exact aN (by unfold gA;simp only [];rw [if_neg (by omega)])
  | succ m ih =>
    intro k hk s e hs he
    have hlt:k < l.length:=by omega
    have hx:=hv _ (List.getElem_mem hlt)
    have w1:IntKind.i64.wrap ((k:Int)+1)=((k+1:Nat):Int):=by rw [wi (by omega)];omega
    have a:=(aGE hs hx).2
    rw [List.drop_eq_getElem_cons hlt,zM]
    cases ha:aHi s l[k] with
    | none =>
      rw [ha] at a
      have g:=(aCj he aBH).2.1
      refine aN ?_
      unfold gA
      simp only []
      rw [if_pos (by omega),aH hlt]
      simp only [Option.bind_some,a,pk,g]
      rfl
    | some t =>
      obtain ⟨s1,e1⟩:=t
      rw [ha] at a
      obtain ⟨g1,g2⟩:=aHh hs hx ha
      obtain ⟨_,q2,q3⟩:=aCj he g2
      have st:gA l (s,(k:Int),e)=some (if bT (RA e e1) then .inl (s1,((k+1:Nat):Int),RA e e1) else .inr (.inr aBY)):=by
        unfold gA
        simp only []
        rw [if_pos (by omega),aH hlt]
        simp only [Option.bind_some,a,pk,q2,iN q3,if_true,w1]
        by_cases c:bT (RA e e1)
        · simp [c]
        · simp [c,aBY,oV]
      simp only []
      by_cases c:bT (RA e e1)
      · rw [if_pos c] at st ⊢
        rw [bF st]
        exact ih (k+1) (by omega) s1 _ g1 q3
      · rw [if_neg c] at st ⊢
        rw [aN st]
def aLw:(List Link × Rat) ⊕ (List Link × Rat × Bool)→List Link × Rat × Bool
  | .inl d=>if bT d.2 then (d.1,d.2,true) else aBY
  | .inr x=>x
theorem aIX (l:List Link) (hz:aL l≤4294967296):∀ m k:Nat,m+k=l.length→∀ s e,LSet s→VZ e →
    ∃ R,lp (eN l) (s,(k:Int),e)=some R∧(∀ d,R=.inl d→VZ d.2)∧aLw R=pk (if bT e∧(∀ x ∈ l.drop k,ValidL x) then zM (l.drop k) s e else none):=by
  have hl:l.length≤4294967296:=by have:=cY bG l;unfold aL at hz;omega
  intro m
  induction m with
  | zero =>
    intro k hk s e hs he
    refine ⟨.inl (s,e),aN (by unfold eN;simp only [];rw [if_neg (by omega)]),fun d h=>(by cases h;exact he),?_⟩
    rw [List.drop_eq_nil_of_le (by omega),zM]
    by_cases c:bT e
    · simp [aLw,pk,c]
    · simp [aLw,pk,c,aBY]
  | succ m ih =>
    intro k hk s e hs he
    have hlt:k < l.length:=by omega
    have w1:IntKind.i64.wrap ((k:Int)+1)=((k+1:Nat):Int):=by rw [wi (by omega)];omega
    have hxz:bG l[k]≤4294967296:=by have:=fH (w:=bG) (List.getElem_mem hlt);unfold aL at hz;omega
    rw [List.drop_eq_getElem_cons hlt]
    by_cases hx:ValidL l[k]
    · have a:=(aGE hs hx).1
      rw [zM]
      cases ha:aHi s l[k] with
      | none =>
        rw [ha] at a
        refine ⟨.inr aBY,aN ?_,fun d h=>(by cases h),?_⟩
        · unfold eN
          simp only []
          rw [if_pos (by omega),aH hlt]
          simp only [Option.bind_some,a,pk]
          rfl
        · simp [aLw,pk,aBY]
      | some t =>
        obtain ⟨s1,e1⟩:=t
        rw [ha] at a
        obtain ⟨g1,g2⟩:=aHh hs hx ha
        obtain ⟨q1,_,q3⟩:=aCj he g2
        have st:eN l (s,(k:Int),e)=some (.inl (s1,((k+1:Nat):Int),RA e e1)):=by
          unfold eN
          simp only []
          rw [if_pos (by omega),aH hlt]
          simp only [Option.bind_some,a,pk,q1,if_true,w1]
        obtain ⟨R,r1,r2,r3⟩:=ih (k+1) (by omega) s1 _ g1 q3
        refine ⟨R,by rw [bF st];exact r1,r2,?_⟩
        rw [r3]
        simp only []
        by_cases c:bT e
        · by_cases c2:bT (RA e e1)
          · have:(∀ x ∈ l[k]::l.drop (k+1),ValidL x)↔(∀ x ∈ l.drop (k+1),ValidL x):=⟨fun h x hx'=>h x (List.mem_cons_of_mem _ hx'),fun h x hx'=>by rcases List.mem_cons.1 hx' with rfl | h';exact hx;exact h x h'⟩
            simp only [c,c2,true_and,if_true,this]
          · simp only [c,c2,true_and,false_and,if_false,ite_self]
        · have c2:¬bT (RA e e1):=by rw [aNf he g2 c];exact aAH
          simp only [c,c2,false_and,if_false]
    · refine ⟨.inr aBY,aN ?_,fun d h=>(by cases h),?_⟩
      · unfold eN
        simp only []
        rw [if_pos (by omega),aH hlt]
        have a:nF s l[k]=some aBY:=by
          unfold nF
          rw [lL s (by have:=hs.sz;omega),(hF l[k] hxz).1,decide_eq_true hs,decide_eq_false hx]
          rfl
        simp only [Option.bind_some,a,aBY]
        rfl
      · rw [if_neg (fun h=>hx (h.2 _ List.mem_cons_self))];rfl
theorem aGG (l:List Link) (hz:aL l≤4294967296):oI l=some (decide (∀ x ∈ l,ValidL x)):=by
  have hl:l.length≤4294967296:=by have:=cY bG l;unfold aL at hz;omega
  have main:∀ m k:Nat,m+k=l.length→lp (gN l) (k:Int)=some (if (∀ x ∈ l.drop k,ValidL x) then .inl () else .inr false):=by
    intro m
    induction m with
    | zero =>
      intro k hk
      rw [List.drop_eq_nil_of_le (by omega),if_pos (by simp)]
      exact aN (by unfold gN;rw [if_neg (by omega)])
    | succ m ih =>
      intro k hk
      have hlt:k < l.length:=by omega
      have w1:IntKind.i64.wrap ((k:Int)+1)=((k+1:Nat):Int):=by rw [wi (by omega)];omega
      have v:=(hF l[k] (by have:=fH (w:=bG) (List.getElem_mem hlt);unfold aL at hz;omega)).2
      have st:gN l (k:Int)=some (if ValidL l[k] then .inl ((k+1:Nat):Int) else .inr (.inr false)):=by
        unfold gN
        rw [if_pos (by omega),aH hlt]
        simp only [Option.bind_some,v,w1]
        by_cases c:ValidL l[k] <;> simp [c]
      rw [List.drop_eq_getElem_cons hlt]
      by_cases c:ValidL l[k]
      · rw [if_pos c] at st
        rw [bF st,ih (k+1) (by omega)]
        have:(∀ x ∈ l[k]::l.drop (k+1),ValidL x)↔(∀ x ∈ l.drop (k+1),ValidL x):=⟨fun h x hx'=>h x (List.mem_cons_of_mem _ hx'),fun h x hx'=>by rcases List.mem_cons.1 hx' with rfl | h';exact c;exact h x h'⟩
        simp only [this]
      · rw [if_neg c] at st
        rw [aN st,if_neg (fun h=>c (h _ List.mem_cons_self))]
  have:=main l.length 0 (by omega)
  unfold oI
  rw [show ((0:Nat):Int)=0 from rfl,List.drop_zero] at this
  rw [this]
  by_cases c:∀ x ∈ l,ValidL x
  · rw [if_pos c,decide_eq_true c];rfl
  · rw [if_neg c,decide_eq_false c];rfl
theorem aBm:LSet []:=⟨by simp,List.Pairwise.nil⟩
theorem aBr:bT (xP 0):=aB2 0 (by omega)
noncomputable def jnP (l:List Link):Option (List Link × Rat):=if ∀ x ∈ l,ValidL x then zM l [] (xP 0) else none
theorem aFi {l s:List Link} {e:Rat} (h:jnP l=some (s,e)):(∀ x ∈ l,ValidL x)∧LSet s∧bT e:=by
  unfold jnP at h
  by_cases c:∀ x ∈ l,ValidL x
  · rw [if_pos c] at h
    exact ⟨c,aHX l [] _ c aBm aBr s e h⟩
  · rw [if_neg c] at h;cases h
theorem aA9 {l:List Link} (hv:∀ x ∈ l,ValidL x) (hl:l.length≤4294967296):kF l=some (pk (jnP l)):=by
  unfold kF jnP
  rw [lJ 0 (by omega),if_pos hv]
  simp only [Option.bind_some]
  have:=aIY l hv hl l.length 0 (by omega) [] (xP 0) aBm (.inl aBr)
  rw [show ((0:Nat):Int)=0 from rfl,List.drop_zero] at this
  rw [this]
  cases zM l [] (xP 0) with
  | none=>rfl
  | some t=>rfl
theorem aBn (l:List Link) (hz:aL l≤4294967296):jU l=some (pk (jnP l))∧qI l=some (pk (jnP l)):=by
  have hl:l.length≤4294967296:=by have:=cY bG l;unfold aL at hz;omega
  constructor
  · unfold jU
    rw [kU 0 (by omega)]
    simp only [Option.bind_some]
    obtain ⟨R,r1,r2,r3⟩:=aIX l hz l.length 0 (by omega) [] (xP 0) aBm (.inl aBr)
    rw [show ((0:Nat):Int)=0 from rfl] at r1
    rw [List.drop_zero] at r3
    rw [r1]
    have e:(if bT (xP 0)∧(∀ x ∈ l,ValidL x) then zM l [] (xP 0) else none)=jnP l:=by unfold jnP;simp only [aBr,true_and]
    rw [← e,← r3]
    cases R with
    | inl d =>
      simp only [Option.bind_some]
      rw [fF d.2 (VZs (r2 d rfl))]
      simp only [Option.bind_some,aLw]
      by_cases c:bT d.2
      · rw [decide_eq_true c,if_pos c];rfl
      · rw [decide_eq_false c,if_neg c];rfl
    | inr x=>rfl
  · unfold qI
    rw [aGG l hz]
    simp only [Option.bind_some]
    by_cases c:∀ x ∈ l,ValidL x
    · rw [decide_eq_true c,if_pos rfl,aA9 c hl]
      simp only [Option.bind_some]
      cases hj:jnP l with
      | none=>rfl
      | some t =>
        obtain ⟨s,e⟩:=t
        obtain ⟨_,g1,_⟩:=aFi hj
        simp only [pk,if_true]
        rw [qV s (by have:=g1.sz;omega)]
        rfl
    · rw [decide_eq_false c]
      unfold jnP
      rw [if_neg c];rfl
end Go.Ev
/- Cliques: their nodes in order. -/
namespace Go.Ev
set_option linter.all false
theorem zY:∀ {a b:List Int},a.Pairwise (· < ·)→b.Pairwise (· < ·)→(∀ x,x ∈ a↔x ∈ b)→a=b
  | [],[],_,_,_=>rfl
  | [],y::b,_,_,h=>absurd ((h y).2 (by simp)) (by simp)
  | x::a,[],_,_,h=>absurd ((h x).1 (by simp)) (by simp)
  | x::a,y::b,ha,hb,h=>by
    rw [List.pairwise_cons] at ha hb
    have hxy:x=y:=by
      have h1:=(h x).1 (by simp)
      have h2:=(h y).2 (by simp)
      rcases List.mem_cons.1 h1 with e | e
      · exact e
      · rcases List.mem_cons.1 h2 with e' | e'
        · exact e'.symm
        · have:=hb.1 x e;have:=ha.1 y e';omega
    subst hxy
    have:a=b:=zY ha.2 hb.2 (fun z=>by
      constructor
      · intro hz
        have:=(h z).1 (by simp [hz])
        rcases List.mem_cons.1 this with e | e
        · subst e;have:=ha.1 z hz;omega
        · exact e
      · intro hz
        have:=(h z).2 (by simp [hz])
        rcases List.mem_cons.1 this with e | e
        · subst e;have:=hb.1 z hz;omega
        · exact e)
    rw [this]
def xC:List Int→Int→List Int
  | [],n=>[n]
  | x::l,n=>if x < n then x::xC l n else if x=n then x::l else n::x::l
theorem xQ:∀ (l:List Int) (n x:Int),x ∈ xC l n↔x=n∨x ∈ l
  | [],n,x=>by simp [xC]
  | y::l,n,x=>by
    unfold xC
    by_cases h1:y < n
    · rw [if_pos h1,List.mem_cons,List.mem_cons,xQ l n x]
      constructor
      · rintro (h | h | h) <;> simp [h]
      · rintro (h | h | h) <;> simp [h]
    · rw [if_neg h1]
      by_cases h2:y=n
      · rw [if_pos h2];subst h2;simp
      · rw [if_neg h2];simp
theorem tA:∀ (l:List Int) (n:Int),l.Pairwise (· < ·)→(xC l n).Pairwise (· < ·)
  | [],n,_=>by simp [xC]
  | y::l,n,h=>by
    unfold xC
    rw [List.pairwise_cons] at h
    by_cases h1:y < n
    · rw [if_pos h1,List.pairwise_cons]
      exact ⟨fun x hx=>by rcases (xQ l n x).1 hx with e | e;omega;exact h.1 x e,tA l n h.2⟩
    · rw [if_neg h1]
      by_cases h2:y=n
      · rw [if_pos h2,List.pairwise_cons];exact h
      · rw [if_neg h2,List.pairwise_cons]
        exact ⟨fun x hx=>by rcases List.mem_cons.1 hx with e | e;omega;have:=h.1 x e;omega,List.pairwise_cons.2 h⟩
theorem tU:∀ (l:List Int) (n:Int),(xC l n).length≤l.length+1
  | [],n=>by simp [xC]
  | y::l,n=>by
    unfold xC
    split
    · simp [tU l n]
    · split <;> simp
def nP (l:List Int) (n:Int):Nat:=(l.takeWhile (fun x=>decide (x < n))).length
theorem aI1 (l:List Int) (n:Int):nP l n≤l.length:=by
  unfold nP
  induction l with
  | nil=>simp
  | cons x l ih =>
    rw [List.takeWhile_cons]
    split
    · simpa using ih
    · simp
theorem aCQ (x:Int) (l:List Int) (n:Int):nP (x::l) n=if x < n then nP l n+1 else 0:=by
  unfold nP
  rw [List.takeWhile_cons]
  by_cases h:x < n <;> simp [h]
theorem aJA:∀ (l:List Int) (n:Int),xC l n=if l[nP l n]?=some n then l else l.take (nP l n)++[n]++l.drop (nP l n)
  | [],n=>by simp [xC,nP]
  | x::l,n=>by
    rw [aCQ]
    unfold xC
    by_cases h:x < n
    · rw [if_pos h,if_pos h,aJA l n]
      simp only [List.getElem?_cons_succ,List.take_succ_cons,List.drop_succ_cons]
      split <;> simp
    · rw [if_neg h,if_neg h]
      by_cases h2:x=n <;> simp [h2]
theorem aK1 (l:List Int) (n:Int) (h:l.length≤4294967296):lp (fV l n) 0=some ((nP l n:Nat):Int):=by
  have main:∀ m k:Nat,m+k=l.length→lp (fV l n) (k:Int)=some ((k+nP (l.drop k) n:Nat):Int):=by
    intro m
    induction m with
    | zero =>
      intro k hk
      have:k=l.length:=by omega
      subst this
      rw [aN (r:=(l.length:Int)) (by unfold fV;rw [if_neg (by omega)];rfl),List.drop_length];simp [nP]
    | succ m ih =>
      intro k hk
      have hlt:k < l.length:=by omega
      rw [List.drop_eq_getElem_cons hlt,aCQ]
      by_cases c:l[k] < n
      · rw [if_pos c]
        have e:fV l n (k:Int)=some (.inl ((k:Int)+1)):=by
          unfold fV
          rw [if_pos (by omega),aH hlt,wi (by omega)]
          simp [c]
        rw [bF e,show (k:Int)+1=((k+1:Nat):Int) by omega,ih (k+1) (by omega)]
        congr 2;omega
      · rw [if_neg c]
        have e:fV l n (k:Int)=some (.inr (k:Int)):=by
          unfold fV
          rw [if_pos (by omega),aH hlt]
          simp [c]
        rw [aN e];simp
  have:=main l.length 0 (by omega)
  simpa using this
theorem aEM (l:List Int) (n:Int) (h:l.length≤4294967296):jF l n=some (xC l n):=by
  have hf:=aI1 l n
  unfold jF
  rw [aK1 l n h,aJA]
  simp only [Option.bind_some]
  by_cases hlt:nP l n < l.length
  · rw [if_pos (by omega),aH hlt,List.getElem?_eq_getElem hlt]
    simp only [Option.bind_some,decide_eq_true_eq,Option.some.injEq]
    by_cases c:l[nP l n]=n
    · rw [if_pos c,if_pos c]
    · rw [if_neg c,if_neg c,vK _ _ _ (by omega),vK _ _ _ (by omega)]
      simp only [Option.bind_some,aM,List.nil_append]
      rw [aQ (by simp;omega),aQ (by simp;omega),aQ (by simp;omega)]
      simp only [Option.bind_some]
      simp
      rw [List.take_of_length_le (by simp)]
  · have:nP l n=l.length:=by omega
    rw [if_neg (by omega),this,if_neg (by simp)]
    simp only [Option.bind_some,Bool.false_eq_true,if_false]
    rw [vK _ _ _ (by omega),vK _ _ _ (by omega)]
    simp only [Option.bind_some,aM,List.nil_append]
    rw [aQ (by simp;omega),aQ (by simp;omega),aQ (by simp;omega)]
    simp
end Go.Ev
/- The arms of a node of a link set, both programs. -/
namespace Go.Ev
set_option linter.all false
def tV (v:Int) (l:Link):Int:=if l.fA=v then l.fB else l.fA
def tch (v:Int) (l:Link):Bool:=decide (l.fA=v∨l.fB=v)
noncomputable def aBi (v:Int) (l:Link):l08Arm:=if l.fA=v then ⟨l.fB,l.fWeight,RN l.fDX,RN l.fDY⟩ else ⟨l.fA,l.fWeight,l.fDX,l.fDY⟩
noncomputable def bV (v:Int) (s:List Link):List l08Arm:=(s.filter (tch v)).map (aBi v)
theorem aJh (v:Int) (l:Link):(aBi v l).fnode=tV v l:=by unfold aBi tV;split <;> rfl
theorem aGk {s:List Link} (hs:LSet s) (v:Int):((s.filter (tch v)).map (tV v)).Pairwise (· < ·):=by
  rw [List.pairwise_map]
  refine List.Pairwise.imp_of_mem (fun {a b} ha hb hr=>?_) (hs.2.sublist List.filter_sublist)
  rw [List.mem_filter] at ha hb
  have h1:=hs.1 a ha.1
  have h2:=hs.1 b hb.1
  have t1:=ha.2
  have t2:=hb.2
  unfold tch at t1 t2
  rw [decide_eq_true_eq] at t1 t2
  unfold ValidL at h1 h2
  unfold gF at hr
  unfold tV
  split <;> split <;> omega
theorem aM2 {s:List Link} (hs:LSet s) (v:Int):tN s v=some ((s.filter (tch v)).map (tV v)):=by
  have hlen:=hs.len
  unfold tN
  obtain ⟨e1,e2⟩:=iV (step:=nV s v) s (fun k t=>(t,(k:Int))) (fun t l=>if tch v l then xC t (tV v l) else t) (fun t=>t)
    (fun k t=>t.length≤k∧t.Pairwise (· < ·)∧∀ x,x ∈ t↔x ∈ ((s.take k).filter (tch v)).map (tV v)) (fun k t hk hI=>by
      obtain ⟨i1,i2,i3⟩:=hI
      have hv:=hs.1 _ (List.getElem_mem hk)
      have w1:IntKind.i64.wrap ((k:Int)+1)=((k+1:Nat):Int):=by rw [wi (by omega)];omega
      refine ⟨?_,?_,?_,?_⟩
      · unfold nV
        simp only []
        rw [if_pos (by omega),aH hk]
        unfold ValidL at hv
        simp only [Option.bind_some,aEM t _ (by omega:t.length≤4294967296),w1]
        by_cases A:(s[k]).fA=v
        · have B:¬(s[k]).fB=v:=by omega
          simp [A,B,tch,tV]
        · by_cases B:(s[k]).fB=v
          · rw [if_neg A]
            simp only [Option.bind_some]
            rw [if_pos B,aEM t _ (by omega:t.length≤4294967296)]
            simp [A,B,tch,tV]
          · simp [A,B,tch,tV]
      · have:=tU t (tV v s[k])
        split <;> omega
      · split
        · exact tA _ _ i2
        · exact i2
      · intro x
        have tk:s.take (k+1)=s.take k++[s[k]]:=by rw [List.take_add_one,List.getElem?_eq_getElem hk];rfl
        rw [tk,List.filter_append,List.map_append,List.mem_append,← i3 x]
        by_cases T:tch v s[k]=true
        · simp only [T,if_true,xQ,List.filter_cons_of_pos,List.filter_nil,List.map_cons,List.map_nil,List.mem_singleton]
          exact Or.comm
        · simp [T]) (fun t _=>by unfold nV;simp only [];rw [if_neg (by omega)]) [] ⟨by simp,List.Pairwise.nil,by simp⟩
  rw [show ((0:Nat):Int)=0 from rfl] at e1
  rw [e1]
  simp only [Option.bind_some]
  congr 1
  obtain ⟨_,g2,g3⟩:=e2
  rw [List.take_length] at g3
  exact zY g2 (aGk hs v) g3
theorem LSet.uniq {s:List Link} (hs:LSet s) {a b:Link} (ha:a ∈ s) (hb:b ∈ s) (h1:a.fA=b.fA) (h2:a.fB=b.fB):a=b:=by
  obtain ⟨i,hi,rfl⟩:=List.getElem_of_mem ha
  obtain ⟨j,hj,rfl⟩:=List.getElem_of_mem hb
  have pw:=List.pairwise_iff_getElem.1 hs.2
  rcases Nat.lt_trichotomy i j with h | h | h
  · have:=pw i j hi hj h;unfold gF at this;omega
  · subst h;rfl
  · have:=pw j i hj hi h;unfold gF at this;omega
theorem aM5 (p q r t:Prop) [Decidable p] [Decidable q] [Decidable r] [Decidable t]:((if p then (if q then some true else (if r then some (decide t) else some false)) else (if r then some (decide t) else some false)):Option Bool)=some (decide ((p∧q)∨(r∧t))):=by
  by_cases p <;> by_cases q <;> by_cases r <;> by_cases t <;> simp [*]
theorem aLL {s:List Link} (hs:LSet s) {v:Int} {l:Link} (hl:l ∈ s) (ht:tch v l=true):wE s (tV v l) v=some (l,true):=by
  have hlen:=hs.len
  have hv:=hs.1 l hl
  unfold wE
  rw [lL s (by have:=hs.sz;omega),decide_eq_true hs]
  simp only [Option.bind_some,if_true]
  obtain ⟨r,e,q⟩:=aKf (step:=pP s (tV v l) v) s.length (fun r=>r=.inr (l,true)) (fun k=>l ∈ s.drop k) (by simpa using hl) (fun k hk hj=>by
    have hx:=hs.1 _ (List.getElem_mem hk)
    have w1:IntKind.i64.wrap ((k:Int)+1)=((k+1:Nat):Int):=by rw [wi (by omega)];omega
    rw [List.drop_eq_getElem_cons hk] at hj
    have st:pP s (tV v l) v (k:Int)=some (if (((s[k]).fA=tV v l∧(s[k]).fB=v)∨((s[k]).fA=v∧(s[k]).fB=tV v l)) then .inr (.inr (s[k],true)) else .inl ((k+1:Nat):Int)):=by
      unfold pP
      rw [if_pos (by omega),aH hk]
      simp only [Option.bind_some,w1,tO s[k] (by have:=hx.sz;omega)]
      rw [aM5]
      simp only [Option.bind_some]
      by_cases c:((s[k]).fA=tV v l∧(s[k]).fB=v)∨((s[k]).fA=v∧(s[k]).fB=tV v l)
      · rw [if_pos c,decide_eq_true c];rfl
      · rw [if_neg c,decide_eq_false c];rfl
    unfold tch at ht
    rw [decide_eq_true_eq] at ht
    unfold ValidL at hx hv
    by_cases c:((s[k]).fA=tV v l∧(s[k]).fB=v)∨((s[k]).fA=v∧(s[k]).fB=tV v l)
    · rw [if_pos c] at st
      right
      refine ⟨_,st,?_⟩
      have:s[k]=l:=by
        refine hs.uniq (List.getElem_mem hk) hl ?_ ?_
        · unfold tV at c;split at c <;> omega
        · unfold tV at c;split at c <;> omega
      rw [this]
    · rw [if_neg c] at st
      left
      refine ⟨st,?_⟩
      rcases List.mem_cons.1 hj with e | e
      · exfalso;apply c
        rw [← e];unfold tV;split <;> omega
      · exact e) (fun hj=>by rw [List.drop_length] at hj;cases hj)
  rw [e,q];rfl
theorem aMN {r:Rat} (h:VZ r):VZ (RN r):=(aLK h).2.2
def wQ (a:l08Arm):Prop:=(0≤a.fnode∧a.fnode≤9)∧VZ a.fweight∧VZ a.fdx∧VZ a.fdy
theorem aIg {v:Int} {l:Link} (h:ValidL l):wQ (aBi v l):=by
  obtain ⟨h1,h2,h3⟩:=h.vz
  unfold aBi
  split
  · exact ⟨h.2.1,h1,aMN h2,aMN h3⟩
  · exact ⟨h.1,h1,h2,h3⟩
theorem aFF {s:List Link} (hs:LSet s) (v:Int):∀ a ∈ bV v s,wQ a:=by
  intro a ha
  obtain ⟨l,hl,rfl⟩:=List.mem_map.1 ha
  exact aIg (hs.1 l (List.mem_filter.1 hl).1)
theorem aBz {s:List Link} (hs:LSet s) (v:Int):(bV v s).length≤100:=by
  have:=hs.len
  have:=List.length_filter_le (tch v) s
  unfold bV
  rw [List.length_map];omega
theorem aKB {s:List Link} (hs:LSet s) (v:Int):((bV v s).map (·.fnode)).Pairwise (· < ·):=by
  have:=aGk hs v
  unfold bV
  rw [List.map_map]
  have e:(fun a:l08Arm=>a.fnode) ∘ aBi v=tV v:=by funext l;exact aJh v l
  rw [e];exact this
theorem aM9 {s:List Link} (hs:LSet s) (v:Int):tM s v=some (bV v s):=by
  have hal:=aBz hs v
  unfold tM
  rw [aM2 hs v]
  simp only [Option.bind_some]
  have hfl:((s.filter (tch v)).map (tV v)).length=(bV v s).length:=by unfold bV;rw [List.length_map,List.length_map]
  have:=zI (step:=nU s v ((s.filter (tch v)).map (tV v))) (bV v s) (fun k t=>((k:Int),t)) (fun t=>t) (fun k t hk ht=>by
    have hk2:k < (s.filter (tch v)).length:=by unfold bV at hk;rwa [List.length_map] at hk
    have hk3:k < ((s.filter (tch v)).map (tV v)).length:=by rwa [List.length_map]
    have hm:=List.mem_filter.1 (List.getElem_mem hk2)
    have w1:IntKind.i64.wrap ((k:Int)+1)=((k+1:Nat):Int):=by rw [wi (by omega)];omega
    have hv:=hs.1 _ hm.1
    obtain ⟨v1,v2,v3⟩:=hv.vz
    have g:=aLL hs hm.1 hm.2
    have ea:(bV v s)[k]=aBi v (s.filter (tch v))[k]:=by simp only [bV,List.getElem_map]
    unfold nU
    simp only []
    rw [if_pos (by omega),aH hk3,List.getElem_map]
    simp only [Option.bind_some,g,(aLK v2).1,(aLK v3).1,w1]
    rw [ea]
    unfold aBi
    by_cases A:((s.filter (tch v))[k]).fA=v
    · rw [if_pos A,if_pos A]
      simp only [Option.bind_some,tV,A,if_true]
      rw [aQ (by omega)];rfl
    · rw [if_neg A,if_neg A]
      simp only [Option.bind_some,tV,A,if_false]
      rw [aQ (by omega)];rfl) (fun t ht=>by unfold nU;simp only [];rw [if_neg (by omega)])
  rw [show ((0:Nat):Int)=0 from rfl] at this
  rw [this];rfl
end Go.Ev
