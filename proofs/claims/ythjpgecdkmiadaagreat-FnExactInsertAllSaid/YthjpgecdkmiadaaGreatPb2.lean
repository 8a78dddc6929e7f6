/- Parts PQ6, PQ8, PH, PQ9, PR1, P20, PR2, PR3, PV, PR4. -/
import Derived.Test.YthjpgecdkmiadaaGreatPb1
import Derived.Test.YthjpgecdkmiadaaGreatPa1
import Derived.Test.YthjpgecdkmiadaaGreatLd
set_option linter.all false
/- Whole numbers and fractions; both programs. -/
namespace Go.Ev
set_option linter.all false
def xI (x:BigInt):Prop:=uX x.fMag∧(x.fNeg=true→x.fMag≠[])
instance (x:BigInt):Decidable (xI x):=by unfold xI;infer_instance
theorem aL8 (x:BigInt) (h:x.fMag.length≤4294967296):sQ x=some (decide (xI x)):=by
  unfold sQ
  rw [aIz _ h]
  simp only [Option.bind_some]
  by_cases c:uX x.fMag
  · rw [decide_eq_true c]
    simp only [if_true]
    cases hn:x.fNeg with
    | true =>
      simp only [if_true]
      by_cases e:x.fMag=[]
      · rw [decide_eq_false (fun g:xI x=>g.2 hn e),e];rfl
      · have:x.fMag.length≠0:=fun g=>e (List.length_eq_zero_iff.1 g)
        have hb:xI x:=⟨c,fun _=>e⟩
        rw [decide_eq_true hb,decide_eq_false (by omega)];rfl
    | false =>
      have hb:xI x:=⟨c,fun g=>by rw [hn] at g;cases g⟩
      rw [decide_eq_true hb];rfl
  · rw [decide_eq_false c,decide_eq_false (fun g:xI x=>c g.1)];rfl
theorem aL7 (x:BigInt) (h:x.fMag.length≤4294967296):sA x=some (decide (xI x)):=by
  unfold sA
  rw [aFQ _ h]
  simp only [Option.bind_some]
  by_cases c:uX x.fMag
  · rw [decide_eq_true c]
    simp only [if_true]
    cases hn:x.fNeg with
    | true =>
      simp only [if_true]
      by_cases e:x.fMag=[]
      · rw [decide_eq_false (fun g:xI x=>g.2 hn e),e];rfl
      · have:x.fMag.length≠0:=fun g=>e (List.length_eq_zero_iff.1 g)
        have hb:xI x:=⟨c,fun _=>e⟩
        rw [decide_eq_true hb,decide_eq_true (by omega)]
    | false =>
      have hb:xI x:=⟨c,fun g=>by rw [hn] at g;cases g⟩
      rw [decide_eq_true hb];rfl
  · rw [decide_eq_false c,decide_eq_false (fun g:xI x=>c g.1)];rfl
def aLR (x:BigInt):Int:=if x.fNeg=true then -(val x.fMag:Int) else (val x.fMag:Int)
theorem aFJ (x:BigInt):(aLR x).natAbs=val x.fMag:=by unfold aLR;split <;> omega
theorem aNb {x:BigInt} (h:xI x):x=big (aLR x):=by
  obtain ⟨neg,mag⟩:=x
  unfold big
  rw [aFJ]
  have e:=nQ h.1
  simp only [] at e ⊢
  rw [← e]
  congr 1
  unfold aLR
  cases neg with
  | true =>
    have:val mag≠0:=fun z=>h.2 rfl (by simp only [] at e ⊢;rw [e,z,bM])
    simp only [if_true]
    rw [decide_eq_true (by omega)]
  | false=>simp
theorem aGW (n m:Int):((!(decide (n < 0) == decide (m < 0)))&&decide (n.natAbs*m.natAbs≠0))=decide (n*m < 0):=by
  rw [← Int.natAbs_mul]
  rcases Int.lt_trichotomy n 0 with h1 | h1 | h1
  · rcases Int.lt_trichotomy m 0 with h2 | h2 | h2
    · have:=Int.mul_pos_of_neg_of_neg h1 h2
      rw [decide_eq_true h1,decide_eq_true h2,decide_eq_false (show ¬n*m < 0 by omega)];rfl
    · subst h2;simp
    · have:=Int.mul_neg_of_neg_of_pos h1 h2
      rw [decide_eq_true h1,decide_eq_false (show ¬m < 0 by omega),decide_eq_true (show (n*m).natAbs≠0 by omega),decide_eq_true this];rfl
  · subst h1;simp
  · rcases Int.lt_trichotomy m 0 with h2 | h2 | h2
    · have:=Int.mul_neg_of_pos_of_neg h1 h2
      rw [decide_eq_false (show ¬n < 0 by omega),decide_eq_true h2,decide_eq_true (show (n*m).natAbs≠0 by omega),decide_eq_true this];rfl
    · subst h2;simp
    · have:=Int.mul_pos h1 h2
      rw [decide_eq_false (show ¬n < 0 by omega),decide_eq_false (show ¬m < 0 by omega),decide_eq_false (show ¬n*m < 0 by omega)];rfl
theorem aAA (n:Int):(big n).fMag=aA n.natAbs:=rfl
theorem aAz (n:Int):(big n).fNeg=decide (n < 0):=rfl
def bl (n:Int):Nat:=(aA n.natAbs).length
theorem aAy (n m:Int):bl (n*m)≤bl n+bl m:=by unfold bl;rw [Int.natAbs_mul];exact eI _ _
theorem aJl (n m:Int):bl (n+m)≤max (bl n) (bl m)+1:=by
  unfold bl
  exact Nat.le_trans (fI (Int.natAbs_add_le n m) (Nat.le_refl _)) (aFC _ _)
theorem yG (n m:Int) (hn:bl n≤60) (hm:bl m≤60) (h:bl (n*m)≤60):iN (big n) (big m)=some (big (n*m)):=by
  unfold iN
  unfold bl at *
  rw [Int.natAbs_mul] at h
  simp only [big]
  rw [(oQ n.natAbs m.natAbs (by omega) (by omega)).2]
  simp only [Option.bind_some]
  rw [vL _ _ h]
  simp only [Option.bind_some]
  rw [aGW,Int.natAbs_mul]
theorem aGu (n:Int) (d:Nat) (h:(aA (n.natAbs*d)).length≤60):cQ (decide (n < 0)) (aA (n.natAbs*d))=some (big (n*d)):=by
  rw [rG _ _ h]
  have:=aGW n (d:Int)
  rw [decide_eq_false (show ¬((d:Int) < 0) by omega)] at this
  simp only [Int.natAbs_natCast] at this
  unfold big
  rw [← this]
  simp only [Int.natAbs_mul,Int.natAbs_natCast]
  congr 2
  cases decide (n < 0) <;> rfl
theorem aJ5 (n m:Int) (h:(decide (n < 0) == decide (m < 0))=true):(n+m).natAbs=n.natAbs+m.natAbs∧(decide (n < 0)&&decide ((n+m).natAbs≠0))=decide (n+m < 0):=by
  by_cases c1:n < 0
  · by_cases c2:m < 0
    · refine ⟨by omega,?_⟩
      rw [decide_eq_true c1,decide_eq_true (by omega),decide_eq_true (by omega)];rfl
    · simp [c1,c2] at h
  · by_cases c2:m < 0
    · simp [c1,c2] at h
    · refine ⟨by omega,?_⟩
      rw [decide_eq_false c1,decide_eq_false (show ¬(n+m < 0) by omega)];rfl
theorem aEp (n m:Int) (h:¬(decide (n < 0) == decide (m < 0))=true) (hle:m.natAbs≤n.natAbs):(n+m).natAbs=n.natAbs - m.natAbs∧(decide (n < 0)&&decide ((n+m).natAbs≠0))=decide (n+m < 0):=by
  by_cases c1:n < 0
  · by_cases c2:m < 0
    · simp [c1,c2] at h
    · refine ⟨by omega,?_⟩
      rw [decide_eq_true c1,Bool.true_and]
      exact decide_eq_decide.2 (by omega)
  · by_cases c2:m < 0
    · refine ⟨by omega,?_⟩
      rw [decide_eq_false c1,decide_eq_false (show ¬(n+m < 0) by omega)];rfl
    · simp [c1,c2] at h
theorem aLS (n m:Int) (hn:bl n≤60) (hm:bl m≤60) (h:bl (n+m)≤60):wS (big n) (big m)=some (big (n+m)):=by
  unfold wS
  unfold bl at *
  by_cases c:(decide (n < 0) == decide (m < 0))=true
  · obtain ⟨e1,e2⟩:=aJ5 n m c
    rw [if_pos (show ((big n).fNeg == (big m).fNeg)=true from c)]
    simp only [aAA,aAz]
    rw [aLp _ _ (by omega) (by omega)]
    simp only [Option.bind_some]
    rw [← e1,vL _ _ h,e2];rfl
  · rw [if_neg (show ¬((big n).fNeg == (big m).fNeg)=true from c)]
    simp only [aAA,aAz]
    rw [aE3 _ _ (by omega) (by omega)]
    simp only [Option.bind_some]
    by_cases c2:m.natAbs≤n.natAbs
    · obtain ⟨e1,e2⟩:=aEp n m c c2
      have c3:0≤sS n.natAbs m.natAbs:=by unfold sS;rw [if_neg (by omega)];split <;> omega
      rw [if_pos c3,(zE _ _ (by omega) c2).2]
      simp only [Option.bind_some]
      rw [← e1,vL _ _ h,e2];rfl
    · obtain ⟨e1,e2⟩:=aEp m n (by rw [Bool.beq_comm];exact c) (by omega)
      have c3:¬0≤sS n.natAbs m.natAbs:=by unfold sS;rw [if_pos (by omega)];omega
      rw [if_neg c3,(zE _ _ (by omega) (by omega)).2]
      simp only [Option.bind_some]
      rw [← e1,Int.add_comm m n] at *
      rw [vL _ _ h,e2];rfl
theorem aH3 (n m:Int) (hn:bl n≤60) (hm:bl m≤60) (h:bl (n+m)≤60):tD (big n) (big m)=some (big (n+m)):=by
  unfold tD
  unfold bl at *
  by_cases c:(decide (n < 0) == decide (m < 0))=true
  · obtain ⟨e1,e2⟩:=aJ5 n m c
    rw [if_pos (show ((big n).fNeg == (big m).fNeg)=true from c)]
    simp only [aAA,aAz]
    rw [aH5 _ _ (by omega) (by omega)]
    simp only [Option.bind_some]
    rw [← e1,rG _ _ h,e2];rfl
  · rw [if_neg (show ¬((big n).fNeg == (big m).fNeg)=true from c)]
    simp only [aAA,aAz]
    rw [aBk _ _ (by omega) (by omega)]
    simp only [Option.bind_some]
    by_cases c2:m.natAbs≤n.natAbs
    · obtain ⟨e1,e2⟩:=aEp n m c c2
      have c3:0≤sS n.natAbs m.natAbs:=by unfold sS;rw [if_neg (by omega)];split <;> omega
      rw [if_pos c3,(zE _ _ (by omega) c2).1]
      simp only [Option.bind_some]
      rw [← e1,rG _ _ h,e2];rfl
    · obtain ⟨e1,e2⟩:=aEp m n (by rw [Bool.beq_comm];exact c) (by omega)
      have c3:¬0≤sS n.natAbs m.natAbs:=by unfold sS;rw [if_pos (by omega)];omega
      rw [if_neg c3,(zE _ _ (by omega) (by omega)).1]
      simp only [Option.bind_some]
      rw [← e1,Int.add_comm m n] at *
      rw [rG _ _ h,e2];rfl
def pQ:Rat:=Rat.mk (BigInt.mk false []) []
def mkR (s:Bool) (x y:Nat):Rat :=
  if y=0 then pQ else if 24 < (aA (x / Nat.gcd x y)).length∨24 < (aA (y / Nat.gcd x y)).length then pQ
  else ⟨⟨s&&decide (x / Nat.gcd x y≠0),aA (x / Nat.gcd x y)⟩,aA (y / Nat.gcd x y)⟩
theorem aMa:aS pQ≤48:=by decide
theorem aJW {x y:Nat} (hx:(aA x).length≤700) (hy:(aA y).length≤700):(aA (Nat.gcd x y)).length≤700:=by
  by_cases c:x=0
  · subst c;rw [Nat.gcd_zero_left];exact hy
  · exact Nat.le_trans (fI (Nat.gcd_le_left y (Nat.pos_of_ne_zero c)) (Nat.le_refl _)) hx
theorem aDm (s t:Bool) (x y:Nat) (hx:(aA x).length≤60) (hy:(aA y).length≤60):nW ⟨s,aA x⟩ ⟨t,aA y⟩=some (mkR (!(s == t)) x y):=by
  unfold nW mkR
  simp only []
  by_cases c:y=0
  · rw [if_pos c,if_pos (by rw [c,bM];rfl)];rfl
  · have hl:(aA y).length≠0:=fun e=>dZ c (List.length_eq_zero_iff.1 e)
    have hg:=aJW (x:=x) (y:=y) (by omega) (by omega)
    have hg0:0 < Nat.gcd x y:=Nat.gcd_pos_of_pos_right x (Nat.pos_of_ne_zero c)
    rw [if_neg c,if_neg (by omega),aHV x y (by omega) (by omega)]
    simp only [Option.bind_some]
    rw [aE2 x _ hg0 (by omega) hg,aE2 y _ hg0 (by omega) hg]
    simp only [Option.bind_some]
    have l1:=aMw x (Nat.gcd x y)
    by_cases c1:24 < (aA (x / Nat.gcd x y)).length
    · rw [if_pos (by omega),if_pos (.inl c1)];rfl
    · rw [if_neg (by omega)]
      by_cases c2:24 < (aA (y / Nat.gcd x y)).length
      · rw [if_pos (.inr c2),decide_eq_true (by omega)];rfl
      · rw [if_neg (by omega),decide_eq_false (by omega)]
        simp only [Option.bind_some,Bool.false_eq_true,if_false]
        rw [vL _ _ (by omega)];rfl
theorem vE:([1]:List Int)=aA 1:=by rw [uR (by rw [dO];omega) (by omega)];rfl
theorem aGK (x:Nat):iC (aA x)=some (decide (x=1)):=by
  unfold iC
  by_cases c:x=1
  · subst c;rw [← vE];simp [idx]
  · rw [decide_eq_false c]
    by_cases h:(aA x).length=1
    · have hx:x < BB:=by have:=pP x;rw [h,Nat.pow_one] at this;exact this
      have h0:x≠0:=by rintro rfl;rw [bM] at h;simp at h
      rw [if_pos (by omega),show (0:Int)=((0:Nat):Int) from rfl,aI (by omega)]
      simp only [uR hx h0,List.getElem_cons_zero,Option.bind_some]
      rw [decide_eq_false (by omega)]
    · rw [if_neg (by omega)]
theorem aC8 (s:Bool) (x y:Nat) (hx:(aA x).length≤60) (hy:(aA y).length≤60):nG s (aA x) (aA y)=some (mkR s x y):=by
  unfold nG mkR
  rw [aAe (eB x) (by omega),aAe (eB y) (by omega),dG,dG]
  simp only [Option.bind_some]
  by_cases c:y=0
  · rw [if_pos c,if_pos (by rw [c,bM];rfl)];rfl
  · have hl:(aA y).length≠0:=fun e=>dZ c (List.length_eq_zero_iff.1 e)
    have hg:=aJW (x:=x) (y:=y) (by omega) (by omega)
    have hg0:0 < Nat.gcd x y:=Nat.gcd_pos_of_pos_right x (Nat.pos_of_ne_zero c)
    rw [if_neg c,if_neg (by omega),aGK]
    simp only [Option.bind_some]
    have key:((if decide (y=1)=true then some (aA x,aA y) else (qI (aA x) (aA y)).bind fun r4=>(iC r4).bind fun r5=>(if r5=true then some (aA x,aA y) else (kP (aA x) r4).bind fun r6=>(kP (aA y) r4).bind fun r7=>some (r6.1,r7.1))):Option ((List Int) × (List Int)))=some (aA (x / Nat.gcd x y),aA (y / Nat.gcd x y)):=by
      by_cases c1:y=1
      · rw [decide_eq_true c1,if_pos rfl,c1,Nat.gcd_one_right,Nat.div_one,Nat.div_one]
      · rw [decide_eq_false c1,if_neg (by simp),aH4 x y (by omega) (by omega)]
        simp only [Option.bind_some]
        rw [aGK]
        simp only [Option.bind_some]
        by_cases c2:Nat.gcd x y=1
        · rw [decide_eq_true c2,if_pos rfl,c2,Nat.div_one,Nat.div_one]
        · rw [decide_eq_false c2,if_neg (by simp),aFn x _ hg0 (by omega) hg,aFn y _ hg0 (by omega) hg];rfl
    rw [key]
    simp only [Option.bind_some]
    by_cases c1:24 < (aA (x / Nat.gcd x y)).length
    · rw [if_pos (by omega),if_pos (.inl c1)];rfl
    · rw [if_neg (by omega)]
      by_cases c2:24 < (aA (y / Nat.gcd x y)).length
      · rw [if_pos (.inr c2),decide_eq_true (by omega)];rfl
      · rw [if_neg (by omega),decide_eq_false (by omega)]
        simp only [Option.bind_some,Bool.false_eq_true,if_false]
        rw [rG _ _ (by omega)]
        simp only [Option.bind_some]
        rw [aQ (by simp;omega)]
        simp only [Option.bind_some,aO,List.nil_append]
def bR (r:Rat):Prop:=xI r.fNum∧uX r.fDen∧r.fDen≠[]∧r.fDen.length≤24∧r.fNum.fMag.length≤24∧Nat.gcd (val r.fNum.fMag) (val r.fDen)=1
instance (r:Rat):Decidable (bR r):=by unfold bR;infer_instance
theorem aK2 (r:Rat) (h:aS r≤4294967296):r.fNum.fMag.length≤4294967296∧r.fDen.length≤4294967296:=by
  unfold aS dH gB at h
  simp only [rS] at h;omega
theorem aBw (r:Rat) (h:aS r≤4294967296):nZ r=some (decide (bR r)):=by
  obtain ⟨h1,h2⟩:=aK2 r h
  unfold nZ
  rw [aL8 _ h1]
  simp only [Option.bind_some]
  by_cases c1:xI r.fNum
  · rw [decide_eq_true c1,if_pos rfl,aIz _ h2]
    simp only [Option.bind_some]
    by_cases c2:uX r.fDen
    · rw [decide_eq_true c2,if_pos rfl]
      simp only [Option.bind_some]
      by_cases c3:r.fDen=[]
      · rw [decide_eq_false (fun g:bR r=>g.2.2.1 c3),decide_eq_true (by rw [c3];rfl)];rfl
      · have hn:r.fDen.length≠0:=fun e=>c3 (List.length_eq_zero_iff.1 e)
        rw [decide_eq_false (show ¬((r.fDen.length:Int)=0) by omega)]
        simp only [Bool.false_eq_true,if_false]
        by_cases c4:24 < r.fNum.fMag.length
        · rw [if_pos (by omega),decide_eq_false (fun g:bR r=>by have:=g.2.2.2.2.1;omega)];rfl
        · rw [if_neg (by omega)]
          by_cases c5:24 < r.fDen.length
          · rw [decide_eq_true (show (24:Int) < r.fDen.length by omega),decide_eq_false (fun g:bR r=>by have:=g.2.2.2.1;omega)];rfl
          · rw [decide_eq_false (show ¬(24:Int) < r.fDen.length by omega)]
            simp only [Option.bind_some,Bool.false_eq_true,if_false]
            have e1:=nQ c1.1
            have e2:=nQ c2
            have g:=aHV (val r.fNum.fMag) (val r.fDen) (by rw [← e1];omega) (by rw [← e2];omega)
            rw [← e1,← e2] at g
            rw [g]
            have o:=aGK (Nat.gcd (val r.fNum.fMag) (val r.fDen))
            unfold iC at o
            simp only [Option.bind_some]
            rw [o]
            congr 1
            exact decide_eq_decide.2 ⟨fun q=>⟨c1,c2,c3,by omega,by omega,q⟩,fun q=>q.2.2.2.2.2⟩
    · rw [decide_eq_false c2,decide_eq_false (fun g:bR r=>c2 g.2.1)];rfl
  · rw [decide_eq_false c1,decide_eq_false (fun g:bR r=>c1 g.1)];rfl
theorem fJ (r:Rat) (h:aS r≤4294967296):cH r=some (decide (bR r)):=by
  obtain ⟨h1,h2⟩:=aK2 r h
  unfold cH
  rw [aL7 _ h1]
  simp only [Option.bind_some]
  by_cases c1:xI r.fNum
  · rw [decide_eq_true c1,if_pos rfl,aFQ _ h2]
    simp only [Option.bind_some]
    by_cases c2:uX r.fDen
    · rw [decide_eq_true c2,if_pos rfl]
      by_cases c3:r.fDen=[]
      · rw [decide_eq_false (fun g:bR r=>g.2.2.1 c3),if_pos (by rw [c3];rfl)];rfl
      · have hn:r.fDen.length≠0:=fun e=>c3 (List.length_eq_zero_iff.1 e)
        rw [if_neg (by omega)]
        by_cases c5:24 < r.fDen.length
        · rw [if_pos (by omega),decide_eq_false (fun g:bR r=>by have:=g.2.2.2.1;omega)];rfl
        · rw [if_neg (by omega)]
          by_cases c4:24 < r.fNum.fMag.length
          · rw [decide_eq_true (show (24:Int) < r.fNum.fMag.length by omega),decide_eq_false (fun g:bR r=>by have:=g.2.2.2.2.1;omega)];rfl
          · rw [decide_eq_false (show ¬(24:Int) < r.fNum.fMag.length by omega)]
            simp only [Option.bind_some,Bool.false_eq_true,if_false]
            have e1:=nQ c1.1
            have e2:=nQ c2
            have g:=aH4 (val r.fNum.fMag) (val r.fDen) (by rw [← e1];omega) (by rw [← e2];omega)
            rw [← e1,← e2] at g
            rw [g]
            simp only [Option.bind_some]
            rw [aGK]
            simp only [Option.bind_some]
            congr 1
            exact decide_eq_decide.2 ⟨fun q=>⟨c1,c2,c3,by omega,by omega,q⟩,fun q=>q.2.2.2.2.2⟩
    · rw [decide_eq_false c2,decide_eq_false (fun g:bR r=>c2 g.2.1)];rfl
  · rw [decide_eq_false c1,decide_eq_false (fun g:bR r=>c1 g.1)];rfl
theorem aAk {r:Rat} (h:bR r):∃ (n:Int) (d:Nat),r=⟨big n,aA d⟩∧0 < d∧bl n≤24∧(aA d).length≤24∧Nat.gcd n.natAbs d=1:=by
  obtain ⟨h1,h2,h3,h4,h5,h6⟩:=h
  have e1:=aNb h1
  have e2:=nQ h2
  refine ⟨aLR r.fNum,val r.fDen,?_,?_,?_,by rw [← e2];exact h4,by rw [aFJ];exact h6⟩
  · rw [← e1,← e2]
  · rcases Nat.eq_zero_or_pos (val r.fDen) with z | z
    · rw [z,bM] at e2;exact absurd e2 h3
    · exact z
  · unfold bl;rw [aFJ,← nQ h1.1];exact h5
theorem aBM (d:Nat):(⟨false,aA d⟩:BigInt)=big (d:Int):=by
  unfold big
  rw [decide_eq_false (by omega),Int.natAbs_natCast]
theorem aCs {n:Int} {d:Nat} (h:0 < d):dY ⟨big n,aA d⟩=some true:=by
  unfold dY
  have:(aA d).length≠0:=fun e=>dZ (n:=d) (by omega) (List.length_eq_zero_iff.1 e)
  simp only []
  rw [decide_eq_true (by omega)]
def aKK (n:Int) (d:Nat) (m:Int) (e:Nat):Rat:=mkR (decide (n*e+m*d < 0)) (n*e+m*d).natAbs (d*e)
theorem aHP (n:Int) (d:Nat) (m:Int) (e:Nat) (hd:0 < d) (he:0 < e) (h1:bl n≤24) (h2:(aA d).length≤24) (h3:bl m≤24) (h4:(aA e).length≤24):cS ⟨big n,aA d⟩ ⟨big m,aA e⟩=some (aKK n d m e):=by
  unfold cS
  rw [aCs hd,aCs he]
  simp only [Option.bind_some,if_true,Bool.not_true,Bool.false_eq_true,if_false,gZ]
  have b1:bl (e:Int)≤24:=by unfold bl;rw [Int.natAbs_natCast];exact h4
  have b2:bl (d:Int)≤24:=by unfold bl;rw [Int.natAbs_natCast];exact h2
  have b3:=aAy n e
  have b4:=aAy m d
  have b5:=aJl (n*e) (m*d)
  have b6:=aAy d e
  rw [aBM,aBM,yG n e (by omega) (by omega) (by omega),yG m d (by omega) (by omega) (by omega)]
  simp only [Option.bind_some]
  rw [aLS _ _ (by omega) (by omega) (by omega),yG d e (by omega) (by omega) (by omega)]
  simp only [Option.bind_some]
  unfold big aKK
  unfold bl at b5 b6 b1 b2 b3 b4 h1 h3
  rw [aDm _ _ _ _ (by omega) (by omega)]
  have:decide ((d:Int)*(e:Int) < 0)=false:=decide_eq_false (by have:=Int.mul_nonneg (a:=(d:Int)) (b:=(e:Int)) (by omega) (by omega);omega)
  rw [this,Int.natAbs_mul,Int.natAbs_natCast,Int.natAbs_natCast]
  simp only [Option.bind_some]
  congr 2
  cases decide (n*(e:Int)+m*(d:Int) < 0) <;> rfl
theorem aLy (n:Int) (d:Nat) (m:Int) (e:Nat) (hd:0 < d) (he:0 < e) (h1:bl n≤24) (h2:(aA d).length≤24) (h3:bl m≤24) (h4:(aA e).length≤24):qG ⟨big n,aA d⟩ ⟨big m,aA e⟩=some (aKK n d m e):=by
  have b1:bl (e:Int)≤24:=by unfold bl;rw [Int.natAbs_natCast];exact h4
  have b2:bl (d:Int)≤24:=by unfold bl;rw [Int.natAbs_natCast];exact h2
  have b3:=aAy n e
  have b4:=aAy m d
  have b5:=aJl (n*e) (m*d)
  have b7:=aJl n m
  have b6:=eI d e
  unfold qG
  simp only []
  rw [aGK,aGK]
  simp only [Option.bind_some]
  have key:((if decide (d=1)=true then some (decide (e=1)) else some false):Option Bool)=some (decide (d=1∧e=1)):=by
    by_cases c:d=1 <;> simp [c]
  rw [key]
  simp only [Option.bind_some]
  by_cases c:d=1∧e=1
  · rw [decide_eq_true c,if_pos rfl,aH3 n m (by omega) (by omega) (by omega)]
    simp only [Option.bind_some]
    obtain ⟨c1,c2⟩:=c
    unfold aKK
    rw [vE]
    unfold bl at b7 h1 h3
    simp only [big]
    rw [aC8 _ _ _ (by omega) (by rw [← vE];simp),c1,c2]
    simp
  · rw [decide_eq_false c,if_neg (by simp)]
    have p1:(aA (n.natAbs*e)).length≤48:=by have:=eI n.natAbs e;unfold bl at h1;omega
    have p2:(aA (m.natAbs*d)).length≤48:=by have:=eI m.natAbs d;unfold bl at h3;omega
    have q1:dA (big n).fMag (aA e)=some (aA (n.natAbs*e)):=by unfold bl at h1;exact (oQ n.natAbs e (by omega) (by omega)).1
    have q2:dA (big m).fMag (aA d)=some (aA (m.natAbs*d)):=by unfold bl at h3;exact (oQ m.natAbs d (by omega) (by omega)).1
    have q3:cQ (big n).fNeg (aA (n.natAbs*e))=some (big (n*e)):=aGu n e (by omega)
    have q4:cQ (big m).fNeg (aA (m.natAbs*d))=some (big (m*d)):=aGu m d (by omega)
    rw [q1]
    simp only [Option.bind_some]
    rw [q3]
    simp only [Option.bind_some]
    rw [q2]
    simp only [Option.bind_some]
    rw [q4]
    simp only [Option.bind_some]
    rw [aH3 _ _ (by omega) (by omega) (by omega)]
    simp only [Option.bind_some]
    rw [(oQ d e (by omega) (by omega)).1]
    simp only [Option.bind_some]
    unfold aKK
    unfold bl at b5 b3 b4 h1 h3 b1 b2
    simp only [big]
    rw [aC8 _ _ _ (by omega) (by omega)];rfl
end Go.Ev
/- Fractions: the interface that both programs meet. -/
namespace Go.Ev
set_option linter.all false
def VZ (r:Rat):Prop:=bR r∨r=pQ
theorem aAU:¬bR pQ:=fun h=>h.2.2.1 rfl
theorem aBV:VZ pQ:=.inr rfl
theorem qB {r:Rat} (h:VZ r):aS r≤48:=by
  rcases h with h | h
  · unfold aS dH gB
    simp only [rS]
    have h1:=h.2.2.2.1
    have h2:=h.2.2.2.2.1
    omega
  · subst h;exact aMa
theorem aFB {n:Nat} (h:0 < n):aA n≠[]:=dZ (by omega)
theorem aIY (s:Bool) (x y:Nat):VZ (mkR s x y):=by
  unfold mkR
  by_cases c:y=0
  · rw [if_pos c];exact aBV
  · rw [if_neg c]
    by_cases c2:24 < (aA (x / Nat.gcd x y)).length∨24 < (aA (y / Nat.gcd x y)).length
    · rw [if_pos c2];exact aBV
    · rw [if_neg c2]
      left
      have hg0:0 < Nat.gcd x y:=Nat.gcd_pos_of_pos_right x (Nat.pos_of_ne_zero c)
      have hy:0 < y / Nat.gcd x y:=Nat.div_pos (Nat.gcd_le_right x (Nat.pos_of_ne_zero c)) hg0
      refine ⟨⟨aCP (by omega),fun h=>?_⟩,aCP (by omega),aFB hy,by show (aA (y / Nat.gcd x y)).length≤24;omega,by show (aA (x / Nat.gcd x y)).length≤24;omega,?_⟩
      · simp only [Bool.and_eq_true,decide_eq_true_eq] at h
        exact dZ h.2
      · simp only [dG]
        have:=Nat.gcd_div (Nat.gcd_dvd_left x y) (Nat.gcd_dvd_right x y)
        rw [this,Nat.div_self hg0]
theorem aJL {s s':Bool} {x y:Nat} (h:x≠0→s=s'):mkR s x y=mkR s' x y:=by
  by_cases c:x=0
  · subst c;unfold mkR;simp
  · rw [h c]
theorem iV {r:Rat} (h:VZ r):dY r=some (decide (bR r)):=by
  unfold dY
  rcases h with h | h
  · have:r.fDen.length≠0:=fun e=>h.2.2.1 (List.length_eq_zero_iff.1 e)
    rw [decide_eq_true h,decide_eq_true (by omega)]
  · subst h
    rw [decide_eq_false aAU];rfl
theorem aDh (r s:Rat) (hr:aS r≤4294967296) (hs:aS s≤4294967296):∃ t,dD r s=some t∧VZ t∧(VZ r→VZ s→cS r s=some t):=by
  unfold dD
  rw [fJ r hr]
  simp only [Option.bind_some]
  by_cases c1:bR r
  · rw [decide_eq_true c1,if_pos rfl,fJ s hs]
    simp only [Option.bind_some]
    by_cases c2:bR s
    · rw [decide_eq_true c2]
      obtain ⟨n,d,e1,e2,e3,e4,_⟩:=aAk c1
      obtain ⟨m,e,g1,g2,g3,g4,_⟩:=aAk c2
      subst e1;subst g1
      simp only [Bool.not_true,Bool.false_eq_true,if_false]
      have q:=aHP n d m e e2 g2 e3 e4 g3 g4
      rw [aLy n d m e e2 g2 e3 e4 g3 g4]
      exact ⟨_,rfl,aIY _ _ _,fun _ _=>q⟩
    · rw [decide_eq_false c2]
      refine ⟨pQ,rfl,aBV,fun v1 v2=>?_⟩
      unfold cS
      rw [iV v1,iV v2,decide_eq_true c1,decide_eq_false c2];rfl
  · rw [decide_eq_false c1]
    refine ⟨pQ,rfl,aBV,fun v1 v2=>?_⟩
    unfold cS
    rw [iV v1,decide_eq_false c1];rfl
def aM9 (n:Int) (d:Nat) (m:Int) (e:Nat):Rat:=mkR (!(decide (n < 0) == decide (m < 0))) (n.natAbs*m.natAbs) (d*e)
theorem aK4 (n:Int) (d:Nat) (m:Int) (e:Nat) (hd:0 < d) (he:0 < e) (h1:bl n≤24) (h2:(aA d).length≤24) (h3:bl m≤24) (h4:(aA e).length≤24):dF ⟨big n,aA d⟩ ⟨big m,aA e⟩=some (aM9 n d m e):=by
  unfold dF
  rw [aCs hd,aCs he]
  simp only [Option.bind_some,if_true,Bool.not_true,Bool.false_eq_true,if_false,gZ]
  have b1:bl (e:Int)≤24:=by unfold bl;rw [Int.natAbs_natCast];exact h4
  have b2:bl (d:Int)≤24:=by unfold bl;rw [Int.natAbs_natCast];exact h2
  have b3:=aAy n m
  have b6:=aAy d e
  rw [yG n m (by omega) (by omega) (by omega),aBM,aBM,yG d e (by omega) (by omega) (by omega)]
  simp only [Option.bind_some]
  unfold big aM9
  unfold bl at b6 b1 b2 b3 h1 h3
  rw [aDm _ _ _ _ (by omega) (by omega)]
  have:decide ((d:Int)*(e:Int) < 0)=false:=decide_eq_false (by have:=Int.mul_nonneg (a:=(d:Int)) (b:=(e:Int)) (by omega) (by omega);omega)
  rw [this,Int.natAbs_mul,Int.natAbs_mul,Int.natAbs_natCast,Int.natAbs_natCast]
  simp only [Option.bind_some]
  congr 1
  refine aJL fun hx=>?_
  have q:=aGW n m
  rw [decide_eq_true hx,Bool.and_true] at q
  rw [← q]
  cases decide (n < 0) <;> cases decide (m < 0) <;> rfl
theorem aLx (n:Int) (d:Nat) (m:Int) (e:Nat) (h1:bl n≤24) (h2:(aA d).length≤24) (h3:bl m≤24) (h4:(aA e).length≤24):wD ⟨big n,aA d⟩ ⟨big m,aA e⟩=some (aM9 n d m e):=by
  unfold bl at h1 h3
  have b1:=eI n.natAbs m.natAbs
  have b2:=eI d e
  unfold wD
  simp only [big]
  rw [(oQ _ _ (by omega) (by omega)).1]
  simp only [Option.bind_some]
  rw [(oQ _ _ (by omega) (by omega)).1]
  simp only [Option.bind_some]
  rw [aC8 _ _ _ (by omega) (by omega)]
  rfl
theorem aLW (r s:Rat) (hr:aS r≤4294967296) (hs:aS s≤4294967296):∃ t,eA r s=some t∧VZ t∧(VZ r→VZ s→dF r s=some t):=by
  unfold eA
  rw [fJ r hr]
  simp only [Option.bind_some]
  by_cases c1:bR r
  · rw [decide_eq_true c1,if_pos rfl,fJ s hs]
    simp only [Option.bind_some]
    by_cases c2:bR s
    · rw [decide_eq_true c2]
      obtain ⟨n,d,e1,e2,e3,e4,_⟩:=aAk c1
      obtain ⟨m,e,g1,g2,g3,g4,_⟩:=aAk c2
      subst e1;subst g1
      simp only [Bool.not_true,Bool.false_eq_true,if_false]
      rw [aLx n d m e e3 e4 g3 g4]
      exact ⟨_,rfl,aIY _ _ _,fun _ _=>aK4 n d m e e2 g2 e3 e4 g3 g4⟩
    · rw [decide_eq_false c2]
      refine ⟨pQ,rfl,aBV,fun v1 v2=>?_⟩
      unfold dF
      rw [iV v1,iV v2,decide_eq_true c1,decide_eq_false c2];rfl
  · rw [decide_eq_false c1]
    refine ⟨pQ,rfl,aBV,fun v1 v2=>?_⟩
    unfold dF
    rw [iV v1,decide_eq_false c1];rfl
def yU (r:Rat):Int:=if bR r then (if r.fNum.fMag=[] then 0 else if r.fNum.fNeg=true then -1 else 1) else 0
theorem aAY {r:Rat} (h:0 < yU r):bR r:=by
  unfold yU at h
  by_cases c:bR r
  · exact c
  · rw [if_neg c] at h;omega
theorem aDA (r:Rat) (hr:aS r≤4294967296):kS r=some (yU r)∧nY r=some (yU r):=by
  unfold kS nY yU
  rw [aBw r hr,fJ r hr]
  simp only [Option.bind_some]
  by_cases c1:bR r
  · rw [decide_eq_true c1,if_pos c1,if_pos rfl,if_pos rfl]
    unfold xM
    rw [iV (.inl c1),decide_eq_true c1]
    simp only [Option.bind_some,if_true]
    by_cases c2:r.fNum.fMag=[]
    · rw [if_pos c2,decide_eq_true (by rw [c2];rfl)];exact ⟨rfl,rfl⟩
    · have:r.fNum.fMag.length≠0:=fun e=>c2 (List.length_eq_zero_iff.1 e)
      rw [if_neg c2,decide_eq_false (by omega)]
      simp only [Bool.false_eq_true,if_false]
      cases r.fNum.fNeg <;> exact ⟨rfl,rfl⟩
  · rw [decide_eq_false c1,if_neg c1];exact ⟨rfl,rfl⟩
theorem aMO (a b:List Int) (h:a.length≤4294967296):qY a b=some (decide (a=b)):=by
  unfold qY
  by_cases c:a.length=b.length
  · rw [if_neg (by omega)]
    have main:∀ m k:Nat,m+k=a.length→lp (iW a b) (k:Int)=some (if a.drop k=b.drop k then .inl () else .inr false):=by
      intro m
      induction m with
      | zero =>
        intro k hk
        rw [if_pos (by rw [List.drop_eq_nil_of_le (by omega),List.drop_eq_nil_of_le (by omega)])]
        exact aL (by unfold iW;rw [if_neg (by omega)])
      | succ m ih =>
        intro k hk
        have h1:k < a.length:=by omega
        have h2:k < b.length:=by omega
        by_cases e:a[k]=b[k]
        · have s1:iW a b (k:Int)=some (.inl ((k+1:Nat):Int)):=by
            unfold iW
            rw [if_pos (by omega),aI h1,aI h2,wi (by omega)];simp [e]
          rw [bD s1,ih (k+1) (by omega)]
          have:a.drop k=b.drop k↔a.drop (k+1)=b.drop (k+1):=by
            rw [List.drop_eq_getElem_cons h1,List.drop_eq_getElem_cons h2,List.cons.injEq]
            exact ⟨fun h=>h.2,fun h=>⟨e,h⟩⟩
          simp only [this]
        · have:¬a.drop k=b.drop k:=by
            rw [List.drop_eq_getElem_cons h1,List.drop_eq_getElem_cons h2,List.cons.injEq]
            exact fun h=>e h.1
          rw [if_neg this]
          refine aL ?_
          unfold iW
          rw [if_pos (by omega),aI h1,aI h2];simp [e]
    have:=main a.length 0 (by omega)
    rw [show ((0:Nat):Int)=0 from rfl,List.drop_zero,List.drop_zero] at this
    rw [this]
    by_cases e:a=b
    · simp [e]
    · simp [e]
  · rw [if_pos (by omega),decide_eq_false (fun e=>c (by rw [e]))]
theorem aGb:cZ=cU:=rfl
theorem aJn (r s:Rat) (hr:aS r≤4294967296):∃ b,cU r s=some b:=by
  obtain ⟨h1,h2⟩:=aK2 r hr
  unfold cU
  rw [aMO _ _ h1,aMO _ _ h2]
  simp only [Option.bind_some]
  split
  · split
    · exact ⟨_,rfl⟩
    · exact ⟨_,rfl⟩
  · exact ⟨_,rfl⟩
theorem aCg (n:Int) (h:-9223372036854775808≤n∧n≤9223372036854775807):bR (xT n):=by
  have hl:=jL (v:=n.natAbs) (by omega)
  unfold xT
  rw [vE]
  refine ⟨⟨aCP (by omega),fun hn=>?_⟩,aCP (by rw [← vE];simp),aFB (by omega),by rw [← vE];simp,by show (aA n.natAbs).length≤24;omega,?_⟩
  · simp only [big,decide_eq_true_eq] at hn
    exact dZ (by omega)
  · simp only [dG,Nat.gcd_one_right]
end Go.Ev
/- Is a number in a list. -/
namespace Go.Ev
set_option linter.all false
theorem aBp (l:List Int) (n:Int) (h:l.length≤4294967296):fT l n=some (decide (n ∈ l)):=by
  have main:∀ m k:Nat,m+k=l.length→lp (kH l n) (k:Int)=some (if n ∈ l.drop k then .inr true else .inl ()):=by
    intro m
    induction m with
    | zero =>
      intro k hk
      have:k=l.length:=by omega
      subst this
      rw [aL (r:=.inl ()) (by unfold kH;rw [if_neg (by omega)]),List.drop_length];simp
    | succ m ih =>
      intro k hk
      have hlt:k < l.length:=by omega
      rw [List.drop_eq_getElem_cons hlt]
      by_cases c:l[k]=n
      · rw [aL (r:=.inr true) (by unfold kH;rw [if_pos (by omega),aI hlt];simp [c]),if_pos (by simp [c])]
      · have e:kH l n (k:Int)=some (.inl ((k:Int)+1)):=by
          unfold kH;rw [if_pos (by omega),aI hlt,wi (by omega)];simp [c]
        rw [bD e,show (k:Int)+1=((k+1:Nat):Int) by omega,ih (k+1) (by omega)]
        have:(n ∈ l[k]::l.drop (k+1))↔n ∈ l.drop (k+1):=by
          rw [List.mem_cons];exact ⟨fun h=>h.resolve_left (fun e=>c e.symm),.inr⟩
        simp only [this]
  have:=main l.length 0 (by omega)
  rw [show ((0:Nat):Int)=0 from rfl,List.drop_zero] at this
  unfold fT
  rw [this]
  by_cases c:n ∈ l <;> simp [c]
theorem uJ (l:List Int) (n:Int) (h:l.length≤4294967296):nF l n=some (decide (n ∈ l)):=aBp l n h
end Go.Ev
/- Conditionals and nets, both programs. -/
namespace Go.Ev
set_option linter.all false
theorem aIa (a:Int):qU a=some (decide (0≤a∧a≤9)):=by
  unfold qU
  by_cases h:0≤a
  · rw [if_pos h];congr 1;rw [decide_eq_decide];omega
  · rw [if_neg h,decide_eq_false (by omega)]
theorem aGx (a:Int):nL a=some (decide (0≤a∧a≤9)):=by
  unfold nL
  rw [aC9];rfl
def aHT (c:Conditional) (k:Nat) (p:Parent):Prop:=(0≤p.fNode∧p.fNode≤9)∧p.fNode≠c.fNode∧(∀ q,0 < k→c.fParents[k - 1]?=some q→q.fNode < p.fNode)∧0 < yU p.fShare∧bR p.fDX∧bR p.fDY
theorem aNA {c:Conditional} (h:aK c≤4294967296) {k:Nat} (hk:k < c.fParents.length):aS (c.fParents[k]).fShare≤4294967296∧aS (c.fParents[k]).fDX≤4294967296∧aS (c.fParents[k]).fDY≤4294967296:=by
  unfold aK cL at h
  have:=fL (w:=bO) (List.getElem_mem hk)
  have e:bO c.fParents[k]=aS (c.fParents[k]).fShare+aS (c.fParents[k]).fDX+aS (c.fParents[k]).fDY:=rfl
  omega
theorem aLe {c:Conditional} (h:aK c≤4294967296):c.fParents.length≤4294967296∧aS c.fTotal≤4294967296:=by
  unfold aK cL at h
  have:=cP bO c.fParents
  omega
theorem aID (c:Conditional) (h:aK c≤4294967296):∀ m k:Nat,m+k=c.fParents.length→∀ s:Rat,VZ s →
    ∃ r,lp (cI c) ((k:Int),s)=some r∧lp (cK c) ((k:Int),s)=some r ∧
      (match r with | .inl v=>VZ v∧∀ j (hj:j < c.fParents.length),k≤j→aHT c j c.fParents[j] | .inr b=>b=false):=by
  have hl:=(aLe h).1
  intro m
  induction m with
  | zero =>
    intro k hk s hs
    refine ⟨.inl s,aL ?_,aL ?_,hs,fun j hj hkj=>by omega⟩
    · unfold cI;simp only [];rw [if_neg (by omega)]
    · unfold cK;simp only [];rw [if_neg (by omega)]
  | succ m ih =>
    intro k hk s hs
    have hlt:k < c.fParents.length:=by omega
    obtain ⟨z1,z2,z3⟩:=aNA h hlt
    obtain ⟨g1,g2⟩:=aDA _ z1
    have a1:=aBw _ z2
    have a2:=aBw _ z3
    have b1:=fJ _ z2
    have b2:=fJ _ z3
    obtain ⟨t,t1,t3,t4⟩:=aDh s (c.fParents[k]).fShare (by have:=qB hs;omega) z1
    have step:(aHT c k c.fParents[k]→cI c ((k:Int),s)=some (.inl (((k+1:Nat):Int),t))∧cK c ((k:Int),s)=some (.inl (((k+1:Nat):Int),t))) ∧
        (¬aHT c k c.fParents[k]→cI c ((k:Int),s)=some (.inr (.inr false))∧cK c ((k:Int),s)=some (.inr (.inr false))):=by
      have w1:IntKind.i64.wrap ((k:Int)+1)=((k+1:Nat):Int):=by rw [wi (by omega)];omega
      have hin:(k:Int) < (c.fParents.length:Int):=by omega
      unfold cI cK
      simp only [hin,if_true,aI hlt,Option.bind_some,aIa,aGx,g1,g2,a1,a2,b1,b2,t1,w1]
      by_cases A:0≤(c.fParents[k]).fNode∧(c.fParents[k]).fNode≤9
      · by_cases B:(c.fParents[k]).fNode=c.fNode
        · refine ⟨fun g=>absurd B g.2.1,fun _=>?_⟩
          simp [A,B]
        · by_cases D:0 < yU (c.fParents[k]).fShare
          · have D':¬yU (c.fParents[k]).fShare≤0:=by omega
            have t5:=t4 hs (.inl (aAY D))
            by_cases K:0 < k
            · have hlt2:k - 1 < c.fParents.length:=by omega
              have w2:IntKind.i64.wrap ((k:Int) - 1)=((k - 1:Nat):Int):=by rw [wi (by omega)];omega
              have K':(0:Int) < (k:Int):=by omega
              simp only [A,B,K',D',w2,aI hlt2,and_self,decide_true,if_true,if_false,Option.bind_some]
              by_cases C:(c.fParents[k]).fNode≤(c.fParents[k - 1]).fNode
              · refine ⟨fun g=>?_,fun _=>?_⟩
                · have:=g.2.2.1 (c.fParents[k - 1]) K (by rw [List.getElem?_eq_getElem hlt2]);omega
                · simp [C]
              · by_cases E:bR (c.fParents[k]).fDX
                · by_cases F:bR (c.fParents[k]).fDY
                  · refine ⟨fun _=>?_,fun g=>absurd ⟨A,B,fun q _ hq=>?_,D,E,F⟩ g⟩
                    · simp [C,E,F,t5]
                    · rw [List.getElem?_eq_getElem hlt2] at hq;cases hq;omega
                  · refine ⟨fun g=>absurd g.2.2.2.2.2 F,fun _=>?_⟩
                    simp [C,E,F]
                · refine ⟨fun g=>absurd g.2.2.2.2.1 E,fun _=>?_⟩
                  simp [C,E]
            · have K':¬(0:Int) < (k:Int):=by omega
              simp only [A,B,K',D',and_self,decide_true,if_true,if_false,Option.bind_some]
              by_cases E:bR (c.fParents[k]).fDX
              · by_cases F:bR (c.fParents[k]).fDY
                · refine ⟨fun _=>?_,fun g=>absurd ⟨A,B,fun q hq _=>absurd hq K,D,E,F⟩ g⟩
                  simp [E,F,t5]
                · refine ⟨fun g=>absurd g.2.2.2.2.2 F,fun _=>?_⟩
                  simp [E,F]
              · refine ⟨fun g=>absurd g.2.2.2.2.1 E,fun _=>?_⟩
                simp [E]
          · have D':yU (c.fParents[k]).fShare≤0:=by omega
            refine ⟨fun g=>absurd g.2.2.2.1 D,fun _=>?_⟩
            by_cases K:0 < k
            · have hlt2:k - 1 < c.fParents.length:=by omega
              have w2:IntKind.i64.wrap ((k:Int) - 1)=((k - 1:Nat):Int):=by rw [wi (by omega)];omega
              have K':(0:Int) < (k:Int):=by omega
              simp only [A,B,K',D',w2,aI hlt2,and_self,decide_true,if_true,if_false,Option.bind_some]
              by_cases C:(c.fParents[k]).fNode≤(c.fParents[k - 1]).fNode <;> simp [C]
            · have K':¬(0:Int) < (k:Int):=by omega
              simp only [A,B,K',D',and_self,decide_true,if_true,if_false,Option.bind_some]
              simp
      · refine ⟨fun g=>absurd g.1 A,fun _=>?_⟩
        simp [A]
    by_cases G:aHT c k c.fParents[k]
    · obtain ⟨s1,s2⟩:=step.1 G
      rw [bD s1,bD s2]
      obtain ⟨r,e1,e2,e3⟩:=ih (k+1) (by omega) t t3
      refine ⟨r,e1,e2,?_⟩
      cases r with
      | inl v =>
        refine ⟨e3.1,fun j hj hkj=>?_⟩
        by_cases e:j=k
        · subst e;exact G
        · exact e3.2 j hj (by omega)
      | inr b=>exact e3
    · obtain ⟨s1,s2⟩:=step.2 G
      exact ⟨.inr false,aL s1,aL s2,rfl⟩
theorem aMn:VZ (xT 0):=.inl (aCg 0 (by omega))
theorem aJ6 (c:Conditional) (h:aK c≤4294967296):∃ b,dX c=some b∧fX c=some b∧(b=true→(1≤c.fNode∧c.fNode≤9)∧∀ j (hj:j < c.fParents.length),aHT c j c.fParents[j]):=by
  obtain ⟨hl,hT⟩:=aLe h
  obtain ⟨g1,g2⟩:=aDA _ hT
  obtain ⟨r,e1,e2,e3⟩:=aID c h c.fParents.length 0 (by omega) (xT 0) aMn
  rw [show ((0:Nat):Int)=0 from rfl] at e1 e2
  unfold dX fX
  rw [kU 0 (by omega),lM 0 (by omega),kU 1 (by omega),lM 1 (by omega)]
  simp only [Option.bind_some,e1,e2,g1,g2,aC9]
  by_cases A:1≤c.fNode∧c.fNode≤9
  · have A1:¬c.fNode < 1:=by omega
    have A2:¬10≤c.fNode:=by omega
    by_cases B:0 < yU c.fTotal
    · have B':¬yU c.fTotal≤0:=by omega
      by_cases D:c.fParents.length=0
      · have D1:¬(0:Int) < (c.fParents.length:Int):=by omega
        have D2:(c.fParents.length:Int)=0:=by omega
        refine ⟨false,?_,?_,fun h=>by cases h⟩
        · cases r with
          | inl v=>simp only [A,B,D1,and_self,decide_true,if_true,if_false,Option.bind_some]
          | inr b=>simp only [] at e3;subst e3;rfl
        · simp [A1,A2,B',D2]
      · have D1:(0:Int) < (c.fParents.length:Int):=by omega
        have D2:¬(c.fParents.length:Int)=0:=by omega
        cases r with
        | inl v =>
          obtain ⟨b,hb⟩:=aJn v (xT 1) (by have:=qB e3.1;omega)
          refine ⟨b,?_,?_,fun _=>⟨A,fun j hj=>e3.2 j hj (by omega)⟩⟩
          · simp only [A,B,D1,hb,and_self,decide_true,if_true,if_false,Option.bind_some]
          · rw [aGb];simp only [A1,A2,B',D2,hb,decide_false,if_true,if_false,Option.bind_some,Bool.false_eq_true]
        | inr b =>
          simp only [] at e3;subst e3
          refine ⟨false,rfl,?_,fun h=>by cases h⟩
          simp [A1,A2,B',D2]
    · have B':yU c.fTotal≤0:=by omega
      refine ⟨false,?_,?_,fun h=>by cases h⟩
      · cases r with
        | inl v=>simp [A,B]
        | inr b=>simp only [] at e3;subst e3;rfl
      · simp [A1,A2,B']
  · refine ⟨false,?_,?_,fun h=>by cases h⟩
    · cases r with
      | inl v=>simp [A]
      | inr b=>simp only [] at e3;subst e3;rfl
    · by_cases A1:c.fNode < 1
      · simp [A1]
      · have A2:10≤c.fNode:=by omega
        simp [A1,A2]
end Go.Ev
/- Fractions: quotients, differences, negation; the operations as total functions that both programs meet on valid or zero values. -/
namespace Go.Ev
set_option linter.all false
def aNF (n:Int) (d:Nat) (m:Int) (e:Nat):Rat:=mkR (!(decide (n < 0) == decide (m < 0))) (n.natAbs*e) (d*m.natAbs)
theorem aK5 (n:Int) (d:Nat) (m:Int) (e:Nat) (hd:0 < d) (he:0 < e) (h1:bl n≤24) (h2:(aA d).length≤24) (h3:bl m≤24) (h4:(aA e).length≤24):fS ⟨big n,aA d⟩ ⟨big m,aA e⟩=some (aNF n d m e):=by
  unfold fS
  rw [aCs hd,aCs he]
  simp only [Option.bind_some,if_true,Bool.not_true,Bool.false_eq_true,if_false,gZ]
  have b1:bl (e:Int)≤24:=by unfold bl;rw [Int.natAbs_natCast];exact h4
  have b2:bl (d:Int)≤24:=by unfold bl;rw [Int.natAbs_natCast];exact h2
  have b3:=aAy n e
  have b4:=aAy m d
  rw [aBM,aBM,yG n e (by omega) (by omega) (by omega),yG m d (by omega) (by omega) (by omega)]
  simp only [Option.bind_some]
  unfold big aNF
  unfold bl at b1 b2 b3 b4 h1 h3
  rw [aDm _ _ _ _ (by omega) (by omega)]
  simp only [Option.bind_some,Int.natAbs_mul,Int.natAbs_natCast]
  congr 1
  rw [Nat.mul_comm d m.natAbs]
  by_cases hm:m=0
  · subst hm;unfold mkR;simp
  · refine aJL fun hx=>?_
    have s1:decide (n*(e:Int) < 0)=decide (n < 0):=by
      rw [decide_eq_decide]
      constructor
      · intro h
        rcases Int.lt_or_le n 0 with g | g
        · exact g
        · have:=Int.mul_nonneg g (by omega:(0:Int)≤e);omega
      · intro h;exact Int.mul_neg_of_neg_of_pos h (by omega)
    have s2:decide (m*(d:Int) < 0)=decide (m < 0):=by
      rw [decide_eq_decide]
      constructor
      · intro h
        rcases Int.lt_or_le m 0 with g | g
        · exact g
        · have:=Int.mul_nonneg g (by omega:(0:Int)≤d);omega
      · intro h;exact Int.mul_neg_of_neg_of_pos h (by omega)
    rw [s1,s2]
theorem aLX (r s:Rat) (hr:aS r≤4294967296) (hs:aS s≤4294967296):∃ t,iF r s=some t∧VZ t∧(VZ r→VZ s→fS r s=some t):=by
  unfold iF
  rw [fJ r hr]
  simp only [Option.bind_some]
  by_cases c1:bR r
  · rw [decide_eq_true c1,if_pos rfl,fJ s hs]
    simp only [Option.bind_some]
    by_cases c2:bR s
    · rw [decide_eq_true c2]
      obtain ⟨n,d,e1,e2,e3,e4,_⟩:=aAk c1
      obtain ⟨m,e,g1,g2,g3,g4,_⟩:=aAk c2
      subst e1;subst g1
      simp only [Bool.not_true,Bool.false_eq_true,if_false]
      have e3':=e3
      have g3':=g3
      unfold bl at e3' g3'
      have b1:=eI n.natAbs e
      have b2:=eI d m.natAbs
      have q:(dA (big n).fMag (aA e))=some (aA (n.natAbs*e)):=(oQ _ _ (by omega) (by omega)).1
      have q2:(dA (aA d) (big m).fMag)=some (aA (d*m.natAbs)):=(oQ _ _ (by omega) (by omega)).1
      rw [q]
      simp only [Option.bind_some]
      rw [q2]
      simp only [Option.bind_some]
      rw [aC8 _ _ _ (by omega) (by omega)]
      exact ⟨_,rfl,aIY _ _ _,fun _ _=>aK5 n d m e e2 g2 e3 e4 g3 g4⟩
    · rw [decide_eq_false c2]
      refine ⟨pQ,rfl,aBV,fun v1 v2=>?_⟩
      unfold fS
      rw [iV v1,iV v2,decide_eq_true c1,decide_eq_false c2];rfl
  · rw [decide_eq_false c1]
    refine ⟨pQ,rfl,aBV,fun v1 v2=>?_⟩
    unfold fS
    rw [iV v1,decide_eq_false c1];rfl
theorem aGr (n:Int) (h:bl n≤24):(aA n.natAbs).length≤24:=h
theorem aJI (n:Int):(if ((aA n.natAbs).length:Int)=0 then (⟨false,[]⟩:BigInt) else ⟨!decide (n < 0),aA n.natAbs⟩)=big (-n):=by
  by_cases c:n=0
  · subst c;simp [big,aA]
  · have:(aA n.natAbs).length≠0:=fun e=>dZ (n:=n.natAbs) (by omega) (List.length_eq_zero_iff.1 e)
    rw [if_neg (by omega)]
    unfold big
    rw [Int.natAbs_neg]
    congr 1
    by_cases h:n < 0
    · rw [decide_eq_true h,decide_eq_false (by omega)];rfl
    · rw [decide_eq_false h,decide_eq_true (by omega)];rfl
theorem aFF (l:List Int) (h:l.length≤4294967296):eG l=some l:=by
  unfold eG
  rw [aQ (by simp;omega)]
  simp [aY]
theorem aK3 (n:Int) (d:Nat) (hd:0 < d) (h1:bl n≤24) (h2:(aA d).length≤24):jP ⟨big n,aA d⟩=some ⟨big (-n),aA d⟩:=by
  unfold jP
  have h1':=aGr n h1
  rw [aCs hd]
  simp only [Option.bind_some,if_true,aAA,aAz]
  rw [aFF _ (by omega),aFF _ (by omega)]
  simp only [Option.bind_some]
  unfold eO
  have e:=aJI n
  by_cases c:((aA n.natAbs).length:Int)=0
  · rw [if_pos c] at e;simp [c,e]
  · rw [if_neg c] at e
    rw [if_neg c]
    have:¬(60:Int) < (aA n.natAbs).length:=by omega
    simp [this,e]
theorem aLw (n:Int) (d:Nat) (h1:bl n≤24) (h2:(aA d).length≤24):qF ⟨big n,aA d⟩=some ⟨big (-n),aA d⟩:=by
  unfold qF
  have h1':=aGr n h1
  simp only [aAA,aAz]
  rw [rG _ _ (by omega),aQ (by simp;omega)]
  simp only [Option.bind_some,aY,List.nil_append]
  have e:=aJI n
  congr 2
  rw [← e]
  by_cases c:n=0
  · subst c;simp [aA]
  · have:(aA n.natAbs).length≠0:=fun e=>dZ (n:=n.natAbs) (by omega) (List.length_eq_zero_iff.1 e)
    rw [if_neg (by omega)]
    simp [c]
theorem aGm {n:Int} {d:Nat} (h:bR ⟨big n,aA d⟩) (h1:bl n≤24):bR ⟨big (-n),aA d⟩:=by
  obtain ⟨⟨a1,a2⟩,b,c,d1,e,f⟩:=h
  refine ⟨⟨?_,fun hn=>?_⟩,b,c,d1,?_,?_⟩
  · show uX (aA (-n).natAbs);rw [Int.natAbs_neg];exact a1
  · simp only [big,decide_eq_true_eq] at hn ⊢
    exact dZ (by omega)
  · show (aA (-n).natAbs).length≤24;rw [Int.natAbs_neg];exact e
  · show Nat.gcd (val (aA (-n).natAbs)) _=1;rw [Int.natAbs_neg];exact f
theorem aIx (r:Rat) (hr:aS r≤4294967296):∃ t,kT r=some t∧VZ t∧(VZ r→jP r=some t)∧(bR r→qF r=some t∧bR t):=by
  unfold kT
  rw [fJ r hr]
  simp only [Option.bind_some]
  by_cases c1:bR r
  · rw [decide_eq_true c1,if_pos rfl]
    obtain ⟨n,d,e1,e2,e3,e4,_⟩:=aAk c1
    subst e1
    rw [aLw n d e3 e4]
    exact ⟨_,rfl,.inl (aGm c1 e3),fun _=>aK3 n d e2 e3 e4,fun _=>⟨rfl,aGm c1 e3⟩⟩
  · rw [decide_eq_false c1]
    refine ⟨pQ,rfl,aBV,fun v1=>?_,fun h=>absurd h c1⟩
    unfold jP
    rw [iV v1,decide_eq_false c1];rfl
theorem aLV (r s:Rat) (hr:aS r≤4294967296) (hs:aS s≤4294967296):∃ t,jN r s=some t∧VZ t∧(VZ r→VZ s→iJ r s=some t):=by
  unfold jN
  rw [fJ r hr]
  simp only [Option.bind_some]
  obtain ⟨u,u1,u2,u3,u4⟩:=aIx s hs
  obtain ⟨t,t1,t3,t4⟩:=aDh r u hr (by have:=qB u2;omega)
  by_cases c1:bR r
  · rw [decide_eq_true c1,if_pos rfl,fJ s hs]
    simp only [Option.bind_some]
    by_cases c2:bR s
    · rw [decide_eq_true c2]
      simp only [Bool.not_true,Bool.false_eq_true,if_false]
      obtain ⟨u5,u6⟩:=u4 c2
      rw [u5]
      simp only [Option.bind_some]
      have:qG r u=some t:=by
        have:=t1
        unfold dD at this
        rw [fJ r hr,fJ u (by have:=qB u2;omega),decide_eq_true c1,decide_eq_true u6] at this
        simpa using this
      rw [this]
      refine ⟨t,rfl,t3,fun v1 v2=>?_⟩
      unfold iJ
      rw [u3 v2]
      simp only [Option.bind_some]
      rw [t4 v1 u2];rfl
    · rw [decide_eq_false c2]
      refine ⟨pQ,rfl,aBV,fun v1 v2=>?_⟩
      unfold iJ
      have e:u=pQ:=by
        have:=u1
        unfold kT at this
        rw [fJ s hs,decide_eq_false c2] at this
        simpa [pQ] using this.symm
      rw [u3 v2]
      simp only [Option.bind_some]
      unfold cS
      rw [iV v1,iV u2,decide_eq_true c1,decide_eq_false (by rw [e];exact aAU)];rfl
  · rw [decide_eq_false c1]
    refine ⟨pQ,rfl,aBV,fun v1 v2=>?_⟩
    unfold iJ
    rw [u3 v2]
    simp only [Option.bind_some]
    unfold cS
    rw [iV v1,decide_eq_false c1];rfl
noncomputable def RA (r s:Rat):Rat:=(dD r s).getD pQ
noncomputable def RM (r s:Rat):Rat:=(eA r s).getD pQ
noncomputable def RD (r s:Rat):Rat:=(iF r s).getD pQ
noncomputable def RS (r s:Rat):Rat:=(jN r s).getD pQ
noncomputable def RN (r:Rat):Rat:=(kT r).getD pQ
theorem VZs {r:Rat} (h:VZ r):aS r≤4294967296:=by have:=qB h;omega
theorem aOc {r s:Rat} (hr:aS r≤4294967296) (hs:aS s≤4294967296):dD r s=some (RA r s)∧VZ (RA r s):=by
  obtain ⟨t,t1,t3,t4⟩:=aDh r s hr hs
  have:RA r s=t:=by unfold RA;rw [t1];rfl
  rw [this];exact ⟨t1,t3⟩
theorem aCz {r s:Rat} (hr:VZ r) (hs:VZ s):dD r s=some (RA r s)∧cS r s=some (RA r s)∧VZ (RA r s):=by
  obtain ⟨t,t1,t3,t4⟩:=aDh r s (VZs hr) (VZs hs)
  have:RA r s=t:=by unfold RA;rw [t1];rfl
  rw [this];exact ⟨t1,t4 hr hs,t3⟩
theorem aFO {r s:Rat} (hr:VZ r) (hs:VZ s):eA r s=some (RM r s)∧dF r s=some (RM r s)∧VZ (RM r s):=by
  obtain ⟨t,t1,t3,t4⟩:=aLW r s (VZs hr) (VZs hs)
  have:RM r s=t:=by unfold RM;rw [t1];rfl
  rw [this];exact ⟨t1,t4 hr hs,t3⟩
theorem aGc {r s:Rat} (hr:VZ r) (hs:VZ s):iF r s=some (RD r s)∧fS r s=some (RD r s)∧VZ (RD r s):=by
  obtain ⟨t,t1,t3,t4⟩:=aLX r s (VZs hr) (VZs hs)
  have:RD r s=t:=by unfold RD;rw [t1];rfl
  rw [this];exact ⟨t1,t4 hr hs,t3⟩
theorem aIy {r s:Rat} (hr:VZ r) (hs:VZ s):jN r s=some (RS r s)∧iJ r s=some (RS r s)∧VZ (RS r s):=by
  obtain ⟨t,t1,t3,t4⟩:=aLV r s (VZs hr) (VZs hs)
  have:RS r s=t:=by unfold RS;rw [t1];rfl
  rw [this];exact ⟨t1,t4 hr hs,t3⟩
theorem aLY {r:Rat} (hr:VZ r):kT r=some (RN r)∧jP r=some (RN r)∧VZ (RN r):=by
  obtain ⟨t,t1,t3,t4,_⟩:=aIx r (VZs hr)
  have:RN r=t:=by unfold RN;rw [t1];rfl
  rw [this];exact ⟨t1,t4 hr,t3⟩
theorem aJx {n:Int} {d:Nat} (h:bR ⟨big n,aA d⟩):0 < yU ⟨big n,aA d⟩↔0 < n:=by
  unfold yU
  rw [if_pos h]
  simp only [aAA,aAz,decide_eq_true_eq]
  by_cases c:n=0
  · subst c;simp [aA]
  · rw [if_neg (dZ (by omega))]
    by_cases h:n < 0
    · rw [if_pos h];omega
    · rw [if_neg h];omega
theorem aMr {x y:Nat} (hx:0 < x) (h:bR (mkR false x y)):0 < yU (mkR false x y):=by
  unfold yU
  rw [if_pos h]
  unfold mkR at h ⊢
  by_cases c:y=0
  · rw [if_pos c] at h;exact absurd h aAU
  · rw [if_neg c] at h ⊢
    by_cases c2:24 < (aA (x / Nat.gcd x y)).length∨24 < (aA (y / Nat.gcd x y)).length
    · rw [if_pos c2] at h;exact absurd h aAU
    · rw [if_neg c2] at h ⊢
      have hg:0 < Nat.gcd x y:=Nat.gcd_pos_of_pos_left y hx
      have:0 < x / Nat.gcd x y:=Nat.div_pos (Nat.gcd_le_left y hx) hg
      simp only [Bool.false_and,Bool.false_eq_true,if_false]
      rw [if_neg (dZ (by omega))];omega
theorem aNh {r s:Rat} (hr:0 < yU r) (hs:0 < yU s) (h:bR (RA r s)):0 < yU (RA r s):=by
  have r1:=aAY hr
  have s1:=aAY hs
  obtain ⟨n,d,e1,e2,e3,e4,_⟩:=aAk r1
  obtain ⟨m,e,g1,g2,g3,g4,_⟩:=aAk s1
  subst e1;subst g1
  have hn:=(aJx r1).1 hr
  have hm:=(aJx s1).1 hs
  have q:=(aCz (.inl r1) (.inl s1)).2.1
  rw [aHP n d m e e2 g2 e3 e4 g3 g4] at q
  have q:=Option.some.inj q
  rw [← q] at h ⊢
  unfold aKK at h ⊢
  have p1:0 < n*(e:Int):=Int.mul_pos hn (by omega)
  have p2:0 < m*(d:Int):=Int.mul_pos hm (by omega)
  rw [decide_eq_false (by omega)] at h ⊢
  exact aMr (by omega) h
end Go.Ev
/- Copies of links; the links of a tree. -/
namespace Go.Ev
set_option linter.all false
theorem fC (x:Rat) (h:aS x≤4294967296):dV x=some x:=by
  unfold aS dH gB at h
  rw [rS,rS] at h
  unfold dV
  rw [aQ (by simp;omega),aQ (by simp;omega)]
  simp only [Option.bind_some,aO,List.nil_append]
theorem tX (x:Link) (h:aT x≤4294967296):kO x=some x:=by
  unfold aT at h
  unfold kO
  rw [fC _ (by omega)]
  simp only [Option.bind_some]
  rw [fC _ (by omega)]
  simp only [Option.bind_some]
  rw [fC _ (by omega)]
  simp only [Option.bind_some]
theorem rV (l:List Link) (h:aF l≤4294967296):jM l=some l:=by
  unfold aF at h
  have hl:=cP aT l
  unfold jM
  have:=wO (step:=qE l) l (fun k t=>((k:Int),t)) (fun t=>t) (fun k t hk ht=>by
    have he:=fL (w:=aT) (List.getElem_mem hk)
    unfold qE
    simp only []
    rw [if_pos (by omega),aI hk]
    simp only [Option.bind_some]
    rw [tX _ (by omega)]
    simp only [Option.bind_some]
    rw [aQ (by omega),wi (by omega)];rfl) (fun t ht=>by unfold qE;simp only [];rw [if_neg (by omega)])
  rw [show ((0:Nat):Int)=0 from rfl] at this
  rw [this];rfl
theorem aAN (l:List Int) (h:l.length≤4294967296):eG l=some l:=by
  unfold eG
  rw [aQ (by simp;omega)]
  simp only [Option.bind_some,aO,List.nil_append]
theorem iK (x:Rat) (h:aS x≤4294967296):fP x=some x:=by
  unfold aS dH gB at h
  rw [rS,rS] at h
  unfold fP
  rw [aAN _ (by omega)]
  simp only [Option.bind_some]
  rw [aAN _ (by omega)]
  simp only [Option.bind_some]
theorem aEd (x:Link) (h:aT x≤4294967296):sO x=some x:=by
  unfold aT at h
  unfold sO
  rw [iK _ (by omega)]
  simp only [Option.bind_some]
  rw [iK _ (by omega)]
  simp only [Option.bind_some]
  rw [iK _ (by omega)]
  simp only [Option.bind_some]
theorem rI (l:List Link) (h:aF l≤4294967296):iL l=some l:=by
  unfold aF at h
  have hl:=cP aT l
  unfold iL
  have:=wO (step:=lK l) l (fun k t=>((k:Int),t)) (fun t=>t) (fun k t hk ht=>by
    have he:=fL (w:=aT) (List.getElem_mem hk)
    unfold lK
    simp only []
    rw [if_pos (by omega),aI hk]
    simp only [Option.bind_some]
    rw [aEd _ (by omega)]
    simp only [Option.bind_some]
    rw [aQ (by omega),wi (by omega)];rfl) (fun t ht=>by unfold lK;simp only [];rw [if_neg (by omega)])
  rw [show ((0:Nat):Int)=0 from rfl] at this
  rw [this];rfl
def cJ (l:List TreeNode):List Link:=(l.map (fun n=>n.fOwn)).flatten
theorem zK:∀ l:List TreeNode,aF (cJ l)≤szL aN l
  | []=>by simp [cJ,aF,aAh]
  | y::l=>by
    have:=zK l
    have hn:aN y=aF y.fOwn+aK y.fCond+aF y.fMessages+aS y.fEnergy:=rfl
    unfold cJ aF at *
    rw [List.map_cons,List.flatten_cons,aGT,jA]
    omega
theorem aA1 (l:List TreeNode) (k:Nat) (hk:k < l.length):cJ (l.take (k+1))=cJ (l.take k)++l[k].fOwn:=by
  unfold cJ
  rw [List.take_succ,List.getElem?_eq_getElem hk,List.map_append,List.flatten_append]
  simp
theorem aHF {α:Type} (w:α→Nat) (l:List α) (k:Nat):szL w (l.take k)≤szL w l:=by
  have:=aGT w (l.take k) (l.drop k)
  rw [List.take_append_drop] at this
  omega
theorem aIV (l:List TreeNode) (h:szL aN l≤4294967296) (k:Nat):(cJ (l.take k)).length≤4294967296:=by
  have h1:=zK (l.take k)
  have h2:=aHF aN l k
  have h3:=cP aT (cJ (l.take k))
  unfold aF at h1
  omega
end Go.Ev
/- Links: validity, order, merging; adding links to a link set, both programs. -/
namespace Go.Ev
open IntKind
set_option linter.all false
def ValidL (l:Link):Prop:=(0≤l.fA∧l.fA≤9)∧(0≤l.fB∧l.fB≤9)∧l.fA < l.fB∧0 < yU l.fWeight∧bR l.fDX∧bR l.fDY
instance (l:Link):Decidable (ValidL l):=by unfold ValidL;infer_instance
theorem gA (l:Link) (h:aT l≤4294967296):dP l=some (decide (ValidL l))∧fW l=some (decide (ValidL l)):=by
  unfold aT at h
  obtain ⟨g1,g2⟩:=aDA l.fWeight (by omega)
  have a1:=aBw l.fDX (by omega)
  have a2:=aBw l.fDY (by omega)
  have b1:=fJ l.fDX (by omega)
  have b2:=fJ l.fDY (by omega)
  unfold dP fW ValidL
  simp only [aIa,aGx,g1,g2,a1,a2,b1,b2,Option.bind_some]
  by_cases A:0≤l.fA∧l.fA≤9
  · by_cases B:0≤l.fB∧l.fB≤9
    · by_cases C:l.fA < l.fB
      · by_cases D:0 < yU l.fWeight
        · by_cases E:bR l.fDX
          · by_cases F:bR l.fDY <;> simp [A,B,C,D,E,F]
          · simp [A,B,C,D,E]
        · simp [A,B,C,D]
      · simp [A,B,C]
    · simp [A,B]
  · simp [A]
theorem ValidL.vz {l:Link} (h:ValidL l):VZ l.fWeight∧VZ l.fDX∧VZ l.fDY:=⟨.inl (aAY h.2.2.2.1),.inl h.2.2.2.2.1,.inl h.2.2.2.2.2⟩
theorem ValidL.sz {l:Link} (h:ValidL l):aT l≤144:=by
  obtain ⟨h1,h2,h3⟩:=h.vz
  have:=qB h1
  have:=qB h2
  have:=qB h3
  unfold aT;omega
theorem aDj {α:Type} {w:α→Nat} {c:Nat}:∀ {l:List α},(∀ x ∈ l,w x≤c)→szL w l≤(c+1)*l.length
  | [],_=>by simp [aAh]
  | y::l,h=>by
    have h1:=h y (by simp)
    have h2:=aDj (l:=l) (c:=c) (fun x hx=>h x (by simp [hx]))
    rw [jA,List.length_cons,Nat.mul_add,Nat.mul_one];omega
def fY (k l:Link):Prop:=k.fA < l.fA∨(k.fA=l.fA∧k.fB < l.fB)
instance (k l:Link):Decidable (fY k l):=by unfold fY;infer_instance
theorem aFR (k l:Link):nM k l=some (decide (fY k l)):=by
  unfold nM fY
  by_cases A:k.fA < l.fA
  · simp [A]
  · by_cases B:k.fA=l.fA
    · simp [A,B]
    · simp [A,B]
theorem aIC (k l:Link):jU k l=some (decide (fY k l)):=aFR k l
theorem aBh {a b c:Link} (h:fY a b) (g:fY b c):fY a c:=by unfold fY at *;omega
noncomputable def sqR (x y:Rat):Rat:=RA (RM x x) (RM y y)
noncomputable def aCQ (k l:Link):Link:=⟨k.fA,k.fB,RA k.fWeight l.fWeight,RD (RA (RM k.fWeight k.fDX) (RM l.fWeight l.fDX)) (RA k.fWeight l.fWeight),RD (RA (RM k.fWeight k.fDY) (RM l.fWeight l.fDY)) (RA k.fWeight l.fWeight)⟩
noncomputable def aHg (k l:Link):Rat:=RM (RD (RM k.fWeight l.fWeight) (RA k.fWeight l.fWeight)) (sqR (RS k.fDX l.fDX) (RS k.fDY l.fDY))
def aA4 (k l:Link):Prop:=bR (aCQ k l).fWeight∧bR (aCQ k l).fDX∧bR (aCQ k l).fDY∧bR (aHg k l)
noncomputable instance (k l:Link):Decidable (aA4 k l):=by unfold aA4;infer_instance
def aGe:Link:=Link.mk 0 0 (Rat.mk (BigInt.mk false ([])) ([])) (Rat.mk (BigInt.mk false ([])) ([])) (Rat.mk (BigInt.mk false ([])) ([]))
theorem aN9 {x y:Rat} (hx:VZ x) (hy:VZ y):oI x y=some (sqR x y)∧lG x y=some (sqR x y)∧VZ (sqR x y):=by
  obtain ⟨a1,a2,a3⟩:=aFO hx hx
  obtain ⟨b1,b2,b3⟩:=aFO hy hy
  obtain ⟨c1,c2,c3⟩:=aCz a3 b3
  unfold oI lG sqR
  simp only [a1,a2,b1,b2,c1,c2,Option.bind_some]
  exact ⟨trivial,trivial,c3⟩
theorem aH0 {k l:Link} (hk:ValidL k) (hl:ValidL l) (h:aA4 k l):ValidL (aCQ k l) :=
  ⟨hk.1,hk.2.1,hk.2.2.1,aNh hk.2.2.2.1 hl.2.2.2.1 h.1,h.2.1,h.2.2.1⟩
theorem aJP {k l:Link} (hk:ValidL k) (hl:ValidL l) (hA:k.fA=l.fA) (hB:k.fB=l.fB) :
    oM k l=some (if aA4 k l then (aCQ k l,aHg k l,true) else (aGe,pQ,false))∧oZ k l=some (if aA4 k l then (aCQ k l,aHg k l,true) else (aGe,pQ,false))∧VZ (aHg k l):=by
  obtain ⟨k1,k2,k3⟩:=hk.vz
  obtain ⟨l1,l2,l3⟩:=hl.vz
  obtain ⟨a1,a2,a3⟩:=aCz k1 l1
  obtain ⟨b1,b2,b3⟩:=aFO k1 k2
  obtain ⟨c1,c2,c3⟩:=aFO l1 l2
  obtain ⟨d1,d2,d3⟩:=aCz b3 c3
  obtain ⟨e1,e2,e3⟩:=aGc d3 a3
  obtain ⟨f1,f2,f3⟩:=aFO k1 k3
  obtain ⟨g1,g2,g3⟩:=aFO l1 l3
  obtain ⟨i1,i2,i3⟩:=aCz f3 g3
  obtain ⟨j1,j2,j3⟩:=aGc i3 a3
  obtain ⟨m1,m2,m3⟩:=aFO k1 l1
  obtain ⟨n1,n2,n3⟩:=aGc m3 a3
  obtain ⟨o1,o2,o3⟩:=aIy k2 l2
  obtain ⟨p1,p2,p3⟩:=aIy k3 l3
  obtain ⟨q1,q2,q3⟩:=aN9 o3 p3
  obtain ⟨r1,r2,r3⟩:=aFO n3 q3
  have v1:=(gA k (by have:=hk.sz;omega)).1
  have v2:=(gA l (by have:=hl.sz;omega)).1
  have vm:=(gA (aCQ k l) (by
    have:=qB a3;have:=qB e3;have:=qB j3
    unfold aT aCQ;simp only [];omega)).1
  refine ⟨?_,?_,r3⟩
  · unfold oM
    rw [v1,v2,decide_eq_true hk,decide_eq_true hl]
    simp only [Option.bind_some,if_true,hA,hB,ne_eq,not_true_eq_false,if_false,decide_false,Bool.false_eq_true]
    simp only [a1,b1,c1,d1,e1,f1,g1,i1,j1,m1,n1,o1,p1,q1,r1,Option.bind_some]
    rw [← hA,← hB]
    have e:(Link.mk k.fA k.fB (RA k.fWeight l.fWeight) (RD (RA (RM k.fWeight k.fDX) (RM l.fWeight l.fDX)) (RA k.fWeight l.fWeight)) (RD (RA (RM k.fWeight k.fDY) (RM l.fWeight l.fDY)) (RA k.fWeight l.fWeight)))=aCQ k l:=rfl
    rw [e,vm]
    have e2:RM (RD (RM k.fWeight l.fWeight) (RA k.fWeight l.fWeight)) (sqR (RS k.fDX l.fDX) (RS k.fDY l.fDY))=aHg k l:=rfl
    rw [e2,fJ (aHg k l) (VZs r3)]
    simp only [Option.bind_some]
    by_cases O:aA4 k l
    · rw [if_pos O,decide_eq_true (aH0 hk hl O),decide_eq_true O.2.2.2];rfl
    · rw [if_neg O]
      by_cases V:ValidL (aCQ k l)
      · have:¬bR (aHg k l):=fun h=>O ⟨aAY V.2.2.2.1,V.2.2.2.2.1,V.2.2.2.2.2,h⟩
        rw [decide_eq_true V,decide_eq_false this];rfl
      · rw [decide_eq_false V];rfl
  · unfold oZ
    simp only [a2,b2,c2,d2,e2,f2,g2,i2,j2,m2,n2,o2,p2,q2,r2,Option.bind_some,iV a3,iV e3,iV j3,iV r3]
    unfold aA4 aCQ aHg
    simp only []
    by_cases A:bR (RA k.fWeight l.fWeight)
    · by_cases B:bR (RD (RA (RM k.fWeight k.fDX) (RM l.fWeight l.fDX)) (RA k.fWeight l.fWeight))
      · by_cases C:bR (RD (RA (RM k.fWeight k.fDY) (RM l.fWeight l.fDY)) (RA k.fWeight l.fWeight))
        · by_cases D:bR (RM (RD (RM k.fWeight l.fWeight) (RA k.fWeight l.fWeight)) (sqR (RS k.fDX l.fDX) (RS k.fDY l.fDY))) <;> simp [A,B,C,D,aGe,pQ]
        · simp [A,B,C,aGe,pQ]
      · simp [A,B,aGe,pQ]
    · simp [A,aGe,pQ]
def LSet (s:List Link):Prop:=(∀ x ∈ s,ValidL x)∧s.Pairwise fY
noncomputable instance (s:List Link):Decidable (LSet s):=Classical.propDecidable _
theorem aJU:∀ (l:List Int) (a N:Int),l.Pairwise (· < ·)→(∀ x ∈ l,a≤x∧x < N)→(l.length:Int)≤max 0 (N - a)
  | [],a,N,_,_=>by rw [List.length_nil];omega
  | x::l,a,N,h,hb=>by
    rw [List.pairwise_cons] at h
    have h1:=hb x (by simp)
    have:=aJU l (x+1) N h.2 (fun y hy=>⟨by have:=h.1 y hy;omega,(hb y (by simp [hy])).2⟩)
    rw [List.length_cons];omega
theorem LSet.len {s:List Link} (h:LSet s):s.length≤100:=by
  have:=aJU (s.map fun l=>l.fA*10+l.fB) 0 100 (by
    rw [List.pairwise_map]
    refine List.Pairwise.imp_of_mem (fun {a b} ha hb hr=>?_) h.2
    have h1:=h.1 a ha
    have h2:=h.1 b hb
    unfold ValidL at h1 h2
    unfold fY at hr
    omega) (by
    intro x hx
    obtain ⟨l,hl,rfl⟩:=List.mem_map.1 hx
    have h1:=h.1 l hl
    unfold ValidL at h1
    omega)
  rw [List.length_map] at this;omega
theorem aDi {s:List Link} (h:∀ x ∈ s,ValidL x):aF s≤145*s.length:=aDj (fun x hx=>(h x hx).sz)
theorem LSet.sz {s:List Link} (h:LSet s):aF s≤14500:=by
  have:=aDi h.1
  have:=h.len
  omega
def lsF:Option Link→List Link→Prop
  | _,[]=>True
  | p,x::r=>ValidL x∧(∀ q,p=some q→fY q x)∧lsF (some x) r
noncomputable instance (p:Option Link) (s:List Link):Decidable (lsF p s):=Classical.propDecidable _
theorem aJQ:∀ (s:List Link) (p:Option Link),lsF p s↔LSet s∧∀ q,p=some q→∀ x ∈ s,fY q x
  | [],p=>by simp [lsF,LSet]
  | x::r,p=>by
    rw [lsF,aJQ r (some x)]
    unfold LSet
    rw [List.pairwise_cons]
    constructor
    · rintro ⟨h1,h2,⟨h3,h4⟩,h5⟩
      refine ⟨⟨fun y hy=>?_,fun y hy=>h5 x rfl y hy,h4⟩,fun q hq y hy=>?_⟩
      · rcases List.mem_cons.1 hy with rfl | hy
        · exact h1
        · exact h3 y hy
      · rcases List.mem_cons.1 hy with rfl | hy
        · exact h2 q hq
        · exact aBh (h2 q hq) (h5 x rfl y hy)
    · rintro ⟨⟨h1,h2,h3⟩,h4⟩
      exact ⟨h1 x (by simp),fun q hq=>h4 q hq x (by simp),⟨fun y hy=>h1 y (by simp [hy]),h3⟩,fun q hq y hy=>by cases hq;exact h2 y hy⟩
theorem lN (s:List Link) (h:aF s≤4294967296):dM s=some (decide (LSet s)):=by
  unfold aF at h
  have hl:=cP aT s
  have main:∀ m k:Nat,m+k=s.length→∀ p:Option Link,(p=if k=0 then none else s[k - 1]?)→lp (eS s) (k:Int)=some (if lsF p (s.drop k) then .inl () else .inr false):=by
    intro m
    induction m with
    | zero =>
      intro k hk p _
      rw [List.drop_eq_nil_of_le (by omega),if_pos (by simp [lsF])]
      exact aL (by unfold eS;rw [if_neg (by omega)])
    | succ m ih =>
      intro k hk p hp
      have hlt:k < s.length:=by omega
      have hz:=fL (w:=aT) (List.getElem_mem hlt)
      have v:=(gA s[k] (by omega)).1
      rw [List.drop_eq_getElem_cons hlt]
      have st:eS s (k:Int)=some (if ValidL s[k]∧(∀ q,p=some q→fY q s[k]) then .inl ((k+1:Nat):Int) else .inr (.inr false)):=by
        have w1:i64.wrap ((k:Int)+1)=((k+1:Nat):Int):=by rw [wi (by omega)];omega
        unfold eS
        rw [if_pos (by omega),aI hlt]
        simp only [Option.bind_some,v,w1]
        by_cases V:ValidL s[k]
        · rw [decide_eq_true V,if_pos rfl]
          by_cases K:k=0
          · subst K
            rw [if_pos rfl] at hp;subst hp
            simp [V]
          · have hlt2:k - 1 < s.length:=by omega
            rw [if_neg K,List.getElem?_eq_getElem hlt2] at hp;subst hp
            have w2:i64.wrap ((k:Int) - 1)=((k - 1:Nat):Int):=by rw [wi (by omega)];omega
            rw [if_pos (by omega),w2,aI hlt2]
            simp only [Option.bind_some,aFR]
            by_cases L:fY s[k - 1] s[k]
            · simp [V,L]
            · simp [L]
        · rw [decide_eq_false V];simp [V]
      by_cases G:ValidL s[k]∧(∀ q,p=some q→fY q s[k])
      · rw [if_pos G] at st
        rw [bD st,ih (k+1) (by omega) (some s[k]) (by rw [if_neg (by omega),Nat.add_sub_cancel,List.getElem?_eq_getElem hlt])]
        have:lsF p (s[k]::s.drop (k+1))↔lsF (some s[k]) (s.drop (k+1)):=by rw [lsF];exact ⟨fun h=>h.2.2,fun h=>⟨G.1,G.2,h⟩⟩
        simp only [this]
      · rw [if_neg G] at st
        rw [aL st,if_neg]
        rw [lsF];exact fun h=>G ⟨h.1,h.2.1⟩
  have:=main s.length 0 (by omega) none (by simp)
  unfold dM
  rw [show ((0:Nat):Int)=0 from rfl,List.drop_zero] at this
  rw [this]
  have e:lsF none s↔LSet s:=by rw [aJQ];exact ⟨fun h=>h.1,fun h=>⟨h,fun q hq=>by cases hq⟩⟩
  by_cases c:LSet s
  · rw [if_pos (e.2 c),decide_eq_true c];rfl
  · rw [if_neg (fun h=>c (e.1 h)),decide_eq_false c];rfl
def eV (l:Link):List Link→Nat
  | []=>0
  | y::r=>if fY y l then eV l r+1 else 0
theorem aJE (l:Link):∀ s:List Link,eV l s≤s.length
  | []=>Nat.le_refl _
  | y::r=>by
    have:=aJE l r
    rw [eV];split <;> simp <;> omega
theorem aDo (l:Link):∀ s:List Link,∀ x ∈ s.take (eV l s),fY x l
  | [],x,h=>by simp [eV] at h
  | y::r,x,h=>by
    rw [eV] at h
    by_cases c:fY y l
    · rw [if_pos c,List.take_succ_cons] at h
      rcases List.mem_cons.1 h with rfl | h
      · exact c
      · exact aDo l r x h
    · rw [if_neg c] at h;simp at h
theorem aBE (l:Link):∀ (s:List Link) (h:eV l s < s.length),¬fY s[eV l s] l
  | [],h=>by simp at h
  | y::r,h=>by
    by_cases c:fY y l
    · have e:eV l (y::r)=eV l r+1:=by rw [eV,if_pos c]
      have h':eV l r < r.length:=by rw [e] at h;simpa using h
      have:=aBE l r h'
      simpa [e] using this
    · have e:eV l (y::r)=0:=by rw [eV,if_neg c]
      simpa [e] using c
theorem aLc (s:List Link) (l:Link) (h:s.length≤4294967296):lp (gN l s) 0=some ((eV l s:Nat):Int):=by
  have main:∀ m k:Nat,m+k=s.length→lp (gN l s) (k:Int)=some ((k+eV l (s.drop k):Nat):Int):=by
    intro m
    induction m with
    | zero =>
      intro k hk
      rw [List.drop_eq_nil_of_le (by omega)]
      refine aL ?_
      unfold gN
      rw [if_neg (by omega)];rfl
    | succ m ih =>
      intro k hk
      have hlt:k < s.length:=by omega
      have w1:i64.wrap ((k:Int)+1)=((k+1:Nat):Int):=by rw [wi (by omega)];omega
      rw [List.drop_eq_getElem_cons hlt,eV]
      have st:gN l s (k:Int)=some (if fY s[k] l then .inl ((k+1:Nat):Int) else .inr (k:Int)):=by
        unfold gN
        rw [if_pos (by omega),aI hlt]
        simp only [Option.bind_some,aFR,w1]
        by_cases L:fY s[k] l <;> simp [L]
      by_cases L:fY s[k] l
      · rw [if_pos L] at st ⊢
        rw [bD st,ih (k+1) (by omega)]
        congr 2;omega
      · rw [if_neg L] at st ⊢
        rw [aL st];rfl
  have:=main s.length 0 (by omega)
  simpa using this
noncomputable def aEh (s:List Link) (l:Link):Option (List Link × Rat) :=
  if h:eV l s < s.length then
    if fY l s[eV l s] then some (s.take (eV l s)++[l]++s.drop (eV l s),xT 0)
    else if aA4 s[eV l s] l then some (s.take (eV l s)++[aCQ s[eV l s] l]++s.drop (eV l s+1),aHg s[eV l s] l) else none
  else some (s.take (eV l s)++[l]++s.drop (eV l s),xT 0)
def pk:Option (List Link × Rat)→List Link × Rat × Bool
  | some (s,e)=>(s,e,true)
  | none=>([],pQ,false)
theorem aFT {s:List Link} {m:Link} {p q:Nat} (hs:LSet s) (hm:ValidL m) (h1:∀ x ∈ s.take p,fY x m) (h2:∀ y ∈ s.drop q,fY m y):LSet (s.take p++[m]++s.drop q):=by
  refine ⟨fun x hx=>?_,?_⟩
  · rw [List.mem_append,List.mem_append,List.mem_singleton] at hx
    rcases hx with (hx | rfl) | hx
    · exact hs.1 x (List.mem_of_mem_take hx)
    · exact hm
    · exact hs.1 x (List.mem_of_mem_drop hx)
  · rw [List.append_assoc,List.pairwise_append]
    refine ⟨hs.2.sublist (List.take_sublist _ _),?_,fun a ha b hb=>?_⟩
    · rw [List.singleton_append,List.pairwise_cons]
      exact ⟨h2,hs.2.sublist (List.drop_sublist _ _)⟩
    · rw [List.singleton_append] at hb
      rcases List.mem_cons.1 hb with rfl | hb
      · exact h1 a ha
      · exact aBh (h1 a ha) (h2 b hb)
theorem aM4 {s:List Link} (h:s.Pairwise fY) {p:Nat} (hp:p < s.length):(∀ x ∈ s.take p,fY x s[p])∧∀ y ∈ s.drop (p+1),fY s[p] y:=by
  have e:s=s.take p++(s[p]::s.drop (p+1)):=by rw [← List.drop_eq_getElem_cons hp,List.take_append_drop]
  rw [e,List.pairwise_append,List.pairwise_cons] at h
  exact ⟨fun x hx=>h.2.2 x hx _ List.mem_cons_self,h.2.1.1⟩
theorem aHq {s:List Link} {l:Link} (hs:LSet s) (hl:ValidL l) {s':List Link} {e:Rat} (h:aEh s l=some (s',e)):LSet s'∧VZ e:=by
  unfold aEh at h
  have z:VZ (xT 0):=.inl (aCg 0 (by omega))
  by_cases c:eV l s < s.length
  · rw [dif_pos c] at h
    obtain ⟨g1,g2⟩:=aM4 hs.2 c
    by_cases c2:fY l s[eV l s]
    · rw [if_pos c2] at h;cases h
      refine ⟨aFT hs hl (aDo l s) (fun y hy=>?_),z⟩
      rw [List.drop_eq_getElem_cons c] at hy
      rcases List.mem_cons.1 hy with rfl | hy
      · exact c2
      · exact aBh c2 (g2 y hy)
    · rw [if_neg c2] at h
      have hv:=hs.1 _ (List.getElem_mem c)
      have nl:=aBE l s c
      have hA:s[eV l s].fA=l.fA∧s[eV l s].fB=l.fB:=by unfold fY at c2 nl;omega
      by_cases O:aA4 s[eV l s] l
      · rw [if_pos O] at h;cases h
        exact ⟨aFT hs (aH0 hv hl O) g1 g2,(aJP hv hl hA.1 hA.2).2.2⟩
      · rw [if_neg O] at h;cases h
  · rw [dif_neg c] at h;cases h
    refine ⟨aFT hs hl (aDo l s) (fun y hy=>?_),z⟩
    rw [List.drop_eq_nil_of_le (by omega)] at hy;cases hy
theorem aHr (s:List Link) (l:Link):wZ s l=gN l s:=rfl
theorem tF {α:Type} (x:α):aY x=some x:=rfl
theorem aGL {s:List Link} {l:Link} (hs:LSet s) (hl:ValidL l):nN s l=some (pk (aEh s l))∧uN s l=some (pk (aEh s l)):=by
  have hlen:=hs.len
  have hp:=aJE l s
  have v:=(gA l (by have:=hl.sz;omega)).1
  have i1:=lN s (by have:=hs.sz;omega)
  have c1:=rV s (by have:=hs.sz;omega)
  have c2:=tX l (by have:=hl.sz;omega)
  have lp1:=aLc s l (by omega)
  have rf1:eF 0=some (xT 0):=kU 0 (by omega)
  have rf2:eH 0=some (xT 0):=lM 0 (by omega)
  have s1:sub s 0 ((eV l s:Nat):Int)=some (s.take (eV l s)):=by rw [vN _ _ _ (by omega)];simp
  have s2:sub s ((eV l s:Nat):Int) (s.length:Int)=some (s.drop (eV l s)):=by
    rw [vN _ _ _ (by omega)];congr 1
    rw [List.take_of_length_le];rfl
    rw [List.length_drop];omega
  have t1:(s.take (eV l s)).length≤100:=by rw [List.length_take];omega
  have t2:(s.drop (eV l s)).length≤100:=by rw [List.length_drop];omega
  unfold nN uN aEh
  rw [aHr,i1,v,decide_eq_true hs,decide_eq_true hl,lp1]
  simp only [Option.bind_some,if_true,Bool.not_true,Bool.false_eq_true,if_false,c1,lp1,s1,s2,tF,List.nil_append]
  rw [aQ (by simp only [List.length_nil,Nat.zero_add];omega)]
  simp only [Option.bind_some]
  by_cases c:eV l s < s.length
  · have c':((eV l s:Nat):Int) < (s.length:Int):=by omega
    have c'':¬((eV l s:Nat):Int)=(s.length:Int):=by omega
    rw [if_pos c',if_neg c'',dif_pos c,aI c]
    simp only [Option.bind_some,aFR,aIC]
    by_cases L:fY l s[eV l s]
    · rw [if_pos L,decide_eq_true L]
      simp only [Bool.not_true,Bool.false_eq_true,if_false,if_true,c2,Option.bind_some,rf1,rf2]
      rw [aQ (by omega)]
      simp only [Option.bind_some]
      rw [aQ (by rw [List.length_append,List.length_singleton];omega)]
      exact ⟨rfl,rfl⟩
    · rw [if_neg L,decide_eq_false L]
      have hv:=hs.1 _ (List.getElem_mem c)
      have nl:=aBE l s c
      have hA:s[eV l s].fA=l.fA∧s[eV l s].fB=l.fB:=by unfold fY at L nl;omega
      obtain ⟨m1,m2,m3⟩:=aJP hv hl hA.1 hA.2
      simp only [Bool.not_false,if_true,Bool.false_eq_true,if_false,m1,m2,Option.bind_some]
      by_cases O:aA4 s[eV l s] l
      · rw [if_pos O,if_pos O]
        have w1:i64.wrap (((eV l s:Nat):Int)+1)=((eV l s+1:Nat):Int):=by rw [wi (by omega)];omega
        have s3:sub s ((eV l s+1:Nat):Int) (s.length:Int)=some (s.drop (eV l s+1)):=by
          rw [vN _ _ _ (by omega)];congr 1
          rw [List.take_of_length_le];rfl
          rw [List.length_drop];omega
        have t3:(s.drop (eV l s+1)).length≤100:=by rw [List.length_drop];omega
        simp only [if_true,w1,s3,Option.bind_some,iG]
        rw [aQ (by omega)]
        simp only [Option.bind_some]
        rw [aQ (by rw [List.length_append,List.length_singleton];omega)]
        refine ⟨?_,rfl⟩
        simp only [pk]
        rw [List.set_eq_take_append_cons_drop,if_pos c,List.append_assoc,List.singleton_append]
      · rw [if_neg O,if_neg O]
        exact ⟨rfl,rfl⟩
  · have c':¬((eV l s:Nat):Int) < (s.length:Int):=by omega
    have c'':((eV l s:Nat):Int)=(s.length:Int):=by omega
    rw [if_neg c',if_pos c'',dif_neg c]
    simp only [Option.bind_some,Bool.false_eq_true,if_false,if_true,c2,rf1,rf2]
    rw [aQ (by omega)]
    simp only [Option.bind_some]
    rw [aQ (by rw [List.length_append,List.length_singleton];omega)]
    exact ⟨rfl,rfl⟩
end Go.Ev
/- Joining links into a link set, both programs. -/
namespace Go.Ev
set_option linter.all false
theorem aNi {r s:Rat} (hr:VZ r) (hs:VZ s) (h:¬bR r):RA r s=pQ:=by
  have q:=(aCz hr hs).1
  unfold dD at q
  rw [fJ r (VZs hr),decide_eq_false h] at q
  simpa [pQ] using q.symm
noncomputable def xH:List Link→List Link→Rat→Option (List Link × Rat)
  | [],s,e=>some (s,e)
  | x::r,s,e=>match aEh s x with
    | none=>none
    | some (s',e')=>if bR (RA e e') then xH r s' (RA e e') else none
theorem aH9:∀ (l s:List Link) (e:Rat),(∀ x ∈ l,ValidL x)→LSet s→bR e→∀ s' e',xH l s e=some (s',e')→LSet s'∧bR e'
  | [],s,e,_,hs,he,s',e',h=>by rw [xH] at h;cases h;exact ⟨hs,he⟩
  | x::r,s,e,hv,hs,he,s',e',h=>by
    rw [xH] at h
    cases ha:aEh s x with
    | none=>rw [ha] at h;cases h
    | some t =>
      obtain ⟨s1,e1⟩:=t
      rw [ha] at h
      simp only [] at h
      obtain ⟨g1,g2⟩:=aHq hs (hv x (by simp)) ha
      by_cases c:bR (RA e e1)
      · rw [if_pos c] at h
        exact aH9 r s1 _ (fun y hy=>hv y (by simp [hy])) g1 c s' e' h
      · rw [if_neg c] at h;cases h
noncomputable instance (l:List Link):Decidable (∀ x ∈ l,ValidL x):=Classical.propDecidable _
def aCc:List Link × Rat × Bool:=([],pQ,false)
theorem aI6 (l:List Link) (hv:∀ x ∈ l,ValidL x) (hl:l.length≤4294967296):∀ m k:Nat,m+k=l.length→∀ s e,LSet s→VZ e →
    lp (gJ l) (s,(k:Int),e)=some (match xH (l.drop k) s e with | some t=>.inl t | none=>.inr aCc):=by
  intro m
  induction m with
  | zero =>
    intro k hk s e hs he
    rw [List.drop_eq_nil_of_le (by omega),xH]
    exact aL (by unfold gJ;simp only [];rw [if_neg (by omega)])
  | succ m ih =>
    intro k hk s e hs he
    have hlt:k < l.length:=by omega
    have hx:=hv _ (List.getElem_mem hlt)
    have w1:IntKind.i64.wrap ((k:Int)+1)=((k+1:Nat):Int):=by rw [wi (by omega)];omega
    have a:=(aGL hs hx).2
    rw [List.drop_eq_getElem_cons hlt,xH]
    cases ha:aEh s l[k] with
    | none =>
      rw [ha] at a
      have g:=(aCz he aBV).2.1
      refine aL ?_
      unfold gJ
      simp only []
      rw [if_pos (by omega),aI hlt]
      simp only [Option.bind_some,a,pk,g]
      rfl
    | some t =>
      obtain ⟨s1,e1⟩:=t
      rw [ha] at a
      obtain ⟨g1,g2⟩:=aHq hs hx ha
      obtain ⟨_,q2,q3⟩:=aCz he g2
      have st:gJ l (s,(k:Int),e)=some (if bR (RA e e1) then .inl (s1,((k+1:Nat):Int),RA e e1) else .inr (.inr aCc)):=by
        unfold gJ
        simp only []
        rw [if_pos (by omega),aI hlt]
        simp only [Option.bind_some,a,pk,q2,iV q3,if_true,w1]
        by_cases c:bR (RA e e1)
        · simp [c]
        · simp [c,aCc,pQ]
      simp only []
      by_cases c:bR (RA e e1)
      · rw [if_pos c] at st ⊢
        rw [bD st]
        exact ih (k+1) (by omega) s1 _ g1 q3
      · rw [if_neg c] at st ⊢
        rw [aL st]
def aLJ:(List Link × Rat) ⊕ (List Link × Rat × Bool)→List Link × Rat × Bool
  | .inl d=>if bR d.2 then (d.1,d.2,true) else aCc
  | .inr x=>x
theorem aI5 (l:List Link) (hz:aF l≤4294967296):∀ m k:Nat,m+k=l.length→∀ s e,LSet s→VZ e →
    ∃ R,lp (eR l) (s,(k:Int),e)=some R∧(∀ d,R=.inl d→VZ d.2)∧aLJ R=pk (if bR e∧(∀ x ∈ l.drop k,ValidL x) then xH (l.drop k) s e else none):=by
  have hl:l.length≤4294967296:=by have:=cP aT l;unfold aF at hz;omega
  intro m
  induction m with
  | zero =>
    intro k hk s e hs he
    refine ⟨.inl (s,e),aL (by unfold eR;simp only [];rw [if_neg (by omega)]),fun d h=>(by cases h;exact he),?_⟩
    rw [List.drop_eq_nil_of_le (by omega),xH]
    by_cases c:bR e
    · simp [aLJ,pk,c]
    · simp [aLJ,pk,c,aCc]
  | succ m ih =>
    intro k hk s e hs he
    have hlt:k < l.length:=by omega
    have w1:IntKind.i64.wrap ((k:Int)+1)=((k+1:Nat):Int):=by rw [wi (by omega)];omega
    have hxz:aT l[k]≤4294967296:=by have:=fL (w:=aT) (List.getElem_mem hlt);unfold aF at hz;omega
    rw [List.drop_eq_getElem_cons hlt]
    by_cases hx:ValidL l[k]
    · have a:=(aGL hs hx).1
      rw [xH]
      cases ha:aEh s l[k] with
      | none =>
        rw [ha] at a
        refine ⟨.inr aCc,aL ?_,fun d h=>(by cases h),?_⟩
        · unfold eR
          simp only []
          rw [if_pos (by omega),aI hlt]
          simp only [Option.bind_some,a,pk]
          rfl
        · simp [aLJ,pk,aCc]
      | some t =>
        obtain ⟨s1,e1⟩:=t
        rw [ha] at a
        obtain ⟨g1,g2⟩:=aHq hs hx ha
        obtain ⟨q1,_,q3⟩:=aCz he g2
        have st:eR l (s,(k:Int),e)=some (.inl (s1,((k+1:Nat):Int),RA e e1)):=by
          unfold eR
          simp only []
          rw [if_pos (by omega),aI hlt]
          simp only [Option.bind_some,a,pk,q1,if_true,w1]
        obtain ⟨R,r1,r2,r3⟩:=ih (k+1) (by omega) s1 _ g1 q3
        refine ⟨R,by rw [bD st];exact r1,r2,?_⟩
        rw [r3]
        simp only []
        by_cases c:bR e
        · by_cases c2:bR (RA e e1)
          · have:(∀ x ∈ l[k]::l.drop (k+1),ValidL x)↔(∀ x ∈ l.drop (k+1),ValidL x):=⟨fun h x hx'=>h x (List.mem_cons_of_mem _ hx'),fun h x hx'=>by rcases List.mem_cons.1 hx' with rfl | h';exact hx;exact h x h'⟩
            simp only [c,c2,true_and,if_true,this]
          · simp only [c,c2,true_and,false_and,if_false,ite_self]
        · have c2:¬bR (RA e e1):=by rw [aNi he g2 c];exact aAU
          simp only [c,c2,false_and,if_false]
    · refine ⟨.inr aCc,aL ?_,fun d h=>(by cases h),?_⟩
      · unfold eR
        simp only []
        rw [if_pos (by omega),aI hlt]
        have a:nN s l[k]=some aCc:=by
          unfold nN
          rw [lN s (by have:=hs.sz;omega),(gA l[k] hxz).1,decide_eq_true hs,decide_eq_false hx]
          rfl
        simp only [Option.bind_some,a,aCc]
        rfl
      · rw [if_neg (fun h=>hx (h.2 _ List.mem_cons_self))];rfl
theorem aGO (l:List Link) (hz:aF l≤4294967296):oW l=some (decide (∀ x ∈ l,ValidL x)):=by
  have hl:l.length≤4294967296:=by have:=cP aT l;unfold aF at hz;omega
  have main:∀ m k:Nat,m+k=l.length→lp (gY l) (k:Int)=some (if (∀ x ∈ l.drop k,ValidL x) then .inl () else .inr false):=by
    intro m
    induction m with
    | zero =>
      intro k hk
      rw [List.drop_eq_nil_of_le (by omega),if_pos (by simp)]
      exact aL (by unfold gY;rw [if_neg (by omega)])
    | succ m ih =>
      intro k hk
      have hlt:k < l.length:=by omega
      have w1:IntKind.i64.wrap ((k:Int)+1)=((k+1:Nat):Int):=by rw [wi (by omega)];omega
      have v:=(gA l[k] (by have:=fL (w:=aT) (List.getElem_mem hlt);unfold aF at hz;omega)).2
      have st:gY l (k:Int)=some (if ValidL l[k] then .inl ((k+1:Nat):Int) else .inr (.inr false)):=by
        unfold gY
        rw [if_pos (by omega),aI hlt]
        simp only [Option.bind_some,v,w1]
        by_cases c:ValidL l[k] <;> simp [c]
      rw [List.drop_eq_getElem_cons hlt]
      by_cases c:ValidL l[k]
      · rw [if_pos c] at st
        rw [bD st,ih (k+1) (by omega)]
        have:(∀ x ∈ l[k]::l.drop (k+1),ValidL x)↔(∀ x ∈ l.drop (k+1),ValidL x):=⟨fun h x hx'=>h x (List.mem_cons_of_mem _ hx'),fun h x hx'=>by rcases List.mem_cons.1 hx' with rfl | h';exact c;exact h x h'⟩
        simp only [this]
      · rw [if_neg c] at st
        rw [aL st,if_neg (fun h=>c (h _ List.mem_cons_self))]
  have:=main l.length 0 (by omega)
  unfold oW
  rw [show ((0:Nat):Int)=0 from rfl,List.drop_zero] at this
  rw [this]
  by_cases c:∀ x ∈ l,ValidL x
  · rw [if_pos c,decide_eq_true c];rfl
  · rw [if_neg c,decide_eq_false c];rfl
theorem aBA:LSet []:=⟨by simp,List.Pairwise.nil⟩
theorem aBD:bR (xT 0):=aCg 0 (by omega)
noncomputable def jnP (l:List Link):Option (List Link × Rat):=if ∀ x ∈ l,ValidL x then xH l [] (xT 0) else none
theorem aDy {l s:List Link} {e:Rat} (h:jnP l=some (s,e)):(∀ x ∈ l,ValidL x)∧LSet s∧bR e:=by
  unfold jnP at h
  by_cases c:∀ x ∈ l,ValidL x
  · rw [if_pos c] at h
    exact ⟨c,aH9 l [] _ c aBA aBD s e h⟩
  · rw [if_neg c] at h;cases h
theorem aBl {l:List Link} (hv:∀ x ∈ l,ValidL x) (hl:l.length≤4294967296):kG l=some (pk (jnP l)):=by
  unfold kG jnP
  rw [lM 0 (by omega),if_pos hv]
  simp only [Option.bind_some]
  have:=aI6 l hv hl l.length 0 (by omega) [] (xT 0) aBA (.inl aBD)
  rw [show ((0:Nat):Int)=0 from rfl,List.drop_zero] at this
  rw [this]
  cases xH l [] (xT 0) with
  | none=>rfl
  | some t=>rfl
theorem aBB (l:List Link) (hz:aF l≤4294967296):jX l=some (pk (jnP l))∧qX l=some (pk (jnP l)):=by
  have hl:l.length≤4294967296:=by have:=cP aT l;unfold aF at hz;omega
  constructor
  · unfold jX
    rw [kU 0 (by omega)]
    simp only [Option.bind_some]
    obtain ⟨R,r1,r2,r3⟩:=aI5 l hz l.length 0 (by omega) [] (xT 0) aBA (.inl aBD)
    rw [show ((0:Nat):Int)=0 from rfl] at r1
    rw [List.drop_zero] at r3
    rw [r1]
    have e:(if bR (xT 0)∧(∀ x ∈ l,ValidL x) then xH l [] (xT 0) else none)=jnP l:=by unfold jnP;simp only [aBD,true_and]
    rw [← e,← r3]
    cases R with
    | inl d =>
      simp only [Option.bind_some]
      rw [fJ d.2 (VZs (r2 d rfl))]
      simp only [Option.bind_some,aLJ]
      by_cases c:bR d.2
      · rw [decide_eq_true c,if_pos c];rfl
      · rw [decide_eq_false c,if_neg c];rfl
    | inr x=>rfl
  · unfold qX
    rw [aGO l hz]
    simp only [Option.bind_some]
    by_cases c:∀ x ∈ l,ValidL x
    · rw [decide_eq_true c,if_pos rfl,aBl c hl]
      simp only [Option.bind_some]
      cases hj:jnP l with
      | none=>rfl
      | some t =>
        obtain ⟨s,e⟩:=t
        obtain ⟨_,g1,_⟩:=aDy hj
        simp only [pk,if_true]
        rw [rI s (by have:=g1.sz;omega)]
        rfl
    · rw [decide_eq_false c]
      unfold jnP
      rw [if_neg c];rfl
end Go.Ev
/- Cliques: their nodes in order. -/
namespace Go.Ev
set_option linter.all false
theorem aCe:∀ {a b:List Int},a.Pairwise (· < ·)→b.Pairwise (· < ·)→(∀ x,x ∈ a↔x ∈ b)→a=b
  | [],[],_,_,_=>rfl
  | [],y::b,_,_,h=>absurd ((h y).2 (by simp)) (by simp)
  | x::a,[],_,_,h=>absurd ((h x).1 (by simp)) (by simp)
  | x::a,y::b,ha,hb,h=>by
    rw [List.pairwise_cons] at ha hb
    have hxy:x=y:=by
      have h1:=(h x).1 (by simp)
      have h2:=(h y).2 (by simp)
      rcases List.mem_cons.1 h1 with e | e
      · exact e
      · rcases List.mem_cons.1 h2 with e' | e'
        · exact e'.symm
        · have:=hb.1 x e;have:=ha.1 y e';omega
    subst hxy
    have:a=b:=aCe ha.2 hb.2 (fun z=>by
      constructor
      · intro hz
        have:=(h z).1 (by simp [hz])
        rcases List.mem_cons.1 this with e | e
        · subst e;have:=ha.1 z hz;omega
        · exact e
      · intro hz
        have:=(h z).2 (by simp [hz])
        rcases List.mem_cons.1 this with e | e
        · subst e;have:=hb.1 z hz;omega
        · exact e)
    rw [this]
def aAR:List Int→Int→List Int
  | [],n=>[n]
  | x::l,n=>if x < n then x::aAR l n else if x=n then x::l else n::x::l
theorem zI:∀ (l:List Int) (n x:Int),x ∈ aAR l n↔x=n∨x ∈ l
  | [],n,x=>by simp [aAR]
  | y::l,n,x=>by
    unfold aAR
    by_cases h1:y < n
    · rw [if_pos h1,List.mem_cons,List.mem_cons,zI l n x]
      constructor
      · rintro (h | h | h) <;> simp [h]
      · rintro (h | h | h) <;> simp [h]
    · rw [if_neg h1]
      by_cases h2:y=n
      · rw [if_pos h2];subst h2;simp
      · rw [if_neg h2];simp
theorem wJ:∀ (l:List Int) (n:Int),l.Pairwise (· < ·)→(aAR l n).Pairwise (· < ·)
  | [],n,_=>by simp [aAR]
  | y::l,n,h=>by
    unfold aAR
    rw [List.pairwise_cons] at h
    by_cases h1:y < n
    · rw [if_pos h1,List.pairwise_cons]
      exact ⟨fun x hx=>by rcases (zI l n x).1 hx with e | e;omega;exact h.1 x e,wJ l n h.2⟩
    · rw [if_neg h1]
      by_cases h2:y=n
      · rw [if_pos h2,List.pairwise_cons];exact h
      · rw [if_neg h2,List.pairwise_cons]
        exact ⟨fun x hx=>by rcases List.mem_cons.1 hx with e | e;omega;have:=h.1 x e;omega,List.pairwise_cons.2 h⟩
theorem zJ:∀ (l:List Int) (n:Int),(aAR l n).length≤l.length+1
  | [],n=>by simp [aAR]
  | y::l,n=>by
    unfold aAR
    split
    · simp [zJ l n]
    · split <;> simp
def oA (l:List Int) (n:Int):Nat:=(l.takeWhile (fun x=>decide (x < n))).length
theorem aI9 (l:List Int) (n:Int):oA l n≤l.length:=by
  unfold oA
  induction l with
  | nil=>simp
  | cons x l ih =>
    rw [List.takeWhile_cons]
    split
    · simpa using ih
    · simp
theorem aDd (x:Int) (l:List Int) (n:Int):oA (x::l) n=if x < n then oA l n+1 else 0:=by
  unfold oA
  rw [List.takeWhile_cons]
  by_cases h:x < n <;> simp [h]
theorem aJD:∀ (l:List Int) (n:Int),aAR l n=if l[oA l n]?=some n then l else l.take (oA l n)++[n]++l.drop (oA l n)
  | [],n=>by simp [aAR,oA]
  | x::l,n=>by
    rw [aDd]
    unfold aAR
    by_cases h:x < n
    · rw [if_pos h,if_pos h,aJD l n]
      simp only [List.getElem?_cons_succ,List.take_succ_cons,List.drop_succ_cons]
      split <;> simp
    · rw [if_neg h,if_neg h]
      by_cases h2:x=n <;> simp [h2]
theorem aK7 (l:List Int) (n:Int) (h:l.length≤4294967296):lp (gC l n) 0=some ((oA l n:Nat):Int):=by
  have main:∀ m k:Nat,m+k=l.length→lp (gC l n) (k:Int)=some ((k+oA (l.drop k) n:Nat):Int):=by
    intro m
    induction m with
    | zero =>
      intro k hk
      have:k=l.length:=by omega
      subst this
      rw [aL (r:=(l.length:Int)) (by unfold gC;rw [if_neg (by omega)];rfl),List.drop_length];simp [oA]
    | succ m ih =>
      intro k hk
      have hlt:k < l.length:=by omega
      rw [List.drop_eq_getElem_cons hlt,aDd]
      by_cases c:l[k] < n
      · rw [if_pos c]
        have e:gC l n (k:Int)=some (.inl ((k:Int)+1)):=by
          unfold gC
          rw [if_pos (by omega),aI hlt,wi (by omega)]
          simp [c]
        rw [bD e,show (k:Int)+1=((k+1:Nat):Int) by omega,ih (k+1) (by omega)]
        congr 2;omega
      · rw [if_neg c]
        have e:gC l n (k:Int)=some (.inr (k:Int)):=by
          unfold gC
          rw [if_pos (by omega),aI hlt]
          simp [c]
        rw [aL e];simp
  have:=main l.length 0 (by omega)
  simpa using this
theorem aHQ (l:List Int) (n:Int) (h:l.length≤4294967296):nE l n=some (aAR l n):=by
  have hf:=aI9 l n
  unfold nE
  rw [aK7 l n h,aJD]
  simp only [Option.bind_some]
  by_cases hlt:oA l n < l.length
  · rw [if_pos (by omega),aI hlt,List.getElem?_eq_getElem hlt]
    simp only [Option.bind_some,decide_eq_true_eq,Option.some.injEq]
    by_cases c:l[oA l n]=n
    · rw [if_pos c,if_pos c]
    · rw [if_neg c,if_neg c,vN _ _ _ (by omega),vN _ _ _ (by omega)]
      simp only [Option.bind_some,aO,List.nil_append]
      rw [aQ (by simp;omega),aQ (by simp;omega),aQ (by simp;omega)]
      simp only [Option.bind_some]
      simp
      rw [List.take_of_length_le (by simp)]
  · have:oA l n=l.length:=by omega
    rw [if_neg (by omega),this,if_neg (by simp)]
    simp only [Option.bind_some,Bool.false_eq_true,if_false]
    rw [vN _ _ _ (by omega),vN _ _ _ (by omega)]
    simp only [Option.bind_some,aO,List.nil_append]
    rw [aQ (by simp;omega),aQ (by simp;omega),aQ (by simp;omega)]
    simp
end Go.Ev
/- The arms of a node of a link set, both programs. -/
namespace Go.Ev
set_option linter.all false
def sC (v:Int) (l:Link):Int:=if l.fA=v then l.fB else l.fA
def tch (v:Int) (l:Link):Bool:=decide (l.fA=v∨l.fB=v)
noncomputable def aBv (v:Int) (l:Link):l08Arm:=if l.fA=v then ⟨l.fB,l.fWeight,RN l.fDX,RN l.fDY⟩ else ⟨l.fA,l.fWeight,l.fDX,l.fDY⟩
noncomputable def bS (v:Int) (s:List Link):List l08Arm:=(s.filter (tch v)).map (aBv v)
theorem aAB (v:Int) (l:Link):(aBv v l).fnode=sC v l:=by unfold aBv sC;split <;> rfl
theorem aGo {s:List Link} (hs:LSet s) (v:Int):((s.filter (tch v)).map (sC v)).Pairwise (· < ·):=by
  rw [List.pairwise_map]
  refine List.Pairwise.imp_of_mem (fun {a b} ha hb hr=>?_) (hs.2.sublist List.filter_sublist)
  rw [List.mem_filter] at ha hb
  have h1:=hs.1 a ha.1
  have h2:=hs.1 b hb.1
  have t1:=ha.2
  have t2:=hb.2
  unfold tch at t1 t2
  rw [decide_eq_true_eq] at t1 t2
  unfold ValidL at h1 h2
  unfold fY at hr
  unfold sC
  split <;> split <;> omega
theorem aM8 {s:List Link} (hs:LSet s) (v:Int):tW s v=some ((s.filter (tch v)).map (sC v)):=by
  have hlen:=hs.len
  unfold tW
  obtain ⟨e1,e2⟩:=jZ (step:=oH s v) s (fun k t=>(t,(k:Int))) (fun t l=>if tch v l then aAR t (sC v l) else t) (fun t=>t)
    (fun k t=>t.length≤k∧t.Pairwise (· < ·)∧∀ x,x ∈ t↔x ∈ ((s.take k).filter (tch v)).map (sC v)) (fun k t hk hI=>by
      obtain ⟨i1,i2,i3⟩:=hI
      have hv:=hs.1 _ (List.getElem_mem hk)
      have w1:IntKind.i64.wrap ((k:Int)+1)=((k+1:Nat):Int):=by rw [wi (by omega)];omega
      refine ⟨?_,?_,?_,?_⟩
      · unfold oH
        simp only []
        rw [if_pos (by omega),aI hk]
        unfold ValidL at hv
        simp only [Option.bind_some,aHQ t _ (by omega:t.length≤4294967296),w1]
        by_cases A:(s[k]).fA=v
        · have B:¬(s[k]).fB=v:=by omega
          simp [A,B,tch,sC]
        · by_cases B:(s[k]).fB=v
          · rw [if_neg A]
            simp only [Option.bind_some]
            rw [if_pos B,aHQ t _ (by omega:t.length≤4294967296)]
            simp [A,B,tch,sC]
          · simp [A,B,tch,sC]
      · have:=zJ t (sC v s[k])
        split <;> omega
      · split
        · exact wJ _ _ i2
        · exact i2
      · intro x
        have tk:s.take (k+1)=s.take k++[s[k]]:=by rw [List.take_add_one,List.getElem?_eq_getElem hk];rfl
        rw [tk,List.filter_append,List.map_append,List.mem_append,← i3 x]
        by_cases T:tch v s[k]=true
        · simp only [T,if_true,zI,List.filter_cons_of_pos,List.filter_nil,List.map_cons,List.map_nil,List.mem_singleton]
          exact Or.comm
        · simp [T]) (fun t _=>by unfold oH;simp only [];rw [if_neg (by omega)]) [] ⟨by simp,List.Pairwise.nil,by simp⟩
  rw [show ((0:Nat):Int)=0 from rfl] at e1
  rw [e1]
  simp only [Option.bind_some]
  congr 1
  obtain ⟨_,g2,g3⟩:=e2
  rw [List.take_length] at g3
  exact aCe g2 (aGo hs v) g3
theorem LSet.uniq {s:List Link} (hs:LSet s) {a b:Link} (ha:a ∈ s) (hb:b ∈ s) (h1:a.fA=b.fA) (h2:a.fB=b.fB):a=b:=by
  obtain ⟨i,hi,rfl⟩:=List.getElem_of_mem ha
  obtain ⟨j,hj,rfl⟩:=List.getElem_of_mem hb
  have pw:=List.pairwise_iff_getElem.1 hs.2
  rcases Nat.lt_trichotomy i j with h | h | h
  · have:=pw i j hi hj h;unfold fY at this;omega
  · subst h;rfl
  · have:=pw j i hj hi h;unfold fY at this;omega
theorem aNa (p q r t:Prop) [Decidable p] [Decidable q] [Decidable r] [Decidable t]:((if p then (if q then some true else (if r then some (decide t) else some false)) else (if r then some (decide t) else some false)):Option Bool)=some (decide ((p∧q)∨(r∧t))):=by
  by_cases p <;> by_cases q <;> by_cases r <;> by_cases t <;> simp [*]
theorem aLZ {s:List Link} (hs:LSet s) {v:Int} {l:Link} (hl:l ∈ s) (ht:tch v l=true):wG s (sC v l) v=some (l,true):=by
  have hlen:=hs.len
  have hv:=hs.1 l hl
  unfold wG
  rw [lN s (by have:=hs.sz;omega),decide_eq_true hs]
  simp only [Option.bind_some,if_true]
  obtain ⟨r,e,q⟩:=aKr (step:=qK s (sC v l) v) s.length (fun r=>r=.inr (l,true)) (fun k=>l ∈ s.drop k) (by simpa using hl) (fun k hk hj=>by
    have hx:=hs.1 _ (List.getElem_mem hk)
    have w1:IntKind.i64.wrap ((k:Int)+1)=((k+1:Nat):Int):=by rw [wi (by omega)];omega
    rw [List.drop_eq_getElem_cons hk] at hj
    have st:qK s (sC v l) v (k:Int)=some (if (((s[k]).fA=sC v l∧(s[k]).fB=v)∨((s[k]).fA=v∧(s[k]).fB=sC v l)) then .inr (.inr (s[k],true)) else .inl ((k+1:Nat):Int)):=by
      unfold qK
      rw [if_pos (by omega),aI hk]
      simp only [Option.bind_some,w1,tX s[k] (by have:=hx.sz;omega)]
      rw [aNa]
      simp only [Option.bind_some]
      by_cases c:((s[k]).fA=sC v l∧(s[k]).fB=v)∨((s[k]).fA=v∧(s[k]).fB=sC v l)
      · rw [if_pos c,decide_eq_true c];rfl
      · rw [if_neg c,decide_eq_false c];rfl
    unfold tch at ht
    rw [decide_eq_true_eq] at ht
    unfold ValidL at hx hv
    by_cases c:((s[k]).fA=sC v l∧(s[k]).fB=v)∨((s[k]).fA=v∧(s[k]).fB=sC v l)
    · rw [if_pos c] at st
      right
      refine ⟨_,st,?_⟩
      have:s[k]=l:=by
        refine hs.uniq (List.getElem_mem hk) hl ?_ ?_
        · unfold sC at c;split at c <;> omega
        · unfold sC at c;split at c <;> omega
      rw [this]
    · rw [if_neg c] at st
      left
      refine ⟨st,?_⟩
      rcases List.mem_cons.1 hj with e | e
      · exfalso;apply c
        rw [← e];unfold sC;split <;> omega
      · exact e) (fun hj=>by rw [List.drop_length] at hj;cases hj)
  rw [e,q];rfl
theorem aMS {r:Rat} (h:VZ r):VZ (RN r):=(aLY h).2.2
def wW (a:l08Arm):Prop:=(0≤a.fnode∧a.fnode≤9)∧VZ a.fweight∧VZ a.fdx∧VZ a.fdy
theorem aIt {v:Int} {l:Link} (h:ValidL l):wW (aBv v l):=by
  obtain ⟨h1,h2,h3⟩:=h.vz
  unfold aBv
  split
  · exact ⟨h.2.1,h1,aMS h2,aMS h3⟩
  · exact ⟨h.1,h1,h2,h3⟩
theorem aFK {s:List Link} (hs:LSet s) (v:Int):∀ a ∈ bS v s,wW a:=by
  intro a ha
  obtain ⟨l,hl,rfl⟩:=List.mem_map.1 ha
  exact aIt (hs.1 l (List.mem_filter.1 hl).1)
theorem aBN {s:List Link} (hs:LSet s) (v:Int):(bS v s).length≤100:=by
  have:=hs.len
  have:=List.length_filter_le (tch v) s
  unfold bS
  rw [List.length_map];omega
theorem aGG {s:List Link} (hs:LSet s) (v:Int):((bS v s).map (·.fnode)).Pairwise (· < ·):=by
  have:=aGo hs v
  unfold bS
  rw [List.map_map]
  have e:(fun a:l08Arm=>a.fnode) ∘ aBv v=sC v:=by funext l;exact aAB v l
  rw [e];exact this
theorem aNc {s:List Link} (hs:LSet s) (v:Int):tV s v=some (bS v s):=by
  have hal:=aBN hs v
  unfold tV
  rw [aM8 hs v]
  simp only [Option.bind_some]
  have hfl:((s.filter (tch v)).map (sC v)).length=(bS v s).length:=by unfold bS;rw [List.length_map,List.length_map]
  have:=wO (step:=oG s v ((s.filter (tch v)).map (sC v))) (bS v s) (fun k t=>((k:Int),t)) (fun t=>t) (fun k t hk ht=>by
    have hk2:k < (s.filter (tch v)).length:=by unfold bS at hk;rwa [List.length_map] at hk
    have hk3:k < ((s.filter (tch v)).map (sC v)).length:=by rwa [List.length_map]
    have hm:=List.mem_filter.1 (List.getElem_mem hk2)
    have w1:IntKind.i64.wrap ((k:Int)+1)=((k+1:Nat):Int):=by rw [wi (by omega)];omega
    have hv:=hs.1 _ hm.1
    obtain ⟨v1,v2,v3⟩:=hv.vz
    have g:=aLZ hs hm.1 hm.2
    have ea:(bS v s)[k]=aBv v (s.filter (tch v))[k]:=by simp only [bS,List.getElem_map]
    unfold oG
    simp only []
    rw [if_pos (by omega),aI hk3,List.getElem_map]
    simp only [Option.bind_some,g,(aLY v2).1,(aLY v3).1,w1]
    rw [ea]
    unfold aBv
    by_cases A:((s.filter (tch v))[k]).fA=v
    · rw [if_pos A,if_pos A]
      simp only [Option.bind_some,sC,A,if_true]
      rw [aQ (by omega)];rfl
    · rw [if_neg A,if_neg A]
      simp only [Option.bind_some,sC,A,if_false]
      rw [aQ (by omega)];rfl) (fun t ht=>by unfold oG;simp only [];rw [if_neg (by omega)])
  rw [show ((0:Nat):Int)=0 from rfl] at this
  rw [this];rfl
end Go.Ev
