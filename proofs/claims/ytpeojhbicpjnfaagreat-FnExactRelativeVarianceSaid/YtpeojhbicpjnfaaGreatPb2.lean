/- Parts PQ6, PQ8, PH, PQ9, PR1, P24, PQ10, PQ11, PU1, PU2, PU3, PU4, PU5. -/
import Derived.Test.YtpeojhbicpjnfaaGreatPb1
import Derived.Test.YtpeojhbicpjnfaaGreatPa1
import Derived.Test.YtpeojhbicpjnfaaGreatLXd
set_option linter.all false
/- Whole numbers and fractions; both programs. -/
namespace Go.Ev
set_option linter.all false
def tL (x:BigInt):Prop:=rU x.fMag∧(x.fNeg=true→x.fMag≠[])
instance (x:BigInt):Decidable (tL x):=by unfold tL;infer_instance
theorem aIr (x:BigInt) (h:x.fMag.length≤4294967296):pX x=some (decide (tL x)):=by
  unfold pX
  rw [aFQ _ h]
  simp only [Option.bind_some]
  by_cases c:rU x.fMag
  · rw [decide_eq_true c]
    simp only [if_true]
    cases hn:x.fNeg with
    | true =>
      simp only [if_true]
      by_cases e:x.fMag=[]
      · rw [decide_eq_false (fun g:tL x=>g.2 hn e),e];rfl
      · have:x.fMag.length≠0:=fun g=>e (List.length_eq_zero_iff.1 g)
        have hb:tL x:=⟨c,fun _=>e⟩
        rw [decide_eq_true hb,decide_eq_false (by omega)];rfl
    | false =>
      have hb:tL x:=⟨c,fun g=>by rw [hn] at g;cases g⟩
      rw [decide_eq_true hb];rfl
  · rw [decide_eq_false c,decide_eq_false (fun g:tL x=>c g.1)];rfl
theorem aIq (x:BigInt) (h:x.fMag.length≤4294967296):pL x=some (decide (tL x)):=by
  unfold pL
  rw [aDh _ h]
  simp only [Option.bind_some]
  by_cases c:rU x.fMag
  · rw [decide_eq_true c]
    simp only [if_true]
    cases hn:x.fNeg with
    | true =>
      simp only [if_true]
      by_cases e:x.fMag=[]
      · rw [decide_eq_false (fun g:tL x=>g.2 hn e),e];rfl
      · have:x.fMag.length≠0:=fun g=>e (List.length_eq_zero_iff.1 g)
        have hb:tL x:=⟨c,fun _=>e⟩
        rw [decide_eq_true hb,decide_eq_true (by omega)]
    | false =>
      have hb:tL x:=⟨c,fun g=>by rw [hn] at g;cases g⟩
      rw [decide_eq_true hb];rfl
  · rw [decide_eq_false c,decide_eq_false (fun g:tL x=>c g.1)];rfl
def aH9 (x:BigInt):Int:=if x.fNeg=true then -(val x.fMag:Int) else (val x.fMag:Int)
theorem aC9 (x:BigInt):(aH9 x).natAbs=val x.fMag:=by unfold aH9;split <;> omega
theorem aJm {x:BigInt} (h:tL x):x=big (aH9 x):=by
  obtain ⟨neg,mag⟩:=x
  unfold big
  rw [aC9]
  have e:=mI h.1
  simp only [] at e ⊢
  rw [← e]
  congr 1
  unfold aH9
  cases neg with
  | true =>
    have:val mag≠0:=fun z=>h.2 rfl (by simp only [] at e ⊢;rw [e,z,bD])
    simp only [if_true]
    rw [decide_eq_true (by omega)]
  | false=>simp
theorem aEe (n m:Int):((!(decide (n < 0) == decide (m < 0)))&&decide (n.natAbs*m.natAbs≠0))=decide (n*m < 0):=by
  rw [← Int.natAbs_mul]
  rcases Int.lt_trichotomy n 0 with h1 | h1 | h1
  · rcases Int.lt_trichotomy m 0 with h2 | h2 | h2
    · have:=Int.mul_pos_of_neg_of_neg h1 h2
      rw [decide_eq_true h1,decide_eq_true h2,decide_eq_false (show ¬n*m < 0 by omega)];rfl
    · subst h2;simp
    · have:=Int.mul_neg_of_neg_of_pos h1 h2
      rw [decide_eq_true h1,decide_eq_false (show ¬m < 0 by omega),decide_eq_true (show (n*m).natAbs≠0 by omega),decide_eq_true this];rfl
  · subst h1;simp
  · rcases Int.lt_trichotomy m 0 with h2 | h2 | h2
    · have:=Int.mul_neg_of_pos_of_neg h1 h2
      rw [decide_eq_false (show ¬n < 0 by omega),decide_eq_true h2,decide_eq_true (show (n*m).natAbs≠0 by omega),decide_eq_true this];rfl
    · subst h2;simp
    · have:=Int.mul_pos h1 h2
      rw [decide_eq_false (show ¬n < 0 by omega),decide_eq_false (show ¬m < 0 by omega),decide_eq_false (show ¬n*m < 0 by omega)];rfl
theorem zD (n:Int):(big n).fMag=aE n.natAbs:=rfl
theorem zB (n:Int):(big n).fNeg=decide (n < 0):=rfl
def bl (n:Int):Nat:=(aE n.natAbs).length
theorem wP (n m:Int):bl (n*m)≤bl n+bl m:=by unfold bl;rw [Int.natAbs_mul];exact eE _ _
theorem aGj (n m:Int):bl (n+m)≤max (bl n) (bl m)+1:=by
  unfold bl
  exact Nat.le_trans (eW (Int.natAbs_add_le n m) (Nat.le_refl _)) (aC1 _ _)
theorem aJl (n:Int):bl (-n)=bl n:=by unfold bl;rw [Int.natAbs_neg]
theorem uI (n m:Int) (hn:bl n≤60) (hm:bl m≤60) (h:bl (n*m)≤60):hZ (big n) (big m)=some (big (n*m)):=by
  unfold hZ
  unfold bl at *
  rw [Int.natAbs_mul] at h
  simp only [big]
  rw [(mS n.natAbs m.natAbs (by omega) (by omega)).2]
  simp only [Option.bind_some]
  rw [sF _ _ h]
  simp only [Option.bind_some]
  rw [aEe,Int.natAbs_mul]
theorem aDM (n:Int) (d:Nat) (h:(aE (n.natAbs*d)).length≤60):cT (decide (n < 0)) (aE (n.natAbs*d))=some (big (n*d)):=by
  rw [pA _ _ h]
  have:=aEe n (d:Int)
  rw [decide_eq_false (show ¬((d:Int) < 0) by omega)] at this
  simp only [Int.natAbs_natCast] at this
  unfold big
  rw [← this]
  simp only [Int.natAbs_mul,Int.natAbs_natCast]
  congr 2
  cases decide (n < 0) <;> rfl
theorem aGL (n m:Int) (h:(decide (n < 0) == decide (m < 0))=true):(n+m).natAbs=n.natAbs+m.natAbs∧(decide (n < 0)&&decide ((n+m).natAbs≠0))=decide (n+m < 0):=by
  by_cases c1:n < 0
  · by_cases c2:m < 0
    · refine ⟨by omega,?_⟩
      rw [decide_eq_true c1,decide_eq_true (by omega),decide_eq_true (by omega)];rfl
    · simp [c1,c2] at h
  · by_cases c2:m < 0
    · simp [c1,c2] at h
    · refine ⟨by omega,?_⟩
      rw [decide_eq_false c1,decide_eq_false (show ¬(n+m < 0) by omega)];rfl
theorem aCb (n m:Int) (h:¬(decide (n < 0) == decide (m < 0))=true) (hle:m.natAbs≤n.natAbs):(n+m).natAbs=n.natAbs - m.natAbs∧(decide (n < 0)&&decide ((n+m).natAbs≠0))=decide (n+m < 0):=by
  by_cases c1:n < 0
  · by_cases c2:m < 0
    · simp [c1,c2] at h
    · refine ⟨by omega,?_⟩
      rw [decide_eq_true c1,Bool.true_and]
      exact decide_eq_decide.2 (by omega)
  · by_cases c2:m < 0
    · refine ⟨by omega,?_⟩
      rw [decide_eq_false c1,decide_eq_false (show ¬(n+m < 0) by omega)];rfl
    · simp [c1,c2] at h
theorem aIa (n m:Int) (hn:bl n≤60) (hm:bl m≤60) (h:bl (n+m)≤60):tE (big n) (big m)=some (big (n+m)):=by
  unfold tE
  unfold bl at *
  by_cases c:(decide (n < 0) == decide (m < 0))=true
  · obtain ⟨e1,e2⟩:=aGL n m c
    rw [if_pos (show ((big n).fNeg == (big m).fNeg)=true from c)]
    simp only [zD,zB]
    rw [aHQ _ _ (by omega) (by omega)]
    simp only [Option.bind_some]
    rw [← e1,sF _ _ h,e2];rfl
  · rw [if_neg (show ¬((big n).fNeg == (big m).fNeg)=true from c)]
    simp only [zD,zB]
    rw [aCL _ _ (by omega) (by omega)]
    simp only [Option.bind_some]
    by_cases c2:m.natAbs≤n.natAbs
    · obtain ⟨e1,e2⟩:=aCb n m c c2
      have c3:0≤pZ n.natAbs m.natAbs:=by unfold pZ;rw [if_neg (by omega)];split <;> omega
      rw [if_pos c3,(vJ _ _ (by omega) c2).2]
      simp only [Option.bind_some]
      rw [← e1,sF _ _ h,e2];rfl
    · obtain ⟨e1,e2⟩:=aCb m n (by rw [Bool.beq_comm];exact c) (by omega)
      have c3:¬0≤pZ n.natAbs m.natAbs:=by unfold pZ;rw [if_pos (by omega)];omega
      rw [if_neg c3,(vJ _ _ (by omega) (by omega)).2]
      simp only [Option.bind_some]
      rw [← e1,Int.add_comm m n] at *
      rw [sF _ _ h,e2];rfl
theorem aFq (n m:Int) (hn:bl n≤60) (hm:bl m≤60) (h:bl (n+m)≤60):qP (big n) (big m)=some (big (n+m)):=by
  unfold qP
  unfold bl at *
  by_cases c:(decide (n < 0) == decide (m < 0))=true
  · obtain ⟨e1,e2⟩:=aGL n m c
    rw [if_pos (show ((big n).fNeg == (big m).fNeg)=true from c)]
    simp only [zD,zB]
    rw [aFs _ _ (by omega) (by omega)]
    simp only [Option.bind_some]
    rw [← e1,pA _ _ h,e2];rfl
  · rw [if_neg (show ¬((big n).fNeg == (big m).fNeg)=true from c)]
    simp only [zD,zB]
    rw [yD _ _ (by omega) (by omega)]
    simp only [Option.bind_some]
    by_cases c2:m.natAbs≤n.natAbs
    · obtain ⟨e1,e2⟩:=aCb n m c c2
      have c3:0≤pZ n.natAbs m.natAbs:=by unfold pZ;rw [if_neg (by omega)];split <;> omega
      rw [if_pos c3,(vJ _ _ (by omega) c2).1]
      simp only [Option.bind_some]
      rw [← e1,pA _ _ h,e2];rfl
    · obtain ⟨e1,e2⟩:=aCb m n (by rw [Bool.beq_comm];exact c) (by omega)
      have c3:¬0≤pZ n.natAbs m.natAbs:=by unfold pZ;rw [if_pos (by omega)];omega
      rw [if_neg c3,(vJ _ _ (by omega) (by omega)).1]
      simp only [Option.bind_some]
      rw [← e1,Int.add_comm m n] at *
      rw [pA _ _ h,e2];rfl
def pE:Rat:=Rat.mk (BigInt.mk false []) []
def mkR (s:Bool) (x y:Nat):Rat :=
  if y=0 then pE else if 24 < (aE (x / Nat.gcd x y)).length∨24 < (aE (y / Nat.gcd x y)).length then pE
  else ⟨⟨s&&decide (x / Nat.gcd x y≠0),aE (x / Nat.gcd x y)⟩,aE (y / Nat.gcd x y)⟩
theorem aIs:aU pE≤48:=by decide
theorem aGH {x y:Nat} (hx:(aE x).length≤700) (hy:(aE y).length≤700):(aE (Nat.gcd x y)).length≤700:=by
  by_cases c:x=0
  · subst c;rw [Nat.gcd_zero_left];exact hy
  · exact Nat.le_trans (eW (Nat.gcd_le_left y (Nat.pos_of_ne_zero c)) (Nat.le_refl _)) hx
theorem aBe (s t:Bool) (x y:Nat) (hx:(aE x).length≤60) (hy:(aE y).length≤60):mK ⟨s,aE x⟩ ⟨t,aE y⟩=some (mkR (!(s == t)) x y):=by
  unfold mK mkR
  simp only []
  by_cases c:y=0
  · rw [if_pos c,if_pos (by rw [c,bD];rfl)];rfl
  · have hl:(aE y).length≠0:=fun e=>eR c (List.length_eq_zero_iff.1 e)
    have hg:=aGH (x:=x) (y:=y) (by omega) (by omega)
    have hg0:0 < Nat.gcd x y:=Nat.gcd_pos_of_pos_right x (Nat.pos_of_ne_zero c)
    rw [if_neg c,if_neg (by omega),aFh x y (by omega) (by omega)]
    simp only [Option.bind_some]
    rw [aCK x _ hg0 (by omega) hg,aCK y _ hg0 (by omega) hg]
    simp only [Option.bind_some]
    have l1:=aIK x (Nat.gcd x y)
    by_cases c1:24 < (aE (x / Nat.gcd x y)).length
    · rw [if_pos (by omega),if_pos (.inl c1)];rfl
    · rw [if_neg (by omega)]
      by_cases c2:24 < (aE (y / Nat.gcd x y)).length
      · rw [if_pos (.inr c2),decide_eq_true (by omega)];rfl
      · rw [if_neg (by omega),decide_eq_false (by omega)]
        simp only [Option.bind_some,Bool.false_eq_true,if_false]
        rw [sF _ _ (by omega)];rfl
theorem jM:([1]:List Int)=aE 1:=by rw [rO (by rw [dN];omega) (by omega)];rfl
theorem aDX (x:Nat):gY (aE x)=some (decide (x=1)):=by
  unfold gY
  by_cases c:x=1
  · subst c;rw [← jM];simp [idx]
  · rw [decide_eq_false c]
    by_cases h:(aE x).length=1
    · have hx:x < BB:=by have:=nJ x;rw [h,Nat.pow_one] at this;exact this
      have h0:x≠0:=by rintro rfl;rw [bD] at h;simp at h
      rw [if_pos (by omega),show (0:Int)=((0:Nat):Int) from rfl,aW (by omega)]
      simp only [rO hx h0,List.getElem_cons_zero,Option.bind_some]
      rw [decide_eq_false (by omega)]
    · rw [if_neg (by omega)]
theorem aAW (s:Bool) (x y:Nat) (hx:(aE x).length≤60) (hy:(aE y).length≤60):mA s (aE x) (aE y)=some (mkR s x y):=by
  unfold mA mkR
  rw [vY (eB x) (by omega),vY (eB y) (by omega),dH,dH]
  simp only [Option.bind_some]
  by_cases c:y=0
  · rw [if_pos c,if_pos (by rw [c,bD];rfl)];rfl
  · have hl:(aE y).length≠0:=fun e=>eR c (List.length_eq_zero_iff.1 e)
    have hg:=aGH (x:=x) (y:=y) (by omega) (by omega)
    have hg0:0 < Nat.gcd x y:=Nat.gcd_pos_of_pos_right x (Nat.pos_of_ne_zero c)
    rw [if_neg c,if_neg (by omega),aDX]
    simp only [Option.bind_some]
    have key:((if decide (y=1)=true then some (aE x,aE y) else (nR (aE x) (aE y)).bind fun r4=>(gY r4).bind fun r5=>(if r5=true then some (aE x,aE y) else (kA (aE x) r4).bind fun r6=>(kA (aE y) r4).bind fun r7=>some (r6.1,r7.1))):Option ((List Int) × (List Int)))=some (aE (x / Nat.gcd x y),aE (y / Nat.gcd x y)):=by
      by_cases c1:y=1
      · rw [decide_eq_true c1,if_pos rfl,c1,Nat.gcd_one_right,Nat.div_one,Nat.div_one]
      · rw [decide_eq_false c1,if_neg (by simp),aFr x y (by omega) (by omega)]
        simp only [Option.bind_some]
        rw [aDX]
        simp only [Option.bind_some]
        by_cases c2:Nat.gcd x y=1
        · rw [decide_eq_true c2,if_pos rfl,c2,Nat.div_one,Nat.div_one]
        · rw [decide_eq_false c2,if_neg (by simp),aCU x _ hg0 (by omega) hg,aCU y _ hg0 (by omega) hg];rfl
    rw [key]
    simp only [Option.bind_some]
    by_cases c1:24 < (aE (x / Nat.gcd x y)).length
    · rw [if_pos (by omega),if_pos (.inl c1)];rfl
    · rw [if_neg (by omega)]
      by_cases c2:24 < (aE (y / Nat.gcd x y)).length
      · rw [if_pos (.inr c2),decide_eq_true (by omega)];rfl
      · rw [if_neg (by omega),decide_eq_false (by omega)]
        simp only [Option.bind_some,Bool.false_eq_true,if_false]
        rw [pA _ _ (by omega)]
        simp only [Option.bind_some]
        rw [bM (by simp;omega)]
        simp only [Option.bind_some,aN,List.nil_append]
def dL (r:Rat):Prop:=tL r.fNum∧rU r.fDen∧r.fDen≠[]∧r.fDen.length≤24∧r.fNum.fMag.length≤24∧Nat.gcd (val r.fNum.fMag) (val r.fDen)=1
instance (r:Rat):Decidable (dL r):=by unfold dL;infer_instance
theorem aHE (r:Rat) (h:aU r≤4294967296):r.fNum.fMag.length≤4294967296∧r.fDen.length≤4294967296:=by
  unfold aU cR gG at h
  simp only [sP] at h;omega
theorem aDb (r:Rat) (h:aU r≤4294967296):qM r=some (decide (dL r)):=by
  obtain ⟨h1,h2⟩:=aHE r h
  unfold qM
  rw [aIr _ h1]
  simp only [Option.bind_some]
  by_cases c1:tL r.fNum
  · rw [decide_eq_true c1,if_pos rfl,aFQ _ h2]
    simp only [Option.bind_some]
    by_cases c2:rU r.fDen
    · rw [decide_eq_true c2,if_pos rfl]
      simp only [Option.bind_some]
      by_cases c3:r.fDen=[]
      · rw [decide_eq_false (fun g:dL r=>g.2.2.1 c3),decide_eq_true (by rw [c3];rfl)];rfl
      · have hn:r.fDen.length≠0:=fun e=>c3 (List.length_eq_zero_iff.1 e)
        rw [decide_eq_false (show ¬((r.fDen.length:Int)=0) by omega)]
        simp only [Bool.false_eq_true,if_false]
        by_cases c4:24 < r.fNum.fMag.length
        · rw [if_pos (by omega),decide_eq_false (fun g:dL r=>by have:=g.2.2.2.2.1;omega)];rfl
        · rw [if_neg (by omega)]
          by_cases c5:24 < r.fDen.length
          · rw [decide_eq_true (show (24:Int) < r.fDen.length by omega),decide_eq_false (fun g:dL r=>by have:=g.2.2.2.1;omega)];rfl
          · rw [decide_eq_false (show ¬(24:Int) < r.fDen.length by omega)]
            simp only [Option.bind_some,Bool.false_eq_true,if_false]
            have e1:=mI c1.1
            have e2:=mI c2
            have g:=aFh (val r.fNum.fMag) (val r.fDen) (by rw [← e1];omega) (by rw [← e2];omega)
            rw [← e1,← e2] at g
            rw [g]
            have o:=aDX (Nat.gcd (val r.fNum.fMag) (val r.fDen))
            unfold gY at o
            simp only [Option.bind_some]
            rw [o]
            congr 1
            exact decide_eq_decide.2 ⟨fun q=>⟨c1,c2,c3,by omega,by omega,q⟩,fun q=>q.2.2.2.2.2⟩
    · rw [decide_eq_false c2,decide_eq_false (fun g:dL r=>c2 g.2.1)];rfl
  · rw [decide_eq_false c1,decide_eq_false (fun g:dL r=>c1 g.1)];rfl
theorem nB (r:Rat) (h:aU r≤4294967296):dY r=some (decide (dL r)):=by
  obtain ⟨h1,h2⟩:=aHE r h
  unfold dY
  rw [aIq _ h1]
  simp only [Option.bind_some]
  by_cases c1:tL r.fNum
  · rw [decide_eq_true c1,if_pos rfl,aDh _ h2]
    simp only [Option.bind_some]
    by_cases c2:rU r.fDen
    · rw [decide_eq_true c2,if_pos rfl]
      by_cases c3:r.fDen=[]
      · rw [decide_eq_false (fun g:dL r=>g.2.2.1 c3),if_pos (by rw [c3];rfl)];rfl
      · have hn:r.fDen.length≠0:=fun e=>c3 (List.length_eq_zero_iff.1 e)
        rw [if_neg (by omega)]
        by_cases c5:24 < r.fDen.length
        · rw [if_pos (by omega),decide_eq_false (fun g:dL r=>by have:=g.2.2.2.1;omega)];rfl
        · rw [if_neg (by omega)]
          by_cases c4:24 < r.fNum.fMag.length
          · rw [decide_eq_true (show (24:Int) < r.fNum.fMag.length by omega),decide_eq_false (fun g:dL r=>by have:=g.2.2.2.2.1;omega)];rfl
          · rw [decide_eq_false (show ¬(24:Int) < r.fNum.fMag.length by omega)]
            simp only [Option.bind_some,Bool.false_eq_true,if_false]
            have e1:=mI c1.1
            have e2:=mI c2
            have g:=aFr (val r.fNum.fMag) (val r.fDen) (by rw [← e1];omega) (by rw [← e2];omega)
            rw [← e1,← e2] at g
            rw [g]
            simp only [Option.bind_some]
            rw [aDX]
            simp only [Option.bind_some]
            congr 1
            exact decide_eq_decide.2 ⟨fun q=>⟨c1,c2,c3,by omega,by omega,q⟩,fun q=>q.2.2.2.2.2⟩
    · rw [decide_eq_false c2,decide_eq_false (fun g:dL r=>c2 g.2.1)];rfl
  · rw [decide_eq_false c1,decide_eq_false (fun g:dL r=>c1 g.1)];rfl
theorem wA {r:Rat} (h:dL r):∃ (n:Int) (d:Nat),r=⟨big n,aE d⟩∧0 < d∧bl n≤24∧(aE d).length≤24∧Nat.gcd n.natAbs d=1:=by
  obtain ⟨h1,h2,h3,h4,h5,h6⟩:=h
  have e1:=aJm h1
  have e2:=mI h2
  refine ⟨aH9 r.fNum,val r.fDen,?_,?_,?_,by rw [← e2];exact h4,by rw [aC9];exact h6⟩
  · rw [← e1,← e2]
  · rcases Nat.eq_zero_or_pos (val r.fDen) with z | z
    · rw [z,bD] at e2;exact absurd e2 h3
    · exact z
  · unfold bl;rw [aC9,← mI h1.1];exact h5
theorem zC (d:Nat):(⟨false,aE d⟩:BigInt)=big (d:Int):=by
  unfold big
  rw [decide_eq_false (by omega),Int.natAbs_natCast]
theorem aAo {n:Int} {d:Nat} (h:0 < d):iG ⟨big n,aE d⟩=some true:=by
  unfold iG
  have:(aE d).length≠0:=fun e=>eR (n:=d) (by omega) (List.length_eq_zero_iff.1 e)
  simp only []
  rw [decide_eq_true (by omega)]
def aHo (n:Int) (d:Nat) (m:Int) (e:Nat):Rat:=mkR (decide (n*e+m*d < 0)) (n*e+m*d).natAbs (d*e)
theorem aCB (n:Int) (d:Nat) (m:Int) (e:Nat) (hd:0 < d) (he:0 < e) (h1:bl n≤24) (h2:(aE d).length≤24) (h3:bl m≤24) (h4:(aE e).length≤24):dR ⟨big n,aE d⟩ ⟨big m,aE e⟩=some (aHo n d m e):=by
  unfold dR
  rw [aAo hd,aAo he]
  simp only [Option.bind_some,if_true,Bool.not_true,Bool.false_eq_true,if_false,gS]
  have b1:bl (e:Int)≤24:=by unfold bl;rw [Int.natAbs_natCast];exact h4
  have b2:bl (d:Int)≤24:=by unfold bl;rw [Int.natAbs_natCast];exact h2
  have b3:=wP n e
  have b4:=wP m d
  have b5:=aGj (n*e) (m*d)
  have b6:=wP d e
  rw [zC,zC,uI n e (by omega) (by omega) (by omega),uI m d (by omega) (by omega) (by omega)]
  simp only [Option.bind_some]
  rw [aIa _ _ (by omega) (by omega) (by omega),uI d e (by omega) (by omega) (by omega)]
  simp only [Option.bind_some]
  unfold big aHo
  unfold bl at b5 b6 b1 b2 b3 b4 h1 h3
  rw [aBe _ _ _ _ (by omega) (by omega)]
  have:decide ((d:Int)*(e:Int) < 0)=false:=decide_eq_false (by have:=Int.mul_nonneg (a:=(d:Int)) (b:=(e:Int)) (by omega) (by omega);omega)
  rw [this,Int.natAbs_mul,Int.natAbs_natCast,Int.natAbs_natCast]
  simp only [Option.bind_some]
  congr 2
  cases decide (n*(e:Int)+m*(d:Int) < 0) <;> rfl
theorem aFp (n:Int) (d:Nat) (m:Int) (e:Nat) (hd:0 < d) (he:0 < e) (h1:bl n≤24) (h2:(aE d).length≤24) (h3:bl m≤24) (h4:(aE e).length≤24):qO ⟨big n,aE d⟩ ⟨big m,aE e⟩=some (aHo n d m e):=by
  have b1:bl (e:Int)≤24:=by unfold bl;rw [Int.natAbs_natCast];exact h4
  have b2:bl (d:Int)≤24:=by unfold bl;rw [Int.natAbs_natCast];exact h2
  have b3:=wP n e
  have b4:=wP m d
  have b5:=aGj (n*e) (m*d)
  have b7:=aGj n m
  have b6:=eE d e
  unfold qO
  simp only []
  rw [aDX,aDX]
  simp only [Option.bind_some]
  have key:((if decide (d=1)=true then some (decide (e=1)) else some false):Option Bool)=some (decide (d=1∧e=1)):=by
    by_cases c:d=1 <;> simp [c]
  rw [key]
  simp only [Option.bind_some]
  by_cases c:d=1∧e=1
  · rw [decide_eq_true c,if_pos rfl,aFq n m (by omega) (by omega) (by omega)]
    simp only [Option.bind_some]
    obtain ⟨c1,c2⟩:=c
    unfold aHo
    rw [jM]
    unfold bl at b7 h1 h3
    simp only [big]
    rw [aAW _ _ _ (by omega) (by rw [← jM];simp),c1,c2]
    simp
  · rw [decide_eq_false c,if_neg (by simp)]
    have p1:(aE (n.natAbs*e)).length≤48:=by have:=eE n.natAbs e;unfold bl at h1;omega
    have p2:(aE (m.natAbs*d)).length≤48:=by have:=eE m.natAbs d;unfold bl at h3;omega
    have q1:dE (big n).fMag (aE e)=some (aE (n.natAbs*e)):=by unfold bl at h1;exact (mS n.natAbs e (by omega) (by omega)).1
    have q2:dE (big m).fMag (aE d)=some (aE (m.natAbs*d)):=by unfold bl at h3;exact (mS m.natAbs d (by omega) (by omega)).1
    have q3:cT (big n).fNeg (aE (n.natAbs*e))=some (big (n*e)):=aDM n e (by omega)
    have q4:cT (big m).fNeg (aE (m.natAbs*d))=some (big (m*d)):=aDM m d (by omega)
    rw [q1]
    simp only [Option.bind_some]
    rw [q3]
    simp only [Option.bind_some]
    rw [q2]
    simp only [Option.bind_some]
    rw [q4]
    simp only [Option.bind_some]
    rw [aFq _ _ (by omega) (by omega) (by omega)]
    simp only [Option.bind_some]
    rw [(mS d e (by omega) (by omega)).1]
    simp only [Option.bind_some]
    unfold aHo
    unfold bl at b5 b3 b4 h1 h3 b1 b2
    simp only [big]
    rw [aAW _ _ _ (by omega) (by omega)];rfl
end Go.Ev
/- Fractions: the interface that both programs meet. -/
namespace Go.Ev
set_option linter.all false
def VZ (r:Rat):Prop:=dL r∨r=pE
theorem vI:¬dL pE:=fun h=>h.2.2.1 rfl
theorem uQ:VZ pE:=.inr rfl
theorem aDa {r:Rat} (h:VZ r):aU r≤48:=by
  rcases h with h | h
  · unfold aU cR gG
    simp only [sP]
    have h1:=h.2.2.2.1
    have h2:=h.2.2.2.2.1
    omega
  · subst h;exact aIs
theorem aC0 {n:Nat} (h:0 < n):aE n≠[]:=eR (by omega)
theorem aEv (s:Bool) (x y:Nat):VZ (mkR s x y):=by
  unfold mkR
  by_cases c:y=0
  · rw [if_pos c];exact uQ
  · rw [if_neg c]
    by_cases c2:24 < (aE (x / Nat.gcd x y)).length∨24 < (aE (y / Nat.gcd x y)).length
    · rw [if_pos c2];exact uQ
    · rw [if_neg c2]
      left
      have hg0:0 < Nat.gcd x y:=Nat.gcd_pos_of_pos_right x (Nat.pos_of_ne_zero c)
      have hy:0 < y / Nat.gcd x y:=Nat.div_pos (Nat.gcd_le_right x (Nat.pos_of_ne_zero c)) hg0
      refine ⟨⟨aAI (by omega),fun h=>?_⟩,aAI (by omega),aC0 hy,by show (aE (y / Nat.gcd x y)).length≤24;omega,by show (aE (x / Nat.gcd x y)).length≤24;omega,?_⟩
      · simp only [Bool.and_eq_true,decide_eq_true_eq] at h
        exact eR h.2
      · simp only [dH]
        have:=Nat.gcd_div (Nat.gcd_dvd_left x y) (Nat.gcd_dvd_right x y)
        rw [this,Nat.div_self hg0]
theorem aGD {s s':Bool} {x y:Nat} (h:x≠0→s=s'):mkR s x y=mkR s' x y:=by
  by_cases c:x=0
  · subst c;unfold mkR;simp
  · rw [h c]
theorem mM {r:Rat} (h:VZ r):iG r=some (decide (dL r)):=by
  unfold iG
  rcases h with h | h
  · have:r.fDen.length≠0:=fun e=>h.2.2.1 (List.length_eq_zero_iff.1 e)
    rw [decide_eq_true h,decide_eq_true (by omega)]
  · subst h
    rw [decide_eq_false vI];rfl
theorem aFO (r s:Rat) (hr:aU r≤4294967296) (hs:aU s≤4294967296):∃ t,jA r s=some t∧VZ t∧(VZ r→VZ s→dR r s=some t):=by
  unfold jA
  rw [nB r hr]
  simp only [Option.bind_some]
  by_cases c1:dL r
  · rw [decide_eq_true c1,if_pos rfl,nB s hs]
    simp only [Option.bind_some]
    by_cases c2:dL s
    · rw [decide_eq_true c2]
      obtain ⟨n,d,e1,e2,e3,e4,_⟩:=wA c1
      obtain ⟨m,e,g1,g2,g3,g4,_⟩:=wA c2
      subst e1;subst g1
      simp only [Bool.not_true,Bool.false_eq_true,if_false]
      have q:=aCB n d m e e2 g2 e3 e4 g3 g4
      rw [aFp n d m e e2 g2 e3 e4 g3 g4]
      exact ⟨_,rfl,aEv _ _ _,fun _ _=>q⟩
    · rw [decide_eq_false c2]
      refine ⟨pE,rfl,uQ,fun v1 v2=>?_⟩
      unfold dR
      rw [mM v1,mM v2,decide_eq_true c1,decide_eq_false c2];rfl
  · rw [decide_eq_false c1]
    refine ⟨pE,rfl,uQ,fun v1 v2=>?_⟩
    unfold dR
    rw [mM v1,decide_eq_false c1];rfl
def aIE (n:Int) (d:Nat) (m:Int) (e:Nat):Rat:=mkR (!(decide (n < 0) == decide (m < 0))) (n.natAbs*m.natAbs) (d*e)
theorem aFc (n:Int) (d:Nat) (m:Int) (e:Nat) (hd:0 < d) (he:0 < e) (h1:bl n≤24) (h2:(aE d).length≤24) (h3:bl m≤24) (h4:(aE e).length≤24):eK ⟨big n,aE d⟩ ⟨big m,aE e⟩=some (aIE n d m e):=by
  unfold eK
  rw [aAo hd,aAo he]
  simp only [Option.bind_some,if_true,Bool.not_true,Bool.false_eq_true,if_false,gS]
  have b1:bl (e:Int)≤24:=by unfold bl;rw [Int.natAbs_natCast];exact h4
  have b2:bl (d:Int)≤24:=by unfold bl;rw [Int.natAbs_natCast];exact h2
  have b3:=wP n m
  have b6:=wP d e
  rw [uI n m (by omega) (by omega) (by omega),zC,zC,uI d e (by omega) (by omega) (by omega)]
  simp only [Option.bind_some]
  unfold big aIE
  unfold bl at b6 b1 b2 b3 h1 h3
  rw [aBe _ _ _ _ (by omega) (by omega)]
  have:decide ((d:Int)*(e:Int) < 0)=false:=decide_eq_false (by have:=Int.mul_nonneg (a:=(d:Int)) (b:=(e:Int)) (by omega) (by omega);omega)
  rw [this,Int.natAbs_mul,Int.natAbs_mul,Int.natAbs_natCast,Int.natAbs_natCast]
  simp only [Option.bind_some]
  congr 1
  refine aGD fun hx=>?_
  have q:=aEe n m
  rw [decide_eq_true hx,Bool.and_true] at q
  rw [← q]
  cases decide (n < 0) <;> cases decide (m < 0) <;> rfl
theorem aHV (n:Int) (d:Nat) (m:Int) (e:Nat) (h1:bl n≤24) (h2:(aE d).length≤24) (h3:bl m≤24) (h4:(aE e).length≤24):sR ⟨big n,aE d⟩ ⟨big m,aE e⟩=some (aIE n d m e):=by
  unfold bl at h1 h3
  have b1:=eE n.natAbs m.natAbs
  have b2:=eE d e
  unfold sR
  simp only [big]
  rw [(mS _ _ (by omega) (by omega)).1]
  simp only [Option.bind_some]
  rw [(mS _ _ (by omega) (by omega)).1]
  simp only [Option.bind_some]
  rw [aAW _ _ _ (by omega) (by omega)]
  rfl
theorem aIc (r s:Rat) (hr:aU r≤4294967296) (hs:aU s≤4294967296):∃ t,kB r s=some t∧VZ t∧(VZ r→VZ s→eK r s=some t):=by
  unfold kB
  rw [nB r hr]
  simp only [Option.bind_some]
  by_cases c1:dL r
  · rw [decide_eq_true c1,if_pos rfl,nB s hs]
    simp only [Option.bind_some]
    by_cases c2:dL s
    · rw [decide_eq_true c2]
      obtain ⟨n,d,e1,e2,e3,e4,_⟩:=wA c1
      obtain ⟨m,e,g1,g2,g3,g4,_⟩:=wA c2
      subst e1;subst g1
      simp only [Bool.not_true,Bool.false_eq_true,if_false]
      rw [aHV n d m e e3 e4 g3 g4]
      exact ⟨_,rfl,aEv _ _ _,fun _ _=>aFc n d m e e2 g2 e3 e4 g3 g4⟩
    · rw [decide_eq_false c2]
      refine ⟨pE,rfl,uQ,fun v1 v2=>?_⟩
      unfold eK
      rw [mM v1,mM v2,decide_eq_true c1,decide_eq_false c2];rfl
  · rw [decide_eq_false c1]
    refine ⟨pE,rfl,uQ,fun v1 v2=>?_⟩
    unfold eK
    rw [mM v1,decide_eq_false c1];rfl
def aBc (r:Rat):Int:=if dL r then (if r.fNum.fMag=[] then 0 else if r.fNum.fNeg=true then -1 else 1) else 0
theorem aCr {r:Rat} (h:0 < aBc r):dL r:=by
  unfold aBc at h
  by_cases c:dL r
  · exact c
  · rw [if_neg c] at h;omega
theorem aBq (r:Rat) (hr:aU r≤4294967296):mG r=some (aBc r)∧pB r=some (aBc r):=by
  unfold mG pB aBc
  rw [aDb r hr,nB r hr]
  simp only [Option.bind_some]
  by_cases c1:dL r
  · rw [decide_eq_true c1,if_pos c1,if_pos rfl,if_pos rfl]
    unfold tS
    rw [mM (.inl c1),decide_eq_true c1]
    simp only [Option.bind_some,if_true]
    by_cases c2:r.fNum.fMag=[]
    · rw [if_pos c2,decide_eq_true (by rw [c2];rfl)];exact ⟨rfl,rfl⟩
    · have:r.fNum.fMag.length≠0:=fun e=>c2 (List.length_eq_zero_iff.1 e)
      rw [if_neg c2,decide_eq_false (by omega)]
      simp only [Bool.false_eq_true,if_false]
      cases r.fNum.fNeg <;> exact ⟨rfl,rfl⟩
  · rw [decide_eq_false c1,if_neg c1];exact ⟨rfl,rfl⟩
theorem aI0 (a b:List Int) (h:a.length≤4294967296):oU a b=some (decide (a=b)):=by
  unfold oU
  by_cases c:a.length=b.length
  · rw [if_neg (by omega)]
    have main:∀ m k:Nat,m+k=a.length→lp (iK a b) (k:Int)=some (if a.drop k=b.drop k then .inl () else .inr false):=by
      intro m
      induction m with
      | zero =>
        intro k hk
        rw [if_pos (by rw [List.drop_eq_nil_of_le (by omega),List.drop_eq_nil_of_le (by omega)])]
        exact bE (by unfold iK;rw [if_neg (by omega)])
      | succ m ih =>
        intro k hk
        have h1:k < a.length:=by omega
        have h2:k < b.length:=by omega
        by_cases e:a[k]=b[k]
        · have s1:iK a b (k:Int)=some (.inl ((k+1:Nat):Int)):=by
            unfold iK
            rw [if_pos (by omega),aW h1,aW h2,wi (by omega)];simp [e]
          rw [bV s1,ih (k+1) (by omega)]
          have:a.drop k=b.drop k↔a.drop (k+1)=b.drop (k+1):=by
            rw [List.drop_eq_getElem_cons h1,List.drop_eq_getElem_cons h2,List.cons.injEq]
            exact ⟨fun h=>h.2,fun h=>⟨e,h⟩⟩
          simp only [this]
        · have:¬a.drop k=b.drop k:=by
            rw [List.drop_eq_getElem_cons h1,List.drop_eq_getElem_cons h2,List.cons.injEq]
            exact fun h=>e h.1
          rw [if_neg this]
          refine bE ?_
          unfold iK
          rw [if_pos (by omega),aW h1,aW h2];simp [e]
    have:=main a.length 0 (by omega)
    rw [show ((0:Nat):Int)=0 from rfl,List.drop_zero,List.drop_zero] at this
    rw [this]
    by_cases e:a=b
    · simp [e]
    · simp [e]
  · rw [if_pos (by omega),decide_eq_false (fun e=>c (by rw [e]))]
theorem aDz:sN=nD:=rfl
theorem aGm (r s:Rat) (hr:aU r≤4294967296):∃ b,nD r s=some b:=by
  obtain ⟨h1,h2⟩:=aHE r hr
  unfold nD
  rw [aI0 _ _ h1,aI0 _ _ h2]
  simp only [Option.bind_some]
  split
  · split
    · exact ⟨_,rfl⟩
    · exact ⟨_,rfl⟩
  · exact ⟨_,rfl⟩
theorem aAd (n:Int) (h:-9223372036854775808≤n∧n≤9223372036854775807):dL (jL n):=by
  have hl:=iY (v:=n.natAbs) (by omega)
  unfold jL
  rw [jM]
  refine ⟨⟨aAI (by omega),fun hn=>?_⟩,aAI (by rw [← jM];simp),aC0 (by omega),by rw [← jM];simp,by show (aE n.natAbs).length≤24;omega,?_⟩
  · simp only [big,decide_eq_true_eq] at hn
    exact eR (by omega)
  · simp only [dH,Nat.gcd_one_right]
end Go.Ev
/- Is a number in a list. -/
namespace Go.Ev
set_option linter.all false
theorem aFv (l:List Int) (n:Int) (h:l.length≤4294967296):rA l n=some (decide (n ∈ l)):=by
  have main:∀ m k:Nat,m+k=l.length→lp (jS l n) (k:Int)=some (if n ∈ l.drop k then .inr true else .inl ()):=by
    intro m
    induction m with
    | zero =>
      intro k hk
      have:k=l.length:=by omega
      subst this
      rw [bE (r:=.inl ()) (by unfold jS;rw [if_neg (by omega)]),List.drop_length];simp
    | succ m ih =>
      intro k hk
      have hlt:k < l.length:=by omega
      rw [List.drop_eq_getElem_cons hlt]
      by_cases c:l[k]=n
      · rw [bE (r:=.inr true) (by unfold jS;rw [if_pos (by omega),aW hlt];simp [c]),if_pos (by simp [c])]
      · have e:jS l n (k:Int)=some (.inl ((k:Int)+1)):=by
          unfold jS;rw [if_pos (by omega),aW hlt,wi (by omega)];simp [c]
        rw [bV e,show (k:Int)+1=((k+1:Nat):Int) by omega,ih (k+1) (by omega)]
        have:(n ∈ l[k]::l.drop (k+1))↔n ∈ l.drop (k+1):=by
          rw [List.mem_cons];exact ⟨fun h=>h.resolve_left (fun e=>c e.symm),.inr⟩
        simp only [this]
  have:=main l.length 0 (by omega)
  rw [show ((0:Nat):Int)=0 from rfl,List.drop_zero] at this
  unfold rA
  rw [this]
  by_cases c:n ∈ l <;> simp [c]
end Go.Ev
/- Conditionals and nets, both programs. -/
namespace Go.Ev
set_option linter.all false
theorem aHX (a:Int):tD a=some (decide (0≤a∧a≤9)):=by
  unfold tD
  by_cases h:0≤a
  · rw [if_pos h];congr 1;rw [decide_eq_decide];omega
  · rw [if_neg h,decide_eq_false (by omega)]
theorem aG8 (a:Int):rF a=some (decide (0≤a∧a≤9)):=by
  unfold rF
  rw [aAX];rfl
def aFg (c:Conditional) (k:Nat) (p:Parent):Prop:=(0≤p.fNode∧p.fNode≤9)∧p.fNode≠c.fNode∧(∀ q,0 < k→c.fParents[k - 1]?=some q→q.fNode < p.fNode)∧0 < aBc p.fShare∧dL p.fDX∧dL p.fDY
theorem aJC {c:Conditional} (h:aL c≤4294967296) {k:Nat} (hk:k < c.fParents.length):aU (c.fParents[k]).fShare≤4294967296∧aU (c.fParents[k]).fDX≤4294967296∧aU (c.fParents[k]).fDY≤4294967296:=by
  unfold aL dO at h
  have:=mF (w:=cD) (List.getElem_mem hk)
  have e:cD c.fParents[k]=aU (c.fParents[k]).fShare+aU (c.fParents[k]).fDX+aU (c.fParents[k]).fDY:=rfl
  omega
theorem aBf {c:Conditional} (h:aL c≤4294967296):c.fParents.length≤4294967296∧aU c.fTotal≤4294967296:=by
  unfold aL dO at h
  have:=jU cD c.fParents
  omega
theorem aCh (c:Conditional) (h:aL c≤4294967296):∀ m k:Nat,m+k=c.fParents.length→∀ s:Rat,VZ s →
    ∃ r,lp (cM c) ((k:Int),s)=some r∧lp (cN c) ((k:Int),s)=some r ∧
      (match r with | .inl v=>VZ v∧∀ j (hj:j < c.fParents.length),k≤j→aFg c j c.fParents[j] | .inr b=>b=false):=by
  have hl:=(aBf h).1
  intro m
  induction m with
  | zero =>
    intro k hk s hs
    refine ⟨.inl s,bE ?_,bE ?_,hs,fun j hj hkj=>by omega⟩
    · unfold cM;simp only [];rw [if_neg (by omega)]
    · unfold cN;simp only [];rw [if_neg (by omega)]
  | succ m ih =>
    intro k hk s hs
    have hlt:k < c.fParents.length:=by omega
    obtain ⟨z1,z2,z3⟩:=aJC h hlt
    obtain ⟨g1,g2⟩:=aBq _ z1
    have a1:=aDb _ z2
    have a2:=aDb _ z3
    have b1:=nB _ z2
    have b2:=nB _ z3
    obtain ⟨t,t1,t3,t4⟩:=aFO s (c.fParents[k]).fShare (by have:=aDa hs;omega) z1
    have step:(aFg c k c.fParents[k]→cM c ((k:Int),s)=some (.inl (((k+1:Nat):Int),t))∧cN c ((k:Int),s)=some (.inl (((k+1:Nat):Int),t))) ∧
        (¬aFg c k c.fParents[k]→cM c ((k:Int),s)=some (.inr (.inr false))∧cN c ((k:Int),s)=some (.inr (.inr false))):=by
      have w1:IntKind.i64.wrap ((k:Int)+1)=((k+1:Nat):Int):=by rw [wi (by omega)];omega
      have hin:(k:Int) < (c.fParents.length:Int):=by omega
      unfold cM cN
      simp only [hin,if_true,aW hlt,Option.bind_some,aHX,aG8,g1,g2,a1,a2,b1,b2,t1,w1]
      by_cases A:0≤(c.fParents[k]).fNode∧(c.fParents[k]).fNode≤9
      · by_cases B:(c.fParents[k]).fNode=c.fNode
        · refine ⟨fun g=>absurd B g.2.1,fun _=>?_⟩
          simp [A,B]
        · by_cases D:0 < aBc (c.fParents[k]).fShare
          · have D':¬aBc (c.fParents[k]).fShare≤0:=by omega
            have t5:=t4 hs (.inl (aCr D))
            by_cases K:0 < k
            · have hlt2:k - 1 < c.fParents.length:=by omega
              have w2:IntKind.i64.wrap ((k:Int) - 1)=((k - 1:Nat):Int):=by rw [wi (by omega)];omega
              have K':(0:Int) < (k:Int):=by omega
              simp only [A,B,K',D',w2,aW hlt2,and_self,decide_true,if_true,if_false,Option.bind_some]
              by_cases C:(c.fParents[k]).fNode≤(c.fParents[k - 1]).fNode
              · refine ⟨fun g=>?_,fun _=>?_⟩
                · have:=g.2.2.1 (c.fParents[k - 1]) K (by rw [List.getElem?_eq_getElem hlt2]);omega
                · simp [C]
              · by_cases E:dL (c.fParents[k]).fDX
                · by_cases F:dL (c.fParents[k]).fDY
                  · refine ⟨fun _=>?_,fun g=>absurd ⟨A,B,fun q _ hq=>?_,D,E,F⟩ g⟩
                    · simp [C,E,F,t5]
                    · rw [List.getElem?_eq_getElem hlt2] at hq;cases hq;omega
                  · refine ⟨fun g=>absurd g.2.2.2.2.2 F,fun _=>?_⟩
                    simp [C,E,F]
                · refine ⟨fun g=>absurd g.2.2.2.2.1 E,fun _=>?_⟩
                  simp [C,E]
            · have K':¬(0:Int) < (k:Int):=by omega
              simp only [A,B,K',D',and_self,decide_true,if_true,if_false,Option.bind_some]
              by_cases E:dL (c.fParents[k]).fDX
              · by_cases F:dL (c.fParents[k]).fDY
                · refine ⟨fun _=>?_,fun g=>absurd ⟨A,B,fun q hq _=>absurd hq K,D,E,F⟩ g⟩
                  simp [E,F,t5]
                · refine ⟨fun g=>absurd g.2.2.2.2.2 F,fun _=>?_⟩
                  simp [E,F]
              · refine ⟨fun g=>absurd g.2.2.2.2.1 E,fun _=>?_⟩
                simp [E]
          · have D':aBc (c.fParents[k]).fShare≤0:=by omega
            refine ⟨fun g=>absurd g.2.2.2.1 D,fun _=>?_⟩
            by_cases K:0 < k
            · have hlt2:k - 1 < c.fParents.length:=by omega
              have w2:IntKind.i64.wrap ((k:Int) - 1)=((k - 1:Nat):Int):=by rw [wi (by omega)];omega
              have K':(0:Int) < (k:Int):=by omega
              simp only [A,B,K',D',w2,aW hlt2,and_self,decide_true,if_true,if_false,Option.bind_some]
              by_cases C:(c.fParents[k]).fNode≤(c.fParents[k - 1]).fNode <;> simp [C]
            · have K':¬(0:Int) < (k:Int):=by omega
              simp only [A,B,K',D',and_self,decide_true,if_true,if_false,Option.bind_some]
              simp
      · refine ⟨fun g=>absurd g.1 A,fun _=>?_⟩
        simp [A]
    by_cases G:aFg c k c.fParents[k]
    · obtain ⟨s1,s2⟩:=step.1 G
      rw [bV s1,bV s2]
      obtain ⟨r,e1,e2,e3⟩:=ih (k+1) (by omega) t t3
      refine ⟨r,e1,e2,?_⟩
      cases r with
      | inl v =>
        refine ⟨e3.1,fun j hj hkj=>?_⟩
        by_cases e:j=k
        · subst e;exact G
        · exact e3.2 j hj (by omega)
      | inr b=>exact e3
    · obtain ⟨s1,s2⟩:=step.2 G
      exact ⟨.inr false,bE s1,bE s2,rfl⟩
theorem tO:VZ (jL 0):=.inl (aAd 0 (by omega))
theorem aEK (c:Conditional) (h:aL c≤4294967296):∃ b,cP c=some b∧fL c=some b∧(b=true→(1≤c.fNode∧c.fNode≤9)∧∀ j (hj:j < c.fParents.length),aFg c j c.fParents[j]):=by
  obtain ⟨hl,hT⟩:=aBf h
  obtain ⟨g1,g2⟩:=aBq _ hT
  obtain ⟨r,e1,e2,e3⟩:=aCh c h c.fParents.length 0 (by omega) (jL 0) tO
  rw [show ((0:Nat):Int)=0 from rfl] at e1 e2
  unfold cP fL
  rw [fR 0 (by omega),iH 0 (by omega),fR 1 (by omega),iH 1 (by omega)]
  simp only [Option.bind_some,e1,e2,g1,g2,aAX]
  by_cases A:1≤c.fNode∧c.fNode≤9
  · have A1:¬c.fNode < 1:=by omega
    have A2:¬10≤c.fNode:=by omega
    by_cases B:0 < aBc c.fTotal
    · have B':¬aBc c.fTotal≤0:=by omega
      by_cases D:c.fParents.length=0
      · have D1:¬(0:Int) < (c.fParents.length:Int):=by omega
        have D2:(c.fParents.length:Int)=0:=by omega
        refine ⟨false,?_,?_,fun h=>by cases h⟩
        · cases r with
          | inl v=>simp only [A,B,D1,and_self,decide_true,if_true,if_false,Option.bind_some]
          | inr b=>simp only [] at e3;subst e3;rfl
        · simp [A1,A2,B',D2]
      · have D1:(0:Int) < (c.fParents.length:Int):=by omega
        have D2:¬(c.fParents.length:Int)=0:=by omega
        cases r with
        | inl v =>
          obtain ⟨b,hb⟩:=aGm v (jL 1) (by have:=aDa e3.1;omega)
          refine ⟨b,?_,?_,fun _=>⟨A,fun j hj=>e3.2 j hj (by omega)⟩⟩
          · simp only [A,B,D1,hb,and_self,decide_true,if_true,if_false,Option.bind_some]
          · rw [aDz];simp only [A1,A2,B',D2,hb,decide_false,if_true,if_false,Option.bind_some,Bool.false_eq_true]
        | inr b =>
          simp only [] at e3;subst e3
          refine ⟨false,rfl,?_,fun h=>by cases h⟩
          simp [A1,A2,B',D2]
    · have B':aBc c.fTotal≤0:=by omega
      refine ⟨false,?_,?_,fun h=>by cases h⟩
      · cases r with
        | inl v=>simp [A,B]
        | inr b=>simp only [] at e3;subst e3;rfl
      · simp [A1,A2,B']
  · refine ⟨false,?_,?_,fun h=>by cases h⟩
    · cases r with
      | inl v=>simp [A]
      | inr b=>simp only [] at e3;subst e3;rfl
    · by_cases A1:c.fNode < 1
      · simp [A1]
      · have A2:10≤c.fNode:=by omega
        simp [A1,A2]
end Go.Ev
/- Fractions: quotients, differences, negation; the operations as total functions that both programs meet on valid or zero values. -/
namespace Go.Ev
set_option linter.all false
def aJJ (n:Int) (d:Nat) (m:Int) (e:Nat):Rat:=mkR (!(decide (n < 0) == decide (m < 0))) (n.natAbs*e) (d*m.natAbs)
theorem aHG (n:Int) (d:Nat) (m:Int) (e:Nat) (hd:0 < d) (he:0 < e) (h1:bl n≤24) (h2:(aE d).length≤24) (h3:bl m≤24) (h4:(aE e).length≤24):kJ ⟨big n,aE d⟩ ⟨big m,aE e⟩=some (aJJ n d m e):=by
  unfold kJ
  rw [aAo hd,aAo he]
  simp only [Option.bind_some,if_true,Bool.not_true,Bool.false_eq_true,if_false,gS]
  have b1:bl (e:Int)≤24:=by unfold bl;rw [Int.natAbs_natCast];exact h4
  have b2:bl (d:Int)≤24:=by unfold bl;rw [Int.natAbs_natCast];exact h2
  have b3:=wP n e
  have b4:=wP m d
  rw [zC,zC,uI n e (by omega) (by omega) (by omega),uI m d (by omega) (by omega) (by omega)]
  simp only [Option.bind_some]
  unfold big aJJ
  unfold bl at b1 b2 b3 b4 h1 h3
  rw [aBe _ _ _ _ (by omega) (by omega)]
  simp only [Option.bind_some,Int.natAbs_mul,Int.natAbs_natCast]
  congr 1
  rw [Nat.mul_comm d m.natAbs]
  by_cases hm:m=0
  · subst hm;unfold mkR;simp
  · refine aGD fun hx=>?_
    have s1:decide (n*(e:Int) < 0)=decide (n < 0):=by
      rw [decide_eq_decide]
      constructor
      · intro h
        rcases Int.lt_or_le n 0 with g | g
        · exact g
        · have:=Int.mul_nonneg g (by omega:(0:Int)≤e);omega
      · intro h;exact Int.mul_neg_of_neg_of_pos h (by omega)
    have s2:decide (m*(d:Int) < 0)=decide (m < 0):=by
      rw [decide_eq_decide]
      constructor
      · intro h
        rcases Int.lt_or_le m 0 with g | g
        · exact g
        · have:=Int.mul_nonneg g (by omega:(0:Int)≤d);omega
      · intro h;exact Int.mul_neg_of_neg_of_pos h (by omega)
    rw [s1,s2]
theorem aId (r s:Rat) (hr:aU r≤4294967296) (hs:aU s≤4294967296):∃ t,nS r s=some t∧VZ t∧(VZ r→VZ s→kJ r s=some t):=by
  unfold nS
  rw [nB r hr]
  simp only [Option.bind_some]
  by_cases c1:dL r
  · rw [decide_eq_true c1,if_pos rfl,nB s hs]
    simp only [Option.bind_some]
    by_cases c2:dL s
    · rw [decide_eq_true c2]
      obtain ⟨n,d,e1,e2,e3,e4,_⟩:=wA c1
      obtain ⟨m,e,g1,g2,g3,g4,_⟩:=wA c2
      subst e1;subst g1
      simp only [Bool.not_true,Bool.false_eq_true,if_false]
      have e3':=e3
      have g3':=g3
      unfold bl at e3' g3'
      have b1:=eE n.natAbs e
      have b2:=eE d m.natAbs
      have q:(dE (big n).fMag (aE e))=some (aE (n.natAbs*e)):=(mS _ _ (by omega) (by omega)).1
      have q2:(dE (aE d) (big m).fMag)=some (aE (d*m.natAbs)):=(mS _ _ (by omega) (by omega)).1
      rw [q]
      simp only [Option.bind_some]
      rw [q2]
      simp only [Option.bind_some]
      rw [aAW _ _ _ (by omega) (by omega)]
      exact ⟨_,rfl,aEv _ _ _,fun _ _=>aHG n d m e e2 g2 e3 e4 g3 g4⟩
    · rw [decide_eq_false c2]
      refine ⟨pE,rfl,uQ,fun v1 v2=>?_⟩
      unfold kJ
      rw [mM v1,mM v2,decide_eq_true c1,decide_eq_false c2];rfl
  · rw [decide_eq_false c1]
    refine ⟨pE,rfl,uQ,fun v1 v2=>?_⟩
    unfold kJ
    rw [mM v1,decide_eq_false c1];rfl
theorem aDK (n:Int) (h:bl n≤24):(aE n.natAbs).length≤24:=h
theorem aGB (n:Int):(if ((aE n.natAbs).length:Int)=0 then (⟨false,[]⟩:BigInt) else ⟨!decide (n < 0),aE n.natAbs⟩)=big (-n):=by
  by_cases c:n=0
  · subst c;simp [big,aE]
  · have:(aE n.natAbs).length≠0:=fun e=>eR (n:=n.natAbs) (by omega) (List.length_eq_zero_iff.1 e)
    rw [if_neg (by omega)]
    unfold big
    rw [Int.natAbs_neg]
    congr 1
    by_cases h:n < 0
    · rw [decide_eq_true h,decide_eq_false (by omega)];rfl
    · rw [decide_eq_false h,decide_eq_true (by omega)];rfl
theorem aC4 (l:List Int) (h:l.length≤4294967296):eD l=some l:=by
  unfold eD
  rw [bM (by simp;omega)]
  simp [bJ]
theorem aHF (n:Int) (d:Nat) (hd:0 < d) (h1:bl n≤24) (h2:(aE d).length≤24):oH ⟨big n,aE d⟩=some ⟨big (-n),aE d⟩:=by
  unfold oH
  have h1':=aDK n h1
  rw [aAo hd]
  simp only [Option.bind_some,if_true,zD,zB]
  rw [aC4 _ (by omega),aC4 _ (by omega)]
  simp only [Option.bind_some]
  unfold eI
  have e:=aGB n
  by_cases c:((aE n.natAbs).length:Int)=0
  · rw [if_pos c] at e;simp [c,e]
  · rw [if_neg c] at e
    rw [if_neg c]
    have:¬(60:Int) < (aE n.natAbs).length:=by omega
    simp [this,e]
theorem aHU (n:Int) (d:Nat) (h1:bl n≤24) (h2:(aE d).length≤24):sQ ⟨big n,aE d⟩=some ⟨big (-n),aE d⟩:=by
  unfold sQ
  have h1':=aDK n h1
  simp only [zD,zB]
  rw [pA _ _ (by omega),bM (by simp;omega)]
  simp only [Option.bind_some,bJ,List.nil_append]
  have e:=aGB n
  congr 2
  rw [← e]
  by_cases c:n=0
  · subst c;simp [aE]
  · have:(aE n.natAbs).length≠0:=fun e=>eR (n:=n.natAbs) (by omega) (List.length_eq_zero_iff.1 e)
    rw [if_neg (by omega)]
    simp [c]
theorem aG2 {n:Int} {d:Nat} (h:dL ⟨big n,aE d⟩) (h1:bl n≤24):dL ⟨big (-n),aE d⟩:=by
  obtain ⟨⟨a1,a2⟩,b,c,d1,e,f⟩:=h
  refine ⟨⟨?_,fun hn=>?_⟩,b,c,d1,?_,?_⟩
  · show rU (aE (-n).natAbs);rw [Int.natAbs_neg];exact a1
  · simp only [big,decide_eq_true_eq] at hn ⊢
    exact eR (by omega)
  · show (aE (-n).natAbs).length≤24;rw [Int.natAbs_neg];exact e
  · show Nat.gcd (val (aE (-n).natAbs)) _=1;rw [Int.natAbs_neg];exact f
noncomputable def RA (r s:Rat):Rat:=(jA r s).getD pE
noncomputable def RM (r s:Rat):Rat:=(kB r s).getD pE
noncomputable def RD (r s:Rat):Rat:=(nS r s).getD pE
noncomputable def RS (r s:Rat):Rat:=(mC r s).getD pE
theorem VZs {r:Rat} (h:VZ r):aU r≤4294967296:=by have:=aDa h;omega
theorem aEM {r s:Rat} (hr:VZ r) (hs:VZ s):jA r s=some (RA r s)∧dR r s=some (RA r s)∧VZ (RA r s):=by
  obtain ⟨t,t1,t3,t4⟩:=aFO r s (VZs hr) (VZs hs)
  have:RA r s=t:=by unfold RA;rw [t1];rfl
  rw [this];exact ⟨t1,t4 hr hs,t3⟩
theorem aEL {r s:Rat} (hr:VZ r) (hs:VZ s):kB r s=some (RM r s)∧eK r s=some (RM r s)∧VZ (RM r s):=by
  obtain ⟨t,t1,t3,t4⟩:=aIc r s (VZs hr) (VZs hs)
  have:RM r s=t:=by unfold RM;rw [t1];rfl
  rw [this];exact ⟨t1,t4 hr hs,t3⟩
theorem aIe {r s:Rat} (hr:VZ r) (hs:VZ s):nS r s=some (RD r s)∧kJ r s=some (RD r s)∧VZ (RD r s):=by
  obtain ⟨t,t1,t3,t4⟩:=aId r s (VZs hr) (VZs hs)
  have:RD r s=t:=by unfold RD;rw [t1];rfl
  rw [this];exact ⟨t1,t4 hr hs,t3⟩
end Go.Ev
/- Copies of conditionals; the net of a tree. -/
namespace Go.Ev
set_option linter.all false
theorem nP (x:Rat) (h:aU x≤4294967296):iT x=some x:=by
  unfold aU cR gG at h
  rw [sP,sP] at h
  unfold iT
  rw [bM (by simp;omega),bM (by simp;omega)]
  simp only [Option.bind_some,aN,List.nil_append]
theorem wY (l:List Int) (h:l.length≤4294967296):eD l=some l:=by
  unfold eD
  rw [bM (by simp;omega)]
  simp only [Option.bind_some,aN,List.nil_append]
theorem oK (x:Rat) (h:aU x≤4294967296):iX x=some x:=by
  unfold aU cR gG at h
  rw [sP,sP] at h
  unfold iX
  rw [wY _ (by omega)]
  simp only [Option.bind_some]
  rw [wY _ (by omega)]
  simp only [Option.bind_some]
theorem wL (c:Conditional) (h:aL c≤4294967296):hY c=some c:=by
  have hp:=jU cD c.fParents
  unfold aL dO at h
  unfold hY
  rw [oK _ (by omega)]
  simp only [Option.bind_some]
  have:=aFn (step:=fK c) c.fParents (fun k t=>((k:Int),t)) (fun t=>t) (fun k t hk ht=>by
    have he:=mF (w:=cD) (List.getElem_mem hk)
    have hn:cD c.fParents[k]=aU (c.fParents[k]).fShare+aU (c.fParents[k]).fDX+aU (c.fParents[k]).fDY:=rfl
    unfold fK
    simp only []
    rw [if_pos (by omega),aW hk]
    simp only [Option.bind_some]
    rw [oK _ (by omega)]
    simp only [Option.bind_some]
    rw [oK _ (by omega)]
    simp only [Option.bind_some]
    rw [oK _ (by omega)]
    simp only [Option.bind_some]
    rw [bM (by omega),wi (by omega)];rfl) (fun t ht=>by unfold fK;simp only [];rw [if_neg (by omega)])
  rw [show ((0:Nat):Int)=0 from rfl] at this
  rw [this];rfl
def iI (l:List TreeNode):List Conditional:=l.map (fun n=>n.fCond)
theorem aC5:∀ l:List TreeNode,bB (iI l)≤szL bR l
  | []=>by simp [iI,bB,aD7]
  | y::l=>by
    have:=aC5 l
    have hn:bR y=cJ y.fOwn+aL y.fCond+cJ y.fMessages+aU y.fEnergy:=rfl
    unfold iI bB at *
    rw [List.map_cons,tW,tW]
    omega
end Go.Ev
/- Nets and their solution, both programs. -/
namespace Go.Ev
set_option linter.all false
theorem aAT {step:Int→Option (Int ⊕ (Unit ⊕ Bool))} (n:Nat) (G:Nat→Prop) (h1:∀ k:Nat,k < n→(G k∧step (k:Int)=some (.inl ((k+1:Nat):Int)))∨(¬G k∧step (k:Int)=some (.inr (.inr false)))) (h2:step (n:Int)=some (.inr (.inl ()))) :
    (lp step 0=some (.inl ())∧∀ k,k < n→G k)∨(lp step 0=some (.inr false)∧∃ k,k < n∧¬G k):=by
  have main:∀ m k:Nat,m+k=n→(lp step (k:Int)=some (.inl ())∧∀ j,k≤j→j < n→G j)∨(lp step (k:Int)=some (.inr false)∧∃ j,j < n∧¬G j):=by
    intro m
    induction m with
    | zero =>
      intro k hk
      have:k=n:=by omega
      subst this
      exact .inl ⟨bE h2,fun j _ _=>by omega⟩
    | succ m ih =>
      intro k hk
      rcases h1 k (by omega) with ⟨g,e⟩ | ⟨g,e⟩
      · rw [bV e]
        rcases ih (k+1) (by omega) with ⟨a,b⟩ | ⟨a,b⟩
        · refine .inl ⟨a,fun j h1 h2=>?_⟩
          by_cases e:j=k
          · subst e;exact g
          · exact b j (by omega) h2
        · exact .inr ⟨a,b⟩
      · exact .inr ⟨bE e,k,by omega,g⟩
  rcases main n 0 (by omega) with ⟨a,b⟩ | ⟨a,b⟩
  · exact .inl ⟨a,fun j h=>b j (Nat.zero_le _) h⟩
  · exact .inr ⟨a,b⟩
theorem aJ8 (l:List Conditional) (hl:l.length≤4294967296):lp (kP l) 0=some ():=by
  have main:∀ m k:Nat,m+k=l.length→lp (kP l) (k:Int)=some ():=by
    intro m
    induction m with
    | zero=>intro k hk;exact bE (by unfold kP;rw [if_neg (by omega)])
    | succ m ih =>
      intro k hk
      have hlt:k < l.length:=by omega
      have e:kP l (k:Int)=some (.inl ((k+1:Nat):Int)):=by
        unfold kP;rw [if_pos (by omega),aW hlt,wi (by omega)];rfl
      rw [bV e];exact ih (k+1) (by omega)
  exact main l.length 0 (by omega)
theorem aJ7 (l:List Conditional) (p:Parent) (hl:l.length≤4294967296):∃ b,lp (kO l p) (false,0)=some b∧(b=true↔∃ d ∈ l,d.fNode=p.fNode):=by
  have main:∀ m k:Nat,m+k=l.length→∀ b:Bool,∃ b',lp (kO l p) (b,(k:Int))=some b'∧(b'=true↔(b=true∨∃ d ∈ l.drop k,d.fNode=p.fNode)):=by
    intro m
    induction m with
    | zero =>
      intro k hk b
      refine ⟨b,bE (by unfold kO;simp only [];rw [if_neg (by omega)]),?_⟩
      rw [List.drop_eq_nil_of_le (by omega)];simp
    | succ m ih =>
      intro k hk b
      have hlt:k < l.length:=by omega
      have w:IntKind.i64.wrap ((k:Int)+1)=((k+1:Nat):Int):=by rw [wi (by omega)];omega
      have e:kO l p (b,(k:Int))=some (.inl (b||decide ((l[k]).fNode=p.fNode),((k+1:Nat):Int))):=by
        unfold kO;simp only []
        rw [if_pos (by omega),aW hlt]
        simp only [Option.bind_some,w]
        cases b with
        | true=>rfl
        | false =>
          by_cases c:(l[k]).fNode=p.fNode <;> simp [c]
      obtain ⟨b',e1,e2⟩:=ih (k+1) (by omega) (b||decide ((l[k]).fNode=p.fNode))
      refine ⟨b',by rw [bV e];exact e1,?_⟩
      rw [e2,List.drop_eq_getElem_cons hlt]
      simp only [Bool.or_eq_true,decide_eq_true_eq,List.mem_cons,exists_eq_or_imp]
      rw [or_assoc]
  obtain ⟨b,e1,e2⟩:=main l.length 0 (by omega) false
  refine ⟨b,e1,?_⟩
  rw [e2,List.drop_zero];simp
def vL (l:List Conditional) (i:Nat):Prop:=∃ h:i < l.length,cP l[i]=some true∧(∀ p ∈ (l[i]).fParents,p.fNode=0∨∃ d ∈ l.drop (i+1),d.fNode=p.fNode)∧∀ d ∈ l.drop (i+1),d.fNode≠(l[i]).fNode
theorem aEu {l:List Conditional} (h:bB l≤4294967296):l.length≤4294967296∧∀ i (hi:i < l.length),aL l[i]≤4294967296:=by
  unfold bB at h
  have:=jU aL l
  refine ⟨by omega,fun i hi=>?_⟩
  have:=mF (w:=aL) (List.getElem_mem hi)
  omega
theorem aCn {α:Type} (l:List α) (k:Nat) (h:k+1≤l.length) (hl:l.length≤4294967296):sub l (IntKind.i64.wrap ((k:Int)+1)) (l.length:Int)=some (l.drop (k+1)):=by
  rw [wi (by omega),aGu _ _ _ (by omega)]
  congr 1
  rw [show ((k:Int)+1).toNat=k+1 by omega]
  exact List.take_of_length_le (by simp;omega)
theorem aEb (l:List Conditional) (h:bB l≤4294967296) (i:Nat) (hi:i < l.length) :
    (vL l i∧kN l (i:Int)=some (.inl ((i+1:Nat):Int)))∨(¬vL l i∧kN l (i:Int)=some (.inr (.inr false))):=by
  obtain ⟨hl,hz⟩:=aEu h
  have hzi:=hz i hi
  obtain ⟨hp,_⟩:=aBf hzi
  obtain ⟨b,e1,e2,e3⟩:=aEK l[i] hzi
  have w:IntKind.i64.wrap ((i:Int)+1)=((i+1:Nat):Int):=by rw [wi (by omega)];omega
  have hdl:(l.drop (i+1)).length≤4294967296:=by simp;omega
  unfold kN
  rw [if_pos (by omega),aW hi]
  simp only [Option.bind_some]
  rw [e1]
  simp only [Option.bind_some]
  cases b with
  | false=>exact .inr ⟨fun ⟨_,g,_⟩=>(by rw [e1] at g;cases g),rfl⟩
  | true =>
    rw [if_pos rfl]
    have q7:=aAT (step:=pK l l[i] (i:Int)) (l[i]).fParents.length (fun k=>∃ p,(l[i]).fParents[k]?=some p∧(p.fNode=0∨∃ d ∈ l.drop (i+1),d.fNode=p.fNode)) (fun k hk=>by
      have w2:IntKind.i64.wrap ((k:Int)+1)=((k+1:Nat):Int):=by rw [wi (by omega)];omega
      unfold pK
      rw [if_pos (by omega),aW hk]
      simp only [Option.bind_some]
      by_cases c:((l[i]).fParents[k]).fNode=0
      · left
        refine ⟨⟨_,List.getElem?_eq_getElem hk,.inl c⟩,?_⟩
        rw [if_pos c,aCn l i (by omega) hl]
        simp only [Option.bind_some]
        rw [aJ8 _ hdl,w2];rfl
      · rw [if_neg c,aCn l i (by omega) hl]
        simp only [Option.bind_some]
        obtain ⟨b,f1,f2⟩:=aJ7 (l.drop (i+1)) (l[i]).fParents[k] hdl
        rw [f1]
        simp only [Option.bind_some]
        cases b with
        | true=>exact .inl ⟨⟨_,List.getElem?_eq_getElem hk,.inr (f2.1 rfl)⟩,by rw [if_pos rfl,w2]⟩
        | false =>
          refine .inr ⟨?_,by rw [if_neg (by simp)]⟩
          rintro ⟨p,g1,g2⟩
          rw [List.getElem?_eq_getElem hk] at g1;cases g1
          rcases g2 with g2 | g2
          · exact c g2
          · have:=f2.2 g2;cases this) (by unfold pK;rw [if_neg (by omega)])
    rcases q7 with ⟨f1,f2⟩ | ⟨f1,k,hk,f2⟩
    · rw [f1]
      simp only [Option.bind_some]
      rw [aCn l i (by omega) hl]
      simp only [Option.bind_some]
      have q8:=aAT (step:=pJ (l.drop (i+1)) l[i]) (l.drop (i+1)).length (fun k=>∃ d,(l.drop (i+1))[k]?=some d∧d.fNode≠(l[i]).fNode) (fun k hk=>by
        have w2:IntKind.i64.wrap ((k:Int)+1)=((k+1:Nat):Int):=by rw [wi (by omega)];omega
        unfold pJ
        rw [if_pos (by omega),aW hk]
        simp only [Option.bind_some]
        by_cases c:((l.drop (i+1))[k]).fNode=(l[i]).fNode
        · refine .inr ⟨?_,by rw [if_pos c]⟩
          rintro ⟨p,g1,g2⟩
          rw [List.getElem?_eq_getElem hk] at g1;cases g1
          exact g2 c
        · exact .inl ⟨⟨_,List.getElem?_eq_getElem hk,c⟩,by rw [if_neg c,w2]⟩) (by unfold pJ;rw [if_neg (by omega)])
      rcases q8 with ⟨g1,g2⟩ | ⟨g1,k,hk,g2⟩
      · rw [g1]
        left
        refine ⟨⟨hi,e1,fun p hp=>?_,fun d hd=>?_⟩,by simp only [Option.bind_some];rw [w]⟩
        · obtain ⟨k,hk,rfl⟩:=List.getElem_of_mem hp
          obtain ⟨q,r1,r2⟩:=f2 k hk
          rw [List.getElem?_eq_getElem hk] at r1;cases r1;exact r2
        · obtain ⟨k,hk,rfl⟩:=List.getElem_of_mem hd
          obtain ⟨q,r1,r2⟩:=g2 k hk
          rw [List.getElem?_eq_getElem hk] at r1;cases r1;exact r2
      · rw [g1]
        right
        refine ⟨fun ⟨_,_,_,r⟩=>g2 ⟨_,List.getElem?_eq_getElem hk,r _ (List.getElem_mem hk)⟩,rfl⟩
    · rw [f1]
      right
      refine ⟨fun ⟨_,_,r,_⟩=>f2 ⟨_,List.getElem?_eq_getElem hk,r _ (List.getElem_mem hk)⟩,rfl⟩
theorem aGX (l:List Conditional) (h:bB l≤4294967296):(jJ l=some true∧∀ i,i < l.length→vL l i)∨(jJ l=some false∧∃ i,i < l.length∧¬vL l i):=by
  unfold jJ
  rcases aAT (step:=kN l) l.length (vL l) (fun k hk=>aEb l h k hk) (by unfold kN;rw [if_neg (by omega)]) with ⟨a,b⟩ | ⟨a,b⟩
  · exact .inl ⟨by rw [a];rfl,b⟩
  · exact .inr ⟨by rw [a];rfl,b⟩
theorem aEF (l:List Conditional) (h:bB l≤4294967296):∀ (k:Nat) (ns:List Int),k≤l.length→ns.length+k=l.length+1→(∀ x,x ∈ ns↔(x=0∨∃ d ∈ l.drop k,d.fNode=x)) →
    (lp (jC l) ((k:Int) - 1,ns)=some (.inl ())∧∀ i,i < k→vL l i)∨(lp (jC l) ((k:Int) - 1,ns)=some (.inr false)∧∃ i,i < k∧¬vL l i):=by
  obtain ⟨hl,hz⟩:=aEu h
  intro k
  induction k with
  | zero =>
    intro ns _ _ _
    exact .inl ⟨bE (by unfold jC;simp only [];rw [if_neg (by omega)]),fun i hi=>by omega⟩
  | succ k ih =>
    intro ns hk hlen hm
    have hlt:k < l.length:=by omega
    have hzi:=hz k hlt
    obtain ⟨hp,_⟩:=aBf hzi
    obtain ⟨b,e1,e2,e3⟩:=aEK l[k] hzi
    have key:(vL l k∧jC l (((k+1:Nat):Int) - 1,ns)=some (.inl ((k:Int) - 1,ns++[(l[k]).fNode])))∨(¬vL l k∧jC l (((k+1:Nat):Int) - 1,ns)=some (.inr (.inr false))):=by
      unfold jC
      simp only []
      rw [show ((k+1:Nat):Int) - 1=(k:Int) by omega,if_pos (by omega),aW hlt]
      simp only [Option.bind_some]
      rw [e2]
      simp only [Option.bind_some]
      cases b with
      | false=>exact .inr ⟨fun ⟨_,g,_⟩=>(by rw [e1] at g;cases g),rfl⟩
      | true =>
        rw [if_pos rfl,aFv _ _ (by omega)]
        simp only [Option.bind_some]
        obtain ⟨hn,_⟩:=e3 rfl
        by_cases c:(l[k]).fNode ∈ ns
        · right
          refine ⟨fun ⟨_,_,_,r⟩=>?_,by rw [decide_eq_true c];rfl⟩
          rcases (hm _).1 c with z | ⟨d,hd,z⟩
          · omega
          · exact r d hd z
        · rw [decide_eq_false c]
          simp only [Bool.false_eq_true,if_false]
          have q1:=aAT (step:=pW l[k] ns) (l[k]).fParents.length (fun j=>∃ p,(l[k]).fParents[j]?=some p∧p.fNode ∈ ns) (fun j hj=>by
            have w2:IntKind.i64.wrap ((j:Int)+1)=((j+1:Nat):Int):=by rw [wi (by omega)];omega
            unfold pW
            rw [if_pos (by omega),aW hj]
            simp only [Option.bind_some]
            rw [aFv _ _ (by omega)]
            simp only [Option.bind_some]
            by_cases c2:((l[k]).fParents[j]).fNode ∈ ns
            · exact .inl ⟨⟨_,List.getElem?_eq_getElem hj,c2⟩,by rw [decide_eq_true c2,if_pos rfl,w2]⟩
            · refine .inr ⟨?_,by rw [decide_eq_false c2,if_neg (by simp)]⟩
              rintro ⟨p,g1,g2⟩
              rw [List.getElem?_eq_getElem hj] at g1;cases g1
              exact c2 g2) (by unfold pW;rw [if_neg (by omega)])
          rcases q1 with ⟨f1,f2⟩ | ⟨f1,j,hj,f2⟩
          · left
            refine ⟨⟨hlt,e1,fun p hp=>?_,fun d hd z=>c ((hm _).2 (.inr ⟨d,hd,z⟩))⟩,?_⟩
            · obtain ⟨j,hj,rfl⟩:=List.getElem_of_mem hp
              obtain ⟨q,r1,r2⟩:=f2 j hj
              rw [List.getElem?_eq_getElem hj] at r1;cases r1
              exact (hm _).1 r2
            · rw [f1]
              simp only [Option.bind_some]
              rw [bM (by omega),wi (by omega)];rfl
          · right
            refine ⟨fun ⟨_,_,r,_⟩=>f2 ⟨_,List.getElem?_eq_getElem hj,(hm _).2 (r _ (List.getElem_mem hj))⟩,?_⟩
            rw [f1];rfl
    rcases key with ⟨g,e⟩ | ⟨g,e⟩
    · rw [bV e]
      rcases ih (ns++[(l[k]).fNode]) (by omega) (by simp;omega) (fun x=>by
        rw [List.mem_append,hm,List.drop_eq_getElem_cons hlt]
        simp only [List.mem_cons,List.not_mem_nil,or_false,exists_eq_or_imp]
        constructor
        · rintro ((z | z) | z)
          · exact .inl z
          · exact .inr (.inr z)
          · exact .inr (.inl z.symm)
        · rintro (z | z | z)
          · exact .inl (.inl z)
          · exact .inr z.symm
          · exact .inl (.inr z)) with ⟨a,b⟩ | ⟨a,i,hi,b⟩
      · refine .inl ⟨a,fun i hi=>?_⟩
        by_cases z:i=k
        · subst z;exact g
        · exact b i (by omega)
      · exact .inr ⟨a,i,by omega,b⟩
    · exact .inr ⟨bE e,k,by omega,g⟩
theorem aJL (l:List Conditional) (h:bB l≤4294967296):∃ b,jJ l=some b∧kZ l=some b∧(b=true→∀ i,i < l.length→vL l i):=by
  obtain ⟨hl,_⟩:=aEu h
  have hi:(kZ l=some true∧∀ i,i < l.length→vL l i)∨(kZ l=some false∧∃ i,i < l.length∧¬vL l i):=by
    unfold kZ
    rw [aN,wi (by omega)]
    rcases aEF l h l.length [0] (Nat.le_refl _) (by simp;omega) (fun x=>by rw [List.drop_length];simp) with ⟨a,b⟩ | ⟨a,b⟩
    · exact .inl ⟨by rw [a];rfl,b⟩
    · exact .inr ⟨by rw [a];rfl,b⟩
  rcases aGX l h with ⟨a,b⟩ | ⟨a,i,hi1,b⟩
  · rcases hi with ⟨c,_⟩ | ⟨c,j,hj,d⟩
    · exact ⟨true,a,c,fun _=>b⟩
    · exact absurd (b j hj) d
  · rcases hi with ⟨c,d⟩ | ⟨c,_⟩
    · exact absurd (d i hi1) b
    · exact ⟨false,a,c,fun z=>by cases z⟩
end Go.Ev
/- Nets solved, both programs; the law. -/
namespace Go.Ev
set_option linter.all false
end Go.Ev
/- Covariances of a net: sums over parents, the table as a function of its nodes. -/
namespace Go.Ev
set_option linter.all false
theorem aJ2 (l:List Int) (x:Int) (hl:l.length≤4294967296):(∃ i:Nat,jH l x=some (i:Int)∧l[i]?=some x)∨(jH l x=some (-1)∧x ∉ l):=by
  have main:∀ m k:Nat,m+k=l.length→(∀ j (hj:j < l.length),j < k→l[j]≠x)→(∃ i:Nat,lp (iZ l x) (k:Int)=some (.inr (i:Int))∧l[i]?=some x)∨(lp (iZ l x) (k:Int)=some (.inl ())∧x ∉ l):=by
    intro m
    induction m with
    | zero =>
      intro k hk hn
      have hx:x ∉ l:=by
        intro h
        obtain ⟨j,hj,e⟩:=List.getElem_of_mem h
        exact hn j hj (by omega) e
      refine .inr ⟨bE ?_,hx⟩
      unfold iZ
      rw [if_neg (by omega)]
    | succ m ih =>
      intro k hk hn
      have hlt:k < l.length:=by omega
      by_cases c:l[k]=x
      · refine .inl ⟨k,bE ?_,by rw [List.getElem?_eq_getElem hlt,c]⟩
        unfold iZ
        rw [if_pos (by omega),aW hlt]
        simp only [Option.bind_some]
        rw [if_pos c]
      · have e:iZ l x (k:Int)=some (.inl ((k+1:Nat):Int)):=by
          unfold iZ
          rw [if_pos (by omega),aW hlt]
          simp only [Option.bind_some]
          rw [if_neg c,wi (by omega)];rfl
        rw [bV e]
        refine ih (k+1) (by omega) fun j hj hjk=>?_
        rcases Nat.lt_or_eq_of_le (Nat.le_of_lt_succ hjk) with h | h
        · exact hn j hj h
        · subst h;exact c
  unfold jH
  have:=main l.length 0 (by omega) (fun _ _ h=>by omega)
  rw [show ((0:Nat):Int)=0 from rfl] at this
  rcases this with ⟨i,e1,e2⟩ | ⟨e1,e2⟩
  · exact .inl ⟨i,by rw [e1];rfl,e2⟩
  · exact .inr ⟨by rw [e1];rfl,e2⟩
theorem aFS {l:List Int} {x:Int} (hl:l.length≤4294967296) (h:x ∈ l):∃ i:Nat,jH l x=some (i:Int)∧l[i]?=some x:=by
  rcases aJ2 l x hl with h1 | ⟨_,h1⟩
  · exact h1
  · exact absurd h h1
theorem aGp {l:List Int} {x:Int} (hl:l.length≤4294967296) (h:x ∉ l):jH l x=some (-1):=by
  rcases aJ2 l x hl with ⟨i,_,h1⟩ | ⟨h1,_⟩
  · exact absurd (List.mem_of_getElem? h1) h
  · exact h1
noncomputable def aBI (f:Int→Rat):List Parent→Rat→Rat
  | [],s=>s
  | p::ps,s=>aBI f ps (RA s (RM p.fShare (f p.fNode)))
theorem aD9 {f:Int→Rat}:∀ {ps:List Parent} {s:Rat},VZ s→(∀ p ∈ ps,VZ p.fShare∧VZ (f p.fNode))→VZ (aBI f ps s)
  | [],s,h,_=>h
  | p::ps,s,h,hp=>show VZ (aBI f ps (RA s (RM p.fShare (f p.fNode)))) from aD9 (aEM h (aEL (hp p (by simp)).1 (hp p (by simp)).2).2.2).2.2 fun q hq=>hp q (by simp [hq])
theorem aEB {step:(Int × Rat)→Option ((Int × Rat) ⊕ Rat)} (ps:List Parent) (f:Int→Rat) (hv:∀ p ∈ ps,VZ p.fShare∧VZ (f p.fNode))
    (h1:∀ (k:Nat) (hk:k < ps.length) (s:Rat),VZ s→step ((k:Int),s)=some (.inl (((k+1:Nat):Int),RA s (RM (ps[k]).fShare (f (ps[k]).fNode))))) (h2:∀ s:Rat,step ((ps.length:Int),s)=some (.inr s)) (s:Rat) (hs:VZ s):lp step (0,s)=some (aBI f ps s):=by
  have main:∀ m k:Nat,m+k=ps.length→∀ s,VZ s→lp step ((k:Int),s)=some (aBI f (ps.drop k) s):=by
    intro m
    induction m with
    | zero =>
      intro k hk s hs
      obtain rfl:k=ps.length:=by omega
      rw [List.drop_length]
      exact bE (h2 s)
    | succ m ih =>
      intro k hk s hs
      have hlt:k < ps.length:=by omega
      obtain ⟨g1,g2⟩:=hv _ (List.getElem_mem hlt)
      rw [bV (h1 k hlt s hs),List.drop_eq_getElem_cons hlt]
      exact ih (k+1) (by omega) _ (aEM hs (aEL g1 g2).2.2).2.2
  have:=main ps.length 0 (by omega) s hs
  rw [List.drop_zero] at this;exact this
def rT (nodes:List Int) (C:Int→Int→Rat):List (List Rat):=nodes.map fun x=>nodes.map fun y=>C x y
theorem aGs {nodes:List Int} {C:Int→Int→Rat} {i:Nat} {x:Int} (h:nodes[i]?=some x):idx (rT nodes C) (i:Int)=some (nodes.map fun y=>C x y):=by
  rw [yY];unfold rT;rw [List.getElem?_map,h];rfl
theorem aEj {nodes:List Int} {g:Int→Rat} {i:Nat} {y:Int} (h:nodes[i]?=some y):idx (nodes.map g) (i:Int)=some (g y):=by
  rw [yY,List.getElem?_map,h];rfl
theorem aJb (c:Conditional) (hc:c.fParents.length≤4294967296) (nodes:List Int) (hn:nodes.length≤4294967296) (C:Int→Int→Rat) (hp:∀ p ∈ c.fParents,VZ p.fShare∧p.fNode ∈ nodes) (hC:∀ x ∈ nodes,∀ y ∈ nodes,VZ (C x y)) (v:Nat) (y:Int) (hy:nodes[v]?=some y) (s:Rat) (hs:VZ s) :
    lp (lI c nodes (rT nodes C) (v:Int)) (0,s)=some (aBI (fun p=>C p y) c.fParents s):=by
  refine aEB c.fParents (fun p=>C p y) (fun p h=>⟨(hp p h).1,hC _ (hp p h).2 _ (List.mem_of_getElem? hy)⟩) (fun k hk s hs=>?_) (fun s=>?_) s hs
  · obtain ⟨g1,g2⟩:=hp _ (List.getElem_mem hk)
    obtain ⟨i,e1,e2⟩:=aFS hn g2
    have q1:=aEL g1 (hC _ g2 _ (List.mem_of_getElem? hy))
    unfold lI
    simp only []
    rw [if_pos (by omega),aW hk]
    simp only [Option.bind_some]
    rw [e1]
    simp only [Option.bind_some]
    rw [aGs e2]
    simp only [Option.bind_some]
    rw [aEj hy]
    simp only [Option.bind_some]
    rw [q1.1]
    simp only [Option.bind_some]
    rw [(aEM hs q1.2.2).1]
    simp only [Option.bind_some]
    rw [wi (by omega)];rfl
  · unfold lI
    simp only []
    rw [if_neg (by omega)]
noncomputable def newRow (c:Conditional) (C:Int→Int→Rat) (y:Int):Rat:=aBI (fun p=>C p y) c.fParents (jL 0)
theorem aBh {c:Conditional} {nodes:List Int} {C:Int→Int→Rat} (hp:∀ p ∈ c.fParents,VZ p.fShare∧p.fNode ∈ nodes) (hC:∀ x ∈ nodes,∀ y ∈ nodes,VZ (C x y)) {y:Int} (hy:y ∈ nodes):VZ (newRow c C y) :=
  aD9 tO fun p h=>⟨(hp p h).1,hC _ (hp p h).2 _ hy⟩
theorem aJa (c:Conditional) (hc:c.fParents.length≤4294967296) (nodes:List Int) (hn:nodes.length≤1000) (C:Int→Int→Rat) (hp:∀ p ∈ c.fParents,VZ p.fShare∧p.fNode ∈ nodes) (hC:∀ x ∈ nodes,∀ y ∈ nodes,VZ (C x y)) :
    lp (gN nodes c (rT nodes C)) (0,[])=some (nodes.map (newRow c C)):=by
  have main:∀ m k:Nat,m+k=nodes.length→lp (gN nodes c (rT nodes C)) ((k:Int),(nodes.take k).map (newRow c C))=some (nodes.map (newRow c C)):=by
    intro m
    induction m with
    | zero =>
      intro k hk
      obtain rfl:k=nodes.length:=by omega
      rw [List.take_length]
      apply bE
      unfold gN
      simp only []
      rw [if_neg (by omega)]
    | succ m ih =>
      intro k hk
      have hlt:k < nodes.length:=by omega
      have hy:=List.getElem?_eq_getElem hlt
      have e:gN nodes c (rT nodes C) ((k:Int),(nodes.take k).map (newRow c C))=some (.inl (((k+1:Nat):Int),(nodes.take (k+1)).map (newRow c C))):=by
        unfold gN
        simp only []
        rw [if_pos (by omega),fR 0 (by omega)]
        simp only [Option.bind_some]
        rw [aJb c hc nodes (by omega) C hp hC k _ hy _ tO]
        simp only [Option.bind_some]
        rw [bM (by simp;omega)]
        simp only [Option.bind_some]
        rw [aN,wi (by omega)]
        congr 3
        rw [List.take_add_one,List.map_append,hy];rfl
      rw [bV e];exact ih (k+1) (by omega)
  have:=main nodes.length 0 (by omega)
  simpa using this
theorem aI9 (c:Conditional) (hc:c.fParents.length≤4294967296) (nodes:List Int) (hn:nodes.length≤4294967296) (g:Int→Rat) (hp:∀ p ∈ c.fParents,VZ p.fShare∧p.fNode ∈ nodes) (hg:∀ x ∈ nodes,VZ (g x)) (s:Rat) (hs:VZ s) :
    lp (lH c nodes (nodes.map g)) (0,s)=some (aBI g c.fParents s):=by
  refine aEB c.fParents g (fun p h=>⟨(hp p h).1,hg _ (hp p h).2⟩) (fun k hk s hs=>?_) (fun s=>?_) s hs
  · obtain ⟨g1,g2⟩:=hp _ (List.getElem_mem hk)
    obtain ⟨i,e1,e2⟩:=aFS hn g2
    have q1:=aEL g1 (hg _ g2)
    unfold lH
    simp only []
    rw [if_pos (by omega),aW hk]
    simp only [Option.bind_some]
    rw [e1]
    simp only [Option.bind_some]
    rw [aEj e2]
    simp only [Option.bind_some]
    rw [q1.1]
    simp only [Option.bind_some]
    rw [(aEM hs q1.2.2).1]
    simp only [Option.bind_some]
    rw [wi (by omega)];rfl
  · unfold lH
    simp only []
    rw [if_neg (by omega)]
noncomputable def aAh (c:Conditional) (C:Int→Int→Rat):Rat:=aBI (newRow c C) c.fParents (RD (jL 1) c.fTotal)
theorem aAC:VZ (jL 1):=.inl (aAd 1 (by omega))
noncomputable def zE (c:Conditional) (C:Int→Int→Rat) (x y:Int):Rat :=
  if x=c.fNode then (if y=c.fNode then aAh c C else newRow c C y) else if y=c.fNode then newRow c C x else C x y
theorem aIv {nodes:List Int} {c:Conditional} {C:Int→Int→Rat} (hc:c.fNode ∉ nodes):gM (rT nodes C) (nodes.map (newRow c C)) (rT nodes C).length++[nodes.map (newRow c C)++[aAh c C]]=rT (nodes++[c.fNode]) (zE c C):=by
  have e1:(nodes++[c.fNode]).map (fun y=>zE c C c.fNode y)=nodes.map (newRow c C)++[aAh c C]:=by
    rw [List.map_append]
    congr 1
    · apply List.map_congr_left
      intro y hy
      unfold zE
      rw [if_pos rfl,if_neg (by rintro rfl;exact hc hy)]
    · simp [zE]
  have e2:∀ x ∈ nodes,(nodes++[c.fNode]).map (fun y=>zE c C x y)=nodes.map (fun y=>C x y)++[newRow c C x]:=by
    intro x hx
    have hxc:¬x=c.fNode:=by rintro rfl;exact hc hx
    rw [List.map_append]
    congr 1
    · apply List.map_congr_left
      intro y hy
      unfold zE
      rw [if_neg hxc,if_neg (by rintro rfl;exact hc hy)]
    · simp [zE,hxc]
  unfold rT
  rw [List.map_append (f:=fun x=>(nodes++[c.fNode]).map fun y=>zE c C x y)]
  congr 1
  · apply List.ext_getElem?
    intro j
    rw [rB,List.length_map,List.getElem?_map,List.getElem?_map,List.getElem?_map]
    cases hv:nodes[j]? with
    | none=>rfl
    | some x =>
      have hj:=(List.getElem?_eq_some_iff.1 hv).1
      simp only [Option.map_some,hj,if_true]
      rw [e2 x (List.mem_of_getElem? hv)];rfl
  · rw [List.map_cons,List.map_nil,e1]
end Go.Ev
/- Covariances of a net: the table of both programs. -/
namespace Go.Ev
set_option linter.all false
theorem aHp (c:Conditional) (h:aL c≤4294967296) (hv:cP c=some true):dL c.fTotal:=by
  obtain ⟨hl,hT⟩:=aBf h
  obtain ⟨g1,g2⟩:=aBq _ hT
  obtain ⟨r,e1,e2,e3⟩:=aCh c h c.fParents.length 0 (by omega) (jL 0) tO
  rw [show ((0:Nat):Int)=0 from rfl] at e1 e2
  unfold cP at hv
  rw [fR 0 (by omega)] at hv
  simp only [Option.bind_some,e1,g1,aAX] at hv
  by_cases B:0 < aBc c.fTotal
  · exact aCr B
  · exfalso
    cases r with
    | inl v =>
      by_cases A:1≤c.fNode∧c.fNode≤9
      · simp [A,B] at hv
      · simp [A] at hv
    | inr b=>simp only [] at e3;subst e3;cases hv
def bL (l:List Conditional):List Int:=0::(l.map (·.fNode)).reverse
theorem rH (c:Conditional) (l:List Conditional):bL (c::l)=bL l++[c.fNode]:=by simp [bL]
theorem nU {l:List Conditional} {x:Int}:x ∈ bL l↔x=0∨∃ d ∈ l,d.fNode=x:=by simp [bL]
def mN:List Conditional→Prop
  | []=>True
  | c::r=>(1≤c.fNode∧c.fNode≤9)∧c.fNode ∉ bL r∧(∀ p ∈ c.fParents,dL p.fShare∧p.fNode ∈ bL r)∧dL c.fTotal∧c.fParents.length≤4294967296∧mN r
theorem aGc (l:List Conditional) (h:bB l≤4294967296) (hn:∀ i,i < l.length→vL l i):mN l:=by
  obtain ⟨hl,hsz⟩:=aEu h
  have main:∀ m k,m+k=l.length→mN (l.drop k):=by
    intro m
    induction m with
    | zero=>intro k hk;rw [List.drop_eq_nil_of_le (by omega)];trivial
    | succ m ih =>
      intro k hk
      have hlt:k < l.length:=by omega
      rw [List.drop_eq_getElem_cons hlt]
      obtain ⟨_,h1,h2,h3⟩:=hn k hlt
      have hc:=hsz k hlt
      obtain ⟨b,e1,_,e3⟩:=aEK _ hc
      rw [h1] at e1;cases e1
      obtain ⟨f1,f2⟩:=e3 rfl
      refine ⟨f1,?_,fun p hp=>?_,aHp _ hc h1,(aBf hc).1,ih (k+1) (by omega)⟩
      · rw [nU]
        rintro (h | ⟨d,hd,e⟩)
        · omega
        · exact h3 d hd e
      · obtain ⟨j,hj,rfl⟩:=List.getElem_of_mem hp
        exact ⟨aCr (f2 j hj).2.2.2.1,nU.2 (h2 _ hp)⟩
  have:=main l.length 0 (by omega)
  rwa [List.drop_zero] at this
theorem aCH:∀ (n:Nat) (l:List Int),l.Nodup→(∀ x ∈ l,0≤x∧x < n)→l.length≤n
  | 0,l,_,h=>by
    cases l with
    | nil=>simp
    | cons a r=>have:=h a (by simp);omega
  | n+1,l,hn,h=>by
    by_cases c:(n:Int) ∈ l
    · have h1:=aCH n (l.erase (n:Int)) (hn.erase _) (fun x hx=>by
        have h2:=h x (List.mem_of_mem_erase hx)
        have:x≠n:=by rintro rfl;exact (List.Nodup.mem_erase_iff hn).1 hx |>.1 rfl
        omega)
      rw [List.length_erase_of_mem c] at h1;omega
    · have h1:=aCH n l hn (fun x hx=>by
        have h2:=h x hx
        have:x≠n:=by rintro rfl;exact c hx
        omega)
      omega
theorem uG:∀ {l:List Conditional},mN l→(bL l).Nodup∧∀ x ∈ bL l,0≤x∧x≤9
  | [],_=>by simp [bL]
  | c::r,h=>by
    obtain ⟨h1,h2,_,_,_,h3⟩:=h
    obtain ⟨g1,g2⟩:=uG h3
    rw [rH]
    refine ⟨List.nodup_append.2 ⟨g1,by simp,?_⟩,?_⟩
    · intro x hx y hy e
      simp at hy;subst hy;subst e;exact h2 hx
    · intro x hx
      rcases List.mem_append.1 hx with hx | hx
      · exact g2 x hx
      · simp at hx;subst hx;omega
theorem aA1 {l:List Conditional} (h:mN l):l.length≤9:=by
  obtain ⟨g1,g2⟩:=uG h
  have:=aCH 10 _ g1 (fun x hx=>by have:=g2 x hx;omega)
  simp [bL] at this;omega
noncomputable def Cst:List Conditional→Int→Int→Rat
  | []=>fun _ _=>jL 0
  | c::r=>zE c (Cst r)
theorem aFj {d:Nat} (h:0 < d) (s:Bool):mkR s 0 d=jL 0:=by
  unfold mkR
  rw [if_neg (by omega),Nat.gcd_zero_left,Nat.zero_div,Nat.div_self h]
  have e:aE 1=[1]:=jM.symm
  rw [e,bD,if_neg (by simp)]
  simp [jL,big,bD]
theorem yU:jL 0=⟨big 0,aE 1⟩:=by rw [← jM];rfl
theorem aIO {r:Rat} (h:dL r):RM r (jL 0)=jL 0:=by
  obtain ⟨n,d,rfl,h1,h2,h3,h4⟩:=wA h
  have q:=aEL (.inl h:VZ _) tO
  have e:eK ⟨big n,aE d⟩ (jL 0)=some (jL 0):=by
    rw [yU,aFc n d 0 1 h1 (by omega) h2 h3 (by simp [bl,bD]) (by rw [← jM];simp)]
    unfold aIE
    rw [Int.natAbs_zero,Nat.mul_zero,Nat.mul_one,aFj h1,yU]
  have:=q.2.1
  rw [e] at this
  exact (Option.some.inj this).symm
theorem aIP:RA (jL 0) (jL 0)=jL 0:=by
  have q:=aEM tO tO
  have e:dR (jL 0) (jL 0)=some (jL 0):=by
    rw [yU,aCB 0 1 0 1 (by omega) (by omega) (by simp [bl,bD]) (by rw [← jM];simp) (by simp [bl,bD]) (by rw [← jM];simp)]
    unfold aHo
    simp only [Int.zero_mul,Int.add_zero,Int.natAbs_zero]
    rw [aFj (by omega),yU]
  have:=q.2.1
  rw [e] at this
  exact (Option.some.inj this).symm
theorem aA9 {f:Int→Rat}:∀ {ps:List Parent},(∀ p ∈ ps,dL p.fShare∧f p.fNode=jL 0)→aBI f ps (jL 0)=jL 0
  | [],_=>rfl
  | p::ps,h=>by
    obtain ⟨h1,h2⟩:=h p (by simp)
    show aBI f ps (RA (jL 0) (RM p.fShare (f p.fNode)))=jL 0
    rw [h2,aIO h1,aIP]
    exact aA9 fun q hq=>h q (by simp [hq])
theorem aAu:∀ {l:List Conditional},mN l→(∀ x ∈ bL l,∀ y ∈ bL l,VZ (Cst l x y))∧(∀ x ∈ bL l,Cst l x 0=jL 0∧Cst l 0 x=jL 0)
  | [],_=>⟨fun _ _ _ _=>tO,fun _ _=>⟨rfl,rfl⟩⟩
  | c::r,h=>by
    obtain ⟨h1,h2,h3,h4,_,h5⟩:=h
    obtain ⟨g1,g2⟩:=aAu h5
    have hp:∀ p ∈ c.fParents,VZ p.fShare∧p.fNode ∈ bL r:=fun p hp=>⟨.inl (h3 p hp).1,(h3 p hp).2⟩
    have h0:(0:Int) ∈ bL r:=by simp [bL]
    have hr:∀ y ∈ bL r,VZ (newRow c (Cst r) y):=fun y hy=>aBh hp g1 hy
    have hr0:newRow c (Cst r) 0=jL 0:=aA9 fun p hpp=>⟨(h3 p hpp).1,(g2 _ (h3 p hpp).2).1⟩
    have ho:VZ (aAh c (Cst r)):=aD9 (aIe aAC (.inl h4)).2.2 fun p hpp=>⟨(hp p hpp).1,hr _ (hp p hpp).2⟩
    constructor
    · intro x hx y hy
      rw [rH,List.mem_append,List.mem_singleton] at hx hy
      show VZ (zE c (Cst r) x y)
      unfold zE
      by_cases cx:x=c.fNode
      · rw [if_pos cx]
        by_cases cy:y=c.fNode
        · rw [if_pos cy];exact ho
        · rw [if_neg cy];exact hr y (hy.resolve_right cy)
      · rw [if_neg cx]
        by_cases cy:y=c.fNode
        · rw [if_pos cy];exact hr x (hx.resolve_right cx)
        · rw [if_neg cy];exact g1 x (hx.resolve_right cx) y (hy.resolve_right cy)
    · intro x hx
      rw [rH,List.mem_append,List.mem_singleton] at hx
      have n0:¬(0:Int)=c.fNode:=by omega
      show zE c (Cst r) x 0=jL 0∧zE c (Cst r) 0 x=jL 0
      unfold zE
      rw [if_neg n0,if_neg n0,if_neg n0]
      by_cases cx:x=c.fNode
      · rw [if_pos cx,if_pos cx];exact ⟨hr0,hr0⟩
      · rw [if_neg cx,if_neg cx];exact g2 x (hx.resolve_right cx)
theorem aBA (l:List Conditional):(bL l).length=l.length+1:=by simp [bL]
theorem aGr (nodes:List Int) (C:Int→Int→Rat):(rT nodes C).length=nodes.length:=by simp [rT]
theorem tT:∀ {l:List Conditional} (k:Nat),mN l→mN (l.drop k)
  | [],k,h=>by rw [List.drop_nil];exact h
  | c::r,0,h=>h
  | c::r,k+1,h=>tT (l:=r) k h.2.2.2.2.2
theorem aIN (l:List Conditional) (h:mN l):sH l=some (bL l,rT (bL l) (Cst l)):=by
  have hl:=aA1 h
  have main:∀ k:Nat,k≤l.length→lp (cL l) ((k:Int) - 1,bL (l.drop k),rT (bL (l.drop k)) (Cst (l.drop k)))=some (bL l,rT (bL l) (Cst l)):=by
    intro k
    induction k with
    | zero =>
      intro _
      rw [List.drop_zero]
      apply bE
      unfold cL
      rw [if_neg (by simp)]
    | succ k ih =>
      intro hk
      have hlt:k < l.length:=by omega
      have hg:=tT k h
      rw [List.drop_eq_getElem_cons hlt] at hg
      obtain ⟨h1,h2,h3,h4,h5,h6⟩:=hg
      have hr:∀ r,r=l.drop (k+1)→True:=fun _ _=>trivial
      obtain ⟨g1,g2⟩:=aAu h6
      have hnl:(bL (l.drop (k+1))).length≤10:=by rw [aBA,List.length_drop];omega
      have hp:∀ p ∈ (l[k]).fParents,VZ p.fShare∧p.fNode ∈ bL (l.drop (k+1)):=fun p hp=>⟨.inl (h3 p hp).1,(h3 p hp).2⟩
      have e:cL l (((k+1:Nat):Int) - 1,bL (l.drop (k+1)),rT (bL (l.drop (k+1))) (Cst (l.drop (k+1))))=some (.inl ((k:Int) - 1,bL (l.drop k),rT (bL (l.drop k)) (Cst (l.drop k)))):=by
        unfold cL
        simp only []
        have ek:((k+1:Nat):Int) - 1=(k:Int):=by omega
        rw [ek,if_pos (by omega)]
        unfold oT oS oQ oP oN
        rw [aW hlt]
        simp only [Option.bind_some]
        rw [aJa _ h5 _ (by omega) _ hp g1]
        simp only [Option.bind_some]
        rw [fR 1 (by omega)]
        simp only [Option.bind_some]
        rw [(aIe aAC (.inl h4)).1]
        simp only [Option.bind_some]
        rw [aI9 _ h5 _ (by omega) _ hp (fun y hy=>aBh hp g1 hy) _ (aIe aAC (.inl h4)).2.2]
        simp only [Option.bind_some]
        rw [bM ⟨by rw [aGr,List.length_map],by rw [aGr];omega,by omega,by omega,fun x hx=>by
          unfold rT at hx
          obtain ⟨y,_,rfl⟩:=List.mem_map.1 hx
          rw [List.length_map];omega⟩]
        simp only [Option.bind_some]
        rw [List.drop_eq_getElem_cons hlt,rH]
        congr 4
        exact aIv h2
      rw [bV e]
      exact ih (by omega)
  unfold sH
  rw [bM (show l.length≤1000000 by omega)]
  simp only [Option.bind_some]
  rw [fR 0 (by omega)]
  simp only [Option.bind_some]
  have:=main l.length (Nat.le_refl _)
  rw [List.drop_length] at this
  exact this
end Go.Ev
/- Covariances of a net: the program's matrix. -/
namespace Go.Ev
set_option linter.all false
theorem pC {α:Type} {l:List α} {i:Int} (h0:0≤i) (h1:i < l.length):∃ y,idx l i=some y:=by
  unfold idx;rw [if_pos h0]
  exact ⟨_,List.getElem?_eq_getElem (show i.toNat < l.length by omega)⟩
theorem uF {α:Type} {l:List α} {i j:Int} {v:α} (h0:0≤i) (h1:i < l.length) (h2:0≤j):idx (cX l i v) j=if i=j then some v else idx l j:=by
  unfold idx cX
  rw [if_pos h2,if_pos h2,List.getElem?_set]
  by_cases c:i=j
  · subst c
    rw [if_pos rfl,if_pos rfl,if_pos (by omega)]
  · rw [if_neg (by omega),if_neg c]
theorem tU {α:Type} (l:List α) (i:Int) (v:α):(cX l i v).length=l.length:=by simp [cX]
def aCd (M:List Rat) (k:Int):Prop:=∀ x:Int,0≤x→x < k→idx M x=some (jL 0)∧idx M (x*10)=some (jL 0)
theorem aJi:∀ (m k:Nat),m+k=10→∀ M:List Rat,M.length=100→aCd M k→∃ M',lp eQ ((k:Int),M)=some M'∧M'.length=100∧aCd M' 10:=by
  intro m
  induction m with
  | zero =>
    intro k hk M hM hz
    obtain rfl:k=10:=by omega
    refine ⟨M,bE ?_,hM,hz⟩
    unfold eQ
    simp
  | succ m ih =>
    intro k hk M hM hz
    obtain ⟨y1,q1⟩:=pC (l:=M) (i:=0*10) (by omega) (by omega)
    obtain ⟨y2,q2⟩:=pC (l:=M) (i:=0*(10:Nat)+(k:Int)) (by omega) (by omega)
    have hM1:(cX M (0*(10:Nat)+(k:Int)) (jL 0)).length=100:=by rw [tU,hM]
    obtain ⟨y3,q3⟩:=pC (l:=cX M (0*(10:Nat)+(k:Int)) (jL 0)) (i:=(k:Int)*10) (by omega) (by omega)
    obtain ⟨y4,q4⟩:=pC (l:=cX M (0*(10:Nat)+(k:Int)) (jL 0)) (i:=(k:Int)*(10:Nat)+0) (by omega) (by omega)
    have e:eQ ((k:Int),M)=some (.inl (((k+1:Nat):Int),cX (cX M (0*(10:Nat)+(k:Int)) (jL 0)) ((k:Int)*(10:Nat)+0) (jL 0))):=by
      unfold eQ
      simp only []
      rw [if_pos (by omega),iH 0 (by omega)]
      simp only [Option.bind_some]
      rw [bM (by omega)]
      simp only [Option.bind_some]
      rw [q1]
      simp only [Option.bind_some]
      rw [bM (by omega)]
      simp only [Option.bind_some]
      rw [aN,q2]
      simp only [Option.bind_some]
      rw [aN,q3]
      simp only [Option.bind_some]
      rw [aN,q4]
      simp only [Option.bind_some]
      rw [aN,wi (by omega)];rfl
    rw [bV e]
    refine ih (k+1) (by omega) _ (by rw [tU,tU,hM]) fun x hx0 hx1=>?_
    rw [uF (by omega) (by omega) hx0,uF (by omega) (by omega) hx0,uF (by omega) (by omega) (show (0:Int)≤x*10 by omega),uF (by omega) (by omega) (show (0:Int)≤x*10 by omega)]
    by_cases c:x=k
    · subst c
      rw [if_pos (show (0*(10:Nat)+(k:Int)=(k:Int)) by omega),if_pos (show ((k:Int)*(10:Nat)+0=(k:Int)*10) by omega)]
      exact ⟨by split <;> rfl,rfl⟩
    · obtain ⟨z1,z2⟩:=hz x hx0 (by omega)
      rw [z1,z2]
      refine ⟨?_,?_⟩
      · split
        · rfl
        · split <;> rfl
      · split
        · rfl
        · split <;> rfl
structure MatIs (M:List Rat) (nodes:List Int) (C:Int→Int→Rat):Prop where
  len:M.length=100
  get:∀ x ∈ nodes,∀ y ∈ nodes,idx M (x*10+y)=some (C x y)
  zero:aCd M 10
theorem aJh (c d:Conditional) (hc:c.fParents.length≤4294967296) (nodes:List Int) (hn:∀ x ∈ nodes,0≤x∧x≤9) (C:Int→Int→Rat) (M:List Rat) (hM:MatIs M nodes C) (hp:∀ p ∈ c.fParents,VZ p.fShare∧p.fNode ∈ nodes) (hC:∀ x ∈ nodes,∀ y ∈ nodes,VZ (C x y)) (hd:d.fNode ∈ nodes) :
    lp (gL c M d) (0,jL 0)=some (newRow c C d.fNode):=by
  refine aEB c.fParents (fun p=>C p d.fNode) (fun p h=>⟨(hp p h).1,hC _ (hp p h).2 _ hd⟩) (fun k hk s hs=>?_) (fun s=>?_) _ tO
  · obtain ⟨g1,g2⟩:=hp _ (List.getElem_mem hk)
    have b1:=hn _ g2
    have b2:=hn _ hd
    have q1:=aEL g1 (hC _ g2 _ hd)
    obtain ⟨y,qy⟩:=pC (l:=M) (i:=(c.fParents[k]).fNode*10) (by omega) (by rw [hM.len];omega)
    unfold gL
    simp only []
    rw [if_pos (by omega),aW hk]
    simp only [Option.bind_some]
    rw [bM (by omega)]
    simp only [Option.bind_some]
    rw [qy]
    simp only [Option.bind_some]
    rw [bM (by omega)]
    simp only [Option.bind_some]
    rw [aN,show (((10:Nat):Int))=10 from rfl,hM.get _ g2 _ hd]
    simp only [Option.bind_some]
    rw [q1.2.1]
    simp only [Option.bind_some]
    rw [(aEM hs q1.2.2).2.1]
    simp only [Option.bind_some]
    rw [wi (by omega)];rfl
  · unfold gL
    simp only []
    rw [if_neg (by omega)]
theorem aJf (c:Conditional) (hc:c.fParents.length≤4294967296) (hcn:0≤c.fNode∧c.fNode≤9) (nodes:List Int) (hn:∀ x ∈ nodes,0≤x∧x≤9) (g:Int→Rat) (M:List Rat) (hM:M.length=100) (hg:∀ x ∈ nodes,idx M (x*10+c.fNode)=some (g x)) (hp:∀ p ∈ c.fParents,VZ p.fShare∧p.fNode ∈ nodes) (hv:∀ x ∈ nodes,VZ (g x)) (s:Rat) (hs:VZ s) :
    lp (gK c M) (0,s)=some (aBI g c.fParents s):=by
  refine aEB c.fParents g (fun p h=>⟨(hp p h).1,hv _ (hp p h).2⟩) (fun k hk s hs=>?_) (fun s=>?_) _ hs
  · obtain ⟨g1,g2⟩:=hp _ (List.getElem_mem hk)
    have b1:=hn _ g2
    have q1:=aEL g1 (hv _ g2)
    obtain ⟨y,qy⟩:=pC (l:=M) (i:=(c.fParents[k]).fNode*10) (by omega) (by omega)
    unfold gK
    simp only []
    rw [if_pos (by omega),aW hk]
    simp only [Option.bind_some]
    rw [bM (by omega)]
    simp only [Option.bind_some]
    rw [qy]
    simp only [Option.bind_some]
    rw [bM (by omega)]
    simp only [Option.bind_some]
    rw [aN,show (((10:Nat):Int))=10 from rfl,hg _ g2]
    simp only [Option.bind_some]
    rw [q1.2.1]
    simp only [Option.bind_some]
    rw [(aEM hs q1.2.2).2.1]
    simp only [Option.bind_some]
    rw [wi (by omega)];rfl
  · unfold gK
    simp only []
    rw [if_neg (by omega)]
theorem aJg (l:List Conditional) (i:Nat) (hi:i < l.length) (hl:l.length≤9) (hg:mN (l.drop i)) (M0:List Rat) (hM0:MatIs M0 (bL (l.drop (i+1))) (Cst (l.drop (i+1)))) :
    ∃ M',lp (dS l l[i]) (((i+1:Nat):Int),M0)=some M'∧MatIs M' (bL (l.drop (i+1))) (Cst (l.drop (i+1)))∧∀ d ∈ l.drop (i+1),idx M' ((l[i]).fNode*10+d.fNode)=some (newRow l[i] (Cst (l.drop (i+1))) d.fNode)∧idx M' (d.fNode*10+(l[i]).fNode)=some (newRow l[i] (Cst (l.drop (i+1))) d.fNode):=by
  rw [List.drop_eq_getElem_cons hi] at hg
  obtain ⟨h1,h2,h3,h4,h5,h6⟩:=hg
  generalize hc:l[i]=c at *
  obtain ⟨gn1,gn2⟩:=uG h6
  obtain ⟨g1,g2⟩:=aAu h6
  have hp:∀ p ∈ c.fParents,VZ p.fShare∧p.fNode ∈ bL (l.drop (i+1)):=fun p hp=>⟨.inl (h3 p hp).1,(h3 p hp).2⟩
  have main:∀ m j:Nat,m+j=l.length→i+1≤j→∀ M,MatIs M (bL (l.drop (i+1))) (Cst (l.drop (i+1))) →
      (∀ t (ht:t < l.length),i+1≤t→t < j→idx M (c.fNode*10+(l[t]).fNode)=some (newRow c (Cst (l.drop (i+1))) (l[t]).fNode)∧idx M ((l[t]).fNode*10+c.fNode)=some (newRow c (Cst (l.drop (i+1))) (l[t]).fNode)) →
      ∃ M',lp (dS l c) ((j:Int),M)=some M'∧MatIs M' (bL (l.drop (i+1))) (Cst (l.drop (i+1)))∧∀ t (ht:t < l.length),i+1≤t→idx M' (c.fNode*10+(l[t]).fNode)=some (newRow c (Cst (l.drop (i+1))) (l[t]).fNode)∧idx M' ((l[t]).fNode*10+c.fNode)=some (newRow c (Cst (l.drop (i+1))) (l[t]).fNode):=by
    intro m
    induction m with
    | zero =>
      intro j hj hij M hM hinv
      obtain rfl:j=l.length:=by omega
      refine ⟨M,bE ?_,hM,fun t ht hit=>hinv t ht hit ht⟩
      unfold dS
      simp only []
      rw [if_neg (by omega)]
    | succ m ih =>
      intro j hj hij M hM hinv
      have hlt:j < l.length:=by omega
      have hdm:l[j] ∈ l.drop (i+1):=by
        rw [List.mem_iff_getElem?]
        exact ⟨j - (i+1),by rw [List.getElem?_drop,show i+1+(j - (i+1))=j by omega,List.getElem?_eq_getElem hlt]⟩
      have hdn:(l[j]).fNode ∈ bL (l.drop (i+1)):=nU.2 (.inr ⟨_,hdm,rfl⟩)
      have hb:=gn2 _ hdn
      have hd1:1≤(l[j]).fNode:=by
        have hgd:=tT (j - (i+1)) h6
        rw [List.drop_drop,show i+1+(j - (i+1))=j by omega,List.drop_eq_getElem_cons hlt] at hgd
        exact hgd.1.1
      have hne:(l[j]).fNode≠c.fNode:=by intro e;rw [e] at hdn;exact h2 hdn
      generalize hd:l[j]=d at *
      let r:=newRow c (Cst (l.drop (i+1))) d.fNode
      let M1:=cX M (c.fNode*(10:Nat)+d.fNode) r
      let M2:=cX M1 (d.fNode*(10:Nat)+c.fNode) r
      have l0:=hM.len
      have l1:M1.length=100:=by show (cX _ _ _).length=_;rw [tU,l0]
      obtain ⟨y1,q1⟩:=pC (l:=M) (i:=c.fNode*10) (by omega) (by omega)
      obtain ⟨y2,q2⟩:=pC (l:=M) (i:=c.fNode*(10:Nat)+d.fNode) (by omega) (by omega)
      obtain ⟨y3,q3⟩:=pC (l:=M1) (i:=d.fNode*10) (by omega) (by omega)
      obtain ⟨y4,q4⟩:=pC (l:=M1) (i:=d.fNode*(10:Nat)+c.fNode) (by omega) (by omega)
      have e:dS l c ((j:Int),M)=some (.inl (((j+1:Nat):Int),M2)):=by
        unfold dS
        simp only []
        rw [if_pos (by omega),aW hlt,hd]
        simp only [Option.bind_some]
        rw [iH 0 (by omega)]
        simp only [Option.bind_some]
        rw [aJh c d h5 _ gn2 _ M hM hp g1 hdn]
        simp only [Option.bind_some]
        rw [bM (by omega)]
        simp only [Option.bind_some]
        rw [q1]
        simp only [Option.bind_some]
        rw [bM (by omega)]
        simp only [Option.bind_some]
        rw [aN,q2]
        simp only [Option.bind_some]
        rw [aN]
        rw [show cX M (c.fNode*(10:Nat)+d.fNode) (newRow c (Cst (l.drop (i+1))) d.fNode)=M1 from rfl,q3]
        simp only [Option.bind_some]
        rw [aN,q4]
        simp only [Option.bind_some]
        rw [aN,wi (by omega)];rfl
      have i2:∀ z:Int,0≤z→idx M2 z=if d.fNode*(10:Nat)+c.fNode=z then some r else if c.fNode*(10:Nat)+d.fNode=z then some r else idx M z:=by
        intro z hz
        show idx (cX M1 _ _) z=_
        rw [uF (by omega) (by omega) hz]
        by_cases cz:d.fNode*(10:Nat)+c.fNode=z
        · rw [if_pos cz,if_pos cz]
        · rw [if_neg cz,if_neg cz]
          show idx (cX M _ _) z=_
          rw [uF (by omega) (by omega) hz]
      rw [bV e]
      refine ih (j+1) (by omega) (by omega) M2 ⟨by show (cX _ _ _).length=_;rw [tU,l1],fun x hx y hy=>?_,fun x hx0 hx1=>?_⟩ fun t ht hit htj=>?_
      · have b1:=gn2 x hx
        have b2:=gn2 y hy
        have c1:x≠c.fNode:=by rintro rfl;exact h2 hx
        have c2:y≠c.fNode:=by rintro rfl;exact h2 hy
        rw [i2 _ (by omega),if_neg (by omega),if_neg (by omega)]
        exact hM.get x hx y hy
      · obtain ⟨z1,z2⟩:=hM.zero x hx0 hx1
        rw [i2 _ (by omega),i2 _ (by omega),if_neg (by omega),if_neg (by omega),if_neg (by omega),if_neg (by omega)]
        exact ⟨z1,z2⟩
      · rcases Nat.lt_or_eq_of_le (Nat.le_of_lt_succ htj) with h | h
        · obtain ⟨v1,v2⟩:=hinv t ht hit h
          have htn:(l[t]).fNode ∈ bL (l.drop (i+1)):=nU.2 (.inr ⟨_,by
            rw [List.mem_iff_getElem?]
            exact ⟨t - (i+1),by rw [List.getElem?_drop,show i+1+(t - (i+1))=t by omega,List.getElem?_eq_getElem ht]⟩,rfl⟩)
          have bt:=gn2 _ htn
          have ct:(l[t]).fNode≠c.fNode:=by intro e;rw [e] at htn;exact h2 htn
          rw [i2 _ (by omega),i2 _ (by omega)]
          by_cases ce:(l[t]).fNode=d.fNode
          · rw [ce,if_neg (by omega),if_pos (by omega),if_pos (by omega)];exact ⟨rfl,rfl⟩
          · rw [if_neg (by omega),if_neg (by omega),if_neg (by omega),if_neg (by omega)];exact ⟨v1,v2⟩
        · subst h
          rw [hd,i2 _ (by omega),i2 _ (by omega),if_neg (by omega),if_pos (by omega),if_pos (by omega)]
          exact ⟨rfl,rfl⟩
  obtain ⟨M',e1,e2,e3⟩:=main (l.length - (i+1)) (i+1) (by omega) (Nat.le_refl _) M0 hM0 (fun t _ h1 h2=>by omega)
  refine ⟨M',e1,e2,fun d hd=>?_⟩
  obtain ⟨j,hj⟩:=List.getElem?_of_mem hd
  rw [List.getElem?_drop] at hj
  obtain ⟨ht,rfl⟩:=List.getElem?_eq_some_iff.1 hj
  exact e3 _ ht (by omega)
theorem aJe (l:List Conditional) (h:mN l):∀ k:Nat,k≤l.length→∀ M,MatIs M (bL (l.drop k)) (Cst (l.drop k))→∃ M',lp (eP l) ((k:Int) - 1,M)=some M'∧MatIs M' (bL l) (Cst l):=by
  have hl:=aA1 h
  intro k
  induction k with
  | zero =>
    intro _ M hM
    rw [List.drop_zero] at hM
    refine ⟨M,bE ?_,hM⟩
    unfold eP
    simp only []
    rw [if_neg (by simp)]
  | succ k ih =>
    intro hk M hM
    have hlt:k < l.length:=by omega
    have hg:=tT k h
    obtain ⟨M1,e1,e2,e3⟩:=aJg l k hlt hl hg M hM
    rw [List.drop_eq_getElem_cons hlt] at hg
    obtain ⟨h1,h2,h3,h4,h5,h6⟩:=hg
    generalize hc:l[k]=c at *
    obtain ⟨gn1,gn2⟩:=uG h6
    obtain ⟨g1,g2⟩:=aAu h6
    have hp:∀ p ∈ c.fParents,VZ p.fShare∧p.fNode ∈ bL (l.drop (k+1)):=fun p hp=>⟨.inl (h3 p hp).1,(h3 p hp).2⟩
    have hr:∀ y ∈ bL (l.drop (k+1)),VZ (newRow c (Cst (l.drop (k+1))) y):=fun y hy=>aBh hp g1 hy
    have hr0:newRow c (Cst (l.drop (k+1))) 0=jL 0:=aA9 fun p hpp=>⟨(h3 p hpp).1,(g2 _ (h3 p hpp).2).1⟩
    have l1:=e2.len
    have hrow:∀ x ∈ bL (l.drop (k+1)),idx M1 (c.fNode*10+x)=some (newRow c (Cst (l.drop (k+1))) x)∧idx M1 (x*10+c.fNode)=some (newRow c (Cst (l.drop (k+1))) x):=by
      intro x hx
      rcases nU.1 hx with rfl | ⟨d,hd,rfl⟩
      · obtain ⟨z1,z2⟩:=e2.zero c.fNode (by omega) (by omega)
        rw [Int.add_zero,Int.zero_mul,Int.zero_add,hr0];exact ⟨z2,z1⟩
      · exact e3 d hd
    obtain ⟨y1,q1⟩:=pC (l:=M1) (i:=c.fNode*10) (by omega) (by omega)
    obtain ⟨y2,q2⟩:=pC (l:=M1) (i:=c.fNode*(10:Nat)+c.fNode) (by omega) (by omega)
    have hown:=aJf c h5 ⟨by omega,by omega⟩ _ gn2 (newRow c (Cst (l.drop (k+1)))) M1 l1 (fun x hx=>(hrow x hx).2) hp hr (RD (jL 1) c.fTotal) (aIe aAC (.inl h4)).2.2
    have e:eP l (((k+1:Nat):Int) - 1,M)=some (.inl ((k:Int) - 1,cX M1 (c.fNode*(10:Nat)+c.fNode) (aAh c (Cst (l.drop (k+1)))))):=by
      unfold eP
      simp only []
      have ek:((k+1:Nat):Int) - 1=(k:Int):=by omega
      rw [ek,if_pos (by omega),aW hlt,hc]
      simp only [Option.bind_some]
      rw [wi (by omega),show (k:Int)+1=((k+1:Nat):Int) by omega,e1]
      simp only [Option.bind_some]
      rw [iH 1 (by omega)]
      simp only [Option.bind_some]
      rw [(aIe aAC (.inl h4)).2.1]
      simp only [Option.bind_some]
      rw [hown]
      simp only [Option.bind_some]
      rw [bM (by omega)]
      simp only [Option.bind_some]
      rw [q1]
      simp only [Option.bind_some]
      rw [aN,q2]
      simp only [Option.bind_some]
      rw [aN,wi (by omega)];rfl
    rw [bV e]
    refine ih (by omega) _ ?_
    rw [List.drop_eq_getElem_cons hlt,hc]
    have i2:∀ z:Int,0≤z→idx (cX M1 (c.fNode*(10:Nat)+c.fNode) (aAh c (Cst (l.drop (k+1))))) z=if c.fNode*(10:Nat)+c.fNode=z then some (aAh c (Cst (l.drop (k+1)))) else idx M1 z:=fun z hz=>uF (by omega) (by omega) hz
    refine ⟨by rw [tU,l1],fun x hx y hy=>?_,fun x hx0 hx1=>?_⟩
    · rw [rH,List.mem_append,List.mem_singleton] at hx hy
      have bx:0≤x∧x≤9:=hx.elim (gn2 x) (fun e=>by subst e;omega)
      have by_:0≤y∧y≤9:=hy.elim (gn2 y) (fun e=>by subst e;omega)
      rw [i2 _ (by omega)]
      show _=some (zE c (Cst (l.drop (k+1))) x y)
      unfold zE
      by_cases cx:x=c.fNode
      · rw [if_pos cx]
        by_cases cy:y=c.fNode
        · rw [if_pos cy,if_pos (by subst cx;subst cy;omega)]
        · rw [if_neg cy,if_neg (by omega),cx];exact (hrow y (hy.resolve_right cy)).1
      · rw [if_neg cx]
        by_cases cy:y=c.fNode
        · rw [if_pos cy,if_neg (by omega),cy];exact (hrow x (hx.resolve_right cx)).2
        · rw [if_neg cy,if_neg (by omega)];exact e2.get x (hx.resolve_right cx) y (hy.resolve_right cy)
    · obtain ⟨z1,z2⟩:=e2.zero x hx0 hx1
      rw [i2 _ (by omega),i2 _ (by omega),if_neg (by omega),if_neg (by omega)]
      exact ⟨z1,z2⟩
end Go.Ev
/- Covariances: the laws. -/
namespace Go.Ev
set_option linter.all false
theorem aCp (c:Conditional) (h:aL c≤4294967296):rE c=some c:=by
  have hp:=jU cD c.fParents
  unfold aL dO at h
  unfold rE
  rw [nP _ (by omega)]
  simp only [Option.bind_some]
  have:=aFn (step:=mP c) c.fParents (fun k t=>((k:Int),t)) (fun t=>t) (fun k t hk ht=>by
    have he:=mF (w:=cD) (List.getElem_mem hk)
    have hn:cD c.fParents[k]=aU (c.fParents[k]).fShare+aU (c.fParents[k]).fDX+aU (c.fParents[k]).fDY:=rfl
    unfold mP
    simp only []
    rw [if_pos (by omega),aW hk]
    simp only [Option.bind_some]
    rw [nP _ (by omega)]
    simp only [Option.bind_some]
    rw [nP _ (by omega)]
    simp only [Option.bind_some]
    rw [nP _ (by omega)]
    simp only [Option.bind_some]
    rw [bM (by omega),wi (by omega)];rfl) (fun t ht=>by unfold mP;simp only [];rw [if_neg (by omega)])
  rw [show ((0:Nat):Int)=0 from rfl] at this
  rw [this];rfl
theorem xL (t:Tree) (h:eJ t≤4294967296):oV t=some (iI t.fNodes):=by
  unfold eJ cW at h
  have hl:=jU bR t.fNodes
  unfold oV
  have:=aFm (step:=mR t) t.fNodes (fun k (m:List Conditional)=>((k:Int),m)) (fun m y=>m++[y.fCond]) (fun m=>m) (fun k m=>m=iI (t.fNodes.take k)) (fun k m hk hi=>by
    have he:=mF (w:=bR) (List.getElem_mem hk)
    have hn:bR t.fNodes[k]=cJ (t.fNodes[k]).fOwn+aL (t.fNodes[k]).fCond+cJ (t.fNodes[k]).fMessages+aU (t.fNodes[k]).fEnergy:=rfl
    have ht:iI (t.fNodes.take (k+1))=iI (t.fNodes.take k)++[(t.fNodes[k]).fCond]:=by unfold iI;rw [List.take_succ,List.getElem?_eq_getElem hk,List.map_append];rfl
    have hlen:(iI (t.fNodes.take k)).length≤k:=by unfold iI;simp;omega
    subst hi
    refine ⟨?_,ht.symm⟩
    unfold mR
    simp only []
    rw [if_pos (by omega),aW hk]
    simp only [Option.bind_some]
    rw [aCp _ (by omega)]
    simp only [Option.bind_some]
    rw [bM (by omega),wi (by omega)];rfl) (fun m hi=>by unfold mR;simp only [];rw [if_neg (by omega)]) [] rfl
  rw [show ((0:Nat):Int)=0 from rfl] at this
  obtain ⟨e1,e2⟩:=this
  rw [e1,e2,List.take_length];rfl
theorem aCV (t:Tree) (h:eJ t≤4294967296):rM t=some (iI t.fNodes):=by
  unfold eJ cW at h
  have hl:=jU bR t.fNodes
  unfold rM
  have:=aFm (step:=nA t) t.fNodes (fun k (m:List Conditional)=>((k:Int),m)) (fun m y=>m++[y.fCond]) (fun m=>m) (fun k m=>m=iI (t.fNodes.take k)) (fun k m hk hi=>by
    have he:=mF (w:=bR) (List.getElem_mem hk)
    have hn:bR t.fNodes[k]=cJ (t.fNodes[k]).fOwn+aL (t.fNodes[k]).fCond+cJ (t.fNodes[k]).fMessages+aU (t.fNodes[k]).fEnergy:=rfl
    have ht:iI (t.fNodes.take (k+1))=iI (t.fNodes.take k)++[(t.fNodes[k]).fCond]:=by unfold iI;rw [List.take_succ,List.getElem?_eq_getElem hk,List.map_append];rfl
    have hlen:(iI (t.fNodes.take k)).length≤k:=by unfold iI;simp;omega
    subst hi
    refine ⟨?_,ht.symm⟩
    unfold nA
    simp only []
    rw [if_pos (by omega),aW hk]
    simp only [Option.bind_some]
    rw [wL _ (by omega)]
    simp only [Option.bind_some]
    rw [bM (by omega),wi (by omega)];rfl) (fun m hi=>by unfold nA;simp only [];rw [if_neg (by omega)]) [] rfl
  rw [show ((0:Nat):Int)=0 from rfl] at this
  obtain ⟨e1,e2⟩:=this
  rw [e1,e2,List.take_length];rfl
theorem aGF (l:List Conditional) (a:Int) (hl:l.length≤4294967296):sD l a=some (decide (a ∈ bL l)):=by
  have main:∀ m k:Nat,m+k=l.length→(lp (jB l a) (k:Int)=some (.inr true)∧∃ d ∈ l.drop k,d.fNode=a)∨(lp (jB l a) (k:Int)=some (.inl ())∧¬∃ d ∈ l.drop k,d.fNode=a):=by
    intro m
    induction m with
    | zero =>
      intro k hk
      refine .inr ⟨bE ?_,by rw [List.drop_eq_nil_of_le (by omega)];simp⟩
      unfold jB
      rw [if_neg (by omega)]
    | succ m ih =>
      intro k hk
      have hlt:k < l.length:=by omega
      rw [List.drop_eq_getElem_cons hlt]
      by_cases c:(l[k]).fNode=a
      · refine .inl ⟨bE ?_,_,List.mem_cons_self,c⟩
        unfold jB
        rw [if_pos (by omega),aW hlt]
        simp only [Option.bind_some]
        rw [if_pos c]
      · have e:jB l a (k:Int)=some (.inl ((k+1:Nat):Int)):=by
          unfold jB
          rw [if_pos (by omega),aW hlt]
          simp only [Option.bind_some]
          rw [if_neg c,wi (by omega)];rfl
        rw [bV e]
        rcases ih (k+1) (by omega) with ⟨h1,d,h2,h3⟩ | ⟨h1,h2⟩
        · exact .inl ⟨h1,d,List.mem_cons_of_mem _ h2,h3⟩
        · refine .inr ⟨h1,?_⟩
          rintro ⟨d,hd,e⟩
          rcases List.mem_cons.1 hd with rfl | hd
          · exact c e
          · exact h2 ⟨d,hd,e⟩
  have:=main l.length 0 (by omega)
  rw [List.drop_zero,show ((0:Nat):Int)=0 from rfl] at this
  unfold sD
  rcases this with ⟨h1,h2⟩ | ⟨h1,h2⟩
  · rw [h1]
    simp only [Option.bind_some]
    rw [decide_eq_true (nU.2 (.inr h2))]
  · rw [h1]
    simp only [Option.bind_some]
    congr 1
    rw [decide_eq_decide,nU]
    exact ⟨fun h=>.inl h,fun h=>h.resolve_right h2⟩
noncomputable def aFf (l:List Conditional) (a b:Int):Rat:=if a ∈ bL l∧b ∈ bL l then Cst l a b else pE
theorem aIC {l:List Conditional} (h:mN l) (a b:Int):VZ (aFf l a b):=by
  unfold aFf
  split
  · rename_i c;exact (aAu h).1 _ c.1 _ c.2
  · exact uQ
theorem aEN {l:List Conditional} (h:mN l) (a b:Int):jZ l a b=some (aFf l a b):=by
  have hl:=aA1 h
  have hn:(bL l).length≤4294967296:=by rw [aBA];omega
  unfold jZ aFf
  rw [aIN l h]
  simp only [Option.bind_some]
  by_cases ca:a ∈ bL l
  · obtain ⟨i,e1,e2⟩:=aFS hn ca
    rw [e1]
    simp only [Option.bind_some]
    by_cases cb:b ∈ bL l
    · obtain ⟨j,f1,f2⟩:=aFS hn cb
      rw [f1]
      simp only [Option.bind_some]
      rw [if_neg (by omega),decide_eq_false (by omega)]
      simp only [Option.bind_some,Bool.false_eq_true,if_false]
      rw [aGs e2]
      simp only [Option.bind_some]
      rw [aEj f2]
      simp only [Option.bind_some]
      rw [nP _ (VZs ((aAu h).1 _ ca _ cb)),if_pos ⟨ca,cb⟩];rfl
    · rw [aGp hn cb]
      simp only [Option.bind_some]
      rw [if_neg (by omega),decide_eq_true (by omega)]
      simp only [Option.bind_some,if_true]
      rw [if_neg (fun h=>cb h.2)];rfl
  · rw [aGp hn ca]
    simp only [Option.bind_some]
    rw [if_neg (fun h=>ca h.1)]
    by_cases cb:b ∈ bL l
    · obtain ⟨j,f1,f2⟩:=aFS hn cb
      rw [f1];rfl
    · rw [aGp hn cb];rfl
theorem aIH {l:List Conditional} (h:mN l) (hn:kZ l=some true) (a b:Int):dI l a b=some (aFf l a b):=by
  have hl:=aA1 h
  obtain ⟨gn1,gn2⟩:=uG h
  unfold dI aFf
  rw [hn,aGF l a (by omega),aGF l b (by omega)]
  simp only [Option.bind_some,if_true]
  by_cases ca:a ∈ bL l
  · rw [decide_eq_true ca]
    simp only [if_true,Option.bind_some]
    by_cases cb:b ∈ bL l
    · rw [decide_eq_true cb]
      simp only [Bool.not_true,Bool.false_eq_true,if_false]
      obtain ⟨M1,e1,e2,e3⟩:=aJi 10 0 (by omega) (List.replicate 100 (Rat.mk (BigInt.mk false ([])) ([]))) (by simp) (fun x h0 h1=>by omega)
      rw [show ((0:Nat):Int)=0 from rfl] at e1
      rw [e1]
      simp only [Option.bind_some]
      have hM:MatIs M1 (bL (l.drop l.length)) (Cst (l.drop l.length)):=by
        rw [List.drop_length]
        refine ⟨e2,fun x hx y hy=>?_,e3⟩
        simp [bL] at hx hy
        subst hx;subst hy
        exact (e3 0 (by omega) (by omega)).1
      obtain ⟨M2,f1,f2⟩:=aJe l h l.length (Nat.le_refl _) M1 hM
      rw [aN,wi (by omega),f1]
      simp only [Option.bind_some]
      have ba:=gn2 _ ca
      have bb:=gn2 _ cb
      obtain ⟨y,q⟩:=pC (l:=M2) (i:=a*10) (by omega) (by rw [f2.len];omega)
      rw [bM (by omega)]
      simp only [Option.bind_some]
      rw [q]
      simp only [Option.bind_some]
      rw [bM (by omega)]
      simp only [Option.bind_some]
      rw [aN,show (((10:Nat):Int))=10 from rfl,f2.get _ ca _ cb]
      simp only [Option.bind_some]
      rw [oK _ (VZs ((aAu h).1 _ ca _ cb)),if_pos ⟨ca,cb⟩];rfl
    · rw [decide_eq_false cb,if_neg (show ¬(a ∈ bL l∧b ∈ bL l) from fun h=>cb h.2)];rfl
  · rw [decide_eq_false ca,if_neg (show ¬(a ∈ bL l∧b ∈ bL l) from fun h=>ca h.1)];rfl
theorem aFP (l:List Conditional) (h:bB l≤4294967296):(jJ l=some true∧kZ l=some true∧mN l)∨(jJ l=some false∧kZ l=some false):=by
  obtain ⟨b,e1,e2,e3⟩:=aJL l h
  cases b with
  | true=>exact .inl ⟨e1,e2,aGc l h (e3 rfl)⟩
  | false=>exact .inr ⟨e1,e2⟩
noncomputable def cov (l:List Conditional) (a b:Int):Rat:=if jJ l=some true then aFf l a b else pE
theorem aI7 (l:List Conditional) (h:bB l≤4294967296) (a b:Int):fE l a b=some (cov l a b)∧dI l a b=some (cov l a b)∧VZ (cov l a b):=by
  rcases aFP l h with ⟨h1,h2,h3⟩ | ⟨h1,h2⟩
  · unfold cov
    rw [if_pos h1]
    refine ⟨?_,aIH h3 h2 a b,aIC h3 a b⟩
    unfold fE
    rw [h1]
    simp only [Option.bind_some,if_true]
    rw [aEN h3];rfl
  · unfold cov
    rw [if_neg (by rw [h1];simp)]
    refine ⟨?_,?_,uQ⟩
    · unfold fE;rw [h1];rfl
    · unfold dI;rw [h2];rfl
theorem aGE (l:List Conditional) (a b:Int) (o:okL kR l) (_:okI .i64 a) (_:okI .i64 b):gF l a b=some true:=by
  unfold gF
  rw [aBH l o _ (by omega) (by omega)]
  simp only [Option.bind_some]
  by_cases h:(bB l:Int)≤1048576
  · rw [if_pos h,if_neg (by omega)]
    obtain ⟨e1,e2,e3⟩:=aI7 l (by omega) a b
    have hv:=aDa e3
    obtain ⟨k1,x1,m1,m2,m3,_⟩:=aBL l 1 (by omega) (by omega)
    obtain ⟨k2,x2,n1,n2,n3,n4⟩:=aEy (cov l a b) 1 (by omega) (by omega)
    have c1:¬k1 < 0:=by omega
    have c2:¬k2 < 0:=by omega
    simp only [aBG l (by omega),e1,e2,Option.bind_some,tH (cov l a b) (by omega),aB5 l (by omega),m1,n1,n2,c1,c2,if_true,if_false,Bool.not_true,Bool.false_eq_true,ne_eq,not_true_eq_false]
  · rw [if_neg h,if_pos (by omega)]
theorem aHN {t:Tree} (h:eJ t≤4294967296):bB (iI t.fNodes)≤4294967296:=by
  have:=aC5 t.fNodes
  unfold eJ cW at h;omega
noncomputable def zF (t:Tree) (a b:Int):Rat:=cov (iI t.fNodes) a b
theorem aAv (t:Tree) (h:eJ t≤4294967296) (a b:Int):iC t a b=some (zF t a b)∧eM t a b=some (zF t a b)∧VZ (zF t a b):=by
  obtain ⟨e1,e2,e3⟩:=aI7 _ (aHN h) a b
  refine ⟨?_,?_,e3⟩
  · unfold iC;rw [xL t h];simp only [Option.bind_some];rw [e1];rfl
  · unfold eM;rw [aCV t h];simp only [Option.bind_some];rw [e2];rfl
theorem aGl (t:Tree) (h:eJ t≤4294967296) (a:Int):mQ t a=some (zF t a a)∧gC t a=some (zF t a a):=by
  obtain ⟨e1,e2,e3⟩:=aAv t h a a
  refine ⟨?_,?_⟩
  · unfold mQ;rw [e1];rfl
  · unfold gC;rw [e2];rfl
theorem aG7 (t:Tree) (a b:Int) (o:xP t) (_:okI .i64 a) (_:okI .i64 b):gX t a b=some true:=by
  unfold gX
  rw [aD6 t o _ (by omega) (by omega)]
  simp only [Option.bind_some]
  by_cases h:(eJ t:Int)≤1048576
  · rw [if_pos h,if_neg (by omega)]
    obtain ⟨e1,e2,e3⟩:=aAv t (by omega) a b
    have hv:=aDa e3
    obtain ⟨k1,x1,m1,m2,m3⟩:=aEx t 1 (by omega) (by omega)
    obtain ⟨k2,x2,n1,n2,n3,n4⟩:=aEy (zF t a b) 1 (by omega) (by omega)
    have c1:¬k1 < 0:=by omega
    have c2:¬k2 < 0:=by omega
    simp only [aD4 t (by omega),e1,e2,Option.bind_some,tH (zF t a b) (by omega),aEI t (by omega),m1,n1,n2,c1,c2,if_true,if_false,Bool.not_true,Bool.false_eq_true,ne_eq,not_true_eq_false]
  · rw [if_neg h,if_pos (by omega)]
theorem aHT (t:Tree) (a:Int) (o:xP t) (_:okI .i64 a):iW t a=some true:=by
  unfold iW
  rw [aD6 t o _ (by omega) (by omega)]
  simp only [Option.bind_some]
  by_cases h:(eJ t:Int)≤1048576
  · rw [if_pos h,if_neg (by omega)]
    obtain ⟨e1,e2⟩:=aGl t (by omega) a
    have hv:=aDa (aAv t (by omega) a a).2.2
    obtain ⟨k1,x1,m1,m2,m3⟩:=aEx t 1 (by omega) (by omega)
    obtain ⟨k2,x2,n1,n2,n3,n4⟩:=aEy (zF t a a) 1 (by omega) (by omega)
    have c1:¬k1 < 0:=by omega
    have c2:¬k2 < 0:=by omega
    simp only [aD4 t (by omega),e1,e2,Option.bind_some,tH (zF t a a) (by omega),aEI t (by omega),m1,n1,n2,c1,c2,if_true,if_false,Bool.not_true,Bool.false_eq_true,ne_eq,not_true_eq_false]
  · rw [if_neg h,if_pos (by omega)]
end Go.Ev
/- Covariances: relative variances, all variances, the extremes; the laws. -/
namespace Go.Ev
set_option linter.all false
theorem aCA {r s:Rat} (hr:VZ r) (hs:VZ s) (h:¬(dL r∧dL s)):dR r s=some pE:=by
  unfold dR
  rw [mM hr,mM hs]
  simp only [Option.bind_some]
  by_cases c:dL r
  · rw [decide_eq_true c,decide_eq_false (fun h2=>h ⟨c,h2⟩)];rfl
  · rw [decide_eq_false c];rfl
theorem aI2 {r s:Rat} (hr:VZ r) (hs:VZ s):mC r s=some (RS r s)∧qW r s=some (RS r s)∧VZ (RS r s):=by
  have key:∃ t,mC r s=some t∧qW r s=some t∧VZ t:=by
    unfold mC qW
    rw [nB r (VZs hr),nB s (VZs hs)]
    simp only [Option.bind_some]
    by_cases cs:dL s
    · obtain ⟨m,e,rfl,h1,h2,h3,h4⟩:=wA cs
      rw [aHF m e h1 h2 h3,aHU m e h2 h3]
      simp only [Option.bind_some]
      have hn:=aG2 cs h2
      by_cases cr:dL r
      · obtain ⟨n,d,rfl,g1,g2,g3,g4⟩:=wA cr
        have hb:bl (-m)≤24:=by rw [aJl];exact h2
        rw [aCB n d (-m) e g1 h1 g2 g3 hb h3,aFp n d (-m) e g1 h1 g2 g3 hb h3,decide_eq_true cr,decide_eq_true cs]
        exact ⟨_,rfl,rfl,aEv _ _ _⟩
      · rw [aCA hr (.inl hn) (fun h=>cr h.1),decide_eq_false cr]
        exact ⟨pE,rfl,rfl,uQ⟩
    · obtain rfl:=hs.resolve_left cs
      have e:oH pE=some pE:=by unfold oH;rw [mM uQ,decide_eq_false vI];rfl
      rw [e]
      simp only [Option.bind_some]
      rw [aCA hr uQ (fun h=>vI h.2),decide_eq_false cs]
      by_cases cr:dL r
      · rw [decide_eq_true cr];exact ⟨pE,rfl,rfl,uQ⟩
      · rw [decide_eq_false cr];exact ⟨pE,rfl,rfl,uQ⟩
  obtain ⟨t,t1,t2,t3⟩:=key
  have:RS r s=t:=by unfold RS;rw [t1];rfl
  rw [this];exact ⟨t1,t2,t3⟩
theorem aKb {r s:Rat} (hr:VZ r) (hs:VZ s) (h:¬(dL r∧dL s)):RA r s=pE:=by
  have:=(aEM hr hs).2.1
  rw [aCA hr hs h] at this
  exact (Option.some.inj this).symm
theorem aKa {r:Rat} (hr:VZ r):RM r pE=pE:=by
  have h:=(aEL hr uQ).2.1
  have e:eK r pE=some pE:=by
    unfold eK
    rw [mM hr,mM uQ,decide_eq_false vI]
    by_cases c:dL r
    · rw [decide_eq_true c];rfl
    · rw [decide_eq_false c];rfl
  rw [e] at h;exact (Option.some.inj h).symm
theorem aJ9:RS pE pE=pE:=by
  have h:=(aI2 uQ uQ).1
  unfold mC at h
  rw [nB _ (VZs uQ),decide_eq_false vI] at h
  exact (Option.some.inj h).symm
theorem aGx:VZ (jL 2):=.inl (aAd 2 (by omega))
noncomputable def aG1 (t:Tree) (a b:Int):Rat:=RS (RA (zF t a a) (zF t b b)) (RM (jL 2) (zF t a b))
theorem aJK (t:Tree) (h:eJ t≤4294967296) (a b:Int):gH t a b=some (aG1 t a b)∧eO t a b=some (aG1 t a b)∧VZ (aG1 t a b):=by
  have v1:=(aAv t h a a).2.2
  have v2:=(aAv t h b b).2.2
  have v3:=(aAv t h a b).2.2
  have q1:=aEM v1 v2
  have q2:=aEL aGx v3
  have q3:=aI2 q1.2.2 q2.2.2
  refine ⟨?_,?_,q3.2.2⟩
  · unfold gH
    rw [xL t h]
    simp only [Option.bind_some]
    rcases aFP _ (aHN h) with ⟨h1,h2,h3⟩ | ⟨h1,h2⟩
    · have e:∀ x y,aFf (iI t.fNodes) x y=zF t x y:=fun x y=>by unfold zF cov;rw [if_pos h1]
      rw [h1]
      simp only [Option.bind_some,if_true]
      rw [fR 2 (by omega),aEN h3,aEN h3,aEN h3,e,e,e]
      simp only [Option.bind_some]
      rw [q2.1]
      simp only [Option.bind_some]
      rw [q1.1]
      simp only [Option.bind_some]
      rw [q3.1];rfl
    · rw [h1]
      have e:∀ x y,zF t x y=pE:=fun x y=>by unfold zF cov;rw [if_neg (by rw [h1];simp)]
      unfold aG1
      rw [e,e,e,aKb uQ uQ (fun h=>vI h.1),aKa aGx,aJ9];rfl
  · unfold eO
    rw [(aGl t h a).2,(aGl t h b).2]
    simp only [Option.bind_some]
    rw [q1.2.1]
    simp only [Option.bind_some]
    rw [iH 2 (by omega)]
    simp only [Option.bind_some]
    rw [(aAv t h a b).2.1]
    simp only [Option.bind_some]
    rw [q2.2.1]
    simp only [Option.bind_some]
    rw [q3.2.1];rfl
theorem aFo (t:Tree) (a b:Int) (o:xP t) (_:okI .i64 a) (_:okI .i64 b):fD t a b=some true:=by
  unfold fD
  rw [aD6 t o _ (by omega) (by omega)]
  simp only [Option.bind_some]
  by_cases h:(eJ t:Int)≤1048576
  · rw [if_pos h,if_neg (by omega)]
    obtain ⟨e1,e2,e3⟩:=aJK t (by omega) a b
    have hv:=aDa e3
    obtain ⟨k1,x1,m1,m2,m3⟩:=aEx t 1 (by omega) (by omega)
    obtain ⟨k2,x2,n1,n2,n3,n4⟩:=aEy (aG1 t a b) 1 (by omega) (by omega)
    have c1:¬k1 < 0:=by omega
    have c2:¬k2 < 0:=by omega
    simp only [aD4 t (by omega),e1,e2,Option.bind_some,tH (aG1 t a b) (by omega),aEI t (by omega),m1,n1,n2,c1,c2,if_true,if_false,Bool.not_true,Bool.false_eq_true,ne_eq,not_true_eq_false]
  · rw [if_neg h,if_pos (by omega)]
end Go.Ev
