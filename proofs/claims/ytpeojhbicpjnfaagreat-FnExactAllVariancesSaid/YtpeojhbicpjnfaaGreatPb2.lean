/- Parts PQ6, PQ8, PH, PQ9, PR1, P24, PQ10, PQ11, PU1, PU2, PU3, PU4. -/
import Derived.Test.YtpeojhbicpjnfaaGreatPb1
import Derived.Test.YtpeojhbicpjnfaaGreatPa1
import Derived.Test.YtpeojhbicpjnfaaGreatLXd
set_option linter.all false
/- Whole numbers and fractions; both programs. -/
namespace Go.Ev
set_option linter.all false
def sZ (x:BigInt):Prop:=sO x.fMag∧(x.fNeg=true→x.fMag≠[])
instance (x:BigInt):Decidable (sZ x):=by unfold sZ;infer_instance
theorem aIh (x:BigInt) (h:x.fMag.length≤4294967296):pQ x=some (decide (sZ x)):=by
  unfold pQ
  rw [aFy _ h]
  simp only [Option.bind_some]
  by_cases c:sO x.fMag
  · rw [decide_eq_true c]
    simp only [if_true]
    cases hn:x.fNeg with
    | true =>
      simp only [if_true]
      by_cases e:x.fMag=[]
      · rw [decide_eq_false (fun g:sZ x=>g.2 hn e),e];rfl
      · have:x.fMag.length≠0:=fun g=>e (List.length_eq_zero_iff.1 g)
        have hb:sZ x:=⟨c,fun _=>e⟩
        rw [decide_eq_true hb,decide_eq_false (by omega)];rfl
    | false =>
      have hb:sZ x:=⟨c,fun g=>by rw [hn] at g;cases g⟩
      rw [decide_eq_true hb];rfl
  · rw [decide_eq_false c,decide_eq_false (fun g:sZ x=>c g.1)];rfl
theorem aIg (x:BigInt) (h:x.fMag.length≤4294967296):pD x=some (decide (sZ x)):=by
  unfold pD
  rw [aC8 _ h]
  simp only [Option.bind_some]
  by_cases c:sO x.fMag
  · rw [decide_eq_true c]
    simp only [if_true]
    cases hn:x.fNeg with
    | true =>
      simp only [if_true]
      by_cases e:x.fMag=[]
      · rw [decide_eq_false (fun g:sZ x=>g.2 hn e),e];rfl
      · have:x.fMag.length≠0:=fun g=>e (List.length_eq_zero_iff.1 g)
        have hb:sZ x:=⟨c,fun _=>e⟩
        rw [decide_eq_true hb,decide_eq_true (by omega)]
    | false =>
      have hb:sZ x:=⟨c,fun g=>by rw [hn] at g;cases g⟩
      rw [decide_eq_true hb];rfl
  · rw [decide_eq_false c,decide_eq_false (fun g:sZ x=>c g.1)];rfl
def aHV (x:BigInt):Int:=if x.fNeg=true then -(val x.fMag:Int) else (val x.fMag:Int)
theorem aC4 (x:BigInt):(aHV x).natAbs=val x.fMag:=by unfold aHV;split <;> omega
theorem aJh {x:BigInt} (h:sZ x):x=big (aHV x):=by
  obtain ⟨neg,mag⟩:=x
  unfold big
  rw [aC4]
  have e:=lT h.1
  simp only [] at e ⊢
  rw [← e]
  congr 1
  unfold aHV
  cases neg with
  | true =>
    have:val mag≠0:=fun z=>h.2 rfl (by simp only [] at e ⊢;rw [e,z,bB])
    simp only [if_true]
    rw [decide_eq_true (by omega)]
  | false=>simp
theorem aD6 (n m:Int):((!(decide (n < 0) == decide (m < 0)))&&decide (n.natAbs*m.natAbs≠0))=decide (n*m < 0):=by
  rw [← Int.natAbs_mul]
  rcases Int.lt_trichotomy n 0 with h1 | h1 | h1
  · rcases Int.lt_trichotomy m 0 with h2 | h2 | h2
    · have:=Int.mul_pos_of_neg_of_neg h1 h2
      rw [decide_eq_true h1,decide_eq_true h2,decide_eq_false (show ¬n*m < 0 by omega)];rfl
    · subst h2;simp
    · have:=Int.mul_neg_of_neg_of_pos h1 h2
      rw [decide_eq_true h1,decide_eq_false (show ¬m < 0 by omega),decide_eq_true (show (n*m).natAbs≠0 by omega),decide_eq_true this];rfl
  · subst h1;simp
  · rcases Int.lt_trichotomy m 0 with h2 | h2 | h2
    · have:=Int.mul_neg_of_pos_of_neg h1 h2
      rw [decide_eq_false (show ¬n < 0 by omega),decide_eq_true h2,decide_eq_true (show (n*m).natAbs≠0 by omega),decide_eq_true this];rfl
    · subst h2;simp
    · have:=Int.mul_pos h1 h2
      rw [decide_eq_false (show ¬n < 0 by omega),decide_eq_false (show ¬m < 0 by omega),decide_eq_false (show ¬n*m < 0 by omega)];rfl
theorem aBY (n:Int):(big n).fMag=aE n.natAbs:=rfl
theorem aBX (n:Int):(big n).fNeg=decide (n < 0):=rfl
def bl (n:Int):Nat:=(aE n.natAbs).length
theorem tU (n m:Int):bl (n*m)≤bl n+bl m:=by unfold bl;rw [Int.natAbs_mul];exact cZ _ _
theorem aF6 (n m:Int):bl (n+m)≤max (bl n) (bl m)+1:=by
  unfold bl
  exact Nat.le_trans (eG (Int.natAbs_add_le n m) (Nat.le_refl _)) (aCW _ _)
theorem rI (n m:Int) (hn:bl n≤60) (hm:bl m≤60) (h:bl (n*m)≤60):eS (big n) (big m)=some (big (n*m)):=by
  unfold eS
  unfold bl at *
  rw [Int.natAbs_mul] at h
  simp only [big]
  rw [(jS n.natAbs m.natAbs (by omega) (by omega)).2]
  simp only [Option.bind_some]
  rw [rT _ _ h]
  simp only [Option.bind_some]
  rw [aD6,Int.natAbs_mul]
theorem yN (n:Int) (d:Nat) (h:(aE (n.natAbs*d)).length≤60):cC (decide (n < 0)) (aE (n.natAbs*d))=some (big (n*d)):=by
  rw [qL _ _ h]
  have:=aD6 n (d:Int)
  rw [decide_eq_false (show ¬((d:Int) < 0) by omega)] at this
  simp only [Int.natAbs_natCast] at this
  unfold big
  rw [← this]
  simp only [Int.natAbs_mul,Int.natAbs_natCast]
  congr 2
  cases decide (n < 0) <;> rfl
theorem aGv (n m:Int) (h:(decide (n < 0) == decide (m < 0))=true):(n+m).natAbs=n.natAbs+m.natAbs∧(decide (n < 0)&&decide ((n+m).natAbs≠0))=decide (n+m < 0):=by
  by_cases c1:n < 0
  · by_cases c2:m < 0
    · refine ⟨by omega,?_⟩
      rw [decide_eq_true c1,decide_eq_true (by omega),decide_eq_true (by omega)];rfl
    · simp [c1,c2] at h
  · by_cases c2:m < 0
    · simp [c1,c2] at h
    · refine ⟨by omega,?_⟩
      rw [decide_eq_false c1,decide_eq_false (show ¬(n+m < 0) by omega)];rfl
theorem aBZ (n m:Int) (h:¬(decide (n < 0) == decide (m < 0))=true) (hle:m.natAbs≤n.natAbs):(n+m).natAbs=n.natAbs - m.natAbs∧(decide (n < 0)&&decide ((n+m).natAbs≠0))=decide (n+m < 0):=by
  by_cases c1:n < 0
  · by_cases c2:m < 0
    · simp [c1,c2] at h
    · refine ⟨by omega,?_⟩
      rw [decide_eq_true c1,Bool.true_and]
      exact decide_eq_decide.2 (by omega)
  · by_cases c2:m < 0
    · refine ⟨by omega,?_⟩
      rw [decide_eq_false c1,decide_eq_false (show ¬(n+m < 0) by omega)];rfl
    · simp [c1,c2] at h
theorem aHW (n m:Int) (hn:bl n≤60) (hm:bl m≤60) (h:bl (n+m)≤60):sV (big n) (big m)=some (big (n+m)):=by
  unfold sV
  unfold bl at *
  by_cases c:(decide (n < 0) == decide (m < 0))=true
  · obtain ⟨e1,e2⟩:=aGv n m c
    rw [if_pos (show ((big n).fNeg == (big m).fNeg)=true from c)]
    simp only [aBY,aBX]
    rw [aHC _ _ (by omega) (by omega)]
    simp only [Option.bind_some]
    rw [← e1,rT _ _ h,e2];rfl
  · rw [if_neg (show ¬((big n).fNeg == (big m).fNeg)=true from c)]
    simp only [aBY,aBX]
    rw [xE _ _ (by omega) (by omega)]
    simp only [Option.bind_some]
    by_cases c2:m.natAbs≤n.natAbs
    · obtain ⟨e1,e2⟩:=aBZ n m c c2
      have c3:0≤oU n.natAbs m.natAbs:=by unfold oU;rw [if_neg (by omega)];split <;> omega
      rw [if_pos c3,(uX _ _ (by omega) c2).2]
      simp only [Option.bind_some]
      rw [← e1,rT _ _ h,e2];rfl
    · obtain ⟨e1,e2⟩:=aBZ m n (by rw [Bool.beq_comm];exact c) (by omega)
      have c3:¬0≤oU n.natAbs m.natAbs:=by unfold oU;rw [if_pos (by omega)];omega
      rw [if_neg c3,(uX _ _ (by omega) (by omega)).2]
      simp only [Option.bind_some]
      rw [← e1,Int.add_comm m n] at *
      rw [rT _ _ h,e2];rfl
theorem aE9 (n m:Int) (hn:bl n≤60) (hm:bl m≤60) (h:bl (n+m)≤60):qF (big n) (big m)=some (big (n+m)):=by
  unfold qF
  unfold bl at *
  by_cases c:(decide (n < 0) == decide (m < 0))=true
  · obtain ⟨e1,e2⟩:=aGv n m c
    rw [if_pos (show ((big n).fNeg == (big m).fNeg)=true from c)]
    simp only [aBY,aBX]
    rw [aFb _ _ (by omega) (by omega)]
    simp only [Option.bind_some]
    rw [← e1,qL _ _ h,e2];rfl
  · rw [if_neg (show ¬((big n).fNeg == (big m).fNeg)=true from c)]
    simp only [aBY,aBX]
    rw [tP _ _ (by omega) (by omega)]
    simp only [Option.bind_some]
    by_cases c2:m.natAbs≤n.natAbs
    · obtain ⟨e1,e2⟩:=aBZ n m c c2
      have c3:0≤oU n.natAbs m.natAbs:=by unfold oU;rw [if_neg (by omega)];split <;> omega
      rw [if_pos c3,(uX _ _ (by omega) c2).1]
      simp only [Option.bind_some]
      rw [← e1,qL _ _ h,e2];rfl
    · obtain ⟨e1,e2⟩:=aBZ m n (by rw [Bool.beq_comm];exact c) (by omega)
      have c3:¬0≤oU n.natAbs m.natAbs:=by unfold oU;rw [if_pos (by omega)];omega
      rw [if_neg c3,(uX _ _ (by omega) (by omega)).1]
      simp only [Option.bind_some]
      rw [← e1,Int.add_comm m n] at *
      rw [qL _ _ h,e2];rfl
def wV:Rat:=Rat.mk (BigInt.mk false []) []
def mkR (s:Bool) (x y:Nat):Rat :=
  if y=0 then wV else if 24 < (aE (x / Nat.gcd x y)).length∨24 < (aE (y / Nat.gcd x y)).length then wV
  else ⟨⟨s&&decide (x / Nat.gcd x y≠0),aE (x / Nat.gcd x y)⟩,aE (y / Nat.gcd x y)⟩
theorem aIj:aU wV≤48:=by decide
theorem aGr {x y:Nat} (hx:(aE x).length≤700) (hy:(aE y).length≤700):(aE (Nat.gcd x y)).length≤700:=by
  by_cases c:x=0
  · subst c;rw [Nat.gcd_zero_left];exact hy
  · exact Nat.le_trans (eG (Nat.gcd_le_left y (Nat.pos_of_ne_zero c)) (Nat.le_refl _)) hx
theorem aA3 (s t:Bool) (x y:Nat) (hx:(aE x).length≤60) (hy:(aE y).length≤60):lV ⟨s,aE x⟩ ⟨t,aE y⟩=some (mkR (!(s == t)) x y):=by
  unfold lV mkR
  simp only []
  by_cases c:y=0
  · rw [if_pos c,if_pos (by rw [c,bB];rfl)];rfl
  · have hl:(aE y).length≠0:=fun e=>gD c (List.length_eq_zero_iff.1 e)
    have hg:=aGr (x:=x) (y:=y) (by omega) (by omega)
    have hg0:0 < Nat.gcd x y:=Nat.gcd_pos_of_pos_right x (Nat.pos_of_ne_zero c)
    rw [if_neg c,if_neg (by omega),aE2 x y (by omega) (by omega)]
    simp only [Option.bind_some]
    rw [aCC x _ hg0 (by omega) hg,aCC y _ hg0 (by omega) hg]
    simp only [Option.bind_some]
    have l1:=aIF x (Nat.gcd x y)
    by_cases c1:24 < (aE (x / Nat.gcd x y)).length
    · rw [if_pos (by omega),if_pos (.inl c1)];rfl
    · rw [if_neg (by omega)]
      by_cases c2:24 < (aE (y / Nat.gcd x y)).length
      · rw [if_pos (.inr c2),decide_eq_true (by omega)];rfl
      · rw [if_neg (by omega),decide_eq_false (by omega)]
        simp only [Option.bind_some,Bool.false_eq_true,if_false]
        rw [rT _ _ (by omega)];rfl
theorem iY:([1]:List Int)=aE 1:=by rw [rH (by rw [dI];omega) (by omega)];rfl
theorem aDQ (x:Nat):gL (aE x)=some (decide (x=1)):=by
  unfold gL
  by_cases c:x=1
  · subst c;rw [← iY];simp [idx]
  · rw [decide_eq_false c]
    by_cases h:(aE x).length=1
    · have hx:x < BB:=by have:=mS x;rw [h,Nat.pow_one] at this;exact this
      have h0:x≠0:=by rintro rfl;rw [bB] at h;simp at h
      rw [if_pos (by omega),show (0:Int)=((0:Nat):Int) from rfl,aT (by omega)]
      simp only [rH hx h0,List.getElem_cons_zero,Option.bind_some]
      rw [decide_eq_false (by omega)]
    · rw [if_neg (by omega)]
theorem aAM (s:Bool) (x y:Nat) (hx:(aE x).length≤60) (hy:(aE y).length≤60):lM s (aE x) (aE y)=some (mkR s x y):=by
  unfold lM mkR
  rw [vJ (dT x) (by omega),vJ (dT y) (by omega),cW,cW]
  simp only [Option.bind_some]
  by_cases c:y=0
  · rw [if_pos c,if_pos (by rw [c,bB];rfl)];rfl
  · have hl:(aE y).length≠0:=fun e=>gD c (List.length_eq_zero_iff.1 e)
    have hg:=aGr (x:=x) (y:=y) (by omega) (by omega)
    have hg0:0 < Nat.gcd x y:=Nat.gcd_pos_of_pos_right x (Nat.pos_of_ne_zero c)
    rw [if_neg c,if_neg (by omega),aDQ]
    simp only [Option.bind_some]
    have key:((if decide (y=1)=true then some (aE x,aE y) else (nG (aE x) (aE y)).bind fun r4=>(gL r4).bind fun r5=>(if r5=true then some (aE x,aE y) else (jN (aE x) r4).bind fun r6=>(jN (aE y) r4).bind fun r7=>some (r6.1,r7.1))):Option ((List Int) × (List Int)))=some (aE (x / Nat.gcd x y),aE (y / Nat.gcd x y)):=by
      by_cases c1:y=1
      · rw [decide_eq_true c1,if_pos rfl,c1,Nat.gcd_one_right,Nat.div_one,Nat.div_one]
      · rw [decide_eq_false c1,if_neg (by simp),aFa x y (by omega) (by omega)]
        simp only [Option.bind_some]
        rw [aDQ]
        simp only [Option.bind_some]
        by_cases c2:Nat.gcd x y=1
        · rw [decide_eq_true c2,if_pos rfl,c2,Nat.div_one,Nat.div_one]
        · rw [decide_eq_false c2,if_neg (by simp),aCO x _ hg0 (by omega) hg,aCO y _ hg0 (by omega) hg];rfl
    rw [key]
    simp only [Option.bind_some]
    by_cases c1:24 < (aE (x / Nat.gcd x y)).length
    · rw [if_pos (by omega),if_pos (.inl c1)];rfl
    · rw [if_neg (by omega)]
      by_cases c2:24 < (aE (y / Nat.gcd x y)).length
      · rw [if_pos (.inr c2),decide_eq_true (by omega)];rfl
      · rw [if_neg (by omega),decide_eq_false (by omega)]
        simp only [Option.bind_some,Bool.false_eq_true,if_false]
        rw [qL _ _ (by omega)]
        simp only [Option.bind_some]
        rw [bM (by simp;omega)]
        simp only [Option.bind_some,aN,List.nil_append]
def dE (r:Rat):Prop:=sZ r.fNum∧sO r.fDen∧r.fDen≠[]∧r.fDen.length≤24∧r.fNum.fMag.length≤24∧Nat.gcd (val r.fNum.fMag) (val r.fDen)=1
instance (r:Rat):Decidable (dE r):=by unfold dE;infer_instance
theorem aHs (r:Rat) (h:aU r≤4294967296):r.fNum.fMag.length≤4294967296∧r.fDen.length≤4294967296:=by
  unfold aU dG fP at h
  simp only [sF] at h;omega
theorem aC5 (r:Rat) (h:aU r≤4294967296):qD r=some (decide (dE r)):=by
  obtain ⟨h1,h2⟩:=aHs r h
  unfold qD
  rw [aIh _ h1]
  simp only [Option.bind_some]
  by_cases c1:sZ r.fNum
  · rw [decide_eq_true c1,if_pos rfl,aFy _ h2]
    simp only [Option.bind_some]
    by_cases c2:sO r.fDen
    · rw [decide_eq_true c2,if_pos rfl]
      simp only [Option.bind_some]
      by_cases c3:r.fDen=[]
      · rw [decide_eq_false (fun g:dE r=>g.2.2.1 c3),decide_eq_true (by rw [c3];rfl)];rfl
      · have hn:r.fDen.length≠0:=fun e=>c3 (List.length_eq_zero_iff.1 e)
        rw [decide_eq_false (show ¬((r.fDen.length:Int)=0) by omega)]
        simp only [Bool.false_eq_true,if_false]
        by_cases c4:24 < r.fNum.fMag.length
        · rw [if_pos (by omega),decide_eq_false (fun g:dE r=>by have:=g.2.2.2.2.1;omega)];rfl
        · rw [if_neg (by omega)]
          by_cases c5:24 < r.fDen.length
          · rw [decide_eq_true (show (24:Int) < r.fDen.length by omega),decide_eq_false (fun g:dE r=>by have:=g.2.2.2.1;omega)];rfl
          · rw [decide_eq_false (show ¬(24:Int) < r.fDen.length by omega)]
            simp only [Option.bind_some,Bool.false_eq_true,if_false]
            have e1:=lT c1.1
            have e2:=lT c2
            have g:=aE2 (val r.fNum.fMag) (val r.fDen) (by rw [← e1];omega) (by rw [← e2];omega)
            rw [← e1,← e2] at g
            rw [g]
            have o:=aDQ (Nat.gcd (val r.fNum.fMag) (val r.fDen))
            unfold gL at o
            simp only [Option.bind_some]
            rw [o]
            congr 1
            exact decide_eq_decide.2 ⟨fun q=>⟨c1,c2,c3,by omega,by omega,q⟩,fun q=>q.2.2.2.2.2⟩
    · rw [decide_eq_false c2,decide_eq_false (fun g:dE r=>c2 g.2.1)];rfl
  · rw [decide_eq_false c1,decide_eq_false (fun g:dE r=>c1 g.1)];rfl
theorem jI (r:Rat) (h:aU r≤4294967296):dM r=some (decide (dE r)):=by
  obtain ⟨h1,h2⟩:=aHs r h
  unfold dM
  rw [aIg _ h1]
  simp only [Option.bind_some]
  by_cases c1:sZ r.fNum
  · rw [decide_eq_true c1,if_pos rfl,aC8 _ h2]
    simp only [Option.bind_some]
    by_cases c2:sO r.fDen
    · rw [decide_eq_true c2,if_pos rfl]
      by_cases c3:r.fDen=[]
      · rw [decide_eq_false (fun g:dE r=>g.2.2.1 c3),if_pos (by rw [c3];rfl)];rfl
      · have hn:r.fDen.length≠0:=fun e=>c3 (List.length_eq_zero_iff.1 e)
        rw [if_neg (by omega)]
        by_cases c5:24 < r.fDen.length
        · rw [if_pos (by omega),decide_eq_false (fun g:dE r=>by have:=g.2.2.2.1;omega)];rfl
        · rw [if_neg (by omega)]
          by_cases c4:24 < r.fNum.fMag.length
          · rw [decide_eq_true (show (24:Int) < r.fNum.fMag.length by omega),decide_eq_false (fun g:dE r=>by have:=g.2.2.2.2.1;omega)];rfl
          · rw [decide_eq_false (show ¬(24:Int) < r.fNum.fMag.length by omega)]
            simp only [Option.bind_some,Bool.false_eq_true,if_false]
            have e1:=lT c1.1
            have e2:=lT c2
            have g:=aFa (val r.fNum.fMag) (val r.fDen) (by rw [← e1];omega) (by rw [← e2];omega)
            rw [← e1,← e2] at g
            rw [g]
            simp only [Option.bind_some]
            rw [aDQ]
            simp only [Option.bind_some]
            congr 1
            exact decide_eq_decide.2 ⟨fun q=>⟨c1,c2,c3,by omega,by omega,q⟩,fun q=>q.2.2.2.2.2⟩
    · rw [decide_eq_false c2,decide_eq_false (fun g:dE r=>c2 g.2.1)];rfl
  · rw [decide_eq_false c1,decide_eq_false (fun g:dE r=>c1 g.1)];rfl
theorem vL {r:Rat} (h:dE r):∃ (n:Int) (d:Nat),r=⟨big n,aE d⟩∧0 < d∧bl n≤24∧(aE d).length≤24∧Nat.gcd n.natAbs d=1:=by
  obtain ⟨h1,h2,h3,h4,h5,h6⟩:=h
  have e1:=aJh h1
  have e2:=lT h2
  refine ⟨aHV r.fNum,val r.fDen,?_,?_,?_,by rw [← e2];exact h4,by rw [aC4];exact h6⟩
  · rw [← e1,← e2]
  · rcases Nat.eq_zero_or_pos (val r.fDen) with z | z
    · rw [z,bB] at e2;exact absurd e2 h3
    · exact z
  · unfold bl;rw [aC4,← lT h1.1];exact h5
theorem uJ (d:Nat):(⟨false,aE d⟩:BigInt)=big (d:Int):=by
  unfold big
  rw [decide_eq_false (by omega),Int.natAbs_natCast]
theorem aBc {n:Int} {d:Nat} (h:0 < d):fK ⟨big n,aE d⟩=some true:=by
  unfold fK
  have:(aE d).length≠0:=fun e=>gD (n:=d) (by omega) (List.length_eq_zero_iff.1 e)
  simp only []
  rw [decide_eq_true (by omega)]
def aG9 (n:Int) (d:Nat) (m:Int) (e:Nat):Rat:=mkR (decide (n*e+m*d < 0)) (n*e+m*d).natAbs (d*e)
theorem aEY (n:Int) (d:Nat) (m:Int) (e:Nat) (hd:0 < d) (he:0 < e) (h1:bl n≤24) (h2:(aE d).length≤24) (h3:bl m≤24) (h4:(aE e).length≤24):fN ⟨big n,aE d⟩ ⟨big m,aE e⟩=some (aG9 n d m e):=by
  unfold fN
  rw [aBc hd,aBc he]
  simp only [Option.bind_some,if_true,Bool.not_true,Bool.false_eq_true,if_false,dZ]
  have b1:bl (e:Int)≤24:=by unfold bl;rw [Int.natAbs_natCast];exact h4
  have b2:bl (d:Int)≤24:=by unfold bl;rw [Int.natAbs_natCast];exact h2
  have b3:=tU n e
  have b4:=tU m d
  have b5:=aF6 (n*e) (m*d)
  have b6:=tU d e
  rw [uJ,uJ,rI n e (by omega) (by omega) (by omega),rI m d (by omega) (by omega) (by omega)]
  simp only [Option.bind_some]
  rw [aHW _ _ (by omega) (by omega) (by omega),rI d e (by omega) (by omega) (by omega)]
  simp only [Option.bind_some]
  unfold big aG9
  unfold bl at b5 b6 b1 b2 b3 b4 h1 h3
  rw [aA3 _ _ _ _ (by omega) (by omega)]
  have:decide ((d:Int)*(e:Int) < 0)=false:=decide_eq_false (by have:=Int.mul_nonneg (a:=(d:Int)) (b:=(e:Int)) (by omega) (by omega);omega)
  rw [this,Int.natAbs_mul,Int.natAbs_natCast,Int.natAbs_natCast]
  simp only [Option.bind_some]
  congr 2
  cases decide (n*(e:Int)+m*(d:Int) < 0) <;> rfl
theorem aHH (n:Int) (d:Nat) (m:Int) (e:Nat) (hd:0 < d) (he:0 < e) (h1:bl n≤24) (h2:(aE d).length≤24) (h3:bl m≤24) (h4:(aE e).length≤24):sI ⟨big n,aE d⟩ ⟨big m,aE e⟩=some (aG9 n d m e):=by
  have b1:bl (e:Int)≤24:=by unfold bl;rw [Int.natAbs_natCast];exact h4
  have b2:bl (d:Int)≤24:=by unfold bl;rw [Int.natAbs_natCast];exact h2
  have b3:=tU n e
  have b4:=tU m d
  have b5:=aF6 (n*e) (m*d)
  have b7:=aF6 n m
  have b6:=cZ d e
  unfold sI
  simp only []
  rw [aDQ,aDQ]
  simp only [Option.bind_some]
  have key:((if decide (d=1)=true then some (decide (e=1)) else some false):Option Bool)=some (decide (d=1∧e=1)):=by
    by_cases c:d=1 <;> simp [c]
  rw [key]
  simp only [Option.bind_some]
  by_cases c:d=1∧e=1
  · rw [decide_eq_true c,if_pos rfl,aE9 n m (by omega) (by omega) (by omega)]
    simp only [Option.bind_some]
    obtain ⟨c1,c2⟩:=c
    unfold aG9
    rw [iY]
    unfold bl at b7 h1 h3
    simp only [big]
    rw [aAM _ _ _ (by omega) (by rw [← iY];simp),c1,c2]
    simp
  · rw [decide_eq_false c,if_neg (by simp)]
    have p1:(aE (n.natAbs*e)).length≤48:=by have:=cZ n.natAbs e;unfold bl at h1;omega
    have p2:(aE (m.natAbs*d)).length≤48:=by have:=cZ m.natAbs d;unfold bl at h3;omega
    have q1:cG (big n).fMag (aE e)=some (aE (n.natAbs*e)):=by unfold bl at h1;exact (jS n.natAbs e (by omega) (by omega)).1
    have q2:cG (big m).fMag (aE d)=some (aE (m.natAbs*d)):=by unfold bl at h3;exact (jS m.natAbs d (by omega) (by omega)).1
    have q3:cC (big n).fNeg (aE (n.natAbs*e))=some (big (n*e)):=yN n e (by omega)
    have q4:cC (big m).fNeg (aE (m.natAbs*d))=some (big (m*d)):=yN m d (by omega)
    rw [q1]
    simp only [Option.bind_some]
    rw [q3]
    simp only [Option.bind_some]
    rw [q2]
    simp only [Option.bind_some]
    rw [q4]
    simp only [Option.bind_some]
    rw [aE9 _ _ (by omega) (by omega) (by omega)]
    simp only [Option.bind_some]
    rw [(jS d e (by omega) (by omega)).1]
    simp only [Option.bind_some]
    unfold aG9
    unfold bl at b5 b3 b4 h1 h3 b1 b2
    simp only [big]
    rw [aAM _ _ _ (by omega) (by omega)];rfl
end Go.Ev
/- Fractions: the interface that both programs meet. -/
namespace Go.Ev
set_option linter.all false
def VZ (r:Rat):Prop:=dE r∨r=wV
theorem aHc:¬dE wV:=fun h=>h.2.2.1 rfl
theorem aDs:VZ wV:=.inr rfl
theorem aGx {r:Rat} (h:VZ r):aU r≤48:=by
  rcases h with h | h
  · unfold aU dG fP
    simp only [sF]
    have h1:=h.2.2.2.1
    have h2:=h.2.2.2.2.1
    omega
  · subst h;exact aIj
theorem aCV {n:Nat} (h:0 < n):aE n≠[]:=gD (by omega)
theorem aFO (s:Bool) (x y:Nat):VZ (mkR s x y):=by
  unfold mkR
  by_cases c:y=0
  · rw [if_pos c];exact aDs
  · rw [if_neg c]
    by_cases c2:24 < (aE (x / Nat.gcd x y)).length∨24 < (aE (y / Nat.gcd x y)).length
    · rw [if_pos c2];exact aDs
    · rw [if_neg c2]
      left
      have hg0:0 < Nat.gcd x y:=Nat.gcd_pos_of_pos_right x (Nat.pos_of_ne_zero c)
      have hy:0 < y / Nat.gcd x y:=Nat.div_pos (Nat.gcd_le_right x (Nat.pos_of_ne_zero c)) hg0
      refine ⟨⟨aAA (by omega),fun h=>?_⟩,aAA (by omega),aCV hy,by show (aE (y / Nat.gcd x y)).length≤24;omega,by show (aE (x / Nat.gcd x y)).length≤24;omega,?_⟩
      · simp only [Bool.and_eq_true,decide_eq_true_eq] at h
        exact gD h.2
      · simp only [cW]
        have:=Nat.gcd_div (Nat.gcd_dvd_left x y) (Nat.gcd_dvd_right x y)
        rw [this,Nat.div_self hg0]
theorem aGo {s s':Bool} {x y:Nat} (h:x≠0→s=s'):mkR s x y=mkR s' x y:=by
  by_cases c:x=0
  · subst c;unfold mkR;simp
  · rw [h c]
theorem nC {r:Rat} (h:VZ r):fK r=some (decide (dE r)):=by
  unfold fK
  rcases h with h | h
  · have:r.fDen.length≠0:=fun e=>h.2.2.1 (List.length_eq_zero_iff.1 e)
    rw [decide_eq_true h,decide_eq_true (by omega)]
  · subst h
    rw [decide_eq_false aHc];rfl
theorem aFx (r s:Rat) (hr:aU r≤4294967296) (hs:aU s≤4294967296):∃ t,jO r s=some t∧VZ t∧(VZ r→VZ s→fN r s=some t):=by
  unfold jO
  rw [jI r hr]
  simp only [Option.bind_some]
  by_cases c1:dE r
  · rw [decide_eq_true c1,if_pos rfl,jI s hs]
    simp only [Option.bind_some]
    by_cases c2:dE s
    · rw [decide_eq_true c2]
      obtain ⟨n,d,e1,e2,e3,e4,_⟩:=vL c1
      obtain ⟨m,e,g1,g2,g3,g4,_⟩:=vL c2
      subst e1;subst g1
      simp only [Bool.not_true,Bool.false_eq_true,if_false]
      have q:=aEY n d m e e2 g2 e3 e4 g3 g4
      rw [aHH n d m e e2 g2 e3 e4 g3 g4]
      exact ⟨_,rfl,aFO _ _ _,fun _ _=>q⟩
    · rw [decide_eq_false c2]
      refine ⟨wV,rfl,aDs,fun v1 v2=>?_⟩
      unfold fN
      rw [nC v1,nC v2,decide_eq_true c1,decide_eq_false c2];rfl
  · rw [decide_eq_false c1]
    refine ⟨wV,rfl,aDs,fun v1 v2=>?_⟩
    unfold fN
    rw [nC v1,decide_eq_false c1];rfl
def aIv (n:Int) (d:Nat) (m:Int) (e:Nat):Rat:=mkR (!(decide (n < 0) == decide (m < 0))) (n.natAbs*m.natAbs) (d*e)
theorem aEX (n:Int) (d:Nat) (m:Int) (e:Nat) (hd:0 < d) (he:0 < e) (h1:bl n≤24) (h2:(aE d).length≤24) (h3:bl m≤24) (h4:(aE e).length≤24):gO ⟨big n,aE d⟩ ⟨big m,aE e⟩=some (aIv n d m e):=by
  unfold gO
  rw [aBc hd,aBc he]
  simp only [Option.bind_some,if_true,Bool.not_true,Bool.false_eq_true,if_false,dZ]
  have b1:bl (e:Int)≤24:=by unfold bl;rw [Int.natAbs_natCast];exact h4
  have b2:bl (d:Int)≤24:=by unfold bl;rw [Int.natAbs_natCast];exact h2
  have b3:=tU n m
  have b6:=tU d e
  rw [rI n m (by omega) (by omega) (by omega),uJ,uJ,rI d e (by omega) (by omega) (by omega)]
  simp only [Option.bind_some]
  unfold big aIv
  unfold bl at b6 b1 b2 b3 h1 h3
  rw [aA3 _ _ _ _ (by omega) (by omega)]
  have:decide ((d:Int)*(e:Int) < 0)=false:=decide_eq_false (by have:=Int.mul_nonneg (a:=(d:Int)) (b:=(e:Int)) (by omega) (by omega);omega)
  rw [this,Int.natAbs_mul,Int.natAbs_mul,Int.natAbs_natCast,Int.natAbs_natCast]
  simp only [Option.bind_some]
  congr 1
  refine aGo fun hx=>?_
  have q:=aD6 n m
  rw [decide_eq_true hx,Bool.and_true] at q
  rw [← q]
  cases decide (n < 0) <;> cases decide (m < 0) <;> rfl
theorem aHG (n:Int) (d:Nat) (m:Int) (e:Nat) (h1:bl n≤24) (h2:(aE d).length≤24) (h3:bl m≤24) (h4:(aE e).length≤24):sH ⟨big n,aE d⟩ ⟨big m,aE e⟩=some (aIv n d m e):=by
  unfold bl at h1 h3
  have b1:=cZ n.natAbs m.natAbs
  have b2:=cZ d e
  unfold sH
  simp only [big]
  rw [(jS _ _ (by omega) (by omega)).1]
  simp only [Option.bind_some]
  rw [(jS _ _ (by omega) (by omega)).1]
  simp only [Option.bind_some]
  rw [aAM _ _ _ (by omega) (by omega)]
  rfl
theorem aHZ (r s:Rat) (hr:aU r≤4294967296) (hs:aU s≤4294967296):∃ t,lN r s=some t∧VZ t∧(VZ r→VZ s→gO r s=some t):=by
  unfold lN
  rw [jI r hr]
  simp only [Option.bind_some]
  by_cases c1:dE r
  · rw [decide_eq_true c1,if_pos rfl,jI s hs]
    simp only [Option.bind_some]
    by_cases c2:dE s
    · rw [decide_eq_true c2]
      obtain ⟨n,d,e1,e2,e3,e4,_⟩:=vL c1
      obtain ⟨m,e,g1,g2,g3,g4,_⟩:=vL c2
      subst e1;subst g1
      simp only [Bool.not_true,Bool.false_eq_true,if_false]
      rw [aHG n d m e e3 e4 g3 g4]
      exact ⟨_,rfl,aFO _ _ _,fun _ _=>aEX n d m e e2 g2 e3 e4 g3 g4⟩
    · rw [decide_eq_false c2]
      refine ⟨wV,rfl,aDs,fun v1 v2=>?_⟩
      unfold gO
      rw [nC v1,nC v2,decide_eq_true c1,decide_eq_false c2];rfl
  · rw [decide_eq_false c1]
    refine ⟨wV,rfl,aDs,fun v1 v2=>?_⟩
    unfold gO
    rw [nC v1,decide_eq_false c1];rfl
def aA1 (r:Rat):Int:=if dE r then (if r.fNum.fMag=[] then 0 else if r.fNum.fNeg=true then -1 else 1) else 0
theorem aCk {r:Rat} (h:0 < aA1 r):dE r:=by
  unfold aA1 at h
  by_cases c:dE r
  · exact c
  · rw [if_neg c] at h;omega
theorem aBe (r:Rat) (hr:aU r≤4294967296):lQ r=some (aA1 r)∧oQ r=some (aA1 r):=by
  unfold lQ oQ aA1
  rw [aC5 r hr,jI r hr]
  simp only [Option.bind_some]
  by_cases c1:dE r
  · rw [decide_eq_true c1,if_pos c1,if_pos rfl,if_pos rfl]
    unfold tF
    rw [nC (.inl c1),decide_eq_true c1]
    simp only [Option.bind_some,if_true]
    by_cases c2:r.fNum.fMag=[]
    · rw [if_pos c2,decide_eq_true (by rw [c2];rfl)];exact ⟨rfl,rfl⟩
    · have:r.fNum.fMag.length≠0:=fun e=>c2 (List.length_eq_zero_iff.1 e)
      rw [if_neg c2,decide_eq_false (by omega)]
      simp only [Bool.false_eq_true,if_false]
      cases r.fNum.fNeg <;> exact ⟨rfl,rfl⟩
  · rw [decide_eq_false c1,if_neg c1];exact ⟨rfl,rfl⟩
theorem aIX (a b:List Int) (h:a.length≤4294967296):oI a b=some (decide (a=b)):=by
  unfold oI
  by_cases c:a.length=b.length
  · rw [if_neg (by omega)]
    have main:∀ m k:Nat,m+k=a.length→lp (gY a b) (k:Int)=some (if a.drop k=b.drop k then .inl () else .inr false):=by
      intro m
      induction m with
      | zero =>
        intro k hk
        rw [if_pos (by rw [List.drop_eq_nil_of_le (by omega),List.drop_eq_nil_of_le (by omega)])]
        exact aY (by unfold gY;rw [if_neg (by omega)])
      | succ m ih =>
        intro k hk
        have h1:k < a.length:=by omega
        have h2:k < b.length:=by omega
        by_cases e:a[k]=b[k]
        · have s1:gY a b (k:Int)=some (.inl ((k+1:Nat):Int)):=by
            unfold gY
            rw [if_pos (by omega),aT h1,aT h2,wi (by omega)];simp [e]
          rw [bI s1,ih (k+1) (by omega)]
          have:a.drop k=b.drop k↔a.drop (k+1)=b.drop (k+1):=by
            rw [List.drop_eq_getElem_cons h1,List.drop_eq_getElem_cons h2,List.cons.injEq]
            exact ⟨fun h=>h.2,fun h=>⟨e,h⟩⟩
          simp only [this]
        · have:¬a.drop k=b.drop k:=by
            rw [List.drop_eq_getElem_cons h1,List.drop_eq_getElem_cons h2,List.cons.injEq]
            exact fun h=>e h.1
          rw [if_neg this]
          refine aY ?_
          unfold gY
          rw [if_pos (by omega),aT h1,aT h2];simp [e]
    have:=main a.length 0 (by omega)
    rw [show ((0:Nat):Int)=0 from rfl,List.drop_zero,List.drop_zero] at this
    rw [this]
    by_cases e:a=b
    · simp [e]
    · simp [e]
  · rw [if_pos (by omega),decide_eq_false (fun e=>c (by rw [e]))]
theorem aDt:sC=mJ:=rfl
theorem aF8 (r s:Rat) (hr:aU r≤4294967296):∃ b,mJ r s=some b:=by
  obtain ⟨h1,h2⟩:=aHs r hr
  unfold mJ
  rw [aIX _ _ h1,aIX _ _ h2]
  simp only [Option.bind_some]
  split
  · split
    · exact ⟨_,rfl⟩
    · exact ⟨_,rfl⟩
  · exact ⟨_,rfl⟩
theorem aCt (n:Int) (h:-9223372036854775808≤n∧n≤9223372036854775807):dE (jL n):=by
  have hl:=iI (v:=n.natAbs) (by omega)
  unfold jL
  rw [iY]
  refine ⟨⟨aAA (by omega),fun hn=>?_⟩,aAA (by rw [← iY];simp),aCV (by omega),by rw [← iY];simp,by show (aE n.natAbs).length≤24;omega,?_⟩
  · simp only [big,decide_eq_true_eq] at hn
    exact gD (by omega)
  · simp only [cW,Nat.gcd_one_right]
end Go.Ev
/- Is a number in a list. -/
namespace Go.Ev
set_option linter.all false
theorem aFe (l:List Int) (n:Int) (h:l.length≤4294967296):qO l n=some (decide (n ∈ l)):=by
  have main:∀ m k:Nat,m+k=l.length→lp (jH l n) (k:Int)=some (if n ∈ l.drop k then .inr true else .inl ()):=by
    intro m
    induction m with
    | zero =>
      intro k hk
      have:k=l.length:=by omega
      subst this
      rw [aY (r:=.inl ()) (by unfold jH;rw [if_neg (by omega)]),List.drop_length];simp
    | succ m ih =>
      intro k hk
      have hlt:k < l.length:=by omega
      rw [List.drop_eq_getElem_cons hlt]
      by_cases c:l[k]=n
      · rw [aY (r:=.inr true) (by unfold jH;rw [if_pos (by omega),aT hlt];simp [c]),if_pos (by simp [c])]
      · have e:jH l n (k:Int)=some (.inl ((k:Int)+1)):=by
          unfold jH;rw [if_pos (by omega),aT hlt,wi (by omega)];simp [c]
        rw [bI e,show (k:Int)+1=((k+1:Nat):Int) by omega,ih (k+1) (by omega)]
        have:(n ∈ l[k]::l.drop (k+1))↔n ∈ l.drop (k+1):=by
          rw [List.mem_cons];exact ⟨fun h=>h.resolve_left (fun e=>c e.symm),.inr⟩
        simp only [this]
  have:=main l.length 0 (by omega)
  rw [show ((0:Nat):Int)=0 from rfl,List.drop_zero] at this
  unfold qO
  rw [this]
  by_cases c:n ∈ l <;> simp [c]
end Go.Ev
/- Conditionals and nets, both programs. -/
namespace Go.Ev
set_option linter.all false
theorem aHJ (a:Int):sT a=some (decide (0≤a∧a≤9)):=by
  unfold sT
  by_cases h:0≤a
  · rw [if_pos h];congr 1;rw [decide_eq_decide];omega
  · rw [if_neg h,decide_eq_false (by omega)]
theorem aGS (a:Int):qW a=some (decide (0≤a∧a≤9)):=by
  unfold qW
  rw [aAN];rfl
def aE1 (c:Conditional) (k:Nat) (p:Parent):Prop:=(0≤p.fNode∧p.fNode≤9)∧p.fNode≠c.fNode∧(∀ q,0 < k→c.fParents[k - 1]?=some q→q.fNode < p.fNode)∧0 < aA1 p.fShare∧dE p.fDX∧dE p.fDY
theorem aJA {c:Conditional} (h:aS c≤4294967296) {k:Nat} (hk:k < c.fParents.length):aU (c.fParents[k]).fShare≤4294967296∧aU (c.fParents[k]).fDX≤4294967296∧aU (c.fParents[k]).fDY≤4294967296:=by
  unfold aS dK at h
  have:=mW (w:=bY) (List.getElem_mem hk)
  have e:bY c.fParents[k]=aU (c.fParents[k]).fShare+aU (c.fParents[k]).fDX+aU (c.fParents[k]).fDY:=rfl
  omega
theorem aA4 {c:Conditional} (h:aS c≤4294967296):c.fParents.length≤4294967296∧aU c.fTotal≤4294967296:=by
  unfold aS dK at h
  have:=gR bY c.fParents
  omega
theorem aB6 (c:Conditional) (h:aS c≤4294967296):∀ m k:Nat,m+k=c.fParents.length→∀ s:Rat,VZ s →
    ∃ r,lp (cK c) ((k:Int),s)=some r∧lp (cL c) ((k:Int),s)=some r ∧
      (match r with | .inl v=>VZ v∧∀ j (hj:j < c.fParents.length),k≤j→aE1 c j c.fParents[j] | .inr b=>b=false):=by
  have hl:=(aA4 h).1
  intro m
  induction m with
  | zero =>
    intro k hk s hs
    refine ⟨.inl s,aY ?_,aY ?_,hs,fun j hj hkj=>by omega⟩
    · unfold cK;simp only [];rw [if_neg (by omega)]
    · unfold cL;simp only [];rw [if_neg (by omega)]
  | succ m ih =>
    intro k hk s hs
    have hlt:k < c.fParents.length:=by omega
    obtain ⟨z1,z2,z3⟩:=aJA h hlt
    obtain ⟨g1,g2⟩:=aBe _ z1
    have a1:=aC5 _ z2
    have a2:=aC5 _ z3
    have b1:=jI _ z2
    have b2:=jI _ z3
    obtain ⟨t,t1,t3,t4⟩:=aFx s (c.fParents[k]).fShare (by have:=aGx hs;omega) z1
    have step:(aE1 c k c.fParents[k]→cK c ((k:Int),s)=some (.inl (((k+1:Nat):Int),t))∧cL c ((k:Int),s)=some (.inl (((k+1:Nat):Int),t))) ∧
        (¬aE1 c k c.fParents[k]→cK c ((k:Int),s)=some (.inr (.inr false))∧cL c ((k:Int),s)=some (.inr (.inr false))):=by
      have w1:IntKind.i64.wrap ((k:Int)+1)=((k+1:Nat):Int):=by rw [wi (by omega)];omega
      have hin:(k:Int) < (c.fParents.length:Int):=by omega
      unfold cK cL
      simp only [hin,if_true,aT hlt,Option.bind_some,aHJ,aGS,g1,g2,a1,a2,b1,b2,t1,w1]
      by_cases A:0≤(c.fParents[k]).fNode∧(c.fParents[k]).fNode≤9
      · by_cases B:(c.fParents[k]).fNode=c.fNode
        · refine ⟨fun g=>absurd B g.2.1,fun _=>?_⟩
          simp [A,B]
        · by_cases D:0 < aA1 (c.fParents[k]).fShare
          · have D':¬aA1 (c.fParents[k]).fShare≤0:=by omega
            have t5:=t4 hs (.inl (aCk D))
            by_cases K:0 < k
            · have hlt2:k - 1 < c.fParents.length:=by omega
              have w2:IntKind.i64.wrap ((k:Int) - 1)=((k - 1:Nat):Int):=by rw [wi (by omega)];omega
              have K':(0:Int) < (k:Int):=by omega
              simp only [A,B,K',D',w2,aT hlt2,and_self,decide_true,if_true,if_false,Option.bind_some]
              by_cases C:(c.fParents[k]).fNode≤(c.fParents[k - 1]).fNode
              · refine ⟨fun g=>?_,fun _=>?_⟩
                · have:=g.2.2.1 (c.fParents[k - 1]) K (by rw [List.getElem?_eq_getElem hlt2]);omega
                · simp [C]
              · by_cases E:dE (c.fParents[k]).fDX
                · by_cases F:dE (c.fParents[k]).fDY
                  · refine ⟨fun _=>?_,fun g=>absurd ⟨A,B,fun q _ hq=>?_,D,E,F⟩ g⟩
                    · simp [C,E,F,t5]
                    · rw [List.getElem?_eq_getElem hlt2] at hq;cases hq;omega
                  · refine ⟨fun g=>absurd g.2.2.2.2.2 F,fun _=>?_⟩
                    simp [C,E,F]
                · refine ⟨fun g=>absurd g.2.2.2.2.1 E,fun _=>?_⟩
                  simp [C,E]
            · have K':¬(0:Int) < (k:Int):=by omega
              simp only [A,B,K',D',and_self,decide_true,if_true,if_false,Option.bind_some]
              by_cases E:dE (c.fParents[k]).fDX
              · by_cases F:dE (c.fParents[k]).fDY
                · refine ⟨fun _=>?_,fun g=>absurd ⟨A,B,fun q hq _=>absurd hq K,D,E,F⟩ g⟩
                  simp [E,F,t5]
                · refine ⟨fun g=>absurd g.2.2.2.2.2 F,fun _=>?_⟩
                  simp [E,F]
              · refine ⟨fun g=>absurd g.2.2.2.2.1 E,fun _=>?_⟩
                simp [E]
          · have D':aA1 (c.fParents[k]).fShare≤0:=by omega
            refine ⟨fun g=>absurd g.2.2.2.1 D,fun _=>?_⟩
            by_cases K:0 < k
            · have hlt2:k - 1 < c.fParents.length:=by omega
              have w2:IntKind.i64.wrap ((k:Int) - 1)=((k - 1:Nat):Int):=by rw [wi (by omega)];omega
              have K':(0:Int) < (k:Int):=by omega
              simp only [A,B,K',D',w2,aT hlt2,and_self,decide_true,if_true,if_false,Option.bind_some]
              by_cases C:(c.fParents[k]).fNode≤(c.fParents[k - 1]).fNode <;> simp [C]
            · have K':¬(0:Int) < (k:Int):=by omega
              simp only [A,B,K',D',and_self,decide_true,if_true,if_false,Option.bind_some]
              simp
      · refine ⟨fun g=>absurd g.1 A,fun _=>?_⟩
        simp [A]
    by_cases G:aE1 c k c.fParents[k]
    · obtain ⟨s1,s2⟩:=step.1 G
      rw [bI s1,bI s2]
      obtain ⟨r,e1,e2,e3⟩:=ih (k+1) (by omega) t t3
      refine ⟨r,e1,e2,?_⟩
      cases r with
      | inl v =>
        refine ⟨e3.1,fun j hj hkj=>?_⟩
        by_cases e:j=k
        · subst e;exact G
        · exact e3.2 j hj (by omega)
      | inr b=>exact e3
    · obtain ⟨s1,s2⟩:=step.2 G
      exact ⟨.inr false,aY s1,aY s2,rfl⟩
theorem tC:VZ (jL 0):=.inl (aCt 0 (by omega))
theorem aEy (c:Conditional) (h:aS c≤4294967296):∃ b,cP c=some b∧eT c=some b∧(b=true→(1≤c.fNode∧c.fNode≤9)∧∀ j (hj:j < c.fParents.length),aE1 c j c.fParents[j]):=by
  obtain ⟨hl,hT⟩:=aA4 h
  obtain ⟨g1,g2⟩:=aBe _ hT
  obtain ⟨r,e1,e2,e3⟩:=aB6 c h c.fParents.length 0 (by omega) (jL 0) tC
  rw [show ((0:Nat):Int)=0 from rfl] at e1 e2
  unfold cP eT
  rw [gS 0 (by omega),jZ 0 (by omega),gS 1 (by omega),jZ 1 (by omega)]
  simp only [Option.bind_some,e1,e2,g1,g2,aAN]
  by_cases A:1≤c.fNode∧c.fNode≤9
  · have A1:¬c.fNode < 1:=by omega
    have A2:¬10≤c.fNode:=by omega
    by_cases B:0 < aA1 c.fTotal
    · have B':¬aA1 c.fTotal≤0:=by omega
      by_cases D:c.fParents.length=0
      · have D1:¬(0:Int) < (c.fParents.length:Int):=by omega
        have D2:(c.fParents.length:Int)=0:=by omega
        refine ⟨false,?_,?_,fun h=>by cases h⟩
        · cases r with
          | inl v=>simp only [A,B,D1,and_self,decide_true,if_true,if_false,Option.bind_some]
          | inr b=>simp only [] at e3;subst e3;rfl
        · simp [A1,A2,B',D2]
      · have D1:(0:Int) < (c.fParents.length:Int):=by omega
        have D2:¬(c.fParents.length:Int)=0:=by omega
        cases r with
        | inl v =>
          obtain ⟨b,hb⟩:=aF8 v (jL 1) (by have:=aGx e3.1;omega)
          refine ⟨b,?_,?_,fun _=>⟨A,fun j hj=>e3.2 j hj (by omega)⟩⟩
          · simp only [A,B,D1,hb,and_self,decide_true,if_true,if_false,Option.bind_some]
          · rw [aDt];simp only [A1,A2,B',D2,hb,decide_false,if_true,if_false,Option.bind_some,Bool.false_eq_true]
        | inr b =>
          simp only [] at e3;subst e3
          refine ⟨false,rfl,?_,fun h=>by cases h⟩
          simp [A1,A2,B',D2]
    · have B':aA1 c.fTotal≤0:=by omega
      refine ⟨false,?_,?_,fun h=>by cases h⟩
      · cases r with
        | inl v=>simp [A,B]
        | inr b=>simp only [] at e3;subst e3;rfl
      · simp [A1,A2,B']
  · refine ⟨false,?_,?_,fun h=>by cases h⟩
    · cases r with
      | inl v=>simp [A]
      | inr b=>simp only [] at e3;subst e3;rfl
    · by_cases A1:c.fNode < 1
      · simp [A1]
      · have A2:10≤c.fNode:=by omega
        simp [A1,A2]
end Go.Ev
/- Fractions: quotients, differences, negation; the operations as total functions that both programs meet on valid or zero values. -/
namespace Go.Ev
set_option linter.all false
def aJH (n:Int) (d:Nat) (m:Int) (e:Nat):Rat:=mkR (!(decide (n < 0) == decide (m < 0))) (n.natAbs*e) (d*m.natAbs)
theorem aHt (n:Int) (d:Nat) (m:Int) (e:Nat) (hd:0 < d) (he:0 < e) (h1:bl n≤24) (h2:(aE d).length≤24) (h3:bl m≤24) (h4:(aE e).length≤24):jY ⟨big n,aE d⟩ ⟨big m,aE e⟩=some (aJH n d m e):=by
  unfold jY
  rw [aBc hd,aBc he]
  simp only [Option.bind_some,if_true,Bool.not_true,Bool.false_eq_true,if_false,dZ]
  have b1:bl (e:Int)≤24:=by unfold bl;rw [Int.natAbs_natCast];exact h4
  have b2:bl (d:Int)≤24:=by unfold bl;rw [Int.natAbs_natCast];exact h2
  have b3:=tU n e
  have b4:=tU m d
  rw [uJ,uJ,rI n e (by omega) (by omega) (by omega),rI m d (by omega) (by omega) (by omega)]
  simp only [Option.bind_some]
  unfold big aJH
  unfold bl at b1 b2 b3 b4 h1 h3
  rw [aA3 _ _ _ _ (by omega) (by omega)]
  simp only [Option.bind_some,Int.natAbs_mul,Int.natAbs_natCast]
  congr 1
  rw [Nat.mul_comm d m.natAbs]
  by_cases hm:m=0
  · subst hm;unfold mkR;simp
  · refine aGo fun hx=>?_
    have s1:decide (n*(e:Int) < 0)=decide (n < 0):=by
      rw [decide_eq_decide]
      constructor
      · intro h
        rcases Int.lt_or_le n 0 with g | g
        · exact g
        · have:=Int.mul_nonneg g (by omega:(0:Int)≤e);omega
      · intro h;exact Int.mul_neg_of_neg_of_pos h (by omega)
    have s2:decide (m*(d:Int) < 0)=decide (m < 0):=by
      rw [decide_eq_decide]
      constructor
      · intro h
        rcases Int.lt_or_le m 0 with g | g
        · exact g
        · have:=Int.mul_nonneg g (by omega:(0:Int)≤d);omega
      · intro h;exact Int.mul_neg_of_neg_of_pos h (by omega)
    rw [s1,s2]
theorem aH0 (r s:Rat) (hr:aU r≤4294967296) (hs:aU s≤4294967296):∃ t,nH r s=some t∧VZ t∧(VZ r→VZ s→jY r s=some t):=by
  unfold nH
  rw [jI r hr]
  simp only [Option.bind_some]
  by_cases c1:dE r
  · rw [decide_eq_true c1,if_pos rfl,jI s hs]
    simp only [Option.bind_some]
    by_cases c2:dE s
    · rw [decide_eq_true c2]
      obtain ⟨n,d,e1,e2,e3,e4,_⟩:=vL c1
      obtain ⟨m,e,g1,g2,g3,g4,_⟩:=vL c2
      subst e1;subst g1
      simp only [Bool.not_true,Bool.false_eq_true,if_false]
      have e3':=e3
      have g3':=g3
      unfold bl at e3' g3'
      have b1:=cZ n.natAbs e
      have b2:=cZ d m.natAbs
      have q:(cG (big n).fMag (aE e))=some (aE (n.natAbs*e)):=(jS _ _ (by omega) (by omega)).1
      have q2:(cG (aE d) (big m).fMag)=some (aE (d*m.natAbs)):=(jS _ _ (by omega) (by omega)).1
      rw [q]
      simp only [Option.bind_some]
      rw [q2]
      simp only [Option.bind_some]
      rw [aAM _ _ _ (by omega) (by omega)]
      exact ⟨_,rfl,aFO _ _ _,fun _ _=>aHt n d m e e2 g2 e3 e4 g3 g4⟩
    · rw [decide_eq_false c2]
      refine ⟨wV,rfl,aDs,fun v1 v2=>?_⟩
      unfold jY
      rw [nC v1,nC v2,decide_eq_true c1,decide_eq_false c2];rfl
  · rw [decide_eq_false c1]
    refine ⟨wV,rfl,aDs,fun v1 v2=>?_⟩
    unfold jY
    rw [nC v1,decide_eq_false c1];rfl
noncomputable def RA (r s:Rat):Rat:=(jO r s).getD wV
noncomputable def RM (r s:Rat):Rat:=(lN r s).getD wV
noncomputable def RD (r s:Rat):Rat:=(nH r s).getD wV
theorem VZs {r:Rat} (h:VZ r):aU r≤4294967296:=by have:=aGx h;omega
theorem aGa {r s:Rat} (hr:VZ r) (hs:VZ s):jO r s=some (RA r s)∧fN r s=some (RA r s)∧VZ (RA r s):=by
  obtain ⟨t,t1,t3,t4⟩:=aFx r s (VZs hr) (VZs hs)
  have:RA r s=t:=by unfold RA;rw [t1];rfl
  rw [this];exact ⟨t1,t4 hr hs,t3⟩
theorem aF9 {r s:Rat} (hr:VZ r) (hs:VZ s):lN r s=some (RM r s)∧gO r s=some (RM r s)∧VZ (RM r s):=by
  obtain ⟨t,t1,t3,t4⟩:=aHZ r s (VZs hr) (VZs hs)
  have:RM r s=t:=by unfold RM;rw [t1];rfl
  rw [this];exact ⟨t1,t4 hr hs,t3⟩
theorem aH1 {r s:Rat} (hr:VZ r) (hs:VZ s):nH r s=some (RD r s)∧jY r s=some (RD r s)∧VZ (RD r s):=by
  obtain ⟨t,t1,t3,t4⟩:=aH0 r s (VZs hr) (VZs hs)
  have:RD r s=t:=by unfold RD;rw [t1];rfl
  rw [this];exact ⟨t1,t4 hr hs,t3⟩
end Go.Ev
/- Copies of conditionals; the net of a tree. -/
namespace Go.Ev
set_option linter.all false
theorem nE (x:Rat) (h:aU x≤4294967296):iF x=some x:=by
  unfold aU dG fP at h
  rw [sF,sF] at h
  unfold iF
  rw [bM (by simp;omega),bM (by simp;omega)]
  simp only [Option.bind_some,aN,List.nil_append]
theorem wM (l:List Int) (h:l.length≤4294967296):iO l=some l:=by
  unfold iO
  rw [bM (by simp;omega)]
  simp only [Option.bind_some,aN,List.nil_append]
theorem nX (x:Rat) (h:aU x≤4294967296):iH x=some x:=by
  unfold aU dG fP at h
  rw [sF,sF] at h
  unfold iH
  rw [wM _ (by omega)]
  simp only [Option.bind_some]
  rw [wM _ (by omega)]
  simp only [Option.bind_some]
theorem vX (c:Conditional) (h:aS c≤4294967296):gP c=some c:=by
  have hp:=gR bY c.fParents
  unfold aS dK at h
  unfold gP
  rw [nX _ (by omega)]
  simp only [Option.bind_some]
  have:=aE8 (step:=eR c) c.fParents (fun k t=>((k:Int),t)) (fun t=>t) (fun k t hk ht=>by
    have he:=mW (w:=bY) (List.getElem_mem hk)
    have hn:bY c.fParents[k]=aU (c.fParents[k]).fShare+aU (c.fParents[k]).fDX+aU (c.fParents[k]).fDY:=rfl
    unfold eR
    simp only []
    rw [if_pos (by omega),aT hk]
    simp only [Option.bind_some]
    rw [nX _ (by omega)]
    simp only [Option.bind_some]
    rw [nX _ (by omega)]
    simp only [Option.bind_some]
    rw [nX _ (by omega)]
    simp only [Option.bind_some]
    rw [bM (by omega),wi (by omega)];rfl) (fun t ht=>by unfold eR;simp only [];rw [if_neg (by omega)])
  rw [show ((0:Nat):Int)=0 from rfl] at this
  rw [this];rfl
def iJ (l:List TreeNode):List Conditional:=l.map (fun n=>n.fCond)
theorem aC0:∀ l:List TreeNode,cH (iJ l)≤szL bG l
  | []=>by simp [iJ,cH,aBS]
  | y::l=>by
    have:=aC0 l
    have hn:bG y=cF y.fOwn+aS y.fCond+cF y.fMessages+aU y.fEnergy:=rfl
    unfold iJ cH at *
    rw [List.map_cons,sG,sG]
    omega
end Go.Ev
/- Nets and their solution, both programs. -/
namespace Go.Ev
set_option linter.all false
theorem aAJ {step:Int→Option (Int ⊕ (Unit ⊕ Bool))} (n:Nat) (G:Nat→Prop) (h1:∀ k:Nat,k < n→(G k∧step (k:Int)=some (.inl ((k+1:Nat):Int)))∨(¬G k∧step (k:Int)=some (.inr (.inr false)))) (h2:step (n:Int)=some (.inr (.inl ()))) :
    (lp step 0=some (.inl ())∧∀ k,k < n→G k)∨(lp step 0=some (.inr false)∧∃ k,k < n∧¬G k):=by
  have main:∀ m k:Nat,m+k=n→(lp step (k:Int)=some (.inl ())∧∀ j,k≤j→j < n→G j)∨(lp step (k:Int)=some (.inr false)∧∃ j,j < n∧¬G j):=by
    intro m
    induction m with
    | zero =>
      intro k hk
      have:k=n:=by omega
      subst this
      exact .inl ⟨aY h2,fun j _ _=>by omega⟩
    | succ m ih =>
      intro k hk
      rcases h1 k (by omega) with ⟨g,e⟩ | ⟨g,e⟩
      · rw [bI e]
        rcases ih (k+1) (by omega) with ⟨a,b⟩ | ⟨a,b⟩
        · refine .inl ⟨a,fun j h1 h2=>?_⟩
          by_cases e:j=k
          · subst e;exact g
          · exact b j (by omega) h2
        · exact .inr ⟨a,b⟩
      · exact .inr ⟨aY e,k,by omega,g⟩
  rcases main n 0 (by omega) with ⟨a,b⟩ | ⟨a,b⟩
  · exact .inl ⟨a,fun j h=>b j (Nat.zero_le _) h⟩
  · exact .inr ⟨a,b⟩
theorem aJ6 (l:List Conditional) (hl:l.length≤4294967296):lp (kH l) 0=some ():=by
  have main:∀ m k:Nat,m+k=l.length→lp (kH l) (k:Int)=some ():=by
    intro m
    induction m with
    | zero=>intro k hk;exact aY (by unfold kH;rw [if_neg (by omega)])
    | succ m ih =>
      intro k hk
      have hlt:k < l.length:=by omega
      have e:kH l (k:Int)=some (.inl ((k+1:Nat):Int)):=by
        unfold kH;rw [if_pos (by omega),aT hlt,wi (by omega)];rfl
      rw [bI e];exact ih (k+1) (by omega)
  exact main l.length 0 (by omega)
theorem aJ5 (l:List Conditional) (p:Parent) (hl:l.length≤4294967296):∃ b,lp (kG l p) (false,0)=some b∧(b=true↔∃ d ∈ l,d.fNode=p.fNode):=by
  have main:∀ m k:Nat,m+k=l.length→∀ b:Bool,∃ b',lp (kG l p) (b,(k:Int))=some b'∧(b'=true↔(b=true∨∃ d ∈ l.drop k,d.fNode=p.fNode)):=by
    intro m
    induction m with
    | zero =>
      intro k hk b
      refine ⟨b,aY (by unfold kG;simp only [];rw [if_neg (by omega)]),?_⟩
      rw [List.drop_eq_nil_of_le (by omega)];simp
    | succ m ih =>
      intro k hk b
      have hlt:k < l.length:=by omega
      have w:IntKind.i64.wrap ((k:Int)+1)=((k+1:Nat):Int):=by rw [wi (by omega)];omega
      have e:kG l p (b,(k:Int))=some (.inl (b||decide ((l[k]).fNode=p.fNode),((k+1:Nat):Int))):=by
        unfold kG;simp only []
        rw [if_pos (by omega),aT hlt]
        simp only [Option.bind_some,w]
        cases b with
        | true=>rfl
        | false =>
          by_cases c:(l[k]).fNode=p.fNode <;> simp [c]
      obtain ⟨b',e1,e2⟩:=ih (k+1) (by omega) (b||decide ((l[k]).fNode=p.fNode))
      refine ⟨b',by rw [bI e];exact e1,?_⟩
      rw [e2,List.drop_eq_getElem_cons hlt]
      simp only [Bool.or_eq_true,decide_eq_true_eq,List.mem_cons,exists_eq_or_imp]
      rw [or_assoc]
  obtain ⟨b,e1,e2⟩:=main l.length 0 (by omega) false
  refine ⟨b,e1,?_⟩
  rw [e2,List.drop_zero];simp
def uY (l:List Conditional) (i:Nat):Prop:=∃ h:i < l.length,cP l[i]=some true∧(∀ p ∈ (l[i]).fParents,p.fNode=0∨∃ d ∈ l.drop (i+1),d.fNode=p.fNode)∧∀ d ∈ l.drop (i+1),d.fNode≠(l[i]).fNode
theorem aEm {l:List Conditional} (h:cH l≤4294967296):l.length≤4294967296∧∀ i (hi:i < l.length),aS l[i]≤4294967296:=by
  unfold cH at h
  have:=gR aS l
  refine ⟨by omega,fun i hi=>?_⟩
  have:=mW (w:=aS) (List.getElem_mem hi)
  omega
theorem aCf {α:Type} (l:List α) (k:Nat) (h:k+1≤l.length) (hl:l.length≤4294967296):sub l (IntKind.i64.wrap ((k:Int)+1)) (l.length:Int)=some (l.drop (k+1)):=by
  rw [wi (by omega),aGh _ _ _ (by omega)]
  congr 1
  rw [show ((k:Int)+1).toNat=k+1 by omega]
  exact List.take_of_length_le (by simp;omega)
theorem aD3 (l:List Conditional) (h:cH l≤4294967296) (i:Nat) (hi:i < l.length) :
    (uY l i∧kF l (i:Int)=some (.inl ((i+1:Nat):Int)))∨(¬uY l i∧kF l (i:Int)=some (.inr (.inr false))):=by
  obtain ⟨hl,hz⟩:=aEm h
  have hzi:=hz i hi
  obtain ⟨hp,_⟩:=aA4 hzi
  obtain ⟨b,e1,e2,e3⟩:=aEy l[i] hzi
  have w:IntKind.i64.wrap ((i:Int)+1)=((i+1:Nat):Int):=by rw [wi (by omega)];omega
  have hdl:(l.drop (i+1)).length≤4294967296:=by simp;omega
  unfold kF
  rw [if_pos (by omega),aT hi]
  simp only [Option.bind_some]
  rw [e1]
  simp only [Option.bind_some]
  cases b with
  | false=>exact .inr ⟨fun ⟨_,g,_⟩=>(by rw [e1] at g;cases g),rfl⟩
  | true =>
    rw [if_pos rfl]
    have q7:=aAJ (step:=pC l l[i] (i:Int)) (l[i]).fParents.length (fun k=>∃ p,(l[i]).fParents[k]?=some p∧(p.fNode=0∨∃ d ∈ l.drop (i+1),d.fNode=p.fNode)) (fun k hk=>by
      have w2:IntKind.i64.wrap ((k:Int)+1)=((k+1:Nat):Int):=by rw [wi (by omega)];omega
      unfold pC
      rw [if_pos (by omega),aT hk]
      simp only [Option.bind_some]
      by_cases c:((l[i]).fParents[k]).fNode=0
      · left
        refine ⟨⟨_,List.getElem?_eq_getElem hk,.inl c⟩,?_⟩
        rw [if_pos c,aCf l i (by omega) hl]
        simp only [Option.bind_some]
        rw [aJ6 _ hdl,w2];rfl
      · rw [if_neg c,aCf l i (by omega) hl]
        simp only [Option.bind_some]
        obtain ⟨b,f1,f2⟩:=aJ5 (l.drop (i+1)) (l[i]).fParents[k] hdl
        rw [f1]
        simp only [Option.bind_some]
        cases b with
        | true=>exact .inl ⟨⟨_,List.getElem?_eq_getElem hk,.inr (f2.1 rfl)⟩,by rw [if_pos rfl,w2]⟩
        | false =>
          refine .inr ⟨?_,by rw [if_neg (by simp)]⟩
          rintro ⟨p,g1,g2⟩
          rw [List.getElem?_eq_getElem hk] at g1;cases g1
          rcases g2 with g2 | g2
          · exact c g2
          · have:=f2.2 g2;cases this) (by unfold pC;rw [if_neg (by omega)])
    rcases q7 with ⟨f1,f2⟩ | ⟨f1,k,hk,f2⟩
    · rw [f1]
      simp only [Option.bind_some]
      rw [aCf l i (by omega) hl]
      simp only [Option.bind_some]
      have q8:=aAJ (step:=pB (l.drop (i+1)) l[i]) (l.drop (i+1)).length (fun k=>∃ d,(l.drop (i+1))[k]?=some d∧d.fNode≠(l[i]).fNode) (fun k hk=>by
        have w2:IntKind.i64.wrap ((k:Int)+1)=((k+1:Nat):Int):=by rw [wi (by omega)];omega
        unfold pB
        rw [if_pos (by omega),aT hk]
        simp only [Option.bind_some]
        by_cases c:((l.drop (i+1))[k]).fNode=(l[i]).fNode
        · refine .inr ⟨?_,by rw [if_pos c]⟩
          rintro ⟨p,g1,g2⟩
          rw [List.getElem?_eq_getElem hk] at g1;cases g1
          exact g2 c
        · exact .inl ⟨⟨_,List.getElem?_eq_getElem hk,c⟩,by rw [if_neg c,w2]⟩) (by unfold pB;rw [if_neg (by omega)])
      rcases q8 with ⟨g1,g2⟩ | ⟨g1,k,hk,g2⟩
      · rw [g1]
        left
        refine ⟨⟨hi,e1,fun p hp=>?_,fun d hd=>?_⟩,by simp only [Option.bind_some];rw [w]⟩
        · obtain ⟨k,hk,rfl⟩:=List.getElem_of_mem hp
          obtain ⟨q,r1,r2⟩:=f2 k hk
          rw [List.getElem?_eq_getElem hk] at r1;cases r1;exact r2
        · obtain ⟨k,hk,rfl⟩:=List.getElem_of_mem hd
          obtain ⟨q,r1,r2⟩:=g2 k hk
          rw [List.getElem?_eq_getElem hk] at r1;cases r1;exact r2
      · rw [g1]
        right
        refine ⟨fun ⟨_,_,_,r⟩=>g2 ⟨_,List.getElem?_eq_getElem hk,r _ (List.getElem_mem hk)⟩,rfl⟩
    · rw [f1]
      right
      refine ⟨fun ⟨_,_,r,_⟩=>f2 ⟨_,List.getElem?_eq_getElem hk,r _ (List.getElem_mem hk)⟩,rfl⟩
theorem aGI (l:List Conditional) (h:cH l≤4294967296):(kI l=some true∧∀ i,i < l.length→uY l i)∨(kI l=some false∧∃ i,i < l.length∧¬uY l i):=by
  unfold kI
  rcases aAJ (step:=kF l) l.length (uY l) (fun k hk=>aD3 l h k hk) (by unfold kF;rw [if_neg (by omega)]) with ⟨a,b⟩ | ⟨a,b⟩
  · exact .inl ⟨by rw [a];rfl,b⟩
  · exact .inr ⟨by rw [a];rfl,b⟩
theorem aEt (l:List Conditional) (h:cH l≤4294967296):∀ (k:Nat) (ns:List Int),k≤l.length→ns.length+k=l.length+1→(∀ x,x ∈ ns↔(x=0∨∃ d ∈ l.drop k,d.fNode=x)) →
    (lp (iP l) ((k:Int) - 1,ns)=some (.inl ())∧∀ i,i < k→uY l i)∨(lp (iP l) ((k:Int) - 1,ns)=some (.inr false)∧∃ i,i < k∧¬uY l i):=by
  obtain ⟨hl,hz⟩:=aEm h
  intro k
  induction k with
  | zero =>
    intro ns _ _ _
    exact .inl ⟨aY (by unfold iP;simp only [];rw [if_neg (by omega)]),fun i hi=>by omega⟩
  | succ k ih =>
    intro ns hk hlen hm
    have hlt:k < l.length:=by omega
    have hzi:=hz k hlt
    obtain ⟨hp,_⟩:=aA4 hzi
    obtain ⟨b,e1,e2,e3⟩:=aEy l[k] hzi
    have key:(uY l k∧iP l (((k+1:Nat):Int) - 1,ns)=some (.inl ((k:Int) - 1,ns++[(l[k]).fNode])))∨(¬uY l k∧iP l (((k+1:Nat):Int) - 1,ns)=some (.inr (.inr false))):=by
      unfold iP
      simp only []
      rw [show ((k+1:Nat):Int) - 1=(k:Int) by omega,if_pos (by omega),aT hlt]
      simp only [Option.bind_some]
      rw [e2]
      simp only [Option.bind_some]
      cases b with
      | false=>exact .inr ⟨fun ⟨_,g,_⟩=>(by rw [e1] at g;cases g),rfl⟩
      | true =>
        rw [if_pos rfl,aFe _ _ (by omega)]
        simp only [Option.bind_some]
        obtain ⟨hn,_⟩:=e3 rfl
        by_cases c:(l[k]).fNode ∈ ns
        · right
          refine ⟨fun ⟨_,_,_,r⟩=>?_,by rw [decide_eq_true c];rfl⟩
          rcases (hm _).1 c with z | ⟨d,hd,z⟩
          · omega
          · exact r d hd z
        · rw [decide_eq_false c]
          simp only [Bool.false_eq_true,if_false]
          have q1:=aAJ (step:=pP l[k] ns) (l[k]).fParents.length (fun j=>∃ p,(l[k]).fParents[j]?=some p∧p.fNode ∈ ns) (fun j hj=>by
            have w2:IntKind.i64.wrap ((j:Int)+1)=((j+1:Nat):Int):=by rw [wi (by omega)];omega
            unfold pP
            rw [if_pos (by omega),aT hj]
            simp only [Option.bind_some]
            rw [aFe _ _ (by omega)]
            simp only [Option.bind_some]
            by_cases c2:((l[k]).fParents[j]).fNode ∈ ns
            · exact .inl ⟨⟨_,List.getElem?_eq_getElem hj,c2⟩,by rw [decide_eq_true c2,if_pos rfl,w2]⟩
            · refine .inr ⟨?_,by rw [decide_eq_false c2,if_neg (by simp)]⟩
              rintro ⟨p,g1,g2⟩
              rw [List.getElem?_eq_getElem hj] at g1;cases g1
              exact c2 g2) (by unfold pP;rw [if_neg (by omega)])
          rcases q1 with ⟨f1,f2⟩ | ⟨f1,j,hj,f2⟩
          · left
            refine ⟨⟨hlt,e1,fun p hp=>?_,fun d hd z=>c ((hm _).2 (.inr ⟨d,hd,z⟩))⟩,?_⟩
            · obtain ⟨j,hj,rfl⟩:=List.getElem_of_mem hp
              obtain ⟨q,r1,r2⟩:=f2 j hj
              rw [List.getElem?_eq_getElem hj] at r1;cases r1
              exact (hm _).1 r2
            · rw [f1]
              simp only [Option.bind_some]
              rw [bM (by omega),wi (by omega)];rfl
          · right
            refine ⟨fun ⟨_,_,r,_⟩=>f2 ⟨_,List.getElem?_eq_getElem hj,(hm _).2 (r _ (List.getElem_mem hj))⟩,?_⟩
            rw [f1];rfl
    rcases key with ⟨g,e⟩ | ⟨g,e⟩
    · rw [bI e]
      rcases ih (ns++[(l[k]).fNode]) (by omega) (by simp;omega) (fun x=>by
        rw [List.mem_append,hm,List.drop_eq_getElem_cons hlt]
        simp only [List.mem_cons,List.not_mem_nil,or_false,exists_eq_or_imp]
        constructor
        · rintro ((z | z) | z)
          · exact .inl z
          · exact .inr (.inr z)
          · exact .inr (.inl z.symm)
        · rintro (z | z | z)
          · exact .inl (.inl z)
          · exact .inr z.symm
          · exact .inl (.inr z)) with ⟨a,b⟩ | ⟨a,i,hi,b⟩
      · refine .inl ⟨a,fun i hi=>?_⟩
        by_cases z:i=k
        · subst z;exact g
        · exact b i (by omega)
      · exact .inr ⟨a,i,by omega,b⟩
    · exact .inr ⟨aY e,k,by omega,g⟩
theorem aJI (l:List Conditional) (h:cH l≤4294967296):∃ b,kI l=some b∧kM l=some b∧(b=true→∀ i,i < l.length→uY l i):=by
  obtain ⟨hl,_⟩:=aEm h
  have hi:(kM l=some true∧∀ i,i < l.length→uY l i)∨(kM l=some false∧∃ i,i < l.length∧¬uY l i):=by
    unfold kM
    rw [aN,wi (by omega)]
    rcases aEt l h l.length [0] (Nat.le_refl _) (by simp;omega) (fun x=>by rw [List.drop_length];simp) with ⟨a,b⟩ | ⟨a,b⟩
    · exact .inl ⟨by rw [a];rfl,b⟩
    · exact .inr ⟨by rw [a];rfl,b⟩
  rcases aGI l h with ⟨a,b⟩ | ⟨a,i,hi1,b⟩
  · rcases hi with ⟨c,_⟩ | ⟨c,j,hj,d⟩
    · exact ⟨true,a,c,fun _=>b⟩
    · exact absurd (b j hj) d
  · rcases hi with ⟨c,d⟩ | ⟨c,_⟩
    · exact absurd (d i hi1) b
    · exact ⟨false,a,c,fun z=>by cases z⟩
end Go.Ev
/- Nets solved, both programs; the law. -/
namespace Go.Ev
set_option linter.all false
end Go.Ev
/- Covariances of a net: sums over parents, the table as a function of its nodes. -/
namespace Go.Ev
set_option linter.all false
theorem aJ0 (l:List Int) (x:Int) (hl:l.length≤4294967296):(∃ i:Nat,iW l x=some (i:Int)∧l[i]?=some x)∨(iW l x=some (-1)∧x ∉ l):=by
  have main:∀ m k:Nat,m+k=l.length→(∀ j (hj:j < l.length),j < k→l[j]≠x)→(∃ i:Nat,lp (iK l x) (k:Int)=some (.inr (i:Int))∧l[i]?=some x)∨(lp (iK l x) (k:Int)=some (.inl ())∧x ∉ l):=by
    intro m
    induction m with
    | zero =>
      intro k hk hn
      have hx:x ∉ l:=by
        intro h
        obtain ⟨j,hj,e⟩:=List.getElem_of_mem h
        exact hn j hj (by omega) e
      refine .inr ⟨aY ?_,hx⟩
      unfold iK
      rw [if_neg (by omega)]
    | succ m ih =>
      intro k hk hn
      have hlt:k < l.length:=by omega
      by_cases c:l[k]=x
      · refine .inl ⟨k,aY ?_,by rw [List.getElem?_eq_getElem hlt,c]⟩
        unfold iK
        rw [if_pos (by omega),aT hlt]
        simp only [Option.bind_some]
        rw [if_pos c]
      · have e:iK l x (k:Int)=some (.inl ((k+1:Nat):Int)):=by
          unfold iK
          rw [if_pos (by omega),aT hlt]
          simp only [Option.bind_some]
          rw [if_neg c,wi (by omega)];rfl
        rw [bI e]
        refine ih (k+1) (by omega) fun j hj hjk=>?_
        rcases Nat.lt_or_eq_of_le (Nat.le_of_lt_succ hjk) with h | h
        · exact hn j hj h
        · subst h;exact c
  unfold iW
  have:=main l.length 0 (by omega) (fun _ _ h=>by omega)
  rw [show ((0:Nat):Int)=0 from rfl] at this
  rcases this with ⟨i,e1,e2⟩ | ⟨e1,e2⟩
  · exact .inl ⟨i,by rw [e1];rfl,e2⟩
  · exact .inr ⟨by rw [e1];rfl,e2⟩
theorem aFA {l:List Int} {x:Int} (hl:l.length≤4294967296) (h:x ∈ l):∃ i:Nat,iW l x=some (i:Int)∧l[i]?=some x:=by
  rcases aJ0 l x hl with h1 | ⟨_,h1⟩
  · exact h1
  · exact absurd h h1
theorem aGc {l:List Int} {x:Int} (hl:l.length≤4294967296) (h:x ∉ l):iW l x=some (-1):=by
  rcases aJ0 l x hl with ⟨i,_,h1⟩ | ⟨h1,_⟩
  · exact absurd (List.mem_of_getElem? h1) h
  · exact h1
noncomputable def aBu (f:Int→Rat):List Parent→Rat→Rat
  | [],s=>s
  | p::ps,s=>aBu f ps (RA s (RM p.fShare (f p.fNode)))
theorem aD1 {f:Int→Rat}:∀ {ps:List Parent} {s:Rat},VZ s→(∀ p ∈ ps,VZ p.fShare∧VZ (f p.fNode))→VZ (aBu f ps s)
  | [],s,h,_=>h
  | p::ps,s,h,hp=>show VZ (aBu f ps (RA s (RM p.fShare (f p.fNode)))) from aD1 (aGa h (aF9 (hp p (by simp)).1 (hp p (by simp)).2).2.2).2.2 fun q hq=>hp q (by simp [hq])
theorem aEq {step:(Int × Rat)→Option ((Int × Rat) ⊕ Rat)} (ps:List Parent) (f:Int→Rat) (hv:∀ p ∈ ps,VZ p.fShare∧VZ (f p.fNode))
    (h1:∀ (k:Nat) (hk:k < ps.length) (s:Rat),VZ s→step ((k:Int),s)=some (.inl (((k+1:Nat):Int),RA s (RM (ps[k]).fShare (f (ps[k]).fNode))))) (h2:∀ s:Rat,step ((ps.length:Int),s)=some (.inr s)) (s:Rat) (hs:VZ s):lp step (0,s)=some (aBu f ps s):=by
  have main:∀ m k:Nat,m+k=ps.length→∀ s,VZ s→lp step ((k:Int),s)=some (aBu f (ps.drop k) s):=by
    intro m
    induction m with
    | zero =>
      intro k hk s hs
      obtain rfl:k=ps.length:=by omega
      rw [List.drop_length]
      exact aY (h2 s)
    | succ m ih =>
      intro k hk s hs
      have hlt:k < ps.length:=by omega
      obtain ⟨g1,g2⟩:=hv _ (List.getElem_mem hlt)
      rw [bI (h1 k hlt s hs),List.drop_eq_getElem_cons hlt]
      exact ih (k+1) (by omega) _ (aGa hs (aF9 g1 g2).2.2).2.2
  have:=main ps.length 0 (by omega) s hs
  rw [List.drop_zero] at this;exact this
def rL (nodes:List Int) (C:Int→Int→Rat):List (List Rat):=nodes.map fun x=>nodes.map fun y=>C x y
theorem aGf {nodes:List Int} {C:Int→Int→Rat} {i:Nat} {x:Int} (h:nodes[i]?=some x):idx (rL nodes C) (i:Int)=some (nodes.map fun y=>C x y):=by
  rw [yQ];unfold rL;rw [List.getElem?_map,h];rfl
theorem aEb {nodes:List Int} {g:Int→Rat} {i:Nat} {y:Int} (h:nodes[i]?=some y):idx (nodes.map g) (i:Int)=some (g y):=by
  rw [yQ,List.getElem?_map,h];rfl
theorem aI7 (c:Conditional) (hc:c.fParents.length≤4294967296) (nodes:List Int) (hn:nodes.length≤4294967296) (C:Int→Int→Rat) (hp:∀ p ∈ c.fParents,VZ p.fShare∧p.fNode ∈ nodes) (hC:∀ x ∈ nodes,∀ y ∈ nodes,VZ (C x y)) (v:Nat) (y:Int) (hy:nodes[v]?=some y) (s:Rat) (hs:VZ s) :
    lp (kS c nodes (rL nodes C) (v:Int)) (0,s)=some (aBu (fun p=>C p y) c.fParents s):=by
  refine aEq c.fParents (fun p=>C p y) (fun p h=>⟨(hp p h).1,hC _ (hp p h).2 _ (List.mem_of_getElem? hy)⟩) (fun k hk s hs=>?_) (fun s=>?_) s hs
  · obtain ⟨g1,g2⟩:=hp _ (List.getElem_mem hk)
    obtain ⟨i,e1,e2⟩:=aFA hn g2
    have q1:=aF9 g1 (hC _ g2 _ (List.mem_of_getElem? hy))
    unfold kS
    simp only []
    rw [if_pos (by omega),aT hk]
    simp only [Option.bind_some]
    rw [e1]
    simp only [Option.bind_some]
    rw [aGf e2]
    simp only [Option.bind_some]
    rw [aEb hy]
    simp only [Option.bind_some]
    rw [q1.1]
    simp only [Option.bind_some]
    rw [(aGa hs q1.2.2).1]
    simp only [Option.bind_some]
    rw [wi (by omega)];rfl
  · unfold kS
    simp only []
    rw [if_neg (by omega)]
noncomputable def newRow (c:Conditional) (C:Int→Int→Rat) (y:Int):Rat:=aBu (fun p=>C p y) c.fParents (jL 0)
theorem aA6 {c:Conditional} {nodes:List Int} {C:Int→Int→Rat} (hp:∀ p ∈ c.fParents,VZ p.fShare∧p.fNode ∈ nodes) (hC:∀ x ∈ nodes,∀ y ∈ nodes,VZ (C x y)) {y:Int} (hy:y ∈ nodes):VZ (newRow c C y) :=
  aD1 tC fun p h=>⟨(hp p h).1,hC _ (hp p h).2 _ hy⟩
theorem aI6 (c:Conditional) (hc:c.fParents.length≤4294967296) (nodes:List Int) (hn:nodes.length≤1000) (C:Int→Int→Rat) (hp:∀ p ∈ c.fParents,VZ p.fShare∧p.fNode ∈ nodes) (hC:∀ x ∈ nodes,∀ y ∈ nodes,VZ (C x y)) :
    lp (fW nodes c (rL nodes C)) (0,[])=some (nodes.map (newRow c C)):=by
  have main:∀ m k:Nat,m+k=nodes.length→lp (fW nodes c (rL nodes C)) ((k:Int),(nodes.take k).map (newRow c C))=some (nodes.map (newRow c C)):=by
    intro m
    induction m with
    | zero =>
      intro k hk
      obtain rfl:k=nodes.length:=by omega
      rw [List.take_length]
      apply aY
      unfold fW
      simp only []
      rw [if_neg (by omega)]
    | succ m ih =>
      intro k hk
      have hlt:k < nodes.length:=by omega
      have hy:=List.getElem?_eq_getElem hlt
      have e:fW nodes c (rL nodes C) ((k:Int),(nodes.take k).map (newRow c C))=some (.inl (((k+1:Nat):Int),(nodes.take (k+1)).map (newRow c C))):=by
        unfold fW
        simp only []
        rw [if_pos (by omega),gS 0 (by omega)]
        simp only [Option.bind_some]
        rw [aI7 c hc nodes (by omega) C hp hC k _ hy _ tC]
        simp only [Option.bind_some]
        rw [bM (by simp;omega)]
        simp only [Option.bind_some]
        rw [aN,wi (by omega)]
        congr 3
        rw [List.take_add_one,List.map_append,hy];rfl
      rw [bI e];exact ih (k+1) (by omega)
  have:=main nodes.length 0 (by omega)
  simpa using this
theorem aI5 (c:Conditional) (hc:c.fParents.length≤4294967296) (nodes:List Int) (hn:nodes.length≤4294967296) (g:Int→Rat) (hp:∀ p ∈ c.fParents,VZ p.fShare∧p.fNode ∈ nodes) (hg:∀ x ∈ nodes,VZ (g x)) (s:Rat) (hs:VZ s) :
    lp (kR c nodes (nodes.map g)) (0,s)=some (aBu g c.fParents s):=by
  refine aEq c.fParents g (fun p h=>⟨(hp p h).1,hg _ (hp p h).2⟩) (fun k hk s hs=>?_) (fun s=>?_) s hs
  · obtain ⟨g1,g2⟩:=hp _ (List.getElem_mem hk)
    obtain ⟨i,e1,e2⟩:=aFA hn g2
    have q1:=aF9 g1 (hg _ g2)
    unfold kR
    simp only []
    rw [if_pos (by omega),aT hk]
    simp only [Option.bind_some]
    rw [e1]
    simp only [Option.bind_some]
    rw [aEb e2]
    simp only [Option.bind_some]
    rw [q1.1]
    simp only [Option.bind_some]
    rw [(aGa hs q1.2.2).1]
    simp only [Option.bind_some]
    rw [wi (by omega)];rfl
  · unfold kR
    simp only []
    rw [if_neg (by omega)]
noncomputable def zY (c:Conditional) (C:Int→Int→Rat):Rat:=aBu (newRow c C) c.fParents (RD (jL 1) c.fTotal)
theorem aAu:VZ (jL 1):=.inl (aCt 1 (by omega))
noncomputable def yT (c:Conditional) (C:Int→Int→Rat) (x y:Int):Rat :=
  if x=c.fNode then (if y=c.fNode then zY c C else newRow c C y) else if y=c.fNode then newRow c C x else C x y
theorem aIm {nodes:List Int} {c:Conditional} {C:Int→Int→Rat} (hc:c.fNode ∉ nodes):fU (rL nodes C) (nodes.map (newRow c C)) (rL nodes C).length++[nodes.map (newRow c C)++[zY c C]]=rL (nodes++[c.fNode]) (yT c C):=by
  have e1:(nodes++[c.fNode]).map (fun y=>yT c C c.fNode y)=nodes.map (newRow c C)++[zY c C]:=by
    rw [List.map_append]
    congr 1
    · apply List.map_congr_left
      intro y hy
      unfold yT
      rw [if_pos rfl,if_neg (by rintro rfl;exact hc hy)]
    · simp [yT]
  have e2:∀ x ∈ nodes,(nodes++[c.fNode]).map (fun y=>yT c C x y)=nodes.map (fun y=>C x y)++[newRow c C x]:=by
    intro x hx
    have hxc:¬x=c.fNode:=by rintro rfl;exact hc hx
    rw [List.map_append]
    congr 1
    · apply List.map_congr_left
      intro y hy
      unfold yT
      rw [if_neg hxc,if_neg (by rintro rfl;exact hc hy)]
    · simp [yT,hxc]
  unfold rL
  rw [List.map_append (f:=fun x=>(nodes++[c.fNode]).map fun y=>yT c C x y)]
  congr 1
  · apply List.ext_getElem?
    intro j
    rw [qP,List.length_map,List.getElem?_map,List.getElem?_map,List.getElem?_map]
    cases hv:nodes[j]? with
    | none=>rfl
    | some x =>
      have hj:=(List.getElem?_eq_some_iff.1 hv).1
      simp only [Option.map_some,hj,if_true]
      rw [e2 x (List.mem_of_getElem? hv)];rfl
  · rw [List.map_cons,List.map_nil,e1]
end Go.Ev
/- Covariances of a net: the table of both programs. -/
namespace Go.Ev
set_option linter.all false
theorem aHa (c:Conditional) (h:aS c≤4294967296) (hv:cP c=some true):dE c.fTotal:=by
  obtain ⟨hl,hT⟩:=aA4 h
  obtain ⟨g1,g2⟩:=aBe _ hT
  obtain ⟨r,e1,e2,e3⟩:=aB6 c h c.fParents.length 0 (by omega) (jL 0) tC
  rw [show ((0:Nat):Int)=0 from rfl] at e1 e2
  unfold cP at hv
  rw [gS 0 (by omega)] at hv
  simp only [Option.bind_some,e1,g1,aAN] at hv
  by_cases B:0 < aA1 c.fTotal
  · exact aCk B
  · exfalso
    cases r with
    | inl v =>
      by_cases A:1≤c.fNode∧c.fNode≤9
      · simp [A,B] at hv
      · simp [A] at hv
    | inr b=>simp only [] at e3;subst e3;cases hv
def bK (l:List Conditional):List Int:=0::(l.map (·.fNode)).reverse
theorem qZ (c:Conditional) (l:List Conditional):bK (c::l)=bK l++[c.fNode]:=by simp [bK]
theorem nJ {l:List Conditional} {x:Int}:x ∈ bK l↔x=0∨∃ d ∈ l,d.fNode=x:=by simp [bK]
def lX:List Conditional→Prop
  | []=>True
  | c::r=>(1≤c.fNode∧c.fNode≤9)∧c.fNode ∉ bK r∧(∀ p ∈ c.fParents,dE p.fShare∧p.fNode ∈ bK r)∧dE c.fTotal∧c.fParents.length≤4294967296∧lX r
theorem aFZ (l:List Conditional) (h:cH l≤4294967296) (hn:∀ i,i < l.length→uY l i):lX l:=by
  obtain ⟨hl,hsz⟩:=aEm h
  have main:∀ m k,m+k=l.length→lX (l.drop k):=by
    intro m
    induction m with
    | zero=>intro k hk;rw [List.drop_eq_nil_of_le (by omega)];trivial
    | succ m ih =>
      intro k hk
      have hlt:k < l.length:=by omega
      rw [List.drop_eq_getElem_cons hlt]
      obtain ⟨_,h1,h2,h3⟩:=hn k hlt
      have hc:=hsz k hlt
      obtain ⟨b,e1,_,e3⟩:=aEy _ hc
      rw [h1] at e1;cases e1
      obtain ⟨f1,f2⟩:=e3 rfl
      refine ⟨f1,?_,fun p hp=>?_,aHa _ hc h1,(aA4 hc).1,ih (k+1) (by omega)⟩
      · rw [nJ]
        rintro (h | ⟨d,hd,e⟩)
        · omega
        · exact h3 d hd e
      · obtain ⟨j,hj,rfl⟩:=List.getElem_of_mem hp
        exact ⟨aCk (f2 j hj).2.2.2.1,nJ.2 (h2 _ hp)⟩
  have:=main l.length 0 (by omega)
  rwa [List.drop_zero] at this
theorem aCz:∀ (n:Nat) (l:List Int),l.Nodup→(∀ x ∈ l,0≤x∧x < n)→l.length≤n
  | 0,l,_,h=>by
    cases l with
    | nil=>simp
    | cons a r=>have:=h a (by simp);omega
  | n+1,l,hn,h=>by
    by_cases c:(n:Int) ∈ l
    · have h1:=aCz n (l.erase (n:Int)) (hn.erase _) (fun x hx=>by
        have h2:=h x (List.mem_of_mem_erase hx)
        have:x≠n:=by rintro rfl;exact (List.Nodup.mem_erase_iff hn).1 hx |>.1 rfl
        omega)
      rw [List.length_erase_of_mem c] at h1;omega
    · have h1:=aCz n l hn (fun x hx=>by
        have h2:=h x hx
        have:x≠n:=by rintro rfl;exact c hx
        omega)
      omega
theorem tS:∀ {l:List Conditional},lX l→(bK l).Nodup∧∀ x ∈ bK l,0≤x∧x≤9
  | [],_=>by simp [bK]
  | c::r,h=>by
    obtain ⟨h1,h2,_,_,_,h3⟩:=h
    obtain ⟨g1,g2⟩:=tS h3
    rw [qZ]
    refine ⟨List.nodup_append.2 ⟨g1,by simp,?_⟩,?_⟩
    · intro x hx y hy e
      simp at hy;subst hy;subst e;exact h2 hx
    · intro x hx
      rcases List.mem_append.1 hx with hx | hx
      · exact g2 x hx
      · simp at hx;subst hx;omega
theorem aAR {l:List Conditional} (h:lX l):l.length≤9:=by
  obtain ⟨g1,g2⟩:=tS h
  have:=aCz 10 _ g1 (fun x hx=>by have:=g2 x hx;omega)
  simp [bK] at this;omega
noncomputable def Cst:List Conditional→Int→Int→Rat
  | []=>fun _ _=>jL 0
  | c::r=>yT c (Cst r)
theorem aE4 {d:Nat} (h:0 < d) (s:Bool):mkR s 0 d=jL 0:=by
  unfold mkR
  rw [if_neg (by omega),Nat.gcd_zero_left,Nat.zero_div,Nat.div_self h]
  have e:aE 1=[1]:=iY.symm
  rw [e,bB,if_neg (by simp)]
  simp [jL,big,bB]
theorem yL:jL 0=⟨big 0,aE 1⟩:=by rw [← iY];rfl
theorem aIK {r:Rat} (h:dE r):RM r (jL 0)=jL 0:=by
  obtain ⟨n,d,rfl,h1,h2,h3,h4⟩:=vL h
  have q:=aF9 (.inl h:VZ _) tC
  have e:gO ⟨big n,aE d⟩ (jL 0)=some (jL 0):=by
    rw [yL,aEX n d 0 1 h1 (by omega) h2 h3 (by simp [bl,bB]) (by rw [← iY];simp)]
    unfold aIv
    rw [Int.natAbs_zero,Nat.mul_zero,Nat.mul_one,aE4 h1,yL]
  have:=q.2.1
  rw [e] at this
  exact (Option.some.inj this).symm
theorem aIL:RA (jL 0) (jL 0)=jL 0:=by
  have q:=aGa tC tC
  have e:fN (jL 0) (jL 0)=some (jL 0):=by
    rw [yL,aEY 0 1 0 1 (by omega) (by omega) (by simp [bl,bB]) (by rw [← iY];simp) (by simp [bl,bB]) (by rw [← iY];simp)]
    unfold aG9
    simp only [Int.zero_mul,Int.add_zero,Int.natAbs_zero]
    rw [aE4 (by omega),yL]
  have:=q.2.1
  rw [e] at this
  exact (Option.some.inj this).symm
theorem aAY {f:Int→Rat}:∀ {ps:List Parent},(∀ p ∈ ps,dE p.fShare∧f p.fNode=jL 0)→aBu f ps (jL 0)=jL 0
  | [],_=>rfl
  | p::ps,h=>by
    obtain ⟨h1,h2⟩:=h p (by simp)
    show aBu f ps (RA (jL 0) (RM p.fShare (f p.fNode)))=jL 0
    rw [h2,aIK h1,aIL]
    exact aAY fun q hq=>h q (by simp [hq])
theorem aAn:∀ {l:List Conditional},lX l→(∀ x ∈ bK l,∀ y ∈ bK l,VZ (Cst l x y))∧(∀ x ∈ bK l,Cst l x 0=jL 0∧Cst l 0 x=jL 0)
  | [],_=>⟨fun _ _ _ _=>tC,fun _ _=>⟨rfl,rfl⟩⟩
  | c::r,h=>by
    obtain ⟨h1,h2,h3,h4,_,h5⟩:=h
    obtain ⟨g1,g2⟩:=aAn h5
    have hp:∀ p ∈ c.fParents,VZ p.fShare∧p.fNode ∈ bK r:=fun p hp=>⟨.inl (h3 p hp).1,(h3 p hp).2⟩
    have h0:(0:Int) ∈ bK r:=by simp [bK]
    have hr:∀ y ∈ bK r,VZ (newRow c (Cst r) y):=fun y hy=>aA6 hp g1 hy
    have hr0:newRow c (Cst r) 0=jL 0:=aAY fun p hpp=>⟨(h3 p hpp).1,(g2 _ (h3 p hpp).2).1⟩
    have ho:VZ (zY c (Cst r)):=aD1 (aH1 aAu (.inl h4)).2.2 fun p hpp=>⟨(hp p hpp).1,hr _ (hp p hpp).2⟩
    constructor
    · intro x hx y hy
      rw [qZ,List.mem_append,List.mem_singleton] at hx hy
      show VZ (yT c (Cst r) x y)
      unfold yT
      by_cases cx:x=c.fNode
      · rw [if_pos cx]
        by_cases cy:y=c.fNode
        · rw [if_pos cy];exact ho
        · rw [if_neg cy];exact hr y (hy.resolve_right cy)
      · rw [if_neg cx]
        by_cases cy:y=c.fNode
        · rw [if_pos cy];exact hr x (hx.resolve_right cx)
        · rw [if_neg cy];exact g1 x (hx.resolve_right cx) y (hy.resolve_right cy)
    · intro x hx
      rw [qZ,List.mem_append,List.mem_singleton] at hx
      have n0:¬(0:Int)=c.fNode:=by omega
      show yT c (Cst r) x 0=jL 0∧yT c (Cst r) 0 x=jL 0
      unfold yT
      rw [if_neg n0,if_neg n0,if_neg n0]
      by_cases cx:x=c.fNode
      · rw [if_pos cx,if_pos cx];exact ⟨hr0,hr0⟩
      · rw [if_neg cx,if_neg cx];exact g2 x (hx.resolve_right cx)
theorem aBo (l:List Conditional):(bK l).length=l.length+1:=by simp [bK]
theorem aGe (nodes:List Int) (C:Int→Int→Rat):(rL nodes C).length=nodes.length:=by simp [rL]
theorem tG:∀ {l:List Conditional} (k:Nat),lX l→lX (l.drop k)
  | [],k,h=>by rw [List.drop_nil];exact h
  | c::r,0,h=>h
  | c::r,k+1,h=>tG (l:=r) k h.2.2.2.2.2
theorem aIJ (l:List Conditional) (h:lX l):rX l=some (bK l,rL (bK l) (Cst l)):=by
  have hl:=aAR h
  have main:∀ k:Nat,k≤l.length→lp (cJ l) ((k:Int) - 1,bK (l.drop k),rL (bK (l.drop k)) (Cst (l.drop k)))=some (bK l,rL (bK l) (Cst l)):=by
    intro k
    induction k with
    | zero =>
      intro _
      rw [List.drop_zero]
      apply aY
      unfold cJ
      rw [if_neg (by simp)]
    | succ k ih =>
      intro hk
      have hlt:k < l.length:=by omega
      have hg:=tG k h
      rw [List.drop_eq_getElem_cons hlt] at hg
      obtain ⟨h1,h2,h3,h4,h5,h6⟩:=hg
      have hr:∀ r,r=l.drop (k+1)→True:=fun _ _=>trivial
      obtain ⟨g1,g2⟩:=aAn h6
      have hnl:(bK (l.drop (k+1))).length≤10:=by rw [aBo,List.length_drop];omega
      have hp:∀ p ∈ (l[k]).fParents,VZ p.fShare∧p.fNode ∈ bK (l.drop (k+1)):=fun p hp=>⟨.inl (h3 p hp).1,(h3 p hp).2⟩
      have e:cJ l (((k+1:Nat):Int) - 1,bK (l.drop (k+1)),rL (bK (l.drop (k+1))) (Cst (l.drop (k+1))))=some (.inl ((k:Int) - 1,bK (l.drop k),rL (bK (l.drop k)) (Cst (l.drop k)))):=by
        unfold cJ
        simp only []
        have ek:((k+1:Nat):Int) - 1=(k:Int):=by omega
        rw [ek,if_pos (by omega)]
        unfold oG oF oE oD oB
        rw [aT hlt]
        simp only [Option.bind_some]
        rw [aI6 _ h5 _ (by omega) _ hp g1]
        simp only [Option.bind_some]
        rw [gS 1 (by omega)]
        simp only [Option.bind_some]
        rw [(aH1 aAu (.inl h4)).1]
        simp only [Option.bind_some]
        rw [aI5 _ h5 _ (by omega) _ hp (fun y hy=>aA6 hp g1 hy) _ (aH1 aAu (.inl h4)).2.2]
        simp only [Option.bind_some]
        rw [bM ⟨by rw [aGe,List.length_map],by rw [aGe];omega,by omega,by omega,fun x hx=>by
          unfold rL at hx
          obtain ⟨y,_,rfl⟩:=List.mem_map.1 hx
          rw [List.length_map];omega⟩]
        simp only [Option.bind_some]
        rw [List.drop_eq_getElem_cons hlt,qZ]
        congr 4
        exact aIm h2
      rw [bI e]
      exact ih (by omega)
  unfold rX
  rw [bM (show l.length≤1000000 by omega)]
  simp only [Option.bind_some]
  rw [gS 0 (by omega)]
  simp only [Option.bind_some]
  have:=main l.length (Nat.le_refl _)
  rw [List.drop_length] at this
  exact this
end Go.Ev
/- Covariances of a net: the program's matrix. -/
namespace Go.Ev
set_option linter.all false
theorem oT {α:Type} {l:List α} {i:Int} (h0:0≤i) (h1:i < l.length):∃ y,idx l i=some y:=by
  unfold idx;rw [if_pos h0]
  exact ⟨_,List.getElem?_eq_getElem (show i.toNat < l.length by omega)⟩
theorem tR {α:Type} {l:List α} {i j:Int} {v:α} (h0:0≤i) (h1:i < l.length) (h2:0≤j):idx (dD l i v) j=if i=j then some v else idx l j:=by
  unfold idx dD
  rw [if_pos h2,if_pos h2,List.getElem?_set]
  by_cases c:i=j
  · subst c
    rw [if_pos rfl,if_pos rfl,if_pos (by omega)]
  · rw [if_neg (by omega),if_neg c]
theorem tH {α:Type} (l:List α) (i:Int) (v:α):(dD l i v).length=l.length:=by simp [dD]
def aB2 (M:List Rat) (k:Int):Prop:=∀ x:Int,0≤x→x < k→idx M x=some (jL 0)∧idx M (x*10)=some (jL 0)
theorem aJe:∀ (m k:Nat),m+k=10→∀ M:List Rat,M.length=100→aB2 M k→∃ M',lp eC ((k:Int),M)=some M'∧M'.length=100∧aB2 M' 10:=by
  intro m
  induction m with
  | zero =>
    intro k hk M hM hz
    obtain rfl:k=10:=by omega
    refine ⟨M,aY ?_,hM,hz⟩
    unfold eC
    simp
  | succ m ih =>
    intro k hk M hM hz
    obtain ⟨y1,q1⟩:=oT (l:=M) (i:=0*10) (by omega) (by omega)
    obtain ⟨y2,q2⟩:=oT (l:=M) (i:=0*(10:Nat)+(k:Int)) (by omega) (by omega)
    have hM1:(dD M (0*(10:Nat)+(k:Int)) (jL 0)).length=100:=by rw [tH,hM]
    obtain ⟨y3,q3⟩:=oT (l:=dD M (0*(10:Nat)+(k:Int)) (jL 0)) (i:=(k:Int)*10) (by omega) (by omega)
    obtain ⟨y4,q4⟩:=oT (l:=dD M (0*(10:Nat)+(k:Int)) (jL 0)) (i:=(k:Int)*(10:Nat)+0) (by omega) (by omega)
    have e:eC ((k:Int),M)=some (.inl (((k+1:Nat):Int),dD (dD M (0*(10:Nat)+(k:Int)) (jL 0)) ((k:Int)*(10:Nat)+0) (jL 0))):=by
      unfold eC
      simp only []
      rw [if_pos (by omega),jZ 0 (by omega)]
      simp only [Option.bind_some]
      rw [bM (by omega)]
      simp only [Option.bind_some]
      rw [q1]
      simp only [Option.bind_some]
      rw [bM (by omega)]
      simp only [Option.bind_some]
      rw [aN,q2]
      simp only [Option.bind_some]
      rw [aN,q3]
      simp only [Option.bind_some]
      rw [aN,q4]
      simp only [Option.bind_some]
      rw [aN,wi (by omega)];rfl
    rw [bI e]
    refine ih (k+1) (by omega) _ (by rw [tH,tH,hM]) fun x hx0 hx1=>?_
    rw [tR (by omega) (by omega) hx0,tR (by omega) (by omega) hx0,tR (by omega) (by omega) (show (0:Int)≤x*10 by omega),tR (by omega) (by omega) (show (0:Int)≤x*10 by omega)]
    by_cases c:x=k
    · subst c
      rw [if_pos (show (0*(10:Nat)+(k:Int)=(k:Int)) by omega),if_pos (show ((k:Int)*(10:Nat)+0=(k:Int)*10) by omega)]
      exact ⟨by split <;> rfl,rfl⟩
    · obtain ⟨z1,z2⟩:=hz x hx0 (by omega)
      rw [z1,z2]
      refine ⟨?_,?_⟩
      · split
        · rfl
        · split <;> rfl
      · split
        · rfl
        · split <;> rfl
structure MatIs (M:List Rat) (nodes:List Int) (C:Int→Int→Rat):Prop where
  len:M.length=100
  get:∀ x ∈ nodes,∀ y ∈ nodes,idx M (x*10+y)=some (C x y)
  zero:aB2 M 10
theorem aJd (c d:Conditional) (hc:c.fParents.length≤4294967296) (nodes:List Int) (hn:∀ x ∈ nodes,0≤x∧x≤9) (C:Int→Int→Rat) (M:List Rat) (hM:MatIs M nodes C) (hp:∀ p ∈ c.fParents,VZ p.fShare∧p.fNode ∈ nodes) (hC:∀ x ∈ nodes,∀ y ∈ nodes,VZ (C x y)) (hd:d.fNode ∈ nodes) :
    lp (fT c M d) (0,jL 0)=some (newRow c C d.fNode):=by
  refine aEq c.fParents (fun p=>C p d.fNode) (fun p h=>⟨(hp p h).1,hC _ (hp p h).2 _ hd⟩) (fun k hk s hs=>?_) (fun s=>?_) _ tC
  · obtain ⟨g1,g2⟩:=hp _ (List.getElem_mem hk)
    have b1:=hn _ g2
    have b2:=hn _ hd
    have q1:=aF9 g1 (hC _ g2 _ hd)
    obtain ⟨y,qy⟩:=oT (l:=M) (i:=(c.fParents[k]).fNode*10) (by omega) (by rw [hM.len];omega)
    unfold fT
    simp only []
    rw [if_pos (by omega),aT hk]
    simp only [Option.bind_some]
    rw [bM (by omega)]
    simp only [Option.bind_some]
    rw [qy]
    simp only [Option.bind_some]
    rw [bM (by omega)]
    simp only [Option.bind_some]
    rw [aN,show (((10:Nat):Int))=10 from rfl,hM.get _ g2 _ hd]
    simp only [Option.bind_some]
    rw [q1.2.1]
    simp only [Option.bind_some]
    rw [(aGa hs q1.2.2).2.1]
    simp only [Option.bind_some]
    rw [wi (by omega)];rfl
  · unfold fT
    simp only []
    rw [if_neg (by omega)]
theorem aJb (c:Conditional) (hc:c.fParents.length≤4294967296) (hcn:0≤c.fNode∧c.fNode≤9) (nodes:List Int) (hn:∀ x ∈ nodes,0≤x∧x≤9) (g:Int→Rat) (M:List Rat) (hM:M.length=100) (hg:∀ x ∈ nodes,idx M (x*10+c.fNode)=some (g x)) (hp:∀ p ∈ c.fParents,VZ p.fShare∧p.fNode ∈ nodes) (hv:∀ x ∈ nodes,VZ (g x)) (s:Rat) (hs:VZ s) :
    lp (fS c M) (0,s)=some (aBu g c.fParents s):=by
  refine aEq c.fParents g (fun p h=>⟨(hp p h).1,hv _ (hp p h).2⟩) (fun k hk s hs=>?_) (fun s=>?_) _ hs
  · obtain ⟨g1,g2⟩:=hp _ (List.getElem_mem hk)
    have b1:=hn _ g2
    have q1:=aF9 g1 (hv _ g2)
    obtain ⟨y,qy⟩:=oT (l:=M) (i:=(c.fParents[k]).fNode*10) (by omega) (by omega)
    unfold fS
    simp only []
    rw [if_pos (by omega),aT hk]
    simp only [Option.bind_some]
    rw [bM (by omega)]
    simp only [Option.bind_some]
    rw [qy]
    simp only [Option.bind_some]
    rw [bM (by omega)]
    simp only [Option.bind_some]
    rw [aN,show (((10:Nat):Int))=10 from rfl,hg _ g2]
    simp only [Option.bind_some]
    rw [q1.2.1]
    simp only [Option.bind_some]
    rw [(aGa hs q1.2.2).2.1]
    simp only [Option.bind_some]
    rw [wi (by omega)];rfl
  · unfold fS
    simp only []
    rw [if_neg (by omega)]
theorem aJc (l:List Conditional) (i:Nat) (hi:i < l.length) (hl:l.length≤9) (hg:lX (l.drop i)) (M0:List Rat) (hM0:MatIs M0 (bK (l.drop (i+1))) (Cst (l.drop (i+1)))) :
    ∃ M',lp (dN l l[i]) (((i+1:Nat):Int),M0)=some M'∧MatIs M' (bK (l.drop (i+1))) (Cst (l.drop (i+1)))∧∀ d ∈ l.drop (i+1),idx M' ((l[i]).fNode*10+d.fNode)=some (newRow l[i] (Cst (l.drop (i+1))) d.fNode)∧idx M' (d.fNode*10+(l[i]).fNode)=some (newRow l[i] (Cst (l.drop (i+1))) d.fNode):=by
  rw [List.drop_eq_getElem_cons hi] at hg
  obtain ⟨h1,h2,h3,h4,h5,h6⟩:=hg
  generalize hc:l[i]=c at *
  obtain ⟨gn1,gn2⟩:=tS h6
  obtain ⟨g1,g2⟩:=aAn h6
  have hp:∀ p ∈ c.fParents,VZ p.fShare∧p.fNode ∈ bK (l.drop (i+1)):=fun p hp=>⟨.inl (h3 p hp).1,(h3 p hp).2⟩
  have main:∀ m j:Nat,m+j=l.length→i+1≤j→∀ M,MatIs M (bK (l.drop (i+1))) (Cst (l.drop (i+1))) →
      (∀ t (ht:t < l.length),i+1≤t→t < j→idx M (c.fNode*10+(l[t]).fNode)=some (newRow c (Cst (l.drop (i+1))) (l[t]).fNode)∧idx M ((l[t]).fNode*10+c.fNode)=some (newRow c (Cst (l.drop (i+1))) (l[t]).fNode)) →
      ∃ M',lp (dN l c) ((j:Int),M)=some M'∧MatIs M' (bK (l.drop (i+1))) (Cst (l.drop (i+1)))∧∀ t (ht:t < l.length),i+1≤t→idx M' (c.fNode*10+(l[t]).fNode)=some (newRow c (Cst (l.drop (i+1))) (l[t]).fNode)∧idx M' ((l[t]).fNode*10+c.fNode)=some (newRow c (Cst (l.drop (i+1))) (l[t]).fNode):=by
    intro m
    induction m with
    | zero =>
      intro j hj hij M hM hinv
      obtain rfl:j=l.length:=by omega
      refine ⟨M,aY ?_,hM,fun t ht hit=>hinv t ht hit ht⟩
      unfold dN
      simp only []
      rw [if_neg (by omega)]
    | succ m ih =>
      intro j hj hij M hM hinv
      have hlt:j < l.length:=by omega
      have hdm:l[j] ∈ l.drop (i+1):=by
        rw [List.mem_iff_getElem?]
        exact ⟨j - (i+1),by rw [List.getElem?_drop,show i+1+(j - (i+1))=j by omega,List.getElem?_eq_getElem hlt]⟩
      have hdn:(l[j]).fNode ∈ bK (l.drop (i+1)):=nJ.2 (.inr ⟨_,hdm,rfl⟩)
      have hb:=gn2 _ hdn
      have hd1:1≤(l[j]).fNode:=by
        have hgd:=tG (j - (i+1)) h6
        rw [List.drop_drop,show i+1+(j - (i+1))=j by omega,List.drop_eq_getElem_cons hlt] at hgd
        exact hgd.1.1
      have hne:(l[j]).fNode≠c.fNode:=by intro e;rw [e] at hdn;exact h2 hdn
      generalize hd:l[j]=d at *
      let r:=newRow c (Cst (l.drop (i+1))) d.fNode
      let M1:=dD M (c.fNode*(10:Nat)+d.fNode) r
      let M2:=dD M1 (d.fNode*(10:Nat)+c.fNode) r
      have l0:=hM.len
      have l1:M1.length=100:=by show (dD _ _ _).length=_;rw [tH,l0]
      obtain ⟨y1,q1⟩:=oT (l:=M) (i:=c.fNode*10) (by omega) (by omega)
      obtain ⟨y2,q2⟩:=oT (l:=M) (i:=c.fNode*(10:Nat)+d.fNode) (by omega) (by omega)
      obtain ⟨y3,q3⟩:=oT (l:=M1) (i:=d.fNode*10) (by omega) (by omega)
      obtain ⟨y4,q4⟩:=oT (l:=M1) (i:=d.fNode*(10:Nat)+c.fNode) (by omega) (by omega)
      have e:dN l c ((j:Int),M)=some (.inl (((j+1:Nat):Int),M2)):=by
        unfold dN
        simp only []
        rw [if_pos (by omega),aT hlt,hd]
        simp only [Option.bind_some]
        rw [jZ 0 (by omega)]
        simp only [Option.bind_some]
        rw [aJd c d h5 _ gn2 _ M hM hp g1 hdn]
        simp only [Option.bind_some]
        rw [bM (by omega)]
        simp only [Option.bind_some]
        rw [q1]
        simp only [Option.bind_some]
        rw [bM (by omega)]
        simp only [Option.bind_some]
        rw [aN,q2]
        simp only [Option.bind_some]
        rw [aN]
        rw [show dD M (c.fNode*(10:Nat)+d.fNode) (newRow c (Cst (l.drop (i+1))) d.fNode)=M1 from rfl,q3]
        simp only [Option.bind_some]
        rw [aN,q4]
        simp only [Option.bind_some]
        rw [aN,wi (by omega)];rfl
      have i2:∀ z:Int,0≤z→idx M2 z=if d.fNode*(10:Nat)+c.fNode=z then some r else if c.fNode*(10:Nat)+d.fNode=z then some r else idx M z:=by
        intro z hz
        show idx (dD M1 _ _) z=_
        rw [tR (by omega) (by omega) hz]
        by_cases cz:d.fNode*(10:Nat)+c.fNode=z
        · rw [if_pos cz,if_pos cz]
        · rw [if_neg cz,if_neg cz]
          show idx (dD M _ _) z=_
          rw [tR (by omega) (by omega) hz]
      rw [bI e]
      refine ih (j+1) (by omega) (by omega) M2 ⟨by show (dD _ _ _).length=_;rw [tH,l1],fun x hx y hy=>?_,fun x hx0 hx1=>?_⟩ fun t ht hit htj=>?_
      · have b1:=gn2 x hx
        have b2:=gn2 y hy
        have c1:x≠c.fNode:=by rintro rfl;exact h2 hx
        have c2:y≠c.fNode:=by rintro rfl;exact h2 hy
        rw [i2 _ (by omega),if_neg (by omega),if_neg (by omega)]
        exact hM.get x hx y hy
      · obtain ⟨z1,z2⟩:=hM.zero x hx0 hx1
        rw [i2 _ (by omega),i2 _ (by omega),if_neg (by omega),if_neg (by omega),if_neg (by omega),if_neg (by omega)]
        exact ⟨z1,z2⟩
      · rcases Nat.lt_or_eq_of_le (Nat.le_of_lt_succ htj) with h | h
        · obtain ⟨v1,v2⟩:=hinv t ht hit h
          have htn:(l[t]).fNode ∈ bK (l.drop (i+1)):=nJ.2 (.inr ⟨_,by
            rw [List.mem_iff_getElem?]
            exact ⟨t - (i+1),by rw [List.getElem?_drop,show i+1+(t - (i+1))=t by omega,List.getElem?_eq_getElem ht]⟩,rfl⟩)
          have bt:=gn2 _ htn
          have ct:(l[t]).fNode≠c.fNode:=by intro e;rw [e] at htn;exact h2 htn
          rw [i2 _ (by omega),i2 _ (by omega)]
          by_cases ce:(l[t]).fNode=d.fNode
          · rw [ce,if_neg (by omega),if_pos (by omega),if_pos (by omega)];exact ⟨rfl,rfl⟩
          · rw [if_neg (by omega),if_neg (by omega),if_neg (by omega),if_neg (by omega)];exact ⟨v1,v2⟩
        · subst h
          rw [hd,i2 _ (by omega),i2 _ (by omega),if_neg (by omega),if_pos (by omega),if_pos (by omega)]
          exact ⟨rfl,rfl⟩
  obtain ⟨M',e1,e2,e3⟩:=main (l.length - (i+1)) (i+1) (by omega) (Nat.le_refl _) M0 hM0 (fun t _ h1 h2=>by omega)
  refine ⟨M',e1,e2,fun d hd=>?_⟩
  obtain ⟨j,hj⟩:=List.getElem?_of_mem hd
  rw [List.getElem?_drop] at hj
  obtain ⟨ht,rfl⟩:=List.getElem?_eq_some_iff.1 hj
  exact e3 _ ht (by omega)
theorem aJa (l:List Conditional) (h:lX l):∀ k:Nat,k≤l.length→∀ M,MatIs M (bK (l.drop k)) (Cst (l.drop k))→∃ M',lp (eB l) ((k:Int) - 1,M)=some M'∧MatIs M' (bK l) (Cst l):=by
  have hl:=aAR h
  intro k
  induction k with
  | zero =>
    intro _ M hM
    rw [List.drop_zero] at hM
    refine ⟨M,aY ?_,hM⟩
    unfold eB
    simp only []
    rw [if_neg (by simp)]
  | succ k ih =>
    intro hk M hM
    have hlt:k < l.length:=by omega
    have hg:=tG k h
    obtain ⟨M1,e1,e2,e3⟩:=aJc l k hlt hl hg M hM
    rw [List.drop_eq_getElem_cons hlt] at hg
    obtain ⟨h1,h2,h3,h4,h5,h6⟩:=hg
    generalize hc:l[k]=c at *
    obtain ⟨gn1,gn2⟩:=tS h6
    obtain ⟨g1,g2⟩:=aAn h6
    have hp:∀ p ∈ c.fParents,VZ p.fShare∧p.fNode ∈ bK (l.drop (k+1)):=fun p hp=>⟨.inl (h3 p hp).1,(h3 p hp).2⟩
    have hr:∀ y ∈ bK (l.drop (k+1)),VZ (newRow c (Cst (l.drop (k+1))) y):=fun y hy=>aA6 hp g1 hy
    have hr0:newRow c (Cst (l.drop (k+1))) 0=jL 0:=aAY fun p hpp=>⟨(h3 p hpp).1,(g2 _ (h3 p hpp).2).1⟩
    have l1:=e2.len
    have hrow:∀ x ∈ bK (l.drop (k+1)),idx M1 (c.fNode*10+x)=some (newRow c (Cst (l.drop (k+1))) x)∧idx M1 (x*10+c.fNode)=some (newRow c (Cst (l.drop (k+1))) x):=by
      intro x hx
      rcases nJ.1 hx with rfl | ⟨d,hd,rfl⟩
      · obtain ⟨z1,z2⟩:=e2.zero c.fNode (by omega) (by omega)
        rw [Int.add_zero,Int.zero_mul,Int.zero_add,hr0];exact ⟨z2,z1⟩
      · exact e3 d hd
    obtain ⟨y1,q1⟩:=oT (l:=M1) (i:=c.fNode*10) (by omega) (by omega)
    obtain ⟨y2,q2⟩:=oT (l:=M1) (i:=c.fNode*(10:Nat)+c.fNode) (by omega) (by omega)
    have hown:=aJb c h5 ⟨by omega,by omega⟩ _ gn2 (newRow c (Cst (l.drop (k+1)))) M1 l1 (fun x hx=>(hrow x hx).2) hp hr (RD (jL 1) c.fTotal) (aH1 aAu (.inl h4)).2.2
    have e:eB l (((k+1:Nat):Int) - 1,M)=some (.inl ((k:Int) - 1,dD M1 (c.fNode*(10:Nat)+c.fNode) (zY c (Cst (l.drop (k+1)))))):=by
      unfold eB
      simp only []
      have ek:((k+1:Nat):Int) - 1=(k:Int):=by omega
      rw [ek,if_pos (by omega),aT hlt,hc]
      simp only [Option.bind_some]
      rw [wi (by omega),show (k:Int)+1=((k+1:Nat):Int) by omega,e1]
      simp only [Option.bind_some]
      rw [jZ 1 (by omega)]
      simp only [Option.bind_some]
      rw [(aH1 aAu (.inl h4)).2.1]
      simp only [Option.bind_some]
      rw [hown]
      simp only [Option.bind_some]
      rw [bM (by omega)]
      simp only [Option.bind_some]
      rw [q1]
      simp only [Option.bind_some]
      rw [aN,q2]
      simp only [Option.bind_some]
      rw [aN,wi (by omega)];rfl
    rw [bI e]
    refine ih (by omega) _ ?_
    rw [List.drop_eq_getElem_cons hlt,hc]
    have i2:∀ z:Int,0≤z→idx (dD M1 (c.fNode*(10:Nat)+c.fNode) (zY c (Cst (l.drop (k+1))))) z=if c.fNode*(10:Nat)+c.fNode=z then some (zY c (Cst (l.drop (k+1)))) else idx M1 z:=fun z hz=>tR (by omega) (by omega) hz
    refine ⟨by rw [tH,l1],fun x hx y hy=>?_,fun x hx0 hx1=>?_⟩
    · rw [qZ,List.mem_append,List.mem_singleton] at hx hy
      have bx:0≤x∧x≤9:=hx.elim (gn2 x) (fun e=>by subst e;omega)
      have by_:0≤y∧y≤9:=hy.elim (gn2 y) (fun e=>by subst e;omega)
      rw [i2 _ (by omega)]
      show _=some (yT c (Cst (l.drop (k+1))) x y)
      unfold yT
      by_cases cx:x=c.fNode
      · rw [if_pos cx]
        by_cases cy:y=c.fNode
        · rw [if_pos cy,if_pos (by subst cx;subst cy;omega)]
        · rw [if_neg cy,if_neg (by omega),cx];exact (hrow y (hy.resolve_right cy)).1
      · rw [if_neg cx]
        by_cases cy:y=c.fNode
        · rw [if_pos cy,if_neg (by omega),cy];exact (hrow x (hx.resolve_right cx)).2
        · rw [if_neg cy,if_neg (by omega)];exact e2.get x (hx.resolve_right cx) y (hy.resolve_right cy)
    · obtain ⟨z1,z2⟩:=e2.zero x hx0 hx1
      rw [i2 _ (by omega),i2 _ (by omega),if_neg (by omega),if_neg (by omega)]
      exact ⟨z1,z2⟩
end Go.Ev
/- Covariances: the laws. -/
namespace Go.Ev
set_option linter.all false
theorem aCh (c:Conditional) (h:aS c≤4294967296):qV c=some c:=by
  have hp:=gR bY c.fParents
  unfold aS dK at h
  unfold qV
  rw [nE _ (by omega)]
  simp only [Option.bind_some]
  have:=aE8 (step:=lZ c) c.fParents (fun k t=>((k:Int),t)) (fun t=>t) (fun k t hk ht=>by
    have he:=mW (w:=bY) (List.getElem_mem hk)
    have hn:bY c.fParents[k]=aU (c.fParents[k]).fShare+aU (c.fParents[k]).fDX+aU (c.fParents[k]).fDY:=rfl
    unfold lZ
    simp only []
    rw [if_pos (by omega),aT hk]
    simp only [Option.bind_some]
    rw [nE _ (by omega)]
    simp only [Option.bind_some]
    rw [nE _ (by omega)]
    simp only [Option.bind_some]
    rw [nE _ (by omega)]
    simp only [Option.bind_some]
    rw [bM (by omega),wi (by omega)];rfl) (fun t ht=>by unfold lZ;simp only [];rw [if_neg (by omega)])
  rw [show ((0:Nat):Int)=0 from rfl] at this
  rw [this];rfl
theorem aCi (t:Tree) (h:dA t≤4294967296):qX t=some (iJ t.fNodes):=by
  unfold dA cE at h
  have hl:=gR bG t.fNodes
  unfold qX
  have:=aE7 (step:=mB t) t.fNodes (fun k (m:List Conditional)=>((k:Int),m)) (fun m y=>m++[y.fCond]) (fun m=>m) (fun k m=>m=iJ (t.fNodes.take k)) (fun k m hk hi=>by
    have he:=mW (w:=bG) (List.getElem_mem hk)
    have hn:bG t.fNodes[k]=cF (t.fNodes[k]).fOwn+aS (t.fNodes[k]).fCond+cF (t.fNodes[k]).fMessages+aU (t.fNodes[k]).fEnergy:=rfl
    have ht:iJ (t.fNodes.take (k+1))=iJ (t.fNodes.take k)++[(t.fNodes[k]).fCond]:=by unfold iJ;rw [List.take_succ,List.getElem?_eq_getElem hk,List.map_append];rfl
    have hlen:(iJ (t.fNodes.take k)).length≤k:=by unfold iJ;simp;omega
    subst hi
    refine ⟨?_,ht.symm⟩
    unfold mB
    simp only []
    rw [if_pos (by omega),aT hk]
    simp only [Option.bind_some]
    rw [aCh _ (by omega)]
    simp only [Option.bind_some]
    rw [bM (by omega),wi (by omega)];rfl) (fun m hi=>by unfold mB;simp only [];rw [if_neg (by omega)]) [] rfl
  rw [show ((0:Nat):Int)=0 from rfl] at this
  obtain ⟨e1,e2⟩:=this
  rw [e1,e2,List.take_length];rfl
theorem aCP (t:Tree) (h:dA t≤4294967296):rF t=some (iJ t.fNodes):=by
  unfold dA cE at h
  have hl:=gR bG t.fNodes
  unfold rF
  have:=aE7 (step:=mH t) t.fNodes (fun k (m:List Conditional)=>((k:Int),m)) (fun m y=>m++[y.fCond]) (fun m=>m) (fun k m=>m=iJ (t.fNodes.take k)) (fun k m hk hi=>by
    have he:=mW (w:=bG) (List.getElem_mem hk)
    have hn:bG t.fNodes[k]=cF (t.fNodes[k]).fOwn+aS (t.fNodes[k]).fCond+cF (t.fNodes[k]).fMessages+aU (t.fNodes[k]).fEnergy:=rfl
    have ht:iJ (t.fNodes.take (k+1))=iJ (t.fNodes.take k)++[(t.fNodes[k]).fCond]:=by unfold iJ;rw [List.take_succ,List.getElem?_eq_getElem hk,List.map_append];rfl
    have hlen:(iJ (t.fNodes.take k)).length≤k:=by unfold iJ;simp;omega
    subst hi
    refine ⟨?_,ht.symm⟩
    unfold mH
    simp only []
    rw [if_pos (by omega),aT hk]
    simp only [Option.bind_some]
    rw [vX _ (by omega)]
    simp only [Option.bind_some]
    rw [bM (by omega),wi (by omega)];rfl) (fun m hi=>by unfold mH;simp only [];rw [if_neg (by omega)]) [] rfl
  rw [show ((0:Nat):Int)=0 from rfl] at this
  obtain ⟨e1,e2⟩:=this
  rw [e1,e2,List.take_length];rfl
theorem aGp (l:List Conditional) (a:Int) (hl:l.length≤4294967296):rR l a=some (decide (a ∈ bK l)):=by
  have main:∀ m k:Nat,m+k=l.length→(lp (iN l a) (k:Int)=some (.inr true)∧∃ d ∈ l.drop k,d.fNode=a)∨(lp (iN l a) (k:Int)=some (.inl ())∧¬∃ d ∈ l.drop k,d.fNode=a):=by
    intro m
    induction m with
    | zero =>
      intro k hk
      refine .inr ⟨aY ?_,by rw [List.drop_eq_nil_of_le (by omega)];simp⟩
      unfold iN
      rw [if_neg (by omega)]
    | succ m ih =>
      intro k hk
      have hlt:k < l.length:=by omega
      rw [List.drop_eq_getElem_cons hlt]
      by_cases c:(l[k]).fNode=a
      · refine .inl ⟨aY ?_,_,List.mem_cons_self,c⟩
        unfold iN
        rw [if_pos (by omega),aT hlt]
        simp only [Option.bind_some]
        rw [if_pos c]
      · have e:iN l a (k:Int)=some (.inl ((k+1:Nat):Int)):=by
          unfold iN
          rw [if_pos (by omega),aT hlt]
          simp only [Option.bind_some]
          rw [if_neg c,wi (by omega)];rfl
        rw [bI e]
        rcases ih (k+1) (by omega) with ⟨h1,d,h2,h3⟩ | ⟨h1,h2⟩
        · exact .inl ⟨h1,d,List.mem_cons_of_mem _ h2,h3⟩
        · refine .inr ⟨h1,?_⟩
          rintro ⟨d,hd,e⟩
          rcases List.mem_cons.1 hd with rfl | hd
          · exact c e
          · exact h2 ⟨d,hd,e⟩
  have:=main l.length 0 (by omega)
  rw [List.drop_zero,show ((0:Nat):Int)=0 from rfl] at this
  unfold rR
  rcases this with ⟨h1,h2⟩ | ⟨h1,h2⟩
  · rw [h1]
    simp only [Option.bind_some]
    rw [decide_eq_true (nJ.2 (.inr h2))]
  · rw [h1]
    simp only [Option.bind_some]
    congr 1
    rw [decide_eq_decide,nJ]
    exact ⟨fun h=>.inl h,fun h=>h.resolve_right h2⟩
noncomputable def aFM (l:List Conditional) (a b:Int):Rat:=if a ∈ bK l∧b ∈ bK l then Cst l a b else wV
theorem aIt {l:List Conditional} (h:lX l) (a b:Int):VZ (aFM l a b):=by
  unfold aFM
  split
  · rename_i c;exact (aAn h).1 _ c.1 _ c.2
  · exact aDs
theorem aJk {l:List Conditional} (h:lX l) (a b:Int):qU l a b=some (aFM l a b):=by
  have hl:=aAR h
  have hn:(bK l).length≤4294967296:=by rw [aBo];omega
  unfold qU aFM
  rw [aIJ l h]
  simp only [Option.bind_some]
  by_cases ca:a ∈ bK l
  · obtain ⟨i,e1,e2⟩:=aFA hn ca
    rw [e1]
    simp only [Option.bind_some]
    by_cases cb:b ∈ bK l
    · obtain ⟨j,f1,f2⟩:=aFA hn cb
      rw [f1]
      simp only [Option.bind_some]
      rw [if_neg (by omega),decide_eq_false (by omega)]
      simp only [Option.bind_some,Bool.false_eq_true,if_false]
      rw [aGf e2]
      simp only [Option.bind_some]
      rw [aEb f2]
      simp only [Option.bind_some]
      rw [nE _ (VZs ((aAn h).1 _ ca _ cb)),if_pos ⟨ca,cb⟩];rfl
    · rw [aGc hn cb]
      simp only [Option.bind_some]
      rw [if_neg (by omega),decide_eq_true (by omega)]
      simp only [Option.bind_some,if_true]
      rw [if_neg (fun h=>cb h.2)];rfl
  · rw [aGc hn ca]
    simp only [Option.bind_some]
    rw [if_neg (fun h=>ca h.1)]
    by_cases cb:b ∈ bK l
    · obtain ⟨j,f1,f2⟩:=aFA hn cb
      rw [f1];rfl
    · rw [aGc hn cb];rfl
theorem aIB {l:List Conditional} (h:lX l) (hn:kM l=some true) (a b:Int):eO l a b=some (aFM l a b):=by
  have hl:=aAR h
  obtain ⟨gn1,gn2⟩:=tS h
  unfold eO aFM
  rw [hn,aGp l a (by omega),aGp l b (by omega)]
  simp only [Option.bind_some,if_true]
  by_cases ca:a ∈ bK l
  · rw [decide_eq_true ca]
    simp only [if_true,Option.bind_some]
    by_cases cb:b ∈ bK l
    · rw [decide_eq_true cb]
      simp only [Bool.not_true,Bool.false_eq_true,if_false]
      obtain ⟨M1,e1,e2,e3⟩:=aJe 10 0 (by omega) (List.replicate 100 (Rat.mk (BigInt.mk false ([])) ([]))) (by simp) (fun x h0 h1=>by omega)
      rw [show ((0:Nat):Int)=0 from rfl] at e1
      rw [e1]
      simp only [Option.bind_some]
      have hM:MatIs M1 (bK (l.drop l.length)) (Cst (l.drop l.length)):=by
        rw [List.drop_length]
        refine ⟨e2,fun x hx y hy=>?_,e3⟩
        simp [bK] at hx hy
        subst hx;subst hy
        exact (e3 0 (by omega) (by omega)).1
      obtain ⟨M2,f1,f2⟩:=aJa l h l.length (Nat.le_refl _) M1 hM
      rw [aN,wi (by omega),f1]
      simp only [Option.bind_some]
      have ba:=gn2 _ ca
      have bb:=gn2 _ cb
      obtain ⟨y,q⟩:=oT (l:=M2) (i:=a*10) (by omega) (by rw [f2.len];omega)
      rw [bM (by omega)]
      simp only [Option.bind_some]
      rw [q]
      simp only [Option.bind_some]
      rw [bM (by omega)]
      simp only [Option.bind_some]
      rw [aN,show (((10:Nat):Int))=10 from rfl,f2.get _ ca _ cb]
      simp only [Option.bind_some]
      rw [nX _ (VZs ((aAn h).1 _ ca _ cb)),if_pos ⟨ca,cb⟩];rfl
    · rw [decide_eq_false cb,if_neg (show ¬(a ∈ bK l∧b ∈ bK l) from fun h=>cb h.2)];rfl
  · rw [decide_eq_false ca,if_neg (show ¬(a ∈ bK l∧b ∈ bK l) from fun h=>ca h.1)];rfl
theorem aH2 (l:List Conditional) (h:cH l≤4294967296):(kI l=some true∧kM l=some true∧lX l)∨(kI l=some false∧kM l=some false):=by
  obtain ⟨b,e1,e2,e3⟩:=aJI l h
  cases b with
  | true=>exact .inl ⟨e1,e2,aFZ l h (e3 rfl)⟩
  | false=>exact .inr ⟨e1,e2⟩
noncomputable def cov (l:List Conditional) (a b:Int):Rat:=if kI l=some true then aFM l a b else wV
theorem aJZ (l:List Conditional) (h:cH l≤4294967296) (a b:Int):fZ l a b=some (cov l a b)∧eO l a b=some (cov l a b)∧VZ (cov l a b):=by
  rcases aH2 l h with ⟨h1,h2,h3⟩ | ⟨h1,h2⟩
  · unfold cov
    rw [if_pos h1]
    refine ⟨?_,aIB h3 h2 a b,aIt h3 a b⟩
    unfold fZ
    rw [h1]
    simp only [Option.bind_some,if_true]
    rw [aJk h3];rfl
  · unfold cov
    rw [if_neg (by rw [h1];simp)]
    refine ⟨?_,?_,aDs⟩
    · unfold fZ;rw [h1];rfl
    · unfold eO;rw [h2];rfl
theorem aI9 {t:Tree} (h:dA t≤4294967296):cH (iJ t.fNodes)≤4294967296:=by
  have:=aC0 t.fNodes
  unfold dA cE at h;omega
noncomputable def yB (t:Tree) (a b:Int):Rat:=cov (iJ t.fNodes) a b
theorem aIe (t:Tree) (h:dA t≤4294967296) (a b:Int):jP t a b=some (yB t a b)∧kA t a b=some (yB t a b)∧VZ (yB t a b):=by
  obtain ⟨e1,e2,e3⟩:=aJZ _ (aI9 h) a b
  refine ⟨?_,?_,e3⟩
  · unfold jP;rw [aCi t h];simp only [Option.bind_some];rw [e1];rfl
  · unfold kA;rw [aCP t h];simp only [Option.bind_some];rw [e2];rfl
theorem aJi (t:Tree) (h:dA t≤4294967296) (a:Int):mA t a=some (yB t a a)∧mG t a=some (yB t a a):=by
  obtain ⟨e1,e2,e3⟩:=aIe t h a a
  refine ⟨?_,?_⟩
  · unfold mA;rw [e1];rfl
  · unfold mG;rw [e2];rfl
end Go.Ev
