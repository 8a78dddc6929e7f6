/- Parts PQ6, PQ8, PH, PQ9, PR1, P20, PR2, PR3, PV, PR4. -/
import Derived.Test.YthjpgecdkmiadaaGreatPb1
import Derived.Test.YthjpgecdkmiadaaGreatPa1
import Derived.Test.YthjpgecdkmiadaaGreatLd
set_option linter.all false
/- Whole numbers and fractions; both programs. -/
namespace Go.Ev
set_option linter.all false
def xF (x:BigInt):Prop:=uX x.fMag∧(x.fNeg=true→x.fMag≠[])
instance (x:BigInt):Decidable (xF x):=by unfold xF;infer_instance
theorem aMi (x:BigInt) (h:x.fMag.length≤4294967296):sS x=some (decide (xF x)):=by
  unfold sS
  rw [aIS _ h]
  simp only [Option.bind_some]
  by_cases c:uX x.fMag
  · rw [decide_eq_true c]
    simp only [if_true]
    cases hn:x.fNeg with
    | true =>
      simp only [if_true]
      by_cases e:x.fMag=[]
      · rw [decide_eq_false (fun g:xF x=>g.2 hn e),e];rfl
      · have:x.fMag.length≠0:=fun g=>e (List.length_eq_zero_iff.1 g)
        have hb:xF x:=⟨c,fun _=>e⟩
        rw [decide_eq_true hb,decide_eq_false (by omega)];rfl
    | false =>
      have hb:xF x:=⟨c,fun g=>by rw [hn] at g;cases g⟩
      rw [decide_eq_true hb];rfl
  · rw [decide_eq_false c,decide_eq_false (fun g:xF x=>c g.1)];rfl
theorem aMh (x:BigInt) (h:x.fMag.length≤4294967296):sC x=some (decide (xF x)):=by
  unfold sC
  rw [aGe _ h]
  simp only [Option.bind_some]
  by_cases c:uX x.fMag
  · rw [decide_eq_true c]
    simp only [if_true]
    cases hn:x.fNeg with
    | true =>
      simp only [if_true]
      by_cases e:x.fMag=[]
      · rw [decide_eq_false (fun g:xF x=>g.2 hn e),e];rfl
      · have:x.fMag.length≠0:=fun g=>e (List.length_eq_zero_iff.1 g)
        have hb:xF x:=⟨c,fun _=>e⟩
        rw [decide_eq_true hb,decide_eq_true (by omega)]
    | false =>
      have hb:xF x:=⟨c,fun g=>by rw [hn] at g;cases g⟩
      rw [decide_eq_true hb];rfl
  · rw [decide_eq_false c,decide_eq_false (fun g:xF x=>c g.1)];rfl
def aL0 (x:BigInt):Int:=if x.fNeg=true then -(val x.fMag:Int) else (val x.fMag:Int)
theorem aF5 (x:BigInt):(aL0 x).natAbs=val x.fMag:=by unfold aL0;split <;> omega
theorem aNk {x:BigInt} (h:xF x):x=big (aL0 x):=by
  obtain ⟨neg,mag⟩:=x
  unfold big
  rw [aF5]
  have e:=nY h.1
  simp only [] at e ⊢
  rw [← e]
  congr 1
  unfold aL0
  cases neg with
  | true =>
    have:val mag≠0:=fun z=>h.2 rfl (by simp only [] at e ⊢;rw [e,z,bN])
    simp only [if_true]
    rw [decide_eq_true (by omega)]
  | false=>simp
theorem aHj (n m:Int):((!(decide (n < 0) == decide (m < 0)))&&decide (n.natAbs*m.natAbs≠0))=decide (n*m < 0):=by
  rw [← Int.natAbs_mul]
  rcases Int.lt_trichotomy n 0 with h1 | h1 | h1
  · rcases Int.lt_trichotomy m 0 with h2 | h2 | h2
    · have:=Int.mul_pos_of_neg_of_neg h1 h2
      rw [decide_eq_true h1,decide_eq_true h2,decide_eq_false (show ¬n*m < 0 by omega)];rfl
    · subst h2;simp
    · have:=Int.mul_neg_of_neg_of_pos h1 h2
      rw [decide_eq_true h1,decide_eq_false (show ¬m < 0 by omega),decide_eq_true (show (n*m).natAbs≠0 by omega),decide_eq_true this];rfl
  · subst h1;simp
  · rcases Int.lt_trichotomy m 0 with h2 | h2 | h2
    · have:=Int.mul_neg_of_pos_of_neg h1 h2
      rw [decide_eq_false (show ¬n < 0 by omega),decide_eq_true h2,decide_eq_true (show (n*m).natAbs≠0 by omega),decide_eq_true this];rfl
    · subst h2;simp
    · have:=Int.mul_pos h1 h2
      rw [decide_eq_false (show ¬n < 0 by omega),decide_eq_false (show ¬m < 0 by omega),decide_eq_false (show ¬n*m < 0 by omega)];rfl
theorem aAC (n:Int):(big n).fMag=aA n.natAbs:=rfl
theorem aAB (n:Int):(big n).fNeg=decide (n < 0):=rfl
def bl (n:Int):Nat:=(aA n.natAbs).length
theorem aAA (n m:Int):bl (n*m)≤bl n+bl m:=by unfold bl;rw [Int.natAbs_mul];exact eM _ _
theorem aJC (n m:Int):bl (n+m)≤max (bl n) (bl m)+1:=by
  unfold bl
  exact Nat.le_trans (fI (Int.natAbs_add_le n m) (Nat.le_refl _)) (aFZ _ _)
theorem yJ (n m:Int) (hn:bl n≤60) (hm:bl m≤60) (h:bl (n*m)≤60):iM (big n) (big m)=some (big (n*m)):=by
  unfold iM
  unfold bl at *
  rw [Int.natAbs_mul] at h
  simp only [big]
  rw [(oX n.natAbs m.natAbs (by omega) (by omega)).2]
  simp only [Option.bind_some]
  rw [vM _ _ h]
  simp only [Option.bind_some]
  rw [aHj,Int.natAbs_mul]
theorem aGQ (n:Int) (d:Nat) (h:(aA (n.natAbs*d)).length≤60):cS (decide (n < 0)) (aA (n.natAbs*d))=some (big (n*d)):=by
  rw [rK _ _ h]
  have:=aHj n (d:Int)
  rw [decide_eq_false (show ¬((d:Int) < 0) by omega)] at this
  simp only [Int.natAbs_natCast] at this
  unfold big
  rw [← this]
  simp only [Int.natAbs_mul,Int.natAbs_natCast]
  congr 2
  cases decide (n < 0) <;> rfl
theorem aKh (n m:Int) (h:(decide (n < 0) == decide (m < 0))=true):(n+m).natAbs=n.natAbs+m.natAbs∧(decide (n < 0)&&decide ((n+m).natAbs≠0))=decide (n+m < 0):=by
  by_cases c1:n < 0
  · by_cases c2:m < 0
    · refine ⟨by omega,?_⟩
      rw [decide_eq_true c1,decide_eq_true (by omega),decide_eq_true (by omega)];rfl
    · simp [c1,c2] at h
  · by_cases c2:m < 0
    · simp [c1,c2] at h
    · refine ⟨by omega,?_⟩
      rw [decide_eq_false c1,decide_eq_false (show ¬(n+m < 0) by omega)];rfl
theorem aEL (n m:Int) (h:¬(decide (n < 0) == decide (m < 0))=true) (hle:m.natAbs≤n.natAbs):(n+m).natAbs=n.natAbs - m.natAbs∧(decide (n < 0)&&decide ((n+m).natAbs≠0))=decide (n+m < 0):=by
  by_cases c1:n < 0
  · by_cases c2:m < 0
    · simp [c1,c2] at h
    · refine ⟨by omega,?_⟩
      rw [decide_eq_true c1,Bool.true_and]
      exact decide_eq_decide.2 (by omega)
  · by_cases c2:m < 0
    · refine ⟨by omega,?_⟩
      rw [decide_eq_false c1,decide_eq_false (show ¬(n+m < 0) by omega)];rfl
    · simp [c1,c2] at h
theorem aL1 (n m:Int) (hn:bl n≤60) (hm:bl m≤60) (h:bl (n+m)≤60):wU (big n) (big m)=some (big (n+m)):=by
  unfold wU
  unfold bl at *
  by_cases c:(decide (n < 0) == decide (m < 0))=true
  · obtain ⟨e1,e2⟩:=aKh n m c
    rw [if_pos (show ((big n).fNeg == (big m).fNeg)=true from c)]
    simp only [aAC,aAB]
    rw [aLD _ _ (by omega) (by omega)]
    simp only [Option.bind_some]
    rw [← e1,vM _ _ h,e2];rfl
  · rw [if_neg (show ¬((big n).fNeg == (big m).fNeg)=true from c)]
    simp only [aAC,aAB]
    rw [aFo _ _ (by omega) (by omega)]
    simp only [Option.bind_some]
    by_cases c2:m.natAbs≤n.natAbs
    · obtain ⟨e1,e2⟩:=aEL n m c c2
      have c3:0≤sU n.natAbs m.natAbs:=by unfold sU;rw [if_neg (by omega)];split <;> omega
      rw [if_pos c3,(zM _ _ (by omega) c2).2]
      simp only [Option.bind_some]
      rw [← e1,vM _ _ h,e2];rfl
    · obtain ⟨e1,e2⟩:=aEL m n (by rw [Bool.beq_comm];exact c) (by omega)
      have c3:¬0≤sU n.natAbs m.natAbs:=by unfold sU;rw [if_pos (by omega)];omega
      rw [if_neg c3,(zM _ _ (by omega) (by omega)).2]
      simp only [Option.bind_some]
      rw [← e1,Int.add_comm m n] at *
      rw [vM _ _ h,e2];rfl
theorem aIp (n m:Int) (hn:bl n≤60) (hm:bl m≤60) (h:bl (n+m)≤60):tI (big n) (big m)=some (big (n+m)):=by
  unfold tI
  unfold bl at *
  by_cases c:(decide (n < 0) == decide (m < 0))=true
  · obtain ⟨e1,e2⟩:=aKh n m c
    rw [if_pos (show ((big n).fNeg == (big m).fNeg)=true from c)]
    simp only [aAC,aAB]
    rw [aIr _ _ (by omega) (by omega)]
    simp only [Option.bind_some]
    rw [← e1,rK _ _ h,e2];rfl
  · rw [if_neg (show ¬((big n).fNeg == (big m).fNeg)=true from c)]
    simp only [aAC,aAB]
    rw [aBn _ _ (by omega) (by omega)]
    simp only [Option.bind_some]
    by_cases c2:m.natAbs≤n.natAbs
    · obtain ⟨e1,e2⟩:=aEL n m c c2
      have c3:0≤sU n.natAbs m.natAbs:=by unfold sU;rw [if_neg (by omega)];split <;> omega
      rw [if_pos c3,(zM _ _ (by omega) c2).1]
      simp only [Option.bind_some]
      rw [← e1,rK _ _ h,e2];rfl
    · obtain ⟨e1,e2⟩:=aEL m n (by rw [Bool.beq_comm];exact c) (by omega)
      have c3:¬0≤sU n.natAbs m.natAbs:=by unfold sU;rw [if_pos (by omega)];omega
      rw [if_neg c3,(zM _ _ (by omega) (by omega)).1]
      simp only [Option.bind_some]
      rw [← e1,Int.add_comm m n] at *
      rw [rK _ _ h,e2];rfl
def pT:Rat:=Rat.mk (BigInt.mk false []) []
def mkR (s:Bool) (x y:Nat):Rat :=
  if y=0 then pT else if 24 < (aA (x / Nat.gcd x y)).length∨24 < (aA (y / Nat.gcd x y)).length then pT
  else ⟨⟨s&&decide (x / Nat.gcd x y≠0),aA (x / Nat.gcd x y)⟩,aA (y / Nat.gcd x y)⟩
theorem aMk:aQ pT≤48:=by decide
theorem aKa {x y:Nat} (hx:(aA x).length≤700) (hy:(aA y).length≤700):(aA (Nat.gcd x y)).length≤700:=by
  by_cases c:x=0
  · subst c;rw [Nat.gcd_zero_left];exact hy
  · exact Nat.le_trans (fI (Nat.gcd_le_left y (Nat.pos_of_ne_zero c)) (Nat.le_refl _)) hx
theorem aDB (s t:Bool) (x y:Nat) (hx:(aA x).length≤60) (hy:(aA y).length≤60):oF ⟨s,aA x⟩ ⟨t,aA y⟩=some (mkR (!(s == t)) x y):=by
  unfold oF mkR
  simp only []
  by_cases c:y=0
  · rw [if_pos c,if_pos (by rw [c,bN];rfl)];rfl
  · have hl:(aA y).length≠0:=fun e=>eC c (List.length_eq_zero_iff.1 e)
    have hg:=aKa (x:=x) (y:=y) (by omega) (by omega)
    have hg0:0 < Nat.gcd x y:=Nat.gcd_pos_of_pos_right x (Nat.pos_of_ne_zero c)
    rw [if_neg c,if_neg (by omega),aIf x y (by omega) (by omega)]
    simp only [Option.bind_some]
    rw [aFn x _ hg0 (by omega) hg,aFn y _ hg0 (by omega) hg]
    simp only [Option.bind_some]
    have l1:=aMG x (Nat.gcd x y)
    by_cases c1:24 < (aA (x / Nat.gcd x y)).length
    · rw [if_pos (by omega),if_pos (.inl c1)];rfl
    · rw [if_neg (by omega)]
      by_cases c2:24 < (aA (y / Nat.gcd x y)).length
      · rw [if_pos (.inr c2),decide_eq_true (by omega)];rfl
      · rw [if_neg (by omega),decide_eq_false (by omega)]
        simp only [Option.bind_some,Bool.false_eq_true,if_false]
        rw [vM _ _ (by omega)];rfl
theorem vE:([1]:List Int)=aA 1:=by rw [uR (by rw [dQ];omega) (by omega)];rfl
theorem aG7 (x:Nat):iB (aA x)=some (decide (x=1)):=by
  unfold iB
  by_cases c:x=1
  · subst c;rw [← vE];simp [idx]
  · rw [decide_eq_false c]
    by_cases h:(aA x).length=1
    · have hx:x < BB:=by have:=pS x;rw [h,Nat.pow_one] at this;exact this
      have h0:x≠0:=by rintro rfl;rw [bN] at h;simp at h
      rw [if_pos (by omega),show (0:Int)=((0:Nat):Int) from rfl,aH (by omega)]
      simp only [uR hx h0,List.getElem_cons_zero,Option.bind_some]
      rw [decide_eq_false (by omega)]
    · rw [if_neg (by omega)]
theorem aDm (s:Bool) (x y:Nat) (hx:(aA x).length≤60) (hy:(aA y).length≤60):nN s (aA x) (aA y)=some (mkR s x y):=by
  unfold nN mkR
  rw [aAg (eF x) (by omega),aAg (eF y) (by omega),dM,dM]
  simp only [Option.bind_some]
  by_cases c:y=0
  · rw [if_pos c,if_pos (by rw [c,bN];rfl)];rfl
  · have hl:(aA y).length≠0:=fun e=>eC c (List.length_eq_zero_iff.1 e)
    have hg:=aKa (x:=x) (y:=y) (by omega) (by omega)
    have hg0:0 < Nat.gcd x y:=Nat.gcd_pos_of_pos_right x (Nat.pos_of_ne_zero c)
    rw [if_neg c,if_neg (by omega),aG7]
    simp only [Option.bind_some]
    have key:((if decide (y=1)=true then some (aA x,aA y) else (qI (aA x) (aA y)).bind fun r4=>(iB r4).bind fun r5=>(if r5=true then some (aA x,aA y) else (lA (aA x) r4).bind fun r6=>(lA (aA y) r4).bind fun r7=>some (r6.1,r7.1))):Option ((List Int) × (List Int)))=some (aA (x / Nat.gcd x y),aA (y / Nat.gcd x y)):=by
      by_cases c1:y=1
      · rw [decide_eq_true c1,if_pos rfl,c1,Nat.gcd_one_right,Nat.div_one,Nat.div_one]
      · rw [decide_eq_false c1,if_neg (by simp),aIq x y (by omega) (by omega)]
        simp only [Option.bind_some]
        rw [aG7]
        simp only [Option.bind_some]
        by_cases c2:Nat.gcd x y=1
        · rw [decide_eq_true c2,if_pos rfl,c2,Nat.div_one,Nat.div_one]
        · rw [decide_eq_false c2,if_neg (by simp),aFJ x _ hg0 (by omega) hg,aFJ y _ hg0 (by omega) hg];rfl
    rw [key]
    simp only [Option.bind_some]
    by_cases c1:24 < (aA (x / Nat.gcd x y)).length
    · rw [if_pos (by omega),if_pos (.inl c1)];rfl
    · rw [if_neg (by omega)]
      by_cases c2:24 < (aA (y / Nat.gcd x y)).length
      · rw [if_pos (.inr c2),decide_eq_true (by omega)];rfl
      · rw [if_neg (by omega),decide_eq_false (by omega)]
        simp only [Option.bind_some,Bool.false_eq_true,if_false]
        rw [rK _ _ (by omega)]
        simp only [Option.bind_some]
        rw [aR (by simp;omega)]
        simp only [Option.bind_some,aP,List.nil_append]
def bV (r:Rat):Prop:=xF r.fNum∧uX r.fDen∧r.fDen≠[]∧r.fDen.length≤24∧r.fNum.fMag.length≤24∧Nat.gcd (val r.fNum.fMag) (val r.fDen)=1
instance (r:Rat):Decidable (bV r):=by unfold bV;infer_instance
theorem aLg (r:Rat) (h:aQ r≤4294967296):r.fNum.fMag.length≤4294967296∧r.fDen.length≤4294967296:=by
  unfold aQ dN dX at h
  simp only [kC] at h;omega
theorem aBB (r:Rat) (h:aQ r≤4294967296):oI r=some (decide (bV r)):=by
  obtain ⟨h1,h2⟩:=aLg r h
  unfold oI
  rw [aMi _ h1]
  simp only [Option.bind_some]
  by_cases c1:xF r.fNum
  · rw [decide_eq_true c1,if_pos rfl,aIS _ h2]
    simp only [Option.bind_some]
    by_cases c2:uX r.fDen
    · rw [decide_eq_true c2,if_pos rfl]
      simp only [Option.bind_some]
      by_cases c3:r.fDen=[]
      · rw [decide_eq_false (fun g:bV r=>g.2.2.1 c3),decide_eq_true (by rw [c3];rfl)];rfl
      · have hn:r.fDen.length≠0:=fun e=>c3 (List.length_eq_zero_iff.1 e)
        rw [decide_eq_false (show ¬((r.fDen.length:Int)=0) by omega)]
        simp only [Bool.false_eq_true,if_false]
        by_cases c4:24 < r.fNum.fMag.length
        · rw [if_pos (by omega),decide_eq_false (fun g:bV r=>by have:=g.2.2.2.2.1;omega)];rfl
        · rw [if_neg (by omega)]
          by_cases c5:24 < r.fDen.length
          · rw [decide_eq_true (show (24:Int) < r.fDen.length by omega),decide_eq_false (fun g:bV r=>by have:=g.2.2.2.1;omega)];rfl
          · rw [decide_eq_false (show ¬(24:Int) < r.fDen.length by omega)]
            simp only [Option.bind_some,Bool.false_eq_true,if_false]
            have e1:=nY c1.1
            have e2:=nY c2
            have g:=aIf (val r.fNum.fMag) (val r.fDen) (by rw [← e1];omega) (by rw [← e2];omega)
            rw [← e1,← e2] at g
            rw [g]
            have o:=aG7 (Nat.gcd (val r.fNum.fMag) (val r.fDen))
            unfold iB at o
            simp only [Option.bind_some]
            rw [o]
            congr 1
            exact decide_eq_decide.2 ⟨fun q=>⟨c1,c2,c3,by omega,by omega,q⟩,fun q=>q.2.2.2.2.2⟩
    · rw [decide_eq_false c2,decide_eq_false (fun g:bV r=>c2 g.2.1)];rfl
  · rw [decide_eq_false c1,decide_eq_false (fun g:bV r=>c1 g.1)];rfl
theorem fJ (r:Rat) (h:aQ r≤4294967296):cI r=some (decide (bV r)):=by
  obtain ⟨h1,h2⟩:=aLg r h
  unfold cI
  rw [aMh _ h1]
  simp only [Option.bind_some]
  by_cases c1:xF r.fNum
  · rw [decide_eq_true c1,if_pos rfl,aGe _ h2]
    simp only [Option.bind_some]
    by_cases c2:uX r.fDen
    · rw [decide_eq_true c2,if_pos rfl]
      by_cases c3:r.fDen=[]
      · rw [decide_eq_false (fun g:bV r=>g.2.2.1 c3),if_pos (by rw [c3];rfl)];rfl
      · have hn:r.fDen.length≠0:=fun e=>c3 (List.length_eq_zero_iff.1 e)
        rw [if_neg (by omega)]
        by_cases c5:24 < r.fDen.length
        · rw [if_pos (by omega),decide_eq_false (fun g:bV r=>by have:=g.2.2.2.1;omega)];rfl
        · rw [if_neg (by omega)]
          by_cases c4:24 < r.fNum.fMag.length
          · rw [decide_eq_true (show (24:Int) < r.fNum.fMag.length by omega),decide_eq_false (fun g:bV r=>by have:=g.2.2.2.2.1;omega)];rfl
          · rw [decide_eq_false (show ¬(24:Int) < r.fNum.fMag.length by omega)]
            simp only [Option.bind_some,Bool.false_eq_true,if_false]
            have e1:=nY c1.1
            have e2:=nY c2
            have g:=aIq (val r.fNum.fMag) (val r.fDen) (by rw [← e1];omega) (by rw [← e2];omega)
            rw [← e1,← e2] at g
            rw [g]
            simp only [Option.bind_some]
            rw [aG7]
            simp only [Option.bind_some]
            congr 1
            exact decide_eq_decide.2 ⟨fun q=>⟨c1,c2,c3,by omega,by omega,q⟩,fun q=>q.2.2.2.2.2⟩
    · rw [decide_eq_false c2,decide_eq_false (fun g:bV r=>c2 g.2.1)];rfl
  · rw [decide_eq_false c1,decide_eq_false (fun g:bV r=>c1 g.1)];rfl
theorem aAk {r:Rat} (h:bV r):∃ (n:Int) (d:Nat),r=⟨big n,aA d⟩∧0 < d∧bl n≤24∧(aA d).length≤24∧Nat.gcd n.natAbs d=1:=by
  obtain ⟨h1,h2,h3,h4,h5,h6⟩:=h
  have e1:=aNk h1
  have e2:=nY h2
  refine ⟨aL0 r.fNum,val r.fDen,?_,?_,?_,by rw [← e2];exact h4,by rw [aF5];exact h6⟩
  · rw [← e1,← e2]
  · rcases Nat.eq_zero_or_pos (val r.fDen) with z | z
    · rw [z,bN] at e2;exact absurd e2 h3
    · exact z
  · unfold bl;rw [aF5,← nY h1.1];exact h5
theorem aBU (d:Nat):(⟨false,aA d⟩:BigInt)=big (d:Int):=by
  unfold big
  rw [decide_eq_false (by omega),Int.natAbs_natCast]
theorem aCE {n:Int} {d:Nat} (h:0 < d):eB ⟨big n,aA d⟩=some true:=by
  unfold eB
  have:(aA d).length≠0:=fun e=>eC (n:=d) (by omega) (List.length_eq_zero_iff.1 e)
  simp only []
  rw [decide_eq_true (by omega)]
def aKW (n:Int) (d:Nat) (m:Int) (e:Nat):Rat:=mkR (decide (n*e+m*d < 0)) (n*e+m*d).natAbs (d*e)
theorem aIa (n:Int) (d:Nat) (m:Int) (e:Nat) (hd:0 < d) (he:0 < e) (h1:bl n≤24) (h2:(aA d).length≤24) (h3:bl m≤24) (h4:(aA e).length≤24):cW ⟨big n,aA d⟩ ⟨big m,aA e⟩=some (aKW n d m e):=by
  unfold cW
  rw [aCE hd,aCE he]
  simp only [Option.bind_some,if_true,Bool.not_true,Bool.false_eq_true,if_false,gV]
  have b1:bl (e:Int)≤24:=by unfold bl;rw [Int.natAbs_natCast];exact h4
  have b2:bl (d:Int)≤24:=by unfold bl;rw [Int.natAbs_natCast];exact h2
  have b3:=aAA n e
  have b4:=aAA m d
  have b5:=aJC (n*e) (m*d)
  have b6:=aAA d e
  rw [aBU,aBU,yJ n e (by omega) (by omega) (by omega),yJ m d (by omega) (by omega) (by omega)]
  simp only [Option.bind_some]
  rw [aL1 _ _ (by omega) (by omega) (by omega),yJ d e (by omega) (by omega) (by omega)]
  simp only [Option.bind_some]
  unfold big aKW
  unfold bl at b5 b6 b1 b2 b3 b4 h1 h3
  rw [aDB _ _ _ _ (by omega) (by omega)]
  have:decide ((d:Int)*(e:Int) < 0)=false:=decide_eq_false (by have:=Int.mul_nonneg (a:=(d:Int)) (b:=(e:Int)) (by omega) (by omega);omega)
  rw [this,Int.natAbs_mul,Int.natAbs_natCast,Int.natAbs_natCast]
  simp only [Option.bind_some]
  congr 2
  cases decide (n*(e:Int)+m*(d:Int) < 0) <;> rfl
theorem aLL (n:Int) (d:Nat) (m:Int) (e:Nat) (hd:0 < d) (he:0 < e) (h1:bl n≤24) (h2:(aA d).length≤24) (h3:bl m≤24) (h4:(aA e).length≤24):qG ⟨big n,aA d⟩ ⟨big m,aA e⟩=some (aKW n d m e):=by
  have b1:bl (e:Int)≤24:=by unfold bl;rw [Int.natAbs_natCast];exact h4
  have b2:bl (d:Int)≤24:=by unfold bl;rw [Int.natAbs_natCast];exact h2
  have b3:=aAA n e
  have b4:=aAA m d
  have b5:=aJC (n*e) (m*d)
  have b7:=aJC n m
  have b6:=eM d e
  unfold qG
  simp only []
  rw [aG7,aG7]
  simp only [Option.bind_some]
  have key:((if decide (d=1)=true then some (decide (e=1)) else some false):Option Bool)=some (decide (d=1∧e=1)):=by
    by_cases c:d=1 <;> simp [c]
  rw [key]
  simp only [Option.bind_some]
  by_cases c:d=1∧e=1
  · rw [decide_eq_true c,if_pos rfl,aIp n m (by omega) (by omega) (by omega)]
    simp only [Option.bind_some]
    obtain ⟨c1,c2⟩:=c
    unfold aKW
    rw [vE]
    unfold bl at b7 h1 h3
    simp only [big]
    rw [aDm _ _ _ (by omega) (by rw [← vE];simp),c1,c2]
    simp
  · rw [decide_eq_false c,if_neg (by simp)]
    have p1:(aA (n.natAbs*e)).length≤48:=by have:=eM n.natAbs e;unfold bl at h1;omega
    have p2:(aA (m.natAbs*d)).length≤48:=by have:=eM m.natAbs d;unfold bl at h3;omega
    have q1:dI (big n).fMag (aA e)=some (aA (n.natAbs*e)):=by unfold bl at h1;exact (oX n.natAbs e (by omega) (by omega)).1
    have q2:dI (big m).fMag (aA d)=some (aA (m.natAbs*d)):=by unfold bl at h3;exact (oX m.natAbs d (by omega) (by omega)).1
    have q3:cS (big n).fNeg (aA (n.natAbs*e))=some (big (n*e)):=aGQ n e (by omega)
    have q4:cS (big m).fNeg (aA (m.natAbs*d))=some (big (m*d)):=aGQ m d (by omega)
    rw [q1]
    simp only [Option.bind_some]
    rw [q3]
    simp only [Option.bind_some]
    rw [q2]
    simp only [Option.bind_some]
    rw [q4]
    simp only [Option.bind_some]
    rw [aIp _ _ (by omega) (by omega) (by omega)]
    simp only [Option.bind_some]
    rw [(oX d e (by omega) (by omega)).1]
    simp only [Option.bind_some]
    unfold aKW
    unfold bl at b5 b3 b4 h1 h3 b1 b2
    simp only [big]
    rw [aDm _ _ _ (by omega) (by omega)];rfl
end Go.Ev
/- Fractions: the interface that both programs meet. -/
namespace Go.Ev
set_option linter.all false
def VZ (r:Rat):Prop:=bV r∨r=pT
theorem aAW:¬bV pT:=fun h=>h.2.2.1 rfl
theorem aB6:VZ pT:=.inr rfl
theorem rA {r:Rat} (h:VZ r):aQ r≤48:=by
  rcases h with h | h
  · unfold aQ dN dX
    simp only [kC]
    have h1:=h.2.2.2.1
    have h2:=h.2.2.2.2.1
    omega
  · subst h;exact aMk
theorem aFY {n:Nat} (h:0 < n):aA n≠[]:=eC (by omega)
theorem aJg (s:Bool) (x y:Nat):VZ (mkR s x y):=by
  unfold mkR
  by_cases c:y=0
  · rw [if_pos c];exact aB6
  · rw [if_neg c]
    by_cases c2:24 < (aA (x / Nat.gcd x y)).length∨24 < (aA (y / Nat.gcd x y)).length
    · rw [if_pos c2];exact aB6
    · rw [if_neg c2]
      left
      have hg0:0 < Nat.gcd x y:=Nat.gcd_pos_of_pos_right x (Nat.pos_of_ne_zero c)
      have hy:0 < y / Nat.gcd x y:=Nat.div_pos (Nat.gcd_le_right x (Nat.pos_of_ne_zero c)) hg0
      refine ⟨⟨aC2 (by omega),fun h=>?_⟩,aC2 (by omega),aFY hy,by show (aA (y / Nat.gcd x y)).length≤24;omega,by show (aA (x / Nat.gcd x y)).length≤24;omega,?_⟩
      · simp only [Bool.and_eq_true,decide_eq_true_eq] at h
        exact eC h.2
      · simp only [dM]
        have:=Nat.gcd_div (Nat.gcd_dvd_left x y) (Nat.gcd_dvd_right x y)
        rw [this,Nat.div_self hg0]
theorem aJ0 {s s':Bool} {x y:Nat} (h:x≠0→s=s'):mkR s x y=mkR s' x y:=by
  by_cases c:x=0
  · subst c;unfold mkR;simp
  · rw [h c]
theorem iY {r:Rat} (h:VZ r):eB r=some (decide (bV r)):=by
  unfold eB
  rcases h with h | h
  · have:r.fDen.length≠0:=fun e=>h.2.2.1 (List.length_eq_zero_iff.1 e)
    rw [decide_eq_true h,decide_eq_true (by omega)]
  · subst h
    rw [decide_eq_false aAW];rfl
theorem aDu (r s:Rat) (hr:aQ r≤4294967296) (hs:aQ s≤4294967296):∃ t,dJ r s=some t∧VZ t∧(VZ r→VZ s→cW r s=some t):=by
  unfold dJ
  rw [fJ r hr]
  simp only [Option.bind_some]
  by_cases c1:bV r
  · rw [decide_eq_true c1,if_pos rfl,fJ s hs]
    simp only [Option.bind_some]
    by_cases c2:bV s
    · rw [decide_eq_true c2]
      obtain ⟨n,d,e1,e2,e3,e4,_⟩:=aAk c1
      obtain ⟨m,e,g1,g2,g3,g4,_⟩:=aAk c2
      subst e1;subst g1
      simp only [Bool.not_true,Bool.false_eq_true,if_false]
      have q:=aIa n d m e e2 g2 e3 e4 g3 g4
      rw [aLL n d m e e2 g2 e3 e4 g3 g4]
      exact ⟨_,rfl,aJg _ _ _,fun _ _=>q⟩
    · rw [decide_eq_false c2]
      refine ⟨pT,rfl,aB6,fun v1 v2=>?_⟩
      unfold cW
      rw [iY v1,iY v2,decide_eq_true c1,decide_eq_false c2];rfl
  · rw [decide_eq_false c1]
    refine ⟨pT,rfl,aB6,fun v1 v2=>?_⟩
    unfold cW
    rw [iY v1,decide_eq_false c1];rfl
def aNg (n:Int) (d:Nat) (m:Int) (e:Nat):Rat:=mkR (!(decide (n < 0) == decide (m < 0))) (n.natAbs*m.natAbs) (d*e)
theorem aLi (n:Int) (d:Nat) (m:Int) (e:Nat) (hd:0 < d) (he:0 < e) (h1:bl n≤24) (h2:(aA d).length≤24) (h3:bl m≤24) (h4:(aA e).length≤24):dK ⟨big n,aA d⟩ ⟨big m,aA e⟩=some (aNg n d m e):=by
  unfold dK
  rw [aCE hd,aCE he]
  simp only [Option.bind_some,if_true,Bool.not_true,Bool.false_eq_true,if_false,gV]
  have b1:bl (e:Int)≤24:=by unfold bl;rw [Int.natAbs_natCast];exact h4
  have b2:bl (d:Int)≤24:=by unfold bl;rw [Int.natAbs_natCast];exact h2
  have b3:=aAA n m
  have b6:=aAA d e
  rw [yJ n m (by omega) (by omega) (by omega),aBU,aBU,yJ d e (by omega) (by omega) (by omega)]
  simp only [Option.bind_some]
  unfold big aNg
  unfold bl at b6 b1 b2 b3 h1 h3
  rw [aDB _ _ _ _ (by omega) (by omega)]
  have:decide ((d:Int)*(e:Int) < 0)=false:=decide_eq_false (by have:=Int.mul_nonneg (a:=(d:Int)) (b:=(e:Int)) (by omega) (by omega);omega)
  rw [this,Int.natAbs_mul,Int.natAbs_mul,Int.natAbs_natCast,Int.natAbs_natCast]
  simp only [Option.bind_some]
  congr 1
  refine aJ0 fun hx=>?_
  have q:=aHj n m
  rw [decide_eq_true hx,Bool.and_true] at q
  rw [← q]
  cases decide (n < 0) <;> cases decide (m < 0) <;> rfl
theorem aLK (n:Int) (d:Nat) (m:Int) (e:Nat) (h1:bl n≤24) (h2:(aA d).length≤24) (h3:bl m≤24) (h4:(aA e).length≤24):wH ⟨big n,aA d⟩ ⟨big m,aA e⟩=some (aNg n d m e):=by
  unfold bl at h1 h3
  have b1:=eM n.natAbs m.natAbs
  have b2:=eM d e
  unfold wH
  simp only [big]
  rw [(oX _ _ (by omega) (by omega)).1]
  simp only [Option.bind_some]
  rw [(oX _ _ (by omega) (by omega)).1]
  simp only [Option.bind_some]
  rw [aDm _ _ _ (by omega) (by omega)]
  rfl
theorem aL5 (r s:Rat) (hr:aQ r≤4294967296) (hs:aQ s≤4294967296):∃ t,eD r s=some t∧VZ t∧(VZ r→VZ s→dK r s=some t):=by
  unfold eD
  rw [fJ r hr]
  simp only [Option.bind_some]
  by_cases c1:bV r
  · rw [decide_eq_true c1,if_pos rfl,fJ s hs]
    simp only [Option.bind_some]
    by_cases c2:bV s
    · rw [decide_eq_true c2]
      obtain ⟨n,d,e1,e2,e3,e4,_⟩:=aAk c1
      obtain ⟨m,e,g1,g2,g3,g4,_⟩:=aAk c2
      subst e1;subst g1
      simp only [Bool.not_true,Bool.false_eq_true,if_false]
      rw [aLK n d m e e3 e4 g3 g4]
      exact ⟨_,rfl,aJg _ _ _,fun _ _=>aLi n d m e e2 g2 e3 e4 g3 g4⟩
    · rw [decide_eq_false c2]
      refine ⟨pT,rfl,aB6,fun v1 v2=>?_⟩
      unfold dK
      rw [iY v1,iY v2,decide_eq_true c1,decide_eq_false c2];rfl
  · rw [decide_eq_false c1]
    refine ⟨pT,rfl,aB6,fun v1 v2=>?_⟩
    unfold dK
    rw [iY v1,decide_eq_false c1];rfl
def yY (r:Rat):Int:=if bV r then (if r.fNum.fMag=[] then 0 else if r.fNum.fNeg=true then -1 else 1) else 0
theorem aA0 {r:Rat} (h:0 < yY r):bV r:=by
  unfold yY at h
  by_cases c:bV r
  · exact c
  · rw [if_neg c] at h;omega
theorem aDR (r:Rat) (hr:aQ r≤4294967296):lD r=some (yY r)∧oH r=some (yY r):=by
  unfold lD oH yY
  rw [aBB r hr,fJ r hr]
  simp only [Option.bind_some]
  by_cases c1:bV r
  · rw [decide_eq_true c1,if_pos c1,if_pos rfl,if_pos rfl]
    unfold xK
    rw [iY (.inl c1),decide_eq_true c1]
    simp only [Option.bind_some,if_true]
    by_cases c2:r.fNum.fMag=[]
    · rw [if_pos c2,decide_eq_true (by rw [c2];rfl)];exact ⟨rfl,rfl⟩
    · have:r.fNum.fMag.length≠0:=fun e=>c2 (List.length_eq_zero_iff.1 e)
      rw [if_neg c2,decide_eq_false (by omega)]
      simp only [Bool.false_eq_true,if_false]
      cases r.fNum.fNeg <;> exact ⟨rfl,rfl⟩
  · rw [decide_eq_false c1,if_neg c1];exact ⟨rfl,rfl⟩
theorem aMY (a b:List Int) (h:a.length≤4294967296):rE a b=some (decide (a=b)):=by
  unfold rE
  by_cases c:a.length=b.length
  · rw [if_neg (by omega)]
    have main:∀ m k:Nat,m+k=a.length→lp (iZ a b) (k:Int)=some (if a.drop k=b.drop k then .inl () else .inr false):=by
      intro m
      induction m with
      | zero =>
        intro k hk
        rw [if_pos (by rw [List.drop_eq_nil_of_le (by omega),List.drop_eq_nil_of_le (by omega)])]
        exact aM (by unfold iZ;rw [if_neg (by omega)])
      | succ m ih =>
        intro k hk
        have h1:k < a.length:=by omega
        have h2:k < b.length:=by omega
        by_cases e:a[k]=b[k]
        · have s1:iZ a b (k:Int)=some (.inl ((k+1:Nat):Int)):=by
            unfold iZ
            rw [if_pos (by omega),aH h1,aH h2,wi (by omega)];simp [e]
          rw [bI s1,ih (k+1) (by omega)]
          have:a.drop k=b.drop k↔a.drop (k+1)=b.drop (k+1):=by
            rw [List.drop_eq_getElem_cons h1,List.drop_eq_getElem_cons h2,List.cons.injEq]
            exact ⟨fun h=>h.2,fun h=>⟨e,h⟩⟩
          simp only [this]
        · have:¬a.drop k=b.drop k:=by
            rw [List.drop_eq_getElem_cons h1,List.drop_eq_getElem_cons h2,List.cons.injEq]
            exact fun h=>e h.1
          rw [if_neg this]
          refine aM ?_
          unfold iZ
          rw [if_pos (by omega),aH h1,aH h2];simp [e]
    have:=main a.length 0 (by omega)
    rw [show ((0:Nat):Int)=0 from rfl,List.drop_zero,List.drop_zero] at this
    rw [this]
    by_cases e:a=b
    · simp [e]
    · simp [e]
  · rw [if_pos (by omega),decide_eq_false (fun e=>c (by rw [e]))]
theorem aGy:dG=cX:=rfl
theorem aJE (r s:Rat) (hr:aQ r≤4294967296):∃ b,cX r s=some b:=by
  obtain ⟨h1,h2⟩:=aLg r hr
  unfold cX
  rw [aMY _ _ h1,aMY _ _ h2]
  simp only [Option.bind_some]
  split
  · split
    · exact ⟨_,rfl⟩
    · exact ⟨_,rfl⟩
  · exact ⟨_,rfl⟩
theorem aCr (n:Int) (h:-9223372036854775808≤n∧n≤9223372036854775807):bV (xU n):=by
  have hl:=jQ (v:=n.natAbs) (by omega)
  unfold xU
  rw [vE]
  refine ⟨⟨aC2 (by omega),fun hn=>?_⟩,aC2 (by rw [← vE];simp),aFY (by omega),by rw [← vE];simp,by show (aA n.natAbs).length≤24;omega,?_⟩
  · simp only [big,decide_eq_true_eq] at hn
    exact eC (by omega)
  · simp only [dM,Nat.gcd_one_right]
end Go.Ev
/- Is a number in a list. -/
namespace Go.Ev
set_option linter.all false
theorem aBs (l:List Int) (n:Int) (h:l.length≤4294967296):fT l n=some (decide (n ∈ l)):=by
  have main:∀ m k:Nat,m+k=l.length→lp (kQ l n) (k:Int)=some (if n ∈ l.drop k then .inr true else .inl ()):=by
    intro m
    induction m with
    | zero =>
      intro k hk
      have:k=l.length:=by omega
      subst this
      rw [aM (r:=.inl ()) (by unfold kQ;rw [if_neg (by omega)]),List.drop_length];simp
    | succ m ih =>
      intro k hk
      have hlt:k < l.length:=by omega
      rw [List.drop_eq_getElem_cons hlt]
      by_cases c:l[k]=n
      · rw [aM (r:=.inr true) (by unfold kQ;rw [if_pos (by omega),aH hlt];simp [c]),if_pos (by simp [c])]
      · have e:kQ l n (k:Int)=some (.inl ((k:Int)+1)):=by
          unfold kQ;rw [if_pos (by omega),aH hlt,wi (by omega)];simp [c]
        rw [bI e,show (k:Int)+1=((k+1:Nat):Int) by omega,ih (k+1) (by omega)]
        have:(n ∈ l[k]::l.drop (k+1))↔n ∈ l.drop (k+1):=by
          rw [List.mem_cons];exact ⟨fun h=>h.resolve_left (fun e=>c e.symm),.inr⟩
        simp only [this]
  have:=main l.length 0 (by omega)
  rw [show ((0:Nat):Int)=0 from rfl,List.drop_zero] at this
  unfold fT
  rw [this]
  by_cases c:n ∈ l <;> simp [c]
theorem aBm (l:List Int) (n:Int) (h:l.length≤4294967296):qC l n=some (decide (n ∈ l)):=aBs l n h
end Go.Ev
/- Conditionals and nets, both programs. -/
namespace Go.Ev
set_option linter.all false
theorem aIw (a:Int):qW a=some (decide (0≤a∧a≤9)):=by
  unfold qW
  by_cases h:0≤a
  · rw [if_pos h];congr 1;rw [decide_eq_decide];omega
  · rw [if_neg h,decide_eq_false (by omega)]
theorem aGT (a:Int):nS a=some (decide (0≤a∧a≤9)):=by
  unfold nS
  rw [aDn];rfl
def aIe (c:Conditional) (k:Nat) (p:Parent):Prop:=(0≤p.fNode∧p.fNode≤9)∧p.fNode≠c.fNode∧(∀ q,0 < k→c.fParents[k - 1]?=some q→q.fNode < p.fNode)∧0 < yY p.fShare∧bV p.fDX∧bV p.fDY
theorem aNJ {c:Conditional} (h:aL c≤4294967296) {k:Nat} (hk:k < c.fParents.length):aQ (c.fParents[k]).fShare≤4294967296∧aQ (c.fParents[k]).fDX≤4294967296∧aQ (c.fParents[k]).fDY≤4294967296:=by
  unfold aL cR at h
  have:=gO (w:=bX) (List.getElem_mem hk)
  have e:bX c.fParents[k]=aQ (c.fParents[k]).fShare+aQ (c.fParents[k]).fDX+aQ (c.fParents[k]).fDY:=rfl
  omega
theorem aLt {c:Conditional} (h:aL c≤4294967296):c.fParents.length≤4294967296∧aQ c.fTotal≤4294967296:=by
  unfold aL cR at h
  have:=dR bX c.fParents
  omega
theorem aIW (c:Conditional) (h:aL c≤4294967296):∀ m k:Nat,m+k=c.fParents.length→∀ s:Rat,VZ s →
    ∃ r,lp (cJ c) ((k:Int),s)=some r∧lp (cK c) ((k:Int),s)=some r ∧
      (match r with | .inl v=>VZ v∧∀ j (hj:j < c.fParents.length),k≤j→aIe c j c.fParents[j] | .inr b=>b=false):=by
  have hl:=(aLt h).1
  intro m
  induction m with
  | zero =>
    intro k hk s hs
    refine ⟨.inl s,aM ?_,aM ?_,hs,fun j hj hkj=>by omega⟩
    · unfold cJ;simp only [];rw [if_neg (by omega)]
    · unfold cK;simp only [];rw [if_neg (by omega)]
  | succ m ih =>
    intro k hk s hs
    have hlt:k < c.fParents.length:=by omega
    obtain ⟨z1,z2,z3⟩:=aNJ h hlt
    obtain ⟨g1,g2⟩:=aDR _ z1
    have a1:=aBB _ z2
    have a2:=aBB _ z3
    have b1:=fJ _ z2
    have b2:=fJ _ z3
    obtain ⟨t,t1,t3,t4⟩:=aDu s (c.fParents[k]).fShare (by have:=rA hs;omega) z1
    have step:(aIe c k c.fParents[k]→cJ c ((k:Int),s)=some (.inl (((k+1:Nat):Int),t))∧cK c ((k:Int),s)=some (.inl (((k+1:Nat):Int),t))) ∧
        (¬aIe c k c.fParents[k]→cJ c ((k:Int),s)=some (.inr (.inr false))∧cK c ((k:Int),s)=some (.inr (.inr false))):=by
      have w1:IntKind.i64.wrap ((k:Int)+1)=((k+1:Nat):Int):=by rw [wi (by omega)];omega
      have hin:(k:Int) < (c.fParents.length:Int):=by omega
      unfold cJ cK
      simp only [hin,if_true,aH hlt,Option.bind_some,aIw,aGT,g1,g2,a1,a2,b1,b2,t1,w1]
      by_cases A:0≤(c.fParents[k]).fNode∧(c.fParents[k]).fNode≤9
      · by_cases B:(c.fParents[k]).fNode=c.fNode
        · refine ⟨fun g=>absurd B g.2.1,fun _=>?_⟩
          simp [A,B]
        · by_cases D:0 < yY (c.fParents[k]).fShare
          · have D':¬yY (c.fParents[k]).fShare≤0:=by omega
            have t5:=t4 hs (.inl (aA0 D))
            by_cases K:0 < k
            · have hlt2:k - 1 < c.fParents.length:=by omega
              have w2:IntKind.i64.wrap ((k:Int) - 1)=((k - 1:Nat):Int):=by rw [wi (by omega)];omega
              have K':(0:Int) < (k:Int):=by omega
              simp only [A,B,K',D',w2,aH hlt2,and_self,decide_true,if_true,if_false,Option.bind_some]
              by_cases C:(c.fParents[k]).fNode≤(c.fParents[k - 1]).fNode
              · refine ⟨fun g=>?_,fun _=>?_⟩
                · have:=g.2.2.1 (c.fParents[k - 1]) K (by rw [List.getElem?_eq_getElem hlt2]);omega
                · simp [C]
              · by_cases E:bV (c.fParents[k]).fDX
                · by_cases F:bV (c.fParents[k]).fDY
                  · refine ⟨fun _=>?_,fun g=>absurd ⟨A,B,fun q _ hq=>?_,D,E,F⟩ g⟩
                    · simp [C,E,F,t5]
                    · rw [List.getElem?_eq_getElem hlt2] at hq;cases hq;omega
                  · refine ⟨fun g=>absurd g.2.2.2.2.2 F,fun _=>?_⟩
                    simp [C,E,F]
                · refine ⟨fun g=>absurd g.2.2.2.2.1 E,fun _=>?_⟩
                  simp [C,E]
            · have K':¬(0:Int) < (k:Int):=by omega
              simp only [A,B,K',D',and_self,decide_true,if_true,if_false,Option.bind_some]
              by_cases E:bV (c.fParents[k]).fDX
              · by_cases F:bV (c.fParents[k]).fDY
                · refine ⟨fun _=>?_,fun g=>absurd ⟨A,B,fun q hq _=>absurd hq K,D,E,F⟩ g⟩
                  simp [E,F,t5]
                · refine ⟨fun g=>absurd g.2.2.2.2.2 F,fun _=>?_⟩
                  simp [E,F]
              · refine ⟨fun g=>absurd g.2.2.2.2.1 E,fun _=>?_⟩
                simp [E]
          · have D':yY (c.fParents[k]).fShare≤0:=by omega
            refine ⟨fun g=>absurd g.2.2.2.1 D,fun _=>?_⟩
            by_cases K:0 < k
            · have hlt2:k - 1 < c.fParents.length:=by omega
              have w2:IntKind.i64.wrap ((k:Int) - 1)=((k - 1:Nat):Int):=by rw [wi (by omega)];omega
              have K':(0:Int) < (k:Int):=by omega
              simp only [A,B,K',D',w2,aH hlt2,and_self,decide_true,if_true,if_false,Option.bind_some]
              by_cases C:(c.fParents[k]).fNode≤(c.fParents[k - 1]).fNode <;> simp [C]
            · have K':¬(0:Int) < (k:Int):=by omega
              simp only [A,B,K',D',and_self,decide_true,if_true,if_false,Option.bind_some]
              simp
      · refine ⟨fun g=>absurd g.1 A,fun _=>?_⟩
        simp [A]
    by_cases G:aIe c k c.fParents[k]
    · obtain ⟨s1,s2⟩:=step.1 G
      rw [bI s1,bI s2]
      obtain ⟨r,e1,e2,e3⟩:=ih (k+1) (by omega) t t3
      refine ⟨r,e1,e2,?_⟩
      cases r with
      | inl v =>
        refine ⟨e3.1,fun j hj hkj=>?_⟩
        by_cases e:j=k
        · subst e;exact G
        · exact e3.2 j hj (by omega)
      | inr b=>exact e3
    · obtain ⟨s1,s2⟩:=step.2 G
      exact ⟨.inr false,aM s1,aM s2,rfl⟩
theorem aMv:VZ (xU 0):=.inl (aCr 0 (by omega))
theorem aKi (c:Conditional) (h:aL c≤4294967296):∃ b,eA c=some b∧fW c=some b∧(b=true→(1≤c.fNode∧c.fNode≤9)∧∀ j (hj:j < c.fParents.length),aIe c j c.fParents[j]):=by
  obtain ⟨hl,hT⟩:=aLt h
  obtain ⟨g1,g2⟩:=aDR _ hT
  obtain ⟨r,e1,e2,e3⟩:=aIW c h c.fParents.length 0 (by omega) (xU 0) aMv
  rw [show ((0:Nat):Int)=0 from rfl] at e1 e2
  unfold eA fW
  rw [lF 0 (by omega),lV 0 (by omega),lF 1 (by omega),lV 1 (by omega)]
  simp only [Option.bind_some,e1,e2,g1,g2,aDn]
  by_cases A:1≤c.fNode∧c.fNode≤9
  · have A1:¬c.fNode < 1:=by omega
    have A2:¬10≤c.fNode:=by omega
    by_cases B:0 < yY c.fTotal
    · have B':¬yY c.fTotal≤0:=by omega
      by_cases D:c.fParents.length=0
      · have D1:¬(0:Int) < (c.fParents.length:Int):=by omega
        have D2:(c.fParents.length:Int)=0:=by omega
        refine ⟨false,?_,?_,fun h=>by cases h⟩
        · cases r with
          | inl v=>simp only [A,B,D1,and_self,decide_true,if_true,if_false,Option.bind_some]
          | inr b=>simp only [] at e3;subst e3;rfl
        · simp [A1,A2,B',D2]
      · have D1:(0:Int) < (c.fParents.length:Int):=by omega
        have D2:¬(c.fParents.length:Int)=0:=by omega
        cases r with
        | inl v =>
          obtain ⟨b,hb⟩:=aJE v (xU 1) (by have:=rA e3.1;omega)
          refine ⟨b,?_,?_,fun _=>⟨A,fun j hj=>e3.2 j hj (by omega)⟩⟩
          · simp only [A,B,D1,hb,and_self,decide_true,if_true,if_false,Option.bind_some]
          · rw [aGy];simp only [A1,A2,B',D2,hb,decide_false,if_true,if_false,Option.bind_some,Bool.false_eq_true]
        | inr b =>
          simp only [] at e3;subst e3
          refine ⟨false,rfl,?_,fun h=>by cases h⟩
          simp [A1,A2,B',D2]
    · have B':yY c.fTotal≤0:=by omega
      refine ⟨false,?_,?_,fun h=>by cases h⟩
      · cases r with
        | inl v=>simp [A,B]
        | inr b=>simp only [] at e3;subst e3;rfl
      · simp [A1,A2,B']
  · refine ⟨false,?_,?_,fun h=>by cases h⟩
    · cases r with
      | inl v=>simp [A]
      | inr b=>simp only [] at e3;subst e3;rfl
    · by_cases A1:c.fNode < 1
      · simp [A1]
      · have A2:10≤c.fNode:=by omega
        simp [A1,A2]
end Go.Ev
/- Fractions: quotients, differences, negation; the operations as total functions that both programs meet on valid or zero values. -/
namespace Go.Ev
set_option linter.all false
def aNN (n:Int) (d:Nat) (m:Int) (e:Nat):Rat:=mkR (!(decide (n < 0) == decide (m < 0))) (n.natAbs*e) (d*m.natAbs)
theorem aLj (n:Int) (d:Nat) (m:Int) (e:Nat) (hd:0 < d) (he:0 < e) (h1:bl n≤24) (h2:(aA d).length≤24) (h3:bl m≤24) (h4:(aA e).length≤24):fS ⟨big n,aA d⟩ ⟨big m,aA e⟩=some (aNN n d m e):=by
  unfold fS
  rw [aCE hd,aCE he]
  simp only [Option.bind_some,if_true,Bool.not_true,Bool.false_eq_true,if_false,gV]
  have b1:bl (e:Int)≤24:=by unfold bl;rw [Int.natAbs_natCast];exact h4
  have b2:bl (d:Int)≤24:=by unfold bl;rw [Int.natAbs_natCast];exact h2
  have b3:=aAA n e
  have b4:=aAA m d
  rw [aBU,aBU,yJ n e (by omega) (by omega) (by omega),yJ m d (by omega) (by omega) (by omega)]
  simp only [Option.bind_some]
  unfold big aNN
  unfold bl at b1 b2 b3 b4 h1 h3
  rw [aDB _ _ _ _ (by omega) (by omega)]
  simp only [Option.bind_some,Int.natAbs_mul,Int.natAbs_natCast]
  congr 1
  rw [Nat.mul_comm d m.natAbs]
  by_cases hm:m=0
  · subst hm;unfold mkR;simp
  · refine aJ0 fun hx=>?_
    have s1:decide (n*(e:Int) < 0)=decide (n < 0):=by
      rw [decide_eq_decide]
      constructor
      · intro h
        rcases Int.lt_or_le n 0 with g | g
        · exact g
        · have:=Int.mul_nonneg g (by omega:(0:Int)≤e);omega
      · intro h;exact Int.mul_neg_of_neg_of_pos h (by omega)
    have s2:decide (m*(d:Int) < 0)=decide (m < 0):=by
      rw [decide_eq_decide]
      constructor
      · intro h
        rcases Int.lt_or_le m 0 with g | g
        · exact g
        · have:=Int.mul_nonneg g (by omega:(0:Int)≤d);omega
      · intro h;exact Int.mul_neg_of_neg_of_pos h (by omega)
    rw [s1,s2]
theorem aL6 (r s:Rat) (hr:aQ r≤4294967296) (hs:aQ s≤4294967296):∃ t,iE r s=some t∧VZ t∧(VZ r→VZ s→fS r s=some t):=by
  unfold iE
  rw [fJ r hr]
  simp only [Option.bind_some]
  by_cases c1:bV r
  · rw [decide_eq_true c1,if_pos rfl,fJ s hs]
    simp only [Option.bind_some]
    by_cases c2:bV s
    · rw [decide_eq_true c2]
      obtain ⟨n,d,e1,e2,e3,e4,_⟩:=aAk c1
      obtain ⟨m,e,g1,g2,g3,g4,_⟩:=aAk c2
      subst e1;subst g1
      simp only [Bool.not_true,Bool.false_eq_true,if_false]
      have e3':=e3
      have g3':=g3
      unfold bl at e3' g3'
      have b1:=eM n.natAbs e
      have b2:=eM d m.natAbs
      have q:(dI (big n).fMag (aA e))=some (aA (n.natAbs*e)):=(oX _ _ (by omega) (by omega)).1
      have q2:(dI (aA d) (big m).fMag)=some (aA (d*m.natAbs)):=(oX _ _ (by omega) (by omega)).1
      rw [q]
      simp only [Option.bind_some]
      rw [q2]
      simp only [Option.bind_some]
      rw [aDm _ _ _ (by omega) (by omega)]
      exact ⟨_,rfl,aJg _ _ _,fun _ _=>aLj n d m e e2 g2 e3 e4 g3 g4⟩
    · rw [decide_eq_false c2]
      refine ⟨pT,rfl,aB6,fun v1 v2=>?_⟩
      unfold fS
      rw [iY v1,iY v2,decide_eq_true c1,decide_eq_false c2];rfl
  · rw [decide_eq_false c1]
    refine ⟨pT,rfl,aB6,fun v1 v2=>?_⟩
    unfold fS
    rw [iY v1,decide_eq_false c1];rfl
theorem aGN (n:Int) (h:bl n≤24):(aA n.natAbs).length≤24:=h
theorem aJX (n:Int):(if ((aA n.natAbs).length:Int)=0 then (⟨false,[]⟩:BigInt) else ⟨!decide (n < 0),aA n.natAbs⟩)=big (-n):=by
  by_cases c:n=0
  · subst c;simp [big,aA]
  · have:(aA n.natAbs).length≠0:=fun e=>eC (n:=n.natAbs) (by omega) (List.length_eq_zero_iff.1 e)
    rw [if_neg (by omega)]
    unfold big
    rw [Int.natAbs_neg]
    congr 1
    by_cases h:n < 0
    · rw [decide_eq_true h,decide_eq_false (by omega)];rfl
    · rw [decide_eq_false h,decide_eq_true (by omega)];rfl
theorem aF1 (l:List Int) (h:l.length≤4294967296):eJ l=some l:=by
  unfold eJ
  rw [aR (by simp;omega)]
  simp [aZ]
theorem aLh (n:Int) (d:Nat) (hd:0 < d) (h1:bl n≤24) (h2:(aA d).length≤24):jU ⟨big n,aA d⟩=some ⟨big (-n),aA d⟩:=by
  unfold jU
  have h1':=aGN n h1
  rw [aCE hd]
  simp only [Option.bind_some,if_true,aAC,aAB]
  rw [aF1 _ (by omega),aF1 _ (by omega)]
  simp only [Option.bind_some]
  unfold eQ
  have e:=aJX n
  by_cases c:((aA n.natAbs).length:Int)=0
  · rw [if_pos c] at e;simp [c,e]
  · rw [if_neg c] at e
    rw [if_neg c]
    have:¬(60:Int) < (aA n.natAbs).length:=by omega
    simp [this,e]
theorem aLJ (n:Int) (d:Nat) (h1:bl n≤24) (h2:(aA d).length≤24):qE ⟨big n,aA d⟩=some ⟨big (-n),aA d⟩:=by
  unfold qE
  have h1':=aGN n h1
  simp only [aAC,aAB]
  rw [rK _ _ (by omega),aR (by simp;omega)]
  simp only [Option.bind_some,aZ,List.nil_append]
  have e:=aJX n
  congr 2
  rw [← e]
  by_cases c:n=0
  · subst c;simp [aA]
  · have:(aA n.natAbs).length≠0:=fun e=>eC (n:=n.natAbs) (by omega) (List.length_eq_zero_iff.1 e)
    rw [if_neg (by omega)]
    simp [c]
theorem aGJ {n:Int} {d:Nat} (h:bV ⟨big n,aA d⟩) (h1:bl n≤24):bV ⟨big (-n),aA d⟩:=by
  obtain ⟨⟨a1,a2⟩,b,c,d1,e,f⟩:=h
  refine ⟨⟨?_,fun hn=>?_⟩,b,c,d1,?_,?_⟩
  · show uX (aA (-n).natAbs);rw [Int.natAbs_neg];exact a1
  · simp only [big,decide_eq_true_eq] at hn ⊢
    exact eC (by omega)
  · show (aA (-n).natAbs).length≤24;rw [Int.natAbs_neg];exact e
  · show Nat.gcd (val (aA (-n).natAbs)) _=1;rw [Int.natAbs_neg];exact f
theorem aIQ (r:Rat) (hr:aQ r≤4294967296):∃ t,lE r=some t∧VZ t∧(VZ r→jU r=some t)∧(bV r→qE r=some t∧bV t):=by
  unfold lE
  rw [fJ r hr]
  simp only [Option.bind_some]
  by_cases c1:bV r
  · rw [decide_eq_true c1,if_pos rfl]
    obtain ⟨n,d,e1,e2,e3,e4,_⟩:=aAk c1
    subst e1
    rw [aLJ n d e3 e4]
    exact ⟨_,rfl,.inl (aGJ c1 e3),fun _=>aLh n d e2 e3 e4,fun _=>⟨rfl,aGJ c1 e3⟩⟩
  · rw [decide_eq_false c1]
    refine ⟨pT,rfl,aB6,fun v1=>?_,fun h=>absurd h c1⟩
    unfold jU
    rw [iY v1,decide_eq_false c1];rfl
theorem aL4 (r s:Rat) (hr:aQ r≤4294967296) (hs:aQ s≤4294967296):∃ t,jR r s=some t∧VZ t∧(VZ r→VZ s→iI r s=some t):=by
  unfold jR
  rw [fJ r hr]
  simp only [Option.bind_some]
  obtain ⟨u,u1,u2,u3,u4⟩:=aIQ s hs
  obtain ⟨t,t1,t3,t4⟩:=aDu r u hr (by have:=rA u2;omega)
  by_cases c1:bV r
  · rw [decide_eq_true c1,if_pos rfl,fJ s hs]
    simp only [Option.bind_some]
    by_cases c2:bV s
    · rw [decide_eq_true c2]
      simp only [Bool.not_true,Bool.false_eq_true,if_false]
      obtain ⟨u5,u6⟩:=u4 c2
      rw [u5]
      simp only [Option.bind_some]
      have:qG r u=some t:=by
        have:=t1
        unfold dJ at this
        rw [fJ r hr,fJ u (by have:=rA u2;omega),decide_eq_true c1,decide_eq_true u6] at this
        simpa using this
      rw [this]
      refine ⟨t,rfl,t3,fun v1 v2=>?_⟩
      unfold iI
      rw [u3 v2]
      simp only [Option.bind_some]
      rw [t4 v1 u2];rfl
    · rw [decide_eq_false c2]
      refine ⟨pT,rfl,aB6,fun v1 v2=>?_⟩
      unfold iI
      have e:u=pT:=by
        have:=u1
        unfold lE at this
        rw [fJ s hs,decide_eq_false c2] at this
        simpa [pT] using this.symm
      rw [u3 v2]
      simp only [Option.bind_some]
      unfold cW
      rw [iY v1,iY u2,decide_eq_true c1,decide_eq_false (by rw [e];exact aAW)];rfl
  · rw [decide_eq_false c1]
    refine ⟨pT,rfl,aB6,fun v1 v2=>?_⟩
    unfold iI
    rw [u3 v2]
    simp only [Option.bind_some]
    unfold cW
    rw [iY v1,decide_eq_false c1];rfl
noncomputable def RA (r s:Rat):Rat:=(dJ r s).getD pT
noncomputable def RM (r s:Rat):Rat:=(eD r s).getD pT
noncomputable def RD (r s:Rat):Rat:=(iE r s).getD pT
noncomputable def RS (r s:Rat):Rat:=(jR r s).getD pT
noncomputable def RN (r:Rat):Rat:=(lE r).getD pT
theorem VZs {r:Rat} (h:VZ r):aQ r≤4294967296:=by have:=rA h;omega
theorem aOk {r s:Rat} (hr:aQ r≤4294967296) (hs:aQ s≤4294967296):dJ r s=some (RA r s)∧VZ (RA r s):=by
  obtain ⟨t,t1,t3,t4⟩:=aDu r s hr hs
  have:RA r s=t:=by unfold RA;rw [t1];rfl
  rw [this];exact ⟨t1,t3⟩
theorem aCM {r s:Rat} (hr:VZ r) (hs:VZ s):dJ r s=some (RA r s)∧cW r s=some (RA r s)∧VZ (RA r s):=by
  obtain ⟨t,t1,t3,t4⟩:=aDu r s (VZs hr) (VZs hs)
  have:RA r s=t:=by unfold RA;rw [t1];rfl
  rw [this];exact ⟨t1,t4 hr hs,t3⟩
theorem aGc {r s:Rat} (hr:VZ r) (hs:VZ s):eD r s=some (RM r s)∧dK r s=some (RM r s)∧VZ (RM r s):=by
  obtain ⟨t,t1,t3,t4⟩:=aL5 r s (VZs hr) (VZs hs)
  have:RM r s=t:=by unfold RM;rw [t1];rfl
  rw [this];exact ⟨t1,t4 hr hs,t3⟩
theorem aGz {r s:Rat} (hr:VZ r) (hs:VZ s):iE r s=some (RD r s)∧fS r s=some (RD r s)∧VZ (RD r s):=by
  obtain ⟨t,t1,t3,t4⟩:=aL6 r s (VZs hr) (VZs hs)
  have:RD r s=t:=by unfold RD;rw [t1];rfl
  rw [this];exact ⟨t1,t4 hr hs,t3⟩
theorem aIR {r s:Rat} (hr:VZ r) (hs:VZ s):jR r s=some (RS r s)∧iI r s=some (RS r s)∧VZ (RS r s):=by
  obtain ⟨t,t1,t3,t4⟩:=aL4 r s (VZs hr) (VZs hs)
  have:RS r s=t:=by unfold RS;rw [t1];rfl
  rw [this];exact ⟨t1,t4 hr hs,t3⟩
theorem aL7 {r:Rat} (hr:VZ r):lE r=some (RN r)∧jU r=some (RN r)∧VZ (RN r):=by
  obtain ⟨t,t1,t3,t4,_⟩:=aIQ r (VZs hr)
  have:RN r=t:=by unfold RN;rw [t1];rfl
  rw [this];exact ⟨t1,t4 hr,t3⟩
theorem aJN {n:Int} {d:Nat} (h:bV ⟨big n,aA d⟩):0 < yY ⟨big n,aA d⟩↔0 < n:=by
  unfold yY
  rw [if_pos h]
  simp only [aAC,aAB,decide_eq_true_eq]
  by_cases c:n=0
  · subst c;simp [aA]
  · rw [if_neg (eC (by omega))]
    by_cases h:n < 0
    · rw [if_pos h];omega
    · rw [if_neg h];omega
theorem aMB {x y:Nat} (hx:0 < x) (h:bV (mkR false x y)):0 < yY (mkR false x y):=by
  unfold yY
  rw [if_pos h]
  unfold mkR at h ⊢
  by_cases c:y=0
  · rw [if_pos c] at h;exact absurd h aAW
  · rw [if_neg c] at h ⊢
    by_cases c2:24 < (aA (x / Nat.gcd x y)).length∨24 < (aA (y / Nat.gcd x y)).length
    · rw [if_pos c2] at h;exact absurd h aAW
    · rw [if_neg c2] at h ⊢
      have hg:0 < Nat.gcd x y:=Nat.gcd_pos_of_pos_left y hx
      have:0 < x / Nat.gcd x y:=Nat.div_pos (Nat.gcd_le_left y hx) hg
      simp only [Bool.false_and,Bool.false_eq_true,if_false]
      rw [if_neg (eC (by omega))];omega
theorem aNq {r s:Rat} (hr:0 < yY r) (hs:0 < yY s) (h:bV (RA r s)):0 < yY (RA r s):=by
  have r1:=aA0 hr
  have s1:=aA0 hs
  obtain ⟨n,d,e1,e2,e3,e4,_⟩:=aAk r1
  obtain ⟨m,e,g1,g2,g3,g4,_⟩:=aAk s1
  subst e1;subst g1
  have hn:=(aJN r1).1 hr
  have hm:=(aJN s1).1 hs
  have q:=(aCM (.inl r1) (.inl s1)).2.1
  rw [aIa n d m e e2 g2 e3 e4 g3 g4] at q
  have q:=Option.some.inj q
  rw [← q] at h ⊢
  unfold aKW at h ⊢
  have p1:0 < n*(e:Int):=Int.mul_pos hn (by omega)
  have p2:0 < m*(d:Int):=Int.mul_pos hm (by omega)
  rw [decide_eq_false (by omega)] at h ⊢
  exact aMB (by omega) h
end Go.Ev
/- Copies of links; the links of a tree. -/
namespace Go.Ev
set_option linter.all false
theorem qF (x:Rat) (h:aQ x≤4294967296):jM x=some x:=by
  unfold aQ dN dX at h
  rw [kC,kC] at h
  unfold jM
  rw [aR (by simp;omega),aR (by simp;omega)]
  simp only [Option.bind_some,aP,List.nil_append]
theorem tY (x:Link) (h:bH x≤4294967296):kZ x=some x:=by
  unfold bH at h
  unfold kZ
  rw [qF _ (by omega)]
  simp only [Option.bind_some]
  rw [qF _ (by omega)]
  simp only [Option.bind_some]
  rw [qF _ (by omega)]
  simp only [Option.bind_some]
theorem yX (l:List Link) (h:aK l≤4294967296):nM l=some l:=by
  unfold aK at h
  have hl:=dR bH l
  unfold nM
  have:=zX (step:=qD l) l (fun k t=>((k:Int),t)) (fun t=>t) (fun k t hk ht=>by
    have he:=gO (w:=bH) (List.getElem_mem hk)
    unfold qD
    simp only []
    rw [if_pos (by omega),aH hk]
    simp only [Option.bind_some]
    rw [tY _ (by omega)]
    simp only [Option.bind_some]
    rw [aR (by omega),wi (by omega)];rfl) (fun t ht=>by unfold qD;simp only [];rw [if_neg (by omega)])
  rw [show ((0:Nat):Int)=0 from rfl] at this
  rw [this];rfl
theorem aAM (l:List Int) (h:l.length≤4294967296):eJ l=some l:=by
  unfold eJ
  rw [aR (by simp;omega)]
  simp only [Option.bind_some,aP,List.nil_append]
theorem iJ (x:Rat) (h:aQ x≤4294967296):fO x=some x:=by
  unfold aQ dN dX at h
  rw [kC,kC] at h
  unfold fO
  rw [aAM _ (by omega)]
  simp only [Option.bind_some]
  rw [aAM _ (by omega)]
  simp only [Option.bind_some]
theorem aEu (x:Link) (h:bH x≤4294967296):sQ x=some x:=by
  unfold bH at h
  unfold sQ
  rw [iJ _ (by omega)]
  simp only [Option.bind_some]
  rw [iJ _ (by omega)]
  simp only [Option.bind_some]
  rw [iJ _ (by omega)]
  simp only [Option.bind_some]
theorem rN (l:List Link) (h:aK l≤4294967296):iK l=some l:=by
  unfold aK at h
  have hl:=dR bH l
  unfold iK
  have:=zX (step:=lT l) l (fun k t=>((k:Int),t)) (fun t=>t) (fun k t hk ht=>by
    have he:=gO (w:=bH) (List.getElem_mem hk)
    unfold lT
    simp only []
    rw [if_pos (by omega),aH hk]
    simp only [Option.bind_some]
    rw [aEu _ (by omega)]
    simp only [Option.bind_some]
    rw [aR (by omega),wi (by omega)];rfl) (fun t ht=>by unfold lT;simp only [];rw [if_neg (by omega)])
  rw [show ((0:Nat):Int)=0 from rfl] at this
  rw [this];rfl
def jA (l:List TreeNode):List Link:=(l.map (fun n=>n.fOwn)).flatten
theorem aBL:∀ l:List TreeNode,aK (jA l)≤szL aS l
  | []=>by simp [jA,aK,aED]
  | y::l=>by
    have:=aBL l
    have hn:aS y=aK y.fOwn+aL y.fCond+aK y.fMessages+aQ y.fEnergy:=rfl
    unfold jA aK at *
    rw [List.map_cons,List.flatten_cons,aHg,rV]
    omega
theorem aA4 (l:List TreeNode) (k:Nat) (hk:k < l.length):jA (l.take (k+1))=jA (l.take k)++l[k].fOwn:=by
  unfold jA
  rw [List.take_succ,List.getElem?_eq_getElem hk,List.map_append,List.flatten_append]
  simp
theorem aK3 {α:Type} (w:α→Nat) (l:List α) (k:Nat):szL w (l.take k)≤szL w l:=by
  have:=aHg w (l.take k) (l.drop k)
  rw [List.take_append_drop] at this
  omega
theorem aJd (l:List TreeNode) (h:szL aS l≤4294967296) (k:Nat):(jA (l.take k)).length≤4294967296:=by
  have h1:=aBL (l.take k)
  have h2:=aK3 aS l k
  have h3:=dR bH (jA (l.take k))
  unfold aK at h1
  omega
end Go.Ev
/- Links: validity, order, merging; adding links to a link set, both programs. -/
namespace Go.Ev
set_option linter.all false
def ValidL (l:Link):Prop:=(0≤l.fA∧l.fA≤9)∧(0≤l.fB∧l.fB≤9)∧l.fA < l.fB∧0 < yY l.fWeight∧bV l.fDX∧bV l.fDY
instance (l:Link):Decidable (ValidL l):=by unfold ValidL;infer_instance
theorem iA (l:Link) (h:bH l≤4294967296):eO l=some (decide (ValidL l))∧gW l=some (decide (ValidL l)):=by
  unfold bH at h
  obtain ⟨g1,g2⟩:=aDR l.fWeight (by omega)
  have a1:=aBB l.fDX (by omega)
  have a2:=aBB l.fDY (by omega)
  have b1:=fJ l.fDX (by omega)
  have b2:=fJ l.fDY (by omega)
  unfold eO gW ValidL
  simp only [aIw,aGT,g1,g2,a1,a2,b1,b2,Option.bind_some]
  by_cases A:0≤l.fA∧l.fA≤9
  · by_cases B:0≤l.fB∧l.fB≤9
    · by_cases C:l.fA < l.fB
      · by_cases D:0 < yY l.fWeight
        · by_cases E:bV l.fDX
          · by_cases F:bV l.fDY <;> simp [A,B,C,D,E,F]
          · simp [A,B,C,D,E]
        · simp [A,B,C,D]
      · simp [A,B,C]
    · simp [A,B]
  · simp [A]
theorem ValidL.vz {l:Link} (h:ValidL l):VZ l.fWeight∧VZ l.fDX∧VZ l.fDY:=⟨.inl (aA0 h.2.2.2.1),.inl h.2.2.2.2.1,.inl h.2.2.2.2.2⟩
theorem ValidL.sz {l:Link} (h:ValidL l):bH l≤144:=by
  obtain ⟨h1,h2,h3⟩:=h.vz
  have:=rA h1
  have:=rA h2
  have:=rA h3
  unfold bH;omega
theorem aDy {α:Type} {w:α→Nat} {c:Nat}:∀ {l:List α},(∀ x ∈ l,w x≤c)→szL w l≤(c+1)*l.length
  | [],_=>by simp [aED]
  | y::l,h=>by
    have h1:=h y (by simp)
    have h2:=aDy (l:=l) (c:=c) (fun x hx=>h x (by simp [hx]))
    rw [rV,List.length_cons,Nat.mul_add,Nat.mul_one];omega
def fY (k l:Link):Prop:=k.fA < l.fA∨(k.fA=l.fA∧k.fB < l.fB)
instance (k l:Link):Decidable (fY k l):=by unfold fY;infer_instance
theorem aGf (k l:Link):nT k l=some (decide (fY k l)):=by
  unfold nT fY
  by_cases A:k.fA < l.fA
  · simp [A]
  · by_cases B:k.fA=l.fA
    · simp [A,B]
    · simp [A,B]
theorem aIU (k l:Link):jZ k l=some (decide (fY k l)):=aGf k l
theorem aBj {a b c:Link} (h:fY a b) (g:fY b c):fY a c:=by unfold fY at *;omega
noncomputable def sqR (x y:Rat):Rat:=RA (RM x x) (RM y y)
noncomputable def aC4 (k l:Link):Link:=⟨k.fA,k.fB,RA k.fWeight l.fWeight,RD (RA (RM k.fWeight k.fDX) (RM l.fWeight l.fDX)) (RA k.fWeight l.fWeight),RD (RA (RM k.fWeight k.fDY) (RM l.fWeight l.fDY)) (RA k.fWeight l.fWeight)⟩
noncomputable def aHC (k l:Link):Rat:=RM (RD (RM k.fWeight l.fWeight) (RA k.fWeight l.fWeight)) (sqR (RS k.fDX l.fDX) (RS k.fDY l.fDY))
def aA7 (k l:Link):Prop:=bV (aC4 k l).fWeight∧bV (aC4 k l).fDX∧bV (aC4 k l).fDY∧bV (aHC k l)
noncomputable instance (k l:Link):Decidable (aA7 k l):=by unfold aA7;infer_instance
def aGB:Link:=Link.mk 0 0 (Rat.mk (BigInt.mk false ([])) ([])) (Rat.mk (BigInt.mk false ([])) ([])) (Rat.mk (BigInt.mk false ([])) ([]))
theorem aOh {x y:Rat} (hx:VZ x) (hy:VZ y):oP x y=some (sqR x y)∧lQ x y=some (sqR x y)∧VZ (sqR x y):=by
  obtain ⟨a1,a2,a3⟩:=aGc hx hx
  obtain ⟨b1,b2,b3⟩:=aGc hy hy
  obtain ⟨c1,c2,c3⟩:=aCM a3 b3
  unfold oP lQ sqR
  simp only [a1,a2,b1,b2,c1,c2,Option.bind_some]
  exact ⟨trivial,trivial,c3⟩
theorem aIk {k l:Link} (hk:ValidL k) (hl:ValidL l) (h:aA7 k l):ValidL (aC4 k l) :=
  ⟨hk.1,hk.2.1,hk.2.2.1,aNq hk.2.2.2.1 hl.2.2.2.1 h.1,h.2.1,h.2.2.1⟩
theorem aJ3 {k l:Link} (hk:ValidL k) (hl:ValidL l) (hA:k.fA=l.fA) (hB:k.fB=l.fB) :
    oT k l=some (if aA7 k l then (aC4 k l,aHC k l,true) else (aGB,pT,false))∧pG k l=some (if aA7 k l then (aC4 k l,aHC k l,true) else (aGB,pT,false))∧VZ (aHC k l):=by
  obtain ⟨k1,k2,k3⟩:=hk.vz
  obtain ⟨l1,l2,l3⟩:=hl.vz
  obtain ⟨a1,a2,a3⟩:=aCM k1 l1
  obtain ⟨b1,b2,b3⟩:=aGc k1 k2
  obtain ⟨c1,c2,c3⟩:=aGc l1 l2
  obtain ⟨d1,d2,d3⟩:=aCM b3 c3
  obtain ⟨e1,e2,e3⟩:=aGz d3 a3
  obtain ⟨f1,f2,f3⟩:=aGc k1 k3
  obtain ⟨g1,g2,g3⟩:=aGc l1 l3
  obtain ⟨i1,i2,i3⟩:=aCM f3 g3
  obtain ⟨j1,j2,j3⟩:=aGz i3 a3
  obtain ⟨m1,m2,m3⟩:=aGc k1 l1
  obtain ⟨n1,n2,n3⟩:=aGz m3 a3
  obtain ⟨o1,o2,o3⟩:=aIR k2 l2
  obtain ⟨p1,p2,p3⟩:=aIR k3 l3
  obtain ⟨q1,q2,q3⟩:=aOh o3 p3
  obtain ⟨r1,r2,r3⟩:=aGc n3 q3
  have v1:=(iA k (by have:=hk.sz;omega)).1
  have v2:=(iA l (by have:=hl.sz;omega)).1
  have vm:=(iA (aC4 k l) (by
    have:=rA a3;have:=rA e3;have:=rA j3
    unfold bH aC4;simp only [];omega)).1
  refine ⟨?_,?_,r3⟩
  · unfold oT
    rw [v1,v2,decide_eq_true hk,decide_eq_true hl]
    simp only [Option.bind_some,if_true,hA,hB,ne_eq,not_true_eq_false,if_false,decide_false,Bool.false_eq_true]
    simp only [a1,b1,c1,d1,e1,f1,g1,i1,j1,m1,n1,o1,p1,q1,r1,Option.bind_some]
    rw [← hA,← hB]
    have e:(Link.mk k.fA k.fB (RA k.fWeight l.fWeight) (RD (RA (RM k.fWeight k.fDX) (RM l.fWeight l.fDX)) (RA k.fWeight l.fWeight)) (RD (RA (RM k.fWeight k.fDY) (RM l.fWeight l.fDY)) (RA k.fWeight l.fWeight)))=aC4 k l:=rfl
    rw [e,vm]
    have e2:RM (RD (RM k.fWeight l.fWeight) (RA k.fWeight l.fWeight)) (sqR (RS k.fDX l.fDX) (RS k.fDY l.fDY))=aHC k l:=rfl
    rw [e2,fJ (aHC k l) (VZs r3)]
    simp only [Option.bind_some]
    by_cases O:aA7 k l
    · rw [if_pos O,decide_eq_true (aIk hk hl O),decide_eq_true O.2.2.2];rfl
    · rw [if_neg O]
      by_cases V:ValidL (aC4 k l)
      · have:¬bV (aHC k l):=fun h=>O ⟨aA0 V.2.2.2.1,V.2.2.2.2.1,V.2.2.2.2.2,h⟩
        rw [decide_eq_true V,decide_eq_false this];rfl
      · rw [decide_eq_false V];rfl
  · unfold pG
    simp only [a2,b2,c2,d2,e2,f2,g2,i2,j2,m2,n2,o2,p2,q2,r2,Option.bind_some,iY a3,iY e3,iY j3,iY r3]
    unfold aA7 aC4 aHC
    simp only []
    by_cases A:bV (RA k.fWeight l.fWeight)
    · by_cases B:bV (RD (RA (RM k.fWeight k.fDX) (RM l.fWeight l.fDX)) (RA k.fWeight l.fWeight))
      · by_cases C:bV (RD (RA (RM k.fWeight k.fDY) (RM l.fWeight l.fDY)) (RA k.fWeight l.fWeight))
        · by_cases D:bV (RM (RD (RM k.fWeight l.fWeight) (RA k.fWeight l.fWeight)) (sqR (RS k.fDX l.fDX) (RS k.fDY l.fDY))) <;> simp [A,B,C,D,aGB,pT]
        · simp [A,B,C,aGB,pT]
      · simp [A,B,aGB,pT]
    · simp [A,aGB,pT]
def LSet (s:List Link):Prop:=(∀ x ∈ s,ValidL x)∧s.Pairwise fY
noncomputable instance (s:List Link):Decidable (LSet s):=Classical.propDecidable _
theorem aJ8:∀ (l:List Int) (a N:Int),l.Pairwise (· < ·)→(∀ x ∈ l,a≤x∧x < N)→(l.length:Int)≤max 0 (N - a)
  | [],a,N,_,_=>by rw [List.length_nil];omega
  | x::l,a,N,h,hb=>by
    rw [List.pairwise_cons] at h
    have h1:=hb x (by simp)
    have:=aJ8 l (x+1) N h.2 (fun y hy=>⟨by have:=h.1 y hy;omega,(hb y (by simp [hy])).2⟩)
    rw [List.length_cons];omega
theorem LSet.len {s:List Link} (h:LSet s):s.length≤100:=by
  have:=aJ8 (s.map fun l=>l.fA*10+l.fB) 0 100 (by
    rw [List.pairwise_map]
    refine List.Pairwise.imp_of_mem (fun {a b} ha hb hr=>?_) h.2
    have h1:=h.1 a ha
    have h2:=h.1 b hb
    unfold ValidL at h1 h2
    unfold fY at hr
    omega) (by
    intro x hx
    obtain ⟨l,hl,rfl⟩:=List.mem_map.1 hx
    have h1:=h.1 l hl
    unfold ValidL at h1
    omega)
  rw [List.length_map] at this;omega
theorem aDx {s:List Link} (h:∀ x ∈ s,ValidL x):aK s≤145*s.length:=aDy (fun x hx=>(h x hx).sz)
theorem LSet.sz {s:List Link} (h:LSet s):aK s≤14500:=by
  have:=aDx h.1
  have:=h.len
  omega
def lsF:Option Link→List Link→Prop
  | _,[]=>True
  | p,x::r=>ValidL x∧(∀ q,p=some q→fY q x)∧lsF (some x) r
noncomputable instance (p:Option Link) (s:List Link):Decidable (lsF p s):=Classical.propDecidable _
theorem aJ4:∀ (s:List Link) (p:Option Link),lsF p s↔LSet s∧∀ q,p=some q→∀ x ∈ s,fY q x
  | [],p=>by simp [lsF,LSet]
  | x::r,p=>by
    rw [lsF,aJ4 r (some x)]
    unfold LSet
    rw [List.pairwise_cons]
    constructor
    · rintro ⟨h1,h2,⟨h3,h4⟩,h5⟩
      refine ⟨⟨fun y hy=>?_,fun y hy=>h5 x rfl y hy,h4⟩,fun q hq y hy=>?_⟩
      · rcases List.mem_cons.1 hy with rfl | hy
        · exact h1
        · exact h3 y hy
      · rcases List.mem_cons.1 hy with rfl | hy
        · exact h2 q hq
        · exact aBj (h2 q hq) (h5 x rfl y hy)
    · rintro ⟨⟨h1,h2,h3⟩,h4⟩
      exact ⟨h1 x (by simp),fun q hq=>h4 q hq x (by simp),⟨fun y hy=>h1 y (by simp [hy]),h3⟩,fun q hq y hy=>by cases hq;exact h2 y hy⟩
theorem lW (s:List Link) (h:aK s≤4294967296):dO s=some (decide (LSet s)):=by
  unfold aK at h
  have hl:=dR bH s
  have main:∀ m k:Nat,m+k=s.length→∀ p:Option Link,(p=if k=0 then none else s[k - 1]?)→lp (eT s) (k:Int)=some (if lsF p (s.drop k) then .inl () else .inr false):=by
    intro m
    induction m with
    | zero =>
      intro k hk p _
      rw [List.drop_eq_nil_of_le (by omega),if_pos (by simp [lsF])]
      exact aM (by unfold eT;rw [if_neg (by omega)])
    | succ m ih =>
      intro k hk p hp
      have hlt:k < s.length:=by omega
      have hz:=gO (w:=bH) (List.getElem_mem hlt)
      have v:=(iA s[k] (by omega)).1
      rw [List.drop_eq_getElem_cons hlt]
      have st:eT s (k:Int)=some (if ValidL s[k]∧(∀ q,p=some q→fY q s[k]) then .inl ((k+1:Nat):Int) else .inr (.inr false)):=by
        have w1:IntKind.i64.wrap ((k:Int)+1)=((k+1:Nat):Int):=by rw [wi (by omega)];omega
        unfold eT
        rw [if_pos (by omega),aH hlt]
        simp only [Option.bind_some,v,w1]
        by_cases V:ValidL s[k]
        · rw [decide_eq_true V,if_pos rfl]
          by_cases K:k=0
          · subst K
            rw [if_pos rfl] at hp;subst hp
            simp [V]
          · have hlt2:k - 1 < s.length:=by omega
            rw [if_neg K,List.getElem?_eq_getElem hlt2] at hp;subst hp
            have w2:IntKind.i64.wrap ((k:Int) - 1)=((k - 1:Nat):Int):=by rw [wi (by omega)];omega
            rw [if_pos (by omega),w2,aH hlt2]
            simp only [Option.bind_some,aGf]
            by_cases L:fY s[k - 1] s[k]
            · simp [V,L]
            · simp [L]
        · rw [decide_eq_false V];simp [V]
      by_cases G:ValidL s[k]∧(∀ q,p=some q→fY q s[k])
      · rw [if_pos G] at st
        rw [bI st,ih (k+1) (by omega) (some s[k]) (by rw [if_neg (by omega),Nat.add_sub_cancel,List.getElem?_eq_getElem hlt])]
        have:lsF p (s[k]::s.drop (k+1))↔lsF (some s[k]) (s.drop (k+1)):=by rw [lsF];exact ⟨fun h=>h.2.2,fun h=>⟨G.1,G.2,h⟩⟩
        simp only [this]
      · rw [if_neg G] at st
        rw [aM st,if_neg]
        rw [lsF];exact fun h=>G ⟨h.1,h.2.1⟩
  have:=main s.length 0 (by omega) none (by simp)
  unfold dO
  rw [show ((0:Nat):Int)=0 from rfl,List.drop_zero] at this
  rw [this]
  have e:lsF none s↔LSet s:=by rw [aJ4];exact ⟨fun h=>h.1,fun h=>⟨h,fun q hq=>by cases hq⟩⟩
  by_cases c:LSet s
  · rw [if_pos (e.2 c),decide_eq_true c];rfl
  · rw [if_neg (fun h=>c (e.1 h)),decide_eq_false c];rfl
def eX (l:Link):List Link→Nat
  | []=>0
  | y::r=>if fY y l then eX l r+1 else 0
theorem aJU (l:Link):∀ s:List Link,eX l s≤s.length
  | []=>Nat.le_refl _
  | y::r=>by
    have:=aJU l r
    rw [eX];split <;> simp <;> omega
theorem aDD (l:Link):∀ s:List Link,∀ x ∈ s.take (eX l s),fY x l
  | [],x,h=>by simp [eX] at h
  | y::r,x,h=>by
    rw [eX] at h
    by_cases c:fY y l
    · rw [if_pos c,List.take_succ_cons] at h
      rcases List.mem_cons.1 h with rfl | h
      · exact c
      · exact aDD l r x h
    · rw [if_neg c] at h;simp at h
theorem aBK (l:Link):∀ (s:List Link) (h:eX l s < s.length),¬fY s[eX l s] l
  | [],h=>by simp at h
  | y::r,h=>by
    by_cases c:fY y l
    · have e:eX l (y::r)=eX l r+1:=by rw [eX,if_pos c]
      have h':eX l r < r.length:=by rw [e] at h;simpa using h
      have:=aBK l r h'
      simpa [e] using this
    · have e:eX l (y::r)=0:=by rw [eX,if_neg c]
      simpa [e] using c
theorem aLq (s:List Link) (l:Link) (h:s.length≤4294967296):lp (gL l s) 0=some ((eX l s:Nat):Int):=by
  have main:∀ m k:Nat,m+k=s.length→lp (gL l s) (k:Int)=some ((k+eX l (s.drop k):Nat):Int):=by
    intro m
    induction m with
    | zero =>
      intro k hk
      rw [List.drop_eq_nil_of_le (by omega)]
      refine aM ?_
      unfold gL
      rw [if_neg (by omega)];rfl
    | succ m ih =>
      intro k hk
      have hlt:k < s.length:=by omega
      have w1:IntKind.i64.wrap ((k:Int)+1)=((k+1:Nat):Int):=by rw [wi (by omega)];omega
      rw [List.drop_eq_getElem_cons hlt,eX]
      have st:gL l s (k:Int)=some (if fY s[k] l then .inl ((k+1:Nat):Int) else .inr (k:Int)):=by
        unfold gL
        rw [if_pos (by omega),aH hlt]
        simp only [Option.bind_some,aGf,w1]
        by_cases L:fY s[k] l <;> simp [L]
      by_cases L:fY s[k] l
      · rw [if_pos L] at st ⊢
        rw [bI st,ih (k+1) (by omega)]
        congr 2;omega
      · rw [if_neg L] at st ⊢
        rw [aM st];rfl
  have:=main s.length 0 (by omega)
  simpa using this
noncomputable def aEz (s:List Link) (l:Link):Option (List Link × Rat) :=
  if h:eX l s < s.length then
    if fY l s[eX l s] then some (s.take (eX l s)++[l]++s.drop (eX l s),xU 0)
    else if aA7 s[eX l s] l then some (s.take (eX l s)++[aC4 s[eX l s] l]++s.drop (eX l s+1),aHC s[eX l s] l) else none
  else some (s.take (eX l s)++[l]++s.drop (eX l s),xU 0)
def pk:Option (List Link × Rat)→List Link × Rat × Bool
  | some (s,e)=>(s,e,true)
  | none=>([],pT,false)
theorem aGh {s:List Link} {m:Link} {p q:Nat} (hs:LSet s) (hm:ValidL m) (h1:∀ x ∈ s.take p,fY x m) (h2:∀ y ∈ s.drop q,fY m y):LSet (s.take p++[m]++s.drop q):=by
  refine ⟨fun x hx=>?_,?_⟩
  · rw [List.mem_append,List.mem_append,List.mem_singleton] at hx
    rcases hx with (hx | rfl) | hx
    · exact hs.1 x (List.mem_of_mem_take hx)
    · exact hm
    · exact hs.1 x (List.mem_of_mem_drop hx)
  · rw [List.append_assoc,List.pairwise_append]
    refine ⟨hs.2.sublist (List.take_sublist _ _),?_,fun a ha b hb=>?_⟩
    · rw [List.singleton_append,List.pairwise_cons]
      exact ⟨h2,hs.2.sublist (List.drop_sublist _ _)⟩
    · rw [List.singleton_append] at hb
      rcases List.mem_cons.1 hb with rfl | hb
      · exact h1 a ha
      · exact aBj (h1 a ha) (h2 b hb)
theorem aNd {s:List Link} (h:s.Pairwise fY) {p:Nat} (hp:p < s.length):(∀ x ∈ s.take p,fY x s[p])∧∀ y ∈ s.drop (p+1),fY s[p] y:=by
  have e:s=s.take p++(s[p]::s.drop (p+1)):=by rw [← List.drop_eq_getElem_cons hp,List.take_append_drop]
  rw [e,List.pairwise_append,List.pairwise_cons] at h
  exact ⟨fun x hx=>h.2.2 x hx _ List.mem_cons_self,h.2.1.1⟩
theorem aHN {s:List Link} {l:Link} (hs:LSet s) (hl:ValidL l) {s':List Link} {e:Rat} (h:aEz s l=some (s',e)):LSet s'∧VZ e:=by
  unfold aEz at h
  have z:VZ (xU 0):=.inl (aCr 0 (by omega))
  by_cases c:eX l s < s.length
  · rw [dif_pos c] at h
    obtain ⟨g1,g2⟩:=aNd hs.2 c
    by_cases c2:fY l s[eX l s]
    · rw [if_pos c2] at h;cases h
      refine ⟨aGh hs hl (aDD l s) (fun y hy=>?_),z⟩
      rw [List.drop_eq_getElem_cons c] at hy
      rcases List.mem_cons.1 hy with rfl | hy
      · exact c2
      · exact aBj c2 (g2 y hy)
    · rw [if_neg c2] at h
      have hv:=hs.1 _ (List.getElem_mem c)
      have nl:=aBK l s c
      have hA:s[eX l s].fA=l.fA∧s[eX l s].fB=l.fB:=by unfold fY at c2 nl;omega
      by_cases O:aA7 s[eX l s] l
      · rw [if_pos O] at h;cases h
        exact ⟨aGh hs (aIk hv hl O) g1 g2,(aJ3 hv hl hA.1 hA.2).2.2⟩
      · rw [if_neg O] at h;cases h
  · rw [dif_neg c] at h;cases h
    refine ⟨aGh hs hl (aDD l s) (fun y hy=>?_),z⟩
    rw [List.drop_eq_nil_of_le (by omega)] at hy;cases hy
theorem aHO (s:List Link) (l:Link):xA s l=gL l s:=rfl
theorem tK {α:Type} (x:α):aZ x=some x:=rfl
theorem aG8 {s:List Link} {l:Link} (hs:LSet s) (hl:ValidL l):nV s l=some (pk (aEz s l))∧uM s l=some (pk (aEz s l)):=by
  have hlen:=hs.len
  have hp:=aJU l s
  have v:=(iA l (by have:=hl.sz;omega)).1
  have i1:=lW s (by have:=hs.sz;omega)
  have c1:=yX s (by have:=hs.sz;omega)
  have c2:=tY l (by have:=hl.sz;omega)
  have lp1:=aLq s l (by omega)
  have rf1:eI 0=some (xU 0):=lF 0 (by omega)
  have rf2:eK 0=some (xU 0):=lV 0 (by omega)
  have s1:sub s 0 ((eX l s:Nat):Int)=some (s.take (eX l s)):=by rw [vQ _ _ _ (by omega)];simp
  have s2:sub s ((eX l s:Nat):Int) (s.length:Int)=some (s.drop (eX l s)):=by
    rw [vQ _ _ _ (by omega)];congr 1
    rw [List.take_of_length_le];rfl
    rw [List.length_drop];omega
  have t1:(s.take (eX l s)).length≤100:=by rw [List.length_take];omega
  have t2:(s.drop (eX l s)).length≤100:=by rw [List.length_drop];omega
  unfold nV uM aEz
  rw [aHO,i1,v,decide_eq_true hs,decide_eq_true hl,lp1]
  simp only [Option.bind_some,if_true,Bool.not_true,Bool.false_eq_true,if_false,c1,lp1,s1,s2,tK,List.nil_append]
  rw [aR (by simp only [List.length_nil,Nat.zero_add];omega)]
  simp only [Option.bind_some]
  by_cases c:eX l s < s.length
  · have c':((eX l s:Nat):Int) < (s.length:Int):=by omega
    have c'':¬((eX l s:Nat):Int)=(s.length:Int):=by omega
    rw [if_pos c',if_neg c'',dif_pos c,aH c]
    simp only [Option.bind_some,aGf,aIU]
    by_cases L:fY l s[eX l s]
    · rw [if_pos L,decide_eq_true L]
      simp only [Bool.not_true,Bool.false_eq_true,if_false,if_true,c2,Option.bind_some,rf1,rf2]
      rw [aR (by omega)]
      simp only [Option.bind_some]
      rw [aR (by rw [List.length_append,List.length_singleton];omega)]
      exact ⟨rfl,rfl⟩
    · rw [if_neg L,decide_eq_false L]
      have hv:=hs.1 _ (List.getElem_mem c)
      have nl:=aBK l s c
      have hA:s[eX l s].fA=l.fA∧s[eX l s].fB=l.fB:=by unfold fY at L nl;omega
      obtain ⟨m1,m2,m3⟩:=aJ3 hv hl hA.1 hA.2
      simp only [Bool.not_false,if_true,Bool.false_eq_true,if_false,m1,m2,Option.bind_some]
      by_cases O:aA7 s[eX l s] l
      · rw [if_pos O,if_pos O]
        have w1:IntKind.i64.wrap (((eX l s:Nat):Int)+1)=((eX l s+1:Nat):Int):=by rw [wi (by omega)];omega
        have s3:sub s ((eX l s+1:Nat):Int) (s.length:Int)=some (s.drop (eX l s+1)):=by
          rw [vQ _ _ _ (by omega)];congr 1
          rw [List.take_of_length_le];rfl
          rw [List.length_drop];omega
        have t3:(s.drop (eX l s+1)).length≤100:=by rw [List.length_drop];omega
        simp only [if_true,w1,s3,Option.bind_some,iF]
        rw [aR (by omega)]
        simp only [Option.bind_some]
        rw [aR (by rw [List.length_append,List.length_singleton];omega)]
        refine ⟨?_,rfl⟩
        simp only [pk]
        rw [List.set_eq_take_append_cons_drop,if_pos c,List.append_assoc,List.singleton_append]
      · rw [if_neg O,if_neg O]
        exact ⟨rfl,rfl⟩
  · have c':¬((eX l s:Nat):Int) < (s.length:Int):=by omega
    have c'':((eX l s:Nat):Int)=(s.length:Int):=by omega
    rw [if_neg c',if_pos c'',dif_neg c]
    simp only [Option.bind_some,Bool.false_eq_true,if_false,if_true,c2,rf1,rf2]
    rw [aR (by omega)]
    simp only [Option.bind_some]
    rw [aR (by rw [List.length_append,List.length_singleton];omega)]
    exact ⟨rfl,rfl⟩
end Go.Ev
/- Joining links into a link set, both programs. -/
namespace Go.Ev
set_option linter.all false
theorem aNr {r s:Rat} (hr:VZ r) (hs:VZ s) (h:¬bV r):RA r s=pT:=by
  have q:=(aCM hr hs).1
  unfold dJ at q
  rw [fJ r (VZs hr),decide_eq_false h] at q
  simpa [pT] using q.symm
noncomputable def xE:List Link→List Link→Rat→Option (List Link × Rat)
  | [],s,e=>some (s,e)
  | x::r,s,e=>match aEz s x with
    | none=>none
    | some (s',e')=>if bV (RA e e') then xE r s' (RA e e') else none
theorem aIv:∀ (l s:List Link) (e:Rat),(∀ x ∈ l,ValidL x)→LSet s→bV e→∀ s' e',xE l s e=some (s',e')→LSet s'∧bV e'
  | [],s,e,_,hs,he,s',e',h=>by rw [xE] at h;cases h;exact ⟨hs,he⟩
  | x::r,s,e,hv,hs,he,s',e',h=>by
    rw [xE] at h
    cases ha:aEz s x with
    | none=>rw [ha] at h;cases h
    | some t =>
      obtain ⟨s1,e1⟩:=t
      rw [ha] at h
      simp only [] at h
      obtain ⟨g1,g2⟩:=aHN hs (hv x (by simp)) ha
      by_cases c:bV (RA e e1)
      · rw [if_pos c] at h
        exact aIv r s1 _ (fun y hy=>hv y (by simp [hy])) g1 c s' e' h
      · rw [if_neg c] at h;cases h
noncomputable instance (l:List Link):Decidable (∀ x ∈ l,ValidL x):=Classical.propDecidable _
def aCn:List Link × Rat × Bool:=([],pT,false)
theorem aJo (l:List Link) (hv:∀ x ∈ l,ValidL x) (hl:l.length≤4294967296):∀ m k:Nat,m+k=l.length→∀ s e,LSet s→VZ e →
    lp (gJ l) (s,(k:Int),e)=some (match xE (l.drop k) s e with | some t=>.inl t | none=>.inr aCn):=by
  intro m
  induction m with
  | zero =>
    intro k hk s e hs he
    rw [List.drop_eq_nil_of_le (by omega),xE]
    exact aM (by unfold gJ;simp only [];rw [if_neg (by omega)])
  | succ m ih =>
    intro k hk s e hs he
    have hlt:k < l.length:=by omega
    have hx:=hv _ (List.getElem_mem hlt)
    have w1:IntKind.i64.wrap ((k:Int)+1)=((k+1:Nat):Int):=by rw [wi (by omega)];omega
    have a:=(aG8 hs hx).2
    rw [List.drop_eq_getElem_cons hlt,xE]
    cases ha:aEz s l[k] with
    | none =>
      rw [ha] at a
      have g:=(aCM he aB6).2.1
      refine aM ?_
      unfold gJ
      simp only []
      rw [if_pos (by omega),aH hlt]
      simp only [Option.bind_some,a,pk,g]
      rfl
    | some t =>
      obtain ⟨s1,e1⟩:=t
      rw [ha] at a
      obtain ⟨g1,g2⟩:=aHN hs hx ha
      obtain ⟨_,q2,q3⟩:=aCM he g2
      have st:gJ l (s,(k:Int),e)=some (if bV (RA e e1) then .inl (s1,((k+1:Nat):Int),RA e e1) else .inr (.inr aCn)):=by
        unfold gJ
        simp only []
        rw [if_pos (by omega),aH hlt]
        simp only [Option.bind_some,a,pk,q2,iY q3,if_true,w1]
        by_cases c:bV (RA e e1)
        · simp [c]
        · simp [c,aCn,pT]
      simp only []
      by_cases c:bV (RA e e1)
      · rw [if_pos c] at st ⊢
        rw [bI st]
        exact ih (k+1) (by omega) s1 _ g1 q3
      · rw [if_neg c] at st ⊢
        rw [aM st]
def aLT:(List Link × Rat) ⊕ (List Link × Rat × Bool)→List Link × Rat × Bool
  | .inl d=>if bV d.2 then (d.1,d.2,true) else aCn
  | .inr x=>x
theorem aJn (l:List Link) (hz:aK l≤4294967296):∀ m k:Nat,m+k=l.length→∀ s e,LSet s→VZ e →
    ∃ R,lp (eS l) (s,(k:Int),e)=some R∧(∀ d,R=.inl d→VZ d.2)∧aLT R=pk (if bV e∧(∀ x ∈ l.drop k,ValidL x) then xE (l.drop k) s e else none):=by
  have hl:l.length≤4294967296:=by have:=dR bH l;unfold aK at hz;omega
  intro m
  induction m with
  | zero =>
    intro k hk s e hs he
    refine ⟨.inl (s,e),aM (by unfold eS;simp only [];rw [if_neg (by omega)]),fun d h=>(by cases h;exact he),?_⟩
    rw [List.drop_eq_nil_of_le (by omega),xE]
    by_cases c:bV e
    · simp [aLT,pk,c]
    · simp [aLT,pk,c,aCn]
  | succ m ih =>
    intro k hk s e hs he
    have hlt:k < l.length:=by omega
    have w1:IntKind.i64.wrap ((k:Int)+1)=((k+1:Nat):Int):=by rw [wi (by omega)];omega
    have hxz:bH l[k]≤4294967296:=by have:=gO (w:=bH) (List.getElem_mem hlt);unfold aK at hz;omega
    rw [List.drop_eq_getElem_cons hlt]
    by_cases hx:ValidL l[k]
    · have a:=(aG8 hs hx).1
      rw [xE]
      cases ha:aEz s l[k] with
      | none =>
        rw [ha] at a
        refine ⟨.inr aCn,aM ?_,fun d h=>(by cases h),?_⟩
        · unfold eS
          simp only []
          rw [if_pos (by omega),aH hlt]
          simp only [Option.bind_some,a,pk]
          rfl
        · simp [aLT,pk,aCn]
      | some t =>
        obtain ⟨s1,e1⟩:=t
        rw [ha] at a
        obtain ⟨g1,g2⟩:=aHN hs hx ha
        obtain ⟨q1,_,q3⟩:=aCM he g2
        have st:eS l (s,(k:Int),e)=some (.inl (s1,((k+1:Nat):Int),RA e e1)):=by
          unfold eS
          simp only []
          rw [if_pos (by omega),aH hlt]
          simp only [Option.bind_some,a,pk,q1,if_true,w1]
        obtain ⟨R,r1,r2,r3⟩:=ih (k+1) (by omega) s1 _ g1 q3
        refine ⟨R,by rw [bI st];exact r1,r2,?_⟩
        rw [r3]
        simp only []
        by_cases c:bV e
        · by_cases c2:bV (RA e e1)
          · have:(∀ x ∈ l[k]::l.drop (k+1),ValidL x)↔(∀ x ∈ l.drop (k+1),ValidL x):=⟨fun h x hx'=>h x (List.mem_cons_of_mem _ hx'),fun h x hx'=>by rcases List.mem_cons.1 hx' with rfl | h';exact hx;exact h x h'⟩
            simp only [c,c2,true_and,if_true,this]
          · simp only [c,c2,true_and,false_and,if_false,ite_self]
        · have c2:¬bV (RA e e1):=by rw [aNr he g2 c];exact aAW
          simp only [c,c2,false_and,if_false]
    · refine ⟨.inr aCn,aM ?_,fun d h=>(by cases h),?_⟩
      · unfold eS
        simp only []
        rw [if_pos (by omega),aH hlt]
        have a:nV s l[k]=some aCn:=by
          unfold nV
          rw [lW s (by have:=hs.sz;omega),(iA l[k] hxz).1,decide_eq_true hs,decide_eq_false hx]
          rfl
        simp only [Option.bind_some,a,aCn]
        rfl
      · rw [if_neg (fun h=>hx (h.2 _ List.mem_cons_self))];rfl
theorem aHb (l:List Link) (hz:aK l≤4294967296):pD l=some (decide (∀ x ∈ l,ValidL x)):=by
  have hl:l.length≤4294967296:=by have:=dR bH l;unfold aK at hz;omega
  have main:∀ m k:Nat,m+k=l.length→lp (gU l) (k:Int)=some (if (∀ x ∈ l.drop k,ValidL x) then .inl () else .inr false):=by
    intro m
    induction m with
    | zero =>
      intro k hk
      rw [List.drop_eq_nil_of_le (by omega),if_pos (by simp)]
      exact aM (by unfold gU;rw [if_neg (by omega)])
    | succ m ih =>
      intro k hk
      have hlt:k < l.length:=by omega
      have w1:IntKind.i64.wrap ((k:Int)+1)=((k+1:Nat):Int):=by rw [wi (by omega)];omega
      have v:=(iA l[k] (by have:=gO (w:=bH) (List.getElem_mem hlt);unfold aK at hz;omega)).2
      have st:gU l (k:Int)=some (if ValidL l[k] then .inl ((k+1:Nat):Int) else .inr (.inr false)):=by
        unfold gU
        rw [if_pos (by omega),aH hlt]
        simp only [Option.bind_some,v,w1]
        by_cases c:ValidL l[k] <;> simp [c]
      rw [List.drop_eq_getElem_cons hlt]
      by_cases c:ValidL l[k]
      · rw [if_pos c] at st
        rw [bI st,ih (k+1) (by omega)]
        have:(∀ x ∈ l[k]::l.drop (k+1),ValidL x)↔(∀ x ∈ l.drop (k+1),ValidL x):=⟨fun h x hx'=>h x (List.mem_cons_of_mem _ hx'),fun h x hx'=>by rcases List.mem_cons.1 hx' with rfl | h';exact c;exact h x h'⟩
        simp only [this]
      · rw [if_neg c] at st
        rw [aM st,if_neg (fun h=>c (h _ List.mem_cons_self))]
  have:=main l.length 0 (by omega)
  unfold pD
  rw [show ((0:Nat):Int)=0 from rfl,List.drop_zero] at this
  rw [this]
  by_cases c:∀ x ∈ l,ValidL x
  · rw [if_pos c,decide_eq_true c];rfl
  · rw [if_neg c,decide_eq_false c];rfl
theorem aBF:LSet []:=⟨by simp,List.Pairwise.nil⟩
theorem aBJ:bV (xU 0):=aCr 0 (by omega)
noncomputable def jnP (l:List Link):Option (List Link × Rat):=if ∀ x ∈ l,ValidL x then xE l [] (xU 0) else none
theorem aDO {l s:List Link} {e:Rat} (h:jnP l=some (s,e)):(∀ x ∈ l,ValidL x)∧LSet s∧bV e:=by
  unfold jnP at h
  by_cases c:∀ x ∈ l,ValidL x
  · rw [if_pos c] at h
    exact ⟨c,aIv l [] _ c aBF aBJ s e h⟩
  · rw [if_neg c] at h;cases h
theorem aBo {l:List Link} (hv:∀ x ∈ l,ValidL x) (hl:l.length≤4294967296):kP l=some (pk (jnP l)):=by
  unfold kP jnP
  rw [lV 0 (by omega),if_pos hv]
  simp only [Option.bind_some]
  have:=aJo l hv hl l.length 0 (by omega) [] (xU 0) aBF (.inl aBJ)
  rw [show ((0:Nat):Int)=0 from rfl,List.drop_zero] at this
  rw [this]
  cases xE l [] (xU 0) with
  | none=>rfl
  | some t=>rfl
theorem aBG (l:List Link) (hz:aK l≤4294967296):kE l=some (pk (jnP l))∧qZ l=some (pk (jnP l)):=by
  have hl:l.length≤4294967296:=by have:=dR bH l;unfold aK at hz;omega
  constructor
  · unfold kE
    rw [lF 0 (by omega)]
    simp only [Option.bind_some]
    obtain ⟨R,r1,r2,r3⟩:=aJn l hz l.length 0 (by omega) [] (xU 0) aBF (.inl aBJ)
    rw [show ((0:Nat):Int)=0 from rfl] at r1
    rw [List.drop_zero] at r3
    rw [r1]
    have e:(if bV (xU 0)∧(∀ x ∈ l,ValidL x) then xE l [] (xU 0) else none)=jnP l:=by unfold jnP;simp only [aBJ,true_and]
    rw [← e,← r3]
    cases R with
    | inl d =>
      simp only [Option.bind_some]
      rw [fJ d.2 (VZs (r2 d rfl))]
      simp only [Option.bind_some,aLT]
      by_cases c:bV d.2
      · rw [decide_eq_true c,if_pos c];rfl
      · rw [decide_eq_false c,if_neg c];rfl
    | inr x=>rfl
  · unfold qZ
    rw [aHb l hz]
    simp only [Option.bind_some]
    by_cases c:∀ x ∈ l,ValidL x
    · rw [decide_eq_true c,if_pos rfl,aBo c hl]
      simp only [Option.bind_some]
      cases hj:jnP l with
      | none=>rfl
      | some t =>
        obtain ⟨s,e⟩:=t
        obtain ⟨_,g1,_⟩:=aDO hj
        simp only [pk,if_true]
        rw [rN s (by have:=g1.sz;omega)]
        rfl
    · rw [decide_eq_false c]
      unfold jnP
      rw [if_neg c];rfl
end Go.Ev
/- Cliques: their nodes in order. -/
namespace Go.Ev
set_option linter.all false
theorem aCp:∀ {a b:List Int},a.Pairwise (· < ·)→b.Pairwise (· < ·)→(∀ x,x ∈ a↔x ∈ b)→a=b
  | [],[],_,_,_=>rfl
  | [],y::b,_,_,h=>absurd ((h y).2 (by simp)) (by simp)
  | x::a,[],_,_,h=>absurd ((h x).1 (by simp)) (by simp)
  | x::a,y::b,ha,hb,h=>by
    rw [List.pairwise_cons] at ha hb
    have hxy:x=y:=by
      have h1:=(h x).1 (by simp)
      have h2:=(h y).2 (by simp)
      rcases List.mem_cons.1 h1 with e | e
      · exact e
      · rcases List.mem_cons.1 h2 with e' | e'
        · exact e'.symm
        · have:=hb.1 x e;have:=ha.1 y e';omega
    subst hxy
    have:a=b:=aCp ha.2 hb.2 (fun z=>by
      constructor
      · intro hz
        have:=(h z).1 (by simp [hz])
        rcases List.mem_cons.1 this with e | e
        · subst e;have:=ha.1 z hz;omega
        · exact e
      · intro hz
        have:=(h z).2 (by simp [hz])
        rcases List.mem_cons.1 this with e | e
        · subst e;have:=hb.1 z hz;omega
        · exact e)
    rw [this]
def aAR:List Int→Int→List Int
  | [],n=>[n]
  | x::l,n=>if x < n then x::aAR l n else if x=n then x::l else n::x::l
theorem zP:∀ (l:List Int) (n x:Int),x ∈ aAR l n↔x=n∨x ∈ l
  | [],n,x=>by simp [aAR]
  | y::l,n,x=>by
    unfold aAR
    by_cases h1:y < n
    · rw [if_pos h1,List.mem_cons,List.mem_cons,zP l n x]
      constructor
      · rintro (h | h | h) <;> simp [h]
      · rintro (h | h | h) <;> simp [h]
    · rw [if_neg h1]
      by_cases h2:y=n
      · rw [if_pos h2];subst h2;simp
      · rw [if_neg h2];simp
theorem wN:∀ (l:List Int) (n:Int),l.Pairwise (· < ·)→(aAR l n).Pairwise (· < ·)
  | [],n,_=>by simp [aAR]
  | y::l,n,h=>by
    unfold aAR
    rw [List.pairwise_cons] at h
    by_cases h1:y < n
    · rw [if_pos h1,List.pairwise_cons]
      exact ⟨fun x hx=>by rcases (zP l n x).1 hx with e | e;omega;exact h.1 x e,wN l n h.2⟩
    · rw [if_neg h1]
      by_cases h2:y=n
      · rw [if_pos h2,List.pairwise_cons];exact h
      · rw [if_neg h2,List.pairwise_cons]
        exact ⟨fun x hx=>by rcases List.mem_cons.1 hx with e | e;omega;have:=h.1 x e;omega,List.pairwise_cons.2 h⟩
theorem zQ:∀ (l:List Int) (n:Int),(aAR l n).length≤l.length+1
  | [],n=>by simp [aAR]
  | y::l,n=>by
    unfold aAR
    split
    · simp [zQ l n]
    · split <;> simp
def oJ (l:List Int) (n:Int):Nat:=(l.takeWhile (fun x=>decide (x < n))).length
theorem aJq (l:List Int) (n:Int):oJ l n≤l.length:=by
  unfold oJ
  induction l with
  | nil=>simp
  | cons x l ih =>
    rw [List.takeWhile_cons]
    split
    · simpa using ih
    · simp
theorem aDr (x:Int) (l:List Int) (n:Int):oJ (x::l) n=if x < n then oJ l n+1 else 0:=by
  unfold oJ
  rw [List.takeWhile_cons]
  by_cases h:x < n <;> simp [h]
theorem aJT:∀ (l:List Int) (n:Int),aAR l n=if l[oJ l n]?=some n then l else l.take (oJ l n)++[n]++l.drop (oJ l n)
  | [],n=>by simp [aAR,oJ]
  | x::l,n=>by
    rw [aDr]
    unfold aAR
    by_cases h:x < n
    · rw [if_pos h,if_pos h,aJT l n]
      simp only [List.getElem?_cons_succ,List.take_succ_cons,List.drop_succ_cons]
      split <;> simp
    · rw [if_neg h,if_neg h]
      by_cases h2:x=n <;> simp [h2]
theorem aLl (l:List Int) (n:Int) (h:l.length≤4294967296):lp (gD l n) 0=some ((oJ l n:Nat):Int):=by
  have main:∀ m k:Nat,m+k=l.length→lp (gD l n) (k:Int)=some ((k+oJ (l.drop k) n:Nat):Int):=by
    intro m
    induction m with
    | zero =>
      intro k hk
      have:k=l.length:=by omega
      subst this
      rw [aM (r:=(l.length:Int)) (by unfold gD;rw [if_neg (by omega)];rfl),List.drop_length];simp [oJ]
    | succ m ih =>
      intro k hk
      have hlt:k < l.length:=by omega
      rw [List.drop_eq_getElem_cons hlt,aDr]
      by_cases c:l[k] < n
      · rw [if_pos c]
        have e:gD l n (k:Int)=some (.inl ((k:Int)+1)):=by
          unfold gD
          rw [if_pos (by omega),aH hlt,wi (by omega)]
          simp [c]
        rw [bI e,show (k:Int)+1=((k+1:Nat):Int) by omega,ih (k+1) (by omega)]
        congr 2;omega
      · rw [if_neg c]
        have e:gD l n (k:Int)=some (.inr (k:Int)):=by
          unfold gD
          rw [if_pos (by omega),aH hlt]
          simp [c]
        rw [aM e];simp
  have:=main l.length 0 (by omega)
  simpa using this
theorem aIb (l:List Int) (n:Int) (h:l.length≤4294967296):nL l n=some (aAR l n):=by
  have hf:=aJq l n
  unfold nL
  rw [aLl l n h,aJT]
  simp only [Option.bind_some]
  by_cases hlt:oJ l n < l.length
  · rw [if_pos (by omega),aH hlt,List.getElem?_eq_getElem hlt]
    simp only [Option.bind_some,decide_eq_true_eq,Option.some.injEq]
    by_cases c:l[oJ l n]=n
    · rw [if_pos c,if_pos c]
    · rw [if_neg c,if_neg c,vQ _ _ _ (by omega),vQ _ _ _ (by omega)]
      simp only [Option.bind_some,aP,List.nil_append]
      rw [aR (by simp;omega),aR (by simp;omega),aR (by simp;omega)]
      simp only [Option.bind_some]
      simp
      rw [List.take_of_length_le (by simp)]
  · have:oJ l n=l.length:=by omega
    rw [if_neg (by omega),this,if_neg (by simp)]
    simp only [Option.bind_some,Bool.false_eq_true,if_false]
    rw [vQ _ _ _ (by omega),vQ _ _ _ (by omega)]
    simp only [Option.bind_some,aP,List.nil_append]
    rw [aR (by simp;omega),aR (by simp;omega),aR (by simp;omega)]
    simp
end Go.Ev
/- The arms of a node of a link set, both programs. -/
namespace Go.Ev
set_option linter.all false
def sE (v:Int) (l:Link):Int:=if l.fA=v then l.fB else l.fA
def tch (v:Int) (l:Link):Bool:=decide (l.fA=v∨l.fB=v)
noncomputable def aBA (v:Int) (l:Link):l08Arm:=if l.fA=v then ⟨l.fB,l.fWeight,RN l.fDX,RN l.fDY⟩ else ⟨l.fA,l.fWeight,l.fDX,l.fDY⟩
noncomputable def bW (v:Int) (s:List Link):List l08Arm:=(s.filter (tch v)).map (aBA v)
theorem aAD (v:Int) (l:Link):(aBA v l).fnode=sE v l:=by unfold aBA sE;split <;> rfl
theorem aGL {s:List Link} (hs:LSet s) (v:Int):((s.filter (tch v)).map (sE v)).Pairwise (· < ·):=by
  rw [List.pairwise_map]
  refine List.Pairwise.imp_of_mem (fun {a b} ha hb hr=>?_) (hs.2.sublist List.filter_sublist)
  rw [List.mem_filter] at ha hb
  have h1:=hs.1 a ha.1
  have h2:=hs.1 b hb.1
  have t1:=ha.2
  have t2:=hb.2
  unfold tch at t1 t2
  rw [decide_eq_true_eq] at t1 t2
  unfold ValidL at h1 h2
  unfold fY at hr
  unfold sE
  split <;> split <;> omega
theorem aNf {s:List Link} (hs:LSet s) (v:Int):tX s v=some ((s.filter (tch v)).map (sE v)):=by
  have hlen:=hs.len
  unfold tX
  obtain ⟨e1,e2⟩:=kI (step:=oO s v) s (fun k t=>(t,(k:Int))) (fun t l=>if tch v l then aAR t (sE v l) else t) (fun t=>t)
    (fun k t=>t.length≤k∧t.Pairwise (· < ·)∧∀ x,x ∈ t↔x ∈ ((s.take k).filter (tch v)).map (sE v)) (fun k t hk hI=>by
      obtain ⟨i1,i2,i3⟩:=hI
      have hv:=hs.1 _ (List.getElem_mem hk)
      have w1:IntKind.i64.wrap ((k:Int)+1)=((k+1:Nat):Int):=by rw [wi (by omega)];omega
      refine ⟨?_,?_,?_,?_⟩
      · unfold oO
        simp only []
        rw [if_pos (by omega),aH hk]
        unfold ValidL at hv
        simp only [Option.bind_some,aIb t _ (by omega:t.length≤4294967296),w1]
        by_cases A:(s[k]).fA=v
        · have B:¬(s[k]).fB=v:=by omega
          simp [A,B,tch,sE]
        · by_cases B:(s[k]).fB=v
          · rw [if_neg A]
            simp only [Option.bind_some]
            rw [if_pos B,aIb t _ (by omega:t.length≤4294967296)]
            simp [A,B,tch,sE]
          · simp [A,B,tch,sE]
      · have:=zQ t (sE v s[k])
        split <;> omega
      · split
        · exact wN _ _ i2
        · exact i2
      · intro x
        have tk:s.take (k+1)=s.take k++[s[k]]:=by rw [List.take_add_one,List.getElem?_eq_getElem hk];rfl
        rw [tk,List.filter_append,List.map_append,List.mem_append,← i3 x]
        by_cases T:tch v s[k]=true
        · simp only [T,if_true,zP,List.filter_cons_of_pos,List.filter_nil,List.map_cons,List.map_nil,List.mem_singleton]
          exact Or.comm
        · simp [T]) (fun t _=>by unfold oO;simp only [];rw [if_neg (by omega)]) [] ⟨by simp,List.Pairwise.nil,by simp⟩
  rw [show ((0:Nat):Int)=0 from rfl] at e1
  rw [e1]
  simp only [Option.bind_some]
  congr 1
  obtain ⟨_,g2,g3⟩:=e2
  rw [List.take_length] at g3
  exact aCp g2 (aGL hs v) g3
theorem LSet.uniq {s:List Link} (hs:LSet s) {a b:Link} (ha:a ∈ s) (hb:b ∈ s) (h1:a.fA=b.fA) (h2:a.fB=b.fB):a=b:=by
  obtain ⟨i,hi,rfl⟩:=List.getElem_of_mem ha
  obtain ⟨j,hj,rfl⟩:=List.getElem_of_mem hb
  have pw:=List.pairwise_iff_getElem.1 hs.2
  rcases Nat.lt_trichotomy i j with h | h | h
  · have:=pw i j hi hj h;unfold fY at this;omega
  · subst h;rfl
  · have:=pw j i hj hi h;unfold fY at this;omega
theorem aNh (p q r t:Prop) [Decidable p] [Decidable q] [Decidable r] [Decidable t]:((if p then (if q then some true else (if r then some (decide t) else some false)) else (if r then some (decide t) else some false)):Option Bool)=some (decide ((p∧q)∨(r∧t))):=by
  by_cases p <;> by_cases q <;> by_cases r <;> by_cases t <;> simp [*]
theorem aL9 {s:List Link} (hs:LSet s) {v:Int} {l:Link} (hl:l ∈ s) (ht:tch v l=true):wL s (sE v l) v=some (l,true):=by
  have hlen:=hs.len
  have hv:=hs.1 l hl
  unfold wL
  rw [lW s (by have:=hs.sz;omega),decide_eq_true hs]
  simp only [Option.bind_some,if_true]
  obtain ⟨r,e,q⟩:=aKA (step:=qK s (sE v l) v) s.length (fun r=>r=.inr (l,true)) (fun k=>l ∈ s.drop k) (by simpa using hl) (fun k hk hj=>by
    have hx:=hs.1 _ (List.getElem_mem hk)
    have w1:IntKind.i64.wrap ((k:Int)+1)=((k+1:Nat):Int):=by rw [wi (by omega)];omega
    rw [List.drop_eq_getElem_cons hk] at hj
    have st:qK s (sE v l) v (k:Int)=some (if (((s[k]).fA=sE v l∧(s[k]).fB=v)∨((s[k]).fA=v∧(s[k]).fB=sE v l)) then .inr (.inr (s[k],true)) else .inl ((k+1:Nat):Int)):=by
      unfold qK
      rw [if_pos (by omega),aH hk]
      simp only [Option.bind_some,w1,tY s[k] (by have:=hx.sz;omega)]
      rw [aNh]
      simp only [Option.bind_some]
      by_cases c:((s[k]).fA=sE v l∧(s[k]).fB=v)∨((s[k]).fA=v∧(s[k]).fB=sE v l)
      · rw [if_pos c,decide_eq_true c];rfl
      · rw [if_neg c,decide_eq_false c];rfl
    unfold tch at ht
    rw [decide_eq_true_eq] at ht
    unfold ValidL at hx hv
    by_cases c:((s[k]).fA=sE v l∧(s[k]).fB=v)∨((s[k]).fA=v∧(s[k]).fB=sE v l)
    · rw [if_pos c] at st
      right
      refine ⟨_,st,?_⟩
      have:s[k]=l:=by
        refine hs.uniq (List.getElem_mem hk) hl ?_ ?_
        · unfold sE at c;split at c <;> omega
        · unfold sE at c;split at c <;> omega
      rw [this]
    · rw [if_neg c] at st
      left
      refine ⟨st,?_⟩
      rcases List.mem_cons.1 hj with e | e
      · exfalso;apply c
        rw [← e];unfold sE;split <;> omega
      · exact e) (fun hj=>by rw [List.drop_length] at hj;cases hj)
  rw [e,q];rfl
theorem aM2 {r:Rat} (h:VZ r):VZ (RN r):=(aL7 h).2.2
def wX (a:l08Arm):Prop:=(0≤a.fnode∧a.fnode≤9)∧VZ a.fweight∧VZ a.fdx∧VZ a.fdy
theorem aIM {v:Int} {l:Link} (h:ValidL l):wX (aBA v l):=by
  obtain ⟨h1,h2,h3⟩:=h.vz
  unfold aBA
  split
  · exact ⟨h.2.1,h1,aM2 h2,aM2 h3⟩
  · exact ⟨h.1,h1,h2,h3⟩
theorem aF6 {s:List Link} (hs:LSet s) (v:Int):∀ a ∈ bW v s,wX a:=by
  intro a ha
  obtain ⟨l,hl,rfl⟩:=List.mem_map.1 ha
  exact aIM (hs.1 l (List.mem_filter.1 hl).1)
theorem aBV {s:List Link} (hs:LSet s) (v:Int):(bW v s).length≤100:=by
  have:=hs.len
  have:=List.length_filter_le (tch v) s
  unfold bW
  rw [List.length_map];omega
theorem aG2 {s:List Link} (hs:LSet s) (v:Int):((bW v s).map (·.fnode)).Pairwise (· < ·):=by
  have:=aGL hs v
  unfold bW
  rw [List.map_map]
  have e:(fun a:l08Arm=>a.fnode) ∘ aBA v=sE v:=by funext l;exact aAD v l
  rw [e];exact this
theorem aNl {s:List Link} (hs:LSet s) (v:Int):tW s v=some (bW v s):=by
  have hal:=aBV hs v
  unfold tW
  rw [aNf hs v]
  simp only [Option.bind_some]
  have hfl:((s.filter (tch v)).map (sE v)).length=(bW v s).length:=by unfold bW;rw [List.length_map,List.length_map]
  have:=zX (step:=oN s v ((s.filter (tch v)).map (sE v))) (bW v s) (fun k t=>((k:Int),t)) (fun t=>t) (fun k t hk ht=>by
    have hk2:k < (s.filter (tch v)).length:=by unfold bW at hk;rwa [List.length_map] at hk
    have hk3:k < ((s.filter (tch v)).map (sE v)).length:=by rwa [List.length_map]
    have hm:=List.mem_filter.1 (List.getElem_mem hk2)
    have w1:IntKind.i64.wrap ((k:Int)+1)=((k+1:Nat):Int):=by rw [wi (by omega)];omega
    have hv:=hs.1 _ hm.1
    obtain ⟨v1,v2,v3⟩:=hv.vz
    have g:=aL9 hs hm.1 hm.2
    have ea:(bW v s)[k]=aBA v (s.filter (tch v))[k]:=by simp only [bW,List.getElem_map]
    unfold oN
    simp only []
    rw [if_pos (by omega),aH hk3,List.getElem_map]
    simp only [Option.bind_some,g,(aL7 v2).1,(aL7 v3).1,w1]
    rw [ea]
    unfold aBA
    by_cases A:((s.filter (tch v))[k]).fA=v
    · rw [if_pos A,if_pos A]
      simp only [Option.bind_some,sE,A,if_true]
      rw [aR (by omega)];rfl
    · rw [if_neg A,if_neg A]
      simp only [Option.bind_some,sE,A,if_false]
      rw [aR (by omega)];rfl) (fun t ht=>by unfold oN;simp only [];rw [if_neg (by omega)])
  rw [show ((0:Nat):Int)=0 from rfl] at this
  rw [this];rfl
end Go.Ev
