/- Parts PQ6, PQ8, PH, PQ9, PR1, P20, PR2, PR3, PV, PR4. -/
import Derived.Test.YthjpgecdkmiadaaGreatPb1
import Derived.Test.YthjpgecdkmiadaaGreatPa1
import Derived.Test.YthjpgecdkmiadaaGreatLd
set_option linter.all false
/- Whole numbers and fractions; both programs. -/
namespace Go.Ev
set_option linter.all false
def xY (x:BigInt):Prop:=vX x.fMag∧(x.fNeg=true→x.fMag≠[])
instance (x:BigInt):Decidable (xY x):=by unfold xY;infer_instance
theorem aME (x:BigInt) (h:x.fMag.length≤4294967296):tJ x=some (decide (xY x)):=by
  unfold tJ
  rw [aI7 _ h]
  simp only [Option.bind_some]
  by_cases c:vX x.fMag
  · rw [decide_eq_true c]
    simp only [if_true]
    cases hn:x.fNeg with
    | true =>
      simp only [if_true]
      by_cases e:x.fMag=[]
      · rw [decide_eq_false (fun g:xY x=>g.2 hn e),e];rfl
      · have:x.fMag.length≠0:=fun g=>e (List.length_eq_zero_iff.1 g)
        have hb:xY x:=⟨c,fun _=>e⟩
        rw [decide_eq_true hb,decide_eq_false (by omega)];rfl
    | false =>
      have hb:xY x:=⟨c,fun g=>by rw [hn] at g;cases g⟩
      rw [decide_eq_true hb];rfl
  · rw [decide_eq_false c,decide_eq_false (fun g:xY x=>c g.1)];rfl
theorem aMD (x:BigInt) (h:x.fMag.length≤4294967296):sT x=some (decide (xY x)):=by
  unfold sT
  rw [aGo _ h]
  simp only [Option.bind_some]
  by_cases c:vX x.fMag
  · rw [decide_eq_true c]
    simp only [if_true]
    cases hn:x.fNeg with
    | true =>
      simp only [if_true]
      by_cases e:x.fMag=[]
      · rw [decide_eq_false (fun g:xY x=>g.2 hn e),e];rfl
      · have:x.fMag.length≠0:=fun g=>e (List.length_eq_zero_iff.1 g)
        have hb:xY x:=⟨c,fun _=>e⟩
        rw [decide_eq_true hb,decide_eq_true (by omega)]
    | false =>
      have hb:xY x:=⟨c,fun g=>by rw [hn] at g;cases g⟩
      rw [decide_eq_true hb];rfl
  · rw [decide_eq_false c,decide_eq_false (fun g:xY x=>c g.1)];rfl
def aMm (x:BigInt):Int:=if x.fNeg=true then -(val x.fMag:Int) else (val x.fMag:Int)
theorem aGh (x:BigInt):(aMm x).natAbs=val x.fMag:=by unfold aMm;split <;> omega
theorem aNC {x:BigInt} (h:xY x):x=big (aMm x):=by
  obtain ⟨neg,mag⟩:=x
  unfold big
  rw [aGh]
  have e:=oJ h.1
  simp only [] at e ⊢
  rw [← e]
  congr 1
  unfold aMm
  cases neg with
  | true =>
    have:val mag≠0:=fun z=>h.2 rfl (by simp only [] at e ⊢;rw [e,z,bN])
    simp only [if_true]
    rw [decide_eq_true (by omega)]
  | false=>simp
theorem aHu (n m:Int):((!(decide (n < 0) == decide (m < 0)))&&decide (n.natAbs*m.natAbs≠0))=decide (n*m < 0):=by
  rw [← Int.natAbs_mul]
  rcases Int.lt_trichotomy n 0 with h1 | h1 | h1
  · rcases Int.lt_trichotomy m 0 with h2 | h2 | h2
    · have:=Int.mul_pos_of_neg_of_neg h1 h2
      rw [decide_eq_true h1,decide_eq_true h2,decide_eq_false (show ¬n*m < 0 by omega)];rfl
    · subst h2;simp
    · have:=Int.mul_neg_of_neg_of_pos h1 h2
      rw [decide_eq_true h1,decide_eq_false (show ¬m < 0 by omega),decide_eq_true (show (n*m).natAbs≠0 by omega),decide_eq_true this];rfl
  · subst h1;simp
  · rcases Int.lt_trichotomy m 0 with h2 | h2 | h2
    · have:=Int.mul_neg_of_pos_of_neg h1 h2
      rw [decide_eq_false (show ¬n < 0 by omega),decide_eq_true h2,decide_eq_true (show (n*m).natAbs≠0 by omega),decide_eq_true this];rfl
    · subst h2;simp
    · have:=Int.mul_pos h1 h2
      rw [decide_eq_false (show ¬n < 0 by omega),decide_eq_false (show ¬m < 0 by omega),decide_eq_false (show ¬n*m < 0 by omega)];rfl
theorem aAX (n:Int):(big n).fMag=aB n.natAbs:=rfl
theorem aAW (n:Int):(big n).fNeg=decide (n < 0):=rfl
def bl (n:Int):Nat:=(aB n.natAbs).length
theorem aAV (n m:Int):bl (n*m)≤bl n+bl m:=by unfold bl;rw [Int.natAbs_mul];exact eO _ _
theorem aJT (n m:Int):bl (n+m)≤max (bl n) (bl m)+1:=by
  unfold bl
  exact Nat.le_trans (fM (Int.natAbs_add_le n m) (Nat.le_refl _)) (aGa _ _)
theorem yX (n m:Int) (hn:bl n≤60) (hm:bl m≤60) (h:bl (n*m)≤60):iS (big n) (big m)=some (big (n*m)):=by
  unfold iS
  unfold bl at *
  rw [Int.natAbs_mul] at h
  simp only [big]
  rw [(pH n.natAbs m.natAbs (by omega) (by omega)).2]
  simp only [Option.bind_some]
  rw [wR _ _ h]
  simp only [Option.bind_some]
  rw [aHu,Int.natAbs_mul]
theorem aG0 (n:Int) (d:Nat) (h:(aB (n.natAbs*d)).length≤60):cV (decide (n < 0)) (aB (n.natAbs*d))=some (big (n*d)):=by
  rw [sE _ _ h]
  have:=aHu n (d:Int)
  rw [decide_eq_false (show ¬((d:Int) < 0) by omega)] at this
  simp only [Int.natAbs_natCast] at this
  unfold big
  rw [← this]
  simp only [Int.natAbs_mul,Int.natAbs_natCast]
  congr 2
  cases decide (n < 0) <;> rfl
theorem aKD (n m:Int) (h:(decide (n < 0) == decide (m < 0))=true):(n+m).natAbs=n.natAbs+m.natAbs∧(decide (n < 0)&&decide ((n+m).natAbs≠0))=decide (n+m < 0):=by
  by_cases c1:n < 0
  · by_cases c2:m < 0
    · refine ⟨by omega,?_⟩
      rw [decide_eq_true c1,decide_eq_true (by omega),decide_eq_true (by omega)];rfl
    · simp [c1,c2] at h
  · by_cases c2:m < 0
    · simp [c1,c2] at h
    · refine ⟨by omega,?_⟩
      rw [decide_eq_false c1,decide_eq_false (show ¬(n+m < 0) by omega)];rfl
theorem aE0 (n m:Int) (h:¬(decide (n < 0) == decide (m < 0))=true) (hle:m.natAbs≤n.natAbs):(n+m).natAbs=n.natAbs - m.natAbs∧(decide (n < 0)&&decide ((n+m).natAbs≠0))=decide (n+m < 0):=by
  by_cases c1:n < 0
  · by_cases c2:m < 0
    · simp [c1,c2] at h
    · refine ⟨by omega,?_⟩
      rw [decide_eq_true c1,Bool.true_and]
      exact decide_eq_decide.2 (by omega)
  · by_cases c2:m < 0
    · refine ⟨by omega,?_⟩
      rw [decide_eq_false c1,decide_eq_false (show ¬(n+m < 0) by omega)];rfl
    · simp [c1,c2] at h
theorem aMn (n m:Int) (hn:bl n≤60) (hm:bl m≤60) (h:bl (n+m)≤60):xL (big n) (big m)=some (big (n+m)):=by
  unfold xL
  unfold bl at *
  by_cases c:(decide (n < 0) == decide (m < 0))=true
  · obtain ⟨e1,e2⟩:=aKD n m c
    rw [if_pos (show ((big n).fNeg == (big m).fNeg)=true from c)]
    simp only [aAX,aAW]
    rw [aLZ _ _ (by omega) (by omega)]
    simp only [Option.bind_some]
    rw [← e1,wR _ _ h,e2];rfl
  · rw [if_neg (show ¬((big n).fNeg == (big m).fNeg)=true from c)]
    simp only [aAX,aAW]
    rw [aFB _ _ (by omega) (by omega)]
    simp only [Option.bind_some]
    by_cases c2:m.natAbs≤n.natAbs
    · obtain ⟨e1,e2⟩:=aE0 n m c c2
      have c3:0≤tL n.natAbs m.natAbs:=by unfold tL;rw [if_neg (by omega)];split <;> omega
      rw [if_pos c3,(aAg _ _ (by omega) c2).2]
      simp only [Option.bind_some]
      rw [← e1,wR _ _ h,e2];rfl
    · obtain ⟨e1,e2⟩:=aE0 m n (by rw [Bool.beq_comm];exact c) (by omega)
      have c3:¬0≤tL n.natAbs m.natAbs:=by unfold tL;rw [if_pos (by omega)];omega
      rw [if_neg c3,(aAg _ _ (by omega) (by omega)).2]
      simp only [Option.bind_some]
      rw [← e1,Int.add_comm m n] at *
      rw [wR _ _ h,e2];rfl
theorem aIE (n m:Int) (hn:bl n≤60) (hm:bl m≤60) (h:bl (n+m)≤60):uA (big n) (big m)=some (big (n+m)):=by
  unfold uA
  unfold bl at *
  by_cases c:(decide (n < 0) == decide (m < 0))=true
  · obtain ⟨e1,e2⟩:=aKD n m c
    rw [if_pos (show ((big n).fNeg == (big m).fNeg)=true from c)]
    simp only [aAX,aAW]
    rw [aIG _ _ (by omega) (by omega)]
    simp only [Option.bind_some]
    rw [← e1,sE _ _ h,e2];rfl
  · rw [if_neg (show ¬((big n).fNeg == (big m).fNeg)=true from c)]
    simp only [aAX,aAW]
    rw [aBK _ _ (by omega) (by omega)]
    simp only [Option.bind_some]
    by_cases c2:m.natAbs≤n.natAbs
    · obtain ⟨e1,e2⟩:=aE0 n m c c2
      have c3:0≤tL n.natAbs m.natAbs:=by unfold tL;rw [if_neg (by omega)];split <;> omega
      rw [if_pos c3,(aAg _ _ (by omega) c2).1]
      simp only [Option.bind_some]
      rw [← e1,sE _ _ h,e2];rfl
    · obtain ⟨e1,e2⟩:=aE0 m n (by rw [Bool.beq_comm];exact c) (by omega)
      have c3:¬0≤tL n.natAbs m.natAbs:=by unfold tL;rw [if_pos (by omega)];omega
      rw [if_neg c3,(aAg _ _ (by omega) (by omega)).1]
      simp only [Option.bind_some]
      rw [← e1,Int.add_comm m n] at *
      rw [sE _ _ h,e2];rfl
def qE:Rat:=Rat.mk (BigInt.mk false []) []
def mkR (s:Bool) (x y:Nat):Rat :=
  if y=0 then qE else if 24 < (aB (x / Nat.gcd x y)).length∨24 < (aB (y / Nat.gcd x y)).length then qE
  else ⟨⟨s&&decide (x / Nat.gcd x y≠0),aB (x / Nat.gcd x y)⟩,aB (y / Nat.gcd x y)⟩
theorem aMF:aS qE≤48:=by decide
theorem aKw {x y:Nat} (hx:(aB x).length≤700) (hy:(aB y).length≤700):(aB (Nat.gcd x y)).length≤700:=by
  by_cases c:x=0
  · subst c;rw [Nat.gcd_zero_left];exact hy
  · exact Nat.le_trans (fM (Nat.gcd_le_left y (Nat.pos_of_ne_zero c)) (Nat.le_refl _)) hx
theorem aDS (s t:Bool) (x y:Nat) (hx:(aB x).length≤60) (hy:(aB y).length≤60):oN ⟨s,aB x⟩ ⟨t,aB y⟩=some (mkR (!(s == t)) x y):=by
  unfold oN mkR
  simp only []
  by_cases c:y=0
  · rw [if_pos c,if_pos (by rw [c,bN];rfl)];rfl
  · have hl:(aB y).length≠0:=fun e=>eE c (List.length_eq_zero_iff.1 e)
    have hg:=aKw (x:=x) (y:=y) (by omega) (by omega)
    have hg0:0 < Nat.gcd x y:=Nat.gcd_pos_of_pos_right x (Nat.pos_of_ne_zero c)
    rw [if_neg c,if_neg (by omega),aIw x y (by omega) (by omega)]
    simp only [Option.bind_some]
    rw [aFA x _ hg0 (by omega) hg,aFA y _ hg0 (by omega) hg]
    simp only [Option.bind_some]
    have l1:=aMY x (Nat.gcd x y)
    by_cases c1:24 < (aB (x / Nat.gcd x y)).length
    · rw [if_pos (by omega),if_pos (.inl c1)];rfl
    · rw [if_neg (by omega)]
      by_cases c2:24 < (aB (y / Nat.gcd x y)).length
      · rw [if_pos (.inr c2),decide_eq_true (by omega)];rfl
      · rw [if_neg (by omega),decide_eq_false (by omega)]
        simp only [Option.bind_some,Bool.false_eq_true,if_false]
        rw [wR _ _ (by omega)];rfl
theorem wF:([1]:List Int)=aB 1:=by rw [vM (by rw [dV];omega) (by omega)];rfl
theorem aHg (x:Nat):iG (aB x)=some (decide (x=1)):=by
  unfold iG
  by_cases c:x=1
  · subst c;rw [← wF];simp [idx]
  · rw [decide_eq_false c]
    by_cases h:(aB x).length=1
    · have hx:x < BB:=by have:=qD x;rw [h,Nat.pow_one] at this;exact this
      have h0:x≠0:=by rintro rfl;rw [bN] at h;simp at h
      rw [if_pos (by omega),show (0:Int)=((0:Nat):Int) from rfl,aI (by omega)]
      simp only [vM hx h0,List.getElem_cons_zero,Option.bind_some]
      rw [decide_eq_false (by omega)]
    · rw [if_neg (by omega)]
theorem aDE (s:Bool) (x y:Nat) (hx:(aB x).length≤60) (hy:(aB y).length≤60):oB s (aB x) (aB y)=some (mkR s x y):=by
  unfold oB mkR
  rw [aAz (eI x) (by omega),aAz (eI y) (by omega),dO,dO]
  simp only [Option.bind_some]
  by_cases c:y=0
  · rw [if_pos c,if_pos (by rw [c,bN];rfl)];rfl
  · have hl:(aB y).length≠0:=fun e=>eE c (List.length_eq_zero_iff.1 e)
    have hg:=aKw (x:=x) (y:=y) (by omega) (by omega)
    have hg0:0 < Nat.gcd x y:=Nat.gcd_pos_of_pos_right x (Nat.pos_of_ne_zero c)
    rw [if_neg c,if_neg (by omega),aHg]
    simp only [Option.bind_some]
    have key:((if decide (y=1)=true then some (aB x,aB y) else (qT (aB x) (aB y)).bind fun r4=>(iG r4).bind fun r5=>(if r5=true then some (aB x,aB y) else (lP (aB x) r4).bind fun r6=>(lP (aB y) r4).bind fun r7=>some (r6.1,r7.1))):Option ((List Int) × (List Int)))=some (aB (x / Nat.gcd x y),aB (y / Nat.gcd x y)):=by
      by_cases c1:y=1
      · rw [decide_eq_true c1,if_pos rfl,c1,Nat.gcd_one_right,Nat.div_one,Nat.div_one]
      · rw [decide_eq_false c1,if_neg (by simp),aIF x y (by omega) (by omega)]
        simp only [Option.bind_some]
        rw [aHg]
        simp only [Option.bind_some]
        by_cases c2:Nat.gcd x y=1
        · rw [decide_eq_true c2,if_pos rfl,c2,Nat.div_one,Nat.div_one]
        · rw [decide_eq_false c2,if_neg (by simp),aFR x _ hg0 (by omega) hg,aFR y _ hg0 (by omega) hg];rfl
    rw [key]
    simp only [Option.bind_some]
    by_cases c1:24 < (aB (x / Nat.gcd x y)).length
    · rw [if_pos (by omega),if_pos (.inl c1)];rfl
    · rw [if_neg (by omega)]
      by_cases c2:24 < (aB (y / Nat.gcd x y)).length
      · rw [if_pos (.inr c2),decide_eq_true (by omega)];rfl
      · rw [if_neg (by omega),decide_eq_false (by omega)]
        simp only [Option.bind_some,Bool.false_eq_true,if_false]
        rw [sE _ _ (by omega)]
        simp only [Option.bind_some]
        rw [aP (by simp;omega)]
        simp only [Option.bind_some,aO,List.nil_append]
def bX (r:Rat):Prop:=xY r.fNum∧vX r.fDen∧r.fDen≠[]∧r.fDen.length≤24∧r.fNum.fMag.length≤24∧Nat.gcd (val r.fNum.fMag) (val r.fDen)=1
instance (r:Rat):Decidable (bX r):=by unfold bX;infer_instance
theorem aLD (r:Rat) (h:aS r≤4294967296):r.fNum.fMag.length≤4294967296∧r.fDen.length≤4294967296:=by
  unfold aS cQ fI at h
  simp only [oV] at h;omega
theorem aBW (r:Rat) (h:aS r≤4294967296):oQ r=some (decide (bX r)):=by
  obtain ⟨h1,h2⟩:=aLD r h
  unfold oQ
  rw [aME _ h1]
  simp only [Option.bind_some]
  by_cases c1:xY r.fNum
  · rw [decide_eq_true c1,if_pos rfl,aI7 _ h2]
    simp only [Option.bind_some]
    by_cases c2:vX r.fDen
    · rw [decide_eq_true c2,if_pos rfl]
      simp only [Option.bind_some]
      by_cases c3:r.fDen=[]
      · rw [decide_eq_false (fun g:bX r=>g.2.2.1 c3),decide_eq_true (by rw [c3];rfl)];rfl
      · have hn:r.fDen.length≠0:=fun e=>c3 (List.length_eq_zero_iff.1 e)
        rw [decide_eq_false (show ¬((r.fDen.length:Int)=0) by omega)]
        simp only [Bool.false_eq_true,if_false]
        by_cases c4:24 < r.fNum.fMag.length
        · rw [if_pos (by omega),decide_eq_false (fun g:bX r=>by have:=g.2.2.2.2.1;omega)];rfl
        · rw [if_neg (by omega)]
          by_cases c5:24 < r.fDen.length
          · rw [decide_eq_true (show (24:Int) < r.fDen.length by omega),decide_eq_false (fun g:bX r=>by have:=g.2.2.2.1;omega)];rfl
          · rw [decide_eq_false (show ¬(24:Int) < r.fDen.length by omega)]
            simp only [Option.bind_some,Bool.false_eq_true,if_false]
            have e1:=oJ c1.1
            have e2:=oJ c2
            have g:=aIw (val r.fNum.fMag) (val r.fDen) (by rw [← e1];omega) (by rw [← e2];omega)
            rw [← e1,← e2] at g
            rw [g]
            have o:=aHg (Nat.gcd (val r.fNum.fMag) (val r.fDen))
            unfold iG at o
            simp only [Option.bind_some]
            rw [o]
            congr 1
            exact decide_eq_decide.2 ⟨fun q=>⟨c1,c2,c3,by omega,by omega,q⟩,fun q=>q.2.2.2.2.2⟩
    · rw [decide_eq_false c2,decide_eq_false (fun g:bX r=>c2 g.2.1)];rfl
  · rw [decide_eq_false c1,decide_eq_false (fun g:bX r=>c1 g.1)];rfl
theorem fN (r:Rat) (h:aS r≤4294967296):cK r=some (decide (bX r)):=by
  obtain ⟨h1,h2⟩:=aLD r h
  unfold cK
  rw [aMD _ h1]
  simp only [Option.bind_some]
  by_cases c1:xY r.fNum
  · rw [decide_eq_true c1,if_pos rfl,aGo _ h2]
    simp only [Option.bind_some]
    by_cases c2:vX r.fDen
    · rw [decide_eq_true c2,if_pos rfl]
      by_cases c3:r.fDen=[]
      · rw [decide_eq_false (fun g:bX r=>g.2.2.1 c3),if_pos (by rw [c3];rfl)];rfl
      · have hn:r.fDen.length≠0:=fun e=>c3 (List.length_eq_zero_iff.1 e)
        rw [if_neg (by omega)]
        by_cases c5:24 < r.fDen.length
        · rw [if_pos (by omega),decide_eq_false (fun g:bX r=>by have:=g.2.2.2.1;omega)];rfl
        · rw [if_neg (by omega)]
          by_cases c4:24 < r.fNum.fMag.length
          · rw [decide_eq_true (show (24:Int) < r.fNum.fMag.length by omega),decide_eq_false (fun g:bX r=>by have:=g.2.2.2.2.1;omega)];rfl
          · rw [decide_eq_false (show ¬(24:Int) < r.fNum.fMag.length by omega)]
            simp only [Option.bind_some,Bool.false_eq_true,if_false]
            have e1:=oJ c1.1
            have e2:=oJ c2
            have g:=aIF (val r.fNum.fMag) (val r.fDen) (by rw [← e1];omega) (by rw [← e2];omega)
            rw [← e1,← e2] at g
            rw [g]
            simp only [Option.bind_some]
            rw [aHg]
            simp only [Option.bind_some]
            congr 1
            exact decide_eq_decide.2 ⟨fun q=>⟨c1,c2,c3,by omega,by omega,q⟩,fun q=>q.2.2.2.2.2⟩
    · rw [decide_eq_false c2,decide_eq_false (fun g:bX r=>c2 g.2.1)];rfl
  · rw [decide_eq_false c1,decide_eq_false (fun g:bX r=>c1 g.1)];rfl
theorem aAF {r:Rat} (h:bX r):∃ (n:Int) (d:Nat),r=⟨big n,aB d⟩∧0 < d∧bl n≤24∧(aB d).length≤24∧Nat.gcd n.natAbs d=1:=by
  obtain ⟨h1,h2,h3,h4,h5,h6⟩:=h
  have e1:=aNC h1
  have e2:=oJ h2
  refine ⟨aMm r.fNum,val r.fDen,?_,?_,?_,by rw [← e2];exact h4,by rw [aGh];exact h6⟩
  · rw [← e1,← e2]
  · rcases Nat.eq_zero_or_pos (val r.fDen) with z | z
    · rw [z,bN] at e2;exact absurd e2 h3
    · exact z
  · unfold bl;rw [aGh,← oJ h1.1];exact h5
theorem aCd (d:Nat):(⟨false,aB d⟩:BigInt)=big (d:Int):=by
  unfold big
  rw [decide_eq_false (by omega),Int.natAbs_natCast]
theorem aC0 {n:Int} {d:Nat} (h:0 < d):eD ⟨big n,aB d⟩=some true:=by
  unfold eD
  have:(aB d).length≠0:=fun e=>eE (n:=d) (by omega) (List.length_eq_zero_iff.1 e)
  simp only []
  rw [decide_eq_true (by omega)]
def aLm (n:Int) (d:Nat) (m:Int) (e:Nat):Rat:=mkR (decide (n*e+m*d < 0)) (n*e+m*d).natAbs (d*e)
theorem aIp (n:Int) (d:Nat) (m:Int) (e:Nat) (hd:0 < d) (he:0 < e) (h1:bl n≤24) (h2:(aB d).length≤24) (h3:bl m≤24) (h4:(aB e).length≤24):cX ⟨big n,aB d⟩ ⟨big m,aB e⟩=some (aLm n d m e):=by
  unfold cX
  rw [aC0 hd,aC0 he]
  simp only [Option.bind_some,if_true,Bool.not_true,Bool.false_eq_true,if_false,hG]
  have b1:bl (e:Int)≤24:=by unfold bl;rw [Int.natAbs_natCast];exact h4
  have b2:bl (d:Int)≤24:=by unfold bl;rw [Int.natAbs_natCast];exact h2
  have b3:=aAV n e
  have b4:=aAV m d
  have b5:=aJT (n*e) (m*d)
  have b6:=aAV d e
  rw [aCd,aCd,yX n e (by omega) (by omega) (by omega),yX m d (by omega) (by omega) (by omega)]
  simp only [Option.bind_some]
  rw [aMn _ _ (by omega) (by omega) (by omega),yX d e (by omega) (by omega) (by omega)]
  simp only [Option.bind_some]
  unfold big aLm
  unfold bl at b5 b6 b1 b2 b3 b4 h1 h3
  rw [aDS _ _ _ _ (by omega) (by omega)]
  have:decide ((d:Int)*(e:Int) < 0)=false:=decide_eq_false (by have:=Int.mul_nonneg (a:=(d:Int)) (b:=(e:Int)) (by omega) (by omega);omega)
  rw [this,Int.natAbs_mul,Int.natAbs_natCast,Int.natAbs_natCast]
  simp only [Option.bind_some]
  congr 2
  cases decide (n*(e:Int)+m*(d:Int) < 0) <;> rfl
theorem aL8 (n:Int) (d:Nat) (m:Int) (e:Nat) (hd:0 < d) (he:0 < e) (h1:bl n≤24) (h2:(aB d).length≤24) (h3:bl m≤24) (h4:(aB e).length≤24):qR ⟨big n,aB d⟩ ⟨big m,aB e⟩=some (aLm n d m e):=by
  have b1:bl (e:Int)≤24:=by unfold bl;rw [Int.natAbs_natCast];exact h4
  have b2:bl (d:Int)≤24:=by unfold bl;rw [Int.natAbs_natCast];exact h2
  have b3:=aAV n e
  have b4:=aAV m d
  have b5:=aJT (n*e) (m*d)
  have b7:=aJT n m
  have b6:=eO d e
  unfold qR
  simp only []
  rw [aHg,aHg]
  simp only [Option.bind_some]
  have key:((if decide (d=1)=true then some (decide (e=1)) else some false):Option Bool)=some (decide (d=1∧e=1)):=by
    by_cases c:d=1 <;> simp [c]
  rw [key]
  simp only [Option.bind_some]
  by_cases c:d=1∧e=1
  · rw [decide_eq_true c,if_pos rfl,aIE n m (by omega) (by omega) (by omega)]
    simp only [Option.bind_some]
    obtain ⟨c1,c2⟩:=c
    unfold aLm
    rw [wF]
    unfold bl at b7 h1 h3
    simp only [big]
    rw [aDE _ _ _ (by omega) (by rw [← wF];simp),c1,c2]
    simp
  · rw [decide_eq_false c,if_neg (by simp)]
    have p1:(aB (n.natAbs*e)).length≤48:=by have:=eO n.natAbs e;unfold bl at h1;omega
    have p2:(aB (m.natAbs*d)).length≤48:=by have:=eO m.natAbs d;unfold bl at h3;omega
    have q1:dK (big n).fMag (aB e)=some (aB (n.natAbs*e)):=by unfold bl at h1;exact (pH n.natAbs e (by omega) (by omega)).1
    have q2:dK (big m).fMag (aB d)=some (aB (m.natAbs*d)):=by unfold bl at h3;exact (pH m.natAbs d (by omega) (by omega)).1
    have q3:cV (big n).fNeg (aB (n.natAbs*e))=some (big (n*e)):=aG0 n e (by omega)
    have q4:cV (big m).fNeg (aB (m.natAbs*d))=some (big (m*d)):=aG0 m d (by omega)
    rw [q1]
    simp only [Option.bind_some]
    rw [q3]
    simp only [Option.bind_some]
    rw [q2]
    simp only [Option.bind_some]
    rw [q4]
    simp only [Option.bind_some]
    rw [aIE _ _ (by omega) (by omega) (by omega)]
    simp only [Option.bind_some]
    rw [(pH d e (by omega) (by omega)).1]
    simp only [Option.bind_some]
    unfold aLm
    unfold bl at b5 b3 b4 h1 h3 b1 b2
    simp only [big]
    rw [aDE _ _ _ (by omega) (by omega)];rfl
end Go.Ev
/- Fractions: the interface that both programs meet. -/
namespace Go.Ev
set_option linter.all false
def VZ (r:Rat):Prop:=bX r∨r=qE
theorem aBh:¬bX qE:=fun h=>h.2.2.1 rfl
theorem aCq:VZ qE:=.inr rfl
theorem rS {r:Rat} (h:VZ r):aS r≤48:=by
  rcases h with h | h
  · unfold aS cQ fI
    simp only [oV]
    have h1:=h.2.2.2.1
    have h2:=h.2.2.2.2.1
    omega
  · subst h;exact aMF
theorem aF9 {n:Nat} (h:0 < n):aB n≠[]:=eE (by omega)
theorem aJw (s:Bool) (x y:Nat):VZ (mkR s x y):=by
  unfold mkR
  by_cases c:y=0
  · rw [if_pos c];exact aCq
  · rw [if_neg c]
    by_cases c2:24 < (aB (x / Nat.gcd x y)).length∨24 < (aB (y / Nat.gcd x y)).length
    · rw [if_pos c2];exact aCq
    · rw [if_neg c2]
      left
      have hg0:0 < Nat.gcd x y:=Nat.gcd_pos_of_pos_right x (Nat.pos_of_ne_zero c)
      have hy:0 < y / Nat.gcd x y:=Nat.div_pos (Nat.gcd_le_right x (Nat.pos_of_ne_zero c)) hg0
      refine ⟨⟨aDn (by omega),fun h=>?_⟩,aDn (by omega),aF9 hy,by show (aB (y / Nat.gcd x y)).length≤24;omega,by show (aB (x / Nat.gcd x y)).length≤24;omega,?_⟩
      · simp only [Bool.and_eq_true,decide_eq_true_eq] at h
        exact eE h.2
      · simp only [dO]
        have:=Nat.gcd_div (Nat.gcd_dvd_left x y) (Nat.gcd_dvd_right x y)
        rw [this,Nat.div_self hg0]
theorem aKl {s s':Bool} {x y:Nat} (h:x≠0→s=s'):mkR s x y=mkR s' x y:=by
  by_cases c:x=0
  · subst c;unfold mkR;simp
  · rw [h c]
theorem jC {r:Rat} (h:VZ r):eD r=some (decide (bX r)):=by
  unfold eD
  rcases h with h | h
  · have:r.fDen.length≠0:=fun e=>h.2.2.1 (List.length_eq_zero_iff.1 e)
    rw [decide_eq_true h,decide_eq_true (by omega)]
  · subst h
    rw [decide_eq_false aBh];rfl
theorem aDM (r s:Rat) (hr:aS r≤4294967296) (hs:aS s≤4294967296):∃ t,dM r s=some t∧VZ t∧(VZ r→VZ s→cX r s=some t):=by
  unfold dM
  rw [fN r hr]
  simp only [Option.bind_some]
  by_cases c1:bX r
  · rw [decide_eq_true c1,if_pos rfl,fN s hs]
    simp only [Option.bind_some]
    by_cases c2:bX s
    · rw [decide_eq_true c2]
      obtain ⟨n,d,e1,e2,e3,e4,_⟩:=aAF c1
      obtain ⟨m,e,g1,g2,g3,g4,_⟩:=aAF c2
      subst e1;subst g1
      simp only [Bool.not_true,Bool.false_eq_true,if_false]
      have q:=aIp n d m e e2 g2 e3 e4 g3 g4
      rw [aL8 n d m e e2 g2 e3 e4 g3 g4]
      exact ⟨_,rfl,aJw _ _ _,fun _ _=>q⟩
    · rw [decide_eq_false c2]
      refine ⟨qE,rfl,aCq,fun v1 v2=>?_⟩
      unfold cX
      rw [jC v1,jC v2,decide_eq_true c1,decide_eq_false c2];rfl
  · rw [decide_eq_false c1]
    refine ⟨qE,rfl,aCq,fun v1 v2=>?_⟩
    unfold cX
    rw [jC v1,decide_eq_false c1];rfl
def aNA (n:Int) (d:Nat) (m:Int) (e:Nat):Rat:=mkR (!(decide (n < 0) == decide (m < 0))) (n.natAbs*m.natAbs) (d*e)
theorem aLF (n:Int) (d:Nat) (m:Int) (e:Nat) (hd:0 < d) (he:0 < e) (h1:bl n≤24) (h2:(aB d).length≤24) (h3:bl m≤24) (h4:(aB e).length≤24):dN ⟨big n,aB d⟩ ⟨big m,aB e⟩=some (aNA n d m e):=by
  unfold dN
  rw [aC0 hd,aC0 he]
  simp only [Option.bind_some,if_true,Bool.not_true,Bool.false_eq_true,if_false,hG]
  have b1:bl (e:Int)≤24:=by unfold bl;rw [Int.natAbs_natCast];exact h4
  have b2:bl (d:Int)≤24:=by unfold bl;rw [Int.natAbs_natCast];exact h2
  have b3:=aAV n m
  have b6:=aAV d e
  rw [yX n m (by omega) (by omega) (by omega),aCd,aCd,yX d e (by omega) (by omega) (by omega)]
  simp only [Option.bind_some]
  unfold big aNA
  unfold bl at b6 b1 b2 b3 h1 h3
  rw [aDS _ _ _ _ (by omega) (by omega)]
  have:decide ((d:Int)*(e:Int) < 0)=false:=decide_eq_false (by have:=Int.mul_nonneg (a:=(d:Int)) (b:=(e:Int)) (by omega) (by omega);omega)
  rw [this,Int.natAbs_mul,Int.natAbs_mul,Int.natAbs_natCast,Int.natAbs_natCast]
  simp only [Option.bind_some]
  congr 1
  refine aKl fun hx=>?_
  have q:=aHu n m
  rw [decide_eq_true hx,Bool.and_true] at q
  rw [← q]
  cases decide (n < 0) <;> cases decide (m < 0) <;> rfl
theorem aL7 (n:Int) (d:Nat) (m:Int) (e:Nat) (h1:bl n≤24) (h2:(aB d).length≤24) (h3:bl m≤24) (h4:(aB e).length≤24):xB ⟨big n,aB d⟩ ⟨big m,aB e⟩=some (aNA n d m e):=by
  unfold bl at h1 h3
  have b1:=eO n.natAbs m.natAbs
  have b2:=eO d e
  unfold xB
  simp only [big]
  rw [(pH _ _ (by omega) (by omega)).1]
  simp only [Option.bind_some]
  rw [(pH _ _ (by omega) (by omega)).1]
  simp only [Option.bind_some]
  rw [aDE _ _ _ (by omega) (by omega)]
  rfl
theorem aMt (r s:Rat) (hr:aS r≤4294967296) (hs:aS s≤4294967296):∃ t,eG r s=some t∧VZ t∧(VZ r→VZ s→dN r s=some t):=by
  unfold eG
  rw [fN r hr]
  simp only [Option.bind_some]
  by_cases c1:bX r
  · rw [decide_eq_true c1,if_pos rfl,fN s hs]
    simp only [Option.bind_some]
    by_cases c2:bX s
    · rw [decide_eq_true c2]
      obtain ⟨n,d,e1,e2,e3,e4,_⟩:=aAF c1
      obtain ⟨m,e,g1,g2,g3,g4,_⟩:=aAF c2
      subst e1;subst g1
      simp only [Bool.not_true,Bool.false_eq_true,if_false]
      rw [aL7 n d m e e3 e4 g3 g4]
      exact ⟨_,rfl,aJw _ _ _,fun _ _=>aLF n d m e e2 g2 e3 e4 g3 g4⟩
    · rw [decide_eq_false c2]
      refine ⟨qE,rfl,aCq,fun v1 v2=>?_⟩
      unfold dN
      rw [jC v1,jC v2,decide_eq_true c1,decide_eq_false c2];rfl
  · rw [decide_eq_false c1]
    refine ⟨qE,rfl,aCq,fun v1 v2=>?_⟩
    unfold dN
    rw [jC v1,decide_eq_false c1];rfl
def zT (r:Rat):Int:=if bX r then (if r.fNum.fMag=[] then 0 else if r.fNum.fNeg=true then -1 else 1) else 0
theorem aBl {r:Rat} (h:0 < zT r):bX r:=by
  unfold zT at h
  by_cases c:bX r
  · exact c
  · rw [if_neg c] at h;omega
theorem aD7 (r:Rat) (hr:aS r≤4294967296):lS r=some (zT r)∧oP r=some (zT r):=by
  unfold lS oP zT
  rw [aBW r hr,fN r hr]
  simp only [Option.bind_some]
  by_cases c1:bX r
  · rw [decide_eq_true c1,if_pos c1,if_pos rfl,if_pos rfl]
    unfold yC
    rw [jC (.inl c1),decide_eq_true c1]
    simp only [Option.bind_some,if_true]
    by_cases c2:r.fNum.fMag=[]
    · rw [if_pos c2,decide_eq_true (by rw [c2];rfl)];exact ⟨rfl,rfl⟩
    · have:r.fNum.fMag.length≠0:=fun e=>c2 (List.length_eq_zero_iff.1 e)
      rw [if_neg c2,decide_eq_false (by omega)]
      simp only [Bool.false_eq_true,if_false]
      cases r.fNum.fNeg <;> exact ⟨rfl,rfl⟩
  · rw [decide_eq_false c1,if_neg c1];exact ⟨rfl,rfl⟩
theorem aNf (a b:List Int) (h:a.length≤4294967296):rT a b=some (decide (a=b)):=by
  unfold rT
  by_cases c:a.length=b.length
  · rw [if_neg (by omega)]
    have main:∀ m k:Nat,m+k=a.length→lp (jD a b) (k:Int)=some (if a.drop k=b.drop k then .inl () else .inr false):=by
      intro m
      induction m with
      | zero =>
        intro k hk
        rw [if_pos (by rw [List.drop_eq_nil_of_le (by omega),List.drop_eq_nil_of_le (by omega)])]
        exact aN (by unfold jD;rw [if_neg (by omega)])
      | succ m ih =>
        intro k hk
        have h1:k < a.length:=by omega
        have h2:k < b.length:=by omega
        by_cases e:a[k]=b[k]
        · have s1:jD a b (k:Int)=some (.inl ((k+1:Nat):Int)):=by
            unfold jD
            rw [if_pos (by omega),aI h1,aI h2,wi (by omega)];simp [e]
          rw [bF s1,ih (k+1) (by omega)]
          have:a.drop k=b.drop k↔a.drop (k+1)=b.drop (k+1):=by
            rw [List.drop_eq_getElem_cons h1,List.drop_eq_getElem_cons h2,List.cons.injEq]
            exact ⟨fun h=>h.2,fun h=>⟨e,h⟩⟩
          simp only [this]
        · have:¬a.drop k=b.drop k:=by
            rw [List.drop_eq_getElem_cons h1,List.drop_eq_getElem_cons h2,List.cons.injEq]
            exact fun h=>e h.1
          rw [if_neg this]
          refine aN ?_
          unfold jD
          rw [if_pos (by omega),aI h1,aI h2];simp [e]
    have:=main a.length 0 (by omega)
    rw [show ((0:Nat):Int)=0 from rfl,List.drop_zero,List.drop_zero] at this
    rw [this]
    by_cases e:a=b
    · simp [e]
    · simp [e]
  · rw [if_pos (by omega),decide_eq_false (fun e=>c (by rw [e]))]
theorem aGG:dH=cY:=rfl
theorem aJV (r s:Rat) (hr:aS r≤4294967296):∃ b,cY r s=some b:=by
  obtain ⟨h1,h2⟩:=aLD r hr
  unfold cY
  rw [aNf _ _ h1,aNf _ _ h2]
  simp only [Option.bind_some]
  split
  · split
    · exact ⟨_,rfl⟩
    · exact ⟨_,rfl⟩
  · exact ⟨_,rfl⟩
theorem aCM (n:Int) (h:-9223372036854775808≤n∧n≤9223372036854775807):bX (yL n):=by
  have hl:=jU (v:=n.natAbs) (by omega)
  unfold yL
  rw [wF]
  refine ⟨⟨aDn (by omega),fun hn=>?_⟩,aDn (by rw [← wF];simp),aF9 (by omega),by rw [← wF];simp,by show (aB n.natAbs).length≤24;omega,?_⟩
  · simp only [big,decide_eq_true_eq] at hn
    exact eE (by omega)
  · simp only [dO,Nat.gcd_one_right]
end Go.Ev
/- Is a number in a list. -/
namespace Go.Ev
set_option linter.all false
theorem aAu (l:List Int) (n:Int) (h:l.length≤4294967296):eZ l n=some (decide (n ∈ l)):=by
  have main:∀ m k:Nat,m+k=l.length→lp (lA l n) (k:Int)=some (if n ∈ l.drop k then .inr true else .inl ()):=by
    intro m
    induction m with
    | zero =>
      intro k hk
      have:k=l.length:=by omega
      subst this
      rw [aN (r:=.inl ()) (by unfold lA;rw [if_neg (by omega)]),List.drop_length];simp
    | succ m ih =>
      intro k hk
      have hlt:k < l.length:=by omega
      rw [List.drop_eq_getElem_cons hlt]
      by_cases c:l[k]=n
      · rw [aN (r:=.inr true) (by unfold lA;rw [if_pos (by omega),aI hlt];simp [c]),if_pos (by simp [c])]
      · have e:lA l n (k:Int)=some (.inl ((k:Int)+1)):=by
          unfold lA;rw [if_pos (by omega),aI hlt,wi (by omega)];simp [c]
        rw [bF e,show (k:Int)+1=((k+1:Nat):Int) by omega,ih (k+1) (by omega)]
        have:(n ∈ l[k]::l.drop (k+1))↔n ∈ l.drop (k+1):=by
          rw [List.mem_cons];exact ⟨fun h=>h.resolve_left (fun e=>c e.symm),.inr⟩
        simp only [this]
  have:=main l.length 0 (by omega)
  rw [show ((0:Nat):Int)=0 from rfl,List.drop_zero] at this
  unfold eZ
  rw [this]
  by_cases c:n ∈ l <;> simp [c]
theorem tE (l:List Int) (n:Int) (h:l.length≤4294967296):lN l n=some (decide (n ∈ l)):=aAu l n h
end Go.Ev
/- Conditionals and nets, both programs. -/
namespace Go.Ev
set_option linter.all false
theorem aIJ (a:Int):rM a=some (decide (0≤a∧a≤9)):=by
  unfold rM
  by_cases h:0≤a
  · rw [if_pos h];congr 1;rw [decide_eq_decide];omega
  · rw [if_neg h,decide_eq_false (by omega)]
theorem aG2 (a:Int):oE a=some (decide (0≤a∧a≤9)):=by
  unfold oE
  rw [aDF];rfl
def aIt (c:Conditional) (k:Nat) (p:Parent):Prop:=(0≤p.fNode∧p.fNode≤9)∧p.fNode≠c.fNode∧(∀ q,0 < k→c.fParents[k - 1]?=some q→q.fNode < p.fNode)∧0 < zT p.fShare∧bX p.fDX∧bX p.fDY
theorem aN1 {c:Conditional} (h:aQ c≤4294967296) {k:Nat} (hk:k < c.fParents.length):aS (c.fParents[k]).fShare≤4294967296∧aS (c.fParents[k]).fDX≤4294967296∧aS (c.fParents[k]).fDY≤4294967296:=by
  unfold aQ cU at h
  have:=gG (w:=bZ) (List.getElem_mem hk)
  have e:bZ c.fParents[k]=aS (c.fParents[k]).fShare+aS (c.fParents[k]).fDX+aS (c.fParents[k]).fDY:=rfl
  omega
theorem aLP {c:Conditional} (h:aQ c≤4294967296):c.fParents.length≤4294967296∧aS c.fTotal≤4294967296:=by
  unfold aQ cU at h
  have:=cO bZ c.fParents
  omega
theorem aJc (c:Conditional) (h:aQ c≤4294967296):∀ m k:Nat,m+k=c.fParents.length→∀ s:Rat,VZ s →
    ∃ r,lp (cL c) ((k:Int),s)=some r∧lp (cM c) ((k:Int),s)=some r ∧
      (match r with | .inl v=>VZ v∧∀ j (hj:j < c.fParents.length),k≤j→aIt c j c.fParents[j] | .inr b=>b=false):=by
  have hl:=(aLP h).1
  intro m
  induction m with
  | zero =>
    intro k hk s hs
    refine ⟨.inl s,aN ?_,aN ?_,hs,fun j hj hkj=>by omega⟩
    · unfold cL;simp only [];rw [if_neg (by omega)]
    · unfold cM;simp only [];rw [if_neg (by omega)]
  | succ m ih =>
    intro k hk s hs
    have hlt:k < c.fParents.length:=by omega
    obtain ⟨z1,z2,z3⟩:=aN1 h hlt
    obtain ⟨g1,g2⟩:=aD7 _ z1
    have a1:=aBW _ z2
    have a2:=aBW _ z3
    have b1:=fN _ z2
    have b2:=fN _ z3
    obtain ⟨t,t1,t3,t4⟩:=aDM s (c.fParents[k]).fShare (by have:=rS hs;omega) z1
    have step:(aIt c k c.fParents[k]→cL c ((k:Int),s)=some (.inl (((k+1:Nat):Int),t))∧cM c ((k:Int),s)=some (.inl (((k+1:Nat):Int),t))) ∧
        (¬aIt c k c.fParents[k]→cL c ((k:Int),s)=some (.inr (.inr false))∧cM c ((k:Int),s)=some (.inr (.inr false))):=by
      have w1:IntKind.i64.wrap ((k:Int)+1)=((k+1:Nat):Int):=by rw [wi (by omega)];omega
      have hin:(k:Int) < (c.fParents.length:Int):=by omega
      unfold cL cM
      simp only [hin,if_true,aI hlt,Option.bind_some,aIJ,aG2,g1,g2,a1,a2,b1,b2,t1,w1]
      by_cases A:0≤(c.fParents[k]).fNode∧(c.fParents[k]).fNode≤9
      · by_cases B:(c.fParents[k]).fNode=c.fNode
        · refine ⟨fun g=>absurd B g.2.1,fun _=>?_⟩
          simp [A,B]
        · by_cases D:0 < zT (c.fParents[k]).fShare
          · have D':¬zT (c.fParents[k]).fShare≤0:=by omega
            have t5:=t4 hs (.inl (aBl D))
            by_cases K:0 < k
            · have hlt2:k - 1 < c.fParents.length:=by omega
              have w2:IntKind.i64.wrap ((k:Int) - 1)=((k - 1:Nat):Int):=by rw [wi (by omega)];omega
              have K':(0:Int) < (k:Int):=by omega
              simp only [A,B,K',D',w2,aI hlt2,and_self,decide_true,if_true,if_false,Option.bind_some]
              by_cases C:(c.fParents[k]).fNode≤(c.fParents[k - 1]).fNode
              · refine ⟨fun g=>?_,fun _=>?_⟩
                · have:=g.2.2.1 (c.fParents[k - 1]) K (by rw [List.getElem?_eq_getElem hlt2]);omega
                · simp [C]
              · by_cases E:bX (c.fParents[k]).fDX
                · by_cases F:bX (c.fParents[k]).fDY
                  · refine ⟨fun _=>?_,fun g=>absurd ⟨A,B,fun q _ hq=>?_,D,E,F⟩ g⟩
                    · simp [C,E,F,t5]
                    · rw [List.getElem?_eq_getElem hlt2] at hq;cases hq;omega
                  · refine ⟨fun g=>absurd g.2.2.2.2.2 F,fun _=>?_⟩
                    simp [C,E,F]
                · refine ⟨fun g=>absurd g.2.2.2.2.1 E,fun _=>?_⟩
                  simp [C,E]
            · have K':¬(0:Int) < (k:Int):=by omega
              simp only [A,B,K',D',and_self,decide_true,if_true,if_false,Option.bind_some]
              by_cases E:bX (c.fParents[k]).fDX
              · by_cases F:bX (c.fParents[k]).fDY
                · refine ⟨fun _=>?_,fun g=>absurd ⟨A,B,fun q hq _=>absurd hq K,D,E,F⟩ g⟩
                  simp [E,F,t5]
                · refine ⟨fun g=>absurd g.2.2.2.2.2 F,fun _=>?_⟩
                  simp [E,F]
              · refine ⟨fun g=>absurd g.2.2.2.2.1 E,fun _=>?_⟩
                simp [E]
          · have D':zT (c.fParents[k]).fShare≤0:=by omega
            refine ⟨fun g=>absurd g.2.2.2.1 D,fun _=>?_⟩
            by_cases K:0 < k
            · have hlt2:k - 1 < c.fParents.length:=by omega
              have w2:IntKind.i64.wrap ((k:Int) - 1)=((k - 1:Nat):Int):=by rw [wi (by omega)];omega
              have K':(0:Int) < (k:Int):=by omega
              simp only [A,B,K',D',w2,aI hlt2,and_self,decide_true,if_true,if_false,Option.bind_some]
              by_cases C:(c.fParents[k]).fNode≤(c.fParents[k - 1]).fNode <;> simp [C]
            · have K':¬(0:Int) < (k:Int):=by omega
              simp only [A,B,K',D',and_self,decide_true,if_true,if_false,Option.bind_some]
              simp
      · refine ⟨fun g=>absurd g.1 A,fun _=>?_⟩
        simp [A]
    by_cases G:aIt c k c.fParents[k]
    · obtain ⟨s1,s2⟩:=step.1 G
      rw [bF s1,bF s2]
      obtain ⟨r,e1,e2,e3⟩:=ih (k+1) (by omega) t t3
      refine ⟨r,e1,e2,?_⟩
      cases r with
      | inl v =>
        refine ⟨e3.1,fun j hj hkj=>?_⟩
        by_cases e:j=k
        · subst e;exact G
        · exact e3.2 j hj (by omega)
      | inr b=>exact e3
    · obtain ⟨s1,s2⟩:=step.2 G
      exact ⟨.inr false,aN s1,aN s2,rfl⟩
theorem aMN:VZ (yL 0):=.inl (aCM 0 (by omega))
theorem aKE (c:Conditional) (h:aQ c≤4294967296):∃ b,eC c=some b∧gB c=some b∧(b=true→(1≤c.fNode∧c.fNode≤9)∧∀ j (hj:j < c.fParents.length),aIt c j c.fParents[j]):=by
  obtain ⟨hl,hT⟩:=aLP h
  obtain ⟨g1,g2⟩:=aD7 _ hT
  obtain ⟨r,e1,e2,e3⟩:=aJc c h c.fParents.length 0 (by omega) (yL 0) aMN
  rw [show ((0:Nat):Int)=0 from rfl] at e1 e2
  unfold eC gB
  rw [lU 0 (by omega),mM 0 (by omega),lU 1 (by omega),mM 1 (by omega)]
  simp only [Option.bind_some,e1,e2,g1,g2,aDF]
  by_cases A:1≤c.fNode∧c.fNode≤9
  · have A1:¬c.fNode < 1:=by omega
    have A2:¬10≤c.fNode:=by omega
    by_cases B:0 < zT c.fTotal
    · have B':¬zT c.fTotal≤0:=by omega
      by_cases D:c.fParents.length=0
      · have D1:¬(0:Int) < (c.fParents.length:Int):=by omega
        have D2:(c.fParents.length:Int)=0:=by omega
        refine ⟨false,?_,?_,fun h=>by cases h⟩
        · cases r with
          | inl v=>simp only [A,B,D1,and_self,decide_true,if_true,if_false,Option.bind_some]
          | inr b=>simp only [] at e3;subst e3;rfl
        · simp [A1,A2,B',D2]
      · have D1:(0:Int) < (c.fParents.length:Int):=by omega
        have D2:¬(c.fParents.length:Int)=0:=by omega
        cases r with
        | inl v =>
          obtain ⟨b,hb⟩:=aJV v (yL 1) (by have:=rS e3.1;omega)
          refine ⟨b,?_,?_,fun _=>⟨A,fun j hj=>e3.2 j hj (by omega)⟩⟩
          · simp only [A,B,D1,hb,and_self,decide_true,if_true,if_false,Option.bind_some]
          · rw [aGG];simp only [A1,A2,B',D2,hb,decide_false,if_true,if_false,Option.bind_some,Bool.false_eq_true]
        | inr b =>
          simp only [] at e3;subst e3
          refine ⟨false,rfl,?_,fun h=>by cases h⟩
          simp [A1,A2,B',D2]
    · have B':zT c.fTotal≤0:=by omega
      refine ⟨false,?_,?_,fun h=>by cases h⟩
      · cases r with
        | inl v=>simp [A,B]
        | inr b=>simp only [] at e3;subst e3;rfl
      · simp [A1,A2,B']
  · refine ⟨false,?_,?_,fun h=>by cases h⟩
    · cases r with
      | inl v=>simp [A]
      | inr b=>simp only [] at e3;subst e3;rfl
    · by_cases A1:c.fNode < 1
      · simp [A1]
      · have A2:10≤c.fNode:=by omega
        simp [A1,A2]
end Go.Ev
/- Fractions: quotients, differences, negation; the operations as total functions that both programs meet on valid or zero values. -/
namespace Go.Ev
set_option linter.all false
def aN6 (n:Int) (d:Nat) (m:Int) (e:Nat):Rat:=mkR (!(decide (n < 0) == decide (m < 0))) (n.natAbs*e) (d*m.natAbs)
theorem aLG (n:Int) (d:Nat) (m:Int) (e:Nat) (hd:0 < d) (he:0 < e) (h1:bl n≤24) (h2:(aB d).length≤24) (h3:bl m≤24) (h4:(aB e).length≤24):fX ⟨big n,aB d⟩ ⟨big m,aB e⟩=some (aN6 n d m e):=by
  unfold fX
  rw [aC0 hd,aC0 he]
  simp only [Option.bind_some,if_true,Bool.not_true,Bool.false_eq_true,if_false,hG]
  have b1:bl (e:Int)≤24:=by unfold bl;rw [Int.natAbs_natCast];exact h4
  have b2:bl (d:Int)≤24:=by unfold bl;rw [Int.natAbs_natCast];exact h2
  have b3:=aAV n e
  have b4:=aAV m d
  rw [aCd,aCd,yX n e (by omega) (by omega) (by omega),yX m d (by omega) (by omega) (by omega)]
  simp only [Option.bind_some]
  unfold big aN6
  unfold bl at b1 b2 b3 b4 h1 h3
  rw [aDS _ _ _ _ (by omega) (by omega)]
  simp only [Option.bind_some,Int.natAbs_mul,Int.natAbs_natCast]
  congr 1
  rw [Nat.mul_comm d m.natAbs]
  by_cases hm:m=0
  · subst hm;unfold mkR;simp
  · refine aKl fun hx=>?_
    have s1:decide (n*(e:Int) < 0)=decide (n < 0):=by
      rw [decide_eq_decide]
      constructor
      · intro h
        rcases Int.lt_or_le n 0 with g | g
        · exact g
        · have:=Int.mul_nonneg g (by omega:(0:Int)≤e);omega
      · intro h;exact Int.mul_neg_of_neg_of_pos h (by omega)
    have s2:decide (m*(d:Int) < 0)=decide (m < 0):=by
      rw [decide_eq_decide]
      constructor
      · intro h
        rcases Int.lt_or_le m 0 with g | g
        · exact g
        · have:=Int.mul_nonneg g (by omega:(0:Int)≤d);omega
      · intro h;exact Int.mul_neg_of_neg_of_pos h (by omega)
    rw [s1,s2]
theorem aMu (r s:Rat) (hr:aS r≤4294967296) (hs:aS s≤4294967296):∃ t,iJ r s=some t∧VZ t∧(VZ r→VZ s→fX r s=some t):=by
  unfold iJ
  rw [fN r hr]
  simp only [Option.bind_some]
  by_cases c1:bX r
  · rw [decide_eq_true c1,if_pos rfl,fN s hs]
    simp only [Option.bind_some]
    by_cases c2:bX s
    · rw [decide_eq_true c2]
      obtain ⟨n,d,e1,e2,e3,e4,_⟩:=aAF c1
      obtain ⟨m,e,g1,g2,g3,g4,_⟩:=aAF c2
      subst e1;subst g1
      simp only [Bool.not_true,Bool.false_eq_true,if_false]
      have e3':=e3
      have g3':=g3
      unfold bl at e3' g3'
      have b1:=eO n.natAbs e
      have b2:=eO d m.natAbs
      have q:(dK (big n).fMag (aB e))=some (aB (n.natAbs*e)):=(pH _ _ (by omega) (by omega)).1
      have q2:(dK (aB d) (big m).fMag)=some (aB (d*m.natAbs)):=(pH _ _ (by omega) (by omega)).1
      rw [q]
      simp only [Option.bind_some]
      rw [q2]
      simp only [Option.bind_some]
      rw [aDE _ _ _ (by omega) (by omega)]
      exact ⟨_,rfl,aJw _ _ _,fun _ _=>aLG n d m e e2 g2 e3 e4 g3 g4⟩
    · rw [decide_eq_false c2]
      refine ⟨qE,rfl,aCq,fun v1 v2=>?_⟩
      unfold fX
      rw [jC v1,jC v2,decide_eq_true c1,decide_eq_false c2];rfl
  · rw [decide_eq_false c1]
    refine ⟨qE,rfl,aCq,fun v1 v2=>?_⟩
    unfold fX
    rw [jC v1,decide_eq_false c1];rfl
theorem aGX (n:Int) (h:bl n≤24):(aB n.natAbs).length≤24:=h
theorem aKi (n:Int):(if ((aB n.natAbs).length:Int)=0 then (⟨false,[]⟩:BigInt) else ⟨!decide (n < 0),aB n.natAbs⟩)=big (-n):=by
  by_cases c:n=0
  · subst c;simp [big,aB]
  · have:(aB n.natAbs).length≠0:=fun e=>eE (n:=n.natAbs) (by omega) (List.length_eq_zero_iff.1 e)
    rw [if_neg (by omega)]
    unfold big
    rw [Int.natAbs_neg]
    congr 1
    by_cases h:n < 0
    · rw [decide_eq_true h,decide_eq_false (by omega)];rfl
    · rw [decide_eq_false h,decide_eq_true (by omega)];rfl
theorem aGd (l:List Int) (h:l.length≤4294967296):eM l=some l:=by
  unfold eM
  rw [aP (by simp;omega)]
  simp [aZ]
theorem aLE (n:Int) (d:Nat) (hd:0 < d) (h1:bl n≤24) (h2:(aB d).length≤24):kC ⟨big n,aB d⟩=some ⟨big (-n),aB d⟩:=by
  unfold kC
  have h1':=aGX n h1
  rw [aC0 hd]
  simp only [Option.bind_some,if_true,aAX,aAW]
  rw [aGd _ (by omega),aGd _ (by omega)]
  simp only [Option.bind_some]
  unfold eT
  have e:=aKi n
  by_cases c:((aB n.natAbs).length:Int)=0
  · rw [if_pos c] at e;simp [c,e]
  · rw [if_neg c] at e
    rw [if_neg c]
    have:¬(60:Int) < (aB n.natAbs).length:=by omega
    simp [this,e]
theorem aL6 (n:Int) (d:Nat) (h1:bl n≤24) (h2:(aB d).length≤24):qP ⟨big n,aB d⟩=some ⟨big (-n),aB d⟩:=by
  unfold qP
  have h1':=aGX n h1
  simp only [aAX,aAW]
  rw [sE _ _ (by omega),aP (by simp;omega)]
  simp only [Option.bind_some,aZ,List.nil_append]
  have e:=aKi n
  congr 2
  rw [← e]
  by_cases c:n=0
  · subst c;simp [aB]
  · have:(aB n.natAbs).length≠0:=fun e=>eE (n:=n.natAbs) (by omega) (List.length_eq_zero_iff.1 e)
    rw [if_neg (by omega)]
    simp [c]
theorem aGR {n:Int} {d:Nat} (h:bX ⟨big n,aB d⟩) (h1:bl n≤24):bX ⟨big (-n),aB d⟩:=by
  obtain ⟨⟨a1,a2⟩,b,c,d1,e,f⟩:=h
  refine ⟨⟨?_,fun hn=>?_⟩,b,c,d1,?_,?_⟩
  · show vX (aB (-n).natAbs);rw [Int.natAbs_neg];exact a1
  · simp only [big,decide_eq_true_eq] at hn ⊢
    exact eE (by omega)
  · show (aB (-n).natAbs).length≤24;rw [Int.natAbs_neg];exact e
  · show Nat.gcd (val (aB (-n).natAbs)) _=1;rw [Int.natAbs_neg];exact f
theorem aI5 (r:Rat) (hr:aS r≤4294967296):∃ t,lT r=some t∧VZ t∧(VZ r→kC r=some t)∧(bX r→qP r=some t∧bX t):=by
  unfold lT
  rw [fN r hr]
  simp only [Option.bind_some]
  by_cases c1:bX r
  · rw [decide_eq_true c1,if_pos rfl]
    obtain ⟨n,d,e1,e2,e3,e4,_⟩:=aAF c1
    subst e1
    rw [aL6 n d e3 e4]
    exact ⟨_,rfl,.inl (aGR c1 e3),fun _=>aLE n d e2 e3 e4,fun _=>⟨rfl,aGR c1 e3⟩⟩
  · rw [decide_eq_false c1]
    refine ⟨qE,rfl,aCq,fun v1=>?_,fun h=>absurd h c1⟩
    unfold kC
    rw [jC v1,decide_eq_false c1];rfl
theorem aMs (r s:Rat) (hr:aS r≤4294967296) (hs:aS s≤4294967296):∃ t,jV r s=some t∧VZ t∧(VZ r→VZ s→iO r s=some t):=by
  unfold jV
  rw [fN r hr]
  simp only [Option.bind_some]
  obtain ⟨u,u1,u2,u3,u4⟩:=aI5 s hs
  obtain ⟨t,t1,t3,t4⟩:=aDM r u hr (by have:=rS u2;omega)
  by_cases c1:bX r
  · rw [decide_eq_true c1,if_pos rfl,fN s hs]
    simp only [Option.bind_some]
    by_cases c2:bX s
    · rw [decide_eq_true c2]
      simp only [Bool.not_true,Bool.false_eq_true,if_false]
      obtain ⟨u5,u6⟩:=u4 c2
      rw [u5]
      simp only [Option.bind_some]
      have:qR r u=some t:=by
        have:=t1
        unfold dM at this
        rw [fN r hr,fN u (by have:=rS u2;omega),decide_eq_true c1,decide_eq_true u6] at this
        simpa using this
      rw [this]
      refine ⟨t,rfl,t3,fun v1 v2=>?_⟩
      unfold iO
      rw [u3 v2]
      simp only [Option.bind_some]
      rw [t4 v1 u2];rfl
    · rw [decide_eq_false c2]
      refine ⟨qE,rfl,aCq,fun v1 v2=>?_⟩
      unfold iO
      have e:u=qE:=by
        have:=u1
        unfold lT at this
        rw [fN s hs,decide_eq_false c2] at this
        simpa [qE] using this.symm
      rw [u3 v2]
      simp only [Option.bind_some]
      unfold cX
      rw [jC v1,jC u2,decide_eq_true c1,decide_eq_false (by rw [e];exact aBh)];rfl
  · rw [decide_eq_false c1]
    refine ⟨qE,rfl,aCq,fun v1 v2=>?_⟩
    unfold iO
    rw [u3 v2]
    simp only [Option.bind_some]
    unfold cX
    rw [jC v1,decide_eq_false c1];rfl
noncomputable def RA (r s:Rat):Rat:=(dM r s).getD qE
noncomputable def RM (r s:Rat):Rat:=(eG r s).getD qE
noncomputable def RD (r s:Rat):Rat:=(iJ r s).getD qE
noncomputable def RS (r s:Rat):Rat:=(jV r s).getD qE
noncomputable def RN (r:Rat):Rat:=(lT r).getD qE
theorem VZs {r:Rat} (h:VZ r):aS r≤4294967296:=by have:=rS h;omega
theorem aOC {r s:Rat} (hr:aS r≤4294967296) (hs:aS s≤4294967296):dM r s=some (RA r s)∧VZ (RA r s):=by
  obtain ⟨t,t1,t3,t4⟩:=aDM r s hr hs
  have:RA r s=t:=by unfold RA;rw [t1];rfl
  rw [this];exact ⟨t1,t3⟩
theorem aC7 {r s:Rat} (hr:VZ r) (hs:VZ s):dM r s=some (RA r s)∧cX r s=some (RA r s)∧VZ (RA r s):=by
  obtain ⟨t,t1,t3,t4⟩:=aDM r s (VZs hr) (VZs hs)
  have:RA r s=t:=by unfold RA;rw [t1];rfl
  rw [this];exact ⟨t1,t4 hr hs,t3⟩
theorem aGm {r s:Rat} (hr:VZ r) (hs:VZ s):eG r s=some (RM r s)∧dN r s=some (RM r s)∧VZ (RM r s):=by
  obtain ⟨t,t1,t3,t4⟩:=aMt r s (VZs hr) (VZs hs)
  have:RM r s=t:=by unfold RM;rw [t1];rfl
  rw [this];exact ⟨t1,t4 hr hs,t3⟩
theorem aGH {r s:Rat} (hr:VZ r) (hs:VZ s):iJ r s=some (RD r s)∧fX r s=some (RD r s)∧VZ (RD r s):=by
  obtain ⟨t,t1,t3,t4⟩:=aMu r s (VZs hr) (VZs hs)
  have:RD r s=t:=by unfold RD;rw [t1];rfl
  rw [this];exact ⟨t1,t4 hr hs,t3⟩
theorem aI6 {r s:Rat} (hr:VZ r) (hs:VZ s):jV r s=some (RS r s)∧iO r s=some (RS r s)∧VZ (RS r s):=by
  obtain ⟨t,t1,t3,t4⟩:=aMs r s (VZs hr) (VZs hs)
  have:RS r s=t:=by unfold RS;rw [t1];rfl
  rw [this];exact ⟨t1,t4 hr hs,t3⟩
theorem aMv {r:Rat} (hr:VZ r):lT r=some (RN r)∧kC r=some (RN r)∧VZ (RN r):=by
  obtain ⟨t,t1,t3,t4,_⟩:=aI5 r (VZs hr)
  have:RN r=t:=by unfold RN;rw [t1];rfl
  rw [this];exact ⟨t1,t4 hr,t3⟩
theorem aJ8 {n:Int} {d:Nat} (h:bX ⟨big n,aB d⟩):0 < zT ⟨big n,aB d⟩↔0 < n:=by
  unfold zT
  rw [if_pos h]
  simp only [aAX,aAW,decide_eq_true_eq]
  by_cases c:n=0
  · subst c;simp [aB]
  · rw [if_neg (eE (by omega))]
    by_cases h:n < 0
    · rw [if_pos h];omega
    · rw [if_neg h];omega
theorem aMR {x y:Nat} (hx:0 < x) (h:bX (mkR false x y)):0 < zT (mkR false x y):=by
  unfold zT
  rw [if_pos h]
  unfold mkR at h ⊢
  by_cases c:y=0
  · rw [if_pos c] at h;exact absurd h aBh
  · rw [if_neg c] at h ⊢
    by_cases c2:24 < (aB (x / Nat.gcd x y)).length∨24 < (aB (y / Nat.gcd x y)).length
    · rw [if_pos c2] at h;exact absurd h aBh
    · rw [if_neg c2] at h ⊢
      have hg:0 < Nat.gcd x y:=Nat.gcd_pos_of_pos_left y hx
      have:0 < x / Nat.gcd x y:=Nat.div_pos (Nat.gcd_le_left y hx) hg
      simp only [Bool.false_and,Bool.false_eq_true,if_false]
      rw [if_neg (eE (by omega))];omega
theorem aNJ {r s:Rat} (hr:0 < zT r) (hs:0 < zT s) (h:bX (RA r s)):0 < zT (RA r s):=by
  have r1:=aBl hr
  have s1:=aBl hs
  obtain ⟨n,d,e1,e2,e3,e4,_⟩:=aAF r1
  obtain ⟨m,e,g1,g2,g3,g4,_⟩:=aAF s1
  subst e1;subst g1
  have hn:=(aJ8 r1).1 hr
  have hm:=(aJ8 s1).1 hs
  have q:=(aC7 (.inl r1) (.inl s1)).2.1
  rw [aIp n d m e e2 g2 e3 e4 g3 g4] at q
  have q:=Option.some.inj q
  rw [← q] at h ⊢
  unfold aLm at h ⊢
  have p1:0 < n*(e:Int):=Int.mul_pos hn (by omega)
  have p2:0 < m*(d:Int):=Int.mul_pos hm (by omega)
  rw [decide_eq_false (by omega)] at h ⊢
  exact aMR (by omega) h
end Go.Ev
/- Copies of links; the links of a tree. -/
namespace Go.Ev
set_option linter.all false
theorem qQ (x:Rat) (h:aS x≤4294967296):jO x=some x:=by
  unfold aS cQ fI at h
  rw [oV,oV] at h
  unfold jO
  rw [aP (by simp;omega),aP (by simp;omega)]
  simp only [Option.bind_some,aO,List.nil_append]
theorem uT (x:Link) (h:aX x≤4294967296):lO x=some x:=by
  unfold aX at h
  unfold lO
  rw [qQ _ (by omega)]
  simp only [Option.bind_some]
  rw [qQ _ (by omega)]
  simp only [Option.bind_some]
  rw [qQ _ (by omega)]
  simp only [Option.bind_some]
theorem zS (l:List Link) (h:aG l≤4294967296):oA l=some l:=by
  unfold aG at h
  have hl:=cO aX l
  unfold oA
  have:=aAo (step:=qO l) l (fun k t=>((k:Int),t)) (fun t=>t) (fun k t hk ht=>by
    have he:=gG (w:=aX) (List.getElem_mem hk)
    unfold qO
    simp only []
    rw [if_pos (by omega),aI hk]
    simp only [Option.bind_some]
    rw [uT _ (by omega)]
    simp only [Option.bind_some]
    rw [aP (by omega),wi (by omega)];rfl) (fun t ht=>by unfold qO;simp only [];rw [if_neg (by omega)])
  rw [show ((0:Nat):Int)=0 from rfl] at this
  rw [this];rfl
theorem aA8 (l:List Int) (h:l.length≤4294967296):eM l=some l:=by
  unfold eM
  rw [aP (by simp;omega)]
  simp only [Option.bind_some,aO,List.nil_append]
theorem iP (x:Rat) (h:aS x≤4294967296):fS x=some x:=by
  unfold aS cQ fI at h
  rw [oV,oV] at h
  unfold fS
  rw [aA8 _ (by omega)]
  simp only [Option.bind_some]
  rw [aA8 _ (by omega)]
  simp only [Option.bind_some]
theorem aEL (x:Link) (h:aX x≤4294967296):tH x=some x:=by
  unfold aX at h
  unfold tH
  rw [iP _ (by omega)]
  simp only [Option.bind_some]
  rw [iP _ (by omega)]
  simp only [Option.bind_some]
  rw [iP _ (by omega)]
  simp only [Option.bind_some]
theorem sH (l:List Link) (h:aG l≤4294967296):iQ l=some l:=by
  unfold aG at h
  have hl:=cO aX l
  unfold iQ
  have:=aAo (step:=mK l) l (fun k t=>((k:Int),t)) (fun t=>t) (fun k t hk ht=>by
    have he:=gG (w:=aX) (List.getElem_mem hk)
    unfold mK
    simp only []
    rw [if_pos (by omega),aI hk]
    simp only [Option.bind_some]
    rw [aEL _ (by omega)]
    simp only [Option.bind_some]
    rw [aP (by omega),wi (by omega)];rfl) (fun t ht=>by unfold mK;simp only [];rw [if_neg (by omega)])
  rw [show ((0:Nat):Int)=0 from rfl] at this
  rw [this];rfl
def bV (l:List TreeNode):List Link:=(l.map (fun n=>n.fOwn)).flatten
theorem yE:∀ l:List TreeNode,aG (bV l)≤szL aU l
  | []=>by simp [bV,aG,aAC]
  | y::l=>by
    have:=yE l
    have hn:aU y=aG y.fOwn+aQ y.fCond+aG y.fMessages+aS y.fEnergy:=rfl
    unfold bV aG at *
    rw [List.map_cons,List.flatten_cons,aHr,lM]
    omega
theorem aBq (l:List TreeNode) (k:Nat) (hk:k < l.length):bV (l.take (k+1))=bV (l.take k)++l[k].fOwn:=by
  unfold bV
  rw [List.take_succ,List.getElem?_eq_getElem hk,List.map_append,List.flatten_append]
  simp
theorem aLq {α:Type} (w:α→Nat) (l:List α) (k:Nat):szL w (l.take k)≤szL w l:=by
  have:=aHr w (l.take k) (l.drop k)
  rw [List.take_append_drop] at this
  omega
theorem aJs (l:List TreeNode) (h:szL aU l≤4294967296) (k:Nat):(bV (l.take k)).length≤4294967296:=by
  have h1:=yE (l.take k)
  have h2:=aLq aU l k
  have h3:=cO aX (bV (l.take k))
  unfold aG at h1
  omega
end Go.Ev
/- Links: validity, order, merging; adding links to a link set, both programs. -/
namespace Go.Ev
open IntKind
set_option linter.all false
def ValidL (l:Link):Prop:=(0≤l.fA∧l.fA≤9)∧(0≤l.fB∧l.fB≤9)∧l.fA < l.fB∧0 < zT l.fWeight∧bX l.fDX∧bX l.fDY
instance (l:Link):Decidable (ValidL l):=by unfold ValidL;infer_instance
theorem gF (l:Link) (h:aX l≤4294967296):dX l=some (decide (ValidL l))∧gA l=some (decide (ValidL l)):=by
  unfold aX at h
  obtain ⟨g1,g2⟩:=aD7 l.fWeight (by omega)
  have a1:=aBW l.fDX (by omega)
  have a2:=aBW l.fDY (by omega)
  have b1:=fN l.fDX (by omega)
  have b2:=fN l.fDY (by omega)
  unfold dX gA ValidL
  simp only [aIJ,aG2,g1,g2,a1,a2,b1,b2,Option.bind_some]
  by_cases A:0≤l.fA∧l.fA≤9
  · by_cases B:0≤l.fB∧l.fB≤9
    · by_cases C:l.fA < l.fB
      · by_cases D:0 < zT l.fWeight
        · by_cases E:bX l.fDX
          · by_cases F:bX l.fDY <;> simp [A,B,C,D,E,F]
          · simp [A,B,C,D,E]
        · simp [A,B,C,D]
      · simp [A,B,C]
    · simp [A,B]
  · simp [A]
theorem ValidL.vz {l:Link} (h:ValidL l):VZ l.fWeight∧VZ l.fDX∧VZ l.fDY:=⟨.inl (aBl h.2.2.2.1),.inl h.2.2.2.2.1,.inl h.2.2.2.2.2⟩
theorem ValidL.sz {l:Link} (h:ValidL l):aX l≤144:=by
  obtain ⟨h1,h2,h3⟩:=h.vz
  have:=rS h1
  have:=rS h2
  have:=rS h3
  unfold aX;omega
theorem aDP {α:Type} {w:α→Nat} {c:Nat}:∀ {l:List α},(∀ x ∈ l,w x≤c)→szL w l≤(c+1)*l.length
  | [],_=>by simp [aAC]
  | y::l,h=>by
    have h1:=h y (by simp)
    have h2:=aDP (l:=l) (c:=c) (fun x hx=>h x (by simp [hx]))
    rw [lM,List.length_cons,Nat.mul_add,Nat.mul_one];omega
def gC (k l:Link):Prop:=k.fA < l.fA∨(k.fA=l.fA∧k.fB < l.fB)
instance (k l:Link):Decidable (gC k l):=by unfold gC;infer_instance
theorem aGp (k l:Link):oF k l=some (decide (gC k l)):=by
  unfold oF gC
  by_cases A:k.fA < l.fA
  · simp [A]
  · by_cases B:k.fA=l.fA
    · simp [A,B]
    · simp [A,B]
theorem aJa (k l:Link):kJ k l=some (decide (gC k l)):=aGp k l
theorem aBI {a b c:Link} (h:gC a b) (g:gC b c):gC a c:=by unfold gC at *;omega
noncomputable def sqR (x y:Rat):Rat:=RA (RM x x) (RM y y)
noncomputable def aDo (k l:Link):Link:=⟨k.fA,k.fB,RA k.fWeight l.fWeight,RD (RA (RM k.fWeight k.fDX) (RM l.fWeight l.fDX)) (RA k.fWeight l.fWeight),RD (RA (RM k.fWeight k.fDY) (RM l.fWeight l.fDY)) (RA k.fWeight l.fWeight)⟩
noncomputable def aHO (k l:Link):Rat:=RM (RD (RM k.fWeight l.fWeight) (RA k.fWeight l.fWeight)) (sqR (RS k.fDX l.fDX) (RS k.fDY l.fDY))
def aBs (k l:Link):Prop:=bX (aDo k l).fWeight∧bX (aDo k l).fDX∧bX (aDo k l).fDY∧bX (aHO k l)
noncomputable instance (k l:Link):Decidable (aBs k l):=by unfold aBs;infer_instance
def aGJ:Link:=Link.mk 0 0 (Rat.mk (BigInt.mk false ([])) ([])) (Rat.mk (BigInt.mk false ([])) ([])) (Rat.mk (BigInt.mk false ([])) ([]))
theorem aOz {x y:Rat} (hx:VZ x) (hy:VZ y):oY x y=some (sqR x y)∧mG x y=some (sqR x y)∧VZ (sqR x y):=by
  obtain ⟨a1,a2,a3⟩:=aGm hx hx
  obtain ⟨b1,b2,b3⟩:=aGm hy hy
  obtain ⟨c1,c2,c3⟩:=aC7 a3 b3
  unfold oY mG sqR
  simp only [a1,a2,b1,b2,c1,c2,Option.bind_some]
  exact ⟨trivial,trivial,c3⟩
theorem aIC {k l:Link} (hk:ValidL k) (hl:ValidL l) (h:aBs k l):ValidL (aDo k l) :=
  ⟨hk.1,hk.2.1,hk.2.2.1,aNJ hk.2.2.2.1 hl.2.2.2.1 h.1,h.2.1,h.2.2.1⟩
theorem aKp {k l:Link} (hk:ValidL k) (hl:ValidL l) (hA:k.fA=l.fA) (hB:k.fB=l.fB) :
    pC k l=some (if aBs k l then (aDo k l,aHO k l,true) else (aGJ,qE,false))∧pR k l=some (if aBs k l then (aDo k l,aHO k l,true) else (aGJ,qE,false))∧VZ (aHO k l):=by
  obtain ⟨k1,k2,k3⟩:=hk.vz
  obtain ⟨l1,l2,l3⟩:=hl.vz
  obtain ⟨a1,a2,a3⟩:=aC7 k1 l1
  obtain ⟨b1,b2,b3⟩:=aGm k1 k2
  obtain ⟨c1,c2,c3⟩:=aGm l1 l2
  obtain ⟨d1,d2,d3⟩:=aC7 b3 c3
  obtain ⟨e1,e2,e3⟩:=aGH d3 a3
  obtain ⟨f1,f2,f3⟩:=aGm k1 k3
  obtain ⟨g1,g2,g3⟩:=aGm l1 l3
  obtain ⟨i1,i2,i3⟩:=aC7 f3 g3
  obtain ⟨j1,j2,j3⟩:=aGH i3 a3
  obtain ⟨m1,m2,m3⟩:=aGm k1 l1
  obtain ⟨n1,n2,n3⟩:=aGH m3 a3
  obtain ⟨o1,o2,o3⟩:=aI6 k2 l2
  obtain ⟨p1,p2,p3⟩:=aI6 k3 l3
  obtain ⟨q1,q2,q3⟩:=aOz o3 p3
  obtain ⟨r1,r2,r3⟩:=aGm n3 q3
  have v1:=(gF k (by have:=hk.sz;omega)).1
  have v2:=(gF l (by have:=hl.sz;omega)).1
  have vm:=(gF (aDo k l) (by
    have:=rS a3;have:=rS e3;have:=rS j3
    unfold aX aDo;simp only [];omega)).1
  refine ⟨?_,?_,r3⟩
  · unfold pC
    rw [v1,v2,decide_eq_true hk,decide_eq_true hl]
    simp only [Option.bind_some,if_true,hA,hB,ne_eq,not_true_eq_false,if_false,decide_false,Bool.false_eq_true]
    simp only [a1,b1,c1,d1,e1,f1,g1,i1,j1,m1,n1,o1,p1,q1,r1,Option.bind_some]
    rw [← hA,← hB]
    have e:(Link.mk k.fA k.fB (RA k.fWeight l.fWeight) (RD (RA (RM k.fWeight k.fDX) (RM l.fWeight l.fDX)) (RA k.fWeight l.fWeight)) (RD (RA (RM k.fWeight k.fDY) (RM l.fWeight l.fDY)) (RA k.fWeight l.fWeight)))=aDo k l:=rfl
    rw [e,vm]
    have e2:RM (RD (RM k.fWeight l.fWeight) (RA k.fWeight l.fWeight)) (sqR (RS k.fDX l.fDX) (RS k.fDY l.fDY))=aHO k l:=rfl
    rw [e2,fN (aHO k l) (VZs r3)]
    simp only [Option.bind_some]
    by_cases O:aBs k l
    · rw [if_pos O,decide_eq_true (aIC hk hl O),decide_eq_true O.2.2.2];rfl
    · rw [if_neg O]
      by_cases V:ValidL (aDo k l)
      · have:¬bX (aHO k l):=fun h=>O ⟨aBl V.2.2.2.1,V.2.2.2.2.1,V.2.2.2.2.2,h⟩
        rw [decide_eq_true V,decide_eq_false this];rfl
      · rw [decide_eq_false V];rfl
  · unfold pR
    simp only [a2,b2,c2,d2,e2,f2,g2,i2,j2,m2,n2,o2,p2,q2,r2,Option.bind_some,jC a3,jC e3,jC j3,jC r3]
    unfold aBs aDo aHO
    simp only []
    by_cases A:bX (RA k.fWeight l.fWeight)
    · by_cases B:bX (RD (RA (RM k.fWeight k.fDX) (RM l.fWeight l.fDX)) (RA k.fWeight l.fWeight))
      · by_cases C:bX (RD (RA (RM k.fWeight k.fDY) (RM l.fWeight l.fDY)) (RA k.fWeight l.fWeight))
        · by_cases D:bX (RM (RD (RM k.fWeight l.fWeight) (RA k.fWeight l.fWeight)) (sqR (RS k.fDX l.fDX) (RS k.fDY l.fDY))) <;> simp [A,B,C,D,aGJ,qE]
        · simp [A,B,C,aGJ,qE]
      · simp [A,B,aGJ,qE]
    · simp [A,aGJ,qE]
def LSet (s:List Link):Prop:=(∀ x ∈ s,ValidL x)∧s.Pairwise gC
noncomputable instance (s:List Link):Decidable (LSet s):=Classical.propDecidable _
theorem aKu:∀ (l:List Int) (a N:Int),l.Pairwise (· < ·)→(∀ x ∈ l,a≤x∧x < N)→(l.length:Int)≤max 0 (N - a)
  | [],a,N,_,_=>by rw [List.length_nil];omega
  | x::l,a,N,h,hb=>by
    rw [List.pairwise_cons] at h
    have h1:=hb x (by simp)
    have:=aKu l (x+1) N h.2 (fun y hy=>⟨by have:=h.1 y hy;omega,(hb y (by simp [hy])).2⟩)
    rw [List.length_cons];omega
theorem LSet.len {s:List Link} (h:LSet s):s.length≤100:=by
  have:=aKu (s.map fun l=>l.fA*10+l.fB) 0 100 (by
    rw [List.pairwise_map]
    refine List.Pairwise.imp_of_mem (fun {a b} ha hb hr=>?_) h.2
    have h1:=h.1 a ha
    have h2:=h.1 b hb
    unfold ValidL at h1 h2
    unfold gC at hr
    omega) (by
    intro x hx
    obtain ⟨l,hl,rfl⟩:=List.mem_map.1 hx
    have h1:=h.1 l hl
    unfold ValidL at h1
    omega)
  rw [List.length_map] at this;omega
theorem aDO {s:List Link} (h:∀ x ∈ s,ValidL x):aG s≤145*s.length:=aDP (fun x hx=>(h x hx).sz)
theorem LSet.sz {s:List Link} (h:LSet s):aG s≤14500:=by
  have:=aDO h.1
  have:=h.len
  omega
def lsF:Option Link→List Link→Prop
  | _,[]=>True
  | p,x::r=>ValidL x∧(∀ q,p=some q→gC q x)∧lsF (some x) r
noncomputable instance (p:Option Link) (s:List Link):Decidable (lsF p s):=Classical.propDecidable _
theorem aKq:∀ (s:List Link) (p:Option Link),lsF p s↔LSet s∧∀ q,p=some q→∀ x ∈ s,gC q x
  | [],p=>by simp [lsF,LSet]
  | x::r,p=>by
    rw [lsF,aKq r (some x)]
    unfold LSet
    rw [List.pairwise_cons]
    constructor
    · rintro ⟨h1,h2,⟨h3,h4⟩,h5⟩
      refine ⟨⟨fun y hy=>?_,fun y hy=>h5 x rfl y hy,h4⟩,fun q hq y hy=>?_⟩
      · rcases List.mem_cons.1 hy with rfl | hy
        · exact h1
        · exact h3 y hy
      · rcases List.mem_cons.1 hy with rfl | hy
        · exact h2 q hq
        · exact aBI (h2 q hq) (h5 x rfl y hy)
    · rintro ⟨⟨h1,h2,h3⟩,h4⟩
      exact ⟨h1 x (by simp),fun q hq=>h4 q hq x (by simp),⟨fun y hy=>h1 y (by simp [hy]),h3⟩,fun q hq y hy=>by cases hq;exact h2 y hy⟩
theorem mN (s:List Link) (h:aG s≤4294967296):dS s=some (decide (LSet s)):=by
  unfold aG at h
  have hl:=cO aX s
  have main:∀ m k:Nat,m+k=s.length→∀ p:Option Link,(p=if k=0 then none else s[k - 1]?)→lp (eX s) (k:Int)=some (if lsF p (s.drop k) then .inl () else .inr false):=by
    intro m
    induction m with
    | zero =>
      intro k hk p _
      rw [List.drop_eq_nil_of_le (by omega),if_pos (by simp [lsF])]
      exact aN (by unfold eX;rw [if_neg (by omega)])
    | succ m ih =>
      intro k hk p hp
      have hlt:k < s.length:=by omega
      have hz:=gG (w:=aX) (List.getElem_mem hlt)
      have v:=(gF s[k] (by omega)).1
      rw [List.drop_eq_getElem_cons hlt]
      have st:eX s (k:Int)=some (if ValidL s[k]∧(∀ q,p=some q→gC q s[k]) then .inl ((k+1:Nat):Int) else .inr (.inr false)):=by
        have w1:i64.wrap ((k:Int)+1)=((k+1:Nat):Int):=by rw [wi (by omega)];omega
        unfold eX
        rw [if_pos (by omega),aI hlt]
        simp only [Option.bind_some,v,w1]
        by_cases V:ValidL s[k]
        · rw [decide_eq_true V,if_pos rfl]
          by_cases K:k=0
          · subst K
            rw [if_pos rfl] at hp;subst hp
            simp [V]
          · have hlt2:k - 1 < s.length:=by omega
            rw [if_neg K,List.getElem?_eq_getElem hlt2] at hp;subst hp
            have w2:i64.wrap ((k:Int) - 1)=((k - 1:Nat):Int):=by rw [wi (by omega)];omega
            rw [if_pos (by omega),w2,aI hlt2]
            simp only [Option.bind_some,aGp]
            by_cases L:gC s[k - 1] s[k]
            · simp [V,L]
            · simp [L]
        · rw [decide_eq_false V];simp [V]
      by_cases G:ValidL s[k]∧(∀ q,p=some q→gC q s[k])
      · rw [if_pos G] at st
        rw [bF st,ih (k+1) (by omega) (some s[k]) (by rw [if_neg (by omega),Nat.add_sub_cancel,List.getElem?_eq_getElem hlt])]
        have:lsF p (s[k]::s.drop (k+1))↔lsF (some s[k]) (s.drop (k+1)):=by rw [lsF];exact ⟨fun h=>h.2.2,fun h=>⟨G.1,G.2,h⟩⟩
        simp only [this]
      · rw [if_neg G] at st
        rw [aN st,if_neg]
        rw [lsF];exact fun h=>G ⟨h.1,h.2.1⟩
  have:=main s.length 0 (by omega) none (by simp)
  unfold dS
  rw [show ((0:Nat):Int)=0 from rfl,List.drop_zero] at this
  rw [this]
  have e:lsF none s↔LSet s:=by rw [aKq];exact ⟨fun h=>h.1,fun h=>⟨h,fun q hq=>by cases hq⟩⟩
  by_cases c:LSet s
  · rw [if_pos (e.2 c),decide_eq_true c];rfl
  · rw [if_neg (fun h=>c (e.1 h)),decide_eq_false c];rfl
def fD (l:Link):List Link→Nat
  | []=>0
  | y::r=>if gC y l then fD l r+1 else 0
theorem aKf (l:Link):∀ s:List Link,fD l s≤s.length
  | []=>Nat.le_refl _
  | y::r=>by
    have:=aKf l r
    rw [fD];split <;> simp <;> omega
theorem aDU (l:Link):∀ s:List Link,∀ x ∈ s.take (fD l s),gC x l
  | [],x,h=>by simp [fD] at h
  | y::r,x,h=>by
    rw [fD] at h
    by_cases c:gC y l
    · rw [if_pos c,List.take_succ_cons] at h
      rcases List.mem_cons.1 h with rfl | h
      · exact c
      · exact aDU l r x h
    · rw [if_neg c] at h;simp at h
theorem aB5 (l:Link):∀ (s:List Link) (h:fD l s < s.length),¬gC s[fD l s] l
  | [],h=>by simp at h
  | y::r,h=>by
    by_cases c:gC y l
    · have e:fD l (y::r)=fD l r+1:=by rw [fD,if_pos c]
      have h':fD l r < r.length:=by rw [e] at h;simpa using h
      have:=aB5 l r h'
      simpa [e] using this
    · have e:fD l (y::r)=0:=by rw [fD,if_neg c]
      simpa [e] using c
theorem aLN (s:List Link) (l:Link) (h:s.length≤4294967296):lp (gO l s) 0=some ((fD l s:Nat):Int):=by
  have main:∀ m k:Nat,m+k=s.length→lp (gO l s) (k:Int)=some ((k+fD l (s.drop k):Nat):Int):=by
    intro m
    induction m with
    | zero =>
      intro k hk
      rw [List.drop_eq_nil_of_le (by omega)]
      refine aN ?_
      unfold gO
      rw [if_neg (by omega)];rfl
    | succ m ih =>
      intro k hk
      have hlt:k < s.length:=by omega
      have w1:i64.wrap ((k:Int)+1)=((k+1:Nat):Int):=by rw [wi (by omega)];omega
      rw [List.drop_eq_getElem_cons hlt,fD]
      have st:gO l s (k:Int)=some (if gC s[k] l then .inl ((k+1:Nat):Int) else .inr (k:Int)):=by
        unfold gO
        rw [if_pos (by omega),aI hlt]
        simp only [Option.bind_some,aGp,w1]
        by_cases L:gC s[k] l <;> simp [L]
      by_cases L:gC s[k] l
      · rw [if_pos L] at st ⊢
        rw [bF st,ih (k+1) (by omega)]
        congr 2;omega
      · rw [if_neg L] at st ⊢
        rw [aN st];rfl
  have:=main s.length 0 (by omega)
  simpa using this
noncomputable def aEO (s:List Link) (l:Link):Option (List Link × Rat) :=
  if h:fD l s < s.length then
    if gC l s[fD l s] then some (s.take (fD l s)++[l]++s.drop (fD l s),yL 0)
    else if aBs s[fD l s] l then some (s.take (fD l s)++[aDo s[fD l s] l]++s.drop (fD l s+1),aHO s[fD l s] l) else none
  else some (s.take (fD l s)++[l]++s.drop (fD l s),yL 0)
def pk:Option (List Link × Rat)→List Link × Rat × Bool
  | some (s,e)=>(s,e,true)
  | none=>([],qE,false)
theorem aGr {s:List Link} {m:Link} {p q:Nat} (hs:LSet s) (hm:ValidL m) (h1:∀ x ∈ s.take p,gC x m) (h2:∀ y ∈ s.drop q,gC m y):LSet (s.take p++[m]++s.drop q):=by
  refine ⟨fun x hx=>?_,?_⟩
  · rw [List.mem_append,List.mem_append,List.mem_singleton] at hx
    rcases hx with (hx | rfl) | hx
    · exact hs.1 x (List.mem_of_mem_take hx)
    · exact hm
    · exact hs.1 x (List.mem_of_mem_drop hx)
  · rw [List.append_assoc,List.pairwise_append]
    refine ⟨hs.2.sublist (List.take_sublist _ _),?_,fun a ha b hb=>?_⟩
    · rw [List.singleton_append,List.pairwise_cons]
      exact ⟨h2,hs.2.sublist (List.drop_sublist _ _)⟩
    · rw [List.singleton_append] at hb
      rcases List.mem_cons.1 hb with rfl | hb
      · exact h1 a ha
      · exact aBI (h1 a ha) (h2 b hb)
theorem aNw {s:List Link} (h:s.Pairwise gC) {p:Nat} (hp:p < s.length):(∀ x ∈ s.take p,gC x s[p])∧∀ y ∈ s.drop (p+1),gC s[p] y:=by
  have e:s=s.take p++(s[p]::s.drop (p+1)):=by rw [← List.drop_eq_getElem_cons hp,List.take_append_drop]
  rw [e,List.pairwise_append,List.pairwise_cons] at h
  exact ⟨fun x hx=>h.2.2 x hx _ List.mem_cons_self,h.2.1.1⟩
theorem aH1 {s:List Link} {l:Link} (hs:LSet s) (hl:ValidL l) {s':List Link} {e:Rat} (h:aEO s l=some (s',e)):LSet s'∧VZ e:=by
  unfold aEO at h
  have z:VZ (yL 0):=.inl (aCM 0 (by omega))
  by_cases c:fD l s < s.length
  · rw [dif_pos c] at h
    obtain ⟨g1,g2⟩:=aNw hs.2 c
    by_cases c2:gC l s[fD l s]
    · rw [if_pos c2] at h;cases h
      refine ⟨aGr hs hl (aDU l s) (fun y hy=>?_),z⟩
      rw [List.drop_eq_getElem_cons c] at hy
      rcases List.mem_cons.1 hy with rfl | hy
      · exact c2
      · exact aBI c2 (g2 y hy)
    · rw [if_neg c2] at h
      have hv:=hs.1 _ (List.getElem_mem c)
      have nl:=aB5 l s c
      have hA:s[fD l s].fA=l.fA∧s[fD l s].fB=l.fB:=by unfold gC at c2 nl;omega
      by_cases O:aBs s[fD l s] l
      · rw [if_pos O] at h;cases h
        exact ⟨aGr hs (aIC hv hl O) g1 g2,(aKp hv hl hA.1 hA.2).2.2⟩
      · rw [if_neg O] at h;cases h
  · rw [dif_neg c] at h;cases h
    refine ⟨aGr hs hl (aDU l s) (fun y hy=>?_),z⟩
    rw [List.drop_eq_nil_of_le (by omega)] at hy;cases hy
theorem aH2 (s:List Link) (l:Link):xT s l=gO l s:=rfl
theorem uD {α:Type} (x:α):aZ x=some x:=rfl
theorem aHh {s:List Link} {l:Link} (hs:LSet s) (hl:ValidL l):oG s l=some (pk (aEO s l))∧vH s l=some (pk (aEO s l)):=by
  have hlen:=hs.len
  have hp:=aKf l s
  have v:=(gF l (by have:=hl.sz;omega)).1
  have i1:=mN s (by have:=hs.sz;omega)
  have c1:=zS s (by have:=hs.sz;omega)
  have c2:=uT l (by have:=hl.sz;omega)
  have lp1:=aLN s l (by omega)
  have rf1:eK 0=some (yL 0):=lU 0 (by omega)
  have rf2:eN 0=some (yL 0):=mM 0 (by omega)
  have s1:sub s 0 ((fD l s:Nat):Int)=some (s.take (fD l s)):=by rw [tN _ _ _ (by omega)];simp
  have s2:sub s ((fD l s:Nat):Int) (s.length:Int)=some (s.drop (fD l s)):=by
    rw [tN _ _ _ (by omega)];congr 1
    rw [List.take_of_length_le];rfl
    rw [List.length_drop];omega
  have t1:(s.take (fD l s)).length≤100:=by rw [List.length_take];omega
  have t2:(s.drop (fD l s)).length≤100:=by rw [List.length_drop];omega
  unfold oG vH aEO
  rw [aH2,i1,v,decide_eq_true hs,decide_eq_true hl,lp1]
  simp only [Option.bind_some,if_true,Bool.not_true,Bool.false_eq_true,if_false,c1,lp1,s1,s2,uD,List.nil_append]
  rw [aP (by simp only [List.length_nil,Nat.zero_add];omega)]
  simp only [Option.bind_some]
  by_cases c:fD l s < s.length
  · have c':((fD l s:Nat):Int) < (s.length:Int):=by omega
    have c'':¬((fD l s:Nat):Int)=(s.length:Int):=by omega
    rw [if_pos c',if_neg c'',dif_pos c,aI c]
    simp only [Option.bind_some,aGp,aJa]
    by_cases L:gC l s[fD l s]
    · rw [if_pos L,decide_eq_true L]
      simp only [Bool.not_true,Bool.false_eq_true,if_false,if_true,c2,Option.bind_some,rf1,rf2]
      rw [aP (by omega)]
      simp only [Option.bind_some]
      rw [aP (by rw [List.length_append,List.length_singleton];omega)]
      exact ⟨rfl,rfl⟩
    · rw [if_neg L,decide_eq_false L]
      have hv:=hs.1 _ (List.getElem_mem c)
      have nl:=aB5 l s c
      have hA:s[fD l s].fA=l.fA∧s[fD l s].fB=l.fB:=by unfold gC at L nl;omega
      obtain ⟨m1,m2,m3⟩:=aKp hv hl hA.1 hA.2
      simp only [Bool.not_false,if_true,Bool.false_eq_true,if_false,m1,m2,Option.bind_some]
      by_cases O:aBs s[fD l s] l
      · rw [if_pos O,if_pos O]
        have w1:i64.wrap (((fD l s:Nat):Int)+1)=((fD l s+1:Nat):Int):=by rw [wi (by omega)];omega
        have s3:sub s ((fD l s+1:Nat):Int) (s.length:Int)=some (s.drop (fD l s+1)):=by
          rw [tN _ _ _ (by omega)];congr 1
          rw [List.take_of_length_le];rfl
          rw [List.length_drop];omega
        have t3:(s.drop (fD l s+1)).length≤100:=by rw [List.length_drop];omega
        simp only [if_true,w1,s3,Option.bind_some,iL]
        rw [aP (by omega)]
        simp only [Option.bind_some]
        rw [aP (by rw [List.length_append,List.length_singleton];omega)]
        refine ⟨?_,rfl⟩
        simp only [pk]
        rw [List.set_eq_take_append_cons_drop,if_pos c,List.append_assoc,List.singleton_append]
      · rw [if_neg O,if_neg O]
        exact ⟨rfl,rfl⟩
  · have c':¬((fD l s:Nat):Int) < (s.length:Int):=by omega
    have c'':((fD l s:Nat):Int)=(s.length:Int):=by omega
    rw [if_neg c',if_pos c'',dif_neg c]
    simp only [Option.bind_some,Bool.false_eq_true,if_false,if_true,c2,rf1,rf2]
    rw [aP (by omega)]
    simp only [Option.bind_some]
    rw [aP (by rw [List.length_append,List.length_singleton];omega)]
    exact ⟨rfl,rfl⟩
end Go.Ev
/- Joining links into a link set, both programs. -/
namespace Go.Ev
set_option linter.all false
theorem aNK {r s:Rat} (hr:VZ r) (hs:VZ s) (h:¬bX r):RA r s=qE:=by
  have q:=(aC7 hr hs).1
  unfold dM at q
  rw [fN r (VZs hr),decide_eq_false h] at q
  simpa [qE] using q.symm
noncomputable def xX:List Link→List Link→Rat→Option (List Link × Rat)
  | [],s,e=>some (s,e)
  | x::r,s,e=>match aEO s x with
    | none=>none
    | some (s',e')=>if bX (RA e e') then xX r s' (RA e e') else none
theorem aII:∀ (l s:List Link) (e:Rat),(∀ x ∈ l,ValidL x)→LSet s→bX e→∀ s' e',xX l s e=some (s',e')→LSet s'∧bX e'
  | [],s,e,_,hs,he,s',e',h=>by rw [xX] at h;cases h;exact ⟨hs,he⟩
  | x::r,s,e,hv,hs,he,s',e',h=>by
    rw [xX] at h
    cases ha:aEO s x with
    | none=>rw [ha] at h;cases h
    | some t =>
      obtain ⟨s1,e1⟩:=t
      rw [ha] at h
      simp only [] at h
      obtain ⟨g1,g2⟩:=aH1 hs (hv x (by simp)) ha
      by_cases c:bX (RA e e1)
      · rw [if_pos c] at h
        exact aII r s1 _ (fun y hy=>hv y (by simp [hy])) g1 c s' e' h
      · rw [if_neg c] at h;cases h
noncomputable instance (l:List Link):Decidable (∀ x ∈ l,ValidL x):=Classical.propDecidable _
def aCJ:List Link × Rat × Bool:=([],qE,false)
theorem aJG (l:List Link) (hv:∀ x ∈ l,ValidL x) (hl:l.length≤4294967296):∀ m k:Nat,m+k=l.length→∀ s e,LSet s→VZ e →
    lp (gM l) (s,(k:Int),e)=some (match xX (l.drop k) s e with | some t=>.inl t | none=>.inr aCJ):=by
  intro m
  induction m with
  | zero =>
    intro k hk s e hs he
    rw [List.drop_eq_nil_of_le (by omega),xX]
    exact aN (by unfold gM;simp only [];rw [if_neg (by omega)])
  | succ m ih =>
    intro k hk s e hs he
    have hlt:k < l.length:=by omega
    have hx:=hv _ (List.getElem_mem hlt)
    have w1:IntKind.i64.wrap ((k:Int)+1)=((k+1:Nat):Int):=by rw [wi (by omega)];omega
    have a:=(aHh hs hx).2
    rw [List.drop_eq_getElem_cons hlt,xX]
    cases ha:aEO s l[k] with
    | none =>
      rw [ha] at a
      have g:=(aC7 he aCq).2.1
      refine aN ?_
      unfold gM
      simp only []
      rw [if_pos (by omega),aI hlt]
      simp only [Option.bind_some,a,pk,g]
      rfl
    | some t =>
      obtain ⟨s1,e1⟩:=t
      rw [ha] at a
      obtain ⟨g1,g2⟩:=aH1 hs hx ha
      obtain ⟨_,q2,q3⟩:=aC7 he g2
      have st:gM l (s,(k:Int),e)=some (if bX (RA e e1) then .inl (s1,((k+1:Nat):Int),RA e e1) else .inr (.inr aCJ)):=by
        unfold gM
        simp only []
        rw [if_pos (by omega),aI hlt]
        simp only [Option.bind_some,a,pk,q2,jC q3,if_true,w1]
        by_cases c:bX (RA e e1)
        · simp [c]
        · simp [c,aCJ,qE]
      simp only []
      by_cases c:bX (RA e e1)
      · rw [if_pos c] at st ⊢
        rw [bF st]
        exact ih (k+1) (by omega) s1 _ g1 q3
      · rw [if_neg c] at st ⊢
        rw [aN st]
def aMf:(List Link × Rat) ⊕ (List Link × Rat × Bool)→List Link × Rat × Bool
  | .inl d=>if bX d.2 then (d.1,d.2,true) else aCJ
  | .inr x=>x
theorem aJF (l:List Link) (hz:aG l≤4294967296):∀ m k:Nat,m+k=l.length→∀ s e,LSet s→VZ e →
    ∃ R,lp (eW l) (s,(k:Int),e)=some R∧(∀ d,R=.inl d→VZ d.2)∧aMf R=pk (if bX e∧(∀ x ∈ l.drop k,ValidL x) then xX (l.drop k) s e else none):=by
  have hl:l.length≤4294967296:=by have:=cO aX l;unfold aG at hz;omega
  intro m
  induction m with
  | zero =>
    intro k hk s e hs he
    refine ⟨.inl (s,e),aN (by unfold eW;simp only [];rw [if_neg (by omega)]),fun d h=>(by cases h;exact he),?_⟩
    rw [List.drop_eq_nil_of_le (by omega),xX]
    by_cases c:bX e
    · simp [aMf,pk,c]
    · simp [aMf,pk,c,aCJ]
  | succ m ih =>
    intro k hk s e hs he
    have hlt:k < l.length:=by omega
    have w1:IntKind.i64.wrap ((k:Int)+1)=((k+1:Nat):Int):=by rw [wi (by omega)];omega
    have hxz:aX l[k]≤4294967296:=by have:=gG (w:=aX) (List.getElem_mem hlt);unfold aG at hz;omega
    rw [List.drop_eq_getElem_cons hlt]
    by_cases hx:ValidL l[k]
    · have a:=(aHh hs hx).1
      rw [xX]
      cases ha:aEO s l[k] with
      | none =>
        rw [ha] at a
        refine ⟨.inr aCJ,aN ?_,fun d h=>(by cases h),?_⟩
        · unfold eW
          simp only []
          rw [if_pos (by omega),aI hlt]
          simp only [Option.bind_some,a,pk]
          rfl
        · simp [aMf,pk,aCJ]
      | some t =>
        obtain ⟨s1,e1⟩:=t
        rw [ha] at a
        obtain ⟨g1,g2⟩:=aH1 hs hx ha
        obtain ⟨q1,_,q3⟩:=aC7 he g2
        have st:eW l (s,(k:Int),e)=some (.inl (s1,((k+1:Nat):Int),RA e e1)):=by
          unfold eW
          simp only []
          rw [if_pos (by omega),aI hlt]
          simp only [Option.bind_some,a,pk,q1,if_true,w1]
        obtain ⟨R,r1,r2,r3⟩:=ih (k+1) (by omega) s1 _ g1 q3
        refine ⟨R,by rw [bF st];exact r1,r2,?_⟩
        rw [r3]
        simp only []
        by_cases c:bX e
        · by_cases c2:bX (RA e e1)
          · have:(∀ x ∈ l[k]::l.drop (k+1),ValidL x)↔(∀ x ∈ l.drop (k+1),ValidL x):=⟨fun h x hx'=>h x (List.mem_cons_of_mem _ hx'),fun h x hx'=>by rcases List.mem_cons.1 hx' with rfl | h';exact hx;exact h x h'⟩
            simp only [c,c2,true_and,if_true,this]
          · simp only [c,c2,true_and,false_and,if_false,ite_self]
        · have c2:¬bX (RA e e1):=by rw [aNK he g2 c];exact aBh
          simp only [c,c2,false_and,if_false]
    · refine ⟨.inr aCJ,aN ?_,fun d h=>(by cases h),?_⟩
      · unfold eW
        simp only []
        rw [if_pos (by omega),aI hlt]
        have a:oG s l[k]=some aCJ:=by
          unfold oG
          rw [mN s (by have:=hs.sz;omega),(gF l[k] hxz).1,decide_eq_true hs,decide_eq_false hx]
          rfl
        simp only [Option.bind_some,a,aCJ]
        rfl
      · rw [if_neg (fun h=>hx (h.2 _ List.mem_cons_self))];rfl
theorem aHk (l:List Link) (hz:aG l≤4294967296):pO l=some (decide (∀ x ∈ l,ValidL x)):=by
  have hl:l.length≤4294967296:=by have:=cO aX l;unfold aG at hz;omega
  have main:∀ m k:Nat,m+k=l.length→lp (hF l) (k:Int)=some (if (∀ x ∈ l.drop k,ValidL x) then .inl () else .inr false):=by
    intro m
    induction m with
    | zero =>
      intro k hk
      rw [List.drop_eq_nil_of_le (by omega),if_pos (by simp)]
      exact aN (by unfold hF;rw [if_neg (by omega)])
    | succ m ih =>
      intro k hk
      have hlt:k < l.length:=by omega
      have w1:IntKind.i64.wrap ((k:Int)+1)=((k+1:Nat):Int):=by rw [wi (by omega)];omega
      have v:=(gF l[k] (by have:=gG (w:=aX) (List.getElem_mem hlt);unfold aG at hz;omega)).2
      have st:hF l (k:Int)=some (if ValidL l[k] then .inl ((k+1:Nat):Int) else .inr (.inr false)):=by
        unfold hF
        rw [if_pos (by omega),aI hlt]
        simp only [Option.bind_some,v,w1]
        by_cases c:ValidL l[k] <;> simp [c]
      rw [List.drop_eq_getElem_cons hlt]
      by_cases c:ValidL l[k]
      · rw [if_pos c] at st
        rw [bF st,ih (k+1) (by omega)]
        have:(∀ x ∈ l[k]::l.drop (k+1),ValidL x)↔(∀ x ∈ l.drop (k+1),ValidL x):=⟨fun h x hx'=>h x (List.mem_cons_of_mem _ hx'),fun h x hx'=>by rcases List.mem_cons.1 hx' with rfl | h';exact c;exact h x h'⟩
        simp only [this]
      · rw [if_neg c] at st
        rw [aN st,if_neg (fun h=>c (h _ List.mem_cons_self))]
  have:=main l.length 0 (by omega)
  unfold pO
  rw [show ((0:Nat):Int)=0 from rfl,List.drop_zero] at this
  rw [this]
  by_cases c:∀ x ∈ l,ValidL x
  · rw [if_pos c,decide_eq_true c];rfl
  · rw [if_neg c,decide_eq_false c];rfl
theorem aB0:LSet []:=⟨by simp,List.Pairwise.nil⟩
theorem aB4:bX (yL 0):=aCM 0 (by omega)
noncomputable def jnP (l:List Link):Option (List Link × Rat):=if ∀ x ∈ l,ValidL x then xX l [] (yL 0) else none
theorem aCZ {l s:List Link} {e:Rat} (h:jnP l=some (s,e)):(∀ x ∈ l,ValidL x)∧LSet s∧bX e:=by
  unfold jnP at h
  by_cases c:∀ x ∈ l,ValidL x
  · rw [if_pos c] at h
    exact ⟨c,aII l [] _ c aB0 aB4 s e h⟩
  · rw [if_neg c] at h;cases h
theorem aBL {l:List Link} (hv:∀ x ∈ l,ValidL x) (hl:l.length≤4294967296):kZ l=some (pk (jnP l)):=by
  unfold kZ jnP
  rw [mM 0 (by omega),if_pos hv]
  simp only [Option.bind_some]
  have:=aJG l hv hl l.length 0 (by omega) [] (yL 0) aB0 (.inl aB4)
  rw [show ((0:Nat):Int)=0 from rfl,List.drop_zero] at this
  rw [this]
  cases xX l [] (yL 0) with
  | none=>rfl
  | some t=>rfl
theorem zR (l:List Link) (hz:aG l≤4294967296):iK l=some (pk (jnP l))∧rR l=some (pk (jnP l)):=by
  have hl:l.length≤4294967296:=by have:=cO aX l;unfold aG at hz;omega
  constructor
  · unfold iK
    rw [lU 0 (by omega)]
    simp only [Option.bind_some]
    obtain ⟨R,r1,r2,r3⟩:=aJF l hz l.length 0 (by omega) [] (yL 0) aB0 (.inl aB4)
    rw [show ((0:Nat):Int)=0 from rfl] at r1
    rw [List.drop_zero] at r3
    rw [r1]
    have e:(if bX (yL 0)∧(∀ x ∈ l,ValidL x) then xX l [] (yL 0) else none)=jnP l:=by unfold jnP;simp only [aB4,true_and]
    rw [← e,← r3]
    cases R with
    | inl d =>
      simp only [Option.bind_some]
      rw [fN d.2 (VZs (r2 d rfl))]
      simp only [Option.bind_some,aMf]
      by_cases c:bX d.2
      · rw [decide_eq_true c,if_pos c];rfl
      · rw [decide_eq_false c,if_neg c];rfl
    | inr x=>rfl
  · unfold rR
    rw [aHk l hz]
    simp only [Option.bind_some]
    by_cases c:∀ x ∈ l,ValidL x
    · rw [decide_eq_true c,if_pos rfl,aBL c hl]
      simp only [Option.bind_some]
      cases hj:jnP l with
      | none=>rfl
      | some t =>
        obtain ⟨s,e⟩:=t
        obtain ⟨_,g1,_⟩:=aCZ hj
        simp only [pk,if_true]
        rw [sH s (by have:=g1.sz;omega)]
        rfl
    · rw [decide_eq_false c]
      unfold jnP
      rw [if_neg c];rfl
end Go.Ev
/- Cliques: their nodes in order. -/
namespace Go.Ev
set_option linter.all false
theorem aAD:∀ {a b:List Int},a.Pairwise (· < ·)→b.Pairwise (· < ·)→(∀ x,x ∈ a↔x ∈ b)→a=b
  | [],[],_,_,_=>rfl
  | [],y::b,_,_,h=>absurd ((h y).2 (by simp)) (by simp)
  | x::a,[],_,_,h=>absurd ((h x).1 (by simp)) (by simp)
  | x::a,y::b,ha,hb,h=>by
    rw [List.pairwise_cons] at ha hb
    have hxy:x=y:=by
      have h1:=(h x).1 (by simp)
      have h2:=(h y).2 (by simp)
      rcases List.mem_cons.1 h1 with e | e
      · exact e
      · rcases List.mem_cons.1 h2 with e' | e'
        · exact e'.symm
        · have:=hb.1 x e;have:=ha.1 y e';omega
    subst hxy
    have:a=b:=aAD ha.2 hb.2 (fun z=>by
      constructor
      · intro hz
        have:=(h z).1 (by simp [hz])
        rcases List.mem_cons.1 this with e | e
        · subst e;have:=ha.1 z hz;omega
        · exact e
      · intro hz
        have:=(h z).2 (by simp [hz])
        rcases List.mem_cons.1 this with e | e
        · subst e;have:=hb.1 z hz;omega
        · exact e)
    rw [this]
def aBc:List Int→Int→List Int
  | [],n=>[n]
  | x::l,n=>if x < n then x::aBc l n else if x=n then x::l else n::x::l
theorem aAj:∀ (l:List Int) (n x:Int),x ∈ aBc l n↔x=n∨x ∈ l
  | [],n,x=>by simp [aBc]
  | y::l,n,x=>by
    unfold aBc
    by_cases h1:y < n
    · rw [if_pos h1,List.mem_cons,List.mem_cons,aAj l n x]
      constructor
      · rintro (h | h | h) <;> simp [h]
      · rintro (h | h | h) <;> simp [h]
    · rw [if_neg h1]
      by_cases h2:y=n
      · rw [if_pos h2];subst h2;simp
      · rw [if_neg h2];simp
theorem xG:∀ (l:List Int) (n:Int),l.Pairwise (· < ·)→(aBc l n).Pairwise (· < ·)
  | [],n,_=>by simp [aBc]
  | y::l,n,h=>by
    unfold aBc
    rw [List.pairwise_cons] at h
    by_cases h1:y < n
    · rw [if_pos h1,List.pairwise_cons]
      exact ⟨fun x hx=>by rcases (aAj l n x).1 hx with e | e;omega;exact h.1 x e,xG l n h.2⟩
    · rw [if_neg h1]
      by_cases h2:y=n
      · rw [if_pos h2,List.pairwise_cons];exact h
      · rw [if_neg h2,List.pairwise_cons]
        exact ⟨fun x hx=>by rcases List.mem_cons.1 hx with e | e;omega;have:=h.1 x e;omega,List.pairwise_cons.2 h⟩
theorem aAk:∀ (l:List Int) (n:Int),(aBc l n).length≤l.length+1
  | [],n=>by simp [aBc]
  | y::l,n=>by
    unfold aBc
    split
    · simp [aAk l n]
    · split <;> simp
def oR (l:List Int) (n:Int):Nat:=(l.takeWhile (fun x=>decide (x < n))).length
theorem aJH (l:List Int) (n:Int):oR l n≤l.length:=by
  unfold oR
  induction l with
  | nil=>simp
  | cons x l ih =>
    rw [List.takeWhile_cons]
    split
    · simpa using ih
    · simp
theorem aDJ (x:Int) (l:List Int) (n:Int):oR (x::l) n=if x < n then oR l n+1 else 0:=by
  unfold oR
  rw [List.takeWhile_cons]
  by_cases h:x < n <;> simp [h]
theorem aKe:∀ (l:List Int) (n:Int),aBc l n=if l[oR l n]?=some n then l else l.take (oR l n)++[n]++l.drop (oR l n)
  | [],n=>by simp [aBc,oR]
  | x::l,n=>by
    rw [aDJ]
    unfold aBc
    by_cases h:x < n
    · rw [if_pos h,if_pos h,aKe l n]
      simp only [List.getElem?_cons_succ,List.take_succ_cons,List.drop_succ_cons]
      split <;> simp
    · rw [if_neg h,if_neg h]
      by_cases h2:x=n <;> simp [h2]
theorem aLI (l:List Int) (n:Int) (h:l.length≤4294967296):lp (gH l n) 0=some ((oR l n:Nat):Int):=by
  have main:∀ m k:Nat,m+k=l.length→lp (gH l n) (k:Int)=some ((k+oR (l.drop k) n:Nat):Int):=by
    intro m
    induction m with
    | zero =>
      intro k hk
      have:k=l.length:=by omega
      subst this
      rw [aN (r:=(l.length:Int)) (by unfold gH;rw [if_neg (by omega)];rfl),List.drop_length];simp [oR]
    | succ m ih =>
      intro k hk
      have hlt:k < l.length:=by omega
      rw [List.drop_eq_getElem_cons hlt,aDJ]
      by_cases c:l[k] < n
      · rw [if_pos c]
        have e:gH l n (k:Int)=some (.inl ((k:Int)+1)):=by
          unfold gH
          rw [if_pos (by omega),aI hlt,wi (by omega)]
          simp [c]
        rw [bF e,show (k:Int)+1=((k+1:Nat):Int) by omega,ih (k+1) (by omega)]
        congr 2;omega
      · rw [if_neg c]
        have e:gH l n (k:Int)=some (.inr (k:Int)):=by
          unfold gH
          rw [if_pos (by omega),aI hlt]
          simp [c]
        rw [aN e];simp
  have:=main l.length 0 (by omega)
  simpa using this
theorem aIq (l:List Int) (n:Int) (h:l.length≤4294967296):nZ l n=some (aBc l n):=by
  have hf:=aJH l n
  unfold nZ
  rw [aLI l n h,aKe]
  simp only [Option.bind_some]
  by_cases hlt:oR l n < l.length
  · rw [if_pos (by omega),aI hlt,List.getElem?_eq_getElem hlt]
    simp only [Option.bind_some,decide_eq_true_eq,Option.some.injEq]
    by_cases c:l[oR l n]=n
    · rw [if_pos c,if_pos c]
    · rw [if_neg c,if_neg c,tN _ _ _ (by omega),tN _ _ _ (by omega)]
      simp only [Option.bind_some,aO,List.nil_append]
      rw [aP (by simp;omega),aP (by simp;omega),aP (by simp;omega)]
      simp only [Option.bind_some]
      simp
      rw [List.take_of_length_le (by simp)]
  · have:oR l n=l.length:=by omega
    rw [if_neg (by omega),this,if_neg (by simp)]
    simp only [Option.bind_some,Bool.false_eq_true,if_false]
    rw [tN _ _ _ (by omega),tN _ _ _ (by omega)]
    simp only [Option.bind_some,aO,List.nil_append]
    rw [aP (by simp;omega),aP (by simp;omega),aP (by simp;omega)]
    simp
end Go.Ev
/- The arms of a node of a link set, both programs. -/
namespace Go.Ev
set_option linter.all false
def sV (v:Int) (l:Link):Int:=if l.fA=v then l.fB else l.fA
def tch (v:Int) (l:Link):Bool:=decide (l.fA=v∨l.fB=v)
noncomputable def aBV (v:Int) (l:Link):l08Arm:=if l.fA=v then ⟨l.fB,l.fWeight,RN l.fDX,RN l.fDY⟩ else ⟨l.fA,l.fWeight,l.fDX,l.fDY⟩
noncomputable def bY (v:Int) (s:List Link):List l08Arm:=(s.filter (tch v)).map (aBV v)
theorem aAY (v:Int) (l:Link):(aBV v l).fnode=sV v l:=by unfold aBV sV;split <;> rfl
theorem aGT {s:List Link} (hs:LSet s) (v:Int):((s.filter (tch v)).map (sV v)).Pairwise (· < ·):=by
  rw [List.pairwise_map]
  refine List.Pairwise.imp_of_mem (fun {a b} ha hb hr=>?_) (hs.2.sublist List.filter_sublist)
  rw [List.mem_filter] at ha hb
  have h1:=hs.1 a ha.1
  have h2:=hs.1 b hb.1
  have t1:=ha.2
  have t2:=hb.2
  unfold tch at t1 t2
  rw [decide_eq_true_eq] at t1 t2
  unfold ValidL at h1 h2
  unfold gC at hr
  unfold sV
  split <;> split <;> omega
theorem aNz {s:List Link} (hs:LSet s) (v:Int):uS s v=some ((s.filter (tch v)).map (sV v)):=by
  have hlen:=hs.len
  unfold uS
  obtain ⟨e1,e2⟩:=iN (step:=oX s v) s (fun k t=>(t,(k:Int))) (fun t l=>if tch v l then aBc t (sV v l) else t) (fun t=>t)
    (fun k t=>t.length≤k∧t.Pairwise (· < ·)∧∀ x,x ∈ t↔x ∈ ((s.take k).filter (tch v)).map (sV v)) (fun k t hk hI=>by
      obtain ⟨i1,i2,i3⟩:=hI
      have hv:=hs.1 _ (List.getElem_mem hk)
      have w1:IntKind.i64.wrap ((k:Int)+1)=((k+1:Nat):Int):=by rw [wi (by omega)];omega
      refine ⟨?_,?_,?_,?_⟩
      · unfold oX
        simp only []
        rw [if_pos (by omega),aI hk]
        unfold ValidL at hv
        simp only [Option.bind_some,aIq t _ (by omega:t.length≤4294967296),w1]
        by_cases A:(s[k]).fA=v
        · have B:¬(s[k]).fB=v:=by omega
          simp [A,B,tch,sV]
        · by_cases B:(s[k]).fB=v
          · rw [if_neg A]
            simp only [Option.bind_some]
            rw [if_pos B,aIq t _ (by omega:t.length≤4294967296)]
            simp [A,B,tch,sV]
          · simp [A,B,tch,sV]
      · have:=aAk t (sV v s[k])
        split <;> omega
      · split
        · exact xG _ _ i2
        · exact i2
      · intro x
        have tk:s.take (k+1)=s.take k++[s[k]]:=by rw [List.take_add_one,List.getElem?_eq_getElem hk];rfl
        rw [tk,List.filter_append,List.map_append,List.mem_append,← i3 x]
        by_cases T:tch v s[k]=true
        · simp only [T,if_true,aAj,List.filter_cons_of_pos,List.filter_nil,List.map_cons,List.map_nil,List.mem_singleton]
          exact Or.comm
        · simp [T]) (fun t _=>by unfold oX;simp only [];rw [if_neg (by omega)]) [] ⟨by simp,List.Pairwise.nil,by simp⟩
  rw [show ((0:Nat):Int)=0 from rfl] at e1
  rw [e1]
  simp only [Option.bind_some]
  congr 1
  obtain ⟨_,g2,g3⟩:=e2
  rw [List.take_length] at g3
  exact aAD g2 (aGT hs v) g3
theorem LSet.uniq {s:List Link} (hs:LSet s) {a b:Link} (ha:a ∈ s) (hb:b ∈ s) (h1:a.fA=b.fA) (h2:a.fB=b.fB):a=b:=by
  obtain ⟨i,hi,rfl⟩:=List.getElem_of_mem ha
  obtain ⟨j,hj,rfl⟩:=List.getElem_of_mem hb
  have pw:=List.pairwise_iff_getElem.1 hs.2
  rcases Nat.lt_trichotomy i j with h | h | h
  · have:=pw i j hi hj h;unfold gC at this;omega
  · subst h;rfl
  · have:=pw j i hj hi h;unfold gC at this;omega
theorem aNB (p q r t:Prop) [Decidable p] [Decidable q] [Decidable r] [Decidable t]:((if p then (if q then some true else (if r then some (decide t) else some false)) else (if r then some (decide t) else some false)):Option Bool)=some (decide ((p∧q)∨(r∧t))):=by
  by_cases p <;> by_cases q <;> by_cases r <;> by_cases t <;> simp [*]
theorem aMw {s:List Link} (hs:LSet s) {v:Int} {l:Link} (hl:l ∈ s) (ht:tch v l=true):xE s (sV v l) v=some (l,true):=by
  have hlen:=hs.len
  have hv:=hs.1 l hl
  unfold xE
  rw [mN s (by have:=hs.sz;omega),decide_eq_true hs]
  simp only [Option.bind_some,if_true]
  obtain ⟨r,e,q⟩:=aK1 (step:=qV s (sV v l) v) s.length (fun r=>r=.inr (l,true)) (fun k=>l ∈ s.drop k) (by simpa using hl) (fun k hk hj=>by
    have hx:=hs.1 _ (List.getElem_mem hk)
    have w1:IntKind.i64.wrap ((k:Int)+1)=((k+1:Nat):Int):=by rw [wi (by omega)];omega
    rw [List.drop_eq_getElem_cons hk] at hj
    have st:qV s (sV v l) v (k:Int)=some (if (((s[k]).fA=sV v l∧(s[k]).fB=v)∨((s[k]).fA=v∧(s[k]).fB=sV v l)) then .inr (.inr (s[k],true)) else .inl ((k+1:Nat):Int)):=by
      unfold qV
      rw [if_pos (by omega),aI hk]
      simp only [Option.bind_some,w1,uT s[k] (by have:=hx.sz;omega)]
      rw [aNB]
      simp only [Option.bind_some]
      by_cases c:((s[k]).fA=sV v l∧(s[k]).fB=v)∨((s[k]).fA=v∧(s[k]).fB=sV v l)
      · rw [if_pos c,decide_eq_true c];rfl
      · rw [if_neg c,decide_eq_false c];rfl
    unfold tch at ht
    rw [decide_eq_true_eq] at ht
    unfold ValidL at hx hv
    by_cases c:((s[k]).fA=sV v l∧(s[k]).fB=v)∨((s[k]).fA=v∧(s[k]).fB=sV v l)
    · rw [if_pos c] at st
      right
      refine ⟨_,st,?_⟩
      have:s[k]=l:=by
        refine hs.uniq (List.getElem_mem hk) hl ?_ ?_
        · unfold sV at c;split at c <;> omega
        · unfold sV at c;split at c <;> omega
      rw [this]
    · rw [if_neg c] at st
      left
      refine ⟨st,?_⟩
      rcases List.mem_cons.1 hj with e | e
      · exfalso;apply c
        rw [← e];unfold sV;split <;> omega
      · exact e) (fun hj=>by rw [List.drop_length] at hj;cases hj)
  rw [e,q];rfl
theorem aNj {r:Rat} (h:VZ r):VZ (RN r):=(aMv h).2.2
def xO (a:l08Arm):Prop:=(0≤a.fnode∧a.fnode≤9)∧VZ a.fweight∧VZ a.fdx∧VZ a.fdy
theorem aI1 {v:Int} {l:Link} (h:ValidL l):xO (aBV v l):=by
  obtain ⟨h1,h2,h3⟩:=h.vz
  unfold aBV
  split
  · exact ⟨h.2.1,h1,aNj h2,aNj h3⟩
  · exact ⟨h.1,h1,h2,h3⟩
theorem aGi {s:List Link} (hs:LSet s) (v:Int):∀ a ∈ bY v s,xO a:=by
  intro a ha
  obtain ⟨l,hl,rfl⟩:=List.mem_map.1 ha
  exact aI1 (hs.1 l (List.mem_filter.1 hl).1)
theorem aCe {s:List Link} (hs:LSet s) (v:Int):(bY v s).length≤100:=by
  have:=hs.len
  have:=List.length_filter_le (tch v) s
  unfold bY
  rw [List.length_map];omega
theorem aHc {s:List Link} (hs:LSet s) (v:Int):((bY v s).map (·.fnode)).Pairwise (· < ·):=by
  have:=aGT hs v
  unfold bY
  rw [List.map_map]
  have e:(fun a:l08Arm=>a.fnode) ∘ aBV v=sV v:=by funext l;exact aAY v l
  rw [e];exact this
theorem aNE {s:List Link} (hs:LSet s) (v:Int):uR s v=some (bY v s):=by
  have hal:=aCe hs v
  unfold uR
  rw [aNz hs v]
  simp only [Option.bind_some]
  have hfl:((s.filter (tch v)).map (sV v)).length=(bY v s).length:=by unfold bY;rw [List.length_map,List.length_map]
  have:=aAo (step:=oW s v ((s.filter (tch v)).map (sV v))) (bY v s) (fun k t=>((k:Int),t)) (fun t=>t) (fun k t hk ht=>by
    have hk2:k < (s.filter (tch v)).length:=by unfold bY at hk;rwa [List.length_map] at hk
    have hk3:k < ((s.filter (tch v)).map (sV v)).length:=by rwa [List.length_map]
    have hm:=List.mem_filter.1 (List.getElem_mem hk2)
    have w1:IntKind.i64.wrap ((k:Int)+1)=((k+1:Nat):Int):=by rw [wi (by omega)];omega
    have hv:=hs.1 _ hm.1
    obtain ⟨v1,v2,v3⟩:=hv.vz
    have g:=aMw hs hm.1 hm.2
    have ea:(bY v s)[k]=aBV v (s.filter (tch v))[k]:=by simp only [bY,List.getElem_map]
    unfold oW
    simp only []
    rw [if_pos (by omega),aI hk3,List.getElem_map]
    simp only [Option.bind_some,g,(aMv v2).1,(aMv v3).1,w1]
    rw [ea]
    unfold aBV
    by_cases A:((s.filter (tch v))[k]).fA=v
    · rw [if_pos A,if_pos A]
      simp only [Option.bind_some,sV,A,if_true]
      rw [aP (by omega)];rfl
    · rw [if_neg A,if_neg A]
      simp only [Option.bind_some,sV,A,if_false]
      rw [aP (by omega)];rfl) (fun t ht=>by unfold oW;simp only [];rw [if_neg (by omega)])
  rw [show ((0:Nat):Int)=0 from rfl] at this
  rw [this];rfl
end Go.Ev
