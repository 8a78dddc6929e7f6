/- Parts PF, P25, PQ1, PQ2, PQ3, PQ4, PQ5. -/
import Derived.Test.YthjpgecdkmiadaaGreatPa1
import Derived.Test.YthjpgecdkmiadaaGreatLd
set_option linter.all false
/- Plain laws of helpers over nested data, printed by program (fam.py). -/
namespace Go.Ev
set_option linter.all false
def dX (x:(List Int)):Nat:=szL (fun _=>0) x
theorem aJM (x:(List Int)) (o:(okL (okI .i64)) x) (t:Int) (h0:0≤t) (h1:t≤1048576):tM x t=some (if (dX x:Int)≤t then t - dX x else -1):=by
  have hl:x.length≤9223372036854775807:=o.1
  have e:=kC x
  unfold tM dX
  simp only [aP]
  rw [wi (by omega)]
  by_cases c:t - (x.length:Int) < 0
  · rw [if_pos c,if_neg (by omega)]
  · rw [if_neg c,if_pos (by omega)];congr 1;omega
theorem aCO (x:(List Int)) (h:dX x≤4294967296):cZ x=some x:=by
  have hl:=dR (fun _=>0) x
  unfold dX at h
  unfold cZ
  rw [aR (by omega)]
  simp only [Option.bind_some]
  have:=aEI (step:=qP x) x (List.replicate (x.length:Int).toNat 0) (fun k m=>((k:Int),m)) (fun m=>m) (by simp) (fun k m hk hm=>by
    unfold qP
    simp only []
    rw [if_pos (by omega),aH hk,aH (l:=m) (by omega)]
    simp only [Option.bind_some,aP,iF]
    rw [wi (by omega)];rfl)
   (fun m hm=>by unfold qP;simp only [];rw [if_neg (by omega)])
  rw [show ((0:Nat):Int)=0 from rfl] at this
  rw [this];rfl
theorem aAx (x:(List Int)) (h:dX x≤4294967296):eE x x=some true:=by
  have hl:=dR (fun _=>0) x
  unfold dX at h
  unfold eE
  rw [if_neg (by simp),aDi x.length (.inl ())]
  · rfl
  · intro k hk
    unfold uI
    rw [if_pos (by omega),aH hk]
    simp only [Option.bind_some,ne_eq,not_true_eq_false,if_false]
    rw [wi (by omega)];rfl
  · unfold uI;rw [if_neg (by omega)]
theorem hC (x:(List Int)) (k:Int) (h0:0≤k) (h1:k+100*(dX x:Int)≤4611686018427387904):∃ k' x',bM x k=some (k',x')∧bS x' k=some k'∧k≤k'∧k'≤k+100*(dX x:Int)∧x'.length=x.length:=by
  unfold dX at h1 ⊢
  obtain ⟨k',l',p1,p2,p3,p4,p5⟩:=aHE (ms:=mV) (hs:=mY) (fun _:Int=>0) x (fun hl y k h0 h1=>by
    have w0:IntKind.i64.wrap (k+1)=k+1:=wi (by omega)
    refine ⟨k+1,(k),by omega,by omega,fun m i hi hm=>?_,fun m i hi hm=>?_⟩
    · have hlt:=(List.getElem?_eq_some_iff.1 hi).1
      have wi':IntKind.i64.wrap ((i:Int)+1)=(i:Int)+1:=wi (by omega)
      unfold mV
      simp only []
      rw [if_pos (by omega)]
      simp only [aP,iF,aBr hi,aDo hlt,List.set_set,Option.bind_some,w0,wi']
    · have hlt:=(List.getElem?_eq_some_iff.1 hi).1
      have wi':IntKind.i64.wrap ((i:Int)+1)=(i:Int)+1:=wi (by omega)
      unfold mY
      simp only []
      rw [if_pos (by omega)]
      simp only [aP,aBr hi,Option.bind_some,ne_eq,not_true_eq_false,if_false,beq_self_eq_true,if_true,w0,wi'])
   (fun k m hm=>by unfold mV;simp only [];rw [if_neg (by omega)]) (fun k m hm=>by unfold mY;simp only [];rw [if_neg (by omega)]) k h0 h1
  exact ⟨k',l',by unfold bM uH;simp only [p1,Option.bind_some];rw [aR p2];rfl,by unfold bS;simp only [p3,Option.bind_some],p4,p5,p2⟩
def dN (x:BigInt):Nat:=dX x.fMag
theorem aKq (x:BigInt) (o:aFg x) (t:Int) (h0:0≤t) (h1:t≤1048576):sK x t=some (if (dN x:Int)≤t then t - dN x else -1):=by
  unfold sK dN
  rw [aJM x.fMag o.2.1 t (by omega) (by omega)]
  simp only [Option.bind_some]
  by_cases c:(dX x.fMag:Int)≤t
  · rw [if_pos c,if_neg (by omega)]
  · rw [if_neg c];rfl
theorem aKo (x:BigInt) (h:dN x≤4294967296):sJ x=some x:=by
  unfold dN at h
  unfold sJ
  rw [aCO x.fMag (by omega)]
  simp only [Option.bind_some]
theorem aKN (x:BigInt) (h:dN x≤4294967296):sM x x=some true:=by
  unfold dN at h
  unfold sM
  have e0:=aAx x.fMag (by omega)
  simp only [e0,Option.bind_some,if_true,ne_eq,not_true_eq_false,if_false,beq_self_eq_true]
def aQ (x:Rat):Nat:=dN x.fNum+dX x.fDen
theorem aAY (x:Rat) (o:aCa x) (t:Int) (h0:0≤t) (h1:t≤1048576):jC x t=some (if (aQ x:Int)≤t then t - aQ x else -1):=by
  unfold jC aQ
  rw [aKq x.fNum o.1 (t) (by omega) (by omega)]
  simp only [Option.bind_some]
  by_cases c0:(dN x.fNum:Int)≤t
  · skip
    rw [if_pos c0,if_neg (by omega)]
    rw [aJM x.fDen o.2.1 (t - dN x.fNum) (by omega) (by omega)]
    simp only [Option.bind_some]
    by_cases c1:(dX x.fDen:Int)≤t - dN x.fNum
    · skip
      rw [if_pos c1,if_neg (by omega)]
      rw [if_pos (by omega)];congr 1;omega
    · rw [if_neg c1,if_pos (by omega),if_neg (by omega)]
  · rw [if_neg c0,if_pos (by omega),if_neg (by omega)]
theorem aAX (x:Rat) (h:aQ x≤4294967296):jB x=some x:=by
  unfold aQ at h
  unfold jB
  rw [aKo x.fNum (by omega)]
  simp only [Option.bind_some]
  rw [aCO x.fDen (by omega)]
  simp only [Option.bind_some]
theorem aBt (x:Rat) (h:aQ x≤4294967296):jD x x=some true:=by
  unfold aQ at h
  unfold jD
  have e0:=aKN x.fNum (by omega)
  have e1:=aAx x.fDen (by omega)
  simp only [e0,e1,Option.bind_some,if_true,ne_eq,not_true_eq_false,if_false,beq_self_eq_true]
def bX (x:Parent):Nat:=aQ x.fShare+aQ x.fDX+aQ x.fDY
theorem aKp (x:Parent) (o:aA5 x) (t:Int) (h0:0≤t) (h1:t≤1048576):pQ x t=some (if (bX x:Int)≤t then t - bX x else -1):=by
  unfold pQ bX
  rw [aAY x.fShare o.2.1 (t) (by omega) (by omega)]
  simp only [Option.bind_some]
  by_cases c0:(aQ x.fShare:Int)≤t
  · skip
    rw [if_pos c0,if_neg (by omega)]
    rw [aAY x.fDX o.2.2.1 (t - aQ x.fShare) (by omega) (by omega)]
    simp only [Option.bind_some]
    by_cases c1:(aQ x.fDX:Int)≤t - aQ x.fShare
    · skip
      rw [if_pos c1,if_neg (by omega)]
      rw [aAY x.fDY o.2.2.2.1 (t - aQ x.fShare - aQ x.fDX) (by omega) (by omega)]
      simp only [Option.bind_some]
      by_cases c2:(aQ x.fDY:Int)≤t - aQ x.fShare - aQ x.fDX
      · skip
        rw [if_pos c2,if_neg (by omega)]
        rw [if_pos (by omega)];congr 1;omega
      · rw [if_neg c2,if_pos (by omega),if_neg (by omega)]
    · rw [if_neg c1,if_pos (by omega),if_neg (by omega)]
  · rw [if_neg c0,if_pos (by omega),if_neg (by omega)]
theorem aKn (x:Parent) (h:bX x≤4294967296):sI x=some x:=by
  unfold bX at h
  unfold sI
  rw [aAX x.fShare (by omega)]
  simp only [Option.bind_some]
  rw [aAX x.fDX (by omega)]
  simp only [Option.bind_some]
  rw [aAX x.fDY (by omega)]
  simp only [Option.bind_some]
theorem aKM (x:Parent) (h:bX x≤4294967296):sL x x=some true:=by
  unfold bX at h
  unfold sL
  have e0:=aBt x.fShare (by omega)
  have e1:=aBt x.fDX (by omega)
  have e2:=aBt x.fDY (by omega)
  simp only [e0,e1,e2,Option.bind_some,if_true,ne_eq,not_true_eq_false,if_false,beq_self_eq_true]
def cR (x:(List Parent)):Nat:=szL bX x
theorem aI3 (x:(List Parent)) (o:(okL aA5) x) (t:Int) (h0:0≤t) (h1:t≤1048576):qQ x t=some (if (cR x:Int)≤t then t - cR x else -1):=by
  have hl:x.length≤9223372036854775807:=o.1
  have e:=aEY bX x
  unfold qQ cR
  simp only [aP]
  rw [wi (by omega)]
  by_cases c:t - (x.length:Int) < 0
  · rw [if_pos c,if_neg (by omega)]
  · rw [if_neg c,aJj x bX pQ (fun y hy t a b=>aKp y (o.2 y hy) t a b) (fun k t hk=>by unfold pY;simp only [];rw [if_pos (by omega),aH hk];simp only [Option.bind_some];rw [wi (by omega)]) (fun t=>by unfold pY;simp only [];rw [if_neg (by omega)]) _ (by omega) (by omega)]
    by_cases d:((x.map bX).sum:Int)≤t - x.length
    · rw [if_pos d,if_pos (by omega)];simp only [Option.bind_some];congr 1;omega
    · rw [if_neg d,if_neg (by omega)];rfl
theorem aI0 (x:(List Parent)) (h:cR x≤4294967296):qO x=some x:=by
  have hl:=dR bX x
  unfold cR at h
  unfold qO
  rw [aR (by omega)]
  simp only [Option.bind_some]
  have:=aEI (step:=lN x) x (List.replicate (x.length:Int).toNat (Parent.mk 0 (Rat.mk (BigInt.mk false ([])) ([])) (Rat.mk (BigInt.mk false ([])) ([])) (Rat.mk (BigInt.mk false ([])) ([])))) (fun k m=>((k:Int),m)) (fun m=>m) (by simp) (fun k m hk hm=>by
    have he:=gO (w:=bX) (List.getElem_mem hk)
    unfold lN
    simp only []
    rw [if_pos (by omega),aH hk,aH (l:=m) (by omega)]
    simp only [Option.bind_some,aP,iF,aKn _ (show bX x[k]≤4294967296 by omega)]
    rw [wi (by omega)];rfl)
   (fun m hm=>by unfold lN;simp only [];rw [if_neg (by omega)])
  rw [show ((0:Nat):Int)=0 from rfl] at this
  rw [this];rfl
theorem aJr (x:(List Parent)) (h:cR x≤4294967296):qS x x=some true:=by
  have hl:=dR bX x
  unfold cR at h
  unfold qS
  rw [if_neg (by simp),aDi x.length (.inl ())]
  · rfl
  · intro k hk
    have he:=gO (w:=bX) (List.getElem_mem hk)
    unfold pZ
    rw [if_pos (by omega),aH hk]
    simp only [Option.bind_some,aKM _ (show bX x[k]≤4294967296 by omega),if_true]
    rw [wi (by omega)];rfl
  · unfold pZ;rw [if_neg (by omega)]
theorem aJh (x:(List Parent)) (k:Int) (h0:0≤k) (h1:k+100*(cR x:Int)≤4611686018427387904):∃ k' x',jY x k=some (k',x')∧mW x' k=some k'∧k≤k'∧k'≤k+100*(cR x:Int)∧x'.length=x.length:=by
  unfold cR at h1 ⊢
  obtain ⟨k',l',p1,p2,p3,p4,p5⟩:=aHE (ms:=jJ) (hs:=jK) bX x (fun hl y k h0 h1=>by
    simp only [bX,aQ,dN] at h1 ⊢
    obtain ⟨k0,x0,e0,g0,a0,b0,l0⟩:=hC y.fShare.fNum.fMag (k+1+1) (by omega) (by omega)
    obtain ⟨k1,x1,e1,g1,a1,b1,l1⟩:=hC y.fShare.fDen (k0) (by omega) (by omega)
    obtain ⟨k2,x2,e2,g2,a2,b2,l2⟩:=hC y.fDX.fNum.fMag (k1+1) (by omega) (by omega)
    obtain ⟨k3,x3,e3,g3,a3,b3,l3⟩:=hC y.fDX.fDen (k2) (by omega) (by omega)
    obtain ⟨k4,x4,e4,g4,a4,b4,l4⟩:=hC y.fDY.fNum.fMag (k3+1) (by omega) (by omega)
    obtain ⟨k5,x5,e5,g5,a5,b5,l5⟩:=hC y.fDY.fDen (k4) (by omega) (by omega)
    have w0:IntKind.i64.wrap (k+1)=k+1:=wi (by omega)
    have w1:IntKind.i64.wrap (k+1+1)=k+1+1:=wi (by omega)
    have w2:IntKind.i64.wrap (k1+1)=k1+1:=wi (by omega)
    have w3:IntKind.i64.wrap (k3+1)=k3+1:=wi (by omega)
    have n0:¬k0 < 0:=by omega
    have n1:¬k1 < 0:=by omega
    have n2:¬k2 < 0:=by omega
    have n3:¬k3 < 0:=by omega
    have n4:¬k4 < 0:=by omega
    have n5:¬k5 < 0:=by omega
    refine ⟨k5,(Parent.mk (k) (Rat.mk (BigInt.mk (decide ((k+1).tmod 3=0)) x0) x1) (Rat.mk (BigInt.mk (decide ((k1).tmod 3=0)) x2) x3) (Rat.mk (BigInt.mk (decide ((k3).tmod 3=0)) x4) x5)),by omega,by omega,fun m i hi hm=>?_,fun m i hi hm=>?_⟩
    · have hlt:=(List.getElem?_eq_some_iff.1 hi).1
      have wi':IntKind.i64.wrap ((i:Int)+1)=(i:Int)+1:=wi (by omega)
      unfold jJ
      simp only []
      rw [if_pos (by omega)]
      simp only [aP,iF,aBr hi,aDo hlt,List.set_set,Option.bind_some,w0,w1,w2,w3,e0,e1,e2,e3,e4,e5,wi']
    · have hlt:=(List.getElem?_eq_some_iff.1 hi).1
      have wi':IntKind.i64.wrap ((i:Int)+1)=(i:Int)+1:=wi (by omega)
      unfold jK
      simp only []
      rw [if_pos (by omega)]
      simp only [aP,aBr hi,Option.bind_some,ne_eq,not_true_eq_false,if_false,beq_self_eq_true,if_true,w0,w1,w2,w3,g0,g1,g2,g3,g4,g5,n0,n1,n2,n3,n4,n5,wi'])
   (fun k m hm=>by unfold jJ;simp only [];rw [if_neg (by omega)]) (fun k m hm=>by unfold jK;simp only [];rw [if_neg (by omega)]) k h0 h1
  exact ⟨k',l',by unfold jY qR;simp only [p1,Option.bind_some];rw [aR p2];rfl,by unfold mW;simp only [p3,Option.bind_some],p4,p5,p2⟩
def aL (x:Conditional):Nat:=aQ x.fTotal+cR x.fParents
theorem aEX (x:Conditional) (o:zA x) (t:Int) (h0:0≤t) (h1:t≤1048576):kK x t=some (if (aL x:Int)≤t then t - aL x else -1):=by
  unfold kK aL
  rw [aAY x.fTotal o.2.1 (t) (by omega) (by omega)]
  simp only [Option.bind_some]
  by_cases c0:(aQ x.fTotal:Int)≤t
  · skip
    rw [if_pos c0,if_neg (by omega)]
    rw [aI3 x.fParents o.2.2.1 (t - aQ x.fTotal) (by omega) (by omega)]
    simp only [Option.bind_some]
    by_cases c1:(cR x.fParents:Int)≤t - aQ x.fTotal
    · skip
      rw [if_pos c1,if_neg (by omega)]
      rw [if_pos (by omega)];congr 1;omega
    · rw [if_neg c1,if_pos (by omega),if_neg (by omega)]
  · rw [if_neg c0,if_pos (by omega),if_neg (by omega)]
theorem aES (x:Conditional) (h:aL x≤4294967296):kJ x=some x:=by
  unfold aL at h
  unfold kJ
  rw [aAX x.fTotal (by omega)]
  simp only [Option.bind_some]
  rw [aI0 x.fParents (by omega)]
  simp only [Option.bind_some]
theorem aFU (x:Conditional) (h:aL x≤4294967296):kM x x=some true:=by
  unfold aL at h
  unfold kM
  have e0:=aBt x.fTotal (by omega)
  have e1:=aJr x.fParents (by omega)
  simp only [e0,e1,Option.bind_some,if_true,ne_eq,not_true_eq_false,if_false,beq_self_eq_true]
def bH (x:Link):Nat:=aQ x.fWeight+aQ x.fDX+aQ x.fDY
theorem aMn (x:Link) (o:aA6 x) (t:Int) (h0:0≤t) (h1:t≤1048576):tL x t=some (if (bH x:Int)≤t then t - bH x else -1):=by
  unfold tL bH
  rw [aAY x.fWeight o.2.2.1 (t) (by omega) (by omega)]
  simp only [Option.bind_some]
  by_cases c0:(aQ x.fWeight:Int)≤t
  · skip
    rw [if_pos c0,if_neg (by omega)]
    rw [aAY x.fDX o.2.2.2.1 (t - aQ x.fWeight) (by omega) (by omega)]
    simp only [Option.bind_some]
    by_cases c1:(aQ x.fDX:Int)≤t - aQ x.fWeight
    · skip
      rw [if_pos c1,if_neg (by omega)]
      rw [aAY x.fDY o.2.2.2.2.1 (t - aQ x.fWeight - aQ x.fDX) (by omega) (by omega)]
      simp only [Option.bind_some]
      by_cases c2:(aQ x.fDY:Int)≤t - aQ x.fWeight - aQ x.fDX
      · skip
        rw [if_pos c2,if_neg (by omega)]
        rw [if_pos (by omega)];congr 1;omega
      · rw [if_neg c2,if_pos (by omega),if_neg (by omega)]
    · rw [if_neg c1,if_pos (by omega),if_neg (by omega)]
  · rw [if_neg c0,if_pos (by omega),if_neg (by omega)]
theorem aMm (x:Link) (h:bH x≤4294967296):wS x=some x:=by
  unfold bH at h
  unfold wS
  rw [aAX x.fWeight (by omega)]
  simp only [Option.bind_some]
  rw [aAX x.fDX (by omega)]
  simp only [Option.bind_some]
  rw [aAX x.fDY (by omega)]
  simp only [Option.bind_some]
theorem aMD (x:Link) (h:bH x≤4294967296):wT x x=some true:=by
  unfold bH at h
  unfold wT
  have e0:=aBt x.fWeight (by omega)
  have e1:=aBt x.fDX (by omega)
  have e2:=aBt x.fDY (by omega)
  simp only [e0,e1,e2,Option.bind_some,if_true,ne_eq,not_true_eq_false,if_false,beq_self_eq_true]
def aK (x:(List Link)):Nat:=szL bH x
theorem aEW (x:(List Link)) (o:(okL aA6) x) (t:Int) (h0:0≤t) (h1:t≤1048576):nZ x t=some (if (aK x:Int)≤t then t - aK x else -1):=by
  have hl:x.length≤9223372036854775807:=o.1
  have e:=aEY bH x
  unfold nZ aK
  simp only [aP]
  rw [wi (by omega)]
  by_cases c:t - (x.length:Int) < 0
  · rw [if_pos c,if_neg (by omega)]
  · rw [if_neg c,aJj x bH tL (fun y hy t a b=>aMn y (o.2 y hy) t a b) (fun k t hk=>by unfold sZ;simp only [];rw [if_pos (by omega),aH hk];simp only [Option.bind_some];rw [wi (by omega)]) (fun t=>by unfold sZ;simp only [];rw [if_neg (by omega)]) _ (by omega) (by omega)]
    by_cases d:((x.map bH).sum:Int)≤t - x.length
    · rw [if_pos d,if_pos (by omega)];simp only [Option.bind_some];congr 1;omega
    · rw [if_neg d,if_neg (by omega)];rfl
theorem aER (x:(List Link)) (h:aK x≤4294967296):hU x=some x:=by
  have hl:=dR bH x
  unfold aK at h
  unfold hU
  rw [aR (by omega)]
  simp only [Option.bind_some]
  have:=aEI (step:=pB x) x (List.replicate (x.length:Int).toNat (Link.mk 0 0 (Rat.mk (BigInt.mk false ([])) ([])) (Rat.mk (BigInt.mk false ([])) ([])) (Rat.mk (BigInt.mk false ([])) ([])))) (fun k m=>((k:Int),m)) (fun m=>m) (by simp) (fun k m hk hm=>by
    have he:=gO (w:=bH) (List.getElem_mem hk)
    unfold pB
    simp only []
    rw [if_pos (by omega),aH hk,aH (l:=m) (by omega)]
    simp only [Option.bind_some,aP,iF,aMm _ (show bH x[k]≤4294967296 by omega)]
    rw [wi (by omega)];rfl)
   (fun m hm=>by unfold pB;simp only [];rw [if_neg (by omega)])
  rw [show ((0:Nat):Int)=0 from rfl] at this
  rw [this];rfl
theorem aFT (x:(List Link)) (h:aK x≤4294967296):oB x x=some true:=by
  have hl:=dR bH x
  unfold aK at h
  unfold oB
  rw [if_neg (by simp),aDi x.length (.inl ())]
  · rfl
  · intro k hk
    have he:=gO (w:=bH) (List.getElem_mem hk)
    unfold tA
    rw [if_pos (by omega),aH hk]
    simp only [Option.bind_some,aMD _ (show bH x[k]≤4294967296 by omega),if_true]
    rw [wi (by omega)];rfl
  · unfold tA;rw [if_neg (by omega)]
theorem aFq (x:(List Link)) (k:Int) (h0:0≤k) (h1:k+100*(aK x:Int)≤4611686018427387904):∃ k' x',iH x k=some (k',x')∧mX x' k=some k'∧k≤k'∧k'≤k+100*(aK x:Int)∧x'.length=x.length:=by
  unfold aK at h1 ⊢
  obtain ⟨k',l',p1,p2,p3,p4,p5⟩:=aHE (ms:=lO) (hs:=lP) bH x (fun hl y k h0 h1=>by
    simp only [bH,aQ,dN] at h1 ⊢
    obtain ⟨k0,x0,e0,g0,a0,b0,l0⟩:=hC y.fWeight.fNum.fMag (k+1+1+1) (by omega) (by omega)
    obtain ⟨k1,x1,e1,g1,a1,b1,l1⟩:=hC y.fWeight.fDen (k0) (by omega) (by omega)
    obtain ⟨k2,x2,e2,g2,a2,b2,l2⟩:=hC y.fDX.fNum.fMag (k1+1) (by omega) (by omega)
    obtain ⟨k3,x3,e3,g3,a3,b3,l3⟩:=hC y.fDX.fDen (k2) (by omega) (by omega)
    obtain ⟨k4,x4,e4,g4,a4,b4,l4⟩:=hC y.fDY.fNum.fMag (k3+1) (by omega) (by omega)
    obtain ⟨k5,x5,e5,g5,a5,b5,l5⟩:=hC y.fDY.fDen (k4) (by omega) (by omega)
    have w0:IntKind.i64.wrap (k+1)=k+1:=wi (by omega)
    have w1:IntKind.i64.wrap (k+1+1)=k+1+1:=wi (by omega)
    have w2:IntKind.i64.wrap (k+1+1+1)=k+1+1+1:=wi (by omega)
    have w3:IntKind.i64.wrap (k1+1)=k1+1:=wi (by omega)
    have w4:IntKind.i64.wrap (k3+1)=k3+1:=wi (by omega)
    have n0:¬k0 < 0:=by omega
    have n1:¬k1 < 0:=by omega
    have n2:¬k2 < 0:=by omega
    have n3:¬k3 < 0:=by omega
    have n4:¬k4 < 0:=by omega
    have n5:¬k5 < 0:=by omega
    refine ⟨k5,(Link.mk (k) (k+1) (Rat.mk (BigInt.mk (decide ((k+1+1).tmod 3=0)) x0) x1) (Rat.mk (BigInt.mk (decide ((k1).tmod 3=0)) x2) x3) (Rat.mk (BigInt.mk (decide ((k3).tmod 3=0)) x4) x5)),by omega,by omega,fun m i hi hm=>?_,fun m i hi hm=>?_⟩
    · have hlt:=(List.getElem?_eq_some_iff.1 hi).1
      have wi':IntKind.i64.wrap ((i:Int)+1)=(i:Int)+1:=wi (by omega)
      unfold lO
      simp only []
      rw [if_pos (by omega)]
      simp only [aP,iF,aBr hi,aDo hlt,List.set_set,Option.bind_some,w0,w1,w2,w3,w4,e0,e1,e2,e3,e4,e5,wi']
    · have hlt:=(List.getElem?_eq_some_iff.1 hi).1
      have wi':IntKind.i64.wrap ((i:Int)+1)=(i:Int)+1:=wi (by omega)
      unfold lP
      simp only []
      rw [if_pos (by omega)]
      simp only [aP,aBr hi,Option.bind_some,ne_eq,not_true_eq_false,if_false,beq_self_eq_true,if_true,w0,w1,w2,w3,w4,g0,g1,g2,g3,g4,g5,n0,n1,n2,n3,n4,n5,wi'])
   (fun k m hm=>by unfold lO;simp only [];rw [if_neg (by omega)]) (fun k m hm=>by unfold lP;simp only [];rw [if_neg (by omega)]) k h0 h1
  exact ⟨k',l',by unfold iH tH;simp only [p1,Option.bind_some];rw [aR p2];rfl,by unfold mX;simp only [p3,Option.bind_some],p4,p5,p2⟩
def aS (x:TreeNode):Nat:=aK x.fOwn+aL x.fCond+aK x.fMessages+aQ x.fEnergy
theorem aH2 (x:TreeNode) (o:xX x) (t:Int) (h0:0≤t) (h1:t≤1048576):kX x t=some (if (aS x:Int)≤t then t - aS x else -1):=by
  unfold kX aS
  rw [aEW x.fOwn o.2.2.1 (t) (by omega) (by omega)]
  simp only [Option.bind_some]
  by_cases c0:(aK x.fOwn:Int)≤t
  · skip
    rw [if_pos c0,if_neg (by omega)]
    rw [aEX x.fCond o.2.2.2.1 (t - aK x.fOwn) (by omega) (by omega)]
    simp only [Option.bind_some]
    by_cases c1:(aL x.fCond:Int)≤t - aK x.fOwn
    · skip
      rw [if_pos c1,if_neg (by omega)]
      rw [aEW x.fMessages o.2.2.2.2.1 (t - aK x.fOwn - aL x.fCond) (by omega) (by omega)]
      simp only [Option.bind_some]
      by_cases c2:(aK x.fMessages:Int)≤t - aK x.fOwn - aL x.fCond
      · skip
        rw [if_pos c2,if_neg (by omega)]
        rw [aAY x.fEnergy o.2.2.2.2.2.1 (t - aK x.fOwn - aL x.fCond - aK x.fMessages) (by omega) (by omega)]
        simp only [Option.bind_some]
        by_cases c3:(aQ x.fEnergy:Int)≤t - aK x.fOwn - aL x.fCond - aK x.fMessages
        · skip
          rw [if_pos c3,if_neg (by omega)]
          rw [if_pos (by omega)];congr 1;omega
        · rw [if_neg c3,if_pos (by omega),if_neg (by omega)]
      · rw [if_neg c2,if_pos (by omega),if_neg (by omega)]
    · rw [if_neg c1,if_pos (by omega),if_neg (by omega)]
  · rw [if_neg c0,if_pos (by omega),if_neg (by omega)]
theorem aH0 (x:TreeNode) (h:aS x≤4294967296):pA x=some x:=by
  unfold aS at h
  unfold pA
  rw [aER x.fOwn (by omega)]
  simp only [Option.bind_some]
  rw [aES x.fCond (by omega)]
  simp only [Option.bind_some]
  rw [aER x.fMessages (by omega)]
  simp only [Option.bind_some]
  rw [aAX x.fEnergy (by omega)]
  simp only [Option.bind_some]
theorem aIB (x:TreeNode) (h:aS x≤4294967296):pC x x=some true:=by
  unfold aS at h
  unfold pC
  have e0:=aFT x.fOwn (by omega)
  have e1:=aFU x.fCond (by omega)
  have e2:=aFT x.fMessages (by omega)
  have e3:=aBt x.fEnergy (by omega)
  simp only [e0,e1,e2,e3,Option.bind_some,if_true,ne_eq,not_true_eq_false,if_false,beq_self_eq_true]
def cC (x:(List TreeNode)):Nat:=szL aS x
theorem aHf (x:(List TreeNode)) (o:(okL xX) x) (t:Int) (h0:0≤t) (h1:t≤1048576):mU x t=some (if (cC x:Int)≤t then t - cC x else -1):=by
  have hl:x.length≤9223372036854775807:=o.1
  have e:=aEY aS x
  unfold mU cC
  simp only [aP]
  rw [wi (by omega)]
  by_cases c:t - (x.length:Int) < 0
  · rw [if_pos c,if_neg (by omega)]
  · rw [if_neg c,aJj x aS kX (fun y hy t a b=>aH2 y (o.2 y hy) t a b) (fun k t hk=>by unfold mE;simp only [];rw [if_pos (by omega),aH hk];simp only [Option.bind_some];rw [wi (by omega)]) (fun t=>by unfold mE;simp only [];rw [if_neg (by omega)]) _ (by omega) (by omega)]
    by_cases d:((x.map aS).sum:Int)≤t - x.length
    · rw [if_pos d,if_pos (by omega)];simp only [Option.bind_some];congr 1;omega
    · rw [if_neg d,if_neg (by omega)];rfl
theorem aHe (x:(List TreeNode)) (h:cC x≤4294967296):mT x=some x:=by
  have hl:=dR aS x
  unfold cC at h
  unfold mT
  rw [aR (by omega)]
  simp only [Option.bind_some]
  have:=aEI (step:=jI x) x (List.replicate (x.length:Int).toNat (TreeNode.mk 0 0 ([]) (Conditional.mk 0 (Rat.mk (BigInt.mk false ([])) ([])) ([])) ([]) (Rat.mk (BigInt.mk false ([])) ([])))) (fun k m=>((k:Int),m)) (fun m=>m) (by simp) (fun k m hk hm=>by
    have he:=gO (w:=aS) (List.getElem_mem hk)
    unfold jI
    simp only []
    rw [if_pos (by omega),aH hk,aH (l:=m) (by omega)]
    simp only [Option.bind_some,aP,iF,aH0 _ (show aS x[k]≤4294967296 by omega)]
    rw [wi (by omega)];rfl)
   (fun m hm=>by unfold jI;simp only [];rw [if_neg (by omega)])
  rw [show ((0:Nat):Int)=0 from rfl] at this
  rw [this];rfl
theorem aHL (x:(List TreeNode)) (h:cC x≤4294967296):mZ x x=some true:=by
  have hl:=dR aS x
  unfold cC at h
  unfold mZ
  rw [if_neg (by simp),aDi x.length (.inl ())]
  · rfl
  · intro k hk
    have he:=gO (w:=aS) (List.getElem_mem hk)
    unfold mF
    rw [if_pos (by omega),aH hk]
    simp only [Option.bind_some,aIB _ (show aS x[k]≤4294967296 by omega),if_true]
    rw [wi (by omega)];rfl
  · unfold mF;rw [if_neg (by omega)]
theorem aHB (x:(List TreeNode)) (k:Int) (h0:0≤k) (h1:k+100*(cC x:Int)≤4611686018427387904):∃ k' x',gT x k=some (k',x')∧kL x' k=some k'∧k≤k'∧k'≤k+100*(cC x:Int)∧x'.length=x.length:=by
  unfold cC at h1 ⊢
  obtain ⟨k',l',p1,p2,p3,p4,p5⟩:=aHE (ms:=gP) (hs:=gQ) aS x (fun hl y k h0 h1=>by
    simp only [aS,aL,aQ,dN] at h1 ⊢
    obtain ⟨k0,x0,e0,g0,a0,b0,l0⟩:=aFq y.fOwn (k+1+1) (by omega) (by omega)
    obtain ⟨k1,x1,e1,g1,a1,b1,l1⟩:=hC y.fCond.fTotal.fNum.fMag (k0+1+1) (by omega) (by omega)
    obtain ⟨k2,x2,e2,g2,a2,b2,l2⟩:=hC y.fCond.fTotal.fDen (k1) (by omega) (by omega)
    obtain ⟨k3,x3,e3,g3,a3,b3,l3⟩:=aJh y.fCond.fParents (k2) (by omega) (by omega)
    obtain ⟨k4,x4,e4,g4,a4,b4,l4⟩:=aFq y.fMessages (k3) (by omega) (by omega)
    obtain ⟨k5,x5,e5,g5,a5,b5,l5⟩:=hC y.fEnergy.fNum.fMag (k4+1) (by omega) (by omega)
    obtain ⟨k6,x6,e6,g6,a6,b6,l6⟩:=hC y.fEnergy.fDen (k5) (by omega) (by omega)
    have w0:IntKind.i64.wrap (k+1)=k+1:=wi (by omega)
    have w1:IntKind.i64.wrap (k+1+1)=k+1+1:=wi (by omega)
    have w2:IntKind.i64.wrap (k0+1)=k0+1:=wi (by omega)
    have w3:IntKind.i64.wrap (k0+1+1)=k0+1+1:=wi (by omega)
    have w4:IntKind.i64.wrap (k4+1)=k4+1:=wi (by omega)
    have n0:¬k0 < 0:=by omega
    have n1:¬k1 < 0:=by omega
    have n2:¬k2 < 0:=by omega
    have n3:¬k3 < 0:=by omega
    have n4:¬k4 < 0:=by omega
    have n5:¬k5 < 0:=by omega
    have n6:¬k6 < 0:=by omega
    refine ⟨k6,(TreeNode.mk (k) (k+1) x0 (Conditional.mk (k0) (Rat.mk (BigInt.mk (decide ((k0+1).tmod 3=0)) x1) x2) x3) x4 (Rat.mk (BigInt.mk (decide ((k4).tmod 3=0)) x5) x6)),by omega,by omega,fun m i hi hm=>?_,fun m i hi hm=>?_⟩
    · have hlt:=(List.getElem?_eq_some_iff.1 hi).1
      have wi':IntKind.i64.wrap ((i:Int)+1)=(i:Int)+1:=wi (by omega)
      unfold gP
      simp only []
      rw [if_pos (by omega)]
      simp only [aP,iF,aBr hi,aDo hlt,List.set_set,Option.bind_some,w0,w1,w2,w3,w4,e0,e1,e2,e3,e4,e5,e6,wi']
    · have hlt:=(List.getElem?_eq_some_iff.1 hi).1
      have wi':IntKind.i64.wrap ((i:Int)+1)=(i:Int)+1:=wi (by omega)
      unfold gQ
      simp only []
      rw [if_pos (by omega)]
      simp only [aP,aBr hi,Option.bind_some,ne_eq,not_true_eq_false,if_false,beq_self_eq_true,if_true,w0,w1,w2,w3,w4,g0,g1,g2,g3,g4,g5,g6,n0,n1,n2,n3,n4,n5,n6,wi'])
   (fun k m hm=>by unfold gP;simp only [];rw [if_neg (by omega)]) (fun k m hm=>by unfold gQ;simp only [];rw [if_neg (by omega)]) k h0 h1
  exact ⟨k',l',by unfold gT oA;simp only [p1,Option.bind_some];rw [aR p2];rfl,by unfold kL;simp only [p3,Option.bind_some],p4,p5,p2⟩
def cG (x:Tree):Nat:=cC x.fNodes
theorem aEC (x:Tree) (o:yZ x) (t:Int) (h0:0≤t) (h1:t≤1048576):nQ x t=some (if (cG x:Int)≤t then t - cG x else -1):=by
  unfold nQ cG
  rw [aHf x.fNodes o.1 t (by omega) (by omega)]
  simp only [Option.bind_some]
  by_cases c:(cC x.fNodes:Int)≤t
  · rw [if_pos c,if_neg (by omega)]
  · rw [if_neg c];rfl
theorem aEB (x:Tree) (h:cG x≤4294967296):cV x=some x:=by
  unfold cG at h
  unfold cV
  rw [aHe x.fNodes (by omega)]
  simp only [Option.bind_some]
theorem aBQ (x:Tree) (h:cG x≤4294967296):eV x x=some true:=by
  unfold cG at h
  unfold eV
  have e0:=aHL x.fNodes (by omega)
  simp only [e0,Option.bind_some,if_true,ne_eq,not_true_eq_false,if_false,beq_self_eq_true]
theorem aC3 (x:Tree) (k:Int) (h0:0≤k) (h1:k+100*(cG x:Int)≤4611686018427387904):∃ k' x',hY x k=some (k',x')∧jT x' k=some k'∧k≤k'∧k'≤k+100*(cG x:Int):=by
  unfold cG at h1 ⊢
  obtain ⟨k0,x0,e0,g0,a0,b0,l0⟩:=aHB x.fNodes (k) (by omega) (by omega)
  have n0:¬k0 < 0:=by omega
  exact ⟨k0,Tree.mk x0,by unfold hY;simp only [e0,Option.bind_some],by unfold jT;simp only [g0,n0,Option.bind_some,if_false],by omega,by omega⟩
end Go.Ev
/- Fractions made of whole numbers: both programs make the same. -/
namespace Go.Ev
set_option linter.all false
theorem wu {n:Int} (h:0≤n∧n≤18446744073709551615):IntKind.u64.wrap n=n:=by
  have:IntKind.u64.wrap n=n % 18446744073709551616:=by simp [IntKind.wrap,IntKind.bits,IntKind.signed]
  rw [this];omega
theorem aET (v:Nat):((v:Int)).tmod 1000000000=((v % BB:Nat):Int):=by
  rw [Int.tmod_eq_emod_of_nonneg (by omega),dQ];omega
theorem aEU (v:Nat):((v:Int)).tdiv 1000000000=((v / BB:Nat):Int):=by
  rw [Int.tdiv_eq_ediv_of_nonneg (by omega),dQ];omega
theorem aFm:∀ (v:Nat) (t:List Int),v < 18446744073709551616→t.length+(aA v).length≤1000→lp iV ((v:Int),t)=some (t++aA v):=by
  intro v
  induction v using Nat.strongRecOn with
  | _ v ih =>
    intro t hv ht
    by_cases h:v=0
    · subst h
      rw [bN,List.append_nil]
      exact aM (by unfold iV;simp)
    · rw [gX h,List.length_cons] at ht
      have hm:=Nat.mod_lt v uW
      have hd:=Nat.div_le_self v BB
      rw [dQ] at hm
      have e:iV ((v:Int),t)=some (.inl (((v / BB:Nat):Int),t++[((v % BB:Nat):Int)])):=by
        unfold iV
        simp only []
        rw [if_pos (by omega),aET,aEU,wi (by rw [dQ];omega),wu (by rw [dQ] at hd ⊢;omega),aR (by omega)]
        rfl
      rw [bI e,ih _ (Nat.div_lt_self (by omega) (by rw [dQ];omega)) _ (by omega) (by simp;omega),gX h]
      simp
theorem jQ {v:Nat} (h:v < 18446744073709551616):(aA v).length≤3:=by
  refine jV ?_
  rw [dQ];omega
theorem wR (v:Nat) (h:v < 18446744073709551616):gI (v:Int)=some (aA v):=by
  unfold gI
  have:=jQ h
  rw [aFm v [] h (by simp;omega)]
  simp
theorem aJG:∀ (v:Nat) (t:List Int),v < 9223372036854775808→t.length+(aA v).length≤1000→lp pO ((v:Int),t)=some (t++aA v):=by
  intro v
  induction v using Nat.strongRecOn with
  | _ v ih =>
    intro t hv ht
    by_cases h:v=0
    · subst h
      rw [bN,List.append_nil]
      exact aM (by unfold pO;simp)
    · rw [gX h,List.length_cons] at ht
      have hd:=Nat.div_le_self v BB
      have e:pO ((v:Int),t)=some (.inl (((v / BB:Nat):Int),t++[((v % BB:Nat):Int)])):=by
        unfold pO
        simp only []
        rw [if_pos (by omega),aET,aEU,wi (by rw [dQ] at hd ⊢;omega),aR (by omega)]
        rfl
      rw [bI e,ih _ (Nat.div_lt_self (by omega) (by rw [dQ];omega)) _ (by omega) (by simp;omega),gX h]
      simp
theorem aAG (v:Nat) (h:v < 9223372036854775808):lY (v:Int)=some (aA v):=by
  unfold lY
  have:=jQ (v:=v) (by omega)
  rw [aJG v [] h (by simp;omega)]
  simp
theorem aKm (l:List Int) (hl:l.length≤4294967296):∀ k:Nat,k≤l.length→(∀ i (hi:i < l.length),k≤i→l[i]=0)→lp (fL l) (k:Int)=some (((rU l).length:Nat):Int):=by
  have htl:∀ (m:List Int) (k:Nat),k≤m.length→(∀ i (hi:i < m.length),k≤i→m[i]=0)→rU m=rU (m.take k):=by
    intro m
    induction m with
    | nil=>intro k _ _;simp
    | cons d m ih =>
      intro k hk hz
      cases k with
      | zero =>
        have h0:d=0:=hz 0 (by simp) (Nat.le_refl _)
        have:=ih 0 (by omega) (fun i hi _=>by have:=hz (i+1) (by simpa using hi) (by omega);simpa using this)
        rw [List.take_zero] at this ⊢
        unfold rU
        rw [this];simp [rU,h0]
      | succ k =>
        have:=ih k (by simpa using hk) (fun i hi hki=>by have:=hz (i+1) (by simpa using hi) (by omega);simpa using this)
        rw [List.take_succ_cons]
        conv=>lhs;unfold rU
        conv=>rhs;unfold rU
        rw [this]
  intro k
  induction k with
  | zero =>
    intro hk hz
    rw [htl l 0 (by omega) hz,List.take_zero]
    exact aM (by unfold fL;simp [rU])
  | succ k ih =>
    intro hk hz
    have hlt:k < l.length:=by omega
    by_cases c:l[k]=0
    · have e:fL l ((k+1:Nat):Int)=some (.inl (k:Int)):=by
        unfold fL
        rw [if_pos (by omega),wi (by omega),show ((k+1:Nat):Int) - 1=(k:Int) by omega,aH hlt]
        simp [c]
      rw [bI e]
      exact ih (by omega) (fun i hi hki=>by
        by_cases e:i=k
        · subst e;exact c
        · exact hz i hi (by omega))
    · have e:fL l ((k+1:Nat):Int)=some (.inr ((k+1:Nat):Int)):=by
        unfold fL
        rw [if_pos (by omega),wi (by omega),show ((k+1:Nat):Int) - 1=(k:Int) by omega,aH hlt]
        simp [c]
      rw [aM e,htl l (k+1) hk hz,aC1 (l:=l.take (k+1))]
      · simp;omega
      · have e:l.take (k+1)=l.take k++[l[k]]:=by rw [List.take_succ,List.getElem?_eq_getElem hlt];rfl
        rw [e,List.getLast?_concat];simpa using c
theorem aGF (l:List Int):rU l=l.take (rU l).length:=by
  induction l with
  | nil=>rfl
  | cons d l ih =>
    unfold rU
    cases h:rU l with
    | nil =>
      by_cases c:d=0 <;> simp [c]
    | cons t r =>
      rw [h] at ih
      simp only [List.length_cons,List.take_succ_cons] at ih ⊢
      rw [← ih]
theorem aHY (l:List Int):(rU l).length≤l.length:=by
  have:=congrArg List.length (aGF l)
  rw [List.length_take] at this;omega
theorem aGU (l:List Int) (hl:l.length≤4294967296):cU l=some (rU l):=by
  unfold cU
  rw [aKm l hl l.length (Nat.le_refl _) (fun i hi h=>by omega)]
  simp only [Option.bind_some]
  have:=aHY l
  rw [vQ _ _ _ (by omega)]
  simp only [Option.bind_some]
  congr 1
  have e:=aGF l
  simp only [Int.toNat_zero,List.drop_zero,Int.sub_zero,Int.toNat_natCast]
  exact e.symm
theorem aLM (v:Nat) (h:(aA v).length≤60):wI (aA v)=some (aA v):=by
  unfold wI
  rw [aGU _ (by omega)]
  simp only [Option.bind_some]
  rw [aC1 (aBu v),if_neg (by omega)]
def big (n:Int):BigInt:=⟨decide (n < 0),aA n.natAbs⟩
theorem rK (s:Bool) (v:Nat) (h:(aA v).length≤60):cS s (aA v)=some ⟨s&&decide (v≠0),aA v⟩:=by
  unfold cS
  rw [aLM v h]
  simp only [Option.bind_some]
  have hz:(0 < ((aA v).length:Int))↔v≠0:=by
    constructor
    · intro h e;subst e;rw [bN] at h;simp at h
    · intro h
      have:(aA v).length≠0:=fun e=>eC h (List.length_eq_zero_iff.1 e)
      omega
  cases s with
  | true =>
    simp only [if_true]
    rw [aR (by simp;omega)]
    simp only [Option.bind_some,aP,List.nil_append,Bool.true_and]
    congr 2
    exact decide_eq_decide.2 hz
  | false =>
    simp only [Bool.false_eq_true,if_false]
    rw [aR (by simp;omega)]
    simp only [Option.bind_some,aP,List.nil_append,Bool.false_and]
theorem vM (s:Bool) (v:Nat) (h:(aA v).length≤60):eQ s (aA v)=some ⟨s&&decide (v≠0),aA v⟩:=by
  unfold eQ
  by_cases hv:v=0
  · subst hv
    rw [bN];simp
  · have:(aA v).length≠0:=fun e=>eC hv (List.length_eq_zero_iff.1 e)
    rw [if_neg (by omega)]
    simp only [Option.bind_some]
    have h2:¬(60 < ((aA v).length:Int)):=by omega
    simp [h2,hv]
theorem aEv (n:Int) (h:-9223372036854775808≤n∧n≤9223372036854775807):sT n=some (big n):=by
  unfold sT big
  by_cases c:n < 0
  · rw [if_pos c]
    simp only [aP]
    rw [wi (n:=n+1) (by omega),wi (by omega),wu (n:=0 - (n+1)) (by omega),wu (by omega)]
    have e:(0 - (n+1)+1)=((n.natAbs:Nat):Int):=by omega
    have hl:=jQ (v:=n.natAbs) (by omega)
    rw [e,wR _ (by omega)]
    simp only [Option.bind_some]
    rw [vM true _ (by omega)]
    simp only [Option.bind_some,Bool.true_and]
    have:n.natAbs≠0:=by omega
    simp [c,this]
  · rw [if_neg c]
    have e:n=((n.natAbs:Nat):Int):=by omega
    have hl:=jQ (v:=n.natAbs) (by omega)
    rw [wu (by omega)]
    conv=>lhs;rw [e]
    rw [wR _ (by omega)]
    simp only [Option.bind_some]
    rw [vM false _ (by omega)]
    simp [c]
theorem aD7 (n:Int) (h:-9223372036854775808≤n∧n≤9223372036854775807):sD n=some (big n):=by
  unfold sD big
  by_cases c0:n=-9223372036854775808
  · rw [if_pos c0]
    subst c0
    have hd:([854775808,223372036,9]:List Int)=aA 9223372036854775808:=by
      have h1:dgs [854775808,223372036,9]:=by intro d hd;simp at hd;omega
      have:=aAm (l:=[854775808,223372036,9]) ⟨h1,by simp⟩
      rw [this];rfl
    have hl:=jQ (v:=9223372036854775808) (by omega)
    rw [hd,rK true _ (by omega)]
    simp only [Option.bind_some]
    rfl
  · rw [if_neg c0]
    by_cases c:n < 0
    · rw [if_pos c,wi (by omega)]
      have e:(0 - n)=((n.natAbs:Nat):Int):=by omega
      have hl:=jQ (v:=n.natAbs) (by omega)
      rw [e,aAG _ (by omega)]
      simp only [Option.bind_some]
      rw [rK true _ (by omega)]
      simp only [Option.bind_some,Bool.true_and]
      have:n.natAbs≠0:=by omega
      simp [c,this]
    · rw [if_neg c]
      have e:n=((n.natAbs:Nat):Int):=by omega
      have hl:=jQ (v:=n.natAbs) (by omega)
      conv=>lhs;rw [e]
      rw [aAG _ (by omega)]
      simp only [Option.bind_some]
      rw [rK false _ (by omega)]
      simp [c]
def xU (n:Int):Rat:=⟨big n,[1]⟩
theorem lV (n:Int) (h:-9223372036854775808≤n∧n≤9223372036854775807):eK n=some (xU n):=by
  unfold eK
  rw [aEv n h];rfl
theorem lF (n:Int) (h:-9223372036854775808≤n∧n≤9223372036854775807):eI n=some (xU n):=by
  unfold eI
  rw [aD7 n h];rfl
end Go.Ev
/- Naturals as limbs: order, sums, differences; both programs. -/
namespace Go.Ev
set_option linter.all false
theorem xI:oG=cU:=rfl
theorem aAg {l:List Int} (h:dgs l) (hl:l.length≤4294967296):cU l=some (aA (val l)):=by rw [aGU l hl,aEQ h]
theorem aIJ:yH=gE:=rfl
theorem aLY (x y t:Nat):sU (x+t) (y+t)=sU x y:=by unfold sU;simp only [Nat.add_lt_add_iff_right]
theorem aLW (a b:List Int) (ha:dgs a) (hb:dgs b) (hab:a.length=b.length) (hl:a.length≤4294967296):∀ k:Nat,k≤a.length →
    lp (gE a b) ((k:Int) - 1)=some (if val (a.take k)=val (b.take k) then .inl () else .inr (sU (val (a.take k)) (val (b.take k)))):=by
  intro k
  induction k with
  | zero =>
    intro _
    rw [aM (r:=.inl ()) (by unfold gE;rw [if_neg (by omega)])]
    simp
  | succ k ih =>
    intro hk
    have h1:k < a.length:=by omega
    have h2:k < b.length:=by omega
    have d1:=mG ha h1
    have d2:=mG hb h2
    have v1:=aEP (aII ha k)
    have v2:=aEP (aII hb k)
    rw [List.length_take,Nat.min_eq_left (by omega)] at v1 v2
    rw [pL h1,pL h2]
    have hk1:((k+1:Nat):Int) - 1=(k:Int):=by omega
    rw [hk1]
    by_cases c1:a[k] < b[k]
    · rw [aM (r:=.inr (-1)) (by unfold gE;rw [if_pos (by omega),aH h1,aH h2];simp [c1])]
      have:BB ^ k*(a[k]).toNat+BB ^ k≤BB ^ k*(b[k]).toNat:=by
        rw [← Nat.mul_succ];exact Nat.mul_le_mul_left _ (by omega)
      rw [if_neg (by omega)];unfold sU;rw [if_pos (by omega)]
    · by_cases c2:b[k] < a[k]
      · rw [aM (r:=.inr 1) (by unfold gE;rw [if_pos (by omega),aH h1,aH h2];simp [c1,c2])]
        have:BB ^ k*(b[k]).toNat+BB ^ k≤BB ^ k*(a[k]).toNat:=by
          rw [← Nat.mul_succ];exact Nat.mul_le_mul_left _ (by omega)
        rw [if_neg (by omega)];unfold sU;rw [if_neg (by omega),if_pos (by omega)]
      · have e:a[k]=b[k]:=by omega
        rw [bI (s':=(k:Int) - 1) (by unfold gE;rw [if_pos (by omega),aH h1,aH h2,wi (by omega)];simp [c1,c2]),ih (by omega),e]
        by_cases c3:val (a.take k)=val (b.take k)
        · rw [if_pos c3,if_pos (by omega)]
        · rw [if_neg c3,if_neg (by omega)]
          rw [aLY]
theorem aIK {x y:Nat} (h:(aA x).length < (aA y).length):sU x y=-1:=by unfold sU;rw [if_pos (aJk h)]
theorem aG0 {x y:Nat} (h:(aA y).length < (aA x).length):sU x y=1:=by have:=aJk h;unfold sU;rw [if_neg (by omega),if_pos this]
theorem aLX (x y:Nat) (hx:(aA x).length≤1000) (h:(aA x).length=(aA y).length):lp (gE (aA x) (aA y)) (((aA x).length:Int) - 1)=some (if x=y then .inl () else .inr (sU x y)):=by
  have:=aLW (aA x) (aA y) (eF x) (eF y) h (by omega) (aA x).length (Nat.le_refl _)
  rw [List.take_length,h,List.take_length,dM,dM] at this
  rw [h];exact this
theorem aBn (x y:Nat) (hx:(aA x).length≤1000) (hy:(aA y).length≤1000):nO (aA x) (aA y)=some (sU x y):=by
  unfold nO
  by_cases c:(aA x).length=(aA y).length
  · rw [if_neg (by omega),aP,wi (by omega),aLX x y hx c]
    by_cases e:x=y
    · subst e;simp [sU]
    · rw [if_neg e];rfl
  · rw [if_pos (by omega)]
    by_cases c2:(aA x).length < (aA y).length
    · rw [if_pos (by omega),aIK c2]
    · rw [if_neg (by omega),aG0 (by omega)]
theorem aFo (x y:Nat) (hx:(aA x).length≤1000) (hy:(aA y).length≤1000):tP (aA x) (aA y)=some (sU x y):=by
  unfold tP
  by_cases c2:(aA x).length < (aA y).length
  · rw [if_pos (by omega),aIK c2]
  · rw [if_neg (by omega)]
    by_cases c3:(aA y).length < (aA x).length
    · rw [if_pos (by omega),aG0 c3]
    · rw [if_neg (by omega),aP,wi (by omega),aIJ,aLX x y hx (by omega)]
      by_cases e:x=y
      · subst e;simp [sU]
      · rw [if_neg e];rfl
theorem aIP (a b:List Int) (i c:Nat) (out:List Int) (x:Nat) (hx:x≤1999999999) (ho:out.length=i) (hi:i≤2000) (hlt:i < a.length∨i < b.length∨c=1) (hc:c≤1)
    (h:(x:Int)=c+(if h:i < a.length then a[i] else 0)+(if h:i < b.length then b[i] else 0)) (ha:dgs a) (hb:dgs b) :
    iD a b ((c:Int),(i:Int),out)=some (.inl (((x / BB:Nat):Int),((i+1:Nat):Int),out++[((x % BB:Nat):Int)])):=by
  unfold iD
  simp only []
  by_cases c1:i < a.length
  · have d1:=mG ha c1
    rw [dif_pos c1] at h
    rw [if_pos (by omega),if_pos (by omega),aH c1]
    simp only [Option.bind_some,if_true]
    rw [wi (by omega)]
    by_cases c2:i < b.length
    · have d2:=mG hb c2
      rw [dif_pos c2] at h
      rw [if_pos (by omega),aH c2]
      simp only [Option.bind_some]
      rw [wi (by omega),← h,aR (by omega)]
      simp only [Option.bind_some,aP]
      rw [aET,aEU,wi (by rw [dQ];omega),wi (by omega)];rfl
    · rw [dif_neg c2] at h
      rw [if_neg (by omega)]
      simp only [Option.bind_some]
      rw [show (c:Int)+a[i]=(x:Int) by omega,aR (by omega)]
      simp only [Option.bind_some,aP]
      rw [aET,aEU,wi (by rw [dQ];omega),wi (by omega)];rfl
  · rw [dif_neg c1] at h
    have n1:¬((i:Int) < (a.length:Int)):=by omega
    simp only [n1,if_false]
    by_cases c2:i < b.length
    · have d2:=mG hb c2
      rw [dif_pos c2] at h
      have n2:((i:Int) < (b.length:Int)):=by omega
      simp only [n2,if_true,Option.bind_some]
      rw [aH c2]
      simp only [Option.bind_some]
      rw [wi (by omega),show (c:Int)+b[i]=(x:Int) by omega,aR (by omega)]
      simp only [Option.bind_some,aP]
      rw [aET,aEU,wi (by rw [dQ];omega),wi (by omega)];rfl
    · rw [dif_neg c2] at h
      have n2:¬((i:Int) < (b.length:Int)):=by omega
      have hc1:c=1:=by omega
      have hc2:(0 < (c:Int)):=by omega
      simp only [n2,hc2,if_false,decide_true,Option.bind_some,if_true]
      rw [show (c:Int)=(x:Int) by omega,aR (by omega)]
      simp only [Option.bind_some,aP]
      rw [aET,aEU,wi (by rw [dQ];omega),wi (by omega)];rfl
theorem aIO (a b:List Int) (i:Nat) (out:List Int) (h1:a.length≤i) (h2:b.length≤i):lp (iD a b) (0,(i:Int),out)=some out :=
  aM (by unfold iD;simp only [];rw [if_neg (by omega),if_neg (by omega)];simp)
theorem aMI (a b:List Int) (ha:dgs a) (hb:dgs b) (i c:Nat) (out:List Int) (hc:c≤1) (ho:out.length=i) (hi:i≤1999) (h1:a.length≤i) (h2:b.length≤i) :
    lp (iD a b) ((c:Int),(i:Int),out)=some (out++aA c):=by
  rcases Nat.eq_zero_or_pos c with e | e
  · subst e
    rw [bN,List.append_nil];exact aIO a b i out h1 h2
  · have e1:c=1:=by omega
    subst e1
    have:=aIP a b i 1 out 1 (by omega) ho (by omega) (.inr (.inr rfl)) (by omega) (by rw [dif_neg (by omega),dif_neg (by omega)];omega) ha hb
    rw [bI this,show 1 / BB=0 from rfl,show 1 % BB=1 from rfl]
    rw [show ((0:Nat):Int)=0 from rfl,aIO a b (i+1) _ (by omega) (by omega),uR (by rw [dQ];omega) (by omega)]
theorem aL3 (a b:List Int) (ha:nat a) (hb:nat b) (hla:a.length≤1000) (hlb:b.length≤1000):∀ (m i c:Nat) (out:List Int),c≤1→m+i=max a.length b.length→out.length=i →
    lp (iD a b) ((c:Int),(i:Int),out)=some (out++aA (c+(val (a.drop i)+val (b.drop i)))):=by
  intro m
  induction m with
  | zero =>
    intro i c out hc hm ho
    rw [fK (by omega),fK (by omega)]
    exact aMI a b ha.1 hb.1 i c out hc ho (by omega) (by omega) (by omega)
  | succ m ih =>
    intro i c out hc hm ho
    obtain ⟨x,hx,e1,e2,e3⟩:∃ x:Nat,x≤1999999999∧c+(val (a.drop i)+val (b.drop i))=x+BB*(val (a.drop (i+1))+val (b.drop (i+1))) ∧
        c+(val (a.drop i)+val (b.drop i))≠0∧(x:Int)=c+(if h:i < a.length then a[i] else 0)+(if h:i < b.length then b[i] else 0):=by
      by_cases c1:i < a.length
      · have d1:=mG ha.1 c1
        have n1:=aDU ha c1
        have v1:=gZ c1
        by_cases c2:i < b.length
        · have d2:=mG hb.1 c2
          have v2:=gZ c2
          refine ⟨c+(a[i]).toNat+(b[i]).toNat,by omega,by rw [Nat.mul_add];omega,by omega,by rw [dif_pos c1,dif_pos c2];omega⟩
        · have v2:=fK (l:=b) (k:=i) (by omega)
          have v3:=fK (l:=b) (k:=i+1) (by omega)
          refine ⟨c+(a[i]).toNat,by omega,by rw [Nat.mul_add,v3];omega,by omega,by rw [dif_pos c1,dif_neg c2];omega⟩
      · have c2:i < b.length:=by omega
        have d2:=mG hb.1 c2
        have n2:=aDU hb c2
        have v2:=gZ c2
        have v1:=fK (l:=a) (k:=i) (by omega)
        have v3:=fK (l:=a) (k:=i+1) (by omega)
        refine ⟨c+(b[i]).toNat,by omega,by rw [Nat.mul_add,v3];omega,by omega,by rw [dif_neg c1,dif_pos c2];omega⟩
    rw [bI (aIP a b i c out x hx ho (by omega) (by omega) hc e3 ha.1 hb.1),ih (i+1) (x / BB) _ (by rw [dQ];omega) (by omega) (by simp [ho])]
    rw [e1] at e2 ⊢
    rw [aIH e2];simp
theorem aIr (x y:Nat) (hx:(aA x).length≤1000) (hy:(aA y).length≤1000):wJ (aA x) (aA y)=some (aA (x+y)):=by
  unfold wJ
  have:=aL3 (aA x) (aA y) (aLB x) (aLB y) hx hy _ 0 0 [] (by omega) (Nat.add_zero _) rfl
  rw [show ((0:Nat):Int)=0 from rfl,List.drop_zero,List.drop_zero,dM,dM,Nat.zero_add] at this
  rw [this];rfl
theorem aLD (x y:Nat) (hx:(aA x).length≤1000) (hy:(aA y).length≤1000):yU (aA x) (aA y)=some (aA (x+y)):=aIr x y hx hy
theorem aK5 (a b:List Int) (ha:dgs a) (hb:dgs b) (hla:a.length≤1000) (hab:b.length≤a.length):∀ (m i c:Nat) (out:List Int),c≤1→m+i=a.length→out.length=i→dgs out→val (a.take i)+c*BB ^ i=val out+val (b.take i) →
    ∃ (c':Nat) (out':List Int),lp (mI a b) ((c:Int),(i:Int),out)=some out'∧lp (nB a b) ((c:Int),(i:Int),out++List.replicate m 0)=some out'∧dgs out'∧out'.length=a.length∧val a+c'*BB ^ a.length=val out'+val b:=by
  intro m
  induction m with
  | zero =>
    intro i c out hc hm ho hd hv
    have e:i=a.length:=by omega
    refine ⟨c,out,aM ?_,aM ?_,hd,by omega,?_⟩
    · unfold mI;simp only [];rw [if_neg (by omega)]
    · unfold nB;simp only [];rw [if_neg (by omega)];simp
    · rw [e,List.take_length,List.take_of_length_le hab] at hv;exact hv
  | succ m ih =>
    intro i c out hc hm ho hd hv
    have h1:i < a.length:=by omega
    have d1:=mG ha h1
    obtain ⟨bi,hb1,hb2,hb3⟩:∃ bi:Nat,bi < 1000000000∧val (b.take (i+1))=val (b.take i)+BB ^ i*bi∧(bi:Int)=(if h:i < b.length then b[i] else 0):=by
      by_cases c2:i < b.length
      · have d2:=mG hb c2
        exact ⟨(b[i]).toNat,by omega,pL c2,by rw [dif_pos c2];omega⟩
      · refine ⟨0,by omega,?_,by rw [dif_neg c2];rfl⟩
        rw [List.take_of_length_le (by omega),List.take_of_length_le (by omega)];simp
    obtain ⟨n,c',hn,hc',he⟩:∃ n c':Nat,n < 1000000000∧c'≤1∧a[i] - (c:Int) - (bi:Int)+c'*1000000000=(n:Int)∧(c'=1↔a[i] - (c:Int) - (bi:Int) < 0):=by
      by_cases g:a[i] - (c:Int) - (bi:Int) < 0
      · exact ⟨(a[i] - (c:Int) - (bi:Int)+1000000000).toNat,1,by omega,by omega,by omega,by simp [g]⟩
      · exact ⟨(a[i] - (c:Int) - (bi:Int)).toNat,0,by omega,by omega,by omega,by simp [g]⟩
    obtain ⟨he,hg⟩:=he
    have hs:(n:Int)=a[i] - c - bi+c'*1000000000:=by omega
    have s0:(((if ((i:Int) < (b.length:Int)) then (idx b (i:Int)).bind fun y16=>(aZ (IntKind.i64.wrap (IntKind.i64.wrap (a[i] - c) - y16))).bind fun v17=>some v17 else some (IntKind.i64.wrap (a[i] - c))):Option Int).bind (fun d19=>((if (d19 < 0) then (aZ (IntKind.i64.wrap (d19+1000000000))).bind fun v21=>some (1,v21) else some (0,d19)):Option (Int × Int))))=some ((c':Int),(n:Int)):=by
      rw [wi (by omega)]
      have fin:∀ z:Int,z=a[i] - c - bi→(if (z < 0) then (aZ (IntKind.i64.wrap (z+1000000000))).bind fun v21=>some ((1:Int),v21) else some (0,z))=some ((c':Int),(n:Int)):=by
        intro z hz
        by_cases g:z < 0
        · have e1:c'=1:=hg.2 (by omega)
          subst e1
          rw [if_pos g,aP,wi (by omega)];congr 2;omega
        · have e1:c'=0:=by
            have:¬c'=1:=fun h=>g (by have:=hg.1 h;omega)
            omega
          subst e1
          rw [if_neg g];congr 2;omega
      by_cases c2:i < b.length
      · rw [dif_pos c2] at hb3
        rw [if_pos (by omega),aH c2]
        simp only [Option.bind_some,aP]
        rw [wi (by omega)]
        exact fin _ (by omega)
      · rw [dif_neg c2] at hb3
        rw [if_neg (by omega)]
        simp only [Option.bind_some]
        exact fin _ (by omega)
    have s1:mI a b ((c:Int),(i:Int),out)=some (.inl ((c':Int),((i+1:Nat):Int),out++[(n:Int)])):=by
      unfold mI
      simp only []
      rw [if_pos (by omega),aH h1]
      simp only [Option.bind_some]
      rw [← Option.bind_assoc,s0]
      simp only [Option.bind_some]
      rw [aR (by omega),wi (by omega)];rfl
    have s2:nB a b ((c:Int),(i:Int),out++List.replicate (m+1) 0)=some (.inl ((c':Int),((i+1:Nat):Int),(out++[(n:Int)])++List.replicate m 0)):=by
      unfold nB
      simp only []
      rw [if_pos (by omega),aH h1]
      simp only [Option.bind_some]
      rw [← Option.bind_assoc,s0]
      simp only [Option.bind_some]
      rw [aH (by simp;omega),wi (by omega)]
      simp only [Option.bind_some,aP,iF]
      congr 4
      rw [List.set_append_right _ _ (by omega),ho,Nat.sub_self,List.replicate_succ,List.set_cons_zero];simp
    rw [bI s1,bI s2]
    refine ih (i+1) c' _ hc' (by omega) (by simp [ho]) (by rw [aKf];exact ⟨hd,by intro z hz;simp at hz;omega⟩) ?_
    rw [pL h1,aHd,hb2,ho]
    have e:=congrArg (BB ^ i*·) (show (a[i]).toNat+c'*BB=n+bi+c by rw [dQ];omega)
    simp only [Nat.mul_add] at e
    simp only [val,Int.toNat_natCast,Nat.mul_zero,Nat.add_zero]
    have e2:c'*BB ^ (i+1)=BB ^ i*(c'*BB):=by rw [Nat.pow_succ,Nat.mul_comm c',Nat.mul_assoc,Nat.mul_comm BB c']
    rw [e2]
    rw [Nat.mul_comm c] at hv
    omega
theorem aMp {a b c' L:Nat} {out:List Int} (hd:dgs out) (hl:out.length=L) (h:a+c'*BB ^ L=val out+b) (hab:b≤a):val out=a - b:=by
  have:=aEP hd
  rw [hl] at this
  cases c' with
  | zero=>simp at h;omega
  | succ c =>
    rw [Nat.succ_mul] at h
    have:0≤c*BB ^ L:=Nat.zero_le _
    omega
theorem zM (x y:Nat) (hx:(aA x).length≤1000) (hyx:y≤x):qH (aA x) (aA y)=some (aA (x - y))∧qU (aA x) (aA y)=some (aA (x - y)):=by
  have hl:(aA y).length≤(aA x).length:=fI hyx (Nat.le_refl _)
  obtain ⟨c',out',e1,e2,e3,e4,e5⟩:=aK5 (aA x) (aA y) (eF x) (eF y) hx hl (aA x).length 0 0 [] (by omega) (by omega) rfl aBS (by simp [val])
  rw [dM,dM] at e5
  have hv:=aMp e3 e4 e5 hyx
  rw [show ((0:Nat):Int)=0 from rfl] at e1 e2
  rw [List.nil_append] at e2
  constructor
  · unfold qH
    rw [e1]
    simp only [Option.bind_some]
    rw [aAg e3 (by omega),hv];rfl
  · unfold qU
    rw [aR (by omega)]
    simp only [Option.bind_some,Int.toNat_natCast]
    rw [e2]
    simp only [Option.bind_some]
    rw [xI,aAg e3 (by omega),hv];rfl
end Go.Ev
/- Naturals as limbs: products; both programs. -/
namespace Go.Ev
set_option linter.all false
theorem aIg (a b:List Int) (i:Nat) (hi:i < a.length):uK a b (i:Int)=iC b (i:Int) a[i]:=by
  funext s
  obtain ⟨c,j,v⟩:=s
  unfold uK iC
  simp only [aH hi,Option.bind_some,aP]
  split
  · cases idx v (IntKind.i64.wrap ((i:Int)+j)) with
    | none=>cases idx b j <;> rfl
    | some y =>
      cases idx b j with
      | none=>rfl
      | some z=>simp only [Option.bind_some];rw [Int.add_comm c]
  · rfl
theorem aKy (b:List Int) (i x:Nat) (hx:x < 1000000000) (hb:dgs b) (hlb:b.length≤1000) (hi:i≤1000):∀ (m j c:Nat) (v:List Int),m+j=b.length→c < 1000000000→dgs v→i+b.length≤v.length→v.length≤2000 →
    ∃ (c':Nat) (v':List Int),lp (iC b (i:Int) (x:Int)) ((c:Int),(j:Int),v)=some ((c':Int),v')∧c' < 1000000000∧dgs v'∧v'.length=v.length∧v'.drop (i+b.length)=v.drop (i+b.length) ∧
      val v'+c'*BB ^ (i+b.length)+x*BB ^ i*val (b.take j)=val v+c*BB ^ (i+j)+x*BB ^ i*val b:=by
  intro m
  induction m with
  | zero =>
    intro j c v hm hc hv hl hl2
    have e:j=b.length:=by omega
    subst e
    refine ⟨c,v,aM ?_,hc,hv,rfl,rfl,?_⟩
    · unfold iC;simp only [];rw [if_neg (by omega)]
    · rw [List.take_length]
  | succ m ih =>
    intro j c v hm hc hv hl hl2
    have h1:j < b.length:=by omega
    have h2:i+j < v.length:=by omega
    have d1:=mG hb h1
    have d2:=mG hv h2
    obtain ⟨y,hy⟩:∃ y:Nat,b[j]=(y:Int):=⟨(b[j]).toNat,by omega⟩
    obtain ⟨z,hz⟩:∃ z:Nat,v[i+j]=(z:Int):=⟨(v[i+j]).toNat,by omega⟩
    have hxy:x*y≤999999999*999999999:=Nat.mul_le_mul (by omega) (by omega)
    have hxy0:((x:Int)*(y:Int))=((x*y:Nat):Int):=by push_cast;rfl
    have s1:iC b (i:Int) (x:Int) ((c:Int),(j:Int),v)=some (.inl ((((z+x*y+c) / BB:Nat):Int),((j+1:Nat):Int),v.set (i+j) (((z+x*y+c) % BB:Nat):Int))):=by
      unfold iC
      simp only []
      rw [if_pos (by omega),aH h1,wi (by omega),show (i:Int)+(j:Int)=((i+j:Nat):Int) by omega,aH h2]
      simp only [Option.bind_some,aP,iF,hy,hz,hxy0]
      rw [wi (n:=((x*y:Nat):Int)) (by omega),wi (n:=(z:Int)+_) (by omega),wi (n:=(z:Int)+_+_) (by omega),show (z:Int)+((x*y:Nat):Int)+(c:Int)=((z+x*y+c:Nat):Int) by omega,aET,aEU,wi (by rw [dQ];omega),wi (by omega)]
      rfl
    have hm1:=Nat.mod_lt (z+x*y+c) uW
    have hm2:=Nat.mod_add_div (z+x*y+c) BB
    obtain ⟨c',v',e1,e2,e3,e4,e5,e6⟩:=ih (j+1) ((z+x*y+c) / BB) (v.set (i+j) (((z+x*y+c) % BB:Nat):Int)) (by omega) (by rw [dQ];omega) (aDs hv _ _ (by rw [dQ] at hm1 ⊢;omega)) (by simpa using hl) (by simpa using hl2)
    refine ⟨c',v',by rw [bI s1];exact e1,e2,e3,by simpa using e4,?_,?_⟩
    · rw [e5,List.drop_set_of_lt (by omega)]
    · have hs:=aHc (l:=v) (x:=(((z+x*y+c) % BB:Nat):Int)) h2
      rw [hz] at hs
      simp only [Int.toNat_natCast] at hs
      rw [pL h1,hy,Int.toNat_natCast] at e6
      have f1:x*BB ^ i*(val (b.take j)+BB ^ j*y)=x*BB ^ i*val (b.take j)+BB ^ (i+j)*(x*y):=by
        rw [Nat.mul_add,Nat.pow_add]
        congr 1
        rw [Nat.mul_assoc x,Nat.mul_assoc (BB ^ i),Nat.mul_left_comm x,Nat.mul_left_comm x]
      rw [f1] at e6
      have f2:(z+x*y+c) / BB*BB ^ (i+(j+1))=BB ^ (i+j)*(BB*((z+x*y+c) / BB)):=by
        rw [← Nat.add_assoc,Nat.pow_succ,Nat.mul_comm ((z+x*y+c) / BB),Nat.mul_assoc]
      rw [f2] at e6
      have f3:=congrArg (BB ^ (i+j)*·) hm2
      simp only [Nat.mul_add] at f3
      rw [Nat.mul_comm c]
      omega
theorem xG {l:List Int} {k:Nat} {x:Int}:(l.set k x).drop (k+1)=l.drop (k+1):=by rw [List.drop_set_of_lt (by omega)]
theorem aKx (a b:List Int) (ha:dgs a) (hb:dgs b) (hla:a.length≤900) (hlb:b.length≤900):∀ (m i:Nat) (v:List Int),m+i=a.length→v.length=a.length+b.length→dgs v→v.drop (i+b.length)=List.replicate m 0→val v=val (a.take i)*val b →
    ∃ v':List Int,lp (mJ a b) ((i:Int),v)=some v'∧lp (nC a b) ((i:Int),v)=some v'∧dgs v'∧v'.length=a.length+b.length∧val v'=val a*val b:=by
  intro m
  induction m with
  | zero =>
    intro i v hm hl hv hz he
    have e:i=a.length:=by omega
    subst e
    rw [List.take_length] at he
    refine ⟨v,aM ?_,aM ?_,hv,hl,he⟩
    · unfold mJ;simp only [];rw [if_neg (by omega)]
    · unfold nC;simp only [];rw [if_neg (by omega)]
  | succ m ih =>
    intro i v hm hl hv hz he
    have h1:i < a.length:=by omega
    have d1:=mG ha h1
    obtain ⟨x,hx⟩:∃ x:Nat,a[i]=(x:Int):=⟨(a[i]).toNat,by omega⟩
    obtain ⟨c',v',e1,e2,e3,e4,e5,e6⟩:=aKy b i x (by omega) hb (by omega) (by omega) b.length 0 0 v (by omega) (by omega) hv (by omega) (by omega)
    rw [show ((0:Nat):Int)=0 from rfl] at e1
    have h2:i+b.length < v'.length:=by omega
    have hzero:v'[i+b.length]=0:=by
      have q:(v'.drop (i+b.length))[0]?=some 0:=by rw [e5,hz];simp [List.replicate_succ]
      rw [List.getElem?_drop,Nat.add_zero,List.getElem?_eq_getElem h2] at q
      exact Option.some.inj q
    have s1:mJ a b ((i:Int),v)=some (.inl (((i+1:Nat):Int),v'.set (i+b.length) (c':Int))):=by
      unfold mJ
      simp only []
      rw [if_pos (by omega),aH h1,hx]
      simp only [Option.bind_some]
      rw [e1]
      simp only [Option.bind_some,aP]
      rw [wi (by omega),show (i:Int)+(b.length:Int)=((i+b.length:Nat):Int) by omega,aH h2]
      simp only [Option.bind_some,iF]
      rw [wi (by omega)];rfl
    have s2:nC a b ((i:Int),v)=some (.inl (((i+1:Nat):Int),v'.set (i+b.length) (c':Int))):=by
      unfold nC
      simp only []
      rw [if_pos (by omega),aIg a b i h1,hx,e1]
      simp only [Option.bind_some,aP]
      rw [wi (by omega),show (i:Int)+(b.length:Int)=((i+b.length:Nat):Int) by omega,aH h2]
      simp only [Option.bind_some,iF]
      rw [wi (by omega)];rfl
    rw [bI s1,bI s2]
    refine ih (i+1) _ (by omega) (by rw [List.length_set];omega) (aDs e3 _ _ (by omega)) ?_ ?_
    · rw [show i+1+b.length=(i+b.length)+1 by omega,xG,← List.drop_drop,e5,hz,List.replicate_succ];simp
    · have hs:=aHc (l:=v') (x:=(c':Int)) h2
      rw [hzero] at hs
      simp only [Int.toNat_natCast,Int.toNat_zero,Nat.mul_zero,Nat.add_zero] at hs
      rw [List.take_zero] at e6
      simp only [val,Nat.mul_zero,Nat.zero_mul,Nat.add_zero] at e6
      rw [pL h1,hx,Int.toNat_natCast,Nat.add_mul,← he,hs,Nat.mul_comm (BB ^ (i+b.length)),e6,Nat.mul_comm x]
theorem oX (x y:Nat) (hx:(aA x).length≤900) (hy:(aA y).length≤900):dI (aA x) (aA y)=some (aA (x*y))∧tN (aA x) (aA y)=some (aA (x*y)):=by
  unfold dI tN
  by_cases c1:(aA x).length=0
  · have:x=0:=aFX.1 (List.length_eq_zero_iff.1 c1)
    subst this
    rw [if_pos (by omega)]
    simp [bN]
  · rw [if_neg (by omega)]
    by_cases c2:(aA y).length=0
    · have:y=0:=aFX.1 (List.length_eq_zero_iff.1 c2)
      subst this
      simp [bN]
    · have n2:¬(((aA y).length:Int)=0):=by omega
      simp only [n2,decide_false,Option.bind_some,Bool.false_eq_true,if_false,aP]
      rw [wi (by omega),show ((aA x).length:Int)+((aA y).length:Int)=(((aA x).length+(aA y).length:Nat):Int) by omega,aR (by omega)]
      simp only [Option.bind_some,Int.toNat_natCast]
      obtain ⟨v',e1,e2,e3,e4,e5⟩:=aKx (aA x) (aA y) (eF x) (eF y) hx hy (aA x).length 0 (List.replicate ((aA x).length+(aA y).length) 0) (by omega) (by simp) (aEJ _) (by simp) (by simp [aMl,val])
      rw [show ((0:Nat):Int)=0 from rfl] at e1 e2
      rw [dM,dM] at e5
      rw [e1,e2]
      simp only [Option.bind_some]
      rw [xI,aAg e3 (by omega),e5]
      exact ⟨rfl,rfl⟩
end Go.Ev
/- Naturals as limbs: quotients; both programs. -/
namespace Go.Ev
set_option linter.all false
theorem aMG (x y:Nat):(aA (x / y)).length≤(aA x).length:=fI (Nat.div_le_self x y) (Nat.le_refl _)
theorem aJZ (x:Nat) {y:Nat} (h:0 < y):(aA (x % y)).length≤(aA y).length:=fI (Nat.le_of_lt (Nat.mod_lt x h)) (Nat.le_refl _)
theorem aH1 (x y:Nat):((x:Int)).tdiv (y:Int)=((x / y:Nat):Int):=by
  rw [Int.tdiv_eq_ediv_of_nonneg (by omega)];rfl
theorem aI2 (x y:Nat):((x:Int)).tmod (y:Int)=((x % y:Nat):Int):=by
  rw [Int.tmod_eq_emod_of_nonneg (by omega)];rfl
theorem aMW (r:Nat):(r:Int)*1000000000=((r*BB:Nat):Int):=by rw [Int.natCast_mul];rfl
theorem aI4 (a:List Int) (d:Nat) (hd:0 < d∧d < 1000000000) (ha:dgs a) (hla:a.length≤1000):∀ (k r:Nat) (v:List Int),k≤a.length→r < d→dgs v→v.length=a.length→val (a.drop k)=d*val (v.drop k)+r→v.take k=List.replicate k 0 →
    ∃ (r':Nat) (v':List Int),lp (jW a (d:Int)) ((r:Int),(k:Int) - 1,v)=some ((r':Int),v')∧r' < d∧dgs v'∧v'.length=a.length∧val a=d*val v'+r':=by
  intro k
  induction k with
  | zero =>
    intro r v hk hr hv hl he ht
    refine ⟨r,v,aM ?_,hr,hv,hl,by simpa using he⟩
    unfold jW;simp only [];rw [if_neg (by omega)]
  | succ k ih =>
    intro r v hk hr hv hl he ht
    have h1:k < a.length:=by omega
    have h2:k < v.length:=by omega
    have d1:=mG ha h1
    obtain ⟨x,hx⟩:∃ x:Nat,a[k]=(x:Int):=⟨(a[k]).toNat,by omega⟩
    have hn:r*BB+x < d*BB:=by
      have:(r+1)*BB≤d*BB:=Nat.mul_le_mul_right _ hr
      rw [Nat.succ_mul] at this
      have:x < BB:=by rw [dQ];omega
      omega
    have hq:(r*BB+x) / d < BB:=by rw [Nat.div_lt_iff_lt_mul hd.1,Nat.mul_comm BB];exact hn
    have hm:=Nat.mod_lt (r*BB+x) hd.1
    have hmd:=Nat.mod_add_div (r*BB+x) d
    have hrB:r*BB≤999999999*1000000000:=Nat.mul_le_mul (by omega) (by rw [dQ];omega)
    have t1:=aH1 (r*BB+x) d
    have t2:=aI2 (r*BB+x) d
    generalize (r*BB+x) / d=Q at hq hmd t1
    generalize (r*BB+x) % d=R at hm hmd t2
    rw [dQ] at hq
    have s1:jW a (d:Int) ((r:Int),((k+1:Nat):Int) - 1,v)=some (.inl ((R:Int),(k:Int) - 1,v.set k (Q:Int))):=by
      unfold jW
      simp only []
      rw [show ((k+1:Nat):Int) - 1=(k:Int) by omega,if_pos (by omega),aH h1,hx,aH h2]
      simp only [Option.bind_some,aP,iF]
      rw [aMW,wi (n:=((r*BB:Nat):Int)) (by omega),show ((r*BB:Nat):Int)+(x:Int)=((r*BB+x:Nat):Int) by omega,aR (by omega),wi (n:=((r*BB+x:Nat):Int)) (by omega),t1,t2]
      simp only [Option.bind_some]
      rw [wi (by omega),wi (by omega)]
    obtain ⟨r',v',e1,e2,e3,e4,e5⟩:=ih R (v.set k (Q:Int)) (by omega) hm (aDs hv _ _ (by omega)) (by simpa using hl) (by
        rw [gZ h1,gZ (l:=v.set k _) (by simpa using h2),List.getElem_set_self,xG,he,hx,Int.toNat_natCast,Int.toNat_natCast]
        rw [Nat.mul_add,Nat.mul_add d,← Nat.mul_assoc BB d,← Nat.mul_assoc d BB,Nat.mul_comm BB d]
        rw [Nat.mul_comm BB r]
        omega) (by
        rw [List.take_set_of_le (by omega)]
        have:=congrArg (List.take k) ht
        rw [List.take_take,Nat.min_eq_left (by omega),List.take_replicate,Nat.min_eq_left (by omega)] at this
        exact this)
    exact ⟨r',v',by rw [bI s1];exact e1,e2,e3,e4,e5⟩
theorem aCJ {a b q r:Nat} (hb:r < b) (h:a=b*q+r):q=a / b∧r=a % b:=by
  subst h
  constructor
  · rw [Nat.mul_comm,Nat.add_comm,Nat.add_mul_div_right _ _ (by omega),Nat.div_eq_of_lt hb,Nat.zero_add]
  · rw [Nat.add_comm,Nat.add_mul_mod_self_left,Nat.mod_eq_of_lt hb]
theorem aJl (x d:Nat) (hd:0 < d∧d < 1000000000) (hx:(aA x).length≤1000):rZ (aA x) (d:Int)=some (aA (x / d),((x % d:Nat):Int)):=by
  obtain ⟨r',v',e1,e2,e3,e4,e5⟩:=aI4 (aA x) d hd (eF x) hx (aA x).length 0 (List.replicate (aA x).length 0) (Nat.le_refl _) hd.1 (aEJ _) (by simp) (by rw [fK (Nat.le_refl _),fK (by simp)];rfl) (by simp)
  rw [dM] at e5
  obtain ⟨q1,q2⟩:=aCJ e2 e5
  unfold rZ
  rw [aR (by omega)]
  simp only [Option.bind_some,aP,Int.toNat_natCast]
  rw [show ((0:Nat):Int)=0 from rfl] at e1
  rw [wi (by omega),e1]
  simp only [Option.bind_some]
  rw [aAg e3 (by omega),q1,q2];rfl
theorem aJw (r b:Nat) (hb:0 < b) (hlr:(aA r).length≤800) (hlb:(aA b).length≤800):∀ (m lo hi:Nat),hi - lo≤m→lo≤r / b→r / b≤hi→hi≤999999999→lp (eN (aA r) (aA b)) ((lo:Int),(hi:Int))=some ((r / b:Nat):Int):=by
  intro m
  induction m with
  | zero =>
    intro lo hi h1 h2 h3 h4
    have:lo=r / b:=by omega
    subst this
    refine aM ?_
    unfold eN;simp only [];rw [if_neg (by omega)]
  | succ m ih =>
    intro lo hi h1 h2 h3 h4
    by_cases c:lo < hi
    · have hq:((lo:Int)+(hi:Int)+1).tdiv 2=(((lo+hi+1) / 2:Nat):Int):=by
        rw [show (lo:Int)+(hi:Int)+1=((lo+hi+1:Nat):Int) by omega,show (2:Int)=((2:Nat):Int) from rfl,aH1]
      obtain ⟨q,hqe⟩:∃ q,q=(lo+hi+1) / 2:=⟨_,rfl⟩
      have hlq:(aA q).length≤1:=jV (by rw [dQ];omega)
      have hlm:(aA (b*q)).length≤900:=by have:=eM b q;omega
      have hc:sU (b*q) r≤0↔q≤r / b:=by
        rw [Nat.le_div_iff_mul_le hb,Nat.mul_comm q b]
        unfold sU
        by_cases c1:b*q < r
        · rw [if_pos c1];constructor <;> intro _ <;> omega
        · rw [if_neg c1]
          by_cases c2:r < b*q
          · rw [if_pos c2];constructor <;> intro _ <;> omega
          · rw [if_neg c2];constructor <;> intro _ <;> omega
      by_cases c2:q≤r / b
      · have s1:eN (aA r) (aA b) ((lo:Int),(hi:Int))=some (.inl ((q:Int),(hi:Int))):=by
          unfold eN
          simp only [aP]
          rw [if_pos (by omega),wi (n:=(lo:Int)+hi) (by omega),wi (n:=(lo:Int)+hi+1) (by omega),hq,← hqe,wi (by omega),aAG _ (by omega)]
          simp only [Option.bind_some]
          rw [(oX b q (by omega) (by omega)).1]
          simp only [Option.bind_some]
          rw [aBn _ _ (by omega) (by omega)]
          simp only [Option.bind_some]
          rw [if_pos (hc.2 c2)]
        rw [bI s1]
        exact ih q hi (by omega) c2 h3 h4
      · have s1:eN (aA r) (aA b) ((lo:Int),(hi:Int))=some (.inl ((lo:Int),((q - 1:Nat):Int))):=by
          unfold eN
          simp only [aP]
          rw [if_pos (by omega),wi (n:=(lo:Int)+hi) (by omega),wi (n:=(lo:Int)+hi+1) (by omega),hq,← hqe,wi (n:=(q:Int)) (by omega),aAG _ (by omega)]
          simp only [Option.bind_some]
          rw [(oX b q (by omega) (by omega)).1]
          simp only [Option.bind_some]
          rw [aBn _ _ (by omega) (by omega)]
          simp only [Option.bind_some]
          rw [if_neg (fun h=>c2 (hc.1 h)),wi (by omega),show (q:Int) - 1=((q - 1:Nat):Int) by omega]
        rw [bI s1]
        exact ih lo (q - 1) (by omega) h2 (by omega) (by omega)
    · have:lo=r / b:=by omega
      subst this
      refine aM ?_
      unfold eN;simp only [];rw [if_neg (by omega)]
theorem aJm (r b:Nat) (hb:0 < b) (hlr:(aA r).length≤800) (hlb:(aA b).length≤800) (h:r / b≤999999999):sA (aA r) (aA b)=some ((r / b:Nat):Int):=by
  unfold sA
  have:=aJw r b hb hlr hlb 999999999 0 999999999 (by omega) (Nat.zero_le _) h (Nat.le_refl _)
  rw [show ((0:Nat):Int)=0 from rfl,show ((999999999:Nat):Int)=999999999 from rfl] at this
  rw [this];rfl
end Go.Ev
/- Naturals as limbs: quotients of any length; both programs. -/
namespace Go.Ev
set_option linter.all false
theorem aD4 {d:Nat} (h:d < BB):(aA d).length≤1:=jV (by simpa using h)
theorem aFO (x R:Nat) (hx:x < 1000000000) (hl:(aA R).length≤4000):cU ([(x:Int)]++aA R)=some (aA (x+BB*R)):=by
  rw [aAg (by rw [aKf];exact ⟨by intro z hz;simp at hz;omega,eF R⟩) (by simp;omega)]
  rw [List.singleton_append,val,dM,Int.toNat_natCast]
theorem aH6 {R b:Nat} (h:R < b*BB):(aA R).length≤(aA b).length+2:=by
  have h1:=eM b BB
  have h2:(aA BB).length≤2:=jV (by rw [dQ];omega)
  have h3:=fI (Nat.le_of_lt h) (Nat.le_refl _)
  omega
theorem aJS {x R b:Nat} (hx:x < 1000000000) (hR:R < b):x+BB*R < b*BB:=by
  have:(R+1)*BB≤b*BB:=Nat.mul_le_mul_right _ hR
  rw [Nat.succ_mul,Nat.mul_comm R] at this
  have:x < BB:=by rw [dQ];omega
  omega
theorem aHu {R b:Nat} (hb:0 < b) (h:R < b*BB):R / b < BB:=by rw [Nat.div_lt_iff_lt_mul hb,Nat.mul_comm BB];exact h
theorem aLU (a:List Int) (b:Nat) (hb:0 < b) (hlb:(aA b).length≤700) (ha:dgs a) (hla:a.length≤1000):∀ (k R:Nat) (v:List Int),k≤a.length→R < b→dgs v→v.length=a.length→val (a.drop k)=b*val (v.drop k)+R→v.take k=List.replicate k 0 →
    ∃ (R':Nat) (v':List Int),lp (mK a (aA b)) (aA R,(k:Int) - 1,v)=some (aA R',v')∧R' < b∧dgs v'∧v'.length=a.length∧val a=b*val v'+R':=by
  intro k
  induction k with
  | zero =>
    intro R v hk hr hv hl he ht
    refine ⟨R,v,aM ?_,hr,hv,hl,by simpa using he⟩
    unfold mK;simp only [];rw [if_neg (by omega)]
  | succ k ih =>
    intro R v hk hr hv hl he ht
    have h1:k < a.length:=by omega
    have h2:k < v.length:=by omega
    have d1:=mG ha h1
    obtain ⟨x,hx⟩:∃ x:Nat,a[k]=(x:Int):=⟨(a[k]).toNat,by omega⟩
    have hx2:x < 1000000000:=by omega
    have hn:=aJS hx2 hr
    have hq:=aHu hb hn
    have hm:=Nat.mod_lt (x+BB*R) hb
    have hmd:=Nat.mod_add_div (x+BB*R) b
    have hlR:(aA R).length≤(aA b).length:=fI (Nat.le_of_lt hr) (Nat.le_refl _)
    have hlR2:=aH6 hn
    have hv0:v[k]=0:=by
      have q:(v.take (k+1))[k]?=some 0:=by rw [ht];simp
      rw [List.getElem?_take_of_lt (by omega),List.getElem?_eq_getElem h2] at q
      exact Option.some.inj q
    obtain ⟨Q,hQ⟩:∃ Q,Q=(x+BB*R) / b:=⟨_,rfl⟩
    obtain ⟨M,hM⟩:∃ M,M=(x+BB*R) % b:=⟨_,rfl⟩
    have hq':(x+BB*R) / b < 1000000000:=Nat.lt_of_lt_of_eq hq dQ
    have hq2:Q < 1000000000:=by rw [hQ];exact hq'
    have s1:mK a (aA b) (aA R,((k+1:Nat):Int) - 1,v)=some (.inl (aA M,(k:Int) - 1,v.set k (Q:Int))):=by
      unfold mK
      simp only []
      rw [show ((k+1:Nat):Int) - 1=(k:Int) by omega,if_pos (by omega),aH h1,hx,aH h2]
      simp only [Option.bind_some,aP,iF]
      rw [aR (by simp;omega)]
      simp only [Option.bind_some]
      rw [aFO x R hx2 (by omega)]
      simp only [Option.bind_some]
      rw [aBn _ _ (by omega) (by omega)]
      simp only [Option.bind_some]
      by_cases c:x+BB*R < b
      · have e1:Q=0:=by rw [hQ,Nat.div_eq_of_lt c]
        have e2:M=x+BB*R:=by rw [hM,Nat.mod_eq_of_lt c]
        have e3:v.set k ((0:Nat):Int)=v:=by
          apply List.ext_getElem
          · simp
          · intro i q1 q2
            rw [List.getElem_set]
            split
            · rename_i h;subst h;exact hv0.symm
            · rfl
        rw [e1,e2,e3,if_pos (by unfold sU;rw [if_pos c];omega),wi (by omega)]
      · have hcm:¬sU (x+BB*R) b < 0:=by
          unfold sU;rw [if_neg c];split <;> omega
        rw [if_neg hcm,aJm _ b hb (by omega) (by omega) (by omega)]
        simp only [Option.bind_some]
        rw [← hQ,aAG _ (by omega)]
        simp only [Option.bind_some]
        have hl1:(aA Q).length≤1:=aD4 (by rw [dQ];omega)
        rw [(oX b Q (by omega) (by omega)).1]
        simp only [Option.bind_some]
        rw [← hM,← hQ] at hmd
        rw [(zM (x+BB*R) (b*Q) (by omega) (by omega)).1]
        simp only [Option.bind_some]
        rw [show x+BB*R - b*Q=M by omega,wi (by omega)]
    obtain ⟨R',v',e1,e2,e3,e4,e5⟩:=ih M (v.set k (Q:Int)) (by omega) (by rw [hM];exact hm) (aDs hv _ _ (by omega)) (by simpa using hl) (by
        rw [gZ h1,gZ (l:=v.set k _) (by simpa using h2),List.getElem_set_self,xG,he,hx,Int.toNat_natCast,Int.toNat_natCast]
        rw [Nat.mul_add,Nat.mul_add b,← Nat.mul_assoc BB b,← Nat.mul_assoc b BB,Nat.mul_comm BB b]
        rw [← hM,← hQ] at hmd
        omega) (by
        rw [List.take_set_of_le (by omega)]
        have:=congrArg (List.take k) ht
        rw [List.take_take,Nat.min_eq_left (by omega),List.take_replicate,Nat.min_eq_left (by omega)] at this
        exact this)
    exact ⟨R',v',by rw [bI s1];exact e1,e2,e3,e4,e5⟩
theorem aFJ (x b:Nat) (hb:0 < b) (hx:(aA x).length≤700) (hlb:(aA b).length≤700):lA (aA x) (aA b)=some (aA (x / b),aA (x % b)):=by
  unfold lA
  by_cases c:(aA b).length=1
  · rw [if_pos (by omega)]
    have hbB:b < BB:=by have:=pS b;rw [c,Nat.pow_one] at this;exact this
    have e:=uR hbB (by omega)
    rw [show (0:Int)=((0:Nat):Int) from rfl,aH (by omega)]
    simp only [e,List.getElem_cons_zero,Option.bind_some]
    rw [dQ] at hbB
    rw [aJl x b ⟨hb,by omega⟩ (by omega)]
    simp only [Option.bind_some]
    have:=Nat.mod_lt x hb
    rw [aAG _ (by omega)];rfl
  · rw [if_neg (by omega),aR (by omega)]
    simp only [Option.bind_some,aP,Int.toNat_natCast]
    obtain ⟨r',v',e1,e2,e3,e4,e5⟩:=aLU (aA x) b hb hlb (eF x) (by omega) (aA x).length 0 (List.replicate (aA x).length 0) (Nat.le_refl _) hb (aEJ _) (by simp) (by rw [fK (Nat.le_refl _),fK (by simp)];rfl) (by simp)
    rw [dM] at e5
    rw [bN] at e1
    obtain ⟨q1,q2⟩:=aCJ e2 e5
    rw [wi (by omega),e1]
    simp only [Option.bind_some]
    rw [aAg e3 (by omega),q1,q2];rfl
theorem aMC (R b:Nat) (hb:0 < b) (hR:b≤R) (h:R < b*BB) (hlb:(aA b).length≤700):∃ g:Nat,sO (aA R) (aA b)=some (g:Int)∧1≤g∧b*g≤R:=by
  obtain ⟨m,hm⟩:∃ m,(aA b).length=m+1:=by
    have:(aA b).length≠0:=fun e=>eC (n:=b) (by omega) (List.length_eq_zero_iff.1 e)
    exact ⟨(aA b).length - 1,by omega⟩
  have hbl:=pS b
  rw [hm,Nat.pow_succ] at hbl
  have hr1:m+1≤(aA R).length:=by rw [← hm];exact fI hR (Nat.le_refl _)
  have hRl:R < BB ^ m*BB*BB:=Nat.lt_of_lt_of_le h (Nat.mul_le_mul_right _ (Nat.le_of_lt hbl))
  have hr2:(aA R).length≤m+2:=jV (by rw [Nat.pow_succ,Nat.pow_succ];exact hRl)
  have hp:=aLp m
  have hbt:b / BB ^ m < BB:=by rw [Nat.div_lt_iff_lt_mul hp,Nat.mul_comm BB];exact hbl
  have hT:R / BB ^ m < BB*BB:=by rw [Nat.div_lt_iff_lt_mul hp,Nat.mul_comm (BB*BB),← Nat.mul_assoc];exact hRl
  have hbd:b < BB ^ m*(b / BB ^ m+1):=Nat.lt_mul_div_succ b hp
  have hTd:BB ^ m*(R / BB ^ m)≤R:=Nat.mul_div_le R _
  have hi1:m < (aA R).length:=by omega
  have hi2:m < (aA b).length:=by omega
  have g1:=aBv hi1
  have g2:=aBv hi2
  rw [Nat.mod_eq_of_lt hbt] at g2
  unfold sO
  simp only [aP]
  rw [hm,wi (by omega),show (((m+1:Nat):Int) - 1)=(m:Int) by omega,aH hi1,aH hi2,g1,g2]
  simp only [Option.bind_some]
  have top:((if (((m+1:Nat):Int) < ((aA R).length:Int)) then (idx (aA R) ((m+1:Nat):Int)).bind fun y3=>some (IntKind.i64.wrap (((R / BB ^ m % BB:Nat):Int)+IntKind.i64.wrap (y3*1000000000))) else some ((R / BB ^ m % BB:Nat):Int)):Option Int)=some ((R / BB ^ m:Nat):Int):=by
    have hmod:=Nat.mod_add_div (R / BB ^ m) BB
    by_cases c:m+1 < (aA R).length
    · have g3:=aBv c
      rw [Nat.pow_succ,← Nat.div_div_eq_div_mul] at g3
      have h3:R / BB ^ m / BB < BB:=by rw [Nat.div_lt_iff_lt_mul uW];exact hT
      rw [Nat.mod_eq_of_lt h3] at g3
      rw [if_pos (by omega),aH c,g3]
      simp only [Option.bind_some]
      generalize R / BB ^ m=T at hT hmod h3 ⊢
      have h4:T % BB < BB:=Nat.mod_lt _ uW
      generalize T % BB=T0 at hmod h4 ⊢
      generalize T / BB=T1 at hmod h3 ⊢
      rw [aMW,Nat.mul_comm T1]
      rw [dQ] at hT
      rw [wi (n:=((BB*T1:Nat):Int)) (by omega),wi (by omega)];congr 1;omega
    · have e:(aA R).length=m+1:=by omega
      have h3:R / BB ^ m < BB:=by
        rw [Nat.div_lt_iff_lt_mul hp,Nat.mul_comm BB,← Nat.pow_succ]
        have:=pS R
        rwa [e] at this
      rw [if_neg (by omega),Nat.mod_eq_of_lt h3]
  rw [top]
  simp only [Option.bind_some]
  by_cases c:m=0
  · subst c
    rw [if_pos (by omega),show (0:Int)=((0:Nat):Int) from rfl,aH hi2,g2]
    simp only [Nat.pow_zero,Nat.div_one,Option.bind_some]
    rw [aR (by omega),aH1]
    have hq:=aHu hb h
    rw [dQ] at hq
    generalize hQ:R / b=Q at hq
    refine ⟨Q,by simp only [Option.bind_some];rw [wi (by omega)],?_,?_⟩
    · rw [← hQ,Nat.le_div_iff_mul_le hb];omega
    · rw [← hQ];exact Nat.mul_div_le R b
  · rw [if_neg (by omega)]
    generalize b / BB ^ m=t at hbt hbd ⊢
    generalize R / BB ^ m=T at hT hTd ⊢
    rw [dQ] at hbt
    rw [wi (n:=(t:Int)+1) (by omega),aR (by omega),show (t:Int)+1=((t+1:Nat):Int) by omega,aH1]
    have hg:=Nat.div_mul_le_self T (t+1)
    have hgT:T / (t+1)≤T:=Nat.div_le_self _ _
    generalize T / (t+1)=G at hg hgT ⊢
    rw [dQ] at hT
    simp only [Option.bind_some]
    rw [wi (by omega)]
    by_cases c2:G=0
    · subst c2
      exact ⟨1,by rw [if_pos (by omega)];rfl,Nat.le_refl _,by omega⟩
    · refine ⟨G,by rw [if_neg (by omega)],by omega,?_⟩
      have e1:G*b≤G*(BB ^ m*(t+1)):=Nat.mul_le_mul_left _ (Nat.le_of_lt hbd)
      have e2:BB ^ m*(G*(t+1))≤BB ^ m*T:=Nat.mul_le_mul_left _ hg
      rw [Nat.mul_left_comm] at e2
      rw [Nat.mul_comm b];omega
theorem aJv (b:Nat) (hb:0 < b) (hlb:(aA b).length≤700) (k:Nat):∀ (R q0:Nat) (v:List Int),R < b*BB→k < v.length→v[k]?=some (q0:Int)→q0+R / b≤999999999 →
    lp (nE (aA b) (k:Int)) (aA R,v)=some (aA (R % b),v.set k ((q0+R / b:Nat):Int)):=by
  intro R
  induction R using Nat.strongRecOn with
  | _ R ih =>
    intro q0 v hR hk hv hq
    have hl:=aH6 hR
    by_cases c:R < b
    · rw [Nat.div_eq_of_lt c,Nat.mod_eq_of_lt c,Nat.add_zero]
      have:v.set k (q0:Int)=v:=by
        apply List.ext_getElem
        · simp
        · intro i p1 p2
          rw [List.getElem_set]
          split
          · rename_i h;subst h
            rw [List.getElem?_eq_getElem hk] at hv;exact (Option.some.inj hv).symm
          · rfl
      rw [this]
      refine aM ?_
      unfold nE
      simp only []
      rw [aFo _ _ (by omega) (by omega)]
      simp only [Option.bind_some]
      rw [if_neg (by unfold sU;rw [if_pos c];omega)]
    · obtain ⟨g,e1,e2,e3⟩:=aMC R b hb (by omega) hR hlb
      have hgq:g≤R / b:=by rw [Nat.le_div_iff_mul_le hb,Nat.mul_comm];exact e3
      have hdiv:(R - b*g) / b=R / b - g:=by rw [Nat.sub_mul_div]
      have hmod:(R - b*g) % b=R % b:=Nat.sub_mul_mod (by omega)
      have hbg:b≤b*g:=Nat.le_mul_of_pos_right _ e2
      generalize R / b=Q at hq hgq hdiv ⊢
      have hd:([(g:Int)]:List Int)=aA g:=(uR (by rw [dQ];omega) (by omega)).symm
      have hl1:(aA g).length≤1:=aD4 (by rw [dQ];omega)
      have s1:nE (aA b) (k:Int) (aA R,v)=some (.inl (aA (R - b*g),v.set k ((q0+g:Nat):Int))):=by
        unfold nE
        simp only []
        rw [aFo _ _ (by omega) (by omega)]
        simp only [Option.bind_some]
        rw [if_pos (by unfold sU;rw [if_neg c];split <;> omega),e1]
        simp only [Option.bind_some]
        rw [hd,(oX b g (by omega) (by omega)).2]
        simp only [Option.bind_some]
        rw [(zM R (b*g) (by omega) e3).2]
        simp only [Option.bind_some]
        rw [aDp,hv]
        simp only [Option.bind_some,aP,iF]
        rw [wi (by omega)];rfl
      rw [bI s1,ih (R - b*g) (by omega) (q0+g) _ (by omega) (by simpa using hk) (by rw [List.getElem?_set_self hk]) (by rw [hdiv];omega),hmod,hdiv,List.set_set]
      congr 3;congr 1;omega
theorem aKT (a:List Int) (b:Nat) (hb:0 < b) (hlb:(aA b).length≤700) (ha:dgs a) (hla:a.length≤1000):∀ (k R:Nat) (v:List Int),k≤a.length→R < b→dgs v→v.length=a.length→val (a.drop k)=b*val (v.drop k)+R→v.take k=List.replicate k 0 →
    ∃ (R':Nat) (v':List Int),lp (nD a (aA b)) (aA R,(k:Int) - 1,v)=some (aA R',v')∧R' < b∧dgs v'∧v'.length=a.length∧val a=b*val v'+R':=by
  intro k
  induction k with
  | zero =>
    intro R v hk hr hv hl he ht
    refine ⟨R,v,aM ?_,hr,hv,hl,by simpa using he⟩
    unfold nD;simp only [];rw [if_neg (by omega)]
  | succ k ih =>
    intro R v hk hr hv hl he ht
    have h1:k < a.length:=by omega
    have h2:k < v.length:=by omega
    have d1:=mG ha h1
    obtain ⟨x,hx⟩:∃ x:Nat,a[k]=(x:Int):=⟨(a[k]).toNat,by omega⟩
    have hx2:x < 1000000000:=by omega
    have hn:=aJS hx2 hr
    have hq:=aHu hb hn
    have hm:=Nat.mod_lt (x+BB*R) hb
    have hmd:=Nat.mod_add_div (x+BB*R) b
    have hlR:(aA R).length≤(aA b).length:=fI (Nat.le_of_lt hr) (Nat.le_refl _)
    have hv0:v[k]?=some ((0:Nat):Int):=by
      have q:(v.take (k+1))[k]?=some 0:=by rw [ht];simp
      rw [List.getElem?_take_of_lt (by omega)] at q
      exact q
    have hq':(x+BB*R) / b < 1000000000:=Nat.lt_of_lt_of_eq hq dQ
    clear hq
    have inn:=aJv b hb hlb k (x+BB*R) 0 v hn h2 hv0 (by omega)
    rw [Nat.zero_add] at inn
    generalize (x+BB*R) / b=Q at hq' hmd inn
    generalize (x+BB*R) % b=M at hm hmd inn
    have s1:nD a (aA b) (aA R,((k+1:Nat):Int) - 1,v)=some (.inl (aA M,(k:Int) - 1,v.set k (Q:Int))):=by
      unfold nD
      simp only []
      rw [show ((k+1:Nat):Int) - 1=(k:Int) by omega,if_pos (by omega),aH h1,hx]
      simp only [Option.bind_some,aP]
      rw [aR (by simp;omega)]
      simp only [Option.bind_some]
      rw [xI,aFO x R hx2 (by omega)]
      simp only [Option.bind_some]
      rw [inn]
      simp only [Option.bind_some]
      rw [wi (by omega)]
    obtain ⟨R',v',e1,e2,e3,e4,e5⟩:=ih M (v.set k (Q:Int)) (by omega) hm (aDs hv _ _ (by omega)) (by simpa using hl) (by
        rw [gZ h1,gZ (l:=v.set k _) (by simpa using h2),List.getElem_set_self,xG,he,hx,Int.toNat_natCast,Int.toNat_natCast]
        rw [Nat.mul_add,Nat.mul_add b,← Nat.mul_assoc BB b,← Nat.mul_assoc b BB,Nat.mul_comm BB b]
        omega) (by
        rw [List.take_set_of_le (by omega)]
        have:=congrArg (List.take k) ht
        rw [List.take_take,Nat.min_eq_left (by omega),List.take_replicate,Nat.min_eq_left (by omega)] at this
        exact this)
    exact ⟨R',v',by rw [bI s1];exact e1,e2,e3,e4,e5⟩
theorem aK7:∀ (l:List Int),dgs l→l.length≤2→fH l=some (val l:Int)
  | [],_,_=>by
    unfold fH
    simp only [aP,List.length_nil]
    rw [wi (by omega),aM (r:=0) (by unfold dE;simp)];rfl
  | [d],h,_=>by
    rw [nJ] at h
    unfold fH
    simp only [aP,List.length_cons,List.length_nil]
    have s1:dE [d] (0,((0:Nat):Int))=some (.inl (d,-1)):=by
      unfold dE
      simp only []
      rw [if_pos (by omega),aH (by simp)]
      simp only [Option.bind_some,aP,List.getElem_cons_zero]
      rw [wi (n:=0*1000000000) (by omega),wi (by omega),wi (by omega)]
      simp
    rw [wi (by omega),show (((0+1:Nat):Int) - 1)=((0:Nat):Int) by omega,bI s1,aM (r:=d) (by unfold dE;simp)]
    simp [val] <;> omega
  | [d,e],h,_=>by
    rw [nJ,nJ] at h
    unfold fH
    simp only [aP,List.length_cons,List.length_nil]
    have s1:dE [d,e] (0,((1:Nat):Int))=some (.inl (e,((0:Nat):Int))):=by
      unfold dE
      simp only []
      rw [if_pos (by omega),aH (by simp)]
      simp only [Option.bind_some,aP,List.getElem_cons_zero,List.getElem_cons_succ]
      rw [wi (n:=0*1000000000) (by omega),wi (by omega),wi (by omega)]
      simp
    have s2:dE [d,e] (e,((0:Nat):Int))=some (.inl (e*1000000000+d,-1)):=by
      unfold dE
      simp only []
      rw [if_pos (by omega),aH (by simp)]
      simp only [Option.bind_some,aP,List.getElem_cons_zero]
      rw [wi (n:=e*1000000000) (by omega),wi (by omega),wi (by omega)]
      rfl
    rw [wi (by omega),show (((0+1+1:Nat):Int) - 1)=((1:Nat):Int) by omega,bI s1,bI s2,aM (r:=e*1000000000+d) (by unfold dE;simp)]
    simp only [Option.bind_some,val,dQ,Nat.mul_zero,Nat.add_zero]
    congr 1;omega
  | _::_::_::_,_,h=>by simp at h <;> omega
theorem aCQ (x:Nat) (h:(aA x).length≤2):fH (aA x)=some (x:Int):=by rw [aK7 _ (eF x) h,dM]
theorem vA {x:Nat} (h:(aA x).length≤2):x < 1000000000000000000:=by
  have h1:=pS x
  have h2:BB ^ (aA x).length≤BB ^ 2:=Nat.pow_le_pow_right uW h
  have h3:BB ^ 2=1000000000000000000:=by rw [dQ]
  omega
theorem aFn (x b:Nat) (hb:0 < b) (hx:(aA x).length≤700) (hlb:(aA b).length≤700):qV (aA x) (aA b)=some (aA (x / b),aA (x % b)):=by
  unfold qV
  by_cases c:(aA x).length≤2∧(aA b).length≤2
  · have h1:=vA c.1
    have h2:=vA c.2
    have n1:((aA x).length:Int)≤2:=by omega
    have n2:((aA b).length:Int)≤2:=by omega
    simp only [n1,n2,if_true,decide_true,Option.bind_some]
    rw [aCQ x c.1,aCQ b c.2]
    simp only [Option.bind_some,aP]
    have q1:=Nat.div_le_self x b
    have q2:=Nat.mod_le x b
    rw [aR (by omega),aH1,aI2]
    generalize x / b=Q at q1 ⊢
    generalize x % b=M at q2 ⊢
    simp only [Option.bind_some]
    rw [wi (by omega),wu (by omega),wu (by omega),wR Q (by omega),wR M (by omega)]
    rfl
  · have:((if ((aA x).length:Int)≤2 then some (decide (((aA b).length:Int)≤2)) else some false):Option Bool)=some false:=by
      by_cases c1:(aA x).length≤2
      · have c2:¬(aA b).length≤2:=fun h=>c ⟨c1,h⟩
        rw [if_pos (by omega),decide_eq_false (by omega)]
      · rw [if_neg (by omega)]
    rw [this]
    simp only [Option.bind_some,Bool.false_eq_true,if_false,aP]
    rw [aR (by omega)]
    simp only [Option.bind_some,Int.toNat_natCast]
    obtain ⟨r',v',e1,e2,e3,e4,e5⟩:=aKT (aA x) b hb hlb (eF x) (by omega) (aA x).length 0 (List.replicate (aA x).length 0) (Nat.le_refl _) hb (aEJ _) (by simp) (by rw [fK (Nat.le_refl _),fK (by simp)];rfl) (by simp)
    rw [dM] at e5
    rw [bN] at e1
    obtain ⟨q1,q2⟩:=aCJ e2 e5
    rw [wi (by omega),e1]
    simp only [Option.bind_some]
    rw [xI,aAg e3 (by omega),q1,q2];rfl
end Go.Ev
/- Naturals as limbs: greatest common divisors, and which lists are naturals; both programs. -/
namespace Go.Ev
set_option linter.all false
theorem aFN (x y:Nat):Nat.gcd x y=Nat.gcd y (x % y):=by rw [Nat.gcd_comm x y,Nat.gcd_rec y x,Nat.gcd_comm]
theorem aFe:∀ (y x:Nat),lp kO ((x:Int),(y:Int))=some ((Nat.gcd x y:Nat):Int):=by
  intro y
  induction y using Nat.strongRecOn with
  | _ y ih =>
    intro x
    by_cases c:y=0
    · subst c
      rw [Nat.gcd_zero_right]
      exact aM (by unfold kO;simp)
    · have s1:kO ((x:Int),(y:Int))=some (.inl ((y:Int),((x % y:Nat):Int))):=by
        unfold kO
        simp only []
        rw [if_pos (by omega),aR (by omega),aI2];rfl
      rw [bI s1,ih (x % y) (Nat.mod_lt _ (by omega)),← aFN]
theorem aJa:uZ=kO:=rfl
theorem aIx {x y:Nat} (hx:x < 1000000000000000000) (hy:y < 1000000000000000000):Nat.gcd x y < 1000000000000000000:=by
  by_cases c:x=0
  · subst c;rw [Nat.gcd_zero_left];exact hy
  · have:=Nat.gcd_le_left y (Nat.pos_of_ne_zero c);omega
theorem aKH:∀ (y x:Nat),(aA x).length≤700→(aA y).length≤700→∃ r,lp kN (aA x,aA y)=some r∧(r=.inl (aA (Nat.gcd x y))∨r=.inr (aA (Nat.gcd x y))):=by
  intro y
  induction y using Nat.strongRecOn with
  | _ y ih =>
    intro x hx hy
    by_cases c:y=0
    · subst c
      rw [Nat.gcd_zero_right]
      refine ⟨.inl (aA x),aM ?_,.inl rfl⟩
      unfold kN
      simp [bN]
    · have hy0:(aA y).length≠0:=fun e=>eC c (List.length_eq_zero_iff.1 e)
      by_cases c2:(aA x).length≤2∧(aA y).length≤2
      · refine ⟨.inr (aA (Nat.gcd x y)),aM ?_,.inr rfl⟩
        have h1:=vA c2.1
        have h2:=vA c2.2
        have h3:=aIx h1 h2
        have n1:((aA x).length:Int)≤2:=by omega
        have n2:((aA y).length:Int)≤2:=by omega
        unfold kN
        simp only [n1,n2,if_true,decide_true,Option.bind_some]
        rw [if_pos (by omega),aCQ x c2.1,aCQ y c2.2]
        simp only [Option.bind_some]
        rw [aFe]
        simp only [Option.bind_some]
        rw [wu (by omega),wR _ (by omega)];rfl
      · have s1:kN (aA x,aA y)=some (.inl (aA y,aA (x % y))):=by
          unfold kN
          simp only []
          have:((if ((aA x).length:Int)≤2 then some (decide (((aA y).length:Int)≤2)) else some false):Option Bool)=some false:=by
            by_cases c1:(aA x).length≤2
            · have c2:¬(aA y).length≤2:=fun h=>c2 ⟨c1,h⟩
              rw [if_pos (by omega),decide_eq_false (by omega)]
            · rw [if_neg (by omega)]
          rw [if_pos (by omega),this]
          simp only [Option.bind_some,Bool.false_eq_true,if_false]
          rw [aFn x y (by omega) hx hy];rfl
        rw [bI s1,aFN x y]
        exact ih (x % y) (Nat.mod_lt _ (by omega)) y hy (by have:=aJZ x (y:=y) (by omega);omega)
theorem aIf (x y:Nat) (hx:(aA x).length≤700) (hy:(aA y).length≤700):tO (aA x) (aA y)=some (aA (Nat.gcd x y)):=by
  unfold tO
  obtain ⟨r,e1,e2⟩:=aKH y x hx hy
  have hl:(aA (Nat.gcd x y)).length≤700:=by
    by_cases c:x=0
    · subst c;rw [Nat.gcd_zero_left];exact hy
    · exact Nat.le_trans (fI (Nat.gcd_le_left y (Nat.pos_of_ne_zero c)) (Nat.le_refl _)) hx
  rw [e1]
  rcases e2 with rfl | rfl
  · simp only [Option.bind_some]
    unfold eJ
    rw [aR (by simp;omega)];rfl
  · rfl
instance (l:List Int):Decidable (dgs l):=by unfold dgs;infer_instance
def uX (l:List Int):Prop:=dgs l∧l.length≤60∧l.getLast?≠some 0
instance (l:List Int):Decidable (uX l):=by unfold uX;infer_instance
theorem aKw {l:List Int} (h:uX l):nat l:=⟨h.1,h.2.2⟩
theorem nY {l:List Int} (h:uX l):l=aA (val l):=aAm (aKw h)
theorem aC2 {x:Nat} (h:(aA x).length≤60):uX (aA x):=⟨eF x,h,aBu x⟩
theorem aLw (l:List Int) (hl:l.length≤4294967296):∀ m k:Nat,m+k=l.length→lp (mC l) (k:Int)=some (if dgs (l.drop k) then .inl () else .inr false):=by
  intro m
  induction m with
  | zero =>
    intro k hk
    rw [if_pos (by rw [List.drop_eq_nil_of_le (by omega)];exact aBS)]
    exact aM (by unfold mC;rw [if_neg (by omega)])
  | succ m ih =>
    intro k hk
    have hlt:k < l.length:=by omega
    by_cases c:0≤l[k]∧l[k] < 1000000000
    · have s1:mC l (k:Int)=some (.inl ((k+1:Nat):Int)):=by
        unfold mC
        have n1:¬l[k] < 0:=by omega
        have n2:¬1000000000≤l[k]:=by omega
        rw [if_pos (by omega),aH hlt,wi (by omega)]
        simp [n1,n2]
      rw [bI s1,ih (k+1) (by omega)]
      have hd:dgs (l.drop k)↔dgs (l.drop (k+1)):=by rw [List.drop_eq_getElem_cons hlt,nJ];exact ⟨fun h=>h.2,fun h=>⟨c,h⟩⟩
      simp only [hd]
    · have h2:¬dgs (l.drop k):=by rw [List.drop_eq_getElem_cons hlt,nJ];exact fun h=>c h.1
      rw [if_neg h2]
      refine aM ?_
      unfold mC
      rw [if_pos (by omega),aH hlt]
      simp only [Option.bind_some]
      by_cases n1:l[k] < 0
      · rw [if_pos n1];rfl
      · rw [if_neg n1,decide_eq_true (by omega)];rfl
theorem aDn (a b c:Int):qJ a b c=some (decide (b≤a∧a≤c)):=by
  unfold qJ
  by_cases h:b≤a <;> simp [h]
theorem aLv (l:List Int) (hl:l.length≤4294967296):∀ m k:Nat,m+k=l.length→lp (lX l) (k:Int)=some (if dgs (l.drop k) then .inl () else .inr false):=by
  intro m
  induction m with
  | zero =>
    intro k hk
    rw [if_pos (by rw [List.drop_eq_nil_of_le (by omega)];exact aBS)]
    exact aM (by unfold lX;rw [if_neg (by omega)])
  | succ m ih =>
    intro k hk
    have hlt:k < l.length:=by omega
    by_cases c:0≤l[k]∧l[k] < 1000000000
    · have s1:lX l (k:Int)=some (.inl ((k+1:Nat):Int)):=by
        unfold lX
        rw [if_pos (by omega),aH hlt,wi (by omega)]
        simp only [Option.bind_some]
        rw [aDn,decide_eq_true (by omega)];rfl
      rw [bI s1,ih (k+1) (by omega)]
      have hd:dgs (l.drop k)↔dgs (l.drop (k+1)):=by rw [List.drop_eq_getElem_cons hlt,nJ];exact ⟨fun h=>h.2,fun h=>⟨c,h⟩⟩
      simp only [hd]
    · have h2:¬dgs (l.drop k):=by rw [List.drop_eq_getElem_cons hlt,nJ];exact fun h=>c h.1
      rw [if_neg h2]
      refine aM ?_
      unfold lX
      rw [if_pos (by omega),aH hlt]
      simp only [Option.bind_some]
      rw [aDn,decide_eq_false (by omega)];rfl
theorem aJW (l:List Int) (hl:l.length≤4294967296) (h:l.length≠0):(idx l (IntKind.i64.wrap ((l.length:Int) - 1))).bind (fun y=>some (decide (y≠0)))=some (decide (l.getLast?≠some 0)):=by
  have hlt:l.length - 1 < l.length:=by omega
  rw [wi (by omega),show (l.length:Int) - 1=((l.length - 1:Nat):Int) by omega,aH hlt,List.getLast?_eq_getElem?,List.getElem?_eq_getElem hlt]
  simp
theorem aIS (l:List Int) (hl:l.length≤4294967296):vK l=some (decide (uX l)):=by
  unfold vK
  by_cases c:60 < l.length
  · have:¬uX l:=fun h=>by have:=h.2.1;omega
    rw [if_pos (by omega),decide_eq_false this]
  · have:=aLw l hl l.length 0 (by omega)
    rw [show ((0:Nat):Int)=0 from rfl,List.drop_zero] at this
    rw [if_neg (by omega),this]
    by_cases d:dgs l
    · rw [if_pos d]
      simp only [Option.bind_some]
      by_cases z:l.length=0
      · have e:l=[]:=List.length_eq_zero_iff.1 z
        subst e
        rw [if_pos (by simp),decide_eq_true ⟨aBS,by simp,by simp⟩]
      · rw [if_neg (by omega),aP,aJW l hl z]
        congr 1
        exact decide_eq_decide.2 ⟨fun h=>⟨d,by omega,h⟩,fun h=>h.2.2⟩
    · have:¬uX l:=fun h=>d h.1
      rw [if_neg d,decide_eq_false this];rfl
theorem aGe (l:List Int) (hl:l.length≤4294967296):tC l=some (decide (uX l)):=by
  unfold tC
  have:=aLv l hl l.length 0 (by omega)
  rw [show ((0:Nat):Int)=0 from rfl,List.drop_zero] at this
  rw [this]
  by_cases d:dgs l
  · rw [if_pos d]
    simp only [Option.bind_some]
    by_cases c:60 < l.length
    · have:¬uX l:=fun h=>by have:=h.2.1;omega
      rw [if_neg (by omega),decide_eq_false this]
    · rw [if_pos (by omega)]
      by_cases z:l.length=0
      · have e:l=[]:=List.length_eq_zero_iff.1 z
        subst e
        rw [if_pos (by simp),decide_eq_true ⟨aBS,by simp,by simp⟩]
      · rw [if_neg (by omega),aP,aJW l hl z]
        congr 1
        exact decide_eq_decide.2 ⟨fun h=>⟨d,by omega,h⟩,fun h=>h.2.2⟩
  · have:¬uX l:=fun h=>d h.1
    rw [if_neg d,decide_eq_false this];rfl
theorem aJi:([854775807,223372036,9]:List Int)=aA 9223372036854775807:=by
  have h1:dgs [854775807,223372036,9]:=by intro d hd;simp at hd;omega
  have:=aAm (l:=[854775807,223372036,9]) ⟨h1,by simp⟩
  rw [this];rfl
theorem aI1:∀ (l:List Int),dgs l→l.length≤2→lp (cP l) (0,(l.length:Int) - 1)=some (val l:Int)
  | [],_,_=>by
    rw [aM (r:=0) (by unfold cP;simp)];rfl
  | [d],h,_=>by
    rw [nJ] at h
    have s1:cP [d] (0,((0:Nat):Int))=some (.inl (d,-1)):=by
      unfold cP
      simp only []
      rw [if_pos (by omega),aH (by simp)]
      simp only [Option.bind_some,aP,List.getElem_cons_zero]
      rw [wi (n:=0*1000000000) (by omega),wi (by omega),wi (by omega)]
      simp
    rw [show ((([d]:List Int).length:Int) - 1)=((0:Nat):Int) by simp,bI s1,aM (r:=d) (by unfold cP;simp)]
    simp [val] <;> omega
  | [d,e],h,_=>by
    rw [nJ,nJ] at h
    have s1:cP [d,e] (0,((1:Nat):Int))=some (.inl (e,((0:Nat):Int))):=by
      unfold cP
      simp only []
      rw [if_pos (by omega),aH (by simp)]
      simp only [Option.bind_some,aP,List.getElem_cons_zero,List.getElem_cons_succ]
      rw [wi (n:=0*1000000000) (by omega),wi (by omega),wi (by omega)]
      simp
    have s2:cP [d,e] (e,((0:Nat):Int))=some (.inl (e*1000000000+d,-1)):=by
      unfold cP
      simp only []
      rw [if_pos (by omega),aH (by simp)]
      simp only [Option.bind_some,aP,List.getElem_cons_zero]
      rw [wi (n:=e*1000000000) (by omega),wi (by omega),wi (by omega)]
      rfl
    rw [show ((([d,e]:List Int).length:Int) - 1)=((1:Nat):Int) by simp,bI s1,bI s2,aM (r:=e*1000000000+d) (by unfold cP;simp)]
    simp only [val,dQ,Nat.mul_zero,Nat.add_zero]
    congr 1;omega
  | _::_::_::_,_,h=>by simp at h <;> omega
theorem aGd (x:Nat) (h:(aA x).length≤2):pN (aA x)=some ((x:Int),true):=by
  have hx:=vA h
  have hl:=jQ (v:=9223372036854775807) (by omega)
  unfold pN
  rw [aGe _ (by omega),decide_eq_true (aC2 (by omega)),aJi]
  simp only [Option.bind_some,if_true]
  rw [aBn _ _ (by omega) (by omega)]
  simp only [Option.bind_some,aP]
  have:¬(0 < sU x 9223372036854775807):=by unfold sU;rw [if_pos (by omega)];omega
  simp only [this,decide_false,Bool.false_eq_true,if_false]
  have e:=aI1 (aA x) (eF x) h
  rw [dM] at e
  rw [wi (by omega),e];rfl
theorem aKG:∀ (y x:Nat),(aA x).length≤700→(aA y).length≤700→∃ r,lp kD (aA x,aA y)=some r∧(r=.inl (aA (Nat.gcd x y))∨r=.inr (aA (Nat.gcd x y))):=by
  intro y
  induction y using Nat.strongRecOn with
  | _ y ih =>
    intro x hx hy
    by_cases c:y=0
    · subst c
      rw [Nat.gcd_zero_right]
      refine ⟨.inl (aA x),aM ?_,.inl rfl⟩
      unfold kD
      simp [bN]
    · have hy0:(aA y).length≠0:=fun e=>eC c (List.length_eq_zero_iff.1 e)
      by_cases c2:(aA x).length≤2∧(aA y).length≤2
      · refine ⟨.inr (aA (Nat.gcd x y)),aM ?_,.inr rfl⟩
        have h1:=vA c2.1
        have h2:=vA c2.2
        have h3:=aIx h1 h2
        have n1:((aA x).length:Int) < 3:=by omega
        have n2:((aA y).length:Int) < 3:=by omega
        unfold kD
        simp only [n1,n2,if_true,decide_true,Option.bind_some]
        rw [if_pos (by omega),aGd x c2.1,aGd y c2.2]
        simp only [Option.bind_some]
        unfold vT
        rw [aJa,aFe]
        simp only [Option.bind_some]
        rw [aAG _ (by omega)];rfl
      · have s1:kD (aA x,aA y)=some (.inl (aA y,aA (x % y))):=by
          unfold kD
          simp only []
          have:((if ((aA x).length:Int) < 3 then some (decide (((aA y).length:Int) < 3)) else some false):Option Bool)=some false:=by
            by_cases c1:(aA x).length≤2
            · have c2:¬(aA y).length≤2:=fun h=>c2 ⟨c1,h⟩
              rw [if_pos (by omega),decide_eq_false (by omega)]
            · rw [if_neg (by omega)]
          rw [if_pos (by omega),this]
          simp only [Option.bind_some,Bool.false_eq_true,if_false]
          rw [aFJ x y (by omega) hx hy];rfl
        rw [bI s1,aFN x y]
        exact ih (x % y) (Nat.mod_lt _ (by omega)) y hy (by have:=aJZ x (y:=y) (by omega);omega)
theorem aIq (x y:Nat) (hx:(aA x).length≤700) (hy:(aA y).length≤700):qI (aA x) (aA y)=some (aA (Nat.gcd x y)):=by
  unfold qI
  obtain ⟨r,e1,e2⟩:=aKG y x hx hy
  rw [aR (by simp;omega),aR (by simp;omega)]
  simp only [Option.bind_some,aP,List.nil_append]
  rw [e1]
  rcases e2 with rfl | rfl <;> rfl
end Go.Ev
