/- Parts PF, P25, PQ1, PQ2, PQ3, PQ4, PQ5. -/
import Derived.Test.YthjpgecdkmiadaaGreatPa1
import Derived.Test.YthjpgecdkmiadaaGreatLd
set_option linter.all false
/- Plain laws of helpers over nested data, printed by program (fam.py). -/
namespace Go.Ev
open IntKind
set_option linter.all false
def eK (x:(List Int)):Nat:=szL (fun _=>0) x
theorem aJs (x:(List Int)) (o:(okL (okI .i64)) x) (t:Int) (h0:0≤t) (h1:t≤1048576):tD x t=some (if (eK x:Int)≤t then t - eK x else -1):=by
  have hl:x.length≤9223372036854775807:=o.1
  have e:=nS x
  unfold tD eK
  simp only [aM]
  rw [wi (by omega)]
  by_cases c:t - (x.length:Int) < 0
  · rw [if_pos c,if_neg (by omega)]
  · rw [if_neg c,if_pos (by omega)];congr 1;omega
theorem aJr (x:(List Int)) (h:eK x≤4294967296):tB x=some x:=by
  have hl:=cY (fun _=>0) x
  unfold eK at h
  unfold tB
  rw [aQ (by omega)]
  simp only [Option.bind_some]
  have:=aEj (step:=pX x) x (List.replicate (x.length:Int).toNat 0) (fun k m=>((k:Int),m)) (fun m=>m) (by simp) (fun k m hk hm=>by
    unfold pX
    simp only []
    rw [if_pos (by omega),aH hk,aH (l:=m) (by omega)]
    simp only [Option.bind_some,aM,gI]
    rw [wi (by omega)];rfl)
   (fun m hm=>by unfold pX;simp only [];rw [if_neg (by omega)])
  rw [show ((0:Nat):Int)=0 from rfl] at this
  rw [this];rfl
theorem aEk (x:(List Int)) (h:eK x≤4294967296):nB x x=some true:=by
  have hl:=cY (fun _=>0) x
  unfold eK at h
  unfold nB
  rw [if_neg (by simp),aA3 x.length (.inl ())]
  · rfl
  · intro k hk
    unfold uB
    rw [if_pos (by omega),aH hk]
    simp only [Option.bind_some,ne_eq,not_true_eq_false,if_false]
    rw [wi (by omega)];rfl
  · unfold uB;rw [if_neg (by omega)]
theorem kI (x:(List Int)) (k:Int) (h0:0≤k) (h1:k+100*(eK x:Int)≤4611686018427387904):∃ k' x',bO x k=some (k',x')∧bQ x' k=some k'∧k≤k'∧k'≤k+100*(eK x:Int)∧x'.length=x.length:=by
  unfold eK at h1 ⊢
  obtain ⟨k',l',p1,p2,p3,p4,p5⟩:=aFf (ms:=mJ) (hs:=mL) (fun _:Int=>0) x (fun hl y k h0 h1=>by
    have w0:i64.wrap (k+1)=k+1:=wi (by omega)
    refine ⟨k+1,(k),by omega,by omega,fun m i hi hm=>?_,fun m i hi hm=>?_⟩
    · have hlt:=(List.getElem?_eq_some_iff.1 hi).1
      have wi':i64.wrap ((i:Int)+1)=(i:Int)+1:=wi (by omega)
      unfold mJ
      simp only []
      rw [if_pos (by omega)]
      simp only [aM,gI,yX hi,aBc hlt,List.set_set,Option.bind_some,w0,wi']
    · have hlt:=(List.getElem?_eq_some_iff.1 hi).1
      have wi':i64.wrap ((i:Int)+1)=(i:Int)+1:=wi (by omega)
      unfold mL
      simp only []
      rw [if_pos (by omega)]
      simp only [aM,yX hi,Option.bind_some,ne_eq,not_true_eq_false,if_false,beq_self_eq_true,if_true,w0,wi'])
   (fun k m hm=>by unfold mJ;simp only [];rw [if_neg (by omega)]) (fun k m hm=>by unfold mL;simp only [];rw [if_neg (by omega)]) k h0 h1
  exact ⟨k',l',by unfold bO tZ;simp only [p1,Option.bind_some];rw [aQ p2];rfl,by unfold bQ;simp only [p3,Option.bind_some],p4,p5,p2⟩
def dI (x:BigInt):Nat:=eK x.fMag
theorem aJ6 (x:BigInt) (o:aER x) (t:Int) (h0:0≤t) (h1:t≤1048576):rU x t=some (if (dI x:Int)≤t then t - dI x else -1):=by
  unfold rU dI
  rw [aJs x.fMag o.2.1 t (by omega) (by omega)]
  simp only [Option.bind_some]
  by_cases c:(eK x.fMag:Int)≤t
  · rw [if_pos c,if_neg (by omega)]
  · rw [if_neg c];rfl
theorem aJ4 (x:BigInt) (h:dI x≤4294967296):rT x=some x:=by
  unfold dI at h
  unfold rT
  rw [aJr x.fMag (by omega)]
  simp only [Option.bind_some]
theorem aKs (x:BigInt) (h:dI x≤4294967296):rZ x x=some true:=by
  unfold dI at h
  unfold rZ
  have e0:=aEk x.fMag (by omega)
  simp only [e0,Option.bind_some,if_true,ne_eq,not_true_eq_false,if_false,beq_self_eq_true]
def dH (x:Clique):Nat:=eK x.fFrontal+eK x.fSeparator
theorem aKr (x:Clique) (h:dH x≤4294967296):rY x x=some true:=by
  unfold dH at h
  unfold rY
  have e0:=aEk x.fFrontal (by omega)
  have e1:=aEk x.fSeparator (by omega)
  simp only [e0,e1,Option.bind_some,if_true,ne_eq,not_true_eq_false,if_false,beq_self_eq_true]
def bR (x:(List Clique)):Nat:=szL dH x
theorem aI3 (x:(List Clique)) (h:bR x≤4294967296):kC x x=some true:=by
  have hl:=cY dH x
  unfold bR at h
  unfold kC
  rw [if_neg (by simp),aA3 x.length (.inl ())]
  · rfl
  · intro k hk
    have he:=fH (w:=dH) (List.getElem_mem hk)
    unfold pC
    rw [if_pos (by omega),aH hk]
    simp only [Option.bind_some,aKr _ (show dH x[k]≤4294967296 by omega),if_true]
    rw [wi (by omega)];rfl
  · unfold pC;rw [if_neg (by omega)]
theorem aIQ (x:(List Clique)) (k:Int) (h0:0≤k) (h1:k+100*(bR x:Int)≤4611686018427387904):∃ k' x',mK x k=some (k',x')∧jP x' k=some k'∧k≤k'∧k'≤k+100*(bR x:Int)∧x'.length=x.length:=by
  unfold bR at h1 ⊢
  obtain ⟨k',l',p1,p2,p3,p4,p5⟩:=aFf (ms:=iY) (hs:=iZ) dH x (fun hl y k h0 h1=>by
    simp only [dH] at h1 ⊢
    obtain ⟨k0,x0,e0,g0,a0,b0,l0⟩:=kI y.fFrontal (k) (by omega) (by omega)
    obtain ⟨k1,x1,e1,g1,a1,b1,l1⟩:=kI y.fSeparator (k0) (by omega) (by omega)
    have w0:i64.wrap (k1+1)=k1+1:=wi (by omega)
    have n0:¬k0 < 0:=by omega
    have n1:¬k1 < 0:=by omega
    refine ⟨k1+1,(Clique.mk x0 x1 (k1)),by omega,by omega,fun m i hi hm=>?_,fun m i hi hm=>?_⟩
    · have hlt:=(List.getElem?_eq_some_iff.1 hi).1
      have wi':i64.wrap ((i:Int)+1)=(i:Int)+1:=wi (by omega)
      unfold iY
      simp only []
      rw [if_pos (by omega)]
      simp only [aM,gI,yX hi,aBc hlt,List.set_set,Option.bind_some,w0,e0,e1,wi']
    · have hlt:=(List.getElem?_eq_some_iff.1 hi).1
      have wi':i64.wrap ((i:Int)+1)=(i:Int)+1:=wi (by omega)
      unfold iZ
      simp only []
      rw [if_pos (by omega)]
      simp only [aM,yX hi,Option.bind_some,ne_eq,not_true_eq_false,if_false,beq_self_eq_true,if_true,w0,g0,g1,n0,n1,wi'])
   (fun k m hm=>by unfold iY;simp only [];rw [if_neg (by omega)]) (fun k m hm=>by unfold iZ;simp only [];rw [if_neg (by omega)]) k h0 h1
  exact ⟨k',l',by unfold mK qA;simp only [p1,Option.bind_some];rw [aQ p2];rfl,by unfold jP;simp only [p3,Option.bind_some],p4,p5,p2⟩
def aR (x:Rat):Nat:=dI x.fNum+eK x.fDen
theorem aAJ (x:Rat) (o:aBK x) (t:Int) (h0:0≤t) (h1:t≤1048576):iR x t=some (if (aR x:Int)≤t then t - aR x else -1):=by
  unfold iR aR
  rw [aJ6 x.fNum o.1 (t) (by omega) (by omega)]
  simp only [Option.bind_some]
  by_cases c0:(dI x.fNum:Int)≤t
  · skip
    rw [if_pos c0,if_neg (by omega)]
    rw [aJs x.fDen o.2.1 (t - dI x.fNum) (by omega) (by omega)]
    simp only [Option.bind_some]
    by_cases c1:(eK x.fDen:Int)≤t - dI x.fNum
    · skip
      rw [if_pos c1,if_neg (by omega)]
      rw [if_pos (by omega)];congr 1;omega
    · rw [if_neg c1,if_pos (by omega),if_neg (by omega)]
  · rw [if_neg c0,if_pos (by omega),if_neg (by omega)]
theorem aAI (x:Rat) (h:aR x≤4294967296):iQ x=some x:=by
  unfold aR at h
  unfold iQ
  rw [aJ4 x.fNum (by omega)]
  simp only [Option.bind_some]
  rw [aJr x.fDen (by omega)]
  simp only [Option.bind_some]
theorem aBd (x:Rat) (h:aR x≤4294967296):iS x x=some true:=by
  unfold aR at h
  unfold iS
  have e0:=aKs x.fNum (by omega)
  have e1:=aEk x.fDen (by omega)
  simp only [e0,e1,Option.bind_some,if_true,ne_eq,not_true_eq_false,if_false,beq_self_eq_true]
def bS (x:Parent):Nat:=aR x.fShare+aR x.fDX+aR x.fDY
theorem aJ5 (x:Parent) (o:aAQ x) (t:Int) (h0:0≤t) (h1:t≤1048576):oT x t=some (if (bS x:Int)≤t then t - bS x else -1):=by
  unfold oT bS
  rw [aAJ x.fShare o.2.1 (t) (by omega) (by omega)]
  simp only [Option.bind_some]
  by_cases c0:(aR x.fShare:Int)≤t
  · skip
    rw [if_pos c0,if_neg (by omega)]
    rw [aAJ x.fDX o.2.2.1 (t - aR x.fShare) (by omega) (by omega)]
    simp only [Option.bind_some]
    by_cases c1:(aR x.fDX:Int)≤t - aR x.fShare
    · skip
      rw [if_pos c1,if_neg (by omega)]
      rw [aAJ x.fDY o.2.2.2.1 (t - aR x.fShare - aR x.fDX) (by omega) (by omega)]
      simp only [Option.bind_some]
      by_cases c2:(aR x.fDY:Int)≤t - aR x.fShare - aR x.fDX
      · skip
        rw [if_pos c2,if_neg (by omega)]
        rw [if_pos (by omega)];congr 1;omega
      · rw [if_neg c2,if_pos (by omega),if_neg (by omega)]
    · rw [if_neg c1,if_pos (by omega),if_neg (by omega)]
  · rw [if_neg c0,if_pos (by omega),if_neg (by omega)]
theorem aJ3 (x:Parent) (h:bS x≤4294967296):rS x=some x:=by
  unfold bS at h
  unfold rS
  rw [aAI x.fShare (by omega)]
  simp only [Option.bind_some]
  rw [aAI x.fDX (by omega)]
  simp only [Option.bind_some]
  rw [aAI x.fDY (by omega)]
  simp only [Option.bind_some]
theorem aKq (x:Parent) (h:bS x≤4294967296):rX x x=some true:=by
  unfold bS at h
  unfold rX
  have e0:=aBd x.fShare (by omega)
  have e1:=aBd x.fDX (by omega)
  have e2:=aBd x.fDY (by omega)
  simp only [e0,e1,e2,Option.bind_some,if_true,ne_eq,not_true_eq_false,if_false,beq_self_eq_true]
def cP (x:(List Parent)):Nat:=szL bS x
theorem aIz (x:(List Parent)) (o:(okL aAQ) x) (t:Int) (h0:0≤t) (h1:t≤1048576):pY x t=some (if (cP x:Int)≤t then t - cP x else -1):=by
  have hl:x.length≤9223372036854775807:=o.1
  have e:=aEy bS x
  unfold pY cP
  simp only [aM]
  rw [wi (by omega)]
  by_cases c:t - (x.length:Int) < 0
  · rw [if_pos c,if_neg (by omega)]
  · rw [if_neg c,aIS x bS oT (fun y hy t a b=>aJ5 y (o.2 y hy) t a b) (fun k t hk=>by unfold oZ;simp only [];rw [if_pos (by omega),aH hk];simp only [Option.bind_some];rw [wi (by omega)]) (fun t=>by unfold oZ;simp only [];rw [if_neg (by omega)]) _ (by omega) (by omega)]
    by_cases d:((x.map bS).sum:Int)≤t - x.length
    · rw [if_pos d,if_pos (by omega)];simp only [Option.bind_some];congr 1;omega
    · rw [if_neg d,if_neg (by omega)];rfl
theorem aIw (x:(List Parent)) (h:cP x≤4294967296):pW x=some x:=by
  have hl:=cY bS x
  unfold cP at h
  unfold pW
  rw [aQ (by omega)]
  simp only [Option.bind_some]
  have:=aEj (step:=lC x) x (List.replicate (x.length:Int).toNat (Parent.mk 0 (Rat.mk (BigInt.mk false ([])) ([])) (Rat.mk (BigInt.mk false ([])) ([])) (Rat.mk (BigInt.mk false ([])) ([])))) (fun k m=>((k:Int),m)) (fun m=>m) (by simp) (fun k m hk hm=>by
    have he:=fH (w:=bS) (List.getElem_mem hk)
    unfold lC
    simp only []
    rw [if_pos (by omega),aH hk,aH (l:=m) (by omega)]
    simp only [Option.bind_some,aM,gI,aJ3 _ (show bS x[k]≤4294967296 by omega)]
    rw [wi (by omega)];rfl)
   (fun m hm=>by unfold lC;simp only [];rw [if_neg (by omega)])
  rw [show ((0:Nat):Int)=0 from rfl] at this
  rw [this];rfl
theorem aI2 (x:(List Parent)) (h:cP x≤4294967296):qB x x=some true:=by
  have hl:=cY bS x
  unfold cP at h
  unfold qB
  rw [if_neg (by simp),aA3 x.length (.inl ())]
  · rfl
  · intro k hk
    have he:=fH (w:=bS) (List.getElem_mem hk)
    unfold pB
    rw [if_pos (by omega),aH hk]
    simp only [Option.bind_some,aKq _ (show bS x[k]≤4294967296 by omega),if_true]
    rw [wi (by omega)];rfl
  · unfold pB;rw [if_neg (by omega)]
theorem aIP (x:(List Parent)) (k:Int) (h0:0≤k) (h1:k+100*(cP x:Int)≤4611686018427387904):∃ k' x',jO x k=some (k',x')∧vE x' k=some k'∧k≤k'∧k'≤k+100*(cP x:Int)∧x'.length=x.length:=by
  unfold cP at h1 ⊢
  obtain ⟨k',l',p1,p2,p3,p4,p5⟩:=aFf (ms:=iX) (hs:=lU) bS x (fun hl y k h0 h1=>by
    simp only [bS,aR,dI] at h1 ⊢
    obtain ⟨k0,x0,e0,g0,a0,b0,l0⟩:=kI y.fShare.fNum.fMag (k+1+1) (by omega) (by omega)
    obtain ⟨k1,x1,e1,g1,a1,b1,l1⟩:=kI y.fShare.fDen (k0) (by omega) (by omega)
    obtain ⟨k2,x2,e2,g2,a2,b2,l2⟩:=kI y.fDX.fNum.fMag (k1+1) (by omega) (by omega)
    obtain ⟨k3,x3,e3,g3,a3,b3,l3⟩:=kI y.fDX.fDen (k2) (by omega) (by omega)
    obtain ⟨k4,x4,e4,g4,a4,b4,l4⟩:=kI y.fDY.fNum.fMag (k3+1) (by omega) (by omega)
    obtain ⟨k5,x5,e5,g5,a5,b5,l5⟩:=kI y.fDY.fDen (k4) (by omega) (by omega)
    have w0:i64.wrap (k+1)=k+1:=wi (by omega)
    have w1:i64.wrap (k+1+1)=k+1+1:=wi (by omega)
    have w2:i64.wrap (k1+1)=k1+1:=wi (by omega)
    have w3:i64.wrap (k3+1)=k3+1:=wi (by omega)
    have n0:¬k0 < 0:=by omega
    have n1:¬k1 < 0:=by omega
    have n2:¬k2 < 0:=by omega
    have n3:¬k3 < 0:=by omega
    have n4:¬k4 < 0:=by omega
    have n5:¬k5 < 0:=by omega
    refine ⟨k5,(Parent.mk (k) (Rat.mk (BigInt.mk (decide ((k+1).tmod 3=0)) x0) x1) (Rat.mk (BigInt.mk (decide ((k1).tmod 3=0)) x2) x3) (Rat.mk (BigInt.mk (decide ((k3).tmod 3=0)) x4) x5)),by omega,by omega,fun m i hi hm=>?_,fun m i hi hm=>?_⟩
    · have hlt:=(List.getElem?_eq_some_iff.1 hi).1
      have wi':i64.wrap ((i:Int)+1)=(i:Int)+1:=wi (by omega)
      unfold iX
      simp only []
      rw [if_pos (by omega)]
      simp only [aM,gI,yX hi,aBc hlt,List.set_set,Option.bind_some,w0,w1,w2,w3,e0,e1,e2,e3,e4,e5,wi']
    · have hlt:=(List.getElem?_eq_some_iff.1 hi).1
      have wi':i64.wrap ((i:Int)+1)=(i:Int)+1:=wi (by omega)
      unfold lU
      simp only []
      rw [if_pos (by omega)]
      simp only [aM,yX hi,Option.bind_some,ne_eq,not_true_eq_false,if_false,beq_self_eq_true,if_true,w0,w1,w2,w3,g0,g1,g2,g3,g4,g5,n0,n1,n2,n3,n4,n5,wi'])
   (fun k m hm=>by unfold iX;simp only [];rw [if_neg (by omega)]) (fun k m hm=>by unfold lU;simp only [];rw [if_neg (by omega)]) k h0 h1
  exact ⟨k',l',by unfold jO pZ;simp only [p1,Option.bind_some];rw [aQ p2];rfl,by unfold vE;simp only [p3,Option.bind_some],p4,p5,p2⟩
def aK (x:Conditional):Nat:=aR x.fTotal+cP x.fParents
theorem aEx (x:Conditional) (o:yQ x) (t:Int) (h0:0≤t) (h1:t≤1048576):jZ x t=some (if (aK x:Int)≤t then t - aK x else -1):=by
  unfold jZ aK
  rw [aAJ x.fTotal o.2.1 (t) (by omega) (by omega)]
  simp only [Option.bind_some]
  by_cases c0:(aR x.fTotal:Int)≤t
  · skip
    rw [if_pos c0,if_neg (by omega)]
    rw [aIz x.fParents o.2.2.1 (t - aR x.fTotal) (by omega) (by omega)]
    simp only [Option.bind_some]
    by_cases c1:(cP x.fParents:Int)≤t - aR x.fTotal
    · skip
      rw [if_pos c1,if_neg (by omega)]
      rw [if_pos (by omega)];congr 1;omega
    · rw [if_neg c1,if_pos (by omega),if_neg (by omega)]
  · rw [if_neg c0,if_pos (by omega),if_neg (by omega)]
theorem aEt (x:Conditional) (h:aK x≤4294967296):jY x=some x:=by
  unfold aK at h
  unfold jY
  rw [aAI x.fTotal (by omega)]
  simp only [Option.bind_some]
  rw [aIw x.fParents (by omega)]
  simp only [Option.bind_some]
theorem aFs (x:Conditional) (h:aK x≤4294967296):kB x x=some true:=by
  unfold aK at h
  unfold kB
  have e0:=aBd x.fTotal (by omega)
  have e1:=aI2 x.fParents (by omega)
  simp only [e0,e1,Option.bind_some,if_true,ne_eq,not_true_eq_false,if_false,beq_self_eq_true]
def bG (x:Link):Nat:=aR x.fWeight+aR x.fDX+aR x.fDY
theorem aL1 (x:Link) (o:aC6 x) (t:Int) (h0:0≤t) (h1:t≤1048576):tC x t=some (if (bG x:Int)≤t then t - bG x else -1):=by
  unfold tC bG
  rw [aAJ x.fWeight o.2.2.1 (t) (by omega) (by omega)]
  simp only [Option.bind_some]
  by_cases c0:(aR x.fWeight:Int)≤t
  · skip
    rw [if_pos c0,if_neg (by omega)]
    rw [aAJ x.fDX o.2.2.2.1 (t - aR x.fWeight) (by omega) (by omega)]
    simp only [Option.bind_some]
    by_cases c1:(aR x.fDX:Int)≤t - aR x.fWeight
    · skip
      rw [if_pos c1,if_neg (by omega)]
      rw [aAJ x.fDY o.2.2.2.2.1 (t - aR x.fWeight - aR x.fDX) (by omega) (by omega)]
      simp only [Option.bind_some]
      by_cases c2:(aR x.fDY:Int)≤t - aR x.fWeight - aR x.fDX
      · skip
        rw [if_pos c2,if_neg (by omega)]
        rw [if_pos (by omega)];congr 1;omega
      · rw [if_neg c2,if_pos (by omega),if_neg (by omega)]
    · rw [if_neg c1,if_pos (by omega),if_neg (by omega)]
  · rw [if_neg c0,if_pos (by omega),if_neg (by omega)]
theorem aLZ (x:Link) (h:bG x≤4294967296):wI x=some x:=by
  unfold bG at h
  unfold wI
  rw [aAI x.fWeight (by omega)]
  simp only [Option.bind_some]
  rw [aAI x.fDX (by omega)]
  simp only [Option.bind_some]
  rw [aAI x.fDY (by omega)]
  simp only [Option.bind_some]
theorem aMl (x:Link) (h:bG x≤4294967296):wL x x=some true:=by
  unfold bG at h
  unfold wL
  have e0:=aBd x.fWeight (by omega)
  have e1:=aBd x.fDX (by omega)
  have e2:=aBd x.fDY (by omega)
  simp only [e0,e1,e2,Option.bind_some,if_true,ne_eq,not_true_eq_false,if_false,beq_self_eq_true]
def aL (x:(List Link)):Nat:=szL bG x
theorem aHx (x:(List Link)) (o:(okL aC6) x) (t:Int) (h0:0≤t) (h1:t≤1048576):qR x t=some (if (aL x:Int)≤t then t - aL x else -1):=by
  have hl:x.length≤9223372036854775807:=o.1
  have e:=aEy bG x
  unfold qR aL
  simp only [aM]
  rw [wi (by omega)]
  by_cases c:t - (x.length:Int) < 0
  · rw [if_pos c,if_neg (by omega)]
  · rw [if_neg c,aIS x bG tC (fun y hy t a b=>aL1 y (o.2 y hy) t a b) (fun k t hk=>by unfold sO;simp only [];rw [if_pos (by omega),aH hk];simp only [Option.bind_some];rw [wi (by omega)]) (fun t=>by unfold sO;simp only [];rw [if_neg (by omega)]) _ (by omega) (by omega)]
    by_cases d:((x.map bG).sum:Int)≤t - x.length
    · rw [if_pos d,if_pos (by omega)];simp only [Option.bind_some];congr 1;omega
    · rw [if_neg d,if_neg (by omega)];rfl
theorem aHu (x:(List Link)) (h:aL x≤4294967296):qQ x=some x:=by
  have hl:=cY bG x
  unfold aL at h
  unfold qQ
  rw [aQ (by omega)]
  simp only [Option.bind_some]
  have:=aEj (step:=oG x) x (List.replicate (x.length:Int).toNat (Link.mk 0 0 (Rat.mk (BigInt.mk false ([])) ([])) (Rat.mk (BigInt.mk false ([])) ([])) (Rat.mk (BigInt.mk false ([])) ([])))) (fun k m=>((k:Int),m)) (fun m=>m) (by simp) (fun k m hk hm=>by
    have he:=fH (w:=bG) (List.getElem_mem hk)
    unfold oG
    simp only []
    rw [if_pos (by omega),aH hk,aH (l:=m) (by omega)]
    simp only [Option.bind_some,aM,gI,aLZ _ (show bG x[k]≤4294967296 by omega)]
    rw [wi (by omega)];rfl)
   (fun m hm=>by unfold oG;simp only [];rw [if_neg (by omega)])
  rw [show ((0:Nat):Int)=0 from rfl] at this
  rw [this];rfl
theorem aH4 (x:(List Link)) (h:aL x≤4294967296):qS x x=some true:=by
  have hl:=cY bG x
  unfold aL at h
  unfold qS
  rw [if_neg (by simp),aA3 x.length (.inl ())]
  · rfl
  · intro k hk
    have he:=fH (w:=bG) (List.getElem_mem hk)
    unfold sP
    rw [if_pos (by omega),aH hk]
    simp only [Option.bind_some,aMl _ (show bG x[k]≤4294967296 by omega),if_true]
    rw [wi (by omega)];rfl
  · unfold sP;rw [if_neg (by omega)]
theorem aHN (x:(List Link)) (k:Int) (h0:0≤k) (h1:k+100*(aL x:Int)≤4611686018427387904):∃ k' x',kA x k=some (k',x')∧uA x' k=some k'∧k≤k'∧k'≤k+100*(aL x:Int)∧x'.length=x.length:=by
  unfold aL at h1 ⊢
  obtain ⟨k',l',p1,p2,p3,p4,p5⟩:=aFf (ms:=lD) (hs:=pA) bG x (fun hl y k h0 h1=>by
    simp only [bG,aR,dI] at h1 ⊢
    obtain ⟨k0,x0,e0,g0,a0,b0,l0⟩:=kI y.fWeight.fNum.fMag (k+1+1+1) (by omega) (by omega)
    obtain ⟨k1,x1,e1,g1,a1,b1,l1⟩:=kI y.fWeight.fDen (k0) (by omega) (by omega)
    obtain ⟨k2,x2,e2,g2,a2,b2,l2⟩:=kI y.fDX.fNum.fMag (k1+1) (by omega) (by omega)
    obtain ⟨k3,x3,e3,g3,a3,b3,l3⟩:=kI y.fDX.fDen (k2) (by omega) (by omega)
    obtain ⟨k4,x4,e4,g4,a4,b4,l4⟩:=kI y.fDY.fNum.fMag (k3+1) (by omega) (by omega)
    obtain ⟨k5,x5,e5,g5,a5,b5,l5⟩:=kI y.fDY.fDen (k4) (by omega) (by omega)
    have w0:i64.wrap (k+1)=k+1:=wi (by omega)
    have w1:i64.wrap (k+1+1)=k+1+1:=wi (by omega)
    have w2:i64.wrap (k+1+1+1)=k+1+1+1:=wi (by omega)
    have w3:i64.wrap (k1+1)=k1+1:=wi (by omega)
    have w4:i64.wrap (k3+1)=k3+1:=wi (by omega)
    have n0:¬k0 < 0:=by omega
    have n1:¬k1 < 0:=by omega
    have n2:¬k2 < 0:=by omega
    have n3:¬k3 < 0:=by omega
    have n4:¬k4 < 0:=by omega
    have n5:¬k5 < 0:=by omega
    refine ⟨k5,(Link.mk (k) (k+1) (Rat.mk (BigInt.mk (decide ((k+1+1).tmod 3=0)) x0) x1) (Rat.mk (BigInt.mk (decide ((k1).tmod 3=0)) x2) x3) (Rat.mk (BigInt.mk (decide ((k3).tmod 3=0)) x4) x5)),by omega,by omega,fun m i hi hm=>?_,fun m i hi hm=>?_⟩
    · have hlt:=(List.getElem?_eq_some_iff.1 hi).1
      have wi':i64.wrap ((i:Int)+1)=(i:Int)+1:=wi (by omega)
      unfold lD
      simp only []
      rw [if_pos (by omega)]
      simp only [aM,gI,yX hi,aBc hlt,List.set_set,Option.bind_some,w0,w1,w2,w3,w4,e0,e1,e2,e3,e4,e5,wi']
    · have hlt:=(List.getElem?_eq_some_iff.1 hi).1
      have wi':i64.wrap ((i:Int)+1)=(i:Int)+1:=wi (by omega)
      unfold pA
      simp only []
      rw [if_pos (by omega)]
      simp only [aM,yX hi,Option.bind_some,ne_eq,not_true_eq_false,if_false,beq_self_eq_true,if_true,w0,w1,w2,w3,w4,g0,g1,g2,g3,g4,g5,n0,n1,n2,n3,n4,n5,wi'])
   (fun k m hm=>by unfold lD;simp only [];rw [if_neg (by omega)]) (fun k m hm=>by unfold pA;simp only [];rw [if_neg (by omega)]) k h0 h1
  exact ⟨k',l',by unfold kA sW;simp only [p1,Option.bind_some];rw [aQ p2];rfl,by unfold uA;simp only [p3,Option.bind_some],p4,p5,p2⟩
def aS (x:TreeNode):Nat:=aL x.fOwn+aK x.fCond+aL x.fMessages+aR x.fEnergy
theorem aHw (x:TreeNode) (o:xT x) (t:Int) (h0:0≤t) (h1:t≤1048576):kN x t=some (if (aS x:Int)≤t then t - aS x else -1):=by
  unfold kN aS
  rw [aHx x.fOwn o.2.2.1 (t) (by omega) (by omega)]
  simp only [Option.bind_some]
  by_cases c0:(aL x.fOwn:Int)≤t
  · skip
    rw [if_pos c0,if_neg (by omega)]
    rw [aEx x.fCond o.2.2.2.1 (t - aL x.fOwn) (by omega) (by omega)]
    simp only [Option.bind_some]
    by_cases c1:(aK x.fCond:Int)≤t - aL x.fOwn
    · skip
      rw [if_pos c1,if_neg (by omega)]
      rw [aHx x.fMessages o.2.2.2.2.1 (t - aL x.fOwn - aK x.fCond) (by omega) (by omega)]
      simp only [Option.bind_some]
      by_cases c2:(aL x.fMessages:Int)≤t - aL x.fOwn - aK x.fCond
      · skip
        rw [if_pos c2,if_neg (by omega)]
        rw [aAJ x.fEnergy o.2.2.2.2.2.1 (t - aL x.fOwn - aK x.fCond - aL x.fMessages) (by omega) (by omega)]
        simp only [Option.bind_some]
        by_cases c3:(aR x.fEnergy:Int)≤t - aL x.fOwn - aK x.fCond - aL x.fMessages
        · skip
          rw [if_pos c3,if_neg (by omega)]
          rw [if_pos (by omega)];congr 1;omega
        · rw [if_neg c3,if_pos (by omega),if_neg (by omega)]
      · rw [if_neg c2,if_pos (by omega),if_neg (by omega)]
    · rw [if_neg c1,if_pos (by omega),if_neg (by omega)]
  · rw [if_neg c0,if_pos (by omega),if_neg (by omega)]
theorem aHt (x:TreeNode) (h:aS x≤4294967296):oF x=some x:=by
  unfold aS at h
  unfold oF
  rw [aHu x.fOwn (by omega)]
  simp only [Option.bind_some]
  rw [aEt x.fCond (by omega)]
  simp only [Option.bind_some]
  rw [aHu x.fMessages (by omega)]
  simp only [Option.bind_some]
  rw [aAI x.fEnergy (by omega)]
  simp only [Option.bind_some]
theorem aH3 (x:TreeNode) (h:aS x≤4294967296):oH x x=some true:=by
  unfold aS at h
  unfold oH
  have e0:=aH4 x.fOwn (by omega)
  have e1:=aFs x.fCond (by omega)
  have e2:=aH4 x.fMessages (by omega)
  have e3:=aBd x.fEnergy (by omega)
  simp only [e0,e1,e2,e3,Option.bind_some,if_true,ne_eq,not_true_eq_false,if_false,beq_self_eq_true]
def cA (x:(List TreeNode)):Nat:=szL aS x
theorem aGK (x:(List TreeNode)) (o:(okL xT) x) (t:Int) (h0:0≤t) (h1:t≤1048576):mI x t=some (if (cA x:Int)≤t then t - cA x else -1):=by
  have hl:x.length≤9223372036854775807:=o.1
  have e:=aEy aS x
  unfold mI cA
  simp only [aM]
  rw [wi (by omega)]
  by_cases c:t - (x.length:Int) < 0
  · rw [if_pos c,if_neg (by omega)]
  · rw [if_neg c,aIS x aS kN (fun y hy t a b=>aHw y (o.2 y hy) t a b) (fun k t hk=>by unfold lT;simp only [];rw [if_pos (by omega),aH hk];simp only [Option.bind_some];rw [wi (by omega)]) (fun t=>by unfold lT;simp only [];rw [if_neg (by omega)]) _ (by omega) (by omega)]
    by_cases d:((x.map aS).sum:Int)≤t - x.length
    · rw [if_pos d,if_pos (by omega)];simp only [Option.bind_some];congr 1;omega
    · rw [if_neg d,if_neg (by omega)];rfl
theorem aGJ (x:(List TreeNode)) (h:cA x≤4294967296):mH x=some x:=by
  have hl:=cY aS x
  unfold cA at h
  unfold mH
  rw [aQ (by omega)]
  simp only [Option.bind_some]
  have:=aEj (step:=iW x) x (List.replicate (x.length:Int).toNat (TreeNode.mk 0 0 ([]) (Conditional.mk 0 (Rat.mk (BigInt.mk false ([])) ([])) ([])) ([]) (Rat.mk (BigInt.mk false ([])) ([])))) (fun k m=>((k:Int),m)) (fun m=>m) (by simp) (fun k m hk hm=>by
    have he:=fH (w:=aS) (List.getElem_mem hk)
    unfold iW
    simp only []
    rw [if_pos (by omega),aH hk,aH (l:=m) (by omega)]
    simp only [Option.bind_some,aM,gI,aHt _ (show aS x[k]≤4294967296 by omega)]
    rw [wi (by omega)];rfl)
   (fun m hm=>by unfold iW;simp only [];rw [if_neg (by omega)])
  rw [show ((0:Nat):Int)=0 from rfl] at this
  rw [this];rfl
theorem aHg (x:(List TreeNode)) (h:cA x≤4294967296):mM x x=some true:=by
  have hl:=cY aS x
  unfold cA at h
  unfold mM
  rw [if_neg (by simp),aA3 x.length (.inl ())]
  · rfl
  · intro k hk
    have he:=fH (w:=aS) (List.getElem_mem hk)
    unfold lV
    rw [if_pos (by omega),aH hk]
    simp only [Option.bind_some,aH3 _ (show aS x[k]≤4294967296 by omega),if_true]
    rw [wi (by omega)];rfl
  · unfold lV;rw [if_neg (by omega)]
theorem aG8 (x:(List TreeNode)) (k:Int) (h0:0≤k) (h1:k+100*(cA x:Int)≤4611686018427387904):∃ k' x',gM x k=some (k',x')∧sX x' k=some k'∧k≤k'∧k'≤k+100*(cA x:Int)∧x'.length=x.length:=by
  unfold cA at h1 ⊢
  obtain ⟨k',l',p1,p2,p3,p4,p5⟩:=aFf (ms:=gJ) (hs:=kJ) aS x (fun hl y k h0 h1=>by
    simp only [aS,aK,aR,dI] at h1 ⊢
    obtain ⟨k0,x0,e0,g0,a0,b0,l0⟩:=aHN y.fOwn (k+1+1) (by omega) (by omega)
    obtain ⟨k1,x1,e1,g1,a1,b1,l1⟩:=kI y.fCond.fTotal.fNum.fMag (k0+1+1) (by omega) (by omega)
    obtain ⟨k2,x2,e2,g2,a2,b2,l2⟩:=kI y.fCond.fTotal.fDen (k1) (by omega) (by omega)
    obtain ⟨k3,x3,e3,g3,a3,b3,l3⟩:=aIP y.fCond.fParents (k2) (by omega) (by omega)
    obtain ⟨k4,x4,e4,g4,a4,b4,l4⟩:=aHN y.fMessages (k3) (by omega) (by omega)
    obtain ⟨k5,x5,e5,g5,a5,b5,l5⟩:=kI y.fEnergy.fNum.fMag (k4+1) (by omega) (by omega)
    obtain ⟨k6,x6,e6,g6,a6,b6,l6⟩:=kI y.fEnergy.fDen (k5) (by omega) (by omega)
    have w0:i64.wrap (k+1)=k+1:=wi (by omega)
    have w1:i64.wrap (k+1+1)=k+1+1:=wi (by omega)
    have w2:i64.wrap (k0+1)=k0+1:=wi (by omega)
    have w3:i64.wrap (k0+1+1)=k0+1+1:=wi (by omega)
    have w4:i64.wrap (k4+1)=k4+1:=wi (by omega)
    have n0:¬k0 < 0:=by omega
    have n1:¬k1 < 0:=by omega
    have n2:¬k2 < 0:=by omega
    have n3:¬k3 < 0:=by omega
    have n4:¬k4 < 0:=by omega
    have n5:¬k5 < 0:=by omega
    have n6:¬k6 < 0:=by omega
    refine ⟨k6,(TreeNode.mk (k) (k+1) x0 (Conditional.mk (k0) (Rat.mk (BigInt.mk (decide ((k0+1).tmod 3=0)) x1) x2) x3) x4 (Rat.mk (BigInt.mk (decide ((k4).tmod 3=0)) x5) x6)),by omega,by omega,fun m i hi hm=>?_,fun m i hi hm=>?_⟩
    · have hlt:=(List.getElem?_eq_some_iff.1 hi).1
      have wi':i64.wrap ((i:Int)+1)=(i:Int)+1:=wi (by omega)
      unfold gJ
      simp only []
      rw [if_pos (by omega)]
      simp only [aM,gI,yX hi,aBc hlt,List.set_set,Option.bind_some,w0,w1,w2,w3,w4,e0,e1,e2,e3,e4,e5,e6,wi']
    · have hlt:=(List.getElem?_eq_some_iff.1 hi).1
      have wi':i64.wrap ((i:Int)+1)=(i:Int)+1:=wi (by omega)
      unfold kJ
      simp only []
      rw [if_pos (by omega)]
      simp only [aM,yX hi,Option.bind_some,ne_eq,not_true_eq_false,if_false,beq_self_eq_true,if_true,w0,w1,w2,w3,w4,g0,g1,g2,g3,g4,g5,g6,n0,n1,n2,n3,n4,n5,n6,wi'])
   (fun k m hm=>by unfold gJ;simp only [];rw [if_neg (by omega)]) (fun k m hm=>by unfold kJ;simp only [];rw [if_neg (by omega)]) k h0 h1
  exact ⟨k',l',by unfold gM nK;simp only [p1,Option.bind_some];rw [aQ p2];rfl,by unfold sX;simp only [p3,Option.bind_some],p4,p5,p2⟩
def dV (x:Tree):Nat:=cA x.fNodes
theorem aL0 (x:Tree) (o:aG4 x) (t:Int) (h0:0≤t) (h1:t≤1048576):wJ x t=some (if (dV x:Int)≤t then t - dV x else -1):=by
  unfold wJ dV
  rw [aGK x.fNodes o.1 t (by omega) (by omega)]
  simp only [Option.bind_some]
  by_cases c:(cA x.fNodes:Int)≤t
  · rw [if_pos c,if_neg (by omega)]
  · rw [if_neg c];rfl
theorem aLY (x:Tree) (h:dV x≤4294967296):nA x=some x:=by
  unfold dV at h
  unfold nA
  rw [aGJ x.fNodes (by omega)]
  simp only [Option.bind_some]
theorem aMk (x:Tree) (h:dV x≤4294967296):wK x x=some true:=by
  unfold dV at h
  unfold wK
  have e0:=aHg x.fNodes (by omega)
  simp only [e0,Option.bind_some,if_true,ne_eq,not_true_eq_false,if_false,beq_self_eq_true]
theorem aMg (x:Tree) (k:Int) (h0:0≤k) (h1:k+100*(dV x:Int)≤4611686018427387904):∃ k' x',rV x k=some (k',x')∧aBX x' k=some k'∧k≤k'∧k'≤k+100*(dV x:Int):=by
  unfold dV at h1 ⊢
  obtain ⟨k0,x0,e0,g0,a0,b0,l0⟩:=aG8 x.fNodes (k) (by omega) (by omega)
  have n0:¬k0 < 0:=by omega
  exact ⟨k0,Tree.mk x0,by unfold rV;simp only [e0,Option.bind_some],by unfold aBX;simp only [g0,n0,Option.bind_some,if_false],by omega,by omega⟩
end Go.Ev
/- Fractions made of whole numbers: both programs make the same. -/
namespace Go.Ev
set_option linter.all false
theorem wu {n:Int} (h:0≤n∧n≤18446744073709551615):IntKind.u64.wrap n=n:=by
  have:IntKind.u64.wrap n=n % 18446744073709551616:=by simp [IntKind.wrap,IntKind.bits,IntKind.signed]
  rw [this];omega
theorem aEu (v:Nat):((v:Int)).tmod 1000000000=((v % BB:Nat):Int):=by
  rw [Int.tmod_eq_emod_of_nonneg (by omega),dO];omega
theorem aEv (v:Nat):((v:Int)).tdiv 1000000000=((v / BB:Nat):Int):=by
  rw [Int.tdiv_eq_ediv_of_nonneg (by omega),dO];omega
theorem aEW:∀ (v:Nat) (t:List Int),v < 18446744073709551616→t.length+(aA v).length≤1000→lp iJ ((v:Int),t)=some (t++aA v):=by
  intro v
  induction v using Nat.strongRecOn with
  | _ v ih =>
    intro t hv ht
    by_cases h:v=0
    · subst h
      rw [bH,List.append_nil]
      exact aN (by unfold iJ;simp)
    · rw [gR h,List.length_cons] at ht
      have hm:=Nat.mod_lt v uO
      have hd:=Nat.div_le_self v BB
      rw [dO] at hm
      have e:iJ ((v:Int),t)=some (.inl (((v / BB:Nat):Int),t++[((v % BB:Nat):Int)])):=by
        unfold iJ
        simp only []
        rw [if_pos (by omega),aEu,aEv,wi (by rw [dO];omega),wu (by rw [dO] at hd ⊢;omega),aQ (by omega)]
        rfl
      rw [bF e,ih _ (Nat.div_lt_self (by omega) (by rw [dO];omega)) _ (by omega) (by simp;omega),gR h]
      simp
theorem jE {v:Nat} (h:v < 18446744073709551616):(aA v).length≤3:=by
  refine jK ?_
  rw [dO];omega
theorem wH (v:Nat) (h:v < 18446744073709551616):fZ (v:Int)=some (aA v):=by
  unfold fZ
  have:=jE h
  rw [aEW v [] h (by simp;omega)]
  simp
theorem aJl:∀ (v:Nat) (t:List Int),v < 9223372036854775808→t.length+(aA v).length≤1000→lp oQ ((v:Int),t)=some (t++aA v):=by
  intro v
  induction v using Nat.strongRecOn with
  | _ v ih =>
    intro t hv ht
    by_cases h:v=0
    · subst h
      rw [bH,List.append_nil]
      exact aN (by unfold oQ;simp)
    · rw [gR h,List.length_cons] at ht
      have hd:=Nat.div_le_self v BB
      have e:oQ ((v:Int),t)=some (.inl (((v / BB:Nat):Int),t++[((v % BB:Nat):Int)])):=by
        unfold oQ
        simp only []
        rw [if_pos (by omega),aEu,aEv,wi (by rw [dO] at hd ⊢;omega),aQ (by omega)]
        rfl
      rw [bF e,ih _ (Nat.div_lt_self (by omega) (by rw [dO];omega)) _ (by omega) (by simp;omega),gR h]
      simp
theorem aAu (v:Nat) (h:v < 9223372036854775808):lO (v:Int)=some (aA v):=by
  unfold lO
  have:=jE (v:=v) (by omega)
  rw [aJl v [] h (by simp;omega)]
  simp
theorem aJ2 (l:List Int) (hl:l.length≤4294967296):∀ k:Nat,k≤l.length→(∀ i (hi:i < l.length),k≤i→l[i]=0)→lp (fI l) (k:Int)=some (((rA l).length:Nat):Int):=by
  have htl:∀ (m:List Int) (k:Nat),k≤m.length→(∀ i (hi:i < m.length),k≤i→m[i]=0)→rA m=rA (m.take k):=by
    intro m
    induction m with
    | nil=>intro k _ _;simp
    | cons d m ih =>
      intro k hk hz
      cases k with
      | zero =>
        have h0:d=0:=hz 0 (by simp) (Nat.le_refl _)
        have:=ih 0 (by omega) (fun i hi _=>by have:=hz (i+1) (by simpa using hi) (by omega);simpa using this)
        rw [List.take_zero] at this ⊢
        unfold rA
        rw [this];simp [rA,h0]
      | succ k =>
        have:=ih k (by simpa using hk) (fun i hi hki=>by have:=hz (i+1) (by simpa using hi) (by omega);simpa using this)
        rw [List.take_succ_cons]
        conv=>lhs;unfold rA
        conv=>rhs;unfold rA
        rw [this]
  intro k
  induction k with
  | zero =>
    intro hk hz
    rw [htl l 0 (by omega) hz,List.take_zero]
    exact aN (by unfold fI;simp [rA])
  | succ k ih =>
    intro hk hz
    have hlt:k < l.length:=by omega
    by_cases c:l[k]=0
    · have e:fI l ((k+1:Nat):Int)=some (.inl (k:Int)):=by
        unfold fI
        rw [if_pos (by omega),wi (by omega),show ((k+1:Nat):Int) - 1=(k:Int) by omega,aH hlt]
        simp [c]
      rw [bF e]
      exact ih (by omega) (fun i hi hki=>by
        by_cases e:i=k
        · subst e;exact c
        · exact hz i hi (by omega))
    · have e:fI l ((k+1:Nat):Int)=some (.inr ((k+1:Nat):Int)):=by
        unfold fI
        rw [if_pos (by omega),wi (by omega),show ((k+1:Nat):Int) - 1=(k:Int) by omega,aH hlt]
        simp [c]
      rw [aN e,htl l (k+1) hk hz,aCx (l:=l.take (k+1))]
      · simp;omega
      · have e:l.take (k+1)=l.take k++[l[k]]:=by rw [List.take_succ,List.getElem?_eq_getElem hlt];rfl
        rw [e,List.getLast?_concat];simpa using c
theorem aGd (l:List Int):rA l=l.take (rA l).length:=by
  induction l with
  | nil=>rfl
  | cons d l ih =>
    unfold rA
    cases h:rA l with
    | nil =>
      by_cases c:d=0 <;> simp [c]
    | cons t r =>
      rw [h] at ih
      simp only [List.length_cons,List.take_succ_cons] at ih ⊢
      rw [← ih]
theorem aHs (l:List Int):(rA l).length≤l.length:=by
  have:=congrArg List.length (aGd l)
  rw [List.length_take] at this;omega
theorem aGs (l:List Int) (hl:l.length≤4294967296):cR l=some (rA l):=by
  unfold cR
  rw [aJ2 l hl l.length (Nat.le_refl _) (fun i hi h=>by omega)]
  simp only [Option.bind_some]
  have:=aHs l
  rw [vK _ _ _ (by omega)]
  simp only [Option.bind_some]
  congr 1
  have e:=aGd l
  simp only [Int.toNat_zero,List.drop_zero,Int.sub_zero,Int.toNat_natCast]
  exact e.symm
theorem aLq (v:Nat) (h:(aA v).length≤60):wC (aA v)=some (aA v):=by
  unfold wC
  rw [aGs _ (by omega)]
  simp only [Option.bind_some]
  rw [aCx (aBf v),if_neg (by omega)]
def big (n:Int):BigInt:=⟨decide (n < 0),aA n.natAbs⟩
theorem qT (s:Bool) (v:Nat) (h:(aA v).length≤60):cQ s (aA v)=some ⟨s&&decide (v≠0),aA v⟩:=by
  unfold cQ
  rw [aLq v h]
  simp only [Option.bind_some]
  have hz:(0 < ((aA v).length:Int))↔v≠0:=by
    constructor
    · intro h e;subst e;rw [bH] at h;simp at h
    · intro h
      have:(aA v).length≠0:=fun e=>dZ h (List.length_eq_zero_iff.1 e)
      omega
  cases s with
  | true =>
    simp only [if_true]
    rw [aQ (by simp;omega)]
    simp only [Option.bind_some,aM,List.nil_append,Bool.true_and]
    congr 2
    exact decide_eq_decide.2 hz
  | false =>
    simp only [Bool.false_eq_true,if_false]
    rw [aQ (by simp;omega)]
    simp only [Option.bind_some,aM,List.nil_append,Bool.false_and]
theorem vH (s:Bool) (v:Nat) (h:(aA v).length≤60):eI s (aA v)=some ⟨s&&decide (v≠0),aA v⟩:=by
  unfold eI
  by_cases hv:v=0
  · subst hv
    rw [bH];simp
  · have:(aA v).length≠0:=fun e=>dZ hv (List.length_eq_zero_iff.1 e)
    rw [if_neg (by omega)]
    simp only [Option.bind_some]
    have h2:¬(60 < ((aA v).length:Int)):=by omega
    simp [h2,hv]
theorem aEe (n:Int) (h:-9223372036854775808≤n∧n≤9223372036854775807):sH n=some (big n):=by
  unfold sH big
  by_cases c:n < 0
  · rw [if_pos c]
    simp only [aM]
    rw [wi (n:=n+1) (by omega),wi (by omega),wu (n:=0 - (n+1)) (by omega),wu (by omega)]
    have e:(0 - (n+1)+1)=((n.natAbs:Nat):Int):=by omega
    have hl:=jE (v:=n.natAbs) (by omega)
    rw [e,wH _ (by omega)]
    simp only [Option.bind_some]
    rw [vH true _ (by omega)]
    simp only [Option.bind_some,Bool.true_and]
    have:n.natAbs≠0:=by omega
    simp [c,this]
  · rw [if_neg c]
    have e:n=((n.natAbs:Nat):Int):=by omega
    have hl:=jE (v:=n.natAbs) (by omega)
    rw [wu (by omega)]
    conv=>lhs;rw [e]
    rw [wH _ (by omega)]
    simp only [Option.bind_some]
    rw [vH false _ (by omega)]
    simp [c]
theorem aDH (n:Int) (h:-9223372036854775808≤n∧n≤9223372036854775807):rL n=some (big n):=by
  unfold rL big
  by_cases c0:n=-9223372036854775808
  · rw [if_pos c0]
    subst c0
    have hd:([854775808,223372036,9]:List Int)=aA 9223372036854775808:=by
      have h1:dgs [854775808,223372036,9]:=by intro d hd;simp at hd;omega
      have:=aAe (l:=[854775808,223372036,9]) ⟨h1,by simp⟩
      rw [this];rfl
    have hl:=jE (v:=9223372036854775808) (by omega)
    rw [hd,qT true _ (by omega)]
    simp only [Option.bind_some]
    rfl
  · rw [if_neg c0]
    by_cases c:n < 0
    · rw [if_pos c,wi (by omega)]
      have e:(0 - n)=((n.natAbs:Nat):Int):=by omega
      have hl:=jE (v:=n.natAbs) (by omega)
      rw [e,aAu _ (by omega)]
      simp only [Option.bind_some]
      rw [qT true _ (by omega)]
      simp only [Option.bind_some,Bool.true_and]
      have:n.natAbs≠0:=by omega
      simp [c,this]
    · rw [if_neg c]
      have e:n=((n.natAbs:Nat):Int):=by omega
      have hl:=jE (v:=n.natAbs) (by omega)
      conv=>lhs;rw [e]
      rw [aAu _ (by omega)]
      simp only [Option.bind_some]
      rw [qT false _ (by omega)]
      simp [c]
def xP (n:Int):Rat:=⟨big n,[1]⟩
theorem lJ (n:Int) (h:-9223372036854775808≤n∧n≤9223372036854775807):eE n=some (xP n):=by
  unfold eE
  rw [aEe n h];rfl
theorem kU (n:Int) (h:-9223372036854775808≤n∧n≤9223372036854775807):eD n=some (xP n):=by
  unfold eD
  rw [aDH n h];rfl
end Go.Ev
/- Naturals as limbs: order, sums, differences; both programs. -/
namespace Go.Ev
open IntKind
set_option linter.all false
theorem xF:nM=cR:=rfl
theorem zV {l:List Int} (h:dgs l) (hl:l.length≤4294967296):cR l=some (aA (val l)):=by rw [aGs l hl,aEr h]
theorem aIc:yA=fW:=rfl
theorem aLB (x y t:Nat):sJ (x+t) (y+t)=sJ x y:=by unfold sJ;simp only [Nat.add_lt_add_iff_right]
theorem aLz (a b:List Int) (ha:dgs a) (hb:dgs b) (hab:a.length=b.length) (hl:a.length≤4294967296):∀ k:Nat,k≤a.length →
    lp (fW a b) ((k:Int) - 1)=some (if val (a.take k)=val (b.take k) then .inl () else .inr (sJ (val (a.take k)) (val (b.take k)))):=by
  intro k
  induction k with
  | zero =>
    intro _
    rw [aN (r:=.inl ()) (by unfold fW;rw [if_neg (by omega)])]
    simp
  | succ k ih =>
    intro hk
    have h1:k < a.length:=by omega
    have h2:k < b.length:=by omega
    have d1:=lW ha h1
    have d2:=lW hb h2
    have v1:=aEq (aIb ha k)
    have v2:=aEq (aIb hb k)
    rw [List.length_take,Nat.min_eq_left (by omega)] at v1 v2
    rw [oN h1,oN h2]
    have hk1:((k+1:Nat):Int) - 1=(k:Int):=by omega
    rw [hk1]
    by_cases c1:a[k] < b[k]
    · rw [aN (r:=.inr (-1)) (by unfold fW;rw [if_pos (by omega),aH h1,aH h2];simp [c1])]
      have:BB ^ k*(a[k]).toNat+BB ^ k≤BB ^ k*(b[k]).toNat:=by
        rw [← Nat.mul_succ];exact Nat.mul_le_mul_left _ (by omega)
      rw [if_neg (by omega)];unfold sJ;rw [if_pos (by omega)]
    · by_cases c2:b[k] < a[k]
      · rw [aN (r:=.inr 1) (by unfold fW;rw [if_pos (by omega),aH h1,aH h2];simp [c1,c2])]
        have:BB ^ k*(b[k]).toNat+BB ^ k≤BB ^ k*(a[k]).toNat:=by
          rw [← Nat.mul_succ];exact Nat.mul_le_mul_left _ (by omega)
        rw [if_neg (by omega)];unfold sJ;rw [if_neg (by omega),if_pos (by omega)]
      · have e:a[k]=b[k]:=by omega
        rw [bF (s':=(k:Int) - 1) (by unfold fW;rw [if_pos (by omega),aH h1,aH h2,wi (by omega)];simp [c1,c2]),ih (by omega),e]
        by_cases c3:val (a.take k)=val (b.take k)
        · rw [if_pos c3,if_pos (by omega)]
        · rw [if_neg c3,if_neg (by omega)]
          rw [aLB]
theorem aId {x y:Nat} (h:(aA x).length < (aA y).length):sJ x y=-1:=by unfold sJ;rw [if_pos (aIT h)]
theorem aGz {x y:Nat} (h:(aA y).length < (aA x).length):sJ x y=1:=by have:=aIT h;unfold sJ;rw [if_neg (by omega),if_pos this]
theorem aLA (x y:Nat) (hx:(aA x).length≤1000) (h:(aA x).length=(aA y).length):lp (fW (aA x) (aA y)) (((aA x).length:Int) - 1)=some (if x=y then .inl () else .inr (sJ x y)):=by
  have:=aLz (aA x) (aA y) (eB x) (eB y) h (by omega) (aA x).length (Nat.le_refl _)
  rw [List.take_length,h,List.take_length,dG,dG] at this
  rw [h];exact this
theorem aA8 (x y:Nat) (hx:(aA x).length≤1000) (hy:(aA y).length≤1000):mZ (aA x) (aA y)=some (sJ x y):=by
  unfold mZ
  by_cases c:(aA x).length=(aA y).length
  · rw [if_neg (by omega),aM,wi (by omega),aLA x y hx c]
    by_cases e:x=y
    · subst e;simp [sJ]
    · rw [if_neg e];rfl
  · rw [if_pos (by omega)]
    by_cases c2:(aA x).length < (aA y).length
    · rw [if_pos (by omega),aId c2]
    · rw [if_neg (by omega),aGz (by omega)]
theorem aEY (x y:Nat) (hx:(aA x).length≤1000) (hy:(aA y).length≤1000):tG (aA x) (aA y)=some (sJ x y):=by
  unfold tG
  by_cases c2:(aA x).length < (aA y).length
  · rw [if_pos (by omega),aId c2]
  · rw [if_neg (by omega)]
    by_cases c3:(aA y).length < (aA x).length
    · rw [if_pos (by omega),aGz c3]
    · rw [if_neg (by omega),aM,wi (by omega),aIc,aLA x y hx (by omega)]
      by_cases e:x=y
      · subst e;simp [sJ]
      · rw [if_neg e];rfl
theorem aIk (a b:List Int) (i c:Nat) (out:List Int) (x:Nat) (hx:x≤1999999999) (ho:out.length=i) (hi:i≤2000) (hlt:i < a.length∨i < b.length∨c=1) (hc:c≤1)
    (h:(x:Int)=c+(if h:i < a.length then a[i] else 0)+(if h:i < b.length then b[i] else 0)) (ha:dgs a) (hb:dgs b) :
    hP a b ((c:Int),(i:Int),out)=some (.inl (((x / BB:Nat):Int),((i+1:Nat):Int),out++[((x % BB:Nat):Int)])):=by
  unfold hP
  simp only []
  by_cases c1:i < a.length
  · have d1:=lW ha c1
    rw [dif_pos c1] at h
    rw [if_pos (by omega),if_pos (by omega),aH c1]
    simp only [Option.bind_some,if_true]
    rw [wi (by omega)]
    by_cases c2:i < b.length
    · have d2:=lW hb c2
      rw [dif_pos c2] at h
      rw [if_pos (by omega),aH c2]
      simp only [Option.bind_some]
      rw [wi (by omega),← h,aQ (by omega)]
      simp only [Option.bind_some,aM]
      rw [aEu,aEv,wi (by rw [dO];omega),wi (by omega)];rfl
    · rw [dif_neg c2] at h
      rw [if_neg (by omega)]
      simp only [Option.bind_some]
      rw [show (c:Int)+a[i]=(x:Int) by omega,aQ (by omega)]
      simp only [Option.bind_some,aM]
      rw [aEu,aEv,wi (by rw [dO];omega),wi (by omega)];rfl
  · rw [dif_neg c1] at h
    have n1:¬((i:Int) < (a.length:Int)):=by omega
    simp only [n1,if_false]
    by_cases c2:i < b.length
    · have d2:=lW hb c2
      rw [dif_pos c2] at h
      have n2:((i:Int) < (b.length:Int)):=by omega
      simp only [n2,if_true,Option.bind_some]
      rw [aH c2]
      simp only [Option.bind_some]
      rw [wi (by omega),show (c:Int)+b[i]=(x:Int) by omega,aQ (by omega)]
      simp only [Option.bind_some,aM]
      rw [aEu,aEv,wi (by rw [dO];omega),wi (by omega)];rfl
    · rw [dif_neg c2] at h
      have n2:¬((i:Int) < (b.length:Int)):=by omega
      have hc1:c=1:=by omega
      have hc2:(0 < (c:Int)):=by omega
      simp only [n2,hc2,if_false,decide_true,Option.bind_some,if_true]
      rw [show (c:Int)=(x:Int) by omega,aQ (by omega)]
      simp only [Option.bind_some,aM]
      rw [aEu,aEv,wi (by rw [dO];omega),wi (by omega)];rfl
theorem aIj (a b:List Int) (i:Nat) (out:List Int) (h1:a.length≤i) (h2:b.length≤i):lp (hP a b) (0,(i:Int),out)=some out :=
  aN (by unfold hP;simp only [];rw [if_neg (by omega),if_neg (by omega)];simp)
theorem aMs (a b:List Int) (ha:dgs a) (hb:dgs b) (i c:Nat) (out:List Int) (hc:c≤1) (ho:out.length=i) (hi:i≤1999) (h1:a.length≤i) (h2:b.length≤i) :
    lp (hP a b) ((c:Int),(i:Int),out)=some (out++aA c):=by
  rcases Nat.eq_zero_or_pos c with e | e
  · subst e
    rw [bH,List.append_nil];exact aIj a b i out h1 h2
  · have e1:c=1:=by omega
    subst e1
    have:=aIk a b i 1 out 1 (by omega) ho (by omega) (.inr (.inr rfl)) (by omega) (by rw [dif_neg (by omega),dif_neg (by omega)];omega) ha hb
    rw [bF this,show 1 / BB=0 from rfl,show 1 % BB=1 from rfl]
    rw [show ((0:Nat):Int)=0 from rfl,aIj a b (i+1) _ (by omega) (by omega),uK (by rw [dO];omega) (by omega)]
theorem aLG (a b:List Int) (ha:nat a) (hb:nat b) (hla:a.length≤1000) (hlb:b.length≤1000):∀ (m i c:Nat) (out:List Int),c≤1→m+i=max a.length b.length→out.length=i →
    lp (hP a b) ((c:Int),(i:Int),out)=some (out++aA (c+(val (a.drop i)+val (b.drop i)))):=by
  intro m
  induction m with
  | zero =>
    intro i c out hc hm ho
    rw [fG (by omega),fG (by omega)]
    exact aMs a b ha.1 hb.1 i c out hc ho (by omega) (by omega) (by omega)
  | succ m ih =>
    intro i c out hc hm ho
    obtain ⟨x,hx,e1,e2,e3⟩:∃ x:Nat,x≤1999999999∧c+(val (a.drop i)+val (b.drop i))=x+BB*(val (a.drop (i+1))+val (b.drop (i+1))) ∧
        c+(val (a.drop i)+val (b.drop i))≠0∧(x:Int)=c+(if h:i < a.length then a[i] else 0)+(if h:i < b.length then b[i] else 0):=by
      by_cases c1:i < a.length
      · have d1:=lW ha.1 c1
        have n1:=aDr ha c1
        have v1:=gT c1
        by_cases c2:i < b.length
        · have d2:=lW hb.1 c2
          have v2:=gT c2
          refine ⟨c+(a[i]).toNat+(b[i]).toNat,by omega,by rw [Nat.mul_add];omega,by omega,by rw [dif_pos c1,dif_pos c2];omega⟩
        · have v2:=fG (l:=b) (k:=i) (by omega)
          have v3:=fG (l:=b) (k:=i+1) (by omega)
          refine ⟨c+(a[i]).toNat,by omega,by rw [Nat.mul_add,v3];omega,by omega,by rw [dif_pos c1,dif_neg c2];omega⟩
      · have c2:i < b.length:=by omega
        have d2:=lW hb.1 c2
        have n2:=aDr hb c2
        have v2:=gT c2
        have v1:=fG (l:=a) (k:=i) (by omega)
        have v3:=fG (l:=a) (k:=i+1) (by omega)
        refine ⟨c+(b[i]).toNat,by omega,by rw [Nat.mul_add,v3];omega,by omega,by rw [dif_neg c1,dif_pos c2];omega⟩
    rw [bF (aIk a b i c out x hx ho (by omega) (by omega) hc e3 ha.1 hb.1),ih (i+1) (x / BB) _ (by rw [dO];omega) (by omega) (by simp [ho])]
    rw [e1] at e2 ⊢
    rw [aIa e2];simp
theorem aHU (x y:Nat) (hx:(aA x).length≤1000) (hy:(aA y).length≤1000):wD (aA x) (aA y)=some (aA (x+y)):=by
  unfold wD
  have:=aLG (aA x) (aA y) (aLf x) (aLf y) hx hy _ 0 0 [] (by omega) (Nat.add_zero _) rfl
  rw [show ((0:Nat):Int)=0 from rfl,List.drop_zero,List.drop_zero,dG,dG,Nat.zero_add] at this
  rw [this];rfl
theorem aLh (x y:Nat) (hx:(aA x).length≤1000) (hy:(aA y).length≤1000):yK (aA x) (aA y)=some (aA (x+y)):=aHU x y hx hy
theorem aKK (a b:List Int) (ha:dgs a) (hb:dgs b) (hla:a.length≤1000) (hab:b.length≤a.length):∀ (m i c:Nat) (out:List Int),c≤1→m+i=a.length→out.length=i→dgs out→val (a.take i)+c*BB ^ i=val out+val (b.take i) →
    ∃ (c':Nat) (out':List Int),lp (mA a b) ((c:Int),(i:Int),out)=some out'∧lp (mO a b) ((c:Int),(i:Int),out++List.replicate m 0)=some out'∧dgs out'∧out'.length=a.length∧val a+c'*BB ^ a.length=val out'+val b:=by
  intro m
  induction m with
  | zero =>
    intro i c out hc hm ho hd hv
    have e:i=a.length:=by omega
    refine ⟨c,out,aN ?_,aN ?_,hd,by omega,?_⟩
    · unfold mA;simp only [];rw [if_neg (by omega)]
    · unfold mO;simp only [];rw [if_neg (by omega)];simp
    · rw [e,List.take_length,List.take_of_length_le hab] at hv;exact hv
  | succ m ih =>
    intro i c out hc hm ho hd hv
    have h1:i < a.length:=by omega
    have d1:=lW ha h1
    obtain ⟨bi,hb1,hb2,hb3⟩:∃ bi:Nat,bi < 1000000000∧val (b.take (i+1))=val (b.take i)+BB ^ i*bi∧(bi:Int)=(if h:i < b.length then b[i] else 0):=by
      by_cases c2:i < b.length
      · have d2:=lW hb c2
        exact ⟨(b[i]).toNat,by omega,oN c2,by rw [dif_pos c2];omega⟩
      · refine ⟨0,by omega,?_,by rw [dif_neg c2];rfl⟩
        rw [List.take_of_length_le (by omega),List.take_of_length_le (by omega)];simp
    obtain ⟨n,c',hn,hc',he⟩:∃ n c':Nat,n < 1000000000∧c'≤1∧a[i] - (c:Int) - (bi:Int)+c'*1000000000=(n:Int)∧(c'=1↔a[i] - (c:Int) - (bi:Int) < 0):=by
      by_cases g:a[i] - (c:Int) - (bi:Int) < 0
      · exact ⟨(a[i] - (c:Int) - (bi:Int)+1000000000).toNat,1,by omega,by omega,by omega,by simp [g]⟩
      · exact ⟨(a[i] - (c:Int) - (bi:Int)).toNat,0,by omega,by omega,by omega,by simp [g]⟩
    obtain ⟨he,hg⟩:=he
    have hs:(n:Int)=a[i] - c - bi+c'*1000000000:=by omega
    have s0:(((if ((i:Int) < (b.length:Int)) then (idx b (i:Int)).bind fun y16=>(aT (i64.wrap (i64.wrap (a[i] - c) - y16))).bind fun v17=>some v17 else some (i64.wrap (a[i] - c))):Option Int).bind (fun d19=>((if (d19 < 0) then (aT (i64.wrap (d19+1000000000))).bind fun v21=>some (1,v21) else some (0,d19)):Option (Int × Int))))=some ((c':Int),(n:Int)):=by
      rw [wi (by omega)]
      have fin:∀ z:Int,z=a[i] - c - bi→(if (z < 0) then (aT (i64.wrap (z+1000000000))).bind fun v21=>some ((1:Int),v21) else some (0,z))=some ((c':Int),(n:Int)):=by
        intro z hz
        by_cases g:z < 0
        · have e1:c'=1:=hg.2 (by omega)
          subst e1
          rw [if_pos g,aM,wi (by omega)];congr 2;omega
        · have e1:c'=0:=by
            have:¬c'=1:=fun h=>g (by have:=hg.1 h;omega)
            omega
          subst e1
          rw [if_neg g];congr 2;omega
      by_cases c2:i < b.length
      · rw [dif_pos c2] at hb3
        rw [if_pos (by omega),aH c2]
        simp only [Option.bind_some,aM]
        rw [wi (by omega)]
        exact fin _ (by omega)
      · rw [dif_neg c2] at hb3
        rw [if_neg (by omega)]
        simp only [Option.bind_some]
        exact fin _ (by omega)
    have s1:mA a b ((c:Int),(i:Int),out)=some (.inl ((c':Int),((i+1:Nat):Int),out++[(n:Int)])):=by
      unfold mA
      simp only []
      rw [if_pos (by omega),aH h1]
      simp only [Option.bind_some]
      rw [← Option.bind_assoc,s0]
      simp only [Option.bind_some]
      rw [aQ (by omega),wi (by omega)];rfl
    have s2:mO a b ((c:Int),(i:Int),out++List.replicate (m+1) 0)=some (.inl ((c':Int),((i+1:Nat):Int),(out++[(n:Int)])++List.replicate m 0)):=by
      unfold mO
      simp only []
      rw [if_pos (by omega),aH h1]
      simp only [Option.bind_some]
      rw [← Option.bind_assoc,s0]
      simp only [Option.bind_some]
      rw [aH (by simp;omega),wi (by omega)]
      simp only [Option.bind_some,aM,gI]
      congr 4
      rw [List.set_append_right _ _ (by omega),ho,Nat.sub_self,List.replicate_succ,List.set_cons_zero];simp
    rw [bF s1,bF s2]
    refine ih (i+1) c' _ hc' (by omega) (by simp [ho]) (by rw [aJW];exact ⟨hd,by intro z hz;simp at hz;omega⟩) ?_
    rw [oN h1,aGI,hb2,ho]
    have e:=congrArg (BB ^ i*·) (show (a[i]).toNat+c'*BB=n+bi+c by rw [dO];omega)
    simp only [Nat.mul_add] at e
    simp only [val,Int.toNat_natCast,Nat.mul_zero,Nat.add_zero]
    have e2:c'*BB ^ (i+1)=BB ^ i*(c'*BB):=by rw [Nat.pow_succ,Nat.mul_comm c',Nat.mul_assoc,Nat.mul_comm BB c']
    rw [e2]
    rw [Nat.mul_comm c] at hv
    omega
theorem aL5 {a b c' L:Nat} {out:List Int} (hd:dgs out) (hl:out.length=L) (h:a+c'*BB ^ L=val out+b) (hab:b≤a):val out=a - b:=by
  have:=aEq hd
  rw [hl] at this
  cases c' with
  | zero=>simp at h;omega
  | succ c =>
    rw [Nat.succ_mul] at h
    have:0≤c*BB ^ L:=Nat.zero_le _
    omega
theorem zB (x y:Nat) (hx:(aA x).length≤1000) (hyx:y≤x):pL (aA x) (aA y)=some (aA (x - y))∧qC (aA x) (aA y)=some (aA (x - y)):=by
  have hl:(aA y).length≤(aA x).length:=fE hyx (Nat.le_refl _)
  obtain ⟨c',out',e1,e2,e3,e4,e5⟩:=aKK (aA x) (aA y) (eB x) (eB y) hx hl (aA x).length 0 0 [] (by omega) (by omega) rfl aBw (by simp [val])
  rw [dG,dG] at e5
  have hv:=aL5 e3 e4 e5 hyx
  rw [show ((0:Nat):Int)=0 from rfl] at e1 e2
  rw [List.nil_append] at e2
  constructor
  · unfold pL
    rw [e1]
    simp only [Option.bind_some]
    rw [zV e3 (by omega),hv];rfl
  · unfold qC
    rw [aQ (by omega)]
    simp only [Option.bind_some,Int.toNat_natCast]
    rw [e2]
    simp only [Option.bind_some]
    rw [xF,zV e3 (by omega),hv];rfl
end Go.Ev
/- Naturals as limbs: products; both programs. -/
namespace Go.Ev
set_option linter.all false
theorem aHK (a b:List Int) (i:Nat) (hi:i < a.length):uD a b (i:Int)=hJ b (i:Int) a[i]:=by
  funext s
  obtain ⟨c,j,v⟩:=s
  unfold uD hJ
  simp only [aH hi,Option.bind_some,aM]
  split
  · cases idx v (IntKind.i64.wrap ((i:Int)+j)) with
    | none=>cases idx b j <;> rfl
    | some y =>
      cases idx b j with
      | none=>rfl
      | some z=>simp only [Option.bind_some];rw [Int.add_comm c]
  · rfl
theorem aKd (b:List Int) (i x:Nat) (hx:x < 1000000000) (hb:dgs b) (hlb:b.length≤1000) (hi:i≤1000):∀ (m j c:Nat) (v:List Int),m+j=b.length→c < 1000000000→dgs v→i+b.length≤v.length→v.length≤2000 →
    ∃ (c':Nat) (v':List Int),lp (hJ b (i:Int) (x:Int)) ((c:Int),(j:Int),v)=some ((c':Int),v')∧c' < 1000000000∧dgs v'∧v'.length=v.length∧v'.drop (i+b.length)=v.drop (i+b.length) ∧
      val v'+c'*BB ^ (i+b.length)+x*BB ^ i*val (b.take j)=val v+c*BB ^ (i+j)+x*BB ^ i*val b:=by
  intro m
  induction m with
  | zero =>
    intro j c v hm hc hv hl hl2
    have e:j=b.length:=by omega
    subst e
    refine ⟨c,v,aN ?_,hc,hv,rfl,rfl,?_⟩
    · unfold hJ;simp only [];rw [if_neg (by omega)]
    · rw [List.take_length]
  | succ m ih =>
    intro j c v hm hc hv hl hl2
    have h1:j < b.length:=by omega
    have h2:i+j < v.length:=by omega
    have d1:=lW hb h1
    have d2:=lW hv h2
    obtain ⟨y,hy⟩:∃ y:Nat,b[j]=(y:Int):=⟨(b[j]).toNat,by omega⟩
    obtain ⟨z,hz⟩:∃ z:Nat,v[i+j]=(z:Int):=⟨(v[i+j]).toNat,by omega⟩
    have hxy:x*y≤999999999*999999999:=Nat.mul_le_mul (by omega) (by omega)
    have hxy0:((x:Int)*(y:Int))=((x*y:Nat):Int):=by push_cast;rfl
    have s1:hJ b (i:Int) (x:Int) ((c:Int),(j:Int),v)=some (.inl ((((z+x*y+c) / BB:Nat):Int),((j+1:Nat):Int),v.set (i+j) (((z+x*y+c) % BB:Nat):Int))):=by
      unfold hJ
      simp only []
      rw [if_pos (by omega),aH h1,wi (by omega),show (i:Int)+(j:Int)=((i+j:Nat):Int) by omega,aH h2]
      simp only [Option.bind_some,aM,gI,hy,hz,hxy0]
      rw [wi (n:=((x*y:Nat):Int)) (by omega),wi (n:=(z:Int)+_) (by omega),wi (n:=(z:Int)+_+_) (by omega),show (z:Int)+((x*y:Nat):Int)+(c:Int)=((z+x*y+c:Nat):Int) by omega,aEu,aEv,wi (by rw [dO];omega),wi (by omega)]
      rfl
    have hm1:=Nat.mod_lt (z+x*y+c) uO
    have hm2:=Nat.mod_add_div (z+x*y+c) BB
    obtain ⟨c',v',e1,e2,e3,e4,e5,e6⟩:=ih (j+1) ((z+x*y+c) / BB) (v.set (i+j) (((z+x*y+c) % BB:Nat):Int)) (by omega) (by rw [dO];omega) (aCR hv _ _ (by rw [dO] at hm1 ⊢;omega)) (by simpa using hl) (by simpa using hl2)
    refine ⟨c',v',by rw [bF s1];exact e1,e2,e3,by simpa using e4,?_,?_⟩
    · rw [e5,List.drop_set_of_lt (by omega)]
    · have hs:=aGH (l:=v) (x:=(((z+x*y+c) % BB:Nat):Int)) h2
      rw [hz] at hs
      simp only [Int.toNat_natCast] at hs
      rw [oN h1,hy,Int.toNat_natCast] at e6
      have f1:x*BB ^ i*(val (b.take j)+BB ^ j*y)=x*BB ^ i*val (b.take j)+BB ^ (i+j)*(x*y):=by
        rw [Nat.mul_add,Nat.pow_add]
        congr 1
        rw [Nat.mul_assoc x,Nat.mul_assoc (BB ^ i),Nat.mul_left_comm x,Nat.mul_left_comm x]
      rw [f1] at e6
      have f2:(z+x*y+c) / BB*BB ^ (i+(j+1))=BB ^ (i+j)*(BB*((z+x*y+c) / BB)):=by
        rw [← Nat.add_assoc,Nat.pow_succ,Nat.mul_comm ((z+x*y+c) / BB),Nat.mul_assoc]
      rw [f2] at e6
      have f3:=congrArg (BB ^ (i+j)*·) hm2
      simp only [Nat.mul_add] at f3
      rw [Nat.mul_comm c]
      omega
theorem xB {l:List Int} {k:Nat} {x:Int}:(l.set k x).drop (k+1)=l.drop (k+1):=by rw [List.drop_set_of_lt (by omega)]
theorem aKc (a b:List Int) (ha:dgs a) (hb:dgs b) (hla:a.length≤900) (hlb:b.length≤900):∀ (m i:Nat) (v:List Int),m+i=a.length→v.length=a.length+b.length→dgs v→v.drop (i+b.length)=List.replicate m 0→val v=val (a.take i)*val b →
    ∃ v':List Int,lp (mB a b) ((i:Int),v)=some v'∧lp (mP a b) ((i:Int),v)=some v'∧dgs v'∧v'.length=a.length+b.length∧val v'=val a*val b:=by
  intro m
  induction m with
  | zero =>
    intro i v hm hl hv hz he
    have e:i=a.length:=by omega
    subst e
    rw [List.take_length] at he
    refine ⟨v,aN ?_,aN ?_,hv,hl,he⟩
    · unfold mB;simp only [];rw [if_neg (by omega)]
    · unfold mP;simp only [];rw [if_neg (by omega)]
  | succ m ih =>
    intro i v hm hl hv hz he
    have h1:i < a.length:=by omega
    have d1:=lW ha h1
    obtain ⟨x,hx⟩:∃ x:Nat,a[i]=(x:Int):=⟨(a[i]).toNat,by omega⟩
    obtain ⟨c',v',e1,e2,e3,e4,e5,e6⟩:=aKd b i x (by omega) hb (by omega) (by omega) b.length 0 0 v (by omega) (by omega) hv (by omega) (by omega)
    rw [show ((0:Nat):Int)=0 from rfl] at e1
    have h2:i+b.length < v'.length:=by omega
    have hzero:v'[i+b.length]=0:=by
      have q:(v'.drop (i+b.length))[0]?=some 0:=by rw [e5,hz];simp [List.replicate_succ]
      rw [List.getElem?_drop,Nat.add_zero,List.getElem?_eq_getElem h2] at q
      exact Option.some.inj q
    have s1:mB a b ((i:Int),v)=some (.inl (((i+1:Nat):Int),v'.set (i+b.length) (c':Int))):=by
      unfold mB
      simp only []
      rw [if_pos (by omega),aH h1,hx]
      simp only [Option.bind_some]
      rw [e1]
      simp only [Option.bind_some,aM]
      rw [wi (by omega),show (i:Int)+(b.length:Int)=((i+b.length:Nat):Int) by omega,aH h2]
      simp only [Option.bind_some,gI]
      rw [wi (by omega)];rfl
    have s2:mP a b ((i:Int),v)=some (.inl (((i+1:Nat):Int),v'.set (i+b.length) (c':Int))):=by
      unfold mP
      simp only []
      rw [if_pos (by omega),aHK a b i h1,hx,e1]
      simp only [Option.bind_some,aM]
      rw [wi (by omega),show (i:Int)+(b.length:Int)=((i+b.length:Nat):Int) by omega,aH h2]
      simp only [Option.bind_some,gI]
      rw [wi (by omega)];rfl
    rw [bF s1,bF s2]
    refine ih (i+1) _ (by omega) (by rw [List.length_set];omega) (aCR e3 _ _ (by omega)) ?_ ?_
    · rw [show i+1+b.length=(i+b.length)+1 by omega,xB,← List.drop_drop,e5,hz,List.replicate_succ];simp
    · have hs:=aGH (l:=v') (x:=(c':Int)) h2
      rw [hzero] at hs
      simp only [Int.toNat_natCast,Int.toNat_zero,Nat.mul_zero,Nat.add_zero] at hs
      rw [List.take_zero] at e6
      simp only [val,Nat.mul_zero,Nat.zero_mul,Nat.add_zero] at e6
      rw [oN h1,hx,Int.toNat_natCast,Nat.add_mul,← he,hs,Nat.mul_comm (BB ^ (i+b.length)),e6,Nat.mul_comm x]
theorem oD (x y:Nat) (hx:(aA x).length≤900) (hy:(aA y).length≤900):dD (aA x) (aA y)=some (aA (x*y))∧tE (aA x) (aA y)=some (aA (x*y)):=by
  unfold dD tE
  by_cases c1:(aA x).length=0
  · have:x=0:=aFv.1 (List.length_eq_zero_iff.1 c1)
    subst this
    rw [if_pos (by omega)]
    simp [bH]
  · rw [if_neg (by omega)]
    by_cases c2:(aA y).length=0
    · have:y=0:=aFv.1 (List.length_eq_zero_iff.1 c2)
      subst this
      simp [bH]
    · have n2:¬(((aA y).length:Int)=0):=by omega
      simp only [n2,decide_false,Option.bind_some,Bool.false_eq_true,if_false,aM]
      rw [wi (by omega),show ((aA x).length:Int)+((aA y).length:Int)=(((aA x).length+(aA y).length:Nat):Int) by omega,aQ (by omega)]
      simp only [Option.bind_some,Int.toNat_natCast]
      obtain ⟨v',e1,e2,e3,e4,e5⟩:=aKc (aA x) (aA y) (eB x) (eB y) hx hy (aA x).length 0 (List.replicate ((aA x).length+(aA y).length) 0) (by omega) (by simp) (aEl _) (by simp) (by simp [aLW,val])
      rw [show ((0:Nat):Int)=0 from rfl] at e1 e2
      rw [dG,dG] at e5
      rw [e1,e2]
      simp only [Option.bind_some]
      rw [xF,zV e3 (by omega),e5]
      exact ⟨rfl,rfl⟩
end Go.Ev
/- Naturals as limbs: quotients; both programs. -/
namespace Go.Ev
set_option linter.all false
theorem aMo (x y:Nat):(aA (x / y)).length≤(aA x).length:=fE (Nat.div_le_self x y) (Nat.le_refl _)
theorem aJH (x:Nat) {y:Nat} (h:0 < y):(aA (x % y)).length≤(aA y).length:=fE (Nat.le_of_lt (Nat.mod_lt x h)) (Nat.le_refl _)
theorem aHv (x y:Nat):((x:Int)).tdiv (y:Int)=((x / y:Nat):Int):=by
  rw [Int.tdiv_eq_ediv_of_nonneg (by omega)];rfl
theorem aIy (x y:Nat):((x:Int)).tmod (y:Int)=((x % y:Nat):Int):=by
  rw [Int.tmod_eq_emod_of_nonneg (by omega)];rfl
theorem aMH (r:Nat):(r:Int)*1000000000=((r*BB:Nat):Int):=by rw [Int.natCast_mul];rfl
theorem aIA (a:List Int) (d:Nat) (hd:0 < d∧d < 1000000000) (ha:dgs a) (hla:a.length≤1000):∀ (k r:Nat) (v:List Int),k≤a.length→r < d→dgs v→v.length=a.length→val (a.drop k)=d*val (v.drop k)+r→v.take k=List.replicate k 0 →
    ∃ (r':Nat) (v':List Int),lp (jL a (d:Int)) ((r:Int),(k:Int) - 1,v)=some ((r':Int),v')∧r' < d∧dgs v'∧v'.length=a.length∧val a=d*val v'+r':=by
  intro k
  induction k with
  | zero =>
    intro r v hk hr hv hl he ht
    refine ⟨r,v,aN ?_,hr,hv,hl,by simpa using he⟩
    unfold jL;simp only [];rw [if_neg (by omega)]
  | succ k ih =>
    intro r v hk hr hv hl he ht
    have h1:k < a.length:=by omega
    have h2:k < v.length:=by omega
    have d1:=lW ha h1
    obtain ⟨x,hx⟩:∃ x:Nat,a[k]=(x:Int):=⟨(a[k]).toNat,by omega⟩
    have hn:r*BB+x < d*BB:=by
      have:(r+1)*BB≤d*BB:=Nat.mul_le_mul_right _ hr
      rw [Nat.succ_mul] at this
      have:x < BB:=by rw [dO];omega
      omega
    have hq:(r*BB+x) / d < BB:=by rw [Nat.div_lt_iff_lt_mul hd.1,Nat.mul_comm BB];exact hn
    have hm:=Nat.mod_lt (r*BB+x) hd.1
    have hmd:=Nat.mod_add_div (r*BB+x) d
    have hrB:r*BB≤999999999*1000000000:=Nat.mul_le_mul (by omega) (by rw [dO];omega)
    have t1:=aHv (r*BB+x) d
    have t2:=aIy (r*BB+x) d
    generalize (r*BB+x) / d=Q at hq hmd t1
    generalize (r*BB+x) % d=R at hm hmd t2
    rw [dO] at hq
    have s1:jL a (d:Int) ((r:Int),((k+1:Nat):Int) - 1,v)=some (.inl ((R:Int),(k:Int) - 1,v.set k (Q:Int))):=by
      unfold jL
      simp only []
      rw [show ((k+1:Nat):Int) - 1=(k:Int) by omega,if_pos (by omega),aH h1,hx,aH h2]
      simp only [Option.bind_some,aM,gI]
      rw [aMH,wi (n:=((r*BB:Nat):Int)) (by omega),show ((r*BB:Nat):Int)+(x:Int)=((r*BB+x:Nat):Int) by omega,aQ (by omega),wi (n:=((r*BB+x:Nat):Int)) (by omega),t1,t2]
      simp only [Option.bind_some]
      rw [wi (by omega),wi (by omega)]
    obtain ⟨r',v',e1,e2,e3,e4,e5⟩:=ih R (v.set k (Q:Int)) (by omega) hm (aCR hv _ _ (by omega)) (by simpa using hl) (by
        rw [gT h1,gT (l:=v.set k _) (by simpa using h2),List.getElem_set_self,xB,he,hx,Int.toNat_natCast,Int.toNat_natCast]
        rw [Nat.mul_add,Nat.mul_add d,← Nat.mul_assoc BB d,← Nat.mul_assoc d BB,Nat.mul_comm BB d]
        rw [Nat.mul_comm BB r]
        omega) (by
        rw [List.take_set_of_le (by omega)]
        have:=congrArg (List.take k) ht
        rw [List.take_take,Nat.min_eq_left (by omega),List.take_replicate,Nat.min_eq_left (by omega)] at this
        exact this)
    exact ⟨r',v',by rw [bF s1];exact e1,e2,e3,e4,e5⟩
theorem aCh {a b q r:Nat} (hb:r < b) (h:a=b*q+r):q=a / b∧r=a % b:=by
  subst h
  constructor
  · rw [Nat.mul_comm,Nat.add_comm,Nat.add_mul_div_right _ _ (by omega),Nat.div_eq_of_lt hb,Nat.zero_add]
  · rw [Nat.add_comm,Nat.add_mul_mod_self_left,Nat.mod_eq_of_lt hb]
theorem aIV (x d:Nat) (hd:0 < d∧d < 1000000000) (hx:(aA x).length≤1000):rH (aA x) (d:Int)=some (aA (x / d),((x % d:Nat):Int)):=by
  obtain ⟨r',v',e1,e2,e3,e4,e5⟩:=aIA (aA x) d hd (eB x) hx (aA x).length 0 (List.replicate (aA x).length 0) (Nat.le_refl _) hd.1 (aEl _) (by simp) (by rw [fG (Nat.le_refl _),fG (by simp)];rfl) (by simp)
  rw [dG] at e5
  obtain ⟨q1,q2⟩:=aCh e2 e5
  unfold rH
  rw [aQ (by omega)]
  simp only [Option.bind_some,aM,Int.toNat_natCast]
  rw [show ((0:Nat):Int)=0 from rfl] at e1
  rw [wi (by omega),e1]
  simp only [Option.bind_some]
  rw [zV e3 (by omega),q1,q2];rfl
theorem aI8 (r b:Nat) (hb:0 < b) (hlr:(aA r).length≤800) (hlb:(aA b).length≤800):∀ (m lo hi:Nat),hi - lo≤m→lo≤r / b→r / b≤hi→hi≤999999999→lp (eG (aA r) (aA b)) ((lo:Int),(hi:Int))=some ((r / b:Nat):Int):=by
  intro m
  induction m with
  | zero =>
    intro lo hi h1 h2 h3 h4
    have:lo=r / b:=by omega
    subst this
    refine aN ?_
    unfold eG;simp only [];rw [if_neg (by omega)]
  | succ m ih =>
    intro lo hi h1 h2 h3 h4
    by_cases c:lo < hi
    · have hq:((lo:Int)+(hi:Int)+1).tdiv 2=(((lo+hi+1) / 2:Nat):Int):=by
        rw [show (lo:Int)+(hi:Int)+1=((lo+hi+1:Nat):Int) by omega,show (2:Int)=((2:Nat):Int) from rfl,aHv]
      obtain ⟨q,hqe⟩:∃ q,q=(lo+hi+1) / 2:=⟨_,rfl⟩
      have hlq:(aA q).length≤1:=jK (by rw [dO];omega)
      have hlm:(aA (b*q)).length≤900:=by have:=eF b q;omega
      have hc:sJ (b*q) r≤0↔q≤r / b:=by
        rw [Nat.le_div_iff_mul_le hb,Nat.mul_comm q b]
        unfold sJ
        by_cases c1:b*q < r
        · rw [if_pos c1];constructor <;> intro _ <;> omega
        · rw [if_neg c1]
          by_cases c2:r < b*q
          · rw [if_pos c2];constructor <;> intro _ <;> omega
          · rw [if_neg c2];constructor <;> intro _ <;> omega
      by_cases c2:q≤r / b
      · have s1:eG (aA r) (aA b) ((lo:Int),(hi:Int))=some (.inl ((q:Int),(hi:Int))):=by
          unfold eG
          simp only [aM]
          rw [if_pos (by omega),wi (n:=(lo:Int)+hi) (by omega),wi (n:=(lo:Int)+hi+1) (by omega),hq,← hqe,wi (by omega),aAu _ (by omega)]
          simp only [Option.bind_some]
          rw [(oD b q (by omega) (by omega)).1]
          simp only [Option.bind_some]
          rw [aA8 _ _ (by omega) (by omega)]
          simp only [Option.bind_some]
          rw [if_pos (hc.2 c2)]
        rw [bF s1]
        exact ih q hi (by omega) c2 h3 h4
      · have s1:eG (aA r) (aA b) ((lo:Int),(hi:Int))=some (.inl ((lo:Int),((q - 1:Nat):Int))):=by
          unfold eG
          simp only [aM]
          rw [if_pos (by omega),wi (n:=(lo:Int)+hi) (by omega),wi (n:=(lo:Int)+hi+1) (by omega),hq,← hqe,wi (n:=(q:Int)) (by omega),aAu _ (by omega)]
          simp only [Option.bind_some]
          rw [(oD b q (by omega) (by omega)).1]
          simp only [Option.bind_some]
          rw [aA8 _ _ (by omega) (by omega)]
          simp only [Option.bind_some]
          rw [if_neg (fun h=>c2 (hc.1 h)),wi (by omega),show (q:Int) - 1=((q - 1:Nat):Int) by omega]
        rw [bF s1]
        exact ih lo (q - 1) (by omega) h2 (by omega) (by omega)
    · have:lo=r / b:=by omega
      subst this
      refine aN ?_
      unfold eG;simp only [];rw [if_neg (by omega)]
theorem aIW (r b:Nat) (hb:0 < b) (hlr:(aA r).length≤800) (hlb:(aA b).length≤800) (h:r / b≤999999999):rI (aA r) (aA b)=some ((r / b:Nat):Int):=by
  unfold rI
  have:=aI8 r b hb hlr hlb 999999999 0 999999999 (by omega) (Nat.zero_le _) h (Nat.le_refl _)
  rw [show ((0:Nat):Int)=0 from rfl,show ((999999999:Nat):Int)=999999999 from rfl] at this
  rw [this];rfl
end Go.Ev
/- Naturals as limbs: quotients of any length; both programs. -/
namespace Go.Ev
set_option linter.all false
theorem aDB {d:Nat} (h:d < BB):(aA d).length≤1:=jK (by simpa using h)
theorem aFn (x R:Nat) (hx:x < 1000000000) (hl:(aA R).length≤4000):cR ([(x:Int)]++aA R)=some (aA (x+BB*R)):=by
  rw [zV (by rw [aJW];exact ⟨by intro z hz;simp at hz;omega,eB R⟩) (by simp;omega)]
  rw [List.singleton_append,val,dG,Int.toNat_natCast]
theorem aHB {R b:Nat} (h:R < b*BB):(aA R).length≤(aA b).length+2:=by
  have h1:=eF b BB
  have h2:(aA BB).length≤2:=jK (by rw [dO];omega)
  have h3:=fE (Nat.le_of_lt h) (Nat.le_refl _)
  omega
theorem aJz {x R b:Nat} (hx:x < 1000000000) (hR:R < b):x+BB*R < b*BB:=by
  have:(R+1)*BB≤b*BB:=Nat.mul_le_mul_right _ hR
  rw [Nat.succ_mul,Nat.mul_comm R] at this
  have:x < BB:=by rw [dO];omega
  omega
theorem aG0 {R b:Nat} (hb:0 < b) (h:R < b*BB):R / b < BB:=by rw [Nat.div_lt_iff_lt_mul hb,Nat.mul_comm BB];exact h
theorem aLx (a:List Int) (b:Nat) (hb:0 < b) (hlb:(aA b).length≤700) (ha:dgs a) (hla:a.length≤1000):∀ (k R:Nat) (v:List Int),k≤a.length→R < b→dgs v→v.length=a.length→val (a.drop k)=b*val (v.drop k)+R→v.take k=List.replicate k 0 →
    ∃ (R':Nat) (v':List Int),lp (mC a (aA b)) (aA R,(k:Int) - 1,v)=some (aA R',v')∧R' < b∧dgs v'∧v'.length=a.length∧val a=b*val v'+R':=by
  intro k
  induction k with
  | zero =>
    intro R v hk hr hv hl he ht
    refine ⟨R,v,aN ?_,hr,hv,hl,by simpa using he⟩
    unfold mC;simp only [];rw [if_neg (by omega)]
  | succ k ih =>
    intro R v hk hr hv hl he ht
    have h1:k < a.length:=by omega
    have h2:k < v.length:=by omega
    have d1:=lW ha h1
    obtain ⟨x,hx⟩:∃ x:Nat,a[k]=(x:Int):=⟨(a[k]).toNat,by omega⟩
    have hx2:x < 1000000000:=by omega
    have hn:=aJz hx2 hr
    have hq:=aG0 hb hn
    have hm:=Nat.mod_lt (x+BB*R) hb
    have hmd:=Nat.mod_add_div (x+BB*R) b
    have hlR:(aA R).length≤(aA b).length:=fE (Nat.le_of_lt hr) (Nat.le_refl _)
    have hlR2:=aHB hn
    have hv0:v[k]=0:=by
      have q:(v.take (k+1))[k]?=some 0:=by rw [ht];simp
      rw [List.getElem?_take_of_lt (by omega),List.getElem?_eq_getElem h2] at q
      exact Option.some.inj q
    obtain ⟨Q,hQ⟩:∃ Q,Q=(x+BB*R) / b:=⟨_,rfl⟩
    obtain ⟨M,hM⟩:∃ M,M=(x+BB*R) % b:=⟨_,rfl⟩
    have hq':(x+BB*R) / b < 1000000000:=Nat.lt_of_lt_of_eq hq dO
    have hq2:Q < 1000000000:=by rw [hQ];exact hq'
    have s1:mC a (aA b) (aA R,((k+1:Nat):Int) - 1,v)=some (.inl (aA M,(k:Int) - 1,v.set k (Q:Int))):=by
      unfold mC
      simp only []
      rw [show ((k+1:Nat):Int) - 1=(k:Int) by omega,if_pos (by omega),aH h1,hx,aH h2]
      simp only [Option.bind_some,aM,gI]
      rw [aQ (by simp;omega)]
      simp only [Option.bind_some]
      rw [aFn x R hx2 (by omega)]
      simp only [Option.bind_some]
      rw [aA8 _ _ (by omega) (by omega)]
      simp only [Option.bind_some]
      by_cases c:x+BB*R < b
      · have e1:Q=0:=by rw [hQ,Nat.div_eq_of_lt c]
        have e2:M=x+BB*R:=by rw [hM,Nat.mod_eq_of_lt c]
        have e3:v.set k ((0:Nat):Int)=v:=by
          apply List.ext_getElem
          · simp
          · intro i q1 q2
            rw [List.getElem_set]
            split
            · rename_i h;subst h;exact hv0.symm
            · rfl
        rw [e1,e2,e3,if_pos (by unfold sJ;rw [if_pos c];omega),wi (by omega)]
      · have hcm:¬sJ (x+BB*R) b < 0:=by
          unfold sJ;rw [if_neg c];split <;> omega
        rw [if_neg hcm,aIW _ b hb (by omega) (by omega) (by omega)]
        simp only [Option.bind_some]
        rw [← hQ,aAu _ (by omega)]
        simp only [Option.bind_some]
        have hl1:(aA Q).length≤1:=aDB (by rw [dO];omega)
        rw [(oD b Q (by omega) (by omega)).1]
        simp only [Option.bind_some]
        rw [← hM,← hQ] at hmd
        rw [(zB (x+BB*R) (b*Q) (by omega) (by omega)).1]
        simp only [Option.bind_some]
        rw [show x+BB*R - b*Q=M by omega,wi (by omega)]
    obtain ⟨R',v',e1,e2,e3,e4,e5⟩:=ih M (v.set k (Q:Int)) (by omega) (by rw [hM];exact hm) (aCR hv _ _ (by omega)) (by simpa using hl) (by
        rw [gT h1,gT (l:=v.set k _) (by simpa using h2),List.getElem_set_self,xB,he,hx,Int.toNat_natCast,Int.toNat_natCast]
        rw [Nat.mul_add,Nat.mul_add b,← Nat.mul_assoc BB b,← Nat.mul_assoc b BB,Nat.mul_comm BB b]
        rw [← hM,← hQ] at hmd
        omega) (by
        rw [List.take_set_of_le (by omega)]
        have:=congrArg (List.take k) ht
        rw [List.take_take,Nat.min_eq_left (by omega),List.take_replicate,Nat.min_eq_left (by omega)] at this
        exact this)
    exact ⟨R',v',by rw [bF s1];exact e1,e2,e3,e4,e5⟩
theorem aFh (x b:Nat) (hb:0 < b) (hx:(aA x).length≤700) (hlb:(aA b).length≤700):kP (aA x) (aA b)=some (aA (x / b),aA (x % b)):=by
  unfold kP
  by_cases c:(aA b).length=1
  · rw [if_pos (by omega)]
    have hbB:b < BB:=by have:=oU b;rw [c,Nat.pow_one] at this;exact this
    have e:=uK hbB (by omega)
    rw [show (0:Int)=((0:Nat):Int) from rfl,aH (by omega)]
    simp only [e,List.getElem_cons_zero,Option.bind_some]
    rw [dO] at hbB
    rw [aIV x b ⟨hb,by omega⟩ (by omega)]
    simp only [Option.bind_some]
    have:=Nat.mod_lt x hb
    rw [aAu _ (by omega)];rfl
  · rw [if_neg (by omega),aQ (by omega)]
    simp only [Option.bind_some,aM,Int.toNat_natCast]
    obtain ⟨r',v',e1,e2,e3,e4,e5⟩:=aLx (aA x) b hb hlb (eB x) (by omega) (aA x).length 0 (List.replicate (aA x).length 0) (Nat.le_refl _) hb (aEl _) (by simp) (by rw [fG (Nat.le_refl _),fG (by simp)];rfl) (by simp)
    rw [dG] at e5
    rw [bH] at e1
    obtain ⟨q1,q2⟩:=aCh e2 e5
    rw [wi (by omega),e1]
    simp only [Option.bind_some]
    rw [zV e3 (by omega),q1,q2];rfl
theorem aMj (R b:Nat) (hb:0 < b) (hR:b≤R) (h:R < b*BB) (hlb:(aA b).length≤700):∃ g:Nat,sB (aA R) (aA b)=some (g:Int)∧1≤g∧b*g≤R:=by
  obtain ⟨m,hm⟩:∃ m,(aA b).length=m+1:=by
    have:(aA b).length≠0:=fun e=>dZ (n:=b) (by omega) (List.length_eq_zero_iff.1 e)
    exact ⟨(aA b).length - 1,by omega⟩
  have hbl:=oU b
  rw [hm,Nat.pow_succ] at hbl
  have hr1:m+1≤(aA R).length:=by rw [← hm];exact fE hR (Nat.le_refl _)
  have hRl:R < BB ^ m*BB*BB:=Nat.lt_of_lt_of_le h (Nat.mul_le_mul_right _ (Nat.le_of_lt hbl))
  have hr2:(aA R).length≤m+2:=jK (by rw [Nat.pow_succ,Nat.pow_succ];exact hRl)
  have hp:=aK5 m
  have hbt:b / BB ^ m < BB:=by rw [Nat.div_lt_iff_lt_mul hp,Nat.mul_comm BB];exact hbl
  have hT:R / BB ^ m < BB*BB:=by rw [Nat.div_lt_iff_lt_mul hp,Nat.mul_comm (BB*BB),← Nat.mul_assoc];exact hRl
  have hbd:b < BB ^ m*(b / BB ^ m+1):=Nat.lt_mul_div_succ b hp
  have hTd:BB ^ m*(R / BB ^ m)≤R:=Nat.mul_div_le R _
  have hi1:m < (aA R).length:=by omega
  have hi2:m < (aA b).length:=by omega
  have g1:=aBg hi1
  have g2:=aBg hi2
  rw [Nat.mod_eq_of_lt hbt] at g2
  unfold sB
  simp only [aM]
  rw [hm,wi (by omega),show (((m+1:Nat):Int) - 1)=(m:Int) by omega,aH hi1,aH hi2,g1,g2]
  simp only [Option.bind_some]
  have top:((if (((m+1:Nat):Int) < ((aA R).length:Int)) then (idx (aA R) ((m+1:Nat):Int)).bind fun y3=>some (IntKind.i64.wrap (((R / BB ^ m % BB:Nat):Int)+IntKind.i64.wrap (y3*1000000000))) else some ((R / BB ^ m % BB:Nat):Int)):Option Int)=some ((R / BB ^ m:Nat):Int):=by
    have hmod:=Nat.mod_add_div (R / BB ^ m) BB
    by_cases c:m+1 < (aA R).length
    · have g3:=aBg c
      rw [Nat.pow_succ,← Nat.div_div_eq_div_mul] at g3
      have h3:R / BB ^ m / BB < BB:=by rw [Nat.div_lt_iff_lt_mul uO];exact hT
      rw [Nat.mod_eq_of_lt h3] at g3
      rw [if_pos (by omega),aH c,g3]
      simp only [Option.bind_some]
      generalize R / BB ^ m=T at hT hmod h3 ⊢
      have h4:T % BB < BB:=Nat.mod_lt _ uO
      generalize T % BB=T0 at hmod h4 ⊢
      generalize T / BB=T1 at hmod h3 ⊢
      rw [aMH,Nat.mul_comm T1]
      rw [dO] at hT
      rw [wi (n:=((BB*T1:Nat):Int)) (by omega),wi (by omega)];congr 1;omega
    · have e:(aA R).length=m+1:=by omega
      have h3:R / BB ^ m < BB:=by
        rw [Nat.div_lt_iff_lt_mul hp,Nat.mul_comm BB,← Nat.pow_succ]
        have:=oU R
        rwa [e] at this
      rw [if_neg (by omega),Nat.mod_eq_of_lt h3]
  rw [top]
  simp only [Option.bind_some]
  by_cases c:m=0
  · subst c
    rw [if_pos (by omega),show (0:Int)=((0:Nat):Int) from rfl,aH hi2,g2]
    simp only [Nat.pow_zero,Nat.div_one,Option.bind_some]
    rw [aQ (by omega),aHv]
    have hq:=aG0 hb h
    rw [dO] at hq
    generalize hQ:R / b=Q at hq
    refine ⟨Q,by simp only [Option.bind_some];rw [wi (by omega)],?_,?_⟩
    · rw [← hQ,Nat.le_div_iff_mul_le hb];omega
    · rw [← hQ];exact Nat.mul_div_le R b
  · rw [if_neg (by omega)]
    generalize b / BB ^ m=t at hbt hbd ⊢
    generalize R / BB ^ m=T at hT hTd ⊢
    rw [dO] at hbt
    rw [wi (n:=(t:Int)+1) (by omega),aQ (by omega),show (t:Int)+1=((t+1:Nat):Int) by omega,aHv]
    have hg:=Nat.div_mul_le_self T (t+1)
    have hgT:T / (t+1)≤T:=Nat.div_le_self _ _
    generalize T / (t+1)=G at hg hgT ⊢
    rw [dO] at hT
    simp only [Option.bind_some]
    rw [wi (by omega)]
    by_cases c2:G=0
    · subst c2
      exact ⟨1,by rw [if_pos (by omega)];rfl,Nat.le_refl _,by omega⟩
    · refine ⟨G,by rw [if_neg (by omega)],by omega,?_⟩
      have e1:G*b≤G*(BB ^ m*(t+1)):=Nat.mul_le_mul_left _ (Nat.le_of_lt hbd)
      have e2:BB ^ m*(G*(t+1))≤BB ^ m*T:=Nat.mul_le_mul_left _ hg
      rw [Nat.mul_left_comm] at e2
      rw [Nat.mul_comm b];omega
theorem aI7 (b:Nat) (hb:0 < b) (hlb:(aA b).length≤700) (k:Nat):∀ (R q0:Nat) (v:List Int),R < b*BB→k < v.length→v[k]?=some (q0:Int)→q0+R / b≤999999999 →
    lp (mR (aA b) (k:Int)) (aA R,v)=some (aA (R % b),v.set k ((q0+R / b:Nat):Int)):=by
  intro R
  induction R using Nat.strongRecOn with
  | _ R ih =>
    intro q0 v hR hk hv hq
    have hl:=aHB hR
    by_cases c:R < b
    · rw [Nat.div_eq_of_lt c,Nat.mod_eq_of_lt c,Nat.add_zero]
      have:v.set k (q0:Int)=v:=by
        apply List.ext_getElem
        · simp
        · intro i p1 p2
          rw [List.getElem_set]
          split
          · rename_i h;subst h
            rw [List.getElem?_eq_getElem hk] at hv;exact (Option.some.inj hv).symm
          · rfl
      rw [this]
      refine aN ?_
      unfold mR
      simp only []
      rw [aEY _ _ (by omega) (by omega)]
      simp only [Option.bind_some]
      rw [if_neg (by unfold sJ;rw [if_pos c];omega)]
    · obtain ⟨g,e1,e2,e3⟩:=aMj R b hb (by omega) hR hlb
      have hgq:g≤R / b:=by rw [Nat.le_div_iff_mul_le hb,Nat.mul_comm];exact e3
      have hdiv:(R - b*g) / b=R / b - g:=by rw [Nat.sub_mul_div]
      have hmod:(R - b*g) % b=R % b:=Nat.sub_mul_mod (by omega)
      have hbg:b≤b*g:=Nat.le_mul_of_pos_right _ e2
      generalize R / b=Q at hq hgq hdiv ⊢
      have hd:([(g:Int)]:List Int)=aA g:=(uK (by rw [dO];omega) (by omega)).symm
      have hl1:(aA g).length≤1:=aDB (by rw [dO];omega)
      have s1:mR (aA b) (k:Int) (aA R,v)=some (.inl (aA (R - b*g),v.set k ((q0+g:Nat):Int))):=by
        unfold mR
        simp only []
        rw [aEY _ _ (by omega) (by omega)]
        simp only [Option.bind_some]
        rw [if_pos (by unfold sJ;rw [if_neg c];split <;> omega),e1]
        simp only [Option.bind_some]
        rw [hd,(oD b g (by omega) (by omega)).2]
        simp only [Option.bind_some]
        rw [(zB R (b*g) (by omega) e3).2]
        simp only [Option.bind_some]
        rw [aCO,hv]
        simp only [Option.bind_some,aM,gI]
        rw [wi (by omega)];rfl
      rw [bF s1,ih (R - b*g) (by omega) (q0+g) _ (by omega) (by simpa using hk) (by rw [List.getElem?_set_self hk]) (by rw [hdiv];omega),hmod,hdiv,List.set_set]
      congr 3;congr 1;omega
theorem aKy (a:List Int) (b:Nat) (hb:0 < b) (hlb:(aA b).length≤700) (ha:dgs a) (hla:a.length≤1000):∀ (k R:Nat) (v:List Int),k≤a.length→R < b→dgs v→v.length=a.length→val (a.drop k)=b*val (v.drop k)+R→v.take k=List.replicate k 0 →
    ∃ (R':Nat) (v':List Int),lp (mQ a (aA b)) (aA R,(k:Int) - 1,v)=some (aA R',v')∧R' < b∧dgs v'∧v'.length=a.length∧val a=b*val v'+R':=by
  intro k
  induction k with
  | zero =>
    intro R v hk hr hv hl he ht
    refine ⟨R,v,aN ?_,hr,hv,hl,by simpa using he⟩
    unfold mQ;simp only [];rw [if_neg (by omega)]
  | succ k ih =>
    intro R v hk hr hv hl he ht
    have h1:k < a.length:=by omega
    have h2:k < v.length:=by omega
    have d1:=lW ha h1
    obtain ⟨x,hx⟩:∃ x:Nat,a[k]=(x:Int):=⟨(a[k]).toNat,by omega⟩
    have hx2:x < 1000000000:=by omega
    have hn:=aJz hx2 hr
    have hq:=aG0 hb hn
    have hm:=Nat.mod_lt (x+BB*R) hb
    have hmd:=Nat.mod_add_div (x+BB*R) b
    have hlR:(aA R).length≤(aA b).length:=fE (Nat.le_of_lt hr) (Nat.le_refl _)
    have hv0:v[k]?=some ((0:Nat):Int):=by
      have q:(v.take (k+1))[k]?=some 0:=by rw [ht];simp
      rw [List.getElem?_take_of_lt (by omega)] at q
      exact q
    have hq':(x+BB*R) / b < 1000000000:=Nat.lt_of_lt_of_eq hq dO
    clear hq
    have inn:=aI7 b hb hlb k (x+BB*R) 0 v hn h2 hv0 (by omega)
    rw [Nat.zero_add] at inn
    generalize (x+BB*R) / b=Q at hq' hmd inn
    generalize (x+BB*R) % b=M at hm hmd inn
    have s1:mQ a (aA b) (aA R,((k+1:Nat):Int) - 1,v)=some (.inl (aA M,(k:Int) - 1,v.set k (Q:Int))):=by
      unfold mQ
      simp only []
      rw [show ((k+1:Nat):Int) - 1=(k:Int) by omega,if_pos (by omega),aH h1,hx]
      simp only [Option.bind_some,aM]
      rw [aQ (by simp;omega)]
      simp only [Option.bind_some]
      rw [xF,aFn x R hx2 (by omega)]
      simp only [Option.bind_some]
      rw [inn]
      simp only [Option.bind_some]
      rw [wi (by omega)]
    obtain ⟨R',v',e1,e2,e3,e4,e5⟩:=ih M (v.set k (Q:Int)) (by omega) hm (aCR hv _ _ (by omega)) (by simpa using hl) (by
        rw [gT h1,gT (l:=v.set k _) (by simpa using h2),List.getElem_set_self,xB,he,hx,Int.toNat_natCast,Int.toNat_natCast]
        rw [Nat.mul_add,Nat.mul_add b,← Nat.mul_assoc BB b,← Nat.mul_assoc b BB,Nat.mul_comm BB b]
        omega) (by
        rw [List.take_set_of_le (by omega)]
        have:=congrArg (List.take k) ht
        rw [List.take_take,Nat.min_eq_left (by omega),List.take_replicate,Nat.min_eq_left (by omega)] at this
        exact this)
    exact ⟨R',v',by rw [bF s1];exact e1,e2,e3,e4,e5⟩
theorem aKN:∀ (l:List Int),dgs l→l.length≤2→fD l=some (val l:Int)
  | [],_,_=>by
    unfold fD
    simp only [aM,List.length_nil]
    rw [wi (by omega),aN (r:=0) (by unfold cX;simp)];rfl
  | [d],h,_=>by
    rw [mW] at h
    unfold fD
    simp only [aM,List.length_cons,List.length_nil]
    have s1:cX [d] (0,((0:Nat):Int))=some (.inl (d,-1)):=by
      unfold cX
      simp only []
      rw [if_pos (by omega),aH (by simp)]
      simp only [Option.bind_some,aM,List.getElem_cons_zero]
      rw [wi (n:=0*1000000000) (by omega),wi (by omega),wi (by omega)]
      simp
    rw [wi (by omega),show (((0+1:Nat):Int) - 1)=((0:Nat):Int) by omega,bF s1,aN (r:=d) (by unfold cX;simp)]
    simp [val] <;> omega
  | [d,e],h,_=>by
    rw [mW,mW] at h
    unfold fD
    simp only [aM,List.length_cons,List.length_nil]
    have s1:cX [d,e] (0,((1:Nat):Int))=some (.inl (e,((0:Nat):Int))):=by
      unfold cX
      simp only []
      rw [if_pos (by omega),aH (by simp)]
      simp only [Option.bind_some,aM,List.getElem_cons_zero,List.getElem_cons_succ]
      rw [wi (n:=0*1000000000) (by omega),wi (by omega),wi (by omega)]
      simp
    have s2:cX [d,e] (e,((0:Nat):Int))=some (.inl (e*1000000000+d,-1)):=by
      unfold cX
      simp only []
      rw [if_pos (by omega),aH (by simp)]
      simp only [Option.bind_some,aM,List.getElem_cons_zero]
      rw [wi (n:=e*1000000000) (by omega),wi (by omega),wi (by omega)]
      rfl
    rw [wi (by omega),show (((0+1+1:Nat):Int) - 1)=((1:Nat):Int) by omega,bF s1,bF s2,aN (r:=e*1000000000+d) (by unfold cX;simp)]
    simp only [Option.bind_some,val,dO,Nat.mul_zero,Nat.add_zero]
    congr 1;omega
  | _::_::_::_,_,h=>by simp at h <;> omega
theorem aCn (x:Nat) (h:(aA x).length≤2):fD (aA x)=some (x:Int):=by rw [aKN _ (eB x) h,dG]
theorem uT {x:Nat} (h:(aA x).length≤2):x < 1000000000000000000:=by
  have h1:=oU x
  have h2:BB ^ (aA x).length≤BB ^ 2:=Nat.pow_le_pow_right uO h
  have h3:BB ^ 2=1000000000000000000:=by rw [dO]
  omega
theorem aEX (x b:Nat) (hb:0 < b) (hx:(aA x).length≤700) (hlb:(aA b).length≤700):qD (aA x) (aA b)=some (aA (x / b),aA (x % b)):=by
  unfold qD
  by_cases c:(aA x).length≤2∧(aA b).length≤2
  · have h1:=uT c.1
    have h2:=uT c.2
    have n1:((aA x).length:Int)≤2:=by omega
    have n2:((aA b).length:Int)≤2:=by omega
    simp only [n1,n2,if_true,decide_true,Option.bind_some]
    rw [aCn x c.1,aCn b c.2]
    simp only [Option.bind_some,aM]
    have q1:=Nat.div_le_self x b
    have q2:=Nat.mod_le x b
    rw [aQ (by omega),aHv,aIy]
    generalize x / b=Q at q1 ⊢
    generalize x % b=M at q2 ⊢
    simp only [Option.bind_some]
    rw [wi (by omega),wu (by omega),wu (by omega),wH Q (by omega),wH M (by omega)]
    rfl
  · have:((if ((aA x).length:Int)≤2 then some (decide (((aA b).length:Int)≤2)) else some false):Option Bool)=some false:=by
      by_cases c1:(aA x).length≤2
      · have c2:¬(aA b).length≤2:=fun h=>c ⟨c1,h⟩
        rw [if_pos (by omega),decide_eq_false (by omega)]
      · rw [if_neg (by omega)]
    rw [this]
    simp only [Option.bind_some,Bool.false_eq_true,if_false,aM]
    rw [aQ (by omega)]
    simp only [Option.bind_some,Int.toNat_natCast]
    obtain ⟨r',v',e1,e2,e3,e4,e5⟩:=aKy (aA x) b hb hlb (eB x) (by omega) (aA x).length 0 (List.replicate (aA x).length 0) (Nat.le_refl _) hb (aEl _) (by simp) (by rw [fG (Nat.le_refl _),fG (by simp)];rfl) (by simp)
    rw [dG] at e5
    rw [bH] at e1
    obtain ⟨q1,q2⟩:=aCh e2 e5
    rw [wi (by omega),e1]
    simp only [Option.bind_some]
    rw [xF,zV e3 (by omega),q1,q2];rfl
end Go.Ev
/- Naturals as limbs: greatest common divisors, and which lists are naturals; both programs. -/
namespace Go.Ev
set_option linter.all false
theorem aFm (x y:Nat):Nat.gcd x y=Nat.gcd y (x % y):=by rw [Nat.gcd_comm x y,Nat.gcd_rec y x,Nat.gcd_comm]
theorem aEP:∀ (y x:Nat),lp kE ((x:Int),(y:Int))=some ((Nat.gcd x y:Nat):Int):=by
  intro y
  induction y using Nat.strongRecOn with
  | _ y ih =>
    intro x
    by_cases c:y=0
    · subst c
      rw [Nat.gcd_zero_right]
      exact aN (by unfold kE;simp)
    · have s1:kE ((x:Int),(y:Int))=some (.inl ((y:Int),((x % y:Nat):Int))):=by
        unfold kE
        simp only []
        rw [if_pos (by omega),aQ (by omega),aIy];rfl
      rw [bF s1,ih (x % y) (Nat.mod_lt _ (by omega)),← aFm]
theorem aIG:uS=kE:=rfl
theorem aH0 {x y:Nat} (hx:x < 1000000000000000000) (hy:y < 1000000000000000000):Nat.gcd x y < 1000000000000000000:=by
  by_cases c:x=0
  · subst c;rw [Nat.gcd_zero_left];exact hy
  · have:=Nat.gcd_le_left y (Nat.pos_of_ne_zero c);omega
theorem aKk:∀ (y x:Nat),(aA x).length≤700→(aA y).length≤700→∃ r,lp kD (aA x,aA y)=some r∧(r=.inl (aA (Nat.gcd x y))∨r=.inr (aA (Nat.gcd x y))):=by
  intro y
  induction y using Nat.strongRecOn with
  | _ y ih =>
    intro x hx hy
    by_cases c:y=0
    · subst c
      rw [Nat.gcd_zero_right]
      refine ⟨.inl (aA x),aN ?_,.inl rfl⟩
      unfold kD
      simp [bH]
    · have hy0:(aA y).length≠0:=fun e=>dZ c (List.length_eq_zero_iff.1 e)
      by_cases c2:(aA x).length≤2∧(aA y).length≤2
      · refine ⟨.inr (aA (Nat.gcd x y)),aN ?_,.inr rfl⟩
        have h1:=uT c2.1
        have h2:=uT c2.2
        have h3:=aH0 h1 h2
        have n1:((aA x).length:Int)≤2:=by omega
        have n2:((aA y).length:Int)≤2:=by omega
        unfold kD
        simp only [n1,n2,if_true,decide_true,Option.bind_some]
        rw [if_pos (by omega),aCn x c2.1,aCn y c2.2]
        simp only [Option.bind_some]
        rw [aEP]
        simp only [Option.bind_some]
        rw [wu (by omega),wH _ (by omega)];rfl
      · have s1:kD (aA x,aA y)=some (.inl (aA y,aA (x % y))):=by
          unfold kD
          simp only []
          have:((if ((aA x).length:Int)≤2 then some (decide (((aA y).length:Int)≤2)) else some false):Option Bool)=some false:=by
            by_cases c1:(aA x).length≤2
            · have c2:¬(aA y).length≤2:=fun h=>c2 ⟨c1,h⟩
              rw [if_pos (by omega),decide_eq_false (by omega)]
            · rw [if_neg (by omega)]
          rw [if_pos (by omega),this]
          simp only [Option.bind_some,Bool.false_eq_true,if_false]
          rw [aEX x y (by omega) hx hy];rfl
        rw [bF s1,aFm x y]
        exact ih (x % y) (Nat.mod_lt _ (by omega)) y hy (by have:=aJH x (y:=y) (by omega);omega)
theorem aHJ (x y:Nat) (hx:(aA x).length≤700) (hy:(aA y).length≤700):tF (aA x) (aA y)=some (aA (Nat.gcd x y)):=by
  unfold tF
  obtain ⟨r,e1,e2⟩:=aKk y x hx hy
  have hl:(aA (Nat.gcd x y)).length≤700:=by
    by_cases c:x=0
    · subst c;rw [Nat.gcd_zero_left];exact hy
    · exact Nat.le_trans (fE (Nat.gcd_le_left y (Nat.pos_of_ne_zero c)) (Nat.le_refl _)) hx
  rw [e1]
  rcases e2 with rfl | rfl
  · simp only [Option.bind_some]
    unfold cV
    rw [aQ (by simp;omega)];rfl
  · rfl
instance (l:List Int):Decidable (dgs l):=by unfold dgs;infer_instance
def uQ (l:List Int):Prop:=dgs l∧l.length≤60∧l.getLast?≠some 0
instance (l:List Int):Decidable (uQ l):=by unfold uQ;infer_instance
theorem aKb {l:List Int} (h:uQ l):nat l:=⟨h.1,h.2.2⟩
theorem nJ {l:List Int} (h:uQ l):l=aA (val l):=aAe (aKb h)
theorem aCy {x:Nat} (h:(aA x).length≤60):uQ (aA x):=⟨eB x,h,aBf x⟩
theorem aLa (l:List Int) (hl:l.length≤4294967296):∀ m k:Nat,m+k=l.length→lp (lR l) (k:Int)=some (if dgs (l.drop k) then .inl () else .inr false):=by
  intro m
  induction m with
  | zero =>
    intro k hk
    rw [if_pos (by rw [List.drop_eq_nil_of_le (by omega)];exact aBw)]
    exact aN (by unfold lR;rw [if_neg (by omega)])
  | succ m ih =>
    intro k hk
    have hlt:k < l.length:=by omega
    by_cases c:0≤l[k]∧l[k] < 1000000000
    · have s1:lR l (k:Int)=some (.inl ((k+1:Nat):Int)):=by
        unfold lR
        have n1:¬l[k] < 0:=by omega
        have n2:¬1000000000≤l[k]:=by omega
        rw [if_pos (by omega),aH hlt,wi (by omega)]
        simp [n1,n2]
      rw [bF s1,ih (k+1) (by omega)]
      have hd:dgs (l.drop k)↔dgs (l.drop (k+1)):=by rw [List.drop_eq_getElem_cons hlt,mW];exact ⟨fun h=>h.2,fun h=>⟨c,h⟩⟩
      simp only [hd]
    · have h2:¬dgs (l.drop k):=by rw [List.drop_eq_getElem_cons hlt,mW];exact fun h=>c h.1
      rw [if_neg h2]
      refine aN ?_
      unfold lR
      rw [if_pos (by omega),aH hlt]
      simp only [Option.bind_some]
      by_cases n1:l[k] < 0
      · rw [if_pos n1];rfl
      · rw [if_neg n1,decide_eq_true (by omega)];rfl
theorem aCN (a b c:Int):pN a b c=some (decide (b≤a∧a≤c)):=by
  unfold pN
  by_cases h:b≤a <;> simp [h]
theorem aK9 (l:List Int) (hl:l.length≤4294967296):∀ m k:Nat,m+k=l.length→lp (lN l) (k:Int)=some (if dgs (l.drop k) then .inl () else .inr false):=by
  intro m
  induction m with
  | zero =>
    intro k hk
    rw [if_pos (by rw [List.drop_eq_nil_of_le (by omega)];exact aBw)]
    exact aN (by unfold lN;rw [if_neg (by omega)])
  | succ m ih =>
    intro k hk
    have hlt:k < l.length:=by omega
    by_cases c:0≤l[k]∧l[k] < 1000000000
    · have s1:lN l (k:Int)=some (.inl ((k+1:Nat):Int)):=by
        unfold lN
        rw [if_pos (by omega),aH hlt,wi (by omega)]
        simp only [Option.bind_some]
        rw [aCN,decide_eq_true (by omega)];rfl
      rw [bF s1,ih (k+1) (by omega)]
      have hd:dgs (l.drop k)↔dgs (l.drop (k+1)):=by rw [List.drop_eq_getElem_cons hlt,mW];exact ⟨fun h=>h.2,fun h=>⟨c,h⟩⟩
      simp only [hd]
    · have h2:¬dgs (l.drop k):=by rw [List.drop_eq_getElem_cons hlt,mW];exact fun h=>c h.1
      rw [if_neg h2]
      refine aN ?_
      unfold lN
      rw [if_pos (by omega),aH hlt]
      simp only [Option.bind_some]
      rw [aCN,decide_eq_false (by omega)];rfl
theorem aJD (l:List Int) (hl:l.length≤4294967296) (h:l.length≠0):(idx l (IntKind.i64.wrap ((l.length:Int) - 1))).bind (fun y=>some (decide (y≠0)))=some (decide (l.getLast?≠some 0)):=by
  have hlt:l.length - 1 < l.length:=by omega
  rw [wi (by omega),show (l.length:Int) - 1=((l.length - 1:Nat):Int) by omega,aH hlt,List.getLast?_eq_getElem?,List.getElem?_eq_getElem hlt]
  simp
theorem aIn (l:List Int) (hl:l.length≤4294967296):vF l=some (decide (uQ l)):=by
  unfold vF
  by_cases c:60 < l.length
  · have:¬uQ l:=fun h=>by have:=h.2.1;omega
    rw [if_pos (by omega),decide_eq_false this]
  · have:=aLa l hl l.length 0 (by omega)
    rw [show ((0:Nat):Int)=0 from rfl,List.drop_zero] at this
    rw [if_neg (by omega),this]
    by_cases d:dgs l
    · rw [if_pos d]
      simp only [Option.bind_some]
      by_cases z:l.length=0
      · have e:l=[]:=List.length_eq_zero_iff.1 z
        subst e
        rw [if_pos (by simp),decide_eq_true ⟨aBw,by simp,by simp⟩]
      · rw [if_neg (by omega),aM,aJD l hl z]
        congr 1
        exact decide_eq_decide.2 ⟨fun h=>⟨d,by omega,h⟩,fun h=>h.2.2⟩
    · have:¬uQ l:=fun h=>d h.1
      rw [if_neg d,decide_eq_false this];rfl
theorem aFL (l:List Int) (hl:l.length≤4294967296):sQ l=some (decide (uQ l)):=by
  unfold sQ
  have:=aK9 l hl l.length 0 (by omega)
  rw [show ((0:Nat):Int)=0 from rfl,List.drop_zero] at this
  rw [this]
  by_cases d:dgs l
  · rw [if_pos d]
    simp only [Option.bind_some]
    by_cases c:60 < l.length
    · have:¬uQ l:=fun h=>by have:=h.2.1;omega
      rw [if_neg (by omega),decide_eq_false this]
    · rw [if_pos (by omega)]
      by_cases z:l.length=0
      · have e:l=[]:=List.length_eq_zero_iff.1 z
        subst e
        rw [if_pos (by simp),decide_eq_true ⟨aBw,by simp,by simp⟩]
      · rw [if_neg (by omega),aM,aJD l hl z]
        congr 1
        exact decide_eq_decide.2 ⟨fun h=>⟨d,by omega,h⟩,fun h=>h.2.2⟩
  · have:¬uQ l:=fun h=>d h.1
    rw [if_neg d,decide_eq_false this];rfl
theorem aIR:([854775807,223372036,9]:List Int)=aA 9223372036854775807:=by
  have h1:dgs [854775807,223372036,9]:=by intro d hd;simp at hd;omega
  have:=aAe (l:=[854775807,223372036,9]) ⟨h1,by simp⟩
  rw [this];rfl
theorem aIx:∀ (l:List Int),dgs l→l.length≤2→lp (cM l) (0,(l.length:Int) - 1)=some (val l:Int)
  | [],_,_=>by
    rw [aN (r:=0) (by unfold cM;simp)];rfl
  | [d],h,_=>by
    rw [mW] at h
    have s1:cM [d] (0,((0:Nat):Int))=some (.inl (d,-1)):=by
      unfold cM
      simp only []
      rw [if_pos (by omega),aH (by simp)]
      simp only [Option.bind_some,aM,List.getElem_cons_zero]
      rw [wi (n:=0*1000000000) (by omega),wi (by omega),wi (by omega)]
      simp
    rw [show ((([d]:List Int).length:Int) - 1)=((0:Nat):Int) by simp,bF s1,aN (r:=d) (by unfold cM;simp)]
    simp [val] <;> omega
  | [d,e],h,_=>by
    rw [mW,mW] at h
    have s1:cM [d,e] (0,((1:Nat):Int))=some (.inl (e,((0:Nat):Int))):=by
      unfold cM
      simp only []
      rw [if_pos (by omega),aH (by simp)]
      simp only [Option.bind_some,aM,List.getElem_cons_zero,List.getElem_cons_succ]
      rw [wi (n:=0*1000000000) (by omega),wi (by omega),wi (by omega)]
      simp
    have s2:cM [d,e] (e,((0:Nat):Int))=some (.inl (e*1000000000+d,-1)):=by
      unfold cM
      simp only []
      rw [if_pos (by omega),aH (by simp)]
      simp only [Option.bind_some,aM,List.getElem_cons_zero]
      rw [wi (n:=e*1000000000) (by omega),wi (by omega),wi (by omega)]
      rfl
    rw [show ((([d,e]:List Int).length:Int) - 1)=((1:Nat):Int) by simp,bF s1,bF s2,aN (r:=e*1000000000+d) (by unfold cM;simp)]
    simp only [val,dO,Nat.mul_zero,Nat.add_zero]
    congr 1;omega
  | _::_::_::_,_,h=>by simp at h <;> omega
theorem aFK (x:Nat) (h:(aA x).length≤2):oP (aA x)=some ((x:Int),true):=by
  have hx:=uT h
  have hl:=jE (v:=9223372036854775807) (by omega)
  unfold oP
  rw [aFL _ (by omega),decide_eq_true (aCy (by omega)),aIR]
  simp only [Option.bind_some,if_true]
  rw [aA8 _ _ (by omega) (by omega)]
  simp only [Option.bind_some,aM]
  have:¬(0 < sJ x 9223372036854775807):=by unfold sJ;rw [if_pos (by omega)];omega
  simp only [this,decide_false,Bool.false_eq_true,if_false]
  have e:=aIx (aA x) (eB x) h
  rw [dG] at e
  rw [wi (by omega),e];rfl
theorem aKj:∀ (y x:Nat),(aA x).length≤700→(aA y).length≤700→∃ r,lp jT (aA x,aA y)=some r∧(r=.inl (aA (Nat.gcd x y))∨r=.inr (aA (Nat.gcd x y))):=by
  intro y
  induction y using Nat.strongRecOn with
  | _ y ih =>
    intro x hx hy
    by_cases c:y=0
    · subst c
      rw [Nat.gcd_zero_right]
      refine ⟨.inl (aA x),aN ?_,.inl rfl⟩
      unfold jT
      simp [bH]
    · have hy0:(aA y).length≠0:=fun e=>dZ c (List.length_eq_zero_iff.1 e)
      by_cases c2:(aA x).length≤2∧(aA y).length≤2
      · refine ⟨.inr (aA (Nat.gcd x y)),aN ?_,.inr rfl⟩
        have h1:=uT c2.1
        have h2:=uT c2.2
        have h3:=aH0 h1 h2
        have n1:((aA x).length:Int) < 3:=by omega
        have n2:((aA y).length:Int) < 3:=by omega
        unfold jT
        simp only [n1,n2,if_true,decide_true,Option.bind_some]
        rw [if_pos (by omega),aFK x c2.1,aFK y c2.2]
        simp only [Option.bind_some]
        unfold vL
        rw [aIG,aEP]
        simp only [Option.bind_some]
        rw [aAu _ (by omega)];rfl
      · have s1:jT (aA x,aA y)=some (.inl (aA y,aA (x % y))):=by
          unfold jT
          simp only []
          have:((if ((aA x).length:Int) < 3 then some (decide (((aA y).length:Int) < 3)) else some false):Option Bool)=some false:=by
            by_cases c1:(aA x).length≤2
            · have c2:¬(aA y).length≤2:=fun h=>c2 ⟨c1,h⟩
              rw [if_pos (by omega),decide_eq_false (by omega)]
            · rw [if_neg (by omega)]
          rw [if_pos (by omega),this]
          simp only [Option.bind_some,Bool.false_eq_true,if_false]
          rw [aFh x y (by omega) hx hy];rfl
        rw [bF s1,aFm x y]
        exact ih (x % y) (Nat.mod_lt _ (by omega)) y hy (by have:=aJH x (y:=y) (by omega);omega)
theorem aHT (x y:Nat) (hx:(aA x).length≤700) (hy:(aA y).length≤700):pM (aA x) (aA y)=some (aA (Nat.gcd x y)):=by
  unfold pM
  obtain ⟨r,e1,e2⟩:=aKj y x hx hy
  rw [aQ (by simp;omega),aQ (by simp;omega)]
  simp only [Option.bind_some,aM,List.nil_append]
  rw [e1]
  rcases e2 with rfl | rfl <;> rfl
end Go.Ev
