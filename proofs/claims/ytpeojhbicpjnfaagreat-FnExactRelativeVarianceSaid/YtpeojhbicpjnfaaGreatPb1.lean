/- Parts PF, P25, PQ1, PQ2, PQ3, PQ4, PQ5. -/
import Derived.Test.YtpeojhbicpjnfaaGreatPa1
import Derived.Test.YtpeojhbicpjnfaaGreatLXd
set_option linter.all false
/- Plain laws of helpers over nested data, printed by program (fam.py). -/
namespace Go.Ev
set_option linter.all false
def gG (x:(List Int)):Nat:=szL (fun _=>0) x
theorem aGt (x:(List Int)) (o:(okL (okI .i64)) x) (t:Int) (h0:0≤t) (h1:t≤1048576):qU x t=some (if (gG x:Int)≤t then t - gG x else -1):=by
  have hl:x.length≤9223372036854775807:=o.1
  have e:=sP x
  unfold qU gG
  simp only [aN]
  rw [wi (by omega)]
  by_cases c:t - (x.length:Int) < 0
  · rw [if_pos c,if_neg (by omega)]
  · rw [if_neg c,if_pos (by omega)];congr 1;omega
theorem aGq (x:(List Int)) (h:gG x≤4294967296):qS x=some x:=by
  have hl:=jU (fun _=>0) x
  unfold gG at h
  unfold qS
  rw [bM (by omega)]
  simp only [Option.bind_some]
  have:=aAS (step:=oA x) x (List.replicate (x.length:Int).toNat 0) (fun k m=>((k:Int),m)) (fun m=>m) (by simp) (fun k m hk hm=>by
    unfold oA
    simp only []
    rw [if_pos (by omega),aW hk,aW (l:=m) (by omega)]
    simp only [Option.bind_some,aN,hJ]
    rw [wi (by omega)];rfl)
   (fun m hm=>by unfold oA;simp only [];rw [if_neg (by omega)])
  rw [show ((0:Nat):Int)=0 from rfl] at this
  rw [this];rfl
theorem aGJ (x:(List Int)) (h:gG x≤4294967296):qV x x=some true:=by
  have hl:=jU (fun _=>0) x
  unfold gG at h
  unfold qV
  rw [if_neg (by simp),yB x.length (.inl ())]
  · rfl
  · intro k hk
    unfold rK
    rw [if_pos (by omega),aW hk]
    simp only [Option.bind_some,ne_eq,not_true_eq_false,if_false]
    rw [wi (by omega)];rfl
  · unfold rK;rw [if_neg (by omega)]
theorem iD (x:(List Int)) (k:Int) (h0:0≤k) (h1:k+100*(gG x:Int)≤4611686018427387904):∃ k' x',bP x k=some (k',x')∧nH x' k=some k'∧k≤k'∧k'≤k+100*(gG x:Int)∧x'.length=x.length:=by
  unfold gG at h1 ⊢
  obtain ⟨k',l',p1,p2,p3,p4,p5⟩:=aJd (ms:=lQ) (hs:=lR) (fun _:Int=>0) x (fun hl y k h0 h1=>by
    have w0:IntKind.i64.wrap (k+1)=k+1:=wi (by omega)
    refine ⟨k+1,(k),by omega,by omega,fun m i hi hm=>?_,fun m i hi hm=>?_⟩
    · have hlt:=(List.getElem?_eq_some_iff.1 hi).1
      have wi':IntKind.i64.wrap ((i:Int)+1)=(i:Int)+1:=wi (by omega)
      unfold lQ
      simp only []
      rw [if_pos (by omega)]
      simp only [aN,hJ,aBn hi,yF hlt,List.set_set,Option.bind_some,w0,wi']
    · have hlt:=(List.getElem?_eq_some_iff.1 hi).1
      have wi':IntKind.i64.wrap ((i:Int)+1)=(i:Int)+1:=wi (by omega)
      unfold lR
      simp only []
      rw [if_pos (by omega)]
      simp only [aN,aBn hi,Option.bind_some,ne_eq,not_true_eq_false,if_false,beq_self_eq_true,if_true,w0,wi'])
   (fun k m hm=>by unfold lQ;simp only [];rw [if_neg (by omega)]) (fun k m hm=>by unfold lR;simp only [];rw [if_neg (by omega)]) k h0 h1
  exact ⟨k',l',by unfold bP rJ;simp only [p1,Option.bind_some];rw [bM p2];rfl,by unfold nH;simp only [p3,Option.bind_some],p4,p5,p2⟩
def cR (x:BigInt):Nat:=gG x.fMag
theorem aGW (x:BigInt) (o:aCG x) (t:Int) (h0:0≤t) (h1:t≤1048576):pS x t=some (if (cR x:Int)≤t then t - cR x else -1):=by
  unfold pS cR
  rw [aGt x.fMag o.2.1 t (by omega) (by omega)]
  simp only [Option.bind_some]
  by_cases c:(gG x.fMag:Int)≤t
  · rw [if_pos c,if_neg (by omega)]
  · rw [if_neg c];rfl
theorem aGU (x:BigInt) (h:cR x≤4294967296):pR x=some x:=by
  unfold cR at h
  unfold pR
  rw [aGq x.fMag (by omega)]
  simp only [Option.bind_some]
theorem aHj (x:BigInt) (h:cR x≤4294967296):pU x x=some true:=by
  unfold cR at h
  unfold pU
  have e0:=aGJ x.fMag (by omega)
  simp only [e0,Option.bind_some,if_true,ne_eq,not_true_eq_false,if_false,beq_self_eq_true]
theorem aG6 (x:BigInt) (k:Int) (h0:0≤k) (h1:k+100*(cR x:Int)≤4611686018427387904):∃ k' x',mX x k=some (k',x')∧mY x' k=some k'∧k≤k'∧k'≤k+100*(cR x:Int):=by
  unfold cR at h1 ⊢
  obtain ⟨k0,x0,e0,g0,a0,b0,l0⟩:=iD x.fMag (k) (by omega) (by omega)
  have n0:¬k0 < 0:=by omega
  exact ⟨k0,BigInt.mk x.fNeg x0,by unfold mX;simp only [e0,Option.bind_some],by unfold mY;simp only [g0,n0,Option.bind_some,if_false],by omega,by omega⟩
def aU (x:Rat):Nat:=cR x.fNum+gG x.fDen
theorem xJ (x:Rat) (o:zJ x) (t:Int) (h0:0≤t) (h1:t≤1048576):iM x t=some (if (aU x:Int)≤t then t - aU x else -1):=by
  unfold iM aU
  rw [aGW x.fNum o.1 (t) (by omega) (by omega)]
  simp only [Option.bind_some]
  by_cases c0:(cR x.fNum:Int)≤t
  · skip
    rw [if_pos c0,if_neg (by omega)]
    rw [aGt x.fDen o.2.1 (t - cR x.fNum) (by omega) (by omega)]
    simp only [Option.bind_some]
    by_cases c1:(gG x.fDen:Int)≤t - cR x.fNum
    · skip
      rw [if_pos c1,if_neg (by omega)]
      rw [if_pos (by omega)];congr 1;omega
    · rw [if_neg c1,if_pos (by omega),if_neg (by omega)]
  · rw [if_neg c0,if_pos (by omega),if_neg (by omega)]
theorem xH (x:Rat) (h:aU x≤4294967296):iL x=some x:=by
  unfold aU at h
  unfold iL
  rw [aGU x.fNum (by omega)]
  simp only [Option.bind_some]
  rw [aGq x.fDen (by omega)]
  simp only [Option.bind_some]
theorem tH (x:Rat) (h:aU x≤4294967296):cK x x=some true:=by
  unfold aU at h
  unfold cK
  have e0:=aHj x.fNum (by omega)
  have e1:=aGJ x.fDen (by omega)
  simp only [e0,e1,Option.bind_some,if_true,ne_eq,not_true_eq_false,if_false,beq_self_eq_true]
theorem aEy (x:Rat) (k:Int) (h0:0≤k) (h1:k+100*(aU x:Int)≤4611686018427387904):∃ k' x',kH x k=some (k',x')∧fC x' k=some k'∧k≤k'∧k'≤k+100*(aU x:Int):=by
  unfold aU at h1 ⊢
  obtain ⟨k0,x0,e0,g0,a0,b0⟩:=aG6 x.fNum (k) (by omega) (by omega)
  have n0:¬k0 < 0:=by omega
  obtain ⟨k1,x1,e1,g1,a1,b1,l1⟩:=iD x.fDen (k0) (by omega) (by omega)
  have n1:¬k1 < 0:=by omega
  exact ⟨k1,Rat.mk x0 x1,by unfold kH;simp only [e0,e1,Option.bind_some],by unfold fC;simp only [g0,g1,n0,n1,Option.bind_some,if_false],by omega,by omega⟩
def cD (x:Parent):Nat:=aU x.fShare+aU x.fDX+aU x.fDY
theorem aGV (x:Parent) (o:xQ x) (t:Int) (h0:0≤t) (h1:t≤1048576):nG x t=some (if (cD x:Int)≤t then t - cD x else -1):=by
  unfold nG cD
  rw [xJ x.fShare o.2.1 (t) (by omega) (by omega)]
  simp only [Option.bind_some]
  by_cases c0:(aU x.fShare:Int)≤t
  · skip
    rw [if_pos c0,if_neg (by omega)]
    rw [xJ x.fDX o.2.2.1 (t - aU x.fShare) (by omega) (by omega)]
    simp only [Option.bind_some]
    by_cases c1:(aU x.fDX:Int)≤t - aU x.fShare
    · skip
      rw [if_pos c1,if_neg (by omega)]
      rw [xJ x.fDY o.2.2.2.1 (t - aU x.fShare - aU x.fDX) (by omega) (by omega)]
      simp only [Option.bind_some]
      by_cases c2:(aU x.fDY:Int)≤t - aU x.fShare - aU x.fDX
      · skip
        rw [if_pos c2,if_neg (by omega)]
        rw [if_pos (by omega)];congr 1;omega
      · rw [if_neg c2,if_pos (by omega),if_neg (by omega)]
    · rw [if_neg c1,if_pos (by omega),if_neg (by omega)]
  · rw [if_neg c0,if_pos (by omega),if_neg (by omega)]
theorem aGT (x:Parent) (h:cD x≤4294967296):pQ x=some x:=by
  unfold cD at h
  unfold pQ
  rw [xH x.fShare (by omega)]
  simp only [Option.bind_some]
  rw [xH x.fDX (by omega)]
  simp only [Option.bind_some]
  rw [xH x.fDY (by omega)]
  simp only [Option.bind_some]
theorem aHi (x:Parent) (h:cD x≤4294967296):pT x x=some true:=by
  unfold cD at h
  unfold pT
  have e0:=tH x.fShare (by omega)
  have e1:=tH x.fDX (by omega)
  have e2:=tH x.fDY (by omega)
  simp only [e0,e1,e2,Option.bind_some,if_true,ne_eq,not_true_eq_false,if_false,beq_self_eq_true]
def dO (x:(List Parent)):Nat:=szL cD x
theorem aFW (x:(List Parent)) (o:(okL xQ) x) (t:Int) (h0:0≤t) (h1:t≤1048576):oD x t=some (if (dO x:Int)≤t then t - dO x else -1):=by
  have hl:x.length≤9223372036854775807:=o.1
  have e:=aA8 cD x
  unfold oD dO
  simp only [aN]
  rw [wi (by omega)]
  by_cases c:t - (x.length:Int) < 0
  · rw [if_pos c,if_neg (by omega)]
  · rw [if_neg c,aEA x cD nG (fun y hy t a b=>aGV y (o.2 y hy) t a b) (fun k t hk=>by unfold nN;simp only [];rw [if_pos (by omega),aW hk];simp only [Option.bind_some];rw [wi (by omega)]) (fun t=>by unfold nN;simp only [];rw [if_neg (by omega)]) _ (by omega) (by omega)]
    by_cases d:((x.map cD).sum:Int)≤t - x.length
    · rw [if_pos d,if_pos (by omega)];simp only [Option.bind_some];congr 1;omega
    · rw [if_neg d,if_neg (by omega)];rfl
theorem aFT (x:(List Parent)) (h:dO x≤4294967296):nZ x=some x:=by
  have hl:=jU cD x
  unfold dO at h
  unfold nZ
  rw [bM (by omega)]
  simp only [Option.bind_some]
  have:=aAS (step:=kG x) x (List.replicate (x.length:Int).toNat (Parent.mk 0 (Rat.mk (BigInt.mk false ([])) ([])) (Rat.mk (BigInt.mk false ([])) ([])) (Rat.mk (BigInt.mk false ([])) ([])))) (fun k m=>((k:Int),m)) (fun m=>m) (by simp) (fun k m hk hm=>by
    have he:=mF (w:=cD) (List.getElem_mem hk)
    unfold kG
    simp only []
    rw [if_pos (by omega),aW hk,aW (l:=m) (by omega)]
    simp only [Option.bind_some,aN,hJ,aGT _ (show cD x[k]≤4294967296 by omega)]
    rw [wi (by omega)];rfl)
   (fun m hm=>by unfold kG;simp only [];rw [if_neg (by omega)])
  rw [show ((0:Nat):Int)=0 from rfl] at this
  rw [this];rfl
theorem aGd (x:(List Parent)) (h:dO x≤4294967296):oG x x=some true:=by
  have hl:=jU cD x
  unfold dO at h
  unfold oG
  rw [if_neg (by simp),yB x.length (.inl ())]
  · rfl
  · intro k hk
    have he:=mF (w:=cD) (List.getElem_mem hk)
    unfold nO
    rw [if_pos (by omega),aW hk]
    simp only [Option.bind_some,aHi _ (show cD x[k]≤4294967296 by omega),if_true]
    rw [wi (by omega)];rfl
  · unfold nO;rw [if_neg (by omega)]
theorem aCM (x:(List Parent)) (k:Int) (h0:0≤k) (h1:k+100*(dO x:Int)≤4611686018427387904):∃ k' x',gQ x k=some (k',x')∧k≤k'∧k'≤k+100*(dO x:Int)∧x'.length=x.length:=by
  unfold dO at h1 ⊢
  obtain ⟨k',l',p1,p2,p4,p5⟩:=aEC (ms:=iR) cD x (fun hl y k h0 h1=>by
    simp only [cD,aU,cR] at h1 ⊢
    obtain ⟨k0,x0,e0,g0,a0,b0,l0⟩:=iD y.fShare.fNum.fMag (k+1+1) (by omega) (by omega)
    obtain ⟨k1,x1,e1,g1,a1,b1,l1⟩:=iD y.fShare.fDen (k0) (by omega) (by omega)
    obtain ⟨k2,x2,e2,g2,a2,b2,l2⟩:=iD y.fDX.fNum.fMag (k1+1) (by omega) (by omega)
    obtain ⟨k3,x3,e3,g3,a3,b3,l3⟩:=iD y.fDX.fDen (k2) (by omega) (by omega)
    obtain ⟨k4,x4,e4,g4,a4,b4,l4⟩:=iD y.fDY.fNum.fMag (k3+1) (by omega) (by omega)
    obtain ⟨k5,x5,e5,g5,a5,b5,l5⟩:=iD y.fDY.fDen (k4) (by omega) (by omega)
    have w0:IntKind.i64.wrap (k+1)=k+1:=wi (by omega)
    have w1:IntKind.i64.wrap (k+1+1)=k+1+1:=wi (by omega)
    have w2:IntKind.i64.wrap (k1+1)=k1+1:=wi (by omega)
    have w3:IntKind.i64.wrap (k3+1)=k3+1:=wi (by omega)
    have n0:¬k0 < 0:=by omega
    have n1:¬k1 < 0:=by omega
    have n2:¬k2 < 0:=by omega
    have n3:¬k3 < 0:=by omega
    have n4:¬k4 < 0:=by omega
    have n5:¬k5 < 0:=by omega
    refine ⟨k5,(Parent.mk (k) (Rat.mk (BigInt.mk (decide ((k+1).tmod 3=0)) x0) x1) (Rat.mk (BigInt.mk (decide ((k1).tmod 3=0)) x2) x3) (Rat.mk (BigInt.mk (decide ((k3).tmod 3=0)) x4) x5)),by omega,by omega,fun m i hi hm=>?_⟩
    · have hlt:=(List.getElem?_eq_some_iff.1 hi).1
      have wi':IntKind.i64.wrap ((i:Int)+1)=(i:Int)+1:=wi (by omega)
      unfold iR
      simp only []
      rw [if_pos (by omega)]
      simp only [aN,hJ,aBn hi,yF hlt,List.set_set,Option.bind_some,w0,w1,w2,w3,e0,e1,e2,e3,e4,e5,wi'])
   (fun k m hm=>by unfold iR;simp only [];rw [if_neg (by omega)]) k h0 h1
  exact ⟨k',l',by unfold gQ oE;simp only [p1,Option.bind_some];rw [bM p2];rfl,p4,p5,p2⟩
def aL (x:Conditional):Nat:=aU x.fTotal+dO x.fParents
theorem xK (x:Conditional) (o:kR x) (t:Int) (h0:0≤t) (h1:t≤1048576):fG x t=some (if (aL x:Int)≤t then t - aL x else -1):=by
  unfold fG aL
  rw [xJ x.fTotal o.2.1 (t) (by omega) (by omega)]
  simp only [Option.bind_some]
  by_cases c0:(aU x.fTotal:Int)≤t
  · skip
    rw [if_pos c0,if_neg (by omega)]
    rw [aFW x.fParents o.2.2.1 (t - aU x.fTotal) (by omega) (by omega)]
    simp only [Option.bind_some]
    by_cases c1:(dO x.fParents:Int)≤t - aU x.fTotal
    · skip
      rw [if_pos c1,if_neg (by omega)]
      rw [if_pos (by omega)];congr 1;omega
    · rw [if_neg c1,if_pos (by omega),if_neg (by omega)]
  · rw [if_neg c0,if_pos (by omega),if_neg (by omega)]
theorem xI (x:Conditional) (h:aL x≤4294967296):gO x=some x:=by
  unfold aL at h
  unfold gO
  rw [xH x.fTotal (by omega)]
  simp only [Option.bind_some]
  rw [aFT x.fParents (by omega)]
  simp only [Option.bind_some]
theorem yH (x:Conditional) (h:aL x≤4294967296):gR x x=some true:=by
  unfold aL at h
  unfold gR
  have e0:=tH x.fTotal (by omega)
  have e1:=aGd x.fParents (by omega)
  simp only [e0,e1,Option.bind_some,if_true,ne_eq,not_true_eq_false,if_false,beq_self_eq_true]
def bB (x:(List Conditional)):Nat:=szL aL x
theorem aBH (x:(List Conditional)) (o:(okL kR) x) (t:Int) (h0:0≤t) (h1:t≤1048576):iQ x t=some (if (bB x:Int)≤t then t - bB x else -1):=by
  have hl:x.length≤9223372036854775807:=o.1
  have e:=aA8 aL x
  unfold iQ bB
  simp only [aN]
  rw [wi (by omega)]
  by_cases c:t - (x.length:Int) < 0
  · rw [if_pos c,if_neg (by omega)]
  · rw [if_neg c,aEA x aL fG (fun y hy t a b=>xK y (o.2 y hy) t a b) (fun k t hk=>by unfold iU;simp only [];rw [if_pos (by omega),aW hk];simp only [Option.bind_some];rw [wi (by omega)]) (fun t=>by unfold iU;simp only [];rw [if_neg (by omega)]) _ (by omega) (by omega)]
    by_cases d:((x.map aL).sum:Int)≤t - x.length
    · rw [if_pos d,if_pos (by omega)];simp only [Option.bind_some];congr 1;omega
    · rw [if_neg d,if_neg (by omega)];rfl
theorem aBG (x:(List Conditional)) (h:bB x≤4294967296):dQ x=some x:=by
  have hl:=jU aL x
  unfold bB at h
  unfold dQ
  rw [bM (by omega)]
  simp only [Option.bind_some]
  have:=aAS (step:=fU x) x (List.replicate (x.length:Int).toNat (Conditional.mk 0 (Rat.mk (BigInt.mk false ([])) ([])) ([]))) (fun k m=>((k:Int),m)) (fun m=>m) (by simp) (fun k m hk hm=>by
    have he:=mF (w:=aL) (List.getElem_mem hk)
    unfold fU
    simp only []
    rw [if_pos (by omega),aW hk,aW (l:=m) (by omega)]
    simp only [Option.bind_some,aN,hJ,xI _ (show aL x[k]≤4294967296 by omega)]
    rw [wi (by omega)];rfl)
   (fun m hm=>by unfold fU;simp only [];rw [if_neg (by omega)])
  rw [show ((0:Nat):Int)=0 from rfl] at this
  rw [this];rfl
theorem aB5 (x:(List Conditional)) (h:bB x≤4294967296):iS x x=some true:=by
  have hl:=jU aL x
  unfold bB at h
  unfold iS
  rw [if_neg (by simp),yB x.length (.inl ())]
  · rfl
  · intro k hk
    have he:=mF (w:=aL) (List.getElem_mem hk)
    unfold iV
    rw [if_pos (by omega),aW hk]
    simp only [Option.bind_some,yH _ (show aL x[k]≤4294967296 by omega),if_true]
    rw [wi (by omega)];rfl
  · unfold iV;rw [if_neg (by omega)]
theorem aBL (x:(List Conditional)) (k:Int) (h0:0≤k) (h1:k+100*(bB x:Int)≤4611686018427387904):∃ k' x',gJ x k=some (k',x')∧k≤k'∧k'≤k+100*(bB x:Int)∧x'.length=x.length:=by
  unfold bB at h1 ⊢
  obtain ⟨k',l',p1,p2,p4,p5⟩:=aEC (ms:=eU) aL x (fun hl y k h0 h1=>by
    simp only [aL,aU,cR] at h1 ⊢
    obtain ⟨k0,x0,e0,g0,a0,b0,l0⟩:=iD y.fTotal.fNum.fMag (k+1+1) (by omega) (by omega)
    obtain ⟨k1,x1,e1,g1,a1,b1,l1⟩:=iD y.fTotal.fDen (k0) (by omega) (by omega)
    obtain ⟨k2,x2,e2,a2,b2,l2⟩:=aCM y.fParents (k1) (by omega) (by omega)
    have w0:IntKind.i64.wrap (k+1)=k+1:=wi (by omega)
    have w1:IntKind.i64.wrap (k+1+1)=k+1+1:=wi (by omega)
    have n0:¬k0 < 0:=by omega
    have n1:¬k1 < 0:=by omega
    have n2:¬k2 < 0:=by omega
    refine ⟨k2,(Conditional.mk (k) (Rat.mk (BigInt.mk (decide ((k+1).tmod 3=0)) x0) x1) x2),by omega,by omega,fun m i hi hm=>?_⟩
    · have hlt:=(List.getElem?_eq_some_iff.1 hi).1
      have wi':IntKind.i64.wrap ((i:Int)+1)=(i:Int)+1:=wi (by omega)
      unfold eU
      simp only []
      rw [if_pos (by omega)]
      simp only [aN,hJ,aBn hi,yF hlt,List.set_set,Option.bind_some,w0,w1,e0,e1,e2,wi'])
   (fun k m hm=>by unfold eU;simp only [];rw [if_neg (by omega)]) k h0 h1
  exact ⟨k',l',by unfold gJ jX;simp only [p1,Option.bind_some];rw [bM p2];rfl,p4,p5,p2⟩
def fP (x:Link):Nat:=aU x.fWeight+aU x.fDX+aU x.fDY
theorem aIw (x:Link) (o:aBg x) (t:Int) (h0:0≤t) (h1:t≤1048576):qT x t=some (if (fP x:Int)≤t then t - fP x else -1):=by
  unfold qT fP
  rw [xJ x.fWeight o.2.2.1 (t) (by omega) (by omega)]
  simp only [Option.bind_some]
  by_cases c0:(aU x.fWeight:Int)≤t
  · skip
    rw [if_pos c0,if_neg (by omega)]
    rw [xJ x.fDX o.2.2.2.1 (t - aU x.fWeight) (by omega) (by omega)]
    simp only [Option.bind_some]
    by_cases c1:(aU x.fDX:Int)≤t - aU x.fWeight
    · skip
      rw [if_pos c1,if_neg (by omega)]
      rw [xJ x.fDY o.2.2.2.2.1 (t - aU x.fWeight - aU x.fDX) (by omega) (by omega)]
      simp only [Option.bind_some]
      by_cases c2:(aU x.fDY:Int)≤t - aU x.fWeight - aU x.fDX
      · skip
        rw [if_pos c2,if_neg (by omega)]
        rw [if_pos (by omega)];congr 1;omega
      · rw [if_neg c2,if_pos (by omega),if_neg (by omega)]
    · rw [if_neg c1,if_pos (by omega),if_neg (by omega)]
  · rw [if_neg c0,if_pos (by omega),if_neg (by omega)]
theorem aIu (x:Link) (h:fP x≤4294967296):tB x=some x:=by
  unfold fP at h
  unfold tB
  rw [xH x.fWeight (by omega)]
  simp only [Option.bind_some]
  rw [xH x.fDX (by omega)]
  simp only [Option.bind_some]
  rw [xH x.fDY (by omega)]
  simp only [Option.bind_some]
theorem aIJ (x:Link) (h:fP x≤4294967296):tC x x=some true:=by
  unfold fP at h
  unfold tC
  have e0:=tH x.fWeight (by omega)
  have e1:=tH x.fDX (by omega)
  have e2:=tH x.fDY (by omega)
  simp only [e0,e1,e2,Option.bind_some,if_true,ne_eq,not_true_eq_false,if_false,beq_self_eq_true]
def cJ (x:(List Link)):Nat:=szL fP x
theorem aE4 (x:(List Link)) (o:(okL aBg) x) (t:Int) (h0:0≤t) (h1:t≤1048576):oY x t=some (if (cJ x:Int)≤t then t - cJ x else -1):=by
  have hl:x.length≤9223372036854775807:=o.1
  have e:=aA8 fP x
  unfold oY cJ
  simp only [aN]
  rw [wi (by omega)]
  by_cases c:t - (x.length:Int) < 0
  · rw [if_pos c,if_neg (by omega)]
  · rw [if_neg c,aEA x fP qT (fun y hy t a b=>aIw y (o.2 y hy) t a b) (fun k t hk=>by unfold qD;simp only [];rw [if_pos (by omega),aW hk];simp only [Option.bind_some];rw [wi (by omega)]) (fun t=>by unfold qD;simp only [];rw [if_neg (by omega)]) _ (by omega) (by omega)]
    by_cases d:((x.map fP).sum:Int)≤t - x.length
    · rw [if_pos d,if_pos (by omega)];simp only [Option.bind_some];congr 1;omega
    · rw [if_neg d,if_neg (by omega)];rfl
theorem aE0 (x:(List Link)) (h:cJ x≤4294967296):oX x=some x:=by
  have hl:=jU fP x
  unfold cJ at h
  unfold oX
  rw [bM (by omega)]
  simp only [Option.bind_some]
  have:=aAS (step:=mW x) x (List.replicate (x.length:Int).toNat (Link.mk 0 0 (Rat.mk (BigInt.mk false ([])) ([])) (Rat.mk (BigInt.mk false ([])) ([])) (Rat.mk (BigInt.mk false ([])) ([])))) (fun k m=>((k:Int),m)) (fun m=>m) (by simp) (fun k m hk hm=>by
    have he:=mF (w:=fP) (List.getElem_mem hk)
    unfold mW
    simp only []
    rw [if_pos (by omega),aW hk,aW (l:=m) (by omega)]
    simp only [Option.bind_some,aN,hJ,aIu _ (show fP x[k]≤4294967296 by omega)]
    rw [wi (by omega)];rfl)
   (fun m hm=>by unfold mW;simp only [];rw [if_neg (by omega)])
  rw [show ((0:Nat):Int)=0 from rfl] at this
  rw [this];rfl
theorem aFA (x:(List Link)) (h:cJ x≤4294967296):oZ x x=some true:=by
  have hl:=jU fP x
  unfold cJ at h
  unfold oZ
  rw [if_neg (by simp),yB x.length (.inl ())]
  · rfl
  · intro k hk
    have he:=mF (w:=fP) (List.getElem_mem hk)
    unfold qE
    rw [if_pos (by omega),aW hk]
    simp only [Option.bind_some,aIJ _ (show fP x[k]≤4294967296 by omega),if_true]
    rw [wi (by omega)];rfl
  · unfold qE;rw [if_neg (by omega)]
theorem aFk (x:(List Link)) (k:Int) (h0:0≤k) (h1:k+100*(cJ x:Int)≤4611686018427387904):∃ k' x',jP x k=some (k',x')∧k≤k'∧k'≤k+100*(cJ x:Int)∧x'.length=x.length:=by
  unfold cJ at h1 ⊢
  obtain ⟨k',l',p1,p2,p4,p5⟩:=aEC (ms:=kI) fP x (fun hl y k h0 h1=>by
    simp only [fP,aU,cR] at h1 ⊢
    obtain ⟨k0,x0,e0,g0,a0,b0,l0⟩:=iD y.fWeight.fNum.fMag (k+1+1+1) (by omega) (by omega)
    obtain ⟨k1,x1,e1,g1,a1,b1,l1⟩:=iD y.fWeight.fDen (k0) (by omega) (by omega)
    obtain ⟨k2,x2,e2,g2,a2,b2,l2⟩:=iD y.fDX.fNum.fMag (k1+1) (by omega) (by omega)
    obtain ⟨k3,x3,e3,g3,a3,b3,l3⟩:=iD y.fDX.fDen (k2) (by omega) (by omega)
    obtain ⟨k4,x4,e4,g4,a4,b4,l4⟩:=iD y.fDY.fNum.fMag (k3+1) (by omega) (by omega)
    obtain ⟨k5,x5,e5,g5,a5,b5,l5⟩:=iD y.fDY.fDen (k4) (by omega) (by omega)
    have w0:IntKind.i64.wrap (k+1)=k+1:=wi (by omega)
    have w1:IntKind.i64.wrap (k+1+1)=k+1+1:=wi (by omega)
    have w2:IntKind.i64.wrap (k+1+1+1)=k+1+1+1:=wi (by omega)
    have w3:IntKind.i64.wrap (k1+1)=k1+1:=wi (by omega)
    have w4:IntKind.i64.wrap (k3+1)=k3+1:=wi (by omega)
    have n0:¬k0 < 0:=by omega
    have n1:¬k1 < 0:=by omega
    have n2:¬k2 < 0:=by omega
    have n3:¬k3 < 0:=by omega
    have n4:¬k4 < 0:=by omega
    have n5:¬k5 < 0:=by omega
    refine ⟨k5,(Link.mk (k) (k+1) (Rat.mk (BigInt.mk (decide ((k+1+1).tmod 3=0)) x0) x1) (Rat.mk (BigInt.mk (decide ((k1).tmod 3=0)) x2) x3) (Rat.mk (BigInt.mk (decide ((k3).tmod 3=0)) x4) x5)),by omega,by omega,fun m i hi hm=>?_⟩
    · have hlt:=(List.getElem?_eq_some_iff.1 hi).1
      have wi':IntKind.i64.wrap ((i:Int)+1)=(i:Int)+1:=wi (by omega)
      unfold kI
      simp only []
      rw [if_pos (by omega)]
      simp only [aN,hJ,aBn hi,yF hlt,List.set_set,Option.bind_some,w0,w1,w2,w3,w4,e0,e1,e2,e3,e4,e5,wi'])
   (fun k m hm=>by unfold kI;simp only [];rw [if_neg (by omega)]) k h0 h1
  exact ⟨k',l',by unfold jP qL;simp only [p1,Option.bind_some];rw [bM p2];rfl,p4,p5,p2⟩
def bR (x:TreeNode):Nat:=cJ x.fOwn+aL x.fCond+cJ x.fMessages+aU x.fEnergy
theorem aE3 (x:TreeNode) (o:tZ x) (t:Int) (h0:0≤t) (h1:t≤1048576):jY x t=some (if (bR x:Int)≤t then t - bR x else -1):=by
  unfold jY bR
  rw [aE4 x.fOwn o.2.2.1 (t) (by omega) (by omega)]
  simp only [Option.bind_some]
  by_cases c0:(cJ x.fOwn:Int)≤t
  · skip
    rw [if_pos c0,if_neg (by omega)]
    rw [xK x.fCond o.2.2.2.1 (t - cJ x.fOwn) (by omega) (by omega)]
    simp only [Option.bind_some]
    by_cases c1:(aL x.fCond:Int)≤t - cJ x.fOwn
    · skip
      rw [if_pos c1,if_neg (by omega)]
      rw [aE4 x.fMessages o.2.2.2.2.1 (t - cJ x.fOwn - aL x.fCond) (by omega) (by omega)]
      simp only [Option.bind_some]
      by_cases c2:(cJ x.fMessages:Int)≤t - cJ x.fOwn - aL x.fCond
      · skip
        rw [if_pos c2,if_neg (by omega)]
        rw [xJ x.fEnergy o.2.2.2.2.2.1 (t - cJ x.fOwn - aL x.fCond - cJ x.fMessages) (by omega) (by omega)]
        simp only [Option.bind_some]
        by_cases c3:(aU x.fEnergy:Int)≤t - cJ x.fOwn - aL x.fCond - cJ x.fMessages
        · skip
          rw [if_pos c3,if_neg (by omega)]
          rw [if_pos (by omega)];congr 1;omega
        · rw [if_neg c3,if_pos (by omega),if_neg (by omega)]
      · rw [if_neg c2,if_pos (by omega),if_neg (by omega)]
    · rw [if_neg c1,if_pos (by omega),if_neg (by omega)]
  · rw [if_neg c0,if_pos (by omega),if_neg (by omega)]
theorem aEZ (x:TreeNode) (h:bR x≤4294967296):mV x=some x:=by
  unfold bR at h
  unfold mV
  rw [aE0 x.fOwn (by omega)]
  simp only [Option.bind_some]
  rw [xI x.fCond (by omega)]
  simp only [Option.bind_some]
  rw [aE0 x.fMessages (by omega)]
  simp only [Option.bind_some]
  rw [xH x.fEnergy (by omega)]
  simp only [Option.bind_some]
theorem aFz (x:TreeNode) (h:bR x≤4294967296):mZ x x=some true:=by
  unfold bR at h
  unfold mZ
  have e0:=aFA x.fOwn (by omega)
  have e1:=yH x.fCond (by omega)
  have e2:=aFA x.fMessages (by omega)
  have e3:=tH x.fEnergy (by omega)
  simp only [e0,e1,e2,e3,Option.bind_some,if_true,ne_eq,not_true_eq_false,if_false,beq_self_eq_true]
def cW (x:(List TreeNode)):Nat:=szL bR x
theorem aD5 (x:(List TreeNode)) (o:(okL tZ) x) (t:Int) (h0:0≤t) (h1:t≤1048576):lP x t=some (if (cW x:Int)≤t then t - cW x else -1):=by
  have hl:x.length≤9223372036854775807:=o.1
  have e:=aA8 bR x
  unfold lP cW
  simp only [aN]
  rw [wi (by omega)]
  by_cases c:t - (x.length:Int) < 0
  · rw [if_pos c,if_neg (by omega)]
  · rw [if_neg c,aEA x bR jY (fun y hy t a b=>aE3 y (o.2 y hy) t a b) (fun k t hk=>by unfold lD;simp only [];rw [if_pos (by omega),aW hk];simp only [Option.bind_some];rw [wi (by omega)]) (fun t=>by unfold lD;simp only [];rw [if_neg (by omega)]) _ (by omega) (by omega)]
    by_cases d:((x.map bR).sum:Int)≤t - x.length
    · rw [if_pos d,if_pos (by omega)];simp only [Option.bind_some];congr 1;omega
    · rw [if_neg d,if_neg (by omega)];rfl
theorem aD3 (x:(List TreeNode)) (h:cW x≤4294967296):lO x=some x:=by
  have hl:=jU bR x
  unfold cW at h
  unfold lO
  rw [bM (by omega)]
  simp only [Option.bind_some]
  have:=aAS (step:=iP x) x (List.replicate (x.length:Int).toNat (TreeNode.mk 0 0 ([]) (Conditional.mk 0 (Rat.mk (BigInt.mk false ([])) ([])) ([])) ([]) (Rat.mk (BigInt.mk false ([])) ([])))) (fun k m=>((k:Int),m)) (fun m=>m) (by simp) (fun k m hk hm=>by
    have he:=mF (w:=bR) (List.getElem_mem hk)
    unfold iP
    simp only []
    rw [if_pos (by omega),aW hk,aW (l:=m) (by omega)]
    simp only [Option.bind_some,aN,hJ,aEZ _ (show bR x[k]≤4294967296 by omega)]
    rw [wi (by omega)];rfl)
   (fun m hm=>by unfold iP;simp only [];rw [if_neg (by omega)])
  rw [show ((0:Nat):Int)=0 from rfl] at this
  rw [this];rfl
theorem aEH (x:(List TreeNode)) (h:cW x≤4294967296):lS x x=some true:=by
  have hl:=jU bR x
  unfold cW at h
  unfold lS
  rw [if_neg (by simp),yB x.length (.inl ())]
  · rfl
  · intro k hk
    have he:=mF (w:=bR) (List.getElem_mem hk)
    unfold lE
    rw [if_pos (by omega),aW hk]
    simp only [Option.bind_some,aFz _ (show bR x[k]≤4294967296 by omega),if_true]
    rw [wi (by omega)];rfl
  · unfold lE;rw [if_neg (by omega)]
theorem aEw (x:(List TreeNode)) (k:Int) (h0:0≤k) (h1:k+100*(cW x:Int)≤4611686018427387904):∃ k' x',gP x k=some (k',x')∧k≤k'∧k'≤k+100*(cW x:Int)∧x'.length=x.length:=by
  unfold cW at h1 ⊢
  obtain ⟨k',l',p1,p2,p4,p5⟩:=aEC (ms:=gI) bR x (fun hl y k h0 h1=>by
    simp only [bR,aL,aU,cR] at h1 ⊢
    obtain ⟨k0,x0,e0,a0,b0,l0⟩:=aFk y.fOwn (k+1+1) (by omega) (by omega)
    obtain ⟨k1,x1,e1,g1,a1,b1,l1⟩:=iD y.fCond.fTotal.fNum.fMag (k0+1+1) (by omega) (by omega)
    obtain ⟨k2,x2,e2,g2,a2,b2,l2⟩:=iD y.fCond.fTotal.fDen (k1) (by omega) (by omega)
    obtain ⟨k3,x3,e3,a3,b3,l3⟩:=aCM y.fCond.fParents (k2) (by omega) (by omega)
    obtain ⟨k4,x4,e4,a4,b4,l4⟩:=aFk y.fMessages (k3) (by omega) (by omega)
    obtain ⟨k5,x5,e5,g5,a5,b5,l5⟩:=iD y.fEnergy.fNum.fMag (k4+1) (by omega) (by omega)
    obtain ⟨k6,x6,e6,g6,a6,b6,l6⟩:=iD y.fEnergy.fDen (k5) (by omega) (by omega)
    have w0:IntKind.i64.wrap (k+1)=k+1:=wi (by omega)
    have w1:IntKind.i64.wrap (k+1+1)=k+1+1:=wi (by omega)
    have w2:IntKind.i64.wrap (k0+1)=k0+1:=wi (by omega)
    have w3:IntKind.i64.wrap (k0+1+1)=k0+1+1:=wi (by omega)
    have w4:IntKind.i64.wrap (k4+1)=k4+1:=wi (by omega)
    have n0:¬k0 < 0:=by omega
    have n1:¬k1 < 0:=by omega
    have n2:¬k2 < 0:=by omega
    have n3:¬k3 < 0:=by omega
    have n4:¬k4 < 0:=by omega
    have n5:¬k5 < 0:=by omega
    have n6:¬k6 < 0:=by omega
    refine ⟨k6,(TreeNode.mk (k) (k+1) x0 (Conditional.mk (k0) (Rat.mk (BigInt.mk (decide ((k0+1).tmod 3=0)) x1) x2) x3) x4 (Rat.mk (BigInt.mk (decide ((k4).tmod 3=0)) x5) x6)),by omega,by omega,fun m i hi hm=>?_⟩
    · have hlt:=(List.getElem?_eq_some_iff.1 hi).1
      have wi':IntKind.i64.wrap ((i:Int)+1)=(i:Int)+1:=wi (by omega)
      unfold gI
      simp only []
      rw [if_pos (by omega)]
      simp only [aN,hJ,aBn hi,yF hlt,List.set_set,Option.bind_some,w0,w1,w2,w3,w4,e0,e1,e2,e3,e4,e5,e6,wi'])
   (fun k m hm=>by unfold gI;simp only [];rw [if_neg (by omega)]) k h0 h1
  exact ⟨k',l',by unfold gP mJ;simp only [p1,Option.bind_some];rw [bM p2];rfl,p4,p5,p2⟩
def eJ (x:Tree):Nat:=cW x.fNodes
theorem aD6 (x:Tree) (o:xP x) (t:Int) (h0:0≤t) (h1:t≤1048576):oB x t=some (if (eJ x:Int)≤t then t - eJ x else -1):=by
  unfold oB eJ
  rw [aD5 x.fNodes o.1 t (by omega) (by omega)]
  simp only [Option.bind_some]
  by_cases c:(cW x.fNodes:Int)≤t
  · rw [if_pos c,if_neg (by omega)]
  · rw [if_neg c];rfl
theorem aD4 (x:Tree) (h:eJ x≤4294967296):dP x=some x:=by
  unfold eJ at h
  unfold dP
  rw [aD3 x.fNodes (by omega)]
  simp only [Option.bind_some]
theorem aEI (x:Tree) (h:eJ x≤4294967296):oF x x=some true:=by
  unfold eJ at h
  unfold oF
  have e0:=aEH x.fNodes (by omega)
  simp only [e0,Option.bind_some,if_true,ne_eq,not_true_eq_false,if_false,beq_self_eq_true]
theorem aEx (x:Tree) (k:Int) (h0:0≤k) (h1:k+100*(eJ x:Int)≤4611686018427387904):∃ k' x',kX x k=some (k',x')∧k≤k'∧k'≤k+100*(eJ x:Int):=by
  unfold eJ at h1 ⊢
  obtain ⟨k0,x0,e0,a0,b0,l0⟩:=aEw x.fNodes (k) (by omega) (by omega)
  have n0:¬k0 < 0:=by omega
  exact ⟨k0,Tree.mk x0,by unfold kX;simp only [e0,Option.bind_some],by omega,by omega⟩
end Go.Ev
/- Fractions made of whole numbers: both programs make the same. -/
namespace Go.Ev
set_option linter.all false
theorem wu {n:Int} (h:0≤n∧n≤18446744073709551615):IntKind.u64.wrap n=n:=by
  have:IntKind.u64.wrap n=n % 18446744073709551616:=by simp [IntKind.wrap,IntKind.bits,IntKind.signed]
  rw [this];omega
theorem aCk (v:Nat):((v:Int)).tmod 1000000000=((v % BB:Nat):Int):=by
  rw [Int.tmod_eq_emod_of_nonneg (by omega),dN];omega
theorem aCl (v:Nat):((v:Int)).tdiv 1000000000=((v / BB:Nat):Int):=by
  rw [Int.tdiv_eq_ediv_of_nonneg (by omega),dN];omega
theorem aCJ:∀ (v:Nat) (t:List Int),v < 18446744073709551616→t.length+(aE v).length≤1000→lp iF ((v:Int),t)=some (t++aE v):=by
  intro v
  induction v using Nat.strongRecOn with
  | _ v ih =>
    intro t hv ht
    by_cases h:v=0
    · subst h
      rw [bD,List.append_nil]
      exact bE (by unfold iF;simp)
    · rw [gT h,List.length_cons] at ht
      have hm:=Nat.mod_lt v rS
      have hd:=Nat.div_le_self v BB
      rw [dN] at hm
      have e:iF ((v:Int),t)=some (.inl (((v / BB:Nat):Int),t++[((v % BB:Nat):Int)])):=by
        unfold iF
        simp only []
        rw [if_pos (by omega),aCk,aCl,wi (by rw [dN];omega),wu (by rw [dN] at hd ⊢;omega),bM (by omega)]
        rfl
      rw [bV e,ih _ (Nat.div_lt_self (by omega) (by rw [dN];omega)) _ (by omega) (by simp;omega),gT h]
      simp
theorem iY {v:Nat} (h:v < 18446744073709551616):(aE v).length≤3:=by
  refine jE ?_
  rw [dN];omega
theorem sV (v:Nat) (h:v < 18446744073709551616):fV (v:Int)=some (aE v):=by
  unfold fV
  have:=iY h
  rw [aCJ v [] h (by simp;omega)]
  simp
theorem aGn:∀ (v:Nat) (t:List Int),v < 9223372036854775808→t.length+(aE v).length≤1000→lp nF ((v:Int),t)=some (t++aE v):=by
  intro v
  induction v using Nat.strongRecOn with
  | _ v ih =>
    intro t hv ht
    by_cases h:v=0
    · subst h
      rw [bD,List.append_nil]
      exact bE (by unfold nF;simp)
    · rw [gT h,List.length_cons] at ht
      have hd:=Nat.div_le_self v BB
      have e:nF ((v:Int),t)=some (.inl (((v / BB:Nat):Int),t++[((v % BB:Nat):Int)])):=by
        unfold nF
        simp only []
        rw [if_pos (by omega),aCk,aCl,wi (by rw [dN] at hd ⊢;omega),bM (by omega)]
        rfl
      rw [bV e,ih _ (Nat.div_lt_self (by omega) (by rw [dN];omega)) _ (by omega) (by simp;omega),gT h]
      simp
theorem wR (v:Nat) (h:v < 9223372036854775808):kM (v:Int)=some (aE v):=by
  unfold kM
  have:=iY (v:=v) (by omega)
  rw [aGn v [] h (by simp;omega)]
  simp
theorem aGS (l:List Int) (hl:l.length≤4294967296):∀ k:Nat,k≤l.length→(∀ i (hi:i < l.length),k≤i→l[i]=0)→lp (eZ l) (k:Int)=some (((pG l).length:Nat):Int):=by
  have htl:∀ (m:List Int) (k:Nat),k≤m.length→(∀ i (hi:i < m.length),k≤i→m[i]=0)→pG m=pG (m.take k):=by
    intro m
    induction m with
    | nil=>intro k _ _;simp
    | cons d m ih =>
      intro k hk hz
      cases k with
      | zero =>
        have h0:d=0:=hz 0 (by simp) (Nat.le_refl _)
        have:=ih 0 (by omega) (fun i hi _=>by have:=hz (i+1) (by simpa using hi) (by omega);simpa using this)
        rw [List.take_zero] at this ⊢
        unfold pG
        rw [this];simp [pG,h0]
      | succ k =>
        have:=ih k (by simpa using hk) (fun i hi hki=>by have:=hz (i+1) (by simpa using hi) (by omega);simpa using this)
        rw [List.take_succ_cons]
        conv=>lhs;unfold pG
        conv=>rhs;unfold pG
        rw [this]
  intro k
  induction k with
  | zero =>
    intro hk hz
    rw [htl l 0 (by omega) hz,List.take_zero]
    exact bE (by unfold eZ;simp [pG])
  | succ k ih =>
    intro hk hz
    have hlt:k < l.length:=by omega
    by_cases c:l[k]=0
    · have e:eZ l ((k+1:Nat):Int)=some (.inl (k:Int)):=by
        unfold eZ
        rw [if_pos (by omega),wi (by omega),show ((k+1:Nat):Int) - 1=(k:Int) by omega,aW hlt]
        simp [c]
      rw [bV e]
      exact ih (by omega) (fun i hi hki=>by
        by_cases e:i=k
        · subst e;exact c
        · exact hz i hi (by omega))
    · have e:eZ l ((k+1:Nat):Int)=some (.inr ((k+1:Nat):Int)):=by
        unfold eZ
        rw [if_pos (by omega),wi (by omega),show ((k+1:Nat):Int) - 1=(k:Int) by omega,aW hlt]
        simp [c]
      rw [bE e,htl l (k+1) hk hz,aAH (l:=l.take (k+1))]
      · simp;omega
      · have e:l.take (k+1)=l.take k++[l[k]]:=by rw [List.take_succ,List.getElem?_eq_getElem hlt];rfl
        rw [e,List.getLast?_concat];simpa using c
theorem aDB (l:List Int):pG l=l.take (pG l).length:=by
  induction l with
  | nil=>rfl
  | cons d l ih =>
    unfold pG
    cases h:pG l with
    | nil =>
      by_cases c:d=0 <;> simp [c]
    | cons t r =>
      rw [h] at ih
      simp only [List.length_cons,List.take_succ_cons] at ih ⊢
      rw [← ih]
theorem aEY (l:List Int):(pG l).length≤l.length:=by
  have:=congrArg List.length (aDB l)
  rw [List.length_take] at this;omega
theorem aDP (l:List Int) (hl:l.length≤4294967296):cU l=some (pG l):=by
  unfold cU
  rw [aGS l hl l.length (Nat.le_refl _) (fun i hi h=>by omega)]
  simp only [Option.bind_some]
  have:=aEY l
  rw [aGu _ _ _ (by omega)]
  simp only [Option.bind_some]
  congr 1
  have e:=aDB l
  simp only [Int.toNat_zero,List.drop_zero,Int.sub_zero,Int.toNat_natCast]
  exact e.symm
theorem aHW (v:Nat) (h:(aE v).length≤60):sS (aE v)=some (aE v):=by
  unfold sS
  rw [aDP _ (by omega)]
  simp only [Option.bind_some]
  rw [aAH (yI v),if_neg (by omega)]
def big (n:Int):BigInt:=⟨decide (n < 0),aE n.natAbs⟩
theorem pA (s:Bool) (v:Nat) (h:(aE v).length≤60):cT s (aE v)=some ⟨s&&decide (v≠0),aE v⟩:=by
  unfold cT
  rw [aHW v h]
  simp only [Option.bind_some]
  have hz:(0 < ((aE v).length:Int))↔v≠0:=by
    constructor
    · intro h e;subst e;rw [bD] at h;simp at h
    · intro h
      have:(aE v).length≠0:=fun e=>eR h (List.length_eq_zero_iff.1 e)
      omega
  cases s with
  | true =>
    simp only [if_true]
    rw [bM (by simp;omega)]
    simp only [Option.bind_some,aN,List.nil_append,Bool.true_and]
    congr 2
    exact decide_eq_decide.2 hz
  | false =>
    simp only [Bool.false_eq_true,if_false]
    rw [bM (by simp;omega)]
    simp only [Option.bind_some,aN,List.nil_append,Bool.false_and]
theorem sF (s:Bool) (v:Nat) (h:(aE v).length≤60):eI s (aE v)=some ⟨s&&decide (v≠0),aE v⟩:=by
  unfold eI
  by_cases hv:v=0
  · subst hv
    rw [bD];simp
  · have:(aE v).length≠0:=fun e=>eR hv (List.length_eq_zero_iff.1 e)
    rw [if_neg (by omega)]
    simp only [Option.bind_some]
    have h2:¬(60 < ((aE v).length:Int)):=by omega
    simp [h2,hv]
theorem aB4 (n:Int) (h:-9223372036854775808≤n∧n≤9223372036854775807):pY n=some (big n):=by
  unfold pY big
  by_cases c:n < 0
  · rw [if_pos c]
    simp only [aN]
    rw [wi (n:=n+1) (by omega),wi (by omega),wu (n:=0 - (n+1)) (by omega),wu (by omega)]
    have e:(0 - (n+1)+1)=((n.natAbs:Nat):Int):=by omega
    have hl:=iY (v:=n.natAbs) (by omega)
    rw [e,sV _ (by omega)]
    simp only [Option.bind_some]
    rw [sF true _ (by omega)]
    simp only [Option.bind_some,Bool.true_and]
    have:n.natAbs≠0:=by omega
    simp [c,this]
  · rw [if_neg c]
    have e:n=((n.natAbs:Nat):Int):=by omega
    have hl:=iY (v:=n.natAbs) (by omega)
    rw [wu (by omega)]
    conv=>lhs;rw [e]
    rw [sV _ (by omega)]
    simp only [Option.bind_some]
    rw [sF false _ (by omega)]
    simp [c]
theorem aBJ (n:Int) (h:-9223372036854775808≤n∧n≤9223372036854775807):pM n=some (big n):=by
  unfold pM big
  by_cases c0:n=-9223372036854775808
  · rw [if_pos c0]
    subst c0
    have hd:([854775808,223372036,9]:List Int)=aE 9223372036854775808:=by
      have h1:dgs [854775808,223372036,9]:=by intro d hd;simp at hd;omega
      have:=wF (l:=[854775808,223372036,9]) ⟨h1,by simp⟩
      rw [this];rfl
    have hl:=iY (v:=9223372036854775808) (by omega)
    rw [hd,pA true _ (by omega)]
    simp only [Option.bind_some]
    rfl
  · rw [if_neg c0]
    by_cases c:n < 0
    · rw [if_pos c,wi (by omega)]
      have e:(0 - n)=((n.natAbs:Nat):Int):=by omega
      have hl:=iY (v:=n.natAbs) (by omega)
      rw [e,wR _ (by omega)]
      simp only [Option.bind_some]
      rw [pA true _ (by omega)]
      simp only [Option.bind_some,Bool.true_and]
      have:n.natAbs≠0:=by omega
      simp [c,this]
    · rw [if_neg c]
      have e:n=((n.natAbs:Nat):Int):=by omega
      have hl:=iY (v:=n.natAbs) (by omega)
      conv=>lhs;rw [e]
      rw [wR _ (by omega)]
      simp only [Option.bind_some]
      rw [pA false _ (by omega)]
      simp [c]
def jL (n:Int):Rat:=⟨big n,[1]⟩
theorem iH (n:Int) (h:-9223372036854775808≤n∧n≤9223372036854775807):dM n=some (jL n):=by
  unfold dM
  rw [aB4 n h];rfl
theorem fR (n:Int) (h:-9223372036854775808≤n∧n≤9223372036854775807):dJ n=some (jL n):=by
  unfold dJ
  rw [aBJ n h];rfl
end Go.Ev
/- Naturals as limbs: order, sums, differences; both programs. -/
namespace Go.Ev
set_option linter.all false
theorem tP:mL=cU:=rfl
theorem vY {l:List Int} (h:dgs l) (hl:l.length≤4294967296):cU l=some (aE (val l)):=by rw [aDP l hl,aCj h]
theorem aFH:uE=fQ:=rfl
theorem aH8 (x y t:Nat):pZ (x+t) (y+t)=pZ x y:=by unfold pZ;simp only [Nat.add_lt_add_iff_right]
theorem aH6 (a b:List Int) (ha:dgs a) (hb:dgs b) (hab:a.length=b.length) (hl:a.length≤4294967296):∀ k:Nat,k≤a.length →
    lp (fQ a b) ((k:Int) - 1)=some (if val (a.take k)=val (b.take k) then .inl () else .inr (pZ (val (a.take k)) (val (b.take k)))):=by
  intro k
  induction k with
  | zero =>
    intro _
    rw [bE (r:=.inl ()) (by unfold fQ;rw [if_neg (by omega)])]
    simp
  | succ k ih =>
    intro hk
    have h1:k < a.length:=by omega
    have h2:k < b.length:=by omega
    have d1:=lF ha h1
    have d2:=lF hb h2
    have v1:=aCi (aFF ha k)
    have v2:=aCi (aFF hb k)
    rw [List.length_take,Nat.min_eq_left (by omega)] at v1 v2
    rw [nC h1,nC h2]
    have hk1:((k+1:Nat):Int) - 1=(k:Int):=by omega
    rw [hk1]
    by_cases c1:a[k] < b[k]
    · rw [bE (r:=.inr (-1)) (by unfold fQ;rw [if_pos (by omega),aW h1,aW h2];simp [c1])]
      have:BB ^ k*(a[k]).toNat+BB ^ k≤BB ^ k*(b[k]).toNat:=by
        rw [← Nat.mul_succ];exact Nat.mul_le_mul_left _ (by omega)
      rw [if_neg (by omega)];unfold pZ;rw [if_pos (by omega)]
    · by_cases c2:b[k] < a[k]
      · rw [bE (r:=.inr 1) (by unfold fQ;rw [if_pos (by omega),aW h1,aW h2];simp [c1,c2])]
        have:BB ^ k*(b[k]).toNat+BB ^ k≤BB ^ k*(a[k]).toNat:=by
          rw [← Nat.mul_succ];exact Nat.mul_le_mul_left _ (by omega)
        rw [if_neg (by omega)];unfold pZ;rw [if_neg (by omega),if_pos (by omega)]
      · have e:a[k]=b[k]:=by omega
        rw [bV (s':=(k:Int) - 1) (by unfold fQ;rw [if_pos (by omega),aW h1,aW h2,wi (by omega)];simp [c1,c2]),ih (by omega),e]
        by_cases c3:val (a.take k)=val (b.take k)
        · rw [if_pos c3,if_pos (by omega)]
        · rw [if_neg c3,if_neg (by omega)]
          rw [aH8]
theorem aFI {x y:Nat} (h:(aE x).length < (aE y).length):pZ x y=-1:=by unfold pZ;rw [if_pos (aF6 h)]
theorem aDT {x y:Nat} (h:(aE y).length < (aE x).length):pZ x y=1:=by have:=aF6 h;unfold pZ;rw [if_neg (by omega),if_pos this]
theorem aH7 (x y:Nat) (hx:(aE x).length≤1000) (h:(aE x).length=(aE y).length):lp (fQ (aE x) (aE y)) (((aE x).length:Int) - 1)=some (if x=y then .inl () else .inr (pZ x y)):=by
  have:=aH6 (aE x) (aE y) (eB x) (eB y) h (by omega) (aE x).length (Nat.le_refl _)
  rw [List.take_length,h,List.take_length,dH,dH] at this
  rw [h];exact this
theorem yD (x y:Nat) (hx:(aE x).length≤1000) (hy:(aE y).length≤1000):mB (aE x) (aE y)=some (pZ x y):=by
  unfold mB
  by_cases c:(aE x).length=(aE y).length
  · rw [if_neg (by omega),aN,wi (by omega),aH7 x y hx c]
    by_cases e:x=y
    · subst e;simp [pZ]
    · rw [if_neg e];rfl
  · rw [if_pos (by omega)]
    by_cases c2:(aE x).length < (aE y).length
    · rw [if_pos (by omega),aFI c2]
    · rw [if_neg (by omega),aDT (by omega)]
theorem aCL (x y:Nat) (hx:(aE x).length≤1000) (hy:(aE y).length≤1000):qZ (aE x) (aE y)=some (pZ x y):=by
  unfold qZ
  by_cases c2:(aE x).length < (aE y).length
  · rw [if_pos (by omega),aFI c2]
  · rw [if_neg (by omega)]
    by_cases c3:(aE y).length < (aE x).length
    · rw [if_pos (by omega),aDT c3]
    · rw [if_neg (by omega),aN,wi (by omega),aFH,aH7 x y hx (by omega)]
      by_cases e:x=y
      · subst e;simp [pZ]
      · rw [if_neg e];rfl
theorem aFN (a b:List Int) (i c:Nat) (out:List Int) (x:Nat) (hx:x≤1999999999) (ho:out.length=i) (hi:i≤2000) (hlt:i < a.length∨i < b.length∨c=1) (hc:c≤1)
    (h:(x:Int)=c+(if h:i < a.length then a[i] else 0)+(if h:i < b.length then b[i] else 0)) (ha:dgs a) (hb:dgs b) :
    hG a b ((c:Int),(i:Int),out)=some (.inl (((x / BB:Nat):Int),((i+1:Nat):Int),out++[((x % BB:Nat):Int)])):=by
  unfold hG
  simp only []
  by_cases c1:i < a.length
  · have d1:=lF ha c1
    rw [dif_pos c1] at h
    rw [if_pos (by omega),if_pos (by omega),aW c1]
    simp only [Option.bind_some,if_true]
    rw [wi (by omega)]
    by_cases c2:i < b.length
    · have d2:=lF hb c2
      rw [dif_pos c2] at h
      rw [if_pos (by omega),aW c2]
      simp only [Option.bind_some]
      rw [wi (by omega),← h,bM (by omega)]
      simp only [Option.bind_some,aN]
      rw [aCk,aCl,wi (by rw [dN];omega),wi (by omega)];rfl
    · rw [dif_neg c2] at h
      rw [if_neg (by omega)]
      simp only [Option.bind_some]
      rw [show (c:Int)+a[i]=(x:Int) by omega,bM (by omega)]
      simp only [Option.bind_some,aN]
      rw [aCk,aCl,wi (by rw [dN];omega),wi (by omega)];rfl
  · rw [dif_neg c1] at h
    have n1:¬((i:Int) < (a.length:Int)):=by omega
    simp only [n1,if_false]
    by_cases c2:i < b.length
    · have d2:=lF hb c2
      rw [dif_pos c2] at h
      have n2:((i:Int) < (b.length:Int)):=by omega
      simp only [n2,if_true,Option.bind_some]
      rw [aW c2]
      simp only [Option.bind_some]
      rw [wi (by omega),show (c:Int)+b[i]=(x:Int) by omega,bM (by omega)]
      simp only [Option.bind_some,aN]
      rw [aCk,aCl,wi (by rw [dN];omega),wi (by omega)];rfl
    · rw [dif_neg c2] at h
      have n2:¬((i:Int) < (b.length:Int)):=by omega
      have hc1:c=1:=by omega
      have hc2:(0 < (c:Int)):=by omega
      simp only [n2,hc2,if_false,decide_true,Option.bind_some,if_true]
      rw [show (c:Int)=(x:Int) by omega,bM (by omega)]
      simp only [Option.bind_some,aN]
      rw [aCk,aCl,wi (by rw [dN];omega),wi (by omega)];rfl
theorem aFM (a b:List Int) (i:Nat) (out:List Int) (h1:a.length≤i) (h2:b.length≤i):lp (hG a b) (0,(i:Int),out)=some out :=
  bE (by unfold hG;simp only [];rw [if_neg (by omega),if_neg (by omega)];simp)
theorem aIM (a b:List Int) (ha:dgs a) (hb:dgs b) (i c:Nat) (out:List Int) (hc:c≤1) (ho:out.length=i) (hi:i≤1999) (h1:a.length≤i) (h2:b.length≤i) :
    lp (hG a b) ((c:Int),(i:Int),out)=some (out++aE c):=by
  rcases Nat.eq_zero_or_pos c with e | e
  · subst e
    rw [bD,List.append_nil];exact aFM a b i out h1 h2
  · have e1:c=1:=by omega
    subst e1
    have:=aFN a b i 1 out 1 (by omega) ho (by omega) (.inr (.inr rfl)) (by omega) (by rw [dif_neg (by omega),dif_neg (by omega)];omega) ha hb
    rw [bV this,show 1 / BB=0 from rfl,show 1 % BB=1 from rfl]
    rw [show ((0:Nat):Int)=0 from rfl,aFM a b (i+1) _ (by omega) (by omega),rO (by rw [dN];omega) (by omega)]
theorem aIb (a b:List Int) (ha:nat a) (hb:nat b) (hla:a.length≤1000) (hlb:b.length≤1000):∀ (m i c:Nat) (out:List Int),c≤1→m+i=max a.length b.length→out.length=i →
    lp (hG a b) ((c:Int),(i:Int),out)=some (out++aE (c+(val (a.drop i)+val (b.drop i)))):=by
  intro m
  induction m with
  | zero =>
    intro i c out hc hm ho
    rw [eY (by omega),eY (by omega)]
    exact aIM a b ha.1 hb.1 i c out hc ho (by omega) (by omega) (by omega)
  | succ m ih =>
    intro i c out hc hm ho
    obtain ⟨x,hx,e1,e2,e3⟩:∃ x:Nat,x≤1999999999∧c+(val (a.drop i)+val (b.drop i))=x+BB*(val (a.drop (i+1))+val (b.drop (i+1))) ∧
        c+(val (a.drop i)+val (b.drop i))≠0∧(x:Int)=c+(if h:i < a.length then a[i] else 0)+(if h:i < b.length then b[i] else 0):=by
      by_cases c1:i < a.length
      · have d1:=lF ha.1 c1
        have n1:=aBt ha c1
        have v1:=gV c1
        by_cases c2:i < b.length
        · have d2:=lF hb.1 c2
          have v2:=gV c2
          refine ⟨c+(a[i]).toNat+(b[i]).toNat,by omega,by rw [Nat.mul_add];omega,by omega,by rw [dif_pos c1,dif_pos c2];omega⟩
        · have v2:=eY (l:=b) (k:=i) (by omega)
          have v3:=eY (l:=b) (k:=i+1) (by omega)
          refine ⟨c+(a[i]).toNat,by omega,by rw [Nat.mul_add,v3];omega,by omega,by rw [dif_pos c1,dif_neg c2];omega⟩
      · have c2:i < b.length:=by omega
        have d2:=lF hb.1 c2
        have n2:=aBt hb c2
        have v2:=gV c2
        have v1:=eY (l:=a) (k:=i) (by omega)
        have v3:=eY (l:=a) (k:=i+1) (by omega)
        refine ⟨c+(b[i]).toNat,by omega,by rw [Nat.mul_add,v3];omega,by omega,by rw [dif_neg c1,dif_pos c2];omega⟩
    rw [bV (aFN a b i c out x hx ho (by omega) (by omega) hc e3 ha.1 hb.1),ih (i+1) (x / BB) _ (by rw [dN];omega) (by omega) (by simp [ho])]
    rw [e1] at e2 ⊢
    rw [aFE e2];simp
theorem aFs (x y:Nat) (hx:(aE x).length≤1000) (hy:(aE y).length≤1000):sT (aE x) (aE y)=some (aE (x+y)):=by
  unfold sT
  have:=aIb (aE x) (aE y) (aHO x) (aHO y) hx hy _ 0 0 [] (by omega) (Nat.add_zero _) rfl
  rw [show ((0:Nat):Int)=0 from rfl,List.drop_zero,List.drop_zero,dH,dH,Nat.zero_add] at this
  rw [this];rfl
theorem aHQ (x y:Nat) (hx:(aE x).length≤1000) (hy:(aE y).length≤1000):uW (aE x) (aE y)=some (aE (x+y)):=aFs x y hx hy
theorem aHv (a b:List Int) (ha:dgs a) (hb:dgs b) (hla:a.length≤1000) (hab:b.length≤a.length):∀ (m i c:Nat) (out:List Int),c≤1→m+i=a.length→out.length=i→dgs out→val (a.take i)+c*BB ^ i=val out+val (b.take i) →
    ∃ (c':Nat) (out':List Int),lp (lJ a b) ((c:Int),(i:Int),out)=some out'∧lp (lT a b) ((c:Int),(i:Int),out++List.replicate m 0)=some out'∧dgs out'∧out'.length=a.length∧val a+c'*BB ^ a.length=val out'+val b:=by
  intro m
  induction m with
  | zero =>
    intro i c out hc hm ho hd hv
    have e:i=a.length:=by omega
    refine ⟨c,out,bE ?_,bE ?_,hd,by omega,?_⟩
    · unfold lJ;simp only [];rw [if_neg (by omega)]
    · unfold lT;simp only [];rw [if_neg (by omega)];simp
    · rw [e,List.take_length,List.take_of_length_le hab] at hv;exact hv
  | succ m ih =>
    intro i c out hc hm ho hd hv
    have h1:i < a.length:=by omega
    have d1:=lF ha h1
    obtain ⟨bi,hb1,hb2,hb3⟩:∃ bi:Nat,bi < 1000000000∧val (b.take (i+1))=val (b.take i)+BB ^ i*bi∧(bi:Int)=(if h:i < b.length then b[i] else 0):=by
      by_cases c2:i < b.length
      · have d2:=lF hb c2
        exact ⟨(b[i]).toNat,by omega,nC c2,by rw [dif_pos c2];omega⟩
      · refine ⟨0,by omega,?_,by rw [dif_neg c2];rfl⟩
        rw [List.take_of_length_le (by omega),List.take_of_length_le (by omega)];simp
    obtain ⟨n,c',hn,hc',he⟩:∃ n c':Nat,n < 1000000000∧c'≤1∧a[i] - (c:Int) - (bi:Int)+c'*1000000000=(n:Int)∧(c'=1↔a[i] - (c:Int) - (bi:Int) < 0):=by
      by_cases g:a[i] - (c:Int) - (bi:Int) < 0
      · exact ⟨(a[i] - (c:Int) - (bi:Int)+1000000000).toNat,1,by omega,by omega,by omega,by simp [g]⟩
      · exact ⟨(a[i] - (c:Int) - (bi:Int)).toNat,0,by omega,by omega,by omega,by simp [g]⟩
    obtain ⟨he,hg⟩:=he
    have hs:(n:Int)=a[i] - c - bi+c'*1000000000:=by omega
    have s0:(((if ((i:Int) < (b.length:Int)) then (idx b (i:Int)).bind fun y16=>(bJ (IntKind.i64.wrap (IntKind.i64.wrap (a[i] - c) - y16))).bind fun v17=>some v17 else some (IntKind.i64.wrap (a[i] - c))):Option Int).bind (fun d19=>((if (d19 < 0) then (bJ (IntKind.i64.wrap (d19+1000000000))).bind fun v21=>some (1,v21) else some (0,d19)):Option (Int × Int))))=some ((c':Int),(n:Int)):=by
      rw [wi (by omega)]
      have fin:∀ z:Int,z=a[i] - c - bi→(if (z < 0) then (bJ (IntKind.i64.wrap (z+1000000000))).bind fun v21=>some ((1:Int),v21) else some (0,z))=some ((c':Int),(n:Int)):=by
        intro z hz
        by_cases g:z < 0
        · have e1:c'=1:=hg.2 (by omega)
          subst e1
          rw [if_pos g,aN,wi (by omega)];congr 2;omega
        · have e1:c'=0:=by
            have:¬c'=1:=fun h=>g (by have:=hg.1 h;omega)
            omega
          subst e1
          rw [if_neg g];congr 2;omega
      by_cases c2:i < b.length
      · rw [dif_pos c2] at hb3
        rw [if_pos (by omega),aW c2]
        simp only [Option.bind_some,aN]
        rw [wi (by omega)]
        exact fin _ (by omega)
      · rw [dif_neg c2] at hb3
        rw [if_neg (by omega)]
        simp only [Option.bind_some]
        exact fin _ (by omega)
    have s1:lJ a b ((c:Int),(i:Int),out)=some (.inl ((c':Int),((i+1:Nat):Int),out++[(n:Int)])):=by
      unfold lJ
      simp only []
      rw [if_pos (by omega),aW h1]
      simp only [Option.bind_some]
      rw [← Option.bind_assoc,s0]
      simp only [Option.bind_some]
      rw [bM (by omega),wi (by omega)];rfl
    have s2:lT a b ((c:Int),(i:Int),out++List.replicate (m+1) 0)=some (.inl ((c':Int),((i+1:Nat):Int),(out++[(n:Int)])++List.replicate m 0)):=by
      unfold lT
      simp only []
      rw [if_pos (by omega),aW h1]
      simp only [Option.bind_some]
      rw [← Option.bind_assoc,s0]
      simp only [Option.bind_some]
      rw [aW (by simp;omega),wi (by omega)]
      simp only [Option.bind_some,aN,hJ]
      congr 4
      rw [List.set_append_right _ _ (by omega),ho,Nat.sub_self,List.replicate_succ,List.set_cons_zero];simp
    rw [bV s1,bV s2]
    refine ih (i+1) c' _ hc' (by omega) (by simp [ho]) (by rw [aGK];exact ⟨hd,by intro z hz;simp at hz;omega⟩) ?_
    rw [nC h1,aD2,hb2,ho]
    have e:=congrArg (BB ^ i*·) (show (a[i]).toNat+c'*BB=n+bi+c by rw [dN];omega)
    simp only [Nat.mul_add] at e
    simp only [val,Int.toNat_natCast,Nat.mul_zero,Nat.add_zero]
    have e2:c'*BB ^ (i+1)=BB ^ i*(c'*BB):=by rw [Nat.pow_succ,Nat.mul_comm c',Nat.mul_assoc,Nat.mul_comm BB c']
    rw [e2]
    rw [Nat.mul_comm c] at hv
    omega
theorem aIx {a b c' L:Nat} {out:List Int} (hd:dgs out) (hl:out.length=L) (h:a+c'*BB ^ L=val out+b) (hab:b≤a):val out=a - b:=by
  have:=aCi hd
  rw [hl] at this
  cases c' with
  | zero=>simp at h;omega
  | succ c =>
    rw [Nat.succ_mul] at h
    have:0≤c*BB ^ L:=Nat.zero_le _
    omega
theorem vJ (x y:Nat) (hx:(aE x).length≤1000) (hyx:y≤x):nQ (aE x) (aE y)=some (aE (x - y))∧oI (aE x) (aE y)=some (aE (x - y)):=by
  have hl:(aE y).length≤(aE x).length:=eW hyx (Nat.le_refl _)
  obtain ⟨c',out',e1,e2,e3,e4,e5⟩:=aHv (aE x) (aE y) (eB x) (eB y) hx hl (aE x).length 0 0 [] (by omega) (by omega) rfl yZ (by simp [val])
  rw [dH,dH] at e5
  have hv:=aIx e3 e4 e5 hyx
  rw [show ((0:Nat):Int)=0 from rfl] at e1 e2
  rw [List.nil_append] at e2
  constructor
  · unfold nQ
    rw [e1]
    simp only [Option.bind_some]
    rw [vY e3 (by omega),hv];rfl
  · unfold oI
    rw [bM (by omega)]
    simp only [Option.bind_some,Int.toNat_natCast]
    rw [e2]
    simp only [Option.bind_some]
    rw [tP,vY e3 (by omega),hv];rfl
end Go.Ev
/- Naturals as limbs: products; both programs. -/
namespace Go.Ev
set_option linter.all false
theorem aFi (a b:List Int) (i:Nat) (hi:i < a.length):rL a b (i:Int)=gZ b (i:Int) a[i]:=by
  funext s
  obtain ⟨c,j,v⟩:=s
  unfold rL gZ
  simp only [aW hi,Option.bind_some,aN]
  split
  · cases idx v (IntKind.i64.wrap ((i:Int)+j)) with
    | none=>cases idx b j <;> rfl
    | some y =>
      cases idx b j with
      | none=>rfl
      | some z=>simp only [Option.bind_some];rw [Int.add_comm c]
  · rfl
theorem aG5 (b:List Int) (i x:Nat) (hx:x < 1000000000) (hb:dgs b) (hlb:b.length≤1000) (hi:i≤1000):∀ (m j c:Nat) (v:List Int),m+j=b.length→c < 1000000000→dgs v→i+b.length≤v.length→v.length≤2000 →
    ∃ (c':Nat) (v':List Int),lp (gZ b (i:Int) (x:Int)) ((c:Int),(j:Int),v)=some ((c':Int),v')∧c' < 1000000000∧dgs v'∧v'.length=v.length∧v'.drop (i+b.length)=v.drop (i+b.length) ∧
      val v'+c'*BB ^ (i+b.length)+x*BB ^ i*val (b.take j)=val v+c*BB ^ (i+j)+x*BB ^ i*val b:=by
  intro m
  induction m with
  | zero =>
    intro j c v hm hc hv hl hl2
    have e:j=b.length:=by omega
    subst e
    refine ⟨c,v,bE ?_,hc,hv,rfl,rfl,?_⟩
    · unfold gZ;simp only [];rw [if_neg (by omega)]
    · rw [List.take_length]
  | succ m ih =>
    intro j c v hm hc hv hl hl2
    have h1:j < b.length:=by omega
    have h2:i+j < v.length:=by omega
    have d1:=lF hb h1
    have d2:=lF hv h2
    obtain ⟨y,hy⟩:∃ y:Nat,b[j]=(y:Int):=⟨(b[j]).toNat,by omega⟩
    obtain ⟨z,hz⟩:∃ z:Nat,v[i+j]=(z:Int):=⟨(v[i+j]).toNat,by omega⟩
    have hxy:x*y≤999999999*999999999:=Nat.mul_le_mul (by omega) (by omega)
    have hxy0:((x:Int)*(y:Int))=((x*y:Nat):Int):=by push_cast;rfl
    have s1:gZ b (i:Int) (x:Int) ((c:Int),(j:Int),v)=some (.inl ((((z+x*y+c) / BB:Nat):Int),((j+1:Nat):Int),v.set (i+j) (((z+x*y+c) % BB:Nat):Int))):=by
      unfold gZ
      simp only []
      rw [if_pos (by omega),aW h1,wi (by omega),show (i:Int)+(j:Int)=((i+j:Nat):Int) by omega,aW h2]
      simp only [Option.bind_some,aN,hJ,hy,hz,hxy0]
      rw [wi (n:=((x*y:Nat):Int)) (by omega),wi (n:=(z:Int)+_) (by omega),wi (n:=(z:Int)+_+_) (by omega),show (z:Int)+((x*y:Nat):Int)+(c:Int)=((z+x*y+c:Nat):Int) by omega,aCk,aCl,wi (by rw [dN];omega),wi (by omega)]
      rfl
    have hm1:=Nat.mod_lt (z+x*y+c) rS
    have hm2:=Nat.mod_add_div (z+x*y+c) BB
    obtain ⟨c',v',e1,e2,e3,e4,e5,e6⟩:=ih (j+1) ((z+x*y+c) / BB) (v.set (i+j) (((z+x*y+c) % BB:Nat):Int)) (by omega) (by rw [dN];omega) (aA3 hv _ _ (by rw [dN] at hm1 ⊢;omega)) (by simpa using hl) (by simpa using hl2)
    refine ⟨c',v',by rw [bV s1];exact e1,e2,e3,by simpa using e4,?_,?_⟩
    · rw [e5,List.drop_set_of_lt (by omega)]
    · have hs:=aD1 (l:=v) (x:=(((z+x*y+c) % BB:Nat):Int)) h2
      rw [hz] at hs
      simp only [Int.toNat_natCast] at hs
      rw [nC h1,hy,Int.toNat_natCast] at e6
      have f1:x*BB ^ i*(val (b.take j)+BB ^ j*y)=x*BB ^ i*val (b.take j)+BB ^ (i+j)*(x*y):=by
        rw [Nat.mul_add,Nat.pow_add]
        congr 1
        rw [Nat.mul_assoc x,Nat.mul_assoc (BB ^ i),Nat.mul_left_comm x,Nat.mul_left_comm x]
      rw [f1] at e6
      have f2:(z+x*y+c) / BB*BB ^ (i+(j+1))=BB ^ (i+j)*(BB*((z+x*y+c) / BB)):=by
        rw [← Nat.add_assoc,Nat.pow_succ,Nat.mul_comm ((z+x*y+c) / BB),Nat.mul_assoc]
      rw [f2] at e6
      have f3:=congrArg (BB ^ (i+j)*·) hm2
      simp only [Nat.mul_add] at f3
      rw [Nat.mul_comm c]
      omega
theorem tN {l:List Int} {k:Nat} {x:Int}:(l.set k x).drop (k+1)=l.drop (k+1):=by rw [List.drop_set_of_lt (by omega)]
theorem aG4 (a b:List Int) (ha:dgs a) (hb:dgs b) (hla:a.length≤900) (hlb:b.length≤900):∀ (m i:Nat) (v:List Int),m+i=a.length→v.length=a.length+b.length→dgs v→v.drop (i+b.length)=List.replicate m 0→val v=val (a.take i)*val b →
    ∃ v':List Int,lp (lK a b) ((i:Int),v)=some v'∧lp (lU a b) ((i:Int),v)=some v'∧dgs v'∧v'.length=a.length+b.length∧val v'=val a*val b:=by
  intro m
  induction m with
  | zero =>
    intro i v hm hl hv hz he
    have e:i=a.length:=by omega
    subst e
    rw [List.take_length] at he
    refine ⟨v,bE ?_,bE ?_,hv,hl,he⟩
    · unfold lK;simp only [];rw [if_neg (by omega)]
    · unfold lU;simp only [];rw [if_neg (by omega)]
  | succ m ih =>
    intro i v hm hl hv hz he
    have h1:i < a.length:=by omega
    have d1:=lF ha h1
    obtain ⟨x,hx⟩:∃ x:Nat,a[i]=(x:Int):=⟨(a[i]).toNat,by omega⟩
    obtain ⟨c',v',e1,e2,e3,e4,e5,e6⟩:=aG5 b i x (by omega) hb (by omega) (by omega) b.length 0 0 v (by omega) (by omega) hv (by omega) (by omega)
    rw [show ((0:Nat):Int)=0 from rfl] at e1
    have h2:i+b.length < v'.length:=by omega
    have hzero:v'[i+b.length]=0:=by
      have q:(v'.drop (i+b.length))[0]?=some 0:=by rw [e5,hz];simp [List.replicate_succ]
      rw [List.getElem?_drop,Nat.add_zero,List.getElem?_eq_getElem h2] at q
      exact Option.some.inj q
    have s1:lK a b ((i:Int),v)=some (.inl (((i+1:Nat):Int),v'.set (i+b.length) (c':Int))):=by
      unfold lK
      simp only []
      rw [if_pos (by omega),aW h1,hx]
      simp only [Option.bind_some]
      rw [e1]
      simp only [Option.bind_some,aN]
      rw [wi (by omega),show (i:Int)+(b.length:Int)=((i+b.length:Nat):Int) by omega,aW h2]
      simp only [Option.bind_some,hJ]
      rw [wi (by omega)];rfl
    have s2:lU a b ((i:Int),v)=some (.inl (((i+1:Nat):Int),v'.set (i+b.length) (c':Int))):=by
      unfold lU
      simp only []
      rw [if_pos (by omega),aFi a b i h1,hx,e1]
      simp only [Option.bind_some,aN]
      rw [wi (by omega),show (i:Int)+(b.length:Int)=((i+b.length:Nat):Int) by omega,aW h2]
      simp only [Option.bind_some,hJ]
      rw [wi (by omega)];rfl
    rw [bV s1,bV s2]
    refine ih (i+1) _ (by omega) (by rw [List.length_set];omega) (aA3 e3 _ _ (by omega)) ?_ ?_
    · rw [show i+1+b.length=(i+b.length)+1 by omega,tN,← List.drop_drop,e5,hz,List.replicate_succ];simp
    · have hs:=aD1 (l:=v') (x:=(c':Int)) h2
      rw [hzero] at hs
      simp only [Int.toNat_natCast,Int.toNat_zero,Nat.mul_zero,Nat.add_zero] at hs
      rw [List.take_zero] at e6
      simp only [val,Nat.mul_zero,Nat.zero_mul,Nat.add_zero] at e6
      rw [nC h1,hx,Int.toNat_natCast,Nat.add_mul,← he,hs,Nat.mul_comm (BB ^ (i+b.length)),e6,Nat.mul_comm x]
theorem mS (x y:Nat) (hx:(aE x).length≤900) (hy:(aE y).length≤900):dE (aE x) (aE y)=some (aE (x*y))∧qX (aE x) (aE y)=some (aE (x*y)):=by
  unfold dE qX
  by_cases c1:(aE x).length=0
  · have:x=0:=aCZ.1 (List.length_eq_zero_iff.1 c1)
    subst this
    rw [if_pos (by omega)]
    simp [bD]
  · rw [if_neg (by omega)]
    by_cases c2:(aE y).length=0
    · have:y=0:=aCZ.1 (List.length_eq_zero_iff.1 c2)
      subst this
      simp [bD]
    · have n2:¬(((aE y).length:Int)=0):=by omega
      simp only [n2,decide_false,Option.bind_some,Bool.false_eq_true,if_false,aN]
      rw [wi (by omega),show ((aE x).length:Int)+((aE y).length:Int)=(((aE x).length+(aE y).length:Nat):Int) by omega,bM (by omega)]
      simp only [Option.bind_some,Int.toNat_natCast]
      obtain ⟨v',e1,e2,e3,e4,e5⟩:=aG4 (aE x) (aE y) (eB x) (eB y) hx hy (aE x).length 0 (List.replicate ((aE x).length+(aE y).length) 0) (by omega) (by simp) (aCa _) (by simp) (by simp [aIt,val])
      rw [show ((0:Nat):Int)=0 from rfl] at e1 e2
      rw [dH,dH] at e5
      rw [e1,e2]
      simp only [Option.bind_some]
      rw [tP,vY e3 (by omega),e5]
      exact ⟨rfl,rfl⟩
end Go.Ev
/- Naturals as limbs: quotients; both programs. -/
namespace Go.Ev
set_option linter.all false
theorem aIK (x y:Nat):(aE (x / y)).length≤(aE x).length:=eW (Nat.div_le_self x y) (Nat.le_refl _)
theorem aGC (x:Nat) {y:Nat} (h:0 < y):(aE (x % y)).length≤(aE y).length:=eW (Nat.le_of_lt (Nat.mod_lt x h)) (Nat.le_refl _)
theorem aE1 (x y:Nat):((x:Int)).tdiv (y:Int)=((x / y:Nat):Int):=by
  rw [Int.tdiv_eq_ediv_of_nonneg (by omega)];rfl
theorem aFV (x y:Nat):((x:Int)).tmod (y:Int)=((x % y:Nat):Int):=by
  rw [Int.tmod_eq_emod_of_nonneg (by omega)];rfl
theorem aIZ (r:Nat):(r:Int)*1000000000=((r*BB:Nat):Int):=by rw [Int.natCast_mul];rfl
theorem aFY (a:List Int) (d:Nat) (hd:0 < d∧d < 1000000000) (ha:dgs a) (hla:a.length≤1000):∀ (k r:Nat) (v:List Int),k≤a.length→r < d→dgs v→v.length=a.length→val (a.drop k)=d*val (v.drop k)+r→v.take k=List.replicate k 0 →
    ∃ (r':Nat) (v':List Int),lp (jG a (d:Int)) ((r:Int),(k:Int) - 1,v)=some ((r':Int),v')∧r' < d∧dgs v'∧v'.length=a.length∧val a=d*val v'+r':=by
  intro k
  induction k with
  | zero =>
    intro r v hk hr hv hl he ht
    refine ⟨r,v,bE ?_,hr,hv,hl,by simpa using he⟩
    unfold jG;simp only [];rw [if_neg (by omega)]
  | succ k ih =>
    intro r v hk hr hv hl he ht
    have h1:k < a.length:=by omega
    have h2:k < v.length:=by omega
    have d1:=lF ha h1
    obtain ⟨x,hx⟩:∃ x:Nat,a[k]=(x:Int):=⟨(a[k]).toNat,by omega⟩
    have hn:r*BB+x < d*BB:=by
      have:(r+1)*BB≤d*BB:=Nat.mul_le_mul_right _ hr
      rw [Nat.succ_mul] at this
      have:x < BB:=by rw [dN];omega
      omega
    have hq:(r*BB+x) / d < BB:=by rw [Nat.div_lt_iff_lt_mul hd.1,Nat.mul_comm BB];exact hn
    have hm:=Nat.mod_lt (r*BB+x) hd.1
    have hmd:=Nat.mod_add_div (r*BB+x) d
    have hrB:r*BB≤999999999*1000000000:=Nat.mul_le_mul (by omega) (by rw [dN];omega)
    have t1:=aE1 (r*BB+x) d
    have t2:=aFV (r*BB+x) d
    generalize (r*BB+x) / d=Q at hq hmd t1
    generalize (r*BB+x) % d=R at hm hmd t2
    rw [dN] at hq
    have s1:jG a (d:Int) ((r:Int),((k+1:Nat):Int) - 1,v)=some (.inl ((R:Int),(k:Int) - 1,v.set k (Q:Int))):=by
      unfold jG
      simp only []
      rw [show ((k+1:Nat):Int) - 1=(k:Int) by omega,if_pos (by omega),aW h1,hx,aW h2]
      simp only [Option.bind_some,aN,hJ]
      rw [aIZ,wi (n:=((r*BB:Nat):Int)) (by omega),show ((r*BB:Nat):Int)+(x:Int)=((r*BB+x:Nat):Int) by omega,bM (by omega),wi (n:=((r*BB+x:Nat):Int)) (by omega),t1,t2]
      simp only [Option.bind_some]
      rw [wi (by omega),wi (by omega)]
    obtain ⟨r',v',e1,e2,e3,e4,e5⟩:=ih R (v.set k (Q:Int)) (by omega) hm (aA3 hv _ _ (by omega)) (by simpa using hl) (by
        rw [gV h1,gV (l:=v.set k _) (by simpa using h2),List.getElem_set_self,tN,he,hx,Int.toNat_natCast,Int.toNat_natCast]
        rw [Nat.mul_add,Nat.mul_add d,← Nat.mul_assoc BB d,← Nat.mul_assoc d BB,Nat.mul_comm BB d]
        rw [Nat.mul_comm BB r]
        omega) (by
        rw [List.take_set_of_le (by omega)]
        have:=congrArg (List.take k) ht
        rw [List.take_take,Nat.min_eq_left (by omega),List.take_replicate,Nat.min_eq_left (by omega)] at this
        exact this)
    exact ⟨r',v',by rw [bV s1];exact e1,e2,e3,e4,e5⟩
theorem aAq {a b q r:Nat} (hb:r < b) (h:a=b*q+r):q=a / b∧r=a % b:=by
  subst h
  constructor
  · rw [Nat.mul_comm,Nat.add_comm,Nat.add_mul_div_right _ _ (by omega),Nat.div_eq_of_lt hb,Nat.zero_add]
  · rw [Nat.add_comm,Nat.add_mul_mod_self_left,Nat.mod_eq_of_lt hb]
theorem aF7 (x d:Nat) (hd:0 < d∧d < 1000000000) (hx:(aE x).length≤1000):pH (aE x) (d:Int)=some (aE (x / d),((x % d:Nat):Int)):=by
  obtain ⟨r',v',e1,e2,e3,e4,e5⟩:=aFY (aE x) d hd (eB x) hx (aE x).length 0 (List.replicate (aE x).length 0) (Nat.le_refl _) hd.1 (aCa _) (by simp) (by rw [eY (Nat.le_refl _),eY (by simp)];rfl) (by simp)
  rw [dH] at e5
  obtain ⟨q1,q2⟩:=aAq e2 e5
  unfold pH
  rw [bM (by omega)]
  simp only [Option.bind_some,aN,Int.toNat_natCast]
  rw [show ((0:Nat):Int)=0 from rfl] at e1
  rw [wi (by omega),e1]
  simp only [Option.bind_some]
  rw [vY e3 (by omega),q1,q2];rfl
theorem aGf (r b:Nat) (hb:0 < b) (hlr:(aE r).length≤800) (hlb:(aE b).length≤800):∀ (m lo hi:Nat),hi - lo≤m→lo≤r / b→r / b≤hi→hi≤999999999→lp (eF (aE r) (aE b)) ((lo:Int),(hi:Int))=some ((r / b:Nat):Int):=by
  intro m
  induction m with
  | zero =>
    intro lo hi h1 h2 h3 h4
    have:lo=r / b:=by omega
    subst this
    refine bE ?_
    unfold eF;simp only [];rw [if_neg (by omega)]
  | succ m ih =>
    intro lo hi h1 h2 h3 h4
    by_cases c:lo < hi
    · have hq:((lo:Int)+(hi:Int)+1).tdiv 2=(((lo+hi+1) / 2:Nat):Int):=by
        rw [show (lo:Int)+(hi:Int)+1=((lo+hi+1:Nat):Int) by omega,show (2:Int)=((2:Nat):Int) from rfl,aE1]
      obtain ⟨q,hqe⟩:∃ q,q=(lo+hi+1) / 2:=⟨_,rfl⟩
      have hlq:(aE q).length≤1:=jE (by rw [dN];omega)
      have hlm:(aE (b*q)).length≤900:=by have:=eE b q;omega
      have hc:pZ (b*q) r≤0↔q≤r / b:=by
        rw [Nat.le_div_iff_mul_le hb,Nat.mul_comm q b]
        unfold pZ
        by_cases c1:b*q < r
        · rw [if_pos c1];constructor <;> intro _ <;> omega
        · rw [if_neg c1]
          by_cases c2:r < b*q
          · rw [if_pos c2];constructor <;> intro _ <;> omega
          · rw [if_neg c2];constructor <;> intro _ <;> omega
      by_cases c2:q≤r / b
      · have s1:eF (aE r) (aE b) ((lo:Int),(hi:Int))=some (.inl ((q:Int),(hi:Int))):=by
          unfold eF
          simp only [aN]
          rw [if_pos (by omega),wi (n:=(lo:Int)+hi) (by omega),wi (n:=(lo:Int)+hi+1) (by omega),hq,← hqe,wi (by omega),wR _ (by omega)]
          simp only [Option.bind_some]
          rw [(mS b q (by omega) (by omega)).1]
          simp only [Option.bind_some]
          rw [yD _ _ (by omega) (by omega)]
          simp only [Option.bind_some]
          rw [if_pos (hc.2 c2)]
        rw [bV s1]
        exact ih q hi (by omega) c2 h3 h4
      · have s1:eF (aE r) (aE b) ((lo:Int),(hi:Int))=some (.inl ((lo:Int),((q - 1:Nat):Int))):=by
          unfold eF
          simp only [aN]
          rw [if_pos (by omega),wi (n:=(lo:Int)+hi) (by omega),wi (n:=(lo:Int)+hi+1) (by omega),hq,← hqe,wi (n:=(q:Int)) (by omega),wR _ (by omega)]
          simp only [Option.bind_some]
          rw [(mS b q (by omega) (by omega)).1]
          simp only [Option.bind_some]
          rw [yD _ _ (by omega) (by omega)]
          simp only [Option.bind_some]
          rw [if_neg (fun h=>c2 (hc.1 h)),wi (by omega),show (q:Int) - 1=((q - 1:Nat):Int) by omega]
        rw [bV s1]
        exact ih lo (q - 1) (by omega) h2 (by omega) (by omega)
    · have:lo=r / b:=by omega
      subst this
      refine bE ?_
      unfold eF;simp only [];rw [if_neg (by omega)]
theorem aF8 (r b:Nat) (hb:0 < b) (hlr:(aE r).length≤800) (hlb:(aE b).length≤800) (h:r / b≤999999999):pI (aE r) (aE b)=some ((r / b:Nat):Int):=by
  unfold pI
  have:=aGf r b hb hlr hlb 999999999 0 999999999 (by omega) (Nat.zero_le _) h (Nat.le_refl _)
  rw [show ((0:Nat):Int)=0 from rfl,show ((999999999:Nat):Int)=999999999 from rfl] at this
  rw [this];rfl
end Go.Ev
/- Naturals as limbs: quotients of any length; both programs. -/
namespace Go.Ev
set_option linter.all false
theorem aBE {d:Nat} (h:d < BB):(aE d).length≤1:=jE (by simpa using h)
theorem aCX (x R:Nat) (hx:x < 1000000000) (hl:(aE R).length≤4000):cU ([(x:Int)]++aE R)=some (aE (x+BB*R)):=by
  rw [vY (by rw [aGK];exact ⟨by intro z hz;simp at hz;omega,eB R⟩) (by simp;omega)]
  rw [List.singleton_append,val,dH,Int.toNat_natCast]
theorem aE9 {R b:Nat} (h:R < b*BB):(aE R).length≤(aE b).length+2:=by
  have h1:=eE b BB
  have h2:(aE BB).length≤2:=jE (by rw [dN];omega)
  have h3:=eW (Nat.le_of_lt h) (Nat.le_refl _)
  omega
theorem aGw {x R b:Nat} (hx:x < 1000000000) (hR:R < b):x+BB*R < b*BB:=by
  have:(R+1)*BB≤b*BB:=Nat.mul_le_mul_right _ hR
  rw [Nat.succ_mul,Nat.mul_comm R] at this
  have:x < BB:=by rw [dN];omega
  omega
theorem aEn {R b:Nat} (hb:0 < b) (h:R < b*BB):R / b < BB:=by rw [Nat.div_lt_iff_lt_mul hb,Nat.mul_comm BB];exact h
theorem aH4 (a:List Int) (b:Nat) (hb:0 < b) (hlb:(aE b).length≤700) (ha:dgs a) (hla:a.length≤1000):∀ (k R:Nat) (v:List Int),k≤a.length→R < b→dgs v→v.length=a.length→val (a.drop k)=b*val (v.drop k)+R→v.take k=List.replicate k 0 →
    ∃ (R':Nat) (v':List Int),lp (lL a (aE b)) (aE R,(k:Int) - 1,v)=some (aE R',v')∧R' < b∧dgs v'∧v'.length=a.length∧val a=b*val v'+R':=by
  intro k
  induction k with
  | zero =>
    intro R v hk hr hv hl he ht
    refine ⟨R,v,bE ?_,hr,hv,hl,by simpa using he⟩
    unfold lL;simp only [];rw [if_neg (by omega)]
  | succ k ih =>
    intro R v hk hr hv hl he ht
    have h1:k < a.length:=by omega
    have h2:k < v.length:=by omega
    have d1:=lF ha h1
    obtain ⟨x,hx⟩:∃ x:Nat,a[k]=(x:Int):=⟨(a[k]).toNat,by omega⟩
    have hx2:x < 1000000000:=by omega
    have hn:=aGw hx2 hr
    have hq:=aEn hb hn
    have hm:=Nat.mod_lt (x+BB*R) hb
    have hmd:=Nat.mod_add_div (x+BB*R) b
    have hlR:(aE R).length≤(aE b).length:=eW (Nat.le_of_lt hr) (Nat.le_refl _)
    have hlR2:=aE9 hn
    have hv0:v[k]=0:=by
      have q:(v.take (k+1))[k]?=some 0:=by rw [ht];simp
      rw [List.getElem?_take_of_lt (by omega),List.getElem?_eq_getElem h2] at q
      exact Option.some.inj q
    obtain ⟨Q,hQ⟩:∃ Q,Q=(x+BB*R) / b:=⟨_,rfl⟩
    obtain ⟨M,hM⟩:∃ M,M=(x+BB*R) % b:=⟨_,rfl⟩
    have hq':(x+BB*R) / b < 1000000000:=Nat.lt_of_lt_of_eq hq dN
    have hq2:Q < 1000000000:=by rw [hQ];exact hq'
    have s1:lL a (aE b) (aE R,((k+1:Nat):Int) - 1,v)=some (.inl (aE M,(k:Int) - 1,v.set k (Q:Int))):=by
      unfold lL
      simp only []
      rw [show ((k+1:Nat):Int) - 1=(k:Int) by omega,if_pos (by omega),aW h1,hx,aW h2]
      simp only [Option.bind_some,aN,hJ]
      rw [bM (by simp;omega)]
      simp only [Option.bind_some]
      rw [aCX x R hx2 (by omega)]
      simp only [Option.bind_some]
      rw [yD _ _ (by omega) (by omega)]
      simp only [Option.bind_some]
      by_cases c:x+BB*R < b
      · have e1:Q=0:=by rw [hQ,Nat.div_eq_of_lt c]
        have e2:M=x+BB*R:=by rw [hM,Nat.mod_eq_of_lt c]
        have e3:v.set k ((0:Nat):Int)=v:=by
          apply List.ext_getElem
          · simp
          · intro i q1 q2
            rw [List.getElem_set]
            split
            · rename_i h;subst h;exact hv0.symm
            · rfl
        rw [e1,e2,e3,if_pos (by unfold pZ;rw [if_pos c];omega),wi (by omega)]
      · have hcm:¬pZ (x+BB*R) b < 0:=by
          unfold pZ;rw [if_neg c];split <;> omega
        rw [if_neg hcm,aF8 _ b hb (by omega) (by omega) (by omega)]
        simp only [Option.bind_some]
        rw [← hQ,wR _ (by omega)]
        simp only [Option.bind_some]
        have hl1:(aE Q).length≤1:=aBE (by rw [dN];omega)
        rw [(mS b Q (by omega) (by omega)).1]
        simp only [Option.bind_some]
        rw [← hM,← hQ] at hmd
        rw [(vJ (x+BB*R) (b*Q) (by omega) (by omega)).1]
        simp only [Option.bind_some]
        rw [show x+BB*R - b*Q=M by omega,wi (by omega)]
    obtain ⟨R',v',e1,e2,e3,e4,e5⟩:=ih M (v.set k (Q:Int)) (by omega) (by rw [hM];exact hm) (aA3 hv _ _ (by omega)) (by simpa using hl) (by
        rw [gV h1,gV (l:=v.set k _) (by simpa using h2),List.getElem_set_self,tN,he,hx,Int.toNat_natCast,Int.toNat_natCast]
        rw [Nat.mul_add,Nat.mul_add b,← Nat.mul_assoc BB b,← Nat.mul_assoc b BB,Nat.mul_comm BB b]
        rw [← hM,← hQ] at hmd
        omega) (by
        rw [List.take_set_of_le (by omega)]
        have:=congrArg (List.take k) ht
        rw [List.take_take,Nat.min_eq_left (by omega),List.take_replicate,Nat.min_eq_left (by omega)] at this
        exact this)
    exact ⟨R',v',by rw [bV s1];exact e1,e2,e3,e4,e5⟩
theorem aCU (x b:Nat) (hb:0 < b) (hx:(aE x).length≤700) (hlb:(aE b).length≤700):kA (aE x) (aE b)=some (aE (x / b),aE (x % b)):=by
  unfold kA
  by_cases c:(aE b).length=1
  · rw [if_pos (by omega)]
    have hbB:b < BB:=by have:=nJ b;rw [c,Nat.pow_one] at this;exact this
    have e:=rO hbB (by omega)
    rw [show (0:Int)=((0:Nat):Int) from rfl,aW (by omega)]
    simp only [e,List.getElem_cons_zero,Option.bind_some]
    rw [dN] at hbB
    rw [aF7 x b ⟨hb,by omega⟩ (by omega)]
    simp only [Option.bind_some]
    have:=Nat.mod_lt x hb
    rw [wR _ (by omega)];rfl
  · rw [if_neg (by omega),bM (by omega)]
    simp only [Option.bind_some,aN,Int.toNat_natCast]
    obtain ⟨r',v',e1,e2,e3,e4,e5⟩:=aH4 (aE x) b hb hlb (eB x) (by omega) (aE x).length 0 (List.replicate (aE x).length 0) (Nat.le_refl _) hb (aCa _) (by simp) (by rw [eY (Nat.le_refl _),eY (by simp)];rfl) (by simp)
    rw [dH] at e5
    rw [bD] at e1
    obtain ⟨q1,q2⟩:=aAq e2 e5
    rw [wi (by omega),e1]
    simp only [Option.bind_some]
    rw [vY e3 (by omega),q1,q2];rfl
theorem aII (R b:Nat) (hb:0 < b) (hR:b≤R) (h:R < b*BB) (hlb:(aE b).length≤700):∃ g:Nat,pV (aE R) (aE b)=some (g:Int)∧1≤g∧b*g≤R:=by
  obtain ⟨m,hm⟩:∃ m,(aE b).length=m+1:=by
    have:(aE b).length≠0:=fun e=>eR (n:=b) (by omega) (List.length_eq_zero_iff.1 e)
    exact ⟨(aE b).length - 1,by omega⟩
  have hbl:=nJ b
  rw [hm,Nat.pow_succ] at hbl
  have hr1:m+1≤(aE R).length:=by rw [← hm];exact eW hR (Nat.le_refl _)
  have hRl:R < BB ^ m*BB*BB:=Nat.lt_of_lt_of_le h (Nat.mul_le_mul_right _ (Nat.le_of_lt hbl))
  have hr2:(aE R).length≤m+2:=jE (by rw [Nat.pow_succ,Nat.pow_succ];exact hRl)
  have hp:=aHJ m
  have hbt:b / BB ^ m < BB:=by rw [Nat.div_lt_iff_lt_mul hp,Nat.mul_comm BB];exact hbl
  have hT:R / BB ^ m < BB*BB:=by rw [Nat.div_lt_iff_lt_mul hp,Nat.mul_comm (BB*BB),← Nat.mul_assoc];exact hRl
  have hbd:b < BB ^ m*(b / BB ^ m+1):=Nat.lt_mul_div_succ b hp
  have hTd:BB ^ m*(R / BB ^ m)≤R:=Nat.mul_div_le R _
  have hi1:m < (aE R).length:=by omega
  have hi2:m < (aE b).length:=by omega
  have g1:=yJ hi1
  have g2:=yJ hi2
  rw [Nat.mod_eq_of_lt hbt] at g2
  unfold pV
  simp only [aN]
  rw [hm,wi (by omega),show (((m+1:Nat):Int) - 1)=(m:Int) by omega,aW hi1,aW hi2,g1,g2]
  simp only [Option.bind_some]
  have top:((if (((m+1:Nat):Int) < ((aE R).length:Int)) then (idx (aE R) ((m+1:Nat):Int)).bind fun y3=>some (IntKind.i64.wrap (((R / BB ^ m % BB:Nat):Int)+IntKind.i64.wrap (y3*1000000000))) else some ((R / BB ^ m % BB:Nat):Int)):Option Int)=some ((R / BB ^ m:Nat):Int):=by
    have hmod:=Nat.mod_add_div (R / BB ^ m) BB
    by_cases c:m+1 < (aE R).length
    · have g3:=yJ c
      rw [Nat.pow_succ,← Nat.div_div_eq_div_mul] at g3
      have h3:R / BB ^ m / BB < BB:=by rw [Nat.div_lt_iff_lt_mul rS];exact hT
      rw [Nat.mod_eq_of_lt h3] at g3
      rw [if_pos (by omega),aW c,g3]
      simp only [Option.bind_some]
      generalize R / BB ^ m=T at hT hmod h3 ⊢
      have h4:T % BB < BB:=Nat.mod_lt _ rS
      generalize T % BB=T0 at hmod h4 ⊢
      generalize T / BB=T1 at hmod h3 ⊢
      rw [aIZ,Nat.mul_comm T1]
      rw [dN] at hT
      rw [wi (n:=((BB*T1:Nat):Int)) (by omega),wi (by omega)];congr 1;omega
    · have e:(aE R).length=m+1:=by omega
      have h3:R / BB ^ m < BB:=by
        rw [Nat.div_lt_iff_lt_mul hp,Nat.mul_comm BB,← Nat.pow_succ]
        have:=nJ R
        rwa [e] at this
      rw [if_neg (by omega),Nat.mod_eq_of_lt h3]
  rw [top]
  simp only [Option.bind_some]
  by_cases c:m=0
  · subst c
    rw [if_pos (by omega),show (0:Int)=((0:Nat):Int) from rfl,aW hi2,g2]
    simp only [Nat.pow_zero,Nat.div_one,Option.bind_some]
    rw [bM (by omega),aE1]
    have hq:=aEn hb h
    rw [dN] at hq
    generalize hQ:R / b=Q at hq
    refine ⟨Q,by simp only [Option.bind_some];rw [wi (by omega)],?_,?_⟩
    · rw [← hQ,Nat.le_div_iff_mul_le hb];omega
    · rw [← hQ];exact Nat.mul_div_le R b
  · rw [if_neg (by omega)]
    generalize b / BB ^ m=t at hbt hbd ⊢
    generalize R / BB ^ m=T at hT hTd ⊢
    rw [dN] at hbt
    rw [wi (n:=(t:Int)+1) (by omega),bM (by omega),show (t:Int)+1=((t+1:Nat):Int) by omega,aE1]
    have hg:=Nat.div_mul_le_self T (t+1)
    have hgT:T / (t+1)≤T:=Nat.div_le_self _ _
    generalize T / (t+1)=G at hg hgT ⊢
    rw [dN] at hT
    simp only [Option.bind_some]
    rw [wi (by omega)]
    by_cases c2:G=0
    · subst c2
      exact ⟨1,by rw [if_pos (by omega)];rfl,Nat.le_refl _,by omega⟩
    · refine ⟨G,by rw [if_neg (by omega)],by omega,?_⟩
      have e1:G*b≤G*(BB ^ m*(t+1)):=Nat.mul_le_mul_left _ (Nat.le_of_lt hbd)
      have e2:BB ^ m*(G*(t+1))≤BB ^ m*T:=Nat.mul_le_mul_left _ hg
      rw [Nat.mul_left_comm] at e2
      rw [Nat.mul_comm b];omega
theorem aGe (b:Nat) (hb:0 < b) (hlb:(aE b).length≤700) (k:Nat):∀ (R q0:Nat) (v:List Int),R < b*BB→k < v.length→v[k]?=some (q0:Int)→q0+R / b≤999999999 →
    lp (lW (aE b) (k:Int)) (aE R,v)=some (aE (R % b),v.set k ((q0+R / b:Nat):Int)):=by
  intro R
  induction R using Nat.strongRecOn with
  | _ R ih =>
    intro q0 v hR hk hv hq
    have hl:=aE9 hR
    by_cases c:R < b
    · rw [Nat.div_eq_of_lt c,Nat.mod_eq_of_lt c,Nat.add_zero]
      have:v.set k (q0:Int)=v:=by
        apply List.ext_getElem
        · simp
        · intro i p1 p2
          rw [List.getElem_set]
          split
          · rename_i h;subst h
            rw [List.getElem?_eq_getElem hk] at hv;exact (Option.some.inj hv).symm
          · rfl
      rw [this]
      refine bE ?_
      unfold lW
      simp only []
      rw [aCL _ _ (by omega) (by omega)]
      simp only [Option.bind_some]
      rw [if_neg (by unfold pZ;rw [if_pos c];omega)]
    · obtain ⟨g,e1,e2,e3⟩:=aII R b hb (by omega) hR hlb
      have hgq:g≤R / b:=by rw [Nat.le_div_iff_mul_le hb,Nat.mul_comm];exact e3
      have hdiv:(R - b*g) / b=R / b - g:=by rw [Nat.sub_mul_div]
      have hmod:(R - b*g) % b=R % b:=Nat.sub_mul_mod (by omega)
      have hbg:b≤b*g:=Nat.le_mul_of_pos_right _ e2
      generalize R / b=Q at hq hgq hdiv ⊢
      have hd:([(g:Int)]:List Int)=aE g:=(rO (by rw [dN];omega) (by omega)).symm
      have hl1:(aE g).length≤1:=aBE (by rw [dN];omega)
      have s1:lW (aE b) (k:Int) (aE R,v)=some (.inl (aE (R - b*g),v.set k ((q0+g:Nat):Int))):=by
        unfold lW
        simp only []
        rw [aCL _ _ (by omega) (by omega)]
        simp only [Option.bind_some]
        rw [if_pos (by unfold pZ;rw [if_neg c];split <;> omega),e1]
        simp only [Option.bind_some]
        rw [hd,(mS b g (by omega) (by omega)).2]
        simp only [Option.bind_some]
        rw [(vJ R (b*g) (by omega) e3).2]
        simp only [Option.bind_some]
        rw [yY,hv]
        simp only [Option.bind_some,aN,hJ]
        rw [wi (by omega)];rfl
      rw [bV s1,ih (R - b*g) (by omega) (q0+g) _ (by omega) (by simpa using hk) (by rw [List.getElem?_set_self hk]) (by rw [hdiv];omega),hmod,hdiv,List.set_set]
      congr 3;congr 1;omega
theorem aHk (a:List Int) (b:Nat) (hb:0 < b) (hlb:(aE b).length≤700) (ha:dgs a) (hla:a.length≤1000):∀ (k R:Nat) (v:List Int),k≤a.length→R < b→dgs v→v.length=a.length→val (a.drop k)=b*val (v.drop k)+R→v.take k=List.replicate k 0 →
    ∃ (R':Nat) (v':List Int),lp (lV a (aE b)) (aE R,(k:Int) - 1,v)=some (aE R',v')∧R' < b∧dgs v'∧v'.length=a.length∧val a=b*val v'+R':=by
  intro k
  induction k with
  | zero =>
    intro R v hk hr hv hl he ht
    refine ⟨R,v,bE ?_,hr,hv,hl,by simpa using he⟩
    unfold lV;simp only [];rw [if_neg (by omega)]
  | succ k ih =>
    intro R v hk hr hv hl he ht
    have h1:k < a.length:=by omega
    have h2:k < v.length:=by omega
    have d1:=lF ha h1
    obtain ⟨x,hx⟩:∃ x:Nat,a[k]=(x:Int):=⟨(a[k]).toNat,by omega⟩
    have hx2:x < 1000000000:=by omega
    have hn:=aGw hx2 hr
    have hq:=aEn hb hn
    have hm:=Nat.mod_lt (x+BB*R) hb
    have hmd:=Nat.mod_add_div (x+BB*R) b
    have hlR:(aE R).length≤(aE b).length:=eW (Nat.le_of_lt hr) (Nat.le_refl _)
    have hv0:v[k]?=some ((0:Nat):Int):=by
      have q:(v.take (k+1))[k]?=some 0:=by rw [ht];simp
      rw [List.getElem?_take_of_lt (by omega)] at q
      exact q
    have hq':(x+BB*R) / b < 1000000000:=Nat.lt_of_lt_of_eq hq dN
    clear hq
    have inn:=aGe b hb hlb k (x+BB*R) 0 v hn h2 hv0 (by omega)
    rw [Nat.zero_add] at inn
    generalize (x+BB*R) / b=Q at hq' hmd inn
    generalize (x+BB*R) % b=M at hm hmd inn
    have s1:lV a (aE b) (aE R,((k+1:Nat):Int) - 1,v)=some (.inl (aE M,(k:Int) - 1,v.set k (Q:Int))):=by
      unfold lV
      simp only []
      rw [show ((k+1:Nat):Int) - 1=(k:Int) by omega,if_pos (by omega),aW h1,hx]
      simp only [Option.bind_some,aN]
      rw [bM (by simp;omega)]
      simp only [Option.bind_some]
      rw [tP,aCX x R hx2 (by omega)]
      simp only [Option.bind_some]
      rw [inn]
      simp only [Option.bind_some]
      rw [wi (by omega)]
    obtain ⟨R',v',e1,e2,e3,e4,e5⟩:=ih M (v.set k (Q:Int)) (by omega) hm (aA3 hv _ _ (by omega)) (by simpa using hl) (by
        rw [gV h1,gV (l:=v.set k _) (by simpa using h2),List.getElem_set_self,tN,he,hx,Int.toNat_natCast,Int.toNat_natCast]
        rw [Nat.mul_add,Nat.mul_add b,← Nat.mul_assoc BB b,← Nat.mul_assoc b BB,Nat.mul_comm BB b]
        omega) (by
        rw [List.take_set_of_le (by omega)]
        have:=congrArg (List.take k) ht
        rw [List.take_take,Nat.min_eq_left (by omega),List.take_replicate,Nat.min_eq_left (by omega)] at this
        exact this)
    exact ⟨R',v',by rw [bV s1];exact e1,e2,e3,e4,e5⟩
theorem aHw:∀ (l:List Int),dgs l→l.length≤2→eV l=some (val l:Int)
  | [],_,_=>by
    unfold eV
    simp only [aN,List.length_nil]
    rw [wi (by omega),bE (r:=0) (by unfold dA;simp)];rfl
  | [d],h,_=>by
    rw [lY] at h
    unfold eV
    simp only [aN,List.length_cons,List.length_nil]
    have s1:dA [d] (0,((0:Nat):Int))=some (.inl (d,-1)):=by
      unfold dA
      simp only []
      rw [if_pos (by omega),aW (by simp)]
      simp only [Option.bind_some,aN,List.getElem_cons_zero]
      rw [wi (n:=0*1000000000) (by omega),wi (by omega),wi (by omega)]
      simp
    rw [wi (by omega),show (((0+1:Nat):Int) - 1)=((0:Nat):Int) by omega,bV s1,bE (r:=d) (by unfold dA;simp)]
    simp [val] <;> omega
  | [d,e],h,_=>by
    rw [lY,lY] at h
    unfold eV
    simp only [aN,List.length_cons,List.length_nil]
    have s1:dA [d,e] (0,((1:Nat):Int))=some (.inl (e,((0:Nat):Int))):=by
      unfold dA
      simp only []
      rw [if_pos (by omega),aW (by simp)]
      simp only [Option.bind_some,aN,List.getElem_cons_zero,List.getElem_cons_succ]
      rw [wi (n:=0*1000000000) (by omega),wi (by omega),wi (by omega)]
      simp
    have s2:dA [d,e] (e,((0:Nat):Int))=some (.inl (e*1000000000+d,-1)):=by
      unfold dA
      simp only []
      rw [if_pos (by omega),aW (by simp)]
      simp only [Option.bind_some,aN,List.getElem_cons_zero]
      rw [wi (n:=e*1000000000) (by omega),wi (by omega),wi (by omega)]
      rfl
    rw [wi (by omega),show (((0+1+1:Nat):Int) - 1)=((1:Nat):Int) by omega,bV s1,bV s2,bE (r:=e*1000000000+d) (by unfold dA;simp)]
    simp only [Option.bind_some,val,dN,Nat.mul_zero,Nat.add_zero]
    congr 1;omega
  | _::_::_::_,_,h=>by simp at h <;> omega
theorem aAy (x:Nat) (h:(aE x).length≤2):eV (aE x)=some (x:Int):=by rw [aHw _ (eB x) h,dH]
theorem rY {x:Nat} (h:(aE x).length≤2):x < 1000000000000000000:=by
  have h1:=nJ x
  have h2:BB ^ (aE x).length≤BB ^ 2:=Nat.pow_le_pow_right rS h
  have h3:BB ^ 2=1000000000000000000:=by rw [dN]
  omega
theorem aCK (x b:Nat) (hb:0 < b) (hx:(aE x).length≤700) (hlb:(aE b).length≤700):oJ (aE x) (aE b)=some (aE (x / b),aE (x % b)):=by
  unfold oJ
  by_cases c:(aE x).length≤2∧(aE b).length≤2
  · have h1:=rY c.1
    have h2:=rY c.2
    have n1:((aE x).length:Int)≤2:=by omega
    have n2:((aE b).length:Int)≤2:=by omega
    simp only [n1,n2,if_true,decide_true,Option.bind_some]
    rw [aAy x c.1,aAy b c.2]
    simp only [Option.bind_some,aN]
    have q1:=Nat.div_le_self x b
    have q2:=Nat.mod_le x b
    rw [bM (by omega),aE1,aFV]
    generalize x / b=Q at q1 ⊢
    generalize x % b=M at q2 ⊢
    simp only [Option.bind_some]
    rw [wi (by omega),wu (by omega),wu (by omega),sV Q (by omega),sV M (by omega)]
    rfl
  · have:((if ((aE x).length:Int)≤2 then some (decide (((aE b).length:Int)≤2)) else some false):Option Bool)=some false:=by
      by_cases c1:(aE x).length≤2
      · have c2:¬(aE b).length≤2:=fun h=>c ⟨c1,h⟩
        rw [if_pos (by omega),decide_eq_false (by omega)]
      · rw [if_neg (by omega)]
    rw [this]
    simp only [Option.bind_some,Bool.false_eq_true,if_false,aN]
    rw [bM (by omega)]
    simp only [Option.bind_some,Int.toNat_natCast]
    obtain ⟨r',v',e1,e2,e3,e4,e5⟩:=aHk (aE x) b hb hlb (eB x) (by omega) (aE x).length 0 (List.replicate (aE x).length 0) (Nat.le_refl _) hb (aCa _) (by simp) (by rw [eY (Nat.le_refl _),eY (by simp)];rfl) (by simp)
    rw [dH] at e5
    rw [bD] at e1
    obtain ⟨q1,q2⟩:=aAq e2 e5
    rw [wi (by omega),e1]
    simp only [Option.bind_some]
    rw [tP,vY e3 (by omega),q1,q2];rfl
end Go.Ev
/- Naturals as limbs: greatest common divisors, and which lists are naturals; both programs. -/
namespace Go.Ev
set_option linter.all false
theorem aCW (x y:Nat):Nat.gcd x y=Nat.gcd y (x % y):=by rw [Nat.gcd_comm x y,Nat.gcd_rec y x,Nat.gcd_comm]
theorem aCE:∀ (y x:Nat),lp jR ((x:Int),(y:Int))=some ((Nat.gcd x y:Nat):Int):=by
  intro y
  induction y using Nat.strongRecOn with
  | _ y ih =>
    intro x
    by_cases c:y=0
    · subst c
      rw [Nat.gcd_zero_right]
      exact bE (by unfold jR;simp)
    · have s1:jR ((x:Int),(y:Int))=some (.inl ((y:Int),((x % y:Nat):Int))):=by
        unfold jR
        simp only []
        rw [if_pos (by omega),bM (by omega),aFV];rfl
      rw [bV s1,ih (x % y) (Nat.mod_lt _ (by omega)),← aCW]
theorem aF2:rX=jR:=rfl
theorem aFw {x y:Nat} (hx:x < 1000000000000000000) (hy:y < 1000000000000000000):Nat.gcd x y < 1000000000000000000:=by
  by_cases c:x=0
  · subst c;rw [Nat.gcd_zero_left];exact hy
  · have:=Nat.gcd_le_left y (Nat.pos_of_ne_zero c);omega
theorem aHc:∀ (y x:Nat),(aE x).length≤700→(aE y).length≤700→∃ r,lp jQ (aE x,aE y)=some r∧(r=.inl (aE (Nat.gcd x y))∨r=.inr (aE (Nat.gcd x y))):=by
  intro y
  induction y using Nat.strongRecOn with
  | _ y ih =>
    intro x hx hy
    by_cases c:y=0
    · subst c
      rw [Nat.gcd_zero_right]
      refine ⟨.inl (aE x),bE ?_,.inl rfl⟩
      unfold jQ
      simp [bD]
    · have hy0:(aE y).length≠0:=fun e=>eR c (List.length_eq_zero_iff.1 e)
      by_cases c2:(aE x).length≤2∧(aE y).length≤2
      · refine ⟨.inr (aE (Nat.gcd x y)),bE ?_,.inr rfl⟩
        have h1:=rY c2.1
        have h2:=rY c2.2
        have h3:=aFw h1 h2
        have n1:((aE x).length:Int)≤2:=by omega
        have n2:((aE y).length:Int)≤2:=by omega
        unfold jQ
        simp only [n1,n2,if_true,decide_true,Option.bind_some]
        rw [if_pos (by omega),aAy x c2.1,aAy y c2.2]
        simp only [Option.bind_some]
        rw [aCE]
        simp only [Option.bind_some]
        rw [wu (by omega),sV _ (by omega)];rfl
      · have s1:jQ (aE x,aE y)=some (.inl (aE y,aE (x % y))):=by
          unfold jQ
          simp only []
          have:((if ((aE x).length:Int)≤2 then some (decide (((aE y).length:Int)≤2)) else some false):Option Bool)=some false:=by
            by_cases c1:(aE x).length≤2
            · have c2:¬(aE y).length≤2:=fun h=>c2 ⟨c1,h⟩
              rw [if_pos (by omega),decide_eq_false (by omega)]
            · rw [if_neg (by omega)]
          rw [if_pos (by omega),this]
          simp only [Option.bind_some,Bool.false_eq_true,if_false]
          rw [aCK x y (by omega) hx hy];rfl
        rw [bV s1,aCW x y]
        exact ih (x % y) (Nat.mod_lt _ (by omega)) y hy (by have:=aGC x (y:=y) (by omega);omega)
theorem aFh (x y:Nat) (hx:(aE x).length≤700) (hy:(aE y).length≤700):qY (aE x) (aE y)=some (aE (Nat.gcd x y)):=by
  unfold qY
  obtain ⟨r,e1,e2⟩:=aHc y x hx hy
  have hl:(aE (Nat.gcd x y)).length≤700:=by
    by_cases c:x=0
    · subst c;rw [Nat.gcd_zero_left];exact hy
    · exact Nat.le_trans (eW (Nat.gcd_le_left y (Nat.pos_of_ne_zero c)) (Nat.le_refl _)) hx
  rw [e1]
  rcases e2 with rfl | rfl
  · simp only [Option.bind_some]
    unfold eD
    rw [bM (by simp;omega)];rfl
  · rfl
instance (l:List Int):Decidable (dgs l):=by unfold dgs;infer_instance
def rU (l:List Int):Prop:=dgs l∧l.length≤60∧l.getLast?≠some 0
instance (l:List Int):Decidable (rU l):=by unfold rU;infer_instance
theorem aG3 {l:List Int} (h:rU l):nat l:=⟨h.1,h.2.2⟩
theorem mI {l:List Int} (h:rU l):l=aE (val l):=wF (aG3 h)
theorem aAI {x:Nat} (h:(aE x).length≤60):rU (aE x):=⟨eB x,h,yI x⟩
theorem aHL (l:List Int) (hl:l.length≤4294967296):∀ m k:Nat,m+k=l.length→lp (kY l) (k:Int)=some (if dgs (l.drop k) then .inl () else .inr false):=by
  intro m
  induction m with
  | zero =>
    intro k hk
    rw [if_pos (by rw [List.drop_eq_nil_of_le (by omega)];exact yZ)]
    exact bE (by unfold kY;rw [if_neg (by omega)])
  | succ m ih =>
    intro k hk
    have hlt:k < l.length:=by omega
    by_cases c:0≤l[k]∧l[k] < 1000000000
    · have s1:kY l (k:Int)=some (.inl ((k+1:Nat):Int)):=by
        unfold kY
        have n1:¬l[k] < 0:=by omega
        have n2:¬1000000000≤l[k]:=by omega
        rw [if_pos (by omega),aW hlt,wi (by omega)]
        simp [n1,n2]
      rw [bV s1,ih (k+1) (by omega)]
      have hd:dgs (l.drop k)↔dgs (l.drop (k+1)):=by rw [List.drop_eq_getElem_cons hlt,lY];exact ⟨fun h=>h.2,fun h=>⟨c,h⟩⟩
      simp only [hd]
    · have h2:¬dgs (l.drop k):=by rw [List.drop_eq_getElem_cons hlt,lY];exact fun h=>c h.1
      rw [if_neg h2]
      refine bE ?_
      unfold kY
      rw [if_pos (by omega),aW hlt]
      simp only [Option.bind_some]
      by_cases n1:l[k] < 0
      · rw [if_pos n1];rfl
      · rw [if_neg n1,decide_eq_true (by omega)];rfl
theorem aAX (a b c:Int):qF a b c=some (decide (b≤a∧a≤c)):=by
  unfold qF
  by_cases h:b≤a <;> simp [h]
theorem aHK (l:List Int) (hl:l.length≤4294967296):∀ m k:Nat,m+k=l.length→lp (kL l) (k:Int)=some (if dgs (l.drop k) then .inl () else .inr false):=by
  intro m
  induction m with
  | zero =>
    intro k hk
    rw [if_pos (by rw [List.drop_eq_nil_of_le (by omega)];exact yZ)]
    exact bE (by unfold kL;rw [if_neg (by omega)])
  | succ m ih =>
    intro k hk
    have hlt:k < l.length:=by omega
    by_cases c:0≤l[k]∧l[k] < 1000000000
    · have s1:kL l (k:Int)=some (.inl ((k+1:Nat):Int)):=by
        unfold kL
        rw [if_pos (by omega),aW hlt,wi (by omega)]
        simp only [Option.bind_some]
        rw [aAX,decide_eq_true (by omega)];rfl
      rw [bV s1,ih (k+1) (by omega)]
      have hd:dgs (l.drop k)↔dgs (l.drop (k+1)):=by rw [List.drop_eq_getElem_cons hlt,lY];exact ⟨fun h=>h.2,fun h=>⟨c,h⟩⟩
      simp only [hd]
    · have h2:¬dgs (l.drop k):=by rw [List.drop_eq_getElem_cons hlt,lY];exact fun h=>c h.1
      rw [if_neg h2]
      refine bE ?_
      unfold kL
      rw [if_pos (by omega),aW hlt]
      simp only [Option.bind_some]
      rw [aAX,decide_eq_false (by omega)];rfl
theorem aGz (l:List Int) (hl:l.length≤4294967296) (h:l.length≠0):(idx l (IntKind.i64.wrap ((l.length:Int) - 1))).bind (fun y=>some (decide (y≠0)))=some (decide (l.getLast?≠some 0)):=by
  have hlt:l.length - 1 < l.length:=by omega
  rw [wi (by omega),show (l.length:Int) - 1=((l.length - 1:Nat):Int) by omega,aW hlt,List.getLast?_eq_getElem?,List.getElem?_eq_getElem hlt]
  simp
theorem aFQ (l:List Int) (hl:l.length≤4294967296):sE l=some (decide (rU l)):=by
  unfold sE
  by_cases c:60 < l.length
  · have:¬rU l:=fun h=>by have:=h.2.1;omega
    rw [if_pos (by omega),decide_eq_false this]
  · have:=aHL l hl l.length 0 (by omega)
    rw [show ((0:Nat):Int)=0 from rfl,List.drop_zero] at this
    rw [if_neg (by omega),this]
    by_cases d:dgs l
    · rw [if_pos d]
      simp only [Option.bind_some]
      by_cases z:l.length=0
      · have e:l=[]:=List.length_eq_zero_iff.1 z
        subst e
        rw [if_pos (by simp),decide_eq_true ⟨yZ,by simp,by simp⟩]
      · rw [if_neg (by omega),aN,aGz l hl z]
        congr 1
        exact decide_eq_decide.2 ⟨fun h=>⟨d,by omega,h⟩,fun h=>h.2.2⟩
    · have:¬rU l:=fun h=>d h.1
      rw [if_neg d,decide_eq_false this];rfl
theorem aDh (l:List Int) (hl:l.length≤4294967296):qG l=some (decide (rU l)):=by
  unfold qG
  have:=aHK l hl l.length 0 (by omega)
  rw [show ((0:Nat):Int)=0 from rfl,List.drop_zero] at this
  rw [this]
  by_cases d:dgs l
  · rw [if_pos d]
    simp only [Option.bind_some]
    by_cases c:60 < l.length
    · have:¬rU l:=fun h=>by have:=h.2.1;omega
      rw [if_neg (by omega),decide_eq_false this]
    · rw [if_pos (by omega)]
      by_cases z:l.length=0
      · have e:l=[]:=List.length_eq_zero_iff.1 z
        subst e
        rw [if_pos (by simp),decide_eq_true ⟨yZ,by simp,by simp⟩]
      · rw [if_neg (by omega),aN,aGz l hl z]
        congr 1
        exact decide_eq_decide.2 ⟨fun h=>⟨d,by omega,h⟩,fun h=>h.2.2⟩
  · have:¬rU l:=fun h=>d h.1
    rw [if_neg d,decide_eq_false this];rfl
theorem aF5:([854775807,223372036,9]:List Int)=aE 9223372036854775807:=by
  have h1:dgs [854775807,223372036,9]:=by intro d hd;simp at hd;omega
  have:=wF (l:=[854775807,223372036,9]) ⟨h1,by simp⟩
  rw [this];rfl
theorem aFU:∀ (l:List Int),dgs l→l.length≤2→lp (cS l) (0,(l.length:Int) - 1)=some (val l:Int)
  | [],_,_=>by
    rw [bE (r:=0) (by unfold cS;simp)];rfl
  | [d],h,_=>by
    rw [lY] at h
    have s1:cS [d] (0,((0:Nat):Int))=some (.inl (d,-1)):=by
      unfold cS
      simp only []
      rw [if_pos (by omega),aW (by simp)]
      simp only [Option.bind_some,aN,List.getElem_cons_zero]
      rw [wi (n:=0*1000000000) (by omega),wi (by omega),wi (by omega)]
      simp
    rw [show ((([d]:List Int).length:Int) - 1)=((0:Nat):Int) by simp,bV s1,bE (r:=d) (by unfold cS;simp)]
    simp [val] <;> omega
  | [d,e],h,_=>by
    rw [lY,lY] at h
    have s1:cS [d,e] (0,((1:Nat):Int))=some (.inl (e,((0:Nat):Int))):=by
      unfold cS
      simp only []
      rw [if_pos (by omega),aW (by simp)]
      simp only [Option.bind_some,aN,List.getElem_cons_zero,List.getElem_cons_succ]
      rw [wi (n:=0*1000000000) (by omega),wi (by omega),wi (by omega)]
      simp
    have s2:cS [d,e] (e,((0:Nat):Int))=some (.inl (e*1000000000+d,-1)):=by
      unfold cS
      simp only []
      rw [if_pos (by omega),aW (by simp)]
      simp only [Option.bind_some,aN,List.getElem_cons_zero]
      rw [wi (n:=e*1000000000) (by omega),wi (by omega),wi (by omega)]
      rfl
    rw [show ((([d,e]:List Int).length:Int) - 1)=((1:Nat):Int) by simp,bV s1,bV s2,bE (r:=e*1000000000+d) (by unfold cS;simp)]
    simp only [val,dN,Nat.mul_zero,Nat.add_zero]
    congr 1;omega
  | _::_::_::_,_,h=>by simp at h <;> omega
theorem aDg (x:Nat) (h:(aE x).length≤2):nE (aE x)=some ((x:Int),true):=by
  have hx:=rY h
  have hl:=iY (v:=9223372036854775807) (by omega)
  unfold nE
  rw [aDh _ (by omega),decide_eq_true (aAI (by omega)),aF5]
  simp only [Option.bind_some,if_true]
  rw [yD _ _ (by omega) (by omega)]
  simp only [Option.bind_some,aN]
  have:¬(0 < pZ x 9223372036854775807):=by unfold pZ;rw [if_pos (by omega)];omega
  simp only [this,decide_false,Bool.false_eq_true,if_false]
  have e:=aFU (aE x) (eB x) h
  rw [dH] at e
  rw [wi (by omega),e];rfl
theorem aHb:∀ (y x:Nat),(aE x).length≤700→(aE y).length≤700→∃ r,lp jI (aE x,aE y)=some r∧(r=.inl (aE (Nat.gcd x y))∨r=.inr (aE (Nat.gcd x y))):=by
  intro y
  induction y using Nat.strongRecOn with
  | _ y ih =>
    intro x hx hy
    by_cases c:y=0
    · subst c
      rw [Nat.gcd_zero_right]
      refine ⟨.inl (aE x),bE ?_,.inl rfl⟩
      unfold jI
      simp [bD]
    · have hy0:(aE y).length≠0:=fun e=>eR c (List.length_eq_zero_iff.1 e)
      by_cases c2:(aE x).length≤2∧(aE y).length≤2
      · refine ⟨.inr (aE (Nat.gcd x y)),bE ?_,.inr rfl⟩
        have h1:=rY c2.1
        have h2:=rY c2.2
        have h3:=aFw h1 h2
        have n1:((aE x).length:Int) < 3:=by omega
        have n2:((aE y).length:Int) < 3:=by omega
        unfold jI
        simp only [n1,n2,if_true,decide_true,Option.bind_some]
        rw [if_pos (by omega),aDg x c2.1,aDg y c2.2]
        simp only [Option.bind_some]
        unfold sI
        rw [aF2,aCE]
        simp only [Option.bind_some]
        rw [wR _ (by omega)];rfl
      · have s1:jI (aE x,aE y)=some (.inl (aE y,aE (x % y))):=by
          unfold jI
          simp only []
          have:((if ((aE x).length:Int) < 3 then some (decide (((aE y).length:Int) < 3)) else some false):Option Bool)=some false:=by
            by_cases c1:(aE x).length≤2
            · have c2:¬(aE y).length≤2:=fun h=>c2 ⟨c1,h⟩
              rw [if_pos (by omega),decide_eq_false (by omega)]
            · rw [if_neg (by omega)]
          rw [if_pos (by omega),this]
          simp only [Option.bind_some,Bool.false_eq_true,if_false]
          rw [aCU x y (by omega) hx hy];rfl
        rw [bV s1,aCW x y]
        exact ih (x % y) (Nat.mod_lt _ (by omega)) y hy (by have:=aGC x (y:=y) (by omega);omega)
theorem aFr (x y:Nat) (hx:(aE x).length≤700) (hy:(aE y).length≤700):nR (aE x) (aE y)=some (aE (Nat.gcd x y)):=by
  unfold nR
  obtain ⟨r,e1,e2⟩:=aHb y x hx hy
  rw [bM (by simp;omega),bM (by simp;omega)]
  simp only [Option.bind_some,aN,List.nil_append]
  rw [e1]
  rcases e2 with rfl | rfl <;> rfl
end Go.Ev
