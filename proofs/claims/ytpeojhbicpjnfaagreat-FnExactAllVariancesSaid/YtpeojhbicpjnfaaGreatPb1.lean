/- Parts PF, P25, PQ1, PQ2, PQ3, PQ4, PQ5. -/
import Derived.Test.YtpeojhbicpjnfaaGreatPa1
import Derived.Test.YtpeojhbicpjnfaaGreatLXd
set_option linter.all false
/- Plain laws of helpers over nested data, printed by program (fam.py). -/
namespace Go.Ev
set_option linter.all false
def fP (x:(List Int)):Nat:=szL (fun _=>0) x
theorem aGg (x:(List Int)) (o:(okL (okI .i64)) x) (t:Int) (h0:0≤t) (h1:t≤1048576):qJ x t=some (if (fP x:Int)≤t then t - fP x else -1):=by
  have hl:x.length≤9223372036854775807:=o.1
  have e:=sF x
  unfold qJ fP
  simp only [aN]
  rw [wi (by omega)]
  by_cases c:t - (x.length:Int) < 0
  · rw [if_pos c,if_neg (by omega)]
  · rw [if_neg c,if_pos (by omega)];congr 1;omega
theorem aGd (x:(List Int)) (h:fP x≤4294967296):qH x=some x:=by
  have hl:=gR (fun _=>0) x
  unfold fP at h
  unfold qH
  rw [bM (by omega)]
  simp only [Option.bind_some]
  have:=aBV (step:=nO x) x (List.replicate (x.length:Int).toNat 0) (fun k m=>((k:Int),m)) (fun m=>m) (by simp) (fun k m hk hm=>by
    unfold nO
    simp only []
    rw [if_pos (by omega),aT hk,aT (l:=m) (by omega)]
    simp only [Option.bind_some,aN,hZ]
    rw [wi (by omega)];rfl)
   (fun m hm=>by unfold nO;simp only [];rw [if_neg (by omega)])
  rw [show ((0:Nat):Int)=0 from rfl] at this
  rw [this];rfl
theorem aGt (x:(List Int)) (h:fP x≤4294967296):qK x x=some true:=by
  have hl:=gR (fun _=>0) x
  unfold fP at h
  unfold qK
  rw [if_neg (by simp),xS x.length (.inl ())]
  · rfl
  · intro k hk
    unfold rD
    rw [if_pos (by omega),aT hk]
    simp only [Option.bind_some,ne_eq,not_true_eq_false,if_false]
    rw [wi (by omega)];rfl
  · unfold rD;rw [if_neg (by omega)]
theorem jK (x:(List Int)) (k:Int) (h0:0≤k) (h1:k+100*(fP x:Int)≤4611686018427387904):∃ k' x',bR x k=some (k',x')∧mP x' k=some k'∧k≤k'∧k'≤k+100*(fP x:Int)∧x'.length=x.length:=by
  unfold fP at h1 ⊢
  obtain ⟨k',l',p1,p2,p3,p4,p5⟩:=aHD (ms:=lC) (hs:=lE) (fun _:Int=>0) x (fun hl y k h0 h1=>by
    have w0:IntKind.i64.wrap (k+1)=k+1:=wi (by omega)
    refine ⟨k+1,(k),by omega,by omega,fun m i hi hm=>?_,fun m i hi hm=>?_⟩
    · have hlt:=(List.getElem?_eq_some_iff.1 hi).1
      have wi':IntKind.i64.wrap ((i:Int)+1)=(i:Int)+1:=wi (by omega)
      unfold lC
      simp only []
      rw [if_pos (by omega)]
      simp only [aN,hZ,aAg hi,xV hlt,List.set_set,Option.bind_some,w0,wi']
    · have hlt:=(List.getElem?_eq_some_iff.1 hi).1
      have wi':IntKind.i64.wrap ((i:Int)+1)=(i:Int)+1:=wi (by omega)
      unfold lE
      simp only []
      rw [if_pos (by omega)]
      simp only [aN,aAg hi,Option.bind_some,ne_eq,not_true_eq_false,if_false,beq_self_eq_true,if_true,w0,wi'])
   (fun k m hm=>by unfold lC;simp only [];rw [if_neg (by omega)]) (fun k m hm=>by unfold lE;simp only [];rw [if_neg (by omega)]) k h0 h1
  exact ⟨k',l',by unfold bR rB;simp only [p1,Option.bind_some];rw [bM p2];rfl,by unfold mP;simp only [p3,Option.bind_some],p4,p5,p2⟩
def dG (x:BigInt):Nat:=fP x.fMag
theorem aGH (x:BigInt) (o:aCy x) (t:Int) (h0:0≤t) (h1:t≤1048576):pJ x t=some (if (dG x:Int)≤t then t - dG x else -1):=by
  unfold pJ dG
  rw [aGg x.fMag o.2.1 t (by omega) (by omega)]
  simp only [Option.bind_some]
  by_cases c:(fP x.fMag:Int)≤t
  · rw [if_pos c,if_neg (by omega)]
  · rw [if_neg c];rfl
theorem aGF (x:BigInt) (h:dG x≤4294967296):pI x=some x:=by
  unfold dG at h
  unfold pI
  rw [aGd x.fMag (by omega)]
  simp only [Option.bind_some]
theorem aG4 (x:BigInt) (h:dG x≤4294967296):pN x x=some true:=by
  unfold dG at h
  unfold pN
  have e0:=aGt x.fMag (by omega)
  simp only [e0,Option.bind_some,if_true,ne_eq,not_true_eq_false,if_false,beq_self_eq_true]
def aU (x:Rat):Nat:=dG x.fNum+fP x.fDen
theorem wX (x:Rat) (o:zB x) (t:Int) (h0:0≤t) (h1:t≤1048576):hJ x t=some (if (aU x:Int)≤t then t - aU x else -1):=by
  unfold hJ aU
  rw [aGH x.fNum o.1 (t) (by omega) (by omega)]
  simp only [Option.bind_some]
  by_cases c0:(dG x.fNum:Int)≤t
  · skip
    rw [if_pos c0,if_neg (by omega)]
    rw [aGg x.fDen o.2.1 (t - dG x.fNum) (by omega) (by omega)]
    simp only [Option.bind_some]
    by_cases c1:(fP x.fDen:Int)≤t - dG x.fNum
    · skip
      rw [if_pos c1,if_neg (by omega)]
      rw [if_pos (by omega)];congr 1;omega
    · rw [if_neg c1,if_pos (by omega),if_neg (by omega)]
  · rw [if_neg c0,if_pos (by omega),if_neg (by omega)]
theorem wW (x:Rat) (h:aU x≤4294967296):hG x=some x:=by
  unfold aU at h
  unfold hG
  rw [aGF x.fNum (by omega)]
  simp only [Option.bind_some]
  rw [aGd x.fDen (by omega)]
  simp only [Option.bind_some]
theorem vZ (x:Rat) (h:aU x≤4294967296):gB x x=some true:=by
  unfold aU at h
  unfold gB
  have e0:=aG4 x.fNum (by omega)
  have e1:=aGt x.fDen (by omega)
  simp only [e0,e1,Option.bind_some,if_true,ne_eq,not_true_eq_false,if_false,beq_self_eq_true]
def bY (x:Parent):Nat:=aU x.fShare+aU x.fDX+aU x.fDY
theorem aGG (x:Parent) (o:xB x) (t:Int) (h0:0≤t) (h1:t≤1048576):mN x t=some (if (bY x:Int)≤t then t - bY x else -1):=by
  unfold mN bY
  rw [wX x.fShare o.2.1 (t) (by omega) (by omega)]
  simp only [Option.bind_some]
  by_cases c0:(aU x.fShare:Int)≤t
  · skip
    rw [if_pos c0,if_neg (by omega)]
    rw [wX x.fDX o.2.2.1 (t - aU x.fShare) (by omega) (by omega)]
    simp only [Option.bind_some]
    by_cases c1:(aU x.fDX:Int)≤t - aU x.fShare
    · skip
      rw [if_pos c1,if_neg (by omega)]
      rw [wX x.fDY o.2.2.2.1 (t - aU x.fShare - aU x.fDX) (by omega) (by omega)]
      simp only [Option.bind_some]
      by_cases c2:(aU x.fDY:Int)≤t - aU x.fShare - aU x.fDX
      · skip
        rw [if_pos c2,if_neg (by omega)]
        rw [if_pos (by omega)];congr 1;omega
      · rw [if_neg c2,if_pos (by omega),if_neg (by omega)]
    · rw [if_neg c1,if_pos (by omega),if_neg (by omega)]
  · rw [if_neg c0,if_pos (by omega),if_neg (by omega)]
theorem aGE (x:Parent) (h:bY x≤4294967296):pH x=some x:=by
  unfold bY at h
  unfold pH
  rw [wW x.fShare (by omega)]
  simp only [Option.bind_some]
  rw [wW x.fDX (by omega)]
  simp only [Option.bind_some]
  rw [wW x.fDY (by omega)]
  simp only [Option.bind_some]
theorem aG3 (x:Parent) (h:bY x≤4294967296):pM x x=some true:=by
  unfold bY at h
  unfold pM
  have e0:=vZ x.fShare (by omega)
  have e1:=vZ x.fDX (by omega)
  have e2:=vZ x.fDY (by omega)
  simp only [e0,e1,e2,Option.bind_some,if_true,ne_eq,not_true_eq_false,if_false,beq_self_eq_true]
def dK (x:(List Parent)):Nat:=szL bY x
theorem aFE (x:(List Parent)) (o:(okL xB) x) (t:Int) (h0:0≤t) (h1:t≤1048576):nQ x t=some (if (dK x:Int)≤t then t - dK x else -1):=by
  have hl:x.length≤9223372036854775807:=o.1
  have e:=aCe bY x
  unfold nQ dK
  simp only [aN]
  rw [wi (by omega)]
  by_cases c:t - (x.length:Int) < 0
  · rw [if_pos c,if_neg (by omega)]
  · rw [if_neg c,aFR x bY mN (fun y hy t a b=>aGG y (o.2 y hy) t a b) (fun k t hk=>by unfold mZ;simp only [];rw [if_pos (by omega),aT hk];simp only [Option.bind_some];rw [wi (by omega)]) (fun t=>by unfold mZ;simp only [];rw [if_neg (by omega)]) _ (by omega) (by omega)]
    by_cases d:((x.map bY).sum:Int)≤t - x.length
    · rw [if_pos d,if_pos (by omega)];simp only [Option.bind_some];congr 1;omega
    · rw [if_neg d,if_neg (by omega)];rfl
theorem aFB (x:(List Parent)) (h:dK x≤4294967296):nN x=some x:=by
  have hl:=gR bY x
  unfold dK at h
  unfold nN
  rw [bM (by omega)]
  simp only [Option.bind_some]
  have:=aBV (step:=jW x) x (List.replicate (x.length:Int).toNat (Parent.mk 0 (Rat.mk (BigInt.mk false ([])) ([])) (Rat.mk (BigInt.mk false ([])) ([])) (Rat.mk (BigInt.mk false ([])) ([])))) (fun k m=>((k:Int),m)) (fun m=>m) (by simp) (fun k m hk hm=>by
    have he:=mW (w:=bY) (List.getElem_mem hk)
    unfold jW
    simp only []
    rw [if_pos (by omega),aT hk,aT (l:=m) (by omega)]
    simp only [Option.bind_some,aN,hZ,aGE _ (show bY x[k]≤4294967296 by omega)]
    rw [wi (by omega)];rfl)
   (fun m hm=>by unfold jW;simp only [];rw [if_neg (by omega)])
  rw [show ((0:Nat):Int)=0 from rfl] at this
  rw [this];rfl
theorem aF0 (x:(List Parent)) (h:dK x≤4294967296):nU x x=some true:=by
  have hl:=gR bY x
  unfold dK at h
  unfold nU
  rw [if_neg (by simp),xS x.length (.inl ())]
  · rfl
  · intro k hk
    have he:=mW (w:=bY) (List.getElem_mem hk)
    unfold nA
    rw [if_pos (by omega),aT hk]
    simp only [Option.bind_some,aG3 _ (show bY x[k]≤4294967296 by omega),if_true]
    rw [wi (by omega)];rfl
  · unfold nA;rw [if_neg (by omega)]
theorem aFP (x:(List Parent)) (k:Int) (h0:0≤k) (h1:k+100*(dK x:Int)≤4611686018427387904):∃ k' x',iU x k=some (k',x')∧k≤k'∧k'≤k+100*(dK x:Int)∧x'.length=x.length:=by
  unfold dK at h1 ⊢
  obtain ⟨k',l',p1,p2,p4,p5⟩:=aFS (ms:=iD) bY x (fun hl y k h0 h1=>by
    simp only [bY,aU,dG] at h1 ⊢
    obtain ⟨k0,x0,e0,g0,a0,b0,l0⟩:=jK y.fShare.fNum.fMag (k+1+1) (by omega) (by omega)
    obtain ⟨k1,x1,e1,g1,a1,b1,l1⟩:=jK y.fShare.fDen (k0) (by omega) (by omega)
    obtain ⟨k2,x2,e2,g2,a2,b2,l2⟩:=jK y.fDX.fNum.fMag (k1+1) (by omega) (by omega)
    obtain ⟨k3,x3,e3,g3,a3,b3,l3⟩:=jK y.fDX.fDen (k2) (by omega) (by omega)
    obtain ⟨k4,x4,e4,g4,a4,b4,l4⟩:=jK y.fDY.fNum.fMag (k3+1) (by omega) (by omega)
    obtain ⟨k5,x5,e5,g5,a5,b5,l5⟩:=jK y.fDY.fDen (k4) (by omega) (by omega)
    have w0:IntKind.i64.wrap (k+1)=k+1:=wi (by omega)
    have w1:IntKind.i64.wrap (k+1+1)=k+1+1:=wi (by omega)
    have w2:IntKind.i64.wrap (k1+1)=k1+1:=wi (by omega)
    have w3:IntKind.i64.wrap (k3+1)=k3+1:=wi (by omega)
    have n0:¬k0 < 0:=by omega
    have n1:¬k1 < 0:=by omega
    have n2:¬k2 < 0:=by omega
    have n3:¬k3 < 0:=by omega
    have n4:¬k4 < 0:=by omega
    have n5:¬k5 < 0:=by omega
    refine ⟨k5,(Parent.mk (k) (Rat.mk (BigInt.mk (decide ((k+1).tmod 3=0)) x0) x1) (Rat.mk (BigInt.mk (decide ((k1).tmod 3=0)) x2) x3) (Rat.mk (BigInt.mk (decide ((k3).tmod 3=0)) x4) x5)),by omega,by omega,fun m i hi hm=>?_⟩
    · have hlt:=(List.getElem?_eq_some_iff.1 hi).1
      have wi':IntKind.i64.wrap ((i:Int)+1)=(i:Int)+1:=wi (by omega)
      unfold iD
      simp only []
      rw [if_pos (by omega)]
      simp only [aN,hZ,aAg hi,xV hlt,List.set_set,Option.bind_some,w0,w1,w2,w3,e0,e1,e2,e3,e4,e5,wi'])
   (fun k m hm=>by unfold iD;simp only [];rw [if_neg (by omega)]) k h0 h1
  exact ⟨k',l',by unfold iU nR;simp only [p1,Option.bind_some];rw [bM p2];rfl,p4,p5,p2⟩
def aS (x:Conditional):Nat:=aU x.fTotal+dK x.fParents
theorem aCd (x:Conditional) (o:uL x) (t:Int) (h0:0≤t) (h1:t≤1048576):jC x t=some (if (aS x:Int)≤t then t - aS x else -1):=by
  unfold jC aS
  rw [wX x.fTotal o.2.1 (t) (by omega) (by omega)]
  simp only [Option.bind_some]
  by_cases c0:(aU x.fTotal:Int)≤t
  · skip
    rw [if_pos c0,if_neg (by omega)]
    rw [aFE x.fParents o.2.2.1 (t - aU x.fTotal) (by omega) (by omega)]
    simp only [Option.bind_some]
    by_cases c1:(dK x.fParents:Int)≤t - aU x.fTotal
    · skip
      rw [if_pos c1,if_neg (by omega)]
      rw [if_pos (by omega)];congr 1;omega
    · rw [if_neg c1,if_pos (by omega),if_neg (by omega)]
  · rw [if_neg c0,if_pos (by omega),if_neg (by omega)]
theorem aB9 (x:Conditional) (h:aS x≤4294967296):jB x=some x:=by
  unfold aS at h
  unfold jB
  rw [wW x.fTotal (by omega)]
  simp only [Option.bind_some]
  rw [aFB x.fParents (by omega)]
  simp only [Option.bind_some]
theorem aCT (x:Conditional) (h:aS x≤4294967296):jE x x=some true:=by
  unfold aS at h
  unfold jE
  have e0:=vZ x.fTotal (by omega)
  have e1:=aF0 x.fParents (by omega)
  simp only [e0,e1,Option.bind_some,if_true,ne_eq,not_true_eq_false,if_false,beq_self_eq_true]
def cH (x:(List Conditional)):Nat:=szL aS x
def eZ (x:Link):Nat:=aU x.fWeight+aU x.fDX+aU x.fDY
theorem aIn (x:Link) (o:aA5 x) (t:Int) (h0:0≤t) (h1:t≤1048576):qI x t=some (if (eZ x:Int)≤t then t - eZ x else -1):=by
  unfold qI eZ
  rw [wX x.fWeight o.2.2.1 (t) (by omega) (by omega)]
  simp only [Option.bind_some]
  by_cases c0:(aU x.fWeight:Int)≤t
  · skip
    rw [if_pos c0,if_neg (by omega)]
    rw [wX x.fDX o.2.2.2.1 (t - aU x.fWeight) (by omega) (by omega)]
    simp only [Option.bind_some]
    by_cases c1:(aU x.fDX:Int)≤t - aU x.fWeight
    · skip
      rw [if_pos c1,if_neg (by omega)]
      rw [wX x.fDY o.2.2.2.2.1 (t - aU x.fWeight - aU x.fDX) (by omega) (by omega)]
      simp only [Option.bind_some]
      by_cases c2:(aU x.fDY:Int)≤t - aU x.fWeight - aU x.fDX
      · skip
        rw [if_pos c2,if_neg (by omega)]
        rw [if_pos (by omega)];congr 1;omega
      · rw [if_neg c2,if_pos (by omega),if_neg (by omega)]
    · rw [if_neg c1,if_pos (by omega),if_neg (by omega)]
  · rw [if_neg c0,if_pos (by omega),if_neg (by omega)]
theorem aIl (x:Link) (h:eZ x≤4294967296):sQ x=some x:=by
  unfold eZ at h
  unfold sQ
  rw [wW x.fWeight (by omega)]
  simp only [Option.bind_some]
  rw [wW x.fDX (by omega)]
  simp only [Option.bind_some]
  rw [wW x.fDY (by omega)]
  simp only [Option.bind_some]
theorem aIE (x:Link) (h:eZ x≤4294967296):sR x x=some true:=by
  unfold eZ at h
  unfold sR
  have e0:=vZ x.fWeight (by omega)
  have e1:=vZ x.fDX (by omega)
  have e2:=vZ x.fDY (by omega)
  simp only [e0,e1,e2,Option.bind_some,if_true,ne_eq,not_true_eq_false,if_false,beq_self_eq_true]
def cF (x:(List Link)):Nat:=szL eZ x
theorem aEP (x:(List Link)) (o:(okL aA5) x) (t:Int) (h0:0≤t) (h1:t≤1048576):oM x t=some (if (cF x:Int)≤t then t - cF x else -1):=by
  have hl:x.length≤9223372036854775807:=o.1
  have e:=aCe eZ x
  unfold oM cF
  simp only [aN]
  rw [wi (by omega)]
  by_cases c:t - (x.length:Int) < 0
  · rw [if_pos c,if_neg (by omega)]
  · rw [if_neg c,aFR x eZ qI (fun y hy t a b=>aIn y (o.2 y hy) t a b) (fun k t hk=>by unfold pU;simp only [];rw [if_pos (by omega),aT hk];simp only [Option.bind_some];rw [wi (by omega)]) (fun t=>by unfold pU;simp only [];rw [if_neg (by omega)]) _ (by omega) (by omega)]
    by_cases d:((x.map eZ).sum:Int)≤t - x.length
    · rw [if_pos d,if_pos (by omega)];simp only [Option.bind_some];congr 1;omega
    · rw [if_neg d,if_neg (by omega)];rfl
theorem aEL (x:(List Link)) (h:cF x≤4294967296):oL x=some x:=by
  have hl:=gR eZ x
  unfold cF at h
  unfold oL
  rw [bM (by omega)]
  simp only [Option.bind_some]
  have:=aBV (step:=mE x) x (List.replicate (x.length:Int).toNat (Link.mk 0 0 (Rat.mk (BigInt.mk false ([])) ([])) (Rat.mk (BigInt.mk false ([])) ([])) (Rat.mk (BigInt.mk false ([])) ([])))) (fun k m=>((k:Int),m)) (fun m=>m) (by simp) (fun k m hk hm=>by
    have he:=mW (w:=eZ) (List.getElem_mem hk)
    unfold mE
    simp only []
    rw [if_pos (by omega),aT hk,aT (l:=m) (by omega)]
    simp only [Option.bind_some,aN,hZ,aIl _ (show eZ x[k]≤4294967296 by omega)]
    rw [wi (by omega)];rfl)
   (fun m hm=>by unfold mE;simp only [];rw [if_neg (by omega)])
  rw [show ((0:Nat):Int)=0 from rfl] at this
  rw [this];rfl
theorem aFj (x:(List Link)) (h:cF x≤4294967296):oN x x=some true:=by
  have hl:=gR eZ x
  unfold cF at h
  unfold oN
  rw [if_neg (by simp),xS x.length (.inl ())]
  · rfl
  · intro k hk
    have he:=mW (w:=eZ) (List.getElem_mem hk)
    unfold pV
    rw [if_pos (by omega),aT hk]
    simp only [Option.bind_some,aIE _ (show eZ x[k]≤4294967296 by omega),if_true]
    rw [wi (by omega)];rfl
  · unfold pV;rw [if_neg (by omega)]
theorem aE5 (x:(List Link)) (k:Int) (h0:0≤k) (h1:k+100*(cF x:Int)≤4611686018427387904):∃ k' x',jD x k=some (k',x')∧k≤k'∧k'≤k+100*(cF x:Int)∧x'.length=x.length:=by
  unfold cF at h1 ⊢
  obtain ⟨k',l',p1,p2,p4,p5⟩:=aFS (ms:=jX) eZ x (fun hl y k h0 h1=>by
    simp only [eZ,aU,dG] at h1 ⊢
    obtain ⟨k0,x0,e0,g0,a0,b0,l0⟩:=jK y.fWeight.fNum.fMag (k+1+1+1) (by omega) (by omega)
    obtain ⟨k1,x1,e1,g1,a1,b1,l1⟩:=jK y.fWeight.fDen (k0) (by omega) (by omega)
    obtain ⟨k2,x2,e2,g2,a2,b2,l2⟩:=jK y.fDX.fNum.fMag (k1+1) (by omega) (by omega)
    obtain ⟨k3,x3,e3,g3,a3,b3,l3⟩:=jK y.fDX.fDen (k2) (by omega) (by omega)
    obtain ⟨k4,x4,e4,g4,a4,b4,l4⟩:=jK y.fDY.fNum.fMag (k3+1) (by omega) (by omega)
    obtain ⟨k5,x5,e5,g5,a5,b5,l5⟩:=jK y.fDY.fDen (k4) (by omega) (by omega)
    have w0:IntKind.i64.wrap (k+1)=k+1:=wi (by omega)
    have w1:IntKind.i64.wrap (k+1+1)=k+1+1:=wi (by omega)
    have w2:IntKind.i64.wrap (k+1+1+1)=k+1+1+1:=wi (by omega)
    have w3:IntKind.i64.wrap (k1+1)=k1+1:=wi (by omega)
    have w4:IntKind.i64.wrap (k3+1)=k3+1:=wi (by omega)
    have n0:¬k0 < 0:=by omega
    have n1:¬k1 < 0:=by omega
    have n2:¬k2 < 0:=by omega
    have n3:¬k3 < 0:=by omega
    have n4:¬k4 < 0:=by omega
    have n5:¬k5 < 0:=by omega
    refine ⟨k5,(Link.mk (k) (k+1) (Rat.mk (BigInt.mk (decide ((k+1+1).tmod 3=0)) x0) x1) (Rat.mk (BigInt.mk (decide ((k1).tmod 3=0)) x2) x3) (Rat.mk (BigInt.mk (decide ((k3).tmod 3=0)) x4) x5)),by omega,by omega,fun m i hi hm=>?_⟩
    · have hlt:=(List.getElem?_eq_some_iff.1 hi).1
      have wi':IntKind.i64.wrap ((i:Int)+1)=(i:Int)+1:=wi (by omega)
      unfold jX
      simp only []
      rw [if_pos (by omega)]
      simp only [aN,hZ,aAg hi,xV hlt,List.set_set,Option.bind_some,w0,w1,w2,w3,w4,e0,e1,e2,e3,e4,e5,wi'])
   (fun k m hm=>by unfold jX;simp only [];rw [if_neg (by omega)]) k h0 h1
  exact ⟨k',l',by unfold jD qC;simp only [p1,Option.bind_some];rw [bM p2];rfl,p4,p5,p2⟩
def sE (x:(List Rat)):Nat:=szL aU x
theorem aID (x:(List Rat)) (h:sE x≤4294967296):nT x x=some true:=by
  have hl:=gR aU x
  unfold sE at h
  unfold nT
  rw [if_neg (by simp),xS x.length (.inl ())]
  · rfl
  · intro k hk
    have he:=mW (w:=aU) (List.getElem_mem hk)
    unfold rC
    rw [if_pos (by omega),aT hk]
    simp only [Option.bind_some,vZ _ (show aU x[k]≤4294967296 by omega),if_true]
    rw [wi (by omega)];rfl
  · unfold rC;rw [if_neg (by omega)]
theorem aIx (x:(List Rat)) (k:Int) (h0:0≤k) (h1:k+100*(sE x:Int)≤4611686018427387904):∃ k' x',pL x k=some (k',x')∧mO x' k=some k'∧k≤k'∧k'≤k+100*(sE x:Int)∧x'.length=x.length:=by
  unfold sE at h1 ⊢
  obtain ⟨k',l',p1,p2,p3,p4,p5⟩:=aHD (ms:=lB) (hs:=lD) aU x (fun hl y k h0 h1=>by
    simp only [aU,dG] at h1 ⊢
    obtain ⟨k0,x0,e0,g0,a0,b0,l0⟩:=jK y.fNum.fMag (k+1) (by omega) (by omega)
    obtain ⟨k1,x1,e1,g1,a1,b1,l1⟩:=jK y.fDen (k0) (by omega) (by omega)
    have w0:IntKind.i64.wrap (k+1)=k+1:=wi (by omega)
    have n0:¬k0 < 0:=by omega
    have n1:¬k1 < 0:=by omega
    refine ⟨k1,(Rat.mk (BigInt.mk (decide ((k).tmod 3=0)) x0) x1),by omega,by omega,fun m i hi hm=>?_,fun m i hi hm=>?_⟩
    · have hlt:=(List.getElem?_eq_some_iff.1 hi).1
      have wi':IntKind.i64.wrap ((i:Int)+1)=(i:Int)+1:=wi (by omega)
      unfold lB
      simp only []
      rw [if_pos (by omega)]
      simp only [aN,hZ,aAg hi,xV hlt,List.set_set,Option.bind_some,w0,e0,e1,wi']
    · have hlt:=(List.getElem?_eq_some_iff.1 hi).1
      have wi':IntKind.i64.wrap ((i:Int)+1)=(i:Int)+1:=wi (by omega)
      unfold lD
      simp only []
      rw [if_pos (by omega)]
      simp only [aN,aAg hi,Option.bind_some,ne_eq,not_true_eq_false,if_false,beq_self_eq_true,if_true,w0,g0,g1,n0,n1,wi'])
   (fun k m hm=>by unfold lB;simp only [];rw [if_neg (by omega)]) (fun k m hm=>by unfold lD;simp only [];rw [if_neg (by omega)]) k h0 h1
  exact ⟨k',l',by unfold pL rA;simp only [p1,Option.bind_some];rw [bM p2];rfl,by unfold mO;simp only [p3,Option.bind_some],p4,p5,p2⟩
def bG (x:TreeNode):Nat:=cF x.fOwn+aS x.fCond+cF x.fMessages+aU x.fEnergy
theorem aEO (x:TreeNode) (o:tK x) (t:Int) (h0:0≤t) (h1:t≤1048576):jM x t=some (if (bG x:Int)≤t then t - bG x else -1):=by
  unfold jM bG
  rw [aEP x.fOwn o.2.2.1 (t) (by omega) (by omega)]
  simp only [Option.bind_some]
  by_cases c0:(cF x.fOwn:Int)≤t
  · skip
    rw [if_pos c0,if_neg (by omega)]
    rw [aCd x.fCond o.2.2.2.1 (t - cF x.fOwn) (by omega) (by omega)]
    simp only [Option.bind_some]
    by_cases c1:(aS x.fCond:Int)≤t - cF x.fOwn
    · skip
      rw [if_pos c1,if_neg (by omega)]
      rw [aEP x.fMessages o.2.2.2.2.1 (t - cF x.fOwn - aS x.fCond) (by omega) (by omega)]
      simp only [Option.bind_some]
      by_cases c2:(cF x.fMessages:Int)≤t - cF x.fOwn - aS x.fCond
      · skip
        rw [if_pos c2,if_neg (by omega)]
        rw [wX x.fEnergy o.2.2.2.2.2.1 (t - cF x.fOwn - aS x.fCond - cF x.fMessages) (by omega) (by omega)]
        simp only [Option.bind_some]
        by_cases c3:(aU x.fEnergy:Int)≤t - cF x.fOwn - aS x.fCond - cF x.fMessages
        · skip
          rw [if_pos c3,if_neg (by omega)]
          rw [if_pos (by omega)];congr 1;omega
        · rw [if_neg c3,if_pos (by omega),if_neg (by omega)]
      · rw [if_neg c2,if_pos (by omega),if_neg (by omega)]
    · rw [if_neg c1,if_pos (by omega),if_neg (by omega)]
  · rw [if_neg c0,if_pos (by omega),if_neg (by omega)]
theorem aEK (x:TreeNode) (h:bG x≤4294967296):mD x=some x:=by
  unfold bG at h
  unfold mD
  rw [aEL x.fOwn (by omega)]
  simp only [Option.bind_some]
  rw [aB9 x.fCond (by omega)]
  simp only [Option.bind_some]
  rw [aEL x.fMessages (by omega)]
  simp only [Option.bind_some]
  rw [wW x.fEnergy (by omega)]
  simp only [Option.bind_some]
theorem aFi (x:TreeNode) (h:bG x≤4294967296):mF x x=some true:=by
  unfold bG at h
  unfold mF
  have e0:=aFj x.fOwn (by omega)
  have e1:=aCT x.fCond (by omega)
  have e2:=aFj x.fMessages (by omega)
  have e3:=vZ x.fEnergy (by omega)
  simp only [e0,e1,e2,e3,Option.bind_some,if_true,ne_eq,not_true_eq_false,if_false,beq_self_eq_true]
def cE (x:(List TreeNode)):Nat:=szL bG x
theorem aDY (x:(List TreeNode)) (o:(okL tK) x) (t:Int) (h0:0≤t) (h1:t≤1048576):lA x t=some (if (cE x:Int)≤t then t - cE x else -1):=by
  have hl:x.length≤9223372036854775807:=o.1
  have e:=aCe bG x
  unfold lA cE
  simp only [aN]
  rw [wi (by omega)]
  by_cases c:t - (x.length:Int) < 0
  · rw [if_pos c,if_neg (by omega)]
  · rw [if_neg c,aFR x bG jM (fun y hy t a b=>aEO y (o.2 y hy) t a b) (fun k t hk=>by unfold kN;simp only [];rw [if_pos (by omega),aT hk];simp only [Option.bind_some];rw [wi (by omega)]) (fun t=>by unfold kN;simp only [];rw [if_neg (by omega)]) _ (by omega) (by omega)]
    by_cases d:((x.map bG).sum:Int)≤t - x.length
    · rw [if_pos d,if_pos (by omega)];simp only [Option.bind_some];congr 1;omega
    · rw [if_neg d,if_neg (by omega)];rfl
theorem aDW (x:(List TreeNode)) (h:cE x≤4294967296):kZ x=some x:=by
  have hl:=gR bG x
  unfold cE at h
  unfold kZ
  rw [bM (by omega)]
  simp only [Option.bind_some]
  have:=aBV (step:=iC x) x (List.replicate (x.length:Int).toNat (TreeNode.mk 0 0 ([]) (Conditional.mk 0 (Rat.mk (BigInt.mk false ([])) ([])) ([])) ([]) (Rat.mk (BigInt.mk false ([])) ([])))) (fun k m=>((k:Int),m)) (fun m=>m) (by simp) (fun k m hk hm=>by
    have he:=mW (w:=bG) (List.getElem_mem hk)
    unfold iC
    simp only []
    rw [if_pos (by omega),aT hk,aT (l:=m) (by omega)]
    simp only [Option.bind_some,aN,hZ,aEK _ (show bG x[k]≤4294967296 by omega)]
    rw [wi (by omega)];rfl)
   (fun m hm=>by unfold iC;simp only [];rw [if_neg (by omega)])
  rw [show ((0:Nat):Int)=0 from rfl] at this
  rw [this];rfl
theorem aEv (x:(List TreeNode)) (h:cE x≤4294967296):lF x x=some true:=by
  have hl:=gR bG x
  unfold cE at h
  unfold lF
  rw [if_neg (by simp),xS x.length (.inl ())]
  · rfl
  · intro k hk
    have he:=mW (w:=bG) (List.getElem_mem hk)
    unfold kO
    rw [if_pos (by omega),aT hk]
    simp only [Option.bind_some,aFi _ (show bG x[k]≤4294967296 by omega),if_true]
    rw [wi (by omega)];rfl
  · unfold kO;rw [if_neg (by omega)]
theorem aEn (x:(List TreeNode)) (k:Int) (h0:0≤k) (h1:k+100*(cE x:Int)≤4611686018427387904):∃ k' x',gA x k=some (k',x')∧k≤k'∧k'≤k+100*(cE x:Int)∧x'.length=x.length:=by
  unfold cE at h1 ⊢
  obtain ⟨k',l',p1,p2,p4,p5⟩:=aFS (ms:=fR) bG x (fun hl y k h0 h1=>by
    simp only [bG,aS,aU,dG] at h1 ⊢
    obtain ⟨k0,x0,e0,a0,b0,l0⟩:=aE5 y.fOwn (k+1+1) (by omega) (by omega)
    obtain ⟨k1,x1,e1,g1,a1,b1,l1⟩:=jK y.fCond.fTotal.fNum.fMag (k0+1+1) (by omega) (by omega)
    obtain ⟨k2,x2,e2,g2,a2,b2,l2⟩:=jK y.fCond.fTotal.fDen (k1) (by omega) (by omega)
    obtain ⟨k3,x3,e3,a3,b3,l3⟩:=aFP y.fCond.fParents (k2) (by omega) (by omega)
    obtain ⟨k4,x4,e4,a4,b4,l4⟩:=aE5 y.fMessages (k3) (by omega) (by omega)
    obtain ⟨k5,x5,e5,g5,a5,b5,l5⟩:=jK y.fEnergy.fNum.fMag (k4+1) (by omega) (by omega)
    obtain ⟨k6,x6,e6,g6,a6,b6,l6⟩:=jK y.fEnergy.fDen (k5) (by omega) (by omega)
    have w0:IntKind.i64.wrap (k+1)=k+1:=wi (by omega)
    have w1:IntKind.i64.wrap (k+1+1)=k+1+1:=wi (by omega)
    have w2:IntKind.i64.wrap (k0+1)=k0+1:=wi (by omega)
    have w3:IntKind.i64.wrap (k0+1+1)=k0+1+1:=wi (by omega)
    have w4:IntKind.i64.wrap (k4+1)=k4+1:=wi (by omega)
    have n0:¬k0 < 0:=by omega
    have n1:¬k1 < 0:=by omega
    have n2:¬k2 < 0:=by omega
    have n3:¬k3 < 0:=by omega
    have n4:¬k4 < 0:=by omega
    have n5:¬k5 < 0:=by omega
    have n6:¬k6 < 0:=by omega
    refine ⟨k6,(TreeNode.mk (k) (k+1) x0 (Conditional.mk (k0) (Rat.mk (BigInt.mk (decide ((k0+1).tmod 3=0)) x1) x2) x3) x4 (Rat.mk (BigInt.mk (decide ((k4).tmod 3=0)) x5) x6)),by omega,by omega,fun m i hi hm=>?_⟩
    · have hlt:=(List.getElem?_eq_some_iff.1 hi).1
      have wi':IntKind.i64.wrap ((i:Int)+1)=(i:Int)+1:=wi (by omega)
      unfold fR
      simp only []
      rw [if_pos (by omega)]
      simp only [aN,hZ,aAg hi,xV hlt,List.set_set,Option.bind_some,w0,w1,w2,w3,w4,e0,e1,e2,e3,e4,e5,e6,wi'])
   (fun k m hm=>by unfold fR;simp only [];rw [if_neg (by omega)]) k h0 h1
  exact ⟨k',l',by unfold gA lU;simp only [p1,Option.bind_some];rw [bM p2];rfl,p4,p5,p2⟩
def dA (x:Tree):Nat:=cE x.fNodes
theorem aDZ (x:Tree) (o:xA x) (t:Int) (h0:0≤t) (h1:t≤1048576):nP x t=some (if (dA x:Int)≤t then t - dA x else -1):=by
  unfold nP dA
  rw [aDY x.fNodes o.1 t (by omega) (by omega)]
  simp only [Option.bind_some]
  by_cases c:(cE x.fNodes:Int)≤t
  · rw [if_pos c,if_neg (by omega)]
  · rw [if_neg c];rfl
theorem aDX (x:Tree) (h:dA x≤4294967296):eA x=some x:=by
  unfold dA at h
  unfold eA
  rw [aDW x.fNodes (by omega)]
  simp only [Option.bind_some]
theorem aEw (x:Tree) (h:dA x≤4294967296):nS x x=some true:=by
  unfold dA at h
  unfold nS
  have e0:=aEv x.fNodes (by omega)
  simp only [e0,Option.bind_some,if_true,ne_eq,not_true_eq_false,if_false,beq_self_eq_true]
theorem aIw (x:Tree) (k:Int) (h0:0≤k) (h1:k+100*(dA x:Int)≤4611686018427387904):∃ k' x',pK x k=some (k',x')∧k≤k'∧k'≤k+100*(dA x:Int):=by
  unfold dA at h1 ⊢
  obtain ⟨k0,x0,e0,a0,b0,l0⟩:=aEn x.fNodes (k) (by omega) (by omega)
  have n0:¬k0 < 0:=by omega
  exact ⟨k0,Tree.mk x0,by unfold pK;simp only [e0,Option.bind_some],by omega,by omega⟩
end Go.Ev
/- Fractions made of whole numbers: both programs make the same. -/
namespace Go.Ev
set_option linter.all false
theorem wu {n:Int} (h:0≤n∧n≤18446744073709551615):IntKind.u64.wrap n=n:=by
  have:IntKind.u64.wrap n=n % 18446744073709551616:=by simp [IntKind.wrap,IntKind.bits,IntKind.signed]
  rw [this];omega
theorem aCa (v:Nat):((v:Int)).tmod 1000000000=((v % BB:Nat):Int):=by
  rw [Int.tmod_eq_emod_of_nonneg (by omega),dI];omega
theorem aCb (v:Nat):((v:Int)).tdiv 1000000000=((v / BB:Nat):Int):=by
  rw [Int.tdiv_eq_ediv_of_nonneg (by omega),dI];omega
theorem aCB:∀ (v:Nat) (t:List Int),v < 18446744073709551616→t.length+(aE v).length≤1000→lp gW ((v:Int),t)=some (t++aE v):=by
  intro v
  induction v using Nat.strongRecOn with
  | _ v ih =>
    intro t hv ht
    by_cases h:v=0
    · subst h
      rw [bB,List.append_nil]
      exact aY (by unfold gW;simp)
    · rw [gC h,List.length_cons] at ht
      have hm:=Nat.mod_lt v rK
      have hd:=Nat.div_le_self v BB
      rw [dI] at hm
      have e:gW ((v:Int),t)=some (.inl (((v / BB:Nat):Int),t++[((v % BB:Nat):Int)])):=by
        unfold gW
        simp only []
        rw [if_pos (by omega),aCa,aCb,wi (by rw [dI];omega),wu (by rw [dI] at hd ⊢;omega),bM (by omega)]
        rfl
      rw [bI e,ih _ (Nat.div_lt_self (by omega) (by rw [dI];omega)) _ (by omega) (by simp;omega),gC h]
      simp
theorem iI {v:Nat} (h:v < 18446744073709551616):(aE v).length≤3:=by
  refine iR ?_
  rw [dI];omega
theorem sP (v:Nat) (h:v < 18446744073709551616):fF (v:Int)=some (aE v):=by
  unfold fF
  have:=iI h
  rw [aCB v [] h (by simp;omega)]
  simp
theorem aGb:∀ (v:Nat) (t:List Int),v < 9223372036854775808→t.length+(aE v).length≤1000→lp mL ((v:Int),t)=some (t++aE v):=by
  intro v
  induction v using Nat.strongRecOn with
  | _ v ih =>
    intro t hv ht
    by_cases h:v=0
    · subst h
      rw [bB,List.append_nil]
      exact aY (by unfold mL;simp)
    · rw [gC h,List.length_cons] at ht
      have hd:=Nat.div_le_self v BB
      have e:mL ((v:Int),t)=some (.inl (((v / BB:Nat):Int),t++[((v % BB:Nat):Int)])):=by
        unfold mL
        simp only []
        rw [if_pos (by omega),aCa,aCb,wi (by rw [dI] at hd ⊢;omega),bM (by omega)]
        rfl
      rw [bI e,ih _ (Nat.div_lt_self (by omega) (by rw [dI];omega)) _ (by omega) (by simp;omega),gC h]
      simp
theorem wD (v:Nat) (h:v < 9223372036854775808):kE (v:Int)=some (aE v):=by
  unfold kE
  have:=iI (v:=v) (by omega)
  rw [aGb v [] h (by simp;omega)]
  simp
theorem aGD (l:List Int) (hl:l.length≤4294967296):∀ k:Nat,k≤l.length→(∀ i (hi:i < l.length),k≤i→l[i]=0)→lp (eM l) (k:Int)=some (((oY l).length:Nat):Int):=by
  have htl:∀ (m:List Int) (k:Nat),k≤m.length→(∀ i (hi:i < m.length),k≤i→m[i]=0)→oY m=oY (m.take k):=by
    intro m
    induction m with
    | nil=>intro k _ _;simp
    | cons d m ih =>
      intro k hk hz
      cases k with
      | zero =>
        have h0:d=0:=hz 0 (by simp) (Nat.le_refl _)
        have:=ih 0 (by omega) (fun i hi _=>by have:=hz (i+1) (by simpa using hi) (by omega);simpa using this)
        rw [List.take_zero] at this ⊢
        unfold oY
        rw [this];simp [oY,h0]
      | succ k =>
        have:=ih k (by simpa using hk) (fun i hi hki=>by have:=hz (i+1) (by simpa using hi) (by omega);simpa using this)
        rw [List.take_succ_cons]
        conv=>lhs;unfold oY
        conv=>rhs;unfold oY
        rw [this]
  intro k
  induction k with
  | zero =>
    intro hk hz
    rw [htl l 0 (by omega) hz,List.take_zero]
    exact aY (by unfold eM;simp [oY])
  | succ k ih =>
    intro hk hz
    have hlt:k < l.length:=by omega
    by_cases c:l[k]=0
    · have e:eM l ((k+1:Nat):Int)=some (.inl (k:Int)):=by
        unfold eM
        rw [if_pos (by omega),wi (by omega),show ((k+1:Nat):Int) - 1=(k:Int) by omega,aT hlt]
        simp [c]
      rw [bI e]
      exact ih (by omega) (fun i hi hki=>by
        by_cases e:i=k
        · subst e;exact c
        · exact hz i hi (by omega))
    · have e:eM l ((k+1:Nat):Int)=some (.inr ((k+1:Nat):Int)):=by
        unfold eM
        rw [if_pos (by omega),wi (by omega),show ((k+1:Nat):Int) - 1=(k:Int) by omega,aT hlt]
        simp [c]
      rw [aY e,htl l (k+1) hk hz,aAz (l:=l.take (k+1))]
      · simp;omega
      · have e:l.take (k+1)=l.take k++[l[k]]:=by rw [List.take_succ,List.getElem?_eq_getElem hlt];rfl
        rw [e,List.getLast?_concat];simpa using c
theorem aDw (l:List Int):oY l=l.take (oY l).length:=by
  induction l with
  | nil=>rfl
  | cons d l ih =>
    unfold oY
    cases h:oY l with
    | nil =>
      by_cases c:d=0 <;> simp [c]
    | cons t r =>
      rw [h] at ih
      simp only [List.length_cons,List.take_succ_cons] at ih ⊢
      rw [← ih]
theorem aEJ (l:List Int):(oY l).length≤l.length:=by
  have:=congrArg List.length (aDw l)
  rw [List.length_take] at this;omega
theorem aDI (l:List Int) (hl:l.length≤4294967296):cV l=some (oY l):=by
  unfold cV
  rw [aGD l hl l.length (Nat.le_refl _) (fun i hi h=>by omega)]
  simp only [Option.bind_some]
  have:=aEJ l
  rw [aGh _ _ _ (by omega)]
  simp only [Option.bind_some]
  congr 1
  have e:=aDw l
  simp only [Int.toNat_zero,List.drop_zero,Int.sub_zero,Int.toNat_natCast]
  exact e.symm
theorem aHI (v:Nat) (h:(aE v).length≤60):sK (aE v)=some (aE v):=by
  unfold sK
  rw [aDI _ (by omega)]
  simp only [Option.bind_some]
  rw [aAz (xX v),if_neg (by omega)]
def big (n:Int):BigInt:=⟨decide (n < 0),aE n.natAbs⟩
theorem qL (s:Bool) (v:Nat) (h:(aE v).length≤60):cC s (aE v)=some ⟨s&&decide (v≠0),aE v⟩:=by
  unfold cC
  rw [aHI v h]
  simp only [Option.bind_some]
  have hz:(0 < ((aE v).length:Int))↔v≠0:=by
    constructor
    · intro h e;subst e;rw [bB] at h;simp at h
    · intro h
      have:(aE v).length≠0:=fun e=>gD h (List.length_eq_zero_iff.1 e)
      omega
  cases s with
  | true =>
    simp only [if_true]
    rw [bM (by simp;omega)]
    simp only [Option.bind_some,aN,List.nil_append,Bool.true_and]
    congr 2
    exact decide_eq_decide.2 hz
  | false =>
    simp only [Bool.false_eq_true,if_false]
    rw [bM (by simp;omega)]
    simp only [Option.bind_some,aN,List.nil_append,Bool.false_and]
theorem rT (s:Bool) (v:Nat) (h:(aE v).length≤60):fG s (aE v)=some ⟨s&&decide (v≠0),aE v⟩:=by
  unfold fG
  by_cases hv:v=0
  · subst hv
    rw [bB];simp
  · have:(aE v).length≠0:=fun e=>gD hv (List.length_eq_zero_iff.1 e)
    rw [if_neg (by omega)]
    simp only [Option.bind_some]
    have h2:¬(60 < ((aE v).length:Int)):=by omega
    simp [h2,hv]
theorem aBQ (n:Int) (h:-9223372036854775808≤n∧n≤9223372036854775807):pR n=some (big n):=by
  unfold pR big
  by_cases c:n < 0
  · rw [if_pos c]
    simp only [aN]
    rw [wi (n:=n+1) (by omega),wi (by omega),wu (n:=0 - (n+1)) (by omega),wu (by omega)]
    have e:(0 - (n+1)+1)=((n.natAbs:Nat):Int):=by omega
    have hl:=iI (v:=n.natAbs) (by omega)
    rw [e,sP _ (by omega)]
    simp only [Option.bind_some]
    rw [rT true _ (by omega)]
    simp only [Option.bind_some,Bool.true_and]
    have:n.natAbs≠0:=by omega
    simp [c,this]
  · rw [if_neg c]
    have e:n=((n.natAbs:Nat):Int):=by omega
    have hl:=iI (v:=n.natAbs) (by omega)
    rw [wu (by omega)]
    conv=>lhs;rw [e]
    rw [sP _ (by omega)]
    simp only [Option.bind_some]
    rw [rT false _ (by omega)]
    simp [c]
theorem aBv (n:Int) (h:-9223372036854775808≤n∧n≤9223372036854775807):pE n=some (big n):=by
  unfold pE big
  by_cases c0:n=-9223372036854775808
  · rw [if_pos c0]
    subst c0
    have hd:([854775808,223372036,9]:List Int)=aE 9223372036854775808:=by
      have h1:dgs [854775808,223372036,9]:=by intro d hd;simp at hd;omega
      have:=vQ (l:=[854775808,223372036,9]) ⟨h1,by simp⟩
      rw [this];rfl
    have hl:=iI (v:=9223372036854775808) (by omega)
    rw [hd,qL true _ (by omega)]
    simp only [Option.bind_some]
    rfl
  · rw [if_neg c0]
    by_cases c:n < 0
    · rw [if_pos c,wi (by omega)]
      have e:(0 - n)=((n.natAbs:Nat):Int):=by omega
      have hl:=iI (v:=n.natAbs) (by omega)
      rw [e,wD _ (by omega)]
      simp only [Option.bind_some]
      rw [qL true _ (by omega)]
      simp only [Option.bind_some,Bool.true_and]
      have:n.natAbs≠0:=by omega
      simp [c,this]
    · rw [if_neg c]
      have e:n=((n.natAbs:Nat):Int):=by omega
      have hl:=iI (v:=n.natAbs) (by omega)
      conv=>lhs;rw [e]
      rw [wD _ (by omega)]
      simp only [Option.bind_some]
      rw [qL false _ (by omega)]
      simp [c]
def jL (n:Int):Rat:=⟨big n,[1]⟩
theorem jZ (n:Int) (h:-9223372036854775808≤n∧n≤9223372036854775807):dV n=some (jL n):=by
  unfold dV
  rw [aBQ n h];rfl
theorem gS (n:Int) (h:-9223372036854775808≤n∧n≤9223372036854775807):dU n=some (jL n):=by
  unfold dU
  rw [aBv n h];rfl
end Go.Ev
/- Naturals as limbs: order, sums, differences; both programs. -/
namespace Go.Ev
set_option linter.all false
theorem tD:lW=cV:=rfl
theorem vJ {l:List Int} (h:dgs l) (hl:l.length≤4294967296):cV l=some (aE (val l)):=by rw [aDI l hl,aB8 h]
theorem aFq:tQ=fC:=rfl
theorem aHU (x y t:Nat):oU (x+t) (y+t)=oU x y:=by unfold oU;simp only [Nat.add_lt_add_iff_right]
theorem aHS (a b:List Int) (ha:dgs a) (hb:dgs b) (hab:a.length=b.length) (hl:a.length≤4294967296):∀ k:Nat,k≤a.length →
    lp (fC a b) ((k:Int) - 1)=some (if val (a.take k)=val (b.take k) then .inl () else .inr (oU (val (a.take k)) (val (b.take k)))):=by
  intro k
  induction k with
  | zero =>
    intro _
    rw [aY (r:=.inl ()) (by unfold fC;rw [if_neg (by omega)])]
    simp
  | succ k ih =>
    intro hk
    have h1:k < a.length:=by omega
    have h2:k < b.length:=by omega
    have d1:=kP ha h1
    have d2:=kP hb h2
    have v1:=aB7 (aFo ha k)
    have v2:=aB7 (aFo hb k)
    rw [List.length_take,Nat.min_eq_left (by omega)] at v1 v2
    rw [mI h1,mI h2]
    have hk1:((k+1:Nat):Int) - 1=(k:Int):=by omega
    rw [hk1]
    by_cases c1:a[k] < b[k]
    · rw [aY (r:=.inr (-1)) (by unfold fC;rw [if_pos (by omega),aT h1,aT h2];simp [c1])]
      have:BB ^ k*(a[k]).toNat+BB ^ k≤BB ^ k*(b[k]).toNat:=by
        rw [← Nat.mul_succ];exact Nat.mul_le_mul_left _ (by omega)
      rw [if_neg (by omega)];unfold oU;rw [if_pos (by omega)]
    · by_cases c2:b[k] < a[k]
      · rw [aY (r:=.inr 1) (by unfold fC;rw [if_pos (by omega),aT h1,aT h2];simp [c1,c2])]
        have:BB ^ k*(b[k]).toNat+BB ^ k≤BB ^ k*(a[k]).toNat:=by
          rw [← Nat.mul_succ];exact Nat.mul_le_mul_left _ (by omega)
        rw [if_neg (by omega)];unfold oU;rw [if_neg (by omega),if_pos (by omega)]
      · have e:a[k]=b[k]:=by omega
        rw [bI (s':=(k:Int) - 1) (by unfold fC;rw [if_pos (by omega),aT h1,aT h2,wi (by omega)];simp [c1,c2]),ih (by omega),e]
        by_cases c3:val (a.take k)=val (b.take k)
        · rw [if_pos c3,if_pos (by omega)]
        · rw [if_neg c3,if_neg (by omega)]
          rw [aHU]
theorem aFr {x y:Nat} (h:(aE x).length < (aE y).length):oU x y=-1:=by unfold oU;rw [if_pos (aFT h)]
theorem aDM {x y:Nat} (h:(aE y).length < (aE x).length):oU x y=1:=by have:=aFT h;unfold oU;rw [if_neg (by omega),if_pos this]
theorem aHT (x y:Nat) (hx:(aE x).length≤1000) (h:(aE x).length=(aE y).length):lp (fC (aE x) (aE y)) (((aE x).length:Int) - 1)=some (if x=y then .inl () else .inr (oU x y)):=by
  have:=aHS (aE x) (aE y) (dT x) (dT y) h (by omega) (aE x).length (Nat.le_refl _)
  rw [List.take_length,h,List.take_length,cW,cW] at this
  rw [h];exact this
theorem tP (x y:Nat) (hx:(aE x).length≤1000) (hy:(aE y).length≤1000):iL (aE x) (aE y)=some (oU x y):=by
  unfold iL
  by_cases c:(aE x).length=(aE y).length
  · rw [if_neg (by omega),aN,wi (by omega),aHT x y hx c]
    by_cases e:x=y
    · subst e;simp [oU]
    · rw [if_neg e];rfl
  · rw [if_pos (by omega)]
    by_cases c2:(aE x).length < (aE y).length
    · rw [if_pos (by omega),aFr c2]
    · rw [if_neg (by omega),aDM (by omega)]
theorem xE (x y:Nat) (hx:(aE x).length≤1000) (hy:(aE y).length≤1000):lO (aE x) (aE y)=some (oU x y):=by
  unfold lO
  by_cases c2:(aE x).length < (aE y).length
  · rw [if_pos (by omega),aFr c2]
  · rw [if_neg (by omega)]
    by_cases c3:(aE y).length < (aE x).length
    · rw [if_pos (by omega),aDM c3]
    · rw [if_neg (by omega),aN,wi (by omega),aFq,aHT x y hx (by omega)]
      by_cases e:x=y
      · subst e;simp [oU]
      · rw [if_neg e];rfl
theorem aFw (a b:List Int) (i c:Nat) (out:List Int) (x:Nat) (hx:x≤1999999999) (ho:out.length=i) (hi:i≤2000) (hlt:i < a.length∨i < b.length∨c=1) (hc:c≤1)
    (h:(x:Int)=c+(if h:i < a.length then a[i] else 0)+(if h:i < b.length then b[i] else 0)) (ha:dgs a) (hb:dgs b) :
    gN a b ((c:Int),(i:Int),out)=some (.inl (((x / BB:Nat):Int),((i+1:Nat):Int),out++[((x % BB:Nat):Int)])):=by
  unfold gN
  simp only []
  by_cases c1:i < a.length
  · have d1:=kP ha c1
    rw [dif_pos c1] at h
    rw [if_pos (by omega),if_pos (by omega),aT c1]
    simp only [Option.bind_some,if_true]
    rw [wi (by omega)]
    by_cases c2:i < b.length
    · have d2:=kP hb c2
      rw [dif_pos c2] at h
      rw [if_pos (by omega),aT c2]
      simp only [Option.bind_some]
      rw [wi (by omega),← h,bM (by omega)]
      simp only [Option.bind_some,aN]
      rw [aCa,aCb,wi (by rw [dI];omega),wi (by omega)];rfl
    · rw [dif_neg c2] at h
      rw [if_neg (by omega)]
      simp only [Option.bind_some]
      rw [show (c:Int)+a[i]=(x:Int) by omega,bM (by omega)]
      simp only [Option.bind_some,aN]
      rw [aCa,aCb,wi (by rw [dI];omega),wi (by omega)];rfl
  · rw [dif_neg c1] at h
    have n1:¬((i:Int) < (a.length:Int)):=by omega
    simp only [n1,if_false]
    by_cases c2:i < b.length
    · have d2:=kP hb c2
      rw [dif_pos c2] at h
      have n2:((i:Int) < (b.length:Int)):=by omega
      simp only [n2,if_true,Option.bind_some]
      rw [aT c2]
      simp only [Option.bind_some]
      rw [wi (by omega),show (c:Int)+b[i]=(x:Int) by omega,bM (by omega)]
      simp only [Option.bind_some,aN]
      rw [aCa,aCb,wi (by rw [dI];omega),wi (by omega)];rfl
    · rw [dif_neg c2] at h
      have n2:¬((i:Int) < (b.length:Int)):=by omega
      have hc1:c=1:=by omega
      have hc2:(0 < (c:Int)):=by omega
      simp only [n2,hc2,if_false,decide_true,Option.bind_some,if_true]
      rw [show (c:Int)=(x:Int) by omega,bM (by omega)]
      simp only [Option.bind_some,aN]
      rw [aCa,aCb,wi (by rw [dI];omega),wi (by omega)];rfl
theorem aFv (a b:List Int) (i:Nat) (out:List Int) (h1:a.length≤i) (h2:b.length≤i):lp (gN a b) (0,(i:Int),out)=some out :=
  aY (by unfold gN;simp only [];rw [if_neg (by omega),if_neg (by omega)];simp)
theorem aII (a b:List Int) (ha:dgs a) (hb:dgs b) (i c:Nat) (out:List Int) (hc:c≤1) (ho:out.length=i) (hi:i≤1999) (h1:a.length≤i) (h2:b.length≤i) :
    lp (gN a b) ((c:Int),(i:Int),out)=some (out++aE c):=by
  rcases Nat.eq_zero_or_pos c with e | e
  · subst e
    rw [bB,List.append_nil];exact aFv a b i out h1 h2
  · have e1:c=1:=by omega
    subst e1
    have:=aFw a b i 1 out 1 (by omega) ho (by omega) (.inr (.inr rfl)) (by omega) (by rw [dif_neg (by omega),dif_neg (by omega)];omega) ha hb
    rw [bI this,show 1 / BB=0 from rfl,show 1 % BB=1 from rfl]
    rw [show ((0:Nat):Int)=0 from rfl,aFv a b (i+1) _ (by omega) (by omega),rH (by rw [dI];omega) (by omega)]
theorem aHY (a b:List Int) (ha:nat a) (hb:nat b) (hla:a.length≤1000) (hlb:b.length≤1000):∀ (m i c:Nat) (out:List Int),c≤1→m+i=max a.length b.length→out.length=i →
    lp (gN a b) ((c:Int),(i:Int),out)=some (out++aE (c+(val (a.drop i)+val (b.drop i)))):=by
  intro m
  induction m with
  | zero =>
    intro i c out hc hm ho
    rw [eK (by omega),eK (by omega)]
    exact aII a b ha.1 hb.1 i c out hc ho (by omega) (by omega) (by omega)
  | succ m ih =>
    intro i c out hc hm ho
    obtain ⟨x,hx,e1,e2,e3⟩:∃ x:Nat,x≤1999999999∧c+(val (a.drop i)+val (b.drop i))=x+BB*(val (a.drop (i+1))+val (b.drop (i+1))) ∧
        c+(val (a.drop i)+val (b.drop i))≠0∧(x:Int)=c+(if h:i < a.length then a[i] else 0)+(if h:i < b.length then b[i] else 0):=by
      by_cases c1:i < a.length
      · have d1:=kP ha.1 c1
        have n1:=aBh ha c1
        have v1:=gE c1
        by_cases c2:i < b.length
        · have d2:=kP hb.1 c2
          have v2:=gE c2
          refine ⟨c+(a[i]).toNat+(b[i]).toNat,by omega,by rw [Nat.mul_add];omega,by omega,by rw [dif_pos c1,dif_pos c2];omega⟩
        · have v2:=eK (l:=b) (k:=i) (by omega)
          have v3:=eK (l:=b) (k:=i+1) (by omega)
          refine ⟨c+(a[i]).toNat,by omega,by rw [Nat.mul_add,v3];omega,by omega,by rw [dif_pos c1,dif_neg c2];omega⟩
      · have c2:i < b.length:=by omega
        have d2:=kP hb.1 c2
        have n2:=aBh hb c2
        have v2:=gE c2
        have v1:=eK (l:=a) (k:=i) (by omega)
        have v3:=eK (l:=a) (k:=i+1) (by omega)
        refine ⟨c+(b[i]).toNat,by omega,by rw [Nat.mul_add,v3];omega,by omega,by rw [dif_neg c1,dif_pos c2];omega⟩
    rw [bI (aFw a b i c out x hx ho (by omega) (by omega) hc e3 ha.1 hb.1),ih (i+1) (x / BB) _ (by rw [dI];omega) (by omega) (by simp [ho])]
    rw [e1] at e2 ⊢
    rw [aFn e2];simp
theorem aFb (x y:Nat) (hx:(aE x).length≤1000) (hy:(aE y).length≤1000):sL (aE x) (aE y)=some (aE (x+y)):=by
  unfold sL
  have:=aHY (aE x) (aE y) (aHA x) (aHA y) hx hy _ 0 0 [] (by omega) (Nat.add_zero _) rfl
  rw [show ((0:Nat):Int)=0 from rfl,List.drop_zero,List.drop_zero,cW,cW,Nat.zero_add] at this
  rw [this];rfl
theorem aHC (x y:Nat) (hx:(aE x).length≤1000) (hy:(aE y).length≤1000):uI (aE x) (aE y)=some (aE (x+y)):=aFb x y hx hy
theorem aHj (a b:List Int) (ha:dgs a) (hb:dgs b) (hla:a.length≤1000) (hab:b.length≤a.length):∀ (m i c:Nat) (out:List Int),c≤1→m+i=a.length→out.length=i→dgs out→val (a.take i)+c*BB ^ i=val out+val (b.take i) →
    ∃ (c':Nat) (out':List Int),lp (kT a b) ((c:Int),(i:Int),out)=some out'∧lp (lG a b) ((c:Int),(i:Int),out++List.replicate m 0)=some out'∧dgs out'∧out'.length=a.length∧val a+c'*BB ^ a.length=val out'+val b:=by
  intro m
  induction m with
  | zero =>
    intro i c out hc hm ho hd hv
    have e:i=a.length:=by omega
    refine ⟨c,out,aY ?_,aY ?_,hd,by omega,?_⟩
    · unfold kT;simp only [];rw [if_neg (by omega)]
    · unfold lG;simp only [];rw [if_neg (by omega)];simp
    · rw [e,List.take_length,List.take_of_length_le hab] at hv;exact hv
  | succ m ih =>
    intro i c out hc hm ho hd hv
    have h1:i < a.length:=by omega
    have d1:=kP ha h1
    obtain ⟨bi,hb1,hb2,hb3⟩:∃ bi:Nat,bi < 1000000000∧val (b.take (i+1))=val (b.take i)+BB ^ i*bi∧(bi:Int)=(if h:i < b.length then b[i] else 0):=by
      by_cases c2:i < b.length
      · have d2:=kP hb c2
        exact ⟨(b[i]).toNat,by omega,mI c2,by rw [dif_pos c2];omega⟩
      · refine ⟨0,by omega,?_,by rw [dif_neg c2];rfl⟩
        rw [List.take_of_length_le (by omega),List.take_of_length_le (by omega)];simp
    obtain ⟨n,c',hn,hc',he⟩:∃ n c':Nat,n < 1000000000∧c'≤1∧a[i] - (c:Int) - (bi:Int)+c'*1000000000=(n:Int)∧(c'=1↔a[i] - (c:Int) - (bi:Int) < 0):=by
      by_cases g:a[i] - (c:Int) - (bi:Int) < 0
      · exact ⟨(a[i] - (c:Int) - (bi:Int)+1000000000).toNat,1,by omega,by omega,by omega,by simp [g]⟩
      · exact ⟨(a[i] - (c:Int) - (bi:Int)).toNat,0,by omega,by omega,by omega,by simp [g]⟩
    obtain ⟨he,hg⟩:=he
    have hs:(n:Int)=a[i] - c - bi+c'*1000000000:=by omega
    have s0:(((if ((i:Int) < (b.length:Int)) then (idx b (i:Int)).bind fun y16=>(bH (IntKind.i64.wrap (IntKind.i64.wrap (a[i] - c) - y16))).bind fun v17=>some v17 else some (IntKind.i64.wrap (a[i] - c))):Option Int).bind (fun d19=>((if (d19 < 0) then (bH (IntKind.i64.wrap (d19+1000000000))).bind fun v21=>some (1,v21) else some (0,d19)):Option (Int × Int))))=some ((c':Int),(n:Int)):=by
      rw [wi (by omega)]
      have fin:∀ z:Int,z=a[i] - c - bi→(if (z < 0) then (bH (IntKind.i64.wrap (z+1000000000))).bind fun v21=>some ((1:Int),v21) else some (0,z))=some ((c':Int),(n:Int)):=by
        intro z hz
        by_cases g:z < 0
        · have e1:c'=1:=hg.2 (by omega)
          subst e1
          rw [if_pos g,aN,wi (by omega)];congr 2;omega
        · have e1:c'=0:=by
            have:¬c'=1:=fun h=>g (by have:=hg.1 h;omega)
            omega
          subst e1
          rw [if_neg g];congr 2;omega
      by_cases c2:i < b.length
      · rw [dif_pos c2] at hb3
        rw [if_pos (by omega),aT c2]
        simp only [Option.bind_some,aN]
        rw [wi (by omega)]
        exact fin _ (by omega)
      · rw [dif_neg c2] at hb3
        rw [if_neg (by omega)]
        simp only [Option.bind_some]
        exact fin _ (by omega)
    have s1:kT a b ((c:Int),(i:Int),out)=some (.inl ((c':Int),((i+1:Nat):Int),out++[(n:Int)])):=by
      unfold kT
      simp only []
      rw [if_pos (by omega),aT h1]
      simp only [Option.bind_some]
      rw [← Option.bind_assoc,s0]
      simp only [Option.bind_some]
      rw [bM (by omega),wi (by omega)];rfl
    have s2:lG a b ((c:Int),(i:Int),out++List.replicate (m+1) 0)=some (.inl ((c':Int),((i+1:Nat):Int),(out++[(n:Int)])++List.replicate m 0)):=by
      unfold lG
      simp only []
      rw [if_pos (by omega),aT h1]
      simp only [Option.bind_some]
      rw [← Option.bind_assoc,s0]
      simp only [Option.bind_some]
      rw [aT (by simp;omega),wi (by omega)]
      simp only [Option.bind_some,aN,hZ]
      congr 4
      rw [List.set_append_right _ _ (by omega),ho,Nat.sub_self,List.replicate_succ,List.set_cons_zero];simp
    rw [bI s1,bI s2]
    refine ih (i+1) c' _ hc' (by omega) (by simp [ho]) (by rw [aGu];exact ⟨hd,by intro z hz;simp at hz;omega⟩) ?_
    rw [mI h1,aDV,hb2,ho]
    have e:=congrArg (BB ^ i*·) (show (a[i]).toNat+c'*BB=n+bi+c by rw [dI];omega)
    simp only [Nat.mul_add] at e
    simp only [val,Int.toNat_natCast,Nat.mul_zero,Nat.add_zero]
    have e2:c'*BB ^ (i+1)=BB ^ i*(c'*BB):=by rw [Nat.pow_succ,Nat.mul_comm c',Nat.mul_assoc,Nat.mul_comm BB c']
    rw [e2]
    rw [Nat.mul_comm c] at hv
    omega
theorem aIo {a b c' L:Nat} {out:List Int} (hd:dgs out) (hl:out.length=L) (h:a+c'*BB ^ L=val out+b) (hab:b≤a):val out=a - b:=by
  have:=aB7 hd
  rw [hl] at this
  cases c' with
  | zero=>simp at h;omega
  | succ c =>
    rw [Nat.succ_mul] at h
    have:0≤c*BB ^ L:=Nat.zero_le _
    omega
theorem uX (x y:Nat) (hx:(aE x).length≤1000) (hyx:y≤x):nF (aE x) (aE y)=some (aE (x - y))∧nV (aE x) (aE y)=some (aE (x - y)):=by
  have hl:(aE y).length≤(aE x).length:=eG hyx (Nat.le_refl _)
  obtain ⟨c',out',e1,e2,e3,e4,e5⟩:=aHj (aE x) (aE y) (dT x) (dT y) hx hl (aE x).length 0 0 [] (by omega) (by omega) rfl yR (by simp [val])
  rw [cW,cW] at e5
  have hv:=aIo e3 e4 e5 hyx
  rw [show ((0:Nat):Int)=0 from rfl] at e1 e2
  rw [List.nil_append] at e2
  constructor
  · unfold nF
    rw [e1]
    simp only [Option.bind_some]
    rw [vJ e3 (by omega),hv];rfl
  · unfold nV
    rw [bM (by omega)]
    simp only [Option.bind_some,Int.toNat_natCast]
    rw [e2]
    simp only [Option.bind_some]
    rw [tD,vJ e3 (by omega),hv];rfl
end Go.Ev
/- Naturals as limbs: products; both programs. -/
namespace Go.Ev
set_option linter.all false
theorem aE3 (a b:List Int) (i:Nat) (hi:i < a.length):rE a b (i:Int)=gM b (i:Int) a[i]:=by
  funext s
  obtain ⟨c,j,v⟩:=s
  unfold rE gM
  simp only [aT hi,Option.bind_some,aN]
  split
  · cases idx v (IntKind.i64.wrap ((i:Int)+j)) with
    | none=>cases idx b j <;> rfl
    | some y =>
      cases idx b j with
      | none=>rfl
      | some z=>simp only [Option.bind_some];rw [Int.add_comm c]
  · rfl
theorem aGO (b:List Int) (i x:Nat) (hx:x < 1000000000) (hb:dgs b) (hlb:b.length≤1000) (hi:i≤1000):∀ (m j c:Nat) (v:List Int),m+j=b.length→c < 1000000000→dgs v→i+b.length≤v.length→v.length≤2000 →
    ∃ (c':Nat) (v':List Int),lp (gM b (i:Int) (x:Int)) ((c:Int),(j:Int),v)=some ((c':Int),v')∧c' < 1000000000∧dgs v'∧v'.length=v.length∧v'.drop (i+b.length)=v.drop (i+b.length) ∧
      val v'+c'*BB ^ (i+b.length)+x*BB ^ i*val (b.take j)=val v+c*BB ^ (i+j)+x*BB ^ i*val b:=by
  intro m
  induction m with
  | zero =>
    intro j c v hm hc hv hl hl2
    have e:j=b.length:=by omega
    subst e
    refine ⟨c,v,aY ?_,hc,hv,rfl,rfl,?_⟩
    · unfold gM;simp only [];rw [if_neg (by omega)]
    · rw [List.take_length]
  | succ m ih =>
    intro j c v hm hc hv hl hl2
    have h1:j < b.length:=by omega
    have h2:i+j < v.length:=by omega
    have d1:=kP hb h1
    have d2:=kP hv h2
    obtain ⟨y,hy⟩:∃ y:Nat,b[j]=(y:Int):=⟨(b[j]).toNat,by omega⟩
    obtain ⟨z,hz⟩:∃ z:Nat,v[i+j]=(z:Int):=⟨(v[i+j]).toNat,by omega⟩
    have hxy:x*y≤999999999*999999999:=Nat.mul_le_mul (by omega) (by omega)
    have hxy0:((x:Int)*(y:Int))=((x*y:Nat):Int):=by push_cast;rfl
    have s1:gM b (i:Int) (x:Int) ((c:Int),(j:Int),v)=some (.inl ((((z+x*y+c) / BB:Nat):Int),((j+1:Nat):Int),v.set (i+j) (((z+x*y+c) % BB:Nat):Int))):=by
      unfold gM
      simp only []
      rw [if_pos (by omega),aT h1,wi (by omega),show (i:Int)+(j:Int)=((i+j:Nat):Int) by omega,aT h2]
      simp only [Option.bind_some,aN,hZ,hy,hz,hxy0]
      rw [wi (n:=((x*y:Nat):Int)) (by omega),wi (n:=(z:Int)+_) (by omega),wi (n:=(z:Int)+_+_) (by omega),show (z:Int)+((x*y:Nat):Int)+(c:Int)=((z+x*y+c:Nat):Int) by omega,aCa,aCb,wi (by rw [dI];omega),wi (by omega)]
      rfl
    have hm1:=Nat.mod_lt (z+x*y+c) rK
    have hm2:=Nat.mod_add_div (z+x*y+c) BB
    obtain ⟨c',v',e1,e2,e3,e4,e5,e6⟩:=ih (j+1) ((z+x*y+c) / BB) (v.set (i+j) (((z+x*y+c) % BB:Nat):Int)) (by omega) (by rw [dI];omega) (aAT hv _ _ (by rw [dI] at hm1 ⊢;omega)) (by simpa using hl) (by simpa using hl2)
    refine ⟨c',v',by rw [bI s1];exact e1,e2,e3,by simpa using e4,?_,?_⟩
    · rw [e5,List.drop_set_of_lt (by omega)]
    · have hs:=aDU (l:=v) (x:=(((z+x*y+c) % BB:Nat):Int)) h2
      rw [hz] at hs
      simp only [Int.toNat_natCast] at hs
      rw [mI h1,hy,Int.toNat_natCast] at e6
      have f1:x*BB ^ i*(val (b.take j)+BB ^ j*y)=x*BB ^ i*val (b.take j)+BB ^ (i+j)*(x*y):=by
        rw [Nat.mul_add,Nat.pow_add]
        congr 1
        rw [Nat.mul_assoc x,Nat.mul_assoc (BB ^ i),Nat.mul_left_comm x,Nat.mul_left_comm x]
      rw [f1] at e6
      have f2:(z+x*y+c) / BB*BB ^ (i+(j+1))=BB ^ (i+j)*(BB*((z+x*y+c) / BB)):=by
        rw [← Nat.add_assoc,Nat.pow_succ,Nat.mul_comm ((z+x*y+c) / BB),Nat.mul_assoc]
      rw [f2] at e6
      have f3:=congrArg (BB ^ (i+j)*·) hm2
      simp only [Nat.mul_add] at f3
      rw [Nat.mul_comm c]
      omega
theorem tB {l:List Int} {k:Nat} {x:Int}:(l.set k x).drop (k+1)=l.drop (k+1):=by rw [List.drop_set_of_lt (by omega)]
theorem aGN (a b:List Int) (ha:dgs a) (hb:dgs b) (hla:a.length≤900) (hlb:b.length≤900):∀ (m i:Nat) (v:List Int),m+i=a.length→v.length=a.length+b.length→dgs v→v.drop (i+b.length)=List.replicate m 0→val v=val (a.take i)*val b →
    ∃ v':List Int,lp (kU a b) ((i:Int),v)=some v'∧lp (lH a b) ((i:Int),v)=some v'∧dgs v'∧v'.length=a.length+b.length∧val v'=val a*val b:=by
  intro m
  induction m with
  | zero =>
    intro i v hm hl hv hz he
    have e:i=a.length:=by omega
    subst e
    rw [List.take_length] at he
    refine ⟨v,aY ?_,aY ?_,hv,hl,he⟩
    · unfold kU;simp only [];rw [if_neg (by omega)]
    · unfold lH;simp only [];rw [if_neg (by omega)]
  | succ m ih =>
    intro i v hm hl hv hz he
    have h1:i < a.length:=by omega
    have d1:=kP ha h1
    obtain ⟨x,hx⟩:∃ x:Nat,a[i]=(x:Int):=⟨(a[i]).toNat,by omega⟩
    obtain ⟨c',v',e1,e2,e3,e4,e5,e6⟩:=aGO b i x (by omega) hb (by omega) (by omega) b.length 0 0 v (by omega) (by omega) hv (by omega) (by omega)
    rw [show ((0:Nat):Int)=0 from rfl] at e1
    have h2:i+b.length < v'.length:=by omega
    have hzero:v'[i+b.length]=0:=by
      have q:(v'.drop (i+b.length))[0]?=some 0:=by rw [e5,hz];simp [List.replicate_succ]
      rw [List.getElem?_drop,Nat.add_zero,List.getElem?_eq_getElem h2] at q
      exact Option.some.inj q
    have s1:kU a b ((i:Int),v)=some (.inl (((i+1:Nat):Int),v'.set (i+b.length) (c':Int))):=by
      unfold kU
      simp only []
      rw [if_pos (by omega),aT h1,hx]
      simp only [Option.bind_some]
      rw [e1]
      simp only [Option.bind_some,aN]
      rw [wi (by omega),show (i:Int)+(b.length:Int)=((i+b.length:Nat):Int) by omega,aT h2]
      simp only [Option.bind_some,hZ]
      rw [wi (by omega)];rfl
    have s2:lH a b ((i:Int),v)=some (.inl (((i+1:Nat):Int),v'.set (i+b.length) (c':Int))):=by
      unfold lH
      simp only []
      rw [if_pos (by omega),aE3 a b i h1,hx,e1]
      simp only [Option.bind_some,aN]
      rw [wi (by omega),show (i:Int)+(b.length:Int)=((i+b.length:Nat):Int) by omega,aT h2]
      simp only [Option.bind_some,hZ]
      rw [wi (by omega)];rfl
    rw [bI s1,bI s2]
    refine ih (i+1) _ (by omega) (by rw [List.length_set];omega) (aAT e3 _ _ (by omega)) ?_ ?_
    · rw [show i+1+b.length=(i+b.length)+1 by omega,tB,← List.drop_drop,e5,hz,List.replicate_succ];simp
    · have hs:=aDU (l:=v') (x:=(c':Int)) h2
      rw [hzero] at hs
      simp only [Int.toNat_natCast,Int.toNat_zero,Nat.mul_zero,Nat.add_zero] at hs
      rw [List.take_zero] at e6
      simp only [val,Nat.mul_zero,Nat.zero_mul,Nat.add_zero] at e6
      rw [mI h1,hx,Int.toNat_natCast,Nat.add_mul,← he,hs,Nat.mul_comm (BB ^ (i+b.length)),e6,Nat.mul_comm x]
theorem jS (x y:Nat) (hx:(aE x).length≤900) (hy:(aE y).length≤900):cG (aE x) (aE y)=some (aE (x*y))∧qM (aE x) (aE y)=some (aE (x*y)):=by
  unfold cG qM
  by_cases c1:(aE x).length=0
  · have:x=0:=aCU.1 (List.length_eq_zero_iff.1 c1)
    subst this
    rw [if_pos (by omega)]
    simp [bB]
  · rw [if_neg (by omega)]
    by_cases c2:(aE y).length=0
    · have:y=0:=aCU.1 (List.length_eq_zero_iff.1 c2)
      subst this
      simp [bB]
    · have n2:¬(((aE y).length:Int)=0):=by omega
      simp only [n2,decide_false,Option.bind_some,Bool.false_eq_true,if_false,aN]
      rw [wi (by omega),show ((aE x).length:Int)+((aE y).length:Int)=(((aE x).length+(aE y).length:Nat):Int) by omega,bM (by omega)]
      simp only [Option.bind_some,Int.toNat_natCast]
      obtain ⟨v',e1,e2,e3,e4,e5⟩:=aGN (aE x) (aE y) (dT x) (dT y) hx hy (aE x).length 0 (List.replicate ((aE x).length+(aE y).length) 0) (by omega) (by simp) (aBW _) (by simp) (by simp [aIk,val])
      rw [show ((0:Nat):Int)=0 from rfl] at e1 e2
      rw [cW,cW] at e5
      rw [e1,e2]
      simp only [Option.bind_some]
      rw [tD,vJ e3 (by omega),e5]
      exact ⟨rfl,rfl⟩
end Go.Ev
/- Naturals as limbs: quotients; both programs. -/
namespace Go.Ev
set_option linter.all false
theorem aIF (x y:Nat):(aE (x / y)).length≤(aE x).length:=eG (Nat.div_le_self x y) (Nat.le_refl _)
theorem aGn (x:Nat) {y:Nat} (h:0 < y):(aE (x % y)).length≤(aE y).length:=eG (Nat.le_of_lt (Nat.mod_lt x h)) (Nat.le_refl _)
theorem aEM (x y:Nat):((x:Int)).tdiv (y:Int)=((x / y:Nat):Int):=by
  rw [Int.tdiv_eq_ediv_of_nonneg (by omega)];rfl
theorem aFD (x y:Nat):((x:Int)).tmod (y:Int)=((x % y:Nat):Int):=by
  rw [Int.tmod_eq_emod_of_nonneg (by omega)];rfl
theorem aIW (r:Nat):(r:Int)*1000000000=((r*BB:Nat):Int):=by rw [Int.natCast_mul];rfl
theorem aFG (a:List Int) (d:Nat) (hd:0 < d∧d < 1000000000) (ha:dgs a) (hla:a.length≤1000):∀ (k r:Nat) (v:List Int),k≤a.length→r < d→dgs v→v.length=a.length→val (a.drop k)=d*val (v.drop k)+r→v.take k=List.replicate k 0 →
    ∃ (r':Nat) (v':List Int),lp (iS a (d:Int)) ((r:Int),(k:Int) - 1,v)=some ((r':Int),v')∧r' < d∧dgs v'∧v'.length=a.length∧val a=d*val v'+r':=by
  intro k
  induction k with
  | zero =>
    intro r v hk hr hv hl he ht
    refine ⟨r,v,aY ?_,hr,hv,hl,by simpa using he⟩
    unfold iS;simp only [];rw [if_neg (by omega)]
  | succ k ih =>
    intro r v hk hr hv hl he ht
    have h1:k < a.length:=by omega
    have h2:k < v.length:=by omega
    have d1:=kP ha h1
    obtain ⟨x,hx⟩:∃ x:Nat,a[k]=(x:Int):=⟨(a[k]).toNat,by omega⟩
    have hn:r*BB+x < d*BB:=by
      have:(r+1)*BB≤d*BB:=Nat.mul_le_mul_right _ hr
      rw [Nat.succ_mul] at this
      have:x < BB:=by rw [dI];omega
      omega
    have hq:(r*BB+x) / d < BB:=by rw [Nat.div_lt_iff_lt_mul hd.1,Nat.mul_comm BB];exact hn
    have hm:=Nat.mod_lt (r*BB+x) hd.1
    have hmd:=Nat.mod_add_div (r*BB+x) d
    have hrB:r*BB≤999999999*1000000000:=Nat.mul_le_mul (by omega) (by rw [dI];omega)
    have t1:=aEM (r*BB+x) d
    have t2:=aFD (r*BB+x) d
    generalize (r*BB+x) / d=Q at hq hmd t1
    generalize (r*BB+x) % d=R at hm hmd t2
    rw [dI] at hq
    have s1:iS a (d:Int) ((r:Int),((k+1:Nat):Int) - 1,v)=some (.inl ((R:Int),(k:Int) - 1,v.set k (Q:Int))):=by
      unfold iS
      simp only []
      rw [show ((k+1:Nat):Int) - 1=(k:Int) by omega,if_pos (by omega),aT h1,hx,aT h2]
      simp only [Option.bind_some,aN,hZ]
      rw [aIW,wi (n:=((r*BB:Nat):Int)) (by omega),show ((r*BB:Nat):Int)+(x:Int)=((r*BB+x:Nat):Int) by omega,bM (by omega),wi (n:=((r*BB+x:Nat):Int)) (by omega),t1,t2]
      simp only [Option.bind_some]
      rw [wi (by omega),wi (by omega)]
    obtain ⟨r',v',e1,e2,e3,e4,e5⟩:=ih R (v.set k (Q:Int)) (by omega) hm (aAT hv _ _ (by omega)) (by simpa using hl) (by
        rw [gE h1,gE (l:=v.set k _) (by simpa using h2),List.getElem_set_self,tB,he,hx,Int.toNat_natCast,Int.toNat_natCast]
        rw [Nat.mul_add,Nat.mul_add d,← Nat.mul_assoc BB d,← Nat.mul_assoc d BB,Nat.mul_comm BB d]
        rw [Nat.mul_comm BB r]
        omega) (by
        rw [List.take_set_of_le (by omega)]
        have:=congrArg (List.take k) ht
        rw [List.take_take,Nat.min_eq_left (by omega),List.take_replicate,Nat.min_eq_left (by omega)] at this
        exact this)
    exact ⟨r',v',by rw [bI s1];exact e1,e2,e3,e4,e5⟩
theorem aAi {a b q r:Nat} (hb:r < b) (h:a=b*q+r):q=a / b∧r=a % b:=by
  subst h
  constructor
  · rw [Nat.mul_comm,Nat.add_comm,Nat.add_mul_div_right _ _ (by omega),Nat.div_eq_of_lt hb,Nat.zero_add]
  · rw [Nat.add_comm,Nat.add_mul_mod_self_left,Nat.mod_eq_of_lt hb]
theorem aFU (x d:Nat) (hd:0 < d∧d < 1000000000) (hx:(aE x).length≤1000):oZ (aE x) (d:Int)=some (aE (x / d),((x % d:Nat):Int)):=by
  obtain ⟨r',v',e1,e2,e3,e4,e5⟩:=aFG (aE x) d hd (dT x) hx (aE x).length 0 (List.replicate (aE x).length 0) (Nat.le_refl _) hd.1 (aBW _) (by simp) (by rw [eK (Nat.le_refl _),eK (by simp)];rfl) (by simp)
  rw [cW] at e5
  obtain ⟨q1,q2⟩:=aAi e2 e5
  unfold oZ
  rw [bM (by omega)]
  simp only [Option.bind_some,aN,Int.toNat_natCast]
  rw [show ((0:Nat):Int)=0 from rfl] at e1
  rw [wi (by omega),e1]
  simp only [Option.bind_some]
  rw [vJ e3 (by omega),q1,q2];rfl
theorem aF2 (r b:Nat) (hb:0 < b) (hlr:(aE r).length≤800) (hlb:(aE b).length≤800):∀ (m lo hi:Nat),hi - lo≤m→lo≤r / b→r / b≤hi→hi≤999999999→lp (dW (aE r) (aE b)) ((lo:Int),(hi:Int))=some ((r / b:Nat):Int):=by
  intro m
  induction m with
  | zero =>
    intro lo hi h1 h2 h3 h4
    have:lo=r / b:=by omega
    subst this
    refine aY ?_
    unfold dW;simp only [];rw [if_neg (by omega)]
  | succ m ih =>
    intro lo hi h1 h2 h3 h4
    by_cases c:lo < hi
    · have hq:((lo:Int)+(hi:Int)+1).tdiv 2=(((lo+hi+1) / 2:Nat):Int):=by
        rw [show (lo:Int)+(hi:Int)+1=((lo+hi+1:Nat):Int) by omega,show (2:Int)=((2:Nat):Int) from rfl,aEM]
      obtain ⟨q,hqe⟩:∃ q,q=(lo+hi+1) / 2:=⟨_,rfl⟩
      have hlq:(aE q).length≤1:=iR (by rw [dI];omega)
      have hlm:(aE (b*q)).length≤900:=by have:=cZ b q;omega
      have hc:oU (b*q) r≤0↔q≤r / b:=by
        rw [Nat.le_div_iff_mul_le hb,Nat.mul_comm q b]
        unfold oU
        by_cases c1:b*q < r
        · rw [if_pos c1];constructor <;> intro _ <;> omega
        · rw [if_neg c1]
          by_cases c2:r < b*q
          · rw [if_pos c2];constructor <;> intro _ <;> omega
          · rw [if_neg c2];constructor <;> intro _ <;> omega
      by_cases c2:q≤r / b
      · have s1:dW (aE r) (aE b) ((lo:Int),(hi:Int))=some (.inl ((q:Int),(hi:Int))):=by
          unfold dW
          simp only [aN]
          rw [if_pos (by omega),wi (n:=(lo:Int)+hi) (by omega),wi (n:=(lo:Int)+hi+1) (by omega),hq,← hqe,wi (by omega),wD _ (by omega)]
          simp only [Option.bind_some]
          rw [(jS b q (by omega) (by omega)).1]
          simp only [Option.bind_some]
          rw [tP _ _ (by omega) (by omega)]
          simp only [Option.bind_some]
          rw [if_pos (hc.2 c2)]
        rw [bI s1]
        exact ih q hi (by omega) c2 h3 h4
      · have s1:dW (aE r) (aE b) ((lo:Int),(hi:Int))=some (.inl ((lo:Int),((q - 1:Nat):Int))):=by
          unfold dW
          simp only [aN]
          rw [if_pos (by omega),wi (n:=(lo:Int)+hi) (by omega),wi (n:=(lo:Int)+hi+1) (by omega),hq,← hqe,wi (n:=(q:Int)) (by omega),wD _ (by omega)]
          simp only [Option.bind_some]
          rw [(jS b q (by omega) (by omega)).1]
          simp only [Option.bind_some]
          rw [tP _ _ (by omega) (by omega)]
          simp only [Option.bind_some]
          rw [if_neg (fun h=>c2 (hc.1 h)),wi (by omega),show (q:Int) - 1=((q - 1:Nat):Int) by omega]
        rw [bI s1]
        exact ih lo (q - 1) (by omega) h2 (by omega) (by omega)
    · have:lo=r / b:=by omega
      subst this
      refine aY ?_
      unfold dW;simp only [];rw [if_neg (by omega)]
theorem aFV (r b:Nat) (hb:0 < b) (hlr:(aE r).length≤800) (hlb:(aE b).length≤800) (h:r / b≤999999999):pA (aE r) (aE b)=some ((r / b:Nat):Int):=by
  unfold pA
  have:=aF2 r b hb hlr hlb 999999999 0 999999999 (by omega) (Nat.zero_le _) h (Nat.le_refl _)
  rw [show ((0:Nat):Int)=0 from rfl,show ((999999999:Nat):Int)=999999999 from rfl] at this
  rw [this];rfl
end Go.Ev
/- Naturals as limbs: quotients of any length; both programs. -/
namespace Go.Ev
set_option linter.all false
theorem aBs {d:Nat} (h:d < BB):(aE d).length≤1:=iR (by simpa using h)
theorem aCR (x R:Nat) (hx:x < 1000000000) (hl:(aE R).length≤4000):cV ([(x:Int)]++aE R)=some (aE (x+BB*R)):=by
  rw [vJ (by rw [aGu];exact ⟨by intro z hz;simp at hz;omega,dT R⟩) (by simp;omega)]
  rw [List.singleton_append,val,cW,Int.toNat_natCast]
theorem aEU {R b:Nat} (h:R < b*BB):(aE R).length≤(aE b).length+2:=by
  have h1:=cZ b BB
  have h2:(aE BB).length≤2:=iR (by rw [dI];omega)
  have h3:=eG (Nat.le_of_lt h) (Nat.le_refl _)
  omega
theorem aGj {x R b:Nat} (hx:x < 1000000000) (hR:R < b):x+BB*R < b*BB:=by
  have:(R+1)*BB≤b*BB:=Nat.mul_le_mul_right _ hR
  rw [Nat.succ_mul,Nat.mul_comm R] at this
  have:x < BB:=by rw [dI];omega
  omega
theorem aEf {R b:Nat} (hb:0 < b) (h:R < b*BB):R / b < BB:=by rw [Nat.div_lt_iff_lt_mul hb,Nat.mul_comm BB];exact h
theorem aHQ (a:List Int) (b:Nat) (hb:0 < b) (hlb:(aE b).length≤700) (ha:dgs a) (hla:a.length≤1000):∀ (k R:Nat) (v:List Int),k≤a.length→R < b→dgs v→v.length=a.length→val (a.drop k)=b*val (v.drop k)+R→v.take k=List.replicate k 0 →
    ∃ (R':Nat) (v':List Int),lp (kV a (aE b)) (aE R,(k:Int) - 1,v)=some (aE R',v')∧R' < b∧dgs v'∧v'.length=a.length∧val a=b*val v'+R':=by
  intro k
  induction k with
  | zero =>
    intro R v hk hr hv hl he ht
    refine ⟨R,v,aY ?_,hr,hv,hl,by simpa using he⟩
    unfold kV;simp only [];rw [if_neg (by omega)]
  | succ k ih =>
    intro R v hk hr hv hl he ht
    have h1:k < a.length:=by omega
    have h2:k < v.length:=by omega
    have d1:=kP ha h1
    obtain ⟨x,hx⟩:∃ x:Nat,a[k]=(x:Int):=⟨(a[k]).toNat,by omega⟩
    have hx2:x < 1000000000:=by omega
    have hn:=aGj hx2 hr
    have hq:=aEf hb hn
    have hm:=Nat.mod_lt (x+BB*R) hb
    have hmd:=Nat.mod_add_div (x+BB*R) b
    have hlR:(aE R).length≤(aE b).length:=eG (Nat.le_of_lt hr) (Nat.le_refl _)
    have hlR2:=aEU hn
    have hv0:v[k]=0:=by
      have q:(v.take (k+1))[k]?=some 0:=by rw [ht];simp
      rw [List.getElem?_take_of_lt (by omega),List.getElem?_eq_getElem h2] at q
      exact Option.some.inj q
    obtain ⟨Q,hQ⟩:∃ Q,Q=(x+BB*R) / b:=⟨_,rfl⟩
    obtain ⟨M,hM⟩:∃ M,M=(x+BB*R) % b:=⟨_,rfl⟩
    have hq':(x+BB*R) / b < 1000000000:=Nat.lt_of_lt_of_eq hq dI
    have hq2:Q < 1000000000:=by rw [hQ];exact hq'
    have s1:kV a (aE b) (aE R,((k+1:Nat):Int) - 1,v)=some (.inl (aE M,(k:Int) - 1,v.set k (Q:Int))):=by
      unfold kV
      simp only []
      rw [show ((k+1:Nat):Int) - 1=(k:Int) by omega,if_pos (by omega),aT h1,hx,aT h2]
      simp only [Option.bind_some,aN,hZ]
      rw [bM (by simp;omega)]
      simp only [Option.bind_some]
      rw [aCR x R hx2 (by omega)]
      simp only [Option.bind_some]
      rw [tP _ _ (by omega) (by omega)]
      simp only [Option.bind_some]
      by_cases c:x+BB*R < b
      · have e1:Q=0:=by rw [hQ,Nat.div_eq_of_lt c]
        have e2:M=x+BB*R:=by rw [hM,Nat.mod_eq_of_lt c]
        have e3:v.set k ((0:Nat):Int)=v:=by
          apply List.ext_getElem
          · simp
          · intro i q1 q2
            rw [List.getElem_set]
            split
            · rename_i h;subst h;exact hv0.symm
            · rfl
        rw [e1,e2,e3,if_pos (by unfold oU;rw [if_pos c];omega),wi (by omega)]
      · have hcm:¬oU (x+BB*R) b < 0:=by
          unfold oU;rw [if_neg c];split <;> omega
        rw [if_neg hcm,aFV _ b hb (by omega) (by omega) (by omega)]
        simp only [Option.bind_some]
        rw [← hQ,wD _ (by omega)]
        simp only [Option.bind_some]
        have hl1:(aE Q).length≤1:=aBs (by rw [dI];omega)
        rw [(jS b Q (by omega) (by omega)).1]
        simp only [Option.bind_some]
        rw [← hM,← hQ] at hmd
        rw [(uX (x+BB*R) (b*Q) (by omega) (by omega)).1]
        simp only [Option.bind_some]
        rw [show x+BB*R - b*Q=M by omega,wi (by omega)]
    obtain ⟨R',v',e1,e2,e3,e4,e5⟩:=ih M (v.set k (Q:Int)) (by omega) (by rw [hM];exact hm) (aAT hv _ _ (by omega)) (by simpa using hl) (by
        rw [gE h1,gE (l:=v.set k _) (by simpa using h2),List.getElem_set_self,tB,he,hx,Int.toNat_natCast,Int.toNat_natCast]
        rw [Nat.mul_add,Nat.mul_add b,← Nat.mul_assoc BB b,← Nat.mul_assoc b BB,Nat.mul_comm BB b]
        rw [← hM,← hQ] at hmd
        omega) (by
        rw [List.take_set_of_le (by omega)]
        have:=congrArg (List.take k) ht
        rw [List.take_take,Nat.min_eq_left (by omega),List.take_replicate,Nat.min_eq_left (by omega)] at this
        exact this)
    exact ⟨R',v',by rw [bI s1];exact e1,e2,e3,e4,e5⟩
theorem aCO (x b:Nat) (hb:0 < b) (hx:(aE x).length≤700) (hlb:(aE b).length≤700):jN (aE x) (aE b)=some (aE (x / b),aE (x % b)):=by
  unfold jN
  by_cases c:(aE b).length=1
  · rw [if_pos (by omega)]
    have hbB:b < BB:=by have:=mS b;rw [c,Nat.pow_one] at this;exact this
    have e:=rH hbB (by omega)
    rw [show (0:Int)=((0:Nat):Int) from rfl,aT (by omega)]
    simp only [e,List.getElem_cons_zero,Option.bind_some]
    rw [dI] at hbB
    rw [aFU x b ⟨hb,by omega⟩ (by omega)]
    simp only [Option.bind_some]
    have:=Nat.mod_lt x hb
    rw [wD _ (by omega)];rfl
  · rw [if_neg (by omega),bM (by omega)]
    simp only [Option.bind_some,aN,Int.toNat_natCast]
    obtain ⟨r',v',e1,e2,e3,e4,e5⟩:=aHQ (aE x) b hb hlb (dT x) (by omega) (aE x).length 0 (List.replicate (aE x).length 0) (Nat.le_refl _) hb (aBW _) (by simp) (by rw [eK (Nat.le_refl _),eK (by simp)];rfl) (by simp)
    rw [cW] at e5
    rw [bB] at e1
    obtain ⟨q1,q2⟩:=aAi e2 e5
    rw [wi (by omega),e1]
    simp only [Option.bind_some]
    rw [vJ e3 (by omega),q1,q2];rfl
theorem aIC (R b:Nat) (hb:0 < b) (hR:b≤R) (h:R < b*BB) (hlb:(aE b).length≤700):∃ g:Nat,pO (aE R) (aE b)=some (g:Int)∧1≤g∧b*g≤R:=by
  obtain ⟨m,hm⟩:∃ m,(aE b).length=m+1:=by
    have:(aE b).length≠0:=fun e=>gD (n:=b) (by omega) (List.length_eq_zero_iff.1 e)
    exact ⟨(aE b).length - 1,by omega⟩
  have hbl:=mS b
  rw [hm,Nat.pow_succ] at hbl
  have hr1:m+1≤(aE R).length:=by rw [← hm];exact eG hR (Nat.le_refl _)
  have hRl:R < BB ^ m*BB*BB:=Nat.lt_of_lt_of_le h (Nat.mul_le_mul_right _ (Nat.le_of_lt hbl))
  have hr2:(aE R).length≤m+2:=iR (by rw [Nat.pow_succ,Nat.pow_succ];exact hRl)
  have hp:=aHw m
  have hbt:b / BB ^ m < BB:=by rw [Nat.div_lt_iff_lt_mul hp,Nat.mul_comm BB];exact hbl
  have hT:R / BB ^ m < BB*BB:=by rw [Nat.div_lt_iff_lt_mul hp,Nat.mul_comm (BB*BB),← Nat.mul_assoc];exact hRl
  have hbd:b < BB ^ m*(b / BB ^ m+1):=Nat.lt_mul_div_succ b hp
  have hTd:BB ^ m*(R / BB ^ m)≤R:=Nat.mul_div_le R _
  have hi1:m < (aE R).length:=by omega
  have hi2:m < (aE b).length:=by omega
  have g1:=xY hi1
  have g2:=xY hi2
  rw [Nat.mod_eq_of_lt hbt] at g2
  unfold pO
  simp only [aN]
  rw [hm,wi (by omega),show (((m+1:Nat):Int) - 1)=(m:Int) by omega,aT hi1,aT hi2,g1,g2]
  simp only [Option.bind_some]
  have top:((if (((m+1:Nat):Int) < ((aE R).length:Int)) then (idx (aE R) ((m+1:Nat):Int)).bind fun y3=>some (IntKind.i64.wrap (((R / BB ^ m % BB:Nat):Int)+IntKind.i64.wrap (y3*1000000000))) else some ((R / BB ^ m % BB:Nat):Int)):Option Int)=some ((R / BB ^ m:Nat):Int):=by
    have hmod:=Nat.mod_add_div (R / BB ^ m) BB
    by_cases c:m+1 < (aE R).length
    · have g3:=xY c
      rw [Nat.pow_succ,← Nat.div_div_eq_div_mul] at g3
      have h3:R / BB ^ m / BB < BB:=by rw [Nat.div_lt_iff_lt_mul rK];exact hT
      rw [Nat.mod_eq_of_lt h3] at g3
      rw [if_pos (by omega),aT c,g3]
      simp only [Option.bind_some]
      generalize R / BB ^ m=T at hT hmod h3 ⊢
      have h4:T % BB < BB:=Nat.mod_lt _ rK
      generalize T % BB=T0 at hmod h4 ⊢
      generalize T / BB=T1 at hmod h3 ⊢
      rw [aIW,Nat.mul_comm T1]
      rw [dI] at hT
      rw [wi (n:=((BB*T1:Nat):Int)) (by omega),wi (by omega)];congr 1;omega
    · have e:(aE R).length=m+1:=by omega
      have h3:R / BB ^ m < BB:=by
        rw [Nat.div_lt_iff_lt_mul hp,Nat.mul_comm BB,← Nat.pow_succ]
        have:=mS R
        rwa [e] at this
      rw [if_neg (by omega),Nat.mod_eq_of_lt h3]
  rw [top]
  simp only [Option.bind_some]
  by_cases c:m=0
  · subst c
    rw [if_pos (by omega),show (0:Int)=((0:Nat):Int) from rfl,aT hi2,g2]
    simp only [Nat.pow_zero,Nat.div_one,Option.bind_some]
    rw [bM (by omega),aEM]
    have hq:=aEf hb h
    rw [dI] at hq
    generalize hQ:R / b=Q at hq
    refine ⟨Q,by simp only [Option.bind_some];rw [wi (by omega)],?_,?_⟩
    · rw [← hQ,Nat.le_div_iff_mul_le hb];omega
    · rw [← hQ];exact Nat.mul_div_le R b
  · rw [if_neg (by omega)]
    generalize b / BB ^ m=t at hbt hbd ⊢
    generalize R / BB ^ m=T at hT hTd ⊢
    rw [dI] at hbt
    rw [wi (n:=(t:Int)+1) (by omega),bM (by omega),show (t:Int)+1=((t+1:Nat):Int) by omega,aEM]
    have hg:=Nat.div_mul_le_self T (t+1)
    have hgT:T / (t+1)≤T:=Nat.div_le_self _ _
    generalize T / (t+1)=G at hg hgT ⊢
    rw [dI] at hT
    simp only [Option.bind_some]
    rw [wi (by omega)]
    by_cases c2:G=0
    · subst c2
      exact ⟨1,by rw [if_pos (by omega)];rfl,Nat.le_refl _,by omega⟩
    · refine ⟨G,by rw [if_neg (by omega)],by omega,?_⟩
      have e1:G*b≤G*(BB ^ m*(t+1)):=Nat.mul_le_mul_left _ (Nat.le_of_lt hbd)
      have e2:BB ^ m*(G*(t+1))≤BB ^ m*T:=Nat.mul_le_mul_left _ hg
      rw [Nat.mul_left_comm] at e2
      rw [Nat.mul_comm b];omega
theorem aF1 (b:Nat) (hb:0 < b) (hlb:(aE b).length≤700) (k:Nat):∀ (R q0:Nat) (v:List Int),R < b*BB→k < v.length→v[k]?=some (q0:Int)→q0+R / b≤999999999 →
    lp (lJ (aE b) (k:Int)) (aE R,v)=some (aE (R % b),v.set k ((q0+R / b:Nat):Int)):=by
  intro R
  induction R using Nat.strongRecOn with
  | _ R ih =>
    intro q0 v hR hk hv hq
    have hl:=aEU hR
    by_cases c:R < b
    · rw [Nat.div_eq_of_lt c,Nat.mod_eq_of_lt c,Nat.add_zero]
      have:v.set k (q0:Int)=v:=by
        apply List.ext_getElem
        · simp
        · intro i p1 p2
          rw [List.getElem_set]
          split
          · rename_i h;subst h
            rw [List.getElem?_eq_getElem hk] at hv;exact (Option.some.inj hv).symm
          · rfl
      rw [this]
      refine aY ?_
      unfold lJ
      simp only []
      rw [xE _ _ (by omega) (by omega)]
      simp only [Option.bind_some]
      rw [if_neg (by unfold oU;rw [if_pos c];omega)]
    · obtain ⟨g,e1,e2,e3⟩:=aIC R b hb (by omega) hR hlb
      have hgq:g≤R / b:=by rw [Nat.le_div_iff_mul_le hb,Nat.mul_comm];exact e3
      have hdiv:(R - b*g) / b=R / b - g:=by rw [Nat.sub_mul_div]
      have hmod:(R - b*g) % b=R % b:=Nat.sub_mul_mod (by omega)
      have hbg:b≤b*g:=Nat.le_mul_of_pos_right _ e2
      generalize R / b=Q at hq hgq hdiv ⊢
      have hd:([(g:Int)]:List Int)=aE g:=(rH (by rw [dI];omega) (by omega)).symm
      have hl1:(aE g).length≤1:=aBs (by rw [dI];omega)
      have s1:lJ (aE b) (k:Int) (aE R,v)=some (.inl (aE (R - b*g),v.set k ((q0+g:Nat):Int))):=by
        unfold lJ
        simp only []
        rw [xE _ _ (by omega) (by omega)]
        simp only [Option.bind_some]
        rw [if_pos (by unfold oU;rw [if_neg c];split <;> omega),e1]
        simp only [Option.bind_some]
        rw [hd,(jS b g (by omega) (by omega)).2]
        simp only [Option.bind_some]
        rw [(uX R (b*g) (by omega) e3).2]
        simp only [Option.bind_some]
        rw [yQ,hv]
        simp only [Option.bind_some,aN,hZ]
        rw [wi (by omega)];rfl
      rw [bI s1,ih (R - b*g) (by omega) (q0+g) _ (by omega) (by simpa using hk) (by rw [List.getElem?_set_self hk]) (by rw [hdiv];omega),hmod,hdiv,List.set_set]
      congr 3;congr 1;omega
theorem aG5 (a:List Int) (b:Nat) (hb:0 < b) (hlb:(aE b).length≤700) (ha:dgs a) (hla:a.length≤1000):∀ (k R:Nat) (v:List Int),k≤a.length→R < b→dgs v→v.length=a.length→val (a.drop k)=b*val (v.drop k)+R→v.take k=List.replicate k 0 →
    ∃ (R':Nat) (v':List Int),lp (lI a (aE b)) (aE R,(k:Int) - 1,v)=some (aE R',v')∧R' < b∧dgs v'∧v'.length=a.length∧val a=b*val v'+R':=by
  intro k
  induction k with
  | zero =>
    intro R v hk hr hv hl he ht
    refine ⟨R,v,aY ?_,hr,hv,hl,by simpa using he⟩
    unfold lI;simp only [];rw [if_neg (by omega)]
  | succ k ih =>
    intro R v hk hr hv hl he ht
    have h1:k < a.length:=by omega
    have h2:k < v.length:=by omega
    have d1:=kP ha h1
    obtain ⟨x,hx⟩:∃ x:Nat,a[k]=(x:Int):=⟨(a[k]).toNat,by omega⟩
    have hx2:x < 1000000000:=by omega
    have hn:=aGj hx2 hr
    have hq:=aEf hb hn
    have hm:=Nat.mod_lt (x+BB*R) hb
    have hmd:=Nat.mod_add_div (x+BB*R) b
    have hlR:(aE R).length≤(aE b).length:=eG (Nat.le_of_lt hr) (Nat.le_refl _)
    have hv0:v[k]?=some ((0:Nat):Int):=by
      have q:(v.take (k+1))[k]?=some 0:=by rw [ht];simp
      rw [List.getElem?_take_of_lt (by omega)] at q
      exact q
    have hq':(x+BB*R) / b < 1000000000:=Nat.lt_of_lt_of_eq hq dI
    clear hq
    have inn:=aF1 b hb hlb k (x+BB*R) 0 v hn h2 hv0 (by omega)
    rw [Nat.zero_add] at inn
    generalize (x+BB*R) / b=Q at hq' hmd inn
    generalize (x+BB*R) % b=M at hm hmd inn
    have s1:lI a (aE b) (aE R,((k+1:Nat):Int) - 1,v)=some (.inl (aE M,(k:Int) - 1,v.set k (Q:Int))):=by
      unfold lI
      simp only []
      rw [show ((k+1:Nat):Int) - 1=(k:Int) by omega,if_pos (by omega),aT h1,hx]
      simp only [Option.bind_some,aN]
      rw [bM (by simp;omega)]
      simp only [Option.bind_some]
      rw [tD,aCR x R hx2 (by omega)]
      simp only [Option.bind_some]
      rw [inn]
      simp only [Option.bind_some]
      rw [wi (by omega)]
    obtain ⟨R',v',e1,e2,e3,e4,e5⟩:=ih M (v.set k (Q:Int)) (by omega) hm (aAT hv _ _ (by omega)) (by simpa using hl) (by
        rw [gE h1,gE (l:=v.set k _) (by simpa using h2),List.getElem_set_self,tB,he,hx,Int.toNat_natCast,Int.toNat_natCast]
        rw [Nat.mul_add,Nat.mul_add b,← Nat.mul_assoc BB b,← Nat.mul_assoc b BB,Nat.mul_comm BB b]
        omega) (by
        rw [List.take_set_of_le (by omega)]
        have:=congrArg (List.take k) ht
        rw [List.take_take,Nat.min_eq_left (by omega),List.take_replicate,Nat.min_eq_left (by omega)] at this
        exact this)
    exact ⟨R',v',by rw [bI s1];exact e1,e2,e3,e4,e5⟩
theorem aHk:∀ (l:List Int),dgs l→l.length≤2→eF l=some (val l:Int)
  | [],_,_=>by
    unfold eF
    simp only [aN,List.length_nil]
    rw [wi (by omega),aY (r:=0) (by unfold dB;simp)];rfl
  | [d],h,_=>by
    rw [lK] at h
    unfold eF
    simp only [aN,List.length_cons,List.length_nil]
    have s1:dB [d] (0,((0:Nat):Int))=some (.inl (d,-1)):=by
      unfold dB
      simp only []
      rw [if_pos (by omega),aT (by simp)]
      simp only [Option.bind_some,aN,List.getElem_cons_zero]
      rw [wi (n:=0*1000000000) (by omega),wi (by omega),wi (by omega)]
      simp
    rw [wi (by omega),show (((0+1:Nat):Int) - 1)=((0:Nat):Int) by omega,bI s1,aY (r:=d) (by unfold dB;simp)]
    simp [val] <;> omega
  | [d,e],h,_=>by
    rw [lK,lK] at h
    unfold eF
    simp only [aN,List.length_cons,List.length_nil]
    have s1:dB [d,e] (0,((1:Nat):Int))=some (.inl (e,((0:Nat):Int))):=by
      unfold dB
      simp only []
      rw [if_pos (by omega),aT (by simp)]
      simp only [Option.bind_some,aN,List.getElem_cons_zero,List.getElem_cons_succ]
      rw [wi (n:=0*1000000000) (by omega),wi (by omega),wi (by omega)]
      simp
    have s2:dB [d,e] (e,((0:Nat):Int))=some (.inl (e*1000000000+d,-1)):=by
      unfold dB
      simp only []
      rw [if_pos (by omega),aT (by simp)]
      simp only [Option.bind_some,aN,List.getElem_cons_zero]
      rw [wi (n:=e*1000000000) (by omega),wi (by omega),wi (by omega)]
      rfl
    rw [wi (by omega),show (((0+1+1:Nat):Int) - 1)=((1:Nat):Int) by omega,bI s1,bI s2,aY (r:=e*1000000000+d) (by unfold dB;simp)]
    simp only [Option.bind_some,val,dI,Nat.mul_zero,Nat.add_zero]
    congr 1;omega
  | _::_::_::_,_,h=>by simp at h <;> omega
theorem aAq (x:Nat) (h:(aE x).length≤2):eF (aE x)=some (x:Int):=by rw [aHk _ (dT x) h,cW]
theorem rO {x:Nat} (h:(aE x).length≤2):x < 1000000000000000000:=by
  have h1:=mS x
  have h2:BB ^ (aE x).length≤BB ^ 2:=Nat.pow_le_pow_right rK h
  have h3:BB ^ 2=1000000000000000000:=by rw [dI]
  omega
theorem aCC (x b:Nat) (hb:0 < b) (hx:(aE x).length≤700) (hlb:(aE b).length≤700):nW (aE x) (aE b)=some (aE (x / b),aE (x % b)):=by
  unfold nW
  by_cases c:(aE x).length≤2∧(aE b).length≤2
  · have h1:=rO c.1
    have h2:=rO c.2
    have n1:((aE x).length:Int)≤2:=by omega
    have n2:((aE b).length:Int)≤2:=by omega
    simp only [n1,n2,if_true,decide_true,Option.bind_some]
    rw [aAq x c.1,aAq b c.2]
    simp only [Option.bind_some,aN]
    have q1:=Nat.div_le_self x b
    have q2:=Nat.mod_le x b
    rw [bM (by omega),aEM,aFD]
    generalize x / b=Q at q1 ⊢
    generalize x % b=M at q2 ⊢
    simp only [Option.bind_some]
    rw [wi (by omega),wu (by omega),wu (by omega),sP Q (by omega),sP M (by omega)]
    rfl
  · have:((if ((aE x).length:Int)≤2 then some (decide (((aE b).length:Int)≤2)) else some false):Option Bool)=some false:=by
      by_cases c1:(aE x).length≤2
      · have c2:¬(aE b).length≤2:=fun h=>c ⟨c1,h⟩
        rw [if_pos (by omega),decide_eq_false (by omega)]
      · rw [if_neg (by omega)]
    rw [this]
    simp only [Option.bind_some,Bool.false_eq_true,if_false,aN]
    rw [bM (by omega)]
    simp only [Option.bind_some,Int.toNat_natCast]
    obtain ⟨r',v',e1,e2,e3,e4,e5⟩:=aG5 (aE x) b hb hlb (dT x) (by omega) (aE x).length 0 (List.replicate (aE x).length 0) (Nat.le_refl _) hb (aBW _) (by simp) (by rw [eK (Nat.le_refl _),eK (by simp)];rfl) (by simp)
    rw [cW] at e5
    rw [bB] at e1
    obtain ⟨q1,q2⟩:=aAi e2 e5
    rw [wi (by omega),e1]
    simp only [Option.bind_some]
    rw [tD,vJ e3 (by omega),q1,q2];rfl
end Go.Ev
/- Naturals as limbs: greatest common divisors, and which lists are naturals; both programs. -/
namespace Go.Ev
set_option linter.all false
theorem aCQ (x y:Nat):Nat.gcd x y=Nat.gcd y (x % y):=by rw [Nat.gcd_comm x y,Nat.gcd_rec y x,Nat.gcd_comm]
theorem aCw:∀ (y x:Nat),lp jG ((x:Int),(y:Int))=some ((Nat.gcd x y:Nat):Int):=by
  intro y
  induction y using Nat.strongRecOn with
  | _ y ih =>
    intro x
    by_cases c:y=0
    · subst c
      rw [Nat.gcd_zero_right]
      exact aY (by unfold jG;simp)
    · have s1:jG ((x:Int),(y:Int))=some (.inl ((y:Int),((x % y:Nat):Int))):=by
        unfold jG
        simp only []
        rw [if_pos (by omega),bM (by omega),aFD];rfl
      rw [bI s1,ih (x % y) (Nat.mod_lt _ (by omega)),← aCQ]
theorem aFK:rN=jG:=rfl
theorem aFf {x y:Nat} (hx:x < 1000000000000000000) (hy:y < 1000000000000000000):Nat.gcd x y < 1000000000000000000:=by
  by_cases c:x=0
  · subst c;rw [Nat.gcd_zero_left];exact hy
  · have:=Nat.gcd_le_left y (Nat.pos_of_ne_zero c);omega
theorem aGX:∀ (y x:Nat),(aE x).length≤700→(aE y).length≤700→∃ r,lp jF (aE x,aE y)=some r∧(r=.inl (aE (Nat.gcd x y))∨r=.inr (aE (Nat.gcd x y))):=by
  intro y
  induction y using Nat.strongRecOn with
  | _ y ih =>
    intro x hx hy
    by_cases c:y=0
    · subst c
      rw [Nat.gcd_zero_right]
      refine ⟨.inl (aE x),aY ?_,.inl rfl⟩
      unfold jF
      simp [bB]
    · have hy0:(aE y).length≠0:=fun e=>gD c (List.length_eq_zero_iff.1 e)
      by_cases c2:(aE x).length≤2∧(aE y).length≤2
      · refine ⟨.inr (aE (Nat.gcd x y)),aY ?_,.inr rfl⟩
        have h1:=rO c2.1
        have h2:=rO c2.2
        have h3:=aFf h1 h2
        have n1:((aE x).length:Int)≤2:=by omega
        have n2:((aE y).length:Int)≤2:=by omega
        unfold jF
        simp only [n1,n2,if_true,decide_true,Option.bind_some]
        rw [if_pos (by omega),aAq x c2.1,aAq y c2.2]
        simp only [Option.bind_some]
        rw [aCw]
        simp only [Option.bind_some]
        rw [wu (by omega),sP _ (by omega)];rfl
      · have s1:jF (aE x,aE y)=some (.inl (aE y,aE (x % y))):=by
          unfold jF
          simp only []
          have:((if ((aE x).length:Int)≤2 then some (decide (((aE y).length:Int)≤2)) else some false):Option Bool)=some false:=by
            by_cases c1:(aE x).length≤2
            · have c2:¬(aE y).length≤2:=fun h=>c2 ⟨c1,h⟩
              rw [if_pos (by omega),decide_eq_false (by omega)]
            · rw [if_neg (by omega)]
          rw [if_pos (by omega),this]
          simp only [Option.bind_some,Bool.false_eq_true,if_false]
          rw [aCC x y (by omega) hx hy];rfl
        rw [bI s1,aCQ x y]
        exact ih (x % y) (Nat.mod_lt _ (by omega)) y hy (by have:=aGn x (y:=y) (by omega);omega)
theorem aE2 (x y:Nat) (hx:(aE x).length≤700) (hy:(aE y).length≤700):qN (aE x) (aE y)=some (aE (Nat.gcd x y)):=by
  unfold qN
  obtain ⟨r,e1,e2⟩:=aGX y x hx hy
  have hl:(aE (Nat.gcd x y)).length≤700:=by
    by_cases c:x=0
    · subst c;rw [Nat.gcd_zero_left];exact hy
    · exact Nat.le_trans (eG (Nat.gcd_le_left y (Nat.pos_of_ne_zero c)) (Nat.le_refl _)) hx
  rw [e1]
  rcases e2 with rfl | rfl
  · simp only [Option.bind_some]
    unfold iO
    rw [bM (by simp;omega)];rfl
  · rfl
instance (l:List Int):Decidable (dgs l):=by unfold dgs;infer_instance
def sO (l:List Int):Prop:=dgs l∧l.length≤60∧l.getLast?≠some 0
instance (l:List Int):Decidable (sO l):=by unfold sO;infer_instance
theorem aGM {l:List Int} (h:sO l):nat l:=⟨h.1,h.2.2⟩
theorem lT {l:List Int} (h:sO l):l=aE (val l):=vQ (aGM h)
theorem aAA {x:Nat} (h:(aE x).length≤60):sO (aE x):=⟨dT x,h,xX x⟩
theorem aHy (l:List Int) (hl:l.length≤4294967296):∀ m k:Nat,m+k=l.length→lp (kL l) (k:Int)=some (if dgs (l.drop k) then .inl () else .inr false):=by
  intro m
  induction m with
  | zero =>
    intro k hk
    rw [if_pos (by rw [List.drop_eq_nil_of_le (by omega)];exact yR)]
    exact aY (by unfold kL;rw [if_neg (by omega)])
  | succ m ih =>
    intro k hk
    have hlt:k < l.length:=by omega
    by_cases c:0≤l[k]∧l[k] < 1000000000
    · have s1:kL l (k:Int)=some (.inl ((k+1:Nat):Int)):=by
        unfold kL
        have n1:¬l[k] < 0:=by omega
        have n2:¬1000000000≤l[k]:=by omega
        rw [if_pos (by omega),aT hlt,wi (by omega)]
        simp [n1,n2]
      rw [bI s1,ih (k+1) (by omega)]
      have hd:dgs (l.drop k)↔dgs (l.drop (k+1)):=by rw [List.drop_eq_getElem_cons hlt,lK];exact ⟨fun h=>h.2,fun h=>⟨c,h⟩⟩
      simp only [hd]
    · have h2:¬dgs (l.drop k):=by rw [List.drop_eq_getElem_cons hlt,lK];exact fun h=>c h.1
      rw [if_neg h2]
      refine aY ?_
      unfold kL
      rw [if_pos (by omega),aT hlt]
      simp only [Option.bind_some]
      by_cases n1:l[k] < 0
      · rw [if_pos n1];rfl
      · rw [if_neg n1,decide_eq_true (by omega)];rfl
theorem aAN (a b c:Int):pW a b c=some (decide (b≤a∧a≤c)):=by
  unfold pW
  by_cases h:b≤a <;> simp [h]
theorem aHx (l:List Int) (hl:l.length≤4294967296):∀ m k:Nat,m+k=l.length→lp (kD l) (k:Int)=some (if dgs (l.drop k) then .inl () else .inr false):=by
  intro m
  induction m with
  | zero =>
    intro k hk
    rw [if_pos (by rw [List.drop_eq_nil_of_le (by omega)];exact yR)]
    exact aY (by unfold kD;rw [if_neg (by omega)])
  | succ m ih =>
    intro k hk
    have hlt:k < l.length:=by omega
    by_cases c:0≤l[k]∧l[k] < 1000000000
    · have s1:kD l (k:Int)=some (.inl ((k+1:Nat):Int)):=by
        unfold kD
        rw [if_pos (by omega),aT hlt,wi (by omega)]
        simp only [Option.bind_some]
        rw [aAN,decide_eq_true (by omega)];rfl
      rw [bI s1,ih (k+1) (by omega)]
      have hd:dgs (l.drop k)↔dgs (l.drop (k+1)):=by rw [List.drop_eq_getElem_cons hlt,lK];exact ⟨fun h=>h.2,fun h=>⟨c,h⟩⟩
      simp only [hd]
    · have h2:¬dgs (l.drop k):=by rw [List.drop_eq_getElem_cons hlt,lK];exact fun h=>c h.1
      rw [if_neg h2]
      refine aY ?_
      unfold kD
      rw [if_pos (by omega),aT hlt]
      simp only [Option.bind_some]
      rw [aAN,decide_eq_false (by omega)];rfl
theorem aGl (l:List Int) (hl:l.length≤4294967296) (h:l.length≠0):(idx l (IntKind.i64.wrap ((l.length:Int) - 1))).bind (fun y=>some (decide (y≠0)))=some (decide (l.getLast?≠some 0)):=by
  have hlt:l.length - 1 < l.length:=by omega
  rw [wi (by omega),show (l.length:Int) - 1=((l.length - 1:Nat):Int) by omega,aT hlt,List.getLast?_eq_getElem?,List.getElem?_eq_getElem hlt]
  simp
theorem aFy (l:List Int) (hl:l.length≤4294967296):rS l=some (decide (sO l)):=by
  unfold rS
  by_cases c:60 < l.length
  · have:¬sO l:=fun h=>by have:=h.2.1;omega
    rw [if_pos (by omega),decide_eq_false this]
  · have:=aHy l hl l.length 0 (by omega)
    rw [show ((0:Nat):Int)=0 from rfl,List.drop_zero] at this
    rw [if_neg (by omega),this]
    by_cases d:dgs l
    · rw [if_pos d]
      simp only [Option.bind_some]
      by_cases z:l.length=0
      · have e:l=[]:=List.length_eq_zero_iff.1 z
        subst e
        rw [if_pos (by simp),decide_eq_true ⟨yR,by simp,by simp⟩]
      · rw [if_neg (by omega),aN,aGl l hl z]
        congr 1
        exact decide_eq_decide.2 ⟨fun h=>⟨d,by omega,h⟩,fun h=>h.2.2⟩
    · have:¬sO l:=fun h=>d h.1
      rw [if_neg d,decide_eq_false this];rfl
theorem aC8 (l:List Int) (hl:l.length≤4294967296):pX l=some (decide (sO l)):=by
  unfold pX
  have:=aHx l hl l.length 0 (by omega)
  rw [show ((0:Nat):Int)=0 from rfl,List.drop_zero] at this
  rw [this]
  by_cases d:dgs l
  · rw [if_pos d]
    simp only [Option.bind_some]
    by_cases c:60 < l.length
    · have:¬sO l:=fun h=>by have:=h.2.1;omega
      rw [if_neg (by omega),decide_eq_false this]
    · rw [if_pos (by omega)]
      by_cases z:l.length=0
      · have e:l=[]:=List.length_eq_zero_iff.1 z
        subst e
        rw [if_pos (by simp),decide_eq_true ⟨yR,by simp,by simp⟩]
      · rw [if_neg (by omega),aN,aGl l hl z]
        congr 1
        exact decide_eq_decide.2 ⟨fun h=>⟨d,by omega,h⟩,fun h=>h.2.2⟩
  · have:¬sO l:=fun h=>d h.1
    rw [if_neg d,decide_eq_false this];rfl
theorem aFQ:([854775807,223372036,9]:List Int)=aE 9223372036854775807:=by
  have h1:dgs [854775807,223372036,9]:=by intro d hd;simp at hd;omega
  have:=vQ (l:=[854775807,223372036,9]) ⟨h1,by simp⟩
  rw [this];rfl
theorem aFC:∀ (l:List Int),dgs l→l.length≤2→lp (cU l) (0,(l.length:Int) - 1)=some (val l:Int)
  | [],_,_=>by
    rw [aY (r:=0) (by unfold cU;simp)];rfl
  | [d],h,_=>by
    rw [lK] at h
    have s1:cU [d] (0,((0:Nat):Int))=some (.inl (d,-1)):=by
      unfold cU
      simp only []
      rw [if_pos (by omega),aT (by simp)]
      simp only [Option.bind_some,aN,List.getElem_cons_zero]
      rw [wi (n:=0*1000000000) (by omega),wi (by omega),wi (by omega)]
      simp
    rw [show ((([d]:List Int).length:Int) - 1)=((0:Nat):Int) by simp,bI s1,aY (r:=d) (by unfold cU;simp)]
    simp [val] <;> omega
  | [d,e],h,_=>by
    rw [lK,lK] at h
    have s1:cU [d,e] (0,((1:Nat):Int))=some (.inl (e,((0:Nat):Int))):=by
      unfold cU
      simp only []
      rw [if_pos (by omega),aT (by simp)]
      simp only [Option.bind_some,aN,List.getElem_cons_zero,List.getElem_cons_succ]
      rw [wi (n:=0*1000000000) (by omega),wi (by omega),wi (by omega)]
      simp
    have s2:cU [d,e] (e,((0:Nat):Int))=some (.inl (e*1000000000+d,-1)):=by
      unfold cU
      simp only []
      rw [if_pos (by omega),aT (by simp)]
      simp only [Option.bind_some,aN,List.getElem_cons_zero]
      rw [wi (n:=e*1000000000) (by omega),wi (by omega),wi (by omega)]
      rfl
    rw [show ((([d,e]:List Int).length:Int) - 1)=((1:Nat):Int) by simp,bI s1,bI s2,aY (r:=e*1000000000+d) (by unfold cU;simp)]
    simp only [val,dI,Nat.mul_zero,Nat.add_zero]
    congr 1;omega
  | _::_::_::_,_,h=>by simp at h <;> omega
theorem aC7 (x:Nat) (h:(aE x).length≤2):mK (aE x)=some ((x:Int),true):=by
  have hx:=rO h
  have hl:=iI (v:=9223372036854775807) (by omega)
  unfold mK
  rw [aC8 _ (by omega),decide_eq_true (aAA (by omega)),aFQ]
  simp only [Option.bind_some,if_true]
  rw [tP _ _ (by omega) (by omega)]
  simp only [Option.bind_some,aN]
  have:¬(0 < oU x 9223372036854775807):=by unfold oU;rw [if_pos (by omega)];omega
  simp only [this,decide_false,Bool.false_eq_true,if_false]
  have e:=aFC (aE x) (dT x) h
  rw [cW] at e
  rw [wi (by omega),e];rfl
theorem aGW:∀ (y x:Nat),(aE x).length≤700→(aE y).length≤700→∃ r,lp iX (aE x,aE y)=some r∧(r=.inl (aE (Nat.gcd x y))∨r=.inr (aE (Nat.gcd x y))):=by
  intro y
  induction y using Nat.strongRecOn with
  | _ y ih =>
    intro x hx hy
    by_cases c:y=0
    · subst c
      rw [Nat.gcd_zero_right]
      refine ⟨.inl (aE x),aY ?_,.inl rfl⟩
      unfold iX
      simp [bB]
    · have hy0:(aE y).length≠0:=fun e=>gD c (List.length_eq_zero_iff.1 e)
      by_cases c2:(aE x).length≤2∧(aE y).length≤2
      · refine ⟨.inr (aE (Nat.gcd x y)),aY ?_,.inr rfl⟩
        have h1:=rO c2.1
        have h2:=rO c2.2
        have h3:=aFf h1 h2
        have n1:((aE x).length:Int) < 3:=by omega
        have n2:((aE y).length:Int) < 3:=by omega
        unfold iX
        simp only [n1,n2,if_true,decide_true,Option.bind_some]
        rw [if_pos (by omega),aC7 x c2.1,aC7 y c2.2]
        simp only [Option.bind_some]
        unfold rY
        rw [aFK,aCw]
        simp only [Option.bind_some]
        rw [wD _ (by omega)];rfl
      · have s1:iX (aE x,aE y)=some (.inl (aE y,aE (x % y))):=by
          unfold iX
          simp only []
          have:((if ((aE x).length:Int) < 3 then some (decide (((aE y).length:Int) < 3)) else some false):Option Bool)=some false:=by
            by_cases c1:(aE x).length≤2
            · have c2:¬(aE y).length≤2:=fun h=>c2 ⟨c1,h⟩
              rw [if_pos (by omega),decide_eq_false (by omega)]
            · rw [if_neg (by omega)]
          rw [if_pos (by omega),this]
          simp only [Option.bind_some,Bool.false_eq_true,if_false]
          rw [aCO x y (by omega) hx hy];rfl
        rw [bI s1,aCQ x y]
        exact ih (x % y) (Nat.mod_lt _ (by omega)) y hy (by have:=aGn x (y:=y) (by omega);omega)
theorem aFa (x y:Nat) (hx:(aE x).length≤700) (hy:(aE y).length≤700):nG (aE x) (aE y)=some (aE (Nat.gcd x y)):=by
  unfold nG
  obtain ⟨r,e1,e2⟩:=aGW y x hx hy
  rw [bM (by simp;omega),bM (by simp;omega)]
  simp only [Option.bind_some,aN,List.nil_append]
  rw [e1]
  rcases e2 with rfl | rfl <;> rfl
end Go.Ev
