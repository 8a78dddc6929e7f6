/- Parts PF, P25, PQ1, PQ2, PQ3, PQ4, PQ5. -/
import Derived.Test.YthjpgecdkmiadaaGreatPa1
import Derived.Test.YthjpgecdkmiadaaGreatLd
set_option linter.all false
/- Plain laws of helpers over nested data, printed by program (fam.py). -/
namespace Go.Ev
open IntKind
set_option linter.all false
def fI (x:(List Int)):Nat:=szL (fun _=>0) x
theorem aJ7 (x:(List Int)) (o:(okL (okI .i64)) x) (t:Int) (h0:0≤t) (h1:t≤1048576):uG x t=some (if (fI x:Int)≤t then t - fI x else -1):=by
  have hl:x.length≤9223372036854775807:=o.1
  have e:=oV x
  unfold uG fI
  simp only [aO]
  rw [wi (by omega)]
  by_cases c:t - (x.length:Int) < 0
  · rw [if_pos c,if_neg (by omega)]
  · rw [if_neg c,if_pos (by omega)];congr 1;omega
theorem aJ5 (x:(List Int)) (h:fI x≤4294967296):uE x=some x:=by
  have hl:=cO (fun _=>0) x
  unfold fI at h
  unfold uE
  rw [aP (by omega)]
  simp only [Option.bind_some]
  have:=aEV (step:=rE x) x (List.replicate (x.length:Int).toNat 0) (fun k m=>((k:Int),m)) (fun m=>m) (by simp) (fun k m hk hm=>by
    unfold rE
    simp only []
    rw [if_pos (by omega),aI hk,aI (l:=m) (by omega)]
    simp only [Option.bind_some,aO,iL]
    rw [wi (by omega)];rfl)
   (fun m hm=>by unfold rE;simp only [];rw [if_neg (by omega)])
  rw [show ((0:Nat):Int)=0 from rfl] at this
  rw [this];rfl
theorem aEX (x:(List Int)) (h:fI x≤4294967296):gS x x=some true:=by
  have hl:=cO (fun _=>0) x
  unfold fI at h
  unfold gS
  rw [if_neg (by simp),aDC x.length (.inl ())]
  · rfl
  · intro k hk
    unfold vE
    rw [if_pos (by omega),aI hk]
    simp only [Option.bind_some,ne_eq,not_true_eq_false,if_false]
    rw [wi (by omega)];rfl
  · unfold vE;rw [if_neg (by omega)]
theorem iX (x:(List Int)) (k:Int) (h0:0≤k) (h1:k+100*(fI x:Int)≤4611686018427387904):∃ k' x',bP x k=some (k',x')∧bS x' k=some k'∧k≤k'∧k'≤k+100*(fI x:Int)∧x'.length=x.length:=by
  unfold fI at h1 ⊢
  obtain ⟨k',l',p1,p2,p3,p4,p5⟩:=aHQ (ms:=nJ) (hs:=nM) (fun _:Int=>0) x (fun hl y k h0 h1=>by
    have w0:i64.wrap (k+1)=k+1:=wi (by omega)
    refine ⟨k+1,(k),by omega,by omega,fun m i hi hm=>?_,fun m i hi hm=>?_⟩
    · have hlt:=(List.getElem?_eq_some_iff.1 hi).1
      have wi':i64.wrap ((i:Int)+1)=(i:Int)+1:=wi (by omega)
      unfold nJ
      simp only []
      rw [if_pos (by omega)]
      simp only [aO,iL,aBP hi,aDG hlt,List.set_set,Option.bind_some,w0,wi']
    · have hlt:=(List.getElem?_eq_some_iff.1 hi).1
      have wi':i64.wrap ((i:Int)+1)=(i:Int)+1:=wi (by omega)
      unfold nM
      simp only []
      rw [if_pos (by omega)]
      simp only [aO,aBP hi,Option.bind_some,ne_eq,not_true_eq_false,if_false,beq_self_eq_true,if_true,w0,wi'])
   (fun k m hm=>by unfold nJ;simp only [];rw [if_neg (by omega)]) (fun k m hm=>by unfold nM;simp only [];rw [if_neg (by omega)]) k h0 h1
  exact ⟨k',l',by unfold bP vD;simp only [p1,Option.bind_some];rw [aP p2];rfl,by unfold bS;simp only [p3,Option.bind_some],p4,p5,p2⟩
def cQ (x:BigInt):Nat:=fI x.fMag
theorem aKO (x:BigInt) (o:aFv x) (t:Int) (h0:0≤t) (h1:t≤1048576):tB x t=some (if (cQ x:Int)≤t then t - cQ x else -1):=by
  unfold tB cQ
  rw [aJ7 x.fMag o.2.1 t (by omega) (by omega)]
  simp only [Option.bind_some]
  by_cases c:(fI x.fMag:Int)≤t
  · rw [if_pos c,if_neg (by omega)]
  · rw [if_neg c];rfl
theorem aKM (x:BigInt) (h:cQ x≤4294967296):tA x=some x:=by
  unfold cQ at h
  unfold tA
  rw [aJ5 x.fMag (by omega)]
  simp only [Option.bind_some]
theorem aLb (x:BigInt) (h:cQ x≤4294967296):tD x x=some true:=by
  unfold cQ at h
  unfold tD
  have e0:=aEX x.fMag (by omega)
  simp only [e0,Option.bind_some,if_true,ne_eq,not_true_eq_false,if_false,beq_self_eq_true]
theorem aK0 (x:BigInt) (k:Int) (h0:0≤k) (h1:k+100*(cQ x:Int)≤4611686018427387904):∃ k' x',pM x k=some (k',x')∧k≤k'∧k'≤k+100*(cQ x:Int):=by
  unfold cQ at h1 ⊢
  obtain ⟨k0,x0,e0,g0,a0,b0,l0⟩:=iX x.fMag (k) (by omega) (by omega)
  have n0:¬k0 < 0:=by omega
  exact ⟨k0,BigInt.mk x.fNeg x0,by unfold pM;simp only [e0,Option.bind_some],by omega,by omega⟩
def aS (x:Rat):Nat:=cQ x.fNum+fI x.fDen
theorem aBj (x:Rat) (o:aCu x) (t:Int) (h0:0≤t) (h1:t≤1048576):jF x t=some (if (aS x:Int)≤t then t - aS x else -1):=by
  unfold jF aS
  rw [aKO x.fNum o.1 (t) (by omega) (by omega)]
  simp only [Option.bind_some]
  by_cases c0:(cQ x.fNum:Int)≤t
  · skip
    rw [if_pos c0,if_neg (by omega)]
    rw [aJ7 x.fDen o.2.1 (t - cQ x.fNum) (by omega) (by omega)]
    simp only [Option.bind_some]
    by_cases c1:(fI x.fDen:Int)≤t - cQ x.fNum
    · skip
      rw [if_pos c1,if_neg (by omega)]
      rw [if_pos (by omega)];congr 1;omega
    · rw [if_neg c1,if_pos (by omega),if_neg (by omega)]
  · rw [if_neg c0,if_pos (by omega),if_neg (by omega)]
theorem aBi (x:Rat) (h:aS x≤4294967296):jE x=some x:=by
  unfold aS at h
  unfold jE
  rw [aKM x.fNum (by omega)]
  simp only [Option.bind_some]
  rw [aJ5 x.fDen (by omega)]
  simp only [Option.bind_some]
theorem aBQ (x:Rat) (h:aS x≤4294967296):jG x x=some true:=by
  unfold aS at h
  unfold jG
  have e0:=aLb x.fNum (by omega)
  have e1:=aEX x.fDen (by omega)
  simp only [e0,e1,Option.bind_some,if_true,ne_eq,not_true_eq_false,if_false,beq_self_eq_true]
theorem aJx (x:Rat) (k:Int) (h0:0≤k) (h1:k+100*(aS x:Int)≤4611686018427387904):∃ k' x',oM x k=some (k',x')∧k≤k'∧k'≤k+100*(aS x:Int):=by
  unfold aS at h1 ⊢
  obtain ⟨k0,x0,e0,a0,b0⟩:=aK0 x.fNum (k) (by omega) (by omega)
  have n0:¬k0 < 0:=by omega
  obtain ⟨k1,x1,e1,g1,a1,b1,l1⟩:=iX x.fDen (k0) (by omega) (by omega)
  have n1:¬k1 < 0:=by omega
  exact ⟨k1,Rat.mk x0 x1,by unfold oM;simp only [e0,e1,Option.bind_some],by omega,by omega⟩
def bZ (x:Parent):Nat:=aS x.fShare+aS x.fDX+aS x.fDY
theorem aKN (x:Parent) (o:aBr x) (t:Int) (h0:0≤t) (h1:t≤1048576):pZ x t=some (if (bZ x:Int)≤t then t - bZ x else -1):=by
  unfold pZ bZ
  rw [aBj x.fShare o.2.1 (t) (by omega) (by omega)]
  simp only [Option.bind_some]
  by_cases c0:(aS x.fShare:Int)≤t
  · skip
    rw [if_pos c0,if_neg (by omega)]
    rw [aBj x.fDX o.2.2.1 (t - aS x.fShare) (by omega) (by omega)]
    simp only [Option.bind_some]
    by_cases c1:(aS x.fDX:Int)≤t - aS x.fShare
    · skip
      rw [if_pos c1,if_neg (by omega)]
      rw [aBj x.fDY o.2.2.2.1 (t - aS x.fShare - aS x.fDX) (by omega) (by omega)]
      simp only [Option.bind_some]
      by_cases c2:(aS x.fDY:Int)≤t - aS x.fShare - aS x.fDX
      · skip
        rw [if_pos c2,if_neg (by omega)]
        rw [if_pos (by omega)];congr 1;omega
      · rw [if_neg c2,if_pos (by omega),if_neg (by omega)]
    · rw [if_neg c1,if_pos (by omega),if_neg (by omega)]
  · rw [if_neg c0,if_pos (by omega),if_neg (by omega)]
theorem aKL (x:Parent) (h:bZ x≤4294967296):sZ x=some x:=by
  unfold bZ at h
  unfold sZ
  rw [aBi x.fShare (by omega)]
  simp only [Option.bind_some]
  rw [aBi x.fDX (by omega)]
  simp only [Option.bind_some]
  rw [aBi x.fDY (by omega)]
  simp only [Option.bind_some]
theorem aLa (x:Parent) (h:bZ x≤4294967296):tC x x=some true:=by
  unfold bZ at h
  unfold tC
  have e0:=aBQ x.fShare (by omega)
  have e1:=aBQ x.fDX (by omega)
  have e2:=aBQ x.fDY (by omega)
  simp only [e0,e1,e2,Option.bind_some,if_true,ne_eq,not_true_eq_false,if_false,beq_self_eq_true]
def cU (x:(List Parent)):Nat:=szL bZ x
theorem aJj (x:(List Parent)) (o:(okL aBr) x) (t:Int) (h0:0≤t) (h1:t≤1048576):rG x t=some (if (cU x:Int)≤t then t - cU x else -1):=by
  have hl:x.length≤9223372036854775807:=o.1
  have e:=aFb bZ x
  unfold rG cU
  simp only [aO]
  rw [wi (by omega)]
  by_cases c:t - (x.length:Int) < 0
  · rw [if_pos c,if_neg (by omega)]
  · rw [if_neg c,aJA x bZ pZ (fun y hy t a b=>aKN y (o.2 y hy) t a b) (fun k t hk=>by unfold qK;simp only [];rw [if_pos (by omega),aI hk];simp only [Option.bind_some];rw [wi (by omega)]) (fun t=>by unfold qK;simp only [];rw [if_neg (by omega)]) _ (by omega) (by omega)]
    by_cases d:((x.map bZ).sum:Int)≤t - x.length
    · rw [if_pos d,if_pos (by omega)];simp only [Option.bind_some];congr 1;omega
    · rw [if_neg d,if_neg (by omega)];rfl
theorem aJg (x:(List Parent)) (h:cU x≤4294967296):rA x=some x:=by
  have hl:=cO bZ x
  unfold cU at h
  unfold rA
  rw [aP (by omega)]
  simp only [Option.bind_some]
  have:=aEV (step:=mC x) x (List.replicate (x.length:Int).toNat (Parent.mk 0 (Rat.mk (BigInt.mk false ([])) ([])) (Rat.mk (BigInt.mk false ([])) ([])) (Rat.mk (BigInt.mk false ([])) ([])))) (fun k m=>((k:Int),m)) (fun m=>m) (by simp) (fun k m hk hm=>by
    have he:=gG (w:=bZ) (List.getElem_mem hk)
    unfold mC
    simp only []
    rw [if_pos (by omega),aI hk,aI (l:=m) (by omega)]
    simp only [Option.bind_some,aO,iL,aKL _ (show bZ x[k]≤4294967296 by omega)]
    rw [wi (by omega)];rfl)
   (fun m hm=>by unfold mC;simp only [];rw [if_neg (by omega)])
  rw [show ((0:Nat):Int)=0 from rfl] at this
  rw [this];rfl
theorem aJI (x:(List Parent)) (h:cU x≤4294967296):rI x x=some true:=by
  have hl:=cO bZ x
  unfold cU at h
  unfold rI
  rw [if_neg (by simp),aDC x.length (.inl ())]
  · rfl
  · intro k hk
    have he:=gG (w:=bZ) (List.getElem_mem hk)
    unfold qL
    rw [if_pos (by omega),aI hk]
    simp only [Option.bind_some,aLa _ (show bZ x[k]≤4294967296 by omega),if_true]
    rw [wi (by omega)];rfl
  · unfold qL;rw [if_neg (by omega)]
theorem aJy (x:(List Parent)) (k:Int) (h0:0≤k) (h1:k+100*(cU x:Int)≤4611686018427387904):∃ k' x',kH x k=some (k',x')∧nK x' k=some k'∧k≤k'∧k'≤k+100*(cU x:Int)∧x'.length=x.length:=by
  unfold cU at h1 ⊢
  obtain ⟨k',l',p1,p2,p3,p4,p5⟩:=aHQ (ms:=jL) (hs:=jM) bZ x (fun hl y k h0 h1=>by
    simp only [bZ,aS,cQ] at h1 ⊢
    obtain ⟨k0,x0,e0,g0,a0,b0,l0⟩:=iX y.fShare.fNum.fMag (k+1+1) (by omega) (by omega)
    obtain ⟨k1,x1,e1,g1,a1,b1,l1⟩:=iX y.fShare.fDen (k0) (by omega) (by omega)
    obtain ⟨k2,x2,e2,g2,a2,b2,l2⟩:=iX y.fDX.fNum.fMag (k1+1) (by omega) (by omega)
    obtain ⟨k3,x3,e3,g3,a3,b3,l3⟩:=iX y.fDX.fDen (k2) (by omega) (by omega)
    obtain ⟨k4,x4,e4,g4,a4,b4,l4⟩:=iX y.fDY.fNum.fMag (k3+1) (by omega) (by omega)
    obtain ⟨k5,x5,e5,g5,a5,b5,l5⟩:=iX y.fDY.fDen (k4) (by omega) (by omega)
    have w0:i64.wrap (k+1)=k+1:=wi (by omega)
    have w1:i64.wrap (k+1+1)=k+1+1:=wi (by omega)
    have w2:i64.wrap (k1+1)=k1+1:=wi (by omega)
    have w3:i64.wrap (k3+1)=k3+1:=wi (by omega)
    have n0:¬k0 < 0:=by omega
    have n1:¬k1 < 0:=by omega
    have n2:¬k2 < 0:=by omega
    have n3:¬k3 < 0:=by omega
    have n4:¬k4 < 0:=by omega
    have n5:¬k5 < 0:=by omega
    refine ⟨k5,(Parent.mk (k) (Rat.mk (BigInt.mk (decide ((k+1).tmod 3=0)) x0) x1) (Rat.mk (BigInt.mk (decide ((k1).tmod 3=0)) x2) x3) (Rat.mk (BigInt.mk (decide ((k3).tmod 3=0)) x4) x5)),by omega,by omega,fun m i hi hm=>?_,fun m i hi hm=>?_⟩
    · have hlt:=(List.getElem?_eq_some_iff.1 hi).1
      have wi':i64.wrap ((i:Int)+1)=(i:Int)+1:=wi (by omega)
      unfold jL
      simp only []
      rw [if_pos (by omega)]
      simp only [aO,iL,aBP hi,aDG hlt,List.set_set,Option.bind_some,w0,w1,w2,w3,e0,e1,e2,e3,e4,e5,wi']
    · have hlt:=(List.getElem?_eq_some_iff.1 hi).1
      have wi':i64.wrap ((i:Int)+1)=(i:Int)+1:=wi (by omega)
      unfold jM
      simp only []
      rw [if_pos (by omega)]
      simp only [aO,aBP hi,Option.bind_some,ne_eq,not_true_eq_false,if_false,beq_self_eq_true,if_true,w0,w1,w2,w3,g0,g1,g2,g3,g4,g5,n0,n1,n2,n3,n4,n5,wi'])
   (fun k m hm=>by unfold jL;simp only [];rw [if_neg (by omega)]) (fun k m hm=>by unfold jM;simp only [];rw [if_neg (by omega)]) k h0 h1
  exact ⟨k',l',by unfold kH rH;simp only [p1,Option.bind_some];rw [aP p2];rfl,by unfold nK;simp only [p3,Option.bind_some],p4,p5,p2⟩
def aQ (x:Conditional):Nat:=aS x.fTotal+cU x.fParents
theorem aFa (x:Conditional) (o:zV x) (t:Int) (h0:0≤t) (h1:t≤1048576):kT x t=some (if (aQ x:Int)≤t then t - aQ x else -1):=by
  unfold kT aQ
  rw [aBj x.fTotal o.2.1 (t) (by omega) (by omega)]
  simp only [Option.bind_some]
  by_cases c0:(aS x.fTotal:Int)≤t
  · skip
    rw [if_pos c0,if_neg (by omega)]
    rw [aJj x.fParents o.2.2.1 (t - aS x.fTotal) (by omega) (by omega)]
    simp only [Option.bind_some]
    by_cases c1:(cU x.fParents:Int)≤t - aS x.fTotal
    · skip
      rw [if_pos c1,if_neg (by omega)]
      rw [if_pos (by omega)];congr 1;omega
    · rw [if_neg c1,if_pos (by omega),if_neg (by omega)]
  · rw [if_neg c0,if_pos (by omega),if_neg (by omega)]
theorem aE6 (x:Conditional) (h:aQ x≤4294967296):kR x=some x:=by
  unfold aQ at h
  unfold kR
  rw [aBi x.fTotal (by omega)]
  simp only [Option.bind_some]
  rw [aJg x.fParents (by omega)]
  simp only [Option.bind_some]
theorem aF5 (x:Conditional) (h:aQ x≤4294967296):kW x x=some true:=by
  unfold aQ at h
  unfold kW
  have e0:=aBQ x.fTotal (by omega)
  have e1:=aJI x.fParents (by omega)
  simp only [e0,e1,Option.bind_some,if_true,ne_eq,not_true_eq_false,if_false,beq_self_eq_true]
def aX (x:Link):Nat:=aS x.fWeight+aS x.fDX+aS x.fDY
theorem aHq (x:Link) (o:zU x) (t:Int) (h0:0≤t) (h1:t≤1048576):oD x t=some (if (aX x:Int)≤t then t - aX x else -1):=by
  unfold oD aX
  rw [aBj x.fWeight o.2.2.1 (t) (by omega) (by omega)]
  simp only [Option.bind_some]
  by_cases c0:(aS x.fWeight:Int)≤t
  · skip
    rw [if_pos c0,if_neg (by omega)]
    rw [aBj x.fDX o.2.2.2.1 (t - aS x.fWeight) (by omega) (by omega)]
    simp only [Option.bind_some]
    by_cases c1:(aS x.fDX:Int)≤t - aS x.fWeight
    · skip
      rw [if_pos c1,if_neg (by omega)]
      rw [aBj x.fDY o.2.2.2.2.1 (t - aS x.fWeight - aS x.fDX) (by omega) (by omega)]
      simp only [Option.bind_some]
      by_cases c2:(aS x.fDY:Int)≤t - aS x.fWeight - aS x.fDX
      · skip
        rw [if_pos c2,if_neg (by omega)]
        rw [if_pos (by omega)];congr 1;omega
      · rw [if_neg c2,if_pos (by omega),if_neg (by omega)]
    · rw [if_neg c1,if_pos (by omega),if_neg (by omega)]
  · rw [if_neg c0,if_pos (by omega),if_neg (by omega)]
theorem aHo (x:Link) (h:aX x≤4294967296):fW x=some x:=by
  unfold aX at h
  unfold fW
  rw [aBi x.fWeight (by omega)]
  simp only [Option.bind_some]
  rw [aBi x.fDX (by omega)]
  simp only [Option.bind_some]
  rw [aBi x.fDY (by omega)]
  simp only [Option.bind_some]
theorem aH0 (x:Link) (h:aX x≤4294967296):rJ x x=some true:=by
  unfold aX at h
  unfold rJ
  have e0:=aBQ x.fWeight (by omega)
  have e1:=aBQ x.fDX (by omega)
  have e2:=aBQ x.fDY (by omega)
  simp only [e0,e1,e2,Option.bind_some,if_true,ne_eq,not_true_eq_false,if_false,beq_self_eq_true]
theorem aKm (x:Link) (k:Int) (h0:0≤k) (h1:k+100*(aX x:Int)≤4611686018427387904):∃ k' x',qA x k=some (k',x')∧k≤k'∧k'≤k+100*(aX x:Int):=by
  unfold aX at h1 ⊢
  obtain ⟨k0,x0,e0,a0,b0⟩:=aJx x.fWeight (k) (by omega) (by omega)
  have n0:¬k0 < 0:=by omega
  obtain ⟨k1,x1,e1,a1,b1⟩:=aJx x.fDX (k0) (by omega) (by omega)
  have n1:¬k1 < 0:=by omega
  obtain ⟨k2,x2,e2,a2,b2⟩:=aJx x.fDY (k1) (by omega) (by omega)
  have n2:¬k2 < 0:=by omega
  exact ⟨k2,Link.mk x.fA x.fB x0 x1 x2,by unfold qA;simp only [e0,e1,e2,Option.bind_some],by omega,by omega⟩
def aG (x:(List Link)):Nat:=szL aX x
theorem aIh (x:(List Link)) (o:(okL zU) x) (t:Int) (h0:0≤t) (h1:t≤1048576):sC x t=some (if (aG x:Int)≤t then t - aG x else -1):=by
  have hl:x.length≤9223372036854775807:=o.1
  have e:=aFb aX x
  unfold sC aG
  simp only [aO]
  rw [wi (by omega)]
  by_cases c:t - (x.length:Int) < 0
  · rw [if_pos c,if_neg (by omega)]
  · rw [if_neg c,aJA x aX oD (fun y hy t a b=>aHq y (o.2 y hy) t a b) (fun k t hk=>by unfold tT;simp only [];rw [if_pos (by omega),aI hk];simp only [Option.bind_some];rw [wi (by omega)]) (fun t=>by unfold tT;simp only [];rw [if_neg (by omega)]) _ (by omega) (by omega)]
    by_cases d:((x.map aX).sum:Int)≤t - x.length
    · rw [if_pos d,if_pos (by omega)];simp only [Option.bind_some];congr 1;omega
    · rw [if_neg d,if_neg (by omega)];rfl
theorem aIe (x:(List Link)) (h:aG x≤4294967296):sB x=some x:=by
  have hl:=cO aX x
  unfold aG at h
  unfold sB
  rw [aP (by omega)]
  simp only [Option.bind_some]
  have:=aEV (step:=pL x) x (List.replicate (x.length:Int).toNat (Link.mk 0 0 (Rat.mk (BigInt.mk false ([])) ([])) (Rat.mk (BigInt.mk false ([])) ([])) (Rat.mk (BigInt.mk false ([])) ([])))) (fun k m=>((k:Int),m)) (fun m=>m) (by simp) (fun k m hk hm=>by
    have he:=gG (w:=aX) (List.getElem_mem hk)
    unfold pL
    simp only []
    rw [if_pos (by omega),aI hk,aI (l:=m) (by omega)]
    simp only [Option.bind_some,aO,iL,aHo _ (show aX x[k]≤4294967296 by omega)]
    rw [wi (by omega)];rfl)
   (fun m hm=>by unfold pL;simp only [];rw [if_neg (by omega)])
  rw [show ((0:Nat):Int)=0 from rfl] at this
  rw [this];rfl
theorem aIO (x:(List Link)) (h:aG x≤4294967296):sD x x=some true:=by
  have hl:=cO aX x
  unfold aG at h
  unfold sD
  rw [if_neg (by simp),aDC x.length (.inl ())]
  · rfl
  · intro k hk
    have he:=gG (w:=aX) (List.getElem_mem hk)
    unfold tU
    rw [if_pos (by omega),aI hk]
    simp only [Option.bind_some,aH0 _ (show aX x[k]≤4294967296 by omega),if_true]
    rw [wi (by omega)];rfl
  · unfold tU;rw [if_neg (by omega)]
theorem aIA (x:(List Link)) (k:Int) (h0:0≤k) (h1:k+100*(aG x:Int)≤4611686018427387904):∃ k' x',kU x k=some (k',x')∧nL x' k=some k'∧k≤k'∧k'≤k+100*(aG x:Int)∧x'.length=x.length:=by
  unfold aG at h1 ⊢
  obtain ⟨k',l',p1,p2,p3,p4,p5⟩:=aHQ (ms:=mD) (hs:=mE) aX x (fun hl y k h0 h1=>by
    simp only [aX,aS,cQ] at h1 ⊢
    obtain ⟨k0,x0,e0,g0,a0,b0,l0⟩:=iX y.fWeight.fNum.fMag (k+1+1+1) (by omega) (by omega)
    obtain ⟨k1,x1,e1,g1,a1,b1,l1⟩:=iX y.fWeight.fDen (k0) (by omega) (by omega)
    obtain ⟨k2,x2,e2,g2,a2,b2,l2⟩:=iX y.fDX.fNum.fMag (k1+1) (by omega) (by omega)
    obtain ⟨k3,x3,e3,g3,a3,b3,l3⟩:=iX y.fDX.fDen (k2) (by omega) (by omega)
    obtain ⟨k4,x4,e4,g4,a4,b4,l4⟩:=iX y.fDY.fNum.fMag (k3+1) (by omega) (by omega)
    obtain ⟨k5,x5,e5,g5,a5,b5,l5⟩:=iX y.fDY.fDen (k4) (by omega) (by omega)
    have w0:i64.wrap (k+1)=k+1:=wi (by omega)
    have w1:i64.wrap (k+1+1)=k+1+1:=wi (by omega)
    have w2:i64.wrap (k+1+1+1)=k+1+1+1:=wi (by omega)
    have w3:i64.wrap (k1+1)=k1+1:=wi (by omega)
    have w4:i64.wrap (k3+1)=k3+1:=wi (by omega)
    have n0:¬k0 < 0:=by omega
    have n1:¬k1 < 0:=by omega
    have n2:¬k2 < 0:=by omega
    have n3:¬k3 < 0:=by omega
    have n4:¬k4 < 0:=by omega
    have n5:¬k5 < 0:=by omega
    refine ⟨k5,(Link.mk (k) (k+1) (Rat.mk (BigInt.mk (decide ((k+1+1).tmod 3=0)) x0) x1) (Rat.mk (BigInt.mk (decide ((k1).tmod 3=0)) x2) x3) (Rat.mk (BigInt.mk (decide ((k3).tmod 3=0)) x4) x5)),by omega,by omega,fun m i hi hm=>?_,fun m i hi hm=>?_⟩
    · have hlt:=(List.getElem?_eq_some_iff.1 hi).1
      have wi':i64.wrap ((i:Int)+1)=(i:Int)+1:=wi (by omega)
      unfold mD
      simp only []
      rw [if_pos (by omega)]
      simp only [aO,iL,aBP hi,aDG hlt,List.set_set,Option.bind_some,w0,w1,w2,w3,w4,e0,e1,e2,e3,e4,e5,wi']
    · have hlt:=(List.getElem?_eq_some_iff.1 hi).1
      have wi':i64.wrap ((i:Int)+1)=(i:Int)+1:=wi (by omega)
      unfold mE
      simp only []
      rw [if_pos (by omega)]
      simp only [aO,aBP hi,Option.bind_some,ne_eq,not_true_eq_false,if_false,beq_self_eq_true,if_true,w0,w1,w2,w3,w4,g0,g1,g2,g3,g4,g5,n0,n1,n2,n3,n4,n5,wi'])
   (fun k m hm=>by unfold mD;simp only [];rw [if_neg (by omega)]) (fun k m hm=>by unfold mE;simp only [];rw [if_neg (by omega)]) k h0 h1
  exact ⟨k',l',by unfold kU tZ;simp only [p1,Option.bind_some];rw [aP p2];rfl,by unfold nL;simp only [p3,Option.bind_some],p4,p5,p2⟩
def aU (x:TreeNode):Nat:=aG x.fOwn+aQ x.fCond+aG x.fMessages+aS x.fEnergy
theorem aIg (x:TreeNode) (o:yN x) (t:Int) (h0:0≤t) (h1:t≤1048576):lI x t=some (if (aU x:Int)≤t then t - aU x else -1):=by
  unfold lI aU
  rw [aIh x.fOwn o.2.2.1 (t) (by omega) (by omega)]
  simp only [Option.bind_some]
  by_cases c0:(aG x.fOwn:Int)≤t
  · skip
    rw [if_pos c0,if_neg (by omega)]
    rw [aFa x.fCond o.2.2.2.1 (t - aG x.fOwn) (by omega) (by omega)]
    simp only [Option.bind_some]
    by_cases c1:(aQ x.fCond:Int)≤t - aG x.fOwn
    · skip
      rw [if_pos c1,if_neg (by omega)]
      rw [aIh x.fMessages o.2.2.2.2.1 (t - aG x.fOwn - aQ x.fCond) (by omega) (by omega)]
      simp only [Option.bind_some]
      by_cases c2:(aG x.fMessages:Int)≤t - aG x.fOwn - aQ x.fCond
      · skip
        rw [if_pos c2,if_neg (by omega)]
        rw [aBj x.fEnergy o.2.2.2.2.2.1 (t - aG x.fOwn - aQ x.fCond - aG x.fMessages) (by omega) (by omega)]
        simp only [Option.bind_some]
        by_cases c3:(aS x.fEnergy:Int)≤t - aG x.fOwn - aQ x.fCond - aG x.fMessages
        · skip
          rw [if_pos c3,if_neg (by omega)]
          rw [if_pos (by omega)];congr 1;omega
        · rw [if_neg c3,if_pos (by omega),if_neg (by omega)]
      · rw [if_neg c2,if_pos (by omega),if_neg (by omega)]
    · rw [if_neg c1,if_pos (by omega),if_neg (by omega)]
  · rw [if_neg c0,if_pos (by omega),if_neg (by omega)]
theorem aId (x:TreeNode) (h:aU x≤4294967296):pK x=some x:=by
  unfold aU at h
  unfold pK
  rw [aIe x.fOwn (by omega)]
  simp only [Option.bind_some]
  rw [aE6 x.fCond (by omega)]
  simp only [Option.bind_some]
  rw [aIe x.fMessages (by omega)]
  simp only [Option.bind_some]
  rw [aBi x.fEnergy (by omega)]
  simp only [Option.bind_some]
theorem aIN (x:TreeNode) (h:aU x≤4294967296):pN x x=some true:=by
  unfold aU at h
  unfold pN
  have e0:=aIO x.fOwn (by omega)
  have e1:=aF5 x.fCond (by omega)
  have e2:=aIO x.fMessages (by omega)
  have e3:=aBQ x.fEnergy (by omega)
  simp only [e0,e1,e2,e3,Option.bind_some,if_true,ne_eq,not_true_eq_false,if_false,beq_self_eq_true]
def cC (x:(List TreeNode)):Nat:=szL aU x
theorem aHp (x:(List TreeNode)) (o:(okL yN) x) (t:Int) (h0:0≤t) (h1:t≤1048576):nH x t=some (if (cC x:Int)≤t then t - cC x else -1):=by
  have hl:x.length≤9223372036854775807:=o.1
  have e:=aFb aU x
  unfold nH cC
  simp only [aO]
  rw [wi (by omega)]
  by_cases c:t - (x.length:Int) < 0
  · rw [if_pos c,if_neg (by omega)]
  · rw [if_neg c,aJA x aU lI (fun y hy t a b=>aIg y (o.2 y hy) t a b) (fun k t hk=>by unfold mX;simp only [];rw [if_pos (by omega),aI hk];simp only [Option.bind_some];rw [wi (by omega)]) (fun t=>by unfold mX;simp only [];rw [if_neg (by omega)]) _ (by omega) (by omega)]
    by_cases d:((x.map aU).sum:Int)≤t - x.length
    · rw [if_pos d,if_pos (by omega)];simp only [Option.bind_some];congr 1;omega
    · rw [if_neg d,if_neg (by omega)];rfl
theorem aHn (x:(List TreeNode)) (h:cC x≤4294967296):nG x=some x:=by
  have hl:=cO aU x
  unfold cC at h
  unfold nG
  rw [aP (by omega)]
  simp only [Option.bind_some]
  have:=aEV (step:=jK x) x (List.replicate (x.length:Int).toNat (TreeNode.mk 0 0 ([]) (Conditional.mk 0 (Rat.mk (BigInt.mk false ([])) ([])) ([])) ([]) (Rat.mk (BigInt.mk false ([])) ([])))) (fun k m=>((k:Int),m)) (fun m=>m) (by simp) (fun k m hk hm=>by
    have he:=gG (w:=aU) (List.getElem_mem hk)
    unfold jK
    simp only []
    rw [if_pos (by omega),aI hk,aI (l:=m) (by omega)]
    simp only [Option.bind_some,aO,iL,aId _ (show aU x[k]≤4294967296 by omega)]
    rw [wi (by omega)];rfl)
   (fun m hm=>by unfold jK;simp only [];rw [if_neg (by omega)])
  rw [show ((0:Nat):Int)=0 from rfl] at this
  rw [this];rfl
theorem aHZ (x:(List TreeNode)) (h:cC x≤4294967296):nN x x=some true:=by
  have hl:=cO aU x
  unfold cC at h
  unfold nN
  rw [if_neg (by simp),aDC x.length (.inl ())]
  · rfl
  · intro k hk
    have he:=gG (w:=aU) (List.getElem_mem hk)
    unfold mY
    rw [if_pos (by omega),aI hk]
    simp only [Option.bind_some,aIN _ (show aU x[k]≤4294967296 by omega),if_true]
    rw [wi (by omega)];rfl
  · unfold mY;rw [if_neg (by omega)]
theorem aHN (x:(List TreeNode)) (k:Int) (h0:0≤k) (h1:k+100*(cC x:Int)≤4611686018427387904):∃ k' x',hC x k=some (k',x')∧kV x' k=some k'∧k≤k'∧k'≤k+100*(cC x:Int)∧x'.length=x.length:=by
  unfold cC at h1 ⊢
  obtain ⟨k',l',p1,p2,p3,p4,p5⟩:=aHQ (ms:=gU) (hs:=gV) aU x (fun hl y k h0 h1=>by
    simp only [aU,aQ,aS,cQ] at h1 ⊢
    obtain ⟨k0,x0,e0,g0,a0,b0,l0⟩:=aIA y.fOwn (k+1+1) (by omega) (by omega)
    obtain ⟨k1,x1,e1,g1,a1,b1,l1⟩:=iX y.fCond.fTotal.fNum.fMag (k0+1+1) (by omega) (by omega)
    obtain ⟨k2,x2,e2,g2,a2,b2,l2⟩:=iX y.fCond.fTotal.fDen (k1) (by omega) (by omega)
    obtain ⟨k3,x3,e3,g3,a3,b3,l3⟩:=aJy y.fCond.fParents (k2) (by omega) (by omega)
    obtain ⟨k4,x4,e4,g4,a4,b4,l4⟩:=aIA y.fMessages (k3) (by omega) (by omega)
    obtain ⟨k5,x5,e5,g5,a5,b5,l5⟩:=iX y.fEnergy.fNum.fMag (k4+1) (by omega) (by omega)
    obtain ⟨k6,x6,e6,g6,a6,b6,l6⟩:=iX y.fEnergy.fDen (k5) (by omega) (by omega)
    have w0:i64.wrap (k+1)=k+1:=wi (by omega)
    have w1:i64.wrap (k+1+1)=k+1+1:=wi (by omega)
    have w2:i64.wrap (k0+1)=k0+1:=wi (by omega)
    have w3:i64.wrap (k0+1+1)=k0+1+1:=wi (by omega)
    have w4:i64.wrap (k4+1)=k4+1:=wi (by omega)
    have n0:¬k0 < 0:=by omega
    have n1:¬k1 < 0:=by omega
    have n2:¬k2 < 0:=by omega
    have n3:¬k3 < 0:=by omega
    have n4:¬k4 < 0:=by omega
    have n5:¬k5 < 0:=by omega
    have n6:¬k6 < 0:=by omega
    refine ⟨k6,(TreeNode.mk (k) (k+1) x0 (Conditional.mk (k0) (Rat.mk (BigInt.mk (decide ((k0+1).tmod 3=0)) x1) x2) x3) x4 (Rat.mk (BigInt.mk (decide ((k4).tmod 3=0)) x5) x6)),by omega,by omega,fun m i hi hm=>?_,fun m i hi hm=>?_⟩
    · have hlt:=(List.getElem?_eq_some_iff.1 hi).1
      have wi':i64.wrap ((i:Int)+1)=(i:Int)+1:=wi (by omega)
      unfold gU
      simp only []
      rw [if_pos (by omega)]
      simp only [aO,iL,aBP hi,aDG hlt,List.set_set,Option.bind_some,w0,w1,w2,w3,w4,e0,e1,e2,e3,e4,e5,e6,wi']
    · have hlt:=(List.getElem?_eq_some_iff.1 hi).1
      have wi':i64.wrap ((i:Int)+1)=(i:Int)+1:=wi (by omega)
      unfold gV
      simp only []
      rw [if_pos (by omega)]
      simp only [aO,aBP hi,Option.bind_some,ne_eq,not_true_eq_false,if_false,beq_self_eq_true,if_true,w0,w1,w2,w3,w4,g0,g1,g2,g3,g4,g5,g6,n0,n1,n2,n3,n4,n5,n6,wi'])
   (fun k m hm=>by unfold gU;simp only [];rw [if_neg (by omega)]) (fun k m hm=>by unfold gV;simp only [];rw [if_neg (by omega)]) k h0 h1
  exact ⟨k',l',by unfold hC oL;simp only [p1,Option.bind_some];rw [aP p2];rfl,by unfold kV;simp only [p3,Option.bind_some],p4,p5,p2⟩
def cD (x:Tree):Nat:=cC x.fNodes
theorem aJ6 (x:Tree) (o:aDV x) (t:Int) (h0:0≤t) (h1:t≤1048576):uF x t=some (if (cD x:Int)≤t then t - cD x else -1):=by
  unfold uF cD
  rw [aHp x.fNodes o.1 t (by omega) (by omega)]
  simp only [Option.bind_some]
  by_cases c:(cC x.fNodes:Int)≤t
  · rw [if_pos c,if_neg (by omega)]
  · rw [if_neg c];rfl
theorem aJ4 (x:Tree) (h:cD x≤4294967296):gQ x=some x:=by
  unfold cD at h
  unfold gQ
  rw [aHn x.fNodes (by omega)]
  simp only [Option.bind_some]
theorem aEW (x:Tree) (h:cD x≤4294967296):gR x x=some true:=by
  unfold cD at h
  unfold gR
  have e0:=aHZ x.fNodes (by omega)
  simp only [e0,Option.bind_some,if_true,ne_eq,not_true_eq_false,if_false,beq_self_eq_true]
theorem aEU (x:Tree) (k:Int) (h0:0≤k) (h1:k+100*(cD x:Int)≤4611686018427387904):∃ k' x',kA x k=some (k',x')∧kB x' k=some k'∧k≤k'∧k'≤k+100*(cD x:Int):=by
  unfold cD at h1 ⊢
  obtain ⟨k0,x0,e0,g0,a0,b0,l0⟩:=aHN x.fNodes (k) (by omega) (by omega)
  have n0:¬k0 < 0:=by omega
  exact ⟨k0,Tree.mk x0,by unfold kA;simp only [e0,Option.bind_some],by unfold kB;simp only [g0,n0,Option.bind_some,if_false],by omega,by omega⟩
end Go.Ev
/- Fractions made of whole numbers: both programs make the same. -/
namespace Go.Ev
set_option linter.all false
theorem wu {n:Int} (h:0≤n∧n≤18446744073709551615):IntKind.u64.wrap n=n:=by
  have:IntKind.u64.wrap n=n % 18446744073709551616:=by simp [IntKind.wrap,IntKind.bits,IntKind.signed]
  rw [this];omega
theorem aE7 (v:Nat):((v:Int)).tmod 1000000000=((v % BB:Nat):Int):=by
  rw [Int.tmod_eq_emod_of_nonneg (by omega),dV];omega
theorem aE8 (v:Nat):((v:Int)).tdiv 1000000000=((v / BB:Nat):Int):=by
  rw [Int.tdiv_eq_ediv_of_nonneg (by omega),dV];omega
theorem aFz:∀ (v:Nat) (t:List Int),v < 18446744073709551616→t.length+(aB v).length≤1000→lp iZ ((v:Int),t)=some (t++aB v):=by
  intro v
  induction v using Nat.strongRecOn with
  | _ v ih =>
    intro t hv ht
    by_cases h:v=0
    · subst h
      rw [bN,List.append_nil]
      exact aN (by unfold iZ;simp)
    · rw [hP h,List.length_cons] at ht
      have hm:=Nat.mod_lt v vV
      have hd:=Nat.div_le_self v BB
      rw [dV] at hm
      have e:iZ ((v:Int),t)=some (.inl (((v / BB:Nat):Int),t++[((v % BB:Nat):Int)])):=by
        unfold iZ
        simp only []
        rw [if_pos (by omega),aE7,aE8,wi (by rw [dV];omega),wu (by rw [dV] at hd ⊢;omega),aP (by omega)]
        rfl
      rw [bF e,ih _ (Nat.div_lt_self (by omega) (by rw [dV];omega)) _ (by omega) (by simp;omega),hP h]
      simp
theorem jU {v:Nat} (h:v < 18446744073709551616):(aB v).length≤3:=by
  refine kD ?_
  rw [dV];omega
theorem xK (v:Nat) (h:v < 18446744073709551616):gL (v:Int)=some (aB v):=by
  unfold gL
  have:=jU h
  rw [aFz v [] h (by simp;omega)]
  simp
theorem aJY:∀ (v:Nat) (t:List Int),v < 9223372036854775808→t.length+(aB v).length≤1000→lp pX ((v:Int),t)=some (t++aB v):=by
  intro v
  induction v using Nat.strongRecOn with
  | _ v ih =>
    intro t hv ht
    by_cases h:v=0
    · subst h
      rw [bN,List.append_nil]
      exact aN (by unfold pX;simp)
    · rw [hP h,List.length_cons] at ht
      have hd:=Nat.div_le_self v BB
      have e:pX ((v:Int),t)=some (.inl (((v / BB:Nat):Int),t++[((v % BB:Nat):Int)])):=by
        unfold pX
        simp only []
        rw [if_pos (by omega),aE7,aE8,wi (by rw [dV] at hd ⊢;omega),aP (by omega)]
        rfl
      rw [bF e,ih _ (Nat.div_lt_self (by omega) (by rw [dV];omega)) _ (by omega) (by simp;omega),hP h]
      simp
theorem aA1 (v:Nat) (h:v < 9223372036854775808):mP (v:Int)=some (aB v):=by
  unfold mP
  have:=jU (v:=v) (by omega)
  rw [aJY v [] h (by simp;omega)]
  simp
theorem aKK (l:List Int) (hl:l.length≤4294967296):∀ k:Nat,k≤l.length→(∀ i (hi:i < l.length),k≤i→l[i]=0)→lp (fP l) (k:Int)=some (((sN l).length:Nat):Int):=by
  have htl:∀ (m:List Int) (k:Nat),k≤m.length→(∀ i (hi:i < m.length),k≤i→m[i]=0)→sN m=sN (m.take k):=by
    intro m
    induction m with
    | nil=>intro k _ _;simp
    | cons d m ih =>
      intro k hk hz
      cases k with
      | zero =>
        have h0:d=0:=hz 0 (by simp) (Nat.le_refl _)
        have:=ih 0 (by omega) (fun i hi _=>by have:=hz (i+1) (by simpa using hi) (by omega);simpa using this)
        rw [List.take_zero] at this ⊢
        unfold sN
        rw [this];simp [sN,h0]
      | succ k =>
        have:=ih k (by simpa using hk) (fun i hi hki=>by have:=hz (i+1) (by simpa using hi) (by omega);simpa using this)
        rw [List.take_succ_cons]
        conv=>lhs;unfold sN
        conv=>rhs;unfold sN
        rw [this]
  intro k
  induction k with
  | zero =>
    intro hk hz
    rw [htl l 0 (by omega) hz,List.take_zero]
    exact aN (by unfold fP;simp [sN])
  | succ k ih =>
    intro hk hz
    have hlt:k < l.length:=by omega
    by_cases c:l[k]=0
    · have e:fP l ((k+1:Nat):Int)=some (.inl (k:Int)):=by
        unfold fP
        rw [if_pos (by omega),wi (by omega),show ((k+1:Nat):Int) - 1=(k:Int) by omega,aI hlt]
        simp [c]
      rw [bF e]
      exact ih (by omega) (fun i hi hki=>by
        by_cases e:i=k
        · subst e;exact c
        · exact hz i hi (by omega))
    · have e:fP l ((k+1:Nat):Int)=some (.inr ((k+1:Nat):Int)):=by
        unfold fP
        rw [if_pos (by omega),wi (by omega),show ((k+1:Nat):Int) - 1=(k:Int) by omega,aI hlt]
        simp [c]
      rw [aN e,htl l (k+1) hk hz,aDm (l:=l.take (k+1))]
      · simp;omega
      · have e:l.take (k+1)=l.take k++[l[k]]:=by rw [List.take_succ,List.getElem?_eq_getElem hlt];rfl
        rw [e,List.getLast?_concat];simpa using c
theorem aGN (l:List Int):sN l=l.take (sN l).length:=by
  induction l with
  | nil=>rfl
  | cons d l ih =>
    unfold sN
    cases h:sN l with
    | nil =>
      by_cases c:d=0 <;> simp [c]
    | cons t r =>
      rw [h] at ih
      simp only [List.length_cons,List.take_succ_cons] at ih ⊢
      rw [← ih]
theorem aIb (l:List Int):(sN l).length≤l.length:=by
  have:=congrArg List.length (aGN l)
  rw [List.length_take] at this;omega
theorem aG3 (l:List Int) (hl:l.length≤4294967296):cW l=some (sN l):=by
  unfold cW
  rw [aKK l hl l.length (Nat.le_refl _) (fun i hi h=>by omega)]
  simp only [Option.bind_some]
  have:=aIb l
  rw [tN _ _ _ (by omega)]
  simp only [Option.bind_some]
  congr 1
  have e:=aGN l
  simp only [Int.toNat_zero,List.drop_zero,Int.sub_zero,Int.toNat_natCast]
  exact e.symm
theorem aL9 (v:Nat) (h:(aB v).length≤60):xC (aB v)=some (aB v):=by
  unfold xC
  rw [aG3 _ (by omega)]
  simp only [Option.bind_some]
  rw [aDm (aBR v),if_neg (by omega)]
def big (n:Int):BigInt:=⟨decide (n < 0),aB n.natAbs⟩
theorem sE (s:Bool) (v:Nat) (h:(aB v).length≤60):cV s (aB v)=some ⟨s&&decide (v≠0),aB v⟩:=by
  unfold cV
  rw [aL9 v h]
  simp only [Option.bind_some]
  have hz:(0 < ((aB v).length:Int))↔v≠0:=by
    constructor
    · intro h e;subst e;rw [bN] at h;simp at h
    · intro h
      have:(aB v).length≠0:=fun e=>eE h (List.length_eq_zero_iff.1 e)
      omega
  cases s with
  | true =>
    simp only [if_true]
    rw [aP (by simp;omega)]
    simp only [Option.bind_some,aO,List.nil_append,Bool.true_and]
    congr 2
    exact decide_eq_decide.2 hz
  | false =>
    simp only [Bool.false_eq_true,if_false]
    rw [aP (by simp;omega)]
    simp only [Option.bind_some,aO,List.nil_append,Bool.false_and]
theorem wR (s:Bool) (v:Nat) (h:(aB v).length≤60):eT s (aB v)=some ⟨s&&decide (v≠0),aB v⟩:=by
  unfold eT
  by_cases hv:v=0
  · subst hv
    rw [bN];simp
  · have:(aB v).length≠0:=fun e=>eE hv (List.length_eq_zero_iff.1 e)
    rw [if_neg (by omega)]
    simp only [Option.bind_some]
    have h2:¬(60 < ((aB v).length:Int)):=by omega
    simp [h2,hv]
theorem aEM (n:Int) (h:-9223372036854775808≤n∧n≤9223372036854775807):tK n=some (big n):=by
  unfold tK big
  by_cases c:n < 0
  · rw [if_pos c]
    simp only [aO]
    rw [wi (n:=n+1) (by omega),wi (by omega),wu (n:=0 - (n+1)) (by omega),wu (by omega)]
    have e:(0 - (n+1)+1)=((n.natAbs:Nat):Int):=by omega
    have hl:=jU (v:=n.natAbs) (by omega)
    rw [e,xK _ (by omega)]
    simp only [Option.bind_some]
    rw [wR true _ (by omega)]
    simp only [Option.bind_some,Bool.true_and]
    have:n.natAbs≠0:=by omega
    simp [c,this]
  · rw [if_neg c]
    have e:n=((n.natAbs:Nat):Int):=by omega
    have hl:=jU (v:=n.natAbs) (by omega)
    rw [wu (by omega)]
    conv=>lhs;rw [e]
    rw [xK _ (by omega)]
    simp only [Option.bind_some]
    rw [wR false _ (by omega)]
    simp [c]
theorem aEo (n:Int) (h:-9223372036854775808≤n∧n≤9223372036854775807):sU n=some (big n):=by
  unfold sU big
  by_cases c0:n=-9223372036854775808
  · rw [if_pos c0]
    subst c0
    have hd:([854775808,223372036,9]:List Int)=aB 9223372036854775808:=by
      have h1:dgs [854775808,223372036,9]:=by intro d hd;simp at hd;omega
      have:=aAK (l:=[854775808,223372036,9]) ⟨h1,by simp⟩
      rw [this];rfl
    have hl:=jU (v:=9223372036854775808) (by omega)
    rw [hd,sE true _ (by omega)]
    simp only [Option.bind_some]
    rfl
  · rw [if_neg c0]
    by_cases c:n < 0
    · rw [if_pos c,wi (by omega)]
      have e:(0 - n)=((n.natAbs:Nat):Int):=by omega
      have hl:=jU (v:=n.natAbs) (by omega)
      rw [e,aA1 _ (by omega)]
      simp only [Option.bind_some]
      rw [sE true _ (by omega)]
      simp only [Option.bind_some,Bool.true_and]
      have:n.natAbs≠0:=by omega
      simp [c,this]
    · rw [if_neg c]
      have e:n=((n.natAbs:Nat):Int):=by omega
      have hl:=jU (v:=n.natAbs) (by omega)
      conv=>lhs;rw [e]
      rw [aA1 _ (by omega)]
      simp only [Option.bind_some]
      rw [sE false _ (by omega)]
      simp [c]
def yL (n:Int):Rat:=⟨big n,[1]⟩
theorem mM (n:Int) (h:-9223372036854775808≤n∧n≤9223372036854775807):eN n=some (yL n):=by
  unfold eN
  rw [aEM n h];rfl
theorem lU (n:Int) (h:-9223372036854775808≤n∧n≤9223372036854775807):eK n=some (yL n):=by
  unfold eK
  rw [aEo n h];rfl
end Go.Ev
/- Naturals as limbs: order, sums, differences; both programs. -/
namespace Go.Ev
open IntKind
set_option linter.all false
theorem yA:oO=cW:=rfl
theorem aAz {l:List Int} (h:dgs l) (hl:l.length≤4294967296):cW l=some (aB (val l)):=by rw [aG3 l hl,aE5 h]
theorem aIW:yW=gI:=rfl
theorem aMk (x y t:Nat):tL (x+t) (y+t)=tL x y:=by unfold tL;simp only [Nat.add_lt_add_iff_right]
theorem aMi (a b:List Int) (ha:dgs a) (hb:dgs b) (hab:a.length=b.length) (hl:a.length≤4294967296):∀ k:Nat,k≤a.length →
    lp (gI a b) ((k:Int) - 1)=some (if val (a.take k)=val (b.take k) then .inl () else .inr (tL (val (a.take k)) (val (b.take k)))):=by
  intro k
  induction k with
  | zero =>
    intro _
    rw [aN (r:=.inl ()) (by unfold gI;rw [if_neg (by omega)])]
    simp
  | succ k ih =>
    intro hk
    have h1:k < a.length:=by omega
    have h2:k < b.length:=by omega
    have d1:=mZ ha h1
    have d2:=mZ hb h2
    have v1:=aE4 (aIV ha k)
    have v2:=aE4 (aIV hb k)
    rw [List.length_take,Nat.min_eq_left (by omega)] at v1 v2
    rw [pU h1,pU h2]
    have hk1:((k+1:Nat):Int) - 1=(k:Int):=by omega
    rw [hk1]
    by_cases c1:a[k] < b[k]
    · rw [aN (r:=.inr (-1)) (by unfold gI;rw [if_pos (by omega),aI h1,aI h2];simp [c1])]
      have:BB ^ k*(a[k]).toNat+BB ^ k≤BB ^ k*(b[k]).toNat:=by
        rw [← Nat.mul_succ];exact Nat.mul_le_mul_left _ (by omega)
      rw [if_neg (by omega)];unfold tL;rw [if_pos (by omega)]
    · by_cases c2:b[k] < a[k]
      · rw [aN (r:=.inr 1) (by unfold gI;rw [if_pos (by omega),aI h1,aI h2];simp [c1,c2])]
        have:BB ^ k*(b[k]).toNat+BB ^ k≤BB ^ k*(a[k]).toNat:=by
          rw [← Nat.mul_succ];exact Nat.mul_le_mul_left _ (by omega)
        rw [if_neg (by omega)];unfold tL;rw [if_neg (by omega),if_pos (by omega)]
      · have e:a[k]=b[k]:=by omega
        rw [bF (s':=(k:Int) - 1) (by unfold gI;rw [if_pos (by omega),aI h1,aI h2,wi (by omega)];simp [c1,c2]),ih (by omega),e]
        by_cases c3:val (a.take k)=val (b.take k)
        · rw [if_pos c3,if_pos (by omega)]
        · rw [if_neg c3,if_neg (by omega)]
          rw [aMk]
theorem aIX {x y:Nat} (h:(aB x).length < (aB y).length):tL x y=-1:=by unfold tL;rw [if_pos (aJB h)]
theorem aHa {x y:Nat} (h:(aB y).length < (aB x).length):tL x y=1:=by have:=aJB h;unfold tL;rw [if_neg (by omega),if_pos this]
theorem aMj (x y:Nat) (hx:(aB x).length≤1000) (h:(aB x).length=(aB y).length):lp (gI (aB x) (aB y)) (((aB x).length:Int) - 1)=some (if x=y then .inl () else .inr (tL x y)):=by
  have:=aMi (aB x) (aB y) (eI x) (eI y) h (by omega) (aB x).length (Nat.le_refl _)
  rw [List.take_length,h,List.take_length,dO,dO] at this
  rw [h];exact this
theorem aBK (x y:Nat) (hx:(aB x).length≤1000) (hy:(aB y).length≤1000):oC (aB x) (aB y)=some (tL x y):=by
  unfold oC
  by_cases c:(aB x).length=(aB y).length
  · rw [if_neg (by omega),aO,wi (by omega),aMj x y hx c]
    by_cases e:x=y
    · subst e;simp [tL]
    · rw [if_neg e];rfl
  · rw [if_pos (by omega)]
    by_cases c2:(aB x).length < (aB y).length
    · rw [if_pos (by omega),aIX c2]
    · rw [if_neg (by omega),aHa (by omega)]
theorem aFB (x y:Nat) (hx:(aB x).length≤1000) (hy:(aB y).length≤1000):uK (aB x) (aB y)=some (tL x y):=by
  unfold uK
  by_cases c2:(aB x).length < (aB y).length
  · rw [if_pos (by omega),aIX c2]
  · rw [if_neg (by omega)]
    by_cases c3:(aB y).length < (aB x).length
    · rw [if_pos (by omega),aHa c3]
    · rw [if_neg (by omega),aO,wi (by omega),aIW,aMj x y hx (by omega)]
      by_cases e:x=y
      · subst e;simp [tL]
      · rw [if_neg e];rfl
theorem aI4 (a b:List Int) (i c:Nat) (out:List Int) (x:Nat) (hx:x≤1999999999) (ho:out.length=i) (hi:i≤2000) (hlt:i < a.length∨i < b.length∨c=1) (hc:c≤1)
    (h:(x:Int)=c+(if h:i < a.length then a[i] else 0)+(if h:i < b.length then b[i] else 0)) (ha:dgs a) (hb:dgs b) :
    iI a b ((c:Int),(i:Int),out)=some (.inl (((x / BB:Nat):Int),((i+1:Nat):Int),out++[((x % BB:Nat):Int)])):=by
  unfold iI
  simp only []
  by_cases c1:i < a.length
  · have d1:=mZ ha c1
    rw [dif_pos c1] at h
    rw [if_pos (by omega),if_pos (by omega),aI c1]
    simp only [Option.bind_some,if_true]
    rw [wi (by omega)]
    by_cases c2:i < b.length
    · have d2:=mZ hb c2
      rw [dif_pos c2] at h
      rw [if_pos (by omega),aI c2]
      simp only [Option.bind_some]
      rw [wi (by omega),← h,aP (by omega)]
      simp only [Option.bind_some,aO]
      rw [aE7,aE8,wi (by rw [dV];omega),wi (by omega)];rfl
    · rw [dif_neg c2] at h
      rw [if_neg (by omega)]
      simp only [Option.bind_some]
      rw [show (c:Int)+a[i]=(x:Int) by omega,aP (by omega)]
      simp only [Option.bind_some,aO]
      rw [aE7,aE8,wi (by rw [dV];omega),wi (by omega)];rfl
  · rw [dif_neg c1] at h
    have n1:¬((i:Int) < (a.length:Int)):=by omega
    simp only [n1,if_false]
    by_cases c2:i < b.length
    · have d2:=mZ hb c2
      rw [dif_pos c2] at h
      have n2:((i:Int) < (b.length:Int)):=by omega
      simp only [n2,if_true,Option.bind_some]
      rw [aI c2]
      simp only [Option.bind_some]
      rw [wi (by omega),show (c:Int)+b[i]=(x:Int) by omega,aP (by omega)]
      simp only [Option.bind_some,aO]
      rw [aE7,aE8,wi (by rw [dV];omega),wi (by omega)];rfl
    · rw [dif_neg c2] at h
      have n2:¬((i:Int) < (b.length:Int)):=by omega
      have hc1:c=1:=by omega
      have hc2:(0 < (c:Int)):=by omega
      simp only [n2,hc2,if_false,decide_true,Option.bind_some,if_true]
      rw [show (c:Int)=(x:Int) by omega,aP (by omega)]
      simp only [Option.bind_some,aO]
      rw [aE7,aE8,wi (by rw [dV];omega),wi (by omega)];rfl
theorem aI3 (a b:List Int) (i:Nat) (out:List Int) (h1:a.length≤i) (h2:b.length≤i):lp (iI a b) (0,(i:Int),out)=some out :=
  aN (by unfold iI;simp only [];rw [if_neg (by omega),if_neg (by omega)];simp)
theorem aM0 (a b:List Int) (ha:dgs a) (hb:dgs b) (i c:Nat) (out:List Int) (hc:c≤1) (ho:out.length=i) (hi:i≤1999) (h1:a.length≤i) (h2:b.length≤i) :
    lp (iI a b) ((c:Int),(i:Int),out)=some (out++aB c):=by
  rcases Nat.eq_zero_or_pos c with e | e
  · subst e
    rw [bN,List.append_nil];exact aI3 a b i out h1 h2
  · have e1:c=1:=by omega
    subst e1
    have:=aI4 a b i 1 out 1 (by omega) ho (by omega) (.inr (.inr rfl)) (by omega) (by rw [dif_neg (by omega),dif_neg (by omega)];omega) ha hb
    rw [bF this,show 1 / BB=0 from rfl,show 1 % BB=1 from rfl]
    rw [show ((0:Nat):Int)=0 from rfl,aI3 a b (i+1) _ (by omega) (by omega),vM (by rw [dV];omega) (by omega)]
theorem aMr (a b:List Int) (ha:nat a) (hb:nat b) (hla:a.length≤1000) (hlb:b.length≤1000):∀ (m i c:Nat) (out:List Int),c≤1→m+i=max a.length b.length→out.length=i →
    lp (iI a b) ((c:Int),(i:Int),out)=some (out++aB (c+(val (a.drop i)+val (b.drop i)))):=by
  intro m
  induction m with
  | zero =>
    intro i c out hc hm ho
    rw [fO (by omega),fO (by omega)]
    exact aM0 a b ha.1 hb.1 i c out hc ho (by omega) (by omega) (by omega)
  | succ m ih =>
    intro i c out hc hm ho
    obtain ⟨x,hx,e1,e2,e3⟩:∃ x:Nat,x≤1999999999∧c+(val (a.drop i)+val (b.drop i))=x+BB*(val (a.drop (i+1))+val (b.drop (i+1))) ∧
        c+(val (a.drop i)+val (b.drop i))≠0∧(x:Int)=c+(if h:i < a.length then a[i] else 0)+(if h:i < b.length then b[i] else 0):=by
      by_cases c1:i < a.length
      · have d1:=mZ ha.1 c1
        have n1:=aEb ha c1
        have v1:=hY c1
        by_cases c2:i < b.length
        · have d2:=mZ hb.1 c2
          have v2:=hY c2
          refine ⟨c+(a[i]).toNat+(b[i]).toNat,by omega,by rw [Nat.mul_add];omega,by omega,by rw [dif_pos c1,dif_pos c2];omega⟩
        · have v2:=fO (l:=b) (k:=i) (by omega)
          have v3:=fO (l:=b) (k:=i+1) (by omega)
          refine ⟨c+(a[i]).toNat,by omega,by rw [Nat.mul_add,v3];omega,by omega,by rw [dif_pos c1,dif_neg c2];omega⟩
      · have c2:i < b.length:=by omega
        have d2:=mZ hb.1 c2
        have n2:=aEb hb c2
        have v2:=hY c2
        have v1:=fO (l:=a) (k:=i) (by omega)
        have v3:=fO (l:=a) (k:=i+1) (by omega)
        refine ⟨c+(b[i]).toNat,by omega,by rw [Nat.mul_add,v3];omega,by omega,by rw [dif_neg c1,dif_pos c2];omega⟩
    rw [bF (aI4 a b i c out x hx ho (by omega) (by omega) hc e3 ha.1 hb.1),ih (i+1) (x / BB) _ (by rw [dV];omega) (by omega) (by simp [ho])]
    rw [e1] at e2 ⊢
    rw [aIU e2];simp
theorem aIG (x y:Nat) (hx:(aB x).length≤1000) (hy:(aB y).length≤1000):xD (aB x) (aB y)=some (aB (x+y)):=by
  unfold xD
  have:=aMr (aB x) (aB y) (aLX x) (aLX y) hx hy _ 0 0 [] (by omega) (Nat.add_zero _) rfl
  rw [show ((0:Nat):Int)=0 from rfl,List.drop_zero,List.drop_zero,dO,dO,Nat.zero_add] at this
  rw [this];rfl
theorem aLZ (x y:Nat) (hx:(aB x).length≤1000) (hy:(aB y).length≤1000):zP (aB x) (aB y)=some (aB (x+y)):=aIG x y hx hy
theorem aLs (a b:List Int) (ha:dgs a) (hb:dgs b) (hla:a.length≤1000) (hab:b.length≤a.length):∀ (m i c:Nat) (out:List Int),c≤1→m+i=a.length→out.length=i→dgs out→val (a.take i)+c*BB ^ i=val out+val (b.take i) →
    ∃ (c':Nat) (out':List Int),lp (nA a b) ((c:Int),(i:Int),out)=some out'∧lp (nP a b) ((c:Int),(i:Int),out++List.replicate m 0)=some out'∧dgs out'∧out'.length=a.length∧val a+c'*BB ^ a.length=val out'+val b:=by
  intro m
  induction m with
  | zero =>
    intro i c out hc hm ho hd hv
    have e:i=a.length:=by omega
    refine ⟨c,out,aN ?_,aN ?_,hd,by omega,?_⟩
    · unfold nA;simp only [];rw [if_neg (by omega)]
    · unfold nP;simp only [];rw [if_neg (by omega)];simp
    · rw [e,List.take_length,List.take_of_length_le hab] at hv;exact hv
  | succ m ih =>
    intro i c out hc hm ho hd hv
    have h1:i < a.length:=by omega
    have d1:=mZ ha h1
    obtain ⟨bi,hb1,hb2,hb3⟩:∃ bi:Nat,bi < 1000000000∧val (b.take (i+1))=val (b.take i)+BB ^ i*bi∧(bi:Int)=(if h:i < b.length then b[i] else 0):=by
      by_cases c2:i < b.length
      · have d2:=mZ hb c2
        exact ⟨(b[i]).toNat,by omega,pU c2,by rw [dif_pos c2];omega⟩
      · refine ⟨0,by omega,?_,by rw [dif_neg c2];rfl⟩
        rw [List.take_of_length_le (by omega),List.take_of_length_le (by omega)];simp
    obtain ⟨n,c',hn,hc',he⟩:∃ n c':Nat,n < 1000000000∧c'≤1∧a[i] - (c:Int) - (bi:Int)+c'*1000000000=(n:Int)∧(c'=1↔a[i] - (c:Int) - (bi:Int) < 0):=by
      by_cases g:a[i] - (c:Int) - (bi:Int) < 0
      · exact ⟨(a[i] - (c:Int) - (bi:Int)+1000000000).toNat,1,by omega,by omega,by omega,by simp [g]⟩
      · exact ⟨(a[i] - (c:Int) - (bi:Int)).toNat,0,by omega,by omega,by omega,by simp [g]⟩
    obtain ⟨he,hg⟩:=he
    have hs:(n:Int)=a[i] - c - bi+c'*1000000000:=by omega
    have s0:(((if ((i:Int) < (b.length:Int)) then (idx b (i:Int)).bind fun y16=>(aZ (i64.wrap (i64.wrap (a[i] - c) - y16))).bind fun v17=>some v17 else some (i64.wrap (a[i] - c))):Option Int).bind (fun d19=>((if (d19 < 0) then (aZ (i64.wrap (d19+1000000000))).bind fun v21=>some (1,v21) else some (0,d19)):Option (Int × Int))))=some ((c':Int),(n:Int)):=by
      rw [wi (by omega)]
      have fin:∀ z:Int,z=a[i] - c - bi→(if (z < 0) then (aZ (i64.wrap (z+1000000000))).bind fun v21=>some ((1:Int),v21) else some (0,z))=some ((c':Int),(n:Int)):=by
        intro z hz
        by_cases g:z < 0
        · have e1:c'=1:=hg.2 (by omega)
          subst e1
          rw [if_pos g,aO,wi (by omega)];congr 2;omega
        · have e1:c'=0:=by
            have:¬c'=1:=fun h=>g (by have:=hg.1 h;omega)
            omega
          subst e1
          rw [if_neg g];congr 2;omega
      by_cases c2:i < b.length
      · rw [dif_pos c2] at hb3
        rw [if_pos (by omega),aI c2]
        simp only [Option.bind_some,aO]
        rw [wi (by omega)]
        exact fin _ (by omega)
      · rw [dif_neg c2] at hb3
        rw [if_neg (by omega)]
        simp only [Option.bind_some]
        exact fin _ (by omega)
    have s1:nA a b ((c:Int),(i:Int),out)=some (.inl ((c':Int),((i+1:Nat):Int),out++[(n:Int)])):=by
      unfold nA
      simp only []
      rw [if_pos (by omega),aI h1]
      simp only [Option.bind_some]
      rw [← Option.bind_assoc,s0]
      simp only [Option.bind_some]
      rw [aP (by omega),wi (by omega)];rfl
    have s2:nP a b ((c:Int),(i:Int),out++List.replicate (m+1) 0)=some (.inl ((c':Int),((i+1:Nat):Int),(out++[(n:Int)])++List.replicate m 0)):=by
      unfold nP
      simp only []
      rw [if_pos (by omega),aI h1]
      simp only [Option.bind_some]
      rw [← Option.bind_assoc,s0]
      simp only [Option.bind_some]
      rw [aI (by simp;omega),wi (by omega)]
      simp only [Option.bind_some,aO,iL]
      congr 4
      rw [List.set_append_right _ _ (by omega),ho,Nat.sub_self,List.replicate_succ,List.set_cons_zero];simp
    rw [bF s1,bF s2]
    refine ih (i+1) c' _ hc' (by omega) (by simp [ho]) (by rw [aKB];exact ⟨hd,by intro z hz;simp at hz;omega⟩) ?_
    rw [pU h1,aHm,hb2,ho]
    have e:=congrArg (BB ^ i*·) (show (a[i]).toNat+c'*BB=n+bi+c by rw [dV];omega)
    simp only [Nat.mul_add] at e
    simp only [val,Int.toNat_natCast,Nat.mul_zero,Nat.add_zero]
    have e2:c'*BB ^ (i+1)=BB ^ i*(c'*BB):=by rw [Nat.pow_succ,Nat.mul_comm c',Nat.mul_assoc,Nat.mul_comm BB c']
    rw [e2]
    rw [Nat.mul_comm c] at hv
    omega
theorem aMH {a b c' L:Nat} {out:List Int} (hd:dgs out) (hl:out.length=L) (h:a+c'*BB ^ L=val out+b) (hab:b≤a):val out=a - b:=by
  have:=aE4 hd
  rw [hl] at this
  cases c' with
  | zero=>simp at h;omega
  | succ c =>
    rw [Nat.succ_mul] at h
    have:0≤c*BB ^ L:=Nat.zero_le _
    omega
theorem aAg (x y:Nat) (hx:(aB x).length≤1000) (hyx:y≤x):qS (aB x) (aB y)=some (aB (x - y))∧rK (aB x) (aB y)=some (aB (x - y)):=by
  have hl:(aB y).length≤(aB x).length:=fM hyx (Nat.le_refl _)
  obtain ⟨c',out',e1,e2,e3,e4,e5⟩:=aLs (aB x) (aB y) (eI x) (eI y) hx hl (aB x).length 0 0 [] (by omega) (by omega) rfl aCb (by simp [val])
  rw [dO,dO] at e5
  have hv:=aMH e3 e4 e5 hyx
  rw [show ((0:Nat):Int)=0 from rfl] at e1 e2
  rw [List.nil_append] at e2
  constructor
  · unfold qS
    rw [e1]
    simp only [Option.bind_some]
    rw [aAz e3 (by omega),hv];rfl
  · unfold rK
    rw [aP (by omega)]
    simp only [Option.bind_some,Int.toNat_natCast]
    rw [e2]
    simp only [Option.bind_some]
    rw [yA,aAz e3 (by omega),hv];rfl
end Go.Ev
/- Naturals as limbs: products; both programs. -/
namespace Go.Ev
set_option linter.all false
theorem aIx (a b:List Int) (i:Nat) (hi:i < a.length):vF a b (i:Int)=iH b (i:Int) a[i]:=by
  funext s
  obtain ⟨c,j,v⟩:=s
  unfold vF iH
  simp only [aI hi,Option.bind_some,aO]
  split
  · cases idx v (IntKind.i64.wrap ((i:Int)+j)) with
    | none=>cases idx b j <;> rfl
    | some y =>
      cases idx b j with
      | none=>rfl
      | some z=>simp only [Option.bind_some];rw [Int.add_comm c]
  · rfl
theorem aKY (b:List Int) (i x:Nat) (hx:x < 1000000000) (hb:dgs b) (hlb:b.length≤1000) (hi:i≤1000):∀ (m j c:Nat) (v:List Int),m+j=b.length→c < 1000000000→dgs v→i+b.length≤v.length→v.length≤2000 →
    ∃ (c':Nat) (v':List Int),lp (iH b (i:Int) (x:Int)) ((c:Int),(j:Int),v)=some ((c':Int),v')∧c' < 1000000000∧dgs v'∧v'.length=v.length∧v'.drop (i+b.length)=v.drop (i+b.length) ∧
      val v'+c'*BB ^ (i+b.length)+x*BB ^ i*val (b.take j)=val v+c*BB ^ (i+j)+x*BB ^ i*val b:=by
  intro m
  induction m with
  | zero =>
    intro j c v hm hc hv hl hl2
    have e:j=b.length:=by omega
    subst e
    refine ⟨c,v,aN ?_,hc,hv,rfl,rfl,?_⟩
    · unfold iH;simp only [];rw [if_neg (by omega)]
    · rw [List.take_length]
  | succ m ih =>
    intro j c v hm hc hv hl hl2
    have h1:j < b.length:=by omega
    have h2:i+j < v.length:=by omega
    have d1:=mZ hb h1
    have d2:=mZ hv h2
    obtain ⟨y,hy⟩:∃ y:Nat,b[j]=(y:Int):=⟨(b[j]).toNat,by omega⟩
    obtain ⟨z,hz⟩:∃ z:Nat,v[i+j]=(z:Int):=⟨(v[i+j]).toNat,by omega⟩
    have hxy:x*y≤999999999*999999999:=Nat.mul_le_mul (by omega) (by omega)
    have hxy0:((x:Int)*(y:Int))=((x*y:Nat):Int):=by push_cast;rfl
    have s1:iH b (i:Int) (x:Int) ((c:Int),(j:Int),v)=some (.inl ((((z+x*y+c) / BB:Nat):Int),((j+1:Nat):Int),v.set (i+j) (((z+x*y+c) % BB:Nat):Int))):=by
      unfold iH
      simp only []
      rw [if_pos (by omega),aI h1,wi (by omega),show (i:Int)+(j:Int)=((i+j:Nat):Int) by omega,aI h2]
      simp only [Option.bind_some,aO,iL,hy,hz,hxy0]
      rw [wi (n:=((x*y:Nat):Int)) (by omega),wi (n:=(z:Int)+_) (by omega),wi (n:=(z:Int)+_+_) (by omega),show (z:Int)+((x*y:Nat):Int)+(c:Int)=((z+x*y+c:Nat):Int) by omega,aE7,aE8,wi (by rw [dV];omega),wi (by omega)]
      rfl
    have hm1:=Nat.mod_lt (z+x*y+c) vV
    have hm2:=Nat.mod_add_div (z+x*y+c) BB
    obtain ⟨c',v',e1,e2,e3,e4,e5,e6⟩:=ih (j+1) ((z+x*y+c) / BB) (v.set (i+j) (((z+x*y+c) % BB:Nat):Int)) (by omega) (by rw [dV];omega) (aDK hv _ _ (by rw [dV] at hm1 ⊢;omega)) (by simpa using hl) (by simpa using hl2)
    refine ⟨c',v',by rw [bF s1];exact e1,e2,e3,by simpa using e4,?_,?_⟩
    · rw [e5,List.drop_set_of_lt (by omega)]
    · have hs:=aHl (l:=v) (x:=(((z+x*y+c) % BB:Nat):Int)) h2
      rw [hz] at hs
      simp only [Int.toNat_natCast] at hs
      rw [pU h1,hy,Int.toNat_natCast] at e6
      have f1:x*BB ^ i*(val (b.take j)+BB ^ j*y)=x*BB ^ i*val (b.take j)+BB ^ (i+j)*(x*y):=by
        rw [Nat.mul_add,Nat.pow_add]
        congr 1
        rw [Nat.mul_assoc x,Nat.mul_assoc (BB ^ i),Nat.mul_left_comm x,Nat.mul_left_comm x]
      rw [f1] at e6
      have f2:(z+x*y+c) / BB*BB ^ (i+(j+1))=BB ^ (i+j)*(BB*((z+x*y+c) / BB)):=by
        rw [← Nat.add_assoc,Nat.pow_succ,Nat.mul_comm ((z+x*y+c) / BB),Nat.mul_assoc]
      rw [f2] at e6
      have f3:=congrArg (BB ^ (i+j)*·) hm2
      simp only [Nat.mul_add] at f3
      rw [Nat.mul_comm c]
      omega
theorem xZ {l:List Int} {k:Nat} {x:Int}:(l.set k x).drop (k+1)=l.drop (k+1):=by rw [List.drop_set_of_lt (by omega)]
theorem aKX (a b:List Int) (ha:dgs a) (hb:dgs b) (hla:a.length≤900) (hlb:b.length≤900):∀ (m i:Nat) (v:List Int),m+i=a.length→v.length=a.length+b.length→dgs v→v.drop (i+b.length)=List.replicate m 0→val v=val (a.take i)*val b →
    ∃ v':List Int,lp (nB a b) ((i:Int),v)=some v'∧lp (nQ a b) ((i:Int),v)=some v'∧dgs v'∧v'.length=a.length+b.length∧val v'=val a*val b:=by
  intro m
  induction m with
  | zero =>
    intro i v hm hl hv hz he
    have e:i=a.length:=by omega
    subst e
    rw [List.take_length] at he
    refine ⟨v,aN ?_,aN ?_,hv,hl,he⟩
    · unfold nB;simp only [];rw [if_neg (by omega)]
    · unfold nQ;simp only [];rw [if_neg (by omega)]
  | succ m ih =>
    intro i v hm hl hv hz he
    have h1:i < a.length:=by omega
    have d1:=mZ ha h1
    obtain ⟨x,hx⟩:∃ x:Nat,a[i]=(x:Int):=⟨(a[i]).toNat,by omega⟩
    obtain ⟨c',v',e1,e2,e3,e4,e5,e6⟩:=aKY b i x (by omega) hb (by omega) (by omega) b.length 0 0 v (by omega) (by omega) hv (by omega) (by omega)
    rw [show ((0:Nat):Int)=0 from rfl] at e1
    have h2:i+b.length < v'.length:=by omega
    have hzero:v'[i+b.length]=0:=by
      have q:(v'.drop (i+b.length))[0]?=some 0:=by rw [e5,hz];simp [List.replicate_succ]
      rw [List.getElem?_drop,Nat.add_zero,List.getElem?_eq_getElem h2] at q
      exact Option.some.inj q
    have s1:nB a b ((i:Int),v)=some (.inl (((i+1:Nat):Int),v'.set (i+b.length) (c':Int))):=by
      unfold nB
      simp only []
      rw [if_pos (by omega),aI h1,hx]
      simp only [Option.bind_some]
      rw [e1]
      simp only [Option.bind_some,aO]
      rw [wi (by omega),show (i:Int)+(b.length:Int)=((i+b.length:Nat):Int) by omega,aI h2]
      simp only [Option.bind_some,iL]
      rw [wi (by omega)];rfl
    have s2:nQ a b ((i:Int),v)=some (.inl (((i+1:Nat):Int),v'.set (i+b.length) (c':Int))):=by
      unfold nQ
      simp only []
      rw [if_pos (by omega),aIx a b i h1,hx,e1]
      simp only [Option.bind_some,aO]
      rw [wi (by omega),show (i:Int)+(b.length:Int)=((i+b.length:Nat):Int) by omega,aI h2]
      simp only [Option.bind_some,iL]
      rw [wi (by omega)];rfl
    rw [bF s1,bF s2]
    refine ih (i+1) _ (by omega) (by rw [List.length_set];omega) (aDK e3 _ _ (by omega)) ?_ ?_
    · rw [show i+1+b.length=(i+b.length)+1 by omega,xZ,← List.drop_drop,e5,hz,List.replicate_succ];simp
    · have hs:=aHl (l:=v') (x:=(c':Int)) h2
      rw [hzero] at hs
      simp only [Int.toNat_natCast,Int.toNat_zero,Nat.mul_zero,Nat.add_zero] at hs
      rw [List.take_zero] at e6
      simp only [val,Nat.mul_zero,Nat.zero_mul,Nat.add_zero] at e6
      rw [pU h1,hx,Int.toNat_natCast,Nat.add_mul,← he,hs,Nat.mul_comm (BB ^ (i+b.length)),e6,Nat.mul_comm x]
theorem pH (x y:Nat) (hx:(aB x).length≤900) (hy:(aB y).length≤900):dK (aB x) (aB y)=some (aB (x*y))∧uI (aB x) (aB y)=some (aB (x*y)):=by
  unfold dK uI
  by_cases c1:(aB x).length=0
  · have:x=0:=aF8.1 (List.length_eq_zero_iff.1 c1)
    subst this
    rw [if_pos (by omega)]
    simp [bN]
  · rw [if_neg (by omega)]
    by_cases c2:(aB y).length=0
    · have:y=0:=aF8.1 (List.length_eq_zero_iff.1 c2)
      subst this
      simp [bN]
    · have n2:¬(((aB y).length:Int)=0):=by omega
      simp only [n2,decide_false,Option.bind_some,Bool.false_eq_true,if_false,aO]
      rw [wi (by omega),show ((aB x).length:Int)+((aB y).length:Int)=(((aB x).length+(aB y).length:Nat):Int) by omega,aP (by omega)]
      simp only [Option.bind_some,Int.toNat_natCast]
      obtain ⟨v',e1,e2,e3,e4,e5⟩:=aKX (aB x) (aB y) (eI x) (eI y) hx hy (aB x).length 0 (List.replicate ((aB x).length+(aB y).length) 0) (by omega) (by simp) (aEY _) (by simp) (by simp [aMG,val])
      rw [show ((0:Nat):Int)=0 from rfl] at e1 e2
      rw [dO,dO] at e5
      rw [e1,e2]
      simp only [Option.bind_some]
      rw [yA,aAz e3 (by omega),e5]
      exact ⟨rfl,rfl⟩
end Go.Ev
/- Naturals as limbs: quotients; both programs. -/
namespace Go.Ev
set_option linter.all false
theorem aMY (x y:Nat):(aB (x / y)).length≤(aB x).length:=fM (Nat.div_le_self x y) (Nat.le_refl _)
theorem aKk (x:Nat) {y:Nat} (h:0 < y):(aB (x % y)).length≤(aB y).length:=fM (Nat.le_of_lt (Nat.mod_lt x h)) (Nat.le_refl _)
theorem aIf (x y:Nat):((x:Int)).tdiv (y:Int)=((x / y:Nat):Int):=by
  rw [Int.tdiv_eq_ediv_of_nonneg (by omega)];rfl
theorem aJi (x y:Nat):((x:Int)).tmod (y:Int)=((x % y:Nat):Int):=by
  rw [Int.tmod_eq_emod_of_nonneg (by omega)];rfl
theorem aNd (r:Nat):(r:Int)*1000000000=((r*BB:Nat):Int):=by rw [Int.natCast_mul];rfl
theorem aJk (a:List Int) (d:Nat) (hd:0 < d∧d < 1000000000) (ha:dgs a) (hla:a.length≤1000):∀ (k r:Nat) (v:List Int),k≤a.length→r < d→dgs v→v.length=a.length→val (a.drop k)=d*val (v.drop k)+r→v.take k=List.replicate k 0 →
    ∃ (r':Nat) (v':List Int),lp (kF a (d:Int)) ((r:Int),(k:Int) - 1,v)=some ((r':Int),v')∧r' < d∧dgs v'∧v'.length=a.length∧val a=d*val v'+r':=by
  intro k
  induction k with
  | zero =>
    intro r v hk hr hv hl he ht
    refine ⟨r,v,aN ?_,hr,hv,hl,by simpa using he⟩
    unfold kF;simp only [];rw [if_neg (by omega)]
  | succ k ih =>
    intro r v hk hr hv hl he ht
    have h1:k < a.length:=by omega
    have h2:k < v.length:=by omega
    have d1:=mZ ha h1
    obtain ⟨x,hx⟩:∃ x:Nat,a[k]=(x:Int):=⟨(a[k]).toNat,by omega⟩
    have hn:r*BB+x < d*BB:=by
      have:(r+1)*BB≤d*BB:=Nat.mul_le_mul_right _ hr
      rw [Nat.succ_mul] at this
      have:x < BB:=by rw [dV];omega
      omega
    have hq:(r*BB+x) / d < BB:=by rw [Nat.div_lt_iff_lt_mul hd.1,Nat.mul_comm BB];exact hn
    have hm:=Nat.mod_lt (r*BB+x) hd.1
    have hmd:=Nat.mod_add_div (r*BB+x) d
    have hrB:r*BB≤999999999*1000000000:=Nat.mul_le_mul (by omega) (by rw [dV];omega)
    have t1:=aIf (r*BB+x) d
    have t2:=aJi (r*BB+x) d
    generalize (r*BB+x) / d=Q at hq hmd t1
    generalize (r*BB+x) % d=R at hm hmd t2
    rw [dV] at hq
    have s1:kF a (d:Int) ((r:Int),((k+1:Nat):Int) - 1,v)=some (.inl ((R:Int),(k:Int) - 1,v.set k (Q:Int))):=by
      unfold kF
      simp only []
      rw [show ((k+1:Nat):Int) - 1=(k:Int) by omega,if_pos (by omega),aI h1,hx,aI h2]
      simp only [Option.bind_some,aO,iL]
      rw [aNd,wi (n:=((r*BB:Nat):Int)) (by omega),show ((r*BB:Nat):Int)+(x:Int)=((r*BB+x:Nat):Int) by omega,aP (by omega),wi (n:=((r*BB+x:Nat):Int)) (by omega),t1,t2]
      simp only [Option.bind_some]
      rw [wi (by omega),wi (by omega)]
    obtain ⟨r',v',e1,e2,e3,e4,e5⟩:=ih R (v.set k (Q:Int)) (by omega) hm (aDK hv _ _ (by omega)) (by simpa using hl) (by
        rw [hY h1,hY (l:=v.set k _) (by simpa using h2),List.getElem_set_self,xZ,he,hx,Int.toNat_natCast,Int.toNat_natCast]
        rw [Nat.mul_add,Nat.mul_add d,← Nat.mul_assoc BB d,← Nat.mul_assoc d BB,Nat.mul_comm BB d]
        rw [Nat.mul_comm BB r]
        omega) (by
        rw [List.take_set_of_le (by omega)]
        have:=congrArg (List.take k) ht
        rw [List.take_take,Nat.min_eq_left (by omega),List.take_replicate,Nat.min_eq_left (by omega)] at this
        exact this)
    exact ⟨r',v',by rw [bF s1];exact e1,e2,e3,e4,e5⟩
theorem aC5 {a b q r:Nat} (hb:r < b) (h:a=b*q+r):q=a / b∧r=a % b:=by
  subst h
  constructor
  · rw [Nat.mul_comm,Nat.add_comm,Nat.add_mul_div_right _ _ (by omega),Nat.div_eq_of_lt hb,Nat.zero_add]
  · rw [Nat.add_comm,Nat.add_mul_mod_self_left,Nat.mod_eq_of_lt hb]
theorem aJC (x d:Nat) (hd:0 < d∧d < 1000000000) (hx:(aB x).length≤1000):sQ (aB x) (d:Int)=some (aB (x / d),((x % d:Nat):Int)):=by
  obtain ⟨r',v',e1,e2,e3,e4,e5⟩:=aJk (aB x) d hd (eI x) hx (aB x).length 0 (List.replicate (aB x).length 0) (Nat.le_refl _) hd.1 (aEY _) (by simp) (by rw [fO (Nat.le_refl _),fO (by simp)];rfl) (by simp)
  rw [dO] at e5
  obtain ⟨q1,q2⟩:=aC5 e2 e5
  unfold sQ
  rw [aP (by omega)]
  simp only [Option.bind_some,aO,Int.toNat_natCast]
  rw [show ((0:Nat):Int)=0 from rfl] at e1
  rw [wi (by omega),e1]
  simp only [Option.bind_some]
  rw [aAz e3 (by omega),q1,q2];rfl
theorem aJN (r b:Nat) (hb:0 < b) (hlr:(aB r).length≤800) (hlb:(aB b).length≤800):∀ (m lo hi:Nat),hi - lo≤m→lo≤r / b→r / b≤hi→hi≤999999999→lp (eQ (aB r) (aB b)) ((lo:Int),(hi:Int))=some ((r / b:Nat):Int):=by
  intro m
  induction m with
  | zero =>
    intro lo hi h1 h2 h3 h4
    have:lo=r / b:=by omega
    subst this
    refine aN ?_
    unfold eQ;simp only [];rw [if_neg (by omega)]
  | succ m ih =>
    intro lo hi h1 h2 h3 h4
    by_cases c:lo < hi
    · have hq:((lo:Int)+(hi:Int)+1).tdiv 2=(((lo+hi+1) / 2:Nat):Int):=by
        rw [show (lo:Int)+(hi:Int)+1=((lo+hi+1:Nat):Int) by omega,show (2:Int)=((2:Nat):Int) from rfl,aIf]
      obtain ⟨q,hqe⟩:∃ q,q=(lo+hi+1) / 2:=⟨_,rfl⟩
      have hlq:(aB q).length≤1:=kD (by rw [dV];omega)
      have hlm:(aB (b*q)).length≤900:=by have:=eO b q;omega
      have hc:tL (b*q) r≤0↔q≤r / b:=by
        rw [Nat.le_div_iff_mul_le hb,Nat.mul_comm q b]
        unfold tL
        by_cases c1:b*q < r
        · rw [if_pos c1];constructor <;> intro _ <;> omega
        · rw [if_neg c1]
          by_cases c2:r < b*q
          · rw [if_pos c2];constructor <;> intro _ <;> omega
          · rw [if_neg c2];constructor <;> intro _ <;> omega
      by_cases c2:q≤r / b
      · have s1:eQ (aB r) (aB b) ((lo:Int),(hi:Int))=some (.inl ((q:Int),(hi:Int))):=by
          unfold eQ
          simp only [aO]
          rw [if_pos (by omega),wi (n:=(lo:Int)+hi) (by omega),wi (n:=(lo:Int)+hi+1) (by omega),hq,← hqe,wi (by omega),aA1 _ (by omega)]
          simp only [Option.bind_some]
          rw [(pH b q (by omega) (by omega)).1]
          simp only [Option.bind_some]
          rw [aBK _ _ (by omega) (by omega)]
          simp only [Option.bind_some]
          rw [if_pos (hc.2 c2)]
        rw [bF s1]
        exact ih q hi (by omega) c2 h3 h4
      · have s1:eQ (aB r) (aB b) ((lo:Int),(hi:Int))=some (.inl ((lo:Int),((q - 1:Nat):Int))):=by
          unfold eQ
          simp only [aO]
          rw [if_pos (by omega),wi (n:=(lo:Int)+hi) (by omega),wi (n:=(lo:Int)+hi+1) (by omega),hq,← hqe,wi (n:=(q:Int)) (by omega),aA1 _ (by omega)]
          simp only [Option.bind_some]
          rw [(pH b q (by omega) (by omega)).1]
          simp only [Option.bind_some]
          rw [aBK _ _ (by omega) (by omega)]
          simp only [Option.bind_some]
          rw [if_neg (fun h=>c2 (hc.1 h)),wi (by omega),show (q:Int) - 1=((q - 1:Nat):Int) by omega]
        rw [bF s1]
        exact ih lo (q - 1) (by omega) h2 (by omega) (by omega)
    · have:lo=r / b:=by omega
      subst this
      refine aN ?_
      unfold eQ;simp only [];rw [if_neg (by omega)]
theorem aJD (r b:Nat) (hb:0 < b) (hlr:(aB r).length≤800) (hlb:(aB b).length≤800) (h:r / b≤999999999):sR (aB r) (aB b)=some ((r / b:Nat):Int):=by
  unfold sR
  have:=aJN r b hb hlr hlb 999999999 0 999999999 (by omega) (Nat.zero_le _) h (Nat.le_refl _)
  rw [show ((0:Nat):Int)=0 from rfl,show ((999999999:Nat):Int)=999999999 from rfl] at this
  rw [this];rfl
end Go.Ev
/- Naturals as limbs: quotients of any length; both programs. -/
namespace Go.Ev
set_option linter.all false
theorem aEl {d:Nat} (h:d < BB):(aB d).length≤1:=kD (by simpa using h)
theorem aFZ (x R:Nat) (hx:x < 1000000000) (hl:(aB R).length≤4000):cW ([(x:Int)]++aB R)=some (aB (x+BB*R)):=by
  rw [aAz (by rw [aKB];exact ⟨by intro z hz;simp at hz;omega,eI R⟩) (by simp;omega)]
  rw [List.singleton_append,val,dO,Int.toNat_natCast]
theorem aIl {R b:Nat} (h:R < b*BB):(aB R).length≤(aB b).length+2:=by
  have h1:=eO b BB
  have h2:(aB BB).length≤2:=kD (by rw [dV];omega)
  have h3:=fM (Nat.le_of_lt h) (Nat.le_refl _)
  omega
theorem aKd {x R b:Nat} (hx:x < 1000000000) (hR:R < b):x+BB*R < b*BB:=by
  have:(R+1)*BB≤b*BB:=Nat.mul_le_mul_right _ hR
  rw [Nat.succ_mul,Nat.mul_comm R] at this
  have:x < BB:=by rw [dV];omega
  omega
theorem aHF {R b:Nat} (hb:0 < b) (h:R < b*BB):R / b < BB:=by rw [Nat.div_lt_iff_lt_mul hb,Nat.mul_comm BB];exact h
theorem aMg (a:List Int) (b:Nat) (hb:0 < b) (hlb:(aB b).length≤700) (ha:dgs a) (hla:a.length≤1000):∀ (k R:Nat) (v:List Int),k≤a.length→R < b→dgs v→v.length=a.length→val (a.drop k)=b*val (v.drop k)+R→v.take k=List.replicate k 0 →
    ∃ (R':Nat) (v':List Int),lp (nC a (aB b)) (aB R,(k:Int) - 1,v)=some (aB R',v')∧R' < b∧dgs v'∧v'.length=a.length∧val a=b*val v'+R':=by
  intro k
  induction k with
  | zero =>
    intro R v hk hr hv hl he ht
    refine ⟨R,v,aN ?_,hr,hv,hl,by simpa using he⟩
    unfold nC;simp only [];rw [if_neg (by omega)]
  | succ k ih =>
    intro R v hk hr hv hl he ht
    have h1:k < a.length:=by omega
    have h2:k < v.length:=by omega
    have d1:=mZ ha h1
    obtain ⟨x,hx⟩:∃ x:Nat,a[k]=(x:Int):=⟨(a[k]).toNat,by omega⟩
    have hx2:x < 1000000000:=by omega
    have hn:=aKd hx2 hr
    have hq:=aHF hb hn
    have hm:=Nat.mod_lt (x+BB*R) hb
    have hmd:=Nat.mod_add_div (x+BB*R) b
    have hlR:(aB R).length≤(aB b).length:=fM (Nat.le_of_lt hr) (Nat.le_refl _)
    have hlR2:=aIl hn
    have hv0:v[k]=0:=by
      have q:(v.take (k+1))[k]?=some 0:=by rw [ht];simp
      rw [List.getElem?_take_of_lt (by omega),List.getElem?_eq_getElem h2] at q
      exact Option.some.inj q
    obtain ⟨Q,hQ⟩:∃ Q,Q=(x+BB*R) / b:=⟨_,rfl⟩
    obtain ⟨M,hM⟩:∃ M,M=(x+BB*R) % b:=⟨_,rfl⟩
    have hq':(x+BB*R) / b < 1000000000:=Nat.lt_of_lt_of_eq hq dV
    have hq2:Q < 1000000000:=by rw [hQ];exact hq'
    have s1:nC a (aB b) (aB R,((k+1:Nat):Int) - 1,v)=some (.inl (aB M,(k:Int) - 1,v.set k (Q:Int))):=by
      unfold nC
      simp only []
      rw [show ((k+1:Nat):Int) - 1=(k:Int) by omega,if_pos (by omega),aI h1,hx,aI h2]
      simp only [Option.bind_some,aO,iL]
      rw [aP (by simp;omega)]
      simp only [Option.bind_some]
      rw [aFZ x R hx2 (by omega)]
      simp only [Option.bind_some]
      rw [aBK _ _ (by omega) (by omega)]
      simp only [Option.bind_some]
      by_cases c:x+BB*R < b
      · have e1:Q=0:=by rw [hQ,Nat.div_eq_of_lt c]
        have e2:M=x+BB*R:=by rw [hM,Nat.mod_eq_of_lt c]
        have e3:v.set k ((0:Nat):Int)=v:=by
          apply List.ext_getElem
          · simp
          · intro i q1 q2
            rw [List.getElem_set]
            split
            · rename_i h;subst h;exact hv0.symm
            · rfl
        rw [e1,e2,e3,if_pos (by unfold tL;rw [if_pos c];omega),wi (by omega)]
      · have hcm:¬tL (x+BB*R) b < 0:=by
          unfold tL;rw [if_neg c];split <;> omega
        rw [if_neg hcm,aJD _ b hb (by omega) (by omega) (by omega)]
        simp only [Option.bind_some]
        rw [← hQ,aA1 _ (by omega)]
        simp only [Option.bind_some]
        have hl1:(aB Q).length≤1:=aEl (by rw [dV];omega)
        rw [(pH b Q (by omega) (by omega)).1]
        simp only [Option.bind_some]
        rw [← hM,← hQ] at hmd
        rw [(aAg (x+BB*R) (b*Q) (by omega) (by omega)).1]
        simp only [Option.bind_some]
        rw [show x+BB*R - b*Q=M by omega,wi (by omega)]
    obtain ⟨R',v',e1,e2,e3,e4,e5⟩:=ih M (v.set k (Q:Int)) (by omega) (by rw [hM];exact hm) (aDK hv _ _ (by omega)) (by simpa using hl) (by
        rw [hY h1,hY (l:=v.set k _) (by simpa using h2),List.getElem_set_self,xZ,he,hx,Int.toNat_natCast,Int.toNat_natCast]
        rw [Nat.mul_add,Nat.mul_add b,← Nat.mul_assoc BB b,← Nat.mul_assoc b BB,Nat.mul_comm BB b]
        rw [← hM,← hQ] at hmd
        omega) (by
        rw [List.take_set_of_le (by omega)]
        have:=congrArg (List.take k) ht
        rw [List.take_take,Nat.min_eq_left (by omega),List.take_replicate,Nat.min_eq_left (by omega)] at this
        exact this)
    exact ⟨R',v',by rw [bF s1];exact e1,e2,e3,e4,e5⟩
theorem aFR (x b:Nat) (hb:0 < b) (hx:(aB x).length≤700) (hlb:(aB b).length≤700):lP (aB x) (aB b)=some (aB (x / b),aB (x % b)):=by
  unfold lP
  by_cases c:(aB b).length=1
  · rw [if_pos (by omega)]
    have hbB:b < BB:=by have:=qD b;rw [c,Nat.pow_one] at this;exact this
    have e:=vM hbB (by omega)
    rw [show (0:Int)=((0:Nat):Int) from rfl,aI (by omega)]
    simp only [e,List.getElem_cons_zero,Option.bind_some]
    rw [dV] at hbB
    rw [aJC x b ⟨hb,by omega⟩ (by omega)]
    simp only [Option.bind_some]
    have:=Nat.mod_lt x hb
    rw [aA1 _ (by omega)];rfl
  · rw [if_neg (by omega),aP (by omega)]
    simp only [Option.bind_some,aO,Int.toNat_natCast]
    obtain ⟨r',v',e1,e2,e3,e4,e5⟩:=aMg (aB x) b hb hlb (eI x) (by omega) (aB x).length 0 (List.replicate (aB x).length 0) (Nat.le_refl _) hb (aEY _) (by simp) (by rw [fO (Nat.le_refl _),fO (by simp)];rfl) (by simp)
    rw [dO] at e5
    rw [bN] at e1
    obtain ⟨q1,q2⟩:=aC5 e2 e5
    rw [wi (by omega),e1]
    simp only [Option.bind_some]
    rw [aAz e3 (by omega),q1,q2];rfl
theorem aMV (R b:Nat) (hb:0 < b) (hR:b≤R) (h:R < b*BB) (hlb:(aB b).length≤700):∃ g:Nat,tF (aB R) (aB b)=some (g:Int)∧1≤g∧b*g≤R:=by
  obtain ⟨m,hm⟩:∃ m,(aB b).length=m+1:=by
    have:(aB b).length≠0:=fun e=>eE (n:=b) (by omega) (List.length_eq_zero_iff.1 e)
    exact ⟨(aB b).length - 1,by omega⟩
  have hbl:=qD b
  rw [hm,Nat.pow_succ] at hbl
  have hr1:m+1≤(aB R).length:=by rw [← hm];exact fM hR (Nat.le_refl _)
  have hRl:R < BB ^ m*BB*BB:=Nat.lt_of_lt_of_le h (Nat.mul_le_mul_right _ (Nat.le_of_lt hbl))
  have hr2:(aB R).length≤m+2:=kD (by rw [Nat.pow_succ,Nat.pow_succ];exact hRl)
  have hp:=aLM m
  have hbt:b / BB ^ m < BB:=by rw [Nat.div_lt_iff_lt_mul hp,Nat.mul_comm BB];exact hbl
  have hT:R / BB ^ m < BB*BB:=by rw [Nat.div_lt_iff_lt_mul hp,Nat.mul_comm (BB*BB),← Nat.mul_assoc];exact hRl
  have hbd:b < BB ^ m*(b / BB ^ m+1):=Nat.lt_mul_div_succ b hp
  have hTd:BB ^ m*(R / BB ^ m)≤R:=Nat.mul_div_le R _
  have hi1:m < (aB R).length:=by omega
  have hi2:m < (aB b).length:=by omega
  have g1:=aBS hi1
  have g2:=aBS hi2
  rw [Nat.mod_eq_of_lt hbt] at g2
  unfold tF
  simp only [aO]
  rw [hm,wi (by omega),show (((m+1:Nat):Int) - 1)=(m:Int) by omega,aI hi1,aI hi2,g1,g2]
  simp only [Option.bind_some]
  have top:((if (((m+1:Nat):Int) < ((aB R).length:Int)) then (idx (aB R) ((m+1:Nat):Int)).bind fun y3=>some (IntKind.i64.wrap (((R / BB ^ m % BB:Nat):Int)+IntKind.i64.wrap (y3*1000000000))) else some ((R / BB ^ m % BB:Nat):Int)):Option Int)=some ((R / BB ^ m:Nat):Int):=by
    have hmod:=Nat.mod_add_div (R / BB ^ m) BB
    by_cases c:m+1 < (aB R).length
    · have g3:=aBS c
      rw [Nat.pow_succ,← Nat.div_div_eq_div_mul] at g3
      have h3:R / BB ^ m / BB < BB:=by rw [Nat.div_lt_iff_lt_mul vV];exact hT
      rw [Nat.mod_eq_of_lt h3] at g3
      rw [if_pos (by omega),aI c,g3]
      simp only [Option.bind_some]
      generalize R / BB ^ m=T at hT hmod h3 ⊢
      have h4:T % BB < BB:=Nat.mod_lt _ vV
      generalize T % BB=T0 at hmod h4 ⊢
      generalize T / BB=T1 at hmod h3 ⊢
      rw [aNd,Nat.mul_comm T1]
      rw [dV] at hT
      rw [wi (n:=((BB*T1:Nat):Int)) (by omega),wi (by omega)];congr 1;omega
    · have e:(aB R).length=m+1:=by omega
      have h3:R / BB ^ m < BB:=by
        rw [Nat.div_lt_iff_lt_mul hp,Nat.mul_comm BB,← Nat.pow_succ]
        have:=qD R
        rwa [e] at this
      rw [if_neg (by omega),Nat.mod_eq_of_lt h3]
  rw [top]
  simp only [Option.bind_some]
  by_cases c:m=0
  · subst c
    rw [if_pos (by omega),show (0:Int)=((0:Nat):Int) from rfl,aI hi2,g2]
    simp only [Nat.pow_zero,Nat.div_one,Option.bind_some]
    rw [aP (by omega),aIf]
    have hq:=aHF hb h
    rw [dV] at hq
    generalize hQ:R / b=Q at hq
    refine ⟨Q,by simp only [Option.bind_some];rw [wi (by omega)],?_,?_⟩
    · rw [← hQ,Nat.le_div_iff_mul_le hb];omega
    · rw [← hQ];exact Nat.mul_div_le R b
  · rw [if_neg (by omega)]
    generalize b / BB ^ m=t at hbt hbd ⊢
    generalize R / BB ^ m=T at hT hTd ⊢
    rw [dV] at hbt
    rw [wi (n:=(t:Int)+1) (by omega),aP (by omega),show (t:Int)+1=((t+1:Nat):Int) by omega,aIf]
    have hg:=Nat.div_mul_le_self T (t+1)
    have hgT:T / (t+1)≤T:=Nat.div_le_self _ _
    generalize T / (t+1)=G at hg hgT ⊢
    rw [dV] at hT
    simp only [Option.bind_some]
    rw [wi (by omega)]
    by_cases c2:G=0
    · subst c2
      exact ⟨1,by rw [if_pos (by omega)];rfl,Nat.le_refl _,by omega⟩
    · refine ⟨G,by rw [if_neg (by omega)],by omega,?_⟩
      have e1:G*b≤G*(BB ^ m*(t+1)):=Nat.mul_le_mul_left _ (Nat.le_of_lt hbd)
      have e2:BB ^ m*(G*(t+1))≤BB ^ m*T:=Nat.mul_le_mul_left _ hg
      rw [Nat.mul_left_comm] at e2
      rw [Nat.mul_comm b];omega
theorem aJM (b:Nat) (hb:0 < b) (hlb:(aB b).length≤700) (k:Nat):∀ (R q0:Nat) (v:List Int),R < b*BB→k < v.length→v[k]?=some (q0:Int)→q0+R / b≤999999999 →
    lp (nT (aB b) (k:Int)) (aB R,v)=some (aB (R % b),v.set k ((q0+R / b:Nat):Int)):=by
  intro R
  induction R using Nat.strongRecOn with
  | _ R ih =>
    intro q0 v hR hk hv hq
    have hl:=aIl hR
    by_cases c:R < b
    · rw [Nat.div_eq_of_lt c,Nat.mod_eq_of_lt c,Nat.add_zero]
      have:v.set k (q0:Int)=v:=by
        apply List.ext_getElem
        · simp
        · intro i p1 p2
          rw [List.getElem_set]
          split
          · rename_i h;subst h
            rw [List.getElem?_eq_getElem hk] at hv;exact (Option.some.inj hv).symm
          · rfl
      rw [this]
      refine aN ?_
      unfold nT
      simp only []
      rw [aFB _ _ (by omega) (by omega)]
      simp only [Option.bind_some]
      rw [if_neg (by unfold tL;rw [if_pos c];omega)]
    · obtain ⟨g,e1,e2,e3⟩:=aMV R b hb (by omega) hR hlb
      have hgq:g≤R / b:=by rw [Nat.le_div_iff_mul_le hb,Nat.mul_comm];exact e3
      have hdiv:(R - b*g) / b=R / b - g:=by rw [Nat.sub_mul_div]
      have hmod:(R - b*g) % b=R % b:=Nat.sub_mul_mod (by omega)
      have hbg:b≤b*g:=Nat.le_mul_of_pos_right _ e2
      generalize R / b=Q at hq hgq hdiv ⊢
      have hd:([(g:Int)]:List Int)=aB g:=(vM (by rw [dV];omega) (by omega)).symm
      have hl1:(aB g).length≤1:=aEl (by rw [dV];omega)
      have s1:nT (aB b) (k:Int) (aB R,v)=some (.inl (aB (R - b*g),v.set k ((q0+g:Nat):Int))):=by
        unfold nT
        simp only []
        rw [aFB _ _ (by omega) (by omega)]
        simp only [Option.bind_some]
        rw [if_pos (by unfold tL;rw [if_neg c];split <;> omega),e1]
        simp only [Option.bind_some]
        rw [hd,(pH b g (by omega) (by omega)).2]
        simp only [Option.bind_some]
        rw [(aAg R (b*g) (by omega) e3).2]
        simp only [Option.bind_some]
        rw [aDH,hv]
        simp only [Option.bind_some,aO,iL]
        rw [wi (by omega)];rfl
      rw [bF s1,ih (R - b*g) (by omega) (q0+g) _ (by omega) (by simpa using hk) (by rw [List.getElem?_set_self hk]) (by rw [hdiv];omega),hmod,hdiv,List.set_set]
      congr 3;congr 1;omega
theorem aLh (a:List Int) (b:Nat) (hb:0 < b) (hlb:(aB b).length≤700) (ha:dgs a) (hla:a.length≤1000):∀ (k R:Nat) (v:List Int),k≤a.length→R < b→dgs v→v.length=a.length→val (a.drop k)=b*val (v.drop k)+R→v.take k=List.replicate k 0 →
    ∃ (R':Nat) (v':List Int),lp (nR a (aB b)) (aB R,(k:Int) - 1,v)=some (aB R',v')∧R' < b∧dgs v'∧v'.length=a.length∧val a=b*val v'+R':=by
  intro k
  induction k with
  | zero =>
    intro R v hk hr hv hl he ht
    refine ⟨R,v,aN ?_,hr,hv,hl,by simpa using he⟩
    unfold nR;simp only [];rw [if_neg (by omega)]
  | succ k ih =>
    intro R v hk hr hv hl he ht
    have h1:k < a.length:=by omega
    have h2:k < v.length:=by omega
    have d1:=mZ ha h1
    obtain ⟨x,hx⟩:∃ x:Nat,a[k]=(x:Int):=⟨(a[k]).toNat,by omega⟩
    have hx2:x < 1000000000:=by omega
    have hn:=aKd hx2 hr
    have hq:=aHF hb hn
    have hm:=Nat.mod_lt (x+BB*R) hb
    have hmd:=Nat.mod_add_div (x+BB*R) b
    have hlR:(aB R).length≤(aB b).length:=fM (Nat.le_of_lt hr) (Nat.le_refl _)
    have hv0:v[k]?=some ((0:Nat):Int):=by
      have q:(v.take (k+1))[k]?=some 0:=by rw [ht];simp
      rw [List.getElem?_take_of_lt (by omega)] at q
      exact q
    have hq':(x+BB*R) / b < 1000000000:=Nat.lt_of_lt_of_eq hq dV
    clear hq
    have inn:=aJM b hb hlb k (x+BB*R) 0 v hn h2 hv0 (by omega)
    rw [Nat.zero_add] at inn
    generalize (x+BB*R) / b=Q at hq' hmd inn
    generalize (x+BB*R) % b=M at hm hmd inn
    have s1:nR a (aB b) (aB R,((k+1:Nat):Int) - 1,v)=some (.inl (aB M,(k:Int) - 1,v.set k (Q:Int))):=by
      unfold nR
      simp only []
      rw [show ((k+1:Nat):Int) - 1=(k:Int) by omega,if_pos (by omega),aI h1,hx]
      simp only [Option.bind_some,aO]
      rw [aP (by simp;omega)]
      simp only [Option.bind_some]
      rw [yA,aFZ x R hx2 (by omega)]
      simp only [Option.bind_some]
      rw [inn]
      simp only [Option.bind_some]
      rw [wi (by omega)]
    obtain ⟨R',v',e1,e2,e3,e4,e5⟩:=ih M (v.set k (Q:Int)) (by omega) hm (aDK hv _ _ (by omega)) (by simpa using hl) (by
        rw [hY h1,hY (l:=v.set k _) (by simpa using h2),List.getElem_set_self,xZ,he,hx,Int.toNat_natCast,Int.toNat_natCast]
        rw [Nat.mul_add,Nat.mul_add b,← Nat.mul_assoc BB b,← Nat.mul_assoc b BB,Nat.mul_comm BB b]
        omega) (by
        rw [List.take_set_of_le (by omega)]
        have:=congrArg (List.take k) ht
        rw [List.take_take,Nat.min_eq_left (by omega),List.take_replicate,Nat.min_eq_left (by omega)] at this
        exact this)
    exact ⟨R',v',by rw [bF s1];exact e1,e2,e3,e4,e5⟩
theorem aLu:∀ (l:List Int),dgs l→l.length≤2→fL l=some (val l:Int)
  | [],_,_=>by
    unfold fL
    simp only [aO,List.length_nil]
    rw [wi (by omega),aN (r:=0) (by unfold dF;simp)];rfl
  | [d],h,_=>by
    rw [nX] at h
    unfold fL
    simp only [aO,List.length_cons,List.length_nil]
    have s1:dF [d] (0,((0:Nat):Int))=some (.inl (d,-1)):=by
      unfold dF
      simp only []
      rw [if_pos (by omega),aI (by simp)]
      simp only [Option.bind_some,aO,List.getElem_cons_zero]
      rw [wi (n:=0*1000000000) (by omega),wi (by omega),wi (by omega)]
      simp
    rw [wi (by omega),show (((0+1:Nat):Int) - 1)=((0:Nat):Int) by omega,bF s1,aN (r:=d) (by unfold dF;simp)]
    simp [val] <;> omega
  | [d,e],h,_=>by
    rw [nX,nX] at h
    unfold fL
    simp only [aO,List.length_cons,List.length_nil]
    have s1:dF [d,e] (0,((1:Nat):Int))=some (.inl (e,((0:Nat):Int))):=by
      unfold dF
      simp only []
      rw [if_pos (by omega),aI (by simp)]
      simp only [Option.bind_some,aO,List.getElem_cons_zero,List.getElem_cons_succ]
      rw [wi (n:=0*1000000000) (by omega),wi (by omega),wi (by omega)]
      simp
    have s2:dF [d,e] (e,((0:Nat):Int))=some (.inl (e*1000000000+d,-1)):=by
      unfold dF
      simp only []
      rw [if_pos (by omega),aI (by simp)]
      simp only [Option.bind_some,aO,List.getElem_cons_zero]
      rw [wi (n:=e*1000000000) (by omega),wi (by omega),wi (by omega)]
      rfl
    rw [wi (by omega),show (((0+1+1:Nat):Int) - 1)=((1:Nat):Int) by omega,bF s1,bF s2,aN (r:=e*1000000000+d) (by unfold dF;simp)]
    simp only [Option.bind_some,val,dV,Nat.mul_zero,Nat.add_zero]
    congr 1;omega
  | _::_::_::_,_,h=>by simp at h <;> omega
theorem aDc (x:Nat) (h:(aB x).length≤2):fL (aB x)=some (x:Int):=by rw [aLu _ (eI x) h,dO]
theorem wB {x:Nat} (h:(aB x).length≤2):x < 1000000000000000000:=by
  have h1:=qD x
  have h2:BB ^ (aB x).length≤BB ^ 2:=Nat.pow_le_pow_right vV h
  have h3:BB ^ 2=1000000000000000000:=by rw [dV]
  omega
theorem aFA (x b:Nat) (hb:0 < b) (hx:(aB x).length≤700) (hlb:(aB b).length≤700):rL (aB x) (aB b)=some (aB (x / b),aB (x % b)):=by
  unfold rL
  by_cases c:(aB x).length≤2∧(aB b).length≤2
  · have h1:=wB c.1
    have h2:=wB c.2
    have n1:((aB x).length:Int)≤2:=by omega
    have n2:((aB b).length:Int)≤2:=by omega
    simp only [n1,n2,if_true,decide_true,Option.bind_some]
    rw [aDc x c.1,aDc b c.2]
    simp only [Option.bind_some,aO]
    have q1:=Nat.div_le_self x b
    have q2:=Nat.mod_le x b
    rw [aP (by omega),aIf,aJi]
    generalize x / b=Q at q1 ⊢
    generalize x % b=M at q2 ⊢
    simp only [Option.bind_some]
    rw [wi (by omega),wu (by omega),wu (by omega),xK Q (by omega),xK M (by omega)]
    rfl
  · have:((if ((aB x).length:Int)≤2 then some (decide (((aB b).length:Int)≤2)) else some false):Option Bool)=some false:=by
      by_cases c1:(aB x).length≤2
      · have c2:¬(aB b).length≤2:=fun h=>c ⟨c1,h⟩
        rw [if_pos (by omega),decide_eq_false (by omega)]
      · rw [if_neg (by omega)]
    rw [this]
    simp only [Option.bind_some,Bool.false_eq_true,if_false,aO]
    rw [aP (by omega)]
    simp only [Option.bind_some,Int.toNat_natCast]
    obtain ⟨r',v',e1,e2,e3,e4,e5⟩:=aLh (aB x) b hb hlb (eI x) (by omega) (aB x).length 0 (List.replicate (aB x).length 0) (Nat.le_refl _) hb (aEY _) (by simp) (by rw [fO (Nat.le_refl _),fO (by simp)];rfl) (by simp)
    rw [dO] at e5
    rw [bN] at e1
    obtain ⟨q1,q2⟩:=aC5 e2 e5
    rw [wi (by omega),e1]
    simp only [Option.bind_some]
    rw [yA,aAz e3 (by omega),q1,q2];rfl
end Go.Ev
/- Naturals as limbs: greatest common divisors, and which lists are naturals; both programs. -/
namespace Go.Ev
set_option linter.all false
theorem aFY (x y:Nat):Nat.gcd x y=Nat.gcd y (x % y):=by rw [Nat.gcd_comm x y,Nat.gcd_rec y x,Nat.gcd_comm]
theorem aFt:∀ (y x:Nat),lp kY ((x:Int),(y:Int))=some ((Nat.gcd x y:Nat):Int):=by
  intro y
  induction y using Nat.strongRecOn with
  | _ y ih =>
    intro x
    by_cases c:y=0
    · subst c
      rw [Nat.gcd_zero_right]
      exact aN (by unfold kY;simp)
    · have s1:kY ((x:Int),(y:Int))=some (.inl ((y:Int),((x % y:Nat):Int))):=by
        unfold kY
        simp only []
        rw [if_pos (by omega),aP (by omega),aJi];rfl
      rw [bF s1,ih (x % y) (Nat.mod_lt _ (by omega)),← aFY]
theorem aJp:vZ=kY:=rfl
theorem aIK {x y:Nat} (hx:x < 1000000000000000000) (hy:y < 1000000000000000000):Nat.gcd x y < 1000000000000000000:=by
  by_cases c:x=0
  · subst c;rw [Nat.gcd_zero_left];exact hy
  · have:=Nat.gcd_le_left y (Nat.pos_of_ne_zero c);omega
theorem aK5:∀ (y x:Nat),(aB x).length≤700→(aB y).length≤700→∃ r,lp kX (aB x,aB y)=some r∧(r=.inl (aB (Nat.gcd x y))∨r=.inr (aB (Nat.gcd x y))):=by
  intro y
  induction y using Nat.strongRecOn with
  | _ y ih =>
    intro x hx hy
    by_cases c:y=0
    · subst c
      rw [Nat.gcd_zero_right]
      refine ⟨.inl (aB x),aN ?_,.inl rfl⟩
      unfold kX
      simp [bN]
    · have hy0:(aB y).length≠0:=fun e=>eE c (List.length_eq_zero_iff.1 e)
      by_cases c2:(aB x).length≤2∧(aB y).length≤2
      · refine ⟨.inr (aB (Nat.gcd x y)),aN ?_,.inr rfl⟩
        have h1:=wB c2.1
        have h2:=wB c2.2
        have h3:=aIK h1 h2
        have n1:((aB x).length:Int)≤2:=by omega
        have n2:((aB y).length:Int)≤2:=by omega
        unfold kX
        simp only [n1,n2,if_true,decide_true,Option.bind_some]
        rw [if_pos (by omega),aDc x c2.1,aDc y c2.2]
        simp only [Option.bind_some]
        rw [aFt]
        simp only [Option.bind_some]
        rw [wu (by omega),xK _ (by omega)];rfl
      · have s1:kX (aB x,aB y)=some (.inl (aB y,aB (x % y))):=by
          unfold kX
          simp only []
          have:((if ((aB x).length:Int)≤2 then some (decide (((aB y).length:Int)≤2)) else some false):Option Bool)=some false:=by
            by_cases c1:(aB x).length≤2
            · have c2:¬(aB y).length≤2:=fun h=>c2 ⟨c1,h⟩
              rw [if_pos (by omega),decide_eq_false (by omega)]
            · rw [if_neg (by omega)]
          rw [if_pos (by omega),this]
          simp only [Option.bind_some,Bool.false_eq_true,if_false]
          rw [aFA x y (by omega) hx hy];rfl
        rw [bF s1,aFY x y]
        exact ih (x % y) (Nat.mod_lt _ (by omega)) y hy (by have:=aKk x (y:=y) (by omega);omega)
theorem aIw (x y:Nat) (hx:(aB x).length≤700) (hy:(aB y).length≤700):uJ (aB x) (aB y)=some (aB (Nat.gcd x y)):=by
  unfold uJ
  obtain ⟨r,e1,e2⟩:=aK5 y x hx hy
  have hl:(aB (Nat.gcd x y)).length≤700:=by
    by_cases c:x=0
    · subst c;rw [Nat.gcd_zero_left];exact hy
    · exact Nat.le_trans (fM (Nat.gcd_le_left y (Nat.pos_of_ne_zero c)) (Nat.le_refl _)) hx
  rw [e1]
  rcases e2 with rfl | rfl
  · simp only [Option.bind_some]
    unfold eM
    rw [aP (by simp;omega)];rfl
  · rfl
instance (l:List Int):Decidable (dgs l):=by unfold dgs;infer_instance
def vX (l:List Int):Prop:=dgs l∧l.length≤60∧l.getLast?≠some 0
instance (l:List Int):Decidable (vX l):=by unfold vX;infer_instance
theorem aKW {l:List Int} (h:vX l):nat l:=⟨h.1,h.2.2⟩
theorem oJ {l:List Int} (h:vX l):l=aB (val l):=aAK (aKW h)
theorem aDn {x:Nat} (h:(aB x).length≤60):vX (aB x):=⟨eI x,h,aBR x⟩
theorem aLS (l:List Int) (hl:l.length≤4294967296):∀ m k:Nat,m+k=l.length→lp (mU l) (k:Int)=some (if dgs (l.drop k) then .inl () else .inr false):=by
  intro m
  induction m with
  | zero =>
    intro k hk
    rw [if_pos (by rw [List.drop_eq_nil_of_le (by omega)];exact aCb)]
    exact aN (by unfold mU;rw [if_neg (by omega)])
  | succ m ih =>
    intro k hk
    have hlt:k < l.length:=by omega
    by_cases c:0≤l[k]∧l[k] < 1000000000
    · have s1:mU l (k:Int)=some (.inl ((k+1:Nat):Int)):=by
        unfold mU
        have n1:¬l[k] < 0:=by omega
        have n2:¬1000000000≤l[k]:=by omega
        rw [if_pos (by omega),aI hlt,wi (by omega)]
        simp [n1,n2]
      rw [bF s1,ih (k+1) (by omega)]
      have hd:dgs (l.drop k)↔dgs (l.drop (k+1)):=by rw [List.drop_eq_getElem_cons hlt,nX];exact ⟨fun h=>h.2,fun h=>⟨c,h⟩⟩
      simp only [hd]
    · have h2:¬dgs (l.drop k):=by rw [List.drop_eq_getElem_cons hlt,nX];exact fun h=>c h.1
      rw [if_neg h2]
      refine aN ?_
      unfold mU
      rw [if_pos (by omega),aI hlt]
      simp only [Option.bind_some]
      by_cases n1:l[k] < 0
      · rw [if_pos n1];rfl
      · rw [if_neg n1,decide_eq_true (by omega)];rfl
theorem aDF (a b c:Int):qU a b c=some (decide (b≤a∧a≤c)):=by
  unfold qU
  by_cases h:b≤a <;> simp [h]
theorem aLR (l:List Int) (hl:l.length≤4294967296):∀ m k:Nat,m+k=l.length→lp (mO l) (k:Int)=some (if dgs (l.drop k) then .inl () else .inr false):=by
  intro m
  induction m with
  | zero =>
    intro k hk
    rw [if_pos (by rw [List.drop_eq_nil_of_le (by omega)];exact aCb)]
    exact aN (by unfold mO;rw [if_neg (by omega)])
  | succ m ih =>
    intro k hk
    have hlt:k < l.length:=by omega
    by_cases c:0≤l[k]∧l[k] < 1000000000
    · have s1:mO l (k:Int)=some (.inl ((k+1:Nat):Int)):=by
        unfold mO
        rw [if_pos (by omega),aI hlt,wi (by omega)]
        simp only [Option.bind_some]
        rw [aDF,decide_eq_true (by omega)];rfl
      rw [bF s1,ih (k+1) (by omega)]
      have hd:dgs (l.drop k)↔dgs (l.drop (k+1)):=by rw [List.drop_eq_getElem_cons hlt,nX];exact ⟨fun h=>h.2,fun h=>⟨c,h⟩⟩
      simp only [hd]
    · have h2:¬dgs (l.drop k):=by rw [List.drop_eq_getElem_cons hlt,nX];exact fun h=>c h.1
      rw [if_neg h2]
      refine aN ?_
      unfold mO
      rw [if_pos (by omega),aI hlt]
      simp only [Option.bind_some]
      rw [aDF,decide_eq_false (by omega)];rfl
theorem aKh (l:List Int) (hl:l.length≤4294967296) (h:l.length≠0):(idx l (IntKind.i64.wrap ((l.length:Int) - 1))).bind (fun y=>some (decide (y≠0)))=some (decide (l.getLast?≠some 0)):=by
  have hlt:l.length - 1 < l.length:=by omega
  rw [wi (by omega),show (l.length:Int) - 1=((l.length - 1:Nat):Int) by omega,aI hlt,List.getLast?_eq_getElem?,List.getElem?_eq_getElem hlt]
  simp
theorem aI7 (l:List Int) (hl:l.length≤4294967296):wO l=some (decide (vX l)):=by
  unfold wO
  by_cases c:60 < l.length
  · have:¬vX l:=fun h=>by have:=h.2.1;omega
    rw [if_pos (by omega),decide_eq_false this]
  · have:=aLS l hl l.length 0 (by omega)
    rw [show ((0:Nat):Int)=0 from rfl,List.drop_zero] at this
    rw [if_neg (by omega),this]
    by_cases d:dgs l
    · rw [if_pos d]
      simp only [Option.bind_some]
      by_cases z:l.length=0
      · have e:l=[]:=List.length_eq_zero_iff.1 z
        subst e
        rw [if_pos (by simp),decide_eq_true ⟨aCb,by simp,by simp⟩]
      · rw [if_neg (by omega),aO,aKh l hl z]
        congr 1
        exact decide_eq_decide.2 ⟨fun h=>⟨d,by omega,h⟩,fun h=>h.2.2⟩
    · have:¬vX l:=fun h=>d h.1
      rw [if_neg d,decide_eq_false this];rfl
theorem aGo (l:List Int) (hl:l.length≤4294967296):tW l=some (decide (vX l)):=by
  unfold tW
  have:=aLR l hl l.length 0 (by omega)
  rw [show ((0:Nat):Int)=0 from rfl,List.drop_zero] at this
  rw [this]
  by_cases d:dgs l
  · rw [if_pos d]
    simp only [Option.bind_some]
    by_cases c:60 < l.length
    · have:¬vX l:=fun h=>by have:=h.2.1;omega
      rw [if_neg (by omega),decide_eq_false this]
    · rw [if_pos (by omega)]
      by_cases z:l.length=0
      · have e:l=[]:=List.length_eq_zero_iff.1 z
        subst e
        rw [if_pos (by simp),decide_eq_true ⟨aCb,by simp,by simp⟩]
      · rw [if_neg (by omega),aO,aKh l hl z]
        congr 1
        exact decide_eq_decide.2 ⟨fun h=>⟨d,by omega,h⟩,fun h=>h.2.2⟩
  · have:¬vX l:=fun h=>d h.1
    rw [if_neg d,decide_eq_false this];rfl
theorem aJz:([854775807,223372036,9]:List Int)=aB 9223372036854775807:=by
  have h1:dgs [854775807,223372036,9]:=by intro d hd;simp at hd;omega
  have:=aAK (l:=[854775807,223372036,9]) ⟨h1,by simp⟩
  rw [this];rfl
theorem aJh:∀ (l:List Int),dgs l→l.length≤2→lp (cR l) (0,(l.length:Int) - 1)=some (val l:Int)
  | [],_,_=>by
    rw [aN (r:=0) (by unfold cR;simp)];rfl
  | [d],h,_=>by
    rw [nX] at h
    have s1:cR [d] (0,((0:Nat):Int))=some (.inl (d,-1)):=by
      unfold cR
      simp only []
      rw [if_pos (by omega),aI (by simp)]
      simp only [Option.bind_some,aO,List.getElem_cons_zero]
      rw [wi (n:=0*1000000000) (by omega),wi (by omega),wi (by omega)]
      simp
    rw [show ((([d]:List Int).length:Int) - 1)=((0:Nat):Int) by simp,bF s1,aN (r:=d) (by unfold cR;simp)]
    simp [val] <;> omega
  | [d,e],h,_=>by
    rw [nX,nX] at h
    have s1:cR [d,e] (0,((1:Nat):Int))=some (.inl (e,((0:Nat):Int))):=by
      unfold cR
      simp only []
      rw [if_pos (by omega),aI (by simp)]
      simp only [Option.bind_some,aO,List.getElem_cons_zero,List.getElem_cons_succ]
      rw [wi (n:=0*1000000000) (by omega),wi (by omega),wi (by omega)]
      simp
    have s2:cR [d,e] (e,((0:Nat):Int))=some (.inl (e*1000000000+d,-1)):=by
      unfold cR
      simp only []
      rw [if_pos (by omega),aI (by simp)]
      simp only [Option.bind_some,aO,List.getElem_cons_zero]
      rw [wi (n:=e*1000000000) (by omega),wi (by omega),wi (by omega)]
      rfl
    rw [show ((([d,e]:List Int).length:Int) - 1)=((1:Nat):Int) by simp,bF s1,bF s2,aN (r:=e*1000000000+d) (by unfold cR;simp)]
    simp only [val,dV,Nat.mul_zero,Nat.add_zero]
    congr 1;omega
  | _::_::_::_,_,h=>by simp at h <;> omega
theorem aGn (x:Nat) (h:(aB x).length≤2):pW (aB x)=some ((x:Int),true):=by
  have hx:=wB h
  have hl:=jU (v:=9223372036854775807) (by omega)
  unfold pW
  rw [aGo _ (by omega),decide_eq_true (aDn (by omega)),aJz]
  simp only [Option.bind_some,if_true]
  rw [aBK _ _ (by omega) (by omega)]
  simp only [Option.bind_some,aO]
  have:¬(0 < tL x 9223372036854775807):=by unfold tL;rw [if_pos (by omega)];omega
  simp only [this,decide_false,Bool.false_eq_true,if_false]
  have e:=aJh (aB x) (eI x) h
  rw [dO] at e
  rw [wi (by omega),e];rfl
theorem aK4:∀ (y x:Nat),(aB x).length≤700→(aB y).length≤700→∃ r,lp kL (aB x,aB y)=some r∧(r=.inl (aB (Nat.gcd x y))∨r=.inr (aB (Nat.gcd x y))):=by
  intro y
  induction y using Nat.strongRecOn with
  | _ y ih =>
    intro x hx hy
    by_cases c:y=0
    · subst c
      rw [Nat.gcd_zero_right]
      refine ⟨.inl (aB x),aN ?_,.inl rfl⟩
      unfold kL
      simp [bN]
    · have hy0:(aB y).length≠0:=fun e=>eE c (List.length_eq_zero_iff.1 e)
      by_cases c2:(aB x).length≤2∧(aB y).length≤2
      · refine ⟨.inr (aB (Nat.gcd x y)),aN ?_,.inr rfl⟩
        have h1:=wB c2.1
        have h2:=wB c2.2
        have h3:=aIK h1 h2
        have n1:((aB x).length:Int) < 3:=by omega
        have n2:((aB y).length:Int) < 3:=by omega
        unfold kL
        simp only [n1,n2,if_true,decide_true,Option.bind_some]
        rw [if_pos (by omega),aGn x c2.1,aGn y c2.2]
        simp only [Option.bind_some]
        unfold wT
        rw [aJp,aFt]
        simp only [Option.bind_some]
        rw [aA1 _ (by omega)];rfl
      · have s1:kL (aB x,aB y)=some (.inl (aB y,aB (x % y))):=by
          unfold kL
          simp only []
          have:((if ((aB x).length:Int) < 3 then some (decide (((aB y).length:Int) < 3)) else some false):Option Bool)=some false:=by
            by_cases c1:(aB x).length≤2
            · have c2:¬(aB y).length≤2:=fun h=>c2 ⟨c1,h⟩
              rw [if_pos (by omega),decide_eq_false (by omega)]
            · rw [if_neg (by omega)]
          rw [if_pos (by omega),this]
          simp only [Option.bind_some,Bool.false_eq_true,if_false]
          rw [aFR x y (by omega) hx hy];rfl
        rw [bF s1,aFY x y]
        exact ih (x % y) (Nat.mod_lt _ (by omega)) y hy (by have:=aKk x (y:=y) (by omega);omega)
theorem aIF (x y:Nat) (hx:(aB x).length≤700) (hy:(aB y).length≤700):qT (aB x) (aB y)=some (aB (Nat.gcd x y)):=by
  unfold qT
  obtain ⟨r,e1,e2⟩:=aK4 y x hx hy
  rw [aP (by simp;omega),aP (by simp;omega)]
  simp only [Option.bind_some,aO,List.nil_append]
  rw [e1]
  rcases e2 with rfl | rfl <;> rfl
end Go.Ev
