/- Parts PR1, P20, PR2, PR3, PV, PR4, PR5, PR6, PR7. -/
import Derived.Test.YtachfjpemagdiaaGreatPb1
import Derived.Test.YtachfjpemagdiaaGreatPa1
set_option linter.all false
/- Fractions: quotients, differences, negation; the operations as total functions that both programs meet on valid or zero values. -/
namespace Go.Ev
set_option linter.all false
def aOd (n:Int) (d:Nat) (m:Int) (e:Nat):Rat:=mkR (!(decide (n < 0) == decide (m < 0))) (n.natAbs*e) (d*m.natAbs)
theorem aHB (n:Int) (d:Nat) (m:Int) (e:Nat) (hd:0 < d) (he:0 < e) (h1:bl n≤24) (h2:(aA d).length≤24) (h3:bl m≤24) (h4:(aA e).length≤24):eP ⟨big n,aA d⟩ ⟨big m,aA e⟩=some (aOd n d m e):=by
  unfold eP
  rw [aBO hd,aBO he]
  simp only [Option.bind_some,if_true,Bool.not_true,Bool.false_eq_true,if_false,gP]
  have b1:bl (e:Int)≤24:=by unfold bl;rw [Int.natAbs_natCast];exact h4
  have b2:bl (d:Int)≤24:=by unfold bl;rw [Int.natAbs_natCast];exact h2
  have b3:=zW n e
  have b4:=zW m d
  rw [aBi,aBi,wP n e (by omega) (by omega) (by omega),wP m d (by omega) (by omega) (by omega)]
  simp only [Option.bind_some]
  unfold big aOd
  unfold bl at b1 b2 b3 b4 h1 h3
  rw [aCG _ _ _ _ (by omega) (by omega)]
  simp only [Option.bind_some,Int.natAbs_mul,Int.natAbs_natCast]
  congr 1
  rw [Nat.mul_comm d m.natAbs]
  by_cases hm:m=0
  · subst hm;unfold mkR;simp
  · refine aDK fun hx=>?_
    have s1:decide (n*(e:Int) < 0)=decide (n < 0):=by
      rw [decide_eq_decide]
      constructor
      · intro h
        rcases Int.lt_or_le n 0 with g | g
        · exact g
        · have:=Int.mul_nonneg g (by omega:(0:Int)≤e);omega
      · intro h;exact Int.mul_neg_of_neg_of_pos h (by omega)
    have s2:decide (m*(d:Int) < 0)=decide (m < 0):=by
      rw [decide_eq_decide]
      constructor
      · intro h
        rcases Int.lt_or_le m 0 with g | g
        · exact g
        · have:=Int.mul_nonneg g (by omega:(0:Int)≤d);omega
      · intro h;exact Int.mul_neg_of_neg_of_pos h (by omega)
    rw [s1,s2]
theorem aMD (r s:Rat) (hr:bI r≤4294967296) (hs:bI s≤4294967296):∃ t,hJ r s=some t∧VZ t∧(VZ r→VZ s→eP r s=some t):=by
  unfold hJ
  rw [dP r hr]
  simp only [Option.bind_some]
  by_cases c1:bL r
  · rw [decide_eq_true c1,if_pos rfl,dP s hs]
    simp only [Option.bind_some]
    by_cases c2:bL s
    · rw [decide_eq_true c2]
      obtain ⟨n,d,e1,e2,e3,e4,_⟩:=zC c1
      obtain ⟨m,e,g1,g2,g3,g4,_⟩:=zC c2
      subst e1;subst g1
      simp only [Bool.not_true,Bool.false_eq_true,if_false]
      have e3':=e3
      have g3':=g3
      unfold bl at e3' g3'
      have b1:=dS n.natAbs e
      have b2:=dS d m.natAbs
      have q:(cV (big n).fMag (aA e))=some (aA (n.natAbs*e)):=(nC _ _ (by omega) (by omega)).1
      have q2:(cV (aA d) (big m).fMag)=some (aA (d*m.natAbs)):=(nC _ _ (by omega) (by omega)).1
      rw [q]
      simp only [Option.bind_some]
      rw [q2]
      simp only [Option.bind_some]
      rw [aCm _ _ _ (by omega) (by omega)]
      exact ⟨_,rfl,aI7 _ _ _,fun _ _=>aHB n d m e e2 g2 e3 e4 g3 g4⟩
    · rw [decide_eq_false c2]
      refine ⟨mT,rfl,aBp,fun v1 v2=>?_⟩
      unfold eP
      rw [iN v1,iN v2,decide_eq_true c1,decide_eq_false c2];rfl
  · rw [decide_eq_false c1]
    refine ⟨mT,rfl,aBp,fun v1 v2=>?_⟩
    unfold eP
    rw [iN v1,decide_eq_false c1];rfl
theorem aF3 (n:Int) (h:bl n≤24):(aA n.natAbs).length≤24:=h
theorem aJP (n:Int):(if ((aA n.natAbs).length:Int)=0 then (⟨false,[]⟩:BigInt) else ⟨!decide (n < 0),aA n.natAbs⟩)=big (-n):=by
  by_cases c:n=0
  · subst c;simp [big,aA]
  · have:(aA n.natAbs).length≠0:=fun e=>cY (n:=n.natAbs) (by omega) (List.length_eq_zero_iff.1 e)
    rw [if_neg (by omega)]
    unfold big
    rw [Int.natAbs_neg]
    congr 1
    by_cases h:n < 0
    · rw [decide_eq_true h,decide_eq_false (by omega)];rfl
    · rw [decide_eq_false h,decide_eq_true (by omega)];rfl
theorem aE8 (l:List Int) (h:l.length≤4294967296):dQ l=some l:=by
  unfold dQ
  rw [aN (by simp;omega)]
  simp [bA]
theorem aEg (n:Int) (d:Nat) (hd:0 < d) (h1:bl n≤24) (h2:(aA d).length≤24):hZ ⟨big n,aA d⟩=some ⟨big (-n),aA d⟩:=by
  unfold hZ
  have h1':=aF3 n h1
  rw [aBO hd]
  simp only [Option.bind_some,if_true,zY,zX]
  rw [aE8 _ (by omega),aE8 _ (by omega)]
  simp only [Option.bind_some]
  unfold dY
  have e:=aJP n
  by_cases c:((aA n.natAbs).length:Int)=0
  · rw [if_pos c] at e;simp [c,e]
  · rw [if_neg c] at e
    rw [if_neg c]
    have:¬(60:Int) < (aA n.natAbs).length:=by omega
    simp [this,e]
theorem aLZ (n:Int) (d:Nat) (h1:bl n≤24) (h2:(aA d).length≤24):oO ⟨big n,aA d⟩=some ⟨big (-n),aA d⟩:=by
  unfold oO
  have h1':=aF3 n h1
  simp only [zY,zX]
  rw [pQ _ _ (by omega),aN (by simp;omega)]
  simp only [Option.bind_some,bA,List.nil_append]
  have e:=aJP n
  congr 2
  rw [← e]
  by_cases c:n=0
  · subst c;simp [aA]
  · have:(aA n.natAbs).length≠0:=fun e=>cY (n:=n.natAbs) (by omega) (List.length_eq_zero_iff.1 e)
    rw [if_neg (by omega)]
    simp [c]
theorem aFT {n:Int} {d:Nat} (h:bL ⟨big n,aA d⟩) (h1:bl n≤24):bL ⟨big (-n),aA d⟩:=by
  obtain ⟨⟨a1,a2⟩,b,c,d1,e,f⟩:=h
  refine ⟨⟨?_,fun hn=>?_⟩,b,c,d1,?_,?_⟩
  · show sZ (aA (-n).natAbs);rw [Int.natAbs_neg];exact a1
  · simp only [big,decide_eq_true_eq] at hn ⊢
    exact cY (by omega)
  · show (aA (-n).natAbs).length≤24;rw [Int.natAbs_neg];exact e
  · show Nat.gcd (val (aA (-n).natAbs)) _=1;rw [Int.natAbs_neg];exact f
theorem aIB (r:Rat) (hr:bI r≤4294967296):∃ t,kI r=some t∧VZ t∧(VZ r→hZ r=some t)∧(bL r→oO r=some t∧bL t):=by
  unfold kI
  rw [dP r hr]
  simp only [Option.bind_some]
  by_cases c1:bL r
  · rw [decide_eq_true c1,if_pos rfl]
    obtain ⟨n,d,e1,e2,e3,e4,_⟩:=zC c1
    subst e1
    rw [aLZ n d e3 e4]
    exact ⟨_,rfl,.inl (aFT c1 e3),fun _=>aEg n d e2 e3 e4,fun _=>⟨rfl,aFT c1 e3⟩⟩
  · rw [decide_eq_false c1]
    refine ⟨mT,rfl,aBp,fun v1=>?_,fun h=>absurd h c1⟩
    unfold hZ
    rw [iN v1,decide_eq_false c1];rfl
theorem aMB (r s:Rat) (hr:bI r≤4294967296) (hs:bI s≤4294967296):∃ t,jC r s=some t∧VZ t∧(VZ r→VZ s→fJ r s=some t):=by
  unfold jC
  rw [dP r hr]
  simp only [Option.bind_some]
  obtain ⟨u,u1,u2,u3,u4⟩:=aIB s hs
  obtain ⟨t,t1,t3,t4⟩:=aCw r u hr (by have:=oH u2;omega)
  by_cases c1:bL r
  · rw [decide_eq_true c1,if_pos rfl,dP s hs]
    simp only [Option.bind_some]
    by_cases c2:bL s
    · rw [decide_eq_true c2]
      simp only [Bool.not_true,Bool.false_eq_true,if_false]
      obtain ⟨u5,u6⟩:=u4 c2
      rw [u5]
      simp only [Option.bind_some]
      have:oQ r u=some t:=by
        have:=t1
        unfold cW at this
        rw [dP r hr,dP u (by have:=oH u2;omega),decide_eq_true c1,decide_eq_true u6] at this
        simpa using this
      rw [this]
      refine ⟨t,rfl,t3,fun v1 v2=>?_⟩
      unfold fJ
      rw [u3 v2]
      simp only [Option.bind_some]
      rw [t4 v1 u2];rfl
    · rw [decide_eq_false c2]
      refine ⟨mT,rfl,aBp,fun v1 v2=>?_⟩
      unfold fJ
      have e:u=mT:=by
        have:=u1
        unfold kI at this
        rw [dP s hs,decide_eq_false c2] at this
        simpa [mT] using this.symm
      rw [u3 v2]
      simp only [Option.bind_some]
      unfold cA
      rw [iN v1,iN u2,decide_eq_true c1,decide_eq_false (by rw [e];exact aAo)];rfl
  · rw [decide_eq_false c1]
    refine ⟨mT,rfl,aBp,fun v1 v2=>?_⟩
    unfold fJ
    rw [u3 v2]
    simp only [Option.bind_some]
    unfold cA
    rw [iN v1,decide_eq_false c1];rfl
noncomputable def RA (r s:Rat):Rat:=(cW r s).getD mT
noncomputable def RM (r s:Rat):Rat:=(dN r s).getD mT
noncomputable def RD (r s:Rat):Rat:=(hJ r s).getD mT
noncomputable def RS (r s:Rat):Rat:=(jC r s).getD mT
noncomputable def RN (r:Rat):Rat:=(kI r).getD mT
theorem VZs {r:Rat} (h:VZ r):bI r≤4294967296:=by have:=oH h;omega
theorem aPy {r s:Rat} (hr:bI r≤4294967296) (hs:bI s≤4294967296):cW r s=some (RA r s)∧VZ (RA r s):=by
  obtain ⟨t,t1,t3,t4⟩:=aCw r s hr hs
  have:RA r s=t:=by unfold RA;rw [t1];rfl
  rw [this];exact ⟨t1,t3⟩
theorem aAX {r s:Rat} (hr:VZ r) (hs:VZ s):cW r s=some (RA r s)∧cA r s=some (RA r s)∧VZ (RA r s):=by
  obtain ⟨t,t1,t3,t4⟩:=aCw r s (VZs hr) (VZs hs)
  have:RA r s=t:=by unfold RA;rw [t1];rfl
  rw [this];exact ⟨t1,t4 hr hs,t3⟩
theorem aDD {r s:Rat} (hr:VZ r) (hs:VZ s):dN r s=some (RM r s)∧cM r s=some (RM r s)∧VZ (RM r s):=by
  obtain ⟨t,t1,t3,t4⟩:=aMC r s (VZs hr) (VZs hs)
  have:RM r s=t:=by unfold RM;rw [t1];rfl
  rw [this];exact ⟨t1,t4 hr hs,t3⟩
theorem aFl {r s:Rat} (hr:VZ r) (hs:VZ s):hJ r s=some (RD r s)∧eP r s=some (RD r s)∧VZ (RD r s):=by
  obtain ⟨t,t1,t3,t4⟩:=aMD r s (VZs hr) (VZs hs)
  have:RD r s=t:=by unfold RD;rw [t1];rfl
  rw [this];exact ⟨t1,t4 hr hs,t3⟩
theorem aHf {r s:Rat} (hr:VZ r) (hs:VZ s):jC r s=some (RS r s)∧fJ r s=some (RS r s)∧VZ (RS r s):=by
  obtain ⟨t,t1,t3,t4⟩:=aMB r s (VZs hr) (VZs hs)
  have:RS r s=t:=by unfold RS;rw [t1];rfl
  rw [this];exact ⟨t1,t4 hr hs,t3⟩
theorem aK4 {r:Rat} (hr:VZ r):kI r=some (RN r)∧hZ r=some (RN r)∧VZ (RN r):=by
  obtain ⟨t,t1,t3,t4,_⟩:=aIB r (VZs hr)
  have:RN r=t:=by unfold RN;rw [t1];rfl
  rw [this];exact ⟨t1,t4 hr,t3⟩
theorem aGy {n:Int} {d:Nat} (h:bL ⟨big n,aA d⟩):0 < uV ⟨big n,aA d⟩↔0 < n:=by
  unfold uV
  rw [if_pos h]
  simp only [zY,zX,decide_eq_true_eq]
  by_cases c:n=0
  · subst c;simp [aA]
  · rw [if_neg (cY (by omega))]
    by_cases h:n < 0
    · rw [if_pos h];omega
    · rw [if_neg h];omega
theorem aM8 {x y:Nat} (hx:0 < x) (h:bL (mkR false x y)):0 < uV (mkR false x y):=by
  unfold uV
  rw [if_pos h]
  unfold mkR at h ⊢
  by_cases c:y=0
  · rw [if_pos c] at h;exact absurd h aAo
  · rw [if_neg c] at h ⊢
    by_cases c2:24 < (aA (x / Nat.gcd x y)).length∨24 < (aA (y / Nat.gcd x y)).length
    · rw [if_pos c2] at h;exact absurd h aAo
    · rw [if_neg c2] at h ⊢
      have hg:0 < Nat.gcd x y:=Nat.gcd_pos_of_pos_left y hx
      have:0 < x / Nat.gcd x y:=Nat.div_pos (Nat.gcd_le_left y hx) hg
      simp only [Bool.false_and,Bool.false_eq_true,if_false]
      rw [if_neg (cY (by omega))];omega
theorem aOp {r s:Rat} (hr:0 < uV r) (hs:0 < uV s) (h:bL (RA r s)):0 < uV (RA r s):=by
  have r1:=yD hr
  have s1:=yD hs
  obtain ⟨n,d,e1,e2,e3,e4,_⟩:=zC r1
  obtain ⟨m,e,g1,g2,g3,g4,_⟩:=zC s1
  subst e1;subst g1
  have hn:=(aGy r1).1 hr
  have hm:=(aGy s1).1 hs
  have q:=(aAX (.inl r1) (.inl s1)).2.1
  rw [aB1 n d m e e2 g2 e3 e4 g3 g4] at q
  have q:=Option.some.inj q
  rw [← q] at h ⊢
  unfold aIy at h ⊢
  have p1:0 < n*(e:Int):=Int.mul_pos hn (by omega)
  have p2:0 < m*(d:Int):=Int.mul_pos hm (by omega)
  rw [decide_eq_false (by omega)] at h ⊢
  exact aM8 (by omega) h
end Go.Ev
/- Copies of links; the links of a tree. -/
namespace Go.Ev
set_option linter.all false
theorem oP (x:Rat) (h:bI x≤4294967296):iX x=some x:=by
  unfold bI tC rY at h
  rw [rZ,rZ] at h
  unfold iX
  rw [aN (by simp;omega),aN (by simp;omega)]
  simp only [Option.bind_some,aO,List.nil_append]
theorem sF (x:Link) (h:bN x≤4294967296):kF x=some x:=by
  unfold bN at h
  unfold kF
  rw [oP _ (by omega)]
  simp only [Option.bind_some]
  rw [oP _ (by omega)]
  simp only [Option.bind_some]
  rw [oP _ (by omega)]
  simp only [Option.bind_some]
theorem aBr (l:List Link) (h:aF l≤4294967296):oN l=some l:=by
  unfold aF at h
  have hl:=fT bN l
  unfold oN
  have:=yM (step:=oM l) l (fun k t=>((k:Int),t)) (fun t=>t) (fun k t hk ht=>by
    have he:=mF (w:=bN) (List.getElem_mem hk)
    unfold oM
    simp only []
    rw [if_pos (by omega),aK hk]
    simp only [Option.bind_some]
    rw [sF _ (by omega)]
    simp only [Option.bind_some]
    rw [aN (by omega),wi (by omega)];rfl) (fun t ht=>by unfold oM;simp only [];rw [if_neg (by omega)])
  rw [show ((0:Nat):Int)=0 from rfl] at this
  rw [this];rfl
theorem aAk (l:List Int) (h:l.length≤4294967296):dQ l=some l:=by
  unfold dQ
  rw [aN (by simp;omega)]
  simp only [Option.bind_some,aO,List.nil_append]
theorem iA (x:Rat) (h:bI x≤4294967296):fF x=some x:=by
  unfold bI tC rY at h
  rw [rZ,rZ] at h
  unfold fF
  rw [aAk _ (by omega)]
  simp only [Option.bind_some]
  rw [aAk _ (by omega)]
  simp only [Option.bind_some]
theorem aDA (x:Link) (h:bN x≤4294967296):qR x=some x:=by
  unfold bN at h
  unfold qR
  rw [iA _ (by omega)]
  simp only [Option.bind_some]
  rw [iA _ (by omega)]
  simp only [Option.bind_some]
  rw [iA _ (by omega)]
  simp only [Option.bind_some]
theorem pS (l:List Link) (h:aF l≤4294967296):iB l=some l:=by
  unfold aF at h
  have hl:=fT bN l
  unfold iB
  have:=yM (step:=kP l) l (fun k t=>((k:Int),t)) (fun t=>t) (fun k t hk ht=>by
    have he:=mF (w:=bN) (List.getElem_mem hk)
    unfold kP
    simp only []
    rw [if_pos (by omega),aK hk]
    simp only [Option.bind_some]
    rw [aDA _ (by omega)]
    simp only [Option.bind_some]
    rw [aN (by omega),wi (by omega)];rfl) (fun t ht=>by unfold kP;simp only [];rw [if_neg (by omega)])
  rw [show ((0:Nat):Int)=0 from rfl] at this
  rw [this];rfl
def bV (l:List TreeNode):List Link:=(l.map (fun n=>n.fOwn)).flatten
theorem aA6:∀ l:List TreeNode,aF (bV l)≤szL bH l
  | []=>by simp [bV,aF,aDE]
  | y::l=>by
    have:=aA6 l
    have hn:bH y=aF y.fOwn+aS y.fCond+aF y.fMessages+bI y.fEnergy:=rfl
    unfold bV aF at *
    rw [List.map_cons,List.flatten_cons,aGw,lF]
    omega
theorem aC8 (l:List TreeNode) (k:Nat) (hk:k < l.length):bV (l.take (k+1))=bV (l.take k)++l[k].fOwn:=by
  unfold bV
  rw [List.take_succ,List.getElem?_eq_getElem hk,List.map_append,List.flatten_append]
  simp
theorem aLd {α:Type} (w:α→Nat) (l:List α) (k:Nat):szL w (l.take k)≤szL w l:=by
  have:=aGw w (l.take k) (l.drop k)
  rw [List.take_append_drop] at this
  omega
theorem aI0 (l:List TreeNode) (h:szL bH l≤4294967296) (k:Nat):(bV (l.take k)).length≤4294967296:=by
  have h1:=aA6 (l.take k)
  have h2:=aLd bH l k
  have h3:=fT bN (bV (l.take k))
  unfold aF at h1
  omega
end Go.Ev
/- Links: validity, order, merging; adding links to a link set, both programs. -/
namespace Go.Ev
open IntKind
set_option linter.all false
def ValidL (l:Link):Prop:=(0≤l.fA∧l.fA≤9)∧(0≤l.fB∧l.fB≤9)∧l.fA < l.fB∧0 < uV l.fWeight∧bL l.fDX∧bL l.fDY
instance (l:Link):Decidable (ValidL l):=by unfold ValidL;infer_instance
theorem fS (l:Link) (h:bN l≤4294967296):dX l=some (decide (ValidL l))∧fN l=some (decide (ValidL l)):=by
  unfold bN at h
  obtain ⟨g1,g2⟩:=vU l.fWeight (by omega)
  have a1:=aAV l.fDX (by omega)
  have a2:=aAV l.fDY (by omega)
  have b1:=dP l.fDX (by omega)
  have b2:=dP l.fDY (by omega)
  unfold dX fN ValidL
  simp only [aH9,aBc,g1,g2,a1,a2,b1,b2,Option.bind_some]
  by_cases A:0≤l.fA∧l.fA≤9
  · by_cases B:0≤l.fB∧l.fB≤9
    · by_cases C:l.fA < l.fB
      · by_cases D:0 < uV l.fWeight
        · by_cases E:bL l.fDX
          · by_cases F:bL l.fDY <;> simp [A,B,C,D,E,F]
          · simp [A,B,C,D,E]
        · simp [A,B,C,D]
      · simp [A,B,C]
    · simp [A,B]
  · simp [A]
theorem ValidL.vz {l:Link} (h:ValidL l):VZ l.fWeight∧VZ l.fDX∧VZ l.fDY:=⟨.inl (yD h.2.2.2.1),.inl h.2.2.2.2.1,.inl h.2.2.2.2.2⟩
theorem ValidL.sz {l:Link} (h:ValidL l):bN l≤144:=by
  obtain ⟨h1,h2,h3⟩:=h.vz
  have:=oH h1
  have:=oH h2
  have:=oH h3
  unfold bN;omega
theorem aCE {α:Type} {w:α→Nat} {c:Nat}:∀ {l:List α},(∀ x ∈ l,w x≤c)→szL w l≤(c+1)*l.length
  | [],_=>by simp [aDE]
  | y::l,h=>by
    have h1:=h y (by simp)
    have h2:=aCE (l:=l) (c:=c) (fun x hx=>h x (by simp [hx]))
    rw [lF,List.length_cons,Nat.mul_add,Nat.mul_one];omega
def eO (k l:Link):Prop:=k.fA < l.fA∨(k.fA=l.fA∧k.fB < l.fB)
instance (k l:Link):Decidable (eO k l):=by unfold eO;infer_instance
theorem aFo (k l:Link):mG k l=some (decide (eO k l)):=by
  unfold mG eO
  by_cases A:k.fA < l.fA
  · simp [A]
  · by_cases B:k.fA=l.fA
    · simp [A,B]
    · simp [A,B]
theorem aIF (k l:Link):jH k l=some (decide (eO k l)):=aFo k l
theorem aAI {a b c:Link} (h:eO a b) (g:eO b c):eO a c:=by unfold eO at *;omega
noncomputable def sqR (x y:Rat):Rat:=RA (RM x x) (RM y y)
noncomputable def aAn (k l:Link):Link:=⟨k.fA,k.fB,RA k.fWeight l.fWeight,RD (RA (RM k.fWeight k.fDX) (RM l.fWeight l.fDX)) (RA k.fWeight l.fWeight),RD (RA (RM k.fWeight k.fDY) (RM l.fWeight l.fDY)) (RA k.fWeight l.fWeight)⟩
noncomputable def aCM (k l:Link):Rat:=RM (RD (RM k.fWeight l.fWeight) (RA k.fWeight l.fWeight)) (sqR (RS k.fDX l.fDX) (RS k.fDY l.fDY))
def xF (k l:Link):Prop:=bL (aAn k l).fWeight∧bL (aAn k l).fDX∧bL (aAn k l).fDY∧bL (aCM k l)
noncomputable instance (k l:Link):Decidable (xF k l):=by unfold xF;infer_instance
def aFG:Link:=Link.mk 0 0 (Rat.mk (BigInt.mk false ([])) ([])) (Rat.mk (BigInt.mk false ([])) ([])) (Rat.mk (BigInt.mk false ([])) ([]))
theorem aPr {x y:Rat} (hx:VZ x) (hy:VZ y):mW x y=some (sqR x y)∧kN x y=some (sqR x y)∧VZ (sqR x y):=by
  obtain ⟨a1,a2,a3⟩:=aDD hx hx
  obtain ⟨b1,b2,b3⟩:=aDD hy hy
  obtain ⟨c1,c2,c3⟩:=aAX a3 b3
  unfold mW kN sqR
  simp only [a1,a2,b1,b2,c1,c2,Option.bind_some]
  exact ⟨trivial,trivial,c3⟩
theorem aHY {k l:Link} (hk:ValidL k) (hl:ValidL l) (h:xF k l):ValidL (aAn k l) :=
  ⟨hk.1,hk.2.1,hk.2.2.1,aOp hk.2.2.2.1 hl.2.2.2.1 h.1,h.2.1,h.2.2.1⟩
theorem aJW {k l:Link} (hk:ValidL k) (hl:ValidL l) (hA:k.fA=l.fA) (hB:k.fB=l.fB) :
    mZ k l=some (if xF k l then (aAn k l,aCM k l,true) else (aFG,mT,false))∧nJ k l=some (if xF k l then (aAn k l,aCM k l,true) else (aFG,mT,false))∧VZ (aCM k l):=by
  obtain ⟨k1,k2,k3⟩:=hk.vz
  obtain ⟨l1,l2,l3⟩:=hl.vz
  obtain ⟨a1,a2,a3⟩:=aAX k1 l1
  obtain ⟨b1,b2,b3⟩:=aDD k1 k2
  obtain ⟨c1,c2,c3⟩:=aDD l1 l2
  obtain ⟨d1,d2,d3⟩:=aAX b3 c3
  obtain ⟨e1,e2,e3⟩:=aFl d3 a3
  obtain ⟨f1,f2,f3⟩:=aDD k1 k3
  obtain ⟨g1,g2,g3⟩:=aDD l1 l3
  obtain ⟨i1,i2,i3⟩:=aAX f3 g3
  obtain ⟨j1,j2,j3⟩:=aFl i3 a3
  obtain ⟨m1,m2,m3⟩:=aDD k1 l1
  obtain ⟨n1,n2,n3⟩:=aFl m3 a3
  obtain ⟨o1,o2,o3⟩:=aHf k2 l2
  obtain ⟨p1,p2,p3⟩:=aHf k3 l3
  obtain ⟨q1,q2,q3⟩:=aPr o3 p3
  obtain ⟨r1,r2,r3⟩:=aDD n3 q3
  have v1:=(fS k (by have:=hk.sz;omega)).1
  have v2:=(fS l (by have:=hl.sz;omega)).1
  have vm:=(fS (aAn k l) (by
    have:=oH a3;have:=oH e3;have:=oH j3
    unfold bN aAn;simp only [];omega)).1
  refine ⟨?_,?_,r3⟩
  · unfold mZ
    rw [v1,v2,decide_eq_true hk,decide_eq_true hl]
    simp only [Option.bind_some,if_true,hA,hB,ne_eq,not_true_eq_false,if_false,decide_false,Bool.false_eq_true]
    simp only [a1,b1,c1,d1,e1,f1,g1,i1,j1,m1,n1,o1,p1,q1,r1,Option.bind_some]
    rw [← hA,← hB]
    have e:(Link.mk k.fA k.fB (RA k.fWeight l.fWeight) (RD (RA (RM k.fWeight k.fDX) (RM l.fWeight l.fDX)) (RA k.fWeight l.fWeight)) (RD (RA (RM k.fWeight k.fDY) (RM l.fWeight l.fDY)) (RA k.fWeight l.fWeight)))=aAn k l:=rfl
    rw [e,vm]
    have e2:RM (RD (RM k.fWeight l.fWeight) (RA k.fWeight l.fWeight)) (sqR (RS k.fDX l.fDX) (RS k.fDY l.fDY))=aCM k l:=rfl
    rw [e2,dP (aCM k l) (VZs r3)]
    simp only [Option.bind_some]
    by_cases O:xF k l
    · rw [if_pos O,decide_eq_true (aHY hk hl O),decide_eq_true O.2.2.2];rfl
    · rw [if_neg O]
      by_cases V:ValidL (aAn k l)
      · have:¬bL (aCM k l):=fun h=>O ⟨yD V.2.2.2.1,V.2.2.2.2.1,V.2.2.2.2.2,h⟩
        rw [decide_eq_true V,decide_eq_false this];rfl
      · rw [decide_eq_false V];rfl
  · unfold nJ
    simp only [a2,b2,c2,d2,e2,f2,g2,i2,j2,m2,n2,o2,p2,q2,r2,Option.bind_some,iN a3,iN e3,iN j3,iN r3]
    unfold xF aAn aCM
    simp only []
    by_cases A:bL (RA k.fWeight l.fWeight)
    · by_cases B:bL (RD (RA (RM k.fWeight k.fDX) (RM l.fWeight l.fDX)) (RA k.fWeight l.fWeight))
      · by_cases C:bL (RD (RA (RM k.fWeight k.fDY) (RM l.fWeight l.fDY)) (RA k.fWeight l.fWeight))
        · by_cases D:bL (RM (RD (RM k.fWeight l.fWeight) (RA k.fWeight l.fWeight)) (sqR (RS k.fDX l.fDX) (RS k.fDY l.fDY))) <;> simp [A,B,C,D,aFG,mT]
        · simp [A,B,C,aFG,mT]
      · simp [A,B,aFG,mT]
    · simp [A,aFG,mT]
def LSet (s:List Link):Prop:=(∀ x ∈ s,ValidL x)∧s.Pairwise eO
noncomputable instance (s:List Link):Decidable (LSet s):=Classical.propDecidable _
theorem aJ1:∀ (l:List Int) (a N:Int),l.Pairwise (· < ·)→(∀ x ∈ l,a≤x∧x < N)→(l.length:Int)≤max 0 (N - a)
  | [],a,N,_,_=>by rw [List.length_nil];omega
  | x::l,a,N,h,hb=>by
    rw [List.pairwise_cons] at h
    have h1:=hb x (by simp)
    have:=aJ1 l (x+1) N h.2 (fun y hy=>⟨by have:=h.1 y hy;omega,(hb y (by simp [hy])).2⟩)
    rw [List.length_cons];omega
theorem LSet.len {s:List Link} (h:LSet s):s.length≤100:=by
  have:=aJ1 (s.map fun l=>l.fA*10+l.fB) 0 100 (by
    rw [List.pairwise_map]
    refine List.Pairwise.imp_of_mem (fun {a b} ha hb hr=>?_) h.2
    have h1:=h.1 a ha
    have h2:=h.1 b hb
    unfold ValidL at h1 h2
    unfold eO at hr
    omega) (by
    intro x hx
    obtain ⟨l,hl,rfl⟩:=List.mem_map.1 hx
    have h1:=h.1 l hl
    unfold ValidL at h1
    omega)
  rw [List.length_map] at this;omega
theorem aA1 {s:List Link} (h:∀ x ∈ s,ValidL x):aF s≤145*s.length:=aCE (fun x hx=>(h x hx).sz)
theorem LSet.sz {s:List Link} (h:LSet s):aF s≤14500:=by
  have:=aA1 h.1
  have:=h.len
  omega
def lsF:Option Link→List Link→Prop
  | _,[]=>True
  | p,x::r=>ValidL x∧(∀ q,p=some q→eO q x)∧lsF (some x) r
noncomputable instance (p:Option Link) (s:List Link):Decidable (lsF p s):=Classical.propDecidable _
theorem aJX:∀ (s:List Link) (p:Option Link),lsF p s↔LSet s∧∀ q,p=some q→∀ x ∈ s,eO q x
  | [],p=>by simp [lsF,LSet]
  | x::r,p=>by
    rw [lsF,aJX r (some x)]
    unfold LSet
    rw [List.pairwise_cons]
    constructor
    · rintro ⟨h1,h2,⟨h3,h4⟩,h5⟩
      refine ⟨⟨fun y hy=>?_,fun y hy=>h5 x rfl y hy,h4⟩,fun q hq y hy=>?_⟩
      · rcases List.mem_cons.1 hy with rfl | hy
        · exact h1
        · exact h3 y hy
      · rcases List.mem_cons.1 hy with rfl | hy
        · exact h2 q hq
        · exact aAI (h2 q hq) (h5 x rfl y hy)
    · rintro ⟨⟨h1,h2,h3⟩,h4⟩
      exact ⟨h1 x (by simp),fun q hq=>h4 q hq x (by simp),⟨fun y hy=>h1 y (by simp [hy]),h3⟩,fun q hq y hy=>by cases hq;exact h2 y hy⟩
theorem kT (s:List Link) (h:aF s≤4294967296):dF s=some (decide (LSet s)):=by
  unfold aF at h
  have hl:=fT bN s
  have main:∀ m k:Nat,m+k=s.length→∀ p:Option Link,(p=if k=0 then none else s[k - 1]?)→lp (eI s) (k:Int)=some (if lsF p (s.drop k) then .inl () else .inr false):=by
    intro m
    induction m with
    | zero =>
      intro k hk p _
      rw [List.drop_eq_nil_of_le (by omega),if_pos (by simp [lsF])]
      exact aJ (by unfold eI;rw [if_neg (by omega)])
    | succ m ih =>
      intro k hk p hp
      have hlt:k < s.length:=by omega
      have hz:=mF (w:=bN) (List.getElem_mem hlt)
      have v:=(fS s[k] (by omega)).1
      rw [List.drop_eq_getElem_cons hlt]
      have st:eI s (k:Int)=some (if ValidL s[k]∧(∀ q,p=some q→eO q s[k]) then .inl ((k+1:Nat):Int) else .inr (.inr false)):=by
        have w1:i64.wrap ((k:Int)+1)=((k+1:Nat):Int):=by rw [wi (by omega)];omega
        unfold eI
        rw [if_pos (by omega),aK hlt]
        simp only [Option.bind_some,v,w1]
        by_cases V:ValidL s[k]
        · rw [decide_eq_true V,if_pos rfl]
          by_cases K:k=0
          · subst K
            rw [if_pos rfl] at hp;subst hp
            simp [V]
          · have hlt2:k - 1 < s.length:=by omega
            rw [if_neg K,List.getElem?_eq_getElem hlt2] at hp;subst hp
            have w2:i64.wrap ((k:Int) - 1)=((k - 1:Nat):Int):=by rw [wi (by omega)];omega
            rw [if_pos (by omega),w2,aK hlt2]
            simp only [Option.bind_some,aFo]
            by_cases L:eO s[k - 1] s[k]
            · simp [V,L]
            · simp [L]
        · rw [decide_eq_false V];simp [V]
      by_cases G:ValidL s[k]∧(∀ q,p=some q→eO q s[k])
      · rw [if_pos G] at st
        rw [aT st,ih (k+1) (by omega) (some s[k]) (by rw [if_neg (by omega),Nat.add_sub_cancel,List.getElem?_eq_getElem hlt])]
        have:lsF p (s[k]::s.drop (k+1))↔lsF (some s[k]) (s.drop (k+1)):=by rw [lsF];exact ⟨fun h=>h.2.2,fun h=>⟨G.1,G.2,h⟩⟩
        simp only [this]
      · rw [if_neg G] at st
        rw [aJ st,if_neg]
        rw [lsF];exact fun h=>G ⟨h.1,h.2.1⟩
  have:=main s.length 0 (by omega) none (by simp)
  unfold dF
  rw [show ((0:Nat):Int)=0 from rfl,List.drop_zero] at this
  rw [this]
  have e:lsF none s↔LSet s:=by rw [aJX];exact ⟨fun h=>h.1,fun h=>⟨h,fun q hq=>by cases hq⟩⟩
  by_cases c:LSet s
  · rw [if_pos (e.2 c),decide_eq_true c];rfl
  · rw [if_neg (fun h=>c (e.1 h)),decide_eq_false c];rfl
def dK (l:Link):List Link→Nat
  | []=>0
  | y::r=>if eO y l then dK l r+1 else 0
theorem aJN (l:Link):∀ s:List Link,dK l s≤s.length
  | []=>Nat.le_refl _
  | y::r=>by
    have:=aJN l r
    rw [dK];split <;> simp <;> omega
theorem aCI (l:Link):∀ s:List Link,∀ x ∈ s.take (dK l s),eO x l
  | [],x,h=>by simp [dK] at h
  | y::r,x,h=>by
    rw [dK] at h
    by_cases c:eO y l
    · rw [if_pos c,List.take_succ_cons] at h
      rcases List.mem_cons.1 h with rfl | h
      · exact c
      · exact aCI l r x h
    · rw [if_neg c] at h;simp at h
theorem aA5 (l:Link):∀ (s:List Link) (h:dK l s < s.length),¬eO s[dK l s] l
  | [],h=>by simp at h
  | y::r,h=>by
    by_cases c:eO y l
    · have e:dK l (y::r)=dK l r+1:=by rw [dK,if_pos c]
      have h':dK l r < r.length:=by rw [e] at h;simpa using h
      have:=aA5 l r h'
      simpa [e] using this
    · have e:dK l (y::r)=0:=by rw [dK,if_neg c]
      simpa [e] using c
theorem aLC (s:List Link) (l:Link) (h:s.length≤4294967296):lp (gD l s) 0=some ((dK l s:Nat):Int):=by
  have main:∀ m k:Nat,m+k=s.length→lp (gD l s) (k:Int)=some ((k+dK l (s.drop k):Nat):Int):=by
    intro m
    induction m with
    | zero =>
      intro k hk
      rw [List.drop_eq_nil_of_le (by omega)]
      refine aJ ?_
      unfold gD
      rw [if_neg (by omega)];rfl
    | succ m ih =>
      intro k hk
      have hlt:k < s.length:=by omega
      have w1:i64.wrap ((k:Int)+1)=((k+1:Nat):Int):=by rw [wi (by omega)];omega
      rw [List.drop_eq_getElem_cons hlt,dK]
      have st:gD l s (k:Int)=some (if eO s[k] l then .inl ((k+1:Nat):Int) else .inr (k:Int)):=by
        unfold gD
        rw [if_pos (by omega),aK hlt]
        simp only [Option.bind_some,aFo,w1]
        by_cases L:eO s[k] l <;> simp [L]
      by_cases L:eO s[k] l
      · rw [if_pos L] at st ⊢
        rw [aT st,ih (k+1) (by omega)]
        congr 2;omega
      · rw [if_neg L] at st ⊢
        rw [aJ st];rfl
  have:=main s.length 0 (by omega)
  simpa using this
noncomputable def aAa (s:List Link) (l:Link):Option (List Link × Rat) :=
  if h:dK l s < s.length then
    if eO l s[dK l s] then some (s.take (dK l s)++[l]++s.drop (dK l s),pM 0)
    else if xF s[dK l s] l then some (s.take (dK l s)++[aAn s[dK l s] l]++s.drop (dK l s+1),aCM s[dK l s] l) else none
  else some (s.take (dK l s)++[l]++s.drop (dK l s),pM 0)
def pk:Option (List Link × Rat)→List Link × Rat × Bool
  | some (s,e)=>(s,e,true)
  | none=>([],mT,false)
theorem aFs {s:List Link} {m:Link} {p q:Nat} (hs:LSet s) (hm:ValidL m) (h1:∀ x ∈ s.take p,eO x m) (h2:∀ y ∈ s.drop q,eO m y):LSet (s.take p++[m]++s.drop q):=by
  refine ⟨fun x hx=>?_,?_⟩
  · rw [List.mem_append,List.mem_append,List.mem_singleton] at hx
    rcases hx with (hx | rfl) | hx
    · exact hs.1 x (List.mem_of_mem_take hx)
    · exact hm
    · exact hs.1 x (List.mem_of_mem_drop hx)
  · rw [List.append_assoc,List.pairwise_append]
    refine ⟨hs.2.sublist (List.take_sublist _ _),?_,fun a ha b hb=>?_⟩
    · rw [List.singleton_append,List.pairwise_cons]
      exact ⟨h2,hs.2.sublist (List.drop_sublist _ _)⟩
    · rw [List.singleton_append] at hb
      rcases List.mem_cons.1 hb with rfl | hb
      · exact h1 a ha
      · exact aAI (h1 a ha) (h2 b hb)
theorem aNZ {s:List Link} (h:s.Pairwise eO) {p:Nat} (hp:p < s.length):(∀ x ∈ s.take p,eO x s[p])∧∀ y ∈ s.drop (p+1),eO s[p] y:=by
  have e:s=s.take p++(s[p]::s.drop (p+1)):=by rw [← List.drop_eq_getElem_cons hp,List.take_append_drop]
  rw [e,List.pairwise_append,List.pairwise_cons] at h
  exact ⟨fun x hx=>h.2.2 x hx _ List.mem_cons_self,h.2.1.1⟩
theorem aHb {s:List Link} {l:Link} (hs:LSet s) (hl:ValidL l) {s':List Link} {e:Rat} (h:aAa s l=some (s',e)):LSet s'∧VZ e:=by
  unfold aAa at h
  have z:VZ (pM 0):=.inl (zD 0 (by omega))
  by_cases c:dK l s < s.length
  · rw [dif_pos c] at h
    obtain ⟨g1,g2⟩:=aNZ hs.2 c
    by_cases c2:eO l s[dK l s]
    · rw [if_pos c2] at h;cases h
      refine ⟨aFs hs hl (aCI l s) (fun y hy=>?_),z⟩
      rw [List.drop_eq_getElem_cons c] at hy
      rcases List.mem_cons.1 hy with rfl | hy
      · exact c2
      · exact aAI c2 (g2 y hy)
    · rw [if_neg c2] at h
      have hv:=hs.1 _ (List.getElem_mem c)
      have nl:=aA5 l s c
      have hA:s[dK l s].fA=l.fA∧s[dK l s].fB=l.fB:=by unfold eO at c2 nl;omega
      by_cases O:xF s[dK l s] l
      · rw [if_pos O] at h;cases h
        exact ⟨aFs hs (aHY hv hl O) g1 g2,(aJW hv hl hA.1 hA.2).2.2⟩
      · rw [if_neg O] at h;cases h
  · rw [dif_neg c] at h;cases h
    refine ⟨aFs hs hl (aCI l s) (fun y hy=>?_),z⟩
    rw [List.drop_eq_nil_of_le (by omega)] at hy;cases hy
theorem aHc (s:List Link) (l:Link):vA s l=gD l s:=rfl
theorem rR {α:Type} (x:α):bA x=some x:=rfl
theorem aGp {s:List Link} {l:Link} (hs:LSet s) (hl:ValidL l):mH s l=some (pk (aAa s l))∧sT s l=some (pk (aAa s l)):=by
  have hlen:=hs.len
  have hp:=aJN l s
  have v:=(fS l (by have:=hl.sz;omega)).1
  have i1:=kT s (by have:=hs.sz;omega)
  have c1:=aBr s (by have:=hs.sz;omega)
  have c2:=sF l (by have:=hl.sz;omega)
  have lp1:=aLC s l (by omega)
  have rf1:cD 0=some (pM 0):=bO 0 (by omega)
  have rf2:dR 0=some (pM 0):=kR 0 (by omega)
  have s1:sub s 0 ((dK l s:Nat):Int)=some (s.take (dK l s)):=by rw [qW _ _ _ (by omega)];simp
  have s2:sub s ((dK l s:Nat):Int) (s.length:Int)=some (s.drop (dK l s)):=by
    rw [qW _ _ _ (by omega)];congr 1
    rw [List.take_of_length_le];rfl
    rw [List.length_drop];omega
  have t1:(s.take (dK l s)).length≤100:=by rw [List.length_take];omega
  have t2:(s.drop (dK l s)).length≤100:=by rw [List.length_drop];omega
  unfold mH sT aAa
  rw [aHc,i1,v,decide_eq_true hs,decide_eq_true hl,lp1]
  simp only [Option.bind_some,if_true,Bool.not_true,Bool.false_eq_true,if_false,c1,lp1,s1,s2,rR,List.nil_append]
  rw [aN (by simp only [List.length_nil,Nat.zero_add];omega)]
  simp only [Option.bind_some]
  by_cases c:dK l s < s.length
  · have c':((dK l s:Nat):Int) < (s.length:Int):=by omega
    have c'':¬((dK l s:Nat):Int)=(s.length:Int):=by omega
    rw [if_pos c',if_neg c'',dif_pos c,aK c]
    simp only [Option.bind_some,aFo,aIF]
    by_cases L:eO l s[dK l s]
    · rw [if_pos L,decide_eq_true L]
      simp only [Bool.not_true,Bool.false_eq_true,if_false,if_true,c2,Option.bind_some,rf1,rf2]
      rw [aN (by omega)]
      simp only [Option.bind_some]
      rw [aN (by rw [List.length_append,List.length_singleton];omega)]
      exact ⟨rfl,rfl⟩
    · rw [if_neg L,decide_eq_false L]
      have hv:=hs.1 _ (List.getElem_mem c)
      have nl:=aA5 l s c
      have hA:s[dK l s].fA=l.fA∧s[dK l s].fB=l.fB:=by unfold eO at L nl;omega
      obtain ⟨m1,m2,m3⟩:=aJW hv hl hA.1 hA.2
      simp only [Bool.not_false,if_true,Bool.false_eq_true,if_false,m1,m2,Option.bind_some]
      by_cases O:xF s[dK l s] l
      · rw [if_pos O,if_pos O]
        have w1:i64.wrap (((dK l s:Nat):Int)+1)=((dK l s+1:Nat):Int):=by rw [wi (by omega)];omega
        have s3:sub s ((dK l s+1:Nat):Int) (s.length:Int)=some (s.drop (dK l s+1)):=by
          rw [qW _ _ _ (by omega)];congr 1
          rw [List.take_of_length_le];rfl
          rw [List.length_drop];omega
        have t3:(s.drop (dK l s+1)).length≤100:=by rw [List.length_drop];omega
        simp only [if_true,w1,s3,Option.bind_some,sH]
        rw [aN (by omega)]
        simp only [Option.bind_some]
        rw [aN (by rw [List.length_append,List.length_singleton];omega)]
        refine ⟨?_,rfl⟩
        simp only [pk]
        rw [List.set_eq_take_append_cons_drop,if_pos c,List.append_assoc,List.singleton_append]
      · rw [if_neg O,if_neg O]
        exact ⟨rfl,rfl⟩
  · have c':¬((dK l s:Nat):Int) < (s.length:Int):=by omega
    have c'':((dK l s:Nat):Int)=(s.length:Int):=by omega
    rw [if_neg c',if_pos c'',dif_neg c]
    simp only [Option.bind_some,Bool.false_eq_true,if_false,if_true,c2,rf1,rf2]
    rw [aN (by omega)]
    simp only [Option.bind_some]
    rw [aN (by rw [List.length_append,List.length_singleton];omega)]
    exact ⟨rfl,rfl⟩
end Go.Ev
/- Joining links into a link set, both programs. -/
namespace Go.Ev
set_option linter.all false
theorem aOq {r s:Rat} (hr:VZ r) (hs:VZ s) (h:¬bL r):RA r s=mT:=by
  have q:=(aAX hr hs).1
  unfold cW at q
  rw [dP r (VZs hr),decide_eq_false h] at q
  simpa [mT] using q.symm
noncomputable def tA:List Link→List Link→Rat→Option (List Link × Rat)
  | [],s,e=>some (s,e)
  | x::r,s,e=>match aAa s x with
    | none=>none
    | some (s',e')=>if bL (RA e e') then tA r s' (RA e e') else none
theorem aH8:∀ (l s:List Link) (e:Rat),(∀ x ∈ l,ValidL x)→LSet s→bL e→∀ s' e',tA l s e=some (s',e')→LSet s'∧bL e'
  | [],s,e,_,hs,he,s',e',h=>by rw [tA] at h;cases h;exact ⟨hs,he⟩
  | x::r,s,e,hv,hs,he,s',e',h=>by
    rw [tA] at h
    cases ha:aAa s x with
    | none=>rw [ha] at h;cases h
    | some t =>
      obtain ⟨s1,e1⟩:=t
      rw [ha] at h
      simp only [] at h
      obtain ⟨g1,g2⟩:=aHb hs (hv x (by simp)) ha
      by_cases c:bL (RA e e1)
      · rw [if_pos c] at h
        exact aH8 r s1 _ (fun y hy=>hv y (by simp [hy])) g1 c s' e' h
      · rw [if_neg c] at h;cases h
noncomputable instance (l:List Link):Decidable (∀ x ∈ l,ValidL x):=Classical.propDecidable _
def aBG:List Link × Rat × Bool:=([],mT,false)
theorem aJd (l:List Link) (hv:∀ x ∈ l,ValidL x) (hl:l.length≤4294967296):∀ m k:Nat,m+k=l.length→∀ s e,LSet s→VZ e →
    lp (gA l) (s,(k:Int),e)=some (match tA (l.drop k) s e with | some t=>.inl t | none=>.inr aBG):=by
  intro m
  induction m with
  | zero =>
    intro k hk s e hs he
    rw [List.drop_eq_nil_of_le (by omega),tA]
    exact aJ (by unfold gA;simp only [];rw [if_neg (by omega)])
  | succ m ih =>
    intro k hk s e hs he
    have hlt:k < l.length:=by omega
    have hx:=hv _ (List.getElem_mem hlt)
    have w1:IntKind.i64.wrap ((k:Int)+1)=((k+1:Nat):Int):=by rw [wi (by omega)];omega
    have a:=(aGp hs hx).2
    rw [List.drop_eq_getElem_cons hlt,tA]
    cases ha:aAa s l[k] with
    | none =>
      rw [ha] at a
      have g:=(aAX he aBp).2.1
      refine aJ ?_
      unfold gA
      simp only []
      rw [if_pos (by omega),aK hlt]
      simp only [Option.bind_some,a,pk,g]
      rfl
    | some t =>
      obtain ⟨s1,e1⟩:=t
      rw [ha] at a
      obtain ⟨g1,g2⟩:=aHb hs hx ha
      obtain ⟨_,q2,q3⟩:=aAX he g2
      have st:gA l (s,(k:Int),e)=some (if bL (RA e e1) then .inl (s1,((k+1:Nat):Int),RA e e1) else .inr (.inr aBG)):=by
        unfold gA
        simp only []
        rw [if_pos (by omega),aK hlt]
        simp only [Option.bind_some,a,pk,q2,iN q3,if_true,w1]
        by_cases c:bL (RA e e1)
        · simp [c]
        · simp [c,aBG,mT]
      simp only []
      by_cases c:bL (RA e e1)
      · rw [if_pos c] at st ⊢
        rw [aT st]
        exact ih (k+1) (by omega) s1 _ g1 q3
      · rw [if_neg c] at st ⊢
        rw [aJ st]
def aMg:(List Link × Rat) ⊕ (List Link × Rat × Bool)→List Link × Rat × Bool
  | .inl d=>if bL d.2 then (d.1,d.2,true) else aBG
  | .inr x=>x
theorem aJc (l:List Link) (hz:aF l≤4294967296):∀ m k:Nat,m+k=l.length→∀ s e,LSet s→VZ e →
    ∃ R,lp (eH l) (s,(k:Int),e)=some R∧(∀ d,R=.inl d→VZ d.2)∧aMg R=pk (if bL e∧(∀ x ∈ l.drop k,ValidL x) then tA (l.drop k) s e else none):=by
  have hl:l.length≤4294967296:=by have:=fT bN l;unfold aF at hz;omega
  intro m
  induction m with
  | zero =>
    intro k hk s e hs he
    refine ⟨.inl (s,e),aJ (by unfold eH;simp only [];rw [if_neg (by omega)]),fun d h=>(by cases h;exact he),?_⟩
    rw [List.drop_eq_nil_of_le (by omega),tA]
    by_cases c:bL e
    · simp [aMg,pk,c]
    · simp [aMg,pk,c,aBG]
  | succ m ih =>
    intro k hk s e hs he
    have hlt:k < l.length:=by omega
    have w1:IntKind.i64.wrap ((k:Int)+1)=((k+1:Nat):Int):=by rw [wi (by omega)];omega
    have hxz:bN l[k]≤4294967296:=by have:=mF (w:=bN) (List.getElem_mem hlt);unfold aF at hz;omega
    rw [List.drop_eq_getElem_cons hlt]
    by_cases hx:ValidL l[k]
    · have a:=(aGp hs hx).1
      rw [tA]
      cases ha:aAa s l[k] with
      | none =>
        rw [ha] at a
        refine ⟨.inr aBG,aJ ?_,fun d h=>(by cases h),?_⟩
        · unfold eH
          simp only []
          rw [if_pos (by omega),aK hlt]
          simp only [Option.bind_some,a,pk]
          rfl
        · simp [aMg,pk,aBG]
      | some t =>
        obtain ⟨s1,e1⟩:=t
        rw [ha] at a
        obtain ⟨g1,g2⟩:=aHb hs hx ha
        obtain ⟨q1,_,q3⟩:=aAX he g2
        have st:eH l (s,(k:Int),e)=some (.inl (s1,((k+1:Nat):Int),RA e e1)):=by
          unfold eH
          simp only []
          rw [if_pos (by omega),aK hlt]
          simp only [Option.bind_some,a,pk,q1,if_true,w1]
        obtain ⟨R,r1,r2,r3⟩:=ih (k+1) (by omega) s1 _ g1 q3
        refine ⟨R,by rw [aT st];exact r1,r2,?_⟩
        rw [r3]
        simp only []
        by_cases c:bL e
        · by_cases c2:bL (RA e e1)
          · have:(∀ x ∈ l[k]::l.drop (k+1),ValidL x)↔(∀ x ∈ l.drop (k+1),ValidL x):=⟨fun h x hx'=>h x (List.mem_cons_of_mem _ hx'),fun h x hx'=>by rcases List.mem_cons.1 hx' with rfl | h';exact hx;exact h x h'⟩
            simp only [c,c2,true_and,if_true,this]
          · simp only [c,c2,true_and,false_and,if_false,ite_self]
        · have c2:¬bL (RA e e1):=by rw [aOq he g2 c];exact aAo
          simp only [c,c2,false_and,if_false]
    · refine ⟨.inr aBG,aJ ?_,fun d h=>(by cases h),?_⟩
      · unfold eH
        simp only []
        rw [if_pos (by omega),aK hlt]
        have a:mH s l[k]=some aBG:=by
          unfold mH
          rw [kT s (by have:=hs.sz;omega),(fS l[k] hxz).1,decide_eq_true hs,decide_eq_false hx]
          rfl
        simp only [Option.bind_some,a,aBG]
        rfl
      · rw [if_neg (fun h=>hx (h.2 _ List.mem_cons_self))];rfl
theorem aGs (l:List Link) (hz:aF l≤4294967296):nF l=some (decide (∀ x ∈ l,ValidL x)):=by
  have hl:l.length≤4294967296:=by have:=fT bN l;unfold aF at hz;omega
  have main:∀ m k:Nat,m+k=l.length→lp (gO l) (k:Int)=some (if (∀ x ∈ l.drop k,ValidL x) then .inl () else .inr false):=by
    intro m
    induction m with
    | zero =>
      intro k hk
      rw [List.drop_eq_nil_of_le (by omega),if_pos (by simp)]
      exact aJ (by unfold gO;rw [if_neg (by omega)])
    | succ m ih =>
      intro k hk
      have hlt:k < l.length:=by omega
      have w1:IntKind.i64.wrap ((k:Int)+1)=((k+1:Nat):Int):=by rw [wi (by omega)];omega
      have v:=(fS l[k] (by have:=mF (w:=bN) (List.getElem_mem hlt);unfold aF at hz;omega)).2
      have st:gO l (k:Int)=some (if ValidL l[k] then .inl ((k+1:Nat):Int) else .inr (.inr false)):=by
        unfold gO
        rw [if_pos (by omega),aK hlt]
        simp only [Option.bind_some,v,w1]
        by_cases c:ValidL l[k] <;> simp [c]
      rw [List.drop_eq_getElem_cons hlt]
      by_cases c:ValidL l[k]
      · rw [if_pos c] at st
        rw [aT st,ih (k+1) (by omega)]
        have:(∀ x ∈ l[k]::l.drop (k+1),ValidL x)↔(∀ x ∈ l.drop (k+1),ValidL x):=⟨fun h x hx'=>h x (List.mem_cons_of_mem _ hx'),fun h x hx'=>by rcases List.mem_cons.1 hx' with rfl | h';exact c;exact h x h'⟩
        simp only [this]
      · rw [if_neg c] at st
        rw [aJ st,if_neg (fun h=>c (h _ List.mem_cons_self))]
  have:=main l.length 0 (by omega)
  unfold nF
  rw [show ((0:Nat):Int)=0 from rfl,List.drop_zero] at this
  rw [this]
  by_cases c:∀ x ∈ l,ValidL x
  · rw [if_pos c,decide_eq_true c];rfl
  · rw [if_neg c,decide_eq_false c];rfl
theorem aA0:LSet []:=⟨by simp,List.Pairwise.nil⟩
theorem aA4:bL (pM 0):=zD 0 (by omega)
noncomputable def jnP (l:List Link):Option (List Link × Rat):=if ∀ x ∈ l,ValidL x then tA l [] (pM 0) else none
theorem zR {l s:List Link} {e:Rat} (h:jnP l=some (s,e)):(∀ x ∈ l,ValidL x)∧LSet s∧bL e:=by
  unfold jnP at h
  by_cases c:∀ x ∈ l,ValidL x
  · rw [if_pos c] at h
    exact ⟨c,aH8 l [] _ c aA0 aA4 s e h⟩
  · rw [if_neg c] at h;cases h
theorem aAK {l:List Link} (hv:∀ x ∈ l,ValidL x) (hl:l.length≤4294967296):jR l=some (pk (jnP l)):=by
  unfold jR jnP
  rw [kR 0 (by omega),if_pos hv]
  simp only [Option.bind_some]
  have:=aJd l hv hl l.length 0 (by omega) [] (pM 0) aA0 (.inl aA4)
  rw [show ((0:Nat):Int)=0 from rfl,List.drop_zero] at this
  rw [this]
  cases tA l [] (pM 0) with
  | none=>rfl
  | some t=>rfl
theorem xL (l:List Link) (hz:aF l≤4294967296):hU l=some (pk (jnP l))∧pH l=some (pk (jnP l)):=by
  have hl:l.length≤4294967296:=by have:=fT bN l;unfold aF at hz;omega
  constructor
  · unfold hU
    rw [bO 0 (by omega)]
    simp only [Option.bind_some]
    obtain ⟨R,r1,r2,r3⟩:=aJc l hz l.length 0 (by omega) [] (pM 0) aA0 (.inl aA4)
    rw [show ((0:Nat):Int)=0 from rfl] at r1
    rw [List.drop_zero] at r3
    rw [r1]
    have e:(if bL (pM 0)∧(∀ x ∈ l,ValidL x) then tA l [] (pM 0) else none)=jnP l:=by unfold jnP;simp only [aA4,true_and]
    rw [← e,← r3]
    cases R with
    | inl d =>
      simp only [Option.bind_some]
      rw [dP d.2 (VZs (r2 d rfl))]
      simp only [Option.bind_some,aMg]
      by_cases c:bL d.2
      · rw [decide_eq_true c,if_pos c];rfl
      · rw [decide_eq_false c,if_neg c];rfl
    | inr x=>rfl
  · unfold pH
    rw [aGs l hz]
    simp only [Option.bind_some]
    by_cases c:∀ x ∈ l,ValidL x
    · rw [decide_eq_true c,if_pos rfl,aAK c hl]
      simp only [Option.bind_some]
      cases hj:jnP l with
      | none=>rfl
      | some t =>
        obtain ⟨s,e⟩:=t
        obtain ⟨_,g1,_⟩:=zR hj
        simp only [pk,if_true]
        rw [pS s (by have:=g1.sz;omega)]
        rfl
    · rw [decide_eq_false c]
      unfold jnP
      rw [if_neg c];rfl
end Go.Ev
/- Cliques: their nodes in order. -/
namespace Go.Ev
set_option linter.all false
theorem yZ:∀ {a b:List Int},a.Pairwise (· < ·)→b.Pairwise (· < ·)→(∀ x,x ∈ a↔x ∈ b)→a=b
  | [],[],_,_,_=>rfl
  | [],y::b,_,_,h=>absurd ((h y).2 (by simp)) (by simp)
  | x::a,[],_,_,h=>absurd ((h x).1 (by simp)) (by simp)
  | x::a,y::b,ha,hb,h=>by
    rw [List.pairwise_cons] at ha hb
    have hxy:x=y:=by
      have h1:=(h x).1 (by simp)
      have h2:=(h y).2 (by simp)
      rcases List.mem_cons.1 h1 with e | e
      · exact e
      · rcases List.mem_cons.1 h2 with e' | e'
        · exact e'.symm
        · have:=hb.1 x e;have:=ha.1 y e';omega
    subst hxy
    have:a=b:=yZ ha.2 hb.2 (fun z=>by
      constructor
      · intro hz
        have:=(h z).1 (by simp [hz])
        rcases List.mem_cons.1 this with e | e
        · subst e;have:=ha.1 z hz;omega
        · exact e
      · intro hz
        have:=(h z).2 (by simp [hz])
        rcases List.mem_cons.1 this with e | e
        · subst e;have:=hb.1 z hz;omega
        · exact e)
    rw [this]
def aAm:List Int→Int→List Int
  | [],n=>[n]
  | x::l,n=>if x < n then x::aAm l n else if x=n then x::l else n::x::l
theorem yF:∀ (l:List Int) (n x:Int),x ∈ aAm l n↔x=n∨x ∈ l
  | [],n,x=>by simp [aAm]
  | y::l,n,x=>by
    unfold aAm
    by_cases h1:y < n
    · rw [if_pos h1,List.mem_cons,List.mem_cons,yF l n x]
      constructor
      · rintro (h | h | h) <;> simp [h]
      · rintro (h | h | h) <;> simp [h]
    · rw [if_neg h1]
      by_cases h2:y=n
      · rw [if_pos h2];subst h2;simp
      · rw [if_neg h2];simp
theorem uK:∀ (l:List Int) (n:Int),l.Pairwise (· < ·)→(aAm l n).Pairwise (· < ·)
  | [],n,_=>by simp [aAm]
  | y::l,n,h=>by
    unfold aAm
    rw [List.pairwise_cons] at h
    by_cases h1:y < n
    · rw [if_pos h1,List.pairwise_cons]
      exact ⟨fun x hx=>by rcases (yF l n x).1 hx with e | e;omega;exact h.1 x e,uK l n h.2⟩
    · rw [if_neg h1]
      by_cases h2:y=n
      · rw [if_pos h2,List.pairwise_cons];exact h
      · rw [if_neg h2,List.pairwise_cons]
        exact ⟨fun x hx=>by rcases List.mem_cons.1 hx with e | e;omega;have:=h.1 x e;omega,List.pairwise_cons.2 h⟩
theorem yG:∀ (l:List Int) (n:Int),(aAm l n).length≤l.length+1
  | [],n=>by simp [aAm]
  | y::l,n=>by
    unfold aAm
    split
    · simp [yG l n]
    · split <;> simp
def mQ (l:List Int) (n:Int):Nat:=(l.takeWhile (fun x=>decide (x < n))).length
theorem aJh (l:List Int) (n:Int):mQ l n≤l.length:=by
  unfold mQ
  induction l with
  | nil=>simp
  | cons x l ih =>
    rw [List.takeWhile_cons]
    split
    · simpa using ih
    · simp
theorem aCq (x:Int) (l:List Int) (n:Int):mQ (x::l) n=if x < n then mQ l n+1 else 0:=by
  unfold mQ
  rw [List.takeWhile_cons]
  by_cases h:x < n <;> simp [h]
theorem aJM:∀ (l:List Int) (n:Int),aAm l n=if l[mQ l n]?=some n then l else l.take (mQ l n)++[n]++l.drop (mQ l n)
  | [],n=>by simp [aAm,mQ]
  | x::l,n=>by
    rw [aCq]
    unfold aAm
    by_cases h:x < n
    · rw [if_pos h,if_pos h,aJM l n]
      simp only [List.getElem?_cons_succ,List.take_succ_cons,List.drop_succ_cons]
      split <;> simp
    · rw [if_neg h,if_neg h]
      by_cases h2:x=n <;> simp [h2]
theorem aLx (l:List Int) (n:Int) (h:l.length≤4294967296):lp (fU l n) 0=some ((mQ l n:Nat):Int):=by
  have main:∀ m k:Nat,m+k=l.length→lp (fU l n) (k:Int)=some ((k+mQ (l.drop k) n:Nat):Int):=by
    intro m
    induction m with
    | zero =>
      intro k hk
      have:k=l.length:=by omega
      subst this
      rw [aJ (r:=(l.length:Int)) (by unfold fU;rw [if_neg (by omega)];rfl),List.drop_length];simp [mQ]
    | succ m ih =>
      intro k hk
      have hlt:k < l.length:=by omega
      rw [List.drop_eq_getElem_cons hlt,aCq]
      by_cases c:l[k] < n
      · rw [if_pos c]
        have e:fU l n (k:Int)=some (.inl ((k:Int)+1)):=by
          unfold fU
          rw [if_pos (by omega),aK hlt,wi (by omega)]
          simp [c]
        rw [aT e,show (k:Int)+1=((k+1:Nat):Int) by omega,ih (k+1) (by omega)]
        congr 2;omega
      · rw [if_neg c]
        have e:fU l n (k:Int)=some (.inr (k:Int)):=by
          unfold fU
          rw [if_pos (by omega),aK hlt]
          simp [c]
        rw [aJ e];simp
  have:=main l.length 0 (by omega)
  simpa using this
theorem aHC (l:List Int) (n:Int) (h:l.length≤4294967296):mC l n=some (aAm l n):=by
  have hf:=aJh l n
  unfold mC
  rw [aLx l n h,aJM]
  simp only [Option.bind_some]
  by_cases hlt:mQ l n < l.length
  · rw [if_pos (by omega),aK hlt,List.getElem?_eq_getElem hlt]
    simp only [Option.bind_some,decide_eq_true_eq,Option.some.injEq]
    by_cases c:l[mQ l n]=n
    · rw [if_pos c,if_pos c]
    · rw [if_neg c,if_neg c,qW _ _ _ (by omega),qW _ _ _ (by omega)]
      simp only [Option.bind_some,aO,List.nil_append]
      rw [aN (by simp;omega),aN (by simp;omega),aN (by simp;omega)]
      simp only [Option.bind_some]
      simp
      rw [List.take_of_length_le (by simp)]
  · have:mQ l n=l.length:=by omega
    rw [if_neg (by omega),this,if_neg (by simp)]
    simp only [Option.bind_some,Bool.false_eq_true,if_false]
    rw [qW _ _ _ (by omega),qW _ _ _ (by omega)]
    simp only [Option.bind_some,aO,List.nil_append]
    rw [aN (by simp;omega),aN (by simp;omega),aN (by simp;omega)]
    simp
end Go.Ev
/- The arms of a node of a link set, both programs. -/
namespace Go.Ev
set_option linter.all false
def qJ (v:Int) (l:Link):Int:=if l.fA=v then l.fB else l.fA
def tch (v:Int) (l:Link):Bool:=decide (l.fA=v∨l.fB=v)
noncomputable def aAl (v:Int) (l:Link):l08Arm:=if l.fA=v then ⟨l.fB,l.fWeight,RN l.fDX,RN l.fDY⟩ else ⟨l.fA,l.fWeight,l.fDX,l.fDY⟩
noncomputable def bK (v:Int) (s:List Link):List l08Arm:=(s.filter (tch v)).map (aAl v)
theorem zZ (v:Int) (l:Link):(aAl v l).fnode=qJ v l:=by unfold aAl qJ;split <;> rfl
theorem aF1 {s:List Link} (hs:LSet s) (v:Int):((s.filter (tch v)).map (qJ v)).Pairwise (· < ·):=by
  rw [List.pairwise_map]
  refine List.Pairwise.imp_of_mem (fun {a b} ha hb hr=>?_) (hs.2.sublist List.filter_sublist)
  rw [List.mem_filter] at ha hb
  have h1:=hs.1 a ha.1
  have h2:=hs.1 b hb.1
  have t1:=ha.2
  have t2:=hb.2
  unfold tch at t1 t2
  rw [decide_eq_true_eq] at t1 t2
  unfold ValidL at h1 h2
  unfold eO at hr
  unfold qJ
  split <;> split <;> omega
theorem aN3 {s:List Link} (hs:LSet s) (v:Int):sD s v=some ((s.filter (tch v)).map (qJ v)):=by
  have hlen:=hs.len
  unfold sD
  obtain ⟨e1,e2⟩:=jN (step:=mV s v) s (fun k t=>(t,(k:Int))) (fun t l=>if tch v l then aAm t (qJ v l) else t) (fun t=>t)
    (fun k t=>t.length≤k∧t.Pairwise (· < ·)∧∀ x,x ∈ t↔x ∈ ((s.take k).filter (tch v)).map (qJ v)) (fun k t hk hI=>by
      obtain ⟨i1,i2,i3⟩:=hI
      have hv:=hs.1 _ (List.getElem_mem hk)
      have w1:IntKind.i64.wrap ((k:Int)+1)=((k+1:Nat):Int):=by rw [wi (by omega)];omega
      refine ⟨?_,?_,?_,?_⟩
      · unfold mV
        simp only []
        rw [if_pos (by omega),aK hk]
        unfold ValidL at hv
        simp only [Option.bind_some,aHC t _ (by omega:t.length≤4294967296),w1]
        by_cases A:(s[k]).fA=v
        · have B:¬(s[k]).fB=v:=by omega
          simp [A,B,tch,qJ]
        · by_cases B:(s[k]).fB=v
          · rw [if_neg A]
            simp only [Option.bind_some]
            rw [if_pos B,aHC t _ (by omega:t.length≤4294967296)]
            simp [A,B,tch,qJ]
          · simp [A,B,tch,qJ]
      · have:=yG t (qJ v s[k])
        split <;> omega
      · split
        · exact uK _ _ i2
        · exact i2
      · intro x
        have tk:s.take (k+1)=s.take k++[s[k]]:=by rw [List.take_add_one,List.getElem?_eq_getElem hk];rfl
        rw [tk,List.filter_append,List.map_append,List.mem_append,← i3 x]
        by_cases T:tch v s[k]=true
        · simp only [T,if_true,yF,List.filter_cons_of_pos,List.filter_nil,List.map_cons,List.map_nil,List.mem_singleton]
          exact Or.comm
        · simp [T]) (fun t _=>by unfold mV;simp only [];rw [if_neg (by omega)]) [] ⟨by simp,List.Pairwise.nil,by simp⟩
  rw [show ((0:Nat):Int)=0 from rfl] at e1
  rw [e1]
  simp only [Option.bind_some]
  congr 1
  obtain ⟨_,g2,g3⟩:=e2
  rw [List.take_length] at g3
  exact yZ g2 (aF1 hs v) g3
theorem LSet.uniq {s:List Link} (hs:LSet s) {a b:Link} (ha:a ∈ s) (hb:b ∈ s) (h1:a.fA=b.fA) (h2:a.fB=b.fB):a=b:=by
  obtain ⟨i,hi,rfl⟩:=List.getElem_of_mem ha
  obtain ⟨j,hj,rfl⟩:=List.getElem_of_mem hb
  have pw:=List.pairwise_iff_getElem.1 hs.2
  rcases Nat.lt_trichotomy i j with h | h | h
  · have:=pw i j hi hj h;unfold eO at this;omega
  · subst h;rfl
  · have:=pw j i hj hi h;unfold eO at this;omega
theorem aN8 (p q r t:Prop) [Decidable p] [Decidable q] [Decidable r] [Decidable t]:((if p then (if q then some true else (if r then some (decide t) else some false)) else (if r then some (decide t) else some false)):Option Bool)=some (decide ((p∧q)∨(r∧t))):=by
  by_cases p <;> by_cases q <;> by_cases r <;> by_cases t <;> simp [*]
theorem aMH {s:List Link} (hs:LSet s) {v:Int} {l:Link} (hl:l ∈ s) (ht:tch v l=true):uH s (qJ v l) v=some (l,true):=by
  have hlen:=hs.len
  have hv:=hs.1 l hl
  unfold uH
  rw [kT s (by have:=hs.sz;omega),decide_eq_true hs]
  simp only [Option.bind_some,if_true]
  obtain ⟨r,e,q⟩:=aKF (step:=oT s (qJ v l) v) s.length (fun r=>r=.inr (l,true)) (fun k=>l ∈ s.drop k) (by simpa using hl) (fun k hk hj=>by
    have hx:=hs.1 _ (List.getElem_mem hk)
    have w1:IntKind.i64.wrap ((k:Int)+1)=((k+1:Nat):Int):=by rw [wi (by omega)];omega
    rw [List.drop_eq_getElem_cons hk] at hj
    have st:oT s (qJ v l) v (k:Int)=some (if (((s[k]).fA=qJ v l∧(s[k]).fB=v)∨((s[k]).fA=v∧(s[k]).fB=qJ v l)) then .inr (.inr (s[k],true)) else .inl ((k+1:Nat):Int)):=by
      unfold oT
      rw [if_pos (by omega),aK hk]
      simp only [Option.bind_some,w1,sF s[k] (by have:=hx.sz;omega)]
      rw [aN8]
      simp only [Option.bind_some]
      by_cases c:((s[k]).fA=qJ v l∧(s[k]).fB=v)∨((s[k]).fA=v∧(s[k]).fB=qJ v l)
      · rw [if_pos c,decide_eq_true c];rfl
      · rw [if_neg c,decide_eq_false c];rfl
    unfold tch at ht
    rw [decide_eq_true_eq] at ht
    unfold ValidL at hx hv
    by_cases c:((s[k]).fA=qJ v l∧(s[k]).fB=v)∨((s[k]).fA=v∧(s[k]).fB=qJ v l)
    · rw [if_pos c] at st
      right
      refine ⟨_,st,?_⟩
      have:s[k]=l:=by
        refine hs.uniq (List.getElem_mem hk) hl ?_ ?_
        · unfold qJ at c;split at c <;> omega
        · unfold qJ at c;split at c <;> omega
      rw [this]
    · rw [if_neg c] at st
      left
      refine ⟨st,?_⟩
      rcases List.mem_cons.1 hj with e | e
      · exfalso;apply c
        rw [← e];unfold qJ;split <;> omega
      · exact e) (fun hj=>by rw [List.drop_length] at hj;cases hj)
  rw [e,q];rfl
theorem aNM {r:Rat} (h:VZ r):VZ (RN r):=(aK4 h).2.2
def tB (a:l08Arm):Prop:=(0≤a.fnode∧a.fnode≤9)∧VZ a.fweight∧VZ a.fdx∧VZ a.fdy
theorem aIu {v:Int} {l:Link} (h:ValidL l):tB (aAl v l):=by
  obtain ⟨h1,h2,h3⟩:=h.vz
  unfold aAl
  split
  · exact ⟨h.2.1,h1,aNM h2,aNM h3⟩
  · exact ⟨h.1,h1,h2,h3⟩
theorem aFd {s:List Link} (hs:LSet s) (v:Int):∀ a ∈ bK v s,tB a:=by
  intro a ha
  obtain ⟨l,hl,rfl⟩:=List.mem_map.1 ha
  exact aIu (hs.1 l (List.mem_filter.1 hl).1)
theorem aBj {s:List Link} (hs:LSet s) (v:Int):(bK v s).length≤100:=by
  have:=hs.len
  have:=List.length_filter_le (tch v) s
  unfold bK
  rw [List.length_map];omega
theorem aGj {s:List Link} (hs:LSet s) (v:Int):((bK v s).map (·.fnode)).Pairwise (· < ·):=by
  have:=aF1 hs v
  unfold bK
  rw [List.map_map]
  have e:(fun a:l08Arm=>a.fnode) ∘ aAl v=qJ v:=by funext l;exact zZ v l
  rw [e];exact this
theorem aOh {s:List Link} (hs:LSet s) (v:Int):sC s v=some (bK v s):=by
  have hal:=aBj hs v
  unfold sC
  rw [aN3 hs v]
  simp only [Option.bind_some]
  have hfl:((s.filter (tch v)).map (qJ v)).length=(bK v s).length:=by unfold bK;rw [List.length_map,List.length_map]
  have:=yM (step:=mU s v ((s.filter (tch v)).map (qJ v))) (bK v s) (fun k t=>((k:Int),t)) (fun t=>t) (fun k t hk ht=>by
    have hk2:k < (s.filter (tch v)).length:=by unfold bK at hk;rwa [List.length_map] at hk
    have hk3:k < ((s.filter (tch v)).map (qJ v)).length:=by rwa [List.length_map]
    have hm:=List.mem_filter.1 (List.getElem_mem hk2)
    have w1:IntKind.i64.wrap ((k:Int)+1)=((k+1:Nat):Int):=by rw [wi (by omega)];omega
    have hv:=hs.1 _ hm.1
    obtain ⟨v1,v2,v3⟩:=hv.vz
    have g:=aMH hs hm.1 hm.2
    have ea:(bK v s)[k]=aAl v (s.filter (tch v))[k]:=by simp only [bK,List.getElem_map]
    unfold mU
    simp only []
    rw [if_pos (by omega),aK hk3,List.getElem_map]
    simp only [Option.bind_some,g,(aK4 v2).1,(aK4 v3).1,w1]
    rw [ea]
    unfold aAl
    by_cases A:((s.filter (tch v))[k]).fA=v
    · rw [if_pos A,if_pos A]
      simp only [Option.bind_some,qJ,A,if_true]
      rw [aN (by omega)];rfl
    · rw [if_neg A,if_neg A]
      simp only [Option.bind_some,qJ,A,if_false]
      rw [aN (by omega)];rfl) (fun t ht=>by unfold mU;simp only [];rw [if_neg (by omega)])
  rw [show ((0:Nat):Int)=0 from rfl] at this
  rw [this];rfl
end Go.Ev
/- Eliminating a node of a link set, both programs. -/
namespace Go.Ev
open IntKind
set_option linter.all false
noncomputable def qA (a:List l08Arm):Rat:=a.foldl (fun t a=>RA t a.fweight) (pM 0)
noncomputable def fI (t:Rat) (a:l08Arm):Parent:=⟨a.fnode,RD a.fweight t,a.fdx,a.fdy⟩
noncomputable def rQ (t:Rat) (a b:l08Arm):Link:=⟨a.fnode,b.fnode,RD (RM a.fweight b.fweight) t,RS a.fdx b.fdx,RS a.fdy b.fdy⟩
noncomputable def gJ (t:Rat):List l08Arm→List Link
  | []=>[]
  | a::r=>r.map (rQ t a)++gJ t r
noncomputable def yQ (v:Int) (a:List l08Arm):Conditional:=⟨v,qA a,a.map (fI (qA a))⟩
def condOk (v:Int) (a:List l08Arm):Prop:=bC (yQ v a)=some true
noncomputable instance (v:Int) (a:List l08Arm):Decidable (condOk v a):=Classical.propDecidable _
noncomputable def uQ (v:Int) (s:List Link):Option (Conditional × List Link) :=
  if (1≤v∧v≤9)∧condOk v (bK v s)∧(∀ x ∈ gJ (qA (bK v s)) (bK v s),ValidL x) then some (yQ v (bK v s),gJ (qA (bK v s)) (bK v s)) else none
theorem aG5 {v:Int} {s:List Link} (h:(1≤v∧v≤9)∧condOk v (bK v s)∧(∀ x ∈ gJ (qA (bK v s)) (bK v s),ValidL x)):uQ v s=some (yQ v (bK v s),gJ (qA (bK v s)) (bK v s)):=by unfold uQ;rw [if_pos h]
theorem aBf {v:Int} {s:List Link} (h:¬((1≤v∧v≤9)∧condOk v (bK v s)∧(∀ x ∈ gJ (qA (bK v s)) (bK v s),ValidL x))):uQ v s=none:=by unfold uQ;rw [if_neg h]
def aDQ:Conditional:=Conditional.mk 0 (Rat.mk (BigInt.mk false ([])) ([])) ([])
def pkE:Option (Conditional × List Link)→Conditional × List Link × Bool
  | some (c,m)=>(c,m,true)
  | none=>(aDQ,[],false)
theorem aId:∀ (a:List l08Arm) (t:Rat),(∀ x ∈ a,tB x)→VZ t→VZ (a.foldl (fun t a=>RA t a.fweight) t)
  | [],t,_,h=>h
  | x::a,t,ho,h=>aId a _ (fun y hy=>ho y (by simp [hy])) (aAX h (ho x (by simp)).2.1).2.2
theorem yX {a:List l08Arm} (h:∀ x ∈ a,tB x):VZ (qA a):=aId a _ h (.inl aA4)
theorem aBP {α β:Type} (g:α→β):∀ (l:List α) (t:List β),l.foldl (fun t b=>t++[g b]) t=t++l.map g
  | [],t=>by simp
  | x::l,t=>by rw [List.foldl_cons,aBP g l,List.map_cons,List.append_assoc];rfl
theorem aHU {t:Rat} {a b:l08Arm} (ht:VZ t) (ha:tB a) (hb:tB b):bN (rQ t a b)≤144:=by
  have h1:=oH (aFl (aDD ha.2.1 hb.2.1).2.2 ht).2.2
  have h2:=oH (aHf ha.2.2.1 hb.2.2.1).2.2
  have h3:=oH (aHf ha.2.2.2 hb.2.2.2).2.2
  unfold bN rQ;simp only [];omega
theorem aJU {t:Rat} (ht:VZ t):∀ {a:List l08Arm},(∀ x ∈ a,tB x)→∀ x ∈ gJ t a,bN x≤144
  | [],_,x,hx=>by cases hx
  | a::r,h,x,hx=>by
    rw [gJ] at hx
    rcases List.mem_append.1 hx with hx | hx
    · obtain ⟨b,hb,rfl⟩:=List.mem_map.1 hx
      exact aHU ht (h a (by simp)) (h b (by simp [hb]))
    · exact aJU ht (fun y hy=>h y (by simp [hy])) x hx
theorem aEz (t:Rat):∀ {a:List l08Arm} {n:Nat},a.length≤n→(gJ t a).length≤n*a.length
  | [],n,_=>by simp [gJ]
  | a::r,n,h=>by
    rw [List.length_cons] at h
    have:=aEz t (a:=r) (n:=n) (by omega)
    rw [gJ,List.length_append,List.length_map,List.length_cons,Nat.mul_add,Nat.mul_one];omega
theorem aLU (t:Rat):∀ {a:List l08Arm} {x:Link},x ∈ gJ t a→∃ y ∈ a,x.fA=y.fnode
  | [],x,hx=>by cases hx
  | a::r,x,hx=>by
    rw [gJ] at hx
    rcases List.mem_append.1 hx with hx | hx
    · obtain ⟨b,hb,rfl⟩:=List.mem_map.1 hx
      exact ⟨a,by simp,rfl⟩
    · obtain ⟨y,hy,e⟩:=aLU t hx
      exact ⟨y,by simp [hy],e⟩
theorem aHW (t:Rat):∀ {a:List l08Arm},(a.map (·.fnode)).Pairwise (· < ·)→(gJ t a).Pairwise eO
  | [],_=>List.Pairwise.nil
  | a::r,h=>by
    rw [List.map_cons,List.pairwise_cons] at h
    rw [gJ,List.pairwise_append]
    refine ⟨?_,aHW t h.2,fun x hx y hy=>?_⟩
    · rw [List.pairwise_map]
      have:=h.2
      rw [List.pairwise_map] at this
      exact this.imp (fun {b c} hbc=>.inr ⟨rfl,hbc⟩)
    · obtain ⟨b,hb,rfl⟩:=List.mem_map.1 hx
      obtain ⟨z,hz,e⟩:=aLU t hy
      exact .inl (by rw [e];exact h.1 _ (List.mem_map.2 ⟨z,hz,rfl⟩))
theorem aF4 {t:Rat} {a:List l08Arm} (h:(a.map (·.fnode)).Pairwise (· < ·)):LSet (gJ t a)↔∀ x ∈ gJ t a,ValidL x:=⟨fun g=>g.1,fun g=>⟨g,aHW t h⟩⟩
theorem aKP {a:List l08Arm} (ha:∀ x ∈ a,tB x) (hl:a.length≤100):lp (eU a) (0,pM 0)=some (qA a):=by
  have:=(jN (step:=eU a) a (fun k t=>((k:Int),t)) (fun t a=>RA t a.fweight) (fun t=>t) (fun _ t=>VZ t) (fun k t hk hi=>by
    have w1:i64.wrap ((k:Int)+1)=((k+1:Nat):Int):=by rw [wi (by omega)];omega
    obtain ⟨q1,_,q3⟩:=aAX hi (ha _ (List.getElem_mem hk)).2.1
    refine ⟨?_,q3⟩
    unfold eU
    simp only []
    rw [if_pos (by omega),aK hk]
    simp only [Option.bind_some,q1,w1]) (fun t _=>by unfold eU;simp only [];rw [if_neg (by omega)]) (pM 0) (.inl aA4)).1
  rw [show ((0:Nat):Int)=0 from rfl] at this
  exact this
theorem aKR {a:List l08Arm} {t:Rat} (ht:VZ t) (ha:∀ x ∈ a,tB x) (hl:a.length≤100):lp (eT a t) (0,[])=some (a.map (fI t)):=by
  have:=yM (step:=eT a t) (a.map (fI t)) (fun k t=>((k:Int),t)) (fun t=>t) (fun k u hk hu=>by
    have hk2:k < a.length:=by rwa [List.length_map] at hk
    have w1:i64.wrap ((k:Int)+1)=((k+1:Nat):Int):=by rw [wi (by omega)];omega
    have ho:=ha _ (List.getElem_mem hk2)
    have q:=(aFl ho.2.1 ht).1
    unfold eT
    simp only []
    rw [if_pos (by omega),aK hk2]
    simp only [Option.bind_some,q,oP _ (VZs ho.2.2.1),oP _ (VZs ho.2.2.2),w1]
    rw [aN (by omega)]
    simp only [Option.bind_some,rR,List.getElem_map]
    rfl) (fun u hu=>by unfold eT;simp only [];rw [List.length_map,if_neg (by omega)])
  rw [show ((0:Nat):Int)=0 from rfl] at this
  exact this
theorem aKQ {r:List l08Arm} {x:l08Arm} {t:Rat} (ht:VZ t) (hx:tB x) (hr:∀ y ∈ r,tB y) (hl:r.length≤100) (acc:List Link) (hacc:acc.length≤1000000) :
    lp (eR r x t) (0,acc)=some (acc++r.map (rQ t x)):=by
  have:=(jN (step:=eR r x t) r (fun k u=>((k:Int),u)) (fun u b=>u++[rQ t x b]) (fun u=>u) (fun k u=>u.length≤1000000+k) (fun k u hk hi=>by
    have w1:i64.wrap ((k:Int)+1)=((k+1:Nat):Int):=by rw [wi (by omega)];omega
    have ho:=hr _ (List.getElem_mem hk)
    have q0:=aDD hx.2.1 ho.2.1
    have q1:=(aFl q0.2.2 ht).1
    have q2:=(aHf hx.2.2.1 ho.2.2.1).1
    have q3:=(aHf hx.2.2.2 ho.2.2.2).1
    refine ⟨?_,by rw [List.length_append,List.length_singleton];omega⟩
    unfold eR
    simp only []
    rw [if_pos (by omega),aK hk]
    simp only [Option.bind_some,q0.1,q1,q2,q3,w1]
    rw [aN (by omega)]
    rfl) (fun u _=>by unfold eR;simp only [];rw [if_neg (by omega)]) acc (by omega)).1
  rw [show ((0:Nat):Int)=0 from rfl,aBP] at this
  exact this
theorem aLh {α:Type} (l:List α) (k:Nat) (hk:k+1≤l.length) (hl:l.length≤4294967296):sub l (i64.wrap ((k:Int)+1)) (l.length:Int)=some (l.drop (k+1)):=by
  have w1:i64.wrap ((k:Int)+1)=((k+1:Nat):Int):=by rw [wi (by omega)];omega
  rw [w1,qW _ _ _ (by omega)];congr 1
  rw [List.take_of_length_le];rfl
  rw [List.length_drop];omega
theorem aJi {a:List l08Arm} {t:Rat} (ht:VZ t) (ha:∀ x ∈ a,tB x) (hl:a.length≤100):lp (dG a t) (0,[])=some (gJ t a):=by
  have main:∀ m k:Nat,m+k=a.length→∀ acc:List Link,acc.length≤100*k→lp (dG a t) ((k:Int),acc)=some (acc++gJ t (a.drop k)):=by
    intro m
    induction m with
    | zero =>
      intro k hk acc hacc
      rw [List.drop_eq_nil_of_le (by omega),gJ,List.append_nil]
      exact aJ (by unfold dG;simp only [];rw [if_neg (by omega)])
    | succ m ih =>
      intro k hk acc hacc
      have hlt:k < a.length:=by omega
      have w1:i64.wrap ((k:Int)+1)=((k+1:Nat):Int):=by rw [wi (by omega)];omega
      rw [List.drop_eq_getElem_cons hlt,gJ]
      have row:=aKQ (r:=a.drop (k+1)) ht (ha _ (List.getElem_mem hlt)) (fun y hy=>ha y (List.mem_of_mem_drop hy)) (by rw [List.length_drop];omega) acc (by omega)
      have st:dG a t ((k:Int),acc)=some (.inl (((k+1:Nat):Int),acc++(a.drop (k+1)).map (rQ t a[k]))):=by
        unfold dG
        simp only []
        rw [if_pos (by omega),aK hlt,aLh a k (by omega) (by omega)]
        simp only [Option.bind_some,row,w1]
      rw [aT st,ih (k+1) (by omega) _ (by rw [List.length_append,List.length_map,List.length_drop];omega),List.append_assoc]
  have:=main a.length 0 (by omega) [] (by simp)
  rw [show ((0:Nat):Int)=0 from rfl,List.drop_zero,List.nil_append] at this
  exact this
theorem aG7 {v:Int} {a:List l08Arm} (ha:∀ x ∈ a,tB x) (hl:a.length≤100):aS (yQ v a)≤4294967296:=by
  have h1:=oH (yX ha)
  have h2:mB (a.map (fI (qA a)))≤145*(a.map (fI (qA a))).length:=aCE (c:=144) (fun p hp=>by
    obtain ⟨x,hx,rfl⟩:=List.mem_map.1 hp
    have ho:=ha x hx
    have g1:=oH (aFl ho.2.1 (yX ha)).2.2
    have g2:=oH ho.2.2.1
    have g3:=oH ho.2.2.2
    unfold iR fI;simp only [];omega)
  rw [List.length_map] at h2
  unfold aS yQ;simp only [];omega
theorem aNd {s:List Link} (hs:LSet s) (v:Int):jK s v=some (pkE (uQ v s)):=by
  have ha:=aFd hs v
  have hl:=aBj hs v
  have ht:=yX ha
  obtain ⟨b,b1,b2,_⟩:=aKe _ (aG7 (v:=v) ha hl)
  have inc:=aGj hs v
  unfold jK
  rw [kT s (by have:=hs.sz;omega),decide_eq_true hs,xG]
  simp only [Option.bind_some,if_true]
  by_cases c:1≤v∧v≤9
  · rw [decide_eq_true c]
    simp only [Bool.not_true,Bool.false_eq_true,if_false]
    rw [aOh hs v,bO 0 (by omega)]
    simp only [Option.bind_some]
    rw [aKP ha hl]
    simp only [Option.bind_some]
    rw [aKR ht ha hl]
    simp only [Option.bind_some]
    rw [aJi ht ha hl]
    simp only [Option.bind_some]
    have e:(Conditional.mk v (qA (bK v s)) ((bK v s).map (fI (qA (bK v s)))))=yQ v (bK v s):=rfl
    rw [e,b1]
    simp only [Option.bind_some]
    have hms:=aCE (aJU ht ha)
    have hml:=aEz (qA (bK v s)) (a:=bK v s) (Nat.le_refl _)
    have hm2:(bK v s).length*(bK v s).length≤100*100:=Nat.mul_le_mul hl hl
    rw [kT _ (by unfold aF;omega)]
    cases b with
    | false =>
      have:¬condOk v (bK v s):=by unfold condOk;rw [b1];simp
      rw [aBf (fun h=>this h.2.1)];rfl
    | true =>
      have hc:condOk v (bK v s):=b1
      simp only [if_true,Option.bind_some]
      by_cases d:∀ x ∈ gJ (qA (bK v s)) (bK v s),ValidL x
      · rw [decide_eq_true ((aF4 inc).2 d),aG5 ⟨c,hc,d⟩];rfl
      · rw [decide_eq_false (fun h=>d ((aF4 inc).1 h)),aBf (fun h=>d h.2.2)];rfl
  · rw [decide_eq_false c]
    rw [aBf (fun h=>c h.1)];rfl
def wB (a:l08Arm):Parent:=⟨a.fnode,mT,a.fdx,a.fdy⟩
theorem aJx (v:Int) (s:List Link) (k:Nat) (hk:k < s.length):bK v (s.take (k+1))=bK v (s.take k)++(if tch v s[k] then [aAl v s[k]] else []):=by
  have tk:s.take (k+1)=s.take k++[s[k]]:=by rw [List.take_add_one,List.getElem?_eq_getElem hk];rfl
  unfold bK
  rw [tk,List.filter_append,List.map_append]
  congr 1
  by_cases c:tch v s[k] <;> simp [c]
theorem aJk {s:List Link} (hs:LSet s) (v:Int):lp (dJ s v) (0,pM 0,[],[])=some (qA (bK v s),(bK v s).map (·.fweight),(bK v s).map wB):=by
  have hlen:=hs.len
  have hpre:∀ k,∀ a ∈ bK v (s.take k),tB a:=fun k a ha=>by
    obtain ⟨l,hl,rfl⟩:=List.mem_map.1 ha
    exact aIu (hs.1 l (List.mem_of_mem_take (List.mem_filter.1 hl).1))
  have hpl:∀ k,(bK v (s.take k)).length≤100:=fun k=>by
    have:=List.length_filter_le (tch v) (s.take k)
    have h2:(s.take k).length≤s.length:=by rw [List.length_take];omega
    unfold bK;rw [List.length_map];omega
  have main:∀ m k:Nat,m+k=s.length→lp (dJ s v) ((k:Int),qA (bK v (s.take k)),(bK v (s.take k)).map (·.fweight),(bK v (s.take k)).map wB)=some (qA (bK v s),(bK v s).map (·.fweight),(bK v s).map wB):=by
    intro m
    induction m with
    | zero =>
      intro k hk
      rw [List.take_of_length_le (by omega)]
      exact aJ (by unfold dJ;simp only [];rw [if_neg (by omega)])
    | succ m ih =>
      intro k hk
      have hlt:k < s.length:=by omega
      have w1:i64.wrap ((k:Int)+1)=((k+1:Nat):Int):=by rw [wi (by omega)];omega
      have hv:=hs.1 _ (List.getElem_mem hlt)
      obtain ⟨v1,v2,v3⟩:=hv.vz
      have n1:=(aK4 v2).2.1
      have n2:=(aK4 v3).2.1
      have ra:=(aAX (yX (hpre k)) v1).2.1
      have hp:=hpl k
      have st:dJ s v ((k:Int),qA (bK v (s.take k)),(bK v (s.take k)).map (·.fweight),(bK v (s.take k)).map wB)=some (.inl (((k+1:Nat):Int),qA (bK v (s.take (k+1))),(bK v (s.take (k+1))).map (·.fweight),(bK v (s.take (k+1))).map wB)):=by
        rw [aJx v s k hlt]
        unfold dJ
        simp only []
        rw [if_pos (by omega),aK hlt]
        simp only [Option.bind_some,n1,n2,ra,w1]
        have k1:∀ {α:Type} {f:l08Arm→α},((bK v (s.take k)).map f).length≤100:=by intro α f;rw [List.length_map];exact hp
        by_cases A:(s[k]).fA=v
        · rw [if_pos A,aN (by have:=k1 (f:=wB);omega)]
          simp only [Option.bind_some,rR]
          rw [aN (by have:=k1 (f:=fun a=>a.fweight);omega)]
          simp [tch,A,aAl,qA,wB,mT,ra]
        · by_cases B:(s[k]).fB=v
          · rw [if_neg A,if_pos B,aN (by have:=k1 (f:=wB);omega)]
            simp only [Option.bind_some,rR]
            rw [aN (by have:=k1 (f:=fun a=>a.fweight);omega)]
            simp [tch,A,B,aAl,qA,wB,mT,ra]
          · simp [tch,A,B]
      rw [aT st]
      exact ih (k+1) (by omega)
  have:=main s.length 0 (by omega)
  simpa [bK,qA] using this
theorem aKT {a:List l08Arm} {t:Rat} (ht:VZ t) (ha:∀ x ∈ a,tB x) (hl:a.length≤100):lp (dI (t,a.map (·.fweight),a.map wB)) (0,a.map wB)=some (a.map (fI t)):=by
  have main:∀ m k:Nat,m+k=a.length→lp (dI (t,a.map (·.fweight),a.map wB)) ((k:Int),(a.take k).map (fI t)++(a.drop k).map wB)=some (a.map (fI t)):=by
    intro m
    induction m with
    | zero =>
      intro k hk
      refine aJ ?_
      unfold dI
      simp only [List.length_map]
      rw [if_neg (by omega),List.drop_eq_nil_of_le (by omega),List.take_of_length_le (by omega)]
      simp
    | succ m ih =>
      intro k hk
      have hlt:k < a.length:=by omega
      have w1:i64.wrap ((k:Int)+1)=((k+1:Nat):Int):=by rw [wi (by omega)];omega
      have ho:=ha _ (List.getElem_mem hlt)
      have q:=(aFl ho.2.1 ht).2.1
      have tl:((a.take k).map (fI t)).length=k:=by rw [List.length_map,List.length_take];omega
      have e1:idx (a.map (fun x=>x.fweight)) (k:Int)=some (a[k]).fweight:=by rw [aK (by rwa [List.length_map]),List.getElem_map]
      have e2:idx ((a.take k).map (fI t)++(a.drop k).map wB) (k:Int)=some (wB a[k]):=by
        rw [aG1,List.getElem?_append_right (by omega),tl,Nat.sub_self,List.drop_eq_getElem_cons hlt];rfl
      have e3:xM ((a.take k).map (fI t)++(a.drop k).map wB) (k:Int) (fI t a[k])=(a.take (k+1)).map (fI t)++(a.drop (k+1)).map wB:=by
        rw [sH,List.set_append_right _ _ (by omega),tl,Nat.sub_self,List.drop_eq_getElem_cons hlt,List.map_cons,List.set_cons_zero,List.take_add_one,List.getElem?_eq_getElem hlt,List.map_append,List.append_assoc]
        rfl
      have st:dI (t,a.map (·.fweight),a.map wB) ((k:Int),(a.take k).map (fI t)++(a.drop k).map wB)=some (.inl (((k+1:Nat):Int),(a.take (k+1)).map (fI t)++(a.drop (k+1)).map wB)):=by
        unfold dI
        simp only [List.length_map]
        rw [if_pos (by omega),e1]
        simp only [Option.bind_some,q,e2,rR,w1]
        have:(Parent.mk (wB a[k]).fNode (RD (a[k]).fweight t) (wB a[k]).fDX (wB a[k]).fDY)=fI t a[k]:=rfl
        rw [this,e3]
      rw [aT st]
      exact ih (k+1) (by omega)
  have:=main a.length 0 (by omega)
  simpa using this
def aD9 (t:Rat) (x:l08Arm) (r:List l08Arm):Prop:=∀ y ∈ r,ValidL (rQ t x y)
noncomputable instance (t:Rat) (x:l08Arm) (r:List l08Arm):Decidable (aD9 t x r):=Classical.propDecidable _
theorem aKS {a:List l08Arm} {t:Rat} (ht:VZ t) (ha:∀ x ∈ a,tB x) (hl:a.length≤100) (q0:List Parent) (i:Nat) (hi:i < a.length):∀ m j:Nat,m+j=a.length→∀ acc:List Link,acc.length≤1000000+j →
    lp (eW (a.map (fI t)) (t,a.map (·.fweight),q0) (i:Int) (fI t a[i])) ((j:Int),acc)=some (if aD9 t a[i] (a.drop j) then .inl (acc++(a.drop j).map (rQ t a[i])) else .inr (aDQ,[],false)):=by
  intro m
  induction m with
  | zero =>
    intro j hj acc hacc
    rw [List.drop_eq_nil_of_le (by omega),if_pos (by intro y hy;cases hy),List.map_nil,List.append_nil]
    exact aJ (by unfold eW;simp only [List.length_map];rw [if_neg (by omega)])
  | succ m ih =>
    intro j hj acc hacc
    have hlt:j < a.length:=by omega
    have w1:i64.wrap ((j:Int)+1)=((j+1:Nat):Int):=by rw [wi (by omega)];omega
    have hx:=ha _ (List.getElem_mem hi)
    have ho:=ha _ (List.getElem_mem hlt)
    have p0:=aDD hx.2.1 ho.2.1
    have p1:=(aFl p0.2.2 ht).2.1
    have p2:=(aHf hx.2.2.1 ho.2.2.1).2.1
    have p3:=(aHf hx.2.2.2 ho.2.2.2).2.1
    have vl:=(fS (rQ t a[i] a[j]) (by have:=aHU ht hx ho;omega)).2
    have e0:idx (a.map (fI t)) (j:Int)=some (fI t a[j]):=by rw [aK (by rwa [List.length_map]),List.getElem_map]
    have e1:idx (a.map (fun x=>x.fweight)) (i:Int)=some (a[i]).fweight:=by rw [aK (by rwa [List.length_map]),List.getElem_map]
    have e2:idx (a.map (fun x=>x.fweight)) (j:Int)=some (a[j]).fweight:=by rw [aK (by rwa [List.length_map]),List.getElem_map]
    have st:eW (a.map (fI t)) (t,a.map (·.fweight),q0) (i:Int) (fI t a[i]) ((j:Int),acc)=some (if ValidL (rQ t a[i] a[j]) then .inl (((j+1:Nat):Int),acc++[rQ t a[i] a[j]]) else .inr (.inr (aDQ,[],false))):=by
      unfold eW
      simp only [List.length_map]
      rw [if_pos (by omega),e0,e1,e2]
      simp only [Option.bind_some,p0.2.1,p1,w1]
      have f1:(fI t a[i]).fDX=(a[i]).fdx:=rfl
      have f2:(fI t a[i]).fDY=(a[i]).fdy:=rfl
      have f3:(fI t a[j]).fDX=(a[j]).fdx:=rfl
      have f4:(fI t a[j]).fDY=(a[j]).fdy:=rfl
      rw [f1,f2,f3,f4,p2]
      simp only [Option.bind_some]
      rw [p3]
      simp only [Option.bind_some]
      have f5:(Link.mk (fI t a[i]).fNode (fI t a[j]).fNode (RD (RM (a[i]).fweight (a[j]).fweight) t) (RS (a[i]).fdx (a[j]).fdx) (RS (a[i]).fdy (a[j]).fdy))=rQ t a[i] a[j]:=rfl
      rw [f5,vl]
      simp only [Option.bind_some]
      by_cases c:ValidL (rQ t a[i] a[j])
      · rw [decide_eq_true c,if_pos rfl,if_pos c,aN (by omega)];rfl
      · rw [decide_eq_false c,if_neg c];rfl
    rw [List.drop_eq_getElem_cons hlt]
    by_cases c:ValidL (rQ t a[i] a[j])
    · rw [if_pos c] at st
      rw [aT st,ih (j+1) (by omega) _ (by rw [List.length_append,List.length_singleton];omega)]
      have:aD9 t a[i] (a[j]::a.drop (j+1))↔aD9 t a[i] (a.drop (j+1)):=⟨fun h x hx'=>h x (List.mem_cons_of_mem _ hx'),fun h x hx'=>by rcases List.mem_cons.1 hx' with rfl | h';exact c;exact h x h'⟩
      simp only [this,List.map_cons,List.append_assoc,List.singleton_append]
    · rw [if_neg c] at st
      rw [aJ st,if_neg (fun h=>c (h _ List.mem_cons_self))]
theorem aJj {a:List l08Arm} {t:Rat} (ht:VZ t) (ha:∀ x ∈ a,tB x) (hl:a.length≤100) (q0:List Parent):lp (dH (a.map (fI t)) (t,a.map (·.fweight),q0)) (0,[])=some (if ∀ x ∈ gJ t a,ValidL x then .inl (gJ t a) else .inr (aDQ,[],false)):=by
  have main:∀ m k:Nat,m+k=a.length→∀ acc:List Link,acc.length≤100*k→lp (dH (a.map (fI t)) (t,a.map (·.fweight),q0)) ((k:Int),acc)=some (if ∀ x ∈ gJ t (a.drop k),ValidL x then .inl (acc++gJ t (a.drop k)) else .inr (aDQ,[],false)):=by
    intro m
    induction m with
    | zero =>
      intro k hk acc hacc
      rw [List.drop_eq_nil_of_le (by omega),if_pos (by simp [gJ]),gJ,List.append_nil]
      exact aJ (by unfold dH;simp only [List.length_map];rw [if_neg (by omega)])
    | succ m ih =>
      intro k hk acc hacc
      have hlt:k < a.length:=by omega
      have w1:i64.wrap ((k:Int)+1)=((k+1:Nat):Int):=by rw [wi (by omega)];omega
      have e0:idx (a.map (fI t)) (k:Int)=some (fI t a[k]):=by rw [aK (by rwa [List.length_map]),List.getElem_map]
      have row:=aKS ht ha hl q0 k hlt (a.length - (k+1)) (k+1) (by omega) acc (by omega)
      rw [List.drop_eq_getElem_cons hlt,gJ]
      have st:dH (a.map (fI t)) (t,a.map (·.fweight),q0) ((k:Int),acc)=some (if aD9 t a[k] (a.drop (k+1)) then .inl (((k+1:Nat):Int),acc++(a.drop (k+1)).map (rQ t (a[k]'hlt))) else .inr (.inr (aDQ,[],false))):=by
        unfold dH
        simp only [List.length_map]
        rw [if_pos (by omega),e0]
        simp only [Option.bind_some,w1,row]
        by_cases c:aD9 t a[k] (a.drop (k+1))
        · rw [if_pos c,if_pos c]
        · rw [if_neg c,if_neg c]
      by_cases c:aD9 t a[k] (a.drop (k+1))
      · rw [if_pos c] at st
        rw [aT st,ih (k+1) (by omega) _ (by rw [List.length_append,List.length_map,List.length_drop];omega)]
        have:(∀ x ∈ (a.drop (k+1)).map (rQ t a[k])++gJ t (a.drop (k+1)),ValidL x)↔∀ x ∈ gJ t (a.drop (k+1)),ValidL x:=⟨fun h x hx=>h x (List.mem_append_right _ hx),fun h x hx=>by
          rcases List.mem_append.1 hx with hx | hx
          · obtain ⟨y,hy,rfl⟩:=List.mem_map.1 hx;exact c y hy
          · exact h x hx⟩
        simp only [this,List.append_assoc]
      · rw [if_neg c] at st
        rw [aJ st,if_neg]
        intro h
        exact c fun y hy=>h _ (List.mem_append_left _ (List.mem_map.2 ⟨y,hy,rfl⟩))
  have:=main a.length 0 (by omega) [] (by simp)
  rw [show ((0:Nat):Int)=0 from rfl,List.drop_zero,List.nil_append] at this
  exact this
theorem aNe {s:List Link} (hs:LSet s) (v:Int):jT s v=some (pkE (uQ v s)):=by
  have ha:=aFd hs v
  have hl:=aBj hs v
  have ht:=yX ha
  obtain ⟨b,b1,b2,_⟩:=aKe _ (aG7 (v:=v) ha hl)
  unfold jT
  have e0:((if v < 1 then some true else some (decide (10≤v))):Option Bool)=some (!decide (1≤v∧v≤9)):=by
    by_cases A:v < 1
    · have:¬1≤v:=by omega
      simp [A,this]
    · by_cases B:10≤v
      · have:¬v≤9:=by omega
        simp [A,B,this]
      · have h1:1≤v:=by omega
        have h2:v≤9:=by omega
        simp [A,B,h1,h2]
  rw [e0]
  simp only [Option.bind_some]
  by_cases c:1≤v∧v≤9
  · rw [decide_eq_true c]
    simp only [Bool.not_true,Bool.false_eq_true,if_false]
    rw [kR 0 (by omega)]
    simp only [Option.bind_some]
    rw [aJk hs v]
    simp only [Option.bind_some]
    rw [aKT ht ha hl]
    simp only [Option.bind_some]
    have e:(Conditional.mk v (qA (bK v s)) ((bK v s).map (fI (qA (bK v s)))))=yQ v (bK v s):=rfl
    rw [e,b2]
    simp only [Option.bind_some]
    cases b with
    | false =>
      have:¬condOk v (bK v s):=by unfold condOk;rw [b1];simp
      rw [aBf (fun h=>this h.2.1)];rfl
    | true =>
      have hc:condOk v (bK v s):=b1
      simp only [if_true]
      rw [aJj ht ha hl]
      by_cases d:∀ x ∈ gJ (qA (bK v s)) (bK v s),ValidL x
      · rw [if_pos d,aG5 ⟨c,hc,d⟩];rfl
      · rw [if_neg d,aBf (fun h=>d h.2.2)];rfl
  · rw [decide_eq_false c]
    rw [aBf (fun h=>c h.1)];rfl
end Go.Ev
/- Reducing a node of a link set and a node of a tree, both programs. -/
namespace Go.Ev
set_option linter.all false
theorem wi1 {k:Nat} (h:k≤4294967296):IntKind.i64.wrap ((k:Int)+1)=((k+1:Nat):Int):=by rw [wi (by omega)];omega
def uI (v:Int) (s:List Link):List Link:=s.filter (fun l=>!tch v l)
theorem vT {α:Type} (p:α→Bool):∀ (l t:List α),l.foldl (fun t x=>if p x=true then t++[x] else t) t=t++l.filter p
  | [],t=>by simp
  | x::l,t=>by
    rw [List.foldl_cons,vT p l,List.filter_cons]
    by_cases c:p x=true
    · simp only [c,if_true,List.append_assoc,List.singleton_append]
    · simp only [Bool.not_eq_true] at c;simp [c]
theorem aNw (v:Int) (l:Link):((if l.fA≠v then some (decide (l.fB≠v)) else some false):Option Bool)=some (!tch v l):=by
  unfold tch;by_cases A:l.fA=v <;> by_cases B:l.fB=v <;> simp [A,B]
theorem aKj {s:List Link} (h:s.length≤4294967296) (v:Int):lP s v=some (uI v s):=by
  have:=(jN (step:=iV s v) s (fun k t=>((k:Int),t)) (fun t x=>if (fun l=>!tch v l) x=true then t++[x] else t) (fun t=>t) (fun k t=>t.length≤k) (fun k t hk hi=>by
    constructor
    · unfold iV
      simp only []
      rw [if_pos (by omega),aK hk]
      simp only [Option.bind_some,aNw,wi1 (by omega:k≤4294967296)]
      by_cases c:tch v s[k]=true
      · rw [if_neg (by simp [c]),if_neg (by simp [c])]
      · rw [if_pos (by simpa using c),if_pos (by simpa using c),aN (by omega)];rfl
    · simp only [];split
      · rw [List.length_append,List.length_singleton];omega
      · omega) (fun t _=>by unfold iV;simp only [];rw [if_neg (by omega)]) [] (Nat.zero_le _)).1
  rw [show ((0:Nat):Int)=0 from rfl,vT,List.nil_append] at this
  unfold lP
  rw [this];rfl
theorem aK3 {s:List Link} (hs:LSet s) (v:Int):lK s v=some (uI v s):=by
  have hl:=hs.len
  have:=(jN (step:=iT s v) s (fun k t=>((k:Int),t)) (fun t x=>if (fun l=>!tch v l) x=true then t++[x] else t) (fun t=>t) (fun k t=>t.length≤k) (fun k t hk hi=>by
    constructor
    · unfold iT
      simp only []
      rw [if_pos (by omega),aK hk]
      have cp:=sF s[k] (by have:=(hs.1 _ (List.getElem_mem hk)).sz;omega)
      simp only [Option.bind_some,aNw,wi1 (by omega:k≤4294967296),cp]
      by_cases c:tch v s[k]=true
      · rw [if_neg (by simp [c]),if_neg (by simp [c])]
      · rw [if_pos (by simpa using c),if_pos (by simpa using c),aN (by omega)];rfl
    · simp only [];split
      · rw [List.length_append,List.length_singleton];omega
      · omega) (fun t _=>by unfold iT;simp only [];rw [if_neg (by omega)]) [] (Nat.zero_le _)).1
  rw [show ((0:Nat):Int)=0 from rfl,vT,List.nil_append] at this
  unfold lK
  rw [kT s (by have:=hs.sz;omega),decide_eq_true hs]
  simp only [Option.bind_some,if_true,this]
  rfl
noncomputable def aAw (v:Int) (s:List Link):Option (Conditional × List Link × Rat) :=
  (uQ v s).bind fun x=>(jnP (uI v s++x.2)).map fun y=>(x.1,y.1,y.2)
def pkR:Option (Conditional × List Link × Rat)→Conditional × List Link × Rat × Bool
  | some (c,m,e)=>(c,m,e,true)
  | none=>(aDQ,[],mT,false)
theorem aIi {v:Int} {s:List Link} (hs:LSet s) {c:Conditional} {m:List Link} (h:uQ v s=some (c,m)):(∀ x ∈ m,ValidL x)∧m.length≤10000∧aS c≤20000∧(1≤v∧v≤9):=by
  unfold uQ at h
  split at h
  · rename_i g
    cases h
    have ha:=aFd hs v
    have hl:=aBj hs v
    have h1:=aEz (qA (bK v s)) (a:=bK v s) (Nat.le_refl _)
    have h2:(bK v s).length*(bK v s).length≤100*100:=Nat.mul_le_mul hl hl
    have g1:=oH (yX ha)
    have g2:mB ((bK v s).map (fI (qA (bK v s))))≤145*((bK v s).map (fI (qA (bK v s)))).length:=aCE (c:=144) (fun p hp=>by
      obtain ⟨x,hx,rfl⟩:=List.mem_map.1 hp
      have ho:=ha x hx
      have g1:=oH (aFl ho.2.1 (yX ha)).2.2
      have g2:=oH ho.2.2.1
      have g3:=oH ho.2.2.2
      unfold iR fI;simp only [];omega)
    rw [List.length_map] at g2
    refine ⟨g.2.2,by omega,?_,g.1⟩
    unfold aS yQ;simp only [];omega
  · cases h
theorem aLr {v:Int} {s:List Link} (hs:LSet s):(∀ x ∈ uI v s,ValidL x)∧(uI v s).length≤100:=by
  have:=List.length_filter_le (fun l=>!tch v l) s
  have:=hs.len
  exact ⟨fun x hx=>hs.1 x (List.mem_filter.1 hx).1,by unfold uI;omega⟩
theorem aEf {s:List Link} (hs:LSet s) (v:Int):mX s v=some (pkR (aAw v s))∧nG s v=some (pkR (aAw v s)):=by
  unfold mX nG aAw
  rw [aNd hs,aNe hs]
  cases h:uQ v s with
  | none=>exact ⟨rfl,rfl⟩
  | some x =>
    obtain ⟨c,m⟩:=x
    obtain ⟨m1,m2,m3,_⟩:=aIi hs h
    obtain ⟨r1,r2⟩:=aLr (v:=v) hs
    have hall:∀ x ∈ uI v s++m,ValidL x:=fun x hx=>(List.mem_append.1 hx).elim (r1 x) (m1 x)
    have hlen:(uI v s++m).length≤20000:=by rw [List.length_append];omega
    have hsz:=aA1 hall
    have j1:=(xL (uI v s++m) (by omega)).1
    have j2:=aAK hall (by omega)
    simp only [pkE,Option.bind_some,if_true]
    rw [aK3 hs,aKj (by have:=hs.len;omega)]
    simp only [Option.bind_some]
    rw [aN (by omega)]
    simp only [Option.bind_some,rR,j1,j2]
    cases jnP (uI v s++m) with
    | none=>exact ⟨rfl,rfl⟩
    | some y=>exact ⟨rfl,rfl⟩
theorem aGI {v:Int} {s:List Link} (hs:LSet s) {c:Conditional} {m:List Link} {e:Rat} (h:aAw v s=some (c,m,e)):aS c≤20000∧LSet m∧bL e∧c.fNode=v:=by
  unfold aAw at h
  cases h1:uQ v s with
  | none=>rw [h1] at h;cases h
  | some x =>
    rw [h1] at h
    cases h2:jnP (uI v s++x.2) with
    | none=>rw [Option.bind_some,h2] at h;cases h
    | some y =>
      rw [Option.bind_some,h2] at h
      cases h
      have:=zR (s:=y.1) (e:=y.2) h2
      refine ⟨(aIi hs (c:=x.1) (m:=x.2) h1).2.2.1,this.2.1,this.2.2,?_⟩
      unfold uQ at h1
      split at h1
      · cases h1;rfl
      · cases h1
end Go.Ev
/- A node of a tree, both programs. -/
namespace Go.Ev
open IntKind
set_option linter.all false
def aQ (l s:List Int):Int:=(l.find? (fun u=>decide (u ∈ s))).getD 0
theorem aJ7 (l s:List Int) (hl:l.length≤4294967296) (hs:s.length≤4294967296):nT l s=some (aQ l s):=by
  have main:∀ m k:Nat,m+k=l.length→lp (gL l s) (k:Int)=some (match (l.drop k).find? (fun u=>decide (u ∈ s)) with | some x=>.inr x | none=>.inl ()):=by
    intro m
    induction m with
    | zero =>
      intro k hk
      have:k=l.length:=by omega
      subst this
      rw [aJ (r:=.inl ()) (by unfold gL;rw [if_neg (by omega)]),List.drop_length];rfl
    | succ m ih =>
      intro k hk
      have hlt:k < l.length:=by omega
      rw [List.drop_eq_getElem_cons hlt,List.find?_cons]
      by_cases c:l[k] ∈ s
      · rw [aJ (r:=.inr l[k]) (by unfold gL;rw [if_pos (by omega),aK hlt];simp [aCl s _ hs,c])];simp [c]
      · have e:gL l s (k:Int)=some (.inl ((k+1:Nat):Int)):=by
          unfold gL;rw [if_pos (by omega),aK hlt];simp only [Option.bind_some,aCl s _ hs,wi1 (by omega:k≤4294967296)];simp [c]
        rw [aT e,ih (k+1) (by omega)]
        simp only [c,decide_false]
  have:=main l.length 0 (by omega)
  rw [show ((0:Nat):Int)=0 from rfl,List.drop_zero] at this
  unfold nT aQ
  rw [this]
  cases l.find? (fun u=>decide (u ∈ s)) <;> rfl
def uW (c:Conditional):List Int:=c.fParents.map (·.fNode)
def upP (order:List Int) (c:Conditional):Int:=aQ order (uW c)
theorem aE0 {α:Type} {p q:α→Bool}:∀ {l:List α},(∀ x ∈ l,p x=q x)→l.find? p=l.find? q
  | [],_=>rfl
  | x::l,h=>by rw [List.find?_cons,List.find?_cons,h x (by simp),aE0 (fun y hy=>h y (by simp [hy]))]
theorem aPp {order:List Int} {c:Conditional} (ho:∀ u ∈ order,1≤u) (hl:order.length≤4294967296) (hc:c.fParents.length≤4294967296):vX order c=some (upP order c):=by
  have:=(jN (step:=qB c) c.fParents (fun k t=>((k:Int),t)) (fun t x=>if (fun p:Parent=>decide (0 < p.fNode)) x=true then t++[x.fNode] else t) (fun t=>t) (fun k t=>t.length≤k) (fun k t hk hi=>by
    constructor
    · unfold qB
      simp only []
      rw [if_pos (by omega),aK hk]
      simp only [Option.bind_some,wi1 (by omega:k≤4294967296)]
      by_cases c0:0 < (c.fParents[k]).fNode
      · rw [if_pos c0,if_pos (by simpa using c0),aN (by omega)];rfl
      · rw [if_neg c0,if_neg (by simpa using c0)]
    · simp only [];split
      · rw [List.length_append,List.length_singleton];omega
      · omega) (fun t _=>by unfold qB;simp only [];rw [if_neg (by omega)]) [] (Nat.zero_le _)).1
  rw [show ((0:Nat):Int)=0 from rfl] at this
  have e:∀ (l:List Parent) (t:List Int),l.foldl (fun t x=>if (fun p:Parent=>decide (0 < p.fNode)) x=true then t++[x.fNode] else t) t=t++(l.filter (fun p=>decide (0 < p.fNode))).map (·.fNode):=by
    intro l
    induction l with
    | nil=>intro t;simp
    | cons x l ih =>
      intro t
      rw [List.foldl_cons,ih,List.filter_cons]
      by_cases c0:0 < x.fNode <;> simp [c0]
  rw [e,List.nil_append] at this
  unfold vX
  rw [this]
  simp only [Option.bind_some]
  have hf:=List.length_filter_le (fun p:Parent=>decide (0 < p.fNode)) c.fParents
  rw [aJ7 _ _ hl (by rw [List.length_map];omega)]
  simp only [Option.bind_some]
  congr 1
  unfold upP aQ
  congr 1
  refine aE0 fun u hu=>?_
  have:=ho u hu
  rw [Bool.eq_iff_iff,decide_eq_true_iff,decide_eq_true_iff]
  unfold uW
  simp only [List.mem_map,List.mem_filter,decide_eq_true_eq]
  constructor
  · rintro ⟨p,⟨h1,_⟩,rfl⟩;exact ⟨p,h1,rfl⟩
  · rintro ⟨p,h1,rfl⟩;exact ⟨p,⟨h1,by omega⟩,rfl⟩
theorem aDc (c:Conditional) (v:Int) (h:c.fParents.length≤4294967296):pF c v=some (decide (v ∈ uW c)):=by
  have main:∀ m k:Nat,m+k=c.fParents.length→lp (gB c v) (k:Int)=some (if v ∈ (c.fParents.drop k).map (·.fNode) then .inr true else .inl ()):=by
    intro m
    induction m with
    | zero =>
      intro k hk
      have:k=c.fParents.length:=by omega
      subst this
      rw [aJ (r:=.inl ()) (by unfold gB;rw [if_neg (by omega)]),List.drop_length];simp
    | succ m ih =>
      intro k hk
      have hlt:k < c.fParents.length:=by omega
      rw [List.drop_eq_getElem_cons hlt,List.map_cons]
      by_cases d:(c.fParents[k]).fNode=v
      · rw [aJ (r:=.inr true) (by unfold gB;rw [if_pos (by omega),aK hlt];simp [d]),if_pos (by simp [d])]
      · have e:gB c v (k:Int)=some (.inl ((k+1:Nat):Int)):=by
          unfold gB;rw [if_pos (by omega),aK hlt];simp only [Option.bind_some,wi1 (by omega:k≤4294967296)];rw [if_neg d]
        rw [aT e,ih (k+1) (by omega)]
        have:(v ∈ (c.fParents[k]).fNode::(c.fParents.drop (k+1)).map (·.fNode))↔v ∈ (c.fParents.drop (k+1)).map (·.fNode):=by
          rw [List.mem_cons];exact ⟨fun h=>h.resolve_left (fun e=>d e.symm),.inr⟩
        simp only [this]
  have:=main c.fParents.length 0 (by omega)
  rw [show ((0:Nat):Int)=0 from rfl,List.drop_zero] at this
  unfold pF uW
  rw [this]
  by_cases d:v ∈ c.fParents.map (·.fNode)
  · rw [if_pos d,decide_eq_true d];rfl
  · rw [if_neg d,decide_eq_false d];rfl
theorem aOL (order:List Int) (v:Int) (own:List Link) (r:Conditional × List Link × Rat × Bool) (e:Rat) (hl:order.length≤4294967296) (hc:r.1.fParents.length≤4294967296):lp (eQ order v own r e) 0=some (TreeNode.mk v (upP order r.1) own r.1 r.2.1 e):=by
  have main:∀ m k:Nat,m+k=order.length→lp (eQ order v own r e) (k:Int)=some (TreeNode.mk v (aQ (order.drop k) (uW r.1)) own r.1 r.2.1 e):=by
    intro m
    induction m with
    | zero =>
      intro k hk
      have:k=order.length:=by omega
      subst this
      rw [aJ (by unfold eQ;rw [if_neg (by omega)]),List.drop_length];rfl
    | succ m ih =>
      intro k hk
      have hlt:k < order.length:=by omega
      rw [List.drop_eq_getElem_cons hlt]
      unfold aQ
      rw [List.find?_cons]
      by_cases d:order[k] ∈ uW r.1
      · rw [aJ (r:=TreeNode.mk v order[k] own r.1 r.2.1 e) (by unfold eQ;rw [if_pos (by omega),aK hlt];simp only [Option.bind_some,aDc _ _ hc,decide_eq_true d,if_true])]
        simp [d]
      · have e:eQ order v own r e (k:Int)=some (.inl ((k+1:Nat):Int)):=by
          unfold eQ;rw [if_pos (by omega),aK hlt];simp only [Option.bind_some,aDc _ _ hc,wi1 (by omega:k≤4294967296),decide_eq_false d,Bool.false_eq_true,if_false]
        rw [aT e,ih (k+1) (by omega)]
        simp only [d,decide_false]
        rfl
  have:=main order.length 0 (by omega)
  rw [show ((0:Nat):Int)=0 from rfl,List.drop_zero] at this
  exact this
def uZ (v:Int) (b:List TreeNode):List Link:=(b.filter (fun n=>decide (n.fUp=v))).flatMap (·.fMessages)
theorem aHT (v:Int):∀ (b:List TreeNode) (t:List Link),b.foldl (fun t n=>if n.fUp=v then t++n.fMessages else t) t=t++uZ v b
  | [],t=>by simp [uZ]
  | n::b,t=>by
    rw [List.foldl_cons,aHT v b]
    unfold uZ
    rw [List.filter_cons]
    by_cases c:n.fUp=v <;> simp [c]
theorem aJQ {v:Int}:∀ {b:List TreeNode},(∀ n ∈ b,LSet n.fMessages)→(uZ v b).length≤100*b.length
  | [],_=>by simp [uZ]
  | n::b,h=>by
    have:=aJQ (v:=v) (b:=b) (fun m hm=>h m (by simp [hm]))
    have h1:=(h n (by simp)).len
    unfold uZ at this ⊢
    rw [List.filter_cons,List.length_cons]
    split
    · rw [List.flatMap_cons,List.length_append];omega
    · omega
theorem aKD {v:Int} {b:List TreeNode} (h:∀ n ∈ b,LSet n.fMessages):∀ x ∈ uZ v b,ValidL x:=by
  intro x hx
  unfold uZ at hx
  obtain ⟨n,hn,hx⟩:=List.mem_flatMap.1 hx
  exact (h n (List.mem_filter.1 hn).1).1 x hx
theorem aND {step:(Int × List Link)→Option ((Int × List Link) ⊕ List Link)} (v:Int) (b:List TreeNode) (own:List Link) (ho:own.length≤4294967296) (hb:b.length≤4194304) (h:∀ n ∈ b,LSet n.fMessages)
    (hstep:step=fun s=>match s with | (v6,v7)=>(if (v6 < (b.length:Int)) then (idx b v6).bind fun y8=>(if (y8.fUp=v) then (chk ((v7.length+y8.fMessages.length)*184≤140737488355328)).bind fun _u=>(bA (v7++y8.fMessages)).bind fun v10=>some (.inl (i64.wrap (v6+1),v10)) else some (.inl (i64.wrap (v6+1),v7))) else some (.inr v7))):lp step (0,own)=some (own++uZ v b):=by
  subst hstep
  have:=(jN (step:=fun s=>match s with | (v6,v7)=>(if (v6 < (b.length:Int)) then (idx b v6).bind fun y8=>(if (y8.fUp=v) then (chk ((v7.length+y8.fMessages.length)*184≤140737488355328)).bind fun _u=>(bA (v7++y8.fMessages)).bind fun v10=>some (.inl (i64.wrap (v6+1),v10)) else some (.inl (i64.wrap (v6+1),v7))) else some (.inr v7))) b (fun k t=>((k:Int),t)) (fun t n=>if n.fUp=v then t++n.fMessages else t) (fun t=>t) (fun k t=>t.length≤4294967296+100*k) (fun k t hk hi=>by
    have hm:=(h _ (List.getElem_mem hk)).len
    constructor
    · simp only []
      rw [if_pos (by omega),aK hk]
      simp only [Option.bind_some,wi1 (by omega:k≤4294967296)]
      by_cases c:(b[k]).fUp=v
      · rw [if_pos c,if_pos c,aN (by omega)];rfl
      · rw [if_neg c,if_neg c]
    · split
      · rw [List.length_append];omega
      · omega) (fun t _=>by simp only [];rw [if_neg (by omega)]) own (by omega)).1
  rw [show ((0:Nat):Int)=0 from rfl,aHT] at this
  exact this
def aOJ:TreeNode:=TreeNode.mk 0 0 ([]) (Conditional.mk 0 (Rat.mk (BigInt.mk false ([])) ([])) ([])) ([]) (Rat.mk (BigInt.mk false ([])) ([]))
noncomputable def lL (order:List Int) (v:Int) (own:List Link) (b:List TreeNode):Option TreeNode :=
  (jnP (own++uZ v b)).bind fun x=>(aAw v x.1).bind fun y=>if bL (RA x.2 y.2.2) then some ⟨v,upP order y.1,own,y.1,y.2.1,RA x.2 y.2.2⟩ else none
def pkN:Option TreeNode→TreeNode × Bool
  | some n=>(n,true)
  | none=>(aOJ,false)
theorem aM2 {c:Conditional} (h:aS c≤20000):c.fParents.length≤20000:=by
  have:c.fParents.length≤mB c.fParents:=fT _ _
  unfold aS at h;omega
theorem aGv (a b:List Link):aF (a++b)=aF a+aF b:=by unfold aF szL;simp
theorem aLK {order:List Int} {v:Int} {own:List Link} {b:List TreeNode} (hl:order.length≤4194304) (ho:∀ u ∈ order,1≤u) (hz:aF own≤4194304) (hb:b.length≤100) (hm:∀ n ∈ b,LSet n.fMessages) (hv:∀ x ∈ own,ValidL x) :
    sA v own order b=some (pkN (lL order v own b))∧pG ⟨b⟩ order v own=some (pkN (lL order v own b)):=by
  have hol:own.length≤4194304:=Nat.le_trans (fT _ _) hz
  have q1:=aND (step:=uU v b) v b own (by omega) (by omega) hm rfl
  have q2:=aND (step:=sS ⟨b⟩ v) v b own (by omega) (by omega) hm rfl
  have hmv:=aKD (v:=v) hm
  have hml:=aJQ (v:=v) hm
  have hall:∀ x ∈ own++uZ v b,ValidL x:=fun x hx=>(List.mem_append.1 hx).elim (hv x) (hmv x)
  have hms:=aA1 hmv
  have hsz:aF (own++uZ v b)≤4294967296:=by rw [aGv];omega
  have hln:(own++uZ v b).length≤4294967296:=by rw [List.length_append];omega
  have j1:=(xL (own++uZ v b) hsz).1
  have j2:=aAK hall hln
  unfold sA pG lL
  rw [aBr own (by omega)]
  simp only [Option.bind_some,List.nil_append,List.length_nil]
  rw [aN (by omega),q1]
  simp only [Option.bind_some,rR]
  rw [q2,j1]
  simp only [Option.bind_some,j2]
  cases h:jnP (own++uZ v b) with
  | none =>
    simp only [pk,Option.bind_none,pkN]
    refine ⟨?_,rfl⟩
    rw [(aEf aA0 v).1]
    have e0:bI (pkR (aAw v [])).2.2.1≤4294967296:=by
      cases h2:aAw v [] with
      | none=>exact VZs aBp
      | some y=>exact VZs (.inl (aGI aA0 (c:=y.1) (m:=y.2.1) (e:=y.2.2) h2).2.2.1)
    simp only [Option.bind_some]
    rw [(aPy (VZs aBp) e0).1]
    rfl
  | some x =>
    obtain ⟨s,e⟩:=x
    obtain ⟨_,hs,he⟩:=zR h
    simp only [pk,Option.bind_some,if_true]
    rw [(aEf hs v).1,(aEf hs v).2]
    simp only [Option.bind_some]
    cases h2:aAw v s with
    | none =>
      simp only [pkR,Option.bind_none,pkN]
      rw [(aAX (.inl he) aBp).1,(aAX (.inl he) aBp).2.1]
      exact ⟨rfl,rfl⟩
    | some y =>
      obtain ⟨c,m,f⟩:=y
      obtain ⟨k1,k2,k3,_⟩:=aGI hs h2
      have ra:=aAX (.inl he) (.inl k3)
      have hp:=aM2 k1
      simp only [pkR,Option.bind_some,ra.1,ra.2.1,if_true]
      rw [dP _ (VZs ra.2.2),iN ra.2.2,aPp ho (by omega) (by omega),aOL order v own (c,m,f,true) (RA e f) (by omega) (by show c.fParents.length≤_;omega)]
      simp only [Option.bind_some]
      by_cases g:bL (RA e f)
      · rw [decide_eq_true g,if_pos g];exact ⟨rfl,rfl⟩
      · rw [decide_eq_false g,if_neg g];exact ⟨rfl,rfl⟩
theorem aEr {order:List Int} {v:Int} {own:List Link} {b:List TreeNode} {n:TreeNode} (h:lL order v own b=some n):LSet n.fMessages∧n.fOwn=own∧aS n.fCond≤20000∧bL n.fEnergy∧n.fNode=v∧n.fUp=upP order n.fCond:=by
  unfold lL at h
  cases h1:jnP (own++uZ v b) with
  | none=>rw [h1] at h;cases h
  | some x =>
    rw [h1,Option.bind_some] at h
    cases h2:aAw v x.1 with
    | none=>rw [h2] at h;cases h
    | some y =>
      rw [h2,Option.bind_some] at h
      obtain ⟨_,hs,he⟩:=zR (s:=x.1) (e:=x.2) h1
      obtain ⟨k1,k2,k3,_⟩:=aGI hs (c:=y.1) (m:=y.2.1) (e:=y.2.2) h2
      split at h
      · rename_i g;cases h;exact ⟨k2,rfl,k1,g,rfl,rfl⟩
      · cases h
end Go.Ev
