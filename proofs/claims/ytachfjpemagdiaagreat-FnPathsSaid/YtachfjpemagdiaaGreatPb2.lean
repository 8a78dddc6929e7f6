/- Parts PR1, P20, PR2, PR3, PV, PR4, PR5, PR6, PR7. -/
import Derived.Test.YtachfjpemagdiaaGreatPb1
import Derived.Test.YtachfjpemagdiaaGreatPa1
set_option linter.all false
/- Fractions: quotients, differences, negation; the operations as total functions that both programs meet on valid or zero values. -/
namespace Go.Ev
set_option linter.all false
def aNt (n:Int) (d:Nat) (m:Int) (e:Nat):Rat:=mkR (!(decide (n < 0) == decide (m < 0))) (n.natAbs*e) (d*m.natAbs)
theorem aG3 (n:Int) (d:Nat) (m:Int) (e:Nat) (hd:0 < d) (he:0 < e) (h1:bl n≤24) (h2:(aA d).length≤24) (h3:bl m≤24) (h4:(aA e).length≤24):eH ⟨big n,aA d⟩ ⟨big m,aA e⟩=some (aNt n d m e):=by
  unfold eH
  rw [aBl hd,aBl he]
  simp only [Option.bind_some,if_true,Bool.not_true,Bool.false_eq_true,if_false,gG]
  have b1:bl (e:Int)≤24:=by unfold bl;rw [Int.natAbs_natCast];exact h4
  have b2:bl (d:Int)≤24:=by unfold bl;rw [Int.natAbs_natCast];exact h2
  have b3:=zA n e
  have b4:=zA m d
  rw [aAP,aAP,vX n e (by omega) (by omega) (by omega),vX m d (by omega) (by omega) (by omega)]
  simp only [Option.bind_some]
  unfold big aNt
  unfold bl at b1 b2 b3 b4 h1 h3
  rw [aCe _ _ _ _ (by omega) (by omega)]
  simp only [Option.bind_some,Int.natAbs_mul,Int.natAbs_natCast]
  congr 1
  rw [Nat.mul_comm d m.natAbs]
  by_cases hm:m=0
  · subst hm;unfold mkR;simp
  · refine aDl fun hx=>?_
    have s1:decide (n*(e:Int) < 0)=decide (n < 0):=by
      rw [decide_eq_decide]
      constructor
      · intro h
        rcases Int.lt_or_le n 0 with g | g
        · exact g
        · have:=Int.mul_nonneg g (by omega:(0:Int)≤e);omega
      · intro h;exact Int.mul_neg_of_neg_of_pos h (by omega)
    have s2:decide (m*(d:Int) < 0)=decide (m < 0):=by
      rw [decide_eq_decide]
      constructor
      · intro h
        rcases Int.lt_or_le m 0 with g | g
        · exact g
        · have:=Int.mul_nonneg g (by omega:(0:Int)≤d);omega
      · intro h;exact Int.mul_neg_of_neg_of_pos h (by omega)
    rw [s1,s2]
theorem aLQ (r s:Rat) (hr:bF r≤4294967296) (hs:bF s≤4294967296):∃ t,gT r s=some t∧VZ t∧(VZ r→VZ s→eH r s=some t):=by
  unfold gT
  rw [dN r hr]
  simp only [Option.bind_some]
  by_cases c1:bJ r
  · rw [decide_eq_true c1,if_pos rfl,dN s hs]
    simp only [Option.bind_some]
    by_cases c2:bJ s
    · rw [decide_eq_true c2]
      obtain ⟨n,d,e1,e2,e3,e4,_⟩:=yF c1
      obtain ⟨m,e,g1,g2,g3,g4,_⟩:=yF c2
      subst e1;subst g1
      simp only [Bool.not_true,Bool.false_eq_true,if_false]
      have e3':=e3
      have g3':=g3
      unfold bl at e3' g3'
      have b1:=dQ n.natAbs e
      have b2:=dQ d m.natAbs
      have q:(cO (big n).fMag (aA e))=some (aA (n.natAbs*e)):=(mN _ _ (by omega) (by omega)).1
      have q2:(cO (aA d) (big m).fMag)=some (aA (d*m.natAbs)):=(mN _ _ (by omega) (by omega)).1
      rw [q]
      simp only [Option.bind_some]
      rw [q2]
      simp only [Option.bind_some]
      rw [aBW _ _ _ (by omega) (by omega)]
      exact ⟨_,rfl,aIt _ _ _,fun _ _=>aG3 n d m e e2 g2 e3 e4 g3 g4⟩
    · rw [decide_eq_false c2]
      refine ⟨mA,rfl,aAW,fun v1 v2=>?_⟩
      unfold eH
      rw [iE v1,iE v2,decide_eq_true c1,decide_eq_false c2];rfl
  · rw [decide_eq_false c1]
    refine ⟨mA,rfl,aAW,fun v1 v2=>?_⟩
    unfold eH
    rw [iE v1,decide_eq_false c1];rfl
theorem aFz (n:Int) (h:bl n≤24):(aA n.natAbs).length≤24:=h
theorem aJc (n:Int):(if ((aA n.natAbs).length:Int)=0 then (⟨false,[]⟩:BigInt) else ⟨!decide (n < 0),aA n.natAbs⟩)=big (-n):=by
  by_cases c:n=0
  · subst c;simp [big,aA]
  · have:(aA n.natAbs).length≠0:=fun e=>cR (n:=n.natAbs) (by omega) (List.length_eq_zero_iff.1 e)
    rw [if_neg (by omega)]
    unfold big
    rw [Int.natAbs_neg]
    congr 1
    by_cases h:n < 0
    · rw [decide_eq_true h,decide_eq_false (by omega)];rfl
    · rw [decide_eq_false h,decide_eq_true (by omega)];rfl
theorem aED (l:List Int) (h:l.length≤4294967296):dO l=some l:=by
  unfold dO
  rw [aN (by simp;omega)]
  simp [bA]
theorem aDO (n:Int) (d:Nat) (hd:0 < d) (h1:bl n≤24) (h2:(aA d).length≤24):gX ⟨big n,aA d⟩=some ⟨big (-n),aA d⟩:=by
  unfold gX
  have h1':=aFz n h1
  rw [aBl hd]
  simp only [Option.bind_some,if_true,zC,zB]
  rw [aED _ (by omega),aED _ (by omega)]
  simp only [Option.bind_some]
  unfold dU
  have e:=aJc n
  by_cases c:((aA n.natAbs).length:Int)=0
  · rw [if_pos c] at e;simp [c,e]
  · rw [if_neg c] at e
    rw [if_neg c]
    have:¬(60:Int) < (aA n.natAbs).length:=by omega
    simp [this,e]
theorem aLg (n:Int) (d:Nat) (h1:bl n≤24) (h2:(aA d).length≤24):nW ⟨big n,aA d⟩=some ⟨big (-n),aA d⟩:=by
  unfold nW
  have h1':=aFz n h1
  simp only [zC,zB]
  rw [oY _ _ (by omega),aN (by simp;omega)]
  simp only [Option.bind_some,bA,List.nil_append]
  have e:=aJc n
  congr 2
  rw [← e]
  by_cases c:n=0
  · subst c;simp [aA]
  · have:(aA n.natAbs).length≠0:=fun e=>cR (n:=n.natAbs) (by omega) (List.length_eq_zero_iff.1 e)
    rw [if_neg (by omega)]
    simp [c]
theorem aFn {n:Int} {d:Nat} (h:bJ ⟨big n,aA d⟩) (h1:bl n≤24):bJ ⟨big (-n),aA d⟩:=by
  obtain ⟨⟨a1,a2⟩,b,c,d1,e,f⟩:=h
  refine ⟨⟨?_,fun hn=>?_⟩,b,c,d1,?_,?_⟩
  · show sN (aA (-n).natAbs);rw [Int.natAbs_neg];exact a1
  · simp only [big,decide_eq_true_eq] at hn ⊢
    exact cR (by omega)
  · show (aA (-n).natAbs).length≤24;rw [Int.natAbs_neg];exact e
  · show Nat.gcd (val (aA (-n).natAbs)) _=1;rw [Int.natAbs_neg];exact f
theorem aHY (r:Rat) (hr:bF r≤4294967296):∃ t,jU r=some t∧VZ t∧(VZ r→gX r=some t)∧(bJ r→nW r=some t∧bJ t):=by
  unfold jU
  rw [dN r hr]
  simp only [Option.bind_some]
  by_cases c1:bJ r
  · rw [decide_eq_true c1,if_pos rfl]
    obtain ⟨n,d,e1,e2,e3,e4,_⟩:=yF c1
    subst e1
    rw [aLg n d e3 e4]
    exact ⟨_,rfl,.inl (aFn c1 e3),fun _=>aDO n d e2 e3 e4,fun _=>⟨rfl,aFn c1 e3⟩⟩
  · rw [decide_eq_false c1]
    refine ⟨mA,rfl,aAW,fun v1=>?_,fun h=>absurd h c1⟩
    unfold gX
    rw [iE v1,decide_eq_false c1];rfl
theorem aLO (r s:Rat) (hr:bF r≤4294967296) (hs:bF s≤4294967296):∃ t,iS r s=some t∧VZ t∧(VZ r→VZ s→fH r s=some t):=by
  unfold iS
  rw [dN r hr]
  simp only [Option.bind_some]
  obtain ⟨u,u1,u2,u3,u4⟩:=aHY s hs
  obtain ⟨t,t1,t3,t4⟩:=aB7 r u hr (by have:=nO u2;omega)
  by_cases c1:bJ r
  · rw [decide_eq_true c1,if_pos rfl,dN s hs]
    simp only [Option.bind_some]
    by_cases c2:bJ s
    · rw [decide_eq_true c2]
      simp only [Bool.not_true,Bool.false_eq_true,if_false]
      obtain ⟨u5,u6⟩:=u4 c2
      rw [u5]
      simp only [Option.bind_some]
      have:nY r u=some t:=by
        have:=t1
        unfold cP at this
        rw [dN r hr,dN u (by have:=nO u2;omega),decide_eq_true c1,decide_eq_true u6] at this
        simpa using this
      rw [this]
      refine ⟨t,rfl,t3,fun v1 v2=>?_⟩
      unfold fH
      rw [u3 v2]
      simp only [Option.bind_some]
      rw [t4 v1 u2];rfl
    · rw [decide_eq_false c2]
      refine ⟨mA,rfl,aAW,fun v1 v2=>?_⟩
      unfold fH
      have e:u=mA:=by
        have:=u1
        unfold jU at this
        rw [dN s hs,decide_eq_false c2] at this
        simpa [mA] using this.symm
      rw [u3 v2]
      simp only [Option.bind_some]
      unfold bY
      rw [iE v1,iE u2,decide_eq_true c1,decide_eq_false (by rw [e];exact zT)];rfl
  · rw [decide_eq_false c1]
    refine ⟨mA,rfl,aAW,fun v1 v2=>?_⟩
    unfold fH
    rw [u3 v2]
    simp only [Option.bind_some]
    unfold bY
    rw [iE v1,decide_eq_false c1];rfl
noncomputable def RA (r s:Rat):Rat:=(cP r s).getD mA
noncomputable def RM (r s:Rat):Rat:=(dK r s).getD mA
noncomputable def RD (r s:Rat):Rat:=(gT r s).getD mA
noncomputable def RS (r s:Rat):Rat:=(iS r s).getD mA
noncomputable def RN (r:Rat):Rat:=(jU r).getD mA
theorem VZs {r:Rat} (h:VZ r):bF r≤4294967296:=by have:=nO h;omega
theorem aOP {r s:Rat} (hr:bF r≤4294967296) (hs:bF s≤4294967296):cP r s=some (RA r s)∧VZ (RA r s):=by
  obtain ⟨t,t1,t3,t4⟩:=aB7 r s hr hs
  have:RA r s=t:=by unfold RA;rw [t1];rfl
  rw [this];exact ⟨t1,t3⟩
theorem aAy {r s:Rat} (hr:VZ r) (hs:VZ s):cP r s=some (RA r s)∧bY r s=some (RA r s)∧VZ (RA r s):=by
  obtain ⟨t,t1,t3,t4⟩:=aB7 r s (VZs hr) (VZs hs)
  have:RA r s=t:=by unfold RA;rw [t1];rfl
  rw [this];exact ⟨t1,t4 hr hs,t3⟩
theorem aDf {r s:Rat} (hr:VZ r) (hs:VZ s):dK r s=some (RM r s)∧cI r s=some (RM r s)∧VZ (RM r s):=by
  obtain ⟨t,t1,t3,t4⟩:=aLP r s (VZs hr) (VZs hs)
  have:RM r s=t:=by unfold RM;rw [t1];rfl
  rw [this];exact ⟨t1,t4 hr hs,t3⟩
theorem aER {r s:Rat} (hr:VZ r) (hs:VZ s):gT r s=some (RD r s)∧eH r s=some (RD r s)∧VZ (RD r s):=by
  obtain ⟨t,t1,t3,t4⟩:=aLQ r s (VZs hr) (VZs hs)
  have:RD r s=t:=by unfold RD;rw [t1];rfl
  rw [this];exact ⟨t1,t4 hr hs,t3⟩
theorem aGJ {r s:Rat} (hr:VZ r) (hs:VZ s):iS r s=some (RS r s)∧fH r s=some (RS r s)∧VZ (RS r s):=by
  obtain ⟨t,t1,t3,t4⟩:=aLO r s (VZs hr) (VZs hs)
  have:RS r s=t:=by unfold RS;rw [t1];rfl
  rw [this];exact ⟨t1,t4 hr hs,t3⟩
theorem aKl {r:Rat} (hr:VZ r):jU r=some (RN r)∧gX r=some (RN r)∧VZ (RN r):=by
  obtain ⟨t,t1,t3,t4,_⟩:=aHY r (VZs hr)
  have:RN r=t:=by unfold RN;rw [t1];rfl
  rw [this];exact ⟨t1,t4 hr,t3⟩
theorem aF5 {n:Int} {d:Nat} (h:bJ ⟨big n,aA d⟩):0 < uQ ⟨big n,aA d⟩↔0 < n:=by
  unfold uQ
  rw [if_pos h]
  simp only [zC,zB,decide_eq_true_eq]
  by_cases c:n=0
  · subst c;simp [aA]
  · rw [if_neg (cR (by omega))]
    by_cases h:n < 0
    · rw [if_pos h];omega
    · rw [if_neg h];omega
theorem aMn {x y:Nat} (hx:0 < x) (h:bJ (mkR false x y)):0 < uQ (mkR false x y):=by
  unfold uQ
  rw [if_pos h]
  unfold mkR at h ⊢
  by_cases c:y=0
  · rw [if_pos c] at h;exact absurd h zT
  · rw [if_neg c] at h ⊢
    by_cases c2:24 < (aA (x / Nat.gcd x y)).length∨24 < (aA (y / Nat.gcd x y)).length
    · rw [if_pos c2] at h;exact absurd h zT
    · rw [if_neg c2] at h ⊢
      have hg:0 < Nat.gcd x y:=Nat.gcd_pos_of_pos_left y hx
      have:0 < x / Nat.gcd x y:=Nat.div_pos (Nat.gcd_le_left y hx) hg
      simp only [Bool.false_and,Bool.false_eq_true,if_false]
      rw [if_neg (cR (by omega))];omega
theorem aNF {r s:Rat} (hr:0 < uQ r) (hs:0 < uQ s) (h:bJ (RA r s)):0 < uQ (RA r s):=by
  have r1:=xE hr
  have s1:=xE hs
  obtain ⟨n,d,e1,e2,e3,e4,_⟩:=yF r1
  obtain ⟨m,e,g1,g2,g3,g4,_⟩:=yF s1
  subst e1;subst g1
  have hn:=(aF5 r1).1 hr
  have hm:=(aF5 s1).1 hs
  have q:=(aAy (.inl r1) (.inl s1)).2.1
  rw [aBB n d m e e2 g2 e3 e4 g3 g4] at q
  have q:=Option.some.inj q
  rw [← q] at h ⊢
  unfold aHV at h ⊢
  have p1:0 < n*(e:Int):=Int.mul_pos hn (by omega)
  have p2:0 < m*(d:Int):=Int.mul_pos hm (by omega)
  rw [decide_eq_false (by omega)] at h ⊢
  exact aMn (by omega) h
end Go.Ev
/- Copies of links; the links of a tree. -/
namespace Go.Ev
set_option linter.all false
theorem nX (x:Rat) (h:bF x≤4294967296):iP x=some x:=by
  unfold bF sQ uY at h
  rw [rK,rK] at h
  unfold iP
  rw [aN (by simp;omega),aN (by simp;omega)]
  simp only [Option.bind_some,aO,List.nil_append]
theorem rS (x:Link) (h:bN x≤4294967296):jR x=some x:=by
  unfold bN at h
  unfold jR
  rw [nX _ (by omega)]
  simp only [Option.bind_some]
  rw [nX _ (by omega)]
  simp only [Option.bind_some]
  rw [nX _ (by omega)]
  simp only [Option.bind_some]
theorem aAY (l:List Link) (h:aF l≤4294967296):nU l=some l:=by
  unfold aF at h
  have hl:=iN bN l
  unfold nU
  have:=xP (step:=nT l) l (fun k t=>((k:Int),t)) (fun t=>t) (fun k t hk ht=>by
    have he:=nJ (w:=bN) (List.getElem_mem hk)
    unfold nT
    simp only []
    rw [if_pos (by omega),aK hk]
    simp only [Option.bind_some]
    rw [rS _ (by omega)]
    simp only [Option.bind_some]
    rw [aN (by omega),wi (by omega)];rfl) (fun t ht=>by unfold nT;simp only [];rw [if_neg (by omega)])
  rw [show ((0:Nat):Int)=0 from rfl] at this
  rw [this];rfl
theorem zO (l:List Int) (h:l.length≤4294967296):dO l=some l:=by
  unfold dO
  rw [aN (by simp;omega)]
  simp only [Option.bind_some,aO,List.nil_append]
theorem gY (x:Rat) (h:bF x≤4294967296):fC x=some x:=by
  unfold bF sQ uY at h
  rw [rK,rK] at h
  unfold fC
  rw [zO _ (by omega)]
  simp only [Option.bind_some]
  rw [zO _ (by omega)]
  simp only [Option.bind_some]
theorem aDb (x:Link) (h:bN x≤4294967296):qB x=some x:=by
  unfold bN at h
  unfold qB
  rw [gY _ (by omega)]
  simp only [Option.bind_some]
  rw [gY _ (by omega)]
  simp only [Option.bind_some]
  rw [gY _ (by omega)]
  simp only [Option.bind_some]
theorem pB (l:List Link) (h:aF l≤4294967296):gZ l=some l:=by
  unfold aF at h
  have hl:=iN bN l
  unfold gZ
  have:=xP (step:=kD l) l (fun k t=>((k:Int),t)) (fun t=>t) (fun k t hk ht=>by
    have he:=nJ (w:=bN) (List.getElem_mem hk)
    unfold kD
    simp only []
    rw [if_pos (by omega),aK hk]
    simp only [Option.bind_some]
    rw [aDb _ (by omega)]
    simp only [Option.bind_some]
    rw [aN (by omega),wi (by omega)];rfl) (fun t ht=>by unfold kD;simp only [];rw [if_neg (by omega)])
  rw [show ((0:Nat):Int)=0 from rfl] at this
  rw [this];rfl
def dH (l:List TreeNode):List Link:=(l.map (fun n=>n.fOwn)).flatten
theorem aCi:∀ l:List TreeNode,aF (dH l)≤szL bL l
  | []=>by simp [dH,aF,aF2]
  | y::l=>by
    have:=aCi l
    have hn:bL y=aF y.fOwn+aT y.fCond+aF y.fMessages+bF y.fEnergy:=rfl
    unfold dH aF at *
    rw [List.map_cons,List.flatten_cons,aF3,mC]
    omega
theorem aCI (l:List TreeNode) (k:Nat) (hk:k < l.length):dH (l.take (k+1))=dH (l.take k)++l[k].fOwn:=by
  unfold dH
  rw [List.take_succ,List.getElem?_eq_getElem hk,List.map_append,List.flatten_append]
  simp
theorem aKs {α:Type} (w:α→Nat) (l:List α) (k:Nat):szL w (l.take k)≤szL w l:=by
  have:=aF3 w (l.take k) (l.drop k)
  rw [List.take_append_drop] at this
  omega
theorem aIp (l:List TreeNode) (h:szL bL l≤4294967296) (k:Nat):(dH (l.take k)).length≤4294967296:=by
  have h1:=aCi (l.take k)
  have h2:=aKs bL l k
  have h3:=iN bN (dH (l.take k))
  unfold aF at h1
  omega
end Go.Ev
/- Links: validity, order, merging; adding links to a link set, both programs. -/
namespace Go.Ev
open IntKind
set_option linter.all false
def ValidL (l:Link):Prop:=(0≤l.fA∧l.fA≤9)∧(0≤l.fB∧l.fB≤9)∧l.fA < l.fB∧0 < uQ l.fWeight∧bJ l.fDX∧bJ l.fDY
instance (l:Link):Decidable (ValidL l):=by unfold ValidL;infer_instance
theorem gP (l:Link) (h:bN l≤4294967296):dS l=some (decide (ValidL l))∧gH l=some (decide (ValidL l)):=by
  unfold bN at h
  obtain ⟨g1,g2⟩:=xX l.fWeight (by omega)
  have a1:=aAv l.fDX (by omega)
  have a2:=aAv l.fDY (by omega)
  have b1:=dN l.fDX (by omega)
  have b2:=dN l.fDY (by omega)
  unfold dS gH ValidL
  simp only [aHA,aAL,g1,g2,a1,a2,b1,b2,Option.bind_some]
  by_cases A:0≤l.fA∧l.fA≤9
  · by_cases B:0≤l.fB∧l.fB≤9
    · by_cases C:l.fA < l.fB
      · by_cases D:0 < uQ l.fWeight
        · by_cases E:bJ l.fDX
          · by_cases F:bJ l.fDY <;> simp [A,B,C,D,E,F]
          · simp [A,B,C,D,E]
        · simp [A,B,C,D]
      · simp [A,B,C]
    · simp [A,B]
  · simp [A]
theorem ValidL.vz {l:Link} (h:ValidL l):VZ l.fWeight∧VZ l.fDX∧VZ l.fDY:=⟨.inl (xE h.2.2.2.1),.inl h.2.2.2.2.1,.inl h.2.2.2.2.2⟩
theorem ValidL.sz {l:Link} (h:ValidL l):bN l≤144:=by
  obtain ⟨h1,h2,h3⟩:=h.vz
  have:=nO h1
  have:=nO h2
  have:=nO h3
  unfold bN;omega
theorem aCc {α:Type} {w:α→Nat} {c:Nat}:∀ {l:List α},(∀ x ∈ l,w x≤c)→szL w l≤(c+1)*l.length
  | [],_=>by simp [aF2]
  | y::l,h=>by
    have h1:=h y (by simp)
    have h2:=aCc (l:=l) (c:=c) (fun x hx=>h x (by simp [hx]))
    rw [mC,List.length_cons,Nat.mul_add,Nat.mul_one];omega
def eG (k l:Link):Prop:=k.fA < l.fA∨(k.fA=l.fA∧k.fB < l.fB)
instance (k l:Link):Decidable (eG k l):=by unfold eG;infer_instance
theorem aEU (k l:Link):lO k l=some (decide (eG k l)):=by
  unfold lO eG
  by_cases A:k.fA < l.fA
  · simp [A]
  · by_cases B:k.fA=l.fA
    · simp [A,B]
    · simp [A,B]
theorem aH1 (k l:Link):iX k l=some (decide (eG k l)):=aEU k l
theorem aAk {a b c:Link} (h:eG a b) (g:eG b c):eG a c:=by unfold eG at *;omega
noncomputable def sqR (x y:Rat):Rat:=RA (RM x x) (RM y y)
noncomputable def zS (k l:Link):Link:=⟨k.fA,k.fB,RA k.fWeight l.fWeight,RD (RA (RM k.fWeight k.fDX) (RM l.fWeight l.fDX)) (RA k.fWeight l.fWeight),RD (RA (RM k.fWeight k.fDY) (RM l.fWeight l.fDY)) (RA k.fWeight l.fWeight)⟩
noncomputable def aCk (k l:Link):Rat:=RM (RD (RM k.fWeight l.fWeight) (RA k.fWeight l.fWeight)) (sqR (RS k.fDX l.fDX) (RS k.fDY l.fDY))
def wK (k l:Link):Prop:=bJ (zS k l).fWeight∧bJ (zS k l).fDX∧bJ (zS k l).fDY∧bJ (aCk k l)
noncomputable instance (k l:Link):Decidable (wK k l):=by unfold wK;infer_instance
def aFc:Link:=Link.mk 0 0 (Rat.mk (BigInt.mk false ([])) ([])) (Rat.mk (BigInt.mk false ([])) ([])) (Rat.mk (BigInt.mk false ([])) ([]))
theorem aOI {x y:Rat} (hx:VZ x) (hy:VZ y):mF x y=some (sqR x y)∧kA x y=some (sqR x y)∧VZ (sqR x y):=by
  obtain ⟨a1,a2,a3⟩:=aDf hx hx
  obtain ⟨b1,b2,b3⟩:=aDf hy hy
  obtain ⟨c1,c2,c3⟩:=aAy a3 b3
  unfold mF kA sqR
  simp only [a1,a2,b1,b2,c1,c2,Option.bind_some]
  exact ⟨trivial,trivial,c3⟩
theorem aHo {k l:Link} (hk:ValidL k) (hl:ValidL l) (h:wK k l):ValidL (zS k l) :=
  ⟨hk.1,hk.2.1,hk.2.2.1,aNF hk.2.2.2.1 hl.2.2.2.1 h.1,h.2.1,h.2.2.1⟩
theorem aJj {k l:Link} (hk:ValidL k) (hl:ValidL l) (hA:k.fA=l.fA) (hB:k.fB=l.fB) :
    mI k l=some (if wK k l then (zS k l,aCk k l,true) else (aFc,mA,false))∧mT k l=some (if wK k l then (zS k l,aCk k l,true) else (aFc,mA,false))∧VZ (aCk k l):=by
  obtain ⟨k1,k2,k3⟩:=hk.vz
  obtain ⟨l1,l2,l3⟩:=hl.vz
  obtain ⟨a1,a2,a3⟩:=aAy k1 l1
  obtain ⟨b1,b2,b3⟩:=aDf k1 k2
  obtain ⟨c1,c2,c3⟩:=aDf l1 l2
  obtain ⟨d1,d2,d3⟩:=aAy b3 c3
  obtain ⟨e1,e2,e3⟩:=aER d3 a3
  obtain ⟨f1,f2,f3⟩:=aDf k1 k3
  obtain ⟨g1,g2,g3⟩:=aDf l1 l3
  obtain ⟨i1,i2,i3⟩:=aAy f3 g3
  obtain ⟨j1,j2,j3⟩:=aER i3 a3
  obtain ⟨m1,m2,m3⟩:=aDf k1 l1
  obtain ⟨n1,n2,n3⟩:=aER m3 a3
  obtain ⟨o1,o2,o3⟩:=aGJ k2 l2
  obtain ⟨p1,p2,p3⟩:=aGJ k3 l3
  obtain ⟨q1,q2,q3⟩:=aOI o3 p3
  obtain ⟨r1,r2,r3⟩:=aDf n3 q3
  have v1:=(gP k (by have:=hk.sz;omega)).1
  have v2:=(gP l (by have:=hl.sz;omega)).1
  have vm:=(gP (zS k l) (by
    have:=nO a3;have:=nO e3;have:=nO j3
    unfold bN zS;simp only [];omega)).1
  refine ⟨?_,?_,r3⟩
  · unfold mI
    rw [v1,v2,decide_eq_true hk,decide_eq_true hl]
    simp only [Option.bind_some,if_true,hA,hB,ne_eq,not_true_eq_false,if_false,decide_false,Bool.false_eq_true]
    simp only [a1,b1,c1,d1,e1,f1,g1,i1,j1,m1,n1,o1,p1,q1,r1,Option.bind_some]
    rw [← hA,← hB]
    have e:(Link.mk k.fA k.fB (RA k.fWeight l.fWeight) (RD (RA (RM k.fWeight k.fDX) (RM l.fWeight l.fDX)) (RA k.fWeight l.fWeight)) (RD (RA (RM k.fWeight k.fDY) (RM l.fWeight l.fDY)) (RA k.fWeight l.fWeight)))=zS k l:=rfl
    rw [e,vm]
    have e2:RM (RD (RM k.fWeight l.fWeight) (RA k.fWeight l.fWeight)) (sqR (RS k.fDX l.fDX) (RS k.fDY l.fDY))=aCk k l:=rfl
    rw [e2,dN (aCk k l) (VZs r3)]
    simp only [Option.bind_some]
    by_cases O:wK k l
    · rw [if_pos O,decide_eq_true (aHo hk hl O),decide_eq_true O.2.2.2];rfl
    · rw [if_neg O]
      by_cases V:ValidL (zS k l)
      · have:¬bJ (aCk k l):=fun h=>O ⟨xE V.2.2.2.1,V.2.2.2.2.1,V.2.2.2.2.2,h⟩
        rw [decide_eq_true V,decide_eq_false this];rfl
      · rw [decide_eq_false V];rfl
  · unfold mT
    simp only [a2,b2,c2,d2,e2,f2,g2,i2,j2,m2,n2,o2,p2,q2,r2,Option.bind_some,iE a3,iE e3,iE j3,iE r3]
    unfold wK zS aCk
    simp only []
    by_cases A:bJ (RA k.fWeight l.fWeight)
    · by_cases B:bJ (RD (RA (RM k.fWeight k.fDX) (RM l.fWeight l.fDX)) (RA k.fWeight l.fWeight))
      · by_cases C:bJ (RD (RA (RM k.fWeight k.fDY) (RM l.fWeight l.fDY)) (RA k.fWeight l.fWeight))
        · by_cases D:bJ (RM (RD (RM k.fWeight l.fWeight) (RA k.fWeight l.fWeight)) (sqR (RS k.fDX l.fDX) (RS k.fDY l.fDY))) <;> simp [A,B,C,D,aFc,mA]
        · simp [A,B,C,aFc,mA]
      · simp [A,B,aFc,mA]
    · simp [A,aFc,mA]
def LSet (s:List Link):Prop:=(∀ x ∈ s,ValidL x)∧s.Pairwise eG
noncomputable instance (s:List Link):Decidable (LSet s):=Classical.propDecidable _
theorem aJp:∀ (l:List Int) (a N:Int),l.Pairwise (· < ·)→(∀ x ∈ l,a≤x∧x < N)→(l.length:Int)≤max 0 (N - a)
  | [],a,N,_,_=>by rw [List.length_nil];omega
  | x::l,a,N,h,hb=>by
    rw [List.pairwise_cons] at h
    have h1:=hb x (by simp)
    have:=aJp l (x+1) N h.2 (fun y hy=>⟨by have:=h.1 y hy;omega,(hb y (by simp [hy])).2⟩)
    rw [List.length_cons];omega
theorem LSet.len {s:List Link} (h:LSet s):s.length≤100:=by
  have:=aJp (s.map fun l=>l.fA*10+l.fB) 0 100 (by
    rw [List.pairwise_map]
    refine List.Pairwise.imp_of_mem (fun {a b} ha hb hr=>?_) h.2
    have h1:=h.1 a ha
    have h2:=h.1 b hb
    unfold ValidL at h1 h2
    unfold eG at hr
    omega) (by
    intro x hx
    obtain ⟨l,hl,rfl⟩:=List.mem_map.1 hx
    have h1:=h.1 l hl
    unfold ValidL at h1
    omega)
  rw [List.length_map] at this;omega
theorem aAB {s:List Link} (h:∀ x ∈ s,ValidL x):aF s≤145*s.length:=aCc (fun x hx=>(h x hx).sz)
theorem LSet.sz {s:List Link} (h:LSet s):aF s≤14500:=by
  have:=aAB h.1
  have:=h.len
  omega
def lsF:Option Link→List Link→Prop
  | _,[]=>True
  | p,x::r=>ValidL x∧(∀ q,p=some q→eG q x)∧lsF (some x) r
noncomputable instance (p:Option Link) (s:List Link):Decidable (lsF p s):=Classical.propDecidable _
theorem aJk:∀ (s:List Link) (p:Option Link),lsF p s↔LSet s∧∀ q,p=some q→∀ x ∈ s,eG q x
  | [],p=>by simp [lsF,LSet]
  | x::r,p=>by
    rw [lsF,aJk r (some x)]
    unfold LSet
    rw [List.pairwise_cons]
    constructor
    · rintro ⟨h1,h2,⟨h3,h4⟩,h5⟩
      refine ⟨⟨fun y hy=>?_,fun y hy=>h5 x rfl y hy,h4⟩,fun q hq y hy=>?_⟩
      · rcases List.mem_cons.1 hy with rfl | hy
        · exact h1
        · exact h3 y hy
      · rcases List.mem_cons.1 hy with rfl | hy
        · exact h2 q hq
        · exact aAk (h2 q hq) (h5 x rfl y hy)
    · rintro ⟨⟨h1,h2,h3⟩,h4⟩
      exact ⟨h1 x (by simp),fun q hq=>h4 q hq x (by simp),⟨fun y hy=>h1 y (by simp [hy]),h3⟩,fun q hq y hy=>by cases hq;exact h2 y hy⟩
theorem kG (s:List Link) (h:aF s≤4294967296):cX s=some (decide (LSet s)):=by
  unfold aF at h
  have hl:=iN bN s
  have main:∀ m k:Nat,m+k=s.length→∀ p:Option Link,(p=if k=0 then none else s[k - 1]?)→lp (eA s) (k:Int)=some (if lsF p (s.drop k) then .inl () else .inr false):=by
    intro m
    induction m with
    | zero =>
      intro k hk p _
      rw [List.drop_eq_nil_of_le (by omega),if_pos (by simp [lsF])]
      exact aL (by unfold eA;rw [if_neg (by omega)])
    | succ m ih =>
      intro k hk p hp
      have hlt:k < s.length:=by omega
      have hz:=nJ (w:=bN) (List.getElem_mem hlt)
      have v:=(gP s[k] (by omega)).1
      rw [List.drop_eq_getElem_cons hlt]
      have st:eA s (k:Int)=some (if ValidL s[k]∧(∀ q,p=some q→eG q s[k]) then .inl ((k+1:Nat):Int) else .inr (.inr false)):=by
        have w1:i64.wrap ((k:Int)+1)=((k+1:Nat):Int):=by rw [wi (by omega)];omega
        unfold eA
        rw [if_pos (by omega),aK hlt]
        simp only [Option.bind_some,v,w1]
        by_cases V:ValidL s[k]
        · rw [decide_eq_true V,if_pos rfl]
          by_cases K:k=0
          · subst K
            rw [if_pos rfl] at hp;subst hp
            simp [V]
          · have hlt2:k - 1 < s.length:=by omega
            rw [if_neg K,List.getElem?_eq_getElem hlt2] at hp;subst hp
            have w2:i64.wrap ((k:Int) - 1)=((k - 1:Nat):Int):=by rw [wi (by omega)];omega
            rw [if_pos (by omega),w2,aK hlt2]
            simp only [Option.bind_some,aEU]
            by_cases L:eG s[k - 1] s[k]
            · simp [V,L]
            · simp [L]
        · rw [decide_eq_false V];simp [V]
      by_cases G:ValidL s[k]∧(∀ q,p=some q→eG q s[k])
      · rw [if_pos G] at st
        rw [aU st,ih (k+1) (by omega) (some s[k]) (by rw [if_neg (by omega),Nat.add_sub_cancel,List.getElem?_eq_getElem hlt])]
        have:lsF p (s[k]::s.drop (k+1))↔lsF (some s[k]) (s.drop (k+1)):=by rw [lsF];exact ⟨fun h=>h.2.2,fun h=>⟨G.1,G.2,h⟩⟩
        simp only [this]
      · rw [if_neg G] at st
        rw [aL st,if_neg]
        rw [lsF];exact fun h=>G ⟨h.1,h.2.1⟩
  have:=main s.length 0 (by omega) none (by simp)
  unfold cX
  rw [show ((0:Nat):Int)=0 from rfl,List.drop_zero] at this
  rw [this]
  have e:lsF none s↔LSet s:=by rw [aJk];exact ⟨fun h=>h.1,fun h=>⟨h,fun q hq=>by cases hq⟩⟩
  by_cases c:LSet s
  · rw [if_pos (e.2 c),decide_eq_true c];rfl
  · rw [if_neg (fun h=>c (e.1 h)),decide_eq_false c];rfl
def dG (l:Link):List Link→Nat
  | []=>0
  | y::r=>if eG y l then dG l r+1 else 0
theorem aI8 (l:Link):∀ s:List Link,dG l s≤s.length
  | []=>Nat.le_refl _
  | y::r=>by
    have:=aI8 l r
    rw [dG];split <;> simp <;> omega
theorem aCg (l:Link):∀ s:List Link,∀ x ∈ s.take (dG l s),eG x l
  | [],x,h=>by simp [dG] at h
  | y::r,x,h=>by
    rw [dG] at h
    by_cases c:eG y l
    · rw [if_pos c,List.take_succ_cons] at h
      rcases List.mem_cons.1 h with rfl | h
      · exact c
      · exact aCg l r x h
    · rw [if_neg c] at h;simp at h
theorem aAF (l:Link):∀ (s:List Link) (h:dG l s < s.length),¬eG s[dG l s] l
  | [],h=>by simp at h
  | y::r,h=>by
    by_cases c:eG y l
    · have e:dG l (y::r)=dG l r+1:=by rw [dG,if_pos c]
      have h':dG l r < r.length:=by rw [e] at h;simpa using h
      have:=aAF l r h'
      simpa [e] using this
    · have e:dG l (y::r)=0:=by rw [dG,if_neg c]
      simpa [e] using c
theorem aKS (s:List Link) (l:Link) (h:s.length≤4294967296):lp (fU l s) 0=some ((dG l s:Nat):Int):=by
  have main:∀ m k:Nat,m+k=s.length→lp (fU l s) (k:Int)=some ((k+dG l (s.drop k):Nat):Int):=by
    intro m
    induction m with
    | zero =>
      intro k hk
      rw [List.drop_eq_nil_of_le (by omega)]
      refine aL ?_
      unfold fU
      rw [if_neg (by omega)];rfl
    | succ m ih =>
      intro k hk
      have hlt:k < s.length:=by omega
      have w1:i64.wrap ((k:Int)+1)=((k+1:Nat):Int):=by rw [wi (by omega)];omega
      rw [List.drop_eq_getElem_cons hlt,dG]
      have st:fU l s (k:Int)=some (if eG s[k] l then .inl ((k+1:Nat):Int) else .inr (k:Int)):=by
        unfold fU
        rw [if_pos (by omega),aK hlt]
        simp only [Option.bind_some,aEU,w1]
        by_cases L:eG s[k] l <;> simp [L]
      by_cases L:eG s[k] l
      · rw [if_pos L] at st ⊢
        rw [aU st,ih (k+1) (by omega)]
        congr 2;omega
      · rw [if_neg L] at st ⊢
        rw [aL st];rfl
  have:=main s.length 0 (by omega)
  simpa using this
noncomputable def zE (s:List Link) (l:Link):Option (List Link × Rat) :=
  if h:dG l s < s.length then
    if eG l s[dG l s] then some (s.take (dG l s)++[l]++s.drop (dG l s),pH 0)
    else if wK s[dG l s] l then some (s.take (dG l s)++[zS s[dG l s] l]++s.drop (dG l s+1),aCk s[dG l s] l) else none
  else some (s.take (dG l s)++[l]++s.drop (dG l s),pH 0)
def pk:Option (List Link × Rat)→List Link × Rat × Bool
  | some (s,e)=>(s,e,true)
  | none=>([],mA,false)
theorem aEX {s:List Link} {m:Link} {p q:Nat} (hs:LSet s) (hm:ValidL m) (h1:∀ x ∈ s.take p,eG x m) (h2:∀ y ∈ s.drop q,eG m y):LSet (s.take p++[m]++s.drop q):=by
  refine ⟨fun x hx=>?_,?_⟩
  · rw [List.mem_append,List.mem_append,List.mem_singleton] at hx
    rcases hx with (hx | rfl) | hx
    · exact hs.1 x (List.mem_of_mem_take hx)
    · exact hm
    · exact hs.1 x (List.mem_of_mem_drop hx)
  · rw [List.append_assoc,List.pairwise_append]
    refine ⟨hs.2.sublist (List.take_sublist _ _),?_,fun a ha b hb=>?_⟩
    · rw [List.singleton_append,List.pairwise_cons]
      exact ⟨h2,hs.2.sublist (List.drop_sublist _ _)⟩
    · rw [List.singleton_append] at hb
      rcases List.mem_cons.1 hb with rfl | hb
      · exact h1 a ha
      · exact aAk (h1 a ha) (h2 b hb)
theorem aNf {s:List Link} (h:s.Pairwise eG) {p:Nat} (hp:p < s.length):(∀ x ∈ s.take p,eG x s[p])∧∀ y ∈ s.drop (p+1),eG s[p] y:=by
  have e:s=s.take p++(s[p]::s.drop (p+1)):=by rw [← List.drop_eq_getElem_cons hp,List.take_append_drop]
  rw [e,List.pairwise_append,List.pairwise_cons] at h
  exact ⟨fun x hx=>h.2.2 x hx _ List.mem_cons_self,h.2.1.1⟩
theorem aGG {s:List Link} {l:Link} (hs:LSet s) (hl:ValidL l) {s':List Link} {e:Rat} (h:zE s l=some (s',e)):LSet s'∧VZ e:=by
  unfold zE at h
  have z:VZ (pH 0):=.inl (yG 0 (by omega))
  by_cases c:dG l s < s.length
  · rw [dif_pos c] at h
    obtain ⟨g1,g2⟩:=aNf hs.2 c
    by_cases c2:eG l s[dG l s]
    · rw [if_pos c2] at h;cases h
      refine ⟨aEX hs hl (aCg l s) (fun y hy=>?_),z⟩
      rw [List.drop_eq_getElem_cons c] at hy
      rcases List.mem_cons.1 hy with rfl | hy
      · exact c2
      · exact aAk c2 (g2 y hy)
    · rw [if_neg c2] at h
      have hv:=hs.1 _ (List.getElem_mem c)
      have nl:=aAF l s c
      have hA:s[dG l s].fA=l.fA∧s[dG l s].fB=l.fB:=by unfold eG at c2 nl;omega
      by_cases O:wK s[dG l s] l
      · rw [if_pos O] at h;cases h
        exact ⟨aEX hs (aHo hv hl O) g1 g2,(aJj hv hl hA.1 hA.2).2.2⟩
      · rw [if_neg O] at h;cases h
  · rw [dif_neg c] at h;cases h
    refine ⟨aEX hs hl (aCg l s) (fun y hy=>?_),z⟩
    rw [List.drop_eq_nil_of_le (by omega)] at hy;cases hy
theorem aGH (s:List Link) (l:Link):uF s l=fU l s:=rfl
theorem qX {α:Type} (x:α):bA x=some x:=rfl
theorem aFW {s:List Link} {l:Link} (hs:LSet s) (hl:ValidL l):lP s l=some (pk (zE s l))∧sG s l=some (pk (zE s l)):=by
  have hlen:=hs.len
  have hp:=aI8 l s
  have v:=(gP l (by have:=hl.sz;omega)).1
  have i1:=kG s (by have:=hs.sz;omega)
  have c1:=aAY s (by have:=hs.sz;omega)
  have c2:=rS l (by have:=hl.sz;omega)
  have lp1:=aKS s l (by omega)
  have rf1:cC 0=some (pH 0):=bQ 0 (by omega)
  have rf2:dP 0=some (pH 0):=kF 0 (by omega)
  have s1:sub s 0 ((dG l s:Nat):Int)=some (s.take (dG l s)):=by rw [qG _ _ _ (by omega)];simp
  have s2:sub s ((dG l s:Nat):Int) (s.length:Int)=some (s.drop (dG l s)):=by
    rw [qG _ _ _ (by omega)];congr 1
    rw [List.take_of_length_le];rfl
    rw [List.length_drop];omega
  have t1:(s.take (dG l s)).length≤100:=by rw [List.length_take];omega
  have t2:(s.drop (dG l s)).length≤100:=by rw [List.length_drop];omega
  unfold lP sG zE
  rw [aGH,i1,v,decide_eq_true hs,decide_eq_true hl,lp1]
  simp only [Option.bind_some,if_true,Bool.not_true,Bool.false_eq_true,if_false,c1,lp1,s1,s2,qX,List.nil_append]
  rw [aN (by simp only [List.length_nil,Nat.zero_add];omega)]
  simp only [Option.bind_some]
  by_cases c:dG l s < s.length
  · have c':((dG l s:Nat):Int) < (s.length:Int):=by omega
    have c'':¬((dG l s:Nat):Int)=(s.length:Int):=by omega
    rw [if_pos c',if_neg c'',dif_pos c,aK c]
    simp only [Option.bind_some,aEU,aH1]
    by_cases L:eG l s[dG l s]
    · rw [if_pos L,decide_eq_true L]
      simp only [Bool.not_true,Bool.false_eq_true,if_false,if_true,c2,Option.bind_some,rf1,rf2]
      rw [aN (by omega)]
      simp only [Option.bind_some]
      rw [aN (by rw [List.length_append,List.length_singleton];omega)]
      exact ⟨rfl,rfl⟩
    · rw [if_neg L,decide_eq_false L]
      have hv:=hs.1 _ (List.getElem_mem c)
      have nl:=aAF l s c
      have hA:s[dG l s].fA=l.fA∧s[dG l s].fB=l.fB:=by unfold eG at L nl;omega
      obtain ⟨m1,m2,m3⟩:=aJj hv hl hA.1 hA.2
      simp only [Bool.not_false,if_true,Bool.false_eq_true,if_false,m1,m2,Option.bind_some]
      by_cases O:wK s[dG l s] l
      · rw [if_pos O,if_pos O]
        have w1:i64.wrap (((dG l s:Nat):Int)+1)=((dG l s+1:Nat):Int):=by rw [wi (by omega)];omega
        have s3:sub s ((dG l s+1:Nat):Int) (s.length:Int)=some (s.drop (dG l s+1)):=by
          rw [qG _ _ _ (by omega)];congr 1
          rw [List.take_of_length_le];rfl
          rw [List.length_drop];omega
        have t3:(s.drop (dG l s+1)).length≤100:=by rw [List.length_drop];omega
        simp only [if_true,w1,s3,Option.bind_some,rV]
        rw [aN (by omega)]
        simp only [Option.bind_some]
        rw [aN (by rw [List.length_append,List.length_singleton];omega)]
        refine ⟨?_,rfl⟩
        simp only [pk]
        rw [List.set_eq_take_append_cons_drop,if_pos c,List.append_assoc,List.singleton_append]
      · rw [if_neg O,if_neg O]
        exact ⟨rfl,rfl⟩
  · have c':¬((dG l s:Nat):Int) < (s.length:Int):=by omega
    have c'':((dG l s:Nat):Int)=(s.length:Int):=by omega
    rw [if_neg c',if_pos c'',dif_neg c]
    simp only [Option.bind_some,Bool.false_eq_true,if_false,if_true,c2,rf1,rf2]
    rw [aN (by omega)]
    simp only [Option.bind_some]
    rw [aN (by rw [List.length_append,List.length_singleton];omega)]
    exact ⟨rfl,rfl⟩
end Go.Ev
/- Joining links into a link set, both programs. -/
namespace Go.Ev
set_option linter.all false
theorem aNG {r s:Rat} (hr:VZ r) (hs:VZ s) (h:¬bJ r):RA r s=mA:=by
  have q:=(aAy hr hs).1
  unfold cP at q
  rw [dN r (VZs hr),decide_eq_false h] at q
  simpa [mA] using q.symm
noncomputable def sO:List Link→List Link→Rat→Option (List Link × Rat)
  | [],s,e=>some (s,e)
  | x::r,s,e=>match zE s x with
    | none=>none
    | some (s',e')=>if bJ (RA e e') then sO r s' (RA e e') else none
theorem aHz:∀ (l s:List Link) (e:Rat),(∀ x ∈ l,ValidL x)→LSet s→bJ e→∀ s' e',sO l s e=some (s',e')→LSet s'∧bJ e'
  | [],s,e,_,hs,he,s',e',h=>by rw [sO] at h;cases h;exact ⟨hs,he⟩
  | x::r,s,e,hv,hs,he,s',e',h=>by
    rw [sO] at h
    cases ha:zE s x with
    | none=>rw [ha] at h;cases h
    | some t =>
      obtain ⟨s1,e1⟩:=t
      rw [ha] at h
      simp only [] at h
      obtain ⟨g1,g2⟩:=aGG hs (hv x (by simp)) ha
      by_cases c:bJ (RA e e1)
      · rw [if_pos c] at h
        exact aHz r s1 _ (fun y hy=>hv y (by simp [hy])) g1 c s' e' h
      · rw [if_neg c] at h;cases h
noncomputable instance (l:List Link):Decidable (∀ x ∈ l,ValidL x):=Classical.propDecidable _
def aBe:List Link × Rat × Bool:=([],mA,false)
theorem aIz (l:List Link) (hv:∀ x ∈ l,ValidL x) (hl:l.length≤4294967296):∀ m k:Nat,m+k=l.length→∀ s e,LSet s→VZ e →
    lp (fS l) (s,(k:Int),e)=some (match sO (l.drop k) s e with | some t=>.inl t | none=>.inr aBe):=by
  intro m
  induction m with
  | zero =>
    intro k hk s e hs he
    rw [List.drop_eq_nil_of_le (by omega),sO]
    exact aL (by unfold fS;simp only [];rw [if_neg (by omega)])
  | succ m ih =>
    intro k hk s e hs he
    have hlt:k < l.length:=by omega
    have hx:=hv _ (List.getElem_mem hlt)
    have w1:IntKind.i64.wrap ((k:Int)+1)=((k+1:Nat):Int):=by rw [wi (by omega)];omega
    have a:=(aFW hs hx).2
    rw [List.drop_eq_getElem_cons hlt,sO]
    cases ha:zE s l[k] with
    | none =>
      rw [ha] at a
      have g:=(aAy he aAW).2.1
      refine aL ?_
      unfold fS
      simp only []
      rw [if_pos (by omega),aK hlt]
      simp only [Option.bind_some,a,pk,g]
      rfl
    | some t =>
      obtain ⟨s1,e1⟩:=t
      rw [ha] at a
      obtain ⟨g1,g2⟩:=aGG hs hx ha
      obtain ⟨_,q2,q3⟩:=aAy he g2
      have st:fS l (s,(k:Int),e)=some (if bJ (RA e e1) then .inl (s1,((k+1:Nat):Int),RA e e1) else .inr (.inr aBe)):=by
        unfold fS
        simp only []
        rw [if_pos (by omega),aK hlt]
        simp only [Option.bind_some,a,pk,q2,iE q3,if_true,w1]
        by_cases c:bJ (RA e e1)
        · simp [c]
        · simp [c,aBe,mA]
      simp only []
      by_cases c:bJ (RA e e1)
      · rw [if_pos c] at st ⊢
        rw [aU st]
        exact ih (k+1) (by omega) s1 _ g1 q3
      · rw [if_neg c] at st ⊢
        rw [aL st]
def aLw:(List Link × Rat) ⊕ (List Link × Rat × Bool)→List Link × Rat × Bool
  | .inl d=>if bJ d.2 then (d.1,d.2,true) else aBe
  | .inr x=>x
theorem aIy (l:List Link) (hz:aF l≤4294967296):∀ m k:Nat,m+k=l.length→∀ s e,LSet s→VZ e →
    ∃ R,lp (dZ l) (s,(k:Int),e)=some R∧(∀ d,R=.inl d→VZ d.2)∧aLw R=pk (if bJ e∧(∀ x ∈ l.drop k,ValidL x) then sO (l.drop k) s e else none):=by
  have hl:l.length≤4294967296:=by have:=iN bN l;unfold aF at hz;omega
  intro m
  induction m with
  | zero =>
    intro k hk s e hs he
    refine ⟨.inl (s,e),aL (by unfold dZ;simp only [];rw [if_neg (by omega)]),fun d h=>(by cases h;exact he),?_⟩
    rw [List.drop_eq_nil_of_le (by omega),sO]
    by_cases c:bJ e
    · simp [aLw,pk,c]
    · simp [aLw,pk,c,aBe]
  | succ m ih =>
    intro k hk s e hs he
    have hlt:k < l.length:=by omega
    have w1:IntKind.i64.wrap ((k:Int)+1)=((k+1:Nat):Int):=by rw [wi (by omega)];omega
    have hxz:bN l[k]≤4294967296:=by have:=nJ (w:=bN) (List.getElem_mem hlt);unfold aF at hz;omega
    rw [List.drop_eq_getElem_cons hlt]
    by_cases hx:ValidL l[k]
    · have a:=(aFW hs hx).1
      rw [sO]
      cases ha:zE s l[k] with
      | none =>
        rw [ha] at a
        refine ⟨.inr aBe,aL ?_,fun d h=>(by cases h),?_⟩
        · unfold dZ
          simp only []
          rw [if_pos (by omega),aK hlt]
          simp only [Option.bind_some,a,pk]
          rfl
        · simp [aLw,pk,aBe]
      | some t =>
        obtain ⟨s1,e1⟩:=t
        rw [ha] at a
        obtain ⟨g1,g2⟩:=aGG hs hx ha
        obtain ⟨q1,_,q3⟩:=aAy he g2
        have st:dZ l (s,(k:Int),e)=some (.inl (s1,((k+1:Nat):Int),RA e e1)):=by
          unfold dZ
          simp only []
          rw [if_pos (by omega),aK hlt]
          simp only [Option.bind_some,a,pk,q1,if_true,w1]
        obtain ⟨R,r1,r2,r3⟩:=ih (k+1) (by omega) s1 _ g1 q3
        refine ⟨R,by rw [aU st];exact r1,r2,?_⟩
        rw [r3]
        simp only []
        by_cases c:bJ e
        · by_cases c2:bJ (RA e e1)
          · have:(∀ x ∈ l[k]::l.drop (k+1),ValidL x)↔(∀ x ∈ l.drop (k+1),ValidL x):=⟨fun h x hx'=>h x (List.mem_cons_of_mem _ hx'),fun h x hx'=>by rcases List.mem_cons.1 hx' with rfl | h';exact hx;exact h x h'⟩
            simp only [c,c2,true_and,if_true,this]
          · simp only [c,c2,true_and,false_and,if_false,ite_self]
        · have c2:¬bJ (RA e e1):=by rw [aNG he g2 c];exact zT
          simp only [c,c2,false_and,if_false]
    · refine ⟨.inr aBe,aL ?_,fun d h=>(by cases h),?_⟩
      · unfold dZ
        simp only []
        rw [if_pos (by omega),aK hlt]
        have a:lP s l[k]=some aBe:=by
          unfold lP
          rw [kG s (by have:=hs.sz;omega),(gP l[k] hxz).1,decide_eq_true hs,decide_eq_false hx]
          rfl
        simp only [Option.bind_some,a,aBe]
        rfl
      · rw [if_neg (fun h=>hx (h.2 _ List.mem_cons_self))];rfl
theorem aFZ (l:List Link) (hz:aF l≤4294967296):mQ l=some (decide (∀ x ∈ l,ValidL x)):=by
  have hl:l.length≤4294967296:=by have:=iN bN l;unfold aF at hz;omega
  have main:∀ m k:Nat,m+k=l.length→lp (gF l) (k:Int)=some (if (∀ x ∈ l.drop k,ValidL x) then .inl () else .inr false):=by
    intro m
    induction m with
    | zero =>
      intro k hk
      rw [List.drop_eq_nil_of_le (by omega),if_pos (by simp)]
      exact aL (by unfold gF;rw [if_neg (by omega)])
    | succ m ih =>
      intro k hk
      have hlt:k < l.length:=by omega
      have w1:IntKind.i64.wrap ((k:Int)+1)=((k+1:Nat):Int):=by rw [wi (by omega)];omega
      have v:=(gP l[k] (by have:=nJ (w:=bN) (List.getElem_mem hlt);unfold aF at hz;omega)).2
      have st:gF l (k:Int)=some (if ValidL l[k] then .inl ((k+1:Nat):Int) else .inr (.inr false)):=by
        unfold gF
        rw [if_pos (by omega),aK hlt]
        simp only [Option.bind_some,v,w1]
        by_cases c:ValidL l[k] <;> simp [c]
      rw [List.drop_eq_getElem_cons hlt]
      by_cases c:ValidL l[k]
      · rw [if_pos c] at st
        rw [aU st,ih (k+1) (by omega)]
        have:(∀ x ∈ l[k]::l.drop (k+1),ValidL x)↔(∀ x ∈ l.drop (k+1),ValidL x):=⟨fun h x hx'=>h x (List.mem_cons_of_mem _ hx'),fun h x hx'=>by rcases List.mem_cons.1 hx' with rfl | h';exact c;exact h x h'⟩
        simp only [this]
      · rw [if_neg c] at st
        rw [aL st,if_neg (fun h=>c (h _ List.mem_cons_self))]
  have:=main l.length 0 (by omega)
  unfold mQ
  rw [show ((0:Nat):Int)=0 from rfl,List.drop_zero] at this
  rw [this]
  by_cases c:∀ x ∈ l,ValidL x
  · rw [if_pos c,decide_eq_true c];rfl
  · rw [if_neg c,decide_eq_false c];rfl
theorem aAA:LSet []:=⟨by simp,List.Pairwise.nil⟩
theorem aAE:bJ (pH 0):=yG 0 (by omega)
noncomputable def jnP (l:List Link):Option (List Link × Rat):=if ∀ x ∈ l,ValidL x then sO l [] (pH 0) else none
theorem aAn {l s:List Link} {e:Rat} (h:jnP l=some (s,e)):(∀ x ∈ l,ValidL x)∧LSet s∧bJ e:=by
  unfold jnP at h
  by_cases c:∀ x ∈ l,ValidL x
  · rw [if_pos c] at h
    exact ⟨c,aHz l [] _ c aAA aAE s e h⟩
  · rw [if_neg c] at h;cases h
theorem aAm {l:List Link} (hv:∀ x ∈ l,ValidL x) (hl:l.length≤4294967296):jF l=some (pk (jnP l)):=by
  unfold jF jnP
  rw [kF 0 (by omega),if_pos hv]
  simp only [Option.bind_some]
  have:=aIz l hv hl l.length 0 (by omega) [] (pH 0) aAA (.inl aAE)
  rw [show ((0:Nat):Int)=0 from rfl,List.drop_zero] at this
  rw [this]
  cases sO l [] (pH 0) with
  | none=>rfl
  | some t=>rfl
theorem wN (l:List Link) (hz:aF l≤4294967296):gU l=some (pk (jnP l))∧oP l=some (pk (jnP l)):=by
  have hl:l.length≤4294967296:=by have:=iN bN l;unfold aF at hz;omega
  constructor
  · unfold gU
    rw [bQ 0 (by omega)]
    simp only [Option.bind_some]
    obtain ⟨R,r1,r2,r3⟩:=aIy l hz l.length 0 (by omega) [] (pH 0) aAA (.inl aAE)
    rw [show ((0:Nat):Int)=0 from rfl] at r1
    rw [List.drop_zero] at r3
    rw [r1]
    have e:(if bJ (pH 0)∧(∀ x ∈ l,ValidL x) then sO l [] (pH 0) else none)=jnP l:=by unfold jnP;simp only [aAE,true_and]
    rw [← e,← r3]
    cases R with
    | inl d =>
      simp only [Option.bind_some]
      rw [dN d.2 (VZs (r2 d rfl))]
      simp only [Option.bind_some,aLw]
      by_cases c:bJ d.2
      · rw [decide_eq_true c,if_pos c];rfl
      · rw [decide_eq_false c,if_neg c];rfl
    | inr x=>rfl
  · unfold oP
    rw [aFZ l hz]
    simp only [Option.bind_some]
    by_cases c:∀ x ∈ l,ValidL x
    · rw [decide_eq_true c,if_pos rfl,aAm c hl]
      simp only [Option.bind_some]
      cases hj:jnP l with
      | none=>rfl
      | some t =>
        obtain ⟨s,e⟩:=t
        obtain ⟨_,g1,_⟩:=aAn hj
        simp only [pk,if_true]
        rw [pB s (by have:=g1.sz;omega)]
        rfl
    · rw [decide_eq_false c]
      unfold jnP
      rw [if_neg c];rfl
end Go.Ev
/- Cliques: their nodes in order. -/
namespace Go.Ev
set_option linter.all false
theorem yC:∀ {a b:List Int},a.Pairwise (· < ·)→b.Pairwise (· < ·)→(∀ x,x ∈ a↔x ∈ b)→a=b
  | [],[],_,_,_=>rfl
  | [],y::b,_,_,h=>absurd ((h y).2 (by simp)) (by simp)
  | x::a,[],_,_,h=>absurd ((h x).1 (by simp)) (by simp)
  | x::a,y::b,ha,hb,h=>by
    rw [List.pairwise_cons] at ha hb
    have hxy:x=y:=by
      have h1:=(h x).1 (by simp)
      have h2:=(h y).2 (by simp)
      rcases List.mem_cons.1 h1 with e | e
      · exact e
      · rcases List.mem_cons.1 h2 with e' | e'
        · exact e'.symm
        · have:=hb.1 x e;have:=ha.1 y e';omega
    subst hxy
    have:a=b:=yC ha.2 hb.2 (fun z=>by
      constructor
      · intro hz
        have:=(h z).1 (by simp [hz])
        rcases List.mem_cons.1 this with e | e
        · subst e;have:=ha.1 z hz;omega
        · exact e
      · intro hz
        have:=(h z).2 (by simp [hz])
        rcases List.mem_cons.1 this with e | e
        · subst e;have:=hb.1 z hz;omega
        · exact e)
    rw [this]
def zR:List Int→Int→List Int
  | [],n=>[n]
  | x::l,n=>if x < n then x::zR l n else if x=n then x::l else n::x::l
theorem xG:∀ (l:List Int) (n x:Int),x ∈ zR l n↔x=n∨x ∈ l
  | [],n,x=>by simp [zR]
  | y::l,n,x=>by
    unfold zR
    by_cases h1:y < n
    · rw [if_pos h1,List.mem_cons,List.mem_cons,xG l n x]
      constructor
      · rintro (h | h | h) <;> simp [h]
      · rintro (h | h | h) <;> simp [h]
    · rw [if_neg h1]
      by_cases h2:y=n
      · rw [if_pos h2];subst h2;simp
      · rw [if_neg h2];simp
theorem tS:∀ (l:List Int) (n:Int),l.Pairwise (· < ·)→(zR l n).Pairwise (· < ·)
  | [],n,_=>by simp [zR]
  | y::l,n,h=>by
    unfold zR
    rw [List.pairwise_cons] at h
    by_cases h1:y < n
    · rw [if_pos h1,List.pairwise_cons]
      exact ⟨fun x hx=>by rcases (xG l n x).1 hx with e | e;omega;exact h.1 x e,tS l n h.2⟩
    · rw [if_neg h1]
      by_cases h2:y=n
      · rw [if_pos h2,List.pairwise_cons];exact h
      · rw [if_neg h2,List.pairwise_cons]
        exact ⟨fun x hx=>by rcases List.mem_cons.1 hx with e | e;omega;have:=h.1 x e;omega,List.pairwise_cons.2 h⟩
theorem xH:∀ (l:List Int) (n:Int),(zR l n).length≤l.length+1
  | [],n=>by simp [zR]
  | y::l,n=>by
    unfold zR
    split
    · simp [xH l n]
    · split <;> simp
def lY (l:List Int) (n:Int):Nat:=(l.takeWhile (fun x=>decide (x < n))).length
theorem aIC (l:List Int) (n:Int):lY l n≤l.length:=by
  unfold lY
  induction l with
  | nil=>simp
  | cons x l ih =>
    rw [List.takeWhile_cons]
    split
    · simpa using ih
    · simp
theorem aB2 (x:Int) (l:List Int) (n:Int):lY (x::l) n=if x < n then lY l n+1 else 0:=by
  unfold lY
  rw [List.takeWhile_cons]
  by_cases h:x < n <;> simp [h]
theorem aI7:∀ (l:List Int) (n:Int),zR l n=if l[lY l n]?=some n then l else l.take (lY l n)++[n]++l.drop (lY l n)
  | [],n=>by simp [zR,lY]
  | x::l,n=>by
    rw [aB2]
    unfold zR
    by_cases h:x < n
    · rw [if_pos h,if_pos h,aI7 l n]
      simp only [List.getElem?_cons_succ,List.take_succ_cons,List.drop_succ_cons]
      split <;> simp
    · rw [if_neg h,if_neg h]
      by_cases h2:x=n <;> simp [h2]
theorem aKN (l:List Int) (n:Int) (h:l.length≤4294967296):lp (fO l n) 0=some ((lY l n:Nat):Int):=by
  have main:∀ m k:Nat,m+k=l.length→lp (fO l n) (k:Int)=some ((k+lY (l.drop k) n:Nat):Int):=by
    intro m
    induction m with
    | zero =>
      intro k hk
      have:k=l.length:=by omega
      subst this
      rw [aL (r:=(l.length:Int)) (by unfold fO;rw [if_neg (by omega)];rfl),List.drop_length];simp [lY]
    | succ m ih =>
      intro k hk
      have hlt:k < l.length:=by omega
      rw [List.drop_eq_getElem_cons hlt,aB2]
      by_cases c:l[k] < n
      · rw [if_pos c]
        have e:fO l n (k:Int)=some (.inl ((k:Int)+1)):=by
          unfold fO
          rw [if_pos (by omega),aK hlt,wi (by omega)]
          simp [c]
        rw [aU e,show (k:Int)+1=((k+1:Nat):Int) by omega,ih (k+1) (by omega)]
        congr 2;omega
      · rw [if_neg c]
        have e:fO l n (k:Int)=some (.inr (k:Int)):=by
          unfold fO
          rw [if_pos (by omega),aK hlt]
          simp [c]
        rw [aL e];simp
  have:=main l.length 0 (by omega)
  simpa using this
theorem aG4 (l:List Int) (n:Int) (h:l.length≤4294967296):lK l n=some (zR l n):=by
  have hf:=aIC l n
  unfold lK
  rw [aKN l n h,aI7]
  simp only [Option.bind_some]
  by_cases hlt:lY l n < l.length
  · rw [if_pos (by omega),aK hlt,List.getElem?_eq_getElem hlt]
    simp only [Option.bind_some,decide_eq_true_eq,Option.some.injEq]
    by_cases c:l[lY l n]=n
    · rw [if_pos c,if_pos c]
    · rw [if_neg c,if_neg c,qG _ _ _ (by omega),qG _ _ _ (by omega)]
      simp only [Option.bind_some,aO,List.nil_append]
      rw [aN (by simp;omega),aN (by simp;omega),aN (by simp;omega)]
      simp only [Option.bind_some]
      simp
      rw [List.take_of_length_le (by simp)]
  · have:lY l n=l.length:=by omega
    rw [if_neg (by omega),this,if_neg (by simp)]
    simp only [Option.bind_some,Bool.false_eq_true,if_false]
    rw [qG _ _ _ (by omega),qG _ _ _ (by omega)]
    simp only [Option.bind_some,aO,List.nil_append]
    rw [aN (by simp;omega),aN (by simp;omega),aN (by simp;omega)]
    simp
end Go.Ev
/- The arms of a node of a link set, both programs. -/
namespace Go.Ev
set_option linter.all false
def pT (v:Int) (l:Link):Int:=if l.fA=v then l.fB else l.fA
def tch (v:Int) (l:Link):Bool:=decide (l.fA=v∨l.fB=v)
noncomputable def zP (v:Int) (l:Link):l08Arm:=if l.fA=v then ⟨l.fB,l.fWeight,RN l.fDX,RN l.fDY⟩ else ⟨l.fA,l.fWeight,l.fDX,l.fDY⟩
noncomputable def bI (v:Int) (s:List Link):List l08Arm:=(s.filter (tch v)).map (zP v)
theorem zD (v:Int) (l:Link):(zP v l).fnode=pT v l:=by unfold zP pT;split <;> rfl
theorem aFx {s:List Link} (hs:LSet s) (v:Int):((s.filter (tch v)).map (pT v)).Pairwise (· < ·):=by
  rw [List.pairwise_map]
  refine List.Pairwise.imp_of_mem (fun {a b} ha hb hr=>?_) (hs.2.sublist List.filter_sublist)
  rw [List.mem_filter] at ha hb
  have h1:=hs.1 a ha.1
  have h2:=hs.1 b hb.1
  have t1:=ha.2
  have t2:=hb.2
  unfold tch at t1 t2
  rw [decide_eq_true_eq] at t1 t2
  unfold ValidL at h1 h2
  unfold eG at hr
  unfold pT
  split <;> split <;> omega
theorem aNj {s:List Link} (hs:LSet s) (v:Int):rO s v=some ((s.filter (tch v)).map (pT v)):=by
  have hlen:=hs.len
  unfold rO
  obtain ⟨e1,e2⟩:=jX (step:=mE s v) s (fun k t=>(t,(k:Int))) (fun t l=>if tch v l then zR t (pT v l) else t) (fun t=>t)
    (fun k t=>t.length≤k∧t.Pairwise (· < ·)∧∀ x,x ∈ t↔x ∈ ((s.take k).filter (tch v)).map (pT v)) (fun k t hk hI=>by
      obtain ⟨i1,i2,i3⟩:=hI
      have hv:=hs.1 _ (List.getElem_mem hk)
      have w1:IntKind.i64.wrap ((k:Int)+1)=((k+1:Nat):Int):=by rw [wi (by omega)];omega
      refine ⟨?_,?_,?_,?_⟩
      · unfold mE
        simp only []
        rw [if_pos (by omega),aK hk]
        unfold ValidL at hv
        simp only [Option.bind_some,aG4 t _ (by omega:t.length≤4294967296),w1]
        by_cases A:(s[k]).fA=v
        · have B:¬(s[k]).fB=v:=by omega
          simp [A,B,tch,pT]
        · by_cases B:(s[k]).fB=v
          · rw [if_neg A]
            simp only [Option.bind_some]
            rw [if_pos B,aG4 t _ (by omega:t.length≤4294967296)]
            simp [A,B,tch,pT]
          · simp [A,B,tch,pT]
      · have:=xH t (pT v s[k])
        split <;> omega
      · split
        · exact tS _ _ i2
        · exact i2
      · intro x
        have tk:s.take (k+1)=s.take k++[s[k]]:=by rw [List.take_add_one,List.getElem?_eq_getElem hk];rfl
        rw [tk,List.filter_append,List.map_append,List.mem_append,← i3 x]
        by_cases T:tch v s[k]=true
        · simp only [T,if_true,xG,List.filter_cons_of_pos,List.filter_nil,List.map_cons,List.map_nil,List.mem_singleton]
          exact Or.comm
        · simp [T]) (fun t _=>by unfold mE;simp only [];rw [if_neg (by omega)]) [] ⟨by simp,List.Pairwise.nil,by simp⟩
  rw [show ((0:Nat):Int)=0 from rfl] at e1
  rw [e1]
  simp only [Option.bind_some]
  congr 1
  obtain ⟨_,g2,g3⟩:=e2
  rw [List.take_length] at g3
  exact yC g2 (aFx hs v) g3
theorem LSet.uniq {s:List Link} (hs:LSet s) {a b:Link} (ha:a ∈ s) (hb:b ∈ s) (h1:a.fA=b.fA) (h2:a.fB=b.fB):a=b:=by
  obtain ⟨i,hi,rfl⟩:=List.getElem_of_mem ha
  obtain ⟨j,hj,rfl⟩:=List.getElem_of_mem hb
  have pw:=List.pairwise_iff_getElem.1 hs.2
  rcases Nat.lt_trichotomy i j with h | h | h
  · have:=pw i j hi hj h;unfold eG at this;omega
  · subst h;rfl
  · have:=pw j i hj hi h;unfold eG at this;omega
theorem aNo (p q r t:Prop) [Decidable p] [Decidable q] [Decidable r] [Decidable t]:((if p then (if q then some true else (if r then some (decide t) else some false)) else (if r then some (decide t) else some false)):Option Bool)=some (decide ((p∧q)∨(r∧t))):=by
  by_cases p <;> by_cases q <;> by_cases r <;> by_cases t <;> simp [*]
theorem aLU {s:List Link} (hs:LSet s) {v:Int} {l:Link} (hl:l ∈ s) (ht:tch v l=true):tQ s (pT v l) v=some (l,true):=by
  have hlen:=hs.len
  have hv:=hs.1 l hl
  unfold tQ
  rw [kG s (by have:=hs.sz;omega),decide_eq_true hs]
  simp only [Option.bind_some,if_true]
  obtain ⟨r,e,q⟩:=aJZ (step:=oB s (pT v l) v) s.length (fun r=>r=.inr (l,true)) (fun k=>l ∈ s.drop k) (by simpa using hl) (fun k hk hj=>by
    have hx:=hs.1 _ (List.getElem_mem hk)
    have w1:IntKind.i64.wrap ((k:Int)+1)=((k+1:Nat):Int):=by rw [wi (by omega)];omega
    rw [List.drop_eq_getElem_cons hk] at hj
    have st:oB s (pT v l) v (k:Int)=some (if (((s[k]).fA=pT v l∧(s[k]).fB=v)∨((s[k]).fA=v∧(s[k]).fB=pT v l)) then .inr (.inr (s[k],true)) else .inl ((k+1:Nat):Int)):=by
      unfold oB
      rw [if_pos (by omega),aK hk]
      simp only [Option.bind_some,w1,rS s[k] (by have:=hx.sz;omega)]
      rw [aNo]
      simp only [Option.bind_some]
      by_cases c:((s[k]).fA=pT v l∧(s[k]).fB=v)∨((s[k]).fA=v∧(s[k]).fB=pT v l)
      · rw [if_pos c,decide_eq_true c];rfl
      · rw [if_neg c,decide_eq_false c];rfl
    unfold tch at ht
    rw [decide_eq_true_eq] at ht
    unfold ValidL at hx hv
    by_cases c:((s[k]).fA=pT v l∧(s[k]).fB=v)∨((s[k]).fA=v∧(s[k]).fB=pT v l)
    · rw [if_pos c] at st
      right
      refine ⟨_,st,?_⟩
      have:s[k]=l:=by
        refine hs.uniq (List.getElem_mem hk) hl ?_ ?_
        · unfold pT at c;split at c <;> omega
        · unfold pT at c;split at c <;> omega
      rw [this]
    · rw [if_neg c] at st
      left
      refine ⟨st,?_⟩
      rcases List.mem_cons.1 hj with e | e
      · exfalso;apply c
        rw [← e];unfold pT;split <;> omega
      · exact e) (fun hj=>by rw [List.drop_length] at hj;cases hj)
  rw [e,q];rfl
theorem aM3 {r:Rat} (h:VZ r):VZ (RN r):=(aKl h).2.2
def sP (a:l08Arm):Prop:=(0≤a.fnode∧a.fnode≤9)∧VZ a.fweight∧VZ a.fdx∧VZ a.fdy
theorem aHR {v:Int} {l:Link} (h:ValidL l):sP (zP v l):=by
  obtain ⟨h1,h2,h3⟩:=h.vz
  unfold zP
  split
  · exact ⟨h.2.1,h1,aM3 h2,aM3 h3⟩
  · exact ⟨h.1,h1,h2,h3⟩
theorem aEJ {s:List Link} (hs:LSet s) (v:Int):∀ a ∈ bI v s,sP a:=by
  intro a ha
  obtain ⟨l,hl,rfl⟩:=List.mem_map.1 ha
  exact aHR (hs.1 l (List.mem_filter.1 hl).1)
theorem aAQ {s:List Link} (hs:LSet s) (v:Int):(bI v s).length≤100:=by
  have:=hs.len
  have:=List.length_filter_le (tch v) s
  unfold bI
  rw [List.length_map];omega
theorem aFQ {s:List Link} (hs:LSet s) (v:Int):((bI v s).map (·.fnode)).Pairwise (· < ·):=by
  have:=aFx hs v
  unfold bI
  rw [List.map_map]
  have e:(fun a:l08Arm=>a.fnode) ∘ zP v=pT v:=by funext l;exact zD v l
  rw [e];exact this
theorem aNx {s:List Link} (hs:LSet s) (v:Int):rN s v=some (bI v s):=by
  have hal:=aAQ hs v
  unfold rN
  rw [aNj hs v]
  simp only [Option.bind_some]
  have hfl:((s.filter (tch v)).map (pT v)).length=(bI v s).length:=by unfold bI;rw [List.length_map,List.length_map]
  have:=xP (step:=mD s v ((s.filter (tch v)).map (pT v))) (bI v s) (fun k t=>((k:Int),t)) (fun t=>t) (fun k t hk ht=>by
    have hk2:k < (s.filter (tch v)).length:=by unfold bI at hk;rwa [List.length_map] at hk
    have hk3:k < ((s.filter (tch v)).map (pT v)).length:=by rwa [List.length_map]
    have hm:=List.mem_filter.1 (List.getElem_mem hk2)
    have w1:IntKind.i64.wrap ((k:Int)+1)=((k+1:Nat):Int):=by rw [wi (by omega)];omega
    have hv:=hs.1 _ hm.1
    obtain ⟨v1,v2,v3⟩:=hv.vz
    have g:=aLU hs hm.1 hm.2
    have ea:(bI v s)[k]=zP v (s.filter (tch v))[k]:=by simp only [bI,List.getElem_map]
    unfold mD
    simp only []
    rw [if_pos (by omega),aK hk3,List.getElem_map]
    simp only [Option.bind_some,g,(aKl v2).1,(aKl v3).1,w1]
    rw [ea]
    unfold zP
    by_cases A:((s.filter (tch v))[k]).fA=v
    · rw [if_pos A,if_pos A]
      simp only [Option.bind_some,pT,A,if_true]
      rw [aN (by omega)];rfl
    · rw [if_neg A,if_neg A]
      simp only [Option.bind_some,pT,A,if_false]
      rw [aN (by omega)];rfl) (fun t ht=>by unfold mD;simp only [];rw [if_neg (by omega)])
  rw [show ((0:Nat):Int)=0 from rfl] at this
  rw [this];rfl
end Go.Ev
/- Eliminating a node of a link set, both programs. -/
namespace Go.Ev
open IntKind
set_option linter.all false
noncomputable def pL (a:List l08Arm):Rat:=a.foldl (fun t a=>RA t a.fweight) (pH 0)
noncomputable def fF (t:Rat) (a:l08Arm):Parent:=⟨a.fnode,RD a.fweight t,a.fdx,a.fdy⟩
noncomputable def qW (t:Rat) (a b:l08Arm):Link:=⟨a.fnode,b.fnode,RD (RM a.fweight b.fweight) t,RS a.fdx b.fdx,RS a.fdy b.fdy⟩
noncomputable def gB (t:Rat):List l08Arm→List Link
  | []=>[]
  | a::r=>r.map (qW t a)++gB t r
noncomputable def xU (v:Int) (a:List l08Arm):Conditional:=⟨v,pL a,a.map (fF (pL a))⟩
def condOk (v:Int) (a:List l08Arm):Prop:=bX (xU v a)=some true
noncomputable instance (v:Int) (a:List l08Arm):Decidable (condOk v a):=Classical.propDecidable _
noncomputable def vU (v:Int) (s:List Link):Option (Conditional × List Link) :=
  if (1≤v∧v≤9)∧condOk v (bI v s)∧(∀ x ∈ gB (pL (bI v s)) (bI v s),ValidL x) then some (xU v (bI v s),gB (pL (bI v s)) (bI v s)) else none
theorem aGz {v:Int} {s:List Link} (h:(1≤v∧v≤9)∧condOk v (bI v s)∧(∀ x ∈ gB (pL (bI v s)) (bI v s),ValidL x)):vU v s=some (xU v (bI v s),gB (pL (bI v s)) (bI v s)):=by unfold vU;rw [if_pos h]
theorem aAM {v:Int} {s:List Link} (h:¬((1≤v∧v≤9)∧condOk v (bI v s)∧(∀ x ∈ gB (pL (bI v s)) (bI v s),ValidL x))):vU v s=none:=by unfold vU;rw [if_neg h]
def aDr:Conditional:=Conditional.mk 0 (Rat.mk (BigInt.mk false ([])) ([])) ([])
def pkE:Option (Conditional × List Link)→Conditional × List Link × Bool
  | some (c,m)=>(c,m,true)
  | none=>(aDr,[],false)
theorem aHE:∀ (a:List l08Arm) (t:Rat),(∀ x ∈ a,sP x)→VZ t→VZ (a.foldl (fun t a=>RA t a.fweight) t)
  | [],t,_,h=>h
  | x::a,t,ho,h=>aHE a _ (fun y hy=>ho y (by simp [hy])) (aAy h (ho x (by simp)).2.1).2.2
theorem yA {a:List l08Arm} (h:∀ x ∈ a,sP x):VZ (pL a):=aHE a _ h (.inl aAE)
theorem aBm {α β:Type} (g:α→β):∀ (l:List α) (t:List β),l.foldl (fun t b=>t++[g b]) t=t++l.map g
  | [],t=>by simp
  | x::l,t=>by rw [List.foldl_cons,aBm g l,List.map_cons,List.append_assoc];rfl
theorem aHk {t:Rat} {a b:l08Arm} (ht:VZ t) (ha:sP a) (hb:sP b):bN (qW t a b)≤144:=by
  have h1:=nO (aER (aDf ha.2.1 hb.2.1).2.2 ht).2.2
  have h2:=nO (aGJ ha.2.2.1 hb.2.2.1).2.2
  have h3:=nO (aGJ ha.2.2.2 hb.2.2.2).2.2
  unfold bN qW;simp only [];omega
theorem aJh {t:Rat} (ht:VZ t):∀ {a:List l08Arm},(∀ x ∈ a,sP x)→∀ x ∈ gB t a,bN x≤144
  | [],_,x,hx=>by cases hx
  | a::r,h,x,hx=>by
    rw [gB] at hx
    rcases List.mem_append.1 hx with hx | hx
    · obtain ⟨b,hb,rfl⟩:=List.mem_map.1 hx
      exact aHk ht (h a (by simp)) (h b (by simp [hb]))
    · exact aJh ht (fun y hy=>h y (by simp [hy])) x hx
theorem aD7 (t:Rat):∀ {a:List l08Arm} {n:Nat},a.length≤n→(gB t a).length≤n*a.length
  | [],n,_=>by simp [gB]
  | a::r,n,h=>by
    rw [List.length_cons] at h
    have:=aD7 t (a:=r) (n:=n) (by omega)
    rw [gB,List.length_append,List.length_map,List.length_cons,Nat.mul_add,Nat.mul_one];omega
theorem aLa (t:Rat):∀ {a:List l08Arm} {x:Link},x ∈ gB t a→∃ y ∈ a,x.fA=y.fnode
  | [],x,hx=>by cases hx
  | a::r,x,hx=>by
    rw [gB] at hx
    rcases List.mem_append.1 hx with hx | hx
    · obtain ⟨b,hb,rfl⟩:=List.mem_map.1 hx
      exact ⟨a,by simp,rfl⟩
    · obtain ⟨y,hy,e⟩:=aLa t hx
      exact ⟨y,by simp [hy],e⟩
theorem aHm (t:Rat):∀ {a:List l08Arm},(a.map (·.fnode)).Pairwise (· < ·)→(gB t a).Pairwise eG
  | [],_=>List.Pairwise.nil
  | a::r,h=>by
    rw [List.map_cons,List.pairwise_cons] at h
    rw [gB,List.pairwise_append]
    refine ⟨?_,aHm t h.2,fun x hx y hy=>?_⟩
    · rw [List.pairwise_map]
      have:=h.2
      rw [List.pairwise_map] at this
      exact this.imp (fun {b c} hbc=>.inr ⟨rfl,hbc⟩)
    · obtain ⟨b,hb,rfl⟩:=List.mem_map.1 hx
      obtain ⟨z,hz,e⟩:=aLa t hy
      exact .inl (by rw [e];exact h.1 _ (List.mem_map.2 ⟨z,hz,rfl⟩))
theorem aFA {t:Rat} {a:List l08Arm} (h:(a.map (·.fnode)).Pairwise (· < ·)):LSet (gB t a)↔∀ x ∈ gB t a,ValidL x:=⟨fun g=>g.1,fun g=>⟨g,aHm t h⟩⟩
theorem aJ7 {a:List l08Arm} (ha:∀ x ∈ a,sP x) (hl:a.length≤100):lp (eP a) (0,pH 0)=some (pL a):=by
  have:=(jX (step:=eP a) a (fun k t=>((k:Int),t)) (fun t a=>RA t a.fweight) (fun t=>t) (fun _ t=>VZ t) (fun k t hk hi=>by
    have w1:i64.wrap ((k:Int)+1)=((k+1:Nat):Int):=by rw [wi (by omega)];omega
    obtain ⟨q1,_,q3⟩:=aAy hi (ha _ (List.getElem_mem hk)).2.1
    refine ⟨?_,q3⟩
    unfold eP
    simp only []
    rw [if_pos (by omega),aK hk]
    simp only [Option.bind_some,q1,w1]) (fun t _=>by unfold eP;simp only [];rw [if_neg (by omega)]) (pH 0) (.inl aAE)).1
  rw [show ((0:Nat):Int)=0 from rfl] at this
  exact this
theorem aJ9 {a:List l08Arm} {t:Rat} (ht:VZ t) (ha:∀ x ∈ a,sP x) (hl:a.length≤100):lp (eO a t) (0,[])=some (a.map (fF t)):=by
  have:=xP (step:=eO a t) (a.map (fF t)) (fun k t=>((k:Int),t)) (fun t=>t) (fun k u hk hu=>by
    have hk2:k < a.length:=by rwa [List.length_map] at hk
    have w1:i64.wrap ((k:Int)+1)=((k+1:Nat):Int):=by rw [wi (by omega)];omega
    have ho:=ha _ (List.getElem_mem hk2)
    have q:=(aER ho.2.1 ht).1
    unfold eO
    simp only []
    rw [if_pos (by omega),aK hk2]
    simp only [Option.bind_some,q,nX _ (VZs ho.2.2.1),nX _ (VZs ho.2.2.2),w1]
    rw [aN (by omega)]
    simp only [Option.bind_some,qX,List.getElem_map]
    rfl) (fun u hu=>by unfold eO;simp only [];rw [List.length_map,if_neg (by omega)])
  rw [show ((0:Nat):Int)=0 from rfl] at this
  exact this
theorem aJ8 {r:List l08Arm} {x:l08Arm} {t:Rat} (ht:VZ t) (hx:sP x) (hr:∀ y ∈ r,sP y) (hl:r.length≤100) (acc:List Link) (hacc:acc.length≤1000000) :
    lp (eM r x t) (0,acc)=some (acc++r.map (qW t x)):=by
  have:=(jX (step:=eM r x t) r (fun k u=>((k:Int),u)) (fun u b=>u++[qW t x b]) (fun u=>u) (fun k u=>u.length≤1000000+k) (fun k u hk hi=>by
    have w1:i64.wrap ((k:Int)+1)=((k+1:Nat):Int):=by rw [wi (by omega)];omega
    have ho:=hr _ (List.getElem_mem hk)
    have q0:=aDf hx.2.1 ho.2.1
    have q1:=(aER q0.2.2 ht).1
    have q2:=(aGJ hx.2.2.1 ho.2.2.1).1
    have q3:=(aGJ hx.2.2.2 ho.2.2.2).1
    refine ⟨?_,by rw [List.length_append,List.length_singleton];omega⟩
    unfold eM
    simp only []
    rw [if_pos (by omega),aK hk]
    simp only [Option.bind_some,q0.1,q1,q2,q3,w1]
    rw [aN (by omega)]
    rfl) (fun u _=>by unfold eM;simp only [];rw [if_neg (by omega)]) acc (by omega)).1
  rw [show ((0:Nat):Int)=0 from rfl,aBm] at this
  exact this
theorem aKw {α:Type} (l:List α) (k:Nat) (hk:k+1≤l.length) (hl:l.length≤4294967296):sub l (i64.wrap ((k:Int)+1)) (l.length:Int)=some (l.drop (k+1)):=by
  have w1:i64.wrap ((k:Int)+1)=((k+1:Nat):Int):=by rw [wi (by omega)];omega
  rw [w1,qG _ _ _ (by omega)];congr 1
  rw [List.take_of_length_le];rfl
  rw [List.length_drop];omega
theorem aID {a:List l08Arm} {t:Rat} (ht:VZ t) (ha:∀ x ∈ a,sP x) (hl:a.length≤100):lp (cZ a t) (0,[])=some (gB t a):=by
  have main:∀ m k:Nat,m+k=a.length→∀ acc:List Link,acc.length≤100*k→lp (cZ a t) ((k:Int),acc)=some (acc++gB t (a.drop k)):=by
    intro m
    induction m with
    | zero =>
      intro k hk acc hacc
      rw [List.drop_eq_nil_of_le (by omega),gB,List.append_nil]
      exact aL (by unfold cZ;simp only [];rw [if_neg (by omega)])
    | succ m ih =>
      intro k hk acc hacc
      have hlt:k < a.length:=by omega
      have w1:i64.wrap ((k:Int)+1)=((k+1:Nat):Int):=by rw [wi (by omega)];omega
      rw [List.drop_eq_getElem_cons hlt,gB]
      have row:=aJ8 (r:=a.drop (k+1)) ht (ha _ (List.getElem_mem hlt)) (fun y hy=>ha y (List.mem_of_mem_drop hy)) (by rw [List.length_drop];omega) acc (by omega)
      have st:cZ a t ((k:Int),acc)=some (.inl (((k+1:Nat):Int),acc++(a.drop (k+1)).map (qW t a[k]))):=by
        unfold cZ
        simp only []
        rw [if_pos (by omega),aK hlt,aKw a k (by omega) (by omega)]
        simp only [Option.bind_some,row,w1]
      rw [aU st,ih (k+1) (by omega) _ (by rw [List.length_append,List.length_map,List.length_drop];omega),List.append_assoc]
  have:=main a.length 0 (by omega) [] (by simp)
  rw [show ((0:Nat):Int)=0 from rfl,List.drop_zero,List.nil_append] at this
  exact this
theorem aGB {v:Int} {a:List l08Arm} (ha:∀ x ∈ a,sP x) (hl:a.length≤100):aT (xU v a)≤4294967296:=by
  have h1:=nO (yA ha)
  have h2:lJ (a.map (fF (pL a)))≤145*(a.map (fF (pL a))).length:=aCc (c:=144) (fun p hp=>by
    obtain ⟨x,hx,rfl⟩:=List.mem_map.1 hp
    have ho:=ha x hx
    have g1:=nO (aER ho.2.1 (yA ha)).2.2
    have g2:=nO ho.2.2.1
    have g3:=nO ho.2.2.2
    unfold iI fF;simp only [];omega)
  rw [List.length_map] at h2
  unfold aT xU;simp only [];omega
theorem aMu {s:List Link} (hs:LSet s) (v:Int):jA s v=some (pkE (vU v s)):=by
  have ha:=aEJ hs v
  have hl:=aAQ hs v
  have ht:=yA ha
  obtain ⟨b,b1,b2,_⟩:=aJC _ (aGB (v:=v) ha hl)
  have inc:=aFQ hs v
  unfold jA
  rw [kG s (by have:=hs.sz;omega),decide_eq_true hs,yT]
  simp only [Option.bind_some,if_true]
  by_cases c:1≤v∧v≤9
  · rw [decide_eq_true c]
    simp only [Bool.not_true,Bool.false_eq_true,if_false]
    rw [aNx hs v,bQ 0 (by omega)]
    simp only [Option.bind_some]
    rw [aJ7 ha hl]
    simp only [Option.bind_some]
    rw [aJ9 ht ha hl]
    simp only [Option.bind_some]
    rw [aID ht ha hl]
    simp only [Option.bind_some]
    have e:(Conditional.mk v (pL (bI v s)) ((bI v s).map (fF (pL (bI v s)))))=xU v (bI v s):=rfl
    rw [e,b1]
    simp only [Option.bind_some]
    have hms:=aCc (aJh ht ha)
    have hml:=aD7 (pL (bI v s)) (a:=bI v s) (Nat.le_refl _)
    have hm2:(bI v s).length*(bI v s).length≤100*100:=Nat.mul_le_mul hl hl
    rw [kG _ (by unfold aF;omega)]
    cases b with
    | false =>
      have:¬condOk v (bI v s):=by unfold condOk;rw [b1];simp
      rw [aAM (fun h=>this h.2.1)];rfl
    | true =>
      have hc:condOk v (bI v s):=b1
      simp only [if_true,Option.bind_some]
      by_cases d:∀ x ∈ gB (pL (bI v s)) (bI v s),ValidL x
      · rw [decide_eq_true ((aFA inc).2 d),aGz ⟨c,hc,d⟩];rfl
      · rw [decide_eq_false (fun h=>d ((aFA inc).1 h)),aAM (fun h=>d h.2.2)];rfl
  · rw [decide_eq_false c]
    rw [aAM (fun h=>c h.1)];rfl
def vE (a:l08Arm):Parent:=⟨a.fnode,mA,a.fdx,a.fdy⟩
theorem aIQ (v:Int) (s:List Link) (k:Nat) (hk:k < s.length):bI v (s.take (k+1))=bI v (s.take k)++(if tch v s[k] then [zP v s[k]] else []):=by
  have tk:s.take (k+1)=s.take k++[s[k]]:=by rw [List.take_add_one,List.getElem?_eq_getElem hk];rfl
  unfold bI
  rw [tk,List.filter_append,List.map_append]
  congr 1
  by_cases c:tch v s[k] <;> simp [c]
theorem aIF {s:List Link} (hs:LSet s) (v:Int):lp (dE s v) (0,pH 0,[],[])=some (pL (bI v s),(bI v s).map (·.fweight),(bI v s).map vE):=by
  have hlen:=hs.len
  have hpre:∀ k,∀ a ∈ bI v (s.take k),sP a:=fun k a ha=>by
    obtain ⟨l,hl,rfl⟩:=List.mem_map.1 ha
    exact aHR (hs.1 l (List.mem_of_mem_take (List.mem_filter.1 hl).1))
  have hpl:∀ k,(bI v (s.take k)).length≤100:=fun k=>by
    have:=List.length_filter_le (tch v) (s.take k)
    have h2:(s.take k).length≤s.length:=by rw [List.length_take];omega
    unfold bI;rw [List.length_map];omega
  have main:∀ m k:Nat,m+k=s.length→lp (dE s v) ((k:Int),pL (bI v (s.take k)),(bI v (s.take k)).map (·.fweight),(bI v (s.take k)).map vE)=some (pL (bI v s),(bI v s).map (·.fweight),(bI v s).map vE):=by
    intro m
    induction m with
    | zero =>
      intro k hk
      rw [List.take_of_length_le (by omega)]
      exact aL (by unfold dE;simp only [];rw [if_neg (by omega)])
    | succ m ih =>
      intro k hk
      have hlt:k < s.length:=by omega
      have w1:i64.wrap ((k:Int)+1)=((k+1:Nat):Int):=by rw [wi (by omega)];omega
      have hv:=hs.1 _ (List.getElem_mem hlt)
      obtain ⟨v1,v2,v3⟩:=hv.vz
      have n1:=(aKl v2).2.1
      have n2:=(aKl v3).2.1
      have ra:=(aAy (yA (hpre k)) v1).2.1
      have hp:=hpl k
      have st:dE s v ((k:Int),pL (bI v (s.take k)),(bI v (s.take k)).map (·.fweight),(bI v (s.take k)).map vE)=some (.inl (((k+1:Nat):Int),pL (bI v (s.take (k+1))),(bI v (s.take (k+1))).map (·.fweight),(bI v (s.take (k+1))).map vE)):=by
        rw [aIQ v s k hlt]
        unfold dE
        simp only []
        rw [if_pos (by omega),aK hlt]
        simp only [Option.bind_some,n1,n2,ra,w1]
        have k1:∀ {α:Type} {f:l08Arm→α},((bI v (s.take k)).map f).length≤100:=by intro α f;rw [List.length_map];exact hp
        by_cases A:(s[k]).fA=v
        · rw [if_pos A,aN (by have:=k1 (f:=vE);omega)]
          simp only [Option.bind_some,qX]
          rw [aN (by have:=k1 (f:=fun a=>a.fweight);omega)]
          simp [tch,A,zP,pL,vE,mA,ra]
        · by_cases B:(s[k]).fB=v
          · rw [if_neg A,if_pos B,aN (by have:=k1 (f:=vE);omega)]
            simp only [Option.bind_some,qX]
            rw [aN (by have:=k1 (f:=fun a=>a.fweight);omega)]
            simp [tch,A,B,zP,pL,vE,mA,ra]
          · simp [tch,A,B]
      rw [aU st]
      exact ih (k+1) (by omega)
  have:=main s.length 0 (by omega)
  simpa [bI,pL] using this
theorem aKb {a:List l08Arm} {t:Rat} (ht:VZ t) (ha:∀ x ∈ a,sP x) (hl:a.length≤100):lp (dD (t,a.map (·.fweight),a.map vE)) (0,a.map vE)=some (a.map (fF t)):=by
  have main:∀ m k:Nat,m+k=a.length→lp (dD (t,a.map (·.fweight),a.map vE)) ((k:Int),(a.take k).map (fF t)++(a.drop k).map vE)=some (a.map (fF t)):=by
    intro m
    induction m with
    | zero =>
      intro k hk
      refine aL ?_
      unfold dD
      simp only [List.length_map]
      rw [if_neg (by omega),List.drop_eq_nil_of_le (by omega),List.take_of_length_le (by omega)]
      simp
    | succ m ih =>
      intro k hk
      have hlt:k < a.length:=by omega
      have w1:i64.wrap ((k:Int)+1)=((k+1:Nat):Int):=by rw [wi (by omega)];omega
      have ho:=ha _ (List.getElem_mem hlt)
      have q:=(aER ho.2.1 ht).2.1
      have tl:((a.take k).map (fF t)).length=k:=by rw [List.length_map,List.length_take];omega
      have e1:idx (a.map (fun x=>x.fweight)) (k:Int)=some (a[k]).fweight:=by rw [aK (by rwa [List.length_map]),List.getElem_map]
      have e2:idx ((a.take k).map (fF t)++(a.drop k).map vE) (k:Int)=some (vE a[k]):=by
        rw [aGv,List.getElem?_append_right (by omega),tl,Nat.sub_self,List.drop_eq_getElem_cons hlt];rfl
      have e3:wO ((a.take k).map (fF t)++(a.drop k).map vE) (k:Int) (fF t a[k])=(a.take (k+1)).map (fF t)++(a.drop (k+1)).map vE:=by
        rw [rV,List.set_append_right _ _ (by omega),tl,Nat.sub_self,List.drop_eq_getElem_cons hlt,List.map_cons,List.set_cons_zero,List.take_add_one,List.getElem?_eq_getElem hlt,List.map_append,List.append_assoc]
        rfl
      have st:dD (t,a.map (·.fweight),a.map vE) ((k:Int),(a.take k).map (fF t)++(a.drop k).map vE)=some (.inl (((k+1:Nat):Int),(a.take (k+1)).map (fF t)++(a.drop (k+1)).map vE)):=by
        unfold dD
        simp only [List.length_map]
        rw [if_pos (by omega),e1]
        simp only [Option.bind_some,q,e2,qX,w1]
        have:(Parent.mk (vE a[k]).fNode (RD (a[k]).fweight t) (vE a[k]).fDX (vE a[k]).fDY)=fF t a[k]:=rfl
        rw [this,e3]
      rw [aU st]
      exact ih (k+1) (by omega)
  have:=main a.length 0 (by omega)
  simpa using this
def aDI (t:Rat) (x:l08Arm) (r:List l08Arm):Prop:=∀ y ∈ r,ValidL (qW t x y)
noncomputable instance (t:Rat) (x:l08Arm) (r:List l08Arm):Decidable (aDI t x r):=Classical.propDecidable _
theorem aKa {a:List l08Arm} {t:Rat} (ht:VZ t) (ha:∀ x ∈ a,sP x) (hl:a.length≤100) (q0:List Parent) (i:Nat) (hi:i < a.length):∀ m j:Nat,m+j=a.length→∀ acc:List Link,acc.length≤1000000+j →
    lp (eQ (a.map (fF t)) (t,a.map (·.fweight),q0) (i:Int) (fF t a[i])) ((j:Int),acc)=some (if aDI t a[i] (a.drop j) then .inl (acc++(a.drop j).map (qW t a[i])) else .inr (aDr,[],false)):=by
  intro m
  induction m with
  | zero =>
    intro j hj acc hacc
    rw [List.drop_eq_nil_of_le (by omega),if_pos (by intro y hy;cases hy),List.map_nil,List.append_nil]
    exact aL (by unfold eQ;simp only [List.length_map];rw [if_neg (by omega)])
  | succ m ih =>
    intro j hj acc hacc
    have hlt:j < a.length:=by omega
    have w1:i64.wrap ((j:Int)+1)=((j+1:Nat):Int):=by rw [wi (by omega)];omega
    have hx:=ha _ (List.getElem_mem hi)
    have ho:=ha _ (List.getElem_mem hlt)
    have p0:=aDf hx.2.1 ho.2.1
    have p1:=(aER p0.2.2 ht).2.1
    have p2:=(aGJ hx.2.2.1 ho.2.2.1).2.1
    have p3:=(aGJ hx.2.2.2 ho.2.2.2).2.1
    have vl:=(gP (qW t a[i] a[j]) (by have:=aHk ht hx ho;omega)).2
    have e0:idx (a.map (fF t)) (j:Int)=some (fF t a[j]):=by rw [aK (by rwa [List.length_map]),List.getElem_map]
    have e1:idx (a.map (fun x=>x.fweight)) (i:Int)=some (a[i]).fweight:=by rw [aK (by rwa [List.length_map]),List.getElem_map]
    have e2:idx (a.map (fun x=>x.fweight)) (j:Int)=some (a[j]).fweight:=by rw [aK (by rwa [List.length_map]),List.getElem_map]
    have st:eQ (a.map (fF t)) (t,a.map (·.fweight),q0) (i:Int) (fF t a[i]) ((j:Int),acc)=some (if ValidL (qW t a[i] a[j]) then .inl (((j+1:Nat):Int),acc++[qW t a[i] a[j]]) else .inr (.inr (aDr,[],false))):=by
      unfold eQ
      simp only [List.length_map]
      rw [if_pos (by omega),e0,e1,e2]
      simp only [Option.bind_some,p0.2.1,p1,w1]
      have f1:(fF t a[i]).fDX=(a[i]).fdx:=rfl
      have f2:(fF t a[i]).fDY=(a[i]).fdy:=rfl
      have f3:(fF t a[j]).fDX=(a[j]).fdx:=rfl
      have f4:(fF t a[j]).fDY=(a[j]).fdy:=rfl
      rw [f1,f2,f3,f4,p2]
      simp only [Option.bind_some]
      rw [p3]
      simp only [Option.bind_some]
      have f5:(Link.mk (fF t a[i]).fNode (fF t a[j]).fNode (RD (RM (a[i]).fweight (a[j]).fweight) t) (RS (a[i]).fdx (a[j]).fdx) (RS (a[i]).fdy (a[j]).fdy))=qW t a[i] a[j]:=rfl
      rw [f5,vl]
      simp only [Option.bind_some]
      by_cases c:ValidL (qW t a[i] a[j])
      · rw [decide_eq_true c,if_pos rfl,if_pos c,aN (by omega)];rfl
      · rw [decide_eq_false c,if_neg c];rfl
    rw [List.drop_eq_getElem_cons hlt]
    by_cases c:ValidL (qW t a[i] a[j])
    · rw [if_pos c] at st
      rw [aU st,ih (j+1) (by omega) _ (by rw [List.length_append,List.length_singleton];omega)]
      have:aDI t a[i] (a[j]::a.drop (j+1))↔aDI t a[i] (a.drop (j+1)):=⟨fun h x hx'=>h x (List.mem_cons_of_mem _ hx'),fun h x hx'=>by rcases List.mem_cons.1 hx' with rfl | h';exact c;exact h x h'⟩
      simp only [this,List.map_cons,List.append_assoc,List.singleton_append]
    · rw [if_neg c] at st
      rw [aL st,if_neg (fun h=>c (h _ List.mem_cons_self))]
theorem aIE {a:List l08Arm} {t:Rat} (ht:VZ t) (ha:∀ x ∈ a,sP x) (hl:a.length≤100) (q0:List Parent):lp (dA (a.map (fF t)) (t,a.map (·.fweight),q0)) (0,[])=some (if ∀ x ∈ gB t a,ValidL x then .inl (gB t a) else .inr (aDr,[],false)):=by
  have main:∀ m k:Nat,m+k=a.length→∀ acc:List Link,acc.length≤100*k→lp (dA (a.map (fF t)) (t,a.map (·.fweight),q0)) ((k:Int),acc)=some (if ∀ x ∈ gB t (a.drop k),ValidL x then .inl (acc++gB t (a.drop k)) else .inr (aDr,[],false)):=by
    intro m
    induction m with
    | zero =>
      intro k hk acc hacc
      rw [List.drop_eq_nil_of_le (by omega),if_pos (by simp [gB]),gB,List.append_nil]
      exact aL (by unfold dA;simp only [List.length_map];rw [if_neg (by omega)])
    | succ m ih =>
      intro k hk acc hacc
      have hlt:k < a.length:=by omega
      have w1:i64.wrap ((k:Int)+1)=((k+1:Nat):Int):=by rw [wi (by omega)];omega
      have e0:idx (a.map (fF t)) (k:Int)=some (fF t a[k]):=by rw [aK (by rwa [List.length_map]),List.getElem_map]
      have row:=aKa ht ha hl q0 k hlt (a.length - (k+1)) (k+1) (by omega) acc (by omega)
      rw [List.drop_eq_getElem_cons hlt,gB]
      have st:dA (a.map (fF t)) (t,a.map (·.fweight),q0) ((k:Int),acc)=some (if aDI t a[k] (a.drop (k+1)) then .inl (((k+1:Nat):Int),acc++(a.drop (k+1)).map (qW t (a[k]'hlt))) else .inr (.inr (aDr,[],false))):=by
        unfold dA
        simp only [List.length_map]
        rw [if_pos (by omega),e0]
        simp only [Option.bind_some,w1,row]
        by_cases c:aDI t a[k] (a.drop (k+1))
        · rw [if_pos c,if_pos c]
        · rw [if_neg c,if_neg c]
      by_cases c:aDI t a[k] (a.drop (k+1))
      · rw [if_pos c] at st
        rw [aU st,ih (k+1) (by omega) _ (by rw [List.length_append,List.length_map,List.length_drop];omega)]
        have:(∀ x ∈ (a.drop (k+1)).map (qW t a[k])++gB t (a.drop (k+1)),ValidL x)↔∀ x ∈ gB t (a.drop (k+1)),ValidL x:=⟨fun h x hx=>h x (List.mem_append_right _ hx),fun h x hx=>by
          rcases List.mem_append.1 hx with hx | hx
          · obtain ⟨y,hy,rfl⟩:=List.mem_map.1 hx;exact c y hy
          · exact h x hx⟩
        simp only [this,List.append_assoc]
      · rw [if_neg c] at st
        rw [aL st,if_neg]
        intro h
        exact c fun y hy=>h _ (List.mem_append_left _ (List.mem_map.2 ⟨y,hy,rfl⟩))
  have:=main a.length 0 (by omega) [] (by simp)
  rw [show ((0:Nat):Int)=0 from rfl,List.drop_zero,List.nil_append] at this
  exact this
theorem aMv {s:List Link} (hs:LSet s) (v:Int):jH s v=some (pkE (vU v s)):=by
  have ha:=aEJ hs v
  have hl:=aAQ hs v
  have ht:=yA ha
  obtain ⟨b,b1,b2,_⟩:=aJC _ (aGB (v:=v) ha hl)
  unfold jH
  have e0:((if v < 1 then some true else some (decide (10≤v))):Option Bool)=some (!decide (1≤v∧v≤9)):=by
    by_cases A:v < 1
    · have:¬1≤v:=by omega
      simp [A,this]
    · by_cases B:10≤v
      · have:¬v≤9:=by omega
        simp [A,B,this]
      · have h1:1≤v:=by omega
        have h2:v≤9:=by omega
        simp [A,B,h1,h2]
  rw [e0]
  simp only [Option.bind_some]
  by_cases c:1≤v∧v≤9
  · rw [decide_eq_true c]
    simp only [Bool.not_true,Bool.false_eq_true,if_false]
    rw [kF 0 (by omega)]
    simp only [Option.bind_some]
    rw [aIF hs v]
    simp only [Option.bind_some]
    rw [aKb ht ha hl]
    simp only [Option.bind_some]
    have e:(Conditional.mk v (pL (bI v s)) ((bI v s).map (fF (pL (bI v s)))))=xU v (bI v s):=rfl
    rw [e,b2]
    simp only [Option.bind_some]
    cases b with
    | false =>
      have:¬condOk v (bI v s):=by unfold condOk;rw [b1];simp
      rw [aAM (fun h=>this h.2.1)];rfl
    | true =>
      have hc:condOk v (bI v s):=b1
      simp only [if_true]
      rw [aIE ht ha hl]
      by_cases d:∀ x ∈ gB (pL (bI v s)) (bI v s),ValidL x
      · rw [if_pos d,aGz ⟨c,hc,d⟩];rfl
      · rw [if_neg d,aAM (fun h=>d h.2.2)];rfl
  · rw [decide_eq_false c]
    rw [aAM (fun h=>c h.1)];rfl
end Go.Ev
/- Reducing a node of a link set and a node of a tree, both programs. -/
namespace Go.Ev
set_option linter.all false
theorem wi1 {k:Nat} (h:k≤4294967296):IntKind.i64.wrap ((k:Int)+1)=((k+1:Nat):Int):=by rw [wi (by omega)];omega
def uI (v:Int) (s:List Link):List Link:=s.filter (fun l=>!tch v l)
theorem uW {α:Type} (p:α→Bool):∀ (l t:List α),l.foldl (fun t x=>if p x=true then t++[x] else t) t=t++l.filter p
  | [],t=>by simp
  | x::l,t=>by
    rw [List.foldl_cons,uW p l,List.filter_cons]
    by_cases c:p x=true
    · simp only [c,if_true,List.append_assoc,List.singleton_append]
    · simp only [Bool.not_eq_true] at c;simp [c]
theorem aMN (v:Int) (l:Link):((if l.fA≠v then some (decide (l.fB≠v)) else some false):Option Bool)=some (!tch v l):=by
  unfold tch;by_cases A:l.fA=v <;> by_cases B:l.fB=v <;> simp [A,B]
theorem aJI {s:List Link} (h:s.length≤4294967296) (v:Int):kY s v=some (uI v s):=by
  have:=(jX (step:=iM s v) s (fun k t=>((k:Int),t)) (fun t x=>if (fun l=>!tch v l) x=true then t++[x] else t) (fun t=>t) (fun k t=>t.length≤k) (fun k t hk hi=>by
    constructor
    · unfold iM
      simp only []
      rw [if_pos (by omega),aK hk]
      simp only [Option.bind_some,aMN,wi1 (by omega:k≤4294967296)]
      by_cases c:tch v s[k]=true
      · rw [if_neg (by simp [c]),if_neg (by simp [c])]
      · rw [if_pos (by simpa using c),if_pos (by simpa using c),aN (by omega)];rfl
    · simp only [];split
      · rw [List.length_append,List.length_singleton];omega
      · omega) (fun t _=>by unfold iM;simp only [];rw [if_neg (by omega)]) [] (Nat.zero_le _)).1
  rw [show ((0:Nat):Int)=0 from rfl,uW,List.nil_append] at this
  unfold kY
  rw [this];rfl
theorem aKk {s:List Link} (hs:LSet s) (v:Int):kW s v=some (uI v s):=by
  have hl:=hs.len
  have:=(jX (step:=iK s v) s (fun k t=>((k:Int),t)) (fun t x=>if (fun l=>!tch v l) x=true then t++[x] else t) (fun t=>t) (fun k t=>t.length≤k) (fun k t hk hi=>by
    constructor
    · unfold iK
      simp only []
      rw [if_pos (by omega),aK hk]
      have cp:=rS s[k] (by have:=(hs.1 _ (List.getElem_mem hk)).sz;omega)
      simp only [Option.bind_some,aMN,wi1 (by omega:k≤4294967296),cp]
      by_cases c:tch v s[k]=true
      · rw [if_neg (by simp [c]),if_neg (by simp [c])]
      · rw [if_pos (by simpa using c),if_pos (by simpa using c),aN (by omega)];rfl
    · simp only [];split
      · rw [List.length_append,List.length_singleton];omega
      · omega) (fun t _=>by unfold iK;simp only [];rw [if_neg (by omega)]) [] (Nat.zero_le _)).1
  rw [show ((0:Nat):Int)=0 from rfl,uW,List.nil_append] at this
  unfold kW
  rw [kG s (by have:=hs.sz;omega),decide_eq_true hs]
  simp only [Option.bind_some,if_true,this]
  rfl
noncomputable def aBA (v:Int) (s:List Link):Option (Conditional × List Link × Rat) :=
  (vU v s).bind fun x=>(jnP (uI v s++x.2)).map fun y=>(x.1,y.1,y.2)
def pkR:Option (Conditional × List Link × Rat)→Conditional × List Link × Rat × Bool
  | some (c,m,e)=>(c,m,e,true)
  | none=>(aDr,[],mA,false)
theorem aHI {v:Int} {s:List Link} (hs:LSet s) {c:Conditional} {m:List Link} (h:vU v s=some (c,m)):(∀ x ∈ m,ValidL x)∧m.length≤10000∧aT c≤20000∧(1≤v∧v≤9):=by
  unfold vU at h
  split at h
  · rename_i g
    cases h
    have ha:=aEJ hs v
    have hl:=aAQ hs v
    have h1:=aD7 (pL (bI v s)) (a:=bI v s) (Nat.le_refl _)
    have h2:(bI v s).length*(bI v s).length≤100*100:=Nat.mul_le_mul hl hl
    have g1:=nO (yA ha)
    have g2:lJ ((bI v s).map (fF (pL (bI v s))))≤145*((bI v s).map (fF (pL (bI v s)))).length:=aCc (c:=144) (fun p hp=>by
      obtain ⟨x,hx,rfl⟩:=List.mem_map.1 hp
      have ho:=ha x hx
      have g1:=nO (aER ho.2.1 (yA ha)).2.2
      have g2:=nO ho.2.2.1
      have g3:=nO ho.2.2.2
      unfold iI fF;simp only [];omega)
    rw [List.length_map] at g2
    refine ⟨g.2.2,by omega,?_,g.1⟩
    unfold aT xU;simp only [];omega
  · cases h
theorem aKH {v:Int} {s:List Link} (hs:LSet s):(∀ x ∈ uI v s,ValidL x)∧(uI v s).length≤100:=by
  have:=List.length_filter_le (fun l=>!tch v l) s
  have:=hs.len
  exact ⟨fun x hx=>hs.1 x (List.mem_filter.1 hx).1,by unfold uI;omega⟩
theorem aDN {s:List Link} (hs:LSet s) (v:Int):mG s v=some (pkR (aBA v s))∧mR s v=some (pkR (aBA v s)):=by
  unfold mG mR aBA
  rw [aMu hs,aMv hs]
  cases h:vU v s with
  | none=>exact ⟨rfl,rfl⟩
  | some x =>
    obtain ⟨c,m⟩:=x
    obtain ⟨m1,m2,m3,_⟩:=aHI hs h
    obtain ⟨r1,r2⟩:=aKH (v:=v) hs
    have hall:∀ x ∈ uI v s++m,ValidL x:=fun x hx=>(List.mem_append.1 hx).elim (r1 x) (m1 x)
    have hlen:(uI v s++m).length≤20000:=by rw [List.length_append];omega
    have hsz:=aAB hall
    have j1:=(wN (uI v s++m) (by omega)).1
    have j2:=aAm hall (by omega)
    simp only [pkE,Option.bind_some,if_true]
    rw [aKk hs,aJI (by have:=hs.len;omega)]
    simp only [Option.bind_some]
    rw [aN (by omega)]
    simp only [Option.bind_some,qX,j1,j2]
    cases jnP (uI v s++m) with
    | none=>exact ⟨rfl,rfl⟩
    | some y=>exact ⟨rfl,rfl⟩
theorem aGe {v:Int} {s:List Link} (hs:LSet s) {c:Conditional} {m:List Link} {e:Rat} (h:aBA v s=some (c,m,e)):aT c≤20000∧LSet m∧bJ e∧c.fNode=v:=by
  unfold aBA at h
  cases h1:vU v s with
  | none=>rw [h1] at h;cases h
  | some x =>
    rw [h1] at h
    cases h2:jnP (uI v s++x.2) with
    | none=>rw [Option.bind_some,h2] at h;cases h
    | some y =>
      rw [Option.bind_some,h2] at h
      cases h
      have:=aAn (s:=y.1) (e:=y.2) h2
      refine ⟨(aHI hs (c:=x.1) (m:=x.2) h1).2.2.1,this.2.1,this.2.2,?_⟩
      unfold vU at h1
      split at h1
      · cases h1;rfl
      · cases h1
end Go.Ev
/- A node of a tree, both programs. -/
namespace Go.Ev
open IntKind
set_option linter.all false
def aW (l s:List Int):Int:=(l.find? (fun u=>decide (u ∈ s))).getD 0
theorem aJv (l s:List Int) (hl:l.length≤4294967296) (hs:s.length≤4294967296):nB l s=some (aW l s):=by
  have main:∀ m k:Nat,m+k=l.length→lp (gD l s) (k:Int)=some (match (l.drop k).find? (fun u=>decide (u ∈ s)) with | some x=>.inr x | none=>.inl ()):=by
    intro m
    induction m with
    | zero =>
      intro k hk
      have:k=l.length:=by omega
      subst this
      rw [aL (r:=.inl ()) (by unfold gD;rw [if_neg (by omega)]),List.drop_length];rfl
    | succ m ih =>
      intro k hk
      have hlt:k < l.length:=by omega
      rw [List.drop_eq_getElem_cons hlt,List.find?_cons]
      by_cases c:l[k] ∈ s
      · rw [aL (r:=.inr l[k]) (by unfold gD;rw [if_pos (by omega),aK hlt];simp [aBV s _ hs,c])];simp [c]
      · have e:gD l s (k:Int)=some (.inl ((k+1:Nat):Int)):=by
          unfold gD;rw [if_pos (by omega),aK hlt];simp only [Option.bind_some,aBV s _ hs,wi1 (by omega:k≤4294967296)];simp [c]
        rw [aU e,ih (k+1) (by omega)]
        simp only [c,decide_false]
  have:=main l.length 0 (by omega)
  rw [show ((0:Nat):Int)=0 from rfl,List.drop_zero] at this
  unfold nB aW
  rw [this]
  cases l.find? (fun u=>decide (u ∈ s)) <;> rfl
def xK (c:Conditional):List Int:=c.fParents.map (·.fNode)
def upP (order:List Int) (c:Conditional):Int:=aW order (xK c)
theorem aEw {α:Type} {p q:α→Bool}:∀ {l:List α},(∀ x ∈ l,p x=q x)→l.find? p=l.find? q
  | [],_=>rfl
  | x::l,h=>by rw [List.find?_cons,List.find?_cons,h x (by simp),aEw (fun y hy=>h y (by simp [hy]))]
theorem aOG {order:List Int} {c:Conditional} (ho:∀ u ∈ order,1≤u) (hl:order.length≤4294967296) (hc:c.fParents.length≤4294967296):uZ order c=some (upP order c):=by
  have:=(jX (step:=pM c) c.fParents (fun k t=>((k:Int),t)) (fun t x=>if (fun p:Parent=>decide (0 < p.fNode)) x=true then t++[x.fNode] else t) (fun t=>t) (fun k t=>t.length≤k) (fun k t hk hi=>by
    constructor
    · unfold pM
      simp only []
      rw [if_pos (by omega),aK hk]
      simp only [Option.bind_some,wi1 (by omega:k≤4294967296)]
      by_cases c0:0 < (c.fParents[k]).fNode
      · rw [if_pos c0,if_pos (by simpa using c0),aN (by omega)];rfl
      · rw [if_neg c0,if_neg (by simpa using c0)]
    · simp only [];split
      · rw [List.length_append,List.length_singleton];omega
      · omega) (fun t _=>by unfold pM;simp only [];rw [if_neg (by omega)]) [] (Nat.zero_le _)).1
  rw [show ((0:Nat):Int)=0 from rfl] at this
  have e:∀ (l:List Parent) (t:List Int),l.foldl (fun t x=>if (fun p:Parent=>decide (0 < p.fNode)) x=true then t++[x.fNode] else t) t=t++(l.filter (fun p=>decide (0 < p.fNode))).map (·.fNode):=by
    intro l
    induction l with
    | nil=>intro t;simp
    | cons x l ih =>
      intro t
      rw [List.foldl_cons,ih,List.filter_cons]
      by_cases c0:0 < x.fNode <;> simp [c0]
  rw [e,List.nil_append] at this
  unfold uZ
  rw [this]
  simp only [Option.bind_some]
  have hf:=List.length_filter_le (fun p:Parent=>decide (0 < p.fNode)) c.fParents
  rw [aJv _ _ hl (by rw [List.length_map];omega)]
  simp only [Option.bind_some]
  congr 1
  unfold upP aW
  congr 1
  refine aEw fun u hu=>?_
  have:=ho u hu
  rw [Bool.eq_iff_iff,decide_eq_true_iff,decide_eq_true_iff]
  unfold xK
  simp only [List.mem_map,List.mem_filter,decide_eq_true_eq]
  constructor
  · rintro ⟨p,⟨h1,_⟩,rfl⟩;exact ⟨p,h1,rfl⟩
  · rintro ⟨p,h1,rfl⟩;exact ⟨p,⟨h1,by omega⟩,rfl⟩
theorem aCM (c:Conditional) (v:Int) (h:c.fParents.length≤4294967296):oM c v=some (decide (v ∈ xK c)):=by
  have main:∀ m k:Nat,m+k=c.fParents.length→lp (fT c v) (k:Int)=some (if v ∈ (c.fParents.drop k).map (·.fNode) then .inr true else .inl ()):=by
    intro m
    induction m with
    | zero =>
      intro k hk
      have:k=c.fParents.length:=by omega
      subst this
      rw [aL (r:=.inl ()) (by unfold fT;rw [if_neg (by omega)]),List.drop_length];simp
    | succ m ih =>
      intro k hk
      have hlt:k < c.fParents.length:=by omega
      rw [List.drop_eq_getElem_cons hlt,List.map_cons]
      by_cases d:(c.fParents[k]).fNode=v
      · rw [aL (r:=.inr true) (by unfold fT;rw [if_pos (by omega),aK hlt];simp [d]),if_pos (by simp [d])]
      · have e:fT c v (k:Int)=some (.inl ((k+1:Nat):Int)):=by
          unfold fT;rw [if_pos (by omega),aK hlt];simp only [Option.bind_some,wi1 (by omega:k≤4294967296)];rw [if_neg d]
        rw [aU e,ih (k+1) (by omega)]
        have:(v ∈ (c.fParents[k]).fNode::(c.fParents.drop (k+1)).map (·.fNode))↔v ∈ (c.fParents.drop (k+1)).map (·.fNode):=by
          rw [List.mem_cons];exact ⟨fun h=>h.resolve_left (fun e=>d e.symm),.inr⟩
        simp only [this]
  have:=main c.fParents.length 0 (by omega)
  rw [show ((0:Nat):Int)=0 from rfl,List.drop_zero] at this
  unfold oM xK
  rw [this]
  by_cases d:v ∈ c.fParents.map (·.fNode)
  · rw [if_pos d,decide_eq_true d];rfl
  · rw [if_neg d,decide_eq_false d];rfl
theorem aN1 (order:List Int) (v:Int) (own:List Link) (r:Conditional × List Link × Rat × Bool) (e:Rat) (hl:order.length≤4294967296) (hc:r.1.fParents.length≤4294967296):lp (eI order v own r e) 0=some (TreeNode.mk v (upP order r.1) own r.1 r.2.1 e):=by
  have main:∀ m k:Nat,m+k=order.length→lp (eI order v own r e) (k:Int)=some (TreeNode.mk v (aW (order.drop k) (xK r.1)) own r.1 r.2.1 e):=by
    intro m
    induction m with
    | zero =>
      intro k hk
      have:k=order.length:=by omega
      subst this
      rw [aL (by unfold eI;rw [if_neg (by omega)]),List.drop_length];rfl
    | succ m ih =>
      intro k hk
      have hlt:k < order.length:=by omega
      rw [List.drop_eq_getElem_cons hlt]
      unfold aW
      rw [List.find?_cons]
      by_cases d:order[k] ∈ xK r.1
      · rw [aL (r:=TreeNode.mk v order[k] own r.1 r.2.1 e) (by unfold eI;rw [if_pos (by omega),aK hlt];simp only [Option.bind_some,aCM _ _ hc,decide_eq_true d,if_true])]
        simp [d]
      · have e:eI order v own r e (k:Int)=some (.inl ((k+1:Nat):Int)):=by
          unfold eI;rw [if_pos (by omega),aK hlt];simp only [Option.bind_some,aCM _ _ hc,wi1 (by omega:k≤4294967296),decide_eq_false d,Bool.false_eq_true,if_false]
        rw [aU e,ih (k+1) (by omega)]
        simp only [d,decide_false]
        rfl
  have:=main order.length 0 (by omega)
  rw [show ((0:Nat):Int)=0 from rfl,List.drop_zero] at this
  exact this
def vG (v:Int) (b:List TreeNode):List Link:=(b.filter (fun n=>decide (n.fUp=v))).flatMap (·.fMessages)
theorem aHj (v:Int):∀ (b:List TreeNode) (t:List Link),b.foldl (fun t n=>if n.fUp=v then t++n.fMessages else t) t=t++vG v b
  | [],t=>by simp [vG]
  | n::b,t=>by
    rw [List.foldl_cons,aHj v b]
    unfold vG
    rw [List.filter_cons]
    by_cases c:n.fUp=v <;> simp [c]
theorem aJd {v:Int}:∀ {b:List TreeNode},(∀ n ∈ b,LSet n.fMessages)→(vG v b).length≤100*b.length
  | [],_=>by simp [vG]
  | n::b,h=>by
    have:=aJd (v:=v) (b:=b) (fun m hm=>h m (by simp [hm]))
    have h1:=(h n (by simp)).len
    unfold vG at this ⊢
    rw [List.filter_cons,List.length_cons]
    split
    · rw [List.flatMap_cons,List.length_append];omega
    · omega
theorem aJX {v:Int} {b:List TreeNode} (h:∀ n ∈ b,LSet n.fMessages):∀ x ∈ vG v b,ValidL x:=by
  intro x hx
  unfold vG at hx
  obtain ⟨n,hn,hx⟩:=List.mem_flatMap.1 hx
  exact (h n (List.mem_filter.1 hn).1).1 x hx
theorem aMU {step:(Int × List Link)→Option ((Int × List Link) ⊕ List Link)} (v:Int) (b:List TreeNode) (own:List Link) (ho:own.length≤4294967296) (hb:b.length≤4194304) (h:∀ n ∈ b,LSet n.fMessages)
    (hstep:step=fun s=>match s with | (v6,v7)=>(if (v6 < (b.length:Int)) then (idx b v6).bind fun y8=>(if (y8.fUp=v) then (chk ((v7.length+y8.fMessages.length)*184≤140737488355328)).bind fun _u=>(bA (v7++y8.fMessages)).bind fun v10=>some (.inl (i64.wrap (v6+1),v10)) else some (.inl (i64.wrap (v6+1),v7))) else some (.inr v7))):lp step (0,own)=some (own++vG v b):=by
  subst hstep
  have:=(jX (step:=fun s=>match s with | (v6,v7)=>(if (v6 < (b.length:Int)) then (idx b v6).bind fun y8=>(if (y8.fUp=v) then (chk ((v7.length+y8.fMessages.length)*184≤140737488355328)).bind fun _u=>(bA (v7++y8.fMessages)).bind fun v10=>some (.inl (i64.wrap (v6+1),v10)) else some (.inl (i64.wrap (v6+1),v7))) else some (.inr v7))) b (fun k t=>((k:Int),t)) (fun t n=>if n.fUp=v then t++n.fMessages else t) (fun t=>t) (fun k t=>t.length≤4294967296+100*k) (fun k t hk hi=>by
    have hm:=(h _ (List.getElem_mem hk)).len
    constructor
    · simp only []
      rw [if_pos (by omega),aK hk]
      simp only [Option.bind_some,wi1 (by omega:k≤4294967296)]
      by_cases c:(b[k]).fUp=v
      · rw [if_pos c,if_pos c,aN (by omega)];rfl
      · rw [if_neg c,if_neg c]
    · split
      · rw [List.length_append];omega
      · omega) (fun t _=>by simp only [];rw [if_neg (by omega)]) own (by omega)).1
  rw [show ((0:Nat):Int)=0 from rfl,aHj] at this
  exact this
def aNZ:TreeNode:=TreeNode.mk 0 0 ([]) (Conditional.mk 0 (Rat.mk (BigInt.mk false ([])) ([])) ([])) ([]) (Rat.mk (BigInt.mk false ([])) ([]))
noncomputable def qV (order:List Int) (v:Int) (own:List Link) (b:List TreeNode):Option TreeNode :=
  (jnP (own++vG v b)).bind fun x=>(aBA v x.1).bind fun y=>if bJ (RA x.2 y.2.2) then some ⟨v,upP order y.1,own,y.1,y.2.1,RA x.2 y.2.2⟩ else none
def pkN:Option TreeNode→TreeNode × Bool
  | some n=>(n,true)
  | none=>(aNZ,false)
theorem aMh {c:Conditional} (h:aT c≤20000):c.fParents.length≤20000:=by
  have:c.fParents.length≤lJ c.fParents:=iN _ _
  unfold aT at h;omega
theorem aI1 (a b:List Link):aF (a++b)=aF a+aF b:=by unfold aF szL;simp
theorem aK0 {order:List Int} {v:Int} {own:List Link} {b:List TreeNode} (hl:order.length≤4194304) (ho:∀ u ∈ order,1≤u) (hz:aF own≤4194304) (hb:b.length≤100) (hm:∀ n ∈ b,LSet n.fMessages) (hv:∀ x ∈ own,ValidL x) :
    rL v own order b=some (pkN (qV order v own b))∧oN ⟨b⟩ order v own=some (pkN (qV order v own b)):=by
  have hol:own.length≤4194304:=Nat.le_trans (iN _ _) hz
  have q1:=aMU (step:=uB v b) v b own (by omega) (by omega) hm rfl
  have q2:=aMU (step:=sF ⟨b⟩ v) v b own (by omega) (by omega) hm rfl
  have hmv:=aJX (v:=v) hm
  have hml:=aJd (v:=v) hm
  have hall:∀ x ∈ own++vG v b,ValidL x:=fun x hx=>(List.mem_append.1 hx).elim (hv x) (hmv x)
  have hms:=aAB hmv
  have hsz:aF (own++vG v b)≤4294967296:=by rw [aI1];omega
  have hln:(own++vG v b).length≤4294967296:=by rw [List.length_append];omega
  have j1:=(wN (own++vG v b) hsz).1
  have j2:=aAm hall hln
  unfold rL oN qV
  rw [aAY own (by omega)]
  simp only [Option.bind_some,List.nil_append,List.length_nil]
  rw [aN (by omega),q1]
  simp only [Option.bind_some,qX]
  rw [q2,j1]
  simp only [Option.bind_some,j2]
  cases h:jnP (own++vG v b) with
  | none =>
    simp only [pk,Option.bind_none,pkN]
    refine ⟨?_,rfl⟩
    rw [(aDN aAA v).1]
    have e0:bF (pkR (aBA v [])).2.2.1≤4294967296:=by
      cases h2:aBA v [] with
      | none=>exact VZs aAW
      | some y=>exact VZs (.inl (aGe aAA (c:=y.1) (m:=y.2.1) (e:=y.2.2) h2).2.2.1)
    simp only [Option.bind_some]
    rw [(aOP (VZs aAW) e0).1]
    rfl
  | some x =>
    obtain ⟨s,e⟩:=x
    obtain ⟨_,hs,he⟩:=aAn h
    simp only [pk,Option.bind_some,if_true]
    rw [(aDN hs v).1,(aDN hs v).2]
    simp only [Option.bind_some]
    cases h2:aBA v s with
    | none =>
      simp only [pkR,Option.bind_none,pkN]
      rw [(aAy (.inl he) aAW).1,(aAy (.inl he) aAW).2.1]
      exact ⟨rfl,rfl⟩
    | some y =>
      obtain ⟨c,m,f⟩:=y
      obtain ⟨k1,k2,k3,_⟩:=aGe hs h2
      have ra:=aAy (.inl he) (.inl k3)
      have hp:=aMh k1
      simp only [pkR,Option.bind_some,ra.1,ra.2.1,if_true]
      rw [dN _ (VZs ra.2.2),iE ra.2.2,aOG ho (by omega) (by omega),aN1 order v own (c,m,f,true) (RA e f) (by omega) (by show c.fParents.length≤_;omega)]
      simp only [Option.bind_some]
      by_cases g:bJ (RA e f)
      · rw [decide_eq_true g,if_pos g];exact ⟨rfl,rfl⟩
      · rw [decide_eq_false g,if_neg g];exact ⟨rfl,rfl⟩
theorem aDY {order:List Int} {v:Int} {own:List Link} {b:List TreeNode} {n:TreeNode} (h:qV order v own b=some n):LSet n.fMessages∧n.fOwn=own∧aT n.fCond≤20000∧bJ n.fEnergy∧n.fNode=v∧n.fUp=upP order n.fCond:=by
  unfold qV at h
  cases h1:jnP (own++vG v b) with
  | none=>rw [h1] at h;cases h
  | some x =>
    rw [h1,Option.bind_some] at h
    cases h2:aBA v x.1 with
    | none=>rw [h2] at h;cases h
    | some y =>
      rw [h2,Option.bind_some] at h
      obtain ⟨_,hs,he⟩:=aAn (s:=x.1) (e:=x.2) h1
      obtain ⟨k1,k2,k3,_⟩:=aGe hs (c:=y.1) (m:=y.2.1) (e:=y.2.2) h2
      split at h
      · rename_i g;cases h;exact ⟨k2,rfl,k1,g,rfl,rfl⟩
      · cases h
end Go.Ev
