/- Parts PR1, P20, PR2, PR3, PV, PR4, PR5, PR6, PR7. -/
import Derived.Test.YtachfjpemagdiaaGreatPb1
import Derived.Test.YtachfjpemagdiaaGreatPa1
set_option linter.all false
/- Fractions: quotients, differences, negation; the operations as total functions that both programs meet on valid or zero values. -/
namespace Go.Ev
set_option linter.all false
def aN5 (n:Int) (d:Nat) (m:Int) (e:Nat):Rat:=mkR (!(decide (n < 0) == decide (m < 0))) (n.natAbs*e) (d*m.natAbs)
theorem aHq (n:Int) (d:Nat) (m:Int) (e:Nat) (hd:0 < d) (he:0 < e) (h1:bl n≤24) (h2:(aA d).length≤24) (h3:bl m≤24) (h4:(aA e).length≤24):eU ⟨big n,aA d⟩ ⟨big m,aA e⟩=some (aN5 n d m e):=by
  unfold eU
  rw [aBH hd,aBH he]
  simp only [Option.bind_some,if_true,Bool.not_true,Bool.false_eq_true,if_false,gR]
  have b1:bl (e:Int)≤24:=by unfold bl;rw [Int.natAbs_natCast];exact h4
  have b2:bl (d:Int)≤24:=by unfold bl;rw [Int.natAbs_natCast];exact h2
  have b3:=zU n e
  have b4:=zU m d
  rw [aA7,aA7,wO n e (by omega) (by omega) (by omega),wO m d (by omega) (by omega) (by omega)]
  simp only [Option.bind_some]
  unfold big aN5
  unfold bl at b1 b2 b3 b4 h1 h3
  rw [aCA _ _ _ _ (by omega) (by omega)]
  simp only [Option.bind_some,Int.natAbs_mul,Int.natAbs_natCast]
  congr 1
  rw [Nat.mul_comm d m.natAbs]
  by_cases hm:m=0
  · subst hm;unfold mkR;simp
  · refine aDK fun hx=>?_
    have s1:decide (n*(e:Int) < 0)=decide (n < 0):=by
      rw [decide_eq_decide]
      constructor
      · intro h
        rcases Int.lt_or_le n 0 with g | g
        · exact g
        · have:=Int.mul_nonneg g (by omega:(0:Int)≤e);omega
      · intro h;exact Int.mul_neg_of_neg_of_pos h (by omega)
    have s2:decide (m*(d:Int) < 0)=decide (m < 0):=by
      rw [decide_eq_decide]
      constructor
      · intro h
        rcases Int.lt_or_le m 0 with g | g
        · exact g
        · have:=Int.mul_nonneg g (by omega:(0:Int)≤d);omega
      · intro h;exact Int.mul_neg_of_neg_of_pos h (by omega)
    rw [s1,s2]
theorem aMo (r s:Rat) (hr:bG r≤4294967296) (hs:bG s≤4294967296):∃ t,hY r s=some t∧VZ t∧(VZ r→VZ s→eU r s=some t):=by
  unfold hY
  rw [dX r hr]
  simp only [Option.bind_some]
  by_cases c1:bJ r
  · rw [decide_eq_true c1,if_pos rfl,dX s hs]
    simp only [Option.bind_some]
    by_cases c2:bJ s
    · rw [decide_eq_true c2]
      obtain ⟨n,d,e1,e2,e3,e4,_⟩:=yX c1
      obtain ⟨m,e,g1,g2,g3,g4,_⟩:=yX c2
      subst e1;subst g1
      simp only [Bool.not_true,Bool.false_eq_true,if_false]
      have e3':=e3
      have g3':=g3
      unfold bl at e3' g3'
      have b1:=dZ n.natAbs e
      have b2:=dZ d m.natAbs
      have q:(cW (big n).fMag (aA e))=some (aA (n.natAbs*e)):=(nM _ _ (by omega) (by omega)).1
      have q2:(cW (aA d) (big m).fMag)=some (aA (d*m.natAbs)):=(nM _ _ (by omega) (by omega)).1
      rw [q]
      simp only [Option.bind_some]
      rw [q2]
      simp only [Option.bind_some]
      rw [aCh _ _ _ (by omega) (by omega)]
      exact ⟨_,rfl,aIQ _ _ _,fun _ _=>aHq n d m e e2 g2 e3 e4 g3 g4⟩
    · rw [decide_eq_false c2]
      refine ⟨nC,rfl,aBh,fun v1 v2=>?_⟩
      unfold eU
      rw [iT v1,iT v2,decide_eq_true c1,decide_eq_false c2];rfl
  · rw [decide_eq_false c1]
    refine ⟨nC,rfl,aBh,fun v1 v2=>?_⟩
    unfold eU
    rw [iT v1,decide_eq_false c1];rfl
theorem aFV (n:Int) (h:bl n≤24):(aA n.natAbs).length≤24:=h
theorem aJF (n:Int):(if ((aA n.natAbs).length:Int)=0 then (⟨false,[]⟩:BigInt) else ⟨!decide (n < 0),aA n.natAbs⟩)=big (-n):=by
  by_cases c:n=0
  · subst c;simp [big,aA]
  · have:(aA n.natAbs).length≠0:=fun e=>cZ (n:=n.natAbs) (by omega) (List.length_eq_zero_iff.1 e)
    rw [if_neg (by omega)]
    unfold big
    rw [Int.natAbs_neg]
    congr 1
    by_cases h:n < 0
    · rw [decide_eq_true h,decide_eq_false (by omega)];rfl
    · rw [decide_eq_false h,decide_eq_true (by omega)];rfl
theorem aE2 (l:List Int) (h:l.length≤4294967296):cL l=some l:=by
  unfold cL
  rw [aN (by simp;omega)]
  simp [aZ]
theorem aEf (n:Int) (d:Nat) (hd:0 < d) (h1:bl n≤24) (h2:(aA d).length≤24):iC ⟨big n,aA d⟩=some ⟨big (-n),aA d⟩:=by
  unfold iC
  have h1':=aFV n h1
  rw [aBH hd]
  simp only [Option.bind_some,if_true,zW,zV]
  rw [aE2 _ (by omega),aE2 _ (by omega)]
  simp only [Option.bind_some]
  unfold eG
  have e:=aJF n
  by_cases c:((aA n.natAbs).length:Int)=0
  · rw [if_pos c] at e;simp [c,e]
  · rw [if_neg c] at e
    rw [if_neg c]
    have:¬(60:Int) < (aA n.natAbs).length:=by omega
    simp [this,e]
theorem aLP (n:Int) (d:Nat) (h1:bl n≤24) (h2:(aA d).length≤24):oO ⟨big n,aA d⟩=some ⟨big (-n),aA d⟩:=by
  unfold oO
  have h1':=aFV n h1
  simp only [zW,zV]
  rw [pS _ _ (by omega),aN (by simp;omega)]
  simp only [Option.bind_some,aZ,List.nil_append]
  have e:=aJF n
  congr 2
  rw [← e]
  by_cases c:n=0
  · subst c;simp [aA]
  · have:(aA n.natAbs).length≠0:=fun e=>cZ (n:=n.natAbs) (by omega) (List.length_eq_zero_iff.1 e)
    rw [if_neg (by omega)]
    simp [c]
theorem aFL {n:Int} {d:Nat} (h:bJ ⟨big n,aA d⟩) (h1:bl n≤24):bJ ⟨big (-n),aA d⟩:=by
  obtain ⟨⟨a1,a2⟩,b,c,d1,e,f⟩:=h
  refine ⟨⟨?_,fun hn=>?_⟩,b,c,d1,?_,?_⟩
  · show tC (aA (-n).natAbs);rw [Int.natAbs_neg];exact a1
  · simp only [big,decide_eq_true_eq] at hn ⊢
    exact cZ (by omega)
  · show (aA (-n).natAbs).length≤24;rw [Int.natAbs_neg];exact e
  · show Nat.gcd (val (aA (-n).natAbs)) _=1;rw [Int.natAbs_neg];exact f
theorem aIk (r:Rat) (hr:bG r≤4294967296):∃ t,kL r=some t∧VZ t∧(VZ r→iC r=some t)∧(bJ r→oO r=some t∧bJ t):=by
  unfold kL
  rw [dX r hr]
  simp only [Option.bind_some]
  by_cases c1:bJ r
  · rw [decide_eq_true c1,if_pos rfl]
    obtain ⟨n,d,e1,e2,e3,e4,_⟩:=yX c1
    subst e1
    rw [aLP n d e3 e4]
    exact ⟨_,rfl,.inl (aFL c1 e3),fun _=>aEf n d e2 e3 e4,fun _=>⟨rfl,aFL c1 e3⟩⟩
  · rw [decide_eq_false c1]
    refine ⟨nC,rfl,aBh,fun v1=>?_,fun h=>absurd h c1⟩
    unfold iC
    rw [iT v1,decide_eq_false c1];rfl
theorem aMm (r s:Rat) (hr:bG r≤4294967296) (hs:bG s≤4294967296):∃ t,jH r s=some t∧VZ t∧(VZ r→VZ s→fS r s=some t):=by
  unfold jH
  rw [dX r hr]
  simp only [Option.bind_some]
  obtain ⟨u,u1,u2,u3,u4⟩:=aIk s hs
  obtain ⟨t,t1,t3,t4⟩:=aCq r u hr (by have:=oJ u2;omega)
  by_cases c1:bJ r
  · rw [decide_eq_true c1,if_pos rfl,dX s hs]
    simp only [Option.bind_some]
    by_cases c2:bJ s
    · rw [decide_eq_true c2]
      simp only [Bool.not_true,Bool.false_eq_true,if_false]
      obtain ⟨u5,u6⟩:=u4 c2
      rw [u5]
      simp only [Option.bind_some]
      have:oQ r u=some t:=by
        have:=t1
        unfold cX at this
        rw [dX r hr,dX u (by have:=oJ u2;omega),decide_eq_true c1,decide_eq_true u6] at this
        simpa using this
      rw [this]
      refine ⟨t,rfl,t3,fun v1 v2=>?_⟩
      unfold fS
      rw [u3 v2]
      simp only [Option.bind_some]
      rw [t4 v1 u2];rfl
    · rw [decide_eq_false c2]
      refine ⟨nC,rfl,aBh,fun v1 v2=>?_⟩
      unfold fS
      have e:u=nC:=by
        have:=u1
        unfold kL at this
        rw [dX s hs,decide_eq_false c2] at this
        simpa [nC] using this.symm
      rw [u3 v2]
      simp only [Option.bind_some]
      unfold cC
      rw [iT v1,iT u2,decide_eq_true c1,decide_eq_false (by rw [e];exact aAl)];rfl
  · rw [decide_eq_false c1]
    refine ⟨nC,rfl,aBh,fun v1 v2=>?_⟩
    unfold fS
    rw [u3 v2]
    simp only [Option.bind_some]
    unfold cC
    rw [iT v1,decide_eq_false c1];rfl
noncomputable def RA (r s:Rat):Rat:=(cX r s).getD nC
noncomputable def RM (r s:Rat):Rat:=(dS r s).getD nC
noncomputable def RD (r s:Rat):Rat:=(hY r s).getD nC
noncomputable def RS (r s:Rat):Rat:=(jH r s).getD nC
noncomputable def RN (r:Rat):Rat:=(kL r).getD nC
theorem VZs {r:Rat} (h:VZ r):bG r≤4294967296:=by have:=oJ h;omega
theorem aPr {r s:Rat} (hr:bG r≤4294967296) (hs:bG s≤4294967296):cX r s=some (RA r s)∧VZ (RA r s):=by
  obtain ⟨t,t1,t3,t4⟩:=aCq r s hr hs
  have:RA r s=t:=by unfold RA;rw [t1];rfl
  rw [this];exact ⟨t1,t3⟩
theorem aAO {r s:Rat} (hr:VZ r) (hs:VZ s):cX r s=some (RA r s)∧cC r s=some (RA r s)∧VZ (RA r s):=by
  obtain ⟨t,t1,t3,t4⟩:=aCq r s (VZs hr) (VZs hs)
  have:RA r s=t:=by unfold RA;rw [t1];rfl
  rw [this];exact ⟨t1,t4 hr hs,t3⟩
theorem aDE {r s:Rat} (hr:VZ r) (hs:VZ s):dS r s=some (RM r s)∧cM r s=some (RM r s)∧VZ (RM r s):=by
  obtain ⟨t,t1,t3,t4⟩:=aMn r s (VZs hr) (VZs hs)
  have:RM r s=t:=by unfold RM;rw [t1];rfl
  rw [this];exact ⟨t1,t4 hr hs,t3⟩
theorem aFe {r s:Rat} (hr:VZ r) (hs:VZ s):hY r s=some (RD r s)∧eU r s=some (RD r s)∧VZ (RD r s):=by
  obtain ⟨t,t1,t3,t4⟩:=aMo r s (VZs hr) (VZs hs)
  have:RD r s=t:=by unfold RD;rw [t1];rfl
  rw [this];exact ⟨t1,t4 hr hs,t3⟩
theorem aG6 {r s:Rat} (hr:VZ r) (hs:VZ s):jH r s=some (RS r s)∧fS r s=some (RS r s)∧VZ (RS r s):=by
  obtain ⟨t,t1,t3,t4⟩:=aMm r s (VZs hr) (VZs hs)
  have:RS r s=t:=by unfold RS;rw [t1];rfl
  rw [this];exact ⟨t1,t4 hr hs,t3⟩
theorem aKS {r:Rat} (hr:VZ r):kL r=some (RN r)∧iC r=some (RN r)∧VZ (RN r):=by
  obtain ⟨t,t1,t3,t4,_⟩:=aIk r (VZs hr)
  have:RN r=t:=by unfold RN;rw [t1];rfl
  rw [this];exact ⟨t1,t4 hr,t3⟩
theorem aGs {n:Int} {d:Nat} (h:bJ ⟨big n,aA d⟩):0 < vH ⟨big n,aA d⟩↔0 < n:=by
  unfold vH
  rw [if_pos h]
  simp only [zW,zV,decide_eq_true_eq]
  by_cases c:n=0
  · subst c;simp [aA]
  · rw [if_neg (cZ (by omega))]
    by_cases h:n < 0
    · rw [if_pos h];omega
    · rw [if_neg h];omega
theorem aMT {x y:Nat} (hx:0 < x) (h:bJ (mkR false x y)):0 < vH (mkR false x y):=by
  unfold vH
  rw [if_pos h]
  unfold mkR at h ⊢
  by_cases c:y=0
  · rw [if_pos c] at h;exact absurd h aAl
  · rw [if_neg c] at h ⊢
    by_cases c2:24 < (aA (x / Nat.gcd x y)).length∨24 < (aA (y / Nat.gcd x y)).length
    · rw [if_pos c2] at h;exact absurd h aAl
    · rw [if_neg c2] at h ⊢
      have hg:0 < Nat.gcd x y:=Nat.gcd_pos_of_pos_left y hx
      have:0 < x / Nat.gcd x y:=Nat.div_pos (Nat.gcd_le_left y hx) hg
      simp only [Bool.false_and,Bool.false_eq_true,if_false]
      rw [if_neg (cZ (by omega))];omega
theorem aOi {r s:Rat} (hr:0 < vH r) (hs:0 < vH s) (h:bJ (RA r s)):0 < vH (RA r s):=by
  have r1:=yE hr
  have s1:=yE hs
  obtain ⟨n,d,e1,e2,e3,e4,_⟩:=yX r1
  obtain ⟨m,e,g1,g2,g3,g4,_⟩:=yX s1
  subst e1;subst g1
  have hn:=(aGs r1).1 hr
  have hm:=(aGs s1).1 hs
  have q:=(aAO (.inl r1) (.inl s1)).2.1
  rw [aBW n d m e e2 g2 e3 e4 g3 g4] at q
  have q:=Option.some.inj q
  rw [← q] at h ⊢
  unfold aIh at h ⊢
  have p1:0 < n*(e:Int):=Int.mul_pos hn (by omega)
  have p2:0 < m*(d:Int):=Int.mul_pos hm (by omega)
  rw [decide_eq_false (by omega)] at h ⊢
  exact aMT (by omega) h
end Go.Ev
/- Copies of links; the links of a tree. -/
namespace Go.Ev
set_option linter.all false
theorem oP (x:Rat) (h:bG x≤4294967296):jD x=some x:=by
  unfold bG tG qE at h
  rw [oL,oL] at h
  unfold jD
  rw [aN (by simp;omega),aN (by simp;omega)]
  simp only [Option.bind_some,aO,List.nil_append]
theorem sF (x:Link) (h:bP x≤4294967296):kI x=some x:=by
  unfold bP at h
  unfold kI
  rw [oP _ (by omega)]
  simp only [Option.bind_some]
  rw [oP _ (by omega)]
  simp only [Option.bind_some]
  rw [oP _ (by omega)]
  simp only [Option.bind_some]
theorem aBj (l:List Link) (h:aG l≤4294967296):oN l=some l:=by
  unfold aG at h
  have hl:=iL bP l
  unfold oN
  have:=yM (step:=oM l) l (fun k t=>((k:Int),t)) (fun t=>t) (fun k t hk ht=>by
    have he:=kH (w:=bP) (List.getElem_mem hk)
    unfold oM
    simp only []
    rw [if_pos (by omega),aF hk]
    simp only [Option.bind_some]
    rw [sF _ (by omega)]
    simp only [Option.bind_some]
    rw [aN (by omega),wi (by omega)];rfl) (fun t ht=>by unfold oM;simp only [];rw [if_neg (by omega)])
  rw [show ((0:Nat):Int)=0 from rfl] at this
  rw [this];rfl
theorem aAg (l:List Int) (h:l.length≤4294967296):cL l=some l:=by
  unfold cL
  rw [aN (by simp;omega)]
  simp only [Option.bind_some,aO,List.nil_append]
theorem iD (x:Rat) (h:bG x≤4294967296):fM x=some x:=by
  unfold bG tG qE at h
  rw [oL,oL] at h
  unfold fM
  rw [aAg _ (by omega)]
  simp only [Option.bind_some]
  rw [aAg _ (by omega)]
  simp only [Option.bind_some]
theorem aDy (x:Link) (h:bP x≤4294967296):qT x=some x:=by
  unfold bP at h
  unfold qT
  rw [iD _ (by omega)]
  simp only [Option.bind_some]
  rw [iD _ (by omega)]
  simp only [Option.bind_some]
  rw [iD _ (by omega)]
  simp only [Option.bind_some]
theorem pU (l:List Link) (h:aG l≤4294967296):iE l=some l:=by
  unfold aG at h
  have hl:=iL bP l
  unfold iE
  have:=yM (step:=kU l) l (fun k t=>((k:Int),t)) (fun t=>t) (fun k t hk ht=>by
    have he:=kH (w:=bP) (List.getElem_mem hk)
    unfold kU
    simp only []
    rw [if_pos (by omega),aF hk]
    simp only [Option.bind_some]
    rw [aDy _ (by omega)]
    simp only [Option.bind_some]
    rw [aN (by omega),wi (by omega)];rfl) (fun t ht=>by unfold kU;simp only [];rw [if_neg (by omega)])
  rw [show ((0:Nat):Int)=0 from rfl] at this
  rw [this];rfl
def eF (l:List TreeNode):List Link:=(l.map (fun n=>n.fOwn)).flatten
theorem aCE:∀ l:List TreeNode,aG (eF l)≤szL bN l
  | []=>by simp [eF,aG,aBQ]
  | y::l=>by
    have:=aCE l
    have hn:bN y=aG y.fOwn+aS y.fCond+aG y.fMessages+bG y.fEnergy:=rfl
    unfold eF aG at *
    rw [List.map_cons,List.flatten_cons,aDF,jP]
    omega
theorem aC3 (l:List TreeNode) (k:Nat) (hk:k < l.length):eF (l.take (k+1))=eF (l.take k)++l[k].fOwn:=by
  unfold eF
  rw [List.take_succ,List.getElem?_eq_getElem hk,List.map_append,List.flatten_append]
  simp
theorem aKZ {α:Type} (w:α→Nat) (l:List α) (k:Nat):szL w (l.take k)≤szL w l:=by
  have:=aDF w (l.take k) (l.drop k)
  rw [List.take_append_drop] at this
  omega
theorem aIJ (l:List TreeNode) (h:szL bN l≤4294967296) (k:Nat):(eF (l.take k)).length≤4294967296:=by
  have h1:=aCE (l.take k)
  have h2:=aKZ bN l k
  have h3:=iL bP (eF (l.take k))
  unfold aG at h1
  omega
end Go.Ev
/- Links: validity, order, merging; adding links to a link set, both programs. -/
namespace Go.Ev
open IntKind
set_option linter.all false
def ValidL (l:Link):Prop:=(0≤l.fA∧l.fA≤9)∧(0≤l.fB∧l.fB≤9)∧l.fA < l.fB∧0 < vH l.fWeight∧bJ l.fDX∧bJ l.fDY
instance (l:Link):Decidable (ValidL l):=by unfold ValidL;infer_instance
theorem hC (l:Link) (h:bP l≤4294967296):eC l=some (decide (ValidL l))∧gS l=some (decide (ValidL l)):=by
  unfold bP at h
  obtain ⟨g1,g2⟩:=yS l.fWeight (by omega)
  have a1:=aAM l.fDX (by omega)
  have a2:=aAM l.fDY (by omega)
  have b1:=dX l.fDX (by omega)
  have b2:=dX l.fDY (by omega)
  unfold eC gS ValidL
  simp only [aHU,aA3,g1,g2,a1,a2,b1,b2,Option.bind_some]
  by_cases A:0≤l.fA∧l.fA≤9
  · by_cases B:0≤l.fB∧l.fB≤9
    · by_cases C:l.fA < l.fB
      · by_cases D:0 < vH l.fWeight
        · by_cases E:bJ l.fDX
          · by_cases F:bJ l.fDY <;> simp [A,B,C,D,E,F]
          · simp [A,B,C,D,E]
        · simp [A,B,C,D]
      · simp [A,B,C]
    · simp [A,B]
  · simp [A]
theorem ValidL.vz {l:Link} (h:ValidL l):VZ l.fWeight∧VZ l.fDX∧VZ l.fDY:=⟨.inl (yE h.2.2.2.1),.inl h.2.2.2.2.1,.inl h.2.2.2.2.2⟩
theorem ValidL.sz {l:Link} (h:ValidL l):bP l≤144:=by
  obtain ⟨h1,h2,h3⟩:=h.vz
  have:=oJ h1
  have:=oJ h2
  have:=oJ h3
  unfold bP;omega
theorem aCx {α:Type} {w:α→Nat} {c:Nat}:∀ {l:List α},(∀ x ∈ l,w x≤c)→szL w l≤(c+1)*l.length
  | [],_=>by simp [aBQ]
  | y::l,h=>by
    have h1:=h y (by simp)
    have h2:=aCx (l:=l) (c:=c) (fun x hx=>h x (by simp [hx]))
    rw [jP,List.length_cons,Nat.mul_add,Nat.mul_one];omega
def eT (k l:Link):Prop:=k.fA < l.fA∨(k.fA=l.fA∧k.fB < l.fB)
instance (k l:Link):Decidable (eT k l):=by unfold eT;infer_instance
theorem aFh (k l:Link):mN k l=some (decide (eT k l)):=by
  unfold mN eT
  by_cases A:k.fA < l.fA
  · simp [A]
  · by_cases B:k.fA=l.fA
    · simp [A,B]
    · simp [A,B]
theorem aIn (k l:Link):jM k l=some (decide (eT k l)):=aFh k l
theorem aAC {a b c:Link} (h:eT a b) (g:eT b c):eT a c:=by unfold eT at *;omega
noncomputable def sqR (x y:Rat):Rat:=RA (RM x x) (RM y y)
noncomputable def aAk (k l:Link):Link:=⟨k.fA,k.fB,RA k.fWeight l.fWeight,RD (RA (RM k.fWeight k.fDX) (RM l.fWeight l.fDX)) (RA k.fWeight l.fWeight),RD (RA (RM k.fWeight k.fDY) (RM l.fWeight l.fDY)) (RA k.fWeight l.fWeight)⟩
noncomputable def aCG (k l:Link):Rat:=RM (RD (RM k.fWeight l.fWeight) (RA k.fWeight l.fWeight)) (sqR (RS k.fDX l.fDX) (RS k.fDY l.fDY))
def xE (k l:Link):Prop:=bJ (aAk k l).fWeight∧bJ (aAk k l).fDX∧bJ (aAk k l).fDY∧bJ (aCG k l)
noncomputable instance (k l:Link):Decidable (xE k l):=by unfold xE;infer_instance
def aFy:Link:=Link.mk 0 0 (Rat.mk (BigInt.mk false ([])) ([])) (Rat.mk (BigInt.mk false ([])) ([])) (Rat.mk (BigInt.mk false ([])) ([]))
theorem aPk {x y:Rat} (hx:VZ x) (hy:VZ y):nG x y=some (sqR x y)∧kR x y=some (sqR x y)∧VZ (sqR x y):=by
  obtain ⟨a1,a2,a3⟩:=aDE hx hx
  obtain ⟨b1,b2,b3⟩:=aDE hy hy
  obtain ⟨c1,c2,c3⟩:=aAO a3 b3
  unfold nG kR sqR
  simp only [a1,a2,b1,b2,c1,c2,Option.bind_some]
  exact ⟨trivial,trivial,c3⟩
theorem aHI {k l:Link} (hk:ValidL k) (hl:ValidL l) (h:xE k l):ValidL (aAk k l) :=
  ⟨hk.1,hk.2.1,hk.2.2.1,aOi hk.2.2.2.1 hl.2.2.2.1 h.1,h.2.1,h.2.2.1⟩
theorem aJL {k l:Link} (hk:ValidL k) (hl:ValidL l) (hA:k.fA=l.fA) (hB:k.fB=l.fB) :
    nJ k l=some (if xE k l then (aAk k l,aCG k l,true) else (aFy,nC,false))∧nT k l=some (if xE k l then (aAk k l,aCG k l,true) else (aFy,nC,false))∧VZ (aCG k l):=by
  obtain ⟨k1,k2,k3⟩:=hk.vz
  obtain ⟨l1,l2,l3⟩:=hl.vz
  obtain ⟨a1,a2,a3⟩:=aAO k1 l1
  obtain ⟨b1,b2,b3⟩:=aDE k1 k2
  obtain ⟨c1,c2,c3⟩:=aDE l1 l2
  obtain ⟨d1,d2,d3⟩:=aAO b3 c3
  obtain ⟨e1,e2,e3⟩:=aFe d3 a3
  obtain ⟨f1,f2,f3⟩:=aDE k1 k3
  obtain ⟨g1,g2,g3⟩:=aDE l1 l3
  obtain ⟨i1,i2,i3⟩:=aAO f3 g3
  obtain ⟨j1,j2,j3⟩:=aFe i3 a3
  obtain ⟨m1,m2,m3⟩:=aDE k1 l1
  obtain ⟨n1,n2,n3⟩:=aFe m3 a3
  obtain ⟨o1,o2,o3⟩:=aG6 k2 l2
  obtain ⟨p1,p2,p3⟩:=aG6 k3 l3
  obtain ⟨q1,q2,q3⟩:=aPk o3 p3
  obtain ⟨r1,r2,r3⟩:=aDE n3 q3
  have v1:=(hC k (by have:=hk.sz;omega)).1
  have v2:=(hC l (by have:=hl.sz;omega)).1
  have vm:=(hC (aAk k l) (by
    have:=oJ a3;have:=oJ e3;have:=oJ j3
    unfold bP aAk;simp only [];omega)).1
  refine ⟨?_,?_,r3⟩
  · unfold nJ
    rw [v1,v2,decide_eq_true hk,decide_eq_true hl]
    simp only [Option.bind_some,if_true,hA,hB,ne_eq,not_true_eq_false,if_false,decide_false,Bool.false_eq_true]
    simp only [a1,b1,c1,d1,e1,f1,g1,i1,j1,m1,n1,o1,p1,q1,r1,Option.bind_some]
    rw [← hA,← hB]
    have e:(Link.mk k.fA k.fB (RA k.fWeight l.fWeight) (RD (RA (RM k.fWeight k.fDX) (RM l.fWeight l.fDX)) (RA k.fWeight l.fWeight)) (RD (RA (RM k.fWeight k.fDY) (RM l.fWeight l.fDY)) (RA k.fWeight l.fWeight)))=aAk k l:=rfl
    rw [e,vm]
    have e2:RM (RD (RM k.fWeight l.fWeight) (RA k.fWeight l.fWeight)) (sqR (RS k.fDX l.fDX) (RS k.fDY l.fDY))=aCG k l:=rfl
    rw [e2,dX (aCG k l) (VZs r3)]
    simp only [Option.bind_some]
    by_cases O:xE k l
    · rw [if_pos O,decide_eq_true (aHI hk hl O),decide_eq_true O.2.2.2];rfl
    · rw [if_neg O]
      by_cases V:ValidL (aAk k l)
      · have:¬bJ (aCG k l):=fun h=>O ⟨yE V.2.2.2.1,V.2.2.2.2.1,V.2.2.2.2.2,h⟩
        rw [decide_eq_true V,decide_eq_false this];rfl
      · rw [decide_eq_false V];rfl
  · unfold nT
    simp only [a2,b2,c2,d2,e2,f2,g2,i2,j2,m2,n2,o2,p2,q2,r2,Option.bind_some,iT a3,iT e3,iT j3,iT r3]
    unfold xE aAk aCG
    simp only []
    by_cases A:bJ (RA k.fWeight l.fWeight)
    · by_cases B:bJ (RD (RA (RM k.fWeight k.fDX) (RM l.fWeight l.fDX)) (RA k.fWeight l.fWeight))
      · by_cases C:bJ (RD (RA (RM k.fWeight k.fDY) (RM l.fWeight l.fDY)) (RA k.fWeight l.fWeight))
        · by_cases D:bJ (RM (RD (RM k.fWeight l.fWeight) (RA k.fWeight l.fWeight)) (sqR (RS k.fDX l.fDX) (RS k.fDY l.fDY))) <;> simp [A,B,C,D,aFy,nC]
        · simp [A,B,C,aFy,nC]
      · simp [A,B,aFy,nC]
    · simp [A,aFy,nC]
def LSet (s:List Link):Prop:=(∀ x ∈ s,ValidL x)∧s.Pairwise eT
noncomputable instance (s:List Link):Decidable (LSet s):=Classical.propDecidable _
theorem aJS:∀ (l:List Int) (a N:Int),l.Pairwise (· < ·)→(∀ x ∈ l,a≤x∧x < N)→(l.length:Int)≤max 0 (N - a)
  | [],a,N,_,_=>by rw [List.length_nil];omega
  | x::l,a,N,h,hb=>by
    rw [List.pairwise_cons] at h
    have h1:=hb x (by simp)
    have:=aJS l (x+1) N h.2 (fun y hy=>⟨by have:=h.1 y hy;omega,(hb y (by simp [hy])).2⟩)
    rw [List.length_cons];omega
theorem LSet.len {s:List Link} (h:LSet s):s.length≤100:=by
  have:=aJS (s.map fun l=>l.fA*10+l.fB) 0 100 (by
    rw [List.pairwise_map]
    refine List.Pairwise.imp_of_mem (fun {a b} ha hb hr=>?_) h.2
    have h1:=h.1 a ha
    have h2:=h.1 b hb
    unfold ValidL at h1 h2
    unfold eT at hr
    omega) (by
    intro x hx
    obtain ⟨l,hl,rfl⟩:=List.mem_map.1 hx
    have h1:=h.1 l hl
    unfold ValidL at h1
    omega)
  rw [List.length_map] at this;omega
theorem aAR {s:List Link} (h:∀ x ∈ s,ValidL x):aG s≤145*s.length:=aCx (fun x hx=>(h x hx).sz)
theorem LSet.sz {s:List Link} (h:LSet s):aG s≤14500:=by
  have:=aAR h.1
  have:=h.len
  omega
def lsF:Option Link→List Link→Prop
  | _,[]=>True
  | p,x::r=>ValidL x∧(∀ q,p=some q→eT q x)∧lsF (some x) r
noncomputable instance (p:Option Link) (s:List Link):Decidable (lsF p s):=Classical.propDecidable _
theorem aJM:∀ (s:List Link) (p:Option Link),lsF p s↔LSet s∧∀ q,p=some q→∀ x ∈ s,eT q x
  | [],p=>by simp [lsF,LSet]
  | x::r,p=>by
    rw [lsF,aJM r (some x)]
    unfold LSet
    rw [List.pairwise_cons]
    constructor
    · rintro ⟨h1,h2,⟨h3,h4⟩,h5⟩
      refine ⟨⟨fun y hy=>?_,fun y hy=>h5 x rfl y hy,h4⟩,fun q hq y hy=>?_⟩
      · rcases List.mem_cons.1 hy with rfl | hy
        · exact h1
        · exact h3 y hy
      · rcases List.mem_cons.1 hy with rfl | hy
        · exact h2 q hq
        · exact aAC (h2 q hq) (h5 x rfl y hy)
    · rintro ⟨⟨h1,h2,h3⟩,h4⟩
      exact ⟨h1 x (by simp),fun q hq=>h4 q hq x (by simp),⟨fun y hy=>h1 y (by simp [hy]),h3⟩,fun q hq y hy=>by cases hq;exact h2 y hy⟩
theorem kY (s:List Link) (h:aG s≤4294967296):dF s=some (decide (LSet s)):=by
  unfold aG at h
  have hl:=iL bP s
  have main:∀ m k:Nat,m+k=s.length→∀ p:Option Link,(p=if k=0 then none else s[k - 1]?)→lp (eO s) (k:Int)=some (if lsF p (s.drop k) then .inl () else .inr false):=by
    intro m
    induction m with
    | zero =>
      intro k hk p _
      rw [List.drop_eq_nil_of_le (by omega),if_pos (by simp [lsF])]
      exact aH (by unfold eO;rw [if_neg (by omega)])
    | succ m ih =>
      intro k hk p hp
      have hlt:k < s.length:=by omega
      have hz:=kH (w:=bP) (List.getElem_mem hlt)
      have v:=(hC s[k] (by omega)).1
      rw [List.drop_eq_getElem_cons hlt]
      have st:eO s (k:Int)=some (if ValidL s[k]∧(∀ q,p=some q→eT q s[k]) then .inl ((k+1:Nat):Int) else .inr (.inr false)):=by
        have w1:i64.wrap ((k:Int)+1)=((k+1:Nat):Int):=by rw [wi (by omega)];omega
        unfold eO
        rw [if_pos (by omega),aF hlt]
        simp only [Option.bind_some,v,w1]
        by_cases V:ValidL s[k]
        · rw [decide_eq_true V,if_pos rfl]
          by_cases K:k=0
          · subst K
            rw [if_pos rfl] at hp;subst hp
            simp [V]
          · have hlt2:k - 1 < s.length:=by omega
            rw [if_neg K,List.getElem?_eq_getElem hlt2] at hp;subst hp
            have w2:i64.wrap ((k:Int) - 1)=((k - 1:Nat):Int):=by rw [wi (by omega)];omega
            rw [if_pos (by omega),w2,aF hlt2]
            simp only [Option.bind_some,aFh]
            by_cases L:eT s[k - 1] s[k]
            · simp [V,L]
            · simp [L]
        · rw [decide_eq_false V];simp [V]
      by_cases G:ValidL s[k]∧(∀ q,p=some q→eT q s[k])
      · rw [if_pos G] at st
        rw [aQ st,ih (k+1) (by omega) (some s[k]) (by rw [if_neg (by omega),Nat.add_sub_cancel,List.getElem?_eq_getElem hlt])]
        have:lsF p (s[k]::s.drop (k+1))↔lsF (some s[k]) (s.drop (k+1)):=by rw [lsF];exact ⟨fun h=>h.2.2,fun h=>⟨G.1,G.2,h⟩⟩
        simp only [this]
      · rw [if_neg G] at st
        rw [aH st,if_neg]
        rw [lsF];exact fun h=>G ⟨h.1,h.2.1⟩
  have:=main s.length 0 (by omega) none (by simp)
  unfold dF
  rw [show ((0:Nat):Int)=0 from rfl,List.drop_zero] at this
  rw [this]
  have e:lsF none s↔LSet s:=by rw [aJM];exact ⟨fun h=>h.1,fun h=>⟨h,fun q hq=>by cases hq⟩⟩
  by_cases c:LSet s
  · rw [if_pos (e.2 c),decide_eq_true c];rfl
  · rw [if_neg (fun h=>c (e.1 h)),decide_eq_false c];rfl
def dQ (l:Link):List Link→Nat
  | []=>0
  | y::r=>if eT y l then dQ l r+1 else 0
theorem aJA (l:Link):∀ s:List Link,dQ l s≤s.length
  | []=>Nat.le_refl _
  | y::r=>by
    have:=aJA l r
    rw [dQ];split <;> simp <;> omega
theorem aCC (l:Link):∀ s:List Link,∀ x ∈ s.take (dQ l s),eT x l
  | [],x,h=>by simp [dQ] at h
  | y::r,x,h=>by
    rw [dQ] at h
    by_cases c:eT y l
    · rw [if_pos c,List.take_succ_cons] at h
      rcases List.mem_cons.1 h with rfl | h
      · exact c
      · exact aCC l r x h
    · rw [if_neg c] at h;simp at h
theorem aAX (l:Link):∀ (s:List Link) (h:dQ l s < s.length),¬eT s[dQ l s] l
  | [],h=>by simp at h
  | y::r,h=>by
    by_cases c:eT y l
    · have e:dQ l (y::r)=dQ l r+1:=by rw [dQ,if_pos c]
      have h':dQ l r < r.length:=by rw [e] at h;simpa using h
      have:=aAX l r h'
      simpa [e] using this
    · have e:dQ l (y::r)=0:=by rw [dQ,if_neg c]
      simpa [e] using c
theorem aLs (s:List Link) (l:Link) (h:s.length≤4294967296):lp (gI l s) 0=some ((dQ l s:Nat):Int):=by
  have main:∀ m k:Nat,m+k=s.length→lp (gI l s) (k:Int)=some ((k+dQ l (s.drop k):Nat):Int):=by
    intro m
    induction m with
    | zero =>
      intro k hk
      rw [List.drop_eq_nil_of_le (by omega)]
      refine aH ?_
      unfold gI
      rw [if_neg (by omega)];rfl
    | succ m ih =>
      intro k hk
      have hlt:k < s.length:=by omega
      have w1:i64.wrap ((k:Int)+1)=((k+1:Nat):Int):=by rw [wi (by omega)];omega
      rw [List.drop_eq_getElem_cons hlt,dQ]
      have st:gI l s (k:Int)=some (if eT s[k] l then .inl ((k+1:Nat):Int) else .inr (k:Int)):=by
        unfold gI
        rw [if_pos (by omega),aF hlt]
        simp only [Option.bind_some,aFh,w1]
        by_cases L:eT s[k] l <;> simp [L]
      by_cases L:eT s[k] l
      · rw [if_pos L] at st ⊢
        rw [aQ st,ih (k+1) (by omega)]
        congr 2;omega
      · rw [if_neg L] at st ⊢
        rw [aH st];rfl
  have:=main s.length 0 (by omega)
  simpa using this
noncomputable def zX (s:List Link) (l:Link):Option (List Link × Rat) :=
  if h:dQ l s < s.length then
    if eT l s[dQ l s] then some (s.take (dQ l s)++[l]++s.drop (dQ l s),pZ 0)
    else if xE s[dQ l s] l then some (s.take (dQ l s)++[aAk s[dQ l s] l]++s.drop (dQ l s+1),aCG s[dQ l s] l) else none
  else some (s.take (dQ l s)++[l]++s.drop (dQ l s),pZ 0)
def pk:Option (List Link × Rat)→List Link × Rat × Bool
  | some (s,e)=>(s,e,true)
  | none=>([],nC,false)
theorem aFj {s:List Link} {m:Link} {p q:Nat} (hs:LSet s) (hm:ValidL m) (h1:∀ x ∈ s.take p,eT x m) (h2:∀ y ∈ s.drop q,eT m y):LSet (s.take p++[m]++s.drop q):=by
  refine ⟨fun x hx=>?_,?_⟩
  · rw [List.mem_append,List.mem_append,List.mem_singleton] at hx
    rcases hx with (hx | rfl) | hx
    · exact hs.1 x (List.mem_of_mem_take hx)
    · exact hm
    · exact hs.1 x (List.mem_of_mem_drop hx)
  · rw [List.append_assoc,List.pairwise_append]
    refine ⟨hs.2.sublist (List.take_sublist _ _),?_,fun a ha b hb=>?_⟩
    · rw [List.singleton_append,List.pairwise_cons]
      exact ⟨h2,hs.2.sublist (List.drop_sublist _ _)⟩
    · rw [List.singleton_append] at hb
      rcases List.mem_cons.1 hb with rfl | hb
      · exact h1 a ha
      · exact aAC (h1 a ha) (h2 b hb)
theorem aNP {s:List Link} (h:s.Pairwise eT) {p:Nat} (hp:p < s.length):(∀ x ∈ s.take p,eT x s[p])∧∀ y ∈ s.drop (p+1),eT s[p] y:=by
  have e:s=s.take p++(s[p]::s.drop (p+1)):=by rw [← List.drop_eq_getElem_cons hp,List.take_append_drop]
  rw [e,List.pairwise_append,List.pairwise_cons] at h
  exact ⟨fun x hx=>h.2.2 x hx _ List.mem_cons_self,h.2.1.1⟩
theorem aG2 {s:List Link} {l:Link} (hs:LSet s) (hl:ValidL l) {s':List Link} {e:Rat} (h:zX s l=some (s',e)):LSet s'∧VZ e:=by
  unfold zX at h
  have z:VZ (pZ 0):=.inl (yY 0 (by omega))
  by_cases c:dQ l s < s.length
  · rw [dif_pos c] at h
    obtain ⟨g1,g2⟩:=aNP hs.2 c
    by_cases c2:eT l s[dQ l s]
    · rw [if_pos c2] at h;cases h
      refine ⟨aFj hs hl (aCC l s) (fun y hy=>?_),z⟩
      rw [List.drop_eq_getElem_cons c] at hy
      rcases List.mem_cons.1 hy with rfl | hy
      · exact c2
      · exact aAC c2 (g2 y hy)
    · rw [if_neg c2] at h
      have hv:=hs.1 _ (List.getElem_mem c)
      have nl:=aAX l s c
      have hA:s[dQ l s].fA=l.fA∧s[dQ l s].fB=l.fB:=by unfold eT at c2 nl;omega
      by_cases O:xE s[dQ l s] l
      · rw [if_pos O] at h;cases h
        exact ⟨aFj hs (aHI hv hl O) g1 g2,(aJL hv hl hA.1 hA.2).2.2⟩
      · rw [if_neg O] at h;cases h
  · rw [dif_neg c] at h;cases h
    refine ⟨aFj hs hl (aCC l s) (fun y hy=>?_),z⟩
    rw [List.drop_eq_nil_of_le (by omega)] at hy;cases hy
theorem aG3 (s:List Link) (l:Link):uX s l=gI l s:=rfl
theorem tN {α:Type} (x:α):aZ x=some x:=rfl
theorem aGj {s:List Link} {l:Link} (hs:LSet s) (hl:ValidL l):mO s l=some (pk (zX s l))∧sV s l=some (pk (zX s l)):=by
  have hlen:=hs.len
  have hp:=aJA l s
  have v:=(hC l (by have:=hl.sz;omega)).1
  have i1:=kY s (by have:=hs.sz;omega)
  have c1:=aBj s (by have:=hs.sz;omega)
  have c2:=sF l (by have:=hl.sz;omega)
  have lp1:=aLs s l (by omega)
  have rf1:cE 0=some (pZ 0):=bS 0 (by omega)
  have rf2:dY 0=some (pZ 0):=kX 0 (by omega)
  have s1:sub s 0 ((dQ l s:Nat):Int)=some (s.take (dQ l s)):=by rw [qZ _ _ _ (by omega)];simp
  have s2:sub s ((dQ l s:Nat):Int) (s.length:Int)=some (s.drop (dQ l s)):=by
    rw [qZ _ _ _ (by omega)];congr 1
    rw [List.take_of_length_le];rfl
    rw [List.length_drop];omega
  have t1:(s.take (dQ l s)).length≤100:=by rw [List.length_take];omega
  have t2:(s.drop (dQ l s)).length≤100:=by rw [List.length_drop];omega
  unfold mO sV zX
  rw [aG3,i1,v,decide_eq_true hs,decide_eq_true hl,lp1]
  simp only [Option.bind_some,if_true,Bool.not_true,Bool.false_eq_true,if_false,c1,lp1,s1,s2,tN,List.nil_append]
  rw [aN (by simp only [List.length_nil,Nat.zero_add];omega)]
  simp only [Option.bind_some]
  by_cases c:dQ l s < s.length
  · have c':((dQ l s:Nat):Int) < (s.length:Int):=by omega
    have c'':¬((dQ l s:Nat):Int)=(s.length:Int):=by omega
    rw [if_pos c',if_neg c'',dif_pos c,aF c]
    simp only [Option.bind_some,aFh,aIn]
    by_cases L:eT l s[dQ l s]
    · rw [if_pos L,decide_eq_true L]
      simp only [Bool.not_true,Bool.false_eq_true,if_false,if_true,c2,Option.bind_some,rf1,rf2]
      rw [aN (by omega)]
      simp only [Option.bind_some]
      rw [aN (by rw [List.length_append,List.length_singleton];omega)]
      exact ⟨rfl,rfl⟩
    · rw [if_neg L,decide_eq_false L]
      have hv:=hs.1 _ (List.getElem_mem c)
      have nl:=aAX l s c
      have hA:s[dQ l s].fA=l.fA∧s[dQ l s].fB=l.fB:=by unfold eT at L nl;omega
      obtain ⟨m1,m2,m3⟩:=aJL hv hl hA.1 hA.2
      simp only [Bool.not_false,if_true,Bool.false_eq_true,if_false,m1,m2,Option.bind_some]
      by_cases O:xE s[dQ l s] l
      · rw [if_pos O,if_pos O]
        have w1:i64.wrap (((dQ l s:Nat):Int)+1)=((dQ l s+1:Nat):Int):=by rw [wi (by omega)];omega
        have s3:sub s ((dQ l s+1:Nat):Int) (s.length:Int)=some (s.drop (dQ l s+1)):=by
          rw [qZ _ _ _ (by omega)];congr 1
          rw [List.take_of_length_le];rfl
          rw [List.length_drop];omega
        have t3:(s.drop (dQ l s+1)).length≤100:=by rw [List.length_drop];omega
        simp only [if_true,w1,s3,Option.bind_some,sH]
        rw [aN (by omega)]
        simp only [Option.bind_some]
        rw [aN (by rw [List.length_append,List.length_singleton];omega)]
        refine ⟨?_,rfl⟩
        simp only [pk]
        rw [List.set_eq_take_append_cons_drop,if_pos c,List.append_assoc,List.singleton_append]
      · rw [if_neg O,if_neg O]
        exact ⟨rfl,rfl⟩
  · have c':¬((dQ l s:Nat):Int) < (s.length:Int):=by omega
    have c'':((dQ l s:Nat):Int)=(s.length:Int):=by omega
    rw [if_neg c',if_pos c'',dif_neg c]
    simp only [Option.bind_some,Bool.false_eq_true,if_false,if_true,c2,rf1,rf2]
    rw [aN (by omega)]
    simp only [Option.bind_some]
    rw [aN (by rw [List.length_append,List.length_singleton];omega)]
    exact ⟨rfl,rfl⟩
end Go.Ev
/- Joining links into a link set, both programs. -/
namespace Go.Ev
set_option linter.all false
theorem aOj {r s:Rat} (hr:VZ r) (hs:VZ s) (h:¬bJ r):RA r s=nC:=by
  have q:=(aAO hr hs).1
  unfold cX at q
  rw [dX r (VZs hr),decide_eq_false h] at q
  simpa [nC] using q.symm
noncomputable def tE:List Link→List Link→Rat→Option (List Link × Rat)
  | [],s,e=>some (s,e)
  | x::r,s,e=>match zX s x with
    | none=>none
    | some (s',e')=>if bJ (RA e e') then tE r s' (RA e e') else none
theorem aHT:∀ (l s:List Link) (e:Rat),(∀ x ∈ l,ValidL x)→LSet s→bJ e→∀ s' e',tE l s e=some (s',e')→LSet s'∧bJ e'
  | [],s,e,_,hs,he,s',e',h=>by rw [tE] at h;cases h;exact ⟨hs,he⟩
  | x::r,s,e,hv,hs,he,s',e',h=>by
    rw [tE] at h
    cases ha:zX s x with
    | none=>rw [ha] at h;cases h
    | some t =>
      obtain ⟨s1,e1⟩:=t
      rw [ha] at h
      simp only [] at h
      obtain ⟨g1,g2⟩:=aG2 hs (hv x (by simp)) ha
      by_cases c:bJ (RA e e1)
      · rw [if_pos c] at h
        exact aHT r s1 _ (fun y hy=>hv y (by simp [hy])) g1 c s' e' h
      · rw [if_neg c] at h;cases h
noncomputable instance (l:List Link):Decidable (∀ x ∈ l,ValidL x):=Classical.propDecidable _
def aBv:List Link × Rat × Bool:=([],nC,false)
theorem aIW (l:List Link) (hv:∀ x ∈ l,ValidL x) (hl:l.length≤4294967296):∀ m k:Nat,m+k=l.length→∀ s e,LSet s→VZ e →
    lp (gG l) (s,(k:Int),e)=some (match tE (l.drop k) s e with | some t=>.inl t | none=>.inr aBv):=by
  intro m
  induction m with
  | zero =>
    intro k hk s e hs he
    rw [List.drop_eq_nil_of_le (by omega),tE]
    exact aH (by unfold gG;simp only [];rw [if_neg (by omega)])
  | succ m ih =>
    intro k hk s e hs he
    have hlt:k < l.length:=by omega
    have hx:=hv _ (List.getElem_mem hlt)
    have w1:IntKind.i64.wrap ((k:Int)+1)=((k+1:Nat):Int):=by rw [wi (by omega)];omega
    have a:=(aGj hs hx).2
    rw [List.drop_eq_getElem_cons hlt,tE]
    cases ha:zX s l[k] with
    | none =>
      rw [ha] at a
      have g:=(aAO he aBh).2.1
      refine aH ?_
      unfold gG
      simp only []
      rw [if_pos (by omega),aF hlt]
      simp only [Option.bind_some,a,pk,g]
      rfl
    | some t =>
      obtain ⟨s1,e1⟩:=t
      rw [ha] at a
      obtain ⟨g1,g2⟩:=aG2 hs hx ha
      obtain ⟨_,q2,q3⟩:=aAO he g2
      have st:gG l (s,(k:Int),e)=some (if bJ (RA e e1) then .inl (s1,((k+1:Nat):Int),RA e e1) else .inr (.inr aBv)):=by
        unfold gG
        simp only []
        rw [if_pos (by omega),aF hlt]
        simp only [Option.bind_some,a,pk,q2,iT q3,if_true,w1]
        by_cases c:bJ (RA e e1)
        · simp [c]
        · simp [c,aBv,nC]
      simp only []
      by_cases c:bJ (RA e e1)
      · rw [if_pos c] at st ⊢
        rw [aQ st]
        exact ih (k+1) (by omega) s1 _ g1 q3
      · rw [if_neg c] at st ⊢
        rw [aH st]
def aL4:(List Link × Rat) ⊕ (List Link × Rat × Bool)→List Link × Rat × Bool
  | .inl d=>if bJ d.2 then (d.1,d.2,true) else aBv
  | .inr x=>x
theorem aIV (l:List Link) (hz:aG l≤4294967296):∀ m k:Nat,m+k=l.length→∀ s e,LSet s→VZ e →
    ∃ R,lp (eM l) (s,(k:Int),e)=some R∧(∀ d,R=.inl d→VZ d.2)∧aL4 R=pk (if bJ e∧(∀ x ∈ l.drop k,ValidL x) then tE (l.drop k) s e else none):=by
  have hl:l.length≤4294967296:=by have:=iL bP l;unfold aG at hz;omega
  intro m
  induction m with
  | zero =>
    intro k hk s e hs he
    refine ⟨.inl (s,e),aH (by unfold eM;simp only [];rw [if_neg (by omega)]),fun d h=>(by cases h;exact he),?_⟩
    rw [List.drop_eq_nil_of_le (by omega),tE]
    by_cases c:bJ e
    · simp [aL4,pk,c]
    · simp [aL4,pk,c,aBv]
  | succ m ih =>
    intro k hk s e hs he
    have hlt:k < l.length:=by omega
    have w1:IntKind.i64.wrap ((k:Int)+1)=((k+1:Nat):Int):=by rw [wi (by omega)];omega
    have hxz:bP l[k]≤4294967296:=by have:=kH (w:=bP) (List.getElem_mem hlt);unfold aG at hz;omega
    rw [List.drop_eq_getElem_cons hlt]
    by_cases hx:ValidL l[k]
    · have a:=(aGj hs hx).1
      rw [tE]
      cases ha:zX s l[k] with
      | none =>
        rw [ha] at a
        refine ⟨.inr aBv,aH ?_,fun d h=>(by cases h),?_⟩
        · unfold eM
          simp only []
          rw [if_pos (by omega),aF hlt]
          simp only [Option.bind_some,a,pk]
          rfl
        · simp [aL4,pk,aBv]
      | some t =>
        obtain ⟨s1,e1⟩:=t
        rw [ha] at a
        obtain ⟨g1,g2⟩:=aG2 hs hx ha
        obtain ⟨q1,_,q3⟩:=aAO he g2
        have st:eM l (s,(k:Int),e)=some (.inl (s1,((k+1:Nat):Int),RA e e1)):=by
          unfold eM
          simp only []
          rw [if_pos (by omega),aF hlt]
          simp only [Option.bind_some,a,pk,q1,if_true,w1]
        obtain ⟨R,r1,r2,r3⟩:=ih (k+1) (by omega) s1 _ g1 q3
        refine ⟨R,by rw [aQ st];exact r1,r2,?_⟩
        rw [r3]
        simp only []
        by_cases c:bJ e
        · by_cases c2:bJ (RA e e1)
          · have:(∀ x ∈ l[k]::l.drop (k+1),ValidL x)↔(∀ x ∈ l.drop (k+1),ValidL x):=⟨fun h x hx'=>h x (List.mem_cons_of_mem _ hx'),fun h x hx'=>by rcases List.mem_cons.1 hx' with rfl | h';exact hx;exact h x h'⟩
            simp only [c,c2,true_and,if_true,this]
          · simp only [c,c2,true_and,false_and,if_false,ite_self]
        · have c2:¬bJ (RA e e1):=by rw [aOj he g2 c];exact aAl
          simp only [c,c2,false_and,if_false]
    · refine ⟨.inr aBv,aH ?_,fun d h=>(by cases h),?_⟩
      · unfold eM
        simp only []
        rw [if_pos (by omega),aF hlt]
        have a:mO s l[k]=some aBv:=by
          unfold mO
          rw [kY s (by have:=hs.sz;omega),(hC l[k] hxz).1,decide_eq_true hs,decide_eq_false hx]
          rfl
        simp only [Option.bind_some,a,aBv]
        rfl
      · rw [if_neg (fun h=>hx (h.2 _ List.mem_cons_self))];rfl
theorem aGm (l:List Link) (hz:aG l≤4294967296):nQ l=some (decide (∀ x ∈ l,ValidL x)):=by
  have hl:l.length≤4294967296:=by have:=iL bP l;unfold aG at hz;omega
  have main:∀ m k:Nat,m+k=l.length→lp (gQ l) (k:Int)=some (if (∀ x ∈ l.drop k,ValidL x) then .inl () else .inr false):=by
    intro m
    induction m with
    | zero =>
      intro k hk
      rw [List.drop_eq_nil_of_le (by omega),if_pos (by simp)]
      exact aH (by unfold gQ;rw [if_neg (by omega)])
    | succ m ih =>
      intro k hk
      have hlt:k < l.length:=by omega
      have w1:IntKind.i64.wrap ((k:Int)+1)=((k+1:Nat):Int):=by rw [wi (by omega)];omega
      have v:=(hC l[k] (by have:=kH (w:=bP) (List.getElem_mem hlt);unfold aG at hz;omega)).2
      have st:gQ l (k:Int)=some (if ValidL l[k] then .inl ((k+1:Nat):Int) else .inr (.inr false)):=by
        unfold gQ
        rw [if_pos (by omega),aF hlt]
        simp only [Option.bind_some,v,w1]
        by_cases c:ValidL l[k] <;> simp [c]
      rw [List.drop_eq_getElem_cons hlt]
      by_cases c:ValidL l[k]
      · rw [if_pos c] at st
        rw [aQ st,ih (k+1) (by omega)]
        have:(∀ x ∈ l[k]::l.drop (k+1),ValidL x)↔(∀ x ∈ l.drop (k+1),ValidL x):=⟨fun h x hx'=>h x (List.mem_cons_of_mem _ hx'),fun h x hx'=>by rcases List.mem_cons.1 hx' with rfl | h';exact c;exact h x h'⟩
        simp only [this]
      · rw [if_neg c] at st
        rw [aH st,if_neg (fun h=>c (h _ List.mem_cons_self))]
  have:=main l.length 0 (by omega)
  unfold nQ
  rw [show ((0:Nat):Int)=0 from rfl,List.drop_zero] at this
  rw [this]
  by_cases c:∀ x ∈ l,ValidL x
  · rw [if_pos c,decide_eq_true c];rfl
  · rw [if_neg c,decide_eq_false c];rfl
theorem aAP:LSet []:=⟨by simp,List.Pairwise.nil⟩
theorem aAW:bJ (pZ 0):=yY 0 (by omega)
noncomputable def jnP (l:List Link):Option (List Link × Rat):=if ∀ x ∈ l,ValidL x then tE l [] (pZ 0) else none
theorem aBG {l s:List Link} {e:Rat} (h:jnP l=some (s,e)):(∀ x ∈ l,ValidL x)∧LSet s∧bJ e:=by
  unfold jnP at h
  by_cases c:∀ x ∈ l,ValidL x
  · rw [if_pos c] at h
    exact ⟨c,aHT l [] _ c aAP aAW s e h⟩
  · rw [if_neg c] at h;cases h
theorem aAE {l:List Link} (hv:∀ x ∈ l,ValidL x) (hl:l.length≤4294967296):jX l=some (pk (jnP l)):=by
  unfold jX jnP
  rw [kX 0 (by omega),if_pos hv]
  simp only [Option.bind_some]
  have:=aIW l hv hl l.length 0 (by omega) [] (pZ 0) aAP (.inl aAW)
  rw [show ((0:Nat):Int)=0 from rfl,List.drop_zero] at this
  rw [this]
  cases tE l [] (pZ 0) with
  | none=>rfl
  | some t=>rfl
theorem xK (l:List Link) (hz:aG l≤4294967296):hZ l=some (pk (jnP l))∧pI l=some (pk (jnP l)):=by
  have hl:l.length≤4294967296:=by have:=iL bP l;unfold aG at hz;omega
  constructor
  · unfold hZ
    rw [bS 0 (by omega)]
    simp only [Option.bind_some]
    obtain ⟨R,r1,r2,r3⟩:=aIV l hz l.length 0 (by omega) [] (pZ 0) aAP (.inl aAW)
    rw [show ((0:Nat):Int)=0 from rfl] at r1
    rw [List.drop_zero] at r3
    rw [r1]
    have e:(if bJ (pZ 0)∧(∀ x ∈ l,ValidL x) then tE l [] (pZ 0) else none)=jnP l:=by unfold jnP;simp only [aAW,true_and]
    rw [← e,← r3]
    cases R with
    | inl d =>
      simp only [Option.bind_some]
      rw [dX d.2 (VZs (r2 d rfl))]
      simp only [Option.bind_some,aL4]
      by_cases c:bJ d.2
      · rw [decide_eq_true c,if_pos c];rfl
      · rw [decide_eq_false c,if_neg c];rfl
    | inr x=>rfl
  · unfold pI
    rw [aGm l hz]
    simp only [Option.bind_some]
    by_cases c:∀ x ∈ l,ValidL x
    · rw [decide_eq_true c,if_pos rfl,aAE c hl]
      simp only [Option.bind_some]
      cases hj:jnP l with
      | none=>rfl
      | some t =>
        obtain ⟨s,e⟩:=t
        obtain ⟨_,g1,_⟩:=aBG hj
        simp only [pk,if_true]
        rw [pU s (by have:=g1.sz;omega)]
        rfl
    · rw [decide_eq_false c]
      unfold jnP
      rw [if_neg c];rfl
end Go.Ev
/- Cliques: their nodes in order. -/
namespace Go.Ev
set_option linter.all false
theorem vQ:∀ {a b:List Int},a.Pairwise (· < ·)→b.Pairwise (· < ·)→(∀ x,x ∈ a↔x ∈ b)→a=b
  | [],[],_,_,_=>rfl
  | [],y::b,_,_,h=>absurd ((h y).2 (by simp)) (by simp)
  | x::a,[],_,_,h=>absurd ((h x).1 (by simp)) (by simp)
  | x::a,y::b,ha,hb,h=>by
    rw [List.pairwise_cons] at ha hb
    have hxy:x=y:=by
      have h1:=(h x).1 (by simp)
      have h2:=(h y).2 (by simp)
      rcases List.mem_cons.1 h1 with e | e
      · exact e
      · rcases List.mem_cons.1 h2 with e' | e'
        · exact e'.symm
        · have:=hb.1 x e;have:=ha.1 y e';omega
    subst hxy
    have:a=b:=vQ ha.2 hb.2 (fun z=>by
      constructor
      · intro hz
        have:=(h z).1 (by simp [hz])
        rcases List.mem_cons.1 this with e | e
        · subst e;have:=ha.1 z hz;omega
        · exact e
      · intro hz
        have:=(h z).2 (by simp [hz])
        rcases List.mem_cons.1 this with e | e
        · subst e;have:=hb.1 z hz;omega
        · exact e)
    rw [this]
def wV:List Int→Int→List Int
  | [],n=>[n]
  | x::l,n=>if x < n then x::wV l n else if x=n then x::l else n::x::l
theorem vY:∀ (l:List Int) (n x:Int),x ∈ wV l n↔x=n∨x ∈ l
  | [],n,x=>by simp [wV]
  | y::l,n,x=>by
    unfold wV
    by_cases h1:y < n
    · rw [if_pos h1,List.mem_cons,List.mem_cons,vY l n x]
      constructor
      · rintro (h | h | h) <;> simp [h]
      · rintro (h | h | h) <;> simp [h]
    · rw [if_neg h1]
      by_cases h2:y=n
      · rw [if_pos h2];subst h2;simp
      · rw [if_neg h2];simp
theorem rS:∀ (l:List Int) (n:Int),l.Pairwise (· < ·)→(wV l n).Pairwise (· < ·)
  | [],n,_=>by simp [wV]
  | y::l,n,h=>by
    unfold wV
    rw [List.pairwise_cons] at h
    by_cases h1:y < n
    · rw [if_pos h1,List.pairwise_cons]
      exact ⟨fun x hx=>by rcases (vY l n x).1 hx with e | e;omega;exact h.1 x e,rS l n h.2⟩
    · rw [if_neg h1]
      by_cases h2:y=n
      · rw [if_pos h2,List.pairwise_cons];exact h
      · rw [if_neg h2,List.pairwise_cons]
        exact ⟨fun x hx=>by rcases List.mem_cons.1 hx with e | e;omega;have:=h.1 x e;omega,List.pairwise_cons.2 h⟩
theorem vZ:∀ (l:List Int) (n:Int),(wV l n).length≤l.length+1
  | [],n=>by simp [wV]
  | y::l,n=>by
    unfold wV
    split
    · simp [vZ l n]
    · split <;> simp
def nA (l:List Int) (n:Int):Nat:=(l.takeWhile (fun x=>decide (x < n))).length
theorem aI1 (l:List Int) (n:Int):nA l n≤l.length:=by
  unfold nA
  induction l with
  | nil=>simp
  | cons x l ih =>
    rw [List.takeWhile_cons]
    split
    · simpa using ih
    · simp
theorem aCl (x:Int) (l:List Int) (n:Int):nA (x::l) n=if x < n then nA l n+1 else 0:=by
  unfold nA
  rw [List.takeWhile_cons]
  by_cases h:x < n <;> simp [h]
theorem aJz:∀ (l:List Int) (n:Int),wV l n=if l[nA l n]?=some n then l else l.take (nA l n)++[n]++l.drop (nA l n)
  | [],n=>by simp [wV,nA]
  | x::l,n=>by
    rw [aCl]
    unfold wV
    by_cases h:x < n
    · rw [if_pos h,if_pos h,aJz l n]
      simp only [List.getElem?_cons_succ,List.take_succ_cons,List.drop_succ_cons]
      split <;> simp
    · rw [if_neg h,if_neg h]
      by_cases h2:x=n <;> simp [h2]
theorem aLm (l:List Int) (n:Int) (h:l.length≤4294967296):lp (gB l n) 0=some ((nA l n:Nat):Int):=by
  have main:∀ m k:Nat,m+k=l.length→lp (gB l n) (k:Int)=some ((k+nA (l.drop k) n:Nat):Int):=by
    intro m
    induction m with
    | zero =>
      intro k hk
      have:k=l.length:=by omega
      subst this
      rw [aH (r:=(l.length:Int)) (by unfold gB;rw [if_neg (by omega)];rfl),List.drop_length];simp [nA]
    | succ m ih =>
      intro k hk
      have hlt:k < l.length:=by omega
      rw [List.drop_eq_getElem_cons hlt,aCl]
      by_cases c:l[k] < n
      · rw [if_pos c]
        have e:gB l n (k:Int)=some (.inl ((k:Int)+1)):=by
          unfold gB
          rw [if_pos (by omega),aF hlt,wi (by omega)]
          simp [c]
        rw [aQ e,show (k:Int)+1=((k+1:Nat):Int) by omega,ih (k+1) (by omega)]
        congr 2;omega
      · rw [if_neg c]
        have e:gB l n (k:Int)=some (.inr (k:Int)):=by
          unfold gB
          rw [if_pos (by omega),aF hlt]
          simp [c]
        rw [aH e];simp
  have:=main l.length 0 (by omega)
  simpa using this
theorem aHr (l:List Int) (n:Int) (h:l.length≤4294967296):mJ l n=some (wV l n):=by
  have hf:=aI1 l n
  unfold mJ
  rw [aLm l n h,aJz]
  simp only [Option.bind_some]
  by_cases hlt:nA l n < l.length
  · rw [if_pos (by omega),aF hlt,List.getElem?_eq_getElem hlt]
    simp only [Option.bind_some,decide_eq_true_eq,Option.some.injEq]
    by_cases c:l[nA l n]=n
    · rw [if_pos c,if_pos c]
    · rw [if_neg c,if_neg c,qZ _ _ _ (by omega),qZ _ _ _ (by omega)]
      simp only [Option.bind_some,aO,List.nil_append]
      rw [aN (by simp;omega),aN (by simp;omega),aN (by simp;omega)]
      simp only [Option.bind_some]
      simp
      rw [List.take_of_length_le (by simp)]
  · have:nA l n=l.length:=by omega
    rw [if_neg (by omega),this,if_neg (by simp)]
    simp only [Option.bind_some,Bool.false_eq_true,if_false]
    rw [qZ _ _ _ (by omega),qZ _ _ _ (by omega)]
    simp only [Option.bind_some,aO,List.nil_append]
    rw [aN (by simp;omega),aN (by simp;omega),aN (by simp;omega)]
    simp
end Go.Ev
/- The arms of a node of a link set, both programs. -/
namespace Go.Ev
set_option linter.all false
def sM (v:Int) (l:Link):Int:=if l.fA=v then l.fB else l.fA
def tch (v:Int) (l:Link):Bool:=decide (l.fA=v∨l.fB=v)
noncomputable def aAh (v:Int) (l:Link):l08Arm:=if l.fA=v then ⟨l.fB,l.fWeight,RN l.fDX,RN l.fDY⟩ else ⟨l.fA,l.fWeight,l.fDX,l.fDY⟩
noncomputable def bK (v:Int) (s:List Link):List l08Arm:=(s.filter (tch v)).map (aAh v)
theorem aJh (v:Int) (l:Link):(aAh v l).fnode=sM v l:=by unfold aAh sM;split <;> rfl
theorem aFT {s:List Link} (hs:LSet s) (v:Int):((s.filter (tch v)).map (sM v)).Pairwise (· < ·):=by
  rw [List.pairwise_map]
  refine List.Pairwise.imp_of_mem (fun {a b} ha hb hr=>?_) (hs.2.sublist List.filter_sublist)
  rw [List.mem_filter] at ha hb
  have h1:=hs.1 a ha.1
  have h2:=hs.1 b hb.1
  have t1:=ha.2
  have t2:=hb.2
  unfold tch at t1 t2
  rw [decide_eq_true_eq] at t1 t2
  unfold ValidL at h1 h2
  unfold eT at hr
  unfold sM
  split <;> split <;> omega
theorem aNU {s:List Link} (hs:LSet s) (v:Int):sC s v=some ((s.filter (tch v)).map (sM v)):=by
  have hlen:=hs.len
  unfold sC
  obtain ⟨e1,e2⟩:=lU (step:=nF s v) s (fun k t=>(t,(k:Int))) (fun t l=>if tch v l then wV t (sM v l) else t) (fun t=>t)
    (fun k t=>t.length≤k∧t.Pairwise (· < ·)∧∀ x,x ∈ t↔x ∈ ((s.take k).filter (tch v)).map (sM v)) (fun k t hk hI=>by
      obtain ⟨i1,i2,i3⟩:=hI
      have hv:=hs.1 _ (List.getElem_mem hk)
      have w1:IntKind.i64.wrap ((k:Int)+1)=((k+1:Nat):Int):=by rw [wi (by omega)];omega
      refine ⟨?_,?_,?_,?_⟩
      · unfold nF
        simp only []
        rw [if_pos (by omega),aF hk]
        unfold ValidL at hv
        simp only [Option.bind_some,aHr t _ (by omega:t.length≤4294967296),w1]
        by_cases A:(s[k]).fA=v
        · have B:¬(s[k]).fB=v:=by omega
          simp [A,B,tch,sM]
        · by_cases B:(s[k]).fB=v
          · rw [if_neg A]
            simp only [Option.bind_some]
            rw [if_pos B,aHr t _ (by omega:t.length≤4294967296)]
            simp [A,B,tch,sM]
          · simp [A,B,tch,sM]
      · have:=vZ t (sM v s[k])
        split <;> omega
      · split
        · exact rS _ _ i2
        · exact i2
      · intro x
        have tk:s.take (k+1)=s.take k++[s[k]]:=by rw [List.take_add_one,List.getElem?_eq_getElem hk];rfl
        rw [tk,List.filter_append,List.map_append,List.mem_append,← i3 x]
        by_cases T:tch v s[k]=true
        · simp only [T,if_true,vY,List.filter_cons_of_pos,List.filter_nil,List.map_cons,List.map_nil,List.mem_singleton]
          exact Or.comm
        · simp [T]) (fun t _=>by unfold nF;simp only [];rw [if_neg (by omega)]) [] ⟨by simp,List.Pairwise.nil,by simp⟩
  rw [show ((0:Nat):Int)=0 from rfl] at e1
  rw [e1]
  simp only [Option.bind_some]
  congr 1
  obtain ⟨_,g2,g3⟩:=e2
  rw [List.take_length] at g3
  exact vQ g2 (aFT hs v) g3
theorem LSet.uniq {s:List Link} (hs:LSet s) {a b:Link} (ha:a ∈ s) (hb:b ∈ s) (h1:a.fA=b.fA) (h2:a.fB=b.fB):a=b:=by
  obtain ⟨i,hi,rfl⟩:=List.getElem_of_mem ha
  obtain ⟨j,hj,rfl⟩:=List.getElem_of_mem hb
  have pw:=List.pairwise_iff_getElem.1 hs.2
  rcases Nat.lt_trichotomy i j with h | h | h
  · have:=pw i j hi hj h;unfold eT at this;omega
  · subst h;rfl
  · have:=pw j i hj hi h;unfold eT at this;omega
theorem aN0 (p q r t:Prop) [Decidable p] [Decidable q] [Decidable r] [Decidable t]:((if p then (if q then some true else (if r then some (decide t) else some false)) else (if r then some (decide t) else some false)):Option Bool)=some (decide ((p∧q)∨(r∧t))):=by
  by_cases p <;> by_cases q <;> by_cases r <;> by_cases t <;> simp [*]
theorem aMr {s:List Link} (hs:LSet s) {v:Int} {l:Link} (hl:l ∈ s) (ht:tch v l=true):uH s (sM v l) v=some (l,true):=by
  have hlen:=hs.len
  have hv:=hs.1 l hl
  unfold uH
  rw [kY s (by have:=hs.sz;omega),decide_eq_true hs]
  simp only [Option.bind_some,if_true]
  obtain ⟨r,e,q⟩:=aKv (step:=oT s (sM v l) v) s.length (fun r=>r=.inr (l,true)) (fun k=>l ∈ s.drop k) (by simpa using hl) (fun k hk hj=>by
    have hx:=hs.1 _ (List.getElem_mem hk)
    have w1:IntKind.i64.wrap ((k:Int)+1)=((k+1:Nat):Int):=by rw [wi (by omega)];omega
    rw [List.drop_eq_getElem_cons hk] at hj
    have st:oT s (sM v l) v (k:Int)=some (if (((s[k]).fA=sM v l∧(s[k]).fB=v)∨((s[k]).fA=v∧(s[k]).fB=sM v l)) then .inr (.inr (s[k],true)) else .inl ((k+1:Nat):Int)):=by
      unfold oT
      rw [if_pos (by omega),aF hk]
      simp only [Option.bind_some,w1,sF s[k] (by have:=hx.sz;omega)]
      rw [aN0]
      simp only [Option.bind_some]
      by_cases c:((s[k]).fA=sM v l∧(s[k]).fB=v)∨((s[k]).fA=v∧(s[k]).fB=sM v l)
      · rw [if_pos c,decide_eq_true c];rfl
      · rw [if_neg c,decide_eq_false c];rfl
    unfold tch at ht
    rw [decide_eq_true_eq] at ht
    unfold ValidL at hx hv
    by_cases c:((s[k]).fA=sM v l∧(s[k]).fB=v)∨((s[k]).fA=v∧(s[k]).fB=sM v l)
    · rw [if_pos c] at st
      right
      refine ⟨_,st,?_⟩
      have:s[k]=l:=by
        refine hs.uniq (List.getElem_mem hk) hl ?_ ?_
        · unfold sM at c;split at c <;> omega
        · unfold sM at c;split at c <;> omega
      rw [this]
    · rw [if_neg c] at st
      left
      refine ⟨st,?_⟩
      rcases List.mem_cons.1 hj with e | e
      · exfalso;apply c
        rw [← e];unfold sM;split <;> omega
      · exact e) (fun hj=>by rw [List.drop_length] at hj;cases hj)
  rw [e,q];rfl
theorem aNA {r:Rat} (h:VZ r):VZ (RN r):=(aKS h).2.2
def tF (a:l08Arm):Prop:=(0≤a.fnode∧a.fnode≤9)∧VZ a.fweight∧VZ a.fdx∧VZ a.fdy
theorem aIc {v:Int} {l:Link} (h:ValidL l):tF (aAh v l):=by
  obtain ⟨h1,h2,h3⟩:=h.vz
  unfold aAh
  split
  · exact ⟨h.2.1,h1,aNA h2,aNA h3⟩
  · exact ⟨h.1,h1,h2,h3⟩
theorem aE7 {s:List Link} (hs:LSet s) (v:Int):∀ a ∈ bK v s,tF a:=by
  intro a ha
  obtain ⟨l,hl,rfl⟩:=List.mem_map.1 ha
  exact aIc (hs.1 l (List.mem_filter.1 hl).1)
theorem aA8 {s:List Link} (hs:LSet s) (v:Int):(bK v s).length≤100:=by
  have:=hs.len
  have:=List.length_filter_le (tch v) s
  unfold bK
  rw [List.length_map];omega
theorem aKN {s:List Link} (hs:LSet s) (v:Int):((bK v s).map (·.fnode)).Pairwise (· < ·):=by
  have:=aFT hs v
  unfold bK
  rw [List.map_map]
  have e:(fun a:l08Arm=>a.fnode) ∘ aAh v=sM v:=by funext l;exact aJh v l
  rw [e];exact this
theorem aOb {s:List Link} (hs:LSet s) (v:Int):sB s v=some (bK v s):=by
  have hal:=aA8 hs v
  unfold sB
  rw [aNU hs v]
  simp only [Option.bind_some]
  have hfl:((s.filter (tch v)).map (sM v)).length=(bK v s).length:=by unfold bK;rw [List.length_map,List.length_map]
  have:=yM (step:=nE s v ((s.filter (tch v)).map (sM v))) (bK v s) (fun k t=>((k:Int),t)) (fun t=>t) (fun k t hk ht=>by
    have hk2:k < (s.filter (tch v)).length:=by unfold bK at hk;rwa [List.length_map] at hk
    have hk3:k < ((s.filter (tch v)).map (sM v)).length:=by rwa [List.length_map]
    have hm:=List.mem_filter.1 (List.getElem_mem hk2)
    have w1:IntKind.i64.wrap ((k:Int)+1)=((k+1:Nat):Int):=by rw [wi (by omega)];omega
    have hv:=hs.1 _ hm.1
    obtain ⟨v1,v2,v3⟩:=hv.vz
    have g:=aMr hs hm.1 hm.2
    have ea:(bK v s)[k]=aAh v (s.filter (tch v))[k]:=by simp only [bK,List.getElem_map]
    unfold nE
    simp only []
    rw [if_pos (by omega),aF hk3,List.getElem_map]
    simp only [Option.bind_some,g,(aKS v2).1,(aKS v3).1,w1]
    rw [ea]
    unfold aAh
    by_cases A:((s.filter (tch v))[k]).fA=v
    · rw [if_pos A,if_pos A]
      simp only [Option.bind_some,sM,A,if_true]
      rw [aN (by omega)];rfl
    · rw [if_neg A,if_neg A]
      simp only [Option.bind_some,sM,A,if_false]
      rw [aN (by omega)];rfl) (fun t ht=>by unfold nE;simp only [];rw [if_neg (by omega)])
  rw [show ((0:Nat):Int)=0 from rfl] at this
  rw [this];rfl
end Go.Ev
/- Eliminating a node of a link set, both programs. -/
namespace Go.Ev
open IntKind
set_option linter.all false
noncomputable def qD (a:List l08Arm):Rat:=a.foldl (fun t a=>RA t a.fweight) (pZ 0)
noncomputable def fQ (t:Rat) (a:l08Arm):Parent:=⟨a.fnode,RD a.fweight t,a.fdx,a.fdy⟩
noncomputable def tD (t:Rat) (a b:l08Arm):Link:=⟨a.fnode,b.fnode,RD (RM a.fweight b.fweight) t,RS a.fdx b.fdx,RS a.fdy b.fdy⟩
noncomputable def iA (t:Rat):List l08Arm→List Link
  | []=>[]
  | a::r=>r.map (tD t a)++iA t r
noncomputable def aBx (v:Int) (a:List l08Arm):Conditional:=⟨v,qD a,a.map (fQ (qD a))⟩
def condOk (v:Int) (a:List l08Arm):Prop:=bD (aBx v a)=some true
noncomputable instance (v:Int) (a:List l08Arm):Decidable (condOk v a):=Classical.propDecidable _
noncomputable def wL (v:Int) (s:List Link):Option (Conditional × List Link) :=
  if (1≤v∧v≤9)∧condOk v (bK v s)∧(∀ x ∈ iA (qD (bK v s)) (bK v s),ValidL x) then some (aBx v (bK v s),iA (qD (bK v s)) (bK v s)) else none
theorem aGW {v:Int} {s:List Link} (h:(1≤v∧v≤9)∧condOk v (bK v s)∧(∀ x ∈ iA (qD (bK v s)) (bK v s),ValidL x)):wL v s=some (aBx v (bK v s),iA (qD (bK v s)) (bK v s)):=by unfold wL;rw [if_pos h]
theorem aA4 {v:Int} {s:List Link} (h:¬((1≤v∧v≤9)∧condOk v (bK v s)∧(∀ x ∈ iA (qD (bK v s)) (bK v s),ValidL x))):wL v s=none:=by unfold wL;rw [if_neg h]
def aDQ:Conditional:=Conditional.mk 0 (Rat.mk (BigInt.mk false ([])) ([])) ([])
def pkE:Option (Conditional × List Link)→Conditional × List Link × Bool
  | some (c,m)=>(c,m,true)
  | none=>(aDQ,[],false)
theorem aHX:∀ (a:List l08Arm) (t:Rat),(∀ x ∈ a,tF x)→VZ t→VZ (a.foldl (fun t a=>RA t a.fweight) t)
  | [],t,_,h=>h
  | x::a,t,ho,h=>aHX a _ (fun y hy=>ho y (by simp [hy])) (aAO h (ho x (by simp)).2.1).2.2
theorem yU {a:List l08Arm} (h:∀ x ∈ a,tF x):VZ (qD a):=aHX a _ h (.inl aAW)
theorem aBI {α β:Type} (g:α→β):∀ (l:List α) (t:List β),l.foldl (fun t b=>t++[g b]) t=t++l.map g
  | [],t=>by simp
  | x::l,t=>by rw [List.foldl_cons,aBI g l,List.map_cons,List.append_assoc];rfl
theorem aHE {t:Rat} {a b:l08Arm} (ht:VZ t) (ha:tF a) (hb:tF b):bP (tD t a b)≤144:=by
  have h1:=oJ (aFe (aDE ha.2.1 hb.2.1).2.2 ht).2.2
  have h2:=oJ (aG6 ha.2.2.1 hb.2.2.1).2.2
  have h3:=oJ (aG6 ha.2.2.2 hb.2.2.2).2.2
  unfold bP tD;simp only [];omega
theorem aJK {t:Rat} (ht:VZ t):∀ {a:List l08Arm},(∀ x ∈ a,tF x)→∀ x ∈ iA t a,bP x≤144
  | [],_,x,hx=>by cases hx
  | a::r,h,x,hx=>by
    rw [iA] at hx
    rcases List.mem_append.1 hx with hx | hx
    · obtain ⟨b,hb,rfl⟩:=List.mem_map.1 hx
      exact aHE ht (h a (by simp)) (h b (by simp [hb]))
    · exact aJK ht (fun y hy=>h y (by simp [hy])) x hx
theorem aEv (t:Rat):∀ {a:List l08Arm} {n:Nat},a.length≤n→(iA t a).length≤n*a.length
  | [],n,_=>by simp [iA]
  | a::r,n,h=>by
    rw [List.length_cons] at h
    have:=aEv t (a:=r) (n:=n) (by omega)
    rw [iA,List.length_append,List.length_map,List.length_cons,Nat.mul_add,Nat.mul_one];omega
theorem aLK (t:Rat):∀ {a:List l08Arm} {x:Link},x ∈ iA t a→∃ y ∈ a,x.fA=y.fnode
  | [],x,hx=>by cases hx
  | a::r,x,hx=>by
    rw [iA] at hx
    rcases List.mem_append.1 hx with hx | hx
    · obtain ⟨b,hb,rfl⟩:=List.mem_map.1 hx
      exact ⟨a,by simp,rfl⟩
    · obtain ⟨y,hy,e⟩:=aLK t hx
      exact ⟨y,by simp [hy],e⟩
theorem aHG (t:Rat):∀ {a:List l08Arm},(a.map (·.fnode)).Pairwise (· < ·)→(iA t a).Pairwise eT
  | [],_=>List.Pairwise.nil
  | a::r,h=>by
    rw [List.map_cons,List.pairwise_cons] at h
    rw [iA,List.pairwise_append]
    refine ⟨?_,aHG t h.2,fun x hx y hy=>?_⟩
    · rw [List.pairwise_map]
      have:=h.2
      rw [List.pairwise_map] at this
      exact this.imp (fun {b c} hbc=>.inr ⟨rfl,hbc⟩)
    · obtain ⟨b,hb,rfl⟩:=List.mem_map.1 hx
      obtain ⟨z,hz,e⟩:=aLK t hy
      exact .inl (by rw [e];exact h.1 _ (List.mem_map.2 ⟨z,hz,rfl⟩))
theorem aFW {t:Rat} {a:List l08Arm} (h:(a.map (·.fnode)).Pairwise (· < ·)):LSet (iA t a)↔∀ x ∈ iA t a,ValidL x:=⟨fun g=>g.1,fun g=>⟨g,aHG t h⟩⟩
theorem aKE {a:List l08Arm} (ha:∀ x ∈ a,tF x) (hl:a.length≤100):lp (fD a) (0,pZ 0)=some (qD a):=by
  have:=(lU (step:=fD a) a (fun k t=>((k:Int),t)) (fun t a=>RA t a.fweight) (fun t=>t) (fun _ t=>VZ t) (fun k t hk hi=>by
    have w1:i64.wrap ((k:Int)+1)=((k+1:Nat):Int):=by rw [wi (by omega)];omega
    obtain ⟨q1,_,q3⟩:=aAO hi (ha _ (List.getElem_mem hk)).2.1
    refine ⟨?_,q3⟩
    unfold fD
    simp only []
    rw [if_pos (by omega),aF hk]
    simp only [Option.bind_some,q1,w1]) (fun t _=>by unfold fD;simp only [];rw [if_neg (by omega)]) (pZ 0) (.inl aAW)).1
  rw [show ((0:Nat):Int)=0 from rfl] at this
  exact this
theorem aKG {a:List l08Arm} {t:Rat} (ht:VZ t) (ha:∀ x ∈ a,tF x) (hl:a.length≤100):lp (fC a t) (0,[])=some (a.map (fQ t)):=by
  have:=yM (step:=fC a t) (a.map (fQ t)) (fun k t=>((k:Int),t)) (fun t=>t) (fun k u hk hu=>by
    have hk2:k < a.length:=by rwa [List.length_map] at hk
    have w1:i64.wrap ((k:Int)+1)=((k+1:Nat):Int):=by rw [wi (by omega)];omega
    have ho:=ha _ (List.getElem_mem hk2)
    have q:=(aFe ho.2.1 ht).1
    unfold fC
    simp only []
    rw [if_pos (by omega),aF hk2]
    simp only [Option.bind_some,q,oP _ (VZs ho.2.2.1),oP _ (VZs ho.2.2.2),w1]
    rw [aN (by omega)]
    simp only [Option.bind_some,tN,List.getElem_map]
    rfl) (fun u hu=>by unfold fC;simp only [];rw [List.length_map,if_neg (by omega)])
  rw [show ((0:Nat):Int)=0 from rfl] at this
  exact this
theorem aKF {r:List l08Arm} {x:l08Arm} {t:Rat} (ht:VZ t) (hx:tF x) (hr:∀ y ∈ r,tF y) (hl:r.length≤100) (acc:List Link) (hacc:acc.length≤1000000) :
    lp (eZ r x t) (0,acc)=some (acc++r.map (tD t x)):=by
  have:=(lU (step:=eZ r x t) r (fun k u=>((k:Int),u)) (fun u b=>u++[tD t x b]) (fun u=>u) (fun k u=>u.length≤1000000+k) (fun k u hk hi=>by
    have w1:i64.wrap ((k:Int)+1)=((k+1:Nat):Int):=by rw [wi (by omega)];omega
    have ho:=hr _ (List.getElem_mem hk)
    have q0:=aDE hx.2.1 ho.2.1
    have q1:=(aFe q0.2.2 ht).1
    have q2:=(aG6 hx.2.2.1 ho.2.2.1).1
    have q3:=(aG6 hx.2.2.2 ho.2.2.2).1
    refine ⟨?_,by rw [List.length_append,List.length_singleton];omega⟩
    unfold eZ
    simp only []
    rw [if_pos (by omega),aF hk]
    simp only [Option.bind_some,q0.1,q1,q2,q3,w1]
    rw [aN (by omega)]
    rfl) (fun u _=>by unfold eZ;simp only [];rw [if_neg (by omega)]) acc (by omega)).1
  rw [show ((0:Nat):Int)=0 from rfl,aBI] at this
  exact this
theorem aK3 {α:Type} (l:List α) (k:Nat) (hk:k+1≤l.length) (hl:l.length≤4294967296):sub l (i64.wrap ((k:Int)+1)) (l.length:Int)=some (l.drop (k+1)):=by
  have w1:i64.wrap ((k:Int)+1)=((k+1:Nat):Int):=by rw [wi (by omega)];omega
  rw [w1,qZ _ _ _ (by omega)];congr 1
  rw [List.take_of_length_le];rfl
  rw [List.length_drop];omega
theorem aI2 {a:List l08Arm} {t:Rat} (ht:VZ t) (ha:∀ x ∈ a,tF x) (hl:a.length≤100):lp (dK a t) (0,[])=some (iA t a):=by
  have main:∀ m k:Nat,m+k=a.length→∀ acc:List Link,acc.length≤100*k→lp (dK a t) ((k:Int),acc)=some (acc++iA t (a.drop k)):=by
    intro m
    induction m with
    | zero =>
      intro k hk acc hacc
      rw [List.drop_eq_nil_of_le (by omega),iA,List.append_nil]
      exact aH (by unfold dK;simp only [];rw [if_neg (by omega)])
    | succ m ih =>
      intro k hk acc hacc
      have hlt:k < a.length:=by omega
      have w1:i64.wrap ((k:Int)+1)=((k+1:Nat):Int):=by rw [wi (by omega)];omega
      rw [List.drop_eq_getElem_cons hlt,iA]
      have row:=aKF (r:=a.drop (k+1)) ht (ha _ (List.getElem_mem hlt)) (fun y hy=>ha y (List.mem_of_mem_drop hy)) (by rw [List.length_drop];omega) acc (by omega)
      have st:dK a t ((k:Int),acc)=some (.inl (((k+1:Nat):Int),acc++(a.drop (k+1)).map (tD t a[k]))):=by
        unfold dK
        simp only []
        rw [if_pos (by omega),aF hlt,aK3 a k (by omega) (by omega)]
        simp only [Option.bind_some,row,w1]
      rw [aQ st,ih (k+1) (by omega) _ (by rw [List.length_append,List.length_map,List.length_drop];omega),List.append_assoc]
  have:=main a.length 0 (by omega) [] (by simp)
  rw [show ((0:Nat):Int)=0 from rfl,List.drop_zero,List.nil_append] at this
  exact this
theorem aGY {v:Int} {a:List l08Arm} (ha:∀ x ∈ a,tF x) (hl:a.length≤100):aS (aBx v a)≤4294967296:=by
  have h1:=oJ (yU ha)
  have h2:mI (a.map (fQ (qD a)))≤145*(a.map (fQ (qD a))).length:=aCx (c:=144) (fun p hp=>by
    obtain ⟨x,hx,rfl⟩:=List.mem_map.1 hp
    have ho:=ha x hx
    have g1:=oJ (aFe ho.2.1 (yU ha)).2.2
    have g2:=oJ ho.2.2.1
    have g3:=oJ ho.2.2.2
    unfold iX fQ;simp only [];omega)
  rw [List.length_map] at h2
  unfold aS aBx;simp only [];omega
theorem aM0 {s:List Link} (hs:LSet s) (v:Int):jS s v=some (pkE (wL v s)):=by
  have ha:=aE7 hs v
  have hl:=aA8 hs v
  have ht:=yU ha
  obtain ⟨b,b1,b2,_⟩:=aJ5 _ (aGY (v:=v) ha hl)
  have inc:=aKN hs v
  unfold jS
  rw [kY s (by have:=hs.sz;omega),decide_eq_true hs,zN]
  simp only [Option.bind_some,if_true]
  by_cases c:1≤v∧v≤9
  · rw [decide_eq_true c]
    simp only [Bool.not_true,Bool.false_eq_true,if_false]
    rw [aOb hs v,bS 0 (by omega)]
    simp only [Option.bind_some]
    rw [aKE ha hl]
    simp only [Option.bind_some]
    rw [aKG ht ha hl]
    simp only [Option.bind_some]
    rw [aI2 ht ha hl]
    simp only [Option.bind_some]
    have e:(Conditional.mk v (qD (bK v s)) ((bK v s).map (fQ (qD (bK v s)))))=aBx v (bK v s):=rfl
    rw [e,b1]
    simp only [Option.bind_some]
    have hms:=aCx (aJK ht ha)
    have hml:=aEv (qD (bK v s)) (a:=bK v s) (Nat.le_refl _)
    have hm2:(bK v s).length*(bK v s).length≤100*100:=Nat.mul_le_mul hl hl
    rw [kY _ (by unfold aG;omega)]
    cases b with
    | false =>
      have:¬condOk v (bK v s):=by unfold condOk;rw [b1];simp
      rw [aA4 (fun h=>this h.2.1)];rfl
    | true =>
      have hc:condOk v (bK v s):=b1
      simp only [if_true,Option.bind_some]
      by_cases d:∀ x ∈ iA (qD (bK v s)) (bK v s),ValidL x
      · rw [decide_eq_true ((aFW inc).2 d),aGW ⟨c,hc,d⟩];rfl
      · rw [decide_eq_false (fun h=>d ((aFW inc).1 h)),aA4 (fun h=>d h.2.2)];rfl
  · rw [decide_eq_false c]
    rw [aA4 (fun h=>c h.1)];rfl
def wA (a:l08Arm):Parent:=⟨a.fnode,nC,a.fdx,a.fdy⟩
theorem aJg (v:Int) (s:List Link) (k:Nat) (hk:k < s.length):bK v (s.take (k+1))=bK v (s.take k)++(if tch v s[k] then [aAh v s[k]] else []):=by
  have tk:s.take (k+1)=s.take k++[s[k]]:=by rw [List.take_add_one,List.getElem?_eq_getElem hk];rfl
  unfold bK
  rw [tk,List.filter_append,List.map_append]
  congr 1
  by_cases c:tch v s[k] <;> simp [c]
theorem aI4 {s:List Link} (hs:LSet s) (v:Int):lp (dO s v) (0,pZ 0,[],[])=some (qD (bK v s),(bK v s).map (·.fweight),(bK v s).map wA):=by
  have hlen:=hs.len
  have hpre:∀ k,∀ a ∈ bK v (s.take k),tF a:=fun k a ha=>by
    obtain ⟨l,hl,rfl⟩:=List.mem_map.1 ha
    exact aIc (hs.1 l (List.mem_of_mem_take (List.mem_filter.1 hl).1))
  have hpl:∀ k,(bK v (s.take k)).length≤100:=fun k=>by
    have:=List.length_filter_le (tch v) (s.take k)
    have h2:(s.take k).length≤s.length:=by rw [List.length_take];omega
    unfold bK;rw [List.length_map];omega
  have main:∀ m k:Nat,m+k=s.length→lp (dO s v) ((k:Int),qD (bK v (s.take k)),(bK v (s.take k)).map (·.fweight),(bK v (s.take k)).map wA)=some (qD (bK v s),(bK v s).map (·.fweight),(bK v s).map wA):=by
    intro m
    induction m with
    | zero =>
      intro k hk
      rw [List.take_of_length_le (by omega)]
      exact aH (by unfold dO;simp only [];rw [if_neg (by omega)])
    | succ m ih =>
      intro k hk
      have hlt:k < s.length:=by omega
      have w1:i64.wrap ((k:Int)+1)=((k+1:Nat):Int):=by rw [wi (by omega)];omega
      have hv:=hs.1 _ (List.getElem_mem hlt)
      obtain ⟨v1,v2,v3⟩:=hv.vz
      have n1:=(aKS v2).2.1
      have n2:=(aKS v3).2.1
      have ra:=(aAO (yU (hpre k)) v1).2.1
      have hp:=hpl k
      have st:dO s v ((k:Int),qD (bK v (s.take k)),(bK v (s.take k)).map (·.fweight),(bK v (s.take k)).map wA)=some (.inl (((k+1:Nat):Int),qD (bK v (s.take (k+1))),(bK v (s.take (k+1))).map (·.fweight),(bK v (s.take (k+1))).map wA)):=by
        rw [aJg v s k hlt]
        unfold dO
        simp only []
        rw [if_pos (by omega),aF hlt]
        simp only [Option.bind_some,n1,n2,ra,w1]
        have k1:∀ {α:Type} {f:l08Arm→α},((bK v (s.take k)).map f).length≤100:=by intro α f;rw [List.length_map];exact hp
        by_cases A:(s[k]).fA=v
        · rw [if_pos A,aN (by have:=k1 (f:=wA);omega)]
          simp only [Option.bind_some,tN]
          rw [aN (by have:=k1 (f:=fun a=>a.fweight);omega)]
          simp [tch,A,aAh,qD,wA,nC,ra]
        · by_cases B:(s[k]).fB=v
          · rw [if_neg A,if_pos B,aN (by have:=k1 (f:=wA);omega)]
            simp only [Option.bind_some,tN]
            rw [aN (by have:=k1 (f:=fun a=>a.fweight);omega)]
            simp [tch,A,B,aAh,qD,wA,nC,ra]
          · simp [tch,A,B]
      rw [aQ st]
      exact ih (k+1) (by omega)
  have:=main s.length 0 (by omega)
  simpa [bK,qD] using this
theorem aKI {a:List l08Arm} {t:Rat} (ht:VZ t) (ha:∀ x ∈ a,tF x) (hl:a.length≤100):lp (dN (t,a.map (·.fweight),a.map wA)) (0,a.map wA)=some (a.map (fQ t)):=by
  have main:∀ m k:Nat,m+k=a.length→lp (dN (t,a.map (·.fweight),a.map wA)) ((k:Int),(a.take k).map (fQ t)++(a.drop k).map wA)=some (a.map (fQ t)):=by
    intro m
    induction m with
    | zero =>
      intro k hk
      refine aH ?_
      unfold dN
      simp only [List.length_map]
      rw [if_neg (by omega),List.drop_eq_nil_of_le (by omega),List.take_of_length_le (by omega)]
      simp
    | succ m ih =>
      intro k hk
      have hlt:k < a.length:=by omega
      have w1:i64.wrap ((k:Int)+1)=((k+1:Nat):Int):=by rw [wi (by omega)];omega
      have ho:=ha _ (List.getElem_mem hlt)
      have q:=(aFe ho.2.1 ht).2.1
      have tl:((a.take k).map (fQ t)).length=k:=by rw [List.length_map,List.length_take];omega
      have e1:idx (a.map (fun x=>x.fweight)) (k:Int)=some (a[k]).fweight:=by rw [aF (by rwa [List.length_map]),List.getElem_map]
      have e2:idx ((a.take k).map (fQ t)++(a.drop k).map wA) (k:Int)=some (wA a[k]):=by
        rw [aGS,List.getElem?_append_right (by omega),tl,Nat.sub_self,List.drop_eq_getElem_cons hlt];rfl
      have e3:wU ((a.take k).map (fQ t)++(a.drop k).map wA) (k:Int) (fQ t a[k])=(a.take (k+1)).map (fQ t)++(a.drop (k+1)).map wA:=by
        rw [sH,List.set_append_right _ _ (by omega),tl,Nat.sub_self,List.drop_eq_getElem_cons hlt,List.map_cons,List.set_cons_zero,List.take_add_one,List.getElem?_eq_getElem hlt,List.map_append,List.append_assoc]
        rfl
      have st:dN (t,a.map (·.fweight),a.map wA) ((k:Int),(a.take k).map (fQ t)++(a.drop k).map wA)=some (.inl (((k+1:Nat):Int),(a.take (k+1)).map (fQ t)++(a.drop (k+1)).map wA)):=by
        unfold dN
        simp only [List.length_map]
        rw [if_pos (by omega),e1]
        simp only [Option.bind_some,q,e2,tN,w1]
        have:(Parent.mk (wA a[k]).fNode (RD (a[k]).fweight t) (wA a[k]).fDX (wA a[k]).fDY)=fQ t a[k]:=rfl
        rw [this,e3]
      rw [aQ st]
      exact ih (k+1) (by omega)
  have:=main a.length 0 (by omega)
  simpa using this
def aD9 (t:Rat) (x:l08Arm) (r:List l08Arm):Prop:=∀ y ∈ r,ValidL (tD t x y)
noncomputable instance (t:Rat) (x:l08Arm) (r:List l08Arm):Decidable (aD9 t x r):=Classical.propDecidable _
theorem aKH {a:List l08Arm} {t:Rat} (ht:VZ t) (ha:∀ x ∈ a,tF x) (hl:a.length≤100) (q0:List Parent) (i:Nat) (hi:i < a.length):∀ m j:Nat,m+j=a.length→∀ acc:List Link,acc.length≤1000000+j →
    lp (fE (a.map (fQ t)) (t,a.map (·.fweight),q0) (i:Int) (fQ t a[i])) ((j:Int),acc)=some (if aD9 t a[i] (a.drop j) then .inl (acc++(a.drop j).map (tD t a[i])) else .inr (aDQ,[],false)):=by
  intro m
  induction m with
  | zero =>
    intro j hj acc hacc
    rw [List.drop_eq_nil_of_le (by omega),if_pos (by intro y hy;cases hy),List.map_nil,List.append_nil]
    exact aH (by unfold fE;simp only [List.length_map];rw [if_neg (by omega)])
  | succ m ih =>
    intro j hj acc hacc
    have hlt:j < a.length:=by omega
    have w1:i64.wrap ((j:Int)+1)=((j+1:Nat):Int):=by rw [wi (by omega)];omega
    have hx:=ha _ (List.getElem_mem hi)
    have ho:=ha _ (List.getElem_mem hlt)
    have p0:=aDE hx.2.1 ho.2.1
    have p1:=(aFe p0.2.2 ht).2.1
    have p2:=(aG6 hx.2.2.1 ho.2.2.1).2.1
    have p3:=(aG6 hx.2.2.2 ho.2.2.2).2.1
    have vl:=(hC (tD t a[i] a[j]) (by have:=aHE ht hx ho;omega)).2
    have e0:idx (a.map (fQ t)) (j:Int)=some (fQ t a[j]):=by rw [aF (by rwa [List.length_map]),List.getElem_map]
    have e1:idx (a.map (fun x=>x.fweight)) (i:Int)=some (a[i]).fweight:=by rw [aF (by rwa [List.length_map]),List.getElem_map]
    have e2:idx (a.map (fun x=>x.fweight)) (j:Int)=some (a[j]).fweight:=by rw [aF (by rwa [List.length_map]),List.getElem_map]
    have st:fE (a.map (fQ t)) (t,a.map (·.fweight),q0) (i:Int) (fQ t a[i]) ((j:Int),acc)=some (if ValidL (tD t a[i] a[j]) then .inl (((j+1:Nat):Int),acc++[tD t a[i] a[j]]) else .inr (.inr (aDQ,[],false))):=by
      unfold fE
      simp only [List.length_map]
      rw [if_pos (by omega),e0,e1,e2]
      simp only [Option.bind_some,p0.2.1,p1,w1]
      have f1:(fQ t a[i]).fDX=(a[i]).fdx:=rfl
      have f2:(fQ t a[i]).fDY=(a[i]).fdy:=rfl
      have f3:(fQ t a[j]).fDX=(a[j]).fdx:=rfl
      have f4:(fQ t a[j]).fDY=(a[j]).fdy:=rfl
      rw [f1,f2,f3,f4,p2]
      simp only [Option.bind_some]
      rw [p3]
      simp only [Option.bind_some]
      have f5:(Link.mk (fQ t a[i]).fNode (fQ t a[j]).fNode (RD (RM (a[i]).fweight (a[j]).fweight) t) (RS (a[i]).fdx (a[j]).fdx) (RS (a[i]).fdy (a[j]).fdy))=tD t a[i] a[j]:=rfl
      rw [f5,vl]
      simp only [Option.bind_some]
      by_cases c:ValidL (tD t a[i] a[j])
      · rw [decide_eq_true c,if_pos rfl,if_pos c,aN (by omega)];rfl
      · rw [decide_eq_false c,if_neg c];rfl
    rw [List.drop_eq_getElem_cons hlt]
    by_cases c:ValidL (tD t a[i] a[j])
    · rw [if_pos c] at st
      rw [aQ st,ih (j+1) (by omega) _ (by rw [List.length_append,List.length_singleton];omega)]
      have:aD9 t a[i] (a[j]::a.drop (j+1))↔aD9 t a[i] (a.drop (j+1)):=⟨fun h x hx'=>h x (List.mem_cons_of_mem _ hx'),fun h x hx'=>by rcases List.mem_cons.1 hx' with rfl | h';exact c;exact h x h'⟩
      simp only [this,List.map_cons,List.append_assoc,List.singleton_append]
    · rw [if_neg c] at st
      rw [aH st,if_neg (fun h=>c (h _ List.mem_cons_self))]
theorem aI3 {a:List l08Arm} {t:Rat} (ht:VZ t) (ha:∀ x ∈ a,tF x) (hl:a.length≤100) (q0:List Parent):lp (dM (a.map (fQ t)) (t,a.map (·.fweight),q0)) (0,[])=some (if ∀ x ∈ iA t a,ValidL x then .inl (iA t a) else .inr (aDQ,[],false)):=by
  have main:∀ m k:Nat,m+k=a.length→∀ acc:List Link,acc.length≤100*k→lp (dM (a.map (fQ t)) (t,a.map (·.fweight),q0)) ((k:Int),acc)=some (if ∀ x ∈ iA t (a.drop k),ValidL x then .inl (acc++iA t (a.drop k)) else .inr (aDQ,[],false)):=by
    intro m
    induction m with
    | zero =>
      intro k hk acc hacc
      rw [List.drop_eq_nil_of_le (by omega),if_pos (by simp [iA]),iA,List.append_nil]
      exact aH (by unfold dM;simp only [List.length_map];rw [if_neg (by omega)])
    | succ m ih =>
      intro k hk acc hacc
      have hlt:k < a.length:=by omega
      have w1:i64.wrap ((k:Int)+1)=((k+1:Nat):Int):=by rw [wi (by omega)];omega
      have e0:idx (a.map (fQ t)) (k:Int)=some (fQ t a[k]):=by rw [aF (by rwa [List.length_map]),List.getElem_map]
      have row:=aKH ht ha hl q0 k hlt (a.length - (k+1)) (k+1) (by omega) acc (by omega)
      rw [List.drop_eq_getElem_cons hlt,iA]
      have st:dM (a.map (fQ t)) (t,a.map (·.fweight),q0) ((k:Int),acc)=some (if aD9 t a[k] (a.drop (k+1)) then .inl (((k+1:Nat):Int),acc++(a.drop (k+1)).map (tD t (a[k]'hlt))) else .inr (.inr (aDQ,[],false))):=by
        unfold dM
        simp only [List.length_map]
        rw [if_pos (by omega),e0]
        simp only [Option.bind_some,w1,row]
        by_cases c:aD9 t a[k] (a.drop (k+1))
        · rw [if_pos c,if_pos c]
        · rw [if_neg c,if_neg c]
      by_cases c:aD9 t a[k] (a.drop (k+1))
      · rw [if_pos c] at st
        rw [aQ st,ih (k+1) (by omega) _ (by rw [List.length_append,List.length_map,List.length_drop];omega)]
        have:(∀ x ∈ (a.drop (k+1)).map (tD t a[k])++iA t (a.drop (k+1)),ValidL x)↔∀ x ∈ iA t (a.drop (k+1)),ValidL x:=⟨fun h x hx=>h x (List.mem_append_right _ hx),fun h x hx=>by
          rcases List.mem_append.1 hx with hx | hx
          · obtain ⟨y,hy,rfl⟩:=List.mem_map.1 hx;exact c y hy
          · exact h x hx⟩
        simp only [this,List.append_assoc]
      · rw [if_neg c] at st
        rw [aH st,if_neg]
        intro h
        exact c fun y hy=>h _ (List.mem_append_left _ (List.mem_map.2 ⟨y,hy,rfl⟩))
  have:=main a.length 0 (by omega) [] (by simp)
  rw [show ((0:Nat):Int)=0 from rfl,List.drop_zero,List.nil_append] at this
  exact this
theorem aM1 {s:List Link} (hs:LSet s) (v:Int):jZ s v=some (pkE (wL v s)):=by
  have ha:=aE7 hs v
  have hl:=aA8 hs v
  have ht:=yU ha
  obtain ⟨b,b1,b2,_⟩:=aJ5 _ (aGY (v:=v) ha hl)
  unfold jZ
  have e0:((if v < 1 then some true else some (decide (10≤v))):Option Bool)=some (!decide (1≤v∧v≤9)):=by
    by_cases A:v < 1
    · have:¬1≤v:=by omega
      simp [A,this]
    · by_cases B:10≤v
      · have:¬v≤9:=by omega
        simp [A,B,this]
      · have h1:1≤v:=by omega
        have h2:v≤9:=by omega
        simp [A,B,h1,h2]
  rw [e0]
  simp only [Option.bind_some]
  by_cases c:1≤v∧v≤9
  · rw [decide_eq_true c]
    simp only [Bool.not_true,Bool.false_eq_true,if_false]
    rw [kX 0 (by omega)]
    simp only [Option.bind_some]
    rw [aI4 hs v]
    simp only [Option.bind_some]
    rw [aKI ht ha hl]
    simp only [Option.bind_some]
    have e:(Conditional.mk v (qD (bK v s)) ((bK v s).map (fQ (qD (bK v s)))))=aBx v (bK v s):=rfl
    rw [e,b2]
    simp only [Option.bind_some]
    cases b with
    | false =>
      have:¬condOk v (bK v s):=by unfold condOk;rw [b1];simp
      rw [aA4 (fun h=>this h.2.1)];rfl
    | true =>
      have hc:condOk v (bK v s):=b1
      simp only [if_true]
      rw [aI3 ht ha hl]
      by_cases d:∀ x ∈ iA (qD (bK v s)) (bK v s),ValidL x
      · rw [if_pos d,aGW ⟨c,hc,d⟩];rfl
      · rw [if_neg d,aA4 (fun h=>d h.2.2)];rfl
  · rw [decide_eq_false c]
    rw [aA4 (fun h=>c h.1)];rfl
end Go.Ev
/- Reducing a node of a link set and a node of a tree, both programs. -/
namespace Go.Ev
set_option linter.all false
theorem wi1 {k:Nat} (h:k≤4294967296):IntKind.i64.wrap ((k:Int)+1)=((k+1:Nat):Int):=by rw [wi (by omega)];omega
def xD (v:Int) (s:List Link):List Link:=s.filter (fun l=>!tch v l)
theorem vM {α:Type} (p:α→Bool):∀ (l t:List α),l.foldl (fun t x=>if p x=true then t++[x] else t) t=t++l.filter p
  | [],t=>by simp
  | x::l,t=>by
    rw [List.foldl_cons,vM p l,List.filter_cons]
    by_cases c:p x=true
    · simp only [c,if_true,List.append_assoc,List.singleton_append]
    · simp only [Bool.not_eq_true] at c;simp [c]
theorem aNm (v:Int) (l:Link):((if l.fA≠v then some (decide (l.fB≠v)) else some false):Option Bool)=some (!tch v l):=by
  unfold tch;by_cases A:l.fA=v <;> by_cases B:l.fB=v <;> simp [A,B]
theorem aKc {s:List Link} (h:s.length≤4294967296) (v:Int):lV s v=some (xD v s):=by
  have:=(lU (step:=jB s v) s (fun k t=>((k:Int),t)) (fun t x=>if (fun l=>!tch v l) x=true then t++[x] else t) (fun t=>t) (fun k t=>t.length≤k) (fun k t hk hi=>by
    constructor
    · unfold jB
      simp only []
      rw [if_pos (by omega),aF hk]
      simp only [Option.bind_some,aNm,wi1 (by omega:k≤4294967296)]
      by_cases c:tch v s[k]=true
      · rw [if_neg (by simp [c]),if_neg (by simp [c])]
      · rw [if_pos (by simpa using c),if_pos (by simpa using c),aN (by omega)];rfl
    · simp only [];split
      · rw [List.length_append,List.length_singleton];omega
      · omega) (fun t _=>by unfold jB;simp only [];rw [if_neg (by omega)]) [] (Nat.zero_le _)).1
  rw [show ((0:Nat):Int)=0 from rfl,vM,List.nil_append] at this
  unfold lV
  rw [this];rfl
theorem aKR {s:List Link} (hs:LSet s) (v:Int):lP s v=some (xD v s):=by
  have hl:=hs.len
  have:=(lU (step:=iZ s v) s (fun k t=>((k:Int),t)) (fun t x=>if (fun l=>!tch v l) x=true then t++[x] else t) (fun t=>t) (fun k t=>t.length≤k) (fun k t hk hi=>by
    constructor
    · unfold iZ
      simp only []
      rw [if_pos (by omega),aF hk]
      have cp:=sF s[k] (by have:=(hs.1 _ (List.getElem_mem hk)).sz;omega)
      simp only [Option.bind_some,aNm,wi1 (by omega:k≤4294967296),cp]
      by_cases c:tch v s[k]=true
      · rw [if_neg (by simp [c]),if_neg (by simp [c])]
      · rw [if_pos (by simpa using c),if_pos (by simpa using c),aN (by omega)];rfl
    · simp only [];split
      · rw [List.length_append,List.length_singleton];omega
      · omega) (fun t _=>by unfold iZ;simp only [];rw [if_neg (by omega)]) [] (Nat.zero_le _)).1
  rw [show ((0:Nat):Int)=0 from rfl,vM,List.nil_append] at this
  unfold lP
  rw [kY s (by have:=hs.sz;omega),decide_eq_true hs]
  simp only [Option.bind_some,if_true,this]
  rfl
noncomputable def aCz (v:Int) (s:List Link):Option (Conditional × List Link × Rat) :=
  (wL v s).bind fun x=>(jnP (xD v s++x.2)).map fun y=>(x.1,y.1,y.2)
def pkR:Option (Conditional × List Link × Rat)→Conditional × List Link × Rat × Bool
  | some (c,m,e)=>(c,m,e,true)
  | none=>(aDQ,[],nC,false)
theorem aH2 {v:Int} {s:List Link} (hs:LSet s) {c:Conditional} {m:List Link} (h:wL v s=some (c,m)):(∀ x ∈ m,ValidL x)∧m.length≤10000∧aS c≤20000∧(1≤v∧v≤9):=by
  unfold wL at h
  split at h
  · rename_i g
    cases h
    have ha:=aE7 hs v
    have hl:=aA8 hs v
    have h1:=aEv (qD (bK v s)) (a:=bK v s) (Nat.le_refl _)
    have h2:(bK v s).length*(bK v s).length≤100*100:=Nat.mul_le_mul hl hl
    have g1:=oJ (yU ha)
    have g2:mI ((bK v s).map (fQ (qD (bK v s))))≤145*((bK v s).map (fQ (qD (bK v s)))).length:=aCx (c:=144) (fun p hp=>by
      obtain ⟨x,hx,rfl⟩:=List.mem_map.1 hp
      have ho:=ha x hx
      have g1:=oJ (aFe ho.2.1 (yU ha)).2.2
      have g2:=oJ ho.2.2.1
      have g3:=oJ ho.2.2.2
      unfold iX fQ;simp only [];omega)
    rw [List.length_map] at g2
    refine ⟨g.2.2,by omega,?_,g.1⟩
    unfold aS aBx;simp only [];omega
  · cases h
theorem aLg {v:Int} {s:List Link} (hs:LSet s):(∀ x ∈ xD v s,ValidL x)∧(xD v s).length≤100:=by
  have:=List.length_filter_le (fun l=>!tch v l) s
  have:=hs.len
  exact ⟨fun x hx=>hs.1 x (List.mem_filter.1 hx).1,by unfold xD;omega⟩
theorem aEe {s:List Link} (hs:LSet s) (v:Int):nH s v=some (pkR (aCz v s))∧nR s v=some (pkR (aCz v s)):=by
  unfold nH nR aCz
  rw [aM0 hs,aM1 hs]
  cases h:wL v s with
  | none=>exact ⟨rfl,rfl⟩
  | some x =>
    obtain ⟨c,m⟩:=x
    obtain ⟨m1,m2,m3,_⟩:=aH2 hs h
    obtain ⟨r1,r2⟩:=aLg (v:=v) hs
    have hall:∀ x ∈ xD v s++m,ValidL x:=fun x hx=>(List.mem_append.1 hx).elim (r1 x) (m1 x)
    have hlen:(xD v s++m).length≤20000:=by rw [List.length_append];omega
    have hsz:=aAR hall
    have j1:=(xK (xD v s++m) (by omega)).1
    have j2:=aAE hall (by omega)
    simp only [pkE,Option.bind_some,if_true]
    rw [aKR hs,aKc (by have:=hs.len;omega)]
    simp only [Option.bind_some]
    rw [aN (by omega)]
    simp only [Option.bind_some,tN,j1,j2]
    cases jnP (xD v s++m) with
    | none=>exact ⟨rfl,rfl⟩
    | some y=>exact ⟨rfl,rfl⟩
theorem aGB {v:Int} {s:List Link} (hs:LSet s) {c:Conditional} {m:List Link} {e:Rat} (h:aCz v s=some (c,m,e)):aS c≤20000∧LSet m∧bJ e∧c.fNode=v:=by
  unfold aCz at h
  cases h1:wL v s with
  | none=>rw [h1] at h;cases h
  | some x =>
    rw [h1] at h
    cases h2:jnP (xD v s++x.2) with
    | none=>rw [Option.bind_some,h2] at h;cases h
    | some y =>
      rw [Option.bind_some,h2] at h
      cases h
      have:=aBG (s:=y.1) (e:=y.2) h2
      refine ⟨(aH2 hs (c:=x.1) (m:=x.2) h1).2.2.1,this.2.1,this.2.2,?_⟩
      unfold wL at h1
      split at h1
      · cases h1;rfl
      · cases h1
end Go.Ev
/- A node of a tree, both programs. -/
namespace Go.Ev
open IntKind
set_option linter.all false
def aY (l s:List Int):Int:=(l.find? (fun u=>decide (u ∈ s))).getD 0
theorem aJY (l s:List Int) (hl:l.length≤4294967296) (hs:s.length≤4294967296):oA l s=some (aY l s):=by
  have main:∀ m k:Nat,m+k=l.length→lp (gO l s) (k:Int)=some (match (l.drop k).find? (fun u=>decide (u ∈ s)) with | some x=>.inr x | none=>.inl ()):=by
    intro m
    induction m with
    | zero =>
      intro k hk
      have:k=l.length:=by omega
      subst this
      rw [aH (r:=.inl ()) (by unfold gO;rw [if_neg (by omega)]),List.drop_length];rfl
    | succ m ih =>
      intro k hk
      have hlt:k < l.length:=by omega
      rw [List.drop_eq_getElem_cons hlt,List.find?_cons]
      by_cases c:l[k] ∈ s
      · rw [aH (r:=.inr l[k]) (by unfold gO;rw [if_pos (by omega),aF hlt];simp [aCg s _ hs,c])];simp [c]
      · have e:gO l s (k:Int)=some (.inl ((k+1:Nat):Int)):=by
          unfold gO;rw [if_pos (by omega),aF hlt];simp only [Option.bind_some,aCg s _ hs,wi1 (by omega:k≤4294967296)];simp [c]
        rw [aQ e,ih (k+1) (by omega)]
        simp only [c,decide_false]
  have:=main l.length 0 (by omega)
  rw [show ((0:Nat):Int)=0 from rfl,List.drop_zero] at this
  unfold oA aY
  rw [this]
  cases l.find? (fun u=>decide (u ∈ s)) <;> rfl
def aBb (c:Conditional):List Int:=c.fParents.map (·.fNode)
def upP (order:List Int) (c:Conditional):Int:=aY order (aBb c)
theorem aEU {α:Type} {p q:α→Bool}:∀ {l:List α},(∀ x ∈ l,p x=q x)→l.find? p=l.find? q
  | [],_=>rfl
  | x::l,h=>by rw [List.find?_cons,List.find?_cons,h x (by simp),aEU (fun y hy=>h y (by simp [hy]))]
theorem aPi {order:List Int} {c:Conditional} (ho:∀ u ∈ order,1≤u) (hl:order.length≤4294967296) (hc:c.fParents.length≤4294967296):vT order c=some (upP order c):=by
  have:=(lU (step:=qF c) c.fParents (fun k t=>((k:Int),t)) (fun t x=>if (fun p:Parent=>decide (0 < p.fNode)) x=true then t++[x.fNode] else t) (fun t=>t) (fun k t=>t.length≤k) (fun k t hk hi=>by
    constructor
    · unfold qF
      simp only []
      rw [if_pos (by omega),aF hk]
      simp only [Option.bind_some,wi1 (by omega:k≤4294967296)]
      by_cases c0:0 < (c.fParents[k]).fNode
      · rw [if_pos c0,if_pos (by simpa using c0),aN (by omega)];rfl
      · rw [if_neg c0,if_neg (by simpa using c0)]
    · simp only [];split
      · rw [List.length_append,List.length_singleton];omega
      · omega) (fun t _=>by unfold qF;simp only [];rw [if_neg (by omega)]) [] (Nat.zero_le _)).1
  rw [show ((0:Nat):Int)=0 from rfl] at this
  have e:∀ (l:List Parent) (t:List Int),l.foldl (fun t x=>if (fun p:Parent=>decide (0 < p.fNode)) x=true then t++[x.fNode] else t) t=t++(l.filter (fun p=>decide (0 < p.fNode))).map (·.fNode):=by
    intro l
    induction l with
    | nil=>intro t;simp
    | cons x l ih =>
      intro t
      rw [List.foldl_cons,ih,List.filter_cons]
      by_cases c0:0 < x.fNode <;> simp [c0]
  rw [e,List.nil_append] at this
  unfold vT
  rw [this]
  simp only [Option.bind_some]
  have hf:=List.length_filter_le (fun p:Parent=>decide (0 < p.fNode)) c.fParents
  rw [aJY _ _ hl (by rw [List.length_map];omega)]
  simp only [Option.bind_some]
  congr 1
  unfold upP aY
  congr 1
  refine aEU fun u hu=>?_
  have:=ho u hu
  rw [Bool.eq_iff_iff,decide_eq_true_iff,decide_eq_true_iff]
  unfold aBb
  simp only [List.mem_map,List.mem_filter,decide_eq_true_eq]
  constructor
  · rintro ⟨p,⟨h1,_⟩,rfl⟩;exact ⟨p,h1,rfl⟩
  · rintro ⟨p,h1,rfl⟩;exact ⟨p,⟨h1,by omega⟩,rfl⟩
theorem aC7 (c:Conditional) (v:Int) (h:c.fParents.length≤4294967296):pG c v=some (decide (v ∈ aBb c)):=by
  have main:∀ m k:Nat,m+k=c.fParents.length→lp (gH c v) (k:Int)=some (if v ∈ (c.fParents.drop k).map (·.fNode) then .inr true else .inl ()):=by
    intro m
    induction m with
    | zero =>
      intro k hk
      have:k=c.fParents.length:=by omega
      subst this
      rw [aH (r:=.inl ()) (by unfold gH;rw [if_neg (by omega)]),List.drop_length];simp
    | succ m ih =>
      intro k hk
      have hlt:k < c.fParents.length:=by omega
      rw [List.drop_eq_getElem_cons hlt,List.map_cons]
      by_cases d:(c.fParents[k]).fNode=v
      · rw [aH (r:=.inr true) (by unfold gH;rw [if_pos (by omega),aF hlt];simp [d]),if_pos (by simp [d])]
      · have e:gH c v (k:Int)=some (.inl ((k+1:Nat):Int)):=by
          unfold gH;rw [if_pos (by omega),aF hlt];simp only [Option.bind_some,wi1 (by omega:k≤4294967296)];rw [if_neg d]
        rw [aQ e,ih (k+1) (by omega)]
        have:(v ∈ (c.fParents[k]).fNode::(c.fParents.drop (k+1)).map (·.fNode))↔v ∈ (c.fParents.drop (k+1)).map (·.fNode):=by
          rw [List.mem_cons];exact ⟨fun h=>h.resolve_left (fun e=>d e.symm),.inr⟩
        simp only [this]
  have:=main c.fParents.length 0 (by omega)
  rw [show ((0:Nat):Int)=0 from rfl,List.drop_zero] at this
  unfold pG aBb
  rw [this]
  by_cases d:v ∈ c.fParents.map (·.fNode)
  · rw [if_pos d,decide_eq_true d];rfl
  · rw [if_neg d,decide_eq_false d];rfl
theorem aOC (order:List Int) (v:Int) (own:List Link) (r:Conditional × List Link × Rat × Bool) (e:Rat) (hl:order.length≤4294967296) (hc:r.1.fParents.length≤4294967296):lp (eX order v own r e) 0=some (TreeNode.mk v (upP order r.1) own r.1 r.2.1 e):=by
  have main:∀ m k:Nat,m+k=order.length→lp (eX order v own r e) (k:Int)=some (TreeNode.mk v (aY (order.drop k) (aBb r.1)) own r.1 r.2.1 e):=by
    intro m
    induction m with
    | zero =>
      intro k hk
      have:k=order.length:=by omega
      subst this
      rw [aH (by unfold eX;rw [if_neg (by omega)]),List.drop_length];rfl
    | succ m ih =>
      intro k hk
      have hlt:k < order.length:=by omega
      rw [List.drop_eq_getElem_cons hlt]
      unfold aY
      rw [List.find?_cons]
      by_cases d:order[k] ∈ aBb r.1
      · rw [aH (r:=TreeNode.mk v order[k] own r.1 r.2.1 e) (by unfold eX;rw [if_pos (by omega),aF hlt];simp only [Option.bind_some,aC7 _ _ hc,decide_eq_true d,if_true])]
        simp [d]
      · have e:eX order v own r e (k:Int)=some (.inl ((k+1:Nat):Int)):=by
          unfold eX;rw [if_pos (by omega),aF hlt];simp only [Option.bind_some,aC7 _ _ hc,wi1 (by omega:k≤4294967296),decide_eq_false d,Bool.false_eq_true,if_false]
        rw [aQ e,ih (k+1) (by omega)]
        simp only [d,decide_false]
        rfl
  have:=main order.length 0 (by omega)
  rw [show ((0:Nat):Int)=0 from rfl,List.drop_zero] at this
  exact this
def zJ (v:Int) (b:List TreeNode):List Link:=(b.filter (fun n=>decide (n.fUp=v))).flatMap (·.fMessages)
theorem aHD (v:Int):∀ (b:List TreeNode) (t:List Link),b.foldl (fun t n=>if n.fUp=v then t++n.fMessages else t) t=t++zJ v b
  | [],t=>by simp [zJ]
  | n::b,t=>by
    rw [List.foldl_cons,aHD v b]
    unfold zJ
    rw [List.filter_cons]
    by_cases c:n.fUp=v <;> simp [c]
theorem aJG {v:Int}:∀ {b:List TreeNode},(∀ n ∈ b,LSet n.fMessages)→(zJ v b).length≤100*b.length
  | [],_=>by simp [zJ]
  | n::b,h=>by
    have:=aJG (v:=v) (b:=b) (fun m hm=>h m (by simp [hm]))
    have h1:=(h n (by simp)).len
    unfold zJ at this ⊢
    rw [List.filter_cons,List.length_cons]
    split
    · rw [List.flatMap_cons,List.length_append];omega
    · omega
theorem aKs {v:Int} {b:List TreeNode} (h:∀ n ∈ b,LSet n.fMessages):∀ x ∈ zJ v b,ValidL x:=by
  intro x hx
  unfold zJ at hx
  obtain ⟨n,hn,hx⟩:=List.mem_flatMap.1 hx
  exact (h n (List.mem_filter.1 hn).1).1 x hx
theorem aNs {step:(Int × List Link)→Option ((Int × List Link) ⊕ List Link)} (v:Int) (b:List TreeNode) (own:List Link) (ho:own.length≤4294967296) (hb:b.length≤4194304) (h:∀ n ∈ b,LSet n.fMessages)
    (hstep:step=fun s=>match s with | (v6,v7)=>(if (v6 < (b.length:Int)) then (idx b v6).bind fun y8=>(if (y8.fUp=v) then (chk ((v7.length+y8.fMessages.length)*184≤140737488355328)).bind fun _u=>(aZ (v7++y8.fMessages)).bind fun v10=>some (.inl (i64.wrap (v6+1),v10)) else some (.inl (i64.wrap (v6+1),v7))) else some (.inr v7))):lp step (0,own)=some (own++zJ v b):=by
  subst hstep
  have:=(lU (step:=fun s=>match s with | (v6,v7)=>(if (v6 < (b.length:Int)) then (idx b v6).bind fun y8=>(if (y8.fUp=v) then (chk ((v7.length+y8.fMessages.length)*184≤140737488355328)).bind fun _u=>(aZ (v7++y8.fMessages)).bind fun v10=>some (.inl (i64.wrap (v6+1),v10)) else some (.inl (i64.wrap (v6+1),v7))) else some (.inr v7))) b (fun k t=>((k:Int),t)) (fun t n=>if n.fUp=v then t++n.fMessages else t) (fun t=>t) (fun k t=>t.length≤4294967296+100*k) (fun k t hk hi=>by
    have hm:=(h _ (List.getElem_mem hk)).len
    constructor
    · simp only []
      rw [if_pos (by omega),aF hk]
      simp only [Option.bind_some,wi1 (by omega:k≤4294967296)]
      by_cases c:(b[k]).fUp=v
      · rw [if_pos c,if_pos c,aN (by omega)];rfl
      · rw [if_neg c,if_neg c]
    · split
      · rw [List.length_append];omega
      · omega) (fun t _=>by simp only [];rw [if_neg (by omega)]) own (by omega)).1
  rw [show ((0:Nat):Int)=0 from rfl,aHD] at this
  exact this
def aOA:TreeNode:=TreeNode.mk 0 0 ([]) (Conditional.mk 0 (Rat.mk (BigInt.mk false ([])) ([])) ([])) ([]) (Rat.mk (BigInt.mk false ([])) ([]))
noncomputable def qM (order:List Int) (v:Int) (own:List Link) (b:List TreeNode):Option TreeNode :=
  (jnP (own++zJ v b)).bind fun x=>(aCz v x.1).bind fun y=>if bJ (RA x.2 y.2.2) then some ⟨v,upP order y.1,own,y.1,y.2.1,RA x.2 y.2.2⟩ else none
def pkN:Option TreeNode→TreeNode × Bool
  | some n=>(n,true)
  | none=>(aOA,false)
theorem aJB {c:Conditional} (h:aS c≤20000):c.fParents.length≤20000:=by
  have:c.fParents.length≤mI c.fParents:=iL _ _
  unfold aS at h;omega
theorem aJs (a b:List Link):aG (a++b)=aG a+aG b:=by unfold aG szL;simp
theorem aLB {order:List Int} {v:Int} {own:List Link} {b:List TreeNode} (hl:order.length≤4194304) (ho:∀ u ∈ order,1≤u) (hz:aG own≤4194304) (hb:b.length≤100) (hm:∀ n ∈ b,LSet n.fMessages) (hv:∀ x ∈ own,ValidL x) :
    rZ v own order b=some (pkN (qM order v own b))∧pH ⟨b⟩ order v own=some (pkN (qM order v own b)):=by
  have hol:own.length≤4194304:=Nat.le_trans (iL _ _) hz
  have q1:=aNs (step:=uS v b) v b own (by omega) (by omega) hm rfl
  have q2:=aNs (step:=sU ⟨b⟩ v) v b own (by omega) (by omega) hm rfl
  have hmv:=aKs (v:=v) hm
  have hml:=aJG (v:=v) hm
  have hall:∀ x ∈ own++zJ v b,ValidL x:=fun x hx=>(List.mem_append.1 hx).elim (hv x) (hmv x)
  have hms:=aAR hmv
  have hsz:aG (own++zJ v b)≤4294967296:=by rw [aJs];omega
  have hln:(own++zJ v b).length≤4294967296:=by rw [List.length_append];omega
  have j1:=(xK (own++zJ v b) hsz).1
  have j2:=aAE hall hln
  unfold rZ pH qM
  rw [aBj own (by omega)]
  simp only [Option.bind_some,List.nil_append,List.length_nil]
  rw [aN (by omega),q1]
  simp only [Option.bind_some,tN]
  rw [q2,j1]
  simp only [Option.bind_some,j2]
  cases h:jnP (own++zJ v b) with
  | none =>
    simp only [pk,Option.bind_none,pkN]
    refine ⟨?_,rfl⟩
    rw [(aEe aAP v).1]
    have e0:bG (pkR (aCz v [])).2.2.1≤4294967296:=by
      cases h2:aCz v [] with
      | none=>exact VZs aBh
      | some y=>exact VZs (.inl (aGB aAP (c:=y.1) (m:=y.2.1) (e:=y.2.2) h2).2.2.1)
    simp only [Option.bind_some]
    rw [(aPr (VZs aBh) e0).1]
    rfl
  | some x =>
    obtain ⟨s,e⟩:=x
    obtain ⟨_,hs,he⟩:=aBG h
    simp only [pk,Option.bind_some,if_true]
    rw [(aEe hs v).1,(aEe hs v).2]
    simp only [Option.bind_some]
    cases h2:aCz v s with
    | none =>
      simp only [pkR,Option.bind_none,pkN]
      rw [(aAO (.inl he) aBh).1,(aAO (.inl he) aBh).2.1]
      exact ⟨rfl,rfl⟩
    | some y =>
      obtain ⟨c,m,f⟩:=y
      obtain ⟨k1,k2,k3,_⟩:=aGB hs h2
      have ra:=aAO (.inl he) (.inl k3)
      have hp:=aJB k1
      simp only [pkR,Option.bind_some,ra.1,ra.2.1,if_true]
      rw [dX _ (VZs ra.2.2),iT ra.2.2,aPi ho (by omega) (by omega),aOC order v own (c,m,f,true) (RA e f) (by omega) (by show c.fParents.length≤_;omega)]
      simp only [Option.bind_some]
      by_cases g:bJ (RA e f)
      · rw [decide_eq_true g,if_pos g];exact ⟨rfl,rfl⟩
      · rw [decide_eq_false g,if_neg g];exact ⟨rfl,rfl⟩
theorem aEo {order:List Int} {v:Int} {own:List Link} {b:List TreeNode} {n:TreeNode} (h:qM order v own b=some n):LSet n.fMessages∧n.fOwn=own∧aS n.fCond≤20000∧bJ n.fEnergy∧n.fNode=v∧n.fUp=upP order n.fCond:=by
  unfold qM at h
  cases h1:jnP (own++zJ v b) with
  | none=>rw [h1] at h;cases h
  | some x =>
    rw [h1,Option.bind_some] at h
    cases h2:aCz v x.1 with
    | none=>rw [h2] at h;cases h
    | some y =>
      rw [h2,Option.bind_some] at h
      obtain ⟨_,hs,he⟩:=aBG (s:=x.1) (e:=x.2) h1
      obtain ⟨k1,k2,k3,_⟩:=aGB hs (c:=y.1) (m:=y.2.1) (e:=y.2.2) h2
      split at h
      · rename_i g;cases h;exact ⟨k2,rfl,k1,g,rfl,rfl⟩
      · cases h
end Go.Ev
