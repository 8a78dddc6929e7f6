/- Parts PU5. -/
import Derived.Test.YtpeojhbicpjnfaaGreatPb2
set_option linter.all false
/- Covariances: relative variances, all variances, the extremes; the laws. -/
namespace Go.Ev
set_option linter.all false
noncomputable def kC (t:Tree):List Rat:=t.fNodes.map fun n=>yB t n.fNode n.fNode
theorem aI3 (t:Tree) (h:dA t≤4294967296):gT t=some (kC t)∧fH t=some (kC t):=by
  have hl:t.fNodes.length≤4294967296:=by
    have:=gR bG t.fNodes
    unfold dA cE at h;omega
  have main:∀ m k:Nat,m+k=t.fNodes.length→lp (eP t) ((k:Int),(t.fNodes.take k).map fun n=>yB t n.fNode n.fNode)=some (kC t)∧lp (eU t) ((k:Int),(t.fNodes.take k).map fun n=>yB t n.fNode n.fNode)=some (kC t):=by
    intro m
    induction m with
    | zero =>
      intro k hk
      obtain rfl:k=t.fNodes.length:=by omega
      rw [List.take_length]
      refine ⟨aY ?_,aY ?_⟩
      · unfold eP;simp only [];rw [if_neg (by omega)];rfl
      · unfold eU;simp only [];rw [if_neg (by omega)];rfl
    | succ m ih =>
      intro k hk
      have hlt:k < t.fNodes.length:=by omega
      have et:(t.fNodes.take (k+1)).map (fun n=>yB t n.fNode n.fNode)=(t.fNodes.take k).map (fun n=>yB t n.fNode n.fNode)++[yB t (t.fNodes[k]).fNode (t.fNodes[k]).fNode]:=by
        rw [List.take_add_one,List.getElem?_eq_getElem hlt,List.map_append];rfl
      obtain ⟨v1,v2⟩:=aJi t h (t.fNodes[k]).fNode
      have s1:eP t ((k:Int),(t.fNodes.take k).map fun n=>yB t n.fNode n.fNode)=some (.inl (((k+1:Nat):Int),(t.fNodes.take (k+1)).map fun n=>yB t n.fNode n.fNode)):=by
        unfold eP
        simp only []
        rw [if_pos (by omega),aT hlt]
        simp only [Option.bind_some]
        rw [v1]
        simp only [Option.bind_some]
        rw [bM (by simp;omega)]
        simp only [Option.bind_some]
        rw [aN,wi (by omega),et];rfl
      have s2:eU t ((k:Int),(t.fNodes.take k).map fun n=>yB t n.fNode n.fNode)=some (.inl (((k+1:Nat):Int),(t.fNodes.take (k+1)).map fun n=>yB t n.fNode n.fNode)):=by
        unfold eU
        simp only []
        rw [if_pos (by omega),aT hlt]
        simp only [Option.bind_some]
        rw [v2]
        simp only [Option.bind_some]
        rw [bM (by simp;omega)]
        simp only [Option.bind_some]
        rw [aN,wi (by omega),et];rfl
      rw [bI s1,bI s2]
      exact ih (k+1) (by omega)
  obtain ⟨g1,g2⟩:=main t.fNodes.length 0 (by omega)
  rw [List.take_zero,show ((0:Nat):Int)=0 from rfl] at g1 g2
  unfold gT fH
  exact ⟨by rw [show ([]:List Rat)=([]:List TreeNode).map (fun n=>yB t n.fNode n.fNode) from rfl,g1];rfl,by rw [show ([]:List Rat)=([]:List TreeNode).map (fun n=>yB t n.fNode n.fNode) from rfl,g2];rfl⟩
theorem aDv (t:Tree) (h:dA t≤4294967296):∀ r ∈ kC t,VZ r:=by
  intro r hr
  obtain ⟨n,_,rfl⟩:=List.mem_map.1 hr
  exact (aIe t h _ _).2.2
theorem aHi:∀ {l:List Rat},(∀ r ∈ l,VZ r)→sE l≤49*l.length
  | [],_=>by simp [sE,aBS]
  | r::l,h=>by
    have h1:=aGx (h r (by simp))
    have h2:=aHi (l:=l) fun x hx=>h x (by simp [hx])
    unfold sE at h2 ⊢
    rw [sG,List.length_cons];omega
theorem aGR (t:Tree) (o:xA t):gK t=some true:=by
  unfold gK
  rw [aDZ t o _ (by omega) (by omega)]
  simp only [Option.bind_some]
  by_cases h:(dA t:Int)≤1048576
  · rw [if_pos h,if_neg (by omega)]
    obtain ⟨e1,e2⟩:=aI3 t (by omega)
    have hv:=aHi (aDv t (by omega))
    have hl:(kC t).length≤1048576:=by
      have:=gR bG t.fNodes
      unfold dA cE at h
      simp only [kC,List.length_map];omega
    obtain ⟨k1,x1,m1,m2,m3⟩:=aIw t 1 (by omega) (by omega)
    obtain ⟨k2,x2,n1,n2,n3,n4,_⟩:=aIx (kC t) 1 (by omega) (by omega)
    have c1:¬k1 < 0:=by omega
    have c2:¬k2 < 0:=by omega
    simp only [aDX t (by omega),e1,e2,Option.bind_some,aID (kC t) (by omega),aEw t (by omega),m1,n1,n2,c1,c2,if_true,if_false,Bool.not_true,Bool.false_eq_true,ne_eq,not_true_eq_false]
  · rw [if_neg h,if_pos (by omega)]
theorem aIT (x y:Int) (hx:bl x≤1000) (hy:bl y≤1000):∃ c,sJ (big x) (big y)=some c∧sU (big x) (big y)=some c∧(x=y→c=0):=by
  unfold bl at hx hy
  have s1:=tP x.natAbs y.natAbs hx hy
  have s2:=tP y.natAbs x.natAbs hy hx
  have i1:=xE x.natAbs y.natAbs hx hy
  have i2:=xE y.natAbs x.natAbs hy hx
  have self:∀ n:Nat,oU n n=0:=fun n=>by unfold oU;simp
  unfold sJ sU
  simp only [big,s1,s2,i1,i2,Option.bind_some]
  by_cases cx:x < 0
  · by_cases cy:y < 0
    · simp [cx,cy];rintro rfl;exact self _
    · simp [cx,cy];omega
  · by_cases cy:y < 0
    · simp [cx,cy];omega
    · simp [cx,cy];rintro rfl;exact self _
theorem aIf {r s:Rat} (hr:dE r) (hs:dE s):∃ c,sM r s=some c∧sS r s=some c∧(r=s→c=0):=by
  unfold sM sS
  rw [jI r (VZs (.inl hr)),jI s (VZs (.inl hs)),nC (.inl hr),nC (.inl hs),decide_eq_true hr,decide_eq_true hs]
  simp only [Option.bind_some,if_true,Bool.not_true,Bool.false_eq_true,if_false]
  obtain ⟨n,d,rfl,g1,g2,g3,g4⟩:=vL hr
  obtain ⟨m,e,rfl,h1,h2,h3,h4⟩:=vL hs
  have b1:bl (e:Int)≤24:=by unfold bl;rw [Int.natAbs_natCast];exact h3
  have b2:bl (d:Int)≤24:=by unfold bl;rw [Int.natAbs_natCast];exact g3
  have b3:=tU n e
  have b4:=tU m d
  obtain ⟨c,c1,c2,c3⟩:=aIT (n*e) (m*d) (by omega) (by omega)
  refine ⟨c,?_,?_,?_⟩
  · have p1:(aE (n.natAbs*e)).length≤48:=by have:=cZ n.natAbs e;unfold bl at g2;omega
    have p2:(aE (m.natAbs*d)).length≤48:=by have:=cZ m.natAbs d;unfold bl at h2;omega
    have q1:cG (big n).fMag (aE e)=some (aE (n.natAbs*e)):=by unfold bl at g2;exact (jS n.natAbs e (by omega) (by omega)).1
    have q2:cG (big m).fMag (aE d)=some (aE (m.natAbs*d)):=by unfold bl at h2;exact (jS m.natAbs d (by omega) (by omega)).1
    have q3:cC (big n).fNeg (aE (n.natAbs*e))=some (big (n*e)):=yN n e (by omega)
    have q4:cC (big m).fNeg (aE (m.natAbs*d))=some (big (m*d)):=yN m d (by omega)
    unfold uC
    simp only []
    rw [q1]
    simp only [Option.bind_some]
    rw [q3]
    simp only [Option.bind_some]
    rw [q2]
    simp only [Option.bind_some]
    rw [q4]
    simp only [Option.bind_some]
    rw [c1];rfl
  · unfold dZ
    simp only [Option.bind_some]
    rw [uJ,uJ,rI n e (by omega) (by omega) (by omega),rI m d (by omega) (by omega) (by omega)]
    simp only [Option.bind_some]
    rw [c2];rfl
  · intro he
    injection he with e1 e2
    have e3:=aCX e2
    subst e3
    have e4:n=m:=by
      injection e1 with f1 f2
      have:=aCX f2
      have f1:=decide_eq_decide.1 f1
      omega
    subst e4
    exact c3 rfl
theorem aGV (l:List Rat) (hl:l.length≤4294967296) (hv:∀ r ∈ l,VZ r):(oP l=some true∧∀ r ∈ l,dE r)∨(oP l=some false∧∃ r ∈ l,¬dE r):=by
  have main:∀ m k:Nat,m+k=l.length→(lp (fO l) (k:Int)=some (.inl ())∧∀ r ∈ l.drop k,dE r)∨(lp (fO l) (k:Int)=some (.inr false)∧∃ r ∈ l.drop k,¬dE r):=by
    intro m
    induction m with
    | zero =>
      intro k hk
      refine .inl ⟨aY ?_,by rw [List.drop_eq_nil_of_le (by omega)];simp⟩
      unfold fO;rw [if_neg (by omega)]
    | succ m ih =>
      intro k hk
      have hlt:k < l.length:=by omega
      rw [List.drop_eq_getElem_cons hlt]
      by_cases c:dE l[k]
      · have e:fO l (k:Int)=some (.inl ((k+1:Nat):Int)):=by
          unfold fO
          rw [if_pos (by omega),aT hlt]
          simp only [Option.bind_some]
          rw [nC (hv _ (List.getElem_mem hlt)),decide_eq_true c]
          simp only [Option.bind_some,if_true]
          rw [wi (by omega)];rfl
        rw [bI e]
        rcases ih (k+1) (by omega) with ⟨h1,h2⟩ | ⟨h1,r,h2,h3⟩
        · refine .inl ⟨h1,fun r hr=>?_⟩
          rcases List.mem_cons.1 hr with rfl | hr
          · exact c
          · exact h2 r hr
        · exact .inr ⟨h1,r,List.mem_cons_of_mem _ h2,h3⟩
      · refine .inr ⟨aY ?_,_,List.mem_cons_self,c⟩
        unfold fO
        rw [if_pos (by omega),aT hlt]
        simp only [Option.bind_some]
        rw [nC (hv _ (List.getElem_mem hlt)),decide_eq_false c];rfl
  have:=main l.length 0 (by omega)
  rw [List.drop_zero,show ((0:Nat):Int)=0 from rfl] at this
  unfold oP
  rcases this with ⟨h1,h2⟩ | ⟨h1,h2⟩
  · exact .inl ⟨by rw [h1];rfl,h2⟩
  · exact .inr ⟨by rw [h1];rfl,h2⟩
theorem aIH (l:List Rat) (hl:l.length≤4294967296) (hg:∀ r ∈ l,dE r) (sg:Int):∀ (m k:Nat),m+k=l.length→∀ b:Nat,b < l.length→∃ v:Nat,v < l.length∧lp (cI sg l) ((b:Int),(k:Int))=some (.inl (v:Int))∧lp (dL sg l) ((b:Int),(k:Int))=some (v:Int):=by
  intro m
  induction m with
  | zero =>
    intro k hk b hb
    refine ⟨b,hb,aY ?_,aY ?_⟩
    · unfold cI;simp only [];rw [if_neg (by omega)]
    · unfold dL;simp only [];rw [if_neg (by omega)]
  | succ m ih =>
    intro k hk b hb
    have hlt:k < l.length:=by omega
    obtain ⟨c,c1,c2,_⟩:=aIf (hg _ (List.getElem_mem hlt)) (hg _ (List.getElem_mem hb))
    have s1:cI sg l ((b:Int),(k:Int))=some (.inl (if c=sg then (k:Int) else (b:Int),((k+1:Nat):Int))):=by
      unfold cI
      simp only []
      rw [if_pos (by omega),aT hlt]
      simp only [Option.bind_some]
      rw [jI _ (VZs (.inl (hg _ (List.getElem_mem hlt)))),decide_eq_true (hg _ (List.getElem_mem hlt))]
      simp only [Option.bind_some,if_true]
      rw [if_neg (by omega),aT hb]
      simp only [Option.bind_some]
      rw [c1]
      simp only [Option.bind_some]
      rw [wi (by omega)]
      by_cases cc:c=sg
      · rw [if_pos cc,decide_eq_true cc];rfl
      · rw [if_neg cc,decide_eq_false cc];rfl
    have s2:dL sg l ((b:Int),(k:Int))=some (.inl (if c=sg then (k:Int) else (b:Int),((k+1:Nat):Int))):=by
      unfold dL
      simp only []
      rw [if_pos (by omega),aT hlt]
      simp only [Option.bind_some]
      rw [aT hb]
      simp only [Option.bind_some]
      rw [c2]
      simp only [Option.bind_some]
      rw [wi (by omega)]
      by_cases cc:c=sg
      · rw [if_pos cc,if_pos cc];rfl
      · rw [if_neg cc,if_neg cc];rfl
    rw [bI s1,bI s2]
    by_cases cc:c=sg
    · rw [if_pos cc];exact ih (k+1) (by omega) k hlt
    · rw [if_neg cc];exact ih (k+1) (by omega) b hb
theorem aHX (l:List Rat) (hl:l.length≤4294967296) (hv:∀ r ∈ l,VZ r) (sg:Int):∀ (m k:Nat),m+k=l.length→(∃ r ∈ l.drop k,¬dE r)→∀ b:Int,(b < 0∨∃ (j:Nat) (hj:j < l.length),b=j∧dE l[j])→lp (cI sg l) (b,(k:Int))=some (.inr 0):=by
  intro m
  induction m with
  | zero =>
    intro k hk hbad
    rw [List.drop_eq_nil_of_le (by omega)] at hbad
    obtain ⟨r,h,_⟩:=hbad;cases h
  | succ m ih =>
    intro k hk hbad b hb
    have hlt:k < l.length:=by omega
    rw [List.drop_eq_getElem_cons hlt] at hbad
    have hvk:=hv _ (List.getElem_mem hlt)
    by_cases c:dE l[k]
    · have hbad':∃ r ∈ l.drop (k+1),¬dE r:=by
        obtain ⟨r,h1,h2⟩:=hbad
        rcases List.mem_cons.1 h1 with rfl | h1
        · exact absurd c h2
        · exact ⟨r,h1,h2⟩
      have s1:∃ b':Int,cI sg l (b,(k:Int))=some (.inl (b',((k+1:Nat):Int)))∧(b' < 0∨∃ (j:Nat) (hj:j < l.length),b'=j∧dE l[j]):=by
        unfold cI
        simp only []
        rw [if_pos (by omega),aT hlt]
        simp only [Option.bind_some]
        rw [jI _ (VZs hvk),decide_eq_true c]
        simp only [Option.bind_some,if_true]
        rw [wi (by omega)]
        rcases hb with hb | ⟨j,hj,rfl,hj2⟩
        · rw [if_pos hb]
          exact ⟨(k:Int),rfl,.inr ⟨k,hlt,rfl,c⟩⟩
        · rw [if_neg (by omega),aT hj]
          simp only [Option.bind_some]
          obtain ⟨cc,c1,_⟩:=aIf c hj2
          rw [c1]
          simp only [Option.bind_some]
          by_cases e:cc=sg
          · rw [decide_eq_true e];exact ⟨(k:Int),rfl,.inr ⟨k,hlt,rfl,c⟩⟩
          · rw [decide_eq_false e];exact ⟨(j:Int),rfl,.inr ⟨j,hj,rfl,hj2⟩⟩
      obtain ⟨b',s1,s2⟩:=s1
      rw [bI s1]
      exact ih (k+1) (by omega) hbad' b' s2
    · apply aY
      unfold cI
      simp only []
      rw [if_pos (by omega),aT hlt]
      simp only [Option.bind_some]
      rw [jI _ (VZs hvk),decide_eq_false c];rfl
theorem aIi (t:Tree) (h:dA t≤4294967296) (sg:Int) (hs:sg≠0):∃ v,oH t sg=some v∧iV t sg=some v:=by
  obtain ⟨e1,e2⟩:=aI3 t h
  have hv:=aDv t h
  have hln:(kC t).length=t.fNodes.length:=by simp [kC]
  have hl:t.fNodes.length≤4294967296:=by
    have:=gR bG t.fNodes
    unfold dA cE at h;omega
  unfold oH iV
  rw [e1,e2]
  simp only [Option.bind_some]
  by_cases c0:(kC t).length=0
  · rw [if_pos (by omega)]
    have:lp (cI sg (kC t)) (-1,0)=some (.inl (-1)):=aY (by unfold cI;simp only [];rw [if_neg (by omega)])
    rw [this];exact ⟨0,rfl,rfl⟩
  · rw [if_neg (by omega)]
    rcases aGV (kC t) (by omega) hv with ⟨g1,g2⟩ | ⟨g1,g2⟩
    · rw [g1]
      simp only [Option.bind_some,Bool.not_true,Bool.false_eq_true,if_false]
      have hlt:0 < (kC t).length:=by omega
      have ok0:=g2 _ (List.getElem_mem hlt)
      obtain ⟨cc,c1,c2,c3⟩:=aIf ok0 ok0
      obtain rfl:=c3 rfl
      have s1:cI sg (kC t) (-1,0)=some (.inl (((0:Nat):Int),((1:Nat):Int))):=by
        unfold cI
        simp only []
        rw [if_pos (by omega),show (0:Int)=((0:Nat):Int) from rfl,aT hlt]
        simp only [Option.bind_some]
        rw [jI _ (VZs (.inl ok0)),decide_eq_true ok0]
        rfl
      have s2:dL sg (kC t) (0,0)=some (.inl (((0:Nat):Int),((1:Nat):Int))):=by
        unfold dL
        simp only []
        rw [if_pos (by omega),show (0:Int)=((0:Nat):Int) from rfl,aT hlt]
        simp only [Option.bind_some]
        rw [c2]
        simp only [Option.bind_some]
        rw [if_neg (fun h=>hs h.symm)];rfl
      obtain ⟨v,v1,v2,v3⟩:=aIH (kC t) (by omega) g2 sg ((kC t).length - 1) 1 (by omega) 0 hlt
      rw [bI s1,bI s2,v2,v3]
      simp only [Option.bind_some]
      rw [if_neg (by omega),aT (show v < t.fNodes.length by omega)]
      exact ⟨_,rfl,rfl⟩
    · rw [g1]
      have:=aHX (kC t) (by omega) hv sg (kC t).length 0 (by omega) (by rw [List.drop_zero];exact g2) (-1) (.inl (by omega))
      rw [show ((0:Nat):Int)=0 from rfl] at this
      rw [this];exact ⟨0,rfl,rfl⟩
theorem aGQ (t:Tree) (o:xA t):gJ t=some true:=by
  unfold gJ
  rw [aDZ t o _ (by omega) (by omega)]
  simp only [Option.bind_some]
  by_cases h:(dA t:Int)≤1048576
  · rw [if_pos h,if_neg (by omega)]
    obtain ⟨v,e1,e2⟩:=aIi t (by omega) 1 (by omega)
    unfold mX nB
    simp only [aDX t (by omega),e1,e2,Option.bind_some,aEw t (by omega),if_true,if_false,ne_eq,not_true_eq_false]
  · rw [if_neg h,if_pos (by omega)]
theorem aHb (t:Tree) (o:xA t):gV t=some true:=by
  unfold gV
  rw [aDZ t o _ (by omega) (by omega)]
  simp only [Option.bind_some]
  by_cases h:(dA t:Int)≤1048576
  · rw [if_pos h,if_neg (by omega)]
    obtain ⟨v,e1,e2⟩:=aIi t (by omega) (-1) (by omega)
    unfold oJ oS
    simp only [aDX t (by omega),e1,e2,Option.bind_some,aEw t (by omega),if_true,if_false,ne_eq,not_true_eq_false]
  · rw [if_neg h,if_pos (by omega)]
end Go.Ev
