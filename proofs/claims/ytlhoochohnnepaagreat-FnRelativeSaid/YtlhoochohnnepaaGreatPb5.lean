/- Parts PU3, PU4, CC, CD, CE. -/
import Derived.Test.YtlhoochohnnepaaGreatPb4
set_option linter.all false
/- Covariances of a net: the program's matrix. -/
namespace Go.Ev
set_option linter.all false
theorem oM {α:Type}{l:List α}{i:Int}(h0:0<=i)(h1:i<l.length):∃ y,idx l i=some y:=by
 unfold idx;rw[if_pos h0]
 exact⟨_,List.getElem?_eq_getElem (show i.toNat<l.length by omega)⟩
theorem vU {α:Type}{l:List α}{i j:Int}{v:α}(h0:0<=i)(h1:i<l.length)(h2:0<=j):idx (kG l i v) j=if i=j then some v else idx l j:=by
 unfold idx kG
 rw[if_pos h2,if_pos h2,List.getElem?_set]
 by_cases c:i=j
 · subst c
   rw[if_pos rfl,if_pos rfl,if_pos (by omega)]
 · rw[if_neg (by omega),if_neg c]
theorem uQ {α:Type}(l:List α)(i:Int)(v:α):(kG l i v).length=l.length:=by simp[kG]
def aDl (M:List Rat)(k:Int):Prop:=∀ x:Int,0<=x->x<k->idx M x=some (dG 0)/\idx M (x*10)=some (dG 0)
theorem aOE:∀ (m k:Nat),m+k=10->∀ M:List Rat,M.length=100->aDl M k->∃ M',lp eT ((k:Int),M)=some M'/\M'.length=100/\aDl M' 10:=by
 intro m
 induction m with
 | zero =>
  intro k hk M hM hz
  obtain rfl:k=10:=by omega
  refine⟨M,aI ?_,hM,hz⟩
  unfold eT
  simp
 | succ m ih =>
  intro k hk M hM hz
  obtain⟨y1,q1⟩:=oM (l:=M) (i:=0*10) (by omega) (by omega)
  obtain⟨y2,q2⟩:=oM (l:=M) (i:=0*(10:Nat)+(k:Int)) (by omega) (by omega)
  have hM1:(kG M (0*(10:Nat)+(k:Int)) (dG 0)).length=100:=by rw[uQ,hM]
  obtain⟨y3,q3⟩:=oM (l:=kG M (0*(10:Nat)+(k:Int)) (dG 0)) (i:=(k:Int)*10) (by omega) (by omega)
  obtain⟨y4,q4⟩:=oM (l:=kG M (0*(10:Nat)+(k:Int)) (dG 0)) (i:=(k:Int)*(10:Nat)+0) (by omega) (by omega)
  have e:eT ((k:Int),M)=some (.inl (((k+1:Nat):Int),kG (kG M (0*(10:Nat)+(k:Int)) (dG 0)) ((k:Int)*(10:Nat)+0) (dG 0))):=by
   unfold eT
   simp only[]
   rw[if_pos (by omega),dF 0 (by omega)]
   simp only[Option.bind_some]
   rw[aL (by omega)]
   simp only[Option.bind_some]
   rw[q1]
   simp only[Option.bind_some]
   rw[aL (by omega)]
   simp only[Option.bind_some]
   rw[aH,q2]
   simp only[Option.bind_some]
   rw[aH,q3]
   simp only[Option.bind_some]
   rw[aH,q4]
   simp only[Option.bind_some]
   rw[aH,wi (by omega)];rfl
  rw[aR e]
  refine ih (k+1) (by omega) _ (by rw[uQ,uQ,hM]) fun x hx0 hx1=>?_
  rw[vU (by omega) (by omega) hx0,vU (by omega) (by omega) hx0,vU (by omega) (by omega) (show(0:Int)<=x*10 by omega),vU (by omega) (by omega) (show(0:Int)<=x*10 by omega)]
  by_cases c:x=k
  · subst c
    rw[if_pos (show(0*(10:Nat)+(k:Int)=(k:Int))by omega),if_pos (show((k:Int)*(10:Nat)+0=(k:Int)*10)by omega)]
    exact⟨by split <;> rfl,rfl⟩
  · obtain⟨z1,z2⟩:=hz x hx0 (by omega)
    rw[z1,z2]
    refine⟨?_,?_⟩
    · split
      · rfl
      · split <;> rfl
    · split
      · rfl
      · split <;> rfl
structure MatIs (M:List Rat)(nodes:List Int)(C:Int->Int->Rat):Prop where
 len:M.length=100
 get:∀ x∈nodes,∀ y∈nodes,idx M (x*10+y)=some (C x y)
 zero:aDl M 10
theorem aOD (c d:Conditional)(hc:c.fParents.length<=4294967296)(nodes:List Int)(hn:∀ x∈nodes,0<=x/\x<=9)(C:Int->Int->Rat)(M:List Rat)(hM:MatIs M nodes C)(hp:∀ p∈c.fParents,VZ p.fShare/\p.fNode∈nodes)(hC:∀ x∈nodes,∀ y∈nodes,VZ (C x y))(hd:d.fNode∈nodes) :
 lp (gE c M d) (0,dG 0)=some (newRow c C d.fNode):=by
 refine aL4 c.fParents (fun p=>C p d.fNode) (fun p h=>⟨(hp p h).1,hC _ (hp p h).2 _ hd⟩) (fun k hk s hs=>?_) (fun s=>?_) _ wN
 · obtain⟨g1,g2⟩:=hp _ (List.getElem_mem hk)
   have b1:=hn _ g2
   have b2:=hn _ hd
   have q1:=zQ g1 (hC _ g2 _ hd)
   obtain⟨y,qy⟩:=oM (l:=M) (i:=(c.fParents[k]).fNode*10) (by omega) (by rw[hM.len];omega)
   unfold gE
   simp only[]
   rw[if_pos (by omega),aJ hk]
   simp only[Option.bind_some]
   rw[aL (by omega)]
   simp only[Option.bind_some]
   rw[qy]
   simp only[Option.bind_some]
   rw[aL (by omega)]
   simp only[Option.bind_some]
   rw[aH,show(((10:Nat):Int))=10 from rfl,hM.get _ g2 _ hd]
   simp only[Option.bind_some]
   rw[q1.2.1]
   simp only[Option.bind_some]
   rw[(wC hs q1.2.2).2.1]
   simp only[Option.bind_some]
   rw[wi (by omega)];rfl
 · unfold gE
   simp only[]
   rw[if_neg (by omega)]
theorem aOB (c:Conditional)(hc:c.fParents.length<=4294967296)(hcn:0<=c.fNode/\c.fNode<=9)(nodes:List Int)(hn:∀ x∈nodes,0<=x/\x<=9)(g:Int->Rat)(M:List Rat)(hM:M.length=100)(hg:∀ x∈nodes,idx M (x*10+c.fNode)=some (g x))(hp:∀ p∈c.fParents,VZ p.fShare/\p.fNode∈nodes)(hv:∀ x∈nodes,VZ (g x))(s:Rat)(hs:VZ s) :
 lp (gD c M) (0,s)=some (aAS g c.fParents s):=by
 refine aL4 c.fParents g (fun p h=>⟨(hp p h).1,hv _ (hp p h).2⟩) (fun k hk s hs=>?_) (fun s=>?_) _ hs
 · obtain⟨g1,g2⟩:=hp _ (List.getElem_mem hk)
   have b1:=hn _ g2
   have q1:=zQ g1 (hv _ g2)
   obtain⟨y,qy⟩:=oM (l:=M) (i:=(c.fParents[k]).fNode*10) (by omega) (by omega)
   unfold gD
   simp only[]
   rw[if_pos (by omega),aJ hk]
   simp only[Option.bind_some]
   rw[aL (by omega)]
   simp only[Option.bind_some]
   rw[qy]
   simp only[Option.bind_some]
   rw[aL (by omega)]
   simp only[Option.bind_some]
   rw[aH,show(((10:Nat):Int))=10 from rfl,hg _ g2]
   simp only[Option.bind_some]
   rw[q1.2.1]
   simp only[Option.bind_some]
   rw[(wC hs q1.2.2).2.1]
   simp only[Option.bind_some]
   rw[wi (by omega)];rfl
 · unfold gD
   simp only[]
   rw[if_neg (by omega)]
theorem aOC (l:List Conditional)(i:Nat)(hi:i<l.length)(hl:l.length<=9)(hg:sY (l.drop i))(M0:List Rat)(hM0:MatIs M0 (bK (l.drop (i+1))) (Cst (l.drop (i+1)))) :
 ∃ M',lp (dE l l[i]) (((i+1:Nat):Int),M0)=some M'/\MatIs M' (bK (l.drop (i+1))) (Cst (l.drop (i+1)))/\∀ d∈l.drop (i+1),idx M' ((l[i]).fNode*10+d.fNode)=some (newRow l[i] (Cst (l.drop (i+1))) d.fNode)/\idx M' (d.fNode*10+(l[i]).fNode)=some (newRow l[i] (Cst (l.drop (i+1))) d.fNode):=by
 rw[List.drop_eq_getElem_cons hi]at hg
 obtain⟨h1,h2,h3,h4,h5,h6⟩:=hg
 generalize hc:l[i]=c at *
 obtain⟨gn1,gn2⟩:=vV h6
 obtain⟨g1,g2⟩:=aG0 h6
 have hp:∀ p∈c.fParents,VZ p.fShare/\p.fNode∈bK (l.drop (i+1)):=fun p hp=>⟨.inl (h3 p hp).1,(h3 p hp).2⟩
 have main:∀ m j:Nat,m+j=l.length->i+1<=j->∀ M,MatIs M (bK (l.drop (i+1))) (Cst (l.drop (i+1)))->
  (∀ t (ht:t<l.length),i+1<=t->t<j->idx M (c.fNode*10+(l[t]).fNode)=some (newRow c (Cst (l.drop (i+1))) (l[t]).fNode)/\idx M ((l[t]).fNode*10+c.fNode)=some (newRow c (Cst (l.drop (i+1))) (l[t]).fNode))->
  ∃ M',lp (dE l c) ((j:Int),M)=some M'/\MatIs M' (bK (l.drop (i+1))) (Cst (l.drop (i+1)))/\∀ t (ht:t<l.length),i+1<=t->idx M' (c.fNode*10+(l[t]).fNode)=some (newRow c (Cst (l.drop (i+1))) (l[t]).fNode)/\idx M' ((l[t]).fNode*10+c.fNode)=some (newRow c (Cst (l.drop (i+1))) (l[t]).fNode):=by
  intro m
  induction m with
  | zero =>
   intro j hj hij M hM hinv
   obtain rfl:j=l.length:=by omega
   refine⟨M,aI ?_,hM,fun t ht hit=>hinv t ht hit ht⟩
   unfold dE
   simp only[]
   rw[if_neg (by omega)]
  | succ m ih =>
   intro j hj hij M hM hinv
   have hlt:j<l.length:=by omega
   have hdm:l[j]∈l.drop (i+1):=by
    rw[List.mem_iff_getElem?]
    exact⟨j-(i+1),by rw[List.getElem?_drop,show i+1+(j-(i+1))=j by omega,List.getElem?_eq_getElem hlt]⟩
   have hdn:(l[j]).fNode∈bK (l.drop (i+1)):=qF.2 (.inr ⟨_,hdm,rfl⟩)
   have hb:=gn2 _ hdn
   have hd1:1<=(l[j]).fNode:=by
    have hgd:=yU (j-(i+1)) h6
    rw[List.drop_drop,show i+1+(j-(i+1))=j by omega,List.drop_eq_getElem_cons hlt]at hgd
    exact hgd.1.1
   have hne:(l[j]).fNode≠c.fNode:=by intro e;rw[e]at hdn;exact h2 hdn
   generalize hd:l[j]=d at *
   let r:=newRow c (Cst (l.drop (i+1))) d.fNode
   let M1:=kG M (c.fNode*(10:Nat)+d.fNode) r
   let M2:=kG M1 (d.fNode*(10:Nat)+c.fNode) r
   have l0:=hM.len
   have l1:M1.length=100:=by show(kG _ _ _).length=_;rw[uQ,l0]
   obtain⟨y1,q1⟩:=oM (l:=M) (i:=c.fNode*10) (by omega) (by omega)
   obtain⟨y2,q2⟩:=oM (l:=M) (i:=c.fNode*(10:Nat)+d.fNode) (by omega) (by omega)
   obtain⟨y3,q3⟩:=oM (l:=M1) (i:=d.fNode*10) (by omega) (by omega)
   obtain⟨y4,q4⟩:=oM (l:=M1) (i:=d.fNode*(10:Nat)+c.fNode) (by omega) (by omega)
   have e:dE l c ((j:Int),M)=some (.inl (((j+1:Nat):Int),M2)):=by
    unfold dE
    simp only[]
    rw[if_pos (by omega),aJ hlt,hd]
    simp only[Option.bind_some]
    rw[dF 0 (by omega)]
    simp only[Option.bind_some]
    rw[aOD c d h5 _ gn2 _ M hM hp g1 hdn]
    simp only[Option.bind_some]
    rw[aL (by omega)]
    simp only[Option.bind_some]
    rw[q1]
    simp only[Option.bind_some]
    rw[aL (by omega)]
    simp only[Option.bind_some]
    rw[aH,q2]
    simp only[Option.bind_some]
    rw[aH]
    rw[show kG M (c.fNode*(10:Nat)+d.fNode) (newRow c (Cst (l.drop (i+1))) d.fNode)=M1 from rfl,q3]
    simp only[Option.bind_some]
    rw[aH,q4]
    simp only[Option.bind_some]
    rw[aH,wi (by omega)];rfl
   have i2:∀ z:Int,0<=z->idx M2 z=if d.fNode*(10:Nat)+c.fNode=z then some r else if c.fNode*(10:Nat)+d.fNode=z then some r else idx M z:=by
    intro z hz
    show idx (kG M1 _ _) z=_
    rw[vU (by omega) (by omega) hz]
    by_cases cz:d.fNode*(10:Nat)+c.fNode=z
    · rw[if_pos cz,if_pos cz]
    · rw[if_neg cz,if_neg cz]
      show idx (kG M _ _) z=_
      rw[vU (by omega) (by omega) hz]
   rw[aR e]
   refine ih (j+1) (by omega) (by omega) M2 ⟨by show(kG _ _ _).length=_;rw[uQ,l1],fun x hx y hy=>?_,fun x hx0 hx1=>?_⟩ fun t ht hit htj=>?_
   · have b1:=gn2 x hx
     have b2:=gn2 y hy
     have c1:x≠c.fNode:=by rintro rfl;exact h2 hx
     have c2:y≠c.fNode:=by rintro rfl;exact h2 hy
     rw[i2 _ (by omega),if_neg (by omega),if_neg (by omega)]
     exact hM.get x hx y hy
   · obtain⟨z1,z2⟩:=hM.zero x hx0 hx1
     rw[i2 _ (by omega),i2 _ (by omega),if_neg (by omega),if_neg (by omega),if_neg (by omega),if_neg (by omega)]
     exact⟨z1,z2⟩
   · rcases Nat.lt_or_eq_of_le (Nat.le_of_lt_succ htj)with h | h
     · obtain⟨v1,v2⟩:=hinv t ht hit h
       have htn:(l[t]).fNode∈bK (l.drop (i+1)):=qF.2 (.inr ⟨_,by
        rw[List.mem_iff_getElem?]
        exact⟨t-(i+1),by rw[List.getElem?_drop,show i+1+(t-(i+1))=t by omega,List.getElem?_eq_getElem ht]⟩,rfl⟩)
       have bt:=gn2 _ htn
       have ct:(l[t]).fNode≠c.fNode:=by intro e;rw[e]at htn;exact h2 htn
       rw[i2 _ (by omega),i2 _ (by omega)]
       by_cases ce:(l[t]).fNode=d.fNode
       · rw[ce,if_neg (by omega),if_pos (by omega),if_pos (by omega)];exact⟨rfl,rfl⟩
       · rw[if_neg (by omega),if_neg (by omega),if_neg (by omega),if_neg (by omega)];exact⟨v1,v2⟩
     · subst h
       rw[hd,i2 _ (by omega),i2 _ (by omega),if_neg (by omega),if_pos (by omega),if_pos (by omega)]
       exact⟨rfl,rfl⟩
 obtain⟨M',e1,e2,e3⟩:=main (l.length-(i+1)) (i+1) (by omega) (Nat.le_refl _) M0 hM0 (fun t _ h1 h2=>by omega)
 refine⟨M',e1,e2,fun d hd=>?_⟩
 obtain⟨j,hj⟩:=List.getElem?_of_mem hd
 rw[List.getElem?_drop]at hj
 obtain⟨ht,rfl⟩:=List.getElem?_eq_some_iff.1 hj
 exact e3 _ ht (by omega)
theorem aOA (l:List Conditional)(h:sY l):∀ k:Nat,k<=l.length->∀ M,MatIs M (bK (l.drop k)) (Cst (l.drop k))->∃ M',lp (eR l) ((k:Int)-1,M)=some M'/\MatIs M' (bK l) (Cst l):=by
 have hl:=aHM h
 intro k
 induction k with
 | zero =>
  intro _ M hM
  rw[List.drop_zero]at hM
  refine⟨M,aI ?_,hM⟩
  unfold eR
  simp only[]
  rw[if_neg (by simp)]
 | succ k ih =>
  intro hk M hM
  have hlt:k<l.length:=by omega
  have hg:=yU k h
  obtain⟨M1,e1,e2,e3⟩:=aOC l k hlt hl hg M hM
  rw[List.drop_eq_getElem_cons hlt]at hg
  obtain⟨h1,h2,h3,h4,h5,h6⟩:=hg
  generalize hc:l[k]=c at *
  obtain⟨gn1,gn2⟩:=vV h6
  obtain⟨g1,g2⟩:=aG0 h6
  have hp:∀ p∈c.fParents,VZ p.fShare/\p.fNode∈bK (l.drop (k+1)):=fun p hp=>⟨.inl (h3 p hp).1,(h3 p hp).2⟩
  have hr:∀ y∈bK (l.drop (k+1)),VZ (newRow c (Cst (l.drop (k+1))) y):=fun y hy=>aFD hp g1 hy
  have hr0:newRow c (Cst (l.drop (k+1))) 0=dG 0:=aCd fun p hpp=>⟨(h3 p hpp).1,(g2 _ (h3 p hpp).2).1⟩
  have l1:=e2.len
  have hrow:∀ x∈bK (l.drop (k+1)),idx M1 (c.fNode*10+x)=some (newRow c (Cst (l.drop (k+1))) x)/\idx M1 (x*10+c.fNode)=some (newRow c (Cst (l.drop (k+1))) x):=by
   intro x hx
   rcases qF.1 hx with rfl | ⟨d,hd,rfl⟩
   · obtain⟨z1,z2⟩:=e2.zero c.fNode (by omega) (by omega)
     rw[Int.add_zero,Int.zero_mul,Int.zero_add,hr0];exact⟨z2,z1⟩
   · exact e3 d hd
  obtain⟨y1,q1⟩:=oM (l:=M1) (i:=c.fNode*10) (by omega) (by omega)
  obtain⟨y2,q2⟩:=oM (l:=M1) (i:=c.fNode*(10:Nat)+c.fNode) (by omega) (by omega)
  have hown:=aOB c h5 ⟨by omega,by omega⟩ _ gn2 (newRow c (Cst (l.drop (k+1)))) M1 l1 (fun x hx=>(hrow x hx).2) hp hr (RD (dG 1) c.fTotal) (aB7 aGp (.inl h4)).2.2
  have e:eR l (((k+1:Nat):Int)-1,M)=some (.inl ((k:Int)-1,kG M1 (c.fNode*(10:Nat)+c.fNode) (aBl c (Cst (l.drop (k+1)))))):=by
   unfold eR
   simp only[]
   have ek:((k+1:Nat):Int)-1=(k:Int):=by omega
   rw[ek,if_pos (by omega),aJ hlt,hc]
   simp only[Option.bind_some]
   rw[wi (by omega),show(k:Int)+1=((k+1:Nat):Int)by omega,e1]
   simp only[Option.bind_some]
   rw[dF 1 (by omega)]
   simp only[Option.bind_some]
   rw[(aB7 aGp (.inl h4)).2.1]
   simp only[Option.bind_some]
   rw[hown]
   simp only[Option.bind_some]
   rw[aL (by omega)]
   simp only[Option.bind_some]
   rw[q1]
   simp only[Option.bind_some]
   rw[aH,q2]
   simp only[Option.bind_some]
   rw[aH,wi (by omega)];rfl
  rw[aR e]
  refine ih (by omega) _ ?_
  rw[List.drop_eq_getElem_cons hlt,hc]
  have i2:∀ z:Int,0<=z->idx (kG M1 (c.fNode*(10:Nat)+c.fNode) (aBl c (Cst (l.drop (k+1))))) z=if c.fNode*(10:Nat)+c.fNode=z then some (aBl c (Cst (l.drop (k+1))))else idx M1 z:=fun z hz=>vU (by omega) (by omega) hz
  refine⟨by rw[uQ,l1],fun x hx y hy=>?_,fun x hx0 hx1=>?_⟩
  · rw[uN,List.mem_append,List.mem_singleton]at hx hy
    have bx:0<=x/\x<=9:=hx.elim (gn2 x) (fun e=>by subst e;omega)
    have by_:0<=y/\y<=9:=hy.elim (gn2 y) (fun e=>by subst e;omega)
    rw[i2 _ (by omega)]
    show _=some (aEX c (Cst (l.drop (k+1))) x y)
    unfold aEX
    by_cases cx:x=c.fNode
    · rw[if_pos cx]
      by_cases cy:y=c.fNode
      · rw[if_pos cy,if_pos (by subst cx;subst cy;omega)]
      · rw[if_neg cy,if_neg (by omega),cx];exact(hrow y (hy.resolve_right cy)).1
    · rw[if_neg cx]
      by_cases cy:y=c.fNode
      · rw[if_pos cy,if_neg (by omega),cy];exact(hrow x (hx.resolve_right cx)).2
      · rw[if_neg cy,if_neg (by omega)];exact e2.get x (hx.resolve_right cx) y (hy.resolve_right cy)
  · obtain⟨z1,z2⟩:=e2.zero x hx0 hx1
    rw[i2 _ (by omega),i2 _ (by omega),if_neg (by omega),if_neg (by omega)]
    exact⟨z1,z2⟩
end Go.Ev
/- Covariances: the laws. -/
namespace Go.Ev
set_option linter.all false
theorem aJS (l:List Conditional)(a:Int)(hl:l.length<=4294967296):sK l a=some (decide (a∈bK l)):=by
 have main:∀ m k:Nat,m+k=l.length->(lp (iX l a) (k:Int)=some (.inr true)/\∃ d∈l.drop k,d.fNode=a)\/(lp (iX l a) (k:Int)=some (.inl ())/\¬∃ d∈l.drop k,d.fNode=a):=by
  intro m
  induction m with
  | zero =>
   intro k hk
   refine .inr ⟨aI ?_,by rw[List.drop_eq_nil_of_le (by omega)];simp⟩
   unfold iX
   rw[if_neg (by omega)]
  | succ m ih =>
   intro k hk
   have hlt:k<l.length:=by omega
   rw[List.drop_eq_getElem_cons hlt]
   by_cases c:(l[k]).fNode=a
   · refine .inl ⟨aI ?_,_,List.mem_cons_self,c⟩
     unfold iX
     rw[if_pos (by omega),aJ hlt]
     simp only[Option.bind_some]
     rw[if_pos c]
   · have e:iX l a (k:Int)=some (.inl ((k+1:Nat):Int)):=by
      unfold iX
      rw[if_pos (by omega),aJ hlt]
      simp only[Option.bind_some]
      rw[if_neg c,wi (by omega)];rfl
     rw[aR e]
     rcases ih (k+1) (by omega)with⟨h1,d,h2,h3⟩ | ⟨h1,h2⟩
     · exact .inl ⟨h1,d,List.mem_cons_of_mem _ h2,h3⟩
     · refine .inr ⟨h1,?_⟩
       rintro⟨d,hd,e⟩
       rcases List.mem_cons.1 hd with rfl | hd
       · exact c e
       · exact h2 ⟨d,hd,e⟩
 have:=main l.length 0 (by omega)
 rw[List.drop_zero,show((0:Nat):Int)=0 from rfl]at this
 unfold sK
 rcases this with⟨h1,h2⟩ | ⟨h1,h2⟩
 · rw[h1]
   simp only[Option.bind_some]
   rw[decide_eq_true (qF.2 (.inr h2))]
 · rw[h1]
   simp only[Option.bind_some]
   congr 1
   rw[decide_eq_decide,qF]
   exact⟨fun h=>.inl h,fun h=>h.resolve_right h2⟩
noncomputable def aLG (l:List Conditional)(a b:Int):Rat:=if a∈bK l/\b∈bK l then Cst l a b else lF
theorem aNp {l:List Conditional}(h:sY l)(hn:sN l=some true)(a b:Int):jJ l a b=some (aLG l a b):=by
 have hl:=aHM h
 obtain⟨gn1,gn2⟩:=vV h
 unfold jJ aLG
 rw[hn,aJS l a (by omega),aJS l b (by omega)]
 simp only[Option.bind_some,if_true]
 by_cases ca:a∈bK l
 · rw[decide_eq_true ca]
   simp only[if_true,Option.bind_some]
   by_cases cb:b∈bK l
   · rw[decide_eq_true cb]
     simp only[Bool.not_true,Bool.false_eq_true,if_false]
     obtain⟨M1,e1,e2,e3⟩:=aOE 10 0 (by omega) (List.replicate 100 (Rat.mk (BigInt.mk false ([])) ([]))) (by simp) (fun x h0 h1=>by omega)
     rw[show((0:Nat):Int)=0 from rfl]at e1
     rw[e1]
     simp only[Option.bind_some]
     have hM:MatIs M1 (bK (l.drop l.length)) (Cst (l.drop l.length)):=by
      rw[List.drop_length]
      refine⟨e2,fun x hx y hy=>?_,e3⟩
      simp[bK]at hx hy
      subst hx;subst hy
      exact(e3 0 (by omega) (by omega)).1
     obtain⟨M2,f1,f2⟩:=aOA l h l.length (Nat.le_refl _) M1 hM
     rw[aH,wi (by omega),f1]
     simp only[Option.bind_some]
     have ba:=gn2 _ ca
     have bb:=gn2 _ cb
     obtain⟨y,q⟩:=oM (l:=M2) (i:=a*10) (by omega) (by rw[f2.len];omega)
     rw[aL (by omega)]
     simp only[Option.bind_some]
     rw[q]
     simp only[Option.bind_some]
     rw[aL (by omega)]
     simp only[Option.bind_some]
     rw[aH,show(((10:Nat):Int))=10 from rfl,f2.get _ ca _ cb]
     simp only[Option.bind_some]
     rw[fR _ (VZs ((aG0 h).1 _ ca _ cb)),if_pos ⟨ca,cb⟩];rfl
   · rw[decide_eq_false cb,if_neg (show ¬(a∈bK l/\b∈bK l)from fun h=>cb h.2)];rfl
 · rw[decide_eq_false ca,if_neg (show ¬(a∈bK l/\b∈bK l)from fun h=>ca h.1)];rfl
end Go.Ev
/- Covariances: the program's table is the one over the rational numbers. -/
namespace Go.Ev
set_option linter.all false
set_option maxHeartbeats 1000000
theorem vX {T B:Nat}{q:Q}(hT:0<T)(h:Dv T q)(h1:bd B q)(b:B<=100*PP)(t:T<=PP ^ 6):bN q:=by
 have h2:=aAr h1 b
 refine aDg hT h h2.1 h2.2 (by decide) (Nat.lt_of_le_of_lt (Nat.mul_le_mul_left _ t) ?_)
 rw[aKX];unfold PP;decide
theorem coz:Co (fun _=>0) (fun _=>0):=⟨fun _ _=>rfl,fun {D X y} _ h=>⟨⟨by have:=sE X;grind,sE X⟩,⟨0,by simp⟩,⟨0,by simp⟩⟩⟩
theorem aHz (f:Int->Q)(t:Q)(a:List QL):lin f (a.map (wD t))=pS f (fun _=>0) a / t:=by
 rw[<- aH2,aN7 coz]
section
variable {D X T M:Nat}{v:Int}{a:List QL}{f:Int->Q}
theorem aNZ (h:Arms D X v a):Dv (nm D (sm wt a)) (1 / sm wt a)/\bd D (1 / sm wt a)/\bN (1 / sm wt a):=by
 have hp:=h.pos
 have hN:=(wO h.hD hp (uX h.lk)).1
 obtain⟨n1,n2⟩:=h.nN
 have hP:=h.hP
 have d1:Dv (nm D (sm wt a)) (1 / sm wt a):=⟨(D:Int),by
  rw[hN]
  have e:((D:Int):Q)=(D:Q):=rfl
  rw[e];grind⟩
 have n1':(1:Q)<=(nm D (sm wt a):Q):=by
  have:=aGy (m:=1) (n:=nm D (sm wt a)) n1
  have e:((1:Nat):Q)=1:=rfl
  rw[e]at this;exact this
 have b1:bd D (1 / sm wt a):=aCq hp (by have:=sE D;have:=_root_.Rat.mul_nonneg this (Std.le_of_lt hp);grind) (by grind)
 exact⟨d1,b1,vX n1 d1 b1 (by omega) (iB (a:=1) (by rw[Nat.pow_one];omega) (by omega))⟩
theorem aIr (h:Arms D X v a)(hf:aGU T M f)(hT:T<=PP ^ 5)(hM:M<=8*PP){s:Q}(ds:Dv (nm D (sm wt a)*T) s)(bs:bd PP s):∀ a1 a2:List QL,a=a1++a2->
 aAS (fun u=>ofQ (f u)) (a2.map fun y=>(wD (sm wt a) y).toP) (ofQ (s+pS f (fun _=>0) a1 / sm wt a))=ofQ (s+pS f (fun _=>0) a / sm wt a)
 | a1,[],e=>by
  rw[List.append_nil]at e
  rw[List.map_nil,aAS,<- e]
 | a1,y::a2,e=>by
  have hy:y∈a:=by rw[e];simp
  obtain⟨n1,n2⟩:=h.nN
  have hP:=h.hP
  have hX:=h.hX
  have nP:nm D (sm wt a)<=PP ^ 1:=by rw[Nat.pow_one];omega
  have pp:400<=PP:=by decide
  have NT:=qY nP hT
  have NT0:=Nat.mul_pos n1 hf.1
  obtain⟨s1,s2,s3⟩:=uY h hy
  obtain⟨f1,f2⟩:=hf.2 y.a
  have e1:y.w / sm wt a*f y.a=pS f (fun _=>0) [y] / sm wt a:=by
   unfold pS
   simp only[sm]
   grind
  obtain⟨q1,q2⟩:=aJz coz hf h (a1:=[y]) (by simpa using h.lk y hy) (by have:=tV h.lk hy;simp only[sm];unfold wt at *;grind)
  obtain⟨r1,r2⟩:=aBF coz hf h (a1:=a1) (a2:=y::a2) e
  obtain⟨t1,t2⟩:=aBF coz hf h (a1:=a1++[y]) (a2:=a2) (by rw[e];simp)
  have ff:=vX hf.1 f1 f2 (by omega) (iB hT (by omega))
  have fs:=aDU n1 (by omega) (by grind) s3 s1
  have fp:bN (y.w / sm wt a*f y.a):=by rw[e1];exact vX NT0 q1 q2 (by omega) NT
  have fa:=vX NT0 (iL ds r1) (uA bs r2) (by omega) NT
  have eq:s+pS f (fun _=>0) a1 / sm wt a+y.w / sm wt a*f y.a=s+pS f (fun _=>0) (a1++[y]) / sm wt a:=by
   rw[e1,aKY]
   have:=h.pos
   grind
  have fb:bN (s+pS f (fun _=>0) a1 / sm wt a+y.w / sm wt a*f y.a):=by rw[eq];exact vX NT0 (iL ds t1) (uA bs t2) (by omega) NT
  rw[List.map_cons,aAS]
  have ps:(wD (sm wt a) y).toP.fShare=ofQ (y.w / sm wt a):=rfl
  have pn:(wD (sm wt a) y).toP.fNode=y.a:=rfl
  rw[ps,pn,aEM fs ff fp,aEN fa fp fb,eq]
  exact aIr h hf hT hM ds bs (a1++[y]) a2 (by rw[e];simp)
end
def aPh (T M:Nat)(C:Int->Int->Q):Prop:=0<T/\∀ a c,Dv T (C a c)/\bd M (C a c)
theorem aMz {n:NQ}{r:List NQ}{D X T M:Nat}{a:List QL}(e1:n.cond=pJ n.node a)(ha:Arms D X n.node a)(h:aPh T M (cvQ r)):aPh (nm D (sm wt a)*(nm D (sm wt a)*T)) (M+2*X+D) (cvQ (n::r)):=by
 obtain⟨n1,n2⟩:=ha.nN
 have ep:n.cond.ps=a.map (wD (sm wt a)):=by rw[e1];rfl
 have et:n.cond.t=sm wt a:=by rw[e1];rfl
 obtain⟨i1,i2,_⟩:=aNZ ha
 have col:∀ f:Int->Q,aGU T M f->Dv (nm D (sm wt a)*T) (lin f n.cond.ps)/\bd (M+X) (lin f n.cond.ps):=fun f hf=>by
  rw[ep,aHz]
  exact aBF coz hf ha (a1:=a) (a2:=[]) (by simp)
 have colu:∀ u,aGU T M (cvQ r u):=fun u=>⟨h.1,fun c=>h.2 u c⟩
 have colv:∀ c,aGU T M (fun u=>cvQ r u c):=fun c=>⟨h.1,fun u=>h.2 u c⟩
 refine⟨Nat.mul_pos n1 (Nat.mul_pos n1 h.1),fun x c=>?_⟩
 rw[cvQ]
 by_cases c1:x=n.node
 · rw[if_pos c1]
   by_cases c2:c=n.node
   · rw[if_pos c2]
     have inner:aGU (nm D (sm wt a)*T) (M+X) (fun u=>lin (cvQ r u) n.cond.ps):=⟨Nat.mul_pos n1 h.1,fun u=>col _ (colu u)⟩
     have outer:Dv (nm D (sm wt a)*(nm D (sm wt a)*T)) (lin (fun u=>lin (cvQ r u) n.cond.ps) n.cond.ps)/\bd (M+X+X) (lin (fun u=>lin (cvQ r u) n.cond.ps) n.cond.ps):=by
      have:=aBF coz inner ha (a1:=a) (a2:=[]) (by simp)
      rw[<- aHz,<- ep]at this
      exact this
     rw[et]
     exact⟨iL (rR _ i1) outer.1,aAr (uA i2 outer.2) (by omega)⟩
   · rw[if_neg c2]
     obtain⟨g1,g2⟩:=col _ (colv c)
     exact⟨sQ g1 (Nat.dvd_mul_left _ _),aAr g2 (by omega)⟩
 · rw[if_neg c1]
   by_cases c2:c=n.node
   · rw[if_pos c2]
     obtain⟨g1,g2⟩:=col _ (colv x)
     exact⟨sQ g1 (Nat.dvd_mul_left _ _),aAr g2 (by omega)⟩
   · rw[if_neg c2]
     obtain⟨g1,g2⟩:=h.2 x c
     exact⟨sQ g1 (Nat.dvd_trans (Nat.dvd_mul_left _ _) (Nat.dvd_mul_left _ _)),aAr g2 (by omega)⟩
theorem aI0:∀ (b:List NQ) (k:Nat),zA k b->k+b.length<=5->∃ T,T<=epr k b.length*epr k b.length/\aPh T (b.length*(800+PP)) (cvQ b)
 | [],k,_,_=>⟨1,by simp[epr],by omega,fun a c=>⟨⟨0,by simp[cvQ]⟩,by unfold bd;simp[cvQ]⟩⟩
 | n::r,k,h,hk=>by
  obtain⟨⟨D,X,a,e1,ha,hD⟩,hr⟩:=h
  rw[List.length_cons]at hk
  obtain⟨T,t1,t2⟩:=aI0 r (k+1) hr (by omega)
  obtain⟨n1,n2⟩:=ha.nN
  have hX:=ha.hX
  have hP:=ha.hP
  have s:=aMz e1 ha t2
  refine⟨_,?_,s.1,fun x c=>⟨(s.2 x c).1,aAr (s.2 x c).2 ?_⟩⟩
  · rw[List.length_cons,epr]
    have hN:nm D (sm wt a)<=ex k:=Nat.le_trans n2 hD
    calc nm D (sm wt a)*(nm D (sm wt a)*T)<=ex k*(ex k*(epr (k+1) r.length*epr (k+1) r.length)):=Nat.mul_le_mul hN (Nat.mul_le_mul hN t1)
     _=ex k*epr (k+1) r.length*(ex k*epr (k+1) r.length):=by simp only[Nat.mul_assoc,Nat.mul_left_comm,Nat.mul_comm]
  · have e:(r.length+1)*(800+PP)=r.length*(800+PP)+(800+PP):=Nat.succ_mul _ _
    rw[List.length_cons,e];omega
theorem aIG (n:NQ)(r:List NQ):qE (n::r)=n.cond.toC::qE r:=rfl
theorem aGA {b:List NQ}(hn:∀ n∈b,n.cond.node=n.node){u:Int}:u∈bK (qE b)↔u=0\/∃ c∈b,c.node=u:=by
 rw[qF]
 unfold qE
 constructor
 · rintro(h | ⟨d,hd,e⟩)
   · exact .inl h
   · obtain⟨c,hc,rfl⟩:=List.mem_map.1 hd
     exact .inr ⟨c,hc,by rw[<- hn c hc];exact e⟩
 · rintro(h | ⟨c,hc,e⟩)
   · exact .inl h
   · exact .inr ⟨c.cond.toC,List.mem_map_of_mem hc,by rw[<- e];exact hn c hc⟩
theorem aN4:∀ {b:List NQ} {k:Nat},Dn b->Pin b->zA k b->k+b.length<=5->(∀ n∈b,1<=n.node/\n.node<=9)->
 sY (qE b)/\∀ x y,(x=0\/∃ c∈b,c.node=x)->(y=0\/∃ c∈b,c.node=y)->Cst (qE b) x y=ofQ (cvQ b x y)
 | [],k,_,_,_,_,_=>⟨trivial,fun x y _ _=>by show dG 0=ofQ 0;exact aBh⟩
 | n::r,k,d,hp,hb,hk,h9=>by
  obtain⟨⟨D,X,a,e1,ha,hD⟩,hr⟩:=hb
  rw[List.length_cons]at hk
  have hpw:=(List.pairwise_cons.1 d.1).1
  obtain⟨gr,ih⟩:=aN4 d.tail (hp.tail d) hr (by omega) (fun m hm=>h9 m (by simp[hm]))
  obtain⟨T,t1,t2⟩:=aI0 r (k+1) hr (by omega)
  obtain⟨nn,ncn⟩:=d.2 n (by simp)
  have hn9:=h9 n (by simp)
  have rn:∀ m∈r,m.cond.node=m.node:=fun m hm=>(d.2 m (by simp[hm])).2
  have hps:∀ u∈psN n.cond,u=0\/∃ c∈r,c.node=u:=fun u hu=>by
   rcases hp n (by simp) u hu with h0 | ⟨c,hc,e⟩
   · exact .inl h0
   · rcases List.mem_cons.1 hc with rfl | hc
     · exact absurd (e▸hu) nn
     · exact .inr ⟨c,hc,e⟩
  have ep:n.cond.ps=a.map (wD (sm wt a)):=by rw[e1];rfl
  have et:n.cond.t=sm wt a:=by rw[e1];rfl
  have efp:n.cond.toC.fParents=a.map fun y=>(wD (sm wt a) y).toP:=by
   show n.cond.ps.map PQ.toP=_
   rw[ep,List.map_map];rfl
  have efn:n.cond.toC.fNode=n.node:=ncn
  have eft:n.cond.toC.fTotal=ofQ (sm wt a):=by rw[<- et];rfl
  have pin:∀ q∈n.cond.toC.fParents,q.fNode=0\/∃ c∈r,c.node=q.fNode:=fun q hq=>hps _ (by rw[<- aFB];exact List.mem_map_of_mem hq)
  have epe:=aMs (k:=k+1) (n:=r.length) (by omega)
  have tP:T<=PP ^ 4:=Nat.le_trans t1 (qY epe epe)
  have pp:400<=PP:=by decide
  have hP:=ha.hP
  have hX:=ha.hX
  obtain⟨n1,n2⟩:=ha.nN
  have nP:nm D (sm wt a)<=PP ^ 1:=by rw[Nat.pow_one];omega
  have rl:r.length<=4:=by omega
  have hM:r.length*(800+PP)<=4*(800+PP):=Nat.mul_le_mul_right _ rl
  have big:800*4<=PP:=by decide
  obtain⟨i1,i2,i3⟩:=aNZ ha
  have z0:(0:Q)+pS (fun _=>0) (fun _=>0) [] / sm wt a=0:=by unfold pS;simp only[sm];grind
  have row:∀ y,(y=0\/∃ c∈r,c.node=y)->newRow n.cond.toC (Cst (qE r)) y=ofQ (lin (fun u=>cvQ r u y) n.cond.ps):=fun y hy=>by
   unfold newRow
   rw[aBi (g:=fun u=>ofQ ((fun u=>cvQ r u y) u)) fun q hq=>ih _ _ (pin q hq) hy,efp,aBh]
   have:=aIr ha (f:=fun u=>cvQ r u y) ⟨t2.1,fun u=>t2.2 u y⟩ (iB tP (by omega)) (by omega) (s:=0) ⟨0,by simp⟩ ⟨by have:=sE PP;grind,sE PP⟩ [] a rfl
   rw[ep,aHz]
   have e0:(0:Q)+pS (fun u=>cvQ r u y) (fun _=>0) [] / sm wt a=0:=by unfold pS;simp only[sm];grind
   rw[e0]at this
   rw[this]
   congr 1;grind
  have own:aBl n.cond.toC (Cst (qE r))=ofQ (1 / n.cond.t+lin (fun u=>lin (cvQ r u) n.cond.ps) n.cond.ps):=by
   unfold aBl
   rw[aBi (g:=fun u=>ofQ ((fun u=>lin (cvQ r u) n.cond.ps) u)) fun q hq=>by
    rw[row _ (pin q hq)]
    congr 1
    exact mN fun x _=>yV r _ _,efp,eft]
   have ft:=ha.ftot
   have hpos:=ha.pos
   have one:dG 1=ofQ 1:=aNT
   have f1:bN 1:=aEv (z:=1) (by decide)
   rw[one,aKW f1 ft (by grind) i3]
   have inner:aGU (nm D (sm wt a)*T) (r.length*(800+PP)+X) (fun u=>lin (cvQ r u) n.cond.ps):=⟨Nat.mul_pos n1 t2.1,fun u=>by
    show Dv _ (lin (cvQ r u) n.cond.ps)/\bd _ (lin (cvQ r u) n.cond.ps)
    rw[ep,aHz]
    exact aBF coz ⟨t2.1,fun c=>t2.2 u c⟩ ha (a1:=a) (a2:=[]) (by simp)⟩
   have:=aIr ha inner (iB (qY nP tP) (by omega)) (by omega) (s:=1 / sm wt a) (rR _ i1) (aAr i2 (by omega)) [] a rfl
   have e0:1 / sm wt a+pS (fun u=>lin (cvQ r u) n.cond.ps) (fun _=>0) [] / sm wt a=1 / sm wt a:=by unfold pS;simp only[sm];grind
   rw[e0]at this
   rw[this,et]
   congr 2
   rw[ep,aHz]
  have nr:∀ y,(y=0\/∃ c∈n::r,c.node=y)->¬y=n.node->(y=0\/∃ c∈r,c.node=y):=fun y hy hne=>by
   rcases hy with h0 | ⟨c,hc,e⟩
   · exact .inl h0
   · rcases List.mem_cons.1 hc with rfl | hc
     · exact absurd e.symm hne
     · exact .inr ⟨c,hc,e⟩
  refine⟨⟨by rw[efn];exact hn9,?_,fun q hq=>⟨?_,?_⟩,?_,?_,gr⟩,fun x y hx hy=>?_⟩
  · rw[efn]
    intro hm
    rcases(aGA rn).1 hm with h0 | ⟨c,hc,e⟩
    · omega
    · exact(hpw c hc).2 e.symm
  · rw[efp]at hq
    obtain⟨y,hy,rfl⟩:=List.mem_map.1 hq
    obtain⟨s1,s2,s3⟩:=uY ha hy
    have fs:bN (y.w / sm wt a):=aDU n1 (by omega) (by grind) s3 s1
    exact oS fs
  · exact(aGA rn).2 (pin q hq)
  · rw[eft];exact oS ha.ftot
  · rw[efp,List.length_map]
    have:=aEr ha.inc fun x hx=>(ha.nd x hx).1
    omega
  · rw[aIG]
    show aEX n.cond.toC (Cst (qE r)) x y=_
    unfold aEX
    rw[efn,cvQ]
    by_cases c1:x=n.node
    · rw[if_pos c1,if_pos c1]
      by_cases c2:y=n.node
      · rw[if_pos c2,if_pos c2];exact own
      · rw[if_neg c2,if_neg c2];exact row y (nr y hy c2)
    · rw[if_neg c1,if_neg c1]
      by_cases c2:y=n.node
      · rw[if_pos c2,if_pos c2];exact row x (nr x hx c1)
      · rw[if_neg c2,if_neg c2];exact ih x y (nr x hx c1) (nr y hy c2)
theorem aJ3 {l:List QL}{o:List Int}(h:Tie l o){a c:Int}(ha:a=0\/a∈o)(hc:c=0\/c∈o):iF (lG l o) a c=some (ofQ (cvT l o a c)):=by
 have hz:=h.tsz
 have nb:=h.netB
 obtain⟨g,e⟩:=aN4 nb.dn h.pin nb.nb (by have:=nb.len;omega) (fun n hn=>(nb.each n hn).2.1)
 obtain⟨h9,hn⟩:=aDr h.isTree
 have e2:(lG l o).fNodes.map (·.fCond)=qE (bR l o o []):=by
  unfold lG qE
  simp only[List.map_map]
  rfl
 have net:=aPs (t:=lG l o) (by omega) (fun n hn'=>by have:=(hn n hn').2.2;omega) (by omega)
 rw[e2]at net
 unfold iF
 rw[net]
 simp only[Option.bind_some]
 rw[aNp g nb.isNet]
 unfold aLG
 have inN:∀ u,(u=0\/u∈o)->u∈bK (qE (bR l o o [])):=fun u hu=>(aGA fun n hn=>(nb.dn.2 n hn).2).2 (hu.imp id tA)
 rw[if_pos ⟨inN a ha,inN c hc⟩,e a c (ha.imp id tA) (hc.imp id tA)]
 rfl
theorem aMA {l:List QL}{o:List Int}(h:Tie l o):∃ T,0<T/\T<=PP ^ 4/\∀ a c,Dv T (cvT l o a c)/\bd (5*(800+PP)) (cvT l o a c):=by
 have nb:=h.netB
 have hl:=nb.len
 obtain⟨T,t1,t2,t3⟩:=aI0 _ 0 nb.nb (by omega)
 have ep:=aMs (k:=0) (n:=(bR l o o []).length) (by omega)
 exact⟨T,t2,Nat.le_trans t1 (qY ep ep),fun a c=>⟨(t3 a c).1,aAr (t3 a c).2 (Nat.mul_le_mul_right _ hl)⟩⟩
end Go.Ev
/- Relative variances. -/
namespace Go.Ev
set_option linter.all false
set_option maxHeartbeats 1000000
def aLk (p q:Q):Int:=if p<q then -1 else if p=q then 0 else 1
theorem aMD (n m:Nat):oO n m=if n<m then -1 else if n=m then 0 else 1:=by
 unfold oO
 by_cases c:n<m
 · simp[c]
 · by_cases d:n=m <;> simp[c,d] <;> omega
theorem aI9 (x y:Int)(hx:bl x<=1000)(hy:bl y<=1000):tN (big x) (big y)=some (if x<y then -1 else if x=y then 0 else 1):=by
 unfold bl at hx hy
 have i1:=zZ x.natAbs y.natAbs hx hy
 have i2:=zZ y.natAbs x.natAbs hy hx
 rw[aMD]at i1 i2
 unfold tN
 simp only[big,i1,i2,Option.bind_some]
 by_cases cx:x<0
 · by_cases cy:y<0
   · by_cases c1:y.natAbs<x.natAbs
     · have:x<y:=by omega
       simp[cx,cy,c1,this]
     · by_cases c2:y.natAbs=x.natAbs
       · have:x=y:=by omega
         simp[cx,cy,c1,c2,this]
       · have h1:¬x<y:=by omega
         have h2:¬x=y:=by omega
         simp[cx,cy,c1,c2,h1,h2]
   · have:x<y:=by omega
     simp[cx,cy,this]
 · by_cases cy:y<0
   · have h1:¬x<y:=by omega
     have h2:¬x=y:=by omega
     simp[cx,cy,h1,h2]
   · by_cases c1:x.natAbs<y.natAbs
     · have:x<y:=by omega
       simp[cx,cy,c1,this]
     · by_cases c2:x.natAbs=y.natAbs
       · have:x=y:=by omega
         simp[cx,cy,c1,c2,this]
       · have h1:¬x<y:=by omega
         have h2:¬x=y:=by omega
         simp[cx,cy,c1,c2,h1,h2]
theorem aLx {p q:Q}(hp:bN p)(hq:bN q):tM (ofQ p) (ofQ q)=some (aLk p q):=by
 obtain⟨a1,a2,a3⟩:=jK hp
 obtain⟨b1,b2,b3⟩:=jK hq
 have c1:bl (q.den:Int)<=24:=by unfold bl;rw[Int.natAbs_natCast];exact b3
 have c2:bl (p.den:Int)<=24:=by unfold bl;rw[Int.natAbs_natCast];exact a3
 have c3:=wB p.num q.den
 have c4:=wB q.num p.den
 unfold tM
 rw[aMj hp,aMj hq]
 simp only[Option.bind_some,if_true,Bool.not_true,Bool.false_eq_true,if_false]
 unfold ofQ dZ
 simp only[Option.bind_some]
 rw[wT,wT,rO p.num q.den (by omega) (by omega) (by omega),rO q.num p.den (by omega) (by omega) (by omega)]
 simp only[Option.bind_some]
 rw[aI9 _ _ (by omega) (by omega)]
 simp only[Option.bind_some]
 congr 1
 unfold aLk
 have e1:(p.num*(q.den:Int)<q.num*(p.den:Int))↔p<q:=(_root_.Rat.lt_iff p q).symm
 have e2:(p.num*(q.den:Int)=q.num*(p.den:Int))↔p=q:=by
  constructor
  · intro h
    have h1:p<=q:=(_root_.Rat.le_iff p q).2 (by omega)
    have h2:q<=p:=(_root_.Rat.le_iff q p).2 (by omega)
    grind
  · rintro rfl;rfl
 simp only[e1,e2]
theorem aIb {p q:Q}(hp:bN p)(hq:bN q):qI (ofQ p) (ofQ q)=some (aLk p q):=by
 unfold qI
 rw[aNj hp,aNj hq]
 simp only[Option.bind_some,if_true,Bool.not_true,Bool.false_eq_true,if_false]
 rw[aLx hp hq]
 try rfl
theorem aJs {p q:Q}:aLk p q<=0↔p<=q:=by
 unfold aLk
 constructor
 · intro h
   split at h
   · grind
   · split at h
     · grind
     · omega
 · intro h
   split
   · omega
   · split
     · omega
     · grind
theorem aLv {p q:Q}(hp:bN p)(hq:bN q)(h:bN (p-q)):dM (ofQ p) (ofQ q)=some (ofQ (p-q)):=by
 have e:=(aFd (jN hp) (jN hq)).2.1
 rw[aMS hp hq h]at e;exact e
section
variable {l:List QL}{o:List Int}
def rvT (l:List QL)(o:List Int)(a b:Int):Q:=cvT l o a a+cvT l o b b-2*cvT l o a b
theorem aG9 (h:Tie l o):∃ T,0<T/\T<=PP ^ 4/\∀ a c,Dv T (cvT l o a c)/\bd (5*(800+PP)) (cvT l o a c)/\Dv T (rvT l o a c)/\bd (20*(800+PP)) (rvT l o a c)/\bN (cvT l o a c)/\bN (rvT l o a c):=by
 obtain⟨T,t1,t2,t3⟩:=aMA h
 have pp:1600<=PP:=by decide
 have d2:Dv 1 2:=aCs 2
 refine⟨T,t1,t2,fun a c=>?_⟩
 obtain⟨x1,x2⟩:=t3 a a
 obtain⟨y1,y2⟩:=t3 c c
 obtain⟨z1,z2⟩:=t3 a c
 have w1:=uD d2 z1
 rw[Nat.one_mul]at w1
 have b2:bd 2 (2:Q):=by
  have e:((2:Nat):Q)=2:=rfl
  unfold bd;rw[e];constructor <;> grind
 have w2:=nZ b2 z2
 have r1:Dv T (rvT l o a c):=xJ (iL x1 y1) w1
 have r2:bd (20*(800+PP)) (rvT l o a c):=aAr (aEH (uA x2 y2) w2) (by omega)
 exact⟨z1,z2,r1,r2,vX t1 z1 z2 (by omega) (iB t2 (by omega)),vX t1 r1 r2 (by omega) (iB t2 (by omega))⟩
theorem aLr (h:Tie l o){a c:Int}(ha:a=0\/a∈o)(hc:c=0\/c∈o):dD (lG l o) a c=some (ofQ (rvT l o a c)):=by
 obtain⟨T,t1,t2,t3⟩:=aG9 h
 obtain⟨x1,x2,_,_,fx,_⟩:=t3 a a
 obtain⟨y1,y2,_,_,fy,_⟩:=t3 c c
 obtain⟨z1,z2,_,_,fz,fr⟩:=t3 a c
 have pp:1600<=PP:=by decide
 have d2:Dv 1 2:=aCs 2
 have w1:=uD d2 z1
 rw[Nat.one_mul]at w1
 have b2:bd 2 (2:Q):=by
  have e:((2:Nat):Q)=2:=rfl
  unfold bd;rw[e];constructor <;> grind
 have w2:=nZ b2 z2
 have fs:=vX t1 (iL x1 y1) (uA x2 y2) (by omega) (iB t2 (by omega))
 have fm:=vX t1 w1 w2 (by omega) (iB t2 (by omega))
 have two:dG 2=ofQ 2:=yC (by decide)
 have f2:bN 2:=aEv (z:=2) (by decide)
 unfold dD fZ
 rw[aJ3 h ha ha,aJ3 h hc hc]
 simp only[Option.bind_some]
 rw[aHd fx fy fs]
 simp only[Option.bind_some]
 rw[dF 2 (by omega),two]
 simp only[Option.bind_some]
 rw[aJ3 h ha hc]
 simp only[Option.bind_some]
 rw[aLw f2 fz fm]
 simp only[Option.bind_some]
 rw[aLv fs fm fr]
 try rfl
theorem aLm (h:Tie l o)(a:Int):rvT l o 0 a=cvT l o a a:=by
 unfold rvT
 rw[aB1 h,aB1 h];grind
theorem aNb (h:Tie l o){a b:Int}(ha:a∈o)(hb:b∈o):0<rvT l o a b↔a≠b:=by
 constructor
 · rintro hp rfl
   unfold rvT at hp;grind
 · intro hne
   have e:=aPl h (p:=fun u=>cvT l o u a) (aB1 h a) (.inr hb)
   have s:=aFh h (.inr ha)
   have er:sm (e0 (fun u=>cvT l o u a-cvT l o u b)) l=rvT l o a b:=by
    rw[e,s]
    unfold rvT
    rw[aJ0 b a];grind
   have nn:=aLh h (fun u=>cvT l o u a-cvT l o u b)
   rw[er]at nn
   have key:¬rvT l o a b<=0:=fun hz=>by
    have z:=aMu h (p:=fun u=>cvT l o u a-cvT l o u b) (by
     show cvT l o 0 a-cvT l o 0 b=0
     rw[aB1 h,aB1 h];grind) (by rw[er];exact hz)
    have ef:(fun u=>cvT l o u a)=fun u=>cvT l o u b:=funext fun u=>by
     by_cases c:u∈o
     · have:=z u c;grind
     · show cvT l o u a=cvT l o u b
       rw[aJ1 h c,aJ1 h c]
    have p0:(fun u:Int=>if u=a then(1:Q)else 0) 0=0:=by
     have:=(h.five a ha).1
     show(if(0:Int)=a then(1:Q)else 0)=0
     rw[if_neg (by omega)]
    have b1:=aHX h (p:=fun u:Int=>if u=a then(1:Q)else 0) p0 (.inr ha)
    have b2:=aHX h (p:=fun u:Int=>if u=a then(1:Q)else 0) p0 (.inr hb)
    rw[ef]at b1
    rw[b1]at b2
    simp only[if_true]at b2
    rw[if_neg (fun e=>hne e.symm)]at b2
    revert b2
    decide
   grind
end
end Go.Ev
/- The law of relative variances. -/
namespace Go.Ev
set_option linter.all false
set_option maxHeartbeats 1000000
theorem aHk {code:List Int}{o:List Int}(hop:0<o.length)(ho5:o.length<=5)(h:code.length<=1048576){n:Int}(hn:0<=n/\n<=1000):∃ k v,lJ code n=some k/\idx o (k.tmod (o.length:Int))=some v/\v∈o:=by
 obtain⟨k,ek,k0,k1⟩:=aPr code n hn h
 have m0:=Int.tmod_nonneg (o.length:Int) k0
 have m1:=Int.tmod_lt_of_pos k (show(0:Int)<(o.length:Int)by omega)
 have hi:(k.tmod (o.length:Int)).toNat<o.length:=by omega
 refine⟨k,o[(k.tmod (o.length:Int)).toNat],ek,?_,List.getElem_mem hi⟩
 have:=aJ hi
 rw[show(((k.tmod (o.length:Int)).toNat:Nat):Int)=k.tmod (o.length:Int)by omega]at this
 exact this
theorem aLj {q:Q}(h:bN q):∃ s,gP (ofQ q)=some s/\(0<s↔0<q):=by
 have:=lA (jN h)
 exact⟨_,(uT (ofQ q) (by omega)).2,aGe h⟩
theorem aL8 (code:List Int)(_:okL (okI .u8) code):pN code=some true:=by
 unfold pN
 by_cases big:(1048576:Int)<(code.length:Int)
 · rw[if_pos big]
 rw[if_neg big]
 obtain⟨n,l,o,e1,hl,hn,ht⟩:=aOk code (by omega)
 have hz:=ht.tsz
 have nl:=aKr l o
 have ho5:=ht.base.len
 have eo:=aDt l o
 rw[e1];simp only[Option.bind_some]
 rw[aNi _ (by omega),eo];simp only[Option.bind_some]
 have ho:o≠[]:=by
  obtain⟨x,hx,e⟩:=hl.all 1 (by omega) (by omega)
  intro e2
  have:=(ht.mem 1).2 ⟨by omega,x,hx,.inr e⟩
  rw[e2]at this;cases this
 have hop:0<o.length:=List.length_pos_iff.2 ho
 rw[if_neg (by omega)]
 obtain⟨k1,a,ek1,ea,ha⟩:=aHk hop ho5 (code:=code) (by omega) (n:=1) (by omega)
 obtain⟨k2,b,ek2,eb,hb⟩:=aHk hop ho5 (code:=code) (by omega) (n:=2) (by omega)
 rw[ek1];simp only[Option.bind_some]
 rw[aL (by omega)];simp only[Option.bind_some]
 rw[ea];simp only[Option.bind_some]
 rw[ek2];simp only[Option.bind_some]
 rw[eb];simp only[Option.bind_some]
 rw[aLr ht (.inr ha) (.inr hb)];simp only[Option.bind_some]
 rw[aLr ht (.inl rfl) (.inr ha)];simp only[Option.bind_some]
 rw[aLr ht (.inl rfl) (.inr hb)];simp only[Option.bind_some]
 have ev:fZ (lG l o) a=some (ofQ (cvT l o a a)):=by
  unfold fZ
  rw[aJ3 ht (.inr ha) (.inr ha)]
  try rfl
 rw[ev];simp only[Option.bind_some]
 obtain⟨T,t1,t2,t3⟩:=aG9 ht
 obtain⟨_,_,x1,x2,_,fx⟩:=t3 a b
 obtain⟨_,_,y1,y2,_,fy⟩:=t3 0 a
 obtain⟨_,_,z1,z2,_,fz⟩:=t3 0 b
 have pp:1600<=PP:=by decide
 have fyz:=vX t1 (iL y1 z1) (uA y2 z2) (by omega) (iB t2 (by omega))
 have fxy:=vX t1 (iL x1 y1) (uA x2 y2) (by omega) (iB t2 (by omega))
 have sy:=lA (jN fy)
 rw[zJ _ _ (by omega),decide_eq_true (by rw[aLm ht])]
 simp only[Option.bind_some,if_true]
 rw[aIc fy fz fyz];simp only[Option.bind_some]
 rw[aIb fx fyz];simp only[Option.bind_some]
 have ey:=aLm ht a
 have ez:=aLm ht b
 have nn:=aMy ht a b
 have le:=aOK ht (v:=a) (.inr ha) b hb
 have sy':=aJ0 (l:=l) (o:=o) a b
 have c1:rvT l o a b<=rvT l o 0 a+rvT l o 0 b:=by
  rw[ey,ez];unfold rvT;grind
 have c2:rvT l o 0 b<=rvT l o a b+rvT l o 0 a:=by
  rw[ey,ez];unfold rvT;grind
 rw[if_pos (aJs.2 c1),aIc fx fy fxy];simp only[Option.bind_some]
 rw[aIb fz fxy];simp only[Option.bind_some]
 rw[if_pos (aJs.2 c2)]
 obtain⟨s1,g1,g2⟩:=aLj fx
 obtain⟨s2,h1,h2⟩:=aLj fy
 rw[g1];simp only[Option.bind_some]
 have e3:(decide (0<s1) == decide (a≠b))=true:=by
  rw[beq_iff_eq,decide_eq_decide,g2]
  exact aNb ht ha hb
 rw[if_pos e3,h1];simp only[Option.bind_some]
 rw[decide_eq_true (h2.2 (by rw[ey];exact aNv ht ha))]
end Go.Ev
