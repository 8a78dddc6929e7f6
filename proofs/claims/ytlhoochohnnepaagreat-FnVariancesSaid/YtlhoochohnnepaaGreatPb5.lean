/- Parts PU1, PU2, PU3, PU4, CC, DJ. -/
import Derived.Test.YtlhoochohnnepaaGreatPb1
import Derived.Test.YtlhoochohnnepaaGreatPb4
set_option linter.all false
set_option maxHeartbeats 4000000
set_option maxRecDepth 20000
/- Covariances of a net: sums over parents, the table as a function of its nodes. -/
namespace Go.Ev
noncomputable def aB9 (f:Int->Rat):List Parent->Rat->Rat
 | [],s=>s
 | p::ps,s=>aB9 f ps (RA s (RM p.fShare (f p.fNode)))
theorem aH5 {f:Int->Rat}:∀ {ps:List Parent} {s:Rat},VZ s->(∀ p∈ps,VZ p.fShare/\VZ (f p.fNode))->VZ (aB9 f ps s)
 | [],s,h,_=>h
 | p::ps,s,h,hp=>show VZ (aB9 f ps (RA s (RM p.fShare (f p.fNode))))from aH5 (yG h (aBa (hp p (by simp)).1 (hp p (by simp)).2).2.2).2.2 fun q hq=>hp q (by simp[hq])
theorem aCz {f g:Int->Rat}:∀ {ps:List Parent} {s:Rat},(∀ p∈ps,f p.fNode=g p.fNode)->aB9 f ps s=aB9 g ps s
 | [],_,_=>rfl
 | p::ps,s,h=>by
  unfold aB9
  rw[h p (by simp)];exact aCz fun q hq=>h q (by simp[hq])
theorem aOx {step:(Int×Rat)->Option ((Int×Rat) ⊕ Rat)}(ps:List Parent)(f:Int->Rat)(hv:∀ p∈ps,VZ p.fShare/\VZ (f p.fNode))
 (h1:∀ (k:Nat) (hk:k<ps.length) (s:Rat),VZ s->step ((k:Int),s)=some (.inl (((k+1:Nat):Int),RA s (RM (ps[k]).fShare (f (ps[k]).fNode))))) (h2:∀ s:Rat,step ((ps.length:Int),s)=some (.inr s)) (s:Rat) (hs:VZ s):lp step (0,s)=some (aB9 f ps s):=by
 have main:∀ m k:Nat,m+k=ps.length->∀ s,VZ s->lp step ((k:Int),s)=some (aB9 f (ps.drop k) s):=by
  intro m
  induction m with
  | zero =>
   intro k hk s hs
   obtain rfl:k=ps.length:=by omega
   rw[aUo]
   exact aK (h2 s)
  | succ m ih =>
   intro k hk s hs
   have hlt:k<ps.length:=by omega
   obtain⟨g1,g2⟩:=hv _ (aTv hlt)
   rw[aQ (h1 k hlt s hs),aTh hlt]
   exact ih (k+1) (by omega) _ (yG hs (aBa g1 g2).2.2).2.2
 have:=main ps.length 0 (by omega) s hs
 rw[aTZ]at this;exact this
noncomputable def newRow (c:Conditional)(C:Int->Int->Rat)(y:Int):Rat:=aB9 (fun p=>C p y) c.fParents (dN 0)
theorem aHw {c:Conditional}{nodes:List Int}{C:Int->Int->Rat}(hp:∀ p∈c.fParents,VZ p.fShare/\p.fNode∈nodes)(hC:∀ x∈nodes,∀ y∈nodes,VZ (C x y)){y:Int}(hy:y∈nodes):VZ (newRow c C y) :=
 aH5 yT fun p h=>⟨(hp p h).1,hC _ (hp p h).2 _ hy⟩
noncomputable def aCF (c:Conditional)(C:Int->Int->Rat):Rat:=aB9 (newRow c C) c.fParents (RD (dN 1) c.fTotal)
theorem aIm:VZ (dN 1):=.inl (xJ 1 (by omega))
noncomputable def aGR (c:Conditional)(C:Int->Int->Rat)(x y:Int):Rat :=
 if x=c.fNode then(if y=c.fNode then aCF c C else newRow c C y)else if y=c.fNode then newRow c C x else C x y
/- Covariances of a net: the table of both programs. -/
def bS (l:List Conditional):List Int:=0::(l.map (·.fNode)).reverse
theorem wW (c:Conditional)(l:List Conditional):bS (c::l)=bS l++[c.fNode]:=by simp[bS]
theorem sQ {l:List Conditional}{x:Int}:x∈bS l↔x=0\/∃ d∈l,d.fNode=x:=by simp[bS]
def vL:List Conditional->Prop
 | []=>True
 | c::r=>(1<=c.fNode/\c.fNode<=9)/\c.fNode∉bS r/\(∀ p∈c.fParents,bD p.fShare/\p.fNode∈bS r)/\bD c.fTotal/\c.fParents.length<=4294967296/\vL r
theorem aFK:∀ (n:Nat) (l:List Int),l.Nodup->(∀ x∈l,0<=x/\x<n)->l.length<=n
 | 0,l,_,h=>by
  cases l with
  | nil=>simp
  | cons a r=>have:=h a (by simp);omega
 | n+1,l,hn,h=>by
  by_cases c:(n:Int)∈l
  · have h1:=aFK n (l.erase (n:Int)) (hn.erase _) (fun x hx=>by
     have h2:=h x (List.mem_of_mem_erase hx)
     have:x≠n:=by rintro rfl;exact(List.Nodup.mem_erase_iff hn).1 hx |>.1 rfl
     omega)
    rw[List.length_erase_of_mem c]at h1;omega
  · have h1:=aFK n l hn (fun x hx=>by
     have h2:=h x hx
     have:x≠n:=by rintro rfl;exact c hx
     omega)
    omega
theorem yA:∀ {l:List Conditional},vL l->(bS l).Nodup/\∀ x∈bS l,0<=x/\x<=9
 | [],_=>by simp[bS]
 | c::r,h=>by
  obtain⟨h1,h2,_,_,_,h3⟩:=h
  obtain⟨g1,g2⟩:=yA h3
  rw[wW]
  refine⟨aTw.2 ⟨g1,by simp,?_⟩,?_⟩
  · intro x hx y hy e
    simp at hy;subst hy;subst e;exact h2 hx
  · intro x hx
    rcases aTj.1 hx with hx | hx
    · exact g2 x hx
    · simp at hx;subst hx;omega
theorem aJS {l:List Conditional}(h:vL l):l.length<=9:=by
 obtain⟨g1,g2⟩:=yA h
 have:=aFK 10 _ g1 (fun x hx=>by have:=g2 x hx;omega)
 simp[bS]at this;omega
noncomputable def Cst:List Conditional->Int->Int->Rat
 | []=>fun _ _=>dN 0
 | c::r=>aGR c (Cst r)
theorem aJy {d:Nat}(h:0<d)(s:Bool):mkR s 0 d=dN 0:=by
 unfold mkR
 rw[aTc (by omega),Nat.gcd_zero_left,Nat.zero_div,Nat.div_self h]
 have e:aA 1=[1]:=kD.symm
 rw[e,aW,aTc (by simp)]
 simp[dN,big,aW]
theorem aBT:dN 0=⟨big 0,aA 1⟩:=by rw[<- kD];rfl
theorem aQq {r:Rat}(h:bD r):RM r (dN 0)=dN 0:=by
 obtain⟨n,d,rfl,h1,h2,h3,h4⟩:=zF h
 have q:=aBa (.inl h:VZ _) yT
 have e:bT ⟨big n,aA d⟩ (dN 0)=some (dN 0):=by
  rw[aBT,aFA n d 0 1 h1 (by omega) h2 h3 (by simp[bl,aW]) (by rw[<- kD];simp)]
  unfold aOr
  rw[Int.natAbs_zero,aVn,Nat.mul_one,aJy h1,aBT]
 have:=q.2.1
 rw[e]at this
 exact(Option.some.inj this).symm
theorem aQr:RA (dN 0) (dN 0)=dN 0:=by
 have q:=yG yT yT
 have e:bN (dN 0) (dN 0)=some (dN 0):=by
  rw[aBT,aBm 0 1 0 1 (by omega) (by omega) (by simp[bl,aW]) (by rw[<- kD];simp) (by simp[bl,aW]) (by rw[<- kD];simp)]
  unfold aIO
  simp only[Int.zero_mul,Int.add_zero,Int.natAbs_zero]
  rw[aJy (by omega),aBT]
 have:=q.2.1
 rw[e]at this
 exact(Option.some.inj this).symm
theorem aDI {f:Int->Rat}:∀ {ps:List Parent},(∀ p∈ps,bD p.fShare/\f p.fNode=dN 0)->aB9 f ps (dN 0)=dN 0
 | [],_=>rfl
 | p::ps,h=>by
  obtain⟨h1,h2⟩:=h p (by simp)
  show aB9 f ps (RA (dN 0) (RM p.fShare (f p.fNode)))=dN 0
  rw[h2,aQq h1,aQr]
  exact aDI fun q hq=>h q (by simp[hq])
theorem aI0:∀ {l:List Conditional},vL l->(∀ x∈bS l,∀ y∈bS l,VZ (Cst l x y))/\(∀ x∈bS l,Cst l x 0=dN 0/\Cst l 0 x=dN 0)
 | [],_=>⟨fun _ _ _ _=>yT,fun _ _=>⟨rfl,rfl⟩⟩
 | c::r,h=>by
  obtain⟨h1,h2,h3,h4,_,h5⟩:=h
  obtain⟨g1,g2⟩:=aI0 h5
  have hp:∀ p∈c.fParents,VZ p.fShare/\p.fNode∈bS r:=fun p hp=>⟨.inl (h3 p hp).1,(h3 p hp).2⟩
  have h0:(0:Int)∈bS r:=by simp[bS]
  have hr:∀ y∈bS r,VZ (newRow c (Cst r) y):=fun y hy=>aHw hp g1 hy
  have hr0:newRow c (Cst r) 0=dN 0:=aDI fun p hpp=>⟨(h3 p hpp).1,(g2 _ (h3 p hpp).2).1⟩
  have ho:VZ (aCF c (Cst r)):=aH5 (aCR aIm (.inl h4)).2.2 fun p hpp=>⟨(hp p hpp).1,hr _ (hp p hpp).2⟩
  constructor
  · intro x hx y hy
    rw[wW,aTj,aTU]at hx hy
    show VZ (aGR c (Cst r) x y)
    unfold aGR
    by_cases cx:x=c.fNode
    · rw[aTd cx]
      by_cases cy:y=c.fNode
      · rw[aTd cy];exact ho
      · rw[aTc cy];exact hr y (hy.resolve_right cy)
    · rw[aTc cx]
      by_cases cy:y=c.fNode
      · rw[aTd cy];exact hr x (hx.resolve_right cx)
      · rw[aTc cy];exact g1 x (hx.resolve_right cx) y (hy.resolve_right cy)
  · intro x hx
    rw[wW,aTj,aTU]at hx
    have n0:¬(0:Int)=c.fNode:=by omega
    show aGR c (Cst r) x 0=dN 0/\aGR c (Cst r) 0 x=dN 0
    unfold aGR
    rw[aTc n0,aTc n0,aTc n0]
    by_cases cx:x=c.fNode
    · rw[aTd cx,aTd cx];exact⟨hr0,hr0⟩
    · rw[aTc cx,aTc cx];exact g2 x (hx.resolve_right cx)
theorem aAK:∀ {l:List Conditional} (k:Nat),vL l->vL (l.drop k)
 | [],k,h=>by rw[List.drop_nil];exact h
 | c::r,0,h=>h
 | c::r,k+1,h=>aAK (l:=r) k h.2.2.2.2.2
/- Covariances of a net: the program's matrix. -/
theorem qR {α:Type}{l:List α}{i:Int}(h0:0<=i)(h1:i<l.length):∃ y,idx l i=some y:=by
 unfold idx;rw[aTd h0]
 exact⟨_,aTl (show i.toNat<l.length by omega)⟩
theorem xY {α:Type}{l:List α}{i j:Int}{v:α}(h0:0<=i)(h1:i<l.length)(h2:0<=j):idx (iB l i v) j=if i=j then some v else idx l j:=by
 unfold idx iB
 rw[aTd h2,aTd h2,List.getElem?_set]
 by_cases c:i=j
 · subst c
   rw[aTd rfl,aTd rfl,aTd (by omega)]
 · rw[aTc (by omega),aTc c]
theorem wY {α:Type}(l:List α)(i:Int)(v:α):(iB l i v).length=l.length:=by simp[iB]
def aE5 (M:List Rat)(k:Int):Prop:=∀ x:Int,0<=x->x<k->idx M x=some (dN 0)/\idx M (x*10)=some (dN 0)
theorem aRB:∀ (m k:Nat),m+k=10->∀ M:List Rat,M.length=100->aE5 M k->∃ M',lp fC ((k:Int),M)=some M'/\M'.length=100/\aE5 M' 10:=by
 intro m
 induction m with
 | zero =>
  intro k hk M hM hz
  obtain rfl:k=10:=by omega
  refine⟨M,aK ?_,hM,hz⟩
  unfold fC
  simp
 | succ m ih =>
  intro k hk M hM hz
  obtain⟨y1,q1⟩:=qR (l:=M) (i:=0*10) (by omega) (by omega)
  obtain⟨y2,q2⟩:=qR (l:=M) (i:=0*(10:Nat)+(k:Int)) (by omega) (by omega)
  have hM1:(iB M (0*(10:Nat)+(k:Int)) (dN 0)).length=100:=by rw[wY,hM]
  obtain⟨y3,q3⟩:=qR (l:=iB M (0*(10:Nat)+(k:Int)) (dN 0)) (i:=(k:Int)*10) (by omega) (by omega)
  obtain⟨y4,q4⟩:=qR (l:=iB M (0*(10:Nat)+(k:Int)) (dN 0)) (i:=(k:Int)*(10:Nat)+0) (by omega) (by omega)
  have e:fC ((k:Int),M)=some (.inl (((k+1:Nat):Int),iB (iB M (0*(10:Nat)+(k:Int)) (dN 0)) ((k:Int)*(10:Nat)+0) (dN 0))):=by
   unfold fC
   simp only[]
   rw[aTd (by omega),cO 0 (by omega)]
   simp only[aTb]
   rw[aM (by omega)]
   simp only[aTb]
   rw[q1]
   simp only[aTb]
   rw[aM (by omega)]
   simp only[aTb]
   rw[aJ,q2]
   simp only[aTb]
   rw[aJ,q3]
   simp only[aTb]
   rw[aJ,q4]
   simp only[aTb]
   rw[aJ,wi (by omega)];rfl
  rw[aQ e]
  refine ih (k+1) (by omega) _ (by rw[wY,wY,hM]) fun x hx0 hx1=>?_
  rw[xY (by omega) (by omega) hx0,xY (by omega) (by omega) hx0,xY (by omega) (by omega) (show(0:Int)<=x*10 by omega),xY (by omega) (by omega) (show(0:Int)<=x*10 by omega)]
  by_cases c:x=k
  · subst c
    rw[aTd (show(0*(10:Nat)+(k:Int)=(k:Int))by omega),aTd (show((k:Int)*(10:Nat)+0=(k:Int)*10)by omega)]
    exact⟨by split <;> rfl,rfl⟩
  · obtain⟨z1,z2⟩:=hz x hx0 (by omega)
    rw[z1,z2]
    refine⟨?_,?_⟩
    · split
      · rfl
      · split <;> rfl
    · split
      · rfl
      · split <;> rfl
structure MatIs (M:List Rat)(nodes:List Int)(C:Int->Int->Rat):Prop where
 len:M.length=100
 get:∀ x∈nodes,∀ y∈nodes,idx M (x*10+y)=some (C x y)
 zero:aE5 M 10
theorem aRA (c d:Conditional)(hc:c.fParents.length<=4294967296)(nodes:List Int)(hn:∀ x∈nodes,0<=x/\x<=9)(C:Int->Int->Rat)(M:List Rat)(hM:MatIs M nodes C)(hp:∀ p∈c.fParents,VZ p.fShare/\p.fNode∈nodes)(hC:∀ x∈nodes,∀ y∈nodes,VZ (C x y))(hd:d.fNode∈nodes) :
 lp (gV c M d) (0,dN 0)=some (newRow c C d.fNode):=by
 refine aOx c.fParents (fun p=>C p d.fNode) (fun p h=>⟨(hp p h).1,hC _ (hp p h).2 _ hd⟩) (fun k hk s hs=>?_) (fun s=>?_) _ yT
 · obtain⟨g1,g2⟩:=hp _ (aTv hk)
   have b1:=hn _ g2
   have b2:=hn _ hd
   have q1:=aBa g1 (hC _ g2 _ hd)
   obtain⟨y,qy⟩:=qR (l:=M) (i:=(c.fParents[k]).fNode*10) (by omega) (by rw[hM.len];omega)
   unfold gV
   simp only[]
   rw[aTd (by omega),aN hk]
   simp only[aTb]
   rw[aM (by omega)]
   simp only[aTb]
   rw[qy]
   simp only[aTb]
   rw[aM (by omega)]
   simp only[aTb]
   rw[aJ,show(((10:Nat):Int))=10 from rfl,hM.get _ g2 _ hd]
   simp only[aTb]
   rw[q1.2.1]
   simp only[aTb]
   rw[(yG hs q1.2.2).2.1]
   simp only[aTb]
   rw[wi (by omega)];rfl
 · unfold gV
   simp only[]
   rw[aTc (by omega)]
theorem aRy (c:Conditional)(hc:c.fParents.length<=4294967296)(hcn:0<=c.fNode/\c.fNode<=9)(nodes:List Int)(hn:∀ x∈nodes,0<=x/\x<=9)(g:Int->Rat)(M:List Rat)(hM:M.length=100)(hg:∀ x∈nodes,idx M (x*10+c.fNode)=some (g x))(hp:∀ p∈c.fParents,VZ p.fShare/\p.fNode∈nodes)(hv:∀ x∈nodes,VZ (g x))(s:Rat)(hs:VZ s) :
 lp (gU c M) (0,s)=some (aB9 g c.fParents s):=by
 refine aOx c.fParents g (fun p h=>⟨(hp p h).1,hv _ (hp p h).2⟩) (fun k hk s hs=>?_) (fun s=>?_) _ hs
 · obtain⟨g1,g2⟩:=hp _ (aTv hk)
   have b1:=hn _ g2
   have q1:=aBa g1 (hv _ g2)
   obtain⟨y,qy⟩:=qR (l:=M) (i:=(c.fParents[k]).fNode*10) (by omega) (by omega)
   unfold gU
   simp only[]
   rw[aTd (by omega),aN hk]
   simp only[aTb]
   rw[aM (by omega)]
   simp only[aTb]
   rw[qy]
   simp only[aTb]
   rw[aM (by omega)]
   simp only[aTb]
   rw[aJ,show(((10:Nat):Int))=10 from rfl,hg _ g2]
   simp only[aTb]
   rw[q1.2.1]
   simp only[aTb]
   rw[(yG hs q1.2.2).2.1]
   simp only[aTb]
   rw[wi (by omega)];rfl
 · unfold gU
   simp only[]
   rw[aTc (by omega)]
theorem aRz (l:List Conditional)(i:Nat)(hi:i<l.length)(hl:l.length<=9)(hg:vL (l.drop i))(M0:List Rat)(hM0:MatIs M0 (bS (l.drop (i+1))) (Cst (l.drop (i+1)))) :
 ∃ M',lp (dJ l l[i]) (((i+1:Nat):Int),M0)=some M'/\MatIs M' (bS (l.drop (i+1))) (Cst (l.drop (i+1)))/\∀ d∈l.drop (i+1),idx M' ((l[i]).fNode*10+d.fNode)=some (newRow l[i] (Cst (l.drop (i+1))) d.fNode)/\idx M' (d.fNode*10+(l[i]).fNode)=some (newRow l[i] (Cst (l.drop (i+1))) d.fNode):=by
 rw[aTh hi]at hg
 obtain⟨h1,h2,h3,h4,h5,h6⟩:=hg
 generalize hc:l[i]=c at *
 obtain⟨gn1,gn2⟩:=yA h6
 obtain⟨g1,g2⟩:=aI0 h6
 have hp:∀ p∈c.fParents,VZ p.fShare/\p.fNode∈bS (l.drop (i+1)):=fun p hp=>⟨.inl (h3 p hp).1,(h3 p hp).2⟩
 have main:∀ m j:Nat,m+j=l.length->i+1<=j->∀ M,MatIs M (bS (l.drop (i+1))) (Cst (l.drop (i+1)))->
  (∀ t (ht:t<l.length),i+1<=t->t<j->idx M (c.fNode*10+(l[t]).fNode)=some (newRow c (Cst (l.drop (i+1))) (l[t]).fNode)/\idx M ((l[t]).fNode*10+c.fNode)=some (newRow c (Cst (l.drop (i+1))) (l[t]).fNode))->
  ∃ M',lp (dJ l c) ((j:Int),M)=some M'/\MatIs M' (bS (l.drop (i+1))) (Cst (l.drop (i+1)))/\∀ t (ht:t<l.length),i+1<=t->idx M' (c.fNode*10+(l[t]).fNode)=some (newRow c (Cst (l.drop (i+1))) (l[t]).fNode)/\idx M' ((l[t]).fNode*10+c.fNode)=some (newRow c (Cst (l.drop (i+1))) (l[t]).fNode):=by
  intro m
  induction m with
  | zero =>
   intro j hj hij M hM hinv
   obtain rfl:j=l.length:=by omega
   refine⟨M,aK ?_,hM,fun t ht hit=>hinv t ht hit ht⟩
   unfold dJ
   simp only[]
   rw[aTc (by omega)]
  | succ m ih =>
   intro j hj hij M hM hinv
   have hlt:j<l.length:=by omega
   have hdm:l[j]∈l.drop (i+1):=by
    rw[List.mem_iff_getElem?]
    exact⟨j-(i+1),by rw[aUg,show i+1+(j-(i+1))=j by omega,aTl hlt]⟩
   have hdn:(l[j]).fNode∈bS (l.drop (i+1)):=sQ.2 (.inr ⟨_,hdm,rfl⟩)
   have hb:=gn2 _ hdn
   have hd1:1<=(l[j]).fNode:=by
    have hgd:=aAK (j-(i+1)) h6
    rw[List.drop_drop,show i+1+(j-(i+1))=j by omega,aTh hlt]at hgd
    exact hgd.1.1
   have hne:(l[j]).fNode≠c.fNode:=by intro e;rw[e]at hdn;exact h2 hdn
   generalize hd:l[j]=d at *
   let r:=newRow c (Cst (l.drop (i+1))) d.fNode
   let M1:=iB M (c.fNode*(10:Nat)+d.fNode) r
   let M2:=iB M1 (d.fNode*(10:Nat)+c.fNode) r
   have l0:=hM.len
   have l1:M1.length=100:=by show(iB _ _ _).length=_;rw[wY,l0]
   obtain⟨y1,q1⟩:=qR (l:=M) (i:=c.fNode*10) (by omega) (by omega)
   obtain⟨y2,q2⟩:=qR (l:=M) (i:=c.fNode*(10:Nat)+d.fNode) (by omega) (by omega)
   obtain⟨y3,q3⟩:=qR (l:=M1) (i:=d.fNode*10) (by omega) (by omega)
   obtain⟨y4,q4⟩:=qR (l:=M1) (i:=d.fNode*(10:Nat)+c.fNode) (by omega) (by omega)
   have e:dJ l c ((j:Int),M)=some (.inl (((j+1:Nat):Int),M2)):=by
    unfold dJ
    simp only[]
    rw[aTd (by omega),aN hlt,hd]
    simp only[aTb]
    rw[cO 0 (by omega)]
    simp only[aTb]
    rw[aRA c d h5 _ gn2 _ M hM hp g1 hdn]
    simp only[aTb]
    rw[aM (by omega)]
    simp only[aTb]
    rw[q1]
    simp only[aTb]
    rw[aM (by omega)]
    simp only[aTb]
    rw[aJ,q2]
    simp only[aTb]
    rw[aJ]
    rw[show iB M (c.fNode*(10:Nat)+d.fNode) (newRow c (Cst (l.drop (i+1))) d.fNode)=M1 from rfl,q3]
    simp only[aTb]
    rw[aJ,q4]
    simp only[aTb]
    rw[aJ,wi (by omega)];rfl
   have i2:∀ z:Int,0<=z->idx M2 z=if d.fNode*(10:Nat)+c.fNode=z then some r else if c.fNode*(10:Nat)+d.fNode=z then some r else idx M z:=by
    intro z hz
    show idx (iB M1 _ _) z=_
    rw[xY (by omega) (by omega) hz]
    by_cases cz:d.fNode*(10:Nat)+c.fNode=z
    · rw[aTd cz,aTd cz]
    · rw[aTc cz,aTc cz]
      show idx (iB M _ _) z=_
      rw[xY (by omega) (by omega) hz]
   rw[aQ e]
   refine ih (j+1) (by omega) (by omega) M2 ⟨by show(iB _ _ _).length=_;rw[wY,l1],fun x hx y hy=>?_,fun x hx0 hx1=>?_⟩ fun t ht hit htj=>?_
   · have b1:=gn2 x hx
     have b2:=gn2 y hy
     have c1:x≠c.fNode:=by rintro rfl;exact h2 hx
     have c2:y≠c.fNode:=by rintro rfl;exact h2 hy
     rw[i2 _ (by omega),aTc (by omega),aTc (by omega)]
     exact hM.get x hx y hy
   · obtain⟨z1,z2⟩:=hM.zero x hx0 hx1
     rw[i2 _ (by omega),i2 _ (by omega),aTc (by omega),aTc (by omega),aTc (by omega),aTc (by omega)]
     exact⟨z1,z2⟩
   · rcases Nat.lt_or_eq_of_le (Nat.le_of_lt_succ htj)with h | h
     · obtain⟨v1,v2⟩:=hinv t ht hit h
       have htn:(l[t]).fNode∈bS (l.drop (i+1)):=sQ.2 (.inr ⟨_,by
        rw[List.mem_iff_getElem?]
        exact⟨t-(i+1),by rw[aUg,show i+1+(t-(i+1))=t by omega,aTl ht]⟩,rfl⟩)
       have bt:=gn2 _ htn
       have ct:(l[t]).fNode≠c.fNode:=by intro e;rw[e]at htn;exact h2 htn
       rw[i2 _ (by omega),i2 _ (by omega)]
       by_cases ce:(l[t]).fNode=d.fNode
       · rw[ce,aTc (by omega),aTd (by omega),aTd (by omega)];exact⟨rfl,rfl⟩
       · rw[aTc (by omega),aTc (by omega),aTc (by omega),aTc (by omega)];exact⟨v1,v2⟩
     · subst h
       rw[hd,i2 _ (by omega),i2 _ (by omega),aTc (by omega),aTd (by omega),aTd (by omega)]
       exact⟨rfl,rfl⟩
 obtain⟨M',e1,e2,e3⟩:=main (l.length-(i+1)) (i+1) (by omega) (aTn _) M0 hM0 (fun t _ h1 h2=>by omega)
 refine⟨M',e1,e2,fun d hd=>?_⟩
 obtain⟨j,hj⟩:=List.getElem?_of_mem hd
 rw[aUg]at hj
 obtain⟨ht,rfl⟩:=aTH.1 hj
 exact e3 _ ht (by omega)
theorem aRx (l:List Conditional)(h:vL l):∀ k:Nat,k<=l.length->∀ M,MatIs M (bS (l.drop k)) (Cst (l.drop k))->∃ M',lp (eZ l) ((k:Int)-1,M)=some M'/\MatIs M' (bS l) (Cst l):=by
 have hl:=aJS h
 intro k
 induction k with
 | zero =>
  intro _ M hM
  rw[aTZ]at hM
  refine⟨M,aK ?_,hM⟩
  unfold eZ
  simp only[]
  rw[aTc (by simp)]
 | succ k ih =>
  intro hk M hM
  have hlt:k<l.length:=by omega
  have hg:=aAK k h
  obtain⟨M1,e1,e2,e3⟩:=aRz l k hlt hl hg M hM
  rw[aTh hlt]at hg
  obtain⟨h1,h2,h3,h4,h5,h6⟩:=hg
  generalize hc:l[k]=c at *
  obtain⟨gn1,gn2⟩:=yA h6
  obtain⟨g1,g2⟩:=aI0 h6
  have hp:∀ p∈c.fParents,VZ p.fShare/\p.fNode∈bS (l.drop (k+1)):=fun p hp=>⟨.inl (h3 p hp).1,(h3 p hp).2⟩
  have hr:∀ y∈bS (l.drop (k+1)),VZ (newRow c (Cst (l.drop (k+1))) y):=fun y hy=>aHw hp g1 hy
  have hr0:newRow c (Cst (l.drop (k+1))) 0=dN 0:=aDI fun p hpp=>⟨(h3 p hpp).1,(g2 _ (h3 p hpp).2).1⟩
  have l1:=e2.len
  have hrow:∀ x∈bS (l.drop (k+1)),idx M1 (c.fNode*10+x)=some (newRow c (Cst (l.drop (k+1))) x)/\idx M1 (x*10+c.fNode)=some (newRow c (Cst (l.drop (k+1))) x):=by
   intro x hx
   rcases sQ.1 hx with rfl | ⟨d,hd,rfl⟩
   · obtain⟨z1,z2⟩:=e2.zero c.fNode (by omega) (by omega)
     rw[Int.add_zero,Int.zero_mul,Int.zero_add,hr0];exact⟨z2,z1⟩
   · exact e3 d hd
  obtain⟨y1,q1⟩:=qR (l:=M1) (i:=c.fNode*10) (by omega) (by omega)
  obtain⟨y2,q2⟩:=qR (l:=M1) (i:=c.fNode*(10:Nat)+c.fNode) (by omega) (by omega)
  have hown:=aRy c h5 ⟨by omega,by omega⟩ _ gn2 (newRow c (Cst (l.drop (k+1)))) M1 l1 (fun x hx=>(hrow x hx).2) hp hr (RD (dN 1) c.fTotal) (aCR aIm (.inl h4)).2.2
  have e:eZ l (((k+1:Nat):Int)-1,M)=some (.inl ((k:Int)-1,iB M1 (c.fNode*(10:Nat)+c.fNode) (aCF c (Cst (l.drop (k+1)))))):=by
   unfold eZ
   simp only[]
   have ek:((k+1:Nat):Int)-1=(k:Int):=by omega
   rw[ek,aTd (by omega),aN hlt,hc]
   simp only[aTb]
   rw[wi (by omega),show(k:Int)+1=((k+1:Nat):Int)by omega,e1]
   simp only[aTb]
   rw[cO 1 (by omega)]
   simp only[aTb]
   rw[(aCR aIm (.inl h4)).2.1]
   simp only[aTb]
   rw[hown]
   simp only[aTb]
   rw[aM (by omega)]
   simp only[aTb]
   rw[q1]
   simp only[aTb]
   rw[aJ,q2]
   simp only[aTb]
   rw[aJ,wi (by omega)];rfl
  rw[aQ e]
  refine ih (by omega) _ ?_
  rw[aTh hlt,hc]
  have i2:∀ z:Int,0<=z->idx (iB M1 (c.fNode*(10:Nat)+c.fNode) (aCF c (Cst (l.drop (k+1))))) z=if c.fNode*(10:Nat)+c.fNode=z then some (aCF c (Cst (l.drop (k+1))))else idx M1 z:=fun z hz=>xY (by omega) (by omega) hz
  refine⟨by rw[wY,l1],fun x hx y hy=>?_,fun x hx0 hx1=>?_⟩
  · rw[wW,aTj,aTU]at hx hy
    have bx:0<=x/\x<=9:=hx.elim (gn2 x) (fun e=>by subst e;omega)
    have by_:0<=y/\y<=9:=hy.elim (gn2 y) (fun e=>by subst e;omega)
    rw[i2 _ (by omega)]
    show _=some (aGR c (Cst (l.drop (k+1))) x y)
    unfold aGR
    by_cases cx:x=c.fNode
    · rw[aTd cx]
      by_cases cy:y=c.fNode
      · rw[aTd cy,aTd (by subst cx;subst cy;omega)]
      · rw[aTc cy,aTc (by omega),cx];exact(hrow y (hy.resolve_right cy)).1
    · rw[aTc cx]
      by_cases cy:y=c.fNode
      · rw[aTd cy,aTc (by omega),cy];exact(hrow x (hx.resolve_right cx)).2
      · rw[aTc cy,aTc (by omega)];exact e2.get x (hx.resolve_right cx) y (hy.resolve_right cy)
  · obtain⟨z1,z2⟩:=e2.zero x hx0 hx1
    rw[i2 _ (by omega),i2 _ (by omega),aTc (by omega),aTc (by omega)]
    exact⟨z1,z2⟩
/- Covariances: the laws. -/
theorem aMa (l:List Conditional)(a:Int)(hl:l.length<=4294967296):uV l a=some (decide (a∈bS l)):=by
 have main:∀ m k:Nat,m+k=l.length->(lp (jW l a) (k:Int)=some (.inr true)/\∃ d∈l.drop k,d.fNode=a)\/(lp (jW l a) (k:Int)=some (.inl ())/\¬∃ d∈l.drop k,d.fNode=a):=by
  intro m
  induction m with
  | zero =>
   intro k hk
   refine .inr ⟨aK ?_,by rw[aTE (by omega)];simp⟩
   unfold jW
   rw[aTc (by omega)]
  | succ m ih =>
   intro k hk
   have hlt:k<l.length:=by omega
   rw[aTh hlt]
   by_cases c:(l[k]).fNode=a
   · refine .inl ⟨aK ?_,_,aVi,c⟩
     unfold jW
     rw[aTd (by omega),aN hlt]
     simp only[aTb]
     rw[aTd c]
   · have e:jW l a (k:Int)=some (.inl ((k+1:Nat):Int)):=by
      unfold jW
      rw[aTd (by omega),aN hlt]
      simp only[aTb]
      rw[aTc c,wi (by omega)];rfl
     rw[aQ e]
     rcases ih (k+1) (by omega)with⟨h1,d,h2,h3⟩ | ⟨h1,h2⟩
     · exact .inl ⟨h1,d,aTT _ h2,h3⟩
     · refine .inr ⟨h1,?_⟩
       rintro⟨d,hd,e⟩
       rcases aTf.1 hd with rfl | hd
       · exact c e
       · exact h2 ⟨d,hd,e⟩
 have:=main l.length 0 (by omega)
 rw[aTZ,show((0:Nat):Int)=0 from rfl]at this
 unfold uV
 rcases this with⟨h1,h2⟩ | ⟨h1,h2⟩
 · rw[h1]
   simp only[aTb]
   rw[aTg (sQ.2 (.inr h2))]
 · rw[h1]
   simp only[aTb]
   congr 1
   rw[decide_eq_decide,sQ]
   exact⟨fun h=>.inl h,fun h=>h.resolve_right h2⟩
noncomputable def aN8 (l:List Conditional)(a b:Int):Rat:=if a∈bS l/\b∈bS l then Cst l a b else nH
theorem aQa {l:List Conditional}(h:vL l)(hn:uX l=some true)(a b:Int):kN l a b=some (aN8 l a b):=by
 have hl:=aJS h
 obtain⟨gn1,gn2⟩:=yA h
 unfold kN aN8
 rw[hn,aMa l a (by omega),aMa l b (by omega)]
 simp only[aTb,aTz]
 by_cases ca:a∈bS l
 · rw[aTg ca]
   simp only[aTz,aTb]
   by_cases cb:b∈bS l
   · rw[aTg cb]
     simp only[aUh,aTk,aTD]
     obtain⟨M1,e1,e2,e3⟩:=aRB 10 0 (by omega) (List.replicate 100 (Rat.mk (BigInt.mk false ([])) ([]))) (by simp) (fun x h0 h1=>by omega)
     rw[show((0:Nat):Int)=0 from rfl]at e1
     rw[e1]
     simp only[aTb]
     have hM:MatIs M1 (bS (l.drop l.length)) (Cst (l.drop l.length)):=by
      rw[aUo]
      refine⟨e2,fun x hx y hy=>?_,e3⟩
      simp[bS]at hx hy
      subst hx;subst hy
      exact(e3 0 (by omega) (by omega)).1
     obtain⟨M2,f1,f2⟩:=aRx l h l.length (aTn _) M1 hM
     rw[aJ,wi (by omega),f1]
     simp only[aTb]
     have ba:=gn2 _ ca
     have bb:=gn2 _ cb
     obtain⟨y,q⟩:=qR (l:=M2) (i:=a*10) (by omega) (by rw[f2.len];omega)
     rw[aM (by omega)]
     simp only[aTb]
     rw[q]
     simp only[aTb]
     rw[aM (by omega)]
     simp only[aTb]
     rw[aJ,show(((10:Nat):Int))=10 from rfl,f2.get _ ca _ cb]
     simp only[aTb]
     rw[gG _ (VZs ((aI0 h).1 _ ca _ cb)),aTd ⟨ca,cb⟩];rfl
   · rw[aTe cb,aTc (show ¬(a∈bS l/\b∈bS l)from fun h=>cb h.2)];rfl
 · rw[aTe ca,aTc (show ¬(a∈bS l/\b∈bS l)from fun h=>ca h.1)];rfl
/- Covariances: the program's table is the one over the rational numbers. -/
theorem aD2 {T B:Nat}{q:Q}(hT:0<T)(h:Dv T q)(h1:bd B q)(b:B<=100*PP)(t:T<=PP ^ 6):bQ q:=by
 have h2:=uJ h1 b
 refine aDr hT h h2.1 h2.2 (by decide) (aUu (aTA _ t) ?_)
 rw[aLB];unfold PP;decide
theorem coz:Co (fun _=>0) (fun _=>0):=⟨fun _ _=>rfl,fun {D X y} _ h=>⟨⟨by have:=sG X;grind,sG X⟩,⟨0,by simp⟩,⟨0,by simp⟩⟩⟩
theorem aJG (f:Int->Q)(t:Q)(a:List QL):lin f (a.map (yI t))=sB f (fun _=>0) a / t:=by
 rw[<- aKa,aQX coz]
section
variable {D X T M:Nat}{v:Int}{a:List QL}{f:Int->Q}
theorem aQQ (h:Arms D X v a):Dv (nm D (sm wt a)) (1 / sm wt a)/\bd D (1 / sm wt a)/\bQ (1 / sm wt a):=by
 have hp:=h.pos
 have hN:=(yX h.hD hp (xG h.lk)).1
 obtain⟨n1,n2⟩:=h.nN
 have hP:=h.hP
 have d1:Dv (nm D (sm wt a)) (1 / sm wt a):=⟨(D:Int),by
  rw[hN]
  have e:((D:Int):Q)=(D:Q):=rfl
  rw[e];grind⟩
 have n1':(1:Q)<=(nm D (sm wt a):Q):=by
  have:=aFN (m:=1) (n:=nm D (sm wt a)) n1
  have e:((1:Nat):Q)=1:=rfl
  rw[e]at this;exact this
 have b1:bd D (1 / sm wt a):=aCO hp (by have:=sG D;have:=aTV this (Std.le_of_lt hp);grind) (by grind)
 exact⟨d1,b1,aD2 n1 d1 b1 (by omega) (lI (a:=1) (by rw[aUA];omega) (by omega))⟩
theorem aKv (h:Arms D X v a)(hf:aIS T M f)(hT:T<=PP ^ 5)(hM:M<=8*PP){s:Q}(ds:Dv (nm D (sm wt a)*T) s)(bs:bd PP s):∀ a1 a2:List QL,a=a1++a2->
 aB9 (fun u=>ofQ (f u)) (a2.map fun y=>(yI (sm wt a) y).toP) (ofQ (s+sB f (fun _=>0) a1 / sm wt a))=ofQ (s+sB f (fun _=>0) a / sm wt a)
 | a1,[],e=>by
  rw[aUf]at e
  rw[aT8,aB9,<- e]
 | a1,y::a2,e=>by
  have hy:y∈a:=by rw[e];simp
  obtain⟨n1,n2⟩:=h.nN
  have hP:=h.hP
  have hX:=h.hX
  have nP:nm D (sm wt a)<=PP ^ 1:=by rw[aUA];omega
  have pp:400<=PP:=by decide
  have NT:=tO nP hT
  have NT0:=aTW n1 hf.1
  obtain⟨s1,s2,s3⟩:=zZ h hy
  obtain⟨f1,f2⟩:=hf.2 y.a
  have e1:y.w / sm wt a*f y.a=sB f (fun _=>0) [y] / sm wt a:=by
   unfold sB
   simp only[sm]
   grind
  obtain⟨q1,q2⟩:=aLR coz hf h (a1:=[y]) (by simpa using h.lk y hy) (by have:=wM h.lk hy;simp only[sm];unfold wt at *;grind)
  obtain⟨r1,r2⟩:=aC5 coz hf h (a1:=a1) (a2:=y::a2) e
  obtain⟨t1,t2⟩:=aC5 coz hf h (a1:=a1++[y]) (a2:=a2) (by rw[e];simp)
  have ff:=aD2 hf.1 f1 f2 (by omega) (lI hT (by omega))
  have fs:=aFI n1 (by omega) (by grind) s3 s1
  have fp:bQ (y.w / sm wt a*f y.a):=by rw[e1];exact aD2 NT0 q1 q2 (by omega) NT
  have fa:=aD2 NT0 (kS ds r1) (aBJ bs r2) (by omega) NT
  have eq:s+sB f (fun _=>0) a1 / sm wt a+y.w / sm wt a*f y.a=s+sB f (fun _=>0) (a1++[y]) / sm wt a:=by
   rw[e1,aNq]
   have:=h.pos
   grind
  have fb:bQ (s+sB f (fun _=>0) a1 / sm wt a+y.w / sm wt a*f y.a):=by rw[eq];exact aD2 NT0 (kS ds t1) (aBJ bs t2) (by omega) NT
  rw[aTo,aB9]
  have ps:(yI (sm wt a) y).toP.fShare=ofQ (y.w / sm wt a):=rfl
  have pn:(yI (sm wt a) y).toP.fNode=y.a:=rfl
  rw[ps,pn,aGF fs ff fp,aGG fa fp fb,eq]
  exact aKv h hf hT hM ds bs (a1++[y]) a2 (by rw[e];simp)
end
def aSf (T M:Nat)(C:Int->Int->Q):Prop:=0<T/\∀ a c,Dv T (C a c)/\bd M (C a c)
theorem aO5 {n:NQ}{r:List NQ}{D X T M:Nat}{a:List QL}(e1:n.cond=rT n.node a)(ha:Arms D X n.node a)(h:aSf T M (cvQ r)):aSf (nm D (sm wt a)*(nm D (sm wt a)*T)) (M+2*X+D) (cvQ (n::r)):=by
 obtain⟨n1,n2⟩:=ha.nN
 have ep:n.cond.ps=a.map (yI (sm wt a)):=by rw[e1];rfl
 have et:n.cond.t=sm wt a:=by rw[e1];rfl
 obtain⟨i1,i2,_⟩:=aQQ ha
 have col:∀ f:Int->Q,aIS T M f->Dv (nm D (sm wt a)*T) (lin f n.cond.ps)/\bd (M+X) (lin f n.cond.ps):=fun f hf=>by
  rw[ep,aJG]
  exact aC5 coz hf ha (a1:=a) (a2:=[]) (by simp)
 have colu:∀ u,aIS T M (cvQ r u):=fun u=>⟨h.1,fun c=>h.2 u c⟩
 have colv:∀ c,aIS T M (fun u=>cvQ r u c):=fun c=>⟨h.1,fun u=>h.2 u c⟩
 refine⟨aTW n1 (aTW n1 h.1),fun x c=>?_⟩
 rw[cvQ]
 by_cases c1:x=n.node
 · rw[aTd c1]
   by_cases c2:c=n.node
   · rw[aTd c2]
     have inner:aIS (nm D (sm wt a)*T) (M+X) (fun u=>lin (cvQ r u) n.cond.ps):=⟨aTW n1 h.1,fun u=>col _ (colu u)⟩
     have outer:Dv (nm D (sm wt a)*(nm D (sm wt a)*T)) (lin (fun u=>lin (cvQ r u) n.cond.ps) n.cond.ps)/\bd (M+X+X) (lin (fun u=>lin (cvQ r u) n.cond.ps) n.cond.ps):=by
      have:=aC5 coz inner ha (a1:=a) (a2:=[]) (by simp)
      rw[<- aJG,<- ep]at this
      exact this
     rw[et]
     exact⟨kS (rV _ i1) outer.1,uJ (aBJ i2 outer.2) (by omega)⟩
   · rw[aTc c2]
     obtain⟨g1,g2⟩:=col _ (colv c)
     exact⟨vD g1 (aUT _ _),uJ g2 (by omega)⟩
 · rw[aTc c1]
   by_cases c2:c=n.node
   · rw[aTd c2]
     obtain⟨g1,g2⟩:=col _ (colv x)
     exact⟨vD g1 (aUT _ _),uJ g2 (by omega)⟩
   · rw[aTc c2]
     obtain⟨g1,g2⟩:=h.2 x c
     exact⟨vD g1 (aVC (aUT _ _) (aUT _ _)),uJ g2 (by omega)⟩
theorem aLb:∀ (b:List NQ) (k:Nat),aAS k b->k+b.length<=5->∃ T,T<=epr k b.length*epr k b.length/\aSf T (b.length*(800+PP)) (cvQ b)
 | [],k,_,_=>⟨1,by simp[epr],by omega,fun a c=>⟨⟨0,by simp[cvQ]⟩,by unfold bd;simp[cvQ]⟩⟩
 | n::r,k,h,hk=>by
  obtain⟨⟨D,X,a,e1,ha,hD⟩,hr⟩:=h
  rw[aTG]at hk
  obtain⟨T,t1,t2⟩:=aLb r (k+1) hr (by omega)
  obtain⟨n1,n2⟩:=ha.nN
  have hX:=ha.hX
  have hP:=ha.hP
  have s:=aO5 e1 ha t2
  refine⟨_,?_,s.1,fun x c=>⟨(s.2 x c).1,uJ (s.2 x c).2 ?_⟩⟩
  · rw[aTG,epr]
    have hN:nm D (sm wt a)<=ex k:=aTr n2 hD
    calc nm D (sm wt a)*(nm D (sm wt a)*T)<=ex k*(ex k*(epr (k+1) r.length*epr (k+1) r.length)):=aTK hN (aTK hN t1)
     _=ex k*epr (k+1) r.length*(ex k*epr (k+1) r.length):=by simp only[aT3,aVs,aTR]
  · have e:(r.length+1)*(800+PP)=r.length*(800+PP)+(800+PP):=aUI _ _
    rw[aTG,e];omega
theorem aKQ (n:NQ)(r:List NQ):mN (n::r)=n.cond.toC::mN r:=rfl
theorem aIA {b:List NQ}(hn:∀ n∈b,n.cond.node=n.node){u:Int}:u∈bS (mN b)↔u=0\/∃ c∈b,c.node=u:=by
 rw[sQ]
 unfold mN
 constructor
 · rintro(h | ⟨d,hd,e⟩)
   · exact .inl h
   · obtain⟨c,hc,rfl⟩:=aTu.1 hd
     exact .inr ⟨c,hc,by rw[<- hn c hc];exact e⟩
 · rintro(h | ⟨c,hc,e⟩)
   · exact .inl h
   · exact .inr ⟨c.cond.toC,aUm hc,by rw[<- e];exact hn c hc⟩
theorem aQU:∀ {b:List NQ} {k:Nat},Dn b->Pin b->aAS k b->k+b.length<=5->(∀ n∈b,1<=n.node/\n.node<=9)->
 vL (mN b)/\∀ x y,(x=0\/∃ c∈b,c.node=x)->(y=0\/∃ c∈b,c.node=y)->Cst (mN b) x y=ofQ (cvQ b x y)
 | [],k,_,_,_,_,_=>⟨trivial,fun x y _ _=>by show dN 0=ofQ 0;exact aAo⟩
 | n::r,k,d,hp,hb,hk,h9=>by
  obtain⟨⟨D,X,a,e1,ha,hD⟩,hr⟩:=hb
  rw[aTG]at hk
  have hpw:=(aTQ.1 d.1).1
  obtain⟨gr,ih⟩:=aQU d.tail (hp.tail d) hr (by omega) (fun m hm=>h9 m (by simp[hm]))
  obtain⟨T,t1,t2⟩:=aLb r (k+1) hr (by omega)
  obtain⟨nn,ncn⟩:=d.2 n (by simp)
  have hn9:=h9 n (by simp)
  have rn:∀ m∈r,m.cond.node=m.node:=fun m hm=>(d.2 m (by simp[hm])).2
  have hps:∀ u∈psN n.cond,u=0\/∃ c∈r,c.node=u:=fun u hu=>by
   rcases hp n (by simp) u hu with h0 | ⟨c,hc,e⟩
   · exact .inl h0
   · rcases aTf.1 hc with rfl | hc
     · exact absurd (e▸hu) nn
     · exact .inr ⟨c,hc,e⟩
  have ep:n.cond.ps=a.map (yI (sm wt a)):=by rw[e1];rfl
  have et:n.cond.t=sm wt a:=by rw[e1];rfl
  have efp:n.cond.toC.fParents=a.map fun y=>(yI (sm wt a) y).toP:=by
   show n.cond.ps.map PQ.toP=_
   rw[ep,aUK];rfl
  have efn:n.cond.toC.fNode=n.node:=ncn
  have eft:n.cond.toC.fTotal=ofQ (sm wt a):=by rw[<- et];rfl
  have pin:∀ q∈n.cond.toC.fParents,q.fNode=0\/∃ c∈r,c.node=q.fNode:=fun q hq=>hps _ (by rw[<- aHs];exact aUm hq)
  have epe:=aOX (k:=k+1) (n:=r.length) (by omega)
  have tP:T<=PP ^ 4:=aTr t1 (tO epe epe)
  have pp:400<=PP:=by decide
  have hP:=ha.hP
  have hX:=ha.hX
  obtain⟨n1,n2⟩:=ha.nN
  have nP:nm D (sm wt a)<=PP ^ 1:=by rw[aUA];omega
  have rl:r.length<=4:=by omega
  have hM:r.length*(800+PP)<=4*(800+PP):=aUj _ rl
  have big:800*4<=PP:=by decide
  obtain⟨i1,i2,i3⟩:=aQQ ha
  have z0:(0:Q)+sB (fun _=>0) (fun _=>0) [] / sm wt a=0:=by unfold sB;simp only[sm];grind
  have row:∀ y,(y=0\/∃ c∈r,c.node=y)->newRow n.cond.toC (Cst (mN r)) y=ofQ (lin (fun u=>cvQ r u y) n.cond.ps):=fun y hy=>by
   unfold newRow
   rw[aCz (g:=fun u=>ofQ ((fun u=>cvQ r u y) u)) fun q hq=>ih _ _ (pin q hq) hy,efp,aAo]
   have:=aKv ha (f:=fun u=>cvQ r u y) ⟨t2.1,fun u=>t2.2 u y⟩ (lI tP (by omega)) (by omega) (s:=0) ⟨0,by simp⟩ ⟨by have:=sG PP;grind,sG PP⟩ [] a rfl
   rw[ep,aJG]
   have e0:(0:Q)+sB (fun u=>cvQ r u y) (fun _=>0) [] / sm wt a=0:=by unfold sB;simp only[sm];grind
   rw[e0]at this
   rw[this]
   congr 1;grind
  have own:aCF n.cond.toC (Cst (mN r))=ofQ (1 / n.cond.t+lin (fun u=>lin (cvQ r u) n.cond.ps) n.cond.ps):=by
   unfold aCF
   rw[aCz (g:=fun u=>ofQ ((fun u=>lin (cvQ r u) n.cond.ps) u)) fun q hq=>by
    rw[row _ (pin q hq)]
    congr 1
    exact oT fun x _=>aAM r _ _,efp,eft]
   have ft:=ha.ftot
   have hpos:=ha.pos
   have one:dN 1=ofQ 1:=aOd
   have f1:bQ 1:=aJX (z:=1) (by decide)
   rw[one,aLt f1 ft (by grind) i3]
   have inner:aIS (nm D (sm wt a)*T) (r.length*(800+PP)+X) (fun u=>lin (cvQ r u) n.cond.ps):=⟨aTW n1 t2.1,fun u=>by
    show Dv _ (lin (cvQ r u) n.cond.ps)/\bd _ (lin (cvQ r u) n.cond.ps)
    rw[ep,aJG]
    exact aC5 coz ⟨t2.1,fun c=>t2.2 u c⟩ ha (a1:=a) (a2:=[]) (by simp)⟩
   have:=aKv ha inner (lI (tO nP tP) (by omega)) (by omega) (s:=1 / sm wt a) (rV _ i1) (uJ i2 (by omega)) [] a rfl
   have e0:1 / sm wt a+sB (fun u=>lin (cvQ r u) n.cond.ps) (fun _=>0) [] / sm wt a=1 / sm wt a:=by unfold sB;simp only[sm];grind
   rw[e0]at this
   rw[this,et]
   congr 2
   rw[ep,aJG]
  have nr:∀ y,(y=0\/∃ c∈n::r,c.node=y)->¬y=n.node->(y=0\/∃ c∈r,c.node=y):=fun y hy hne=>by
   rcases hy with h0 | ⟨c,hc,e⟩
   · exact .inl h0
   · rcases aTf.1 hc with rfl | hc
     · exact absurd e.symm hne
     · exact .inr ⟨c,hc,e⟩
  refine⟨⟨by rw[efn];exact hn9,?_,fun q hq=>⟨?_,?_⟩,?_,?_,gr⟩,fun x y hx hy=>?_⟩
  · rw[efn]
    intro hm
    rcases(aIA rn).1 hm with h0 | ⟨c,hc,e⟩
    · omega
    · exact(hpw c hc).2 e.symm
  · rw[efp]at hq
    obtain⟨y,hy,rfl⟩:=aTu.1 hq
    obtain⟨s1,s2,s3⟩:=zZ ha hy
    have fs:bQ (y.w / sm wt a):=aFI n1 (by omega) (by grind) s3 s1
    exact qT fs
  · exact(aIA rn).2 (pin q hq)
  · rw[eft];exact qT ha.ftot
  · rw[efp,aTs]
    have:=aGg ha.inc fun x hx=>(ha.nd x hx).1
    omega
  · rw[aKQ]
    show aGR n.cond.toC (Cst (mN r)) x y=_
    unfold aGR
    rw[efn,cvQ]
    by_cases c1:x=n.node
    · rw[aTd c1,aTd c1]
      by_cases c2:y=n.node
      · rw[aTd c2,aTd c2];exact own
      · rw[aTc c2,aTc c2];exact row y (nr y hy c2)
    · rw[aTc c1,aTc c1]
      by_cases c2:y=n.node
      · rw[aTd c2,aTd c2];exact row x (nr x hx c1)
      · rw[aTc c2,aTc c2];exact ih x y (nr x hx c1) (nr y hy c2)
theorem aSA {l:List QL}{o:List Int}(h:Tie l o){a c:Int}(ha:a=0\/a∈o)(hc:c=0\/c∈o):lO (mF l o) a c=some (ofQ (cvT l o a c)):=by
 have hz:=h.tsz
 have nb:=h.netB
 obtain⟨g,e⟩:=aQU nb.dn h.pin nb.nb (by have:=nb.len;omega) (fun n hn=>(nb.each n hn).2.1)
 obtain⟨h9,hn⟩:=aFb h.isTree
 have e2:(mF l o).fNodes.map (·.fCond)=mN (bX l o o []):=by
  unfold mF mN
  simp only[aUK]
  rfl
 have net:=aSs (t:=mF l o) (by omega) (fun n hn'=>by have:=(hn n hn').2.2;omega) (by omega)
 rw[e2]at net
 unfold lO
 rw[net]
 simp only[aTb]
 rw[aQa g nb.isNet]
 unfold aN8
 have inN:∀ u,(u=0\/u∈o)->u∈bS (mN (bX l o o [])):=fun u hu=>(aIA fun n hn=>(nb.dn.2 n hn).2).2 (hu.imp id xC)
 rw[aTd ⟨inN a ha,inN c hc⟩,e a c (ha.imp id xC) (hc.imp id xC)]
 rfl
theorem aO6 {l:List QL}{o:List Int}(h:Tie l o):∃ T,0<T/\T<=PP ^ 4/\∀ a c,Dv T (cvT l o a c)/\bd (5*(800+PP)) (cvT l o a c):=by
 have nb:=h.netB
 have hl:=nb.len
 obtain⟨T,t1,t2,t3⟩:=aLb _ 0 nb.nb (by omega)
 have ep:=aOX (k:=0) (n:=(bX l o o []).length) (by omega)
 exact⟨T,t2,aTr t1 (tO ep ep),fun a c=>⟨(t3 a c).1,uJ (t3 a c).2 (aUj _ hl)⟩⟩
/- The inverse information matrix is the tree's covariances; the law of variances. -/
def unE (n:Nat)(A:Nat->Nat->Q):Nat->Nat->Q:=fun i j=>if j<n then A i j else if i=j-n then 1 else 0
theorem aMJ (n c:Nat)(f:Nat->Q):(gO (n+c) f).drop n=gO c (fun j=>f (n+j)):=by
 rw[<- aJg n c f]
 have:=gC n f
 exact List.drop_left' this
theorem aOH {n:Nat}{A:Nat->Nat->Q}(g:GJ n 0 (unE n A))(h:GB n (n+n) 1 1440 (unE n A))(hn:n<=5):jB (lT n n A)=some (lT n n (fun i c=>gjs (unE n A) n i (n+c)),true):=by
 have tA:=mG n n A
 have tE:=mG n (n+n) (unE n A)
 have tR:=mG n (n+n) (gjs (unE n A) n)
 have tI:=mG n n (fun i c=>gjs (unE n A) n i (n+c))
 have fA:∀ i j,i<n->j<n->bQ (A i j):=fun i j hi hj=>by
  have e:unE n A i j=A i j:=aTd hj
  rw[<- e]
  exact aCL h.pos (h.dv i j hi (by omega)) (h.bd i j hi (by omega)) (by decide) (by decide)
 have inner:∀ i,i<n->lp (fV (lT n n A) (i:Int)) (0,gO n (A i))=some (gO (n+n) (unE n A i)):=fun i hi=>by
  have e0:gO n (A i)=gO (n+0) (unE n A i):=aKE fun j hj=>(aTd hj).symm
  have main:∀ r k:Nat,r+k=n->lp (fV (lT n n A) (i:Int)) ((k:Int),gO (n+k) (unE n A i))=some (gO (n+n) (unE n A i)):=by
   intro r
   induction r with
   | zero =>
    intro k hk
    have e:k=n:=by omega
    subst e
    exact aK (by unfold fV;simp only[];rw[aTc (by omega)])
   | succ r ih =>
    intro k hk
    refine(aQ ?_).trans (ih (k+1) (by omega))
    have l1:=gC (n+k) (unE n A i)
    unfold fV
    simp only[]
    rw[aTd (by omega)]
    have ea:gO (n+k+1) (unE n A i)=gO (n+k) (unE n A i)++[ofQ (unE n A i (n+k))]:=by rw[<- aJg (n+k) 1];rfl
    have eu:unE n A i (n+k)=if i=k then 1 else 0:=by
     unfold unE
     rw[aTc (by omega),Nat.add_sub_cancel_left]
    by_cases c:i=k
    · rw[aTd c]at eu
      rw[aTd (by omega),cO 1 (by omega),aOd]
      simp only[aTb]
      rw[aM (by omega)]
      simp only[aTb,aJ]
      rw[wi (n:=(k:Int)+1) (by omega),show n+(k+1)=n+k+1 from rfl,ea,eu]
      rfl
    · rw[aTc c]at eu
      rw[aTc (by omega),cO 0 (by omega),aAo]
      simp only[aTb]
      rw[aM (by omega)]
      simp only[aTb,aJ]
      rw[wi (n:=(k:Int)+1) (by omega),show n+(k+1)=n+k+1 from rfl,ea,eu]
      rfl
  rw[e0]
  exact main n 0 (by omega)
 have wide:lp (iS (lT n n A)) (0,[])=some (lT n (n+n) (unE n A)):=by
  refine rN (lT n (n+n) (unE n A)) (fun k t=>((k:Int),t)) (fun r=>r) (fun k t hk ht=>?_) (fun t ht=>?_)
  · have l1:=gC n (A k)
    unfold iS
    simp only[]
    rw[aTd (by omega),kP,aBe (by omega)]
    simp only[aTb]
    rw[aM (by simp only[aUq];omega)]
    simp only[aTb,aJ,aTi]
    rw[inner k (by omega)]
    simp only[aTb]
    rw[aM (by omega)]
    simp only[aTb]
    rw[wi (n:=(k:Int)+1) (by omega),yM]
    rfl
  · unfold iS
    simp only[]
    rw[aTc (by omega)]
 have last:lp (iR (lT n n A) (lT n (n+n) (gjs (unE n A) n),true)) (0,[])=some (lT n n (fun i c=>gjs (unE n A) n i (n+c))):=by
  refine rN (lT n n (fun i c=>gjs (unE n A) n i (n+c))) (fun k t=>((k:Int),t)) (fun r=>r) (fun k t hk ht=>?_) (fun t ht=>?_)
  · have l1:=gC (n+n) (gjs (unE n A) n k)
    have l2:=gC n (fun c=>gjs (unE n A) n k (n+c))
    unfold iR
    simp only[]
    rw[aTd (by omega),kP,aBe (by omega)]
    simp only[aTb]
    rw[tA,qC _ _ _ (by omega)]
    simp only[aTb]
    rw[aTJ,aMJ,aT1 (by omega)]
    rw[aM (by simp only[aUq];omega)]
    simp only[aTb,aJ,aTi]
    rw[aM (by omega)]
    simp only[aTb]
    rw[wi (n:=(k:Int)+1) (by omega),yM]
    rfl
  · unfold iR
    simp only[]
    rw[aTc (by omega)]
 unfold jB
 rw[tA,aOG (by omega) (by omega) fA]
 simp only[aTb,aTz]
 rw[wide]
 simp only[aTb,aJ]
 rw[wi (n:=2*(n:Int)) (by omega)]
 have e:=aPW g h (by omega) hn (by omega)
 have e':kZ (lT n (n+n) (unE n A)) (2*(n:Int))=some (lT n (n+n) (gjs (unE n A) n),true):=by
  have e2:(2*(n:Int))=((n+n:Nat):Int):=by omega
  rw[e2];exact e
 rw[e']
 simp only[aTb,aTz]
 rw[last]
 rfl
section
variable {l:List QL}{o:List Int}
theorem Tie.gbU (h:Tie l o):GJ (nds (jn l)).length 0 (unE (nds (jn l)).length (Mx (jn l)))/\GB (nds (jn l)).length ((nds (jn l)).length+(nds (jn l)).length) 1 1440 (unE (nds (jn l)).length (Mx (jn l))):=by
 refine⟨h.gj0 fun i j hj=>aTd hj,by decide,fun i j _ _=>?_,fun i j _ _=>?_⟩
 · unfold unE
   split
   · exact(aLv h.js i j).1
   · split
     · exact aD4 1
     · exact aD4 0
 · unfold unE
   split
   · exact uJ (aLv h.js i j).2.1 (by omega)
   · have e:((1440:Nat):Q)=1440:=rfl
     unfold bd
     rw[e]
     split <;> constructor <;> grind
def xZ (s:List QL)(c i:Nat):Q:=gjs (unE (nds s).length (Mx s)) (nds s).length i ((nds s).length+c)
def Bf (s:List QL)(p q:Int->Q):Q:=sm (fun x=>x.w*((q x.b-q x.a)*(p x.b-p x.a))) s
theorem aST (s:List QL)(p:Int->Q):Bf s p p=sm (e0 p) s:=zY fun x _=>by unfold e0;rfl
theorem Tie.icol_B (h:Tie l o){c:Nat}(hc:c<(nds (jn l)).length){q:Int->Q}(q0:q 0=0):Bf (jn l) (sP (nds (jn l)) (xZ (jn l) c)) q=q ((nds (jn l)).getD c 0):=by
 obtain⟨g1,g2⟩:=h.gbU
 have nd:=qH ((jn l).map QL.toL)
 have ns:=h.nset nd fun u=>h.ndsP.mem_iff
 have rows:∀ v∈nds (jn l),sl (fun u=>Lm (jn l) v u*sP (nds (jn l)) (xZ (jn l) c) u) (nds (jn l))=if v=(nds (jn l)).getD c 0 then 1 else 0:=fun v hv=>by
  obtain⟨k,hk,rfl⟩:=aVb hv
  have ek:(nds (jn l))[k]=(nds (jn l)).getD k 0:=by rw[aTt,aTl hk];rfl
  have cc:su (fun j=>unE (nds (jn l)).length (Mx (jn l)) k j*xZ (jn l) c j) 0 (nds (jn l)).length=unE (nds (jn l)).length (Mx (jn l)) k ((nds (jn l)).length+c):=aQf g1 g2 (by omega) ((nds (jn l)).length+c) k hk
  have eu:unE (nds (jn l)).length (Mx (jn l)) k ((nds (jn l)).length+c)=if k=c then 1 else 0:=by
   unfold unE
   rw[aTc (by omega),Nat.add_sub_cancel_left]
  have ev:(if(nds (jn l)).getD k 0=(nds (jn l)).getD c 0 then(1:Q)else 0)=if k=c then 1 else 0:=by
   by_cases e:k=c
   · rw[aTd e,aTd (by rw[e])]
   · rw[aTc e,aTc (aMc nd hk hc e)]
  rw[ek,ev,<- eu,<- cc,<- aRd (fun u=>Lm (jn l) ((nds (jn l)).getD k 0) u*sP (nds (jn l)) (xZ (jn l) c) u)]
  exact qX fun j _ hj=>by
   have hj':j<(nds (jn l)).length:=by omega
   have e:unE (nds (jn l)).length (Mx (jn l)) k j=Mx (jn l) k j:=aTd hj'
   rw[aC8 nd _ hj',e]
   rfl
 have f:=aMt ns (aIw ns (xZ (jn l) c)) q0
 rw[vY (g:=fun v=>if v=(nds (jn l)).getD c 0 then q v else 0) (fun v hv=>by rw[rows v hv];split <;> grind),aCB q _ nd (.inl (wF hc))]at f
 exact f.symm
theorem Tie.icol_cov (h:Tie l o){c i:Nat}(hc:c<(nds (jn l)).length)(hi:i<(nds (jn l)).length):xZ (jn l) c i=cvT l o ((nds (jn l)).getD i 0) ((nds (jn l)).getD c 0):=by
 have nd:=qH ((jn l).map QL.toL)
 have ns:=h.nset nd fun u=>h.ndsP.mem_iff
 have p0:=aIw ns (xZ (jn l) c)
 have hv:(nds (jn l)).getD c 0∈o:=h.ndsP.mem_iff.1 (wF hc)
 have f0:=aGu h ((nds (jn l)).getD c 0)
 have b1:=h.icol_B hc p0
 have b2:=h.icol_B hc (q:=fun u=>cvT l o u ((nds (jn l)).getD c 0)) f0
 have v1:=aRa h p0 (.inr hv)
 have v2:=aDE h (.inr hv)
 have j1:=aEX (sP (nds (jn l)) (xZ (jn l) c)) h.wpos
 have j2:=aEX (fun u=>cvT l o u ((nds (jn l)).getD c 0)) h.wpos
 have j3:=aEX (fun u=>sP (nds (jn l)) (xZ (jn l) c) u-cvT l o u ((nds (jn l)).getD c 0)) h.wpos
 rw[aST]at b1
 have ex:sm (e0 (fun u=>sP (nds (jn l)) (xZ (jn l) c) u-cvT l o u ((nds (jn l)).getD c 0))) (jn l)=sm (e0 (sP (nds (jn l)) (xZ (jn l) c))) (jn l)+(-2)*Bf (jn l) (sP (nds (jn l)) (xZ (jn l) c)) (fun u=>cvT l o u ((nds (jn l)).getD c 0))+sm (e0 (fun u=>cvT l o u ((nds (jn l)).getD c 0))) (jn l):=by
  have sa:∀ (F G:QL->Q) (s:List QL),sm (fun x=>F x+G x) s=sm F s+sm G s:=by
   intro F G s
   induction s with
   | nil=>simp only[sm];grind
   | cons x s ih=>rw[sm,sm,sm,ih];grind
  unfold Bf
  rw[<- aFj,<- sa,<- sa]
  exact zY fun x _=>by unfold e0;grind
 have z:sm (e0 (fun u=>sP (nds (jn l)) (xZ (jn l) c) u-cvT l o u ((nds (jn l)).getD c 0))) l<=0:=by
  rw[j3,j1,j2]at ex
  grind
 have d0:(fun u=>sP (nds (jn l)) (xZ (jn l) c) u-cvT l o u ((nds (jn l)).getD c 0)) 0=0:=by
  show sP (nds (jn l)) (xZ (jn l) c) 0-cvT l o 0 ((nds (jn l)).getD c 0)=0
  rw[p0,f0];grind
 have e:=aK8 h d0 z ((nds (jn l)).getD i 0) (h.ndsP.mem_iff.1 (wF hi))
 have e':sP (nds (jn l)) (xZ (jn l) c) ((nds (jn l)).getD i 0)-cvT l o ((nds (jn l)).getD i 0) ((nds (jn l)).getD c 0)=0:=e
 rw[aC8 nd _ hi]at e'
 grind
theorem Tie.denseCov (h:Tie l o):iU ((jn l).map QL.toL)=some (lT (nds (jn l)).length (nds (jn l)).length (fun i c=>xZ (jn l) c i),true):=by
 have js:=h.js
 have n5:=h.nds5
 obtain⟨g1,g2⟩:=h.gbU
 have tl:=mG (nds (jn l)).length (nds (jn l)).length (Mx (jn l))
 have iv:jB (lT (nds (jn l)).length (nds (jn l)).length (Mx (jn l)))=some (lT (nds (jn l)).length (nds (jn l)).length (fun i c=>xZ (jn l) c i),true):=aOH g1 g2 n5
 unfold iU
 rw[aMZ js]
 simp only[aTb]
 rw[js.ils]
 simp only[aTb,aTz]
 rw[js.nds_i]
 simp only[aTb]
 rw[aTe (by omega)]
 simp only[aTk,aTD]
 rw[iv]
 rfl
end
theorem aNn (code:List Int)(_:okL (okI .u8) code):qL code=some true:=by
 unfold qL
 by_cases big:(1048576:Int)<(code.length:Int)
 · rw[aTd big]
 rw[aTc big]
 obtain⟨n,l,o,e1,hl,hn,ht⟩:=aRb code (by omega)
 have hz:=ht.tsz
 have nl:=aMQ l o
 have ti:=ht.inTie
 have hp:(gS l o).Perm l:=ht.inPerm
 have js:=ti.js
 have n5:=ti.nds5
 have ho:o≠[]:=by
  obtain⟨x,hx,e⟩:=hl.all 1 (by omega) (by omega)
  intro e2
  have:=(ht.mem 1).2 ⟨by omega,x,hx,.inr e⟩
  rw[e2]at this;cases this
 have hop:0<o.length:=List.length_pos_iff.2 ho
 have nlen:(nds (jn (gS l o))).length=o.length:=ti.ndsP.length_eq
 rw[e1];simp only[aTb]
 rw[aP8 _ (by omega),aFc]
 simp only[aTb]
 have sz:=ti.sz
 have jq:=(wL ((gS l o).map QL.toL) (by omega)).2
 have bj:=ti.base.join.1
 rw[bj]at jq
 rw[jq]
 simp only[aTb,pk]
 rw[ti.denseCov]
 simp only[aTb]
 have tl:=mG (nds (jn (gS l o))).length (nds (jn (gS l o))).length (fun i c=>xZ (jn (gS l o)) c i)
 have en:tZ ((jn (gS l o)).map QL.toL)=some (nds (jn (gS l o))):=by
  unfold tZ
  rw[js.ils]
  simp only[aTb,aTz]
  rw[js.nds_i]
  rfl
 rw[en]
 simp only[aTb,aTz]
 rw[aTc (by omega),aTe (by omega)]
 simp only[aTb,aTk,aTD]
 have inner:∀ i,i<(nds (jn (gS l o))).length->lp (gN (nds (jn (gS l o))) (lT (nds (jn (gS l o))).length (nds (jn (gS l o))).length (fun i c=>xZ (jn (gS l o)) c i),true) (i:Int) (mF l o) ((nds (jn (gS l o))).getD i 0)) 0=some (.inl ()):=fun i hi=>by
  have main:∀ r j:Nat,r+j=(nds (jn (gS l o))).length->lp (gN (nds (jn (gS l o))) (lT (nds (jn (gS l o))).length (nds (jn (gS l o))).length (fun i c=>xZ (jn (gS l o)) c i),true) (i:Int) (mF l o) ((nds (jn (gS l o))).getD i 0)) (j:Int)=some (.inl ()):=by
   intro r
   induction r with
   | zero=>intro j hj;exact aK (by unfold gN;rw[aTc (by omega)])
   | succ r ih =>
    intro j hj
    have hj':j<(nds (jn (gS l o))).length:=by omega
    refine(aQ (s':=((j+1:Nat):Int)) ?_).trans (ih (j+1) (by omega))
    have rl:=gC (nds (jn (gS l o))).length (fun c=>xZ (jn (gS l o)) c i)
    have vi:(nds (jn (gS l o))).getD i 0∈o:=ti.ndsP.mem_iff.1 (wF hi)
    have vj:(nds (jn (gS l o))).getD j 0∈o:=ti.ndsP.mem_iff.1 (wF hj')
    have ec:=ti.icol_cov hj' hi
    rw[<- aO3 ht ti hp (List.Perm.refl _)]at ec
    obtain⟨T,c1,c2,c3⟩:=aO6 ht
    have pp:1600<=PP:=by decide
    have fc:bQ (cvT l o ((nds (jn (gS l o))).getD i 0) ((nds (jn (gS l o))).getD j 0)):=aD2 c1 (c3 _ _).1 (c3 _ _).2 (by omega) (lI c2 (by omega))
    have sv:=nF (jP fc)
    unfold gN
    rw[aTd (by omega),aIy hj']
    simp only[aTb]
    rw[kP,aBe hi]
    simp only[aTb]
    rw[aTc (by omega),aSA ht (.inr vi) (.inr vj)]
    simp only[aTb]
    rw[kP,aBi hj']
    simp only[aTb]
    rw[ec,aA2 _ _ (by omega),aTg rfl]
    simp only[aTb,aUh,aTk,aTD]
    rw[wi (n:=(j:Int)+1) (by omega)];rfl
  exact main _ 0 (by omega)
 have outer:∀ r i:Nat,r+i=(nds (jn (gS l o))).length->lp (jI (nds (jn (gS l o))) (lT (nds (jn (gS l o))).length (nds (jn (gS l o))).length (fun i c=>xZ (jn (gS l o)) c i),true) (mF l o)) (i:Int)=some (.inl ()):=by
  intro r
  induction r with
  | zero=>intro i hi;exact aK (by unfold jI;rw[aTc (by omega)])
  | succ r ih =>
   intro i hi
   refine(aQ (s':=((i+1:Nat):Int)) ?_).trans (ih (i+1) (by omega))
   unfold jI
   rw[aTd (by omega),aIy (by omega)]
   simp only[aTb]
   rw[inner i (by omega)]
   simp only[aTb]
   rw[wi (n:=(i:Int)+1) (by omega)];rfl
 have lz:=outer _ 0 (by omega)
 rw[show((0:Nat):Int)=0 from rfl]at lz
 rw[lz]
 rfl
end Go.Ev
