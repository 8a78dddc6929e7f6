/- Parts QH, QI, QJ, QK, QM, QN, QO, QP, QR, QT, QU, PS1, PS2, PS3, PT1, P22b, PT2, PT3, PT4, MV, VS, VT, VU. -/
import Derived.Test.YtmgbflccodamfaaGreatPb3
import Derived.Test.YtmgbflccodamfaaGreatPb1
import Derived.Test.YtmgbflccodamfaaGreatPb2
import Derived.Test.YtmgbflccodamfaaGreatPa1
set_option linter.all false
set_option maxHeartbeats 4000000
set_option maxRecDepth 20000
/- Eliminating a node over the rational numbers. -/
namespace Go.Ev
def aE7 (v:Int)(l:QL):Bool:=decide (l.a=v\/l.b=v)
def aBn (v:Int)(l:QL):QL:=if l.a=v then⟨l.b,v,l.w,-l.x,-l.y⟩else⟨l.a,v,l.w,l.x,l.y⟩
def bL (v:Int)(s:List QL):List QL:=(s.filter (aE7 v)).map (aBn v)
def toA (a:QL):l08Arm:=⟨a.a,ofQ a.w,ofQ a.x,ofQ a.y⟩
theorem aPQ (v:Int):∀ s:List QL,(∀ x∈s,x.fit)->bM v (s.map QL.toL)=(bL v s).map toA
 | [],_=>rfl
 | x::s,h=>by
  have ih:=aPQ v s (fun y hy=>h y (by simp[hy]))
  obtain⟨h1,h2,h3⟩:=h x (by simp)
  unfold bM bL at ih ⊢
  rw[aUH,aUY,aUY]
  have e:tch v x.toL=aE7 v x:=rfl
  rw[e]
  by_cases c:aE7 v x=true
  · rw[aUs c,aUs c,aUH,aUH,aUH,ih]
    congr 1
    unfold aBj aBn QL.toL toA
    simp only[]
    by_cases d:x.a=v
    · rw[aUs d,aUs d,aTK h2,aTK h3]
    · rw[aUq d,aUq d]
  · rw[aUq c,aUq c,ih]
structure PQ where
 node:Int
 s:Q
 x:Q
 y:Q
structure CQ where
 node:Int
 t:Q
 ps:List PQ
def PQ.toP (p:PQ):Parent:=⟨p.node,ofQ p.s,ofQ p.x,ofQ p.y⟩
def CQ.toC (c:CQ):Conditional:=⟨c.node,ofQ c.t,c.ps.map PQ.toP⟩
def zC (t:Q)(a:QL):PQ:=⟨a.a,a.w / t,a.x,a.y⟩
def mlQ (t:Q)(a b:QL):QL:=⟨a.a,b.a,a.w*b.w / t,a.x-b.x,a.y-b.y⟩
def mE (t:Q):List QL->List QL
 | []=>[]
 | a::r=>r.map (mlQ t a)++mE t r
def oQ (v:Int)(a:List QL):CQ:=⟨v,sm wt a,a.map (zC (sm wt a))⟩
structure Arms (D X:Nat)(v:Int)(a:List QL):Prop where
 hD:0<D
 hP:72*D<=PP
 hX:X<=800
 h0:0<X
 lk:∀ x∈a,Lk D X x
 hw:sm wt a<=72
 inc:a.Pairwise fun x y=>x.a<y.a
 nd:∀ x∈a,(0<=x.a/\x.a<=9)/\x.a≠v
 ne:a≠[]
 hv:1<=v/\v<=9
theorem Arms.pos {D X:Nat}{v:Int}{a:List QL}(h:Arms D X v a):0<sm wt a:=by
 obtain⟨x,hx⟩:=List.exists_mem_of_ne_nil a h.ne
 have:=wZ h.lk hx
 have:=(h.lk x hx).sc.1
 grind
theorem aAk {D X:Nat}{a:List QL}(h:∀ x∈a,Lk D X x):Dv D (sm wt a):=aHu fun x hx=>(h x hx).sc.2.1
theorem Arms.le {D X:Nat}{v:Int}{a:List QL}(h:Arms D X v a){x:QL}(hx:x∈a):x.w<=72:=by
 have:=wZ h.lk hx
 have:=h.hw
 grind
theorem Arms.fit {D X:Nat}{v:Int}{a:List QL}(h:Arms D X v a){x:QL}(hx:x∈a):x.fit:=aGJ h.hD h.hP (h.lk x hx) (by have:=h.hX;omega) h.h0 (h.le hx)
theorem w72 {D:Nat}{q:Q}(hD:0<D)(hP:72*D<=PP)(h0:0<=q)(h1:q<=72)(hd:Dv D q):bN q:=by
 refine cS (B:=72) hD hd ⟨?_,h1⟩ (by omega) (by omega) (iB (a:=1) (by rw[aVQ];omega) (by omega))
 have:=zY 72
 grind
theorem aPj {D X:Nat}(hD:0<D)(hP:72*D<=PP):∀ (a:List QL) (t:Q),(∀ x∈a,Lk D X x)->Dv D t->0<=t->t+sm wt a<=72->(a.map toA).foldl (fun t a=>RA t a.fweight) (ofQ t)=ofQ (t+sm wt a)
 | [],t,_,_,_,_=>by simp only[aVy,List.foldl_nil,sm];congr 1;grind
 | x::a,t,h,ht,h0,hw=>by
  have hx:=h x (by simp)
  have hr:=fun y hy=>h y (aU3 x hy)
  have wr:=iO hr
  have wx:0<wt x:=hx.sc.1
  rw[sm]at hw ⊢
  have d2:=kN ht hx.sc.2.1
  have e:wt x=x.w:=rfl
  have f1:=w72 hD hP h0 (by grind) ht
  have f2:bN x.w:=w72 hD hP (by grind) (by grind) hx.sc.2.1
  have f3:bN (t+x.w):=w72 hD hP (by grind) (by grind) d2
  rw[aUH,aVw]
  have e1:RA (ofQ t) (toA x).fweight=ofQ (t+x.w):=aHn f1 f2 f3
  rw[e1,aPj hD hP a (t+x.w) hr d2 (by grind) (by grind)]
  congr 1;grind
theorem Arms.tot {D X:Nat}{v:Int}{a:List QL}(h:Arms D X v a):rM (a.map toA)=ofQ (sm wt a):=by
 unfold rM
 rw[aBq,aPj h.hD h.hP a 0 h.lk ⟨0,by simp⟩ (by grind) (by have:=h.hw;grind)]
 congr 1;grind
theorem Arms.ftot {D X:Nat}{v:Int}{a:List QL}(h:Arms D X v a):bN (sm wt a):=w72 h.hD h.hP (by have:=h.pos;grind) h.hw (aAk h.lk)
theorem aBC {D X:Nat}{v:Int}{a:List QL}(h:Arms D X v a){x:QL}(hx:x∈a):Dv (nm D (sm wt a)) (x.w / sm wt a)/\0<x.w / sm wt a/\x.w / sm wt a<=1:=by
 have hp:=h.pos
 have hl:=wZ h.lk hx
 have hx0:=(h.lk x hx).sc.1
 refine⟨aEf h.hD hp (aAk h.lk) (h.lk x hx).sc.2.1,?_,?_⟩
 · rw[_root_.Rat.lt_div_iff hp];grind
 · have:=aG0 (A:=1) (p:=x.w) hp (by grind) (by have e:((1:Nat):Q)=1:=rfl;rw[e];grind)
   have e:((1:Nat):Q)=1:=rfl
   unfold bd at this;rw[e]at this;grind
theorem Arms.nN {D X:Nat}{v:Int}{a:List QL}(h:Arms D X v a):0<nm D (sm wt a)/\nm D (sm wt a)<=72*D :=
 ⟨(zN h.hD h.pos (aAk h.lk)).2,aDB h.hD h.pos (aAk h.lk) h.hw⟩
theorem aHZ {N:Nat}{q:Q}(hN:0<N)(hP:N<=PP)(h0:0<=q)(h1:q<=1)(hd:Dv N q):bN q:=by
 refine cS (B:=1) hN hd ⟨?_,h1⟩ (by omega) (by omega) (iB (a:=1) (by rw[aVQ];omega) (by omega))
 have e:((1:Nat):Q)=1:=rfl
 rw[e];grind
theorem aPk {D X:Nat}{v:Int}{a:List QL}(h:Arms D X v a):∀ (b:List QL) (t:Q),(∀ x∈b,x∈a)->Dv (nm D (sm wt a)) t->0<=t->t+sm (fun x=>x.w / sm wt a) b<=1->((b.map (zC (sm wt a))).map fun p=>ofQ p.s).foldl RA (ofQ t)=ofQ (t+sm (fun x=>x.w / sm wt a) b)
 | [],t,_,_,_,_=>by simp only[aVy,List.foldl_nil,sm];congr 1;grind
 | x::b,t,hb,ht,h0,hw=>by
  obtain⟨s1,s2,s3⟩:=aBC h (hb x (by simp))
  have hr:=fun y hy=>hb y (aU3 x hy)
  have wr:0<=sm (fun x=>x.w / sm wt a) b:=oU fun y hy=>by have:=(aBC h (hr y hy)).2.1;grind
  obtain⟨n1,n2⟩:=h.nN
  have nP:nm D (sm wt a)<=PP:=by have:=h.hP;omega
  rw[sm]at hw ⊢
  have d2:=kN ht s1
  have f1:=aHZ n1 nP h0 (by grind) ht
  have f2:=aHZ n1 nP (by grind) s3 s1
  have f3:bN (t+x.w / sm wt a):=aHZ n1 nP (by grind) (by grind) d2
  rw[aUH,aUH,aVw]
  have e1:RA (ofQ t) (ofQ (zC (sm wt a) x).s)=ofQ (t+x.w / sm wt a):=aHn f1 f2 f3
  rw[e1,aPk h b _ hr d2 (by grind) (by grind)]
  congr 1;grind
theorem aOi (t:Q):∀ a:List QL,sm (fun x=>x.w / t) a=sm wt a / t
 | []=>by simp[sm];grind
 | x::a=>by rw[sm,sm,aOi t a];unfold wt;grind
theorem Arms.share_sum {D X:Nat}{v:Int}{a:List QL}(h:Arms D X v a):sm (fun x=>x.w / sm wt a) a=1:=by
 rw[aOi]
 have:=h.pos
 have:sm wt a≠0:=by grind
 grind
theorem aTh:nH 1=ofQ 1:=aBG (by decide)
theorem Arms.cond {D X:Nat}{v:Int}{a:List QL}(h:Arms D X v a):aCX v (a.map toA)=(oQ v a).toC:=by
 unfold aCX oQ CQ.toC
 rw[h.tot]
 simp only[aWo]
 congr 1
 refine List.map_congr_left fun x hx=>?_
 obtain⟨s1,s2,s3⟩:=aBC h hx
 obtain⟨n1,n2⟩:=h.nN
 have f2:=aHZ n1 (by have:=h.hP;omega) (by grind) s3 s1
 have:=h.pos
 show fG (ofQ (sm wt a)) (toA x)=(zC (sm wt a) x).toP
 unfold fG toA zC PQ.toP
 simp only[]
 rw[aP4 (h.fit hx).1 h.ftot (by grind) f2]
theorem Arms.armOk {D X:Nat}{v:Int}{a:List QL}(h:Arms D X v a):∀ x∈a.map toA,uU x:=by
 intro x hx
 obtain⟨y,hy,rfl⟩:=aUJ.1 hx
 obtain⟨f1,f2,f3⟩:=h.fit hy
 exact⟨(h.nd y hy).1,jZ f1,jZ f2,jZ f3⟩
theorem aGQ {a:List QL}(inc:a.Pairwise fun x y=>x.a<y.a)(nd:∀ x∈a,0<=x.a/\x.a<=9):a.length<=10:=by
 have n:(a.map fun x=>x.a).Nodup:=by
  rw[List.Nodup,aVz]
  exact inc.imp fun {x y} hxy e=>by omega
 have:=n.length_le_of_subset (l₂:=[0,1,2,3,4,5,6,7,8,9]) (fun z hz=>by
  obtain⟨x,hx,rfl⟩:=aUJ.1 hz
  have:=nd x hx
  simp only[aUr,aVi,or_false];omega)
 simpa using this
theorem Arms.condOk {D X:Nat}{v:Int}{a:List QL}(h:Arms D X v a):condOk v (a.map toA):=by
 have hl:=aGQ h.inc (fun x hx=>(h.nd x hx).1)
 have hz:=aJj (v:=v) h.armOk (by rw[aUM];omega)
 obtain⟨n1,n2⟩:=h.nN
 unfold Go.Ev.condOk
 rw[h.cond]at hz ⊢
 refine aK1 _ hz h.hv ((aLc h.ftot).2 h.pos) ?_ ?_ ?_
 · unfold CQ.toC oQ
   simp only[ne_eq,List.map_eq_nil_iff]
   exact h.ne
 · intro j hj
   have hj':j<a.length:=by unfold CQ.toC oQ at hj;simpa using hj
   have e:(oQ v a).toC.fParents[j]=(zC (sm wt a) a[j]).toP:=by
    unfold CQ.toC oQ;simp
   rw[e]
   have hm:=aUA hj'
   obtain⟨s1,s2,s3⟩:=aBC h hm
   have f2:=aHZ n1 (by have:=h.hP;omega) (by grind) s3 s1
   obtain⟨f3,f4,f5⟩:=h.fit hm
   refine⟨(h.nd _ hm).1,(h.nd _ hm).2,fun q hq hk=>?_,(aLc f2).2 s2,tY f4,tY f5⟩
   have hk':j-1<a.length:=by omega
   have e2:(oQ v a).toC.fParents[j-1]?=some (zC (sm wt a) a[j-1]).toP:=by
    unfold CQ.toC oQ;simp[hk']
   rw[e2]at hk
   cases hk
   exact(aW2.1 h.inc) (j-1) j hk' hj' (by omega)
 · have e:((oQ v a).toC.fParents.map fun p=>p.fShare)=((a.map (zC (sm wt a))).map fun p=>ofQ p.s):=by
    unfold CQ.toC oQ;simp[PQ.toP,Function.comp_def]
   rw[e,aBq,aPk h a 0 (fun x hx=>hx) ⟨0,by simp⟩ (by grind) (by rw[h.share_sum];grind),h.share_sum,aTh]
   congr 1;grind
/- The mesh of an eliminated node over the rational numbers. -/
theorem aGu {D:Nat}{p q:Q}(hp:Dv D p)(hq:Dv D q){W:Q}{N:Nat}(hN:(N:Q)=W*D)(hW:W≠0):Dv (D*N) (p*q / W):=by
 obtain⟨a,ha⟩:=hp
 obtain⟨b,hb⟩:=hq
 refine⟨a*b,?_⟩
 rw[aVD,hN,aWy,<- ha,<- hb]
 grind
theorem aO0 {D X:Nat}{v:Int}{a:List QL}(h:Arms D X v a){x y:QL}(hx:x∈a)(hy:y∈a)(hxy:x.a<y.a) :
 uT (ofQ (sm wt a)) (toA x) (toA y)=(mlQ (sm wt a) x y).toL/\(mlQ (sm wt a) x y).fit/\(mlQ (sm wt a) x y).ok/\Lk (D*nm D (sm wt a)) (2*X) (mlQ (sm wt a) x y)/\Dv (D*nm D (sm wt a)*(nm D x.w*nm D y.w)) (enQ (mlQ (sm wt a) x y)):=by
 have hp:=h.pos
 have lx:=h.lk x hx
 have ly:=h.lk y hy
 obtain⟨n1,n2⟩:=h.nN
 have hN:=(zN h.hD hp (aAk h.lk)).1
 have hW:sm wt a≠0:=by grind
 obtain⟨fx1,fx2,fx3⟩:=h.fit hx
 obtain⟨fy1,fy2,fy3⟩:=h.fit hy
 have dx:=lx.sc.2.1
 have dy:=ly.sc.2.1
 have px:=lx.sc.1
 have py:=ly.sc.1
 have bx:=aNh px (h.le hx)
 have by_:=aNh py (h.le hy)
 have hD:=h.hD
 have hP:=h.hP
 have hX:=h.hX
 have h0:=h.h0
 have eD:D<=PP ^ 1:=by rw[aVQ];omega
 have eN:nm D (sm wt a)<=PP ^ 1:=by rw[aVQ];omega
 have ex:nm D x.w<=PP ^ 1:=by have:=aDB (W:=72) h.hD px dx (h.le hx);rw[aVQ];omega
 have ey:nm D y.w<=PP ^ 1:=by have:=aDB (W:=72) h.hD py dy (h.le hy);rw[aVQ];omega
 obtain⟨ex1,ex2⟩:=zN h.hD px dx
 obtain⟨ey1,ey2⟩:=zN h.hD py dy
 have f1:bN (x.w*y.w):=cS (aU6 hD hD) (sN dx dy) (pF bx by_) (by decide) (by decide) (iB (tW eD eD) (by omega))
 have dw:Dv (D*nm D (sm wt a)) (x.w*y.w / sm wt a):=aGu dx dy hN hW
 have pxy:=_root_.Rat.mul_pos px py
 have pw:0<x.w*y.w / sm wt a:=by rw[_root_.Rat.lt_div_iff hp];grind
 have bw:bd 72 (x.w*y.w / sm wt a):=by
  have l1:=wZ h.lk hx
  have l2:0<=(sm wt a-x.w)*y.w:=aVq (by grind) (by grind)
  have l3:0<=((72:Nat)-y.w)*sm wt a:=aVq (by have:=h.le hy;have e:((72:Nat):Q)=72:=rfl;grind) (by grind)
  have l4:=aVq (zY 72) (Std.le_of_lt hp)
  exact aG0 hp (by grind) (by grind)
 have f2:bN (x.w*y.w / sm wt a):=cS (aU6 hD n1) dw bw (by omega) (by omega) (iB (tW eD eN) (by omega))
 obtain⟨xx,xy⟩:=aJr h.hD lx.sc
 obtain⟨yx,yy⟩:=aJr h.hD ly.sc
 have gx:=pG (qQ (nm D y.w) xx) (by rw[aU7];exact qQ (nm D x.w) yx)
 have gy:=pG (qQ (nm D y.w) xy) (by rw[aU7];exact qQ (nm D x.w) yy)
 have cx:=aB4 lx.bx ly.bx
 have cy:=aB4 lx.by' ly.by'
 have f3:bN (x.x-y.x):=cS (aU6 ex2 ey2) gx cx (by omega) (by omega) (iB (tW ex ey) (by omega))
 have f4:bN (x.y-y.y):=cS (aU6 ex2 ey2) gy cy (by omega) (by omega) (iB (tW ex ey) (by omega))
 have lk:Lk (D*nm D (sm wt a)) (2*X) (mlQ (sm wt a) x y):=by
  refine⟨⟨pw,dw,?_,?_⟩,by rw[Nat.two_mul];exact cx,by rw[Nat.two_mul];exact cy⟩
  · have e:mx (mlQ (sm wt a) x y)=mx x*y.w / sm wt a-x.w*mx y / sm wt a:=by unfold mx mlQ;simp only[];grind
    rw[e]
    exact pG (aGu lx.sc.2.2.1 dy hN hW) (aGu dx ly.sc.2.2.1 hN hW)
  · have e:my (mlQ (sm wt a) x y)=my x*y.w / sm wt a-x.w*my y / sm wt a:=by unfold my mlQ;simp only[];grind
    rw[e]
    exact pG (aGu lx.sc.2.2.2 dy hN hW) (aGu dx ly.sc.2.2.2 hN hW)
 refine⟨?_,⟨f2,f3,f4⟩,⟨(h.nd x hx).1,(h.nd y hy).1,hxy,pw⟩,lk,?_⟩
 · unfold uT toA mlQ QL.toL
   simp only[]
   rw[aFn fx1 fy1 f1,aP4 f1 h.ftot hW f2,aP3 fx2 fy2 f3,aP3 fx3 fy3 f4]
 · have hDN:0<D*nm D (sm wt a):=aU6 hD n1
   have e1:=(zN hDN pw dw).1
   have e2:nm (D*nm D (sm wt a)) (x.w*y.w / sm wt a)=nm D x.w*nm D y.w:=by
    refine _root_.Rat.natCast_inj.1 ?_
    rw[e1,aVD,aVD,hN,ex1,ey1]
    grind
   have:=aKU hDN lk.sc
   have e3:(mlQ (sm wt a) x y).w=x.w*y.w / sm wt a:=rfl
   rw[e3,e2]at this
   exact this
theorem aJ3 (t:Q):∀ {a:List QL} {z:QL},z∈mE t a->∃ p x q y r,a=p++x::(q++y::r)/\z=mlQ t x y
 | x::a,z,h=>by
  rw[mE,aUz]at h
  rcases h with h | h
  · obtain⟨y,hy,rfl⟩:=aUJ.1 h
    obtain⟨q,r,e⟩:=List.append_of_mem hy
    exact⟨[],x,q,y,r,by rw[e];rfl,rfl⟩
  · obtain⟨p,x',q,y,r,e,h2⟩:=aJ3 t h
    exact⟨x::p,x',q,y,r,by rw[e];rfl,h2⟩
theorem Arms.mesh {D X:Nat}{v:Int}{a:List QL}(h:Arms D X v a):∀ p b:List QL,a=p++b->iC (ofQ (sm wt a)) (b.map toA)=(mE (sm wt a) b).map QL.toL
 | _,[],_=>rfl
 | p,x::b,e=>by
  have ih:=h.mesh (p++[x]) b (by rw[e,aUO];rfl)
  rw[aUH,iC,mE,aVE,ih]
  congr 1
  rw[aWo,aWo]
  refine List.map_congr_left fun y hy=>?_
  have hx:x∈a:=by rw[e];simp
  have hy':y∈a:=by rw[e];simp[hy]
  have hxy:x.a<y.a:=by
   have:=h.inc
   rw[e,aWf,aVa]at this
   exact this.2.1.1 y hy
  exact(aO0 h hx hy' hxy).1
theorem aR3 (D:Nat){p q r:List QL}{x y:QL}:nm D x.w*nm D y.w∣pn D (p++x::(q++y::r)):=by
 rw[aLi,pn,aLi,pn]
 refine aWL ?_ (aWG _ _)
 refine aWe _ (aWL ?_ (aWG _ _))
 exact aWB _ _
theorem Arms.each {D X:Nat}{v:Int}{a:List QL}(h:Arms D X v a){z:QL}(hz:z∈mE (sm wt a) a) :
 z.fit/\z.ok/\Lk (D*nm D (sm wt a)) (2*X) z/\Dv (D*nm D (sm wt a)*pn D a) (enQ z)/\(∃ x∈a,x.a=z.a)/\∃ y∈a,y.a=z.b:=by
 obtain⟨p,x,q,y,r,e,rfl⟩:=aJ3 _ hz
 have hx:x∈a:=by rw[e];simp
 have hy:y∈a:=by rw[e];simp
 have hxy:x.a<y.a:=by
  have:=h.inc
  rw[e,aWf,aVa]at this
  exact this.2.1.1 y (by simp)
 obtain⟨_,f,o,l,d⟩:=aO0 h hx hy hxy
 refine⟨f,o,l,xH d (aWe _ ?_),⟨x,hx,rfl⟩,y,hy,rfl⟩
 conv=>rhs;rw[e]
 exact aR3 D
theorem aJ5 (t:Q):∀ {a:List QL},a.Pairwise (fun x y=>x.a<y.a)->∀ x∈a,∀ y∈a,x.a<y.a->mlQ t x y∈mE t a
 | z::a,h,x,hx,y,hy,hxy=>by
  rw[aVa]at h
  rw[mE,aUz]
  rcases aUr.1 hx with e | hx
  · rcases aUr.1 hy with e2 | hy
    · rw[e,e2]at hxy;omega
    · exact .inl (by rw[e];exact aVR hy)
  · rcases aUr.1 hy with e2 | hy
    · have:=h.1 x hx;rw[e2]at hxy;omega
    · exact .inr (aJ5 t h.2 x hx y hy hxy)
theorem aME {t:Q}(ht:0<t):∀ {a:List QL},(∀ x∈a,0<=wt x)->sm wt (mE t a)*t<=sm wt a*sm wt a
 | [],_=>by simp[mE,sm]
 | x::a,h=>by
  have ih:=aME ht (a:=a) (fun y hy=>h y (by simp[hy]))
  have h1:=h x (by simp)
  have h2:0<=sm wt a:=oU fun y hy=>h y (by simp[hy])
  have e:∀ b:List QL,sm wt (b.map (mlQ t x))*t=wt x*sm wt b:=by
   intro b
   induction b with
   | nil=>simp[sm]
   | cons y b ih2 =>
    rw[aUH,sm,sm,_root_.Rat.add_mul,ih2]
    have e3:wt (mlQ t x y)=wt x*wt y / t:=rfl
    rw[e3]
    have:t≠0:=by grind
    grind
  rw[mE,rI,sm,_root_.Rat.add_mul,e]
  have h3:=aVq h1 h2
  have h4:=aVq h1 h1
  grind
theorem Arms.mesh_le {D X:Nat}{v:Int}{a:List QL}(h:Arms D X v a):sm wt (mE (sm wt a) a)<=sm wt a:=by
 have:=aME h.pos (a:=a) (fun x hx=>by have:=(h.lk x hx).sc.1;unfold wt;grind)
 exact aW0 this h.pos
theorem aSn {D X:Nat}{v:Int}{s:List QL}(hs:∀ x∈s,x.fit)(h:Arms D X v (bL v s)) :
 yX v (s.map QL.toL)=some ((oQ v (bL v s)).toC,(mE (sm wt (bL v s)) (bL v s)).map QL.toL):=by
 have e1:=aPQ v s hs
 have e2:=h.mesh [] (bL v s) rfl
 have hv:∀ x∈iC (rM (bM v (s.map QL.toL))) (bM v (s.map QL.toL)),ValidL x:=by
  rw[e1,h.tot,e2]
  intro x hx
  obtain⟨z,hz,rfl⟩:=aUJ.1 hx
  obtain⟨f,o,_⟩:=h.each hz
  exact(aEh f).2 o
 rw[aJh ⟨h.hv,by rw[e1];exact h.condOk,hv⟩,e1,h.tot,e2,h.cond]
/- From a front to its arms, rest and mesh. -/
theorem aD6 (v:Int)(l:QL):(aBn v l).w=l.w:=by unfold aBn;split <;> rfl
theorem aQ7 (v:Int)(l:QL):enQ (aBn v l)=enQ l:=by
 unfold aBn enQ sqQ
 split
 · simp only[];grind
 · rfl
theorem aQ6 {D X:Nat}(v:Int){l:QL}(h:Lk D X l):Lk D X (aBn v l):=by
 unfold aBn
 split
 · refine⟨⟨h.sc.1,h.sc.2.1,?_,?_⟩,aPN h.bx,aPN h.by'⟩
   · have e:mx ⟨l.b,v,l.w,-l.x,-l.y⟩=- mx l:=by unfold mx;simp only[];grind
     rw[e];exact aMa h.sc.2.2.1
   · have e:my ⟨l.b,v,l.w,-l.x,-l.y⟩=- my l:=by unfold my;simp only[];grind
     rw[e];exact aMa h.sc.2.2.2
 · exact⟨h.sc,h.bx,h.by'⟩
def uR (v:Int)(s:List QL):List QL:=s.filter (fun l=>!aE7 v l)
theorem aOq (v:Int):∀ s:List QL,zL v (s.map QL.toL)=(uR v s).map QL.toL
 | []=>rfl
 | x::s=>by
  have ih:=aOq v s
  unfold zL uR at ih ⊢
  rw[aUH,aUY,aUY]
  have e:tch v x.toL=aE7 v x:=rfl
  rw[e,ih]
  split <;> rfl
theorem aBv (f:QL->Q)(v:Int)(hf:∀ l,f (aBn v l)=f l):∀ s:List QL,sm f s=sm f (bL v s)+sm f (uR v s)
 | []=>by simp only[bL,uR,aV9,aVy,sm];grind
 | x::s=>by
  have ih:=aBv f v hf s
  unfold bL uR at ih ⊢
  rw[aUY,aUY,sm]
  by_cases c:aE7 v x=true
  · simp only[c,aVj,aUK,aUv,aUT,aUH,sm,hf];grind
  · simp only[c,Bool.not_eq_true,aUT,aWg,aUK,sm];grind
theorem aJD (D:Nat)(v:Int):∀ s:List QL,pn D s=pn D (bL v s)*pn D (uR v s)
 | []=>rfl
 | x::s=>by
  have ih:=aJD D v s
  unfold bL uR at ih ⊢
  rw[aUY,aUY,pn,ih]
  by_cases c:aE7 v x=true
  · simp only[c,aVj,aUK,aUv,aUT,aUH,pn,aD6,aVr]
  · simp only[c,aUT,aWg,aUK,pn]
    simp[aWA]
theorem wN {v:Int}{s:List QL}{a:QL}:a∈bL v s↔∃ l∈s,(l.a=v\/l.b=v)/\a=aBn v l:=by
 unfold bL
 rw[aUJ]
 constructor
 · rintro⟨l,hl,rfl⟩
   rw[aUy]at hl
   have:=hl.2
   unfold aE7 at this
   exact⟨l,hl.1,aU4 this,rfl⟩
 · rintro⟨l,hl,ht,rfl⟩
   refine⟨l,aUy.2 ⟨hl,?_⟩,rfl⟩
   unfold aE7;exact aUu ht
theorem aAq {v:Int}{s:List QL}{l:QL}:l∈uR v s↔l∈s/\l.a≠v/\l.b≠v:=by
 unfold uR aE7
 rw[aUy]
 simp[not_or]
theorem aB5 {v:Int}{l:QL}(h:l.a=v\/l.b=v)(hl:l.a<l.b):(l.a=v/\(aBn v l).a=l.b)\/(l.b=v/\l.a≠v/\(aBn v l).a=l.a):=by
 unfold aBn
 by_cases c:l.a=v
 · rw[aUs c];exact .inl ⟨c,rfl⟩
 · rw[aUq c]
   rcases h with h | h
   · exact absurd h c
   · exact .inr ⟨h,c,rfl⟩
theorem aPP {v:Int}{s:List QL}(ho:s.Pairwise cW)(h:∀ x∈s,x.a<x.b):(bL v s).Pairwise fun x y=>x.a<y.a:=by
 unfold bL
 rw[aVz]
 refine List.Pairwise.imp_of_mem (fun {x y} hx hy hr=>?_) (ho.sublist List.filter_sublist)
 rw[aUy]at hx hy
 have tx:=aU4 hx.2
 have ty:=aU4 hy.2
 have h1:=h x hx.1
 have h2:=h y hy.1
 have g1:=aB5 tx h1
 have g2:=aB5 ty h2
 unfold cW at hr
 omega
structure Front (D X:Nat)(V:List Int)(v:Int)(s:List QL):Prop where
 hD:0<D
 hP:72*D<=PP
 hX:X<=800
 h0:0<X
 lk:∀ x∈s,Lk D X x/\inV V x
 ord:s.Pairwise cW
 hw:sm wt s<=72
 hV:V.Nodup
 hn:∀ u∈V,0<=u/\u<=9
 hv:v∈V
 h1:1<=v
 ne:bL v s≠[]
theorem Front.armLk {D X:Nat}{V:List Int}{v:Int}{s:List QL}(h:Front D X V v s):∀ x∈bL v s,Lk D X x:=by
 intro x hx
 obtain⟨l,hl,_,rfl⟩:=wN.1 hx
 exact aQ6 v (h.lk l hl).1
theorem Front.armV {D X:Nat}{V:List Int}{v:Int}{s:List QL}(h:Front D X V v s):∀ x∈bL v s,x.a∈V/\x.a≠v:=by
 intro x hx
 obtain⟨l,hl,ht,rfl⟩:=wN.1 hx
 obtain⟨_,i1,i2,i3⟩:=h.lk l hl
 rcases aB5 ht i3 with⟨e1,e2⟩ | ⟨e1,e2,e3⟩
 · rw[e2];exact⟨i2,by omega⟩
 · rw[e3];exact⟨i1,by omega⟩
theorem Front.arms {D X:Nat}{V:List Int}{v:Int}{s:List QL}(h:Front D X V v s):Arms D X v (bL v s) where
 hD:=h.hD
 hP:=h.hP
 hX:=h.hX
 h0:=h.h0
 lk:=h.armLk
 hw:=by
  have e:=aBv wt v (fun l=>aD6 v l) s
  have:0<=sm wt (uR v s):=iO fun x hx=>(h.lk x (aAq.1 hx).1).1
  have:=h.hw
  grind
 inc:=aPP h.ord fun x hx=>(h.lk x hx).2.2.2
 nd:=fun x hx=>⟨h.hn _ (h.armV x hx).1,(h.armV x hx).2⟩
 ne:=h.ne
 hv:=⟨h.h1,(h.hn v h.hv).2⟩
theorem Front.fit {D X:Nat}{V:List Int}{v:Int}{s:List QL}(h:Front D X V v s):∀ x∈s,x.fit:=fun x hx =>
 aGJ h.hD h.hP (h.lk x hx).1 (by have:=h.hX;omega) h.h0 (by
  have:=wZ (fun y hy=>(h.lk y hy).1) hx
  have:=h.hw
  grind)
def gC (v:Int)(s:List QL):List QL:=uR v s++mE (sm wt (bL v s)) (bL v s)
theorem aKX {D E X Y:Nat}{l:QL}(h:Lk D X l)(hd:D∣E)(hx:X<=Y):Lk E Y l:=⟨aSC h.sc hd,aD5 h.bx hx,aD5 h.by' hx⟩
theorem Front.next {D X:Nat}{V:List Int}{v:Int}{s:List QL}(h:Front D X V v s){N:Nat}(hN:N=nm D (sm wt (bL v s))) :
 (∀ x∈gC v s,Lk (D*N) (2*X) x/\inV (V.erase v) x/\Dv (D*N*pn D s) (enQ x)/\x.fit/\x.ok)/\sm wt (gC v s)<=sm wt s:=by
 subst hN
 have ha:=h.arms
 obtain⟨n1,n2⟩:=ha.nN
 constructor
 · intro x hx
   rcases aUz.1 hx with hx | hx
   · obtain⟨m1,m2,m3⟩:=aAq.1 hx
     obtain⟨l1,l2,l3,l4⟩:=h.lk x m1
     refine⟨aKX l1 (aWB _ _) (by omega),⟨(h.hV.mem_erase_iff).2 ⟨m2,l2⟩,(h.hV.mem_erase_iff).2 ⟨m3,l3⟩,l4⟩,?_,h.fit x m1,(h.hn _ l2),(h.hn _ l3),l4,l1.sc.1⟩
     refine xH (aKU h.hD l1.sc) ?_
     rw[aVr]
     exact aWe _ (aWL (aGb D x m1) (aWG _ _))
   · obtain⟨e1,e2,e3,e4,⟨y,hy,e5⟩,z,hz,e6⟩:=ha.each hx
     have v1:=h.armV y hy
     have v2:=h.armV z hz
     rw[e5]at v1
     rw[e6]at v2
     refine⟨e3,⟨(h.hV.mem_erase_iff).2 ⟨v1.2,v1.1⟩,(h.hV.mem_erase_iff).2 ⟨v2.2,v2.1⟩,e2.2.2.1⟩,xH e4 ?_,e1,e2⟩
     refine aWe _ ?_
     rw[aJD D v s]
     exact aWB _ _
 · unfold gC
   rw[rI,aBv wt v (fun l=>aD6 v l) s]
   have:=ha.mesh_le
   grind
/- A node of a tree over the rational numbers. -/
def aHO (x y:QL):Prop:=x.a=y.a/\x.b=y.b
theorem aIp:∀ (s:List QL) (l:QL),∀ y∈(jI s l).1,(∃ x∈s,aHO x y)\/aHO l y
 | [],l,y,hy=>by simp[jI]at hy;subst hy;exact .inr ⟨rfl,rfl⟩
 | k::s,l,y,hy=>by
  by_cases c:cW k l
  · rw[tD c]at hy
    rcases aUr.1 hy with rfl | hy
    · exact .inl ⟨y,by simp,rfl,rfl⟩
    · rcases aIp s l y hy with⟨x,hx,h⟩ | h
      · exact .inl ⟨x,by simp[hx],h⟩
      · exact .inr h
  · by_cases d:cW l k
    · rw[wU c d]at hy
      rcases aUr.1 hy with rfl | hy
      · exact .inr ⟨rfl,rfl⟩
      · exact .inl ⟨y,hy,rfl,rfl⟩
    · rw[wT c d]at hy
      rcases aUr.1 hy with rfl | hy
      · exact .inl ⟨k,by simp,rfl,rfl⟩
      · exact .inl ⟨y,by simp[hy],rfl,rfl⟩
theorem aKP:∀ (s:List QL) (l:QL),(∀ x∈s,∃ y∈(jI s l).1,aHO x y)/\∃ y∈(jI s l).1,aHO l y
 | [],l=>⟨by simp,l,by simp[jI],rfl,rfl⟩
 | k::s,l=>by
  by_cases c:cW k l
  · rw[tD c]
    obtain⟨h1,h2⟩:=aKP s l
    refine⟨fun x hx=>?_,?_⟩
    · rcases aUr.1 hx with rfl | hx
      · exact⟨x,by simp,rfl,rfl⟩
      · obtain⟨y,hy,h⟩:=h1 x hx
        exact⟨y,by simp[hy],h⟩
    · obtain⟨y,hy,h⟩:=h2
      exact⟨y,by simp[hy],h⟩
  · by_cases d:cW l k
    · rw[wU c d]
      exact⟨fun x hx=>⟨x,by simp only[aUr]at hx ⊢;exact .inr hx,rfl,rfl⟩,l,by simp,rfl,rfl⟩
    · rw[wT c d]
      refine⟨fun x hx=>?_,mrg k l,by simp,(zH c d).1.symm,(zH c d).2.symm⟩
      rcases aUr.1 hx with rfl | hx
      · exact⟨mrg x l,by simp,rfl,rfl⟩
      · exact⟨x,by simp[hx],rfl,rfl⟩
theorem nK:∀ (l s:List QL) (e:Q),∀ y∈(aU l s e).1,∃ x,(x∈s\/x∈l)/\aHO x y
 | [],s,e,y,hy=>⟨y,.inl hy,rfl,rfl⟩
 | z::l,s,e,y,hy=>by
  rw[aU]at hy
  obtain⟨x,hx,h1,h2⟩:=nK l _ _ y hy
  rcases hx with hx | hx
  · rcases aIp s z x hx with⟨w,hw,g1,g2⟩ | ⟨g1,g2⟩
    · exact⟨w,.inl hw,g1.trans h1,g2.trans h2⟩
    · exact⟨z,.inr (by simp),g1.trans h1,g2.trans h2⟩
  · exact⟨x,.inr (by simp[hx]),h1,h2⟩
theorem qY:∀ (l s:List QL) (e:Q),∀ x,(x∈s\/x∈l)->∃ y∈(aU l s e).1,aHO x y
 | [],s,e,x,hx=>by
  rcases hx with hx | hx
  · exact⟨x,hx,rfl,rfl⟩
  · cases hx
 | z::l,s,e,x,hx=>by
  rw[aU]
  obtain⟨a1,w,hw,a3⟩:=aKP s z
  rcases hx with hx | hx
  · obtain⟨u,hu,g1,g2⟩:=a1 x hx
    obtain⟨y,hy,h1,h2⟩:=qY l (jI s z).1 (e+(jI s z).2) u (.inl hu)
    exact⟨y,hy,g1.trans h1,g2.trans h2⟩
  · rcases aUr.1 hx with e1 | hx
    · obtain⟨y,hy,h1,h2⟩:=qY l (jI s z).1 (e+(jI s z).2) w (.inl hw)
      exact⟨y,hy,by rw[e1];exact a3.1.trans h1,by rw[e1];exact a3.2.trans h2⟩
    · exact qY l _ _ x (.inr hx)
structure NQ where
 node:Int
 up:Int
 own:List QL
 cond:CQ
 msgs:List QL
 enQ:Q
 den:Nat
def NQ.toN (n:NQ):TreeNode:=⟨n.node,n.up,n.own.map QL.toL,n.cond.toC,n.msgs.map QL.toL,ofQ n.enQ⟩
def upQ (order:List Int)(c:CQ):Int:=aP order (c.ps.map (·.node))
theorem aT6 (order:List Int)(c:CQ):upP order c.toC=upQ order c:=by
 unfold upP upQ aGf CQ.toC
 simp only[aWo]
 rfl
def lV (v:Int)(b:List NQ):List QL:=(b.filter (fun n=>decide (n.up=v))).flatMap (·.msgs)
theorem aRv (v:Int):∀ b:List NQ,aA1 v (b.map NQ.toN)=(lV v b).map QL.toL
 | []=>rfl
 | n::b=>by
  have ih:=aRv v b
  unfold aA1 lV at ih ⊢
  rw[aUH,aUY,aUY]
  by_cases c:n.up=v
  · rw[aUs (show decide ((NQ.toN n).fUp=v)=true from aUu c),aUs (aUu c),aVc,aVc,aVE,ih];rfl
  · rw[aUq (show ¬decide ((NQ.toN n).fUp=v)=true from fun e=>c (aU4 e)),aUq (fun e=>c (aU4 e)),ih]
def cL {α:Type}(f:α->Nat):List α->Nat
 | []=>1
 | x::l=>f x*cL f l
def aDi (v:Int)(b:List NQ):Nat:=cL (·.den) (b.filter (fun n=>decide (n.up=v)))
def dnQ:List QL->Nat->Nat
 | [],_=>1
 | _::_,d=>d
theorem aQY {m:List QL}{d:Nat}(h:0<d):0<dnQ m d:=by
 cases m with
 | nil=>exact Nat.one_pos
 | cons=>exact h
theorem aQZ {m:List QL}{d:Nat}{x:QL}(h:x∈m):dnQ m d=d:=by
 cases m with
 | nil=>cases h
 | cons=>rfl
theorem aSp {m:List QL}{d e:Nat}(h:d<=e)(h1:0<e):dnQ m d<=e:=by
 cases m with
 | nil=>exact h1
 | cons=>exact h
def aCN (order:List Int)(v:Int)(own:List QL)(b:List NQ):NQ :=
 ⟨v,upQ order (oQ v (bL v (aU (own++lV v b) [] 0).1)),own,oQ v (bL v (aU (own++lV v b) [] 0).1),(aU (gC v (aU (own++lV v b) [] 0).1) [] 0).1,
  (aU (own++lV v b) [] 0).2+(aU (gC v (aU (own++lV v b) [] 0).1) [] 0).2,dnQ (aU (gC v (aU (own++lV v b) [] 0).1) [] 0).1 (aDi v b*nm (aDi v b) (sm wt (bL v (aU (own++lV v b) [] 0).1)))⟩
theorem aSg {l:List QL}(h:∀ x∈l,x.fit/\x.ok)(hj:aA3 l [] 0):jnP (l.map QL.toL)=some ((aU l [] 0).1.map QL.toL,ofQ (aU l [] 0).2)/\(∀ k∈(aU l [] 0).1,k.fit)/\bN (aU l [] 0).2:=by
 obtain⟨h1,h2,h3⟩:=aPd l [] 0 (fun x hx=>(h x hx).1) (by simp) aEg hj
 refine⟨?_,h2,h3⟩
 unfold jnP
 rw[aUs (fun x hx=>by
  obtain⟨y,hy,rfl⟩:=aUJ.1 hx
  exact(aEh (h y hy).1).2 (h y hy).2),aBq]
 exact h1
def tri (K:Nat):Nat:=K*(K-1) / 2
theorem aEj {K:Nat}(h:K<=6):K*K<=2*tri K+K:=by
 have:∀ K,K<=6->K*K<=2*tri K+K:=by decide
 exact this K h
structure Room (D T K:Nat):Prop where
 k6:K<=6
 d1:72*D<=PP
 c1:10 ^ 9*(T*(D*(72*D) ^ tri K))<BB ^ 24
 c2:K<=2\/(72*(D*(72*D))<=PP/\10 ^ 9*((D*(72*D))*(72*D) ^ tri K*((D*(72*D))*(72*(D*(72*D))) ^ tri (K-1)))<BB ^ 24)
 c3:4*10 ^ 9*(T*((D*(72*D))*(72*D) ^ (K-1)*(72*(D*(72*D))) ^ tri (K-1)))<BB ^ 24
structure Inc (D T X:Nat)(V:List Int)(v:Int)(l:List QL):Prop where
 hD:0<D
 hT:0<T
 hX:X<=800
 h0:0<X
 lk:∀ x∈l,Lk D X x/\inV V x/\Dv T (enQ x)
 hw:sm wt l<=72
 hV:V.Nodup
 hn:∀ u∈V,0<=u/\u<=9
 hv:v∈V
 h1:1<=v
 ex:∃ x∈l,x.a=v\/x.b=v
 room:Room D T V.length
theorem Inc.jn {D T X:Nat}{V:List Int}{v:Int}{l:List QL}(h:Inc D T X V v l):Jn D T X (tri V.length) V :=
 ⟨h.hD,h.room.d1,by have:=h.hX;omega,h.h0,h.hT,h.hV,aEj h.room.k6,h.room.c1⟩
theorem Inc.fo {D T X:Nat}{V:List Int}{v:Int}{l:List QL}(h:Inc D T X V v l):∀ x∈l,x.fit/\x.ok:=fun x hx=>by
 obtain⟨l1,⟨l2,l3,l4⟩,_⟩:=h.lk x hx
 refine⟨aGJ h.hD h.room.d1 l1 (by have:=h.hX;omega) h.h0 ?_,h.hn _ l2,h.hn _ l3,l4,l1.sc.1⟩
 have:=wZ (fun y hy=>(h.lk y hy).1) hx
 have:=h.hw
 grind
theorem Inc.join {D T X:Nat}{V:List Int}{v:Int}{l:List QL}(h:Inc D T X V v l) :
 aA3 l [] 0/\Front D X V v (aU l [] 0).1/\(aU l [] 0).2=sm enQ l-sm enQ (aU l [] 0).1/\sm wt (aU l [] 0).1=sm wt l:=by
 have es:=uK (fun x hx=>(h.lk x hx).1) (by have:=h.hX;omega) h.hw
 have e0:(0:Q)-sm enQ []=0:=by simp only[sm];grind
 have g:=aDT h.jn l [] 0 h.lk (by simp) List.Pairwise.nil (by simp only[sm];have:=h.hw;grind) ⟨0,by simp⟩ (by grind) (by have:=es.2;grind)
 rw[e0]at g
 obtain⟨g1,g2,g3,g4,g5⟩:=g
 have g5':sm wt (aU l [] 0).1=sm wt l:=by rw[g5];simp only[sm];grind
 refine⟨g1,⟨h.hD,h.room.d1,h.hX,h.h0,g2,g3,by rw[g5'];exact h.hw,h.hV,h.hn,h.hv,h.h1,?_⟩,by rw[g4];grind,g5'⟩
 obtain⟨x,hx,ht⟩:=h.ex
 obtain⟨y,hy,p1,p2⟩:=qY l [] 0 x (.inr hx)
 have:aBn v y∈bL v (aU l [] 0).1:=wN.2 ⟨y,hy,by rw[<- p1,<- p2];exact ht,rfl⟩
 intro e
 rw[e]at this;cases this
theorem Front.nextIn {D T X:Nat}{V:List Int}{v:Int}{s:List QL}(h:Front D X V v s)(r:Room D T V.length) :
 aA3 (gC v s) [] 0/\(∀ x∈(aU (gC v s) [] 0).1,Lk (D*nm D (sm wt (bL v s))) (2*X) x/\inV (V.erase v) x)/\(aU (gC v s) [] 0).1.Pairwise cW/\
  (aU (gC v s) [] 0).2=sm enQ (gC v s)-sm enQ (aU (gC v s) [] 0).1/\sm wt (aU (gC v s) [] 0).1=sm wt (gC v s):=by
 obtain⟨n1,n2⟩:=h.next rfl
 have hl:=List.length_erase_of_mem h.hv
 have hVe:=h.hV.erase v
 by_cases c:V.length<=2
 · have e:gC v s=[]:=by
    rw[aWa]
    intro x hx
    obtain⟨i1,i2,i3⟩:=(n1 x hx).2.1
    have:(V.erase v).length<=1:=by omega
    have:=(aUL.2 ⟨by simp;omega,aUL.2 ⟨by simp,List.nodup_nil⟩⟩:([x.a,x.b]:List Int).Nodup).length_le_of_subset (l₂:=V.erase v) (fun z hz=>by
     simp only[aUr,aVi,or_false]at hz
     rcases hz with rfl | rfl
     · exact i1
     · exact i2)
    simp at this;omega
   rw[e]
   refine⟨trivial,by simp[aU],by simp[aU],by simp only[aU,sm];grind,by simp only[aU,sm]⟩
 · obtain⟨r1,r2⟩:=r.c2.resolve_left c
   have ha:=h.arms
   obtain⟨a1,a2⟩:=ha.nN
   have hDN:D*nm D (sm wt (bL v s))<=D*(72*D):=aUS _ a2
   have hT:0<D*nm D (sm wt (bL v s))*pn D s:=aU6 (aU6 h.hD a1) (aC3 h.hD fun x hx=>(h.lk x hx).1.sc)
   have hps:pn D s<=(72*D) ^ tri V.length:=by
    have l1:=aCe h.hV h.ord (fun x hx=>(h.lk x hx).2)
    have l2:=aEj r.k6
    have l3:=aGc (W:=72) h.hD (fun x hx=>(h.lk x hx).1.sc) (fun x hx=>by
     have:=wZ (fun y hy=>(h.lk y hy).1) hx
     have:=h.hw
     show x.w<=72;grind)
    have hD:=h.hD
    exact aUE l3 (aU9 (by omega) (by omega))
   have jn:Jn (D*nm D (sm wt (bL v s))) (D*nm D (sm wt (bL v s))*pn D s) (2*X) (tri (V.length-1)) (V.erase v):=by
    refine⟨aU6 h.hD a1,aUE (aUS _ hDN) r1,by have:=h.hX;omega,by have:=h.h0;omega,hT,hVe,?_,?_⟩
    · rw[hl];exact aEj (by have:=r.k6;omega)
    · refine aVW (aUS _ (aUX (aUX hDN hps) (aUX hDN (aVJ (aUS _ hDN) _)))) r2
   have hw:sm wt (gC v s)<=72:=by have:=h.hw;grind
   have es:=uK (fun x hx=>(n1 x hx).1) (by have:=h.hX;omega) hw
   have e0:(0:Q)-sm enQ []=0:=by simp only[sm];grind
   have g:=aDT jn (gC v s) [] 0 (fun x hx=>⟨(n1 x hx).1,(n1 x hx).2.1,(n1 x hx).2.2.1⟩) (by simp) List.Pairwise.nil (by simp only[sm];grind) ⟨0,by simp⟩ (by grind) (by have:=es.2;grind)
   rw[e0]at g
   obtain⟨g1,g2,g3,g4,g5⟩:=g
   exact⟨g1,g2,g3,by rw[g4];grind,by rw[g5];simp only[sm];grind⟩
/- A node of a tree: the program computes what is computed over the rational numbers. -/
theorem Front.restLk {D X:Nat}{V:List Int}{v:Int}{s:List QL}(h:Front D X V v s):∀ x∈uR v s,Lk D X x:=fun x hx=>(h.lk x (aAq.1 hx).1).1
theorem Front.armLen {D X:Nat}{V:List Int}{v:Int}{s:List QL}(h:Front D X V v s):(bL v s).length<=V.length-1:=by
 have ha:=h.arms
 have n:((bL v s).map fun x=>x.a).Nodup:=by
  rw[List.Nodup,aVz]
  exact ha.inc.imp fun {x y} hxy e=>by omega
 have:=n.length_le_of_subset (l₂:=V.erase v) (fun z hz=>by
  obtain⟨x,hx,rfl⟩:=aUJ.1 hz
  exact(h.hV.mem_erase_iff).2 ⟨(h.armV x hx).2,(h.armV x hx).1⟩)
 rw[aUM,List.length_erase_of_mem h.hv]at this
 exact this
theorem Front.sumFits {D T X:Nat}{V:List Int}{v:Int}{s:List QL}(h:Front D X V v s)(r:Room D T V.length)(hT:0<T){q:Q}(hq:Dv T q)(h0:0<=q)(hq2:q<=((10 ^ 9:Nat):Q)) :
 bN ((q-sm enQ s)+(aU (gC v s) [] 0).2):=by
 obtain⟨g1,g2,g3,g4,g5⟩:=h.nextIn r
 obtain⟨n1,n2⟩:=h.next rfl
 have ha:=h.arms
 obtain⟨a1,a2⟩:=ha.nN
 have hDN:D*nm D (sm wt (bL v s))<=D*(72*D):=aUS _ a2
 have hD':0<D*nm D (sm wt (bL v s)):=aU6 h.hD a1
 have hw:=h.hw
 have hX:=h.hX
 have hD:=h.hD
 have es:=aBv enQ v (fun l=>aQ7 v l) s
 have ew:=aBv wt v (fun l=>aD6 v l) s
 have wr:=iO h.restLk
 have wa:=iO h.armLk
 have en1:sm enQ (gC v s)=sm enQ (uR v s)+sm enQ (mE (sm wt (bL v s)) (bL v s)):=rI _ _ _
 have mk:∀ z∈mE (sm wt (bL v s)) (bL v s),Lk (D*nm D (sm wt (bL v s))) (2*X) z:=fun z hz=>(ha.each hz).2.2.1
 have wm:=ha.mesh_le
 obtain⟨b1,b2⟩:=uK h.armLk (by omega) ha.hw
 obtain⟨b3,b4⟩:=uK mk (by omega) (by have:=ha.hw;grind)
 obtain⟨b5,b6⟩:=uK (fun x hx=>(g2 x hx).1) (by omega) (by rw[g5];grind)
 have e:(q-sm enQ s)+(aU (gC v s) [] 0).2=q-sm enQ (bL v s)+sm enQ (mE (sm wt (bL v s)) (bL v s))-sm enQ (aU (gC v s) [] 0).1:=by
  rw[g4,en1,es];grind
 have d1:Dv (D*nm D (sm wt (bL v s))*pn D (bL v s)) (sm enQ (bL v s)):=by
  refine xH (aHf h.hD fun x hx=>(h.armLk x hx).sc) ?_
  rw[Nat.mul_right_comm]
  exact aWB _ _
 have d2:Dv (D*nm D (sm wt (bL v s))*pn D (bL v s)) (sm enQ (mE (sm wt (bL v s)) (bL v s))):=aHu fun z hz=>(ha.each hz).2.2.2.1
 have d3:Dv (D*nm D (sm wt (bL v s))*pn (D*nm D (sm wt (bL v s))) (aU (gC v s) [] 0).1) (sm enQ (aU (gC v s) [] 0).1):=aHf hD' fun x hx=>(g2 x hx).1.sc
 have d1':=qQ (pn (D*nm D (sm wt (bL v s))) (aU (gC v s) [] 0).1) d1
 have d2':=qQ (pn (D*nm D (sm wt (bL v s))) (aU (gC v s) [] 0).1) d2
 have d3':=qQ (pn D (bL v s)) d3
 rw[Nat.mul_right_comm]at d3'
 have up:∀ {U:Nat} {p:Q},Dv U p->Dv (T*U) p:=fun hp=>by rw[aU7];exact qQ T hp
 have d:=pG (kN (pG (qQ (D*nm D (sm wt (bL v s))*pn D (bL v s)*pn (D*nm D (sm wt (bL v s))) (aU (gC v s) [] 0).1) hq) (up d1')) (up d2')) (up d3')
 rw[e]
 have p1:pn D (bL v s)<=(72*D) ^ (V.length-1):=aUE (aGc (W:=72) h.hD (fun x hx=>(h.armLk x hx).sc) (fun x hx=>ha.le hx)) (aU9 (by omega) h.armLen)
 have p2:pn (D*nm D (sm wt (bL v s))) (aU (gC v s) [] 0).1<=(72*(D*(72*D))) ^ tri (V.length-1):=by
  have l1:=aCe (h.hV.erase v) g3 (fun x hx=>(g2 x hx).2)
  rw[List.length_erase_of_mem h.hv]at l1
  have l2:=aEj (K:=V.length-1) (by have:=r.k6;omega)
  have l3:=aGc (W:=72) hD' (fun x hx=>(g2 x hx).1.sc) (fun x hx=>by
   have:=wZ (fun y hy=>(g2 y hy).1) hx
   show x.w<=72;grind)
  exact aUE l3 (aUE (aU9 (by omega) (by omega)) (aVJ (aUS _ hDN) _))
 have q1:0<pn D (bL v s):=aC3 h.hD fun x hx=>(h.armLk x hx).sc
 have q2:0<pn (D*nm D (sm wt (bL v s))) (aU (gC v s) [] 0).1:=aC3 hD' fun x hx=>(g2 x hx).1.sc
 have c4:((4*10 ^ 9:Nat):Q)=4*((10 ^ 9:Nat):Q):=aVD 4 (10 ^ 9)
 have c5:=zY (10 ^ 9)
 refine aJc (B:=4*10 ^ 9) (aU6 hT (aU6 (aU6 hD' q1) q2)) d ?_ ?_ (by omega) (aVW (aUS _ (aUS T (aUX (aUX hDN p1) p2))) r.c3)
 · rw[c4];grind
 · rw[c4];grind
theorem aLp {order:List Int}{v:Int}{own:List QL}{b:List NQ}{T X:Nat}{V:List Int}(h:Inc (aDi v b) T X V v (own++lV v b)) :
 rR order v (own.map QL.toL) (b.map NQ.toN)=some (aCN order v own b).toN/\bN (aCN order v own b).enQ/\0<(aCN order v own b).den/\(aCN order v own b).den<=aDi v b*(72*aDi v b)/\
 (∀ x∈(aCN order v own b).msgs,Lk (aCN order v own b).den (2*X) x/\inV (V.erase v) x)/\(aCN order v own b).msgs.Pairwise cW/\sm wt (aCN order v own b).msgs<=sm wt (own++lV v b):=by
 obtain⟨j1,j2,j3,j4⟩:=h.join
 obtain⟨g1,g2,g3,g4,g5⟩:=j2.nextIn h.room
 obtain⟨n1,n2⟩:=j2.next rfl
 have ha:=j2.arms
 obtain⟨a1,a2⟩:=ha.nN
 obtain⟨e1,f1,f2⟩:=aSg h.fo j1
 have e2:=aSn f1 ha
 obtain⟨e3,f3,f4⟩:=aSg (fun x hx=>⟨(n1 x hx).2.2.2.1,(n1 x hx).2.2.2.2⟩) g1
 obtain⟨s1,s2⟩:=uK (fun x hx=>(h.lk x hx).1) (by have:=h.hX;omega) h.hw
 have f5:=j2.sumFits h.room h.hT (aHu fun x hx=>(h.lk x hx).2.2) s1 s2
 rw[<- j3]at f5
 refine⟨?_,f5,aQY (aU6 h.hD a1),aSp (aUS _ a2) (aU6 h.hD (by have:=h.hD;omega)),fun x hx=>⟨?_,(g2 x hx).2⟩,g3,?_⟩
 · unfold rR
   rw[aRv,<- aVE,e1]
   simp only[aUp]
   unfold aEn
   rw[e2]
   simp only[aUp]
   rw[aOq,<- aVE]
   have e4:uR v (aU (own++lV v b) [] 0).1++mE (sm wt (bL v (aU (own++lV v b) [] 0).1)) (bL v (aU (own++lV v b) [] 0).1)=gC v (aU (own++lV v b) [] 0).1:=rfl
   rw[e4,e3]
   simp only[aW8,aUp]
   rw[aHn f2 f4 f5,aUs (tY f5),aT6]
   rfl
 · have e:(aCN order v own b).den=aDi v b*nm (aDi v b) (sm wt (bL v (aU (own++lV v b) [] 0).1)):=aQZ hx
   rw[e]
   exact(g2 x hx).1
 · show sm wt (aU (gC v (aU (own++lV v b) [] 0).1) [] 0).1<=_
   rw[g5,<- j4]
   exact n2
/- First in an order; products; room by numbers. -/
theorem aBY {o s:List Int}(h1:∀ u∈o,1<=u):(aP o s=0/\∀ u∈o,u∉s)\/∃ p v r,o=p++v::r/\aP o s=v/\v∈s/\∀ u∈p,u∉s:=by
 unfold aP
 cases h:o.find? (fun u=>decide (u∈s))with
 | none =>
  refine .inl ⟨rfl,fun u hu hs=>?_⟩
  have:=List.find?_eq_none.1 h u hu
  simp[hs]at this
 | some v =>
  obtain⟨hv,p,r,e,hp⟩:=List.find?_eq_some_iff_append.1 h
  exact .inr ⟨p,v,r,e,rfl,aU4 hv,fun u hu hs=>by have:=hp u hu;simp[hs]at this⟩
theorem aIg {p r s:List Int}(h:∀ u∈p,u∉s):aP (p++r) s=aP r s:=by
 unfold aP
 rw[List.find?_append]
 have:p.find? (fun u=>decide (u∈s))=none:=List.find?_eq_none.2 fun u hu=>by simp[h u hu]
 rw[this];rfl
theorem aPr {v:Int}{r s:List Int}(h:v∈s):aP (v::r) s=v:=by
 unfold aP
 rw[aWR]
 simp[h]
theorem wS {p r s:List Int}{v:Int}(hn:(p++v::r).Nodup)(h1:∀ u∈p++v::r,1<=u):aP (p++v::r) s=v↔v∈s/\∀ u∈p,u∉s:=by
 constructor
 · intro h
   rcases aBY (s:=s) h1 with⟨h2,h3⟩ | ⟨p',v',r',e,h2,h3,h4⟩
   · have:=h1 v (by simp);omega
   · rw[h]at h2
     subst h2
     have hp:p=p':=by
      have n2:=hn
      rw[e]at n2
      have a1:=aUQ.1 hn
      have a2:=aUQ.1 n2
      have b1:v∉p:=fun hv=>a1.2.2 v hv v (by simp) rfl
      have b2:v∉p':=fun hv=>a2.2.2 v hv v (by simp) rfl
      have c1:(p++v::r).takeWhile (fun u=>decide (u≠v))=p:=by
       rw[List.takeWhile_append_of_pos (fun u hu=>by have:u≠v:=fun e=>b1 (e▸hu);simpa using this)]
       simp
      have c2:(p'++v::r').takeWhile (fun u=>decide (u≠v))=p':=by
       rw[List.takeWhile_append_of_pos (fun u hu=>by have:u≠v:=fun e=>b2 (e▸hu);simpa using this)]
       simp
      rw[<- c1,e,c2]
     subst hp
     exact⟨h3,h4⟩
 · rintro⟨h2,h3⟩
   rw[aIg h3,aPr h2]
theorem aKt {p r s:List Int}(h1:∀ u∈p++r,1<=u)(h:∀ u∈p,u∉s):(aP (p++r) s=0/\∀ u∈r,u∉s)\/(aP (p++r) s∈r/\aP (p++r) s∈s):=by
 rw[aIg h]
 rcases aBY (s:=s) (fun u hu=>h1 u (aU8 p hu))with h | ⟨p',v,r',e,h2,h3,_⟩
 · exact .inl h
 · exact .inr (by rw[h2];exact⟨by rw[e];simp,h3⟩)
theorem xX {α:Type}{f:α->Nat}:∀ {l:List α},(∀ x∈l,0<f x)->0<cL f l
 | [],_=>by simp[cL]
 | x::l,h=>aU6 (h x (by simp)) (xX fun y hy=>h y (by simp[hy]))
theorem aCh {α:Type}{f:α->Nat}:∀ {l:List α} {x:α},x∈l->f x∣cL f l
 | y::l,x,h=>by
  rw[cL]
  rcases aUr.1 h with rfl | h
  · exact aWB _ _
  · exact aWL (aCh h) (aWG _ _)
theorem aHW {α:Type}(f:α->Nat):∀ a b:List α,cL f (a++b)=cL f a*cL f b
 | [],b=>by simp[cL]
 | x::a,b=>by rw[aUB,cL,cL,aHW f a b,aVr]
theorem aF9 {α:Type}{f g:α->Nat}:∀ {l:List α},(∀ x∈l,f x<=g x)->cL f l<=cL g l
 | [],_=>aUI _
 | x::l,h=>aUX (h x (by simp)) (aF9 fun y hy=>h y (by simp[hy]))
theorem aEq {α:Type}(f:α->Nat)(k:Nat):∀ l:List α,cL (fun x=>f x ^ k) l=cL f l ^ k
 | []=>by simp[cL]
 | x::l=>by rw[cL,cL,aEq f k l,Nat.mul_pow]
theorem aEU {α:Type}(f:α->Nat)(p:α->Bool):∀ l:List α,cL f l=cL f (l.filter p)*cL f (l.filter fun x=>!p x)
 | []=>rfl
 | x::l=>by
  rw[aUY,aUY,cL,aEU f p l]
  cases p x
  · simp only[aUv,aUT,aWg,aUK,cL]
    rw[aWA]
  · simp only[aUK,aVj,aUv,aUT,cL,aVr]
def ex (k:Nat):Nat:=72 ^ 2 ^ k
def KK (K k:Nat):Prop:=K+k<=6\/(K<=3/\k<=3)\/(K<=2/\k<=4)
instance (K k:Nat):Decidable (KK K k):=by unfold KK;infer_instance
def NN (k K:Nat):Prop:=ex k<=PP/\10 ^ 9*(ex k ^ (tri K+1)*(ex k*ex k ^ tri K))<10 ^ 216/\(K<=2\/(ex k*ex k<=PP/\10 ^ 9*((ex k*ex k)*ex k ^ tri K*((ex k*ex k)*(ex k*ex k) ^ tri (K-1)))<10 ^ 216))/\4*10 ^ 9*(ex k ^ (tri K+1)*((ex k*ex k)*ex k ^ (K-1)*(ex k*ex k) ^ tri (K-1)))<10 ^ 216
instance (k K:Nat):Decidable (NN k K):=by unfold NN;infer_instance
theorem aR5:∀ k,k<=4->∀ K,K<=6->KK K k->2<=K->NN k K:=by decide
theorem aQu {D T K k:Nat}(hD:0<D)(hk:KK K k)(hK:2<=K)(h1:72*D<=ex k)(h2:T<=ex k ^ (tri K+1)):Room D T K:=by
 have hF:0<ex k:=by unfold ex;exact Nat.pow_pos (by omega)
 have hk4:k<=4:=by unfold KK at hk;omega
 have k6:K<=6:=by unfold KK at hk;omega
 have d0:D<=ex k:=by omega
 have m1:72*(D*(72*D))<=ex k*ex k:=by rw[<- aVr];exact aUX h1 h1
 have m2:D*(72*D)<=ex k*ex k:=aUX d0 h1
 have e1:T*(D*(72*D) ^ tri K)<=ex k ^ (tri K+1)*(ex k*ex k ^ tri K):=aUX h2 (aUX d0 (aVJ h1 _))
 have e2:(D*(72*D))*(72*D) ^ tri K*((D*(72*D))*(72*(D*(72*D))) ^ tri (K-1))<=(ex k*ex k)*ex k ^ tri K*((ex k*ex k)*(ex k*ex k) ^ tri (K-1)) :=
  aUX (aUX m2 (aVJ h1 _)) (aUX m2 (aVJ m1 _))
 have e3:T*((D*(72*D))*(72*D) ^ (K-1)*(72*(D*(72*D))) ^ tri (K-1))<=ex k ^ (tri K+1)*((ex k*ex k)*ex k ^ (K-1)*(ex k*ex k) ^ tri (K-1)) :=
  aUX h2 (aUX (aUX m2 (aVJ h1 _)) (aVJ m1 _))
 have num:=aR5
 obtain⟨n1,n2,n3,n4⟩:=num k hk4 K k6 hk hK
 rw[<- aQh]at n2 n3 n4
 refine⟨k6,aUE h1 n1,aVW (aUS _ e1) n2,?_,aVW (aUS _ e3) n4⟩
 rcases n3 with n3 | ⟨n3,n5⟩
 · exact .inl n3
 · exact .inr ⟨aUE m1 n3,aVW (aUS _ e2) n5⟩
/- Trees over the rational numbers: the front of the next node. -/
def pL (o:List Int)(v:Int)(x:QL):Bool:=decide (aP o [x.a,x.b]=v)
def psN (c:CQ):List Int:=c.ps.map (·.node)
def gM (rem:List Int)(c:NQ):Bool:=decide (c.up∈rem)
def kid (v:Int)(c:NQ):Bool:=decide (c.up=v)
def ex' (k:Nat):Nat:=if k=0 then 1 else ex k
theorem aJf (k:Nat):ex' k<=ex k:=by
 unfold ex'
 split
 · exact Nat.pow_pos (by omega)
 · exact aUI _
def aB6 (l:List QL)(o rem:List Int)(b:List NQ)(u w:Int):Prop :=
 (∃ x∈l,aP o [x.a,x.b]∈rem/\((x.a=u/\x.b=w)\/(x.a=w/\x.b=u)))\/∃ c∈b,c.up∈rem/\u∈psN c.cond/\w∈psN c.cond
def nxt (l:List QL)(o:List Int)(v:Int)(b:List NQ):NQ:=aCN o v (l.filter (pL o v)) b
def aD (l:List QL)(o:List Int):List Int->List NQ->List NQ
 | [],b=>b
 | v::r,b=>aD l o r (b++[nxt l o v b])
theorem aAg (l:List QL)(o:List Int):∀ (p q:List Int) (b:List NQ),aD l o (p++q) b=aD l o q (aD l o p b)
 | [],_,_=>rfl
 | v::p,q,b=>aAg l o p q (b++[nxt l o v b])
def mu (c:NQ):Nat:=if c.msgs.isEmpty=true then 0 else 1
def ka:List NQ->Nat
 | []=>0
 | c::b=>mu c+ka b
theorem aJa:∀ a b:List NQ,ka (a++b)=ka a+ka b
 | [],b=>by simp[ka]
 | c::a,b=>by rw[aUB,ka,ka,aJa a b];omega
theorem aMz (c:NQ):mu c<=1:=by unfold mu;split <;> omega
theorem aPc:∀ b:List NQ,ka b<=b.length
 | []=>aUI _
 | c::b=>by have:=aMz c;have:=aPc b;rw[ka,aUC];omega
def wd (c:NQ):Nat:=if c.msgs.isEmpty=true then 1 else 72*c.den
def Cap (l:List QL)(o:List Int)(b:List NQ)(v:Int)(r:List Int):Prop :=
 ∃ V:List Int,V.Nodup/\v∈V/\(∀ u∈V,u∈0::v::r)/\(∀ u,u≠v->aB6 l o (v::r) b v u->u∈V)/\KK V.length (ka b)
structure Base (l:List QL)(o:List Int):Prop where
 nd:o.Nodup
 h1:∀ u∈o,1<=u/\u<=9
 len:o.length<=7
 lk:∀ x∈l,Lk 1 50 x/\inV (0::o) x/\Dv 1 (enQ x)
 hw:sm wt l<=72
def dD (b:List NQ):List QL:=b.flatMap (·.msgs)
structure TCore (l:List QL)(o pre rem:List Int)(b:List NQ):Prop where
 split:o=pre++rem
 is:b=aD l o pre []
 len:b.length=pre.length
 den:∀ c∈b,c.up∈rem->0<c.den
 one:∀ c∈b,c.msgs=[]->c.den=1
 msg:∀ c∈b,c.up∈rem->(∀ x∈c.msgs,Lk c.den (50*2 ^ ka b) x)/\c.msgs.Pairwise cW
 ps:∀ c∈b,c.up∈rem->(∀ u∈psN c.cond,u∈0::rem)/\c.up=aP o (psN c.cond)/\(∀ x∈c.msgs,x.a∈psN c.cond/\x.b∈psN c.cond/\x.a<x.b)/\∀ u∈psN c.cond,∀ w∈psN c.cond,u<w->∃ x∈c.msgs,x.a=u/\x.b=w
 prod:cL wd (b.filter (gM rem))<=ex' (ka b)
 wtt:sm wt (dD (b.filter (gM rem)))+sm wt (l.filter fun x=>decide (aP o [x.a,x.b]∈rem))<=72
 cut:∀ S:Int->Prop,(∃ u∈rem,S u)->¬S 0->∃ u w,S u/\¬S w/\aB6 l o rem b u w
structure TInv (l:List QL)(o pre rem:List Int)(b:List NQ):Prop extends TCore l o pre rem b where
 cap:∀ v r,rem=v::r->Cap l o b v r
def aMb (l:List QL)(o:List Int):Prop:=∀ pre v r,o=pre++v::r->Cap l o (aD l o pre []) v r
theorem TCore.inv {l:List QL}{o pre rem:List Int}{b:List NQ}(h:TCore l o pre rem b)(hc:aMb l o):TInv l o pre rem b :=
 ⟨h,fun v r e=>by
  subst e
  have:=hc pre v r h.split
  rw[<- h.is]at this
  exact this⟩
theorem aEG {pre rem s:List Int}(hn:(pre++rem).Nodup)(h1:∀ u∈pre++rem,1<=u)(h:aP (pre++rem) s∈rem):∀ u∈pre,u∉s:=by
 obtain⟨r1,r2,e⟩:=List.append_of_mem h
 have e2:pre++rem=(pre++r1)++aP (pre++rem) s::r2:=(congrArg (pre++·) e).trans (aUO pre r1 _).symm
 generalize hw:aP (pre++rem) s=w at e e2
 rw[e2]at hw hn h1
 have:=(wS hn h1).1 hw
 exact fun u hu=>this.2 u (aVe _ hu)
theorem aBB (f:QL->Q)(p:QL->Bool):∀ l:List QL,sm f l=sm f (l.filter p)+sm f (l.filter fun x=>!p x)
 | []=>by simp only[aV9,sm];grind
 | x::l=>by
  have ih:=aBB f p l
  rw[aUY,aUY,sm]
  cases p x
  · simp only[aUv,aUT,aWg,aUK,sm];grind
  · simp only[aUK,aVj,aUv,aUT,sm];grind
theorem aC6 (f:QL->Q)(p:NQ->Bool):∀ b:List NQ,sm f (dD b)=sm f (dD (b.filter p))+sm f (dD (b.filter fun x=>!p x))
 | []=>by simp only[dD,aV9,aWm,sm];grind
 | x::b=>by
  have ih:=aC6 f p b
  unfold dD at ih ⊢
  rw[aUY,aUY,aVc,rI,ih]
  cases p x
  · simp only[aUv,aUT,aWg,aUK,aVc,rI];grind
  · simp only[aUK,aVj,aUv,aUT,aVc,rI];grind
theorem aGK {v:Int}{r:List Int}(b:List NQ):(b.filter (gM (v::r))).filter (kid v)=b.filter (kid v):=by
 rw[aVY]
 refine aWi fun c _=>?_
 unfold gM kid
 by_cases e:c.up=v <;> simp[e]
theorem aEC {v:Int}{r:List Int}(hv:v∉r)(b:List NQ):(b.filter (gM (v::r))).filter (fun c=>!kid v c)=b.filter (gM r):=by
 rw[aVY]
 refine aWi fun c _=>?_
 unfold gM kid
 by_cases e:c.up=v
 · simp[e,hv]
 · simp[e]
theorem aNq {v:Int}{r o:List Int}(hv:v∉r)(l:List QL):sm wt (l.filter fun x=>decide (aP o [x.a,x.b]∈v::r))=sm wt (l.filter (pL o v))+sm wt (l.filter fun x=>decide (aP o [x.a,x.b]∈r)):=by
 rw[aBB wt (pL o v),aVY,aVY]
 congr 2
 · refine aWi fun x _=>?_
   unfold pL
   by_cases e:aP o [x.a,x.b]=v <;> simp[e]
 · refine aWi fun x _=>?_
   unfold pL
   by_cases e:aP o [x.a,x.b]=v
   · simp[e,hv]
   · simp[e]
/- Trees over the rational numbers: what comes into the next front. -/
theorem aDA {pre r:List Int}{v:Int}(hn:(pre++v::r).Nodup)(h1:∀ u∈pre++v::r,1<=u){x:QL}:pL (pre++v::r) v x=true↔(x.a=v\/x.b=v)/\x.a∉pre/\x.b∉pre:=by
 unfold pL
 rw[aVb,wS hn h1]
 simp only[aUr,aVi,or_false]
 constructor
 · rintro⟨h2,h3⟩
   exact⟨by rcases h2 with h | h <;> simp[h],fun h=>h3 _ h (.inl rfl),fun h=>h3 _ h (.inr rfl)⟩
 · rintro⟨h2,h3,h4⟩
   refine⟨by rcases h2 with h | h <;> simp[h],fun u hu hh=>?_⟩
   rcases hh with rfl | rfl
   · exact h3 hu
   · exact h4 hu
theorem aSx {pre rem:List Int}{x:QL}(hv:inV (0::(pre++rem)) x)(h:∀ u∈pre,u∉[x.a,x.b]):inV (0::rem) x:=by
 obtain⟨h1,h2,h3⟩:=hv
 have key:∀ u,u∈[x.a,x.b]->u∈0::(pre++rem)->u∈0::rem:=by
  intro u hu hm
  simp only[aUr,aUz]at hm ⊢
  rcases hm with h4 | h4 | h4
  · exact .inl h4
  · exact absurd hu (h u h4)
  · exact .inr h4
 exact⟨key _ (by simp) h1,key _ (by simp) h2,h3⟩
section
variable {l:List QL}{o pre r:List Int}{v:Int}{b:List NQ}
theorem TInv.facts (hb:Base l o)(hi:TInv l o pre (v::r) b):(pre++v::r).Nodup/\(∀ u∈pre++v::r,1<=u)/\v∉r/\1<=v/\v<=9/\r.length+1+b.length<=7/\(0::v::r).Nodup/\∀ u∈0::v::r,0<=u/\u<=9:=by
 have e:=hi.split
 have n:=hb.nd
 have h1:=hb.h1
 have len:=hb.len
 rw[e]at n h1 len
 have n2:=(aUQ.1 n).2.1
 have a1:=h1 v (by simp)
 have hr:∀ u∈v::r,1<=u/\u<=9:=fun u hu=>h1 u (aU8 _ hu)
 refine⟨n,fun u hu=>(h1 u hu).1,(aUL.1 n2).1,a1.1,a1.2,?_,aUL.2 ⟨fun h=>?_,n2⟩,fun u hu=>?_⟩
 · have:=hi.len
   simp only[aUF,aUC]at len
   omega
 · have:=hr 0 h;omega
 · rcases aUr.1 hu with rfl | hu
   · omega
   · have:=hr u hu;omega
theorem wM {x:QL}:x∈lV v b↔∃ c∈b,c.up=v/\x∈c.msgs:=by
 unfold lV
 rw[aVN]
 constructor
 · rintro⟨c,hc,hx⟩
   rw[aUy,aVb]at hc
   exact⟨c,hc.1,hc.2,hx⟩
 · rintro⟨c,hc,h,hx⟩
   exact⟨c,aUy.2 ⟨hc,aUu h⟩,hx⟩
theorem aN5 {c:NQ}(h:0<c.den):0<wd c:=by unfold wd;split <;> omega
theorem aIA {c:NQ}(h:c.msgs=[]):wd c=1:=by unfold wd;rw[h];rfl
theorem aFo {c:NQ}(h:c.msgs≠[]):wd c=72*c.den:=by
 unfold wd
 rw[aUq (by simpa using h)]
theorem aJi:∀ {L:List NQ},(∀ c∈L,0<c.den/\(c.msgs=[]->c.den=1))->(cL (fun c:NQ=>c.den) L=1/\cL wd L=1)\/72*cL (fun c:NQ=>c.den) L<=cL wd L
 | [],_=>.inl ⟨rfl,rfl⟩
 | c::L,h=>by
  have ih:=aJi (L:=L) fun d hd=>h d (by simp[hd])
  obtain⟨h1,h2⟩:=h c (by simp)
  rw[cL,cL]
  by_cases e:c.msgs=[]
  · rw[h2 e,aIA e,Nat.one_mul,Nat.one_mul];exact ih
  · rw[aFo e]
    right
    rcases ih with⟨a,b⟩ | a
    · rw[a,b];omega
    · have:72*(c.den*cL (fun c:NQ=>c.den) L)=c.den*(72*cL (fun c:NQ=>c.den) L):=aWA _ _ _
      rw[this]
      refine aUE (aUS _ a) ?_
      rw[aVr]
      exact Nat.le_mul_of_pos_left _ (by omega)
theorem TInv.kids (hi:TInv l o pre (v::r) b):cL wd (b.filter (kid v))*cL wd (b.filter fun c=>gM (v::r) c&&!kid v c)<=ex' (ka b)/\0<cL wd (b.filter fun c=>gM (v::r) c&&!kid v c)/\0<cL wd (b.filter (kid v)):=by
 have h:=hi.prod
 rw[aEU _ (kid v),aGK,aVY]at h
 have e:(fun a=>!kid v a&&gM (v::r) a)=fun c=>gM (v::r) c&&!kid v c:=by funext c;rw[Bool.and_comm]
 rw[e]at h
 refine⟨h,xX fun c hc=>?_,xX fun c hc=>?_⟩
 · rw[aUy,aUP]at hc
   exact aN5 (hi.den c hc.1 (aU4 hc.2.1))
 · rw[aUy]at hc
   have hu:=aU4 hc.2
   exact aN5 (hi.den c hc.1 (by rw[hu];simp))
theorem aIy (hi:TInv l o pre (v::r) b)(hb:Base l o):sm wt (l.filter (pL o v)++lV v b)+(sm wt (dD (b.filter (gM r)))+sm wt (l.filter fun x=>decide (aP o [x.a,x.b]∈r)))<=72/\
 (∀ c∈b,c.up∈v::r->∀ x∈c.msgs,x.w<=72):=by
 obtain⟨n,h1,hv,_⟩:=hi.facts hb
 have h:=hi.wtt
 have h0:=h
 rw[aC6 wt (kid v),aGK,aEC hv,aNq hv]at h
 rw[rI]
 have e:dD (b.filter (kid v))=lV v b:=rfl
 rw[e]at h
 refine⟨by grind,fun c hc hu x hx=>?_⟩
 have hm:x∈dD (b.filter (gM (v::r))):=aVN.2 ⟨c,aUy.2 ⟨hc,aUu hu⟩,hx⟩
 have nn:∀ y∈dD (b.filter (gM (v::r))),0<=wt y:=by
  intro y hy
  obtain⟨d,hd,hy⟩:=aVN.1 hy
  rw[aUy]at hd
  have:=((hi.msg d hd.1 (aU4 hd.2)).1 y hy).sc.1
  unfold wt;grind
 have h2:=aIH nn x hm
 have h3:0<=sm wt (l.filter fun x=>decide (aP o [x.a,x.b]∈v::r)):=iO fun y hy=>(hb.lk y (aUy.1 hy).1).1
 have e2:wt x=x.w:=rfl
 grind
theorem TInv.kid_v (hb:Base l o)(hi:TInv l o pre (v::r) b){c:NQ}(hc:c∈b)(hu:c.up=v):v∈psN c.cond:=by
 obtain⟨n,h1,_⟩:=hi.facts hb
 obtain⟨p1,p2,p3,p4⟩:=hi.ps c hc (by rw[hu];simp)
 have e:=hi.split
 rw[hu,e]at p2
 exact((wS n h1).1 p2.symm).1
theorem TInv.kid_V (hb:Base l o)(hi:TInv l o pre (v::r) b){V:List Int}(hv:v∈V)(ha:∀ u,u≠v->aB6 l o (v::r) b v u->u∈V){c:NQ}(hc:c∈b)(hu:c.up=v):∀ u∈psN c.cond,u∈V:=fun u hm=>by
 by_cases e:u=v
 · rw[e];exact hv
 · exact ha u e (.inr ⟨c,hc,by rw[hu];simp,hi.kid_v hb hc hu,hm⟩)
theorem aMU (hb:Base l o)(hi:TInv l o pre (v::r) b){V:List Int}(nV:V.Nodup)(hv:v∈V)(ha:∀ u,u≠v->aB6 l o (v::r) b v u->u∈V)(h6:V.length<=6){c:NQ}(hc:c∈b)(hu:c.up=v):0<c.den*pn c.den c.msgs/\c.den*pn c.den c.msgs<=wd c ^ (tri V.length+1):=by
 have hu':c.up∈v::r:=by rw[hu];simp
 obtain⟨m1,m2⟩:=hi.msg c hc hu'
 obtain⟨p1,p2,p3,p4⟩:=hi.ps c hc hu'
 have hd:=hi.den c hc hu'
 have pp:=hi.kid_V hb hv ha hc hu
 have pos:=aC3 hd fun x hx=>(m1 x hx).sc
 refine⟨aU6 hd pos,?_⟩
 by_cases e:c.msgs=[]
 · rw[aIA e,hi.one c hc e,e,Nat.one_pow]
   exact aUI _
 have l1:=aCe nV m2 (fun x hx=>⟨pp _ (p3 x hx).1,pp _ (p3 x hx).2.1,(p3 x hx).2.2⟩)
 have l2:=aEj (K:=V.length) h6
 have l3:=aGc (W:=72) hd (fun x hx=>(m1 x hx).sc) (fun x hx=>(aIy hi hb).2 c hc hu' x hx)
 rw[aFo e,aVI,aU7 ((72*c.den) ^ _)]
 exact aUX (by omega) (aUE l3 (aU9 (by omega) (by omega)))
theorem TInv.inc (hb:Base l o)(hi:TInv l o pre (v::r) b) :
 ∃ V:List Int,(∀ u∈V,u∈0::v::r)/\Inc (aDi v b) (cL (fun c:NQ=>c.den*pn c.den c.msgs) (b.filter (kid v))) (50*2 ^ ka b) V v (l.filter (pL o v)++lV v b):=by
 obtain⟨n,h1,hv,v1,v9,hl,nV0,hV0⟩:=hi.facts hb
 obtain⟨V,nV,vV,sV,aV,kV⟩:=hi.cap v r rfl
 have hV:∀ u∈V,0<=u/\u<=9:=fun u hu=>hV0 u (sV u hu)
 have kd:∀ c∈b.filter (kid v),c∈b/\c.up=v/\c.up∈v::r:=fun c hc=>by
  rw[aUy]at hc
  have:=aU4 hc.2
  exact⟨hc.1,this,by rw[this];simp⟩
 have hD:0<aDi v b:=xX fun c hc=>hi.den c (kd c hc).1 (kd c hc).2.2
 obtain⟨k1,k2,k3⟩:=hi.kids
 have hH:cL wd (b.filter (kid v))<=ex (ka b):=aUE (aUE (aVX _ k2) k1) (aJf _)
 have ex72:72<=ex (ka b):=by
  unfold ex
  have:1<=2 ^ ka b:=Nat.one_le_two_pow
  calc 72=72 ^ 1:=rfl
   _<=_:=aU9 (by omega) this
 obtain⟨u0,w0,e0,n0,adj0⟩:=hi.cut (fun u=>u=v) ⟨v,by simp,rfl⟩ (by omega)
 rw[e0]at adj0
 have w0V:=aV w0 n0 adj0
 have V2:2<=V.length:=by
  have:=(aUL.2 ⟨by simpa using fun e:v=w0=>n0 e.symm,aUL.2 ⟨by simp,List.nodup_nil⟩⟩:([v,w0]:List Int).Nodup).length_le_of_subset (l₂:=V) (fun z hz=>by
   simp only[aUr,aVi,or_false]at hz
   rcases hz with rfl | rfl
   · exact vV
   · exact w0V)
  simpa using this
 have V6:V.length<=6/\ka b<=4:=by unfold KK at kV;omega
 have hX:50*2 ^ ka b<=50*2 ^ 4:=aUS _ (aU9 (by omega) V6.2)
 refine⟨V,sV,hD,xX fun c hc=>(aMU hb hi nV vV aV V6.1 (kd c hc).1 (kd c hc).2.1).1,by omega,aU6 (by omega) (Nat.pow_pos (by omega)),?_,?_,nV,hV,vV,v1,?_,?_⟩
 · intro x hx
   rcases aUz.1 hx with hx | hx
   · rw[aUy]at hx
     obtain⟨l1,l2,l3⟩:=hb.lk x hx.1
     refine⟨aKX l1 (Nat.one_dvd _) (by have:1<=2 ^ ka b:=Nat.one_le_two_pow;omega),?_,xH l3 (Nat.one_dvd _)⟩
     have hf:=hx.2
     unfold pL at hf
     have hf:=aU4 hf
     have lt:=l2.2.2
     have hx2:=hx.2
     rw[hi.split]at hx2
     obtain⟨a1,a2,a3⟩:=(aDA n h1).1 hx2
     rcases a1 with e | e
     · exact⟨by rw[e];exact vV,aV _ (by omega) (.inl ⟨x,hx.1,by rw[hf];simp,.inl ⟨e,rfl⟩⟩),lt⟩
     · exact⟨aV _ (by omega) (.inl ⟨x,hx.1,by rw[hf];simp,.inr ⟨rfl,e⟩⟩),by rw[e];exact vV,lt⟩
   · obtain⟨c,hc,hu,hx⟩:=wM.1 hx
     have hk:c∈b.filter (kid v):=aUy.2 ⟨hc,aUu hu⟩
     have hu':c.up∈v::r:=by rw[hu];simp
     have hd:=hi.den c hc hu'
     obtain⟨m1,m2⟩:=hi.msg c hc hu'
     obtain⟨p1,p2,p3,p4⟩:=hi.ps c hc hu'
     have pp:=hi.kid_V hb vV aV hc hu
     refine⟨aKX (m1 x hx) (aCh (f:=fun c:NQ=>c.den) hk) (aUI _),⟨pp _ (p3 x hx).1,pp _ (p3 x hx).2.1,(p3 x hx).2.2⟩,?_⟩
     exact xH (aKU hd (m1 x hx).sc) (aWL (aWe _ (aGb _ x hx)) (aCh (f:=fun c:NQ=>c.den*pn c.den c.msgs) hk))
 · have:=(aIy hi hb).1
   have a1:0<=sm wt (l.filter fun x=>decide (aP o [x.a,x.b]∈r)):=iO fun y hy=>(hb.lk y (aUy.1 hy).1).1
   have a2:0<=sm wt (dD (b.filter (gM r))):=by
    refine oU fun y hy=>?_
    obtain⟨d,hd,hy⟩:=aVN.1 hy
    rw[aUy]at hd
    have:=((hi.msg d hd.1 (aU3 v (aU4 hd.2))).1 y hy).sc.1
    unfold wt;grind
   grind
 · obtain⟨u,w,s1,s2,adj⟩:=hi.cut (fun u=>u=v) ⟨v,by simp,rfl⟩ (by omega)
   subst s1
   rcases adj with⟨x,hx,hf,hp⟩ | ⟨c,hc,hu,p1,p2⟩
   · refine⟨x,aVe _ (aUy.2 ⟨hx,?_⟩),by rcases hp with hp | hp <;> simp[hp]⟩
     have e:=hi.split
     rw[e]at hf ⊢
     have:=aEG n h1 hf
     refine(aDA n h1).2 ⟨by rcases hp with hp | hp <;> simp[hp],fun h=>this _ h (by simp),fun h=>this _ h (by simp)⟩
   · obtain⟨q1,q2,q3,q4⟩:=hi.ps c hc hu
     have e:=hi.split
     have hcu:c.up=u:=by
      rw[q2,e]
      refine(wS n h1).2 ⟨p1,fun z hz hm=>?_⟩
      have:=q1 z hm
      rcases aUr.1 this with rfl | h
      · have:=h1 0 (aVe _ hz);omega
      · exact(aUQ.1 n).2.2 z hz z h rfl
     rcases Int.lt_or_gt_of_ne s2 with h | h
     · obtain⟨x,hx,e1,e2⟩:=q4 w p2 u p1 h
       exact⟨x,aU8 _ (wM.2 ⟨c,hc,hcu,hx⟩),.inr e2⟩
     · obtain⟨x,hx,e1,e2⟩:=q4 u p1 w p2 h
       exact⟨x,aU8 _ (wM.2 ⟨c,hc,hcu,hx⟩),.inl e1⟩
 · refine aQu (k:=ka b) hD kV V2 ?_ ?_
   · rcases aJi (L:=b.filter (kid v)) (fun c hc=>⟨hi.den c (kd c hc).1 (kd c hc).2.2,hi.one c (kd c hc).1⟩)with⟨e,_⟩ | e
     · have e':aDi v b=1:=e
       rw[e'];omega
     · exact aUE e hH
   · refine aUE (aF9 (g:=fun c:NQ=>wd c ^ (tri V.length+1)) fun c hc=>(aMU hb hi nV vV aV V6.1 (kd c hc).1 (kd c hc).2.1).2) ?_
     rw[aEq]
     exact aVJ hH _
end
/- Trees over the rational numbers: the invariant goes on. -/
theorem aBH (v:Int)(a:List QL):psN (oQ v a)=a.map fun x=>x.a:=by
 unfold psN oQ
 simp only[aWo]
 rfl
section
variable {l:List QL}{o pre r:List Int}{v:Int}{b:List NQ}
theorem aLn {u:Int}:u∈psN (nxt l o v b).cond↔∃ y∈(aU (l.filter (pL o v)++lV v b) [] 0).1,(y.a=v\/y.b=v)/\u=(aBn v y).a:=by
 have e:psN (nxt l o v b).cond=(bL v (aU (l.filter (pL o v)++lV v b) [] 0).1).map fun x=>x.a:=aBH v _
 rw[e,aUJ]
 constructor
 · rintro⟨x,hx,rfl⟩
   obtain⟨y,hy,ht,rfl⟩:=wN.1 hx
   exact⟨y,hy,ht,rfl⟩
 · rintro⟨y,hy,ht,rfl⟩
   exact⟨_,wN.2 ⟨y,hy,ht,rfl⟩,rfl⟩
theorem aEt {z:QL}(hz:z∈l.filter (pL o v)++lV v b)(h:z.a<z.b){u:Int}(hu:(z.a=v/\z.b=u)\/(z.a=u/\z.b=v)):u∈psN (nxt l o v b).cond:=by
 obtain⟨y,hy,e1,e2⟩:=qY _ [] 0 z (.inr hz)
 rw[aLn]
 have ht:y.a=v\/y.b=v:=by rw[<- e1,<- e2];rcases hu with hu | hu <;> simp[hu]
 refine⟨y,hy,ht,?_⟩
 have:=aB5 ht (by omega)
 omega
theorem TInv.kid_ps (hb:Base l o)(hi:TInv l o pre (v::r) b){c:NQ}(hc:c∈b)(hu:c.up=v):v∈psN c.cond/\∀ u∈psN c.cond,u≠v->u∈psN (nxt l o v b).cond:=by
 have hu':c.up∈v::r:=by rw[hu];simp
 obtain⟨p1,p2,p3,p4⟩:=hi.ps c hc hu'
 obtain⟨n,h1,hv,v1,v9,hl,nV,hV⟩:=hi.facts hb
 have vm:v∈psN c.cond:=by
  have e:=hi.split
  rw[hu,e]at p2
  exact((wS n h1).1 p2.symm).1
 refine⟨vm,fun u hm hne=>?_⟩
 rcases Int.lt_or_gt_of_ne hne with h | h
 · obtain⟨x,hx,e1,e2⟩:=p4 u hm v vm h
   exact aEt (z:=x) (aU8 _ (wM.2 ⟨c,hc,hu,hx⟩)) (by omega) (.inr ⟨e1,e2⟩)
 · obtain⟨x,hx,e1,e2⟩:=p4 v vm u hm h
   exact aEt (z:=x) (aU8 _ (wM.2 ⟨c,hc,hu,hx⟩)) (by omega) (.inl ⟨e1,e2⟩)
theorem TInv.nxt_rem (hb:Base l o)(hi:TInv l o pre (v::r) b):∀ u∈psN (nxt l o v b).cond,u∈0::r/\u≠v:=by
 intro u hu
 obtain⟨V,sV,hinc⟩:=hi.inc hb
 have hj:=(hinc.join).2.1
 obtain⟨y,hy,ht,rfl⟩:=aLn.1 hu
 have:=hj.armV _ (wN.2 ⟨y,hy,ht,rfl⟩)
 refine⟨?_,this.2⟩
 have h1:=sV _ this.1
 simp only[aUr]at h1 ⊢
 rcases h1 with h | h | h
 · exact .inl h
 · exact absurd h this.2
 · exact .inr h
theorem TInv.adj (hb:Base l o)(hi:TInv l o pre (v::r) b){u w:Int}(h:aB6 l o (v::r) b u w)(hne:u≠w) :
 (u=v->w∈psN (nxt l o v b).cond)/\(w=v->u∈psN (nxt l o v b).cond)/\(u≠v->w≠v->(u∈psN (nxt l o v b).cond/\w∈psN (nxt l o v b).cond)\/aB6 l o r b u w):=by
 obtain⟨n,h1,hv,v1,v9,hl,nV,hV⟩:=hi.facts hb
 have e:=hi.split
 rcases h with⟨x,hx,hf,hp⟩ | ⟨c,hc,hu,p1,p2⟩
 · have own:x.a=v\/x.b=v->x∈l.filter (pL o v):=fun ht=>by
    rw[e]at hf ⊢
    have:=aEG n h1 hf
    exact aUy.2 ⟨hx,(aDA n h1).2 ⟨ht,fun h=>this _ h (by simp),fun h=>this _ h (by simp)⟩⟩
   have hlt:=(hb.lk x hx).2.1.2.2
   refine⟨fun h2=>?_,fun h2=>?_,fun h2 h3=>.inr (.inl ⟨x,hx,?_,hp⟩)⟩
   · subst h2
     rcases hp with⟨g1,g2⟩ | ⟨g1,g2⟩
     · exact aEt (aVe _ (own (.inl g1))) hlt (.inl ⟨g1,g2⟩)
     · exact aEt (aVe _ (own (.inr g2))) hlt (.inr ⟨g1,g2⟩)
   · subst h2
     rcases hp with⟨g1,g2⟩ | ⟨g1,g2⟩
     · exact aEt (aVe _ (own (.inr g2))) hlt (.inr ⟨g1,g2⟩)
     · exact aEt (aVe _ (own (.inl g1))) hlt (.inl ⟨g1,g2⟩)
   · rcases aUr.1 hf with h4 | h4
     · exfalso
       have h5:=h4
       rw[e]at h5
       have:=((wS n h1).1 h5).1
       simp only[aUr,aVi,or_false]at this
       omega
     · exact h4
 · by_cases k:c.up=v
   · obtain⟨vm,hk⟩:=hi.kid_ps hb hc k
     exact⟨fun h2=>hk w p2 (by omega),fun h2=>hk u p1 (by omega),fun h2 h3=>.inl ⟨hk u p1 h2,hk w p2 h3⟩⟩
   · have hr:c.up∈r:=(aUr.1 hu).resolve_left k
     obtain⟨q1,q2,q3,q4⟩:=hi.ps c hc hu
     have nv:v∉psN c.cond:=fun hm=>by
      rw[e]at q2
      refine k (q2.trans ((wS n h1).2 ⟨hm,fun z hz hm=>?_⟩))
      rcases aUr.1 (q1 z hm)with rfl | h
      · have:=h1 0 (aVe _ hz);omega
      · exact(aUQ.1 n).2.2 z hz z h rfl
     exact⟨fun h2=>absurd (h2▸p1) nv,fun h2=>absurd (h2▸p2) nv,fun _ _=>.inr (.inr ⟨c,hc,hr,p1,p2⟩)⟩
theorem TInv.nxt_up (hb:Base l o)(hi:TInv l o pre (v::r) b){u:Int}(hu:u∈psN (nxt l o v b).cond)(h0:u≠0):(nxt l o v b).up∈r:=by
 obtain⟨n,h1,hv,v1,v9,hl,nV,hV⟩:=hi.facts hb
 have e:=hi.split
 have hr:=hi.nxt_rem hb
 have er:(nxt l o v b).up=aP o (psN (nxt l o v b).cond):=rfl
 have e2:pre++v::r=(pre++[v])++r:=by simp
 have e3:aP o (psN (nxt l o v b).cond)=aP ((pre++[v])++r) (psN (nxt l o v b).cond):=congrArg (fun o'=>aP o' (psN (nxt l o v b).cond)) (e.trans e2)
 rw[er,e3]
 have h1':∀ u∈(pre++[v])++r,1<=u:=by rw[<- e2];exact h1
 rcases aKt (p:=pre++[v]) (r:=r) (s:=psN (nxt l o v b).cond) h1' (fun z hz hm=>by
  obtain⟨g1,g2⟩:=hr z hm
  have zr:z∈r:=by
   rcases aUr.1 g1 with h | h
   · have:=h1' z (aVe _ hz);omega
   · exact h
  rcases aUz.1 hz with hz | hz
  · exact(aUQ.1 n).2.2 z hz z (by simp[zr]) rfl
  · simp at hz;exact g2 hz)with⟨_,h⟩ | h
 · exact absurd hu (h u ((aUr.1 (hr u hu).1).resolve_left h0))
 · exact h.1
theorem aNk {P H:Nat}{D d k:Nat}(hH:0<H)(hP:0<P)(h:H*P<=ex' k)(hd:d<=D*(72*D))(hD:(D=1/\H=1)\/72*D<=H):P*(72*d)<=ex (k+1):=by
 have e:ex (k+1)=ex k*ex k:=by unfold ex;rw[aVI,Nat.pow_mul,Nat.pow_two]
 have h2:=aJf k
 rcases hD with⟨rfl,rfl⟩ | hD
 · have hd2:72*d<=72*72:=by omega
   by_cases c:k=0
   · subst c
     have:ex' 0=1:=rfl
     rw[this]at h
     have hp1:P=1:=by omega
     rw[hp1,e]
     have:ex 0=72:=rfl
     rw[this];omega
   · have ek:72*72<=ex k:=by
      unfold ex
      have:2<=2 ^ k:=by
       calc 2=2 ^ 1:=rfl
        _<=_:=aU9 (by omega) (by omega)
      calc 72*72=72 ^ 2:=rfl
       _<=_:=aU9 (by omega) this
     rw[e]
     exact aUX (by omega) (by omega)
 · have a1:72*d<=H*H:=by
    calc 72*d<=72*(D*(72*D)):=aUS _ hd
     _=(72*D)*(72*D):=by rw[aVr]
     _<=H*H:=aUX hD hD
   rw[e]
   calc P*(72*d)<=P*(H*H):=aUS _ a1
    _=(H*P)*H:=by rw[<- aVr,aU7 P H]
    _<=ex k*ex k:=aUX (by omega) (aUE (aVX H hP) (by omega))
end
/- Trees over the rational numbers: the whole tree. -/
section
variable {l:List QL}{o pre r:List Int}{v:Int}{b:List NQ}
theorem TInv.next (hb:Base l o)(hi:TInv l o pre (v::r) b):TCore l o (pre++[v]) r (b++[nxt l o v b])/\rR o v ((l.filter (pL o v)).map QL.toL) (b.map NQ.toN)=some (nxt l o v b).toN/\bN (nxt l o v b).enQ:=by
 obtain⟨n,h1,hv,v1,v9,hl,nV,hV⟩:=hi.facts hb
 obtain⟨V,sV,hinc⟩:=hi.inc hb
 obtain⟨c1,c2,c3,c4,c5,c6,c7⟩:=aLp (order:=o) hinc
 have hmem:∀ c∈b++[nxt l o v b],c∈b\/c=nxt l o v b:=fun c hc=>by simpa using hc
 have hlen:(b++[nxt l o v b]).length=b.length+1:=by simp
 have hsp:=hi.split
 have hka:ka (b++[nxt l o v b])=ka b+mu (nxt l o v b):=by rw[aJa];rfl
 refine⟨⟨?_,?_,?_,?_,?_,?_,?_,?_,?_,?_⟩,c1,c2⟩
 · rw[hsp];simp
 · rw[aAg,<- hi.is];rfl
 · rw[hlen,aUF,hi.len];rfl
 · intro c hc hu
   rcases hmem c hc with hc | rfl
   · exact hi.den c hc (aU3 v hu)
   · exact c3
 · intro c hc h0
   rcases hmem c hc with hc | rfl
   · exact hi.one c hc h0
   · have e:(aU (gC v (aU (l.filter (pL o v)++lV v b) [] 0).1) [] 0).1=[]:=h0
     show dnQ (aU (gC v (aU (l.filter (pL o v)++lV v b) [] 0).1) [] 0).1 _=1
     rw[e];rfl
 · intro c hc hu
   rw[hka]
   rcases hmem c hc with hc | rfl
   · obtain⟨m1,m2⟩:=hi.msg c hc (aU3 v hu)
     exact⟨fun x hx=>aKX (m1 x hx) (Nat.dvd_refl _) (aUS _ (aU9 (by omega) (by omega))),m2⟩
   · refine⟨fun x hx=>?_,c6⟩
     have:=(c5 x hx).1
     have e:2*(50*2 ^ ka b)=50*2 ^ (ka b+1):=by rw[aVI];omega
     have m1:mu (nxt l o v b)=1:=by
      unfold mu
      rw[aUq]
      intro e
      have e2:(nxt l o v b).msgs=[]:=by simpa using e
      rw[e2]at hx;cases hx
     rw[m1,<- e];exact this
 · intro c hc hu
   rcases hmem c hc with hc | rfl
   · obtain⟨p1,p2,p3,p4⟩:=hi.ps c hc (aU3 v hu)
     refine⟨fun u hm=>?_,p2,p3,p4⟩
     have h:=p1 u hm
     simp only[aUr]at h ⊢
     rcases h with h | h | h
     · exact .inl h
     · exfalso
       subst h
       rw[hsp]at p2
       have:c.up=u:=p2.trans ((wS n h1).2 ⟨hm,fun z hz hz2=>by
        rcases aUr.1 (p1 z hz2)with rfl | h
        · have:=h1 0 (aVe _ hz);omega
        · exact(aUQ.1 n).2.2 z hz z h rfl⟩)
       rw[this]at hu;exact hv hu
     · exact .inr h
   · refine⟨fun u hm=>(hi.nxt_rem hb u hm).1,rfl,fun x hx=>?_,fun u hu' w hw' huw=>?_⟩
     · have hj:=(hinc.join).2.1
       refine⟨?_,?_,(c5 x hx).2.2.2⟩
       all_goals
        obtain⟨y,hy,e1,e2⟩:=nK _ [] 0 x hx
        have hy:=hy.resolve_left (by simp)
        rcases aUz.1 hy with hy | hy
        · obtain⟨m1,m2,m3⟩:=aAq.1 hy
          obtain⟨z,hz,f1,f2⟩:=nK _ [] 0 y m1
          have hz:=hz.resolve_left (by simp)
          rcases aUz.1 hz with hz | hz
          · exfalso
            have:=(aUy.1 hz).2
            rw[hsp]at this
            have:=((aDA n h1).1 this).1
            omega
          · obtain⟨c,hc,hu2,hz⟩:=wM.1 hz
            obtain⟨_,hk⟩:=hi.kid_ps hb hc hu2
            obtain⟨_,_,p3,_⟩:=hi.ps c hc (by rw[hu2];simp)
            have g1:=(p3 z hz).1
            have g2:=(p3 z hz).2.1
            rw[f1,e1]at g1
            rw[f2,e2]at g2
            first | exact hk _ g1 (by omega) | exact hk _ g2 (by omega)
        · obtain⟨_,_,_,_,⟨y1,hy1,q1⟩,y2,hy2,q2⟩:=hj.arms.each hy
          have e:psN (nxt l o v b).cond=(bL v (aU (l.filter (pL o v)++lV v b) [] 0).1).map fun x=>x.a:=aBH v _
          rw[e]
          first | exact aUJ.2 ⟨y1,hy1,q1.trans e1⟩ | exact aUJ.2 ⟨y2,hy2,q2.trans e2⟩
     · have hj:=(hinc.join).2.1
       have e:psN (nxt l o v b).cond=(bL v (aU (l.filter (pL o v)++lV v b) [] 0).1).map fun x=>x.a:=aBH v _
       rw[e]at hu' hw'
       obtain⟨x,hx,rfl⟩:=aUJ.1 hu'
       obtain⟨y,hy,rfl⟩:=aUJ.1 hw'
       have hm:=aJ5 (sm wt (bL v (aU (l.filter (pL o v)++lV v b) [] 0).1)) hj.arms.inc x hx y hy huw
       obtain⟨z,hz,f1,f2⟩:=qY (gC v (aU (l.filter (pL o v)++lV v b) [] 0).1) [] 0 _ (.inr (aU8 _ hm))
       exact⟨z,hz,f1.symm,f2.symm⟩
 · obtain⟨k1,k2,k3⟩:=hi.kids
   rw[hka,aWS,aHW]
   have e1:b.filter (gM r)=b.filter fun c=>gM (v::r) c&&!kid v c:=by
    rw[<- aEC hv,aVY]
    refine aWi fun c _=>?_
    rw[Bool.and_comm]
   rw[e1]
   by_cases m0:(nxt l o v b).msgs=[]
   · have e2:mu (nxt l o v b)=0:=by unfold mu;rw[m0];rfl
     have e3:cL wd ([nxt l o v b].filter (gM r))=1:=by
      rw[aUY,aV9]
      split
      · rw[cL,cL,aIA m0]
      · rfl
     rw[e2,e3,Nat.mul_one,aVh]
     exact aUE (Nat.le_mul_of_pos_left _ k3) k1
   · have e2:mu (nxt l o v b)=1:=by unfold mu;rw[aUq (by simpa using m0)]
     have ekk:ex' (ka b+1)=ex (ka b+1):=by unfold ex';rw[aUq (by omega)]
     rw[e2,ekk]
     have kd:∀ c∈b.filter (kid v),c∈b/\c.up=v/\c.up∈v::r:=fun c hc=>by
      rw[aUy]at hc
      have:=aU4 hc.2
      exact⟨hc.1,this,by rw[this];simp⟩
     have hD:(aDi v b=1/\cL wd (b.filter (kid v))=1)\/72*aDi v b<=cL wd (b.filter (kid v)) :=
      aJi (L:=b.filter (kid v)) fun c hc=>⟨hi.den c (kd c hc).1 (kd c hc).2.2,hi.one c (kd c hc).1⟩
     have hs:=aNk k3 k2 k1 c4 hD
     have le:cL wd ([nxt l o v b].filter (gM r))<=72*(nxt l o v b).den:=by
      have hp:0<(nxt l o v b).den:=c3
      rw[aUY,aV9]
      split
      · rw[cL,cL,aFo m0];omega
      · simp only[cL];omega
     exact aUE (aUS _ le) hs
 · have hw:=(aIy hi hb).1
   have hn:0<=sm wt (nxt l o v b).msgs:=iO fun x hx=>(c5 x hx).1
   have e:sm wt (dD ((b++[nxt l o v b]).filter (gM r)))<=sm wt (dD (b.filter (gM r)))+sm wt (nxt l o v b).msgs:=by
    unfold dD
    rw[aWS,aWu,rI,aUY,aV9]
    split
    · rw[aVc,aWm,aVx];grind
    · rw[aWm];simp only[sm];grind
   have c7':sm wt (nxt l o v b).msgs<=sm wt (l.filter (pL o v)++lV v b):=c7
   grind
 · intro S hS h0
   obtain⟨u0,hu0,su0⟩:=hS
   have viaN:∀ u w,S u->¬S w->u∈psN (nxt l o v b).cond->w∈psN (nxt l o v b).cond->aB6 l o r (b++[nxt l o v b]) u w:=by
    intro u w su sw hu hw
    exact .inr ⟨nxt l o v b,by simp,hi.nxt_up hb hu (fun e=>h0 (e▸su)),hu,hw⟩
   have up:∀ u w,aB6 l o r b u w->aB6 l o r (b++[nxt l o v b]) u w:=by
    rintro u w (⟨x,hx,h⟩ | ⟨c,hc,h⟩)
    · exact .inl ⟨x,hx,h⟩
    · exact .inr ⟨c,by simp[hc],h⟩
   have ne0:u0≠v:=fun e=>hv (e▸hu0)
   obtain⟨u,w,⟨su,uv⟩,sw,ad⟩:=hi.cut (fun u=>S u/\u≠v) ⟨u0,aU3 v hu0,su0,ne0⟩ (fun h=>h0 h.1)
   have uw:u≠w:=fun e=>sw (e▸⟨su,uv⟩)
   obtain⟨t1,t2,t3⟩:=hi.adj hb ad uw
   by_cases wv:w=v
   · have hu:=t2 wv
     obtain⟨u',w',su',sw',ad'⟩:=hi.cut (fun u=>S u\/u=v) ⟨u0,aU3 v hu0,.inl su0⟩ (fun h=>h.elim h0 (by omega))
     have uw':u'≠w':=fun e=>sw' (e▸su')
     obtain⟨t1',t2',t3'⟩:=hi.adj hb ad' uw'
     have wv':w'≠v:=fun e=>sw' (.inr e)
     have sw2:¬S w':=fun h=>sw' (.inl h)
     by_cases uv':u'=v
     · exact⟨u,w',su,sw2,viaN u w' su sw2 hu (t1' uv')⟩
     · have su2:S u':=su'.resolve_right uv'
       rcases t3' uv' wv' with⟨g1,g2⟩ | g
       · exact⟨u',w',su2,sw2,viaN u' w' su2 sw2 g1 g2⟩
       · exact⟨u',w',su2,sw2,up _ _ g⟩
   · have sw2:¬S w:=fun h=>sw ⟨h,wv⟩
     rcases t3 uv wv with⟨g1,g2⟩ | g
     · exact⟨u,w,su,sw2,viaN u w su sw2 g1 g2⟩
     · exact⟨u,w,su,sw2,up _ _ g⟩
end
theorem aRq (o:List Int)(v:Int):∀ l:List QL,(l.map QL.toL).filter (pZ o v)=(l.filter (pL o v)).map QL.toL
 | []=>rfl
 | x::l=>by
  have e:pZ o v x.toL=pL o v x:=rfl
  rw[aUH,aUY,aUY,aRq o v l,e]
  split <;> rfl
theorem aN8 {l:List QL}{o:List Int}(hb:Base l o)(hc:aMb l o):∀ (r pre:List Int) (b:List NQ),TInv l o pre r b->wB (l.map QL.toL) o r (b.map NQ.toN)=some ((aD l o r b).map NQ.toN)
 | [],_,b,_=>rfl
 | v::r,pre,b,hi=>by
  obtain⟨h1,h2,h3⟩:=hi.next hb
  rw[wB,aRq,h2]
  have:=aN8 hb hc r (pre++[v]) (b++[nxt l o v b]) (h1.inv hc)
  rw[aVE]at this
  exact this
def wY (l:List QL)(o:List Int):Prop:=∀ S:Int->Prop,(∃ u∈o,S u)->¬S 0->∃ x∈l,(S x.a/\¬S x.b)\/(S x.b/\¬S x.a)
theorem TCore.start {l:List QL}{o:List Int}(hb:Base l o)(hg:wY l o):TCore l o [] o [] where
 split:=rfl
 is:=rfl
 len:=rfl
 den:=by simp
 one:=by simp
 msg:=by simp
 ps:=by simp
 prod:=aUI 1
 wtt:=by
  have e:sm wt (dD (([]:List NQ).filter (gM o)))=0:=rfl
  rw[e]
  have h1:=aBB wt (fun x=>decide (aP o [x.a,x.b]∈o)) l
  have h2:0<=sm wt (l.filter fun x=>!decide (aP o [x.a,x.b]∈o)):=iO fun y hy=>(hb.lk y (aUy.1 hy).1).1
  have:=hb.hw
  grind
 cut:=by
  intro S hS h0
  obtain⟨x,hx,h⟩:=hg S hS h0
  have hf:aP o [x.a,x.b]∈o:=by
   obtain⟨i1,i2,i3⟩:=(hb.lk x hx).2.1
   have hbm:x.b∈o:=by
    rcases aUr.1 i2 with h | h
    · exfalso
      rcases aUr.1 i1 with h2 | h2
      · omega
      · have:=hb.h1 _ h2;omega
    · exact h
   rcases aBY (s:=[x.a,x.b]) (fun u hu=>(hb.h1 u hu).1)with⟨_,h4⟩ | ⟨p,v,r,e,h2,h3,h4⟩
   · exact absurd (by simp) (h4 _ hbm)
   · rw[h2,e];simp
  rcases h with⟨g1,g2⟩ | ⟨g1,g2⟩
  · exact⟨x.a,x.b,g1,g2,.inl ⟨x,hx,hf,.inl ⟨rfl,rfl⟩⟩⟩
  · exact⟨x.b,x.a,g1,g2,.inl ⟨x,hx,hf,.inr ⟨rfl,rfl⟩⟩⟩
theorem Base.join {l:List QL}{o:List Int}(hb:Base l o):jnP (l.map QL.toL)=some ((aU l [] 0).1.map QL.toL,ofQ (aU l [] 0).2)/\(∀ k∈(aU l [] 0).1,k.fit/\Lk 1 50 k/\inV (0::o) k)/\(aU l [] 0).1.Pairwise cW/\bN (aU l [] 0).2:=by
 have nV:(0::o).Nodup:=aUL.2 ⟨fun h=>by have:=hb.h1 0 h;omega,hb.nd⟩
 have hVn:∀ u∈0::o,0<=u/\u<=9:=fun u hu=>by
  rcases aUr.1 hu with rfl | hu
  · omega
  · have:=hb.h1 u hu;omega
 have len:(0::o).length<=8:=by have:=hb.len;simp only[aUC];omega
 have j:Jn 1 1 50 28 (0::o):=⟨by omega,by decide,by omega,by omega,by omega,nV,by
  have t:∀ K,K<=8->K*K<=2*28+K:=by decide
  exact t _ len,by rw[aQh];decide⟩
 have es:=uK (fun x hx=>(hb.lk x hx).1) (by omega) hb.hw
 have e0:(0:Q)-sm enQ []=0:=by simp only[sm];grind
 have g:=aDT j l [] 0 (fun x hx=>⟨(hb.lk x hx).1,(hb.lk x hx).2.1,(hb.lk x hx).2.2⟩) (by simp) List.Pairwise.nil (by simp only[sm];have:=hb.hw;grind) ⟨0,by simp⟩ (by grind) (by have:=es.2;grind)
 rw[e0]at g
 obtain⟨g1,g2,g3,g4,g5⟩:=g
 have fo:∀ x∈l,x.fit/\x.ok:=fun x hx=>by
  obtain⟨l1,⟨l2,l3,l4⟩,_⟩:=hb.lk x hx
  refine⟨aGJ (by omega) (by decide) l1 (by omega) (by omega) ?_,hVn _ l2,hVn _ l3,l4,l1.sc.1⟩
  have:=wZ (fun y hy=>(hb.lk y hy).1) hx
  have:=hb.hw
  grind
 obtain⟨e1,f1,f2⟩:=aSg fo g1
 exact⟨e1,fun k hk=>⟨f1 k hk,g2 k hk⟩,g3,f2⟩
theorem aQ4 {l:List QL}{o:List Int}(hb:Base l o)(hg:wY l o)(hc:aMb l o)(ho:isOrd ((aU l [] 0).1.map QL.toL) o):aAd (l.map QL.toL) o=some ⟨(aD l o o []).map NQ.toN⟩:=by
 unfold aAd
 rw[hb.join.1]
 simp only[aUp]
 rw[aUs ho]
 have:=aN8 hb hc o [] [] ((TCore.start hb hg).inv hc)
 rw[aVy]at this
 rw[this]
 rfl
/- Links of whole numbers that tie nodes to the ground: their tree is built. -/
def LkI (x:QL):Prop:=(0<=x.a/\x.a<x.b/\x.b<=7)/\∃ w p q:Int,(1<=w/\w<=9)/\(-50<=p/\p<=50)/\(-50<=q/\q<=50)/\x.w=(w:Q)/\x.x=(p:Q)/\x.y=(q:Q)
theorem aPO {B:Nat}{z:Int}(h:-(B:Int)<=z/\z<=(B:Int)):bd B (z:Q):=by
 constructor
 · have:=(aWv (a:=-(B:Int)) (b:=z)).2 h.1
   rw[_root_.Rat.intCast_neg]at this;exact this
 · exact(aWv (a:=z) (b:=(B:Int))).2 h.2
theorem LkI.lk {x:QL}(h:LkI x):Lk 1 50 x/\Dv 1 (enQ x)/\x.w<=9:=by
 obtain⟨_,w,p,q,hw,hp,hq,e1,e2,e3⟩:=h
 have w0:((0:Int):Q)<(w:Q):=_root_.Rat.intCast_lt_intCast.2 (by omega)
 have w9:(w:Q)<=((9:Int):Q):=aWv.2 hw.2
 have z0:((0:Int):Q)=0:=rfl
 have z9:((9:Int):Q)=9:=rfl
 have m1:mx x=((w*p:Int):Q):=by unfold mx;rw[e1,e2,aWy]
 have m2:my x=((w*q:Int):Q):=by unfold my;rw[e1,e3,aWy]
 have m3:enQ x=((w*(p*p+q*q):Int):Q):=by
  unfold enQ sqQ
  rw[e1,e2,e3,aWy,_root_.Rat.intCast_add,aWy,aWy]
 refine⟨⟨⟨by rw[e1];grind,by rw[e1];exact aDl _,by rw[m1];exact aDl _,by rw[m2];exact aDl _⟩,by rw[e2];exact aPO (by omega),by rw[e3];exact aPO (by omega)⟩,by rw[m3];exact aDl _,by rw[e1];grind⟩
theorem aTe:∀ {l:List QL},(∀ x∈l,LkI x)->sm wt l<=((9*l.length:Nat):Q)
 | [],_=>by simp[sm]
 | x::l,h=>by
  have h1:=(h x (by simp)).lk.2.2
  have h2:=aTe (l:=l) (fun y hy=>h y (by simp[hy]))
  have e:(9*(x::l).length:Nat)=9+9*l.length:=by rw[aUC];omega
  rw[sm,e,aW7]
  have e2:wt x=x.w:=rfl
  have e3:((9:Nat):Q)=9:=rfl
  rw[e2,e3];grind
structure Tie (l:List QL)(o:List Int):Prop where
 nd:o.Nodup
 mem:∀ u,u∈o↔1<=u/\∃ x∈l,x.a=u\/x.b=u
 lk:∀ x∈l,LkI x
 len:l.length<=8
 gr:wY l o
 cap:aMb l o
 few:∀ pre v r,o=pre++v::r->ka (aD l o pre [])+(r.length+1)<=6\/(pre=[]/\(nxt l o v []).msgs=[])
 sml:o.length<=5\/∀ pre v r,o=pre++v::r->(nxt l o v (aD l o pre [])).msgs.length<=1
theorem Tie.five {l:List QL}{o:List Int}(h:Tie l o):∀ u∈o,1<=u/\u<=7:=by
 intro u hu
 obtain⟨h1,x,hx,ht⟩:=(h.mem u).1 hu
 have:=(h.lk x hx).1
 omega
theorem aJm {l:List QL}{o:List Int}(nd:o.Nodup)(mem:∀ u,u∈o↔1<=u/\∃ x∈l,x.a=u\/x.b=u)(lk:∀ x∈l,LkI x)(len:l.length<=8)(five:∀ u∈o,1<=u/\u<=7):Base l o where
 nd:=nd
 h1:=fun u hu=>by have:=five u hu;omega
 len:=by
  have:=nd.length_le_of_subset (l₂:=[1,2,3,4,5,6,7]) (fun u hu=>by
   have:=five u hu
   simp only[aUr,aVi,or_false];omega)
  simpa using this
 lk:=fun x hx=>by
  obtain⟨h1,h2,h3⟩:=(lk x hx).lk
  have hn:=(lk x hx).1
  refine⟨h1,⟨?_,?_,hn.2.1⟩,h2⟩
  · by_cases c:x.a=0
    · rw[c];simp
    · exact aU3 _ ((mem _).2 ⟨by omega,x,hx,.inl rfl⟩)
  · exact aU3 _ ((mem _).2 ⟨by omega,x,hx,.inr rfl⟩)
 hw:=by
  have h1:=aTe lk
  have h2:((9*l.length:Nat):Q)<=((72:Nat):Q):=aC5 (by have:=len;omega)
  have e:((72:Nat):Q)=72:=rfl
  grind
theorem Tie.base {l:List QL}{o:List Int}(h:Tie l o):Base l o:=aJm h.nd h.mem h.lk h.len h.five
theorem aGy {s:List Link}{u:Int}:u∈gQ s↔(1<=u/\u<=9)/\∃ x∈s,x.fA=u\/x.fB=u:=by
 unfold gQ aC4 tch
 rw[aUy,aWn]
 constructor
 · rintro⟨h1,x,hx,ht⟩
   obtain⟨k,hk,rfl⟩:=aUJ.1 h1
   rw[aVH]at hk
   exact⟨by omega,x,hx,aU4 ht⟩
 · rintro⟨h1,x,hx,ht⟩
   exact⟨aUJ.2 ⟨(u-1).toNat,aVH.2 (by omega),by omega⟩,x,hx,aUu ht⟩
theorem aI1 (s:List Link):(gQ s).Nodup:=by
 unfold gQ
 exact(by decide:aC4.Nodup).filter _
theorem aH0 {a b:List Int}(ha:a.Nodup)(hb:b.Nodup)(h:∀ u,u∈a↔u∈b):a.length=b.length :=
 Nat.le_antisymm (ha.length_le_of_subset fun u hu=>(h u).1 hu) (hb.length_le_of_subset fun u hu=>(h u).2 hu)
theorem Tie.isOrd {l:List QL}{o:List Int}(h:Tie l o):isOrd ((aU l [] 0).1.map QL.toL) o:=by
 have key:∀ u,u∈o↔u∈gQ ((aU l [] 0).1.map QL.toL):=by
  intro u
  rw[h.mem,aGy]
  constructor
  · rintro⟨h1,x,hx,ht⟩
    obtain⟨y,hy,e1,e2⟩:=qY l [] 0 x (.inr hx)
    have:=(h.lk x hx).1
    refine⟨by omega,y.toL,aVR hy,?_⟩
    show y.a=u\/y.b=u
    rw[<- e1,<- e2];exact ht
  · rintro⟨h1,z,hz,ht⟩
    obtain⟨y,hy,rfl⟩:=aUJ.1 hz
    obtain⟨x,hx,e1,e2⟩:=nK l [] 0 y hy
    have hx:=hx.resolve_left (by simp)
    refine⟨h1.1,x,hx,?_⟩
    rw[e1,e2];exact ht
 exact⟨h.nd,fun y hy=>(key y).1 hy,aH0 h.nd (aI1 _) key⟩
theorem Tie.build {l:List QL}{o:List Int}(h:Tie l o):aAd (l.map QL.toL) o=some ⟨(aD l o o []).map NQ.toN⟩:=aQ4 h.base h.gr h.cap h.isOrd
theorem aKn {l:List QL}{o:List Int}(hl:∀ x∈l,0<=x.a/\x.a<x.b)(hm:∀ u,u∈o↔1<=u/\∃ x∈l,x.a=u\/x.b=u)(h:∀ u∈o,∃ x∈l,x.b=u):wY l o:=by
 intro S hS h0
 have key:∀ (n:Nat) (u:Int),u.toNat<=n->u∈o->S u->∃ x∈l,(S x.a/\¬S x.b)\/(S x.b/\¬S x.a):=by
  intro n
  induction n with
  | zero=>intro u hn hu _;have:=(hm u).1 hu;omega
  | succ n ih =>
   intro u hn hu su
   obtain⟨x,hx,e⟩:=h u hu
   have hx2:=hl x hx
   by_cases c:S x.a
   · refine ih x.a (by omega) ((hm _).2 ⟨?_,x,hx,.inl rfl⟩) c
     by_cases z:x.a=0
     · rw[z]at c;exact absurd c h0
     · omega
   · exact⟨x,hx,.inr ⟨e▸su,c⟩⟩
 obtain⟨u,hu,su⟩:=hS
 exact key u.toNat u (aUI _) hu su
/- Is it a tree, both programs, and the law. -/
/- Paths of a tree end: what a tree's node hands up lies later in the order. -/
def pr (s:List Link)(x y:Int):Prop:=∃ l∈s,l.fA=x/\l.fB=y
def adj (s:List Link)(x y:Int):Prop:=pr s x y\/pr s y x
def en (s:List Link)(x:Int):Prop:=∃ y,adj s x y
structure PathN (o:List Int)(n:TreeNode):Prop where
 near:∀ x,en n.fMessages x->x∈aGf n.fCond
 clq:∀ x y,x∈aGf n.fCond->y∈aGf n.fCond->x<y->pr n.fMessages x y
 late:∀ i (h:i<o.length),o[i]=n.fNode->∀ p∈aGf n.fCond,p∉o.take (i+1)
/- Trees in another order, and the nodes that a change affects: both programs, and the laws. -/
/- The law of building a tree; inserting a link, both programs, and the law. -/
/- Cliques: their nodes in order. -/
/- Deleting a link, both programs, and the law. -/
/- Inserting all links, both programs, and the law. -/
theorem aJC (a:Int)(c:Nat):∀ r:List Int,r.Nodup->(r.map (fun v=>if a=v then c else 0)).sum<=c
 | [],_=>aVk _
 | v::r,h=>by
  rw[aUL]at h
  rw[aUH,aWO]
  by_cases e:a=v
  · rw[aUs e]
    have:∀ l:List Int,v∉l->(l.map (fun v=>if a=v then c else 0)).sum=0:=by
     intro l
     induction l with
     | nil=>intro _;rfl
     | cons x l ih =>
      intro hx
      simp only[aUr,not_or]at hx
      rw[aUH,aWO,ih hx.2,aUq (fun e'=>hx.1 (by rw[<- e,e']))]
    rw[this r h.1];omega
  · rw[aUq e]
    have:=aJC a c r h.2
    omega
theorem aJV (o:List Int)(r:List Int)(hr:r.Nodup):∀ s:List Link,(r.map (fun v=>aK (s.filter (pZ o v)))).sum<=aK s
 | []=>by
  have:∀ l:List Int,(l.map (fun v=>aK (([]:List Link).filter (pZ o v)))).sum=0:=by
   intro l
   induction l with
   | nil=>rfl
   | cons x l ih=>rw[aUH,aWO,ih];rfl
  rw[this];exact aVk _
 | x::s=>by
  have ih:=aJV o r hr s
  have h1:=aJC (aP o [x.fA,x.fB]) (cG x+1) r hr
  have e:∀ l:List Int,(l.map (fun v=>aK ((x::s).filter (pZ o v)))).sum=(l.map (fun v=>if aP o [x.fA,x.fB]=v then cG x+1 else 0)).sum+(l.map (fun v=>aK (s.filter (pZ o v)))).sum:=by
   intro l
   induction l with
   | nil=>rfl
   | cons v l ih =>
    simp only[aUH,aWO,ih]
    have:aK ((x::s).filter (pZ o v))=(if aP o [x.fA,x.fB]=v then cG x+1 else 0)+aK (s.filter (pZ o v)):=by
     rw[aUY]
     unfold pZ
     by_cases c:aP o [x.fA,x.fB]=v
     · rw[aUs (by simpa using c),aUs c];unfold aK;rw[tI]
     · rw[aUq (by simpa using c),aUq c];omega
    omega
  rw[e]
  have:aK (x::s)=cG x+1+aK s:=by unfold aK;rw[tI]
  omega
theorem aAT:∀ b:List TreeNode,aK (aAU b)=(b.map (fun n=>aK n.fOwn)).sum
 | []=>rfl
 | n::b=>by
  have e:aAU (n::b)=n.fOwn++aAU b:=by simp[aAU]
  rw[e,aMf,aAT b,aUH,aWO]
theorem aN7 {s:List Link}{o:List Int}{b:List TreeNode}(hn:o.Nodup)(h:wB s o o []=some b):aK (aAU b)<=aK s:=by
 obtain⟨h1,h2⟩:=aBu o [] b (by simp) h
 simp only[aVy,aUx]at h2
 rw[aAT]
 have e:b.map (fun n=>aK n.fOwn)=b.map (fun n=>aK (s.filter (pZ o n.fNode))):=List.map_congr_left fun n hn=>by rw[(h1 n hn).2.1]
 have e2:b.map (fun n=>aK (s.filter (pZ o n.fNode)))=o.map (fun v=>aK (s.filter (pZ o v))):=by rw[<- h2,aWo];rfl
 rw[e,e2]
 exact aJV o o hn s
theorem aJA {s:List Link}{o:List Int}:∀ {b:List TreeNode},(∀ n∈b,NodeOk s o n)->szL hJ b<=aK (aAU b)+51425*b.length
 | [],_=>aVk _
 | n::b,h=>by
  have ih:=aJA (b:=b) (fun m hm=>h m (by simp[hm]))
  have hn:=h n (by simp)
  have h1:=hn.1.sz
  have h3:=nC (.inl hn.2.2.2.1)
  have h4:=hn.2.2.1
  have e:aK (aAU (n::b))=aK n.fOwn+aK (aAU b):=by rw[aAT,aAT,aUH,aWO]
  have e2:hJ n=aK n.fOwn+aW n.fCond+aK n.fMessages+bO n.fEnergy:=rfl
  rw[tI,aUC,e,e2]
  omega
theorem aLQ {s:List Link}{o:List Int}{u:Tree}(h:aAd s o=some u):aK (aAU u.fNodes)<=aK s/\yA u<=aK s+462825:=by
 unfold aAd at h
 cases hj:jnP s with
 | none=>rw[hj]at h;cases h
 | some x =>
  rw[hj,aUp]at h
  by_cases c:isOrd x.1 o
  · rw[aUs c]at h
    cases g:wB s o o []with
    | none=>rw[g]at h;cases h
    | some b =>
     rw[g]at h
     obtain rfl:=Option.some.inj h
     have h1:=aN7 c.1 g
     obtain⟨k1,k2⟩:=aBu o [] b (by simp) g
     have h2:=aJA k1
     have hl:b.length=o.length:=by have:=congrArg List.length k2;simpa using this
     have h9:=(aGP c).1
     refine⟨h1,?_⟩
     show szL hJ b<=_
     have:51425*b.length<=51425*9:=aUX (aUI _) (by omega)
     omega
  · rw[aUq c]at h;cases h
/- The cliques of a tree, both programs, and the law. -/
theorem aLr {o:List Int}{v:Int}{own:List Link}{b:List TreeNode}{n:TreeNode}(h:rR o v own b=some n):bJ n.fCond=some true:=by
 unfold rR at h
 cases e1:jnP (own++aA1 v b)with
 | none=>rw[e1]at h;cases h
 | some u =>
  rw[e1,aUp]at h
  cases e2:aEn v u.1 with
  | none=>rw[e2]at h;cases h
  | some w =>
   obtain⟨c,m,f⟩:=w
   rw[e2,aUp]at h
   have hc:bJ c=some true:=by
    unfold aEn at e2
    cases e3:yX v u.1 with
    | none=>rw[e3]at e2;cases e2
    | some x =>
     rw[e3,aUp]at e2
     have ex:x.1=c:=by
      cases e4:jnP (zL v u.1++x.2)with
      | none=>rw[e4]at e2;cases e2
      | some y=>rw[e4]at e2;exact congrArg Prod.fst (Option.some.inj e2)
     unfold yX at e3
     split at e3
     · rename_i hh
       cases e3
       rw[<- ex];exact hh.2.1
     · cases e3
   split at h
   · cases h;exact hc
   · cases h
theorem aHM {Q:TreeNode->Prop}{s:List Link}{o:List Int}(hQ:∀ v b n,rR o v (s.filter (pZ o v)) b=some n->Q n):∀ (r:List Int) (b b':List TreeNode),(∀ n∈b,Q n)->wB s o r b=some b'->∀ n∈b',Q n
 | [],b,b',h,e=>by cases e;exact h
 | v::r,b,b',h,e=>by
  rw[wB]at e
  cases h1:rR o v (s.filter (pZ o v)) b with
  | none=>rw[h1]at e;cases e
  | some n =>
   rw[h1,aUp]at e
   exact aHM hQ r (b++[n]) b' (fun m hm=>by
    rcases aUz.1 hm with hm | hm
    · exact h m hm
    · rw[aU2.1 hm];exact hQ _ _ _ h1) e
/- The tree of tied links: what its nodes are. -/
theorem Base.valid {l:List QL}{o:List Int}(hb:Base l o):∀ x∈l.map QL.toL,ValidL x:=by
 intro x hx
 have:=hb.join.1
 exact(aDc this).1 x hx
theorem Tie.sz {l:List QL}{o:List Int}(h:Tie l o):aK (l.map QL.toL)<=2000:=by
 have h1:=aCc h.base.valid
 rw[aUM]at h1
 have:=h.len
 omega
def tG (l:List QL)(o:List Int):Tree:=⟨(aD l o o []).map NQ.toN⟩
theorem Tie.owner {l:List QL}{o:List Int}(h:Tie l o):∀ x∈l,aP o [x.a,x.b]∈o:=by
 intro x hx
 have hb:=h.base
 have hbm:x.b∈o:=(h.mem _).2 ⟨by have:=(h.lk x hx).1;omega,x,hx,.inr rfl⟩
 rcases aBY (s:=[x.a,x.b]) (fun u hu=>(hb.h1 u hu).1)with⟨_,h4⟩ | ⟨p,v,r,e,h2,h3,h4⟩
 · exact absurd (by simp) (h4 _ hbm)
 · rw[h2,e];simp
theorem aBt (l:List QL)(o:List Int):∀ (r:List Int) (b:List NQ),(aD l o r b).map (fun n=>n.node)=b.map (fun n=>n.node)++r
 | [],b=>by simp[aD]
 | v::r,b=>by
  rw[aD,aBt l o r]
  simp only[aVE,aUH,aVy,aUO,aVK]
  rfl
theorem lP (l:List QL)(o:List Int)(v:Int):∀ (p:List Int) (b:List NQ),aD l o (p++[v]) b=aD l o p b++[nxt l o v (aD l o p b)]
 | [],b=>rfl
 | u::p,b=>by rw[aUB,aD,aD,lP l o v p]
theorem TInv.at {l:List QL}{o:List Int}(hb:Base l o)(hg:wY l o)(hc:aMb l o):∀ (n:Nat) (p r:List Int),p.length=n->o=p++r->TInv l o p r (aD l o p [])
 | 0,p,r,hn,e=>by
  have:p=[]:=aUD.1 hn
  subst this
  rw[aUx]at e
  subst e
  exact(TCore.start hb hg).inv hc
 | n+1,p,r,hn,e=>by
  rcases aVT p with rfl | ⟨q,v,rfl⟩
  · simp at hn
  · rw[aVU]at hn e ⊢
    have ih:=TInv.at hb hg hc n q (v::r) (by simpa using hn) (by rw[e,aUO];rfl)
    rw[lP]
    exact(ih.next hb).1.inv hc
theorem Tie.tsz {l:List QL}{o:List Int}(h:Tie l o):yA (tG l o)<=470000:=by
 have hz:=h.sz
 have:=(aLQ h.build).2
 unfold tG
 omega
theorem sO (l:List QL)(o:List Int)(q:List Int)(b:List NQ):(aD l o q b).length=b.length+q.length:=by
 have:=congrArg List.length (aBt l o q b)
 simpa using this
theorem aCd (l:List QL)(o:List Int):∀ (q:List Int) (b:List NQ),∃ c,aD l o q b=b++c
 | [],b=>⟨[],by simp[aD]⟩
 | v::q,b=>by
  obtain⟨c,e⟩:=aCd l o q (b++[nxt l o v b])
  exact⟨nxt l o v b::c,by rw[aD,e,aUO];rfl⟩
theorem aOO {l:List QL}{o p:List Int}{v:Int}{r:List Int}(e:o=p++v::r):(tG l o).fNodes[p.length]?=some (nxt l o v (aD l o p [])).toN:=by
 show((aD l o o []).map NQ.toN)[p.length]?=_
 have:aD l o o []=aD l o (p++v::r) []:=congrArg (fun z=>aD l o z []) e
 rw[this,aAg,aD]
 obtain⟨c,ec⟩:=aCd l o r (aD l o p []++[nxt l o v (aD l o p [])])
 rw[ec,aVE,aVE,aUO,aVl (by rw[aUM,sO];simp)]
 simp[sO]
theorem aNu (l:List QL)(o:List Int):(tG l o).fNodes.length=o.length:=by
 show((aD l o o []).map NQ.toN).length=_
 rw[aUM,sO];simp
theorem aE4 {L:List Link}{o:List Int}{t:Tree}(ht:aAd L o=some t):t.fNodes.length<=9/\∀ n∈t.fNodes,bJ n.fCond=some true/\aW n.fCond<=20000:=by
 unfold aAd at ht
 cases hj:jnP L with
 | none=>rw[hj]at ht;cases ht
 | some x =>
  rw[hj,aUp]at ht
  by_cases c:isOrd x.1 o
  · rw[aUs c]at ht
    cases g:wB L o o []with
    | none=>rw[g]at ht;cases ht
    | some b =>
     rw[g]at ht
     have e:=Option.some.inj ht
     obtain⟨k1,k2⟩:=aBu o [] b (by simp) g
     have k3:=aHM (Q:=fun n=>bJ n.fCond=some true) (fun v b n h=>aLr h) o [] b (by simp) g
     have eb:b=t.fNodes:=by rw[<- e]
     subst eb
     obtain⟨l1,l2⟩:=aGP c
     have l3:t.fNodes.length=o.length:=by rw[<- aUM (f:=TreeNode.fNode),k2];simp
     exact⟨by omega,fun n hn=>⟨k3 n hn,(k1 n hn).2.2.1⟩⟩
  · rw[aUq c]at ht;cases ht
/- Energies at positions: what joining and eliminating keep. -/
def eP (p q:Int->Q)(x:QL):Q:=x.w*sqQ (p x.b-p x.a-x.x) (q x.b-q x.a-x.y)
theorem aSb (p q:Int->Q){k l:QL}(ha:k.a=l.a)(hb:k.b=l.b)(hk:0<k.w)(hl:0<l.w):eP p q (mrg k l)+aGv k l=eP p q k+eP p q l:=by
 have:k.w+l.w≠0:=by grind
 unfold eP mrg aGv sqQ
 simp only[]
 rw[ha,hb]
 generalize p l.b-p l.a=u
 generalize q l.b-q l.a=v
 grind
theorem aNa (p q:Int->Q):∀ (s:List QL) (l:QL),(∀ x∈s,0<x.w)->0<l.w->sm (eP p q) (jI s l).1+(jI s l).2=sm (eP p q) s+eP p q l
 | [],l,_,_=>by simp only[jI,sm];grind
 | k::s,l,hs,hl=>by
  have hk:=hs k (by simp)
  have hr:=fun x hx=>hs x (aU3 k hx)
  by_cases c:cW k l
  · have ih:=aNa p q s l hr hl
    rw[tD c,sm,sm]
    simp only[]
    grind
  · by_cases d:cW l k
    · rw[wU c d]
      simp only[sm]
      grind
    · have e:=aSb p q (zH c d).1 (zH c d).2 hk hl
      rw[wT c d]
      simp only[sm]
      grind
theorem aKN (s:List QL)(l:QL)(hs:∀ x∈s,0<x.w)(hl:0<l.w):∀ x∈(jI s l).1,0<x.w :=
 aD7 (P:=fun x=>0<x.w) (fun k l _ _ h1 h2=>aMB h1 h2) s l hs hl
theorem aGO (p q:Int->Q):∀ (l s:List QL) (e:Q),(∀ x∈l,0<x.w)->(∀ x∈s,0<x.w)->sm (eP p q) (aU l s e).1+(aU l s e).2=sm (eP p q) s+sm (eP p q) l+e
 | [],s,e,_,_=>by simp only[aU,sm];grind
 | x::l,s,e,hl,hs=>by
  have hx:=hl x (by simp)
  have h1:=aGO p q l (jI s x).1 (e+(jI s x).2) (fun y hy=>hl y (by simp[hy])) (aKN s x hs hx)
  have h2:=aNa p q s x hs hx
  rw[aU,sm]
  grind
theorem aIc:∀ (l s:List QL) (e:Q),(∀ x∈l,0<x.w)->(∀ x∈s,0<x.w)->∀ x∈(aU l s e).1,0<x.w
 | [],s,e,_,hs=>hs
 | x::l,s,e,hl,hs=>by
  rw[aU]
  exact aIc l _ _ (fun y hy=>hl y (by simp[hy])) (aKN s x hs (hl x (by simp)))
theorem aSA (p q:Int->Q){v:Int}{l:QL}(h:aE7 v l=true):eP p q (aBn v l)=eP p q l:=by
 have h:=aU4 h
 unfold aBn
 by_cases c:l.a=v
 · rw[aUs c]
   unfold eP sqQ
   simp only[]
   rw[c]
   grind
 · rw[aUq c]
   have hb:l.b=v:=h.resolve_left c
   unfold eP sqQ
   simp only[]
   rw[hb]
theorem aJE (p q:Int->Q)(v:Int):∀ s:List QL,sm (eP p q) s=sm (eP p q) (bL v s)+sm (eP p q) (uR v s)
 | []=>by simp only[bL,uR,aV9,aVy,sm];grind
 | x::s=>by
  have ih:=aJE p q v s
  unfold bL uR at ih ⊢
  rw[aUY,aUY,sm]
  by_cases c:aE7 v x=true
  · have e:=aSA p q c
    simp only[c,aVj,aUK,aUv,aUT,aUH,sm];grind
  · simp only[c,Bool.not_eq_true,aUT,aWg,aUK,sm];grind
def app (f:Int->Q)(g:PQ->Q):List PQ->Q
 | []=>0
 | x::r=>x.s*(f x.node+g x)+app f g r
def cdE (p q:Int->Q)(c:CQ):Q:=c.t*sqQ (p c.node-app p (·.x) c.ps) (q c.node-app q (·.y) c.ps)
theorem aRJ (f:Int->Q)(t:Q):∀ a:List QL,app f (·.x) (a.map (zC t))=sm (fun y=>y.w*(f y.a+y.x)) a / t
 | []=>by simp only[aVy,app,sm];grind
 | x::a=>by
  rw[aUH,app,sm,aRJ f t a]
  unfold zC
  simp only[]
  grind
theorem aRI (f:Int->Q)(t:Q):∀ a:List QL,app f (·.y) (a.map (zC t))=sm (fun y=>y.w*(f y.a+y.y)) a / t
 | []=>by simp only[aVy,app,sm];grind
 | x::a=>by
  rw[aUH,app,sm,aRI f t a]
  unfold zC
  simp only[]
  grind
section
variable (p q:Int->Q)
def s1x (a:List QL):Q:=sm (fun y=>y.w*(p y.a+y.x)) a
def s1y (a:List QL):Q:=sm (fun y=>y.w*(q y.a+y.y)) a
def s2 (a:List QL):Q:=sm (fun y=>y.w*sqQ (p y.a+y.x) (q y.a+y.y)) a
theorem aO4 (t:Q)(ht:t≠0)(x:QL):∀ a:List QL,sm (eP p q) (a.map (mlQ t x))*t=x.w*(s2 p q a-2*(p x.a+x.x)*s1x p a-2*(q x.a+x.y)*s1y q a+sqQ (p x.a+x.x) (q x.a+x.y)*sm wt a)
 | []=>by simp only[aVy,sm,s2,s1x,s1y];grind
 | y::a=>by
  have ih:=aO4 t ht x a
  unfold s2 s1x s1y at ih ⊢
  rw[aUH,sm,sm,sm,sm,sm,_root_.Rat.add_mul,ih]
  unfold eP mlQ sqQ wt
  simp only[]
  generalize sm (fun y=>y.w*((p y.a+y.x)*(p y.a+y.x)+(q y.a+y.y)*(q y.a+y.y))) a=S2
  generalize sm (fun y=>y.w*(p y.a+y.x)) a=S1
  generalize sm (fun y=>y.w*(q y.a+y.y)) a=S3
  generalize sm (fun l=>l.w) a=S0
  generalize p x.a=px
  generalize p y.a=py
  generalize q x.a=qx
  generalize q y.a=qy
  have e:x.w*y.w / t*((py-px-(x.x-y.x))*(py-px-(x.x-y.x))+(qy-qx-(x.y-y.y))*(qy-qx-(x.y-y.y)))*t=x.w*y.w*((py-px-(x.x-y.x))*(py-px-(x.x-y.x))+(qy-qx-(x.y-y.y))*(qy-qx-(x.y-y.y))):=by grind
  rw[e]
  grind
theorem aMG (t:Q)(ht:t≠0):∀ a:List QL,sm (eP p q) (mE t a)*t=sm wt a*s2 p q a-s1x p a*s1x p a-s1y q a*s1y q a
 | []=>by simp only[mE,sm,s2,s1x,s1y];grind
 | x::a=>by
  have ih:=aMG t ht a
  have h:=aO4 p q t ht x a
  rw[mE,rI,_root_.Rat.add_mul,ih,h]
  unfold s2 s1x s1y
  rw[sm,sm,sm,sm]
  unfold wt sqQ
  grind
theorem aM4 (v:Int):∀ a:List QL,(∀ x∈a,x.b=v)->sm (eP p q) a=sm wt a*sqQ (p v) (q v)-2*p v*s1x p a-2*q v*s1y q a+s2 p q a
 | [],_=>by simp only[sm,s2,s1x,s1y];grind
 | x::a,h=>by
  have ih:=aM4 v a (fun y hy=>h y (by simp[hy]))
  have hx:=h x (by simp)
  unfold s2 s1x s1y at ih ⊢
  rw[sm,sm,sm,sm,sm,ih]
  unfold eP wt sqQ
  rw[hx]
  grind
theorem aQo {v:Int}{a:List QL}(hb:∀ x∈a,x.b=v)(h:sm wt a≠0):sm (eP p q) a=cdE p q (oQ v a)+sm (eP p q) (mE (sm wt a) a):=by
 have h1:=aMG p q (sm wt a) h a
 have h2:=aM4 p q v a hb
 unfold cdE oQ
 simp only[]
 rw[aRJ,aRI,h2]
 have e1:sm (fun y=>y.w*(p y.a+y.x)) a=s1x p a:=rfl
 have e2:sm (fun y=>y.w*(q y.a+y.y)) a=s1y q a:=rfl
 rw[e1,e2]
 unfold sqQ
 have h3:sm (eP p q) (mE (sm wt a) a)=(sm wt a*s2 p q a-s1x p a*s1x p a-s1y q a*s1y q a) / sm wt a:=by grind
 rw[h3]
 grind
end
theorem aSz (v:Int)(s:List QL):∀ x∈bL v s,x.b=v:=by
 intro x hx
 obtain⟨l,_,_,rfl⟩:=wN.1 hx
 unfold aBn
 split <;> rfl
theorem aJ2 {t:Q}(ht:0<t):∀ {a:List QL},(∀ x∈a,0<x.w)->∀ z∈mE t a,0<z.w
 | x::a,h,z,hz=>by
  rw[mE,aUz]at hz
  rcases hz with hz | hz
  · obtain⟨y,hy,rfl⟩:=aUJ.1 hz
    have h1:=_root_.Rat.mul_pos (h x (by simp)) (h y (by simp[hy]))
    show 0<x.w*y.w / t
    rw[_root_.Rat.lt_div_iff ht];grind
  · exact aJ2 ht (fun y hy=>h y (by simp[hy])) z hz
theorem aQA (p q:Int->Q){l:List QL}{o:List Int}{v:Int}{b:List NQ}(hp:∀ x∈l.filter (pL o v)++lV v b,0<x.w)(hW:0<sm wt (bL v (aU (l.filter (pL o v)++lV v b) [] 0).1)) :
 sm (eP p q) (l.filter (pL o v))+sm (eP p q) (lV v b)=cdE p q (nxt l o v b).cond+(nxt l o v b).enQ+sm (eP p q) (nxt l o v b).msgs:=by
 generalize hF:l.filter (pL o v)++lV v b=F at hp hW
 have h1:=aGO p q F [] 0 hp (by simp)
 have p1:=aIc F [] 0 hp (by simp)
 have h2:=aJE p q v (aU F [] 0).1
 have h3:=aQo p q (aSz v (aU F [] 0).1) (by grind)
 have pa:∀ x∈bL v (aU F [] 0).1,0<x.w:=fun x hx=>by
  obtain⟨y,hy,_,rfl⟩:=wN.1 hx
  rw[aD6];exact p1 y hy
 have pn:∀ x∈gC v (aU F [] 0).1,0<x.w:=fun x hx=>by
  rcases aUz.1 hx with hx | hx
  · exact p1 x (aAq.1 hx).1
  · exact aJ2 hW pa x hx
 have h4:=aGO p q (gC v (aU F [] 0).1) [] 0 pn (by simp)
 have h5:sm (eP p q) (gC v (aU F [] 0).1)=sm (eP p q) (uR v (aU F [] 0).1)+sm (eP p q) (mE (sm wt (bL v (aU F [] 0).1)) (bL v (aU F [] 0).1)):=rI _ _ _
 have e1:(nxt l o v b).cond=oQ v (bL v (aU F [] 0).1):=by rw[<- hF];rfl
 have e2:(nxt l o v b).enQ=(aU F [] 0).2+(aU (gC v (aU F [] 0).1) [] 0).2:=by rw[<- hF];rfl
 have e3:(nxt l o v b).msgs=(aU (gC v (aU F [] 0).1) [] 0).1:=by rw[<- hF];rfl
 have e4:sm (eP p q) F=sm (eP p q) (l.filter (pL o v))+sm (eP p q) (lV v b):=by rw[<- hF];exact rI _ _ _
 rw[e1,e2,e3]
 simp only[sm]at h1 h4
 grind
/- The energies of a tree at positions; its solution. -/
def sn (f:NQ->Q):List NQ->Q
 | []=>0
 | x::l=>f x+sn f l
theorem aK8 (f:NQ->Q):∀ a b:List NQ,sn f (a++b)=sn f a+sn f b
 | [],b=>by simp only[aUx,sn];grind
 | x::a,b=>by rw[aUB,sn,sn,aK8 f a b,_root_.Rat.add_assoc]
theorem aK9 (f g:NQ->Q):∀ a:List NQ,sn (fun n=>f n+g n) a=sn f a+sn g a
 | []=>by simp only[sn];grind
 | x::a=>by rw[sn,sn,sn,aK9 f g a];grind
theorem aHN {f:NQ->Q}:∀ {l:List NQ},(∀ x∈l,0<=f x)->0<=sn f l
 | [],_=>by simp[sn]
 | x::l,h=>by
  have h1:=h x (by simp)
  have h2:=aHN (f:=f) (l:=l) (fun y hy=>h y (by simp[hy]))
  rw[sn];grind
theorem aIG {f:NQ->Q}:∀ {l:List NQ},(∀ x∈l,f x=0)->sn f l=0
 | [],_=>rfl
 | x::l,h=>by
  rw[sn,h x (by simp),aIG (fun y hy=>h y (by simp[hy]))];grind
section
variable {l:List QL}{o pre r:List Int}{v:Int}{b:List NQ}
theorem aGi (hb:Base l o)(hi:TInv l o pre (v::r) b):∀ x∈(nxt l o v b).msgs,x.a∈psN (nxt l o v b).cond/\x.b∈psN (nxt l o v b).cond/\x.a<x.b:=by
 obtain⟨n,h1,hv,v1,v9,hl,nV,hV⟩:=hi.facts hb
 obtain⟨_,_,hinc⟩:=hi.inc hb
 obtain⟨c1,c2,c3,c4,c5,c6,c7⟩:=aLp (order:=o) hinc
 have hsp:=hi.split
 intro x hx
 have hj:=(hinc.join).2.1
 refine⟨?_,?_,(c5 x hx).2.2.2⟩
 all_goals
  obtain⟨y,hy,e1,e2⟩:=nK _ [] 0 x hx
  have hy:=hy.resolve_left (by simp)
  rcases aUz.1 hy with hy | hy
  · obtain⟨m1,m2,m3⟩:=aAq.1 hy
    obtain⟨z,hz,f1,f2⟩:=nK _ [] 0 y m1
    have hz:=hz.resolve_left (by simp)
    rcases aUz.1 hz with hz | hz
    · exfalso
      have:=(aUy.1 hz).2
      rw[hsp]at this
      have:=((aDA n h1).1 this).1
      omega
    · obtain⟨c,hc,hu2,hz⟩:=wM.1 hz
      obtain⟨_,hk⟩:=hi.kid_ps hb hc hu2
      obtain⟨_,_,p3,_⟩:=hi.ps c hc (by rw[hu2];simp)
      have g1:=(p3 z hz).1
      have g2:=(p3 z hz).2.1
      rw[f1,e1]at g1
      rw[f2,e2]at g2
      first | exact hk _ g1 (by omega) | exact hk _ g2 (by omega)
  · obtain⟨_,_,_,_,⟨y1,hy1,q1⟩,y2,hy2,q2⟩:=hj.arms.each hy
    have e:psN (nxt l o v b).cond=(bL v (aU (l.filter (pL o v)++lV v b) [] 0).1).map fun x=>x.a:=aBH v _
    rw[e]
    first | exact aUJ.2 ⟨y1,hy1,q1.trans e1⟩ | exact aUJ.2 ⟨y2,hy2,q2.trans e2⟩
theorem aON (hb:Base l o)(hi:TInv l o pre (v::r) b)(h:(nxt l o v b).up∉r):(nxt l o v b).msgs=[]:=by
 rw[aWa]
 intro x hx
 obtain⟨h1,h2,h3⟩:=aGi hb hi x hx
 by_cases c:x.b=0
 · have:=hi.nxt_rem hb _ h1
   have h5:0<=x.a:=by
    rcases aUr.1 this.1 with g | g
    · omega
    · have:=(hi.facts hb).2.1 x.a (by simp[g]);omega
   omega
 · exact h (hi.nxt_up hb h2 c)
theorem aIe (hb:Base l o)(hi:TInv l o pre (v::r) b):(∀ x∈l.filter (pL o v)++lV v b,0<x.w)/\0<sm wt (bL v (aU (l.filter (pL o v)++lV v b) [] 0).1):=by
 obtain⟨_,_,hinc⟩:=hi.inc hb
 exact⟨fun x hx=>(hinc.lk x hx).1.sc.1,(hinc.join).2.1.arms.pos⟩
theorem aFq (p q:Int->Q)(hb:Base l o)(hg:wY l o)(hc:aMb l o):∀ (n:Nat) (pre rem:List Int),pre.length=n->o=pre++rem->
 sm (eP p q) (l.filter fun x=>decide (aP o [x.a,x.b]∈pre))=sn (fun n=>cdE p q n.cond+n.enQ) (aD l o pre [])+sm (eP p q) (dD ((aD l o pre []).filter (gM rem)))
 | 0,pre,rem,hn,e=>by
  have:pre=[]:=aUD.1 hn
  subst this
  have e1:(l.filter fun x=>decide (aP o [x.a,x.b]∈([]:List Int)))=[]:=by simp
  rw[e1]
  simp only[aD,aV9,dD,aWm,sm,sn]
  grind
 | n+1,pre,rem,hn,e=>by
  rcases aVT pre with rfl | ⟨q',v,rfl⟩
  · simp at hn
  rw[aVU]at hn e ⊢
  have eo:o=q'++v::rem:=by rw[e,aUO];rfl
  have ih:=aFq p q hb hg hc n q' (v::rem) (by simpa using hn) eo
  have ti:=TInv.at hb hg hc q'.length q' (v::rem) rfl eo
  obtain⟨nd,h1,hv,v1,v9,hl,nV,hV⟩:=ti.facts hb
  obtain⟨fp1,fp2⟩:=aIe hb ti
  have hN:=aQA p q fp1 fp2
  rw[lP,aK8]
  simp only[sn]
  have vq:v∉q':=fun h=>by
   have:=hb.nd
   rw[eo]at this
   exact(aUQ.1 this).2.2 v h v (by simp) rfl
  have s1:sm (eP p q) (l.filter fun x=>decide (aP o [x.a,x.b]∈q'++[v]))=sm (eP p q) (l.filter fun x=>decide (aP o [x.a,x.b]∈q'))+sm (eP p q) (l.filter (pL o v)):=by
   rw[aBB (eP p q) (fun x=>decide (aP o [x.a,x.b]∈q')),aVY,aVY]
   congr 2
   · refine aWi fun x _=>?_
     by_cases c:aP o [x.a,x.b]∈q' <;> simp[c]
   · refine aWi fun x _=>?_
     unfold pL
     by_cases c:aP o [x.a,x.b]=v
     · simp[c,vq]
     · by_cases d:aP o [x.a,x.b]∈q' <;> simp[c,d]
  have s2:sm (eP p q) (dD ((aD l o q' []).filter (gM (v::rem))))=sm (eP p q) (lV v (aD l o q' []))+sm (eP p q) (dD ((aD l o q' []).filter (gM rem))):=by
   rw[aC6 (eP p q) (kid v),aGK,aEC hv]
   rfl
  have s3:sm (eP p q) (dD ((aD l o q' []++[nxt l o v (aD l o q' [])]).filter (gM rem)))=sm (eP p q) (dD ((aD l o q' []).filter (gM rem)))+sm (eP p q) (nxt l o v (aD l o q' [])).msgs:=by
   unfold dD
   rw[aWS,aWu,rI,aUY,aV9]
   by_cases c:(nxt l o v (aD l o q' [])).up∈rem
   · have:gM rem (nxt l o v (aD l o q' []))=true:=aUu c
     rw[aUs this,aVc,aWm,aVx]
   · have:¬gM rem (nxt l o v (aD l o q' []))=true:=fun h=>c (aU4 h)
     rw[aUq this,aON hb ti c,aWm]
  rw[s1,s3,ih,s2]
  grind
end
theorem aRY (p q:Int->Q){l:List QL}{o:List Int}(h:Tie l o):sm (eP p q) l=sn (fun n=>cdE p q n.cond) (aD l o o [])+sn (fun n=>n.enQ) (aD l o o []):=by
 have e:=aFq p q h.base h.gr h.cap o.length o [] rfl (by simp)
 have e1:(l.filter fun x=>decide (aP o [x.a,x.b]∈o))=l:=List.filter_eq_self.2 fun x hx=>aUu (h.owner x hx)
 have e2:(aD l o o []).filter (gM [])=[]:=List.filter_eq_nil_iff.2 fun c _ hc=>by have:=aU4 hc;simp at this
 rw[e1,e2,aK9]at e
 rw[e]
 simp only[dD,aWm,sm]
 grind
def sol (g:PQ->Q):List NQ->Int->Q
 | [],_=>0
 | n::r,u=>if u=n.node then app (sol g r) g n.cond.ps else sol g r u
theorem aIn {f f':Int->Q}(g:PQ->Q):∀ {ps:List PQ},(∀ x∈ps,f x.node=f' x.node)->app f g ps=app f' g ps
 | [],_=>rfl
 | x::r,h=>by rw[app,app,h x (by simp),aIn g fun y hy=>h y (by simp[hy])]
def Dn (b:List NQ):Prop:=b.Pairwise (fun n c=>n.node∉psN c.cond/\n.node≠c.node)/\∀ n∈b,n.node∉psN n.cond/\n.cond.node=n.node
theorem Dn.tail {n:NQ}{r:List NQ}(h:Dn (n::r)):Dn r:=⟨(aVa.1 h.1).2,fun c hc=>h.2 c (by simp[hc])⟩
theorem aFP (g:PQ->Q):∀ {b:List NQ},Dn b->∀ n∈b,sol g b n.node=app (sol g b) g n.cond.ps
 | c::r,h,n,hn=>by
  have hp:=(aVa.1 h.1).1
  have key:∀ m:NQ,c.node∉psN m.cond->app (sol g (c::r)) g m.cond.ps=app (sol g r) g m.cond.ps:=fun m hm =>
   aIn g fun x hx=>by
    have:x.node≠c.node:=fun e=>hm (e▸aVR hx)
    rw[sol,aUq this]
  rcases aUr.1 hn with rfl | hn
  · rw[key n (h.2 n (by simp)).1,sol,aUs rfl]
  · obtain⟨h1,h2⟩:=hp n hn
    rw[key n h1,<- aFP g h.tail n hn,sol,aUq (fun e=>h2 e.symm)]
theorem aMh (g:PQ->Q):∀ (b:List NQ) (u:Int),(∀ n∈b,n.node≠u)->sol g b u=0
 | [],_,_=>rfl
 | n::r,u,h=>by rw[sol,aUq (fun e=>h n (by simp) e.symm),aMh g r u fun c hc=>h c (by simp[hc])]
theorem aMg (x:Q):0<=x*x:=by
 rcases Std.le_total (a:=0) (b:=x)with h | h
 · exact aVq h h
 · have:=aVq (a:=-x) (b:=-x) (by grind) (by grind)
   grind
theorem aSt (p q:Int->Q){c:CQ}(h:0<c.t):0<=cdE p q c:=by
 unfold cdE sqQ
 exact aVq (by grind) (by have:=aMg (p c.node-app p (·.x) c.ps);have:=aMg (q c.node-app q (·.y) c.ps);grind)
theorem aRE (p q:Int->Q){x:QL}(h:0<x.w):0<=eP p q x:=by
 unfold eP sqQ
 exact aVq (by grind) (by have:=aMg (p x.b-p x.a-x.x);have:=aMg (q x.b-q x.a-x.y);grind)
/- Two trees of the same links: the same solution, the same energy. -/
theorem aIE {l:List QL}{o:List Int}(h:Tie l o):∀ (n:Nat) (pre rem:List Int),pre.length=n->o=pre++rem->
 Dn (aD l o pre [])/\∀ c∈aD l o pre [],c.node∈pre/\0<c.cond.t/\∀ u∈psN c.cond,u=0\/u∈o
 | 0,pre,rem,hn,e=>by
  have:pre=[]:=aUD.1 hn
  subst this
  exact⟨⟨List.Pairwise.nil,by simp[aD]⟩,by simp[aD]⟩
 | n+1,pre,rem,hn,e=>by
  rcases aVT pre with rfl | ⟨q,v,rfl⟩
  · simp at hn
  rw[aVU]at hn e ⊢
  have eo:o=q++v::rem:=by rw[e,aUO];rfl
  obtain⟨⟨i1,i2⟩,i3⟩:=aIE h n q (v::rem) (by simpa using hn) eo
  have ti:=TInv.at h.base h.gr h.cap q.length q (v::rem) rfl eo
  obtain⟨fp1,fp2⟩:=aIe h.base ti
  have hrem:=ti.nxt_rem h.base
  have nd:=h.nd
  rw[eo]at nd
  have nd2:=aUQ.1 nd
  rw[lP]
  refine⟨⟨?_,?_⟩,?_⟩
  · rw[aWf]
    refine⟨i1,by simp,fun c hc d hd=>?_⟩
    rw[aU2.1 hd]
    have cq:=(i3 c hc).1
    have c1:=(h.five c.node (by rw[eo];simp[cq])).1
    refine⟨fun hm=>?_,fun e=>?_⟩
    · rcases aUr.1 (hrem _ hm).1 with g | g
      · omega
      · exact nd2.2.2 _ cq _ (aU3 _ g) rfl
    · have:c.node=v:=e
      exact nd2.2.2 _ cq _ (by simp) this
  · intro c hc
    rcases aUz.1 hc with hc | hc
    · exact i2 c hc
    · rw[aU2.1 hc]
      exact⟨fun hm=>(hrem _ hm).2 rfl,rfl⟩
  · intro c hc
    rcases aUz.1 hc with hc | hc
    · obtain⟨g1,g2,g3⟩:=i3 c hc
      exact⟨by simp[g1],g2,g3⟩
    · rw[aU2.1 hc]
      refine⟨by simp[show(nxt l o v (aD l o q [])).node=v from rfl],fp2,fun u hu=>?_⟩
      rcases aUr.1 (hrem u hu).1 with g | g
      · exact .inl g
      · exact .inr (by rw[eo];simp[g])
theorem Tie.dn {l:List QL}{o:List Int}(h:Tie l o):Dn (aD l o o [])/\∀ c∈aD l o o [],c.node∈o/\0<c.cond.t/\∀ u∈psN c.cond,u=0\/u∈o:=aIE h o.length o [] rfl (by simp)
theorem aFH {l:List QL}{o:List Int}{u:Int}(h:u∈o):∃ c∈aD l o o [],c.node=u:=by
 have e:=aBt l o o []
 have:u∈(aD l o o []).map (fun n=>n.node):=by rw[e];simpa using h
 obtain⟨c,hc,e2⟩:=aUJ.1 this
 exact⟨c,hc,e2⟩
theorem aTd {l:List QL}{o:List Int}(h:Tie l o):sm (eP (sol (·.x) (aD l o o [])) (sol (·.y) (aD l o o []))) l=sn (fun n=>n.enQ) (aD l o o []):=by
 obtain⟨d,_⟩:=h.dn
 rw[aRY _ _ h,aIG fun n hn=>by
  have e1:=aFP (·.x) d n hn
  have e2:=aFP (·.y) d n hn
  unfold cdE
  rw[(d.2 n hn).2,e1,e2]
  unfold sqQ
  grind]
 grind
end Go.Ev
