/- Parts VW, MX3, MX4, MY2, MY3, VX, VY, VZ, MW, MY4, MY5. -/
import Derived.Test.YtmgbflccodamfaaGreatPb4
import Derived.Test.YtmgbflccodamfaaGreatPa1
import Derived.Test.YtmgbflccodamfaaGreatPb3
import Derived.Test.YtmgbflccodamfaaGreatPb1
set_option linter.all false
set_option maxHeartbeats 4000000
set_option maxRecDepth 20000
/- Positions have few digits. -/
namespace Go.Ev
def aP5 (k:Nat)(n:NQ):Prop:=∃ (D X:Nat) (a:List QL),n.cond=oQ n.node a/\Arms D X n.node a/\72*D<=ex k
def aCa:Nat->List NQ->Prop
 | _,[]=>True
 | k,n::r=>aP5 k n/\aCa (k+mu n) r
theorem aE6 {n:NQ}:∀ {k:Nat} {b:List NQ},aCa k b->aP5 (k+ka b) n->aCa k (b++[n])
 | k,[],_,h=>⟨by simpa [ka]using h,trivial⟩
 | k,m::r,h,g=>⟨h.1,aE6 h.2 (by rw[ka]at g;rw[show k+mu m+ka r=k+(mu m+ka r)by omega];exact g)⟩
theorem aB9 {n:NQ}:∀ {k:Nat} {a b:List NQ},aCa k (a++b)->aCa (k+ka a) b
 | k,[],b,h=>h
 | k,m::a,b,h=>by
  have:=aB9 (n:=n) (k:=k+mu m) (a:=a) h.2
  rw[ka,show k+(mu m+ka a)=k+mu m+ka a by omega];exact this
section
variable {l:List QL}{o pre r:List Int}{v:Int}{b:List NQ}
theorem aSr (hb:Base l o)(hi:TInv l o pre (v::r) b):72*aDi v b<=ex (ka b):=by
 obtain⟨k1,k2,k3⟩:=hi.kids
 have hH:cL wd (b.filter (kid v))<=ex (ka b):=aUE (aUE (aVX _ k2) k1) (aJf _)
 have ex72:72<=ex (ka b):=by
  unfold ex
  have:1<=2 ^ ka b:=Nat.one_le_two_pow
  calc 72=72 ^ 1:=rfl
   _<=_:=aU9 (by omega) this
 have kd:∀ c∈b.filter (kid v),c∈b/\c.up∈v::r:=fun c hc=>by
  rw[aUy]at hc
  have:=aU4 hc.2
  exact⟨hc.1,by rw[this];simp⟩
 rcases aJi (L:=b.filter (kid v)) (fun c hc=>⟨hi.den c (kd c hc).1 (kd c hc).2,hi.one c (kd c hc).1⟩)with⟨e,_⟩ | e
 · have e':aDi v b=1:=e
   rw[e'];omega
 · exact aUE e hH
theorem aNt (hb:Base l o)(hi:TInv l o pre (v::r) b):aP5 (ka b) (nxt l o v b):=by
 obtain⟨V,_,hinc⟩:=hi.inc hb
 exact⟨aDi v b,50*2 ^ ka b,bL v (aU (l.filter (pL o v)++lV v b) [] 0).1,rfl,(hinc.join).2.1.arms,aSr hb hi⟩
theorem aBs (hb:Base l o)(hg:wY l o)(hc:aMb l o):∀ (n:Nat) (pre rem:List Int),pre.length=n->o=pre++rem->aCa 0 (aD l o pre [])
 | 0,pre,rem,hn,e=>by
  have:pre=[]:=aUD.1 hn
  subst this
  exact trivial
 | n+1,pre,rem,hn,e=>by
  rcases aVT pre with rfl | ⟨q,v,rfl⟩
  · simp at hn
  rw[aVU]at hn e ⊢
  have eo:o=q++v::rem:=by rw[e,aUO];rfl
  have ih:=aBs hb hg hc n q (v::rem) (by simpa using hn) eo
  have ti:=TInv.at hb hg hc q.length q (v::rem) rfl eo
  rw[lP]
  refine aE6 ih ?_
  rw[aUR]
  exact aNt hb ti
theorem aLs (hb:Base l o)(hi:TInv l o pre (v::r) b){u:Int}(hne:u≠v)(hu:u∈psN (nxt l o v b).cond):aB6 l o (v::r) b v u:=by
 obtain⟨y,hy,ht,eu⟩:=aLn.1 hu
 obtain⟨z,hz,z1,z2⟩:=nK _ [] 0 y hy
 have hz:=hz.resolve_left (by simp)
 obtain⟨_,_,hinc⟩:=hi.inc hb
 have yy:y.a<y.b:=((hinc.join).2.1.lk y hy).2.2.2
 have an:=aB5 ht yy
 rcases aUz.1 hz with hz | hz
 · rw[aUy]at hz
   have hf:=hz.2
   unfold pL at hf
   have hf:=aU4 hf
   exact .inl ⟨z,hz.1,by rw[hf];simp,by rw[z1,z2,eu];omega⟩
 · obtain⟨c,hc,hcu,hz⟩:=wM.1 hz
   obtain⟨_,_,p3,_⟩:=hi.ps c hc (by rw[hcu];simp)
   obtain⟨m1,m2,_⟩:=p3 z hz
   refine .inr ⟨c,hc,by rw[hcu];simp,?_⟩
   rcases an with⟨a1,a2⟩ | ⟨a1,_,a2⟩
   · rw[z1,a1]at m1
     rw[z2,<- a2,<- eu]at m2
     exact⟨m1,m2⟩
   · rw[z2,a1]at m2
     rw[z1,<- a2,<- eu]at m1
     exact⟨m2,m1⟩
theorem aJW (hb:Base l o)(hi:TInv l o pre (v::r) b):ka b<=4/\(ka b=4->(nxt l o v b).msgs=[]):=by
 obtain⟨V,nV,vV,sV,aV,kV⟩:=hi.cap v r rfl
 obtain⟨u0,w0,e0,n0,adj0⟩:=hi.cut (fun u=>u=v) ⟨v,by simp,rfl⟩ (by have:=(hi.facts hb).2.2.2.1;omega)
 rw[e0]at adj0
 have w0V:=aV w0 n0 adj0
 have V2:2<=V.length:=by
  have:=(aUL.2 ⟨by simpa using fun e:v=w0=>n0 e.symm,aUL.2 ⟨by simp,List.nodup_nil⟩⟩:([v,w0]:List Int).Nodup).length_le_of_subset (l₂:=V) (fun z hz=>by
   simp only[aUr,aVi,or_false]at hz
   rcases hz with rfl | rfl
   · exact vV
   · exact w0V)
  simpa using this
 refine⟨by unfold KK at kV;omega,fun h4=>?_⟩
 have V2':V.length<=2:=by unfold KK at kV;omega
 rw[aWa]
 intro x hx
 obtain⟨h1,h2,h3⟩:=aGi hb hi x hx
 have nr:=hi.nxt_rem hb
 have inV':∀ u∈psN (nxt l o v b).cond,u∈V.erase v:=fun u hu=>by
  refine(nV.mem_erase_iff).2 ⟨(nr u hu).2,?_⟩
  exact aV u (nr u hu).2 ((aLs hb hi (nr u hu).2 hu))
 have:=(aUL.2 ⟨by simp;omega,aUL.2 ⟨by simp,List.nodup_nil⟩⟩:([x.a,x.b]:List Int).Nodup).length_le_of_subset (l₂:=V.erase v) (fun z hz=>by
  simp only[aUr,aVi,or_false]at hz
  rcases hz with rfl | rfl
  · exact inV' _ h1
  · exact inV' _ h2)
 rw[List.length_erase_of_mem vV]at this
 simp at this;omega
end
def epr:Nat->List NQ->Nat
 | _,[]=>1
 | k,n::r=>ex k*epr (k+mu n) r
theorem aPu (k:Nat):0<ex k:=by unfold ex;exact Nat.pow_pos (by omega)
theorem aJg:∀ (b:List NQ) (k:Nat),0<epr k b
 | [],_=>Nat.one_pos
 | n::r,k=>aU6 (aPu k) (aJg r _)
theorem aFx:∀ (a b:List NQ) (k:Nat),epr k (a++b)=epr k a*epr (k+ka a) b
 | [],b,k=>by simp[epr,ka]
 | n::a,b,k=>by rw[aUB,epr,epr,aFx a b,ka,aVr,show k+(mu n+ka a)=k+mu n+ka a by omega]
theorem aQT {a b c:List NQ}{k B:Nat}(e:c=a++b)(h:epr k c<=B):epr (k+ka a) b<=B:=by
 rw[e,aFx]at h
 exact aUE (Nat.le_mul_of_pos_left _ (aJg a k)) h
theorem aQU {a b c:List NQ}{k B:Nat}(e:c=a++b)(h:epr k c<=B):epr k a<=B:=by
 rw[e,aFx]at h
 exact aUE (aVX _ (aJg b _)) h
def eM:Nat->Nat->Nat
 | _,0=>1
 | k,m+1=>ex k*max (eM k m) (if k<4 then eM (k+1) m else 1)
theorem aTw:∀ m,m<=6->∀ k,k<=4->k+m<=6->eM k m<=72 ^ 47:=by decide
def Few (k:Nat)(b:List NQ):Prop:=∀ a n r,b=a++n::r->k+ka a<=4/\(k+ka a)+(r.length+1)<=6/\(k+ka a=4->mu n=0)
theorem Few.tail {k:Nat}{n:NQ}{r:List NQ}(h:Few k (n::r)):Few (k+mu n) r:=fun a m s e=>by
 have:=h (n::a) m s (by rw[e];rfl)
 rw[ka]at this
 have e2:k+mu n+ka a=k+(mu n+ka a):=by omega
 rw[e2];exact this
theorem aPw:∀ (b:List NQ) (k:Nat),Few k b->epr k b<=eM k b.length
 | [],_,_=>aUI _
 | n::r,k,h=>by
  have ih:=aPw r (k+mu n) h.tail
  obtain⟨h1,h2,h3⟩:=h [] n r rfl
  simp only[ka,aVh]at h1 h2 h3
  rw[epr,aUC,eM]
  refine aUS _ (aUE ih ?_)
  have:=aMz n
  by_cases c:mu n=0
  · rw[c,aVh];exact Nat.le_max_left _ _
  · have c1:mu n=1:=by omega
    have k4:k<4:=by
     by_cases e:k=4
     · exact absurd (h3 e) c
     · omega
    rw[c1,aUs k4];exact Nat.le_max_right _ _
theorem aM0 {b:List NQ}{k:Nat}(h:Few k b):epr k b<=72 ^ 47:=by
 cases b with
 | nil=>show 1<=72 ^ 47;decide
 | cons n r =>
  obtain⟨h1,h2,_⟩:=h [] n r rfl
  simp only[ka,aVh]at h1 h2
  refine aUE (aPw _ _ h) (aTw _ ?_ _ h1 ?_)
  · rw[aUC];omega
  · rw[aUC];omega
theorem aSm {b:List NQ}(h:Few 0 b\/∃ n r,b=n::r/\mu n=0/\Few 0 r):epr 0 b<=PP ^ 3:=by
 rcases h with h | ⟨n,r,rfl,h1,h2⟩
 · exact aUE (aM0 h) (by decide)
 · rw[epr,h1]
   exact aUE (aUS _ (aM0 h2)) (by decide)
structure Co (g:PQ->Q)(gl:QL->Q):Prop where
 par:∀ t a,g (zC t a)=gl a
 lk:∀ {D X:Nat} {y:QL},0<D->Lk D X y->bd X (gl y)/\Dv D (y.w*gl y)/\Dv (nm D y.w) (gl y)
theorem cox:Co (·.x) (·.x):=⟨fun _ _=>rfl,fun hD h=>⟨h.bx,h.sc.2.2.1,(aJr hD h.sc).1⟩⟩
theorem coy:Co (·.y) (·.y):=⟨fun _ _=>rfl,fun hD h=>⟨h.by',h.sc.2.2.2,(aJr hD h.sc).2⟩⟩
def aBo (T M:Nat)(f:Int->Q):Prop:=0<T/\∀ u,Dv T (f u)/\bd M (f u)
def pM (f:Int->Q)(gl:QL->Q)(a:List QL):Q:=sm (fun y=>y.w*(f y.a+gl y)) a
theorem aM5 {g:PQ->Q}{gl:QL->Q}(hg:Co g gl)(f:Int->Q)(t:Q):∀ a:List QL,app f g (a.map (zC t))=pM f gl a / t
 | []=>by simp only[aVy,app,pM,sm];grind
 | x::a=>by
  have ih:=aM5 hg f t a
  unfold pM at ih ⊢
  rw[aUH,app,sm,ih,hg.par]
  unfold zC
  simp only[]
  grind
theorem aMd {g:PQ->Q}{gl:QL->Q}(hg:Co g gl){f:Int->Q}{T M D X:Nat}(hf:aBo T M f)(hD:0<D):∀ a:List QL,(∀ x∈a,Lk D X x)->Dv (D*T) (pM f gl a)/\-((M+X:Nat):Q)*sm wt a<=pM f gl a/\pM f gl a<=((M+X:Nat):Q)*sm wt a
 | [],_=>by
  unfold pM
  simp only[sm]
  exact⟨⟨0,by simp⟩,by grind,by grind⟩
 | y::a,h=>by
  obtain⟨i1,i2,i3⟩:=aMd hg hf hD a (fun x hx=>h x (by simp[hx]))
  have hy:=h y (by simp)
  obtain⟨g1,g2,g3⟩:=hg.lk hD hy
  obtain⟨f1,f2⟩:=hf.2 y.a
  have b:=aFE hy.sc.1 (aDj f2 g1)
  unfold pM at i1 i2 i3 ⊢
  rw[sm,sm]
  have e:y.w*(f y.a+gl y)=y.w*f y.a+y.w*gl y:=by grind
  refine⟨kN ?_ i1,?_,?_⟩
  · rw[e]
    exact kN (sN hy.sc.2.1 f1) (qQ T g2)
  · unfold wt at i2 ⊢;grind
  · unfold wt at i3 ⊢;grind
theorem aMs {g:PQ->Q}{gl:QL->Q}(hg:Co g gl){f:Int->Q}{T M D X:Nat}{v:Int}{a:List QL}(hf:aBo T M f)(h:Arms D X v a){a1:List QL}(h1:∀ x∈a1,Lk D X x)(hle:sm wt a1<=sm wt a) :
 Dv (nm D (sm wt a)*T) (pM f gl a1 / sm wt a)/\bd (M+X) (pM f gl a1 / sm wt a):=by
 have hp:=h.pos
 have hN:=(zN h.hD hp (aAk h.lk)).1
 obtain⟨d1,d2,d3⟩:=aMd hg hf h.hD a1 h1
 have n1:=iO h1
 have nn:=zY (M+X)
 have m2:=aVq nn (b:=sm wt a-sm wt a1) (by grind)
 constructor
 · obtain⟨z,hz⟩:=d1
   refine⟨z,?_⟩
   rw[aVD,hN,<- hz,aVD]
   grind
 · have k1:-((M+X:Nat):Q)*sm wt a<=pM f gl a1:=by
    generalize ((M+X:Nat):Q)=K at *
    grind
   have k2:pM f gl a1<=((M+X:Nat):Q)*sm wt a:=by
    generalize ((M+X:Nat):Q)=K at *
    grind
   exact aG0 hp k1 k2
theorem aDy {g:PQ->Q}{gl:QL->Q}(hg:Co g gl){f:Int->Q}{T M D X:Nat}{v:Int}{a:List QL}(hf:aBo T M f)(h:Arms D X v a){a1 a2:List QL}(e:a=a1++a2) :
 Dv (nm D (sm wt a)*T) (pM f gl a1 / sm wt a)/\bd (M+X) (pM f gl a1 / sm wt a):=by
 have h2:∀ x∈a2,Lk D X x:=fun x hx=>h.lk x (by rw[e];simp[hx])
 have n2:=iO h2
 have es:sm wt a=sm wt a1+sm wt a2:=by rw[e,rI]
 exact aMs hg hf h (fun x hx=>h.lk x (by rw[e];simp[hx])) (by grind)
theorem aJG {g:PQ->Q}{gl:QL->Q}(hg:Co g gl){n:NQ}{r:List NQ}{D X T:Nat}{a:List QL}(e1:n.cond=oQ n.node a)(ha:Arms D X n.node a)(t2:aBo T (800*r.length) (sol g r)):aBo (nm D (sm wt a)*T) (800*(r.length+1)) (sol g (n::r)):=by
 obtain⟨n1,n2⟩:=ha.nN
 obtain⟨p1,p2⟩:=aDy hg t2 ha (a1:=a) (a2:=[]) (by simp)
 have hX:=ha.hX
 refine⟨aU6 n1 t2.1,fun u=>?_⟩
 rw[sol]
 by_cases c:u=n.node
 · rw[aUs c,e1]
   have:(oQ n.node a).ps=a.map (zC (sm wt a)):=rfl
   rw[this,aM5 hg]
   exact⟨p1,aD5 p2 (by omega)⟩
 · rw[aUq c]
   obtain⟨q1,q2⟩:=t2.2 u
   exact⟨xH q1 (aWG _ _),aD5 q2 (by omega)⟩
theorem aDq:∀ (b:List NQ) (k:Nat),aCa k b->∃ T,T<=epr k b/\aBo T (800*b.length) (sol (·.x) b)/\aBo T (800*b.length) (sol (·.y) b)
 | [],k,_=>⟨1,by simp[epr],⟨by omega,fun u=>⟨⟨0,by simp[sol]⟩,by unfold bd;simp[sol]⟩⟩,⟨by omega,fun u=>⟨⟨0,by simp[sol]⟩,by unfold bd;simp[sol]⟩⟩⟩
 | n::r,k,h=>by
  obtain⟨⟨D,X,a,e1,ha,hk⟩,hr⟩:=h
  obtain⟨T,t1,t2,t3⟩:=aDq r (k+mu n) hr
  obtain⟨n1,n2⟩:=ha.nN
  exact⟨nm D (sm wt a)*T,aUX (aUE n2 hk) t1,aJG cox e1 ha t2,aJG coy e1 ha t3⟩
/- Orders of least degrees: the links of a drawn list are tied. -/
def ga (g:Nat->Bool)(u w:Int):Bool:=gf g u.toNat w.toNat
section
variable {l:List QL}{o pre rem r:List Int}{v u w:Int}{b:List NQ}{g h:Nat->Bool}
theorem aFA (hb:Base l o)(hi:TCore l o pre rem b)(h:aB6 l o rem b u w):u∈0::rem/\w∈0::rem:=by
 have e:=hi.split
 rcases h with⟨x,hx,hf,hp⟩ | ⟨c,hc,hu,p1,p2⟩
 · have hv:=(hb.lk x hx).2.1
   have n:=hb.nd
   have h1:∀ u∈o,1<=u:=fun u hu=>(hb.h1 u hu).1
   rw[e]at hv hf n h1
   have:=aSx hv (aEG n h1 hf)
   rcases hp with⟨rfl,rfl⟩ | ⟨rfl,rfl⟩
   · exact⟨this.1,this.2.1⟩
   · exact⟨this.2.1,this.1⟩
 · obtain⟨q,_⟩:=hi.ps c hc hu
   exact⟨q u p1,q w p2⟩
theorem aOV (hb:Base l o)(hi:TInv l o pre (v::r) b){u:Int}(hne:u≠v):u∈psN (nxt l o v b).cond↔aB6 l o (v::r) b v u :=
 ⟨fun hu=>aLs hb hi hne hu,fun h=>(hi.adj hb h (fun e=>hne e.symm)).1 rfl⟩
theorem aPS (hb:Base l o)(hi:TInv l o pre (v::r) b){u w:Int}(hne:u≠w)(hu:u≠v)(hw:w≠v) :
 aB6 l o r (b++[nxt l o v b]) u w↔aB6 l o (v::r) b u w\/(u∈psN (nxt l o v b).cond/\w∈psN (nxt l o v b).cond):=by
 constructor
 · rintro(⟨x,hx,h1,h2⟩ | ⟨c,hc,h1,h2,h3⟩)
   · exact .inl (.inl ⟨x,hx,by simp[h1],h2⟩)
   · rcases aUz.1 hc with hc | hc
     · exact .inl (.inr ⟨c,hc,by simp[h1],h2,h3⟩)
     · rw[aU2.1 hc]at h2 h3
       exact .inr ⟨h2,h3⟩
 · have both:u∈psN (nxt l o v b).cond->w∈psN (nxt l o v b).cond->aB6 l o r (b++[nxt l o v b]) u w:=fun h2 h3=>by
    refine .inr ⟨nxt l o v b,by simp,?_,h2,h3⟩
    by_cases c:u=0
    · exact hi.nxt_up hb h3 (by omega)
    · exact hi.nxt_up hb h2 c
   rintro(h | ⟨h2,h3⟩)
   · rcases(hi.adj hb h hne).2.2 hu hw with⟨h2,h3⟩ | h
     · exact both h2 h3
     · rcases h with⟨x,hx,h⟩ | ⟨c,hc,h⟩
       · exact .inl ⟨x,hx,h⟩
       · exact .inr ⟨c,by simp[hc],h⟩
   · exact both h2 h3
structure GI (l:List QL)(o rem:List Int)(b:List NQ)(g:Nat->Bool):Prop where
 gs:GS g
 sup:∀ x y,x<10->y<10->gf g x y=true->(x:Int)∈0::rem
 adj:∀ u w:Int,u∈0::rem->w∈0::rem->u≠w->(ga g u w=true↔aB6 l o rem b u w)
theorem GS.ofCut (hg:GS g){v:Nat}(c:aKj g h v):GS h:=by
 refine⟨fun x y hx hy=>?_,fun x hx=>?_⟩
 · have a:=c x y hx hy
   have c:=c y x hy hx
   rw[hg.sy y x hy hx]at c
   rw[Bool.eq_iff_iff,a,c]
   constructor
   · rintro⟨h1,h2,h3 | ⟨h3,h4,h5⟩⟩
     · exact⟨h2,h1,.inl h3⟩
     · exact⟨h2,h1,.inr ⟨fun e=>h3 e.symm,h5,h4⟩⟩
   · rintro⟨h1,h2,h3 | ⟨h3,h4,h5⟩⟩
     · exact⟨h2,h1,.inl h3⟩
     · exact⟨h2,h1,.inr ⟨fun e=>h3 e.symm,h5,h4⟩⟩
 · cases e:gf h x x with
   | false=>rfl
   | true =>
    rcases((c x x hx hx).1 e).2.2 with h3 | h3
    · rw[hg.dg x hx]at h3;cases h3
    · exact absurd rfl h3.1
theorem aPi {v:Int}(hr:∀ u∈0::v::r,0<=u/\u<=9)(nd:(0::v::r).Nodup)(c:aKj g h v.toNat):∀ u w,u∈0::r->w∈0::r->(ga h u w=true↔ga g u w=true\/(u≠w/\ga g v u=true/\ga g v w=true)):=by
 have n0:=(aUL.1 nd).1
 have nr:=(aUL.1 (aUL.1 nd).2).1
 have nv:∀ u,u∈0::r->u≠v:=fun u hu e=>by
  rcases aUr.1 hu with h | h
  · exact n0 (by rw[<- h,e];simp)
  · exact nr (e▸h)
 have up:∀ u,u∈0::r->u∈0::v::r:=fun u hu=>by
  rcases aUr.1 hu with h | h <;> simp[h]
 intro u w hu hw
 have u9:=hr u (up u hu)
 have w9:=hr w (up w hw)
 have v9:=hr v (by simp)
 have a1:=nv u hu
 have a2:=nv w hw
 unfold ga
 rw[c u.toNat w.toNat (by omega) (by omega)]
 constructor
 · rintro⟨_,_,h3 | ⟨h3,h4,h5⟩⟩
   · exact .inl h3
   · exact .inr ⟨fun e=>h3 (by rw[e]),h4,h5⟩
 · rintro(h3 | ⟨h3,h4,h5⟩)
   · exact⟨by omega,by omega,.inl h3⟩
   · exact⟨by omega,by omega,.inr ⟨by omega,h4,h5⟩⟩
theorem GI.next (hb:Base l o)(hi:TInv l o pre (v::r) b)(hg:GI l o (v::r) b g)(c:aKj g h v.toNat):GI l o r (b++[nxt l o v b]) h:=by
 obtain⟨n,h1,hv,v1,v9,hl,nV,hV⟩:=hi.facts hb
 refine⟨hg.gs.ofCut c,fun x y hx hy e=>?_,fun u w hu hw hne=>?_⟩
 · obtain⟨h2,h3,h4⟩:=(c x y hx hy).1 e
   have hm:(x:Int)∈0::v::r:=by
    rcases h4 with h4 | ⟨_,h4,_⟩
    · exact hg.sup x y hx hy h4
    · rw[hg.gs.sy _ _ (by omega) hx]at h4
      exact hg.sup x _ hx (by omega) h4
   simp only[aUr]at hm ⊢
   rcases hm with h | h | h
   · exact .inl h
   · exact absurd (by omega) h2
   · exact .inr h
 · have up:∀ u,u∈0::r->u∈0::v::r:=fun u hu=>by
    rcases aUr.1 hu with h | h <;> simp[h]
   have nv:∀ u,u∈0::r->u≠v:=fun u hu e=>by
    rcases aUr.1 hu with h | h
    · omega
    · exact hv (e▸h)
   have vm:v∈0::v::r:=by simp
   rw[aPi hV nV c u w hu hw,aPS hb hi hne (nv u hu) (nv w hw),aOV hb hi (nv u hu),aOV hb hi (nv w hw),hg.adj u w (up u hu) (up w hw) hne,hg.adj v u vm (up u hu) (fun e=>nv u hu e.symm),hg.adj v w vm (up w hw) (fun e=>nv w hw e.symm)]
   constructor
   · rintro(h | ⟨_,h⟩)
     · exact .inl h
     · exact .inr h
   · rintro(h | h)
     · exact .inl h
     · exact .inr ⟨hne,h⟩
theorem aTt (hg:GS g)(hr:∀ u∈0::rem,0<=u/\u<=9):∀ u w,u∈0::rem->w∈0::rem->ga g u w=ga g w u:=fun u w hu hw=>by
 have:=hr u hu
 have:=hr w hw
 exact hg.sy _ _ (by omega) (by omega)
theorem aTu (hg:GS g)(hr:∀ u∈0::rem,0<=u/\u<=9):∀ u,u∈0::rem->ga g u u=false:=fun u hu=>by
 have:=hr u hu
 exact hg.dg _ (by omega)
theorem GI.co (hb:Base l o)(hi:TCore l o pre rem b)(hg:GI l o rem b g):∀ S:Int->Prop,(∃ u∈rem,S u)->¬S 0->∃ u w,S u/\¬S w/\u∈0::rem/\w∈0::rem/\ga g u w=true:=by
 intro S hS h0
 obtain⟨u,w,su,sw,ad⟩:=hi.cut S hS h0
 obtain⟨m1,m2⟩:=aFA hb hi ad
 exact⟨u,w,su,sw,m1,m2,(hg.adj u w m1 m2 (fun e=>sw (e▸su))).2 ad⟩
theorem aRH (hg:GI l o rem b g)(nd:(0::rem).Nodup)(hr:∀ u∈0::rem,0<=u/\u<=9)(hu:u∈0::rem):dg g u.toNat=dgr (ga g) (0::rem) u:=by
 have u9:=hr u hu
 refine Nat.le_antisymm ?_ ?_
 · have n:(((List.range 10).filter (gf g u.toNat)).map fun k:Nat=>(k:Int)).Nodup:=by
    rw[List.Nodup,aVz]
    exact(List.nodup_range.filter _).imp fun {x y} h e=>h (by omega)
   have:=n.length_le_of_subset (l₂:=(0::rem).filter (ga g u)) (fun z hz=>by
    obtain⟨k,hk,rfl⟩:=aUJ.1 hz
    obtain⟨h1,h2⟩:=aUy.1 hk
    rw[aVH]at h1
    refine aUy.2 ⟨hg.sup k u.toNat h1 (by omega) (by rw[hg.gs.sy _ _ h1 (by omega)];exact h2),h2⟩)
   rw[aUM]at this
   exact this
 · have n:(((0::rem).filter (ga g u)).map fun z:Int=>z.toNat).Nodup:=by
    rw[List.Nodup,aVz]
    refine List.Pairwise.imp_of_mem (fun {x y} hx hy h e=>?_) (nd.filter (ga g u))
    have:=hr x (aUy.1 hx).1
    have:=hr y (aUy.1 hy).1
    exact h (by omega)
   have:=n.length_le_of_subset (l₂:=(List.range 10).filter (gf g u.toNat)) (fun z hz=>by
    obtain⟨k,hk,rfl⟩:=aUJ.1 hz
    obtain⟨h1,h2⟩:=aUy.1 hk
    have:=hr k h1
    exact aUy.2 ⟨aVH.2 (by omega),h2⟩)
   rw[aUM]at this
   exact this
theorem aOZ (hb:Base l o)(hi:TInv l o pre (v::r) b){V:List Int}(nV:V.Nodup)(h:∀ u∈psN (nxt l o v b).cond,u∈V):2*(nxt l o v b).msgs.length+V.length<=V.length*V.length:=by
 obtain⟨_,_,hinc⟩:=hi.inc hb
 obtain⟨c1,c2,c3,c4,c5,c6,c7⟩:=aLp (order:=o) hinc
 exact aCe nV c6 (fun x hx=>by
  obtain⟨h1,h2,h3⟩:=aGi hb hi x hx
  exact⟨h _ h1,h _ h2,h3⟩)
def aT2 (l:List QL)(o pre:List Int)(v:Int)(r:List Int):Prop :=
 Cap l o (aD l o pre []) v r/\(ka (aD l o pre [])+(r.length+1)<=6\/(pre=[]/\(nxt l o v []).msgs=[]))/\(nxt l o v (aD l o pre [])).msgs.length<=1
theorem aRK (hb:Base l o):∀ (rem pre:List Int) (g:Nat->Bool),TCore l o pre rem (aD l o pre [])->GI l o rem (aD l o pre []) g->aRa g rem->MI (ga g) rem->(ka (aD l o pre [])+max 2 rem.length<=6\/(pre=[]/\rem.length<=7/\∃ u∈rem,dgr (ga g) (0::rem) u<=1))->
 ∀ p v r,rem=p++v::r->aT2 l o (pre++p) v r
 | [],pre,g,_,_,_,_,_=>fun p v r e=>by simp at e
 | v::r,pre,g,hi,hg,hr,hm,hk=>by
  obtain⟨q1,h,q2,q3⟩:=hr
  have e:=hi.split
  have n:=hb.nd
  have h1:=hb.h1
  rw[e]at n h1
  have hV:∀ u∈0::v::r,0<=u/\u<=9:=fun u hu=>by
   rcases aUr.1 hu with rfl | hu
   · omega
   · have:=h1 u (aU8 _ hu);omega
  have nd:=hm.nd
  have deg:∀ u∈v::r,dgr (ga g) (0::v::r) v<=dgr (ga g) (0::v::r) u:=fun u hu=>by
   rcases aUr.1 hu with rfl | hu
   · exact aUI _
   · have:=q1 u hu
     rw[aRH hg nd hV (by simp),aRH hg nd hV (by simp[hu])]at this
     exact this
  obtain⟨u0,hu0,d2,d1⟩:=hm.low (by simp)
  have dv:=deg u0 hu0
  have v2:dgr (ga g) (0::v::r) v<=2:=by omega
  have v1:r.length<=1->dgr (ga g) (0::v::r) v<=1:=fun h=>by
   have:=d1 (by rw[aUC];omega)
   omega
  have v3:dgr (ga g) (0::v::r) v+1<=r.length+2:=by
   have:=aM2 nd (u:=v) (a:=ga g) (by simp) (hm.ir v (by simp))
   simpa using this
  have nN:(((0:Int)::v::r).filter (ga g v)).Nodup:=nd.filter _
  have inN:∀ u,u≠v->aB6 l o (v::r) (aD l o pre []) v u->u∈((0:Int)::v::r).filter (ga g v):=fun u hne ad=>by
   have m:=(aFA hb hi ad).2
   exact aUy.2 ⟨m,(hg.adj v u (by simp) m (fun e=>hne e.symm)).2 ad⟩
  have len:(((0:Int)::v::r).filter (ga g v)).length=dgr (ga g) (0::v::r) v:=rfl
  have k0:pre=[]->ka (aD l o pre [])=0:=fun e=>by rw[e];rfl
  have cap:Cap l o (aD l o pre []) v r:=by
   refine⟨v::((0:Int)::v::r).filter (ga g v),aUL.2 ⟨fun hm2=>?_,nN⟩,by simp,fun u hu=>?_,fun u hne ad=>aU3 _ (inN u hne ad),?_⟩
   · have:=(aUy.1 hm2).2
     rw[hm.ir v (by simp)]at this;cases this
   · rcases aUr.1 hu with rfl | hu
     · simp
     · exact(aUy.1 hu).1
   · rw[aUC,len]
     unfold KK
     rcases hk with hk | ⟨hk,_⟩
     · rw[aUC]at hk
       by_cases c:r.length<=1
       · have:=v1 c;omega
       · omega
     · have:=k0 hk;omega
  have ti:TInv l o pre (v::r) (aD l o pre []):=⟨hi,fun v' r' e=>by injection e with e1 e2;subst e1;subst e2;exact cap⟩
  have nr:=ti.nxt_rem hb
  have mf:=aOZ hb ti nN (fun u hu=>inN u (nr u hu).2 (aLs hb ti (nr u hu).2 hu))
  rw[len]at mf
  have mz:dgr (ga g) (0::v::r) v<=1->(nxt l o v (aD l o pre [])).msgs=[]:=fun h=>by
   have:(nxt l o v (aD l o pre [])).msgs.length=0:=by
    have:dgr (ga g) (0::v::r) v=0\/dgr (ga g) (0::v::r) v=1:=by omega
    rcases this with e | e <;> rw[e]at mf <;> omega
   exact aUD.1 this
  have mo:(nxt l o v (aD l o pre [])).msgs.length<=1:=by
   have:dgr (ga g) (0::v::r) v=0\/dgr (ga g) (0::v::r) v=1\/dgr (ga g) (0::v::r) v=2:=by omega
   rcases this with e | e | e <;> rw[e]at mf <;> omega
  have first:¬ka (aD l o pre [])+max 2 (r.length+1)<=6->pre=[]/\r.length<=6/\dgr (ga g) (0::v::r) v<=1:=fun h=>by
   rcases hk with hk | ⟨hk,h7,u,hu,du⟩
   · exact absurd hk h
   · rw[aUC]at h7
     exact⟨hk,by omega,aUE (deg u hu) du⟩
  have fine:aT2 l o pre v r:=by
   refine⟨cap,?_,mo⟩
   by_cases c:ka (aD l o pre [])+max 2 (r.length+1)<=6
   · exact .inl (by omega)
   · obtain⟨f1,f2,f3⟩:=first c
     refine .inr ⟨f1,?_⟩
     have:=mz f3
     rw[f1]at this
     exact this
  obtain⟨hi',_,_⟩:=ti.next hb
  have hg':=hg.next hb ti q2
  rw[<- lP]at hi' hg'
  have hm':=hm.step v2 (aPi hV nd q2) (hg'.co hb hi')
  have hk':ka (aD l o (pre++[v]) [])+max 2 r.length<=6:=by
   rw[lP,aJa]
   have ek:ka [nxt l o v (aD l o pre [])]=mu (nxt l o v (aD l o pre [])):=rfl
   have m1:=aMz (nxt l o v (aD l o pre []))
   have m0:dgr (ga g) (0::v::r) v<=1->mu (nxt l o v (aD l o pre []))=0:=fun h=>by unfold mu;rw[mz h];rfl
   rw[ek]
   by_cases c:ka (aD l o pre [])+max 2 (r.length+1)<=6
   · by_cases c1:r.length<=1
     · have:=m0 (v1 c1);omega
     · omega
   · obtain⟨f1,f2,f3⟩:=first c
     have:=m0 f3
     have:=k0 f1
     omega
  have ih:=aRK hb r (pre++[v]) h hi' hg' q3 hm' (.inl hk')
  intro p v' r' e2
  cases p with
  | nil =>
   injection e2 with e3 e4
   subst e3;subst e4
   rw[aVx];exact fine
  | cons x p =>
   injection e2 with e3 e4
   subst e3
   have:=ih p v' r' e4
   rw[aUO]at this
   exact this
end
/- Links that are tied by the order of least degrees. -/
def aTp (l:List QL)(o:List Int):Prop:=o.Nodup/\∀ u,u∈o↔1<=u/\∃ x∈l,x.a=u\/x.b=u
structure Thin (l:List QL):Prop where
 lk:∀ x∈l,LkI x
 len:l.length<=8
 low:∀ x∈l,1<=x.a->∃ y∈l,y.b=x.a
 gr:∀ x∈l,x.a=0->x.b=1
 few:∀ o,aTp l o->o.length<=5\/(l.length<=o.length+2/\(o.length<=6\/∃ u∈o,∃ w,∀ x∈l,(x.a=u->x.b=w)/\(x.b=u->x.a=w)))
theorem aKJ {l:List QL}{o:List Int}(lk:∀ x∈l,LkI x)(mem:∀ u,u∈o↔1<=u/\∃ x∈l,x.a=u\/x.b=u):∀ u∈o,1<=u/\u<=7:=by
 intro u hu
 obtain⟨h1,x,hx,ht⟩:=(mem u).1 hu
 have:=(lk x hx).1
 omega
theorem aPp {o:List Int}(nd:o.Nodup)(h:∀ u∈o,1<=u/\u<=7):o.length<=7:=by
 have:=nd.length_le_of_subset (l₂:=[1,2,3,4,5,6,7]) (fun u hu=>by
  have:=h u hu
  simp only[aUr,aVi,or_false];omega)
 simpa using this
theorem Thin.tie {l:List QL}(h:Thin l):LSet ((aU l [] 0).1.map QL.toL)/\jnP (l.map QL.toL)=some ((aU l [] 0).1.map QL.toL,ofQ (aU l [] 0).2)/\∃ o,fW ((aU l [] 0).1.map QL.toL) []=some o/\Tie l o:=by
 have mem0:∀ u,u∈(aC4.filter fun u=>l.any fun x=>decide (x.a=u\/x.b=u))↔1<=u/\∃ x∈l,x.a=u\/x.b=u:=fun u=>by
  rw[aUy,aGn,aWn]
  constructor
  · rintro⟨h1,x,hx,ht⟩;exact⟨h1.1,x,hx,aU4 ht⟩
  · rintro⟨h1,x,hx,ht⟩
    have:=(h.lk x hx).1
    exact⟨by omega,x,hx,aUu ht⟩
 have hb0:=aJm ((by decide:aC4.Nodup).filter _) mem0 h.lk h.len (aKJ h.lk mem0)
 have hj:=hb0.join.1
 have ls:=(aDc hj).2.1
 refine⟨ls,hj,?_⟩
 obtain⟨g,o,e2,gs,e3,nd,f3,rn⟩:=aQy ls
 refine⟨o,e3,?_⟩
 have mem:∀ u,u∈o↔1<=u/\∃ x∈l,x.a=u\/x.b=u:=by
  intro u
  rw[f3,aGy]
  constructor
  · rintro⟨h1,z,hz,ht⟩
    obtain⟨y,hy,rfl⟩:=aUJ.1 hz
    obtain⟨x,hx,e1,e2⟩:=nK l [] 0 y hy
    have hx:=hx.resolve_left (by simp)
    refine⟨h1.1,x,hx,?_⟩
    rw[e1,e2];exact ht
  · rintro⟨h1,x,hx,ht⟩
    obtain⟨y,hy,e1,e2⟩:=qY l [] 0 x (.inr hx)
    have:=(h.lk x hx).1
    refine⟨by omega,y.toL,aVR hy,?_⟩
    show y.a=u\/y.b=u
    rw[<- e1,<- e2];exact ht
 have five:=aKJ h.lk mem
 have hb:Base l o:=aJm nd mem h.lk h.len five
 have gr:wY l o:=aKn (fun x hx=>by have:=(h.lk x hx).1;omega) mem (fun u hu=>by
  obtain⟨h1,x,hx,ht⟩:=(mem u).1 hu
  rcases ht with rfl | ht
  · exact h.low x hx h1
  · exact⟨x,hx,ht⟩)
 have ti:=TCore.start hb gr
 have o7:=aPp nd five
 have cell:∀ x y:Int,(0<=x/\x<=9)->(0<=y/\y<=9)->(ga g x y=true↔∃ z∈l,(z.a=x/\z.b=y)\/(z.a=y/\z.b=x)):=fun x y hx hy=>by
  unfold ga
  rw[e2 x y hx hy]
  constructor
  · rintro⟨z,hz,ht⟩
    obtain⟨k,hk,rfl⟩:=aUJ.1 hz
    obtain⟨q,hq,q1,q2⟩:=nK l [] 0 k hk
    have hq:=hq.resolve_left (by simp)
    refine⟨q,hq,?_⟩
    rw[q1,q2];exact ht
  · rintro⟨q,hq,ht⟩
    obtain⟨k,hk,q1,q2⟩:=qY l [] 0 q (.inr hq)
    refine⟨k.toL,aVR hk,?_⟩
    show(k.a=x/\k.b=y)\/(k.a=y/\k.b=x)
    rw[<- q1,<- q2];exact ht
 have own:∀ x∈l,aP o [x.a,x.b]∈o:=fun x hx=>by
  have hbm:x.b∈o:=(mem _).2 ⟨by have:=(h.lk x hx).1;omega,x,hx,.inr rfl⟩
  rcases aBY (s:=[x.a,x.b]) (fun u hu=>(hb.h1 u hu).1)with⟨_,h4⟩ | ⟨p,v,r,e,h2,h3,h4⟩
  · exact absurd (by simp) (h4 _ hbm)
  · rw[h2,e];simp
 have ends:∀ x∈l,x.a∈0::o/\x.b∈0::o:=fun x hx=>⟨(hb.lk x hx).2.1.1,(hb.lk x hx).2.1.2.1⟩
 have h09:∀ u∈0::o,0<=u/\u<=9:=fun u hu=>by
  rcases aUr.1 hu with rfl | hu
  · omega
  · have:=five u hu;omega
 have n0:(0::o).Nodup:=aUL.2 ⟨fun h=>by have:=five 0 h;omega,nd⟩
 have gi:GI l o o [] g:=⟨gs,fun x y hx hy e=>by
  obtain⟨z,hz,ht⟩:=(cell (x:Int) (y:Int) (by omega) (by omega)).1 (by unfold ga;rw[aFc,aFc];exact e)
  have:=ends z hz
  rcases ht with⟨t1,t2⟩ | ⟨t1,t2⟩
  · rw[<- t1];exact this.1
  · rw[<- t2];exact this.2,fun u w hu hw hne=>by
  rw[cell u w (h09 u hu) (h09 w hw)]
  constructor
  · rintro⟨z,hz,ht⟩;exact .inl ⟨z,hz,own z hz,ht⟩
  · rintro(⟨z,hz,_,ht⟩ | ⟨c,hc,_⟩)
    · exact⟨z,hz,ht⟩
    · simp at hc⟩
 have klen:∀ pre v r,o=pre++v::r->ka (aD l o pre [])<=pre.length/\pre.length+(r.length+1)=o.length:=fun pre v r e=>by
  constructor
  · have:=aPc (aD l o pre [])
    rw[sO]at this
    simpa using this
  · have:=congrArg List.length e
    simp only[aUF,aUC]at this
    omega
 rcases h.few o ⟨nd,mem⟩with c | ⟨c1,c2⟩
 · exact { nd := nd, mem := mem, lk := h.lk, len := h.len, gr := gr
           cap:=fun pre v r e=>by
            obtain⟨k1,k2⟩:=klen pre v r e
            have nn:(0::v::r).Nodup:=by
             have:=n0
             rw[e]at this
             refine aUL.2 ⟨fun h=>(aUL.1 this).1 (aU8 _ h),(aUQ.1 (aUL.1 this).2).2.1⟩
            have tc:∀ n p r,p.length=n->o=p++r->r.length+2<=7->TCore l o p r (aD l o p []):=by
             intro n
             induction n with
             | zero =>
              intro p r hn e _
              have:p=[]:=aUD.1 hn
              subst this
              rw[aUx]at e
              subst e
              exact ti
             | succ n ih =>
              intro p r hn e hr
              rcases aVT p with rfl | ⟨q,v,rfl⟩
              · simp at hn
              · rw[aVU]at hn e ⊢
                have e2:o=q++v::r:=by rw[e,aUO];rfl
                obtain⟨k1,k2⟩:=klen q v r e2
                have t:=ih q (v::r) (by simpa using hn) e2 (by rw[aUC];omega)
                have nn:(0::v::r).Nodup:=by
                 have:=n0
                 rw[e2]at this
                 refine aUL.2 ⟨fun h=>(aUL.1 this).1 (aU8 _ h),(aUQ.1 (aUL.1 this).2).2.1⟩
                have tv:TInv l o q (v::r) (aD l o q []):=⟨t,fun v' r' e=>by
                 injection e with e3 e4
                 subst e3;subst e4
                 refine⟨0::v::r,nn,by simp,fun u hu=>hu,fun u _ ad=>(aFA hb t ad).2,?_⟩
                 unfold KK
                 simp only[aUC]
                 omega⟩
                rw[lP]
                exact(tv.next hb).1
            refine⟨0::v::r,nn,by simp,fun u hu=>hu,fun u _ ad=>(aFA hb (tc pre.length pre (v::r) rfl e (by rw[aUC];omega)) ad).2,?_⟩
            unfold KK
            simp only[aUC]
            omega
           few:=fun pre v r e=>by
            obtain⟨k1,k2⟩:=klen pre v r e
            exact .inl (by omega)
           sml:=.inl c }
 · by_cases c5:o=[]
   · exact { nd:=nd,mem:=mem,lk:=h.lk,len:=h.len,gr:=gr,cap:=fun pre v r e=>by rw[c5]at e;simp at e,few:=fun pre v r e=>by rw[c5]at e;simp at e,sml:=.inl (by rw[c5];simp) }
   have mi:MI (ga g) o:=⟨n0,aTt gs h09,aTu gs h09,by
    have nf:((0::o).filter (ga g 0)).Nodup:=n0.filter _
    have:=nf.length_le_of_subset (l₂:=[1]) (fun u hu=>by
     obtain⟨h1,h2⟩:=aUy.1 hu
     obtain⟨z,hz,ht⟩:=(cell 0 u (by omega) (h09 u h1)).1 h2
     have lz:=(h.lk z hz).1
     have gz:=h.gr z hz
     rw[aU2]
     omega)
    exact this,gi.co hb ti,by
    have s1:=(aEp (a:=ga g) n0).length_le_of_subset (l₂:=l.flatMap fun z=>[(z.a,z.b),(z.b,z.a)]) (fun p hp=>by
     obtain⟨h1,h2,h3⟩:=aCl.1 hp
     obtain⟨z,hz,ht⟩:=(cell p.1 p.2 (h09 _ h1) (h09 _ h2)).1 h3
     refine aVN.2 ⟨z,hz,?_⟩
     obtain⟨p1,p2⟩:=p
     simp only[aUr,aVi,or_false,Prod.mk.injEq]
     simp only at ht
     omega)
    have s2:∀ l:List QL,(l.flatMap fun z=>[(z.a,z.b),(z.b,z.a)]).length=2*l.length:=by
     intro l
     induction l with
     | nil=>rfl
     | cons x l ih=>rw[aVc,aUF,ih,aUC];simp only[aUC,aVu];omega
    rw[s2]at s1
    omega⟩
   have fine:=aRK hb o [] g ti gi rn mi (by
    have k0:ka (aD l o [] [])=0:=rfl
    rw[k0]
    rcases c2 with c2 | ⟨u,hu,w,hw⟩
    · exact .inl (by omega)
    · refine .inr ⟨rfl,o7,u,hu,?_⟩
      have nf:((0::o).filter (ga g u)).Nodup:=n0.filter _
      have:=nf.length_le_of_subset (l₂:=[w]) (fun x hx=>by
       obtain⟨h1,h2⟩:=aUy.1 hx
       obtain⟨z,hz,ht⟩:=(cell u x (h09 _ (by simp[hu])) (h09 _ h1)).1 h2
       have:=hw z hz
       rw[aU2]
       omega)
      exact this)
   exact { nd := nd, mem := mem, lk := h.lk, len := h.len, gr := gr
           cap:=fun pre v r e=>(fine pre v r e).1
           few:=fun pre v r e=>(fine pre v r e).2.1
           sml:=.inr fun pre v r e=>(fine pre v r e).2.2 }
/- The links of a drawn factor list: the program. -/
def zR (l:List Factor)(f:Factor)(q:QL):Prop:=if f.fKind=1 then q.a=0/\q.b=nd l f.fTo else(q.a=nd l f.fFrom/\q.b=nd l f.fTo)\/(q.a=nd l f.fTo/\q.b=nd l f.fFrom)
theorem aOS {a b w x y:Int}(ha:0<=a/\a<=7)(hb:0<=b/\b<=7)(hab:a≠b)(hw:1<=w/\w<=9)(hx:-50<=x/\x<=50)(hy:-50<=y/\y<=50):∃ q:QL,aOT a b w x y=(q.toL,true)/\LkI q/\((q.a=a/\q.b=b)\/(q.a=b/\q.b=a))/\(a=0->q.a=0/\q.b=b):=by
 have ok:okN a b w x y:=⟨by omega,by omega,hab,by omega,by omega,by omega⟩
 unfold aOT
 rw[aUs ok]
 by_cases c:b<a
 · rw[aUs c,aBG (z:=w) (by omega),aBG (z:=0-x) (by omega),aBG (z:=0-y) (by omega)]
   exact⟨⟨b,a,(w:Q),((0-x:Int):Q),((0-y:Int):Q)⟩,rfl,⟨⟨hb.1,c,ha.2⟩,w,0-x,0-y,hw,by omega,by omega,rfl,rfl,rfl⟩,.inr ⟨rfl,rfl⟩,fun h=>by omega⟩
 · rw[aUq c,aBG (z:=w) (by omega),aBG (z:=x) (by omega),aBG (z:=y) (by omega)]
   exact⟨⟨a,b,(w:Q),(x:Q),(y:Q)⟩,rfl,⟨⟨ha.1,by simp only[];omega,hb.2⟩,w,x,y,hw,hx,hy,rfl,rfl,rfl⟩,.inl ⟨rfl,rfl⟩,fun h=>⟨h,rfl⟩⟩
section
variable {n:Int}{l:List Factor}
theorem aMR (h:GenL n l){f:Factor}(hf:f∈l):(1<=f.fWeight/\f.fWeight<=9)/\(-50<=f.fPose.fX/\f.fPose.fX<=50)/\(-50<=f.fPose.fY/\f.fPose.fY<=50)/\f.fTo∈aY l/\(f.fKind=1\/(f.fKind≠1/\∃ k:Nat,(k:Int)<=n/\f.fFrom=pN (k:Int)/\f.fFrom∈aY l/\f.fFrom≠f.fTo)):=by
 have hn:=h.1
 have fc:=sY (wR h hf).1
 have tm:=aGs hf fc.2.2.2.2.2.1
 obtain⟨j,hj,_,c⟩:=h.cases hf
 rcases c with⟨c,g1,g2,⟨g3,g4,g5⟩,g6⟩ | ⟨c,g1,g2,⟨g3,g4,g5⟩,i,i1,i2,i3⟩
 · refine⟨g2,by omega,by omega,tm,?_⟩
   by_cases z:j=0
   · rw[aUs z]at g6;exact .inl g6.1
   · rw[aUq z]at g6
     refine .inr ⟨by omega,j-1,by omega,?_,aA0 hf (fc.2.2.2.2.2.2.2.2.1 (by omega)),fc.2.2.2.2.2.2.2.2.2 (.inl g6.1)⟩
     rw[g6.2.1];congr 1;omega
 · refine⟨g2,g4,g5,tm,.inr ?_⟩
   rcases i3 with⟨k1,k,k2,k3,k4⟩ | ⟨k1,k2,b,k3,k4⟩
   · refine⟨by omega,i.toNat,by omega,?_,aA0 hf (fc.2.2.2.2.2.2.2.2.1 (by omega)),fc.2.2.2.2.2.2.2.2.2 (.inr k1)⟩
     rw[i2];congr 1;omega
   · refine⟨by omega,i.toNat,by omega,?_,aA0 hf (fc.2.2.2.2.2.2.2.2.1 (by omega)),?_⟩
     · rw[i2];congr 1;omega
     · rw[i2,k4];exact fun e=>aJ8 e.symm
theorem aSf (h:GenL n l){f:Factor}(hf:f∈l):∃ q:QL,dM l f=some (q.toL,true)/\LkI q/\zR l f q:=by
 have hn:=h.1
 have hl:=h.2.2.1
 obtain⟨hw,hx,hy,tm,c⟩:=aMR h hf
 obtain⟨gg,gb,_⟩:=wR h hf
 have n7:=(aCs h).2
 have rt:=aEu h tm
 unfold dM
 rw[aCr l (by omega) (aDY h),aJy f gb,aI2 h,aI2 h]
 simp only[aGT h,gg,aUp,aUK,aVj,aUv,aUT]
 rw[aUq (by omega)]
 rcases c with k1 | ⟨k1,k,hk,e1,fm,ne⟩
 · rw[aUs k1,yU]
   obtain⟨q,q1,q2,_,q3⟩:=aOS (a:=0) (b:=nd l f.fTo) (by omega) (by omega) (by omega) hw hx hy
   refine⟨q,by rw[q1];rfl,q2,?_⟩
   unfold zR
   rw[aUs k1];exact q3 rfl
 · have rf:=aEu h fm
   have nn:nd l f.fFrom≠nd l f.fTo:=fun e=>ne (aOU h fm tm e)
   rw[aUq k1,aUq (by omega)]
   have fin:∀ x y:Int,(-50<=x/\x<=50)->(-50<=y/\y<=50)->∃ q:QL,aOT (nd l f.fFrom) (nd l f.fTo) f.fWeight x y=(q.toL,true)/\LkI q/\zR l f q:=fun x y hx hy=>by
    obtain⟨q,q1,q2,q3,_⟩:=aOS (a:=nd l f.fFrom) (b:=nd l f.fTo) (by omega) (by omega) nn hw hx hy
    refine⟨q,q1,q2,?_⟩
    unfold zR
    rw[aUq k1];exact q3
   obtain⟨v,ev,S⟩:=aQQ h
   have hd:mV l f.fFrom=some (Tn l k):=by
    rw[aKZ l f.fFrom (by omega) (aDY h) (aGT h) v ev S.ok.len (yJ fm)]
    congr 1
    rw[e1]
    exact S.val k (by omega)
   have tn:=aLZ h k hk
   have rot:oX f.fPose.fX f.fPose.fY (Tn l k)=some (rtN (Tn l k).toNat f.fPose.fX f.fPose.fY):=by
    obtain⟨r,r1,r2⟩:=aTf f.fPose.fX f.fPose.fY (Tn l k)
    rw[aOp _ _ _ tn (by omega) (by omega)]at r1
    rw[r2,<- r1]
   have rb:=aHP (B:=50) (Tn l k).toNat f.fPose.fX f.fPose.fY hx hy
   have c0:(if f.fPose.fX≠0 then some true else some (decide (f.fPose.fY≠0)):Option Bool)=some (decide (f.fPose.fX≠0\/f.fPose.fY≠0)):=by
    by_cases a:f.fPose.fX=0 <;> by_cases b:f.fPose.fY=0 <;> simp[a,b]
   rw[c0]
   simp only[aUp]
   by_cases z:f.fPose.fX≠0\/f.fPose.fY≠0
   · rw[aUu z,aUs rfl,hd]
     simp only[aUp]
     rw[aUq (by omega),rot]
     simp only[aUp]
     obtain⟨q,q1,q2,q3⟩:=fin _ _ rb.1 rb.2
     exact⟨q,by rw[yU,q1];rfl,q2,q3⟩
   · rw[aUt z]
     simp only[aUv,aUT,aUp]
     obtain⟨q,q1,q2,q3⟩:=fin _ _ hx hy
     exact⟨q,by rw[yU,q1];rfl,q2,q3⟩
theorem aMM {α:Type}{P:Nat->α->Prop}:∀ n:Nat,(∀ j,j<n->∃ q,P j q)->∃ ql:List α,ql.length=n/\∀ j (hj:j<ql.length),P j ql[j]
 | 0,_=>⟨[],rfl,fun j hj=>by simp at hj⟩
 | n+1,h=>by
  obtain⟨ql,e1,e2⟩:=aMM n fun j hj=>h j (by omega)
  obtain⟨q,hq⟩:=h n (by omega)
  refine⟨ql++[q],by rw[aUF,e1];rfl,fun j hj=>?_⟩
  rw[aUF,aU5]at hj
  by_cases c:j<ql.length
  · rw[List.getElem_append_left c];exact e2 j c
  · have:j=ql.length:=by omega
    subst this
    simp only[List.getElem_concat_length]
    rw[e1];exact hq
theorem aQN (h:GenL n l):∃ ql:List QL,ql.length=l.length/\nT l []=some (ql.map QL.toL,true)/\∀ j (hj:j<l.length) (hq:j<ql.length),dM l l[j]=some ((ql[j]).toL,true)/\LkI ql[j]/\zR l l[j] ql[j]:=by
 have hn:=h.1
 have hl:=h.2.2.1
 obtain⟨ql,e1,e2⟩:=aMM (P:=fun j (q:QL)=>∀ hj:j<l.length,dM l l[j]=some (q.toL,true)/\LkI q/\zR l l[j] q) l.length (fun j hj=>by
  obtain⟨q,hq⟩:=aSf h (aUA hj)
  exact⟨q,fun _=>hq⟩)
 refine⟨ql,e1,?_,fun j hj hq=>e2 j hq hj⟩
 have main:∀ m k:Nat,m+k=l.length->lp (kT l []) ((k:Int),(ql.take k).map QL.toL)=some (.inl (ql.map QL.toL)):=by
  intro m
  induction m with
  | zero =>
   intro k hk
   have:k=ql.length:=by omega
   subst this
   rw[aV1]
   exact aG (by unfold kT;simp only[];rw[aUq (by omega)])
  | succ m ih =>
   intro k hk
   have hlt:k<l.length:=by omega
   have hq:k<ql.length:=by omega
   have ht:ql.take (k+1)=ql.take k++[ql[k]]:=by rw[aV4,aUG hq];rfl
   have st:kT l [] ((k:Int),(ql.take k).map QL.toL)=some (.inl (((k+1:Nat):Int),(ql.take (k+1)).map QL.toL)):=by
    unfold kT
    simp only[]
    rw[aUs (by omega),aH hlt]
    simp only[aUp]
    rw[yW [] _ (by simp)]
    simp only[aUp]
    rw[aUq (by simp),(e2 k hq hlt).1]
    simp only[aUp,aUK]
    rw[aI (by rw[aUM,aVp];omega),wi (n:=(k:Int)+1) (by omega),ht,aVE]
    rfl
   rw[aO st]
   exact ih (k+1) (by omega)
 have:=main l.length 0 (by omega)
 rw[aWr]at this
 unfold nT
 rw[aCr l (by omega) (aDY h)]
 simp only[aUp,aGT h,aUK]
 rw[show(((0:Nat):Int),List.map QL.toL [])=((0:Int),([]:List Link))from rfl]at this
 rw[this]
 rfl
end
/- The links of a drawn factor list are thin. -/
section
variable {n:Int}{l:List Factor}
theorem aTo (h:GenL n l){f:Factor}(hf:f∈l)(k:f.fKind=1):f.fTo=pN 0:=by
 obtain⟨j,hj,_,c⟩:=h.cases hf
 rcases c with⟨c,g1,g2,_,g6⟩ | ⟨c,g1,g2,_,i,i1,i2,i3⟩
 · by_cases z:j=0
   · rw[aUs z]at g6;exact g6.2.2
   · rw[aUq z]at g6;have:=g6.1;omega
 · rcases i3 with⟨k1,_⟩ | ⟨k1,_⟩ <;> omega
theorem aAz (h:GenL n l){f:Factor}(hf:f∈l){q:QL}(he:zR l f q):(q.a=0/\q.b=1)\/(f.fKind≠1/\∃ k:Nat,(k:Int)<=n/\f.fFrom=pN (k:Int)/\nd l f.fFrom=(k:Int)+1/\f.fTo∈aY l/\1<=nd l f.fTo/\((q.a=(k:Int)+1/\q.b=nd l f.fTo)\/(q.a=nd l f.fTo/\q.b=(k:Int)+1))):=by
 have hn:=h.1
 obtain⟨_,_,_,tm,c⟩:=aMR h hf
 unfold zR at he
 rcases c with k1 | ⟨k1,k,hk,e1,fm,ne⟩
 · rw[aUs k1,aTo h hf k1]at he
   have e0:=aQE h (k:=0) (by omega)
   have e0':nd l (pN 0)=1:=e0
   rw[e0']at he
   exact .inl he
 · rw[aUq k1]at he
   have e:=aQE h hk
   rw[<- e1]at e
   refine .inr ⟨k1,k,hk,e1,e,tm,(aEu h tm).1,?_⟩
   rw[e]at he
   exact he
theorem aMx (h:GenL n l){s:ByteArray}(hs:s∈aY l):∃ f∈l,(f.fKind≠1/\f.fFrom=s)\/f.fTo=s:=by
 refine aCk (Q:=fun s=>∃ f∈l,(f.fKind≠1/\f.fFrom=s)\/f.fTo=s) l [] (by simp) (fun f hf=>⟨fun e=>⟨f,hf,.inl ⟨fun k=>?_,rfl⟩⟩,⟨f,hf,.inr rfl⟩⟩) s hs
 exact e ((sY (wR h hf).1).2.2.2.2.2.2.2.1 k)
theorem aRZ (h:GenL n l){ql:List QL}(e1:ql.length=l.length)(e2:∀ j (hj:j<l.length) (hq:j<ql.length),LkI ql[j]/\zR l l[j] ql[j]):Thin ql:=by
 have hn:=h.1
 have hl:=h.2.1
 have hl4:=h.2.2.1
 obtain⟨nn,n7⟩:=aCs h
 have at':∀ x∈ql,∃ j,∃ hj:j<l.length,∃ hq:j<ql.length,x=ql[j]/\LkI x/\zR l l[j] x:=fun x hx=>by
  obtain⟨j,hq,rfl⟩:=aVv hx
  exact⟨j,by omega,hq,rfl,e2 j (by omega) hq⟩
 refine⟨fun x hx=>?_,by omega,fun x hx ha=>?_,fun x hx ha=>?_,fun o ho=>?_⟩
 · obtain⟨_,_,_,_,g,_⟩:=at' x hx;exact g
 · obtain⟨j,hj,hq,_,lk,en⟩:=at' x hx
   have lt:=lk.1
   have am:x.a<=n+1:=by
    rcases aAz h (aUA hj) en with⟨a,b⟩ | ⟨_,k,hk,_,_,_,_,c⟩
    · omega
    · omega
   by_cases c:x.a=1
   · have h0:0<l.length:=by omega
     obtain⟨lk0,en0⟩:=e2 0 h0 (by omega)
     refine⟨ql[0],aUA _,?_⟩
     rcases aAz h (aUA h0) en0 with⟨a,b⟩ | ⟨k1,_⟩
     · rw[b,c]
     · obtain⟨_,_,_,o⟩:=(h.2.2.2 0 h0).1 (by omega)
       rw[aUs rfl]at o
       exact absurd o.1 k1
   · have hi:(x.a-1).toNat<l.length:=by omega
     obtain⟨lk1,en1⟩:=e2 _ hi (by omega)
     refine⟨ql[(x.a-1).toNat],aUA _,?_⟩
     obtain⟨_,_,_,o⟩:=(h.2.2.2 _ hi).1 (by omega)
     rw[aUq (by omega)]at o
     have lt1:=lk1.1
     have t1:=aQE h (k:=(x.a-1).toNat) (by omega)
     rw[<- o.2.2]at t1
     have f1:=aQE h (k:=(x.a-1).toNat-1) (by omega)
     have ef:(((x.a-1).toNat-1:Nat):Int)=(((x.a-1).toNat:Nat):Int)-1:=by omega
     rw[ef,<- o.2.1]at f1
     unfold zR at en1
     rw[aUq (by omega),t1,f1]at en1
     omega
 · obtain⟨j,hj,hq,_,lk,en⟩:=at' x hx
   rcases aAz h (aUA hj) en with⟨a,b⟩ | ⟨_,k,hk,_,_,_,_,c⟩
   · exact b
   · omega
 · obtain⟨nd0,mem⟩:=ho
   have mem':∀ u,u∈o↔1<=u/\u<=(aY l).length:=fun u=>by
    rw[mem]
    constructor
    · rintro⟨u1,x,hx,ht⟩
      obtain⟨j,hj,hq,_,lk,en⟩:=at' x hx
      have p0:=(aBI h (k:=0) (by omega)).1
      refine⟨u1,?_⟩
      rcases aAz h (aUA hj) en with⟨a,b⟩ | ⟨_,k,hk,_,_,tm,_,c⟩
      · omega
      · have r1:=(aEu h tm).2
        have r2:=(aBI h hk).1
        omega
    · rintro⟨u1,u2⟩
      refine⟨u1,?_⟩
      have hi:(u-1).toNat<(aY l).length:=by omega
      have e:=aMy nn hi
      obtain⟨f,hf,hs⟩:=aMx h (aUA hi)
      obtain⟨j,hj,rfl⟩:=aVv hf
      refine⟨ql[j],aUA (by omega),?_⟩
      have en:=(e2 j hj (by omega)).2
      unfold zR at en
      have eu:nd l (aY l)[(u-1).toNat]=u:=by unfold nd;omega
      rcases hs with⟨k1,hs⟩ | hs
      · rw[aUq k1,hs,eu]at en
        omega
      · rw[hs,eu]at en
        split at en <;> omega
   have ol:o.length=(aY l).length:=by
    have e:=aH0 (a:=o) (b:=(List.range (aY l).length).map fun k:Nat=>(k:Int)+1) nd0 (by
     rw[List.Nodup,aVz]
     exact List.nodup_range.imp fun {x y} h e=>h (by omega)) (fun u=>by
     rw[mem',aUJ]
     constructor
     · rintro⟨u1,u2⟩
       exact⟨(u-1).toNat,aVH.2 (by omega),by omega⟩
     · rintro⟨k,hk,rfl⟩
       rw[aVH]at hk
       omega)
    rw[e];simp
   have pn:=(aBI h (k:=n.toNat) (by omega)).1
   by_cases c:(aY l).length=n.toNat+1
   · exact .inl (by omega)
   · refine .inr ⟨by omega,?_⟩
     by_cases c7:(aY l).length<=6
     · exact .inl (by omega)
     · right
       have in7:∀ s∈aY l,s∈aBc:=aCk (Q:=fun s=>s∈aBc) l [] (by simp) (fun f hf=>by
        obtain⟨_,_,a,b⟩:=wR h hf
        exact⟨fun e=>a.resolve_left e,b⟩)
       have all7:∀ s∈aBc,s∈aY l:=fun s hs=>Classical.byContradiction fun hc=>by
        have:=aI9 (a:=s::aY l) (b:=aBc) (aUL.2 ⟨hc,nn⟩) (fun x hx=>by
         rcases aUr.1 hx with rfl | hx
         · exact hs
         · exact in7 x hx)
        rw[aUC]at this
        have e7:aBc.length=7:=rfl
        omega
       have one:∀ b:Int,(0<=b/\b<=1)->(∀ i j (hi:i<l.length) (hj:j<l.length),(l[i]).fTo=mN b->(l[j]).fTo=mN b->i=j)->∃ u∈o,∃ w,∀ x∈ql,(x.a=u->x.b=w)/\(x.b=u->x.a=w):=fun b hb uq=>by
        have bm:mN b∈aY l:=all7 _ (aTn hb)
        have bn:=aUb h bm
        have br:=aEu h bm
        obtain⟨f,hf,hs⟩:=aMx h bm
        obtain⟨j0,hj0,rfl⟩:=aVv hf
        have hto:(l[j0]).fTo=mN b:=by
         rcases hs with⟨k1,hs⟩ | hs
         · obtain⟨_,_,_,_,c⟩:=aMR h (aUA hj0)
           rcases c with c | ⟨_,k,_,e,_⟩
           · exact absurd c k1
           · exact(aJ8 (hs.symm.trans e)).elim
         · exact hs
        refine⟨nd l (mN b),(mem' _).2 br,nd l (l[j0]).fFrom,fun x hx=>?_⟩
        obtain⟨j,hj,hq,_,lk,en⟩:=at' x hx
        rcases aAz h (aUA hj) en with⟨a,b⟩ | ⟨_,k,hk,ef,e3,tm,_,c⟩
        · omega
        · have:(x.a=nd l (mN b)\/x.b=nd l (mN b))->j=j0:=fun hx=>by
           refine uq j j0 hj hj0 (aOU h tm bm ?_) hto
           omega
          constructor
          · intro hx
            have:=this (.inl hx)
            subst this
            omega
          · intro hx
            have:=this (.inr hx)
            subst this
            omega
       have late:∀ (b:Int) i (hi:i<l.length),(l[i]).fTo=mN b->n<(i:Int):=fun b i hi e=>by
        refine Classical.byContradiction fun c=>?_
        obtain⟨_,_,_,o⟩:=(h.2.2.2 i hi).1 (by omega)
        by_cases z:i=0
        · rw[aUs z]at o;exact aJ8 (e.symm.trans o.2.2)
        · rw[aUq z]at o;exact aJ8 (e.symm.trans o.2.2)
       by_cases u0:∀ i j (hi:i<l.length) (hj:j<l.length),(l[i]).fTo=mN 0->(l[j]).fTo=mN 0->i=j
       · exact one 0 (by omega) u0
       · refine one 1 (by omega) fun i j hi hj ti tj=>Classical.byContradiction fun ne=>?_
         refine u0 fun i' j' hi' hj' ti' tj'=>Classical.byContradiction fun ne'=>?_
         have d:∀ a b (ha:a<l.length) (hb:b<l.length),(l[a]).fTo=mN 0->(l[b]).fTo=mN 1->a≠b:=fun a b ha hb e1 e2 e=>by
          subst e
          have:mN 0=mN 1:=e1.symm.trans e2
          exact absurd this (by decide)
         have d1:=d i' i hi' hi ti' ti
         have d2:=d i' j hi' hj ti' tj
         have d3:=d j' i hj' hi tj' ti
         have d4:=d j' j hj' hj tj' tj
         have:=late 0 i' hi' ti'
         have:=late 0 j' hj' tj'
         have:=late 1 i hi ti
         have:=late 1 j hj tj
         omega
end
/- A conditional applied: the program. -/
theorem aDv {p q:Q}(hp:bN p)(hq:bN q)(h:bN (p+q)):bP (ofQ p) (ofQ q)=some (ofQ (p+q)):=by
 have e:=(aBp (jZ hp) (jZ hq)).2.1
 rw[aHn hp hq h]at e;exact e
theorem aF4 {p q:Q}(hp:bN p)(hq:bN q)(h:bN (p*q)):bU (ofQ p) (ofQ q)=some (ofQ (p*q)):=by
 have e:=(aEJ (jZ hp) (jZ hq)).2.1
 rw[aFn hp hq h]at e;exact e
theorem aQz {p:Q}(hp:bN p):fU (ofQ p)=some true:=by
 have:=nC (jZ hp)
 rw[aAG _ (by omega),aUu (tY hp)]
theorem aEF {p:Q}(hp:bN p):cA (ofQ p)=some true:=by
 rw[hY (jZ hp),aUu (tY hp)]
theorem aHg {p q:Q}(hp:bN p)(hq:bN q)(h:bN (p+q)):qL (ofQ p) (ofQ q)=some (ofQ (p+q)):=by
 unfold qL
 rw[aQz hp,aQz hq]
 simp only[aUp,aUK,aVj,aUv,aUT]
 rw[aDv hp hq h]
 rfl
theorem aMc:mJ=some ⟨ofQ 0,ofQ 0⟩:=by
 unfold mJ
 rw[bS 0 (by omega)]
 simp only[aUp,aBq]
def ptQ (fx fy:Int->Q)(u:Int):Point:=⟨ofQ (fx u),ofQ (fy u)⟩
theorem aKs {T B:Nat}{q:Q}(hT:0<T)(h:Dv T q)(hb:bd B q)(hB:B<=20000)(t:T<=PP ^ 6):bN q:=cS (B:=20000) hT h (aD5 hb hB) (by omega) (by omega) t
theorem aN4 (f:Int->Q)(gl:QL->Q)(a b:List QL):pM f gl (a++b)=pM f gl a+pM f gl b:=rI _ _ _
theorem aMt {g:PQ->Q}{gl:QL->Q}(hg:Co g gl){f:Int->Q}{T M D X:Nat}{v:Int}{a:List QL}(hf:aBo T M f)(hT:T<=PP ^ 3)(hM:M<=8000)(h:Arms D X v a){a1:List QL}{y:QL}{a2:List QL}(e:a=a1++y::a2) :
 bN (f y.a)/\bN (gl y)/\bN (f y.a+gl y)/\bN (y.w / sm wt a)/\bN (y.w / sm wt a*(f y.a+gl y))/\bN (pM f gl a1 / sm wt a)/\bN (pM f gl a1 / sm wt a+y.w / sm wt a*(f y.a+gl y))/\pM f gl a1 / sm wt a+y.w / sm wt a*(f y.a+gl y)=pM f gl (a1++[y]) / sm wt a:=by
 have hy:y∈a:=by rw[e];simp
 have ly:=h.lk y hy
 obtain⟨g1,g2,g3⟩:=hg.lk h.hD ly
 obtain⟨f1,f2⟩:=hf.2 y.a
 obtain⟨s1,s2,s3⟩:=aBC h hy
 obtain⟨n1,n2⟩:=h.nN
 have hP:=h.hP
 have hX:=h.hX
 have nP:nm D (sm wt a)<=PP ^ 1:=by rw[aVQ];omega
 have yP:nm D y.w<=PP ^ 1:=by have:=aDB (W:=72) h.hD ly.sc.1 ly.sc.2.1 (h.le hy);rw[aVQ];omega
 have yN:=(zN h.hD ly.sc.1 ly.sc.2.1).2
 have e1:y.w / sm wt a*(f y.a+gl y)=pM f gl [y] / sm wt a:=by
  unfold pM
  simp only[sm]
  grind
 obtain⟨q1,q2⟩:=aMs hg hf h (a1:=[y]) (by simpa using ly) (by have:=wZ h.lk hy;simp only[sm];unfold wt at *;grind)
 obtain⟨r1,r2⟩:=aDy hg hf h (a1:=a1) (a2:=y::a2) e
 obtain⟨t1,t2⟩:=aDy hg hf h (a1:=a1++[y]) (a2:=a2) (by rw[e];simp)
 have e2:pM f gl a1 / sm wt a+y.w / sm wt a*(f y.a+gl y)=pM f gl (a1++[y]) / sm wt a:=by
  rw[e1,aN4]
  have:=h.pos
  grind
 have NT:=iB (tW nP hT) (b:=6) (by omega)
 have NT0:=aU6 n1 hf.1
 refine⟨aKs hf.1 f1 f2 (by omega) (iB hT (by omega)),aKs yN g3 g1 (by omega) (iB yP (by omega)),
  aKs (aU6 hf.1 yN) (kN (qQ _ f1) (by rw[aU7];exact qQ _ g3)) (aDj f2 g1) (by omega) (iB (tW hT yP) (by omega)),
  aHZ n1 (by omega) (by grind) s3 s1,?_,aKs NT0 r1 r2 (by omega) NT,?_,e2⟩
 · rw[e1];exact aKs NT0 q1 q2 (by omega) NT
 · rw[e2];exact aKs NT0 t1 t2 (by omega) NT
theorem aQ8 {c:CQ}{v:Int}{D X M T1 T2:Nat}{a:List QL}{fx fy:Int->Q}(hc:c=oQ v a)(ha:Arms D X v a)(hx:aBo T1 M fx)(hy:aBo T2 M fy)(h1:T1<=PP ^ 3)(h2:T2<=PP ^ 3)(hM:M<=8000)
 (hv:bX c.toC=some true) (at_:List Point) (hat:∀ y∈a,at_[y.a.toNat]?=some (ptQ fx fy y.a)):gN c.toC at_=some (⟨ofQ (app fx (·.x) c.ps),ofQ (app fy (·.y) c.ps)⟩,true):=by
 have hpl:c.toC.fParents.length=a.length:=by rw[hc];unfold CQ.toC oQ;simp
 have al:a.length<=10:=aGQ ha.inc fun x hx=>(ha.nd x hx).1
 have main:∀ m k:Nat,m+k=a.length->lp (dH c.toC at_) ((k:Int),⟨ofQ (pM fx (·.x) (a.take k) / sm wt a),ofQ (pM fy (·.y) (a.take k) / sm wt a)⟩)=some (.inl ⟨ofQ (pM fx (·.x) a / sm wt a),ofQ (pM fy (·.y) a / sm wt a)⟩):=by
  intro m
  induction m with
  | zero =>
   intro k hk
   have:k=a.length:=by omega
   subst this
   rw[aV1]
   exact aG (by unfold dH;simp only[];rw[aUq (by omega)])
  | succ m ih =>
   intro k hk
   have hlt:k<a.length:=by omega
   have ey:a=a.take k++a[k]::a.drop (k+1):=by rw[<- aUw hlt,aVs]
   have et:a.take (k+1)=a.take k++[a[k]]:=by rw[aV4,aUG hlt];rfl
   obtain⟨x1,x2,x3,x4,x5,x6,x7,x8⟩:=aMt cox hx h1 hM ha ey
   obtain⟨y1,y2,y3,y4,y5,y6,y7,y8⟩:=aMt coy hy h2 hM ha ey
   have hg:=hat _ (aUA hlt)
   obtain⟨hl2,hg2⟩:=aVf.1 hg
   have n0:=(ha.nd _ (aUA hlt)).1.1
   have hp:c.toC.fParents[k]'(by omega)=(zC (sm wt a) a[k]).toP:=by
    subst hc
    unfold CQ.toC oQ;simp
   have hi:idx at_ (a[k]).a=some (ptQ fx fy (a[k]).a):=by
    unfold idx;rw[aUs n0];exact hg
   have st:dH c.toC at_ ((k:Int),⟨ofQ (pM fx (·.x) (a.take k) / sm wt a),ofQ (pM fy (·.y) (a.take k) / sm wt a)⟩)=some (.inl (((k+1:Nat):Int),⟨ofQ (pM fx (·.x) (a.take (k+1)) / sm wt a),ofQ (pM fy (·.y) (a.take (k+1)) / sm wt a)⟩)):=by
    unfold dH
    simp only[]
    rw[aUs (by omega),aH (by omega:k<c.toC.fParents.length),hp]
    simp only[aUp]
    have pn:(zC (sm wt a) a[k]).toP.fNode=(a[k]).a:=rfl
    have ps:(zC (sm wt a) a[k]).toP.fShare=ofQ ((a[k]).w / sm wt a):=rfl
    have px:(zC (sm wt a) a[k]).toP.fDX=ofQ (a[k]).x:=rfl
    have py:(zC (sm wt a) a[k]).toP.fDY=ofQ (a[k]).y:=rfl
    rw[pn,ps,px,py,aUq (by omega),hi]
    have qx:(ptQ fx fy (a[k]).a).fX=ofQ (fx (a[k]).a):=rfl
    have qy:(ptQ fx fy (a[k]).a).fY=ofQ (fy (a[k]).a):=rfl
    simp only[aUp]
    rw[qx,qy,aHg x1 x2 x3]
    simp only[aUp]
    rw[aF4 x4 x3 x5]
    simp only[aUp]
    rw[aDv x6 x5 x7,x8]
    simp only[aUp]
    rw[aHg y1 y2 y3]
    simp only[aUp]
    rw[aF4 y4 y3 y5]
    simp only[aUp]
    rw[aDv y6 y5 y7,y8]
    simp only[aUp]
    rw[wi (n:=(k:Int)+1) (by omega),et]
    rfl
   rw[aO st]
   exact ih (k+1) (by omega)
 have m0:=main a.length 0 (by omega)
 have z0:∀ (f:Int->Q) (gl:QL->Q),pM f gl (a.take 0) / sm wt a=0:=fun f gl=>by
  unfold pM;rw[aWr];simp only[sm];grind
 rw[z0,z0,show((0:Nat):Int)=0 from rfl]at m0
 have ep:c.ps=a.map (zC (sm wt a)):=by rw[hc];rfl
 rw[ep,aM5 cox,aM5 coy]
 obtain⟨r1,r2⟩:=aDy cox hx ha (a1:=a) (a2:=[]) (by simp)
 obtain⟨s1,s2⟩:=aDy coy hy ha (a1:=a) (a2:=[]) (by simp)
 obtain⟨n1,n2⟩:=ha.nN
 have hP:=ha.hP
 have hX:=ha.hX
 have nP:nm D (sm wt a)<=PP ^ 1:=by rw[aVQ];omega
 have gx:=aKs (aU6 n1 hx.1) r1 r2 (by omega) (iB (tW nP h1) (by omega))
 have gy:=aKs (aU6 n1 hy.1) s1 s2 (by omega) (iB (tW nP h2) (by omega))
 unfold gN
 rw[hv]
 simp only[aUp,aUK]
 rw[aMc]
 simp only[aUp]
 rw[m0]
 simp only[aUp]
 rw[aEF gx]
 simp only[aUp,aUK]
 rw[aEF gy]
 simp only[aUp,aVj,aUv,aUT]
/- A tree solved: the program. -/
def oA (b:List NQ):List Conditional:=b.map fun n=>n.cond.toC
structure NetB (b:List NQ):Prop where
 dn:Dn b
 len:b.length<=7
 ep:epr 0 b<=PP ^ 3
 nb:aCa 0 b
 each:∀ n∈b,bX n.cond.toC=some true/\(1<=n.node/\n.node<=9)/\∀ u∈psN n.cond,u=0\/∃ c∈b,c.node=u
theorem Tie.ep {l:List QL}{o:List Int}(h:Tie l o):epr 0 (aD l o o [])<=PP ^ 3:=by
 have at':∀ a n r,aD l o o []=a++n::r->∃ p v q,o=p++v::q/\a=aD l o p []/\n=nxt l o v a/\r.length=q.length:=fun a n r e=>by
  have hl:(aD l o o []).length=o.length:=by rw[sO];simp
  rw[e,aUF,aUC]at hl
  have hlt:a.length<o.length:=by omega
  have eo:o=o.take a.length++o[a.length]::o.drop (a.length+1):=by rw[<- aUw hlt,aVs]
  have e2:aD l o o []=aD l o (o.take a.length++o[a.length]::o.drop (a.length+1)) []:=congrArg (fun z=>aD l o z []) eo
  rw[aAg,aD]at e2
  obtain⟨c,ec⟩:=aCd l o (o.drop (a.length+1)) (aD l o (o.take a.length) []++[nxt l o o[a.length] (aD l o (o.take a.length) [])])
  rw[ec,e,aUO]at e2
  have la:a.length=(aD l o (o.take a.length) []).length:=by rw[sO,aVp];simp;omega
  obtain⟨e3,e4⟩:=List.append_inj e2 la
  rw[aVK]at e4
  injection e4 with e5 e6
  exact⟨o.take a.length,o[a.length],o.drop (a.length+1),eo,e3,by rw[e5,<- e3],by rw[aV2];omega⟩
 have step:∀ a n r,aD l o o []=a++n::r->ka a<=4/\(ka a=4->mu n=0)/\(ka a+(r.length+1)<=6\/(a=[]/\mu n=0)):=fun a n r e=>by
  obtain⟨p,v,q,eo,ea,en,hr⟩:=at' a n r e
  have ti:=TInv.at h.base h.gr h.cap p.length p (v::q) rfl eo
  obtain⟨f1,f2⟩:=aJW h.base ti
  rw[<- ea]at f1 f2
  have m0:(nxt l o v a).msgs=[]->mu n=0:=fun e0=>by rw[en];unfold mu;rw[e0];rfl
  refine⟨f1,fun e4=>m0 (f2 e4),?_⟩
  rcases h.few p v q eo with g | ⟨g1,g2⟩
  · left;rw[<- ea]at g;omega
  · right
    subst g1
    have ea':a=[]:=ea
    exact⟨ea',m0 (by rw[ea'];exact g2)⟩
 refine aSm ?_
 cases hb:aD l o o []with
 | nil=>exact .inl fun a n r e=>by simp at e
 | cons n r =>
  by_cases c:mu n=0
  · right
    refine⟨n,r,rfl,c,fun a m s e=>?_⟩
    obtain⟨s1,s2,s3⟩:=step (n::a) m s (by rw[hb,e];rfl)
    rw[ka,c]at s1 s2 s3
    rcases s3 with s3 | ⟨s3,_⟩
    · exact⟨by omega,by omega,fun h4=>s2 (by omega)⟩
    · cases s3
  · left
    intro a m s e
    obtain⟨s1,s2,s3⟩:=step a m s (by rw[hb,e])
    rcases s3 with s3 | ⟨s3,s4⟩
    · exact⟨by omega,by omega,fun h4=>s2 (by omega)⟩
    · subst s3
      injection e with e1 e2
      rw[<- e1]at s4
      exact absurd s4 c
theorem Tie.netB {l:List QL}{o:List Int}(h:Tie l o):NetB (aD l o o []):=by
 obtain⟨d,f⟩:=h.dn
 refine⟨d,?_,h.ep,aBs h.base h.gr h.cap o.length o [] rfl (by simp),fun n hn=>⟨?_,?_,fun u hu=>?_⟩⟩
 · rw[sO];have:=h.base.len;simpa using this
 · have hm:n.toN∈(tG l o).fNodes:=aVR hn
   obtain⟨n2,n3⟩:=(aE4 h.build).2 _ hm
   have ec:n.toN.fCond=n.cond.toC:=rfl
   rw[ec]at n2 n3
   obtain⟨b,v1,v2,_⟩:=aJq n.cond.toC (by omega)
   rw[n2]at v1
   rw[v2,<- Option.some.inj v1]
 · have:=h.five _ (f n hn).1
   omega
 · exact((f n hn).2.2 u hu).imp id aFH
theorem aNo (c:CQ):c.toC.fParents.map (·.fNode)=psN c:=by
 unfold CQ.toC psN
 simp only[aWo]
 rfl
theorem aOF (c:Conditional)(N:List Int)(h:∀ q∈c.fParents,q.fNode∈N)(hz:N.length<=4294967296)(hs:c.fParents.length<=4294967296):lp (oZ c N) 0=some (.inl ()):=by
 have main:∀ m k:Nat,m+k=c.fParents.length->lp (oZ c N) (k:Int)=some (.inl ()):=by
  intro m
  induction m with
  | zero=>intro k hk;exact aG (by unfold oZ;rw[aUq (by omega)])
  | succ m ih =>
   intro k hk
   have hlt:k<c.fParents.length:=by omega
   rw[aO (s':=((k+1:Nat):Int))]
   · exact ih (k+1) (by omega)
   · unfold oZ
     rw[aUs (by omega),aH hlt]
     simp only[aUp]
     rw[yW _ _ hz,aUu (h _ (aUA hlt))]
     simp only[aUp,aUK]
     rw[wi (n:=(k:Int)+1) (by omega)];rfl
 exact main _ 0 (aVh _)
section
variable {b:List NQ}
theorem NetB.sp {b1 r:List NQ}{n:NQ}(h:NetB b)(e:b=b1++n::r):n.node∉r.map (fun c=>c.node)/\(∀ u∈psN n.cond,u=0\/∃ c∈r,c.node=u)/\n.cond.node=n.node:=by
 have hp:=h.dn.1
 have hm:n∈b:=by rw[e];simp
 rw[e,aWf,aVa]at hp
 obtain⟨p1,⟨p2,p3⟩,p4⟩:=hp
 refine⟨fun hr=>?_,fun u hu=>?_,(h.dn.2 n hm).2⟩
 · obtain⟨c,hc,ec⟩:=aUJ.1 hr
   exact(p2 c hc).2 ec.symm
 · rcases(h.each n hm).2.2 u hu with h0 | ⟨c,hc,ec⟩
   · exact .inl h0
   · right
     rw[e]at hc
     rcases aUz.1 hc with hc | hc
     · exact absurd (ec▸hu) (p4 c hc n (by simp)).1
     · rcases aUr.1 hc with rfl | hc
       · exact absurd (ec▸hu) (h.dn.2 c hm).1
       · exact⟨c,hc,ec⟩
theorem NetB.isNet (h:NetB b):yV (oA b)=some true:=by
 have hlen:=h.len
 have nl:(oA b).length=b.length:=by unfold oA;rw[aUM]
 have main:∀ (n:Nat) (b1 r:List NQ),b1.length=n->b=b1++r->lp (oY (oA b)) ((b1.length:Int)-1,0::(r.map fun c=>c.node).reverse)=some (.inl ()):=by
  intro n
  induction n with
  | zero =>
   intro b1 r hn e
   have:b1=[]:=aUD.1 hn
   subst this
   exact aG (by unfold oY;simp only[];rw[aUq (by simp)])
  | succ n ih =>
   intro b1 r hn e
   rcases aVT b1 with rfl | ⟨b2,x,rfl⟩
   · simp at hn
   rw[aVU]at hn e ⊢
   have e2:b=b2++x::r:=by rw[e,aUO];rfl
   obtain⟨s1,s2,s3⟩:=h.sp e2
   obtain⟨v1,v2,_⟩:=h.each x (by rw[e2];simp)
   have bl:b.length=b2.length+(r.length+1):=by rw[e2];simp
   have el:(((b2++[x]).length:Nat):Int)-1=(b2.length:Int):=by rw[aUF,aU5];omega
   have lt:b2.length<(oA b).length:=by rw[nl,e2];simp
   have hg:(oA b)[b2.length]=x.cond.toC:=by
    unfold oA
    simp only[aVG,e2]
    simp
   have hN:(0::(r.map fun c=>c.node).reverse).length<=10:=by
    have:b.length=b2.length+(r.length+1):=by rw[e2];simp
    simp;omega
   have hfn:x.cond.toC.fNode=x.node:=s3
   have hpl:x.cond.toC.fParents.length<=100:=by
    obtain⟨D,X,a,e3,ha,_⟩:=(aB9 (n:=x) (k:=0) (a:=b2) (b:=x::r) (by rw[<- e2];exact h.nb)).1
    have:=aGQ ha.inc fun x hx=>(ha.nd x hx).1
    rw[e3];unfold CQ.toC oQ;simp;omega
   rw[el]
   have st:oY (oA b) ((b2.length:Int),0::(r.map fun c=>c.node).reverse)=some (.inl ((b2.length:Int)-1,0::((x::r).map fun c=>c.node).reverse)):=by
    unfold oY
    simp only[]
    rw[aUs (by omega),aH lt,hg]
    simp only[aUp]
    rw[v1]
    simp only[aUp,aUK]
    rw[hfn,yW _ _ (by omega),aUt (by
     intro hm
     rcases aUr.1 hm with h0 | hm
     · omega
     · exact s1 (List.mem_reverse.1 hm))]
    simp only[aUp,aUv,aUT]
    rw[aOF _ _ (fun q hq=>by
     have:q.fNode∈psN x.cond:=by rw[<- aNo];exact aVR hq
     rcases s2 _ this with h0 | ⟨c,hc,ec⟩
     · rw[h0];simp
     · refine aU3 _ (List.mem_reverse.2 ?_)
       rw[<- ec];exact aVR hc) (by omega) (by omega)]
    simp only[aUp,aL]
    rw[aI (by omega),wi (n:=(b2.length:Int)-1) (by omega)]
    simp
   rw[aO st]
   exact ih b2 (x::r) (by simpa using hn) e2
 have:=main b.length b [] rfl (by simp)
 unfold yV
 rw[nl,wi (n:=(b.length:Int)-1) (by omega),aL]
 simp only[aVy,List.reverse_nil]at this
 rw[this]
 rfl
def tF (b:List NQ):Int:=b.foldl (fun g n=>max g n.node) 0
theorem aKq:∀ (b:List NQ) (g:Int),g<=b.foldl (fun g n=>max g n.node) g/\(∀ n∈b,n.node<=b.foldl (fun g n=>max g n.node) g)/\(b.foldl (fun g n=>max g n.node) g=g\/∃ n∈b,n.node=b.foldl (fun g n=>max g n.node) g)
 | [],g=>by simp
 | n::b,g=>by
  obtain⟨h1,h2,h3⟩:=aKq b (max g n.node)
  rw[aVw]
  refine⟨by omega,fun m hm=>?_,?_⟩
  · rcases aUr.1 hm with rfl | hm
    · omega
    · exact h2 m hm
  · rcases h3 with h3 | ⟨m,hm,e⟩
    · by_cases c:n.node<=g
      · left;omega
      · right;exact⟨n,by simp,by omega⟩
    · exact .inr ⟨m,by simp[hm],e⟩
theorem NetB.top (h:NetB b):lp (jU (oA b)) (0,0)=some (tF b)/\0<=tF b/\tF b<=9/\∀ n∈b,n.node<=tF b:=by
 have hlen:=h.len
 have nl:(oA b).length=b.length:=by unfold oA;rw[aUM]
 obtain⟨f1,f2,f3⟩:=aKq b 0
 refine⟨?_,f1,?_,f2⟩
 · have:=(iF (step:=jU (oA b)) b (fun k g=>(g,(k:Int))) (fun g n=>max g n.node) (fun g=>g) (fun _ _=>True) (fun k g hk _=>by
    refine⟨?_,trivial⟩
    unfold jU
    simp only[]
    rw[aUs (by omega),aH (by omega:k<(oA b).length)]
    simp only[aUp]
    have hg:((oA b)[k]'(by omega)).fNode=(b[k]).node:=by
     unfold oA
     simp only[aVG]
     exact(h.dn.2 _ (aUA hk)).2
    rw[hg,wi (n:=(k:Int)+1) (by omega)];rfl) (fun g _=>by unfold jU;simp only[];rw[aUq (by omega)]) 0 trivial).1
   exact this
 · rcases f3 with f3 | ⟨n,hn,e⟩
   · unfold tF;omega
   · have:=(h.each n hn).2.1
     unfold tF;omega
def zP0:Point:=Point.mk (Rat.mk (BigInt.mk false ([])) ([])) (Rat.mk (BigInt.mk false ([])) ([]))
def yL (G:Nat)(r:List NQ):List Point:=(List.range (G+1)).map fun(i:Nat)=>if(decide (i=0)||r.any fun c=>decide (c.node=(i:Int)))=true then ptQ (sol (·.x) r) (sol (·.y) r) (i:Int)else zP0
theorem yK (G:Nat)(r:List NQ):(yL G r).length=G+1:=by unfold yL;simp
theorem aFv {G:Nat}{r:List NQ}{i:Nat}(hi:i<(yL G r).length):(yL G r)[i]=if(decide (i=0)||r.any fun c=>decide (c.node=(i:Int)))=true then ptQ (sol (·.x) r) (sol (·.y) r) (i:Int)else zP0:=by
 simp only[yL,aVG,List.getElem_range]
theorem aDD {G:Nat}{r:List NQ}{u:Int}(h0:0<=u)(hG:u<=G)(h:u=0\/∃ c∈r,c.node=u):(yL G r)[u.toNat]?=some (ptQ (sol (·.x) r) (sol (·.y) r) u):=by
 obtain⟨i,rfl⟩:=aVL h0
 rw[aU1]
 unfold yL
 rw[List.getElem?_map,List.getElem?_range (by omega)]
 simp only[aW8]
 rw[aUs]
 rw[aVg,aVb,aWn]
 rcases h with h | ⟨c,hc,e⟩
 · left;omega
 · exact .inr ⟨c,hc,aUu e⟩
theorem aO1 {G:Nat}{r:List NQ}{n:NQ}(h1:1<=n.node)(hG:n.node<=G)(hn:n.node∉r.map (fun c=>c.node)):(yL G r).set n.node.toNat (ptQ (sol (·.x) (n::r)) (sol (·.y) (n::r)) n.node)=yL G (n::r):=by
 obtain⟨j,ej⟩:=aVL (by omega:0<=n.node)
 apply aW5
 · rw[aWQ,yK,yK]
 · intro i hi1 hi2
   rw[aWQ,yK]at hi1
   rw[aW4]
   by_cases c:n.node.toNat=i
   · rw[aUs c,aFv]
     have e:n.node=(i:Int):=by omega
     rw[aUs (by rw[aVg,aWn];exact .inr ⟨n,by simp,aUu e⟩),e]
   · rw[aUq c,aFv,aFv]
     have ne:¬(i:Int)=n.node:=by omega
     have e1:ptQ (sol (·.x) (n::r)) (sol (·.y) (n::r)) (i:Int)=ptQ (sol (·.x) r) (sol (·.y) r) (i:Int):=by
      unfold ptQ
      rw[sol,aUq ne,sol,aUq ne]
     rw[e1]
     have e2:(decide (i=0)||(n::r).any fun c=>decide (c.node=(i:Int)))=(decide (i=0)||r.any fun c=>decide (c.node=(i:Int))):=by
      rw[List.any_cons,aUt (fun e:n.node=(i:Int)=>ne e.symm),Bool.false_or]
     rw[e2]
theorem aO2 (G:Nat):(List.replicate (G+1) zP0).set 0 ⟨ofQ 0,ofQ 0⟩=yL G []:=by
 apply aW5
 · rw[aWQ,yK];simp
 · intro i hi1 hi2
   rw[aW4,aFv]
   simp only[List.getElem_replicate,List.any_nil,aW3]
   by_cases c:i=0
   · subst c;rfl
   · rw[aUq (fun e=>c e.symm),aUq (by simpa using c)]
theorem NetB.solve (h:NetB b):rY (oA b)=some (yL (tF b).toNat b,true):=by
 have hlen:=h.len
 have nl:(oA b).length=b.length:=by unfold oA;rw[aUM]
 obtain⟨t1,t2,t3,t4⟩:=h.top
 have main:∀ (n:Nat) (b1 r:List NQ),b1.length=n->b=b1++r->lp (jT (oA b)) ((b1.length:Int)-1,yL (tF b).toNat r)=some (.inl (yL (tF b).toNat b)):=by
  intro n
  induction n with
  | zero =>
   intro b1 r hn e
   have:b1=[]:=aUD.1 hn
   subst this
   rw[aUx]at e
   subst e
   exact aG (by unfold jT;simp only[];rw[aUq (by simp)])
  | succ n ih =>
   intro b1 r hn e
   rcases aVT b1 with rfl | ⟨b2,x,rfl⟩
   · simp at hn
   rw[aVU]at hn e ⊢
   have e2:b=b2++x::r:=by rw[e,aUO];rfl
   have hxb:x∈b:=by rw[e2];simp
   obtain⟨s1,s2,s3⟩:=h.sp e2
   obtain⟨v1,v2,_⟩:=h.each x hxb
   have bl:b.length=b2.length+(r.length+1):=by rw[e2];simp
   have el:(((b2++[x]).length:Nat):Int)-1=(b2.length:Int):=by rw[aUF,aU5];omega
   have lt:b2.length<(oA b).length:=by omega
   have hg:(oA b)[b2.length]=x.cond.toC:=by
    unfold oA
    simp only[aVG,e2]
    simp
   have hfn:x.cond.toC.fNode=x.node:=s3
   have nb2:=aB9 (n:=x) (k:=0) (a:=b2) (b:=x::r) (by rw[<- e2];exact h.nb)
   rw[aUR]at nb2
   obtain⟨⟨D,X,a,e3,ha,_⟩,nbr⟩:=nb2
   obtain⟨T1,b1',sx,sy⟩:=aDq r (ka b2+mu x) nbr
   have ep:epr (ka b2+mu x) r<=PP ^ 3:=by
    have:=aQT (a:=b2++[x]) (b:=r) (c:=b) (k:=0) (by rw[e2,aUO];rfl) h.ep
    rw[aJa,ka,ka,aVh,aUR]at this
    exact this
   have ap:=aQ8 e3 ha sx sy (by omega) (by omega) (by omega) v1 (yL (tF b).toNat r) (fun y hy=>by
    have hu:y.a∈psN x.cond:=by rw[e3,aBH];exact aVR hy
    have h0:=(ha.nd y hy).1.1
    refine aDD h0 ?_ (s2 _ hu)
    rcases s2 _ hu with g | ⟨c,hc,ec⟩
    · omega
    · have:=t4 c (by rw[e2];simp[hc])
      omega)
   have eset:ptQ (sol (·.x) (x::r)) (sol (·.y) (x::r)) x.node=⟨ofQ (app (sol (·.x) r) (·.x) x.cond.ps),ofQ (app (sol (·.y) r) (·.y) x.cond.ps)⟩:=by
    unfold ptQ
    rw[sol,aUs rfl,sol,aUs rfl]
   have tx:=t4 x hxb
   have hset:=aO1 (G:=(tF b).toNat) (r:=r) (n:=x) v2.1 (by omega) s1
   have xin:x.node.toNat<(yL (tF b).toNat r).length:=by rw[yK];omega
   obtain⟨j,ej⟩:=aVL (by omega:0<=x.node)
   rw[el]
   have st:jT (oA b) ((b2.length:Int),yL (tF b).toNat r)=some (.inl ((b2.length:Int)-1,yL (tF b).toNat (x::r))):=by
    unfold jT
    simp only[]
    rw[aUs (by omega),aH lt,hg]
    simp only[aUp]
    rw[ap]
    simp only[aUp,aUK]
    rw[hfn,ej,aH (by rw[ej,aU1]at xin;exact xin)]
    simp only[aUp,aL]
    rw[rQ,wi (n:=(b2.length:Int)-1) (by omega)]
    rw[<- hset,eset,ej,aU1]
   rw[aO st]
   exact ih b2 (x::r) (by simpa using hn) e2
 have m0:=main b.length b [] rfl (by simp)
 have w1:IntKind.i64.wrap (tF b+1)=((tF b).toNat+1:Nat):=by rw[wi (by omega)];omega
 unfold rY
 rw[h.isNet]
 simp only[aUp,aUK]
 rw[t1]
 simp only[aUp,aL]
 rw[w1,aU1,aI (by omega)]
 simp only[aUp]
 rw[aMc]
 simp only[aUp]
 have i0:∀ (n:Nat) (z:Point),idx (List.replicate (n+1) z) 0=some z:=fun n z=>by unfold idx;simp
 have s0:∀ (l:List Point) (z:Point),nA l 0 z=l.set 0 z:=fun l z=>rfl
 rw[i0]
 simp only[aUp]
 rw[s0]
 have en:=aO2 (tF b).toNat
 unfold zP0 at en
 rw[en,nl,wi (n:=(b.length:Int)-1) (by omega),m0]
 rfl
end
theorem aTk {t:Tree}(hz:yA t<=4294967296)(hc:∀ n∈t.fNodes,aW n.fCond<=4294967296)(hl:t.fNodes.length<=1000):uG t=some (t.fNodes.map (·.fCond)):=by
 have:=(iF (step:=oJ t) t.fNodes (fun k u=>((k:Int),u)) (fun u n=>u++[n.fCond]) (fun u=>u) (fun k u=>u.length<=k) (fun k u hk hi=>by
  constructor
  · unfold oJ
    simp only[]
    rw[aUs (by omega),aH hk]
    simp only[aUp]
    rw[uD _ (hc _ (aUA hk))]
    simp only[aUp,aL]
    rw[aI (by omega),wi (n:=(k:Int)+1) (by omega)];rfl
  · rw[aUF,aU5];omega) (fun u _=>by unfold oJ;simp only[];rw[aUq (by omega)]) [] (aVk _)).1
 have e:∀ (a:List TreeNode) (u:List Conditional),a.foldl (fun u n=>u++[n.fCond]) u=u++a.map (·.fCond):=by
  intro a
  induction a with
  | nil=>simp
  | cons x a ih=>intro u;rw[aVw,ih];simp
 rw[show((0:Nat):Int)=0 from rfl,e,aUx]at this
 unfold uG
 rw[this];rfl
theorem aQp {l:List QL}{o:List Int}(h:Tie l o):qK (tG l o)=some (yL (tF (aD l o o [])).toNat (aD l o o []),true):=by
 have hz:=h.tsz
 obtain⟨h9,hn⟩:=aE4 h.build
 have h9:(tG l o).fNodes.length<=9:=h9
 have hn:∀ n∈(tG l o).fNodes,bJ n.fCond=some true/\aW n.fCond<=20000:=hn
 unfold qK
 rw[aTk (by omega) (fun n hn'=>by have:=(hn n hn').2;omega) (by omega)]
 simp only[aUp]
 have e:(tG l o).fNodes.map (·.fCond)=oA (aD l o o []):=by
  unfold tG oA
  simp only[aWo]
  rfl
 rw[e,h.netB.solve]
 rfl
/- The energy of a tree: the program. -/
def aNO:Nat->Nat->Nat
 | _,0=>1
 | k,n+1=>ex k*aNO (k+1) n
theorem aMZ {a b:Nat}(h:a<=b):ex a<=ex b:=by
 unfold ex
 exact aU9 (by omega) (aU9 (by omega) h)
theorem aRA:∀ (b:List NQ) (k j:Nat),k<=j->epr k b<=aNO j b.length
 | [],_,_,_=>aUI _
 | n::r,k,j,h=>by
  have:=aMz n
  exact aUX (aMZ h) (aRA r (k+mu n) (j+1) (by omega))
theorem aPv {a b:Nat}(h:a<=b):ex' a<=ex' b:=by
 unfold ex'
 by_cases c:a=0
 · rw[aUs c]
   split
   · exact aUI _
   · exact aPu _
 · rw[aUq c,aUq (by omega)];exact aMZ h
theorem aTj:∀ {k m:Nat},k+m<=5->aNO 0 k*aNO 0 k*ex' k ^ (tri (m+1)+1)<=PP ^ 6:=by
 have:∀ k,k<=5->∀ m,m<=5-k->aNO 0 k*aNO 0 k*ex' k ^ (tri (m+1)+1)<=PP ^ 6:=by unfold PP ex' ex;decide
 intro k m h
 exact this k (by omega) m (by omega)
theorem aRF {x:QL}{p q:Int->Q}{T:Nat}(hx:LkI x)(hp:∀ u,Dv T (p u))(hq:∀ u,Dv T (q u)):Dv (T*T) (eP p q x):=by
 obtain⟨_,w,a,b,_,_,_,e1,e2,e3⟩:=hx
 have up:∀ z:Int,Dv T (z:Q):=fun z=>by have:=qQ T (aDl z);rwa [Nat.one_mul]at this
 have d1:Dv T (p x.b-p x.a-x.x):=pG (pG (hp _) (hp _)) (by rw[e2];exact up _)
 have d2:Dv T (q x.b-q x.a-x.y):=pG (pG (hq _) (hq _)) (by rw[e3];exact up _)
 have:=sN (aDl w) (kN (sN d1 d1) (sN d2 d2))
 rw[Nat.one_mul]at this
 unfold eP sqQ
 rw[e1];exact this
theorem aRG (x:QL):eP (fun _=>0) (fun _=>0) x=enQ x:=by
 unfold eP enQ sqQ
 grind
section
variable {l:List QL}{o pre rem:List Int}
theorem aML (h:Tie l o)(e:o=pre++rem){E:Nat}(hE:∀ c∈aD l o pre [],c.up∈rem->c.msgs.length+1<=E):Dv (cL (fun c:NQ=>c.den*pn c.den c.msgs) ((aD l o pre []).filter (gM rem))) (sm enQ (dD ((aD l o pre []).filter (gM rem))))/\
 0<cL (fun c:NQ=>c.den*pn c.den c.msgs) ((aD l o pre []).filter (gM rem))/\cL (fun c:NQ=>c.den*pn c.den c.msgs) ((aD l o pre []).filter (gM rem))<=ex' (ka (aD l o pre [])) ^ E/\
 0<=sm enQ (dD ((aD l o pre []).filter (gM rem)))/\sm enQ (dD ((aD l o pre []).filter (gM rem)))<=((10 ^ 9:Nat):Q)/\
 (∀ x∈dD ((aD l o pre []).filter (gM rem)),(x.a=0\/x.a∈rem)/\(x.b=0\/x.b∈rem)):=by
 have ti:=TInv.at h.base h.gr h.cap pre.length pre rem rfl e
 have lv:∀ c∈(aD l o pre []).filter (gM rem),c∈aD l o pre []/\c.up∈rem:=fun c hc=>by
  rw[aUy]at hc
  exact⟨hc.1,aU4 hc.2⟩
 have mem:∀ x∈dD ((aD l o pre []).filter (gM rem)),∃ c∈(aD l o pre []).filter (gM rem),x∈c.msgs:=fun x hx=>aVN.1 hx
 have wnn:∀ x∈dD ((aD l o pre []).filter (gM rem)),0<x.w:=fun x hx=>by
  obtain⟨c,hc,hm⟩:=mem x hx
  exact((ti.msg c (lv c hc).1 (lv c hc).2).1 x hm).sc.1
 have w72:sm wt (dD ((aD l o pre []).filter (gM rem)))<=72:=by
  have:=ti.wtt
  have n2:0<=sm wt (l.filter fun x=>decide (aP o [x.a,x.b]∈rem)):=iO fun y hy=>(h.base.lk y (aUy.1 hy).1).1
  grind
 have w1:∀ x∈dD ((aD l o pre []).filter (gM rem)),x.w<=72:=fun x hx=>by
  have:=aIH (f:=wt) (fun y hy=>by have:=wnn y hy;unfold wt;grind) x hx
  unfold wt at *;grind
 have each:∀ c∈(aD l o pre []).filter (gM rem),0<c.den*pn c.den c.msgs/\c.den*pn c.den c.msgs<=wd c ^ E:=fun c hc=>by
  obtain⟨m1,m2⟩:=ti.msg c (lv c hc).1 (lv c hc).2
  have hd:=ti.den c (lv c hc).1 (lv c hc).2
  have l3:=aGc (W:=72) hd (fun x hx=>(m1 x hx).sc) (fun x hx=>w1 x (aVN.2 ⟨c,hc,hx⟩))
  refine⟨aU6 hd (aC3 hd fun x hx=>(m1 x hx).sc),?_⟩
  by_cases e0:c.msgs=[]
  · rw[aIA e0,ti.one c (lv c hc).1 e0,e0,Nat.one_pow];exact aUI _
  · have hE':=hE c (lv c hc).1 (lv c hc).2
    rw[aFo e0]
    refine aUE ?_ (aU9 (by omega) hE')
    rw[aVI,aU7 ((72*c.den) ^ _)]
    exact aUX (by omega) l3
 refine⟨?_,xX fun c hc=>(each c hc).1,?_,?_,?_,?_⟩
 · refine aHu fun x hx=>?_
   obtain⟨c,hc,hm⟩:=mem x hx
   obtain⟨m1,m2⟩:=ti.msg c (lv c hc).1 (lv c hc).2
   have hd:=ti.den c (lv c hc).1 (lv c hc).2
   exact xH (aKU hd (m1 x hm).sc) (aWL (aWe _ (aGb _ x hm)) (aCh (f:=fun c:NQ=>c.den*pn c.den c.msgs) hc))
 · refine aUE (aF9 (g:=fun c:NQ=>wd c ^ E) fun c hc=>(each c hc).2) ?_
   rw[aEq]
   exact aVJ ti.prod _
 · exact oU fun x hx=>aCu (wnn x hx)
 · have le:sm enQ (dD ((aD l o pre []).filter (gM rem)))<=sm (fun x=>((2*(800*800):Nat):Q)*wt x) (dD ((aD l o pre []).filter (gM rem))):=aOf fun x hx=>by
    obtain⟨c,hc,hm⟩:=mem x hx
    have m1:=(ti.msg c (lv c hc).1 (lv c hc).2).1 x hm
    have k4:ka (aD l o pre [])<=4:=by
     cases hr:rem with
     | nil=>have:=(lv c hc).2;rw[hr]at this;cases this
     | cons v r =>
      subst hr
      exact(aJW h.base ti).1
    have hX:50*2 ^ ka (aD l o pre [])<=800:=by
     calc 50*2 ^ ka (aD l o pre [])<=50*2 ^ 4:=aUS _ (aU9 (by omega) k4)
      _=800:=rfl
    exact aRD (aKX m1 (Nat.dvd_refl _) hX)
   rw[aLb]at le
   have k1:((2*(800*800):Nat):Q)*sm wt (dD ((aD l o pre []).filter (gM rem)))<=((2*(800*800):Nat):Q)*72:=_root_.Rat.mul_le_mul_of_nonneg_left w72 (zY _)
   have k2:((2*(800*800):Nat):Q)*72=((2*(800*800)*72:Nat):Q):=(aVD _ _).symm
   have k3:((2*(800*800)*72:Nat):Q)<=((10 ^ 9:Nat):Q):=aC5 (by decide)
   grind
 · intro x hx
   obtain⟨c,hc,hm⟩:=mem x hx
   obtain⟨p1,p2,p3,p4⟩:=ti.ps c (lv c hc).1 (lv c hc).2
   exact⟨aUr.1 (p1 _ (p3 x hm).1),aUr.1 (p1 _ (p3 x hm).2.1)⟩
theorem aHL {l:List QL}{o:List Int}:∀ (n:Nat) (p:List Int),p.length=n->∀ c∈aD l o p [],∃ p' v' r',p=p'++v'::r'/\c=nxt l o v' (aD l o p' [])
 | 0,p,hn,c,hc=>by
  have:p=[]:=aUD.1 hn
  subst this
  simp[aD]at hc
 | n+1,p,hn,c,hc=>by
  rcases aVT p with rfl | ⟨q,v,rfl⟩
  · simp at hn
  rw[aVU]at hn hc ⊢
  rw[lP]at hc
  rcases aUz.1 hc with hc | hc
  · obtain⟨p',v',r',e,ec⟩:=aHL n q (by simpa using hn) c hc
    exact⟨p',v',r'++[v],by rw[e];simp,ec⟩
  · exact⟨q,v,[],rfl,aU2.1 hc⟩
theorem aQm (h:Tie l o)(e:o=pre++rem):∃ E,(∀ c∈aD l o pre [],c.up∈rem->c.msgs.length+1<=E)/\epr 0 (aD l o pre [])*epr 0 (aD l o pre [])*ex' (ka (aD l o pre [])) ^ E<=PP ^ 6\/(rem=[]/\epr 0 (aD l o pre [])*epr 0 (aD l o pre [])<=PP ^ 6):=by
 have ti:=TInv.at h.base h.gr h.cap pre.length pre rem rfl e
 have hbl:(aD l o pre []).length=pre.length:=by rw[sO];simp
 rcases h.sml with s | s
 · have lens:pre.length+rem.length<=5:=by rw[e]at s;simpa using s
   have nd:=h.nd
   have nV:(0::rem).Nodup:=by
    rw[aUL]
    refine⟨fun h0=>?_,?_⟩
    · have:=(h.five 0 (by rw[e];simp[h0])).1;omega
    · rw[e]at nd;exact(aUQ.1 nd).2.1
   refine⟨tri (rem.length+1)+1,.inl ⟨fun c hc hu=>?_,?_⟩⟩
   · obtain⟨m1,m2⟩:=ti.msg c hc hu
     obtain⟨p1,p2,p3,p4⟩:=ti.ps c hc hu
     have l1:=aCe nV m2 (fun x hx=>⟨p1 _ (p3 x hx).1,p1 _ (p3 x hx).2.1,(p3 x hx).2.2⟩)
     have eV:(0::rem).length=rem.length+1:=rfl
     rw[eV]at l1
     have l2:=aEj (K:=rem.length+1) (by omega)
     omega
   · have a1:=aRA (aD l o pre []) 0 0 (aUI _)
     have a2:=aPv (aPc (aD l o pre []))
     rw[hbl]at a1 a2
     exact aUE (aUX (aUX a1 a1) (aVJ a2 _)) (aTj lens)
 · have ep:=h.ep
   have e1:aD l o o []=aD l o (pre++rem) []:=congrArg (fun z=>aD l o z []) e
   cases hr:rem with
   | nil =>
    subst hr
    refine⟨0,.inr ⟨rfl,?_⟩⟩
    rw[aVx]at e1
    rw[<- e1]
    calc epr 0 (aD l o o [])*epr 0 (aD l o o [])<=PP ^ 3*PP ^ 3:=aUX ep ep
     _=PP ^ 6:=by rw[<- Nat.pow_add]
   | cons v r =>
    subst hr
    refine⟨2,.inl ⟨fun c hc hu=>?_,?_⟩⟩
    · obtain⟨p',v',r',e2,ec⟩:=aHL pre.length pre rfl c hc
      have:=s p' v' (r'++v::r) (by rw[e,e2];simp)
      rw[<- ec]at this
      omega
    · rw[aAg,aD]at e1
      obtain⟨c,ec⟩:=aCd l o r (aD l o pre []++[nxt l o v (aD l o pre [])])
      rw[ec]at e1
      have k:=aQU (a:=aD l o pre []++[nxt l o v (aD l o pre [])]) (b:=c) e1 ep
      rw[aFx,epr,epr,Nat.mul_one,aUR]at k
      have x':=aJf (ka (aD l o pre []))
      rw[Nat.pow_two]
      calc epr 0 (aD l o pre [])*epr 0 (aD l o pre [])*(ex' (ka (aD l o pre []))*ex' (ka (aD l o pre [])))
       = (epr 0 (aD l o pre [])*ex' (ka (aD l o pre [])))*(epr 0 (aD l o pre [])*ex' (ka (aD l o pre []))):=by rw[Nat.mul_mul_mul_comm]
       _<=PP ^ 3*PP ^ 3:=aUX (aUE (aUS _ x') k) (aUE (aUS _ x') k)
       _=PP ^ 6:=by rw[<- Nat.pow_add]
theorem aFM (h:Tie l o)(e:o=pre++rem):bN (sn (fun n=>n.enQ) (aD l o pre [])):=by
 obtain⟨E,num⟩:=aQm h e
 have hE:∃ E',(∀ c∈aD l o pre [],c.up∈rem->c.msgs.length+1<=E')/\epr 0 (aD l o pre [])*epr 0 (aD l o pre [])*cL (fun c:NQ=>c.den*pn c.den c.msgs) ((aD l o pre []).filter (gM rem))<=PP ^ 6:=by
  rcases num with⟨n1,n2⟩ | ⟨n1,n2⟩
  · exact⟨E,n1,aUE (aUS _ (aML h e n1).2.2.1) n2⟩
  · refine⟨0,fun c _ hu=>(by rw[n1]at hu;cases hu),?_⟩
    have z:(aD l o pre []).filter (gM rem)=[]:=by
     rw[List.filter_eq_nil_iff]
     intro c _ hc
     have:=aU4 hc
     rw[n1]at this;cases this
    rw[z,cL,Nat.mul_one];exact n2
 obtain⟨E',hE1,num⟩:=hE
 obtain⟨L1,L2,_,L4,L5,L6⟩:=aML h e hE1
 obtain⟨d,f⟩:=aIE h pre.length pre rem rfl e
 obtain⟨T,t1,t2,t3⟩:=aDq (aD l o pre []) 0 (aBs h.base h.gr h.cap pre.length pre rem rfl e)
 have E:=aFq (sol (·.x) (aD l o pre [])) (sol (·.y) (aD l o pre [])) h.base h.gr h.cap pre.length pre rem rfl e
 have E0:=aFq (fun _=>0) (fun _=>0) h.base h.gr h.cap pre.length pre rem rfl e
 rw[aK9]at E E0
 rw[aIG (f:=fun n=>cdE (sol (·.x) (aD l o pre [])) (sol (·.y) (aD l o pre [])) n.cond) fun n hn=>by
  have e1:=aFP (·.x) d n hn
  have e2:=aFP (·.y) d n hn
  unfold cdE
  rw[(d.2 n hn).2,e1,e2]
  unfold sqQ
  grind]at E
 have nd:=h.nd
 rw[e]at nd
 have out:∀ (g:PQ->Q) (u:Int),(u=0\/u∈rem)->sol g (aD l o pre []) u=0:=fun g u hu=>aMh g _ u fun n hn en=>by
  have hp:=(f n hn).1
  rcases hu with rfl | hu
  · have:=(h.five n.node (by rw[e];simp[hp])).1;omega
  · exact(aUQ.1 nd).2.2 _ hp _ hu en
 have congrL:∀ (b:List QL) (p q:Int->Q),(∀ x∈b,eP p q x=enQ x)->sm (eP p q) b=sm enQ b:=by
  intro b p q hb
  induction b with
  | nil=>rfl
  | cons x b ih=>rw[sm,sm,hb x (by simp),ih fun y hy=>hb y (by simp[hy])]
 have eL:sm (eP (sol (·.x) (aD l o pre [])) (sol (·.y) (aD l o pre []))) (dD ((aD l o pre []).filter (gM rem)))=sm enQ (dD ((aD l o pre []).filter (gM rem))):=congrL _ _ _ fun x hx=>by
  obtain⟨a1,a2⟩:=L6 x hx
  unfold eP enQ sqQ
  rw[out _ _ a1,out _ _ a1,out _ _ a2,out _ _ a2]
  grind
 have e0L:=congrL (dD ((aD l o pre []).filter (gM rem))) (fun _=>0) (fun _=>0) fun x _=>aRG x
 have e0F:=congrL (l.filter fun x=>decide (aP o [x.a,x.b]∈pre)) (fun _=>0) (fun _=>0) fun x _=>aRG x
 rw[eL]at E
 rw[e0L,e0F]at E0
 have lkF:∀ x∈l.filter (fun x=>decide (aP o [x.a,x.b]∈pre)),Lk 1 50 x:=fun x hx=>(h.base.lk x (aUy.1 hx).1).1
 have wF:sm wt (l.filter fun x=>decide (aP o [x.a,x.b]∈pre))<=72:=by
  have s:=aBB wt (fun x=>decide (aP o [x.a,x.b]∈pre)) l
  have n2:0<=sm wt (l.filter fun x=>!decide (aP o [x.a,x.b]∈pre)):=iO fun y hy=>(h.base.lk y (aUy.1 hy).1).1
  have:=h.base.hw
  grind
 obtain⟨s1,s2⟩:=uK lkF (by omega) wF
 have cd0:=aHN (f:=fun n=>cdE (fun _=>0) (fun _=>0) n.cond) (l:=aD l o pre []) fun n hn=>aSt _ _ (f n hn).2.1
 have nnF:0<=sm (eP (sol (·.x) (aD l o pre [])) (sol (·.y) (aD l o pre []))) (l.filter fun x=>decide (aP o [x.a,x.b]∈pre)):=oU fun x hx=>aRE _ _ (lkF x hx).sc.1
 have dF:Dv (T*T) (sm (eP (sol (·.x) (aD l o pre [])) (sol (·.y) (aD l o pre []))) (l.filter fun x=>decide (aP o [x.a,x.b]∈pre))):=aHu fun x hx=>aRF (h.lk x (aUy.1 hx).1) (fun u=>(t2.2 u).1) (fun u=>(t3.2 u).1)
 have eP':sn (fun n=>n.enQ) (aD l o pre [])=sm (eP (sol (·.x) (aD l o pre [])) (sol (·.y) (aD l o pre []))) (l.filter fun x=>decide (aP o [x.a,x.b]∈pre))-sm enQ (dD ((aD l o pre []).filter (gM rem))):=by grind
 have k8:((10 ^ 9:Nat):Q)<=((10 ^ 10:Nat):Q):=aC5 (by decide)
 have k9:((10 ^ 9:Nat):Q)<=((10 ^ 10:Nat):Q):=aC5 (by decide)
 have dd:Dv (T*T*cL (fun c:NQ=>c.den*pn c.den c.msgs) ((aD l o pre []).filter (gM rem))) (sn (fun n=>n.enQ) (aD l o pre [])):=by
  rw[eP']
  exact pG (qQ _ dF) (by rw[aU7];exact qQ _ L1)
 refine cS (B:=10 ^ 10) (aU6 (aU6 t2.1 t2.1) L2) dd ⟨?_,?_⟩ (by decide) (by decide) ?_
 · rw[eP'];grind
 · grind
 · exact aUE (aVC _ (aUX t1 t1)) num
end
theorem aOM {l:List QL}{o p:List Int}{v:Int}{r:List Int}(h:Tie l o)(e:o=p++v::r):bN (nxt l o v (aD l o p [])).enQ:=((TInv.at h.base h.gr h.cap p.length p (v::r) rfl e).next h.base).2.2
theorem aPx {l:List QL}{o:List Int}(h:Tie l o):oK (tG l o)=some (ofQ (sn (fun n=>n.enQ) (aD l o o []))):=by
 have nl:=aNu l o
 have ol:=h.base.len
 have main:∀ (rem pre:List Int),o=pre++rem->lp (gT (tG l o)) ((pre.length:Int),ofQ (sn (fun n=>n.enQ) (aD l o pre [])))=some (ofQ (sn (fun n=>n.enQ) (aD l o o []))):=by
  intro rem
  induction rem with
  | nil =>
   intro pre e
   rw[aVx]at e
   have e':aD l o pre []=aD l o o []:=congrArg (fun z=>aD l o z []) e.symm
   rw[e']
   have:pre.length=o.length:=by rw[e]
   exact aG (by unfold gT;simp only[];rw[aUq (by omega)])
  | cons v r ih =>
   intro pre e
   have hg:=aOO (l:=l) e
   obtain⟨hk,hgk⟩:=aVf.1 hg
   have e2:o=(pre++[v])++r:=by rw[e,aUO];rfl
   have f1:=aFM h e
   have f2:=aOM h e
   have f3:=aFM h e2
   have es:sn (fun n=>n.enQ) (aD l o (pre++[v]) [])=sn (fun n=>n.enQ) (aD l o pre [])+(nxt l o v (aD l o pre [])).enQ:=by
    rw[lP,aK8];simp only[sn];grind
   rw[es]at f3
   have pl:pre.length<=7:=by omega
   have st:gT (tG l o) ((pre.length:Int),ofQ (sn (fun n=>n.enQ) (aD l o pre [])))=some (.inl (((pre++[v]).length:Int),ofQ (sn (fun n=>n.enQ) (aD l o (pre++[v]) [])))):=by
    unfold gT
    simp only[]
    rw[aUs (by omega),aH hk,hgk]
    simp only[aUp]
    have ee:(nxt l o v (aD l o pre [])).toN.fEnergy=ofQ (nxt l o v (aD l o pre [])).enQ:=rfl
    rw[ee,aHg f1 f2 f3]
    simp only[aUp]
    rw[wi (n:=(pre.length:Int)+1) (by omega),es]
    simp
   rw[aO st]
   exact ih (pre++[v]) e2
 have m0:=main o [] rfl
 unfold oK
 rw[bS 0 (by omega),aBq]
 simp only[aUp]
 have:sn (fun n=>n.enQ) (aD l o [] [])=0:=rfl
 rw[this]at m0
 simp only[aVu]at m0
 rw[show((0:Nat):Int)=0 from rfl]at m0
 rw[m0]
 rfl
/- The energy at the solution. -/
theorem aFt {p q:Q}(hp:bN p)(hq:bN q)(h:bN (p-q)):cM (ofQ p) (ofQ q)=some (ofQ (p-q)):=by
 have e:=(aHE (jZ hp) (jZ hq)).2.1
 rw[aP3 hp hq h]at e;exact e
section
variable {T M:Nat}{p q:Int->Q}{x:QL}
theorem aBZ (hx:LkI x)(hp:aBo T 5600 p)(hq:aBo T 5600 q)(t:T<=PP ^ 3) :
 bN (p x.b-p x.a)/\bN (p x.b-p x.a-x.x)/\bN ((p x.b-p x.a-x.x)*(p x.b-p x.a-x.x))/\bN (q x.b-q x.a)/\bN (q x.b-q x.a-x.y)/\bN ((q x.b-q x.a-x.y)*(q x.b-q x.a-x.y))/\
 bN (sqQ (p x.b-p x.a-x.x) (q x.b-q x.a-x.y))/\Dv (T*T) (eP p q x)/\0<=eP p q x/\eP p q x<=((2278125000:Nat):Q)/\bN (eP p q x):=by
 have de:=aRF hx (fun u=>(hp.2 u).1) (fun u=>(hq.2 u).1)
 obtain⟨l1,l2,l3⟩:=hx.lk
 obtain⟨_,w,a,b,hw,ha,hb,e1,e2,e3⟩:=hx
 have T0:=hp.1
 have TT0:0<T*T:=aU6 T0 T0
 have t6:T<=PP ^ 6:=iB t (by omega)
 have tt6:T*T<=PP ^ 6:=iB (a:=6) (by
  have:=aUX t t
  rw[<- Nat.pow_add]at this;exact this) (by omega)
 have up:∀ z:Int,Dv T (z:Q):=fun z=>by have:=qQ T (aDl z);rwa [Nat.one_mul]at this
 have bx:bd 50 x.x:=l1.bx
 have by1:bd 50 x.y:=l1.by'
 have d1:Dv T (p x.b-p x.a):=pG (hp.2 _).1 (hp.2 _).1
 have b1:bd 11200 (p x.b-p x.a):=aB4 (hp.2 x.b).2 (hp.2 x.a).2
 have d2:Dv T (q x.b-q x.a):=pG (hq.2 _).1 (hq.2 _).1
 have b2:bd 11200 (q x.b-q x.a):=aB4 (hq.2 x.b).2 (hq.2 x.a).2
 have d3:Dv T (p x.b-p x.a-x.x):=pG d1 (by rw[e2];exact up _)
 have b3:bd 11250 (p x.b-p x.a-x.x):=aB4 b1 bx
 have d4:Dv T (q x.b-q x.a-x.y):=pG d2 (by rw[e3];exact up _)
 have b4:bd 11250 (q x.b-q x.a-x.y):=aB4 b2 by1
 have d5:=sN d3 d3
 have b5:bd 126562500 _:=pF b3 b3
 have d6:=sN d4 d4
 have b6:bd 126562500 _:=pF b4 b4
 have d7:=kN d5 d6
 have b7:bd 253125000 _:=aDj b5 b6
 have ew:eP p q x=x.w*sqQ (p x.b-p x.a-x.x) (q x.b-q x.a-x.y):=rfl
 have wp:=l1.sc.1
 have bw:bd 9 x.w:=by
  have e9:((9:Nat):Q)=9:=rfl
  unfold bd;rw[e9];grind
 have b8:bd 2278125000 (eP p q x):=by
  rw[ew];exact pF bw b7
 exact⟨cS T0 d1 b1 (by omega) (by omega) t6,cS T0 d3 b3 (by omega) (by omega) t6,cS TT0 d5 b5 (by omega) (by omega) tt6,cS T0 d2 b2 (by omega) (by omega) t6,cS T0 d4 b4 (by omega) (by omega) t6,cS TT0 d6 b6 (by omega) (by omega) tt6,
  cS TT0 d7 b7 (by omega) (by omega) tt6,de,aRE p q wp,b8.2,cS TT0 de b8 (by omega) (by omega) tt6⟩
theorem vpt {u:Int}(h1:bN (p u))(h2:bN (q u)):kR (ptQ p q u)=some true:=by
 have e1:(ptQ p q u).fX=ofQ (p u):=rfl
 have e2:(ptQ p q u).fY=ofQ (q u):=rfl
 unfold kR
 rw[e1,e2,aQz h1]
 simp only[aUp,aUK]
 rw[aQz h2]
 rfl
theorem LkI.valid (h:LkI x):x.fit/\eC x.toL=some true:=by
 have kf:x.fit:=aGJ (D:=1) (X:=50) (by omega) (by decide) h.lk.1 (by omega) (by omega) (by have:=h.lk.2.2;grind)
 have kv:ValidL x.toL:=(aEh kf).2 ⟨by have:=h.1;omega,by have:=h.1;omega,h.1.2.1,h.lk.1.sc.1⟩
 refine⟨kf,?_⟩
 rw[(fL x.toL (by have:=kv.sz;omega)).2,aUu kv]
theorem aMN (hx:LkI x)(hp:aBo T 5600 p)(hq:aBo T 5600 q)(t:T<=PP ^ 3):gF x.toL (ptQ p q x.a) (ptQ p q x.b)=some (ofQ (eP p q x)):=by
 obtain⟨f1,f2,f3,f4,f5,f6,f7,_,_,_,f8⟩:=aBZ hx hp hq t
 obtain⟨⟨fw,fx,fy⟩,hv⟩:=hx.valid
 have t6:T<=PP ^ 6:=iB t (by omega)
 have fp:∀ u,bN (p u):=fun u=>cS hp.1 (hp.2 u).1 (hp.2 u).2 (by omega) (by omega) t6
 have fq:∀ u,bN (q u):=fun u=>cS hq.1 (hq.2 u).1 (hq.2 u).2 (by omega) (by omega) t6
 have px:∀ u,(ptQ p q u).fX=ofQ (p u):=fun _=>rfl
 have py:∀ u,(ptQ p q u).fY=ofQ (q u):=fun _=>rfl
 have ew:x.toL.fWeight=ofQ x.w:=rfl
 have ex:x.toL.fDX=ofQ x.x:=rfl
 have ey:x.toL.fDY=ofQ x.y:=rfl
 unfold gF
 rw[hv]
 simp only[aUp,aUK]
 rw[vpt (fp _) (fq _)]
 simp only[aUp,aUK]
 rw[vpt (fp _) (fq _)]
 simp only[aUp,aVj,aUv,aUT]
 rw[px,px,py,py,ew,ex,ey,aFt (fp _) (fp _) f1]
 simp only[aUp]
 rw[aFt f1 fx f2]
 simp only[aUp]
 rw[aFt (fq _) (fq _) f4]
 simp only[aUp]
 rw[aFt f4 fy f5]
 simp only[aUp]
 have sq:=(aTc (jZ f2) (jZ f5)).2.1
 unfold sqR at sq
 rw[aFn f2 f2 f3,aFn f5 f5 f6,aHn f3 f6 f7]at sq
 rw[sq]
 simp only[aUp]
 have mm:bU (ofQ x.w) (ofQ (sqQ (p x.b-p x.a-x.x) (q x.b-q x.a-x.y)))=some (ofQ (eP p q x)):=aF4 fw f7 f8
 unfold sqQ at mm
 rw[mm]
 rfl
end
theorem aOe {f:QL->Q}:∀ {l:List QL},(∀ x∈l,0<=f x/\f x<=((2278125000:Nat):Q))->0<=sm f l/\sm f l<=((2278125000*l.length:Nat):Q)
 | [],_=>by simp[sm]
 | x::l,h=>by
  obtain⟨a,b⟩:=h x (by simp)
  obtain⟨c,d⟩:=aOe (f:=f) (l:=l) fun y hy=>h y (by simp[hy])
  have e:2278125000*(x::l).length=2278125000+2278125000*l.length:=by rw[aUC];omega
  rw[e,sm,aW7]
  constructor <;> grind
theorem aOh {T:Nat}{f:QL->Q}:∀ {l:List QL},(∀ x∈l,Dv T (f x))->Dv T (sm f l)
 | [],_=>⟨0,by simp[sm]⟩
 | x::l,h=>kN (h x (by simp)) (aOh fun y hy=>h y (by simp[hy]))
section
variable {l:List QL}{o:List Int}
theorem Tie.total (h:Tie l o):jS (l.map QL.toL) (yL (tF (aD l o o [])).toNat (aD l o o []))=some (ofQ (sn (fun n=>n.enQ) (aD l o o [])),true):=by
 have hl:=h.len
 have nb:=h.netB
 obtain⟨T,b1,sx,sy⟩:=aDq _ 0 nb.nb
 have t2:=aUE b1 nb.ep
 have bl:=nb.len
 have hp:aBo T 5600 (sol (·.x) (aD l o o [])):=⟨sx.1,fun u=>⟨(sx.2 u).1,aD5 (sx.2 u).2 (by omega)⟩⟩
 have hq:aBo T 5600 (sol (·.y) (aD l o o [])):=⟨sy.1,fun u=>⟨(sy.2 u).1,aD5 (sy.2 u).2 (by omega)⟩⟩
 obtain⟨t1,g0,g9,t4⟩:=nb.top
 have ml:=yK (tF (aD l o o [])).toNat (aD l o o [])
 have tt6:T*T<=PP ^ 6:=iB (a:=6) (by
  have:=aUX t2 t2
  rw[<- Nat.pow_add]at this;exact this) (by omega)
 have part:∀ {a b:List QL},l=a++b->bN (sm (eP (sol (·.x) (aD l o o [])) (sol (·.y) (aD l o o []))) a):=fun {a b} e=>by
  have hin:∀ x∈a,x∈l:=fun x hx=>by rw[e];simp[hx]
  have d:=aOh (T:=T*T) (l:=a) (f:=eP (sol (·.x) (aD l o o [])) (sol (·.y) (aD l o o []))) fun x hx=>(aBZ (h.lk x (hin x hx)) hp hq t2).2.2.2.2.2.2.2.1
  obtain⟨c1,c2⟩:=aOe (l:=a) (f:=eP (sol (·.x) (aD l o o [])) (sol (·.y) (aD l o o []))) fun x hx=>by
   obtain⟨_,_,_,_,_,_,_,_,p1,p2,_⟩:=aBZ (h.lk x (hin x hx)) hp hq t2
   exact⟨p1,p2⟩
  have al:a.length<=8:=by rw[e,aUF]at hl;omega
  refine cS (B:=2278125000*8) (aU6 hp.1 hp.1) d ?_ (by omega) (by omega) tt6
  have:=aC5 (m:=2278125000*a.length) (n:=2278125000*8) (by omega)
  have n0:=zY (2278125000*8)
  unfold bd
  constructor <;> grind
 have main:∀ (b a:List QL),l=a++b->lp (jD (l.map QL.toL) (yL (tF (aD l o o [])).toNat (aD l o o []))) ((a.length:Int),ofQ (sm (eP (sol (·.x) (aD l o o [])) (sol (·.y) (aD l o o []))) a))=some (.inl (ofQ (sm (eP (sol (·.x) (aD l o o [])) (sol (·.y) (aD l o o []))) l))):=by
  intro b
  induction b with
  | nil =>
   intro a e
   rw[aVx]at e
   have el:(l.map QL.toL).length=a.length:=by rw[aUM,e]
   refine aG ?_
   unfold jD
   simp only[]
   rw[aUq (by omega),<- e]
  | cons x b ih =>
   intro a e
   have el:(l.map QL.toL).length=a.length+1+b.length:=by rw[aUM,e];simp;omega
   have el8:(l.map QL.toL).length<=8:=by rw[aUM];exact hl
   have hx:x∈l:=by rw[e];simp
   have e2:l=(a++[x])++b:=by rw[e];simp
   have hi:=h.lk x hx
   have fa:=part e
   have fb:=part e2
   have fe:=(aBZ hi hp hq t2).2.2.2.2.2.2.2.2.2.2
   have eL:sm (eP (sol (·.x) (aD l o o [])) (sol (·.y) (aD l o o []))) (a++[x])=sm (eP (sol (·.x) (aD l o o [])) (sol (·.y) (aD l o o []))) a+eP (sol (·.x) (aD l o o [])) (sol (·.y) (aD l o o [])) x:=by
    rw[rI];simp only[sm];grind
   rw[eL]at fb
   have hg:idx (l.map QL.toL) (a.length:Int)=some x.toL:=by
    rw[aFw,List.getElem?_map]
    have:l[a.length]?=some x:=by
     have:=congrArg (fun z:List QL=>z[a.length]?) e
     simpa using this
    rw[this];rfl
   have inN:∀ u,(u=x.a\/u=x.b)->0<=u/\u<=(((tF (aD l o o [])).toNat:Nat):Int)/\(u=0\/∃ c∈aD l o o [],c.node=u):=fun u hu=>by
    have h1:=hi.1
    by_cases c:u=0
    · exact⟨by omega,by omega,.inl c⟩
    · have hm:u∈o:=(h.mem u).2 ⟨by omega,x,hx,by rcases hu with rfl | rfl <;> simp⟩
      obtain⟨c0,hc0,ec0⟩:=aFH (l:=l) hm
      have:=t4 c0 hc0
      exact⟨by omega,by omega,.inr ⟨c0,hc0,ec0⟩⟩
   obtain⟨a1,a2,a3⟩:=inN x.a (.inl rfl)
   obtain⟨b1,b2,b3⟩:=inN x.b (.inr rfl)
   have ga:=aDD (G:=(tF (aD l o o [])).toNat) a1 a2 a3
   have gb:=aDD (G:=(tF (aD l o o [])).toNat) b1 b2 b3
   clear a3 b3
   have ia:idx (yL (tF (aD l o o [])).toNat (aD l o o [])) x.a=some (ptQ (sol (·.x) (aD l o o [])) (sol (·.y) (aD l o o [])) x.a):=by unfold idx;rw[aUs a1];exact ga
   have ib:idx (yL (tF (aD l o o [])).toNat (aD l o o [])) x.b=some (ptQ (sol (·.x) (aD l o o [])) (sol (·.y) (aD l o o [])) x.b):=by unfold idx;rw[aUs b1];exact gb
   refine(aO ?_).trans (ih (a++[x]) e2)
   have hpl:(((a++[x]).length:Nat):Int)=(a.length:Int)+1:=by simp
   have fA:x.toL.fA=x.a:=rfl
   have fB:x.toL.fB=x.b:=rfl
   unfold jD
   simp only[]
   rw[aUs (by omega),hg]
   simp only[aUp]
   rw[fA,fB,aUq (by omega),aUq (by omega),aUq (by omega),aUt (by omega)]
   simp only[aUp,aUv,aUT]
   rw[ia]
   simp only[aUp]
   rw[ib]
   simp only[aUp]
   rw[aMN hi hp hq t2]
   simp only[aUp]
   rw[aDv fa fe fb]
   simp only[aUp]
   rw[wi (n:=(a.length:Int)+1) (by omega),hpl,eL]
 have m:=main l [] rfl
 have z:sm (eP (sol (·.x) (aD l o o [])) (sol (·.y) (aD l o o []))) []=0:=rfl
 rw[z,show((([]:List QL).length:Nat):Int)=0 from rfl]at m
 unfold jS
 rw[bS 0 (by omega),aBq]
 simp only[aUp]
 rw[m]
 simp only[aUp]
 rw[aEF (part (b:=[]) (by simp)),aTd h]
 rfl
end
/- The map of a drawn factor list: the program. -/
def AtQ (l:List QL)(o:List Int):List Point:=yL (tF (aD l o o [])).toNat (aD l o o [])
def PtQ (l:List QL)(o:List Int)(u:Int):Point:=ptQ (sol (·.x) (aD l o o [])) (sol (·.y) (aD l o o [])) u
def EnQ (l:List QL)(o:List Int):Q:=sn (fun n=>n.enQ) (aD l o o [])
section
variable {l:List QL}{o:List Int}
theorem Tie.pos (h:Tie l o):∃ T,T<=PP ^ 3/\aBo T 5600 (sol (·.x) (aD l o o []))/\aBo T 5600 (sol (·.y) (aD l o o [])):=by
 have nb:=h.netB
 obtain⟨T,b1,sx,sy⟩:=aDq _ 0 nb.nb
 have t2:=aUE b1 nb.ep
 have bl:=nb.len
 exact⟨T,t2,⟨sx.1,fun u=>⟨(sx.2 u).1,aD5 (sx.2 u).2 (by omega)⟩⟩,⟨sy.1,fun u=>⟨(sy.2 u).1,aD5 (sy.2 u).2 (by omega)⟩⟩⟩
theorem Tie.fit (h:Tie l o)(u:Int):bN (sol (·.x) (aD l o o []) u)/\bN (sol (·.y) (aD l o o []) u):=by
 obtain⟨T,t,hp,hq⟩:=h.pos
 have t6:T<=PP ^ 6:=iB t (by omega)
 exact⟨cS hp.1 (hp.2 u).1 (hp.2 u).2 (by omega) (by omega) t6,cS hq.1 (hq.2 u).1 (hq.2 u).2 (by omega) (by omega) t6⟩
theorem Tie.at_i (h:Tie l o){u:Int}(hu:u=0\/u∈o):(0<=u/\u<(AtQ l o).length)/\(AtQ l o).length<=10/\idx (AtQ l o) u=some (PtQ l o u):=by
 obtain⟨t1,g0,g9,t4⟩:=h.netB.top
 have ml:=yK (tF (aD l o o [])).toNat (aD l o o [])
 have key:0<=u/\u<=(((tF (aD l o o [])).toNat:Nat):Int)/\(u=0\/∃ c∈aD l o o [],c.node=u):=by
  rcases hu with c | hm
  · exact⟨by omega,by omega,.inl c⟩
  · obtain⟨c0,hc0,ec0⟩:=aFH (l:=l) hm
    have:=t4 c0 hc0
    have:=h.five u hm
    exact⟨by omega,by omega,.inr ⟨c0,hc0,ec0⟩⟩
 obtain⟨a1,a2,a3⟩:=key
 have ga:=aDD (G:=(tF (aD l o o [])).toNat) a1 a2 a3
 clear a3
 unfold AtQ
 refine⟨⟨a1,by omega⟩,by omega,?_⟩
 unfold idx;rw[aUs a1];exact ga
theorem aIW (h:Tie l o){u:Int}(hu:u=0\/u∈o):nO (AtQ l o) u=some (PtQ l o u,true):=by
 obtain⟨⟨a1,a2⟩,_,a3⟩:=h.at_i hu
 obtain⟨f1,f2⟩:=h.fit u
 have e1:(PtQ l o u).fX=ofQ (sol (·.x) (aD l o o []) u):=rfl
 have e2:(PtQ l o u).fY=ofQ (sol (·.y) (aD l o o []) u):=rfl
 unfold nO
 rw[aUq (by omega),aUq (by omega),a3]
 simp only[aUp]
 rw[e1,aEF f1]
 simp only[aUp,aUK]
 rw[e2,aEF f2]
 rfl
theorem Tie.ends (h:Tie l o){x:QL}(hx:x∈l):(x.a=0\/x.a∈o)/\(x.b=0\/x.b∈o):=by
 have lk:=(h.lk x hx).1
 constructor
 · by_cases c:x.a=0
   · exact .inl c
   · exact .inr ((h.mem _).2 ⟨by omega,x,hx,.inl rfl⟩)
 · exact .inr ((h.mem _).2 ⟨by omega,x,hx,.inr rfl⟩)
theorem aIL {p:Q}(hp:bN p):eT (ofQ p) (ofQ p)=some true:=by
 have:=nC (jZ hp)
 rw[aBh _ _ (by omega),aUu rfl]
theorem aNf (h:Tie l o):bN (EnQ l o):=aFM (rem:=[]) h (by simp)
theorem aQX (h:Tie l o){x:QL}(hx:x∈l):∃ q:Q,bN q/\gF x.toL (PtQ l o x.a) (PtQ l o x.b)=some (ofQ q):=by
 obtain⟨T,t,hp,hq⟩:=h.pos
 exact⟨_,(aBZ (h.lk x hx) hp hq t).2.2.2.2.2.2.2.2.2.2,aMN (h.lk x hx) hp hq t⟩
end
section
variable {n:Int}{l:List Factor}
theorem aTl (h:GenL n l):∃ (ql:List QL) (o:List Int),ql.length=l.length/\Tie ql o/\nT l []=some (ql.map QL.toL,true)/\(∀ j (hj:j<l.length) (hq:j<ql.length),dM l l[j]=some ((ql[j]).toL,true)/\zR l l[j] ql[j])/\lR l []=some (AtQ ql o,ofQ (EnQ ql o),true):=by
 obtain⟨ql,e1,e2,e3⟩:=aQN h
 have th:=aRZ h e1 fun j hj hq=>⟨(e3 j hj hq).2.1,(e3 j hj hq).2.2⟩
 obtain⟨ls,hj,o,ho,ti⟩:=th.tie
 refine⟨ql,o,e1,ti,e2,fun j hj hq=>⟨(e3 j hj hq).1,(e3 j hj hq).2.2⟩,?_⟩
 have hz:=ti.sz
 have ol:=ti.base.len
 have bm:rZ l []=some (tG ql o,true):=by
  unfold rZ
  rw[e2]
  simp only[aUp,aUK]
  rw[(zQ _ (by omega)).2,hj]
  simp only[aUp,pk,aUK]
  rw[ho]
  simp only[aUp]
  rw[(aRm _ o (by omega) (by omega)).2,ti.build]
  rfl
 have se:=aQp ti
 have te:=aPx ti
 unfold lR
 rw[bm]
 simp only[aUp,aUK]
 rw[se]
 simp only[aUp]
 rw[te]
 simp only[aUp,aUK]
 have g:=aEF (aNf ti)
 unfold EnQ at g
 rw[g]
 rfl
end
/- The law of maps. -/
theorem aQ3 (c:l01Cur)(n:Int)(h:rH c):∀ (m:Nat) (k fi fh:Int),m+k=n->0<=k->n<=1000->rH ⟨c.fb,fi,fh⟩->∃ fi' fh',lp (pP n c) (k,fi,fh)=some (fi',fh')/\rH ⟨c.fb,fi',fh'⟩:=by
 intro m
 induction m with
 | zero =>
  intro k fi fh hm hk hn hc
  exact⟨fi,fh,aG (by unfold pP;simp only[];rw[aUq (by omega)]),hc⟩
 | succ m ih =>
  intro k fi fh hm hk hn hc
  obtain⟨r,a1,b1,c1,d1⟩:=aJk ⟨c.fb,fi,fh⟩ hc
  obtain⟨f2,g2,e2,c2⟩:=ih (k+1) r.2.fi r.2.fh (by omega) (by omega) hn (gZ c1 d1)
  refine⟨f2,g2,?_,c2⟩
  rw[aO (s':=(k+1,r.2.fi,r.2.fh)),e2]
  unfold pP
  simp only[]
  rw[aUs (by omega),a1]
  simp only[aUp]
  rw[wi (n:=k+1) (by omega)]
theorem aQD (code:List Int)(n:Int)(hn:0<=n/\n<=1000)(h:code.length<=1048576):∃ c,wC code n=some c/\rH c:=by
 obtain⟨c,e1,c1,f1⟩:=aRs code h
 obtain⟨f2,g2,e2,c2⟩:=aQ3 c n c1 n.toNat 0 c.fi c.fh (by omega) (by omega) hn.2 c1
 refine⟨⟨c.fb,f2,g2⟩,?_,c2⟩
 unfold wC
 rw[e1];simp only[aUp]
 rw[e2]
 rfl
theorem aTi (code:List Int)(n:Int)(hn:0<=n/\n<=1000)(h:code.length<=1048576):∃ k,tP code n=some k/\0<=k/\k<=65535:=by
 obtain⟨c,e1,c1⟩:=aQD code n hn h
 obtain⟨r,a1,b1,o1,d1⟩:=aJk ⟨c.fb,c.fi,c.fh⟩ c1
 obtain⟨r2,a2,b2,o2,d2⟩:=aJk ⟨c.fb,r.2.fi,r.2.fh⟩ (gZ o1 d1)
 refine⟨r.1*256+r2.1,?_,by omega,by omega⟩
 unfold tP
 rw[e1];simp only[aUp]
 rw[a1];simp only[aUp]
 rw[a2];simp only[aUp,aL]
 rw[wi (n:=r.1*256) (by omega),wi (n:=r.1*256+r2.1) (by omega)]
theorem aSk {n:Int}{l:List Factor}(h:GenL n l){k:Nat}(hk:k<l.length):kS l (l[k]).fId=some (k:Int):=by
 have hn:=h.1
 have hl:=h.2.2.1
 have id:∀ j (hj:j<l.length),(l[j]).fId=(j:Int)+1:=fun j hj=>by
  obtain⟨a,b⟩:=h.2.2.2 j hj
  rcases Int.lt_or_le n (j:Int)with c | c
  · exact(b c).1
  · exact(a c).1
 have e:aPt l (l[k]).fId=some k:=by
  unfold aPt
  refine List.findIdx?_eq_some_iff_getElem.2 ⟨hk,by simp,fun j hj=>?_⟩
  have:=id j (by omega)
  have:=id k hk
  simp only[aVb]
  omega
 rw[aJe l _ (by omega),e]
theorem aR0 {p q:Q}(hp:bN p)(hq:bN q)(z:Point)(hz:z=⟨ofQ p,ofQ q⟩):oL [z] [z]=some true:=by
 subst hz
 unfold oL
 rw[aUq (by simp),aO (s':=1),aG (r:=.inl ())]
 · rfl
 · unfold nR;rfl
 · unfold nR
   rw[aUs (by simp)]
   rw[show idx [(⟨ofQ p,ofQ q⟩:Point)] 0=some ⟨ofQ p,ofQ q⟩from rfl]
   simp only[aUp]
   rw[aIL hp,aIL hq]
   rfl
theorem aQI (code:List Int)(h:code.length<=1048576):vJ code=some true:=by
 obtain⟨l,n,e0,g⟩:=aSM code h
 have hn:=g.1
 have hl:=g.2.1
 have hl4:=g.2.2.1
 obtain⟨ql,o,ln,ti,e1,e2,e3⟩:=aTl g
 obtain⟨v,ev,v0,v1⟩:=aTi code 1 (by omega) h
 have k0:=Int.tmod_nonneg (l.length:Int) v0
 have k1:=Int.tmod_lt_of_pos v (show(0:Int)<(l.length:Int)by omega)
 obtain⟨k,ek⟩:=aVL k0
 have hk:k<l.length:=by omega
 have hq:k<ql.length:=by omega
 obtain⟨f1,f2⟩:=e2 k hk hq
 have hx:=aUA hq
 obtain⟨b1,b2⟩:=ti.ends hx
 obtain⟨⟨a1,a2⟩,a10,a3⟩:=ti.at_i b1
 obtain⟨⟨c1,c2⟩,_,c3⟩:=ti.at_i b2
 have tt:jS (ql.map QL.toL) (AtQ ql o)=some (ofQ (EnQ ql o),true):=ti.total
 have tm:=(aMR g (aUA hk)).2.2.2.1
 have nr:=aEu g tm
 have lk:=(ti.lk _ hx).1
 have no:nd l (l[k]).fTo∈o:=by
  refine(ti.mem _).2 ⟨nr.1,ql[k],hx,?_⟩
  unfold zR at f2
  split at f2 <;> omega
 obtain⟨⟨d1,d2⟩,_,d3⟩:=ti.at_i (.inr no)
 obtain⟨t1,t2⟩:=ti.fit (nd l (l[k]).fTo)
 obtain⟨eq,q1,q2⟩:=aQX ti hx
 have pos:oM l [] (l[k]).fTo=some (PtQ ql o (nd l (l[k]).fTo),true):=by
  unfold oM
  rw[aI2 g,e3]
  simp only[aUp,aUK]
  rw[aUt (by omega)]
  simp only[aUp,aUv,aUT]
  rw[aIW ti (.inr no)]
  rfl
 have fA:(ql[k]).toL.fA=(ql[k]).a:=rfl
 have fB:(ql[k]).toL.fB=(ql[k]).b:=rfl
 have il:idx l (k:Int)=some l[k]:=aH hk
 have iq:idx (ql.map QL.toL) (k:Int)=some (ql[k]).toL:=by
  rw[aH (by rw[aUM];exact hq),aVG]
 have one:lN l [] (l[k]).fId=some (ofQ eq):=by
  unfold lN
  rw[e3,aSk g hk]
  simp only[aUp,aUK]
  rw[aUt (by omega)]
  simp only[aUp,aUv,aUT]
  rw[il]
  simp only[aUp]
  rw[f1]
  simp only[aUp,aUK]
  rw[fA,fB,aIW ti b1,aIW ti b2]
  simp only[aUp,aUK,aVj,aUv,aUT]
  rw[q2]
  rfl
 have sb:sub (AtQ ql o) (nd l (l[k]).fTo) (nd l (l[k]).fTo+1)=some [PtQ ql o (nd l (l[k]).fTo)]:=by
  rw[tJ _ _ _ (by omega)]
  congr 1
  have hi:(nd l (l[k]).fTo).toNat<(AtQ ql o).length:=by omega
  rw[show(nd l (l[k]).fTo+1-nd l (l[k]).fTo).toNat=1 by omega,aUw hi,aWl,aWr]
  have:=aH hi
  rw[show(((nd l (l[k]).fTo).toNat:Nat):Int)=nd l (l[k]).fTo by omega,d3]at this
  rw[<- Option.some.inj this]
 have ek':v.tmod (l.length:Int)=(k:Int):=ek
 unfold vJ
 rw[aUq (by omega),e0]
 simp only[aUp]
 rw[e3]
 simp only[aUp]
 rw[e1]
 simp only[aUp]
 rw[tt]
 simp only[aUp,aUK]
 rw[aUt (by rw[aUM];omega)]
 simp only[aUp,aUv,aUT]
 rw[ev]
 simp only[aUp]
 rw[aI (by omega)]
 simp only[aUp]
 rw[ek',iq,il]
 simp only[aUp]
 rw[pos]
 simp only[aUp]
 rw[aI2 g]
 simp only[aUp,aUK]
 rw[fA,fB,aUq (by omega),aUq (by omega),aUq (by omega),aUq (by omega),aUq (by omega),aUt (by omega)]
 simp only[aUp,aUv,aUT]
 rw[one]
 simp only[aUp]
 rw[aIL (aNf ti)]
 simp only[aUp,aUK]
 rw[wi (n:=nd l (l[k]).fTo+1) (by omega),sb]
 simp only[aUp]
 rw[aR0 t1 t2 (PtQ ql o (nd l (l[k]).fTo)) rfl]
 simp only[aUp,aUK]
 rw[a3]
 simp only[aUp]
 rw[c3]
 simp only[aUp]
 rw[q2]
 simp only[aUp]
 rw[aIL q1]
 rfl
theorem aS6 (code:List Int)(_:okL (okI .u8) code):vJ code=some true:=by
 by_cases h:code.length<=1048576
 · exact aQI code h
 · unfold vJ;rw[aUs (by omega)]
end Go.Ev
