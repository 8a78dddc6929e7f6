/- Parts QD, QE, QF, P21, QG, QH, QI, QJ, QK, QM, QN, QO, QP, QR, QT, QU, PG1, VA, PS1. -/
import Derived.Test.YtlhoochohnnepaaGreatPb2
import Derived.Test.YtlhoochohnnepaaGreatPb1
import Derived.Test.YtlhoochohnnepaaGreatPa1
import Derived.Test.YtlhoochohnnepaaGreatLXd
set_option linter.all false
set_option maxHeartbeats 4000000
set_option maxRecDepth 20000
/- What joining keeps: sums, energies, order, scale. -/
namespace Go.Ev
def sm (f:QL->Q):List QL->Q
 | []=>0
 | x::l=>f x+sm f l
theorem mV (f:QL->Q):∀ a b:List QL,sm f (a++b)=sm f a+sm f b
 | [],b=>by simp only[aTO,sm];grind
 | x::a,b=>by rw[aTT,sm,sm,mV f a b,_root_.Rat.add_assoc]
theorem iE {f:QL->Q}:∀ {l:List QL},(∀ x∈l,0<=f x)->0<=sm f l
 | [],_=>by simp[sm]
 | x::l,h=>by
  have h1:=h x (by simp)
  have h2:=iE (f:=f) (l:=l) (fun y hy=>h y (by simp[hy]))
  rw[sm];grind
theorem aIN {f:QL->Q}:∀ {l:List QL},(∀ x∈l,0<=f x)->∀ x∈l,f x<=sm f l
 | y::l,h,x,hx=>by
  have h1:=h y (by simp)
  have h2:=iE (f:=f) (l:=l) (fun y hy=>h y (by simp[hy]))
  rw[sm]
  rcases aTM.1 hx with rfl | hx
  · grind
  · have:=aIN (f:=f) (l:=l) (fun y hy=>h y (by simp[hy])) x hx
    grind
theorem aL6 {f g:QL->Q}:∀ {l:List QL},(∀ x∈l,f x<=g x)->sm f l<=sm g l
 | [],_=>by simp[sm]
 | x::l,h=>by
  have h1:=h x (by simp)
  have h2:=aL6 (f:=f) (g:=g) (l:=l) (fun y hy=>h y (by simp[hy]))
  rw[sm,sm];grind
theorem aAZ (c:Q)(f:QL->Q):∀ l:List QL,sm (fun x=>c*f x) l=c*sm f l
 | []=>by simp[sm]
 | x::l=>by rw[sm,sm,aAZ c f l];grind
def enQ (l:QL):Q:=l.w*sqQ l.x l.y
def wt (l:QL):Q:=l.w
def mx (l:QL):Q:=l.w*l.x
def my (l:QL):Q:=l.w*l.y
theorem aR3 {k l:QL}(hk:0<k.w)(hl:0<l.w):enQ (mrg k l)+aGD k l=enQ k+enQ l:=by
 have:k.w+l.w≠0:=by grind
 unfold enQ mrg aGD sqQ
 simp only[]
 grind
theorem aLl (k l:QL):wt (mrg k l)=wt k+wt l:=rfl
theorem aR2 {k l:QL}(hk:0<k.w)(hl:0<l.w):mx (mrg k l)=mx k+mx l:=by
 have:k.w+l.w≠0:=by grind
 unfold mx mrg
 simp only[]
 grind
theorem aR1 {k l:QL}(hk:0<k.w)(hl:0<l.w):my (mrg k l)=my k+my l:=by
 have:k.w+l.w≠0:=by grind
 unfold my mrg
 simp only[]
 grind
theorem aMr {k l:QL}(hk:0<k.w)(hl:0<l.w):0<(mrg k l).w:=by
 show 0<k.w+l.w;grind
theorem zL {k l:QL}(c:¬cY k l)(d:¬cY l k):k.a=l.a/\k.b=l.b:=by unfold cY at c d;omega
theorem aEj {P:QL->Prop}(hP:∀ k l,k.a=l.a->k.b=l.b->P k->P l->P (mrg k l)):∀ (s:List QL) (l:QL),(∀ x∈s,P x)->P l->∀ x∈(kD s l).1,P x
 | [],l,_,hl,x,hx=>by simp[kD]at hx;subst hx;exact hl
 | k::s,l,hs,hl,x,hx=>by
  by_cases c:cY k l
  · rw[tZ c]at hx
    rcases aTM.1 hx with rfl | hx
    · exact hs _ (by simp)
    · exact aEj hP s l (fun y hy=>hs y (by simp[hy])) hl x hx
  · by_cases d:cY l k
    · rw[xJ c d]at hx
      rcases aTM.1 hx with rfl | hx
      · exact hl
      · exact hs x hx
    · rw[xI c d]at hx
      rcases aTM.1 hx with rfl | hx
      · exact hP _ _ (zL c d).1 (zL c d).2 (hs k (by simp)) hl
      · exact hs x (by simp[hx])
theorem aEi {f:QL->Q}(hf:∀ k l,k.a=l.a->k.b=l.b->0<k.w->0<l.w->f (mrg k l)=f k+f l):∀ (s:List QL) (l:QL),(∀ x∈s,0<x.w)->0<l.w->sm f (kD s l).1=sm f s+f l
 | [],l,_,hl=>by simp only[kD,sm];grind
 | k::s,l,hs,hl=>by
  by_cases c:cY k l
  · rw[tZ c,sm,sm,aEi hf s l (fun y hy=>hs y (by simp[hy])) hl];grind
  · by_cases d:cY l k
    · rw[xJ c d,sm];grind
    · rw[xI c d,sm,sm,hf _ _ (zL c d).1 (zL c d).2 (hs k (by simp)) hl];grind
theorem aMP:∀ (s:List QL) (l:QL),(∀ x∈s,0<x.w)->0<l.w->sm enQ (kD s l).1+(kD s l).2=sm enQ s+enQ l
 | [],l,_,hl=>by simp only[kD,sm];grind
 | k::s,l,hs,hl=>by
  by_cases c:cY k l
  · have:=aMP s l (fun y hy=>hs y (by simp[hy])) hl
    rw[tZ c,sm,sm];simp only[];grind
  · by_cases d:cY l k
    · rw[xJ c d,sm];grind
    · have:=aR3 (hs k (by simp)) hl
      rw[xI c d,sm,sm];simp only[];grind
theorem aKc {a b c:QL}(h:cY a b)(g:cY b c):cY a c:=by unfold cY at *;omega
theorem aKH:∀ (s:List QL) (l:QL),s.Pairwise cY->(kD s l).1.Pairwise cY
 | [],l,_=>by simp[kD]
 | k::s,l,h=>by
  rw[aUp]at h
  by_cases c:cY k l
  · rw[tZ c]
    simp only[]
    rw[aUp]
    refine⟨aEj (P:=fun x=>cY k x) (fun a b e1 e2 g1 g2=>?_) s l h.1 c,aKH s l h.2⟩
    exact g1
  · by_cases d:cY l k
    · rw[xJ c d]
      simp only[]
      rw[aUp]
      refine⟨fun x hx=>?_,aUp.2 h⟩
      rcases aTM.1 hx with rfl | hx
      · exact d
      · exact aKc d (h.1 x hx)
    · rw[xI c d]
      simp only[]
      rw[aUp]
      exact⟨fun x hx=>h.1 x hx,h.2⟩
def Sc (D:Nat)(l:QL):Prop:=0<l.w/\Dv D l.w/\Dv D (mx l)/\Dv D (my l)
theorem aSr {D:Nat}{k l:QL}(hk:Sc D k)(hl:Sc D l):Sc D (mrg k l):=by
 refine⟨aMr hk.1 hl.1,lF hk.2.1 hl.2.1,?_,?_⟩
 · rw[aR2 hk.1 hl.1];exact lF hk.2.2.1 hl.2.2.1
 · rw[aR1 hk.1 hl.1];exact lF hk.2.2.2 hl.2.2.2
theorem aSs {D E:Nat}{l:QL}(h:Sc D l)(hd:D∣E):Sc E l:=⟨h.1,xP h.2.1 hd,xP h.2.2.1 hd,xP h.2.2.2 hd⟩
def nm (D:Nat)(w:Q):Nat:=(w*(D:Q)).num.toNat
theorem zV {D:Nat}{w:Q}(hD:0<D)(hw:0<w)(h:Dv D w):(nm D w:Q)=w*(D:Q)/\0<nm D w:=by
 obtain⟨z,hz⟩:=h
 have hD':(0:Q)<(D:Q):=by
  have:((0:Nat):Q)<(D:Q):=aWG.2 hD
  simpa using this
 have hp:0<w*(D:Q):=aWF hw hD'
 have hzp:0<z:=by
  have:((0:Int):Q)<(z:Q):=by rw[<- hz];exact hp
  exact aWH.1 this
 unfold nm
 rw[hz]
 have e:((z:Q)).num=z:=rfl
 rw[e]
 refine⟨?_,by omega⟩
 have e2:((z.toNat:Int):Q)=(z:Q):=by rw[Int.toNat_of_nonneg (by omega)]
 exact e2
theorem aDP {D W:Nat}{w:Q}(hD:0<D)(hw:0<w)(h:Dv D w)(hW:w<=(W:Q)):nm D w<=W*D:=by
 have hD':(0:Q)<=(D:Q):=by
  have:((0:Nat):Q)<=(D:Q):=aVO.2 (aUB _)
  simpa using this
 have h1:=(zV hD hw h).1
 have h2:w*(D:Q)<=(W:Q)*(D:Q):=aVI hW hD'
 rw[<- h1,<- aUO]at h2
 exact aVO.1 h2
theorem aEn {D:Nat}{w a:Q}(hD:0<D)(hw:0<w)(h:Dv D w)(ha:Dv D a):Dv (nm D w) (a / w):=by
 obtain⟨z,hz⟩:=ha
 refine⟨z,?_⟩
 rw[(zV hD hw h).1,<- hz]
 have:w≠0:=by grind
 grind
theorem aSR {l:QL}(h:0<l.w):l.x=mx l / l.w/\l.y=my l / l.w:=by
 have:l.w≠0:=by grind
 unfold mx my
 constructor <;> grind
theorem aJp {D:Nat}{l:QL}(hD:0<D)(h:Sc D l):Dv (nm D l.w) l.x/\Dv (nm D l.w) l.y:=by
 rw[(aSR h.1).1,(aSR h.1).2]
 exact⟨aEn hD h.1 h.2.1 h.2.2.1,aEn hD h.1 h.2.1 h.2.2.2⟩
theorem aKJ {D:Nat}{l:QL}(hD:0<D)(h:Sc D l):Dv (D*nm D l.w) (enQ l):=by
 have e:enQ l=mx l*l.x+my l*l.y:=by unfold enQ sqQ mx my;grind
 rw[e]
 exact lF (sH h.2.2.1 (aJp hD h).1) (sH h.2.2.2 (aJp hD h).2)
def pn (D:Nat):List QL->Nat
 | []=>1
 | x::l=>nm D x.w*pn D l
theorem aLc (D:Nat):∀ a b:List QL,pn D (a++b)=pn D a*pn D b
 | [],b=>by simp[pn]
 | x::a,b=>by rw[aTT,pn,pn,aLc D a b,aUI]
theorem aGr (D:Nat):∀ {l:List QL},∀ x∈l,nm D x.w∣pn D l
 | y::l,x,hx=>by
  rw[pn]
  rcases aTM.1 hx with rfl | hx
  · exact aVZ _ _
  · exact aWc (aGr D x hx) (aV4 _ _)
theorem aDd {D:Nat}(hD:0<D):∀ {l:List QL},(∀ x∈l,Sc D x)->0<pn D l
 | [],_=>by simp[pn]
 | x::l,h=>aUq (zV hD (h x (by simp)).1 (h x (by simp)).2.1).2 (aDd hD (fun y hy=>h y (by simp[hy])))
theorem aGs {D W:Nat}(hD:0<D):∀ {l:List QL},(∀ x∈l,Sc D x)->(∀ x∈l,x.w<=(W:Q))->pn D l<=(W*D) ^ l.length
 | [],_,_=>by simp[pn]
 | x::l,h,g=>by
  rw[pn,aUh,aU0,aUm]
  exact aUd (aGs hD (fun y hy=>h y (by simp[hy])) (fun y hy=>g y (by simp[hy]))) (aDP hD (h x (by simp)).1 (h x (by simp)).2.1 (g x (by simp)))
theorem aHu {T:Nat}{f:QL->Q}:∀ {l:List QL},(∀ x∈l,Dv T (f x))->Dv T (sm f l)
 | [],_=>⟨0,by simp[sm]⟩
 | x::l,h=>lF (h x (by simp)) (aHu (fun y hy=>h y (by simp[hy])))
theorem aHk {D:Nat}(hD:0<D){l:List QL}(h:∀ x∈l,Sc D x):Dv (D*pn D l) (sm enQ l) :=
 aHu fun x hx=>xP (aKJ hD (h x hx)) (aVu D (aGr D x hx))
/- Joining computes with few digits only. -/
def bd (B:Nat)(q:Q):Prop:=-(B:Q)<=q/\q<=(B:Q)
theorem xN (n:Nat):(0:Q)<=(n:Q):=by
 have:((0:Nat):Q)<=(n:Q):=aVO.2 (aUB _)
 simpa using this
theorem aQJ {n:Nat}(h:0<n):(0:Q)<(n:Q):=by
 have:((0:Nat):Q)<(n:Q):=aWG.2 h
 simpa using this
theorem aBS {m n:Nat}(h:m<=n):(m:Q)<=(n:Q):=aVO.2 h
theorem xT {A B:Nat}{p:Q}(h:bd A p)(hl:A<=B):bd B p:=by
 have:=aBS hl
 unfold bd at *;grind
theorem aDp {A B:Nat}{p q:Q}(hp:bd A p)(hq:bd B q):bd (A+B) (p+q):=by
 unfold bd at *;rw[aWI];grind
theorem aBm {A B:Nat}{p q:Q}(hp:bd A p)(hq:bd B q):bd (A+B) (p-q):=by
 unfold bd at *;rw[aWI];grind
theorem aPH {A:Nat}{p:Q}(hp:bd A p):bd A (-p):=by
 unfold bd at *;grind
theorem oM {A B:Nat}{p q:Q}(hp:bd A p)(hq:bd B q):bd (A*B) (p*q):=by
 unfold bd at *
 rw[aUO]
 have a1:0<=((A:Q)-p)*((B:Q)+q):=aUt (by grind) (by grind)
 have a2:0<=((A:Q)+p)*((B:Q)-q):=aUt (by grind) (by grind)
 have a3:0<=((A:Q)+p)*((B:Q)+q):=aUt (by grind) (by grind)
 have a4:0<=((A:Q)-p)*((B:Q)-q):=aUt (by grind) (by grind)
 constructor <;> grind
theorem aEQ {A:Nat}{p w:Q}(hw:0<w)(h1:-(A:Q)*w<=p)(h2:p<=(A:Q)*w):bd A (p / w):=by
 have e:p / w*w=p:=_root_.Rat.div_mul_cancel (by grind)
 constructor
 · exact aWE (by rw[e];exact h1) hw
 · exact aWE (by rw[e];exact h2) hw
theorem aC9 {A:Nat}{w x:Q}(hw:0<w)(h:bd A x):-(A:Q)*w<=w*x/\w*x<=(A:Q)*w:=by
 have h1:0<=w*(x+A):=aUt (by grind) (by unfold bd at h;grind)
 have h2:0<=w*(A-x):=aUt (by grind) (by unfold bd at h;grind)
 constructor <;> grind
theorem aJl {A:Nat}{w v x y:Q}(hw:0<w)(hv:0<v)(hx:bd A x)(hy:bd A y):bd A ((w*x+v*y) / (w+v)):=by
 obtain⟨a1,a2⟩:=aC9 hw hx
 obtain⟨b1,b2⟩:=aC9 hv hy
 exact aEQ (by grind) (by grind) (by grind)
def PP:Nat:=72 ^ 16
theorem aSz:0<PP:=by decide
theorem uI {a b T U:Nat}(h:T<=PP ^ a)(g:U<=PP ^ b):T*U<=PP ^ (a+b):=by
 rw[Nat.pow_add];exact aUd h g
theorem iK {a b T:Nat}(h:T<=PP ^ a)(g:a<=b):T<=PP ^ b:=aTY h (aUu aSz g)
theorem dP {T B:Nat}{q:Q}(hT:0<T)(h:Dv T q)(h1:bd B q)(hB:0<B)(b:B<=10 ^ 12)(t:T<=PP ^ 6):bH q:=by
 refine aFK hT h h1.1 h1.2 hB (aU6 (aUd b t) ?_)
 rw[aNS];unfold PP;decide
theorem aMZ {W:Nat}{w:Q}(h:0<w)(h2:w<=(W:Q)):bd W w:=⟨by have:=xN W;grind,h2⟩
structure Lk (D X:Nat)(l:QL):Prop where
 sc:Sc D l
 bx:bd X l.x
 by':bd X l.y
theorem aSC {D X:Nat}{k l:QL}(hk:Lk D X k)(hl:Lk D X l):Lk D X (mrg k l) :=
 ⟨aSr hk.sc hl.sc,aJl hk.sc.1 hl.sc.1 hk.bx hl.bx,aJl hk.sc.1 hl.sc.1 hk.by' hl.by'⟩
theorem aGT {D X:Nat}{l:QL}(hD:0<D)(hP:72*D<=PP)(h:Lk D X l)(hX:X<=1000)(h0:0<X)(hw:l.w<=72):l.fit:=by
 have hn:=aDP hD h.sc.1 h.sc.2.1 (W:=72) hw
 have np:=(zV hD h.sc.1 h.sc.2.1).2
 obtain⟨x1,x2⟩:=aJp hD h.sc
 have e1:D<=PP ^ 6:=iK (a:=1) (by rw[aU7];omega) (by omega)
 have e2:nm D l.w<=PP ^ 6:=iK (a:=1) (by rw[aU7];omega) (by omega)
 exact⟨dP hD h.sc.2.1 (aMZ (W:=72) h.sc.1 hw) (by omega) (by omega) e1,dP np x1 h.bx h0 (by omega) e2,dP np x2 h.by' h0 (by omega) e2⟩
theorem aNo {D X:Nat}{k l:QL}(hD:0<D)(hP:72*D<=PP)(hX:X<=1000)(h0:0<X)(hk:Lk D X k)(hl:Lk D X l)(hw:k.w+l.w<=72):aJa k l:=by
 have pk:=hk.sc.1
 have pl:=hl.sc.1
 have kw:k.w<=((72:Nat):Q):=by show k.w<=72;grind
 have lw:l.w<=((72:Nat):Q):=by show l.w<=72;grind
 have sw:k.w+l.w<=((72:Nat):Q):=hw
 have dk:=hk.sc.2.1
 have dl:=hl.sc.2.1
 have ds:=lF dk dl
 have ps:0<k.w+l.w:=by grind
 have nk:=aDP hD pk dk kw
 have nl:=aDP hD pl dl lw
 have ns:=aDP hD ps ds sw
 have qk:=(zV hD pk dk).2
 have ql:=(zV hD pl dl).2
 obtain⟨qe,qs⟩:=zV hD ps ds
 obtain⟨xk,yk⟩:=aJp hD hk.sc
 obtain⟨xl,yl⟩:=aJp hD hl.sc
 have eD:D<=PP ^ 1:=by rw[aU7];omega
 have eK:nm D k.w<=PP ^ 1:=by rw[aU7];omega
 have eL:nm D l.w<=PP ^ 1:=by rw[aU7];omega
 have eS:nm D (k.w+l.w)<=PP ^ 1:=by rw[aU7];omega
 have bk:=aMZ pk kw
 have bl':=aMZ pl lw
 have bs:=aMZ ps sw
 have X2:X*X<=1000000:=aUd hX hX
 have X3:0<X*X:=aUq h0 h0
 have cw:Dv (D*nm D (k.w+l.w)) (k.w*l.w / (k.w+l.w)):=by
  obtain⟨z,hz⟩:=sH dk dl
  refine⟨z,?_⟩
  rw[<- hz,aUO,aUO,qe]
  have:k.w+l.w≠0:=by grind
  grind
 have cb:bd 72 (k.w*l.w / (k.w+l.w)):=by
  have e:=aC9 pk bl'
  have p2:0<k.w*k.w:=aWF pk pk
  have p3:0<k.w*l.w:=aWF pk pl
  exact aEQ ps (by have:=xN 72;have:=aUt this (Std.le_of_lt ps);grind) (by have:=aUt (xN 72) (Std.le_of_lt pl);grind)
 have dx:=oN (pL (nm D l.w) xk) (by rw[aUm];exact pL (nm D k.w) xl)
 have dy:=oN (pL (nm D l.w) yk) (by rw[aUm];exact pL (nm D k.w) yl)
 have bx:=aBm hk.bx hl.bx
 have by_:=aBm hk.by' hl.by'
 have qn:0<nm D k.w*nm D l.w:=aUq qk ql
 have en2:nm D k.w*nm D l.w<=PP ^ 2:=uI eK eL
 have dxx:=sH dx dx
 have dyy:=sH dy dy
 have qnn:=aUq qn qn
 have en4:(nm D k.w*nm D l.w)*(nm D k.w*nm D l.w)<=PP ^ 4:=uI en2 en2
 have bxx:=oM bx bx
 have byy:=oM by_ by_
 have e4:(X+X)*(X+X)=4*(X*X):=by rw[<- Nat.two_mul,Nat.mul_mul_mul_comm]
 rw[e4]at bxx byy
 have bsq:=aDp bxx byy
 have dsq:=lF dxx dyy
 refine⟨⟨?_,?_,?_,?_,?_⟩,⟨?_,?_,?_,?_⟩,⟨?_,?_,?_,?_⟩,?_,?_,?_,?_⟩
 · exact dP hD ds bs (by omega) (by omega) (iK eD (by omega))
 · exact dP hD hk.sc.2.2.1 (oM bk hk.bx) (by omega) (by omega) (iK eD (by omega))
 · exact dP hD hl.sc.2.2.1 (oM bl' hl.bx) (by omega) (by omega) (iK eD (by omega))
 · exact dP hD (lF hk.sc.2.2.1 hl.sc.2.2.1) (aDp (oM bk hk.bx) (oM bl' hl.bx)) (by omega) (by omega) (iK eD (by omega))
 · exact dP qs (aEn hD ps ds (lF hk.sc.2.2.1 hl.sc.2.2.1)) (aJl pk pl hk.bx hl.bx) h0 (by omega) (iK eS (by omega))
 · exact dP hD hk.sc.2.2.2 (oM bk hk.by') (by omega) (by omega) (iK eD (by omega))
 · exact dP hD hl.sc.2.2.2 (oM bl' hl.by') (by omega) (by omega) (iK eD (by omega))
 · exact dP hD (lF hk.sc.2.2.2 hl.sc.2.2.2) (aDp (oM bk hk.by') (oM bl' hl.by')) (by omega) (by omega) (iK eD (by omega))
 · exact dP qs (aEn hD ps ds (lF hk.sc.2.2.2 hl.sc.2.2.2)) (aJl pk pl hk.by' hl.by') h0 (by omega) (iK eS (by omega))
 · exact dP (aUq hD hD) (sH dk dl) (oM bk bl') (by omega) (by omega) (iK (uI eD eD) (by omega))
 · exact dP (aUq hD qs) cw cb (by omega) (by omega) (iK (uI eD eS) (by omega))
 · exact dP qn dx bx (by omega) (by omega) (iK en2 (by omega))
 · exact dP qn dy by_ (by omega) (by omega) (iK en2 (by omega))
 · exact dP qnn dxx bxx (by omega) (by omega) (iK en4 (by omega))
 · exact dP qnn dyy byy (by omega) (by omega) (iK en4 (by omega))
 · exact dP qnn dsq bsq (by omega) (by omega) (iK en4 (by omega))
 · exact dP (aUq (aUq hD qs) qnn) (sH cw dsq) (oM cb bsq) (by omega) (by omega) (uI (uI eD eS) en4)
/- Joining succeeds where scale and energies are small. -/
def inV (V:List Int)(x:QL):Prop:=x.a∈V/\x.b∈V/\x.a<x.b
theorem aLf {s:List QL}(h:s.Pairwise cY):(s.map fun x=>(x.a,x.b)).Nodup:=by
 rw[List.Nodup,aVa]
 refine h.imp fun {a b} hab e=>?_
 injection e with e1 e2
 unfold cY at hab;omega
theorem aJY {s:List QL}(h:s.Pairwise cY):(s.map fun x=>(x.b,x.a)).Nodup:=by
 rw[List.Nodup,aVa]
 refine h.imp fun {a b} hab e=>?_
 injection e with e1 e2
 unfold cY at hab;omega
theorem aJW (V:List Int):∀ U:List Int,(U.flatMap fun u=>V.map fun v=>(u,v)).length=U.length*V.length
 | []=>by simp
 | u::U=>by rw[aUk,aT4,aJW V U,aTZ,aUh,aVn,Nat.add_comm]
theorem aGG {U V:List Int}{u v:Int}(hu:u∈U)(hv:v∈V):(u,v)∈U.flatMap fun u=>V.map fun v=>(u,v) :=
 aVh.2 ⟨u,hu,aT5.2 ⟨v,hv,rfl⟩⟩
theorem aDC {V:List Int}(hV:V.Nodup){s:List QL}(ho:s.Pairwise cY)(h:∀ x∈s,inV V x):2*s.length+V.length<=V.length*V.length:=by
 have n1:((s.map fun x=>(x.a,x.b))++((s.map fun x=>(x.b,x.a))++V.map fun v=>(v,v))).Nodup:=by
  rw[aT6,aT6]
  refine⟨aLf ho,⟨aJY ho,?_,?_⟩,?_⟩
  · rw[List.Nodup,aVa]
    exact hV.imp fun {a b} hab e=>by injection e with e1 e2;exact hab e1
  · intro p hp q hq e
    obtain⟨x,hx,rfl⟩:=aT5.1 hp
    obtain⟨v,hv,rfl⟩:=aT5.1 hq
    injection e with e1 e2
    have:=(h x hx).2.2;omega
  · intro p hp q hq e
    obtain⟨x,hx,rfl⟩:=aT5.1 hp
    have:=(h x hx).2.2
    rcases aTR.1 hq with hq | hq
    · obtain⟨y,hy,rfl⟩:=aT5.1 hq
      injection e with e1 e2
      have:=(h y hy).2.2;omega
    · obtain⟨v,hv,rfl⟩:=aT5.1 hq
      injection e with e1 e2;omega
 have:=n1.length_le_of_subset (l₂:=V.flatMap fun u=>V.map fun v=>(u,v)) (fun p hp=>by
  rcases aTR.1 hp with hp | hp
  · obtain⟨x,hx,rfl⟩:=aT5.1 hp
    exact aGG (h x hx).1 (h x hx).2.1
  · rcases aTR.1 hp with hp | hp
    · obtain⟨x,hx,rfl⟩:=aT5.1 hp
      exact aGG (h x hx).2.1 (h x hx).1
    · obtain⟨v,hv,rfl⟩:=aT5.1 hp
      exact aGG hv hv)
 rw[aJW]at this
 simp only[aT4,aTZ]at this
 omega
theorem aIu:∀ (s:List QL) (l:QL),(∀ k∈s,k.w+l.w≠0/\aJa k l)->aDq s l
 | [],_,_=>trivial
 | k::s,l,h=>by
  unfold aDq
  split
  · exact aIu s l (fun y hy=>h y (by simp[hy]))
  · split
    · trivial
    · exact h k (by simp)
theorem aCz {l:QL}(h:0<l.w):0<=enQ l:=by
 unfold enQ sqQ
 have h0:∀ z:Q,0<=z*z:=fun z=>by
  rcases _root_.Rat.le_total (a:=0) (b:=z)with c | c
  · exact aUt c c
  · have:=aUt (a:=-z) (b:=-z) (by grind) (by grind);grind
 exact aUt (by grind) (by have:=h0 l.x;have:=h0 l.y;grind)
theorem aRB {D X:Nat}{l:QL}(h:Lk D X l):enQ l<=((2*(X*X):Nat):Q)*l.w:=by
 have h1:=oM h.bx h.bx
 have h2:=oM h.by' h.by'
 have h3:=aDp h1 h2
 have e:X*X+X*X=2*(X*X):=by omega
 rw[e]at h3
 have:=(aC9 h.sc.1 h3).2
 unfold enQ sqQ;exact this
theorem aOb {D X:Nat}{l:List QL}(h:∀ x∈l,Lk D X x):sm enQ l<=((2*(X*X):Nat):Q)*sm wt l:=by
 rw[<- aAZ]
 exact aL6 fun x hx=>aRB (h x hx)
theorem uX {D X:Nat}{l:List QL}(h:∀ x∈l,Lk D X x)(hX:X<=800)(hw:sm wt l<=72):0<=sm enQ l/\sm enQ l<=((10 ^ 8:Nat):Q):=by
 refine⟨iE fun x hx=>aCz (h x hx).sc.1,?_⟩
 have h1:=aOb h
 have h2:X*X<=800*800:=aUd hX hX
 have h3:((2*(X*X):Nat):Q)*sm wt l<=((2*(X*X):Nat):Q)*72:=_root_.Rat.mul_le_mul_of_nonneg_left hw (xN _)
 have h4:((2*(X*X)*72:Nat):Q)<=((10 ^ 8:Nat):Q):=aBS (by omega)
 rw[aUO]at h4
 have h5:((72:Nat):Q)=72:=rfl
 rw[h5]at h4
 grind
theorem jF {D X:Nat}{l:List QL}(h:∀ x∈l,Lk D X x):0<=sm wt l:=iE fun x hx=>by have:=(h x hx).sc.1;unfold wt;grind
theorem xL {D X:Nat}{l:List QL}(h:∀ x∈l,Lk D X x){x:QL}(hx:x∈l):x.w<=sm wt l:=aIN (f:=wt) (fun y hy=>by have:=(h y hy).sc.1;unfold wt;grind) x hx
structure Jn (D T X γ:Nat)(V:List Int):Prop where
 hD:0<D
 hP:72*D<=PP
 hX:X<=800
 h0:0<X
 hT:0<T
 hV:V.Nodup
 hg:V.length*V.length<=2*γ+V.length
 hB:10 ^ 8*(T*(D*(72*D) ^ γ))<BB ^ 24
theorem aM3 {D T X γ:Nat}{V:List Int}(j:Jn D T X γ V){s:List QL}(hs:∀ x∈s,Lk D X x/\inV V x)(ho:s.Pairwise cY)(hw:sm wt s<=72):0<D*pn D s/\D*pn D s<=D*(72*D) ^ γ/\Dv (D*pn D s) (sm enQ s):=by
 have hl:=aDC j.hV ho (fun x hx=>(hs x hx).2)
 have hg:=j.hg
 have h1:=aGs (W:=72) j.hD (fun x hx=>(hs x hx).1.sc) (fun x hx=>by
  have:=xL (fun y hy=>(hs y hy).1) hx
  show x.w<=72;grind)
 have hD:=j.hD
 refine⟨aUq j.hD (aDd j.hD (fun x hx=>(hs x hx).1.sc)),aT7 D (aTY h1 (aUu (by omega) (by omega))),aHk j.hD (fun x hx=>(hs x hx).1.sc)⟩
theorem aNH {D T X γ:Nat}{V:List Int}(j:Jn D T X γ V){s:List QL}(hs:∀ x∈s,Lk D X x/\inV V x)(ho:s.Pairwise cY)(hw:sm wt s<=72){q:Q}(hq:Dv T q)(h0:0<=q)(h1:q<=((10 ^ 8:Nat):Q)):bH (q-sm enQ s):=by
 obtain⟨a1,a2,a3⟩:=aM3 j hs ho hw
 obtain⟨b1,b2⟩:=uX (fun x hx=>(hs x hx).1) j.hX hw
 have d:=oN (pL (D*pn D s) hq) (by rw[aUm];exact pL T a3)
 refine aFK (B:=10 ^ 8) (aUq j.hT a1) d ?_ ?_ (by omega) (aU6 (aT7 _ (aT7 T a2)) j.hB)
 · grind
 · grind
theorem aD6 {D T X γ:Nat}{V:List Int}(j:Jn D T X γ V):∀ (l s:List QL) (q:Q),(∀ x∈l,Lk D X x/\inV V x/\Dv T (enQ x))->(∀ x∈s,Lk D X x/\inV V x)->s.Pairwise cY->sm wt s+sm wt l<=72->Dv T q->0<=q->q+sm enQ l<=((10 ^ 8:Nat):Q)->
 aBe l s (q-sm enQ s)/\(∀ x∈(aR l s (q-sm enQ s)).1,Lk D X x/\inV V x)/\(aR l s (q-sm enQ s)).1.Pairwise cY/\(aR l s (q-sm enQ s)).2=q+sm enQ l-sm enQ (aR l s (q-sm enQ s)).1/\sm wt (aR l s (q-sm enQ s)).1=sm wt s+sm wt l
 | [],s,q,_,hs,ho,_,_,_,_=>by
  refine⟨trivial,hs,ho,?_,?_⟩
  · simp only[aR,sm];grind
  · simp only[aR,sm];grind
 | x::r,s,q,hl,hs,ho,hw,hq,h0,hb=>by
  obtain⟨x1,x2,x3⟩:=hl x (by simp)
  have hr:∀ y∈r,Lk D X y/\inV V y/\Dv T (enQ y):=fun y hy=>hl y (by simp[hy])
  rw[sm]at hw hb
  have wr:=jF (fun y hy=>(hr y hy).1)
  have ws:=jF (fun y hy=>(hs y hy).1)
  have wx:(0:Q)<wt x:=x1.sc.1
  have hp:∀ y∈s,0<y.w:=fun y hy=>(hs y hy).1.sc.1
  have e1:=aMP s x hp x1.sc.1
  have e2:=aEi (f:=wt) (fun k l _ _ _ _=>aLl k l) s x hp x1.sc.1
  have n1:=aEj (P:=fun y=>Lk D X y/\inV V y) (fun a b _ _ g1 g2=>⟨aSC g1.1 g2.1,g1.2⟩) s x hs ⟨x1,x2⟩
  have n2:=aKH s x ho
  have e3:q-sm enQ s+(kD s x).2=(q+enQ x)-sm enQ (kD s x).1:=by grind
  have er:=iE (f:=enQ) (fun y hy=>aCz (hr y hy).1.sc.1)
  have ex:=aCz x1.sc.1
  have hq':=lF hq x3
  obtain⟨g1,g2,g3,g4,g5⟩:=aD6 j r (kD s x).1 (q+enQ x) hr n1 n2 (by rw[e2];grind) hq' (by grind) (by grind)
  have ft:bH ((q+enQ x)-sm enQ (kD s x).1):=aNH j n1 n2 (by rw[e2];grind) hq' (by grind) (by grind)
  have af:aDq s x:=aIu s x fun k hk=>by
   have:=hp k hk
   have:=xL (fun y hy=>(hs y hy).1) hk
   unfold wt at wx
   refine⟨by grind,aNo j.hD j.hP (by have:=j.hX;omega) j.h0 (hs k hk).1 x1 (by
    have e:wt x=x.w:=rfl
    grind)⟩
  rw[aR,aBe,e3]
  refine⟨⟨af,ft,g1⟩,g2,g3,?_,?_⟩
  · rw[g4,sm];grind
  · rw[g5,e2,sm];grind
/- Comparison of links, conditionals, tree nodes; nodes that have changed. -/
theorem aF8 (a b:List Int)(h:a.length<=4294967296):pS a b=some (decide (a=b)):=by
 unfold pS
 by_cases hl:a.length=b.length
 · rw[aTJ (by omega),aJc a b hl (fun k ha hb=>by
    unfold rY
    rw[aTK (by omega),aM ha,aM hb,wi (by omega)]
    simp only[aTI]
    by_cases c:a[k]=b[k]
    · rw[aTJ (by simp[c]),aTK c]
    · rw[aTK c,aTJ c]) (by unfold rY;rw[aTJ (by omega)])]
   by_cases c:a=b <;> simp[c]
 · rw[aTK (by omega)]
   have:a≠b:=by rintro rfl;exact hl rfl
   simp[this]
theorem dD (r s:Rat)(h:bB r<=4294967296):cF r s=some (decide (r=s)):=by
 obtain⟨⟨a,m⟩,d⟩:=r
 obtain⟨⟨a',m'⟩,d'⟩:=s
 unfold bB vM yE at h
 rw[uC,uC]at h
 simp only at h
 unfold cF
 simp only[]
 rw[aF8 m m' (by omega),aF8 d d' (by omega)]
 by_cases c1:a=a' <;> by_cases c2:m=m' <;> by_cases c3:d=d' <;> simp[c1,c2,c3]
theorem aFf (r s:Rat)(h:bB r<=4294967296):sN r s=some (decide (r=s)):=dD r s h
theorem aK6 (r s:Link)(h:bW r<=4294967296):sW r s=some (decide (r=s)):=by
 obtain⟨a,b,w,x,y⟩:=r
 obtain⟨a',b',w',x',y'⟩:=s
 unfold bW at h
 simp only at h
 unfold sW
 simp only[]
 rw[dD w w' (by omega),dD x x' (by omega),dD y y' (by omega)]
 by_cases c1:a=a' <;> by_cases c2:b=b' <;> by_cases c3:w=w' <;> by_cases c4:x=x' <;> by_cases c5:y=y' <;> simp[c1,c2,c3,c4,c5]
theorem aAG (a b:List Link)(h:aK a<=4294967296):nJ a b=some (decide (a=b)):=by
 have hal:=jW bW a
 unfold aK at h
 unfold nJ
 by_cases hl:a.length=b.length
 · rw[aTJ (by omega),aJc a b hl (fun k ha hb=>by
    have he:=qB (w:=bW) (aT2 ha)
    unfold qD
    rw[aTK (by omega),aM ha,aM hb,wi (by omega)]
    simp only[aTI]
    rw[aK6 _ _ (by omega)]
    simp only[aTI]
    by_cases c:a[k]=b[k]
    · rw[aTK (by simp[c]),aTK c]
    · rw[aTJ (by simp[c]),aTJ c]) (by unfold qD;rw[aTJ (by omega)])]
   by_cases c:a=b <;> simp[c]
 · rw[aTK (by omega)]
   have:a≠b:=by rintro rfl;exact hl rfl
   simp[this]
theorem aBf (a b:Conditional)(h:aV a<=4294967296):jD a b=some (decide (a=b)):=by
 obtain⟨n,t,l⟩:=a
 obtain⟨n',t',l'⟩:=b
 have hal:=jW jN l
 unfold aV nT at h
 simp only at h
 unfold jD
 simp only[]
 rw[dD t t' (by omega)]
 by_cases c1:n=n'
 · by_cases c2:t=t'
   · by_cases hl:l.length=l'.length
     · have e:lp (gL ⟨n,t,l⟩ ⟨n',t',l'⟩) 0=some (if l=l' then .inl ()else .inr false):=aJc l l' hl (fun k ha hb=>by
        have he:=qB (w:=jN) (aT2 ha)
        unfold gL
        simp only[]
        rw[aTK (by omega),aM ha,aM hb,wi (by omega)]
        simp only[aTI]
        generalize l[k]=r at *
        generalize l'[k]=s at *
        obtain⟨a1,w,x,y⟩:=r
        obtain⟨a2,w',x',y'⟩:=s
        have hn:jN ⟨a1,w,x,y⟩=bB w+bB x+bB y:=rfl
        simp only[]
        rw[dD w w' (by omega),dD x x' (by omega),dD y y' (by omega)]
        by_cases c1:a1=a2 <;> by_cases c3:w=w' <;> by_cases c4:x=x' <;> by_cases c5:y=y' <;> simp[c1,c3,c4,c5]) (by unfold gL;simp only[];rw[aTJ (by omega)])
       rw[e]
       by_cases c:l=l' <;> simp[c1,c2,hl,c]
     · have:l≠l':=by rintro rfl;exact hl rfl
       have h2:(l.length:Int)≠(l'.length:Int):=by omega
       simp[c1,c2,this,h2]
   · simp[c1,c2]
 · simp[c1]
theorem aF7 (a b:TreeNode)(h:bU a<=4294967296):lX a b=some (decide (a=b)):=by
 obtain⟨n,u,o,c,m,e⟩:=a
 obtain⟨n',u',o',c',m',e'⟩:=b
 unfold bU at h
 simp only at h
 unfold lX
 simp only[]
 rw[aAG o o' (by omega),aBf c c' (by omega),aAG m m' (by omega),dD e e' (by omega)]
 by_cases c1:n=n' <;> by_cases c2:u=u' <;> by_cases c3:o=o' <;> by_cases c4:c=c' <;> by_cases c5:m=m' <;> by_cases c6:e=e' <;> simp[c1,c2,c3,c4,c5,c6]
/- Conditionals that are valid. -/
theorem aM0 (c:Conditional)(h:aV c<=4294967296)(hg:∀ j (hj:j<c.fParents.length),aGv c j c.fParents[j]):∀ m k:Nat,m+k=c.fParents.length->∀ s:Rat,VZ s->
 lp (bJ c) ((k:Int),s)=some (.inl (((c.fParents.drop k).map (·.fShare)).foldl RA s)):=by
 have hl:=(aI5 h).1
 intro m
 induction m with
 | zero =>
  intro k hk s hs
  rw[aUe (by omega)]
  exact aJ (by unfold bJ;simp only[];rw[aTJ (by omega)];rfl)
 | succ m ih =>
  intro k hk s hs
  have hlt:k<c.fParents.length:=by omega
  obtain⟨z1,z2,z3⟩:=aRr h hlt
  obtain⟨g1,g2⟩:=aAK _ z1
  have b1:=eM _ z2
  have b2:=eM _ z3
  obtain⟨A,B,C,D,E,F⟩:=hg k hlt
  obtain⟨t1,_,t3⟩:=aBC hs (.inl (aAv D))
  have w1:IntKind.i64.wrap ((k:Int)+1)=((k+1:Nat):Int):=by rw[wi (by omega)];omega
  have D':¬xX (c.fParents[k]).fShare<=0:=by omega
  have st:bJ c ((k:Int),s)=some (.inl (((k+1:Nat):Int),RA s (c.fParents[k]).fShare)):=by
   have hin:(k:Int)<(c.fParents.length:Int):=by omega
   unfold bJ
   simp only[hin,aT3,aM hlt,aTI,aCy,g1,b1,b2,t1,w1]
   by_cases K:0<k
   · have hlt2:k-1<c.fParents.length:=by omega
     have w2:IntKind.i64.wrap ((k:Int)-1)=((k-1:Nat):Int):=by rw[wi (by omega)];omega
     have K':(0:Int)<(k:Int):=by omega
     have C':=C (c.fParents[k-1]) K (by rw[aTS hlt2])
     have C'':¬(c.fParents[k]).fNode<=(c.fParents[k-1]).fNode:=by omega
     simp[A,B,K,K',D',w2,aM hlt2,C'',E,F]
   · have K':¬(0:Int)<(k:Int):=by omega
     simp[A,B,K,K',D',E,F]
  rw[aS st,ih (k+1) (by omega) _ t3,aTQ hlt]
  rfl
theorem aKQ (c:Conditional)(h:aV c<=4294967296)(h1:1<=c.fNode/\c.fNode<=9)(h2:0<xX c.fTotal)(h3:c.fParents≠[])(hg:∀ j (hj:j<c.fParents.length),aGv c j c.fParents[j])(hs:(c.fParents.map (·.fShare)).foldl RA (sF 0)=sF 1):bT c=some true:=by
 obtain⟨hl,hT⟩:=aI5 h
 obtain⟨g1,g2⟩:=aAK _ hT
 have e:=aM0 c h hg c.fParents.length 0 (by omega) (sF 0) aMg
 rw[show((0:Nat):Int)=0 from rfl,aUD,hs]at e
 have hp:(0:Int)<(c.fParents.length:Int):=by
  have:=List.length_pos_iff.2 h3;omega
 unfold bT
 rw[bY 0 (by omega),bY 1 (by omega)]
 simp only[aTI,e,g1,aBd]
 simp[h1,h2,h3,hp,aFf (sF 1) (sF 1) (VZs (.inl (aA1 1 (by omega))))]
/- Eliminating a node over the rational numbers. -/
def aFe (v:Int)(l:QL):Bool:=decide (l.a=v\/l.b=v)
def aBB (v:Int)(l:QL):QL:=if l.a=v then⟨l.b,v,l.w,-l.x,-l.y⟩else⟨l.a,v,l.w,l.x,l.y⟩
def bP (v:Int)(s:List QL):List QL:=(s.filter (aFe v)).map (aBB v)
def toA (a:QL):l08Arm:=⟨a.a,ofQ a.w,ofQ a.x,ofQ a.y⟩
theorem aPK (v:Int):∀ s:List QL,(∀ x∈s,x.fit)->bO v (s.map QL.toL)=(bP v s).map toA
 | [],_=>rfl
 | x::s,h=>by
  have ih:=aPK v s (fun y hy=>h y (by simp[hy]))
  obtain⟨h1,h2,h3⟩:=h x (by simp)
  unfold bO bP at ih ⊢
  rw[aTV,aUn,aUn]
  have e:tch v x.toL=aFe v x:=rfl
  rw[e]
  by_cases c:aFe v x=true
  · rw[aTK c,aTK c,aTV,aTV,aTV,ih]
    congr 1
    unfold aBw aBB QL.toL toA
    simp only[]
    by_cases d:x.a=v
    · rw[aTK d,aTK d,aSw h2,aSw h3]
    · rw[aTJ d,aTJ d]
  · rw[aTJ c,aTJ c,ih]
structure PQ where
 node:Int
 s:Q
 x:Q
 y:Q
structure CQ where
 node:Int
 t:Q
 ps:List PQ
def PQ.toP (p:PQ):Parent:=⟨p.node,ofQ p.s,ofQ p.x,ofQ p.y⟩
def CQ.toC (c:CQ):Conditional:=⟨c.node,ofQ c.t,c.ps.map PQ.toP⟩
def zH (t:Q)(a:QL):PQ:=⟨a.a,a.w / t,a.x,a.y⟩
def mlQ (t:Q)(a b:QL):QL:=⟨a.a,b.a,a.w*b.w / t,a.x-b.x,a.y-b.y⟩
def mX (t:Q):List QL->List QL
 | []=>[]
 | a::r=>r.map (mlQ t a)++mX t r
def pK (v:Int)(a:List QL):CQ:=⟨v,sm wt a,a.map (zH (sm wt a))⟩
structure Arms (D X:Nat)(v:Int)(a:List QL):Prop where
 hD:0<D
 hP:72*D<=PP
 hX:X<=400
 h0:0<X
 lk:∀ x∈a,Lk D X x
 hw:sm wt a<=72
 inc:a.Pairwise fun x y=>x.a<y.a
 nd:∀ x∈a,(0<=x.a/\x.a<=9)/\x.a≠v
 ne:a≠[]
 hv:1<=v/\v<=9
theorem Arms.pos {D X:Nat}{v:Int}{a:List QL}(h:Arms D X v a):0<sm wt a:=by
 obtain⟨x,hx⟩:=List.exists_mem_of_ne_nil a h.ne
 have:=xL h.lk hx
 have:=(h.lk x hx).sc.1
 grind
theorem aAt {D X:Nat}{a:List QL}(h:∀ x∈a,Lk D X x):Dv D (sm wt a):=aHu fun x hx=>(h x hx).sc.2.1
theorem Arms.le {D X:Nat}{v:Int}{a:List QL}(h:Arms D X v a){x:QL}(hx:x∈a):x.w<=72:=by
 have:=xL h.lk hx
 have:=h.hw
 grind
theorem Arms.fit {D X:Nat}{v:Int}{a:List QL}(h:Arms D X v a){x:QL}(hx:x∈a):x.fit:=aGT h.hD h.hP (h.lk x hx) (by have:=h.hX;omega) h.h0 (h.le hx)
theorem w72 {D:Nat}{q:Q}(hD:0<D)(hP:72*D<=PP)(h0:0<=q)(h1:q<=72)(hd:Dv D q):bH q:=by
 refine dP (B:=72) hD hd ⟨?_,h1⟩ (by omega) (by omega) (iK (a:=1) (by rw[aU7];omega) (by omega))
 have:=xN 72
 grind
theorem aPk {D X:Nat}(hD:0<D)(hP:72*D<=PP):∀ (a:List QL) (t:Q),(∀ x∈a,Lk D X x)->Dv D t->0<=t->t+sm wt a<=72->(a.map toA).foldl (fun t a=>RA t a.fweight) (ofQ t)=ofQ (t+sm wt a)
 | [],t,_,_,_,_=>by simp only[aUH,List.foldl_nil,sm];congr 1;grind
 | x::a,t,h,ht,h0,hw=>by
  have hx:=h x (by simp)
  have hr:=fun y hy=>h y (aUv x hy)
  have wr:=jF hr
  have wx:0<wt x:=hx.sc.1
  rw[sm]at hw ⊢
  have d2:=lF ht hx.sc.2.1
  have e:wt x=x.w:=rfl
  have f1:=w72 hD hP h0 (by grind) ht
  have f2:bH x.w:=w72 hD hP (by grind) (by grind) hx.sc.2.1
  have f3:bH (t+x.w):=w72 hD hP (by grind) (by grind) d2
  rw[aTV,aVe]
  have e1:RA (ofQ t) (toA x).fweight=ofQ (t+x.w):=aHo f1 f2 f3
  rw[e1,aPk hD hP a (t+x.w) hr d2 (by grind) (by grind)]
  congr 1;grind
theorem Arms.tot {D X:Nat}{v:Int}{a:List QL}(h:Arms D X v a):sJ (a.map toA)=ofQ (sm wt a):=by
 unfold sJ
 rw[aAe,aPk h.hD h.hP a 0 h.lk ⟨0,by simp⟩ (by grind) (by have:=h.hw;grind)]
 congr 1;grind
theorem Arms.ftot {D X:Nat}{v:Int}{a:List QL}(h:Arms D X v a):bH (sm wt a):=w72 h.hD h.hP (by have:=h.pos;grind) h.hw (aAt h.lk)
theorem aBM {D X:Nat}{v:Int}{a:List QL}(h:Arms D X v a){x:QL}(hx:x∈a):Dv (nm D (sm wt a)) (x.w / sm wt a)/\0<x.w / sm wt a/\x.w / sm wt a<=1:=by
 have hp:=h.pos
 have hl:=xL h.lk hx
 have hx0:=(h.lk x hx).sc.1
 refine⟨aEn h.hD hp (aAt h.lk) (h.lk x hx).sc.2.1,?_,?_⟩
 · rw[_root_.Rat.lt_div_iff hp];grind
 · have:=aEQ (A:=1) (p:=x.w) hp (by grind) (by have e:((1:Nat):Q)=1:=rfl;rw[e];grind)
   have e:((1:Nat):Q)=1:=rfl
   unfold bd at this;rw[e]at this;grind
theorem Arms.nN {D X:Nat}{v:Int}{a:List QL}(h:Arms D X v a):0<nm D (sm wt a)/\nm D (sm wt a)<=72*D :=
 ⟨(zV h.hD h.pos (aAt h.lk)).2,aDP h.hD h.pos (aAt h.lk) h.hw⟩
theorem aH8 {N:Nat}{q:Q}(hN:0<N)(hP:N<=PP)(h0:0<=q)(h1:q<=1)(hd:Dv N q):bH q:=by
 refine dP (B:=1) hN hd ⟨?_,h1⟩ (by omega) (by omega) (iK (a:=1) (by rw[aU7];omega) (by omega))
 have e:((1:Nat):Q)=1:=rfl
 rw[e];grind
theorem aPl {D X:Nat}{v:Int}{a:List QL}(h:Arms D X v a):∀ (b:List QL) (t:Q),(∀ x∈b,x∈a)->Dv (nm D (sm wt a)) t->0<=t->t+sm (fun x=>x.w / sm wt a) b<=1->((b.map (zH (sm wt a))).map fun p=>ofQ p.s).foldl RA (ofQ t)=ofQ (t+sm (fun x=>x.w / sm wt a) b)
 | [],t,_,_,_,_=>by simp only[aUH,List.foldl_nil,sm];congr 1;grind
 | x::b,t,hb,ht,h0,hw=>by
  obtain⟨s1,s2,s3⟩:=aBM h (hb x (by simp))
  have hr:=fun y hy=>hb y (aUv x hy)
  have wr:0<=sm (fun x=>x.w / sm wt a) b:=iE fun y hy=>by have:=(aBM h (hr y hy)).2.1;grind
  obtain⟨n1,n2⟩:=h.nN
  have nP:nm D (sm wt a)<=PP:=by have:=h.hP;omega
  rw[sm]at hw ⊢
  have d2:=lF ht s1
  have f1:=aH8 n1 nP h0 (by grind) ht
  have f2:=aH8 n1 nP (by grind) s3 s1
  have f3:bH (t+x.w / sm wt a):=aH8 n1 nP (by grind) (by grind) d2
  rw[aTV,aTV,aVe]
  have e1:RA (ofQ t) (ofQ (zH (sm wt a) x).s)=ofQ (t+x.w / sm wt a):=aHo f1 f2 f3
  rw[e1,aPl h b _ hr d2 (by grind) (by grind)]
  congr 1;grind
theorem aOd (t:Q):∀ a:List QL,sm (fun x=>x.w / t) a=sm wt a / t
 | []=>by simp[sm];grind
 | x::a=>by rw[sm,sm,aOd t a];unfold wt;grind
theorem Arms.share_sum {D X:Nat}{v:Int}{a:List QL}(h:Arms D X v a):sm (fun x=>x.w / sm wt a) a=1:=by
 rw[aOd]
 have:=h.pos
 have:sm wt a≠0:=by grind
 grind
theorem aS3:sF 1=ofQ 1:=aBP (by decide)
theorem Arms.cond {D X:Nat}{v:Int}{a:List QL}(h:Arms D X v a):aC6 v (a.map toA)=(pK v a).toC:=by
 unfold aC6 pK CQ.toC
 rw[h.tot]
 simp only[aVr]
 congr 1
 refine aV7 fun x hx=>?_
 obtain⟨s1,s2,s3⟩:=aBM h hx
 obtain⟨n1,n2⟩:=h.nN
 have f2:=aH8 n1 (by have:=h.hP;omega) (by grind) s3 s1
 have:=h.pos
 show gE (ofQ (sm wt a)) (toA x)=(zH (sm wt a) x).toP
 unfold gE toA zH PQ.toP
 simp only[]
 rw[aNQ (h.fit hx).1 h.ftot (by grind) f2]
theorem Arms.armOk {D X:Nat}{v:Int}{a:List QL}(h:Arms D X v a):∀ x∈a.map toA,vK x:=by
 intro x hx
 obtain⟨y,hy,rfl⟩:=aT5.1 hx
 obtain⟨f1,f2,f3⟩:=h.fit hy
 exact⟨(h.nd y hy).1,hU f1,hU f2,hU f3⟩
theorem aGZ {a:List QL}(inc:a.Pairwise fun x y=>x.a<y.a)(nd:∀ x∈a,0<=x.a/\x.a<=9):a.length<=10:=by
 have n:(a.map fun x=>x.a).Nodup:=by
  rw[List.Nodup,aVa]
  exact inc.imp fun {x y} hxy e=>by omega
 have:=n.length_le_of_subset (l₂:=[0,1,2,3,4,5,6,7,8,9]) (fun z hz=>by
  obtain⟨x,hx,rfl⟩:=aT5.1 hz
  have:=nd x hx
  simp only[aTM,aVN,or_false];omega)
 simpa using this
theorem Arms.condOk {D X:Nat}{v:Int}{a:List QL}(h:Arms D X v a):condOk v (a.map toA):=by
 have hl:=aGZ h.inc (fun x hx=>(h.nd x hx).1)
 have hz:=aJk (v:=v) h.armOk (by rw[aTZ];omega)
 obtain⟨n1,n2⟩:=h.nN
 unfold Go.Ev.condOk
 rw[h.cond]at hz ⊢
 refine aKQ _ hz h.hv ((aK3 h.ftot).2 h.pos) ?_ ?_ ?_
 · unfold CQ.toC pK
   simp only[ne_eq,List.map_eq_nil_iff]
   exact h.ne
 · intro j hj
   have hj':j<a.length:=by unfold CQ.toC pK at hj;simpa using hj
   have e:(pK v a).toC.fParents[j]=(zH (sm wt a) a[j]).toP:=by
    unfold CQ.toC pK;simp
   rw[e]
   have hm:=aT2 hj'
   obtain⟨s1,s2,s3⟩:=aBM h hm
   have f2:=aH8 n1 (by have:=h.hP;omega) (by grind) s3 s1
   obtain⟨f3,f4,f5⟩:=h.fit hm
   refine⟨(h.nd _ hm).1,(h.nd _ hm).2,fun q hq hk=>?_,(aK3 f2).2 s2,uK f4,uK f5⟩
   have hk':j-1<a.length:=by omega
   have e2:(pK v a).toC.fParents[j-1]?=some (zH (sm wt a) a[j-1]).toP:=by
    unfold CQ.toC pK;simp[hk']
   rw[e2]at hk
   cases hk
   exact(aVm.1 h.inc) (j-1) j hk' hj' (by omega)
 · have e:((pK v a).toC.fParents.map fun p=>p.fShare)=((a.map (zH (sm wt a))).map fun p=>ofQ p.s):=by
    unfold CQ.toC pK;simp[PQ.toP,Function.comp_def]
   rw[e,aAe,aPl h a 0 (fun x hx=>hx) ⟨0,by simp⟩ (by grind) (by rw[h.share_sum];grind),h.share_sum,aS3]
   congr 1;grind
/- The mesh of an eliminated node over the rational numbers. -/
theorem aGC {D:Nat}{p q:Q}(hp:Dv D p)(hq:Dv D q){W:Q}{N:Nat}(hN:(N:Q)=W*D)(hW:W≠0):Dv (D*N) (p*q / W):=by
 obtain⟨a,ha⟩:=hp
 obtain⟨b,hb⟩:=hq
 refine⟨a*b,?_⟩
 rw[aUO,hN,aVW,<- ha,<- hb]
 grind
theorem aOX {D X:Nat}{v:Int}{a:List QL}(h:Arms D X v a){x y:QL}(hx:x∈a)(hy:y∈a)(hxy:x.a<y.a) :
 vG (ofQ (sm wt a)) (toA x) (toA y)=(mlQ (sm wt a) x y).toL/\(mlQ (sm wt a) x y).fit/\(mlQ (sm wt a) x y).ok/\Lk (D*nm D (sm wt a)) (2*X) (mlQ (sm wt a) x y)/\Dv (D*nm D (sm wt a)*(nm D x.w*nm D y.w)) (enQ (mlQ (sm wt a) x y)):=by
 have hp:=h.pos
 have lx:=h.lk x hx
 have ly:=h.lk y hy
 obtain⟨n1,n2⟩:=h.nN
 have hN:=(zV h.hD hp (aAt h.lk)).1
 have hW:sm wt a≠0:=by grind
 obtain⟨fx1,fx2,fx3⟩:=h.fit hx
 obtain⟨fy1,fy2,fy3⟩:=h.fit hy
 have dx:=lx.sc.2.1
 have dy:=ly.sc.2.1
 have px:=lx.sc.1
 have py:=ly.sc.1
 have bx:=aMZ px (h.le hx)
 have by_:=aMZ py (h.le hy)
 have hD:=h.hD
 have hP:=h.hP
 have hX:=h.hX
 have h0:=h.h0
 have eD:D<=PP ^ 1:=by rw[aU7];omega
 have eN:nm D (sm wt a)<=PP ^ 1:=by rw[aU7];omega
 have ex:nm D x.w<=PP ^ 1:=by have:=aDP (W:=72) h.hD px dx (h.le hx);rw[aU7];omega
 have ey:nm D y.w<=PP ^ 1:=by have:=aDP (W:=72) h.hD py dy (h.le hy);rw[aU7];omega
 obtain⟨ex1,ex2⟩:=zV h.hD px dx
 obtain⟨ey1,ey2⟩:=zV h.hD py dy
 have f1:bH (x.w*y.w):=dP (aUq hD hD) (sH dx dy) (oM bx by_) (by decide) (by decide) (iK (uI eD eD) (by omega))
 have dw:Dv (D*nm D (sm wt a)) (x.w*y.w / sm wt a):=aGC dx dy hN hW
 have pxy:=aWF px py
 have pw:0<x.w*y.w / sm wt a:=by rw[_root_.Rat.lt_div_iff hp];grind
 have bw:bd 72 (x.w*y.w / sm wt a):=by
  have l1:=xL h.lk hx
  have l2:0<=(sm wt a-x.w)*y.w:=aUt (by grind) (by grind)
  have l3:0<=((72:Nat)-y.w)*sm wt a:=aUt (by have:=h.le hy;have e:((72:Nat):Q)=72:=rfl;grind) (by grind)
  have l4:=aUt (xN 72) (Std.le_of_lt hp)
  exact aEQ hp (by grind) (by grind)
 have f2:bH (x.w*y.w / sm wt a):=dP (aUq hD n1) dw bw (by omega) (by omega) (iK (uI eD eN) (by omega))
 obtain⟨xx,xy⟩:=aJp h.hD lx.sc
 obtain⟨yx,yy⟩:=aJp h.hD ly.sc
 have gx:=oN (pL (nm D y.w) xx) (by rw[aUm];exact pL (nm D x.w) yx)
 have gy:=oN (pL (nm D y.w) xy) (by rw[aUm];exact pL (nm D x.w) yy)
 have cx:=aBm lx.bx ly.bx
 have cy:=aBm lx.by' ly.by'
 have f3:bH (x.x-y.x):=dP (aUq ex2 ey2) gx cx (by omega) (by omega) (iK (uI ex ey) (by omega))
 have f4:bH (x.y-y.y):=dP (aUq ex2 ey2) gy cy (by omega) (by omega) (iK (uI ex ey) (by omega))
 have lk:Lk (D*nm D (sm wt a)) (2*X) (mlQ (sm wt a) x y):=by
  refine⟨⟨pw,dw,?_,?_⟩,by rw[Nat.two_mul];exact cx,by rw[Nat.two_mul];exact cy⟩
  · have e:mx (mlQ (sm wt a) x y)=mx x*y.w / sm wt a-x.w*mx y / sm wt a:=by unfold mx mlQ;simp only[];grind
    rw[e]
    exact oN (aGC lx.sc.2.2.1 dy hN hW) (aGC dx ly.sc.2.2.1 hN hW)
  · have e:my (mlQ (sm wt a) x y)=my x*y.w / sm wt a-x.w*my y / sm wt a:=by unfold my mlQ;simp only[];grind
    rw[e]
    exact oN (aGC lx.sc.2.2.2 dy hN hW) (aGC dx ly.sc.2.2.2 hN hW)
 refine⟨?_,⟨f2,f3,f4⟩,⟨(h.nd x hx).1,(h.nd y hy).1,hxy,pw⟩,lk,?_⟩
 · unfold vG toA mlQ QL.toL
   simp only[]
   rw[aFB fx1 fy1 f1,aNQ f1 h.ftot hW f2,aPX fx2 fy2 f3,aPX fx3 fy3 f4]
 · have hDN:0<D*nm D (sm wt a):=aUq hD n1
   have e1:=(zV hDN pw dw).1
   have e2:nm (D*nm D (sm wt a)) (x.w*y.w / sm wt a)=nm D x.w*nm D y.w:=by
    refine _root_.Rat.natCast_inj.1 ?_
    rw[e1,aUO,aUO,hN,ex1,ey1]
    grind
   have:=aKJ hDN lk.sc
   have e3:(mlQ (sm wt a) x y).w=x.w*y.w / sm wt a:=rfl
   rw[e3,e2]at this
   exact this
theorem aJ6 (t:Q):∀ {a:List QL} {z:QL},z∈mX t a->∃ p x q y r,a=p++x::(q++y::r)/\z=mlQ t x y
 | x::a,z,h=>by
  rw[mX,aTR]at h
  rcases h with h | h
  · obtain⟨y,hy,rfl⟩:=aT5.1 h
    obtain⟨q,r,e⟩:=List.append_of_mem hy
    exact⟨[],x,q,y,r,by rw[e];rfl,rfl⟩
  · obtain⟨p,x',q,y,r,e,h2⟩:=aJ6 t h
    exact⟨x::p,x',q,y,r,by rw[e];rfl,h2⟩
theorem Arms.mesh {D X:Nat}{v:Int}{a:List QL}(h:Arms D X v a):∀ p b:List QL,a=p++b->iX (ofQ (sm wt a)) (b.map toA)=(mX (sm wt a) b).map QL.toL
 | _,[],_=>rfl
 | p,x::b,e=>by
  have ih:=h.mesh (p++[x]) b (by rw[e,aT0];rfl)
  rw[aTV,iX,mX,aUF,ih]
  congr 1
  rw[aVr,aVr]
  refine aV7 fun y hy=>?_
  have hx:x∈a:=by rw[e];simp
  have hy':y∈a:=by rw[e];simp[hy]
  have hxy:x.a<y.a:=by
   have:=h.inc
   rw[e,aVf,aUp]at this
   exact this.2.1.1 y hy
  exact(aOX h hx hy' hxy).1
theorem aRX (D:Nat){p q r:List QL}{x y:QL}:nm D x.w*nm D y.w∣pn D (p++x::(q++y::r)):=by
 rw[aLc,pn,aLc,pn]
 refine aWc ?_ (aV4 _ _)
 refine aVu _ (aWc ?_ (aV4 _ _))
 exact aVZ _ _
theorem Arms.each {D X:Nat}{v:Int}{a:List QL}(h:Arms D X v a){z:QL}(hz:z∈mX (sm wt a) a) :
 z.fit/\z.ok/\Lk (D*nm D (sm wt a)) (2*X) z/\Dv (D*nm D (sm wt a)*pn D a) (enQ z)/\(∃ x∈a,x.a=z.a)/\∃ y∈a,y.a=z.b:=by
 obtain⟨p,x,q,y,r,e,rfl⟩:=aJ6 _ hz
 have hx:x∈a:=by rw[e];simp
 have hy:y∈a:=by rw[e];simp
 have hxy:x.a<y.a:=by
  have:=h.inc
  rw[e,aVf,aUp]at this
  exact this.2.1.1 y (by simp)
 obtain⟨_,f,o,l,d⟩:=aOX h hx hy hxy
 refine⟨f,o,l,xP d (aVu _ ?_),⟨x,hx,rfl⟩,y,hy,rfl⟩
 conv=>rhs;rw[e]
 exact aRX D
theorem aJ8 (t:Q):∀ {a:List QL},a.Pairwise (fun x y=>x.a<y.a)->∀ x∈a,∀ y∈a,x.a<y.a->mlQ t x y∈mX t a
 | z::a,h,x,hx,y,hy,hxy=>by
  rw[aUp]at h
  rw[mX,aTR]
  rcases aTM.1 hx with e | hx
  · rcases aTM.1 hy with e2 | hy
    · rw[e,e2]at hxy;omega
    · exact .inl (by rw[e];exact aU9 hy)
  · rcases aTM.1 hy with e2 | hy
    · have:=h.1 x hx;rw[e2]at hxy;omega
    · exact .inr (aJ8 t h.2 x hx y hy hxy)
theorem aMu {t:Q}(ht:0<t):∀ {a:List QL},(∀ x∈a,0<=wt x)->sm wt (mX t a)*t<=sm wt a*sm wt a
 | [],_=>by simp[mX,sm]
 | x::a,h=>by
  have ih:=aMu ht (a:=a) (fun y hy=>h y (by simp[hy]))
  have h1:=h x (by simp)
  have h2:0<=sm wt a:=iE fun y hy=>h y (by simp[hy])
  have e:∀ b:List QL,sm wt (b.map (mlQ t x))*t=wt x*sm wt b:=by
   intro b
   induction b with
   | nil=>simp[sm]
   | cons y b ih2 =>
    rw[aTV,sm,sm,_root_.Rat.add_mul,ih2]
    have e3:wt (mlQ t x y)=wt x*wt y / t:=rfl
    rw[e3]
    have:t≠0:=by grind
    grind
  rw[mX,mV,sm,_root_.Rat.add_mul,e]
  have h3:=aUt h1 h2
  have h4:=aUt h1 h1
  grind
theorem Arms.mesh_le {D X:Nat}{v:Int}{a:List QL}(h:Arms D X v a):sm wt (mX (sm wt a) a)<=sm wt a:=by
 have:=aMu h.pos (a:=a) (fun x hx=>by have:=(h.lk x hx).sc.1;unfold wt;grind)
 exact aWE this h.pos
theorem aSf {D X:Nat}{v:Int}{s:List QL}(hs:∀ x∈s,x.fit)(h:Arms D X v (bP v s)) :
 zA v (s.map QL.toL)=some ((pK v (bP v s)).toC,(mX (sm wt (bP v s)) (bP v s)).map QL.toL):=by
 have e1:=aPK v s hs
 have e2:=h.mesh [] (bP v s) rfl
 have hv:∀ x∈iX (sJ (bO v (s.map QL.toL))) (bO v (s.map QL.toL)),ValidL x:=by
  rw[e1,h.tot,e2]
  intro x hx
  obtain⟨z,hz,rfl⟩:=aT5.1 hx
  obtain⟨f,o,_⟩:=h.each hz
  exact(aEp f).2 o
 rw[aJi ⟨h.hv,by rw[e1];exact h.condOk,hv⟩,e1,h.tot,e2,h.cond]
/- From a front to its arms, rest and mesh. -/
theorem aEh (v:Int)(l:QL):(aBB v l).w=l.w:=by unfold aBB;split <;> rfl
theorem aQ6 (v:Int)(l:QL):enQ (aBB v l)=enQ l:=by
 unfold aBB enQ sqQ
 split
 · simp only[];grind
 · rfl
theorem aQ5 {D X:Nat}(v:Int){l:QL}(h:Lk D X l):Lk D X (aBB v l):=by
 unfold aBB
 split
 · refine⟨⟨h.sc.1,h.sc.2.1,?_,?_⟩,aPH h.bx,aPH h.by'⟩
   · have e:mx ⟨l.b,v,l.w,-l.x,-l.y⟩=- mx l:=by unfold mx;simp only[];grind
     rw[e];exact aHv h.sc.2.2.1
   · have e:my ⟨l.b,v,l.w,-l.x,-l.y⟩=- my l:=by unfold my;simp only[];grind
     rw[e];exact aHv h.sc.2.2.2
 · exact⟨h.sc,h.bx,h.by'⟩
def vE (v:Int)(s:List QL):List QL:=s.filter (fun l=>!aFe v l)
theorem aOn (v:Int):∀ s:List QL,zQ v (s.map QL.toL)=(vE v s).map QL.toL
 | []=>rfl
 | x::s=>by
  have ih:=aOn v s
  unfold zQ vE at ih ⊢
  rw[aTV,aUn,aUn]
  have e:tch v x.toL=aFe v x:=rfl
  rw[e,ih]
  split <;> rfl
theorem aBI (f:QL->Q)(v:Int)(hf:∀ l,f (aBB v l)=f l):∀ s:List QL,sm f s=sm f (bP v s)+sm f (vE v s)
 | []=>by simp only[bP,vE,aVA,aUH,sm];grind
 | x::s=>by
  have ih:=aBI f v hf s
  unfold bP vE at ih ⊢
  rw[aUn,aUn,sm]
  by_cases c:aFe v x=true
  · simp only[c,aUL,aT3,aTP,aT9,aTV,sm,hf];grind
  · simp only[c,Bool.not_eq_true,aT9,aV3,aT3,sm];grind
theorem aJK (D:Nat)(v:Int):∀ s:List QL,pn D s=pn D (bP v s)*pn D (vE v s)
 | []=>rfl
 | x::s=>by
  have ih:=aJK D v s
  unfold bP vE at ih ⊢
  rw[aUn,aUn,pn,ih]
  by_cases c:aFe v x=true
  · simp only[c,aUL,aT3,aTP,aT9,aTV,pn,aEh,aUI]
  · simp only[c,aT9,aV3,aT3,pn]
    simp[aWm]
theorem xE {v:Int}{s:List QL}{a:QL}:a∈bP v s↔∃ l∈s,(l.a=v\/l.b=v)/\a=aBB v l:=by
 unfold bP
 rw[aT5]
 constructor
 · rintro⟨l,hl,rfl⟩
   rw[aUb]at hl
   have:=hl.2
   unfold aFe at this
   exact⟨l,hl.1,aUi this,rfl⟩
 · rintro⟨l,hl,ht,rfl⟩
   refine⟨l,aUb.2 ⟨hl,?_⟩,rfl⟩
   unfold aFe;exact aTN ht
theorem aAz {v:Int}{s:List QL}{l:QL}:l∈vE v s↔l∈s/\l.a≠v/\l.b≠v:=by
 unfold vE aFe
 rw[aUb]
 simp[not_or]
theorem aEg {v:Int}{l:QL}(h:l.a=v\/l.b=v)(hl:l.a<l.b):(l.a=v/\(aBB v l).a=l.b)\/(l.b=v/\l.a≠v/\(aBB v l).a=l.a):=by
 unfold aBB
 by_cases c:l.a=v
 · rw[aTK c];exact .inl ⟨c,rfl⟩
 · rw[aTJ c]
   rcases h with h | h
   · exact absurd h c
   · exact .inr ⟨h,c,rfl⟩
theorem aPJ {v:Int}{s:List QL}(ho:s.Pairwise cY)(h:∀ x∈s,x.a<x.b):(bP v s).Pairwise fun x y=>x.a<y.a:=by
 unfold bP
 rw[aVa]
 refine List.Pairwise.imp_of_mem (fun {x y} hx hy hr=>?_) (ho.sublist List.filter_sublist)
 rw[aUb]at hx hy
 have tx:=aUi hx.2
 have ty:=aUi hy.2
 have h1:=h x hx.1
 have h2:=h y hy.1
 have g1:=aEg tx h1
 have g2:=aEg ty h2
 unfold cY at hr
 omega
structure Front (D X:Nat)(V:List Int)(v:Int)(s:List QL):Prop where
 hD:0<D
 hP:72*D<=PP
 hX:X<=400
 h0:0<X
 lk:∀ x∈s,Lk D X x/\inV V x
 ord:s.Pairwise cY
 hw:sm wt s<=72
 hV:V.Nodup
 hn:∀ u∈V,0<=u/\u<=9
 hv:v∈V
 h1:1<=v
 ne:bP v s≠[]
theorem Front.armLk {D X:Nat}{V:List Int}{v:Int}{s:List QL}(h:Front D X V v s):∀ x∈bP v s,Lk D X x:=by
 intro x hx
 obtain⟨l,hl,_,rfl⟩:=xE.1 hx
 exact aQ5 v (h.lk l hl).1
theorem Front.armV {D X:Nat}{V:List Int}{v:Int}{s:List QL}(h:Front D X V v s):∀ x∈bP v s,x.a∈V/\x.a≠v:=by
 intro x hx
 obtain⟨l,hl,ht,rfl⟩:=xE.1 hx
 obtain⟨_,i1,i2,i3⟩:=h.lk l hl
 rcases aEg ht i3 with⟨e1,e2⟩ | ⟨e1,e2,e3⟩
 · rw[e2];exact⟨i2,by omega⟩
 · rw[e3];exact⟨i1,by omega⟩
theorem Front.arms {D X:Nat}{V:List Int}{v:Int}{s:List QL}(h:Front D X V v s):Arms D X v (bP v s) where
 hD:=h.hD
 hP:=h.hP
 hX:=h.hX
 h0:=h.h0
 lk:=h.armLk
 hw:=by
  have e:=aBI wt v (fun l=>aEh v l) s
  have:0<=sm wt (vE v s):=jF fun x hx=>(h.lk x (aAz.1 hx).1).1
  have:=h.hw
  grind
 inc:=aPJ h.ord fun x hx=>(h.lk x hx).2.2.2
 nd:=fun x hx=>⟨h.hn _ (h.armV x hx).1,(h.armV x hx).2⟩
 ne:=h.ne
 hv:=⟨h.h1,(h.hn v h.hv).2⟩
theorem Front.fit {D X:Nat}{V:List Int}{v:Int}{s:List QL}(h:Front D X V v s):∀ x∈s,x.fit:=fun x hx =>
 aGT h.hD h.hP (h.lk x hx).1 (by have:=h.hX;omega) h.h0 (by
  have:=xL (fun y hy=>(h.lk y hy).1) hx
  have:=h.hw
  grind)
def iW (v:Int)(s:List QL):List QL:=vE v s++mX (sm wt (bP v s)) (bP v s)
theorem aKN {D E X Y:Nat}{l:QL}(h:Lk D X l)(hd:D∣E)(hx:X<=Y):Lk E Y l:=⟨aSs h.sc hd,xT h.bx hx,xT h.by' hx⟩
theorem Front.next {D X:Nat}{V:List Int}{v:Int}{s:List QL}(h:Front D X V v s){N:Nat}(hN:N=nm D (sm wt (bP v s))) :
 (∀ x∈iW v s,Lk (D*N) (2*X) x/\inV (V.erase v) x/\Dv (D*N*pn D s) (enQ x)/\x.fit/\x.ok)/\sm wt (iW v s)<=sm wt s:=by
 subst hN
 have ha:=h.arms
 obtain⟨n1,n2⟩:=ha.nN
 constructor
 · intro x hx
   rcases aTR.1 hx with hx | hx
   · obtain⟨m1,m2,m3⟩:=aAz.1 hx
     obtain⟨l1,l2,l3,l4⟩:=h.lk x m1
     refine⟨aKN l1 (aVZ _ _) (by omega),⟨(h.hV.mem_erase_iff).2 ⟨m2,l2⟩,(h.hV.mem_erase_iff).2 ⟨m3,l3⟩,l4⟩,?_,h.fit x m1,(h.hn _ l2),(h.hn _ l3),l4,l1.sc.1⟩
     refine xP (aKJ h.hD l1.sc) ?_
     rw[aUI]
     exact aVu _ (aWc (aGr D x m1) (aV4 _ _))
   · obtain⟨e1,e2,e3,e4,⟨y,hy,e5⟩,z,hz,e6⟩:=ha.each hx
     have v1:=h.armV y hy
     have v2:=h.armV z hz
     rw[e5]at v1
     rw[e6]at v2
     refine⟨e3,⟨(h.hV.mem_erase_iff).2 ⟨v1.2,v1.1⟩,(h.hV.mem_erase_iff).2 ⟨v2.2,v2.1⟩,e2.2.2.1⟩,xP e4 ?_,e1,e2⟩
     refine aVu _ ?_
     rw[aJK D v s]
     exact aVZ _ _
 · unfold iW
   rw[mV,aBI wt v (fun l=>aEh v l) s]
   have:=ha.mesh_le
   grind
/- A node of a tree over the rational numbers. -/
def aHW (x y:QL):Prop:=x.a=y.a/\x.b=y.b
theorem aIt:∀ (s:List QL) (l:QL),∀ y∈(kD s l).1,(∃ x∈s,aHW x y)\/aHW l y
 | [],l,y,hy=>by simp[kD]at hy;subst hy;exact .inr ⟨rfl,rfl⟩
 | k::s,l,y,hy=>by
  by_cases c:cY k l
  · rw[tZ c]at hy
    rcases aTM.1 hy with rfl | hy
    · exact .inl ⟨y,by simp,rfl,rfl⟩
    · rcases aIt s l y hy with⟨x,hx,h⟩ | h
      · exact .inl ⟨x,by simp[hx],h⟩
      · exact .inr h
  · by_cases d:cY l k
    · rw[xJ c d]at hy
      rcases aTM.1 hy with rfl | hy
      · exact .inr ⟨rfl,rfl⟩
      · exact .inl ⟨y,hy,rfl,rfl⟩
    · rw[xI c d]at hy
      rcases aTM.1 hy with rfl | hy
      · exact .inl ⟨k,by simp,rfl,rfl⟩
      · exact .inl ⟨y,by simp[hy],rfl,rfl⟩
theorem aKI:∀ (s:List QL) (l:QL),(∀ x∈s,∃ y∈(kD s l).1,aHW x y)/\∃ y∈(kD s l).1,aHW l y
 | [],l=>⟨by simp,l,by simp[kD],rfl,rfl⟩
 | k::s,l=>by
  by_cases c:cY k l
  · rw[tZ c]
    obtain⟨h1,h2⟩:=aKI s l
    refine⟨fun x hx=>?_,?_⟩
    · rcases aTM.1 hx with rfl | hx
      · exact⟨x,by simp,rfl,rfl⟩
      · obtain⟨y,hy,h⟩:=h1 x hx
        exact⟨y,by simp[hy],h⟩
    · obtain⟨y,hy,h⟩:=h2
      exact⟨y,by simp[hy],h⟩
  · by_cases d:cY l k
    · rw[xJ c d]
      exact⟨fun x hx=>⟨x,by simp only[aTM]at hx ⊢;exact .inr hx,rfl,rfl⟩,l,by simp,rfl,rfl⟩
    · rw[xI c d]
      refine⟨fun x hx=>?_,mrg k l,by simp,(zL c d).1.symm,(zL c d).2.symm⟩
      rcases aTM.1 hx with rfl | hx
      · exact⟨mrg x l,by simp,rfl,rfl⟩
      · exact⟨x,by simp[hx],rfl,rfl⟩
theorem qX:∀ (l s:List QL) (e:Q),∀ y∈(aR l s e).1,∃ x,(x∈s\/x∈l)/\aHW x y
 | [],s,e,y,hy=>⟨y,.inl hy,rfl,rfl⟩
 | z::l,s,e,y,hy=>by
  rw[aR]at hy
  obtain⟨x,hx,h1,h2⟩:=qX l _ _ y hy
  rcases hx with hx | hx
  · rcases aIt s z x hx with⟨w,hw,g1,g2⟩ | ⟨g1,g2⟩
    · exact⟨w,.inl hw,g1.trans h1,g2.trans h2⟩
    · exact⟨z,.inr (by simp),g1.trans h1,g2.trans h2⟩
  · exact⟨x,.inr (by simp[hx]),h1,h2⟩
theorem wD:∀ (l s:List QL) (e:Q),∀ x,(x∈s\/x∈l)->∃ y∈(aR l s e).1,aHW x y
 | [],s,e,x,hx=>by
  rcases hx with hx | hx
  · exact⟨x,hx,rfl,rfl⟩
  · cases hx
 | z::l,s,e,x,hx=>by
  rw[aR]
  obtain⟨a1,w,hw,a3⟩:=aKI s z
  rcases hx with hx | hx
  · obtain⟨u,hu,g1,g2⟩:=a1 x hx
    obtain⟨y,hy,h1,h2⟩:=wD l (kD s z).1 (e+(kD s z).2) u (.inl hu)
    exact⟨y,hy,g1.trans h1,g2.trans h2⟩
  · rcases aTM.1 hx with e1 | hx
    · obtain⟨y,hy,h1,h2⟩:=wD l (kD s z).1 (e+(kD s z).2) w (.inl hw)
      exact⟨y,hy,by rw[e1];exact a3.1.trans h1,by rw[e1];exact a3.2.trans h2⟩
    · exact wD l _ _ x (.inr hx)
structure NQ where
 node:Int
 up:Int
 own:List QL
 cond:CQ
 msgs:List QL
 enQ:Q
 den:Nat
def NQ.toN (n:NQ):TreeNode:=⟨n.node,n.up,n.own.map QL.toL,n.cond.toC,n.msgs.map QL.toL,ofQ n.enQ⟩
def upQ (order:List Int)(c:CQ):Int:=aT order (c.ps.map (·.node))
theorem aTw (order:List Int)(c:CQ):upP order c.toC=upQ order c:=by
 unfold upP upQ aGu CQ.toC
 simp only[aVr]
 rfl
def oW (v:Int)(b:List NQ):List QL:=(b.filter (fun n=>decide (n.up=v))).flatMap (·.msgs)
theorem aRx (v:Int):∀ b:List NQ,aBa v (b.map NQ.toN)=(oW v b).map QL.toL
 | []=>rfl
 | n::b=>by
  have ih:=aRx v b
  unfold aBa oW at ih ⊢
  rw[aTV,aUn,aUn]
  by_cases c:n.up=v
  · rw[aTK (show decide ((NQ.toN n).fUp=v)=true from aTN c),aTK (aTN c),aUk,aUk,aUF,ih];rfl
  · rw[aTJ (show ¬decide ((NQ.toN n).fUp=v)=true from fun e=>c (aUi e)),aTJ (fun e=>c (aUi e)),ih]
def dW {α:Type}(f:α->Nat):List α->Nat
 | []=>1
 | x::l=>f x*dW f l
def aCL (v:Int)(b:List NQ):Nat:=dW (·.den) (b.filter (fun n=>decide (n.up=v)))
def aDO (order:List Int)(v:Int)(own:List QL)(b:List NQ):NQ :=
 ⟨v,upQ order (pK v (bP v (aR (own++oW v b) [] 0).1)),own,pK v (bP v (aR (own++oW v b) [] 0).1),(aR (iW v (aR (own++oW v b) [] 0).1) [] 0).1,
  (aR (own++oW v b) [] 0).2+(aR (iW v (aR (own++oW v b) [] 0).1) [] 0).2,aCL v b*nm (aCL v b) (sm wt (bP v (aR (own++oW v b) [] 0).1))⟩
theorem aSb {l:List QL}(h:∀ x∈l,x.fit/\x.ok)(hj:aBe l [] 0):jnP (l.map QL.toL)=some ((aR l [] 0).1.map QL.toL,ofQ (aR l [] 0).2)/\(∀ k∈(aR l [] 0).1,k.fit)/\bH (aR l [] 0).2:=by
 obtain⟨h1,h2,h3⟩:=aO9 l [] 0 (fun x hx=>(h x hx).1) (by simp) aEo hj
 refine⟨?_,h2,h3⟩
 unfold jnP
 rw[aTK (fun x hx=>by
  obtain⟨y,hy,rfl⟩:=aT5.1 hx
  exact(aEp (h y hy).1).2 (h y hy).2),aAe]
 exact h1
def tri (K:Nat):Nat:=K*(K-1) / 2
theorem aDa {K:Nat}(h:K<=6):K*K<=2*tri K+K:=by
 have:∀ K,K<=6->K*K<=2*tri K+K:=by decide
 exact this K h
structure Room (D T K:Nat):Prop where
 k6:K<=6
 d1:72*D<=PP
 c1:10 ^ 8*(T*(D*(72*D) ^ tri K))<BB ^ 24
 c2:K<=2\/(72*(D*(72*D))<=PP/\10 ^ 8*((D*(72*D))*(72*D) ^ tri K*((D*(72*D))*(72*(D*(72*D))) ^ tri (K-1)))<BB ^ 24)
 c3:4*10 ^ 8*(T*((D*(72*D))*(72*D) ^ (K-1)*(72*(D*(72*D))) ^ tri (K-1)))<BB ^ 24
structure Inc (D T X:Nat)(V:List Int)(v:Int)(l:List QL):Prop where
 hD:0<D
 hT:0<T
 hX:X<=400
 h0:0<X
 lk:∀ x∈l,Lk D X x/\inV V x/\Dv T (enQ x)
 hw:sm wt l<=72
 hV:V.Nodup
 hn:∀ u∈V,0<=u/\u<=9
 hv:v∈V
 h1:1<=v
 ex:∃ x∈l,x.a=v\/x.b=v
 room:Room D T V.length
theorem Inc.jn {D T X:Nat}{V:List Int}{v:Int}{l:List QL}(h:Inc D T X V v l):Jn D T X (tri V.length) V :=
 ⟨h.hD,h.room.d1,by have:=h.hX;omega,h.h0,h.hT,h.hV,aDa h.room.k6,h.room.c1⟩
theorem Inc.fo {D T X:Nat}{V:List Int}{v:Int}{l:List QL}(h:Inc D T X V v l):∀ x∈l,x.fit/\x.ok:=fun x hx=>by
 obtain⟨l1,⟨l2,l3,l4⟩,_⟩:=h.lk x hx
 refine⟨aGT h.hD h.room.d1 l1 (by have:=h.hX;omega) h.h0 ?_,h.hn _ l2,h.hn _ l3,l4,l1.sc.1⟩
 have:=xL (fun y hy=>(h.lk y hy).1) hx
 have:=h.hw
 grind
theorem Inc.join {D T X:Nat}{V:List Int}{v:Int}{l:List QL}(h:Inc D T X V v l) :
 aBe l [] 0/\Front D X V v (aR l [] 0).1/\(aR l [] 0).2=sm enQ l-sm enQ (aR l [] 0).1/\sm wt (aR l [] 0).1=sm wt l:=by
 have es:=uX (fun x hx=>(h.lk x hx).1) (by have:=h.hX;omega) h.hw
 have e0:(0:Q)-sm enQ []=0:=by simp only[sm];grind
 have g:=aD6 h.jn l [] 0 h.lk (by simp) List.Pairwise.nil (by simp only[sm];have:=h.hw;grind) ⟨0,by simp⟩ (by grind) (by have:=es.2;grind)
 rw[e0]at g
 obtain⟨g1,g2,g3,g4,g5⟩:=g
 have g5':sm wt (aR l [] 0).1=sm wt l:=by rw[g5];simp only[sm];grind
 refine⟨g1,⟨h.hD,h.room.d1,h.hX,h.h0,g2,g3,by rw[g5'];exact h.hw,h.hV,h.hn,h.hv,h.h1,?_⟩,by rw[g4];grind,g5'⟩
 obtain⟨x,hx,ht⟩:=h.ex
 obtain⟨y,hy,p1,p2⟩:=wD l [] 0 x (.inr hx)
 have:aBB v y∈bP v (aR l [] 0).1:=xE.2 ⟨y,hy,by rw[<- p1,<- p2];exact ht,rfl⟩
 intro e
 rw[e]at this;cases this
theorem Front.nextIn {D T X:Nat}{V:List Int}{v:Int}{s:List QL}(h:Front D X V v s)(r:Room D T V.length) :
 aBe (iW v s) [] 0/\(∀ x∈(aR (iW v s) [] 0).1,Lk (D*nm D (sm wt (bP v s))) (2*X) x/\inV (V.erase v) x)/\(aR (iW v s) [] 0).1.Pairwise cY/\
  (aR (iW v s) [] 0).2=sm enQ (iW v s)-sm enQ (aR (iW v s) [] 0).1/\sm wt (aR (iW v s) [] 0).1=sm wt (iW v s):=by
 obtain⟨n1,n2⟩:=h.next rfl
 have hl:=List.length_erase_of_mem h.hv
 have hVe:=h.hV.erase v
 by_cases c:V.length<=2
 · have e:iW v s=[]:=by
    rw[aVK]
    intro x hx
    obtain⟨i1,i2,i3⟩:=(n1 x hx).2.1
    have:(V.erase v).length<=1:=by omega
    have:=(aUM.2 ⟨by simp;omega,aUM.2 ⟨by simp,List.nodup_nil⟩⟩:([x.a,x.b]:List Int).Nodup).length_le_of_subset (l₂:=V.erase v) (fun z hz=>by
     simp only[aTM,aVN,or_false]at hz
     rcases hz with rfl | rfl
     · exact i1
     · exact i2)
    simp at this;omega
   rw[e]
   refine⟨trivial,by simp[aR],by simp[aR],by simp only[aR,sm];grind,by simp only[aR,sm]⟩
 · obtain⟨r1,r2⟩:=r.c2.resolve_left c
   have ha:=h.arms
   obtain⟨a1,a2⟩:=ha.nN
   have hDN:D*nm D (sm wt (bP v s))<=D*(72*D):=aT7 _ a2
   have hT:0<D*nm D (sm wt (bP v s))*pn D s:=aUq (aUq h.hD a1) (aDd h.hD fun x hx=>(h.lk x hx).1.sc)
   have hps:pn D s<=(72*D) ^ tri V.length:=by
    have l1:=aDC h.hV h.ord (fun x hx=>(h.lk x hx).2)
    have l2:=aDa r.k6
    have l3:=aGs (W:=72) h.hD (fun x hx=>(h.lk x hx).1.sc) (fun x hx=>by
     have:=xL (fun y hy=>(h.lk y hy).1) hx
     have:=h.hw
     show x.w<=72;grind)
    have hD:=h.hD
    exact aTY l3 (aUu (by omega) (by omega))
   have jn:Jn (D*nm D (sm wt (bP v s))) (D*nm D (sm wt (bP v s))*pn D s) (2*X) (tri (V.length-1)) (V.erase v):=by
    refine⟨aUq h.hD a1,aTY (aT7 _ hDN) r1,by have:=h.hX;omega,by have:=h.h0;omega,hT,hVe,?_,?_⟩
    · rw[hl];exact aDa (by have:=r.k6;omega)
    · refine aU6 (aT7 _ (aUd (aUd hDN hps) (aUd hDN (aU8 (aT7 _ hDN) _)))) r2
   have hw:sm wt (iW v s)<=72:=by have:=h.hw;grind
   have es:=uX (fun x hx=>(n1 x hx).1) (by have:=h.hX;omega) hw
   have e0:(0:Q)-sm enQ []=0:=by simp only[sm];grind
   have g:=aD6 jn (iW v s) [] 0 (fun x hx=>⟨(n1 x hx).1,(n1 x hx).2.1,(n1 x hx).2.2.1⟩) (by simp) List.Pairwise.nil (by simp only[sm];grind) ⟨0,by simp⟩ (by grind) (by have:=es.2;grind)
   rw[e0]at g
   obtain⟨g1,g2,g3,g4,g5⟩:=g
   exact⟨g1,g2,g3,by rw[g4];grind,by rw[g5];simp only[sm];grind⟩
/- A node of a tree: the program computes what is computed over the rational numbers. -/
theorem Front.restLk {D X:Nat}{V:List Int}{v:Int}{s:List QL}(h:Front D X V v s):∀ x∈vE v s,Lk D X x:=fun x hx=>(h.lk x (aAz.1 hx).1).1
theorem Front.armLen {D X:Nat}{V:List Int}{v:Int}{s:List QL}(h:Front D X V v s):(bP v s).length<=V.length-1:=by
 have ha:=h.arms
 have n:((bP v s).map fun x=>x.a).Nodup:=by
  rw[List.Nodup,aVa]
  exact ha.inc.imp fun {x y} hxy e=>by omega
 have:=n.length_le_of_subset (l₂:=V.erase v) (fun z hz=>by
  obtain⟨x,hx,rfl⟩:=aT5.1 hz
  exact(h.hV.mem_erase_iff).2 ⟨(h.armV x hx).2,(h.armV x hx).1⟩)
 rw[aTZ,List.length_erase_of_mem h.hv]at this
 exact this
theorem Front.sumFits {D T X:Nat}{V:List Int}{v:Int}{s:List QL}(h:Front D X V v s)(r:Room D T V.length)(hT:0<T){q:Q}(hq:Dv T q)(h0:0<=q)(hq2:q<=((10 ^ 8:Nat):Q)) :
 bH ((q-sm enQ s)+(aR (iW v s) [] 0).2):=by
 obtain⟨g1,g2,g3,g4,g5⟩:=h.nextIn r
 obtain⟨n1,n2⟩:=h.next rfl
 have ha:=h.arms
 obtain⟨a1,a2⟩:=ha.nN
 have hDN:D*nm D (sm wt (bP v s))<=D*(72*D):=aT7 _ a2
 have hD':0<D*nm D (sm wt (bP v s)):=aUq h.hD a1
 have hw:=h.hw
 have hX:=h.hX
 have hD:=h.hD
 have es:=aBI enQ v (fun l=>aQ6 v l) s
 have ew:=aBI wt v (fun l=>aEh v l) s
 have wr:=jF h.restLk
 have wa:=jF h.armLk
 have en1:sm enQ (iW v s)=sm enQ (vE v s)+sm enQ (mX (sm wt (bP v s)) (bP v s)):=mV _ _ _
 have mk:∀ z∈mX (sm wt (bP v s)) (bP v s),Lk (D*nm D (sm wt (bP v s))) (2*X) z:=fun z hz=>(ha.each hz).2.2.1
 have wm:=ha.mesh_le
 obtain⟨b1,b2⟩:=uX h.armLk (by omega) ha.hw
 obtain⟨b3,b4⟩:=uX mk (by omega) (by have:=ha.hw;grind)
 obtain⟨b5,b6⟩:=uX (fun x hx=>(g2 x hx).1) (by omega) (by rw[g5];grind)
 have e:(q-sm enQ s)+(aR (iW v s) [] 0).2=q-sm enQ (bP v s)+sm enQ (mX (sm wt (bP v s)) (bP v s))-sm enQ (aR (iW v s) [] 0).1:=by
  rw[g4,en1,es];grind
 have d1:Dv (D*nm D (sm wt (bP v s))*pn D (bP v s)) (sm enQ (bP v s)):=by
  refine xP (aHk h.hD fun x hx=>(h.armLk x hx).sc) ?_
  rw[Nat.mul_right_comm]
  exact aVZ _ _
 have d2:Dv (D*nm D (sm wt (bP v s))*pn D (bP v s)) (sm enQ (mX (sm wt (bP v s)) (bP v s))):=aHu fun z hz=>(ha.each hz).2.2.2.1
 have d3:Dv (D*nm D (sm wt (bP v s))*pn (D*nm D (sm wt (bP v s))) (aR (iW v s) [] 0).1) (sm enQ (aR (iW v s) [] 0).1):=aHk hD' fun x hx=>(g2 x hx).1.sc
 have d1':=pL (pn (D*nm D (sm wt (bP v s))) (aR (iW v s) [] 0).1) d1
 have d2':=pL (pn (D*nm D (sm wt (bP v s))) (aR (iW v s) [] 0).1) d2
 have d3':=pL (pn D (bP v s)) d3
 rw[Nat.mul_right_comm]at d3'
 have up:∀ {U:Nat} {p:Q},Dv U p->Dv (T*U) p:=fun hp=>by rw[aUm];exact pL T hp
 have d:=oN (lF (oN (pL (D*nm D (sm wt (bP v s))*pn D (bP v s)*pn (D*nm D (sm wt (bP v s))) (aR (iW v s) [] 0).1) hq) (up d1')) (up d2')) (up d3')
 rw[e]
 have p1:pn D (bP v s)<=(72*D) ^ (V.length-1):=aTY (aGs (W:=72) h.hD (fun x hx=>(h.armLk x hx).sc) (fun x hx=>ha.le hx)) (aUu (by omega) h.armLen)
 have p2:pn (D*nm D (sm wt (bP v s))) (aR (iW v s) [] 0).1<=(72*(D*(72*D))) ^ tri (V.length-1):=by
  have l1:=aDC (h.hV.erase v) g3 (fun x hx=>(g2 x hx).2)
  rw[List.length_erase_of_mem h.hv]at l1
  have l2:=aDa (K:=V.length-1) (by have:=r.k6;omega)
  have l3:=aGs (W:=72) hD' (fun x hx=>(g2 x hx).1.sc) (fun x hx=>by
   have:=xL (fun y hy=>(g2 y hy).1) hx
   show x.w<=72;grind)
  exact aTY l3 (aTY (aUu (by omega) (by omega)) (aU8 (aT7 _ hDN) _))
 have q1:0<pn D (bP v s):=aDd h.hD fun x hx=>(h.armLk x hx).sc
 have q2:0<pn (D*nm D (sm wt (bP v s))) (aR (iW v s) [] 0).1:=aDd hD' fun x hx=>(g2 x hx).1.sc
 have c4:((4*10 ^ 8:Nat):Q)=4*((10 ^ 8:Nat):Q):=aUO 4 (10 ^ 8)
 have c5:=xN (10 ^ 8)
 refine aFK (B:=4*10 ^ 8) (aUq hT (aUq (aUq hD' q1) q2)) d ?_ ?_ (by omega) (aU6 (aT7 _ (aT7 T (aUd (aUd hDN p1) p2))) r.c3)
 · rw[c4];grind
 · rw[c4];grind
theorem aOQ {order:List Int}{v:Int}{own:List QL}{b:List NQ}{T X:Nat}{V:List Int}(h:Inc (aCL v b) T X V v (own++oW v b)) :
 sS order v (own.map QL.toL) (b.map NQ.toN)=some (aDO order v own b).toN/\bH (aDO order v own b).enQ/\0<(aDO order v own b).den/\(aDO order v own b).den<=aCL v b*(72*aCL v b)/\
 (∀ x∈(aDO order v own b).msgs,Lk (aDO order v own b).den (2*X) x/\inV (V.erase v) x)/\(aDO order v own b).msgs.Pairwise cY/\sm wt (aDO order v own b).msgs<=sm wt (own++oW v b):=by
 obtain⟨j1,j2,j3,j4⟩:=h.join
 obtain⟨g1,g2,g3,g4,g5⟩:=j2.nextIn h.room
 obtain⟨n1,n2⟩:=j2.next rfl
 have ha:=j2.arms
 obtain⟨a1,a2⟩:=ha.nN
 obtain⟨e1,f1,f2⟩:=aSb h.fo j1
 have e2:=aSf f1 ha
 obtain⟨e3,f3,f4⟩:=aSb (fun x hx=>⟨(n1 x hx).2.2.2.1,(n1 x hx).2.2.2.2⟩) g1
 obtain⟨s1,s2⟩:=uX (fun x hx=>(h.lk x hx).1) (by have:=h.hX;omega) h.hw
 have f5:=j2.sumFits h.room h.hT (aHu fun x hx=>(h.lk x hx).2.2) s1 s2
 rw[<- j3]at f5
 refine⟨?_,f5,aUq h.hD a1,aT7 _ a2,g2,g3,?_⟩
 · unfold sS
   rw[aRx,<- aUF,e1]
   simp only[aTI]
   unfold aEx
   rw[e2]
   simp only[aTI]
   rw[aOn,<- aUF]
   have e4:vE v (aR (own++oW v b) [] 0).1++mX (sm wt (bP v (aR (own++oW v b) [] 0).1)) (bP v (aR (own++oW v b) [] 0).1)=iW v (aR (own++oW v b) [] 0).1:=rfl
   rw[e4,e3]
   simp only[aWC,aTI]
   rw[aHo f2 f4 f5,aTK (uK f5),aTw]
   rfl
 · show sm wt (aR (iW v (aR (own++oW v b) [] 0).1) [] 0).1<=_
   rw[g5,<- j4]
   exact n2
/- First in an order; products; room by numbers. -/
theorem aEb {o s:List Int}(h1:∀ u∈o,1<=u):(aT o s=0/\∀ u∈o,u∉s)\/∃ p v r,o=p++v::r/\aT o s=v/\v∈s/\∀ u∈p,u∉s:=by
 unfold aT
 cases h:o.find? (fun u=>decide (u∈s))with
 | none =>
  refine .inl ⟨rfl,fun u hu hs=>?_⟩
  have:=List.find?_eq_none.1 h u hu
  simp[hs]at this
 | some v =>
  obtain⟨hv,p,r,e,hp⟩:=List.find?_eq_some_iff_append.1 h
  exact .inr ⟨p,v,r,e,rfl,aUi hv,fun u hu hs=>by have:=hp u hu;simp[hs]at this⟩
theorem aIl {p r s:List Int}(h:∀ u∈p,u∉s):aT (p++r) s=aT r s:=by
 unfold aT
 rw[List.find?_append]
 have:p.find? (fun u=>decide (u∈s))=none:=List.find?_eq_none.2 fun u hu=>by simp[h u hu]
 rw[this];rfl
theorem aPr {v:Int}{r s:List Int}(h:v∈s):aT (v::r) s=v:=by
 unfold aT
 rw[aWj]
 simp[h]
theorem yY {p r s:List Int}{v:Int}(hn:(p++v::r).Nodup)(h1:∀ u∈p++v::r,1<=u):aT (p++v::r) s=v↔v∈s/\∀ u∈p,u∉s:=by
 constructor
 · intro h
   rcases aEb (s:=s) h1 with⟨h2,h3⟩ | ⟨p',v',r',e,h2,h3,h4⟩
   · have:=h1 v (by simp);omega
   · rw[h]at h2
     subst h2
     have hp:p=p':=by
      have n2:=hn
      rw[e]at n2
      have a1:=aT6.1 hn
      have a2:=aT6.1 n2
      have b1:v∉p:=fun hv=>a1.2.2 v hv v (by simp) rfl
      have b2:v∉p':=fun hv=>a2.2.2 v hv v (by simp) rfl
      have c1:(p++v::r).takeWhile (fun u=>decide (u≠v))=p:=by
       rw[List.takeWhile_append_of_pos (fun u hu=>by have:u≠v:=fun e=>b1 (e▸hu);simpa using this)]
       simp
      have c2:(p'++v::r').takeWhile (fun u=>decide (u≠v))=p':=by
       rw[List.takeWhile_append_of_pos (fun u hu=>by have:u≠v:=fun e=>b2 (e▸hu);simpa using this)]
       simp
      rw[<- c1,e,c2]
     subst hp
     exact⟨h3,h4⟩
 · rintro⟨h2,h3⟩
   rw[aIl h3,aPr h2]
theorem aKq {p r s:List Int}(h1:∀ u∈p++r,1<=u)(h:∀ u∈p,u∉s):(aT (p++r) s=0/\∀ u∈r,u∉s)\/(aT (p++r) s∈r/\aT (p++r) s∈s):=by
 rw[aIl h]
 rcases aEb (s:=s) (fun u hu=>h1 u (aUE p hu))with h | ⟨p',v,r',e,h2,h3,_⟩
 · exact .inl h
 · exact .inr (by rw[h2];exact⟨by rw[e];simp,h3⟩)
theorem yA {α:Type}{f:α->Nat}:∀ {l:List α},(∀ x∈l,0<f x)->0<dW f l
 | [],_=>by simp[dW]
 | x::l,h=>aUq (h x (by simp)) (yA fun y hy=>h y (by simp[hy]))
theorem aCr {α:Type}{f:α->Nat}:∀ {l:List α} {x:α},x∈l->f x∣dW f l
 | y::l,x,h=>by
  rw[dW]
  rcases aTM.1 h with rfl | h
  · exact aVZ _ _
  · exact aWc (aCr h) (aV4 _ _)
theorem aH5 {α:Type}(f:α->Nat):∀ a b:List α,dW f (a++b)=dW f a*dW f b
 | [],b=>by simp[dW]
 | x::a,b=>by rw[aTT,dW,dW,aH5 f a b,aUI]
theorem aGq {α:Type}{f g:α->Nat}:∀ {l:List α},(∀ x∈l,f x<=g x)->dW f l<=dW g l
 | [],_=>aTU _
 | x::l,h=>aUd (h x (by simp)) (aGq fun y hy=>h y (by simp[hy]))
theorem aEz {α:Type}(f:α->Nat)(k:Nat):∀ l:List α,dW (fun x=>f x ^ k) l=dW f l ^ k
 | []=>by simp[dW]
 | x::l=>by rw[dW,dW,aEz f k l,Nat.mul_pow]
theorem aDJ {α:Type}(f:α->Nat):∀ l:List α,l≠[]->72*dW f l<=dW (fun x=>72*f x) l
 | [x],_=>by simp[dW]
 | x::y::l,_=>by
  have:=aDJ f (y::l) (by simp)
  rw[dW,dW,<- aUI]
  refine aT7 _ (aTY ?_ this)
  exact Nat.le_mul_of_pos_left _ (by omega)
theorem aE3 {α:Type}(f:α->Nat)(p:α->Bool):∀ l:List α,dW f l=dW f (l.filter p)*dW f (l.filter fun x=>!p x)
 | []=>rfl
 | x::l=>by
  rw[aUn,aUn,dW,aE3 f p l]
  cases p x
  · simp only[aTP,aT9,aV3,aT3,dW]
    rw[aWm]
  · simp only[aT3,aUL,aTP,aT9,dW,aUI]
def ex (k:Nat):Nat:=72 ^ 2 ^ k
theorem aNY:∀ a b:Nat,a<=b->b<=6->tri a<=tri b:=by
 have:∀ b,b<=6->∀ a,a<=b->tri a<=tri b:=by decide
 exact fun a b h g=>this b g a h
theorem aQx {D T K k:Nat}(hD:0<D)(hk:K+k<=6)(hK:2<=K)(h1:72*D<=ex k)(h2:T<=ex k ^ (tri K+1)):Room D T K:=by
 have hF:0<ex k:=by unfold ex;exact Nat.pow_pos (by omega)
 have hk4:k<=4:=by omega
 have k6:K<=6:=by omega
 have d0:D<=ex k:=by omega
 have m1:72*(D*(72*D))<=ex k*ex k:=by rw[<- aUI];exact aUd h1 h1
 have m2:D*(72*D)<=ex k*ex k:=aUd d0 h1
 have e1:T*(D*(72*D) ^ tri K)<=ex k ^ (tri K+1)*(ex k*ex k ^ tri K):=aUd h2 (aUd d0 (aU8 h1 _))
 have e2:(D*(72*D))*(72*D) ^ tri K*((D*(72*D))*(72*(D*(72*D))) ^ tri (K-1))<=(ex k*ex k)*ex k ^ tri K*((ex k*ex k)*(ex k*ex k) ^ tri (K-1)) :=
  aUd (aUd m2 (aU8 h1 _)) (aUd m2 (aU8 m1 _))
 have e3:T*((D*(72*D))*(72*D) ^ (K-1)*(72*(D*(72*D))) ^ tri (K-1))<=ex k ^ (tri K+1)*((ex k*ex k)*ex k ^ (K-1)*(ex k*ex k) ^ tri (K-1)) :=
  aUd h2 (aUd (aUd m2 (aU8 h1 _)) (aU8 m1 _))
 have num:∀ k,k<=4->∀ K,K<=6-k->2<=K->ex k<=PP/\10 ^ 8*(ex k ^ (tri K+1)*(ex k*ex k ^ tri K))<10 ^ 216/\(K<=2\/(ex k*ex k<=PP/\10 ^ 8*((ex k*ex k)*ex k ^ tri K*((ex k*ex k)*(ex k*ex k) ^ tri (K-1)))<10 ^ 216))/\4*10 ^ 8*(ex k ^ (tri K+1)*((ex k*ex k)*ex k ^ (K-1)*(ex k*ex k) ^ tri (K-1)))<10 ^ 216:=by
  unfold ex PP;decide
 obtain⟨n1,n2,n3,n4⟩:=num k hk4 K (by omega) hK
 rw[<- aNS]at n2 n3 n4
 refine⟨k6,aTY h1 n1,aU6 (aT7 _ e1) n2,?_,aU6 (aT7 _ e3) n4⟩
 rcases n3 with n3 | ⟨n3,n5⟩
 · exact .inl n3
 · exact .inr ⟨aTY m1 n3,aU6 (aT7 _ e2) n5⟩
/- Trees over the rational numbers: the front of the next node. -/
def qG (o:List Int)(v:Int)(x:QL):Bool:=decide (aT o [x.a,x.b]=v)
def psN (c:CQ):List Int:=c.ps.map (·.node)
structure Base (l:List QL)(o:List Int):Prop where
 nd:o.Nodup
 h1:∀ u∈o,1<=u/\u<=9
 len:o.length<=5
 lk:∀ x∈l,Lk 1 20 x/\inV (0::o) x/\Dv 1 (enQ x)
 hw:sm wt l<=72
def iZ (rem:List Int)(c:NQ):Bool:=decide (c.up∈rem)
def kid (v:Int)(c:NQ):Bool:=decide (c.up=v)
def ex' (k:Nat):Nat:=if k=0 then 1 else ex k
theorem aLy (k:Nat):ex' k<=ex k:=by
 unfold ex'
 split
 · exact Nat.pow_pos (by omega)
 · exact aTU _
def aNM (l:List QL)(o rem:List Int)(b:List NQ)(u w:Int):Prop :=
 (∃ x∈l,aT o [x.a,x.b]∈rem/\((x.a=u/\x.b=w)\/(x.a=w/\x.b=u)))\/∃ c∈b,c.up∈rem/\u∈psN c.cond/\w∈psN c.cond
def dS (b:List NQ):List QL:=b.flatMap (·.msgs)
structure TInv (l:List QL)(o pre rem:List Int)(b:List NQ):Prop where
 split:o=pre++rem
 len:b.length=pre.length
 den:∀ c∈b,c.up∈rem->0<c.den
 msg:∀ c∈b,c.up∈rem->(∀ x∈c.msgs,Lk c.den (20*2 ^ b.length) x)/\c.msgs.Pairwise cY
 ps:∀ c∈b,c.up∈rem->(∀ u∈psN c.cond,u∈0::rem)/\c.up=aT o (psN c.cond)/\(∀ x∈c.msgs,x.a∈psN c.cond/\x.b∈psN c.cond/\x.a<x.b)/\∀ u∈psN c.cond,∀ w∈psN c.cond,u<w->∃ x∈c.msgs,x.a=u/\x.b=w
 prod:dW (fun c:NQ=>72*c.den) (b.filter (iZ rem))<=ex' b.length
 wtt:sm wt (dS (b.filter (iZ rem)))+sm wt (l.filter fun x=>decide (aT o [x.a,x.b]∈rem))<=72
 cut:∀ S:Int->Prop,(∃ u∈rem,S u)->¬S 0->∃ u w,S u/\¬S w/\aNM l o rem b u w
theorem aIk {pre rem s:List Int}(hn:(pre++rem).Nodup)(h1:∀ u∈pre++rem,1<=u)(h:aT (pre++rem) s∈rem):∀ u∈pre,u∉s:=by
 obtain⟨r1,r2,e⟩:=List.append_of_mem h
 have e2:pre++rem=(pre++r1)++aT (pre++rem) s::r2:=(congrArg (pre++·) e).trans (aT0 pre r1 _).symm
 generalize hw:aT (pre++rem) s=w at e e2
 rw[e2]at hw hn h1
 have:=(yY hn h1).1 hw
 exact fun u hu=>this.2 u (aUC _ hu)
theorem aBK (f:QL->Q)(p:QL->Bool):∀ l:List QL,sm f l=sm f (l.filter p)+sm f (l.filter fun x=>!p x)
 | []=>by simp only[aVA,sm];grind
 | x::l=>by
  have ih:=aBK f p l
  rw[aUn,aUn,sm]
  cases p x
  · simp only[aTP,aT9,aV3,aT3,sm];grind
  · simp only[aT3,aUL,aTP,aT9,sm];grind
theorem aDg (f:QL->Q)(p:NQ->Bool):∀ b:List NQ,sm f (dS b)=sm f (dS (b.filter p))+sm f (dS (b.filter fun x=>!p x))
 | []=>by simp only[dS,aVA,aVi,sm];grind
 | x::b=>by
  have ih:=aDg f p b
  unfold dS at ih ⊢
  rw[aUn,aUn,aUk,mV,ih]
  cases p x
  · simp only[aTP,aT9,aV3,aT3,aUk,mV];grind
  · simp only[aT3,aUL,aTP,aT9,aUk,mV];grind
theorem aGU {v:Int}{r:List Int}(b:List NQ):(b.filter (iZ (v::r))).filter (kid v)=b.filter (kid v):=by
 rw[aU2]
 refine aVl fun c _=>?_
 unfold iZ kid
 by_cases e:c.up=v <;> simp[e]
theorem aEL {v:Int}{r:List Int}(hv:v∉r)(b:List NQ):(b.filter (iZ (v::r))).filter (fun c=>!kid v c)=b.filter (iZ r):=by
 rw[aU2]
 refine aVl fun c _=>?_
 unfold iZ kid
 by_cases e:c.up=v
 · simp[e,hv]
 · simp[e]
theorem aNa {v:Int}{r o:List Int}(hv:v∉r)(l:List QL):sm wt (l.filter fun x=>decide (aT o [x.a,x.b]∈v::r))=sm wt (l.filter (qG o v))+sm wt (l.filter fun x=>decide (aT o [x.a,x.b]∈r)):=by
 rw[aBK wt (qG o v),aU2,aU2]
 congr 2
 · refine aVl fun x _=>?_
   unfold qG
   by_cases e:aT o [x.a,x.b]=v <;> simp[e]
 · refine aVl fun x _=>?_
   unfold qG
   by_cases e:aT o [x.a,x.b]=v
   · simp[e,hv]
   · simp[e]
/- Trees over the rational numbers: what comes into the next front. -/
theorem aDM {pre r:List Int}{v:Int}(hn:(pre++v::r).Nodup)(h1:∀ u∈pre++v::r,1<=u){x:QL}:qG (pre++v::r) v x=true↔(x.a=v\/x.b=v)/\x.a∉pre/\x.b∉pre:=by
 unfold qG
 rw[aUQ,yY hn h1]
 simp only[aTM,aVN,or_false]
 constructor
 · rintro⟨h2,h3⟩
   exact⟨by rcases h2 with h | h <;> simp[h],fun h=>h3 _ h (.inl rfl),fun h=>h3 _ h (.inr rfl)⟩
 · rintro⟨h2,h3,h4⟩
   refine⟨by rcases h2 with h | h <;> simp[h],fun u hu hh=>?_⟩
   rcases hh with rfl | rfl
   · exact h3 hu
   · exact h4 hu
theorem aSn {pre rem:List Int}{x:QL}(hv:inV (0::(pre++rem)) x)(h:∀ u∈pre,u∉[x.a,x.b]):inV (0::rem) x:=by
 obtain⟨h1,h2,h3⟩:=hv
 have key:∀ u,u∈[x.a,x.b]->u∈0::(pre++rem)->u∈0::rem:=by
  intro u hu hm
  simp only[aTM,aTR]at hm ⊢
  rcases hm with h4 | h4 | h4
  · exact .inl h4
  · exact absurd hu (h u h4)
  · exact .inr h4
 exact⟨key _ (by simp) h1,key _ (by simp) h2,h3⟩
section
variable {l:List QL}{o pre r:List Int}{v:Int}{b:List NQ}
theorem TInv.facts (hb:Base l o)(hi:TInv l o pre (v::r) b):(pre++v::r).Nodup/\(∀ u∈pre++v::r,1<=u)/\v∉r/\1<=v/\v<=9/\r.length+1+b.length<=5/\(0::v::r).Nodup/\∀ u∈0::v::r,0<=u/\u<=9:=by
 have e:=hi.split
 have n:=hb.nd
 have h1:=hb.h1
 have len:=hb.len
 rw[e]at n h1 len
 have n2:=(aT6.1 n).2.1
 have a1:=h1 v (by simp)
 have hr:∀ u∈v::r,1<=u/\u<=9:=fun u hu=>h1 u (aUE _ hu)
 refine⟨n,fun u hu=>(h1 u hu).1,(aUM.1 n2).1,a1.1,a1.2,?_,aUM.2 ⟨fun h=>?_,n2⟩,fun u hu=>?_⟩
 · have:=hi.len
   simp only[aT4,aUh]at len
   omega
 · have:=hr 0 h;omega
 · rcases aTM.1 hu with rfl | hu
   · omega
   · have:=hr u hu;omega
theorem yM {x:QL}:x∈oW v b↔∃ c∈b,c.up=v/\x∈c.msgs:=by
 unfold oW
 rw[aVh]
 constructor
 · rintro⟨c,hc,hx⟩
   rw[aUb,aUQ]at hc
   exact⟨c,hc.1,hc.2,hx⟩
 · rintro⟨c,hc,h,hx⟩
   exact⟨c,aUb.2 ⟨hc,aTN h⟩,hx⟩
theorem TInv.kids (hi:TInv l o pre (v::r) b):dW (fun c:NQ=>72*c.den) (b.filter (kid v))*dW (fun c:NQ=>72*c.den) (b.filter fun c=>iZ (v::r) c&&!kid v c)<=ex' b.length/\0<dW (fun c:NQ=>72*c.den) (b.filter fun c=>iZ (v::r) c&&!kid v c)/\0<dW (fun c:NQ=>72*c.den) (b.filter (kid v)):=by
 have h:=hi.prod
 rw[aE3 _ (kid v),aGU,aU2]at h
 have e:(fun a=>!kid v a&&iZ (v::r) a)=fun c=>iZ (v::r) c&&!kid v c:=by funext c;rw[Bool.and_comm]
 rw[e]at h
 refine⟨h,yA fun c hc=>?_,yA fun c hc=>?_⟩
 · rw[aUb,aUa]at hc
   have:=hi.den c hc.1 (aUi hc.2.1)
   omega
 · rw[aUb]at hc
   have hu:=aUi hc.2
   have:=hi.den c hc.1 (by rw[hu];simp)
   omega
theorem aIA (hi:TInv l o pre (v::r) b)(hb:Base l o):sm wt (l.filter (qG o v)++oW v b)+(sm wt (dS (b.filter (iZ r)))+sm wt (l.filter fun x=>decide (aT o [x.a,x.b]∈r)))<=72/\
 (∀ c∈b,c.up∈v::r->∀ x∈c.msgs,x.w<=72):=by
 obtain⟨n,h1,hv,_⟩:=hi.facts hb
 have h:=hi.wtt
 have h0:=h
 rw[aDg wt (kid v),aGU,aEL hv,aNa hv]at h
 rw[mV]
 have e:dS (b.filter (kid v))=oW v b:=rfl
 rw[e]at h
 refine⟨by grind,fun c hc hu x hx=>?_⟩
 have hm:x∈dS (b.filter (iZ (v::r))):=aVh.2 ⟨c,aUb.2 ⟨hc,aTN hu⟩,hx⟩
 have nn:∀ y∈dS (b.filter (iZ (v::r))),0<=wt y:=by
  intro y hy
  obtain⟨d,hd,hy⟩:=aVh.1 hy
  rw[aUb]at hd
  have:=((hi.msg d hd.1 (aUi hd.2)).1 y hy).sc.1
  unfold wt;grind
 have h2:=aIN nn x hm
 have h3:0<=sm wt (l.filter fun x=>decide (aT o [x.a,x.b]∈v::r)):=jF fun y hy=>(hb.lk y (aUb.1 hy).1).1
 have e2:wt x=x.w:=rfl
 grind
theorem aMH (hb:Base l o)(hi:TInv l o pre (v::r) b){c:NQ}(hc:c∈b)(hu:c.up=v):0<c.den*pn c.den c.msgs/\c.den*pn c.den c.msgs<=(72*c.den) ^ (tri (r.length+2)+1):=by
 obtain⟨n,h1,hv,_,_,hl,nV,hV⟩:=hi.facts hb
 have hu':c.up∈v::r:=by rw[hu];simp
 obtain⟨m1,m2⟩:=hi.msg c hc hu'
 obtain⟨p1,p2,p3,p4⟩:=hi.ps c hc hu'
 have hd:=hi.den c hc hu'
 have l1:=aDC nV m2 (fun x hx=>⟨p1 _ (p3 x hx).1,p1 _ (p3 x hx).2.1,(p3 x hx).2.2⟩)
 have eV:(0::v::r).length=r.length+2:=rfl
 rw[eV]at l1
 have l2:=aDa (K:=r.length+2) (by omega)
 have l3:=aGs (W:=72) hd (fun x hx=>(m1 x hx).sc) (fun x hx=>(aIA hi hb).2 c hc hu' x hx)
 refine⟨aUq hd (aDd hd fun x hx=>(m1 x hx).sc),?_⟩
 rw[aU0,aUm ((72*c.den) ^ _)]
 exact aUd (by omega) (aTY l3 (aUu (by omega) (by omega)))
theorem TInv.inc (hb:Base l o)(hi:TInv l o pre (v::r) b) :
 Inc (aCL v b) (dW (fun c:NQ=>c.den*pn c.den c.msgs) (b.filter (kid v))) (20*2 ^ b.length) (0::v::r) v (l.filter (qG o v)++oW v b):=by
 obtain⟨n,h1,hv,v1,v9,hl,nV,hV⟩:=hi.facts hb
 have kd:∀ c∈b.filter (kid v),c∈b/\c.up=v/\c.up∈v::r:=fun c hc=>by
  rw[aUb]at hc
  have:=aUi hc.2
  exact⟨hc.1,this,by rw[this];simp⟩
 have hD:0<aCL v b:=yA fun c hc=>hi.den c (kd c hc).1 (kd c hc).2.2
 obtain⟨k1,k2,k3⟩:=hi.kids
 have hH:dW (fun c:NQ=>72*c.den) (b.filter (kid v))<=ex b.length:=aTY (aTY (aVd _ k2) k1) (aLy _)
 have ex72:72<=ex b.length:=by
  unfold ex
  have:1<=2 ^ b.length:=Nat.one_le_two_pow
  calc 72=72 ^ 1:=rfl
   _<=_:=aUu (by omega) this
 have hX:20*2 ^ b.length<=20*2 ^ 4:=aT7 _ (aUu (by omega) (by omega))
 refine⟨hD,yA fun c hc=>(aMH hb hi (kd c hc).1 (kd c hc).2.1).1,by omega,aUq (by omega) (Nat.pow_pos (by omega)),?_,?_,nV,hV,by simp,v1,?_,?_⟩
 · intro x hx
   rcases aTR.1 hx with hx | hx
   · rw[aUb]at hx
     obtain⟨l1,l2,l3⟩:=hb.lk x hx.1
     refine⟨aKN l1 (Nat.one_dvd _) (by have:1<=2 ^ b.length:=Nat.one_le_two_pow;omega),?_,xP l3 (Nat.one_dvd _)⟩
     have e:=hi.split
     rw[e]at l2 hx
     obtain⟨_,a2,a3⟩:=(aDM n h1).1 hx.2
     refine aSn l2 fun u hu hm=>?_
     simp only[aTM,aVN,or_false]at hm
     rcases hm with rfl | rfl
     · exact a2 hu
     · exact a3 hu
   · obtain⟨c,hc,hu,hx⟩:=yM.1 hx
     have hk:c∈b.filter (kid v):=aUb.2 ⟨hc,aTN hu⟩
     have hu':c.up∈v::r:=by rw[hu];simp
     have hd:=hi.den c hc hu'
     obtain⟨m1,m2⟩:=hi.msg c hc hu'
     obtain⟨p1,p2,p3,p4⟩:=hi.ps c hc hu'
     refine⟨aKN (m1 x hx) (aCr (f:=fun c:NQ=>c.den) hk) (aTU _),⟨p1 _ (p3 x hx).1,p1 _ (p3 x hx).2.1,(p3 x hx).2.2⟩,?_⟩
     exact xP (aKJ hd (m1 x hx).sc) (aWc (aVu _ (aGr _ x hx)) (aCr (f:=fun c:NQ=>c.den*pn c.den c.msgs) hk))
 · have:=(aIA hi hb).1
   have a1:0<=sm wt (l.filter fun x=>decide (aT o [x.a,x.b]∈r)):=jF fun y hy=>(hb.lk y (aUb.1 hy).1).1
   have a2:0<=sm wt (dS (b.filter (iZ r))):=by
    refine iE fun y hy=>?_
    obtain⟨d,hd,hy⟩:=aVh.1 hy
    rw[aUb]at hd
    have:=((hi.msg d hd.1 (aUv v (aUi hd.2))).1 y hy).sc.1
    unfold wt;grind
   grind
 · obtain⟨u,w,s1,s2,adj⟩:=hi.cut (fun u=>u=v) ⟨v,by simp,rfl⟩ (by omega)
   subst s1
   rcases adj with⟨x,hx,hf,hp⟩ | ⟨c,hc,hu,p1,p2⟩
   · refine⟨x,aUC _ (aUb.2 ⟨hx,?_⟩),by rcases hp with hp | hp <;> simp[hp]⟩
     have e:=hi.split
     rw[e]at hf ⊢
     have:=aIk n h1 hf
     refine(aDM n h1).2 ⟨by rcases hp with hp | hp <;> simp[hp],fun h=>this _ h (by simp),fun h=>this _ h (by simp)⟩
   · obtain⟨q1,q2,q3,q4⟩:=hi.ps c hc hu
     have e:=hi.split
     have hcu:c.up=u:=by
      rw[q2,e]
      refine(yY n h1).2 ⟨p1,fun z hz hm=>?_⟩
      have:=q1 z hm
      rcases aTM.1 this with rfl | h
      · have:=h1 0 (aUC _ hz);omega
      · exact(aT6.1 n).2.2 z hz z h rfl
     rcases Int.lt_or_gt_of_ne s2 with h | h
     · obtain⟨x,hx,e1,e2⟩:=q4 w p2 u p1 h
       exact⟨x,aUE _ (yM.2 ⟨c,hc,hcu,hx⟩),.inr e2⟩
     · obtain⟨x,hx,e1,e2⟩:=q4 u p1 w p2 h
       exact⟨x,aUE _ (yM.2 ⟨c,hc,hcu,hx⟩),.inl e1⟩
 · have eV:(0::v::r).length=r.length+2:=rfl
   rw[eV]
   refine aQx (k:=b.length) hD (by omega) (by omega) ?_ ?_
   · by_cases c:b.filter (kid v)=[]
     · have:aCL v b=1:=by
        have e:aCL v b=dW (fun c:NQ=>c.den) (b.filter (kid v)):=rfl
        rw[e,c];rfl
       rw[this];omega
     · exact aTY (aDJ _ _ c) hH
   · refine aTY (aGq (g:=fun c:NQ=>(72*c.den) ^ (tri (r.length+2)+1)) fun c hc=>(aMH hb hi (kd c hc).1 (kd c hc).2.1).2) ?_
     rw[aEz]
     exact aU8 hH _
end
/- Trees over the rational numbers: the invariant goes on. -/
theorem aBQ (v:Int)(a:List QL):psN (pK v a)=a.map fun x=>x.a:=by
 unfold psN pK
 simp only[aVr]
 rfl
section
variable {l:List QL}{o pre r:List Int}{v:Int}{b:List NQ}
def nxt (l:List QL)(o:List Int)(v:Int)(b:List NQ):NQ:=aDO o v (l.filter (qG o v)) b
theorem aOK {u:Int}:u∈psN (nxt l o v b).cond↔∃ y∈(aR (l.filter (qG o v)++oW v b) [] 0).1,(y.a=v\/y.b=v)/\u=(aBB v y).a:=by
 have e:psN (nxt l o v b).cond=(bP v (aR (l.filter (qG o v)++oW v b) [] 0).1).map fun x=>x.a:=aBQ v _
 rw[e,aT5]
 constructor
 · rintro⟨x,hx,rfl⟩
   obtain⟨y,hy,ht,rfl⟩:=xE.1 hx
   exact⟨y,hy,ht,rfl⟩
 · rintro⟨y,hy,ht,rfl⟩
   exact⟨_,xE.2 ⟨y,hy,ht,rfl⟩,rfl⟩
theorem aEC {z:QL}(hz:z∈l.filter (qG o v)++oW v b)(h:z.a<z.b){u:Int}(hu:(z.a=v/\z.b=u)\/(z.a=u/\z.b=v)):u∈psN (nxt l o v b).cond:=by
 obtain⟨y,hy,e1,e2⟩:=wD _ [] 0 z (.inr hz)
 rw[aOK]
 have ht:y.a=v\/y.b=v:=by rw[<- e1,<- e2];rcases hu with hu | hu <;> simp[hu]
 refine⟨y,hy,ht,?_⟩
 have:=aEg ht (by omega)
 omega
theorem TInv.kid_ps (hb:Base l o)(hi:TInv l o pre (v::r) b){c:NQ}(hc:c∈b)(hu:c.up=v):v∈psN c.cond/\∀ u∈psN c.cond,u≠v->u∈psN (nxt l o v b).cond:=by
 have hu':c.up∈v::r:=by rw[hu];simp
 obtain⟨p1,p2,p3,p4⟩:=hi.ps c hc hu'
 obtain⟨n,h1,hv,v1,v9,hl,nV,hV⟩:=hi.facts hb
 have vm:v∈psN c.cond:=by
  have e:=hi.split
  rw[hu,e]at p2
  exact((yY n h1).1 p2.symm).1
 refine⟨vm,fun u hm hne=>?_⟩
 rcases Int.lt_or_gt_of_ne hne with h | h
 · obtain⟨x,hx,e1,e2⟩:=p4 u hm v vm h
   exact aEC (z:=x) (aUE _ (yM.2 ⟨c,hc,hu,hx⟩)) (by omega) (.inr ⟨e1,e2⟩)
 · obtain⟨x,hx,e1,e2⟩:=p4 v vm u hm h
   exact aEC (z:=x) (aUE _ (yM.2 ⟨c,hc,hu,hx⟩)) (by omega) (.inl ⟨e1,e2⟩)
theorem TInv.nxt_rem (hb:Base l o)(hi:TInv l o pre (v::r) b):∀ u∈psN (nxt l o v b).cond,u∈0::r/\u≠v:=by
 intro u hu
 have hj:=((hi.inc hb).join).2.1
 obtain⟨y,hy,ht,rfl⟩:=aOK.1 hu
 have:=hj.armV _ (xE.2 ⟨y,hy,ht,rfl⟩)
 refine⟨?_,this.2⟩
 have h1:=this.1
 simp only[aTM]at h1 ⊢
 rcases h1 with h | h | h
 · exact .inl h
 · exact absurd h this.2
 · exact .inr h
theorem TInv.adj (hb:Base l o)(hi:TInv l o pre (v::r) b){u w:Int}(h:aNM l o (v::r) b u w)(hne:u≠w) :
 (u=v->w∈psN (nxt l o v b).cond)/\(w=v->u∈psN (nxt l o v b).cond)/\(u≠v->w≠v->(u∈psN (nxt l o v b).cond/\w∈psN (nxt l o v b).cond)\/aNM l o r b u w):=by
 obtain⟨n,h1,hv,v1,v9,hl,nV,hV⟩:=hi.facts hb
 have e:=hi.split
 rcases h with⟨x,hx,hf,hp⟩ | ⟨c,hc,hu,p1,p2⟩
 · have own:x.a=v\/x.b=v->x∈l.filter (qG o v):=fun ht=>by
    rw[e]at hf ⊢
    have:=aIk n h1 hf
    exact aUb.2 ⟨hx,(aDM n h1).2 ⟨ht,fun h=>this _ h (by simp),fun h=>this _ h (by simp)⟩⟩
   have hlt:=(hb.lk x hx).2.1.2.2
   refine⟨fun h2=>?_,fun h2=>?_,fun h2 h3=>.inr (.inl ⟨x,hx,?_,hp⟩)⟩
   · subst h2
     rcases hp with⟨g1,g2⟩ | ⟨g1,g2⟩
     · exact aEC (aUC _ (own (.inl g1))) hlt (.inl ⟨g1,g2⟩)
     · exact aEC (aUC _ (own (.inr g2))) hlt (.inr ⟨g1,g2⟩)
   · subst h2
     rcases hp with⟨g1,g2⟩ | ⟨g1,g2⟩
     · exact aEC (aUC _ (own (.inr g2))) hlt (.inr ⟨g1,g2⟩)
     · exact aEC (aUC _ (own (.inl g1))) hlt (.inl ⟨g1,g2⟩)
   · rcases aTM.1 hf with h4 | h4
     · exfalso
       have h5:=h4
       rw[e]at h5
       have:=((yY n h1).1 h5).1
       simp only[aTM,aVN,or_false]at this
       omega
     · exact h4
 · by_cases k:c.up=v
   · obtain⟨vm,hk⟩:=hi.kid_ps hb hc k
     exact⟨fun h2=>hk w p2 (by omega),fun h2=>hk u p1 (by omega),fun h2 h3=>.inl ⟨hk u p1 h2,hk w p2 h3⟩⟩
   · have hr:c.up∈r:=(aTM.1 hu).resolve_left k
     obtain⟨q1,q2,q3,q4⟩:=hi.ps c hc hu
     have nv:v∉psN c.cond:=fun hm=>by
      rw[e]at q2
      refine k (q2.trans ((yY n h1).2 ⟨hm,fun z hz hm=>?_⟩))
      rcases aTM.1 (q1 z hm)with rfl | h
      · have:=h1 0 (aUC _ hz);omega
      · exact(aT6.1 n).2.2 z hz z h rfl
     exact⟨fun h2=>absurd (h2▸p1) nv,fun h2=>absurd (h2▸p2) nv,fun _ _=>.inr (.inr ⟨c,hc,hr,p1,p2⟩)⟩
theorem TInv.nxt_up (hb:Base l o)(hi:TInv l o pre (v::r) b){u:Int}(hu:u∈psN (nxt l o v b).cond)(h0:u≠0):(nxt l o v b).up∈r:=by
 obtain⟨n,h1,hv,v1,v9,hl,nV,hV⟩:=hi.facts hb
 have e:=hi.split
 have hr:=hi.nxt_rem hb
 have er:(nxt l o v b).up=aT o (psN (nxt l o v b).cond):=rfl
 have e2:pre++v::r=(pre++[v])++r:=by simp
 have e3:aT o (psN (nxt l o v b).cond)=aT ((pre++[v])++r) (psN (nxt l o v b).cond):=congrArg (fun o'=>aT o' (psN (nxt l o v b).cond)) (e.trans e2)
 rw[er,e3]
 have h1':∀ u∈(pre++[v])++r,1<=u:=by rw[<- e2];exact h1
 rcases aKq (p:=pre++[v]) (r:=r) (s:=psN (nxt l o v b).cond) h1' (fun z hz hm=>by
  obtain⟨g1,g2⟩:=hr z hm
  have zr:z∈r:=by
   rcases aTM.1 g1 with h | h
   · have:=h1' z (aUC _ hz);omega
   · exact h
  rcases aTR.1 hz with hz | hz
  · exact(aT6.1 n).2.2 z hz z (by simp[zr]) rfl
  · simp at hz;exact g2 hz)with⟨_,h⟩ | h
 · exact absurd hu (h u ((aTM.1 (hr u hu).1).resolve_left h0))
 · exact h.1
theorem aM2 {P H:Nat}{D d k:Nat}(hH:0<H)(hP:0<P)(h:H*P<=ex' k)(hd:d<=D*(72*D))(hD:(D=1/\H=1)\/72*D<=H):P*(72*d)<=ex (k+1):=by
 have e:ex (k+1)=ex k*ex k:=by unfold ex;rw[aU0,Nat.pow_mul,Nat.pow_two]
 have h2:=aLy k
 rcases hD with⟨rfl,rfl⟩ | hD
 · have hd2:72*d<=72*72:=by omega
   by_cases c:k=0
   · subst c
     have:ex' 0=1:=rfl
     rw[this]at h
     have hp1:P=1:=by omega
     rw[hp1,e]
     have:ex 0=72:=rfl
     rw[this];omega
   · have ek:72*72<=ex k:=by
      unfold ex
      have:2<=2 ^ k:=by
       calc 2=2 ^ 1:=rfl
        _<=_:=aUu (by omega) (by omega)
      calc 72*72=72 ^ 2:=rfl
       _<=_:=aUu (by omega) this
     rw[e]
     exact aUd (by omega) (by omega)
 · have a1:72*d<=H*H:=by
    calc 72*d<=72*(D*(72*D)):=aT7 _ hd
     _=(72*D)*(72*D):=by rw[aUI]
     _<=H*H:=aUd hD hD
   rw[e]
   calc P*(72*d)<=P*(H*H):=aT7 _ a1
    _=(H*P)*H:=by rw[<- aUI,aUm P H]
    _<=ex k*ex k:=aUd (by omega) (aTY (aVd H hP) (by omega))
end
/- Trees over the rational numbers: the whole tree. -/
section
variable {l:List QL}{o pre r:List Int}{v:Int}{b:List NQ}
theorem TInv.next (hb:Base l o)(hi:TInv l o pre (v::r) b):TInv l o (pre++[v]) r (b++[nxt l o v b])/\sS o v ((l.filter (qG o v)).map QL.toL) (b.map NQ.toN)=some (nxt l o v b).toN/\bH (nxt l o v b).enQ:=by
 obtain⟨n,h1,hv,v1,v9,hl,nV,hV⟩:=hi.facts hb
 have hinc:=hi.inc hb
 obtain⟨c1,c2,c3,c4,c5,c6,c7⟩:=aOQ (order:=o) hinc
 have hmem:∀ c∈b++[nxt l o v b],c∈b\/c=nxt l o v b:=fun c hc=>by simpa using hc
 have hlen:(b++[nxt l o v b]).length=b.length+1:=by simp
 have hsp:=hi.split
 refine⟨⟨?_,?_,?_,?_,?_,?_,?_,?_⟩,c1,c2⟩
 · rw[hsp];simp
 · rw[hlen,aT4,hi.len];rfl
 · intro c hc hu
   rcases hmem c hc with hc | rfl
   · exact hi.den c hc (aUv v hu)
   · exact c3
 · intro c hc hu
   rw[hlen]
   rcases hmem c hc with hc | rfl
   · obtain⟨m1,m2⟩:=hi.msg c hc (aUv v hu)
     exact⟨fun x hx=>aKN (m1 x hx) (Nat.dvd_refl _) (aT7 _ (aUu (by omega) (by omega))),m2⟩
   · refine⟨fun x hx=>?_,c6⟩
     have:=(c5 x hx).1
     have e:2*(20*2 ^ b.length)=20*2 ^ (b.length+1):=by rw[aU0];omega
     rw[<- e];exact this
 · intro c hc hu
   rcases hmem c hc with hc | rfl
   · obtain⟨p1,p2,p3,p4⟩:=hi.ps c hc (aUv v hu)
     refine⟨fun u hm=>?_,p2,p3,p4⟩
     have h:=p1 u hm
     simp only[aTM]at h ⊢
     rcases h with h | h | h
     · exact .inl h
     · exfalso
       subst h
       rw[hsp]at p2
       have:c.up=u:=p2.trans ((yY n h1).2 ⟨hm,fun z hz hz2=>by
        rcases aTM.1 (p1 z hz2)with rfl | h
        · have:=h1 0 (aUC _ hz);omega
        · exact(aT6.1 n).2.2 z hz z h rfl⟩)
       rw[this]at hu;exact hv hu
     · exact .inr h
   · refine⟨fun u hm=>(hi.nxt_rem hb u hm).1,rfl,fun x hx=>?_,fun u hu' w hw' huw=>?_⟩
     · have hj:=(hinc.join).2.1
       refine⟨?_,?_,(c5 x hx).2.2.2⟩
       all_goals
        obtain⟨y,hy,e1,e2⟩:=qX _ [] 0 x hx
        have hy:=hy.resolve_left (by simp)
        rcases aTR.1 hy with hy | hy
        · obtain⟨m1,m2,m3⟩:=aAz.1 hy
          obtain⟨z,hz,f1,f2⟩:=qX _ [] 0 y m1
          have hz:=hz.resolve_left (by simp)
          rcases aTR.1 hz with hz | hz
          · exfalso
            have:=(aUb.1 hz).2
            rw[hsp]at this
            have:=((aDM n h1).1 this).1
            omega
          · obtain⟨c,hc,hu2,hz⟩:=yM.1 hz
            obtain⟨_,hk⟩:=hi.kid_ps hb hc hu2
            obtain⟨_,_,p3,_⟩:=hi.ps c hc (by rw[hu2];simp)
            have g1:=(p3 z hz).1
            have g2:=(p3 z hz).2.1
            rw[f1,e1]at g1
            rw[f2,e2]at g2
            first | exact hk _ g1 (by omega) | exact hk _ g2 (by omega)
        · obtain⟨_,_,_,_,⟨y1,hy1,q1⟩,y2,hy2,q2⟩:=hj.arms.each hy
          have e:psN (nxt l o v b).cond=(bP v (aR (l.filter (qG o v)++oW v b) [] 0).1).map fun x=>x.a:=aBQ v _
          rw[e]
          first | exact aT5.2 ⟨y1,hy1,q1.trans e1⟩ | exact aT5.2 ⟨y2,hy2,q2.trans e2⟩
     · have hj:=(hinc.join).2.1
       have e:psN (nxt l o v b).cond=(bP v (aR (l.filter (qG o v)++oW v b) [] 0).1).map fun x=>x.a:=aBQ v _
       rw[e]at hu' hw'
       obtain⟨x,hx,rfl⟩:=aT5.1 hu'
       obtain⟨y,hy,rfl⟩:=aT5.1 hw'
       have hm:=aJ8 (sm wt (bP v (aR (l.filter (qG o v)++oW v b) [] 0).1)) hj.arms.inc x hx y hy huw
       obtain⟨z,hz,f1,f2⟩:=wD (iW v (aR (l.filter (qG o v)++oW v b) [] 0).1) [] 0 _ (.inr (aUE _ hm))
       exact⟨z,hz,f1.symm,f2.symm⟩
 · obtain⟨k1,k2,k3⟩:=hi.kids
   rw[hlen,aVT,aH5]
   have e1:b.filter (iZ r)=b.filter fun c=>iZ (v::r) c&&!kid v c:=by
    rw[<- aEL hv,aU2]
    refine aVl fun c _=>?_
    rw[Bool.and_comm]
   rw[e1]
   have ekk:ex' (b.length+1)=ex (b.length+1):=by unfold ex';rw[aTJ (by omega)]
   rw[ekk]
   have hD:(aCL v b=1/\dW (fun c:NQ=>72*c.den) (b.filter (kid v))=1)\/72*aCL v b<=dW (fun c:NQ=>72*c.den) (b.filter (kid v)):=by
    by_cases c:b.filter (kid v)=[]
    · left
      have e:aCL v b=dW (fun c:NQ=>c.den) (b.filter (kid v)):=rfl
      rw[e,c];exact⟨rfl,rfl⟩
    · exact .inr (aDJ (fun c:NQ=>c.den) _ c)
   have hs:=aM2 k3 k2 k1 c4 hD
   have le:dW (fun c:NQ=>72*c.den) ([nxt l o v b].filter (iZ r))<=72*(nxt l o v b).den:=by
    have hp:0<(nxt l o v b).den:=c3
    rw[aUn,aVA]
    split
    · simp[dW]
    · simp only[dW];omega
   exact aTY (aT7 _ le) hs
 · have hw:=(aIA hi hb).1
   have hn:0<=sm wt (nxt l o v b).msgs:=jF fun x hx=>(c5 x hx).1
   have e:sm wt (dS ((b++[nxt l o v b]).filter (iZ r)))<=sm wt (dS (b.filter (iZ r)))+sm wt (nxt l o v b).msgs:=by
    unfold dS
    rw[aVT,aVz,mV,aUn,aVA]
    split
    · rw[aUk,aVi,aUJ];grind
    · rw[aVi];simp only[sm];grind
   have c7':sm wt (nxt l o v b).msgs<=sm wt (l.filter (qG o v)++oW v b):=c7
   grind
 · intro S hS h0
   obtain⟨u0,hu0,su0⟩:=hS
   have viaN:∀ u w,S u->¬S w->u∈psN (nxt l o v b).cond->w∈psN (nxt l o v b).cond->aNM l o r (b++[nxt l o v b]) u w:=by
    intro u w su sw hu hw
    exact .inr ⟨nxt l o v b,by simp,hi.nxt_up hb hu (fun e=>h0 (e▸su)),hu,hw⟩
   have up:∀ u w,aNM l o r b u w->aNM l o r (b++[nxt l o v b]) u w:=by
    rintro u w (⟨x,hx,h⟩ | ⟨c,hc,h⟩)
    · exact .inl ⟨x,hx,h⟩
    · exact .inr ⟨c,by simp[hc],h⟩
   have ne0:u0≠v:=fun e=>hv (e▸hu0)
   obtain⟨u,w,⟨su,uv⟩,sw,ad⟩:=hi.cut (fun u=>S u/\u≠v) ⟨u0,aUv v hu0,su0,ne0⟩ (fun h=>h0 h.1)
   have uw:u≠w:=fun e=>sw (e▸⟨su,uv⟩)
   obtain⟨t1,t2,t3⟩:=hi.adj hb ad uw
   by_cases wv:w=v
   · have hu:=t2 wv
     obtain⟨u',w',su',sw',ad'⟩:=hi.cut (fun u=>S u\/u=v) ⟨u0,aUv v hu0,.inl su0⟩ (fun h=>h.elim h0 (by omega))
     have uw':u'≠w':=fun e=>sw' (e▸su')
     obtain⟨t1',t2',t3'⟩:=hi.adj hb ad' uw'
     have wv':w'≠v:=fun e=>sw' (.inr e)
     have sw2:¬S w':=fun h=>sw' (.inl h)
     by_cases uv':u'=v
     · exact⟨u,w',su,sw2,viaN u w' su sw2 hu (t1' uv')⟩
     · have su2:S u':=su'.resolve_right uv'
       rcases t3' uv' wv' with⟨g1,g2⟩ | g
       · exact⟨u',w',su2,sw2,viaN u' w' su2 sw2 g1 g2⟩
       · exact⟨u',w',su2,sw2,up _ _ g⟩
   · have sw2:¬S w:=fun h=>sw ⟨h,wv⟩
     rcases t3 uv wv with⟨g1,g2⟩ | g
     · exact⟨u,w,su,sw2,viaN u w su sw2 g1 g2⟩
     · exact⟨u,w,su,sw2,up _ _ g⟩
end
def aE (l:List QL)(o:List Int):List Int->List NQ->List NQ
 | [],b=>b
 | v::r,b=>aE l o r (b++[nxt l o v b])
theorem aRs (o:List Int)(v:Int):∀ l:List QL,(l.map QL.toL).filter (qT o v)=(l.filter (qG o v)).map QL.toL
 | []=>rfl
 | x::l=>by
  have e:qT o v x.toL=qG o v x:=rfl
  rw[aTV,aUn,aUn,aRs o v l,e]
  split <;> rfl
theorem aN0 {l:List QL}{o:List Int}(hb:Base l o):∀ (r pre:List Int) (b:List NQ),TInv l o pre r b->wS (l.map QL.toL) o r (b.map NQ.toN)=some ((aE l o r b).map NQ.toN)
 | [],_,b,_=>rfl
 | v::r,pre,b,hi=>by
  obtain⟨h1,h2,h3⟩:=hi.next hb
  rw[wS,aRs,h2]
  have:=aN0 hb r (pre++[v]) (b++[nxt l o v b]) h1
  rw[aUF]at this
  exact this
def Grounded (l:List QL)(o:List Int):Prop:=∀ S:Int->Prop,(∃ u∈o,S u)->¬S 0->∃ x∈l,(S x.a/\¬S x.b)\/(S x.b/\¬S x.a)
theorem TInv.start {l:List QL}{o:List Int}(hb:Base l o)(hg:Grounded l o):TInv l o [] o [] where
 split:=rfl
 len:=rfl
 den:=by simp
 msg:=by simp
 ps:=by simp
 prod:=aTU 1
 wtt:=by
  have e:sm wt (dS (([]:List NQ).filter (iZ o)))=0:=rfl
  rw[e]
  have h1:=aBK wt (fun x=>decide (aT o [x.a,x.b]∈o)) l
  have h2:0<=sm wt (l.filter fun x=>!decide (aT o [x.a,x.b]∈o)):=jF fun y hy=>(hb.lk y (aUb.1 hy).1).1
  have:=hb.hw
  grind
 cut:=by
  intro S hS h0
  obtain⟨x,hx,h⟩:=hg S hS h0
  have hf:aT o [x.a,x.b]∈o:=by
   obtain⟨i1,i2,i3⟩:=(hb.lk x hx).2.1
   have hbm:x.b∈o:=by
    rcases aTM.1 i2 with h | h
    · exfalso
      rcases aTM.1 i1 with h2 | h2
      · omega
      · have:=hb.h1 _ h2;omega
    · exact h
   rcases aEb (s:=[x.a,x.b]) (fun u hu=>(hb.h1 u hu).1)with⟨_,h4⟩ | ⟨p,v,r,e,h2,h3,h4⟩
   · exact absurd (by simp) (h4 _ hbm)
   · rw[h2,e];simp
  rcases h with⟨g1,g2⟩ | ⟨g1,g2⟩
  · exact⟨x.a,x.b,g1,g2,.inl ⟨x,hx,hf,.inl ⟨rfl,rfl⟩⟩⟩
  · exact⟨x.b,x.a,g1,g2,.inl ⟨x,hx,hf,.inr ⟨rfl,rfl⟩⟩⟩
theorem Base.join {l:List QL}{o:List Int}(hb:Base l o):jnP (l.map QL.toL)=some ((aR l [] 0).1.map QL.toL,ofQ (aR l [] 0).2)/\(∀ k∈(aR l [] 0).1,k.fit/\Lk 1 20 k/\inV (0::o) k)/\(aR l [] 0).1.Pairwise cY/\bH (aR l [] 0).2:=by
 have nV:(0::o).Nodup:=aUM.2 ⟨fun h=>by have:=hb.h1 0 h;omega,hb.nd⟩
 have hVn:∀ u∈0::o,0<=u/\u<=9:=fun u hu=>by
  rcases aTM.1 hu with rfl | hu
  · omega
  · have:=hb.h1 u hu;omega
 have len:(0::o).length<=6:=by have:=hb.len;simp only[aUh];omega
 have j:Jn 1 1 20 15 (0::o):=⟨by omega,by decide,by omega,by omega,by omega,nV,by
  have h1:=aDa len
  have h2:=aNY _ 6 len (by omega)
  have h3:tri 6=15:=by decide
  omega,by rw[aNS];decide⟩
 have es:=uX (fun x hx=>(hb.lk x hx).1) (by omega) hb.hw
 have e0:(0:Q)-sm enQ []=0:=by simp only[sm];grind
 have g:=aD6 j l [] 0 (fun x hx=>⟨(hb.lk x hx).1,(hb.lk x hx).2.1,(hb.lk x hx).2.2⟩) (by simp) List.Pairwise.nil (by simp only[sm];have:=hb.hw;grind) ⟨0,by simp⟩ (by grind) (by have:=es.2;grind)
 rw[e0]at g
 obtain⟨g1,g2,g3,g4,g5⟩:=g
 have fo:∀ x∈l,x.fit/\x.ok:=fun x hx=>by
  obtain⟨l1,⟨l2,l3,l4⟩,_⟩:=hb.lk x hx
  refine⟨aGT (by omega) (by decide) l1 (by omega) (by omega) ?_,hVn _ l2,hVn _ l3,l4,l1.sc.1⟩
  have:=xL (fun y hy=>(hb.lk y hy).1) hx
  have:=hb.hw
  grind
 obtain⟨e1,f1,f2⟩:=aSb fo g1
 exact⟨e1,fun k hk=>⟨f1 k hk,g2 k hk⟩,g3,f2⟩
theorem aQ4 {l:List QL}{o:List Int}(hb:Base l o)(hg:Grounded l o)(ho:isOrd ((aR l [] 0).1.map QL.toL) o):zB (l.map QL.toL) o=some ⟨(aE l o o []).map NQ.toN⟩:=by
 unfold zB
 rw[hb.join.1]
 simp only[aTI]
 rw[aTK ho]
 have:=aN0 hb o [] [] (TInv.start hb hg)
 rw[aUH]at this
 rw[this]
 rfl
/- Links of whole numbers that tie nodes to the ground: their tree is built. -/
def LkI (x:QL):Prop:=(0<=x.a/\x.a<x.b/\x.b<=5)/\∃ w p q:Int,(1<=w/\w<=9)/\(-20<=p/\p<=20)/\(-20<=q/\q<=20)/\x.w=(w:Q)/\x.x=(p:Q)/\x.y=(q:Q)
theorem aPI {B:Nat}{z:Int}(h:-(B:Int)<=z/\z<=(B:Int)):bd B (z:Q):=by
 constructor
 · have:=(aVP (a:=-(B:Int)) (b:=z)).2 h.1
   rw[_root_.Rat.intCast_neg]at this;exact this
 · exact(aVP (a:=z) (b:=(B:Int))).2 h.2
theorem LkI.lk {x:QL}(h:LkI x):Lk 1 20 x/\Dv 1 (enQ x)/\x.w<=9:=by
 obtain⟨_,w,p,q,hw,hp,hq,e1,e2,e3⟩:=h
 have w0:((0:Int):Q)<(w:Q):=aWH.2 (by omega)
 have w9:(w:Q)<=((9:Int):Q):=aVP.2 hw.2
 have z0:((0:Int):Q)=0:=rfl
 have z9:((9:Int):Q)=9:=rfl
 have m1:mx x=((w*p:Int):Q):=by unfold mx;rw[e1,e2,aVW]
 have m2:my x=((w*q:Int):Q):=by unfold my;rw[e1,e3,aVW]
 have m3:enQ x=((w*(p*p+q*q):Int):Q):=by
  unfold enQ sqQ
  rw[e1,e2,e3,aVW,_root_.Rat.intCast_add,aVW,aVW]
 refine⟨⟨⟨by rw[e1];grind,by rw[e1];exact aDr _,by rw[m1];exact aDr _,by rw[m2];exact aDr _⟩,by rw[e2];exact aPI (by omega),by rw[e3];exact aPI (by omega)⟩,by rw[m3];exact aDr _,by rw[e1];grind⟩
theorem aSY:∀ {l:List QL},(∀ x∈l,LkI x)->sm wt l<=((9*l.length:Nat):Q)
 | [],_=>by simp[sm]
 | x::l,h=>by
  have h1:=(h x (by simp)).lk.2.2
  have h2:=aSY (l:=l) (fun y hy=>h y (by simp[hy]))
  have e:(9*(x::l).length:Nat)=9+9*l.length:=by rw[aUh];omega
  rw[sm,e,aWI]
  have e2:wt x=x.w:=rfl
  have e3:((9:Nat):Q)=9:=rfl
  rw[e2,e3];grind
structure Tie (l:List QL)(o:List Int):Prop where
 nd:o.Nodup
 mem:∀ u,u∈o↔1<=u/\∃ x∈l,x.a=u\/x.b=u
 lk:∀ x∈l,LkI x
 len:l.length<=8
 gr:Grounded l o
theorem Tie.five {l:List QL}{o:List Int}(h:Tie l o):∀ u∈o,1<=u/\u<=5:=by
 intro u hu
 obtain⟨h1,x,hx,ht⟩:=(h.mem u).1 hu
 have:=(h.lk x hx).1
 omega
theorem Tie.base {l:List QL}{o:List Int}(h:Tie l o):Base l o where
 nd:=h.nd
 h1:=fun u hu=>by have:=h.five u hu;omega
 len:=by
  have:=h.nd.length_le_of_subset (l₂:=[1,2,3,4,5]) (fun u hu=>by
   have:=h.five u hu
   simp only[aTM,aVN,or_false];omega)
  simpa using this
 lk:=fun x hx=>by
  obtain⟨h1,h2,h3⟩:=(h.lk x hx).lk
  have hn:=(h.lk x hx).1
  refine⟨h1,⟨?_,?_,hn.2.1⟩,h2⟩
  · by_cases c:x.a=0
    · rw[c];simp
    · exact aUv _ ((h.mem _).2 ⟨by omega,x,hx,.inl rfl⟩)
  · exact aUv _ ((h.mem _).2 ⟨by omega,x,hx,.inr rfl⟩)
 hw:=by
  have h1:=aSY h.lk
  have h2:((9*l.length:Nat):Q)<=((72:Nat):Q):=aBS (by have:=h.len;omega)
  have e:((72:Nat):Q)=72:=rfl
  grind
theorem aGH {s:List Link}{u:Int}:u∈fF s↔(1<=u/\u<=9)/\∃ x∈s,x.fA=u\/x.fB=u:=by
 unfold fF aFj tch
 rw[aUb,aWt]
 constructor
 · rintro⟨h1,x,hx,ht⟩
   obtain⟨k,hk,rfl⟩:=aT5.1 h1
   rw[aWp]at hk
   exact⟨by omega,x,hx,aUi ht⟩
 · rintro⟨h1,x,hx,ht⟩
   exact⟨aT5.2 ⟨(u-1).toNat,aWp.2 (by omega),by omega⟩,x,hx,aTN ht⟩
theorem oC (s:List Link):(fF s).Nodup:=by
 unfold fF
 exact(by decide:aFj.Nodup).filter _
theorem aNg {a b:List Int}(ha:a.Nodup)(hb:b.Nodup)(h:∀ u,u∈a↔u∈b):a.length=b.length :=
 Nat.le_antisymm (ha.length_le_of_subset fun u hu=>(h u).1 hu) (hb.length_le_of_subset fun u hu=>(h u).2 hu)
theorem Tie.isOrd {l:List QL}{o:List Int}(h:Tie l o):isOrd ((aR l [] 0).1.map QL.toL) o:=by
 have key:∀ u,u∈o↔u∈fF ((aR l [] 0).1.map QL.toL):=by
  intro u
  rw[h.mem,aGH]
  constructor
  · rintro⟨h1,x,hx,ht⟩
    obtain⟨y,hy,e1,e2⟩:=wD l [] 0 x (.inr hx)
    have:=(h.lk x hx).1
    refine⟨by omega,y.toL,aU9 hy,?_⟩
    show y.a=u\/y.b=u
    rw[<- e1,<- e2];exact ht
  · rintro⟨h1,z,hz,ht⟩
    obtain⟨y,hy,rfl⟩:=aT5.1 hz
    obtain⟨x,hx,e1,e2⟩:=qX l [] 0 y hy
    have hx:=hx.resolve_left (by simp)
    refine⟨h1.1,x,hx,?_⟩
    rw[e1,e2];exact ht
 exact⟨h.nd,fun y hy=>(key y).1 hy,aNg h.nd (oC _) key⟩
theorem Tie.build {l:List QL}{o:List Int}(h:Tie l o):zB (l.map QL.toL) o=some ⟨(aE l o o []).map NQ.toN⟩:=aQ4 h.base h.gr h.isOrd
theorem Grounded.perm {l l':List QL}{o o':List Int}(h:Grounded l o)(h1:∀ x∈l,x∈l')(h2:∀ u∈o',u∈o):Grounded l' o':=by
 intro S hS h0
 obtain⟨u,hu,su⟩:=hS
 obtain⟨x,hx,hh⟩:=h S ⟨u,h2 u hu,su⟩ h0
 exact⟨x,h1 x hx,hh⟩
theorem Tie.perm {l l':List QL}{o o':List Int}(h:Tie l o)(hl:l'.Perm l)(ho:o'.Perm o):Tie l' o' where
 nd:=ho.nodup_iff.2 h.nd
 mem:=fun u=>by
  rw[ho.mem_iff,h.mem]
  constructor
  · rintro⟨h1,x,hx,ht⟩;exact⟨h1,x,hl.mem_iff.2 hx,ht⟩
  · rintro⟨h1,x,hx,ht⟩;exact⟨h1,x,hl.mem_iff.1 hx,ht⟩
 lk:=fun x hx=>h.lk x (hl.mem_iff.1 hx)
 len:=by rw[hl.length_eq];exact h.len
 gr:=h.gr.perm (fun x hx=>hl.mem_iff.2 hx) fun u hu=>ho.mem_iff.1 hu
theorem aKm {l:List QL}{o:List Int}(hl:∀ x∈l,0<=x.a/\x.a<x.b)(hm:∀ u,u∈o↔1<=u/\∃ x∈l,x.a=u\/x.b=u)(h:∀ u∈o,∃ x∈l,x.b=u):Grounded l o:=by
 intro S hS h0
 have key:∀ (n:Nat) (u:Int),u.toNat<=n->u∈o->S u->∃ x∈l,(S x.a/\¬S x.b)\/(S x.b/\¬S x.a):=by
  intro n
  induction n with
  | zero=>intro u hn hu _;have:=(hm u).1 hu;omega
  | succ n ih =>
   intro u hn hu su
   obtain⟨x,hx,e⟩:=h u hu
   have hx2:=hl x hx
   by_cases c:S x.a
   · refine ih x.a (by omega) ((hm _).2 ⟨?_,x,hx,.inl rfl⟩) c
     by_cases z:x.a=0
     · rw[z]at c;exact absurd c h0
     · omega
   · exact⟨x,hx,.inr ⟨e▸su,c⟩⟩
 obtain⟨u,hu,su⟩:=hS
 exact key u.toNat u (aTU _) hu su
theorem aN1 {n:Int}{l:List QL}{o:List Int}(h1:∀ x∈l,LkI x/\x.b<=n+1)(h2:l.length<=8)(h3:∀ k,1<=k->k<=n->∃ x∈l,x.b=k)(nd:o.Nodup)(hm:∀ u,u∈o↔1<=u/\∃ x∈l,x.a=u\/x.b=u):Tie l o where
 nd:=nd
 mem:=hm
 lk:=fun x hx=>(h1 x hx).1
 len:=h2
 gr:=aKm (fun x hx=>by have:=(h1 x hx).1.1;omega) hm fun u hu=>by
  obtain⟨g1,x,hx,ht⟩:=(hm u).1 hu
  by_cases c:u<=n
  · exact h3 u g1 c
  · have:=(h1 x hx)
    have g:=this.1.1
    refine⟨x,hx,by omega⟩
/- The cursor and what is drawn from it. -/
open IntKind
theorem aIq (x:Int):0<=aAo .i64 x 255/\aAo .i64 x 255<=255:=by
 unfold aAo
 have h:(BitVec.ofInt (IntKind.bits .i64) x &&& BitVec.ofInt (IntKind.bits .i64) 255).toNat<=255:=by
  rw[BitVec.toNat_and]
  exact aTY Nat.and_le_right (by decide)
 rw[wi (by omega)]
 omega
def rO (c:l01Cur):Prop:=c.fb.length<=1048576/\0<=c.fi/\c.fi<=1048577
theorem aPE (c:l01Cur)(h:rO c):∃ r,iM c=some r/\(0<=r.1/\r.1<=255)/\rO r.2/\r.2.fb=c.fb:=by
 obtain⟨h1,h2,h3⟩:=h
 unfold iM
 simp only[aL]
 by_cases hc:c.fi<(c.fb.length:Int)
 · rw[aTK hc]
   have:=aM (l:=c.fb) (k:=c.fi.toNat) (by omega)
   rw[show((c.fi.toNat:Nat):Int)=c.fi by omega]at this
   rw[this]
   simp only[aTI]
   refine⟨_,rfl,aIq _,⟨h1,?_,?_⟩,rfl⟩
   · simp only[];rw[wi (by omega)];omega
   · simp only[];rw[wi (by omega)];omega
 · rw[aTJ hc]
   exact⟨_,rfl,aIq _,⟨h1,h2,h3⟩,rfl⟩
theorem sD (c:l01Cur)(n:Int)(h:rO c)(hn:1<=n/\n<=256):∃ r,cA c n=some r/\(0<=r.1/\r.1<n)/\rO r.2/\r.2.fb=c.fb:=by
 unfold cA
 rw[aTJ (by omega),aTK (by omega)]
 obtain⟨r,e,g1,g2,g3⟩:=aPE c h
 rw[show(l01Cur.mk c.fb c.fi c.fh)=c from rfl,e]
 simp only[aTI]
 rw[aN (by omega)]
 refine⟨_,rfl,⟨Int.tmod_nonneg _ g1.1,Int.tmod_lt_of_pos _ (by omega)⟩,?_,rfl⟩
 unfold rO at g2 h ⊢
 simp only[]
 exact⟨h.1,g2.2⟩
theorem aRu (code:List Int)(h:code.length<=1048576):∃ c,qR code=some c/\rO c/\c.fb=code:=by
 unfold qR
 simp only[aL]
 have main:∀ (m k:Nat) (v:Int),m+k=code.length->∃ d,lp (mT code) (v,(k:Int))=some d:=by
  intro m
  induction m with
  | zero =>
   intro k v hk
   exact⟨v,aJ (by unfold mT;simp only[];rw[aTJ (by omega)];rfl)⟩
  | succ m ih =>
   intro k v hk
   have hlt:k<code.length:=by omega
   by_cases c:(k:Int)<4000
   · obtain⟨d,e⟩:=ih (k+1) (aAo .i64 (i64.wrap (i64.wrap (i64.wrap (v*59)+i64.wrap code[k])+7)) 1073741823) (by omega)
     refine⟨d,?_⟩
     rw[aS (s':=(aAo .i64 (i64.wrap (i64.wrap (i64.wrap (v*59)+i64.wrap code[k])+7)) 1073741823,((k+1:Nat):Int))),e]
     unfold mT
     simp only[]
     rw[aTK (by omega),aM hlt]
     have w:i64.wrap ((k:Int)+1)=((k+1:Nat):Int):=by rw[wi (by omega)];omega
     simp only[aTI,aTN c,aT3,aL,w]
   · refine⟨v,aJ ?_⟩
     unfold mT
     simp only[]
     rw[aTK (by omega)]
     simp only[aTI,aTL c,aTP,aT9]
 obtain⟨d,e⟩:=main code.length 0 (i64.wrap (1951+(code.length:Int))) (by omega)
 rw[show((0:Nat):Int)=0 from rfl]at e
 rw[e]
 exact⟨_,rfl,⟨h,by simp,by simp⟩,rfl⟩
/- Links that are drawn. -/
theorem xR {fb:List Int}{c:l01Cur}(h:rO c)(e:c.fb=fb):rO ⟨fb,c.fi,c.fh⟩:=by
 subst e;exact h
def mkI (a b w x y:Int):QL:=⟨a,b,(w:Q),(x:Q),(y:Q)⟩
theorem aOY {a b w x y:Int}(h:0<=a/\a<b/\b<=5)(hw:1<=w/\w<=9)(hx:-20<=x/\x<=20)(hy:-20<=y/\y<=20):LkI (mkI a b w x y):=⟨h,w,x,y,hw,hx,hy,rfl,rfl,rfl⟩
theorem aIb {a b w x y:Int}(ha:0<=a/\a<=5)(hb:0<=b/\b<=5)(hab:a≠b)(hw:1<=w/\w<=9)(hx:-20<=x/\x<=20)(hy:-20<=y/\y<=20) :
 ∃ k:QL,rS a b w x y=some (k.toL,true)/\LkI k/\((k.a=a/\k.b=b)\/(k.a=b/\k.b=a)):=by
 unfold rS
 simp only[aCy,aBd,aTI]
 rw[aTN (show 0<=a/\a<=9 by omega),aTN (show 0<=b/\b<=9 by omega),aTN (show 1<=w/\w<=9999 by omega),aTN (show -1000000<=x/\x<=1000000 by omega),aTN (show -1000000<=y/\y<=1000000 by omega)]
 simp only[aT3,aTJ hab,aTI,aUL,aTP,aT9]
 by_cases c:b<a
 · rw[aTK c]
   simp only[aTI]
   rw[wi (n:=0-x) (by omega),wi (n:=0-y) (by omega),bY w (by omega),bY (0-x) (by omega),bY (0-y) (by omega),aBP (z:=w) (by omega),aBP (z:=0-x) (by omega),aBP (z:=0-y) (by omega)]
   exact⟨mkI b a w (0-x) (0-y),rfl,aOY (by omega) hw (by omega) (by omega),.inr ⟨rfl,rfl⟩⟩
 · rw[aTJ c]
   simp only[aTI]
   rw[bY w (by omega),bY x (by omega),bY y (by omega),aBP (z:=w) (by omega),aBP (z:=x) (by omega),aBP (z:=y) (by omega)]
   exact⟨mkI a b w x y,rfl,aOY (by omega) hw hx hy,.inl ⟨rfl,rfl⟩⟩
theorem aSh (c:l01Cur)(n:Int)(h:rO c)(hn:1<=n/\n<=5):∃ (k:QL) (c':l01Cur),uD c n=some (k.toL,c')/\rO c'/\c'.fb=c.fb/\LkI k/\k.b<=n:=by
 obtain⟨r1,a1,b1,c1,d1⟩:=sD ⟨c.fb,c.fi,c.fh⟩ n h (by omega)
 obtain⟨r2,a2,b2,c2,d2⟩:=sD ⟨c.fb,r1.2.fi,r1.2.fh⟩ n (xR c1 d1) (by omega)
 obtain⟨r3,a3,b3,c3,d3⟩:=sD ⟨c.fb,r2.2.fi,r2.2.fh⟩ 9 (xR c2 d2) (by omega)
 obtain⟨r4,a4,b4,c4,d4⟩:=sD ⟨c.fb,r3.2.fi,r3.2.fh⟩ 41 (xR c3 d3) (by omega)
 obtain⟨r5,a5,b5,c5,d5⟩:=sD ⟨c.fb,r4.2.fi,r4.2.fh⟩ 41 (xR c4 d4) (by omega)
 have pick:∃ v:Int,((if(r1.1=r2.1)then(chk (IntKind.i64.wrap (n+1)≠0)).bind fun _u=>(aX ((IntKind.i64.wrap (r1.1+1)).tmod (IntKind.i64.wrap (n+1)))).bind fun v4=>some v4 else some r2.1):Option Int)=some v/\(0<=v/\v<=n)/\r1.1≠v:=by
  by_cases e:r1.1=r2.1
  · rw[aTK e,wi (n:=n+1) (by omega),wi (n:=r1.1+1) (by omega),aN (by omega)]
    simp only[aTI,aL]
    refine⟨_,rfl,?_⟩
    rw[Int.tmod_eq_of_lt (by omega) (by omega)];omega
  · rw[aTJ e];exact⟨_,rfl,by omega,e⟩
 obtain⟨v,ev,hv,hne⟩:=pick
 obtain⟨k,ek,hk,hk2⟩:=aIb (a:=r1.1) (b:=v) (w:=1+r3.1) (x:=r4.1-20) (y:=r5.1-20) (by omega) (by omega) hne (by omega) (by omega) (by omega)
 refine⟨k,⟨c.fb,r5.2.fi,r5.2.fh⟩,?_,xR c5 d5,rfl,hk,by omega⟩
 unfold uD
 rw[a1];simp only[aTI]
 rw[a2];simp only[aTI]
 rw[ev];simp only[aTI]
 rw[a3];simp only[aTI]
 rw[a4];simp only[aTI]
 rw[a5];simp only[aTI]
 rw[wi (n:=1+r3.1) (by omega),wi (n:=r4.1-20) (by omega),wi (n:=r5.1-20) (by omega),ek]
 rfl
structure LinkL (n:Int)(l:List QL):Prop where
 each:∀ x∈l,LkI x/\x.b<=n+1
 len:l.length<=7
 all:∀ k,1<=k->k<=n->∃ x∈l,x.b=k
theorem aS7 (c:l01Cur)(n:Int)(hn:1<=n/\n<=4):∀ (m k:Nat) (l:List QL) (fi fh:Int),(m:Int)+k=n+1->1<=k->rO ⟨c.fb,fi,fh⟩->l.length=k-1->(∀ x∈l,LkI x/\x.b<=n)->(∀ j:Int,1<=j->j<k->∃ x∈l,x.b=j)->
 ∃ (l':List QL) (fi' fh':Int),lp (lJ c n) ((k:Int),l.map QL.toL,fi,fh)=some (l'.map QL.toL,fi',fh')/\rO ⟨c.fb,fi',fh'⟩/\(l'.length:Int)=n/\(∀ x∈l',LkI x/\x.b<=n)/\∀ j:Int,1<=j->j<=n->∃ x∈l',x.b=j:=by
 intro m
 induction m with
 | zero =>
  intro k l fi fh hm hk hc hl he ha
  refine⟨l,fi,fh,aJ ?_,hc,by omega,he,fun j h1 h2=>ha j h1 (by omega)⟩
  unfold lJ
  simp only[]
  rw[aTJ (by omega)]
 | succ m ih =>
  intro k l fi fh hm hk hc hl he ha
  obtain⟨r1,a1,b1,c1,d1⟩:=sD ⟨c.fb,fi,fh⟩ k hc (by omega)
  obtain⟨r2,a2,b2,c2,d2⟩:=sD ⟨c.fb,r1.2.fi,r1.2.fh⟩ 9 (xR c1 d1) (by omega)
  obtain⟨r3,a3,b3,c3,d3⟩:=sD ⟨c.fb,r2.2.fi,r2.2.fh⟩ 41 (xR c2 d2) (by omega)
  obtain⟨r4,a4,b4,c4,d4⟩:=sD ⟨c.fb,r3.2.fi,r3.2.fh⟩ 41 (xR c3 d3) (by omega)
  obtain⟨q,eq,hq,hq2⟩:=aIb (a:=r1.1) (b:=k) (w:=1+r2.1) (x:=r3.1-20) (y:=r4.1-20) (by omega) (by omega) (by omega) (by omega) (by omega) (by omega)
  have hqb:q.b=k:=by have:=hq.1;omega
  have st:lJ c n ((k:Int),l.map QL.toL,fi,fh)=some (.inl (((k+1:Nat):Int),(l++[q]).map QL.toL,r4.2.fi,r4.2.fh)):=by
   unfold lJ
   simp only[]
   rw[aTK (by omega),a1]
   simp only[aTI]
   rw[a2]
   simp only[aTI]
   rw[a3]
   simp only[aTI]
   rw[a4]
   simp only[aTI]
   rw[wi (n:=1+r2.1) (by omega),wi (n:=r3.1-20) (by omega),wi (n:=r4.1-20) (by omega),eq]
   simp only[aTI]
   rw[aN (by rw[aTZ];omega),wi (n:=(k:Int)+1) (by omega)]
   simp only[aTI,aL,aUF,aTV,aUH]
   rfl
  rw[aS st]
  refine ih (k+1) (l++[q]) r4.2.fi r4.2.fh (by omega) (by omega) (xR c4 d4) (by rw[aT4,aUr];omega) (fun x hx=>?_) (fun j h1 h2=>?_)
  · rcases aTR.1 hx with hx | hx
    · exact he x hx
    · simp at hx;subst hx;exact⟨hq,by omega⟩
  · by_cases e:j=k
    · exact⟨q,by simp,by omega⟩
    · obtain⟨x,hx,h⟩:=ha j h1 (by omega)
      exact⟨x,by simp[hx],h⟩
theorem aS6 (c:l01Cur)(n:Int)(hn:1<=n/\n<=4):∀ (m:Nat) (l:List QL) (fi fh:Int),rO ⟨c.fb,fi,fh⟩->l.length+m<=7->(∀ x∈l,LkI x/\x.b<=n+1)->
 ∃ (l':List QL) (fi' fh':Int),lp (lI c n) ((m:Int),l.map QL.toL,fi,fh)=some ((l++l').map QL.toL,fi',fh')/\rO ⟨c.fb,fi',fh'⟩/\(l++l').length<=7/\∀ x∈l++l',LkI x/\x.b<=n+1:=by
 intro m
 induction m with
 | zero =>
  intro l fi fh hc hl he
  refine⟨[],fi,fh,aJ ?_,hc,by simpa using hl,by simpa using he⟩
  unfold lI
  simp only[]
  rw[aTJ (by omega),aUJ]
 | succ m ih =>
  intro l fi fh hc hl he
  obtain⟨q,c',a1,a2,a3,a4,a5⟩:=aSh ⟨c.fb,fi,fh⟩ (n+1) hc (by omega)
  have st:lI c n (((m+1:Nat):Int),l.map QL.toL,fi,fh)=some (.inl ((m:Int),(l++[q]).map QL.toL,c'.fi,c'.fh)):=by
   unfold lI
   simp only[]
   rw[aTK (by omega),wi (n:=n+1) (by omega),a1]
   simp only[aTI]
   rw[aN (by rw[aTZ];omega),wi (n:=((m+1:Nat):Int)-1) (by omega)]
   simp only[aTI,aL,aUF,aTV,aUH]
   rw[show((m+1:Nat):Int)-1=(m:Int)by omega]
  rw[aS st]
  obtain⟨l',fi',fh',g1,g2,g3,g4⟩:=ih (l++[q]) c'.fi c'.fh (xR a2 a3) (by rw[aT4,aUr];omega) (fun x hx=>by
   rcases aTR.1 hx with hx | hx
   · exact he x hx
   · simp at hx;subst hx;exact⟨a4,a5⟩)
  have e:l++[q]++l'=l++(q::l'):=by simp
  rw[e]at g1 g3 g4
  exact⟨q::l',fi',fh',g1,g2,g3,g4⟩
theorem aR9 (c:l01Cur)(n:Int)(h:rO c)(hn:1<=n/\n<=4):∃ (l:List QL) (c':l01Cur),rR c n=some (l.map QL.toL,c')/\rO c'/\c'.fb=c.fb/\LinkL n l:=by
 obtain⟨l1,f1,g1,e1,o1,n1,h1,a1⟩:=aS7 c n hn n.toNat 1 [] c.fi c.fh (by omega) (by omega) h rfl (by simp) (fun j h1 h2=>by omega)
 obtain⟨r,e2,b2,o2,d2⟩:=sD ⟨c.fb,f1,g1⟩ 4 o1 (by omega)
 obtain⟨l2,f3,g3,e3,o3,n3,h3⟩:=aS6 c n hn r.1.toNat l1 r.2.fi r.2.fh (xR o2 d2) (by omega) (fun x hx=>⟨(h1 x hx).1,by have:=(h1 x hx).2;omega⟩)
 refine⟨l1++l2,⟨c.fb,f3,g3⟩,?_,o3,rfl,⟨h3,n3,fun k k1 k2=>?_⟩⟩
 · unfold rR
   rw[show((1:Nat):Int)=1 from rfl,aUH]at e1
   rw[e1]
   simp only[aTI]
   rw[e2]
   simp only[aTI]
   rw[show((r.1.toNat:Nat):Int)=r.1 by omega]at e3
   rw[e3]
   rfl
 · obtain⟨x,hx,e⟩:=a1 k k1 k2
   exact⟨x,by simp[hx],e⟩
/- Is it a tree, both programs, and the law. -/
def aDN (t:Tree):List Int:=t.fNodes.map (·.fNode)
theorem aL8 (a b:Tree)(h:mP a<=4294967296):tC a b=some (decide (a=b)):=by
 unfold mP pN at h
 have hl:=jW bU a.fNodes
 obtain⟨a⟩:=a
 obtain⟨b⟩:=b
 simp only[]at h hl
 unfold tC
 by_cases hn:a.length=b.length
 · rw[aTJ (by simp only[];omega),aJc a b hn (fun k ha hb=>by
    have he:=qB (w:=bU) (aT2 ha)
    unfold sA
    simp only[]
    rw[aTK (by omega),aM ha,aM hb,wi (by omega)]
    simp only[aTI]
    rw[aF7 _ _ (by omega)]
    by_cases c:a[k]=b[k] <;> simp[c]) (by unfold sA;simp only[];rw[aTJ (by omega)])]
   by_cases c:a=b <;> simp[c]
 · rw[aTK (by simp only[];omega)]
   have:a≠b:=by rintro rfl;exact hn rfl
   simp[this]
def aAa (t:Tree):Prop:=zB (eW t.fNodes) (aDN t)=some t
noncomputable instance (t:Tree):Decidable (aAa t):=Classical.propDecidable _
end Go.Ev
