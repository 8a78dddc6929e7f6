/- Parts QD, QE, QF, P21, QG, QH, QI, QJ, QK, QM, QN, QO, QP, QR, QT, QU, PG1, VA, PS1, PS2, PS3, PT1, P22b. -/
import Derived.Test.YtlhoochohnnepaaGreatPb2
import Derived.Test.YtlhoochohnnepaaGreatPb1
import Derived.Test.YtlhoochohnnepaaGreatPa1
import Derived.Test.YtlhoochohnnepaaGreatLXd
set_option linter.all false
set_option maxHeartbeats 4000000
set_option maxRecDepth 20000
/- What joining keeps: sums, energies, order, scale. -/
namespace Go.Ev
def sm (f:QL->Q):List QL->Q
 | []=>0
 | x::l=>f x+sm f l
theorem pP (f:QL->Q):∀ a b:List QL,sm f (a++b)=sm f a+sm f b
 | [],b=>by simp only[aTi,sm];grind
 | x::a,b=>by rw[aTm,sm,sm,pP f a b,_root_.Rat.add_assoc]
theorem kY {f:QL->Q}:∀ {l:List QL},(∀ x∈l,0<=f x)->0<=sm f l
 | [],_=>by simp[sm]
 | x::l,h=>by
  have h1:=h x (by simp)
  have h2:=kY (f:=f) (l:=l) (fun y hy=>h y (by simp[hy]))
  rw[sm];grind
theorem aKy {f:QL->Q}:∀ {l:List QL},(∀ x∈l,0<=f x)->∀ x∈l,f x<=sm f l
 | y::l,h,x,hx=>by
  have h1:=h y (by simp)
  have h2:=kY (f:=f) (l:=l) (fun y hy=>h y (by simp[hy]))
  rw[sm]
  rcases aTf.1 hx with rfl | hx
  · grind
  · have:=aKy (f:=f) (l:=l) (fun y hy=>h y (by simp[hy])) x hx
    grind
theorem aNI {f g:QL->Q}:∀ {l:List QL},(∀ x∈l,f x<=g x)->sm f l<=sm g l
 | [],_=>by simp[sm]
 | x::l,h=>by
  have h1:=h x (by simp)
  have h2:=aNI (f:=f) (g:=g) (l:=l) (fun y hy=>h y (by simp[hy]))
  rw[sm,sm];grind
theorem aFj (c:Q)(f:QL->Q):∀ l:List QL,sm (fun x=>c*f x) l=c*sm f l
 | []=>by simp[sm]
 | x::l=>by rw[sm,sm,aFj c f l];grind
def enQ (l:QL):Q:=l.w*sqQ l.x l.y
def wt (l:QL):Q:=l.w
def mx (l:QL):Q:=l.w*l.x
def my (l:QL):Q:=l.w*l.y
theorem aRo {k l:QL}(hk:0<k.w)(hl:0<l.w):enQ (mrg k l)+aFS k l=enQ k+enQ l:=by
 have:k.w+l.w≠0:=by grind
 unfold enQ mrg aFS sqQ
 simp only[]
 grind
theorem aKR (k l:QL):wt (mrg k l)=wt k+wt l:=rfl
theorem aRn {k l:QL}(hk:0<k.w)(hl:0<l.w):mx (mrg k l)=mx k+mx l:=by
 have:k.w+l.w≠0:=by grind
 unfold mx mrg
 simp only[]
 grind
theorem aRm {k l:QL}(hk:0<k.w)(hl:0<l.w):my (mrg k l)=my k+my l:=by
 have:k.w+l.w≠0:=by grind
 unfold my mrg
 simp only[]
 grind
theorem aLX {k l:QL}(hk:0<k.w)(hl:0<l.w):0<(mrg k l).w:=by
 show 0<k.w+l.w;grind
theorem yN {k l:QL}(c:¬cU k l)(d:¬cU l k):k.a=l.a/\k.b=l.b:=by unfold cU at c d;omega
theorem aDz {P:QL->Prop}(hP:∀ k l,k.a=l.a->k.b=l.b->P k->P l->P (mrg k l)):∀ (s:List QL) (l:QL),(∀ x∈s,P x)->P l->∀ x∈(jS s l).1,P x
 | [],l,_,hl,x,hx=>by simp[jS]at hx;subst hx;exact hl
 | k::s,l,hs,hl,x,hx=>by
  by_cases c:cU k l
  · rw[sV c]at hx
    rcases aTf.1 hx with rfl | hx
    · exact hs _ (by simp)
    · exact aDz hP s l (fun y hy=>hs y (by simp[hy])) hl x hx
  · by_cases d:cU l k
    · rw[wI c d]at hx
      rcases aTf.1 hx with rfl | hx
      · exact hl
      · exact hs x hx
    · rw[wH c d]at hx
      rcases aTf.1 hx with rfl | hx
      · exact hP _ _ (yN c d).1 (yN c d).2 (hs k (by simp)) hl
      · exact hs x (by simp[hx])
theorem aDy {f:QL->Q}(hf:∀ k l,k.a=l.a->k.b=l.b->0<k.w->0<l.w->f (mrg k l)=f k+f l):∀ (s:List QL) (l:QL),(∀ x∈s,0<x.w)->0<l.w->sm f (jS s l).1=sm f s+f l
 | [],l,_,hl=>by simp only[jS,sm];grind
 | k::s,l,hs,hl=>by
  by_cases c:cU k l
  · rw[sV c,sm,sm,aDy hf s l (fun y hy=>hs y (by simp[hy])) hl];grind
  · by_cases d:cU l k
    · rw[wI c d,sm];grind
    · rw[wH c d,sm,sm,hf _ _ (yN c d).1 (yN c d).2 (hs k (by simp)) hl];grind
theorem aMn:∀ (s:List QL) (l:QL),(∀ x∈s,0<x.w)->0<l.w->sm enQ (jS s l).1+(jS s l).2=sm enQ s+enQ l
 | [],l,_,hl=>by simp only[jS,sm];grind
 | k::s,l,hs,hl=>by
  by_cases c:cU k l
  · have:=aMn s l (fun y hy=>hs y (by simp[hy])) hl
    rw[sV c,sm,sm];simp only[];grind
  · by_cases d:cU l k
    · rw[wI c d,sm];grind
    · have:=aRo (hs k (by simp)) hl
      rw[wH c d,sm,sm];simp only[];grind
theorem aJI {a b c:QL}(h:cU a b)(g:cU b c):cU a c:=by unfold cU at *;omega
theorem aKf:∀ (s:List QL) (l:QL),s.Pairwise cU->(jS s l).1.Pairwise cU
 | [],l,_=>by simp[jS]
 | k::s,l,h=>by
  rw[aTQ]at h
  by_cases c:cU k l
  · rw[sV c]
    simp only[]
    rw[aTQ]
    refine⟨aDz (P:=fun x=>cU k x) (fun a b e1 e2 g1 g2=>?_) s l h.1 c,aKf s l h.2⟩
    exact g1
  · by_cases d:cU l k
    · rw[wI c d]
      simp only[]
      rw[aTQ]
      refine⟨fun x hx=>?_,aTQ.2 h⟩
      rcases aTf.1 hx with rfl | hx
      · exact d
      · exact aJI d (h.1 x hx)
    · rw[wH c d]
      simp only[]
      rw[aTQ]
      exact⟨fun x hx=>h.1 x hx,h.2⟩
def Sc (D:Nat)(l:QL):Prop:=0<l.w/\Dv D l.w/\Dv D (mx l)/\Dv D (my l)
theorem aRQ {D:Nat}{k l:QL}(hk:Sc D k)(hl:Sc D l):Sc D (mrg k l):=by
 refine⟨aLX hk.1 hl.1,kS hk.2.1 hl.2.1,?_,?_⟩
 · rw[aRn hk.1 hl.1];exact kS hk.2.2.1 hl.2.2.1
 · rw[aRm hk.1 hl.1];exact kS hk.2.2.2 hl.2.2.2
theorem aRR {D E:Nat}{l:QL}(h:Sc D l)(hd:D∣E):Sc E l:=⟨h.1,vD h.2.1 hd,vD h.2.2.1 hd,vD h.2.2.2 hd⟩
def nm (D:Nat)(w:Q):Nat:=(w*(D:Q)).num.toNat
theorem yX {D:Nat}{w:Q}(hD:0<D)(hw:0<w)(h:Dv D w):(nm D w:Q)=w*(D:Q)/\0<nm D w:=by
 obtain⟨z,hz⟩:=h
 have hD':(0:Q)<(D:Q):=by
  have:((0:Nat):Q)<(D:Q):=aV2.2 hD
  simpa using this
 have hp:0<w*(D:Q):=aVZ hw hD'
 have hzp:0<z:=by
  have:((0:Int):Q)<(z:Q):=by rw[<- hz];exact hp
  exact aV3.1 this
 unfold nm
 rw[hz]
 have e:((z:Q)).num=z:=rfl
 rw[e]
 refine⟨?_,by omega⟩
 have e2:((z.toNat:Int):Q)=(z:Q):=by rw[Int.toNat_of_nonneg (by omega)]
 exact e2
theorem aEk {D W:Nat}{w:Q}(hD:0<D)(hw:0<w)(h:Dv D w)(hW:w<=(W:Q)):nm D w<=W*D:=by
 have hD':(0:Q)<=(D:Q):=by
  have:((0:Nat):Q)<=(D:Q):=aVd.2 (aT9 _)
  simpa using this
 have h1:=(yX hD hw h).1
 have h2:w*(D:Q)<=(W:Q)*(D:Q):=aU5 hW hD'
 rw[<- h1,<- aUi]at h2
 exact aVd.1 h2
theorem aDC {D:Nat}{w a:Q}(hD:0<D)(hw:0<w)(h:Dv D w)(ha:Dv D a):Dv (nm D w) (a / w):=by
 obtain⟨z,hz⟩:=ha
 refine⟨z,?_⟩
 rw[(yX hD hw h).1,<- hz]
 have:w≠0:=by grind
 grind
theorem aSh {l:QL}(h:0<l.w):l.x=mx l / l.w/\l.y=my l / l.w:=by
 have:l.w≠0:=by grind
 unfold mx my
 constructor <;> grind
theorem aLo {D:Nat}{l:QL}(hD:0<D)(h:Sc D l):Dv (nm D l.w) l.x/\Dv (nm D l.w) l.y:=by
 rw[(aSh h.1).1,(aSh h.1).2]
 exact⟨aDC hD h.1 h.2.1 h.2.2.1,aDC hD h.1 h.2.1 h.2.2.2⟩
theorem aMq {D:Nat}{l:QL}(hD:0<D)(h:Sc D l):Dv (D*nm D l.w) (enQ l):=by
 have e:enQ l=mx l*l.x+my l*l.y:=by unfold enQ sqQ mx my;grind
 rw[e]
 exact kS (yH h.2.2.1 (aLo hD h).1) (yH h.2.2.2 (aLo hD h).2)
def pn (D:Nat):List QL->Nat
 | []=>1
 | x::l=>nm D x.w*pn D l
theorem aKH (D:Nat):∀ a b:List QL,pn D (a++b)=pn D a*pn D b
 | [],b=>by simp[pn]
 | x::a,b=>by rw[aTm,pn,pn,aKH D a b,aT3]
theorem aIr (D:Nat):∀ {l:List QL},∀ x∈l,nm D x.w∣pn D l
 | y::l,x,hx=>by
  rw[pn]
  rcases aTf.1 hx with rfl | hx
  · exact aVt _ _
  · exact aVC (aIr D x hx) (aUT _ _)
theorem aDP {D:Nat}(hD:0<D):∀ {l:List QL},(∀ x∈l,Sc D x)->0<pn D l
 | [],_=>by simp[pn]
 | x::l,h=>aTW (yX hD (h x (by simp)).1 (h x (by simp)).2.1).2 (aDP hD (fun y hy=>h y (by simp[hy])))
theorem aHp {D W:Nat}(hD:0<D):∀ {l:List QL},(∀ x∈l,Sc D x)->(∀ x∈l,x.w<=(W:Q))->pn D l<=(W*D) ^ l.length
 | [],_,_=>by simp[pn]
 | x::l,h,g=>by
  rw[pn,aTG,aUw,aTR]
  exact aTK (aHp hD (fun y hy=>h y (by simp[hy])) (fun y hy=>g y (by simp[hy]))) (aEk hD (h x (by simp)).1 (h x (by simp)).2.1 (g x (by simp)))
theorem aKl {T:Nat}{f:QL->Q}:∀ {l:List QL},(∀ x∈l,Dv T (f x))->Dv T (sm f l)
 | [],_=>⟨0,by simp[sm]⟩
 | x::l,h=>kS (h x (by simp)) (aKl (fun y hy=>h y (by simp[hy])))
theorem aGD {D:Nat}(hD:0<D){l:List QL}(h:∀ x∈l,Sc D x):Dv (D*pn D l) (sm enQ l) :=
 aKl fun x hx=>vD (aMq hD (h x hx)) (aU4 D (aIr D x hx))
/- Joining computes with few digits only. -/
def bd (B:Nat)(q:Q):Prop:=-(B:Q)<=q/\q<=(B:Q)
theorem sG (n:Nat):(0:Q)<=(n:Q):=by
 have:((0:Nat):Q)<=(n:Q):=aVd.2 (aT9 _)
 simpa using this
theorem aP4 {n:Nat}(h:0<n):(0:Q)<(n:Q):=by
 have:((0:Nat):Q)<(n:Q):=aV2.2 h
 simpa using this
theorem aFN {m n:Nat}(h:m<=n):(m:Q)<=(n:Q):=aVd.2 h
theorem uJ {A B:Nat}{p:Q}(h:bd A p)(hl:A<=B):bd B p:=by
 have:=aFN hl
 unfold bd at *;grind
theorem aBJ {A B:Nat}{p q:Q}(hp:bd A p)(hq:bd B q):bd (A+B) (p+q):=by
 unfold bd at *;rw[_root_.Rat.natCast_add];grind
theorem aGB {A B:Nat}{p q:Q}(hp:bd A p)(hq:bd B q):bd (A+B) (p-q):=by
 unfold bd at *;rw[_root_.Rat.natCast_add];grind
theorem aPc {A:Nat}{p:Q}(hp:bd A p):bd A (-p):=by
 unfold bd at *;grind
theorem qU {A B:Nat}{p q:Q}(hp:bd A p)(hq:bd B q):bd (A*B) (p*q):=by
 unfold bd at *
 rw[aUi]
 have a1:0<=((A:Q)-p)*((B:Q)+q):=aTV (by grind) (by grind)
 have a2:0<=((A:Q)+p)*((B:Q)-q):=aTV (by grind) (by grind)
 have a3:0<=((A:Q)+p)*((B:Q)+q):=aTV (by grind) (by grind)
 have a4:0<=((A:Q)-p)*((B:Q)-q):=aTV (by grind) (by grind)
 constructor <;> grind
theorem aCO {A:Nat}{p w:Q}(hw:0<w)(h1:-(A:Q)*w<=p)(h2:p<=(A:Q)*w):bd A (p / w):=by
 have e:p / w*w=p:=_root_.Rat.div_mul_cancel (by grind)
 constructor
 · exact aVY (by rw[e];exact h1) hw
 · exact aVY (by rw[e];exact h2) hw
theorem aE8 {A:Nat}{w x:Q}(hw:0<w)(h:bd A x):-(A:Q)*w<=w*x/\w*x<=(A:Q)*w:=by
 have h1:0<=w*(x+A):=aTV (by grind) (by unfold bd at h;grind)
 have h2:0<=w*(A-x):=aTV (by grind) (by unfold bd at h;grind)
 constructor <;> grind
theorem aIN {A:Nat}{w v x y:Q}(hw:0<w)(hv:0<v)(hx:bd A x)(hy:bd A y):bd A ((w*x+v*y) / (w+v)):=by
 obtain⟨a1,a2⟩:=aE8 hw hx
 obtain⟨b1,b2⟩:=aE8 hv hy
 exact aCO (by grind) (by grind) (by grind)
def PP:Nat:=72 ^ 16
theorem aRZ:0<PP:=by decide
theorem tO {a b T U:Nat}(h:T<=PP ^ a)(g:U<=PP ^ b):T*U<=PP ^ (a+b):=by
 rw[Nat.pow_add];exact aTK h g
theorem lI {a b T:Nat}(h:T<=PP ^ a)(g:a<=b):T<=PP ^ b:=aTr h (aT4 aRZ g)
theorem iV {T B:Nat}{q:Q}(hT:0<T)(h:Dv T q)(h1:bd B q)(hB:0<B)(b:B<=10 ^ 12)(t:T<=PP ^ 6):bQ q:=by
 refine aDr hT h h1.1 h1.2 hB (aUu (aTK b t) ?_)
 rw[aLB];unfold PP;decide
theorem aMz {W:Nat}{w:Q}(h:0<w)(h2:w<=(W:Q)):bd W w:=⟨by have:=sG W;grind,h2⟩
structure Lk (D X:Nat)(l:QL):Prop where
 sc:Sc D l
 bx:bd X l.x
 by':bd X l.y
theorem aR2 {D X:Nat}{k l:QL}(hk:Lk D X k)(hl:Lk D X l):Lk D X (mrg k l) :=
 ⟨aRQ hk.sc hl.sc,aIN hk.sc.1 hl.sc.1 hk.bx hl.bx,aIN hk.sc.1 hl.sc.1 hk.by' hl.by'⟩
theorem aIF {D X:Nat}{l:QL}(hD:0<D)(hP:72*D<=PP)(h:Lk D X l)(hX:X<=1000)(h0:0<X)(hw:l.w<=72):l.fit:=by
 have hn:=aEk hD h.sc.1 h.sc.2.1 (W:=72) hw
 have np:=(yX hD h.sc.1 h.sc.2.1).2
 obtain⟨x1,x2⟩:=aLo hD h.sc
 have e1:D<=PP ^ 6:=lI (a:=1) (by rw[aUA];omega) (by omega)
 have e2:nm D l.w<=PP ^ 6:=lI (a:=1) (by rw[aUA];omega) (by omega)
 exact⟨iV hD h.sc.2.1 (aMz (W:=72) h.sc.1 hw) (by omega) (by omega) e1,iV np x1 h.bx h0 (by omega) e2,iV np x2 h.by' h0 (by omega) e2⟩
theorem aMX {D X:Nat}{k l:QL}(hD:0<D)(hP:72*D<=PP)(hX:X<=1000)(h0:0<X)(hk:Lk D X k)(hl:Lk D X l)(hw:k.w+l.w<=72):aIz k l:=by
 have pk:=hk.sc.1
 have pl:=hl.sc.1
 have kw:k.w<=((72:Nat):Q):=by show k.w<=72;grind
 have lw:l.w<=((72:Nat):Q):=by show l.w<=72;grind
 have sw:k.w+l.w<=((72:Nat):Q):=hw
 have dk:=hk.sc.2.1
 have dl:=hl.sc.2.1
 have ds:=kS dk dl
 have ps:0<k.w+l.w:=by grind
 have nk:=aEk hD pk dk kw
 have nl:=aEk hD pl dl lw
 have ns:=aEk hD ps ds sw
 have qk:=(yX hD pk dk).2
 have ql:=(yX hD pl dl).2
 obtain⟨qe,qs⟩:=yX hD ps ds
 obtain⟨xk,yk⟩:=aLo hD hk.sc
 obtain⟨xl,yl⟩:=aLo hD hl.sc
 have eD:D<=PP ^ 1:=by rw[aUA];omega
 have eK:nm D k.w<=PP ^ 1:=by rw[aUA];omega
 have eL:nm D l.w<=PP ^ 1:=by rw[aUA];omega
 have eS:nm D (k.w+l.w)<=PP ^ 1:=by rw[aUA];omega
 have bk:=aMz pk kw
 have bl':=aMz pl lw
 have bs:=aMz ps sw
 have X2:X*X<=1000000:=aTK hX hX
 have X3:0<X*X:=aTW h0 h0
 have cw:Dv (D*nm D (k.w+l.w)) (k.w*l.w / (k.w+l.w)):=by
  obtain⟨z,hz⟩:=yH dk dl
  refine⟨z,?_⟩
  rw[<- hz,aUi,aUi,qe]
  have:k.w+l.w≠0:=by grind
  grind
 have cb:bd 72 (k.w*l.w / (k.w+l.w)):=by
  have e:=aE8 pk bl'
  have p2:0<k.w*k.w:=aVZ pk pk
  have p3:0<k.w*l.w:=aVZ pk pl
  exact aCO ps (by have:=sG 72;have:=aTV this (Std.le_of_lt ps);grind) (by have:=aTV (sG 72) (Std.le_of_lt pl);grind)
 have dx:=zW (rV (nm D l.w) xk) (by rw[aTR];exact rV (nm D k.w) xl)
 have dy:=zW (rV (nm D l.w) yk) (by rw[aTR];exact rV (nm D k.w) yl)
 have bx:=aGB hk.bx hl.bx
 have by_:=aGB hk.by' hl.by'
 have qn:0<nm D k.w*nm D l.w:=aTW qk ql
 have en2:nm D k.w*nm D l.w<=PP ^ 2:=tO eK eL
 have dxx:=yH dx dx
 have dyy:=yH dy dy
 have qnn:=aTW qn qn
 have en4:(nm D k.w*nm D l.w)*(nm D k.w*nm D l.w)<=PP ^ 4:=tO en2 en2
 have bxx:=qU bx bx
 have byy:=qU by_ by_
 have e4:(X+X)*(X+X)=4*(X*X):=by rw[<- Nat.two_mul,Nat.mul_mul_mul_comm]
 rw[e4]at bxx byy
 have bsq:=aBJ bxx byy
 have dsq:=kS dxx dyy
 refine⟨⟨?_,?_,?_,?_,?_⟩,⟨?_,?_,?_,?_⟩,⟨?_,?_,?_,?_⟩,?_,?_,?_,?_⟩
 · exact iV hD ds bs (by omega) (by omega) (lI eD (by omega))
 · exact iV hD hk.sc.2.2.1 (qU bk hk.bx) (by omega) (by omega) (lI eD (by omega))
 · exact iV hD hl.sc.2.2.1 (qU bl' hl.bx) (by omega) (by omega) (lI eD (by omega))
 · exact iV hD (kS hk.sc.2.2.1 hl.sc.2.2.1) (aBJ (qU bk hk.bx) (qU bl' hl.bx)) (by omega) (by omega) (lI eD (by omega))
 · exact iV qs (aDC hD ps ds (kS hk.sc.2.2.1 hl.sc.2.2.1)) (aIN pk pl hk.bx hl.bx) h0 (by omega) (lI eS (by omega))
 · exact iV hD hk.sc.2.2.2 (qU bk hk.by') (by omega) (by omega) (lI eD (by omega))
 · exact iV hD hl.sc.2.2.2 (qU bl' hl.by') (by omega) (by omega) (lI eD (by omega))
 · exact iV hD (kS hk.sc.2.2.2 hl.sc.2.2.2) (aBJ (qU bk hk.by') (qU bl' hl.by')) (by omega) (by omega) (lI eD (by omega))
 · exact iV qs (aDC hD ps ds (kS hk.sc.2.2.2 hl.sc.2.2.2)) (aIN pk pl hk.by' hl.by') h0 (by omega) (lI eS (by omega))
 · exact iV (aTW hD hD) (yH dk dl) (qU bk bl') (by omega) (by omega) (lI (tO eD eD) (by omega))
 · exact iV (aTW hD qs) cw cb (by omega) (by omega) (lI (tO eD eS) (by omega))
 · exact iV qn dx bx (by omega) (by omega) (lI en2 (by omega))
 · exact iV qn dy by_ (by omega) (by omega) (lI en2 (by omega))
 · exact iV qnn dxx bxx (by omega) (by omega) (lI en4 (by omega))
 · exact iV qnn dyy byy (by omega) (by omega) (lI en4 (by omega))
 · exact iV qnn dsq bsq (by omega) (by omega) (lI en4 (by omega))
 · exact iV (aTW (aTW hD qs) qnn) (yH cw dsq) (qU cb bsq) (by omega) (by omega) (tO (tO eD eS) en4)
/- Joining succeeds where scale and energies are small. -/
def inV (V:List Int)(x:QL):Prop:=x.a∈V/\x.b∈V/\x.a<x.b
theorem aKK {s:List QL}(h:s.Pairwise cU):(s.map fun x=>(x.a,x.b)).Nodup:=by
 rw[List.Nodup,aUC]
 refine h.imp fun {a b} hab e=>?_
 injection e with e1 e2
 unfold cU at hab;omega
theorem aJr {s:List QL}(h:s.Pairwise cU):(s.map fun x=>(x.b,x.a)).Nodup:=by
 rw[List.Nodup,aUC]
 refine h.imp fun {a b} hab e=>?_
 injection e with e1 e2
 unfold cU at hab;omega
theorem aJo (V:List Int):∀ U:List Int,(U.flatMap fun u=>V.map fun v=>(u,v)).length=U.length*V.length
 | []=>by simp
 | u::U=>by rw[aTO,aTF,aJo V U,aTs,aTG,aUI,Nat.add_comm]
theorem aFU {U V:List Int}{u v:Int}(hu:u∈U)(hv:v∈V):(u,v)∈U.flatMap fun u=>V.map fun v=>(u,v) :=
 aU0.2 ⟨u,hu,aTu.2 ⟨v,hv,rfl⟩⟩
theorem aEU {V:List Int}(hV:V.Nodup){s:List QL}(ho:s.Pairwise cU)(h:∀ x∈s,inV V x):2*s.length+V.length<=V.length*V.length:=by
 have n1:((s.map fun x=>(x.a,x.b))++((s.map fun x=>(x.b,x.a))++V.map fun v=>(v,v))).Nodup:=by
  rw[aTw,aTw]
  refine⟨aKK ho,⟨aJr ho,?_,?_⟩,?_⟩
  · rw[List.Nodup,aUC]
    exact hV.imp fun {a b} hab e=>by injection e with e1 e2;exact hab e1
  · intro p hp q hq e
    obtain⟨x,hx,rfl⟩:=aTu.1 hp
    obtain⟨v,hv,rfl⟩:=aTu.1 hq
    injection e with e1 e2
    have:=(h x hx).2.2;omega
  · intro p hp q hq e
    obtain⟨x,hx,rfl⟩:=aTu.1 hp
    have:=(h x hx).2.2
    rcases aTj.1 hq with hq | hq
    · obtain⟨y,hy,rfl⟩:=aTu.1 hq
      injection e with e1 e2
      have:=(h y hy).2.2;omega
    · obtain⟨v,hv,rfl⟩:=aTu.1 hq
      injection e with e1 e2;omega
 have:=n1.length_le_of_subset (l₂:=V.flatMap fun u=>V.map fun v=>(u,v)) (fun p hp=>by
  rcases aTj.1 hp with hp | hp
  · obtain⟨x,hx,rfl⟩:=aTu.1 hp
    exact aFU (h x hx).1 (h x hx).2.1
  · rcases aTj.1 hp with hp | hp
    · obtain⟨x,hx,rfl⟩:=aTu.1 hp
      exact aFU (h x hx).2.1 (h x hx).1
    · obtain⟨v,hv,rfl⟩:=aTu.1 hp
      exact aFU hv hv)
 rw[aJo]at this
 simp only[aTF,aTs]at this
 omega
theorem aHR:∀ (s:List QL) (l:QL),(∀ k∈s,k.w+l.w≠0/\aIz k l)->aCQ s l
 | [],_,_=>trivial
 | k::s,l,h=>by
  unfold aCQ
  split
  · exact aHR s l (fun y hy=>h y (by simp[hy]))
  · split
    · trivial
    · exact h k (by simp)
theorem aD3 {l:QL}(h:0<l.w):0<=enQ l:=by
 unfold enQ sqQ
 have h0:∀ z:Q,0<=z*z:=fun z=>by
  rcases _root_.Rat.le_total (a:=0) (b:=z)with c | c
  · exact aTV c c
  · have:=aTV (a:=-z) (b:=-z) (by grind) (by grind);grind
 exact aTV (by grind) (by have:=h0 l.x;have:=h0 l.y;grind)
theorem aSy {D X:Nat}{l:QL}(h:Lk D X l):enQ l<=((2*(X*X):Nat):Q)*l.w:=by
 have h1:=qU h.bx h.bx
 have h2:=qU h.by' h.by'
 have h3:=aBJ h1 h2
 have e:X*X+X*X=2*(X*X):=by omega
 rw[e]at h3
 have:=(aE8 h.sc.1 h3).2
 unfold enQ sqQ;exact this
theorem aNJ {D X:Nat}{l:List QL}(h:∀ x∈l,Lk D X x):sm enQ l<=((2*(X*X):Nat):Q)*sm wt l:=by
 rw[<- aFj]
 exact aNI fun x hx=>aSy (h x hx)
theorem wG {D X:Nat}{l:List QL}(h:∀ x∈l,Lk D X x)(hX:X<=800)(hw:sm wt l<=72):0<=sm enQ l/\sm enQ l<=((10 ^ 8:Nat):Q):=by
 refine⟨kY fun x hx=>aD3 (h x hx).sc.1,?_⟩
 have h1:=aNJ h
 have h2:X*X<=800*800:=aTK hX hX
 have h3:((2*(X*X):Nat):Q)*sm wt l<=((2*(X*X):Nat):Q)*72:=_root_.Rat.mul_le_mul_of_nonneg_left hw (sG _)
 have h4:((2*(X*X)*72:Nat):Q)<=((10 ^ 8:Nat):Q):=aFN (by omega)
 rw[aUi]at h4
 have h5:((72:Nat):Q)=72:=rfl
 rw[h5]at h4
 grind
theorem kU {D X:Nat}{l:List QL}(h:∀ x∈l,Lk D X x):0<=sm wt l:=kY fun x hx=>by have:=(h x hx).sc.1;unfold wt;grind
theorem wM {D X:Nat}{l:List QL}(h:∀ x∈l,Lk D X x){x:QL}(hx:x∈l):x.w<=sm wt l:=aKy (f:=wt) (fun y hy=>by have:=(h y hy).sc.1;unfold wt;grind) x hx
structure Jn (D T X γ:Nat)(V:List Int):Prop where
 hD:0<D
 hP:72*D<=PP
 hX:X<=800
 h0:0<X
 hT:0<T
 hV:V.Nodup
 hg:V.length*V.length<=2*γ+V.length
 hB:10 ^ 8*(T*(D*(72*D) ^ γ))<BB ^ 24
theorem aME {D T X γ:Nat}{V:List Int}(j:Jn D T X γ V){s:List QL}(hs:∀ x∈s,Lk D X x/\inV V x)(ho:s.Pairwise cU)(hw:sm wt s<=72):0<D*pn D s/\D*pn D s<=D*(72*D) ^ γ/\Dv (D*pn D s) (sm enQ s):=by
 have hl:=aEU j.hV ho (fun x hx=>(hs x hx).2)
 have hg:=j.hg
 have h1:=aHp (W:=72) j.hD (fun x hx=>(hs x hx).1.sc) (fun x hx=>by
  have:=wM (fun y hy=>(hs y hy).1) hx
  show x.w<=72;grind)
 have hD:=j.hD
 refine⟨aTW j.hD (aDP j.hD (fun x hx=>(hs x hx).1.sc)),aTA D (aTr h1 (aT4 (by omega) (by omega))),aGD j.hD (fun x hx=>(hs x hx).1.sc)⟩
theorem aNf {D T X γ:Nat}{V:List Int}(j:Jn D T X γ V){s:List QL}(hs:∀ x∈s,Lk D X x/\inV V x)(ho:s.Pairwise cU)(hw:sm wt s<=72){q:Q}(hq:Dv T q)(h0:0<=q)(h1:q<=((10 ^ 8:Nat):Q)):bQ (q-sm enQ s):=by
 obtain⟨a1,a2,a3⟩:=aME j hs ho hw
 obtain⟨b1,b2⟩:=wG (fun x hx=>(hs x hx).1) j.hX hw
 have d:=zW (rV (D*pn D s) hq) (by rw[aTR];exact rV T a3)
 refine aDr (B:=10 ^ 8) (aTW j.hT a1) d ?_ ?_ (by omega) (aUu (aTA _ (aTA T a2)) j.hB)
 · grind
 · grind
theorem aDo {D T X γ:Nat}{V:List Int}(j:Jn D T X γ V):∀ (l s:List QL) (q:Q),(∀ x∈l,Lk D X x/\inV V x/\Dv T (enQ x))->(∀ x∈s,Lk D X x/\inV V x)->s.Pairwise cU->sm wt s+sm wt l<=72->Dv T q->0<=q->q+sm enQ l<=((10 ^ 8:Nat):Q)->
 aAI l s (q-sm enQ s)/\(∀ x∈(aR l s (q-sm enQ s)).1,Lk D X x/\inV V x)/\(aR l s (q-sm enQ s)).1.Pairwise cU/\(aR l s (q-sm enQ s)).2=q+sm enQ l-sm enQ (aR l s (q-sm enQ s)).1/\sm wt (aR l s (q-sm enQ s)).1=sm wt s+sm wt l
 | [],s,q,_,hs,ho,_,_,_,_=>by
  refine⟨trivial,hs,ho,?_,?_⟩
  · simp only[aR,sm];grind
  · simp only[aR,sm];grind
 | x::r,s,q,hl,hs,ho,hw,hq,h0,hb=>by
  obtain⟨x1,x2,x3⟩:=hl x (by simp)
  have hr:∀ y∈r,Lk D X y/\inV V y/\Dv T (enQ y):=fun y hy=>hl y (by simp[hy])
  rw[sm]at hw hb
  have wr:=kU (fun y hy=>(hr y hy).1)
  have ws:=kU (fun y hy=>(hs y hy).1)
  have wx:(0:Q)<wt x:=x1.sc.1
  have hp:∀ y∈s,0<y.w:=fun y hy=>(hs y hy).1.sc.1
  have e1:=aMn s x hp x1.sc.1
  have e2:=aDy (f:=wt) (fun k l _ _ _ _=>aKR k l) s x hp x1.sc.1
  have n1:=aDz (P:=fun y=>Lk D X y/\inV V y) (fun a b _ _ g1 g2=>⟨aR2 g1.1 g2.1,g1.2⟩) s x hs ⟨x1,x2⟩
  have n2:=aKf s x ho
  have e3:q-sm enQ s+(jS s x).2=(q+enQ x)-sm enQ (jS s x).1:=by grind
  have er:=kY (f:=enQ) (fun y hy=>aD3 (hr y hy).1.sc.1)
  have ex:=aD3 x1.sc.1
  have hq':=kS hq x3
  obtain⟨g1,g2,g3,g4,g5⟩:=aDo j r (jS s x).1 (q+enQ x) hr n1 n2 (by rw[e2];grind) hq' (by grind) (by grind)
  have ft:bQ ((q+enQ x)-sm enQ (jS s x).1):=aNf j n1 n2 (by rw[e2];grind) hq' (by grind) (by grind)
  have af:aCQ s x:=aHR s x fun k hk=>by
   have:=hp k hk
   have:=wM (fun y hy=>(hs y hy).1) hk
   unfold wt at wx
   refine⟨by grind,aMX j.hD j.hP (by have:=j.hX;omega) j.h0 (hs k hk).1 x1 (by
    have e:wt x=x.w:=rfl
    grind)⟩
  rw[aR,aAI,e3]
  refine⟨⟨af,ft,g1⟩,g2,g3,?_,?_⟩
  · rw[g4,sm];grind
  · rw[g5,e2,sm];grind
/- Comparison of links, conditionals, tree nodes; nodes that have changed. -/
theorem aFm (a b:List Int)(h:a.length<=4294967296):oU a b=some (decide (a=b)):=by
 unfold oU
 by_cases hl:a.length=b.length
 · rw[aTc (by omega),aRq a b hl (fun k ha hb=>by
    unfold qN
    rw[aTd (by omega),aN ha,aN hb,wi (by omega)]
    simp only[aTb]
    by_cases c:a[k]=b[k]
    · rw[aTc (by simp[c]),aTd c]
    · rw[aTd c,aTc c]) (by unfold qN;rw[aTc (by omega)])]
   by_cases c:a=b <;> simp[c]
 · rw[aTd (by omega)]
   have:a≠b:=by rintro rfl;exact hl rfl
   simp[this]
theorem aA2 (r s:Rat)(h:bG r<=4294967296):lZ r s=some (decide (r=s)):=by
 obtain⟨⟨a,m⟩,d⟩:=r
 obtain⟨⟨a',m'⟩,d'⟩:=s
 unfold bG uL xE at h
 rw[tC,tC]at h
 simp only at h
 unfold lZ
 simp only[]
 rw[aFm m m' (by omega),aFm d d' (by omega)]
 by_cases c1:a=a' <;> by_cases c2:m=m' <;> by_cases c3:d=d' <;> simp[c1,c2,c3]
theorem aEu (r s:Rat)(h:bG r<=4294967296):lU r s=some (decide (r=s)):=aA2 r s h
/- Conditionals that are valid. -/
theorem aMA (c:Conditional)(h:aX c<=4294967296)(hg:∀ j (hj:j<c.fParents.length),aFG c j c.fParents[j]):∀ m k:Nat,m+k=c.fParents.length->∀ s:Rat,VZ s->
 lp (aY c) ((k:Int),s)=some (.inl (((c.fParents.drop k).map (·.fShare)).foldl RA s)):=by
 have hl:=(aIt h).1
 intro m
 induction m with
 | zero =>
  intro k hk s hs
  rw[aTE (by omega)]
  exact aK (by unfold aY;simp only[];rw[aTc (by omega)];rfl)
 | succ m ih =>
  intro k hk s hs
  have hlt:k<c.fParents.length:=by omega
  obtain⟨z1,z2,z3⟩:=aQK h hlt
  obtain⟨g1,g2⟩:=aAl _ z1
  have b1:=dS _ z2
  have b2:=dS _ z3
  obtain⟨A,B,C,D,E,F⟩:=hg k hlt
  obtain⟨t1,_,t3⟩:=yG hs (.inl (aAa D))
  have w1:IntKind.i64.wrap ((k:Int)+1)=((k+1:Nat):Int):=by rw[wi (by omega)];omega
  have D':¬wV (c.fParents[k]).fShare<=0:=by omega
  have st:aY c ((k:Int),s)=some (.inl (((k+1:Nat):Int),RA s (c.fParents[k]).fShare)):=by
   have hin:(k:Int)<(c.fParents.length:Int):=by omega
   unfold aY
   simp only[hin,aTz,aN hlt,aTb,aB0,g1,b1,b2,t1,w1]
   by_cases K:0<k
   · have hlt2:k-1<c.fParents.length:=by omega
     have w2:IntKind.i64.wrap ((k:Int)-1)=((k-1:Nat):Int):=by rw[wi (by omega)];omega
     have K':(0:Int)<(k:Int):=by omega
     have C':=C (c.fParents[k-1]) K (by rw[aTl hlt2])
     have C'':¬(c.fParents[k]).fNode<=(c.fParents[k-1]).fNode:=by omega
     simp[A,B,K,K',D',w2,aN hlt2,C'',E,F]
   · have K':¬(0:Int)<(k:Int):=by omega
     simp[A,B,K,K',D',E,F]
  rw[aQ st,ih (k+1) (by omega) _ t3,aTh hlt]
  rfl
theorem aKn (c:Conditional)(h:aX c<=4294967296)(h1:1<=c.fNode/\c.fNode<=9)(h2:0<wV c.fTotal)(h3:c.fParents≠[])(hg:∀ j (hj:j<c.fParents.length),aFG c j c.fParents[j])(hs:(c.fParents.map (·.fShare)).foldl RA (dN 0)=dN 1):bA c=some true:=by
 obtain⟨hl,hT⟩:=aIt h
 obtain⟨g1,g2⟩:=aAl _ hT
 have e:=aMA c h hg c.fParents.length 0 (by omega) (dN 0) yT
 rw[show((0:Nat):Int)=0 from rfl,aTZ,hs]at e
 have hp:(0:Int)<(c.fParents.length:Int):=by
  have:=List.length_pos_iff.2 h3;omega
 unfold bA
 rw[bV 0 (by omega),bV 1 (by omega)]
 simp only[aTb,e,g1,aAH]
 simp[h1,h2,h3,hp,aEu (dN 1) (dN 1) (VZs (.inl (xJ 1 (by omega))))]
/- Eliminating a node over the rational numbers. -/
def aEt (v:Int)(l:QL):Bool:=decide (l.a=v\/l.b=v)
def aA9 (v:Int)(l:QL):QL:=if l.a=v then⟨l.b,v,l.w,-l.x,-l.y⟩else⟨l.a,v,l.w,l.x,l.y⟩
def bL (v:Int)(s:List QL):List QL:=(s.filter (aEt v)).map (aA9 v)
def toA (a:QL):l08Arm:=⟨a.a,ofQ a.w,ofQ a.x,ofQ a.y⟩
theorem aPf (v:Int):∀ s:List QL,(∀ x∈s,x.fit)->bJ v (s.map QL.toL)=(bL v s).map toA
 | [],_=>rfl
 | x::s,h=>by
  have ih:=aPf v s (fun y hy=>h y (by simp[hy]))
  obtain⟨h1,h2,h3⟩:=h x (by simp)
  unfold bJ bL at ih ⊢
  rw[aTo,aTP,aTP]
  have e:tch v x.toL=aEt v x:=rfl
  rw[e]
  by_cases c:aEt v x=true
  · rw[aTd c,aTd c,aTo,aTo,aTo,ih]
    congr 1
    unfold aA3 aA9 QL.toL toA
    simp only[]
    by_cases d:x.a=v
    · rw[aTd d,aTd d,aRW h2,aRW h3]
    · rw[aTc d,aTc d]
  · rw[aTc c,aTc c,ih]
structure PQ where
 node:Int
 s:Q
 x:Q
 y:Q
structure CQ where
 node:Int
 t:Q
 ps:List PQ
def PQ.toP (p:PQ):Parent:=⟨p.node,ofQ p.s,ofQ p.x,ofQ p.y⟩
def CQ.toC (c:CQ):Conditional:=⟨c.node,ofQ c.t,c.ps.map PQ.toP⟩
def yI (t:Q)(a:QL):PQ:=⟨a.a,a.w / t,a.x,a.y⟩
def mlQ (t:Q)(a b:QL):QL:=⟨a.a,b.a,a.w*b.w / t,a.x-b.x,a.y-b.y⟩
def mO (t:Q):List QL->List QL
 | []=>[]
 | a::r=>r.map (mlQ t a)++mO t r
def rT (v:Int)(a:List QL):CQ:=⟨v,sm wt a,a.map (yI (sm wt a))⟩
structure Arms (D X:Nat)(v:Int)(a:List QL):Prop where
 hD:0<D
 hP:72*D<=PP
 hX:X<=400
 h0:0<X
 lk:∀ x∈a,Lk D X x
 hw:sm wt a<=72
 inc:a.Pairwise fun x y=>x.a<y.a
 nd:∀ x∈a,(0<=x.a/\x.a<=9)/\x.a≠v
 ne:a≠[]
 hv:1<=v/\v<=9
theorem Arms.pos {D X:Nat}{v:Int}{a:List QL}(h:Arms D X v a):0<sm wt a:=by
 obtain⟨x,hx⟩:=List.exists_mem_of_ne_nil a h.ne
 have:=wM h.lk hx
 have:=(h.lk x hx).sc.1
 grind
theorem xG {D X:Nat}{a:List QL}(h:∀ x∈a,Lk D X x):Dv D (sm wt a):=aKl fun x hx=>(h x hx).sc.2.1
theorem Arms.le {D X:Nat}{v:Int}{a:List QL}(h:Arms D X v a){x:QL}(hx:x∈a):x.w<=72:=by
 have:=wM h.lk hx
 have:=h.hw
 grind
theorem Arms.fit {D X:Nat}{v:Int}{a:List QL}(h:Arms D X v a){x:QL}(hx:x∈a):x.fit:=aIF h.hD h.hP (h.lk x hx) (by have:=h.hX;omega) h.h0 (h.le hx)
theorem w72 {D:Nat}{q:Q}(hD:0<D)(hP:72*D<=PP)(h0:0<=q)(h1:q<=72)(hd:Dv D q):bQ q:=by
 refine iV (B:=72) hD hd ⟨?_,h1⟩ (by omega) (by omega) (lI (a:=1) (by rw[aUA];omega) (by omega))
 have:=sG 72
 grind
theorem aOO {D X:Nat}(hD:0<D)(hP:72*D<=PP):∀ (a:List QL) (t:Q),(∀ x∈a,Lk D X x)->Dv D t->0<=t->t+sm wt a<=72->(a.map toA).foldl (fun t a=>RA t a.fweight) (ofQ t)=ofQ (t+sm wt a)
 | [],t,_,_,_,_=>by simp only[aT8,List.foldl_nil,sm];congr 1;grind
 | x::a,t,h,ht,h0,hw=>by
  have hx:=h x (by simp)
  have hr:=fun y hy=>h y (aTT x hy)
  have wr:=kU hr
  have wx:0<wt x:=hx.sc.1
  rw[sm]at hw ⊢
  have d2:=kS ht hx.sc.2.1
  have e:wt x=x.w:=rfl
  have f1:=w72 hD hP h0 (by grind) ht
  have f2:bQ x.w:=w72 hD hP (by grind) (by grind) hx.sc.2.1
  have f3:bQ (t+x.w):=w72 hD hP (by grind) (by grind) d2
  rw[aTo,aUG]
  have e1:RA (ofQ t) (toA x).fweight=ofQ (t+x.w):=aGG f1 f2 f3
  rw[e1,aOO hD hP a (t+x.w) hr d2 (by grind) (by grind)]
  congr 1;grind
theorem Arms.tot {D X:Nat}{v:Int}{a:List QL}(h:Arms D X v a):qW (a.map toA)=ofQ (sm wt a):=by
 unfold qW
 rw[aAo,aOO h.hD h.hP a 0 h.lk ⟨0,by simp⟩ (by grind) (by have:=h.hw;grind)]
 congr 1;grind
theorem Arms.ftot {D X:Nat}{v:Int}{a:List QL}(h:Arms D X v a):bQ (sm wt a):=w72 h.hD h.hP (by have:=h.pos;grind) h.hw (xG h.lk)
theorem zZ {D X:Nat}{v:Int}{a:List QL}(h:Arms D X v a){x:QL}(hx:x∈a):Dv (nm D (sm wt a)) (x.w / sm wt a)/\0<x.w / sm wt a/\x.w / sm wt a<=1:=by
 have hp:=h.pos
 have hl:=wM h.lk hx
 have hx0:=(h.lk x hx).sc.1
 refine⟨aDC h.hD hp (xG h.lk) (h.lk x hx).sc.2.1,?_,?_⟩
 · rw[_root_.Rat.lt_div_iff hp];grind
 · have:=aCO (A:=1) (p:=x.w) hp (by grind) (by have e:((1:Nat):Q)=1:=rfl;rw[e];grind)
   have e:((1:Nat):Q)=1:=rfl
   unfold bd at this;rw[e]at this;grind
theorem Arms.nN {D X:Nat}{v:Int}{a:List QL}(h:Arms D X v a):0<nm D (sm wt a)/\nm D (sm wt a)<=72*D :=
 ⟨(yX h.hD h.pos (xG h.lk)).2,aEk h.hD h.pos (xG h.lk) h.hw⟩
theorem aFI {N:Nat}{q:Q}(hN:0<N)(hP:N<=PP)(h0:0<=q)(h1:q<=1)(hd:Dv N q):bQ q:=by
 refine iV (B:=1) hN hd ⟨?_,h1⟩ (by omega) (by omega) (lI (a:=1) (by rw[aUA];omega) (by omega))
 have e:((1:Nat):Q)=1:=rfl
 rw[e];grind
theorem aOP {D X:Nat}{v:Int}{a:List QL}(h:Arms D X v a):∀ (b:List QL) (t:Q),(∀ x∈b,x∈a)->Dv (nm D (sm wt a)) t->0<=t->t+sm (fun x=>x.w / sm wt a) b<=1->((b.map (yI (sm wt a))).map fun p=>ofQ p.s).foldl RA (ofQ t)=ofQ (t+sm (fun x=>x.w / sm wt a) b)
 | [],t,_,_,_,_=>by simp only[aT8,List.foldl_nil,sm];congr 1;grind
 | x::b,t,hb,ht,h0,hw=>by
  obtain⟨s1,s2,s3⟩:=zZ h (hb x (by simp))
  have hr:=fun y hy=>hb y (aTT x hy)
  have wr:0<=sm (fun x=>x.w / sm wt a) b:=kY fun y hy=>by have:=(zZ h (hr y hy)).2.1;grind
  obtain⟨n1,n2⟩:=h.nN
  have nP:nm D (sm wt a)<=PP:=by have:=h.hP;omega
  rw[sm]at hw ⊢
  have d2:=kS ht s1
  have f1:=aFI n1 nP h0 (by grind) ht
  have f2:=aFI n1 nP (by grind) s3 s1
  have f3:bQ (t+x.w / sm wt a):=aFI n1 nP (by grind) (by grind) d2
  rw[aTo,aTo,aUG]
  have e1:RA (ofQ t) (ofQ (yI (sm wt a) x).s)=ofQ (t+x.w / sm wt a):=aGG f1 f2 f3
  rw[e1,aOP h b _ hr d2 (by grind) (by grind)]
  congr 1;grind
theorem aNK (t:Q):∀ a:List QL,sm (fun x=>x.w / t) a=sm wt a / t
 | []=>by simp[sm];grind
 | x::a=>by rw[sm,sm,aNK t a];unfold wt;grind
theorem Arms.share_sum {D X:Nat}{v:Int}{a:List QL}(h:Arms D X v a):sm (fun x=>x.w / sm wt a) a=1:=by
 rw[aNK]
 have:=h.pos
 have:sm wt a≠0:=by grind
 grind
theorem aOd:dN 1=ofQ 1:=aBl (by decide)
theorem Arms.cond {D X:Nat}{v:Int}{a:List QL}(h:Arms D X v a):aCw v (a.map toA)=(rT v a).toC:=by
 unfold aCw rT CQ.toC
 rw[h.tot]
 simp only[aUK]
 congr 1
 refine aVW fun x hx=>?_
 obtain⟨s1,s2,s3⟩:=zZ h hx
 obtain⟨n1,n2⟩:=h.nN
 have f2:=aFI n1 (by have:=h.hP;omega) (by grind) s3 s1
 have:=h.pos
 show fQ (ofQ (sm wt a)) (toA x)=(yI (sm wt a) x).toP
 unfold fQ toA yI PQ.toP
 simp only[]
 rw[aLt (h.fit hx).1 h.ftot (by grind) f2]
theorem Arms.armOk {D X:Nat}{v:Int}{a:List QL}(h:Arms D X v a):∀ x∈a.map toA,uK x:=by
 intro x hx
 obtain⟨y,hy,rfl⟩:=aTu.1 hx
 obtain⟨f1,f2,f3⟩:=h.fit hy
 exact⟨(h.nd y hy).1,jP f1,jP f2,jP f3⟩
theorem aGg {a:List QL}(inc:a.Pairwise fun x y=>x.a<y.a)(nd:∀ x∈a,0<=x.a/\x.a<=9):a.length<=10:=by
 have n:(a.map fun x=>x.a).Nodup:=by
  rw[List.Nodup,aUC]
  exact inc.imp fun {x y} hxy e=>by omega
 have:=n.length_le_of_subset (l₂:=[0,1,2,3,4,5,6,7,8,9]) (fun z hz=>by
  obtain⟨x,hx,rfl⟩:=aTu.1 hz
  have:=nd x hx
  simp only[aTf,aVc,or_false];omega)
 simpa using this
theorem Arms.condOk {D X:Nat}{v:Int}{a:List QL}(h:Arms D X v a):condOk v (a.map toA):=by
 have hl:=aGg h.inc (fun x hx=>(h.nd x hx).1)
 have hz:=aIM (v:=v) h.armOk (by rw[aTs];omega)
 obtain⟨n1,n2⟩:=h.nN
 unfold Go.Ev.condOk
 rw[h.cond]at hz ⊢
 refine aKn _ hz h.hv ((aKz h.ftot).2 h.pos) ?_ ?_ ?_
 · unfold CQ.toC rT
   simp only[ne_eq,List.map_eq_nil_iff]
   exact h.ne
 · intro j hj
   have hj':j<a.length:=by unfold CQ.toC rT at hj;simpa using hj
   have e:(rT v a).toC.fParents[j]=(yI (sm wt a) a[j]).toP:=by
    unfold CQ.toC rT;simp
   rw[e]
   have hm:=aTv hj'
   obtain⟨s1,s2,s3⟩:=zZ h hm
   have f2:=aFI n1 (by have:=h.hP;omega) (by grind) s3 s1
   obtain⟨f3,f4,f5⟩:=h.fit hm
   refine⟨(h.nd _ hm).1,(h.nd _ hm).2,fun q hq hk=>?_,(aKz f2).2 s2,qT f4,qT f5⟩
   have hk':j-1<a.length:=by omega
   have e2:(rT v a).toC.fParents[j-1]?=some (yI (sm wt a) a[j-1]).toP:=by
    unfold CQ.toC rT;simp[hk']
   rw[e2]at hk
   cases hk
   exact(aU2.1 h.inc) (j-1) j hk' hj' (by omega)
 · have e:((rT v a).toC.fParents.map fun p=>p.fShare)=((a.map (yI (sm wt a))).map fun p=>ofQ p.s):=by
    unfold CQ.toC rT;simp[PQ.toP,Function.comp_def]
   rw[e,aAo,aOP h a 0 (fun x hx=>hx) ⟨0,by simp⟩ (by grind) (by rw[h.share_sum];grind),h.share_sum,aOd]
   congr 1;grind
/- The mesh of an eliminated node over the rational numbers. -/
theorem aFR {D:Nat}{p q:Q}(hp:Dv D p)(hq:Dv D q){W:Q}{N:Nat}(hN:(N:Q)=W*D)(hW:W≠0):Dv (D*N) (p*q / W):=by
 obtain⟨a,ha⟩:=hp
 obtain⟨b,hb⟩:=hq
 refine⟨a*b,?_⟩
 rw[aUi,hN,aVm,<- ha,<- hb]
 grind
theorem aOs {D X:Nat}{v:Int}{a:List QL}(h:Arms D X v a){x y:QL}(hx:x∈a)(hy:y∈a)(hxy:x.a<y.a) :
 uH (ofQ (sm wt a)) (toA x) (toA y)=(mlQ (sm wt a) x y).toL/\(mlQ (sm wt a) x y).fit/\(mlQ (sm wt a) x y).ok/\Lk (D*nm D (sm wt a)) (2*X) (mlQ (sm wt a) x y)/\Dv (D*nm D (sm wt a)*(nm D x.w*nm D y.w)) (enQ (mlQ (sm wt a) x y)):=by
 have hp:=h.pos
 have lx:=h.lk x hx
 have ly:=h.lk y hy
 obtain⟨n1,n2⟩:=h.nN
 have hN:=(yX h.hD hp (xG h.lk)).1
 have hW:sm wt a≠0:=by grind
 obtain⟨fx1,fx2,fx3⟩:=h.fit hx
 obtain⟨fy1,fy2,fy3⟩:=h.fit hy
 have dx:=lx.sc.2.1
 have dy:=ly.sc.2.1
 have px:=lx.sc.1
 have py:=ly.sc.1
 have bx:=aMz px (h.le hx)
 have by_:=aMz py (h.le hy)
 have hD:=h.hD
 have hP:=h.hP
 have hX:=h.hX
 have h0:=h.h0
 have eD:D<=PP ^ 1:=by rw[aUA];omega
 have eN:nm D (sm wt a)<=PP ^ 1:=by rw[aUA];omega
 have ex:nm D x.w<=PP ^ 1:=by have:=aEk (W:=72) h.hD px dx (h.le hx);rw[aUA];omega
 have ey:nm D y.w<=PP ^ 1:=by have:=aEk (W:=72) h.hD py dy (h.le hy);rw[aUA];omega
 obtain⟨ex1,ex2⟩:=yX h.hD px dx
 obtain⟨ey1,ey2⟩:=yX h.hD py dy
 have f1:bQ (x.w*y.w):=iV (aTW hD hD) (yH dx dy) (qU bx by_) (by decide) (by decide) (lI (tO eD eD) (by omega))
 have dw:Dv (D*nm D (sm wt a)) (x.w*y.w / sm wt a):=aFR dx dy hN hW
 have pxy:=aVZ px py
 have pw:0<x.w*y.w / sm wt a:=by rw[_root_.Rat.lt_div_iff hp];grind
 have bw:bd 72 (x.w*y.w / sm wt a):=by
  have l1:=wM h.lk hx
  have l2:0<=(sm wt a-x.w)*y.w:=aTV (by grind) (by grind)
  have l3:0<=((72:Nat)-y.w)*sm wt a:=aTV (by have:=h.le hy;have e:((72:Nat):Q)=72:=rfl;grind) (by grind)
  have l4:=aTV (sG 72) (Std.le_of_lt hp)
  exact aCO hp (by grind) (by grind)
 have f2:bQ (x.w*y.w / sm wt a):=iV (aTW hD n1) dw bw (by omega) (by omega) (lI (tO eD eN) (by omega))
 obtain⟨xx,xy⟩:=aLo h.hD lx.sc
 obtain⟨yx,yy⟩:=aLo h.hD ly.sc
 have gx:=zW (rV (nm D y.w) xx) (by rw[aTR];exact rV (nm D x.w) yx)
 have gy:=zW (rV (nm D y.w) xy) (by rw[aTR];exact rV (nm D x.w) yy)
 have cx:=aGB lx.bx ly.bx
 have cy:=aGB lx.by' ly.by'
 have f3:bQ (x.x-y.x):=iV (aTW ex2 ey2) gx cx (by omega) (by omega) (lI (tO ex ey) (by omega))
 have f4:bQ (x.y-y.y):=iV (aTW ex2 ey2) gy cy (by omega) (by omega) (lI (tO ex ey) (by omega))
 have lk:Lk (D*nm D (sm wt a)) (2*X) (mlQ (sm wt a) x y):=by
  refine⟨⟨pw,dw,?_,?_⟩,by rw[Nat.two_mul];exact cx,by rw[Nat.two_mul];exact cy⟩
  · have e:mx (mlQ (sm wt a) x y)=mx x*y.w / sm wt a-x.w*mx y / sm wt a:=by unfold mx mlQ;simp only[];grind
    rw[e]
    exact zW (aFR lx.sc.2.2.1 dy hN hW) (aFR dx ly.sc.2.2.1 hN hW)
  · have e:my (mlQ (sm wt a) x y)=my x*y.w / sm wt a-x.w*my y / sm wt a:=by unfold my mlQ;simp only[];grind
    rw[e]
    exact zW (aFR lx.sc.2.2.2 dy hN hW) (aFR dx ly.sc.2.2.2 hN hW)
 refine⟨?_,⟨f2,f3,f4⟩,⟨(h.nd x hx).1,(h.nd y hy).1,hxy,pw⟩,lk,?_⟩
 · unfold uH toA mlQ QL.toL
   simp only[]
   rw[aGF fx1 fy1 f1,aLt f1 h.ftot hW f2,aPp fx2 fy2 f3,aPp fx3 fy3 f4]
 · have hDN:0<D*nm D (sm wt a):=aTW hD n1
   have e1:=(yX hDN pw dw).1
   have e2:nm (D*nm D (sm wt a)) (x.w*y.w / sm wt a)=nm D x.w*nm D y.w:=by
    refine _root_.Rat.natCast_inj.1 ?_
    rw[e1,aUi,aUi,hN,ex1,ey1]
    grind
   have:=aMq hDN lk.sc
   have e3:(mlQ (sm wt a) x y).w=x.w*y.w / sm wt a:=rfl
   rw[e3,e2]at this
   exact this
theorem aJA (t:Q):∀ {a:List QL} {z:QL},z∈mO t a->∃ p x q y r,a=p++x::(q++y::r)/\z=mlQ t x y
 | x::a,z,h=>by
  rw[mO,aTj]at h
  rcases h with h | h
  · obtain⟨y,hy,rfl⟩:=aTu.1 h
    obtain⟨q,r,e⟩:=List.append_of_mem hy
    exact⟨[],x,q,y,r,by rw[e];rfl,rfl⟩
  · obtain⟨p,x',q,y,r,e,h2⟩:=aJA t h
    exact⟨x::p,x',q,y,r,by rw[e];rfl,h2⟩
theorem Arms.mesh {D X:Nat}{v:Int}{a:List QL}(h:Arms D X v a):∀ p b:List QL,a=p++b->iM (ofQ (sm wt a)) (b.map toA)=(mO (sm wt a) b).map QL.toL
 | _,[],_=>rfl
 | p,x::b,e=>by
  have ih:=h.mesh (p++[x]) b (by rw[e,aTx];rfl)
  rw[aTo,iM,mO,aUc,ih]
  congr 1
  rw[aUK,aUK]
  refine aVW fun y hy=>?_
  have hx:x∈a:=by rw[e];simp
  have hy':y∈a:=by rw[e];simp[hy]
  have hxy:x.a<y.a:=by
   have:=h.inc
   rw[e,aUH,aTQ]at this
   exact this.2.1.1 y hy
  exact(aOs h hx hy' hxy).1
theorem aRi (D:Nat){p q r:List QL}{x y:QL}:nm D x.w*nm D y.w∣pn D (p++x::(q++y::r)):=by
 rw[aKH,pn,aKH,pn]
 refine aVC ?_ (aUT _ _)
 refine aU4 _ (aVC ?_ (aUT _ _))
 exact aVt _ _
theorem Arms.each {D X:Nat}{v:Int}{a:List QL}(h:Arms D X v a){z:QL}(hz:z∈mO (sm wt a) a) :
 z.fit/\z.ok/\Lk (D*nm D (sm wt a)) (2*X) z/\Dv (D*nm D (sm wt a)*pn D a) (enQ z)/\(∃ x∈a,x.a=z.a)/\∃ y∈a,y.a=z.b:=by
 obtain⟨p,x,q,y,r,e,rfl⟩:=aJA _ hz
 have hx:x∈a:=by rw[e];simp
 have hy:y∈a:=by rw[e];simp
 have hxy:x.a<y.a:=by
  have:=h.inc
  rw[e,aUH,aTQ]at this
  exact this.2.1.1 y (by simp)
 obtain⟨_,f,o,l,d⟩:=aOs h hx hy hxy
 refine⟨f,o,l,vD d (aU4 _ ?_),⟨x,hx,rfl⟩,y,hy,rfl⟩
 conv=>rhs;rw[e]
 exact aRi D
theorem aJC (t:Q):∀ {a:List QL},a.Pairwise (fun x y=>x.a<y.a)->∀ x∈a,∀ y∈a,x.a<y.a->mlQ t x y∈mO t a
 | z::a,h,x,hx,y,hy,hxy=>by
  rw[aTQ]at h
  rw[mO,aTj]
  rcases aTf.1 hx with e | hx
  · rcases aTf.1 hy with e2 | hy
    · rw[e,e2]at hxy;omega
    · exact .inl (by rw[e];exact aUm hy)
  · rcases aTf.1 hy with e2 | hy
    · have:=h.1 x hx;rw[e2]at hxy;omega
    · exact .inr (aJC t h.2 x hx y hy hxy)
theorem aL0 {t:Q}(ht:0<t):∀ {a:List QL},(∀ x∈a,0<=wt x)->sm wt (mO t a)*t<=sm wt a*sm wt a
 | [],_=>by simp[mO,sm]
 | x::a,h=>by
  have ih:=aL0 ht (a:=a) (fun y hy=>h y (by simp[hy]))
  have h1:=h x (by simp)
  have h2:0<=sm wt a:=kY fun y hy=>h y (by simp[hy])
  have e:∀ b:List QL,sm wt (b.map (mlQ t x))*t=wt x*sm wt b:=by
   intro b
   induction b with
   | nil=>simp[sm]
   | cons y b ih2 =>
    rw[aTo,sm,sm,_root_.Rat.add_mul,ih2]
    have e3:wt (mlQ t x y)=wt x*wt y / t:=rfl
    rw[e3]
    have:t≠0:=by grind
    grind
  rw[mO,pP,sm,_root_.Rat.add_mul,e]
  have h3:=aTV h1 h2
  have h4:=aTV h1 h1
  grind
theorem Arms.mesh_le {D X:Nat}{v:Int}{a:List QL}(h:Arms D X v a):sm wt (mO (sm wt a) a)<=sm wt a:=by
 have:=aL0 h.pos (a:=a) (fun x hx=>by have:=(h.lk x hx).sc.1;unfold wt;grind)
 exact aVY this h.pos
theorem aRF {D X:Nat}{v:Int}{s:List QL}(hs:∀ x∈s,x.fit)(h:Arms D X v (bL v s)) :
 yC v (s.map QL.toL)=some ((rT v (bL v s)).toC,(mO (sm wt (bL v s)) (bL v s)).map QL.toL):=by
 have e1:=aPf v s hs
 have e2:=h.mesh [] (bL v s) rfl
 have hv:∀ x∈iM (qW (bJ v (s.map QL.toL))) (bJ v (s.map QL.toL)),ValidL x:=by
  rw[e1,h.tot,e2]
  intro x hx
  obtain⟨z,hz,rfl⟩:=aTu.1 hx
  obtain⟨f,o,_⟩:=h.each hz
  exact(aG8 f).2 o
 rw[aIK ⟨h.hv,by rw[e1];exact h.condOk,hv⟩,e1,h.tot,e2,h.cond]
/- From a front to its arms, rest and mesh. -/
theorem aDx (v:Int)(l:QL):(aA9 v l).w=l.w:=by unfold aA9;split <;> rfl
theorem aQn (v:Int)(l:QL):enQ (aA9 v l)=enQ l:=by
 unfold aA9 enQ sqQ
 split
 · simp only[];grind
 · rfl
theorem aQm {D X:Nat}(v:Int){l:QL}(h:Lk D X l):Lk D X (aA9 v l):=by
 unfold aA9
 split
 · refine⟨⟨h.sc.1,h.sc.2.1,?_,?_⟩,aPc h.bx,aPc h.by'⟩
   · have e:mx ⟨l.b,v,l.w,-l.x,-l.y⟩=- mx l:=by unfold mx;simp only[];grind
     rw[e];exact aIZ h.sc.2.2.1
   · have e:my ⟨l.b,v,l.w,-l.x,-l.y⟩=- my l:=by unfold my;simp only[];grind
     rw[e];exact aIZ h.sc.2.2.2
 · exact⟨h.sc,h.bx,h.by'⟩
def uF (v:Int)(s:List QL):List QL:=s.filter (fun l=>!aEt v l)
theorem aNR (v:Int):∀ s:List QL,yS v (s.map QL.toL)=(uF v s).map QL.toL
 | []=>rfl
 | x::s=>by
  have ih:=aNR v s
  unfold yS uF at ih ⊢
  rw[aTo,aTP,aTP]
  have e:tch v x.toL=aEt v x:=rfl
  rw[e,ih]
  split <;> rfl
theorem aBg (f:QL->Q)(v:Int)(hf:∀ l,f (aA9 v l)=f l):∀ s:List QL,sm f s=sm f (bL v s)+sm f (uF v s)
 | []=>by simp only[bL,uF,aUY,aT8,sm];grind
 | x::s=>by
  have ih:=aBg f v hf s
  unfold bL uF at ih ⊢
  rw[aTP,aTP,sm]
  by_cases c:aEt v x=true
  · simp only[c,aUh,aTz,aTk,aTD,aTo,sm,hf];grind
  · simp only[c,Bool.not_eq_true,aTD,aVy,aTz,sm];grind
theorem aJb (D:Nat)(v:Int):∀ s:List QL,pn D s=pn D (bL v s)*pn D (uF v s)
 | []=>rfl
 | x::s=>by
  have ih:=aJb D v s
  unfold bL uF at ih ⊢
  rw[aTP,aTP,pn,ih]
  by_cases c:aEt v x=true
  · simp only[c,aUh,aTz,aTk,aTD,aTo,pn,aDx,aT3]
  · simp only[c,aTD,aVy,aTz,pn]
    simp[aVs]
theorem wC {v:Int}{s:List QL}{a:QL}:a∈bL v s↔∃ l∈s,(l.a=v\/l.b=v)/\a=aA9 v l:=by
 unfold bL
 rw[aTu]
 constructor
 · rintro⟨l,hl,rfl⟩
   rw[aTI]at hl
   have:=hl.2
   unfold aEt at this
   exact⟨l,hl.1,aTM this,rfl⟩
 · rintro⟨l,hl,ht,rfl⟩
   refine⟨l,aTI.2 ⟨hl,?_⟩,rfl⟩
   unfold aEt;exact aTg ht
theorem aAe {v:Int}{s:List QL}{l:QL}:l∈uF v s↔l∈s/\l.a≠v/\l.b≠v:=by
 unfold uF aEt
 rw[aTI]
 simp[not_or]
theorem aDw {v:Int}{l:QL}(h:l.a=v\/l.b=v)(hl:l.a<l.b):(l.a=v/\(aA9 v l).a=l.b)\/(l.b=v/\l.a≠v/\(aA9 v l).a=l.a):=by
 unfold aA9
 by_cases c:l.a=v
 · rw[aTd c];exact .inl ⟨c,rfl⟩
 · rw[aTc c]
   rcases h with h | h
   · exact absurd h c
   · exact .inr ⟨h,c,rfl⟩
theorem aPe {v:Int}{s:List QL}(ho:s.Pairwise cU)(h:∀ x∈s,x.a<x.b):(bL v s).Pairwise fun x y=>x.a<y.a:=by
 unfold bL
 rw[aUC]
 refine List.Pairwise.imp_of_mem (fun {x y} hx hy hr=>?_) (ho.sublist List.filter_sublist)
 rw[aTI]at hx hy
 have tx:=aTM hx.2
 have ty:=aTM hy.2
 have h1:=h x hx.1
 have h2:=h y hy.1
 have g1:=aDw tx h1
 have g2:=aDw ty h2
 unfold cU at hr
 omega
structure Front (D X:Nat)(V:List Int)(v:Int)(s:List QL):Prop where
 hD:0<D
 hP:72*D<=PP
 hX:X<=400
 h0:0<X
 lk:∀ x∈s,Lk D X x/\inV V x
 ord:s.Pairwise cU
 hw:sm wt s<=72
 hV:V.Nodup
 hn:∀ u∈V,0<=u/\u<=9
 hv:v∈V
 h1:1<=v
 ne:bL v s≠[]
theorem Front.armLk {D X:Nat}{V:List Int}{v:Int}{s:List QL}(h:Front D X V v s):∀ x∈bL v s,Lk D X x:=by
 intro x hx
 obtain⟨l,hl,_,rfl⟩:=wC.1 hx
 exact aQm v (h.lk l hl).1
theorem Front.armV {D X:Nat}{V:List Int}{v:Int}{s:List QL}(h:Front D X V v s):∀ x∈bL v s,x.a∈V/\x.a≠v:=by
 intro x hx
 obtain⟨l,hl,ht,rfl⟩:=wC.1 hx
 obtain⟨_,i1,i2,i3⟩:=h.lk l hl
 rcases aDw ht i3 with⟨e1,e2⟩ | ⟨e1,e2,e3⟩
 · rw[e2];exact⟨i2,by omega⟩
 · rw[e3];exact⟨i1,by omega⟩
theorem Front.arms {D X:Nat}{V:List Int}{v:Int}{s:List QL}(h:Front D X V v s):Arms D X v (bL v s) where
 hD:=h.hD
 hP:=h.hP
 hX:=h.hX
 h0:=h.h0
 lk:=h.armLk
 hw:=by
  have e:=aBg wt v (fun l=>aDx v l) s
  have:0<=sm wt (uF v s):=kU fun x hx=>(h.lk x (aAe.1 hx).1).1
  have:=h.hw
  grind
 inc:=aPe h.ord fun x hx=>(h.lk x hx).2.2.2
 nd:=fun x hx=>⟨h.hn _ (h.armV x hx).1,(h.armV x hx).2⟩
 ne:=h.ne
 hv:=⟨h.h1,(h.hn v h.hv).2⟩
theorem Front.fit {D X:Nat}{V:List Int}{v:Int}{s:List QL}(h:Front D X V v s):∀ x∈s,x.fit:=fun x hx =>
 aIF h.hD h.hP (h.lk x hx).1 (by have:=h.hX;omega) h.h0 (by
  have:=wM (fun y hy=>(h.lk y hy).1) hx
  have:=h.hw
  grind)
def iL (v:Int)(s:List QL):List QL:=uF v s++mO (sm wt (bL v s)) (bL v s)
theorem aMu {D E X Y:Nat}{l:QL}(h:Lk D X l)(hd:D∣E)(hx:X<=Y):Lk E Y l:=⟨aRR h.sc hd,uJ h.bx hx,uJ h.by' hx⟩
theorem Front.next {D X:Nat}{V:List Int}{v:Int}{s:List QL}(h:Front D X V v s){N:Nat}(hN:N=nm D (sm wt (bL v s))) :
 (∀ x∈iL v s,Lk (D*N) (2*X) x/\inV (V.erase v) x/\Dv (D*N*pn D s) (enQ x)/\x.fit/\x.ok)/\sm wt (iL v s)<=sm wt s:=by
 subst hN
 have ha:=h.arms
 obtain⟨n1,n2⟩:=ha.nN
 constructor
 · intro x hx
   rcases aTj.1 hx with hx | hx
   · obtain⟨m1,m2,m3⟩:=aAe.1 hx
     obtain⟨l1,l2,l3,l4⟩:=h.lk x m1
     refine⟨aMu l1 (aVt _ _) (by omega),⟨(h.hV.mem_erase_iff).2 ⟨m2,l2⟩,(h.hV.mem_erase_iff).2 ⟨m3,l3⟩,l4⟩,?_,h.fit x m1,(h.hn _ l2),(h.hn _ l3),l4,l1.sc.1⟩
     refine vD (aMq h.hD l1.sc) ?_
     rw[aT3]
     exact aU4 _ (aVC (aIr D x m1) (aUT _ _))
   · obtain⟨e1,e2,e3,e4,⟨y,hy,e5⟩,z,hz,e6⟩:=ha.each hx
     have v1:=h.armV y hy
     have v2:=h.armV z hz
     rw[e5]at v1
     rw[e6]at v2
     refine⟨e3,⟨(h.hV.mem_erase_iff).2 ⟨v1.2,v1.1⟩,(h.hV.mem_erase_iff).2 ⟨v2.2,v2.1⟩,e2.2.2.1⟩,vD e4 ?_,e1,e2⟩
     refine aU4 _ ?_
     rw[aJb D v s]
     exact aVt _ _
 · unfold iL
   rw[pP,aBg wt v (fun l=>aDx v l) s]
   have:=ha.mesh_le
   grind
/- A node of a tree over the rational numbers. -/
def aHe (x y:QL):Prop:=x.a=y.a/\x.b=y.b
theorem aHQ:∀ (s:List QL) (l:QL),∀ y∈(jS s l).1,(∃ x∈s,aHe x y)\/aHe l y
 | [],l,y,hy=>by simp[jS]at hy;subst hy;exact .inr ⟨rfl,rfl⟩
 | k::s,l,y,hy=>by
  by_cases c:cU k l
  · rw[sV c]at hy
    rcases aTf.1 hy with rfl | hy
    · exact .inl ⟨y,by simp,rfl,rfl⟩
    · rcases aHQ s l y hy with⟨x,hx,h⟩ | h
      · exact .inl ⟨x,by simp[hx],h⟩
      · exact .inr h
  · by_cases d:cU l k
    · rw[wI c d]at hy
      rcases aTf.1 hy with rfl | hy
      · exact .inr ⟨rfl,rfl⟩
      · exact .inl ⟨y,hy,rfl,rfl⟩
    · rw[wH c d]at hy
      rcases aTf.1 hy with rfl | hy
      · exact .inl ⟨k,by simp,rfl,rfl⟩
      · exact .inl ⟨y,by simp[hy],rfl,rfl⟩
theorem aKg:∀ (s:List QL) (l:QL),(∀ x∈s,∃ y∈(jS s l).1,aHe x y)/\∃ y∈(jS s l).1,aHe l y
 | [],l=>⟨by simp,l,by simp[jS],rfl,rfl⟩
 | k::s,l=>by
  by_cases c:cU k l
  · rw[sV c]
    obtain⟨h1,h2⟩:=aKg s l
    refine⟨fun x hx=>?_,?_⟩
    · rcases aTf.1 hx with rfl | hx
      · exact⟨x,by simp,rfl,rfl⟩
      · obtain⟨y,hy,h⟩:=h1 x hx
        exact⟨y,by simp[hy],h⟩
    · obtain⟨y,hy,h⟩:=h2
      exact⟨y,by simp[hy],h⟩
  · by_cases d:cU l k
    · rw[wI c d]
      exact⟨fun x hx=>⟨x,by simp only[aTf]at hx ⊢;exact .inr hx,rfl,rfl⟩,l,by simp,rfl,rfl⟩
    · rw[wH c d]
      refine⟨fun x hx=>?_,mrg k l,by simp,(yN c d).1.symm,(yN c d).2.symm⟩
      rcases aTf.1 hx with rfl | hx
      · exact⟨mrg x l,by simp,rfl,rfl⟩
      · exact⟨x,by simp[hx],rfl,rfl⟩
theorem pW:∀ (l s:List QL) (e:Q),∀ y∈(aR l s e).1,∃ x,(x∈s\/x∈l)/\aHe x y
 | [],s,e,y,hy=>⟨y,.inl hy,rfl,rfl⟩
 | z::l,s,e,y,hy=>by
  rw[aR]at hy
  obtain⟨x,hx,h1,h2⟩:=pW l _ _ y hy
  rcases hx with hx | hx
  · rcases aHQ s z x hx with⟨w,hw,g1,g2⟩ | ⟨g1,g2⟩
    · exact⟨w,.inl hw,g1.trans h1,g2.trans h2⟩
    · exact⟨z,.inr (by simp),g1.trans h1,g2.trans h2⟩
  · exact⟨x,.inr (by simp[hx]),h1,h2⟩
theorem uT:∀ (l s:List QL) (e:Q),∀ x,(x∈s\/x∈l)->∃ y∈(aR l s e).1,aHe x y
 | [],s,e,x,hx=>by
  rcases hx with hx | hx
  · exact⟨x,hx,rfl,rfl⟩
  · cases hx
 | z::l,s,e,x,hx=>by
  rw[aR]
  obtain⟨a1,w,hw,a3⟩:=aKg s z
  rcases hx with hx | hx
  · obtain⟨u,hu,g1,g2⟩:=a1 x hx
    obtain⟨y,hy,h1,h2⟩:=uT l (jS s z).1 (e+(jS s z).2) u (.inl hu)
    exact⟨y,hy,g1.trans h1,g2.trans h2⟩
  · rcases aTf.1 hx with e1 | hx
    · obtain⟨y,hy,h1,h2⟩:=uT l (jS s z).1 (e+(jS s z).2) w (.inl hw)
      exact⟨y,hy,by rw[e1];exact a3.1.trans h1,by rw[e1];exact a3.2.trans h2⟩
    · exact uT l _ _ x (.inr hx)
structure NQ where
 node:Int
 up:Int
 own:List QL
 cond:CQ
 msgs:List QL
 enQ:Q
 den:Nat
def NQ.toN (n:NQ):TreeNode:=⟨n.node,n.up,n.own.map QL.toL,n.cond.toC,n.msgs.map QL.toL,ofQ n.enQ⟩
def upQ (order:List Int)(c:CQ):Int:=aU order (c.ps.map (·.node))
theorem aSW (order:List Int)(c:CQ):upP order c.toC=upQ order c:=by
 unfold upP upQ aFF CQ.toC
 simp only[aUK]
 rfl
def oH (v:Int)(b:List NQ):List QL:=(b.filter (fun n=>decide (n.up=v))).flatMap (·.msgs)
theorem aQP (v:Int):∀ b:List NQ,aAD v (b.map NQ.toN)=(oH v b).map QL.toL
 | []=>rfl
 | n::b=>by
  have ih:=aQP v b
  unfold aAD oH at ih ⊢
  rw[aTo,aTP,aTP]
  by_cases c:n.up=v
  · rw[aTd (show decide ((NQ.toN n).fUp=v)=true from aTg c),aTd (aTg c),aTO,aTO,aUc,ih];rfl
  · rw[aTc (show ¬decide ((NQ.toN n).fUp=v)=true from fun e=>c (aTM e)),aTc (fun e=>c (aTM e)),ih]
def dW {α:Type}(f:α->Nat):List α->Nat
 | []=>1
 | x::l=>f x*dW f l
def aCd (v:Int)(b:List NQ):Nat:=dW (·.den) (b.filter (fun n=>decide (n.up=v)))
def aC9 (order:List Int)(v:Int)(own:List QL)(b:List NQ):NQ :=
 ⟨v,upQ order (rT v (bL v (aR (own++oH v b) [] 0).1)),own,rT v (bL v (aR (own++oH v b) [] 0).1),(aR (iL v (aR (own++oH v b) [] 0).1) [] 0).1,
  (aR (own++oH v b) [] 0).2+(aR (iL v (aR (own++oH v b) [] 0).1) [] 0).2,aCd v b*nm (aCd v b) (sm wt (bL v (aR (own++oH v b) [] 0).1))⟩
theorem aRw {l:List QL}(h:∀ x∈l,x.fit/\x.ok)(hj:aAI l [] 0):jnP (l.map QL.toL)=some ((aR l [] 0).1.map QL.toL,ofQ (aR l [] 0).2)/\(∀ k∈(aR l [] 0).1,k.fit)/\bQ (aR l [] 0).2:=by
 obtain⟨h1,h2,h3⟩:=aOE l [] 0 (fun x hx=>(h x hx).1) (by simp) aDD hj
 refine⟨?_,h2,h3⟩
 unfold jnP
 rw[aTd (fun x hx=>by
  obtain⟨y,hy,rfl⟩:=aTu.1 hx
  exact(aG8 (h y hy).1).2 (h y hy).2),aAo]
 exact h1
def tri (K:Nat):Nat:=K*(K-1) / 2
theorem aDF {K:Nat}(h:K<=6):K*K<=2*tri K+K:=by
 have:∀ K,K<=6->K*K<=2*tri K+K:=by decide
 exact this K h
structure Room (D T K:Nat):Prop where
 k6:K<=6
 d1:72*D<=PP
 c1:10 ^ 8*(T*(D*(72*D) ^ tri K))<BB ^ 24
 c2:K<=2\/(72*(D*(72*D))<=PP/\10 ^ 8*((D*(72*D))*(72*D) ^ tri K*((D*(72*D))*(72*(D*(72*D))) ^ tri (K-1)))<BB ^ 24)
 c3:4*10 ^ 8*(T*((D*(72*D))*(72*D) ^ (K-1)*(72*(D*(72*D))) ^ tri (K-1)))<BB ^ 24
structure Inc (D T X:Nat)(V:List Int)(v:Int)(l:List QL):Prop where
 hD:0<D
 hT:0<T
 hX:X<=400
 h0:0<X
 lk:∀ x∈l,Lk D X x/\inV V x/\Dv T (enQ x)
 hw:sm wt l<=72
 hV:V.Nodup
 hn:∀ u∈V,0<=u/\u<=9
 hv:v∈V
 h1:1<=v
 ex:∃ x∈l,x.a=v\/x.b=v
 room:Room D T V.length
theorem Inc.jn {D T X:Nat}{V:List Int}{v:Int}{l:List QL}(h:Inc D T X V v l):Jn D T X (tri V.length) V :=
 ⟨h.hD,h.room.d1,by have:=h.hX;omega,h.h0,h.hT,h.hV,aDF h.room.k6,h.room.c1⟩
theorem Inc.fo {D T X:Nat}{V:List Int}{v:Int}{l:List QL}(h:Inc D T X V v l):∀ x∈l,x.fit/\x.ok:=fun x hx=>by
 obtain⟨l1,⟨l2,l3,l4⟩,_⟩:=h.lk x hx
 refine⟨aIF h.hD h.room.d1 l1 (by have:=h.hX;omega) h.h0 ?_,h.hn _ l2,h.hn _ l3,l4,l1.sc.1⟩
 have:=wM (fun y hy=>(h.lk y hy).1) hx
 have:=h.hw
 grind
theorem Inc.join {D T X:Nat}{V:List Int}{v:Int}{l:List QL}(h:Inc D T X V v l) :
 aAI l [] 0/\Front D X V v (aR l [] 0).1/\(aR l [] 0).2=sm enQ l-sm enQ (aR l [] 0).1/\sm wt (aR l [] 0).1=sm wt l:=by
 have es:=wG (fun x hx=>(h.lk x hx).1) (by have:=h.hX;omega) h.hw
 have e0:(0:Q)-sm enQ []=0:=by simp only[sm];grind
 have g:=aDo h.jn l [] 0 h.lk (by simp) List.Pairwise.nil (by simp only[sm];have:=h.hw;grind) ⟨0,by simp⟩ (by grind) (by have:=es.2;grind)
 rw[e0]at g
 obtain⟨g1,g2,g3,g4,g5⟩:=g
 have g5':sm wt (aR l [] 0).1=sm wt l:=by rw[g5];simp only[sm];grind
 refine⟨g1,⟨h.hD,h.room.d1,h.hX,h.h0,g2,g3,by rw[g5'];exact h.hw,h.hV,h.hn,h.hv,h.h1,?_⟩,by rw[g4];grind,g5'⟩
 obtain⟨x,hx,ht⟩:=h.ex
 obtain⟨y,hy,p1,p2⟩:=uT l [] 0 x (.inr hx)
 have:aA9 v y∈bL v (aR l [] 0).1:=wC.2 ⟨y,hy,by rw[<- p1,<- p2];exact ht,rfl⟩
 intro e
 rw[e]at this;cases this
theorem Front.nextIn {D T X:Nat}{V:List Int}{v:Int}{s:List QL}(h:Front D X V v s)(r:Room D T V.length) :
 aAI (iL v s) [] 0/\(∀ x∈(aR (iL v s) [] 0).1,Lk (D*nm D (sm wt (bL v s))) (2*X) x/\inV (V.erase v) x)/\(aR (iL v s) [] 0).1.Pairwise cU/\
  (aR (iL v s) [] 0).2=sm enQ (iL v s)-sm enQ (aR (iL v s) [] 0).1/\sm wt (aR (iL v s) [] 0).1=sm wt (iL v s):=by
 obtain⟨n1,n2⟩:=h.next rfl
 have hl:=List.length_erase_of_mem h.hv
 have hVe:=h.hV.erase v
 by_cases c:V.length<=2
 · have e:iL v s=[]:=by
    rw[aU7]
    intro x hx
    obtain⟨i1,i2,i3⟩:=(n1 x hx).2.1
    have:(V.erase v).length<=1:=by omega
    have:=(aUe.2 ⟨by simp;omega,aUe.2 ⟨by simp,List.nodup_nil⟩⟩:([x.a,x.b]:List Int).Nodup).length_le_of_subset (l₂:=V.erase v) (fun z hz=>by
     simp only[aTf,aVc,or_false]at hz
     rcases hz with rfl | rfl
     · exact i1
     · exact i2)
    simp at this;omega
   rw[e]
   refine⟨trivial,by simp[aR],by simp[aR],by simp only[aR,sm];grind,by simp only[aR,sm]⟩
 · obtain⟨r1,r2⟩:=r.c2.resolve_left c
   have ha:=h.arms
   obtain⟨a1,a2⟩:=ha.nN
   have hDN:D*nm D (sm wt (bL v s))<=D*(72*D):=aTA _ a2
   have hT:0<D*nm D (sm wt (bL v s))*pn D s:=aTW (aTW h.hD a1) (aDP h.hD fun x hx=>(h.lk x hx).1.sc)
   have hps:pn D s<=(72*D) ^ tri V.length:=by
    have l1:=aEU h.hV h.ord (fun x hx=>(h.lk x hx).2)
    have l2:=aDF r.k6
    have l3:=aHp (W:=72) h.hD (fun x hx=>(h.lk x hx).1.sc) (fun x hx=>by
     have:=wM (fun y hy=>(h.lk y hy).1) hx
     have:=h.hw
     show x.w<=72;grind)
    have hD:=h.hD
    exact aTr l3 (aT4 (by omega) (by omega))
   have jn:Jn (D*nm D (sm wt (bL v s))) (D*nm D (sm wt (bL v s))*pn D s) (2*X) (tri (V.length-1)) (V.erase v):=by
    refine⟨aTW h.hD a1,aTr (aTA _ hDN) r1,by have:=h.hX;omega,by have:=h.h0;omega,hT,hVe,?_,?_⟩
    · rw[hl];exact aDF (by have:=r.k6;omega)
    · refine aUu (aTA _ (aTK (aTK hDN hps) (aTK hDN (aUN (aTA _ hDN) _)))) r2
   have hw:sm wt (iL v s)<=72:=by have:=h.hw;grind
   have es:=wG (fun x hx=>(n1 x hx).1) (by have:=h.hX;omega) hw
   have e0:(0:Q)-sm enQ []=0:=by simp only[sm];grind
   have g:=aDo jn (iL v s) [] 0 (fun x hx=>⟨(n1 x hx).1,(n1 x hx).2.1,(n1 x hx).2.2.1⟩) (by simp) List.Pairwise.nil (by simp only[sm];grind) ⟨0,by simp⟩ (by grind) (by have:=es.2;grind)
   rw[e0]at g
   obtain⟨g1,g2,g3,g4,g5⟩:=g
   exact⟨g1,g2,g3,by rw[g4];grind,by rw[g5];simp only[sm];grind⟩
/- A node of a tree: the program computes what is computed over the rational numbers. -/
theorem Front.restLk {D X:Nat}{V:List Int}{v:Int}{s:List QL}(h:Front D X V v s):∀ x∈uF v s,Lk D X x:=fun x hx=>(h.lk x (aAe.1 hx).1).1
theorem Front.armLen {D X:Nat}{V:List Int}{v:Int}{s:List QL}(h:Front D X V v s):(bL v s).length<=V.length-1:=by
 have ha:=h.arms
 have n:((bL v s).map fun x=>x.a).Nodup:=by
  rw[List.Nodup,aUC]
  exact ha.inc.imp fun {x y} hxy e=>by omega
 have:=n.length_le_of_subset (l₂:=V.erase v) (fun z hz=>by
  obtain⟨x,hx,rfl⟩:=aTu.1 hz
  exact(h.hV.mem_erase_iff).2 ⟨(h.armV x hx).2,(h.armV x hx).1⟩)
 rw[aTs,List.length_erase_of_mem h.hv]at this
 exact this
theorem Front.sumFits {D T X:Nat}{V:List Int}{v:Int}{s:List QL}(h:Front D X V v s)(r:Room D T V.length)(hT:0<T){q:Q}(hq:Dv T q)(h0:0<=q)(hq2:q<=((10 ^ 8:Nat):Q)) :
 bQ ((q-sm enQ s)+(aR (iL v s) [] 0).2):=by
 obtain⟨g1,g2,g3,g4,g5⟩:=h.nextIn r
 obtain⟨n1,n2⟩:=h.next rfl
 have ha:=h.arms
 obtain⟨a1,a2⟩:=ha.nN
 have hDN:D*nm D (sm wt (bL v s))<=D*(72*D):=aTA _ a2
 have hD':0<D*nm D (sm wt (bL v s)):=aTW h.hD a1
 have hw:=h.hw
 have hX:=h.hX
 have hD:=h.hD
 have es:=aBg enQ v (fun l=>aQn v l) s
 have ew:=aBg wt v (fun l=>aDx v l) s
 have wr:=kU h.restLk
 have wa:=kU h.armLk
 have en1:sm enQ (iL v s)=sm enQ (uF v s)+sm enQ (mO (sm wt (bL v s)) (bL v s)):=pP _ _ _
 have mk:∀ z∈mO (sm wt (bL v s)) (bL v s),Lk (D*nm D (sm wt (bL v s))) (2*X) z:=fun z hz=>(ha.each hz).2.2.1
 have wm:=ha.mesh_le
 obtain⟨b1,b2⟩:=wG h.armLk (by omega) ha.hw
 obtain⟨b3,b4⟩:=wG mk (by omega) (by have:=ha.hw;grind)
 obtain⟨b5,b6⟩:=wG (fun x hx=>(g2 x hx).1) (by omega) (by rw[g5];grind)
 have e:(q-sm enQ s)+(aR (iL v s) [] 0).2=q-sm enQ (bL v s)+sm enQ (mO (sm wt (bL v s)) (bL v s))-sm enQ (aR (iL v s) [] 0).1:=by
  rw[g4,en1,es];grind
 have d1:Dv (D*nm D (sm wt (bL v s))*pn D (bL v s)) (sm enQ (bL v s)):=by
  refine vD (aGD h.hD fun x hx=>(h.armLk x hx).sc) ?_
  rw[Nat.mul_right_comm]
  exact aVt _ _
 have d2:Dv (D*nm D (sm wt (bL v s))*pn D (bL v s)) (sm enQ (mO (sm wt (bL v s)) (bL v s))):=aKl fun z hz=>(ha.each hz).2.2.2.1
 have d3:Dv (D*nm D (sm wt (bL v s))*pn (D*nm D (sm wt (bL v s))) (aR (iL v s) [] 0).1) (sm enQ (aR (iL v s) [] 0).1):=aGD hD' fun x hx=>(g2 x hx).1.sc
 have d1':=rV (pn (D*nm D (sm wt (bL v s))) (aR (iL v s) [] 0).1) d1
 have d2':=rV (pn (D*nm D (sm wt (bL v s))) (aR (iL v s) [] 0).1) d2
 have d3':=rV (pn D (bL v s)) d3
 rw[Nat.mul_right_comm]at d3'
 have up:∀ {U:Nat} {p:Q},Dv U p->Dv (T*U) p:=fun hp=>by rw[aTR];exact rV T hp
 have d:=zW (kS (zW (rV (D*nm D (sm wt (bL v s))*pn D (bL v s)*pn (D*nm D (sm wt (bL v s))) (aR (iL v s) [] 0).1) hq) (up d1')) (up d2')) (up d3')
 rw[e]
 have p1:pn D (bL v s)<=(72*D) ^ (V.length-1):=aTr (aHp (W:=72) h.hD (fun x hx=>(h.armLk x hx).sc) (fun x hx=>ha.le hx)) (aT4 (by omega) h.armLen)
 have p2:pn (D*nm D (sm wt (bL v s))) (aR (iL v s) [] 0).1<=(72*(D*(72*D))) ^ tri (V.length-1):=by
  have l1:=aEU (h.hV.erase v) g3 (fun x hx=>(g2 x hx).2)
  rw[List.length_erase_of_mem h.hv]at l1
  have l2:=aDF (K:=V.length-1) (by have:=r.k6;omega)
  have l3:=aHp (W:=72) hD' (fun x hx=>(g2 x hx).1.sc) (fun x hx=>by
   have:=wM (fun y hy=>(g2 y hy).1) hx
   show x.w<=72;grind)
  exact aTr l3 (aTr (aT4 (by omega) (by omega)) (aUN (aTA _ hDN) _))
 have q1:0<pn D (bL v s):=aDP h.hD fun x hx=>(h.armLk x hx).sc
 have q2:0<pn (D*nm D (sm wt (bL v s))) (aR (iL v s) [] 0).1:=aDP hD' fun x hx=>(g2 x hx).1.sc
 have c4:((4*10 ^ 8:Nat):Q)=4*((10 ^ 8:Nat):Q):=aUi 4 (10 ^ 8)
 have c5:=sG (10 ^ 8)
 refine aDr (B:=4*10 ^ 8) (aTW hT (aTW (aTW hD' q1) q2)) d ?_ ?_ (by omega) (aUu (aTA _ (aTA T (aTK (aTK hDN p1) p2))) r.c3)
 · rw[c4];grind
 · rw[c4];grind
theorem aOk {order:List Int}{v:Int}{own:List QL}{b:List NQ}{T X:Nat}{V:List Int}(h:Inc (aCd v b) T X V v (own++oH v b)) :
 rJ order v (own.map QL.toL) (b.map NQ.toN)=some (aC9 order v own b).toN/\bQ (aC9 order v own b).enQ/\0<(aC9 order v own b).den/\(aC9 order v own b).den<=aCd v b*(72*aCd v b)/\
 (∀ x∈(aC9 order v own b).msgs,Lk (aC9 order v own b).den (2*X) x/\inV (V.erase v) x)/\(aC9 order v own b).msgs.Pairwise cU/\sm wt (aC9 order v own b).msgs<=sm wt (own++oH v b):=by
 obtain⟨j1,j2,j3,j4⟩:=h.join
 obtain⟨g1,g2,g3,g4,g5⟩:=j2.nextIn h.room
 obtain⟨n1,n2⟩:=j2.next rfl
 have ha:=j2.arms
 obtain⟨a1,a2⟩:=ha.nN
 obtain⟨e1,f1,f2⟩:=aRw h.fo j1
 have e2:=aRF f1 ha
 obtain⟨e3,f3,f4⟩:=aRw (fun x hx=>⟨(n1 x hx).2.2.2.1,(n1 x hx).2.2.2.2⟩) g1
 obtain⟨s1,s2⟩:=wG (fun x hx=>(h.lk x hx).1) (by have:=h.hX;omega) h.hw
 have f5:=j2.sumFits h.room h.hT (aKl fun x hx=>(h.lk x hx).2.2) s1 s2
 rw[<- j3]at f5
 refine⟨?_,f5,aTW h.hD a1,aTA _ a2,g2,g3,?_⟩
 · unfold rJ
   rw[aQP,<- aUc,e1]
   simp only[aTb]
   unfold aDL
   rw[e2]
   simp only[aTb]
   rw[aNR,<- aUc]
   have e4:uF v (aR (own++oH v b) [] 0).1++mO (sm wt (bL v (aR (own++oH v b) [] 0).1)) (bL v (aR (own++oH v b) [] 0).1)=iL v (aR (own++oH v b) [] 0).1:=rfl
   rw[e4,e3]
   simp only[aV4,aTb]
   rw[aGG f2 f4 f5,aTd (qT f5),aSW]
   rfl
 · show sm wt (aR (iL v (aR (own++oH v b) [] 0).1) [] 0).1<=_
   rw[g5,<- j4]
   exact n2
/- First in an order; products; room by numbers. -/
theorem aDs {o s:List Int}(h1:∀ u∈o,1<=u):(aU o s=0/\∀ u∈o,u∉s)\/∃ p v r,o=p++v::r/\aU o s=v/\v∈s/\∀ u∈p,u∉s:=by
 unfold aU
 cases h:o.find? (fun u=>decide (u∈s))with
 | none =>
  refine .inl ⟨rfl,fun u hu hs=>?_⟩
  have:=List.find?_eq_none.1 h u hu
  simp[hs]at this
 | some v =>
  obtain⟨hv,p,r,e,hp⟩:=List.find?_eq_some_iff_append.1 h
  exact .inr ⟨p,v,r,e,rfl,aTM hv,fun u hu hs=>by have:=hp u hu;simp[hs]at this⟩
theorem aHH {p r s:List Int}(h:∀ u∈p,u∉s):aU (p++r) s=aU r s:=by
 unfold aU
 rw[List.find?_append]
 have:p.find? (fun u=>decide (u∈s))=none:=List.find?_eq_none.2 fun u hu=>by simp[h u hu]
 rw[this];rfl
theorem aOV {v:Int}{r s:List Int}(h:v∈s):aU (v::r) s=v:=by
 unfold aU
 rw[aVI]
 simp[h]
theorem yB {p r s:List Int}{v:Int}(hn:(p++v::r).Nodup)(h1:∀ u∈p++v::r,1<=u):aU (p++v::r) s=v↔v∈s/\∀ u∈p,u∉s:=by
 constructor
 · intro h
   rcases aDs (s:=s) h1 with⟨h2,h3⟩ | ⟨p',v',r',e,h2,h3,h4⟩
   · have:=h1 v (by simp);omega
   · rw[h]at h2
     subst h2
     have hp:p=p':=by
      have n2:=hn
      rw[e]at n2
      have a1:=aTw.1 hn
      have a2:=aTw.1 n2
      have b1:v∉p:=fun hv=>a1.2.2 v hv v (by simp) rfl
      have b2:v∉p':=fun hv=>a2.2.2 v hv v (by simp) rfl
      have c1:(p++v::r).takeWhile (fun u=>decide (u≠v))=p:=by
       rw[List.takeWhile_append_of_pos (fun u hu=>by have:u≠v:=fun e=>b1 (e▸hu);simpa using this)]
       simp
      have c2:(p'++v::r').takeWhile (fun u=>decide (u≠v))=p':=by
       rw[List.takeWhile_append_of_pos (fun u hu=>by have:u≠v:=fun e=>b2 (e▸hu);simpa using this)]
       simp
      rw[<- c1,e,c2]
     subst hp
     exact⟨h3,h4⟩
 · rintro⟨h2,h3⟩
   rw[aHH h3,aOV h2]
theorem aJY {p r s:List Int}(h1:∀ u∈p++r,1<=u)(h:∀ u∈p,u∉s):(aU (p++r) s=0/\∀ u∈r,u∉s)\/(aU (p++r) s∈r/\aU (p++r) s∈s):=by
 rw[aHH h]
 rcases aDs (s:=s) (fun u hu=>h1 u (aT7 p hu))with h | ⟨p',v,r',e,h2,h3,_⟩
 · exact .inl h
 · exact .inr (by rw[h2];exact⟨by rw[e];simp,h3⟩)
theorem aAd {α:Type}{f:α->Nat}:∀ {l:List α},(∀ x∈l,0<f x)->0<dW f l
 | [],_=>by simp[dW]
 | x::l,h=>aTW (h x (by simp)) (aAd fun y hy=>h y (by simp[hy]))
theorem aDN {α:Type}{f:α->Nat}:∀ {l:List α} {x:α},x∈l->f x∣dW f l
 | y::l,x,h=>by
  rw[dW]
  rcases aTf.1 h with rfl | h
  · exact aVt _ _
  · exact aVC (aDN h) (aUT _ _)
theorem aHo {α:Type}(f:α->Nat):∀ a b:List α,dW f (a++b)=dW f a*dW f b
 | [],b=>by simp[dW]
 | x::a,b=>by rw[aTm,dW,dW,aHo f a b,aT3]
theorem aJp {α:Type}{f g:α->Nat}:∀ {l:List α},(∀ x∈l,f x<=g x)->dW f l<=dW g l
 | [],_=>aTn _
 | x::l,h=>aTK (h x (by simp)) (aJp fun y hy=>h y (by simp[hy]))
theorem aHn {α:Type}(f:α->Nat)(k:Nat):∀ l:List α,dW (fun x=>f x ^ k) l=dW f l ^ k
 | []=>by simp[dW]
 | x::l=>by rw[dW,dW,aHn f k l,Nat.mul_pow]
theorem aC4 {α:Type}(f:α->Nat):∀ l:List α,l≠[]->72*dW f l<=dW (fun x=>72*f x) l
 | [x],_=>by simp[dW]
 | x::y::l,_=>by
  have:=aC4 f (y::l) (by simp)
  rw[dW,dW,<- aT3]
  refine aTA _ (aTr ?_ this)
  exact Nat.le_mul_of_pos_left _ (by omega)
theorem aEf {α:Type}(f:α->Nat)(p:α->Bool):∀ l:List α,dW f l=dW f (l.filter p)*dW f (l.filter fun x=>!p x)
 | []=>rfl
 | x::l=>by
  rw[aTP,aTP,dW,aEf f p l]
  cases p x
  · simp only[aTk,aTD,aVy,aTz,dW]
    rw[aVs]
  · simp only[aTz,aUh,aTk,aTD,dW,aT3]
def ex (k:Nat):Nat:=72 ^ 2 ^ k
theorem aNs:∀ a b:Nat,a<=b->b<=6->tri a<=tri b:=by
 have:∀ b,b<=6->∀ a,a<=b->tri a<=tri b:=by decide
 exact fun a b h g=>this b g a h
theorem aPU {D T K k:Nat}(hD:0<D)(hk:K+k<=6)(hK:2<=K)(h1:72*D<=ex k)(h2:T<=ex k ^ (tri K+1)):Room D T K:=by
 have hF:0<ex k:=by unfold ex;exact Nat.pow_pos (by omega)
 have hk4:k<=4:=by omega
 have k6:K<=6:=by omega
 have d0:D<=ex k:=by omega
 have m1:72*(D*(72*D))<=ex k*ex k:=by rw[<- aT3];exact aTK h1 h1
 have m2:D*(72*D)<=ex k*ex k:=aTK d0 h1
 have e1:T*(D*(72*D) ^ tri K)<=ex k ^ (tri K+1)*(ex k*ex k ^ tri K):=aTK h2 (aTK d0 (aUN h1 _))
 have e2:(D*(72*D))*(72*D) ^ tri K*((D*(72*D))*(72*(D*(72*D))) ^ tri (K-1))<=(ex k*ex k)*ex k ^ tri K*((ex k*ex k)*(ex k*ex k) ^ tri (K-1)) :=
  aTK (aTK m2 (aUN h1 _)) (aTK m2 (aUN m1 _))
 have e3:T*((D*(72*D))*(72*D) ^ (K-1)*(72*(D*(72*D))) ^ tri (K-1))<=ex k ^ (tri K+1)*((ex k*ex k)*ex k ^ (K-1)*(ex k*ex k) ^ tri (K-1)) :=
  aTK h2 (aTK (aTK m2 (aUN h1 _)) (aUN m1 _))
 have num:∀ k,k<=4->∀ K,K<=6-k->2<=K->ex k<=PP/\10 ^ 8*(ex k ^ (tri K+1)*(ex k*ex k ^ tri K))<10 ^ 216/\(K<=2\/(ex k*ex k<=PP/\10 ^ 8*((ex k*ex k)*ex k ^ tri K*((ex k*ex k)*(ex k*ex k) ^ tri (K-1)))<10 ^ 216))/\4*10 ^ 8*(ex k ^ (tri K+1)*((ex k*ex k)*ex k ^ (K-1)*(ex k*ex k) ^ tri (K-1)))<10 ^ 216:=by
  unfold ex PP;decide
 obtain⟨n1,n2,n3,n4⟩:=num k hk4 K (by omega) hK
 rw[<- aLB]at n2 n3 n4
 refine⟨k6,aTr h1 n1,aUu (aTA _ e1) n2,?_,aUu (aTA _ e3) n4⟩
 rcases n3 with n3 | ⟨n3,n5⟩
 · exact .inl n3
 · exact .inr ⟨aTr m1 n3,aUu (aTA _ e2) n5⟩
/- Trees over the rational numbers: the front of the next node. -/
def pD (o:List Int)(v:Int)(x:QL):Bool:=decide (aU o [x.a,x.b]=v)
def psN (c:CQ):List Int:=c.ps.map (·.node)
structure Base (l:List QL)(o:List Int):Prop where
 nd:o.Nodup
 h1:∀ u∈o,1<=u/\u<=9
 len:o.length<=5
 lk:∀ x∈l,Lk 1 20 x/\inV (0::o) x/\Dv 1 (enQ x)
 hw:sm wt l<=72
def sI (rem:List Int)(c:NQ):Bool:=decide (c.up∈rem)
def kid (v:Int)(c:NQ):Bool:=decide (c.up=v)
def ex' (k:Nat):Nat:=if k=0 then 1 else ex k
theorem aK4 (k:Nat):ex' k<=ex k:=by
 unfold ex'
 split
 · exact Nat.pow_pos (by omega)
 · exact aTn _
def aNj (l:List QL)(o rem:List Int)(b:List NQ)(u w:Int):Prop :=
 (∃ x∈l,aU o [x.a,x.b]∈rem/\((x.a=u/\x.b=w)\/(x.a=w/\x.b=u)))\/∃ c∈b,c.up∈rem/\u∈psN c.cond/\w∈psN c.cond
def kF (b:List NQ):List QL:=b.flatMap (·.msgs)
structure TInv (l:List QL)(o pre rem:List Int)(b:List NQ):Prop where
 split:o=pre++rem
 len:b.length=pre.length
 den:∀ c∈b,c.up∈rem->0<c.den
 msg:∀ c∈b,c.up∈rem->(∀ x∈c.msgs,Lk c.den (20*2 ^ b.length) x)/\c.msgs.Pairwise cU
 ps:∀ c∈b,c.up∈rem->(∀ u∈psN c.cond,u∈0::rem)/\c.up=aU o (psN c.cond)/\(∀ x∈c.msgs,x.a∈psN c.cond/\x.b∈psN c.cond/\x.a<x.b)/\∀ u∈psN c.cond,∀ w∈psN c.cond,u<w->∃ x∈c.msgs,x.a=u/\x.b=w
 prod:dW (fun c:NQ=>72*c.den) (b.filter (sI rem))<=ex' b.length
 wtt:sm wt (kF (b.filter (sI rem)))+sm wt (l.filter fun x=>decide (aU o [x.a,x.b]∈rem))<=72
 cut:∀ S:Int->Prop,(∃ u∈rem,S u)->¬S 0->∃ u w,S u/\¬S w/\aNj l o rem b u w
theorem aHG {pre rem s:List Int}(hn:(pre++rem).Nodup)(h1:∀ u∈pre++rem,1<=u)(h:aU (pre++rem) s∈rem):∀ u∈pre,u∉s:=by
 obtain⟨r1,r2,e⟩:=List.append_of_mem h
 have e2:pre++rem=(pre++r1)++aU (pre++rem) s::r2:=(congrArg (pre++·) e).trans (aTx pre r1 _).symm
 generalize hw:aU (pre++rem) s=w at e e2
 rw[e2]at hw hn h1
 have:=(yB hn h1).1 hw
 exact fun u hu=>this.2 u (aT5 _ hu)
theorem aCW (f:QL->Q)(p:QL->Bool):∀ l:List QL,sm f l=sm f (l.filter p)+sm f (l.filter fun x=>!p x)
 | []=>by simp only[aUY,sm];grind
 | x::l=>by
  have ih:=aCW f p l
  rw[aTP,aTP,sm]
  cases p x
  · simp only[aTk,aTD,aVy,aTz,sm];grind
  · simp only[aTz,aUh,aTk,aTD,sm];grind
theorem aCG (f:QL->Q)(p:NQ->Bool):∀ b:List NQ,sm f (kF b)=sm f (kF (b.filter p))+sm f (kF (b.filter fun x=>!p x))
 | []=>by simp only[kF,aUY,aUM,sm];grind
 | x::b=>by
  have ih:=aCG f p b
  unfold kF at ih ⊢
  rw[aTP,aTP,aTO,pP,ih]
  cases p x
  · simp only[aTk,aTD,aVy,aTz,aTO,pP];grind
  · simp only[aTz,aUh,aTk,aTD,aTO,pP];grind
theorem aF9 {v:Int}{r:List Int}(b:List NQ):(b.filter (sI (v::r))).filter (kid v)=b.filter (kid v):=by
 rw[aUv]
 refine aUO fun c _=>?_
 unfold sI kid
 by_cases e:c.up=v <;> simp[e]
theorem aDW {v:Int}{r:List Int}(hv:v∉r)(b:List NQ):(b.filter (sI (v::r))).filter (fun c=>!kid v c)=b.filter (sI r):=by
 rw[aUv]
 refine aUO fun c _=>?_
 unfold sI kid
 by_cases e:c.up=v
 · simp[e,hv]
 · simp[e]
theorem aML {v:Int}{r o:List Int}(hv:v∉r)(l:List QL):sm wt (l.filter fun x=>decide (aU o [x.a,x.b]∈v::r))=sm wt (l.filter (pD o v))+sm wt (l.filter fun x=>decide (aU o [x.a,x.b]∈r)):=by
 rw[aCW wt (pD o v),aUv,aUv]
 congr 2
 · refine aUO fun x _=>?_
   unfold pD
   by_cases e:aU o [x.a,x.b]=v <;> simp[e]
 · refine aUO fun x _=>?_
   unfold pD
   by_cases e:aU o [x.a,x.b]=v
   · simp[e,hv]
   · simp[e]
/- Trees over the rational numbers: what comes into the next front. -/
theorem aC7 {pre r:List Int}{v:Int}(hn:(pre++v::r).Nodup)(h1:∀ u∈pre++v::r,1<=u){x:QL}:pD (pre++v::r) v x=true↔(x.a=v\/x.b=v)/\x.a∉pre/\x.b∉pre:=by
 unfold pD
 rw[aUs,yB hn h1]
 simp only[aTf,aVc,or_false]
 constructor
 · rintro⟨h2,h3⟩
   exact⟨by rcases h2 with h | h <;> simp[h],fun h=>h3 _ h (.inl rfl),fun h=>h3 _ h (.inr rfl)⟩
 · rintro⟨h2,h3,h4⟩
   refine⟨by rcases h2 with h | h <;> simp[h],fun u hu hh=>?_⟩
   rcases hh with rfl | rfl
   · exact h3 hu
   · exact h4 hu
theorem aRM {pre rem:List Int}{x:QL}(hv:inV (0::(pre++rem)) x)(h:∀ u∈pre,u∉[x.a,x.b]):inV (0::rem) x:=by
 obtain⟨h1,h2,h3⟩:=hv
 have key:∀ u,u∈[x.a,x.b]->u∈0::(pre++rem)->u∈0::rem:=by
  intro u hu hm
  simp only[aTf,aTj]at hm ⊢
  rcases hm with h4 | h4 | h4
  · exact .inl h4
  · exact absurd hu (h u h4)
  · exact .inr h4
 exact⟨key _ (by simp) h1,key _ (by simp) h2,h3⟩
section
variable {l:List QL}{o pre r:List Int}{v:Int}{b:List NQ}
theorem TInv.facts (hb:Base l o)(hi:TInv l o pre (v::r) b):(pre++v::r).Nodup/\(∀ u∈pre++v::r,1<=u)/\v∉r/\1<=v/\v<=9/\r.length+1+b.length<=5/\(0::v::r).Nodup/\∀ u∈0::v::r,0<=u/\u<=9:=by
 have e:=hi.split
 have n:=hb.nd
 have h1:=hb.h1
 have len:=hb.len
 rw[e]at n h1 len
 have n2:=(aTw.1 n).2.1
 have a1:=h1 v (by simp)
 have hr:∀ u∈v::r,1<=u/\u<=9:=fun u hu=>h1 u (aT7 _ hu)
 refine⟨n,fun u hu=>(h1 u hu).1,(aUe.1 n2).1,a1.1,a1.2,?_,aUe.2 ⟨fun h=>?_,n2⟩,fun u hu=>?_⟩
 · have:=hi.len
   simp only[aTF,aTG]at len
   omega
 · have:=hr 0 h;omega
 · rcases aTf.1 hu with rfl | hu
   · omega
   · have:=hr u hu;omega
theorem xM {x:QL}:x∈oH v b↔∃ c∈b,c.up=v/\x∈c.msgs:=by
 unfold oH
 rw[aU0]
 constructor
 · rintro⟨c,hc,hx⟩
   rw[aTI,aUs]at hc
   exact⟨c,hc.1,hc.2,hx⟩
 · rintro⟨c,hc,h,hx⟩
   exact⟨c,aTI.2 ⟨hc,aTg h⟩,hx⟩
theorem TInv.kids (hi:TInv l o pre (v::r) b):dW (fun c:NQ=>72*c.den) (b.filter (kid v))*dW (fun c:NQ=>72*c.den) (b.filter fun c=>sI (v::r) c&&!kid v c)<=ex' b.length/\0<dW (fun c:NQ=>72*c.den) (b.filter fun c=>sI (v::r) c&&!kid v c)/\0<dW (fun c:NQ=>72*c.den) (b.filter (kid v)):=by
 have h:=hi.prod
 rw[aEf _ (kid v),aF9,aUv]at h
 have e:(fun a=>!kid v a&&sI (v::r) a)=fun c=>sI (v::r) c&&!kid v c:=by funext c;rw[Bool.and_comm]
 rw[e]at h
 refine⟨h,aAd fun c hc=>?_,aAd fun c hc=>?_⟩
 · rw[aTI,aTB]at hc
   have:=hi.den c hc.1 (aTM hc.2.1)
   omega
 · rw[aTI]at hc
   have hu:=aTM hc.2
   have:=hi.den c hc.1 (by rw[hu];simp)
   omega
theorem aHX (hi:TInv l o pre (v::r) b)(hb:Base l o):sm wt (l.filter (pD o v)++oH v b)+(sm wt (kF (b.filter (sI r)))+sm wt (l.filter fun x=>decide (aU o [x.a,x.b]∈r)))<=72/\
 (∀ c∈b,c.up∈v::r->∀ x∈c.msgs,x.w<=72):=by
 obtain⟨n,h1,hv,_⟩:=hi.facts hb
 have h:=hi.wtt
 have h0:=h
 rw[aCG wt (kid v),aF9,aDW hv,aML hv]at h
 rw[pP]
 have e:kF (b.filter (kid v))=oH v b:=rfl
 rw[e]at h
 refine⟨by grind,fun c hc hu x hx=>?_⟩
 have hm:x∈kF (b.filter (sI (v::r))):=aU0.2 ⟨c,aTI.2 ⟨hc,aTg hu⟩,hx⟩
 have nn:∀ y∈kF (b.filter (sI (v::r))),0<=wt y:=by
  intro y hy
  obtain⟨d,hd,hy⟩:=aU0.1 hy
  rw[aTI]at hd
  have:=((hi.msg d hd.1 (aTM hd.2)).1 y hy).sc.1
  unfold wt;grind
 have h2:=aKy nn x hm
 have h3:0<=sm wt (l.filter fun x=>decide (aU o [x.a,x.b]∈v::r)):=kU fun y hy=>(hb.lk y (aTI.1 hy).1).1
 have e2:wt x=x.w:=rfl
 grind
theorem aMf (hb:Base l o)(hi:TInv l o pre (v::r) b){c:NQ}(hc:c∈b)(hu:c.up=v):0<c.den*pn c.den c.msgs/\c.den*pn c.den c.msgs<=(72*c.den) ^ (tri (r.length+2)+1):=by
 obtain⟨n,h1,hv,_,_,hl,nV,hV⟩:=hi.facts hb
 have hu':c.up∈v::r:=by rw[hu];simp
 obtain⟨m1,m2⟩:=hi.msg c hc hu'
 obtain⟨p1,p2,p3,p4⟩:=hi.ps c hc hu'
 have hd:=hi.den c hc hu'
 have l1:=aEU nV m2 (fun x hx=>⟨p1 _ (p3 x hx).1,p1 _ (p3 x hx).2.1,(p3 x hx).2.2⟩)
 have eV:(0::v::r).length=r.length+2:=rfl
 rw[eV]at l1
 have l2:=aDF (K:=r.length+2) (by omega)
 have l3:=aHp (W:=72) hd (fun x hx=>(m1 x hx).sc) (fun x hx=>(aHX hi hb).2 c hc hu' x hx)
 refine⟨aTW hd (aDP hd fun x hx=>(m1 x hx).sc),?_⟩
 rw[aUw,aTR ((72*c.den) ^ _)]
 exact aTK (by omega) (aTr l3 (aT4 (by omega) (by omega)))
theorem TInv.inc (hb:Base l o)(hi:TInv l o pre (v::r) b) :
 Inc (aCd v b) (dW (fun c:NQ=>c.den*pn c.den c.msgs) (b.filter (kid v))) (20*2 ^ b.length) (0::v::r) v (l.filter (pD o v)++oH v b):=by
 obtain⟨n,h1,hv,v1,v9,hl,nV,hV⟩:=hi.facts hb
 have kd:∀ c∈b.filter (kid v),c∈b/\c.up=v/\c.up∈v::r:=fun c hc=>by
  rw[aTI]at hc
  have:=aTM hc.2
  exact⟨hc.1,this,by rw[this];simp⟩
 have hD:0<aCd v b:=aAd fun c hc=>hi.den c (kd c hc).1 (kd c hc).2.2
 obtain⟨k1,k2,k3⟩:=hi.kids
 have hH:dW (fun c:NQ=>72*c.den) (b.filter (kid v))<=ex b.length:=aTr (aTr (aUF _ k2) k1) (aK4 _)
 have ex72:72<=ex b.length:=by
  unfold ex
  have:1<=2 ^ b.length:=Nat.one_le_two_pow
  calc 72=72 ^ 1:=rfl
   _<=_:=aT4 (by omega) this
 have hX:20*2 ^ b.length<=20*2 ^ 4:=aTA _ (aT4 (by omega) (by omega))
 refine⟨hD,aAd fun c hc=>(aMf hb hi (kd c hc).1 (kd c hc).2.1).1,by omega,aTW (by omega) (Nat.pow_pos (by omega)),?_,?_,nV,hV,by simp,v1,?_,?_⟩
 · intro x hx
   rcases aTj.1 hx with hx | hx
   · rw[aTI]at hx
     obtain⟨l1,l2,l3⟩:=hb.lk x hx.1
     refine⟨aMu l1 (Nat.one_dvd _) (by have:1<=2 ^ b.length:=Nat.one_le_two_pow;omega),?_,vD l3 (Nat.one_dvd _)⟩
     have e:=hi.split
     rw[e]at l2 hx
     obtain⟨_,a2,a3⟩:=(aC7 n h1).1 hx.2
     refine aRM l2 fun u hu hm=>?_
     simp only[aTf,aVc,or_false]at hm
     rcases hm with rfl | rfl
     · exact a2 hu
     · exact a3 hu
   · obtain⟨c,hc,hu,hx⟩:=xM.1 hx
     have hk:c∈b.filter (kid v):=aTI.2 ⟨hc,aTg hu⟩
     have hu':c.up∈v::r:=by rw[hu];simp
     have hd:=hi.den c hc hu'
     obtain⟨m1,m2⟩:=hi.msg c hc hu'
     obtain⟨p1,p2,p3,p4⟩:=hi.ps c hc hu'
     refine⟨aMu (m1 x hx) (aDN (f:=fun c:NQ=>c.den) hk) (aTn _),⟨p1 _ (p3 x hx).1,p1 _ (p3 x hx).2.1,(p3 x hx).2.2⟩,?_⟩
     exact vD (aMq hd (m1 x hx).sc) (aVC (aU4 _ (aIr _ x hx)) (aDN (f:=fun c:NQ=>c.den*pn c.den c.msgs) hk))
 · have:=(aHX hi hb).1
   have a1:0<=sm wt (l.filter fun x=>decide (aU o [x.a,x.b]∈r)):=kU fun y hy=>(hb.lk y (aTI.1 hy).1).1
   have a2:0<=sm wt (kF (b.filter (sI r))):=by
    refine kY fun y hy=>?_
    obtain⟨d,hd,hy⟩:=aU0.1 hy
    rw[aTI]at hd
    have:=((hi.msg d hd.1 (aTT v (aTM hd.2))).1 y hy).sc.1
    unfold wt;grind
   grind
 · obtain⟨u,w,s1,s2,adj⟩:=hi.cut (fun u=>u=v) ⟨v,by simp,rfl⟩ (by omega)
   subst s1
   rcases adj with⟨x,hx,hf,hp⟩ | ⟨c,hc,hu,p1,p2⟩
   · refine⟨x,aT5 _ (aTI.2 ⟨hx,?_⟩),by rcases hp with hp | hp <;> simp[hp]⟩
     have e:=hi.split
     rw[e]at hf ⊢
     have:=aHG n h1 hf
     refine(aC7 n h1).2 ⟨by rcases hp with hp | hp <;> simp[hp],fun h=>this _ h (by simp),fun h=>this _ h (by simp)⟩
   · obtain⟨q1,q2,q3,q4⟩:=hi.ps c hc hu
     have e:=hi.split
     have hcu:c.up=u:=by
      rw[q2,e]
      refine(yB n h1).2 ⟨p1,fun z hz hm=>?_⟩
      have:=q1 z hm
      rcases aTf.1 this with rfl | h
      · have:=h1 0 (aT5 _ hz);omega
      · exact(aTw.1 n).2.2 z hz z h rfl
     rcases Int.lt_or_gt_of_ne s2 with h | h
     · obtain⟨x,hx,e1,e2⟩:=q4 w p2 u p1 h
       exact⟨x,aT7 _ (xM.2 ⟨c,hc,hcu,hx⟩),.inr e2⟩
     · obtain⟨x,hx,e1,e2⟩:=q4 u p1 w p2 h
       exact⟨x,aT7 _ (xM.2 ⟨c,hc,hcu,hx⟩),.inl e1⟩
 · have eV:(0::v::r).length=r.length+2:=rfl
   rw[eV]
   refine aPU (k:=b.length) hD (by omega) (by omega) ?_ ?_
   · by_cases c:b.filter (kid v)=[]
     · have:aCd v b=1:=by
        have e:aCd v b=dW (fun c:NQ=>c.den) (b.filter (kid v)):=rfl
        rw[e,c];rfl
       rw[this];omega
     · exact aTr (aC4 _ _ c) hH
   · refine aTr (aJp (g:=fun c:NQ=>(72*c.den) ^ (tri (r.length+2)+1)) fun c hc=>(aMf hb hi (kd c hc).1 (kd c hc).2.1).2) ?_
     rw[aHn]
     exact aUN hH _
end
/- Trees over the rational numbers: the invariant goes on. -/
theorem aC3 (v:Int)(a:List QL):psN (rT v a)=a.map fun x=>x.a:=by
 unfold psN rT
 simp only[aUK]
 rfl
section
variable {l:List QL}{o pre r:List Int}{v:Int}{b:List NQ}
def nxt (l:List QL)(o:List Int)(v:Int)(b:List NQ):NQ:=aC9 o v (l.filter (pD o v)) b
theorem aOg {u:Int}:u∈psN (nxt l o v b).cond↔∃ y∈(aR (l.filter (pD o v)++oH v b) [] 0).1,(y.a=v\/y.b=v)/\u=(aA9 v y).a:=by
 have e:psN (nxt l o v b).cond=(bL v (aR (l.filter (pD o v)++oH v b) [] 0).1).map fun x=>x.a:=aC3 v _
 rw[e,aTu]
 constructor
 · rintro⟨x,hx,rfl⟩
   obtain⟨y,hy,ht,rfl⟩:=wC.1 hx
   exact⟨y,hy,ht,rfl⟩
 · rintro⟨y,hy,ht,rfl⟩
   exact⟨_,wC.2 ⟨y,hy,ht,rfl⟩,rfl⟩
theorem aDQ {z:QL}(hz:z∈l.filter (pD o v)++oH v b)(h:z.a<z.b){u:Int}(hu:(z.a=v/\z.b=u)\/(z.a=u/\z.b=v)):u∈psN (nxt l o v b).cond:=by
 obtain⟨y,hy,e1,e2⟩:=uT _ [] 0 z (.inr hz)
 rw[aOg]
 have ht:y.a=v\/y.b=v:=by rw[<- e1,<- e2];rcases hu with hu | hu <;> simp[hu]
 refine⟨y,hy,ht,?_⟩
 have:=aDw ht (by omega)
 omega
theorem TInv.kid_ps (hb:Base l o)(hi:TInv l o pre (v::r) b){c:NQ}(hc:c∈b)(hu:c.up=v):v∈psN c.cond/\∀ u∈psN c.cond,u≠v->u∈psN (nxt l o v b).cond:=by
 have hu':c.up∈v::r:=by rw[hu];simp
 obtain⟨p1,p2,p3,p4⟩:=hi.ps c hc hu'
 obtain⟨n,h1,hv,v1,v9,hl,nV,hV⟩:=hi.facts hb
 have vm:v∈psN c.cond:=by
  have e:=hi.split
  rw[hu,e]at p2
  exact((yB n h1).1 p2.symm).1
 refine⟨vm,fun u hm hne=>?_⟩
 rcases Int.lt_or_gt_of_ne hne with h | h
 · obtain⟨x,hx,e1,e2⟩:=p4 u hm v vm h
   exact aDQ (z:=x) (aT7 _ (xM.2 ⟨c,hc,hu,hx⟩)) (by omega) (.inr ⟨e1,e2⟩)
 · obtain⟨x,hx,e1,e2⟩:=p4 v vm u hm h
   exact aDQ (z:=x) (aT7 _ (xM.2 ⟨c,hc,hu,hx⟩)) (by omega) (.inl ⟨e1,e2⟩)
theorem TInv.nxt_rem (hb:Base l o)(hi:TInv l o pre (v::r) b):∀ u∈psN (nxt l o v b).cond,u∈0::r/\u≠v:=by
 intro u hu
 have hj:=((hi.inc hb).join).2.1
 obtain⟨y,hy,ht,rfl⟩:=aOg.1 hu
 have:=hj.armV _ (wC.2 ⟨y,hy,ht,rfl⟩)
 refine⟨?_,this.2⟩
 have h1:=this.1
 simp only[aTf]at h1 ⊢
 rcases h1 with h | h | h
 · exact .inl h
 · exact absurd h this.2
 · exact .inr h
theorem TInv.adj (hb:Base l o)(hi:TInv l o pre (v::r) b){u w:Int}(h:aNj l o (v::r) b u w)(hne:u≠w) :
 (u=v->w∈psN (nxt l o v b).cond)/\(w=v->u∈psN (nxt l o v b).cond)/\(u≠v->w≠v->(u∈psN (nxt l o v b).cond/\w∈psN (nxt l o v b).cond)\/aNj l o r b u w):=by
 obtain⟨n,h1,hv,v1,v9,hl,nV,hV⟩:=hi.facts hb
 have e:=hi.split
 rcases h with⟨x,hx,hf,hp⟩ | ⟨c,hc,hu,p1,p2⟩
 · have own:x.a=v\/x.b=v->x∈l.filter (pD o v):=fun ht=>by
    rw[e]at hf ⊢
    have:=aHG n h1 hf
    exact aTI.2 ⟨hx,(aC7 n h1).2 ⟨ht,fun h=>this _ h (by simp),fun h=>this _ h (by simp)⟩⟩
   have hlt:=(hb.lk x hx).2.1.2.2
   refine⟨fun h2=>?_,fun h2=>?_,fun h2 h3=>.inr (.inl ⟨x,hx,?_,hp⟩)⟩
   · subst h2
     rcases hp with⟨g1,g2⟩ | ⟨g1,g2⟩
     · exact aDQ (aT5 _ (own (.inl g1))) hlt (.inl ⟨g1,g2⟩)
     · exact aDQ (aT5 _ (own (.inr g2))) hlt (.inr ⟨g1,g2⟩)
   · subst h2
     rcases hp with⟨g1,g2⟩ | ⟨g1,g2⟩
     · exact aDQ (aT5 _ (own (.inr g2))) hlt (.inr ⟨g1,g2⟩)
     · exact aDQ (aT5 _ (own (.inl g1))) hlt (.inl ⟨g1,g2⟩)
   · rcases aTf.1 hf with h4 | h4
     · exfalso
       have h5:=h4
       rw[e]at h5
       have:=((yB n h1).1 h5).1
       simp only[aTf,aVc,or_false]at this
       omega
     · exact h4
 · by_cases k:c.up=v
   · obtain⟨vm,hk⟩:=hi.kid_ps hb hc k
     exact⟨fun h2=>hk w p2 (by omega),fun h2=>hk u p1 (by omega),fun h2 h3=>.inl ⟨hk u p1 h2,hk w p2 h3⟩⟩
   · have hr:c.up∈r:=(aTf.1 hu).resolve_left k
     obtain⟨q1,q2,q3,q4⟩:=hi.ps c hc hu
     have nv:v∉psN c.cond:=fun hm=>by
      rw[e]at q2
      refine k (q2.trans ((yB n h1).2 ⟨hm,fun z hz hm=>?_⟩))
      rcases aTf.1 (q1 z hm)with rfl | h
      · have:=h1 0 (aT5 _ hz);omega
      · exact(aTw.1 n).2.2 z hz z h rfl
     exact⟨fun h2=>absurd (h2▸p1) nv,fun h2=>absurd (h2▸p2) nv,fun _ _=>.inr (.inr ⟨c,hc,hr,p1,p2⟩)⟩
theorem TInv.nxt_up (hb:Base l o)(hi:TInv l o pre (v::r) b){u:Int}(hu:u∈psN (nxt l o v b).cond)(h0:u≠0):(nxt l o v b).up∈r:=by
 obtain⟨n,h1,hv,v1,v9,hl,nV,hV⟩:=hi.facts hb
 have e:=hi.split
 have hr:=hi.nxt_rem hb
 have er:(nxt l o v b).up=aU o (psN (nxt l o v b).cond):=rfl
 have e2:pre++v::r=(pre++[v])++r:=by simp
 have e3:aU o (psN (nxt l o v b).cond)=aU ((pre++[v])++r) (psN (nxt l o v b).cond):=congrArg (fun o'=>aU o' (psN (nxt l o v b).cond)) (e.trans e2)
 rw[er,e3]
 have h1':∀ u∈(pre++[v])++r,1<=u:=by rw[<- e2];exact h1
 rcases aJY (p:=pre++[v]) (r:=r) (s:=psN (nxt l o v b).cond) h1' (fun z hz hm=>by
  obtain⟨g1,g2⟩:=hr z hm
  have zr:z∈r:=by
   rcases aTf.1 g1 with h | h
   · have:=h1' z (aT5 _ hz);omega
   · exact h
  rcases aTj.1 hz with hz | hz
  · exact(aTw.1 n).2.2 z hz z (by simp[zr]) rfl
  · simp at hz;exact g2 hz)with⟨_,h⟩ | h
 · exact absurd hu (h u ((aTf.1 (hr u hu).1).resolve_left h0))
 · exact h.1
theorem aMD {P H:Nat}{D d k:Nat}(hH:0<H)(hP:0<P)(h:H*P<=ex' k)(hd:d<=D*(72*D))(hD:(D=1/\H=1)\/72*D<=H):P*(72*d)<=ex (k+1):=by
 have e:ex (k+1)=ex k*ex k:=by unfold ex;rw[aUw,Nat.pow_mul,Nat.pow_two]
 have h2:=aK4 k
 rcases hD with⟨rfl,rfl⟩ | hD
 · have hd2:72*d<=72*72:=by omega
   by_cases c:k=0
   · subst c
     have:ex' 0=1:=rfl
     rw[this]at h
     have hp1:P=1:=by omega
     rw[hp1,e]
     have:ex 0=72:=rfl
     rw[this];omega
   · have ek:72*72<=ex k:=by
      unfold ex
      have:2<=2 ^ k:=by
       calc 2=2 ^ 1:=rfl
        _<=_:=aT4 (by omega) (by omega)
      calc 72*72=72 ^ 2:=rfl
       _<=_:=aT4 (by omega) this
     rw[e]
     exact aTK (by omega) (by omega)
 · have a1:72*d<=H*H:=by
    calc 72*d<=72*(D*(72*D)):=aTA _ hd
     _=(72*D)*(72*D):=by rw[aT3]
     _<=H*H:=aTK hD hD
   rw[e]
   calc P*(72*d)<=P*(H*H):=aTA _ a1
    _=(H*P)*H:=by rw[<- aT3,aTR P H]
    _<=ex k*ex k:=aTK (by omega) (aTr (aUF H hP) (by omega))
end
/- Trees over the rational numbers: the whole tree. -/
section
variable {l:List QL}{o pre r:List Int}{v:Int}{b:List NQ}
theorem TInv.next (hb:Base l o)(hi:TInv l o pre (v::r) b):TInv l o (pre++[v]) r (b++[nxt l o v b])/\rJ o v ((l.filter (pD o v)).map QL.toL) (b.map NQ.toN)=some (nxt l o v b).toN/\bQ (nxt l o v b).enQ:=by
 obtain⟨n,h1,hv,v1,v9,hl,nV,hV⟩:=hi.facts hb
 have hinc:=hi.inc hb
 obtain⟨c1,c2,c3,c4,c5,c6,c7⟩:=aOk (order:=o) hinc
 have hmem:∀ c∈b++[nxt l o v b],c∈b\/c=nxt l o v b:=fun c hc=>by simpa using hc
 have hlen:(b++[nxt l o v b]).length=b.length+1:=by simp
 have hsp:=hi.split
 refine⟨⟨?_,?_,?_,?_,?_,?_,?_,?_⟩,c1,c2⟩
 · rw[hsp];simp
 · rw[hlen,aTF,hi.len];rfl
 · intro c hc hu
   rcases hmem c hc with hc | rfl
   · exact hi.den c hc (aTT v hu)
   · exact c3
 · intro c hc hu
   rw[hlen]
   rcases hmem c hc with hc | rfl
   · obtain⟨m1,m2⟩:=hi.msg c hc (aTT v hu)
     exact⟨fun x hx=>aMu (m1 x hx) (Nat.dvd_refl _) (aTA _ (aT4 (by omega) (by omega))),m2⟩
   · refine⟨fun x hx=>?_,c6⟩
     have:=(c5 x hx).1
     have e:2*(20*2 ^ b.length)=20*2 ^ (b.length+1):=by rw[aUw];omega
     rw[<- e];exact this
 · intro c hc hu
   rcases hmem c hc with hc | rfl
   · obtain⟨p1,p2,p3,p4⟩:=hi.ps c hc (aTT v hu)
     refine⟨fun u hm=>?_,p2,p3,p4⟩
     have h:=p1 u hm
     simp only[aTf]at h ⊢
     rcases h with h | h | h
     · exact .inl h
     · exfalso
       subst h
       rw[hsp]at p2
       have:c.up=u:=p2.trans ((yB n h1).2 ⟨hm,fun z hz hz2=>by
        rcases aTf.1 (p1 z hz2)with rfl | h
        · have:=h1 0 (aT5 _ hz);omega
        · exact(aTw.1 n).2.2 z hz z h rfl⟩)
       rw[this]at hu;exact hv hu
     · exact .inr h
   · refine⟨fun u hm=>(hi.nxt_rem hb u hm).1,rfl,fun x hx=>?_,fun u hu' w hw' huw=>?_⟩
     · have hj:=(hinc.join).2.1
       refine⟨?_,?_,(c5 x hx).2.2.2⟩
       all_goals
        obtain⟨y,hy,e1,e2⟩:=pW _ [] 0 x hx
        have hy:=hy.resolve_left (by simp)
        rcases aTj.1 hy with hy | hy
        · obtain⟨m1,m2,m3⟩:=aAe.1 hy
          obtain⟨z,hz,f1,f2⟩:=pW _ [] 0 y m1
          have hz:=hz.resolve_left (by simp)
          rcases aTj.1 hz with hz | hz
          · exfalso
            have:=(aTI.1 hz).2
            rw[hsp]at this
            have:=((aC7 n h1).1 this).1
            omega
          · obtain⟨c,hc,hu2,hz⟩:=xM.1 hz
            obtain⟨_,hk⟩:=hi.kid_ps hb hc hu2
            obtain⟨_,_,p3,_⟩:=hi.ps c hc (by rw[hu2];simp)
            have g1:=(p3 z hz).1
            have g2:=(p3 z hz).2.1
            rw[f1,e1]at g1
            rw[f2,e2]at g2
            first | exact hk _ g1 (by omega) | exact hk _ g2 (by omega)
        · obtain⟨_,_,_,_,⟨y1,hy1,q1⟩,y2,hy2,q2⟩:=hj.arms.each hy
          have e:psN (nxt l o v b).cond=(bL v (aR (l.filter (pD o v)++oH v b) [] 0).1).map fun x=>x.a:=aC3 v _
          rw[e]
          first | exact aTu.2 ⟨y1,hy1,q1.trans e1⟩ | exact aTu.2 ⟨y2,hy2,q2.trans e2⟩
     · have hj:=(hinc.join).2.1
       have e:psN (nxt l o v b).cond=(bL v (aR (l.filter (pD o v)++oH v b) [] 0).1).map fun x=>x.a:=aC3 v _
       rw[e]at hu' hw'
       obtain⟨x,hx,rfl⟩:=aTu.1 hu'
       obtain⟨y,hy,rfl⟩:=aTu.1 hw'
       have hm:=aJC (sm wt (bL v (aR (l.filter (pD o v)++oH v b) [] 0).1)) hj.arms.inc x hx y hy huw
       obtain⟨z,hz,f1,f2⟩:=uT (iL v (aR (l.filter (pD o v)++oH v b) [] 0).1) [] 0 _ (.inr (aT7 _ hm))
       exact⟨z,hz,f1.symm,f2.symm⟩
 · obtain⟨k1,k2,k3⟩:=hi.kids
   rw[hlen,aVj,aHo]
   have e1:b.filter (sI r)=b.filter fun c=>sI (v::r) c&&!kid v c:=by
    rw[<- aDW hv,aUv]
    refine aUO fun c _=>?_
    rw[Bool.and_comm]
   rw[e1]
   have ekk:ex' (b.length+1)=ex (b.length+1):=by unfold ex';rw[aTc (by omega)]
   rw[ekk]
   have hD:(aCd v b=1/\dW (fun c:NQ=>72*c.den) (b.filter (kid v))=1)\/72*aCd v b<=dW (fun c:NQ=>72*c.den) (b.filter (kid v)):=by
    by_cases c:b.filter (kid v)=[]
    · left
      have e:aCd v b=dW (fun c:NQ=>c.den) (b.filter (kid v)):=rfl
      rw[e,c];exact⟨rfl,rfl⟩
    · exact .inr (aC4 (fun c:NQ=>c.den) _ c)
   have hs:=aMD k3 k2 k1 c4 hD
   have le:dW (fun c:NQ=>72*c.den) ([nxt l o v b].filter (sI r))<=72*(nxt l o v b).den:=by
    have hp:0<(nxt l o v b).den:=c3
    rw[aTP,aUY]
    split
    · simp[dW]
    · simp only[dW];omega
   exact aTr (aTA _ le) hs
 · have hw:=(aHX hi hb).1
   have hn:0<=sm wt (nxt l o v b).msgs:=kU fun x hx=>(c5 x hx).1
   have e:sm wt (kF ((b++[nxt l o v b]).filter (sI r)))<=sm wt (kF (b.filter (sI r)))+sm wt (nxt l o v b).msgs:=by
    unfold kF
    rw[aVj,aUX,pP,aTP,aUY]
    split
    · rw[aTO,aUM,aUf];grind
    · rw[aUM];simp only[sm];grind
   have c7':sm wt (nxt l o v b).msgs<=sm wt (l.filter (pD o v)++oH v b):=c7
   grind
 · intro S hS h0
   obtain⟨u0,hu0,su0⟩:=hS
   have viaN:∀ u w,S u->¬S w->u∈psN (nxt l o v b).cond->w∈psN (nxt l o v b).cond->aNj l o r (b++[nxt l o v b]) u w:=by
    intro u w su sw hu hw
    exact .inr ⟨nxt l o v b,by simp,hi.nxt_up hb hu (fun e=>h0 (e▸su)),hu,hw⟩
   have up:∀ u w,aNj l o r b u w->aNj l o r (b++[nxt l o v b]) u w:=by
    rintro u w (⟨x,hx,h⟩ | ⟨c,hc,h⟩)
    · exact .inl ⟨x,hx,h⟩
    · exact .inr ⟨c,by simp[hc],h⟩
   have ne0:u0≠v:=fun e=>hv (e▸hu0)
   obtain⟨u,w,⟨su,uv⟩,sw,ad⟩:=hi.cut (fun u=>S u/\u≠v) ⟨u0,aTT v hu0,su0,ne0⟩ (fun h=>h0 h.1)
   have uw:u≠w:=fun e=>sw (e▸⟨su,uv⟩)
   obtain⟨t1,t2,t3⟩:=hi.adj hb ad uw
   by_cases wv:w=v
   · have hu:=t2 wv
     obtain⟨u',w',su',sw',ad'⟩:=hi.cut (fun u=>S u\/u=v) ⟨u0,aTT v hu0,.inl su0⟩ (fun h=>h.elim h0 (by omega))
     have uw':u'≠w':=fun e=>sw' (e▸su')
     obtain⟨t1',t2',t3'⟩:=hi.adj hb ad' uw'
     have wv':w'≠v:=fun e=>sw' (.inr e)
     have sw2:¬S w':=fun h=>sw' (.inl h)
     by_cases uv':u'=v
     · exact⟨u,w',su,sw2,viaN u w' su sw2 hu (t1' uv')⟩
     · have su2:S u':=su'.resolve_right uv'
       rcases t3' uv' wv' with⟨g1,g2⟩ | g
       · exact⟨u',w',su2,sw2,viaN u' w' su2 sw2 g1 g2⟩
       · exact⟨u',w',su2,sw2,up _ _ g⟩
   · have sw2:¬S w:=fun h=>sw ⟨h,wv⟩
     rcases t3 uv wv with⟨g1,g2⟩ | g
     · exact⟨u,w,su,sw2,viaN u w su sw2 g1 g2⟩
     · exact⟨u,w,su,sw2,up _ _ g⟩
end
def bX (l:List QL)(o:List Int):List Int->List NQ->List NQ
 | [],b=>b
 | v::r,b=>bX l o r (b++[nxt l o v b])
theorem aQL (o:List Int)(v:Int):∀ l:List QL,(l.map QL.toL).filter (pQ o v)=(l.filter (pD o v)).map QL.toL
 | []=>rfl
 | x::l=>by
  have e:pQ o v x.toL=pD o v x:=rfl
  rw[aTo,aTP,aTP,aQL o v l,e]
  split <;> rfl
theorem aNu {l:List QL}{o:List Int}(hb:Base l o):∀ (r pre:List Int) (b:List NQ),TInv l o pre r b->vN (l.map QL.toL) o r (b.map NQ.toN)=some ((bX l o r b).map NQ.toN)
 | [],_,b,_=>rfl
 | v::r,pre,b,hi=>by
  obtain⟨h1,h2,h3⟩:=hi.next hb
  rw[vN,aQL,h2]
  have:=aNu hb r (pre++[v]) (b++[nxt l o v b]) h1
  rw[aUc]at this
  exact this
def Grounded (l:List QL)(o:List Int):Prop:=∀ S:Int->Prop,(∃ u∈o,S u)->¬S 0->∃ x∈l,(S x.a/\¬S x.b)\/(S x.b/\¬S x.a)
theorem TInv.start {l:List QL}{o:List Int}(hb:Base l o)(hg:Grounded l o):TInv l o [] o [] where
 split:=rfl
 len:=rfl
 den:=by simp
 msg:=by simp
 ps:=by simp
 prod:=aTn 1
 wtt:=by
  have e:sm wt (kF (([]:List NQ).filter (sI o)))=0:=rfl
  rw[e]
  have h1:=aCW wt (fun x=>decide (aU o [x.a,x.b]∈o)) l
  have h2:0<=sm wt (l.filter fun x=>!decide (aU o [x.a,x.b]∈o)):=kU fun y hy=>(hb.lk y (aTI.1 hy).1).1
  have:=hb.hw
  grind
 cut:=by
  intro S hS h0
  obtain⟨x,hx,h⟩:=hg S hS h0
  have hf:aU o [x.a,x.b]∈o:=by
   obtain⟨i1,i2,i3⟩:=(hb.lk x hx).2.1
   have hbm:x.b∈o:=by
    rcases aTf.1 i2 with h | h
    · exfalso
      rcases aTf.1 i1 with h2 | h2
      · omega
      · have:=hb.h1 _ h2;omega
    · exact h
   rcases aDs (s:=[x.a,x.b]) (fun u hu=>(hb.h1 u hu).1)with⟨_,h4⟩ | ⟨p,v,r,e,h2,h3,h4⟩
   · exact absurd (by simp) (h4 _ hbm)
   · rw[h2,e];simp
  rcases h with⟨g1,g2⟩ | ⟨g1,g2⟩
  · exact⟨x.a,x.b,g1,g2,.inl ⟨x,hx,hf,.inl ⟨rfl,rfl⟩⟩⟩
  · exact⟨x.b,x.a,g1,g2,.inl ⟨x,hx,hf,.inr ⟨rfl,rfl⟩⟩⟩
theorem Base.join {l:List QL}{o:List Int}(hb:Base l o):jnP (l.map QL.toL)=some ((aR l [] 0).1.map QL.toL,ofQ (aR l [] 0).2)/\(∀ k∈(aR l [] 0).1,k.fit/\Lk 1 20 k/\inV (0::o) k)/\(aR l [] 0).1.Pairwise cU/\bQ (aR l [] 0).2:=by
 have nV:(0::o).Nodup:=aUe.2 ⟨fun h=>by have:=hb.h1 0 h;omega,hb.nd⟩
 have hVn:∀ u∈0::o,0<=u/\u<=9:=fun u hu=>by
  rcases aTf.1 hu with rfl | hu
  · omega
  · have:=hb.h1 u hu;omega
 have len:(0::o).length<=6:=by have:=hb.len;simp only[aTG];omega
 have j:Jn 1 1 20 15 (0::o):=⟨by omega,by decide,by omega,by omega,by omega,nV,by
  have h1:=aDF len
  have h2:=aNs _ 6 len (by omega)
  have h3:tri 6=15:=by decide
  omega,by rw[aLB];decide⟩
 have es:=wG (fun x hx=>(hb.lk x hx).1) (by omega) hb.hw
 have e0:(0:Q)-sm enQ []=0:=by simp only[sm];grind
 have g:=aDo j l [] 0 (fun x hx=>⟨(hb.lk x hx).1,(hb.lk x hx).2.1,(hb.lk x hx).2.2⟩) (by simp) List.Pairwise.nil (by simp only[sm];have:=hb.hw;grind) ⟨0,by simp⟩ (by grind) (by have:=es.2;grind)
 rw[e0]at g
 obtain⟨g1,g2,g3,g4,g5⟩:=g
 have fo:∀ x∈l,x.fit/\x.ok:=fun x hx=>by
  obtain⟨l1,⟨l2,l3,l4⟩,_⟩:=hb.lk x hx
  refine⟨aIF (by omega) (by decide) l1 (by omega) (by omega) ?_,hVn _ l2,hVn _ l3,l4,l1.sc.1⟩
  have:=wM (fun y hy=>(hb.lk y hy).1) hx
  have:=hb.hw
  grind
 obtain⟨e1,f1,f2⟩:=aRw fo g1
 exact⟨e1,fun k hk=>⟨f1 k hk,g2 k hk⟩,g3,f2⟩
theorem aQk {l:List QL}{o:List Int}(hb:Base l o)(hg:Grounded l o)(ho:isOrd ((aR l [] 0).1.map QL.toL) o):zQ (l.map QL.toL) o=some ⟨(bX l o o []).map NQ.toN⟩:=by
 unfold zQ
 rw[hb.join.1]
 simp only[aTb]
 rw[aTd ho]
 have:=aNu hb o [] [] (TInv.start hb hg)
 rw[aT8]at this
 rw[this]
 rfl
/- Links of whole numbers that tie nodes to the ground: their tree is built. -/
def LkI (x:QL):Prop:=(0<=x.a/\x.a<x.b/\x.b<=5)/\∃ w p q:Int,(1<=w/\w<=9)/\(-20<=p/\p<=20)/\(-20<=q/\q<=20)/\x.w=(w:Q)/\x.x=(p:Q)/\x.y=(q:Q)
theorem aPd {B:Nat}{z:Int}(h:-(B:Int)<=z/\z<=(B:Int)):bd B (z:Q):=by
 constructor
 · have:=(aVe (a:=-(B:Int)) (b:=z)).2 h.1
   rw[_root_.Rat.intCast_neg]at this;exact this
 · exact(aVe (a:=z) (b:=(B:Int))).2 h.2
theorem LkI.lk {x:QL}(h:LkI x):Lk 1 20 x/\Dv 1 (enQ x)/\x.w<=9:=by
 obtain⟨_,w,p,q,hw,hp,hq,e1,e2,e3⟩:=h
 have w0:((0:Int):Q)<(w:Q):=aV3.2 (by omega)
 have w9:(w:Q)<=((9:Int):Q):=aVe.2 hw.2
 have z0:((0:Int):Q)=0:=rfl
 have z9:((9:Int):Q)=9:=rfl
 have m1:mx x=((w*p:Int):Q):=by unfold mx;rw[e1,e2,aVm]
 have m2:my x=((w*q:Int):Q):=by unfold my;rw[e1,e3,aVm]
 have m3:enQ x=((w*(p*p+q*q):Int):Q):=by
  unfold enQ sqQ
  rw[e1,e2,e3,aVm,_root_.Rat.intCast_add,aVm,aVm]
 refine⟨⟨⟨by rw[e1];grind,by rw[e1];exact aD4 _,by rw[m1];exact aD4 _,by rw[m2];exact aD4 _⟩,by rw[e2];exact aPd (by omega),by rw[e3];exact aPd (by omega)⟩,by rw[m3];exact aD4 _,by rw[e1];grind⟩
theorem aSl:∀ {l:List QL},(∀ x∈l,LkI x)->sm wt l<=((9*l.length:Nat):Q)
 | [],_=>by simp[sm]
 | x::l,h=>by
  have h1:=(h x (by simp)).lk.2.2
  have h2:=aSl (l:=l) (fun y hy=>h y (by simp[hy]))
  have e:(9*(x::l).length:Nat)=9+9*l.length:=by rw[aTG];omega
  rw[sm,e,_root_.Rat.natCast_add]
  have e2:wt x=x.w:=rfl
  have e3:((9:Nat):Q)=9:=rfl
  rw[e2,e3];grind
structure Tie (l:List QL)(o:List Int):Prop where
 nd:o.Nodup
 mem:∀ u,u∈o↔1<=u/\∃ x∈l,x.a=u\/x.b=u
 lk:∀ x∈l,LkI x
 len:l.length<=8
 gr:Grounded l o
theorem Tie.five {l:List QL}{o:List Int}(h:Tie l o):∀ u∈o,1<=u/\u<=5:=by
 intro u hu
 obtain⟨h1,x,hx,ht⟩:=(h.mem u).1 hu
 have:=(h.lk x hx).1
 omega
theorem Tie.base {l:List QL}{o:List Int}(h:Tie l o):Base l o where
 nd:=h.nd
 h1:=fun u hu=>by have:=h.five u hu;omega
 len:=by
  have:=h.nd.length_le_of_subset (l₂:=[1,2,3,4,5]) (fun u hu=>by
   have:=h.five u hu
   simp only[aTf,aVc,or_false];omega)
  simpa using this
 lk:=fun x hx=>by
  obtain⟨h1,h2,h3⟩:=(h.lk x hx).lk
  have hn:=(h.lk x hx).1
  refine⟨h1,⟨?_,?_,hn.2.1⟩,h2⟩
  · by_cases c:x.a=0
    · rw[c];simp
    · exact aTT _ ((h.mem _).2 ⟨by omega,x,hx,.inl rfl⟩)
  · exact aTT _ ((h.mem _).2 ⟨by omega,x,hx,.inr rfl⟩)
 hw:=by
  have h1:=aSl h.lk
  have h2:((9*l.length:Nat):Q)<=((72:Nat):Q):=aFN (by have:=h.len;omega)
  have e:((72:Nat):Q)=72:=rfl
  grind
theorem aFV {s:List Link}{u:Int}:u∈fE s↔(1<=u/\u<=9)/\∃ x∈s,x.fA=u\/x.fB=u:=by
 unfold fE aEy tch
 rw[aTI,List.any_eq_true]
 constructor
 · rintro⟨h1,x,hx,ht⟩
   obtain⟨k,hk,rfl⟩:=aTu.1 h1
   rw[aVM]at hk
   exact⟨by omega,x,hx,aTM ht⟩
 · rintro⟨h1,x,hx,ht⟩
   exact⟨aTu.2 ⟨(u-1).toNat,aVM.2 (by omega),by omega⟩,x,hx,aTg ht⟩
theorem qH (s:List Link):(fE s).Nodup:=by
 unfold fE
 exact(by decide:aEy.Nodup).filter _
theorem aMP {a b:List Int}(ha:a.Nodup)(hb:b.Nodup)(h:∀ u,u∈a↔u∈b):a.length=b.length :=
 Nat.le_antisymm (ha.length_le_of_subset fun u hu=>(h u).1 hu) (hb.length_le_of_subset fun u hu=>(h u).2 hu)
theorem Tie.isOrd {l:List QL}{o:List Int}(h:Tie l o):isOrd ((aR l [] 0).1.map QL.toL) o:=by
 have key:∀ u,u∈o↔u∈fE ((aR l [] 0).1.map QL.toL):=by
  intro u
  rw[h.mem,aFV]
  constructor
  · rintro⟨h1,x,hx,ht⟩
    obtain⟨y,hy,e1,e2⟩:=uT l [] 0 x (.inr hx)
    have:=(h.lk x hx).1
    refine⟨by omega,y.toL,aUm hy,?_⟩
    show y.a=u\/y.b=u
    rw[<- e1,<- e2];exact ht
  · rintro⟨h1,z,hz,ht⟩
    obtain⟨y,hy,rfl⟩:=aTu.1 hz
    obtain⟨x,hx,e1,e2⟩:=pW l [] 0 y hy
    have hx:=hx.resolve_left (by simp)
    refine⟨h1.1,x,hx,?_⟩
    rw[e1,e2];exact ht
 exact⟨h.nd,fun y hy=>(key y).1 hy,aMP h.nd (qH _) key⟩
theorem Tie.build {l:List QL}{o:List Int}(h:Tie l o):zQ (l.map QL.toL) o=some ⟨(bX l o o []).map NQ.toN⟩:=aQk h.base h.gr h.isOrd
theorem Grounded.perm {l l':List QL}{o o':List Int}(h:Grounded l o)(h1:∀ x∈l,x∈l')(h2:∀ u∈o',u∈o):Grounded l' o':=by
 intro S hS h0
 obtain⟨u,hu,su⟩:=hS
 obtain⟨x,hx,hh⟩:=h S ⟨u,h2 u hu,su⟩ h0
 exact⟨x,h1 x hx,hh⟩
theorem Tie.perm {l l':List QL}{o o':List Int}(h:Tie l o)(hl:l'.Perm l)(ho:o'.Perm o):Tie l' o' where
 nd:=ho.nodup_iff.2 h.nd
 mem:=fun u=>by
  rw[ho.mem_iff,h.mem]
  constructor
  · rintro⟨h1,x,hx,ht⟩;exact⟨h1,x,hl.mem_iff.2 hx,ht⟩
  · rintro⟨h1,x,hx,ht⟩;exact⟨h1,x,hl.mem_iff.1 hx,ht⟩
 lk:=fun x hx=>h.lk x (hl.mem_iff.1 hx)
 len:=by rw[hl.length_eq];exact h.len
 gr:=h.gr.perm (fun x hx=>hl.mem_iff.2 hx) fun u hu=>ho.mem_iff.1 hu
theorem aJR {l:List QL}{o:List Int}(hl:∀ x∈l,0<=x.a/\x.a<x.b)(hm:∀ u,u∈o↔1<=u/\∃ x∈l,x.a=u\/x.b=u)(h:∀ u∈o,∃ x∈l,x.b=u):Grounded l o:=by
 intro S hS h0
 have key:∀ (n:Nat) (u:Int),u.toNat<=n->u∈o->S u->∃ x∈l,(S x.a/\¬S x.b)\/(S x.b/\¬S x.a):=by
  intro n
  induction n with
  | zero=>intro u hn hu _;have:=(hm u).1 hu;omega
  | succ n ih =>
   intro u hn hu su
   obtain⟨x,hx,e⟩:=h u hu
   have hx2:=hl x hx
   by_cases c:S x.a
   · refine ih x.a (by omega) ((hm _).2 ⟨?_,x,hx,.inl rfl⟩) c
     by_cases z:x.a=0
     · rw[z]at c;exact absurd c h0
     · omega
   · exact⟨x,hx,.inr ⟨e▸su,c⟩⟩
 obtain⟨u,hu,su⟩:=hS
 exact key u.toNat u (aTn _) hu su
theorem aNv {n:Int}{l:List QL}{o:List Int}(h1:∀ x∈l,LkI x/\x.b<=n+1)(h2:l.length<=8)(h3:∀ k,1<=k->k<=n->∃ x∈l,x.b=k)(nd:o.Nodup)(hm:∀ u,u∈o↔1<=u/\∃ x∈l,x.a=u\/x.b=u):Tie l o where
 nd:=nd
 mem:=hm
 lk:=fun x hx=>(h1 x hx).1
 len:=h2
 gr:=aJR (fun x hx=>by have:=(h1 x hx).1.1;omega) hm fun u hu=>by
  obtain⟨g1,x,hx,ht⟩:=(hm u).1 hu
  by_cases c:u<=n
  · exact h3 u g1 c
  · have:=(h1 x hx)
    have g:=this.1.1
    refine⟨x,hx,by omega⟩
/- The cursor and what is drawn from it. -/
open IntKind
theorem aHM (x:Int):0<=zR .i64 x 255/\zR .i64 x 255<=255:=by
 unfold zR
 have h:(BitVec.ofInt (IntKind.bits .i64) x &&& BitVec.ofInt (IntKind.bits .i64) 255).toNat<=255:=by
  rw[BitVec.toNat_and]
  exact aTr Nat.and_le_right (by decide)
 rw[wi (by omega)]
 omega
def sY (c:l01Cur):Prop:=c.fb.length<=1048576/\0<=c.fi/\c.fi<=1048577
theorem aRJ (c:l01Cur)(h:sY c):∃ r,jN c=some r/\(0<=r.1/\r.1<=255)/\sY r.2/\r.2.fb=c.fb:=by
 obtain⟨h1,h2,h3⟩:=h
 unfold jN
 simp only[aJ]
 by_cases hc:c.fi<(c.fb.length:Int)
 · rw[aTd hc]
   have:=aN (l:=c.fb) (k:=c.fi.toNat) (by omega)
   rw[show((c.fi.toNat:Nat):Int)=c.fi by omega]at this
   rw[this]
   simp only[aTb]
   refine⟨_,rfl,aHM _,⟨h1,?_,?_⟩,rfl⟩
   · simp only[];rw[wi (by omega)];omega
   · simp only[];rw[wi (by omega)];omega
 · rw[aTc hc]
   exact⟨_,rfl,aHM _,⟨h1,h2,h3⟩,rfl⟩
theorem sA (c:l01Cur)(n:Int)(h:sY c)(hn:1<=n/\n<=256):∃ r,cC c n=some r/\(0<=r.1/\r.1<n)/\sY r.2/\r.2.fb=c.fb:=by
 unfold cC
 rw[aTc (by omega),aTd (by omega)]
 obtain⟨r,e,g1,g2,g3⟩:=aRJ c h
 rw[show(l01Cur.mk c.fb c.fi c.fh)=c from rfl,e]
 simp only[aTb]
 rw[aM (by omega)]
 refine⟨_,rfl,⟨Int.tmod_nonneg _ g1.1,Int.tmod_lt_of_pos _ (by omega)⟩,?_,rfl⟩
 unfold sY at g2 h ⊢
 simp only[]
 exact⟨h.1,g2.2⟩
theorem aSr (code:List Int)(h:code.length<=1048576):∃ c,vV code=some c/\sY c/\c.fb=code:=by
 unfold vV
 simp only[aJ]
 have main:∀ (m k:Nat) (v:Int),m+k=code.length->∃ d,lp (mK code) (v,(k:Int))=some d:=by
  intro m
  induction m with
  | zero =>
   intro k v hk
   exact⟨v,aK (by unfold mK;simp only[];rw[aTc (by omega)];rfl)⟩
  | succ m ih =>
   intro k v hk
   have hlt:k<code.length:=by omega
   by_cases c:(k:Int)<4000
   · obtain⟨d,e⟩:=ih (k+1) (zR .i64 (i64.wrap (i64.wrap (i64.wrap (v*59)+i64.wrap code[k])+7)) 1073741823) (by omega)
     refine⟨d,?_⟩
     rw[aQ (s':=(zR .i64 (i64.wrap (i64.wrap (i64.wrap (v*59)+i64.wrap code[k])+7)) 1073741823,((k+1:Nat):Int))),e]
     unfold mK
     simp only[]
     rw[aTd (by omega),aN hlt]
     have w:i64.wrap ((k:Int)+1)=((k+1:Nat):Int):=by rw[wi (by omega)];omega
     simp only[aTb,aTg c,aTz,aJ,w]
   · refine⟨v,aK ?_⟩
     unfold mK
     simp only[]
     rw[aTd (by omega)]
     simp only[aTb,aTe c,aTk,aTD]
 obtain⟨d,e⟩:=main code.length 0 (i64.wrap (1951+(code.length:Int))) (by omega)
 rw[show((0:Nat):Int)=0 from rfl]at e
 rw[e]
 exact⟨_,rfl,⟨h,by simp,by simp⟩,rfl⟩
/- Links that are drawn. -/
theorem zE {fb:List Int}{c:l01Cur}(h:sY c)(e:c.fb=fb):sY ⟨fb,c.fi,c.fh⟩:=by
 subst e;exact h
def mkI (a b w x y:Int):QL:=⟨a,b,(w:Q),(x:Q),(y:Q)⟩
theorem aOt {a b w x y:Int}(h:0<=a/\a<b/\b<=5)(hw:1<=w/\w<=9)(hx:-20<=x/\x<=20)(hy:-20<=y/\y<=20):LkI (mkI a b w x y):=⟨h,w,x,y,hw,hx,hy,rfl,rfl,rfl⟩
theorem aHx {a b w x y:Int}(ha:0<=a/\a<=5)(hb:0<=b/\b<=5)(hab:a≠b)(hw:1<=w/\w<=9)(hx:-20<=x/\x<=20)(hy:-20<=y/\y<=20) :
 ∃ k:QL,qF a b w x y=some (k.toL,true)/\LkI k/\((k.a=a/\k.b=b)\/(k.a=b/\k.b=a)):=by
 unfold qF
 simp only[aB0,aAH,aTb]
 rw[aTg (show 0<=a/\a<=9 by omega),aTg (show 0<=b/\b<=9 by omega),aTg (show 1<=w/\w<=9999 by omega),aTg (show -1000000<=x/\x<=1000000 by omega),aTg (show -1000000<=y/\y<=1000000 by omega)]
 simp only[aTz,aTc hab,aTb,aUh,aTk,aTD]
 by_cases c:b<a
 · rw[aTd c]
   simp only[aTb]
   rw[wi (n:=0-x) (by omega),wi (n:=0-y) (by omega),bV w (by omega),bV (0-x) (by omega),bV (0-y) (by omega),aBl (z:=w) (by omega),aBl (z:=0-x) (by omega),aBl (z:=0-y) (by omega)]
   exact⟨mkI b a w (0-x) (0-y),rfl,aOt (by omega) hw (by omega) (by omega),.inr ⟨rfl,rfl⟩⟩
 · rw[aTc c]
   simp only[aTb]
   rw[bV w (by omega),bV x (by omega),bV y (by omega),aBl (z:=w) (by omega),aBl (z:=x) (by omega),aBl (z:=y) (by omega)]
   exact⟨mkI a b w x y,rfl,aOt (by omega) hw hx hy,.inl ⟨rfl,rfl⟩⟩
theorem aRG (c:l01Cur)(n:Int)(h:sY c)(hn:1<=n/\n<=5):∃ (k:QL) (c':l01Cur),tK c n=some (k.toL,c')/\sY c'/\c'.fb=c.fb/\LkI k/\k.b<=n:=by
 obtain⟨r1,a1,b1,c1,d1⟩:=sA ⟨c.fb,c.fi,c.fh⟩ n h (by omega)
 obtain⟨r2,a2,b2,c2,d2⟩:=sA ⟨c.fb,r1.2.fi,r1.2.fh⟩ n (zE c1 d1) (by omega)
 obtain⟨r3,a3,b3,c3,d3⟩:=sA ⟨c.fb,r2.2.fi,r2.2.fh⟩ 9 (zE c2 d2) (by omega)
 obtain⟨r4,a4,b4,c4,d4⟩:=sA ⟨c.fb,r3.2.fi,r3.2.fh⟩ 41 (zE c3 d3) (by omega)
 obtain⟨r5,a5,b5,c5,d5⟩:=sA ⟨c.fb,r4.2.fi,r4.2.fh⟩ 41 (zE c4 d4) (by omega)
 have aN8:∃ v:Int,((if(r1.1=r2.1)then(chk (IntKind.i64.wrap (n+1)≠0)).bind fun _u=>(aV ((IntKind.i64.wrap (r1.1+1)).tmod (IntKind.i64.wrap (n+1)))).bind fun v4=>some v4 else some r2.1):Option Int)=some v/\(0<=v/\v<=n)/\r1.1≠v:=by
  by_cases e:r1.1=r2.1
  · rw[aTd e,wi (n:=n+1) (by omega),wi (n:=r1.1+1) (by omega),aM (by omega)]
    simp only[aTb,aJ]
    refine⟨_,rfl,?_⟩
    rw[Int.tmod_eq_of_lt (by omega) (by omega)];omega
  · rw[aTc e];exact⟨_,rfl,by omega,e⟩
 obtain⟨v,ev,hv,hne⟩:=aN8
 obtain⟨k,ek,hk,hk2⟩:=aHx (a:=r1.1) (b:=v) (w:=1+r3.1) (x:=r4.1-20) (y:=r5.1-20) (by omega) (by omega) hne (by omega) (by omega) (by omega)
 refine⟨k,⟨c.fb,r5.2.fi,r5.2.fh⟩,?_,zE c5 d5,rfl,hk,by omega⟩
 unfold tK
 rw[a1];simp only[aTb]
 rw[a2];simp only[aTb]
 rw[ev];simp only[aTb]
 rw[a3];simp only[aTb]
 rw[a4];simp only[aTb]
 rw[a5];simp only[aTb]
 rw[wi (n:=1+r3.1) (by omega),wi (n:=r4.1-20) (by omega),wi (n:=r5.1-20) (by omega),ek]
 rfl
structure LinkL (n:Int)(l:List QL):Prop where
 each:∀ x∈l,LkI x/\x.b<=n+1
 len:l.length<=7
 all:∀ k,1<=k->k<=n->∃ x∈l,x.b=k
theorem aSu (c:l01Cur)(n:Int)(hn:1<=n/\n<=4):∀ (m k:Nat) (l:List QL) (fi fh:Int),(m:Int)+k=n+1->1<=k->sY ⟨c.fb,fi,fh⟩->l.length=k-1->(∀ x∈l,LkI x/\x.b<=n)->(∀ j:Int,1<=j->j<k->∃ x∈l,x.b=j)->
 ∃ (l':List QL) (fi' fh':Int),lp (kX c n) ((k:Int),l.map QL.toL,fi,fh)=some (l'.map QL.toL,fi',fh')/\sY ⟨c.fb,fi',fh'⟩/\(l'.length:Int)=n/\(∀ x∈l',LkI x/\x.b<=n)/\∀ j:Int,1<=j->j<=n->∃ x∈l',x.b=j:=by
 intro m
 induction m with
 | zero =>
  intro k l fi fh hm hk hc hl he ha
  refine⟨l,fi,fh,aK ?_,hc,by omega,he,fun j h1 h2=>ha j h1 (by omega)⟩
  unfold kX
  simp only[]
  rw[aTc (by omega)]
 | succ m ih =>
  intro k l fi fh hm hk hc hl he ha
  obtain⟨r1,a1,b1,c1,d1⟩:=sA ⟨c.fb,fi,fh⟩ k hc (by omega)
  obtain⟨r2,a2,b2,c2,d2⟩:=sA ⟨c.fb,r1.2.fi,r1.2.fh⟩ 9 (zE c1 d1) (by omega)
  obtain⟨r3,a3,b3,c3,d3⟩:=sA ⟨c.fb,r2.2.fi,r2.2.fh⟩ 41 (zE c2 d2) (by omega)
  obtain⟨r4,a4,b4,c4,d4⟩:=sA ⟨c.fb,r3.2.fi,r3.2.fh⟩ 41 (zE c3 d3) (by omega)
  obtain⟨q,eq,hq,hq2⟩:=aHx (a:=r1.1) (b:=k) (w:=1+r2.1) (x:=r3.1-20) (y:=r4.1-20) (by omega) (by omega) (by omega) (by omega) (by omega) (by omega)
  have hqb:q.b=k:=by have:=hq.1;omega
  have st:kX c n ((k:Int),l.map QL.toL,fi,fh)=some (.inl (((k+1:Nat):Int),(l++[q]).map QL.toL,r4.2.fi,r4.2.fh)):=by
   unfold kX
   simp only[]
   rw[aTd (by omega),a1]
   simp only[aTb]
   rw[a2]
   simp only[aTb]
   rw[a3]
   simp only[aTb]
   rw[a4]
   simp only[aTb]
   rw[wi (n:=1+r2.1) (by omega),wi (n:=r3.1-20) (by omega),wi (n:=r4.1-20) (by omega),eq]
   simp only[aTb]
   rw[aM (by rw[aTs];omega),wi (n:=(k:Int)+1) (by omega)]
   simp only[aTb,aJ,aUc,aTo,aT8]
   rfl
  rw[aQ st]
  refine ih (k+1) (l++[q]) r4.2.fi r4.2.fh (by omega) (by omega) (zE c4 d4) (by rw[aTF,aTY];omega) (fun x hx=>?_) (fun j h1 h2=>?_)
  · rcases aTj.1 hx with hx | hx
    · exact he x hx
    · simp at hx;subst hx;exact⟨hq,by omega⟩
  · by_cases e:j=k
    · exact⟨q,by simp,by omega⟩
    · obtain⟨x,hx,h⟩:=ha j h1 (by omega)
      exact⟨x,by simp[hx],h⟩
theorem aSt (c:l01Cur)(n:Int)(hn:1<=n/\n<=4):∀ (m:Nat) (l:List QL) (fi fh:Int),sY ⟨c.fb,fi,fh⟩->l.length+m<=7->(∀ x∈l,LkI x/\x.b<=n+1)->
 ∃ (l':List QL) (fi' fh':Int),lp (kW c n) ((m:Int),l.map QL.toL,fi,fh)=some ((l++l').map QL.toL,fi',fh')/\sY ⟨c.fb,fi',fh'⟩/\(l++l').length<=7/\∀ x∈l++l',LkI x/\x.b<=n+1:=by
 intro m
 induction m with
 | zero =>
  intro l fi fh hc hl he
  refine⟨[],fi,fh,aK ?_,hc,by simpa using hl,by simpa using he⟩
  unfold kW
  simp only[]
  rw[aTc (by omega),aUf]
 | succ m ih =>
  intro l fi fh hc hl he
  obtain⟨q,c',a1,a2,a3,a4,a5⟩:=aRG ⟨c.fb,fi,fh⟩ (n+1) hc (by omega)
  have st:kW c n (((m+1:Nat):Int),l.map QL.toL,fi,fh)=some (.inl ((m:Int),(l++[q]).map QL.toL,c'.fi,c'.fh)):=by
   unfold kW
   simp only[]
   rw[aTd (by omega),wi (n:=n+1) (by omega),a1]
   simp only[aTb]
   rw[aM (by rw[aTs];omega),wi (n:=((m+1:Nat):Int)-1) (by omega)]
   simp only[aTb,aJ,aUc,aTo,aT8]
   rw[show((m+1:Nat):Int)-1=(m:Int)by omega]
  rw[aQ st]
  obtain⟨l',fi',fh',g1,g2,g3,g4⟩:=ih (l++[q]) c'.fi c'.fh (zE a2 a3) (by rw[aTF,aTY];omega) (fun x hx=>by
   rcases aTj.1 hx with hx | hx
   · exact he x hx
   · simp at hx;subst hx;exact⟨a4,a5⟩)
  have e:l++[q]++l'=l++(q::l'):=by simp
  rw[e]at g1 g3 g4
  exact⟨q::l',fi',fh',g1,g2,g3,g4⟩
theorem aRv (c:l01Cur)(n:Int)(h:sY c)(hn:1<=n/\n<=4):∃ (l:List QL) (c':l01Cur),tJ c n=some (l.map QL.toL,c')/\sY c'/\c'.fb=c.fb/\LinkL n l:=by
 obtain⟨l1,f1,g1,e1,o1,n1,h1,a1⟩:=aSu c n hn n.toNat 1 [] c.fi c.fh (by omega) (by omega) h rfl (by simp) (fun j h1 h2=>by omega)
 obtain⟨r,e2,b2,o2,d2⟩:=sA ⟨c.fb,f1,g1⟩ 4 o1 (by omega)
 obtain⟨l2,f3,g3,e3,o3,n3,h3⟩:=aSt c n hn r.1.toNat l1 r.2.fi r.2.fh (zE o2 d2) (by omega) (fun x hx=>⟨(h1 x hx).1,by have:=(h1 x hx).2;omega⟩)
 refine⟨l1++l2,⟨c.fb,f3,g3⟩,?_,o3,rfl,⟨h3,n3,fun k k1 k2=>?_⟩⟩
 · unfold tJ
   rw[show((1:Nat):Int)=1 from rfl,aT8]at e1
   rw[e1]
   simp only[aTb]
   rw[e2]
   simp only[aTb]
   rw[show((r.1.toNat:Nat):Int)=r.1 by omega]at e3
   rw[e3]
   rfl
 · obtain⟨x,hx,e⟩:=a1 k k1 k2
   exact⟨x,by simp[hx],e⟩
/- Is it a tree, both programs, and the law. -/
def aIv (t:Tree):List Int:=t.fNodes.map (·.fNode)
def aEY (t:Tree):Prop:=zQ (fD t.fNodes) (aIv t)=some t
/- Paths of a tree end: what a tree's node hands up lies later in the order. -/
def pr (s:List Link)(x y:Int):Prop:=∃ l∈s,l.fA=x/\l.fB=y
theorem aIq {a b:List Link}{x y:Int}:pr (a++b) x y↔pr a x y\/pr b x y:=by
 unfold pr
 constructor
 · rintro⟨l,h,e⟩
   rcases aTj.1 h with h | h
   · exact .inl ⟨l,h,e⟩
   · exact .inr ⟨l,h,e⟩
 · rintro(⟨l,h,e⟩ | ⟨l,h,e⟩)
   · exact⟨l,aT5 _ h,e⟩
   · exact⟨l,aT7 _ h,e⟩
theorem aEV {a:List Link}{l:Link}{x y:Int}:pr (l::a) x y↔(l.fA=x/\l.fB=y)\/pr a x y:=by
 unfold pr;simp only[aTf,exists_eq_or_imp]
theorem aN5 {x y:Int}:¬pr [] x y:=by rintro⟨l,h,_⟩;cases h
theorem aQp {s:List Link}{l:Link}{s':List Link}{e:Rat}(h:aAR s l=some (s',e))(x y:Int):pr s' x y↔pr s x y\/(l.fA=x/\l.fB=y):=by
 have ins:∀ p,pr (s.take p++[l]++s.drop p) x y↔pr s x y\/(l.fA=x/\l.fB=y):=by
  intro p
  have e1:pr s x y↔pr (s.take p) x y\/pr (s.drop p) x y:=by rw[<- aIq,aT6]
  rw[e1,aTx,aIq,aUk,aEV]
  constructor
  · rintro(h | h | h)
    · exact .inl (.inl h)
    · exact .inr h
    · exact .inl (.inr h)
  · rintro((h | h) | h)
    · exact .inl h
    · exact .inr (.inr h)
    · exact .inr (.inl h)
 unfold aAR at h
 by_cases c:dK l s<s.length
 · rw[aVk c]at h
   by_cases c2:eO l s[dK l s]
   · rw[aTd c2]at h;cases h;exact ins _
   · rw[aTc c2]at h
     have nl:=aBU l s c
     have hA:s[dK l s].fA=l.fA/\s[dK l s].fB=l.fB:=by unfold eO at c2 nl;omega
     by_cases O:yY s[dK l s] l
     · rw[aTd O]at h;cases h
       have e1:pr s x y↔pr (s.take (dK l s)) x y\/((s[dK l s].fA=x/\s[dK l s].fB=y)\/pr (s.drop (dK l s+1)) x y):=by
        rw[<- aEV,<- aTh c,<- aIq,aT6]
       rw[e1,aTx,aIq,aUk,aEV]
       have e2:(aA8 s[dK l s] l).fA=s[dK l s].fA:=rfl
       have e3:(aA8 s[dK l s] l).fB=s[dK l s].fB:=rfl
       rw[e2,e3,hA.1,hA.2]
       constructor
       · rintro(h | h | h)
         · exact .inl (.inl h)
         · exact .inr h
         · exact .inl (.inr (.inr h))
       · rintro((h | h | h) | h)
         · exact .inl h
         · exact .inr (.inl h)
         · exact .inr (.inr h)
         · exact .inr (.inl h)
     · rw[aTc O]at h;cases h
 · rw[aVl c]at h;cases h;exact ins _
theorem aJO:∀ (l s:List Link) (e:Rat) (s':List Link) (e':Rat),uI l s e=some (s',e')->∀ x y,pr s' x y↔pr s x y\/pr l x y
 | [],s,e,s',e',h,x,y=>by
  rw[uI]at h;cases h
  exact⟨.inl,fun h=>h.elim id (fun h=>(aN5 h).elim)⟩
 | a::r,s,e,s',e',h,x,y=>by
  rw[uI]at h
  cases ha:aAR s a with
  | none=>rw[ha]at h;cases h
  | some t =>
   obtain⟨s1,e1⟩:=t
   rw[ha]at h
   simp only[]at h
   by_cases c:bD (RA e e1)
   · rw[aTd c]at h
     rw[aJO r s1 _ s' e' h x y,aQp ha,aEV,or_assoc]
   · rw[aTc c]at h;cases h
theorem aOF {l s:List Link}{e:Rat}(h:jnP l=some (s,e))(x y:Int):pr s x y↔pr l x y:=by
 unfold jnP at h
 by_cases c:∀ x∈l,ValidL x
 · rw[aTd c]at h
   rw[aJO l [] _ s e h x y]
   exact⟨fun h=>h.elim (fun h=>(aN5 h).elim) id,.inr⟩
 · rw[aTc c]at h;cases h
def adj (s:List Link)(x y:Int):Prop:=pr s x y\/pr s y x
def en (s:List Link)(x:Int):Prop:=∃ y,adj s x y
structure PathN (o:List Int)(n:TreeNode):Prop where
 near:∀ x,en n.fMessages x->x∈aFF n.fCond
 clq:∀ x y,x∈aFF n.fCond->y∈aFF n.fCond->x<y->pr n.fMessages x y
 late:∀ i (h:i<o.length),o[i]=n.fNode->∀ p∈aFF n.fCond,p∉o.take (i+1)
/- Trees in another order, and the nodes that a change affects: both programs, and the laws. -/
/- The law of building a tree; inserting a link, both programs, and the law. -/
/- Cliques: their nodes in order. -/
end Go.Ev
