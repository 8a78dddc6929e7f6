/- Parts PG1, PG2, PG3, PG4, P1, P2, P5, P3, P6, P7, P8, P9, PM, P10, PG5, PG6, PF, P25, P26, P27, MY1, PH, UB, PQ1, PQ2. -/
import Derived.Test.YtmgbflccodamfaaGreatPa1
import Derived.Test.YtmgbflccodamfaaGreatLYd
set_option linter.all false
set_option maxHeartbeats 4000000
set_option maxRecDepth 20000
/- The cursor and what is drawn from it. -/
namespace Go.Ev
open IntKind
theorem aIl (x:Int):0<=aAe .i64 x 255/\aAe .i64 x 255<=255:=by
 unfold aAe
 have h:(BitVec.ofInt (IntKind.bits .i64) x &&& BitVec.ofInt (IntKind.bits .i64) 255).toNat<=255:=by
  rw[BitVec.toNat_and]
  exact aUE Nat.and_le_right (by decide)
 rw[wi (by omega)]
 omega
def rH (c:l01Cur):Prop:=c.fb.length<=1048576/\0<=c.fi/\c.fi<=1048577
theorem aJk (c:l01Cur)(h:rH c):∃ r,eY c=some r/\(0<=r.1/\r.1<=255)/\rH r.2/\r.2.fb=c.fb:=by
 obtain⟨h1,h2,h3⟩:=h
 unfold eY
 simp only[aL]
 by_cases hc:c.fi<(c.fb.length:Int)
 · rw[aUs hc]
   have:=aH (l:=c.fb) (k:=c.fi.toNat) (by omega)
   rw[show((c.fi.toNat:Nat):Int)=c.fi by omega]at this
   rw[this]
   simp only[aUp]
   refine⟨_,rfl,aIl _,⟨h1,?_,?_⟩,rfl⟩
   · simp only[];rw[wi (by omega)];omega
   · simp only[];rw[wi (by omega)];omega
 · rw[aUq hc]
   exact⟨_,rfl,aIl _,⟨h1,h2,h3⟩,rfl⟩
theorem jH (c:l01Cur)(n:Int)(h:rH c)(hn:1<=n/\n<=256):∃ r,bC c n=some r/\(0<=r.1/\r.1<n)/\rH r.2/\r.2.fb=c.fb:=by
 unfold bC
 rw[aUq (by omega),aUs (by omega)]
 obtain⟨r,e,g1,g2,g3⟩:=aJk c h
 rw[show(l01Cur.mk c.fb c.fi c.fh)=c from rfl,e]
 simp only[aUp]
 rw[aI (by omega)]
 refine⟨_,rfl,⟨Int.tmod_nonneg _ g1.1,Int.tmod_lt_of_pos _ (by omega)⟩,?_,rfl⟩
 unfold rH at g2 h ⊢
 simp only[]
 exact⟨h.1,g2.2⟩
theorem aRs (code:List Int)(h:code.length<=1048576):∃ c,sS code=some c/\rH c/\c.fb=code:=by
 unfold sS
 simp only[aL]
 have main:∀ (m k:Nat) (v:Int),m+k=code.length->∃ d,lp (mB code) (v,(k:Int))=some d:=by
  intro m
  induction m with
  | zero =>
   intro k v hk
   exact⟨v,aG (by unfold mB;simp only[];rw[aUq (by omega)];rfl)⟩
  | succ m ih =>
   intro k v hk
   have hlt:k<code.length:=by omega
   by_cases c:(k:Int)<4000
   · obtain⟨d,e⟩:=ih (k+1) (aAe .i64 (i64.wrap (i64.wrap (i64.wrap (v*59)+i64.wrap code[k])+7)) 1073741823) (by omega)
     refine⟨d,?_⟩
     rw[aO (s':=(aAe .i64 (i64.wrap (i64.wrap (i64.wrap (v*59)+i64.wrap code[k])+7)) 1073741823,((k+1:Nat):Int))),e]
     unfold mB
     simp only[]
     rw[aUs (by omega),aH hlt]
     have w:i64.wrap ((k:Int)+1)=((k+1:Nat):Int):=by rw[wi (by omega)];omega
     simp only[aUp,aUu c,aUK,aL,w]
   · refine⟨v,aG ?_⟩
     unfold mB
     simp only[]
     rw[aUs (by omega)]
     simp only[aUp,aUt c,aUv,aUT]
 obtain⟨d,e⟩:=main code.length 0 (i64.wrap (1951+(code.length:Int))) (by omega)
 rw[show((0:Nat):Int)=0 from rfl]at e
 rw[e]
 exact⟨_,rfl,⟨h,by simp,by simp⟩,rfl⟩
/- Poses that are small; digits. -/
def smP (B:Int)(p:Pose):Prop:=(0<=p.fTurn/\p.fTurn<=3)/\(-B<=p.fX/\p.fX<=B)/\(-B<=p.fY/\p.fY<=B)
theorem smP.up {B C:Int}{p:Pose}(h:smP B p)(hc:B<=C):smP C p:=by
 obtain⟨h1,h2,h3⟩:=h
 exact⟨h1,by omega,by omega⟩
theorem vps {B:Int}{p:Pose}(h:smP B p)(hb:B<=1000000):cP p=some true:=by
 obtain⟨h1,h2,h3⟩:=h
 unfold cP gO
 rw[aUs (by omega),aUu (by omega)]
 simp only[aUp,aUK]
 rw[aUs (by omega),aUu (by omega)]
 simp only[aUp,aUK]
 rw[aUs (by omega),aUu (by omega)]
 rfl
def rtN:Nat->Int->Int->Int×Int
 | 0,u,v=>(u,v)
 | m+1,u,v=>rtN m (0-v) u
theorem aHP {B:Int}:∀ (m:Nat) (u v:Int),(-B<=u/\u<=B)->(-B<=v/\v<=B)->(-B<=(rtN m u v).1/\(rtN m u v).1<=B)/\(-B<=(rtN m u v).2/\(rtN m u v).2<=B)
 | 0,u,v,hu,hv=>⟨hu,hv⟩
 | m+1,u,v,hu,hv=>aHP m (0-v) u (by omega) hu
theorem aMj:∀ (m:Nat) (a b c d:Int),(rtN m (a+c) (b+d)).1=(rtN m a b).1+(rtN m c d).1/\(rtN m (a+c) (b+d)).2=(rtN m a b).2+(rtN m c d).2
 | 0,a,b,c,d=>⟨rfl,rfl⟩
 | m+1,a,b,c,d=>by
  have:=aMj m (0-b) a (0-d) c
  rw[show(0-b)+(0-d)=0-(b+d)by omega]at this
  exact this
theorem aOp (x y t:Int)(ht:0<=t/\t<=3)(hx:-1000000<=x/\x<=1000000)(hy:-1000000<=y/\y<=1000000):jL x y t=some (rtN t.toNat x y):=by
 unfold jL
 rw[vps (p:=⟨t,x,y⟩) ⟨ht,hx,hy⟩ (by omega)]
 simp only[aUp,aUK]
 have main:∀ (m:Nat) (u v i:Int),(m:Int)+i=t->0<=i->(-1000000<=u/\u<=1000000)->(-1000000<=v/\v<=1000000)->lp (jQ t) (u,v,i)=some (rtN m u v):=by
  intro m
  induction m with
  | zero =>
   intro u v i hi _ hu hv
   exact aG (by unfold jQ;simp only[];rw[aUq (by omega)];rfl)
  | succ m ih =>
   intro u v i hi h0 hu hv
   have e:=ih (0-v) u (i+1) (by omega) (by omega) (by omega) hu
   rw[aO (s':=(0-v,u,i+1)),e]
   · rfl
   · unfold jQ
     simp only[]
     rw[aUs (by omega),wi (by omega),wi (by omega)]
 rw[main t.toNat x y 0 (by omega) (by omega) hx hy]
 rfl
theorem aPF {p q:Pose}{B C:Int}(hp:smP B p)(hq:smP C q)(h:B+C<=1000000)(hb:0<=B)(hc:0<=C):kP p q=some (⟨(p.fTurn+q.fTurn).tmod 4,p.fX+(rtN p.fTurn.toNat q.fX q.fY).1,p.fY+(rtN p.fTurn.toNat q.fX q.fY).2⟩,true):=by
 obtain⟨p1,p2,p3⟩:=hp
 obtain⟨q1,q2,q3⟩:=hq
 obtain⟨g1,g2⟩:=aHP p.fTurn.toNat q.fX q.fY q2 q3
 unfold kP
 rw[vps (p:=p) ⟨p1,p2,p3⟩ (by omega),vps (p:=q) ⟨q1,q2,q3⟩ (by omega)]
 simp only[aUp,aUK,aVj,aUv,aUT,aOp q.fX q.fY p.fTurn p1 (by omega) (by omega),aL]
 have t1:=Int.tmod_nonneg 4 (show 0<=p.fTurn+q.fTurn by omega)
 have t2:=Int.tmod_lt_of_pos (p.fTurn+q.fTurn) (show(0:Int)<4 by omega)
 rw[wi (n:=p.fTurn+q.fTurn) (by omega),wi (n:=p.fX+(rtN p.fTurn.toNat q.fX q.fY).1) (by omega),wi (n:=p.fY+(rtN p.fTurn.toNat q.fX q.fY).2) (by omega)]
 have s:smP (B+C) ⟨(p.fTurn+q.fTurn).tmod 4,p.fX+(rtN p.fTurn.toNat q.fX q.fY).1,p.fY+(rtN p.fTurn.toNat q.fX q.fY).2⟩:=⟨⟨t1,by simp only[];omega⟩,by simp only[];omega,by simp only[];omega⟩
 rw[vps s h]
 rfl
theorem aSs {p q:Pose}{B C:Int}(hp:smP B p)(hq:smP C q)(h:B+C<=1000000)(hb:0<=B)(hc:0<=C):∃ r,kP p q=some (r,true)/\smP (B+C) r/\(-C<=r.fX-p.fX/\r.fX-p.fX<=C)/\(-C<=r.fY-p.fY/\r.fY-p.fY<=C):=by
 have e:=aPF hp hq h hb hc
 obtain⟨p1,p2,p3⟩:=hp
 obtain⟨q1,q2,q3⟩:=hq
 obtain⟨g1,g2⟩:=aHP p.fTurn.toNat q.fX q.fY q2 q3
 have t1:=Int.tmod_nonneg 4 (show 0<=p.fTurn+q.fTurn by omega)
 have t2:=Int.tmod_lt_of_pos (p.fTurn+q.fTurn) (show(0:Int)<4 by omega)
 exact⟨_,e,⟨⟨t1,by simp only[];omega⟩,by simp only[];omega,by simp only[];omega⟩,by simp only[];omega,by simp only[];omega⟩
theorem aSw {p q:Pose}{B D:Int}(hp:smP B p)(hq:smP B q)(h:B+B<=1000000)(hb:0<=B)(h1:-D<=q.fX-p.fX/\q.fX-p.fX<=D)(h2:-D<=q.fY-p.fY/\q.fY-p.fY<=D):∃ r,tT p q=some r/\smP D r:=by
 obtain⟨p1,p2,p3⟩:=hp
 have t1:=Int.tmod_nonneg 4 (show 0<=4-p.fTurn by omega)
 have t2:=Int.tmod_lt_of_pos (4-p.fTurn) (show(0:Int)<4 by omega)
 have b1:=aHP (B:=B) ((4-p.fTurn).tmod 4).toNat (0-p.fX) (0-p.fY) (by omega) (by omega)
 have e1:tR p=some ⟨(4-p.fTurn).tmod 4,(rtN ((4-p.fTurn).tmod 4).toNat (0-p.fX) (0-p.fY)).1,(rtN ((4-p.fTurn).tmod 4).toNat (0-p.fX) (0-p.fY)).2⟩:=by
  unfold tR
  rw[vps (p:=p) ⟨p1,p2,p3⟩ (by omega)]
  simp only[aUp,aUK,aL]
  rw[wi (n:=4-p.fTurn) (by omega),wi (n:=0-p.fX) (by omega),wi (n:=0-p.fY) (by omega),aOp _ _ _ ⟨t1,by omega⟩ (by omega) (by omega)]
  rfl
 have e2:=aPF (p:=⟨(4-p.fTurn).tmod 4,(rtN ((4-p.fTurn).tmod 4).toNat (0-p.fX) (0-p.fY)).1,(rtN ((4-p.fTurn).tmod 4).toNat (0-p.fX) (0-p.fY)).2⟩) (q:=q) (B:=B) ⟨⟨t1,by simp only[];omega⟩,b1.1,b1.2⟩ hq h hb hb
 obtain⟨q1,q2,q3⟩:=hq
 have t3:=Int.tmod_nonneg 4 (show 0<=(4-p.fTurn).tmod 4+q.fTurn by omega)
 have t4:=Int.tmod_lt_of_pos ((4-p.fTurn).tmod 4+q.fTurn) (show(0:Int)<4 by omega)
 have ad:=aMj ((4-p.fTurn).tmod 4).toNat (0-p.fX) (0-p.fY) q.fX q.fY
 have bd:=aHP (B:=D) ((4-p.fTurn).tmod 4).toNat (0-p.fX+q.fX) (0-p.fY+q.fY) (by omega) (by omega)
 unfold tT qV
 rw[e1]
 simp only[aUp,e2]
 refine⟨_,rfl,⟨t3,by simp only[];omega⟩,?_,?_⟩
 · simp only[];rw[<- ad.1];exact bd.1
 · simp only[];rw[<- ad.2];exact bd.2
def dgt (k:Int):ByteArray:=aBi (48+k)
theorem aPR (b:ByteArray):b++(⟨#[]⟩:ByteArray)=b:=by
 apply ByteArray.ext
 simp
theorem aT7 {n:Int}(h:0<=n/\n<=255):IntKind.u8.wrap n=n:=by
 show(n % 256:Int)=n
 omega
theorem aKr (k:Int)(h:0<=k/\k<=9):jY k=some (dgt k):=by
 show qU (mD 63) k=_
 unfold qU
 rw[aUq (by omega),aG (r:=(k,(⟨#[]⟩:ByteArray))) (by unfold tS;simp only[];rw[aUq (by omega)])]
 simp only[aUp,aL]
 rw[wi (by omega),aT7 (by omega),aI (by rw[show(aBi (48+k)).size=1 from rfl];decide)]
 simp only[aUp]
 rw[aPR]
 rfl
theorem aKA (k:Int):(dgt k).size=1:=rfl
/- The factor lists that are drawn. -/
def pN (k:Int):ByteArray:=(⟨#[112]⟩:ByteArray)++dgt k
def mN (k:Int):ByteArray:=(⟨#[109]⟩:ByteArray)++dgt k
def aIu (j:Nat)(f:Factor):Prop :=
 f.fId=(j:Int)+1/\(1<=f.fWeight/\f.fWeight<=9)/\smP 20 f.fPose/\
  (if j=0 then f.fKind=1/\f.fFrom=ByteArray.empty/\f.fTo=pN 0 else f.fKind=2/\f.fFrom=pN ((j:Int)-1)/\f.fTo=pN j)
def aL9 (n:Int)(j:Nat)(f:Factor):Prop :=
 f.fId=(j:Int)+1/\(1<=f.fWeight/\f.fWeight<=9)/\smP 50 f.fPose/\∃ i,(0<=i/\i<=n)/\f.fFrom=pN i/\
  ((f.fKind=4/\∃ k,(0<=k/\k<=n)/\k≠i/\f.fTo=pN k)\/(f.fKind=3/\f.fPose.fTurn=0/\∃ b,(0<=b/\b<=1)/\f.fTo=mN b))
def Odo (l:List Factor):Prop:=∀ j (h:j<l.length),aIu j l[j]
def GenL (n:Int)(l:List Factor):Prop:=(1<=n/\n<=4)/\n+1<=l.length/\l.length<=n+4/\∀ j (h:j<l.length),(((j:Int)<=n->aIu j l[j])/\(n<(j:Int)->aL9 n j l[j]))
def Cl (ps:List Pose):Prop:=∀ i j (hi:i<ps.length) (hj:j<ps.length),i<=j->(-8*((j:Int)-i)<=(ps[j]).fX-(ps[i]).fX/\(ps[j]).fX-(ps[i]).fX<=8*((j:Int)-i))/\(-8*((j:Int)-i)<=(ps[j]).fY-(ps[i]).fY/\(ps[j]).fY-(ps[i]).fY<=8*((j:Int)-i))
theorem Cl.app {ps:List Pose}{p:Pose}(h:Cl ps)(h0:0<ps.length)(h1:-8<=p.fX-(ps[ps.length-1]).fX/\p.fX-(ps[ps.length-1]).fX<=8)(h2:-8<=p.fY-(ps[ps.length-1]).fY/\p.fY-(ps[ps.length-1]).fY<=8):Cl (ps++[p]):=by
 intro i j hi hj hij
 rw[aUF,aU5]at hi hj
 by_cases cj:j<ps.length
 · rw[List.getElem_append_left cj,List.getElem_append_left (show i<ps.length by omega)]
   exact h i j (by omega) cj hij
 · have:j=ps.length:=by omega
   subst this
   simp only[List.getElem_concat_length]
   by_cases ci:i<ps.length
   · rw[List.getElem_append_left ci]
     have:=h i (ps.length-1) ci (by omega) (by omega)
     omega
   · have:i=ps.length:=by omega
     subst this
     simp only[List.getElem_concat_length]
     omega
theorem Cl.near {ps:List Pose}(h:Cl ps)(h5:ps.length<=5){i j:Nat}(hi:i<ps.length)(hj:j<ps.length):(-32<=(ps[j]).fX-(ps[i]).fX/\(ps[j]).fX-(ps[i]).fX<=32)/\(-32<=(ps[j]).fY-(ps[i]).fY/\(ps[j]).fY-(ps[i]).fY<=32):=by
 rcases Nat.le_total i j with c | c
 · have:=h i j hi hj c;omega
 · have:=h j i hj hi c;omega
theorem gZ {fb:List Int}{c:l01Cur}(h:rH c)(e:c.fb=fb):rH ⟨fb,c.fi,c.fh⟩:=by
 subst e;exact h
theorem aHY (k:Int):((⟨#[112]⟩:ByteArray).size+(dgt k).size<=9223372036854775807):=by
 rw[aKA];decide
theorem aTm (k:Int):((⟨#[109]⟩:ByteArray).size+(dgt k).size<=9223372036854775807):=by
 rw[aKA];decide
theorem aUd (c:l01Cur)(r:Int×l01Cur)(hr:0<=r.1/\r.1<=3):∀ (m k:Nat) (ps:List Pose) (l:List Factor) (fi fh:Int),(m:Int)+k=2+r.1->1<=k->rH ⟨c.fb,fi,fh⟩->ps.length=k->(∀ p∈ps,smP (20+9*k) p)->Cl ps->l.length=k->Odo l->
 ∃ ps' l' fi' fh',lp (kO c r) ((k:Int),ps,l,fi,fh)=some (ps',l',fi',fh')/\rH ⟨c.fb,fi',fh'⟩/\(ps'.length:Int)=2+r.1/\(∀ p∈ps',smP 100 p)/\Cl ps'/\(l'.length:Int)=2+r.1/\Odo l':=by
 intro m
 induction m with
 | zero =>
  intro k ps l fi fh hm hk hc hps hp hcl hl ho
  refine⟨ps,l,fi,fh,aG ?_,hc,by omega,fun p h=>(hp p h).up (by omega),hcl,by omega,ho⟩
  unfold kO
  simp only[]
  rw[aUq (by rw[wi (by omega)];omega)]
 | succ m ih =>
  intro k ps l fi fh hm hk hc hps hp hcl hl ho
  obtain⟨r1,a1,b1,c1,d1⟩:=jH ⟨c.fb,fi,fh⟩ 4 hc (by omega)
  obtain⟨r2,a2,b2,c2,d2⟩:=jH ⟨c.fb,r1.2.fi,r1.2.fh⟩ 9 (gZ c1 d1) (by omega)
  obtain⟨r3,a3,b3,c3,d3⟩:=jH ⟨c.fb,r2.2.fi,r2.2.fh⟩ 5 (gZ c2 d2) (by omega)
  obtain⟨r4,a4,b4,c4,d4⟩:=jH ⟨c.fb,r3.2.fi,r3.2.fh⟩ 2 (gZ c3 d3) (by omega)
  obtain⟨r5,a5,b5,c5,d5⟩:=jH ⟨c.fb,r4.2.fi,r4.2.fh⟩ 9 (gZ c4 d4) (by omega)
  have hlast:k-1<ps.length:=by omega
  have hq:=hp _ (aUA hlast)
  have hst:smP 8 ⟨r1.1,r2.1,r3.1-2⟩:=⟨⟨b1.1,by simp only[];omega⟩,by simp only[];omega,by simp only[];omega⟩
  obtain⟨p',e1,e2,e3,e4⟩:=aSs hq hst (by omega) (by omega) (by omega)
  have ix:idx ps (IntKind.i64.wrap ((k:Int)-1))=some ps[k-1]:=by
   rw[wi (by omega),show(k:Int)-1=((k-1:Nat):Int)by omega,aH hlast]
  have f1:=aKr ((k:Int)-1) (by omega)
  have f2:=aKr (k:Int) (by omega)
  have st:kO c r ((k:Int),ps,l,fi,fh)=some (.inl (((k+1:Nat):Int),ps++[p'],l++[(⟨(k:Int)+1,2,pN ((k:Int)-1),pN k,⟨r1.1,r2.1+r4.1,r3.1-2⟩,1+r5.1⟩:Factor)],r5.2.fi,r5.2.fh)):=by
   unfold kO
   simp only[]
   rw[aUs (by rw[wi (by omega)];omega),a1]
   simp only[aUp]
   rw[a2]
   simp only[aUp]
   rw[a3]
   simp only[aUp]
   rw[ix]
   simp only[aUp]
   rw[wi (n:=r3.1-2) (by omega)]
   unfold qV
   rw[e1]
   simp only[aUp]
   rw[aI (by omega)]
   simp only[aUp,aL]
   rw[a4]
   simp only[aUp]
   rw[wi (n:=(k:Int)-1) (by omega),f1]
   simp only[aUp]
   rw[aI (aHY _)]
   simp only[aUp,aL]
   rw[f2]
   simp only[aUp]
   rw[aI (aHY _)]
   simp only[aUp,aL]
   rw[a5]
   simp only[aUp]
   rw[aI (by omega),wi (n:=(l.length:Int)+1) (by omega),wi (n:=r2.1+r4.1) (by omega),wi (n:=1+r5.1) (by omega),wi (n:=(k:Int)+1) (by omega),hl]
   rfl
  obtain⟨ps',l',fi',fh',q1,q2,q3,q4,q7,q5,q6⟩:=ih (k+1) (ps++[p']) (l++[(⟨(k:Int)+1,2,pN ((k:Int)-1),pN k,⟨r1.1,r2.1+r4.1,r3.1-2⟩,1+r5.1⟩:Factor)]) r5.2.fi r5.2.fh (by omega) (by omega) (gZ c5 d5) (by simp;omega) (fun p h=>by
   rcases aUz.1 h with h | h
   · exact(hp p h).up (by omega)
   · rw[aU2.1 h];exact e2.up (by omega)) (by
   subst hps
   exact hcl.app (by omega) e3 e4) (by simp;omega) (fun j hj=>by
   rw[aUF,aU5]at hj
   by_cases e:j<l.length
   · rw[List.getElem_append_left e];exact ho j e
   · have:j=l.length:=by omega
     subst this
     simp only[List.getElem_concat_length]
     refine⟨by simp only[];omega,by simp only[];omega,⟨⟨b1.1,by simp only[];omega⟩,by simp only[];omega,by simp only[];omega⟩,?_⟩
     rw[aUq (by omega)]
     exact⟨rfl,by simp only[hl],by simp only[hl]⟩)
  exact⟨ps',l',fi',fh',by rw[aO st];exact q1,q2,q3,q4,q7,q5,q6⟩
/- The factor lists that are drawn: loops and landmarks; the whole list. -/
open IntKind
theorem aOJ (c:l01Cur)(n:Int)(h:rH c)(hn:1<=n/\n<=256):∃ r,kY c n=some r/\rH r.2/\r.2.fb=c.fb:=by
 obtain⟨r,a,b,d,e⟩:=jH c n h hn
 unfold kY
 rw[show(l01Cur.mk c.fb c.fi c.fh)=c from rfl,a]
 exact⟨_,rfl,gZ d e,rfl⟩
theorem aUc (c:l01Cur)(r:Int×l01Cur)(d:List Pose×List Factor×Int×Int)(hr:0<=r.1/\r.1<=3)(hd:(d.1.length:Int)=2+r.1)(hp:∀ p∈d.1,smP 100 p)(hcl:Cl d.1):∀ (m:Nat) (l:List Factor) (fi fh:Int),rH ⟨c.fb,fi,fh⟩->(l.length:Int)+m<=1+r.1+4->1+r.1+1<=l.length->(∀ j (h:j<l.length),((j:Int)<=1+r.1->aIu j l[j])/\(1+r.1<(j:Int)->aL9 (1+r.1) j l[j]))->
 ∃ l' fi' fh',lp (eX c r d) ((m:Int),l,fi,fh)=some (l',fi',fh')/\rH ⟨c.fb,fi',fh'⟩/\1+r.1+1<=l'.length/\l'.length<=1+r.1+4/\(∀ j (h:j<l'.length),((j:Int)<=1+r.1->aIu j l'[j])/\(1+r.1<(j:Int)->aL9 (1+r.1) j l'[j])):=by
 intro m
 induction m with
 | zero =>
  intro l fi fh hc hl h1 ho
  refine⟨l,fi,fh,aG ?_,hc,h1,by omega,ho⟩
  unfold eX
  simp only[]
  rw[aUq (by omega)]
 | succ m ih =>
  intro l fi fh hc hl h1 ho
  have w1:i64.wrap (i64.wrap (1+r.1)+1)=1+r.1+1:=by rw[wi (n:=1+r.1) (by omega),wi (by omega)]
  obtain⟨r1,a1,b1,c1,d1⟩:=jH ⟨c.fb,fi,fh⟩ (1+r.1+1) hc (by omega)
  obtain⟨r2,a2,b2,c2,d2⟩:=jH ⟨c.fb,r1.2.fi,r1.2.fh⟩ (1+r.1+1) (gZ c1 d1) (by omega)
  obtain⟨r3,a3,b3,c3,d3⟩:=jH ⟨c.fb,r2.2.fi,r2.2.fh⟩ 9 (gZ c2 d2) (by omega)
  have i1:r1.1.toNat<d.1.length:=by omega
  have i2:r2.1.toNat<d.1.length:=by omega
  have x1:idx d.1 r1.1=some d.1[r1.1.toNat]:=by
   have:=aH i1;rwa [show((r1.1.toNat:Nat):Int)=r1.1 by omega]at this
  have x2:idx d.1 r2.1=some d.1[r2.1.toNat]:=by
   have:=aH i2;rwa [show((r2.1.toNat:Nat):Int)=r2.1 by omega]at this
  obtain⟨p,e1,e2⟩:=aSw (D:=32) (hp _ (aUA i1)) (hp _ (aUA i2)) (by omega) (by omega) (hcl.near (by omega) i1 i2).1 (hcl.near (by omega) i1 i2).2
  obtain⟨e3,e4,e5⟩:=e2
  have f1:=aKr r1.1 (by omega)
  have f2:=aKr r2.1 (by omega)
  have wl:i64.wrap ((l.length:Int)+1)=(l.length:Int)+1:=wi (by omega)
  have ww:i64.wrap (1+r3.1)=1+r3.1:=wi (by omega)
  have fin:∀ (f:Factor) (u v:Int),rH ⟨c.fb,u,v⟩->aL9 (1+r.1) l.length f->eX c r d (((m+1:Nat):Int),l,fi,fh)=some (.inl ((m:Int),l++[f],u,v))->
   ∃ l' fi' fh',lp (eX c r d) (((m+1:Nat):Int),l,fi,fh)=some (l',fi',fh')/\rH ⟨c.fb,fi',fh'⟩/\1+r.1+1<=l'.length/\l'.length<=1+r.1+4/\(∀ j (h:j<l'.length),((j:Int)<=1+r.1->aIu j l'[j])/\(1+r.1<(j:Int)->aL9 (1+r.1) j l'[j])):=by
   intro f u v hc' hf hs
   rw[aO hs]
   refine ih (l++[f]) u v hc' (by simp;omega) (by simp;omega) (fun j hj=>?_)
   rw[aUF,aU5]at hj
   by_cases e:j<l.length
   · rw[List.getElem_append_left e];exact ho j e
   · have:j=l.length:=by omega
     subst this
     simp only[List.getElem_concat_length]
     exact⟨fun h=>by omega,fun _=>hf⟩
  have start:∀ (X:Option (Factor×Int×Int)),(∀ f u v,X=some (f,u,v)->True)->True:=fun _ _=>trivial
  have wm:i64.wrap (((m+1:Nat):Int)-1)=(m:Int):=by rw[wi (by omega)];omega
  by_cases hij:r1.1=r2.1
  · obtain⟨r4,a4,b4,c4,d4⟩:=jH ⟨c.fb,r3.2.fi,r3.2.fh⟩ 9 (gZ c3 d3) (by omega)
    obtain⟨r5,a5,b5,c5,d5⟩:=jH ⟨c.fb,r4.2.fi,r4.2.fh⟩ 9 (gZ c4 d4) (by omega)
    have t1:=Int.tmod_nonneg 2 b1.1
    have t2:=Int.tmod_lt_of_pos r1.1 (show(0:Int)<2 by omega)
    have f3:=aKr (r1.1.tmod 2) (by omega)
    refine fin ⟨(l.length:Int)+1,3,pN r1.1,mN (r1.1.tmod 2),⟨0,r4.1,r5.1⟩,1+r3.1⟩ r5.2.fi r5.2.fh (gZ c5 d5) ⟨by simp only[],by simp only[];omega,⟨by simp only[];omega,by simp only[];omega,by simp only[];omega⟩,r1.1,by omega,rfl,.inr ⟨rfl,rfl,r1.1.tmod 2,by omega,rfl⟩⟩ ?_
    unfold eX
    simp only[]
    rw[aUs (by omega)]
    simp only[aL,w1]
    rw[a1]
    simp only[aUp]
    rw[a2]
    simp only[aUp,wl]
    rw[f1]
    simp only[aUp]
    rw[aI (aHY _)]
    simp only[aUp]
    rw[f2]
    simp only[aUp]
    rw[aI (aHY _)]
    simp only[aUp]
    rw[x1,x2]
    simp only[aUp]
    rw[e1]
    simp only[aUp]
    rw[a3]
    simp only[aUp]
    rw[aUs hij,f3]
    simp only[aUp]
    rw[aI (aTm _)]
    simp only[aUp]
    rw[a4]
    simp only[aUp]
    rw[a5]
    simp only[aUp]
    rw[aI (by omega),ww,wm]
    rfl
  · have head:∀ (f:Factor) (u v:Int),((kY (l01Cur.mk c.fb r3.2.fi r3.2.fh) 3).bind fun r104=>(if r104.1=true then(bC (l01Cur.mk c.fb r104.2.fi r104.2.fh) 9).bind fun r105=>some ((Factor.mk ((l.length:Int)+1) 4 (pN r1.1) (pN r2.1) (Pose.mk p.fTurn (i64.wrap (i64.wrap (p.fX+7)+r105.1)) p.fY) (1+r3.1)),r105.2.fi,r105.2.fh)else(kY (l01Cur.mk c.fb r104.2.fi r104.2.fh) 4).bind fun r107=>(if r107.1=true then(bC (l01Cur.mk c.fb r107.2.fi r107.2.fh) 4).bind fun r108=>some ((Factor.mk ((l.length:Int)+1) 4 (pN r1.1) (pN r2.1) (Pose.mk r108.1 p.fX p.fY) (1+r3.1)),r108.2.fi,r108.2.fh)else some ((Factor.mk ((l.length:Int)+1) 4 (pN r1.1) (pN r2.1) p (1+r3.1)),r107.2.fi,r107.2.fh))):Option (Factor×Int×Int))=some (f,u,v)->eX c r d (((m+1:Nat):Int),l,fi,fh)=some (.inl ((m:Int),l++[f],u,v)):=by
     intro f u v hX
     unfold eX
     simp only[]
     rw[aUs (by omega)]
     simp only[aL,w1]
     rw[a1]
     simp only[aUp]
     rw[a2]
     simp only[aUp,wl]
     rw[f1]
     simp only[aUp]
     rw[aI (aHY _)]
     simp only[aUp]
     rw[f2]
     simp only[aUp]
     rw[aI (aHY _)]
     simp only[aUp]
     rw[x1,x2]
     simp only[aUp]
     rw[e1]
     simp only[aUp]
     rw[a3]
     simp only[aUp]
     rw[aUq hij,ww]
     have hX':=hX
     unfold pN at hX'
     rw[hX']
     simp only[aUp]
     rw[aI (by omega),wm]
     rfl
    have ex:∀ (q:Pose),smP 50 q->aL9 (1+r.1) l.length ⟨(l.length:Int)+1,4,pN r1.1,pN r2.1,q,1+r3.1⟩:=fun q hq=>⟨rfl,by simp only[];omega,hq,r1.1,by omega,rfl,.inl ⟨rfl,r2.1,by omega,fun e=>hij e.symm,rfl⟩⟩
    obtain⟨o1,g1,g2,g3⟩:=aOJ ⟨c.fb,r3.2.fi,r3.2.fh⟩ 3 (gZ c3 d3) (by omega)
    by_cases h3:o1.1=true
    · obtain⟨r4,a4,b4,c4,d4⟩:=jH ⟨c.fb,o1.2.fi,o1.2.fh⟩ 9 (gZ g2 g3) (by omega)
      refine fin _ r4.2.fi r4.2.fh (gZ c4 d4) (ex ⟨p.fTurn,p.fX+7+r4.1,p.fY⟩ ⟨e3,by simp only[];omega,by simp only[];omega⟩) (head _ _ _ ?_)
      rw[g1]
      simp only[aUp]
      rw[aUs h3,a4]
      simp only[aUp]
      rw[wi (n:=p.fX+7) (by omega),wi (n:=p.fX+7+r4.1) (by omega)]
    · obtain⟨o2,k1,k2,k3⟩:=aOJ ⟨c.fb,o1.2.fi,o1.2.fh⟩ 4 (gZ g2 g3) (by omega)
      by_cases h4:o2.1=true
      · obtain⟨r4,a4,b4,c4,d4⟩:=jH ⟨c.fb,o2.2.fi,o2.2.fh⟩ 4 (gZ k2 k3) (by omega)
        refine fin _ r4.2.fi r4.2.fh (gZ c4 d4) (ex ⟨r4.1,p.fX,p.fY⟩ ⟨by simp only[];omega,by simp only[];omega,by simp only[];omega⟩) (head _ _ _ ?_)
        rw[g1]
        simp only[aUp]
        rw[aUq h3,k1]
        simp only[aUp]
        rw[aUs h4,a4]
        rfl
      · refine fin _ o2.2.fi o2.2.fh (gZ k2 k3) (ex p ⟨e3,by omega,by omega⟩) (head _ _ _ ?_)
        rw[g1]
        simp only[aUp]
        rw[aUq h3,k1]
        simp only[aUp]
        rw[aUq h4]
theorem aSo (c:l01Cur)(h:rH c):∃ r,tO c=some r/\smP 20 r.1/\rH r.2/\r.2.fb=c.fb:=by
 obtain⟨r1,a1,b1,c1,d1⟩:=jH c 4 h (by omega)
 obtain⟨r2,a2,b2,c2,d2⟩:=jH ⟨c.fb,r1.2.fi,r1.2.fh⟩ 41 (gZ c1 d1) (by omega)
 obtain⟨r3,a3,b3,c3,d3⟩:=jH ⟨c.fb,r2.2.fi,r2.2.fh⟩ 41 (gZ c2 d2) (by omega)
 unfold tO
 rw[show(l01Cur.mk c.fb c.fi c.fh)=c from rfl,a1]
 simp only[aUp]
 rw[a2]
 simp only[aUp]
 rw[a3]
 simp only[aUp]
 rw[wi (n:=r2.1-20) (by omega),wi (n:=r3.1-20) (by omega)]
 exact⟨_,rfl,⟨⟨b1.1,by simp only[];omega⟩,by simp only[];omega,by simp only[];omega⟩,gZ c3 d3,rfl⟩
theorem aSM (code:List Int)(h:code.length<=1048576):∃ l n,mC code=some l/\GenL n l:=by
 obtain⟨c,e0,hc,_⟩:=aRs code h
 obtain⟨r1,a1,b1,c1,d1⟩:=aSo c hc
 obtain⟨r2,a2,b2,c2,d2⟩:=jH ⟨c.fb,r1.2.fi,r1.2.fh⟩ 9 (gZ c1 d1) (by omega)
 obtain⟨r3,a3,b3,c3,d3⟩:=jH ⟨c.fb,r2.2.fi,r2.2.fh⟩ 4 (gZ c2 d2) (by omega)
 obtain⟨ps,l,fi,fh,q1,q2,q3,q4,q7,q5,q6⟩:=aUd c r3 (by omega) (1+r3.1).toNat 1 [r1.1] [⟨1,1,ByteArray.empty,pN 0,r1.1,1+r2.1⟩] r3.2.fi r3.2.fh (by omega) (by omega) (gZ c3 d3) rfl (fun p hp=>by rw[aU2.1 hp];exact b1.up (by omega)) (fun i j hi hj _=>by
  have:i=0:=by simp at hi;exact hi
  have:j=0:=by simp at hj;exact hj
  subst i;subst j
  omega) rfl (fun j hj=>by
  have:j=0:=by simp at hj;exact hj
  subst this
  exact⟨rfl,by simp only[aVB];omega,b1,by rw[aUs rfl];exact⟨rfl,rfl,rfl⟩⟩)
 obtain⟨r4,a4,b4,c4,d4⟩:=jH ⟨c.fb,fi,fh⟩ 4 q2 (by omega)
 obtain⟨l',fi',fh',w1,w2,w3,w4,w5⟩:=aUc c r3 (ps,l,fi,fh) (by omega) q3 q4 q7 r4.1.toNat l r4.2.fi r4.2.fh (gZ c4 d4) (by omega) (by omega) (fun j hj=>⟨fun _=>q6 j hj,fun h=>by omega⟩)
 refine⟨l',1+r3.1,?_,by omega,w3,w4,w5⟩
 unfold mC xP
 rw[e0]
 simp only[aUp]
 rw[show(l01Cur.mk c.fb c.fi c.fh)=c from rfl,a1]
 simp only[aUp]
 rw[show idx [r1.1] 0=some r1.1 from rfl]
 simp only[aUp]
 rw[a2]
 simp only[aUp]
 rw[a3]
 simp only[aUp]
 rw[wi (n:=1+r2.1) (by omega)]
 rw[show((1:Nat):Int)=1 from rfl]at q1
 rw[show(⟨#[112,48]⟩:ByteArray)=pN 0 from rfl,q1]
 simp only[aUp]
 rw[a4]
 simp only[aUp]
 rw[show r4.1=((r4.1.toNat:Nat):Int)by omega,w1]
 rfl
/- Plain laws of the helpers of the exact laws: sizes, copies, comparisons, marks. -/
def aHa (f:Factor):Prop:=f.fFrom.size<=9223372036854775807/\f.fTo.size<=9223372036854775807
/- Plain laws: names, valid factors, lists of factors. -/
theorem aJl (s:ByteArray)(k:Nat)(h:k<s.size):aCI s (k:Int)=some ((s.data.toList.getD k 0).toNat:Int):=by
 unfold aCI;rw[aUs ⟨by omega,by omega⟩];simp
theorem aKl (l:List ByteArray)(s:ByteArray)(hl:l.length<=140737488351232):kF l s=some (aHC l s):=by
 unfold kF
 obtain⟨r,e,q⟩:=aAx (step:=lG l s) l.length (fun r=>(r=.inl ()/\s∉l)\/(r=.inr true/\s∈l)) (fun k=>∀ i (hi:i<l.length),i<k->l[i]≠s) (by intro i _ h;omega)
  (fun k hk hj=>by
   unfold lG
   rw[aUs (by omega),aH hk]
   simp only[aUp]
   by_cases hy:l[k]=s
   · right;exact⟨_,by rw[aUs hy],.inr ⟨rfl,hy▸aUA hk⟩⟩
   · left
     rw[aUq hy,wi (by omega)]
     refine⟨rfl,fun i hi h=>?_⟩
     by_cases e:i=k
     · subst e;exact hy
     · exact hj i hi (by omega))
  (fun hj=>by
   unfold lG
   rw[aUq (by omega)]
   refine⟨_,rfl,.inl ⟨rfl,fun hm=>?_⟩⟩
   obtain⟨i,hi,e⟩:=aVv hm
   exact hj i hi hi e)
 rw[e]
 rcases q with⟨rfl,h⟩ | ⟨rfl,h⟩
 · rw[aKm.2 h];rfl
 · rw[aBW.2 h];rfl
def jJ (ns:List ByteArray)(s:ByteArray):List ByteArray:=if s≠(⟨#[]⟩:ByteArray)/\aHC ns s=false then ns++[s]else ns
theorem aD8 (ns:List ByteArray)(s:ByteArray):(jJ ns s).length<=ns.length+1:=by unfold jJ;split <;> simp
def aY (l:List Factor):List ByteArray:=l.foldl (fun ns f=>jJ (jJ ns f.fFrom) f.fTo) []
theorem aHx (l:List Factor)(ns:List ByteArray):(l.foldl (fun ns f=>jJ (jJ ns f.fFrom) f.fTo) ns).length<=ns.length+2*l.length:=by
 induction l generalizing ns with
 | nil=>simp
 | cons f r ih =>
  simp only[aVw,aUC]
  have:=ih (jJ (jJ ns f.fFrom) f.fTo)
  have:=aD8 ns f.fFrom
  have:=aD8 (jJ ns f.fFrom) f.fTo
  omega
theorem aJY (l:List Factor):(aY l).length<=2*l.length:=by have:=aHx l [];simpa [aY]using this
theorem uH (l:List Factor)(hl:l.length<=1048577):lM l=some (aY l):=by
 unfold lM
 have one:∀ (s:ByteArray) (ns:List ByteArray),ns.length<=4194305->((if s≠(⟨#[]⟩:ByteArray)then(kF ns s).bind fun r=>some (!r)else some false):Option Bool)=some (decide (s≠(⟨#[]⟩:ByteArray)/\aHC ns s=false)):=by
  intro s ns hn
  rw[aKl _ _ (by omega)]
  by_cases h1:s=(⟨#[]⟩:ByteArray) <;> simp[h1]
 have add:∀ (s:ByteArray) (ns:List ByteArray),ns.length<=4194305->((if decide (s≠(⟨#[]⟩:ByteArray)/\aHC ns s=false)=true then(chk ((ns.length+1)*16<=140737488355328)).bind fun _u=>(aS (ns++[s])).bind fun v=>some v else some ns):Option (List ByteArray))=some (jJ ns s):=by
  intro s ns hn
  rw[aI (by omega)]
  unfold jJ
  by_cases h:s≠(⟨#[]⟩:ByteArray)/\aHC ns s=false <;> simp[h,aS]
 have e:=iF (step:=oN l) l (fun k (t:List ByteArray)=>((k:Int),t)) (fun ns f=>jJ (jJ ns f.fFrom) f.fTo) (fun t=>t) (fun k t=>t.length<=2*k)
  (fun k t hk hi=>by
   have hl1:=aD8 t (l[k]).fFrom
   have hl2:=aD8 (jJ t (l[k]).fFrom) (l[k]).fTo
   refine⟨?_,by omega⟩
   unfold oN
   simp only[]
   rw[aUs (by omega),aH hk]
   simp only[aUp]
   rw[one _ _ (by omega)]
   simp only[aUp]
   rw[add _ _ (by omega)]
   simp only[aUp]
   rw[one _ _ (by omega)]
   simp only[aUp]
   rw[wi (n:=(k:Int)+1) (by omega)]
   have:=add (l[k]).fTo (jJ t (l[k]).fFrom) (by omega)
   by_cases h:decide ((l[k]).fTo≠(⟨#[]⟩:ByteArray)/\aHC (jJ t (l[k]).fFrom) (l[k]).fTo=false)=true
   · rw[aUs h]at this ⊢
     rw[aI (by omega)]at this ⊢
     simp only[aUp,aL]at this ⊢
     rw[Option.some.inj this];rfl
   · rw[aUq h]at this ⊢
     rw[<- Option.some.inj this];rfl)
  (fun t hi=>by unfold oN;simp only[];rw[aUq (by omega)]) [] (by simp)
 rw[show((0:Nat):Int)=0 from rfl]at e
 rw[e.1];rfl
/- Plain laws: names, valid factors, factor lists. -/
section
variable {ρ:Type}
theorem aO6 {α:Type}{step:Int->Option (Int ⊕ (Unit ⊕ α))}(n:Nat)(bad:Nat->Bool)(x:α)(h1:∀ k:Nat,k<n->step (k:Int)=some (if bad k then .inr (.inr x)else .inl ((k+1:Nat):Int)))(h2:step (n:Int)=some (.inr (.inl ()))) :
 lp step 0=some (if(List.range n).any bad then .inr x else .inl ()):=by
 obtain⟨r,e,q⟩:=aAx (step:=step) n (fun r=>r=if(List.range n).any bad then .inr x else .inl ()) (fun k=>∀ i,i<k->bad i=false) (by intro i h;omega)
  (fun k hk hj=>by
   rw[h1 k hk]
   by_cases hb:bad k=true
   · right
     rw[aUs hb]
     refine⟨_,rfl,?_⟩
     rw[aUs]
     exact aWn.2 ⟨k,aVH.2 hk,hb⟩
   · left
     rw[aUq hb]
     refine⟨rfl,fun i hi=>?_⟩
     by_cases e:i=k
     · subst e;exact Bool.eq_false_iff.2 hb
     · exact hj i (by omega))
  (fun hj=>by
   refine⟨_,h2,?_⟩
   rw[aUq]
   intro h
   obtain⟨i,hi,hb⟩:=aWn.1 h
   rw[hj i (aVH.1 hi)]at hb
   exact Bool.noConfusion hb)
 rw[e,q]
end
def xI (p:Pose):Prop:=0<=p.fTurn/\p.fTurn<=3/\-1000000<=p.fX/\p.fX<=1000000/\-1000000<=p.fY/\p.fY<=1000000
instance (p:Pose):Decidable (xI p):=by unfold xI;infer_instance
theorem aCq (x:Int):hU x=some (decide (-1000000<=x/\x<=1000000)):=by
 unfold hU
 by_cases h:-1000000<=x <;> simp[h]
theorem aK7 (p:Pose):cP p=some (decide (xI p)):=by
 unfold cP gO xI
 by_cases h1:0<=p.fTurn <;> by_cases h2:p.fTurn<=3 <;> by_cases h3:-1000000<=p.fX <;> by_cases h4:p.fX<=1000000 <;> by_cases h5:-1000000<=p.fY <;> simp[h1,h2,h3,h4,h5]
theorem aLC (p:Pose):mU p=some (decide (xI p)):=by
 unfold mU xI
 simp only[aCq]
 by_cases h1:0<=p.fTurn <;> by_cases h2:p.fTurn<=3 <;> by_cases h3:-1000000<=p.fX <;> by_cases h4:p.fX<=1000000 <;> by_cases h5:-1000000<=p.fY <;> simp[h1,h2,h3,h4,h5]
def aQ5 (s:ByteArray)(k:Nat):Bool :=
 !(decide ((97:Int)<=((s.data.toList.getD k 0).toNat:Int)/\((s.data.toList.getD k 0).toNat:Int)<=122))&&(decide (k=0)||!(decide ((48:Int)<=((s.data.toList.getD k 0).toNat:Int)/\((s.data.toList.getD k 0).toNat:Int)<=57)))
def aEY (s:ByteArray):Bool:=decide (1<=s.size/\s.size<=8)&&!((List.range s.size).any (aQ5 s))
theorem aGR (s:ByteArray)(h:s.size<=9223372036854775807):sX s=some (aEY s):=by
 unfold sX
 rw[aO6 (step:=qM s) s.size (aQ5 s) false
  (fun k hk=>by
   unfold qM
   rw[aUs (by omega),aJl s k hk,wi (by omega)]
   simp only[aUp]
   unfold aQ5
   generalize ((s.data.toList.getD k 0).toNat:Int)=b
   by_cases h1:97<=b <;> by_cases h2:b<=122 <;> by_cases h3:k=0 <;> by_cases h4:48<=b <;> by_cases h5:b<=57 <;> simp[h1,h2,h3,h4,h5] <;> omega)
  (by unfold qM;rw[aUq (by omega)])]
 unfold aEY
 by_cases hb:(List.range s.size).any (aQ5 s)=true
 · by_cases h1:(s.size:Int)<1 <;> simp[hb,h1]
 · simp only[Bool.not_eq_true]at hb
   simp only[hb]
   by_cases h1:(s.size:Int)<1 <;> by_cases h2:(8:Int)<s.size <;> simp[h1,h2] <;> omega
def qC (c:Nat)(s:ByteArray):Bool:=aEY s&&decide ((s.data.toList.getD 0 0).toNat=c)
theorem aBJ {c:Nat}{s:ByteArray}(h:qC c s=true):s≠(⟨#[]⟩:ByteArray):=by
 rintro rfl
 have h:=(aUP _ _▸h:_/\_).1
 unfold aEY at h
 simp only[aUP,aVb]at h
 exact absurd h.1.1 (by decide)
theorem aH6 {s:ByteArray}(h:aEY s=true):0<s.size:=by
 unfold aEY at h
 simp only[aUP,aVb]at h
 omega
def aDX (f:Factor):Bool :=
 if f.fKind=1 then decide (f.fFrom=(⟨#[]⟩:ByteArray))&&qC 112 f.fTo
 else if f.fKind=2\/f.fKind=4 then qC 112 f.fFrom&&qC 112 f.fTo&&decide (f.fFrom≠f.fTo)
 else if f.fKind=3 then qC 112 f.fFrom&&qC 109 f.fTo&&decide (f.fPose.fTurn=0)else false
def uJ (f:Factor):Bool:=decide (0<=f.fId/\f.fId<=99999/\xI f.fPose/\1<=f.fWeight/\f.fWeight<=9999)&&aDX f
/- Plain laws: marks of texts and of factors. -/
/- Plain laws: lists of factors, indices of names. -/
def aLV (l:List Factor)(k:Nat):Bool:=match l[k]?,l[k-1]? with
 | some y,some z=>!(uJ y)||(decide (0<k)&&decide (y.fId<=z.fId))
 | _,_=>false
def aJb (l:List Factor):Bool:=decide (l.length<=40)&&!((List.range l.length).any (aLV l))&&decide ((aY l).length<10)
theorem aFz (l:List Factor)(k:Nat)(hk:k<l.length):aLV l k=(!(uJ l[k])||(decide (0<k)&&decide ((l[k]).fId<=(l[k-1]'(by omega)).fId))):=by
 unfold aLV
 rw[aUG hk,aUG (show k-1<l.length by omega)]
theorem aNC (l:List Factor)(k:Nat)(hk:k<l.length)(hl:l.length<=4194304)(hv:∀ f∈l,aHa f)(g:Option Bool)(hg:g=some (uJ l[k])) :
 ((g.bind fun r9=>(if r9=true then(if 0<(k:Int)then(idx l (IntKind.i64.wrap ((k:Int)-1))).bind fun y10=>some (decide ((l[k]).fId<=y10.fId))else some false)else some true):Option Bool).bind (fun d12=>(if d12=true then some (.inr (.inr false))else some (.inl (IntKind.i64.wrap ((k:Int)+1)))):Bool->Option (Int ⊕ (Unit ⊕ Bool))))=some (if aLV l k then .inr (.inr false)else .inl ((k+1:Nat):Int)):=by
 rw[hg,aFz l k hk,wi (n:=(k:Int)+1) (by omega)]
 simp only[aUp]
 by_cases h1:uJ l[k]=true
 · by_cases h2:0<k
   · rw[wi (by omega),show(k:Int)-1=((k-1:Nat):Int)by omega,aH (by omega)]
     have h2':(0:Int)<k:=by omega
     by_cases h3:(l[k]).fId<=(l[k-1]'(by omega)).fId <;> simp[h1,h2,h3]
   · have h2':¬(0:Int)<k:=by omega
     simp[h1,h2]
 · simp[h1]
theorem aDd {l:List Factor}(h:aJb l=true):l.length<=40/\(aY l).length<10/\(∀ k (hk:k<l.length),uJ l[k]=true)/\∀ k (hk:k+1<l.length),(l[k]).fId<(l[k+1]).fId:=by
 unfold aJb at h
 simp only[aUP,aVb,aWj,List.any_eq_false,aVH,Bool.not_eq_true]at h
 obtain⟨⟨h1,h2⟩,h3⟩:=h
 have hb:∀ k (hk:k<l.length),aLV l k=false:=fun k hk=>by simpa using h2 k hk
 refine⟨h1,h3,fun k hk=>?_,fun k hk=>?_⟩
 · have:=hb k hk
   rw[aFz l k hk]at this
   simp only[Bool.or_eq_false_iff,Bool.not_eq_false']at this
   exact this.1
 · have:=hb (k+1) hk
   rw[aFz l (k+1) hk]at this
   simp only[Bool.or_eq_false_iff,Bool.and_eq_false_iff,decide_eq_false_iff_not]at this
   have:=this.2.resolve_left (by omega)
   have e:l[k+1-1]'(by omega)=l[k]:=rfl
   rw[e]at this;omega
def iN (ns:List ByteArray)(s:ByteArray):Int:=match ns.findIdx? (fun x=>decide (x=s))with | some k=>k | none=>-1
theorem aLt (ns:List ByteArray)(s:ByteArray)(h:ns.length<=4194304):iH ns s=some (iN ns s):=by
 unfold iH
 obtain⟨r,e,q⟩:=aAx (step:=lF ns s) ns.length (fun r=>match r with | .inl _=>iN ns s=-1 | .inr i=>iN ns s=i) (fun k=>∀ i (hi:i<ns.length),i<k->ns[i]≠s) (by intro i _ h;omega)
  (fun k hk hj=>by
   unfold lF
   rw[aUs (by omega),aH hk]
   simp only[aUp]
   by_cases hy:ns[k]=s
   · right
     refine⟨_,by rw[aUs hy],?_⟩
     simp only
     unfold iN
     rw[List.findIdx?_eq_some_iff_getElem.2 ⟨hk,by simpa using hy,fun j hjk=>by simpa using hj j (by omega) hjk⟩]
   · left
     rw[aUq hy,wi (by omega)]
     refine⟨rfl,fun i hi h=>?_⟩
     by_cases e:i=k
     · subst e;exact hy
     · exact hj i hi (by omega))
  (fun hj=>by
   unfold lF
   rw[aUq (by omega)]
   refine⟨_,rfl,?_⟩
   simp only
   unfold iN
   rw[List.findIdx?_eq_none_iff.2 (fun x hx=>by
    obtain⟨i,hi,e⟩:=aVv hx
    simpa [<- e]using hj i hi hi)])
 rw[e]
 cases r with
 | inl u=>simp only[aUp];simp only at q;rw[q]
 | inr i=>simp only[aUp];simp only at q;rw[q]
theorem vD (ns:List ByteArray)(s:ByteArray):-1<=iN ns s/\iN ns s<ns.length:=by
 unfold iN
 split
 · rename_i k hk
   obtain⟨h,_⟩:=List.findIdx?_eq_some_iff_getElem.1 hk
   omega
 · omega
theorem yJ {ns:List ByteArray}{s:ByteArray}(h:s∈ns):0<=iN ns s:=by
 unfold iN
 split
 · omega
 · rename_i hk
   have:=List.findIdx?_eq_none_iff.1 hk s h
   simp at this
theorem aHe {ns:List ByteArray}{s t:ByteArray}(h:t∈ns):t∈jJ ns s:=by unfold jJ;split <;> simp[h]
theorem aIq {ns:List ByteArray}{s:ByteArray}(h:s≠(⟨#[]⟩:ByteArray)):s∈jJ ns s:=by
 unfold jJ
 split
 · simp
 · rename_i h'
   by_cases hm:aHC ns s=true
   · exact aBW.1 hm
   · exact absurd ⟨h,by simpa using hm⟩ h'
theorem aGt (l:List Factor)(ns:List ByteArray)(s:ByteArray)(h:s∈ns):s∈l.foldl (fun ns f=>jJ (jJ ns f.fFrom) f.fTo) ns:=by
 induction l generalizing ns with
 | nil=>exact h
 | cons f r ih=>exact ih _ (aHe (aHe h))
theorem aH4 (l:List Factor)(ns:List ByteArray)(f:Factor)(hf:f∈l) :
 (f.fFrom≠(⟨#[]⟩:ByteArray)->f.fFrom∈l.foldl (fun ns f=>jJ (jJ ns f.fFrom) f.fTo) ns)/\(f.fTo≠(⟨#[]⟩:ByteArray)->f.fTo∈l.foldl (fun ns f=>jJ (jJ ns f.fFrom) f.fTo) ns):=by
 induction l generalizing ns with
 | nil=>cases hf
 | cons g r ih =>
  rcases aUr.1 hf with rfl | hf
  · exact⟨fun h=>aGt r _ _ (aHe (aIq h)),fun h=>aGt r _ _ (aIq h)⟩
  · exact ih _ hf
theorem aA0 {l:List Factor}{f:Factor}(hf:f∈l)(h:f.fFrom≠(⟨#[]⟩:ByteArray)):f.fFrom∈aY l:=(aH4 l [] f hf).1 h
theorem aGs {l:List Factor}{f:Factor}(hf:f∈l)(h:f.fTo≠(⟨#[]⟩:ByteArray)):f.fTo∈aY l:=(aH4 l [] f hf).2 h
theorem sY {f:Factor}(h:uJ f=true):0<=f.fId/\f.fId<=99999/\xI f.fPose/\1<=f.fWeight/\f.fWeight<=9999/\f.fTo≠(⟨#[]⟩:ByteArray)/\(f.fKind=1\/f.fKind=2\/f.fKind=3\/f.fKind=4)/\(f.fKind=1->f.fFrom=(⟨#[]⟩:ByteArray))/\(f.fKind≠1->f.fFrom≠(⟨#[]⟩:ByteArray))/\(f.fKind=2\/f.fKind=4->f.fFrom≠f.fTo):=by
 unfold uJ at h
 simp only[aUP,aVb]at h
 obtain⟨⟨h1,h2,h3,h4,h5⟩,h6⟩:=h
 refine⟨h1,h2,h3,h4,h5,?_⟩
 unfold aDX at h6
 by_cases k1:f.fKind=1
 · rw[aUs k1]at h6
   simp only[aUP,aVb]at h6
   exact⟨aBJ h6.2,.inl k1,fun _=>h6.1,fun h=>absurd k1 h,fun h=>by omega⟩
 · rw[aUq k1]at h6
   by_cases k2:f.fKind=2\/f.fKind=4
   · rw[aUs k2]at h6
     simp only[aUP,aVb]at h6
     exact⟨aBJ h6.1.2,by omega,fun h=>absurd h k1,fun _=>aBJ h6.1.1,fun _=>h6.2⟩
   · rw[aUq k2]at h6
     by_cases k3:f.fKind=3
     · rw[aUs k3]at h6
       simp only[aUP,aVb]at h6
       exact⟨aBJ h6.1.2,by omega,fun h=>absurd h k1,fun _=>aBJ h6.1.1,fun h=>absurd h k2⟩
     · rw[aUq k3]at h6;cases h6
/- Plain laws: path lengths; factors removed and added. -/
def aPt (l:List Factor)(n:Int):Option Nat:=l.findIdx? (fun f=>decide (f.fId=n))
theorem aJe (l:List Factor)(n:Int)(hl:l.length<=4194304):kS l n=some (match aPt l n with | some k=>(k:Int) | none=>-1):=by
 unfold kS
 obtain⟨r,e,q⟩:=aAx (step:=kH l n) l.length (fun r=>match r with | .inl _=>aPt l n=none | .inr i=>∃ k:Nat,i=k/\aPt l n=some k) (fun k=>∀ i (hi:i<l.length),i<k->(l[i]).fId≠n) (by intro i _ h;omega)
  (fun k hk hj=>by
   unfold kH
   rw[aUs (by omega),aH hk]
   simp only[aUp]
   by_cases hy:(l[k]).fId=n
   · right
     refine⟨.inr (k:Int),by rw[aUs hy],k,rfl,?_⟩
     exact List.findIdx?_eq_some_iff_getElem.2 ⟨hk,by simpa using hy,fun j hjk=>by simpa using hj j (by omega) hjk⟩
   · left
     rw[aUq hy,wi (by omega)]
     refine⟨rfl,fun i hi h=>?_⟩
     by_cases e:i=k
     · subst e;exact hy
     · exact hj i hi (by omega))
  (fun hj=>by
   unfold kH
   rw[aUq (by omega)]
   refine⟨_,rfl,?_⟩
   exact List.findIdx?_eq_none_iff.2 (fun x hx=>by
    obtain⟨i,hi,e⟩:=aVv hx
    simpa [<- e]using hj i hi hi))
 rw[e]
 cases r with
 | inl u=>simp only at q;rw[q];rfl
 | inr i=>simp only at q;obtain⟨k,rfl,q⟩:=q;rw[q];rfl
def below (l:List Factor)(n:Int):Nat:=(l.takeWhile (fun f=>decide (f.fId<n))).length
/- Plain laws: headings. -/
section
variable {ρ:Type}
theorem aQM {α β:Type}{step:Int->Option (Int ⊕ (Unit ⊕ ρ))}(l:List α)(act:α->Option β)(F:β->ρ)(h1:∀ (k:Nat) (hk:k<l.length),step (k:Int)=some (match act l[k]with | none=>.inl ((k+1:Nat):Int) | some x=>.inr (.inr (F x))))
 (h2:step (l.length:Int)=some (.inr (.inl ()))):lp step 0=some (match l.findSome? act with | none=>.inl () | some x=>.inr (F x)):=by
 have main:∀ n k,n+k=l.length->lp step (k:Int)=some (match (l.drop k).findSome? act with | none=>.inl () | some x=>.inr (F x)):=by
  intro n
  induction n with
  | zero =>
   intro k hk
   have:k=l.length:=by omega
   subst this
   rw[aVO,List.findSome?_nil]
   exact aG h2
  | succ n ih =>
   intro k hk
   have hlt:k<l.length:=by omega
   rw[aUw hlt,List.findSome?_cons]
   have h:=h1 k hlt
   cases ha:act l[k]with
   | none=>rw[ha]at h;rw[aO h];exact ih (k+1) (by omega)
   | some x=>rw[ha]at h;exact aG h
 have:=main l.length 0 (by omega)
 simpa using this
end
theorem aSh {α:Type}{l:List α}{i:Int}(h0:0<=i)(h1:i<l.length):idx l i=some (l[i.toNat]'(by omega)):=by
 have:=aH (l:=l) (k:=i.toNat) (by omega)
 rwa [show((i.toNat:Nat):Int)=i by omega]at this
def atI {α:Type}(d:α)(l:List α)(i:Int):α:=l.getD i.toNat d
theorem aLD {α:Type}{l:List α}{i:Int}(d:α)(h0:0<=i)(h1:i<l.length):idx l i=some (atI d l i):=by
 rw[aSh h0 h1,atI,aUU,aUG (by omega)];rfl
def aDe (ns:List ByteArray)(a:List Int)(y:Factor):Option (Int×Int) :=
 if y.fKind=1 then(if atI 0 a (iN ns y.fTo)<0 then some (iN ns y.fTo,y.fPose.fTurn)else none)
 else if y.fKind=2 then
  (if 0<=atI 0 a (iN ns y.fFrom)/\atI 0 a (iN ns y.fTo)<0 then some (iN ns y.fTo,(atI 0 a (iN ns y.fFrom)+y.fPose.fTurn).tmod 4)
   else if atI 0 a (iN ns y.fFrom)<0/\0<=atI 0 a (iN ns y.fTo)then some (iN ns y.fFrom,(atI 0 a (iN ns y.fTo)+4-y.fPose.fTurn).tmod 4)else none)
 else none
structure HOk (l:List Factor)(ns:List ByteArray)(a:List Int):Prop where
 len:a.length=ns.length
 small:ns.length<=4194304
 lsmall:l.length<=4194304
 good:∀ f∈l,uJ f=true
 to:∀ f∈l,f.fTo∈ns
 fr:∀ f∈l,f.fKind≠1->f.fFrom∈ns
 rng:∀ x∈a,-1<=x/\x<=3
theorem aM3 {α:Type}{d:α}{l:List α}{i:Int}(h0:0<=i)(h1:i<l.length):atI d l i∈l:=by
 unfold atI
 rw[aUU,aUG (by omega)]
 exact aUA _
theorem aNE (l:List Factor)(ns:List ByteArray)(a:List Int)(H:HOk l ns a):mQ l ns a=some (match l.findSome? (aDe ns a)with | none=>(false,a) | some x=>(true,nA a x.1 x.2)):=by
 unfold mQ qG
 have e:=aQM (step:=jC l ns a) l (aDe ns a) (fun x=>(true,nA a x.1 x.2))
  (fun k hk=>by
   have hm:l[k]∈l:=aUA hk
   have ht:=yJ (H.to _ hm)
   have hb:=vD ns (l[k]).fTo
   have hfb:=vD ns (l[k]).fFrom
   have hfr:=H.fr _ hm
   have hlen:=H.len
   have hs:=H.small
   have hv:=(sY (H.good _ hm)).2.2.1
   have hls:=H.lsmall
   unfold jC aDe
   rw[aUs (by omega),aH hk,wi (n:=(k:Int)+1) (by omega)]
   generalize l[k]=y at *
   simp only[aUp,aLt ns _ hs]
   rw[aLD (i:=iN ns y.fTo) 0 ht (by omega)]
   have r1:=H.rng _ (aM3 (d:=0) ht (by omega:iN ns y.fTo<a.length))
   obtain⟨v1,v2,_⟩:=hv
   by_cases k1:y.fKind=1
   · simp only[k1,aUK,aUp]
     by_cases h1:atI 0 a (iN ns y.fTo)<0 <;> simp[h1,aS]
   · simp only[k1,aUT,aUp,aUv]
     by_cases k2:y.fKind=2
     · have hf:=yJ (hfr k1)
       have r2:=H.rng _ (aM3 (d:=0) hf (by omega:iN ns y.fFrom<a.length))
       rw[aLD (i:=iN ns y.fFrom) 0 hf (by omega)]
       simp only[k2,ne_eq,not_true,aUT,aUK,aUp,aL]
       generalize atI 0 a (iN ns y.fTo)=x at *
       generalize atI 0 a (iN ns y.fFrom)=z at *
       rw[wi (n:=z+_) (by omega),wi (n:=x+4) (by omega),wi (n:=x+4-_) (by omega)]
       by_cases h1:0<=z <;> by_cases h2:x<0
       · simp[h1,h2]
       · have h3:¬z<0:=by omega
         simp[h1,h2,h3]
       · have h3:z<0:=by omega
         have h4:¬0<=x:=by omega
         simp[h1,h2,h3,h4]
       · have h3:z<0:=by omega
         have h4:0<=x:=by omega
         simp[h1,h2,h3,h4]
     · simp[k2])
  (by unfold jC;rw[aUq (by omega)])
 rw[e]
 cases l.findSome? (aDe ns a)with
 | none=>simp only[aUp];rw[aI trivial];rfl
 | some x=>simp only[aUp];rw[aI lC];rfl
theorem HOk.set {l:List Factor}{ns:List ByteArray}{a:List Int}(H:HOk l ns a)(i x:Int)(h:0<=x/\x<=3):HOk l ns (nA a i x) :=
 ⟨by rw[lC];exact H.len,H.small,H.lsmall,H.good,H.to,H.fr,fun z hz=>by
  unfold nA at hz
  rcases List.mem_or_eq_of_mem_set hz with h1 | h1
  · exact H.rng z h1
  · subst h1;exact⟨by omega,h.2⟩⟩
theorem aS5 {l:List Factor}(h:aJb l=true):HOk l (aY l) (List.replicate (aY l).length (-1)):=by
 obtain⟨h1,h2,h3,h4⟩:=aDd h
 have g:∀ f∈l,uJ f=true:=fun f hf=>by
  obtain⟨i,hi,e⟩:=aVv hf
  rw[<- e];exact h3 i hi
 refine⟨by simp,by omega,by omega,g,fun f hf=>?_,fun f hf hk=>?_,fun x hx=>?_⟩
 · exact aGs hf (sY (g f hf)).2.2.2.2.2.1
 · exact aA0 hf ((sY (g f hf)).2.2.2.2.2.2.2.2.1 hk)
 · have:=List.eq_of_mem_replicate hx;omega
/- Plain laws: dead reckoning. -/
theorem aOo (t x y:Int)(h0:0<=t)(h:t<=3):∃ r,lp (gU t) (x,y,0)=some r:=by
 obtain⟨r,e,_⟩:=aSc (step:=gU t) (fun s=>0<=s.2.2/\s.2.2<=t) (fun s=>(t-s.2.2).toNat) (fun _=>True)
  (by
   rintro⟨a,b,c⟩ ⟨hc1,hc2⟩
   simp only at hc1 hc2
   by_cases hlt:c<t
   · right
     unfold gU
     simp only[]
     rw[aUs hlt,wi (n:=c+1) (by omega)]
     exact⟨_,rfl,⟨by simp only;omega,by simp only;omega⟩,by simp only;omega⟩
   · left
     unfold gU
     simp only[]
     rw[aUq hlt]
     exact⟨_,rfl,trivial⟩) (x,y,0) ⟨by simp,by simpa using h0⟩
 exact⟨r,e⟩
theorem aTf (x y t:Int):∃ r,jL x y t=some r/\oX x y t=some r:=by
 unfold jL oX
 rw[aK7,show jQ=gU from rfl]
 simp only[aCq]
 by_cases h:xI (Pose.mk t x y)
 · obtain⟨h1,h2,h3,h4,h5,h6⟩:=h
   obtain⟨r,e⟩:=aOo t x y h1 h2
   simp only at h1 h2 h3 h4 h5 h6
   have a1:¬t<0:=by omega
   have a2:¬3<t:=by omega
   refine⟨(r.1,r.2),?_,?_⟩
   · simp[xI,h1,h2,h3,h4,h5,h6,e]
   · simp[a1,a2,h3,h4,h5,h6,e]
 · refine⟨(0,0),by simp[h],?_⟩
   by_cases a1:t<0
   · simp[a1]
   by_cases a2:3<t
   · simp[a1,a2]
   by_cases a3:-1000000<=x/\x<=1000000
   · by_cases a4:-1000000<=y/\y<=1000000
     · exact absurd ⟨by simp only;omega,by simp only;omega,a3.1,a3.2,a4.1,a4.2⟩ h
     · simp[a1,a2,a3,a4]
   · simp[a1,a2,a3]
structure POk (l:List Factor)(ns:List ByteArray)(s:List Pose×List Bool):Prop where
 len:s.1.length=ns.length
 len2:s.2.length=ns.length
 small:ns.length<=4194304
 lsmall:l.length<=4194304
 to:∀ f∈l,f.fTo∈ns
 fr:∀ f∈l,f.fKind≠1->f.fFrom∈ns
theorem POk.set {l:List Factor}{ns:List ByteArray}{s:List Pose×List Bool}(H:POk l ns s)(i:Int)(x:Pose):POk l ns (nA s.1 i x,nA s.2 i true) :=
 ⟨by rw[lC];exact H.len,by rw[lC];exact H.len2,H.small,H.lsmall,H.to,H.fr⟩
/- Plain laws: rows marked and held. -/
section
variable {σ ρ:Type}
end
/- The exact laws of dead reckoning and of conflicts. -/
/- Drawn factor lists: names, validity, headings and poses of the path. -/
def aBc:List ByteArray:=[pN 0,pN 1,pN 2,pN 3,pN 4,mN 0,mN 1]
theorem five {k:Int}(h:0<=k/\k<=4):k=0\/k=1\/k=2\/k=3\/k=4:=by omega
theorem aNp {k:Int}(h:0<=k/\k<=4):pN k∈aBc:=by
 rcases five h with rfl | rfl | rfl | rfl | rfl <;> simp[aBc]
theorem aTn {k:Int}(h:0<=k/\k<=1):mN k∈aBc:=by
 rcases(show k=0\/k=1 by omega)with rfl | rfl <;> simp[aBc]
theorem aCi {k:Int}(h:0<=k/\k<=4):qC 112 (pN k)=true:=by
 rcases five h with rfl | rfl | rfl | rfl | rfl <;> decide
theorem aQL {k:Int}(h:0<=k/\k<=1):qC 109 (mN k)=true:=by
 rcases(show k=0\/k=1 by omega)with rfl | rfl <;> decide
theorem aIY {i k:Int}(hi:0<=i/\i<=4)(hk:0<=k/\k<=4)(e:pN i=pN k):i=k:=by
 rcases five hi with rfl | rfl | rfl | rfl | rfl <;> rcases five hk with rfl | rfl | rfl | rfl | rfl <;> first | rfl | (exact absurd e (by decide))
theorem aAS (k:Int):(pN k).size=2:=rfl
theorem aQK (k:Int):(mN k).size=2:=rfl
theorem GenL.cases {n:Int}{l:List Factor}(h:GenL n l){f:Factor}(hf:f∈l):∃ j:Nat,∃ hj:j<l.length,f=l[j]/\(((j:Int)<=n/\aIu j f)\/(n<(j:Int)/\aL9 n j f)):=by
 obtain⟨j,hj,rfl⟩:=aVv hf
 obtain⟨h1,h2⟩:=h.2.2.2 j hj
 rcases Int.lt_or_le n (j:Int)with c | c
 · exact⟨j,hj,rfl,.inr ⟨c,h2 c⟩⟩
 · exact⟨j,hj,rfl,.inl ⟨c,h1 c⟩⟩
theorem emp:(ByteArray.empty:ByteArray)=(⟨#[]⟩:ByteArray):=rfl
theorem wR {n:Int}{l:List Factor}(h:GenL n l){f:Factor}(hf:f∈l):uJ f=true/\aHa f/\(f.fFrom=(⟨#[]⟩:ByteArray)\/f.fFrom∈aBc)/\f.fTo∈aBc:=by
 have hn:=h.1
 obtain⟨j,hj,_,c⟩:=h.cases hf
 have h8:=h.2.2.1
 rcases c with⟨c,g1,g2,⟨g3,g4,g5⟩,g6⟩ | ⟨c,g1,g2,⟨g3,g4,g5⟩,i,i1,i2,i3⟩
 · by_cases z:j=0
   · rw[aUs z]at g6
     obtain⟨k1,k2,k3⟩:=g6
     refine⟨?_,?_,.inl k2,by rw[k3];exact aNp (by omega)⟩
     · unfold uJ aDX xI
       rw[aUs k1,k2,k3,aCi (by omega),aUu (by omega)]
       simp[emp]
     · unfold aHa;rw[k2,k3,aAS];decide
   · rw[aUq z]at g6
     obtain⟨k1,k2,k3⟩:=g6
     refine⟨?_,?_,.inr (by rw[k2];exact aNp (by omega)),by rw[k3];exact aNp (by omega)⟩
     · unfold uJ aDX xI
       rw[aUq (by omega),aUs (.inl k1),k2,k3,aCi (by omega),aCi (by omega),aUu (by omega)]
       have:pN ((j:Int)-1)≠pN j:=fun e=>by have:=aIY (by omega) (by omega) e;omega
       simp[this]
     · unfold aHa;rw[k2,k3,aAS,aAS];decide
 · rcases i3 with⟨k1,k,k2,k3,k4⟩ | ⟨k1,k2,b,k3,k4⟩
   · refine⟨?_,?_,.inr (by rw[i2];exact aNp (by omega)),by rw[k4];exact aNp (by omega)⟩
     · unfold uJ aDX xI
       rw[aUq (by omega),aUs (.inr k1),i2,k4,aCi (by omega),aCi (by omega),aUu (by omega)]
       have:pN i≠pN k:=fun e=>by have:=aIY (by omega) (by omega) e;omega
       simp[this]
     · unfold aHa;rw[i2,k4,aAS,aAS];decide
   · refine⟨?_,?_,.inr (by rw[i2];exact aNp (by omega)),by rw[k4];exact aTn k3⟩
     · unfold uJ aDX xI
       rw[aUq (by omega),aUq (by omega),aUs k1,i2,k4,aCi (by omega),aQL k3,aUu (by omega)]
       simp[k2]
     · unfold aHa;rw[i2,k4,aAS,aQK];decide
theorem aI9 {α:Type}[DecidableEq α]:∀ {a b:List α},a.Nodup->(∀ x∈a,x∈b)->a.length<=b.length
 | [],_,_,_=>aVk _
 | x::a,b,hn,hs=>by
  rw[aUL]at hn
  have hx:=hs x (by simp)
  have:=aI9 (a:=a) (b:=b.erase x) hn.2 (fun y hy=>by
   have hne:y≠x:=fun e=>hn.1 (e▸hy)
   exact(List.mem_erase_of_ne hne).2 (hs y (by simp[hy])))
  rw[List.length_erase_of_mem hx]at this
  have:=List.length_pos_of_mem hx
  rw[aUC];omega
theorem aHd {ns:List ByteArray}{s:ByteArray}(h:ns.Nodup):(jJ ns s).Nodup:=by
 unfold jJ
 split
 · rename_i c
   rw[aUQ]
   refine⟨h,by simp,fun x hx y hy e=>?_⟩
   rw[aU2]at hy
   subst hy
   subst e
   rw[aBW.2 hx]at c;cases c.2
 · exact h
theorem aEX:∀ (l:List Factor) (ns:List ByteArray),ns.Nodup->(l.foldl (fun ns f=>jJ (jJ ns f.fFrom) f.fTo) ns).Nodup
 | [],_,h=>h
 | f::l,ns,h=>aEX l _ (aHd (aHd h))
theorem aKQ {ns:List ByteArray}{s t:ByteArray}(h:t∈jJ ns s):t∈ns\/(t=s/\s≠(⟨#[]⟩:ByteArray)):=by
 unfold jJ at h
 split at h
 · rename_i c
   rcases aUz.1 h with h | h
   · exact .inl h
   · exact .inr ⟨aU2.1 h,c.1⟩
 · exact .inl h
theorem aCk {Q:ByteArray->Prop}:∀ (l:List Factor) (ns:List ByteArray),(∀ s∈ns,Q s)->(∀ f∈l,(f.fFrom≠(⟨#[]⟩:ByteArray)->Q f.fFrom)/\Q f.fTo)->∀ s∈l.foldl (fun ns f=>jJ (jJ ns f.fFrom) f.fTo) ns,Q s
 | [],_,h,_=>h
 | f::l,ns,h,hf=>aCk l _ (fun s hs=>by
  obtain⟨q1,q2⟩:=hf f (by simp)
  rcases aKQ hs with hs | ⟨rfl,_⟩
  · rcases aKQ hs with hs | ⟨rfl,e⟩
    · exact h s hs
    · exact q1 e
  · exact q2) (fun g hg=>hf g (by simp[hg]))
theorem aCs {n:Int}{l:List Factor}(h:GenL n l):(aY l).Nodup/\(aY l).length<=7:=by
 have h1:=aEX l [] (by simp)
 have h2:=aCk (Q:=fun s=>s∈aBc) l [] (by simp) (fun f hf=>by
  obtain⟨_,_,a,b⟩:=wR h hf
  exact⟨fun e=>a.resolve_left e,b⟩)
 exact⟨h1,aI9 h1 h2⟩
theorem aGT {n:Int}{l:List Factor}(h:GenL n l):aJb l=true:=by
 unfold aJb
 rw[aUu (by have:=h.2.2.1;have:=h.1;omega),aUu (by have:=(aCs h).2;omega)]
 simp only[aWT,Bool.and_true,aWj,List.any_eq_false,aVH]
 intro k hk
 rw[aFz l k hk]
 have g:=(wR h (aUA hk)).1
 have id:∀ j (hj:j<l.length),(l[j]).fId=(j:Int)+1:=fun j hj=>by
  obtain⟨a,b⟩:=h.2.2.2 j hj
  rcases Int.lt_or_le n (j:Int)with c | c
  · exact(b c).1
  · exact(a c).1
 rw[g]
 by_cases z:0<k
 · have i1:=id k hk
   have i2:=id (k-1) (by omega)
   simp only[aVj,Bool.false_or,aUP,aVb,not_and]
   intro _
   omega
 · simp[z]
def pI (l:List Factor)(k:Nat):Int:=iN (aY l) (pN k)
theorem aAo {ns:List ByteArray}{s:ByteArray}(h:s∈ns):∃ hi:(iN ns s).toNat<ns.length,ns[(iN ns s).toNat]=s:=by
 unfold iN
 cases e:ns.findIdx? (fun x=>decide (x=s))with
 | none=>have:=List.findIdx?_eq_none_iff.1 e s h;simp at this
 | some k =>
  obtain⟨h1,h2,_⟩:=List.findIdx?_eq_some_iff_getElem.1 e
  exact⟨by simpa using h1,by simpa using h2⟩
theorem aPh {n:Int}{l:List Factor}(h:GenL n l){k:Nat}(hk:(k:Int)<=n):pN k∈aY l:=by
 have hl:=h.2.1
 have hj:k<l.length:=by omega
 have o:=(h.2.2.2 k hj).1 hk
 have g:=wR h (aUA hj)
 have:=aGs (aUA hj) (sY g.1).2.2.2.2.2.1
 obtain⟨_,_,_,o4⟩:=o
 by_cases z:k=0
 · rw[aUs z]at o4;rw[o4.2.2]at this;subst z;exact this
 · rw[aUq z]at o4;rw[o4.2.2]at this;exact this
theorem aIZ {n:Int}{l:List Factor}(h:GenL n l){k:Nat}(hk:(k:Int)<=n):0<=pI l k/\pI l k<(aY l).length:=⟨yJ (aPh h hk),(vD _ _).2⟩
theorem aOG {n:Int}{l:List Factor}(h:GenL n l){i k:Nat}(hi:(i:Int)<=n)(hk:(k:Int)<=n)(e:pI l i=pI l k):i=k:=by
 have hn:=h.1
 obtain⟨a1,a2⟩:=aAo (aPh h hi)
 obtain⟨b1,b2⟩:=aAo (aPh h hk)
 have:pN (i:Int)=pN (k:Int):=by
  rw[<- a2,<- b2]
  unfold pI at e
  congr 1
  rw[e]
 have:=aIY (by omega) (by omega) this
 omega
/- Drawn factor lists: the headings and the poses that the path gives. -/
theorem aE1 {α β:Type}{f:α->Option β}:∀ {l:List α} (j:Nat) (hj:j<l.length) {x:β},(∀ m (hm:m<j),f (l[m]'(by omega))=none)->f l[j]=some x->l.findSome? f=some x
 | a::l,0,_,x,_,h=>by rw[List.findSome?_cons,show f a=some x from h]
 | a::l,j+1,hj,x,h0,h=>by
  rw[List.findSome?_cons,show f a=none from h0 0 (by omega)]
  exact aE1 j (by simpa using hj) (fun m hm=>h0 (m+1) (by omega)) h
theorem aJd {α β:Type}{f:α->Option β}{l:List α}(h:∀ m (hm:m<l.length),f l[m]=none):l.findSome? f=none:=by
 rw[List.findSome?_eq_none_iff]
 intro x hx
 obtain⟨m,hm,rfl⟩:=aVv hx
 exact h m hm
theorem aKF {α:Type}{d:α}{a:List α}{i:Int}(x:α)(h0:0<=i)(h1:i<a.length):atI d (nA a i x) i=x:=by
 unfold atI nA
 rw[aUU,List.getElem?_set_self (by omega)];rfl
theorem aIm {α:Type}{d:α}{a:List α}{i k:Int}(x:α)(h0:0<=i)(hk:0<=k)(h:k≠i):atI d (nA a i x) k=atI d a k:=by
 unfold atI nA
 rw[aUU,aUU,List.getElem?_set_ne (by omega)]
def tr (l:List Factor)(k:Nat):Int:=(l[k]?.map (fun f=>f.fPose.fTurn)).getD 0
theorem aMe {l:List Factor}{k:Nat}(h:k<l.length):tr l k=(l[k]).fPose.fTurn:=by
 unfold tr;rw[aUG h];rfl
def Tn (l:List Factor):Nat->Int
 | 0=>tr l 0
 | k+1=>(Tn l k+tr l (k+1)).tmod 4
section
variable {n:Int}{l:List Factor}
theorem aOE (h:GenL n l):∃ h0:0<l.length,(l[0]).fKind=1/\iN (aY l) (l[0]).fTo=pI l 0/\smP 20 (l[0]).fPose:=by
 have hn:=h.1
 have hl:=h.2.1
 have h0:0<l.length:=by omega
 obtain⟨_,_,g,o⟩:=(h.2.2.2 0 h0).1 (by omega)
 rw[aUs rfl]at o
 exact⟨h0,o.1,by rw[o.2.2];rfl,g⟩
theorem aOD (h:GenL n l){m:Nat}(hm:((m+1:Nat):Int)<=n):∃ h0:m+1<l.length,(l[m+1]).fKind=2/\iN (aY l) (l[m+1]).fFrom=pI l m/\iN (aY l) (l[m+1]).fTo=pI l (m+1)/\smP 20 (l[m+1]).fPose:=by
 have hl:=h.2.1
 have h0:m+1<l.length:=by omega
 obtain⟨_,_,g,o⟩:=(h.2.2.2 (m+1) h0).1 hm
 rw[aUq (by omega)]at o
 refine⟨h0,o.1,?_,by rw[o.2.2];rfl,g⟩
 rw[o.2.1]
 unfold pI
 rw[show((m+1:Nat):Int)-1=(m:Int)by omega]
theorem aT8 (h:GenL n l){m:Nat}(hm:m<l.length)(hn:n<(m:Int)):(l[m]).fKind≠1/\(l[m]).fKind≠2:=by
 obtain⟨_,_,_,i,_,_,c⟩:=(h.2.2.2 m hm).2 hn
 rcases c with⟨c,_⟩ | ⟨c,_⟩ <;> omega
theorem aLZ (h:GenL n l):∀ k:Nat,(k:Int)<=n->0<=Tn l k/\Tn l k<=3
 | 0,_=>by
  obtain⟨h0,_,_,g,_⟩:=aOE h
  unfold Tn;rw[aMe h0];exact g
 | k+1,hk=>by
  have i:=aLZ h k (by omega)
  obtain⟨h0,_,_,_,g,_⟩:=aOD h hk
  unfold Tn
  rw[aMe h0]
  have t1:=Int.tmod_nonneg 4 (show 0<=Tn l k+(l[k+1]).fPose.fTurn by omega)
  have t2:=Int.tmod_lt_of_pos (Tn l k+(l[k+1]).fPose.fTurn) (show(0:Int)<4 by omega)
  omega
theorem aRx {ns:List ByteArray}{a:List Int}{y:Factor}(k:y.fKind=1):aDe ns a y=if atI 0 a (iN ns y.fTo)<0 then some (iN ns y.fTo,y.fPose.fTurn)else none:=by
 unfold aDe;rw[aUs k]
theorem aRw {ns : List ByteArray} {a : List Int} {y : Factor} (k : y.fKind = 2) : aDe ns a y = if 0 ≤ atI 0 a (iN ns y.fFrom) ∧ atI 0 a (iN ns y.fTo) < 0 then some (iN ns y.fTo, (atI 0 a (iN ns y.fFrom) + y.fPose.fTurn).tmod 4)
     else if atI 0 a (iN ns y.fFrom)<0/\0<=atI 0 a (iN ns y.fTo)then some (iN ns y.fFrom,(atI 0 a (iN ns y.fTo)+4-y.fPose.fTurn).tmod 4)else none:=by
 unfold aDe;rw[aUq (by omega),aUs k]
theorem aTs {ns:List ByteArray}{a:List Int}{y:Factor}(k:y.fKind≠1/\y.fKind≠2):aDe ns a y=none:=by
 unfold aDe;rw[aUq k.1,aUq k.2]
structure HS (l:List Factor)(j:Nat)(a:List Int):Prop where
 ok:HOk l (aY l) a
 kn:∀ i:Int,0<=i->i<(aY l).length->(0<=atI 0 a i↔∃ k,k<j/\i=pI l k)
 val:∀ k,k<j->atI 0 a (pI l k)=Tn l k
variable {a:List Int}
theorem HS.on {j:Nat}(h:GenL n l)(S:HS l j a){k:Nat}(hk:(k:Int)<=n)(hj:k<j):0<=atI 0 a (pI l k):=by
 obtain⟨p1,p2⟩:=aIZ h hk
 exact(S.kn _ p1 p2).2 ⟨k,hj,rfl⟩
theorem HS.off {j:Nat}(h:GenL n l)(S:HS l j a){k:Nat}(hk:(k:Int)<=n)(hj:j<=k)(hn:(j:Int)<=n+1):atI 0 a (pI l k)<0:=by
 obtain⟨p1,p2⟩:=aIZ h hk
 rcases Int.lt_or_le (atI 0 a (pI l k)) 0 with c | c
 · exact c
 · obtain⟨m,m1,m2⟩:=(S.kn _ p1 p2).1 c
   have:=aOG h hk (by omega) m2
   omega
theorem aMQ (h:GenL n l){j:Nat}(S:HS l j a){m:Nat}(hm:m<j)(hn:(m:Int)<=n)(hl:m<l.length):aDe (aY l) a l[m]=none:=by
 cases m with
 | zero =>
  obtain⟨_,k,e,_⟩:=aOE h
  have o:=S.on h hn hm
  rw[aRx k,e,aUq (by omega)]
 | succ m =>
  obtain⟨_,k,e1,e2,_⟩:=aOD h hn
  have o1:=S.on h (k:=m) (by omega) (by omega)
  have o2:=S.on h hn hm
  rw[aRw k,e1,e2,aUq (by omega),aUq (by omega)]
theorem aQP (h:GenL n l){j:Nat}(hj:(j:Int)<=n)(S:HS l j a):l.findSome? (aDe (aY l) a)=some (pI l j,Tn l j):=by
 have hl:=h.2.1
 refine aE1 j (by omega) (fun m hm=>aMQ h S hm (by omega) (by omega)) ?_
 have f:=S.off h hj (aUI _) (by omega)
 cases j with
 | zero =>
  obtain⟨h0,k,e,_⟩:=aOE h
  rw[aRx k,e,aUs f,Tn,aMe h0]
 | succ j =>
  obtain⟨h0,k,e1,e2,_⟩:=aOD h hj
  have o:=S.on h (k:=j) (by omega) (by omega)
  rw[aRw k,e1,e2,aUs ⟨o,f⟩,S.val j (by omega),Tn,aMe h0]
theorem aSi (h:GenL n l)(S:HS l (n.toNat+1) a):l.findSome? (aDe (aY l) a)=none:=by
 have hn:=h.1
 refine aJd (fun m hm=>?_)
 rcases Int.lt_or_le n (m:Int)with c | c
 · exact aTs (aT8 h hm c)
 · exact aMQ h S (by omega) c hm
theorem aQO (h:GenL n l){j:Nat}(hj:(j:Int)<=n)(S:HS l j a):HS l (j+1) (nA a (pI l j) (Tn l j)):=by
 have t:=aLZ h j hj
 obtain⟨p1,p2⟩:=aIZ h hj
 have hlen:=S.ok.len
 refine⟨S.ok.set _ _ t,fun i h0 h1=>?_,fun k hk=>?_⟩
 · by_cases e:i=pI l j
   · subst e
     rw[aKF _ p1 (by omega)]
     exact⟨fun _=>⟨j,by omega,rfl⟩,fun _=>t.1⟩
   · rw[aIm _ p1 h0 e,S.kn i h0 h1]
     constructor
     · rintro⟨k,k1,k2⟩;exact⟨k,by omega,k2⟩
     · rintro⟨k,k1,k2⟩
       refine⟨k,?_,k2⟩
       have:k≠j:=fun e'=>e (e'▸k2)
       omega
 · by_cases e:k=j
   · subst e;exact aKF _ p1 (by omega)
   · obtain⟨q1,_⟩:=aIZ h (k:=k) (by omega)
     rw[aIm _ p1 q1 (fun e'=>e (aOG h (by omega) hj e'))]
     exact S.val k (by omega)
theorem aKk (l:List Factor)(ns:List ByteArray)(a:List Int)(H:HOk l ns a):kL l ns a=some (match l.findSome? (aDe ns a)with | none=>.inr a | some x=>.inl (nA a x.1 x.2)):=by
 unfold kL
 rw[aNE l ns a H]
 cases hx:l.findSome? (aDe ns a)with
 | none=>simp
 | some x=>simp
theorem aLE (h:GenL n l):∀ (d j:Nat) (a:List Int),d+j=n.toNat+1->HS l j a->∃ v,lp (kL l (aY l)) a=some v/\HS l (n.toNat+1) v:=by
 have hn:=h.1
 intro d
 induction d with
 | zero =>
  intro j a hj S
  have:j=n.toNat+1:=by omega
  subst this
  refine⟨a,aG ?_,S⟩
  rw[aKk _ _ _ S.ok,aSi h S]
 | succ d ih =>
  intro j a hj S
  have hj':(j:Int)<=n:=by omega
  obtain⟨v,e,q⟩:=ih (j+1) _ (by omega) (aQO h hj' S)
  refine⟨v,?_,q⟩
  rw[aO (s':=nA a (pI l j) (Tn l j)),e]
  rw[aKk _ _ _ S.ok,aQP h hj' S]
theorem aDY (h:GenL n l):∀ f∈l,aHa f:=fun f hf=>(wR h hf).2.1
end
/- Plain laws of helpers over nested data, printed by program (fam.py). -/
def yB (x:(List Int)):Nat:=szL (fun _=>0) x
def uW (x:BigInt):Nat:=yB x.fMag
def bO (x:Rat):Nat:=uW x.fNum+yB x.fDen
def nD (x:Parent):Nat:=bO x.fShare+bO x.fDX+bO x.fDY
def pO (x:(List Parent)):Nat:=szL nD x
def aW (x:Conditional):Nat:=bO x.fTotal+pO x.fParents
def cG (x:Link):Nat:=bO x.fWeight+bO x.fDX+bO x.fDY
def aK (x:(List Link)):Nat:=szL cG x
def hJ (x:TreeNode):Nat:=aK x.fOwn+aW x.fCond+aK x.fMessages+bO x.fEnergy
def zS (x:(List TreeNode)):Nat:=szL hJ x
def yA (x:Tree):Nat:=zS x.fNodes
/- Fractions made of whole numbers: both programs make the same. -/
theorem wu {n:Int}(h:0<=n/\n<=18446744073709551615):IntKind.u64.wrap n=n:=by
 have:IntKind.u64.wrap n=n % 18446744073709551616:=by simp[IntKind.wrap,IntKind.bits,IntKind.signed]
 rw[this];omega
theorem aFJ (v:Nat):((v:Int)).tmod 1000000000=((v % BB:Nat):Int):=by
 rw[Int.tmod_eq_emod_of_nonneg (by omega),cX];omega
theorem aFK (v:Nat):((v:Int)).tdiv 1000000000=((v / BB:Nat):Int):=by
 rw[Int.tdiv_eq_ediv_of_nonneg (by omega),cX];omega
theorem aGp:∀ (v:Nat) (t:List Int),v<18446744073709551616->t.length+(aA v).length<=1000->lp iQ ((v:Int),t)=some (t++aA v):=by
 intro v
 induction v using Nat.strongRecOn with
 | _ v ih =>
  intro t hv ht
  by_cases h:v=0
  · subst h
    rw[bA,aVx]
    exact aG (by unfold iQ;simp)
  · rw[gY h,aUC]at ht
    have hm:=aWh v uP
    have hd:=aWN v BB
    rw[cX]at hm
    have e:iQ ((v:Int),t)=some (.inl (((v / BB:Nat):Int),t++[((v % BB:Nat):Int)])):=by
     unfold iQ
     simp only[]
     rw[aUs (by omega),aFJ,aFK,wi (by rw[cX];omega),wu (by rw[cX]at hd ⊢;omega),aI (by omega)]
     rfl
    rw[aO e,ih _ (aWM (by omega) (by rw[cX];omega)) _ (by omega) (by simp;omega),gY h]
    simp
theorem jG {v:Nat}(h:v<18446744073709551616):(aA v).length<=3:=by
 refine fK ?_
 rw[cX];omega
theorem wL (v:Nat)(h:v<18446744073709551616):fQ (v:Int)=some (aA v):=by
 unfold fQ
 have:=jG h
 rw[aGp v [] h (by simp;omega)]
 simp
theorem aL1:∀ (v:Nat) (t:List Int),v<9223372036854775808->t.length+(aA v).length<=1000->lp rO ((v:Int),t)=some (t++aA v):=by
 intro v
 induction v using Nat.strongRecOn with
 | _ v ih =>
  intro t hv ht
  by_cases h:v=0
  · subst h
    rw[bA,aVx]
    exact aG (by unfold rO;simp)
  · rw[gY h,aUC]at ht
    have hd:=aWN v BB
    have e:rO ((v:Int),t)=some (.inl (((v / BB:Nat):Int),t++[((v % BB:Nat):Int)])):=by
     unfold rO
     simp only[]
     rw[aUs (by omega),aFJ,aFK,wi (by rw[cX]at hd ⊢;omega),aI (by omega)]
     rfl
    rw[aO e,ih _ (aWM (by omega) (by rw[cX];omega)) _ (by omega) (by simp;omega),gY h]
    simp
theorem aBa (v:Nat)(h:v<9223372036854775808):pW (v:Int)=some (aA v):=by
 unfold pW
 have:=jG (v:=v) (by omega)
 rw[aL1 v [] h (by simp;omega)]
 simp
theorem aNj (l:List Int)(hl:l.length<=4294967296):∀ k:Nat,k<=l.length->(∀ i (hi:i<l.length),k<=i->l[i]=0)->lp (iV l) (k:Int)=some (((rL l).length:Nat):Int):=by
 have htl:∀ (m:List Int) (k:Nat),k<=m.length->(∀ i (hi:i<m.length),k<=i->m[i]=0)->rL m=rL (m.take k):=by
  intro m
  induction m with
  | nil=>intro k _ _;simp
  | cons d m ih =>
   intro k hk hz
   cases k with
   | zero =>
    have h0:d=0:=hz 0 (by simp) (aUI _)
    have:=ih 0 (by omega) (fun i hi _=>by have:=hz (i+1) (by simpa using hi) (by omega);simpa using this)
    rw[aWr]at this ⊢
    unfold rL
    rw[this];simp[rL,h0]
   | succ k =>
    have:=ih k (by simpa using hk) (fun i hi hki=>by have:=hz (i+1) (by simpa using hi) (by omega);simpa using this)
    rw[aWl]
    conv=>lhs;unfold rL
    conv=>rhs;unfold rL
    rw[this]
 intro k
 induction k with
 | zero =>
  intro hk hz
  rw[htl l 0 (by omega) hz,aWr]
  exact aG (by unfold iV;simp[rL])
 | succ k ih =>
  intro hk hz
  have hlt:k<l.length:=by omega
  by_cases c:l[k]=0
  · have e:iV l ((k+1:Nat):Int)=some (.inl (k:Int)):=by
     unfold iV
     rw[aUs (by omega),wi (by omega),show((k+1:Nat):Int)-1=(k:Int)by omega,aH hlt]
     simp[c]
    rw[aO e]
    exact ih (by omega) (fun i hi hki=>by
     by_cases e:i=k
     · subst e;exact c
     · exact hz i hi (by omega))
  · have e:iV l ((k+1:Nat):Int)=some (.inr ((k+1:Nat):Int)):=by
     unfold iV
     rw[aUs (by omega),wi (by omega),show((k+1:Nat):Int)-1=(k:Int)by omega,aH hlt]
     simp[c]
    rw[aG e,htl l (k+1) hk hz,aDC (l:=l.take (k+1))]
    · simp;omega
    · have e:l.take (k+1)=l.take k++[l[k]]:=by rw[List.take_succ,aUG hlt];rfl
      rw[e,List.getLast?_concat];simpa using c
theorem aHK (l:List Int):rL l=l.take (rL l).length:=by
 induction l with
 | nil=>rfl
 | cons d l ih =>
  unfold rL
  cases h:rL l with
  | nil =>
   by_cases c:d=0 <;> simp[c]
  | cons t r =>
   rw[h]at ih
   simp only[aUC,aWl]at ih ⊢
   rw[<- ih]
theorem aJz (l:List Int):(rL l).length<=l.length:=by
 have:=congrArg List.length (aHK l)
 rw[aVp]at this;omega
theorem aIb (l:List Int)(hl:l.length<=4294967296):dX l=some (rL l):=by
 unfold dX
 rw[aNj l hl l.length (aUI _) (fun i hi h=>by omega)]
 simp only[aUp]
 have:=aJz l
 rw[tJ _ _ _ (by omega)]
 simp only[aUp]
 congr 1
 have e:=aHK l
 simp only[Int.toNat_zero,aVn,Int.sub_zero,aU1]
 exact e.symm
theorem aPb (v:Nat)(h:(aA v).length<=60):aBx (aA v)=some (aA v):=by
 unfold aBx
 rw[aIb _ (by omega)]
 simp only[aUp]
 rw[aDC (aB0 v),aUq (by omega)]
def big (n:Int):BigInt:=⟨decide (n<0),aA n.natAbs⟩
theorem qX (s:Bool)(v:Nat)(h:(aA v).length<=60):cZ s (aA v)=some ⟨s&&decide (v≠0),aA v⟩:=by
 unfold cZ
 rw[aPb v h]
 simp only[aUp]
 have hz:(0<((aA v).length:Int))↔v≠0:=by
  constructor
  · intro h e;subst e;rw[bA]at h;simp at h
  · intro h
    have:(aA v).length≠0:=fun e=>cY h (aUD.1 e)
    omega
 cases s with
 | true =>
  simp only[aUK]
  rw[aI (by simp;omega)]
  simp only[aUp,aL,aUx,aWT]
  congr 2
  exact decide_eq_decide.2 hz
 | false =>
  simp only[aUv,aUT]
  rw[aI (by simp;omega)]
  simp only[aUp,aL,aUx,Bool.false_and]
theorem vM (s:Bool)(v:Nat)(h:(aA v).length<=60):dY s (aA v)=some ⟨s&&decide (v≠0),aA v⟩:=by
 unfold dY
 by_cases hv:v=0
 · subst hv
   rw[bA];simp
 · have:(aA v).length≠0:=fun e=>cY hv (aUD.1 e)
   rw[aUq (by omega)]
   simp only[aUp]
   have h2:¬(60<((aA v).length:Int)):=by omega
   simp[h2,hv]
theorem aFm (n:Int)(h:-9223372036854775808<=n/\n<=9223372036854775807):sB n=some (big n):=by
 unfold sB big
 by_cases c:n<0
 · rw[aUs c]
   simp only[aL]
   rw[wi (n:=n+1) (by omega),wi (by omega),wu (n:=0-(n+1)) (by omega),wu (by omega)]
   have e:(0-(n+1)+1)=((n.natAbs:Nat):Int):=by omega
   have hl:=jG (v:=n.natAbs) (by omega)
   rw[e,wL _ (by omega)]
   simp only[aUp]
   rw[vM true _ (by omega)]
   simp only[aUp,aWT]
   have:n.natAbs≠0:=by omega
   simp[c,this]
 · rw[aUq c]
   have e:n=((n.natAbs:Nat):Int):=by omega
   have hl:=jG (v:=n.natAbs) (by omega)
   rw[wu (by omega)]
   conv=>lhs;rw[e]
   rw[wL _ (by omega)]
   simp only[aUp]
   rw[vM false _ (by omega)]
   simp[c]
theorem aE9 (n:Int)(h:-9223372036854775808<=n/\n<=9223372036854775807):zX n=some (big n):=by
 unfold zX big
 by_cases c0:n=-9223372036854775808
 · rw[aUs c0]
   subst c0
   have hd:([854775808,223372036,9]:List Int)=aA 9223372036854775808:=by
    have h1:dgs [854775808,223372036,9]:=by intro d hd;simp at hd;omega
    have:=aAY (l:=[854775808,223372036,9]) ⟨h1,by simp⟩
    rw[this];rfl
   have hl:=jG (v:=9223372036854775808) (by omega)
   rw[hd,qX true _ (by omega)]
   simp only[aUp]
   rfl
 · rw[aUq c0]
   by_cases c:n<0
   · rw[aUs c,wi (by omega)]
     have e:(0-n)=((n.natAbs:Nat):Int):=by omega
     have hl:=jG (v:=n.natAbs) (by omega)
     rw[e,aBa _ (by omega)]
     simp only[aUp]
     rw[qX true _ (by omega)]
     simp only[aUp,aWT]
     have:n.natAbs≠0:=by omega
     simp[c,this]
   · rw[aUq c]
     have e:n=((n.natAbs:Nat):Int):=by omega
     have hl:=jG (v:=n.natAbs) (by omega)
     conv=>lhs;rw[e]
     rw[aBa _ (by omega)]
     simp only[aUp]
     rw[qX false _ (by omega)]
     simp[c]
def nH (n:Int):Rat:=⟨big n,[1]⟩
theorem bS (n:Int)(h:-9223372036854775808<=n/\n<=9223372036854775807):bQ n=some (nH n):=by
 unfold bQ
 rw[aFm n h];rfl
theorem fM (n:Int)(h:-9223372036854775808<=n/\n<=9223372036854775807):gB n=some (nH n):=by
 unfold gB
 rw[aE9 n h];rfl
/- Links of factors. -/
def aT4:Link:=Link.mk 0 0 (Rat.mk (BigInt.mk false ([])) ([])) (Rat.mk (BigInt.mk false ([])) ([])) (Rat.mk (BigInt.mk false ([])) ([]))
theorem aKi (a:Int):iI a=some (decide (0<=a/\a<=9)):=by
 unfold iI
 by_cases h:0<=a
 · rw[aUs h];congr 1;rw[decide_eq_decide];omega
 · rw[aUq h];congr 1
   have:¬(0<=a/\a<=9):=by omega
   simp[this]
def okN (a b w x y:Int):Prop:=(0<=a/\a<=9)/\(0<=b/\b<=9)/\a≠b/\(1<=w/\w<=9999)/\(-1000000<=x/\x<=1000000)/\(-1000000<=y/\y<=1000000)
instance (a b w x y:Int):Decidable (okN a b w x y):=by unfold okN;infer_instance
def aOT (a b w x y:Int):Link×Bool:=if okN a b w x y then(if b<a then(⟨b,a,nH w,nH (0-x),nH (0-y)⟩,true)else(⟨a,b,nH w,nH x,nH y⟩,true))else(aT4,false)
theorem yU (a b w x y:Int):rE a b w x y=some (aOT a b w x y):=by
 unfold rE aOT
 rw[aKi,aKi,aCq,aCq]
 simp only[aUp]
 by_cases h1:0<=a/\a<=9
 · by_cases h2:0<=b/\b<=9
   · by_cases h3:a=b
     · have:¬okN a b w x y:=fun h=>h.2.2.1 h3
       rw[aUq this];simp[h1,h2,h3];rfl
     · by_cases h4:w<1
       · have:¬okN a b w x y:=fun h=>by have:=h.2.2.2.1;omega
         rw[aUq this];simp[h1,h2,h3,h4];rfl
       · by_cases h5:9999<w
         · have:¬okN a b w x y:=fun h=>by have:=h.2.2.2.1;omega
           rw[aUq this];simp[h1,h2,h3,h4,h5];rfl
         · by_cases h6:-1000000<=x/\x<=1000000
           · by_cases h7:-1000000<=y/\y<=1000000
             · have hok:okN a b w x y:=⟨h1,h2,h3,by omega,h6,h7⟩
               rw[aUs hok]
               simp only[h1,h2,h3,h4,h5,h6,h7,and_self,aVP,aVZ,aUK,aUT,aUp,aVj,aUv]
               by_cases h8:b<a
               · rw[aUs h8,aUs h8,wi (by omega),wi (by omega)]
                 simp only[aUp]
                 rw[bS w (by omega),bS (0-x) (by omega),bS (0-y) (by omega)];rfl
               · rw[aUq h8,aUq h8]
                 simp only[aUp]
                 rw[bS w (by omega),bS x (by omega),bS y (by omega)];rfl
             · have:¬okN a b w x y:=fun h=>h7 h.2.2.2.2.2
               rw[aUq this];simp only[h1,h2,h3,h4,h5,h6,h7,and_self,aVP,aVZ,aUK,aUT,aUp,aWg,aUv];rfl
           · have:¬okN a b w x y:=fun h=>h6 h.2.2.2.2.1
             rw[aUq this];simp only[h1,h2,h3,h4,h5,h6,and_self,aVP,aVZ,aUK,aUT,aUp,aWg,aUv];rfl
   · have:¬okN a b w x y:=fun h=>h2 h.2.1
     rw[aUq this];simp only[h1,h2,and_self,aVP,aVZ,aUK,aUT,aUp,aUv];rfl
 · have:¬okN a b w x y:=fun h=>h1 h.1
   rw[aUq this];simp only[h1,aVZ,aUK,aUT,aUp,aUv];rfl
theorem aKZ (l:List Factor)(s:ByteArray)(hl:l.length<=1048576)(hf:∀ f∈l,aHa f)(h:aJb l=true)(v:List Int)(ev:kU l=some v)(hv:v.length=(aY l).length)(h0:0<=iN (aY l) s):mV l s=some (atI 0 v (iN (aY l) s)):=by
 have hn:=aJY l
 have hb:=vD (aY l) s
 unfold mV
 rw[uH l (by omega),ev]
 simp only[aUp,aLt (aY l) s (by omega)]
 have h1:¬iN (aY l) s<0:=by omega
 have h2:¬(v.length:Int)<=iN (aY l) s:=by omega
 rw[aLD 0 h0 (by omega)]
 simp[h1,h2]
/- Links of lists of factors. -/
/- Factor lists in the program alone: names, validity, nodes, headings. -/
theorem aGa (s:ByteArray)(h:s.size<=9223372036854775807):gG s=some (qC 112 s):=by
 unfold gG qC
 rw[aGR s h]
 by_cases hb:aEY s=true
 · have e:=aJl s 0 (aH6 hb)
   rw[show((0:Nat):Int)=0 from rfl]at e
   simp only[aUp,hb,e,aUK,aWT]
   congr 2;simp;omega
 · simp[hb]
theorem aGM (s:ByteArray)(h:s.size<=9223372036854775807):jE s=some (qC 109 s):=by
 unfold jE qC
 rw[aGR s h]
 by_cases hb:aEY s=true
 · have e:=aJl s 0 (aH6 hb)
   rw[show((0:Nat):Int)=0 from rfl]at e
   simp only[aUp,hb,e,aUK,aWT]
   congr 2;simp;omega
 · simp[hb]
theorem aJy (f:Factor)(h:aHa f):gV f=some (uJ f):=by
 obtain⟨h1,h2⟩:=h
 unfold gV
 simp only[aGa _ h1,aGa _ h2,aGM _ h2,aLC,aUp]
 have tail:∀ b1 b2 b3:Bool,((if f.fKind=1 then(if f.fFrom=(⟨#[]⟩:ByteArray)then some (qC 112 f.fTo)else some false)else((if(f.fKind=2)then some (decide (f.fKind=2))else some (decide (f.fKind=4))):Option Bool).bind (fun d9=>(if d9=true then(if qC 112 f.fFrom=true then(if qC 112 f.fTo=true then some (decide (f.fFrom≠f.fTo))else some false)else some false)else(if(f.fKind=3)then(if qC 112 f.fFrom=true then(if qC 109 f.fTo=true then some (decide (f.fPose.fTurn=0))else some false)else some false)else some false)))):Option Bool)=some (aDX f):=by
  intro _ _ _
  unfold aDX
  by_cases k1:f.fKind=1
  · rw[aUs k1,aUs k1];by_cases e:f.fFrom=(⟨#[]⟩:ByteArray) <;> simp[e]
  · rw[aUq k1,aUq k1]
    by_cases k2:f.fKind=2
    · simp only[k2,aUK,aUp,aVP,true_or]
      cases qC 112 f.fFrom <;> cases qC 112 f.fTo <;> simp
    · by_cases k4:f.fKind=4
      · simp only[k4,aUK,aUp,aVP,or_true]
        cases qC 112 f.fFrom <;> cases qC 112 f.fTo <;> simp
      · simp only[k2,k4,aUT,aUp,aVZ,or_self]
        by_cases k3:f.fKind=3
        · simp only[k3,aUK];cases qC 112 f.fFrom <;> cases qC 109 f.fTo <;> simp
        · simp[k3]
 have t:=tail true true true
 by_cases a:0<=f.fId/\f.fId<=99999/\xI f.fPose/\1<=f.fWeight/\f.fWeight<=9999
 · have e:uJ f=aDX f:=by unfold uJ;rw[aUu a];rfl
   rw[e,<- t]
   obtain⟨a1,a2,a3,a4,a5⟩:=a
   rw[aUq (by omega),aUq (by omega),aUu a3,aUs rfl,aUq (by omega)]
   simp only[aUp]
   rw[aUt (by omega)]
   simp
 · have e:uJ f=false:=by unfold uJ;rw[aUt a];rfl
   rw[e]
   by_cases a1:f.fId<0
   · simp[a1]
   by_cases a2:99999<f.fId
   · simp[a1,a2]
   by_cases a3:xI f.fPose
   · by_cases a4:f.fWeight<1
     · simp[a1,a2,a3,a4]
     · by_cases a5:9999<f.fWeight
       · simp[a1,a2,a3,a4,a5]
       · exfalso;exact a ⟨by omega,by omega,a3,by omega,by omega⟩
   · simp[a1,a2,a3]
theorem aCr (l:List Factor)(hl:l.length<=1048577)(hv:∀ f∈l,aHa f):eI l=some (aJb l):=by
 unfold eI
 rw[aO6 (step:=iM l) l.length (aLV l) false
  (fun k hk=>by
   unfold iM
   rw[aUs (by omega),aH hk]
   simp only[aUp]
   exact aNC l k hk (by omega) hv _ (aJy _ (hv _ (aUA hk))))
  (by unfold iM;rw[aUq (by omega)])]
 unfold aJb
 rw[uH l hl]
 by_cases h1:l.length<=40
 · have h1':¬(40:Int)<l.length:=by omega
   by_cases hb:(List.range l.length).any (aLV l)=true
   · simp[hb,h1']
   · simp only[Bool.not_eq_true]at hb
     simp only[hb]
     simp[h1,h1'];omega
 · have:(40:Int)<l.length:=by omega
   simp[h1,this]
theorem aSL (l:List Factor)(s:ByteArray)(hl:l.length<=1048577)(hf:∀ f∈l,aHa f)(h:aJb l=true):lL l s=some (iN (aY l) s+1):=by
 unfold lL
 obtain⟨h1,h2,_⟩:=aDd h
 have hb:=vD (aY l) s
 rw[aCr l hl hf]
 simp only[aUp,h,aUK,uH l hl,aLt (aY l) s (by omega)]
 rw[wi (by omega)]
theorem aSl (ns:List ByteArray)(h:ns.length<=4194304):lp (gW ns) (0,([]:List Int))=some (List.replicate ns.length (-1)):=by
 have e:=iF (step:=gW ns) ns (fun k (t:List Int)=>((k:Int),t)) (fun t _=>t++[-1]) (fun t=>t) (fun k t=>t=List.replicate k (-1))
  (fun k t hk hi=>by
   subst hi
   refine⟨?_,by rw[List.replicate_succ']⟩
   unfold gW
   simp only[List.length_replicate]
   rw[aUs (by omega),aI (by omega),wi (by omega)]
   rfl)
  (fun t hi=>by unfold gW;simp only[];rw[aUq (by omega)]) [] rfl
 rw[show((0:Nat):Int)=0 from rfl]at e
 rw[e.1,e.2]
theorem aQQ {n:Int}{l:List Factor}(h:GenL n l):∃ v,kU l=some v/\HS l (n.toNat+1) v:=by
 have hn:=h.1
 have hf:=aGT h
 have hl:=h.2.2.1
 obtain⟨h1,h2,_⟩:=aDd hf
 have S:HS l 0 (List.replicate (aY l).length (-1)):=by
  refine⟨aS5 hf,fun i h0 h1=>?_,fun k hk=>by omega⟩
  have:atI 0 (List.replicate (aY l).length (-1)) i=-1:=by
   unfold atI
   rw[aUU,List.getElem?_replicate,aUs (by omega)];rfl
  rw[this]
  constructor
  · intro h;omega
  · rintro⟨k,hk,_⟩;omega
 obtain⟨v,e,q⟩:=aLE h (n.toNat+1) 0 _ (by omega) S
 refine⟨v,?_,q⟩
 unfold kU
 rw[aCr l (by omega) (aDY h),uH l (by omega)]
 simp only[aUp,hf,aUK]
 rw[aSl _ (by omega)]
 simp only[aUp]
 rw[e];rfl
def nd (l:List Factor)(s:ByteArray):Int:=iN (aY l) s+1
theorem aI2 {n:Int}{l:List Factor}(h:GenL n l)(s:ByteArray):lL l s=some (nd l s):=by
 have hn:=h.1
 have hl:=h.2.2.1
 exact aSL l s (by omega) (aDY h) (aGT h)
theorem aPU {ns:List ByteArray}{s:ByteArray}(h:s∈ns):jJ ns s=ns:=by
 unfold jJ
 rw[aUq (fun c=>by rw[aBW.2 h]at c;cases c.2)]
theorem aKR {ns:List ByteArray}{s:ByteArray}(h:s∉ns)(h0:s≠(⟨#[]⟩:ByteArray)):jJ ns s=ns++[s]:=by
 unfold jJ
 rw[aUs ⟨h0,aKm.2 h⟩]
theorem aPV (ns:List ByteArray):jJ ns (⟨#[]⟩:ByteArray)=ns:=by
 unfold jJ
 rw[aUq (fun c=>c.1 rfl)]
theorem aKS (ns:List ByteArray)(s:ByteArray):∃ t,jJ ns s=ns++t:=by
 unfold jJ
 split
 · exact⟨_,rfl⟩
 · exact⟨[],by simp⟩
theorem aH5:∀ (l:List Factor) (ns:List ByteArray),∃ t,l.foldl (fun ns f=>jJ (jJ ns f.fFrom) f.fTo) ns=ns++t
 | [],ns=>⟨[],by simp⟩
 | f::l,ns=>by
  obtain⟨a,e1⟩:=aKS ns f.fFrom
  obtain⟨b,e2⟩:=aKS (jJ ns f.fFrom) f.fTo
  obtain⟨c,e3⟩:=aH5 l (jJ (jJ ns f.fFrom) f.fTo)
  exact⟨a++(b++c),by rw[aVw,e3,e2,e1,aUO,aUO]⟩
def pth (k:Nat):List ByteArray:=(List.range (k+1)).map fun i:Nat=>pN (i:Int)
theorem aRp (k:Int):pN k≠(⟨#[]⟩:ByteArray):=fun e=>by
 have:=congrArg ByteArray.size e
 rw[aAS]at this
 exact absurd this (by decide)
theorem aGe {n:Int}{l:List Factor}(h:GenL n l):∀ k:Nat,(k:Int)<=n->(l.take (k+1)).foldl (fun ns f=>jJ (jJ ns f.fFrom) f.fTo) []=pth k
 | 0,hk=>by
  have hl:=h.2.1
  have h0:0<l.length:=by omega
  obtain⟨_,_,_,o⟩:=(h.2.2.2 0 h0).1 (by omega)
  rw[aUs rfl]at o
  have ht:l.take (0+1)=[l[0]]:=by rw[aV4,aWr,aUG h0];rfl
  rw[ht,aVw,List.foldl_nil,o.2.1,o.2.2,emp,aPV,aKR (by simp) (aRp 0)]
  rfl
 | k+1,hk=>by
  have hn:=h.1
  have hl:=h.2.1
  have hj:k+1<l.length:=by omega
  obtain⟨_,_,_,o⟩:=(h.2.2.2 (k+1) hj).1 hk
  rw[aUq (by omega)]at o
  have ht:l.take (k+1+1)=l.take (k+1)++[l[k+1]]:=by rw[aV4,aUG hj];rfl
  have e1:((k+1:Nat):Int)-1=(k:Int):=by omega
  rw[ht,List.foldl_append,aGe h k (by omega),aVw,List.foldl_nil,o.2.1,o.2.2,e1,aPU (ns:=pth k) (aUJ.2 ⟨k,aVH.2 (by omega),rfl⟩),aKR (ns:=pth k) (fun hm=>by
   obtain⟨i,hi,e⟩:=aUJ.1 hm
   rw[aVH]at hi
   have:=aIY (by omega) (by omega) e
   omega) (aRp _)]
  unfold pth
  rw[List.range_succ (n:=k+1),aVE];rfl
theorem aMy {ns:List ByteArray}(hn:ns.Nodup){k:Nat}(hk:k<ns.length):iN ns ns[k]=k:=by
 obtain⟨h1,h2⟩:=aAo (aUA hk)
 have h0:=yJ (aUA hk)
 have:=(List.getElem_inj hn).1 h2
 omega
theorem aBI {n:Int}{l:List Factor}(h:GenL n l){k:Nat}(hk:(k:Int)<=n):∃ hi:k<(aY l).length,(aY l)[k]=pN (k:Int):=by
 have hn:=h.1
 have e:=aGe h n.toNat (by omega)
 obtain⟨t,e2⟩:=aH5 (l.drop (n.toNat+1)) (pth n.toNat)
 have e3:aY l=pth n.toNat++t:=by
  unfold aY
  rw[<- e2,<- e,<- List.foldl_append,aVs]
 have pl:(pth n.toNat).length=n.toNat+1:=by unfold pth;simp
 refine⟨by rw[e3,aUF,pl];omega,?_⟩
 simp only[e3]
 rw[List.getElem_append_left (by omega)]
 unfold pth
 simp
theorem aQE {n:Int}{l:List Factor}(h:GenL n l){k:Nat}(hk:(k:Int)<=n):nd l (pN k)=(k:Int)+1:=by
 obtain⟨hi,e⟩:=aBI h hk
 have:=aMy (aCs h).1 hi
 unfold nd
 rw[<- e,this]
theorem aEu {n:Int}{l:List Factor}(h:GenL n l){s:ByteArray}(hs:s∈aY l):1<=nd l s/\nd l s<=(aY l).length:=by
 have h1:=yJ hs
 have h2:=vD (aY l) s
 unfold nd;omega
theorem aOU {n:Int}{l:List Factor}(h:GenL n l){s t:ByteArray}(hs:s∈aY l)(ht:t∈aY l)(e:nd l s=nd l t):s=t:=by
 obtain⟨a1,a2⟩:=aAo hs
 obtain⟨b1,b2⟩:=aAo ht
 unfold nd at e
 rw[<- a2,<- b2]
 congr 1
 omega
theorem aJ8 {i k:Int}(e:mN i=pN k):False:=by
 have:(mN i).data.toList.getD 0 0=(pN k).data.toList.getD 0 0:=by rw[e]
 unfold mN pN dgt aBi at this
 revert this
 simp
theorem aUb {n:Int}{l:List Factor}(h:GenL n l){b:Int}(hm:mN b∈aY l):n+1<nd l (mN b):=by
 have hn:=h.1
 obtain⟨a1,a2⟩:=aAo hm
 have h1:=yJ hm
 unfold nd
 refine Classical.byContradiction fun c=>?_
 obtain⟨hi,e⟩:=aBI h (k:=(iN (aY l) (mN b)).toNat) (by omega)
 rw[a2]at e
 exact aJ8 e
/- Is a number in a list. -/
theorem yW (l:List Int)(n:Int)(h:l.length<=4294967296):dP l n=some (decide (n∈l)):=by
 have main:∀ m k:Nat,m+k=l.length->lp (kG l n) (k:Int)=some (if n∈l.drop k then .inr true else .inl ()):=by
  intro m
  induction m with
  | zero =>
   intro k hk
   have:k=l.length:=by omega
   subst this
   rw[aG (r:=.inl ()) (by unfold kG;rw[aUq (by omega)]),aVO];simp
  | succ m ih =>
   intro k hk
   have hlt:k<l.length:=by omega
   rw[aUw hlt]
   by_cases c:l[k]=n
   · rw[aG (r:=.inr true) (by unfold kG;rw[aUs (by omega),aH hlt];simp[c]),aUs (by simp[c])]
   · have e:kG l n (k:Int)=some (.inl ((k:Int)+1)):=by
      unfold kG;rw[aUs (by omega),aH hlt,wi (by omega)];simp[c]
     rw[aO e,show(k:Int)+1=((k+1:Nat):Int)by omega,ih (k+1) (by omega)]
     have:(n∈l[k]::l.drop (k+1))↔n∈l.drop (k+1):=by
      rw[aUr];exact⟨fun h=>h.resolve_left (fun e=>c e.symm),.inr⟩
     simp only[this]
 have:=main l.length 0 (by omega)
 rw[show((0:Nat):Int)=0 from rfl,aVn]at this
 unfold dP
 rw[this]
 by_cases c:n∈l <;> simp[c]
theorem aDR (l:List Int)(n:Int)(h:l.length<=4294967296):zF l n=some (decide (n∈l)):=yW l n h
/- Grids: which pairs are linked, and what eliminating a node does. -/
open IntKind
def gf (g:Nat->Bool)(x y:Nat):Bool:=g (x*10+y*1)
theorem aEi {g:Nat->Bool}{a b x y:Nat}{v:Bool}(hb:b<10)(hy:y<10):gf (uV g (a*10+b*1) v) x y=if x=a/\y=b then v else gf g x y:=by
 unfold gf uV
 by_cases c:x=a/\y=b
 · rw[aUs c,aUs (by omega)]
 · rw[aUq c,aUq (by omega)]
def Bef (i j a b:Nat):Prop:=a<i\/(a=i/\b<j)
structure CutI (g:Nat->Bool)(v i j:Nat)(h:Nat->Bool):Prop where
 at':∀ x y,x<10->y<10->(gf h x y=true↔gf g x y=true\/(gf g v x=true/\gf g v y=true/\((x<y/\Bef i j x y)\/(y<x/\Bef i j y x))))
section
variable {g:Nat->Bool}{v:Nat}
theorem CutI.row {i j:Nat}{h:Nat->Bool}(hv:v<10)(dg:gf g v v=false)(c:CutI g v i j h){x:Nat}(hx:x<10):gf h v x=gf g v x:=by
 have e:=c.at' v x hv hx
 rw[dg]at e
 cases a:gf h v x with
 | true=>exact((e.1 a).resolve_right (by simp)).symm
 | false =>
  cases b:gf g v x with
  | false=>rfl
  | true=>rw[a]at e;exact absurd (e.2 (.inl b)) (by simp)
theorem CutI.here {i j:Nat}{h:Nat->Bool}(c:CutI g v i j h)(hij:i<j)(hi:i<10)(hj:j<10):gf h i j=gf g i j:=by
 have e:=c.at' i j hi hj
 have nb:¬((i<j/\Bef i j i j)\/(j<i/\Bef i j j i)):=by unfold Bef;omega
 cases a:gf h i j with
 | true =>
  rcases e.1 a with h1 | ⟨_,_,h3⟩
  · exact h1.symm
  · exact absurd h3 nb
 | false =>
  cases b:gf g i j with
  | false=>rfl
  | true=>rw[a]at e;exact absurd (e.2 (.inl b)) (by simp)
theorem CutI.set {i j:Nat}{h:Nat->Bool}(sy:∀ x y,x<10->y<10->gf g x y=gf g y x)(c:CutI g v i j h)(hij:i<j)(hi:i<10)(hj:j<10)(h1:gf g v i=true)(h2:gf g v j=true):CutI g v i (j+1) (uV (uV h (i*10+j*1) true) (j*10+i*1) true) where
 at':=fun x y hx hy=>by
  rw[aEi hi hy,aEi hj hy]
  by_cases c1:x=j/\y=i
  · obtain⟨rfl,rfl⟩:=c1
    rw[aUs ⟨rfl,rfl⟩]
    simp only[true_iff]
    exact .inr ⟨h2,h1,.inr ⟨hij,by unfold Bef;omega⟩⟩
  · rw[aUq c1]
    by_cases c2:x=i/\y=j
    · obtain⟨rfl,rfl⟩:=c2
      rw[aUs ⟨rfl,rfl⟩]
      simp only[true_iff]
      exact .inr ⟨h1,h2,.inl ⟨hij,by unfold Bef;omega⟩⟩
    · rw[aUq c2,c.at' x y hx hy]
      have e:((x<y/\Bef i (j+1) x y)\/(y<x/\Bef i (j+1) y x))↔((x<y/\Bef i j x y)\/(y<x/\Bef i j y x)):=by
       unfold Bef;omega
      rw[e]
theorem CutI.skip {i j:Nat}{h:Nat->Bool}(sy:∀ x y,x<10->y<10->gf g x y=gf g y x)(c:CutI g v i j h)(hij:i<j)(hi:i<10)(hj:j<10)(hn:¬(gf g v i=true/\gf g v j=true/\gf g i j=false)):CutI g v i (j+1) h where
 at':=fun x y hx hy=>by
  rw[c.at' x y hx hy]
  constructor
  · rintro(h1 | ⟨h1,h2,h3⟩)
    · exact .inl h1
    · refine .inr ⟨h1,h2,?_⟩
      unfold Bef at h3 ⊢;omega
  · rintro(h1 | ⟨h1,h2,h3⟩)
    · exact .inl h1
    · by_cases c1:(x<y/\Bef i j x y)\/(y<x/\Bef i j y x)
      · exact .inr ⟨h1,h2,c1⟩
      · left
        have:(x=i/\y=j)\/(y=i/\x=j):=by unfold Bef at h3 c1;omega
        rcases this with⟨rfl,rfl⟩ | ⟨rfl,rfl⟩
        · cases b:gf g x y with
          | true=>rfl
          | false=>exact absurd ⟨h1,h2,b⟩ hn
        · rw[sy x y hx hy]
          cases b:gf g y x with
          | true=>rfl
          | false=>exact absurd ⟨h2,h1,b⟩ hn
theorem aFc {n:Nat}:((n:Int)).toNat=n:=aU1 n
theorem aCY {n:Nat}(h:n<10):chk ((0:Int)<=(n:Int)/\(n:Int)<((10:Nat):Int))=some ():=aI (by omega)
theorem aUh (hv:v<10)(sy:∀ x y,x<10->y<10->gf g x y=gf g y x)(dg:gf g v v=false)(i:Nat)(hi:i<10):∀ (m j:Nat) (f:Int) (h:Nat->Bool),m+j=10->i<j->CutI g v i j h->0<=f->f<=1000*(i:Int)+j->
 ∃ f' h',lp (iR (v:Int) (i:Int)) (f,(j:Int),h)=some (f',h')/\CutI g v i 10 h'/\0<=f'/\f'<=1000*(i:Int)+10:=by
 intro m
 induction m with
 | zero =>
  intro j f h hm hij c f0 f1
  have:j=10:=by omega
  subst this
  exact⟨f,h,aG (by unfold iR;simp only[];rw[aUq (by omega)]),c,f0,f1⟩
 | succ m ih =>
  intro j f h hm hij c f0 f1
  have hj:j<10:=by omega
  have r1:h (v*10+i*1)=gf g v i:=c.row hv dg hi
  have r2:h (v*10+j*1)=gf g v j:=c.row hv dg hj
  have r3:h (i*10+j*1)=gf g i j:=c.here hij hi hj
  have w:i64.wrap ((j:Int)+1)=((j+1:Nat):Int):=wi (by omega)
  have w2:i64.wrap (f+1)=f+1:=wi (by omega)
  by_cases cc:gf g v i=true/\gf g v j=true/\gf g i j=false
  · obtain⟨c1,c2,c3⟩:=cc
    obtain⟨f',h',e1,e2⟩:=ih (j+1) (f+1) _ (by omega) (by omega) (c.set sy hij hi hj c1 c2) (by omega) (by omega)
    refine⟨f',h',?_,e2⟩
    rw[aO,e1]
    unfold iR
    simp only[]
    rw[aUs (by omega),aCY hv,aCY hi,aCY hj]
    simp only[aUp,aFc,r1,r2,r3,c1,c2,c3,aUK,aWg]
    rw[w,w2]
  · obtain⟨f',h',e1,e2⟩:=ih (j+1) f h (by omega) (by omega) (c.skip sy hij hi hj cc) f0 (by omega)
    refine⟨f',h',?_,e2⟩
    rw[aO,e1]
    unfold iR
    simp only[]
    rw[aUs (by omega),aCY hv,aCY hi,aCY hj]
    simp only[aUp,aFc,r1,r2,r3]
    cases a1:gf g v i with
    | false=>simp[w]
    | true =>
     cases a2:gf g v j with
     | false=>simp[w]
     | true =>
      cases a3:gf g i j with
      | true=>simp[w]
      | false=>exact absurd ⟨a1,a2,a3⟩ cc
theorem aUg (hv:v<10)(sy:∀ x y,x<10->y<10->gf g x y=gf g y x)(dg:gf g v v=false):∀ (m i:Nat) (f:Int) (h:Nat->Bool),m+i=10->CutI g v i (i+1) h->0<=f->f<=1000*(i:Int)->
 ∃ f' h',lp (lI (v:Int)) (f,(i:Int),h)=some (f',h')/\CutI g v 10 11 h':=by
 intro m
 induction m with
 | zero =>
  intro i f h hm c f0 f1
  have:i=10:=by omega
  subst this
  exact⟨f,h,aG (by unfold lI;simp only[];rw[aUq (by omega)]),c⟩
 | succ m ih =>
  intro i f h hm c f0 f1
  have hi:i<10:=by omega
  obtain⟨f',h',e1,e2,e3,e4⟩:=aUh hv sy dg i hi (10-(i+1)) (i+1) f h (by omega) (by omega) c f0 (by omega)
  have c2:CutI g v (i+1) (i+1+1) h':=⟨fun x y hx hy=>by
   rw[e2.at' x y hx hy]
   have e:((x<y/\Bef (i+1) (i+1+1) x y)\/(y<x/\Bef (i+1) (i+1+1) y x))↔((x<y/\Bef i 10 x y)\/(y<x/\Bef i 10 y x)):=by unfold Bef;omega
   rw[e]⟩
  obtain⟨f2,h2,g1,g2⟩:=ih (i+1) f' h' (by omega) c2 e3 (by omega)
  refine⟨f2,h2,?_,g2⟩
  rw[aO,g1]
  unfold lI
  simp only[]
  have w:i64.wrap ((i:Int)+1)=((i+1:Nat):Int):=wi (by omega)
  rw[aUs (by omega),w,e1]
  simp only[aUp]
theorem aUf (hv:v<10){h0:Nat->Bool}:∀ (m i:Nat) (h:Nat->Bool),m+i=10->(∀ x y,x<10->y<10->(gf h x y=true↔gf h0 x y=true/\¬(x=v/\y<i)/\¬(y=v/\x<i)))->
 ∃ h',lp (lH (v:Int)) ((i:Int),h)=some h'/\∀ x y,x<10->y<10->(gf h' x y=true↔gf h0 x y=true/\x≠v/\y≠v):=by
 intro m
 induction m with
 | zero =>
  intro i h hm c
  have:i=10:=by omega
  subst this
  refine⟨h,aG (by unfold lH;simp only[];rw[aUq (by omega)]),fun x y hx hy=>?_⟩
  rw[c x y hx hy]
  constructor
  · rintro⟨h1,h2,h3⟩;exact⟨h1,by omega,by omega⟩
  · rintro⟨h1,h2,h3⟩;exact⟨h1,by omega,by omega⟩
 | succ m ih =>
  intro i h hm c
  have hi:i<10:=by omega
  obtain⟨h',e1,e2⟩:=ih (i+1) (uV (uV h (v*10+i*1) false) (i*10+v*1) false) (by omega) (fun x y hx hy=>by
   rw[aEi hv hy,aEi hi hy]
   by_cases c1:x=i/\y=v
   · rw[aUs c1]
     simp only[aUv,false_iff]
     rintro⟨_,_,h3⟩;omega
   · rw[aUq c1]
     by_cases c2:x=v/\y=i
     · rw[aUs c2]
       simp only[aUv,false_iff]
       rintro⟨_,h2,_⟩;omega
     · rw[aUq c2,c x y hx hy]
       constructor
       · rintro⟨h1,h2,h3⟩;exact⟨h1,by omega,by omega⟩
       · rintro⟨h1,h2,h3⟩;exact⟨h1,by omega,by omega⟩)
  refine⟨h',?_,e2⟩
  rw[aO,e1]
  unfold lH
  simp only[]
  have w:i64.wrap ((i:Int)+1)=((i+1:Nat):Int):=wi (by omega)
  rw[aUs (by omega),aCY hv,aCY hi]
  simp only[aUp,aFc]
  rw[w]
theorem aTx (hv:v<10)(sy:∀ x y,x<10->y<10->gf g x y=gf g y x)(dg:gf g v v=false):∃ h n,mR g (v:Int)=some (h,n)/\∀ x y,x<10->y<10->(gf h x y=true↔x≠v/\y≠v/\(gf g x y=true\/(x≠y/\gf g v x=true/\gf g v y=true))):=by
 obtain⟨f1,h1,e1,c1⟩:=aUg hv sy dg 10 0 0 g (by omega) ⟨fun x y hx hy=>by
  constructor
  · exact .inl
  · rintro(h | ⟨_,_,h⟩)
    · exact h
    · unfold Bef at h;omega⟩ (by omega) (by omega)
 obtain⟨h2,e2,c2⟩:=aUf hv (h0:=h1) 10 0 h1 (by omega) (fun x y hx hy=>by
  constructor
  · intro h;exact⟨h,by omega,by omega⟩
  · exact fun h=>h.1)
 refine⟨h2,f1,?_,fun x y hx hy=>?_⟩
 · unfold mR
   rw[show((0:Nat):Int)=0 from rfl]at e1 e2
   rw[e1]
   simp only[aUp]
   rw[e2]
   rfl
 · rw[c2 x y hx hy,c1.at' x y hx hy]
   constructor
   · rintro⟨h | ⟨a,b,c⟩,hx',hy'⟩
     · exact⟨hx',hy',.inl h⟩
     · exact⟨hx',hy',.inr ⟨by omega,a,b⟩⟩
   · rintro⟨hx',hy',h | ⟨a,b,c⟩⟩
     · exact⟨.inl h,hx',hy'⟩
     · exact⟨.inr ⟨b,c,by unfold Bef;omega⟩,hx',hy'⟩
end
/- Naturals as limbs: order, sums, differences; both programs. -/
open IntKind
theorem xS:nQ=dX:=rfl
theorem aAI {l:List Int}(h:dgs l)(hl:l.length<=4294967296):dX l=some (aA (val l)):=by rw[aIb l hl,aFG h]
theorem aKC:yT=iA:=rfl
theorem aPI (x y t:Nat):sC (x+t) (y+t)=sC x y:=by unfold sC;simp only[Nat.add_lt_add_iff_right]
theorem aPG (a b:List Int)(ha:dgs a)(hb:dgs b)(hab:a.length=b.length)(hl:a.length<=4294967296):∀ k:Nat,k<=a.length->
 lp (iA a b) ((k:Int)-1)=some (if val (a.take k)=val (b.take k)then .inl ()else .inr (sC (val (a.take k)) (val (b.take k)))):=by
 intro k
 induction k with
 | zero =>
  intro _
  rw[aG (r:=.inl ()) (by unfold iA;rw[aUq (by omega)])]
  simp
 | succ k ih =>
  intro hk
  have h1:k<a.length:=by omega
  have h2:k<b.length:=by omega
  have d1:=lY ha h1
  have d2:=lY hb h2
  have v1:=aFF (aKB ha k)
  have v2:=aFF (aKB hb k)
  rw[aVp,aWk (by omega)]at v1 v2
  rw[oS h1,oS h2]
  have hk1:((k+1:Nat):Int)-1=(k:Int):=by omega
  rw[hk1]
  by_cases c1:a[k]<b[k]
  · rw[aG (r:=.inr (-1)) (by unfold iA;rw[aUs (by omega),aH h1,aH h2];simp[c1])]
    have:BB ^ k*(a[k]).toNat+BB ^ k<=BB ^ k*(b[k]).toNat:=by
     rw[<- Nat.mul_succ];exact aUS _ (by omega)
    rw[aUq (by omega)];unfold sC;rw[aUs (by omega)]
  · by_cases c2:b[k]<a[k]
    · rw[aG (r:=.inr 1) (by unfold iA;rw[aUs (by omega),aH h1,aH h2];simp[c1,c2])]
      have:BB ^ k*(b[k]).toNat+BB ^ k<=BB ^ k*(a[k]).toNat:=by
       rw[<- Nat.mul_succ];exact aUS _ (by omega)
      rw[aUq (by omega)];unfold sC;rw[aUq (by omega),aUs (by omega)]
    · have e:a[k]=b[k]:=by omega
      rw[aO (s':=(k:Int)-1) (by unfold iA;rw[aUs (by omega),aH h1,aH h2,wi (by omega)];simp[c1,c2]),ih (by omega),e]
      by_cases c3:val (a.take k)=val (b.take k)
      · rw[aUs c3,aUs (by omega)]
      · rw[aUq c3,aUq (by omega)]
        rw[aPI]
theorem aKD {x y:Nat}(h:(aA x).length<(aA y).length):sC x y=-1:=by unfold sC;rw[aUs (aLw h)]
theorem aIk {x y:Nat}(h:(aA y).length<(aA x).length):sC x y=1:=by have:=aLw h;unfold sC;rw[aUq (by omega),aUs this]
theorem aPH (x y:Nat)(hx:(aA x).length<=1000)(h:(aA x).length=(aA y).length):lp (iA (aA x) (aA y)) (((aA x).length:Int)-1)=some (if x=y then .inl ()else .inr (sC x y)):=by
 have:=aPG (aA x) (aA y) (dQ x) (dQ y) h (by omega) (aA x).length (aUI _)
 rw[aV1,h,aV1,cI,cI]at this
 rw[h];exact this
theorem aBT (x y:Nat)(hx:(aA x).length<=1000)(hy:(aA y).length<=1000):sR (aA x) (aA y)=some (sC x y):=by
 unfold sR
 by_cases c:(aA x).length=(aA y).length
 · rw[aUq (by omega),aL,wi (by omega),aPH x y hx c]
   by_cases e:x=y
   · subst e;simp[sC]
   · rw[aUq e];rfl
 · rw[aUs (by omega)]
   by_cases c2:(aA x).length<(aA y).length
   · rw[aUs (by omega),aKD c2]
   · rw[aUq (by omega),aIk (by omega)]
theorem aGr (x y:Nat)(hx:(aA x).length<=1000)(hy:(aA y).length<=1000):sW (aA x) (aA y)=some (sC x y):=by
 unfold sW
 by_cases c2:(aA x).length<(aA y).length
 · rw[aUs (by omega),aKD c2]
 · rw[aUq (by omega)]
   by_cases c3:(aA y).length<(aA x).length
   · rw[aUs (by omega),aIk c3]
   · rw[aUq (by omega),aL,wi (by omega),aKC,aPH x y hx (by omega)]
     by_cases e:x=y
     · subst e;simp[sC]
     · rw[aUq e];rfl
theorem aKL (a b:List Int)(i c:Nat)(out:List Int)(x:Nat)(hx:x<=1999999999)(ho:out.length=i)(hi:i<=2000)(hlt:i<a.length\/i<b.length\/c=1)(hc:c<=1)
 (h:(x:Int)=c+(if h:i<a.length then a[i]else 0)+(if h:i<b.length then b[i]else 0)) (ha:dgs a) (hb:dgs b) :
 jX a b ((c:Int),(i:Int),out)=some (.inl (((x / BB:Nat):Int),((i+1:Nat):Int),out++[((x % BB:Nat):Int)])):=by
 unfold jX
 simp only[]
 by_cases c1:i<a.length
 · have d1:=lY ha c1
   rw[aWD c1]at h
   rw[aUs (by omega),aUs (by omega),aH c1]
   simp only[aUp,aUK]
   rw[wi (by omega)]
   by_cases c2:i<b.length
   · have d2:=lY hb c2
     rw[aWD c2]at h
     rw[aUs (by omega),aH c2]
     simp only[aUp]
     rw[wi (by omega),<- h,aI (by omega)]
     simp only[aUp,aL]
     rw[aFJ,aFK,wi (by rw[cX];omega),wi (by omega)];rfl
   · rw[aWE c2]at h
     rw[aUq (by omega)]
     simp only[aUp]
     rw[show(c:Int)+a[i]=(x:Int)by omega,aI (by omega)]
     simp only[aUp,aL]
     rw[aFJ,aFK,wi (by rw[cX];omega),wi (by omega)];rfl
 · rw[aWE c1]at h
   have n1:¬((i:Int)<(a.length:Int)):=by omega
   simp only[n1,aUT]
   by_cases c2:i<b.length
   · have d2:=lY hb c2
     rw[aWD c2]at h
     have n2:((i:Int)<(b.length:Int)):=by omega
     simp only[n2,aUK,aUp]
     rw[aH c2]
     simp only[aUp]
     rw[wi (by omega),show(c:Int)+b[i]=(x:Int)by omega,aI (by omega)]
     simp only[aUp,aL]
     rw[aFJ,aFK,wi (by rw[cX];omega),wi (by omega)];rfl
   · rw[aWE c2]at h
     have n2:¬((i:Int)<(b.length:Int)):=by omega
     have hc1:c=1:=by omega
     have hc2:(0<(c:Int)):=by omega
     simp only[n2,hc2,aUT,aVP,aUp,aUK]
     rw[show(c:Int)=(x:Int)by omega,aI (by omega)]
     simp only[aUp,aL]
     rw[aFJ,aFK,wi (by rw[cX];omega),wi (by omega)];rfl
theorem aKK (a b:List Int)(i:Nat)(out:List Int)(h1:a.length<=i)(h2:b.length<=i):lp (jX a b) (0,(i:Int),out)=some out :=
 aG (by unfold jX;simp only[];rw[aUq (by omega),aUq (by omega)];simp)
theorem aQ9 (a b:List Int)(ha:dgs a)(hb:dgs b)(i c:Nat)(out:List Int)(hc:c<=1)(ho:out.length=i)(hi:i<=1999)(h1:a.length<=i)(h2:b.length<=i) :
 lp (jX a b) ((c:Int),(i:Int),out)=some (out++aA c):=by
 rcases Nat.eq_zero_or_pos c with e | e
 · subst e
   rw[bA,aVx];exact aKK a b i out h1 h2
 · have e1:c=1:=by omega
   subst e1
   have:=aKL a b i 1 out 1 (by omega) ho (by omega) (.inr (.inr rfl)) (by omega) (by rw[aWE (by omega),aWE (by omega)];omega) ha hb
   rw[aO this,show 1 / BB=0 from rfl,show 1 % BB=1 from rfl]
   rw[show((0:Nat):Int)=0 from rfl,aKK a b (i+1) _ (by omega) (by omega),rG (by rw[cX];omega) (by omega)]
theorem aPT (a b:List Int)(ha:nat a)(hb:nat b)(hla:a.length<=1000)(hlb:b.length<=1000):∀ (m i c:Nat) (out:List Int),c<=1->m+i=max a.length b.length->out.length=i->
 lp (jX a b) ((c:Int),(i:Int),out)=some (out++aA (c+(val (a.drop i)+val (b.drop i)))):=by
 intro m
 induction m with
 | zero =>
  intro i c out hc hm ho
  rw[eW (by omega),eW (by omega)]
  exact aQ9 a b ha.1 hb.1 i c out hc ho (by omega) (by omega) (by omega)
 | succ m ih =>
  intro i c out hc hm ho
  obtain⟨x,hx,e1,e2,e3⟩:∃ x:Nat,x<=1999999999/\c+(val (a.drop i)+val (b.drop i))=x+BB*(val (a.drop (i+1))+val (b.drop (i+1)))/\
   c+(val (a.drop i)+val (b.drop i))≠0/\(x:Int)=c+(if h:i<a.length then a[i]else 0)+(if h:i<b.length then b[i]else 0):=by
   by_cases c1:i<a.length
   · have d1:=lY ha.1 c1
     have n1:=aEN ha c1
     have v1:=hC c1
     by_cases c2:i<b.length
     · have d2:=lY hb.1 c2
       have v2:=hC c2
       refine⟨c+(a[i]).toNat+(b[i]).toNat,by omega,by rw[aVM];omega,by omega,by rw[aWD c1,aWD c2];omega⟩
     · have v2:=eW (l:=b) (k:=i) (by omega)
       have v3:=eW (l:=b) (k:=i+1) (by omega)
       refine⟨c+(a[i]).toNat,by omega,by rw[aVM,v3];omega,by omega,by rw[aWD c1,aWE c2];omega⟩
   · have c2:i<b.length:=by omega
     have d2:=lY hb.1 c2
     have n2:=aEN hb c2
     have v2:=hC c2
     have v1:=eW (l:=a) (k:=i) (by omega)
     have v3:=eW (l:=a) (k:=i+1) (by omega)
     refine⟨c+(b[i]).toNat,by omega,by rw[aVM,v3];omega,by omega,by rw[aWE c1,aWD c2];omega⟩
  rw[aO (aKL a b i c out x hx ho (by omega) (by omega) hc e3 ha.1 hb.1),ih (i+1) (x / BB) _ (by rw[cX];omega) (by omega) (by simp[ho])]
  rw[e1]at e2 ⊢
  rw[aKz e2];simp
theorem aKd (x y:Nat)(hx:(aA x).length<=1000)(hy:(aA y).length<=1000):aBy (aA x) (aA y)=some (aA (x+y)):=by
 unfold aBy
 have:=aPT (aA x) (aA y) (aOW x) (aOW y) hx hy _ 0 0 [] (by omega) (aVh _) rfl
 rw[show((0:Nat):Int)=0 from rfl,aVn,aVn,cI,cI,aUR]at this
 rw[this];rfl
theorem aOY (x y:Nat)(hx:(aA x).length<=1000)(hy:(aA y).length<=1000):zP (aA x) (aA y)=some (aA (x+y)):=aKd x y hx hy
theorem aOb (a b:List Int)(ha:dgs a)(hb:dgs b)(hla:a.length<=1000)(hab:b.length<=a.length):∀ (m i c:Nat) (out:List Int),c<=1->m+i=a.length->out.length=i->dgs out->val (a.take i)+c*BB ^ i=val out+val (b.take i)->
 ∃ (c':Nat) (out':List Int),lp (pR a b) ((c:Int),(i:Int),out)=some out'/\lp (mL a b) ((c:Int),(i:Int),out++List.replicate m 0)=some out'/\dgs out'/\out'.length=a.length/\val a+c'*BB ^ a.length=val out'+val b:=by
 intro m
 induction m with
 | zero =>
  intro i c out hc hm ho hd hv
  have e:i=a.length:=by omega
  refine⟨c,out,aG ?_,aG ?_,hd,by omega,?_⟩
  · unfold pR;simp only[];rw[aUq (by omega)]
  · unfold mL;simp only[];rw[aUq (by omega)];simp
  · rw[e,aV1,aVt hab]at hv;exact hv
 | succ m ih =>
  intro i c out hc hm ho hd hv
  have h1:i<a.length:=by omega
  have d1:=lY ha h1
  obtain⟨bi,hb1,hb2,hb3⟩:∃ bi:Nat,bi<1000000000/\val (b.take (i+1))=val (b.take i)+BB ^ i*bi/\(bi:Int)=(if h:i<b.length then b[i]else 0):=by
   by_cases c2:i<b.length
   · have d2:=lY hb c2
     exact⟨(b[i]).toNat,by omega,oS c2,by rw[aWD c2];omega⟩
   · refine⟨0,by omega,?_,by rw[aWE c2];rfl⟩
     rw[aVt (by omega),aVt (by omega)];simp
  obtain⟨n,c',hn,hc',he⟩:∃ n c':Nat,n<1000000000/\c'<=1/\a[i]-(c:Int)-(bi:Int)+c'*1000000000=(n:Int)/\(c'=1↔a[i]-(c:Int)-(bi:Int)<0):=by
   by_cases g:a[i]-(c:Int)-(bi:Int)<0
   · exact⟨(a[i]-(c:Int)-(bi:Int)+1000000000).toNat,1,by omega,by omega,by omega,by simp[g]⟩
   · exact⟨(a[i]-(c:Int)-(bi:Int)).toNat,0,by omega,by omega,by omega,by simp[g]⟩
  obtain⟨he,hg⟩:=he
  have hs:(n:Int)=a[i]-c-bi+c'*1000000000:=by omega
  have s0:(((if((i:Int)<(b.length:Int))then(idx b (i:Int)).bind fun y16=>(aS (i64.wrap (i64.wrap (a[i]-c)-y16))).bind fun v17=>some v17 else some (i64.wrap (a[i]-c))):Option Int).bind (fun d19=>((if(d19<0)then(aS (i64.wrap (d19+1000000000))).bind fun v21=>some (1,v21)else some (0,d19)):Option (Int×Int))))=some ((c':Int),(n:Int)):=by
   rw[wi (by omega)]
   have fin:∀ z:Int,z=a[i]-c-bi->(if(z<0)then(aS (i64.wrap (z+1000000000))).bind fun v21=>some ((1:Int),v21)else some (0,z))=some ((c':Int),(n:Int)):=by
    intro z hz
    by_cases g:z<0
    · have e1:c'=1:=hg.2 (by omega)
      subst e1
      rw[aUs g,aL,wi (by omega)];congr 2;omega
    · have e1:c'=0:=by
       have:¬c'=1:=fun h=>g (by have:=hg.1 h;omega)
       omega
      subst e1
      rw[aUq g];congr 2;omega
   by_cases c2:i<b.length
   · rw[aWD c2]at hb3
     rw[aUs (by omega),aH c2]
     simp only[aUp,aL]
     rw[wi (by omega)]
     exact fin _ (by omega)
   · rw[aWE c2]at hb3
     rw[aUq (by omega)]
     simp only[aUp]
     exact fin _ (by omega)
  have s1:pR a b ((c:Int),(i:Int),out)=some (.inl ((c':Int),((i+1:Nat):Int),out++[(n:Int)])):=by
   unfold pR
   simp only[]
   rw[aUs (by omega),aH h1]
   simp only[aUp]
   rw[<- Option.bind_assoc,s0]
   simp only[aUp]
   rw[aI (by omega),wi (by omega)];rfl
  have s2:mL a b ((c:Int),(i:Int),out++List.replicate (m+1) 0)=some (.inl ((c':Int),((i+1:Nat):Int),(out++[(n:Int)])++List.replicate m 0)):=by
   unfold mL
   simp only[]
   rw[aUs (by omega),aH h1]
   simp only[aUp]
   rw[<- Option.bind_assoc,s0]
   simp only[aUp]
   rw[aH (by simp;omega),wi (by omega)]
   simp only[aUp,aL,rQ]
   congr 4
   rw[List.set_append_right _ _ (by omega),ho,aW1,aV5,List.set_cons_zero];simp
  rw[aO s1,aO s2]
  refine ih (i+1) c' _ hc' (by omega) (by simp[ho]) (by rw[aM1];exact⟨hd,by intro z hz;simp at hz;omega⟩) ?_
  rw[oS h1,aID,hb2,ho]
  have e:=congrArg (BB ^ i*·) (show(a[i]).toNat+c'*BB=n+bi+c by rw[cX];omega)
  simp only[aVM]at e
  simp only[val,aU1,aWJ,aVh]
  have e2:c'*BB ^ (i+1)=BB ^ i*(c'*BB):=by rw[aVI,aU7 c',aVr,aU7 BB c']
  rw[e2]
  rw[aU7 c]at hv
  omega
theorem aQn {a b c' L:Nat}{out:List Int}(hd:dgs out)(hl:out.length=L)(h:a+c'*BB ^ L=val out+b)(hab:b<=a):val out=a-b:=by
 have:=aFF hd
 rw[hl]at this
 cases c' with
 | zero=>simp at h;omega
 | succ c =>
  rw[aV6]at h
  have:0<=c*BB ^ L:=aVk _
  omega
theorem aAh (x y:Nat)(hx:(aA x).length<=1000)(hyx:y<=x):wH (aA x) (aA y)=some (aA (x-y))/\qE (aA x) (aA y)=some (aA (x-y)):=by
 have hl:(aA y).length<=(aA x).length:=eU hyx (aUI _)
 obtain⟨c',out',e1,e2,e3,e4,e5⟩:=aOb (aA x) (aA y) (dQ x) (dQ y) hx hl (aA x).length 0 0 [] (by omega) (by omega) rfl aCw (by simp[val])
 rw[cI,cI]at e5
 have hv:=aQn e3 e4 e5 hyx
 rw[show((0:Nat):Int)=0 from rfl]at e1 e2
 rw[aUx]at e2
 constructor
 · unfold wH
   rw[e1]
   simp only[aUp]
   rw[aAI e3 (by omega),hv];rfl
 · unfold qE
   rw[aI (by omega)]
   simp only[aUp,aU1]
   rw[e2]
   simp only[aUp]
   rw[xS,aAI e3 (by omega),hv];rfl
/- Naturals as limbs: products; both programs. -/
theorem aJZ (a b:List Int)(i:Nat)(hi:i<a.length):uC a b (i:Int)=jW b (i:Int) a[i]:=by
 funext s
 obtain⟨c,j,v⟩:=s
 unfold uC jW
 simp only[aH hi,aUp,aL]
 split
 · cases idx v (IntKind.i64.wrap ((i:Int)+j))with
   | none=>cases idx b j <;> rfl
   | some y =>
    cases idx b j with
    | none=>rfl
    | some z=>simp only[aUp];rw[Int.add_comm c]
 · rfl
theorem aNy (b:List Int)(i x:Nat)(hx:x<1000000000)(hb:dgs b)(hlb:b.length<=1000)(hi:i<=1000):∀ (m j c:Nat) (v:List Int),m+j=b.length->c<1000000000->dgs v->i+b.length<=v.length->v.length<=2000->
 ∃ (c':Nat) (v':List Int),lp (jW b (i:Int) (x:Int)) ((c:Int),(j:Int),v)=some ((c':Int),v')/\c' < 1000000000/\dgs v'/\v'.length=v.length/\v'.drop (i+b.length)=v.drop (i+b.length)/\
  val v'+c'*BB ^ (i+b.length)+x*BB ^ i*val (b.take j)=val v+c*BB ^ (i+j)+x*BB ^ i*val b:=by
 intro m
 induction m with
 | zero =>
  intro j c v hm hc hv hl hl2
  have e:j=b.length:=by omega
  subst e
  refine⟨c,v,aG ?_,hc,hv,rfl,rfl,?_⟩
  · unfold jW;simp only[];rw[aUq (by omega)]
  · rw[aV1]
 | succ m ih =>
  intro j c v hm hc hv hl hl2
  have h1:j<b.length:=by omega
  have h2:i+j<v.length:=by omega
  have d1:=lY hb h1
  have d2:=lY hv h2
  obtain⟨y,hy⟩:∃ y:Nat,b[j]=(y:Int):=⟨(b[j]).toNat,by omega⟩
  obtain⟨z,hz⟩:∃ z:Nat,v[i+j]=(z:Int):=⟨(v[i+j]).toNat,by omega⟩
  have hxy:x*y<=999999999*999999999:=aUX (by omega) (by omega)
  have hxy0:((x:Int)*(y:Int))=((x*y:Nat):Int):=by push_cast;rfl
  have s1:jW b (i:Int) (x:Int) ((c:Int),(j:Int),v)=some (.inl ((((z+x*y+c) / BB:Nat):Int),((j+1:Nat):Int),v.set (i+j) (((z+x*y+c) % BB:Nat):Int))):=by
   unfold jW
   simp only[]
   rw[aUs (by omega),aH h1,wi (by omega),show(i:Int)+(j:Int)=((i+j:Nat):Int)by omega,aH h2]
   simp only[aUp,aL,rQ,hy,hz,hxy0]
   rw[wi (n:=((x*y:Nat):Int)) (by omega),wi (n:=(z:Int)+_) (by omega),wi (n:=(z:Int)+_+_) (by omega),show(z:Int)+((x*y:Nat):Int)+(c:Int)=((z+x*y+c:Nat):Int)by omega,aFJ,aFK,wi (by rw[cX];omega),wi (by omega)]
   rfl
  have hm1:=aWh (z+x*y+c) uP
  have hm2:=aWz (z+x*y+c) BB
  obtain⟨c',v',e1,e2,e3,e4,e5,e6⟩:=ih (j+1) ((z+x*y+c) / BB) (v.set (i+j) (((z+x*y+c) % BB:Nat):Int)) (by omega) (by rw[cX];omega) (aD3 hv _ _ (by rw[cX]at hm1 ⊢;omega)) (by simpa using hl) (by simpa using hl2)
  refine⟨c',v',by rw[aO s1];exact e1,e2,e3,by simpa using e4,?_,?_⟩
  · rw[e5,List.drop_set_of_lt (by omega)]
  · have hs:=aIC (l:=v) (x:=(((z+x*y+c) % BB:Nat):Int)) h2
    rw[hz]at hs
    simp only[aU1]at hs
    rw[oS h1,hy,aU1]at e6
    have f1:x*BB ^ i*(val (b.take j)+BB ^ j*y)=x*BB ^ i*val (b.take j)+BB ^ (i+j)*(x*y):=by
     rw[aVM,Nat.pow_add]
     congr 1
     rw[aVr x,aVr (BB ^ i),aWA x,aWA x]
    rw[f1]at e6
    have f2:(z+x*y+c) / BB*BB ^ (i+(j+1))=BB ^ (i+j)*(BB*((z+x*y+c) / BB)):=by
     rw[<- Nat.add_assoc,aVI,aU7 ((z+x*y+c) / BB),aVr]
    rw[f2]at e6
    have f3:=congrArg (BB ^ (i+j)*·) hm2
    simp only[aVM]at f3
    rw[aU7 c]
    omega
theorem xO {l:List Int}{k:Nat}{x:Int}:(l.set k x).drop (k+1)=l.drop (k+1):=by rw[List.drop_set_of_lt (by omega)]
theorem aNx (a b:List Int)(ha:dgs a)(hb:dgs b)(hla:a.length<=900)(hlb:b.length<=900):∀ (m i:Nat) (v:List Int),m+i=a.length->v.length=a.length+b.length->dgs v->v.drop (i+b.length)=List.replicate m 0->val v=val (a.take i)*val b->
 ∃ v':List Int,lp (pS a b) ((i:Int),v)=some v'/\lp (mM a b) ((i:Int),v)=some v'/\dgs v'/\v'.length=a.length+b.length/\val v'=val a*val b:=by
 intro m
 induction m with
 | zero =>
  intro i v hm hl hv hz he
  have e:i=a.length:=by omega
  subst e
  rw[aV1]at he
  refine⟨v,aG ?_,aG ?_,hv,hl,he⟩
  · unfold pS;simp only[];rw[aUq (by omega)]
  · unfold mM;simp only[];rw[aUq (by omega)]
 | succ m ih =>
  intro i v hm hl hv hz he
  have h1:i<a.length:=by omega
  have d1:=lY ha h1
  obtain⟨x,hx⟩:∃ x:Nat,a[i]=(x:Int):=⟨(a[i]).toNat,by omega⟩
  obtain⟨c',v',e1,e2,e3,e4,e5,e6⟩:=aNy b i x (by omega) hb (by omega) (by omega) b.length 0 0 v (by omega) (by omega) hv (by omega) (by omega)
  rw[show((0:Nat):Int)=0 from rfl]at e1
  have h2:i+b.length<v'.length:=by omega
  have hzero:v'[i+b.length]=0:=by
   have q:(v'.drop (i+b.length))[0]?=some 0:=by rw[e5,hz];simp[aV5]
   rw[aWd,aVh,aUG h2]at q
   exact Option.some.inj q
  have s1:pS a b ((i:Int),v)=some (.inl (((i+1:Nat):Int),v'.set (i+b.length) (c':Int))):=by
   unfold pS
   simp only[]
   rw[aUs (by omega),aH h1,hx]
   simp only[aUp]
   rw[e1]
   simp only[aUp,aL]
   rw[wi (by omega),show(i:Int)+(b.length:Int)=((i+b.length:Nat):Int)by omega,aH h2]
   simp only[aUp,rQ]
   rw[wi (by omega)];rfl
  have s2:mM a b ((i:Int),v)=some (.inl (((i+1:Nat):Int),v'.set (i+b.length) (c':Int))):=by
   unfold mM
   simp only[]
   rw[aUs (by omega),aJZ a b i h1,hx,e1]
   simp only[aUp,aL]
   rw[wi (by omega),show(i:Int)+(b.length:Int)=((i+b.length:Nat):Int)by omega,aH h2]
   simp only[aUp,rQ]
   rw[wi (by omega)];rfl
  rw[aO s1,aO s2]
  refine ih (i+1) _ (by omega) (by rw[aWQ];omega) (aD3 e3 _ _ (by omega)) ?_ ?_
  · rw[show i+1+b.length=(i+b.length)+1 by omega,xO,<- List.drop_drop,e5,hz,aV5];simp
  · have hs:=aIC (l:=v') (x:=(c':Int)) h2
    rw[hzero]at hs
    simp only[aU1,Int.toNat_zero,aWJ,aVh]at hs
    rw[aWr]at e6
    simp only[val,aWJ,aWI,aVh]at e6
    rw[oS h1,hx,aU1,Nat.add_mul,<- he,hs,aU7 (BB ^ (i+b.length)),e6,aU7 x]
theorem oB (x y:Nat)(hx:(aA x).length<=900)(hy:(aA y).length<=900):dN (aA x) (aA y)=some (aA (x*y))/\sT (aA x) (aA y)=some (aA (x*y)):=by
 unfold dN sT
 by_cases c1:(aA x).length=0
 · have:x=0:=aG1.1 (aUD.1 c1)
   subst this
   rw[aUs (by omega)]
   simp[bA]
 · rw[aUq (by omega)]
   by_cases c2:(aA y).length=0
   · have:y=0:=aG1.1 (aUD.1 c2)
     subst this
     simp[bA]
   · have n2:¬(((aA y).length:Int)=0):=by omega
     simp only[n2,aVZ,aUp,aUv,aUT,aL]
     rw[wi (by omega),show((aA x).length:Int)+((aA y).length:Int)=(((aA x).length+(aA y).length:Nat):Int)by omega,aI (by omega)]
     simp only[aUp,aU1]
     obtain⟨v',e1,e2,e3,e4,e5⟩:=aNx (aA x) (aA y) (dQ x) (dQ y) hx hy (aA x).length 0 (List.replicate ((aA x).length+(aA y).length) 0) (by omega) (by simp) (aFy _) (by simp) (by simp[aQj,val])
     rw[show((0:Nat):Int)=0 from rfl]at e1 e2
     rw[cI,cI]at e5
     rw[e1,e2]
     simp only[aUp]
     rw[xS,aAI e3 (by omega),e5]
     exact⟨rfl,rfl⟩
end Go.Ev
