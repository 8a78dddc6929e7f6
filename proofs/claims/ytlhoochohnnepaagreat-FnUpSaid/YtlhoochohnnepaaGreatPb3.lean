/- Parts QA, QB, QC, QD, QE, QF, P21, QG, QH, QI, QJ, QK, QM, QN, QO, QP, QR. -/
import Derived.Test.YtlhoochohnnepaaGreatPb2
import Derived.Test.YtlhoochohnnepaaGreatPb1
import Derived.Test.YtlhoochohnnepaaGreatPa1
set_option linter.all false
/- Fractions as rational numbers. -/
namespace Go.Ev
set_option linter.all false
abbrev Q:=_root_.Rat
def ofQ (q:Q):Rat:=⟨big q.num,aA q.den⟩
def cO (q:Q):Prop:=bl q.num<=24/\(aA q.den).length<=24
instance (q:Q):Decidable (cO q):=by unfold cO;infer_instance
def aDa (q:Q):Rat:=if cO q then ofQ q else lI
theorem zR {q:Q}(h:cO q):aDa q=ofQ q:=if_pos h
theorem sK {q:Q}(h:cO q):bA (ofQ q):=by
 obtain⟨h1,h2⟩:=h
 refine⟨⟨xA (by unfold bl at h1;omega),fun hn=>?_⟩,xA (by omega),cM q.den_nz,h2,h1,?_⟩
 · have:q.num<0:=of_decide_eq_true hn
   exact cM (by omega)
 · show Nat.gcd (val (aA q.num.natAbs)) (val (aA q.den))=1
   rw[cA,cA];exact q.reduced
theorem sJ {q:Q}(h:cO q):VZ (ofQ q):=.inl (sK h)
theorem aH3 (z:Int){d:Nat}(hd:0<d):mkR (decide (z<0)) z.natAbs d=aDa (mkRat z d):=by
 have hn:=_root_.Rat.num_mkRat z d
 have hden:=_root_.Rat.den_mkRat z d
 rw[if_neg (by omega)]at hn hden
 have hg:Nat.gcd d z.natAbs=Nat.gcd z.natAbs d:=Nat.gcd_comm _ _
 rw[hg]at hn hden
 generalize hgg:Nat.gcd z.natAbs d=g at hn hden
 have hgp:0<g:=by rw[<- hgg];exact Nat.gcd_pos_of_pos_right _ hd
 have hdv:g∣z.natAbs:=by rw[<- hgg];exact Nat.gcd_dvd_left _ _
 obtain⟨k,hk⟩:=hdv
 have hxk:z.natAbs / g=k:=by rw[hk,Nat.mul_div_cancel_left _ hgp]
 have hnk:(mkRat z d).num.natAbs=k/\(((mkRat z d).num<0)↔(z<0/\k≠0)):=by
  rcases Int.natAbs_eq z with e | e
  · have:(mkRat z d).num=(k:Int):=by
     rw[hn,e,hk];simp[Int.natCast_mul]
     rw[Int.mul_ediv_cancel_left _ (by omega)]
    rw[this];exact⟨by simp,by constructor <;> intro h <;> omega⟩
  · have:(mkRat z d).num=-(k:Int):=by
     rw[hn,e,hk,Int.natCast_mul,<- Int.mul_neg,Int.mul_ediv_cancel_left _ (by omega)]
    rw[this]
    refine⟨by simp,?_⟩
    constructor
    · intro h
      refine⟨?_,by omega⟩
      rcases Nat.eq_zero_or_pos k with h0 | h0
      · omega
      · have:=Nat.mul_pos hgp h0
        omega
    · rintro⟨_,h⟩;omega
 have hf:cO (mkRat z d)↔((aA k).length<=24/\(aA (d / g)).length<=24):=by unfold cO bl;rw[hnk.1,hden]
 unfold mkR aDa
 rw[if_neg (by omega),hgg,hxk]
 by_cases c:(aA k).length<=24/\(aA (d / g)).length<=24
 · rw[if_neg (by omega),if_pos (hf.2 c)]
   unfold ofQ big
   rw[hnk.1,hden]
   congr 2
   rw[<- Bool.decide_and]
   exact decide_eq_decide.2 hnk.2.symm
 · rw[if_pos (by omega),if_neg (fun h=>c (hf.1 h))]
theorem lE {q:Q}(h:cO q):0<q.den/\bl q.num<=24/\(aA q.den).length<=24:=⟨Nat.pos_of_ne_zero q.den_nz,h.1,h.2⟩
theorem aNM {p q:Q}(hp:cO p)(hq:cO q):RA (ofQ p) (ofQ q)=aDa (p+q):=by
 have h:=(zI (sJ hp) (sJ hq)).2.1
 obtain⟨a1,a2,a3⟩:=lE hp
 obtain⟨b1,b2,b3⟩:=lE hq
 have e:bU (ofQ p) (ofQ q)=some (aDa (p+q)):=by
  unfold ofQ
  rw[aAY _ _ _ _ a1 b1 a2 a3 b2 b3]
  unfold aGJ
  rw[aH3 _ (Nat.mul_pos a1 b1),_root_.Rat.add_def']
 rw[e]at h;exact(Option.some.inj h).symm
theorem aNJ {p q:Q}(hp:cO p)(hq:cO q):RM (ofQ p) (ofQ q)=aDa (p*q):=by
 have h:=(aCv (sJ hp) (sJ hq)).2.1
 obtain⟨a1,a2,a3⟩:=lE hp
 obtain⟨b1,b2,b3⟩:=lE hq
 have e:cC (ofQ p) (ofQ q)=some (aDa (p*q)):=by
  unfold ofQ
  rw[aFV _ _ _ _ a1 b1 a2 a3 b2 b3]
  unfold aLa
  rw[_root_.Rat.mul_def',<- aH3 _ (Nat.mul_pos a1 b1),Int.natAbs_mul]
  congr 1
  refine aCz fun hx=>?_
  have q':=aCw p.num q.num
  rw[decide_eq_true hx,Bool.and_true]at q'
  exact q'
 rw[e]at h;exact(Option.some.inj h).symm
theorem aNK {p q:Q}(hp:cO p)(hq:cO q)(h0:q≠0):RD (ofQ p) (ofQ q)=aDa (p / q):=by
 have h:=(aDU (sJ hp) (sJ hq)).2.1
 obtain⟨a1,a2,a3⟩:=lE hp
 obtain⟨b1,b2,b3⟩:=lE hq
 have hn:q.num≠0:=fun e=>h0 (_root_.Rat.num_eq_zero.1 e)
 have e:dX (ofQ p) (ofQ q)=some (aDa (p / q)):=by
  unfold ofQ
  rw[aFW _ _ _ _ a1 b1 a2 a3 b2 b3]
  unfold aMl
  have key:p / q=mkRat (p.num*q.num.sign*q.den) (p.den*q.num.natAbs):=by
   rw[_root_.Rat.div_def]
   conv=>lhs;rw[_root_.Rat.mul_def']
   rw[_root_.Rat.num_inv,_root_.Rat.den_inv,if_neg hn,<- Int.mul_assoc]
  rw[key,<- aH3 _ (Nat.mul_pos a1 (by omega))]
  have hs:q.num.sign.natAbs=1:=by rw[Int.natAbs_sign];simp[hn]
  have e1:(p.num*q.num.sign*q.den).natAbs=p.num.natAbs*q.den:=by
   rw[Int.natAbs_mul,Int.natAbs_mul,hs,Nat.mul_one,Int.natAbs_natCast]
  rw[e1]
  congr 1
  refine aCz fun hx=>?_
  have hp0:p.num≠0:=by rintro e;rw[e]at hx;simp at hx
  have hd0:(0:Int)<(q.den:Int):=by omega
  have:(p.num*q.num.sign*(q.den:Int)<0)↔(p.num*q.num.sign<0):=by
   constructor
   · intro hh
     rcases Int.lt_or_le (p.num*q.num.sign) 0 with h1 | h1
     · exact h1
     · have:=Int.mul_nonneg h1 (Int.le_of_lt hd0);omega
   · intro hh;exact Int.mul_neg_of_neg_of_pos hh hd0
  rw[show decide (p.num*q.num.sign*(q.den:Int)<0)=decide (p.num*q.num.sign<0)from decide_eq_decide.2 this]
  rcases Int.lt_or_gt_of_ne hn with c | c
  · rw[show decide (p.num*q.num.sign<0)=decide (p.num*-1<0)by rw[Int.sign_eq_neg_one_of_neg c]]
    by_cases cp:p.num<0 <;> simp[c,cp] <;> omega
  · rw[show decide (p.num*q.num.sign<0)=decide (p.num*1<0)by rw[Int.sign_eq_one_of_pos c]]
    have:¬q.num<0:=by omega
    by_cases cp:p.num<0 <;> simp[this,cp]
 rw[e]at h;exact(Option.some.inj h).symm
theorem aNI {p q:Q}(hp:cO p)(hq:cO q):RS (ofQ p) (ofQ q)=aDa (p-q):=by
 have h:=(aFF (sJ hp) (sJ hq)).2.1
 obtain⟨a1,a2,a3⟩:=lE hp
 obtain⟨b1,b2,b3⟩:=lE hq
 have e:eQ (ofQ p) (ofQ q)=some (aDa (p-q)):=by
  unfold eQ ofQ
  rw[aC1 _ _ b1 b2 b3]
  simp only[Option.bind_some]
  rw[aAY _ _ _ _ a1 b1 a2 a3 (by rw[aMo];exact b2) b3]
  unfold aGJ
  rw[aH3 _ (Nat.mul_pos a1 b1),_root_.Rat.sub_def',Int.neg_mul,<- Int.sub_eq_add_neg];rfl
 rw[e]at h;exact(Option.some.inj h).symm
theorem aNh {p:Q}(hp:cO p):RN (ofQ p)=ofQ (-p):=by
 have h:=(aI9 (sJ hp)).2.1
 obtain⟨a1,a2,a3⟩:=lE hp
 have e:gI (ofQ p)=some (ofQ (-p)):=by
  unfold ofQ
  rw[aC1 _ _ a1 a2 a3]
  rfl
 rw[e]at h;exact(Option.some.inj h).symm
theorem aG1 {q:Q}(h:cO q):0<sY (ofQ q)↔0<q:=by
 have:=aE4 (n:=q.num) (d:=q.den) (sK h)
 unfold ofQ
 rw[this]
 constructor
 · intro hh
   rw[_root_.Rat.lt_iff];simp;omega
 · intro hh
   rw[_root_.Rat.lt_iff]at hh;simp at hh;omega
theorem aKR:BB ^ 24=10 ^ 216:=by rw[cL,show(1000000000:Nat)=10 ^ 9 from rfl,<- Nat.pow_mul]
theorem aIg {q:Q}{n:Int}{d:Nat}(hd:0<d)(hq:q=mkRat n d)(h1:n.natAbs<BB ^ 24)(h2:d<BB ^ 24):cO q:=by
 have hn:=_root_.Rat.num_mkRat n d
 have hden:=_root_.Rat.den_mkRat n d
 rw[if_neg (by omega)]at hn hden
 subst hq
 have hgp:0<Nat.gcd d n.natAbs:=Nat.gcd_pos_of_pos_left _ hd
 unfold cO bl
 refine⟨eW ?_,eW ?_⟩
 · rw[hn]
   have:(n / (Nat.gcd d n.natAbs:Int)).natAbs<=n.natAbs:=Int.natAbs_ediv_le_natAbs _ _
   omega
 · rw[hden]
   exact Nat.lt_of_le_of_lt (Nat.div_le_self _ _) h2
end Go.Ev
/- Rational numbers over a bound denominator. -/
namespace Go.Ev
set_option linter.all false
def Dv (T:Nat)(q:Q):Prop:=∃ z:Int,q*(T:Q)=(z:Q)
theorem aFM (z:Int):Dv 1 (z:Q):=⟨z,by simp⟩
theorem nZ {T:Nat}{p q:Q}(hp:Dv T p)(hq:Dv T q):Dv T (p+q):=by
 obtain⟨a,ha⟩:=hp;obtain⟨b,hb⟩:=hq
 exact⟨a+b,by rw[_root_.Rat.add_mul,ha,hb,_root_.Rat.intCast_add]⟩
theorem aHP {T:Nat}{p:Q}(hp:Dv T p):Dv T (-p):=by
 obtain⟨a,ha⟩:=hp
 exact⟨-a,by rw[_root_.Rat.neg_mul,ha,_root_.Rat.intCast_neg]⟩
theorem xR {T:Nat}{p q:Q}(hp:Dv T p)(hq:Dv T q):Dv T (p-q):=by
 rw[_root_.Rat.sub_eq_add_neg];exact nZ hp (aHP hq)
theorem xS {T U:Nat}{p q:Q}(hp:Dv T p)(hq:Dv U q):Dv (T*U) (p*q):=by
 obtain⟨a,ha⟩:=hp;obtain⟨b,hb⟩:=hq
 refine⟨a*b,?_⟩
 rw[_root_.Rat.intCast_mul,<- ha,<- hb,_root_.Rat.natCast_mul];grind
theorem sV {T:Nat}(U:Nat){p:Q}(hp:Dv T p):Dv (T*U) p:=by
 have:=xS hp (q:=1) (U:=U) ⟨(U:Int),by rw[_root_.Rat.one_mul];rfl⟩
 rwa [_root_.Rat.mul_one]at this
theorem vK {T U:Nat}{p:Q}(hp:Dv T p)(h:T∣U):Dv U p:=by
 obtain⟨k,rfl⟩:=h;exact sV k hp
theorem aFu {T B:Nat}{q:Q}(hT:0<T)(h:Dv T q)(h1:-(B:Q)<=q)(h2:q<=(B:Q))(hB:0<B)(hb:B*T<BB ^ 24):cO q:=by
 obtain⟨z,hz⟩:=h
 have hT0:(0:Q)<(T:Q):=by
  have:((0:Nat):Q)<(T:Q):=_root_.Rat.natCast_lt_natCast.2 hT
  simpa using this
 have e:q=mkRat z T:=by
  rw[_root_.Rat.mkRat_eq_div]
  have:(T:Q)≠0:=by grind
  have e2:((T:Int):Q)=(T:Q):=rfl
  grind
 refine aIg hT e ?_ (Nat.lt_of_le_of_lt (Nat.le_mul_of_pos_left T hB) hb)
 have u1:(z:Q)<=((B*T:Nat):Q):=by
  rw[<- hz,_root_.Rat.natCast_mul]
  exact _root_.Rat.mul_le_mul_of_nonneg_right h2 (by grind)
 have u2:-((B*T:Nat):Q)<=(z:Q):=by
  rw[<- hz,_root_.Rat.natCast_mul,<- _root_.Rat.neg_mul]
  exact _root_.Rat.mul_le_mul_of_nonneg_right h1 (by grind)
 have v1:z<=((B*T:Nat):Int):=_root_.Rat.intCast_le_intCast.1 u1
 have v2:-((B*T:Nat):Int)<=z:=_root_.Rat.intCast_le_intCast.1 (by rw[_root_.Rat.intCast_neg];exact u2)
 omega
end Go.Ev
/- Links over the rational numbers; merging and joining. -/
namespace Go.Ev
set_option linter.all false
structure QL where
 a:Int
 b:Int
 w:Q
 x:Q
 y:Q
def QL.toL (l:QL):Link:=⟨l.a,l.b,ofQ l.w,ofQ l.x,ofQ l.y⟩
def QL.fit (l:QL):Prop:=cO l.w/\cO l.x/\cO l.y
def QL.ok (l:QL):Prop:=(0<=l.a/\l.a<=9)/\(0<=l.b/\l.b<=9)/\l.a<l.b/\0<l.w
theorem aEi {l:QL}(h:l.fit):ValidL l.toL↔l.ok:=by
 unfold ValidL QL.ok QL.toL
 simp only[aG1 h.1,sK h.2.1,sK h.2.2,and_true]
def cP (k l:QL):Prop:=k.a<l.a\/(k.a=l.a/\k.b<l.b)
instance (k l:QL):Decidable (cP k l):=by unfold cP;infer_instance
theorem aBb (k l:QL):dW k.toL l.toL↔cP k l:=Iff.rfl
def mrg (k l:QL):QL:=⟨k.a,k.b,k.w+l.w,(k.w*k.x+l.w*l.x) / (k.w+l.w),(k.w*k.y+l.w*l.y) / (k.w+l.w)⟩
def sqQ (x y:Q):Q:=x*x+y*y
def aFp (k l:QL):Q:=(k.w*l.w / (k.w+l.w))*sqQ (k.x-l.x) (k.y-l.y)
def aFo (k l:QL):Prop :=
 (cO (k.w+l.w)/\cO (k.w*k.x)/\cO (l.w*l.x)/\cO (k.w*k.x+l.w*l.x)/\cO ((k.w*k.x+l.w*l.x) / (k.w+l.w)))/\
 (cO (k.w*k.y)/\cO (l.w*l.y)/\cO (k.w*k.y+l.w*l.y)/\cO ((k.w*k.y+l.w*l.y) / (k.w+l.w)))/\
 (cO (k.w*l.w)/\cO (k.w*l.w / (k.w+l.w))/\cO (k.x-l.x)/\cO (k.y-l.y))/\
 (cO ((k.x-l.x)*(k.x-l.x))/\cO ((k.y-l.y)*(k.y-l.y))/\cO (sqQ (k.x-l.x) (k.y-l.y))/\cO (aFp k l))
theorem aFH {p q:Q}(hp:cO p)(hq:cO q)(h:cO (p+q)):RA (ofQ p) (ofQ q)=ofQ (p+q):=by rw[aNM hp hq,zR h]
theorem aFG {p q:Q}(hp:cO p)(hq:cO q)(h:cO (p*q)):RM (ofQ p) (ofQ q)=ofQ (p*q):=by rw[aNJ hp hq,zR h]
theorem aLt {p q:Q}(hp:cO p)(hq:cO q)(h:cO (p-q)):RS (ofQ p) (ofQ q)=ofQ (p-q):=by rw[aNI hp hq,zR h]
theorem aKI {p q:Q}(hp:cO p)(hq:cO q)(h0:q≠0)(h:cO (p / q)):RD (ofQ p) (ofQ q)=ofQ (p / q):=by rw[aNK hp hq h0,zR h]
theorem aKi {z:Int}(h:z.natAbs<2 ^ 62):cO (z:Q):=by
 refine aIg (n:=z) (d:=1) (by decide) ?_ (Nat.lt_trans h (by rw[aKR];decide)) (by rw[aKR];decide)
 rw[_root_.Rat.mkRat_eq_div];show(z:Q)=(z:Q) / ((1:Nat):Q);grind
theorem yP {z:Int}(h:z.natAbs<2 ^ 62):nX z=ofQ (z:Q):=by
 unfold nX ofQ
 rw[show aA (z:Q).den=[1]from nT (d:=1) (by rw[cL];decide) (by decide)];rfl
theorem aLd {k l:QL}(hk:k.fit)(hl:l.fit)(h0:k.w+l.w≠0)(h:aFo k l):uR k.toL l.toL/\yF k.toL l.toL=(mrg k l).toL/\aBD k.toL l.toL=ofQ (aFp k l)/\(mrg k l).fit/\cO (aFp k l):=by
 obtain⟨⟨a1,a2,a3,a4,a5⟩,⟨b2,b3,b4,b5⟩,⟨c1,c2,c3,c4⟩,d1,d2,d3,d4⟩:=h
 obtain⟨k1,k2,k3⟩:=hk
 obtain⟨l1,l2,l3⟩:=hl
 have eL:yF k.toL l.toL=(mrg k l).toL:=by
  unfold yF QL.toL mrg
  simp only[]
  rw[aFH k1 l1 a1,aFG k1 k2 a2,aFG l1 l2 a3,aFH a2 a3 a4,aKI a4 a1 h0 a5,aFG k1 k3 b2,aFG l1 l3 b3,aFH b2 b3 b4,aKI b4 a1 h0 b5]
 have eE:aBD k.toL l.toL=ofQ (aFp k l):=by
  unfold aBD QL.toL aFp sqR
  simp only[]
  unfold sqQ at d3
  rw[aFH k1 l1 a1,aFG k1 l1 c1,aKI c1 a1 h0 c2,aLt k2 l2 c3,aLt k3 l3 c4,aFG c3 c3 d1,aFG c4 c4 d2,aFH d1 d2 d3,aFG c2 d3 d4]
  rfl
 refine⟨?_,eL,eE,⟨a1,a5,b5⟩,d4⟩
 unfold uR
 rw[eL,eE]
 exact⟨sK a1,sK a5,sK b5,sK d4⟩
def jS:List QL->QL->List QL×Q
 | [],l=>([l],0)
 | k::s,l=>if cP k l then(k::(jS s l).1,(jS s l).2)else if cP l k then(l::k::s,0)else(mrg k l::s,aFp k l)
def aAM:List QL->QL->Prop
 | [],_=>True
 | k::s,l=>if cP k l then aAM s l else if cP l k then True else k.w+l.w≠0/\aFo k l
theorem rG {k l:QL}{s:List QL}(c:cP k l):jS (k::s) l=(k::(jS s l).1,(jS s l).2):=by rw[jS,if_pos c]
theorem uH {k l:QL}{s:List QL}(c:¬cP k l)(d:cP l k):jS (k::s) l=(l::k::s,0):=by rw[jS,if_neg c,if_pos d]
theorem uG {k l:QL}{s:List QL}(c:¬cP k l)(d:¬cP l k):jS (k::s) l=(mrg k l::s,aFp k l):=by rw[jS,if_neg c,if_neg d]
theorem aCD:nX 0=ofQ 0:=yP (by decide)
theorem aBt:cO 0:=aKi (z:=0) (by decide)
theorem aI6 {y l:Link}{r:List Link}(h:dW y l):xO (y::r) l=(xO r l).map (fun t=>(y::t.1,t.2)):=by
 have e:cY l (y::r)=cY l r+1:=by rw[cY,if_pos h]
 unfold xO
 rw[e]
 by_cases c:cY l r<r.length
 · rw[dif_pos c,dif_pos (by simpa using c)]
   simp only[List.getElem_cons_succ,List.take_succ_cons,List.drop_succ_cons,List.cons_append]
   split
   · rfl
   · split <;> rfl
 · rw[dif_neg c,dif_neg (by simpa using c)]
   simp only[List.take_succ_cons,List.drop_succ_cons,List.cons_append]
   rfl
theorem aI7 {y l:Link}{r:List Link}(h:¬dW y l):xO (y::r) l=if dW l y then some (l::y::r,nX 0)else if uR y l then some (yF y l::r,aBD y l)else none:=by
 have e:cY l (y::r)=0:=by rw[cY,if_neg h]
 unfold xO
 rw[e]
 simp
theorem aLR:∀ (s:List QL) (l:QL),(∀ k∈s,k.fit)->l.fit->aAM s l->xO (s.map QL.toL) l.toL=some ((jS s l).1.map QL.toL,ofQ (jS s l).2)/\(∀ k∈(jS s l).1,k.fit)/\cO (jS s l).2
 | [],l,_,hl,_=>by
  refine⟨?_,?_,aBt⟩
  · unfold xO jS
    simp[cY,aCD]
  · intro k hk
    simp[jS]at hk;subst hk;exact hl
 | k::s,l,hs,hl,hf=>by
  unfold aAM at hf
  rw[List.map_cons]
  by_cases c:cP k l
  · rw[if_pos c]at hf
    obtain⟨g1,g2,g3⟩:=aLR s l (fun x hx=>hs x (by simp[hx])) hl hf
    rw[aI6 ((aBb k l).2 c),g1,rG c]
    refine⟨rfl,fun x hx=>?_,g3⟩
    rcases List.mem_cons.1 hx with rfl | hx
    · exact hs _ (by simp)
    · exact g2 x hx
  · rw[if_neg c]at hf
    rw[aI7 (fun h=>c ((aBb k l).1 h))]
    by_cases d:cP l k
    · rw[uH c d,if_pos ((aBb l k).2 d)]
      refine⟨by rw[aCD];rfl,fun x hx=>?_,aBt⟩
      rcases List.mem_cons.1 hx with rfl | hx
      · exact hl
      · exact hs x hx
    · rw[if_neg d]at hf
      rw[uG c d,if_neg (fun h=>d ((aBb l k).1 h))]
      obtain⟨g1,g2,g3,g4,g5⟩:=aLd (hs k (by simp)) hl hf.1 hf.2
      rw[if_pos g1,g2,g3]
      refine⟨rfl,fun x hx=>?_,g5⟩
      rcases List.mem_cons.1 hx with rfl | hx
      · exact g4
      · exact hs x (by simp[hx])
def bG:List QL->List QL->Q->List QL×Q
 | [],s,e=>(s,e)
 | x::r,s,e=>bG r (jS s x).1 (e+(jS s x).2)
def xG:List QL->List QL->Q->Prop
 | [],_,_=>True
 | x::r,s,e=>aAM s x/\cO (e+(jS s x).2)/\xG r (jS s x).1 (e+(jS s x).2)
theorem aJ2:∀ (l s:List QL) (e:Q),(∀ k∈l,k.fit)->(∀ k∈s,k.fit)->cO e->xG l s e->qM (l.map QL.toL) (s.map QL.toL) (ofQ e)=some ((bG l s e).1.map QL.toL,ofQ (bG l s e).2)/\(∀ k∈(bG l s e).1,k.fit)/\cO (bG l s e).2
 | [],s,e,_,hs,he,_=>⟨rfl,hs,he⟩
 | x::r,s,e,hl,hs,he,hf=>by
  obtain⟨f1,f2,f3⟩:=hf
  obtain⟨g1,g2,g3⟩:=aLR s x hs (hl x (by simp)) f1
  rw[List.map_cons,qM,g1]
  simp only[]
  rw[aFH he g3 f2,if_pos (sK f2)]
  exact aJ2 r _ _ (fun y hy=>hl y (by simp[hy])) g2 f2 f3
end Go.Ev
/- What joining keeps: sums, energies, order, scale. -/
namespace Go.Ev
set_option linter.all false
def sm (f:QL->Q):List QL->Q
 | []=>0
 | x::l=>f x+sm f l
theorem wT (f:QL->Q):∀ a b:List QL,sm f (a++b)=sm f a+sm f b
 | [],b=>by simp only[List.nil_append,sm];grind
 | x::a,b=>by rw[List.cons_append,sm,sm,wT f a b,_root_.Rat.add_assoc]
theorem pI {f:QL->Q}:∀ {l:List QL},(∀ x∈l,0<=f x)->0<=sm f l
 | [],_=>by simp[sm]
 | x::l,h=>by
  have h1:=h x (by simp)
  have h2:=pI (f:=f) (l:=l) (fun y hy=>h y (by simp[hy]))
  rw[sm];grind
theorem aG0 {f:QL->Q}:∀ {l:List QL},(∀ x∈l,0<=f x)->∀ x∈l,f x<=sm f l
 | y::l,h,x,hx=>by
  have h1:=h y (by simp)
  have h2:=pI (f:=f) (l:=l) (fun y hy=>h y (by simp[hy]))
  rw[sm]
  rcases List.mem_cons.1 hx with rfl | hx
  · grind
  · have:=aG0 (f:=f) (l:=l) (fun y hy=>h y (by simp[hy])) x hx
    grind
theorem aLD {f g:QL->Q}:∀ {l:List QL},(∀ x∈l,f x<=g x)->sm f l<=sm g l
 | [],_=>by simp[sm]
 | x::l,h=>by
  have h1:=h x (by simp)
  have h2:=aLD (f:=f) (g:=g) (l:=l) (fun y hy=>h y (by simp[hy]))
  rw[sm,sm];grind
theorem aJk (c:Q)(f:QL->Q):∀ l:List QL,sm (fun x=>c*f x) l=c*sm f l
 | []=>by simp[sm]
 | x::l=>by rw[sm,sm,aJk c f l];grind
def enQ (l:QL):Q:=l.w*sqQ l.x l.y
def wt (l:QL):Q:=l.w
def mx (l:QL):Q:=l.w*l.x
def my (l:QL):Q:=l.w*l.y
theorem aMd {k l:QL}(hk:0<k.w)(hl:0<l.w):enQ (mrg k l)+aFp k l=enQ k+enQ l:=by
 have:k.w+l.w≠0:=by grind
 unfold enQ mrg aFp sqQ
 simp only[]
 grind
theorem aMa (k l:QL):wt (mrg k l)=wt k+wt l:=rfl
theorem aMc {k l:QL}(hk:0<k.w)(hl:0<l.w):mx (mrg k l)=mx k+mx l:=by
 have:k.w+l.w≠0:=by grind
 unfold mx mrg
 simp only[]
 grind
theorem aMb {k l:QL}(hk:0<k.w)(hl:0<l.w):my (mrg k l)=my k+my l:=by
 have:k.w+l.w≠0:=by grind
 unfold my mrg
 simp only[]
 grind
theorem aLb {k l:QL}(hk:0<k.w)(hl:0<l.w):0<(mrg k l).w:=by
 show 0<k.w+l.w;grind
theorem zN {k l:QL}(c:¬cP k l)(d:¬cP l k):k.a=l.a/\k.b=l.b:=by unfold cP at c d;omega
theorem aDS {P:QL->Prop}(hP:∀ k l,k.a=l.a->k.b=l.b->P k->P l->P (mrg k l)):∀ (s:List QL) (l:QL),(∀ x∈s,P x)->P l->∀ x∈(jS s l).1,P x
 | [],l,_,hl,x,hx=>by simp[jS]at hx;subst hx;exact hl
 | k::s,l,hs,hl,x,hx=>by
  by_cases c:cP k l
  · rw[rG c]at hx
    rcases List.mem_cons.1 hx with rfl | hx
    · exact hs _ (by simp)
    · exact aDS hP s l (fun y hy=>hs y (by simp[hy])) hl x hx
  · by_cases d:cP l k
    · rw[uH c d]at hx
      rcases List.mem_cons.1 hx with rfl | hx
      · exact hl
      · exact hs x hx
    · rw[uG c d]at hx
      rcases List.mem_cons.1 hx with rfl | hx
      · exact hP _ _ (zN c d).1 (zN c d).2 (hs k (by simp)) hl
      · exact hs x (by simp[hx])
theorem aIk {f:QL->Q}(hf:∀ k l,k.a=l.a->k.b=l.b->0<k.w->0<l.w->f (mrg k l)=f k+f l):∀ (s:List QL) (l:QL),(∀ x∈s,0<x.w)->0<l.w->sm f (jS s l).1=sm f s+f l
 | [],l,_,hl=>by simp only[jS,sm];grind
 | k::s,l,hs,hl=>by
  by_cases c:cP k l
  · rw[rG c,sm,sm,aIk hf s l (fun y hy=>hs y (by simp[hy])) hl];grind
  · by_cases d:cP l k
    · rw[uH c d,sm];grind
    · rw[uG c d,sm,sm,hf _ _ (zN c d).1 (zN c d).2 (hs k (by simp)) hl];grind
theorem aIl:∀ (s:List QL) (l:QL),(∀ x∈s,0<x.w)->0<l.w->sm enQ (jS s l).1+(jS s l).2=sm enQ s+enQ l
 | [],l,_,hl=>by simp only[jS,sm];grind
 | k::s,l,hs,hl=>by
  by_cases c:cP k l
  · have:=aIl s l (fun y hy=>hs y (by simp[hy])) hl
    rw[rG c,sm,sm];simp only[];grind
  · by_cases d:cP l k
    · rw[uH c d,sm];grind
    · have:=aMd (hs k (by simp)) hl
      rw[uG c d,sm,sm];simp only[];grind
theorem aGh {a b c:QL}(h:cP a b)(g:cP b c):cP a c:=by unfold cP at *;omega
theorem aGK:∀ (s:List QL) (l:QL),s.Pairwise cP->(jS s l).1.Pairwise cP
 | [],l,_=>by simp[jS]
 | k::s,l,h=>by
  rw[List.pairwise_cons]at h
  by_cases c:cP k l
  · rw[rG c]
    simp only[]
    rw[List.pairwise_cons]
    refine⟨aDS (P:=fun x=>cP k x) (fun a b e1 e2 g1 g2=>?_) s l h.1 c,aGK s l h.2⟩
    exact g1
  · by_cases d:cP l k
    · rw[uH c d]
      simp only[]
      rw[List.pairwise_cons]
      refine⟨fun x hx=>?_,List.pairwise_cons.2 h⟩
      rcases List.mem_cons.1 hx with rfl | hx
      · exact d
      · exact aGh d (h.1 x hx)
    · rw[uG c d]
      simp only[]
      rw[List.pairwise_cons]
      exact⟨fun x hx=>h.1 x hx,h.2⟩
def Sc (D:Nat)(l:QL):Prop:=0<l.w/\Dv D l.w/\Dv D (mx l)/\Dv D (my l)
theorem aMs {D:Nat}{k l:QL}(hk:Sc D k)(hl:Sc D l):Sc D (mrg k l):=by
 refine⟨aLb hk.1 hl.1,nZ hk.2.1 hl.2.1,?_,?_⟩
 · rw[aMc hk.1 hl.1];exact nZ hk.2.2.1 hl.2.2.1
 · rw[aMb hk.1 hl.1];exact nZ hk.2.2.2 hl.2.2.2
theorem aMt {D E:Nat}{l:QL}(h:Sc D l)(hd:D∣E):Sc E l:=⟨h.1,vK h.2.1 hd,vK h.2.2.1 hd,vK h.2.2.2 hd⟩
def nm (D:Nat)(w:Q):Nat:=(w*(D:Q)).num.toNat
theorem xV {D:Nat}{w:Q}(hD:0<D)(hw:0<w)(h:Dv D w):(nm D w:Q)=w*(D:Q)/\0<nm D w:=by
 obtain⟨z,hz⟩:=h
 have hD':(0:Q)<(D:Q):=by
  have:((0:Nat):Q)<(D:Q):=_root_.Rat.natCast_lt_natCast.2 hD
  simpa using this
 have hp:0<w*(D:Q):=_root_.Rat.mul_pos hw hD'
 have hzp:0<z:=by
  have:((0:Int):Q)<(z:Q):=by rw[<- hz];exact hp
  exact _root_.Rat.intCast_lt_intCast.1 this
 unfold nm
 rw[hz]
 have e:((z:Q)).num=z:=rfl
 rw[e]
 refine⟨?_,by omega⟩
 have e2:((z.toNat:Int):Q)=(z:Q):=by rw[Int.toNat_of_nonneg (by omega)]
 exact e2
theorem aB5 {D W:Nat}{w:Q}(hD:0<D)(hw:0<w)(h:Dv D w)(hW:w<=(W:Q)):nm D w<=W*D:=by
 have hD':(0:Q)<=(D:Q):=by
  have:((0:Nat):Q)<=(D:Q):=_root_.Rat.natCast_le_natCast.2 (Nat.zero_le _)
  simpa using this
 have h1:=(xV hD hw h).1
 have h2:w*(D:Q)<=(W:Q)*(D:Q):=_root_.Rat.mul_le_mul_of_nonneg_right hW hD'
 rw[<- h1,<- _root_.Rat.natCast_mul]at h2
 exact _root_.Rat.natCast_le_natCast.1 h2
theorem aBs {D:Nat}{w a:Q}(hD:0<D)(hw:0<w)(h:Dv D w)(ha:Dv D a):Dv (nm D w) (a / w):=by
 obtain⟨z,hz⟩:=ha
 refine⟨z,?_⟩
 rw[(xV hD hw h).1,<- hz]
 have:w≠0:=by grind
 grind
theorem aMT {l:QL}(h:0<l.w):l.x=mx l / l.w/\l.y=my l / l.w:=by
 have:l.w≠0:=by grind
 unfold mx my
 constructor <;> grind
theorem aHI {D:Nat}{l:QL}(hD:0<D)(h:Sc D l):Dv (nm D l.w) l.x/\Dv (nm D l.w) l.y:=by
 rw[(aMT h.1).1,(aMT h.1).2]
 exact⟨aBs hD h.1 h.2.1 h.2.2.1,aBs hD h.1 h.2.1 h.2.2.2⟩
theorem aIo {D:Nat}{l:QL}(hD:0<D)(h:Sc D l):Dv (D*nm D l.w) (enQ l):=by
 have e:enQ l=mx l*l.x+my l*l.y:=by unfold enQ sqQ mx my;grind
 rw[e]
 exact nZ (xS h.2.2.1 (aHI hD h).1) (xS h.2.2.2 (aHI hD h).2)
def pn (D:Nat):List QL->Nat
 | []=>1
 | x::l=>nm D x.w*pn D l
theorem aG6 (D:Nat):∀ a b:List QL,pn D (a++b)=pn D a*pn D b
 | [],b=>by simp[pn]
 | x::a,b=>by rw[List.cons_append,pn,pn,aG6 D a b,Nat.mul_assoc]
theorem aFj (D:Nat):∀ {l:List QL},∀ x∈l,nm D x.w∣pn D l
 | y::l,x,hx=>by
  rw[pn]
  rcases List.mem_cons.1 hx with rfl | hx
  · exact Nat.dvd_mul_right _ _
  · exact Nat.dvd_trans (aFj D x hx) (Nat.dvd_mul_left _ _)
theorem aBB {D:Nat}(hD:0<D):∀ {l:List QL},(∀ x∈l,Sc D x)->0<pn D l
 | [],_=>by simp[pn]
 | x::l,h=>Nat.mul_pos (xV hD (h x (by simp)).1 (h x (by simp)).2.1).2 (aBB hD (fun y hy=>h y (by simp[hy])))
theorem aEv {D W:Nat}(hD:0<D):∀ {l:List QL},(∀ x∈l,Sc D x)->(∀ x∈l,x.w<=(W:Q))->pn D l<=(W*D) ^ l.length
 | [],_,_=>by simp[pn]
 | x::l,h,g=>by
  rw[pn,List.length_cons,Nat.pow_succ,Nat.mul_comm]
  exact Nat.mul_le_mul (aEv hD (fun y hy=>h y (by simp[hy])) (fun y hy=>g y (by simp[hy]))) (aB5 hD (h x (by simp)).1 (h x (by simp)).2.1 (g x (by simp)))
theorem aGQ {T:Nat}{f:QL->Q}:∀ {l:List QL},(∀ x∈l,Dv T (f x))->Dv T (sm f l)
 | [],_=>⟨0,by simp[sm]⟩
 | x::l,h=>nZ (h x (by simp)) (aGQ (fun y hy=>h y (by simp[hy])))
theorem aDT {D:Nat}(hD:0<D){l:List QL}(h:∀ x∈l,Sc D x):Dv (D*pn D l) (sm enQ l) :=
 aGQ fun x hx=>vK (aIo hD (h x hx)) (Nat.mul_dvd_mul_left D (aFj D x hx))
end Go.Ev
/- Joining computes with few digits only. -/
namespace Go.Ev
set_option linter.all false
def bd (B:Nat)(q:Q):Prop:=-(B:Q)<=q/\q<=(B:Q)
theorem aAH (n:Nat):(0:Q)<=(n:Q):=by
 have:((0:Nat):Q)<=(n:Q):=_root_.Rat.natCast_le_natCast.2 (Nat.zero_le _)
 simpa using this
theorem aHf {m n:Nat}(h:m<=n):(m:Q)<=(n:Q):=_root_.Rat.natCast_le_natCast.2 h
theorem aLQ {A B:Nat}{p:Q}(h:bd A p)(hl:A<=B):bd B p:=by
 have:=aHf hl
 unfold bd at *;grind
theorem aFz {A B:Nat}{p q:Q}(hp:bd A p)(hq:bd B q):bd (A+B) (p+q):=by
 unfold bd at *;rw[_root_.Rat.natCast_add];grind
theorem aFy {A B:Nat}{p q:Q}(hp:bd A p)(hq:bd B q):bd (A+B) (p-q):=by
 unfold bd at *;rw[_root_.Rat.natCast_add];grind
theorem aKx {A:Nat}{p:Q}(hp:bd A p):bd A (-p):=by
 unfold bd at *;grind
theorem pF {A B:Nat}{p q:Q}(hp:bd A p)(hq:bd B q):bd (A*B) (p*q):=by
 unfold bd at *
 rw[_root_.Rat.natCast_mul]
 have a1:0<=((A:Q)-p)*((B:Q)+q):=_root_.Rat.mul_nonneg (by grind) (by grind)
 have a2:0<=((A:Q)+p)*((B:Q)-q):=_root_.Rat.mul_nonneg (by grind) (by grind)
 have a3:0<=((A:Q)+p)*((B:Q)+q):=_root_.Rat.mul_nonneg (by grind) (by grind)
 have a4:0<=((A:Q)-p)*((B:Q)-q):=_root_.Rat.mul_nonneg (by grind) (by grind)
 constructor <;> grind
theorem aFw {A:Nat}{p w:Q}(hw:0<w)(h1:-(A:Q)*w<=p)(h2:p<=(A:Q)*w):bd A (p / w):=by
 have e:p / w*w=p:=_root_.Rat.div_mul_cancel (by grind)
 constructor
 · exact _root_.Rat.le_of_mul_le_mul_right (by rw[e];exact h1) hw
 · exact _root_.Rat.le_of_mul_le_mul_right (by rw[e];exact h2) hw
theorem aEZ {A:Nat}{w x:Q}(hw:0<w)(h:bd A x):-(A:Q)*w<=w*x/\w*x<=(A:Q)*w:=by
 have h1:0<=w*(x+A):=_root_.Rat.mul_nonneg (by grind) (by unfold bd at h;grind)
 have h2:0<=w*(A-x):=_root_.Rat.mul_nonneg (by grind) (by unfold bd at h;grind)
 constructor <;> grind
theorem aFA {A:Nat}{w v x y:Q}(hw:0<w)(hv:0<v)(hx:bd A x)(hy:bd A y):bd A ((w*x+v*y) / (w+v)):=by
 obtain⟨a1,a2⟩:=aEZ hw hx
 obtain⟨b1,b2⟩:=aEZ hv hy
 exact aFw (by grind) (by grind) (by grind)
def PP:Nat:=72 ^ 16
theorem aMA:0<PP:=by decide
theorem uX {a b T U:Nat}(h:T<=PP ^ a)(g:U<=PP ^ b):T*U<=PP ^ (a+b):=by
 rw[Nat.pow_add];exact Nat.mul_le_mul h g
theorem mH {a b T:Nat}(h:T<=PP ^ a)(g:a<=b):T<=PP ^ b:=Nat.le_trans h (Nat.pow_le_pow_right aMA g)
theorem gO {T B:Nat}{q:Q}(hT:0<T)(h:Dv T q)(h1:bd B q)(hB:0<B)(b:B<=10 ^ 12)(t:T<=PP ^ 6):cO q:=by
 refine aFu hT h h1.1 h1.2 hB (Nat.lt_of_le_of_lt (Nat.mul_le_mul b t) ?_)
 rw[aKR];unfold PP;decide
theorem aIu {W:Nat}{w:Q}(h:0<w)(h2:w<=(W:Q)):bd W w:=⟨by have:=aAH W;grind,h2⟩
structure Lk (D X:Nat)(l:QL):Prop where
 sc:Sc D l
 bx:bd X l.x
 by':bd X l.y
theorem aMC {D X:Nat}{k l:QL}(hk:Lk D X k)(hl:Lk D X l):Lk D X (mrg k l) :=
 ⟨aMs hk.sc hl.sc,aFA hk.sc.1 hl.sc.1 hk.bx hl.bx,aFA hk.sc.1 hl.sc.1 hk.by' hl.by'⟩
theorem aFs {D X:Nat}{l:QL}(hD:0<D)(hP:72*D<=PP)(h:Lk D X l)(hX:X<=1000)(h0:0<X)(hw:l.w<=72):l.fit:=by
 have hn:=aB5 hD h.sc.1 h.sc.2.1 (W:=72) hw
 have np:=(xV hD h.sc.1 h.sc.2.1).2
 obtain⟨x1,x2⟩:=aHI hD h.sc
 have e1:D<=PP ^ 6:=mH (a:=1) (by rw[Nat.pow_one];omega) (by omega)
 have e2:nm D l.w<=PP ^ 6:=mH (a:=1) (by rw[Nat.pow_one];omega) (by omega)
 exact⟨gO hD h.sc.2.1 (aIu (W:=72) h.sc.1 hw) (by omega) (by omega) e1,gO np x1 h.bx h0 (by omega) e2,gO np x2 h.by' h0 (by omega) e2⟩
theorem aIM {D X:Nat}{k l:QL}(hD:0<D)(hP:72*D<=PP)(hX:X<=1000)(h0:0<X)(hk:Lk D X k)(hl:Lk D X l)(hw:k.w+l.w<=72):aFo k l:=by
 have pk:=hk.sc.1
 have pl:=hl.sc.1
 have kw:k.w<=((72:Nat):Q):=by show k.w<=72;grind
 have lw:l.w<=((72:Nat):Q):=by show l.w<=72;grind
 have sw:k.w+l.w<=((72:Nat):Q):=hw
 have dk:=hk.sc.2.1
 have dl:=hl.sc.2.1
 have ds:=nZ dk dl
 have ps:0<k.w+l.w:=by grind
 have nk:=aB5 hD pk dk kw
 have nl:=aB5 hD pl dl lw
 have ns:=aB5 hD ps ds sw
 have qk:=(xV hD pk dk).2
 have ql:=(xV hD pl dl).2
 obtain⟨qe,qs⟩:=xV hD ps ds
 obtain⟨xk,yk⟩:=aHI hD hk.sc
 obtain⟨xl,yl⟩:=aHI hD hl.sc
 have eD:D<=PP ^ 1:=by rw[Nat.pow_one];omega
 have eK:nm D k.w<=PP ^ 1:=by rw[Nat.pow_one];omega
 have eL:nm D l.w<=PP ^ 1:=by rw[Nat.pow_one];omega
 have eS:nm D (k.w+l.w)<=PP ^ 1:=by rw[Nat.pow_one];omega
 have bk:=aIu pk kw
 have bl':=aIu pl lw
 have bs:=aIu ps sw
 have X2:X*X<=1000000:=Nat.mul_le_mul hX hX
 have X3:0<X*X:=Nat.mul_pos h0 h0
 have cw:Dv (D*nm D (k.w+l.w)) (k.w*l.w / (k.w+l.w)):=by
  obtain⟨z,hz⟩:=xS dk dl
  refine⟨z,?_⟩
  rw[<- hz,_root_.Rat.natCast_mul,_root_.Rat.natCast_mul,qe]
  have:k.w+l.w≠0:=by grind
  grind
 have cb:bd 72 (k.w*l.w / (k.w+l.w)):=by
  have e:=aEZ pk bl'
  have p2:0<k.w*k.w:=_root_.Rat.mul_pos pk pk
  have p3:0<k.w*l.w:=_root_.Rat.mul_pos pk pl
  exact aFw ps (by have:=aAH 72;have:=_root_.Rat.mul_nonneg this (Std.le_of_lt ps);grind) (by have:=_root_.Rat.mul_nonneg (aAH 72) (Std.le_of_lt pl);grind)
 have dx:=xR (sV (nm D l.w) xk) (by rw[Nat.mul_comm];exact sV (nm D k.w) xl)
 have dy:=xR (sV (nm D l.w) yk) (by rw[Nat.mul_comm];exact sV (nm D k.w) yl)
 have bx:=aFy hk.bx hl.bx
 have by_:=aFy hk.by' hl.by'
 have qn:0<nm D k.w*nm D l.w:=Nat.mul_pos qk ql
 have en2:nm D k.w*nm D l.w<=PP ^ 2:=uX eK eL
 have dxx:=xS dx dx
 have dyy:=xS dy dy
 have qnn:=Nat.mul_pos qn qn
 have en4:(nm D k.w*nm D l.w)*(nm D k.w*nm D l.w)<=PP ^ 4:=uX en2 en2
 have bxx:=pF bx bx
 have byy:=pF by_ by_
 have e4:(X+X)*(X+X)=4*(X*X):=by rw[<- Nat.two_mul,Nat.mul_mul_mul_comm]
 rw[e4]at bxx byy
 have bsq:=aFz bxx byy
 have dsq:=nZ dxx dyy
 refine⟨⟨?_,?_,?_,?_,?_⟩,⟨?_,?_,?_,?_⟩,⟨?_,?_,?_,?_⟩,?_,?_,?_,?_⟩
 · exact gO hD ds bs (by omega) (by omega) (mH eD (by omega))
 · exact gO hD hk.sc.2.2.1 (pF bk hk.bx) (by omega) (by omega) (mH eD (by omega))
 · exact gO hD hl.sc.2.2.1 (pF bl' hl.bx) (by omega) (by omega) (mH eD (by omega))
 · exact gO hD (nZ hk.sc.2.2.1 hl.sc.2.2.1) (aFz (pF bk hk.bx) (pF bl' hl.bx)) (by omega) (by omega) (mH eD (by omega))
 · exact gO qs (aBs hD ps ds (nZ hk.sc.2.2.1 hl.sc.2.2.1)) (aFA pk pl hk.bx hl.bx) h0 (by omega) (mH eS (by omega))
 · exact gO hD hk.sc.2.2.2 (pF bk hk.by') (by omega) (by omega) (mH eD (by omega))
 · exact gO hD hl.sc.2.2.2 (pF bl' hl.by') (by omega) (by omega) (mH eD (by omega))
 · exact gO hD (nZ hk.sc.2.2.2 hl.sc.2.2.2) (aFz (pF bk hk.by') (pF bl' hl.by')) (by omega) (by omega) (mH eD (by omega))
 · exact gO qs (aBs hD ps ds (nZ hk.sc.2.2.2 hl.sc.2.2.2)) (aFA pk pl hk.by' hl.by') h0 (by omega) (mH eS (by omega))
 · exact gO (Nat.mul_pos hD hD) (xS dk dl) (pF bk bl') (by omega) (by omega) (mH (uX eD eD) (by omega))
 · exact gO (Nat.mul_pos hD qs) cw cb (by omega) (by omega) (mH (uX eD eS) (by omega))
 · exact gO qn dx bx (by omega) (by omega) (mH en2 (by omega))
 · exact gO qn dy by_ (by omega) (by omega) (mH en2 (by omega))
 · exact gO qnn dxx bxx (by omega) (by omega) (mH en4 (by omega))
 · exact gO qnn dyy byy (by omega) (by omega) (mH en4 (by omega))
 · exact gO qnn dsq bsq (by omega) (by omega) (mH en4 (by omega))
 · exact gO (Nat.mul_pos (Nat.mul_pos hD qs) qnn) (xS cw dsq) (pF cb bsq) (by omega) (by omega) (uX (uX eD eS) en4)
end Go.Ev
/- Joining succeeds where scale and energies are small. -/
namespace Go.Ev
set_option linter.all false
def inV (V:List Int)(x:QL):Prop:=x.a∈V/\x.b∈V/\x.a<x.b
theorem aHa {s:List QL}(h:s.Pairwise cP):(s.map fun x=>(x.a,x.b)).Nodup:=by
 rw[List.Nodup,List.pairwise_map]
 refine h.imp fun {a b} hab e=>?_
 injection e with e1 e2
 unfold cP at hab;omega
theorem aF4 {s:List QL}(h:s.Pairwise cP):(s.map fun x=>(x.b,x.a)).Nodup:=by
 rw[List.Nodup,List.pairwise_map]
 refine h.imp fun {a b} hab e=>?_
 injection e with e1 e2
 unfold cP at hab;omega
theorem aF0 (V:List Int):∀ U:List Int,(U.flatMap fun u=>V.map fun v=>(u,v)).length=U.length*V.length
 | []=>by simp
 | u::U=>by rw[List.flatMap_cons,List.length_append,aF0 V U,List.length_map,List.length_cons,Nat.succ_mul,Nat.add_comm]
theorem aDj {U V:List Int}{u v:Int}(hu:u∈U)(hv:v∈V):(u,v)∈U.flatMap fun u=>V.map fun v=>(u,v) :=
 List.mem_flatMap.2 ⟨u,hu,List.mem_map.2 ⟨v,hv,rfl⟩⟩
theorem aAV {V:List Int}(hV:V.Nodup){s:List QL}(ho:s.Pairwise cP)(h:∀ x∈s,inV V x):2*s.length+V.length<=V.length*V.length:=by
 have n1:((s.map fun x=>(x.a,x.b))++((s.map fun x=>(x.b,x.a))++V.map fun v=>(v,v))).Nodup:=by
  rw[List.nodup_append,List.nodup_append]
  refine⟨aHa ho,⟨aF4 ho,?_,?_⟩,?_⟩
  · rw[List.Nodup,List.pairwise_map]
    exact hV.imp fun {a b} hab e=>by injection e with e1 e2;exact hab e1
  · intro p hp q hq e
    obtain⟨x,hx,rfl⟩:=List.mem_map.1 hp
    obtain⟨v,hv,rfl⟩:=List.mem_map.1 hq
    injection e with e1 e2
    have:=(h x hx).2.2;omega
  · intro p hp q hq e
    obtain⟨x,hx,rfl⟩:=List.mem_map.1 hp
    have:=(h x hx).2.2
    rcases List.mem_append.1 hq with hq | hq
    · obtain⟨y,hy,rfl⟩:=List.mem_map.1 hq
      injection e with e1 e2
      have:=(h y hy).2.2;omega
    · obtain⟨v,hv,rfl⟩:=List.mem_map.1 hq
      injection e with e1 e2;omega
 have:=n1.length_le_of_subset (l₂:=V.flatMap fun u=>V.map fun v=>(u,v)) (fun p hp=>by
  rcases List.mem_append.1 hp with hp | hp
  · obtain⟨x,hx,rfl⟩:=List.mem_map.1 hp
    exact aDj (h x hx).1 (h x hx).2.1
  · rcases List.mem_append.1 hp with hp | hp
    · obtain⟨x,hx,rfl⟩:=List.mem_map.1 hp
      exact aDj (h x hx).2.1 (h x hx).1
    · obtain⟨v,hv,rfl⟩:=List.mem_map.1 hp
      exact aDj hv hv)
 rw[aF0]at this
 simp only[List.length_append,List.length_map]at this
 omega
theorem aES:∀ (s:List QL) (l:QL),(∀ k∈s,k.w+l.w≠0/\aFo k l)->aAM s l
 | [],_,_=>trivial
 | k::s,l,h=>by
  unfold aAM
  split
  · exact aES s l (fun y hy=>h y (by simp[hy]))
  · split
    · trivial
    · exact h k (by simp)
theorem aBN {l:QL}(h:0<l.w):0<=enQ l:=by
 unfold enQ sqQ
 have h0:∀ z:Q,0<=z*z:=fun z=>by
  rcases _root_.Rat.le_total (a:=0) (b:=z)with c | c
  · exact _root_.Rat.mul_nonneg c c
  · have:=_root_.Rat.mul_nonneg (a:=-z) (b:=-z) (by grind) (by grind);grind
 exact _root_.Rat.mul_nonneg (by grind) (by have:=h0 l.x;have:=h0 l.y;grind)
theorem aM3 {D X:Nat}{l:QL}(h:Lk D X l):enQ l<=((2*(X*X):Nat):Q)*l.w:=by
 have h1:=pF h.bx h.bx
 have h2:=pF h.by' h.by'
 have h3:=aFz h1 h2
 have e:X*X+X*X=2*(X*X):=by omega
 rw[e]at h3
 have:=(aEZ h.sc.1 h3).2
 unfold enQ sqQ;exact this
theorem aJl {D X:Nat}{l:List QL}(h:∀ x∈l,Lk D X x):sm enQ l<=((2*(X*X):Nat):Q)*sm wt l:=by
 rw[<- aJk]
 exact aLD fun x hx=>aM3 (h x hx)
theorem sG {D X:Nat}{l:List QL}(h:∀ x∈l,Lk D X x)(hX:X<=800)(hw:sm wt l<=72):0<=sm enQ l/\sm enQ l<=((10 ^ 8:Nat):Q):=by
 refine⟨pI fun x hx=>aBN (h x hx).sc.1,?_⟩
 have h1:=aJl h
 have h2:X*X<=800*800:=Nat.mul_le_mul hX hX
 have h3:((2*(X*X):Nat):Q)*sm wt l<=((2*(X*X):Nat):Q)*72:=_root_.Rat.mul_le_mul_of_nonneg_left hw (aAH _)
 have h4:((2*(X*X)*72:Nat):Q)<=((10 ^ 8:Nat):Q):=aHf (by omega)
 rw[_root_.Rat.natCast_mul]at h4
 have h5:((72:Nat):Q)=72:=rfl
 rw[h5]at h4
 grind
theorem lX {D X:Nat}{l:List QL}(h:∀ x∈l,Lk D X x):0<=sm wt l:=pI fun x hx=>by have:=(h x hx).sc.1;unfold wt;grind
theorem tH {D X:Nat}{l:List QL}(h:∀ x∈l,Lk D X x){x:QL}(hx:x∈l):x.w<=sm wt l:=aG0 (f:=wt) (fun y hy=>by have:=(h y hy).sc.1;unfold wt;grind) x hx
structure Jn (D T X γ:Nat)(V:List Int):Prop where
 hD:0<D
 hP:72*D<=PP
 hX:X<=800
 h0:0<X
 hT:0<T
 hV:V.Nodup
 hg:V.length*V.length<=2*γ+V.length
 hB:10 ^ 8*(T*(D*(72*D) ^ γ))<BB ^ 24
theorem aIy {D T X γ:Nat}{V:List Int}(j:Jn D T X γ V){s:List QL}(hs:∀ x∈s,Lk D X x/\inV V x)(ho:s.Pairwise cP)(hw:sm wt s<=72):0<D*pn D s/\D*pn D s<=D*(72*D) ^ γ/\Dv (D*pn D s) (sm enQ s):=by
 have hl:=aAV j.hV ho (fun x hx=>(hs x hx).2)
 have hg:=j.hg
 have h1:=aEv (W:=72) j.hD (fun x hx=>(hs x hx).1.sc) (fun x hx=>by
  have:=tH (fun y hy=>(hs y hy).1) hx
  show x.w<=72;grind)
 have hD:=j.hD
 refine⟨Nat.mul_pos j.hD (aBB j.hD (fun x hx=>(hs x hx).1.sc)),Nat.mul_le_mul_left D (Nat.le_trans h1 (Nat.pow_le_pow_right (by omega) (by omega))),aDT j.hD (fun x hx=>(hs x hx).1.sc)⟩
theorem aI3 {D T X γ:Nat}{V:List Int}(j:Jn D T X γ V){s:List QL}(hs:∀ x∈s,Lk D X x/\inV V x)(ho:s.Pairwise cP)(hw:sm wt s<=72){q:Q}(hq:Dv T q)(h0:0<=q)(h1:q<=((10 ^ 8:Nat):Q)):cO (q-sm enQ s):=by
 obtain⟨a1,a2,a3⟩:=aIy j hs ho hw
 obtain⟨b1,b2⟩:=sG (fun x hx=>(hs x hx).1) j.hX hw
 have d:=xR (sV (D*pn D s) hq) (by rw[Nat.mul_comm];exact sV T a3)
 refine aFu (B:=10 ^ 8) (Nat.mul_pos j.hT a1) d ?_ ?_ (by omega) (Nat.lt_of_le_of_lt (Nat.mul_le_mul_left _ (Nat.mul_le_mul_left T a2)) j.hB)
 · grind
 · grind
theorem aBf {D T X γ:Nat}{V:List Int}(j:Jn D T X γ V):∀ (l s:List QL) (q:Q),(∀ x∈l,Lk D X x/\inV V x/\Dv T (enQ x))->(∀ x∈s,Lk D X x/\inV V x)->s.Pairwise cP->sm wt s+sm wt l<=72->Dv T q->0<=q->q+sm enQ l<=((10 ^ 8:Nat):Q)->
 xG l s (q-sm enQ s)/\(∀ x∈(bG l s (q-sm enQ s)).1,Lk D X x/\inV V x)/\(bG l s (q-sm enQ s)).1.Pairwise cP/\(bG l s (q-sm enQ s)).2=q+sm enQ l-sm enQ (bG l s (q-sm enQ s)).1/\sm wt (bG l s (q-sm enQ s)).1=sm wt s+sm wt l
 | [],s,q,_,hs,ho,_,_,_,_=>by
  refine⟨trivial,hs,ho,?_,?_⟩
  · simp only[bG,sm];grind
  · simp only[bG,sm];grind
 | x::r,s,q,hl,hs,ho,hw,hq,h0,hb=>by
  obtain⟨x1,x2,x3⟩:=hl x (by simp)
  have hr:∀ y∈r,Lk D X y/\inV V y/\Dv T (enQ y):=fun y hy=>hl y (by simp[hy])
  rw[sm]at hw hb
  have wr:=lX (fun y hy=>(hr y hy).1)
  have ws:=lX (fun y hy=>(hs y hy).1)
  have wx:(0:Q)<wt x:=x1.sc.1
  have hp:∀ y∈s,0<y.w:=fun y hy=>(hs y hy).1.sc.1
  have e1:=aIl s x hp x1.sc.1
  have e2:=aIk (f:=wt) (fun k l _ _ _ _=>aMa k l) s x hp x1.sc.1
  have n1:=aDS (P:=fun y=>Lk D X y/\inV V y) (fun a b _ _ g1 g2=>⟨aMC g1.1 g2.1,g1.2⟩) s x hs ⟨x1,x2⟩
  have n2:=aGK s x ho
  have e3:q-sm enQ s+(jS s x).2=(q+enQ x)-sm enQ (jS s x).1:=by grind
  have er:=pI (f:=enQ) (fun y hy=>aBN (hr y hy).1.sc.1)
  have ex:=aBN x1.sc.1
  have hq':=nZ hq x3
  obtain⟨g1,g2,g3,g4,g5⟩:=aBf j r (jS s x).1 (q+enQ x) hr n1 n2 (by rw[e2];grind) hq' (by grind) (by grind)
  have ft:cO ((q+enQ x)-sm enQ (jS s x).1):=aI3 j n1 n2 (by rw[e2];grind) hq' (by grind) (by grind)
  have af:aAM s x:=aES s x fun k hk=>by
   have:=hp k hk
   have:=tH (fun y hy=>(hs y hy).1) hk
   unfold wt at wx
   refine⟨by grind,aIM j.hD j.hP (by have:=j.hX;omega) j.h0 (hs k hk).1 x1 (by
    have e:wt x=x.w:=rfl
    grind)⟩
  rw[bG,xG,e3]
  refine⟨⟨af,ft,g1⟩,g2,g3,?_,?_⟩
  · rw[g4,sm];grind
  · rw[g5,e2,sm];grind
end Go.Ev
/- Comparison of links, conditionals, tree nodes; nodes that have changed. -/
namespace Go.Ev
set_option linter.all false
theorem aCP (a b:List Int)(h:a.length<=4294967296):mB a b=some (decide (a=b)):=by
 unfold mB
 by_cases hl:a.length=b.length
 · rw[if_neg (by omega),aMe a b hl (fun k ha hb=>by
    unfold nR
    rw[if_pos (by omega),aG ha,aG hb,wi (by omega)]
    simp only[Option.bind_some]
    by_cases c:a[k]=b[k]
    · rw[if_neg (by simp[c]),if_pos c]
    · rw[if_pos c,if_neg c]) (by unfold nR;rw[if_neg (by omega)])]
   by_cases c:a=b <;> simp[c]
 · rw[if_pos (by omega)]
   have:a≠b:=by rintro rfl;exact hl rfl
   simp[this]
theorem aCr (r s:Rat)(h:bF r<=4294967296):mC r s=some (decide (r=s)):=by
 obtain⟨⟨a,m⟩,d⟩:=r
 obtain⟨⟨a',m'⟩,d'⟩:=s
 unfold bF qP tI at h
 rw[pP,pP]at h
 simp only at h
 unfold mC
 simp only[]
 rw[aCP m m' (by omega),aCP d d' (by omega)]
 by_cases c1:a=a' <;> by_cases c2:m=m' <;> by_cases c3:d=d' <;> simp[c1,c2,c3]
theorem aCb (r s:Rat)(h:bF r<=4294967296):oE r s=some (decide (r=s)):=aCr r s h
end Go.Ev
/- Conditionals that are valid. -/
namespace Go.Ev
set_option linter.all false
theorem aIv (c:Conditional)(h:aV c<=4294967296)(hg:∀ j (hj:j<c.fParents.length),aC9 c j c.fParents[j]):∀ m k:Nat,m+k=c.fParents.length->∀ s:Rat,VZ s->
 lp (aX c) ((k:Int),s)=some (.inl (((c.fParents.drop k).map (·.fShare)).foldl RA s)):=by
 have hl:=(aFk h).1
 intro m
 induction m with
 | zero =>
  intro k hk s hs
  rw[List.drop_eq_nil_of_le (by omega)]
  exact aF (by unfold aX;simp only[];rw[if_neg (by omega)];rfl)
 | succ m ih =>
  intro k hk s hs
  have hlt:k<c.fParents.length:=by omega
  obtain⟨z1,z2,z3⟩:=aLE h hlt
  obtain⟨g1,g2⟩:=wI _ z1
  have b1:=dI _ z2
  have b2:=dI _ z3
  obtain⟨A,B,C,D,E,F⟩:=hg k hlt
  obtain⟨t1,_,t3⟩:=zI hs (.inl (vQ D))
  have w1:IntKind.i64.wrap ((k:Int)+1)=((k+1:Nat):Int):=by rw[wi (by omega)];omega
  have D':¬sY (c.fParents[k]).fShare<=0:=by omega
  have st:aX c ((k:Int),s)=some (.inl (((k+1:Nat):Int),RA s (c.fParents[k]).fShare)):=by
   have hin:(k:Int)<(c.fParents.length:Int):=by omega
   unfold aX
   simp only[hin,if_true,aG hlt,Option.bind_some,zW,g1,b1,b2,t1,w1]
   by_cases K:0<k
   · have hlt2:k-1<c.fParents.length:=by omega
     have w2:IntKind.i64.wrap ((k:Int)-1)=((k-1:Nat):Int):=by rw[wi (by omega)];omega
     have K':(0:Int)<(k:Int):=by omega
     have C':=C (c.fParents[k-1]) K (by rw[List.getElem?_eq_getElem hlt2])
     have C'':¬(c.fParents[k]).fNode<=(c.fParents[k-1]).fNode:=by omega
     simp[A,B,K,K',D',w2,aG hlt2,C'',E,F]
   · have K':¬(0:Int)<(k:Int):=by omega
     simp[A,B,K,K',D',E,F]
  rw[aM st,ih (k+1) (by omega) _ t3,List.drop_eq_getElem_cons hlt]
  rfl
theorem aGS (c:Conditional)(h:aV c<=4294967296)(h1:1<=c.fNode/\c.fNode<=9)(h2:0<sY c.fTotal)(h3:c.fParents≠[])(hg:∀ j (hj:j<c.fParents.length),aC9 c j c.fParents[j])(hs:(c.fParents.map (·.fShare)).foldl RA (nX 0)=nX 1):dA c=some true:=by
 obtain⟨hl,hT⟩:=aFk h
 obtain⟨g1,g2⟩:=wI _ hT
 have e:=aIv c h hg c.fParents.length 0 (by omega) (nX 0) aHU
 rw[show((0:Nat):Int)=0 from rfl,List.drop_zero,hs]at e
 have hp:(0:Int)<(c.fParents.length:Int):=by
  have:=List.length_pos_iff.2 h3;omega
 unfold dA
 rw[bL 0 (by omega),bL 1 (by omega)]
 simp only[Option.bind_some,e,g1,xF]
 simp[h1,h2,h3,hp,aCb (nX 1) (nX 1) (VZs (.inl (wV 1 (by omega))))]
end Go.Ev
/- Eliminating a node over the rational numbers. -/
namespace Go.Ev
set_option linter.all false
def aD1 (v:Int)(l:QL):Bool:=decide (l.a=v\/l.b=v)
def aAL (v:Int)(l:QL):QL:=if l.a=v then⟨l.b,v,l.w,-l.x,-l.y⟩else⟨l.a,v,l.w,l.x,l.y⟩
def bM (v:Int)(s:List QL):List QL:=(s.filter (aD1 v)).map (aAL v)
def toA (a:QL):l08Arm:=⟨a.a,ofQ a.w,ofQ a.x,ofQ a.y⟩
theorem aKA (v:Int):∀ s:List QL,(∀ x∈s,x.fit)->bC v (s.map QL.toL)=(bM v s).map toA
 | [],_=>rfl
 | x::s,h=>by
  have ih:=aKA v s (fun y hy=>h y (by simp[hy]))
  obtain⟨h1,h2,h3⟩:=h x (by simp)
  unfold bC bM at ih ⊢
  rw[List.map_cons,List.filter_cons,List.filter_cons]
  have e:tch v x.toL=aD1 v x:=rfl
  rw[e]
  by_cases c:aD1 v x=true
  · rw[if_pos c,if_pos c,List.map_cons,List.map_cons,List.map_cons,ih]
    congr 1
    unfold yA aAL QL.toL toA
    simp only[]
    by_cases d:x.a=v
    · rw[if_pos d,if_pos d,aNh h2,aNh h3]
    · rw[if_neg d,if_neg d]
  · rw[if_neg c,if_neg c,ih]
structure PQ where
 node:Int
 s:Q
 x:Q
 y:Q
structure CQ where
 node:Int
 t:Q
 ps:List PQ
def PQ.toP (p:PQ):Parent:=⟨p.node,ofQ p.s,ofQ p.x,ofQ p.y⟩
def CQ.toC (c:CQ):Conditional:=⟨c.node,ofQ c.t,c.ps.map PQ.toP⟩
def aF3 (t:Q)(a:QL):PQ:=⟨a.a,a.w / t,a.x,a.y⟩
def mlQ (t:Q)(a b:QL):QL:=⟨a.a,b.a,a.w*b.w / t,a.x-b.x,a.y-b.y⟩
def pW (t:Q):List QL->List QL
 | []=>[]
 | a::r=>r.map (mlQ t a)++pW t r
def uD (v:Int)(a:List QL):CQ:=⟨v,sm wt a,a.map (aF3 (sm wt a))⟩
structure Arms (D X:Nat)(v:Int)(a:List QL):Prop where
 hD:0<D
 hP:72*D<=PP
 hX:X<=400
 h0:0<X
 lk:∀ x∈a,Lk D X x
 hw:sm wt a<=72
 inc:a.Pairwise fun x y=>x.a<y.a
 nd:∀ x∈a,(0<=x.a/\x.a<=9)/\x.a≠v
 ne:a≠[]
 hv:1<=v/\v<=9
theorem Arms.pos {D X:Nat}{v:Int}{a:List QL}(h:Arms D X v a):0<sm wt a:=by
 obtain⟨x,hx⟩:=List.exists_mem_of_ne_nil a h.ne
 have:=tH h.lk hx
 have:=(h.lk x hx).sc.1
 grind
theorem yL {D X:Nat}{a:List QL}(h:∀ x∈a,Lk D X x):Dv D (sm wt a):=aGQ fun x hx=>(h x hx).sc.2.1
theorem Arms.le {D X:Nat}{v:Int}{a:List QL}(h:Arms D X v a){x:QL}(hx:x∈a):x.w<=72:=by
 have:=tH h.lk hx
 have:=h.hw
 grind
theorem Arms.fit {D X:Nat}{v:Int}{a:List QL}(h:Arms D X v a){x:QL}(hx:x∈a):x.fit:=aFs h.hD h.hP (h.lk x hx) (by have:=h.hX;omega) h.h0 (h.le hx)
theorem w72 {D:Nat}{q:Q}(hD:0<D)(hP:72*D<=PP)(h0:0<=q)(h1:q<=72)(hd:Dv D q):cO q:=by
 refine gO (B:=72) hD hd ⟨?_,h1⟩ (by omega) (by omega) (mH (a:=1) (by rw[Nat.pow_one];omega) (by omega))
 have:=aAH 72
 grind
theorem aKc {D X:Nat}(hD:0<D)(hP:72*D<=PP):∀ (a:List QL) (t:Q),(∀ x∈a,Lk D X x)->Dv D t->0<=t->t+sm wt a<=72->(a.map toA).foldl (fun t a=>RA t a.fweight) (ofQ t)=ofQ (t+sm wt a)
 | [],t,_,_,_,_=>by simp only[List.map_nil,List.foldl_nil,sm];congr 1;grind
 | x::a,t,h,ht,h0,hw=>by
  have hx:=h x (by simp)
  have hr:=fun y hy=>h y (List.mem_cons_of_mem x hy)
  have wr:=lX hr
  have wx:0<wt x:=hx.sc.1
  rw[sm]at hw ⊢
  have d2:=nZ ht hx.sc.2.1
  have e:wt x=x.w:=rfl
  have f1:=w72 hD hP h0 (by grind) ht
  have f2:cO x.w:=w72 hD hP (by grind) (by grind) hx.sc.2.1
  have f3:cO (t+x.w):=w72 hD hP (by grind) (by grind) d2
  rw[List.map_cons,List.foldl_cons]
  have e1:RA (ofQ t) (toA x).fweight=ofQ (t+x.w):=aFH f1 f2 f3
  rw[e1,aKc hD hP a (t+x.w) hr d2 (by grind) (by grind)]
  congr 1;grind
theorem Arms.tot {D X:Nat}{v:Int}{a:List QL}(h:Arms D X v a):oB (a.map toA)=ofQ (sm wt a):=by
 unfold oB
 rw[aCD,aKc h.hD h.hP a 0 h.lk ⟨0,by simp⟩ (by grind) (by have:=h.hw;grind)]
 congr 1;grind
theorem Arms.ftot {D X:Nat}{v:Int}{a:List QL}(h:Arms D X v a):cO (sm wt a):=w72 h.hD h.hP (by have:=h.pos;grind) h.hw (yL h.lk)
theorem aAU {D X:Nat}{v:Int}{a:List QL}(h:Arms D X v a){x:QL}(hx:x∈a):Dv (nm D (sm wt a)) (x.w / sm wt a)/\0<x.w / sm wt a/\x.w / sm wt a<=1:=by
 have hp:=h.pos
 have hl:=tH h.lk hx
 have hx0:=(h.lk x hx).sc.1
 refine⟨aBs h.hD hp (yL h.lk) (h.lk x hx).sc.2.1,?_,?_⟩
 · rw[_root_.Rat.lt_div_iff hp];grind
 · have:=aFw (A:=1) (p:=x.w) hp (by grind) (by have e:((1:Nat):Q)=1:=rfl;rw[e];grind)
   have e:((1:Nat):Q)=1:=rfl
   unfold bd at this;rw[e]at this;grind
theorem Arms.nN {D X:Nat}{v:Int}{a:List QL}(h:Arms D X v a):0<nm D (sm wt a)/\nm D (sm wt a)<=72*D :=
 ⟨(xV h.hD h.pos (yL h.lk)).2,aB5 h.hD h.pos (yL h.lk) h.hw⟩
theorem aF5 {N:Nat}{q:Q}(hN:0<N)(hP:N<=PP)(h0:0<=q)(h1:q<=1)(hd:Dv N q):cO q:=by
 refine gO (B:=1) hN hd ⟨?_,h1⟩ (by omega) (by omega) (mH (a:=1) (by rw[Nat.pow_one];omega) (by omega))
 have e:((1:Nat):Q)=1:=rfl
 rw[e];grind
theorem aKd {D X:Nat}{v:Int}{a:List QL}(h:Arms D X v a):∀ (b:List QL) (t:Q),(∀ x∈b,x∈a)->Dv (nm D (sm wt a)) t->0<=t->t+sm (fun x=>x.w / sm wt a) b<=1->((b.map (aF3 (sm wt a))).map fun p=>ofQ p.s).foldl RA (ofQ t)=ofQ (t+sm (fun x=>x.w / sm wt a) b)
 | [],t,_,_,_,_=>by simp only[List.map_nil,List.foldl_nil,sm];congr 1;grind
 | x::b,t,hb,ht,h0,hw=>by
  obtain⟨s1,s2,s3⟩:=aAU h (hb x (by simp))
  have hr:=fun y hy=>hb y (List.mem_cons_of_mem x hy)
  have wr:0<=sm (fun x=>x.w / sm wt a) b:=pI fun y hy=>by have:=(aAU h (hr y hy)).2.1;grind
  obtain⟨n1,n2⟩:=h.nN
  have nP:nm D (sm wt a)<=PP:=by have:=h.hP;omega
  rw[sm]at hw ⊢
  have d2:=nZ ht s1
  have f1:=aF5 n1 nP h0 (by grind) ht
  have f2:=aF5 n1 nP (by grind) s3 s1
  have f3:cO (t+x.w / sm wt a):=aF5 n1 nP (by grind) (by grind) d2
  rw[List.map_cons,List.map_cons,List.foldl_cons]
  have e1:RA (ofQ t) (ofQ (aF3 (sm wt a) x).s)=ofQ (t+x.w / sm wt a):=aFH f1 f2 f3
  rw[e1,aKd h b _ hr d2 (by grind) (by grind)]
  congr 1;grind
theorem aJm (t:Q):∀ a:List QL,sm (fun x=>x.w / t) a=sm wt a / t
 | []=>by simp[sm];grind
 | x::a=>by rw[sm,sm,aJm t a];unfold wt;grind
theorem Arms.share_sum {D X:Nat}{v:Int}{a:List QL}(h:Arms D X v a):sm (fun x=>x.w / sm wt a) a=1:=by
 rw[aJm]
 have:=h.pos
 have:sm wt a≠0:=by grind
 grind
theorem aMX:nX 1=ofQ 1:=yP (by decide)
theorem Arms.cond {D X:Nat}{v:Int}{a:List QL}(h:Arms D X v a):aAA v (a.map toA)=(uD v a).toC:=by
 unfold aAA uD CQ.toC
 rw[h.tot]
 simp only[List.map_map]
 congr 1
 refine List.map_congr_left fun x hx=>?_
 obtain⟨s1,s2,s3⟩:=aAU h hx
 obtain⟨n1,n2⟩:=h.nN
 have f2:=aF5 n1 (by have:=h.hP;omega) (by grind) s3 s1
 have:=h.pos
 show eO (ofQ (sm wt a)) (toA x)=(aF3 (sm wt a) x).toP
 unfold eO toA aF3 PQ.toP
 simp only[]
 rw[aKI (h.fit hx).1 h.ftot (by grind) f2]
theorem Arms.armOk {D X:Nat}{v:Int}{a:List QL}(h:Arms D X v a):∀ x∈a.map toA,qN x:=by
 intro x hx
 obtain⟨y,hy,rfl⟩:=List.mem_map.1 hx
 obtain⟨f1,f2,f3⟩:=h.fit hy
 exact⟨(h.nd y hy).1,sJ f1,sJ f2,sJ f3⟩
theorem aJ5 {a:List QL}(inc:a.Pairwise fun x y=>x.a<y.a)(nd:∀ x∈a,0<=x.a/\x.a<=9):a.length<=10:=by
 have n:(a.map fun x=>x.a).Nodup:=by
  rw[List.Nodup,List.pairwise_map]
  exact inc.imp fun {x y} hxy e=>by omega
 have:=n.length_le_of_subset (l₂:=[0,1,2,3,4,5,6,7,8,9]) (fun z hz=>by
  obtain⟨x,hx,rfl⟩:=List.mem_map.1 hz
  have:=nd x hx
  simp only[List.mem_cons,List.not_mem_nil,or_false];omega)
 simpa using this
theorem Arms.condOk {D X:Nat}{v:Int}{a:List QL}(h:Arms D X v a):condOk v (a.map toA):=by
 have hl:=aJ5 h.inc (fun x hx=>(h.nd x hx).1)
 have hz:=aFx (v:=v) h.armOk (by rw[List.length_map];omega)
 obtain⟨n1,n2⟩:=h.nN
 unfold Go.Ev.condOk
 rw[h.cond]at hz ⊢
 refine aGS _ hz h.hv ((aG1 h.ftot).2 h.pos) ?_ ?_ ?_
 · unfold CQ.toC uD
   simp only[ne_eq,List.map_eq_nil_iff]
   exact h.ne
 · intro j hj
   have hj':j<a.length:=by unfold CQ.toC uD at hj;simpa using hj
   have e:(uD v a).toC.fParents[j]=(aF3 (sm wt a) a[j]).toP:=by
    unfold CQ.toC uD;simp
   rw[e]
   have hm:=List.getElem_mem hj'
   obtain⟨s1,s2,s3⟩:=aAU h hm
   have f2:=aF5 n1 (by have:=h.hP;omega) (by grind) s3 s1
   obtain⟨f3,f4,f5⟩:=h.fit hm
   refine⟨(h.nd _ hm).1,(h.nd _ hm).2,fun q hq hk=>?_,(aG1 f2).2 s2,sK f4,sK f5⟩
   have hk':j-1<a.length:=by omega
   have e2:(uD v a).toC.fParents[j-1]?=some (aF3 (sm wt a) a[j-1]).toP:=by
    unfold CQ.toC uD;simp[hk']
   rw[e2]at hk
   cases hk
   exact(List.pairwise_iff_getElem.1 h.inc) (j-1) j hk' hj' (by omega)
 · have e:((uD v a).toC.fParents.map fun p=>p.fShare)=((a.map (aF3 (sm wt a))).map fun p=>ofQ p.s):=by
    unfold CQ.toC uD;simp[PQ.toP,Function.comp_def]
   rw[e,aCD,aKd h a 0 (fun x hx=>hx) ⟨0,by simp⟩ (by grind) (by rw[h.share_sum];grind),h.share_sum,aMX]
   congr 1;grind
end Go.Ev
/- The mesh of an eliminated node over the rational numbers. -/
namespace Go.Ev
set_option linter.all false
theorem aDg {D:Nat}{p q:Q}(hp:Dv D p)(hq:Dv D q){W:Q}{N:Nat}(hN:(N:Q)=W*D)(hW:W≠0):Dv (D*N) (p*q / W):=by
 obtain⟨a,ha⟩:=hp
 obtain⟨b,hb⟩:=hq
 refine⟨a*b,?_⟩
 rw[_root_.Rat.natCast_mul,hN,_root_.Rat.intCast_mul,<- ha,<- hb]
 grind
theorem aJS {D X:Nat}{v:Int}{a:List QL}(h:Arms D X v a){x y:QL}(hx:x∈a)(hy:y∈a)(hxy:x.a<y.a) :
 qL (ofQ (sm wt a)) (toA x) (toA y)=(mlQ (sm wt a) x y).toL/\(mlQ (sm wt a) x y).fit/\(mlQ (sm wt a) x y).ok/\Lk (D*nm D (sm wt a)) (2*X) (mlQ (sm wt a) x y)/\Dv (D*nm D (sm wt a)*(nm D x.w*nm D y.w)) (enQ (mlQ (sm wt a) x y)):=by
 have hp:=h.pos
 have lx:=h.lk x hx
 have ly:=h.lk y hy
 obtain⟨n1,n2⟩:=h.nN
 have hN:=(xV h.hD hp (yL h.lk)).1
 have hW:sm wt a≠0:=by grind
 obtain⟨fx1,fx2,fx3⟩:=h.fit hx
 obtain⟨fy1,fy2,fy3⟩:=h.fit hy
 have dx:=lx.sc.2.1
 have dy:=ly.sc.2.1
 have px:=lx.sc.1
 have py:=ly.sc.1
 have bx:=aIu px (h.le hx)
 have by_:=aIu py (h.le hy)
 have hD:=h.hD
 have hP:=h.hP
 have hX:=h.hX
 have h0:=h.h0
 have eD:D<=PP ^ 1:=by rw[Nat.pow_one];omega
 have eN:nm D (sm wt a)<=PP ^ 1:=by rw[Nat.pow_one];omega
 have ex:nm D x.w<=PP ^ 1:=by have:=aB5 (W:=72) h.hD px dx (h.le hx);rw[Nat.pow_one];omega
 have ey:nm D y.w<=PP ^ 1:=by have:=aB5 (W:=72) h.hD py dy (h.le hy);rw[Nat.pow_one];omega
 obtain⟨ex1,ex2⟩:=xV h.hD px dx
 obtain⟨ey1,ey2⟩:=xV h.hD py dy
 have f1:cO (x.w*y.w):=gO (Nat.mul_pos hD hD) (xS dx dy) (pF bx by_) (by decide) (by decide) (mH (uX eD eD) (by omega))
 have dw:Dv (D*nm D (sm wt a)) (x.w*y.w / sm wt a):=aDg dx dy hN hW
 have pxy:=_root_.Rat.mul_pos px py
 have pw:0<x.w*y.w / sm wt a:=by rw[_root_.Rat.lt_div_iff hp];grind
 have bw:bd 72 (x.w*y.w / sm wt a):=by
  have l1:=tH h.lk hx
  have l2:0<=(sm wt a-x.w)*y.w:=_root_.Rat.mul_nonneg (by grind) (by grind)
  have l3:0<=((72:Nat)-y.w)*sm wt a:=_root_.Rat.mul_nonneg (by have:=h.le hy;have e:((72:Nat):Q)=72:=rfl;grind) (by grind)
  have l4:=_root_.Rat.mul_nonneg (aAH 72) (Std.le_of_lt hp)
  exact aFw hp (by grind) (by grind)
 have f2:cO (x.w*y.w / sm wt a):=gO (Nat.mul_pos hD n1) dw bw (by omega) (by omega) (mH (uX eD eN) (by omega))
 obtain⟨xx,xy⟩:=aHI h.hD lx.sc
 obtain⟨yx,yy⟩:=aHI h.hD ly.sc
 have gx:=xR (sV (nm D y.w) xx) (by rw[Nat.mul_comm];exact sV (nm D x.w) yx)
 have gy:=xR (sV (nm D y.w) xy) (by rw[Nat.mul_comm];exact sV (nm D x.w) yy)
 have cx:=aFy lx.bx ly.bx
 have cy:=aFy lx.by' ly.by'
 have f3:cO (x.x-y.x):=gO (Nat.mul_pos ex2 ey2) gx cx (by omega) (by omega) (mH (uX ex ey) (by omega))
 have f4:cO (x.y-y.y):=gO (Nat.mul_pos ex2 ey2) gy cy (by omega) (by omega) (mH (uX ex ey) (by omega))
 have lk:Lk (D*nm D (sm wt a)) (2*X) (mlQ (sm wt a) x y):=by
  refine⟨⟨pw,dw,?_,?_⟩,by rw[Nat.two_mul];exact cx,by rw[Nat.two_mul];exact cy⟩
  · have e:mx (mlQ (sm wt a) x y)=mx x*y.w / sm wt a-x.w*mx y / sm wt a:=by unfold mx mlQ;simp only[];grind
    rw[e]
    exact xR (aDg lx.sc.2.2.1 dy hN hW) (aDg dx ly.sc.2.2.1 hN hW)
  · have e:my (mlQ (sm wt a) x y)=my x*y.w / sm wt a-x.w*my y / sm wt a:=by unfold my mlQ;simp only[];grind
    rw[e]
    exact xR (aDg lx.sc.2.2.2 dy hN hW) (aDg dx ly.sc.2.2.2 hN hW)
 refine⟨?_,⟨f2,f3,f4⟩,⟨(h.nd x hx).1,(h.nd y hy).1,hxy,pw⟩,lk,?_⟩
 · unfold qL toA mlQ QL.toL
   simp only[]
   rw[aFG fx1 fy1 f1,aKI f1 h.ftot hW f2,aLt fx2 fy2 f3,aLt fx3 fy3 f4]
 · have hDN:0<D*nm D (sm wt a):=Nat.mul_pos hD n1
   have e1:=(xV hDN pw dw).1
   have e2:nm (D*nm D (sm wt a)) (x.w*y.w / sm wt a)=nm D x.w*nm D y.w:=by
    refine _root_.Rat.natCast_inj.1 ?_
    rw[e1,_root_.Rat.natCast_mul,_root_.Rat.natCast_mul,hN,ex1,ey1]
    grind
   have:=aIo hDN lk.sc
   have e3:(mlQ (sm wt a) x y).w=x.w*y.w / sm wt a:=rfl
   rw[e3,e2]at this
   exact this
theorem aGb (t:Q):∀ {a:List QL} {z:QL},z∈pW t a->∃ p x q y r,a=p++x::(q++y::r)/\z=mlQ t x y
 | x::a,z,h=>by
  rw[pW,List.mem_append]at h
  rcases h with h | h
  · obtain⟨y,hy,rfl⟩:=List.mem_map.1 h
    obtain⟨q,r,e⟩:=List.append_of_mem hy
    exact⟨[],x,q,y,r,by rw[e];rfl,rfl⟩
  · obtain⟨p,x',q,y,r,e,h2⟩:=aGb t h
    exact⟨x::p,x',q,y,r,by rw[e];rfl,h2⟩
theorem Arms.mesh {D X:Nat}{v:Int}{a:List QL}(h:Arms D X v a):∀ p b:List QL,a=p++b->gG (ofQ (sm wt a)) (b.map toA)=(pW (sm wt a) b).map QL.toL
 | _,[],_=>rfl
 | p,x::b,e=>by
  have ih:=h.mesh (p++[x]) b (by rw[e,List.append_assoc];rfl)
  rw[List.map_cons,gG,pW,List.map_append,ih]
  congr 1
  rw[List.map_map,List.map_map]
  refine List.map_congr_left fun y hy=>?_
  have hx:x∈a:=by rw[e];simp
  have hy':y∈a:=by rw[e];simp[hy]
  have hxy:x.a<y.a:=by
   have:=h.inc
   rw[e,List.pairwise_append,List.pairwise_cons]at this
   exact this.2.1.1 y hy
  exact(aJS h hx hy' hxy).1
theorem aL5 (D:Nat){p q r:List QL}{x y:QL}:nm D x.w*nm D y.w∣pn D (p++x::(q++y::r)):=by
 rw[aG6,pn,aG6,pn]
 refine Nat.dvd_trans ?_ (Nat.dvd_mul_left _ _)
 refine Nat.mul_dvd_mul_left _ (Nat.dvd_trans ?_ (Nat.dvd_mul_left _ _))
 exact Nat.dvd_mul_right _ _
theorem Arms.each {D X:Nat}{v:Int}{a:List QL}(h:Arms D X v a){z:QL}(hz:z∈pW (sm wt a) a) :
 z.fit/\z.ok/\Lk (D*nm D (sm wt a)) (2*X) z/\Dv (D*nm D (sm wt a)*pn D a) (enQ z)/\(∃ x∈a,x.a=z.a)/\∃ y∈a,y.a=z.b:=by
 obtain⟨p,x,q,y,r,e,rfl⟩:=aGb _ hz
 have hx:x∈a:=by rw[e];simp
 have hy:y∈a:=by rw[e];simp
 have hxy:x.a<y.a:=by
  have:=h.inc
  rw[e,List.pairwise_append,List.pairwise_cons]at this
  exact this.2.1.1 y (by simp)
 obtain⟨_,f,o,l,d⟩:=aJS h hx hy hxy
 refine⟨f,o,l,vK d (Nat.mul_dvd_mul_left _ ?_),⟨x,hx,rfl⟩,y,hy,rfl⟩
 conv=>rhs;rw[e]
 exact aL5 D
theorem aGd (t:Q):∀ {a:List QL},a.Pairwise (fun x y=>x.a<y.a)->∀ x∈a,∀ y∈a,x.a<y.a->mlQ t x y∈pW t a
 | z::a,h,x,hx,y,hy,hxy=>by
  rw[List.pairwise_cons]at h
  rw[pW,List.mem_append]
  rcases List.mem_cons.1 hx with e | hx
  · rcases List.mem_cons.1 hy with e2 | hy
    · rw[e,e2]at hxy;omega
    · exact .inl (by rw[e];exact List.mem_map_of_mem hy)
  · rcases List.mem_cons.1 hy with e2 | hy
    · have:=h.1 x hx;rw[e2]at hxy;omega
    · exact .inr (aGd t h.2 x hx y hy hxy)
theorem aH4 {t:Q}(ht:0<t):∀ {a:List QL},(∀ x∈a,0<=wt x)->sm wt (pW t a)*t<=sm wt a*sm wt a
 | [],_=>by simp[pW,sm]
 | x::a,h=>by
  have ih:=aH4 ht (a:=a) (fun y hy=>h y (by simp[hy]))
  have h1:=h x (by simp)
  have h2:0<=sm wt a:=pI fun y hy=>h y (by simp[hy])
  have e:∀ b:List QL,sm wt (b.map (mlQ t x))*t=wt x*sm wt b:=by
   intro b
   induction b with
   | nil=>simp[sm]
   | cons y b ih2 =>
    rw[List.map_cons,sm,sm,_root_.Rat.add_mul,ih2]
    have e3:wt (mlQ t x y)=wt x*wt y / t:=rfl
    rw[e3]
    have:t≠0:=by grind
    grind
  rw[pW,wT,sm,_root_.Rat.add_mul,e]
  have h3:=_root_.Rat.mul_nonneg h1 h2
  have h4:=_root_.Rat.mul_nonneg h1 h1
  grind
theorem Arms.mesh_le {D X:Nat}{v:Int}{a:List QL}(h:Arms D X v a):sm wt (pW (sm wt a) a)<=sm wt a:=by
 have:=aH4 h.pos (a:=a) (fun x hx=>by have:=(h.lk x hx).sc.1;unfold wt;grind)
 exact _root_.Rat.le_of_mul_le_mul_right this h.pos
theorem aMj {D X:Nat}{v:Int}{s:List QL}(hs:∀ x∈s,x.fit)(h:Arms D X v (bM v s)) :
 wF v (s.map QL.toL)=some ((uD v (bM v s)).toC,(pW (sm wt (bM v s)) (bM v s)).map QL.toL):=by
 have e1:=aKA v s hs
 have e2:=h.mesh [] (bM v s) rfl
 have hv:∀ x∈gG (oB (bC v (s.map QL.toL))) (bC v (s.map QL.toL)),ValidL x:=by
  rw[e1,h.tot,e2]
  intro x hx
  obtain⟨z,hz,rfl⟩:=List.mem_map.1 hx
  obtain⟨f,o,_⟩:=h.each hz
  exact(aEi f).2 o
 rw[aFv ⟨h.hv,by rw[e1];exact h.condOk,hv⟩,e1,h.tot,e2,h.cond]
end Go.Ev
/- From a front to its arms, rest and mesh. -/
namespace Go.Ev
set_option linter.all false
theorem aCB (v:Int)(l:QL):(aAL v l).w=l.w:=by unfold aAL;split <;> rfl
theorem aLo (v:Int)(l:QL):enQ (aAL v l)=enQ l:=by
 unfold aAL enQ sqQ
 split
 · simp only[];grind
 · rfl
theorem aLn {D X:Nat}(v:Int){l:QL}(h:Lk D X l):Lk D X (aAL v l):=by
 unfold aAL
 split
 · refine⟨⟨h.sc.1,h.sc.2.1,?_,?_⟩,aKx h.bx,aKx h.by'⟩
   · have e:mx ⟨l.b,v,l.w,-l.x,-l.y⟩=- mx l:=by unfold mx;simp only[];grind
     rw[e];exact aHP h.sc.2.2.1
   · have e:my ⟨l.b,v,l.w,-l.x,-l.y⟩=- my l:=by unfold my;simp only[];grind
     rw[e];exact aHP h.sc.2.2.2
 · exact⟨h.sc,h.bx,h.by'⟩
def uP (v:Int)(s:List QL):List QL:=s.filter (fun l=>!aD1 v l)
theorem aJr (v:Int):∀ s:List QL,vT v (s.map QL.toL)=(uP v s).map QL.toL
 | []=>rfl
 | x::s=>by
  have ih:=aJr v s
  unfold vT uP at ih ⊢
  rw[List.map_cons,List.filter_cons,List.filter_cons]
  have e:tch v x.toL=aD1 v x:=rfl
  rw[e,ih]
  split <;> rfl
theorem yJ (f:QL->Q)(v:Int)(hf:∀ l,f (aAL v l)=f l):∀ s:List QL,sm f s=sm f (bM v s)+sm f (uP v s)
 | []=>by simp only[bM,uP,List.filter_nil,List.map_nil,sm];grind
 | x::s=>by
  have ih:=yJ f v hf s
  unfold bM uP at ih ⊢
  rw[List.filter_cons,List.filter_cons,sm]
  by_cases c:aD1 v x=true
  · simp only[c,Bool.not_true,if_true,Bool.false_eq_true,if_false,List.map_cons,sm,hf];grind
  · simp only[c,Bool.not_eq_true,if_false,Bool.not_false,if_true,sm];grind
theorem aFR (D:Nat)(v:Int):∀ s:List QL,pn D s=pn D (bM v s)*pn D (uP v s)
 | []=>rfl
 | x::s=>by
  have ih:=aFR D v s
  unfold bM uP at ih ⊢
  rw[List.filter_cons,List.filter_cons,pn,ih]
  by_cases c:aD1 v x=true
  · simp only[c,Bool.not_true,if_true,Bool.false_eq_true,if_false,List.map_cons,pn,aCB,Nat.mul_assoc]
  · simp only[c,if_false,Bool.not_false,if_true,pn]
    simp[Nat.mul_left_comm]
theorem vZ {v:Int}{s:List QL}{a:QL}:a∈bM v s↔∃ l∈s,(l.a=v\/l.b=v)/\a=aAL v l:=by
 unfold bM
 rw[List.mem_map]
 constructor
 · rintro⟨l,hl,rfl⟩
   rw[List.mem_filter]at hl
   have:=hl.2
   unfold aD1 at this
   exact⟨l,hl.1,of_decide_eq_true this,rfl⟩
 · rintro⟨l,hl,ht,rfl⟩
   refine⟨l,List.mem_filter.2 ⟨hl,?_⟩,rfl⟩
   unfold aD1;exact decide_eq_true ht
theorem aA3 {v:Int}{s:List QL}{l:QL}:l∈uP v s↔l∈s/\l.a≠v/\l.b≠v:=by
 unfold uP aD1
 rw[List.mem_filter]
 simp[not_or]
theorem zE {v:Int}{l:QL}(h:l.a=v\/l.b=v)(hl:l.a<l.b):(l.a=v/\(aAL v l).a=l.b)\/(l.b=v/\l.a≠v/\(aAL v l).a=l.a):=by
 unfold aAL
 by_cases c:l.a=v
 · rw[if_pos c];exact .inl ⟨c,rfl⟩
 · rw[if_neg c]
   rcases h with h | h
   · exact absurd h c
   · exact .inr ⟨h,c,rfl⟩
theorem aKz {v:Int}{s:List QL}(ho:s.Pairwise cP)(h:∀ x∈s,x.a<x.b):(bM v s).Pairwise fun x y=>x.a<y.a:=by
 unfold bM
 rw[List.pairwise_map]
 refine List.Pairwise.imp_of_mem (fun {x y} hx hy hr=>?_) (ho.sublist List.filter_sublist)
 rw[List.mem_filter]at hx hy
 have tx:=of_decide_eq_true hx.2
 have ty:=of_decide_eq_true hy.2
 have h1:=h x hx.1
 have h2:=h y hy.1
 have g1:=zE tx h1
 have g2:=zE ty h2
 unfold cP at hr
 omega
structure Front (D X:Nat)(V:List Int)(v:Int)(s:List QL):Prop where
 hD:0<D
 hP:72*D<=PP
 hX:X<=400
 h0:0<X
 lk:∀ x∈s,Lk D X x/\inV V x
 ord:s.Pairwise cP
 hw:sm wt s<=72
 hV:V.Nodup
 hn:∀ u∈V,0<=u/\u<=9
 hv:v∈V
 h1:1<=v
 ne:bM v s≠[]
theorem Front.armLk {D X:Nat}{V:List Int}{v:Int}{s:List QL}(h:Front D X V v s):∀ x∈bM v s,Lk D X x:=by
 intro x hx
 obtain⟨l,hl,_,rfl⟩:=vZ.1 hx
 exact aLn v (h.lk l hl).1
theorem Front.armV {D X:Nat}{V:List Int}{v:Int}{s:List QL}(h:Front D X V v s):∀ x∈bM v s,x.a∈V/\x.a≠v:=by
 intro x hx
 obtain⟨l,hl,ht,rfl⟩:=vZ.1 hx
 obtain⟨_,i1,i2,i3⟩:=h.lk l hl
 rcases zE ht i3 with⟨e1,e2⟩ | ⟨e1,e2,e3⟩
 · rw[e2];exact⟨i2,by omega⟩
 · rw[e3];exact⟨i1,by omega⟩
theorem Front.arms {D X:Nat}{V:List Int}{v:Int}{s:List QL}(h:Front D X V v s):Arms D X v (bM v s) where
 hD:=h.hD
 hP:=h.hP
 hX:=h.hX
 h0:=h.h0
 lk:=h.armLk
 hw:=by
  have e:=yJ wt v (fun l=>aCB v l) s
  have:0<=sm wt (uP v s):=lX fun x hx=>(h.lk x (aA3.1 hx).1).1
  have:=h.hw
  grind
 inc:=aKz h.ord fun x hx=>(h.lk x hx).2.2.2
 nd:=fun x hx=>⟨h.hn _ (h.armV x hx).1,(h.armV x hx).2⟩
 ne:=h.ne
 hv:=⟨h.h1,(h.hn v h.hv).2⟩
theorem Front.fit {D X:Nat}{V:List Int}{v:Int}{s:List QL}(h:Front D X V v s):∀ x∈s,x.fit:=fun x hx =>
 aFs h.hD h.hP (h.lk x hx).1 (by have:=h.hX;omega) h.h0 (by
  have:=tH (fun y hy=>(h.lk y hy).1) hx
  have:=h.hw
  grind)
def iR (v:Int)(s:List QL):List QL:=uP v s++pW (sm wt (bM v s)) (bM v s)
theorem aIp {D E X Y:Nat}{l:QL}(h:Lk D X l)(hd:D∣E)(hx:X<=Y):Lk E Y l:=⟨aMt h.sc hd,aLQ h.bx hx,aLQ h.by' hx⟩
theorem Front.next {D X:Nat}{V:List Int}{v:Int}{s:List QL}(h:Front D X V v s){N:Nat}(hN:N=nm D (sm wt (bM v s))) :
 (∀ x∈iR v s,Lk (D*N) (2*X) x/\inV (V.erase v) x/\Dv (D*N*pn D s) (enQ x)/\x.fit/\x.ok)/\sm wt (iR v s)<=sm wt s:=by
 subst hN
 have ha:=h.arms
 obtain⟨n1,n2⟩:=ha.nN
 constructor
 · intro x hx
   rcases List.mem_append.1 hx with hx | hx
   · obtain⟨m1,m2,m3⟩:=aA3.1 hx
     obtain⟨l1,l2,l3,l4⟩:=h.lk x m1
     refine⟨aIp l1 (Nat.dvd_mul_right _ _) (by omega),⟨(h.hV.mem_erase_iff).2 ⟨m2,l2⟩,(h.hV.mem_erase_iff).2 ⟨m3,l3⟩,l4⟩,?_,h.fit x m1,(h.hn _ l2),(h.hn _ l3),l4,l1.sc.1⟩
     refine vK (aIo h.hD l1.sc) ?_
     rw[Nat.mul_assoc]
     exact Nat.mul_dvd_mul_left _ (Nat.dvd_trans (aFj D x m1) (Nat.dvd_mul_left _ _))
   · obtain⟨e1,e2,e3,e4,⟨y,hy,e5⟩,z,hz,e6⟩:=ha.each hx
     have v1:=h.armV y hy
     have v2:=h.armV z hz
     rw[e5]at v1
     rw[e6]at v2
     refine⟨e3,⟨(h.hV.mem_erase_iff).2 ⟨v1.2,v1.1⟩,(h.hV.mem_erase_iff).2 ⟨v2.2,v2.1⟩,e2.2.2.1⟩,vK e4 ?_,e1,e2⟩
     refine Nat.mul_dvd_mul_left _ ?_
     rw[aFR D v s]
     exact Nat.dvd_mul_right _ _
 · unfold iR
   rw[wT,yJ wt v (fun l=>aCB v l) s]
   have:=ha.mesh_le
   grind
end Go.Ev
/- A node of a tree over the rational numbers. -/
namespace Go.Ev
set_option linter.all false
def aEm (x y:QL):Prop:=x.a=y.a/\x.b=y.b
theorem aER:∀ (s:List QL) (l:QL),∀ y∈(jS s l).1,(∃ x∈s,aEm x y)\/aEm l y
 | [],l,y,hy=>by simp[jS]at hy;subst hy;exact .inr ⟨rfl,rfl⟩
 | k::s,l,y,hy=>by
  by_cases c:cP k l
  · rw[rG c]at hy
    rcases List.mem_cons.1 hy with rfl | hy
    · exact .inl ⟨y,by simp,rfl,rfl⟩
    · rcases aER s l y hy with⟨x,hx,h⟩ | h
      · exact .inl ⟨x,by simp[hx],h⟩
      · exact .inr h
  · by_cases d:cP l k
    · rw[uH c d]at hy
      rcases List.mem_cons.1 hy with rfl | hy
      · exact .inr ⟨rfl,rfl⟩
      · exact .inl ⟨y,hy,rfl,rfl⟩
    · rw[uG c d]at hy
      rcases List.mem_cons.1 hy with rfl | hy
      · exact .inl ⟨k,by simp,rfl,rfl⟩
      · exact .inl ⟨y,by simp[hy],rfl,rfl⟩
theorem aGL:∀ (s:List QL) (l:QL),(∀ x∈s,∃ y∈(jS s l).1,aEm x y)/\∃ y∈(jS s l).1,aEm l y
 | [],l=>⟨by simp,l,by simp[jS],rfl,rfl⟩
 | k::s,l=>by
  by_cases c:cP k l
  · rw[rG c]
    obtain⟨h1,h2⟩:=aGL s l
    refine⟨fun x hx=>?_,?_⟩
    · rcases List.mem_cons.1 hx with rfl | hx
      · exact⟨x,by simp,rfl,rfl⟩
      · obtain⟨y,hy,h⟩:=h1 x hx
        exact⟨y,by simp[hy],h⟩
    · obtain⟨y,hy,h⟩:=h2
      exact⟨y,by simp[hy],h⟩
  · by_cases d:cP l k
    · rw[uH c d]
      exact⟨fun x hx=>⟨x,by simp only[List.mem_cons]at hx ⊢;exact .inr hx,rfl,rfl⟩,l,by simp,rfl,rfl⟩
    · rw[uG c d]
      refine⟨fun x hx=>?_,mrg k l,by simp,(zN c d).1.symm,(zN c d).2.symm⟩
      rcases List.mem_cons.1 hx with rfl | hx
      · exact⟨mrg x l,by simp,rfl,rfl⟩
      · exact⟨x,by simp[hx],rfl,rfl⟩
theorem pE:∀ (l s:List QL) (e:Q),∀ y∈(bG l s e).1,∃ x,(x∈s\/x∈l)/\aEm x y
 | [],s,e,y,hy=>⟨y,.inl hy,rfl,rfl⟩
 | z::l,s,e,y,hy=>by
  rw[bG]at hy
  obtain⟨x,hx,h1,h2⟩:=pE l _ _ y hy
  rcases hx with hx | hx
  · rcases aER s z x hx with⟨w,hw,g1,g2⟩ | ⟨g1,g2⟩
    · exact⟨w,.inl hw,g1.trans h1,g2.trans h2⟩
    · exact⟨z,.inr (by simp),g1.trans h1,g2.trans h2⟩
  · exact⟨x,.inr (by simp[hx]),h1,h2⟩
theorem pJ:∀ (l s:List QL) (e:Q),∀ x,(x∈s\/x∈l)->∃ y∈(bG l s e).1,aEm x y
 | [],s,e,x,hx=>by
  rcases hx with hx | hx
  · exact⟨x,hx,rfl,rfl⟩
  · cases hx
 | z::l,s,e,x,hx=>by
  rw[bG]
  obtain⟨a1,w,hw,a3⟩:=aGL s z
  rcases hx with hx | hx
  · obtain⟨u,hu,g1,g2⟩:=a1 x hx
    obtain⟨y,hy,h1,h2⟩:=pJ l (jS s z).1 (e+(jS s z).2) u (.inl hu)
    exact⟨y,hy,g1.trans h1,g2.trans h2⟩
  · rcases List.mem_cons.1 hx with e1 | hx
    · obtain⟨y,hy,h1,h2⟩:=pJ l (jS s z).1 (e+(jS s z).2) w (.inl hw)
      exact⟨y,hy,by rw[e1];exact a3.1.trans h1,by rw[e1];exact a3.2.trans h2⟩
    · exact pJ l _ _ x (.inr hx)
structure NQ where
 node:Int
 up:Int
 own:List QL
 cond:CQ
 msgs:List QL
 enQ:Q
 den:Nat
def NQ.toN (n:NQ):TreeNode:=⟨n.node,n.up,n.own.map QL.toL,n.cond.toC,n.msgs.map QL.toL,ofQ n.enQ⟩
def upQ (order:List Int)(c:CQ):Int:=aR order (c.ps.map (·.node))
theorem aNA (order:List Int)(c:CQ):upP order c.toC=upQ order c:=by
 unfold upP upQ aC8 CQ.toC
 simp only[List.map_map]
 rfl
def qJ (v:Int)(b:List NQ):List QL:=(b.filter (fun n=>decide (n.up=v))).flatMap (·.msgs)
theorem aLK (v:Int):∀ b:List NQ,yE v (b.map NQ.toN)=(qJ v b).map QL.toL
 | []=>rfl
 | n::b=>by
  have ih:=aLK v b
  unfold yE qJ at ih ⊢
  rw[List.map_cons,List.filter_cons,List.filter_cons]
  by_cases c:n.up=v
  · rw[if_pos (show decide ((NQ.toN n).fUp=v)=true from decide_eq_true c),if_pos (decide_eq_true c),List.flatMap_cons,List.flatMap_cons,List.map_append,ih];rfl
  · rw[if_neg (show ¬decide ((NQ.toN n).fUp=v)=true from fun e=>c (of_decide_eq_true e)),if_neg (fun e=>c (of_decide_eq_true e)),ih]
def dU {α:Type}(f:α->Nat):List α->Nat
 | []=>1
 | x::l=>f x*dU f l
def aCu (v:Int)(b:List NQ):Nat:=dU (·.den) (b.filter (fun n=>decide (n.up=v)))
def aA1 (order:List Int)(v:Int)(own:List QL)(b:List NQ):NQ :=
 ⟨v,upQ order (uD v (bM v (bG (own++qJ v b) [] 0).1)),own,uD v (bM v (bG (own++qJ v b) [] 0).1),(bG (iR v (bG (own++qJ v b) [] 0).1) [] 0).1,
  (bG (own++qJ v b) [] 0).2+(bG (iR v (bG (own++qJ v b) [] 0).1) [] 0).2,aCu v b*nm (aCu v b) (sm wt (bM v (bG (own++qJ v b) [] 0).1))⟩
theorem aMh {l:List QL}(h:∀ x∈l,x.fit/\x.ok)(hj:xG l [] 0):jnP (l.map QL.toL)=some ((bG l [] 0).1.map QL.toL,ofQ (bG l [] 0).2)/\(∀ k∈(bG l [] 0).1,k.fit)/\cO (bG l [] 0).2:=by
 obtain⟨h1,h2,h3⟩:=aJ2 l [] 0 (fun x hx=>(h x hx).1) (by simp) aBt hj
 refine⟨?_,h2,h3⟩
 unfold jnP
 rw[if_pos (fun x hx=>by
  obtain⟨y,hy,rfl⟩:=List.mem_map.1 hx
  exact(aEi (h y hy).1).2 (h y hy).2),aCD]
 exact h1
def tri (K:Nat):Nat:=K*(K-1) / 2
theorem aBv {K:Nat}(h:K<=6):K*K<=2*tri K+K:=by
 have:∀ K,K<=6->K*K<=2*tri K+K:=by decide
 exact this K h
structure Room (D T K:Nat):Prop where
 k6:K<=6
 d1:72*D<=PP
 c1:10 ^ 8*(T*(D*(72*D) ^ tri K))<BB ^ 24
 c2:K<=2\/(72*(D*(72*D))<=PP/\10 ^ 8*((D*(72*D))*(72*D) ^ tri K*((D*(72*D))*(72*(D*(72*D))) ^ tri (K-1)))<BB ^ 24)
 c3:4*10 ^ 8*(T*((D*(72*D))*(72*D) ^ (K-1)*(72*(D*(72*D))) ^ tri (K-1)))<BB ^ 24
structure Inc (D T X:Nat)(V:List Int)(v:Int)(l:List QL):Prop where
 hD:0<D
 hT:0<T
 hX:X<=400
 h0:0<X
 lk:∀ x∈l,Lk D X x/\inV V x/\Dv T (enQ x)
 hw:sm wt l<=72
 hV:V.Nodup
 hn:∀ u∈V,0<=u/\u<=9
 hv:v∈V
 h1:1<=v
 ex:∃ x∈l,x.a=v\/x.b=v
 room:Room D T V.length
theorem Inc.jn {D T X:Nat}{V:List Int}{v:Int}{l:List QL}(h:Inc D T X V v l):Jn D T X (tri V.length) V :=
 ⟨h.hD,h.room.d1,by have:=h.hX;omega,h.h0,h.hT,h.hV,aBv h.room.k6,h.room.c1⟩
theorem Inc.fo {D T X:Nat}{V:List Int}{v:Int}{l:List QL}(h:Inc D T X V v l):∀ x∈l,x.fit/\x.ok:=fun x hx=>by
 obtain⟨l1,⟨l2,l3,l4⟩,_⟩:=h.lk x hx
 refine⟨aFs h.hD h.room.d1 l1 (by have:=h.hX;omega) h.h0 ?_,h.hn _ l2,h.hn _ l3,l4,l1.sc.1⟩
 have:=tH (fun y hy=>(h.lk y hy).1) hx
 have:=h.hw
 grind
theorem Inc.join {D T X:Nat}{V:List Int}{v:Int}{l:List QL}(h:Inc D T X V v l) :
 xG l [] 0/\Front D X V v (bG l [] 0).1/\(bG l [] 0).2=sm enQ l-sm enQ (bG l [] 0).1/\sm wt (bG l [] 0).1=sm wt l:=by
 have es:=sG (fun x hx=>(h.lk x hx).1) (by have:=h.hX;omega) h.hw
 have e0:(0:Q)-sm enQ []=0:=by simp only[sm];grind
 have g:=aBf h.jn l [] 0 h.lk (by simp) List.Pairwise.nil (by simp only[sm];have:=h.hw;grind) ⟨0,by simp⟩ (by grind) (by have:=es.2;grind)
 rw[e0]at g
 obtain⟨g1,g2,g3,g4,g5⟩:=g
 have g5':sm wt (bG l [] 0).1=sm wt l:=by rw[g5];simp only[sm];grind
 refine⟨g1,⟨h.hD,h.room.d1,h.hX,h.h0,g2,g3,by rw[g5'];exact h.hw,h.hV,h.hn,h.hv,h.h1,?_⟩,by rw[g4];grind,g5'⟩
 obtain⟨x,hx,ht⟩:=h.ex
 obtain⟨y,hy,p1,p2⟩:=pJ l [] 0 x (.inr hx)
 have:aAL v y∈bM v (bG l [] 0).1:=vZ.2 ⟨y,hy,by rw[<- p1,<- p2];exact ht,rfl⟩
 intro e
 rw[e]at this;cases this
theorem Front.nextIn {D T X:Nat}{V:List Int}{v:Int}{s:List QL}(h:Front D X V v s)(r:Room D T V.length) :
 xG (iR v s) [] 0/\(∀ x∈(bG (iR v s) [] 0).1,Lk (D*nm D (sm wt (bM v s))) (2*X) x/\inV (V.erase v) x)/\(bG (iR v s) [] 0).1.Pairwise cP/\
  (bG (iR v s) [] 0).2=sm enQ (iR v s)-sm enQ (bG (iR v s) [] 0).1/\sm wt (bG (iR v s) [] 0).1=sm wt (iR v s):=by
 obtain⟨n1,n2⟩:=h.next rfl
 have hl:=List.length_erase_of_mem h.hv
 have hVe:=h.hV.erase v
 by_cases c:V.length<=2
 · have e:iR v s=[]:=by
    rw[List.eq_nil_iff_forall_not_mem]
    intro x hx
    obtain⟨i1,i2,i3⟩:=(n1 x hx).2.1
    have:(V.erase v).length<=1:=by omega
    have:=(List.nodup_cons.2 ⟨by simp;omega,List.nodup_cons.2 ⟨by simp,List.nodup_nil⟩⟩:([x.a,x.b]:List Int).Nodup).length_le_of_subset (l₂:=V.erase v) (fun z hz=>by
     simp only[List.mem_cons,List.not_mem_nil,or_false]at hz
     rcases hz with rfl | rfl
     · exact i1
     · exact i2)
    simp at this;omega
   rw[e]
   refine⟨trivial,by simp[bG],by simp[bG],by simp only[bG,sm];grind,by simp only[bG,sm]⟩
 · obtain⟨r1,r2⟩:=r.c2.resolve_left c
   have ha:=h.arms
   obtain⟨a1,a2⟩:=ha.nN
   have hDN:D*nm D (sm wt (bM v s))<=D*(72*D):=Nat.mul_le_mul_left _ a2
   have hT:0<D*nm D (sm wt (bM v s))*pn D s:=Nat.mul_pos (Nat.mul_pos h.hD a1) (aBB h.hD fun x hx=>(h.lk x hx).1.sc)
   have hps:pn D s<=(72*D) ^ tri V.length:=by
    have l1:=aAV h.hV h.ord (fun x hx=>(h.lk x hx).2)
    have l2:=aBv r.k6
    have l3:=aEv (W:=72) h.hD (fun x hx=>(h.lk x hx).1.sc) (fun x hx=>by
     have:=tH (fun y hy=>(h.lk y hy).1) hx
     have:=h.hw
     show x.w<=72;grind)
    have hD:=h.hD
    exact Nat.le_trans l3 (Nat.pow_le_pow_right (by omega) (by omega))
   have jn:Jn (D*nm D (sm wt (bM v s))) (D*nm D (sm wt (bM v s))*pn D s) (2*X) (tri (V.length-1)) (V.erase v):=by
    refine⟨Nat.mul_pos h.hD a1,Nat.le_trans (Nat.mul_le_mul_left _ hDN) r1,by have:=h.hX;omega,by have:=h.h0;omega,hT,hVe,?_,?_⟩
    · rw[hl];exact aBv (by have:=r.k6;omega)
    · refine Nat.lt_of_le_of_lt (Nat.mul_le_mul_left _ (Nat.mul_le_mul (Nat.mul_le_mul hDN hps) (Nat.mul_le_mul hDN (Nat.pow_le_pow_left (Nat.mul_le_mul_left _ hDN) _)))) r2
   have hw:sm wt (iR v s)<=72:=by have:=h.hw;grind
   have es:=sG (fun x hx=>(n1 x hx).1) (by have:=h.hX;omega) hw
   have e0:(0:Q)-sm enQ []=0:=by simp only[sm];grind
   have g:=aBf jn (iR v s) [] 0 (fun x hx=>⟨(n1 x hx).1,(n1 x hx).2.1,(n1 x hx).2.2.1⟩) (by simp) List.Pairwise.nil (by simp only[sm];grind) ⟨0,by simp⟩ (by grind) (by have:=es.2;grind)
   rw[e0]at g
   obtain⟨g1,g2,g3,g4,g5⟩:=g
   exact⟨g1,g2,g3,by rw[g4];grind,by rw[g5];simp only[sm];grind⟩
end Go.Ev
/- A node of a tree: the program computes what is computed over the rational numbers. -/
namespace Go.Ev
set_option linter.all false
theorem Front.restLk {D X:Nat}{V:List Int}{v:Int}{s:List QL}(h:Front D X V v s):∀ x∈uP v s,Lk D X x:=fun x hx=>(h.lk x (aA3.1 hx).1).1
theorem Front.armLen {D X:Nat}{V:List Int}{v:Int}{s:List QL}(h:Front D X V v s):(bM v s).length<=V.length-1:=by
 have ha:=h.arms
 have n:((bM v s).map fun x=>x.a).Nodup:=by
  rw[List.Nodup,List.pairwise_map]
  exact ha.inc.imp fun {x y} hxy e=>by omega
 have:=n.length_le_of_subset (l₂:=V.erase v) (fun z hz=>by
  obtain⟨x,hx,rfl⟩:=List.mem_map.1 hz
  exact(h.hV.mem_erase_iff).2 ⟨(h.armV x hx).2,(h.armV x hx).1⟩)
 rw[List.length_map,List.length_erase_of_mem h.hv]at this
 exact this
theorem Front.sumFits {D T X:Nat}{V:List Int}{v:Int}{s:List QL}(h:Front D X V v s)(r:Room D T V.length)(hT:0<T){q:Q}(hq:Dv T q)(h0:0<=q)(hq2:q<=((10 ^ 8:Nat):Q)) :
 cO ((q-sm enQ s)+(bG (iR v s) [] 0).2):=by
 obtain⟨g1,g2,g3,g4,g5⟩:=h.nextIn r
 obtain⟨n1,n2⟩:=h.next rfl
 have ha:=h.arms
 obtain⟨a1,a2⟩:=ha.nN
 have hDN:D*nm D (sm wt (bM v s))<=D*(72*D):=Nat.mul_le_mul_left _ a2
 have hD':0<D*nm D (sm wt (bM v s)):=Nat.mul_pos h.hD a1
 have hw:=h.hw
 have hX:=h.hX
 have hD:=h.hD
 have es:=yJ enQ v (fun l=>aLo v l) s
 have ew:=yJ wt v (fun l=>aCB v l) s
 have wr:=lX h.restLk
 have wa:=lX h.armLk
 have en1:sm enQ (iR v s)=sm enQ (uP v s)+sm enQ (pW (sm wt (bM v s)) (bM v s)):=wT _ _ _
 have mk:∀ z∈pW (sm wt (bM v s)) (bM v s),Lk (D*nm D (sm wt (bM v s))) (2*X) z:=fun z hz=>(ha.each hz).2.2.1
 have wm:=ha.mesh_le
 obtain⟨b1,b2⟩:=sG h.armLk (by omega) ha.hw
 obtain⟨b3,b4⟩:=sG mk (by omega) (by have:=ha.hw;grind)
 obtain⟨b5,b6⟩:=sG (fun x hx=>(g2 x hx).1) (by omega) (by rw[g5];grind)
 have e:(q-sm enQ s)+(bG (iR v s) [] 0).2=q-sm enQ (bM v s)+sm enQ (pW (sm wt (bM v s)) (bM v s))-sm enQ (bG (iR v s) [] 0).1:=by
  rw[g4,en1,es];grind
 have d1:Dv (D*nm D (sm wt (bM v s))*pn D (bM v s)) (sm enQ (bM v s)):=by
  refine vK (aDT h.hD fun x hx=>(h.armLk x hx).sc) ?_
  rw[Nat.mul_right_comm]
  exact Nat.dvd_mul_right _ _
 have d2:Dv (D*nm D (sm wt (bM v s))*pn D (bM v s)) (sm enQ (pW (sm wt (bM v s)) (bM v s))):=aGQ fun z hz=>(ha.each hz).2.2.2.1
 have d3:Dv (D*nm D (sm wt (bM v s))*pn (D*nm D (sm wt (bM v s))) (bG (iR v s) [] 0).1) (sm enQ (bG (iR v s) [] 0).1):=aDT hD' fun x hx=>(g2 x hx).1.sc
 have d1':=sV (pn (D*nm D (sm wt (bM v s))) (bG (iR v s) [] 0).1) d1
 have d2':=sV (pn (D*nm D (sm wt (bM v s))) (bG (iR v s) [] 0).1) d2
 have d3':=sV (pn D (bM v s)) d3
 rw[Nat.mul_right_comm]at d3'
 have up:∀ {U:Nat} {p:Q},Dv U p->Dv (T*U) p:=fun hp=>by rw[Nat.mul_comm];exact sV T hp
 have d:=xR (nZ (xR (sV (D*nm D (sm wt (bM v s))*pn D (bM v s)*pn (D*nm D (sm wt (bM v s))) (bG (iR v s) [] 0).1) hq) (up d1')) (up d2')) (up d3')
 rw[e]
 have p1:pn D (bM v s)<=(72*D) ^ (V.length-1):=Nat.le_trans (aEv (W:=72) h.hD (fun x hx=>(h.armLk x hx).sc) (fun x hx=>ha.le hx)) (Nat.pow_le_pow_right (by omega) h.armLen)
 have p2:pn (D*nm D (sm wt (bM v s))) (bG (iR v s) [] 0).1<=(72*(D*(72*D))) ^ tri (V.length-1):=by
  have l1:=aAV (h.hV.erase v) g3 (fun x hx=>(g2 x hx).2)
  rw[List.length_erase_of_mem h.hv]at l1
  have l2:=aBv (K:=V.length-1) (by have:=r.k6;omega)
  have l3:=aEv (W:=72) hD' (fun x hx=>(g2 x hx).1.sc) (fun x hx=>by
   have:=tH (fun y hy=>(g2 y hy).1) hx
   show x.w<=72;grind)
  exact Nat.le_trans l3 (Nat.le_trans (Nat.pow_le_pow_right (by omega) (by omega)) (Nat.pow_le_pow_left (Nat.mul_le_mul_left _ hDN) _))
 have q1:0<pn D (bM v s):=aBB h.hD fun x hx=>(h.armLk x hx).sc
 have q2:0<pn (D*nm D (sm wt (bM v s))) (bG (iR v s) [] 0).1:=aBB hD' fun x hx=>(g2 x hx).1.sc
 have c4:((4*10 ^ 8:Nat):Q)=4*((10 ^ 8:Nat):Q):=_root_.Rat.natCast_mul 4 (10 ^ 8)
 have c5:=aAH (10 ^ 8)
 refine aFu (B:=4*10 ^ 8) (Nat.mul_pos hT (Nat.mul_pos (Nat.mul_pos hD' q1) q2)) d ?_ ?_ (by omega) (Nat.lt_of_le_of_lt (Nat.mul_le_mul_left _ (Nat.mul_le_mul_left T (Nat.mul_le_mul (Nat.mul_le_mul hDN p1) p2))) r.c3)
 · rw[c4];grind
 · rw[c4];grind
theorem aL7 {order:List Int}{v:Int}{own:List QL}{b:List NQ}{T X:Nat}{V:List Int}(h:Inc (aCu v b) T X V v (own++qJ v b)) :
 sB order v (own.map QL.toL) (b.map NQ.toN)=some (aA1 order v own b).toN/\cO (aA1 order v own b).enQ/\0<(aA1 order v own b).den/\(aA1 order v own b).den<=aCu v b*(72*aCu v b)/\
 (∀ x∈(aA1 order v own b).msgs,Lk (aA1 order v own b).den (2*X) x/\inV (V.erase v) x)/\(aA1 order v own b).msgs.Pairwise cP/\sm wt (aA1 order v own b).msgs<=sm wt (own++qJ v b):=by
 obtain⟨j1,j2,j3,j4⟩:=h.join
 obtain⟨g1,g2,g3,g4,g5⟩:=j2.nextIn h.room
 obtain⟨n1,n2⟩:=j2.next rfl
 have ha:=j2.arms
 obtain⟨a1,a2⟩:=ha.nN
 obtain⟨e1,f1,f2⟩:=aMh h.fo j1
 have e2:=aMj f1 ha
 obtain⟨e3,f3,f4⟩:=aMh (fun x hx=>⟨(n1 x hx).2.2.2.1,(n1 x hx).2.2.2.2⟩) g1
 obtain⟨s1,s2⟩:=sG (fun x hx=>(h.lk x hx).1) (by have:=h.hX;omega) h.hw
 have f5:=j2.sumFits h.room h.hT (aGQ fun x hx=>(h.lk x hx).2.2) s1 s2
 rw[<- j3]at f5
 refine⟨?_,f5,Nat.mul_pos h.hD a1,Nat.mul_le_mul_left _ a2,g2,g3,?_⟩
 · unfold sB
   rw[aLK,<- List.map_append,e1]
   simp only[Option.bind_some]
   unfold aC0
   rw[e2]
   simp only[Option.bind_some]
   rw[aJr,<- List.map_append]
   have e4:uP v (bG (own++qJ v b) [] 0).1++pW (sm wt (bM v (bG (own++qJ v b) [] 0).1)) (bM v (bG (own++qJ v b) [] 0).1)=iR v (bG (own++qJ v b) [] 0).1:=rfl
   rw[e4,e3]
   simp only[Option.map_some,Option.bind_some]
   rw[aFH f2 f4 f5,if_pos (sK f5),aNA]
   rfl
 · show sm wt (bG (iR v (bG (own++qJ v b) [] 0).1) [] 0).1<=_
   rw[g5,<- j4]
   exact n2
end Go.Ev
/- First in an order; products; room by numbers. -/
namespace Go.Ev
set_option linter.all false
theorem aBi {o s:List Int}(h1:∀ u∈o,1<=u):(aR o s=0/\∀ u∈o,u∉s)\/∃ p v r,o=p++v::r/\aR o s=v/\v∈s/\∀ u∈p,u∉s:=by
 unfold aR
 cases h:o.find? (fun u=>decide (u∈s))with
 | none =>
  refine .inl ⟨rfl,fun u hu hs=>?_⟩
  have:=List.find?_eq_none.1 h u hu
  simp[hs]at this
 | some v =>
  obtain⟨hv,p,r,e,hp⟩:=List.find?_eq_some_iff_append.1 h
  exact .inr ⟨p,v,r,e,rfl,of_decide_eq_true hv,fun u hu hs=>by have:=hp u hu;simp[hs]at this⟩
theorem aBM {p r s:List Int}(h:∀ u∈p,u∉s):aR (p++r) s=aR r s:=by
 unfold aR
 rw[List.find?_append]
 have:p.find? (fun u=>decide (u∈s))=none:=List.find?_eq_none.2 fun u hu=>by simp[h u hu]
 rw[this];rfl
theorem aKj {v:Int}{r s:List Int}(h:v∈s):aR (v::r) s=v:=by
 unfold aR
 rw[List.find?_cons]
 simp[h]
theorem uB {p r s:List Int}{v:Int}(hn:(p++v::r).Nodup)(h1:∀ u∈p++v::r,1<=u):aR (p++v::r) s=v↔v∈s/\∀ u∈p,u∉s:=by
 constructor
 · intro h
   rcases aBi (s:=s) h1 with⟨h2,h3⟩ | ⟨p',v',r',e,h2,h3,h4⟩
   · have:=h1 v (by simp);omega
   · rw[h]at h2
     subst h2
     have hp:p=p':=by
      have n2:=hn
      rw[e]at n2
      have a1:=List.nodup_append.1 hn
      have a2:=List.nodup_append.1 n2
      have b1:v∉p:=fun hv=>a1.2.2 v hv v (by simp) rfl
      have b2:v∉p':=fun hv=>a2.2.2 v hv v (by simp) rfl
      have c1:(p++v::r).takeWhile (fun u=>decide (u≠v))=p:=by
       rw[List.takeWhile_append_of_pos (fun u hu=>by have:u≠v:=fun e=>b1 (e▸hu);simpa using this)]
       simp
      have c2:(p'++v::r').takeWhile (fun u=>decide (u≠v))=p':=by
       rw[List.takeWhile_append_of_pos (fun u hu=>by have:u≠v:=fun e=>b2 (e▸hu);simpa using this)]
       simp
      rw[<- c1,e,c2]
     subst hp
     exact⟨h3,h4⟩
 · rintro⟨h2,h3⟩
   rw[aBM h3,aKj h2]
theorem aGu {p r s:List Int}(h1:∀ u∈p++r,1<=u)(h:∀ u∈p,u∉s):(aR (p++r) s=0/\∀ u∈r,u∉s)\/(aR (p++r) s∈r/\aR (p++r) s∈s):=by
 rw[aBM h]
 rcases aBi (s:=s) (fun u hu=>h1 u (List.mem_append_right p hu))with h | ⟨p',v,r',e,h2,h3,_⟩
 · exact .inl h
 · exact .inr (by rw[h2];exact⟨by rw[e];simp,h3⟩)
theorem vX {α:Type}{f:α->Nat}:∀ {l:List α},(∀ x∈l,0<f x)->0<dU f l
 | [],_=>by simp[dU]
 | x::l,h=>Nat.mul_pos (h x (by simp)) (vX fun y hy=>h y (by simp[hy]))
theorem aBz {α:Type}{f:α->Nat}:∀ {l:List α} {x:α},x∈l->f x∣dU f l
 | y::l,x,h=>by
  rw[dU]
  rcases List.mem_cons.1 h with rfl | h
  · exact Nat.dvd_mul_right _ _
  · exact Nat.dvd_trans (aBz h) (Nat.dvd_mul_left _ _)
theorem aEu {α:Type}(f:α->Nat):∀ a b:List α,dU f (a++b)=dU f a*dU f b
 | [],b=>by simp[dU]
 | x::a,b=>by rw[List.cons_append,dU,dU,aEu f a b,Nat.mul_assoc]
theorem aF1 {α:Type}{f g:α->Nat}:∀ {l:List α},(∀ x∈l,f x<=g x)->dU f l<=dU g l
 | [],_=>Nat.le_refl _
 | x::l,h=>Nat.mul_le_mul (h x (by simp)) (aF1 fun y hy=>h y (by simp[hy]))
theorem aEt {α:Type}(f:α->Nat)(k:Nat):∀ l:List α,dU (fun x=>f x ^ k) l=dU f l ^ k
 | []=>by simp[dU]
 | x::l=>by rw[dU,dU,aEt f k l,Nat.mul_pow]
theorem aC6 {α:Type}(f:α->Nat):∀ l:List α,l≠[]->72*dU f l<=dU (fun x=>72*f x) l
 | [x],_=>by simp[dU]
 | x::y::l,_=>by
  have:=aC6 f (y::l) (by simp)
  rw[dU,dU,<- Nat.mul_assoc]
  refine Nat.mul_le_mul_left _ (Nat.le_trans ?_ this)
  exact Nat.le_mul_of_pos_left _ (by omega)
theorem aB2 {α:Type}(f:α->Nat)(p:α->Bool):∀ l:List α,dU f l=dU f (l.filter p)*dU f (l.filter fun x=>!p x)
 | []=>rfl
 | x::l=>by
  rw[List.filter_cons,List.filter_cons,dU,aB2 f p l]
  cases p x
  · simp only[Bool.false_eq_true,if_false,Bool.not_false,if_true,dU]
    rw[Nat.mul_left_comm]
  · simp only[if_true,Bool.not_true,Bool.false_eq_true,if_false,dU,Nat.mul_assoc]
def ex (k:Nat):Nat:=72 ^ 2 ^ k
theorem aJc:∀ a b:Nat,a<=b->b<=6->tri a<=tri b:=by
 have:∀ b,b<=6->∀ a,a<=b->tri a<=tri b:=by decide
 exact fun a b h g=>this b g a h
theorem aK2 {D T K k:Nat}(hD:0<D)(hk:K+k<=6)(hK:2<=K)(h1:72*D<=ex k)(h2:T<=ex k ^ (tri K+1)):Room D T K:=by
 have hF:0<ex k:=by unfold ex;exact Nat.pow_pos (by omega)
 have hk4:k<=4:=by omega
 have k6:K<=6:=by omega
 have d0:D<=ex k:=by omega
 have m1:72*(D*(72*D))<=ex k*ex k:=by rw[<- Nat.mul_assoc];exact Nat.mul_le_mul h1 h1
 have m2:D*(72*D)<=ex k*ex k:=Nat.mul_le_mul d0 h1
 have e1:T*(D*(72*D) ^ tri K)<=ex k ^ (tri K+1)*(ex k*ex k ^ tri K):=Nat.mul_le_mul h2 (Nat.mul_le_mul d0 (Nat.pow_le_pow_left h1 _))
 have e2:(D*(72*D))*(72*D) ^ tri K*((D*(72*D))*(72*(D*(72*D))) ^ tri (K-1))<=(ex k*ex k)*ex k ^ tri K*((ex k*ex k)*(ex k*ex k) ^ tri (K-1)) :=
  Nat.mul_le_mul (Nat.mul_le_mul m2 (Nat.pow_le_pow_left h1 _)) (Nat.mul_le_mul m2 (Nat.pow_le_pow_left m1 _))
 have e3:T*((D*(72*D))*(72*D) ^ (K-1)*(72*(D*(72*D))) ^ tri (K-1))<=ex k ^ (tri K+1)*((ex k*ex k)*ex k ^ (K-1)*(ex k*ex k) ^ tri (K-1)) :=
  Nat.mul_le_mul h2 (Nat.mul_le_mul (Nat.mul_le_mul m2 (Nat.pow_le_pow_left h1 _)) (Nat.pow_le_pow_left m1 _))
 have num:∀ k,k<=4->∀ K,K<=6-k->2<=K->ex k<=PP/\10 ^ 8*(ex k ^ (tri K+1)*(ex k*ex k ^ tri K))<10 ^ 216/\(K<=2\/(ex k*ex k<=PP/\10 ^ 8*((ex k*ex k)*ex k ^ tri K*((ex k*ex k)*(ex k*ex k) ^ tri (K-1)))<10 ^ 216))/\4*10 ^ 8*(ex k ^ (tri K+1)*((ex k*ex k)*ex k ^ (K-1)*(ex k*ex k) ^ tri (K-1)))<10 ^ 216:=by
  unfold ex PP;decide
 obtain⟨n1,n2,n3,n4⟩:=num k hk4 K (by omega) hK
 rw[<- aKR]at n2 n3 n4
 refine⟨k6,Nat.le_trans h1 n1,Nat.lt_of_le_of_lt (Nat.mul_le_mul_left _ e1) n2,?_,Nat.lt_of_le_of_lt (Nat.mul_le_mul_left _ e3) n4⟩
 rcases n3 with n3 | ⟨n3,n5⟩
 · exact .inl n3
 · exact .inr ⟨Nat.le_trans m1 n3,Nat.lt_of_le_of_lt (Nat.mul_le_mul_left _ e2) n5⟩
end Go.Ev
/- Trees over the rational numbers: the front of the next node. -/
namespace Go.Ev
set_option linter.all false
def uI (o:List Int)(v:Int)(x:QL):Bool:=decide (aR o [x.a,x.b]=v)
def psN (c:CQ):List Int:=c.ps.map (·.node)
structure Base (l:List QL)(o:List Int):Prop where
 nd:o.Nodup
 h1:∀ u∈o,1<=u/\u<=9
 len:o.length<=5
 lk:∀ x∈l,Lk 1 20 x/\inV (0::o) x/\Dv 1 (enQ x)
 hw:sm wt l<=72
def tY (rem:List Int)(c:NQ):Bool:=decide (c.up∈rem)
def kid (v:Int)(c:NQ):Bool:=decide (c.up=v)
def ex' (k:Nat):Nat:=if k=0 then 1 else ex k
theorem aKl (k:Nat):ex' k<=ex k:=by
 unfold ex'
 split
 · exact Nat.pow_pos (by omega)
 · exact Nat.le_refl _
def aDR (l:List QL)(o rem:List Int)(b:List NQ)(u w:Int):Prop :=
 (∃ x∈l,aR o [x.a,x.b]∈rem/\((x.a=u/\x.b=w)\/(x.a=w/\x.b=u)))\/∃ c∈b,c.up∈rem/\u∈psN c.cond/\w∈psN c.cond
def pB (b:List NQ):List QL:=b.flatMap (·.msgs)
structure TInv (l:List QL)(o pre rem:List Int)(b:List NQ):Prop where
 split:o=pre++rem
 len:b.length=pre.length
 den:∀ c∈b,c.up∈rem->0<c.den
 msg:∀ c∈b,c.up∈rem->(∀ x∈c.msgs,Lk c.den (20*2 ^ b.length) x)/\c.msgs.Pairwise cP
 ps:∀ c∈b,c.up∈rem->(∀ u∈psN c.cond,u∈0::rem)/\c.up=aR o (psN c.cond)/\(∀ x∈c.msgs,x.a∈psN c.cond/\x.b∈psN c.cond/\x.a<x.b)/\∀ u∈psN c.cond,∀ w∈psN c.cond,u<w->∃ x∈c.msgs,x.a=u/\x.b=w
 prod:dU (fun c:NQ=>72*c.den) (b.filter (tY rem))<=ex' b.length
 wtt:sm wt (pB (b.filter (tY rem)))+sm wt (l.filter fun x=>decide (aR o [x.a,x.b]∈rem))<=72
 cut:∀ S:Int->Prop,(∃ u∈rem,S u)->¬S 0->∃ u w,S u/\¬S w/\aDR l o rem b u w
theorem aEJ {pre rem s:List Int}(hn:(pre++rem).Nodup)(h1:∀ u∈pre++rem,1<=u)(h:aR (pre++rem) s∈rem):∀ u∈pre,u∉s:=by
 obtain⟨r1,r2,e⟩:=List.append_of_mem h
 have e2:pre++rem=(pre++r1)++aR (pre++rem) s::r2:=(congrArg (pre++·) e).trans (List.append_assoc pre r1 _).symm
 generalize hw:aR (pre++rem) s=w at e e2
 rw[e2]at hw hn h1
 have:=(uB hn h1).1 hw
 exact fun u hu=>this.2 u (List.mem_append_left _ hu)
theorem aCN (f:QL->Q)(p:QL->Bool):∀ l:List QL,sm f l=sm f (l.filter p)+sm f (l.filter fun x=>!p x)
 | []=>by simp only[List.filter_nil,sm];grind
 | x::l=>by
  have ih:=aCN f p l
  rw[List.filter_cons,List.filter_cons,sm]
  cases p x
  · simp only[Bool.false_eq_true,if_false,Bool.not_false,if_true,sm];grind
  · simp only[if_true,Bool.not_true,Bool.false_eq_true,if_false,sm];grind
theorem aDh (f:QL->Q)(p:NQ->Bool):∀ b:List NQ,sm f (pB b)=sm f (pB (b.filter p))+sm f (pB (b.filter fun x=>!p x))
 | []=>by simp only[pB,List.filter_nil,List.flatMap_nil,sm];grind
 | x::b=>by
  have ih:=aDh f p b
  unfold pB at ih ⊢
  rw[List.filter_cons,List.filter_cons,List.flatMap_cons,wT,ih]
  cases p x
  · simp only[Bool.false_eq_true,if_false,Bool.not_false,if_true,List.flatMap_cons,wT];grind
  · simp only[if_true,Bool.not_true,Bool.false_eq_true,if_false,List.flatMap_cons,wT];grind
theorem aGg {v:Int}{r:List Int}(b:List NQ):(b.filter (tY (v::r))).filter (kid v)=b.filter (kid v):=by
 rw[List.filter_filter]
 refine List.filter_congr fun c _=>?_
 unfold tY kid
 by_cases e:c.up=v <;> simp[e]
theorem aED {v:Int}{r:List Int}(hv:v∉r)(b:List NQ):(b.filter (tY (v::r))).filter (fun c=>!kid v c)=b.filter (tY r):=by
 rw[List.filter_filter]
 refine List.filter_congr fun c _=>?_
 unfold tY kid
 by_cases e:c.up=v
 · simp[e,hv]
 · simp[e]
theorem aIB {v:Int}{r o:List Int}(hv:v∉r)(l:List QL):sm wt (l.filter fun x=>decide (aR o [x.a,x.b]∈v::r))=sm wt (l.filter (uI o v))+sm wt (l.filter fun x=>decide (aR o [x.a,x.b]∈r)):=by
 rw[aCN wt (uI o v),List.filter_filter,List.filter_filter]
 congr 2
 · refine List.filter_congr fun x _=>?_
   unfold uI
   by_cases e:aR o [x.a,x.b]=v <;> simp[e]
 · refine List.filter_congr fun x _=>?_
   unfold uI
   by_cases e:aR o [x.a,x.b]=v
   · simp[e,hv]
   · simp[e]
end Go.Ev
/- Trees over the rational numbers: what comes into the next front. -/
namespace Go.Ev
set_option linter.all false
theorem aCy {pre r:List Int}{v:Int}(hn:(pre++v::r).Nodup)(h1:∀ u∈pre++v::r,1<=u){x:QL}:uI (pre++v::r) v x=true↔(x.a=v\/x.b=v)/\x.a∉pre/\x.b∉pre:=by
 unfold uI
 rw[decide_eq_true_eq,uB hn h1]
 simp only[List.mem_cons,List.not_mem_nil,or_false]
 constructor
 · rintro⟨h2,h3⟩
   exact⟨by rcases h2 with h | h <;> simp[h],fun h=>h3 _ h (.inl rfl),fun h=>h3 _ h (.inr rfl)⟩
 · rintro⟨h2,h3,h4⟩
   refine⟨by rcases h2 with h | h <;> simp[h],fun u hu hh=>?_⟩
   rcases hh with rfl | rfl
   · exact h3 hu
   · exact h4 hu
theorem aMq {pre rem:List Int}{x:QL}(hv:inV (0::(pre++rem)) x)(h:∀ u∈pre,u∉[x.a,x.b]):inV (0::rem) x:=by
 obtain⟨h1,h2,h3⟩:=hv
 have key:∀ u,u∈[x.a,x.b]->u∈0::(pre++rem)->u∈0::rem:=by
  intro u hu hm
  simp only[List.mem_cons,List.mem_append]at hm ⊢
  rcases hm with h4 | h4 | h4
  · exact .inl h4
  · exact absurd hu (h u h4)
  · exact .inr h4
 exact⟨key _ (by simp) h1,key _ (by simp) h2,h3⟩
section
variable {l:List QL}{o pre r:List Int}{v:Int}{b:List NQ}
theorem TInv.facts (hb:Base l o)(hi:TInv l o pre (v::r) b):(pre++v::r).Nodup/\(∀ u∈pre++v::r,1<=u)/\v∉r/\1<=v/\v<=9/\r.length+1+b.length<=5/\(0::v::r).Nodup/\∀ u∈0::v::r,0<=u/\u<=9:=by
 have e:=hi.split
 have n:=hb.nd
 have h1:=hb.h1
 have len:=hb.len
 rw[e]at n h1 len
 have n2:=(List.nodup_append.1 n).2.1
 have a1:=h1 v (by simp)
 have hr:∀ u∈v::r,1<=u/\u<=9:=fun u hu=>h1 u (List.mem_append_right _ hu)
 refine⟨n,fun u hu=>(h1 u hu).1,(List.nodup_cons.1 n2).1,a1.1,a1.2,?_,List.nodup_cons.2 ⟨fun h=>?_,n2⟩,fun u hu=>?_⟩
 · have:=hi.len
   simp only[List.length_append,List.length_cons]at len
   omega
 · have:=hr 0 h;omega
 · rcases List.mem_cons.1 hu with rfl | hu
   · omega
   · have:=hr u hu;omega
theorem tS {x:QL}:x∈qJ v b↔∃ c∈b,c.up=v/\x∈c.msgs:=by
 unfold qJ
 rw[List.mem_flatMap]
 constructor
 · rintro⟨c,hc,hx⟩
   rw[List.mem_filter,decide_eq_true_eq]at hc
   exact⟨c,hc.1,hc.2,hx⟩
 · rintro⟨c,hc,h,hx⟩
   exact⟨c,List.mem_filter.2 ⟨hc,decide_eq_true h⟩,hx⟩
theorem TInv.kids (hi:TInv l o pre (v::r) b):dU (fun c:NQ=>72*c.den) (b.filter (kid v))*dU (fun c:NQ=>72*c.den) (b.filter fun c=>tY (v::r) c&&!kid v c)<=ex' b.length/\0<dU (fun c:NQ=>72*c.den) (b.filter fun c=>tY (v::r) c&&!kid v c)/\0<dU (fun c:NQ=>72*c.den) (b.filter (kid v)):=by
 have h:=hi.prod
 rw[aB2 _ (kid v),aGg,List.filter_filter]at h
 have e:(fun a=>!kid v a&&tY (v::r) a)=fun c=>tY (v::r) c&&!kid v c:=by funext c;rw[Bool.and_comm]
 rw[e]at h
 refine⟨h,vX fun c hc=>?_,vX fun c hc=>?_⟩
 · rw[List.mem_filter,Bool.and_eq_true]at hc
   have:=hi.den c hc.1 (of_decide_eq_true hc.2.1)
   omega
 · rw[List.mem_filter]at hc
   have hu:=of_decide_eq_true hc.2
   have:=hi.den c hc.1 (by rw[hu];simp)
   omega
theorem aE0 (hi:TInv l o pre (v::r) b)(hb:Base l o):sm wt (l.filter (uI o v)++qJ v b)+(sm wt (pB (b.filter (tY r)))+sm wt (l.filter fun x=>decide (aR o [x.a,x.b]∈r)))<=72/\
 (∀ c∈b,c.up∈v::r->∀ x∈c.msgs,x.w<=72):=by
 obtain⟨n,h1,hv,_⟩:=hi.facts hb
 have h:=hi.wtt
 have h0:=h
 rw[aDh wt (kid v),aGg,aED hv,aIB hv]at h
 rw[wT]
 have e:pB (b.filter (kid v))=qJ v b:=rfl
 rw[e]at h
 refine⟨by grind,fun c hc hu x hx=>?_⟩
 have hm:x∈pB (b.filter (tY (v::r))):=List.mem_flatMap.2 ⟨c,List.mem_filter.2 ⟨hc,decide_eq_true hu⟩,hx⟩
 have nn:∀ y∈pB (b.filter (tY (v::r))),0<=wt y:=by
  intro y hy
  obtain⟨d,hd,hy⟩:=List.mem_flatMap.1 hy
  rw[List.mem_filter]at hd
  have:=((hi.msg d hd.1 (of_decide_eq_true hd.2)).1 y hy).sc.1
  unfold wt;grind
 have h2:=aG0 nn x hm
 have h3:0<=sm wt (l.filter fun x=>decide (aR o [x.a,x.b]∈v::r)):=lX fun y hy=>(hb.lk y (List.mem_filter.1 hy).1).1
 have e2:wt x=x.w:=rfl
 grind
theorem aIe (hb:Base l o)(hi:TInv l o pre (v::r) b){c:NQ}(hc:c∈b)(hu:c.up=v):0<c.den*pn c.den c.msgs/\c.den*pn c.den c.msgs<=(72*c.den) ^ (tri (r.length+2)+1):=by
 obtain⟨n,h1,hv,_,_,hl,nV,hV⟩:=hi.facts hb
 have hu':c.up∈v::r:=by rw[hu];simp
 obtain⟨m1,m2⟩:=hi.msg c hc hu'
 obtain⟨p1,p2,p3,p4⟩:=hi.ps c hc hu'
 have hd:=hi.den c hc hu'
 have l1:=aAV nV m2 (fun x hx=>⟨p1 _ (p3 x hx).1,p1 _ (p3 x hx).2.1,(p3 x hx).2.2⟩)
 have eV:(0::v::r).length=r.length+2:=rfl
 rw[eV]at l1
 have l2:=aBv (K:=r.length+2) (by omega)
 have l3:=aEv (W:=72) hd (fun x hx=>(m1 x hx).sc) (fun x hx=>(aE0 hi hb).2 c hc hu' x hx)
 refine⟨Nat.mul_pos hd (aBB hd fun x hx=>(m1 x hx).sc),?_⟩
 rw[Nat.pow_succ,Nat.mul_comm ((72*c.den) ^ _)]
 exact Nat.mul_le_mul (by omega) (Nat.le_trans l3 (Nat.pow_le_pow_right (by omega) (by omega)))
theorem TInv.inc (hb:Base l o)(hi:TInv l o pre (v::r) b) :
 Inc (aCu v b) (dU (fun c:NQ=>c.den*pn c.den c.msgs) (b.filter (kid v))) (20*2 ^ b.length) (0::v::r) v (l.filter (uI o v)++qJ v b):=by
 obtain⟨n,h1,hv,v1,v9,hl,nV,hV⟩:=hi.facts hb
 have kd:∀ c∈b.filter (kid v),c∈b/\c.up=v/\c.up∈v::r:=fun c hc=>by
  rw[List.mem_filter]at hc
  have:=of_decide_eq_true hc.2
  exact⟨hc.1,this,by rw[this];simp⟩
 have hD:0<aCu v b:=vX fun c hc=>hi.den c (kd c hc).1 (kd c hc).2.2
 obtain⟨k1,k2,k3⟩:=hi.kids
 have hH:dU (fun c:NQ=>72*c.den) (b.filter (kid v))<=ex b.length:=Nat.le_trans (Nat.le_trans (Nat.le_mul_of_pos_right _ k2) k1) (aKl _)
 have ex72:72<=ex b.length:=by
  unfold ex
  have:1<=2 ^ b.length:=Nat.one_le_two_pow
  calc 72=72 ^ 1:=rfl
   _<=_:=Nat.pow_le_pow_right (by omega) this
 have hX:20*2 ^ b.length<=20*2 ^ 4:=Nat.mul_le_mul_left _ (Nat.pow_le_pow_right (by omega) (by omega))
 refine⟨hD,vX fun c hc=>(aIe hb hi (kd c hc).1 (kd c hc).2.1).1,by omega,Nat.mul_pos (by omega) (Nat.pow_pos (by omega)),?_,?_,nV,hV,by simp,v1,?_,?_⟩
 · intro x hx
   rcases List.mem_append.1 hx with hx | hx
   · rw[List.mem_filter]at hx
     obtain⟨l1,l2,l3⟩:=hb.lk x hx.1
     refine⟨aIp l1 (Nat.one_dvd _) (by have:1<=2 ^ b.length:=Nat.one_le_two_pow;omega),?_,vK l3 (Nat.one_dvd _)⟩
     have e:=hi.split
     rw[e]at l2 hx
     obtain⟨_,a2,a3⟩:=(aCy n h1).1 hx.2
     refine aMq l2 fun u hu hm=>?_
     simp only[List.mem_cons,List.not_mem_nil,or_false]at hm
     rcases hm with rfl | rfl
     · exact a2 hu
     · exact a3 hu
   · obtain⟨c,hc,hu,hx⟩:=tS.1 hx
     have hk:c∈b.filter (kid v):=List.mem_filter.2 ⟨hc,decide_eq_true hu⟩
     have hu':c.up∈v::r:=by rw[hu];simp
     have hd:=hi.den c hc hu'
     obtain⟨m1,m2⟩:=hi.msg c hc hu'
     obtain⟨p1,p2,p3,p4⟩:=hi.ps c hc hu'
     refine⟨aIp (m1 x hx) (aBz (f:=fun c:NQ=>c.den) hk) (Nat.le_refl _),⟨p1 _ (p3 x hx).1,p1 _ (p3 x hx).2.1,(p3 x hx).2.2⟩,?_⟩
     exact vK (aIo hd (m1 x hx).sc) (Nat.dvd_trans (Nat.mul_dvd_mul_left _ (aFj _ x hx)) (aBz (f:=fun c:NQ=>c.den*pn c.den c.msgs) hk))
 · have:=(aE0 hi hb).1
   have a1:0<=sm wt (l.filter fun x=>decide (aR o [x.a,x.b]∈r)):=lX fun y hy=>(hb.lk y (List.mem_filter.1 hy).1).1
   have a2:0<=sm wt (pB (b.filter (tY r))):=by
    refine pI fun y hy=>?_
    obtain⟨d,hd,hy⟩:=List.mem_flatMap.1 hy
    rw[List.mem_filter]at hd
    have:=((hi.msg d hd.1 (List.mem_cons_of_mem v (of_decide_eq_true hd.2))).1 y hy).sc.1
    unfold wt;grind
   grind
 · obtain⟨u,w,s1,s2,adj⟩:=hi.cut (fun u=>u=v) ⟨v,by simp,rfl⟩ (by omega)
   subst s1
   rcases adj with⟨x,hx,hf,hp⟩ | ⟨c,hc,hu,p1,p2⟩
   · refine⟨x,List.mem_append_left _ (List.mem_filter.2 ⟨hx,?_⟩),by rcases hp with hp | hp <;> simp[hp]⟩
     have e:=hi.split
     rw[e]at hf ⊢
     have:=aEJ n h1 hf
     refine(aCy n h1).2 ⟨by rcases hp with hp | hp <;> simp[hp],fun h=>this _ h (by simp),fun h=>this _ h (by simp)⟩
   · obtain⟨q1,q2,q3,q4⟩:=hi.ps c hc hu
     have e:=hi.split
     have hcu:c.up=u:=by
      rw[q2,e]
      refine(uB n h1).2 ⟨p1,fun z hz hm=>?_⟩
      have:=q1 z hm
      rcases List.mem_cons.1 this with rfl | h
      · have:=h1 0 (List.mem_append_left _ hz);omega
      · exact(List.nodup_append.1 n).2.2 z hz z h rfl
     rcases Int.lt_or_gt_of_ne s2 with h | h
     · obtain⟨x,hx,e1,e2⟩:=q4 w p2 u p1 h
       exact⟨x,List.mem_append_right _ (tS.2 ⟨c,hc,hcu,hx⟩),.inr e2⟩
     · obtain⟨x,hx,e1,e2⟩:=q4 u p1 w p2 h
       exact⟨x,List.mem_append_right _ (tS.2 ⟨c,hc,hcu,hx⟩),.inl e1⟩
 · have eV:(0::v::r).length=r.length+2:=rfl
   rw[eV]
   refine aK2 (k:=b.length) hD (by omega) (by omega) ?_ ?_
   · by_cases c:b.filter (kid v)=[]
     · have:aCu v b=1:=by
        have e:aCu v b=dU (fun c:NQ=>c.den) (b.filter (kid v)):=rfl
        rw[e,c];rfl
       rw[this];omega
     · exact Nat.le_trans (aC6 _ _ c) hH
   · refine Nat.le_trans (aF1 (g:=fun c:NQ=>(72*c.den) ^ (tri (r.length+2)+1)) fun c hc=>(aIe hb hi (kd c hc).1 (kd c hc).2.1).2) ?_
     rw[aEt]
     exact Nat.pow_le_pow_left hH _
end
end Go.Ev
/- Trees over the rational numbers: the invariant goes on. -/
namespace Go.Ev
set_option linter.all false
theorem aC5 (v:Int)(a:List QL):psN (uD v a)=a.map fun x=>x.a:=by
 unfold psN uD
 simp only[List.map_map]
 rfl
section
variable {l:List QL}{o pre r:List Int}{v:Int}{b:List NQ}
def nxt (l:List QL)(o:List Int)(v:Int)(b:List NQ):NQ:=aA1 o v (l.filter (uI o v)) b
theorem aHb {u:Int}:u∈psN (nxt l o v b).cond↔∃ y∈(bG (l.filter (uI o v)++qJ v b) [] 0).1,(y.a=v\/y.b=v)/\u=(aAL v y).a:=by
 have e:psN (nxt l o v b).cond=(bM v (bG (l.filter (uI o v)++qJ v b) [] 0).1).map fun x=>x.a:=aC5 v _
 rw[e,List.mem_map]
 constructor
 · rintro⟨x,hx,rfl⟩
   obtain⟨y,hy,ht,rfl⟩:=vZ.1 hx
   exact⟨y,hy,ht,rfl⟩
 · rintro⟨y,hy,ht,rfl⟩
   exact⟨_,vZ.2 ⟨y,hy,ht,rfl⟩,rfl⟩
theorem aBC {z:QL}(hz:z∈l.filter (uI o v)++qJ v b)(h:z.a<z.b){u:Int}(hu:(z.a=v/\z.b=u)\/(z.a=u/\z.b=v)):u∈psN (nxt l o v b).cond:=by
 obtain⟨y,hy,e1,e2⟩:=pJ _ [] 0 z (.inr hz)
 rw[aHb]
 have ht:y.a=v\/y.b=v:=by rw[<- e1,<- e2];rcases hu with hu | hu <;> simp[hu]
 refine⟨y,hy,ht,?_⟩
 have:=zE ht (by omega)
 omega
theorem TInv.kid_ps (hb:Base l o)(hi:TInv l o pre (v::r) b){c:NQ}(hc:c∈b)(hu:c.up=v):v∈psN c.cond/\∀ u∈psN c.cond,u≠v->u∈psN (nxt l o v b).cond:=by
 have hu':c.up∈v::r:=by rw[hu];simp
 obtain⟨p1,p2,p3,p4⟩:=hi.ps c hc hu'
 obtain⟨n,h1,hv,v1,v9,hl,nV,hV⟩:=hi.facts hb
 have vm:v∈psN c.cond:=by
  have e:=hi.split
  rw[hu,e]at p2
  exact((uB n h1).1 p2.symm).1
 refine⟨vm,fun u hm hne=>?_⟩
 rcases Int.lt_or_gt_of_ne hne with h | h
 · obtain⟨x,hx,e1,e2⟩:=p4 u hm v vm h
   exact aBC (z:=x) (List.mem_append_right _ (tS.2 ⟨c,hc,hu,hx⟩)) (by omega) (.inr ⟨e1,e2⟩)
 · obtain⟨x,hx,e1,e2⟩:=p4 v vm u hm h
   exact aBC (z:=x) (List.mem_append_right _ (tS.2 ⟨c,hc,hu,hx⟩)) (by omega) (.inl ⟨e1,e2⟩)
theorem TInv.nxt_rem (hb:Base l o)(hi:TInv l o pre (v::r) b):∀ u∈psN (nxt l o v b).cond,u∈0::r/\u≠v:=by
 intro u hu
 have hj:=((hi.inc hb).join).2.1
 obtain⟨y,hy,ht,rfl⟩:=aHb.1 hu
 have:=hj.armV _ (vZ.2 ⟨y,hy,ht,rfl⟩)
 refine⟨?_,this.2⟩
 have h1:=this.1
 simp only[List.mem_cons]at h1 ⊢
 rcases h1 with h | h | h
 · exact .inl h
 · exact absurd h this.2
 · exact .inr h
theorem TInv.adj (hb:Base l o)(hi:TInv l o pre (v::r) b){u w:Int}(h:aDR l o (v::r) b u w)(hne:u≠w) :
 (u=v->w∈psN (nxt l o v b).cond)/\(w=v->u∈psN (nxt l o v b).cond)/\(u≠v->w≠v->(u∈psN (nxt l o v b).cond/\w∈psN (nxt l o v b).cond)\/aDR l o r b u w):=by
 obtain⟨n,h1,hv,v1,v9,hl,nV,hV⟩:=hi.facts hb
 have e:=hi.split
 rcases h with⟨x,hx,hf,hp⟩ | ⟨c,hc,hu,p1,p2⟩
 · have own:x.a=v\/x.b=v->x∈l.filter (uI o v):=fun ht=>by
    rw[e]at hf ⊢
    have:=aEJ n h1 hf
    exact List.mem_filter.2 ⟨hx,(aCy n h1).2 ⟨ht,fun h=>this _ h (by simp),fun h=>this _ h (by simp)⟩⟩
   have hlt:=(hb.lk x hx).2.1.2.2
   refine⟨fun h2=>?_,fun h2=>?_,fun h2 h3=>.inr (.inl ⟨x,hx,?_,hp⟩)⟩
   · subst h2
     rcases hp with⟨g1,g2⟩ | ⟨g1,g2⟩
     · exact aBC (List.mem_append_left _ (own (.inl g1))) hlt (.inl ⟨g1,g2⟩)
     · exact aBC (List.mem_append_left _ (own (.inr g2))) hlt (.inr ⟨g1,g2⟩)
   · subst h2
     rcases hp with⟨g1,g2⟩ | ⟨g1,g2⟩
     · exact aBC (List.mem_append_left _ (own (.inr g2))) hlt (.inr ⟨g1,g2⟩)
     · exact aBC (List.mem_append_left _ (own (.inl g1))) hlt (.inl ⟨g1,g2⟩)
   · rcases List.mem_cons.1 hf with h4 | h4
     · exfalso
       have h5:=h4
       rw[e]at h5
       have:=((uB n h1).1 h5).1
       simp only[List.mem_cons,List.not_mem_nil,or_false]at this
       omega
     · exact h4
 · by_cases k:c.up=v
   · obtain⟨vm,hk⟩:=hi.kid_ps hb hc k
     exact⟨fun h2=>hk w p2 (by omega),fun h2=>hk u p1 (by omega),fun h2 h3=>.inl ⟨hk u p1 h2,hk w p2 h3⟩⟩
   · have hr:c.up∈r:=(List.mem_cons.1 hu).resolve_left k
     obtain⟨q1,q2,q3,q4⟩:=hi.ps c hc hu
     have nv:v∉psN c.cond:=fun hm=>by
      rw[e]at q2
      refine k (q2.trans ((uB n h1).2 ⟨hm,fun z hz hm=>?_⟩))
      rcases List.mem_cons.1 (q1 z hm)with rfl | h
      · have:=h1 0 (List.mem_append_left _ hz);omega
      · exact(List.nodup_append.1 n).2.2 z hz z h rfl
     exact⟨fun h2=>absurd (h2▸p1) nv,fun h2=>absurd (h2▸p2) nv,fun _ _=>.inr (.inr ⟨c,hc,hr,p1,p2⟩)⟩
theorem TInv.nxt_up (hb:Base l o)(hi:TInv l o pre (v::r) b){u:Int}(hu:u∈psN (nxt l o v b).cond)(h0:u≠0):(nxt l o v b).up∈r:=by
 obtain⟨n,h1,hv,v1,v9,hl,nV,hV⟩:=hi.facts hb
 have e:=hi.split
 have hr:=hi.nxt_rem hb
 have er:(nxt l o v b).up=aR o (psN (nxt l o v b).cond):=rfl
 have e2:pre++v::r=(pre++[v])++r:=by simp
 have e3:aR o (psN (nxt l o v b).cond)=aR ((pre++[v])++r) (psN (nxt l o v b).cond):=congrArg (fun o'=>aR o' (psN (nxt l o v b).cond)) (e.trans e2)
 rw[er,e3]
 have h1':∀ u∈(pre++[v])++r,1<=u:=by rw[<- e2];exact h1
 rcases aGu (p:=pre++[v]) (r:=r) (s:=psN (nxt l o v b).cond) h1' (fun z hz hm=>by
  obtain⟨g1,g2⟩:=hr z hm
  have zr:z∈r:=by
   rcases List.mem_cons.1 g1 with h | h
   · have:=h1' z (List.mem_append_left _ hz);omega
   · exact h
  rcases List.mem_append.1 hz with hz | hz
  · exact(List.nodup_append.1 n).2.2 z hz z (by simp[zr]) rfl
  · simp at hz;exact g2 hz)with⟨_,h⟩ | h
 · exact absurd hu (h u ((List.mem_cons.1 (hr u hu).1).resolve_left h0))
 · exact h.1
theorem aIx {P H:Nat}{D d k:Nat}(hH:0<H)(hP:0<P)(h:H*P<=ex' k)(hd:d<=D*(72*D))(hD:(D=1/\H=1)\/72*D<=H):P*(72*d)<=ex (k+1):=by
 have e:ex (k+1)=ex k*ex k:=by unfold ex;rw[Nat.pow_succ,Nat.pow_mul,Nat.pow_two]
 have h2:=aKl k
 rcases hD with⟨rfl,rfl⟩ | hD
 · have hd2:72*d<=72*72:=by omega
   by_cases c:k=0
   · subst c
     have:ex' 0=1:=rfl
     rw[this]at h
     have hp1:P=1:=by omega
     rw[hp1,e]
     have:ex 0=72:=rfl
     rw[this];omega
   · have ek:72*72<=ex k:=by
      unfold ex
      have:2<=2 ^ k:=by
       calc 2=2 ^ 1:=rfl
        _<=_:=Nat.pow_le_pow_right (by omega) (by omega)
      calc 72*72=72 ^ 2:=rfl
       _<=_:=Nat.pow_le_pow_right (by omega) this
     rw[e]
     exact Nat.mul_le_mul (by omega) (by omega)
 · have a1:72*d<=H*H:=by
    calc 72*d<=72*(D*(72*D)):=Nat.mul_le_mul_left _ hd
     _=(72*D)*(72*D):=by rw[Nat.mul_assoc]
     _<=H*H:=Nat.mul_le_mul hD hD
   rw[e]
   calc P*(72*d)<=P*(H*H):=Nat.mul_le_mul_left _ a1
    _=(H*P)*H:=by rw[<- Nat.mul_assoc,Nat.mul_comm P H]
    _<=ex k*ex k:=Nat.mul_le_mul (by omega) (Nat.le_trans (Nat.le_mul_of_pos_right H hP) (by omega))
end
end Go.Ev
