/- Parts QA, QB, QC, QD, QE, QF, P21, QG, QH, QI, QJ, QK, QM, QN, QO, QP, QR. -/
import Derived.Test.YtachfjpemagdiaaGreatPb2
import Derived.Test.YtachfjpemagdiaaGreatPb1
import Derived.Test.YtachfjpemagdiaaGreatPa1
set_option linter.all false
/- Fractions as rational numbers. -/
namespace Go.Ev
set_option linter.all false
abbrev Q:=_root_.Rat
def ofQ (q:Q):Rat:=⟨big q.num,aA q.den⟩
def cC (q:Q):Prop:=bl q.num<=24/\(aA q.den).length<=24
instance (q:Q):Decidable (cC q):=by unfold cC;infer_instance
def aFO (q:Q):Rat:=if cC q then ofQ q else oF
theorem aCc {q:Q}(h:cC q):aFO q=ofQ q:=if_pos h
theorem uA {q:Q}(h:cC q):bO (ofQ q):=by
 obtain⟨h1,h2⟩:=h
 refine⟨⟨aAW (by unfold bl at h1;omega),fun hn=>?_⟩,aAW (by omega),dN q.den_nz,h2,h1,?_⟩
 · have:q.num<0:=of_decide_eq_true hn
   exact dN (by omega)
 · show Nat.gcd (val (aA q.num.natAbs)) (val (aA q.den))=1
   rw[cI,cI];exact q.reduced
theorem mB {q:Q}(h:cC q):VZ (ofQ q):=.inl (uA h)
theorem aIw {p q:Q}(h:ofQ p=ofQ q):p=q:=by
 unfold ofQ at h
 injection h with h1 h2
 have h2:=aGA h2
 injection h1 with h3 h4
 have h4:=aGA h4
 have h3:=decide_eq_decide.1 h3
 exact _root_.Rat.ext (by omega) h2
theorem aLK (z:Int){d:Nat}(hd:0<d):mkR (decide (z<0)) z.natAbs d=aFO (mkRat z d):=by
 have hn:=_root_.Rat.num_mkRat z d
 have hden:=_root_.Rat.den_mkRat z d
 rw[if_neg (by omega)]at hn hden
 have hg:Nat.gcd d z.natAbs=Nat.gcd z.natAbs d:=Nat.gcd_comm _ _
 rw[hg]at hn hden
 generalize hgg:Nat.gcd z.natAbs d=g at hn hden
 have hgp:0<g:=by rw[<- hgg];exact Nat.gcd_pos_of_pos_right _ hd
 have hdv:g∣z.natAbs:=by rw[<- hgg];exact Nat.gcd_dvd_left _ _
 obtain⟨k,hk⟩:=hdv
 have hxk:z.natAbs / g=k:=by rw[hk,Nat.mul_div_cancel_left _ hgp]
 have hnk:(mkRat z d).num.natAbs=k/\(((mkRat z d).num<0)↔(z<0/\k≠0)):=by
  rcases Int.natAbs_eq z with e | e
  · have:(mkRat z d).num=(k:Int):=by
     rw[hn,e,hk];simp[Int.natCast_mul]
     rw[Int.mul_ediv_cancel_left _ (by omega)]
    rw[this];exact⟨by simp,by constructor <;> intro h <;> omega⟩
  · have:(mkRat z d).num=-(k:Int):=by
     rw[hn,e,hk,Int.natCast_mul,<- Int.mul_neg,Int.mul_ediv_cancel_left _ (by omega)]
    rw[this]
    refine⟨by simp,?_⟩
    constructor
    · intro h
      refine⟨?_,by omega⟩
      rcases Nat.eq_zero_or_pos k with h0 | h0
      · omega
      · have:=Nat.mul_pos hgp h0
        omega
    · rintro⟨_,h⟩;omega
 have hf:cC (mkRat z d)↔((aA k).length<=24/\(aA (d / g)).length<=24):=by unfold cC bl;rw[hnk.1,hden]
 unfold mkR aFO
 rw[if_neg (by omega),hgg,hxk]
 by_cases c:(aA k).length<=24/\(aA (d / g)).length<=24
 · rw[if_neg (by omega),if_pos (hf.2 c)]
   unfold ofQ big
   rw[hnk.1,hden]
   congr 2
   rw[<- Bool.decide_and]
   exact decide_eq_decide.2 hnk.2.symm
 · rw[if_pos (by omega),if_neg (fun h=>c (hf.1 h))]
theorem oC {q:Q}(h:cC q):0<q.den/\bl q.num<=24/\(aA q.den).length<=24:=⟨Nat.pos_of_ne_zero q.den_nz,h.1,h.2⟩
theorem aSd {p q:Q}(hp:cC p)(hq:cC q):RA (ofQ p) (ofQ q)=aFO (p+q):=by
 have h:=(aBn (mB hp) (mB hq)).2.1
 obtain⟨a1,a2,a3⟩:=oC hp
 obtain⟨b1,b2,b3⟩:=oC hq
 have e:bT (ofQ p) (ofQ q)=some (aFO (p+q)):=by
  unfold ofQ
  rw[aDa _ _ _ _ a1 b1 a2 a3 b2 b3]
  unfold aKe
  rw[aLK _ (Nat.mul_pos a1 b1),_root_.Rat.add_def']
 rw[e]at h;exact(Option.some.inj h).symm
theorem aSa {p q:Q}(hp:cC p)(hq:cC q):RM (ofQ p) (ofQ q)=aFO (p*q):=by
 have h:=(aD9 (mB hp) (mB hq)).2.1
 obtain⟨a1,a2,a3⟩:=oC hp
 obtain⟨b1,b2,b3⟩:=oC hq
 have e:cG (ofQ p) (ofQ q)=some (aFO (p*q)):=by
  unfold ofQ
  rw[aJi _ _ _ _ a1 b1 a2 a3 b2 b3]
  unfold aPx
  rw[_root_.Rat.mul_def',<- aLK _ (Nat.mul_pos a1 b1),Int.natAbs_mul]
  congr 1
  refine aE4 fun hx=>?_
  have q':=aEZ p.num q.num
  rw[decide_eq_true hx,Bool.and_true]at q'
  exact q'
 rw[e]at h;exact(Option.some.inj h).symm
theorem aSb {p q:Q}(hp:cC p)(hq:cC q)(h0:q≠0):RD (ofQ p) (ofQ q)=aFO (p / q):=by
 have h:=(aGP (mB hp) (mB hq)).2.1
 obtain⟨a1,a2,a3⟩:=oC hp
 obtain⟨b1,b2,b3⟩:=oC hq
 have hn:q.num≠0:=fun e=>h0 (_root_.Rat.num_eq_zero.1 e)
 have e:fI (ofQ p) (ofQ q)=some (aFO (p / q)):=by
  unfold ofQ
  rw[aJj _ _ _ _ a1 b1 a2 a3 b2 b3]
  unfold aQI
  have key:p / q=mkRat (p.num*q.num.sign*q.den) (p.den*q.num.natAbs):=by
   rw[_root_.Rat.div_def]
   conv=>lhs;rw[_root_.Rat.mul_def']
   rw[_root_.Rat.num_inv,_root_.Rat.den_inv,if_neg hn,<- Int.mul_assoc]
  rw[key,<- aLK _ (Nat.mul_pos a1 (by omega))]
  have hs:q.num.sign.natAbs=1:=by rw[Int.natAbs_sign];simp[hn]
  have e1:(p.num*q.num.sign*q.den).natAbs=p.num.natAbs*q.den:=by
   rw[Int.natAbs_mul,Int.natAbs_mul,hs,Nat.mul_one,Int.natAbs_natCast]
  rw[e1]
  congr 1
  refine aE4 fun hx=>?_
  have hp0:p.num≠0:=by rintro e;rw[e]at hx;simp at hx
  have hd0:(0:Int)<(q.den:Int):=by omega
  have:(p.num*q.num.sign*(q.den:Int)<0)↔(p.num*q.num.sign<0):=by
   constructor
   · intro hh
     rcases Int.lt_or_le (p.num*q.num.sign) 0 with h1 | h1
     · exact h1
     · have:=Int.mul_nonneg h1 (Int.le_of_lt hd0);omega
   · intro hh;exact Int.mul_neg_of_neg_of_pos hh hd0
  rw[show decide (p.num*q.num.sign*(q.den:Int)<0)=decide (p.num*q.num.sign<0)from decide_eq_decide.2 this]
  rcases Int.lt_or_gt_of_ne hn with c | c
  · rw[show decide (p.num*q.num.sign<0)=decide (p.num*-1<0)by rw[Int.sign_eq_neg_one_of_neg c]]
    by_cases cp:p.num<0 <;> simp[c,cp] <;> omega
  · rw[show decide (p.num*q.num.sign<0)=decide (p.num*1<0)by rw[Int.sign_eq_one_of_pos c]]
    have:¬q.num<0:=by omega
    by_cases cp:p.num<0 <;> simp[this,cp]
 rw[e]at h;exact(Option.some.inj h).symm
theorem aR9 {p q:Q}(hp:cC p)(hq:cC q):RS (ofQ p) (ofQ q)=aFO (p-q):=by
 have h:=(aIW (mB hp) (mB hq)).2.1
 obtain⟨a1,a2,a3⟩:=oC hp
 obtain⟨b1,b2,b3⟩:=oC hq
 have e:gA (ofQ p) (ofQ q)=some (aFO (p-q)):=by
  unfold gA ofQ
  rw[aFB _ _ b1 b2 b3]
  simp only[Option.bind_some]
  rw[aDa _ _ _ _ a1 b1 a2 a3 (by rw[aQK];exact b2) b3]
  unfold aKe
  rw[aLK _ (Nat.mul_pos a1 b1),_root_.Rat.sub_def',Int.neg_mul,<- Int.sub_eq_add_neg];rfl
 rw[e]at h;exact(Option.some.inj h).symm
theorem aRM {p:Q}(hp:cC p):RN (ofQ p)=ofQ (-p):=by
 have h:=(aM4 (mB hp)).2.1
 obtain⟨a1,a2,a3⟩:=oC hp
 have e:iT (ofQ p)=some (ofQ (-p)):=by
  unfold ofQ
  rw[aFB _ _ a1 a2 a3]
  rfl
 rw[e]at h;exact(Option.some.inj h).symm
theorem aKx {q:Q}(h:cC q):0<xE (ofQ q)↔0<q:=by
 have:=aIg (n:=q.num) (d:=q.den) (uA h)
 unfold ofQ
 rw[this]
 constructor
 · intro hh
   rw[_root_.Rat.lt_iff];simp;omega
 · intro hh
   rw[_root_.Rat.lt_iff]at hh;simp at hh;omega
theorem aPb:BB ^ 24=10 ^ 216:=by rw[dM,show(1000000000:Nat)=10 ^ 9 from rfl,<- Nat.pow_mul]
theorem aLZ {q:Q}{n:Int}{d:Nat}(hd:0<d)(hq:q=mkRat n d)(h1:n.natAbs<BB ^ 24)(h2:d<BB ^ 24):cC q:=by
 have hn:=_root_.Rat.num_mkRat n d
 have hden:=_root_.Rat.den_mkRat n d
 rw[if_neg (by omega)]at hn hden
 subst hq
 have hgp:0<Nat.gcd d n.natAbs:=Nat.gcd_pos_of_pos_left _ hd
 unfold cC bl
 refine⟨gG ?_,gG ?_⟩
 · rw[hn]
   have:(n / (Nat.gcd d n.natAbs:Int)).natAbs<=n.natAbs:=Int.natAbs_ediv_le_natAbs _ _
   omega
 · rw[hden]
   exact Nat.lt_of_le_of_lt (Nat.div_le_self _ _) h2
end Go.Ev
/- Rational numbers over a bound denominator. -/
namespace Go.Ev
set_option linter.all false
def Dv (T:Nat)(q:Q):Prop:=∃ z:Int,q*(T:Q)=(z:Q)
theorem aEa (z:Int):Dv 1 (z:Q):=⟨z,by simp⟩
theorem nH {T:Nat}{p q:Q}(hp:Dv T p)(hq:Dv T q):Dv T (p+q):=by
 obtain⟨a,ha⟩:=hp;obtain⟨b,hb⟩:=hq
 exact⟨a+b,by rw[_root_.Rat.add_mul,ha,hb,_root_.Rat.intCast_add]⟩
theorem aLq {T:Nat}{p:Q}(hp:Dv T p):Dv T (-p):=by
 obtain⟨a,ha⟩:=hp
 exact⟨-a,by rw[_root_.Rat.neg_mul,ha,_root_.Rat.intCast_neg]⟩
theorem uQ {T:Nat}{p q:Q}(hp:Dv T p)(hq:Dv T q):Dv T (p-q):=by
 rw[_root_.Rat.sub_eq_add_neg];exact nH hp (aLq hq)
theorem vT {T U:Nat}{p q:Q}(hp:Dv T p)(hq:Dv U q):Dv (T*U) (p*q):=by
 obtain⟨a,ha⟩:=hp;obtain⟨b,hb⟩:=hq
 refine⟨a*b,?_⟩
 rw[_root_.Rat.intCast_mul,<- ha,<- hb,_root_.Rat.natCast_mul];grind
theorem rR {T:Nat}(U:Nat){p:Q}(hp:Dv T p):Dv (T*U) p:=by
 have:=vT hp (q:=1) (U:=U) ⟨(U:Int),by rw[_root_.Rat.one_mul];rfl⟩
 rwa [_root_.Rat.mul_one]at this
theorem xI {T U:Nat}{p:Q}(hp:Dv T p)(h:T∣U):Dv U p:=by
 obtain⟨k,rfl⟩:=h;exact rR k hp
theorem aIL {T B:Nat}{q:Q}(hT:0<T)(h:Dv T q)(h1:-(B:Q)<=q)(h2:q<=(B:Q))(hB:0<B)(hb:B*T<BB ^ 24):cC q:=by
 obtain⟨z,hz⟩:=h
 have hT0:(0:Q)<(T:Q):=by
  have:((0:Nat):Q)<(T:Q):=_root_.Rat.natCast_lt_natCast.2 hT
  simpa using this
 have e:q=mkRat z T:=by
  rw[_root_.Rat.mkRat_eq_div]
  have:(T:Q)≠0:=by grind
  have e2:((T:Int):Q)=(T:Q):=rfl
  grind
 refine aLZ hT e ?_ (Nat.lt_of_le_of_lt (Nat.le_mul_of_pos_left T hB) hb)
 have u1:(z:Q)<=((B*T:Nat):Q):=by
  rw[<- hz,_root_.Rat.natCast_mul]
  exact _root_.Rat.mul_le_mul_of_nonneg_right h2 (by grind)
 have u2:-((B*T:Nat):Q)<=(z:Q):=by
  rw[<- hz,_root_.Rat.natCast_mul,<- _root_.Rat.neg_mul]
  exact _root_.Rat.mul_le_mul_of_nonneg_right h1 (by grind)
 have v1:z<=((B*T:Nat):Int):=_root_.Rat.intCast_le_intCast.1 u1
 have v2:-((B*T:Nat):Int)<=z:=_root_.Rat.intCast_le_intCast.1 (by rw[_root_.Rat.intCast_neg];exact u2)
 omega
end Go.Ev
/- Links over the rational numbers; merging and joining. -/
namespace Go.Ev
set_option linter.all false
structure QL where
 a:Int
 b:Int
 w:Q
 x:Q
 y:Q
def QL.toL (l:QL):Link:=⟨l.a,l.b,ofQ l.w,ofQ l.x,ofQ l.y⟩
def QL.fit (l:QL):Prop:=cC l.w/\cC l.x/\cC l.y
def QL.ok (l:QL):Prop:=(0<=l.a/\l.a<=9)/\(0<=l.b/\l.b<=9)/\l.a<l.b/\0<l.w
theorem aDN {l:QL}(h:l.fit):ValidL l.toL↔l.ok:=by
 unfold ValidL QL.ok QL.toL
 simp only[aKx h.1,uA h.2.1,uA h.2.2,and_true]
def dH (k l:QL):Prop:=k.a<l.a\/(k.a=l.a/\k.b<l.b)
instance (k l:QL):Decidable (dH k l):=by unfold dH;infer_instance
theorem aDu (k l:QL):fH k.toL l.toL↔dH k l:=Iff.rfl
def mrg (k l:QL):QL:=⟨k.a,k.b,k.w+l.w,(k.w*k.x+l.w*l.x) / (k.w+l.w),(k.w*k.y+l.w*l.y) / (k.w+l.w)⟩
def sqQ (x y:Q):Q:=x*x+y*y
def aFX (k l:QL):Q:=(k.w*l.w / (k.w+l.w))*sqQ (k.x-l.x) (k.y-l.y)
def aIA (k l:QL):Prop :=
 (cC (k.w+l.w)/\cC (k.w*k.x)/\cC (l.w*l.x)/\cC (k.w*k.x+l.w*l.x)/\cC ((k.w*k.x+l.w*l.x) / (k.w+l.w)))/\
 (cC (k.w*k.y)/\cC (l.w*l.y)/\cC (k.w*k.y+l.w*l.y)/\cC ((k.w*k.y+l.w*l.y) / (k.w+l.w)))/\
 (cC (k.w*l.w)/\cC (k.w*l.w / (k.w+l.w))/\cC (k.x-l.x)/\cC (k.y-l.y))/\
 (cC ((k.x-l.x)*(k.x-l.x))/\cC ((k.y-l.y)*(k.y-l.y))/\cC (sqQ (k.x-l.x) (k.y-l.y))/\cC (aFX k l))
theorem aHg {p q:Q}(hp:cC p)(hq:cC q)(h:cC (p+q)):RA (ofQ p) (ofQ q)=ofQ (p+q):=by rw[aSd hp hq,aCc h]
theorem aHf {p q:Q}(hp:cC p)(hq:cC q)(h:cC (p*q)):RM (ofQ p) (ofQ q)=ofQ (p*q):=by rw[aSa hp hq,aCc h]
theorem aPR {p q:Q}(hp:cC p)(hq:cC q)(h:cC (p-q)):RS (ofQ p) (ofQ q)=ofQ (p-q):=by rw[aR9 hp hq,aCc h]
theorem aO1 {p q:Q}(hp:cC p)(hq:cC q)(h0:q≠0)(h:cC (p / q)):RD (ofQ p) (ofQ q)=ofQ (p / q):=by rw[aSb hp hq h0,aCc h]
theorem aOw {z:Int}(h:z.natAbs<2 ^ 62):cC (z:Q):=by
 refine aLZ (n:=z) (d:=1) (by decide) ?_ (Nat.lt_trans h (by rw[aPb];decide)) (by rw[aPb];decide)
 rw[_root_.Rat.mkRat_eq_div];show(z:Q)=(z:Q) / ((1:Nat):Q);grind
theorem aBz {z:Int}(h:z.natAbs<2 ^ 62):rA z=ofQ (z:Q):=by
 unfold rA ofQ
 rw[show aA (z:Q).den=[1]from rO (d:=1) (by rw[dM];decide) (by decide)];rfl
theorem aPz {k l:QL}(hk:k.fit)(hl:l.fit)(h0:k.w+l.w≠0)(h:aIA k l):zM k.toL l.toL/\aBk k.toL l.toL=(mrg k l).toL/\aDY k.toL l.toL=ofQ (aFX k l)/\(mrg k l).fit/\cC (aFX k l):=by
 obtain⟨⟨a1,a2,a3,a4,a5⟩,⟨b2,b3,b4,b5⟩,⟨c1,c2,c3,c4⟩,d1,d2,d3,d4⟩:=h
 obtain⟨k1,k2,k3⟩:=hk
 obtain⟨l1,l2,l3⟩:=hl
 have eL:aBk k.toL l.toL=(mrg k l).toL:=by
  unfold aBk QL.toL mrg
  simp only[]
  rw[aHg k1 l1 a1,aHf k1 k2 a2,aHf l1 l2 a3,aHg a2 a3 a4,aO1 a4 a1 h0 a5,aHf k1 k3 b2,aHf l1 l3 b3,aHg b2 b3 b4,aO1 b4 a1 h0 b5]
 have eE:aDY k.toL l.toL=ofQ (aFX k l):=by
  unfold aDY QL.toL aFX sqR
  simp only[]
  unfold sqQ at d3
  rw[aHg k1 l1 a1,aHf k1 l1 c1,aO1 c1 a1 h0 c2,aPR k2 l2 c3,aPR k3 l3 c4,aHf c3 c3 d1,aHf c4 c4 d2,aHg d1 d2 d3,aHf c2 d3 d4]
  rfl
 refine⟨?_,eL,eE,⟨a1,a5,b5⟩,d4⟩
 unfold zM
 rw[eL,eE]
 exact⟨uA a1,uA a5,uA b5,uA d4⟩
def jU:List QL->QL->List QL×Q
 | [],l=>([l],0)
 | k::s,l=>if dH k l then(k::(jU s l).1,(jU s l).2)else if dH l k then(l::k::s,0)else(mrg k l::s,aFX k l)
def aC2:List QL->QL->Prop
 | [],_=>True
 | k::s,l=>if dH k l then aC2 s l else if dH l k then True else k.w+l.w≠0/\aIA k l
theorem tM {k l:QL}{s:List QL}(c:dH k l):jU (k::s) l=(k::(jU s l).1,(jU s l).2):=by rw[jU,if_pos c]
theorem wY {k l:QL}{s:List QL}(c:¬dH k l)(d:dH l k):jU (k::s) l=(l::k::s,0):=by rw[jU,if_neg c,if_pos d]
theorem wX {k l:QL}{s:List QL}(c:¬dH k l)(d:¬dH l k):jU (k::s) l=(mrg k l::s,aFX k l):=by rw[jU,if_neg c,if_neg d]
theorem aCO:rA 0=ofQ 0:=aBz (by decide)
theorem aDM:cC 0:=aOw (z:=0) (by decide)
theorem aM1 {y l:Link}{r:List Link}(h:fH y l):aBa (y::r) l=(aBa r l).map (fun t=>(y::t.1,t.2)):=by
 have e:eG l (y::r)=eG l r+1:=by rw[eG,if_pos h]
 unfold aBa
 rw[e]
 by_cases c:eG l r<r.length
 · rw[dif_pos c,dif_pos (by simpa using c)]
   simp only[List.getElem_cons_succ,List.take_succ_cons,List.drop_succ_cons,List.cons_append]
   split
   · rfl
   · split <;> rfl
 · rw[dif_neg c,dif_neg (by simpa using c)]
   simp only[List.take_succ_cons,List.drop_succ_cons,List.cons_append]
   rfl
theorem aM2 {y l:Link}{r:List Link}(h:¬fH y l):aBa (y::r) l=if fH l y then some (l::y::r,rA 0)else if zM y l then some (aBk y l::r,aDY y l)else none:=by
 have e:eG l (y::r)=0:=by rw[eG,if_neg h]
 unfold aBa
 rw[e]
 simp
theorem aQe:∀ (s:List QL) (l:QL),(∀ k∈s,k.fit)->l.fit->aC2 s l->aBa (s.map QL.toL) l.toL=some ((jU s l).1.map QL.toL,ofQ (jU s l).2)/\(∀ k∈(jU s l).1,k.fit)/\cC (jU s l).2
 | [],l,_,hl,_=>by
  refine⟨?_,?_,aDM⟩
  · unfold aBa jU
    simp[eG,aCO]
  · intro k hk
    simp[jU]at hk;subst hk;exact hl
 | k::s,l,hs,hl,hf=>by
  unfold aC2 at hf
  rw[List.map_cons]
  by_cases c:dH k l
  · rw[if_pos c]at hf
    obtain⟨g1,g2,g3⟩:=aQe s l (fun x hx=>hs x (by simp[hx])) hl hf
    rw[aM1 ((aDu k l).2 c),g1,tM c]
    refine⟨rfl,fun x hx=>?_,g3⟩
    rcases List.mem_cons.1 hx with rfl | hx
    · exact hs _ (by simp)
    · exact g2 x hx
  · rw[if_neg c]at hf
    rw[aM2 (fun h=>c ((aDu k l).1 h))]
    by_cases d:dH l k
    · rw[wY c d,if_pos ((aDu l k).2 d)]
      refine⟨by rw[aCO];rfl,fun x hx=>?_,aDM⟩
      rcases List.mem_cons.1 hx with rfl | hx
      · exact hl
      · exact hs x hx
    · rw[if_neg d]at hf
      rw[wX c d,if_neg (fun h=>d ((aDu l k).1 h))]
      obtain⟨g1,g2,g3,g4,g5⟩:=aPz (hs k (by simp)) hl hf.1 hf.2
      rw[if_pos g1,g2,g3]
      refine⟨rfl,fun x hx=>?_,g5⟩
      rcases List.mem_cons.1 hx with rfl | hx
      · exact g4
      · exact hs x (by simp[hx])
def bH:List QL->List QL->Q->List QL×Q
 | [],s,e=>(s,e)
 | x::r,s,e=>bH r (jU s x).1 (e+(jU s x).2)
def aA1:List QL->List QL->Q->Prop
 | [],_,_=>True
 | x::r,s,e=>aC2 s x/\cC (e+(jU s x).2)/\aA1 r (jU s x).1 (e+(jU s x).2)
theorem aOk:∀ (l s:List QL) (e:Q),(∀ k∈l,k.fit)->(∀ k∈s,k.fit)->cC e->aA1 l s e->uU (l.map QL.toL) (s.map QL.toL) (ofQ e)=some ((bH l s e).1.map QL.toL,ofQ (bH l s e).2)/\(∀ k∈(bH l s e).1,k.fit)/\cC (bH l s e).2
 | [],s,e,_,hs,he,_=>⟨rfl,hs,he⟩
 | x::r,s,e,hl,hs,he,hf=>by
  obtain⟨f1,f2,f3⟩:=hf
  obtain⟨g1,g2,g3⟩:=aQe s x hs (hl x (by simp)) f1
  rw[List.map_cons,uU,g1]
  simp only[]
  rw[aHg he g3 f2,if_pos (uA f2)]
  exact aOk r _ _ (fun y hy=>hl y (by simp[hy])) g2 f2 f3
end Go.Ev
/- What joining keeps: sums, energies, order, scale. -/
namespace Go.Ev
set_option linter.all false
def sm (f:QL->Q):List QL->Q
 | []=>0
 | x::l=>f x+sm f l
theorem sY (f:QL->Q):∀ a b:List QL,sm f (a++b)=sm f a+sm f b
 | [],b=>by simp only[List.nil_append,sm];grind
 | x::a,b=>by rw[List.cons_append,sm,sm,sY f a b,_root_.Rat.add_assoc]
theorem pJ {f:QL->Q}:∀ {l:List QL},(∀ x∈l,0<=f x)->0<=sm f l
 | [],_=>by simp[sm]
 | x::l,h=>by
  have h1:=h x (by simp)
  have h2:=pJ (f:=f) (l:=l) (fun y hy=>h y (by simp[hy]))
  rw[sm];grind
theorem aIf {f:QL->Q}:∀ {l:List QL},(∀ x∈l,0<=f x)->∀ x∈l,f x<=sm f l
 | y::l,h,x,hx=>by
  have h1:=h y (by simp)
  have h2:=pJ (f:=f) (l:=l) (fun y hy=>h y (by simp[hy]))
  rw[sm]
  rcases List.mem_cons.1 hx with rfl | hx
  · grind
  · have:=aIf (f:=f) (l:=l) (fun y hy=>h y (by simp[hy])) x hx
    grind
theorem aNn {f g:QL->Q}:∀ {l:List QL},(∀ x∈l,f x<=g x)->sm f l<=sm g l
 | [],_=>by simp[sm]
 | x::l,h=>by
  have h1:=h x (by simp)
  have h2:=aNn (f:=f) (g:=g) (l:=l) (fun y hy=>h y (by simp[hy]))
  rw[sm,sm];grind
theorem aKw (c:Q)(f:QL->Q):∀ l:List QL,sm (fun x=>c*f x) l=c*sm f l
 | []=>by simp[sm]
 | x::l=>by rw[sm,sm,aKw c f l];grind
def enQ (l:QL):Q:=l.w*sqQ l.x l.y
def wt (l:QL):Q:=l.w
def mx (l:QL):Q:=l.w*l.x
def my (l:QL):Q:=l.w*l.y
theorem aQB {k l:QL}(hk:0<k.w)(hl:0<l.w):enQ (mrg k l)+aFX k l=enQ k+enQ l:=by
 have:k.w+l.w≠0:=by grind
 unfold enQ mrg aFX sqQ
 simp only[]
 grind
theorem aQy (k l:QL):wt (mrg k l)=wt k+wt l:=rfl
theorem aQA {k l:QL}(hk:0<k.w)(hl:0<l.w):mx (mrg k l)=mx k+mx l:=by
 have:k.w+l.w≠0:=by grind
 unfold mx mrg
 simp only[]
 grind
theorem aQz {k l:QL}(hk:0<k.w)(hl:0<l.w):my (mrg k l)=my k+my l:=by
 have:k.w+l.w≠0:=by grind
 unfold my mrg
 simp only[]
 grind
theorem aLI {k l:QL}(hk:0<k.w)(hl:0<l.w):0<(mrg k l).w:=by
 show 0<k.w+l.w;grind
theorem zG {k l:QL}(c:¬dH k l)(d:¬dH l k):k.a=l.a/\k.b=l.b:=by unfold dH at c d;omega
theorem aDH {P:QL->Prop}(hP:∀ k l,k.a=l.a->k.b=l.b->P k->P l->P (mrg k l)):∀ (s:List QL) (l:QL),(∀ x∈s,P x)->P l->∀ x∈(jU s l).1,P x
 | [],l,_,hl,x,hx=>by simp[jU]at hx;subst hx;exact hl
 | k::s,l,hs,hl,x,hx=>by
  by_cases c:dH k l
  · rw[tM c]at hx
    rcases List.mem_cons.1 hx with rfl | hx
    · exact hs _ (by simp)
    · exact aDH hP s l (fun y hy=>hs y (by simp[hy])) hl x hx
  · by_cases d:dH l k
    · rw[wY c d]at hx
      rcases List.mem_cons.1 hx with rfl | hx
      · exact hl
      · exact hs x hx
    · rw[wX c d]at hx
      rcases List.mem_cons.1 hx with rfl | hx
      · exact hP _ _ (zG c d).1 (zG c d).2 (hs k (by simp)) hl
      · exact hs x (by simp[hx])
theorem aL6 {f:QL->Q}(hf:∀ k l,k.a=l.a->k.b=l.b->0<k.w->0<l.w->f (mrg k l)=f k+f l):∀ (s:List QL) (l:QL),(∀ x∈s,0<x.w)->0<l.w->sm f (jU s l).1=sm f s+f l
 | [],l,_,hl=>by simp only[jU,sm];grind
 | k::s,l,hs,hl=>by
  by_cases c:dH k l
  · rw[tM c,sm,sm,aL6 hf s l (fun y hy=>hs y (by simp[hy])) hl];grind
  · by_cases d:dH l k
    · rw[wY c d,sm];grind
    · rw[wX c d,sm,sm,hf _ _ (zG c d).1 (zG c d).2 (hs k (by simp)) hl];grind
theorem aL7:∀ (s:List QL) (l:QL),(∀ x∈s,0<x.w)->0<l.w->sm enQ (jU s l).1+(jU s l).2=sm enQ s+enQ l
 | [],l,_,hl=>by simp only[jU,sm];grind
 | k::s,l,hs,hl=>by
  by_cases c:dH k l
  · have:=aL7 s l (fun y hy=>hs y (by simp[hy])) hl
    rw[tM c,sm,sm];simp only[];grind
  · by_cases d:dH l k
    · rw[wY c d,sm];grind
    · have:=aQB (hs k (by simp)) hl
      rw[wX c d,sm,sm];simp only[];grind
theorem aJG {a b c:QL}(h:dH a b)(g:dH b c):dH a c:=by unfold dH at *;omega
theorem aKg:∀ (s:List QL) (l:QL),s.Pairwise dH->(jU s l).1.Pairwise dH
 | [],l,_=>by simp[jU]
 | k::s,l,h=>by
  rw[List.pairwise_cons]at h
  by_cases c:dH k l
  · rw[tM c]
    simp only[]
    rw[List.pairwise_cons]
    refine⟨aDH (P:=fun x=>dH k x) (fun a b e1 e2 g1 g2=>?_) s l h.1 c,aKg s l h.2⟩
    exact g1
  · by_cases d:dH l k
    · rw[wY c d]
      simp only[]
      rw[List.pairwise_cons]
      refine⟨fun x hx=>?_,List.pairwise_cons.2 h⟩
      rcases List.mem_cons.1 hx with rfl | hx
      · exact d
      · exact aJG d (h.1 x hx)
    · rw[wX c d]
      simp only[]
      rw[List.pairwise_cons]
      exact⟨fun x hx=>h.1 x hx,h.2⟩
def Sc (D:Nat)(l:QL):Prop:=0<l.w/\Dv D l.w/\Dv D (mx l)/\Dv D (my l)
theorem aQR {D:Nat}{k l:QL}(hk:Sc D k)(hl:Sc D l):Sc D (mrg k l):=by
 refine⟨aLI hk.1 hl.1,nH hk.2.1 hl.2.1,?_,?_⟩
 · rw[aQA hk.1 hl.1];exact nH hk.2.2.1 hl.2.2.1
 · rw[aQz hk.1 hl.1];exact nH hk.2.2.2 hl.2.2.2
theorem aQS {D E:Nat}{l:QL}(h:Sc D l)(hd:D∣E):Sc E l:=⟨h.1,xI h.2.1 hd,xI h.2.2.1 hd,xI h.2.2.2 hd⟩
def nm (D:Nat)(w:Q):Nat:=(w*(D:Q)).num.toNat
theorem zL {D:Nat}{w:Q}(hD:0<D)(hw:0<w)(h:Dv D w):(nm D w:Q)=w*(D:Q)/\0<nm D w:=by
 obtain⟨z,hz⟩:=h
 have hD':(0:Q)<(D:Q):=by
  have:((0:Nat):Q)<(D:Q):=_root_.Rat.natCast_lt_natCast.2 hD
  simpa using this
 have hp:0<w*(D:Q):=_root_.Rat.mul_pos hw hD'
 have hzp:0<z:=by
  have:((0:Int):Q)<(z:Q):=by rw[<- hz];exact hp
  exact _root_.Rat.intCast_lt_intCast.1 this
 unfold nm
 rw[hz]
 have e:((z:Q)).num=z:=rfl
 rw[e]
 refine⟨?_,by omega⟩
 have e2:((z.toNat:Int):Q)=(z:Q):=by rw[Int.toNat_of_nonneg (by omega)]
 exact e2
theorem aDi {D W:Nat}{w:Q}(hD:0<D)(hw:0<w)(h:Dv D w)(hW:w<=(W:Q)):nm D w<=W*D:=by
 have hD':(0:Q)<=(D:Q):=by
  have:((0:Nat):Q)<=(D:Q):=_root_.Rat.natCast_le_natCast.2 (Nat.zero_le _)
  simpa using this
 have h1:=(zL hD hw h).1
 have h2:w*(D:Q)<=(W:Q)*(D:Q):=_root_.Rat.mul_le_mul_of_nonneg_right hW hD'
 rw[<- h1,<- _root_.Rat.natCast_mul]at h2
 exact _root_.Rat.natCast_le_natCast.1 h2
theorem aDL {D:Nat}{w a:Q}(hD:0<D)(hw:0<w)(h:Dv D w)(ha:Dv D a):Dv (nm D w) (a / w):=by
 obtain⟨z,hz⟩:=ha
 refine⟨z,?_⟩
 rw[(zL hD hw h).1,<- hz]
 have:w≠0:=by grind
 grind
theorem aRi {l:QL}(h:0<l.w):l.x=mx l / l.w/\l.y=my l / l.w:=by
 have:l.w≠0:=by grind
 unfold mx my
 constructor <;> grind
theorem aIT {D:Nat}{l:QL}(hD:0<D)(h:Sc D l):Dv (nm D l.w) l.x/\Dv (nm D l.w) l.y:=by
 rw[(aRi h.1).1,(aRi h.1).2]
 exact⟨aDL hD h.1 h.2.1 h.2.2.1,aDL hD h.1 h.2.1 h.2.2.2⟩
theorem aKi {D:Nat}{l:QL}(hD:0<D)(h:Sc D l):Dv (D*nm D l.w) (enQ l):=by
 have e:enQ l=mx l*l.x+my l*l.y:=by unfold enQ sqQ mx my;grind
 rw[e]
 exact nH (vT h.2.2.1 (aIT hD h).1) (vT h.2.2.2 (aIT hD h).2)
def pn (D:Nat):List QL->Nat
 | []=>1
 | x::l=>nm D x.w*pn D l
theorem aKE (D:Nat):∀ a b:List QL,pn D (a++b)=pn D a*pn D b
 | [],b=>by simp[pn]
 | x::a,b=>by rw[List.cons_append,pn,pn,aKE D a b,Nat.mul_assoc]
theorem aFH (D:Nat):∀ {l:List QL},∀ x∈l,nm D x.w∣pn D l
 | y::l,x,hx=>by
  rw[pn]
  rcases List.mem_cons.1 hx with rfl | hx
  · exact Nat.dvd_mul_right _ _
  · exact Nat.dvd_trans (aFH D x hx) (Nat.dvd_mul_left _ _)
theorem aCS {D:Nat}(hD:0<D):∀ {l:List QL},(∀ x∈l,Sc D x)->0<pn D l
 | [],_=>by simp[pn]
 | x::l,h=>Nat.mul_pos (zL hD (h x (by simp)).1 (h x (by simp)).2.1).2 (aCS hD (fun y hy=>h y (by simp[hy])))
theorem aFI {D W:Nat}(hD:0<D):∀ {l:List QL},(∀ x∈l,Sc D x)->(∀ x∈l,x.w<=(W:Q))->pn D l<=(W*D) ^ l.length
 | [],_,_=>by simp[pn]
 | x::l,h,g=>by
  rw[pn,List.length_cons,Nat.pow_succ,Nat.mul_comm]
  exact Nat.mul_le_mul (aFI hD (fun y hy=>h y (by simp[hy])) (fun y hy=>g y (by simp[hy]))) (aDi hD (h x (by simp)).1 (h x (by simp)).2.1 (g x (by simp)))
theorem aGY {T:Nat}{f:QL->Q}:∀ {l:List QL},(∀ x∈l,Dv T (f x))->Dv T (sm f l)
 | [],_=>⟨0,by simp[sm]⟩
 | x::l,h=>nH (h x (by simp)) (aGY (fun y hy=>h y (by simp[hy])))
theorem aGN {D:Nat}(hD:0<D){l:List QL}(h:∀ x∈l,Sc D x):Dv (D*pn D l) (sm enQ l) :=
 aGY fun x hx=>xI (aKi hD (h x hx)) (Nat.mul_dvd_mul_left D (aFH D x hx))
end Go.Ev
/- Joining computes with few digits only. -/
namespace Go.Ev
set_option linter.all false
def bd (B:Nat)(q:Q):Prop:=-(B:Q)<=q/\q<=(B:Q)
theorem aAU (n:Nat):(0:Q)<=(n:Q):=by
 have:((0:Nat):Q)<=(n:Q):=_root_.Rat.natCast_le_natCast.2 (Nat.zero_le _)
 simpa using this
theorem aDW {m n:Nat}(h:m<=n):(m:Q)<=(n:Q):=_root_.Rat.natCast_le_natCast.2 h
theorem aJ8 {A B:Nat}{p:Q}(h:bd A p)(hl:A<=B):bd B p:=by
 have:=aDW hl
 unfold bd at *;grind
theorem aD6 {A B:Nat}{p q:Q}(hp:bd A p)(hq:bd B q):bd (A+B) (p+q):=by
 unfold bd at *;rw[_root_.Rat.natCast_add];grind
theorem aIO {A B:Nat}{p q:Q}(hp:bd A p)(hq:bd B q):bd (A+B) (p-q):=by
 unfold bd at *;rw[_root_.Rat.natCast_add];grind
theorem aOO {A:Nat}{p:Q}(hp:bd A p):bd A (-p):=by
 unfold bd at *;grind
theorem tB {A B:Nat}{p q:Q}(hp:bd A p)(hq:bd B q):bd (A*B) (p*q):=by
 unfold bd at *
 rw[_root_.Rat.natCast_mul]
 have a1:0<=((A:Q)-p)*((B:Q)+q):=_root_.Rat.mul_nonneg (by grind) (by grind)
 have a2:0<=((A:Q)+p)*((B:Q)-q):=_root_.Rat.mul_nonneg (by grind) (by grind)
 have a3:0<=((A:Q)+p)*((B:Q)+q):=_root_.Rat.mul_nonneg (by grind) (by grind)
 have a4:0<=((A:Q)-p)*((B:Q)-q):=_root_.Rat.mul_nonneg (by grind) (by grind)
 constructor <;> grind
theorem aGw {A:Nat}{p w:Q}(hw:0<w)(h1:-(A:Q)*w<=p)(h2:p<=(A:Q)*w):bd A (p / w):=by
 have e:p / w*w=p:=_root_.Rat.div_mul_cancel (by grind)
 constructor
 · exact _root_.Rat.le_of_mul_le_mul_right (by rw[e];exact h1) hw
 · exact _root_.Rat.le_of_mul_le_mul_right (by rw[e];exact h2) hw
theorem aFb {A:Nat}{w x:Q}(hw:0<w)(h:bd A x):-(A:Q)*w<=w*x/\w*x<=(A:Q)*w:=by
 have h1:0<=w*(x+A):=_root_.Rat.mul_nonneg (by grind) (by unfold bd at h;grind)
 have h2:0<=w*(A-x):=_root_.Rat.mul_nonneg (by grind) (by unfold bd at h;grind)
 constructor <;> grind
theorem aIP {A:Nat}{w v x y:Q}(hw:0<w)(hv:0<v)(hx:bd A x)(hy:bd A y):bd A ((w*x+v*y) / (w+v)):=by
 obtain⟨a1,a2⟩:=aFb hw hx
 obtain⟨b1,b2⟩:=aFb hv hy
 exact aGw (by grind) (by grind) (by grind)
def PP:Nat:=72 ^ 16
theorem aQZ:0<PP:=by decide
theorem tZ {a b T U:Nat}(h:T<=PP ^ a)(g:U<=PP ^ b):T*U<=PP ^ (a+b):=by
 rw[Nat.pow_add];exact Nat.mul_le_mul h g
theorem jW {a b T:Nat}(h:T<=PP ^ a)(g:a<=b):T<=PP ^ b:=Nat.le_trans h (Nat.pow_le_pow_right aQZ g)
theorem gT {T B:Nat}{q:Q}(hT:0<T)(h:Dv T q)(h1:bd B q)(hB:0<B)(b:B<=10 ^ 12)(t:T<=PP ^ 6):cC q:=by
 refine aIL hT h h1.1 h1.2 hB (Nat.lt_of_le_of_lt (Nat.mul_le_mul b t) ?_)
 rw[aPb];unfold PP;decide
theorem aMe {W:Nat}{w:Q}(h:0<w)(h2:w<=(W:Q)):bd W w:=⟨by have:=aAU W;grind,h2⟩
structure Lk (D X:Nat)(l:QL):Prop where
 sc:Sc D l
 bx:bd X l.x
 by':bd X l.y
theorem aQ1 {D X:Nat}{k l:QL}(hk:Lk D X k)(hl:Lk D X l):Lk D X (mrg k l) :=
 ⟨aQR hk.sc hl.sc,aIP hk.sc.1 hl.sc.1 hk.bx hl.bx,aIP hk.sc.1 hl.sc.1 hk.by' hl.by'⟩
theorem aGd {D X:Nat}{l:QL}(hD:0<D)(hP:72*D<=PP)(h:Lk D X l)(hX:X<=1000)(h0:0<X)(hw:l.w<=72):l.fit:=by
 have hn:=aDi hD h.sc.1 h.sc.2.1 (W:=72) hw
 have np:=(zL hD h.sc.1 h.sc.2.1).2
 obtain⟨x1,x2⟩:=aIT hD h.sc
 have e1:D<=PP ^ 6:=jW (a:=1) (by rw[Nat.pow_one];omega) (by omega)
 have e2:nm D l.w<=PP ^ 6:=jW (a:=1) (by rw[Nat.pow_one];omega) (by omega)
 exact⟨gT hD h.sc.2.1 (aMe (W:=72) h.sc.1 hw) (by omega) (by omega) e1,gT np x1 h.bx h0 (by omega) e2,gT np x2 h.by' h0 (by omega) e2⟩
theorem aMz {D X:Nat}{k l:QL}(hD:0<D)(hP:72*D<=PP)(hX:X<=1000)(h0:0<X)(hk:Lk D X k)(hl:Lk D X l)(hw:k.w+l.w<=72):aIA k l:=by
 have pk:=hk.sc.1
 have pl:=hl.sc.1
 have kw:k.w<=((72:Nat):Q):=by show k.w<=72;grind
 have lw:l.w<=((72:Nat):Q):=by show l.w<=72;grind
 have sw:k.w+l.w<=((72:Nat):Q):=hw
 have dk:=hk.sc.2.1
 have dl:=hl.sc.2.1
 have ds:=nH dk dl
 have ps:0<k.w+l.w:=by grind
 have nk:=aDi hD pk dk kw
 have nl:=aDi hD pl dl lw
 have ns:=aDi hD ps ds sw
 have qk:=(zL hD pk dk).2
 have ql:=(zL hD pl dl).2
 obtain⟨qe,qs⟩:=zL hD ps ds
 obtain⟨xk,yk⟩:=aIT hD hk.sc
 obtain⟨xl,yl⟩:=aIT hD hl.sc
 have eD:D<=PP ^ 1:=by rw[Nat.pow_one];omega
 have eK:nm D k.w<=PP ^ 1:=by rw[Nat.pow_one];omega
 have eL:nm D l.w<=PP ^ 1:=by rw[Nat.pow_one];omega
 have eS:nm D (k.w+l.w)<=PP ^ 1:=by rw[Nat.pow_one];omega
 have bk:=aMe pk kw
 have bl':=aMe pl lw
 have bs:=aMe ps sw
 have X2:X*X<=1000000:=Nat.mul_le_mul hX hX
 have X3:0<X*X:=Nat.mul_pos h0 h0
 have cw:Dv (D*nm D (k.w+l.w)) (k.w*l.w / (k.w+l.w)):=by
  obtain⟨z,hz⟩:=vT dk dl
  refine⟨z,?_⟩
  rw[<- hz,_root_.Rat.natCast_mul,_root_.Rat.natCast_mul,qe]
  have:k.w+l.w≠0:=by grind
  grind
 have cb:bd 72 (k.w*l.w / (k.w+l.w)):=by
  have e:=aFb pk bl'
  have p2:0<k.w*k.w:=_root_.Rat.mul_pos pk pk
  have p3:0<k.w*l.w:=_root_.Rat.mul_pos pk pl
  exact aGw ps (by have:=aAU 72;have:=_root_.Rat.mul_nonneg this (Std.le_of_lt ps);grind) (by have:=_root_.Rat.mul_nonneg (aAU 72) (Std.le_of_lt pl);grind)
 have dx:=uQ (rR (nm D l.w) xk) (by rw[Nat.mul_comm];exact rR (nm D k.w) xl)
 have dy:=uQ (rR (nm D l.w) yk) (by rw[Nat.mul_comm];exact rR (nm D k.w) yl)
 have bx:=aIO hk.bx hl.bx
 have by_:=aIO hk.by' hl.by'
 have qn:0<nm D k.w*nm D l.w:=Nat.mul_pos qk ql
 have en2:nm D k.w*nm D l.w<=PP ^ 2:=tZ eK eL
 have dxx:=vT dx dx
 have dyy:=vT dy dy
 have qnn:=Nat.mul_pos qn qn
 have en4:(nm D k.w*nm D l.w)*(nm D k.w*nm D l.w)<=PP ^ 4:=tZ en2 en2
 have bxx:=tB bx bx
 have byy:=tB by_ by_
 have e4:(X+X)*(X+X)=4*(X*X):=by rw[<- Nat.two_mul,Nat.mul_mul_mul_comm]
 rw[e4]at bxx byy
 have bsq:=aD6 bxx byy
 have dsq:=nH dxx dyy
 refine⟨⟨?_,?_,?_,?_,?_⟩,⟨?_,?_,?_,?_⟩,⟨?_,?_,?_,?_⟩,?_,?_,?_,?_⟩
 · exact gT hD ds bs (by omega) (by omega) (jW eD (by omega))
 · exact gT hD hk.sc.2.2.1 (tB bk hk.bx) (by omega) (by omega) (jW eD (by omega))
 · exact gT hD hl.sc.2.2.1 (tB bl' hl.bx) (by omega) (by omega) (jW eD (by omega))
 · exact gT hD (nH hk.sc.2.2.1 hl.sc.2.2.1) (aD6 (tB bk hk.bx) (tB bl' hl.bx)) (by omega) (by omega) (jW eD (by omega))
 · exact gT qs (aDL hD ps ds (nH hk.sc.2.2.1 hl.sc.2.2.1)) (aIP pk pl hk.bx hl.bx) h0 (by omega) (jW eS (by omega))
 · exact gT hD hk.sc.2.2.2 (tB bk hk.by') (by omega) (by omega) (jW eD (by omega))
 · exact gT hD hl.sc.2.2.2 (tB bl' hl.by') (by omega) (by omega) (jW eD (by omega))
 · exact gT hD (nH hk.sc.2.2.2 hl.sc.2.2.2) (aD6 (tB bk hk.by') (tB bl' hl.by')) (by omega) (by omega) (jW eD (by omega))
 · exact gT qs (aDL hD ps ds (nH hk.sc.2.2.2 hl.sc.2.2.2)) (aIP pk pl hk.by' hl.by') h0 (by omega) (jW eS (by omega))
 · exact gT (Nat.mul_pos hD hD) (vT dk dl) (tB bk bl') (by omega) (by omega) (jW (tZ eD eD) (by omega))
 · exact gT (Nat.mul_pos hD qs) cw cb (by omega) (by omega) (jW (tZ eD eS) (by omega))
 · exact gT qn dx bx (by omega) (by omega) (jW en2 (by omega))
 · exact gT qn dy by_ (by omega) (by omega) (jW en2 (by omega))
 · exact gT qnn dxx bxx (by omega) (by omega) (jW en4 (by omega))
 · exact gT qnn dyy byy (by omega) (by omega) (jW en4 (by omega))
 · exact gT qnn dsq bsq (by omega) (by omega) (jW en4 (by omega))
 · exact gT (Nat.mul_pos (Nat.mul_pos hD qs) qnn) (vT cw dsq) (tB cb bsq) (by omega) (by omega) (tZ (tZ eD eS) en4)
end Go.Ev
/- Joining succeeds where scale and energies are small. -/
namespace Go.Ev
set_option linter.all false
def inV (V:List Int)(x:QL):Prop:=x.a∈V/\x.b∈V/\x.a<x.b
theorem aKI {s:List QL}(h:s.Pairwise dH):(s.map fun x=>(x.a,x.b)).Nodup:=by
 rw[List.Nodup,List.pairwise_map]
 refine h.imp fun {a b} hab e=>?_
 injection e with e1 e2
 unfold dH at hab;omega
theorem aJr {s:List QL}(h:s.Pairwise dH):(s.map fun x=>(x.b,x.a)).Nodup:=by
 rw[List.Nodup,List.pairwise_map]
 refine h.imp fun {a b} hab e=>?_
 injection e with e1 e2
 unfold dH at hab;omega
theorem aJm (V:List Int):∀ U:List Int,(U.flatMap fun u=>V.map fun v=>(u,v)).length=U.length*V.length
 | []=>by simp
 | u::U=>by rw[List.flatMap_cons,List.length_append,aJm V U,List.length_map,List.length_cons,Nat.succ_mul,Nat.add_comm]
theorem aFZ {U V:List Int}{u v:Int}(hu:u∈U)(hv:v∈V):(u,v)∈U.flatMap fun u=>V.map fun v=>(u,v) :=
 List.mem_flatMap.2 ⟨u,hu,List.mem_map.2 ⟨v,hv,rfl⟩⟩
theorem aC7 {V:List Int}(hV:V.Nodup){s:List QL}(ho:s.Pairwise dH)(h:∀ x∈s,inV V x):2*s.length+V.length<=V.length*V.length:=by
 have n1:((s.map fun x=>(x.a,x.b))++((s.map fun x=>(x.b,x.a))++V.map fun v=>(v,v))).Nodup:=by
  rw[List.nodup_append,List.nodup_append]
  refine⟨aKI ho,⟨aJr ho,?_,?_⟩,?_⟩
  · rw[List.Nodup,List.pairwise_map]
    exact hV.imp fun {a b} hab e=>by injection e with e1 e2;exact hab e1
  · intro p hp q hq e
    obtain⟨x,hx,rfl⟩:=List.mem_map.1 hp
    obtain⟨v,hv,rfl⟩:=List.mem_map.1 hq
    injection e with e1 e2
    have:=(h x hx).2.2;omega
  · intro p hp q hq e
    obtain⟨x,hx,rfl⟩:=List.mem_map.1 hp
    have:=(h x hx).2.2
    rcases List.mem_append.1 hq with hq | hq
    · obtain⟨y,hy,rfl⟩:=List.mem_map.1 hq
      injection e with e1 e2
      have:=(h y hy).2.2;omega
    · obtain⟨v,hv,rfl⟩:=List.mem_map.1 hq
      injection e with e1 e2;omega
 have:=n1.length_le_of_subset (l₂:=V.flatMap fun u=>V.map fun v=>(u,v)) (fun p hp=>by
  rcases List.mem_append.1 hp with hp | hp
  · obtain⟨x,hx,rfl⟩:=List.mem_map.1 hp
    exact aFZ (h x hx).1 (h x hx).2.1
  · rcases List.mem_append.1 hp with hp | hp
    · obtain⟨x,hx,rfl⟩:=List.mem_map.1 hp
      exact aFZ (h x hx).2.1 (h x hx).1
    · obtain⟨v,hv,rfl⟩:=List.mem_map.1 hp
      exact aFZ hv hv)
 rw[aJm]at this
 simp only[List.length_append,List.length_map]at this
 omega
theorem aH2:∀ (s:List QL) (l:QL),(∀ k∈s,k.w+l.w≠0/\aIA k l)->aC2 s l
 | [],_,_=>trivial
 | k::s,l,h=>by
  unfold aC2
  split
  · exact aH2 s l (fun y hy=>h y (by simp[hy]))
  · split
    · trivial
    · exact h k (by simp)
theorem aCk {l:QL}(h:0<l.w):0<=enQ l:=by
 unfold enQ sqQ
 have h0:∀ z:Q,0<=z*z:=fun z=>by
  rcases _root_.Rat.le_total (a:=0) (b:=z)with c | c
  · exact _root_.Rat.mul_nonneg c c
  · have:=_root_.Rat.mul_nonneg (a:=-z) (b:=-z) (by grind) (by grind);grind
 exact _root_.Rat.mul_nonneg (by grind) (by have:=h0 l.x;have:=h0 l.y;grind)
theorem aQa {D X:Nat}{l:QL}(h:Lk D X l):enQ l<=((2*(X*X):Nat):Q)*l.w:=by
 have h1:=tB h.bx h.bx
 have h2:=tB h.by' h.by'
 have h3:=aD6 h1 h2
 have e:X*X+X*X=2*(X*X):=by omega
 rw[e]at h3
 have:=(aFb h.sc.1 h3).2
 unfold enQ sqQ;exact this
theorem aNo {D X:Nat}{l:List QL}(h:∀ x∈l,Lk D X x):sm enQ l<=((2*(X*X):Nat):Q)*sm wt l:=by
 rw[<- aKw]
 exact aNn fun x hx=>aQa (h x hx)
theorem uN {D X:Nat}{l:List QL}(h:∀ x∈l,Lk D X x)(hX:X<=800)(hw:sm wt l<=72):0<=sm enQ l/\sm enQ l<=((10 ^ 8:Nat):Q):=by
 refine⟨pJ fun x hx=>aCk (h x hx).sc.1,?_⟩
 have h1:=aNo h
 have h2:X*X<=800*800:=Nat.mul_le_mul hX hX
 have h3:((2*(X*X):Nat):Q)*sm wt l<=((2*(X*X):Nat):Q)*72:=_root_.Rat.mul_le_mul_of_nonneg_left hw (aAU _)
 have h4:((2*(X*X)*72:Nat):Q)<=((10 ^ 8:Nat):Q):=aDW (by omega)
 rw[_root_.Rat.natCast_mul]at h4
 have h5:((72:Nat):Q)=72:=rfl
 rw[h5]at h4
 grind
theorem iZ {D X:Nat}{l:List QL}(h:∀ x∈l,Lk D X x):0<=sm wt l:=pJ fun x hx=>by have:=(h x hx).sc.1;unfold wt;grind
theorem xC {D X:Nat}{l:List QL}(h:∀ x∈l,Lk D X x){x:QL}(hx:x∈l):x.w<=sm wt l:=aIf (f:=wt) (fun y hy=>by have:=(h y hy).sc.1;unfold wt;grind) x hx
structure Jn (D T X γ:Nat)(V:List Int):Prop where
 hD:0<D
 hP:72*D<=PP
 hX:X<=800
 h0:0<X
 hT:0<T
 hV:V.Nodup
 hg:V.length*V.length<=2*γ+V.length
 hB:10 ^ 8*(T*(D*(72*D) ^ γ))<BB ^ 24
theorem aMj {D T X γ:Nat}{V:List Int}(j:Jn D T X γ V){s:List QL}(hs:∀ x∈s,Lk D X x/\inV V x)(ho:s.Pairwise dH)(hw:sm wt s<=72):0<D*pn D s/\D*pn D s<=D*(72*D) ^ γ/\Dv (D*pn D s) (sm enQ s):=by
 have hl:=aC7 j.hV ho (fun x hx=>(hs x hx).2)
 have hg:=j.hg
 have h1:=aFI (W:=72) j.hD (fun x hx=>(hs x hx).1.sc) (fun x hx=>by
  have:=xC (fun y hy=>(hs y hy).1) hx
  show x.w<=72;grind)
 have hD:=j.hD
 refine⟨Nat.mul_pos j.hD (aCS j.hD (fun x hx=>(hs x hx).1.sc)),Nat.mul_le_mul_left D (Nat.le_trans h1 (Nat.pow_le_pow_right (by omega) (by omega))),aGN j.hD (fun x hx=>(hs x hx).1.sc)⟩
theorem aMS {D T X γ:Nat}{V:List Int}(j:Jn D T X γ V){s:List QL}(hs:∀ x∈s,Lk D X x/\inV V x)(ho:s.Pairwise dH)(hw:sm wt s<=72){q:Q}(hq:Dv T q)(h0:0<=q)(h1:q<=((10 ^ 8:Nat):Q)):cC (q-sm enQ s):=by
 obtain⟨a1,a2,a3⟩:=aMj j hs ho hw
 obtain⟨b1,b2⟩:=uN (fun x hx=>(hs x hx).1) j.hX hw
 have d:=uQ (rR (D*pn D s) hq) (by rw[Nat.mul_comm];exact rR T a3)
 refine aIL (B:=10 ^ 8) (Nat.mul_pos j.hT a1) d ?_ ?_ (by omega) (Nat.lt_of_le_of_lt (Nat.mul_le_mul_left _ (Nat.mul_le_mul_left T a2)) j.hB)
 · grind
 · grind
theorem aDy {D T X γ:Nat}{V:List Int}(j:Jn D T X γ V):∀ (l s:List QL) (q:Q),(∀ x∈l,Lk D X x/\inV V x/\Dv T (enQ x))->(∀ x∈s,Lk D X x/\inV V x)->s.Pairwise dH->sm wt s+sm wt l<=72->Dv T q->0<=q->q+sm enQ l<=((10 ^ 8:Nat):Q)->
 aA1 l s (q-sm enQ s)/\(∀ x∈(bH l s (q-sm enQ s)).1,Lk D X x/\inV V x)/\(bH l s (q-sm enQ s)).1.Pairwise dH/\(bH l s (q-sm enQ s)).2=q+sm enQ l-sm enQ (bH l s (q-sm enQ s)).1/\sm wt (bH l s (q-sm enQ s)).1=sm wt s+sm wt l
 | [],s,q,_,hs,ho,_,_,_,_=>by
  refine⟨trivial,hs,ho,?_,?_⟩
  · simp only[bH,sm];grind
  · simp only[bH,sm];grind
 | x::r,s,q,hl,hs,ho,hw,hq,h0,hb=>by
  obtain⟨x1,x2,x3⟩:=hl x (by simp)
  have hr:∀ y∈r,Lk D X y/\inV V y/\Dv T (enQ y):=fun y hy=>hl y (by simp[hy])
  rw[sm]at hw hb
  have wr:=iZ (fun y hy=>(hr y hy).1)
  have ws:=iZ (fun y hy=>(hs y hy).1)
  have wx:(0:Q)<wt x:=x1.sc.1
  have hp:∀ y∈s,0<y.w:=fun y hy=>(hs y hy).1.sc.1
  have e1:=aL7 s x hp x1.sc.1
  have e2:=aL6 (f:=wt) (fun k l _ _ _ _=>aQy k l) s x hp x1.sc.1
  have n1:=aDH (P:=fun y=>Lk D X y/\inV V y) (fun a b _ _ g1 g2=>⟨aQ1 g1.1 g2.1,g1.2⟩) s x hs ⟨x1,x2⟩
  have n2:=aKg s x ho
  have e3:q-sm enQ s+(jU s x).2=(q+enQ x)-sm enQ (jU s x).1:=by grind
  have er:=pJ (f:=enQ) (fun y hy=>aCk (hr y hy).1.sc.1)
  have ex:=aCk x1.sc.1
  have hq':=nH hq x3
  obtain⟨g1,g2,g3,g4,g5⟩:=aDy j r (jU s x).1 (q+enQ x) hr n1 n2 (by rw[e2];grind) hq' (by grind) (by grind)
  have ft:cC ((q+enQ x)-sm enQ (jU s x).1):=aMS j n1 n2 (by rw[e2];grind) hq' (by grind) (by grind)
  have af:aC2 s x:=aH2 s x fun k hk=>by
   have:=hp k hk
   have:=xC (fun y hy=>(hs y hy).1) hk
   unfold wt at wx
   refine⟨by grind,aMz j.hD j.hP (by have:=j.hX;omega) j.h0 (hs k hk).1 x1 (by
    have e:wt x=x.w:=rfl
    grind)⟩
  rw[bH,aA1,e3]
  refine⟨⟨af,ft,g1⟩,g2,g3,?_,?_⟩
  · rw[g4,sm];grind
  · rw[g5,e2,sm];grind
end Go.Ev
/- Comparison of links, conditionals, tree nodes; nodes that have changed. -/
namespace Go.Ev
set_option linter.all false
theorem aCR (a b:List Int)(h:a.length<=4294967296):pL a b=some (decide (a=b)):=by
 unfold pL
 by_cases hl:a.length=b.length
 · rw[if_neg (by omega),aID a b hl (fun k ha hb=>by
    unfold rJ
    rw[if_pos (by omega),aK ha,aK hb,wi (by omega)]
    simp only[Option.bind_some]
    by_cases c:a[k]=b[k]
    · rw[if_neg (by simp[c]),if_pos c]
    · rw[if_pos c,if_neg c]) (by unfold rJ;rw[if_neg (by omega)])]
   by_cases c:a=b <;> simp[c]
 · rw[if_pos (by omega)]
   have:a≠b:=by rintro rfl;exact hl rfl
   simp[this]
theorem cZ (r s:Rat)(h:bG r<=4294967296):cH r s=some (decide (r=s)):=by
 obtain⟨⟨a,m⟩,d⟩:=r
 obtain⟨⟨a',m'⟩,d'⟩:=s
 unfold bG uY tN at h
 rw[tO,tO]at h
 simp only at h
 unfold cH
 simp only[]
 rw[aCR m m' (by omega),aCR d d' (by omega)]
 by_cases c1:a=a' <;> by_cases c2:m=m' <;> by_cases c3:d=d' <;> simp[c1,c2,c3]
theorem aEx (r s:Rat)(h:bG r<=4294967296):lW r s=some (decide (r=s)):=cZ r s h
theorem aFp (r s:Link)(h:bL r<=4294967296):pK r s=some (decide (r=s)):=by
 obtain⟨a,b,w,x,y⟩:=r
 obtain⟨a',b',w',x',y'⟩:=s
 unfold bL at h
 simp only at h
 unfold pK
 simp only[]
 rw[cZ w w' (by omega),cZ x x' (by omega),cZ y y' (by omega)]
 by_cases c1:a=a' <;> by_cases c2:b=b' <;> by_cases c3:w=w' <;> by_cases c4:x=x' <;> by_cases c5:y=y' <;> simp[c1,c2,c3,c4,c5]
theorem aAz (a b:List Link)(h:aG a<=4294967296):nC a b=some (decide (a=b)):=by
 have hal:=eT bL a
 unfold aG at h
 unfold nC
 by_cases hl:a.length=b.length
 · rw[if_neg (by omega),aID a b hl (fun k ha hb=>by
    have he:=mG (w:=bL) (List.getElem_mem ha)
    unfold pR
    rw[if_pos (by omega),aK ha,aK hb,wi (by omega)]
    simp only[Option.bind_some]
    rw[aFp _ _ (by omega)]
    simp only[Option.bind_some]
    by_cases c:a[k]=b[k]
    · rw[if_pos (by simp[c]),if_pos c]
    · rw[if_neg (by simp[c]),if_neg c]) (by unfold pR;rw[if_neg (by omega)])]
   by_cases c:a=b <;> simp[c]
 · rw[if_pos (by omega)]
   have:a≠b:=by rintro rfl;exact hl rfl
   simp[this]
theorem aA3 (a b:Conditional)(h:aT a<=4294967296):iX a b=some (decide (a=b)):=by
 obtain⟨n,t,l⟩:=a
 obtain⟨n',t',l'⟩:=b
 have hal:=eT jJ l
 unfold aT nJ at h
 simp only at h
 unfold iX
 simp only[]
 rw[cZ t t' (by omega)]
 by_cases c1:n=n'
 · by_cases c2:t=t'
   · by_cases hl:l.length=l'.length
     · have e:lp (gD ⟨n,t,l⟩ ⟨n',t',l'⟩) 0=some (if l=l' then .inl ()else .inr false):=aID l l' hl (fun k ha hb=>by
        have he:=mG (w:=jJ) (List.getElem_mem ha)
        unfold gD
        simp only[]
        rw[if_pos (by omega),aK ha,aK hb,wi (by omega)]
        simp only[Option.bind_some]
        generalize l[k]=r at *
        generalize l'[k]=s at *
        obtain⟨a1,w,x,y⟩:=r
        obtain⟨a2,w',x',y'⟩:=s
        have hn:jJ ⟨a1,w,x,y⟩=bG w+bG x+bG y:=rfl
        simp only[]
        rw[cZ w w' (by omega),cZ x x' (by omega),cZ y y' (by omega)]
        by_cases c1:a1=a2 <;> by_cases c3:w=w' <;> by_cases c4:x=x' <;> by_cases c5:y=y' <;> simp[c1,c3,c4,c5]) (by unfold gD;simp only[];rw[if_neg (by omega)])
       rw[e]
       by_cases c:l=l' <;> simp[c1,c2,hl,c]
     · have:l≠l':=by rintro rfl;exact hl rfl
       have h2:(l.length:Int)≠(l'.length:Int):=by omega
       simp[c1,c2,this,h2]
   · simp[c1,c2]
 · simp[c1]
theorem aBv (a b:TreeNode)(h:bK a<=4294967296):jC a b=some (decide (a=b)):=by
 obtain⟨n,u,o,c,m,e⟩:=a
 obtain⟨n',u',o',c',m',e'⟩:=b
 unfold bK at h
 simp only at h
 unfold jC
 simp only[]
 rw[aAz o o' (by omega),aA3 c c' (by omega),aAz m m' (by omega),cZ e e' (by omega)]
 by_cases c1:n=n' <;> by_cases c2:u=u' <;> by_cases c3:o=o' <;> by_cases c4:c=c' <;> by_cases c5:m=m' <;> by_cases c6:e=e' <;> simp[c1,c2,c3,c4,c5,c6]
def atN (t:Tree)(v:Int):Option Nat:=t.fNodes.findIdx? (fun n=>decide (n.fNode=v))
theorem aCi (t:Tree)(v:Int)(h:t.fNodes.length<=4294967296):jR t v=some (match atN t v with | none=>-1 | some k=>(k:Int)):=by
 unfold jR atN
 rw[aOb t.fNodes (fun n=>decide (n.fNode=v)) (fun k hk=>by
  unfold sV
  rw[if_pos (by omega),aK hk,wi (by omega)]
  simp only[Option.bind_some,decide_eq_true_eq]
  by_cases c:(t.fNodes[k]).fNode=v
  · rw[if_pos c,if_pos c]
  · rw[if_neg c,if_neg c]) (by unfold sV;rw[if_neg (by omega)])]
 simp only[Option.bind_some]
 cases t.fNodes.findIdx? (fun n=>decide (n.fNode=v)) <;> rfl
def aJ6 (t:Tree)(n:TreeNode):Bool:=match atN t n.fNode with
 | none=>true
 | some k=>match t.fNodes[k]? with
  | none=>true
  | some m=>!decide (m=n)
def aD5 (t:Tree)(m:List Int)(n:TreeNode):List Int:=if aJ6 t n then m++[n.fNode]else m
theorem aOJ (t:Tree)(m:List Int)(n:TreeNode):(aD5 t m n).length<=m.length+1:=by unfold aD5;split <;> simp
theorem aGm (t u:Tree)(h:fO t<=4294967296)(hu:fO u<=4294967296):lU t u=some (u.fNodes.foldl (aD5 t) [])/\(u.fNodes.foldl (aD5 t) []).length<=u.fNodes.length:=by
 unfold fO iE at h hu
 have hl:=eT bK t.fNodes
 have hul:=eT bK u.fNodes
 unfold lU
 have:=gY (step:=iY t u) u.fNodes (fun k (m:List Int)=>((k:Int),m)) (aD5 t) (fun m=>m) (fun k m=>m.length<=k) (fun k m hk hi=>by
  refine⟨?_,by have:=aOJ t m u.fNodes[k];omega⟩
  unfold iY aD5
  simp only[]
  rw[if_pos (by omega),aK hk,wi (by omega),aP (by omega)]
  simp only[Option.bind_some]
  rw[aCi t _ (by omega)]
  simp only[Option.bind_some,aO]
  cases hf:atN t (u.fNodes[k]).fNode with
  | none =>
   have ec:aJ6 t u.fNodes[k]=true:=by unfold aJ6;rw[hf]
   rw[ec];simp
  | some j =>
   have hj:j<t.fNodes.length:=(List.findIdx?_eq_some_iff_findIdx_eq.1 hf).1
   have he:=mG (w:=bK) (List.getElem_mem hj)
   simp only[]
   rw[if_neg (by omega),aK hj]
   simp only[Option.bind_some]
   have ec:aJ6 t u.fNodes[k]=!decide (t.fNodes[j]=u.fNodes[k]):=by unfold aJ6;rw[hf];simp only[List.getElem?_eq_getElem hj]
   rw[aBv _ _ (by omega),ec]
   by_cases c:t.fNodes[j]=u.fNodes[k] <;> simp[c]) (fun m hi=>by unfold iY;simp only[];rw[if_neg (by omega)]) [] (by simp)
 rw[show((0:Nat):Int)=0 from rfl]at this
 obtain⟨e1,e2⟩:=this
 exact⟨by rw[e1];rfl,e2⟩
end Go.Ev
/- Conditionals that are valid. -/
namespace Go.Ev
set_option linter.all false
theorem aMf (c:Conditional)(h:aT c<=4294967296)(hg:∀ j (hj:j<c.fParents.length),aFM c j c.fParents[j]):∀ m k:Nat,m+k=c.fParents.length->∀ s:Rat,VZ s->
 lp (bJ c) ((k:Int),s)=some (.inl (((c.fParents.drop k).map (·.fShare)).foldl RA s)):=by
 have hl:=(aFL h).1
 intro m
 induction m with
 | zero =>
  intro k hk s hs
  rw[List.drop_eq_nil_of_le (by omega)]
  exact aL (by unfold bJ;simp only[];rw[if_neg (by omega)];rfl)
 | succ m ih =>
  intro k hk s hs
  have hlt:k<c.fParents.length:=by omega
  obtain⟨z1,z2,z3⟩:=aPZ h hlt
  obtain⟨g1,g2⟩:=xX _ z1
  have b1:=eM _ z2
  have b2:=eM _ z3
  obtain⟨A,B,C,D,E,F⟩:=hg k hlt
  obtain⟨t1,_,t3⟩:=aBn hs (.inl (aAj D))
  have w1:IntKind.i64.wrap ((k:Int)+1)=((k+1:Nat):Int):=by rw[wi (by omega)];omega
  have D':¬xE (c.fParents[k]).fShare<=0:=by omega
  have st:bJ c ((k:Int),s)=some (.inl (((k+1:Nat):Int),RA s (c.fParents[k]).fShare)):=by
   have hin:(k:Int)<(c.fParents.length:Int):=by omega
   unfold bJ
   simp only[hin,if_true,aK hlt,Option.bind_some,aCh,g1,b1,b2,t1,w1]
   by_cases K:0<k
   · have hlt2:k-1<c.fParents.length:=by omega
     have w2:IntKind.i64.wrap ((k:Int)-1)=((k-1:Nat):Int):=by rw[wi (by omega)];omega
     have K':(0:Int)<(k:Int):=by omega
     have C':=C (c.fParents[k-1]) K (by rw[List.getElem?_eq_getElem hlt2])
     have C'':¬(c.fParents[k]).fNode<=(c.fParents[k-1]).fNode:=by omega
     simp[A,B,K,K',D',w2,aK hlt2,C'',E,F]
   · have K':¬(0:Int)<(k:Int):=by omega
     simp[A,B,K,K',D',E,F]
  rw[aS st,ih (k+1) (by omega) _ t3,List.drop_eq_getElem_cons hlt]
  rfl
theorem aKn (c:Conditional)(h:aT c<=4294967296)(h1:1<=c.fNode/\c.fNode<=9)(h2:0<xE c.fTotal)(h3:c.fParents≠[])(hg:∀ j (hj:j<c.fParents.length),aFM c j c.fParents[j])(hs:(c.fParents.map (·.fShare)).foldl RA (rA 0)=rA 1):bC c=some true:=by
 obtain⟨hl,hT⟩:=aFL h
 obtain⟨g1,g2⟩:=xX _ hT
 have e:=aMf c h hg c.fParents.length 0 (by omega) (rA 0) aIr
 rw[show((0:Nat):Int)=0 from rfl,List.drop_zero,hs]at e
 have hp:(0:Int)<(c.fParents.length:Int):=by
  have:=List.length_pos_iff.2 h3;omega
 unfold bC
 rw[bS 0 (by omega),bS 1 (by omega)]
 simp only[Option.bind_some,e,g1,zP]
 simp[h1,h2,h3,hp,aEx (rA 1) (rA 1) (VZs (.inl (aAN 1 (by omega))))]
end Go.Ev
/- Eliminating a node over the rational numbers. -/
namespace Go.Ev
set_option linter.all false
def aEw (v:Int)(l:QL):Bool:=decide (l.a=v\/l.b=v)
def aBm (v:Int)(l:QL):QL:=if l.a=v then⟨l.b,v,l.w,-l.x,-l.y⟩else⟨l.a,v,l.w,l.x,l.y⟩
def bR (v:Int)(s:List QL):List QL:=(s.filter (aEw v)).map (aBm v)
def toA (a:QL):l08Arm:=⟨a.a,ofQ a.w,ofQ a.x,ofQ a.y⟩
theorem aOT (v:Int):∀ s:List QL,(∀ x∈s,x.fit)->bN v (s.map QL.toL)=(bR v s).map toA
 | [],_=>rfl
 | x::s,h=>by
  have ih:=aOT v s (fun y hy=>h y (by simp[hy]))
  obtain⟨h1,h2,h3⟩:=h x (by simp)
  unfold bN bR at ih ⊢
  rw[List.map_cons,List.filter_cons,List.filter_cons]
  have e:tch v x.toL=aEw v x:=rfl
  rw[e]
  by_cases c:aEw v x=true
  · rw[if_pos c,if_pos c,List.map_cons,List.map_cons,List.map_cons,ih]
    congr 1
    unfold aBi aBm QL.toL toA
    simp only[]
    by_cases d:x.a=v
    · rw[if_pos d,if_pos d,aRM h2,aRM h3]
    · rw[if_neg d,if_neg d]
  · rw[if_neg c,if_neg c,ih]
structure PQ where
 node:Int
 s:Q
 x:Q
 y:Q
structure CQ where
 node:Int
 t:Q
 ps:List PQ
def PQ.toP (p:PQ):Parent:=⟨p.node,ofQ p.s,ofQ p.x,ofQ p.y⟩
def CQ.toC (c:CQ):Conditional:=⟨c.node,ofQ c.t,c.ps.map PQ.toP⟩
def zB (t:Q)(a:QL):PQ:=⟨a.a,a.w / t,a.x,a.y⟩
def mlQ (t:Q)(a b:QL):QL:=⟨a.a,b.a,a.w*b.w / t,a.x-b.x,a.y-b.y⟩
def mQ (t:Q):List QL->List QL
 | []=>[]
 | a::r=>r.map (mlQ t a)++mQ t r
def pE (v:Int)(a:List QL):CQ:=⟨v,sm wt a,a.map (zB (sm wt a))⟩
structure Arms (D X:Nat)(v:Int)(a:List QL):Prop where
 hD:0<D
 hP:72*D<=PP
 hX:X<=400
 h0:0<X
 lk:∀ x∈a,Lk D X x
 hw:sm wt a<=72
 inc:a.Pairwise fun x y=>x.a<y.a
 nd:∀ x∈a,(0<=x.a/\x.a<=9)/\x.a≠v
 ne:a≠[]
 hv:1<=v/\v<=9
theorem Arms.pos {D X:Nat}{v:Int}{a:List QL}(h:Arms D X v a):0<sm wt a:=by
 obtain⟨x,hx⟩:=List.exists_mem_of_ne_nil a h.ne
 have:=xC h.lk hx
 have:=(h.lk x hx).sc.1
 grind
theorem aAi {D X:Nat}{a:List QL}(h:∀ x∈a,Lk D X x):Dv D (sm wt a):=aGY fun x hx=>(h x hx).sc.2.1
theorem Arms.le {D X:Nat}{v:Int}{a:List QL}(h:Arms D X v a){x:QL}(hx:x∈a):x.w<=72:=by
 have:=xC h.lk hx
 have:=h.hw
 grind
theorem Arms.fit {D X:Nat}{v:Int}{a:List QL}(h:Arms D X v a){x:QL}(hx:x∈a):x.fit:=aGd h.hD h.hP (h.lk x hx) (by have:=h.hX;omega) h.h0 (h.le hx)
theorem w72 {D:Nat}{q:Q}(hD:0<D)(hP:72*D<=PP)(h0:0<=q)(h1:q<=72)(hd:Dv D q):cC q:=by
 refine gT (B:=72) hD hd ⟨?_,h1⟩ (by omega) (by omega) (jW (a:=1) (by rw[Nat.pow_one];omega) (by omega))
 have:=aAU 72
 grind
theorem aOp {D X:Nat}(hD:0<D)(hP:72*D<=PP):∀ (a:List QL) (t:Q),(∀ x∈a,Lk D X x)->Dv D t->0<=t->t+sm wt a<=72->(a.map toA).foldl (fun t a=>RA t a.fweight) (ofQ t)=ofQ (t+sm wt a)
 | [],t,_,_,_,_=>by simp only[List.map_nil,List.foldl_nil,sm];congr 1;grind
 | x::a,t,h,ht,h0,hw=>by
  have hx:=h x (by simp)
  have hr:=fun y hy=>h y (List.mem_cons_of_mem x hy)
  have wr:=iZ hr
  have wx:0<wt x:=hx.sc.1
  rw[sm]at hw ⊢
  have d2:=nH ht hx.sc.2.1
  have e:wt x=x.w:=rfl
  have f1:=w72 hD hP h0 (by grind) ht
  have f2:cC x.w:=w72 hD hP (by grind) (by grind) hx.sc.2.1
  have f3:cC (t+x.w):=w72 hD hP (by grind) (by grind) d2
  rw[List.map_cons,List.foldl_cons]
  have e1:RA (ofQ t) (toA x).fweight=ofQ (t+x.w):=aHg f1 f2 f3
  rw[e1,aOp hD hP a (t+x.w) hr d2 (by grind) (by grind)]
  congr 1;grind
theorem Arms.tot {D X:Nat}{v:Int}{a:List QL}(h:Arms D X v a):rT (a.map toA)=ofQ (sm wt a):=by
 unfold rT
 rw[aCO,aOp h.hD h.hP a 0 h.lk ⟨0,by simp⟩ (by grind) (by have:=h.hw;grind)]
 congr 1;grind
theorem Arms.ftot {D X:Nat}{v:Int}{a:List QL}(h:Arms D X v a):cC (sm wt a):=w72 h.hD h.hP (by have:=h.pos;grind) h.hw (aAi h.lk)
theorem aBu {D X:Nat}{v:Int}{a:List QL}(h:Arms D X v a){x:QL}(hx:x∈a):Dv (nm D (sm wt a)) (x.w / sm wt a)/\0<x.w / sm wt a/\x.w / sm wt a<=1:=by
 have hp:=h.pos
 have hl:=xC h.lk hx
 have hx0:=(h.lk x hx).sc.1
 refine⟨aDL h.hD hp (aAi h.lk) (h.lk x hx).sc.2.1,?_,?_⟩
 · rw[_root_.Rat.lt_div_iff hp];grind
 · have:=aGw (A:=1) (p:=x.w) hp (by grind) (by have e:((1:Nat):Q)=1:=rfl;rw[e];grind)
   have e:((1:Nat):Q)=1:=rfl
   unfold bd at this;rw[e]at this;grind
theorem Arms.nN {D X:Nat}{v:Int}{a:List QL}(h:Arms D X v a):0<nm D (sm wt a)/\nm D (sm wt a)<=72*D :=
 ⟨(zL h.hD h.pos (aAi h.lk)).2,aDi h.hD h.pos (aAi h.lk) h.hw⟩
theorem aHD {N:Nat}{q:Q}(hN:0<N)(hP:N<=PP)(h0:0<=q)(h1:q<=1)(hd:Dv N q):cC q:=by
 refine gT (B:=1) hN hd ⟨?_,h1⟩ (by omega) (by omega) (jW (a:=1) (by rw[Nat.pow_one];omega) (by omega))
 have e:((1:Nat):Q)=1:=rfl
 rw[e];grind
theorem aOq {D X:Nat}{v:Int}{a:List QL}(h:Arms D X v a):∀ (b:List QL) (t:Q),(∀ x∈b,x∈a)->Dv (nm D (sm wt a)) t->0<=t->t+sm (fun x=>x.w / sm wt a) b<=1->((b.map (zB (sm wt a))).map fun p=>ofQ p.s).foldl RA (ofQ t)=ofQ (t+sm (fun x=>x.w / sm wt a) b)
 | [],t,_,_,_,_=>by simp only[List.map_nil,List.foldl_nil,sm];congr 1;grind
 | x::b,t,hb,ht,h0,hw=>by
  obtain⟨s1,s2,s3⟩:=aBu h (hb x (by simp))
  have hr:=fun y hy=>hb y (List.mem_cons_of_mem x hy)
  have wr:0<=sm (fun x=>x.w / sm wt a) b:=pJ fun y hy=>by have:=(aBu h (hr y hy)).2.1;grind
  obtain⟨n1,n2⟩:=h.nN
  have nP:nm D (sm wt a)<=PP:=by have:=h.hP;omega
  rw[sm]at hw ⊢
  have d2:=nH ht s1
  have f1:=aHD n1 nP h0 (by grind) ht
  have f2:=aHD n1 nP (by grind) s3 s1
  have f3:cC (t+x.w / sm wt a):=aHD n1 nP (by grind) (by grind) d2
  rw[List.map_cons,List.map_cons,List.foldl_cons]
  have e1:RA (ofQ t) (ofQ (zB (sm wt a) x).s)=ofQ (t+x.w / sm wt a):=aHg f1 f2 f3
  rw[e1,aOq h b _ hr d2 (by grind) (by grind)]
  congr 1;grind
theorem aNp (t:Q):∀ a:List QL,sm (fun x=>x.w / t) a=sm wt a / t
 | []=>by simp[sm];grind
 | x::a=>by rw[sm,sm,aNp t a];unfold wt;grind
theorem Arms.share_sum {D X:Nat}{v:Int}{a:List QL}(h:Arms D X v a):sm (fun x=>x.w / sm wt a) a=1:=by
 rw[aNp]
 have:=h.pos
 have:sm wt a≠0:=by grind
 grind
theorem aRn:rA 1=ofQ 1:=aBz (by decide)
theorem Arms.cond {D X:Nat}{v:Int}{a:List QL}(h:Arms D X v a):aAA v (a.map toA)=(pE v a).toC:=by
 unfold aAA pE CQ.toC
 rw[h.tot]
 simp only[List.map_map]
 congr 1
 refine List.map_congr_left fun x hx=>?_
 obtain⟨s1,s2,s3⟩:=aBu h hx
 obtain⟨n1,n2⟩:=h.nN
 have f2:=aHD n1 (by have:=h.hP;omega) (by grind) s3 s1
 have:=h.pos
 show fZ (ofQ (sm wt a)) (toA x)=(zB (sm wt a) x).toP
 unfold fZ toA zB PQ.toP
 simp only[]
 rw[aO1 (h.fit hx).1 h.ftot (by grind) f2]
theorem Arms.armOk {D X:Nat}{v:Int}{a:List QL}(h:Arms D X v a):∀ x∈a.map toA,uW x:=by
 intro x hx
 obtain⟨y,hy,rfl⟩:=List.mem_map.1 hx
 obtain⟨f1,f2,f3⟩:=h.fit hy
 exact⟨(h.nd y hy).1,mB f1,mB f2,mB f3⟩
theorem aGl {a:List QL}(inc:a.Pairwise fun x y=>x.a<y.a)(nd:∀ x∈a,0<=x.a/\x.a<=9):a.length<=10:=by
 have n:(a.map fun x=>x.a).Nodup:=by
  rw[List.Nodup,List.pairwise_map]
  exact inc.imp fun {x y} hxy e=>by omega
 have:=n.length_le_of_subset (l₂:=[0,1,2,3,4,5,6,7,8,9]) (fun z hz=>by
  obtain⟨x,hx,rfl⟩:=List.mem_map.1 hz
  have:=nd x hx
  simp only[List.mem_cons,List.not_mem_nil,or_false];omega)
 simpa using this
theorem Arms.condOk {D X:Nat}{v:Int}{a:List QL}(h:Arms D X v a):condOk v (a.map toA):=by
 have hl:=aGl h.inc (fun x hx=>(h.nd x hx).1)
 have hz:=aIN (v:=v) h.armOk (by rw[List.length_map];omega)
 obtain⟨n1,n2⟩:=h.nN
 unfold Go.Ev.condOk
 rw[h.cond]at hz ⊢
 refine aKn _ hz h.hv ((aKx h.ftot).2 h.pos) ?_ ?_ ?_
 · unfold CQ.toC pE
   simp only[ne_eq,List.map_eq_nil_iff]
   exact h.ne
 · intro j hj
   have hj':j<a.length:=by unfold CQ.toC pE at hj;simpa using hj
   have e:(pE v a).toC.fParents[j]=(zB (sm wt a) a[j]).toP:=by
    unfold CQ.toC pE;simp
   rw[e]
   have hm:=List.getElem_mem hj'
   obtain⟨s1,s2,s3⟩:=aBu h hm
   have f2:=aHD n1 (by have:=h.hP;omega) (by grind) s3 s1
   obtain⟨f3,f4,f5⟩:=h.fit hm
   refine⟨(h.nd _ hm).1,(h.nd _ hm).2,fun q hq hk=>?_,(aKx f2).2 s2,uA f4,uA f5⟩
   have hk':j-1<a.length:=by omega
   have e2:(pE v a).toC.fParents[j-1]?=some (zB (sm wt a) a[j-1]).toP:=by
    unfold CQ.toC pE;simp[hk']
   rw[e2]at hk
   cases hk
   exact(List.pairwise_iff_getElem.1 h.inc) (j-1) j hk' hj' (by omega)
 · have e:((pE v a).toC.fParents.map fun p=>p.fShare)=((a.map (zB (sm wt a))).map fun p=>ofQ p.s):=by
    unfold CQ.toC pE;simp[PQ.toP,Function.comp_def]
   rw[e,aCO,aOq h a 0 (fun x hx=>hx) ⟨0,by simp⟩ (by grind) (by rw[h.share_sum];grind),h.share_sum,aRn]
   congr 1;grind
end Go.Ev
/- The mesh of an eliminated node over the rational numbers. -/
namespace Go.Ev
set_option linter.all false
theorem aFW {D:Nat}{p q:Q}(hp:Dv D p)(hq:Dv D q){W:Q}{N:Nat}(hN:(N:Q)=W*D)(hW:W≠0):Dv (D*N) (p*q / W):=by
 obtain⟨a,ha⟩:=hp
 obtain⟨b,hb⟩:=hq
 refine⟨a*b,?_⟩
 rw[_root_.Rat.natCast_mul,hN,_root_.Rat.intCast_mul,<- ha,<- hb]
 grind
theorem aN4 {D X:Nat}{v:Int}{a:List QL}(h:Arms D X v a){x y:QL}(hx:x∈a)(hy:y∈a)(hxy:x.a<y.a) :
 tG (ofQ (sm wt a)) (toA x) (toA y)=(mlQ (sm wt a) x y).toL/\(mlQ (sm wt a) x y).fit/\(mlQ (sm wt a) x y).ok/\Lk (D*nm D (sm wt a)) (2*X) (mlQ (sm wt a) x y)/\Dv (D*nm D (sm wt a)*(nm D x.w*nm D y.w)) (enQ (mlQ (sm wt a) x y)):=by
 have hp:=h.pos
 have lx:=h.lk x hx
 have ly:=h.lk y hy
 obtain⟨n1,n2⟩:=h.nN
 have hN:=(zL h.hD hp (aAi h.lk)).1
 have hW:sm wt a≠0:=by grind
 obtain⟨fx1,fx2,fx3⟩:=h.fit hx
 obtain⟨fy1,fy2,fy3⟩:=h.fit hy
 have dx:=lx.sc.2.1
 have dy:=ly.sc.2.1
 have px:=lx.sc.1
 have py:=ly.sc.1
 have bx:=aMe px (h.le hx)
 have by_:=aMe py (h.le hy)
 have hD:=h.hD
 have hP:=h.hP
 have hX:=h.hX
 have h0:=h.h0
 have eD:D<=PP ^ 1:=by rw[Nat.pow_one];omega
 have eN:nm D (sm wt a)<=PP ^ 1:=by rw[Nat.pow_one];omega
 have ex:nm D x.w<=PP ^ 1:=by have:=aDi (W:=72) h.hD px dx (h.le hx);rw[Nat.pow_one];omega
 have ey:nm D y.w<=PP ^ 1:=by have:=aDi (W:=72) h.hD py dy (h.le hy);rw[Nat.pow_one];omega
 obtain⟨ex1,ex2⟩:=zL h.hD px dx
 obtain⟨ey1,ey2⟩:=zL h.hD py dy
 have f1:cC (x.w*y.w):=gT (Nat.mul_pos hD hD) (vT dx dy) (tB bx by_) (by decide) (by decide) (jW (tZ eD eD) (by omega))
 have dw:Dv (D*nm D (sm wt a)) (x.w*y.w / sm wt a):=aFW dx dy hN hW
 have pxy:=_root_.Rat.mul_pos px py
 have pw:0<x.w*y.w / sm wt a:=by rw[_root_.Rat.lt_div_iff hp];grind
 have bw:bd 72 (x.w*y.w / sm wt a):=by
  have l1:=xC h.lk hx
  have l2:0<=(sm wt a-x.w)*y.w:=_root_.Rat.mul_nonneg (by grind) (by grind)
  have l3:0<=((72:Nat)-y.w)*sm wt a:=_root_.Rat.mul_nonneg (by have:=h.le hy;have e:((72:Nat):Q)=72:=rfl;grind) (by grind)
  have l4:=_root_.Rat.mul_nonneg (aAU 72) (Std.le_of_lt hp)
  exact aGw hp (by grind) (by grind)
 have f2:cC (x.w*y.w / sm wt a):=gT (Nat.mul_pos hD n1) dw bw (by omega) (by omega) (jW (tZ eD eN) (by omega))
 obtain⟨xx,xy⟩:=aIT h.hD lx.sc
 obtain⟨yx,yy⟩:=aIT h.hD ly.sc
 have gx:=uQ (rR (nm D y.w) xx) (by rw[Nat.mul_comm];exact rR (nm D x.w) yx)
 have gy:=uQ (rR (nm D y.w) xy) (by rw[Nat.mul_comm];exact rR (nm D x.w) yy)
 have cx:=aIO lx.bx ly.bx
 have cy:=aIO lx.by' ly.by'
 have f3:cC (x.x-y.x):=gT (Nat.mul_pos ex2 ey2) gx cx (by omega) (by omega) (jW (tZ ex ey) (by omega))
 have f4:cC (x.y-y.y):=gT (Nat.mul_pos ex2 ey2) gy cy (by omega) (by omega) (jW (tZ ex ey) (by omega))
 have lk:Lk (D*nm D (sm wt a)) (2*X) (mlQ (sm wt a) x y):=by
  refine⟨⟨pw,dw,?_,?_⟩,by rw[Nat.two_mul];exact cx,by rw[Nat.two_mul];exact cy⟩
  · have e:mx (mlQ (sm wt a) x y)=mx x*y.w / sm wt a-x.w*mx y / sm wt a:=by unfold mx mlQ;simp only[];grind
    rw[e]
    exact uQ (aFW lx.sc.2.2.1 dy hN hW) (aFW dx ly.sc.2.2.1 hN hW)
  · have e:my (mlQ (sm wt a) x y)=my x*y.w / sm wt a-x.w*my y / sm wt a:=by unfold my mlQ;simp only[];grind
    rw[e]
    exact uQ (aFW lx.sc.2.2.2 dy hN hW) (aFW dx ly.sc.2.2.2 hN hW)
 refine⟨?_,⟨f2,f3,f4⟩,⟨(h.nd x hx).1,(h.nd y hy).1,hxy,pw⟩,lk,?_⟩
 · unfold tG toA mlQ QL.toL
   simp only[]
   rw[aHf fx1 fy1 f1,aO1 f1 h.ftot hW f2,aPR fx2 fy2 f3,aPR fx3 fy3 f4]
 · have hDN:0<D*nm D (sm wt a):=Nat.mul_pos hD n1
   have e1:=(zL hDN pw dw).1
   have e2:nm (D*nm D (sm wt a)) (x.w*y.w / sm wt a)=nm D x.w*nm D y.w:=by
    refine _root_.Rat.natCast_inj.1 ?_
    rw[e1,_root_.Rat.natCast_mul,_root_.Rat.natCast_mul,hN,ex1,ey1]
    grind
   have:=aKi hDN lk.sc
   have e3:(mlQ (sm wt a) x y).w=x.w*y.w / sm wt a:=rfl
   rw[e3,e2]at this
   exact this
theorem aJA (t:Q):∀ {a:List QL} {z:QL},z∈mQ t a->∃ p x q y r,a=p++x::(q++y::r)/\z=mlQ t x y
 | x::a,z,h=>by
  rw[mQ,List.mem_append]at h
  rcases h with h | h
  · obtain⟨y,hy,rfl⟩:=List.mem_map.1 h
    obtain⟨q,r,e⟩:=List.append_of_mem hy
    exact⟨[],x,q,y,r,by rw[e];rfl,rfl⟩
  · obtain⟨p,x',q,y,r,e,h2⟩:=aJA t h
    exact⟨x::p,x',q,y,r,by rw[e];rfl,h2⟩
theorem Arms.mesh {D X:Nat}{v:Int}{a:List QL}(h:Arms D X v a):∀ p b:List QL,a=p++b->gX (ofQ (sm wt a)) (b.map toA)=(mQ (sm wt a) b).map QL.toL
 | _,[],_=>rfl
 | p,x::b,e=>by
  have ih:=h.mesh (p++[x]) b (by rw[e,List.append_assoc];rfl)
  rw[List.map_cons,gX,mQ,List.map_append,ih]
  congr 1
  rw[List.map_map,List.map_map]
  refine List.map_congr_left fun y hy=>?_
  have hx:x∈a:=by rw[e];simp
  have hy':y∈a:=by rw[e];simp[hy]
  have hxy:x.a<y.a:=by
   have:=h.inc
   rw[e,List.pairwise_append,List.pairwise_cons]at this
   exact this.2.1.1 y hy
  exact(aN4 h hx hy' hxy).1
theorem aQv (D:Nat){p q r:List QL}{x y:QL}:nm D x.w*nm D y.w∣pn D (p++x::(q++y::r)):=by
 rw[aKE,pn,aKE,pn]
 refine Nat.dvd_trans ?_ (Nat.dvd_mul_left _ _)
 refine Nat.mul_dvd_mul_left _ (Nat.dvd_trans ?_ (Nat.dvd_mul_left _ _))
 exact Nat.dvd_mul_right _ _
theorem Arms.each {D X:Nat}{v:Int}{a:List QL}(h:Arms D X v a){z:QL}(hz:z∈mQ (sm wt a) a) :
 z.fit/\z.ok/\Lk (D*nm D (sm wt a)) (2*X) z/\Dv (D*nm D (sm wt a)*pn D a) (enQ z)/\(∃ x∈a,x.a=z.a)/\∃ y∈a,y.a=z.b:=by
 obtain⟨p,x,q,y,r,e,rfl⟩:=aJA _ hz
 have hx:x∈a:=by rw[e];simp
 have hy:y∈a:=by rw[e];simp
 have hxy:x.a<y.a:=by
  have:=h.inc
  rw[e,List.pairwise_append,List.pairwise_cons]at this
  exact this.2.1.1 y (by simp)
 obtain⟨_,f,o,l,d⟩:=aN4 h hx hy hxy
 refine⟨f,o,l,xI d (Nat.mul_dvd_mul_left _ ?_),⟨x,hx,rfl⟩,y,hy,rfl⟩
 conv=>rhs;rw[e]
 exact aQv D
theorem aJC (t:Q):∀ {a:List QL},a.Pairwise (fun x y=>x.a<y.a)->∀ x∈a,∀ y∈a,x.a<y.a->mlQ t x y∈mQ t a
 | z::a,h,x,hx,y,hy,hxy=>by
  rw[List.pairwise_cons]at h
  rw[mQ,List.mem_append]
  rcases List.mem_cons.1 hx with e | hx
  · rcases List.mem_cons.1 hy with e2 | hy
    · rw[e,e2]at hxy;omega
    · exact .inl (by rw[e];exact List.mem_map_of_mem hy)
  · rcases List.mem_cons.1 hy with e2 | hy
    · have:=h.1 x hx;rw[e2]at hxy;omega
    · exact .inr (aJC t h.2 x hx y hy hxy)
theorem aLL {t:Q}(ht:0<t):∀ {a:List QL},(∀ x∈a,0<=wt x)->sm wt (mQ t a)*t<=sm wt a*sm wt a
 | [],_=>by simp[mQ,sm]
 | x::a,h=>by
  have ih:=aLL ht (a:=a) (fun y hy=>h y (by simp[hy]))
  have h1:=h x (by simp)
  have h2:0<=sm wt a:=pJ fun y hy=>h y (by simp[hy])
  have e:∀ b:List QL,sm wt (b.map (mlQ t x))*t=wt x*sm wt b:=by
   intro b
   induction b with
   | nil=>simp[sm]
   | cons y b ih2 =>
    rw[List.map_cons,sm,sm,_root_.Rat.add_mul,ih2]
    have e3:wt (mlQ t x y)=wt x*wt y / t:=rfl
    rw[e3]
    have:t≠0:=by grind
    grind
  rw[mQ,sY,sm,_root_.Rat.add_mul,e]
  have h3:=_root_.Rat.mul_nonneg h1 h2
  have h4:=_root_.Rat.mul_nonneg h1 h1
  grind
theorem Arms.mesh_le {D X:Nat}{v:Int}{a:List QL}(h:Arms D X v a):sm wt (mQ (sm wt a) a)<=sm wt a:=by
 have:=aLL h.pos (a:=a) (fun x hx=>by have:=(h.lk x hx).sc.1;unfold wt;grind)
 exact _root_.Rat.le_of_mul_le_mul_right this h.pos
theorem aQH {D X:Nat}{v:Int}{s:List QL}(hs:∀ x∈s,x.fit)(h:Arms D X v (bR v s)) :
 wV v (s.map QL.toL)=some ((pE v (bR v s)).toC,(mQ (sm wt (bR v s)) (bR v s)).map QL.toL):=by
 have e1:=aOT v s hs
 have e2:=h.mesh [] (bR v s) rfl
 have hv:∀ x∈gX (rT (bN v (s.map QL.toL))) (bN v (s.map QL.toL)),ValidL x:=by
  rw[e1,h.tot,e2]
  intro x hx
  obtain⟨z,hz,rfl⟩:=List.mem_map.1 hx
  obtain⟨f,o,_⟩:=h.each hz
  exact(aDN f).2 o
 rw[aIM ⟨h.hv,by rw[e1];exact h.condOk,hv⟩,e1,h.tot,e2,h.cond]
end Go.Ev
/- From a front to its arms, rest and mesh. -/
namespace Go.Ev
set_option linter.all false
theorem aDG (v:Int)(l:QL):(aBm v l).w=l.w:=by unfold aBm;split <;> rfl
theorem aPL (v:Int)(l:QL):enQ (aBm v l)=enQ l:=by
 unfold aBm enQ sqQ
 split
 · simp only[];grind
 · rfl
theorem aPK {D X:Nat}(v:Int){l:QL}(h:Lk D X l):Lk D X (aBm v l):=by
 unfold aBm
 split
 · refine⟨⟨h.sc.1,h.sc.2.1,?_,?_⟩,aOO h.bx,aOO h.by'⟩
   · have e:mx ⟨l.b,v,l.w,-l.x,-l.y⟩=- mx l:=by unfold mx;simp only[];grind
     rw[e];exact aLq h.sc.2.2.1
   · have e:my ⟨l.b,v,l.w,-l.x,-l.y⟩=- my l:=by unfold my;simp only[];grind
     rw[e];exact aLq h.sc.2.2.2
 · exact⟨h.sc,h.bx,h.by'⟩
def uS (v:Int)(s:List QL):List QL:=s.filter (fun l=>!aEw v l)
theorem aNw (v:Int):∀ s:List QL,wL v (s.map QL.toL)=(uS v s).map QL.toL
 | []=>rfl
 | x::s=>by
  have ih:=aNw v s
  unfold wL uS at ih ⊢
  rw[List.map_cons,List.filter_cons,List.filter_cons]
  have e:tch v x.toL=aEw v x:=rfl
  rw[e,ih]
  split <;> rfl
theorem aBr (f:QL->Q)(v:Int)(hf:∀ l,f (aBm v l)=f l):∀ s:List QL,sm f s=sm f (bR v s)+sm f (uS v s)
 | []=>by simp only[bR,uS,List.filter_nil,List.map_nil,sm];grind
 | x::s=>by
  have ih:=aBr f v hf s
  unfold bR uS at ih ⊢
  rw[List.filter_cons,List.filter_cons,sm]
  by_cases c:aEw v x=true
  · simp only[c,Bool.not_true,if_true,Bool.false_eq_true,if_false,List.map_cons,sm,hf];grind
  · simp only[c,Bool.not_eq_true,if_false,Bool.not_false,if_true,sm];grind
theorem aI8 (D:Nat)(v:Int):∀ s:List QL,pn D s=pn D (bR v s)*pn D (uS v s)
 | []=>rfl
 | x::s=>by
  have ih:=aI8 D v s
  unfold bR uS at ih ⊢
  rw[List.filter_cons,List.filter_cons,pn,ih]
  by_cases c:aEw v x=true
  · simp only[c,Bool.not_true,if_true,Bool.false_eq_true,if_false,List.map_cons,pn,aDG,Nat.mul_assoc]
  · simp only[c,if_false,Bool.not_false,if_true,pn]
    simp[Nat.mul_left_comm]
theorem wQ {v:Int}{s:List QL}{a:QL}:a∈bR v s↔∃ l∈s,(l.a=v\/l.b=v)/\a=aBm v l:=by
 unfold bR
 rw[List.mem_map]
 constructor
 · rintro⟨l,hl,rfl⟩
   rw[List.mem_filter]at hl
   have:=hl.2
   unfold aEw at this
   exact⟨l,hl.1,of_decide_eq_true this,rfl⟩
 · rintro⟨l,hl,ht,rfl⟩
   refine⟨l,List.mem_filter.2 ⟨hl,?_⟩,rfl⟩
   unfold aEw;exact decide_eq_true ht
theorem aAp {v:Int}{s:List QL}{l:QL}:l∈uS v s↔l∈s/\l.a≠v/\l.b≠v:=by
 unfold uS aEw
 rw[List.mem_filter]
 simp[not_or]
theorem yV {v:Int}{l:QL}(h:l.a=v\/l.b=v)(hl:l.a<l.b):(l.a=v/\(aBm v l).a=l.b)\/(l.b=v/\l.a≠v/\(aBm v l).a=l.a):=by
 unfold aBm
 by_cases c:l.a=v
 · rw[if_pos c];exact .inl ⟨c,rfl⟩
 · rw[if_neg c]
   rcases h with h | h
   · exact absurd h c
   · exact .inr ⟨h,c,rfl⟩
theorem aOS {v:Int}{s:List QL}(ho:s.Pairwise dH)(h:∀ x∈s,x.a<x.b):(bR v s).Pairwise fun x y=>x.a<y.a:=by
 unfold bR
 rw[List.pairwise_map]
 refine List.Pairwise.imp_of_mem (fun {x y} hx hy hr=>?_) (ho.sublist List.filter_sublist)
 rw[List.mem_filter]at hx hy
 have tx:=of_decide_eq_true hx.2
 have ty:=of_decide_eq_true hy.2
 have h1:=h x hx.1
 have h2:=h y hy.1
 have g1:=yV tx h1
 have g2:=yV ty h2
 unfold dH at hr
 omega
structure Front (D X:Nat)(V:List Int)(v:Int)(s:List QL):Prop where
 hD:0<D
 hP:72*D<=PP
 hX:X<=400
 h0:0<X
 lk:∀ x∈s,Lk D X x/\inV V x
 ord:s.Pairwise dH
 hw:sm wt s<=72
 hV:V.Nodup
 hn:∀ u∈V,0<=u/\u<=9
 hv:v∈V
 h1:1<=v
 ne:bR v s≠[]
theorem Front.armLk {D X:Nat}{V:List Int}{v:Int}{s:List QL}(h:Front D X V v s):∀ x∈bR v s,Lk D X x:=by
 intro x hx
 obtain⟨l,hl,_,rfl⟩:=wQ.1 hx
 exact aPK v (h.lk l hl).1
theorem Front.armV {D X:Nat}{V:List Int}{v:Int}{s:List QL}(h:Front D X V v s):∀ x∈bR v s,x.a∈V/\x.a≠v:=by
 intro x hx
 obtain⟨l,hl,ht,rfl⟩:=wQ.1 hx
 obtain⟨_,i1,i2,i3⟩:=h.lk l hl
 rcases yV ht i3 with⟨e1,e2⟩ | ⟨e1,e2,e3⟩
 · rw[e2];exact⟨i2,by omega⟩
 · rw[e3];exact⟨i1,by omega⟩
theorem Front.arms {D X:Nat}{V:List Int}{v:Int}{s:List QL}(h:Front D X V v s):Arms D X v (bR v s) where
 hD:=h.hD
 hP:=h.hP
 hX:=h.hX
 h0:=h.h0
 lk:=h.armLk
 hw:=by
  have e:=aBr wt v (fun l=>aDG v l) s
  have:0<=sm wt (uS v s):=iZ fun x hx=>(h.lk x (aAp.1 hx).1).1
  have:=h.hw
  grind
 inc:=aOS h.ord fun x hx=>(h.lk x hx).2.2.2
 nd:=fun x hx=>⟨h.hn _ (h.armV x hx).1,(h.armV x hx).2⟩
 ne:=h.ne
 hv:=⟨h.h1,(h.hn v h.hv).2⟩
theorem Front.fit {D X:Nat}{V:List Int}{v:Int}{s:List QL}(h:Front D X V v s):∀ x∈s,x.fit:=fun x hx =>
 aGd h.hD h.hP (h.lk x hx).1 (by have:=h.hX;omega) h.h0 (by
  have:=xC (fun y hy=>(h.lk y hy).1) hx
  have:=h.hw
  grind)
def iQ (v:Int)(s:List QL):List QL:=uS v s++mQ (sm wt (bR v s)) (bR v s)
theorem aKl {D E X Y:Nat}{l:QL}(h:Lk D X l)(hd:D∣E)(hx:X<=Y):Lk E Y l:=⟨aQS h.sc hd,aJ8 h.bx hx,aJ8 h.by' hx⟩
theorem Front.next {D X:Nat}{V:List Int}{v:Int}{s:List QL}(h:Front D X V v s){N:Nat}(hN:N=nm D (sm wt (bR v s))) :
 (∀ x∈iQ v s,Lk (D*N) (2*X) x/\inV (V.erase v) x/\Dv (D*N*pn D s) (enQ x)/\x.fit/\x.ok)/\sm wt (iQ v s)<=sm wt s:=by
 subst hN
 have ha:=h.arms
 obtain⟨n1,n2⟩:=ha.nN
 constructor
 · intro x hx
   rcases List.mem_append.1 hx with hx | hx
   · obtain⟨m1,m2,m3⟩:=aAp.1 hx
     obtain⟨l1,l2,l3,l4⟩:=h.lk x m1
     refine⟨aKl l1 (Nat.dvd_mul_right _ _) (by omega),⟨(h.hV.mem_erase_iff).2 ⟨m2,l2⟩,(h.hV.mem_erase_iff).2 ⟨m3,l3⟩,l4⟩,?_,h.fit x m1,(h.hn _ l2),(h.hn _ l3),l4,l1.sc.1⟩
     refine xI (aKi h.hD l1.sc) ?_
     rw[Nat.mul_assoc]
     exact Nat.mul_dvd_mul_left _ (Nat.dvd_trans (aFH D x m1) (Nat.dvd_mul_left _ _))
   · obtain⟨e1,e2,e3,e4,⟨y,hy,e5⟩,z,hz,e6⟩:=ha.each hx
     have v1:=h.armV y hy
     have v2:=h.armV z hz
     rw[e5]at v1
     rw[e6]at v2
     refine⟨e3,⟨(h.hV.mem_erase_iff).2 ⟨v1.2,v1.1⟩,(h.hV.mem_erase_iff).2 ⟨v2.2,v2.1⟩,e2.2.2.1⟩,xI e4 ?_,e1,e2⟩
     refine Nat.mul_dvd_mul_left _ ?_
     rw[aI8 D v s]
     exact Nat.dvd_mul_right _ _
 · unfold iQ
   rw[sY,aBr wt v (fun l=>aDG v l) s]
   have:=ha.mesh_le
   grind
end Go.Ev
/- A node of a tree over the rational numbers. -/
namespace Go.Ev
set_option linter.all false
def aHr (x y:QL):Prop:=x.a=y.a/\x.b=y.b
theorem aH1:∀ (s:List QL) (l:QL),∀ y∈(jU s l).1,(∃ x∈s,aHr x y)\/aHr l y
 | [],l,y,hy=>by simp[jU]at hy;subst hy;exact .inr ⟨rfl,rfl⟩
 | k::s,l,y,hy=>by
  by_cases c:dH k l
  · rw[tM c]at hy
    rcases List.mem_cons.1 hy with rfl | hy
    · exact .inl ⟨y,by simp,rfl,rfl⟩
    · rcases aH1 s l y hy with⟨x,hx,h⟩ | h
      · exact .inl ⟨x,by simp[hx],h⟩
      · exact .inr h
  · by_cases d:dH l k
    · rw[wY c d]at hy
      rcases List.mem_cons.1 hy with rfl | hy
      · exact .inr ⟨rfl,rfl⟩
      · exact .inl ⟨y,hy,rfl,rfl⟩
    · rw[wX c d]at hy
      rcases List.mem_cons.1 hy with rfl | hy
      · exact .inl ⟨k,by simp,rfl,rfl⟩
      · exact .inl ⟨y,by simp[hy],rfl,rfl⟩
theorem aKh:∀ (s:List QL) (l:QL),(∀ x∈s,∃ y∈(jU s l).1,aHr x y)/\∃ y∈(jU s l).1,aHr l y
 | [],l=>⟨by simp,l,by simp[jU],rfl,rfl⟩
 | k::s,l=>by
  by_cases c:dH k l
  · rw[tM c]
    obtain⟨h1,h2⟩:=aKh s l
    refine⟨fun x hx=>?_,?_⟩
    · rcases List.mem_cons.1 hx with rfl | hx
      · exact⟨x,by simp,rfl,rfl⟩
      · obtain⟨y,hy,h⟩:=h1 x hx
        exact⟨y,by simp[hy],h⟩
    · obtain⟨y,hy,h⟩:=h2
      exact⟨y,by simp[hy],h⟩
  · by_cases d:dH l k
    · rw[wY c d]
      exact⟨fun x hx=>⟨x,by simp only[List.mem_cons]at hx ⊢;exact .inr hx,rfl,rfl⟩,l,by simp,rfl,rfl⟩
    · rw[wX c d]
      refine⟨fun x hx=>?_,mrg k l,by simp,(zG c d).1.symm,(zG c d).2.symm⟩
      rcases List.mem_cons.1 hx with rfl | hx
      · exact⟨mrg x l,by simp,rfl,rfl⟩
      · exact⟨x,by simp[hx],rfl,rfl⟩
theorem nY:∀ (l s:List QL) (e:Q),∀ y∈(bH l s e).1,∃ x,(x∈s\/x∈l)/\aHr x y
 | [],s,e,y,hy=>⟨y,.inl hy,rfl,rfl⟩
 | z::l,s,e,y,hy=>by
  rw[bH]at hy
  obtain⟨x,hx,h1,h2⟩:=nY l _ _ y hy
  rcases hx with hx | hx
  · rcases aH1 s z x hx with⟨w,hw,g1,g2⟩ | ⟨g1,g2⟩
    · exact⟨w,.inl hw,g1.trans h1,g2.trans h2⟩
    · exact⟨z,.inr (by simp),g1.trans h1,g2.trans h2⟩
  · exact⟨x,.inr (by simp[hx]),h1,h2⟩
theorem vH:∀ (l s:List QL) (e:Q),∀ x,(x∈s\/x∈l)->∃ y∈(bH l s e).1,aHr x y
 | [],s,e,x,hx=>by
  rcases hx with hx | hx
  · exact⟨x,hx,rfl,rfl⟩
  · cases hx
 | z::l,s,e,x,hx=>by
  rw[bH]
  obtain⟨a1,w,hw,a3⟩:=aKh s z
  rcases hx with hx | hx
  · obtain⟨u,hu,g1,g2⟩:=a1 x hx
    obtain⟨y,hy,h1,h2⟩:=vH l (jU s z).1 (e+(jU s z).2) u (.inl hu)
    exact⟨y,hy,g1.trans h1,g2.trans h2⟩
  · rcases List.mem_cons.1 hx with e1 | hx
    · obtain⟨y,hy,h1,h2⟩:=vH l (jU s z).1 (e+(jU s z).2) w (.inl hw)
      exact⟨y,hy,by rw[e1];exact a3.1.trans h1,by rw[e1];exact a3.2.trans h2⟩
    · exact vH l _ _ x (.inr hx)
structure NQ where
 node:Int
 up:Int
 own:List QL
 cond:CQ
 msgs:List QL
 enQ:Q
 den:Nat
def NQ.toN (n:NQ):TreeNode:=⟨n.node,n.up,n.own.map QL.toL,n.cond.toC,n.msgs.map QL.toL,ofQ n.enQ⟩
def upQ (order:List Int)(c:CQ):Int:=aQ order (c.ps.map (·.node))
theorem aR4 (order:List Int)(c:CQ):upP order c.toC=upQ order c:=by
 unfold upP upQ xF CQ.toC
 simp only[List.map_map]
 rfl
def mP (v:Int)(b:List NQ):List QL:=(b.filter (fun n=>decide (n.up=v))).flatMap (·.msgs)
theorem aP5 (v:Int):∀ b:List NQ,xG v (b.map NQ.toN)=(mP v b).map QL.toL
 | []=>rfl
 | n::b=>by
  have ih:=aP5 v b
  unfold xG mP at ih ⊢
  rw[List.map_cons,List.filter_cons,List.filter_cons]
  by_cases c:n.up=v
  · rw[if_pos (show decide ((NQ.toN n).fUp=v)=true from decide_eq_true c),if_pos (decide_eq_true c),List.flatMap_cons,List.flatMap_cons,List.map_append,ih];rfl
  · rw[if_neg (show ¬decide ((NQ.toN n).fUp=v)=true from fun e=>c (of_decide_eq_true e)),if_neg (fun e=>c (of_decide_eq_true e)),ih]
def dQ {α:Type}(f:α->Nat):List α->Nat
 | []=>1
 | x::l=>f x*dQ f l
def aBl (v:Int)(b:List NQ):Nat:=dQ (·.den) (b.filter (fun n=>decide (n.up=v)))
def aCA (order:List Int)(v:Int)(own:List QL)(b:List NQ):NQ :=
 ⟨v,upQ order (pE v (bR v (bH (own++mP v b) [] 0).1)),own,pE v (bR v (bH (own++mP v b) [] 0).1),(bH (iQ v (bH (own++mP v b) [] 0).1) [] 0).1,
  (bH (own++mP v b) [] 0).2+(bH (iQ v (bH (own++mP v b) [] 0).1) [] 0).2,aBl v b*nm (aBl v b) (sm wt (bR v (bH (own++mP v b) [] 0).1))⟩
theorem aQG {l:List QL}(h:∀ x∈l,x.fit/\x.ok)(hj:aA1 l [] 0):jnP (l.map QL.toL)=some ((bH l [] 0).1.map QL.toL,ofQ (bH l [] 0).2)/\(∀ k∈(bH l [] 0).1,k.fit)/\cC (bH l [] 0).2:=by
 obtain⟨h1,h2,h3⟩:=aOk l [] 0 (fun x hx=>(h x hx).1) (by simp) aDM hj
 refine⟨?_,h2,h3⟩
 unfold jnP
 rw[if_pos (fun x hx=>by
  obtain⟨y,hy,rfl⟩:=List.mem_map.1 hx
  exact(aDN (h y hy).1).2 (h y hy).2),aCO]
 exact h1
def tri (K:Nat):Nat:=K*(K-1) / 2
theorem aCP {K:Nat}(h:K<=6):K*K<=2*tri K+K:=by
 have:∀ K,K<=6->K*K<=2*tri K+K:=by decide
 exact this K h
structure Room (D T K:Nat):Prop where
 k6:K<=6
 d1:72*D<=PP
 c1:10 ^ 8*(T*(D*(72*D) ^ tri K))<BB ^ 24
 c2:K<=2\/(72*(D*(72*D))<=PP/\10 ^ 8*((D*(72*D))*(72*D) ^ tri K*((D*(72*D))*(72*(D*(72*D))) ^ tri (K-1)))<BB ^ 24)
 c3:4*10 ^ 8*(T*((D*(72*D))*(72*D) ^ (K-1)*(72*(D*(72*D))) ^ tri (K-1)))<BB ^ 24
structure Inc (D T X:Nat)(V:List Int)(v:Int)(l:List QL):Prop where
 hD:0<D
 hT:0<T
 hX:X<=400
 h0:0<X
 lk:∀ x∈l,Lk D X x/\inV V x/\Dv T (enQ x)
 hw:sm wt l<=72
 hV:V.Nodup
 hn:∀ u∈V,0<=u/\u<=9
 hv:v∈V
 h1:1<=v
 ex:∃ x∈l,x.a=v\/x.b=v
 room:Room D T V.length
theorem Inc.jn {D T X:Nat}{V:List Int}{v:Int}{l:List QL}(h:Inc D T X V v l):Jn D T X (tri V.length) V :=
 ⟨h.hD,h.room.d1,by have:=h.hX;omega,h.h0,h.hT,h.hV,aCP h.room.k6,h.room.c1⟩
theorem Inc.fo {D T X:Nat}{V:List Int}{v:Int}{l:List QL}(h:Inc D T X V v l):∀ x∈l,x.fit/\x.ok:=fun x hx=>by
 obtain⟨l1,⟨l2,l3,l4⟩,_⟩:=h.lk x hx
 refine⟨aGd h.hD h.room.d1 l1 (by have:=h.hX;omega) h.h0 ?_,h.hn _ l2,h.hn _ l3,l4,l1.sc.1⟩
 have:=xC (fun y hy=>(h.lk y hy).1) hx
 have:=h.hw
 grind
theorem Inc.join {D T X:Nat}{V:List Int}{v:Int}{l:List QL}(h:Inc D T X V v l) :
 aA1 l [] 0/\Front D X V v (bH l [] 0).1/\(bH l [] 0).2=sm enQ l-sm enQ (bH l [] 0).1/\sm wt (bH l [] 0).1=sm wt l:=by
 have es:=uN (fun x hx=>(h.lk x hx).1) (by have:=h.hX;omega) h.hw
 have e0:(0:Q)-sm enQ []=0:=by simp only[sm];grind
 have g:=aDy h.jn l [] 0 h.lk (by simp) List.Pairwise.nil (by simp only[sm];have:=h.hw;grind) ⟨0,by simp⟩ (by grind) (by have:=es.2;grind)
 rw[e0]at g
 obtain⟨g1,g2,g3,g4,g5⟩:=g
 have g5':sm wt (bH l [] 0).1=sm wt l:=by rw[g5];simp only[sm];grind
 refine⟨g1,⟨h.hD,h.room.d1,h.hX,h.h0,g2,g3,by rw[g5'];exact h.hw,h.hV,h.hn,h.hv,h.h1,?_⟩,by rw[g4];grind,g5'⟩
 obtain⟨x,hx,ht⟩:=h.ex
 obtain⟨y,hy,p1,p2⟩:=vH l [] 0 x (.inr hx)
 have:aBm v y∈bR v (bH l [] 0).1:=wQ.2 ⟨y,hy,by rw[<- p1,<- p2];exact ht,rfl⟩
 intro e
 rw[e]at this;cases this
theorem Front.nextIn {D T X:Nat}{V:List Int}{v:Int}{s:List QL}(h:Front D X V v s)(r:Room D T V.length) :
 aA1 (iQ v s) [] 0/\(∀ x∈(bH (iQ v s) [] 0).1,Lk (D*nm D (sm wt (bR v s))) (2*X) x/\inV (V.erase v) x)/\(bH (iQ v s) [] 0).1.Pairwise dH/\
  (bH (iQ v s) [] 0).2=sm enQ (iQ v s)-sm enQ (bH (iQ v s) [] 0).1/\sm wt (bH (iQ v s) [] 0).1=sm wt (iQ v s):=by
 obtain⟨n1,n2⟩:=h.next rfl
 have hl:=List.length_erase_of_mem h.hv
 have hVe:=h.hV.erase v
 by_cases c:V.length<=2
 · have e:iQ v s=[]:=by
    rw[List.eq_nil_iff_forall_not_mem]
    intro x hx
    obtain⟨i1,i2,i3⟩:=(n1 x hx).2.1
    have:(V.erase v).length<=1:=by omega
    have:=(List.nodup_cons.2 ⟨by simp;omega,List.nodup_cons.2 ⟨by simp,List.nodup_nil⟩⟩:([x.a,x.b]:List Int).Nodup).length_le_of_subset (l₂:=V.erase v) (fun z hz=>by
     simp only[List.mem_cons,List.not_mem_nil,or_false]at hz
     rcases hz with rfl | rfl
     · exact i1
     · exact i2)
    simp at this;omega
   rw[e]
   refine⟨trivial,by simp[bH],by simp[bH],by simp only[bH,sm];grind,by simp only[bH,sm]⟩
 · obtain⟨r1,r2⟩:=r.c2.resolve_left c
   have ha:=h.arms
   obtain⟨a1,a2⟩:=ha.nN
   have hDN:D*nm D (sm wt (bR v s))<=D*(72*D):=Nat.mul_le_mul_left _ a2
   have hT:0<D*nm D (sm wt (bR v s))*pn D s:=Nat.mul_pos (Nat.mul_pos h.hD a1) (aCS h.hD fun x hx=>(h.lk x hx).1.sc)
   have hps:pn D s<=(72*D) ^ tri V.length:=by
    have l1:=aC7 h.hV h.ord (fun x hx=>(h.lk x hx).2)
    have l2:=aCP r.k6
    have l3:=aFI (W:=72) h.hD (fun x hx=>(h.lk x hx).1.sc) (fun x hx=>by
     have:=xC (fun y hy=>(h.lk y hy).1) hx
     have:=h.hw
     show x.w<=72;grind)
    have hD:=h.hD
    exact Nat.le_trans l3 (Nat.pow_le_pow_right (by omega) (by omega))
   have jn:Jn (D*nm D (sm wt (bR v s))) (D*nm D (sm wt (bR v s))*pn D s) (2*X) (tri (V.length-1)) (V.erase v):=by
    refine⟨Nat.mul_pos h.hD a1,Nat.le_trans (Nat.mul_le_mul_left _ hDN) r1,by have:=h.hX;omega,by have:=h.h0;omega,hT,hVe,?_,?_⟩
    · rw[hl];exact aCP (by have:=r.k6;omega)
    · refine Nat.lt_of_le_of_lt (Nat.mul_le_mul_left _ (Nat.mul_le_mul (Nat.mul_le_mul hDN hps) (Nat.mul_le_mul hDN (Nat.pow_le_pow_left (Nat.mul_le_mul_left _ hDN) _)))) r2
   have hw:sm wt (iQ v s)<=72:=by have:=h.hw;grind
   have es:=uN (fun x hx=>(n1 x hx).1) (by have:=h.hX;omega) hw
   have e0:(0:Q)-sm enQ []=0:=by simp only[sm];grind
   have g:=aDy jn (iQ v s) [] 0 (fun x hx=>⟨(n1 x hx).1,(n1 x hx).2.1,(n1 x hx).2.2.1⟩) (by simp) List.Pairwise.nil (by simp only[sm];grind) ⟨0,by simp⟩ (by grind) (by have:=es.2;grind)
   rw[e0]at g
   obtain⟨g1,g2,g3,g4,g5⟩:=g
   exact⟨g1,g2,g3,by rw[g4];grind,by rw[g5];simp only[sm];grind⟩
end Go.Ev
/- A node of a tree: the program computes what is computed over the rational numbers. -/
namespace Go.Ev
set_option linter.all false
theorem Front.restLk {D X:Nat}{V:List Int}{v:Int}{s:List QL}(h:Front D X V v s):∀ x∈uS v s,Lk D X x:=fun x hx=>(h.lk x (aAp.1 hx).1).1
theorem Front.armLen {D X:Nat}{V:List Int}{v:Int}{s:List QL}(h:Front D X V v s):(bR v s).length<=V.length-1:=by
 have ha:=h.arms
 have n:((bR v s).map fun x=>x.a).Nodup:=by
  rw[List.Nodup,List.pairwise_map]
  exact ha.inc.imp fun {x y} hxy e=>by omega
 have:=n.length_le_of_subset (l₂:=V.erase v) (fun z hz=>by
  obtain⟨x,hx,rfl⟩:=List.mem_map.1 hz
  exact(h.hV.mem_erase_iff).2 ⟨(h.armV x hx).2,(h.armV x hx).1⟩)
 rw[List.length_map,List.length_erase_of_mem h.hv]at this
 exact this
theorem Front.sumFits {D T X:Nat}{V:List Int}{v:Int}{s:List QL}(h:Front D X V v s)(r:Room D T V.length)(hT:0<T){q:Q}(hq:Dv T q)(h0:0<=q)(hq2:q<=((10 ^ 8:Nat):Q)) :
 cC ((q-sm enQ s)+(bH (iQ v s) [] 0).2):=by
 obtain⟨g1,g2,g3,g4,g5⟩:=h.nextIn r
 obtain⟨n1,n2⟩:=h.next rfl
 have ha:=h.arms
 obtain⟨a1,a2⟩:=ha.nN
 have hDN:D*nm D (sm wt (bR v s))<=D*(72*D):=Nat.mul_le_mul_left _ a2
 have hD':0<D*nm D (sm wt (bR v s)):=Nat.mul_pos h.hD a1
 have hw:=h.hw
 have hX:=h.hX
 have hD:=h.hD
 have es:=aBr enQ v (fun l=>aPL v l) s
 have ew:=aBr wt v (fun l=>aDG v l) s
 have wr:=iZ h.restLk
 have wa:=iZ h.armLk
 have en1:sm enQ (iQ v s)=sm enQ (uS v s)+sm enQ (mQ (sm wt (bR v s)) (bR v s)):=sY _ _ _
 have mk:∀ z∈mQ (sm wt (bR v s)) (bR v s),Lk (D*nm D (sm wt (bR v s))) (2*X) z:=fun z hz=>(ha.each hz).2.2.1
 have wm:=ha.mesh_le
 obtain⟨b1,b2⟩:=uN h.armLk (by omega) ha.hw
 obtain⟨b3,b4⟩:=uN mk (by omega) (by have:=ha.hw;grind)
 obtain⟨b5,b6⟩:=uN (fun x hx=>(g2 x hx).1) (by omega) (by rw[g5];grind)
 have e:(q-sm enQ s)+(bH (iQ v s) [] 0).2=q-sm enQ (bR v s)+sm enQ (mQ (sm wt (bR v s)) (bR v s))-sm enQ (bH (iQ v s) [] 0).1:=by
  rw[g4,en1,es];grind
 have d1:Dv (D*nm D (sm wt (bR v s))*pn D (bR v s)) (sm enQ (bR v s)):=by
  refine xI (aGN h.hD fun x hx=>(h.armLk x hx).sc) ?_
  rw[Nat.mul_right_comm]
  exact Nat.dvd_mul_right _ _
 have d2:Dv (D*nm D (sm wt (bR v s))*pn D (bR v s)) (sm enQ (mQ (sm wt (bR v s)) (bR v s))):=aGY fun z hz=>(ha.each hz).2.2.2.1
 have d3:Dv (D*nm D (sm wt (bR v s))*pn (D*nm D (sm wt (bR v s))) (bH (iQ v s) [] 0).1) (sm enQ (bH (iQ v s) [] 0).1):=aGN hD' fun x hx=>(g2 x hx).1.sc
 have d1':=rR (pn (D*nm D (sm wt (bR v s))) (bH (iQ v s) [] 0).1) d1
 have d2':=rR (pn (D*nm D (sm wt (bR v s))) (bH (iQ v s) [] 0).1) d2
 have d3':=rR (pn D (bR v s)) d3
 rw[Nat.mul_right_comm]at d3'
 have up:∀ {U:Nat} {p:Q},Dv U p->Dv (T*U) p:=fun hp=>by rw[Nat.mul_comm];exact rR T hp
 have d:=uQ (nH (uQ (rR (D*nm D (sm wt (bR v s))*pn D (bR v s)*pn (D*nm D (sm wt (bR v s))) (bH (iQ v s) [] 0).1) hq) (up d1')) (up d2')) (up d3')
 rw[e]
 have p1:pn D (bR v s)<=(72*D) ^ (V.length-1):=Nat.le_trans (aFI (W:=72) h.hD (fun x hx=>(h.armLk x hx).sc) (fun x hx=>ha.le hx)) (Nat.pow_le_pow_right (by omega) h.armLen)
 have p2:pn (D*nm D (sm wt (bR v s))) (bH (iQ v s) [] 0).1<=(72*(D*(72*D))) ^ tri (V.length-1):=by
  have l1:=aC7 (h.hV.erase v) g3 (fun x hx=>(g2 x hx).2)
  rw[List.length_erase_of_mem h.hv]at l1
  have l2:=aCP (K:=V.length-1) (by have:=r.k6;omega)
  have l3:=aFI (W:=72) hD' (fun x hx=>(g2 x hx).1.sc) (fun x hx=>by
   have:=xC (fun y hy=>(g2 y hy).1) hx
   show x.w<=72;grind)
  exact Nat.le_trans l3 (Nat.le_trans (Nat.pow_le_pow_right (by omega) (by omega)) (Nat.pow_le_pow_left (Nat.mul_le_mul_left _ hDN) _))
 have q1:0<pn D (bR v s):=aCS h.hD fun x hx=>(h.armLk x hx).sc
 have q2:0<pn (D*nm D (sm wt (bR v s))) (bH (iQ v s) [] 0).1:=aCS hD' fun x hx=>(g2 x hx).1.sc
 have c4:((4*10 ^ 8:Nat):Q)=4*((10 ^ 8:Nat):Q):=_root_.Rat.natCast_mul 4 (10 ^ 8)
 have c5:=aAU (10 ^ 8)
 refine aIL (B:=4*10 ^ 8) (Nat.mul_pos hT (Nat.mul_pos (Nat.mul_pos hD' q1) q2)) d ?_ ?_ (by omega) (Nat.lt_of_le_of_lt (Nat.mul_le_mul_left _ (Nat.mul_le_mul_left T (Nat.mul_le_mul (Nat.mul_le_mul hDN p1) p2))) r.c3)
 · rw[c4];grind
 · rw[c4];grind
theorem aNV {order:List Int}{v:Int}{own:List QL}{b:List NQ}{T X:Nat}{V:List Int}(h:Inc (aBl v b) T X V v (own++mP v b)) :
 mO order v (own.map QL.toL) (b.map NQ.toN)=some (aCA order v own b).toN/\cC (aCA order v own b).enQ/\0<(aCA order v own b).den/\(aCA order v own b).den<=aBl v b*(72*aBl v b)/\
 (∀ x∈(aCA order v own b).msgs,Lk (aCA order v own b).den (2*X) x/\inV (V.erase v) x)/\(aCA order v own b).msgs.Pairwise dH/\sm wt (aCA order v own b).msgs<=sm wt (own++mP v b):=by
 obtain⟨j1,j2,j3,j4⟩:=h.join
 obtain⟨g1,g2,g3,g4,g5⟩:=j2.nextIn h.room
 obtain⟨n1,n2⟩:=j2.next rfl
 have ha:=j2.arms
 obtain⟨a1,a2⟩:=ha.nN
 obtain⟨e1,f1,f2⟩:=aQG h.fo j1
 have e2:=aQH f1 ha
 obtain⟨e3,f3,f4⟩:=aQG (fun x hx=>⟨(n1 x hx).2.2.2.1,(n1 x hx).2.2.2.2⟩) g1
 obtain⟨s1,s2⟩:=uN (fun x hx=>(h.lk x hx).1) (by have:=h.hX;omega) h.hw
 have f5:=j2.sumFits h.room h.hT (aGY fun x hx=>(h.lk x hx).2.2) s1 s2
 rw[<- j3]at f5
 refine⟨?_,f5,Nat.mul_pos h.hD a1,Nat.mul_le_mul_left _ a2,g2,g3,?_⟩
 · unfold mO
   rw[aP5,<- List.map_append,e1]
   simp only[Option.bind_some]
   unfold aBy
   rw[e2]
   simp only[Option.bind_some]
   rw[aNw,<- List.map_append]
   have e4:uS v (bH (own++mP v b) [] 0).1++mQ (sm wt (bR v (bH (own++mP v b) [] 0).1)) (bR v (bH (own++mP v b) [] 0).1)=iQ v (bH (own++mP v b) [] 0).1:=rfl
   rw[e4,e3]
   simp only[Option.map_some,Option.bind_some]
   rw[aHg f2 f4 f5,if_pos (uA f5),aR4]
   rfl
 · show sm wt (bH (iQ v (bH (own++mP v b) [] 0).1) [] 0).1<=_
   rw[g5,<- j4]
   exact n2
end Go.Ev
/- First in an order; products; room by numbers. -/
namespace Go.Ev
set_option linter.all false
theorem aBR {o s:List Int}(h1:∀ u∈o,1<=u):(aQ o s=0/\∀ u∈o,u∉s)\/∃ p v r,o=p++v::r/\aQ o s=v/\v∈s/\∀ u∈p,u∉s:=by
 unfold aQ
 cases h:o.find? (fun u=>decide (u∈s))with
 | none =>
  refine .inl ⟨rfl,fun u hu hs=>?_⟩
  have:=List.find?_eq_none.1 h u hu
  simp[hs]at this
 | some v =>
  obtain⟨hv,p,r,e,hp⟩:=List.find?_eq_some_iff_append.1 h
  exact .inr ⟨p,v,r,e,rfl,of_decide_eq_true hv,fun u hu hs=>by have:=hp u hu;simp[hs]at this⟩
theorem aCj {p r s:List Int}(h:∀ u∈p,u∉s):aQ (p++r) s=aQ r s:=by
 unfold aQ
 rw[List.find?_append]
 have:p.find? (fun u=>decide (u∈s))=none:=List.find?_eq_none.2 fun u hu=>by simp[h u hu]
 rw[this];rfl
theorem aJU {v:Int}{r s:List Int}(h:v∈s):aQ (v::r) s=v:=by
 unfold aQ
 rw[List.find?_cons]
 simp[h]
theorem yR {p r s:List Int}{v:Int}(hn:(p++v::r).Nodup)(h1:∀ u∈p++v::r,1<=u):aQ (p++v::r) s=v↔v∈s/\∀ u∈p,u∉s:=by
 constructor
 · intro h
   rcases aBR (s:=s) h1 with⟨h2,h3⟩ | ⟨p',v',r',e,h2,h3,h4⟩
   · have:=h1 v (by simp);omega
   · rw[h]at h2
     subst h2
     have hp:p=p':=by
      have n2:=hn
      rw[e]at n2
      have a1:=List.nodup_append.1 hn
      have a2:=List.nodup_append.1 n2
      have b1:v∉p:=fun hv=>a1.2.2 v hv v (by simp) rfl
      have b2:v∉p':=fun hv=>a2.2.2 v hv v (by simp) rfl
      have c1:(p++v::r).takeWhile (fun u=>decide (u≠v))=p:=by
       rw[List.takeWhile_append_of_pos (fun u hu=>by have:u≠v:=fun e=>b1 (e▸hu);simpa using this)]
       simp
      have c2:(p'++v::r').takeWhile (fun u=>decide (u≠v))=p':=by
       rw[List.takeWhile_append_of_pos (fun u hu=>by have:u≠v:=fun e=>b2 (e▸hu);simpa using this)]
       simp
      rw[<- c1,e,c2]
     subst hp
     exact⟨h3,h4⟩
 · rintro⟨h2,h3⟩
   rw[aCj h3,aJU h2]
theorem aJT {p r s:List Int}(h1:∀ u∈p++r,1<=u)(h:∀ u∈p,u∉s):(aQ (p++r) s=0/\∀ u∈r,u∉s)\/(aQ (p++r) s∈r/\aQ (p++r) s∈s):=by
 rw[aCj h]
 rcases aBR (s:=s) (fun u hu=>h1 u (List.mem_append_right p hu))with h | ⟨p',v,r',e,h2,h3,_⟩
 · exact .inl h
 · exact .inr (by rw[h2];exact⟨by rw[e];simp,h3⟩)
theorem xV {α:Type}{f:α->Nat}:∀ {l:List α},(∀ x∈l,0<f x)->0<dQ f l
 | [],_=>by simp[dQ]
 | x::l,h=>Nat.mul_pos (h x (by simp)) (xV fun y hy=>h y (by simp[hy]))
theorem aB9 {α:Type}{f:α->Nat}:∀ {l:List α} {x:α},x∈l->f x∣dQ f l
 | y::l,x,h=>by
  rw[dQ]
  rcases List.mem_cons.1 h with rfl | h
  · exact Nat.dvd_mul_right _ _
  · exact Nat.dvd_trans (aB9 h) (Nat.dvd_mul_left _ _)
theorem aHy {α:Type}(f:α->Nat):∀ a b:List α,dQ f (a++b)=dQ f a*dQ f b
 | [],b=>by simp[dQ]
 | x::a,b=>by rw[List.cons_append,dQ,dQ,aHy f a b,Nat.mul_assoc]
theorem aFG {α:Type}{f g:α->Nat}:∀ {l:List α},(∀ x∈l,f x<=g x)->dQ f l<=dQ g l
 | [],_=>Nat.le_refl _
 | x::l,h=>Nat.mul_le_mul (h x (by simp)) (aFG fun y hy=>h y (by simp[hy]))
theorem aDT {α:Type}(f:α->Nat)(k:Nat):∀ l:List α,dQ (fun x=>f x ^ k) l=dQ f l ^ k
 | []=>by simp[dQ]
 | x::l=>by rw[dQ,dQ,aDT f k l,Nat.mul_pow]
theorem aDf {α:Type}(f:α->Nat):∀ l:List α,l≠[]->72*dQ f l<=dQ (fun x=>72*f x) l
 | [x],_=>by simp[dQ]
 | x::y::l,_=>by
  have:=aDf f (y::l) (by simp)
  rw[dQ,dQ,<- Nat.mul_assoc]
  refine Nat.mul_le_mul_left _ (Nat.le_trans ?_ this)
  exact Nat.le_mul_of_pos_left _ (by omega)
theorem aEl {α:Type}(f:α->Nat)(p:α->Bool):∀ l:List α,dQ f l=dQ f (l.filter p)*dQ f (l.filter fun x=>!p x)
 | []=>rfl
 | x::l=>by
  rw[List.filter_cons,List.filter_cons,dQ,aEl f p l]
  cases p x
  · simp only[Bool.false_eq_true,if_false,Bool.not_false,if_true,dQ]
    rw[Nat.mul_left_comm]
  · simp only[if_true,Bool.not_true,Bool.false_eq_true,if_false,dQ,Nat.mul_assoc]
def ex (k:Nat):Nat:=72 ^ 2 ^ k
theorem aNb:∀ a b:Nat,a<=b->b<=6->tri a<=tri b:=by
 have:∀ b,b<=6->∀ a,a<=b->tri a<=tri b:=by decide
 exact fun a b h g=>this b g a h
theorem aPq {D T K k:Nat}(hD:0<D)(hk:K+k<=6)(hK:2<=K)(h1:72*D<=ex k)(h2:T<=ex k ^ (tri K+1)):Room D T K:=by
 have hF:0<ex k:=by unfold ex;exact Nat.pow_pos (by omega)
 have hk4:k<=4:=by omega
 have k6:K<=6:=by omega
 have d0:D<=ex k:=by omega
 have m1:72*(D*(72*D))<=ex k*ex k:=by rw[<- Nat.mul_assoc];exact Nat.mul_le_mul h1 h1
 have m2:D*(72*D)<=ex k*ex k:=Nat.mul_le_mul d0 h1
 have e1:T*(D*(72*D) ^ tri K)<=ex k ^ (tri K+1)*(ex k*ex k ^ tri K):=Nat.mul_le_mul h2 (Nat.mul_le_mul d0 (Nat.pow_le_pow_left h1 _))
 have e2:(D*(72*D))*(72*D) ^ tri K*((D*(72*D))*(72*(D*(72*D))) ^ tri (K-1))<=(ex k*ex k)*ex k ^ tri K*((ex k*ex k)*(ex k*ex k) ^ tri (K-1)) :=
  Nat.mul_le_mul (Nat.mul_le_mul m2 (Nat.pow_le_pow_left h1 _)) (Nat.mul_le_mul m2 (Nat.pow_le_pow_left m1 _))
 have e3:T*((D*(72*D))*(72*D) ^ (K-1)*(72*(D*(72*D))) ^ tri (K-1))<=ex k ^ (tri K+1)*((ex k*ex k)*ex k ^ (K-1)*(ex k*ex k) ^ tri (K-1)) :=
  Nat.mul_le_mul h2 (Nat.mul_le_mul (Nat.mul_le_mul m2 (Nat.pow_le_pow_left h1 _)) (Nat.pow_le_pow_left m1 _))
 have num:∀ k,k<=4->∀ K,K<=6-k->2<=K->ex k<=PP/\10 ^ 8*(ex k ^ (tri K+1)*(ex k*ex k ^ tri K))<10 ^ 216/\(K<=2\/(ex k*ex k<=PP/\10 ^ 8*((ex k*ex k)*ex k ^ tri K*((ex k*ex k)*(ex k*ex k) ^ tri (K-1)))<10 ^ 216))/\4*10 ^ 8*(ex k ^ (tri K+1)*((ex k*ex k)*ex k ^ (K-1)*(ex k*ex k) ^ tri (K-1)))<10 ^ 216:=by
  unfold ex PP;decide
 obtain⟨n1,n2,n3,n4⟩:=num k hk4 K (by omega) hK
 rw[<- aPb]at n2 n3 n4
 refine⟨k6,Nat.le_trans h1 n1,Nat.lt_of_le_of_lt (Nat.mul_le_mul_left _ e1) n2,?_,Nat.lt_of_le_of_lt (Nat.mul_le_mul_left _ e3) n4⟩
 rcases n3 with n3 | ⟨n3,n5⟩
 · exact .inl n3
 · exact .inr ⟨Nat.le_trans m1 n3,Nat.lt_of_le_of_lt (Nat.mul_le_mul_left _ e2) n5⟩
end Go.Ev
/- Trees over the rational numbers: the front of the next node. -/
namespace Go.Ev
set_option linter.all false
def kB (o:List Int)(v:Int)(x:QL):Bool:=decide (aQ o [x.a,x.b]=v)
def psN (c:CQ):List Int:=c.ps.map (·.node)
structure Base (l:List QL)(o:List Int):Prop where
 nd:o.Nodup
 h1:∀ u∈o,1<=u/\u<=9
 len:o.length<=5
 lk:∀ x∈l,Lk 1 20 x/\inV (0::o) x/\Dv 1 (enQ x)
 hw:sm wt l<=72
def iS (rem:List Int)(c:NQ):Bool:=decide (c.up∈rem)
def kid (v:Int)(c:NQ):Bool:=decide (c.up=v)
def ex' (k:Nat):Nat:=if k=0 then 1 else ex k
theorem aK0 (k:Nat):ex' k<=ex k:=by
 unfold ex'
 split
 · exact Nat.pow_pos (by omega)
 · exact Nat.le_refl _
def aM0 (l:List QL)(o rem:List Int)(b:List NQ)(u w:Int):Prop :=
 (∃ x∈l,aQ o [x.a,x.b]∈rem/\((x.a=u/\x.b=w)\/(x.a=w/\x.b=u)))\/∃ c∈b,c.up∈rem/\u∈psN c.cond/\w∈psN c.cond
def dU (b:List NQ):List QL:=b.flatMap (·.msgs)
structure TInv (l:List QL)(o pre rem:List Int)(b:List NQ):Prop where
 split:o=pre++rem
 len:b.length=pre.length
 den:∀ c∈b,c.up∈rem->0<c.den
 msg:∀ c∈b,c.up∈rem->(∀ x∈c.msgs,Lk c.den (20*2 ^ b.length) x)/\c.msgs.Pairwise dH
 ps:∀ c∈b,c.up∈rem->(∀ u∈psN c.cond,u∈0::rem)/\c.up=aQ o (psN c.cond)/\(∀ x∈c.msgs,x.a∈psN c.cond/\x.b∈psN c.cond/\x.a<x.b)/\∀ u∈psN c.cond,∀ w∈psN c.cond,u<w->∃ x∈c.msgs,x.a=u/\x.b=w
 prod:dQ (fun c:NQ=>72*c.den) (b.filter (iS rem))<=ex' b.length
 wtt:sm wt (dU (b.filter (iS rem)))+sm wt (l.filter fun x=>decide (aQ o [x.a,x.b]∈rem))<=72
 cut:∀ S:Int->Prop,(∃ u∈rem,S u)->¬S 0->∃ u w,S u/\¬S w/\aM0 l o rem b u w
theorem aHS {pre rem s:List Int}(hn:(pre++rem).Nodup)(h1:∀ u∈pre++rem,1<=u)(h:aQ (pre++rem) s∈rem):∀ u∈pre,u∉s:=by
 obtain⟨r1,r2,e⟩:=List.append_of_mem h
 have e2:pre++rem=(pre++r1)++aQ (pre++rem) s::r2:=(congrArg (pre++·) e).trans (List.append_assoc pre r1 _).symm
 generalize hw:aQ (pre++rem) s=w at e e2
 rw[e2]at hw hn h1
 have:=(yR hn h1).1 hw
 exact fun u hu=>this.2 u (List.mem_append_left _ hu)
theorem aBt (f:QL->Q)(p:QL->Bool):∀ l:List QL,sm f l=sm f (l.filter p)+sm f (l.filter fun x=>!p x)
 | []=>by simp only[List.filter_nil,sm];grind
 | x::l=>by
  have ih:=aBt f p l
  rw[List.filter_cons,List.filter_cons,sm]
  cases p x
  · simp only[Bool.false_eq_true,if_false,Bool.not_false,if_true,sm];grind
  · simp only[if_true,Bool.not_true,Bool.false_eq_true,if_false,sm];grind
theorem aCU (f:QL->Q)(p:NQ->Bool):∀ b:List NQ,sm f (dU b)=sm f (dU (b.filter p))+sm f (dU (b.filter fun x=>!p x))
 | []=>by simp only[dU,List.filter_nil,List.flatMap_nil,sm];grind
 | x::b=>by
  have ih:=aCU f p b
  unfold dU at ih ⊢
  rw[List.filter_cons,List.filter_cons,List.flatMap_cons,sY,ih]
  cases p x
  · simp only[Bool.false_eq_true,if_false,Bool.not_false,if_true,List.flatMap_cons,sY];grind
  · simp only[if_true,Bool.not_true,Bool.false_eq_true,if_false,List.flatMap_cons,sY];grind
theorem aGe {v:Int}{r:List Int}(b:List NQ):(b.filter (iS (v::r))).filter (kid v)=b.filter (kid v):=by
 rw[List.filter_filter]
 refine List.filter_congr fun c _=>?_
 unfold iS kid
 by_cases e:c.up=v <;> simp[e]
theorem aD4 {v:Int}{r:List Int}(hv:v∉r)(b:List NQ):(b.filter (iS (v::r))).filter (fun c=>!kid v c)=b.filter (iS r):=by
 rw[List.filter_filter]
 refine List.filter_congr fun c _=>?_
 unfold iS kid
 by_cases e:c.up=v
 · simp[e,hv]
 · simp[e]
theorem aMn {v:Int}{r o:List Int}(hv:v∉r)(l:List QL):sm wt (l.filter fun x=>decide (aQ o [x.a,x.b]∈v::r))=sm wt (l.filter (kB o v))+sm wt (l.filter fun x=>decide (aQ o [x.a,x.b]∈r)):=by
 rw[aBt wt (kB o v),List.filter_filter,List.filter_filter]
 congr 2
 · refine List.filter_congr fun x _=>?_
   unfold kB
   by_cases e:aQ o [x.a,x.b]=v <;> simp[e]
 · refine List.filter_congr fun x _=>?_
   unfold kB
   by_cases e:aQ o [x.a,x.b]=v
   · simp[e,hv]
   · simp[e]
end Go.Ev
/- Trees over the rational numbers: what comes into the next front. -/
namespace Go.Ev
set_option linter.all false
theorem aCb {pre r:List Int}{v:Int}(hn:(pre++v::r).Nodup)(h1:∀ u∈pre++v::r,1<=u){x:QL}:kB (pre++v::r) v x=true↔(x.a=v\/x.b=v)/\x.a∉pre/\x.b∉pre:=by
 unfold kB
 rw[decide_eq_true_eq,yR hn h1]
 simp only[List.mem_cons,List.not_mem_nil,or_false]
 constructor
 · rintro⟨h2,h3⟩
   exact⟨by rcases h2 with h | h <;> simp[h],fun h=>h3 _ h (.inl rfl),fun h=>h3 _ h (.inr rfl)⟩
 · rintro⟨h2,h3,h4⟩
   refine⟨by rcases h2 with h | h <;> simp[h],fun u hu hh=>?_⟩
   rcases hh with rfl | rfl
   · exact h3 hu
   · exact h4 hu
theorem aQM {pre rem:List Int}{x:QL}(hv:inV (0::(pre++rem)) x)(h:∀ u∈pre,u∉[x.a,x.b]):inV (0::rem) x:=by
 obtain⟨h1,h2,h3⟩:=hv
 have key:∀ u,u∈[x.a,x.b]->u∈0::(pre++rem)->u∈0::rem:=by
  intro u hu hm
  simp only[List.mem_cons,List.mem_append]at hm ⊢
  rcases hm with h4 | h4 | h4
  · exact .inl h4
  · exact absurd hu (h u h4)
  · exact .inr h4
 exact⟨key _ (by simp) h1,key _ (by simp) h2,h3⟩
section
variable {l:List QL}{o pre r:List Int}{v:Int}{b:List NQ}
theorem TInv.facts (hb:Base l o)(hi:TInv l o pre (v::r) b):(pre++v::r).Nodup/\(∀ u∈pre++v::r,1<=u)/\v∉r/\1<=v/\v<=9/\r.length+1+b.length<=5/\(0::v::r).Nodup/\∀ u∈0::v::r,0<=u/\u<=9:=by
 have e:=hi.split
 have n:=hb.nd
 have h1:=hb.h1
 have len:=hb.len
 rw[e]at n h1 len
 have n2:=(List.nodup_append.1 n).2.1
 have a1:=h1 v (by simp)
 have hr:∀ u∈v::r,1<=u/\u<=9:=fun u hu=>h1 u (List.mem_append_right _ hu)
 refine⟨n,fun u hu=>(h1 u hu).1,(List.nodup_cons.1 n2).1,a1.1,a1.2,?_,List.nodup_cons.2 ⟨fun h=>?_,n2⟩,fun u hu=>?_⟩
 · have:=hi.len
   simp only[List.length_append,List.length_cons]at len
   omega
 · have:=hr 0 h;omega
 · rcases List.mem_cons.1 hu with rfl | hu
   · omega
   · have:=hr u hu;omega
theorem qK {x:QL}:x∈mP v b↔∃ c∈b,c.up=v/\x∈c.msgs:=by
 unfold mP
 rw[List.mem_flatMap]
 constructor
 · rintro⟨c,hc,hx⟩
   rw[List.mem_filter,decide_eq_true_eq]at hc
   exact⟨c,hc.1,hc.2,hx⟩
 · rintro⟨c,hc,h,hx⟩
   exact⟨c,List.mem_filter.2 ⟨hc,decide_eq_true h⟩,hx⟩
theorem TInv.kids (hi:TInv l o pre (v::r) b):dQ (fun c:NQ=>72*c.den) (b.filter (kid v))*dQ (fun c:NQ=>72*c.den) (b.filter fun c=>iS (v::r) c&&!kid v c)<=ex' b.length/\0<dQ (fun c:NQ=>72*c.den) (b.filter fun c=>iS (v::r) c&&!kid v c)/\0<dQ (fun c:NQ=>72*c.den) (b.filter (kid v)):=by
 have h:=hi.prod
 rw[aEl _ (kid v),aGe,List.filter_filter]at h
 have e:(fun a=>!kid v a&&iS (v::r) a)=fun c=>iS (v::r) c&&!kid v c:=by funext c;rw[Bool.and_comm]
 rw[e]at h
 refine⟨h,xV fun c hc=>?_,xV fun c hc=>?_⟩
 · rw[List.mem_filter,Bool.and_eq_true]at hc
   have:=hi.den c hc.1 (of_decide_eq_true hc.2.1)
   omega
 · rw[List.mem_filter]at hc
   have hu:=of_decide_eq_true hc.2
   have:=hi.den c hc.1 (by rw[hu];simp)
   omega
theorem aH6 (hi:TInv l o pre (v::r) b)(hb:Base l o):sm wt (l.filter (kB o v)++mP v b)+(sm wt (dU (b.filter (iS r)))+sm wt (l.filter fun x=>decide (aQ o [x.a,x.b]∈r)))<=72/\
 (∀ c∈b,c.up∈v::r->∀ x∈c.msgs,x.w<=72):=by
 obtain⟨n,h1,hv,_⟩:=hi.facts hb
 have h:=hi.wtt
 have h0:=h
 rw[aCU wt (kid v),aGe,aD4 hv,aMn hv]at h
 rw[sY]
 have e:dU (b.filter (kid v))=mP v b:=rfl
 rw[e]at h
 refine⟨by grind,fun c hc hu x hx=>?_⟩
 have hm:x∈dU (b.filter (iS (v::r))):=List.mem_flatMap.2 ⟨c,List.mem_filter.2 ⟨hc,decide_eq_true hu⟩,hx⟩
 have nn:∀ y∈dU (b.filter (iS (v::r))),0<=wt y:=by
  intro y hy
  obtain⟨d,hd,hy⟩:=List.mem_flatMap.1 hy
  rw[List.mem_filter]at hd
  have:=((hi.msg d hd.1 (of_decide_eq_true hd.2)).1 y hy).sc.1
  unfold wt;grind
 have h2:=aIf nn x hm
 have h3:0<=sm wt (l.filter fun x=>decide (aQ o [x.a,x.b]∈v::r)):=iZ fun y hy=>(hb.lk y (List.mem_filter.1 hy).1).1
 have e2:wt x=x.w:=rfl
 grind
theorem aLX (hb:Base l o)(hi:TInv l o pre (v::r) b){c:NQ}(hc:c∈b)(hu:c.up=v):0<c.den*pn c.den c.msgs/\c.den*pn c.den c.msgs<=(72*c.den) ^ (tri (r.length+2)+1):=by
 obtain⟨n,h1,hv,_,_,hl,nV,hV⟩:=hi.facts hb
 have hu':c.up∈v::r:=by rw[hu];simp
 obtain⟨m1,m2⟩:=hi.msg c hc hu'
 obtain⟨p1,p2,p3,p4⟩:=hi.ps c hc hu'
 have hd:=hi.den c hc hu'
 have l1:=aC7 nV m2 (fun x hx=>⟨p1 _ (p3 x hx).1,p1 _ (p3 x hx).2.1,(p3 x hx).2.2⟩)
 have eV:(0::v::r).length=r.length+2:=rfl
 rw[eV]at l1
 have l2:=aCP (K:=r.length+2) (by omega)
 have l3:=aFI (W:=72) hd (fun x hx=>(m1 x hx).sc) (fun x hx=>(aH6 hi hb).2 c hc hu' x hx)
 refine⟨Nat.mul_pos hd (aCS hd fun x hx=>(m1 x hx).sc),?_⟩
 rw[Nat.pow_succ,Nat.mul_comm ((72*c.den) ^ _)]
 exact Nat.mul_le_mul (by omega) (Nat.le_trans l3 (Nat.pow_le_pow_right (by omega) (by omega)))
theorem TInv.inc (hb:Base l o)(hi:TInv l o pre (v::r) b) :
 Inc (aBl v b) (dQ (fun c:NQ=>c.den*pn c.den c.msgs) (b.filter (kid v))) (20*2 ^ b.length) (0::v::r) v (l.filter (kB o v)++mP v b):=by
 obtain⟨n,h1,hv,v1,v9,hl,nV,hV⟩:=hi.facts hb
 have kd:∀ c∈b.filter (kid v),c∈b/\c.up=v/\c.up∈v::r:=fun c hc=>by
  rw[List.mem_filter]at hc
  have:=of_decide_eq_true hc.2
  exact⟨hc.1,this,by rw[this];simp⟩
 have hD:0<aBl v b:=xV fun c hc=>hi.den c (kd c hc).1 (kd c hc).2.2
 obtain⟨k1,k2,k3⟩:=hi.kids
 have hH:dQ (fun c:NQ=>72*c.den) (b.filter (kid v))<=ex b.length:=Nat.le_trans (Nat.le_trans (Nat.le_mul_of_pos_right _ k2) k1) (aK0 _)
 have ex72:72<=ex b.length:=by
  unfold ex
  have:1<=2 ^ b.length:=Nat.one_le_two_pow
  calc 72=72 ^ 1:=rfl
   _<=_:=Nat.pow_le_pow_right (by omega) this
 have hX:20*2 ^ b.length<=20*2 ^ 4:=Nat.mul_le_mul_left _ (Nat.pow_le_pow_right (by omega) (by omega))
 refine⟨hD,xV fun c hc=>(aLX hb hi (kd c hc).1 (kd c hc).2.1).1,by omega,Nat.mul_pos (by omega) (Nat.pow_pos (by omega)),?_,?_,nV,hV,by simp,v1,?_,?_⟩
 · intro x hx
   rcases List.mem_append.1 hx with hx | hx
   · rw[List.mem_filter]at hx
     obtain⟨l1,l2,l3⟩:=hb.lk x hx.1
     refine⟨aKl l1 (Nat.one_dvd _) (by have:1<=2 ^ b.length:=Nat.one_le_two_pow;omega),?_,xI l3 (Nat.one_dvd _)⟩
     have e:=hi.split
     rw[e]at l2 hx
     obtain⟨_,a2,a3⟩:=(aCb n h1).1 hx.2
     refine aQM l2 fun u hu hm=>?_
     simp only[List.mem_cons,List.not_mem_nil,or_false]at hm
     rcases hm with rfl | rfl
     · exact a2 hu
     · exact a3 hu
   · obtain⟨c,hc,hu,hx⟩:=qK.1 hx
     have hk:c∈b.filter (kid v):=List.mem_filter.2 ⟨hc,decide_eq_true hu⟩
     have hu':c.up∈v::r:=by rw[hu];simp
     have hd:=hi.den c hc hu'
     obtain⟨m1,m2⟩:=hi.msg c hc hu'
     obtain⟨p1,p2,p3,p4⟩:=hi.ps c hc hu'
     refine⟨aKl (m1 x hx) (aB9 (f:=fun c:NQ=>c.den) hk) (Nat.le_refl _),⟨p1 _ (p3 x hx).1,p1 _ (p3 x hx).2.1,(p3 x hx).2.2⟩,?_⟩
     exact xI (aKi hd (m1 x hx).sc) (Nat.dvd_trans (Nat.mul_dvd_mul_left _ (aFH _ x hx)) (aB9 (f:=fun c:NQ=>c.den*pn c.den c.msgs) hk))
 · have:=(aH6 hi hb).1
   have a1:0<=sm wt (l.filter fun x=>decide (aQ o [x.a,x.b]∈r)):=iZ fun y hy=>(hb.lk y (List.mem_filter.1 hy).1).1
   have a2:0<=sm wt (dU (b.filter (iS r))):=by
    refine pJ fun y hy=>?_
    obtain⟨d,hd,hy⟩:=List.mem_flatMap.1 hy
    rw[List.mem_filter]at hd
    have:=((hi.msg d hd.1 (List.mem_cons_of_mem v (of_decide_eq_true hd.2))).1 y hy).sc.1
    unfold wt;grind
   grind
 · obtain⟨u,w,s1,s2,adj⟩:=hi.cut (fun u=>u=v) ⟨v,by simp,rfl⟩ (by omega)
   subst s1
   rcases adj with⟨x,hx,hf,hp⟩ | ⟨c,hc,hu,p1,p2⟩
   · refine⟨x,List.mem_append_left _ (List.mem_filter.2 ⟨hx,?_⟩),by rcases hp with hp | hp <;> simp[hp]⟩
     have e:=hi.split
     rw[e]at hf ⊢
     have:=aHS n h1 hf
     refine(aCb n h1).2 ⟨by rcases hp with hp | hp <;> simp[hp],fun h=>this _ h (by simp),fun h=>this _ h (by simp)⟩
   · obtain⟨q1,q2,q3,q4⟩:=hi.ps c hc hu
     have e:=hi.split
     have hcu:c.up=u:=by
      rw[q2,e]
      refine(yR n h1).2 ⟨p1,fun z hz hm=>?_⟩
      have:=q1 z hm
      rcases List.mem_cons.1 this with rfl | h
      · have:=h1 0 (List.mem_append_left _ hz);omega
      · exact(List.nodup_append.1 n).2.2 z hz z h rfl
     rcases Int.lt_or_gt_of_ne s2 with h | h
     · obtain⟨x,hx,e1,e2⟩:=q4 w p2 u p1 h
       exact⟨x,List.mem_append_right _ (qK.2 ⟨c,hc,hcu,hx⟩),.inr e2⟩
     · obtain⟨x,hx,e1,e2⟩:=q4 u p1 w p2 h
       exact⟨x,List.mem_append_right _ (qK.2 ⟨c,hc,hcu,hx⟩),.inl e1⟩
 · have eV:(0::v::r).length=r.length+2:=rfl
   rw[eV]
   refine aPq (k:=b.length) hD (by omega) (by omega) ?_ ?_
   · by_cases c:b.filter (kid v)=[]
     · have:aBl v b=1:=by
        have e:aBl v b=dQ (fun c:NQ=>c.den) (b.filter (kid v)):=rfl
        rw[e,c];rfl
       rw[this];omega
     · exact Nat.le_trans (aDf _ _ c) hH
   · refine Nat.le_trans (aFG (g:=fun c:NQ=>(72*c.den) ^ (tri (r.length+2)+1)) fun c hc=>(aLX hb hi (kd c hc).1 (kd c hc).2.1).2) ?_
     rw[aDT]
     exact Nat.pow_le_pow_left hH _
end
end Go.Ev
/- Trees over the rational numbers: the invariant goes on. -/
namespace Go.Ev
set_option linter.all false
theorem aBA (v:Int)(a:List QL):psN (pE v a)=a.map fun x=>x.a:=by
 unfold psN pE
 simp only[List.map_map]
 rfl
section
variable {l:List QL}{o pre r:List Int}{v:Int}{b:List NQ}
def nxt (l:List QL)(o:List Int)(v:Int)(b:List NQ):NQ:=aCA o v (l.filter (kB o v)) b
theorem aFN {u:Int}:u∈psN (nxt l o v b).cond↔∃ y∈(bH (l.filter (kB o v)++mP v b) [] 0).1,(y.a=v\/y.b=v)/\u=(aBm v y).a:=by
 have e:psN (nxt l o v b).cond=(bR v (bH (l.filter (kB o v)++mP v b) [] 0).1).map fun x=>x.a:=aBA v _
 rw[e,List.mem_map]
 constructor
 · rintro⟨x,hx,rfl⟩
   obtain⟨y,hy,ht,rfl⟩:=wQ.1 hx
   exact⟨y,hy,ht,rfl⟩
 · rintro⟨y,hy,ht,rfl⟩
   exact⟨_,wQ.2 ⟨y,hy,ht,rfl⟩,rfl⟩
theorem aAP {z:QL}(hz:z∈l.filter (kB o v)++mP v b)(h:z.a<z.b){u:Int}(hu:(z.a=v/\z.b=u)\/(z.a=u/\z.b=v)):u∈psN (nxt l o v b).cond:=by
 obtain⟨y,hy,e1,e2⟩:=vH _ [] 0 z (.inr hz)
 rw[aFN]
 have ht:y.a=v\/y.b=v:=by rw[<- e1,<- e2];rcases hu with hu | hu <;> simp[hu]
 refine⟨y,hy,ht,?_⟩
 have:=yV ht (by omega)
 omega
theorem TInv.kid_ps (hb:Base l o)(hi:TInv l o pre (v::r) b){c:NQ}(hc:c∈b)(hu:c.up=v):v∈psN c.cond/\∀ u∈psN c.cond,u≠v->u∈psN (nxt l o v b).cond:=by
 have hu':c.up∈v::r:=by rw[hu];simp
 obtain⟨p1,p2,p3,p4⟩:=hi.ps c hc hu'
 obtain⟨n,h1,hv,v1,v9,hl,nV,hV⟩:=hi.facts hb
 have vm:v∈psN c.cond:=by
  have e:=hi.split
  rw[hu,e]at p2
  exact((yR n h1).1 p2.symm).1
 refine⟨vm,fun u hm hne=>?_⟩
 rcases Int.lt_or_gt_of_ne hne with h | h
 · obtain⟨x,hx,e1,e2⟩:=p4 u hm v vm h
   exact aAP (z:=x) (List.mem_append_right _ (qK.2 ⟨c,hc,hu,hx⟩)) (by omega) (.inr ⟨e1,e2⟩)
 · obtain⟨x,hx,e1,e2⟩:=p4 v vm u hm h
   exact aAP (z:=x) (List.mem_append_right _ (qK.2 ⟨c,hc,hu,hx⟩)) (by omega) (.inl ⟨e1,e2⟩)
theorem TInv.nxt_rem (hb:Base l o)(hi:TInv l o pre (v::r) b):∀ u∈psN (nxt l o v b).cond,u∈0::r/\u≠v:=by
 intro u hu
 have hj:=((hi.inc hb).join).2.1
 obtain⟨y,hy,ht,rfl⟩:=aFN.1 hu
 have:=hj.armV _ (wQ.2 ⟨y,hy,ht,rfl⟩)
 refine⟨?_,this.2⟩
 have h1:=this.1
 simp only[List.mem_cons]at h1 ⊢
 rcases h1 with h | h | h
 · exact .inl h
 · exact absurd h this.2
 · exact .inr h
theorem TInv.adj (hb:Base l o)(hi:TInv l o pre (v::r) b){u w:Int}(h:aM0 l o (v::r) b u w)(hne:u≠w) :
 (u=v->w∈psN (nxt l o v b).cond)/\(w=v->u∈psN (nxt l o v b).cond)/\(u≠v->w≠v->(u∈psN (nxt l o v b).cond/\w∈psN (nxt l o v b).cond)\/aM0 l o r b u w):=by
 obtain⟨n,h1,hv,v1,v9,hl,nV,hV⟩:=hi.facts hb
 have e:=hi.split
 rcases h with⟨x,hx,hf,hp⟩ | ⟨c,hc,hu,p1,p2⟩
 · have own:x.a=v\/x.b=v->x∈l.filter (kB o v):=fun ht=>by
    rw[e]at hf ⊢
    have:=aHS n h1 hf
    exact List.mem_filter.2 ⟨hx,(aCb n h1).2 ⟨ht,fun h=>this _ h (by simp),fun h=>this _ h (by simp)⟩⟩
   have hlt:=(hb.lk x hx).2.1.2.2
   refine⟨fun h2=>?_,fun h2=>?_,fun h2 h3=>.inr (.inl ⟨x,hx,?_,hp⟩)⟩
   · subst h2
     rcases hp with⟨g1,g2⟩ | ⟨g1,g2⟩
     · exact aAP (List.mem_append_left _ (own (.inl g1))) hlt (.inl ⟨g1,g2⟩)
     · exact aAP (List.mem_append_left _ (own (.inr g2))) hlt (.inr ⟨g1,g2⟩)
   · subst h2
     rcases hp with⟨g1,g2⟩ | ⟨g1,g2⟩
     · exact aAP (List.mem_append_left _ (own (.inr g2))) hlt (.inr ⟨g1,g2⟩)
     · exact aAP (List.mem_append_left _ (own (.inl g1))) hlt (.inl ⟨g1,g2⟩)
   · rcases List.mem_cons.1 hf with h4 | h4
     · exfalso
       have h5:=h4
       rw[e]at h5
       have:=((yR n h1).1 h5).1
       simp only[List.mem_cons,List.not_mem_nil,or_false]at this
       omega
     · exact h4
 · by_cases k:c.up=v
   · obtain⟨vm,hk⟩:=hi.kid_ps hb hc k
     exact⟨fun h2=>hk w p2 (by omega),fun h2=>hk u p1 (by omega),fun h2 h3=>.inl ⟨hk u p1 h2,hk w p2 h3⟩⟩
   · have hr:c.up∈r:=(List.mem_cons.1 hu).resolve_left k
     obtain⟨q1,q2,q3,q4⟩:=hi.ps c hc hu
     have nv:v∉psN c.cond:=fun hm=>by
      rw[e]at q2
      refine k (q2.trans ((yR n h1).2 ⟨hm,fun z hz hm=>?_⟩))
      rcases List.mem_cons.1 (q1 z hm)with rfl | h
      · have:=h1 0 (List.mem_append_left _ hz);omega
      · exact(List.nodup_append.1 n).2.2 z hz z h rfl
     exact⟨fun h2=>absurd (h2▸p1) nv,fun h2=>absurd (h2▸p2) nv,fun _ _=>.inr (.inr ⟨c,hc,hr,p1,p2⟩)⟩
theorem TInv.nxt_up (hb:Base l o)(hi:TInv l o pre (v::r) b){u:Int}(hu:u∈psN (nxt l o v b).cond)(h0:u≠0):(nxt l o v b).up∈r:=by
 obtain⟨n,h1,hv,v1,v9,hl,nV,hV⟩:=hi.facts hb
 have e:=hi.split
 have hr:=hi.nxt_rem hb
 have er:(nxt l o v b).up=aQ o (psN (nxt l o v b).cond):=rfl
 have e2:pre++v::r=(pre++[v])++r:=by simp
 have e3:aQ o (psN (nxt l o v b).cond)=aQ ((pre++[v])++r) (psN (nxt l o v b).cond):=congrArg (fun o'=>aQ o' (psN (nxt l o v b).cond)) (e.trans e2)
 rw[er,e3]
 have h1':∀ u∈(pre++[v])++r,1<=u:=by rw[<- e2];exact h1
 rcases aJT (p:=pre++[v]) (r:=r) (s:=psN (nxt l o v b).cond) h1' (fun z hz hm=>by
  obtain⟨g1,g2⟩:=hr z hm
  have zr:z∈r:=by
   rcases List.mem_cons.1 g1 with h | h
   · have:=h1' z (List.mem_append_left _ hz);omega
   · exact h
  rcases List.mem_append.1 hz with hz | hz
  · exact(List.nodup_append.1 n).2.2 z hz z (by simp[zr]) rfl
  · simp at hz;exact g2 hz)with⟨_,h⟩ | h
 · exact absurd hu (h u ((List.mem_cons.1 (hr u hu).1).resolve_left h0))
 · exact h.1
theorem aMi {P H:Nat}{D d k:Nat}(hH:0<H)(hP:0<P)(h:H*P<=ex' k)(hd:d<=D*(72*D))(hD:(D=1/\H=1)\/72*D<=H):P*(72*d)<=ex (k+1):=by
 have e:ex (k+1)=ex k*ex k:=by unfold ex;rw[Nat.pow_succ,Nat.pow_mul,Nat.pow_two]
 have h2:=aK0 k
 rcases hD with⟨rfl,rfl⟩ | hD
 · have hd2:72*d<=72*72:=by omega
   by_cases c:k=0
   · subst c
     have:ex' 0=1:=rfl
     rw[this]at h
     have hp1:P=1:=by omega
     rw[hp1,e]
     have:ex 0=72:=rfl
     rw[this];omega
   · have ek:72*72<=ex k:=by
      unfold ex
      have:2<=2 ^ k:=by
       calc 2=2 ^ 1:=rfl
        _<=_:=Nat.pow_le_pow_right (by omega) (by omega)
      calc 72*72=72 ^ 2:=rfl
       _<=_:=Nat.pow_le_pow_right (by omega) this
     rw[e]
     exact Nat.mul_le_mul (by omega) (by omega)
 · have a1:72*d<=H*H:=by
    calc 72*d<=72*(D*(72*D)):=Nat.mul_le_mul_left _ hd
     _=(72*D)*(72*D):=by rw[Nat.mul_assoc]
     _<=H*H:=Nat.mul_le_mul hD hD
   rw[e]
   calc P*(72*d)<=P*(H*H):=Nat.mul_le_mul_left _ a1
    _=(H*P)*H:=by rw[<- Nat.mul_assoc,Nat.mul_comm P H]
    _<=ex k*ex k:=Nat.mul_le_mul (by omega) (Nat.le_trans (Nat.le_mul_of_pos_right H hP) (by omega))
end
end Go.Ev
