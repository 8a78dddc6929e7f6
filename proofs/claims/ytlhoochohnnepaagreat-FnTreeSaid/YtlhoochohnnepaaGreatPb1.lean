/- Parts PF, P25, PQ1, PQ2, PQ3, PQ4, PQ5, PQ6, PQ8, PH, PQ9, PR1, P20. -/
import Derived.Test.YtlhoochohnnepaaGreatPa1
import Derived.Test.YtlhoochohnnepaaGreatLXd
set_option linter.all false
set_option maxHeartbeats 4000000
set_option maxRecDepth 20000
/- Plain laws of helpers over nested data, printed by program (fam.py). -/
namespace Go.Ev
def yE (x:(List Int)):Nat:=szL (fun _=>0) x
def vM (x:BigInt):Nat:=yE x.fMag
def bB (x:Rat):Nat:=vM x.fNum+yE x.fDen
def jN (x:Parent):Nat:=bB x.fShare+bB x.fDX+bB x.fDY
def nT (x:(List Parent)):Nat:=szL jN x
def aV (x:Conditional):Nat:=bB x.fTotal+nT x.fParents
def bW (x:Link):Nat:=bB x.fWeight+bB x.fDX+bB x.fDY
def aK (x:(List Link)):Nat:=szL bW x
def bU (x:TreeNode):Nat:=aK x.fOwn+aV x.fCond+aK x.fMessages+bB x.fEnergy
def pN (x:(List TreeNode)):Nat:=szL bU x
def mP (x:Tree):Nat:=pN x.fNodes
/- Fractions made of whole numbers: both programs make the same. -/
theorem wu {n:Int}(h:0<=n/\n<=18446744073709551615):IntKind.u64.wrap n=n:=by
 have:IntKind.u64.wrap n=n % 18446744073709551616:=by simp[IntKind.wrap,IntKind.bits,IntKind.signed]
 rw[this];omega
theorem aFX (v:Nat):((v:Int)).tmod 1000000000=((v % BB:Nat):Int):=by
 rw[Int.tmod_eq_emod_of_nonneg (by omega),dN];omega
theorem aFY (v:Nat):((v:Int)).tdiv 1000000000=((v / BB:Nat):Int):=by
 rw[Int.tdiv_eq_ediv_of_nonneg (by omega),dN];omega
theorem aGz:∀ (v:Nat) (t:List Int),v<18446744073709551616->t.length+(aA v).length<=1000->lp jI ((v:Int),t)=some (t++aA v):=by
 intro v
 induction v using Nat.strongRecOn with
 | _ v ih =>
  intro t hv ht
  by_cases h:v=0
  · subst h
    rw[bC,aUJ]
    exact aJ (by unfold jI;simp)
  · rw[iI h,aUh]at ht
    have hm:=aVw v vC
    have hd:=aWe v BB
    rw[dN]at hm
    have e:jI ((v:Int),t)=some (.inl (((v / BB:Nat):Int),t++[((v % BB:Nat):Int)])):=by
     unfold jI
     simp only[]
     rw[aTK (by omega),aFX,aFY,wi (by rw[dN];omega),wu (by rw[dN]at hd ⊢;omega),aN (by omega)]
     rfl
    rw[aS e,ih _ (aWd (by omega) (by rw[dN];omega)) _ (by omega) (by simp;omega),iI h]
    simp
theorem kC {v:Nat}(h:v<18446744073709551616):(aA v).length<=3:=by
 refine gN ?_
 rw[dN];omega
theorem xD (v:Nat)(h:v<18446744073709551616):gS (v:Int)=some (aA v):=by
 unfold gS
 have:=kC h
 rw[aGz v [] h (by simp;omega)]
 simp
theorem aLV:∀ (v:Nat) (t:List Int),v<9223372036854775808->t.length+(aA v).length<=1000->lp pP ((v:Int),t)=some (t++aA v):=by
 intro v
 induction v using Nat.strongRecOn with
 | _ v ih =>
  intro t hv ht
  by_cases h:v=0
  · subst h
    rw[bC,aUJ]
    exact aJ (by unfold pP;simp)
  · rw[iI h,aUh]at ht
    have hd:=aWe v BB
    have e:pP ((v:Int),t)=some (.inl (((v / BB:Nat):Int),t++[((v % BB:Nat):Int)])):=by
     unfold pP
     simp only[]
     rw[aTK (by omega),aFX,aFY,wi (by rw[dN]at hd ⊢;omega),aN (by omega)]
     rfl
    rw[aS e,ih _ (aWd (by omega) (by rw[dN];omega)) _ (by omega) (by simp;omega),iI h]
    simp
theorem aBo (v:Nat)(h:v<9223372036854775808):mG (v:Int)=some (aA v):=by
 unfold mG
 have:=kC (v:=v) (by omega)
 rw[aLV v [] h (by simp;omega)]
 simp
theorem aM1 (l:List Int)(hl:l.length<=4294967296):∀ k:Nat,k<=l.length->(∀ i (hi:i<l.length),k<=i->l[i]=0)->lp (fV l) (k:Int)=some (((sI l).length:Nat):Int):=by
 have htl:∀ (m:List Int) (k:Nat),k<=m.length->(∀ i (hi:i<m.length),k<=i->m[i]=0)->sI m=sI (m.take k):=by
  intro m
  induction m with
  | nil=>intro k _ _;simp
  | cons d m ih =>
   intro k hk hz
   cases k with
   | zero =>
    have h0:d=0:=hz 0 (by simp) (aTU _)
    have:=ih 0 (by omega) (fun i hi _=>by have:=hz (i+1) (by simpa using hi) (by omega);simpa using this)
    rw[aVF]at this ⊢
    unfold sI
    rw[this];simp[sI,h0]
   | succ k =>
    have:=ih k (by simpa using hk) (fun i hi hki=>by have:=hz (i+1) (by simpa using hi) (by omega);simpa using this)
    rw[aVM]
    conv=>lhs;unfold sI
    conv=>rhs;unfold sI
    rw[this]
 intro k
 induction k with
 | zero =>
  intro hk hz
  rw[htl l 0 (by omega) hz,aVF]
  exact aJ (by unfold fV;simp[sI])
 | succ k ih =>
  intro hk hz
  have hlt:k<l.length:=by omega
  by_cases c:l[k]=0
  · have e:fV l ((k+1:Nat):Int)=some (.inl (k:Int)):=by
     unfold fV
     rw[aTK (by omega),wi (by omega),show((k+1:Nat):Int)-1=(k:Int)by omega,aM hlt]
     simp[c]
    rw[aS e]
    exact ih (by omega) (fun i hi hki=>by
     by_cases e:i=k
     · subst e;exact c
     · exact hz i hi (by omega))
  · have e:fV l ((k+1:Nat):Int)=some (.inr ((k+1:Nat):Int)):=by
     unfold fV
     rw[aTK (by omega),wi (by omega),show((k+1:Nat):Int)-1=(k:Int)by omega,aM hlt]
     simp[c]
    rw[aJ e,htl l (k+1) hk hz,aDQ (l:=l.take (k+1))]
    · simp;omega
    · have e:l.take (k+1)=l.take k++[l[k]]:=by rw[aWo,aTS hlt];rfl
      rw[e,List.getLast?_concat];simpa using c
theorem aHR (l:List Int):sI l=l.take (sI l).length:=by
 induction l with
 | nil=>rfl
 | cons d l ih =>
  unfold sI
  cases h:sI l with
  | nil =>
   by_cases c:d=0 <;> simp[c]
  | cons t r =>
   rw[h]at ih
   simp only[aUh,aVM]at ih ⊢
   rw[<- ih]
theorem aJF (l:List Int):(sI l).length<=l.length:=by
 have:=congrArg List.length (aHR l)
 rw[aUo]at this;omega
theorem aIg (l:List Int)(hl:l.length<=4294967296):cU l=some (sI l):=by
 unfold cU
 rw[aM1 l hl l.length (aTU _) (fun i hi h=>by omega)]
 simp only[aTI]
 have:=aJF l
 rw[qC _ _ _ (by omega)]
 simp only[aTI]
 congr 1
 have e:=aHR l
 simp only[Int.toNat_zero,aUD,Int.sub_zero,aUf]
 exact e.symm
theorem aO8 (v:Nat)(h:(aA v).length<=60):wV (aA v)=some (aA v):=by
 unfold wV
 rw[aIg _ (by omega)]
 simp only[aTI]
 rw[aDQ (aCa v),aTJ (by omega)]
def big (n:Int):BigInt:=⟨decide (n<0),aA n.natAbs⟩
theorem rX (s:Bool)(v:Nat)(h:(aA v).length<=60):cS s (aA v)=some ⟨s&&decide (v≠0),aA v⟩:=by
 unfold cS
 rw[aO8 v h]
 simp only[aTI]
 have hz:(0<((aA v).length:Int))↔v≠0:=by
  constructor
  · intro h e;subst e;rw[bC]at h;simp at h
  · intro h
    have:(aA v).length≠0:=fun e=>dO h (aTW.1 e)
    omega
 cases s with
 | true =>
  simp only[aT3]
  rw[aN (by simp;omega)]
  simp only[aTI,aL,aTO,aWy]
  congr 2
  exact decide_eq_decide.2 hz
 | false =>
  simp only[aTP,aT9]
  rw[aN (by simp;omega)]
  simp only[aTI,aL,aTO,Bool.false_and]
theorem wI (s:Bool)(v:Nat)(h:(aA v).length<=60):eY s (aA v)=some ⟨s&&decide (v≠0),aA v⟩:=by
 unfold eY
 by_cases hv:v=0
 · subst hv
   rw[bC];simp
 · have:(aA v).length≠0:=fun e=>dO hv (aTW.1 e)
   rw[aTJ (by omega)]
   simp only[aTI]
   have h2:¬(60<((aA v).length:Int)):=by omega
   simp[h2,hv]
theorem aFA (n:Int)(h:-9223372036854775808<=n/\n<=9223372036854775807):tF n=some (big n):=by
 unfold tF big
 by_cases c:n<0
 · rw[aTK c]
   simp only[aL]
   rw[wi (n:=n+1) (by omega),wi (by omega),wu (n:=0-(n+1)) (by omega),wu (by omega)]
   have e:(0-(n+1)+1)=((n.natAbs:Nat):Int):=by omega
   have hl:=kC (v:=n.natAbs) (by omega)
   rw[e,xD _ (by omega)]
   simp only[aTI]
   rw[wI true _ (by omega)]
   simp only[aTI,aWy]
   have:n.natAbs≠0:=by omega
   simp[c,this]
 · rw[aTJ c]
   have e:n=((n.natAbs:Nat):Int):=by omega
   have hl:=kC (v:=n.natAbs) (by omega)
   rw[wu (by omega)]
   conv=>lhs;rw[e]
   rw[xD _ (by omega)]
   simp only[aTI]
   rw[wI false _ (by omega)]
   simp[c]
theorem aFg (n:Int)(h:-9223372036854775808<=n/\n<=9223372036854775807):sP n=some (big n):=by
 unfold sP big
 by_cases c0:n=-9223372036854775808
 · rw[aTK c0]
   subst c0
   have hd:([854775808,223372036,9]:List Int)=aA 9223372036854775808:=by
    have h1:dgs [854775808,223372036,9]:=by intro d hd;simp at hd;omega
    have:=aA8 (l:=[854775808,223372036,9]) ⟨h1,by simp⟩
    rw[this];rfl
   have hl:=kC (v:=9223372036854775808) (by omega)
   rw[hd,rX true _ (by omega)]
   simp only[aTI]
   rfl
 · rw[aTJ c0]
   by_cases c:n<0
   · rw[aTK c,wi (by omega)]
     have e:(0-n)=((n.natAbs:Nat):Int):=by omega
     have hl:=kC (v:=n.natAbs) (by omega)
     rw[e,aBo _ (by omega)]
     simp only[aTI]
     rw[rX true _ (by omega)]
     simp only[aTI,aWy]
     have:n.natAbs≠0:=by omega
     simp[c,this]
   · rw[aTJ c]
     have e:n=((n.natAbs:Nat):Int):=by omega
     have hl:=kC (v:=n.natAbs) (by omega)
     conv=>lhs;rw[e]
     rw[aBo _ (by omega)]
     simp only[aTI]
     rw[rX false _ (by omega)]
     simp[c]
def sF (n:Int):Rat:=⟨big n,[1]⟩
theorem dJ (n:Int)(h:-9223372036854775808<=n/\n<=9223372036854775807):bS n=some (sF n):=by
 unfold bS
 rw[aFA n h];rfl
theorem bY (n:Int)(h:-9223372036854775808<=n/\n<=9223372036854775807):cM n=some (sF n):=by
 unfold cM
 rw[aFg n h];rfl
/- Naturals as limbs: order, sums, differences; both programs. -/
open IntKind
theorem xY:oH=cU:=rfl
theorem aAP {l:List Int}(h:dgs l)(hl:l.length<=4294967296):cU l=some (aA (val l)):=by rw[aIg l hl,aFU h]
theorem aKy:yW=gQ:=rfl
theorem aPB (x y t:Nat):tG (x+t) (y+t)=tG x y:=by unfold tG;simp only[Nat.add_lt_add_iff_right]
theorem aPz (a b:List Int)(ha:dgs a)(hb:dgs b)(hab:a.length=b.length)(hl:a.length<=4294967296):∀ k:Nat,k<=a.length->
 lp (gQ a b) ((k:Int)-1)=some (if val (a.take k)=val (b.take k)then .inl ()else .inr (tG (val (a.take k)) (val (b.take k)))):=by
 intro k
 induction k with
 | zero =>
  intro _
  rw[aJ (r:=.inl ()) (by unfold gQ;rw[aTJ (by omega)])]
  simp
 | succ k ih =>
  intro hk
  have h1:k<a.length:=by omega
  have h2:k<b.length:=by omega
  have d1:=mN ha h1
  have d2:=mN hb h2
  have v1:=aFT (aKx ha k)
  have v2:=aFT (aKx hb k)
  rw[aUo,aVp (by omega)]at v1 v2
  rw[pM h1,pM h2]
  have hk1:((k+1:Nat):Int)-1=(k:Int):=by omega
  rw[hk1]
  by_cases c1:a[k]<b[k]
  · rw[aJ (r:=.inr (-1)) (by unfold gQ;rw[aTK (by omega),aM h1,aM h2];simp[c1])]
    have:BB ^ k*(a[k]).toNat+BB ^ k<=BB ^ k*(b[k]).toNat:=by
     rw[<- Nat.mul_succ];exact aT7 _ (by omega)
    rw[aTJ (by omega)];unfold tG;rw[aTK (by omega)]
  · by_cases c2:b[k]<a[k]
    · rw[aJ (r:=.inr 1) (by unfold gQ;rw[aTK (by omega),aM h1,aM h2];simp[c1,c2])]
      have:BB ^ k*(b[k]).toNat+BB ^ k<=BB ^ k*(a[k]).toNat:=by
       rw[<- Nat.mul_succ];exact aT7 _ (by omega)
      rw[aTJ (by omega)];unfold tG;rw[aTJ (by omega),aTK (by omega)]
    · have e:a[k]=b[k]:=by omega
      rw[aS (s':=(k:Int)-1) (by unfold gQ;rw[aTK (by omega),aM h1,aM h2,wi (by omega)];simp[c1,c2]),ih (by omega),e]
      by_cases c3:val (a.take k)=val (b.take k)
      · rw[aTK c3,aTK (by omega)]
      · rw[aTJ c3,aTJ (by omega)]
        rw[aPB]
theorem aKz {x y:Nat}(h:(aA x).length<(aA y).length):tG x y=-1:=by unfold tG;rw[aTK (aLp h)]
theorem aIo {x y:Nat}(h:(aA y).length<(aA x).length):tG x y=1:=by have:=aLp h;unfold tG;rw[aTJ (by omega),aTK this]
theorem aPA (x y:Nat)(hx:(aA x).length<=1000)(h:(aA x).length=(aA y).length):lp (gQ (aA x) (aA y)) (((aA x).length:Int)-1)=some (if x=y then .inl ()else .inr (tG x y)):=by
 have:=aPz (aA x) (aA y) (eJ x) (eJ y) h (by omega) (aA x).length (aTU _)
 rw[aUY,h,aUY,cV,cV]at this
 rw[h];exact this
theorem aB2 (x y:Nat)(hx:(aA x).length<=1000)(hy:(aA y).length<=1000):nX (aA x) (aA y)=some (tG x y):=by
 unfold nX
 by_cases c:(aA x).length=(aA y).length
 · rw[aTJ (by omega),aL,wi (by omega),aPA x y hx c]
   by_cases e:x=y
   · subst e;simp[tG]
   · rw[aTJ e];rfl
 · rw[aTK (by omega)]
   by_cases c2:(aA x).length<(aA y).length
   · rw[aTK (by omega),aKz c2]
   · rw[aTJ (by omega),aIo (by omega)]
theorem aGB (x y:Nat)(hx:(aA x).length<=1000)(hy:(aA y).length<=1000):tX (aA x) (aA y)=some (tG x y):=by
 unfold tX
 by_cases c2:(aA x).length<(aA y).length
 · rw[aTK (by omega),aKz c2]
 · rw[aTJ (by omega)]
   by_cases c3:(aA y).length<(aA x).length
   · rw[aTK (by omega),aIo c3]
   · rw[aTJ (by omega),aL,wi (by omega),aKy,aPA x y hx (by omega)]
     by_cases e:x=y
     · subst e;simp[tG]
     · rw[aTJ e];rfl
theorem aKF (a b:List Int)(i c:Nat)(out:List Int)(x:Nat)(hx:x<=1999999999)(ho:out.length=i)(hi:i<=2000)(hlt:i<a.length\/i<b.length\/c=1)(hc:c<=1)
 (h:(x:Int)=c+(if h:i<a.length then a[i]else 0)+(if h:i<b.length then b[i]else 0)) (ha:dgs a) (hb:dgs b) :
 iU a b ((c:Int),(i:Int),out)=some (.inl (((x / BB:Nat):Int),((i+1:Nat):Int),out++[((x % BB:Nat):Int)])):=by
 unfold iU
 simp only[]
 by_cases c1:i<a.length
 · have d1:=mN ha c1
   rw[aVU c1]at h
   rw[aTK (by omega),aTK (by omega),aM c1]
   simp only[aTI,aT3]
   rw[wi (by omega)]
   by_cases c2:i<b.length
   · have d2:=mN hb c2
     rw[aVU c2]at h
     rw[aTK (by omega),aM c2]
     simp only[aTI]
     rw[wi (by omega),<- h,aN (by omega)]
     simp only[aTI,aL]
     rw[aFX,aFY,wi (by rw[dN];omega),wi (by omega)];rfl
   · rw[aVV c2]at h
     rw[aTJ (by omega)]
     simp only[aTI]
     rw[show(c:Int)+a[i]=(x:Int)by omega,aN (by omega)]
     simp only[aTI,aL]
     rw[aFX,aFY,wi (by rw[dN];omega),wi (by omega)];rfl
 · rw[aVV c1]at h
   have n1:¬((i:Int)<(a.length:Int)):=by omega
   simp only[n1,aT9]
   by_cases c2:i<b.length
   · have d2:=mN hb c2
     rw[aVU c2]at h
     have n2:((i:Int)<(b.length:Int)):=by omega
     simp only[n2,aT3,aTI]
     rw[aM c2]
     simp only[aTI]
     rw[wi (by omega),show(c:Int)+b[i]=(x:Int)by omega,aN (by omega)]
     simp only[aTI,aL]
     rw[aFX,aFY,wi (by rw[dN];omega),wi (by omega)];rfl
   · rw[aVV c2]at h
     have n2:¬((i:Int)<(b.length:Int)):=by omega
     have hc1:c=1:=by omega
     have hc2:(0<(c:Int)):=by omega
     simp only[n2,hc2,aT9,aVx,aTI,aT3]
     rw[show(c:Int)=(x:Int)by omega,aN (by omega)]
     simp only[aTI,aL]
     rw[aFX,aFY,wi (by rw[dN];omega),wi (by omega)];rfl
theorem aKE (a b:List Int)(i:Nat)(out:List Int)(h1:a.length<=i)(h2:b.length<=i):lp (iU a b) (0,(i:Int),out)=some out :=
 aJ (by unfold iU;simp only[];rw[aTJ (by omega),aTJ (by omega)];simp)
theorem aQ8 (a b:List Int)(ha:dgs a)(hb:dgs b)(i c:Nat)(out:List Int)(hc:c<=1)(ho:out.length=i)(hi:i<=1999)(h1:a.length<=i)(h2:b.length<=i) :
 lp (iU a b) ((c:Int),(i:Int),out)=some (out++aA c):=by
 rcases Nat.eq_zero_or_pos c with e | e
 · subst e
   rw[bC,aUJ];exact aKE a b i out h1 h2
 · have e1:c=1:=by omega
   subst e1
   have:=aKF a b i 1 out 1 (by omega) ho (by omega) (.inr (.inr rfl)) (by omega) (by rw[aVV (by omega),aVV (by omega)];omega) ha hb
   rw[aS this,show 1 / BB=0 from rfl,show 1 % BB=1 from rfl]
   rw[show((0:Nat):Int)=0 from rfl,aKE a b (i+1) _ (by omega) (by omega),sC (by rw[dN];omega) (by omega)]
theorem aPO (a b:List Int)(ha:nat a)(hb:nat b)(hla:a.length<=1000)(hlb:b.length<=1000):∀ (m i c:Nat) (out:List Int),c<=1->m+i=max a.length b.length->out.length=i->
 lp (iU a b) ((c:Int),(i:Int),out)=some (out++aA (c+(val (a.drop i)+val (b.drop i)))):=by
 intro m
 induction m with
 | zero =>
  intro i c out hc hm ho
  rw[fU (by omega),fU (by omega)]
  exact aQ8 a b ha.1 hb.1 i c out hc ho (by omega) (by omega) (by omega)
 | succ m ih =>
  intro i c out hc hm ho
  obtain⟨x,hx,e1,e2,e3⟩:∃ x:Nat,x<=1999999999/\c+(val (a.drop i)+val (b.drop i))=x+BB*(val (a.drop (i+1))+val (b.drop (i+1)))/\
   c+(val (a.drop i)+val (b.drop i))≠0/\(x:Int)=c+(if h:i<a.length then a[i]else 0)+(if h:i<b.length then b[i]else 0):=by
   by_cases c1:i<a.length
   · have d1:=mN ha.1 c1
     have n1:=aEW ha c1
     have v1:=iL c1
     by_cases c2:i<b.length
     · have d2:=mN hb.1 c2
       have v2:=iL c2
       refine⟨c+(a[i]).toNat+(b[i]).toNat,by omega,by rw[aU5];omega,by omega,by rw[aVU c1,aVU c2];omega⟩
     · have v2:=fU (l:=b) (k:=i) (by omega)
       have v3:=fU (l:=b) (k:=i+1) (by omega)
       refine⟨c+(a[i]).toNat,by omega,by rw[aU5,v3];omega,by omega,by rw[aVU c1,aVV c2];omega⟩
   · have c2:i<b.length:=by omega
     have d2:=mN hb.1 c2
     have n2:=aEW hb c2
     have v2:=iL c2
     have v1:=fU (l:=a) (k:=i) (by omega)
     have v3:=fU (l:=a) (k:=i+1) (by omega)
     refine⟨c+(b[i]).toNat,by omega,by rw[aU5,v3];omega,by omega,by rw[aVV c1,aVU c2];omega⟩
  rw[aS (aKF a b i c out x hx ho (by omega) (by omega) hc e3 ha.1 hb.1),ih (i+1) (x / BB) _ (by rw[dN];omega) (by omega) (by simp[ho])]
  rw[e1]at e2 ⊢
  rw[aKw e2];simp
theorem aKf (x y:Nat)(hx:(aA x).length<=1000)(hy:(aA y).length<=1000):wW (aA x) (aA y)=some (aA (x+y)):=by
 unfold wW
 have:=aPO (aA x) (aA y) (aOU x) (aOU y) hx hy _ 0 0 [] (by omega) (aUw _) rfl
 rw[show((0:Nat):Int)=0 from rfl,aUD,aUD,cV,cV,aUg]at this
 rw[this];rfl
theorem aOW (x y:Nat)(hx:(aA x).length<=1000)(hy:(aA y).length<=1000):aAb (aA x) (aA y)=some (aA (x+y)):=aKf x y hx hy
theorem aN5 (a b:List Int)(ha:dgs a)(hb:dgs b)(hla:a.length<=1000)(hab:b.length<=a.length):∀ (m i c:Nat) (out:List Int),c<=1->m+i=a.length->out.length=i->dgs out->val (a.take i)+c*BB ^ i=val out+val (b.take i)->
 ∃ (c':Nat) (out':List Int),lp (mQ a b) ((c:Int),(i:Int),out)=some out'/\lp (nD a b) ((c:Int),(i:Int),out++List.replicate m 0)=some out'/\dgs out'/\out'.length=a.length/\val a+c'*BB ^ a.length=val out'+val b:=by
 intro m
 induction m with
 | zero =>
  intro i c out hc hm ho hd hv
  have e:i=a.length:=by omega
  refine⟨c,out,aJ ?_,aJ ?_,hd,by omega,?_⟩
  · unfold mQ;simp only[];rw[aTJ (by omega)]
  · unfold nD;simp only[];rw[aTJ (by omega)];simp
  · rw[e,aUY,aUz hab]at hv;exact hv
 | succ m ih =>
  intro i c out hc hm ho hd hv
  have h1:i<a.length:=by omega
  have d1:=mN ha h1
  obtain⟨bi,hb1,hb2,hb3⟩:∃ bi:Nat,bi<1000000000/\val (b.take (i+1))=val (b.take i)+BB ^ i*bi/\(bi:Int)=(if h:i<b.length then b[i]else 0):=by
   by_cases c2:i<b.length
   · have d2:=mN hb c2
     exact⟨(b[i]).toNat,by omega,pM c2,by rw[aVU c2];omega⟩
   · refine⟨0,by omega,?_,by rw[aVV c2];rfl⟩
     rw[aUz (by omega),aUz (by omega)];simp
  obtain⟨n,c',hn,hc',he⟩:∃ n c':Nat,n<1000000000/\c'<=1/\a[i]-(c:Int)-(bi:Int)+c'*1000000000=(n:Int)/\(c'=1↔a[i]-(c:Int)-(bi:Int)<0):=by
   by_cases g:a[i]-(c:Int)-(bi:Int)<0
   · exact⟨(a[i]-(c:Int)-(bi:Int)+1000000000).toNat,1,by omega,by omega,by omega,by simp[g]⟩
   · exact⟨(a[i]-(c:Int)-(bi:Int)).toNat,0,by omega,by omega,by omega,by simp[g]⟩
  obtain⟨he,hg⟩:=he
  have hs:(n:Int)=a[i]-c-bi+c'*1000000000:=by omega
  have s0:(((if((i:Int)<(b.length:Int))then(idx b (i:Int)).bind fun y16=>(aX (i64.wrap (i64.wrap (a[i]-c)-y16))).bind fun v17=>some v17 else some (i64.wrap (a[i]-c))):Option Int).bind (fun d19=>((if(d19<0)then(aX (i64.wrap (d19+1000000000))).bind fun v21=>some (1,v21)else some (0,d19)):Option (Int×Int))))=some ((c':Int),(n:Int)):=by
   rw[wi (by omega)]
   have fin:∀ z:Int,z=a[i]-c-bi->(if(z<0)then(aX (i64.wrap (z+1000000000))).bind fun v21=>some ((1:Int),v21)else some (0,z))=some ((c':Int),(n:Int)):=by
    intro z hz
    by_cases g:z<0
    · have e1:c'=1:=hg.2 (by omega)
      subst e1
      rw[aTK g,aL,wi (by omega)];congr 2;omega
    · have e1:c'=0:=by
       have:¬c'=1:=fun h=>g (by have:=hg.1 h;omega)
       omega
      subst e1
      rw[aTJ g];congr 2;omega
   by_cases c2:i<b.length
   · rw[aVU c2]at hb3
     rw[aTK (by omega),aM c2]
     simp only[aTI,aL]
     rw[wi (by omega)]
     exact fin _ (by omega)
   · rw[aVV c2]at hb3
     rw[aTJ (by omega)]
     simp only[aTI]
     exact fin _ (by omega)
  have s1:mQ a b ((c:Int),(i:Int),out)=some (.inl ((c':Int),((i+1:Nat):Int),out++[(n:Int)])):=by
   unfold mQ
   simp only[]
   rw[aTK (by omega),aM h1]
   simp only[aTI]
   rw[<- Option.bind_assoc,s0]
   simp only[aTI]
   rw[aN (by omega),wi (by omega)];rfl
  have s2:nD a b ((c:Int),(i:Int),out++List.replicate (m+1) 0)=some (.inl ((c':Int),((i+1:Nat):Int),(out++[(n:Int)])++List.replicate m 0)):=by
   unfold nD
   simp only[]
   rw[aTK (by omega),aM h1]
   simp only[aTI]
   rw[<- Option.bind_assoc,s0]
   simp only[aTI]
   rw[aM (by simp;omega),wi (by omega)]
   simp only[aTI,aL,jO]
   congr 4
   rw[aVY _ _ (by omega),ho,aVo,aVj,aWg];simp
  rw[aS s1,aS s2]
  refine ih (i+1) c' _ hc' (by omega) (by simp[ho]) (by rw[aML];exact⟨hd,by intro z hz;simp at hz;omega⟩) ?_
  rw[pM h1,aID,hb2,ho]
  have e:=congrArg (BB ^ i*·) (show(a[i]).toNat+c'*BB=n+bi+c by rw[dN];omega)
  simp only[aU5]at e
  simp only[val,aUf,aWa,aUw]
  have e2:c'*BB ^ (i+1)=BB ^ i*(c'*BB):=by rw[aU0,aUm c',aUI,aUm BB c']
  rw[e2]
  rw[aUm c]at hv
  omega
theorem aQk {a b c' L:Nat}{out:List Int}(hd:dgs out)(hl:out.length=L)(h:a+c'*BB ^ L=val out+b)(hab:b<=a):val out=a-b:=by
 have:=aFT hd
 rw[hl]at this
 cases c' with
 | zero=>simp at h;omega
 | succ c =>
  rw[aVn]at h
  have:0<=c*BB ^ L:=aUB _
  omega
theorem aAs (x y:Nat)(hx:(aA x).length<=1000)(hyx:y<=x):qP (aA x) (aA y)=some (aA (x-y))/\qZ (aA x) (aA y)=some (aA (x-y)):=by
 have hl:(aA y).length<=(aA x).length:=fT hyx (aTU _)
 obtain⟨c',out',e1,e2,e3,e4,e5⟩:=aN5 (aA x) (aA y) (eJ x) (eJ y) hx hl (aA x).length 0 0 [] (by omega) (by omega) rfl aCB (by simp[val])
 rw[cV,cV]at e5
 have hv:=aQk e3 e4 e5 hyx
 rw[show((0:Nat):Int)=0 from rfl]at e1 e2
 rw[aTO]at e2
 constructor
 · unfold qP
   rw[e1]
   simp only[aTI]
   rw[aAP e3 (by omega),hv];rfl
 · unfold qZ
   rw[aN (by omega)]
   simp only[aTI,aUf]
   rw[e2]
   simp only[aTI]
   rw[xY,aAP e3 (by omega),hv];rfl
/- Naturals as limbs: products; both programs. -/
theorem aJ2 (a b:List Int)(i:Nat)(hi:i<a.length):uP a b (i:Int)=iS b (i:Int) a[i]:=by
 funext s
 obtain⟨c,j,v⟩:=s
 unfold uP iS
 simp only[aM hi,aTI,aL]
 split
 · cases idx v (IntKind.i64.wrap ((i:Int)+j))with
   | none=>cases idx b j <;> rfl
   | some y =>
    cases idx b j with
    | none=>rfl
    | some z=>simp only[aTI];rw[Int.add_comm c]
 · rfl
theorem aNl (b:List Int)(i x:Nat)(hx:x<1000000000)(hb:dgs b)(hlb:b.length<=1000)(hi:i<=1000):∀ (m j c:Nat) (v:List Int),m+j=b.length->c<1000000000->dgs v->i+b.length<=v.length->v.length<=2000->
 ∃ (c':Nat) (v':List Int),lp (iS b (i:Int) (x:Int)) ((c:Int),(j:Int),v)=some ((c':Int),v')/\c' < 1000000000/\dgs v'/\v'.length=v.length/\v'.drop (i+b.length)=v.drop (i+b.length)/\
  val v'+c'*BB ^ (i+b.length)+x*BB ^ i*val (b.take j)=val v+c*BB ^ (i+j)+x*BB ^ i*val b:=by
 intro m
 induction m with
 | zero =>
  intro j c v hm hc hv hl hl2
  have e:j=b.length:=by omega
  subst e
  refine⟨c,v,aJ ?_,hc,hv,rfl,rfl,?_⟩
  · unfold iS;simp only[];rw[aTJ (by omega)]
  · rw[aUY]
 | succ m ih =>
  intro j c v hm hc hv hl hl2
  have h1:j<b.length:=by omega
  have h2:i+j<v.length:=by omega
  have d1:=mN hb h1
  have d2:=mN hv h2
  obtain⟨y,hy⟩:∃ y:Nat,b[j]=(y:Int):=⟨(b[j]).toNat,by omega⟩
  obtain⟨z,hz⟩:∃ z:Nat,v[i+j]=(z:Int):=⟨(v[i+j]).toNat,by omega⟩
  have hxy:x*y<=999999999*999999999:=aUd (by omega) (by omega)
  have hxy0:((x:Int)*(y:Int))=((x*y:Nat):Int):=by push_cast;rfl
  have s1:iS b (i:Int) (x:Int) ((c:Int),(j:Int),v)=some (.inl ((((z+x*y+c) / BB:Nat):Int),((j+1:Nat):Int),v.set (i+j) (((z+x*y+c) % BB:Nat):Int))):=by
   unfold iS
   simp only[]
   rw[aTK (by omega),aM h1,wi (by omega),show(i:Int)+(j:Int)=((i+j:Nat):Int)by omega,aM h2]
   simp only[aTI,aL,jO,hy,hz,hxy0]
   rw[wi (n:=((x*y:Nat):Int)) (by omega),wi (n:=(z:Int)+_) (by omega),wi (n:=(z:Int)+_+_) (by omega),show(z:Int)+((x*y:Nat):Int)+(c:Int)=((z+x*y+c:Nat):Int)by omega,aFX,aFY,wi (by rw[dN];omega),wi (by omega)]
   rfl
  have hm1:=aVw (z+x*y+c) vC
  have hm2:=aVX (z+x*y+c) BB
  obtain⟨c',v',e1,e2,e3,e4,e5,e6⟩:=ih (j+1) ((z+x*y+c) / BB) (v.set (i+j) (((z+x*y+c) % BB:Nat):Int)) (by omega) (by rw[dN];omega) (aEf hv _ _ (by rw[dN]at hm1 ⊢;omega)) (by simpa using hl) (by simpa using hl2)
  refine⟨c',v',by rw[aS s1];exact e1,e2,e3,by simpa using e4,?_,?_⟩
  · rw[e5,List.drop_set_of_lt (by omega)]
  · have hs:=aIC (l:=v) (x:=(((z+x*y+c) % BB:Nat):Int)) h2
    rw[hz]at hs
    simp only[aUf]at hs
    rw[pM h1,hy,aUf]at e6
    have f1:x*BB ^ i*(val (b.take j)+BB ^ j*y)=x*BB ^ i*val (b.take j)+BB ^ (i+j)*(x*y):=by
     rw[aU5,Nat.pow_add]
     congr 1
     rw[aUI x,aUI (BB ^ i),aWm x,aWm x]
    rw[f1]at e6
    have f2:(z+x*y+c) / BB*BB ^ (i+(j+1))=BB ^ (i+j)*(BB*((z+x*y+c) / BB)):=by
     rw[<- Nat.add_assoc,aU0,aUm ((z+x*y+c) / BB),aUI]
    rw[f2]at e6
    have f3:=congrArg (BB ^ (i+j)*·) hm2
    simp only[aU5]at f3
    rw[aUm c]
    omega
theorem xV {l:List Int}{k:Nat}{x:Int}:(l.set k x).drop (k+1)=l.drop (k+1):=by rw[List.drop_set_of_lt (by omega)]
theorem aNk (a b:List Int)(ha:dgs a)(hb:dgs b)(hla:a.length<=900)(hlb:b.length<=900):∀ (m i:Nat) (v:List Int),m+i=a.length->v.length=a.length+b.length->dgs v->v.drop (i+b.length)=List.replicate m 0->val v=val (a.take i)*val b->
 ∃ v':List Int,lp (mR a b) ((i:Int),v)=some v'/\lp (nE a b) ((i:Int),v)=some v'/\dgs v'/\v'.length=a.length+b.length/\val v'=val a*val b:=by
 intro m
 induction m with
 | zero =>
  intro i v hm hl hv hz he
  have e:i=a.length:=by omega
  subst e
  rw[aUY]at he
  refine⟨v,aJ ?_,aJ ?_,hv,hl,he⟩
  · unfold mR;simp only[];rw[aTJ (by omega)]
  · unfold nE;simp only[];rw[aTJ (by omega)]
 | succ m ih =>
  intro i v hm hl hv hz he
  have h1:i<a.length:=by omega
  have d1:=mN ha h1
  obtain⟨x,hx⟩:∃ x:Nat,a[i]=(x:Int):=⟨(a[i]).toNat,by omega⟩
  obtain⟨c',v',e1,e2,e3,e4,e5,e6⟩:=aNl b i x (by omega) hb (by omega) (by omega) b.length 0 0 v (by omega) (by omega) hv (by omega) (by omega)
  rw[show((0:Nat):Int)=0 from rfl]at e1
  have h2:i+b.length<v'.length:=by omega
  have hzero:v'[i+b.length]=0:=by
   have q:(v'.drop (i+b.length))[0]?=some 0:=by rw[e5,hz];simp[aVj]
   rw[aUX,aUw,aTS h2]at q
   exact Option.some.inj q
  have s1:mR a b ((i:Int),v)=some (.inl (((i+1:Nat):Int),v'.set (i+b.length) (c':Int))):=by
   unfold mR
   simp only[]
   rw[aTK (by omega),aM h1,hx]
   simp only[aTI]
   rw[e1]
   simp only[aTI,aL]
   rw[wi (by omega),show(i:Int)+(b.length:Int)=((i+b.length:Nat):Int)by omega,aM h2]
   simp only[aTI,jO]
   rw[wi (by omega)];rfl
  have s2:nE a b ((i:Int),v)=some (.inl (((i+1:Nat):Int),v'.set (i+b.length) (c':Int))):=by
   unfold nE
   simp only[]
   rw[aTK (by omega),aJ2 a b i h1,hx,e1]
   simp only[aTI,aL]
   rw[wi (by omega),show(i:Int)+(b.length:Int)=((i+b.length:Nat):Int)by omega,aM h2]
   simp only[aTI,jO]
   rw[wi (by omega)];rfl
  rw[aS s1,aS s2]
  refine ih (i+1) _ (by omega) (by rw[aVy];omega) (aEf e3 _ _ (by omega)) ?_ ?_
  · rw[show i+1+b.length=(i+b.length)+1 by omega,xV,<- List.drop_drop,e5,hz,aVj];simp
  · have hs:=aIC (l:=v') (x:=(c':Int)) h2
    rw[hzero]at hs
    simp only[aUf,Int.toNat_zero,aWa,aUw]at hs
    rw[aVF]at e6
    simp only[val,aWa,aVJ,aUw]at e6
    rw[pM h1,hx,aUf,Nat.add_mul,<- he,hs,aUm (BB ^ (i+b.length)),e6,aUm x]
theorem oV (x y:Nat)(hx:(aA x).length<=900)(hy:(aA y).length<=900):dK (aA x) (aA y)=some (aA (x*y))/\tV (aA x) (aA y)=some (aA (x*y)):=by
 unfold dK tV
 by_cases c1:(aA x).length=0
 · have:x=0:=aDo.1 (aTW.1 c1)
   subst this
   rw[aTK (by omega)]
   simp[bC]
 · rw[aTJ (by omega)]
   by_cases c2:(aA y).length=0
   · have:y=0:=aDo.1 (aTW.1 c2)
     subst this
     simp[bC]
   · have n2:¬(((aA y).length:Int)=0):=by omega
     simp only[n2,aV9,aTI,aTP,aT9,aL]
     rw[wi (by omega),show((aA x).length:Int)+((aA y).length:Int)=(((aA x).length+(aA y).length:Nat):Int)by omega,aN (by omega)]
     simp only[aTI,aUf]
     obtain⟨v',e1,e2,e3,e4,e5⟩:=aNk (aA x) (aA y) (eJ x) (eJ y) hx hy (aA x).length 0 (List.replicate ((aA x).length+(aA y).length) 0) (by omega) (by simp) (aFL _) (by simp) (by simp[aQh,val])
     rw[show((0:Nat):Int)=0 from rfl]at e1 e2
     rw[cV,cV]at e5
     rw[e1,e2]
     simp only[aTI]
     rw[xY,aAP e3 (by omega),e5]
     exact⟨rfl,rfl⟩
/- Naturals as limbs: quotients; both programs. -/
theorem aQ0 (x y:Nat):(aA (x / y)).length<=(aA x).length:=fT (aWe x y) (aTU _)
theorem aMs (x:Nat){y:Nat}(h:0<y):(aA (x % y)).length<=(aA y).length:=fT (Nat.le_of_lt (aVw x h)) (aTU _)
theorem aJH (x y:Nat):((x:Int)).tdiv (y:Int)=((x / y:Nat):Int):=by
 rw[Int.tdiv_eq_ediv_of_nonneg (by omega)];rfl
theorem aKX (x y:Nat):((x:Int)).tmod (y:Int)=((x % y:Nat):Int):=by
 rw[Int.tmod_eq_emod_of_nonneg (by omega)];rfl
theorem aRv (r:Nat):(r:Int)*1000000000=((r*BB:Nat):Int):=by rw[Int.natCast_mul];rfl
theorem aK2 (a:List Int)(d:Nat)(hd:0<d/\d<1000000000)(ha:dgs a)(hla:a.length<=1000):∀ (k r:Nat) (v:List Int),k<=a.length->r<d->dgs v->v.length=a.length->val (a.drop k)=d*val (v.drop k)+r->v.take k=List.replicate k 0->
 ∃ (r':Nat) (v':List Int),lp (kI a (d:Int)) ((r:Int),(k:Int)-1,v)=some ((r':Int),v')/\r' < d/\dgs v'/\v'.length=a.length/\val a=d*val v'+r':=by
 intro k
 induction k with
 | zero =>
  intro r v hk hr hv hl he ht
  refine⟨r,v,aJ ?_,hr,hv,hl,by simpa using he⟩
  unfold kI;simp only[];rw[aTJ (by omega)]
 | succ k ih =>
  intro r v hk hr hv hl he ht
  have h1:k<a.length:=by omega
  have h2:k<v.length:=by omega
  have d1:=mN ha h1
  obtain⟨x,hx⟩:∃ x:Nat,a[k]=(x:Int):=⟨(a[k]).toNat,by omega⟩
  have hn:r*BB+x<d*BB:=by
   have:(r+1)*BB<=d*BB:=aUU _ hr
   rw[aVn]at this
   have:x<BB:=by rw[dN];omega
   omega
  have hq:(r*BB+x) / d<BB:=by rw[aVq hd.1,aUm BB];exact hn
  have hm:=aVw (r*BB+x) hd.1
  have hmd:=aVX (r*BB+x) d
  have hrB:r*BB<=999999999*1000000000:=aUd (by omega) (by rw[dN];omega)
  have t1:=aJH (r*BB+x) d
  have t2:=aKX (r*BB+x) d
  generalize (r*BB+x) / d=Q at hq hmd t1
  generalize (r*BB+x) % d=R at hm hmd t2
  rw[dN]at hq
  have s1:kI a (d:Int) ((r:Int),((k+1:Nat):Int)-1,v)=some (.inl ((R:Int),(k:Int)-1,v.set k (Q:Int))):=by
   unfold kI
   simp only[]
   rw[show((k+1:Nat):Int)-1=(k:Int)by omega,aTK (by omega),aM h1,hx,aM h2]
   simp only[aTI,aL,jO]
   rw[aRv,wi (n:=((r*BB:Nat):Int)) (by omega),show((r*BB:Nat):Int)+(x:Int)=((r*BB+x:Nat):Int)by omega,aN (by omega),wi (n:=((r*BB+x:Nat):Int)) (by omega),t1,t2]
   simp only[aTI]
   rw[wi (by omega),wi (by omega)]
  obtain⟨r',v',e1,e2,e3,e4,e5⟩:=ih R (v.set k (Q:Int)) (by omega) hm (aEf hv _ _ (by omega)) (by simpa using hl) (by
   rw[iL h1,iL (l:=v.set k _) (by simpa using h2),List.getElem_set_self,xV,he,hx,aUf,aUf]
   rw[aU5,aU5 d,<- aUI BB d,<- aUI d BB,aUm BB d]
   rw[aUm BB r]
   omega) (by
   rw[List.take_set_of_le (by omega)]
   have:=congrArg (List.take k) ht
   rw[List.take_take,aVp (by omega),List.take_replicate,aVp (by omega)]at this
   exact this)
  exact⟨r',v',by rw[aS s1];exact e1,e2,e3,e4,e5⟩
theorem aDn {a b q r:Nat}(hb:r<b)(h:a=b*q+r):q=a / b/\r=a % b:=by
 subst h
 constructor
 · rw[aUm,Nat.add_comm,Nat.add_mul_div_right _ _ (by omega),aWs hb,aUg]
 · rw[Nat.add_comm,Nat.add_mul_mod_self_left,aVg hb]
theorem aLr (x d:Nat)(hd:0<d/\d<1000000000)(hx:(aA x).length<=1000):sL (aA x) (d:Int)=some (aA (x / d),((x % d:Nat):Int)):=by
 obtain⟨r',v',e1,e2,e3,e4,e5⟩:=aK2 (aA x) d hd (eJ x) hx (aA x).length 0 (List.replicate (aA x).length 0) (aTU _) hd.1 (aFL _) (by simp) (by rw[fU (aTU _),fU (by simp)];rfl) (by simp)
 rw[cV]at e5
 obtain⟨q1,q2⟩:=aDn e2 e5
 unfold sL
 rw[aN (by omega)]
 simp only[aTI,aL,aUf]
 rw[show((0:Nat):Int)=0 from rfl]at e1
 rw[wi (by omega),e1]
 simp only[aTI]
 rw[aAP e3 (by omega),q1,q2];rfl
theorem aLE (r b:Nat)(hb:0<b)(hlr:(aA r).length<=800)(hlb:(aA b).length<=800):∀ (m lo hi:Nat),hi-lo<=m->lo<=r / b->r / b<=hi->hi<=999999999->lp (eR (aA r) (aA b)) ((lo:Int),(hi:Int))=some ((r / b:Nat):Int):=by
 intro m
 induction m with
 | zero =>
  intro lo hi h1 h2 h3 h4
  have:lo=r / b:=by omega
  subst this
  refine aJ ?_
  unfold eR;simp only[];rw[aTJ (by omega)]
 | succ m ih =>
  intro lo hi h1 h2 h3 h4
  by_cases c:lo<hi
  · have hq:((lo:Int)+(hi:Int)+1).tdiv 2=(((lo+hi+1) / 2:Nat):Int):=by
     rw[show(lo:Int)+(hi:Int)+1=((lo+hi+1:Nat):Int)by omega,show(2:Int)=((2:Nat):Int)from rfl,aJH]
    obtain⟨q,hqe⟩:∃ q,q=(lo+hi+1) / 2:=⟨_,rfl⟩
    have hlq:(aA q).length<=1:=gN (by rw[dN];omega)
    have hlm:(aA (b*q)).length<=900:=by have:=eQ b q;omega
    have hc:tG (b*q) r<=0↔q<=r / b:=by
     rw[Nat.le_div_iff_mul_le hb,aUm q b]
     unfold tG
     by_cases c1:b*q<r
     · rw[aTK c1];constructor <;> intro _ <;> omega
     · rw[aTJ c1]
       by_cases c2:r<b*q
       · rw[aTK c2];constructor <;> intro _ <;> omega
       · rw[aTJ c2];constructor <;> intro _ <;> omega
    by_cases c2:q<=r / b
    · have s1:eR (aA r) (aA b) ((lo:Int),(hi:Int))=some (.inl ((q:Int),(hi:Int))):=by
       unfold eR
       simp only[aL]
       rw[aTK (by omega),wi (n:=(lo:Int)+hi) (by omega),wi (n:=(lo:Int)+hi+1) (by omega),hq,<- hqe,wi (by omega),aBo _ (by omega)]
       simp only[aTI]
       rw[(oV b q (by omega) (by omega)).1]
       simp only[aTI]
       rw[aB2 _ _ (by omega) (by omega)]
       simp only[aTI]
       rw[aTK (hc.2 c2)]
      rw[aS s1]
      exact ih q hi (by omega) c2 h3 h4
    · have s1:eR (aA r) (aA b) ((lo:Int),(hi:Int))=some (.inl ((lo:Int),((q-1:Nat):Int))):=by
       unfold eR
       simp only[aL]
       rw[aTK (by omega),wi (n:=(lo:Int)+hi) (by omega),wi (n:=(lo:Int)+hi+1) (by omega),hq,<- hqe,wi (n:=(q:Int)) (by omega),aBo _ (by omega)]
       simp only[aTI]
       rw[(oV b q (by omega) (by omega)).1]
       simp only[aTI]
       rw[aB2 _ _ (by omega) (by omega)]
       simp only[aTI]
       rw[aTJ (fun h=>c2 (hc.1 h)),wi (by omega),show(q:Int)-1=((q-1:Nat):Int)by omega]
      rw[aS s1]
      exact ih lo (q-1) (by omega) h2 (by omega) (by omega)
  · have:lo=r / b:=by omega
    subst this
    refine aJ ?_
    unfold eR;simp only[];rw[aTJ (by omega)]
theorem aLs (r b:Nat)(hb:0<b)(hlr:(aA r).length<=800)(hlb:(aA b).length<=800)(h:r / b<=999999999):sM (aA r) (aA b)=some ((r / b:Nat):Int):=by
 unfold sM
 have:=aLE r b hb hlr hlb 999999999 0 999999999 (by omega) (aUB _) h (aTU _)
 rw[show((0:Nat):Int)=0 from rfl,show((999999999:Nat):Int)=999999999 from rfl]at this
 rw[this];rfl
/- Naturals as limbs: quotients of any length; both programs. -/
theorem aFa {d:Nat}(h:d<BB):(aA d).length<=1:=gN (by simpa using h)
theorem aG3 (x R:Nat)(hx:x<1000000000)(hl:(aA R).length<=4000):cU ([(x:Int)]++aA R)=some (aA (x+BB*R)):=by
 rw[aAP (by rw[aML];exact⟨by intro z hz;simp at hz;omega,eJ R⟩) (by simp;omega)]
 rw[aUP,val,cV,aUf]
theorem aJP {R b:Nat}(h:R<b*BB):(aA R).length<=(aA b).length+2:=by
 have h1:=eQ b BB
 have h2:(aA BB).length<=2:=gN (by rw[dN];omega)
 have h3:=fT (Nat.le_of_lt h) (aTU _)
 omega
theorem aMd {x R b:Nat}(hx:x<1000000000)(hR:R<b):x+BB*R<b*BB:=by
 have:(R+1)*BB<=b*BB:=aUU _ hR
 rw[aVn,aUm R]at this
 have:x<BB:=by rw[dN];omega
 omega
theorem aI0 {R b:Nat}(hb:0<b)(h:R<b*BB):R / b<BB:=by rw[aVq hb,aUm BB];exact h
theorem aPv (a:List Int)(b:Nat)(hb:0<b)(hlb:(aA b).length<=700)(ha:dgs a)(hla:a.length<=1000):∀ (k R:Nat) (v:List Int),k<=a.length->R<b->dgs v->v.length=a.length->val (a.drop k)=b*val (v.drop k)+R->v.take k=List.replicate k 0->
 ∃ (R':Nat) (v':List Int),lp (mS a (aA b)) (aA R,(k:Int)-1,v)=some (aA R',v')/\R' < b/\dgs v'/\v'.length=a.length/\val a=b*val v'+R':=by
 intro k
 induction k with
 | zero =>
  intro R v hk hr hv hl he ht
  refine⟨R,v,aJ ?_,hr,hv,hl,by simpa using he⟩
  unfold mS;simp only[];rw[aTJ (by omega)]
 | succ k ih =>
  intro R v hk hr hv hl he ht
  have h1:k<a.length:=by omega
  have h2:k<v.length:=by omega
  have d1:=mN ha h1
  obtain⟨x,hx⟩:∃ x:Nat,a[k]=(x:Int):=⟨(a[k]).toNat,by omega⟩
  have hx2:x<1000000000:=by omega
  have hn:=aMd hx2 hr
  have hq:=aI0 hb hn
  have hm:=aVw (x+BB*R) hb
  have hmd:=aVX (x+BB*R) b
  have hlR:(aA R).length<=(aA b).length:=fT (Nat.le_of_lt hr) (aTU _)
  have hlR2:=aJP hn
  have hv0:v[k]=0:=by
   have q:(v.take (k+1))[k]?=some 0:=by rw[ht];simp
   rw[List.getElem?_take_of_lt (by omega),aTS h2]at q
   exact Option.some.inj q
  obtain⟨Q,hQ⟩:∃ Q,Q=(x+BB*R) / b:=⟨_,rfl⟩
  obtain⟨M,hM⟩:∃ M,M=(x+BB*R) % b:=⟨_,rfl⟩
  have hq':(x+BB*R) / b<1000000000:=Nat.lt_of_lt_of_eq hq dN
  have hq2:Q<1000000000:=by rw[hQ];exact hq'
  have s1:mS a (aA b) (aA R,((k+1:Nat):Int)-1,v)=some (.inl (aA M,(k:Int)-1,v.set k (Q:Int))):=by
   unfold mS
   simp only[]
   rw[show((k+1:Nat):Int)-1=(k:Int)by omega,aTK (by omega),aM h1,hx,aM h2]
   simp only[aTI,aL,jO]
   rw[aN (by simp;omega)]
   simp only[aTI]
   rw[aG3 x R hx2 (by omega)]
   simp only[aTI]
   rw[aB2 _ _ (by omega) (by omega)]
   simp only[aTI]
   by_cases c:x+BB*R<b
   · have e1:Q=0:=by rw[hQ,aWs c]
     have e2:M=x+BB*R:=by rw[hM,aVg c]
     have e3:v.set k ((0:Nat):Int)=v:=by
      apply aV6
      · simp
      · intro i q1 q2
        rw[aV5]
        split
        · rename_i h;subst h;exact hv0.symm
        · rfl
     rw[e1,e2,e3,aTK (by unfold tG;rw[aTK c];omega),wi (by omega)]
   · have hcm:¬tG (x+BB*R) b<0:=by
      unfold tG;rw[aTJ c];split <;> omega
     rw[aTJ hcm,aLs _ b hb (by omega) (by omega) (by omega)]
     simp only[aTI]
     rw[<- hQ,aBo _ (by omega)]
     simp only[aTI]
     have hl1:(aA Q).length<=1:=aFa (by rw[dN];omega)
     rw[(oV b Q (by omega) (by omega)).1]
     simp only[aTI]
     rw[<- hM,<- hQ]at hmd
     rw[(aAs (x+BB*R) (b*Q) (by omega) (by omega)).1]
     simp only[aTI]
     rw[show x+BB*R-b*Q=M by omega,wi (by omega)]
  obtain⟨R',v',e1,e2,e3,e4,e5⟩:=ih M (v.set k (Q:Int)) (by omega) (by rw[hM];exact hm) (aEf hv _ _ (by omega)) (by simpa using hl) (by
   rw[iL h1,iL (l:=v.set k _) (by simpa using h2),List.getElem_set_self,xV,he,hx,aUf,aUf]
   rw[aU5,aU5 b,<- aUI BB b,<- aUI b BB,aUm BB b]
   rw[<- hM,<- hQ]at hmd
   omega) (by
   rw[List.take_set_of_le (by omega)]
   have:=congrArg (List.take k) ht
   rw[List.take_take,aVp (by omega),List.take_replicate,aVp (by omega)]at this
   exact this)
  exact⟨R',v',by rw[aS s1];exact e1,e2,e3,e4,e5⟩
theorem aGW (x b:Nat)(hb:0<b)(hx:(aA x).length<=700)(hlb:(aA b).length<=700):lP (aA x) (aA b)=some (aA (x / b),aA (x % b)):=by
 unfold lP
 by_cases c:(aA b).length=1
 · rw[aTK (by omega)]
   have hbB:b<BB:=by have:=pW b;rw[c,aU7]at this;exact this
   have e:=sC hbB (by omega)
   rw[show(0:Int)=((0:Nat):Int)from rfl,aM (by omega)]
   simp only[e,aU1,aTI]
   rw[dN]at hbB
   rw[aLr x b ⟨hb,by omega⟩ (by omega)]
   simp only[aTI]
   have:=aVw x hb
   rw[aBo _ (by omega)];rfl
 · rw[aTJ (by omega),aN (by omega)]
   simp only[aTI,aL,aUf]
   obtain⟨r',v',e1,e2,e3,e4,e5⟩:=aPv (aA x) b hb hlb (eJ x) (by omega) (aA x).length 0 (List.replicate (aA x).length 0) (aTU _) hb (aFL _) (by simp) (by rw[fU (aTU _),fU (by simp)];rfl) (by simp)
   rw[cV]at e5
   rw[bC]at e1
   obtain⟨q1,q2⟩:=aDn e2 e5
   rw[wi (by omega),e1]
   simp only[aTI]
   rw[aAP e3 (by omega),q1,q2];rfl
theorem aQT (R b:Nat)(hb:0<b)(hR:b<=R)(h:R<b*BB)(hlb:(aA b).length<=700):∃ g:Nat,sX (aA R) (aA b)=some (g:Int)/\1<=g/\b*g<=R:=by
 obtain⟨m,hm⟩:∃ m,(aA b).length=m+1:=by
  have:(aA b).length≠0:=fun e=>dO (n:=b) (by omega) (aTW.1 e)
  exact⟨(aA b).length-1,by omega⟩
 have hbl:=pW b
 rw[hm,aU0]at hbl
 have hr1:m+1<=(aA R).length:=by rw[<- hm];exact fT hR (aTU _)
 have hRl:R<BB ^ m*BB*BB:=aTX h (aUU _ (Nat.le_of_lt hbl))
 have hr2:(aA R).length<=m+2:=gN (by rw[aU0,aU0];exact hRl)
 have hp:=aOB m
 have hbt:b / BB ^ m<BB:=by rw[aVq hp,aUm BB];exact hbl
 have hT:R / BB ^ m<BB*BB:=by rw[aVq hp,aUm (BB*BB),<- aUI];exact hRl
 have hbd:b<BB ^ m*(b / BB ^ m+1):=Nat.lt_mul_div_succ b hp
 have hTd:BB ^ m*(R / BB ^ m)<=R:=Nat.mul_div_le R _
 have hi1:m<(aA R).length:=by omega
 have hi2:m<(aA b).length:=by omega
 have g1:=aCb hi1
 have g2:=aCb hi2
 rw[aVg hbt]at g2
 unfold sX
 simp only[aL]
 rw[hm,wi (by omega),show(((m+1:Nat):Int)-1)=(m:Int)by omega,aM hi1,aM hi2,g1,g2]
 simp only[aTI]
 have top:((if(((m+1:Nat):Int)<((aA R).length:Int))then(idx (aA R) ((m+1:Nat):Int)).bind fun y3=>some (IntKind.i64.wrap (((R / BB ^ m % BB:Nat):Int)+IntKind.i64.wrap (y3*1000000000)))else some ((R / BB ^ m % BB:Nat):Int)):Option Int)=some ((R / BB ^ m:Nat):Int):=by
  have hmod:=aVX (R / BB ^ m) BB
  by_cases c:m+1<(aA R).length
  · have g3:=aCb c
    rw[aU0,<- Nat.div_div_eq_div_mul]at g3
    have h3:R / BB ^ m / BB<BB:=by rw[aVq vC];exact hT
    rw[aVg h3]at g3
    rw[aTK (by omega),aM c,g3]
    simp only[aTI]
    generalize R / BB ^ m=T at hT hmod h3 ⊢
    have h4:T % BB<BB:=aVw _ vC
    generalize T % BB=T0 at hmod h4 ⊢
    generalize T / BB=T1 at hmod h3 ⊢
    rw[aRv,aUm T1]
    rw[dN]at hT
    rw[wi (n:=((BB*T1:Nat):Int)) (by omega),wi (by omega)];congr 1;omega
  · have e:(aA R).length=m+1:=by omega
    have h3:R / BB ^ m<BB:=by
     rw[aVq hp,aUm BB,<- aU0]
     have:=pW R
     rwa [e]at this
    rw[aTJ (by omega),aVg h3]
 rw[top]
 simp only[aTI]
 by_cases c:m=0
 · subst c
   rw[aTK (by omega),show(0:Int)=((0:Nat):Int)from rfl,aM hi2,g2]
   simp only[Nat.pow_zero,Nat.div_one,aTI]
   rw[aN (by omega),aJH]
   have hq:=aI0 hb h
   rw[dN]at hq
   generalize hQ:R / b=Q at hq
   refine⟨Q,by simp only[aTI];rw[wi (by omega)],?_,?_⟩
   · rw[<- hQ,Nat.le_div_iff_mul_le hb];omega
   · rw[<- hQ];exact Nat.mul_div_le R b
 · rw[aTJ (by omega)]
   generalize b / BB ^ m=t at hbt hbd ⊢
   generalize R / BB ^ m=T at hT hTd ⊢
   rw[dN]at hbt
   rw[wi (n:=(t:Int)+1) (by omega),aN (by omega),show(t:Int)+1=((t+1:Nat):Int)by omega,aJH]
   have hg:=Nat.div_mul_le_self T (t+1)
   have hgT:T / (t+1)<=T:=aWe _ _
   generalize T / (t+1)=G at hg hgT ⊢
   rw[dN]at hT
   simp only[aTI]
   rw[wi (by omega)]
   by_cases c2:G=0
   · subst c2
     exact⟨1,by rw[aTK (by omega)];rfl,aTU _,by omega⟩
   · refine⟨G,by rw[aTJ (by omega)],by omega,?_⟩
     have e1:G*b<=G*(BB ^ m*(t+1)):=aT7 _ (Nat.le_of_lt hbd)
     have e2:BB ^ m*(G*(t+1))<=BB ^ m*T:=aT7 _ hg
     rw[aWm]at e2
     rw[aUm b];omega
theorem aLD (b:Nat)(hb:0<b)(hlb:(aA b).length<=700)(k:Nat):∀ (R q0:Nat) (v:List Int),R<b*BB->k<v.length->v[k]?=some (q0:Int)->q0+R / b<=999999999->
 lp (nG (aA b) (k:Int)) (aA R,v)=some (aA (R % b),v.set k ((q0+R / b:Nat):Int)):=by
 intro R
 induction R using Nat.strongRecOn with
 | _ R ih =>
  intro q0 v hR hk hv hq
  have hl:=aJP hR
  by_cases c:R<b
  · rw[aWs c,aVg c,aUw]
    have:v.set k (q0:Int)=v:=by
     apply aV6
     · simp
     · intro i p1 p2
       rw[aV5]
       split
       · rename_i h;subst h
         rw[aTS hk]at hv;exact(Option.some.inj hv).symm
       · rfl
    rw[this]
    refine aJ ?_
    unfold nG
    simp only[]
    rw[aGB _ _ (by omega) (by omega)]
    simp only[aTI]
    rw[aTJ (by unfold tG;rw[aTK c];omega)]
  · obtain⟨g,e1,e2,e3⟩:=aQT R b hb (by omega) hR hlb
    have hgq:g<=R / b:=by rw[Nat.le_div_iff_mul_le hb,aUm];exact e3
    have hdiv:(R-b*g) / b=R / b-g:=by rw[Nat.sub_mul_div]
    have hmod:(R-b*g) % b=R % b:=Nat.sub_mul_mod (by omega)
    have hbg:b<=b*g:=aVd _ e2
    generalize R / b=Q at hq hgq hdiv ⊢
    have hd:([(g:Int)]:List Int)=aA g:=(sC (by rw[dN];omega) (by omega)).symm
    have hl1:(aA g).length<=1:=aFa (by rw[dN];omega)
    have s1:nG (aA b) (k:Int) (aA R,v)=some (.inl (aA (R-b*g),v.set k ((q0+g:Nat):Int))):=by
     unfold nG
     simp only[]
     rw[aGB _ _ (by omega) (by omega)]
     simp only[aTI]
     rw[aTK (by unfold tG;rw[aTJ c];split <;> omega),e1]
     simp only[aTI]
     rw[hd,(oV b g (by omega) (by omega)).2]
     simp only[aTI]
     rw[(aAs R (b*g) (by omega) e3).2]
     simp only[aTI]
     rw[hY,hv]
     simp only[aTI,aL,jO]
     rw[wi (by omega)];rfl
    rw[aS s1,ih (R-b*g) (by omega) (q0+g) _ (by omega) (by simpa using hk) (by rw[aVB hk]) (by rw[hdiv];omega),hmod,hdiv,List.set_set]
    congr 3;congr 1;omega
theorem aNF (a:List Int)(b:Nat)(hb:0<b)(hlb:(aA b).length<=700)(ha:dgs a)(hla:a.length<=1000):∀ (k R:Nat) (v:List Int),k<=a.length->R<b->dgs v->v.length=a.length->val (a.drop k)=b*val (v.drop k)+R->v.take k=List.replicate k 0->
 ∃ (R':Nat) (v':List Int),lp (nF a (aA b)) (aA R,(k:Int)-1,v)=some (aA R',v')/\R' < b/\dgs v'/\v'.length=a.length/\val a=b*val v'+R':=by
 intro k
 induction k with
 | zero =>
  intro R v hk hr hv hl he ht
  refine⟨R,v,aJ ?_,hr,hv,hl,by simpa using he⟩
  unfold nF;simp only[];rw[aTJ (by omega)]
 | succ k ih =>
  intro R v hk hr hv hl he ht
  have h1:k<a.length:=by omega
  have h2:k<v.length:=by omega
  have d1:=mN ha h1
  obtain⟨x,hx⟩:∃ x:Nat,a[k]=(x:Int):=⟨(a[k]).toNat,by omega⟩
  have hx2:x<1000000000:=by omega
  have hn:=aMd hx2 hr
  have hq:=aI0 hb hn
  have hm:=aVw (x+BB*R) hb
  have hmd:=aVX (x+BB*R) b
  have hlR:(aA R).length<=(aA b).length:=fT (Nat.le_of_lt hr) (aTU _)
  have hv0:v[k]?=some ((0:Nat):Int):=by
   have q:(v.take (k+1))[k]?=some 0:=by rw[ht];simp
   rw[List.getElem?_take_of_lt (by omega)]at q
   exact q
  have hq':(x+BB*R) / b<1000000000:=Nat.lt_of_lt_of_eq hq dN
  clear hq
  have inn:=aLD b hb hlb k (x+BB*R) 0 v hn h2 hv0 (by omega)
  rw[aUg]at inn
  generalize (x+BB*R) / b=Q at hq' hmd inn
  generalize (x+BB*R) % b=M at hm hmd inn
  have s1:nF a (aA b) (aA R,((k+1:Nat):Int)-1,v)=some (.inl (aA M,(k:Int)-1,v.set k (Q:Int))):=by
   unfold nF
   simp only[]
   rw[show((k+1:Nat):Int)-1=(k:Int)by omega,aTK (by omega),aM h1,hx]
   simp only[aTI,aL]
   rw[aN (by simp;omega)]
   simp only[aTI]
   rw[xY,aG3 x R hx2 (by omega)]
   simp only[aTI]
   rw[inn]
   simp only[aTI]
   rw[wi (by omega)]
  obtain⟨R',v',e1,e2,e3,e4,e5⟩:=ih M (v.set k (Q:Int)) (by omega) hm (aEf hv _ _ (by omega)) (by simpa using hl) (by
   rw[iL h1,iL (l:=v.set k _) (by simpa using h2),List.getElem_set_self,xV,he,hx,aUf,aUf]
   rw[aU5,aU5 b,<- aUI BB b,<- aUI b BB,aUm BB b]
   omega) (by
   rw[List.take_set_of_le (by omega)]
   have:=congrArg (List.take k) ht
   rw[List.take_take,aVp (by omega),List.take_replicate,aVp (by omega)]at this
   exact this)
  exact⟨R',v',by rw[aS s1];exact e1,e2,e3,e4,e5⟩
theorem aN9:∀ (l:List Int),dgs l->l.length<=2->fR l=some (val l:Int)
 | [],_,_=>by
  unfold fR
  simp only[aL,aUV]
  rw[wi (by omega),aJ (r:=0) (by unfold dE;simp)];rfl
 | [d],h,_=>by
  rw[nM]at h
  unfold fR
  simp only[aL,aUh,aUV]
  have s1:dE [d] (0,((0:Nat):Int))=some (.inl (d,-1)):=by
   unfold dE
   simp only[]
   rw[aTK (by omega),aM (by simp)]
   simp only[aTI,aL,aU1]
   rw[wi (n:=0*1000000000) (by omega),wi (by omega),wi (by omega)]
   simp
  rw[wi (by omega),show(((0+1:Nat):Int)-1)=((0:Nat):Int)by omega,aS s1,aJ (r:=d) (by unfold dE;simp)]
  simp[val] <;> omega
 | [d,e],h,_=>by
  rw[nM,nM]at h
  unfold fR
  simp only[aL,aUh,aUV]
  have s1:dE [d,e] (0,((1:Nat):Int))=some (.inl (e,((0:Nat):Int))):=by
   unfold dE
   simp only[]
   rw[aTK (by omega),aM (by simp)]
   simp only[aTI,aL,aU1,aVQ]
   rw[wi (n:=0*1000000000) (by omega),wi (by omega),wi (by omega)]
   simp
  have s2:dE [d,e] (e,((0:Nat):Int))=some (.inl (e*1000000000+d,-1)):=by
   unfold dE
   simp only[]
   rw[aTK (by omega),aM (by simp)]
   simp only[aTI,aL,aU1]
   rw[wi (n:=e*1000000000) (by omega),wi (by omega),wi (by omega)]
   rfl
  rw[wi (by omega),show(((0+1+1:Nat):Int)-1)=((1:Nat):Int)by omega,aS s1,aS s2,aJ (r:=e*1000000000+d) (by unfold dE;simp)]
  simp only[aTI,val,dN,aWa,aUw]
  congr 1;omega
 | _::_::_::_,_,h=>by simp at h <;> omega
theorem aDB (x:Nat)(h:(aA x).length<=2):fR (aA x)=some (x:Int):=by rw[aN9 _ (eJ x) h,cV]
theorem vT {x:Nat}(h:(aA x).length<=2):x<1000000000000000000:=by
 have h1:=pW x
 have h2:BB ^ (aA x).length<=BB ^ 2:=aUu vC h
 have h3:BB ^ 2=1000000000000000000:=by rw[dN]
 omega
theorem aGA (x b:Nat)(hb:0<b)(hx:(aA x).length<=700)(hlb:(aA b).length<=700):rA (aA x) (aA b)=some (aA (x / b),aA (x % b)):=by
 unfold rA
 by_cases c:(aA x).length<=2/\(aA b).length<=2
 · have h1:=vT c.1
   have h2:=vT c.2
   have n1:((aA x).length:Int)<=2:=by omega
   have n2:((aA b).length:Int)<=2:=by omega
   simp only[n1,n2,aT3,aVx,aTI]
   rw[aDB x c.1,aDB b c.2]
   simp only[aTI,aL]
   have q1:=aWe x b
   have q2:=Nat.mod_le x b
   rw[aN (by omega),aJH,aKX]
   generalize x / b=Q at q1 ⊢
   generalize x % b=M at q2 ⊢
   simp only[aTI]
   rw[wi (by omega),wu (by omega),wu (by omega),xD Q (by omega),xD M (by omega)]
   rfl
 · have:((if((aA x).length:Int)<=2 then some (decide (((aA b).length:Int)<=2))else some false):Option Bool)=some false:=by
    by_cases c1:(aA x).length<=2
    · have c2:¬(aA b).length<=2:=fun h=>c ⟨c1,h⟩
      rw[aTK (by omega),aTL (by omega)]
    · rw[aTJ (by omega)]
   rw[this]
   simp only[aTI,aTP,aT9,aL]
   rw[aN (by omega)]
   simp only[aTI,aUf]
   obtain⟨r',v',e1,e2,e3,e4,e5⟩:=aNF (aA x) b hb hlb (eJ x) (by omega) (aA x).length 0 (List.replicate (aA x).length 0) (aTU _) hb (aFL _) (by simp) (by rw[fU (aTU _),fU (by simp)];rfl) (by simp)
   rw[cV]at e5
   rw[bC]at e1
   obtain⟨q1,q2⟩:=aDn e2 e5
   rw[wi (by omega),e1]
   simp only[aTI]
   rw[xY,aAP e3 (by omega),q1,q2];rfl
/- Naturals as limbs: greatest common divisors, and which lists are naturals; both programs. -/
theorem aG2 (x y:Nat):Nat.gcd x y=Nat.gcd y (x % y):=by rw[Nat.gcd_comm x y,Nat.gcd_rec y x,Nat.gcd_comm]
theorem aGt:∀ (y x:Nat),lp kW ((x:Int),(y:Int))=some ((Nat.gcd x y:Nat):Int):=by
 intro y
 induction y using Nat.strongRecOn with
 | _ y ih =>
  intro x
  by_cases c:y=0
  · subst c
    rw[Nat.gcd_zero_right]
    exact aJ (by unfold kW;simp)
  · have s1:kW ((x:Int),(y:Int))=some (.inl ((y:Int),((x % y:Nat):Int))):=by
     unfold kW
     simp only[]
     rw[aTK (by omega),aN (by omega),aKX];rfl
    rw[aS s1,ih (x % y) (aVw _ (by omega)),<- aG2]
theorem aLd:vN=kW:=rfl
theorem aKn {x y:Nat}(hx:x<1000000000000000000)(hy:y<1000000000000000000):Nat.gcd x y<1000000000000000000:=by
 by_cases c:x=0
 · subst c;rw[Nat.gcd_zero_left];exact hy
 · have:=Nat.gcd_le_left y (aVt c);omega
theorem aNu:∀ (y x:Nat),(aA x).length<=700->(aA y).length<=700->∃ r,lp kV (aA x,aA y)=some r/\(r=.inl (aA (Nat.gcd x y))\/r=.inr (aA (Nat.gcd x y))):=by
 intro y
 induction y using Nat.strongRecOn with
 | _ y ih =>
  intro x hx hy
  by_cases c:y=0
  · subst c
    rw[Nat.gcd_zero_right]
    refine⟨.inl (aA x),aJ ?_,.inl rfl⟩
    unfold kV
    simp[bC]
  · have hy0:(aA y).length≠0:=fun e=>dO c (aTW.1 e)
    by_cases c2:(aA x).length<=2/\(aA y).length<=2
    · refine⟨.inr (aA (Nat.gcd x y)),aJ ?_,.inr rfl⟩
      have h1:=vT c2.1
      have h2:=vT c2.2
      have h3:=aKn h1 h2
      have n1:((aA x).length:Int)<=2:=by omega
      have n2:((aA y).length:Int)<=2:=by omega
      unfold kV
      simp only[n1,n2,aT3,aVx,aTI]
      rw[aTK (by omega),aDB x c2.1,aDB y c2.2]
      simp only[aTI]
      rw[aGt]
      simp only[aTI]
      rw[wu (by omega),xD _ (by omega)];rfl
    · have s1:kV (aA x,aA y)=some (.inl (aA y,aA (x % y))):=by
       unfold kV
       simp only[]
       have:((if((aA x).length:Int)<=2 then some (decide (((aA y).length:Int)<=2))else some false):Option Bool)=some false:=by
        by_cases c1:(aA x).length<=2
        · have c2:¬(aA y).length<=2:=fun h=>c2 ⟨c1,h⟩
          rw[aTK (by omega),aTL (by omega)]
        · rw[aTJ (by omega)]
       rw[aTK (by omega),this]
       simp only[aTI,aTP,aT9]
       rw[aGA x y (by omega) hx hy];rfl
      rw[aS s1,aG2 x y]
      exact ih (x % y) (aVw _ (by omega)) y hy (by have:=aMs x (y:=y) (by omega);omega)
theorem aJ1 (x y:Nat)(hx:(aA x).length<=700)(hy:(aA y).length<=700):tW (aA x) (aA y)=some (aA (Nat.gcd x y)):=by
 unfold tW
 obtain⟨r,e1,e2⟩:=aNu y x hx hy
 have hl:(aA (Nat.gcd x y)).length<=700:=by
  by_cases c:x=0
  · subst c;rw[Nat.gcd_zero_left];exact hy
  · exact aTY (fT (Nat.gcd_le_left y (aVt c)) (aTU _)) hx
 rw[e1]
 rcases e2 with rfl | rfl
 · simp only[aTI]
   unfold eO
   rw[aN (by simp;omega)];rfl
 · rfl
instance (l:List Int):Decidable (dgs l):=by unfold dgs;infer_instance
def vF (l:List Int):Prop:=dgs l/\l.length<=60/\l.getLast?≠some 0
instance (l:List Int):Decidable (vF l):=by unfold vF;infer_instance
theorem aNj {l:List Int}(h:vF l):nat l:=⟨h.1,h.2.2⟩
theorem oD {l:List Int}(h:vF l):l=aA (val l):=aA8 (aNj h)
theorem aA9 {x:Nat}(h:(aA x).length<=60):vF (aA x):=⟨eJ x,h,aCa x⟩
theorem aOJ (l:List Int)(hl:l.length<=4294967296):∀ m k:Nat,m+k=l.length->lp (mJ l) (k:Int)=some (if dgs (l.drop k)then .inl ()else .inr false):=by
 intro m
 induction m with
 | zero =>
  intro k hk
  rw[aTK (by rw[aUe (by omega)];exact aCB)]
  exact aJ (by unfold mJ;rw[aTJ (by omega)])
 | succ m ih =>
  intro k hk
  have hlt:k<l.length:=by omega
  by_cases c:0<=l[k]/\l[k]<1000000000
  · have s1:mJ l (k:Int)=some (.inl ((k+1:Nat):Int)):=by
     unfold mJ
     have n1:¬l[k]<0:=by omega
     have n2:¬1000000000<=l[k]:=by omega
     rw[aTK (by omega),aM hlt,wi (by omega)]
     simp[n1,n2]
    rw[aS s1,ih (k+1) (by omega)]
    have hd:dgs (l.drop k)↔dgs (l.drop (k+1)):=by rw[aTQ hlt,nM];exact⟨fun h=>h.2,fun h=>⟨c,h⟩⟩
    simp only[hd]
  · have h2:¬dgs (l.drop k):=by rw[aTQ hlt,nM];exact fun h=>c h.1
    rw[aTJ h2]
    refine aJ ?_
    unfold mJ
    rw[aTK (by omega),aM hlt]
    simp only[aTI]
    by_cases n1:l[k]<0
    · rw[aTK n1];rfl
    · rw[aTJ n1,aTN (by omega)];rfl
theorem aBd (a b c:Int):kP a b c=some (decide (b<=a/\a<=c)):=by
 unfold kP
 by_cases h:b<=a <;> simp[h]
theorem aOI (l:List Int)(hl:l.length<=4294967296):∀ m k:Nat,m+k=l.length->lp (mF l) (k:Int)=some (if dgs (l.drop k)then .inl ()else .inr false):=by
 intro m
 induction m with
 | zero =>
  intro k hk
  rw[aTK (by rw[aUe (by omega)];exact aCB)]
  exact aJ (by unfold mF;rw[aTJ (by omega)])
 | succ m ih =>
  intro k hk
  have hlt:k<l.length:=by omega
  by_cases c:0<=l[k]/\l[k]<1000000000
  · have s1:mF l (k:Int)=some (.inl ((k+1:Nat):Int)):=by
     unfold mF
     rw[aTK (by omega),aM hlt,wi (by omega)]
     simp only[aTI]
     rw[aBd,aTN (by omega)];rfl
    rw[aS s1,ih (k+1) (by omega)]
    have hd:dgs (l.drop k)↔dgs (l.drop (k+1)):=by rw[aTQ hlt,nM];exact⟨fun h=>h.2,fun h=>⟨c,h⟩⟩
    simp only[hd]
  · have h2:¬dgs (l.drop k):=by rw[aTQ hlt,nM];exact fun h=>c h.1
    rw[aTJ h2]
    refine aJ ?_
    unfold mF
    rw[aTK (by omega),aM hlt]
    simp only[aTI]
    rw[aBd,aTL (by omega)];rfl
theorem aMm (l:List Int)(hl:l.length<=4294967296)(h:l.length≠0):(idx l (IntKind.i64.wrap ((l.length:Int)-1))).bind (fun y=>some (decide (y≠0)))=some (decide (l.getLast?≠some 0)):=by
 have hlt:l.length-1<l.length:=by omega
 rw[wi (by omega),show(l.length:Int)-1=((l.length-1:Nat):Int)by omega,aM hlt,List.getLast?_eq_getElem?,aTS hlt]
 simp
theorem aKM (l:List Int)(hl:l.length<=4294967296):wE l=some (decide (vF l)):=by
 unfold wE
 by_cases c:60<l.length
 · have:¬vF l:=fun h=>by have:=h.2.1;omega
   rw[aTK (by omega),aTL this]
 · have:=aOJ l hl l.length 0 (by omega)
   rw[show((0:Nat):Int)=0 from rfl,aUD]at this
   rw[aTJ (by omega),this]
   by_cases d:dgs l
   · rw[aTK d]
     simp only[aTI]
     by_cases z:l.length=0
     · have e:l=[]:=aTW.1 z
       subst e
       rw[aTK (by simp),aTN ⟨aCB,by simp,by simp⟩]
     · rw[aTJ (by omega),aL,aMm l hl z]
       congr 1
       exact decide_eq_decide.2 ⟨fun h=>⟨d,by omega,h⟩,fun h=>h.2.2⟩
   · have:¬vF l:=fun h=>d h.1
     rw[aTJ d,aTL this];rfl
theorem aHq (l:List Int)(hl:l.length<=4294967296):tM l=some (decide (vF l)):=by
 unfold tM
 have:=aOI l hl l.length 0 (by omega)
 rw[show((0:Nat):Int)=0 from rfl,aUD]at this
 rw[this]
 by_cases d:dgs l
 · rw[aTK d]
   simp only[aTI]
   by_cases c:60<l.length
   · have:¬vF l:=fun h=>by have:=h.2.1;omega
     rw[aTJ (by omega),aTL this]
   · rw[aTK (by omega)]
     by_cases z:l.length=0
     · have e:l=[]:=aTW.1 z
       subst e
       rw[aTK (by simp),aTN ⟨aCB,by simp,by simp⟩]
     · rw[aTJ (by omega),aL,aMm l hl z]
       congr 1
       exact decide_eq_decide.2 ⟨fun h=>⟨d,by omega,h⟩,fun h=>h.2.2⟩
 · have:¬vF l:=fun h=>d h.1
   rw[aTJ d,aTL this];rfl
theorem aLn:([854775807,223372036,9]:List Int)=aA 9223372036854775807:=by
 have h1:dgs [854775807,223372036,9]:=by intro d hd;simp at hd;omega
 have:=aA8 (l:=[854775807,223372036,9]) ⟨h1,by simp⟩
 rw[this];rfl
theorem aKW:∀ (l:List Int),dgs l->l.length<=2->lp (cO l) (0,(l.length:Int)-1)=some (val l:Int)
 | [],_,_=>by
  rw[aJ (r:=0) (by unfold cO;simp)];rfl
 | [d],h,_=>by
  rw[nM]at h
  have s1:cO [d] (0,((0:Nat):Int))=some (.inl (d,-1)):=by
   unfold cO
   simp only[]
   rw[aTK (by omega),aM (by simp)]
   simp only[aTI,aL,aU1]
   rw[wi (n:=0*1000000000) (by omega),wi (by omega),wi (by omega)]
   simp
  rw[show((([d]:List Int).length:Int)-1)=((0:Nat):Int)by simp,aS s1,aJ (r:=d) (by unfold cO;simp)]
  simp[val] <;> omega
 | [d,e],h,_=>by
  rw[nM,nM]at h
  have s1:cO [d,e] (0,((1:Nat):Int))=some (.inl (e,((0:Nat):Int))):=by
   unfold cO
   simp only[]
   rw[aTK (by omega),aM (by simp)]
   simp only[aTI,aL,aU1,aVQ]
   rw[wi (n:=0*1000000000) (by omega),wi (by omega),wi (by omega)]
   simp
  have s2:cO [d,e] (e,((0:Nat):Int))=some (.inl (e*1000000000+d,-1)):=by
   unfold cO
   simp only[]
   rw[aTK (by omega),aM (by simp)]
   simp only[aTI,aL,aU1]
   rw[wi (n:=e*1000000000) (by omega),wi (by omega),wi (by omega)]
   rfl
  rw[show((([d,e]:List Int).length:Int)-1)=((1:Nat):Int)by simp,aS s1,aS s2,aJ (r:=e*1000000000+d) (by unfold cO;simp)]
  simp only[val,dN,aWa,aUw]
  congr 1;omega
 | _::_::_::_,_,h=>by simp at h <;> omega
theorem aHp (x:Nat)(h:(aA x).length<=2):pO (aA x)=some ((x:Int),true):=by
 have hx:=vT h
 have hl:=kC (v:=9223372036854775807) (by omega)
 unfold pO
 rw[aHq _ (by omega),aTN (aA9 (by omega)),aLn]
 simp only[aTI,aT3]
 rw[aB2 _ _ (by omega) (by omega)]
 simp only[aTI,aL]
 have:¬(0<tG x 9223372036854775807):=by unfold tG;rw[aTK (by omega)];omega
 simp only[this,aV9,aTP,aT9]
 have e:=aKW (aA x) (eJ x) h
 rw[cV]at e
 rw[wi (by omega),e];rfl
theorem aNt:∀ (y x:Nat),(aA x).length<=700->(aA y).length<=700->∃ r,lp kN (aA x,aA y)=some r/\(r=.inl (aA (Nat.gcd x y))\/r=.inr (aA (Nat.gcd x y))):=by
 intro y
 induction y using Nat.strongRecOn with
 | _ y ih =>
  intro x hx hy
  by_cases c:y=0
  · subst c
    rw[Nat.gcd_zero_right]
    refine⟨.inl (aA x),aJ ?_,.inl rfl⟩
    unfold kN
    simp[bC]
  · have hy0:(aA y).length≠0:=fun e=>dO c (aTW.1 e)
    by_cases c2:(aA x).length<=2/\(aA y).length<=2
    · refine⟨.inr (aA (Nat.gcd x y)),aJ ?_,.inr rfl⟩
      have h1:=vT c2.1
      have h2:=vT c2.2
      have h3:=aKn h1 h2
      have n1:((aA x).length:Int)<3:=by omega
      have n2:((aA y).length:Int)<3:=by omega
      unfold kN
      simp only[n1,n2,aT3,aVx,aTI]
      rw[aTK (by omega),aHp x c2.1,aHp y c2.2]
      simp only[aTI]
      unfold wM
      rw[aLd,aGt]
      simp only[aTI]
      rw[aBo _ (by omega)];rfl
    · have s1:kN (aA x,aA y)=some (.inl (aA y,aA (x % y))):=by
       unfold kN
       simp only[]
       have:((if((aA x).length:Int)<3 then some (decide (((aA y).length:Int)<3))else some false):Option Bool)=some false:=by
        by_cases c1:(aA x).length<=2
        · have c2:¬(aA y).length<=2:=fun h=>c2 ⟨c1,h⟩
          rw[aTK (by omega),aTL (by omega)]
        · rw[aTJ (by omega)]
       rw[aTK (by omega),this]
       simp only[aTI,aTP,aT9]
       rw[aGW x y (by omega) hx hy];rfl
      rw[aS s1,aG2 x y]
      exact ih (x % y) (aVw _ (by omega)) y hy (by have:=aMs x (y:=y) (by omega);omega)
theorem aKe (x y:Nat)(hx:(aA x).length<=700)(hy:(aA y).length<=700):qQ (aA x) (aA y)=some (aA (Nat.gcd x y)):=by
 unfold qQ
 obtain⟨r,e1,e2⟩:=aNt y x hx hy
 rw[aN (by simp;omega),aN (by simp;omega)]
 simp only[aTI,aL,aTO]
 rw[e1]
 rcases e2 with rfl | rfl <;> rfl
/- Whole numbers and fractions; both programs. -/
def xS (x:BigInt):Prop:=vF x.fMag/\(x.fNeg=true->x.fMag≠[])
instance (x:BigInt):Decidable (xS x):=by unfold xS;infer_instance
theorem aQe (x:BigInt)(h:x.fMag.length<=4294967296):tD x=some (decide (xS x)):=by
 unfold tD
 rw[aKM _ h]
 simp only[aTI]
 by_cases c:vF x.fMag
 · rw[aTN c]
   simp only[aT3]
   cases hn:x.fNeg with
   | true =>
    simp only[aT3]
    by_cases e:x.fMag=[]
    · rw[aTL (fun g:xS x=>g.2 hn e),e];rfl
    · have:x.fMag.length≠0:=fun g=>e (aTW.1 g)
      have hb:xS x:=⟨c,fun _=>e⟩
      rw[aTN hb,aTL (by omega)];rfl
   | false =>
    have hb:xS x:=⟨c,fun g=>by rw[hn]at g;cases g⟩
    rw[aTN hb];rfl
 · rw[aTL c,aTL (fun g:xS x=>c g.1)];rfl
theorem aQd (x:BigInt)(h:x.fMag.length<=4294967296):sO x=some (decide (xS x)):=by
 unfold sO
 rw[aHq _ h]
 simp only[aTI]
 by_cases c:vF x.fMag
 · rw[aTN c]
   simp only[aT3]
   cases hn:x.fNeg with
   | true =>
    simp only[aT3]
    by_cases e:x.fMag=[]
    · rw[aTL (fun g:xS x=>g.2 hn e),e];rfl
    · have:x.fMag.length≠0:=fun g=>e (aTW.1 g)
      have hb:xS x:=⟨c,fun _=>e⟩
      rw[aTN hb,aTN (by omega)]
   | false =>
    have hb:xS x:=⟨c,fun g=>by rw[hn]at g;cases g⟩
    rw[aTN hb];rfl
 · rw[aTL c,aTL (fun g:xS x=>c g.1)];rfl
def aPF (x:BigInt):Int:=if x.fNeg=true then -(val x.fMag:Int)else(val x.fMag:Int)
theorem aHh (x:BigInt):(aPF x).natAbs=val x.fMag:=by unfold aPF;split <;> omega
theorem aSm {x:BigInt}(h:xS x):x=big (aPF x):=by
 obtain⟨neg,mag⟩:=x
 unfold big
 rw[aHh]
 have e:=oD h.1
 simp only[]at e ⊢
 rw[<- e]
 congr 1
 unfold aPF
 cases neg with
 | true =>
  have:val mag≠0:=fun z=>h.2 rfl (by simp only[]at e ⊢;rw[e,z,bC])
  simp only[aT3]
  rw[aTN (by omega)]
 | false=>simp
theorem aFH (n m:Int):((!(decide (n<0) == decide (m<0)))&&decide (n.natAbs*m.natAbs≠0))=decide (n*m<0):=by
 rw[<- aVc]
 rcases Int.lt_trichotomy n 0 with h1 | h1 | h1
 · rcases Int.lt_trichotomy m 0 with h2 | h2 | h2
   · have:=Int.mul_pos_of_neg_of_neg h1 h2
     rw[aTN h1,aTN h2,aTL (show ¬n*m<0 by omega)];rfl
   · subst h2;simp
   · have:=aV2 h1 h2
     rw[aTN h1,aTL (show ¬m<0 by omega),aTN (show(n*m).natAbs≠0 by omega),aTN this];rfl
 · subst h1;simp
 · rcases Int.lt_trichotomy m 0 with h2 | h2 | h2
   · have:=Int.mul_neg_of_pos_of_neg h1 h2
     rw[aTL (show ¬n<0 by omega),aTN h2,aTN (show(n*m).natAbs≠0 by omega),aTN this];rfl
   · subst h2;simp
   · have:=Int.mul_pos h1 h2
     rw[aTL (show ¬n<0 by omega),aTL (show ¬m<0 by omega),aTL (show ¬n*m<0 by omega)];rfl
theorem aBl (n:Int):(big n).fMag=aA n.natAbs:=rfl
theorem aBk (n:Int):(big n).fNeg=decide (n<0):=rfl
def bl (n:Int):Nat:=(aA n.natAbs).length
theorem aBj (n m:Int):bl (n*m)<=bl n+bl m:=by unfold bl;rw[aVc];exact eQ _ _
theorem aLM (n m:Int):bl (n+m)<=max (bl n) (bl m)+1:=by
 unfold bl
 exact aTY (fT (Int.natAbs_add_le n m) (aTU _)) (aHa _ _)
theorem aSl (n:Int):bl (-n)=bl n:=by unfold bl;rw[Int.natAbs_neg]
theorem zC (n m:Int)(hn:bl n<=60)(hm:bl m<=60)(h:bl (n*m)<=60):jC (big n) (big m)=some (big (n*m)):=by
 unfold jC
 unfold bl at *
 rw[aVc]at h
 simp only[big]
 rw[(oV n.natAbs m.natAbs (by omega) (by omega)).2]
 simp only[aTI]
 rw[wI _ _ h]
 simp only[aTI]
 rw[aFH,aVc]
theorem aIf (n:Int)(d:Nat)(h:(aA (n.natAbs*d)).length<=60):cS (decide (n<0)) (aA (n.natAbs*d))=some (big (n*d)):=by
 rw[rX _ _ h]
 have:=aFH n (d:Int)
 rw[aTL (show ¬((d:Int)<0)by omega)]at this
 simp only[aUK]at this
 unfold big
 rw[<- this]
 simp only[aVc,aUK]
 congr 2
 cases decide (n<0) <;> rfl
theorem aMO (n m:Int)(h:(decide (n<0) == decide (m<0))=true):(n+m).natAbs=n.natAbs+m.natAbs/\(decide (n<0)&&decide ((n+m).natAbs≠0))=decide (n+m<0):=by
 by_cases c1:n<0
 · by_cases c2:m<0
   · refine⟨by omega,?_⟩
     rw[aTN c1,aTN (by omega),aTN (by omega)];rfl
   · simp[c1,c2]at h
 · by_cases c2:m<0
   · simp[c1,c2]at h
   · refine⟨by omega,?_⟩
     rw[aTL c1,aTL (show ¬(n+m<0)by omega)];rfl
theorem aFP (n m:Int)(h:¬(decide (n<0) == decide (m<0))=true)(hle:m.natAbs<=n.natAbs):(n+m).natAbs=n.natAbs-m.natAbs/\(decide (n<0)&&decide ((n+m).natAbs≠0))=decide (n+m<0):=by
 by_cases c1:n<0
 · by_cases c2:m<0
   · simp[c1,c2]at h
   · refine⟨by omega,?_⟩
     rw[aTN c1,aWy]
     exact decide_eq_decide.2 (by omega)
 · by_cases c2:m<0
   · refine⟨by omega,?_⟩
     rw[aTL c1,aTL (show ¬(n+m<0)by omega)];rfl
   · simp[c1,c2]at h
theorem aPG (n m:Int)(hn:bl n<=60)(hm:bl m<=60)(h:bl (n+m)<=60):xF (big n) (big m)=some (big (n+m)):=by
 unfold xF
 unfold bl at *
 by_cases c:(decide (n<0) == decide (m<0))=true
 · obtain⟨e1,e2⟩:=aMO n m c
   rw[aTK (show((big n).fNeg == (big m).fNeg)=true from c)]
   simp only[aBl,aBk]
   rw[aOW _ _ (by omega) (by omega)]
   simp only[aTI]
   rw[<- e1,wI _ _ h,e2];rfl
 · rw[aTJ (show ¬((big n).fNeg == (big m).fNeg)=true from c)]
   simp only[aBl,aBk]
   rw[aGB _ _ (by omega) (by omega)]
   simp only[aTI]
   by_cases c2:m.natAbs<=n.natAbs
   · obtain⟨e1,e2⟩:=aFP n m c c2
     have c3:0<=tG n.natAbs m.natAbs:=by unfold tG;rw[aTJ (by omega)];split <;> omega
     rw[aTK c3,(aAs _ _ (by omega) c2).2]
     simp only[aTI]
     rw[<- e1,wI _ _ h,e2];rfl
   · obtain⟨e1,e2⟩:=aFP m n (by rw[Bool.beq_comm];exact c) (by omega)
     have c3:¬0<=tG n.natAbs m.natAbs:=by unfold tG;rw[aTK (by omega)];omega
     rw[aTJ c3,(aAs _ _ (by omega) (by omega)).2]
     simp only[aTI]
     rw[<- e1,Int.add_comm m n]at *
     rw[wI _ _ h,e2];rfl
theorem aKd (n m:Int)(hn:bl n<=60)(hm:bl m<=60)(h:bl (n+m)<=60):tU (big n) (big m)=some (big (n+m)):=by
 unfold tU
 unfold bl at *
 by_cases c:(decide (n<0) == decide (m<0))=true
 · obtain⟨e1,e2⟩:=aMO n m c
   rw[aTK (show((big n).fNeg == (big m).fNeg)=true from c)]
   simp only[aBl,aBk]
   rw[aKf _ _ (by omega) (by omega)]
   simp only[aTI]
   rw[<- e1,rX _ _ h,e2];rfl
 · rw[aTJ (show ¬((big n).fNeg == (big m).fNeg)=true from c)]
   simp only[aBl,aBk]
   rw[aB2 _ _ (by omega) (by omega)]
   simp only[aTI]
   by_cases c2:m.natAbs<=n.natAbs
   · obtain⟨e1,e2⟩:=aFP n m c c2
     have c3:0<=tG n.natAbs m.natAbs:=by unfold tG;rw[aTJ (by omega)];split <;> omega
     rw[aTK c3,(aAs _ _ (by omega) c2).1]
     simp only[aTI]
     rw[<- e1,rX _ _ h,e2];rfl
   · obtain⟨e1,e2⟩:=aFP m n (by rw[Bool.beq_comm];exact c) (by omega)
     have c3:¬0<=tG n.natAbs m.natAbs:=by unfold tG;rw[aTK (by omega)];omega
     rw[aTJ c3,(aAs _ _ (by omega) (by omega)).1]
     simp only[aTI]
     rw[<- e1,Int.add_comm m n]at *
     rw[rX _ _ h,e2];rfl
def oO:Rat:=Rat.mk (BigInt.mk false []) []
def mkR (s:Bool)(x y:Nat):Rat :=
 if y=0 then oO else if 24<(aA (x / Nat.gcd x y)).length\/24<(aA (y / Nat.gcd x y)).length then oO
 else⟨⟨s&&decide (x / Nat.gcd x y≠0),aA (x / Nat.gcd x y)⟩,aA (y / Nat.gcd x y)⟩
theorem aQg:bB oO<=48:=by decide
theorem aMG {x y:Nat}(hx:(aA x).length<=700)(hy:(aA y).length<=700):(aA (Nat.gcd x y)).length<=700:=by
 by_cases c:x=0
 · subst c;rw[Nat.gcd_zero_left];exact hy
 · exact aTY (fT (Nat.gcd_le_left y (aVt c)) (aTU _)) hx
theorem aEy (s t:Bool)(x y:Nat)(hx:(aA x).length<=60)(hy:(aA y).length<=60):oG ⟨s,aA x⟩ ⟨t,aA y⟩=some (mkR (!(s == t)) x y):=by
 unfold oG mkR
 simp only[]
 by_cases c:y=0
 · rw[aTK c,aTK (by rw[c,bC];rfl)];rfl
 · have hl:(aA y).length≠0:=fun e=>dO c (aTW.1 e)
   have hg:=aMG (x:=x) (y:=y) (by omega) (by omega)
   have hg0:0<Nat.gcd x y:=aWb x (aVt c)
   rw[aTJ c,aTJ (by omega),aJ1 x y (by omega) (by omega)]
   simp only[aTI]
   rw[aGA x _ hg0 (by omega) hg,aGA y _ hg0 (by omega) hg]
   simp only[aTI]
   have l1:=aQ0 x (Nat.gcd x y)
   by_cases c1:24<(aA (x / Nat.gcd x y)).length
   · rw[aTK (by omega),aTK (.inl c1)];rfl
   · rw[aTJ (by omega)]
     by_cases c2:24<(aA (y / Nat.gcd x y)).length
     · rw[aTK (.inr c2),aTN (by omega)];rfl
     · rw[aTJ (by omega),aTL (by omega)]
       simp only[aTI,aTP,aT9]
       rw[wI _ _ (by omega)];rfl
theorem vV:([1]:List Int)=aA 1:=by rw[sC (by rw[dN];omega) (by omega)];rfl
theorem aIw (x:Nat):iR (aA x)=some (decide (x=1)):=by
 unfold iR
 by_cases c:x=1
 · subst c;rw[<- vV];simp[idx]
 · rw[aTL c]
   by_cases h:(aA x).length=1
   · have hx:x<BB:=by have:=pW x;rw[h,aU7]at this;exact this
     have h0:x≠0:=by rintro rfl;rw[bC]at h;simp at h
     rw[aTK (by omega),show(0:Int)=((0:Nat):Int)from rfl,aM (by omega)]
     simp only[sC hx h0,aU1,aTI]
     rw[aTL (by omega)]
   · rw[aTJ (by omega)]
theorem aD5 (s:Bool)(x y:Nat)(hx:(aA x).length<=60)(hy:(aA y).length<=60):nW s (aA x) (aA y)=some (mkR s x y):=by
 unfold nW mkR
 rw[aAP (eJ x) (by omega),aAP (eJ y) (by omega),cV,cV]
 simp only[aTI]
 by_cases c:y=0
 · rw[aTK c,aTK (by rw[c,bC];rfl)];rfl
 · have hl:(aA y).length≠0:=fun e=>dO c (aTW.1 e)
   have hg:=aMG (x:=x) (y:=y) (by omega) (by omega)
   have hg0:0<Nat.gcd x y:=aWb x (aVt c)
   rw[aTJ c,aTJ (by omega),aIw]
   simp only[aTI]
   have key:((if decide (y=1)=true then some (aA x,aA y)else(qQ (aA x) (aA y)).bind fun r4=>(iR r4).bind fun r5=>(if r5=true then some (aA x,aA y)else(lP (aA x) r4).bind fun r6=>(lP (aA y) r4).bind fun r7=>some (r6.1,r7.1))):Option ((List Int)×(List Int)))=some (aA (x / Nat.gcd x y),aA (y / Nat.gcd x y)):=by
    by_cases c1:y=1
    · rw[aTN c1,aTK rfl,c1,Nat.gcd_one_right,Nat.div_one,Nat.div_one]
    · rw[aTL c1,aTJ (by simp),aKe x y (by omega) (by omega)]
      simp only[aTI]
      rw[aIw]
      simp only[aTI]
      by_cases c2:Nat.gcd x y=1
      · rw[aTN c2,aTK rfl,c2,Nat.div_one,Nat.div_one]
      · rw[aTL c2,aTJ (by simp),aGW x _ hg0 (by omega) hg,aGW y _ hg0 (by omega) hg];rfl
   rw[key]
   simp only[aTI]
   by_cases c1:24<(aA (x / Nat.gcd x y)).length
   · rw[aTK (by omega),aTK (.inl c1)];rfl
   · rw[aTJ (by omega)]
     by_cases c2:24<(aA (y / Nat.gcd x y)).length
     · rw[aTK (.inr c2),aTN (by omega)];rfl
     · rw[aTJ (by omega),aTL (by omega)]
       simp only[aTI,aTP,aT9]
       rw[rX _ _ (by omega)]
       simp only[aTI]
       rw[aN (by simp;omega)]
       simp only[aTI,aL,aTO]
def bM (r:Rat):Prop:=xS r.fNum/\vF r.fDen/\r.fDen≠[]/\r.fDen.length<=24/\r.fNum.fMag.length<=24/\Nat.gcd (val r.fNum.fMag) (val r.fDen)=1
instance (r:Rat):Decidable (bM r):=by unfold bM;infer_instance
theorem aOt (r:Rat)(h:bB r<=4294967296):r.fNum.fMag.length<=4294967296/\r.fDen.length<=4294967296:=by
 unfold bB vM yE at h
 simp only[uC]at h;omega
theorem aAL (r:Rat)(h:bB r<=4294967296):gB r=some (decide (bM r)):=by
 obtain⟨h1,h2⟩:=aOt r h
 unfold gB
 rw[aQe _ h1]
 simp only[aTI]
 by_cases c1:xS r.fNum
 · rw[aTN c1,aTK rfl,aKM _ h2]
   simp only[aTI]
   by_cases c2:vF r.fDen
   · rw[aTN c2,aTK rfl]
     simp only[aTI]
     by_cases c3:r.fDen=[]
     · rw[aTL (fun g:bM r=>g.2.2.1 c3),aTN (by rw[c3];rfl)];rfl
     · have hn:r.fDen.length≠0:=fun e=>c3 (aTW.1 e)
       rw[aTL (show ¬((r.fDen.length:Int)=0)by omega)]
       simp only[aTP,aT9]
       by_cases c4:24<r.fNum.fMag.length
       · rw[aTK (by omega),aTL (fun g:bM r=>by have:=g.2.2.2.2.1;omega)];rfl
       · rw[aTJ (by omega)]
         by_cases c5:24<r.fDen.length
         · rw[aTN (show(24:Int)<r.fDen.length by omega),aTL (fun g:bM r=>by have:=g.2.2.2.1;omega)];rfl
         · rw[aTL (show ¬(24:Int)<r.fDen.length by omega)]
           simp only[aTI,aTP,aT9]
           have e1:=oD c1.1
           have e2:=oD c2
           have g:=aJ1 (val r.fNum.fMag) (val r.fDen) (by rw[<- e1];omega) (by rw[<- e2];omega)
           rw[<- e1,<- e2]at g
           rw[g]
           have o:=aIw (Nat.gcd (val r.fNum.fMag) (val r.fDen))
           unfold iR at o
           simp only[aTI]
           rw[o]
           congr 1
           exact decide_eq_decide.2 ⟨fun q=>⟨c1,c2,c3,by omega,by omega,q⟩,fun q=>q.2.2.2.2.2⟩
   · rw[aTL c2,aTL (fun g:bM r=>c2 g.2.1)];rfl
 · rw[aTL c1,aTL (fun g:bM r=>c1 g.1)];rfl
theorem eM (r:Rat)(h:bB r<=4294967296):cI r=some (decide (bM r)):=by
 obtain⟨h1,h2⟩:=aOt r h
 unfold cI
 rw[aQd _ h1]
 simp only[aTI]
 by_cases c1:xS r.fNum
 · rw[aTN c1,aTK rfl,aHq _ h2]
   simp only[aTI]
   by_cases c2:vF r.fDen
   · rw[aTN c2,aTK rfl]
     by_cases c3:r.fDen=[]
     · rw[aTL (fun g:bM r=>g.2.2.1 c3),aTK (by rw[c3];rfl)];rfl
     · have hn:r.fDen.length≠0:=fun e=>c3 (aTW.1 e)
       rw[aTJ (by omega)]
       by_cases c5:24<r.fDen.length
       · rw[aTK (by omega),aTL (fun g:bM r=>by have:=g.2.2.2.1;omega)];rfl
       · rw[aTJ (by omega)]
         by_cases c4:24<r.fNum.fMag.length
         · rw[aTN (show(24:Int)<r.fNum.fMag.length by omega),aTL (fun g:bM r=>by have:=g.2.2.2.2.1;omega)];rfl
         · rw[aTL (show ¬(24:Int)<r.fNum.fMag.length by omega)]
           simp only[aTI,aTP,aT9]
           have e1:=oD c1.1
           have e2:=oD c2
           have g:=aKe (val r.fNum.fMag) (val r.fDen) (by rw[<- e1];omega) (by rw[<- e2];omega)
           rw[<- e1,<- e2]at g
           rw[g]
           simp only[aTI]
           rw[aIw]
           simp only[aTI]
           congr 1
           exact decide_eq_decide.2 ⟨fun q=>⟨c1,c2,c3,by omega,by omega,q⟩,fun q=>q.2.2.2.2.2⟩
   · rw[aTL c2,aTL (fun g:bM r=>c2 g.2.1)];rfl
 · rw[aTL c1,aTL (fun g:bM r=>c1 g.1)];rfl
theorem aA0 {r:Rat}(h:bM r):∃ (n:Int) (d:Nat),r=⟨big n,aA d⟩/\0<d/\bl n<=24/\(aA d).length<=24/\Nat.gcd n.natAbs d=1:=by
 obtain⟨h1,h2,h3,h4,h5,h6⟩:=h
 have e1:=aSm h1
 have e2:=oD h2
 refine⟨aPF r.fNum,val r.fDen,?_,?_,?_,by rw[<- e2];exact h4,by rw[aHh];exact h6⟩
 · rw[<- e1,<- e2]
 · rcases Nat.eq_zero_or_pos (val r.fDen)with z | z
   · rw[z,bC]at e2;exact absurd e2 h3
   · exact z
 · unfold bl;rw[aHh,<- oD h1.1];exact h5
theorem aCD (d:Nat):(⟨false,aA d⟩:BigInt)=big (d:Int):=by
 unfold big
 rw[aTL (by omega),aUK]
theorem aDj {n:Int}{d:Nat}(h:0<d):cQ ⟨big n,aA d⟩=some true:=by
 unfold cQ
 have:(aA d).length≠0:=fun e=>dO (n:=d) (by omega) (aTW.1 e)
 simp only[]
 rw[aTN (by omega)]
def aKG (n:Int)(d:Nat)(m:Int)(e:Nat):Rat:=mkR (decide (n*e+m*d<0)) (n*e+m*d).natAbs (d*e)
theorem aDH (n:Int)(d:Nat)(m:Int)(e:Nat)(hd:0<d)(he:0<e)(h1:bl n<=24)(h2:(aA d).length<=24)(h3:bl m<=24)(h4:(aA e).length<=24):bL ⟨big n,aA d⟩ ⟨big m,aA e⟩=some (aKG n d m e):=by
 unfold bL
 rw[aDj hd,aDj he]
 simp only[aTI,aT3,aUL,aTP,aT9,iG]
 have b1:bl (e:Int)<=24:=by unfold bl;rw[aUK];exact h4
 have b2:bl (d:Int)<=24:=by unfold bl;rw[aUK];exact h2
 have b3:=aBj n e
 have b4:=aBj m d
 have b5:=aLM (n*e) (m*d)
 have b6:=aBj d e
 rw[aCD,aCD,zC n e (by omega) (by omega) (by omega),zC m d (by omega) (by omega) (by omega)]
 simp only[aTI]
 rw[aPG _ _ (by omega) (by omega) (by omega),zC d e (by omega) (by omega) (by omega)]
 simp only[aTI]
 unfold big aKG
 unfold bl at b5 b6 b1 b2 b3 b4 h1 h3
 rw[aEy _ _ _ _ (by omega) (by omega)]
 have:decide ((d:Int)*(e:Int)<0)=false:=aTL (by have:=Int.mul_nonneg (a:=(d:Int)) (b:=(e:Int)) (by omega) (by omega);omega)
 rw[this,aVc,aUK,aUK]
 simp only[aTI]
 congr 2
 cases decide (n*(e:Int)+m*(d:Int)<0) <;> rfl
theorem aO7 (n:Int)(d:Nat)(m:Int)(e:Nat)(hd:0<d)(he:0<e)(h1:bl n<=24)(h2:(aA d).length<=24)(h3:bl m<=24)(h4:(aA e).length<=24):qO ⟨big n,aA d⟩ ⟨big m,aA e⟩=some (aKG n d m e):=by
 have b1:bl (e:Int)<=24:=by unfold bl;rw[aUK];exact h4
 have b2:bl (d:Int)<=24:=by unfold bl;rw[aUK];exact h2
 have b3:=aBj n e
 have b4:=aBj m d
 have b5:=aLM (n*e) (m*d)
 have b7:=aLM n m
 have b6:=eQ d e
 unfold qO
 simp only[]
 rw[aIw,aIw]
 simp only[aTI]
 have key:((if decide (d=1)=true then some (decide (e=1))else some false):Option Bool)=some (decide (d=1/\e=1)):=by
  by_cases c:d=1 <;> simp[c]
 rw[key]
 simp only[aTI]
 by_cases c:d=1/\e=1
 · rw[aTN c,aTK rfl,aKd n m (by omega) (by omega) (by omega)]
   simp only[aTI]
   obtain⟨c1,c2⟩:=c
   unfold aKG
   rw[vV]
   unfold bl at b7 h1 h3
   simp only[big]
   rw[aD5 _ _ _ (by omega) (by rw[<- vV];simp),c1,c2]
   simp
 · rw[aTL c,aTJ (by simp)]
   have p1:(aA (n.natAbs*e)).length<=48:=by have:=eQ n.natAbs e;unfold bl at h1;omega
   have p2:(aA (m.natAbs*d)).length<=48:=by have:=eQ m.natAbs d;unfold bl at h3;omega
   have q1:dK (big n).fMag (aA e)=some (aA (n.natAbs*e)):=by unfold bl at h1;exact(oV n.natAbs e (by omega) (by omega)).1
   have q2:dK (big m).fMag (aA d)=some (aA (m.natAbs*d)):=by unfold bl at h3;exact(oV m.natAbs d (by omega) (by omega)).1
   have q3:cS (big n).fNeg (aA (n.natAbs*e))=some (big (n*e)):=aIf n e (by omega)
   have q4:cS (big m).fNeg (aA (m.natAbs*d))=some (big (m*d)):=aIf m d (by omega)
   rw[q1]
   simp only[aTI]
   rw[q3]
   simp only[aTI]
   rw[q2]
   simp only[aTI]
   rw[q4]
   simp only[aTI]
   rw[aKd _ _ (by omega) (by omega) (by omega)]
   simp only[aTI]
   rw[(oV d e (by omega) (by omega)).1]
   simp only[aTI]
   unfold aKG
   unfold bl at b5 b3 b4 h1 h3 b1 b2
   simp only[big]
   rw[aD5 _ _ _ (by omega) (by omega)];rfl
/- Fractions: the interface that both programs meet. -/
def VZ (r:Rat):Prop:=bM r\/r=oO
theorem aBE:¬bM oO:=fun h=>h.2.2.1 rfl
theorem aCM:VZ oO:=.inr rfl
theorem mL {r:Rat}(h:VZ r):bB r<=48:=by
 rcases h with h | h
 · unfold bB vM yE
   simp only[uC]
   have h1:=h.2.2.2.1
   have h2:=h.2.2.2.2.1
   omega
 · subst h;exact aQg
theorem aG9 {n:Nat}(h:0<n):aA n≠[]:=dO (by omega)
theorem aLm (s:Bool)(x y:Nat):VZ (mkR s x y):=by
 unfold mkR
 by_cases c:y=0
 · rw[aTK c];exact aCM
 · rw[aTJ c]
   by_cases c2:24<(aA (x / Nat.gcd x y)).length\/24<(aA (y / Nat.gcd x y)).length
   · rw[aTK c2];exact aCM
   · rw[aTJ c2]
     left
     have hg0:0<Nat.gcd x y:=aWb x (aVt c)
     have hy:0<y / Nat.gcd x y:=Nat.div_pos (Nat.gcd_le_right x (aVt c)) hg0
     refine⟨⟨aA9 (by omega),fun h=>?_⟩,aA9 (by omega),aG9 hy,by show(aA (y / Nat.gcd x y)).length<=24;omega,by show(aA (x / Nat.gcd x y)).length<=24;omega,?_⟩
     · simp only[aUa,aUQ]at h
       exact dO h.2
     · simp only[cV]
       have:=Nat.gcd_div (Nat.gcd_dvd_left x y) (Nat.gcd_dvd_right x y)
       rw[this,Nat.div_self hg0]
theorem aFJ {s s':Bool}{x y:Nat}(h:x≠0->s=s'):mkR s x y=mkR s' x y:=by
 by_cases c:x=0
 · subst c;unfold mkR;simp
 · rw[h c]
theorem iQ {r:Rat}(h:VZ r):cQ r=some (decide (bM r)):=by
 unfold cQ
 rcases h with h | h
 · have:r.fDen.length≠0:=fun e=>h.2.2.1 (aTW.1 e)
   rw[aTN h,aTN (by omega)]
 · subst h
   rw[aTL aBE];rfl
theorem aEk (r s:Rat)(hr:bB r<=4294967296)(hs:bB s<=4294967296):∃ t,dM r s=some t/\VZ t/\(VZ r->VZ s->bL r s=some t):=by
 unfold dM
 rw[eM r hr]
 simp only[aTI]
 by_cases c1:bM r
 · rw[aTN c1,aTK rfl,eM s hs]
   simp only[aTI]
   by_cases c2:bM s
   · rw[aTN c2]
     obtain⟨n,d,e1,e2,e3,e4,_⟩:=aA0 c1
     obtain⟨m,e,g1,g2,g3,g4,_⟩:=aA0 c2
     subst e1;subst g1
     simp only[aUL,aTP,aT9]
     have q:=aDH n d m e e2 g2 e3 e4 g3 g4
     rw[aO7 n d m e e2 g2 e3 e4 g3 g4]
     exact⟨_,rfl,aLm _ _ _,fun _ _=>q⟩
   · rw[aTL c2]
     refine⟨oO,rfl,aCM,fun v1 v2=>?_⟩
     unfold bL
     rw[iQ v1,iQ v2,aTN c1,aTL c2];rfl
 · rw[aTL c1]
   refine⟨oO,rfl,aCM,fun v1 v2=>?_⟩
   unfold bL
   rw[iQ v1,aTL c1];rfl
def aQK (n:Int)(d:Nat)(m:Int)(e:Nat):Rat:=mkR (!(decide (n<0) == decide (m<0))) (n.natAbs*m.natAbs) (d*e)
theorem aJR (n:Int)(d:Nat)(m:Int)(e:Nat)(hd:0<d)(he:0<e)(h1:bl n<=24)(h2:(aA d).length<=24)(h3:bl m<=24)(h4:(aA e).length<=24):bK ⟨big n,aA d⟩ ⟨big m,aA e⟩=some (aQK n d m e):=by
 unfold bK
 rw[aDj hd,aDj he]
 simp only[aTI,aT3,aUL,aTP,aT9,iG]
 have b1:bl (e:Int)<=24:=by unfold bl;rw[aUK];exact h4
 have b2:bl (d:Int)<=24:=by unfold bl;rw[aUK];exact h2
 have b3:=aBj n m
 have b6:=aBj d e
 rw[zC n m (by omega) (by omega) (by omega),aCD,aCD,zC d e (by omega) (by omega) (by omega)]
 simp only[aTI]
 unfold big aQK
 unfold bl at b6 b1 b2 b3 h1 h3
 rw[aEy _ _ _ _ (by omega) (by omega)]
 have:decide ((d:Int)*(e:Int)<0)=false:=aTL (by have:=Int.mul_nonneg (a:=(d:Int)) (b:=(e:Int)) (by omega) (by omega);omega)
 rw[this,aVc,aVc,aUK,aUK]
 simp only[aTI]
 congr 1
 refine aFJ fun hx=>?_
 have q:=aFH n m
 rw[aTN hx,Bool.and_true]at q
 rw[<- q]
 cases decide (n<0) <;> cases decide (m<0) <;> rfl
theorem aO6 (n:Int)(d:Nat)(m:Int)(e:Nat)(h1:bl n<=24)(h2:(aA d).length<=24)(h3:bl m<=24)(h4:(aA e).length<=24):wU ⟨big n,aA d⟩ ⟨big m,aA e⟩=some (aQK n d m e):=by
 unfold bl at h1 h3
 have b1:=eQ n.natAbs m.natAbs
 have b2:=eQ d e
 unfold wU
 simp only[big]
 rw[(oV _ _ (by omega) (by omega)).1]
 simp only[aTI]
 rw[(oV _ _ (by omega) (by omega)).1]
 simp only[aTI]
 rw[aD5 _ _ _ (by omega) (by omega)]
 rfl
theorem aPR (r s:Rat)(hr:bB r<=4294967296)(hs:bB s<=4294967296):∃ t,eG r s=some t/\VZ t/\(VZ r->VZ s->bK r s=some t):=by
 unfold eG
 rw[eM r hr]
 simp only[aTI]
 by_cases c1:bM r
 · rw[aTN c1,aTK rfl,eM s hs]
   simp only[aTI]
   by_cases c2:bM s
   · rw[aTN c2]
     obtain⟨n,d,e1,e2,e3,e4,_⟩:=aA0 c1
     obtain⟨m,e,g1,g2,g3,g4,_⟩:=aA0 c2
     subst e1;subst g1
     simp only[aUL,aTP,aT9]
     rw[aO6 n d m e e3 e4 g3 g4]
     exact⟨_,rfl,aLm _ _ _,fun _ _=>aJR n d m e e2 g2 e3 e4 g3 g4⟩
   · rw[aTL c2]
     refine⟨oO,rfl,aCM,fun v1 v2=>?_⟩
     unfold bK
     rw[iQ v1,iQ v2,aTN c1,aTL c2];rfl
 · rw[aTL c1]
   refine⟨oO,rfl,aCM,fun v1 v2=>?_⟩
   unfold bK
   rw[iQ v1,aTL c1];rfl
def xX (r:Rat):Int:=if bM r then(if r.fNum.fMag=[]then 0 else if r.fNum.fNeg=true then -1 else 1)else 0
theorem aAv {r:Rat}(h:0<xX r):bM r:=by
 unfold xX at h
 by_cases c:bM r
 · exact c
 · rw[aTJ c]at h;omega
theorem aAK (r:Rat)(hr:bB r<=4294967296):lQ r=some (xX r)/\oI r=some (xX r):=by
 unfold lQ oI xX
 rw[aAL r hr,eM r hr]
 simp only[aTI]
 by_cases c1:bM r
 · rw[aTN c1,aTK c1,aTK rfl,aTK rfl]
   unfold oF
   rw[iQ (.inl c1),aTN c1]
   simp only[aTI,aT3]
   by_cases c2:r.fNum.fMag=[]
   · rw[aTK c2,aTN (by rw[c2];rfl)];exact⟨rfl,rfl⟩
   · have:r.fNum.fMag.length≠0:=fun e=>c2 (aTW.1 e)
     rw[aTJ c2,aTL (by omega)]
     simp only[aTP,aT9]
     cases r.fNum.fNeg <;> exact⟨rfl,rfl⟩
 · rw[aTL c1,aTJ c1];exact⟨rfl,rfl⟩
theorem aRy (a b:List Int)(h:a.length<=4294967296):xW a b=some (decide (a=b)):=by
 unfold xW
 by_cases c:a.length=b.length
 · rw[aTJ (by omega)]
   have main:∀ m k:Nat,m+k=a.length->lp (lK a b) (k:Int)=some (if a.drop k=b.drop k then .inl ()else .inr false):=by
    intro m
    induction m with
    | zero =>
     intro k hk
     rw[aTK (by rw[aUe (by omega),aUe (by omega)])]
     exact aJ (by unfold lK;rw[aTJ (by omega)])
    | succ m ih =>
     intro k hk
     have h1:k<a.length:=by omega
     have h2:k<b.length:=by omega
     by_cases e:a[k]=b[k]
     · have s1:lK a b (k:Int)=some (.inl ((k+1:Nat):Int)):=by
        unfold lK
        rw[aTK (by omega),aM h1,aM h2,wi (by omega)];simp[e]
       rw[aS s1,ih (k+1) (by omega)]
       have:a.drop k=b.drop k↔a.drop (k+1)=b.drop (k+1):=by
        rw[aTQ h1,aTQ h2,List.cons.injEq]
        exact⟨fun h=>h.2,fun h=>⟨e,h⟩⟩
       simp only[this]
     · have:¬a.drop k=b.drop k:=by
        rw[aTQ h1,aTQ h2,List.cons.injEq]
        exact fun h=>e h.1
       rw[aTJ this]
       refine aJ ?_
       unfold lK
       rw[aTK (by omega),aM h1,aM h2];simp[e]
   have:=main a.length 0 (by omega)
   rw[show((0:Nat):Int)=0 from rfl,aUD,aUD]at this
   rw[this]
   by_cases e:a=b
   · simp[e]
   · simp[e]
 · rw[aTK (by omega),aTL (fun e=>c (by rw[e]))]
theorem aHJ:cF=sN:=rfl
theorem aLS (r s:Rat)(hr:bB r<=4294967296):∃ b,sN r s=some b:=by
 obtain⟨h1,h2⟩:=aOt r hr
 unfold sN
 rw[aRy _ _ h1,aRy _ _ h2]
 simp only[aTI]
 split
 · split
   · exact⟨_,rfl⟩
   · exact⟨_,rfl⟩
 · exact⟨_,rfl⟩
theorem aA1 (n:Int)(h:-9223372036854775808<=n/\n<=9223372036854775807):bM (sF n):=by
 have hl:=kC (v:=n.natAbs) (by omega)
 unfold sF
 rw[vV]
 refine⟨⟨aA9 (by omega),fun hn=>?_⟩,aA9 (by rw[<- vV];simp),aG9 (by omega),by rw[<- vV];simp,by show(aA n.natAbs).length<=24;omega,?_⟩
 · simp only[big,aUQ]at hn
   exact dO (by omega)
 · simp only[cV,Nat.gcd_one_right]
/- Is a number in a list. -/
theorem aB7 (l:List Int)(n:Int)(h:l.length<=4294967296):gG l n=some (decide (n∈l)):=by
 have main:∀ m k:Nat,m+k=l.length->lp (kZ l n) (k:Int)=some (if n∈l.drop k then .inr true else .inl ()):=by
  intro m
  induction m with
  | zero =>
   intro k hk
   have:k=l.length:=by omega
   subst this
   rw[aJ (r:=.inl ()) (by unfold kZ;rw[aTJ (by omega)]),aU3];simp
  | succ m ih =>
   intro k hk
   have hlt:k<l.length:=by omega
   rw[aTQ hlt]
   by_cases c:l[k]=n
   · rw[aJ (r:=.inr true) (by unfold kZ;rw[aTK (by omega),aM hlt];simp[c]),aTK (by simp[c])]
   · have e:kZ l n (k:Int)=some (.inl ((k:Int)+1)):=by
      unfold kZ;rw[aTK (by omega),aM hlt,wi (by omega)];simp[c]
     rw[aS e,show(k:Int)+1=((k+1:Nat):Int)by omega,ih (k+1) (by omega)]
     have:(n∈l[k]::l.drop (k+1))↔n∈l.drop (k+1):=by
      rw[aTM];exact⟨fun h=>h.resolve_left (fun e=>c e.symm),.inr⟩
     simp only[this]
 have:=main l.length 0 (by omega)
 rw[show((0:Nat):Int)=0 from rfl,aUD]at this
 unfold gG
 rw[this]
 by_cases c:n∈l <;> simp[c]
theorem aD4 (l:List Int)(n:Int)(h:l.length<=4294967296):zK l n=some (decide (n∈l)):=aB7 l n h
/- Conditionals and nets, both programs. -/
theorem aKk (a:Int):rE a=some (decide (0<=a/\a<=9)):=by
 unfold rE
 by_cases h:0<=a
 · rw[aTK h];congr 1;rw[decide_eq_decide];omega
 · rw[aTJ h,aTL (by omega)]
theorem aCy (a:Int):jX a=some (decide (0<=a/\a<=9)):=by
 unfold jX
 rw[aBd];rfl
def aGv (c:Conditional)(k:Nat)(p:Parent):Prop:=(0<=p.fNode/\p.fNode<=9)/\p.fNode≠c.fNode/\(∀ q,0<k->c.fParents[k-1]?=some q->q.fNode<p.fNode)/\0<xX p.fShare/\bM p.fDX/\bM p.fDY
theorem aRr {c:Conditional}(h:aV c<=4294967296){k:Nat}(hk:k<c.fParents.length):bB (c.fParents[k]).fShare<=4294967296/\bB (c.fParents[k]).fDX<=4294967296/\bB (c.fParents[k]).fDY<=4294967296:=by
 unfold aV nT at h
 have:=qB (w:=jN) (aT2 hk)
 have e:jN c.fParents[k]=bB (c.fParents[k]).fShare+bB (c.fParents[k]).fDX+bB (c.fParents[k]).fDY:=rfl
 omega
theorem aI5 {c:Conditional}(h:aV c<=4294967296):c.fParents.length<=4294967296/\bB c.fTotal<=4294967296:=by
 unfold aV nT at h
 have:=jW jN c.fParents
 omega
theorem aKR (c:Conditional)(h:aV c<=4294967296):∀ m k:Nat,m+k=c.fParents.length->∀ s:Rat,VZ s->
 ∃ r,lp (bJ c) ((k:Int),s)=some r/\lp (cJ c) ((k:Int),s)=some r/\
  (match r with | .inl v=>VZ v/\∀ j (hj:j<c.fParents.length),k<=j->aGv c j c.fParents[j] | .inr b=>b=false):=by
 have hl:=(aI5 h).1
 intro m
 induction m with
 | zero =>
  intro k hk s hs
  refine⟨.inl s,aJ ?_,aJ ?_,hs,fun j hj hkj=>by omega⟩
  · unfold bJ;simp only[];rw[aTJ (by omega)]
  · unfold cJ;simp only[];rw[aTJ (by omega)]
 | succ m ih =>
  intro k hk s hs
  have hlt:k<c.fParents.length:=by omega
  obtain⟨z1,z2,z3⟩:=aRr h hlt
  obtain⟨g1,g2⟩:=aAK _ z1
  have a1:=aAL _ z2
  have a2:=aAL _ z3
  have b1:=eM _ z2
  have b2:=eM _ z3
  obtain⟨t,t1,t3,t4⟩:=aEk s (c.fParents[k]).fShare (by have:=mL hs;omega) z1
  have step:(aGv c k c.fParents[k]->bJ c ((k:Int),s)=some (.inl (((k+1:Nat):Int),t))/\cJ c ((k:Int),s)=some (.inl (((k+1:Nat):Int),t)))/\
   (¬aGv c k c.fParents[k]->bJ c ((k:Int),s)=some (.inr (.inr false))/\cJ c ((k:Int),s)=some (.inr (.inr false))):=by
   have w1:IntKind.i64.wrap ((k:Int)+1)=((k+1:Nat):Int):=by rw[wi (by omega)];omega
   have hin:(k:Int)<(c.fParents.length:Int):=by omega
   unfold bJ cJ
   simp only[hin,aT3,aM hlt,aTI,aKk,aCy,g1,g2,a1,a2,b1,b2,t1,w1]
   by_cases A:0<=(c.fParents[k]).fNode/\(c.fParents[k]).fNode<=9
   · by_cases B:(c.fParents[k]).fNode=c.fNode
     · refine⟨fun g=>absurd B g.2.1,fun _=>?_⟩
       simp[A,B]
     · by_cases D:0<xX (c.fParents[k]).fShare
       · have D':¬xX (c.fParents[k]).fShare<=0:=by omega
         have t5:=t4 hs (.inl (aAv D))
         by_cases K:0<k
         · have hlt2:k-1<c.fParents.length:=by omega
           have w2:IntKind.i64.wrap ((k:Int)-1)=((k-1:Nat):Int):=by rw[wi (by omega)];omega
           have K':(0:Int)<(k:Int):=by omega
           simp only[A,B,K',D',w2,aM hlt2,and_self,aVx,aT3,aT9,aTI]
           by_cases C:(c.fParents[k]).fNode<=(c.fParents[k-1]).fNode
           · refine⟨fun g=>?_,fun _=>?_⟩
             · have:=g.2.2.1 (c.fParents[k-1]) K (by rw[aTS hlt2]);omega
             · simp[C]
           · by_cases E:bM (c.fParents[k]).fDX
             · by_cases F:bM (c.fParents[k]).fDY
               · refine⟨fun _=>?_,fun g=>absurd ⟨A,B,fun q _ hq=>?_,D,E,F⟩ g⟩
                 · simp[C,E,F,t5]
                 · rw[aTS hlt2]at hq;cases hq;omega
               · refine⟨fun g=>absurd g.2.2.2.2.2 F,fun _=>?_⟩
                 simp[C,E,F]
             · refine⟨fun g=>absurd g.2.2.2.2.1 E,fun _=>?_⟩
               simp[C,E]
         · have K':¬(0:Int)<(k:Int):=by omega
           simp only[A,B,K',D',and_self,aVx,aT3,aT9,aTI]
           by_cases E:bM (c.fParents[k]).fDX
           · by_cases F:bM (c.fParents[k]).fDY
             · refine⟨fun _=>?_,fun g=>absurd ⟨A,B,fun q hq _=>absurd hq K,D,E,F⟩ g⟩
               simp[E,F,t5]
             · refine⟨fun g=>absurd g.2.2.2.2.2 F,fun _=>?_⟩
               simp[E,F]
           · refine⟨fun g=>absurd g.2.2.2.2.1 E,fun _=>?_⟩
             simp[E]
       · have D':xX (c.fParents[k]).fShare<=0:=by omega
         refine⟨fun g=>absurd g.2.2.2.1 D,fun _=>?_⟩
         by_cases K:0<k
         · have hlt2:k-1<c.fParents.length:=by omega
           have w2:IntKind.i64.wrap ((k:Int)-1)=((k-1:Nat):Int):=by rw[wi (by omega)];omega
           have K':(0:Int)<(k:Int):=by omega
           simp only[A,B,K',D',w2,aM hlt2,and_self,aVx,aT3,aT9,aTI]
           by_cases C:(c.fParents[k]).fNode<=(c.fParents[k-1]).fNode <;> simp[C]
         · have K':¬(0:Int)<(k:Int):=by omega
           simp only[A,B,K',D',and_self,aVx,aT3,aT9,aTI]
           simp
   · refine⟨fun g=>absurd g.1 A,fun _=>?_⟩
     simp[A]
  by_cases G:aGv c k c.fParents[k]
  · obtain⟨s1,s2⟩:=step.1 G
    rw[aS s1,aS s2]
    obtain⟨r,e1,e2,e3⟩:=ih (k+1) (by omega) t t3
    refine⟨r,e1,e2,?_⟩
    cases r with
    | inl v =>
     refine⟨e3.1,fun j hj hkj=>?_⟩
     by_cases e:j=k
     · subst e;exact G
     · exact e3.2 j hj (by omega)
    | inr b=>exact e3
  · obtain⟨s1,s2⟩:=step.2 G
    exact⟨.inr false,aJ s1,aJ s2,rfl⟩
theorem aMg:VZ (sF 0):=.inl (aA1 0 (by omega))
theorem aJo (c:Conditional)(h:aV c<=4294967296):∃ b,bT c=some b/\bZ c=some b/\(b=true->(1<=c.fNode/\c.fNode<=9)/\∀ j (hj:j<c.fParents.length),aGv c j c.fParents[j]):=by
 obtain⟨hl,hT⟩:=aI5 h
 obtain⟨g1,g2⟩:=aAK _ hT
 obtain⟨r,e1,e2,e3⟩:=aKR c h c.fParents.length 0 (by omega) (sF 0) aMg
 rw[show((0:Nat):Int)=0 from rfl]at e1 e2
 unfold bT bZ
 rw[bY 0 (by omega),dJ 0 (by omega),bY 1 (by omega),dJ 1 (by omega)]
 simp only[aTI,e1,e2,g1,g2,aBd]
 by_cases A:1<=c.fNode/\c.fNode<=9
 · have A1:¬c.fNode<1:=by omega
   have A2:¬10<=c.fNode:=by omega
   by_cases B:0<xX c.fTotal
   · have B':¬xX c.fTotal<=0:=by omega
     by_cases D:c.fParents.length=0
     · have D1:¬(0:Int)<(c.fParents.length:Int):=by omega
       have D2:(c.fParents.length:Int)=0:=by omega
       refine⟨false,?_,?_,fun h=>by cases h⟩
       · cases r with
         | inl v=>simp only[A,B,D1,and_self,aVx,aT3,aT9,aTI]
         | inr b=>simp only[]at e3;subst e3;rfl
       · simp[A1,A2,B',D2]
     · have D1:(0:Int)<(c.fParents.length:Int):=by omega
       have D2:¬(c.fParents.length:Int)=0:=by omega
       cases r with
       | inl v =>
        obtain⟨b,hb⟩:=aLS v (sF 1) (by have:=mL e3.1;omega)
        refine⟨b,?_,?_,fun _=>⟨A,fun j hj=>e3.2 j hj (by omega)⟩⟩
        · simp only[A,B,D1,hb,and_self,aVx,aT3,aT9,aTI]
        · rw[aHJ];simp only[A1,A2,B',D2,hb,aV9,aT3,aT9,aTI,aTP]
       | inr b =>
        simp only[]at e3;subst e3
        refine⟨false,rfl,?_,fun h=>by cases h⟩
        simp[A1,A2,B',D2]
   · have B':xX c.fTotal<=0:=by omega
     refine⟨false,?_,?_,fun h=>by cases h⟩
     · cases r with
       | inl v=>simp[A,B]
       | inr b=>simp only[]at e3;subst e3;rfl
     · simp[A1,A2,B']
 · refine⟨false,?_,?_,fun h=>by cases h⟩
   · cases r with
     | inl v=>simp[A]
     | inr b=>simp only[]at e3;subst e3;rfl
   · by_cases A1:c.fNode<1
     · simp[A1]
     · have A2:10<=c.fNode:=by omega
       simp[A1,A2]
/- Fractions: quotients, differences, negation; the operations as total functions that both programs meet on valid or zero values. -/
def aSi (n:Int)(d:Nat)(m:Int)(e:Nat):Rat:=mkR (!(decide (n<0) == decide (m<0))) (n.natAbs*e) (d*m.natAbs)
theorem aJS (n:Int)(d:Nat)(m:Int)(e:Nat)(hd:0<d)(he:0<e)(h1:bl n<=24)(h2:(aA d).length<=24)(h3:bl m<=24)(h4:(aA e).length<=24):dX ⟨big n,aA d⟩ ⟨big m,aA e⟩=some (aSi n d m e):=by
 unfold dX
 rw[aDj hd,aDj he]
 simp only[aTI,aT3,aUL,aTP,aT9,iG]
 have b1:bl (e:Int)<=24:=by unfold bl;rw[aUK];exact h4
 have b2:bl (d:Int)<=24:=by unfold bl;rw[aUK];exact h2
 have b3:=aBj n e
 have b4:=aBj m d
 rw[aCD,aCD,zC n e (by omega) (by omega) (by omega),zC m d (by omega) (by omega) (by omega)]
 simp only[aTI]
 unfold big aSi
 unfold bl at b1 b2 b3 b4 h1 h3
 rw[aEy _ _ _ _ (by omega) (by omega)]
 simp only[aTI,aVc,aUK]
 congr 1
 rw[aUm d m.natAbs]
 by_cases hm:m=0
 · subst hm;unfold mkR;simp
 · refine aFJ fun hx=>?_
   have s1:decide (n*(e:Int)<0)=decide (n<0):=by
    rw[decide_eq_decide]
    constructor
    · intro h
      rcases Int.lt_or_le n 0 with g | g
      · exact g
      · have:=Int.mul_nonneg g (by omega:(0:Int)<=e);omega
    · intro h;exact aV2 h (by omega)
   have s2:decide (m*(d:Int)<0)=decide (m<0):=by
    rw[decide_eq_decide]
    constructor
    · intro h
      rcases Int.lt_or_le m 0 with g | g
      · exact g
      · have:=Int.mul_nonneg g (by omega:(0:Int)<=d);omega
    · intro h;exact aV2 h (by omega)
   rw[s1,s2]
theorem aPS (r s:Rat)(hr:bB r<=4294967296)(hs:bB s<=4294967296):∃ t,iV r s=some t/\VZ t/\(VZ r->VZ s->dX r s=some t):=by
 unfold iV
 rw[eM r hr]
 simp only[aTI]
 by_cases c1:bM r
 · rw[aTN c1,aTK rfl,eM s hs]
   simp only[aTI]
   by_cases c2:bM s
   · rw[aTN c2]
     obtain⟨n,d,e1,e2,e3,e4,_⟩:=aA0 c1
     obtain⟨m,e,g1,g2,g3,g4,_⟩:=aA0 c2
     subst e1;subst g1
     simp only[aUL,aTP,aT9]
     have e3':=e3
     have g3':=g3
     unfold bl at e3' g3'
     have b1:=eQ n.natAbs e
     have b2:=eQ d m.natAbs
     have q:(dK (big n).fMag (aA e))=some (aA (n.natAbs*e)):=(oV _ _ (by omega) (by omega)).1
     have q2:(dK (aA d) (big m).fMag)=some (aA (d*m.natAbs)):=(oV _ _ (by omega) (by omega)).1
     rw[q]
     simp only[aTI]
     rw[q2]
     simp only[aTI]
     rw[aD5 _ _ _ (by omega) (by omega)]
     exact⟨_,rfl,aLm _ _ _,fun _ _=>aJS n d m e e2 g2 e3 e4 g3 g4⟩
   · rw[aTL c2]
     refine⟨oO,rfl,aCM,fun v1 v2=>?_⟩
     unfold dX
     rw[iQ v1,iQ v2,aTN c1,aTL c2];rfl
 · rw[aTL c1]
   refine⟨oO,rfl,aCM,fun v1 v2=>?_⟩
   unfold dX
   rw[iQ v1,aTL c1];rfl
theorem aIc (n:Int)(h:bl n<=24):(aA n.natAbs).length<=24:=h
theorem aMp (n:Int):(if((aA n.natAbs).length:Int)=0 then(⟨false,[]⟩:BigInt)else⟨!decide (n<0),aA n.natAbs⟩)=big (-n):=by
 by_cases c:n=0
 · subst c;simp[big,aA]
 · have:(aA n.natAbs).length≠0:=fun e=>dO (n:=n.natAbs) (by omega) (aTW.1 e)
   rw[aTJ (by omega)]
   unfold big
   rw[Int.natAbs_neg]
   congr 1
   by_cases h:n<0
   · rw[aTN h,aTL (by omega)];rfl
   · rw[aTL h,aTN (by omega)];rfl
theorem aHd (l:List Int)(h:l.length<=4294967296):eO l=some l:=by
 unfold eO
 rw[aN (by simp;omega)]
 simp[aX]
theorem aGm (n:Int)(d:Nat)(hd:0<d)(h1:bl n<=24)(h2:(aA d).length<=24):gF ⟨big n,aA d⟩=some ⟨big (-n),aA d⟩:=by
 unfold gF
 have h1':=aIc n h1
 rw[aDj hd]
 simp only[aTI,aT3,aBl,aBk]
 rw[aHd _ (by omega),aHd _ (by omega)]
 simp only[aTI]
 unfold eY
 have e:=aMp n
 by_cases c:((aA n.natAbs).length:Int)=0
 · rw[aTK c]at e;simp[c,e]
 · rw[aTJ c]at e
   rw[aTJ c]
   have:¬(60:Int)<(aA n.natAbs).length:=by omega
   simp[this,e]
theorem aO5 (n:Int)(d:Nat)(h1:bl n<=24)(h2:(aA d).length<=24):qM ⟨big n,aA d⟩=some ⟨big (-n),aA d⟩:=by
 unfold qM
 have h1':=aIc n h1
 simp only[aBl,aBk]
 rw[rX _ _ (by omega),aN (by simp;omega)]
 simp only[aTI,aX,aTO]
 have e:=aMp n
 congr 2
 rw[<- e]
 by_cases c:n=0
 · subst c;simp[aA]
 · have:(aA n.natAbs).length≠0:=fun e=>dO (n:=n.natAbs) (by omega) (aTW.1 e)
   rw[aTJ (by omega)]
   simp[c]
theorem aH1 {n:Int}{d:Nat}(h:bM ⟨big n,aA d⟩)(h1:bl n<=24):bM ⟨big (-n),aA d⟩:=by
 obtain⟨⟨a1,a2⟩,b,c,d1,e,f⟩:=h
 refine⟨⟨?_,fun hn=>?_⟩,b,c,d1,?_,?_⟩
 · show vF (aA (-n).natAbs);rw[Int.natAbs_neg];exact a1
 · simp only[big,aUQ]at hn ⊢
   exact dO (by omega)
 · show(aA (-n).natAbs).length<=24;rw[Int.natAbs_neg];exact e
 · show Nat.gcd (val (aA (-n).natAbs)) _=1;rw[Int.natAbs_neg];exact f
theorem aKK (r:Rat)(hr:bB r<=4294967296):∃ t,qS r=some t/\VZ t/\(VZ r->gF r=some t)/\(bM r->qM r=some t/\bM t):=by
 unfold qS
 rw[eM r hr]
 simp only[aTI]
 by_cases c1:bM r
 · rw[aTN c1,aTK rfl]
   obtain⟨n,d,e1,e2,e3,e4,_⟩:=aA0 c1
   subst e1
   rw[aO5 n d e3 e4]
   exact⟨_,rfl,.inl (aH1 c1 e3),fun _=>aGm n d e2 e3 e4,fun _=>⟨rfl,aH1 c1 e3⟩⟩
 · rw[aTL c1]
   refine⟨oO,rfl,aCM,fun v1=>?_,fun h=>absurd h c1⟩
   unfold gF
   rw[iQ v1,aTL c1];rfl
theorem aPQ (r s:Rat)(hr:bB r<=4294967296)(hs:bB s<=4294967296):∃ t,kF r s=some t/\VZ t/\(VZ r->VZ s->cE r s=some t):=by
 unfold kF
 rw[eM r hr]
 simp only[aTI]
 obtain⟨u,u1,u2,u3,u4⟩:=aKK s hs
 obtain⟨t,t1,t3,t4⟩:=aEk r u hr (by have:=mL u2;omega)
 by_cases c1:bM r
 · rw[aTN c1,aTK rfl,eM s hs]
   simp only[aTI]
   by_cases c2:bM s
   · rw[aTN c2]
     simp only[aUL,aTP,aT9]
     obtain⟨u5,u6⟩:=u4 c2
     rw[u5]
     simp only[aTI]
     have:qO r u=some t:=by
      have:=t1
      unfold dM at this
      rw[eM r hr,eM u (by have:=mL u2;omega),aTN c1,aTN u6]at this
      simpa using this
     rw[this]
     refine⟨t,rfl,t3,fun v1 v2=>?_⟩
     unfold cE
     rw[u3 v2]
     simp only[aTI]
     rw[t4 v1 u2];rfl
   · rw[aTL c2]
     refine⟨oO,rfl,aCM,fun v1 v2=>?_⟩
     unfold cE
     have e:u=oO:=by
      have:=u1
      unfold qS at this
      rw[eM s hs,aTL c2]at this
      simpa [oO]using this.symm
     rw[u3 v2]
     simp only[aTI]
     unfold bL
     rw[iQ v1,iQ u2,aTN c1,aTL (by rw[e];exact aBE)];rfl
 · rw[aTL c1]
   refine⟨oO,rfl,aCM,fun v1 v2=>?_⟩
   unfold cE
   rw[u3 v2]
   simp only[aTI]
   unfold bL
   rw[iQ v1,aTL c1];rfl
noncomputable def RA (r s:Rat):Rat:=(dM r s).getD oO
noncomputable def RM (r s:Rat):Rat:=(eG r s).getD oO
noncomputable def RD (r s:Rat):Rat:=(iV r s).getD oO
noncomputable def RS (r s:Rat):Rat:=(kF r s).getD oO
noncomputable def RN (r:Rat):Rat:=(qS r).getD oO
theorem VZs {r:Rat}(h:VZ r):bB r<=4294967296:=by have:=mL h;omega
theorem aTF {r s:Rat}(hr:bB r<=4294967296)(hs:bB s<=4294967296):dM r s=some (RA r s)/\VZ (RA r s):=by
 obtain⟨t,t1,t3,t4⟩:=aEk r s hr hs
 have:RA r s=t:=by unfold RA;rw[t1];rfl
 rw[this];exact⟨t1,t3⟩
theorem aBC {r s:Rat}(hr:VZ r)(hs:VZ s):dM r s=some (RA r s)/\bL r s=some (RA r s)/\VZ (RA r s):=by
 obtain⟨t,t1,t3,t4⟩:=aEk r s (VZs hr) (VZs hs)
 have:RA r s=t:=by unfold RA;rw[t1];rfl
 rw[this];exact⟨t1,t4 hr hs,t3⟩
theorem aES {r s:Rat}(hr:VZ r)(hs:VZ s):eG r s=some (RM r s)/\bK r s=some (RM r s)/\VZ (RM r s):=by
 obtain⟨t,t1,t3,t4⟩:=aPR r s (VZs hr) (VZs hs)
 have:RM r s=t:=by unfold RM;rw[t1];rfl
 rw[this];exact⟨t1,t4 hr hs,t3⟩
theorem aFC {r s:Rat}(hr:VZ r)(hs:VZ s):iV r s=some (RD r s)/\dX r s=some (RD r s)/\VZ (RD r s):=by
 obtain⟨t,t1,t3,t4⟩:=aPS r s (VZs hr) (VZs hs)
 have:RD r s=t:=by unfold RD;rw[t1];rfl
 rw[this];exact⟨t1,t4 hr hs,t3⟩
theorem aHK {r s:Rat}(hr:VZ r)(hs:VZ s):kF r s=some (RS r s)/\cE r s=some (RS r s)/\VZ (RS r s):=by
 obtain⟨t,t1,t3,t4⟩:=aPQ r s (VZs hr) (VZs hs)
 have:RS r s=t:=by unfold RS;rw[t1];rfl
 rw[this];exact⟨t1,t4 hr hs,t3⟩
theorem aLU {r:Rat}(hr:VZ r):qS r=some (RN r)/\gF r=some (RN r)/\VZ (RN r):=by
 obtain⟨t,t1,t3,t4,_⟩:=aKK r (VZs hr)
 have:RN r=t:=by unfold RN;rw[t1];rfl
 rw[this];exact⟨t1,t4 hr,t3⟩
theorem aIO {n:Int}{d:Nat}(h:bM ⟨big n,aA d⟩):0<xX ⟨big n,aA d⟩↔0<n:=by
 unfold xX
 rw[aTK h]
 simp only[aBl,aBk,aUQ]
 by_cases c:n=0
 · subst c;simp[aA]
 · rw[aTJ (dO (by omega))]
   by_cases h:n<0
   · rw[aTK h];omega
   · rw[aTJ h];omega
theorem aQL {x y:Nat}(hx:0<x)(h:bM (mkR false x y)):0<xX (mkR false x y):=by
 unfold xX
 rw[aTK h]
 unfold mkR at h ⊢
 by_cases c:y=0
 · rw[aTK c]at h;exact absurd h aBE
 · rw[aTJ c]at h ⊢
   by_cases c2:24<(aA (x / Nat.gcd x y)).length\/24<(aA (y / Nat.gcd x y)).length
   · rw[aTK c2]at h;exact absurd h aBE
   · rw[aTJ c2]at h ⊢
     have hg:0<Nat.gcd x y:=Nat.gcd_pos_of_pos_left y hx
     have:0<x / Nat.gcd x y:=Nat.div_pos (Nat.gcd_le_left y hx) hg
     simp only[Bool.false_and,aTP,aT9]
     rw[aTJ (dO (by omega))];omega
theorem aSx {r s:Rat}(hr:0<xX r)(hs:0<xX s)(h:bM (RA r s)):0<xX (RA r s):=by
 have r1:=aAv hr
 have s1:=aAv hs
 obtain⟨n,d,e1,e2,e3,e4,_⟩:=aA0 r1
 obtain⟨m,e,g1,g2,g3,g4,_⟩:=aA0 s1
 subst e1;subst g1
 have hn:=(aIO r1).1 hr
 have hm:=(aIO s1).1 hs
 have q:=(aBC (.inl r1) (.inl s1)).2.1
 rw[aDH n d m e e2 g2 e3 e4 g3 g4]at q
 have q:=Option.some.inj q
 rw[<- q]at h ⊢
 unfold aKG at h ⊢
 have p1:0<n*(e:Int):=Int.mul_pos hn (by omega)
 have p2:0<m*(d:Int):=Int.mul_pos hm (by omega)
 rw[aTL (by omega)]at h ⊢
 exact aQL (by omega) h
/- Copies of links; the links of a tree. -/
theorem qN (x:Rat)(h:bB x<=4294967296):jY x=some x:=by
 unfold bB vM yE at h
 rw[uC,uC]at h
 unfold jY
 rw[aN (by simp;omega),aN (by simp;omega)]
 simp only[aTI,aL,aTO]
theorem uE (x:Link)(h:bW x<=4294967296):lO x=some x:=by
 unfold bW at h
 unfold lO
 rw[qN _ (by omega)]
 simp only[aTI]
 rw[qN _ (by omega)]
 simp only[aTI]
 rw[qN _ (by omega)]
 simp only[aTI]
theorem aCP (l:List Link)(h:aK l<=4294967296):qL l=some l:=by
 unfold aK at h
 have hl:=jW bW l
 unfold qL
 have:=sV (step:=qK l) l (fun k t=>((k:Int),t)) (fun t=>t) (fun k t hk ht=>by
  have he:=qB (w:=bW) (aT2 hk)
  unfold qK
  simp only[]
  rw[aTK (by omega),aM hk]
  simp only[aTI]
  rw[uE _ (by omega)]
  simp only[aTI]
  rw[aN (by omega),wi (by omega)];rfl) (fun t ht=>by unfold qK;simp only[];rw[aTJ (by omega)])
 rw[show((0:Nat):Int)=0 from rfl]at this
 rw[this];rfl
theorem aBv (l:List Int)(h:l.length<=4294967296):eO l=some l:=by
 unfold eO
 rw[aN (by simp;omega)]
 simp only[aTI,aL,aTO]
theorem jA (x:Rat)(h:bB x<=4294967296):fW x=some x:=by
 unfold bB vM yE at h
 rw[uC,uC]at h
 unfold fW
 rw[aBv _ (by omega)]
 simp only[aTI]
 rw[aBv _ (by omega)]
 simp only[aTI]
theorem aFz (x:Link)(h:bW x<=4294967296):sZ x=some x:=by
 unfold bW at h
 unfold sZ
 rw[jA _ (by omega)]
 simp only[aTI]
 rw[jA _ (by omega)]
 simp only[aTI]
 rw[jA _ (by omega)]
 simp only[aTI]
theorem rZ (l:List Link)(h:aK l<=4294967296):jB l=some l:=by
 unfold aK at h
 have hl:=jW bW l
 unfold jB
 have:=sV (step:=lZ l) l (fun k t=>((k:Int),t)) (fun t=>t) (fun k t hk ht=>by
  have he:=qB (w:=bW) (aT2 hk)
  unfold lZ
  simp only[]
  rw[aTK (by omega),aM hk]
  simp only[aTI]
  rw[aFz _ (by omega)]
  simp only[aTI]
  rw[aN (by omega),wi (by omega)];rfl) (fun t ht=>by unfold lZ;simp only[];rw[aTJ (by omega)])
 rw[show((0:Nat):Int)=0 from rfl]at this
 rw[this];rfl
def eW (l:List TreeNode):List Link:=(l.map (fun n=>n.fOwn)).flatten
theorem aEB:∀ l:List TreeNode,aK (eW l)<=szL bU l
 | []=>by simp[eW,aK,aIF]
 | y::l=>by
  have:=aEB l
  have hn:bU y=aK y.fOwn+aV y.fCond+aK y.fMessages+bB y.fEnergy:=rfl
  unfold eW aK at *
  rw[aTV,List.flatten_cons,aIG,oP]
  omega
theorem aE5 (l:List TreeNode)(k:Nat)(hk:k<l.length):eW (l.take (k+1))=eW (l.take k)++l[k].fOwn:=by
 unfold eW
 rw[aWo,aTS hk,aUF,List.flatten_append]
 simp
theorem aN2 {α:Type}(w:α->Nat)(l:List α)(k:Nat):szL w (l.take k)<=szL w l:=by
 have:=aIG w (l.take k) (l.drop k)
 rw[aUx]at this
 omega
theorem aLg (l:List TreeNode)(h:szL bU l<=4294967296)(k:Nat):(eW (l.take k)).length<=4294967296:=by
 have h1:=aEB (l.take k)
 have h2:=aN2 bU l k
 have h3:=jW bW (eW (l.take k))
 unfold aK at h1
 omega
end Go.Ev
