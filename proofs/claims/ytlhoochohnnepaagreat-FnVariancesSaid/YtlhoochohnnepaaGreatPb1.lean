/- Parts PF, P25, PQ1, PQ2, PQ3, PQ4, PQ5, PQ6, PQ8, PH, PQ9, PR1, P20. -/
import Derived.Test.YtlhoochohnnepaaGreatPa1
import Derived.Test.YtlhoochohnnepaaGreatLXd
set_option linter.all false
set_option maxHeartbeats 4000000
set_option maxRecDepth 20000
/- Plain laws of helpers over nested data, printed by program (fam.py). -/
namespace Go.Ev
def xE (x:(List Int)):Nat:=szL (fun _=>0) x
def uL (x:BigInt):Nat:=xE x.fMag
def bG (x:Rat):Nat:=uL x.fNum+xE x.fDen
def nI (x:Parent):Nat:=bG x.fShare+bG x.fDX+bG x.fDY
def pF (x:(List Parent)):Nat:=szL nI x
def aX (x:Conditional):Nat:=bG x.fTotal+pF x.fParents
def bY (x:Link):Nat:=bG x.fWeight+bG x.fDX+bG x.fDY
def aL (x:(List Link)):Nat:=szL bY x
def cJ (x:TreeNode):Nat:=aL x.fOwn+aX x.fCond+aL x.fMessages+bG x.fEnergy
def vE (x:(List TreeNode)):Nat:=szL cJ x
def sZ (x:Tree):Nat:=vE x.fNodes
/- Fractions made of whole numbers: both programs make the same. -/
theorem wu {n:Int}(h:0<=n/\n<=18446744073709551615):IntKind.u64.wrap n=n:=by
 have:IntKind.u64.wrap n=n % 18446744073709551616:=by simp[IntKind.wrap,IntKind.bits,IntKind.signed]
 rw[this];omega
theorem aFd (v:Nat):((v:Int)).tmod 1000000000=((v % BB:Nat):Int):=by
 rw[Int.tmod_eq_emod_of_nonneg (by omega),dD];omega
theorem aFe (v:Nat):((v:Int)).tdiv 1000000000=((v / BB:Nat):Int):=by
 rw[Int.tdiv_eq_ediv_of_nonneg (by omega),dD];omega
theorem aFO:∀ (v:Nat) (t:List Int),v<18446744073709551616->t.length+(aA v).length<=1000->lp iZ ((v:Int),t)=some (t++aA v):=by
 intro v
 induction v using Nat.strongRecOn with
 | _ v ih =>
  intro t hv ht
  by_cases h:v=0
  · subst h
    rw[aW,aUf]
    exact aK (by unfold iZ;simp)
  · rw[hU h,aTG]at ht
    have hm:=aUW v uD
    have hd:=aVE v BB
    rw[dD]at hm
    have e:iZ ((v:Int),t)=some (.inl (((v / BB:Nat):Int),t++[((v % BB:Nat):Int)])):=by
     unfold iZ
     simp only[]
     rw[aTd (by omega),aFd,aFe,wi (by rw[dD];omega),wu (by rw[dD]at hd ⊢;omega),aM (by omega)]
     rfl
    rw[aQ e,ih _ (aVD (by omega) (by rw[dD];omega)) _ (by omega) (by simp;omega),hU h]
    simp
theorem jR {v:Nat}(h:v<18446744073709551616):(aA v).length<=3:=by
 refine fZ ?_
 rw[dD];omega
theorem wB (v:Nat)(h:v<18446744073709551616):gE (v:Int)=some (aA v):=by
 unfold gE
 have:=jR h
 rw[aFO v [] h (by simp;omega)]
 simp
theorem aLu:∀ (v:Nat) (t:List Int),v<9223372036854775808->t.length+(aA v).length<=1000->lp oS ((v:Int),t)=some (t++aA v):=by
 intro v
 induction v using Nat.strongRecOn with
 | _ v ih =>
  intro t hv ht
  by_cases h:v=0
  · subst h
    rw[aW,aUf]
    exact aK (by unfold oS;simp)
  · rw[hU h,aTG]at ht
    have hd:=aVE v BB
    have e:oS ((v:Int),t)=some (.inl (((v / BB:Nat):Int),t++[((v % BB:Nat):Int)])):=by
     unfold oS
     simp only[]
     rw[aTd (by omega),aFd,aFe,wi (by rw[dD]at hd ⊢;omega),aM (by omega)]
     rfl
    rw[aQ e,ih _ (aVD (by omega) (by rw[dD];omega)) _ (by omega) (by simp;omega),hU h]
    simp
theorem aAT (v:Nat)(h:v<9223372036854775808):lW (v:Int)=some (aA v):=by
 unfold lW
 have:=jR (v:=v) (by omega)
 rw[aLu v [] h (by simp;omega)]
 simp
theorem aMB (l:List Int)(hl:l.length<=4294967296):∀ k:Nat,k<=l.length->(∀ i (hi:i<l.length),k<=i->l[i]=0)->lp (fL l) (k:Int)=some (((qV l).length:Nat):Int):=by
 have htl:∀ (m:List Int) (k:Nat),k<=m.length->(∀ i (hi:i<m.length),k<=i->m[i]=0)->qV m=qV (m.take k):=by
  intro m
  induction m with
  | nil=>intro k _ _;simp
  | cons d m ih =>
   intro k hk hz
   cases k with
   | zero =>
    have h0:d=0:=hz 0 (by simp) (aTn _)
    have:=ih 0 (by omega) (fun i hi _=>by have:=hz (i+1) (by simpa using hi) (by omega);simpa using this)
    rw[aVw]at this ⊢
    unfold qV
    rw[this];simp[qV,h0]
   | succ k =>
    have:=ih k (by simpa using hk) (fun i hi hki=>by have:=hz (i+1) (by simpa using hi) (by omega);simpa using this)
    rw[aVa]
    conv=>lhs;unfold qV
    conv=>rhs;unfold qV
    rw[this]
 intro k
 induction k with
 | zero =>
  intro hk hz
  rw[htl l 0 (by omega) hz,aVw]
  exact aK (by unfold fL;simp[qV])
 | succ k ih =>
  intro hk hz
  have hlt:k<l.length:=by omega
  by_cases c:l[k]=0
  · have e:fL l ((k+1:Nat):Int)=some (.inl (k:Int)):=by
     unfold fL
     rw[aTd (by omega),wi (by omega),show((k+1:Nat):Int)-1=(k:Int)by omega,aN hlt]
     simp[c]
    rw[aQ e]
    exact ih (by omega) (fun i hi hki=>by
     by_cases e:i=k
     · subst e;exact c
     · exact hz i hi (by omega))
  · have e:fL l ((k+1:Nat):Int)=some (.inr ((k+1:Nat):Int)):=by
     unfold fL
     rw[aTd (by omega),wi (by omega),show((k+1:Nat):Int)-1=(k:Int)by omega,aN hlt]
     simp[c]
    rw[aK e,htl l (k+1) hk hz,aDa (l:=l.take (k+1))]
    · simp;omega
    · have e:l.take (k+1)=l.take k++[l[k]]:=by rw[aVL,aTl hlt];rfl
      rw[e,List.getLast?_concat];simpa using c
theorem aG9 (l:List Int):qV l=l.take (qV l).length:=by
 induction l with
 | nil=>rfl
 | cons d l ih =>
  unfold qV
  cases h:qV l with
  | nil =>
   by_cases c:d=0 <;> simp[c]
  | cons t r =>
   rw[h]at ih
   simp only[aTG,aVa]at ih ⊢
   rw[<- ih]
theorem aI6 (l:List Int):(qV l).length<=l.length:=by
 have:=congrArg List.length (aG9 l)
 rw[aTS]at this;omega
theorem aHC (l:List Int)(hl:l.length<=4294967296):cL l=some (qV l):=by
 unfold cL
 rw[aMB l hl l.length (aTn _) (fun i hi h=>by omega)]
 simp only[aTb]
 have:=aI6 l
 rw[qC _ _ _ (by omega)]
 simp only[aTb]
 congr 1
 have e:=aG9 l
 simp only[Int.toNat_zero,aTZ,Int.sub_zero,aTJ]
 exact e.symm
theorem aOD (v:Nat)(h:(aA v).length<=60):vT (aA v)=some (aA v):=by
 unfold vT
 rw[aHC _ (by omega)]
 simp only[aTb]
 rw[aDa (aBE v),aTc (by omega)]
def big (n:Int):BigInt:=⟨decide (n<0),aA n.natAbs⟩
theorem qM (s:Bool)(v:Nat)(h:(aA v).length<=60):cK s (aA v)=some ⟨s&&decide (v≠0),aA v⟩:=by
 unfold cK
 rw[aOD v h]
 simp only[aTb]
 have hz:(0<((aA v).length:Int))↔v≠0:=by
  constructor
  · intro h e;subst e;rw[aW]at h;simp at h
  · intro h
    have:(aA v).length≠0:=fun e=>dF h (aTq.1 e)
    omega
 cases s with
 | true =>
  simp only[aTz]
  rw[aM (by simp;omega)]
  simp only[aTb,aJ,aTi,aVT]
  congr 2
  exact decide_eq_decide.2 hz
 | false =>
  simp only[aTk,aTD]
  rw[aM (by simp;omega)]
  simp only[aTb,aJ,aTi,Bool.false_and]
theorem vA (s:Bool)(v:Nat)(h:(aA v).length<=60):eA s (aA v)=some ⟨s&&decide (v≠0),aA v⟩:=by
 unfold eA
 by_cases hv:v=0
 · subst hv
   rw[aW];simp
 · have:(aA v).length≠0:=fun e=>dF hv (aTq.1 e)
   rw[aTc (by omega)]
   simp only[aTb]
   have h2:¬(60<((aA v).length:Int)):=by omega
   simp[h2,hv]
theorem aEP (n:Int)(h:-9223372036854775808<=n/\n<=9223372036854775807):rS n=some (big n):=by
 unfold rS big
 by_cases c:n<0
 · rw[aTd c]
   simp only[aJ]
   rw[wi (n:=n+1) (by omega),wi (by omega),wu (n:=0-(n+1)) (by omega),wu (by omega)]
   have e:(0-(n+1)+1)=((n.natAbs:Nat):Int):=by omega
   have hl:=jR (v:=n.natAbs) (by omega)
   rw[e,wB _ (by omega)]
   simp only[aTb]
   rw[vA true _ (by omega)]
   simp only[aTb,aVT]
   have:n.natAbs≠0:=by omega
   simp[c,this]
 · rw[aTc c]
   have e:n=((n.natAbs:Nat):Int):=by omega
   have hl:=jR (v:=n.natAbs) (by omega)
   rw[wu (by omega)]
   conv=>lhs;rw[e]
   rw[wB _ (by omega)]
   simp only[aTb]
   rw[vA false _ (by omega)]
   simp[c]
theorem aEv (n:Int)(h:-9223372036854775808<=n/\n<=9223372036854775807):rG n=some (big n):=by
 unfold rG big
 by_cases c0:n=-9223372036854775808
 · rw[aTd c0]
   subst c0
   have hd:([854775808,223372036,9]:List Int)=aA 9223372036854775808:=by
    have h1:dgs [854775808,223372036,9]:=by intro d hd;simp at hd;omega
    have:=aAB (l:=[854775808,223372036,9]) ⟨h1,by simp⟩
    rw[this];rfl
   have hl:=jR (v:=9223372036854775808) (by omega)
   rw[hd,qM true _ (by omega)]
   simp only[aTb]
   rfl
 · rw[aTc c0]
   by_cases c:n<0
   · rw[aTd c,wi (by omega)]
     have e:(0-n)=((n.natAbs:Nat):Int):=by omega
     have hl:=jR (v:=n.natAbs) (by omega)
     rw[e,aAT _ (by omega)]
     simp only[aTb]
     rw[qM true _ (by omega)]
     simp only[aTb,aVT]
     have:n.natAbs≠0:=by omega
     simp[c,this]
   · rw[aTc c]
     have e:n=((n.natAbs:Nat):Int):=by omega
     have hl:=jR (v:=n.natAbs) (by omega)
     conv=>lhs;rw[e]
     rw[aAT _ (by omega)]
     simp only[aTb]
     rw[qM false _ (by omega)]
     simp[c]
def dN (n:Int):Rat:=⟨big n,[1]⟩
theorem cO (n:Int)(h:-9223372036854775808<=n/\n<=9223372036854775807):bO n=some (dN n):=by
 unfold bO
 rw[aEP n h];rfl
theorem bV (n:Int)(h:-9223372036854775808<=n/\n<=9223372036854775807):cD n=some (dN n):=by
 unfold cD
 rw[aEv n h];rfl
/- Naturals as limbs: order, sums, differences; both programs. -/
open IntKind
theorem wX:nS=cL:=rfl
theorem aAq {l:List Int}(h:dgs l)(hl:l.length<=4294967296):cL l=some (aA (val l)):=by rw[aHC l hl,aFa h]
theorem aJ6:xV=gB:=rfl
theorem aO9 (x y t:Nat):rU (x+t) (y+t)=rU x y:=by unfold rU;simp only[Nat.add_lt_add_iff_right]
theorem aO7 (a b:List Int)(ha:dgs a)(hb:dgs b)(hab:a.length=b.length)(hl:a.length<=4294967296):∀ k:Nat,k<=a.length->
 lp (gB a b) ((k:Int)-1)=some (if val (a.take k)=val (b.take k)then .inl ()else .inr (rU (val (a.take k)) (val (b.take k)))):=by
 intro k
 induction k with
 | zero =>
  intro _
  rw[aK (r:=.inl ()) (by unfold gB;rw[aTc (by omega)])]
  simp
 | succ k ih =>
  intro hk
  have h1:k<a.length:=by omega
  have h2:k<b.length:=by omega
  have d1:=mE ha h1
  have d2:=mE hb h2
  have v1:=aE9 (aJ5 ha k)
  have v2:=aE9 (aJ5 hb k)
  rw[aTS,aUP (by omega)]at v1 v2
  rw[oP h1,oP h2]
  have hk1:((k+1:Nat):Int)-1=(k:Int):=by omega
  rw[hk1]
  by_cases c1:a[k]<b[k]
  · rw[aK (r:=.inr (-1)) (by unfold gB;rw[aTd (by omega),aN h1,aN h2];simp[c1])]
    have:BB ^ k*(a[k]).toNat+BB ^ k<=BB ^ k*(b[k]).toNat:=by
     rw[<- Nat.mul_succ];exact aTA _ (by omega)
    rw[aTc (by omega)];unfold rU;rw[aTd (by omega)]
  · by_cases c2:b[k]<a[k]
    · rw[aK (r:=.inr 1) (by unfold gB;rw[aTd (by omega),aN h1,aN h2];simp[c1,c2])]
      have:BB ^ k*(b[k]).toNat+BB ^ k<=BB ^ k*(a[k]).toNat:=by
       rw[<- Nat.mul_succ];exact aTA _ (by omega)
      rw[aTc (by omega)];unfold rU;rw[aTc (by omega),aTd (by omega)]
    · have e:a[k]=b[k]:=by omega
      rw[aQ (s':=(k:Int)-1) (by unfold gB;rw[aTd (by omega),aN h1,aN h2,wi (by omega)];simp[c1,c2]),ih (by omega),e]
      by_cases c3:val (a.take k)=val (b.take k)
      · rw[aTd c3,aTd (by omega)]
      · rw[aTc c3,aTc (by omega)]
        rw[aO9]
theorem aJ7 {x y:Nat}(h:(aA x).length<(aA y).length):rU x y=-1:=by unfold rU;rw[aTd (aKW h)]
theorem aHK {x y:Nat}(h:(aA y).length<(aA x).length):rU x y=1:=by have:=aKW h;unfold rU;rw[aTc (by omega),aTd this]
theorem aO8 (x y:Nat)(hx:(aA x).length<=1000)(h:(aA x).length=(aA y).length):lp (gB (aA x) (aA y)) (((aA x).length:Int)-1)=some (if x=y then .inl ()else .inr (rU x y)):=by
 have:=aO7 (aA x) (aA y) (dR x) (dR y) h (by omega) (aA x).length (aTn _)
 rw[aUz,h,aUz,cQ,cQ]at this
 rw[h];exact this
theorem aBx (x y:Nat)(hx:(aA x).length<=1000)(hy:(aA y).length<=1000):nE (aA x) (aA y)=some (rU x y):=by
 unfold nE
 by_cases c:(aA x).length=(aA y).length
 · rw[aTc (by omega),aJ,wi (by omega),aO8 x y hx c]
   by_cases e:x=y
   · subst e;simp[rU]
   · rw[aTc e];rfl
 · rw[aTd (by omega)]
   by_cases c2:(aA x).length<(aA y).length
   · rw[aTd (by omega),aJ7 c2]
   · rw[aTc (by omega),aHK (by omega)]
theorem aFQ (x y:Nat)(hx:(aA x).length<=1000)(hy:(aA y).length<=1000):sT (aA x) (aA y)=some (rU x y):=by
 unfold sT
 by_cases c2:(aA x).length<(aA y).length
 · rw[aTd (by omega),aJ7 c2]
 · rw[aTc (by omega)]
   by_cases c3:(aA y).length<(aA x).length
   · rw[aTd (by omega),aHK c3]
   · rw[aTc (by omega),aJ,wi (by omega),aJ6,aO8 x y hx (by omega)]
     by_cases e:x=y
     · subst e;simp[rU]
     · rw[aTc e];rfl
theorem aKe (a b:List Int)(i c:Nat)(out:List Int)(x:Nat)(hx:x<=1999999999)(ho:out.length=i)(hi:i<=2000)(hlt:i<a.length\/i<b.length\/c=1)(hc:c<=1)
 (h:(x:Int)=c+(if h:i<a.length then a[i]else 0)+(if h:i<b.length then b[i]else 0)) (ha:dgs a) (hb:dgs b) :
 iI a b ((c:Int),(i:Int),out)=some (.inl (((x / BB:Nat):Int),((i+1:Nat):Int),out++[((x % BB:Nat):Int)])):=by
 unfold iI
 simp only[]
 by_cases c1:i<a.length
 · have d1:=mE ha c1
   rw[aVk c1]at h
   rw[aTd (by omega),aTd (by omega),aN c1]
   simp only[aTb,aTz]
   rw[wi (by omega)]
   by_cases c2:i<b.length
   · have d2:=mE hb c2
     rw[aVk c2]at h
     rw[aTd (by omega),aN c2]
     simp only[aTb]
     rw[wi (by omega),<- h,aM (by omega)]
     simp only[aTb,aJ]
     rw[aFd,aFe,wi (by rw[dD];omega),wi (by omega)];rfl
   · rw[aVl c2]at h
     rw[aTc (by omega)]
     simp only[aTb]
     rw[show(c:Int)+a[i]=(x:Int)by omega,aM (by omega)]
     simp only[aTb,aJ]
     rw[aFd,aFe,wi (by rw[dD];omega),wi (by omega)];rfl
 · rw[aVl c1]at h
   have n1:¬((i:Int)<(a.length:Int)):=by omega
   simp only[n1,aTD]
   by_cases c2:i<b.length
   · have d2:=mE hb c2
     rw[aVk c2]at h
     have n2:((i:Int)<(b.length:Int)):=by omega
     simp only[n2,aTz,aTb]
     rw[aN c2]
     simp only[aTb]
     rw[wi (by omega),show(c:Int)+b[i]=(x:Int)by omega,aM (by omega)]
     simp only[aTb,aJ]
     rw[aFd,aFe,wi (by rw[dD];omega),wi (by omega)];rfl
   · rw[aVl c2]at h
     have n2:¬((i:Int)<(b.length:Int)):=by omega
     have hc1:c=1:=by omega
     have hc2:(0<(c:Int)):=by omega
     simp only[n2,hc2,aTD,aU8,aTb,aTz]
     rw[show(c:Int)=(x:Int)by omega,aM (by omega)]
     simp only[aTb,aJ]
     rw[aFd,aFe,wi (by rw[dD];omega),wi (by omega)];rfl
theorem aKd (a b:List Int)(i:Nat)(out:List Int)(h1:a.length<=i)(h2:b.length<=i):lp (iI a b) (0,(i:Int),out)=some out :=
 aK (by unfold iI;simp only[];rw[aTc (by omega),aTc (by omega)];simp)
theorem aQo (a b:List Int)(ha:dgs a)(hb:dgs b)(i c:Nat)(out:List Int)(hc:c<=1)(ho:out.length=i)(hi:i<=1999)(h1:a.length<=i)(h2:b.length<=i) :
 lp (iI a b) ((c:Int),(i:Int),out)=some (out++aA c):=by
 rcases Nat.eq_zero_or_pos c with e | e
 · subst e
   rw[aW,aUf];exact aKd a b i out h1 h2
 · have e1:c=1:=by omega
   subst e1
   have:=aKe a b i 1 out 1 (by omega) ho (by omega) (.inr (.inr rfl)) (by omega) (by rw[aVl (by omega),aVl (by omega)];omega) ha hb
   rw[aQ this,show 1 / BB=0 from rfl,show 1 % BB=1 from rfl]
   rw[show((0:Nat):Int)=0 from rfl,aKd a b (i+1) _ (by omega) (by omega),qS (by rw[dD];omega) (by omega)]
theorem aPi (a b:List Int)(ha:nat a)(hb:nat b)(hla:a.length<=1000)(hlb:b.length<=1000):∀ (m i c:Nat) (out:List Int),c<=1->m+i=max a.length b.length->out.length=i->
 lp (iI a b) ((c:Int),(i:Int),out)=some (out++aA (c+(val (a.drop i)+val (b.drop i)))):=by
 intro m
 induction m with
 | zero =>
  intro i c out hc hm ho
  rw[fK (by omega),fK (by omega)]
  exact aQo a b ha.1 hb.1 i c out hc ho (by omega) (by omega) (by omega)
 | succ m ih =>
  intro i c out hc hm ho
  obtain⟨x,hx,e1,e2,e3⟩:∃ x:Nat,x<=1999999999/\c+(val (a.drop i)+val (b.drop i))=x+BB*(val (a.drop (i+1))+val (b.drop (i+1)))/\
   c+(val (a.drop i)+val (b.drop i))≠0/\(x:Int)=c+(if h:i<a.length then a[i]else 0)+(if h:i<b.length then b[i]else 0):=by
   by_cases c1:i<a.length
   · have d1:=mE ha.1 c1
     have n1:=aD7 ha c1
     have v1:=iA c1
     by_cases c2:i<b.length
     · have d2:=mE hb.1 c2
       have v2:=iA c2
       refine⟨c+(a[i]).toNat+(b[i]).toNat,by omega,by rw[aUy];omega,by omega,by rw[aVk c1,aVk c2];omega⟩
     · have v2:=fK (l:=b) (k:=i) (by omega)
       have v3:=fK (l:=b) (k:=i+1) (by omega)
       refine⟨c+(a[i]).toNat,by omega,by rw[aUy,v3];omega,by omega,by rw[aVk c1,aVl c2];omega⟩
   · have c2:i<b.length:=by omega
     have d2:=mE hb.1 c2
     have n2:=aD7 hb c2
     have v2:=iA c2
     have v1:=fK (l:=a) (k:=i) (by omega)
     have v3:=fK (l:=a) (k:=i+1) (by omega)
     refine⟨c+(b[i]).toNat,by omega,by rw[aUy,v3];omega,by omega,by rw[aVl c1,aVk c2];omega⟩
  rw[aQ (aKe a b i c out x hx ho (by omega) (by omega) hc e3 ha.1 hb.1),ih (i+1) (x / BB) _ (by rw[dD];omega) (by omega) (by simp[ho])]
  rw[e1]at e2 ⊢
  rw[aJ4 e2];simp
theorem aJL (x y:Nat)(hx:(aA x).length<=1000)(hy:(aA y).length<=1000):vU (aA x) (aA y)=some (aA (x+y)):=by
 unfold vU
 have:=aPi (aA x) (aA y) (aOo x) (aOo y) hx hy _ 0 0 [] (by omega) (aTX _) rfl
 rw[show((0:Nat):Int)=0 from rfl,aTZ,aTZ,cQ,cQ,aTC]at this
 rw[this];rfl
theorem aOq (x y:Nat)(hx:(aA x).length<=1000)(hy:(aA y).length<=1000):zA (aA x) (aA y)=some (aA (x+y)):=aJL x y hx hy
theorem aNz (a b:List Int)(ha:dgs a)(hb:dgs b)(hla:a.length<=1000)(hab:b.length<=a.length):∀ (m i c:Nat) (out:List Int),c<=1->m+i=a.length->out.length=i->dgs out->val (a.take i)+c*BB ^ i=val out+val (b.take i)->
 ∃ (c':Nat) (out':List Int),lp (mH a b) ((c:Int),(i:Int),out)=some out'/\lp (mT a b) ((c:Int),(i:Int),out++List.replicate m 0)=some out'/\dgs out'/\out'.length=a.length/\val a+c'*BB ^ a.length=val out'+val b:=by
 intro m
 induction m with
 | zero =>
  intro i c out hc hm ho hd hv
  have e:i=a.length:=by omega
  refine⟨c,out,aK ?_,aK ?_,hd,by omega,?_⟩
  · unfold mH;simp only[];rw[aTc (by omega)]
  · unfold mT;simp only[];rw[aTc (by omega)];simp
  · rw[e,aUz,aT1 hab]at hv;exact hv
 | succ m ih =>
  intro i c out hc hm ho hd hv
  have h1:i<a.length:=by omega
  have d1:=mE ha h1
  obtain⟨bi,hb1,hb2,hb3⟩:∃ bi:Nat,bi<1000000000/\val (b.take (i+1))=val (b.take i)+BB ^ i*bi/\(bi:Int)=(if h:i<b.length then b[i]else 0):=by
   by_cases c2:i<b.length
   · have d2:=mE hb c2
     exact⟨(b[i]).toNat,by omega,oP c2,by rw[aVk c2];omega⟩
   · refine⟨0,by omega,?_,by rw[aVl c2];rfl⟩
     rw[aT1 (by omega),aT1 (by omega)];simp
  obtain⟨n,c',hn,hc',he⟩:∃ n c':Nat,n<1000000000/\c'<=1/\a[i]-(c:Int)-(bi:Int)+c'*1000000000=(n:Int)/\(c'=1↔a[i]-(c:Int)-(bi:Int)<0):=by
   by_cases g:a[i]-(c:Int)-(bi:Int)<0
   · exact⟨(a[i]-(c:Int)-(bi:Int)+1000000000).toNat,1,by omega,by omega,by omega,by simp[g]⟩
   · exact⟨(a[i]-(c:Int)-(bi:Int)).toNat,0,by omega,by omega,by omega,by simp[g]⟩
  obtain⟨he,hg⟩:=he
  have hs:(n:Int)=a[i]-c-bi+c'*1000000000:=by omega
  have s0:(((if((i:Int)<(b.length:Int))then(idx b (i:Int)).bind fun y16=>(aV (i64.wrap (i64.wrap (a[i]-c)-y16))).bind fun v17=>some v17 else some (i64.wrap (a[i]-c))):Option Int).bind (fun d19=>((if(d19<0)then(aV (i64.wrap (d19+1000000000))).bind fun v21=>some (1,v21)else some (0,d19)):Option (Int×Int))))=some ((c':Int),(n:Int)):=by
   rw[wi (by omega)]
   have fin:∀ z:Int,z=a[i]-c-bi->(if(z<0)then(aV (i64.wrap (z+1000000000))).bind fun v21=>some ((1:Int),v21)else some (0,z))=some ((c':Int),(n:Int)):=by
    intro z hz
    by_cases g:z<0
    · have e1:c'=1:=hg.2 (by omega)
      subst e1
      rw[aTd g,aJ,wi (by omega)];congr 2;omega
    · have e1:c'=0:=by
       have:¬c'=1:=fun h=>g (by have:=hg.1 h;omega)
       omega
      subst e1
      rw[aTc g];congr 2;omega
   by_cases c2:i<b.length
   · rw[aVk c2]at hb3
     rw[aTd (by omega),aN c2]
     simp only[aTb,aJ]
     rw[wi (by omega)]
     exact fin _ (by omega)
   · rw[aVl c2]at hb3
     rw[aTc (by omega)]
     simp only[aTb]
     exact fin _ (by omega)
  have s1:mH a b ((c:Int),(i:Int),out)=some (.inl ((c':Int),((i+1:Nat):Int),out++[(n:Int)])):=by
   unfold mH
   simp only[]
   rw[aTd (by omega),aN h1]
   simp only[aTb]
   rw[<- Option.bind_assoc,s0]
   simp only[aTb]
   rw[aM (by omega),wi (by omega)];rfl
  have s2:mT a b ((c:Int),(i:Int),out++List.replicate (m+1) 0)=some (.inl ((c':Int),((i+1:Nat):Int),(out++[(n:Int)])++List.replicate m 0)):=by
   unfold mT
   simp only[]
   rw[aTd (by omega),aN h1]
   simp only[aTb]
   rw[<- Option.bind_assoc,s0]
   simp only[aTb]
   rw[aN (by simp;omega),wi (by omega)]
   simp only[aTb,aJ,lH]
   congr 4
   rw[aVp _ _ (by omega),ho,aUV,aUB,aVG];simp
  rw[aQ s1,aQ s2]
  refine ih (i+1) c' _ hc' (by omega) (by simp[ho]) (by rw[aMj];exact⟨hd,by intro z hz;simp at hz;omega⟩) ?_
  rw[oP h1,aH0,hb2,ho]
  have e:=congrArg (BB ^ i*·) (show(a[i]).toNat+c'*BB=n+bi+c by rw[dD];omega)
  simp only[aUy]at e
  simp only[val,aTJ,aVn,aTX]
  have e2:c'*BB ^ (i+1)=BB ^ i*(c'*BB):=by rw[aUw,aTR c',aT3,aTR BB c']
  rw[e2]
  rw[aTR c]at hv
  omega
theorem aPK {a b c' L:Nat}{out:List Int}(hd:dgs out)(hl:out.length=L)(h:a+c'*BB ^ L=val out+b)(hab:b<=a):val out=a-b:=by
 have:=aE9 hd
 rw[hl]at this
 cases c' with
 | zero=>simp at h;omega
 | succ c =>
  rw[aUI]at h
  have:0<=c*BB ^ L:=aT9 _
  omega
theorem zX (x y:Nat)(hx:(aA x).length<=1000)(hyx:y<=x):pL (aA x) (aA y)=some (aA (x-y))/\pY (aA x) (aA y)=some (aA (x-y)):=by
 have hl:(aA y).length<=(aA x).length:=fJ hyx (aTn _)
 obtain⟨c',out',e1,e2,e3,e4,e5⟩:=aNz (aA x) (aA y) (dR x) (dR y) hx hl (aA x).length 0 0 [] (by omega) (by omega) rfl aB2 (by simp[val])
 rw[cQ,cQ]at e5
 have hv:=aPK e3 e4 e5 hyx
 rw[show((0:Nat):Int)=0 from rfl]at e1 e2
 rw[aTi]at e2
 constructor
 · unfold pL
   rw[e1]
   simp only[aTb]
   rw[aAq e3 (by omega),hv];rfl
 · unfold pY
   rw[aM (by omega)]
   simp only[aTb,aTJ]
   rw[e2]
   simp only[aTb]
   rw[wX,aAq e3 (by omega),hv];rfl
/- Naturals as limbs: products; both programs. -/
theorem aJv (a b:List Int)(i:Nat)(hi:i<a.length):tU a b (i:Int)=iH b (i:Int) a[i]:=by
 funext s
 obtain⟨c,j,v⟩:=s
 unfold tU iH
 simp only[aN hi,aTb,aJ]
 split
 · cases idx v (IntKind.i64.wrap ((i:Int)+j))with
   | none=>cases idx b j <;> rfl
   | some y =>
    cases idx b j with
    | none=>rfl
    | some z=>simp only[aTb];rw[Int.add_comm c]
 · rfl
theorem aMU (b:List Int)(i x:Nat)(hx:x<1000000000)(hb:dgs b)(hlb:b.length<=1000)(hi:i<=1000):∀ (m j c:Nat) (v:List Int),m+j=b.length->c<1000000000->dgs v->i+b.length<=v.length->v.length<=2000->
 ∃ (c':Nat) (v':List Int),lp (iH b (i:Int) (x:Int)) ((c:Int),(j:Int),v)=some ((c':Int),v')/\c' < 1000000000/\dgs v'/\v'.length=v.length/\v'.drop (i+b.length)=v.drop (i+b.length)/\
  val v'+c'*BB ^ (i+b.length)+x*BB ^ i*val (b.take j)=val v+c*BB ^ (i+j)+x*BB ^ i*val b:=by
 intro m
 induction m with
 | zero =>
  intro j c v hm hc hv hl hl2
  have e:j=b.length:=by omega
  subst e
  refine⟨c,v,aK ?_,hc,hv,rfl,rfl,?_⟩
  · unfold iH;simp only[];rw[aTc (by omega)]
  · rw[aUz]
 | succ m ih =>
  intro j c v hm hc hv hl hl2
  have h1:j<b.length:=by omega
  have h2:i+j<v.length:=by omega
  have d1:=mE hb h1
  have d2:=mE hv h2
  obtain⟨y,hy⟩:∃ y:Nat,b[j]=(y:Int):=⟨(b[j]).toNat,by omega⟩
  obtain⟨z,hz⟩:∃ z:Nat,v[i+j]=(z:Int):=⟨(v[i+j]).toNat,by omega⟩
  have hxy:x*y<=999999999*999999999:=aTK (by omega) (by omega)
  have hxy0:((x:Int)*(y:Int))=((x*y:Nat):Int):=by push_cast;rfl
  have s1:iH b (i:Int) (x:Int) ((c:Int),(j:Int),v)=some (.inl ((((z+x*y+c) / BB:Nat):Int),((j+1:Nat):Int),v.set (i+j) (((z+x*y+c) % BB:Nat):Int))):=by
   unfold iH
   simp only[]
   rw[aTd (by omega),aN h1,wi (by omega),show(i:Int)+(j:Int)=((i+j:Nat):Int)by omega,aN h2]
   simp only[aTb,aJ,lH,hy,hz,hxy0]
   rw[wi (n:=((x*y:Nat):Int)) (by omega),wi (n:=(z:Int)+_) (by omega),wi (n:=(z:Int)+_+_) (by omega),show(z:Int)+((x*y:Nat):Int)+(c:Int)=((z+x*y+c:Nat):Int)by omega,aFd,aFe,wi (by rw[dD];omega),wi (by omega)]
   rfl
  have hm1:=aUW (z+x*y+c) uD
  have hm2:=aVo (z+x*y+c) BB
  obtain⟨c',v',e1,e2,e3,e4,e5,e6⟩:=ih (j+1) ((z+x*y+c) / BB) (v.set (i+j) (((z+x*y+c) % BB:Nat):Int)) (by omega) (by rw[dD];omega) (aDv hv _ _ (by rw[dD]at hm1 ⊢;omega)) (by simpa using hl) (by simpa using hl2)
  refine⟨c',v',by rw[aQ s1];exact e1,e2,e3,by simpa using e4,?_,?_⟩
  · rw[e5,List.drop_set_of_lt (by omega)]
  · have hs:=aHZ (l:=v) (x:=(((z+x*y+c) % BB:Nat):Int)) h2
    rw[hz]at hs
    simp only[aTJ]at hs
    rw[oP h1,hy,aTJ]at e6
    have f1:x*BB ^ i*(val (b.take j)+BB ^ j*y)=x*BB ^ i*val (b.take j)+BB ^ (i+j)*(x*y):=by
     rw[aUy,Nat.pow_add]
     congr 1
     rw[aT3 x,aT3 (BB ^ i),aVs x,aVs x]
    rw[f1]at e6
    have f2:(z+x*y+c) / BB*BB ^ (i+(j+1))=BB ^ (i+j)*(BB*((z+x*y+c) / BB)):=by
     rw[<- Nat.add_assoc,aUw,aTR ((z+x*y+c) / BB),aT3]
    rw[f2]at e6
    have f3:=congrArg (BB ^ (i+j)*·) hm2
    simp only[aUy]at f3
    rw[aTR c]
    omega
theorem wT {l:List Int}{k:Nat}{x:Int}:(l.set k x).drop (k+1)=l.drop (k+1):=by rw[List.drop_set_of_lt (by omega)]
theorem aMT (a b:List Int)(ha:dgs a)(hb:dgs b)(hla:a.length<=900)(hlb:b.length<=900):∀ (m i:Nat) (v:List Int),m+i=a.length->v.length=a.length+b.length->dgs v->v.drop (i+b.length)=List.replicate m 0->val v=val (a.take i)*val b->
 ∃ v':List Int,lp (mI a b) ((i:Int),v)=some v'/\lp (mU a b) ((i:Int),v)=some v'/\dgs v'/\v'.length=a.length+b.length/\val v'=val a*val b:=by
 intro m
 induction m with
 | zero =>
  intro i v hm hl hv hz he
  have e:i=a.length:=by omega
  subst e
  rw[aUz]at he
  refine⟨v,aK ?_,aK ?_,hv,hl,he⟩
  · unfold mI;simp only[];rw[aTc (by omega)]
  · unfold mU;simp only[];rw[aTc (by omega)]
 | succ m ih =>
  intro i v hm hl hv hz he
  have h1:i<a.length:=by omega
  have d1:=mE ha h1
  obtain⟨x,hx⟩:∃ x:Nat,a[i]=(x:Int):=⟨(a[i]).toNat,by omega⟩
  obtain⟨c',v',e1,e2,e3,e4,e5,e6⟩:=aMU b i x (by omega) hb (by omega) (by omega) b.length 0 0 v (by omega) (by omega) hv (by omega) (by omega)
  rw[show((0:Nat):Int)=0 from rfl]at e1
  have h2:i+b.length<v'.length:=by omega
  have hzero:v'[i+b.length]=0:=by
   have q:(v'.drop (i+b.length))[0]?=some 0:=by rw[e5,hz];simp[aUB]
   rw[aUg,aTX,aTl h2]at q
   exact Option.some.inj q
  have s1:mI a b ((i:Int),v)=some (.inl (((i+1:Nat):Int),v'.set (i+b.length) (c':Int))):=by
   unfold mI
   simp only[]
   rw[aTd (by omega),aN h1,hx]
   simp only[aTb]
   rw[e1]
   simp only[aTb,aJ]
   rw[wi (by omega),show(i:Int)+(b.length:Int)=((i+b.length:Nat):Int)by omega,aN h2]
   simp only[aTb,lH]
   rw[wi (by omega)];rfl
  have s2:mU a b ((i:Int),v)=some (.inl (((i+1:Nat):Int),v'.set (i+b.length) (c':Int))):=by
   unfold mU
   simp only[]
   rw[aTd (by omega),aJv a b i h1,hx,e1]
   simp only[aTb,aJ]
   rw[wi (by omega),show(i:Int)+(b.length:Int)=((i+b.length:Nat):Int)by omega,aN h2]
   simp only[aTb,lH]
   rw[wi (by omega)];rfl
  rw[aQ s1,aQ s2]
  refine ih (i+1) _ (by omega) (by rw[aV6];omega) (aDv e3 _ _ (by omega)) ?_ ?_
  · rw[show i+1+b.length=(i+b.length)+1 by omega,wT,<- List.drop_drop,e5,hz,aUB];simp
  · have hs:=aHZ (l:=v') (x:=(c':Int)) h2
    rw[hzero]at hs
    simp only[aTJ,Int.toNat_zero,aVn,aTX]at hs
    rw[aVw]at e6
    simp only[val,aVn,aU6,aTX]at e6
    rw[oP h1,hx,aTJ,Nat.add_mul,<- he,hs,aTR (BB ^ (i+b.length)),e6,aTR x]
theorem oG (x y:Nat)(hx:(aA x).length<=900)(hy:(aA y).length<=900):cY (aA x) (aA y)=some (aA (x*y))/\sR (aA x) (aA y)=some (aA (x*y)):=by
 unfold cY sR
 by_cases c1:(aA x).length=0
 · have:x=0:=aCP.1 (aTq.1 c1)
   subst this
   rw[aTd (by omega)]
   simp[aW]
 · rw[aTc (by omega)]
   by_cases c2:(aA y).length=0
   · have:y=0:=aCP.1 (aTq.1 c2)
     subst this
     simp[aW]
   · have n2:¬(((aA y).length:Int)=0):=by omega
     simp only[n2,aVA,aTb,aTk,aTD,aJ]
     rw[wi (by omega),show((aA x).length:Int)+((aA y).length:Int)=(((aA x).length+(aA y).length:Nat):Int)by omega,aM (by omega)]
     simp only[aTb,aTJ]
     obtain⟨v',e1,e2,e3,e4,e5⟩:=aMT (aA x) (aA y) (dR x) (dR y) hx hy (aA x).length 0 (List.replicate ((aA x).length+(aA y).length) 0) (by omega) (by simp) (aEZ _) (by simp) (by simp[aPI,val])
     rw[show((0:Nat):Int)=0 from rfl]at e1 e2
     rw[cQ,cQ]at e5
     rw[e1,e2]
     simp only[aTb]
     rw[wX,aAq e3 (by omega),e5]
     exact⟨rfl,rfl⟩
/- Naturals as limbs: quotients; both programs. -/
theorem aQj (x y:Nat):(aA (x / y)).length<=(aA x).length:=fJ (aVE x y) (aTn _)
theorem aLY (x:Nat){y:Nat}(h:0<y):(aA (x % y)).length<=(aA y).length:=fJ (Nat.le_of_lt (aUW x h)) (aTn _)
theorem aI8 (x y:Nat):((x:Int)).tdiv (y:Int)=((x / y:Nat):Int):=by
 rw[Int.tdiv_eq_ediv_of_nonneg (by omega)];rfl
theorem aKu (x y:Nat):((x:Int)).tmod (y:Int)=((x % y:Nat):Int):=by
 rw[Int.tmod_eq_emod_of_nonneg (by omega)];rfl
theorem aQN (r:Nat):(r:Int)*1000000000=((r*BB:Nat):Int):=by rw[Int.natCast_mul];rfl
theorem aKx (a:List Int)(d:Nat)(hd:0<d/\d<1000000000)(ha:dgs a)(hla:a.length<=1000):∀ (k r:Nat) (v:List Int),k<=a.length->r<d->dgs v->v.length=a.length->val (a.drop k)=d*val (v.drop k)+r->v.take k=List.replicate k 0->
 ∃ (r':Nat) (v':List Int),lp (jX a (d:Int)) ((r:Int),(k:Int)-1,v)=some ((r':Int),v')/\r' < d/\dgs v'/\v'.length=a.length/\val a=d*val v'+r':=by
 intro k
 induction k with
 | zero =>
  intro r v hk hr hv hl he ht
  refine⟨r,v,aK ?_,hr,hv,hl,by simpa using he⟩
  unfold jX;simp only[];rw[aTc (by omega)]
 | succ k ih =>
  intro r v hk hr hv hl he ht
  have h1:k<a.length:=by omega
  have h2:k<v.length:=by omega
  have d1:=mE ha h1
  obtain⟨x,hx⟩:∃ x:Nat,a[k]=(x:Int):=⟨(a[k]).toNat,by omega⟩
  have hn:r*BB+x<d*BB:=by
   have:(r+1)*BB<=d*BB:=aUj _ hr
   rw[aUI]at this
   have:x<BB:=by rw[dD];omega
   omega
  have hq:(r*BB+x) / d<BB:=by rw[aUQ hd.1,aTR BB];exact hn
  have hm:=aUW (r*BB+x) hd.1
  have hmd:=aVo (r*BB+x) d
  have hrB:r*BB<=999999999*1000000000:=aTK (by omega) (by rw[dD];omega)
  have t1:=aI8 (r*BB+x) d
  have t2:=aKu (r*BB+x) d
  generalize (r*BB+x) / d=Q at hq hmd t1
  generalize (r*BB+x) % d=R at hm hmd t2
  rw[dD]at hq
  have s1:jX a (d:Int) ((r:Int),((k+1:Nat):Int)-1,v)=some (.inl ((R:Int),(k:Int)-1,v.set k (Q:Int))):=by
   unfold jX
   simp only[]
   rw[show((k+1:Nat):Int)-1=(k:Int)by omega,aTd (by omega),aN h1,hx,aN h2]
   simp only[aTb,aJ,lH]
   rw[aQN,wi (n:=((r*BB:Nat):Int)) (by omega),show((r*BB:Nat):Int)+(x:Int)=((r*BB+x:Nat):Int)by omega,aM (by omega),wi (n:=((r*BB+x:Nat):Int)) (by omega),t1,t2]
   simp only[aTb]
   rw[wi (by omega),wi (by omega)]
  obtain⟨r',v',e1,e2,e3,e4,e5⟩:=ih R (v.set k (Q:Int)) (by omega) hm (aDv hv _ _ (by omega)) (by simpa using hl) (by
   rw[iA h1,iA (l:=v.set k _) (by simpa using h2),List.getElem_set_self,wT,he,hx,aTJ,aTJ]
   rw[aUy,aUy d,<- aT3 BB d,<- aT3 d BB,aTR BB d]
   rw[aTR BB r]
   omega) (by
   rw[List.take_set_of_le (by omega)]
   have:=congrArg (List.take k) ht
   rw[List.take_take,aUP (by omega),List.take_replicate,aUP (by omega)]at this
   exact this)
  exact⟨r',v',by rw[aQ s1];exact e1,e2,e3,e4,e5⟩
theorem aCN {a b q r:Nat}(hb:r<b)(h:a=b*q+r):q=a / b/\r=a % b:=by
 subst h
 constructor
 · rw[aTR,Nat.add_comm,Nat.add_mul_div_right _ _ (by omega),aVO hb,aTC]
 · rw[Nat.add_comm,Nat.add_mul_mod_self_left,aUJ hb]
theorem aKX (x d:Nat)(hd:0<d/\d<1000000000)(hx:(aA x).length<=1000):rA (aA x) (d:Int)=some (aA (x / d),((x % d:Nat):Int)):=by
 obtain⟨r',v',e1,e2,e3,e4,e5⟩:=aKx (aA x) d hd (dR x) hx (aA x).length 0 (List.replicate (aA x).length 0) (aTn _) hd.1 (aEZ _) (by simp) (by rw[fK (aTn _),fK (by simp)];rfl) (by simp)
 rw[cQ]at e5
 obtain⟨q1,q2⟩:=aCN e2 e5
 unfold rA
 rw[aM (by omega)]
 simp only[aTb,aJ,aTJ]
 rw[show((0:Nat):Int)=0 from rfl]at e1
 rw[wi (by omega),e1]
 simp only[aTb]
 rw[aAq e3 (by omega),q1,q2];rfl
theorem aLa (r b:Nat)(hb:0<b)(hlr:(aA r).length<=800)(hlb:(aA b).length<=800):∀ (m lo hi:Nat),hi-lo<=m->lo<=r / b->r / b<=hi->hi<=999999999->lp (dX (aA r) (aA b)) ((lo:Int),(hi:Int))=some ((r / b:Nat):Int):=by
 intro m
 induction m with
 | zero =>
  intro lo hi h1 h2 h3 h4
  have:lo=r / b:=by omega
  subst this
  refine aK ?_
  unfold dX;simp only[];rw[aTc (by omega)]
 | succ m ih =>
  intro lo hi h1 h2 h3 h4
  by_cases c:lo<hi
  · have hq:((lo:Int)+(hi:Int)+1).tdiv 2=(((lo+hi+1) / 2:Nat):Int):=by
     rw[show(lo:Int)+(hi:Int)+1=((lo+hi+1:Nat):Int)by omega,show(2:Int)=((2:Nat):Int)from rfl,aI8]
    obtain⟨q,hqe⟩:∃ q,q=(lo+hi+1) / 2:=⟨_,rfl⟩
    have hlq:(aA q).length<=1:=fZ (by rw[dD];omega)
    have hlm:(aA (b*q)).length<=900:=by have:=dV b q;omega
    have hc:rU (b*q) r<=0↔q<=r / b:=by
     rw[Nat.le_div_iff_mul_le hb,aTR q b]
     unfold rU
     by_cases c1:b*q<r
     · rw[aTd c1];constructor <;> intro _ <;> omega
     · rw[aTc c1]
       by_cases c2:r<b*q
       · rw[aTd c2];constructor <;> intro _ <;> omega
       · rw[aTc c2];constructor <;> intro _ <;> omega
    by_cases c2:q<=r / b
    · have s1:dX (aA r) (aA b) ((lo:Int),(hi:Int))=some (.inl ((q:Int),(hi:Int))):=by
       unfold dX
       simp only[aJ]
       rw[aTd (by omega),wi (n:=(lo:Int)+hi) (by omega),wi (n:=(lo:Int)+hi+1) (by omega),hq,<- hqe,wi (by omega),aAT _ (by omega)]
       simp only[aTb]
       rw[(oG b q (by omega) (by omega)).1]
       simp only[aTb]
       rw[aBx _ _ (by omega) (by omega)]
       simp only[aTb]
       rw[aTd (hc.2 c2)]
      rw[aQ s1]
      exact ih q hi (by omega) c2 h3 h4
    · have s1:dX (aA r) (aA b) ((lo:Int),(hi:Int))=some (.inl ((lo:Int),((q-1:Nat):Int))):=by
       unfold dX
       simp only[aJ]
       rw[aTd (by omega),wi (n:=(lo:Int)+hi) (by omega),wi (n:=(lo:Int)+hi+1) (by omega),hq,<- hqe,wi (n:=(q:Int)) (by omega),aAT _ (by omega)]
       simp only[aTb]
       rw[(oG b q (by omega) (by omega)).1]
       simp only[aTb]
       rw[aBx _ _ (by omega) (by omega)]
       simp only[aTb]
       rw[aTc (fun h=>c2 (hc.1 h)),wi (by omega),show(q:Int)-1=((q-1:Nat):Int)by omega]
      rw[aQ s1]
      exact ih lo (q-1) (by omega) h2 (by omega) (by omega)
  · have:lo=r / b:=by omega
    subst this
    refine aK ?_
    unfold dX;simp only[];rw[aTc (by omega)]
theorem aKY (r b:Nat)(hb:0<b)(hlr:(aA r).length<=800)(hlb:(aA b).length<=800)(h:r / b<=999999999):rC (aA r) (aA b)=some ((r / b:Nat):Int):=by
 unfold rC
 have:=aLa r b hb hlr hlb 999999999 0 999999999 (by omega) (aT9 _) h (aTn _)
 rw[show((0:Nat):Int)=0 from rfl,show((999999999:Nat):Int)=999999999 from rfl]at this
 rw[this];rfl
/- Naturals as limbs: quotients of any length; both programs. -/
theorem aEn {d:Nat}(h:d<BB):(aA d).length<=1:=fZ (by simpa using h)
theorem aGk (x R:Nat)(hx:x<1000000000)(hl:(aA R).length<=4000):cL ([(x:Int)]++aA R)=some (aA (x+BB*R)):=by
 rw[aAq (by rw[aMj];exact⟨by intro z hz;simp at hz;omega,dR R⟩) (by simp;omega)]
 rw[aUk,val,cQ,aTJ]
theorem aJh {R b:Nat}(h:R<b*BB):(aA R).length<=(aA b).length+2:=by
 have h1:=dV b BB
 have h2:(aA BB).length<=2:=fZ (by rw[dD];omega)
 have h3:=fJ (Nat.le_of_lt h) (aTn _)
 omega
theorem aLL {x R b:Nat}(hx:x<1000000000)(hR:R<b):x+BB*R<b*BB:=by
 have:(R+1)*BB<=b*BB:=aUj _ hR
 rw[aUI,aTR R]at this
 have:x<BB:=by rw[dD];omega
 omega
theorem aIn {R b:Nat}(hb:0<b)(h:R<b*BB):R / b<BB:=by rw[aUQ hb,aTR BB];exact h
theorem aOZ (a:List Int)(b:Nat)(hb:0<b)(hlb:(aA b).length<=700)(ha:dgs a)(hla:a.length<=1000):∀ (k R:Nat) (v:List Int),k<=a.length->R<b->dgs v->v.length=a.length->val (a.drop k)=b*val (v.drop k)+R->v.take k=List.replicate k 0->
 ∃ (R':Nat) (v':List Int),lp (mJ a (aA b)) (aA R,(k:Int)-1,v)=some (aA R',v')/\R' < b/\dgs v'/\v'.length=a.length/\val a=b*val v'+R':=by
 intro k
 induction k with
 | zero =>
  intro R v hk hr hv hl he ht
  refine⟨R,v,aK ?_,hr,hv,hl,by simpa using he⟩
  unfold mJ;simp only[];rw[aTc (by omega)]
 | succ k ih =>
  intro R v hk hr hv hl he ht
  have h1:k<a.length:=by omega
  have h2:k<v.length:=by omega
  have d1:=mE ha h1
  obtain⟨x,hx⟩:∃ x:Nat,a[k]=(x:Int):=⟨(a[k]).toNat,by omega⟩
  have hx2:x<1000000000:=by omega
  have hn:=aLL hx2 hr
  have hq:=aIn hb hn
  have hm:=aUW (x+BB*R) hb
  have hmd:=aVo (x+BB*R) b
  have hlR:(aA R).length<=(aA b).length:=fJ (Nat.le_of_lt hr) (aTn _)
  have hlR2:=aJh hn
  have hv0:v[k]=0:=by
   have q:(v.take (k+1))[k]?=some 0:=by rw[ht];simp
   rw[List.getElem?_take_of_lt (by omega),aTl h2]at q
   exact Option.some.inj q
  obtain⟨Q,hQ⟩:∃ Q,Q=(x+BB*R) / b:=⟨_,rfl⟩
  obtain⟨M,hM⟩:∃ M,M=(x+BB*R) % b:=⟨_,rfl⟩
  have hq':(x+BB*R) / b<1000000000:=Nat.lt_of_lt_of_eq hq dD
  have hq2:Q<1000000000:=by rw[hQ];exact hq'
  have s1:mJ a (aA b) (aA R,((k+1:Nat):Int)-1,v)=some (.inl (aA M,(k:Int)-1,v.set k (Q:Int))):=by
   unfold mJ
   simp only[]
   rw[show((k+1:Nat):Int)-1=(k:Int)by omega,aTd (by omega),aN h1,hx,aN h2]
   simp only[aTb,aJ,lH]
   rw[aM (by simp;omega)]
   simp only[aTb]
   rw[aGk x R hx2 (by omega)]
   simp only[aTb]
   rw[aBx _ _ (by omega) (by omega)]
   simp only[aTb]
   by_cases c:x+BB*R<b
   · have e1:Q=0:=by rw[hQ,aVO c]
     have e2:M=x+BB*R:=by rw[hM,aUJ c]
     have e3:v.set k ((0:Nat):Int)=v:=by
      apply List.ext_getElem
      · simp
      · intro i q1 q2
        rw[List.getElem_set]
        split
        · rename_i h;subst h;exact hv0.symm
        · rfl
     rw[e1,e2,e3,aTd (by unfold rU;rw[aTd c];omega),wi (by omega)]
   · have hcm:¬rU (x+BB*R) b<0:=by
      unfold rU;rw[aTc c];split <;> omega
     rw[aTc hcm,aKY _ b hb (by omega) (by omega) (by omega)]
     simp only[aTb]
     rw[<- hQ,aAT _ (by omega)]
     simp only[aTb]
     have hl1:(aA Q).length<=1:=aEn (by rw[dD];omega)
     rw[(oG b Q (by omega) (by omega)).1]
     simp only[aTb]
     rw[<- hM,<- hQ]at hmd
     rw[(zX (x+BB*R) (b*Q) (by omega) (by omega)).1]
     simp only[aTb]
     rw[show x+BB*R-b*Q=M by omega,wi (by omega)]
  obtain⟨R',v',e1,e2,e3,e4,e5⟩:=ih M (v.set k (Q:Int)) (by omega) (by rw[hM];exact hm) (aDv hv _ _ (by omega)) (by simpa using hl) (by
   rw[iA h1,iA (l:=v.set k _) (by simpa using h2),List.getElem_set_self,wT,he,hx,aTJ,aTJ]
   rw[aUy,aUy b,<- aT3 BB b,<- aT3 b BB,aTR BB b]
   rw[<- hM,<- hQ]at hmd
   omega) (by
   rw[List.take_set_of_le (by omega)]
   have:=congrArg (List.take k) ht
   rw[List.take_take,aUP (by omega),List.take_replicate,aUP (by omega)]at this
   exact this)
  exact⟨R',v',by rw[aQ s1];exact e1,e2,e3,e4,e5⟩
theorem aGc (x b:Nat)(hb:0<b)(hx:(aA x).length<=700)(hlb:(aA b).length<=700):lE (aA x) (aA b)=some (aA (x / b),aA (x % b)):=by
 unfold lE
 by_cases c:(aA b).length=1
 · rw[aTd (by omega)]
   have hbB:b<BB:=by have:=oY b;rw[c,aUA]at this;exact this
   have e:=qS hbB (by omega)
   rw[show(0:Int)=((0:Nat):Int)from rfl,aN (by omega)]
   simp only[e,aUt,aTb]
   rw[dD]at hbB
   rw[aKX x b ⟨hb,by omega⟩ (by omega)]
   simp only[aTb]
   have:=aUW x hb
   rw[aAT _ (by omega)];rfl
 · rw[aTc (by omega),aM (by omega)]
   simp only[aTb,aJ,aTJ]
   obtain⟨r',v',e1,e2,e3,e4,e5⟩:=aOZ (aA x) b hb hlb (dR x) (by omega) (aA x).length 0 (List.replicate (aA x).length 0) (aTn _) hb (aEZ _) (by simp) (by rw[fK (aTn _),fK (by simp)];rfl) (by simp)
   rw[cQ]at e5
   rw[aW]at e1
   obtain⟨q1,q2⟩:=aCN e2 e5
   rw[wi (by omega),e1]
   simp only[aTb]
   rw[aAq e3 (by omega),q1,q2];rfl
theorem aQd (R b:Nat)(hb:0<b)(hR:b<=R)(h:R<b*BB)(hlb:(aA b).length<=700):∃ g:Nat,rO (aA R) (aA b)=some (g:Int)/\1<=g/\b*g<=R:=by
 obtain⟨m,hm⟩:∃ m,(aA b).length=m+1:=by
  have:(aA b).length≠0:=fun e=>dF (n:=b) (by omega) (aTq.1 e)
  exact⟨(aA b).length-1,by omega⟩
 have hbl:=oY b
 rw[hm,aUw]at hbl
 have hr1:m+1<=(aA R).length:=by rw[<- hm];exact fJ hR (aTn _)
 have hRl:R<BB ^ m*BB*BB:=aTp h (aUj _ (Nat.le_of_lt hbl))
 have hr2:(aA R).length<=m+2:=fZ (by rw[aUw,aUw];exact hRl)
 have hp:=aN6 m
 have hbt:b / BB ^ m<BB:=by rw[aUQ hp,aTR BB];exact hbl
 have hT:R / BB ^ m<BB*BB:=by rw[aUQ hp,aTR (BB*BB),<- aT3];exact hRl
 have hbd:b<BB ^ m*(b / BB ^ m+1):=Nat.lt_mul_div_succ b hp
 have hTd:BB ^ m*(R / BB ^ m)<=R:=Nat.mul_div_le R _
 have hi1:m<(aA R).length:=by omega
 have hi2:m<(aA b).length:=by omega
 have g1:=aBF hi1
 have g2:=aBF hi2
 rw[aUJ hbt]at g2
 unfold rO
 simp only[aJ]
 rw[hm,wi (by omega),show(((m+1:Nat):Int)-1)=(m:Int)by omega,aN hi1,aN hi2,g1,g2]
 simp only[aTb]
 have top:((if(((m+1:Nat):Int)<((aA R).length:Int))then(idx (aA R) ((m+1:Nat):Int)).bind fun y3=>some (IntKind.i64.wrap (((R / BB ^ m % BB:Nat):Int)+IntKind.i64.wrap (y3*1000000000)))else some ((R / BB ^ m % BB:Nat):Int)):Option Int)=some ((R / BB ^ m:Nat):Int):=by
  have hmod:=aVo (R / BB ^ m) BB
  by_cases c:m+1<(aA R).length
  · have g3:=aBF c
    rw[aUw,<- Nat.div_div_eq_div_mul]at g3
    have h3:R / BB ^ m / BB<BB:=by rw[aUQ uD];exact hT
    rw[aUJ h3]at g3
    rw[aTd (by omega),aN c,g3]
    simp only[aTb]
    generalize R / BB ^ m=T at hT hmod h3 ⊢
    have h4:T % BB<BB:=aUW _ uD
    generalize T % BB=T0 at hmod h4 ⊢
    generalize T / BB=T1 at hmod h3 ⊢
    rw[aQN,aTR T1]
    rw[dD]at hT
    rw[wi (n:=((BB*T1:Nat):Int)) (by omega),wi (by omega)];congr 1;omega
  · have e:(aA R).length=m+1:=by omega
    have h3:R / BB ^ m<BB:=by
     rw[aUQ hp,aTR BB,<- aUw]
     have:=oY R
     rwa [e]at this
    rw[aTc (by omega),aUJ h3]
 rw[top]
 simp only[aTb]
 by_cases c:m=0
 · subst c
   rw[aTd (by omega),show(0:Int)=((0:Nat):Int)from rfl,aN hi2,g2]
   simp only[Nat.pow_zero,Nat.div_one,aTb]
   rw[aM (by omega),aI8]
   have hq:=aIn hb h
   rw[dD]at hq
   generalize hQ:R / b=Q at hq
   refine⟨Q,by simp only[aTb];rw[wi (by omega)],?_,?_⟩
   · rw[<- hQ,Nat.le_div_iff_mul_le hb];omega
   · rw[<- hQ];exact Nat.mul_div_le R b
 · rw[aTc (by omega)]
   generalize b / BB ^ m=t at hbt hbd ⊢
   generalize R / BB ^ m=T at hT hTd ⊢
   rw[dD]at hbt
   rw[wi (n:=(t:Int)+1) (by omega),aM (by omega),show(t:Int)+1=((t+1:Nat):Int)by omega,aI8]
   have hg:=Nat.div_mul_le_self T (t+1)
   have hgT:T / (t+1)<=T:=aVE _ _
   generalize T / (t+1)=G at hg hgT ⊢
   rw[dD]at hT
   simp only[aTb]
   rw[wi (by omega)]
   by_cases c2:G=0
   · subst c2
     exact⟨1,by rw[aTd (by omega)];rfl,aTn _,by omega⟩
   · refine⟨G,by rw[aTc (by omega)],by omega,?_⟩
     have e1:G*b<=G*(BB ^ m*(t+1)):=aTA _ (Nat.le_of_lt hbd)
     have e2:BB ^ m*(G*(t+1))<=BB ^ m*T:=aTA _ hg
     rw[aVs]at e2
     rw[aTR b];omega
theorem aK9 (b:Nat)(hb:0<b)(hlb:(aA b).length<=700)(k:Nat):∀ (R q0:Nat) (v:List Int),R<b*BB->k<v.length->v[k]?=some (q0:Int)->q0+R / b<=999999999->
 lp (mW (aA b) (k:Int)) (aA R,v)=some (aA (R % b),v.set k ((q0+R / b:Nat):Int)):=by
 intro R
 induction R using Nat.strongRecOn with
 | _ R ih =>
  intro q0 v hR hk hv hq
  have hl:=aJh hR
  by_cases c:R<b
  · rw[aVO c,aUJ c,aTX]
    have:v.set k (q0:Int)=v:=by
     apply List.ext_getElem
     · simp
     · intro i p1 p2
       rw[List.getElem_set]
       split
       · rename_i h;subst h
         rw[aTl hk]at hv;exact(Option.some.inj hv).symm
       · rfl
    rw[this]
    refine aK ?_
    unfold mW
    simp only[]
    rw[aFQ _ _ (by omega) (by omega)]
    simp only[aTb]
    rw[aTc (by unfold rU;rw[aTd c];omega)]
  · obtain⟨g,e1,e2,e3⟩:=aQd R b hb (by omega) hR hlb
    have hgq:g<=R / b:=by rw[Nat.le_div_iff_mul_le hb,aTR];exact e3
    have hdiv:(R-b*g) / b=R / b-g:=by rw[Nat.sub_mul_div]
    have hmod:(R-b*g) % b=R % b:=Nat.sub_mul_mod (by omega)
    have hbg:b<=b*g:=aUF _ e2
    generalize R / b=Q at hq hgq hdiv ⊢
    have hd:([(g:Int)]:List Int)=aA g:=(qS (by rw[dD];omega) (by omega)).symm
    have hl1:(aA g).length<=1:=aEn (by rw[dD];omega)
    have s1:mW (aA b) (k:Int) (aA R,v)=some (.inl (aA (R-b*g),v.set k ((q0+g:Nat):Int))):=by
     unfold mW
     simp only[]
     rw[aFQ _ _ (by omega) (by omega)]
     simp only[aTb]
     rw[aTd (by unfold rU;rw[aTc c];split <;> omega),e1]
     simp only[aTb]
     rw[hd,(oG b g (by omega) (by omega)).2]
     simp only[aTb]
     rw[(zX R (b*g) (by omega) e3).2]
     simp only[aTb]
     rw[kP,hv]
     simp only[aTb,aJ,lH]
     rw[wi (by omega)];rfl
    rw[aQ s1,ih (R-b*g) (by omega) (q0+g) _ (by omega) (by simpa using hk) (by rw[aUZ hk]) (by rw[hdiv];omega),hmod,hdiv,List.set_set]
    congr 3;congr 1;omega
theorem aNd (a:List Int)(b:Nat)(hb:0<b)(hlb:(aA b).length<=700)(ha:dgs a)(hla:a.length<=1000):∀ (k R:Nat) (v:List Int),k<=a.length->R<b->dgs v->v.length=a.length->val (a.drop k)=b*val (v.drop k)+R->v.take k=List.replicate k 0->
 ∃ (R':Nat) (v':List Int),lp (mV a (aA b)) (aA R,(k:Int)-1,v)=some (aA R',v')/\R' < b/\dgs v'/\v'.length=a.length/\val a=b*val v'+R':=by
 intro k
 induction k with
 | zero =>
  intro R v hk hr hv hl he ht
  refine⟨R,v,aK ?_,hr,hv,hl,by simpa using he⟩
  unfold mV;simp only[];rw[aTc (by omega)]
 | succ k ih =>
  intro R v hk hr hv hl he ht
  have h1:k<a.length:=by omega
  have h2:k<v.length:=by omega
  have d1:=mE ha h1
  obtain⟨x,hx⟩:∃ x:Nat,a[k]=(x:Int):=⟨(a[k]).toNat,by omega⟩
  have hx2:x<1000000000:=by omega
  have hn:=aLL hx2 hr
  have hq:=aIn hb hn
  have hm:=aUW (x+BB*R) hb
  have hmd:=aVo (x+BB*R) b
  have hlR:(aA R).length<=(aA b).length:=fJ (Nat.le_of_lt hr) (aTn _)
  have hv0:v[k]?=some ((0:Nat):Int):=by
   have q:(v.take (k+1))[k]?=some 0:=by rw[ht];simp
   rw[List.getElem?_take_of_lt (by omega)]at q
   exact q
  have hq':(x+BB*R) / b<1000000000:=Nat.lt_of_lt_of_eq hq dD
  clear hq
  have inn:=aK9 b hb hlb k (x+BB*R) 0 v hn h2 hv0 (by omega)
  rw[aTC]at inn
  generalize (x+BB*R) / b=Q at hq' hmd inn
  generalize (x+BB*R) % b=M at hm hmd inn
  have s1:mV a (aA b) (aA R,((k+1:Nat):Int)-1,v)=some (.inl (aA M,(k:Int)-1,v.set k (Q:Int))):=by
   unfold mV
   simp only[]
   rw[show((k+1:Nat):Int)-1=(k:Int)by omega,aTd (by omega),aN h1,hx]
   simp only[aTb,aJ]
   rw[aM (by simp;omega)]
   simp only[aTb]
   rw[wX,aGk x R hx2 (by omega)]
   simp only[aTb]
   rw[inn]
   simp only[aTb]
   rw[wi (by omega)]
  obtain⟨R',v',e1,e2,e3,e4,e5⟩:=ih M (v.set k (Q:Int)) (by omega) hm (aDv hv _ _ (by omega)) (by simpa using hl) (by
   rw[iA h1,iA (l:=v.set k _) (by simpa using h2),List.getElem_set_self,wT,he,hx,aTJ,aTJ]
   rw[aUy,aUy b,<- aT3 BB b,<- aT3 b BB,aTR BB b]
   omega) (by
   rw[List.take_set_of_le (by omega)]
   have:=congrArg (List.take k) ht
   rw[List.take_take,aUP (by omega),List.take_replicate,aUP (by omega)]at this
   exact this)
  exact⟨R',v',by rw[aQ s1];exact e1,e2,e3,e4,e5⟩
theorem aNH:∀ (l:List Int),dgs l->l.length<=2->fH l=some (val l:Int)
 | [],_,_=>by
  unfold fH
  simp only[aJ,aUq]
  rw[wi (by omega),aK (r:=0) (by unfold cW;simp)];rfl
 | [d],h,_=>by
  rw[mZ]at h
  unfold fH
  simp only[aJ,aTG,aUq]
  have s1:cW [d] (0,((0:Nat):Int))=some (.inl (d,-1)):=by
   unfold cW
   simp only[]
   rw[aTd (by omega),aN (by simp)]
   simp only[aTb,aJ,aUt]
   rw[wi (n:=0*1000000000) (by omega),wi (by omega),wi (by omega)]
   simp
  rw[wi (by omega),show(((0+1:Nat):Int)-1)=((0:Nat):Int)by omega,aQ s1,aK (r:=d) (by unfold cW;simp)]
  simp[val] <;> omega
 | [d,e],h,_=>by
  rw[mZ,mZ]at h
  unfold fH
  simp only[aJ,aTG,aUq]
  have s1:cW [d,e] (0,((1:Nat):Int))=some (.inl (e,((0:Nat):Int))):=by
   unfold cW
   simp only[]
   rw[aTd (by omega),aN (by simp)]
   simp only[aTb,aJ,aUt,aVf]
   rw[wi (n:=0*1000000000) (by omega),wi (by omega),wi (by omega)]
   simp
  have s2:cW [d,e] (e,((0:Nat):Int))=some (.inl (e*1000000000+d,-1)):=by
   unfold cW
   simp only[]
   rw[aTd (by omega),aN (by simp)]
   simp only[aTb,aJ,aUt]
   rw[wi (n:=e*1000000000) (by omega),wi (by omega),wi (by omega)]
   rfl
  rw[wi (by omega),show(((0+1+1:Nat):Int)-1)=((1:Nat):Int)by omega,aQ s1,aQ s2,aK (r:=e*1000000000+d) (by unfold cW;simp)]
  simp only[aTb,val,dD,aVn,aTX]
  congr 1;omega
 | _::_::_::_,_,h=>by simp at h <;> omega
theorem aCV (x:Nat)(h:(aA x).length<=2):fH (aA x)=some (x:Int):=by rw[aNH _ (dR x) h,cQ]
theorem uN {x:Nat}(h:(aA x).length<=2):x<1000000000000000000:=by
 have h1:=oY x
 have h2:BB ^ (aA x).length<=BB ^ 2:=aT4 uD h
 have h3:BB ^ 2=1000000000000000000:=by rw[dD]
 omega
theorem aFP (x b:Nat)(hb:0<b)(hx:(aA x).length<=700)(hlb:(aA b).length<=700):pZ (aA x) (aA b)=some (aA (x / b),aA (x % b)):=by
 unfold pZ
 by_cases c:(aA x).length<=2/\(aA b).length<=2
 · have h1:=uN c.1
   have h2:=uN c.2
   have n1:((aA x).length:Int)<=2:=by omega
   have n2:((aA b).length:Int)<=2:=by omega
   simp only[n1,n2,aTz,aU8,aTb]
   rw[aCV x c.1,aCV b c.2]
   simp only[aTb,aJ]
   have q1:=aVE x b
   have q2:=Nat.mod_le x b
   rw[aM (by omega),aI8,aKu]
   generalize x / b=Q at q1 ⊢
   generalize x % b=M at q2 ⊢
   simp only[aTb]
   rw[wi (by omega),wu (by omega),wu (by omega),wB Q (by omega),wB M (by omega)]
   rfl
 · have:((if((aA x).length:Int)<=2 then some (decide (((aA b).length:Int)<=2))else some false):Option Bool)=some false:=by
    by_cases c1:(aA x).length<=2
    · have c2:¬(aA b).length<=2:=fun h=>c ⟨c1,h⟩
      rw[aTd (by omega),aTe (by omega)]
    · rw[aTc (by omega)]
   rw[this]
   simp only[aTb,aTk,aTD,aJ]
   rw[aM (by omega)]
   simp only[aTb,aTJ]
   obtain⟨r',v',e1,e2,e3,e4,e5⟩:=aNd (aA x) b hb hlb (dR x) (by omega) (aA x).length 0 (List.replicate (aA x).length 0) (aTn _) hb (aEZ _) (by simp) (by rw[fK (aTn _),fK (by simp)];rfl) (by simp)
   rw[cQ]at e5
   rw[aW]at e1
   obtain⟨q1,q2⟩:=aCN e2 e5
   rw[wi (by omega),e1]
   simp only[aTb]
   rw[wX,aAq e3 (by omega),q1,q2];rfl
/- Naturals as limbs: greatest common divisors, and which lists are naturals; both programs. -/
theorem aGj (x y:Nat):Nat.gcd x y=Nat.gcd y (x % y):=by rw[Nat.gcd_comm x y,Nat.gcd_rec y x,Nat.gcd_comm]
theorem aFE:∀ (y x:Nat),lp kI ((x:Int),(y:Int))=some ((Nat.gcd x y:Nat):Int):=by
 intro y
 induction y using Nat.strongRecOn with
 | _ y ih =>
  intro x
  by_cases c:y=0
  · subst c
    rw[Nat.gcd_zero_right]
    exact aK (by unfold kI;simp)
  · have s1:kI ((x:Int),(y:Int))=some (.inl ((y:Int),((x % y:Nat):Int))):=by
     unfold kI
     simp only[]
     rw[aTd (by omega),aM (by omega),aKu];rfl
    rw[aQ s1,ih (x % y) (aUW _ (by omega)),<- aGj]
theorem aKI:uM=kI:=rfl
theorem aJT {x y:Nat}(hx:x<1000000000000000000)(hy:y<1000000000000000000):Nat.gcd x y<1000000000000000000:=by
 by_cases c:x=0
 · subst c;rw[Nat.gcd_zero_left];exact hy
 · have:=Nat.gcd_le_left y (aUS c);omega
theorem aM2:∀ (y x:Nat),(aA x).length<=700->(aA y).length<=700->∃ r,lp kH (aA x,aA y)=some r/\(r=.inl (aA (Nat.gcd x y))\/r=.inr (aA (Nat.gcd x y))):=by
 intro y
 induction y using Nat.strongRecOn with
 | _ y ih =>
  intro x hx hy
  by_cases c:y=0
  · subst c
    rw[Nat.gcd_zero_right]
    refine⟨.inl (aA x),aK ?_,.inl rfl⟩
    unfold kH
    simp[aW]
  · have hy0:(aA y).length≠0:=fun e=>dF c (aTq.1 e)
    by_cases c2:(aA x).length<=2/\(aA y).length<=2
    · refine⟨.inr (aA (Nat.gcd x y)),aK ?_,.inr rfl⟩
      have h1:=uN c2.1
      have h2:=uN c2.2
      have h3:=aJT h1 h2
      have n1:((aA x).length:Int)<=2:=by omega
      have n2:((aA y).length:Int)<=2:=by omega
      unfold kH
      simp only[n1,n2,aTz,aU8,aTb]
      rw[aTd (by omega),aCV x c2.1,aCV y c2.2]
      simp only[aTb]
      rw[aFE]
      simp only[aTb]
      rw[wu (by omega),wB _ (by omega)];rfl
    · have s1:kH (aA x,aA y)=some (.inl (aA y,aA (x % y))):=by
       unfold kH
       simp only[]
       have:((if((aA x).length:Int)<=2 then some (decide (((aA y).length:Int)<=2))else some false):Option Bool)=some false:=by
        by_cases c1:(aA x).length<=2
        · have c2:¬(aA y).length<=2:=fun h=>c2 ⟨c1,h⟩
          rw[aTd (by omega),aTe (by omega)]
        · rw[aTc (by omega)]
       rw[aTd (by omega),this]
       simp only[aTb,aTk,aTD]
       rw[aFP x y (by omega) hx hy];rfl
      rw[aQ s1,aGj x y]
      exact ih (x % y) (aUW _ (by omega)) y hy (by have:=aLY x (y:=y) (by omega);omega)
theorem aJu (x y:Nat)(hx:(aA x).length<=700)(hy:(aA y).length<=700):sS (aA x) (aA y)=some (aA (Nat.gcd x y)):=by
 unfold sS
 obtain⟨r,e1,e2⟩:=aM2 y x hx hy
 have hl:(aA (Nat.gcd x y)).length<=700:=by
  by_cases c:x=0
  · subst c;rw[Nat.gcd_zero_left];exact hy
  · exact aTr (fJ (Nat.gcd_le_left y (aUS c)) (aTn _)) hx
 rw[e1]
 rcases e2 with rfl | rfl
 · simp only[aTb]
   unfold dU
   rw[aM (by simp;omega)];rfl
 · rfl
instance (l:List Int):Decidable (dgs l):=by unfold dgs;infer_instance
def uG (l:List Int):Prop:=dgs l/\l.length<=60/\l.getLast?≠some 0
instance (l:List Int):Decidable (uG l):=by unfold uG;infer_instance
theorem aMS {l:List Int}(h:uG l):nat l:=⟨h.1,h.2.2⟩
theorem nM {l:List Int}(h:uG l):l=aA (val l):=aAB (aMS h)
theorem aAC {x:Nat}(h:(aA x).length<=60):uG (aA x):=⟨dR x,h,aBE x⟩
theorem aOf (l:List Int)(hl:l.length<=4294967296):∀ m k:Nat,m+k=l.length->lp (mA l) (k:Int)=some (if dgs (l.drop k)then .inl ()else .inr false):=by
 intro m
 induction m with
 | zero =>
  intro k hk
  rw[aTd (by rw[aTE (by omega)];exact aB2)]
  exact aK (by unfold mA;rw[aTc (by omega)])
 | succ m ih =>
  intro k hk
  have hlt:k<l.length:=by omega
  by_cases c:0<=l[k]/\l[k]<1000000000
  · have s1:mA l (k:Int)=some (.inl ((k+1:Nat):Int)):=by
     unfold mA
     have n1:¬l[k]<0:=by omega
     have n2:¬1000000000<=l[k]:=by omega
     rw[aTd (by omega),aN hlt,wi (by omega)]
     simp[n1,n2]
    rw[aQ s1,ih (k+1) (by omega)]
    have hd:dgs (l.drop k)↔dgs (l.drop (k+1)):=by rw[aTh hlt,mZ];exact⟨fun h=>h.2,fun h=>⟨c,h⟩⟩
    simp only[hd]
  · have h2:¬dgs (l.drop k):=by rw[aTh hlt,mZ];exact fun h=>c h.1
    rw[aTc h2]
    refine aK ?_
    unfold mA
    rw[aTd (by omega),aN hlt]
    simp only[aTb]
    by_cases n1:l[k]<0
    · rw[aTd n1];rfl
    · rw[aTc n1,aTg (by omega)];rfl
theorem aAH (a b c:Int):kB a b c=some (decide (b<=a/\a<=c)):=by
 unfold kB
 by_cases h:b<=a <;> simp[h]
theorem aOe (l:List Int)(hl:l.length<=4294967296):∀ m k:Nat,m+k=l.length->lp (lV l) (k:Int)=some (if dgs (l.drop k)then .inl ()else .inr false):=by
 intro m
 induction m with
 | zero =>
  intro k hk
  rw[aTd (by rw[aTE (by omega)];exact aB2)]
  exact aK (by unfold lV;rw[aTc (by omega)])
 | succ m ih =>
  intro k hk
  have hlt:k<l.length:=by omega
  by_cases c:0<=l[k]/\l[k]<1000000000
  · have s1:lV l (k:Int)=some (.inl ((k+1:Nat):Int)):=by
     unfold lV
     rw[aTd (by omega),aN hlt,wi (by omega)]
     simp only[aTb]
     rw[aAH,aTg (by omega)];rfl
    rw[aQ s1,ih (k+1) (by omega)]
    have hd:dgs (l.drop k)↔dgs (l.drop (k+1)):=by rw[aTh hlt,mZ];exact⟨fun h=>h.2,fun h=>⟨c,h⟩⟩
    simp only[hd]
  · have h2:¬dgs (l.drop k):=by rw[aTh hlt,mZ];exact fun h=>c h.1
    rw[aTc h2]
    refine aK ?_
    unfold lV
    rw[aTd (by omega),aN hlt]
    simp only[aTb]
    rw[aAH,aTe (by omega)];rfl
theorem aLS (l:List Int)(hl:l.length<=4294967296)(h:l.length≠0):(idx l (IntKind.i64.wrap ((l.length:Int)-1))).bind (fun y=>some (decide (y≠0)))=some (decide (l.getLast?≠some 0)):=by
 have hlt:l.length-1<l.length:=by omega
 rw[wi (by omega),show(l.length:Int)-1=((l.length-1:Nat):Int)by omega,aN hlt,List.getLast?_eq_getElem?,aTl hlt]
 simp
theorem aKj (l:List Int)(hl:l.length<=4294967296):uW l=some (decide (uG l)):=by
 unfold uW
 by_cases c:60<l.length
 · have:¬uG l:=fun h=>by have:=h.2.1;omega
   rw[aTd (by omega),aTe this]
 · have:=aOf l hl l.length 0 (by omega)
   rw[show((0:Nat):Int)=0 from rfl,aTZ]at this
   rw[aTc (by omega),this]
   by_cases d:dgs l
   · rw[aTd d]
     simp only[aTb]
     by_cases z:l.length=0
     · have e:l=[]:=aTq.1 z
       subst e
       rw[aTd (by simp),aTg ⟨aB2,by simp,by simp⟩]
     · rw[aTc (by omega),aJ,aLS l hl z]
       congr 1
       exact decide_eq_decide.2 ⟨fun h=>⟨d,by omega,h⟩,fun h=>h.2.2⟩
   · have:¬uG l:=fun h=>d h.1
     rw[aTc d,aTe this];rfl
theorem aGI (l:List Int)(hl:l.length<=4294967296):sC l=some (decide (uG l)):=by
 unfold sC
 have:=aOe l hl l.length 0 (by omega)
 rw[show((0:Nat):Int)=0 from rfl,aTZ]at this
 rw[this]
 by_cases d:dgs l
 · rw[aTd d]
   simp only[aTb]
   by_cases c:60<l.length
   · have:¬uG l:=fun h=>by have:=h.2.1;omega
     rw[aTc (by omega),aTe this]
   · rw[aTd (by omega)]
     by_cases z:l.length=0
     · have e:l=[]:=aTq.1 z
       subst e
       rw[aTd (by simp),aTg ⟨aB2,by simp,by simp⟩]
     · rw[aTc (by omega),aJ,aLS l hl z]
       congr 1
       exact decide_eq_decide.2 ⟨fun h=>⟨d,by omega,h⟩,fun h=>h.2.2⟩
 · have:¬uG l:=fun h=>d h.1
   rw[aTc d,aTe this];rfl
theorem aKT:([854775807,223372036,9]:List Int)=aA 9223372036854775807:=by
 have h1:dgs [854775807,223372036,9]:=by intro d hd;simp at hd;omega
 have:=aAB (l:=[854775807,223372036,9]) ⟨h1,by simp⟩
 rw[this];rfl
theorem aKt:∀ (l:List Int),dgs l->l.length<=2->lp (cE l) (0,(l.length:Int)-1)=some (val l:Int)
 | [],_,_=>by
  rw[aK (r:=0) (by unfold cE;simp)];rfl
 | [d],h,_=>by
  rw[mZ]at h
  have s1:cE [d] (0,((0:Nat):Int))=some (.inl (d,-1)):=by
   unfold cE
   simp only[]
   rw[aTd (by omega),aN (by simp)]
   simp only[aTb,aJ,aUt]
   rw[wi (n:=0*1000000000) (by omega),wi (by omega),wi (by omega)]
   simp
  rw[show((([d]:List Int).length:Int)-1)=((0:Nat):Int)by simp,aQ s1,aK (r:=d) (by unfold cE;simp)]
  simp[val] <;> omega
 | [d,e],h,_=>by
  rw[mZ,mZ]at h
  have s1:cE [d,e] (0,((1:Nat):Int))=some (.inl (e,((0:Nat):Int))):=by
   unfold cE
   simp only[]
   rw[aTd (by omega),aN (by simp)]
   simp only[aTb,aJ,aUt,aVf]
   rw[wi (n:=0*1000000000) (by omega),wi (by omega),wi (by omega)]
   simp
  have s2:cE [d,e] (e,((0:Nat):Int))=some (.inl (e*1000000000+d,-1)):=by
   unfold cE
   simp only[]
   rw[aTd (by omega),aN (by simp)]
   simp only[aTb,aJ,aUt]
   rw[wi (n:=e*1000000000) (by omega),wi (by omega),wi (by omega)]
   rfl
  rw[show((([d,e]:List Int).length:Int)-1)=((1:Nat):Int)by simp,aQ s1,aQ s2,aK (r:=e*1000000000+d) (by unfold cE;simp)]
  simp only[val,dD,aVn,aTX]
  congr 1;omega
 | _::_::_::_,_,h=>by simp at h <;> omega
theorem aGH (x:Nat)(h:(aA x).length<=2):oR (aA x)=some ((x:Int),true):=by
 have hx:=uN h
 have hl:=jR (v:=9223372036854775807) (by omega)
 unfold oR
 rw[aGI _ (by omega),aTg (aAC (by omega)),aKT]
 simp only[aTb,aTz]
 rw[aBx _ _ (by omega) (by omega)]
 simp only[aTb,aJ]
 have:¬(0<rU x 9223372036854775807):=by unfold rU;rw[aTd (by omega)];omega
 simp only[this,aVA,aTk,aTD]
 have e:=aKt (aA x) (dR x) h
 rw[cQ]at e
 rw[wi (by omega),e];rfl
theorem aM1:∀ (y x:Nat),(aA x).length<=700->(aA y).length<=700->∃ r,lp kA (aA x,aA y)=some r/\(r=.inl (aA (Nat.gcd x y))\/r=.inr (aA (Nat.gcd x y))):=by
 intro y
 induction y using Nat.strongRecOn with
 | _ y ih =>
  intro x hx hy
  by_cases c:y=0
  · subst c
    rw[Nat.gcd_zero_right]
    refine⟨.inl (aA x),aK ?_,.inl rfl⟩
    unfold kA
    simp[aW]
  · have hy0:(aA y).length≠0:=fun e=>dF c (aTq.1 e)
    by_cases c2:(aA x).length<=2/\(aA y).length<=2
    · refine⟨.inr (aA (Nat.gcd x y)),aK ?_,.inr rfl⟩
      have h1:=uN c2.1
      have h2:=uN c2.2
      have h3:=aJT h1 h2
      have n1:((aA x).length:Int)<3:=by omega
      have n2:((aA y).length:Int)<3:=by omega
      unfold kA
      simp only[n1,n2,aTz,aU8,aTb]
      rw[aTd (by omega),aGH x c2.1,aGH y c2.2]
      simp only[aTb]
      unfold vF
      rw[aKI,aFE]
      simp only[aTb]
      rw[aAT _ (by omega)];rfl
    · have s1:kA (aA x,aA y)=some (.inl (aA y,aA (x % y))):=by
       unfold kA
       simp only[]
       have:((if((aA x).length:Int)<3 then some (decide (((aA y).length:Int)<3))else some false):Option Bool)=some false:=by
        by_cases c1:(aA x).length<=2
        · have c2:¬(aA y).length<=2:=fun h=>c2 ⟨c1,h⟩
          rw[aTd (by omega),aTe (by omega)]
        · rw[aTc (by omega)]
       rw[aTd (by omega),this]
       simp only[aTb,aTk,aTD]
       rw[aGc x y (by omega) hx hy];rfl
      rw[aQ s1,aGj x y]
      exact ih (x % y) (aUW _ (by omega)) y hy (by have:=aLY x (y:=y) (by omega);omega)
theorem aJK (x y:Nat)(hx:(aA x).length<=700)(hy:(aA y).length<=700):pM (aA x) (aA y)=some (aA (Nat.gcd x y)):=by
 unfold pM
 obtain⟨r,e1,e2⟩:=aM1 y x hx hy
 rw[aM (by simp;omega),aM (by simp;omega)]
 simp only[aTb,aJ,aTi]
 rw[e1]
 rcases e2 with rfl | rfl <;> rfl
/- Whole numbers and fractions; both programs. -/
def wQ (x:BigInt):Prop:=uG x.fMag/\(x.fNeg=true->x.fMag≠[])
instance (x:BigInt):Decidable (wQ x):=by unfold wQ;infer_instance
theorem aPG (x:BigInt)(h:x.fMag.length<=4294967296):rR x=some (decide (wQ x)):=by
 unfold rR
 rw[aKj _ h]
 simp only[aTb]
 by_cases c:uG x.fMag
 · rw[aTg c]
   simp only[aTz]
   cases hn:x.fNeg with
   | true =>
    simp only[aTz]
    by_cases e:x.fMag=[]
    · rw[aTe (fun g:wQ x=>g.2 hn e),e];rfl
    · have:x.fMag.length≠0:=fun g=>e (aTq.1 g)
      have hb:wQ x:=⟨c,fun _=>e⟩
      rw[aTg hb,aTe (by omega)];rfl
   | false =>
    have hb:wQ x:=⟨c,fun g=>by rw[hn]at g;cases g⟩
    rw[aTg hb];rfl
 · rw[aTe c,aTe (fun g:wQ x=>c g.1)];rfl
theorem aPF (x:BigInt)(h:x.fMag.length<=4294967296):rF x=some (decide (wQ x)):=by
 unfold rF
 rw[aGI _ h]
 simp only[aTb]
 by_cases c:uG x.fMag
 · rw[aTg c]
   simp only[aTz]
   cases hn:x.fNeg with
   | true =>
    simp only[aTz]
    by_cases e:x.fMag=[]
    · rw[aTe (fun g:wQ x=>g.2 hn e),e];rfl
    · have:x.fMag.length≠0:=fun g=>e (aTq.1 g)
      have hb:wQ x:=⟨c,fun _=>e⟩
      rw[aTg hb,aTg (by omega)]
   | false =>
    have hb:wQ x:=⟨c,fun g=>by rw[hn]at g;cases g⟩
    rw[aTg hb];rfl
 · rw[aTe c,aTe (fun g:wQ x=>c g.1)];rfl
def aPa (x:BigInt):Int:=if x.fNeg=true then -(val x.fMag:Int)else(val x.fMag:Int)
theorem aGz (x:BigInt):(aPa x).natAbs=val x.fMag:=by unfold aPa;split <;> omega
theorem aRL {x:BigInt}(h:wQ x):x=big (aPa x):=by
 obtain⟨neg,mag⟩:=x
 unfold big
 rw[aGz]
 have e:=nM h.1
 simp only[]at e ⊢
 rw[<- e]
 congr 1
 unfold aPa
 cases neg with
 | true =>
  have:val mag≠0:=fun z=>h.2 rfl (by simp only[]at e ⊢;rw[e,z,aW])
  simp only[aTz]
  rw[aTg (by omega)]
 | false=>simp
theorem aET (n m:Int):((!(decide (n<0) == decide (m<0)))&&decide (n.natAbs*m.natAbs≠0))=decide (n*m<0):=by
 rw[<- aUE]
 rcases Int.lt_trichotomy n 0 with h1 | h1 | h1
 · rcases Int.lt_trichotomy m 0 with h2 | h2 | h2
   · have:=Int.mul_pos_of_neg_of_neg h1 h2
     rw[aTg h1,aTg h2,aTe (show ¬n*m<0 by omega)];rfl
   · subst h2;simp
   · have:=aVx h1 h2
     rw[aTg h1,aTe (show ¬m<0 by omega),aTg (show(n*m).natAbs≠0 by omega),aTg this];rfl
 · subst h1;simp
 · rcases Int.lt_trichotomy m 0 with h2 | h2 | h2
   · have:=Int.mul_neg_of_pos_of_neg h1 h2
     rw[aTe (show ¬n<0 by omega),aTg h2,aTg (show(n*m).natAbs≠0 by omega),aTg this];rfl
   · subst h2;simp
   · have:=Int.mul_pos h1 h2
     rw[aTe (show ¬n<0 by omega),aTe (show ¬m<0 by omega),aTe (show ¬n*m<0 by omega)];rfl
theorem aAQ (n:Int):(big n).fMag=aA n.natAbs:=rfl
theorem aAP (n:Int):(big n).fNeg=decide (n<0):=rfl
def bl (n:Int):Nat:=(aA n.natAbs).length
theorem aAO (n m:Int):bl (n*m)<=bl n+bl m:=by unfold bl;rw[aUE];exact dV _ _
theorem aLi (n m:Int):bl (n+m)<=max (bl n) (bl m)+1:=by
 unfold bl
 exact aTr (fJ (Int.natAbs_add_le n m) (aTn _)) (aGr _ _)
theorem aRK (n:Int):bl (-n)=bl n:=by unfold bl;rw[Int.natAbs_neg]
theorem yD (n m:Int)(hn:bl n<=60)(hm:bl m<=60)(h:bl (n*m)<=60):iQ (big n) (big m)=some (big (n*m)):=by
 unfold iQ
 unfold bl at *
 rw[aUE]at h
 simp only[big]
 rw[(oG n.natAbs m.natAbs (by omega) (by omega)).2]
 simp only[aTb]
 rw[vA _ _ h]
 simp only[aTb]
 rw[aET,aUE]
theorem aHB (n:Int)(d:Nat)(h:(aA (n.natAbs*d)).length<=60):cK (decide (n<0)) (aA (n.natAbs*d))=some (big (n*d)):=by
 rw[qM _ _ h]
 have:=aET n (d:Int)
 rw[aTe (show ¬((d:Int)<0)by omega)]at this
 simp only[aUb]at this
 unfold big
 rw[<- this]
 simp only[aUE,aUb]
 congr 2
 cases decide (n<0) <;> rfl
theorem aMm (n m:Int)(h:(decide (n<0) == decide (m<0))=true):(n+m).natAbs=n.natAbs+m.natAbs/\(decide (n<0)&&decide ((n+m).natAbs≠0))=decide (n+m<0):=by
 by_cases c1:n<0
 · by_cases c2:m<0
   · refine⟨by omega,?_⟩
     rw[aTg c1,aTg (by omega),aTg (by omega)];rfl
   · simp[c1,c2]at h
 · by_cases c2:m<0
   · simp[c1,c2]at h
   · refine⟨by omega,?_⟩
     rw[aTe c1,aTe (show ¬(n+m<0)by omega)];rfl
theorem aE3 (n m:Int)(h:¬(decide (n<0) == decide (m<0))=true)(hle:m.natAbs<=n.natAbs):(n+m).natAbs=n.natAbs-m.natAbs/\(decide (n<0)&&decide ((n+m).natAbs≠0))=decide (n+m<0):=by
 by_cases c1:n<0
 · by_cases c2:m<0
   · simp[c1,c2]at h
   · refine⟨by omega,?_⟩
     rw[aTg c1,aVT]
     exact decide_eq_decide.2 (by omega)
 · by_cases c2:m<0
   · refine⟨by omega,?_⟩
     rw[aTe c1,aTe (show ¬(n+m<0)by omega)];rfl
   · simp[c1,c2]at h
theorem aPb (n m:Int)(hn:bl n<=60)(hm:bl m<=60)(h:bl (n+m)<=60):wD (big n) (big m)=some (big (n+m)):=by
 unfold wD
 unfold bl at *
 by_cases c:(decide (n<0) == decide (m<0))=true
 · obtain⟨e1,e2⟩:=aMm n m c
   rw[aTd (show((big n).fNeg == (big m).fNeg)=true from c)]
   simp only[aAQ,aAP]
   rw[aOq _ _ (by omega) (by omega)]
   simp only[aTb]
   rw[<- e1,vA _ _ h,e2];rfl
 · rw[aTc (show ¬((big n).fNeg == (big m).fNeg)=true from c)]
   simp only[aAQ,aAP]
   rw[aFQ _ _ (by omega) (by omega)]
   simp only[aTb]
   by_cases c2:m.natAbs<=n.natAbs
   · obtain⟨e1,e2⟩:=aE3 n m c c2
     have c3:0<=rU n.natAbs m.natAbs:=by unfold rU;rw[aTc (by omega)];split <;> omega
     rw[aTd c3,(zX _ _ (by omega) c2).2]
     simp only[aTb]
     rw[<- e1,vA _ _ h,e2];rfl
   · obtain⟨e1,e2⟩:=aE3 m n (by rw[Bool.beq_comm];exact c) (by omega)
     have c3:¬0<=rU n.natAbs m.natAbs:=by unfold rU;rw[aTd (by omega)];omega
     rw[aTc c3,(zX _ _ (by omega) (by omega)).2]
     simp only[aTb]
     rw[<- e1,Int.add_comm m n]at *
     rw[vA _ _ h,e2];rfl
theorem aJJ (n m:Int)(hn:bl n<=60)(hm:bl m<=60)(h:bl (n+m)<=60):sO (big n) (big m)=some (big (n+m)):=by
 unfold sO
 unfold bl at *
 by_cases c:(decide (n<0) == decide (m<0))=true
 · obtain⟨e1,e2⟩:=aMm n m c
   rw[aTd (show((big n).fNeg == (big m).fNeg)=true from c)]
   simp only[aAQ,aAP]
   rw[aJL _ _ (by omega) (by omega)]
   simp only[aTb]
   rw[<- e1,qM _ _ h,e2];rfl
 · rw[aTc (show ¬((big n).fNeg == (big m).fNeg)=true from c)]
   simp only[aAQ,aAP]
   rw[aBx _ _ (by omega) (by omega)]
   simp only[aTb]
   by_cases c2:m.natAbs<=n.natAbs
   · obtain⟨e1,e2⟩:=aE3 n m c c2
     have c3:0<=rU n.natAbs m.natAbs:=by unfold rU;rw[aTc (by omega)];split <;> omega
     rw[aTd c3,(zX _ _ (by omega) c2).1]
     simp only[aTb]
     rw[<- e1,qM _ _ h,e2];rfl
   · obtain⟨e1,e2⟩:=aE3 m n (by rw[Bool.beq_comm];exact c) (by omega)
     have c3:¬0<=rU n.natAbs m.natAbs:=by unfold rU;rw[aTd (by omega)];omega
     rw[aTc c3,(zX _ _ (by omega) (by omega)).1]
     simp only[aTb]
     rw[<- e1,Int.add_comm m n]at *
     rw[qM _ _ h,e2];rfl
def nH:Rat:=Rat.mk (BigInt.mk false []) []
def mkR (s:Bool)(x y:Nat):Rat :=
 if y=0 then nH else if 24<(aA (x / Nat.gcd x y)).length\/24<(aA (y / Nat.gcd x y)).length then nH
 else⟨⟨s&&decide (x / Nat.gcd x y≠0),aA (x / Nat.gcd x y)⟩,aA (y / Nat.gcd x y)⟩
theorem aPH:bG nH<=48:=by decide
theorem aMe {x y:Nat}(hx:(aA x).length<=700)(hy:(aA y).length<=700):(aA (Nat.gcd x y)).length<=700:=by
 by_cases c:x=0
 · subst c;rw[Nat.gcd_zero_left];exact hy
 · exact aTr (fJ (Nat.gcd_le_left y (aUS c)) (aTn _)) hx
theorem aDM (s t:Bool)(x y:Nat)(hx:(aA x).length<=60)(hy:(aA y).length<=60):nR ⟨s,aA x⟩ ⟨t,aA y⟩=some (mkR (!(s == t)) x y):=by
 unfold nR mkR
 simp only[]
 by_cases c:y=0
 · rw[aTd c,aTd (by rw[c,aW];rfl)];rfl
 · have hl:(aA y).length≠0:=fun e=>dF c (aTq.1 e)
   have hg:=aMe (x:=x) (y:=y) (by omega) (by omega)
   have hg0:0<Nat.gcd x y:=aVB x (aUS c)
   rw[aTc c,aTc (by omega),aJu x y (by omega) (by omega)]
   simp only[aTb]
   rw[aFP x _ hg0 (by omega) hg,aFP y _ hg0 (by omega) hg]
   simp only[aTb]
   have l1:=aQj x (Nat.gcd x y)
   by_cases c1:24<(aA (x / Nat.gcd x y)).length
   · rw[aTd (by omega),aTd (.inl c1)];rfl
   · rw[aTc (by omega)]
     by_cases c2:24<(aA (y / Nat.gcd x y)).length
     · rw[aTd (.inr c2),aTg (by omega)];rfl
     · rw[aTc (by omega),aTe (by omega)]
       simp only[aTb,aTk,aTD]
       rw[vA _ _ (by omega)];rfl
theorem kD:([1]:List Int)=aA 1:=by rw[qS (by rw[dD];omega) (by omega)];rfl
theorem aHT (x:Nat):iG (aA x)=some (decide (x=1)):=by
 unfold iG
 by_cases c:x=1
 · subst c;rw[<- kD];simp[idx]
 · rw[aTe c]
   by_cases h:(aA x).length=1
   · have hx:x<BB:=by have:=oY x;rw[h,aUA]at this;exact this
     have h0:x≠0:=by rintro rfl;rw[aW]at h;simp at h
     rw[aTd (by omega),show(0:Int)=((0:Nat):Int)from rfl,aN (by omega)]
     simp only[qS hx h0,aUt,aTb]
     rw[aTe (by omega)]
   · rw[aTc (by omega)]
theorem aDn (s:Bool)(x y:Nat)(hx:(aA x).length<=60)(hy:(aA y).length<=60):nD s (aA x) (aA y)=some (mkR s x y):=by
 unfold nD mkR
 rw[aAq (dR x) (by omega),aAq (dR y) (by omega),cQ,cQ]
 simp only[aTb]
 by_cases c:y=0
 · rw[aTd c,aTd (by rw[c,aW];rfl)];rfl
 · have hl:(aA y).length≠0:=fun e=>dF c (aTq.1 e)
   have hg:=aMe (x:=x) (y:=y) (by omega) (by omega)
   have hg0:0<Nat.gcd x y:=aVB x (aUS c)
   rw[aTc c,aTc (by omega),aHT]
   simp only[aTb]
   have key:((if decide (y=1)=true then some (aA x,aA y)else(pM (aA x) (aA y)).bind fun r4=>(iG r4).bind fun r5=>(if r5=true then some (aA x,aA y)else(lE (aA x) r4).bind fun r6=>(lE (aA y) r4).bind fun r7=>some (r6.1,r7.1))):Option ((List Int)×(List Int)))=some (aA (x / Nat.gcd x y),aA (y / Nat.gcd x y)):=by
    by_cases c1:y=1
    · rw[aTg c1,aTd rfl,c1,Nat.gcd_one_right,Nat.div_one,Nat.div_one]
    · rw[aTe c1,aTc (by simp),aJK x y (by omega) (by omega)]
      simp only[aTb]
      rw[aHT]
      simp only[aTb]
      by_cases c2:Nat.gcd x y=1
      · rw[aTg c2,aTd rfl,c2,Nat.div_one,Nat.div_one]
      · rw[aTe c2,aTc (by simp),aGc x _ hg0 (by omega) hg,aGc y _ hg0 (by omega) hg];rfl
   rw[key]
   simp only[aTb]
   by_cases c1:24<(aA (x / Nat.gcd x y)).length
   · rw[aTd (by omega),aTd (.inl c1)];rfl
   · rw[aTc (by omega)]
     by_cases c2:24<(aA (y / Nat.gcd x y)).length
     · rw[aTd (.inr c2),aTg (by omega)];rfl
     · rw[aTc (by omega),aTe (by omega)]
       simp only[aTb,aTk,aTD]
       rw[qM _ _ (by omega)]
       simp only[aTb]
       rw[aM (by simp;omega)]
       simp only[aTb,aJ,aTi]
def bD (r:Rat):Prop:=wQ r.fNum/\uG r.fDen/\r.fDen≠[]/\r.fDen.length<=24/\r.fNum.fMag.length<=24/\Nat.gcd (val r.fNum.fMag) (val r.fDen)=1
instance (r:Rat):Decidable (bD r):=by unfold bD;infer_instance
theorem aNX (r:Rat)(h:bG r<=4294967296):r.fNum.fMag.length<=4294967296/\r.fDen.length<=4294967296:=by
 unfold bG uL xE at h
 simp only[tC]at h;omega
theorem aAm (r:Rat)(h:bG r<=4294967296):kM r=some (decide (bD r)):=by
 obtain⟨h1,h2⟩:=aNX r h
 unfold kM
 rw[aPG _ h1]
 simp only[aTb]
 by_cases c1:wQ r.fNum
 · rw[aTg c1,aTd rfl,aKj _ h2]
   simp only[aTb]
   by_cases c2:uG r.fDen
   · rw[aTg c2,aTd rfl]
     simp only[aTb]
     by_cases c3:r.fDen=[]
     · rw[aTe (fun g:bD r=>g.2.2.1 c3),aTg (by rw[c3];rfl)];rfl
     · have hn:r.fDen.length≠0:=fun e=>c3 (aTq.1 e)
       rw[aTe (show ¬((r.fDen.length:Int)=0)by omega)]
       simp only[aTk,aTD]
       by_cases c4:24<r.fNum.fMag.length
       · rw[aTd (by omega),aTe (fun g:bD r=>by have:=g.2.2.2.2.1;omega)];rfl
       · rw[aTc (by omega)]
         by_cases c5:24<r.fDen.length
         · rw[aTg (show(24:Int)<r.fDen.length by omega),aTe (fun g:bD r=>by have:=g.2.2.2.1;omega)];rfl
         · rw[aTe (show ¬(24:Int)<r.fDen.length by omega)]
           simp only[aTb,aTk,aTD]
           have e1:=nM c1.1
           have e2:=nM c2
           have g:=aJu (val r.fNum.fMag) (val r.fDen) (by rw[<- e1];omega) (by rw[<- e2];omega)
           rw[<- e1,<- e2]at g
           rw[g]
           have o:=aHT (Nat.gcd (val r.fNum.fMag) (val r.fDen))
           unfold iG at o
           simp only[aTb]
           rw[o]
           congr 1
           exact decide_eq_decide.2 ⟨fun q=>⟨c1,c2,c3,by omega,by omega,q⟩,fun q=>q.2.2.2.2.2⟩
   · rw[aTe c2,aTe (fun g:bD r=>c2 g.2.1)];rfl
 · rw[aTe c1,aTe (fun g:bD r=>c1 g.1)];rfl
theorem dS (r:Rat)(h:bG r<=4294967296):bZ r=some (decide (bD r)):=by
 obtain⟨h1,h2⟩:=aNX r h
 unfold bZ
 rw[aPF _ h1]
 simp only[aTb]
 by_cases c1:wQ r.fNum
 · rw[aTg c1,aTd rfl,aGI _ h2]
   simp only[aTb]
   by_cases c2:uG r.fDen
   · rw[aTg c2,aTd rfl]
     by_cases c3:r.fDen=[]
     · rw[aTe (fun g:bD r=>g.2.2.1 c3),aTd (by rw[c3];rfl)];rfl
     · have hn:r.fDen.length≠0:=fun e=>c3 (aTq.1 e)
       rw[aTc (by omega)]
       by_cases c5:24<r.fDen.length
       · rw[aTd (by omega),aTe (fun g:bD r=>by have:=g.2.2.2.1;omega)];rfl
       · rw[aTc (by omega)]
         by_cases c4:24<r.fNum.fMag.length
         · rw[aTg (show(24:Int)<r.fNum.fMag.length by omega),aTe (fun g:bD r=>by have:=g.2.2.2.2.1;omega)];rfl
         · rw[aTe (show ¬(24:Int)<r.fNum.fMag.length by omega)]
           simp only[aTb,aTk,aTD]
           have e1:=nM c1.1
           have e2:=nM c2
           have g:=aJK (val r.fNum.fMag) (val r.fDen) (by rw[<- e1];omega) (by rw[<- e2];omega)
           rw[<- e1,<- e2]at g
           rw[g]
           simp only[aTb]
           rw[aHT]
           simp only[aTb]
           congr 1
           exact decide_eq_decide.2 ⟨fun q=>⟨c1,c2,c3,by omega,by omega,q⟩,fun q=>q.2.2.2.2.2⟩
   · rw[aTe c2,aTe (fun g:bD r=>c2 g.2.1)];rfl
 · rw[aTe c1,aTe (fun g:bD r=>c1 g.1)];rfl
theorem zF {r:Rat}(h:bD r):∃ (n:Int) (d:Nat),r=⟨big n,aA d⟩/\0<d/\bl n<=24/\(aA d).length<=24/\Nat.gcd n.natAbs d=1:=by
 obtain⟨h1,h2,h3,h4,h5,h6⟩:=h
 have e1:=aRL h1
 have e2:=nM h2
 refine⟨aPa r.fNum,val r.fDen,?_,?_,?_,by rw[<- e2];exact h4,by rw[aGz];exact h6⟩
 · rw[<- e1,<- e2]
 · rcases Nat.eq_zero_or_pos (val r.fDen)with z | z
   · rw[z,aW]at e2;exact absurd e2 h3
   · exact z
 · unfold bl;rw[aGz,<- nM h1.1];exact h5
theorem aB4 (d:Nat):(⟨false,aA d⟩:BigInt)=big (d:Int):=by
 unfold big
 rw[aTe (by omega),aUb]
theorem aCJ {n:Int}{d:Nat}(h:0<d):dE ⟨big n,aA d⟩=some true:=by
 unfold dE
 have:(aA d).length≠0:=fun e=>dF (n:=d) (by omega) (aTq.1 e)
 simp only[]
 rw[aTg (by omega)]
def aIO (n:Int)(d:Nat)(m:Int)(e:Nat):Rat:=mkR (decide (n*e+m*d<0)) (n*e+m*d).natAbs (d*e)
theorem aBm (n:Int)(d:Nat)(m:Int)(e:Nat)(hd:0<d)(he:0<e)(h1:bl n<=24)(h2:(aA d).length<=24)(h3:bl m<=24)(h4:(aA e).length<=24):bN ⟨big n,aA d⟩ ⟨big m,aA e⟩=some (aIO n d m e):=by
 unfold bN
 rw[aCJ hd,aCJ he]
 simp only[aTb,aTz,aUh,aTk,aTD,gZ]
 have b1:bl (e:Int)<=24:=by unfold bl;rw[aUb];exact h4
 have b2:bl (d:Int)<=24:=by unfold bl;rw[aUb];exact h2
 have b3:=aAO n e
 have b4:=aAO m d
 have b5:=aLi (n*e) (m*d)
 have b6:=aAO d e
 rw[aB4,aB4,yD n e (by omega) (by omega) (by omega),yD m d (by omega) (by omega) (by omega)]
 simp only[aTb]
 rw[aPb _ _ (by omega) (by omega) (by omega),yD d e (by omega) (by omega) (by omega)]
 simp only[aTb]
 unfold big aIO
 unfold bl at b5 b6 b1 b2 b3 b4 h1 h3
 rw[aDM _ _ _ _ (by omega) (by omega)]
 have:decide ((d:Int)*(e:Int)<0)=false:=aTe (by have:=Int.mul_nonneg (a:=(d:Int)) (b:=(e:Int)) (by omega) (by omega);omega)
 rw[this,aUE,aUb,aUb]
 simp only[aTb]
 congr 2
 cases decide (n*(e:Int)+m*(d:Int)<0) <;> rfl
theorem aOC (n:Int)(d:Nat)(m:Int)(e:Nat)(hd:0<d)(he:0<e)(h1:bl n<=24)(h2:(aA d).length<=24)(h3:bl m<=24)(h4:(aA e).length<=24):pK ⟨big n,aA d⟩ ⟨big m,aA e⟩=some (aIO n d m e):=by
 have b1:bl (e:Int)<=24:=by unfold bl;rw[aUb];exact h4
 have b2:bl (d:Int)<=24:=by unfold bl;rw[aUb];exact h2
 have b3:=aAO n e
 have b4:=aAO m d
 have b5:=aLi (n*e) (m*d)
 have b7:=aLi n m
 have b6:=dV d e
 unfold pK
 simp only[]
 rw[aHT,aHT]
 simp only[aTb]
 have key:((if decide (d=1)=true then some (decide (e=1))else some false):Option Bool)=some (decide (d=1/\e=1)):=by
  by_cases c:d=1 <;> simp[c]
 rw[key]
 simp only[aTb]
 by_cases c:d=1/\e=1
 · rw[aTg c,aTd rfl,aJJ n m (by omega) (by omega) (by omega)]
   simp only[aTb]
   obtain⟨c1,c2⟩:=c
   unfold aIO
   rw[kD]
   unfold bl at b7 h1 h3
   simp only[big]
   rw[aDn _ _ _ (by omega) (by rw[<- kD];simp),c1,c2]
   simp
 · rw[aTe c,aTc (by simp)]
   have p1:(aA (n.natAbs*e)).length<=48:=by have:=dV n.natAbs e;unfold bl at h1;omega
   have p2:(aA (m.natAbs*d)).length<=48:=by have:=dV m.natAbs d;unfold bl at h3;omega
   have q1:cY (big n).fMag (aA e)=some (aA (n.natAbs*e)):=by unfold bl at h1;exact(oG n.natAbs e (by omega) (by omega)).1
   have q2:cY (big m).fMag (aA d)=some (aA (m.natAbs*d)):=by unfold bl at h3;exact(oG m.natAbs d (by omega) (by omega)).1
   have q3:cK (big n).fNeg (aA (n.natAbs*e))=some (big (n*e)):=aHB n e (by omega)
   have q4:cK (big m).fNeg (aA (m.natAbs*d))=some (big (m*d)):=aHB m d (by omega)
   rw[q1]
   simp only[aTb]
   rw[q3]
   simp only[aTb]
   rw[q2]
   simp only[aTb]
   rw[q4]
   simp only[aTb]
   rw[aJJ _ _ (by omega) (by omega) (by omega)]
   simp only[aTb]
   rw[(oG d e (by omega) (by omega)).1]
   simp only[aTb]
   unfold aIO
   unfold bl at b5 b3 b4 h1 h3 b1 b2
   simp only[big]
   rw[aDn _ _ _ (by omega) (by omega)];rfl
/- Fractions: the interface that both programs meet. -/
def VZ (r:Rat):Prop:=bD r\/r=nH
theorem aBc:¬bD nH:=fun h=>h.2.2.1 rfl
theorem aCe:VZ nH:=.inr rfl
theorem nF {r:Rat}(h:VZ r):bG r<=48:=by
 rcases h with h | h
 · unfold bG uL xE
   simp only[tC]
   have h1:=h.2.2.2.1
   have h2:=h.2.2.2.2.1
   omega
 · subst h;exact aPH
theorem aGq {n:Nat}(h:0<n):aA n≠[]:=dF (by omega)
theorem aKS (s:Bool)(x y:Nat):VZ (mkR s x y):=by
 unfold mkR
 by_cases c:y=0
 · rw[aTd c];exact aCe
 · rw[aTc c]
   by_cases c2:24<(aA (x / Nat.gcd x y)).length\/24<(aA (y / Nat.gcd x y)).length
   · rw[aTd c2];exact aCe
   · rw[aTc c2]
     left
     have hg0:0<Nat.gcd x y:=aVB x (aUS c)
     have hy:0<y / Nat.gcd x y:=Nat.div_pos (Nat.gcd_le_right x (aUS c)) hg0
     refine⟨⟨aAC (by omega),fun h=>?_⟩,aAC (by omega),aGq hy,by show(aA (y / Nat.gcd x y)).length<=24;omega,by show(aA (x / Nat.gcd x y)).length<=24;omega,?_⟩
     · simp only[aTB,aUs]at h
       exact dF h.2
     · simp only[cQ]
       have:=Nat.gcd_div (Nat.gcd_dvd_left x y) (Nat.gcd_dvd_right x y)
       rw[this,Nat.div_self hg0]
theorem aEW {s s':Bool}{x y:Nat}(h:x≠0->s=s'):mkR s x y=mkR s' x y:=by
 by_cases c:x=0
 · subst c;unfold mkR;simp
 · rw[h c]
theorem iE {r:Rat}(h:VZ r):dE r=some (decide (bD r)):=by
 unfold dE
 rcases h with h | h
 · have:r.fDen.length≠0:=fun e=>h.2.2.1 (aTq.1 e)
   rw[aTg h,aTg (by omega)]
 · subst h
   rw[aTe aBc];rfl
theorem aDA (r s:Rat)(hr:bG r<=4294967296)(hs:bG s<=4294967296):∃ t,cZ r s=some t/\VZ t/\(VZ r->VZ s->bN r s=some t):=by
 unfold cZ
 rw[dS r hr]
 simp only[aTb]
 by_cases c1:bD r
 · rw[aTg c1,aTd rfl,dS s hs]
   simp only[aTb]
   by_cases c2:bD s
   · rw[aTg c2]
     obtain⟨n,d,e1,e2,e3,e4,_⟩:=zF c1
     obtain⟨m,e,g1,g2,g3,g4,_⟩:=zF c2
     subst e1;subst g1
     simp only[aUh,aTk,aTD]
     have q:=aBm n d m e e2 g2 e3 e4 g3 g4
     rw[aOC n d m e e2 g2 e3 e4 g3 g4]
     exact⟨_,rfl,aKS _ _ _,fun _ _=>q⟩
   · rw[aTe c2]
     refine⟨nH,rfl,aCe,fun v1 v2=>?_⟩
     unfold bN
     rw[iE v1,iE v2,aTg c1,aTe c2];rfl
 · rw[aTe c1]
   refine⟨nH,rfl,aCe,fun v1 v2=>?_⟩
   unfold bN
   rw[iE v1,aTe c1];rfl
def aOr (n:Int)(d:Nat)(m:Int)(e:Nat):Rat:=mkR (!(decide (n<0) == decide (m<0))) (n.natAbs*m.natAbs) (d*e)
theorem aFA (n:Int)(d:Nat)(m:Int)(e:Nat)(hd:0<d)(he:0<e)(h1:bl n<=24)(h2:(aA d).length<=24)(h3:bl m<=24)(h4:(aA e).length<=24):bT ⟨big n,aA d⟩ ⟨big m,aA e⟩=some (aOr n d m e):=by
 unfold bT
 rw[aCJ hd,aCJ he]
 simp only[aTb,aTz,aUh,aTk,aTD,gZ]
 have b1:bl (e:Int)<=24:=by unfold bl;rw[aUb];exact h4
 have b2:bl (d:Int)<=24:=by unfold bl;rw[aUb];exact h2
 have b3:=aAO n m
 have b6:=aAO d e
 rw[yD n m (by omega) (by omega) (by omega),aB4,aB4,yD d e (by omega) (by omega) (by omega)]
 simp only[aTb]
 unfold big aOr
 unfold bl at b6 b1 b2 b3 h1 h3
 rw[aDM _ _ _ _ (by omega) (by omega)]
 have:decide ((d:Int)*(e:Int)<0)=false:=aTe (by have:=Int.mul_nonneg (a:=(d:Int)) (b:=(e:Int)) (by omega) (by omega);omega)
 rw[this,aUE,aUE,aUb,aUb]
 simp only[aTb]
 congr 1
 refine aEW fun hx=>?_
 have q:=aET n m
 rw[aTg hx,Bool.and_true]at q
 rw[<- q]
 cases decide (n<0) <;> cases decide (m<0) <;> rfl
theorem aOB (n:Int)(d:Nat)(m:Int)(e:Nat)(h1:bl n<=24)(h2:(aA d).length<=24)(h3:bl m<=24)(h4:(aA e).length<=24):vQ ⟨big n,aA d⟩ ⟨big m,aA e⟩=some (aOr n d m e):=by
 unfold bl at h1 h3
 have b1:=dV n.natAbs m.natAbs
 have b2:=dV d e
 unfold vQ
 simp only[big]
 rw[(oG _ _ (by omega) (by omega)).1]
 simp only[aTb]
 rw[(oG _ _ (by omega) (by omega)).1]
 simp only[aTb]
 rw[aDn _ _ _ (by omega) (by omega)]
 rfl
theorem aPl (r s:Rat)(hr:bG r<=4294967296)(hs:bG s<=4294967296):∃ t,dP r s=some t/\VZ t/\(VZ r->VZ s->bT r s=some t):=by
 unfold dP
 rw[dS r hr]
 simp only[aTb]
 by_cases c1:bD r
 · rw[aTg c1,aTd rfl,dS s hs]
   simp only[aTb]
   by_cases c2:bD s
   · rw[aTg c2]
     obtain⟨n,d,e1,e2,e3,e4,_⟩:=zF c1
     obtain⟨m,e,g1,g2,g3,g4,_⟩:=zF c2
     subst e1;subst g1
     simp only[aUh,aTk,aTD]
     rw[aOB n d m e e3 e4 g3 g4]
     exact⟨_,rfl,aKS _ _ _,fun _ _=>aFA n d m e e2 g2 e3 e4 g3 g4⟩
   · rw[aTe c2]
     refine⟨nH,rfl,aCe,fun v1 v2=>?_⟩
     unfold bT
     rw[iE v1,iE v2,aTg c1,aTe c2];rfl
 · rw[aTe c1]
   refine⟨nH,rfl,aCe,fun v1 v2=>?_⟩
   unfold bT
   rw[iE v1,aTe c1];rfl
def wV (r:Rat):Int:=if bD r then(if r.fNum.fMag=[]then 0 else if r.fNum.fNeg=true then -1 else 1)else 0
theorem aAa {r:Rat}(h:0<wV r):bD r:=by
 unfold wV at h
 by_cases c:bD r
 · exact c
 · rw[aTc c]at h;omega
theorem aAl (r:Rat)(hr:bG r<=4294967296):lF r=some (wV r)/\nU r=some (wV r):=by
 unfold lF nU wV
 rw[aAm r hr,dS r hr]
 simp only[aTb]
 by_cases c1:bD r
 · rw[aTg c1,aTd c1,aTd rfl,aTd rfl]
   unfold nQ
   rw[iE (.inl c1),aTg c1]
   simp only[aTb,aTz]
   by_cases c2:r.fNum.fMag=[]
   · rw[aTd c2,aTg (by rw[c2];rfl)];exact⟨rfl,rfl⟩
   · have:r.fNum.fMag.length≠0:=fun e=>c2 (aTq.1 e)
     rw[aTc c2,aTe (by omega)]
     simp only[aTk,aTD]
     cases r.fNum.fNeg <;> exact⟨rfl,rfl⟩
 · rw[aTe c1,aTc c1];exact⟨rfl,rfl⟩
theorem aQR (a b:List Int)(h:a.length<=4294967296):qD a b=some (decide (a=b)):=by
 unfold qD
 by_cases c:a.length=b.length
 · rw[aTc (by omega)]
   have main:∀ m k:Nat,m+k=a.length->lp (jF a b) (k:Int)=some (if a.drop k=b.drop k then .inl ()else .inr false):=by
    intro m
    induction m with
    | zero =>
     intro k hk
     rw[aTd (by rw[aTE (by omega),aTE (by omega)])]
     exact aK (by unfold jF;rw[aTc (by omega)])
    | succ m ih =>
     intro k hk
     have h1:k<a.length:=by omega
     have h2:k<b.length:=by omega
     by_cases e:a[k]=b[k]
     · have s1:jF a b (k:Int)=some (.inl ((k+1:Nat):Int)):=by
        unfold jF
        rw[aTd (by omega),aN h1,aN h2,wi (by omega)];simp[e]
       rw[aQ s1,ih (k+1) (by omega)]
       have:a.drop k=b.drop k↔a.drop (k+1)=b.drop (k+1):=by
        rw[aTh h1,aTh h2,List.cons.injEq]
        exact⟨fun h=>h.2,fun h=>⟨e,h⟩⟩
       simp only[this]
     · have:¬a.drop k=b.drop k:=by
        rw[aTh h1,aTh h2,List.cons.injEq]
        exact fun h=>e h.1
       rw[aTc this]
       refine aK ?_
       unfold jF
       rw[aTd (by omega),aN h1,aN h2];simp[e]
   have:=main a.length 0 (by omega)
   rw[show((0:Nat):Int)=0 from rfl,aTZ,aTZ]at this
   rw[this]
   by_cases e:a=b
   · simp[e]
   · simp[e]
 · rw[aTd (by omega),aTe (fun e=>c (by rw[e]))]
theorem aG0:lZ=lU:=rfl
theorem aLp (r s:Rat)(hr:bG r<=4294967296):∃ b,lU r s=some b:=by
 obtain⟨h1,h2⟩:=aNX r hr
 unfold lU
 rw[aQR _ _ h1,aQR _ _ h2]
 simp only[aTb]
 split
 · split
   · exact⟨_,rfl⟩
   · exact⟨_,rfl⟩
 · exact⟨_,rfl⟩
theorem xJ (n:Int)(h:-9223372036854775808<=n/\n<=9223372036854775807):bD (dN n):=by
 have hl:=jR (v:=n.natAbs) (by omega)
 unfold dN
 rw[kD]
 refine⟨⟨aAC (by omega),fun hn=>?_⟩,aAC (by rw[<- kD];simp),aGq (by omega),by rw[<- kD];simp,by show(aA n.natAbs).length<=24;omega,?_⟩
 · simp only[big,aUs]at hn
   exact dF (by omega)
 · simp only[cQ,Nat.gcd_one_right]
/- Is a number in a list. -/
theorem aBD (l:List Int)(n:Int)(h:l.length<=4294967296):fS l n=some (decide (n∈l)):=by
 have main:∀ m k:Nat,m+k=l.length->lp (kL l n) (k:Int)=some (if n∈l.drop k then .inr true else .inl ()):=by
  intro m
  induction m with
  | zero =>
   intro k hk
   have:k=l.length:=by omega
   subst this
   rw[aK (r:=.inl ()) (by unfold kL;rw[aTc (by omega)]),aUo];simp
  | succ m ih =>
   intro k hk
   have hlt:k<l.length:=by omega
   rw[aTh hlt]
   by_cases c:l[k]=n
   · rw[aK (r:=.inr true) (by unfold kL;rw[aTd (by omega),aN hlt];simp[c]),aTd (by simp[c])]
   · have e:kL l n (k:Int)=some (.inl ((k:Int)+1)):=by
      unfold kL;rw[aTd (by omega),aN hlt,wi (by omega)];simp[c]
     rw[aQ e,show(k:Int)+1=((k+1:Nat):Int)by omega,ih (k+1) (by omega)]
     have:(n∈l[k]::l.drop (k+1))↔n∈l.drop (k+1):=by
      rw[aTf];exact⟨fun h=>h.resolve_left (fun e=>c e.symm),.inr⟩
     simp only[this]
 have:=main l.length 0 (by omega)
 rw[show((0:Nat):Int)=0 from rfl,aTZ]at this
 unfold fS
 rw[this]
 by_cases c:n∈l <;> simp[c]
theorem aDm (l:List Int)(n:Int)(h:l.length<=4294967296):sN l n=some (decide (n∈l)):=aBD l n h
/- Conditionals and nets, both programs. -/
theorem aJQ (a:Int):qA a=some (decide (0<=a/\a<=9)):=by
 unfold qA
 by_cases h:0<=a
 · rw[aTd h];congr 1;rw[decide_eq_decide];omega
 · rw[aTc h,aTe (by omega)]
theorem aB0 (a:Int):jL a=some (decide (0<=a/\a<=9)):=by
 unfold jL
 rw[aAH];rfl
def aFG (c:Conditional)(k:Nat)(p:Parent):Prop:=(0<=p.fNode/\p.fNode<=9)/\p.fNode≠c.fNode/\(∀ q,0<k->c.fParents[k-1]?=some q->q.fNode<p.fNode)/\0<wV p.fShare/\bD p.fDX/\bD p.fDY
theorem aQK {c:Conditional}(h:aX c<=4294967296){k:Nat}(hk:k<c.fParents.length):bG (c.fParents[k]).fShare<=4294967296/\bG (c.fParents[k]).fDX<=4294967296/\bG (c.fParents[k]).fDY<=4294967296:=by
 unfold aX pF at h
 have:=tB (w:=nI) (aTv hk)
 have e:nI c.fParents[k]=bG (c.fParents[k]).fShare+bG (c.fParents[k]).fDX+bG (c.fParents[k]).fDY:=rfl
 omega
theorem aIt {c:Conditional}(h:aX c<=4294967296):c.fParents.length<=4294967296/\bG c.fTotal<=4294967296:=by
 unfold aX pF at h
 have:=nJ nI c.fParents
 omega
theorem aKo (c:Conditional)(h:aX c<=4294967296):∀ m k:Nat,m+k=c.fParents.length->∀ s:Rat,VZ s->
 ∃ r,lp (aY c) ((k:Int),s)=some r/\lp (cA c) ((k:Int),s)=some r/\
  (match r with | .inl v=>VZ v/\∀ j (hj:j<c.fParents.length),k<=j->aFG c j c.fParents[j] | .inr b=>b=false):=by
 have hl:=(aIt h).1
 intro m
 induction m with
 | zero =>
  intro k hk s hs
  refine⟨.inl s,aK ?_,aK ?_,hs,fun j hj hkj=>by omega⟩
  · unfold aY;simp only[];rw[aTc (by omega)]
  · unfold cA;simp only[];rw[aTc (by omega)]
 | succ m ih =>
  intro k hk s hs
  have hlt:k<c.fParents.length:=by omega
  obtain⟨z1,z2,z3⟩:=aQK h hlt
  obtain⟨g1,g2⟩:=aAl _ z1
  have a1:=aAm _ z2
  have a2:=aAm _ z3
  have b1:=dS _ z2
  have b2:=dS _ z3
  obtain⟨t,t1,t3,t4⟩:=aDA s (c.fParents[k]).fShare (by have:=nF hs;omega) z1
  have step:(aFG c k c.fParents[k]->aY c ((k:Int),s)=some (.inl (((k+1:Nat):Int),t))/\cA c ((k:Int),s)=some (.inl (((k+1:Nat):Int),t)))/\
   (¬aFG c k c.fParents[k]->aY c ((k:Int),s)=some (.inr (.inr false))/\cA c ((k:Int),s)=some (.inr (.inr false))):=by
   have w1:IntKind.i64.wrap ((k:Int)+1)=((k+1:Nat):Int):=by rw[wi (by omega)];omega
   have hin:(k:Int)<(c.fParents.length:Int):=by omega
   unfold aY cA
   simp only[hin,aTz,aN hlt,aTb,aJQ,aB0,g1,g2,a1,a2,b1,b2,t1,w1]
   by_cases A:0<=(c.fParents[k]).fNode/\(c.fParents[k]).fNode<=9
   · by_cases B:(c.fParents[k]).fNode=c.fNode
     · refine⟨fun g=>absurd B g.2.1,fun _=>?_⟩
       simp[A,B]
     · by_cases D:0<wV (c.fParents[k]).fShare
       · have D':¬wV (c.fParents[k]).fShare<=0:=by omega
         have t5:=t4 hs (.inl (aAa D))
         by_cases K:0<k
         · have hlt2:k-1<c.fParents.length:=by omega
           have w2:IntKind.i64.wrap ((k:Int)-1)=((k-1:Nat):Int):=by rw[wi (by omega)];omega
           have K':(0:Int)<(k:Int):=by omega
           simp only[A,B,K',D',w2,aN hlt2,and_self,aU8,aTz,aTD,aTb]
           by_cases C:(c.fParents[k]).fNode<=(c.fParents[k-1]).fNode
           · refine⟨fun g=>?_,fun _=>?_⟩
             · have:=g.2.2.1 (c.fParents[k-1]) K (by rw[aTl hlt2]);omega
             · simp[C]
           · by_cases E:bD (c.fParents[k]).fDX
             · by_cases F:bD (c.fParents[k]).fDY
               · refine⟨fun _=>?_,fun g=>absurd ⟨A,B,fun q _ hq=>?_,D,E,F⟩ g⟩
                 · simp[C,E,F,t5]
                 · rw[aTl hlt2]at hq;cases hq;omega
               · refine⟨fun g=>absurd g.2.2.2.2.2 F,fun _=>?_⟩
                 simp[C,E,F]
             · refine⟨fun g=>absurd g.2.2.2.2.1 E,fun _=>?_⟩
               simp[C,E]
         · have K':¬(0:Int)<(k:Int):=by omega
           simp only[A,B,K',D',and_self,aU8,aTz,aTD,aTb]
           by_cases E:bD (c.fParents[k]).fDX
           · by_cases F:bD (c.fParents[k]).fDY
             · refine⟨fun _=>?_,fun g=>absurd ⟨A,B,fun q hq _=>absurd hq K,D,E,F⟩ g⟩
               simp[E,F,t5]
             · refine⟨fun g=>absurd g.2.2.2.2.2 F,fun _=>?_⟩
               simp[E,F]
           · refine⟨fun g=>absurd g.2.2.2.2.1 E,fun _=>?_⟩
             simp[E]
       · have D':wV (c.fParents[k]).fShare<=0:=by omega
         refine⟨fun g=>absurd g.2.2.2.1 D,fun _=>?_⟩
         by_cases K:0<k
         · have hlt2:k-1<c.fParents.length:=by omega
           have w2:IntKind.i64.wrap ((k:Int)-1)=((k-1:Nat):Int):=by rw[wi (by omega)];omega
           have K':(0:Int)<(k:Int):=by omega
           simp only[A,B,K',D',w2,aN hlt2,and_self,aU8,aTz,aTD,aTb]
           by_cases C:(c.fParents[k]).fNode<=(c.fParents[k-1]).fNode <;> simp[C]
         · have K':¬(0:Int)<(k:Int):=by omega
           simp only[A,B,K',D',and_self,aU8,aTz,aTD,aTb]
           simp
   · refine⟨fun g=>absurd g.1 A,fun _=>?_⟩
     simp[A]
  by_cases G:aFG c k c.fParents[k]
  · obtain⟨s1,s2⟩:=step.1 G
    rw[aQ s1,aQ s2]
    obtain⟨r,e1,e2,e3⟩:=ih (k+1) (by omega) t t3
    refine⟨r,e1,e2,?_⟩
    cases r with
    | inl v =>
     refine⟨e3.1,fun j hj hkj=>?_⟩
     by_cases e:j=k
     · subst e;exact G
     · exact e3.2 j hj (by omega)
    | inr b=>exact e3
  · obtain⟨s1,s2⟩:=step.2 G
    exact⟨.inr false,aK s1,aK s2,rfl⟩
theorem yT:VZ (dN 0):=.inl (xJ 0 (by omega))
theorem aIR (c:Conditional)(h:aX c<=4294967296):∃ b,bA c=some b/\cX c=some b/\(b=true->(1<=c.fNode/\c.fNode<=9)/\∀ j (hj:j<c.fParents.length),aFG c j c.fParents[j]):=by
 obtain⟨hl,hT⟩:=aIt h
 obtain⟨g1,g2⟩:=aAl _ hT
 obtain⟨r,e1,e2,e3⟩:=aKo c h c.fParents.length 0 (by omega) (dN 0) yT
 rw[show((0:Nat):Int)=0 from rfl]at e1 e2
 unfold bA cX
 rw[bV 0 (by omega),cO 0 (by omega),bV 1 (by omega),cO 1 (by omega)]
 simp only[aTb,e1,e2,g1,g2,aAH]
 by_cases A:1<=c.fNode/\c.fNode<=9
 · have A1:¬c.fNode<1:=by omega
   have A2:¬10<=c.fNode:=by omega
   by_cases B:0<wV c.fTotal
   · have B':¬wV c.fTotal<=0:=by omega
     by_cases D:c.fParents.length=0
     · have D1:¬(0:Int)<(c.fParents.length:Int):=by omega
       have D2:(c.fParents.length:Int)=0:=by omega
       refine⟨false,?_,?_,fun h=>by cases h⟩
       · cases r with
         | inl v=>simp only[A,B,D1,and_self,aU8,aTz,aTD,aTb]
         | inr b=>simp only[]at e3;subst e3;rfl
       · simp[A1,A2,B',D2]
     · have D1:(0:Int)<(c.fParents.length:Int):=by omega
       have D2:¬(c.fParents.length:Int)=0:=by omega
       cases r with
       | inl v =>
        obtain⟨b,hb⟩:=aLp v (dN 1) (by have:=nF e3.1;omega)
        refine⟨b,?_,?_,fun _=>⟨A,fun j hj=>e3.2 j hj (by omega)⟩⟩
        · simp only[A,B,D1,hb,and_self,aU8,aTz,aTD,aTb]
        · rw[aG0];simp only[A1,A2,B',D2,hb,aVA,aTz,aTD,aTb,aTk]
       | inr b =>
        simp only[]at e3;subst e3
        refine⟨false,rfl,?_,fun h=>by cases h⟩
        simp[A1,A2,B',D2]
   · have B':wV c.fTotal<=0:=by omega
     refine⟨false,?_,?_,fun h=>by cases h⟩
     · cases r with
       | inl v=>simp[A,B]
       | inr b=>simp only[]at e3;subst e3;rfl
     · simp[A1,A2,B']
 · refine⟨false,?_,?_,fun h=>by cases h⟩
   · cases r with
     | inl v=>simp[A]
     | inr b=>simp only[]at e3;subst e3;rfl
   · by_cases A1:c.fNode<1
     · simp[A1]
     · have A2:10<=c.fNode:=by omega
       simp[A1,A2]
/- Fractions: quotients, differences, negation; the operations as total functions that both programs meet on valid or zero values. -/
def aRH (n:Int)(d:Nat)(m:Int)(e:Nat):Rat:=mkR (!(decide (n<0) == decide (m<0))) (n.natAbs*e) (d*m.natAbs)
theorem aJj (n:Int)(d:Nat)(m:Int)(e:Nat)(hd:0<d)(he:0<e)(h1:bl n<=24)(h2:(aA d).length<=24)(h3:bl m<=24)(h4:(aA e).length<=24):dA ⟨big n,aA d⟩ ⟨big m,aA e⟩=some (aRH n d m e):=by
 unfold dA
 rw[aCJ hd,aCJ he]
 simp only[aTb,aTz,aUh,aTk,aTD,gZ]
 have b1:bl (e:Int)<=24:=by unfold bl;rw[aUb];exact h4
 have b2:bl (d:Int)<=24:=by unfold bl;rw[aUb];exact h2
 have b3:=aAO n e
 have b4:=aAO m d
 rw[aB4,aB4,yD n e (by omega) (by omega) (by omega),yD m d (by omega) (by omega) (by omega)]
 simp only[aTb]
 unfold big aRH
 unfold bl at b1 b2 b3 b4 h1 h3
 rw[aDM _ _ _ _ (by omega) (by omega)]
 simp only[aTb,aUE,aUb]
 congr 1
 rw[aTR d m.natAbs]
 by_cases hm:m=0
 · subst hm;unfold mkR;simp
 · refine aEW fun hx=>?_
   have s1:decide (n*(e:Int)<0)=decide (n<0):=by
    rw[decide_eq_decide]
    constructor
    · intro h
      rcases Int.lt_or_le n 0 with g | g
      · exact g
      · have:=Int.mul_nonneg g (by omega:(0:Int)<=e);omega
    · intro h;exact aVx h (by omega)
   have s2:decide (m*(d:Int)<0)=decide (m<0):=by
    rw[decide_eq_decide]
    constructor
    · intro h
      rcases Int.lt_or_le m 0 with g | g
      · exact g
      · have:=Int.mul_nonneg g (by omega:(0:Int)<=d);omega
    · intro h;exact aVx h (by omega)
   rw[s1,s2]
theorem aPm (r s:Rat)(hr:bG r<=4294967296)(hs:bG s<=4294967296):∃ t,iJ r s=some t/\VZ t/\(VZ r->VZ s->dA r s=some t):=by
 unfold iJ
 rw[dS r hr]
 simp only[aTb]
 by_cases c1:bD r
 · rw[aTg c1,aTd rfl,dS s hs]
   simp only[aTb]
   by_cases c2:bD s
   · rw[aTg c2]
     obtain⟨n,d,e1,e2,e3,e4,_⟩:=zF c1
     obtain⟨m,e,g1,g2,g3,g4,_⟩:=zF c2
     subst e1;subst g1
     simp only[aUh,aTk,aTD]
     have e3':=e3
     have g3':=g3
     unfold bl at e3' g3'
     have b1:=dV n.natAbs e
     have b2:=dV d m.natAbs
     have q:(cY (big n).fMag (aA e))=some (aA (n.natAbs*e)):=(oG _ _ (by omega) (by omega)).1
     have q2:(cY (aA d) (big m).fMag)=some (aA (d*m.natAbs)):=(oG _ _ (by omega) (by omega)).1
     rw[q]
     simp only[aTb]
     rw[q2]
     simp only[aTb]
     rw[aDn _ _ _ (by omega) (by omega)]
     exact⟨_,rfl,aKS _ _ _,fun _ _=>aJj n d m e e2 g2 e3 e4 g3 g4⟩
   · rw[aTe c2]
     refine⟨nH,rfl,aCe,fun v1 v2=>?_⟩
     unfold dA
     rw[iE v1,iE v2,aTg c1,aTe c2];rfl
 · rw[aTe c1]
   refine⟨nH,rfl,aCe,fun v1 v2=>?_⟩
   unfold dA
   rw[iE v1,aTe c1];rfl
theorem aHy (n:Int)(h:bl n<=24):(aA n.natAbs).length<=24:=h
theorem aLV (n:Int):(if((aA n.natAbs).length:Int)=0 then(⟨false,[]⟩:BigInt)else⟨!decide (n<0),aA n.natAbs⟩)=big (-n):=by
 by_cases c:n=0
 · subst c;simp[big,aA]
 · have:(aA n.natAbs).length≠0:=fun e=>dF (n:=n.natAbs) (by omega) (aTq.1 e)
   rw[aTc (by omega)]
   unfold big
   rw[Int.natAbs_neg]
   congr 1
   by_cases h:n<0
   · rw[aTg h,aTe (by omega)];rfl
   · rw[aTe h,aTg (by omega)];rfl
theorem aGv (l:List Int)(h:l.length<=4294967296):dU l=some l:=by
 unfold dU
 rw[aM (by simp;omega)]
 simp[aV]
theorem aFz (n:Int)(d:Nat)(hd:0<d)(h1:bl n<=24)(h2:(aA d).length<=24):fR ⟨big n,aA d⟩=some ⟨big (-n),aA d⟩:=by
 unfold fR
 have h1':=aHy n h1
 rw[aCJ hd]
 simp only[aTb,aTz,aAQ,aAP]
 rw[aGv _ (by omega),aGv _ (by omega)]
 simp only[aTb]
 unfold eA
 have e:=aLV n
 by_cases c:((aA n.natAbs).length:Int)=0
 · rw[aTd c]at e;simp[c,e]
 · rw[aTc c]at e
   rw[aTc c]
   have:¬(60:Int)<(aA n.natAbs).length:=by omega
   simp[this,e]
theorem aOA (n:Int)(d:Nat)(h1:bl n<=24)(h2:(aA d).length<=24):pI ⟨big n,aA d⟩=some ⟨big (-n),aA d⟩:=by
 unfold pI
 have h1':=aHy n h1
 simp only[aAQ,aAP]
 rw[qM _ _ (by omega),aM (by simp;omega)]
 simp only[aTb,aV,aTi]
 have e:=aLV n
 congr 2
 rw[<- e]
 by_cases c:n=0
 · subst c;simp[aA]
 · have:(aA n.natAbs).length≠0:=fun e=>dF (n:=n.natAbs) (by omega) (aTq.1 e)
   rw[aTc (by omega)]
   simp[c]
theorem aHj {n:Int}{d:Nat}(h:bD ⟨big n,aA d⟩)(h1:bl n<=24):bD ⟨big (-n),aA d⟩:=by
 obtain⟨⟨a1,a2⟩,b,c,d1,e,f⟩:=h
 refine⟨⟨?_,fun hn=>?_⟩,b,c,d1,?_,?_⟩
 · show uG (aA (-n).natAbs);rw[Int.natAbs_neg];exact a1
 · simp only[big,aUs]at hn ⊢
   exact dF (by omega)
 · show(aA (-n).natAbs).length<=24;rw[Int.natAbs_neg];exact e
 · show Nat.gcd (val (aA (-n).natAbs)) _=1;rw[Int.natAbs_neg];exact f
theorem aKh (r:Rat)(hr:bG r<=4294967296):∃ t,lG r=some t/\VZ t/\(VZ r->fR r=some t)/\(bD r->pI r=some t/\bD t):=by
 unfold lG
 rw[dS r hr]
 simp only[aTb]
 by_cases c1:bD r
 · rw[aTg c1,aTd rfl]
   obtain⟨n,d,e1,e2,e3,e4,_⟩:=zF c1
   subst e1
   rw[aOA n d e3 e4]
   exact⟨_,rfl,.inl (aHj c1 e3),fun _=>aFz n d e2 e3 e4,fun _=>⟨rfl,aHj c1 e3⟩⟩
 · rw[aTe c1]
   refine⟨nH,rfl,aCe,fun v1=>?_,fun h=>absurd h c1⟩
   unfold fR
   rw[iE v1,aTe c1];rfl
theorem aPk (r s:Rat)(hr:bG r<=4294967296)(hs:bG s<=4294967296):∃ t,jU r s=some t/\VZ t/\(VZ r->VZ s->dQ r s=some t):=by
 unfold jU
 rw[dS r hr]
 simp only[aTb]
 obtain⟨u,u1,u2,u3,u4⟩:=aKh s hs
 obtain⟨t,t1,t3,t4⟩:=aDA r u hr (by have:=nF u2;omega)
 by_cases c1:bD r
 · rw[aTg c1,aTd rfl,dS s hs]
   simp only[aTb]
   by_cases c2:bD s
   · rw[aTg c2]
     simp only[aUh,aTk,aTD]
     obtain⟨u5,u6⟩:=u4 c2
     rw[u5]
     simp only[aTb]
     have:pK r u=some t:=by
      have:=t1
      unfold cZ at this
      rw[dS r hr,dS u (by have:=nF u2;omega),aTg c1,aTg u6]at this
      simpa using this
     rw[this]
     refine⟨t,rfl,t3,fun v1 v2=>?_⟩
     unfold dQ
     rw[u3 v2]
     simp only[aTb]
     rw[t4 v1 u2];rfl
   · rw[aTe c2]
     refine⟨nH,rfl,aCe,fun v1 v2=>?_⟩
     unfold dQ
     have e:u=nH:=by
      have:=u1
      unfold lG at this
      rw[dS s hs,aTe c2]at this
      simpa [nH]using this.symm
     rw[u3 v2]
     simp only[aTb]
     unfold bN
     rw[iE v1,iE u2,aTg c1,aTe (by rw[e];exact aBc)];rfl
 · rw[aTe c1]
   refine⟨nH,rfl,aCe,fun v1 v2=>?_⟩
   unfold dQ
   rw[u3 v2]
   simp only[aTb]
   unfold bN
   rw[iE v1,aTe c1];rfl
noncomputable def RA (r s:Rat):Rat:=(cZ r s).getD nH
noncomputable def RM (r s:Rat):Rat:=(dP r s).getD nH
noncomputable def RD (r s:Rat):Rat:=(iJ r s).getD nH
noncomputable def RS (r s:Rat):Rat:=(jU r s).getD nH
noncomputable def RN (r:Rat):Rat:=(lG r).getD nH
theorem VZs {r:Rat}(h:VZ r):bG r<=4294967296:=by have:=nF h;omega
theorem aS8 {r s:Rat}(hr:bG r<=4294967296)(hs:bG s<=4294967296):cZ r s=some (RA r s)/\VZ (RA r s):=by
 obtain⟨t,t1,t3,t4⟩:=aDA r s hr hs
 have:RA r s=t:=by unfold RA;rw[t1];rfl
 rw[this];exact⟨t1,t3⟩
theorem yG {r s:Rat}(hr:VZ r)(hs:VZ s):cZ r s=some (RA r s)/\bN r s=some (RA r s)/\VZ (RA r s):=by
 obtain⟨t,t1,t3,t4⟩:=aDA r s (VZs hr) (VZs hs)
 have:RA r s=t:=by unfold RA;rw[t1];rfl
 rw[this];exact⟨t1,t4 hr hs,t3⟩
theorem aBa {r s:Rat}(hr:VZ r)(hs:VZ s):dP r s=some (RM r s)/\bT r s=some (RM r s)/\VZ (RM r s):=by
 obtain⟨t,t1,t3,t4⟩:=aPl r s (VZs hr) (VZs hs)
 have:RM r s=t:=by unfold RM;rw[t1];rfl
 rw[this];exact⟨t1,t4 hr hs,t3⟩
theorem aCR {r s:Rat}(hr:VZ r)(hs:VZ s):iJ r s=some (RD r s)/\dA r s=some (RD r s)/\VZ (RD r s):=by
 obtain⟨t,t1,t3,t4⟩:=aPm r s (VZs hr) (VZs hs)
 have:RD r s=t:=by unfold RD;rw[t1];rfl
 rw[this];exact⟨t1,t4 hr hs,t3⟩
theorem aG1 {r s:Rat}(hr:VZ r)(hs:VZ s):jU r s=some (RS r s)/\dQ r s=some (RS r s)/\VZ (RS r s):=by
 obtain⟨t,t1,t3,t4⟩:=aPk r s (VZs hr) (VZs hs)
 have:RS r s=t:=by unfold RS;rw[t1];rfl
 rw[this];exact⟨t1,t4 hr hs,t3⟩
theorem aLs {r:Rat}(hr:VZ r):lG r=some (RN r)/\fR r=some (RN r)/\VZ (RN r):=by
 obtain⟨t,t1,t3,t4,_⟩:=aKh r (VZs hr)
 have:RN r=t:=by unfold RN;rw[t1];rfl
 rw[this];exact⟨t1,t4 hr,t3⟩
theorem aH9 {n:Int}{d:Nat}(h:bD ⟨big n,aA d⟩):0<wV ⟨big n,aA d⟩↔0<n:=by
 unfold wV
 rw[aTd h]
 simp only[aAQ,aAP,aUs]
 by_cases c:n=0
 · subst c;simp[aA]
 · rw[aTc (dF (by omega))]
   by_cases h:n<0
   · rw[aTd h];omega
   · rw[aTc h];omega
theorem aP5 {x y:Nat}(hx:0<x)(h:bD (mkR false x y)):0<wV (mkR false x y):=by
 unfold wV
 rw[aTd h]
 unfold mkR at h ⊢
 by_cases c:y=0
 · rw[aTd c]at h;exact absurd h aBc
 · rw[aTc c]at h ⊢
   by_cases c2:24<(aA (x / Nat.gcd x y)).length\/24<(aA (y / Nat.gcd x y)).length
   · rw[aTd c2]at h;exact absurd h aBc
   · rw[aTc c2]at h ⊢
     have hg:0<Nat.gcd x y:=Nat.gcd_pos_of_pos_left y hx
     have:0<x / Nat.gcd x y:=Nat.div_pos (Nat.gcd_le_left y hx) hg
     simp only[Bool.false_and,aTk,aTD]
     rw[aTc (dF (by omega))];omega
theorem aRX {r s:Rat}(hr:0<wV r)(hs:0<wV s)(h:bD (RA r s)):0<wV (RA r s):=by
 have r1:=aAa hr
 have s1:=aAa hs
 obtain⟨n,d,e1,e2,e3,e4,_⟩:=zF r1
 obtain⟨m,e,g1,g2,g3,g4,_⟩:=zF s1
 subst e1;subst g1
 have hn:=(aH9 r1).1 hr
 have hm:=(aH9 s1).1 hs
 have q:=(yG (.inl r1) (.inl s1)).2.1
 rw[aBm n d m e e2 g2 e3 e4 g3 g4]at q
 have q:=Option.some.inj q
 rw[<- q]at h ⊢
 unfold aIO at h ⊢
 have p1:0<n*(e:Int):=Int.mul_pos hn (by omega)
 have p2:0<m*(d:Int):=Int.mul_pos hm (by omega)
 rw[aTe (by omega)]at h ⊢
 exact aP5 (by omega) h
/- Copies of links; the links of a tree. -/
theorem pJ (x:Rat)(h:bG x<=4294967296):jM x=some x:=by
 unfold bG uL xE at h
 rw[tC,tC]at h
 unfold jM
 rw[aM (by simp;omega),aM (by simp;omega)]
 simp only[aTb,aJ,aTi]
theorem tL (x:Link)(h:bY x<=4294967296):lD x=some x:=by
 unfold bY at h
 unfold lD
 rw[pJ _ (by omega)]
 simp only[aTb]
 rw[pJ _ (by omega)]
 simp only[aTb]
 rw[pJ _ (by omega)]
 simp only[aTb]
theorem aCg (l:List Link)(h:aL l<=4294967296):pH l=some l:=by
 unfold aL at h
 have hl:=nJ bY l
 unfold pH
 have:=rN (step:=pG l) l (fun k t=>((k:Int),t)) (fun t=>t) (fun k t hk ht=>by
  have he:=tB (w:=bY) (aTv hk)
  unfold pG
  simp only[]
  rw[aTd (by omega),aN hk]
  simp only[aTb]
  rw[tL _ (by omega)]
  simp only[aTb]
  rw[aM (by omega),wi (by omega)];rfl) (fun t ht=>by unfold pG;simp only[];rw[aTc (by omega)])
 rw[show((0:Nat):Int)=0 from rfl]at this
 rw[this];rfl
theorem aA1 (l:List Int)(h:l.length<=4294967296):dU l=some l:=by
 unfold dU
 rw[aM (by simp;omega)]
 simp only[aTb,aJ,aTi]
theorem gG (x:Rat)(h:bG x<=4294967296):dZ x=some x:=by
 unfold bG uL xE at h
 rw[tC,tC]at h
 unfold dZ
 rw[aA1 _ (by omega)]
 simp only[aTb]
 rw[aA1 _ (by omega)]
 simp only[aTb]
theorem aEO (x:Link)(h:bY x<=4294967296):rQ x=some x:=by
 unfold bY at h
 unfold rQ
 rw[gG _ (by omega)]
 simp only[aTb]
 rw[gG _ (by omega)]
 simp only[aTb]
 rw[gG _ (by omega)]
 simp only[aTb]
theorem qP (l:List Link)(h:aL l<=4294967296):iP l=some l:=by
 unfold aL at h
 have hl:=nJ bY l
 unfold iP
 have:=rN (step:=lM l) l (fun k t=>((k:Int),t)) (fun t=>t) (fun k t hk ht=>by
  have he:=tB (w:=bY) (aTv hk)
  unfold lM
  simp only[]
  rw[aTd (by omega),aN hk]
  simp only[aTb]
  rw[aEO _ (by omega)]
  simp only[aTb]
  rw[aM (by omega),wi (by omega)];rfl) (fun t ht=>by unfold lM;simp only[];rw[aTc (by omega)])
 rw[show((0:Nat):Int)=0 from rfl]at this
 rw[this];rfl
def fD (l:List TreeNode):List Link:=(l.map (fun n=>n.fOwn)).flatten
theorem aHt:∀ l:List TreeNode,aL (fD l)<=szL cJ l
 | []=>by simp[fD,aL,aH1]
 | y::l=>by
  have:=aHt l
  have hn:cJ y=aL y.fOwn+aX y.fCond+aL y.fMessages+bG y.fEnergy:=rfl
  unfold fD aL at *
  rw[aTo,List.flatten_cons,aH2,nY]
  omega
theorem aEh (l:List TreeNode)(k:Nat)(hk:k<l.length):fD (l.take (k+1))=fD (l.take k)++l[k].fOwn:=by
 unfold fD
 rw[aVL,aTl hk,aUc,List.flatten_append]
 simp
theorem aNw {α:Type}(w:α->Nat)(l:List α)(k:Nat):szL w (l.take k)<=szL w l:=by
 have:=aH2 w (l.take k) (l.drop k)
 rw[aT6]at this
 omega
theorem aKL (l:List TreeNode)(h:szL cJ l<=4294967296)(k:Nat):(fD (l.take k)).length<=4294967296:=by
 have h1:=aHt (l.take k)
 have h2:=aNw cJ l k
 have h3:=nJ bY (fD (l.take k))
 unfold aL at h1
 omega
end Go.Ev
