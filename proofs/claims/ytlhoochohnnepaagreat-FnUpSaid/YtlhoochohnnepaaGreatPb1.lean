/- Parts PF, P25, PQ1, PQ2, PQ3, PQ4, PQ5, PQ6, PQ8, PH, PQ9, PR1. -/
import Derived.Test.YtlhoochohnnepaaGreatPa1
import Derived.Test.YtlhoochohnnepaaGreatLd
set_option linter.all false
/- Plain laws of helpers over nested data, printed by program (fam.py). -/
namespace Go.Ev
set_option linter.all false
def tI (x:(List Int)):Nat:=szL (fun _=>0) x
def qP (x:BigInt):Nat:=tI x.fMag
def bF (x:Rat):Nat:=qP x.fNum+tI x.fDen
def kU (x:Parent):Nat:=bF x.fShare+bF x.fDX+bF x.fDY
def mJ (x:(List Parent)):Nat:=szL kU x
def aV (x:Conditional):Nat:=bF x.fTotal+mJ x.fParents
def cI (x:Link):Nat:=bF x.fWeight+bF x.fDX+bF x.fDY
def aW (x:(List Link)):Nat:=szL cI x
def kT (x:TreeNode):Nat:=aW x.fOwn+aV x.fCond+aW x.fMessages+bF x.fEnergy
def uV (x:(List TreeNode)):Nat:=szL kT x
def aAP (x:Tree):Nat:=uV x.fNodes
end Go.Ev
/- Fractions made of whole numbers: both programs make the same. -/
namespace Go.Ev
set_option linter.all false
theorem wu {n:Int}(h:0<=n/\n<=18446744073709551615):IntKind.u64.wrap n=n:=by
 have:IntKind.u64.wrap n=n % 18446744073709551616:=by simp[IntKind.wrap,IntKind.bits,IntKind.signed]
 rw[this];omega
theorem aCI (v:Nat):((v:Int)).tmod 1000000000=((v % BB:Nat):Int):=by
 rw[Int.tmod_eq_emod_of_nonneg (by omega),cL];omega
theorem aCJ (v:Nat):((v:Int)).tdiv 1000000000=((v / BB:Nat):Int):=by
 rw[Int.tdiv_eq_ediv_of_nonneg (by omega),cL];omega
theorem aDd:∀ (v:Nat) (t:List Int),v<18446744073709551616->t.length+(aA v).length<=1000->lp gR ((v:Int),t)=some (t++aA v):=by
 intro v
 induction v using Nat.strongRecOn with
 | _ v ih =>
  intro t hv ht
  by_cases h:v=0
  · subst h
    rw[aT,List.append_nil]
    exact aF (by unfold gR;simp)
  · rw[fS h,List.length_cons]at ht
    have hm:=Nat.mod_lt v qH
    have hd:=Nat.div_le_self v BB
    rw[cL]at hm
    have e:gR ((v:Int),t)=some (.inl (((v / BB:Nat):Int),t++[((v % BB:Nat):Int)])):=by
     unfold gR
     simp only[]
     rw[if_pos (by omega),aCI,aCJ,wi (by rw[cL];omega),wu (by rw[cL]at hd ⊢;omega),aJ (by omega)]
     rfl
    rw[aM e,ih _ (Nat.div_lt_self (by omega) (by rw[cL];omega)) _ (by omega) (by simp;omega),fS h]
    simp
theorem hY {v:Nat}(h:v<18446744073709551616):(aA v).length<=3:=by
 refine eW ?_
 rw[cL];omega
theorem sC (v:Nat)(h:v<18446744073709551616):eZ (v:Int)=some (aA v):=by
 unfold eZ
 have:=hY h
 rw[aDd v [] h (by simp;omega)]
 simp
theorem aHL:∀ (v:Nat) (t:List Int),v<9223372036854775808->t.length+(aA v).length<=1000->lp mA ((v:Int),t)=some (t++aA v):=by
 intro v
 induction v using Nat.strongRecOn with
 | _ v ih =>
  intro t hv ht
  by_cases h:v=0
  · subst h
    rw[aT,List.append_nil]
    exact aF (by unfold mA;simp)
  · rw[fS h,List.length_cons]at ht
    have hd:=Nat.div_le_self v BB
    have e:mA ((v:Int),t)=some (.inl (((v / BB:Nat):Int),t++[((v % BB:Nat):Int)])):=by
     unfold mA
     simp only[]
     rw[if_pos (by omega),aCI,aCJ,wi (by rw[cL]at hd ⊢;omega),aJ (by omega)]
     rfl
    rw[aM e,ih _ (Nat.div_lt_self (by omega) (by rw[cL];omega)) _ (by omega) (by simp;omega),fS h]
    simp
theorem xQ (v:Nat)(h:v<9223372036854775808):jN (v:Int)=some (aA v):=by
 unfold jN
 have:=hY (v:=v) (by omega)
 rw[aHL v [] h (by simp;omega)]
 simp
theorem aIw (l:List Int)(hl:l.length<=4294967296):∀ k:Nat,k<=l.length->(∀ i (hi:i<l.length),k<=i->l[i]=0)->lp (eI l) (k:Int)=some (((oA l).length:Nat):Int):=by
 have htl:∀ (m:List Int) (k:Nat),k<=m.length->(∀ i (hi:i<m.length),k<=i->m[i]=0)->oA m=oA (m.take k):=by
  intro m
  induction m with
  | nil=>intro k _ _;simp
  | cons d m ih =>
   intro k hk hz
   cases k with
   | zero =>
    have h0:d=0:=hz 0 (by simp) (Nat.le_refl _)
    have:=ih 0 (by omega) (fun i hi _=>by have:=hz (i+1) (by simpa using hi) (by omega);simpa using this)
    rw[List.take_zero]at this ⊢
    unfold oA
    rw[this];simp[oA,h0]
   | succ k =>
    have:=ih k (by simpa using hk) (fun i hi hki=>by have:=hz (i+1) (by simpa using hi) (by omega);simpa using this)
    rw[List.take_succ_cons]
    conv=>lhs;unfold oA
    conv=>rhs;unfold oA
    rw[this]
 intro k
 induction k with
 | zero =>
  intro hk hz
  rw[htl l 0 (by omega) hz,List.take_zero]
  exact aF (by unfold eI;simp[oA])
 | succ k ih =>
  intro hk hz
  have hlt:k<l.length:=by omega
  by_cases c:l[k]=0
  · have e:eI l ((k+1:Nat):Int)=some (.inl (k:Int)):=by
     unfold eI
     rw[if_pos (by omega),wi (by omega),show((k+1:Nat):Int)-1=(k:Int)by omega,aG hlt]
     simp[c]
    rw[aM e]
    exact ih (by omega) (fun i hi hki=>by
     by_cases e:i=k
     · subst e;exact c
     · exact hz i hi (by omega))
  · have e:eI l ((k+1:Nat):Int)=some (.inr ((k+1:Nat):Int)):=by
     unfold eI
     rw[if_pos (by omega),wi (by omega),show((k+1:Nat):Int)-1=(k:Int)by omega,aG hlt]
     simp[c]
    rw[aF e,htl l (k+1) hk hz,aA2 (l:=l.take (k+1))]
    · simp;omega
    · have e:l.take (k+1)=l.take k++[l[k]]:=by rw[List.take_succ,List.getElem?_eq_getElem hlt];rfl
      rw[e,List.getLast?_concat];simpa using c
theorem aEj (l:List Int):oA l=l.take (oA l).length:=by
 induction l with
 | nil=>rfl
 | cons d l ih =>
  unfold oA
  cases h:oA l with
  | nil =>
   by_cases c:d=0 <;> simp[c]
  | cons t r =>
   rw[h]at ih
   simp only[List.length_cons,List.take_succ_cons]at ih ⊢
   rw[<- ih]
theorem aFO (l:List Int):(oA l).length<=l.length:=by
 have:=congrArg List.length (aEj l)
 rw[List.length_take]at this;omega
theorem aEF (l:List Int)(hl:l.length<=4294967296):bY l=some (oA l):=by
 unfold bY
 rw[aIw l hl l.length (Nat.le_refl _) (fun i hi h=>by omega)]
 simp only[Option.bind_some]
 have:=aFO l
 rw[kV _ _ _ (by omega)]
 simp only[Option.bind_some]
 congr 1
 have e:=aEj l
 simp only[Int.toNat_zero,List.drop_zero,Int.sub_zero,Int.toNat_natCast]
 exact e.symm
theorem aJ1 (v:Nat)(h:(aA v).length<=60):rV (aA v)=some (aA v):=by
 unfold rV
 rw[aEF _ (by omega)]
 simp only[Option.bind_some]
 rw[aA2 (zA v),if_neg (by omega)]
def big (n:Int):BigInt:=⟨decide (n<0),aA n.natAbs⟩
theorem nQ (s:Bool)(v:Nat)(h:(aA v).length<=60):bX s (aA v)=some ⟨s&&decide (v≠0),aA v⟩:=by
 unfold bX
 rw[aJ1 v h]
 simp only[Option.bind_some]
 have hz:(0<((aA v).length:Int))↔v≠0:=by
  constructor
  · intro h e;subst e;rw[aT]at h;simp at h
  · intro h
    have:(aA v).length≠0:=fun e=>cM h (List.length_eq_zero_iff.1 e)
    omega
 cases s with
 | true =>
  simp only[if_true]
  rw[aJ (by simp;omega)]
  simp only[Option.bind_some,aI,List.nil_append,Bool.true_and]
  congr 2
  exact decide_eq_decide.2 hz
 | false =>
  simp only[Bool.false_eq_true,if_false]
  rw[aJ (by simp;omega)]
  simp only[Option.bind_some,aI,List.nil_append,Bool.false_and]
theorem rE (s:Bool)(v:Nat)(h:(aA v).length<=60):dQ s (aA v)=some ⟨s&&decide (v≠0),aA v⟩:=by
 unfold dQ
 by_cases hv:v=0
 · subst hv
   rw[aT];simp
 · have:(aA v).length≠0:=fun e=>cM hv (List.length_eq_zero_iff.1 e)
   rw[if_neg (by omega)]
   simp only[Option.bind_some]
   have h2:¬(60<((aA v).length:Int)):=by omega
   simp[h2,hv]
theorem aCs (n:Int)(h:-9223372036854775808<=n/\n<=9223372036854775807):oP n=some (big n):=by
 unfold oP big
 by_cases c:n<0
 · rw[if_pos c]
   simp only[aI]
   rw[wi (n:=n+1) (by omega),wi (by omega),wu (n:=0-(n+1)) (by omega),wu (by omega)]
   have e:(0-(n+1)+1)=((n.natAbs:Nat):Int):=by omega
   have hl:=hY (v:=n.natAbs) (by omega)
   rw[e,sC _ (by omega)]
   simp only[Option.bind_some]
   rw[rE true _ (by omega)]
   simp only[Option.bind_some,Bool.true_and]
   have:n.natAbs≠0:=by omega
   simp[c,this]
 · rw[if_neg c]
   have e:n=((n.natAbs:Nat):Int):=by omega
   have hl:=hY (v:=n.natAbs) (by omega)
   rw[wu (by omega)]
   conv=>lhs;rw[e]
   rw[sC _ (by omega)]
   simp only[Option.bind_some]
   rw[rE false _ (by omega)]
   simp[c]
theorem aCc (n:Int)(h:-9223372036854775808<=n/\n<=9223372036854775807):oG n=some (big n):=by
 unfold oG big
 by_cases c0:n=-9223372036854775808
 · rw[if_pos c0]
   subst c0
   have hd:([854775808,223372036,9]:List Int)=aA 9223372036854775808:=by
    have h1:dgs [854775808,223372036,9]:=by intro d hd;simp at hd;omega
    have:=wZ (l:=[854775808,223372036,9]) ⟨h1,by simp⟩
    rw[this];rfl
   have hl:=hY (v:=9223372036854775808) (by omega)
   rw[hd,nQ true _ (by omega)]
   simp only[Option.bind_some]
   rfl
 · rw[if_neg c0]
   by_cases c:n<0
   · rw[if_pos c,wi (by omega)]
     have e:(0-n)=((n.natAbs:Nat):Int):=by omega
     have hl:=hY (v:=n.natAbs) (by omega)
     rw[e,xQ _ (by omega)]
     simp only[Option.bind_some]
     rw[nQ true _ (by omega)]
     simp only[Option.bind_some,Bool.true_and]
     have:n.natAbs≠0:=by omega
     simp[c,this]
   · rw[if_neg c]
     have e:n=((n.natAbs:Nat):Int):=by omega
     have hl:=hY (v:=n.natAbs) (by omega)
     conv=>lhs;rw[e]
     rw[xQ _ (by omega)]
     simp only[Option.bind_some]
     rw[nQ false _ (by omega)]
     simp[c]
def nX (n:Int):Rat:=⟨big n,[1]⟩
theorem jJ (n:Int)(h:-9223372036854775808<=n/\n<=9223372036854775807):dK n=some (nX n):=by
 unfold dK
 rw[aCs n h];rfl
theorem bL (n:Int)(h:-9223372036854775808<=n/\n<=9223372036854775807):bV n=some (nX n):=by
 unfold bV
 rw[aCc n h];rfl
end Go.Ev
/- Naturals as limbs: order, sums, differences; both programs. -/
namespace Go.Ev
open IntKind
set_option linter.all false
theorem tC:lB=bY:=rfl
theorem wJ {l:List Int}(h:dgs l)(hl:l.length<=4294967296):bY l=some (aA (val l)):=by rw[aEF l hl,aCH h]
theorem aGB:uA=eY:=rfl
theorem aKs (x y t:Nat):oQ (x+t) (y+t)=oQ x y:=by unfold oQ;simp only[Nat.add_lt_add_iff_right]
theorem aKq (a b:List Int)(ha:dgs a)(hb:dgs b)(hab:a.length=b.length)(hl:a.length<=4294967296):∀ k:Nat,k<=a.length->
 lp (eY a b) ((k:Int)-1)=some (if val (a.take k)=val (b.take k)then .inl ()else .inr (oQ (val (a.take k)) (val (b.take k)))):=by
 intro k
 induction k with
 | zero =>
  intro _
  rw[aF (r:=.inl ()) (by unfold eY;rw[if_neg (by omega)])]
  simp
 | succ k ih =>
  intro hk
  have h1:k<a.length:=by omega
  have h2:k<b.length:=by omega
  have d1:=jU ha h1
  have d2:=jU hb h2
  have v1:=aCG (aGA ha k)
  have v2:=aCG (aGA hb k)
  rw[List.length_take,Nat.min_eq_left (by omega)]at v1 v2
  rw[lY h1,lY h2]
  have hk1:((k+1:Nat):Int)-1=(k:Int):=by omega
  rw[hk1]
  by_cases c1:a[k]<b[k]
  · rw[aF (r:=.inr (-1)) (by unfold eY;rw[if_pos (by omega),aG h1,aG h2];simp[c1])]
    have:BB ^ k*(a[k]).toNat+BB ^ k<=BB ^ k*(b[k]).toNat:=by
     rw[<- Nat.mul_succ];exact Nat.mul_le_mul_left _ (by omega)
    rw[if_neg (by omega)];unfold oQ;rw[if_pos (by omega)]
  · by_cases c2:b[k]<a[k]
    · rw[aF (r:=.inr 1) (by unfold eY;rw[if_pos (by omega),aG h1,aG h2];simp[c1,c2])]
      have:BB ^ k*(b[k]).toNat+BB ^ k<=BB ^ k*(a[k]).toNat:=by
       rw[<- Nat.mul_succ];exact Nat.mul_le_mul_left _ (by omega)
      rw[if_neg (by omega)];unfold oQ;rw[if_neg (by omega),if_pos (by omega)]
    · have e:a[k]=b[k]:=by omega
      rw[aM (s':=(k:Int)-1) (by unfold eY;rw[if_pos (by omega),aG h1,aG h2,wi (by omega)];simp[c1,c2]),ih (by omega),e]
      by_cases c3:val (a.take k)=val (b.take k)
      · rw[if_pos c3,if_pos (by omega)]
      · rw[if_neg c3,if_neg (by omega)]
        rw[aKs]
theorem aGC {x y:Nat}(h:(aA x).length<(aA y).length):oQ x y=-1:=by unfold oQ;rw[if_pos (aHj h)]
theorem aEO {x y:Nat}(h:(aA y).length<(aA x).length):oQ x y=1:=by have:=aHj h;unfold oQ;rw[if_neg (by omega),if_pos this]
theorem aKr (x y:Nat)(hx:(aA x).length<=1000)(h:(aA x).length=(aA y).length):lp (eY (aA x) (aA y)) (((aA x).length:Int)-1)=some (if x=y then .inl ()else .inr (oQ x y)):=by
 have:=aKq (aA x) (aA y) (dH x) (dH y) h (by omega) (aA x).length (Nat.le_refl _)
 rw[List.take_length,h,List.take_length,cA,cA]at this
 rw[h];exact this
theorem yW (x y:Nat)(hx:(aA x).length<=1000)(hy:(aA y).length<=1000):kS (aA x) (aA y)=some (oQ x y):=by
 unfold kS
 by_cases c:(aA x).length=(aA y).length
 · rw[if_neg (by omega),aI,wi (by omega),aKr x y hx c]
   by_cases e:x=y
   · subst e;simp[oQ]
   · rw[if_neg e];rfl
 · rw[if_pos (by omega)]
   by_cases c2:(aA x).length<(aA y).length
   · rw[if_pos (by omega),aGC c2]
   · rw[if_neg (by omega),aEO (by omega)]
theorem aDf (x y:Nat)(hx:(aA x).length<=1000)(hy:(aA y).length<=1000):pM (aA x) (aA y)=some (oQ x y):=by
 unfold pM
 by_cases c2:(aA x).length<(aA y).length
 · rw[if_pos (by omega),aGC c2]
 · rw[if_neg (by omega)]
   by_cases c3:(aA y).length<(aA x).length
   · rw[if_pos (by omega),aEO c3]
   · rw[if_neg (by omega),aI,wi (by omega),aGB,aKr x y hx (by omega)]
     by_cases e:x=y
     · subst e;simp[oQ]
     · rw[if_neg e];rfl
theorem aGI (a b:List Int)(i c:Nat)(out:List Int)(x:Nat)(hx:x<=1999999999)(ho:out.length=i)(hi:i<=2000)(hlt:i<a.length\/i<b.length\/c=1)(hc:c<=1)
 (h:(x:Int)=c+(if h:i<a.length then a[i]else 0)+(if h:i<b.length then b[i]else 0)) (ha:dgs a) (hb:dgs b) :
 gE a b ((c:Int),(i:Int),out)=some (.inl (((x / BB:Nat):Int),((i+1:Nat):Int),out++[((x % BB:Nat):Int)])):=by
 unfold gE
 simp only[]
 by_cases c1:i<a.length
 · have d1:=jU ha c1
   rw[dif_pos c1]at h
   rw[if_pos (by omega),if_pos (by omega),aG c1]
   simp only[Option.bind_some,if_true]
   rw[wi (by omega)]
   by_cases c2:i<b.length
   · have d2:=jU hb c2
     rw[dif_pos c2]at h
     rw[if_pos (by omega),aG c2]
     simp only[Option.bind_some]
     rw[wi (by omega),<- h,aJ (by omega)]
     simp only[Option.bind_some,aI]
     rw[aCI,aCJ,wi (by rw[cL];omega),wi (by omega)];rfl
   · rw[dif_neg c2]at h
     rw[if_neg (by omega)]
     simp only[Option.bind_some]
     rw[show(c:Int)+a[i]=(x:Int)by omega,aJ (by omega)]
     simp only[Option.bind_some,aI]
     rw[aCI,aCJ,wi (by rw[cL];omega),wi (by omega)];rfl
 · rw[dif_neg c1]at h
   have n1:¬((i:Int)<(a.length:Int)):=by omega
   simp only[n1,if_false]
   by_cases c2:i<b.length
   · have d2:=jU hb c2
     rw[dif_pos c2]at h
     have n2:((i:Int)<(b.length:Int)):=by omega
     simp only[n2,if_true,Option.bind_some]
     rw[aG c2]
     simp only[Option.bind_some]
     rw[wi (by omega),show(c:Int)+b[i]=(x:Int)by omega,aJ (by omega)]
     simp only[Option.bind_some,aI]
     rw[aCI,aCJ,wi (by rw[cL];omega),wi (by omega)];rfl
   · rw[dif_neg c2]at h
     have n2:¬((i:Int)<(b.length:Int)):=by omega
     have hc1:c=1:=by omega
     have hc2:(0<(c:Int)):=by omega
     simp only[n2,hc2,if_false,decide_true,Option.bind_some,if_true]
     rw[show(c:Int)=(x:Int)by omega,aJ (by omega)]
     simp only[Option.bind_some,aI]
     rw[aCI,aCJ,wi (by rw[cL];omega),wi (by omega)];rfl
theorem aGH (a b:List Int)(i:Nat)(out:List Int)(h1:a.length<=i)(h2:b.length<=i):lp (gE a b) (0,(i:Int),out)=some out :=
 aF (by unfold gE;simp only[];rw[if_neg (by omega),if_neg (by omega)];simp)
theorem aLp (a b:List Int)(ha:dgs a)(hb:dgs b)(i c:Nat)(out:List Int)(hc:c<=1)(ho:out.length=i)(hi:i<=1999)(h1:a.length<=i)(h2:b.length<=i) :
 lp (gE a b) ((c:Int),(i:Int),out)=some (out++aA c):=by
 rcases Nat.eq_zero_or_pos c with e | e
 · subst e
   rw[aT,List.append_nil];exact aGH a b i out h1 h2
 · have e1:c=1:=by omega
   subst e1
   have:=aGI a b i 1 out 1 (by omega) ho (by omega) (.inr (.inr rfl)) (by omega) (by rw[dif_neg (by omega),dif_neg (by omega)];omega) ha hb
   rw[aM this,show 1 / BB=0 from rfl,show 1 % BB=1 from rfl]
   rw[show((0:Nat):Int)=0 from rfl,aGH a b (i+1) _ (by omega) (by omega),nT (by rw[cL];omega) (by omega)]
theorem aKC (a b:List Int)(ha:nat a)(hb:nat b)(hla:a.length<=1000)(hlb:b.length<=1000):∀ (m i c:Nat) (out:List Int),c<=1->m+i=max a.length b.length->out.length=i->
 lp (gE a b) ((c:Int),(i:Int),out)=some (out++aA (c+(val (a.drop i)+val (b.drop i)))):=by
 intro m
 induction m with
 | zero =>
  intro i c out hc hm ho
  rw[eH (by omega),eH (by omega)]
  exact aLp a b ha.1 hb.1 i c out hc ho (by omega) (by omega) (by omega)
 | succ m ih =>
  intro i c out hc hm ho
  obtain⟨x,hx,e1,e2,e3⟩:∃ x:Nat,x<=1999999999/\c+(val (a.drop i)+val (b.drop i))=x+BB*(val (a.drop (i+1))+val (b.drop (i+1)))/\
   c+(val (a.drop i)+val (b.drop i))≠0/\(x:Int)=c+(if h:i<a.length then a[i]else 0)+(if h:i<b.length then b[i]else 0):=by
   by_cases c1:i<a.length
   · have d1:=jU ha.1 c1
     have n1:=aBV ha c1
     have v1:=fU c1
     by_cases c2:i<b.length
     · have d2:=jU hb.1 c2
       have v2:=fU c2
       refine⟨c+(a[i]).toNat+(b[i]).toNat,by omega,by rw[Nat.mul_add];omega,by omega,by rw[dif_pos c1,dif_pos c2];omega⟩
     · have v2:=eH (l:=b) (k:=i) (by omega)
       have v3:=eH (l:=b) (k:=i+1) (by omega)
       refine⟨c+(a[i]).toNat,by omega,by rw[Nat.mul_add,v3];omega,by omega,by rw[dif_pos c1,dif_neg c2];omega⟩
   · have c2:i<b.length:=by omega
     have d2:=jU hb.1 c2
     have n2:=aBV hb c2
     have v2:=fU c2
     have v1:=eH (l:=a) (k:=i) (by omega)
     have v3:=eH (l:=a) (k:=i+1) (by omega)
     refine⟨c+(b[i]).toNat,by omega,by rw[Nat.mul_add,v3];omega,by omega,by rw[dif_neg c1,dif_pos c2];omega⟩
  rw[aM (aGI a b i c out x hx ho (by omega) (by omega) hc e3 ha.1 hb.1),ih (i+1) (x / BB) _ (by rw[cL];omega) (by omega) (by simp[ho])]
  rw[e1]at e2 ⊢
  rw[aGz e2];simp
theorem aGk (x y:Nat)(hx:(aA x).length<=1000)(hy:(aA y).length<=1000):rX (aA x) (aA y)=some (aA (x+y)):=by
 unfold rX
 have:=aKC (aA x) (aA y) (aJP x) (aJP y) hx hy _ 0 0 [] (by omega) (Nat.add_zero _) rfl
 rw[show((0:Nat):Int)=0 from rfl,List.drop_zero,List.drop_zero,cA,cA,Nat.zero_add]at this
 rw[this];rfl
theorem aJR (x y:Nat)(hx:(aA x).length<=1000)(hy:(aA y).length<=1000):uS (aA x) (aA y)=some (aA (x+y)):=aGk x y hx hy
theorem aJh (a b:List Int)(ha:dgs a)(hb:dgs b)(hla:a.length<=1000)(hab:b.length<=a.length):∀ (m i c:Nat) (out:List Int),c<=1->m+i=a.length->out.length=i->dgs out->val (a.take i)+c*BB ^ i=val out+val (b.take i)->
 ∃ (c':Nat) (out':List Int),lp (jX a b) ((c:Int),(i:Int),out)=some out'/\lp (kG a b) ((c:Int),(i:Int),out++List.replicate m 0)=some out'/\dgs out'/\out'.length=a.length/\val a+c'*BB ^ a.length=val out'+val b:=by
 intro m
 induction m with
 | zero =>
  intro i c out hc hm ho hd hv
  have e:i=a.length:=by omega
  refine⟨c,out,aF ?_,aF ?_,hd,by omega,?_⟩
  · unfold jX;simp only[];rw[if_neg (by omega)]
  · unfold kG;simp only[];rw[if_neg (by omega)];simp
  · rw[e,List.take_length,List.take_of_length_le hab]at hv;exact hv
 | succ m ih =>
  intro i c out hc hm ho hd hv
  have h1:i<a.length:=by omega
  have d1:=jU ha h1
  obtain⟨bi,hb1,hb2,hb3⟩:∃ bi:Nat,bi<1000000000/\val (b.take (i+1))=val (b.take i)+BB ^ i*bi/\(bi:Int)=(if h:i<b.length then b[i]else 0):=by
   by_cases c2:i<b.length
   · have d2:=jU hb c2
     exact⟨(b[i]).toNat,by omega,lY c2,by rw[dif_pos c2];omega⟩
   · refine⟨0,by omega,?_,by rw[dif_neg c2];rfl⟩
     rw[List.take_of_length_le (by omega),List.take_of_length_le (by omega)];simp
  obtain⟨n,c',hn,hc',he⟩:∃ n c':Nat,n<1000000000/\c'<=1/\a[i]-(c:Int)-(bi:Int)+c'*1000000000=(n:Int)/\(c'=1↔a[i]-(c:Int)-(bi:Int)<0):=by
   by_cases g:a[i]-(c:Int)-(bi:Int)<0
   · exact⟨(a[i]-(c:Int)-(bi:Int)+1000000000).toNat,1,by omega,by omega,by omega,by simp[g]⟩
   · exact⟨(a[i]-(c:Int)-(bi:Int)).toNat,0,by omega,by omega,by omega,by simp[g]⟩
  obtain⟨he,hg⟩:=he
  have hs:(n:Int)=a[i]-c-bi+c'*1000000000:=by omega
  have s0:(((if((i:Int)<(b.length:Int))then(idx b (i:Int)).bind fun y16=>(aS (i64.wrap (i64.wrap (a[i]-c)-y16))).bind fun v17=>some v17 else some (i64.wrap (a[i]-c))):Option Int).bind (fun d19=>((if(d19<0)then(aS (i64.wrap (d19+1000000000))).bind fun v21=>some (1,v21)else some (0,d19)):Option (Int×Int))))=some ((c':Int),(n:Int)):=by
   rw[wi (by omega)]
   have fin:∀ z:Int,z=a[i]-c-bi->(if(z<0)then(aS (i64.wrap (z+1000000000))).bind fun v21=>some ((1:Int),v21)else some (0,z))=some ((c':Int),(n:Int)):=by
    intro z hz
    by_cases g:z<0
    · have e1:c'=1:=hg.2 (by omega)
      subst e1
      rw[if_pos g,aI,wi (by omega)];congr 2;omega
    · have e1:c'=0:=by
       have:¬c'=1:=fun h=>g (by have:=hg.1 h;omega)
       omega
      subst e1
      rw[if_neg g];congr 2;omega
   by_cases c2:i<b.length
   · rw[dif_pos c2]at hb3
     rw[if_pos (by omega),aG c2]
     simp only[Option.bind_some,aI]
     rw[wi (by omega)]
     exact fin _ (by omega)
   · rw[dif_neg c2]at hb3
     rw[if_neg (by omega)]
     simp only[Option.bind_some]
     exact fin _ (by omega)
  have s1:jX a b ((c:Int),(i:Int),out)=some (.inl ((c':Int),((i+1:Nat):Int),out++[(n:Int)])):=by
   unfold jX
   simp only[]
   rw[if_pos (by omega),aG h1]
   simp only[Option.bind_some]
   rw[<- Option.bind_assoc,s0]
   simp only[Option.bind_some]
   rw[aJ (by omega),wi (by omega)];rfl
  have s2:kG a b ((c:Int),(i:Int),out++List.replicate (m+1) 0)=some (.inl ((c':Int),((i+1:Nat):Int),(out++[(n:Int)])++List.replicate m 0)):=by
   unfold kG
   simp only[]
   rw[if_pos (by omega),aG h1]
   simp only[Option.bind_some]
   rw[<- Option.bind_assoc,s0]
   simp only[Option.bind_some]
   rw[aG (by simp;omega),wi (by omega)]
   simp only[Option.bind_some,aI,mU]
   congr 4
   rw[List.set_append_right _ _ (by omega),ho,Nat.sub_self,List.replicate_succ,List.set_cons_zero];simp
  rw[aM s1,aM s2]
  refine ih (i+1) c' _ hc' (by omega) (by simp[ho]) (by rw[aIi];exact⟨hd,by intro z hz;simp at hz;omega⟩) ?_
  rw[lY h1,aE3,hb2,ho]
  have e:=congrArg (BB ^ i*·) (show(a[i]).toNat+c'*BB=n+bi+c by rw[cL];omega)
  simp only[Nat.mul_add]at e
  simp only[val,Int.toNat_natCast,Nat.mul_zero,Nat.add_zero]
  have e2:c'*BB ^ (i+1)=BB ^ i*(c'*BB):=by rw[Nat.pow_succ,Nat.mul_comm c',Nat.mul_assoc,Nat.mul_comm BB c']
  rw[e2]
  rw[Nat.mul_comm c]at hv
  omega
theorem aKX {a b c' L:Nat}{out:List Int}(hd:dgs out)(hl:out.length=L)(h:a+c'*BB ^ L=val out+b)(hab:b<=a):val out=a-b:=by
 have:=aCG hd
 rw[hl]at this
 cases c' with
 | zero=>simp at h;omega
 | succ c =>
  rw[Nat.succ_mul]at h
  have:0<=c*BB ^ L:=Nat.zero_le _
  omega
theorem vM (x y:Nat)(hx:(aA x).length<=1000)(hyx:y<=x):mQ (aA x) (aA y)=some (aA (x-y))/\nA (aA x) (aA y)=some (aA (x-y)):=by
 have hl:(aA y).length<=(aA x).length:=eG hyx (Nat.le_refl _)
 obtain⟨c',out',e1,e2,e3,e4,e5⟩:=aJh (aA x) (aA y) (dH x) (dH y) hx hl (aA x).length 0 0 [] (by omega) (by omega) rfl zZ (by simp[val])
 rw[cA,cA]at e5
 have hv:=aKX e3 e4 e5 hyx
 rw[show((0:Nat):Int)=0 from rfl]at e1 e2
 rw[List.nil_append]at e2
 constructor
 · unfold mQ
   rw[e1]
   simp only[Option.bind_some]
   rw[wJ e3 (by omega),hv];rfl
 · unfold nA
   rw[aJ (by omega)]
   simp only[Option.bind_some,Int.toNat_natCast]
   rw[e2]
   simp only[Option.bind_some]
   rw[tC,wJ e3 (by omega),hv];rfl
end Go.Ev
/- Naturals as limbs: products; both programs. -/
namespace Go.Ev
set_option linter.all false
theorem aF8 (a b:List Int)(i:Nat)(hi:i<a.length):qC a b (i:Int)=gD b (i:Int) a[i]:=by
 funext s
 obtain⟨c,j,v⟩:=s
 unfold qC gD
 simp only[aG hi,Option.bind_some,aI]
 split
 · cases idx v (IntKind.i64.wrap ((i:Int)+j))with
   | none=>cases idx b j <;> rfl
   | some y =>
    cases idx b j with
    | none=>rfl
    | some z=>simp only[Option.bind_some];rw[Int.add_comm c]
 · rfl
theorem aIK (b:List Int)(i x:Nat)(hx:x<1000000000)(hb:dgs b)(hlb:b.length<=1000)(hi:i<=1000):∀ (m j c:Nat) (v:List Int),m+j=b.length->c<1000000000->dgs v->i+b.length<=v.length->v.length<=2000->
 ∃ (c':Nat) (v':List Int),lp (gD b (i:Int) (x:Int)) ((c:Int),(j:Int),v)=some ((c':Int),v')/\c' < 1000000000/\dgs v'/\v'.length=v.length/\v'.drop (i+b.length)=v.drop (i+b.length)/\
  val v'+c'*BB ^ (i+b.length)+x*BB ^ i*val (b.take j)=val v+c*BB ^ (i+j)+x*BB ^ i*val b:=by
 intro m
 induction m with
 | zero =>
  intro j c v hm hc hv hl hl2
  have e:j=b.length:=by omega
  subst e
  refine⟨c,v,aF ?_,hc,hv,rfl,rfl,?_⟩
  · unfold gD;simp only[];rw[if_neg (by omega)]
  · rw[List.take_length]
 | succ m ih =>
  intro j c v hm hc hv hl hl2
  have h1:j<b.length:=by omega
  have h2:i+j<v.length:=by omega
  have d1:=jU hb h1
  have d2:=jU hv h2
  obtain⟨y,hy⟩:∃ y:Nat,b[j]=(y:Int):=⟨(b[j]).toNat,by omega⟩
  obtain⟨z,hz⟩:∃ z:Nat,v[i+j]=(z:Int):=⟨(v[i+j]).toNat,by omega⟩
  have hxy:x*y<=999999999*999999999:=Nat.mul_le_mul (by omega) (by omega)
  have hxy0:((x:Int)*(y:Int))=((x*y:Nat):Int):=by push_cast;rfl
  have s1:gD b (i:Int) (x:Int) ((c:Int),(j:Int),v)=some (.inl ((((z+x*y+c) / BB:Nat):Int),((j+1:Nat):Int),v.set (i+j) (((z+x*y+c) % BB:Nat):Int))):=by
   unfold gD
   simp only[]
   rw[if_pos (by omega),aG h1,wi (by omega),show(i:Int)+(j:Int)=((i+j:Nat):Int)by omega,aG h2]
   simp only[Option.bind_some,aI,mU,hy,hz,hxy0]
   rw[wi (n:=((x*y:Nat):Int)) (by omega),wi (n:=(z:Int)+_) (by omega),wi (n:=(z:Int)+_+_) (by omega),show(z:Int)+((x*y:Nat):Int)+(c:Int)=((z+x*y+c:Nat):Int)by omega,aCI,aCJ,wi (by rw[cL];omega),wi (by omega)]
   rfl
  have hm1:=Nat.mod_lt (z+x*y+c) qH
  have hm2:=Nat.mod_add_div (z+x*y+c) BB
  obtain⟨c',v',e1,e2,e3,e4,e5,e6⟩:=ih (j+1) ((z+x*y+c) / BB) (v.set (i+j) (((z+x*y+c) % BB:Nat):Int)) (by omega) (by rw[cL];omega) (aBm hv _ _ (by rw[cL]at hm1 ⊢;omega)) (by simpa using hl) (by simpa using hl2)
  refine⟨c',v',by rw[aM s1];exact e1,e2,e3,by simpa using e4,?_,?_⟩
  · rw[e5,List.drop_set_of_lt (by omega)]
  · have hs:=aE2 (l:=v) (x:=(((z+x*y+c) % BB:Nat):Int)) h2
    rw[hz]at hs
    simp only[Int.toNat_natCast]at hs
    rw[lY h1,hy,Int.toNat_natCast]at e6
    have f1:x*BB ^ i*(val (b.take j)+BB ^ j*y)=x*BB ^ i*val (b.take j)+BB ^ (i+j)*(x*y):=by
     rw[Nat.mul_add,Nat.pow_add]
     congr 1
     rw[Nat.mul_assoc x,Nat.mul_assoc (BB ^ i),Nat.mul_left_comm x,Nat.mul_left_comm x]
    rw[f1]at e6
    have f2:(z+x*y+c) / BB*BB ^ (i+(j+1))=BB ^ (i+j)*(BB*((z+x*y+c) / BB)):=by
     rw[<- Nat.add_assoc,Nat.pow_succ,Nat.mul_comm ((z+x*y+c) / BB),Nat.mul_assoc]
    rw[f2]at e6
    have f3:=congrArg (BB ^ (i+j)*·) hm2
    simp only[Nat.mul_add]at f3
    rw[Nat.mul_comm c]
    omega
theorem sW {l:List Int}{k:Nat}{x:Int}:(l.set k x).drop (k+1)=l.drop (k+1):=by rw[List.drop_set_of_lt (by omega)]
theorem aIJ (a b:List Int)(ha:dgs a)(hb:dgs b)(hla:a.length<=900)(hlb:b.length<=900):∀ (m i:Nat) (v:List Int),m+i=a.length->v.length=a.length+b.length->dgs v->v.drop (i+b.length)=List.replicate m 0->val v=val (a.take i)*val b->
 ∃ v':List Int,lp (jY a b) ((i:Int),v)=some v'/\lp (kH a b) ((i:Int),v)=some v'/\dgs v'/\v'.length=a.length+b.length/\val v'=val a*val b:=by
 intro m
 induction m with
 | zero =>
  intro i v hm hl hv hz he
  have e:i=a.length:=by omega
  subst e
  rw[List.take_length]at he
  refine⟨v,aF ?_,aF ?_,hv,hl,he⟩
  · unfold jY;simp only[];rw[if_neg (by omega)]
  · unfold kH;simp only[];rw[if_neg (by omega)]
 | succ m ih =>
  intro i v hm hl hv hz he
  have h1:i<a.length:=by omega
  have d1:=jU ha h1
  obtain⟨x,hx⟩:∃ x:Nat,a[i]=(x:Int):=⟨(a[i]).toNat,by omega⟩
  obtain⟨c',v',e1,e2,e3,e4,e5,e6⟩:=aIK b i x (by omega) hb (by omega) (by omega) b.length 0 0 v (by omega) (by omega) hv (by omega) (by omega)
  rw[show((0:Nat):Int)=0 from rfl]at e1
  have h2:i+b.length<v'.length:=by omega
  have hzero:v'[i+b.length]=0:=by
   have q:(v'.drop (i+b.length))[0]?=some 0:=by rw[e5,hz];simp[List.replicate_succ]
   rw[List.getElem?_drop,Nat.add_zero,List.getElem?_eq_getElem h2]at q
   exact Option.some.inj q
  have s1:jY a b ((i:Int),v)=some (.inl (((i+1:Nat):Int),v'.set (i+b.length) (c':Int))):=by
   unfold jY
   simp only[]
   rw[if_pos (by omega),aG h1,hx]
   simp only[Option.bind_some]
   rw[e1]
   simp only[Option.bind_some,aI]
   rw[wi (by omega),show(i:Int)+(b.length:Int)=((i+b.length:Nat):Int)by omega,aG h2]
   simp only[Option.bind_some,mU]
   rw[wi (by omega)];rfl
  have s2:kH a b ((i:Int),v)=some (.inl (((i+1:Nat):Int),v'.set (i+b.length) (c':Int))):=by
   unfold kH
   simp only[]
   rw[if_pos (by omega),aF8 a b i h1,hx,e1]
   simp only[Option.bind_some,aI]
   rw[wi (by omega),show(i:Int)+(b.length:Int)=((i+b.length:Nat):Int)by omega,aG h2]
   simp only[Option.bind_some,mU]
   rw[wi (by omega)];rfl
  rw[aM s1,aM s2]
  refine ih (i+1) _ (by omega) (by rw[List.length_set];omega) (aBm e3 _ _ (by omega)) ?_ ?_
  · rw[show i+1+b.length=(i+b.length)+1 by omega,sW,<- List.drop_drop,e5,hz,List.replicate_succ];simp
  · have hs:=aE2 (l:=v') (x:=(c':Int)) h2
    rw[hzero]at hs
    simp only[Int.toNat_natCast,Int.toNat_zero,Nat.mul_zero,Nat.add_zero]at hs
    rw[List.take_zero]at e6
    simp only[val,Nat.mul_zero,Nat.zero_mul,Nat.add_zero]at e6
    rw[lY h1,hx,Int.toNat_natCast,Nat.add_mul,<- he,hs,Nat.mul_comm (BB ^ (i+b.length)),e6,Nat.mul_comm x]
theorem lO (x y:Nat)(hx:(aA x).length<=900)(hy:(aA y).length<=900):cJ (aA x) (aA y)=some (aA (x*y))/\pK (aA x) (aA y)=some (aA (x*y)):=by
 unfold cJ pK
 by_cases c1:(aA x).length=0
 · have:x=0:=aDG.1 (List.length_eq_zero_iff.1 c1)
   subst this
   rw[if_pos (by omega)]
   simp[aT]
 · rw[if_neg (by omega)]
   by_cases c2:(aA y).length=0
   · have:y=0:=aDG.1 (List.length_eq_zero_iff.1 c2)
     subst this
     simp[aT]
   · have n2:¬(((aA y).length:Int)=0):=by omega
     simp only[n2,decide_false,Option.bind_some,Bool.false_eq_true,if_false,aI]
     rw[wi (by omega),show((aA x).length:Int)+((aA y).length:Int)=(((aA x).length+(aA y).length:Nat):Int)by omega,aJ (by omega)]
     simp only[Option.bind_some,Int.toNat_natCast]
     obtain⟨v',e1,e2,e3,e4,e5⟩:=aIJ (aA x) (aA y) (dH x) (dH y) hx hy (aA x).length 0 (List.replicate ((aA x).length+(aA y).length) 0) (by omega) (by simp) (aCA _) (by simp) (by simp[aKT,val])
     rw[show((0:Nat):Int)=0 from rfl]at e1 e2
     rw[cA,cA]at e5
     rw[e1,e2]
     simp only[Option.bind_some]
     rw[tC,wJ e3 (by omega),e5]
     exact⟨rfl,rfl⟩
end Go.Ev
/- Naturals as limbs: quotients; both programs. -/
namespace Go.Ev
set_option linter.all false
theorem aLj (x y:Nat):(aA (x / y)).length<=(aA x).length:=eG (Nat.div_le_self x y) (Nat.le_refl _)
theorem aH2 (x:Nat){y:Nat}(h:0<y):(aA (x % y)).length<=(aA y).length:=eG (Nat.le_of_lt (Nat.mod_lt x h)) (Nat.le_refl _)
theorem aFQ (x y:Nat):((x:Int)).tdiv (y:Int)=((x / y:Nat):Int):=by
 rw[Int.tdiv_eq_ediv_of_nonneg (by omega)];rfl
theorem aGX (x y:Nat):((x:Int)).tmod (y:Int)=((x % y:Nat):Int):=by
 rw[Int.tmod_eq_emod_of_nonneg (by omega)];rfl
theorem aLI (r:Nat):(r:Int)*1000000000=((r*BB:Nat):Int):=by rw[Int.natCast_mul];rfl
theorem aGZ (a:List Int)(d:Nat)(hd:0<d/\d<1000000000)(ha:dgs a)(hla:a.length<=1000):∀ (k r:Nat) (v:List Int),k<=a.length->r<d->dgs v->v.length=a.length->val (a.drop k)=d*val (v.drop k)+r->v.take k=List.replicate k 0->
 ∃ (r':Nat) (v':List Int),lp (iC a (d:Int)) ((r:Int),(k:Int)-1,v)=some ((r':Int),v')/\r' < d/\dgs v'/\v'.length=a.length/\val a=d*val v'+r':=by
 intro k
 induction k with
 | zero =>
  intro r v hk hr hv hl he ht
  refine⟨r,v,aF ?_,hr,hv,hl,by simpa using he⟩
  unfold iC;simp only[];rw[if_neg (by omega)]
 | succ k ih =>
  intro r v hk hr hv hl he ht
  have h1:k<a.length:=by omega
  have h2:k<v.length:=by omega
  have d1:=jU ha h1
  obtain⟨x,hx⟩:∃ x:Nat,a[k]=(x:Int):=⟨(a[k]).toNat,by omega⟩
  have hn:r*BB+x<d*BB:=by
   have:(r+1)*BB<=d*BB:=Nat.mul_le_mul_right _ hr
   rw[Nat.succ_mul]at this
   have:x<BB:=by rw[cL];omega
   omega
  have hq:(r*BB+x) / d<BB:=by rw[Nat.div_lt_iff_lt_mul hd.1,Nat.mul_comm BB];exact hn
  have hm:=Nat.mod_lt (r*BB+x) hd.1
  have hmd:=Nat.mod_add_div (r*BB+x) d
  have hrB:r*BB<=999999999*1000000000:=Nat.mul_le_mul (by omega) (by rw[cL];omega)
  have t1:=aFQ (r*BB+x) d
  have t2:=aGX (r*BB+x) d
  generalize (r*BB+x) / d=Q at hq hmd t1
  generalize (r*BB+x) % d=R at hm hmd t2
  rw[cL]at hq
  have s1:iC a (d:Int) ((r:Int),((k+1:Nat):Int)-1,v)=some (.inl ((R:Int),(k:Int)-1,v.set k (Q:Int))):=by
   unfold iC
   simp only[]
   rw[show((k+1:Nat):Int)-1=(k:Int)by omega,if_pos (by omega),aG h1,hx,aG h2]
   simp only[Option.bind_some,aI,mU]
   rw[aLI,wi (n:=((r*BB:Nat):Int)) (by omega),show((r*BB:Nat):Int)+(x:Int)=((r*BB+x:Nat):Int)by omega,aJ (by omega),wi (n:=((r*BB+x:Nat):Int)) (by omega),t1,t2]
   simp only[Option.bind_some]
   rw[wi (by omega),wi (by omega)]
  obtain⟨r',v',e1,e2,e3,e4,e5⟩:=ih R (v.set k (Q:Int)) (by omega) hm (aBm hv _ _ (by omega)) (by simpa using hl) (by
   rw[fU h1,fU (l:=v.set k _) (by simpa using h2),List.getElem_set_self,sW,he,hx,Int.toNat_natCast,Int.toNat_natCast]
   rw[Nat.mul_add,Nat.mul_add d,<- Nat.mul_assoc BB d,<- Nat.mul_assoc d BB,Nat.mul_comm BB d]
   rw[Nat.mul_comm BB r]
   omega) (by
   rw[List.take_set_of_le (by omega)]
   have:=congrArg (List.take k) ht
   rw[List.take_take,Nat.min_eq_left (by omega),List.take_replicate,Nat.min_eq_left (by omega)]at this
   exact this)
  exact⟨r',v',by rw[aM s1];exact e1,e2,e3,e4,e5⟩
theorem aAK {a b q r:Nat}(hb:r<b)(h:a=b*q+r):q=a / b/\r=a % b:=by
 subst h
 constructor
 · rw[Nat.mul_comm,Nat.add_comm,Nat.add_mul_div_right _ _ (by omega),Nat.div_eq_of_lt hb,Nat.zero_add]
 · rw[Nat.add_comm,Nat.add_mul_mod_self_left,Nat.mod_eq_of_lt hb]
theorem aHk (x d:Nat)(hd:0<d/\d<1000000000)(hx:(aA x).length<=1000):oC (aA x) (d:Int)=some (aA (x / d),((x % d:Nat):Int)):=by
 obtain⟨r',v',e1,e2,e3,e4,e5⟩:=aGZ (aA x) d hd (dH x) hx (aA x).length 0 (List.replicate (aA x).length 0) (Nat.le_refl _) hd.1 (aCA _) (by simp) (by rw[eH (Nat.le_refl _),eH (by simp)];rfl) (by simp)
 rw[cA]at e5
 obtain⟨q1,q2⟩:=aAK e2 e5
 unfold oC
 rw[aJ (by omega)]
 simp only[Option.bind_some,aI,Int.toNat_natCast]
 rw[show((0:Nat):Int)=0 from rfl]at e1
 rw[wi (by omega),e1]
 simp only[Option.bind_some]
 rw[wJ e3 (by omega),q1,q2];rfl
theorem aHx (r b:Nat)(hb:0<b)(hlr:(aA r).length<=800)(hlb:(aA b).length<=800):∀ (m lo hi:Nat),hi-lo<=m->lo<=r / b->r / b<=hi->hi<=999999999->lp (dN (aA r) (aA b)) ((lo:Int),(hi:Int))=some ((r / b:Nat):Int):=by
 intro m
 induction m with
 | zero =>
  intro lo hi h1 h2 h3 h4
  have:lo=r / b:=by omega
  subst this
  refine aF ?_
  unfold dN;simp only[];rw[if_neg (by omega)]
 | succ m ih =>
  intro lo hi h1 h2 h3 h4
  by_cases c:lo<hi
  · have hq:((lo:Int)+(hi:Int)+1).tdiv 2=(((lo+hi+1) / 2:Nat):Int):=by
     rw[show(lo:Int)+(hi:Int)+1=((lo+hi+1:Nat):Int)by omega,show(2:Int)=((2:Nat):Int)from rfl,aFQ]
    obtain⟨q,hqe⟩:∃ q,q=(lo+hi+1) / 2:=⟨_,rfl⟩
    have hlq:(aA q).length<=1:=eW (by rw[cL];omega)
    have hlm:(aA (b*q)).length<=900:=by have:=dM b q;omega
    have hc:oQ (b*q) r<=0↔q<=r / b:=by
     rw[Nat.le_div_iff_mul_le hb,Nat.mul_comm q b]
     unfold oQ
     by_cases c1:b*q<r
     · rw[if_pos c1];constructor <;> intro _ <;> omega
     · rw[if_neg c1]
       by_cases c2:r<b*q
       · rw[if_pos c2];constructor <;> intro _ <;> omega
       · rw[if_neg c2];constructor <;> intro _ <;> omega
    by_cases c2:q<=r / b
    · have s1:dN (aA r) (aA b) ((lo:Int),(hi:Int))=some (.inl ((q:Int),(hi:Int))):=by
       unfold dN
       simp only[aI]
       rw[if_pos (by omega),wi (n:=(lo:Int)+hi) (by omega),wi (n:=(lo:Int)+hi+1) (by omega),hq,<- hqe,wi (by omega),xQ _ (by omega)]
       simp only[Option.bind_some]
       rw[(lO b q (by omega) (by omega)).1]
       simp only[Option.bind_some]
       rw[yW _ _ (by omega) (by omega)]
       simp only[Option.bind_some]
       rw[if_pos (hc.2 c2)]
      rw[aM s1]
      exact ih q hi (by omega) c2 h3 h4
    · have s1:dN (aA r) (aA b) ((lo:Int),(hi:Int))=some (.inl ((lo:Int),((q-1:Nat):Int))):=by
       unfold dN
       simp only[aI]
       rw[if_pos (by omega),wi (n:=(lo:Int)+hi) (by omega),wi (n:=(lo:Int)+hi+1) (by omega),hq,<- hqe,wi (n:=(q:Int)) (by omega),xQ _ (by omega)]
       simp only[Option.bind_some]
       rw[(lO b q (by omega) (by omega)).1]
       simp only[Option.bind_some]
       rw[yW _ _ (by omega) (by omega)]
       simp only[Option.bind_some]
       rw[if_neg (fun h=>c2 (hc.1 h)),wi (by omega),show(q:Int)-1=((q-1:Nat):Int)by omega]
      rw[aM s1]
      exact ih lo (q-1) (by omega) h2 (by omega) (by omega)
  · have:lo=r / b:=by omega
    subst this
    refine aF ?_
    unfold dN;simp only[];rw[if_neg (by omega)]
theorem aHl (r b:Nat)(hb:0<b)(hlr:(aA r).length<=800)(hlb:(aA b).length<=800)(h:r / b<=999999999):oD (aA r) (aA b)=some ((r / b:Nat):Int):=by
 unfold oD
 have:=aHx r b hb hlr hlb 999999999 0 999999999 (by omega) (Nat.zero_le _) h (Nat.le_refl _)
 rw[show((0:Nat):Int)=0 from rfl,show((999999999:Nat):Int)=999999999 from rfl]at this
 rw[this];rfl
end Go.Ev
/- Naturals as limbs: quotients of any length; both programs. -/
namespace Go.Ev
set_option linter.all false
theorem aB8 {d:Nat}(h:d<BB):(aA d).length<=1:=eW (by simpa using h)
theorem aDB (x R:Nat)(hx:x<1000000000)(hl:(aA R).length<=4000):bY ([(x:Int)]++aA R)=some (aA (x+BB*R)):=by
 rw[wJ (by rw[aIi];exact⟨by intro z hz;simp at hz;omega,dH R⟩) (by simp;omega)]
 rw[List.singleton_append,val,cA,Int.toNat_natCast]
theorem aFU {R b:Nat}(h:R<b*BB):(aA R).length<=(aA b).length+2:=by
 have h1:=dM b BB
 have h2:(aA BB).length<=2:=eW (by rw[cL];omega)
 have h3:=eG (Nat.le_of_lt h) (Nat.le_refl _)
 omega
theorem aHT {x R b:Nat}(hx:x<1000000000)(hR:R<b):x+BB*R<b*BB:=by
 have:(R+1)*BB<=b*BB:=Nat.mul_le_mul_right _ hR
 rw[Nat.succ_mul,Nat.mul_comm R]at this
 have:x<BB:=by rw[cL];omega
 omega
theorem aFf {R b:Nat}(hb:0<b)(h:R<b*BB):R / b<BB:=by rw[Nat.div_lt_iff_lt_mul hb,Nat.mul_comm BB];exact h
theorem aKn (a:List Int)(b:Nat)(hb:0<b)(hlb:(aA b).length<=700)(ha:dgs a)(hla:a.length<=1000):∀ (k R:Nat) (v:List Int),k<=a.length->R<b->dgs v->v.length=a.length->val (a.drop k)=b*val (v.drop k)+R->v.take k=List.replicate k 0->
 ∃ (R':Nat) (v':List Int),lp (jZ a (aA b)) (aA R,(k:Int)-1,v)=some (aA R',v')/\R' < b/\dgs v'/\v'.length=a.length/\val a=b*val v'+R':=by
 intro k
 induction k with
 | zero =>
  intro R v hk hr hv hl he ht
  refine⟨R,v,aF ?_,hr,hv,hl,by simpa using he⟩
  unfold jZ;simp only[];rw[if_neg (by omega)]
 | succ k ih =>
  intro R v hk hr hv hl he ht
  have h1:k<a.length:=by omega
  have h2:k<v.length:=by omega
  have d1:=jU ha h1
  obtain⟨x,hx⟩:∃ x:Nat,a[k]=(x:Int):=⟨(a[k]).toNat,by omega⟩
  have hx2:x<1000000000:=by omega
  have hn:=aHT hx2 hr
  have hq:=aFf hb hn
  have hm:=Nat.mod_lt (x+BB*R) hb
  have hmd:=Nat.mod_add_div (x+BB*R) b
  have hlR:(aA R).length<=(aA b).length:=eG (Nat.le_of_lt hr) (Nat.le_refl _)
  have hlR2:=aFU hn
  have hv0:v[k]=0:=by
   have q:(v.take (k+1))[k]?=some 0:=by rw[ht];simp
   rw[List.getElem?_take_of_lt (by omega),List.getElem?_eq_getElem h2]at q
   exact Option.some.inj q
  obtain⟨Q,hQ⟩:∃ Q,Q=(x+BB*R) / b:=⟨_,rfl⟩
  obtain⟨M,hM⟩:∃ M,M=(x+BB*R) % b:=⟨_,rfl⟩
  have hq':(x+BB*R) / b<1000000000:=Nat.lt_of_lt_of_eq hq cL
  have hq2:Q<1000000000:=by rw[hQ];exact hq'
  have s1:jZ a (aA b) (aA R,((k+1:Nat):Int)-1,v)=some (.inl (aA M,(k:Int)-1,v.set k (Q:Int))):=by
   unfold jZ
   simp only[]
   rw[show((k+1:Nat):Int)-1=(k:Int)by omega,if_pos (by omega),aG h1,hx,aG h2]
   simp only[Option.bind_some,aI,mU]
   rw[aJ (by simp;omega)]
   simp only[Option.bind_some]
   rw[aDB x R hx2 (by omega)]
   simp only[Option.bind_some]
   rw[yW _ _ (by omega) (by omega)]
   simp only[Option.bind_some]
   by_cases c:x+BB*R<b
   · have e1:Q=0:=by rw[hQ,Nat.div_eq_of_lt c]
     have e2:M=x+BB*R:=by rw[hM,Nat.mod_eq_of_lt c]
     have e3:v.set k ((0:Nat):Int)=v:=by
      apply List.ext_getElem
      · simp
      · intro i q1 q2
        rw[List.getElem_set]
        split
        · rename_i h;subst h;exact hv0.symm
        · rfl
     rw[e1,e2,e3,if_pos (by unfold oQ;rw[if_pos c];omega),wi (by omega)]
   · have hcm:¬oQ (x+BB*R) b<0:=by
      unfold oQ;rw[if_neg c];split <;> omega
     rw[if_neg hcm,aHl _ b hb (by omega) (by omega) (by omega)]
     simp only[Option.bind_some]
     rw[<- hQ,xQ _ (by omega)]
     simp only[Option.bind_some]
     have hl1:(aA Q).length<=1:=aB8 (by rw[cL];omega)
     rw[(lO b Q (by omega) (by omega)).1]
     simp only[Option.bind_some]
     rw[<- hM,<- hQ]at hmd
     rw[(vM (x+BB*R) (b*Q) (by omega) (by omega)).1]
     simp only[Option.bind_some]
     rw[show x+BB*R-b*Q=M by omega,wi (by omega)]
  obtain⟨R',v',e1,e2,e3,e4,e5⟩:=ih M (v.set k (Q:Int)) (by omega) (by rw[hM];exact hm) (aBm hv _ _ (by omega)) (by simpa using hl) (by
   rw[fU h1,fU (l:=v.set k _) (by simpa using h2),List.getElem_set_self,sW,he,hx,Int.toNat_natCast,Int.toNat_natCast]
   rw[Nat.mul_add,Nat.mul_add b,<- Nat.mul_assoc BB b,<- Nat.mul_assoc b BB,Nat.mul_comm BB b]
   rw[<- hM,<- hQ]at hmd
   omega) (by
   rw[List.take_set_of_le (by omega)]
   have:=congrArg (List.take k) ht
   rw[List.take_take,Nat.min_eq_left (by omega),List.take_replicate,Nat.min_eq_left (by omega)]at this
   exact this)
  exact⟨R',v',by rw[aM s1];exact e1,e2,e3,e4,e5⟩
theorem aDw (x b:Nat)(hb:0<b)(hx:(aA x).length<=700)(hlb:(aA b).length<=700):iX (aA x) (aA b)=some (aA (x / b),aA (x % b)):=by
 unfold iX
 by_cases c:(aA b).length=1
 · rw[if_pos (by omega)]
   have hbB:b<BB:=by have:=mD b;rw[c,Nat.pow_one]at this;exact this
   have e:=nT hbB (by omega)
   rw[show(0:Int)=((0:Nat):Int)from rfl,aG (by omega)]
   simp only[e,List.getElem_cons_zero,Option.bind_some]
   rw[cL]at hbB
   rw[aHk x b ⟨hb,by omega⟩ (by omega)]
   simp only[Option.bind_some]
   have:=Nat.mod_lt x hb
   rw[xQ _ (by omega)];rfl
 · rw[if_neg (by omega),aJ (by omega)]
   simp only[Option.bind_some,aI,Int.toNat_natCast]
   obtain⟨r',v',e1,e2,e3,e4,e5⟩:=aKn (aA x) b hb hlb (dH x) (by omega) (aA x).length 0 (List.replicate (aA x).length 0) (Nat.le_refl _) hb (aCA _) (by simp) (by rw[eH (Nat.le_refl _),eH (by simp)];rfl) (by simp)
   rw[cA]at e5
   rw[aT]at e1
   obtain⟨q1,q2⟩:=aAK e2 e5
   rw[wi (by omega),e1]
   simp only[Option.bind_some]
   rw[wJ e3 (by omega),q1,q2];rfl
theorem aLe (R b:Nat)(hb:0<b)(hR:b<=R)(h:R<b*BB)(hlb:(aA b).length<=700):∃ g:Nat,oL (aA R) (aA b)=some (g:Int)/\1<=g/\b*g<=R:=by
 obtain⟨m,hm⟩:∃ m,(aA b).length=m+1:=by
  have:(aA b).length≠0:=fun e=>cM (n:=b) (by omega) (List.length_eq_zero_iff.1 e)
  exact⟨(aA b).length-1,by omega⟩
 have hbl:=mD b
 rw[hm,Nat.pow_succ]at hbl
 have hr1:m+1<=(aA R).length:=by rw[<- hm];exact eG hR (Nat.le_refl _)
 have hRl:R<BB ^ m*BB*BB:=Nat.lt_of_lt_of_le h (Nat.mul_le_mul_right _ (Nat.le_of_lt hbl))
 have hr2:(aA R).length<=m+2:=eW (by rw[Nat.pow_succ,Nat.pow_succ];exact hRl)
 have hp:=aJD m
 have hbt:b / BB ^ m<BB:=by rw[Nat.div_lt_iff_lt_mul hp,Nat.mul_comm BB];exact hbl
 have hT:R / BB ^ m<BB*BB:=by rw[Nat.div_lt_iff_lt_mul hp,Nat.mul_comm (BB*BB),<- Nat.mul_assoc];exact hRl
 have hbd:b<BB ^ m*(b / BB ^ m+1):=Nat.lt_mul_div_succ b hp
 have hTd:BB ^ m*(R / BB ^ m)<=R:=Nat.mul_div_le R _
 have hi1:m<(aA R).length:=by omega
 have hi2:m<(aA b).length:=by omega
 have g1:=zB hi1
 have g2:=zB hi2
 rw[Nat.mod_eq_of_lt hbt]at g2
 unfold oL
 simp only[aI]
 rw[hm,wi (by omega),show(((m+1:Nat):Int)-1)=(m:Int)by omega,aG hi1,aG hi2,g1,g2]
 simp only[Option.bind_some]
 have top:((if(((m+1:Nat):Int)<((aA R).length:Int))then(idx (aA R) ((m+1:Nat):Int)).bind fun y3=>some (IntKind.i64.wrap (((R / BB ^ m % BB:Nat):Int)+IntKind.i64.wrap (y3*1000000000)))else some ((R / BB ^ m % BB:Nat):Int)):Option Int)=some ((R / BB ^ m:Nat):Int):=by
  have hmod:=Nat.mod_add_div (R / BB ^ m) BB
  by_cases c:m+1<(aA R).length
  · have g3:=zB c
    rw[Nat.pow_succ,<- Nat.div_div_eq_div_mul]at g3
    have h3:R / BB ^ m / BB<BB:=by rw[Nat.div_lt_iff_lt_mul qH];exact hT
    rw[Nat.mod_eq_of_lt h3]at g3
    rw[if_pos (by omega),aG c,g3]
    simp only[Option.bind_some]
    generalize R / BB ^ m=T at hT hmod h3 ⊢
    have h4:T % BB<BB:=Nat.mod_lt _ qH
    generalize T % BB=T0 at hmod h4 ⊢
    generalize T / BB=T1 at hmod h3 ⊢
    rw[aLI,Nat.mul_comm T1]
    rw[cL]at hT
    rw[wi (n:=((BB*T1:Nat):Int)) (by omega),wi (by omega)];congr 1;omega
  · have e:(aA R).length=m+1:=by omega
    have h3:R / BB ^ m<BB:=by
     rw[Nat.div_lt_iff_lt_mul hp,Nat.mul_comm BB,<- Nat.pow_succ]
     have:=mD R
     rwa [e]at this
    rw[if_neg (by omega),Nat.mod_eq_of_lt h3]
 rw[top]
 simp only[Option.bind_some]
 by_cases c:m=0
 · subst c
   rw[if_pos (by omega),show(0:Int)=((0:Nat):Int)from rfl,aG hi2,g2]
   simp only[Nat.pow_zero,Nat.div_one,Option.bind_some]
   rw[aJ (by omega),aFQ]
   have hq:=aFf hb h
   rw[cL]at hq
   generalize hQ:R / b=Q at hq
   refine⟨Q,by simp only[Option.bind_some];rw[wi (by omega)],?_,?_⟩
   · rw[<- hQ,Nat.le_div_iff_mul_le hb];omega
   · rw[<- hQ];exact Nat.mul_div_le R b
 · rw[if_neg (by omega)]
   generalize b / BB ^ m=t at hbt hbd ⊢
   generalize R / BB ^ m=T at hT hTd ⊢
   rw[cL]at hbt
   rw[wi (n:=(t:Int)+1) (by omega),aJ (by omega),show(t:Int)+1=((t+1:Nat):Int)by omega,aFQ]
   have hg:=Nat.div_mul_le_self T (t+1)
   have hgT:T / (t+1)<=T:=Nat.div_le_self _ _
   generalize T / (t+1)=G at hg hgT ⊢
   rw[cL]at hT
   simp only[Option.bind_some]
   rw[wi (by omega)]
   by_cases c2:G=0
   · subst c2
     exact⟨1,by rw[if_pos (by omega)];rfl,Nat.le_refl _,by omega⟩
   · refine⟨G,by rw[if_neg (by omega)],by omega,?_⟩
     have e1:G*b<=G*(BB ^ m*(t+1)):=Nat.mul_le_mul_left _ (Nat.le_of_lt hbd)
     have e2:BB ^ m*(G*(t+1))<=BB ^ m*T:=Nat.mul_le_mul_left _ hg
     rw[Nat.mul_left_comm]at e2
     rw[Nat.mul_comm b];omega
theorem aHw (b:Nat)(hb:0<b)(hlb:(aA b).length<=700)(k:Nat):∀ (R q0:Nat) (v:List Int),R<b*BB->k<v.length->v[k]?=some (q0:Int)->q0+R / b<=999999999->
 lp (kJ (aA b) (k:Int)) (aA R,v)=some (aA (R % b),v.set k ((q0+R / b:Nat):Int)):=by
 intro R
 induction R using Nat.strongRecOn with
 | _ R ih =>
  intro q0 v hR hk hv hq
  have hl:=aFU hR
  by_cases c:R<b
  · rw[Nat.div_eq_of_lt c,Nat.mod_eq_of_lt c,Nat.add_zero]
    have:v.set k (q0:Int)=v:=by
     apply List.ext_getElem
     · simp
     · intro i p1 p2
       rw[List.getElem_set]
       split
       · rename_i h;subst h
         rw[List.getElem?_eq_getElem hk]at hv;exact(Option.some.inj hv).symm
       · rfl
    rw[this]
    refine aF ?_
    unfold kJ
    simp only[]
    rw[aDf _ _ (by omega) (by omega)]
    simp only[Option.bind_some]
    rw[if_neg (by unfold oQ;rw[if_pos c];omega)]
  · obtain⟨g,e1,e2,e3⟩:=aLe R b hb (by omega) hR hlb
    have hgq:g<=R / b:=by rw[Nat.le_div_iff_mul_le hb,Nat.mul_comm];exact e3
    have hdiv:(R-b*g) / b=R / b-g:=by rw[Nat.sub_mul_div]
    have hmod:(R-b*g) % b=R % b:=Nat.sub_mul_mod (by omega)
    have hbg:b<=b*g:=Nat.le_mul_of_pos_right _ e2
    generalize R / b=Q at hq hgq hdiv ⊢
    have hd:([(g:Int)]:List Int)=aA g:=(nT (by rw[cL];omega) (by omega)).symm
    have hl1:(aA g).length<=1:=aB8 (by rw[cL];omega)
    have s1:kJ (aA b) (k:Int) (aA R,v)=some (.inl (aA (R-b*g),v.set k ((q0+g:Nat):Int))):=by
     unfold kJ
     simp only[]
     rw[aDf _ _ (by omega) (by omega)]
     simp only[Option.bind_some]
     rw[if_pos (by unfold oQ;rw[if_neg c];split <;> omega),e1]
     simp only[Option.bind_some]
     rw[hd,(lO b g (by omega) (by omega)).2]
     simp only[Option.bind_some]
     rw[(vM R (b*g) (by omega) e3).2]
     simp only[Option.bind_some]
     rw[aFt,hv]
     simp only[Option.bind_some,aI,mU]
     rw[wi (by omega)];rfl
    rw[aM s1,ih (R-b*g) (by omega) (q0+g) _ (by omega) (by simpa using hk) (by rw[List.getElem?_set_self hk]) (by rw[hdiv];omega),hmod,hdiv,List.set_set]
    congr 3;congr 1;omega
theorem aI1 (a:List Int)(b:Nat)(hb:0<b)(hlb:(aA b).length<=700)(ha:dgs a)(hla:a.length<=1000):∀ (k R:Nat) (v:List Int),k<=a.length->R<b->dgs v->v.length=a.length->val (a.drop k)=b*val (v.drop k)+R->v.take k=List.replicate k 0->
 ∃ (R':Nat) (v':List Int),lp (kI a (aA b)) (aA R,(k:Int)-1,v)=some (aA R',v')/\R' < b/\dgs v'/\v'.length=a.length/\val a=b*val v'+R':=by
 intro k
 induction k with
 | zero =>
  intro R v hk hr hv hl he ht
  refine⟨R,v,aF ?_,hr,hv,hl,by simpa using he⟩
  unfold kI;simp only[];rw[if_neg (by omega)]
 | succ k ih =>
  intro R v hk hr hv hl he ht
  have h1:k<a.length:=by omega
  have h2:k<v.length:=by omega
  have d1:=jU ha h1
  obtain⟨x,hx⟩:∃ x:Nat,a[k]=(x:Int):=⟨(a[k]).toNat,by omega⟩
  have hx2:x<1000000000:=by omega
  have hn:=aHT hx2 hr
  have hq:=aFf hb hn
  have hm:=Nat.mod_lt (x+BB*R) hb
  have hmd:=Nat.mod_add_div (x+BB*R) b
  have hlR:(aA R).length<=(aA b).length:=eG (Nat.le_of_lt hr) (Nat.le_refl _)
  have hv0:v[k]?=some ((0:Nat):Int):=by
   have q:(v.take (k+1))[k]?=some 0:=by rw[ht];simp
   rw[List.getElem?_take_of_lt (by omega)]at q
   exact q
  have hq':(x+BB*R) / b<1000000000:=Nat.lt_of_lt_of_eq hq cL
  clear hq
  have inn:=aHw b hb hlb k (x+BB*R) 0 v hn h2 hv0 (by omega)
  rw[Nat.zero_add]at inn
  generalize (x+BB*R) / b=Q at hq' hmd inn
  generalize (x+BB*R) % b=M at hm hmd inn
  have s1:kI a (aA b) (aA R,((k+1:Nat):Int)-1,v)=some (.inl (aA M,(k:Int)-1,v.set k (Q:Int))):=by
   unfold kI
   simp only[]
   rw[show((k+1:Nat):Int)-1=(k:Int)by omega,if_pos (by omega),aG h1,hx]
   simp only[Option.bind_some,aI]
   rw[aJ (by simp;omega)]
   simp only[Option.bind_some]
   rw[tC,aDB x R hx2 (by omega)]
   simp only[Option.bind_some]
   rw[inn]
   simp only[Option.bind_some]
   rw[wi (by omega)]
  obtain⟨R',v',e1,e2,e3,e4,e5⟩:=ih M (v.set k (Q:Int)) (by omega) hm (aBm hv _ _ (by omega)) (by simpa using hl) (by
   rw[fU h1,fU (l:=v.set k _) (by simpa using h2),List.getElem_set_self,sW,he,hx,Int.toNat_natCast,Int.toNat_natCast]
   rw[Nat.mul_add,Nat.mul_add b,<- Nat.mul_assoc BB b,<- Nat.mul_assoc b BB,Nat.mul_comm BB b]
   omega) (by
   rw[List.take_set_of_le (by omega)]
   have:=congrArg (List.take k) ht
   rw[List.take_take,Nat.min_eq_left (by omega),List.take_replicate,Nat.min_eq_left (by omega)]at this
   exact this)
  exact⟨R',v',by rw[aM s1];exact e1,e2,e3,e4,e5⟩
theorem aJj:∀ (l:List Int),dgs l->l.length<=2->eF l=some (val l:Int)
 | [],_,_=>by
  unfold eF
  simp only[aI,List.length_nil]
  rw[wi (by omega),aF (r:=0) (by unfold cE;simp)];rfl
 | [d],h,_=>by
  rw[kO]at h
  unfold eF
  simp only[aI,List.length_cons,List.length_nil]
  have s1:cE [d] (0,((0:Nat):Int))=some (.inl (d,-1)):=by
   unfold cE
   simp only[]
   rw[if_pos (by omega),aG (by simp)]
   simp only[Option.bind_some,aI,List.getElem_cons_zero]
   rw[wi (n:=0*1000000000) (by omega),wi (by omega),wi (by omega)]
   simp
  rw[wi (by omega),show(((0+1:Nat):Int)-1)=((0:Nat):Int)by omega,aM s1,aF (r:=d) (by unfold cE;simp)]
  simp[val] <;> omega
 | [d,e],h,_=>by
  rw[kO,kO]at h
  unfold eF
  simp only[aI,List.length_cons,List.length_nil]
  have s1:cE [d,e] (0,((1:Nat):Int))=some (.inl (e,((0:Nat):Int))):=by
   unfold cE
   simp only[]
   rw[if_pos (by omega),aG (by simp)]
   simp only[Option.bind_some,aI,List.getElem_cons_zero,List.getElem_cons_succ]
   rw[wi (n:=0*1000000000) (by omega),wi (by omega),wi (by omega)]
   simp
  have s2:cE [d,e] (e,((0:Nat):Int))=some (.inl (e*1000000000+d,-1)):=by
   unfold cE
   simp only[]
   rw[if_pos (by omega),aG (by simp)]
   simp only[Option.bind_some,aI,List.getElem_cons_zero]
   rw[wi (n:=e*1000000000) (by omega),wi (by omega),wi (by omega)]
   rfl
  rw[wi (by omega),show(((0+1+1:Nat):Int)-1)=((1:Nat):Int)by omega,aM s1,aM s2,aF (r:=e*1000000000+d) (by unfold cE;simp)]
  simp only[Option.bind_some,val,cL,Nat.mul_zero,Nat.add_zero]
  congr 1;omega
 | _::_::_::_,_,h=>by simp at h <;> omega
theorem aAT (x:Nat)(h:(aA x).length<=2):eF (aA x)=some (x:Int):=by rw[aJj _ (dH x) h,cA]
theorem qS {x:Nat}(h:(aA x).length<=2):x<1000000000000000000:=by
 have h1:=mD x
 have h2:BB ^ (aA x).length<=BB ^ 2:=Nat.pow_le_pow_right qH h
 have h3:BB ^ 2=1000000000000000000:=by rw[cL]
 omega
theorem aDe (x b:Nat)(hb:0<b)(hx:(aA x).length<=700)(hlb:(aA b).length<=700):nB (aA x) (aA b)=some (aA (x / b),aA (x % b)):=by
 unfold nB
 by_cases c:(aA x).length<=2/\(aA b).length<=2
 · have h1:=qS c.1
   have h2:=qS c.2
   have n1:((aA x).length:Int)<=2:=by omega
   have n2:((aA b).length:Int)<=2:=by omega
   simp only[n1,n2,if_true,decide_true,Option.bind_some]
   rw[aAT x c.1,aAT b c.2]
   simp only[Option.bind_some,aI]
   have q1:=Nat.div_le_self x b
   have q2:=Nat.mod_le x b
   rw[aJ (by omega),aFQ,aGX]
   generalize x / b=Q at q1 ⊢
   generalize x % b=M at q2 ⊢
   simp only[Option.bind_some]
   rw[wi (by omega),wu (by omega),wu (by omega),sC Q (by omega),sC M (by omega)]
   rfl
 · have:((if((aA x).length:Int)<=2 then some (decide (((aA b).length:Int)<=2))else some false):Option Bool)=some false:=by
    by_cases c1:(aA x).length<=2
    · have c2:¬(aA b).length<=2:=fun h=>c ⟨c1,h⟩
      rw[if_pos (by omega),decide_eq_false (by omega)]
    · rw[if_neg (by omega)]
   rw[this]
   simp only[Option.bind_some,Bool.false_eq_true,if_false,aI]
   rw[aJ (by omega)]
   simp only[Option.bind_some,Int.toNat_natCast]
   obtain⟨r',v',e1,e2,e3,e4,e5⟩:=aI1 (aA x) b hb hlb (dH x) (by omega) (aA x).length 0 (List.replicate (aA x).length 0) (Nat.le_refl _) hb (aCA _) (by simp) (by rw[eH (Nat.le_refl _),eH (by simp)];rfl) (by simp)
   rw[cA]at e5
   rw[aT]at e1
   obtain⟨q1,q2⟩:=aAK e2 e5
   rw[wi (by omega),e1]
   simp only[Option.bind_some]
   rw[tC,wJ e3 (by omega),q1,q2];rfl
end Go.Ev
/- Naturals as limbs: greatest common divisors, and which lists are naturals; both programs. -/
namespace Go.Ev
set_option linter.all false
theorem aDA (x y:Nat):Nat.gcd x y=Nat.gcd y (x % y):=by rw[Nat.gcd_comm x y,Nat.gcd_rec y x,Nat.gcd_comm]
theorem aC7:∀ (y x:Nat),lp iJ ((x:Int),(y:Int))=some ((Nat.gcd x y:Nat):Int):=by
 intro y
 induction y using Nat.strongRecOn with
 | _ y ih =>
  intro x
  by_cases c:y=0
  · subst c
    rw[Nat.gcd_zero_right]
    exact aF (by unfold iJ;simp)
  · have s1:iJ ((x:Int),(y:Int))=some (.inl ((y:Int),((x % y:Nat):Int))):=by
     unfold iJ
     simp only[]
     rw[if_pos (by omega),aJ (by omega),aGX];rfl
    rw[aM s1,ih (x % y) (Nat.mod_lt _ (by omega)),<- aDA]
theorem aG7:qQ=iJ:=rfl
theorem aGs {x y:Nat}(hx:x<1000000000000000000)(hy:y<1000000000000000000):Nat.gcd x y<1000000000000000000:=by
 by_cases c:x=0
 · subst c;rw[Nat.gcd_zero_left];exact hy
 · have:=Nat.gcd_le_left y (Nat.pos_of_ne_zero c);omega
theorem aIQ:∀ (y x:Nat),(aA x).length<=700->(aA y).length<=700->∃ r,lp iI (aA x,aA y)=some r/\(r=.inl (aA (Nat.gcd x y))\/r=.inr (aA (Nat.gcd x y))):=by
 intro y
 induction y using Nat.strongRecOn with
 | _ y ih =>
  intro x hx hy
  by_cases c:y=0
  · subst c
    rw[Nat.gcd_zero_right]
    refine⟨.inl (aA x),aF ?_,.inl rfl⟩
    unfold iI
    simp[aT]
  · have hy0:(aA y).length≠0:=fun e=>cM c (List.length_eq_zero_iff.1 e)
    by_cases c2:(aA x).length<=2/\(aA y).length<=2
    · refine⟨.inr (aA (Nat.gcd x y)),aF ?_,.inr rfl⟩
      have h1:=qS c2.1
      have h2:=qS c2.2
      have h3:=aGs h1 h2
      have n1:((aA x).length:Int)<=2:=by omega
      have n2:((aA y).length:Int)<=2:=by omega
      unfold iI
      simp only[n1,n2,if_true,decide_true,Option.bind_some]
      rw[if_pos (by omega),aAT x c2.1,aAT y c2.2]
      simp only[Option.bind_some]
      rw[aC7]
      simp only[Option.bind_some]
      rw[wu (by omega),sC _ (by omega)];rfl
    · have s1:iI (aA x,aA y)=some (.inl (aA y,aA (x % y))):=by
       unfold iI
       simp only[]
       have:((if((aA x).length:Int)<=2 then some (decide (((aA y).length:Int)<=2))else some false):Option Bool)=some false:=by
        by_cases c1:(aA x).length<=2
        · have c2:¬(aA y).length<=2:=fun h=>c2 ⟨c1,h⟩
          rw[if_pos (by omega),decide_eq_false (by omega)]
        · rw[if_neg (by omega)]
       rw[if_pos (by omega),this]
       simp only[Option.bind_some,Bool.false_eq_true,if_false]
       rw[aDe x y (by omega) hx hy];rfl
      rw[aM s1,aDA x y]
      exact ih (x % y) (Nat.mod_lt _ (by omega)) y hy (by have:=aH2 x (y:=y) (by omega);omega)
theorem aF7 (x y:Nat)(hx:(aA x).length<=700)(hy:(aA y).length<=700):pL (aA x) (aA y)=some (aA (Nat.gcd x y)):=by
 unfold pL
 obtain⟨r,e1,e2⟩:=aIQ y x hx hy
 have hl:(aA (Nat.gcd x y)).length<=700:=by
  by_cases c:x=0
  · subst c;rw[Nat.gcd_zero_left];exact hy
  · exact Nat.le_trans (eG (Nat.gcd_le_left y (Nat.pos_of_ne_zero c)) (Nat.le_refl _)) hx
 rw[e1]
 rcases e2 with rfl | rfl
 · simp only[Option.bind_some]
   unfold dJ
   rw[aJ (by simp;omega)];rfl
 · rfl
instance (l:List Int):Decidable (dgs l):=by unfold dgs;infer_instance
def qK (l:List Int):Prop:=dgs l/\l.length<=60/\l.getLast?≠some 0
instance (l:List Int):Decidable (qK l):=by unfold qK;infer_instance
theorem aII {l:List Int}(h:qK l):nat l:=⟨h.1,h.2.2⟩
theorem kZ {l:List Int}(h:qK l):l=aA (val l):=wZ (aII h)
theorem xA {x:Nat}(h:(aA x).length<=60):qK (aA x):=⟨dH x,h,zA x⟩
theorem aJI (l:List Int)(hl:l.length<=4294967296):∀ m k:Nat,m+k=l.length->lp (jQ l) (k:Int)=some (if dgs (l.drop k)then .inl ()else .inr false):=by
 intro m
 induction m with
 | zero =>
  intro k hk
  rw[if_pos (by rw[List.drop_eq_nil_of_le (by omega)];exact zZ)]
  exact aF (by unfold jQ;rw[if_neg (by omega)])
 | succ m ih =>
  intro k hk
  have hlt:k<l.length:=by omega
  by_cases c:0<=l[k]/\l[k]<1000000000
  · have s1:jQ l (k:Int)=some (.inl ((k+1:Nat):Int)):=by
     unfold jQ
     have n1:¬l[k]<0:=by omega
     have n2:¬1000000000<=l[k]:=by omega
     rw[if_pos (by omega),aG hlt,wi (by omega)]
     simp[n1,n2]
    rw[aM s1,ih (k+1) (by omega)]
    have hd:dgs (l.drop k)↔dgs (l.drop (k+1)):=by rw[List.drop_eq_getElem_cons hlt,kO];exact⟨fun h=>h.2,fun h=>⟨c,h⟩⟩
    simp only[hd]
  · have h2:¬dgs (l.drop k):=by rw[List.drop_eq_getElem_cons hlt,kO];exact fun h=>c h.1
    rw[if_neg h2]
    refine aF ?_
    unfold jQ
    rw[if_pos (by omega),aG hlt]
    simp only[Option.bind_some]
    by_cases n1:l[k]<0
    · rw[if_pos n1];rfl
    · rw[if_neg n1,decide_eq_true (by omega)];rfl
theorem xF (a b c:Int):iF a b c=some (decide (b<=a/\a<=c)):=by
 unfold iF
 by_cases h:b<=a <;> simp[h]
theorem aJH (l:List Int)(hl:l.length<=4294967296):∀ m k:Nat,m+k=l.length->lp (jM l) (k:Int)=some (if dgs (l.drop k)then .inl ()else .inr false):=by
 intro m
 induction m with
 | zero =>
  intro k hk
  rw[if_pos (by rw[List.drop_eq_nil_of_le (by omega)];exact zZ)]
  exact aF (by unfold jM;rw[if_neg (by omega)])
 | succ m ih =>
  intro k hk
  have hlt:k<l.length:=by omega
  by_cases c:0<=l[k]/\l[k]<1000000000
  · have s1:jM l (k:Int)=some (.inl ((k+1:Nat):Int)):=by
     unfold jM
     rw[if_pos (by omega),aG hlt,wi (by omega)]
     simp only[Option.bind_some]
     rw[xF,decide_eq_true (by omega)];rfl
    rw[aM s1,ih (k+1) (by omega)]
    have hd:dgs (l.drop k)↔dgs (l.drop (k+1)):=by rw[List.drop_eq_getElem_cons hlt,kO];exact⟨fun h=>h.2,fun h=>⟨c,h⟩⟩
    simp only[hd]
  · have h2:¬dgs (l.drop k):=by rw[List.drop_eq_getElem_cons hlt,kO];exact fun h=>c h.1
    rw[if_neg h2]
    refine aF ?_
    unfold jM
    rw[if_pos (by omega),aG hlt]
    simp only[Option.bind_some]
    rw[xF,decide_eq_false (by omega)];rfl
theorem aHY (l:List Int)(hl:l.length<=4294967296)(h:l.length≠0):(idx l (IntKind.i64.wrap ((l.length:Int)-1))).bind (fun y=>some (decide (y≠0)))=some (decide (l.getLast?≠some 0)):=by
 have hlt:l.length-1<l.length:=by omega
 rw[wi (by omega),show(l.length:Int)-1=((l.length-1:Nat):Int)by omega,aG hlt,List.getLast?_eq_getElem?,List.getElem?_eq_getElem hlt]
 simp
theorem aGN (l:List Int)(hl:l.length<=4294967296):qZ l=some (decide (qK l)):=by
 unfold qZ
 by_cases c:60<l.length
 · have:¬qK l:=fun h=>by have:=h.2.1;omega
   rw[if_pos (by omega),decide_eq_false this]
 · have:=aJI l hl l.length 0 (by omega)
   rw[show((0:Nat):Int)=0 from rfl,List.drop_zero]at this
   rw[if_neg (by omega),this]
   by_cases d:dgs l
   · rw[if_pos d]
     simp only[Option.bind_some]
     by_cases z:l.length=0
     · have e:l=[]:=List.length_eq_zero_iff.1 z
       subst e
       rw[if_pos (by simp),decide_eq_true ⟨zZ,by simp,by simp⟩]
     · rw[if_neg (by omega),aI,aHY l hl z]
       congr 1
       exact decide_eq_decide.2 ⟨fun h=>⟨d,by omega,h⟩,fun h=>h.2.2⟩
   · have:¬qK l:=fun h=>d h.1
     rw[if_neg d,decide_eq_false this];rfl
theorem aDW (l:List Int)(hl:l.length<=4294967296):oY l=some (decide (qK l)):=by
 unfold oY
 have:=aJH l hl l.length 0 (by omega)
 rw[show((0:Nat):Int)=0 from rfl,List.drop_zero]at this
 rw[this]
 by_cases d:dgs l
 · rw[if_pos d]
   simp only[Option.bind_some]
   by_cases c:60<l.length
   · have:¬qK l:=fun h=>by have:=h.2.1;omega
     rw[if_neg (by omega),decide_eq_false this]
   · rw[if_pos (by omega)]
     by_cases z:l.length=0
     · have e:l=[]:=List.length_eq_zero_iff.1 z
       subst e
       rw[if_pos (by simp),decide_eq_true ⟨zZ,by simp,by simp⟩]
     · rw[if_neg (by omega),aI,aHY l hl z]
       congr 1
       exact decide_eq_decide.2 ⟨fun h=>⟨d,by omega,h⟩,fun h=>h.2.2⟩
 · have:¬qK l:=fun h=>d h.1
   rw[if_neg d,decide_eq_false this];rfl
theorem aHh:([854775807,223372036,9]:List Int)=aA 9223372036854775807:=by
 have h1:dgs [854775807,223372036,9]:=by intro d hd;simp at hd;omega
 have:=wZ (l:=[854775807,223372036,9]) ⟨h1,by simp⟩
 rw[this];rfl
theorem aGW:∀ (l:List Int),dgs l->l.length<=2->lp (bW l) (0,(l.length:Int)-1)=some (val l:Int)
 | [],_,_=>by
  rw[aF (r:=0) (by unfold bW;simp)];rfl
 | [d],h,_=>by
  rw[kO]at h
  have s1:bW [d] (0,((0:Nat):Int))=some (.inl (d,-1)):=by
   unfold bW
   simp only[]
   rw[if_pos (by omega),aG (by simp)]
   simp only[Option.bind_some,aI,List.getElem_cons_zero]
   rw[wi (n:=0*1000000000) (by omega),wi (by omega),wi (by omega)]
   simp
  rw[show((([d]:List Int).length:Int)-1)=((0:Nat):Int)by simp,aM s1,aF (r:=d) (by unfold bW;simp)]
  simp[val] <;> omega
 | [d,e],h,_=>by
  rw[kO,kO]at h
  have s1:bW [d,e] (0,((1:Nat):Int))=some (.inl (e,((0:Nat):Int))):=by
   unfold bW
   simp only[]
   rw[if_pos (by omega),aG (by simp)]
   simp only[Option.bind_some,aI,List.getElem_cons_zero,List.getElem_cons_succ]
   rw[wi (n:=0*1000000000) (by omega),wi (by omega),wi (by omega)]
   simp
  have s2:bW [d,e] (e,((0:Nat):Int))=some (.inl (e*1000000000+d,-1)):=by
   unfold bW
   simp only[]
   rw[if_pos (by omega),aG (by simp)]
   simp only[Option.bind_some,aI,List.getElem_cons_zero]
   rw[wi (n:=e*1000000000) (by omega),wi (by omega),wi (by omega)]
   rfl
  rw[show((([d,e]:List Int).length:Int)-1)=((1:Nat):Int)by simp,aM s1,aM s2,aF (r:=e*1000000000+d) (by unfold bW;simp)]
  simp only[val,cL,Nat.mul_zero,Nat.add_zero]
  congr 1;omega
 | _::_::_::_,_,h=>by simp at h <;> omega
theorem aDV (x:Nat)(h:(aA x).length<=2):lZ (aA x)=some ((x:Int),true):=by
 have hx:=qS h
 have hl:=hY (v:=9223372036854775807) (by omega)
 unfold lZ
 rw[aDW _ (by omega),decide_eq_true (xA (by omega)),aHh]
 simp only[Option.bind_some,if_true]
 rw[yW _ _ (by omega) (by omega)]
 simp only[Option.bind_some,aI]
 have:¬(0<oQ x 9223372036854775807):=by unfold oQ;rw[if_pos (by omega)];omega
 simp only[this,decide_false,Bool.false_eq_true,if_false]
 have e:=aGW (aA x) (dH x) h
 rw[cA]at e
 rw[wi (by omega),e];rfl
theorem aIP:∀ (y x:Nat),(aA x).length<=700->(aA y).length<=700->∃ r,lp iE (aA x,aA y)=some r/\(r=.inl (aA (Nat.gcd x y))\/r=.inr (aA (Nat.gcd x y))):=by
 intro y
 induction y using Nat.strongRecOn with
 | _ y ih =>
  intro x hx hy
  by_cases c:y=0
  · subst c
    rw[Nat.gcd_zero_right]
    refine⟨.inl (aA x),aF ?_,.inl rfl⟩
    unfold iE
    simp[aT]
  · have hy0:(aA y).length≠0:=fun e=>cM c (List.length_eq_zero_iff.1 e)
    by_cases c2:(aA x).length<=2/\(aA y).length<=2
    · refine⟨.inr (aA (Nat.gcd x y)),aF ?_,.inr rfl⟩
      have h1:=qS c2.1
      have h2:=qS c2.2
      have h3:=aGs h1 h2
      have n1:((aA x).length:Int)<3:=by omega
      have n2:((aA y).length:Int)<3:=by omega
      unfold iE
      simp only[n1,n2,if_true,decide_true,Option.bind_some]
      rw[if_pos (by omega),aDV x c2.1,aDV y c2.2]
      simp only[Option.bind_some]
      unfold rL
      rw[aG7,aC7]
      simp only[Option.bind_some]
      rw[xQ _ (by omega)];rfl
    · have s1:iE (aA x,aA y)=some (.inl (aA y,aA (x % y))):=by
       unfold iE
       simp only[]
       have:((if((aA x).length:Int)<3 then some (decide (((aA y).length:Int)<3))else some false):Option Bool)=some false:=by
        by_cases c1:(aA x).length<=2
        · have c2:¬(aA y).length<=2:=fun h=>c2 ⟨c1,h⟩
          rw[if_pos (by omega),decide_eq_false (by omega)]
        · rw[if_neg (by omega)]
       rw[if_pos (by omega),this]
       simp only[Option.bind_some,Bool.false_eq_true,if_false]
       rw[aDw x y (by omega) hx hy];rfl
      rw[aM s1,aDA x y]
      exact ih (x % y) (Nat.mod_lt _ (by omega)) y hy (by have:=aH2 x (y:=y) (by omega);omega)
theorem aGj (x y:Nat)(hx:(aA x).length<=700)(hy:(aA y).length<=700):mR (aA x) (aA y)=some (aA (Nat.gcd x y)):=by
 unfold mR
 obtain⟨r,e1,e2⟩:=aIP y x hx hy
 rw[aJ (by simp;omega),aJ (by simp;omega)]
 simp only[Option.bind_some,aI,List.nil_append]
 rw[e1]
 rcases e2 with rfl | rfl <;> rfl
end Go.Ev
/- Whole numbers and fractions; both programs. -/
namespace Go.Ev
set_option linter.all false
def sS (x:BigInt):Prop:=qK x.fMag/\(x.fNeg=true->x.fMag≠[])
instance (x:BigInt):Decidable (sS x):=by unfold sS;infer_instance
theorem aKQ (x:BigInt)(h:x.fMag.length<=4294967296):oO x=some (decide (sS x)):=by
 unfold oO
 rw[aGN _ h]
 simp only[Option.bind_some]
 by_cases c:qK x.fMag
 · rw[decide_eq_true c]
   simp only[if_true]
   cases hn:x.fNeg with
   | true =>
    simp only[if_true]
    by_cases e:x.fMag=[]
    · rw[decide_eq_false (fun g:sS x=>g.2 hn e),e];rfl
    · have:x.fMag.length≠0:=fun g=>e (List.length_eq_zero_iff.1 g)
      have hb:sS x:=⟨c,fun _=>e⟩
      rw[decide_eq_true hb,decide_eq_false (by omega)];rfl
   | false =>
    have hb:sS x:=⟨c,fun g=>by rw[hn]at g;cases g⟩
    rw[decide_eq_true hb];rfl
 · rw[decide_eq_false c,decide_eq_false (fun g:sS x=>c g.1)];rfl
theorem aKP (x:BigInt)(h:x.fMag.length<=4294967296):oF x=some (decide (sS x)):=by
 unfold oF
 rw[aDW _ h]
 simp only[Option.bind_some]
 by_cases c:qK x.fMag
 · rw[decide_eq_true c]
   simp only[if_true]
   cases hn:x.fNeg with
   | true =>
    simp only[if_true]
    by_cases e:x.fMag=[]
    · rw[decide_eq_false (fun g:sS x=>g.2 hn e),e];rfl
    · have:x.fMag.length≠0:=fun g=>e (List.length_eq_zero_iff.1 g)
      have hb:sS x:=⟨c,fun _=>e⟩
      rw[decide_eq_true hb,decide_eq_true (by omega)]
   | false =>
    have hb:sS x:=⟨c,fun g=>by rw[hn]at g;cases g⟩
    rw[decide_eq_true hb];rfl
 · rw[decide_eq_false c,decide_eq_false (fun g:sS x=>c g.1)];rfl
def aKv (x:BigInt):Int:=if x.fNeg=true then -(val x.fMag:Int)else(val x.fMag:Int)
theorem aDO (x:BigInt):(aKv x).natAbs=val x.fMag:=by unfold aKv;split <;> omega
theorem aMp {x:BigInt}(h:sS x):x=big (aKv x):=by
 obtain⟨neg,mag⟩:=x
 unfold big
 rw[aDO]
 have e:=kZ h.1
 simp only[]at e ⊢
 rw[<- e]
 congr 1
 unfold aKv
 cases neg with
 | true =>
  have:val mag≠0:=fun z=>h.2 rfl (by simp only[]at e ⊢;rw[e,z,aT])
  simp only[if_true]
  rw[decide_eq_true (by omega)]
 | false=>simp
theorem aCw (n m:Int):((!(decide (n<0) == decide (m<0)))&&decide (n.natAbs*m.natAbs≠0))=decide (n*m<0):=by
 rw[<- Int.natAbs_mul]
 rcases Int.lt_trichotomy n 0 with h1 | h1 | h1
 · rcases Int.lt_trichotomy m 0 with h2 | h2 | h2
   · have:=Int.mul_pos_of_neg_of_neg h1 h2
     rw[decide_eq_true h1,decide_eq_true h2,decide_eq_false (show ¬n*m<0 by omega)];rfl
   · subst h2;simp
   · have:=Int.mul_neg_of_neg_of_pos h1 h2
     rw[decide_eq_true h1,decide_eq_false (show ¬m<0 by omega),decide_eq_true (show(n*m).natAbs≠0 by omega),decide_eq_true this];rfl
 · subst h1;simp
 · rcases Int.lt_trichotomy m 0 with h2 | h2 | h2
   · have:=Int.mul_neg_of_pos_of_neg h1 h2
     rw[decide_eq_false (show ¬n<0 by omega),decide_eq_true h2,decide_eq_true (show(n*m).natAbs≠0 by omega),decide_eq_true this];rfl
   · subst h2;simp
   · have:=Int.mul_pos h1 h2
     rw[decide_eq_false (show ¬n<0 by omega),decide_eq_false (show ¬m<0 by omega),decide_eq_false (show ¬n*m<0 by omega)];rfl
theorem xN (n:Int):(big n).fMag=aA n.natAbs:=rfl
theorem xM (n:Int):(big n).fNeg=decide (n<0):=rfl
def bl (n:Int):Nat:=(aA n.natAbs).length
theorem xL (n m:Int):bl (n*m)<=bl n+bl m:=by unfold bl;rw[Int.natAbs_mul];exact dM _ _
theorem aHD (n m:Int):bl (n+m)<=max (bl n) (bl m)+1:=by
 unfold bl
 exact Nat.le_trans (eG (Int.natAbs_add_le n m) (Nat.le_refl _)) (aDI _ _)
theorem aMo (n:Int):bl (-n)=bl n:=by unfold bl;rw[Int.natAbs_neg]
theorem uE (n m:Int)(hn:bl n<=60)(hm:bl m<=60)(h:bl (n*m)<=60):gM (big n) (big m)=some (big (n*m)):=by
 unfold gM
 unfold bl at *
 rw[Int.natAbs_mul]at h
 simp only[big]
 rw[(lO n.natAbs m.natAbs (by omega) (by omega)).2]
 simp only[Option.bind_some]
 rw[rE _ _ h]
 simp only[Option.bind_some]
 rw[aCw,Int.natAbs_mul]
theorem aEC (n:Int)(d:Nat)(h:(aA (n.natAbs*d)).length<=60):bX (decide (n<0)) (aA (n.natAbs*d))=some (big (n*d)):=by
 rw[nQ _ _ h]
 have:=aCw n (d:Int)
 rw[decide_eq_false (show ¬((d:Int)<0)by omega)]at this
 simp only[Int.natAbs_natCast]at this
 unfold big
 rw[<- this]
 simp only[Int.natAbs_mul,Int.natAbs_natCast]
 congr 2
 cases decide (n<0) <;> rfl
theorem aIj (n m:Int)(h:(decide (n<0) == decide (m<0))=true):(n+m).natAbs=n.natAbs+m.natAbs/\(decide (n<0)&&decide ((n+m).natAbs≠0))=decide (n+m<0):=by
 by_cases c1:n<0
 · by_cases c2:m<0
   · refine⟨by omega,?_⟩
     rw[decide_eq_true c1,decide_eq_true (by omega),decide_eq_true (by omega)];rfl
   · simp[c1,c2]at h
 · by_cases c2:m<0
   · simp[c1,c2]at h
   · refine⟨by omega,?_⟩
     rw[decide_eq_false c1,decide_eq_false (show ¬(n+m<0)by omega)];rfl
theorem aCC (n m:Int)(h:¬(decide (n<0) == decide (m<0))=true)(hle:m.natAbs<=n.natAbs):(n+m).natAbs=n.natAbs-m.natAbs/\(decide (n<0)&&decide ((n+m).natAbs≠0))=decide (n+m<0):=by
 by_cases c1:n<0
 · by_cases c2:m<0
   · simp[c1,c2]at h
   · refine⟨by omega,?_⟩
     rw[decide_eq_true c1,Bool.true_and]
     exact decide_eq_decide.2 (by omega)
 · by_cases c2:m<0
   · refine⟨by omega,?_⟩
     rw[decide_eq_false c1,decide_eq_false (show ¬(n+m<0)by omega)];rfl
   · simp[c1,c2]at h
theorem aKw (n m:Int)(hn:bl n<=60)(hm:bl m<=60)(h:bl (n+m)<=60):sE (big n) (big m)=some (big (n+m)):=by
 unfold sE
 unfold bl at *
 by_cases c:(decide (n<0) == decide (m<0))=true
 · obtain⟨e1,e2⟩:=aIj n m c
   rw[if_pos (show((big n).fNeg == (big m).fNeg)=true from c)]
   simp only[xN,xM]
   rw[aJR _ _ (by omega) (by omega)]
   simp only[Option.bind_some]
   rw[<- e1,rE _ _ h,e2];rfl
 · rw[if_neg (show ¬((big n).fNeg == (big m).fNeg)=true from c)]
   simp only[xN,xM]
   rw[aDf _ _ (by omega) (by omega)]
   simp only[Option.bind_some]
   by_cases c2:m.natAbs<=n.natAbs
   · obtain⟨e1,e2⟩:=aCC n m c c2
     have c3:0<=oQ n.natAbs m.natAbs:=by unfold oQ;rw[if_neg (by omega)];split <;> omega
     rw[if_pos c3,(vM _ _ (by omega) c2).2]
     simp only[Option.bind_some]
     rw[<- e1,rE _ _ h,e2];rfl
   · obtain⟨e1,e2⟩:=aCC m n (by rw[Bool.beq_comm];exact c) (by omega)
     have c3:¬0<=oQ n.natAbs m.natAbs:=by unfold oQ;rw[if_pos (by omega)];omega
     rw[if_neg c3,(vM _ _ (by omega) (by omega)).2]
     simp only[Option.bind_some]
     rw[<- e1,Int.add_comm m n]at *
     rw[rE _ _ h,e2];rfl
theorem aGi (n m:Int)(hn:bl n<=60)(hm:bl m<=60)(h:bl (n+m)<=60):pH (big n) (big m)=some (big (n+m)):=by
 unfold pH
 unfold bl at *
 by_cases c:(decide (n<0) == decide (m<0))=true
 · obtain⟨e1,e2⟩:=aIj n m c
   rw[if_pos (show((big n).fNeg == (big m).fNeg)=true from c)]
   simp only[xN,xM]
   rw[aGk _ _ (by omega) (by omega)]
   simp only[Option.bind_some]
   rw[<- e1,nQ _ _ h,e2];rfl
 · rw[if_neg (show ¬((big n).fNeg == (big m).fNeg)=true from c)]
   simp only[xN,xM]
   rw[yW _ _ (by omega) (by omega)]
   simp only[Option.bind_some]
   by_cases c2:m.natAbs<=n.natAbs
   · obtain⟨e1,e2⟩:=aCC n m c c2
     have c3:0<=oQ n.natAbs m.natAbs:=by unfold oQ;rw[if_neg (by omega)];split <;> omega
     rw[if_pos c3,(vM _ _ (by omega) c2).1]
     simp only[Option.bind_some]
     rw[<- e1,nQ _ _ h,e2];rfl
   · obtain⟨e1,e2⟩:=aCC m n (by rw[Bool.beq_comm];exact c) (by omega)
     have c3:¬0<=oQ n.natAbs m.natAbs:=by unfold oQ;rw[if_pos (by omega)];omega
     rw[if_neg c3,(vM _ _ (by omega) (by omega)).1]
     simp only[Option.bind_some]
     rw[<- e1,Int.add_comm m n]at *
     rw[nQ _ _ h,e2];rfl
def lI:Rat:=Rat.mk (BigInt.mk false []) []
def mkR (s:Bool)(x y:Nat):Rat :=
 if y=0 then lI else if 24<(aA (x / Nat.gcd x y)).length\/24<(aA (y / Nat.gcd x y)).length then lI
 else⟨⟨s&&decide (x / Nat.gcd x y≠0),aA (x / Nat.gcd x y)⟩,aA (y / Nat.gcd x y)⟩
theorem aKS:bF lI<=48:=by decide
theorem aId {x y:Nat}(hx:(aA x).length<=700)(hy:(aA y).length<=700):(aA (Nat.gcd x y)).length<=700:=by
 by_cases c:x=0
 · subst c;rw[Nat.gcd_zero_left];exact hy
 · exact Nat.le_trans (eG (Nat.gcd_le_left y (Nat.pos_of_ne_zero c)) (Nat.le_refl _)) hx
theorem aBy (s t:Bool)(x y:Nat)(hx:(aA x).length<=60)(hy:(aA y).length<=60):lA ⟨s,aA x⟩ ⟨t,aA y⟩=some (mkR (!(s == t)) x y):=by
 unfold lA mkR
 simp only[]
 by_cases c:y=0
 · rw[if_pos c,if_pos (by rw[c,aT];rfl)];rfl
 · have hl:(aA y).length≠0:=fun e=>cM c (List.length_eq_zero_iff.1 e)
   have hg:=aId (x:=x) (y:=y) (by omega) (by omega)
   have hg0:0<Nat.gcd x y:=Nat.gcd_pos_of_pos_right x (Nat.pos_of_ne_zero c)
   rw[if_neg c,if_neg (by omega),aF7 x y (by omega) (by omega)]
   simp only[Option.bind_some]
   rw[aDe x _ hg0 (by omega) hg,aDe y _ hg0 (by omega) hg]
   simp only[Option.bind_some]
   have l1:=aLj x (Nat.gcd x y)
   by_cases c1:24<(aA (x / Nat.gcd x y)).length
   · rw[if_pos (by omega),if_pos (.inl c1)];rfl
   · rw[if_neg (by omega)]
     by_cases c2:24<(aA (y / Nat.gcd x y)).length
     · rw[if_pos (.inr c2),decide_eq_true (by omega)];rfl
     · rw[if_neg (by omega),decide_eq_false (by omega)]
       simp only[Option.bind_some,Bool.false_eq_true,if_false]
       rw[rE _ _ (by omega)];rfl
theorem qT:([1]:List Int)=aA 1:=by rw[nT (by rw[cL];omega) (by omega)];rfl
theorem aEW (x:Nat):gC (aA x)=some (decide (x=1)):=by
 unfold gC
 by_cases c:x=1
 · subst c;rw[<- qT];simp[idx]
 · rw[decide_eq_false c]
   by_cases h:(aA x).length=1
   · have hx:x<BB:=by have:=mD x;rw[h,Nat.pow_one]at this;exact this
     have h0:x≠0:=by rintro rfl;rw[aT]at h;simp at h
     rw[if_pos (by omega),show(0:Int)=((0:Nat):Int)from rfl,aG (by omega)]
     simp only[nT hx h0,List.getElem_cons_zero,Option.bind_some]
     rw[decide_eq_false (by omega)]
   · rw[if_neg (by omega)]
theorem aBe (s:Bool)(x y:Nat)(hx:(aA x).length<=60)(hy:(aA y).length<=60):kR s (aA x) (aA y)=some (mkR s x y):=by
 unfold kR mkR
 rw[wJ (dH x) (by omega),wJ (dH y) (by omega),cA,cA]
 simp only[Option.bind_some]
 by_cases c:y=0
 · rw[if_pos c,if_pos (by rw[c,aT];rfl)];rfl
 · have hl:(aA y).length≠0:=fun e=>cM c (List.length_eq_zero_iff.1 e)
   have hg:=aId (x:=x) (y:=y) (by omega) (by omega)
   have hg0:0<Nat.gcd x y:=Nat.gcd_pos_of_pos_right x (Nat.pos_of_ne_zero c)
   rw[if_neg c,if_neg (by omega),aEW]
   simp only[Option.bind_some]
   have key:((if decide (y=1)=true then some (aA x,aA y)else(mR (aA x) (aA y)).bind fun r4=>(gC r4).bind fun r5=>(if r5=true then some (aA x,aA y)else(iX (aA x) r4).bind fun r6=>(iX (aA y) r4).bind fun r7=>some (r6.1,r7.1))):Option ((List Int)×(List Int)))=some (aA (x / Nat.gcd x y),aA (y / Nat.gcd x y)):=by
    by_cases c1:y=1
    · rw[decide_eq_true c1,if_pos rfl,c1,Nat.gcd_one_right,Nat.div_one,Nat.div_one]
    · rw[decide_eq_false c1,if_neg (by simp),aGj x y (by omega) (by omega)]
      simp only[Option.bind_some]
      rw[aEW]
      simp only[Option.bind_some]
      by_cases c2:Nat.gcd x y=1
      · rw[decide_eq_true c2,if_pos rfl,c2,Nat.div_one,Nat.div_one]
      · rw[decide_eq_false c2,if_neg (by simp),aDw x _ hg0 (by omega) hg,aDw y _ hg0 (by omega) hg];rfl
   rw[key]
   simp only[Option.bind_some]
   by_cases c1:24<(aA (x / Nat.gcd x y)).length
   · rw[if_pos (by omega),if_pos (.inl c1)];rfl
   · rw[if_neg (by omega)]
     by_cases c2:24<(aA (y / Nat.gcd x y)).length
     · rw[if_pos (.inr c2),decide_eq_true (by omega)];rfl
     · rw[if_neg (by omega),decide_eq_false (by omega)]
       simp only[Option.bind_some,Bool.false_eq_true,if_false]
       rw[nQ _ _ (by omega)]
       simp only[Option.bind_some]
       rw[aJ (by simp;omega)]
       simp only[Option.bind_some,aI,List.nil_append]
def bA (r:Rat):Prop:=sS r.fNum/\qK r.fDen/\r.fDen≠[]/\r.fDen.length<=24/\r.fNum.fMag.length<=24/\Nat.gcd (val r.fNum.fMag) (val r.fDen)=1
instance (r:Rat):Decidable (bA r):=by unfold bA;infer_instance
theorem aJw (r:Rat)(h:bF r<=4294967296):r.fNum.fMag.length<=4294967296/\r.fDen.length<=4294967296:=by
 unfold bF qP tI at h
 simp only[pP]at h;omega
theorem zG (r:Rat)(h:bF r<=4294967296):lD r=some (decide (bA r)):=by
 obtain⟨h1,h2⟩:=aJw r h
 unfold lD
 rw[aKQ _ h1]
 simp only[Option.bind_some]
 by_cases c1:sS r.fNum
 · rw[decide_eq_true c1,if_pos rfl,aGN _ h2]
   simp only[Option.bind_some]
   by_cases c2:qK r.fDen
   · rw[decide_eq_true c2,if_pos rfl]
     simp only[Option.bind_some]
     by_cases c3:r.fDen=[]
     · rw[decide_eq_false (fun g:bA r=>g.2.2.1 c3),decide_eq_true (by rw[c3];rfl)];rfl
     · have hn:r.fDen.length≠0:=fun e=>c3 (List.length_eq_zero_iff.1 e)
       rw[decide_eq_false (show ¬((r.fDen.length:Int)=0)by omega)]
       simp only[Bool.false_eq_true,if_false]
       by_cases c4:24<r.fNum.fMag.length
       · rw[if_pos (by omega),decide_eq_false (fun g:bA r=>by have:=g.2.2.2.2.1;omega)];rfl
       · rw[if_neg (by omega)]
         by_cases c5:24<r.fDen.length
         · rw[decide_eq_true (show(24:Int)<r.fDen.length by omega),decide_eq_false (fun g:bA r=>by have:=g.2.2.2.1;omega)];rfl
         · rw[decide_eq_false (show ¬(24:Int)<r.fDen.length by omega)]
           simp only[Option.bind_some,Bool.false_eq_true,if_false]
           have e1:=kZ c1.1
           have e2:=kZ c2
           have g:=aF7 (val r.fNum.fMag) (val r.fDen) (by rw[<- e1];omega) (by rw[<- e2];omega)
           rw[<- e1,<- e2]at g
           rw[g]
           have o:=aEW (Nat.gcd (val r.fNum.fMag) (val r.fDen))
           unfold gC at o
           simp only[Option.bind_some]
           rw[o]
           congr 1
           exact decide_eq_decide.2 ⟨fun q=>⟨c1,c2,c3,by omega,by omega,q⟩,fun q=>q.2.2.2.2.2⟩
   · rw[decide_eq_false c2,decide_eq_false (fun g:bA r=>c2 g.2.1)];rfl
 · rw[decide_eq_false c1,decide_eq_false (fun g:bA r=>c1 g.1)];rfl
theorem dI (r:Rat)(h:bF r<=4294967296):bS r=some (decide (bA r)):=by
 obtain⟨h1,h2⟩:=aJw r h
 unfold bS
 rw[aKP _ h1]
 simp only[Option.bind_some]
 by_cases c1:sS r.fNum
 · rw[decide_eq_true c1,if_pos rfl,aDW _ h2]
   simp only[Option.bind_some]
   by_cases c2:qK r.fDen
   · rw[decide_eq_true c2,if_pos rfl]
     by_cases c3:r.fDen=[]
     · rw[decide_eq_false (fun g:bA r=>g.2.2.1 c3),if_pos (by rw[c3];rfl)];rfl
     · have hn:r.fDen.length≠0:=fun e=>c3 (List.length_eq_zero_iff.1 e)
       rw[if_neg (by omega)]
       by_cases c5:24<r.fDen.length
       · rw[if_pos (by omega),decide_eq_false (fun g:bA r=>by have:=g.2.2.2.1;omega)];rfl
       · rw[if_neg (by omega)]
         by_cases c4:24<r.fNum.fMag.length
         · rw[decide_eq_true (show(24:Int)<r.fNum.fMag.length by omega),decide_eq_false (fun g:bA r=>by have:=g.2.2.2.2.1;omega)];rfl
         · rw[decide_eq_false (show ¬(24:Int)<r.fNum.fMag.length by omega)]
           simp only[Option.bind_some,Bool.false_eq_true,if_false]
           have e1:=kZ c1.1
           have e2:=kZ c2
           have g:=aGj (val r.fNum.fMag) (val r.fDen) (by rw[<- e1];omega) (by rw[<- e2];omega)
           rw[<- e1,<- e2]at g
           rw[g]
           simp only[Option.bind_some]
           rw[aEW]
           simp only[Option.bind_some]
           congr 1
           exact decide_eq_decide.2 ⟨fun q=>⟨c1,c2,c3,by omega,by omega,q⟩,fun q=>q.2.2.2.2.2⟩
   · rw[decide_eq_false c2,decide_eq_false (fun g:bA r=>c2 g.2.1)];rfl
 · rw[decide_eq_false c1,decide_eq_false (fun g:bA r=>c1 g.1)];rfl
theorem wU {r:Rat}(h:bA r):∃ (n:Int) (d:Nat),r=⟨big n,aA d⟩/\0<d/\bl n<=24/\(aA d).length<=24/\Nat.gcd n.natAbs d=1:=by
 obtain⟨h1,h2,h3,h4,h5,h6⟩:=h
 have e1:=aMp h1
 have e2:=kZ h2
 refine⟨aKv r.fNum,val r.fDen,?_,?_,?_,by rw[<- e2];exact h4,by rw[aDO];exact h6⟩
 · rw[<- e1,<- e2]
 · rcases Nat.eq_zero_or_pos (val r.fDen)with z | z
   · rw[z,aT]at e2;exact absurd e2 h3
   · exact z
 · unfold bl;rw[aDO,<- kZ h1.1];exact h5
theorem aAb (d:Nat):(⟨false,aA d⟩:BigInt)=big (d:Int):=by
 unfold big
 rw[decide_eq_false (by omega),Int.natAbs_natCast]
theorem aAI {n:Int}{d:Nat}(h:0<d):dD ⟨big n,aA d⟩=some true:=by
 unfold dD
 have:(aA d).length≠0:=fun e=>cM (n:=d) (by omega) (List.length_eq_zero_iff.1 e)
 simp only[]
 rw[decide_eq_true (by omega)]
def aGJ (n:Int)(d:Nat)(m:Int)(e:Nat):Rat:=mkR (decide (n*e+m*d<0)) (n*e+m*d).natAbs (d*e)
theorem aAY (n:Int)(d:Nat)(m:Int)(e:Nat)(hd:0<d)(he:0<e)(h1:bl n<=24)(h2:(aA d).length<=24)(h3:bl m<=24)(h4:(aA e).length<=24):bU ⟨big n,aA d⟩ ⟨big m,aA e⟩=some (aGJ n d m e):=by
 unfold bU
 rw[aAI hd,aAI he]
 simp only[Option.bind_some,if_true,Bool.not_true,Bool.false_eq_true,if_false,fP]
 have b1:bl (e:Int)<=24:=by unfold bl;rw[Int.natAbs_natCast];exact h4
 have b2:bl (d:Int)<=24:=by unfold bl;rw[Int.natAbs_natCast];exact h2
 have b3:=xL n e
 have b4:=xL m d
 have b5:=aHD (n*e) (m*d)
 have b6:=xL d e
 rw[aAb,aAb,uE n e (by omega) (by omega) (by omega),uE m d (by omega) (by omega) (by omega)]
 simp only[Option.bind_some]
 rw[aKw _ _ (by omega) (by omega) (by omega),uE d e (by omega) (by omega) (by omega)]
 simp only[Option.bind_some]
 unfold big aGJ
 unfold bl at b5 b6 b1 b2 b3 b4 h1 h3
 rw[aBy _ _ _ _ (by omega) (by omega)]
 have:decide ((d:Int)*(e:Int)<0)=false:=decide_eq_false (by have:=Int.mul_nonneg (a:=(d:Int)) (b:=(e:Int)) (by omega) (by omega);omega)
 rw[this,Int.natAbs_mul,Int.natAbs_natCast,Int.natAbs_natCast]
 simp only[Option.bind_some]
 congr 2
 cases decide (n*(e:Int)+m*(d:Int)<0) <;> rfl
theorem aJ0 (n:Int)(d:Nat)(m:Int)(e:Nat)(hd:0<d)(he:0<e)(h1:bl n<=24)(h2:(aA d).length<=24)(h3:bl m<=24)(h4:(aA e).length<=24):mP ⟨big n,aA d⟩ ⟨big m,aA e⟩=some (aGJ n d m e):=by
 have b1:bl (e:Int)<=24:=by unfold bl;rw[Int.natAbs_natCast];exact h4
 have b2:bl (d:Int)<=24:=by unfold bl;rw[Int.natAbs_natCast];exact h2
 have b3:=xL n e
 have b4:=xL m d
 have b5:=aHD (n*e) (m*d)
 have b7:=aHD n m
 have b6:=dM d e
 unfold mP
 simp only[]
 rw[aEW,aEW]
 simp only[Option.bind_some]
 have key:((if decide (d=1)=true then some (decide (e=1))else some false):Option Bool)=some (decide (d=1/\e=1)):=by
  by_cases c:d=1 <;> simp[c]
 rw[key]
 simp only[Option.bind_some]
 by_cases c:d=1/\e=1
 · rw[decide_eq_true c,if_pos rfl,aGi n m (by omega) (by omega) (by omega)]
   simp only[Option.bind_some]
   obtain⟨c1,c2⟩:=c
   unfold aGJ
   rw[qT]
   unfold bl at b7 h1 h3
   simp only[big]
   rw[aBe _ _ _ (by omega) (by rw[<- qT];simp),c1,c2]
   simp
 · rw[decide_eq_false c,if_neg (by simp)]
   have p1:(aA (n.natAbs*e)).length<=48:=by have:=dM n.natAbs e;unfold bl at h1;omega
   have p2:(aA (m.natAbs*d)).length<=48:=by have:=dM m.natAbs d;unfold bl at h3;omega
   have q1:cJ (big n).fMag (aA e)=some (aA (n.natAbs*e)):=by unfold bl at h1;exact(lO n.natAbs e (by omega) (by omega)).1
   have q2:cJ (big m).fMag (aA d)=some (aA (m.natAbs*d)):=by unfold bl at h3;exact(lO m.natAbs d (by omega) (by omega)).1
   have q3:bX (big n).fNeg (aA (n.natAbs*e))=some (big (n*e)):=aEC n e (by omega)
   have q4:bX (big m).fNeg (aA (m.natAbs*d))=some (big (m*d)):=aEC m d (by omega)
   rw[q1]
   simp only[Option.bind_some]
   rw[q3]
   simp only[Option.bind_some]
   rw[q2]
   simp only[Option.bind_some]
   rw[q4]
   simp only[Option.bind_some]
   rw[aGi _ _ (by omega) (by omega) (by omega)]
   simp only[Option.bind_some]
   rw[(lO d e (by omega) (by omega)).1]
   simp only[Option.bind_some]
   unfold aGJ
   unfold bl at b5 b3 b4 h1 h3 b1 b2
   simp only[big]
   rw[aBe _ _ _ (by omega) (by omega)];rfl
end Go.Ev
/- Fractions: the interface that both programs meet. -/
namespace Go.Ev
set_option linter.all false
def VZ (r:Rat):Prop:=bA r\/r=lI
theorem yG:¬bA lI:=fun h=>h.2.2.1 rfl
theorem aAh:VZ lI:=.inr rfl
theorem nI {r:Rat}(h:VZ r):bF r<=48:=by
 rcases h with h | h
 · unfold bF qP tI
   simp only[pP]
   have h1:=h.2.2.2.1
   have h2:=h.2.2.2.2.1
   omega
 · subst h;exact aKS
theorem aDH {n:Nat}(h:0<n):aA n≠[]:=cM (by omega)
theorem aHg (s:Bool)(x y:Nat):VZ (mkR s x y):=by
 unfold mkR
 by_cases c:y=0
 · rw[if_pos c];exact aAh
 · rw[if_neg c]
   by_cases c2:24<(aA (x / Nat.gcd x y)).length\/24<(aA (y / Nat.gcd x y)).length
   · rw[if_pos c2];exact aAh
   · rw[if_neg c2]
     left
     have hg0:0<Nat.gcd x y:=Nat.gcd_pos_of_pos_right x (Nat.pos_of_ne_zero c)
     have hy:0<y / Nat.gcd x y:=Nat.div_pos (Nat.gcd_le_right x (Nat.pos_of_ne_zero c)) hg0
     refine⟨⟨xA (by omega),fun h=>?_⟩,xA (by omega),aDH hy,by show(aA (y / Nat.gcd x y)).length<=24;omega,by show(aA (x / Nat.gcd x y)).length<=24;omega,?_⟩
     · simp only[Bool.and_eq_true,decide_eq_true_eq]at h
       exact cM h.2
     · simp only[cA]
       have:=Nat.gcd_div (Nat.gcd_dvd_left x y) (Nat.gcd_dvd_right x y)
       rw[this,Nat.div_self hg0]
theorem aCz {s s':Bool}{x y:Nat}(h:x≠0->s=s'):mkR s x y=mkR s' x y:=by
 by_cases c:x=0
 · subst c;unfold mkR;simp
 · rw[h c]
theorem gV {r:Rat}(h:VZ r):dD r=some (decide (bA r)):=by
 unfold dD
 rcases h with h | h
 · have:r.fDen.length≠0:=fun e=>h.2.2.1 (List.length_eq_zero_iff.1 e)
   rw[decide_eq_true h,decide_eq_true (by omega)]
 · subst h
   rw[decide_eq_false yG];rfl
theorem aBp (r s:Rat)(hr:bF r<=4294967296)(hs:bF s<=4294967296):∃ t,cK r s=some t/\VZ t/\(VZ r->VZ s->bU r s=some t):=by
 unfold cK
 rw[dI r hr]
 simp only[Option.bind_some]
 by_cases c1:bA r
 · rw[decide_eq_true c1,if_pos rfl,dI s hs]
   simp only[Option.bind_some]
   by_cases c2:bA s
   · rw[decide_eq_true c2]
     obtain⟨n,d,e1,e2,e3,e4,_⟩:=wU c1
     obtain⟨m,e,g1,g2,g3,g4,_⟩:=wU c2
     subst e1;subst g1
     simp only[Bool.not_true,Bool.false_eq_true,if_false]
     have q:=aAY n d m e e2 g2 e3 e4 g3 g4
     rw[aJ0 n d m e e2 g2 e3 e4 g3 g4]
     exact⟨_,rfl,aHg _ _ _,fun _ _=>q⟩
   · rw[decide_eq_false c2]
     refine⟨lI,rfl,aAh,fun v1 v2=>?_⟩
     unfold bU
     rw[gV v1,gV v2,decide_eq_true c1,decide_eq_false c2];rfl
 · rw[decide_eq_false c1]
   refine⟨lI,rfl,aAh,fun v1 v2=>?_⟩
   unfold bU
   rw[gV v1,decide_eq_false c1];rfl
def aLa (n:Int)(d:Nat)(m:Int)(e:Nat):Rat:=mkR (!(decide (n<0) == decide (m<0))) (n.natAbs*m.natAbs) (d*e)
theorem aFV (n:Int)(d:Nat)(m:Int)(e:Nat)(hd:0<d)(he:0<e)(h1:bl n<=24)(h2:(aA d).length<=24)(h3:bl m<=24)(h4:(aA e).length<=24):cC ⟨big n,aA d⟩ ⟨big m,aA e⟩=some (aLa n d m e):=by
 unfold cC
 rw[aAI hd,aAI he]
 simp only[Option.bind_some,if_true,Bool.not_true,Bool.false_eq_true,if_false,fP]
 have b1:bl (e:Int)<=24:=by unfold bl;rw[Int.natAbs_natCast];exact h4
 have b2:bl (d:Int)<=24:=by unfold bl;rw[Int.natAbs_natCast];exact h2
 have b3:=xL n m
 have b6:=xL d e
 rw[uE n m (by omega) (by omega) (by omega),aAb,aAb,uE d e (by omega) (by omega) (by omega)]
 simp only[Option.bind_some]
 unfold big aLa
 unfold bl at b6 b1 b2 b3 h1 h3
 rw[aBy _ _ _ _ (by omega) (by omega)]
 have:decide ((d:Int)*(e:Int)<0)=false:=decide_eq_false (by have:=Int.mul_nonneg (a:=(d:Int)) (b:=(e:Int)) (by omega) (by omega);omega)
 rw[this,Int.natAbs_mul,Int.natAbs_mul,Int.natAbs_natCast,Int.natAbs_natCast]
 simp only[Option.bind_some]
 congr 1
 refine aCz fun hx=>?_
 have q:=aCw n m
 rw[decide_eq_true hx,Bool.and_true]at q
 rw[<- q]
 cases decide (n<0) <;> cases decide (m<0) <;> rfl
theorem aJZ (n:Int)(d:Nat)(m:Int)(e:Nat)(h1:bl n<=24)(h2:(aA d).length<=24)(h3:bl m<=24)(h4:(aA e).length<=24):rU ⟨big n,aA d⟩ ⟨big m,aA e⟩=some (aLa n d m e):=by
 unfold bl at h1 h3
 have b1:=dM n.natAbs m.natAbs
 have b2:=dM d e
 unfold rU
 simp only[big]
 rw[(lO _ _ (by omega) (by omega)).1]
 simp only[Option.bind_some]
 rw[(lO _ _ (by omega) (by omega)).1]
 simp only[Option.bind_some]
 rw[aBe _ _ _ (by omega) (by omega)]
 rfl
theorem aKE (r s:Rat)(hr:bF r<=4294967296)(hs:bF s<=4294967296):∃ t,dF r s=some t/\VZ t/\(VZ r->VZ s->cC r s=some t):=by
 unfold dF
 rw[dI r hr]
 simp only[Option.bind_some]
 by_cases c1:bA r
 · rw[decide_eq_true c1,if_pos rfl,dI s hs]
   simp only[Option.bind_some]
   by_cases c2:bA s
   · rw[decide_eq_true c2]
     obtain⟨n,d,e1,e2,e3,e4,_⟩:=wU c1
     obtain⟨m,e,g1,g2,g3,g4,_⟩:=wU c2
     subst e1;subst g1
     simp only[Bool.not_true,Bool.false_eq_true,if_false]
     rw[aJZ n d m e e3 e4 g3 g4]
     exact⟨_,rfl,aHg _ _ _,fun _ _=>aFV n d m e e2 g2 e3 e4 g3 g4⟩
   · rw[decide_eq_false c2]
     refine⟨lI,rfl,aAh,fun v1 v2=>?_⟩
     unfold cC
     rw[gV v1,gV v2,decide_eq_true c1,decide_eq_false c2];rfl
 · rw[decide_eq_false c1]
   refine⟨lI,rfl,aAh,fun v1 v2=>?_⟩
   unfold cC
   rw[gV v1,decide_eq_false c1];rfl
def sY (r:Rat):Int:=if bA r then(if r.fNum.fMag=[]then 0 else if r.fNum.fNeg=true then -1 else 1)else 0
theorem vQ {r:Rat}(h:0<sY r):bA r:=by
 unfold sY at h
 by_cases c:bA r
 · exact c
 · rw[if_neg c]at h;omega
theorem wI (r:Rat)(hr:bF r<=4294967296):iY r=some (sY r)/\lC r=some (sY r):=by
 unfold iY lC sY
 rw[zG r hr,dI r hr]
 simp only[Option.bind_some]
 by_cases c1:bA r
 · rw[decide_eq_true c1,if_pos c1,if_pos rfl,if_pos rfl]
   unfold tD
   rw[gV (.inl c1),decide_eq_true c1]
   simp only[Option.bind_some,if_true]
   by_cases c2:r.fNum.fMag=[]
   · rw[if_pos c2,decide_eq_true (by rw[c2];rfl)];exact⟨rfl,rfl⟩
   · have:r.fNum.fMag.length≠0:=fun e=>c2 (List.length_eq_zero_iff.1 e)
     rw[if_neg c2,decide_eq_false (by omega)]
     simp only[Bool.false_eq_true,if_false]
     cases r.fNum.fNeg <;> exact⟨rfl,rfl⟩
 · rw[decide_eq_false c1,if_neg c1];exact⟨rfl,rfl⟩
theorem aLN (a b:List Int)(h:a.length<=4294967296):sX a b=some (decide (a=b)):=by
 unfold sX
 by_cases c:a.length=b.length
 · rw[if_neg (by omega)]
   have main:∀ m k:Nat,m+k=a.length->lp (iU a b) (k:Int)=some (if a.drop k=b.drop k then .inl ()else .inr false):=by
    intro m
    induction m with
    | zero =>
     intro k hk
     rw[if_pos (by rw[List.drop_eq_nil_of_le (by omega),List.drop_eq_nil_of_le (by omega)])]
     exact aF (by unfold iU;rw[if_neg (by omega)])
    | succ m ih =>
     intro k hk
     have h1:k<a.length:=by omega
     have h2:k<b.length:=by omega
     by_cases e:a[k]=b[k]
     · have s1:iU a b (k:Int)=some (.inl ((k+1:Nat):Int)):=by
        unfold iU
        rw[if_pos (by omega),aG h1,aG h2,wi (by omega)];simp[e]
       rw[aM s1,ih (k+1) (by omega)]
       have:a.drop k=b.drop k↔a.drop (k+1)=b.drop (k+1):=by
        rw[List.drop_eq_getElem_cons h1,List.drop_eq_getElem_cons h2,List.cons.injEq]
        exact⟨fun h=>h.2,fun h=>⟨e,h⟩⟩
       simp only[this]
     · have:¬a.drop k=b.drop k:=by
        rw[List.drop_eq_getElem_cons h1,List.drop_eq_getElem_cons h2,List.cons.injEq]
        exact fun h=>e h.1
       rw[if_neg this]
       refine aF ?_
       unfold iU
       rw[if_pos (by omega),aG h1,aG h2];simp[e]
   have:=main a.length 0 (by omega)
   rw[show((0:Nat):Int)=0 from rfl,List.drop_zero,List.drop_zero]at this
   rw[this]
   by_cases e:a=b
   · simp[e]
   · simp[e]
 · rw[if_pos (by omega),decide_eq_false (fun e=>c (by rw[e]))]
theorem aEd:mC=oE:=rfl
theorem aHJ (r s:Rat)(hr:bF r<=4294967296):∃ b,oE r s=some b:=by
 obtain⟨h1,h2⟩:=aJw r hr
 unfold oE
 rw[aLN _ _ h1,aLN _ _ h2]
 simp only[Option.bind_some]
 split
 · split
   · exact⟨_,rfl⟩
   · exact⟨_,rfl⟩
 · exact⟨_,rfl⟩
theorem wV (n:Int)(h:-9223372036854775808<=n/\n<=9223372036854775807):bA (nX n):=by
 have hl:=hY (v:=n.natAbs) (by omega)
 unfold nX
 rw[qT]
 refine⟨⟨xA (by omega),fun hn=>?_⟩,xA (by rw[<- qT];simp),aDH (by omega),by rw[<- qT];simp,by show(aA n.natAbs).length<=24;omega,?_⟩
 · simp only[big,decide_eq_true_eq]at hn
   exact cM (by omega)
 · simp only[cA,Nat.gcd_one_right]
end Go.Ev
/- Is a number in a list. -/
namespace Go.Ev
set_option linter.all false
theorem aDz (l:List Int)(n:Int)(h:l.length<=4294967296):gJ l n=some (decide (n∈l)):=by
 have main:∀ m k:Nat,m+k=l.length->lp (iL l n) (k:Int)=some (if n∈l.drop k then .inr true else .inl ()):=by
  intro m
  induction m with
  | zero =>
   intro k hk
   have:k=l.length:=by omega
   subst this
   rw[aF (r:=.inl ()) (by unfold iL;rw[if_neg (by omega)]),List.drop_length];simp
  | succ m ih =>
   intro k hk
   have hlt:k<l.length:=by omega
   rw[List.drop_eq_getElem_cons hlt]
   by_cases c:l[k]=n
   · rw[aF (r:=.inr true) (by unfold iL;rw[if_pos (by omega),aG hlt];simp[c]),if_pos (by simp[c])]
   · have e:iL l n (k:Int)=some (.inl ((k:Int)+1)):=by
      unfold iL;rw[if_pos (by omega),aG hlt,wi (by omega)];simp[c]
     rw[aM e,show(k:Int)+1=((k+1:Nat):Int)by omega,ih (k+1) (by omega)]
     have:(n∈l[k]::l.drop (k+1))↔n∈l.drop (k+1):=by
      rw[List.mem_cons];exact⟨fun h=>h.resolve_left (fun e=>c e.symm),.inr⟩
     simp only[this]
 have:=main l.length 0 (by omega)
 rw[show((0:Nat):Int)=0 from rfl,List.drop_zero]at this
 unfold gJ
 rw[this]
 by_cases c:n∈l <;> simp[c]
theorem aBd (l:List Int)(n:Int)(h:l.length<=4294967296):uL l n=some (decide (n∈l)):=aDz l n h
end Go.Ev
/- Conditionals and nets, both programs. -/
namespace Go.Ev
set_option linter.all false
theorem aGp (a:Int):nC a=some (decide (0<=a/\a<=9)):=by
 unfold nC
 by_cases h:0<=a
 · rw[if_pos h];congr 1;rw[decide_eq_decide];omega
 · rw[if_neg h,decide_eq_false (by omega)]
theorem zW (a:Int):hJ a=some (decide (0<=a/\a<=9)):=by
 unfold hJ
 rw[xF];rfl
def aC9 (c:Conditional)(k:Nat)(p:Parent):Prop:=(0<=p.fNode/\p.fNode<=9)/\p.fNode≠c.fNode/\(∀ q,0<k->c.fParents[k-1]?=some q->q.fNode<p.fNode)/\0<sY p.fShare/\bA p.fDX/\bA p.fDY
theorem aLE {c:Conditional}(h:aV c<=4294967296){k:Nat}(hk:k<c.fParents.length):bF (c.fParents[k]).fShare<=4294967296/\bF (c.fParents[k]).fDX<=4294967296/\bF (c.fParents[k]).fDY<=4294967296:=by
 unfold aV mJ at h
 have:=rI (w:=kU) (List.getElem_mem hk)
 have e:kU c.fParents[k]=bF (c.fParents[k]).fShare+bF (c.fParents[k]).fDX+bF (c.fParents[k]).fDY:=rfl
 omega
theorem aFk {c:Conditional}(h:aV c<=4294967296):c.fParents.length<=4294967296/\bF c.fTotal<=4294967296:=by
 unfold aV mJ at h
 have:=nK kU c.fParents
 omega
theorem aGT (c:Conditional)(h:aV c<=4294967296):∀ m k:Nat,m+k=c.fParents.length->∀ s:Rat,VZ s->
 ∃ r,lp (aX c) ((k:Int),s)=some r/\lp (bT c) ((k:Int),s)=some r/\
  (match r with | .inl v=>VZ v/\∀ j (hj:j<c.fParents.length),k<=j->aC9 c j c.fParents[j] | .inr b=>b=false):=by
 have hl:=(aFk h).1
 intro m
 induction m with
 | zero =>
  intro k hk s hs
  refine⟨.inl s,aF ?_,aF ?_,hs,fun j hj hkj=>by omega⟩
  · unfold aX;simp only[];rw[if_neg (by omega)]
  · unfold bT;simp only[];rw[if_neg (by omega)]
 | succ m ih =>
  intro k hk s hs
  have hlt:k<c.fParents.length:=by omega
  obtain⟨z1,z2,z3⟩:=aLE h hlt
  obtain⟨g1,g2⟩:=wI _ z1
  have a1:=zG _ z2
  have a2:=zG _ z3
  have b1:=dI _ z2
  have b2:=dI _ z3
  obtain⟨t,t1,t3,t4⟩:=aBp s (c.fParents[k]).fShare (by have:=nI hs;omega) z1
  have step:(aC9 c k c.fParents[k]->aX c ((k:Int),s)=some (.inl (((k+1:Nat):Int),t))/\bT c ((k:Int),s)=some (.inl (((k+1:Nat):Int),t)))/\
   (¬aC9 c k c.fParents[k]->aX c ((k:Int),s)=some (.inr (.inr false))/\bT c ((k:Int),s)=some (.inr (.inr false))):=by
   have w1:IntKind.i64.wrap ((k:Int)+1)=((k+1:Nat):Int):=by rw[wi (by omega)];omega
   have hin:(k:Int)<(c.fParents.length:Int):=by omega
   unfold aX bT
   simp only[hin,if_true,aG hlt,Option.bind_some,aGp,zW,g1,g2,a1,a2,b1,b2,t1,w1]
   by_cases A:0<=(c.fParents[k]).fNode/\(c.fParents[k]).fNode<=9
   · by_cases B:(c.fParents[k]).fNode=c.fNode
     · refine⟨fun g=>absurd B g.2.1,fun _=>?_⟩
       simp[A,B]
     · by_cases D:0<sY (c.fParents[k]).fShare
       · have D':¬sY (c.fParents[k]).fShare<=0:=by omega
         have t5:=t4 hs (.inl (vQ D))
         by_cases K:0<k
         · have hlt2:k-1<c.fParents.length:=by omega
           have w2:IntKind.i64.wrap ((k:Int)-1)=((k-1:Nat):Int):=by rw[wi (by omega)];omega
           have K':(0:Int)<(k:Int):=by omega
           simp only[A,B,K',D',w2,aG hlt2,and_self,decide_true,if_true,if_false,Option.bind_some]
           by_cases C:(c.fParents[k]).fNode<=(c.fParents[k-1]).fNode
           · refine⟨fun g=>?_,fun _=>?_⟩
             · have:=g.2.2.1 (c.fParents[k-1]) K (by rw[List.getElem?_eq_getElem hlt2]);omega
             · simp[C]
           · by_cases E:bA (c.fParents[k]).fDX
             · by_cases F:bA (c.fParents[k]).fDY
               · refine⟨fun _=>?_,fun g=>absurd ⟨A,B,fun q _ hq=>?_,D,E,F⟩ g⟩
                 · simp[C,E,F,t5]
                 · rw[List.getElem?_eq_getElem hlt2]at hq;cases hq;omega
               · refine⟨fun g=>absurd g.2.2.2.2.2 F,fun _=>?_⟩
                 simp[C,E,F]
             · refine⟨fun g=>absurd g.2.2.2.2.1 E,fun _=>?_⟩
               simp[C,E]
         · have K':¬(0:Int)<(k:Int):=by omega
           simp only[A,B,K',D',and_self,decide_true,if_true,if_false,Option.bind_some]
           by_cases E:bA (c.fParents[k]).fDX
           · by_cases F:bA (c.fParents[k]).fDY
             · refine⟨fun _=>?_,fun g=>absurd ⟨A,B,fun q hq _=>absurd hq K,D,E,F⟩ g⟩
               simp[E,F,t5]
             · refine⟨fun g=>absurd g.2.2.2.2.2 F,fun _=>?_⟩
               simp[E,F]
           · refine⟨fun g=>absurd g.2.2.2.2.1 E,fun _=>?_⟩
             simp[E]
       · have D':sY (c.fParents[k]).fShare<=0:=by omega
         refine⟨fun g=>absurd g.2.2.2.1 D,fun _=>?_⟩
         by_cases K:0<k
         · have hlt2:k-1<c.fParents.length:=by omega
           have w2:IntKind.i64.wrap ((k:Int)-1)=((k-1:Nat):Int):=by rw[wi (by omega)];omega
           have K':(0:Int)<(k:Int):=by omega
           simp only[A,B,K',D',w2,aG hlt2,and_self,decide_true,if_true,if_false,Option.bind_some]
           by_cases C:(c.fParents[k]).fNode<=(c.fParents[k-1]).fNode <;> simp[C]
         · have K':¬(0:Int)<(k:Int):=by omega
           simp only[A,B,K',D',and_self,decide_true,if_true,if_false,Option.bind_some]
           simp
   · refine⟨fun g=>absurd g.1 A,fun _=>?_⟩
     simp[A]
  by_cases G:aC9 c k c.fParents[k]
  · obtain⟨s1,s2⟩:=step.1 G
    rw[aM s1,aM s2]
    obtain⟨r,e1,e2,e3⟩:=ih (k+1) (by omega) t t3
    refine⟨r,e1,e2,?_⟩
    cases r with
    | inl v =>
     refine⟨e3.1,fun j hj hkj=>?_⟩
     by_cases e:j=k
     · subst e;exact G
     · exact e3.2 j hj (by omega)
    | inr b=>exact e3
  · obtain⟨s1,s2⟩:=step.2 G
    exact⟨.inr false,aF s1,aF s2,rfl⟩
theorem aHU:VZ (nX 0):=.inl (wV 0 (by omega))
theorem aIn (c:Conditional)(h:aV c<=4294967296):∃ b,dA c=some b/\eT c=some b/\(b=true->(1<=c.fNode/\c.fNode<=9)/\∀ j (hj:j<c.fParents.length),aC9 c j c.fParents[j]):=by
 obtain⟨hl,hT⟩:=aFk h
 obtain⟨g1,g2⟩:=wI _ hT
 obtain⟨r,e1,e2,e3⟩:=aGT c h c.fParents.length 0 (by omega) (nX 0) aHU
 rw[show((0:Nat):Int)=0 from rfl]at e1 e2
 unfold dA eT
 rw[bL 0 (by omega),jJ 0 (by omega),bL 1 (by omega),jJ 1 (by omega)]
 simp only[Option.bind_some,e1,e2,g1,g2,xF]
 by_cases A:1<=c.fNode/\c.fNode<=9
 · have A1:¬c.fNode<1:=by omega
   have A2:¬10<=c.fNode:=by omega
   by_cases B:0<sY c.fTotal
   · have B':¬sY c.fTotal<=0:=by omega
     by_cases D:c.fParents.length=0
     · have D1:¬(0:Int)<(c.fParents.length:Int):=by omega
       have D2:(c.fParents.length:Int)=0:=by omega
       refine⟨false,?_,?_,fun h=>by cases h⟩
       · cases r with
         | inl v=>simp only[A,B,D1,and_self,decide_true,if_true,if_false,Option.bind_some]
         | inr b=>simp only[]at e3;subst e3;rfl
       · simp[A1,A2,B',D2]
     · have D1:(0:Int)<(c.fParents.length:Int):=by omega
       have D2:¬(c.fParents.length:Int)=0:=by omega
       cases r with
       | inl v =>
        obtain⟨b,hb⟩:=aHJ v (nX 1) (by have:=nI e3.1;omega)
        refine⟨b,?_,?_,fun _=>⟨A,fun j hj=>e3.2 j hj (by omega)⟩⟩
        · simp only[A,B,D1,hb,and_self,decide_true,if_true,if_false,Option.bind_some]
        · rw[aEd];simp only[A1,A2,B',D2,hb,decide_false,if_true,if_false,Option.bind_some,Bool.false_eq_true]
       | inr b =>
        simp only[]at e3;subst e3
        refine⟨false,rfl,?_,fun h=>by cases h⟩
        simp[A1,A2,B',D2]
   · have B':sY c.fTotal<=0:=by omega
     refine⟨false,?_,?_,fun h=>by cases h⟩
     · cases r with
       | inl v=>simp[A,B]
       | inr b=>simp only[]at e3;subst e3;rfl
     · simp[A1,A2,B']
 · refine⟨false,?_,?_,fun h=>by cases h⟩
   · cases r with
     | inl v=>simp[A]
     | inr b=>simp only[]at e3;subst e3;rfl
   · by_cases A1:c.fNode<1
     · simp[A1]
     · have A2:10<=c.fNode:=by omega
       simp[A1,A2]
end Go.Ev
/- Fractions: quotients, differences, negation; the operations as total functions that both programs meet on valid or zero values. -/
namespace Go.Ev
set_option linter.all false
def aMl (n:Int)(d:Nat)(m:Int)(e:Nat):Rat:=mkR (!(decide (n<0) == decide (m<0))) (n.natAbs*e) (d*m.natAbs)
theorem aFW (n:Int)(d:Nat)(m:Int)(e:Nat)(hd:0<d)(he:0<e)(h1:bl n<=24)(h2:(aA d).length<=24)(h3:bl m<=24)(h4:(aA e).length<=24):dX ⟨big n,aA d⟩ ⟨big m,aA e⟩=some (aMl n d m e):=by
 unfold dX
 rw[aAI hd,aAI he]
 simp only[Option.bind_some,if_true,Bool.not_true,Bool.false_eq_true,if_false,fP]
 have b1:bl (e:Int)<=24:=by unfold bl;rw[Int.natAbs_natCast];exact h4
 have b2:bl (d:Int)<=24:=by unfold bl;rw[Int.natAbs_natCast];exact h2
 have b3:=xL n e
 have b4:=xL m d
 rw[aAb,aAb,uE n e (by omega) (by omega) (by omega),uE m d (by omega) (by omega) (by omega)]
 simp only[Option.bind_some]
 unfold big aMl
 unfold bl at b1 b2 b3 b4 h1 h3
 rw[aBy _ _ _ _ (by omega) (by omega)]
 simp only[Option.bind_some,Int.natAbs_mul,Int.natAbs_natCast]
 congr 1
 rw[Nat.mul_comm d m.natAbs]
 by_cases hm:m=0
 · subst hm;unfold mkR;simp
 · refine aCz fun hx=>?_
   have s1:decide (n*(e:Int)<0)=decide (n<0):=by
    rw[decide_eq_decide]
    constructor
    · intro h
      rcases Int.lt_or_le n 0 with g | g
      · exact g
      · have:=Int.mul_nonneg g (by omega:(0:Int)<=e);omega
    · intro h;exact Int.mul_neg_of_neg_of_pos h (by omega)
   have s2:decide (m*(d:Int)<0)=decide (m<0):=by
    rw[decide_eq_decide]
    constructor
    · intro h
      rcases Int.lt_or_le m 0 with g | g
      · exact g
      · have:=Int.mul_nonneg g (by omega:(0:Int)<=d);omega
    · intro h;exact Int.mul_neg_of_neg_of_pos h (by omega)
   rw[s1,s2]
theorem aKF (r s:Rat)(hr:bF r<=4294967296)(hs:bF s<=4294967296):∃ t,gF r s=some t/\VZ t/\(VZ r->VZ s->dX r s=some t):=by
 unfold gF
 rw[dI r hr]
 simp only[Option.bind_some]
 by_cases c1:bA r
 · rw[decide_eq_true c1,if_pos rfl,dI s hs]
   simp only[Option.bind_some]
   by_cases c2:bA s
   · rw[decide_eq_true c2]
     obtain⟨n,d,e1,e2,e3,e4,_⟩:=wU c1
     obtain⟨m,e,g1,g2,g3,g4,_⟩:=wU c2
     subst e1;subst g1
     simp only[Bool.not_true,Bool.false_eq_true,if_false]
     have e3':=e3
     have g3':=g3
     unfold bl at e3' g3'
     have b1:=dM n.natAbs e
     have b2:=dM d m.natAbs
     have q:(cJ (big n).fMag (aA e))=some (aA (n.natAbs*e)):=(lO _ _ (by omega) (by omega)).1
     have q2:(cJ (aA d) (big m).fMag)=some (aA (d*m.natAbs)):=(lO _ _ (by omega) (by omega)).1
     rw[q]
     simp only[Option.bind_some]
     rw[q2]
     simp only[Option.bind_some]
     rw[aBe _ _ _ (by omega) (by omega)]
     exact⟨_,rfl,aHg _ _ _,fun _ _=>aFW n d m e e2 g2 e3 e4 g3 g4⟩
   · rw[decide_eq_false c2]
     refine⟨lI,rfl,aAh,fun v1 v2=>?_⟩
     unfold dX
     rw[gV v1,gV v2,decide_eq_true c1,decide_eq_false c2];rfl
 · rw[decide_eq_false c1]
   refine⟨lI,rfl,aAh,fun v1 v2=>?_⟩
   unfold dX
   rw[gV v1,decide_eq_false c1];rfl
theorem aEz (n:Int)(h:bl n<=24):(aA n.natAbs).length<=24:=h
theorem aH0 (n:Int):(if((aA n.natAbs).length:Int)=0 then(⟨false,[]⟩:BigInt)else⟨!decide (n<0),aA n.natAbs⟩)=big (-n):=by
 by_cases c:n=0
 · subst c;simp[big,aA]
 · have:(aA n.natAbs).length≠0:=fun e=>cM (n:=n.natAbs) (by omega) (List.length_eq_zero_iff.1 e)
   rw[if_neg (by omega)]
   unfold big
   rw[Int.natAbs_neg]
   congr 1
   by_cases h:n<0
   · rw[decide_eq_true h,decide_eq_false (by omega)];rfl
   · rw[decide_eq_false h,decide_eq_true (by omega)];rfl
theorem aDK (l:List Int)(h:l.length<=4294967296):dJ l=some l:=by
 unfold dJ
 rw[aJ (by simp;omega)]
 simp[aS]
theorem aC1 (n:Int)(d:Nat)(hd:0<d)(h1:bl n<=24)(h2:(aA d).length<=24):gI ⟨big n,aA d⟩=some ⟨big (-n),aA d⟩:=by
 unfold gI
 have h1':=aEz n h1
 rw[aAI hd]
 simp only[Option.bind_some,if_true,xN,xM]
 rw[aDK _ (by omega),aDK _ (by omega)]
 simp only[Option.bind_some]
 unfold dQ
 have e:=aH0 n
 by_cases c:((aA n.natAbs).length:Int)=0
 · rw[if_pos c]at e;simp[c,e]
 · rw[if_neg c]at e
   rw[if_neg c]
   have:¬(60:Int)<(aA n.natAbs).length:=by omega
   simp[this,e]
theorem aJY (n:Int)(d:Nat)(h1:bl n<=24)(h2:(aA d).length<=24):mN ⟨big n,aA d⟩=some ⟨big (-n),aA d⟩:=by
 unfold mN
 have h1':=aEz n h1
 simp only[xN,xM]
 rw[nQ _ _ (by omega),aJ (by simp;omega)]
 simp only[Option.bind_some,aS,List.nil_append]
 have e:=aH0 n
 congr 2
 rw[<- e]
 by_cases c:n=0
 · subst c;simp[aA]
 · have:(aA n.natAbs).length≠0:=fun e=>cM (n:=n.natAbs) (by omega) (List.length_eq_zero_iff.1 e)
   rw[if_neg (by omega)]
   simp[c]
theorem aEp {n:Int}{d:Nat}(h:bA ⟨big n,aA d⟩)(h1:bl n<=24):bA ⟨big (-n),aA d⟩:=by
 obtain⟨⟨a1,a2⟩,b,c,d1,e,f⟩:=h
 refine⟨⟨?_,fun hn=>?_⟩,b,c,d1,?_,?_⟩
 · show qK (aA (-n).natAbs);rw[Int.natAbs_neg];exact a1
 · simp only[big,decide_eq_true_eq]at hn ⊢
   exact cM (by omega)
 · show(aA (-n).natAbs).length<=24;rw[Int.natAbs_neg];exact e
 · show Nat.gcd (val (aA (-n).natAbs)) _=1;rw[Int.natAbs_neg];exact f
theorem aGM (r:Rat)(hr:bF r<=4294967296):∃ t,mT r=some t/\VZ t/\(VZ r->gI r=some t)/\(bA r->mN r=some t/\bA t):=by
 unfold mT
 rw[dI r hr]
 simp only[Option.bind_some]
 by_cases c1:bA r
 · rw[decide_eq_true c1,if_pos rfl]
   obtain⟨n,d,e1,e2,e3,e4,_⟩:=wU c1
   subst e1
   rw[aJY n d e3 e4]
   exact⟨_,rfl,.inl (aEp c1 e3),fun _=>aC1 n d e2 e3 e4,fun _=>⟨rfl,aEp c1 e3⟩⟩
 · rw[decide_eq_false c1]
   refine⟨lI,rfl,aAh,fun v1=>?_,fun h=>absurd h c1⟩
   unfold gI
   rw[gV v1,decide_eq_false c1];rfl
theorem aKD (r s:Rat)(hr:bF r<=4294967296)(hs:bF s<=4294967296):∃ t,hZ r s=some t/\VZ t/\(VZ r->VZ s->eQ r s=some t):=by
 unfold hZ
 rw[dI r hr]
 simp only[Option.bind_some]
 obtain⟨u,u1,u2,u3,u4⟩:=aGM s hs
 obtain⟨t,t1,t3,t4⟩:=aBp r u hr (by have:=nI u2;omega)
 by_cases c1:bA r
 · rw[decide_eq_true c1,if_pos rfl,dI s hs]
   simp only[Option.bind_some]
   by_cases c2:bA s
   · rw[decide_eq_true c2]
     simp only[Bool.not_true,Bool.false_eq_true,if_false]
     obtain⟨u5,u6⟩:=u4 c2
     rw[u5]
     simp only[Option.bind_some]
     have:mP r u=some t:=by
      have:=t1
      unfold cK at this
      rw[dI r hr,dI u (by have:=nI u2;omega),decide_eq_true c1,decide_eq_true u6]at this
      simpa using this
     rw[this]
     refine⟨t,rfl,t3,fun v1 v2=>?_⟩
     unfold eQ
     rw[u3 v2]
     simp only[Option.bind_some]
     rw[t4 v1 u2];rfl
   · rw[decide_eq_false c2]
     refine⟨lI,rfl,aAh,fun v1 v2=>?_⟩
     unfold eQ
     have e:u=lI:=by
      have:=u1
      unfold mT at this
      rw[dI s hs,decide_eq_false c2]at this
      simpa [lI]using this.symm
     rw[u3 v2]
     simp only[Option.bind_some]
     unfold bU
     rw[gV v1,gV u2,decide_eq_true c1,decide_eq_false (by rw[e];exact yG)];rfl
 · rw[decide_eq_false c1]
   refine⟨lI,rfl,aAh,fun v1 v2=>?_⟩
   unfold eQ
   rw[u3 v2]
   simp only[Option.bind_some]
   unfold bU
   rw[gV v1,decide_eq_false c1];rfl
noncomputable def RA (r s:Rat):Rat:=(cK r s).getD lI
noncomputable def RM (r s:Rat):Rat:=(dF r s).getD lI
noncomputable def RD (r s:Rat):Rat:=(gF r s).getD lI
noncomputable def RS (r s:Rat):Rat:=(hZ r s).getD lI
noncomputable def RN (r:Rat):Rat:=(mT r).getD lI
theorem VZs {r:Rat}(h:VZ r):bF r<=4294967296:=by have:=nI h;omega
theorem aNL {r s:Rat}(hr:bF r<=4294967296)(hs:bF s<=4294967296):cK r s=some (RA r s)/\VZ (RA r s):=by
 obtain⟨t,t1,t3,t4⟩:=aBp r s hr hs
 have:RA r s=t:=by unfold RA;rw[t1];rfl
 rw[this];exact⟨t1,t3⟩
theorem zI {r s:Rat}(hr:VZ r)(hs:VZ s):cK r s=some (RA r s)/\bU r s=some (RA r s)/\VZ (RA r s):=by
 obtain⟨t,t1,t3,t4⟩:=aBp r s (VZs hr) (VZs hs)
 have:RA r s=t:=by unfold RA;rw[t1];rfl
 rw[this];exact⟨t1,t4 hr hs,t3⟩
theorem aCv {r s:Rat}(hr:VZ r)(hs:VZ s):dF r s=some (RM r s)/\cC r s=some (RM r s)/\VZ (RM r s):=by
 obtain⟨t,t1,t3,t4⟩:=aKE r s (VZs hr) (VZs hs)
 have:RM r s=t:=by unfold RM;rw[t1];rfl
 rw[this];exact⟨t1,t4 hr hs,t3⟩
theorem aDU {r s:Rat}(hr:VZ r)(hs:VZ s):gF r s=some (RD r s)/\dX r s=some (RD r s)/\VZ (RD r s):=by
 obtain⟨t,t1,t3,t4⟩:=aKF r s (VZs hr) (VZs hs)
 have:RD r s=t:=by unfold RD;rw[t1];rfl
 rw[this];exact⟨t1,t4 hr hs,t3⟩
theorem aFF {r s:Rat}(hr:VZ r)(hs:VZ s):hZ r s=some (RS r s)/\eQ r s=some (RS r s)/\VZ (RS r s):=by
 obtain⟨t,t1,t3,t4⟩:=aKD r s (VZs hr) (VZs hs)
 have:RS r s=t:=by unfold RS;rw[t1];rfl
 rw[this];exact⟨t1,t4 hr hs,t3⟩
theorem aI9 {r:Rat}(hr:VZ r):mT r=some (RN r)/\gI r=some (RN r)/\VZ (RN r):=by
 obtain⟨t,t1,t3,t4,_⟩:=aGM r (VZs hr)
 have:RN r=t:=by unfold RN;rw[t1];rfl
 rw[this];exact⟨t1,t4 hr,t3⟩
theorem aE4 {n:Int}{d:Nat}(h:bA ⟨big n,aA d⟩):0<sY ⟨big n,aA d⟩↔0<n:=by
 unfold sY
 rw[if_pos h]
 simp only[xN,xM,decide_eq_true_eq]
 by_cases c:n=0
 · subst c;simp[aA]
 · rw[if_neg (cM (by omega))]
   by_cases h:n<0
   · rw[if_pos h];omega
   · rw[if_neg h];omega
theorem aLc {x y:Nat}(hx:0<x)(h:bA (mkR false x y)):0<sY (mkR false x y):=by
 unfold sY
 rw[if_pos h]
 unfold mkR at h ⊢
 by_cases c:y=0
 · rw[if_pos c]at h;exact absurd h yG
 · rw[if_neg c]at h ⊢
   by_cases c2:24<(aA (x / Nat.gcd x y)).length\/24<(aA (y / Nat.gcd x y)).length
   · rw[if_pos c2]at h;exact absurd h yG
   · rw[if_neg c2]at h ⊢
     have hg:0<Nat.gcd x y:=Nat.gcd_pos_of_pos_left y hx
     have:0<x / Nat.gcd x y:=Nat.div_pos (Nat.gcd_le_left y hx) hg
     simp only[Bool.false_and,Bool.false_eq_true,if_false]
     rw[if_neg (cM (by omega))];omega
theorem aMy {r s:Rat}(hr:0<sY r)(hs:0<sY s)(h:bA (RA r s)):0<sY (RA r s):=by
 have r1:=vQ hr
 have s1:=vQ hs
 obtain⟨n,d,e1,e2,e3,e4,_⟩:=wU r1
 obtain⟨m,e,g1,g2,g3,g4,_⟩:=wU s1
 subst e1;subst g1
 have hn:=(aE4 r1).1 hr
 have hm:=(aE4 s1).1 hs
 have q:=(zI (.inl r1) (.inl s1)).2.1
 rw[aAY n d m e e2 g2 e3 e4 g3 g4]at q
 have q:=Option.some.inj q
 rw[<- q]at h ⊢
 unfold aGJ at h ⊢
 have p1:0<n*(e:Int):=Int.mul_pos hn (by omega)
 have p2:0<m*(d:Int):=Int.mul_pos hm (by omega)
 rw[decide_eq_false (by omega)]at h ⊢
 exact aLc (by omega) h
end Go.Ev
