/- Parts PF, P25, PQ1, PQ2, PQ3, PQ4, PQ5, PQ6, PQ8, PH, PQ9. -/
import Derived.Test.YtachfjpemagdiaaGreatPa1
import Derived.Test.YtachfjpemagdiaaGreatLd
set_option linter.all false
/- Plain laws of helpers over nested data, printed by program (fam.py). -/
namespace Go.Ev
set_option linter.all false
def qE (x:(List Int)):Nat:=szL (fun _=>0) x
def jO (x:Clique):Nat:=qE x.fFrontal+qE x.fSeparator
def bM (x:(List Clique)):Nat:=szL jO x
def tG (x:BigInt):Nat:=qE x.fMag
def bG (x:Rat):Nat:=tG x.fNum+qE x.fDen
def iX (x:Parent):Nat:=bG x.fShare+bG x.fDX+bG x.fDY
def mI (x:(List Parent)):Nat:=szL iX x
def aS (x:Conditional):Nat:=bG x.fTotal+mI x.fParents
def bP (x:Link):Nat:=bG x.fWeight+bG x.fDX+bG x.fDY
def aG (x:(List Link)):Nat:=szL bP x
def bN (x:TreeNode):Nat:=aG x.fOwn+aS x.fCond+aG x.fMessages+bG x.fEnergy
def nZ (x:(List TreeNode)):Nat:=szL bN x
def nD (x:Tree):Nat:=nZ x.fNodes
end Go.Ev
/- Fractions made of whole numbers: both programs make the same. -/
namespace Go.Ev
set_option linter.all false
theorem wu {n:Int} (h:0≤n∧n≤18446744073709551615):IntKind.u64.wrap n=n:=by
  have:IntKind.u64.wrap n=n % 18446744073709551616:=by simp [IntKind.wrap,IntKind.bits,IntKind.signed]
  rw [this];omega
theorem aDY (v:Nat):((v:Int)).tmod 1000000000=((v % BB:Nat):Int):=by
  rw [Int.tmod_eq_emod_of_nonneg (by omega),cY];omega
theorem aDZ (v:Nat):((v:Int)).tdiv 1000000000=((v / BB:Nat):Int):=by
  rw [Int.tdiv_eq_ediv_of_nonneg (by omega),cY];omega
theorem aEq:∀ (v:Nat) (t:List Int),v < 18446744073709551616→t.length+(aA v).length≤1000→lp iO ((v:Int),t)=some (t++aA v):=by
  intro v
  induction v using Nat.strongRecOn with
  | _ v ih =>
    intro t hv ht
    by_cases h:v=0
    · subst h
      rw [bB,List.append_nil]
      exact aH (by unfold iO;simp)
    · rw [gT h,List.length_cons] at ht
      have hm:=Nat.mod_lt v tA
      have hd:=Nat.div_le_self v BB
      rw [cY] at hm
      have e:iO ((v:Int),t)=some (.inl (((v / BB:Nat):Int),t++[((v % BB:Nat):Int)])):=by
        unfold iO
        simp only []
        rw [if_pos (by omega),aDY,aDZ,wi (by rw [cY];omega),wu (by rw [cY] at hd ⊢;omega),aN (by omega)]
        rfl
      rw [aQ e,ih _ (Nat.div_lt_self (by omega) (by rw [cY];omega)) _ (by omega) (by simp;omega),gT h]
      simp
theorem jF {v:Nat} (h:v < 18446744073709551616):(aA v).length≤3:=by
  refine gA ?_
  rw [cY];omega
theorem uJ (v:Nat) (h:v < 18446744073709551616):gF (v:Int)=some (aA v):=by
  unfold gF
  have:=jF h
  rw [aEq v [] h (by simp;omega)]
  simp
theorem aJm:∀ (v:Nat) (t:List Int),v < 9223372036854775808→t.length+(aA v).length≤1000→lp oC ((v:Int),t)=some (t++aA v):=by
  intro v
  induction v using Nat.strongRecOn with
  | _ v ih =>
    intro t hv ht
    by_cases h:v=0
    · subst h
      rw [bB,List.append_nil]
      exact aH (by unfold oC;simp)
    · rw [gT h,List.length_cons] at ht
      have hd:=Nat.div_le_self v BB
      have e:oC ((v:Int),t)=some (.inl (((v / BB:Nat):Int),t++[((v % BB:Nat):Int)])):=by
        unfold oC
        simp only []
        rw [if_pos (by omega),aDY,aDZ,wi (by rw [cY] at hd ⊢;omega),aN (by omega)]
        rfl
      rw [aQ e,ih _ (Nat.div_lt_self (by omega) (by rw [cY];omega)) _ (by omega) (by simp;omega),gT h]
      simp
theorem zY (v:Nat) (h:v < 9223372036854775808):lB (v:Int)=some (aA v):=by
  unfold lB
  have:=jF (v:=v) (by omega)
  rw [aJm v [] h (by simp;omega)]
  simp
theorem aKf (l:List Int) (hl:l.length≤4294967296):∀ k:Nat,k≤l.length→(∀ i (hi:i < l.length),k≤i→l[i]=0)→lp (fK l) (k:Int)=some (((qC l).length:Nat):Int):=by
  have htl:∀ (m:List Int) (k:Nat),k≤m.length→(∀ i (hi:i < m.length),k≤i→m[i]=0)→qC m=qC (m.take k):=by
    intro m
    induction m with
    | nil=>intro k _ _;simp
    | cons d m ih =>
      intro k hk hz
      cases k with
      | zero =>
        have h0:d=0:=hz 0 (by simp) (Nat.le_refl _)
        have:=ih 0 (by omega) (fun i hi _=>by have:=hz (i+1) (by simpa using hi) (by omega);simpa using this)
        rw [List.take_zero] at this ⊢
        unfold qC
        rw [this];simp [qC,h0]
      | succ k =>
        have:=ih k (by simpa using hk) (fun i hi hki=>by have:=hz (i+1) (by simpa using hi) (by omega);simpa using this)
        rw [List.take_succ_cons]
        conv=>lhs;unfold qC
        conv=>rhs;unfold qC
        rw [this]
  intro k
  induction k with
  | zero =>
    intro hk hz
    rw [htl l 0 (by omega) hz,List.take_zero]
    exact aH (by unfold fK;simp [qC])
  | succ k ih =>
    intro hk hz
    have hlt:k < l.length:=by omega
    by_cases c:l[k]=0
    · have e:fK l ((k+1:Nat):Int)=some (.inl (k:Int)):=by
        unfold fK
        rw [if_pos (by omega),wi (by omega),show ((k+1:Nat):Int) - 1=(k:Int) by omega,aF hlt]
        simp [c]
      rw [aQ e]
      exact ih (by omega) (fun i hi hki=>by
        by_cases e:i=k
        · subst e;exact c
        · exact hz i hi (by omega))
    · have e:fK l ((k+1:Nat):Int)=some (.inr ((k+1:Nat):Int)):=by
        unfold fK
        rw [if_pos (by omega),wi (by omega),show ((k+1:Nat):Int) - 1=(k:Int) by omega,aF hlt]
        simp [c]
      rw [aH e,htl l (k+1) hk hz,aB5 (l:=l.take (k+1))]
      · simp;omega
      · have e:l.take (k+1)=l.take k++[l[k]]:=by rw [List.take_succ,List.getElem?_eq_getElem hlt];rfl
        rw [e,List.getLast?_concat];simpa using c
theorem aFD (l:List Int):qC l=l.take (qC l).length:=by
  induction l with
  | nil=>rfl
  | cons d l ih =>
    unfold qC
    cases h:qC l with
    | nil =>
      by_cases c:d=0 <;> simp [c]
    | cons t r =>
      rw [h] at ih
      simp only [List.length_cons,List.take_succ_cons] at ih ⊢
      rw [← ih]
theorem aHf (l:List Int):(qC l).length≤l.length:=by
  have:=congrArg List.length (aFD l)
  rw [List.length_take] at this;omega
theorem aF1 (l:List Int) (hl:l.length≤4294967296):cJ l=some (qC l):=by
  unfold cJ
  rw [aKf l hl l.length (Nat.le_refl _) (fun i hi h=>by omega)]
  simp only [Option.bind_some]
  have:=aHf l
  rw [qZ _ _ _ (by omega)]
  simp only [Option.bind_some]
  congr 1
  have e:=aFD l
  simp only [Int.toNat_zero,List.drop_zero,Int.sub_zero,Int.toNat_natCast]
  exact e.symm
theorem aLS (v:Nat) (h:(aA v).length≤60):uE (aA v)=some (aA v):=by
  unfold uE
  rw [aF1 _ (by omega)]
  simp only [Option.bind_some]
  rw [aB5 (aAJ v),if_neg (by omega)]
def big (n:Int):BigInt:=⟨decide (n < 0),aA n.natAbs⟩
theorem pS (s:Bool) (v:Nat) (h:(aA v).length≤60):cH s (aA v)=some ⟨s&&decide (v≠0),aA v⟩:=by
  unfold cH
  rw [aLS v h]
  simp only [Option.bind_some]
  have hz:(0 < ((aA v).length:Int))↔v≠0:=by
    constructor
    · intro h e;subst e;rw [bB] at h;simp at h
    · intro h
      have:(aA v).length≠0:=fun e=>cZ h (List.length_eq_zero_iff.1 e)
      omega
  cases s with
  | true =>
    simp only [if_true]
    rw [aN (by simp;omega)]
    simp only [Option.bind_some,aO,List.nil_append,Bool.true_and]
    congr 2
    exact decide_eq_decide.2 hz
  | false =>
    simp only [Bool.false_eq_true,if_false]
    rw [aN (by simp;omega)]
    simp only [Option.bind_some,aO,List.nil_append,Bool.false_and]
theorem tS (s:Bool) (v:Nat) (h:(aA v).length≤60):eG s (aA v)=some ⟨s&&decide (v≠0),aA v⟩:=by
  unfold eG
  by_cases hv:v=0
  · subst hv
    rw [bB];simp
  · have:(aA v).length≠0:=fun e=>cZ hv (List.length_eq_zero_iff.1 e)
    rw [if_neg (by omega)]
    simp only [Option.bind_some]
    have h2:¬(60 < ((aA v).length:Int)):=by omega
    simp [h2,hv]
theorem aDA (n:Int) (h:-9223372036854775808≤n∧n≤9223372036854775807):qW n=some (big n):=by
  unfold qW big
  by_cases c:n < 0
  · rw [if_pos c]
    simp only [aO]
    rw [wi (n:=n+1) (by omega),wi (by omega),wu (n:=0 - (n+1)) (by omega),wu (by omega)]
    have e:(0 - (n+1)+1)=((n.natAbs:Nat):Int):=by omega
    have hl:=jF (v:=n.natAbs) (by omega)
    rw [e,uJ _ (by omega)]
    simp only [Option.bind_some]
    rw [tS true _ (by omega)]
    simp only [Option.bind_some,Bool.true_and]
    have:n.natAbs≠0:=by omega
    simp [c,this]
  · rw [if_neg c]
    have e:n=((n.natAbs:Nat):Int):=by omega
    have hl:=jF (v:=n.natAbs) (by omega)
    rw [wu (by omega)]
    conv=>lhs;rw [e]
    rw [uJ _ (by omega)]
    simp only [Option.bind_some]
    rw [tS false _ (by omega)]
    simp [c]
theorem aDe (n:Int) (h:-9223372036854775808≤n∧n≤9223372036854775807):qL n=some (big n):=by
  unfold qL big
  by_cases c0:n=-9223372036854775808
  · rw [if_pos c0]
    subst c0
    have hd:([854775808,223372036,9]:List Int)=aA 9223372036854775808:=by
      have h1:dgs [854775808,223372036,9]:=by intro d hd;simp at hd;omega
      have:=zH (l:=[854775808,223372036,9]) ⟨h1,by simp⟩
      rw [this];rfl
    have hl:=jF (v:=9223372036854775808) (by omega)
    rw [hd,pS true _ (by omega)]
    simp only [Option.bind_some]
    rfl
  · rw [if_neg c0]
    by_cases c:n < 0
    · rw [if_pos c,wi (by omega)]
      have e:(0 - n)=((n.natAbs:Nat):Int):=by omega
      have hl:=jF (v:=n.natAbs) (by omega)
      rw [e,zY _ (by omega)]
      simp only [Option.bind_some]
      rw [pS true _ (by omega)]
      simp only [Option.bind_some,Bool.true_and]
      have:n.natAbs≠0:=by omega
      simp [c,this]
    · rw [if_neg c]
      have e:n=((n.natAbs:Nat):Int):=by omega
      have hl:=jF (v:=n.natAbs) (by omega)
      conv=>lhs;rw [e]
      rw [zY _ (by omega)]
      simp only [Option.bind_some]
      rw [pS false _ (by omega)]
      simp [c]
def pZ (n:Int):Rat:=⟨big n,[1]⟩
theorem kX (n:Int) (h:-9223372036854775808≤n∧n≤9223372036854775807):dY n=some (pZ n):=by
  unfold dY
  rw [aDA n h];rfl
theorem bS (n:Int) (h:-9223372036854775808≤n∧n≤9223372036854775807):cE n=some (pZ n):=by
  unfold cE
  rw [aDe n h];rfl
end Go.Ev
/- Naturals as limbs: order, sums, differences; both programs. -/
namespace Go.Ev
open IntKind
set_option linter.all false
theorem vJ:mU=cJ:=rfl
theorem yT {l:List Int} (h:dgs l) (hl:l.length≤4294967296):cJ l=some (aA (val l)):=by rw [aF1 l hl,aDT h]
theorem aH8:wI=gC:=rfl
theorem aMc (x y t:Nat):qX (x+t) (y+t)=qX x y:=by unfold qX;simp only [Nat.add_lt_add_iff_right]
theorem aMa (a b:List Int) (ha:dgs a) (hb:dgs b) (hab:a.length=b.length) (hl:a.length≤4294967296):∀ k:Nat,k≤a.length →
    lp (gC a b) ((k:Int) - 1)=some (if val (a.take k)=val (b.take k) then .inl () else .inr (qX (val (a.take k)) (val (b.take k)))):=by
  intro k
  induction k with
  | zero =>
    intro _
    rw [aH (r:=.inl ()) (by unfold gC;rw [if_neg (by omega)])]
    simp
  | succ k ih =>
    intro hk
    have h1:k < a.length:=by omega
    have h2:k < b.length:=by omega
    have d1:=lJ ha h1
    have d2:=lJ hb h2
    have v1:=aDS (aH7 ha k)
    have v2:=aDS (aH7 hb k)
    rw [List.length_take,Nat.min_eq_left (by omega)] at v1 v2
    rw [nY h1,nY h2]
    have hk1:((k+1:Nat):Int) - 1=(k:Int):=by omega
    rw [hk1]
    by_cases c1:a[k] < b[k]
    · rw [aH (r:=.inr (-1)) (by unfold gC;rw [if_pos (by omega),aF h1,aF h2];simp [c1])]
      have:BB ^ k*(a[k]).toNat+BB ^ k≤BB ^ k*(b[k]).toNat:=by
        rw [← Nat.mul_succ];exact Nat.mul_le_mul_left _ (by omega)
      rw [if_neg (by omega)];unfold qX;rw [if_pos (by omega)]
    · by_cases c2:b[k] < a[k]
      · rw [aH (r:=.inr 1) (by unfold gC;rw [if_pos (by omega),aF h1,aF h2];simp [c1,c2])]
        have:BB ^ k*(b[k]).toNat+BB ^ k≤BB ^ k*(a[k]).toNat:=by
          rw [← Nat.mul_succ];exact Nat.mul_le_mul_left _ (by omega)
        rw [if_neg (by omega)];unfold qX;rw [if_neg (by omega),if_pos (by omega)]
      · have e:a[k]=b[k]:=by omega
        rw [aQ (s':=(k:Int) - 1) (by unfold gC;rw [if_pos (by omega),aF h1,aF h2,wi (by omega)];simp [c1,c2]),ih (by omega),e]
        by_cases c3:val (a.take k)=val (b.take k)
        · rw [if_pos c3,if_pos (by omega)]
        · rw [if_neg c3,if_neg (by omega)]
          rw [aMc]
theorem aH9 {x y:Nat} (h:(aA x).length < (aA y).length):qX x y=-1:=by unfold qX;rw [if_pos (aIS h)]
theorem aGb {x y:Nat} (h:(aA y).length < (aA x).length):qX x y=1:=by have:=aIS h;unfold qX;rw [if_neg (by omega),if_pos this]
theorem aMb (x y:Nat) (hx:(aA x).length≤1000) (h:(aA x).length=(aA y).length):lp (gC (aA x) (aA y)) (((aA x).length:Int) - 1)=some (if x=y then .inl () else .inr (qX x y)):=by
  have:=aMa (aA x) (aA y) (dW x) (dW y) h (by omega) (aA x).length (Nat.le_refl _)
  rw [List.take_length,h,List.take_length,cK,cK] at this
  rw [h];exact this
theorem aAD (x y:Nat) (hx:(aA x).length≤1000) (hy:(aA y).length≤1000):mL (aA x) (aA y)=some (qX x y):=by
  unfold mL
  by_cases c:(aA x).length=(aA y).length
  · rw [if_neg (by omega),aO,wi (by omega),aMb x y hx c]
    by_cases e:x=y
    · subst e;simp [qX]
    · rw [if_neg e];rfl
  · rw [if_pos (by omega)]
    by_cases c2:(aA x).length < (aA y).length
    · rw [if_pos (by omega),aH9 c2]
    · rw [if_neg (by omega),aGb (by omega)]
theorem aEs (x y:Nat) (hx:(aA x).length≤1000) (hy:(aA y).length≤1000):rV (aA x) (aA y)=some (qX x y):=by
  unfold rV
  by_cases c2:(aA x).length < (aA y).length
  · rw [if_pos (by omega),aH9 c2]
  · rw [if_neg (by omega)]
    by_cases c3:(aA y).length < (aA x).length
    · rw [if_pos (by omega),aGb c3]
    · rw [if_neg (by omega),aO,wi (by omega),aH8,aMb x y hx (by omega)]
      by_cases e:x=y
      · subst e;simp [qX]
      · rw [if_neg e];rfl
theorem aIg (a b:List Int) (i c:Nat) (out:List Int) (x:Nat) (hx:x≤1999999999) (ho:out.length=i) (hi:i≤2000) (hlt:i < a.length∨i < b.length∨c=1) (hc:c≤1)
    (h:(x:Int)=c+(if h:i < a.length then a[i] else 0)+(if h:i < b.length then b[i] else 0)) (ha:dgs a) (hb:dgs b) :
    hU a b ((c:Int),(i:Int),out)=some (.inl (((x / BB:Nat):Int),((i+1:Nat):Int),out++[((x % BB:Nat):Int)])):=by
  unfold hU
  simp only []
  by_cases c1:i < a.length
  · have d1:=lJ ha c1
    rw [dif_pos c1] at h
    rw [if_pos (by omega),if_pos (by omega),aF c1]
    simp only [Option.bind_some,if_true]
    rw [wi (by omega)]
    by_cases c2:i < b.length
    · have d2:=lJ hb c2
      rw [dif_pos c2] at h
      rw [if_pos (by omega),aF c2]
      simp only [Option.bind_some]
      rw [wi (by omega),← h,aN (by omega)]
      simp only [Option.bind_some,aO]
      rw [aDY,aDZ,wi (by rw [cY];omega),wi (by omega)];rfl
    · rw [dif_neg c2] at h
      rw [if_neg (by omega)]
      simp only [Option.bind_some]
      rw [show (c:Int)+a[i]=(x:Int) by omega,aN (by omega)]
      simp only [Option.bind_some,aO]
      rw [aDY,aDZ,wi (by rw [cY];omega),wi (by omega)];rfl
  · rw [dif_neg c1] at h
    have n1:¬((i:Int) < (a.length:Int)):=by omega
    simp only [n1,if_false]
    by_cases c2:i < b.length
    · have d2:=lJ hb c2
      rw [dif_pos c2] at h
      have n2:((i:Int) < (b.length:Int)):=by omega
      simp only [n2,if_true,Option.bind_some]
      rw [aF c2]
      simp only [Option.bind_some]
      rw [wi (by omega),show (c:Int)+b[i]=(x:Int) by omega,aN (by omega)]
      simp only [Option.bind_some,aO]
      rw [aDY,aDZ,wi (by rw [cY];omega),wi (by omega)];rfl
    · rw [dif_neg c2] at h
      have n2:¬((i:Int) < (b.length:Int)):=by omega
      have hc1:c=1:=by omega
      have hc2:(0 < (c:Int)):=by omega
      simp only [n2,hc2,if_false,decide_true,Option.bind_some,if_true]
      rw [show (c:Int)=(x:Int) by omega,aN (by omega)]
      simp only [Option.bind_some,aO]
      rw [aDY,aDZ,wi (by rw [cY];omega),wi (by omega)];rfl
theorem aIf (a b:List Int) (i:Nat) (out:List Int) (h1:a.length≤i) (h2:b.length≤i):lp (hU a b) (0,(i:Int),out)=some out :=
  aH (by unfold hU;simp only [];rw [if_neg (by omega),if_neg (by omega)];simp)
theorem aM8 (a b:List Int) (ha:dgs a) (hb:dgs b) (i c:Nat) (out:List Int) (hc:c≤1) (ho:out.length=i) (hi:i≤1999) (h1:a.length≤i) (h2:b.length≤i) :
    lp (hU a b) ((c:Int),(i:Int),out)=some (out++aA c):=by
  rcases Nat.eq_zero_or_pos c with e | e
  · subst e
    rw [bB,List.append_nil];exact aIf a b i out h1 h2
  · have e1:c=1:=by omega
    subst e1
    have:=aIg a b i 1 out 1 (by omega) ho (by omega) (.inr (.inr rfl)) (by omega) (by rw [dif_neg (by omega),dif_neg (by omega)];omega) ha hb
    rw [aQ this,show 1 / BB=0 from rfl,show 1 % BB=1 from rfl]
    rw [show ((0:Nat):Int)=0 from rfl,aIf a b (i+1) _ (by omega) (by omega),pX (by rw [cY];omega) (by omega)]
theorem aMl (a b:List Int) (ha:nat a) (hb:nat b) (hla:a.length≤1000) (hlb:b.length≤1000):∀ (m i c:Nat) (out:List Int),c≤1→m+i=max a.length b.length→out.length=i →
    lp (hU a b) ((c:Int),(i:Int),out)=some (out++aA (c+(val (a.drop i)+val (b.drop i)))):=by
  intro m
  induction m with
  | zero =>
    intro i c out hc hm ho
    rw [fJ (by omega),fJ (by omega)]
    exact aM8 a b ha.1 hb.1 i c out hc ho (by omega) (by omega) (by omega)
  | succ m ih =>
    intro i c out hc hm ho
    obtain ⟨x,hx,e1,e2,e3⟩:∃ x:Nat,x≤1999999999∧c+(val (a.drop i)+val (b.drop i))=x+BB*(val (a.drop (i+1))+val (b.drop (i+1))) ∧
        c+(val (a.drop i)+val (b.drop i))≠0∧(x:Int)=c+(if h:i < a.length then a[i] else 0)+(if h:i < b.length then b[i] else 0):=by
      by_cases c1:i < a.length
      · have d1:=lJ ha.1 c1
        have n1:=aCT ha c1
        have v1:=gU c1
        by_cases c2:i < b.length
        · have d2:=lJ hb.1 c2
          have v2:=gU c2
          refine ⟨c+(a[i]).toNat+(b[i]).toNat,by omega,by rw [Nat.mul_add];omega,by omega,by rw [dif_pos c1,dif_pos c2];omega⟩
        · have v2:=fJ (l:=b) (k:=i) (by omega)
          have v3:=fJ (l:=b) (k:=i+1) (by omega)
          refine ⟨c+(a[i]).toNat,by omega,by rw [Nat.mul_add,v3];omega,by omega,by rw [dif_pos c1,dif_neg c2];omega⟩
      · have c2:i < b.length:=by omega
        have d2:=lJ hb.1 c2
        have n2:=aCT hb c2
        have v2:=gU c2
        have v1:=fJ (l:=a) (k:=i) (by omega)
        have v3:=fJ (l:=a) (k:=i+1) (by omega)
        refine ⟨c+(b[i]).toNat,by omega,by rw [Nat.mul_add,v3];omega,by omega,by rw [dif_neg c1,dif_pos c2];omega⟩
    rw [aQ (aIg a b i c out x hx ho (by omega) (by omega) hc e3 ha.1 hb.1),ih (i+1) (x / BB) _ (by rw [cY];omega) (by omega) (by simp [ho])]
    rw [e1] at e2 ⊢
    rw [aH6 e2];simp
theorem aHP (x y:Nat) (hx:(aA x).length≤1000) (hy:(aA y).length≤1000):uF (aA x) (aA y)=some (aA (x+y)):=by
  unfold uF
  have:=aMl (aA x) (aA y) (aLF x) (aLF y) hx hy _ 0 0 [] (by omega) (Nat.add_zero _) rfl
  rw [show ((0:Nat):Int)=0 from rfl,List.drop_zero,List.drop_zero,cK,cK,Nat.zero_add] at this
  rw [this];rfl
theorem aLH (x y:Nat) (hx:(aA x).length≤1000) (hy:(aA y).length≤1000):xG (aA x) (aA y)=some (aA (x+y)):=aHP x y hx hy
theorem aK2 (a b:List Int) (ha:dgs a) (hb:dgs b) (hla:a.length≤1000) (hab:b.length≤a.length):∀ (m i c:Nat) (out:List Int),c≤1→m+i=a.length→out.length=i→dgs out→val (a.take i)+c*BB ^ i=val out+val (b.take i) →
    ∃ (c':Nat) (out':List Int),lp (lL a b) ((c:Int),(i:Int),out)=some out'∧lp (lW a b) ((c:Int),(i:Int),out++List.replicate m 0)=some out'∧dgs out'∧out'.length=a.length∧val a+c'*BB ^ a.length=val out'+val b:=by
  intro m
  induction m with
  | zero =>
    intro i c out hc hm ho hd hv
    have e:i=a.length:=by omega
    refine ⟨c,out,aH ?_,aH ?_,hd,by omega,?_⟩
    · unfold lL;simp only [];rw [if_neg (by omega)]
    · unfold lW;simp only [];rw [if_neg (by omega)];simp
    · rw [e,List.take_length,List.take_of_length_le hab] at hv;exact hv
  | succ m ih =>
    intro i c out hc hm ho hd hv
    have h1:i < a.length:=by omega
    have d1:=lJ ha h1
    obtain ⟨bi,hb1,hb2,hb3⟩:∃ bi:Nat,bi < 1000000000∧val (b.take (i+1))=val (b.take i)+BB ^ i*bi∧(bi:Int)=(if h:i < b.length then b[i] else 0):=by
      by_cases c2:i < b.length
      · have d2:=lJ hb c2
        exact ⟨(b[i]).toNat,by omega,nY c2,by rw [dif_pos c2];omega⟩
      · refine ⟨0,by omega,?_,by rw [dif_neg c2];rfl⟩
        rw [List.take_of_length_le (by omega),List.take_of_length_le (by omega)];simp
    obtain ⟨n,c',hn,hc',he⟩:∃ n c':Nat,n < 1000000000∧c'≤1∧a[i] - (c:Int) - (bi:Int)+c'*1000000000=(n:Int)∧(c'=1↔a[i] - (c:Int) - (bi:Int) < 0):=by
      by_cases g:a[i] - (c:Int) - (bi:Int) < 0
      · exact ⟨(a[i] - (c:Int) - (bi:Int)+1000000000).toNat,1,by omega,by omega,by omega,by simp [g]⟩
      · exact ⟨(a[i] - (c:Int) - (bi:Int)).toNat,0,by omega,by omega,by omega,by simp [g]⟩
    obtain ⟨he,hg⟩:=he
    have hs:(n:Int)=a[i] - c - bi+c'*1000000000:=by omega
    have s0:(((if ((i:Int) < (b.length:Int)) then (idx b (i:Int)).bind fun y16=>(aZ (i64.wrap (i64.wrap (a[i] - c) - y16))).bind fun v17=>some v17 else some (i64.wrap (a[i] - c))):Option Int).bind (fun d19=>((if (d19 < 0) then (aZ (i64.wrap (d19+1000000000))).bind fun v21=>some (1,v21) else some (0,d19)):Option (Int × Int))))=some ((c':Int),(n:Int)):=by
      rw [wi (by omega)]
      have fin:∀ z:Int,z=a[i] - c - bi→(if (z < 0) then (aZ (i64.wrap (z+1000000000))).bind fun v21=>some ((1:Int),v21) else some (0,z))=some ((c':Int),(n:Int)):=by
        intro z hz
        by_cases g:z < 0
        · have e1:c'=1:=hg.2 (by omega)
          subst e1
          rw [if_pos g,aO,wi (by omega)];congr 2;omega
        · have e1:c'=0:=by
            have:¬c'=1:=fun h=>g (by have:=hg.1 h;omega)
            omega
          subst e1
          rw [if_neg g];congr 2;omega
      by_cases c2:i < b.length
      · rw [dif_pos c2] at hb3
        rw [if_pos (by omega),aF c2]
        simp only [Option.bind_some,aO]
        rw [wi (by omega)]
        exact fin _ (by omega)
      · rw [dif_neg c2] at hb3
        rw [if_neg (by omega)]
        simp only [Option.bind_some]
        exact fin _ (by omega)
    have s1:lL a b ((c:Int),(i:Int),out)=some (.inl ((c':Int),((i+1:Nat):Int),out++[(n:Int)])):=by
      unfold lL
      simp only []
      rw [if_pos (by omega),aF h1]
      simp only [Option.bind_some]
      rw [← Option.bind_assoc,s0]
      simp only [Option.bind_some]
      rw [aN (by omega),wi (by omega)];rfl
    have s2:lW a b ((c:Int),(i:Int),out++List.replicate (m+1) 0)=some (.inl ((c':Int),((i+1:Nat):Int),(out++[(n:Int)])++List.replicate m 0)):=by
      unfold lW
      simp only []
      rw [if_pos (by omega),aF h1]
      simp only [Option.bind_some]
      rw [← Option.bind_assoc,s0]
      simp only [Option.bind_some]
      rw [aF (by simp;omega),wi (by omega)]
      simp only [Option.bind_some,aO,sH]
      congr 4
      rw [List.set_append_right _ _ (by omega),ho,Nat.sub_self,List.replicate_succ,List.set_cons_zero];simp
    rw [aQ s1,aQ s2]
    refine ih (i+1) c' _ hc' (by omega) (by simp [ho]) (by rw [aJ0];exact ⟨hd,by intro z hz;simp at hz;omega⟩) ?_
    rw [nY h1,aGo,hb2,ho]
    have e:=congrArg (BB ^ i*·) (show (a[i]).toNat+c'*BB=n+bi+c by rw [cY];omega)
    simp only [Nat.mul_add] at e
    simp only [val,Int.toNat_natCast,Nat.mul_zero,Nat.add_zero]
    have e2:c'*BB ^ (i+1)=BB ^ i*(c'*BB):=by rw [Nat.pow_succ,Nat.mul_comm c',Nat.mul_assoc,Nat.mul_comm BB c']
    rw [e2]
    rw [Nat.mul_comm c] at hv
    omega
theorem aMI {a b c' L:Nat} {out:List Int} (hd:dgs out) (hl:out.length=L) (h:a+c'*BB ^ L=val out+b) (hab:b≤a):val out=a - b:=by
  have:=aDS hd
  rw [hl] at this
  cases c' with
  | zero=>simp at h;omega
  | succ c =>
    rw [Nat.succ_mul] at h
    have:0≤c*BB ^ L:=Nat.zero_le _
    omega
theorem yD (x y:Nat) (hx:(aA x).length≤1000) (hyx:y≤x):oR (aA x) (aA y)=some (aA (x - y))∧pD (aA x) (aA y)=some (aA (x - y)):=by
  have hl:(aA y).length≤(aA x).length:=fH hyx (Nat.le_refl _)
  obtain ⟨c',out',e1,e2,e3,e4,e5⟩:=aK2 (aA x) (aA y) (dW x) (dW y) hx hl (aA x).length 0 0 [] (by omega) (by omega) rfl aA5 (by simp [val])
  rw [cK,cK] at e5
  have hv:=aMI e3 e4 e5 hyx
  rw [show ((0:Nat):Int)=0 from rfl] at e1 e2
  rw [List.nil_append] at e2
  constructor
  · unfold oR
    rw [e1]
    simp only [Option.bind_some]
    rw [yT e3 (by omega),hv];rfl
  · unfold pD
    rw [aN (by omega)]
    simp only [Option.bind_some,Int.toNat_natCast]
    rw [e2]
    simp only [Option.bind_some]
    rw [vJ,yT e3 (by omega),hv];rfl
end Go.Ev
/- Naturals as limbs: products; both programs. -/
namespace Go.Ev
set_option linter.all false
theorem aHC (a b:List Int) (i:Nat) (hi:i < a.length):sT a b (i:Int)=hJ b (i:Int) a[i]:=by
  funext s
  obtain ⟨c,j,v⟩:=s
  unfold sT hJ
  simp only [aF hi,Option.bind_some,aO]
  split
  · cases idx v (IntKind.i64.wrap ((i:Int)+j)) with
    | none=>cases idx b j <;> rfl
    | some y =>
      cases idx b j with
      | none=>rfl
      | some z=>simp only [Option.bind_some];rw [Int.add_comm c]
  · rfl
theorem aKr (b:List Int) (i x:Nat) (hx:x < 1000000000) (hb:dgs b) (hlb:b.length≤1000) (hi:i≤1000):∀ (m j c:Nat) (v:List Int),m+j=b.length→c < 1000000000→dgs v→i+b.length≤v.length→v.length≤2000 →
    ∃ (c':Nat) (v':List Int),lp (hJ b (i:Int) (x:Int)) ((c:Int),(j:Int),v)=some ((c':Int),v')∧c' < 1000000000∧dgs v'∧v'.length=v.length∧v'.drop (i+b.length)=v.drop (i+b.length) ∧
      val v'+c'*BB ^ (i+b.length)+x*BB ^ i*val (b.take j)=val v+c*BB ^ (i+j)+x*BB ^ i*val b:=by
  intro m
  induction m with
  | zero =>
    intro j c v hm hc hv hl hl2
    have e:j=b.length:=by omega
    subst e
    refine ⟨c,v,aH ?_,hc,hv,rfl,rfl,?_⟩
    · unfold hJ;simp only [];rw [if_neg (by omega)]
    · rw [List.take_length]
  | succ m ih =>
    intro j c v hm hc hv hl hl2
    have h1:j < b.length:=by omega
    have h2:i+j < v.length:=by omega
    have d1:=lJ hb h1
    have d2:=lJ hv h2
    obtain ⟨y,hy⟩:∃ y:Nat,b[j]=(y:Int):=⟨(b[j]).toNat,by omega⟩
    obtain ⟨z,hz⟩:∃ z:Nat,v[i+j]=(z:Int):=⟨(v[i+j]).toNat,by omega⟩
    have hxy:x*y≤999999999*999999999:=Nat.mul_le_mul (by omega) (by omega)
    have hxy0:((x:Int)*(y:Int))=((x*y:Nat):Int):=by push_cast;rfl
    have s1:hJ b (i:Int) (x:Int) ((c:Int),(j:Int),v)=some (.inl ((((z+x*y+c) / BB:Nat):Int),((j+1:Nat):Int),v.set (i+j) (((z+x*y+c) % BB:Nat):Int))):=by
      unfold hJ
      simp only []
      rw [if_pos (by omega),aF h1,wi (by omega),show (i:Int)+(j:Int)=((i+j:Nat):Int) by omega,aF h2]
      simp only [Option.bind_some,aO,sH,hy,hz,hxy0]
      rw [wi (n:=((x*y:Nat):Int)) (by omega),wi (n:=(z:Int)+_) (by omega),wi (n:=(z:Int)+_+_) (by omega),show (z:Int)+((x*y:Nat):Int)+(c:Int)=((z+x*y+c:Nat):Int) by omega,aDY,aDZ,wi (by rw [cY];omega),wi (by omega)]
      rfl
    have hm1:=Nat.mod_lt (z+x*y+c) tA
    have hm2:=Nat.mod_add_div (z+x*y+c) BB
    obtain ⟨c',v',e1,e2,e3,e4,e5,e6⟩:=ih (j+1) ((z+x*y+c) / BB) (v.set (i+j) (((z+x*y+c) % BB:Nat):Int)) (by omega) (by rw [cY];omega) (aCm hv _ _ (by rw [cY] at hm1 ⊢;omega)) (by simpa using hl) (by simpa using hl2)
    refine ⟨c',v',by rw [aQ s1];exact e1,e2,e3,by simpa using e4,?_,?_⟩
    · rw [e5,List.drop_set_of_lt (by omega)]
    · have hs:=aGn (l:=v) (x:=(((z+x*y+c) % BB:Nat):Int)) h2
      rw [hz] at hs
      simp only [Int.toNat_natCast] at hs
      rw [nY h1,hy,Int.toNat_natCast] at e6
      have f1:x*BB ^ i*(val (b.take j)+BB ^ j*y)=x*BB ^ i*val (b.take j)+BB ^ (i+j)*(x*y):=by
        rw [Nat.mul_add,Nat.pow_add]
        congr 1
        rw [Nat.mul_assoc x,Nat.mul_assoc (BB ^ i),Nat.mul_left_comm x,Nat.mul_left_comm x]
      rw [f1] at e6
      have f2:(z+x*y+c) / BB*BB ^ (i+(j+1))=BB ^ (i+j)*(BB*((z+x*y+c) / BB)):=by
        rw [← Nat.add_assoc,Nat.pow_succ,Nat.mul_comm ((z+x*y+c) / BB),Nat.mul_assoc]
      rw [f2] at e6
      have f3:=congrArg (BB ^ (i+j)*·) hm2
      simp only [Nat.mul_add] at f3
      rw [Nat.mul_comm c]
      omega
theorem vF {l:List Int} {k:Nat} {x:Int}:(l.set k x).drop (k+1)=l.drop (k+1):=by rw [List.drop_set_of_lt (by omega)]
theorem aKq (a b:List Int) (ha:dgs a) (hb:dgs b) (hla:a.length≤900) (hlb:b.length≤900):∀ (m i:Nat) (v:List Int),m+i=a.length→v.length=a.length+b.length→dgs v→v.drop (i+b.length)=List.replicate m 0→val v=val (a.take i)*val b →
    ∃ v':List Int,lp (lM a b) ((i:Int),v)=some v'∧lp (lX a b) ((i:Int),v)=some v'∧dgs v'∧v'.length=a.length+b.length∧val v'=val a*val b:=by
  intro m
  induction m with
  | zero =>
    intro i v hm hl hv hz he
    have e:i=a.length:=by omega
    subst e
    rw [List.take_length] at he
    refine ⟨v,aH ?_,aH ?_,hv,hl,he⟩
    · unfold lM;simp only [];rw [if_neg (by omega)]
    · unfold lX;simp only [];rw [if_neg (by omega)]
  | succ m ih =>
    intro i v hm hl hv hz he
    have h1:i < a.length:=by omega
    have d1:=lJ ha h1
    obtain ⟨x,hx⟩:∃ x:Nat,a[i]=(x:Int):=⟨(a[i]).toNat,by omega⟩
    obtain ⟨c',v',e1,e2,e3,e4,e5,e6⟩:=aKr b i x (by omega) hb (by omega) (by omega) b.length 0 0 v (by omega) (by omega) hv (by omega) (by omega)
    rw [show ((0:Nat):Int)=0 from rfl] at e1
    have h2:i+b.length < v'.length:=by omega
    have hzero:v'[i+b.length]=0:=by
      have q:(v'.drop (i+b.length))[0]?=some 0:=by rw [e5,hz];simp [List.replicate_succ]
      rw [List.getElem?_drop,Nat.add_zero,List.getElem?_eq_getElem h2] at q
      exact Option.some.inj q
    have s1:lM a b ((i:Int),v)=some (.inl (((i+1:Nat):Int),v'.set (i+b.length) (c':Int))):=by
      unfold lM
      simp only []
      rw [if_pos (by omega),aF h1,hx]
      simp only [Option.bind_some]
      rw [e1]
      simp only [Option.bind_some,aO]
      rw [wi (by omega),show (i:Int)+(b.length:Int)=((i+b.length:Nat):Int) by omega,aF h2]
      simp only [Option.bind_some,sH]
      rw [wi (by omega)];rfl
    have s2:lX a b ((i:Int),v)=some (.inl (((i+1:Nat):Int),v'.set (i+b.length) (c':Int))):=by
      unfold lX
      simp only []
      rw [if_pos (by omega),aHC a b i h1,hx,e1]
      simp only [Option.bind_some,aO]
      rw [wi (by omega),show (i:Int)+(b.length:Int)=((i+b.length:Nat):Int) by omega,aF h2]
      simp only [Option.bind_some,sH]
      rw [wi (by omega)];rfl
    rw [aQ s1,aQ s2]
    refine ih (i+1) _ (by omega) (by rw [List.length_set];omega) (aCm e3 _ _ (by omega)) ?_ ?_
    · rw [show i+1+b.length=(i+b.length)+1 by omega,vF,← List.drop_drop,e5,hz,List.replicate_succ];simp
    · have hs:=aGn (l:=v') (x:=(c':Int)) h2
      rw [hzero] at hs
      simp only [Int.toNat_natCast,Int.toNat_zero,Nat.mul_zero,Nat.add_zero] at hs
      rw [List.take_zero] at e6
      simp only [val,Nat.mul_zero,Nat.zero_mul,Nat.add_zero] at e6
      rw [nY h1,hx,Int.toNat_natCast,Nat.add_mul,← he,hs,Nat.mul_comm (BB ^ (i+b.length)),e6,Nat.mul_comm x]
theorem nM (x y:Nat) (hx:(aA x).length≤900) (hy:(aA y).length≤900):cW (aA x) (aA y)=some (aA (x*y))∧rT (aA x) (aA y)=some (aA (x*y)):=by
  unfold cW rT
  by_cases c1:(aA x).length=0
  · have:x=0:=aEX.1 (List.length_eq_zero_iff.1 c1)
    subst this
    rw [if_pos (by omega)]
    simp [bB]
  · rw [if_neg (by omega)]
    by_cases c2:(aA y).length=0
    · have:y=0:=aEX.1 (List.length_eq_zero_iff.1 c2)
      subst this
      simp [bB]
    · have n2:¬(((aA y).length:Int)=0):=by omega
      simp only [n2,decide_false,Option.bind_some,Bool.false_eq_true,if_false,aO]
      rw [wi (by omega),show ((aA x).length:Int)+((aA y).length:Int)=(((aA x).length+(aA y).length:Nat):Int) by omega,aN (by omega)]
      simp only [Option.bind_some,Int.toNat_natCast]
      obtain ⟨v',e1,e2,e3,e4,e5⟩:=aKq (aA x) (aA y) (dW x) (dW y) hx hy (aA x).length 0 (List.replicate ((aA x).length+(aA y).length) 0) (by omega) (by simp) (aDL _) (by simp) (by simp [aME,val])
      rw [show ((0:Nat):Int)=0 from rfl] at e1 e2
      rw [cK,cK] at e5
      rw [e1,e2]
      simp only [Option.bind_some]
      rw [vJ,yT e3 (by omega),e5]
      exact ⟨rfl,rfl⟩
end Go.Ev
/- Naturals as limbs: quotients; both programs. -/
namespace Go.Ev
set_option linter.all false
theorem aM2 (x y:Nat):(aA (x / y)).length≤(aA x).length:=fH (Nat.div_le_self x y) (Nat.le_refl _)
theorem aJH (x:Nat) {y:Nat} (h:0 < y):(aA (x % y)).length≤(aA y).length:=fH (Nat.le_of_lt (Nat.mod_lt x h)) (Nat.le_refl _)
theorem aHh (x y:Nat):((x:Int)).tdiv (y:Int)=((x / y:Nat):Int):=by
  rw [Int.tdiv_eq_ediv_of_nonneg (by omega)];rfl
theorem aIv (x y:Nat):((x:Int)).tmod (y:Int)=((x % y:Nat):Int):=by
  rw [Int.tmod_eq_emod_of_nonneg (by omega)];rfl
theorem aNr (r:Nat):(r:Int)*1000000000=((r*BB:Nat):Int):=by rw [Int.natCast_mul];rfl
theorem aIw (a:List Int) (d:Nat) (hd:0 < d∧d < 1000000000) (ha:dgs a) (hla:a.length≤1000):∀ (k r:Nat) (v:List Int),k≤a.length→r < d→dgs v→v.length=a.length→val (a.drop k)=d*val (v.drop k)+r→v.take k=List.replicate k 0 →
    ∃ (r':Nat) (v':List Int),lp (jK a (d:Int)) ((r:Int),(k:Int) - 1,v)=some ((r':Int),v')∧r' < d∧dgs v'∧v'.length=a.length∧val a=d*val v'+r':=by
  intro k
  induction k with
  | zero =>
    intro r v hk hr hv hl he ht
    refine ⟨r,v,aH ?_,hr,hv,hl,by simpa using he⟩
    unfold jK;simp only [];rw [if_neg (by omega)]
  | succ k ih =>
    intro r v hk hr hv hl he ht
    have h1:k < a.length:=by omega
    have h2:k < v.length:=by omega
    have d1:=lJ ha h1
    obtain ⟨x,hx⟩:∃ x:Nat,a[k]=(x:Int):=⟨(a[k]).toNat,by omega⟩
    have hn:r*BB+x < d*BB:=by
      have:(r+1)*BB≤d*BB:=Nat.mul_le_mul_right _ hr
      rw [Nat.succ_mul] at this
      have:x < BB:=by rw [cY];omega
      omega
    have hq:(r*BB+x) / d < BB:=by rw [Nat.div_lt_iff_lt_mul hd.1,Nat.mul_comm BB];exact hn
    have hm:=Nat.mod_lt (r*BB+x) hd.1
    have hmd:=Nat.mod_add_div (r*BB+x) d
    have hrB:r*BB≤999999999*1000000000:=Nat.mul_le_mul (by omega) (by rw [cY];omega)
    have t1:=aHh (r*BB+x) d
    have t2:=aIv (r*BB+x) d
    generalize (r*BB+x) / d=Q at hq hmd t1
    generalize (r*BB+x) % d=R at hm hmd t2
    rw [cY] at hq
    have s1:jK a (d:Int) ((r:Int),((k+1:Nat):Int) - 1,v)=some (.inl ((R:Int),(k:Int) - 1,v.set k (Q:Int))):=by
      unfold jK
      simp only []
      rw [show ((k+1:Nat):Int) - 1=(k:Int) by omega,if_pos (by omega),aF h1,hx,aF h2]
      simp only [Option.bind_some,aO,sH]
      rw [aNr,wi (n:=((r*BB:Nat):Int)) (by omega),show ((r*BB:Nat):Int)+(x:Int)=((r*BB+x:Nat):Int) by omega,aN (by omega),wi (n:=((r*BB+x:Nat):Int)) (by omega),t1,t2]
      simp only [Option.bind_some]
      rw [wi (by omega),wi (by omega)]
    obtain ⟨r',v',e1,e2,e3,e4,e5⟩:=ih R (v.set k (Q:Int)) (by omega) hm (aCm hv _ _ (by omega)) (by simpa using hl) (by
        rw [gU h1,gU (l:=v.set k _) (by simpa using h2),List.getElem_set_self,vF,he,hx,Int.toNat_natCast,Int.toNat_natCast]
        rw [Nat.mul_add,Nat.mul_add d,← Nat.mul_assoc BB d,← Nat.mul_assoc d BB,Nat.mul_comm BB d]
        rw [Nat.mul_comm BB r]
        omega) (by
        rw [List.take_set_of_le (by omega)]
        have:=congrArg (List.take k) ht
        rw [List.take_take,Nat.min_eq_left (by omega),List.take_replicate,Nat.min_eq_left (by omega)] at this
        exact this)
    exact ⟨r',v',by rw [aQ s1];exact e1,e2,e3,e4,e5⟩
theorem aBK {a b q r:Nat} (hb:r < b) (h:a=b*q+r):q=a / b∧r=a % b:=by
  subst h
  constructor
  · rw [Nat.mul_comm,Nat.add_comm,Nat.add_mul_div_right _ _ (by omega),Nat.div_eq_of_lt hb,Nat.zero_add]
  · rw [Nat.add_comm,Nat.add_mul_mod_self_left,Nat.mod_eq_of_lt hb]
theorem aIT (x d:Nat) (hd:0 < d∧d < 1000000000) (hx:(aA x).length≤1000):qH (aA x) (d:Int)=some (aA (x / d),((x % d:Nat):Int)):=by
  obtain ⟨r',v',e1,e2,e3,e4,e5⟩:=aIw (aA x) d hd (dW x) hx (aA x).length 0 (List.replicate (aA x).length 0) (Nat.le_refl _) hd.1 (aDL _) (by simp) (by rw [fJ (Nat.le_refl _),fJ (by simp)];rfl) (by simp)
  rw [cK] at e5
  obtain ⟨q1,q2⟩:=aBK e2 e5
  unfold qH
  rw [aN (by omega)]
  simp only [Option.bind_some,aO,Int.toNat_natCast]
  rw [show ((0:Nat):Int)=0 from rfl] at e1
  rw [wi (by omega),e1]
  simp only [Option.bind_some]
  rw [yT e3 (by omega),q1,q2];rfl
theorem aI6 (r b:Nat) (hb:0 < b) (hlr:(aA r).length≤800) (hlb:(aA b).length≤800):∀ (m lo hi:Nat),hi - lo≤m→lo≤r / b→r / b≤hi→hi≤999999999→lp (eB (aA r) (aA b)) ((lo:Int),(hi:Int))=some ((r / b:Nat):Int):=by
  intro m
  induction m with
  | zero =>
    intro lo hi h1 h2 h3 h4
    have:lo=r / b:=by omega
    subst this
    refine aH ?_
    unfold eB;simp only [];rw [if_neg (by omega)]
  | succ m ih =>
    intro lo hi h1 h2 h3 h4
    by_cases c:lo < hi
    · have hq:((lo:Int)+(hi:Int)+1).tdiv 2=(((lo+hi+1) / 2:Nat):Int):=by
        rw [show (lo:Int)+(hi:Int)+1=((lo+hi+1:Nat):Int) by omega,show (2:Int)=((2:Nat):Int) from rfl,aHh]
      obtain ⟨q,hqe⟩:∃ q,q=(lo+hi+1) / 2:=⟨_,rfl⟩
      have hlq:(aA q).length≤1:=gA (by rw [cY];omega)
      have hlm:(aA (b*q)).length≤900:=by have:=dZ b q;omega
      have hc:qX (b*q) r≤0↔q≤r / b:=by
        rw [Nat.le_div_iff_mul_le hb,Nat.mul_comm q b]
        unfold qX
        by_cases c1:b*q < r
        · rw [if_pos c1];constructor <;> intro _ <;> omega
        · rw [if_neg c1]
          by_cases c2:r < b*q
          · rw [if_pos c2];constructor <;> intro _ <;> omega
          · rw [if_neg c2];constructor <;> intro _ <;> omega
      by_cases c2:q≤r / b
      · have s1:eB (aA r) (aA b) ((lo:Int),(hi:Int))=some (.inl ((q:Int),(hi:Int))):=by
          unfold eB
          simp only [aO]
          rw [if_pos (by omega),wi (n:=(lo:Int)+hi) (by omega),wi (n:=(lo:Int)+hi+1) (by omega),hq,← hqe,wi (by omega),zY _ (by omega)]
          simp only [Option.bind_some]
          rw [(nM b q (by omega) (by omega)).1]
          simp only [Option.bind_some]
          rw [aAD _ _ (by omega) (by omega)]
          simp only [Option.bind_some]
          rw [if_pos (hc.2 c2)]
        rw [aQ s1]
        exact ih q hi (by omega) c2 h3 h4
      · have s1:eB (aA r) (aA b) ((lo:Int),(hi:Int))=some (.inl ((lo:Int),((q - 1:Nat):Int))):=by
          unfold eB
          simp only [aO]
          rw [if_pos (by omega),wi (n:=(lo:Int)+hi) (by omega),wi (n:=(lo:Int)+hi+1) (by omega),hq,← hqe,wi (n:=(q:Int)) (by omega),zY _ (by omega)]
          simp only [Option.bind_some]
          rw [(nM b q (by omega) (by omega)).1]
          simp only [Option.bind_some]
          rw [aAD _ _ (by omega) (by omega)]
          simp only [Option.bind_some]
          rw [if_neg (fun h=>c2 (hc.1 h)),wi (by omega),show (q:Int) - 1=((q - 1:Nat):Int) by omega]
        rw [aQ s1]
        exact ih lo (q - 1) (by omega) h2 (by omega) (by omega)
    · have:lo=r / b:=by omega
      subst this
      refine aH ?_
      unfold eB;simp only [];rw [if_neg (by omega)]
theorem aIU (r b:Nat) (hb:0 < b) (hlr:(aA r).length≤800) (hlb:(aA b).length≤800) (h:r / b≤999999999):qI (aA r) (aA b)=some ((r / b:Nat):Int):=by
  unfold qI
  have:=aI6 r b hb hlr hlb 999999999 0 999999999 (by omega) (Nat.zero_le _) h (Nat.le_refl _)
  rw [show ((0:Nat):Int)=0 from rfl,show ((999999999:Nat):Int)=999999999 from rfl] at this
  rw [this];rfl
end Go.Ev
/- Naturals as limbs: quotients of any length; both programs. -/
namespace Go.Ev
set_option linter.all false
theorem aC8 {d:Nat} (h:d < BB):(aA d).length≤1:=gA (by simpa using h)
theorem aES (x R:Nat) (hx:x < 1000000000) (hl:(aA R).length≤4000):cJ ([(x:Int)]++aA R)=some (aA (x+BB*R)):=by
  rw [yT (by rw [aJ0];exact ⟨by intro z hz;simp at hz;omega,dW R⟩) (by simp;omega)]
  rw [List.singleton_append,val,cK,Int.toNat_natCast]
theorem aHn {R b:Nat} (h:R < b*BB):(aA R).length≤(aA b).length+2:=by
  have h1:=dZ b BB
  have h2:(aA BB).length≤2:=gA (by rw [cY];omega)
  have h3:=fH (Nat.le_of_lt h) (Nat.le_refl _)
  omega
theorem aJx {x R b:Nat} (hx:x < 1000000000) (hR:R < b):x+BB*R < b*BB:=by
  have:(R+1)*BB≤b*BB:=Nat.mul_le_mul_right _ hR
  rw [Nat.succ_mul,Nat.mul_comm R] at this
  have:x < BB:=by rw [cY];omega
  omega
theorem aGC {R b:Nat} (hb:0 < b) (h:R < b*BB):R / b < BB:=by rw [Nat.div_lt_iff_lt_mul hb,Nat.mul_comm BB];exact h
theorem aL7 (a:List Int) (b:Nat) (hb:0 < b) (hlb:(aA b).length≤700) (ha:dgs a) (hla:a.length≤1000):∀ (k R:Nat) (v:List Int),k≤a.length→R < b→dgs v→v.length=a.length→val (a.drop k)=b*val (v.drop k)+R→v.take k=List.replicate k 0 →
    ∃ (R':Nat) (v':List Int),lp (lN a (aA b)) (aA R,(k:Int) - 1,v)=some (aA R',v')∧R' < b∧dgs v'∧v'.length=a.length∧val a=b*val v'+R':=by
  intro k
  induction k with
  | zero =>
    intro R v hk hr hv hl he ht
    refine ⟨R,v,aH ?_,hr,hv,hl,by simpa using he⟩
    unfold lN;simp only [];rw [if_neg (by omega)]
  | succ k ih =>
    intro R v hk hr hv hl he ht
    have h1:k < a.length:=by omega
    have h2:k < v.length:=by omega
    have d1:=lJ ha h1
    obtain ⟨x,hx⟩:∃ x:Nat,a[k]=(x:Int):=⟨(a[k]).toNat,by omega⟩
    have hx2:x < 1000000000:=by omega
    have hn:=aJx hx2 hr
    have hq:=aGC hb hn
    have hm:=Nat.mod_lt (x+BB*R) hb
    have hmd:=Nat.mod_add_div (x+BB*R) b
    have hlR:(aA R).length≤(aA b).length:=fH (Nat.le_of_lt hr) (Nat.le_refl _)
    have hlR2:=aHn hn
    have hv0:v[k]=0:=by
      have q:(v.take (k+1))[k]?=some 0:=by rw [ht];simp
      rw [List.getElem?_take_of_lt (by omega),List.getElem?_eq_getElem h2] at q
      exact Option.some.inj q
    obtain ⟨Q,hQ⟩:∃ Q,Q=(x+BB*R) / b:=⟨_,rfl⟩
    obtain ⟨M,hM⟩:∃ M,M=(x+BB*R) % b:=⟨_,rfl⟩
    have hq':(x+BB*R) / b < 1000000000:=Nat.lt_of_lt_of_eq hq cY
    have hq2:Q < 1000000000:=by rw [hQ];exact hq'
    have s1:lN a (aA b) (aA R,((k+1:Nat):Int) - 1,v)=some (.inl (aA M,(k:Int) - 1,v.set k (Q:Int))):=by
      unfold lN
      simp only []
      rw [show ((k+1:Nat):Int) - 1=(k:Int) by omega,if_pos (by omega),aF h1,hx,aF h2]
      simp only [Option.bind_some,aO,sH]
      rw [aN (by simp;omega)]
      simp only [Option.bind_some]
      rw [aES x R hx2 (by omega)]
      simp only [Option.bind_some]
      rw [aAD _ _ (by omega) (by omega)]
      simp only [Option.bind_some]
      by_cases c:x+BB*R < b
      · have e1:Q=0:=by rw [hQ,Nat.div_eq_of_lt c]
        have e2:M=x+BB*R:=by rw [hM,Nat.mod_eq_of_lt c]
        have e3:v.set k ((0:Nat):Int)=v:=by
          apply List.ext_getElem
          · simp
          · intro i q1 q2
            rw [List.getElem_set]
            split
            · rename_i h;subst h;exact hv0.symm
            · rfl
        rw [e1,e2,e3,if_pos (by unfold qX;rw [if_pos c];omega),wi (by omega)]
      · have hcm:¬qX (x+BB*R) b < 0:=by
          unfold qX;rw [if_neg c];split <;> omega
        rw [if_neg hcm,aIU _ b hb (by omega) (by omega) (by omega)]
        simp only [Option.bind_some]
        rw [← hQ,zY _ (by omega)]
        simp only [Option.bind_some]
        have hl1:(aA Q).length≤1:=aC8 (by rw [cY];omega)
        rw [(nM b Q (by omega) (by omega)).1]
        simp only [Option.bind_some]
        rw [← hM,← hQ] at hmd
        rw [(yD (x+BB*R) (b*Q) (by omega) (by omega)).1]
        simp only [Option.bind_some]
        rw [show x+BB*R - b*Q=M by omega,wi (by omega)]
    obtain ⟨R',v',e1,e2,e3,e4,e5⟩:=ih M (v.set k (Q:Int)) (by omega) (by rw [hM];exact hm) (aCm hv _ _ (by omega)) (by simpa using hl) (by
        rw [gU h1,gU (l:=v.set k _) (by simpa using h2),List.getElem_set_self,vF,he,hx,Int.toNat_natCast,Int.toNat_natCast]
        rw [Nat.mul_add,Nat.mul_add b,← Nat.mul_assoc BB b,← Nat.mul_assoc b BB,Nat.mul_comm BB b]
        rw [← hM,← hQ] at hmd
        omega) (by
        rw [List.take_set_of_le (by omega)]
        have:=congrArg (List.take k) ht
        rw [List.take_take,Nat.min_eq_left (by omega),List.take_replicate,Nat.min_eq_left (by omega)] at this
        exact this)
    exact ⟨R',v',by rw [aQ s1];exact e1,e2,e3,e4,e5⟩
theorem aEN (x b:Nat) (hb:0 < b) (hx:(aA x).length≤700) (hlb:(aA b).length≤700):kJ (aA x) (aA b)=some (aA (x / b),aA (x % b)):=by
  unfold kJ
  by_cases c:(aA b).length=1
  · rw [if_pos (by omega)]
    have hbB:b < BB:=by have:=oD b;rw [c,Nat.pow_one] at this;exact this
    have e:=pX hbB (by omega)
    rw [show (0:Int)=((0:Nat):Int) from rfl,aF (by omega)]
    simp only [e,List.getElem_cons_zero,Option.bind_some]
    rw [cY] at hbB
    rw [aIT x b ⟨hb,by omega⟩ (by omega)]
    simp only [Option.bind_some]
    have:=Nat.mod_lt x hb
    rw [zY _ (by omega)];rfl
  · rw [if_neg (by omega),aN (by omega)]
    simp only [Option.bind_some,aO,Int.toNat_natCast]
    obtain ⟨r',v',e1,e2,e3,e4,e5⟩:=aL7 (aA x) b hb hlb (dW x) (by omega) (aA x).length 0 (List.replicate (aA x).length 0) (Nat.le_refl _) hb (aDL _) (by simp) (by rw [fJ (Nat.le_refl _),fJ (by simp)];rfl) (by simp)
    rw [cK] at e5
    rw [bB] at e1
    obtain ⟨q1,q2⟩:=aBK e2 e5
    rw [wi (by omega),e1]
    simp only [Option.bind_some]
    rw [yT e3 (by omega),q1,q2];rfl
theorem aMY (R b:Nat) (hb:0 < b) (hR:b≤R) (h:R < b*BB) (hlb:(aA b).length≤700):∃ g:Nat,qR (aA R) (aA b)=some (g:Int)∧1≤g∧b*g≤R:=by
  obtain ⟨m,hm⟩:∃ m,(aA b).length=m+1:=by
    have:(aA b).length≠0:=fun e=>cZ (n:=b) (by omega) (List.length_eq_zero_iff.1 e)
    exact ⟨(aA b).length - 1,by omega⟩
  have hbl:=oD b
  rw [hm,Nat.pow_succ] at hbl
  have hr1:m+1≤(aA R).length:=by rw [← hm];exact fH hR (Nat.le_refl _)
  have hRl:R < BB ^ m*BB*BB:=Nat.lt_of_lt_of_le h (Nat.mul_le_mul_right _ (Nat.le_of_lt hbl))
  have hr2:(aA R).length≤m+2:=gA (by rw [Nat.pow_succ,Nat.pow_succ];exact hRl)
  have hp:=aLr m
  have hbt:b / BB ^ m < BB:=by rw [Nat.div_lt_iff_lt_mul hp,Nat.mul_comm BB];exact hbl
  have hT:R / BB ^ m < BB*BB:=by rw [Nat.div_lt_iff_lt_mul hp,Nat.mul_comm (BB*BB),← Nat.mul_assoc];exact hRl
  have hbd:b < BB ^ m*(b / BB ^ m+1):=Nat.lt_mul_div_succ b hp
  have hTd:BB ^ m*(R / BB ^ m)≤R:=Nat.mul_div_le R _
  have hi1:m < (aA R).length:=by omega
  have hi2:m < (aA b).length:=by omega
  have g1:=aAK hi1
  have g2:=aAK hi2
  rw [Nat.mod_eq_of_lt hbt] at g2
  unfold qR
  simp only [aO]
  rw [hm,wi (by omega),show (((m+1:Nat):Int) - 1)=(m:Int) by omega,aF hi1,aF hi2,g1,g2]
  simp only [Option.bind_some]
  have top:((if (((m+1:Nat):Int) < ((aA R).length:Int)) then (idx (aA R) ((m+1:Nat):Int)).bind fun y3=>some (IntKind.i64.wrap (((R / BB ^ m % BB:Nat):Int)+IntKind.i64.wrap (y3*1000000000))) else some ((R / BB ^ m % BB:Nat):Int)):Option Int)=some ((R / BB ^ m:Nat):Int):=by
    have hmod:=Nat.mod_add_div (R / BB ^ m) BB
    by_cases c:m+1 < (aA R).length
    · have g3:=aAK c
      rw [Nat.pow_succ,← Nat.div_div_eq_div_mul] at g3
      have h3:R / BB ^ m / BB < BB:=by rw [Nat.div_lt_iff_lt_mul tA];exact hT
      rw [Nat.mod_eq_of_lt h3] at g3
      rw [if_pos (by omega),aF c,g3]
      simp only [Option.bind_some]
      generalize R / BB ^ m=T at hT hmod h3 ⊢
      have h4:T % BB < BB:=Nat.mod_lt _ tA
      generalize T % BB=T0 at hmod h4 ⊢
      generalize T / BB=T1 at hmod h3 ⊢
      rw [aNr,Nat.mul_comm T1]
      rw [cY] at hT
      rw [wi (n:=((BB*T1:Nat):Int)) (by omega),wi (by omega)];congr 1;omega
    · have e:(aA R).length=m+1:=by omega
      have h3:R / BB ^ m < BB:=by
        rw [Nat.div_lt_iff_lt_mul hp,Nat.mul_comm BB,← Nat.pow_succ]
        have:=oD R
        rwa [e] at this
      rw [if_neg (by omega),Nat.mod_eq_of_lt h3]
  rw [top]
  simp only [Option.bind_some]
  by_cases c:m=0
  · subst c
    rw [if_pos (by omega),show (0:Int)=((0:Nat):Int) from rfl,aF hi2,g2]
    simp only [Nat.pow_zero,Nat.div_one,Option.bind_some]
    rw [aN (by omega),aHh]
    have hq:=aGC hb h
    rw [cY] at hq
    generalize hQ:R / b=Q at hq
    refine ⟨Q,by simp only [Option.bind_some];rw [wi (by omega)],?_,?_⟩
    · rw [← hQ,Nat.le_div_iff_mul_le hb];omega
    · rw [← hQ];exact Nat.mul_div_le R b
  · rw [if_neg (by omega)]
    generalize b / BB ^ m=t at hbt hbd ⊢
    generalize R / BB ^ m=T at hT hTd ⊢
    rw [cY] at hbt
    rw [wi (n:=(t:Int)+1) (by omega),aN (by omega),show (t:Int)+1=((t+1:Nat):Int) by omega,aHh]
    have hg:=Nat.div_mul_le_self T (t+1)
    have hgT:T / (t+1)≤T:=Nat.div_le_self _ _
    generalize T / (t+1)=G at hg hgT ⊢
    rw [cY] at hT
    simp only [Option.bind_some]
    rw [wi (by omega)]
    by_cases c2:G=0
    · subst c2
      exact ⟨1,by rw [if_pos (by omega)];rfl,Nat.le_refl _,by omega⟩
    · refine ⟨G,by rw [if_neg (by omega)],by omega,?_⟩
      have e1:G*b≤G*(BB ^ m*(t+1)):=Nat.mul_le_mul_left _ (Nat.le_of_lt hbd)
      have e2:BB ^ m*(G*(t+1))≤BB ^ m*T:=Nat.mul_le_mul_left _ hg
      rw [Nat.mul_left_comm] at e2
      rw [Nat.mul_comm b];omega
theorem aI5 (b:Nat) (hb:0 < b) (hlb:(aA b).length≤700) (k:Nat):∀ (R q0:Nat) (v:List Int),R < b*BB→k < v.length→v[k]?=some (q0:Int)→q0+R / b≤999999999 →
    lp (lZ (aA b) (k:Int)) (aA R,v)=some (aA (R % b),v.set k ((q0+R / b:Nat):Int)):=by
  intro R
  induction R using Nat.strongRecOn with
  | _ R ih =>
    intro q0 v hR hk hv hq
    have hl:=aHn hR
    by_cases c:R < b
    · rw [Nat.div_eq_of_lt c,Nat.mod_eq_of_lt c,Nat.add_zero]
      have:v.set k (q0:Int)=v:=by
        apply List.ext_getElem
        · simp
        · intro i p1 p2
          rw [List.getElem_set]
          split
          · rename_i h;subst h
            rw [List.getElem?_eq_getElem hk] at hv;exact (Option.some.inj hv).symm
          · rfl
      rw [this]
      refine aH ?_
      unfold lZ
      simp only []
      rw [aEs _ _ (by omega) (by omega)]
      simp only [Option.bind_some]
      rw [if_neg (by unfold qX;rw [if_pos c];omega)]
    · obtain ⟨g,e1,e2,e3⟩:=aMY R b hb (by omega) hR hlb
      have hgq:g≤R / b:=by rw [Nat.le_div_iff_mul_le hb,Nat.mul_comm];exact e3
      have hdiv:(R - b*g) / b=R / b - g:=by rw [Nat.sub_mul_div]
      have hmod:(R - b*g) % b=R % b:=Nat.sub_mul_mod (by omega)
      have hbg:b≤b*g:=Nat.le_mul_of_pos_right _ e2
      generalize R / b=Q at hq hgq hdiv ⊢
      have hd:([(g:Int)]:List Int)=aA g:=(pX (by rw [cY];omega) (by omega)).symm
      have hl1:(aA g).length≤1:=aC8 (by rw [cY];omega)
      have s1:lZ (aA b) (k:Int) (aA R,v)=some (.inl (aA (R - b*g),v.set k ((q0+g:Nat):Int))):=by
        unfold lZ
        simp only []
        rw [aEs _ _ (by omega) (by omega)]
        simp only [Option.bind_some]
        rw [if_pos (by unfold qX;rw [if_neg c];split <;> omega),e1]
        simp only [Option.bind_some]
        rw [hd,(nM b g (by omega) (by omega)).2]
        simp only [Option.bind_some]
        rw [(yD R (b*g) (by omega) e3).2]
        simp only [Option.bind_some]
        rw [aGS,hv]
        simp only [Option.bind_some,aO,sH]
        rw [wi (by omega)];rfl
      rw [aQ s1,ih (R - b*g) (by omega) (q0+g) _ (by omega) (by simpa using hk) (by rw [List.getElem?_set_self hk]) (by rw [hdiv];omega),hmod,hdiv,List.set_set]
      congr 3;congr 1;omega
theorem aKJ (a:List Int) (b:Nat) (hb:0 < b) (hlb:(aA b).length≤700) (ha:dgs a) (hla:a.length≤1000):∀ (k R:Nat) (v:List Int),k≤a.length→R < b→dgs v→v.length=a.length→val (a.drop k)=b*val (v.drop k)+R→v.take k=List.replicate k 0 →
    ∃ (R':Nat) (v':List Int),lp (lY a (aA b)) (aA R,(k:Int) - 1,v)=some (aA R',v')∧R' < b∧dgs v'∧v'.length=a.length∧val a=b*val v'+R':=by
  intro k
  induction k with
  | zero =>
    intro R v hk hr hv hl he ht
    refine ⟨R,v,aH ?_,hr,hv,hl,by simpa using he⟩
    unfold lY;simp only [];rw [if_neg (by omega)]
  | succ k ih =>
    intro R v hk hr hv hl he ht
    have h1:k < a.length:=by omega
    have h2:k < v.length:=by omega
    have d1:=lJ ha h1
    obtain ⟨x,hx⟩:∃ x:Nat,a[k]=(x:Int):=⟨(a[k]).toNat,by omega⟩
    have hx2:x < 1000000000:=by omega
    have hn:=aJx hx2 hr
    have hq:=aGC hb hn
    have hm:=Nat.mod_lt (x+BB*R) hb
    have hmd:=Nat.mod_add_div (x+BB*R) b
    have hlR:(aA R).length≤(aA b).length:=fH (Nat.le_of_lt hr) (Nat.le_refl _)
    have hv0:v[k]?=some ((0:Nat):Int):=by
      have q:(v.take (k+1))[k]?=some 0:=by rw [ht];simp
      rw [List.getElem?_take_of_lt (by omega)] at q
      exact q
    have hq':(x+BB*R) / b < 1000000000:=Nat.lt_of_lt_of_eq hq cY
    clear hq
    have inn:=aI5 b hb hlb k (x+BB*R) 0 v hn h2 hv0 (by omega)
    rw [Nat.zero_add] at inn
    generalize (x+BB*R) / b=Q at hq' hmd inn
    generalize (x+BB*R) % b=M at hm hmd inn
    have s1:lY a (aA b) (aA R,((k+1:Nat):Int) - 1,v)=some (.inl (aA M,(k:Int) - 1,v.set k (Q:Int))):=by
      unfold lY
      simp only []
      rw [show ((k+1:Nat):Int) - 1=(k:Int) by omega,if_pos (by omega),aF h1,hx]
      simp only [Option.bind_some,aO]
      rw [aN (by simp;omega)]
      simp only [Option.bind_some]
      rw [vJ,aES x R hx2 (by omega)]
      simp only [Option.bind_some]
      rw [inn]
      simp only [Option.bind_some]
      rw [wi (by omega)]
    obtain ⟨R',v',e1,e2,e3,e4,e5⟩:=ih M (v.set k (Q:Int)) (by omega) hm (aCm hv _ _ (by omega)) (by simpa using hl) (by
        rw [gU h1,gU (l:=v.set k _) (by simpa using h2),List.getElem_set_self,vF,he,hx,Int.toNat_natCast,Int.toNat_natCast]
        rw [Nat.mul_add,Nat.mul_add b,← Nat.mul_assoc BB b,← Nat.mul_assoc b BB,Nat.mul_comm BB b]
        omega) (by
        rw [List.take_set_of_le (by omega)]
        have:=congrArg (List.take k) ht
        rw [List.take_take,Nat.min_eq_left (by omega),List.take_replicate,Nat.min_eq_left (by omega)] at this
        exact this)
    exact ⟨R',v',by rw [aQ s1];exact e1,e2,e3,e4,e5⟩
theorem aK6:∀ (l:List Int),dgs l→l.length≤2→fG l=some (val l:Int)
  | [],_,_=>by
    unfold fG
    simp only [aO,List.length_nil]
    rw [wi (by omega),aH (r:=0) (by unfold cQ;simp)];rfl
  | [d],h,_=>by
    rw [mF] at h
    unfold fG
    simp only [aO,List.length_cons,List.length_nil]
    have s1:cQ [d] (0,((0:Nat):Int))=some (.inl (d,-1)):=by
      unfold cQ
      simp only []
      rw [if_pos (by omega),aF (by simp)]
      simp only [Option.bind_some,aO,List.getElem_cons_zero]
      rw [wi (n:=0*1000000000) (by omega),wi (by omega),wi (by omega)]
      simp
    rw [wi (by omega),show (((0+1:Nat):Int) - 1)=((0:Nat):Int) by omega,aQ s1,aH (r:=d) (by unfold cQ;simp)]
    simp [val] <;> omega
  | [d,e],h,_=>by
    rw [mF,mF] at h
    unfold fG
    simp only [aO,List.length_cons,List.length_nil]
    have s1:cQ [d,e] (0,((1:Nat):Int))=some (.inl (e,((0:Nat):Int))):=by
      unfold cQ
      simp only []
      rw [if_pos (by omega),aF (by simp)]
      simp only [Option.bind_some,aO,List.getElem_cons_zero,List.getElem_cons_succ]
      rw [wi (n:=0*1000000000) (by omega),wi (by omega),wi (by omega)]
      simp
    have s2:cQ [d,e] (e,((0:Nat):Int))=some (.inl (e*1000000000+d,-1)):=by
      unfold cQ
      simp only []
      rw [if_pos (by omega),aF (by simp)]
      simp only [Option.bind_some,aO,List.getElem_cons_zero]
      rw [wi (n:=e*1000000000) (by omega),wi (by omega),wi (by omega)]
      rfl
    rw [wi (by omega),show (((0+1+1:Nat):Int) - 1)=((1:Nat):Int) by omega,aQ s1,aQ s2,aH (r:=e*1000000000+d) (by unfold cQ;simp)]
    simp only [Option.bind_some,val,cY,Nat.mul_zero,Nat.add_zero]
    congr 1;omega
  | _::_::_::_,_,h=>by simp at h <;> omega
theorem aBS (x:Nat) (h:(aA x).length≤2):fG (aA x)=some (x:Int):=by rw [aK6 _ (dW x) h,cK]
theorem tI {x:Nat} (h:(aA x).length≤2):x < 1000000000000000000:=by
  have h1:=oD x
  have h2:BB ^ (aA x).length≤BB ^ 2:=Nat.pow_le_pow_right tA h
  have h3:BB ^ 2=1000000000000000000:=by rw [cY]
  omega
theorem aEr (x b:Nat) (hb:0 < b) (hx:(aA x).length≤700) (hlb:(aA b).length≤700):pE (aA x) (aA b)=some (aA (x / b),aA (x % b)):=by
  unfold pE
  by_cases c:(aA x).length≤2∧(aA b).length≤2
  · have h1:=tI c.1
    have h2:=tI c.2
    have n1:((aA x).length:Int)≤2:=by omega
    have n2:((aA b).length:Int)≤2:=by omega
    simp only [n1,n2,if_true,decide_true,Option.bind_some]
    rw [aBS x c.1,aBS b c.2]
    simp only [Option.bind_some,aO]
    have q1:=Nat.div_le_self x b
    have q2:=Nat.mod_le x b
    rw [aN (by omega),aHh,aIv]
    generalize x / b=Q at q1 ⊢
    generalize x % b=M at q2 ⊢
    simp only [Option.bind_some]
    rw [wi (by omega),wu (by omega),wu (by omega),uJ Q (by omega),uJ M (by omega)]
    rfl
  · have:((if ((aA x).length:Int)≤2 then some (decide (((aA b).length:Int)≤2)) else some false):Option Bool)=some false:=by
      by_cases c1:(aA x).length≤2
      · have c2:¬(aA b).length≤2:=fun h=>c ⟨c1,h⟩
        rw [if_pos (by omega),decide_eq_false (by omega)]
      · rw [if_neg (by omega)]
    rw [this]
    simp only [Option.bind_some,Bool.false_eq_true,if_false,aO]
    rw [aN (by omega)]
    simp only [Option.bind_some,Int.toNat_natCast]
    obtain ⟨r',v',e1,e2,e3,e4,e5⟩:=aKJ (aA x) b hb hlb (dW x) (by omega) (aA x).length 0 (List.replicate (aA x).length 0) (Nat.le_refl _) hb (aDL _) (by simp) (by rw [fJ (Nat.le_refl _),fJ (by simp)];rfl) (by simp)
    rw [cK] at e5
    rw [bB] at e1
    obtain ⟨q1,q2⟩:=aBK e2 e5
    rw [wi (by omega),e1]
    simp only [Option.bind_some]
    rw [vJ,yT e3 (by omega),q1,q2];rfl
end Go.Ev
/- Naturals as limbs: greatest common divisors, and which lists are naturals; both programs. -/
namespace Go.Ev
set_option linter.all false
theorem aER (x y:Nat):Nat.gcd x y=Nat.gcd y (x % y):=by rw [Nat.gcd_comm x y,Nat.gcd_rec y x,Nat.gcd_comm]
theorem aEl:∀ (y x:Nat),lp jW ((x:Int),(y:Int))=some ((Nat.gcd x y:Nat):Int):=by
  intro y
  induction y using Nat.strongRecOn with
  | _ y ih =>
    intro x
    by_cases c:y=0
    · subst c
      rw [Nat.gcd_zero_right]
      exact aH (by unfold jW;simp)
    · have s1:jW ((x:Int),(y:Int))=some (.inl ((y:Int),((x % y:Nat):Int))):=by
        unfold jW
        simp only []
        rw [if_pos (by omega),aN (by omega),aIv];rfl
      rw [aQ s1,ih (x % y) (Nat.mod_lt _ (by omega)),← aER]
theorem aIF:tH=jW:=rfl
theorem aHW {x y:Nat} (hx:x < 1000000000000000000) (hy:y < 1000000000000000000):Nat.gcd x y < 1000000000000000000:=by
  by_cases c:x=0
  · subst c;rw [Nat.gcd_zero_left];exact hy
  · have:=Nat.gcd_le_left y (Nat.pos_of_ne_zero c);omega
theorem aKz:∀ (y x:Nat),(aA x).length≤700→(aA y).length≤700→∃ r,lp jV (aA x,aA y)=some r∧(r=.inl (aA (Nat.gcd x y))∨r=.inr (aA (Nat.gcd x y))):=by
  intro y
  induction y using Nat.strongRecOn with
  | _ y ih =>
    intro x hx hy
    by_cases c:y=0
    · subst c
      rw [Nat.gcd_zero_right]
      refine ⟨.inl (aA x),aH ?_,.inl rfl⟩
      unfold jV
      simp [bB]
    · have hy0:(aA y).length≠0:=fun e=>cZ c (List.length_eq_zero_iff.1 e)
      by_cases c2:(aA x).length≤2∧(aA y).length≤2
      · refine ⟨.inr (aA (Nat.gcd x y)),aH ?_,.inr rfl⟩
        have h1:=tI c2.1
        have h2:=tI c2.2
        have h3:=aHW h1 h2
        have n1:((aA x).length:Int)≤2:=by omega
        have n2:((aA y).length:Int)≤2:=by omega
        unfold jV
        simp only [n1,n2,if_true,decide_true,Option.bind_some]
        rw [if_pos (by omega),aBS x c2.1,aBS y c2.2]
        simp only [Option.bind_some]
        rw [aEl]
        simp only [Option.bind_some]
        rw [wu (by omega),uJ _ (by omega)];rfl
      · have s1:jV (aA x,aA y)=some (.inl (aA y,aA (x % y))):=by
          unfold jV
          simp only []
          have:((if ((aA x).length:Int)≤2 then some (decide (((aA y).length:Int)≤2)) else some false):Option Bool)=some false:=by
            by_cases c1:(aA x).length≤2
            · have c2:¬(aA y).length≤2:=fun h=>c2 ⟨c1,h⟩
              rw [if_pos (by omega),decide_eq_false (by omega)]
            · rw [if_neg (by omega)]
          rw [if_pos (by omega),this]
          simp only [Option.bind_some,Bool.false_eq_true,if_false]
          rw [aEr x y (by omega) hx hy];rfl
        rw [aQ s1,aER x y]
        exact ih (x % y) (Nat.mod_lt _ (by omega)) y hy (by have:=aJH x (y:=y) (by omega);omega)
theorem aHB (x y:Nat) (hx:(aA x).length≤700) (hy:(aA y).length≤700):rU (aA x) (aA y)=some (aA (Nat.gcd x y)):=by
  unfold rU
  obtain ⟨r,e1,e2⟩:=aKz y x hx hy
  have hl:(aA (Nat.gcd x y)).length≤700:=by
    by_cases c:x=0
    · subst c;rw [Nat.gcd_zero_left];exact hy
    · exact Nat.le_trans (fH (Nat.gcd_le_left y (Nat.pos_of_ne_zero c)) (Nat.le_refl _)) hx
  rw [e1]
  rcases e2 with rfl | rfl
  · simp only [Option.bind_some]
    unfold cL
    rw [aN (by simp;omega)];rfl
  · rfl
instance (l:List Int):Decidable (dgs l):=by unfold dgs;infer_instance
def tC (l:List Int):Prop:=dgs l∧l.length≤60∧l.getLast?≠some 0
instance (l:List Int):Decidable (tC l):=by unfold tC;infer_instance
theorem aKp {l:List Int} (h:tC l):nat l:=⟨h.1,h.2.2⟩
theorem mQ {l:List Int} (h:tC l):l=aA (val l):=zH (aKp h)
theorem zI {x:Nat} (h:(aA x).length≤60):tC (aA x):=⟨dW x,h,aAJ x⟩
theorem aLy (l:List Int) (hl:l.length≤4294967296):∀ m k:Nat,m+k=l.length→lp (lF l) (k:Int)=some (if dgs (l.drop k) then .inl () else .inr false):=by
  intro m
  induction m with
  | zero =>
    intro k hk
    rw [if_pos (by rw [List.drop_eq_nil_of_le (by omega)];exact aA5)]
    exact aH (by unfold lF;rw [if_neg (by omega)])
  | succ m ih =>
    intro k hk
    have hlt:k < l.length:=by omega
    by_cases c:0≤l[k]∧l[k] < 1000000000
    · have s1:lF l (k:Int)=some (.inl ((k+1:Nat):Int)):=by
        unfold lF
        have n1:¬l[k] < 0:=by omega
        have n2:¬1000000000≤l[k]:=by omega
        rw [if_pos (by omega),aF hlt,wi (by omega)]
        simp [n1,n2]
      rw [aQ s1,ih (k+1) (by omega)]
      have hd:dgs (l.drop k)↔dgs (l.drop (k+1)):=by rw [List.drop_eq_getElem_cons hlt,mF];exact ⟨fun h=>h.2,fun h=>⟨c,h⟩⟩
      simp only [hd]
    · have h2:¬dgs (l.drop k):=by rw [List.drop_eq_getElem_cons hlt,mF];exact fun h=>c h.1
      rw [if_neg h2]
      refine aH ?_
      unfold lF
      rw [if_pos (by omega),aF hlt]
      simp only [Option.bind_some]
      by_cases n1:l[k] < 0
      · rw [if_pos n1];rfl
      · rw [if_neg n1,decide_eq_true (by omega)];rfl
theorem zN (a b c:Int):jR a b c=some (decide (b≤a∧a≤c)):=by
  unfold jR
  by_cases h:b≤a <;> simp [h]
theorem aLx (l:List Int) (hl:l.length≤4294967296):∀ m k:Nat,m+k=l.length→lp (lA l) (k:Int)=some (if dgs (l.drop k) then .inl () else .inr false):=by
  intro m
  induction m with
  | zero =>
    intro k hk
    rw [if_pos (by rw [List.drop_eq_nil_of_le (by omega)];exact aA5)]
    exact aH (by unfold lA;rw [if_neg (by omega)])
  | succ m ih =>
    intro k hk
    have hlt:k < l.length:=by omega
    by_cases c:0≤l[k]∧l[k] < 1000000000
    · have s1:lA l (k:Int)=some (.inl ((k+1:Nat):Int)):=by
        unfold lA
        rw [if_pos (by omega),aF hlt,wi (by omega)]
        simp only [Option.bind_some]
        rw [zN,decide_eq_true (by omega)];rfl
      rw [aQ s1,ih (k+1) (by omega)]
      have hd:dgs (l.drop k)↔dgs (l.drop (k+1)):=by rw [List.drop_eq_getElem_cons hlt,mF];exact ⟨fun h=>h.2,fun h=>⟨c,h⟩⟩
      simp only [hd]
    · have h2:¬dgs (l.drop k):=by rw [List.drop_eq_getElem_cons hlt,mF];exact fun h=>c h.1
      rw [if_neg h2]
      refine aH ?_
      unfold lA
      rw [if_pos (by omega),aF hlt]
      simp only [Option.bind_some]
      rw [zN,decide_eq_false (by omega)];rfl
theorem aJD (l:List Int) (hl:l.length≤4294967296) (h:l.length≠0):(idx l (IntKind.i64.wrap ((l.length:Int) - 1))).bind (fun y=>some (decide (y≠0)))=some (decide (l.getLast?≠some 0)):=by
  have hlt:l.length - 1 < l.length:=by omega
  rw [wi (by omega),show (l.length:Int) - 1=((l.length - 1:Nat):Int) by omega,aF hlt,List.getLast?_eq_getElem?,List.getElem?_eq_getElem hlt]
  simp
theorem aIl (l:List Int) (hl:l.length≤4294967296):tP l=some (decide (tC l)):=by
  unfold tP
  by_cases c:60 < l.length
  · have:¬tC l:=fun h=>by have:=h.2.1;omega
    rw [if_pos (by omega),decide_eq_false this]
  · have:=aLy l hl l.length 0 (by omega)
    rw [show ((0:Nat):Int)=0 from rfl,List.drop_zero] at this
    rw [if_neg (by omega),this]
    by_cases d:dgs l
    · rw [if_pos d]
      simp only [Option.bind_some]
      by_cases z:l.length=0
      · have e:l=[]:=List.length_eq_zero_iff.1 z
        subst e
        rw [if_pos (by simp),decide_eq_true ⟨aA5,by simp,by simp⟩]
      · rw [if_neg (by omega),aO,aJD l hl z]
        congr 1
        exact decide_eq_decide.2 ⟨fun h=>⟨d,by omega,h⟩,fun h=>h.2.2⟩
    · have:¬tC l:=fun h=>d h.1
      rw [if_neg d,decide_eq_false this];rfl
theorem aFg (l:List Int) (hl:l.length≤4294967296):rH l=some (decide (tC l)):=by
  unfold rH
  have:=aLx l hl l.length 0 (by omega)
  rw [show ((0:Nat):Int)=0 from rfl,List.drop_zero] at this
  rw [this]
  by_cases d:dgs l
  · rw [if_pos d]
    simp only [Option.bind_some]
    by_cases c:60 < l.length
    · have:¬tC l:=fun h=>by have:=h.2.1;omega
      rw [if_neg (by omega),decide_eq_false this]
    · rw [if_pos (by omega)]
      by_cases z:l.length=0
      · have e:l=[]:=List.length_eq_zero_iff.1 z
        subst e
        rw [if_pos (by simp),decide_eq_true ⟨aA5,by simp,by simp⟩]
      · rw [if_neg (by omega),aO,aJD l hl z]
        congr 1
        exact decide_eq_decide.2 ⟨fun h=>⟨d,by omega,h⟩,fun h=>h.2.2⟩
  · have:¬tC l:=fun h=>d h.1
    rw [if_neg d,decide_eq_false this];rfl
theorem aIR:([854775807,223372036,9]:List Int)=aA 9223372036854775807:=by
  have h1:dgs [854775807,223372036,9]:=by intro d hd;simp at hd;omega
  have:=zH (l:=[854775807,223372036,9]) ⟨h1,by simp⟩
  rw [this];rfl
theorem aIu:∀ (l:List Int),dgs l→l.length≤2→lp (cF l) (0,(l.length:Int) - 1)=some (val l:Int)
  | [],_,_=>by
    rw [aH (r:=0) (by unfold cF;simp)];rfl
  | [d],h,_=>by
    rw [mF] at h
    have s1:cF [d] (0,((0:Nat):Int))=some (.inl (d,-1)):=by
      unfold cF
      simp only []
      rw [if_pos (by omega),aF (by simp)]
      simp only [Option.bind_some,aO,List.getElem_cons_zero]
      rw [wi (n:=0*1000000000) (by omega),wi (by omega),wi (by omega)]
      simp
    rw [show ((([d]:List Int).length:Int) - 1)=((0:Nat):Int) by simp,aQ s1,aH (r:=d) (by unfold cF;simp)]
    simp [val] <;> omega
  | [d,e],h,_=>by
    rw [mF,mF] at h
    have s1:cF [d,e] (0,((1:Nat):Int))=some (.inl (e,((0:Nat):Int))):=by
      unfold cF
      simp only []
      rw [if_pos (by omega),aF (by simp)]
      simp only [Option.bind_some,aO,List.getElem_cons_zero,List.getElem_cons_succ]
      rw [wi (n:=0*1000000000) (by omega),wi (by omega),wi (by omega)]
      simp
    have s2:cF [d,e] (e,((0:Nat):Int))=some (.inl (e*1000000000+d,-1)):=by
      unfold cF
      simp only []
      rw [if_pos (by omega),aF (by simp)]
      simp only [Option.bind_some,aO,List.getElem_cons_zero]
      rw [wi (n:=e*1000000000) (by omega),wi (by omega),wi (by omega)]
      rfl
    rw [show ((([d,e]:List Int).length:Int) - 1)=((1:Nat):Int) by simp,aQ s1,aQ s2,aH (r:=e*1000000000+d) (by unfold cF;simp)]
    simp only [val,cY,Nat.mul_zero,Nat.add_zero]
    congr 1;omega
  | _::_::_::_,_,h=>by simp at h <;> omega
theorem aFf (x:Nat) (h:(aA x).length≤2):oB (aA x)=some ((x:Int),true):=by
  have hx:=tI h
  have hl:=jF (v:=9223372036854775807) (by omega)
  unfold oB
  rw [aFg _ (by omega),decide_eq_true (zI (by omega)),aIR]
  simp only [Option.bind_some,if_true]
  rw [aAD _ _ (by omega) (by omega)]
  simp only [Option.bind_some,aO]
  have:¬(0 < qX x 9223372036854775807):=by unfold qX;rw [if_pos (by omega)];omega
  simp only [this,decide_false,Bool.false_eq_true,if_false]
  have e:=aIu (aA x) (dW x) h
  rw [cK] at e
  rw [wi (by omega),e];rfl
theorem aKy:∀ (y x:Nat),(aA x).length≤700→(aA y).length≤700→∃ r,lp jQ (aA x,aA y)=some r∧(r=.inl (aA (Nat.gcd x y))∨r=.inr (aA (Nat.gcd x y))):=by
  intro y
  induction y using Nat.strongRecOn with
  | _ y ih =>
    intro x hx hy
    by_cases c:y=0
    · subst c
      rw [Nat.gcd_zero_right]
      refine ⟨.inl (aA x),aH ?_,.inl rfl⟩
      unfold jQ
      simp [bB]
    · have hy0:(aA y).length≠0:=fun e=>cZ c (List.length_eq_zero_iff.1 e)
      by_cases c2:(aA x).length≤2∧(aA y).length≤2
      · refine ⟨.inr (aA (Nat.gcd x y)),aH ?_,.inr rfl⟩
        have h1:=tI c2.1
        have h2:=tI c2.2
        have h3:=aHW h1 h2
        have n1:((aA x).length:Int) < 3:=by omega
        have n2:((aA y).length:Int) < 3:=by omega
        unfold jQ
        simp only [n1,n2,if_true,decide_true,Option.bind_some]
        rw [if_pos (by omega),aFf x c2.1,aFf y c2.2]
        simp only [Option.bind_some]
        unfold tV
        rw [aIF,aEl]
        simp only [Option.bind_some]
        rw [zY _ (by omega)];rfl
      · have s1:jQ (aA x,aA y)=some (.inl (aA y,aA (x % y))):=by
          unfold jQ
          simp only []
          have:((if ((aA x).length:Int) < 3 then some (decide (((aA y).length:Int) < 3)) else some false):Option Bool)=some false:=by
            by_cases c1:(aA x).length≤2
            · have c2:¬(aA y).length≤2:=fun h=>c2 ⟨c1,h⟩
              rw [if_pos (by omega),decide_eq_false (by omega)]
            · rw [if_neg (by omega)]
          rw [if_pos (by omega),this]
          simp only [Option.bind_some,Bool.false_eq_true,if_false]
          rw [aEN x y (by omega) hx hy];rfl
        rw [aQ s1,aER x y]
        exact ih (x % y) (Nat.mod_lt _ (by omega)) y hy (by have:=aJH x (y:=y) (by omega);omega)
theorem aHO (x y:Nat) (hx:(aA x).length≤700) (hy:(aA y).length≤700):oS (aA x) (aA y)=some (aA (Nat.gcd x y)):=by
  unfold oS
  obtain ⟨r,e1,e2⟩:=aKy y x hx hy
  rw [aN (by simp;omega),aN (by simp;omega)]
  simp only [Option.bind_some,aO,List.nil_append]
  rw [e1]
  rcases e2 with rfl | rfl <;> rfl
end Go.Ev
/- Whole numbers and fractions; both programs. -/
namespace Go.Ev
set_option linter.all false
def vA (x:BigInt):Prop:=tC x.fMag∧(x.fNeg=true→x.fMag≠[])
instance (x:BigInt):Decidable (vA x):=by unfold vA;infer_instance
theorem aMA (x:BigInt) (h:x.fMag.length≤4294967296):qV x=some (decide (vA x)):=by
  unfold qV
  rw [aIl _ h]
  simp only [Option.bind_some]
  by_cases c:tC x.fMag
  · rw [decide_eq_true c]
    simp only [if_true]
    cases hn:x.fNeg with
    | true =>
      simp only [if_true]
      by_cases e:x.fMag=[]
      · rw [decide_eq_false (fun g:vA x=>g.2 hn e),e];rfl
      · have:x.fMag.length≠0:=fun g=>e (List.length_eq_zero_iff.1 g)
        have hb:vA x:=⟨c,fun _=>e⟩
        rw [decide_eq_true hb,decide_eq_false (by omega)];rfl
    | false =>
      have hb:vA x:=⟨c,fun g=>by rw [hn] at g;cases g⟩
      rw [decide_eq_true hb];rfl
  · rw [decide_eq_false c,decide_eq_false (fun g:vA x=>c g.1)];rfl
theorem aMz (x:BigInt) (h:x.fMag.length≤4294967296):qK x=some (decide (vA x)):=by
  unfold qK
  rw [aFg _ h]
  simp only [Option.bind_some]
  by_cases c:tC x.fMag
  · rw [decide_eq_true c]
    simp only [if_true]
    cases hn:x.fNeg with
    | true =>
      simp only [if_true]
      by_cases e:x.fMag=[]
      · rw [decide_eq_false (fun g:vA x=>g.2 hn e),e];rfl
      · have:x.fMag.length≠0:=fun g=>e (List.length_eq_zero_iff.1 g)
        have hb:vA x:=⟨c,fun _=>e⟩
        rw [decide_eq_true hb,decide_eq_true (by omega)]
    | false =>
      have hb:vA x:=⟨c,fun g=>by rw [hn] at g;cases g⟩
      rw [decide_eq_true hb];rfl
  · rw [decide_eq_false c,decide_eq_false (fun g:vA x=>c g.1)];rfl
def aMf (x:BigInt):Int:=if x.fNeg=true then -(val x.fMag:Int) else (val x.fMag:Int)
theorem aE6 (x:BigInt):(aMf x).natAbs=val x.fMag:=by unfold aMf;split <;> omega
theorem aN9 {x:BigInt} (h:vA x):x=big (aMf x):=by
  obtain ⟨neg,mag⟩:=x
  unfold big
  rw [aE6]
  have e:=mQ h.1
  simp only [] at e ⊢
  rw [← e]
  congr 1
  unfold aMf
  cases neg with
  | true =>
    have:val mag≠0:=fun z=>h.2 rfl (by simp only [] at e ⊢;rw [e,z,bB])
    simp only [if_true]
    rw [decide_eq_true (by omega)]
  | false=>simp
theorem aDG (n m:Int):((!(decide (n < 0) == decide (m < 0)))&&decide (n.natAbs*m.natAbs≠0))=decide (n*m < 0):=by
  rw [← Int.natAbs_mul]
  rcases Int.lt_trichotomy n 0 with h1 | h1 | h1
  · rcases Int.lt_trichotomy m 0 with h2 | h2 | h2
    · have:=Int.mul_pos_of_neg_of_neg h1 h2
      rw [decide_eq_true h1,decide_eq_true h2,decide_eq_false (show ¬n*m < 0 by omega)];rfl
    · subst h2;simp
    · have:=Int.mul_neg_of_neg_of_pos h1 h2
      rw [decide_eq_true h1,decide_eq_false (show ¬m < 0 by omega),decide_eq_true (show (n*m).natAbs≠0 by omega),decide_eq_true this];rfl
  · subst h1;simp
  · rcases Int.lt_trichotomy m 0 with h2 | h2 | h2
    · have:=Int.mul_neg_of_pos_of_neg h1 h2
      rw [decide_eq_false (show ¬n < 0 by omega),decide_eq_true h2,decide_eq_true (show (n*m).natAbs≠0 by omega),decide_eq_true this];rfl
    · subst h2;simp
    · have:=Int.mul_pos h1 h2
      rw [decide_eq_false (show ¬n < 0 by omega),decide_eq_false (show ¬m < 0 by omega),decide_eq_false (show ¬n*m < 0 by omega)];rfl
theorem zW (n:Int):(big n).fMag=aA n.natAbs:=rfl
theorem zV (n:Int):(big n).fNeg=decide (n < 0):=rfl
def bl (n:Int):Nat:=(aA n.natAbs).length
theorem zU (n m:Int):bl (n*m)≤bl n+bl m:=by unfold bl;rw [Int.natAbs_mul];exact dZ _ _
theorem aJe (n m:Int):bl (n+m)≤max (bl n) (bl m)+1:=by
  unfold bl
  exact Nat.le_trans (fH (Int.natAbs_add_le n m) (Nat.le_refl _)) (aEZ _ _)
theorem aN8 (n:Int):bl (-n)=bl n:=by unfold bl;rw [Int.natAbs_neg]
theorem wO (n m:Int) (hn:bl n≤60) (hm:bl m≤60) (h:bl (n*m)≤60):iG (big n) (big m)=some (big (n*m)):=by
  unfold iG
  unfold bl at *
  rw [Int.natAbs_mul] at h
  simp only [big]
  rw [(nM n.natAbs m.natAbs (by omega) (by omega)).2]
  simp only [Option.bind_some]
  rw [tS _ _ h]
  simp only [Option.bind_some]
  rw [aDG,Int.natAbs_mul]
theorem aFY (n:Int) (d:Nat) (h:(aA (n.natAbs*d)).length≤60):cH (decide (n < 0)) (aA (n.natAbs*d))=some (big (n*d)):=by
  rw [pS _ _ h]
  have:=aDG n (d:Int)
  rw [decide_eq_false (show ¬((d:Int) < 0) by omega)] at this
  simp only [Int.natAbs_natCast] at this
  unfold big
  rw [← this]
  simp only [Int.natAbs_mul,Int.natAbs_natCast]
  congr 2
  cases decide (n < 0) <;> rfl
theorem aJ1 (n m:Int) (h:(decide (n < 0) == decide (m < 0))=true):(n+m).natAbs=n.natAbs+m.natAbs∧(decide (n < 0)&&decide ((n+m).natAbs≠0))=decide (n+m < 0):=by
  by_cases c1:n < 0
  · by_cases c2:m < 0
    · refine ⟨by omega,?_⟩
      rw [decide_eq_true c1,decide_eq_true (by omega),decide_eq_true (by omega)];rfl
    · simp [c1,c2] at h
  · by_cases c2:m < 0
    · simp [c1,c2] at h
    · refine ⟨by omega,?_⟩
      rw [decide_eq_false c1,decide_eq_false (show ¬(n+m < 0) by omega)];rfl
theorem aDN (n m:Int) (h:¬(decide (n < 0) == decide (m < 0))=true) (hle:m.natAbs≤n.natAbs):(n+m).natAbs=n.natAbs - m.natAbs∧(decide (n < 0)&&decide ((n+m).natAbs≠0))=decide (n+m < 0):=by
  by_cases c1:n < 0
  · by_cases c2:m < 0
    · simp [c1,c2] at h
    · refine ⟨by omega,?_⟩
      rw [decide_eq_true c1,Bool.true_and]
      exact decide_eq_decide.2 (by omega)
  · by_cases c2:m < 0
    · refine ⟨by omega,?_⟩
      rw [decide_eq_false c1,decide_eq_false (show ¬(n+m < 0) by omega)];rfl
    · simp [c1,c2] at h
theorem aMg (n m:Int) (hn:bl n≤60) (hm:bl m≤60) (h:bl (n+m)≤60):uK (big n) (big m)=some (big (n+m)):=by
  unfold uK
  unfold bl at *
  by_cases c:(decide (n < 0) == decide (m < 0))=true
  · obtain ⟨e1,e2⟩:=aJ1 n m c
    rw [if_pos (show ((big n).fNeg == (big m).fNeg)=true from c)]
    simp only [zW,zV]
    rw [aLH _ _ (by omega) (by omega)]
    simp only [Option.bind_some]
    rw [← e1,tS _ _ h,e2];rfl
  · rw [if_neg (show ¬((big n).fNeg == (big m).fNeg)=true from c)]
    simp only [zW,zV]
    rw [aEs _ _ (by omega) (by omega)]
    simp only [Option.bind_some]
    by_cases c2:m.natAbs≤n.natAbs
    · obtain ⟨e1,e2⟩:=aDN n m c c2
      have c3:0≤qX n.natAbs m.natAbs:=by unfold qX;rw [if_neg (by omega)];split <;> omega
      rw [if_pos c3,(yD _ _ (by omega) c2).2]
      simp only [Option.bind_some]
      rw [← e1,tS _ _ h,e2];rfl
    · obtain ⟨e1,e2⟩:=aDN m n (by rw [Bool.beq_comm];exact c) (by omega)
      have c3:¬0≤qX n.natAbs m.natAbs:=by unfold qX;rw [if_pos (by omega)];omega
      rw [if_neg c3,(yD _ _ (by omega) (by omega)).2]
      simp only [Option.bind_some]
      rw [← e1,Int.add_comm m n] at *
      rw [tS _ _ h,e2];rfl
theorem aHN (n m:Int) (hn:bl n≤60) (hm:bl m≤60) (h:bl (n+m)≤60):rQ (big n) (big m)=some (big (n+m)):=by
  unfold rQ
  unfold bl at *
  by_cases c:(decide (n < 0) == decide (m < 0))=true
  · obtain ⟨e1,e2⟩:=aJ1 n m c
    rw [if_pos (show ((big n).fNeg == (big m).fNeg)=true from c)]
    simp only [zW,zV]
    rw [aHP _ _ (by omega) (by omega)]
    simp only [Option.bind_some]
    rw [← e1,pS _ _ h,e2];rfl
  · rw [if_neg (show ¬((big n).fNeg == (big m).fNeg)=true from c)]
    simp only [zW,zV]
    rw [aAD _ _ (by omega) (by omega)]
    simp only [Option.bind_some]
    by_cases c2:m.natAbs≤n.natAbs
    · obtain ⟨e1,e2⟩:=aDN n m c c2
      have c3:0≤qX n.natAbs m.natAbs:=by unfold qX;rw [if_neg (by omega)];split <;> omega
      rw [if_pos c3,(yD _ _ (by omega) c2).1]
      simp only [Option.bind_some]
      rw [← e1,pS _ _ h,e2];rfl
    · obtain ⟨e1,e2⟩:=aDN m n (by rw [Bool.beq_comm];exact c) (by omega)
      have c3:¬0≤qX n.natAbs m.natAbs:=by unfold qX;rw [if_pos (by omega)];omega
      rw [if_neg c3,(yD _ _ (by omega) (by omega)).1]
      simp only [Option.bind_some]
      rw [← e1,Int.add_comm m n] at *
      rw [pS _ _ h,e2];rfl
def nC:Rat:=Rat.mk (BigInt.mk false []) []
def mkR (s:Bool) (x y:Nat):Rat :=
  if y=0 then nC else if 24 < (aA (x / Nat.gcd x y)).length∨24 < (aA (y / Nat.gcd x y)).length then nC
  else ⟨⟨s&&decide (x / Nat.gcd x y≠0),aA (x / Nat.gcd x y)⟩,aA (y / Nat.gcd x y)⟩
theorem aMD:bG nC≤48:=by decide
theorem aJU {x y:Nat} (hx:(aA x).length≤700) (hy:(aA y).length≤700):(aA (Nat.gcd x y)).length≤700:=by
  by_cases c:x=0
  · subst c;rw [Nat.gcd_zero_left];exact hy
  · exact Nat.le_trans (fH (Nat.gcd_le_left y (Nat.pos_of_ne_zero c)) (Nat.le_refl _)) hx
theorem aCA (s t:Bool) (x y:Nat) (hx:(aA x).length≤60) (hy:(aA y).length≤60):mT ⟨s,aA x⟩ ⟨t,aA y⟩=some (mkR (!(s == t)) x y):=by
  unfold mT mkR
  simp only []
  by_cases c:y=0
  · rw [if_pos c,if_pos (by rw [c,bB];rfl)];rfl
  · have hl:(aA y).length≠0:=fun e=>cZ c (List.length_eq_zero_iff.1 e)
    have hg:=aJU (x:=x) (y:=y) (by omega) (by omega)
    have hg0:0 < Nat.gcd x y:=Nat.gcd_pos_of_pos_right x (Nat.pos_of_ne_zero c)
    rw [if_neg c,if_neg (by omega),aHB x y (by omega) (by omega)]
    simp only [Option.bind_some]
    rw [aEr x _ hg0 (by omega) hg,aEr y _ hg0 (by omega) hg]
    simp only [Option.bind_some]
    have l1:=aM2 x (Nat.gcd x y)
    by_cases c1:24 < (aA (x / Nat.gcd x y)).length
    · rw [if_pos (by omega),if_pos (.inl c1)];rfl
    · rw [if_neg (by omega)]
      by_cases c2:24 < (aA (y / Nat.gcd x y)).length
      · rw [if_pos (.inr c2),decide_eq_true (by omega)];rfl
      · rw [if_neg (by omega),decide_eq_false (by omega)]
        simp only [Option.bind_some,Bool.false_eq_true,if_false]
        rw [tS _ _ (by omega)];rfl
theorem tK:([1]:List Int)=aA 1:=by rw [pX (by rw [cY];omega) (by omega)];rfl
theorem aGh (x:Nat):hG (aA x)=some (decide (x=1)):=by
  unfold hG
  by_cases c:x=1
  · subst c;rw [← tK];simp [idx]
  · rw [decide_eq_false c]
    by_cases h:(aA x).length=1
    · have hx:x < BB:=by have:=oD x;rw [h,Nat.pow_one] at this;exact this
      have h0:x≠0:=by rintro rfl;rw [bB] at h;simp at h
      rw [if_pos (by omega),show (0:Int)=((0:Nat):Int) from rfl,aF (by omega)]
      simp only [pX hx h0,List.getElem_cons_zero,Option.bind_some]
      rw [decide_eq_false (by omega)]
    · rw [if_neg (by omega)]
theorem aCh (s:Bool) (x y:Nat) (hx:(aA x).length≤60) (hy:(aA y).length≤60):mK s (aA x) (aA y)=some (mkR s x y):=by
  unfold mK mkR
  rw [yT (dW x) (by omega),yT (dW y) (by omega),cK,cK]
  simp only [Option.bind_some]
  by_cases c:y=0
  · rw [if_pos c,if_pos (by rw [c,bB];rfl)];rfl
  · have hl:(aA y).length≠0:=fun e=>cZ c (List.length_eq_zero_iff.1 e)
    have hg:=aJU (x:=x) (y:=y) (by omega) (by omega)
    have hg0:0 < Nat.gcd x y:=Nat.gcd_pos_of_pos_right x (Nat.pos_of_ne_zero c)
    rw [if_neg c,if_neg (by omega),aGh]
    simp only [Option.bind_some]
    have key:((if decide (y=1)=true then some (aA x,aA y) else (oS (aA x) (aA y)).bind fun r4=>(hG r4).bind fun r5=>(if r5=true then some (aA x,aA y) else (kJ (aA x) r4).bind fun r6=>(kJ (aA y) r4).bind fun r7=>some (r6.1,r7.1))):Option ((List Int) × (List Int)))=some (aA (x / Nat.gcd x y),aA (y / Nat.gcd x y)):=by
      by_cases c1:y=1
      · rw [decide_eq_true c1,if_pos rfl,c1,Nat.gcd_one_right,Nat.div_one,Nat.div_one]
      · rw [decide_eq_false c1,if_neg (by simp),aHO x y (by omega) (by omega)]
        simp only [Option.bind_some]
        rw [aGh]
        simp only [Option.bind_some]
        by_cases c2:Nat.gcd x y=1
        · rw [decide_eq_true c2,if_pos rfl,c2,Nat.div_one,Nat.div_one]
        · rw [decide_eq_false c2,if_neg (by simp),aEN x _ hg0 (by omega) hg,aEN y _ hg0 (by omega) hg];rfl
    rw [key]
    simp only [Option.bind_some]
    by_cases c1:24 < (aA (x / Nat.gcd x y)).length
    · rw [if_pos (by omega),if_pos (.inl c1)];rfl
    · rw [if_neg (by omega)]
      by_cases c2:24 < (aA (y / Nat.gcd x y)).length
      · rw [if_pos (.inr c2),decide_eq_true (by omega)];rfl
      · rw [if_neg (by omega),decide_eq_false (by omega)]
        simp only [Option.bind_some,Bool.false_eq_true,if_false]
        rw [pS _ _ (by omega)]
        simp only [Option.bind_some]
        rw [aN (by simp;omega)]
        simp only [Option.bind_some,aO,List.nil_append]
def bJ (r:Rat):Prop:=vA r.fNum∧tC r.fDen∧r.fDen≠[]∧r.fDen.length≤24∧r.fNum.fMag.length≤24∧Nat.gcd (val r.fNum.fMag) (val r.fDen)=1
instance (r:Rat):Decidable (bJ r):=by unfold bJ;infer_instance
theorem aLk (r:Rat) (h:bG r≤4294967296):r.fNum.fMag.length≤4294967296∧r.fDen.length≤4294967296:=by
  unfold bG tG qE at h
  simp only [oL] at h;omega
theorem aAM (r:Rat) (h:bG r≤4294967296):mW r=some (decide (bJ r)):=by
  obtain ⟨h1,h2⟩:=aLk r h
  unfold mW
  rw [aMA _ h1]
  simp only [Option.bind_some]
  by_cases c1:vA r.fNum
  · rw [decide_eq_true c1,if_pos rfl,aIl _ h2]
    simp only [Option.bind_some]
    by_cases c2:tC r.fDen
    · rw [decide_eq_true c2,if_pos rfl]
      simp only [Option.bind_some]
      by_cases c3:r.fDen=[]
      · rw [decide_eq_false (fun g:bJ r=>g.2.2.1 c3),decide_eq_true (by rw [c3];rfl)];rfl
      · have hn:r.fDen.length≠0:=fun e=>c3 (List.length_eq_zero_iff.1 e)
        rw [decide_eq_false (show ¬((r.fDen.length:Int)=0) by omega)]
        simp only [Bool.false_eq_true,if_false]
        by_cases c4:24 < r.fNum.fMag.length
        · rw [if_pos (by omega),decide_eq_false (fun g:bJ r=>by have:=g.2.2.2.2.1;omega)];rfl
        · rw [if_neg (by omega)]
          by_cases c5:24 < r.fDen.length
          · rw [decide_eq_true (show (24:Int) < r.fDen.length by omega),decide_eq_false (fun g:bJ r=>by have:=g.2.2.2.1;omega)];rfl
          · rw [decide_eq_false (show ¬(24:Int) < r.fDen.length by omega)]
            simp only [Option.bind_some,Bool.false_eq_true,if_false]
            have e1:=mQ c1.1
            have e2:=mQ c2
            have g:=aHB (val r.fNum.fMag) (val r.fDen) (by rw [← e1];omega) (by rw [← e2];omega)
            rw [← e1,← e2] at g
            rw [g]
            have o:=aGh (Nat.gcd (val r.fNum.fMag) (val r.fDen))
            unfold hG at o
            simp only [Option.bind_some]
            rw [o]
            congr 1
            exact decide_eq_decide.2 ⟨fun q=>⟨c1,c2,c3,by omega,by omega,q⟩,fun q=>q.2.2.2.2.2⟩
    · rw [decide_eq_false c2,decide_eq_false (fun g:bJ r=>c2 g.2.1)];rfl
  · rw [decide_eq_false c1,decide_eq_false (fun g:bJ r=>c1 g.1)];rfl
theorem dX (r:Rat) (h:bG r≤4294967296):bY r=some (decide (bJ r)):=by
  obtain ⟨h1,h2⟩:=aLk r h
  unfold bY
  rw [aMz _ h1]
  simp only [Option.bind_some]
  by_cases c1:vA r.fNum
  · rw [decide_eq_true c1,if_pos rfl,aFg _ h2]
    simp only [Option.bind_some]
    by_cases c2:tC r.fDen
    · rw [decide_eq_true c2,if_pos rfl]
      by_cases c3:r.fDen=[]
      · rw [decide_eq_false (fun g:bJ r=>g.2.2.1 c3),if_pos (by rw [c3];rfl)];rfl
      · have hn:r.fDen.length≠0:=fun e=>c3 (List.length_eq_zero_iff.1 e)
        rw [if_neg (by omega)]
        by_cases c5:24 < r.fDen.length
        · rw [if_pos (by omega),decide_eq_false (fun g:bJ r=>by have:=g.2.2.2.1;omega)];rfl
        · rw [if_neg (by omega)]
          by_cases c4:24 < r.fNum.fMag.length
          · rw [decide_eq_true (show (24:Int) < r.fNum.fMag.length by omega),decide_eq_false (fun g:bJ r=>by have:=g.2.2.2.2.1;omega)];rfl
          · rw [decide_eq_false (show ¬(24:Int) < r.fNum.fMag.length by omega)]
            simp only [Option.bind_some,Bool.false_eq_true,if_false]
            have e1:=mQ c1.1
            have e2:=mQ c2
            have g:=aHO (val r.fNum.fMag) (val r.fDen) (by rw [← e1];omega) (by rw [← e2];omega)
            rw [← e1,← e2] at g
            rw [g]
            simp only [Option.bind_some]
            rw [aGh]
            simp only [Option.bind_some]
            congr 1
            exact decide_eq_decide.2 ⟨fun q=>⟨c1,c2,c3,by omega,by omega,q⟩,fun q=>q.2.2.2.2.2⟩
    · rw [decide_eq_false c2,decide_eq_false (fun g:bJ r=>c2 g.2.1)];rfl
  · rw [decide_eq_false c1,decide_eq_false (fun g:bJ r=>c1 g.1)];rfl
theorem yX {r:Rat} (h:bJ r):∃ (n:Int) (d:Nat),r=⟨big n,aA d⟩∧0 < d∧bl n≤24∧(aA d).length≤24∧Nat.gcd n.natAbs d=1:=by
  obtain ⟨h1,h2,h3,h4,h5,h6⟩:=h
  have e1:=aN9 h1
  have e2:=mQ h2
  refine ⟨aMf r.fNum,val r.fDen,?_,?_,?_,by rw [← e2];exact h4,by rw [aE6];exact h6⟩
  · rw [← e1,← e2]
  · rcases Nat.eq_zero_or_pos (val r.fDen) with z | z
    · rw [z,bB] at e2;exact absurd e2 h3
    · exact z
  · unfold bl;rw [aE6,← mQ h1.1];exact h5
theorem aA7 (d:Nat):(⟨false,aA d⟩:BigInt)=big (d:Int):=by
  unfold big
  rw [decide_eq_false (by omega),Int.natAbs_natCast]
theorem aBH {n:Int} {d:Nat} (h:0 < d):dR ⟨big n,aA d⟩=some true:=by
  unfold dR
  have:(aA d).length≠0:=fun e=>cZ (n:=d) (by omega) (List.length_eq_zero_iff.1 e)
  simp only []
  rw [decide_eq_true (by omega)]
def aIh (n:Int) (d:Nat) (m:Int) (e:Nat):Rat:=mkR (decide (n*e+m*d < 0)) (n*e+m*d).natAbs (d*e)
theorem aBW (n:Int) (d:Nat) (m:Int) (e:Nat) (hd:0 < d) (he:0 < e) (h1:bl n≤24) (h2:(aA d).length≤24) (h3:bl m≤24) (h4:(aA e).length≤24):cC ⟨big n,aA d⟩ ⟨big m,aA e⟩=some (aIh n d m e):=by
  unfold cC
  rw [aBH hd,aBH he]
  simp only [Option.bind_some,if_true,Bool.not_true,Bool.false_eq_true,if_false,gR]
  have b1:bl (e:Int)≤24:=by unfold bl;rw [Int.natAbs_natCast];exact h4
  have b2:bl (d:Int)≤24:=by unfold bl;rw [Int.natAbs_natCast];exact h2
  have b3:=zU n e
  have b4:=zU m d
  have b5:=aJe (n*e) (m*d)
  have b6:=zU d e
  rw [aA7,aA7,wO n e (by omega) (by omega) (by omega),wO m d (by omega) (by omega) (by omega)]
  simp only [Option.bind_some]
  rw [aMg _ _ (by omega) (by omega) (by omega),wO d e (by omega) (by omega) (by omega)]
  simp only [Option.bind_some]
  unfold big aIh
  unfold bl at b5 b6 b1 b2 b3 b4 h1 h3
  rw [aCA _ _ _ _ (by omega) (by omega)]
  have:decide ((d:Int)*(e:Int) < 0)=false:=decide_eq_false (by have:=Int.mul_nonneg (a:=(d:Int)) (b:=(e:Int)) (by omega) (by omega);omega)
  rw [this,Int.natAbs_mul,Int.natAbs_natCast,Int.natAbs_natCast]
  simp only [Option.bind_some]
  congr 2
  cases decide (n*(e:Int)+m*(d:Int) < 0) <;> rfl
theorem aLR (n:Int) (d:Nat) (m:Int) (e:Nat) (hd:0 < d) (he:0 < e) (h1:bl n≤24) (h2:(aA d).length≤24) (h3:bl m≤24) (h4:(aA e).length≤24):oQ ⟨big n,aA d⟩ ⟨big m,aA e⟩=some (aIh n d m e):=by
  have b1:bl (e:Int)≤24:=by unfold bl;rw [Int.natAbs_natCast];exact h4
  have b2:bl (d:Int)≤24:=by unfold bl;rw [Int.natAbs_natCast];exact h2
  have b3:=zU n e
  have b4:=zU m d
  have b5:=aJe (n*e) (m*d)
  have b7:=aJe n m
  have b6:=dZ d e
  unfold oQ
  simp only []
  rw [aGh,aGh]
  simp only [Option.bind_some]
  have key:((if decide (d=1)=true then some (decide (e=1)) else some false):Option Bool)=some (decide (d=1∧e=1)):=by
    by_cases c:d=1 <;> simp [c]
  rw [key]
  simp only [Option.bind_some]
  by_cases c:d=1∧e=1
  · rw [decide_eq_true c,if_pos rfl,aHN n m (by omega) (by omega) (by omega)]
    simp only [Option.bind_some]
    obtain ⟨c1,c2⟩:=c
    unfold aIh
    rw [tK]
    unfold bl at b7 h1 h3
    simp only [big]
    rw [aCh _ _ _ (by omega) (by rw [← tK];simp),c1,c2]
    simp
  · rw [decide_eq_false c,if_neg (by simp)]
    have p1:(aA (n.natAbs*e)).length≤48:=by have:=dZ n.natAbs e;unfold bl at h1;omega
    have p2:(aA (m.natAbs*d)).length≤48:=by have:=dZ m.natAbs d;unfold bl at h3;omega
    have q1:cW (big n).fMag (aA e)=some (aA (n.natAbs*e)):=by unfold bl at h1;exact (nM n.natAbs e (by omega) (by omega)).1
    have q2:cW (big m).fMag (aA d)=some (aA (m.natAbs*d)):=by unfold bl at h3;exact (nM m.natAbs d (by omega) (by omega)).1
    have q3:cH (big n).fNeg (aA (n.natAbs*e))=some (big (n*e)):=aFY n e (by omega)
    have q4:cH (big m).fNeg (aA (m.natAbs*d))=some (big (m*d)):=aFY m d (by omega)
    rw [q1]
    simp only [Option.bind_some]
    rw [q3]
    simp only [Option.bind_some]
    rw [q2]
    simp only [Option.bind_some]
    rw [q4]
    simp only [Option.bind_some]
    rw [aHN _ _ (by omega) (by omega) (by omega)]
    simp only [Option.bind_some]
    rw [(nM d e (by omega) (by omega)).1]
    simp only [Option.bind_some]
    unfold aIh
    unfold bl at b5 b3 b4 h1 h3 b1 b2
    simp only [big]
    rw [aCh _ _ _ (by omega) (by omega)];rfl
end Go.Ev
/- Fractions: the interface that both programs meet. -/
namespace Go.Ev
set_option linter.all false
def VZ (r:Rat):Prop:=bJ r∨r=nC
theorem aAl:¬bJ nC:=fun h=>h.2.2.1 rfl
theorem aBh:VZ nC:=.inr rfl
theorem oJ {r:Rat} (h:VZ r):bG r≤48:=by
  rcases h with h | h
  · unfold bG tG qE
    simp only [oL]
    have h1:=h.2.2.2.1
    have h2:=h.2.2.2.2.1
    omega
  · subst h;exact aMD
theorem aEY {n:Nat} (h:0 < n):aA n≠[]:=cZ (by omega)
theorem aIQ (s:Bool) (x y:Nat):VZ (mkR s x y):=by
  unfold mkR
  by_cases c:y=0
  · rw [if_pos c];exact aBh
  · rw [if_neg c]
    by_cases c2:24 < (aA (x / Nat.gcd x y)).length∨24 < (aA (y / Nat.gcd x y)).length
    · rw [if_pos c2];exact aBh
    · rw [if_neg c2]
      left
      have hg0:0 < Nat.gcd x y:=Nat.gcd_pos_of_pos_right x (Nat.pos_of_ne_zero c)
      have hy:0 < y / Nat.gcd x y:=Nat.div_pos (Nat.gcd_le_right x (Nat.pos_of_ne_zero c)) hg0
      refine ⟨⟨zI (by omega),fun h=>?_⟩,zI (by omega),aEY hy,by show (aA (y / Nat.gcd x y)).length≤24;omega,by show (aA (x / Nat.gcd x y)).length≤24;omega,?_⟩
      · simp only [Bool.and_eq_true,decide_eq_true_eq] at h
        exact cZ h.2
      · simp only [cK]
        have:=Nat.gcd_div (Nat.gcd_dvd_left x y) (Nat.gcd_dvd_right x y)
        rw [this,Nat.div_self hg0]
theorem aDK {s s':Bool} {x y:Nat} (h:x≠0→s=s'):mkR s x y=mkR s' x y:=by
  by_cases c:x=0
  · subst c;unfold mkR;simp
  · rw [h c]
theorem iT {r:Rat} (h:VZ r):dR r=some (decide (bJ r)):=by
  unfold dR
  rcases h with h | h
  · have:r.fDen.length≠0:=fun e=>h.2.2.1 (List.length_eq_zero_iff.1 e)
    rw [decide_eq_true h,decide_eq_true (by omega)]
  · subst h
    rw [decide_eq_false aAl];rfl
theorem aCq (r s:Rat) (hr:bG r≤4294967296) (hs:bG s≤4294967296):∃ t,cX r s=some t∧VZ t∧(VZ r→VZ s→cC r s=some t):=by
  unfold cX
  rw [dX r hr]
  simp only [Option.bind_some]
  by_cases c1:bJ r
  · rw [decide_eq_true c1,if_pos rfl,dX s hs]
    simp only [Option.bind_some]
    by_cases c2:bJ s
    · rw [decide_eq_true c2]
      obtain ⟨n,d,e1,e2,e3,e4,_⟩:=yX c1
      obtain ⟨m,e,g1,g2,g3,g4,_⟩:=yX c2
      subst e1;subst g1
      simp only [Bool.not_true,Bool.false_eq_true,if_false]
      have q:=aBW n d m e e2 g2 e3 e4 g3 g4
      rw [aLR n d m e e2 g2 e3 e4 g3 g4]
      exact ⟨_,rfl,aIQ _ _ _,fun _ _=>q⟩
    · rw [decide_eq_false c2]
      refine ⟨nC,rfl,aBh,fun v1 v2=>?_⟩
      unfold cC
      rw [iT v1,iT v2,decide_eq_true c1,decide_eq_false c2];rfl
  · rw [decide_eq_false c1]
    refine ⟨nC,rfl,aBh,fun v1 v2=>?_⟩
    unfold cC
    rw [iT v1,decide_eq_false c1];rfl
def aMR (n:Int) (d:Nat) (m:Int) (e:Nat):Rat:=mkR (!(decide (n < 0) == decide (m < 0))) (n.natAbs*m.natAbs) (d*e)
theorem aHp (n:Int) (d:Nat) (m:Int) (e:Nat) (hd:0 < d) (he:0 < e) (h1:bl n≤24) (h2:(aA d).length≤24) (h3:bl m≤24) (h4:(aA e).length≤24):cM ⟨big n,aA d⟩ ⟨big m,aA e⟩=some (aMR n d m e):=by
  unfold cM
  rw [aBH hd,aBH he]
  simp only [Option.bind_some,if_true,Bool.not_true,Bool.false_eq_true,if_false,gR]
  have b1:bl (e:Int)≤24:=by unfold bl;rw [Int.natAbs_natCast];exact h4
  have b2:bl (d:Int)≤24:=by unfold bl;rw [Int.natAbs_natCast];exact h2
  have b3:=zU n m
  have b6:=zU d e
  rw [wO n m (by omega) (by omega) (by omega),aA7,aA7,wO d e (by omega) (by omega) (by omega)]
  simp only [Option.bind_some]
  unfold big aMR
  unfold bl at b6 b1 b2 b3 h1 h3
  rw [aCA _ _ _ _ (by omega) (by omega)]
  have:decide ((d:Int)*(e:Int) < 0)=false:=decide_eq_false (by have:=Int.mul_nonneg (a:=(d:Int)) (b:=(e:Int)) (by omega) (by omega);omega)
  rw [this,Int.natAbs_mul,Int.natAbs_mul,Int.natAbs_natCast,Int.natAbs_natCast]
  simp only [Option.bind_some]
  congr 1
  refine aDK fun hx=>?_
  have q:=aDG n m
  rw [decide_eq_true hx,Bool.and_true] at q
  rw [← q]
  cases decide (n < 0) <;> cases decide (m < 0) <;> rfl
theorem aLQ (n:Int) (d:Nat) (m:Int) (e:Nat) (h1:bl n≤24) (h2:(aA d).length≤24) (h3:bl m≤24) (h4:(aA e).length≤24):uD ⟨big n,aA d⟩ ⟨big m,aA e⟩=some (aMR n d m e):=by
  unfold bl at h1 h3
  have b1:=dZ n.natAbs m.natAbs
  have b2:=dZ d e
  unfold uD
  simp only [big]
  rw [(nM _ _ (by omega) (by omega)).1]
  simp only [Option.bind_some]
  rw [(nM _ _ (by omega) (by omega)).1]
  simp only [Option.bind_some]
  rw [aCh _ _ _ (by omega) (by omega)]
  rfl
theorem aMn (r s:Rat) (hr:bG r≤4294967296) (hs:bG s≤4294967296):∃ t,dS r s=some t∧VZ t∧(VZ r→VZ s→cM r s=some t):=by
  unfold dS
  rw [dX r hr]
  simp only [Option.bind_some]
  by_cases c1:bJ r
  · rw [decide_eq_true c1,if_pos rfl,dX s hs]
    simp only [Option.bind_some]
    by_cases c2:bJ s
    · rw [decide_eq_true c2]
      obtain ⟨n,d,e1,e2,e3,e4,_⟩:=yX c1
      obtain ⟨m,e,g1,g2,g3,g4,_⟩:=yX c2
      subst e1;subst g1
      simp only [Bool.not_true,Bool.false_eq_true,if_false]
      rw [aLQ n d m e e3 e4 g3 g4]
      exact ⟨_,rfl,aIQ _ _ _,fun _ _=>aHp n d m e e2 g2 e3 e4 g3 g4⟩
    · rw [decide_eq_false c2]
      refine ⟨nC,rfl,aBh,fun v1 v2=>?_⟩
      unfold cM
      rw [iT v1,iT v2,decide_eq_true c1,decide_eq_false c2];rfl
  · rw [decide_eq_false c1]
    refine ⟨nC,rfl,aBh,fun v1 v2=>?_⟩
    unfold cM
    rw [iT v1,decide_eq_false c1];rfl
def vH (r:Rat):Int:=if bJ r then (if r.fNum.fMag=[] then 0 else if r.fNum.fNeg=true then -1 else 1) else 0
theorem yE {r:Rat} (h:0 < vH r):bJ r:=by
  unfold vH at h
  by_cases c:bJ r
  · exact c
  · rw [if_neg c] at h;omega
theorem yS (r:Rat) (hr:bG r≤4294967296):kK r=some (vH r)∧mV r=some (vH r):=by
  unfold kK mV vH
  rw [aAM r hr,dX r hr]
  simp only [Option.bind_some]
  by_cases c1:bJ r
  · rw [decide_eq_true c1,if_pos c1,if_pos rfl,if_pos rfl]
    unfold vK
    rw [iT (.inl c1),decide_eq_true c1]
    simp only [Option.bind_some,if_true]
    by_cases c2:r.fNum.fMag=[]
    · rw [if_pos c2,decide_eq_true (by rw [c2];rfl)];exact ⟨rfl,rfl⟩
    · have:r.fNum.fMag.length≠0:=fun e=>c2 (List.length_eq_zero_iff.1 e)
      rw [if_neg c2,decide_eq_false (by omega)]
      simp only [Bool.false_eq_true,if_false]
      cases r.fNum.fNeg <;> exact ⟨rfl,rfl⟩
  · rw [decide_eq_false c1,if_neg c1];exact ⟨rfl,rfl⟩
theorem aNv (a b:List Int) (h:a.length≤4294967296):pM a b=some (decide (a=b)):=by
  unfold pM
  by_cases c:a.length=b.length
  · rw [if_neg (by omega)]
    have main:∀ m k:Nat,m+k=a.length→lp (iY a b) (k:Int)=some (if a.drop k=b.drop k then .inl () else .inr false):=by
      intro m
      induction m with
      | zero =>
        intro k hk
        rw [if_pos (by rw [List.drop_eq_nil_of_le (by omega),List.drop_eq_nil_of_le (by omega)])]
        exact aH (by unfold iY;rw [if_neg (by omega)])
      | succ m ih =>
        intro k hk
        have h1:k < a.length:=by omega
        have h2:k < b.length:=by omega
        by_cases e:a[k]=b[k]
        · have s1:iY a b (k:Int)=some (.inl ((k+1:Nat):Int)):=by
            unfold iY
            rw [if_pos (by omega),aF h1,aF h2,wi (by omega)];simp [e]
          rw [aQ s1,ih (k+1) (by omega)]
          have:a.drop k=b.drop k↔a.drop (k+1)=b.drop (k+1):=by
            rw [List.drop_eq_getElem_cons h1,List.drop_eq_getElem_cons h2,List.cons.injEq]
            exact ⟨fun h=>h.2,fun h=>⟨e,h⟩⟩
          simp only [this]
        · have:¬a.drop k=b.drop k:=by
            rw [List.drop_eq_getElem_cons h1,List.drop_eq_getElem_cons h2,List.cons.injEq]
            exact fun h=>e h.1
          rw [if_neg this]
          refine aH ?_
          unfold iY
          rw [if_pos (by omega),aF h1,aF h2];simp [e]
    have:=main a.length 0 (by omega)
    rw [show ((0:Nat):Int)=0 from rfl,List.drop_zero,List.drop_zero] at this
    rw [this]
    by_cases e:a=b
    · simp [e]
    · simp [e]
  · rw [if_pos (by omega),decide_eq_false (fun e=>c (by rw [e]))]
theorem aFx:cU=kZ:=rfl
theorem aJj (r s:Rat) (hr:bG r≤4294967296):∃ b,kZ r s=some b:=by
  obtain ⟨h1,h2⟩:=aLk r hr
  unfold kZ
  rw [aNv _ _ h1,aNv _ _ h2]
  simp only [Option.bind_some]
  split
  · split
    · exact ⟨_,rfl⟩
    · exact ⟨_,rfl⟩
  · exact ⟨_,rfl⟩
theorem yY (n:Int) (h:-9223372036854775808≤n∧n≤9223372036854775807):bJ (pZ n):=by
  have hl:=jF (v:=n.natAbs) (by omega)
  unfold pZ
  rw [tK]
  refine ⟨⟨zI (by omega),fun hn=>?_⟩,zI (by rw [← tK];simp),aEY (by omega),by rw [← tK];simp,by show (aA n.natAbs).length≤24;omega,?_⟩
  · simp only [big,decide_eq_true_eq] at hn
    exact cZ (by omega)
  · simp only [cK,Nat.gcd_one_right]
end Go.Ev
/- Is a number in a list. -/
namespace Go.Ev
set_option linter.all false
theorem wJ (l:List Int) (n:Int) (h:l.length≤4294967296):eW l n=some (decide (n ∈ l)):=by
  have main:∀ m k:Nat,m+k=l.length→lp (jY l n) (k:Int)=some (if n ∈ l.drop k then .inr true else .inl ()):=by
    intro m
    induction m with
    | zero =>
      intro k hk
      have:k=l.length:=by omega
      subst this
      rw [aH (r:=.inl ()) (by unfold jY;rw [if_neg (by omega)]),List.drop_length];simp
    | succ m ih =>
      intro k hk
      have hlt:k < l.length:=by omega
      rw [List.drop_eq_getElem_cons hlt]
      by_cases c:l[k]=n
      · rw [aH (r:=.inr true) (by unfold jY;rw [if_pos (by omega),aF hlt];simp [c]),if_pos (by simp [c])]
      · have e:jY l n (k:Int)=some (.inl ((k:Int)+1)):=by
          unfold jY;rw [if_pos (by omega),aF hlt,wi (by omega)];simp [c]
        rw [aQ e,show (k:Int)+1=((k+1:Nat):Int) by omega,ih (k+1) (by omega)]
        have:(n ∈ l[k]::l.drop (k+1))↔n ∈ l.drop (k+1):=by
          rw [List.mem_cons];exact ⟨fun h=>h.resolve_left (fun e=>c e.symm),.inr⟩
        simp only [this]
  have:=main l.length 0 (by omega)
  rw [show ((0:Nat):Int)=0 from rfl,List.drop_zero] at this
  unfold eW
  rw [this]
  by_cases c:n ∈ l <;> simp [c]
theorem aCg (l:List Int) (n:Int) (h:l.length≤4294967296):rO l n=some (decide (n ∈ l)):=wJ l n h
end Go.Ev
/- Conditionals and nets, both programs. -/
namespace Go.Ev
set_option linter.all false
theorem aHU (a:Int):pF a=some (decide (0≤a∧a≤9)):=by
  unfold pF
  by_cases h:0≤a
  · rw [if_pos h];congr 1;rw [decide_eq_decide];omega
  · rw [if_neg h,decide_eq_false (by omega)]
theorem aA3 (a:Int):jC a=some (decide (0≤a∧a≤9)):=by
  unfold jC
  rw [zN];rfl
def aEm (c:Conditional) (k:Nat) (p:Parent):Prop:=(0≤p.fNode∧p.fNode≤9)∧p.fNode≠c.fNode∧(∀ q,0 < k→c.fParents[k - 1]?=some q→q.fNode < p.fNode)∧0 < vH p.fShare∧bJ p.fDX∧bJ p.fDY
theorem aNo {c:Conditional} (h:aS c≤4294967296) {k:Nat} (hk:k < c.fParents.length):bG (c.fParents[k]).fShare≤4294967296∧bG (c.fParents[k]).fDX≤4294967296∧bG (c.fParents[k]).fDY≤4294967296:=by
  unfold aS mI at h
  have:=kH (w:=iX) (List.getElem_mem hk)
  have e:iX c.fParents[k]=bG (c.fParents[k]).fShare+bG (c.fParents[k]).fDX+bG (c.fParents[k]).fDY:=rfl
  omega
theorem aGH {c:Conditional} (h:aS c≤4294967296):c.fParents.length≤4294967296∧bG c.fTotal≤4294967296:=by
  unfold aS mI at h
  have:=iL iX c.fParents
  omega
theorem aIq (c:Conditional) (h:aS c≤4294967296):∀ m k:Nat,m+k=c.fParents.length→∀ s:Rat,VZ s →
    ∃ r,lp (bC c) ((k:Int),s)=some r∧lp (bZ c) ((k:Int),s)=some r ∧
      (match r with | .inl v=>VZ v∧∀ j (hj:j < c.fParents.length),k≤j→aEm c j c.fParents[j] | .inr b=>b=false):=by
  have hl:=(aGH h).1
  intro m
  induction m with
  | zero =>
    intro k hk s hs
    refine ⟨.inl s,aH ?_,aH ?_,hs,fun j hj hkj=>by omega⟩
    · unfold bC;simp only [];rw [if_neg (by omega)]
    · unfold bZ;simp only [];rw [if_neg (by omega)]
  | succ m ih =>
    intro k hk s hs
    have hlt:k < c.fParents.length:=by omega
    obtain ⟨z1,z2,z3⟩:=aNo h hlt
    obtain ⟨g1,g2⟩:=yS _ z1
    have a1:=aAM _ z2
    have a2:=aAM _ z3
    have b1:=dX _ z2
    have b2:=dX _ z3
    obtain ⟨t,t1,t3,t4⟩:=aCq s (c.fParents[k]).fShare (by have:=oJ hs;omega) z1
    have step:(aEm c k c.fParents[k]→bC c ((k:Int),s)=some (.inl (((k+1:Nat):Int),t))∧bZ c ((k:Int),s)=some (.inl (((k+1:Nat):Int),t))) ∧
        (¬aEm c k c.fParents[k]→bC c ((k:Int),s)=some (.inr (.inr false))∧bZ c ((k:Int),s)=some (.inr (.inr false))):=by
      have w1:IntKind.i64.wrap ((k:Int)+1)=((k+1:Nat):Int):=by rw [wi (by omega)];omega
      have hin:(k:Int) < (c.fParents.length:Int):=by omega
      unfold bC bZ
      simp only [hin,if_true,aF hlt,Option.bind_some,aHU,aA3,g1,g2,a1,a2,b1,b2,t1,w1]
      by_cases A:0≤(c.fParents[k]).fNode∧(c.fParents[k]).fNode≤9
      · by_cases B:(c.fParents[k]).fNode=c.fNode
        · refine ⟨fun g=>absurd B g.2.1,fun _=>?_⟩
          simp [A,B]
        · by_cases D:0 < vH (c.fParents[k]).fShare
          · have D':¬vH (c.fParents[k]).fShare≤0:=by omega
            have t5:=t4 hs (.inl (yE D))
            by_cases K:0 < k
            · have hlt2:k - 1 < c.fParents.length:=by omega
              have w2:IntKind.i64.wrap ((k:Int) - 1)=((k - 1:Nat):Int):=by rw [wi (by omega)];omega
              have K':(0:Int) < (k:Int):=by omega
              simp only [A,B,K',D',w2,aF hlt2,and_self,decide_true,if_true,if_false,Option.bind_some]
              by_cases C:(c.fParents[k]).fNode≤(c.fParents[k - 1]).fNode
              · refine ⟨fun g=>?_,fun _=>?_⟩
                · have:=g.2.2.1 (c.fParents[k - 1]) K (by rw [List.getElem?_eq_getElem hlt2]);omega
                · simp [C]
              · by_cases E:bJ (c.fParents[k]).fDX
                · by_cases F:bJ (c.fParents[k]).fDY
                  · refine ⟨fun _=>?_,fun g=>absurd ⟨A,B,fun q _ hq=>?_,D,E,F⟩ g⟩
                    · simp [C,E,F,t5]
                    · rw [List.getElem?_eq_getElem hlt2] at hq;cases hq;omega
                  · refine ⟨fun g=>absurd g.2.2.2.2.2 F,fun _=>?_⟩
                    simp [C,E,F]
                · refine ⟨fun g=>absurd g.2.2.2.2.1 E,fun _=>?_⟩
                  simp [C,E]
            · have K':¬(0:Int) < (k:Int):=by omega
              simp only [A,B,K',D',and_self,decide_true,if_true,if_false,Option.bind_some]
              by_cases E:bJ (c.fParents[k]).fDX
              · by_cases F:bJ (c.fParents[k]).fDY
                · refine ⟨fun _=>?_,fun g=>absurd ⟨A,B,fun q hq _=>absurd hq K,D,E,F⟩ g⟩
                  simp [E,F,t5]
                · refine ⟨fun g=>absurd g.2.2.2.2.2 F,fun _=>?_⟩
                  simp [E,F]
              · refine ⟨fun g=>absurd g.2.2.2.2.1 E,fun _=>?_⟩
                simp [E]
          · have D':vH (c.fParents[k]).fShare≤0:=by omega
            refine ⟨fun g=>absurd g.2.2.2.1 D,fun _=>?_⟩
            by_cases K:0 < k
            · have hlt2:k - 1 < c.fParents.length:=by omega
              have w2:IntKind.i64.wrap ((k:Int) - 1)=((k - 1:Nat):Int):=by rw [wi (by omega)];omega
              have K':(0:Int) < (k:Int):=by omega
              simp only [A,B,K',D',w2,aF hlt2,and_self,decide_true,if_true,if_false,Option.bind_some]
              by_cases C:(c.fParents[k]).fNode≤(c.fParents[k - 1]).fNode <;> simp [C]
            · have K':¬(0:Int) < (k:Int):=by omega
              simp only [A,B,K',D',and_self,decide_true,if_true,if_false,Option.bind_some]
              simp
      · refine ⟨fun g=>absurd g.1 A,fun _=>?_⟩
        simp [A]
    by_cases G:aEm c k c.fParents[k]
    · obtain ⟨s1,s2⟩:=step.1 G
      rw [aQ s1,aQ s2]
      obtain ⟨r,e1,e2,e3⟩:=ih (k+1) (by omega) t t3
      refine ⟨r,e1,e2,?_⟩
      cases r with
      | inl v =>
        refine ⟨e3.1,fun j hj hkj=>?_⟩
        by_cases e:j=k
        · subst e;exact G
        · exact e3.2 j hj (by omega)
      | inr b=>exact e3
    · obtain ⟨s1,s2⟩:=step.2 G
      exact ⟨.inr false,aH s1,aH s2,rfl⟩
theorem aJy:VZ (pZ 0):=.inl (yY 0 (by omega))
theorem aJ5 (c:Conditional) (h:aS c≤4294967296):∃ b,bD c=some b∧fV c=some b∧(b=true→(1≤c.fNode∧c.fNode≤9)∧∀ j (hj:j < c.fParents.length),aEm c j c.fParents[j]):=by
  obtain ⟨hl,hT⟩:=aGH h
  obtain ⟨g1,g2⟩:=yS _ hT
  obtain ⟨r,e1,e2,e3⟩:=aIq c h c.fParents.length 0 (by omega) (pZ 0) aJy
  rw [show ((0:Nat):Int)=0 from rfl] at e1 e2
  unfold bD fV
  rw [bS 0 (by omega),kX 0 (by omega),bS 1 (by omega),kX 1 (by omega)]
  simp only [Option.bind_some,e1,e2,g1,g2,zN]
  by_cases A:1≤c.fNode∧c.fNode≤9
  · have A1:¬c.fNode < 1:=by omega
    have A2:¬10≤c.fNode:=by omega
    by_cases B:0 < vH c.fTotal
    · have B':¬vH c.fTotal≤0:=by omega
      by_cases D:c.fParents.length=0
      · have D1:¬(0:Int) < (c.fParents.length:Int):=by omega
        have D2:(c.fParents.length:Int)=0:=by omega
        refine ⟨false,?_,?_,fun h=>by cases h⟩
        · cases r with
          | inl v=>simp only [A,B,D1,and_self,decide_true,if_true,if_false,Option.bind_some]
          | inr b=>simp only [] at e3;subst e3;rfl
        · simp [A1,A2,B',D2]
      · have D1:(0:Int) < (c.fParents.length:Int):=by omega
        have D2:¬(c.fParents.length:Int)=0:=by omega
        cases r with
        | inl v =>
          obtain ⟨b,hb⟩:=aJj v (pZ 1) (by have:=oJ e3.1;omega)
          refine ⟨b,?_,?_,fun _=>⟨A,fun j hj=>e3.2 j hj (by omega)⟩⟩
          · simp only [A,B,D1,hb,and_self,decide_true,if_true,if_false,Option.bind_some]
          · rw [aFx];simp only [A1,A2,B',D2,hb,decide_false,if_true,if_false,Option.bind_some,Bool.false_eq_true]
        | inr b =>
          simp only [] at e3;subst e3
          refine ⟨false,rfl,?_,fun h=>by cases h⟩
          simp [A1,A2,B',D2]
    · have B':vH c.fTotal≤0:=by omega
      refine ⟨false,?_,?_,fun h=>by cases h⟩
      · cases r with
        | inl v=>simp [A,B]
        | inr b=>simp only [] at e3;subst e3;rfl
      · simp [A1,A2,B']
  · refine ⟨false,?_,?_,fun h=>by cases h⟩
    · cases r with
      | inl v=>simp [A]
      | inr b=>simp only [] at e3;subst e3;rfl
    · by_cases A1:c.fNode < 1
      · simp [A1]
      · have A2:10≤c.fNode:=by omega
        simp [A1,A2]
end Go.Ev
