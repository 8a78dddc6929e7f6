/- Parts PR2, PR3, PV, PR4, PR5, PR6, PR7, PR8, PR9, QA, QB, QC. -/
import Derived.Test.YtlhoochohnnepaaGreatPb1
import Derived.Test.YtlhoochohnnepaaGreatPa1
set_option linter.all false
set_option maxHeartbeats 4000000
set_option maxRecDepth 20000
/- Links: validity, order, merging; adding links to a link set, both programs. -/
namespace Go.Ev
open IntKind
def ValidL (l:Link):Prop:=(0<=l.fA/\l.fA<=9)/\(0<=l.fB/\l.fB<=9)/\l.fA<l.fB/\0<xX l.fWeight/\bM l.fDX/\bM l.fDY
instance (l:Link):Decidable (ValidL l):=by unfold ValidL;infer_instance
theorem gO (l:Link)(h:bW l<=4294967296):eT l=some (decide (ValidL l))/\eZ l=some (decide (ValidL l)):=by
 unfold bW at h
 obtain⟨g1,g2⟩:=aAK l.fWeight (by omega)
 have a1:=aAL l.fDX (by omega)
 have a2:=aAL l.fDY (by omega)
 have b1:=eM l.fDX (by omega)
 have b2:=eM l.fDY (by omega)
 unfold eT eZ ValidL
 simp only[aKk,aCy,g1,g2,a1,a2,b1,b2,aTI]
 by_cases A:0<=l.fA/\l.fA<=9
 · by_cases B:0<=l.fB/\l.fB<=9
   · by_cases C:l.fA<l.fB
     · by_cases D:0<xX l.fWeight
       · by_cases E:bM l.fDX
         · by_cases F:bM l.fDY <;> simp[A,B,C,D,E,F]
         · simp[A,B,C,D,E]
       · simp[A,B,C,D]
     · simp[A,B,C]
   · simp[A,B]
 · simp[A]
theorem ValidL.vz {l:Link}(h:ValidL l):VZ l.fWeight/\VZ l.fDX/\VZ l.fDY:=⟨.inl (aAv h.2.2.2.1),.inl h.2.2.2.2.1,.inl h.2.2.2.2.2⟩
theorem ValidL.sz {l:Link}(h:ValidL l):bW l<=144:=by
 obtain⟨h1,h2,h3⟩:=h.vz
 have:=mL h1
 have:=mL h2
 have:=mL h3
 unfold bW;omega
theorem aEq {α:Type}{w:α->Nat}{c:Nat}:∀ {l:List α},(∀ x∈l,w x<=c)->szL w l<=(c+1)*l.length
 | [],_=>by simp[aIF]
 | y::l,h=>by
  have h1:=h y (by simp)
  have h2:=aEq (l:=l) (c:=c) (fun x hx=>h x (by simp[hx]))
  rw[oP,aUh,aU5,Nat.mul_one];omega
def fI (k l:Link):Prop:=k.fA<l.fA\/(k.fA=l.fA/\k.fB<l.fB)
instance (k l:Link):Decidable (fI k l):=by unfold fI;infer_instance
theorem aHr (k l:Link):nY k l=some (decide (fI k l)):=by
 unfold nY fI
 by_cases A:k.fA<l.fA
 · simp[A]
 · by_cases B:k.fA=l.fA
   · simp[A,B]
   · simp[A,B]
theorem aKP (k l:Link):kJ k l=some (decide (fI k l)):=aHr k l
theorem aB0 {a b c:Link}(h:fI a b)(g:fI b c):fI a c:=by unfold fI at *;omega
noncomputable def sqR (x y:Rat):Rat:=RA (RM x x) (RM y y)
noncomputable def aBA (k l:Link):Link:=⟨k.fA,k.fB,RA k.fWeight l.fWeight,RD (RA (RM k.fWeight k.fDX) (RM l.fWeight l.fDX)) (RA k.fWeight l.fWeight),RD (RA (RM k.fWeight k.fDY) (RM l.fWeight l.fDY)) (RA k.fWeight l.fWeight)⟩
noncomputable def aED (k l:Link):Rat:=RM (RD (RM k.fWeight l.fWeight) (RA k.fWeight l.fWeight)) (sqR (RS k.fDX l.fDX) (RS k.fDY l.fDY))
def zW (k l:Link):Prop:=bM (aBA k l).fWeight/\bM (aBA k l).fDX/\bM (aBA k l).fDY/\bM (aED k l)
noncomputable instance (k l:Link):Decidable (zW k l):=by unfold zW;infer_instance
def aHM:Link:=Link.mk 0 0 (Rat.mk (BigInt.mk false ([])) ([])) (Rat.mk (BigInt.mk false ([])) ([])) (Rat.mk (BigInt.mk false ([])) ([]))
theorem aSX {x y:Rat}(hx:VZ x)(hy:VZ y):oR x y=some (sqR x y)/\jH x y=some (sqR x y)/\VZ (sqR x y):=by
 obtain⟨a1,a2,a3⟩:=aES hx hx
 obtain⟨b1,b2,b3⟩:=aES hy hy
 obtain⟨c1,c2,c3⟩:=aBC a3 b3
 unfold oR jH sqR
 simp only[a1,a2,b1,b2,c1,c2,aTI]
 exact⟨trivial,trivial,c3⟩
theorem aJ9 {k l:Link}(hk:ValidL k)(hl:ValidL l)(h:zW k l):ValidL (aBA k l) :=
 ⟨hk.1,hk.2.1,hk.2.2.1,aSx hk.2.2.2.1 hl.2.2.2.1 h.1,h.2.1,h.2.2.1⟩
theorem aMx {k l:Link}(hk:ValidL k)(hl:ValidL l)(hA:k.fA=l.fA)(hB:k.fB=l.fB) :
 oT k l=some (if zW k l then(aBA k l,aED k l,true)else(aHM,oO,false))/\pC k l=some (if zW k l then(aBA k l,aED k l,true)else(aHM,oO,false))/\VZ (aED k l):=by
 obtain⟨k1,k2,k3⟩:=hk.vz
 obtain⟨l1,l2,l3⟩:=hl.vz
 obtain⟨a1,a2,a3⟩:=aBC k1 l1
 obtain⟨b1,b2,b3⟩:=aES k1 k2
 obtain⟨c1,c2,c3⟩:=aES l1 l2
 obtain⟨d1,d2,d3⟩:=aBC b3 c3
 obtain⟨e1,e2,e3⟩:=aFC d3 a3
 obtain⟨f1,f2,f3⟩:=aES k1 k3
 obtain⟨g1,g2,g3⟩:=aES l1 l3
 obtain⟨i1,i2,i3⟩:=aBC f3 g3
 obtain⟨j1,j2,j3⟩:=aFC i3 a3
 obtain⟨m1,m2,m3⟩:=aES k1 l1
 obtain⟨n1,n2,n3⟩:=aFC m3 a3
 obtain⟨o1,o2,o3⟩:=aHK k2 l2
 obtain⟨p1,p2,p3⟩:=aHK k3 l3
 obtain⟨q1,q2,q3⟩:=aSX o3 p3
 obtain⟨r1,r2,r3⟩:=aES n3 q3
 have v1:=(gO k (by have:=hk.sz;omega)).1
 have v2:=(gO l (by have:=hl.sz;omega)).1
 have vm:=(gO (aBA k l) (by
  have:=mL a3;have:=mL e3;have:=mL j3
  unfold bW aBA;simp only[];omega)).1
 refine⟨?_,?_,r3⟩
 · unfold oT
   rw[v1,v2,aTN hk,aTN hl]
   simp only[aTI,aT3,hA,hB,ne_eq,not_true_eq_false,aT9,aV9,aTP]
   simp only[a1,b1,c1,d1,e1,f1,g1,i1,j1,m1,n1,o1,p1,q1,r1,aTI]
   rw[<- hA,<- hB]
   have e:(Link.mk k.fA k.fB (RA k.fWeight l.fWeight) (RD (RA (RM k.fWeight k.fDX) (RM l.fWeight l.fDX)) (RA k.fWeight l.fWeight)) (RD (RA (RM k.fWeight k.fDY) (RM l.fWeight l.fDY)) (RA k.fWeight l.fWeight)))=aBA k l:=rfl
   rw[e,vm]
   have e2:RM (RD (RM k.fWeight l.fWeight) (RA k.fWeight l.fWeight)) (sqR (RS k.fDX l.fDX) (RS k.fDY l.fDY))=aED k l:=rfl
   rw[e2,eM (aED k l) (VZs r3)]
   simp only[aTI]
   by_cases O:zW k l
   · rw[aTK O,aTN (aJ9 hk hl O),aTN O.2.2.2];rfl
   · rw[aTJ O]
     by_cases V:ValidL (aBA k l)
     · have:¬bM (aED k l):=fun h=>O ⟨aAv V.2.2.2.1,V.2.2.2.2.1,V.2.2.2.2.2,h⟩
       rw[aTN V,aTL this];rfl
     · rw[aTL V];rfl
 · unfold pC
   simp only[a2,b2,c2,d2,e2,f2,g2,i2,j2,m2,n2,o2,p2,q2,r2,aTI,iQ a3,iQ e3,iQ j3,iQ r3]
   unfold zW aBA aED
   simp only[]
   by_cases A:bM (RA k.fWeight l.fWeight)
   · by_cases B:bM (RD (RA (RM k.fWeight k.fDX) (RM l.fWeight l.fDX)) (RA k.fWeight l.fWeight))
     · by_cases C:bM (RD (RA (RM k.fWeight k.fDY) (RM l.fWeight l.fDY)) (RA k.fWeight l.fWeight))
       · by_cases D:bM (RM (RD (RM k.fWeight l.fWeight) (RA k.fWeight l.fWeight)) (sqR (RS k.fDX l.fDX) (RS k.fDY l.fDY))) <;> simp[A,B,C,D,aHM,oO]
       · simp[A,B,C,aHM,oO]
     · simp[A,B,aHM,oO]
   · simp[A,aHM,oO]
def LSet (s:List Link):Prop:=(∀ x∈s,ValidL x)/\s.Pairwise fI
noncomputable instance (s:List Link):Decidable (LSet s):=Classical.propDecidable _
theorem aMD:∀ (l:List Int) (a N:Int),l.Pairwise (· < ·)->(∀ x∈l,a<=x/\x<N)->(l.length:Int)<=max 0 (N-a)
 | [],a,N,_,_=>by rw[aUV];omega
 | x::l,a,N,h,hb=>by
  rw[aUp]at h
  have h1:=hb x (by simp)
  have:=aMD l (x+1) N h.2 (fun y hy=>⟨by have:=h.1 y hy;omega,(hb y (by simp[hy])).2⟩)
  rw[aUh];omega
theorem LSet.len {s:List Link}(h:LSet s):s.length<=100:=by
 have:=aMD (s.map fun l=>l.fA*10+l.fB) 0 100 (by
  rw[aVa]
  refine List.Pairwise.imp_of_mem (fun {a b} ha hb hr=>?_) h.2
  have h1:=h.1 a ha
  have h2:=h.1 b hb
  unfold ValidL at h1 h2
  unfold fI at hr
  omega) (by
  intro x hx
  obtain⟨l,hl,rfl⟩:=aT5.1 hx
  have h1:=h.1 l hl
  unfold ValidL at h1
  omega)
 rw[aTZ]at this;omega
theorem aCn {s:List Link}(h:∀ x∈s,ValidL x):aK s<=145*s.length:=aEq (fun x hx=>(h x hx).sz)
theorem LSet.sz {s:List Link}(h:LSet s):aK s<=14500:=by
 have:=aCn h.1
 have:=h.len
 omega
def lsF:Option Link->List Link->Prop
 | _,[]=>True
 | p,x::r=>ValidL x/\(∀ q,p=some q->fI q x)/\lsF (some x) r
noncomputable instance (p:Option Link)(s:List Link):Decidable (lsF p s):=Classical.propDecidable _
theorem aMy:∀ (s:List Link) (p:Option Link),lsF p s↔LSet s/\∀ q,p=some q->∀ x∈s,fI q x
 | [],p=>by simp[lsF,LSet]
 | x::r,p=>by
  rw[lsF,aMy r (some x)]
  unfold LSet
  rw[aUp]
  constructor
  · rintro⟨h1,h2,⟨h3,h4⟩,h5⟩
    refine⟨⟨fun y hy=>?_,fun y hy=>h5 x rfl y hy,h4⟩,fun q hq y hy=>?_⟩
    · rcases aTM.1 hy with rfl | hy
      · exact h1
      · exact h3 y hy
    · rcases aTM.1 hy with rfl | hy
      · exact h2 q hq
      · exact aB0 (h2 q hq) (h5 x rfl y hy)
  · rintro⟨⟨h1,h2,h3⟩,h4⟩
    exact⟨h1 x (by simp),fun q hq=>h4 q hq x (by simp),⟨fun y hy=>h1 y (by simp[hy]),h3⟩,fun q hq y hy=>by cases hq;exact h2 y hy⟩
theorem mB (s:List Link)(h:aK s<=4294967296):dR s=some (decide (LSet s)):=by
 unfold aK at h
 have hl:=jW bW s
 have main:∀ m k:Nat,m+k=s.length->∀ p:Option Link,(p=if k=0 then none else s[k-1]?)->lp (fH s) (k:Int)=some (if lsF p (s.drop k)then .inl ()else .inr false):=by
  intro m
  induction m with
  | zero =>
   intro k hk p _
   rw[aUe (by omega),aTK (by simp[lsF])]
   exact aJ (by unfold fH;rw[aTJ (by omega)])
  | succ m ih =>
   intro k hk p hp
   have hlt:k<s.length:=by omega
   have hz:=qB (w:=bW) (aT2 hlt)
   have v:=(gO s[k] (by omega)).1
   rw[aTQ hlt]
   have st:fH s (k:Int)=some (if ValidL s[k]/\(∀ q,p=some q->fI q s[k])then .inl ((k+1:Nat):Int)else .inr (.inr false)):=by
    have w1:i64.wrap ((k:Int)+1)=((k+1:Nat):Int):=by rw[wi (by omega)];omega
    unfold fH
    rw[aTK (by omega),aM hlt]
    simp only[aTI,v,w1]
    by_cases V:ValidL s[k]
    · rw[aTN V,aTK rfl]
      by_cases K:k=0
      · subst K
        rw[aTK rfl]at hp;subst hp
        simp[V]
      · have hlt2:k-1<s.length:=by omega
        rw[aTJ K,aTS hlt2]at hp;subst hp
        have w2:i64.wrap ((k:Int)-1)=((k-1:Nat):Int):=by rw[wi (by omega)];omega
        rw[aTK (by omega),w2,aM hlt2]
        simp only[aTI,aHr]
        by_cases L:fI s[k-1] s[k]
        · simp[V,L]
        · simp[L]
    · rw[aTL V];simp[V]
   by_cases G:ValidL s[k]/\(∀ q,p=some q->fI q s[k])
   · rw[aTK G]at st
     rw[aS st,ih (k+1) (by omega) (some s[k]) (by rw[aTJ (by omega),Nat.add_sub_cancel,aTS hlt])]
     have:lsF p (s[k]::s.drop (k+1))↔lsF (some s[k]) (s.drop (k+1)):=by rw[lsF];exact⟨fun h=>h.2.2,fun h=>⟨G.1,G.2,h⟩⟩
     simp only[this]
   · rw[aTJ G]at st
     rw[aJ st,aTJ]
     rw[lsF];exact fun h=>G ⟨h.1,h.2.1⟩
 have:=main s.length 0 (by omega) none (by simp)
 unfold dR
 rw[show((0:Nat):Int)=0 from rfl,aUD]at this
 rw[this]
 have e:lsF none s↔LSet s:=by rw[aMy];exact⟨fun h=>h.1,fun h=>⟨h,fun q hq=>by cases hq⟩⟩
 by_cases c:LSet s
 · rw[aTK (e.2 c),aTN c];rfl
 · rw[aTJ (fun h=>c (e.1 h)),aTL c];rfl
def eB (l:Link):List Link->Nat
 | []=>0
 | y::r=>if fI y l then eB l r+1 else 0
theorem aMj (l:Link):∀ s:List Link,eB l s<=s.length
 | []=>aTU _
 | y::r=>by
  have:=aMj l r
  rw[eB];split <;> simp <;> omega
theorem aEA (l:Link):∀ s:List Link,∀ x∈s.take (eB l s),fI x l
 | [],x,h=>by simp[eB]at h
 | y::r,x,h=>by
  rw[eB]at h
  by_cases c:fI y l
  · rw[aTK c,aVM]at h
    rcases aTM.1 h with rfl | h
    · exact c
    · exact aEA l r x h
  · rw[aTJ c]at h;simp at h
theorem aCs (l:Link):∀ (s:List Link) (h:eB l s<s.length),¬fI s[eB l s] l
 | [],h=>by simp at h
 | y::r,h=>by
  by_cases c:fI y l
  · have e:eB l (y::r)=eB l r+1:=by rw[eB,aTK c]
    have h':eB l r<r.length:=by rw[e]at h;simpa using h
    have:=aCs l r h'
    simpa [e]using this
  · have e:eB l (y::r)=0:=by rw[eB,aTJ c]
    simpa [e]using c
theorem aOC (s:List Link)(l:Link)(h:s.length<=4294967296):lp (gX l s) 0=some ((eB l s:Nat):Int):=by
 have main:∀ m k:Nat,m+k=s.length->lp (gX l s) (k:Int)=some ((k+eB l (s.drop k):Nat):Int):=by
  intro m
  induction m with
  | zero =>
   intro k hk
   rw[aUe (by omega)]
   refine aJ ?_
   unfold gX
   rw[aTJ (by omega)];rfl
  | succ m ih =>
   intro k hk
   have hlt:k<s.length:=by omega
   have w1:i64.wrap ((k:Int)+1)=((k+1:Nat):Int):=by rw[wi (by omega)];omega
   rw[aTQ hlt,eB]
   have st:gX l s (k:Int)=some (if fI s[k] l then .inl ((k+1:Nat):Int)else .inr (k:Int)):=by
    unfold gX
    rw[aTK (by omega),aM hlt]
    simp only[aTI,aHr,w1]
    by_cases L:fI s[k] l <;> simp[L]
   by_cases L:fI s[k] l
   · rw[aTK L]at st ⊢
     rw[aS st,ih (k+1) (by omega)]
     congr 2;omega
   · rw[aTJ L]at st ⊢
     rw[aJ st];rfl
 have:=main s.length 0 (by omega)
 simpa using this
noncomputable def aBn (s:List Link)(l:Link):Option (List Link×Rat) :=
 if h:eB l s<s.length then
  if fI l s[eB l s]then some (s.take (eB l s)++[l]++s.drop (eB l s),sF 0)
  else if zW s[eB l s] l then some (s.take (eB l s)++[aBA s[eB l s] l]++s.drop (eB l s+1),aED s[eB l s] l)else none
 else some (s.take (eB l s)++[l]++s.drop (eB l s),sF 0)
def pk:Option (List Link×Rat)->List Link×Rat×Bool
 | some (s,e)=>(s,e,true)
 | none=>([],oO,false)
theorem aHt {s:List Link}{m:Link}{p q:Nat}(hs:LSet s)(hm:ValidL m)(h1:∀ x∈s.take p,fI x m)(h2:∀ y∈s.drop q,fI m y):LSet (s.take p++[m]++s.drop q):=by
 refine⟨fun x hx=>?_,?_⟩
 · rw[aTR,aTR,aUA]at hx
   rcases hx with(hx | rfl) | hx
   · exact hs.1 x (aWu hx)
   · exact hm
   · exact hs.1 x (aWv hx)
 · rw[aT0,aVf]
   refine⟨hs.2.sublist (List.take_sublist _ _),?_,fun a ha b hb=>?_⟩
   · rw[aUP,aUp]
     exact⟨h2,hs.2.sublist (List.drop_sublist _ _)⟩
   · rw[aUP]at hb
     rcases aTM.1 hb with rfl | hb
     · exact h1 a ha
     · exact aB0 (h1 a ha) (h2 b hb)
theorem aRW {s:List Link}(h:s.Pairwise fI){p:Nat}(hp:p<s.length):(∀ x∈s.take p,fI x s[p])/\∀ y∈s.drop (p+1),fI s[p] y:=by
 have e:s=s.take p++(s[p]::s.drop (p+1)):=by rw[<- aTQ hp,aUx]
 rw[e,aVf,aUp]at h
 exact⟨fun x hx=>h.2.2 x hx _ aWh,h.2.1.1⟩
theorem aJm {s:List Link}{l:Link}(hs:LSet s)(hl:ValidL l){s':List Link}{e:Rat}(h:aBn s l=some (s',e)):LSet s'/\VZ e:=by
 unfold aBn at h
 have z:VZ (sF 0):=.inl (aA1 0 (by omega))
 by_cases c:eB l s<s.length
 · rw[aVU c]at h
   obtain⟨g1,g2⟩:=aRW hs.2 c
   by_cases c2:fI l s[eB l s]
   · rw[aTK c2]at h;cases h
     refine⟨aHt hs hl (aEA l s) (fun y hy=>?_),z⟩
     rw[aTQ c]at hy
     rcases aTM.1 hy with rfl | hy
     · exact c2
     · exact aB0 c2 (g2 y hy)
   · rw[aTJ c2]at h
     have hv:=hs.1 _ (aT2 c)
     have nl:=aCs l s c
     have hA:s[eB l s].fA=l.fA/\s[eB l s].fB=l.fB:=by unfold fI at c2 nl;omega
     by_cases O:zW s[eB l s] l
     · rw[aTK O]at h;cases h
       exact⟨aHt hs (aJ9 hv hl O) g1 g2,(aMx hv hl hA.1 hA.2).2.2⟩
     · rw[aTJ O]at h;cases h
 · rw[aVV c]at h;cases h
   refine⟨aHt hs hl (aEA l s) (fun y hy=>?_),z⟩
   rw[aUe (by omega)]at hy;cases hy
theorem aJn (s:List Link)(l:Link):xO s l=gX l s:=rfl
theorem wC {α:Type}(x:α):aX x=some x:=rfl
theorem aIy {s:List Link}{l:Link}(hs:LSet s)(hl:ValidL l):oA s l=some (pk (aBn s l))/\uS s l=some (pk (aBn s l)):=by
 have hlen:=hs.len
 have hp:=aMj l s
 have v:=(gO l (by have:=hl.sz;omega)).1
 have i1:=mB s (by have:=hs.sz;omega)
 have c1:=aCP s (by have:=hs.sz;omega)
 have c2:=uE l (by have:=hl.sz;omega)
 have lp1:=aOC s l (by omega)
 have rf1:cM 0=some (sF 0):=bY 0 (by omega)
 have rf2:bS 0=some (sF 0):=dJ 0 (by omega)
 have s1:sub s 0 ((eB l s:Nat):Int)=some (s.take (eB l s)):=by rw[qC _ _ _ (by omega)];simp
 have s2:sub s ((eB l s:Nat):Int) (s.length:Int)=some (s.drop (eB l s)):=by
  rw[qC _ _ _ (by omega)];congr 1
  rw[aUz];rfl
  rw[aUR];omega
 have t1:(s.take (eB l s)).length<=100:=by rw[aUo];omega
 have t2:(s.drop (eB l s)).length<=100:=by rw[aUR];omega
 unfold oA uS aBn
 rw[aJn,i1,v,aTN hs,aTN hl,lp1]
 simp only[aTI,aT3,aUL,aTP,aT9,c1,lp1,s1,s2,wC,aTO]
 rw[aN (by simp only[aUV,aUg];omega)]
 simp only[aTI]
 by_cases c:eB l s<s.length
 · have c':((eB l s:Nat):Int)<(s.length:Int):=by omega
   have c'':¬((eB l s:Nat):Int)=(s.length:Int):=by omega
   rw[aTK c',aTJ c'',aVU c,aM c]
   simp only[aTI,aHr,aKP]
   by_cases L:fI l s[eB l s]
   · rw[aTK L,aTN L]
     simp only[aUL,aTP,aT9,aT3,c2,aTI,rf1,rf2]
     rw[aN (by omega)]
     simp only[aTI]
     rw[aN (by rw[aT4,aUr];omega)]
     exact⟨rfl,rfl⟩
   · rw[aTJ L,aTL L]
     have hv:=hs.1 _ (aT2 c)
     have nl:=aCs l s c
     have hA:s[eB l s].fA=l.fA/\s[eB l s].fB=l.fB:=by unfold fI at L nl;omega
     obtain⟨m1,m2,m3⟩:=aMx hv hl hA.1 hA.2
     simp only[aV3,aT3,aTP,aT9,m1,m2,aTI]
     by_cases O:zW s[eB l s] l
     · rw[aTK O,aTK O]
       have w1:i64.wrap (((eB l s:Nat):Int)+1)=((eB l s+1:Nat):Int):=by rw[wi (by omega)];omega
       have s3:sub s ((eB l s+1:Nat):Int) (s.length:Int)=some (s.drop (eB l s+1)):=by
        rw[qC _ _ _ (by omega)];congr 1
        rw[aUz];rfl
        rw[aUR];omega
       have t3:(s.drop (eB l s+1)).length<=100:=by rw[aUR];omega
       simp only[aT3,w1,s3,aTI,jO]
       rw[aN (by omega)]
       simp only[aTI]
       rw[aN (by rw[aT4,aUr];omega)]
       refine⟨?_,rfl⟩
       simp only[pk]
       rw[List.set_eq_take_append_cons_drop,aTK c,aT0,aUP]
     · rw[aTJ O,aTJ O]
       exact⟨rfl,rfl⟩
 · have c':¬((eB l s:Nat):Int)<(s.length:Int):=by omega
   have c'':((eB l s:Nat):Int)=(s.length:Int):=by omega
   rw[aTJ c',aTK c'',aVV c]
   simp only[aTI,aTP,aT9,aT3,c2,rf1,rf2]
   rw[aN (by omega)]
   simp only[aTI]
   rw[aN (by rw[aT4,aUr];omega)]
   exact⟨rfl,rfl⟩
/- Joining links into a link set, both programs. -/
theorem aSy {r s:Rat}(hr:VZ r)(hs:VZ s)(h:¬bM r):RA r s=oO:=by
 have q:=(aBC hr hs).1
 unfold dM at q
 rw[eM r (VZs hr),aTL h]at q
 simpa [oO]using q.symm
noncomputable def vH:List Link->List Link->Rat->Option (List Link×Rat)
 | [],s,e=>some (s,e)
 | x::r,s,e=>match aBn s x with
  | none=>none
  | some (s',e')=>if bM (RA e e')then vH r s' (RA e e')else none
theorem aKj:∀ (l s:List Link) (e:Rat),(∀ x∈l,ValidL x)->LSet s->bM e->∀ s' e',vH l s e=some (s',e')->LSet s'/\bM e'
 | [],s,e,_,hs,he,s',e',h=>by rw[vH]at h;cases h;exact⟨hs,he⟩
 | x::r,s,e,hv,hs,he,s',e',h=>by
  rw[vH]at h
  cases ha:aBn s x with
  | none=>rw[ha]at h;cases h
  | some t =>
   obtain⟨s1,e1⟩:=t
   rw[ha]at h
   simp only[]at h
   obtain⟨g1,g2⟩:=aJm hs (hv x (by simp)) ha
   by_cases c:bM (RA e e1)
   · rw[aTK c]at h
     exact aKj r s1 _ (fun y hy=>hv y (by simp[hy])) g1 c s' e' h
   · rw[aTJ c]at h;cases h
noncomputable instance (l:List Link):Decidable (∀ x∈l,ValidL x):=Classical.propDecidable _
def aC4:List Link×Rat×Bool:=([],oO,false)
theorem aLu (l:List Link)(hv:∀ x∈l,ValidL x)(hl:l.length<=4294967296):∀ m k:Nat,m+k=l.length->∀ s e,LSet s->VZ e->
 lp (gT l) (s,(k:Int),e)=some (match vH (l.drop k) s e with | some t=>.inl t | none=>.inr aC4):=by
 intro m
 induction m with
 | zero =>
  intro k hk s e hs he
  rw[aUe (by omega),vH]
  exact aJ (by unfold gT;simp only[];rw[aTJ (by omega)])
 | succ m ih =>
  intro k hk s e hs he
  have hlt:k<l.length:=by omega
  have hx:=hv _ (aT2 hlt)
  have w1:IntKind.i64.wrap ((k:Int)+1)=((k+1:Nat):Int):=by rw[wi (by omega)];omega
  have a:=(aIy hs hx).2
  rw[aTQ hlt,vH]
  cases ha:aBn s l[k]with
  | none =>
   rw[ha]at a
   have g:=(aBC he aCM).2.1
   refine aJ ?_
   unfold gT
   simp only[]
   rw[aTK (by omega),aM hlt]
   simp only[aTI,a,pk,g]
   rfl
  | some t =>
   obtain⟨s1,e1⟩:=t
   rw[ha]at a
   obtain⟨g1,g2⟩:=aJm hs hx ha
   obtain⟨_,q2,q3⟩:=aBC he g2
   have st:gT l (s,(k:Int),e)=some (if bM (RA e e1)then .inl (s1,((k+1:Nat):Int),RA e e1)else .inr (.inr aC4)):=by
    unfold gT
    simp only[]
    rw[aTK (by omega),aM hlt]
    simp only[aTI,a,pk,q2,iQ q3,aT3,w1]
    by_cases c:bM (RA e e1)
    · simp[c]
    · simp[c,aC4,oO]
   simp only[]
   by_cases c:bM (RA e e1)
   · rw[aTK c]at st ⊢
     rw[aS st]
     exact ih (k+1) (by omega) s1 _ g1 q3
   · rw[aTJ c]at st ⊢
     rw[aJ st]
def aPs:(List Link×Rat) ⊕ (List Link×Rat×Bool)->List Link×Rat×Bool
 | .inl d=>if bM d.2 then(d.1,d.2,true)else aC4
 | .inr x=>x
theorem aLt (l:List Link)(hz:aK l<=4294967296):∀ m k:Nat,m+k=l.length->∀ s e,LSet s->VZ e->
 ∃ R,lp (fG l) (s,(k:Int),e)=some R/\(∀ d,R=.inl d->VZ d.2)/\aPs R=pk (if bM e/\(∀ x∈l.drop k,ValidL x)then vH (l.drop k) s e else none):=by
 have hl:l.length<=4294967296:=by have:=jW bW l;unfold aK at hz;omega
 intro m
 induction m with
 | zero =>
  intro k hk s e hs he
  refine⟨.inl (s,e),aJ (by unfold fG;simp only[];rw[aTJ (by omega)]),fun d h=>(by cases h;exact he),?_⟩
  rw[aUe (by omega),vH]
  by_cases c:bM e
  · simp[aPs,pk,c]
  · simp[aPs,pk,c,aC4]
 | succ m ih =>
  intro k hk s e hs he
  have hlt:k<l.length:=by omega
  have w1:IntKind.i64.wrap ((k:Int)+1)=((k+1:Nat):Int):=by rw[wi (by omega)];omega
  have hxz:bW l[k]<=4294967296:=by have:=qB (w:=bW) (aT2 hlt);unfold aK at hz;omega
  rw[aTQ hlt]
  by_cases hx:ValidL l[k]
  · have a:=(aIy hs hx).1
    rw[vH]
    cases ha:aBn s l[k]with
    | none =>
     rw[ha]at a
     refine⟨.inr aC4,aJ ?_,fun d h=>(by cases h),?_⟩
     · unfold fG
       simp only[]
       rw[aTK (by omega),aM hlt]
       simp only[aTI,a,pk]
       rfl
     · simp[aPs,pk,aC4]
    | some t =>
     obtain⟨s1,e1⟩:=t
     rw[ha]at a
     obtain⟨g1,g2⟩:=aJm hs hx ha
     obtain⟨q1,_,q3⟩:=aBC he g2
     have st:fG l (s,(k:Int),e)=some (.inl (s1,((k+1:Nat):Int),RA e e1)):=by
      unfold fG
      simp only[]
      rw[aTK (by omega),aM hlt]
      simp only[aTI,a,pk,q1,aT3,w1]
     obtain⟨R,r1,r2,r3⟩:=ih (k+1) (by omega) s1 _ g1 q3
     refine⟨R,by rw[aS st];exact r1,r2,?_⟩
     rw[r3]
     simp only[]
     by_cases c:bM e
     · by_cases c2:bM (RA e e1)
       · have:(∀ x∈l[k]::l.drop (k+1),ValidL x)↔(∀ x∈l.drop (k+1),ValidL x):=⟨fun h x hx'=>h x (aUv _ hx'),fun h x hx'=>by rcases aTM.1 hx' with rfl | h';exact hx;exact h x h'⟩
         simp only[c,c2,true_and,aT3,this]
       · simp only[c,c2,true_and,false_and,aT9,ite_self]
     · have c2:¬bM (RA e e1):=by rw[aSy he g2 c];exact aBE
       simp only[c,c2,false_and,aT9]
  · refine⟨.inr aC4,aJ ?_,fun d h=>(by cases h),?_⟩
    · unfold fG
      simp only[]
      rw[aTK (by omega),aM hlt]
      have a:oA s l[k]=some aC4:=by
       unfold oA
       rw[mB s (by have:=hs.sz;omega),(gO l[k] hxz).1,aTN hs,aTL hx]
       rfl
      simp only[aTI,a,aC4]
      rfl
    · rw[aTJ (fun h=>hx (h.2 _ aWh))];rfl
theorem aIB (l:List Link)(hz:aK l<=4294967296):oZ l=some (decide (∀ x∈l,ValidL x)):=by
 have hl:l.length<=4294967296:=by have:=jW bW l;unfold aK at hz;omega
 have main:∀ m k:Nat,m+k=l.length->lp (iF l) (k:Int)=some (if(∀ x∈l.drop k,ValidL x)then .inl ()else .inr false):=by
  intro m
  induction m with
  | zero =>
   intro k hk
   rw[aUe (by omega),aTK (by simp)]
   exact aJ (by unfold iF;rw[aTJ (by omega)])
  | succ m ih =>
   intro k hk
   have hlt:k<l.length:=by omega
   have w1:IntKind.i64.wrap ((k:Int)+1)=((k+1:Nat):Int):=by rw[wi (by omega)];omega
   have v:=(gO l[k] (by have:=qB (w:=bW) (aT2 hlt);unfold aK at hz;omega)).2
   have st:iF l (k:Int)=some (if ValidL l[k]then .inl ((k+1:Nat):Int)else .inr (.inr false)):=by
    unfold iF
    rw[aTK (by omega),aM hlt]
    simp only[aTI,v,w1]
    by_cases c:ValidL l[k] <;> simp[c]
   rw[aTQ hlt]
   by_cases c:ValidL l[k]
   · rw[aTK c]at st
     rw[aS st,ih (k+1) (by omega)]
     have:(∀ x∈l[k]::l.drop (k+1),ValidL x)↔(∀ x∈l.drop (k+1),ValidL x):=⟨fun h x hx'=>h x (aUv _ hx'),fun h x hx'=>by rcases aTM.1 hx' with rfl | h';exact c;exact h x h'⟩
     simp only[this]
   · rw[aTJ c]at st
     rw[aJ st,aTJ (fun h=>c (h _ aWh))]
 have:=main l.length 0 (by omega)
 unfold oZ
 rw[show((0:Nat):Int)=0 from rfl,aUD]at this
 rw[this]
 by_cases c:∀ x∈l,ValidL x
 · rw[aTK c,aTN c];rfl
 · rw[aTJ c,aTL c];rfl
theorem aCm:LSet []:=⟨by simp,List.Pairwise.nil⟩
theorem aCq:bM (sF 0):=aA1 0 (by omega)
noncomputable def jnP (l:List Link):Option (List Link×Rat):=if ∀ x∈l,ValidL x then vH l [] (sF 0)else none
theorem aB4 {l s:List Link}{e:Rat}(h:jnP l=some (s,e)):(∀ x∈l,ValidL x)/\LSet s/\bM e:=by
 unfold jnP at h
 by_cases c:∀ x∈l,ValidL x
 · rw[aTK c]at h
   exact⟨c,aKj l [] _ c aCm aCq s e h⟩
 · rw[aTJ c]at h;cases h
theorem aB3 {l:List Link}(hv:∀ x∈l,ValidL x)(hl:l.length<=4294967296):kX l=some (pk (jnP l)):=by
 unfold kX jnP
 rw[dJ 0 (by omega),aTK hv]
 simp only[aTI]
 have:=aLu l hv hl l.length 0 (by omega) [] (sF 0) aCm (.inl aCq)
 rw[show((0:Nat):Int)=0 from rfl,aUD]at this
 rw[this]
 cases vH l [] (sF 0)with
 | none=>rfl
 | some t=>rfl
theorem aAd (l:List Link)(hz:aK l<=4294967296):eH l=some (pk (jnP l))/\rL l=some (pk (jnP l)):=by
 have hl:l.length<=4294967296:=by have:=jW bW l;unfold aK at hz;omega
 constructor
 · unfold eH
   rw[bY 0 (by omega)]
   simp only[aTI]
   obtain⟨R,r1,r2,r3⟩:=aLt l hz l.length 0 (by omega) [] (sF 0) aCm (.inl aCq)
   rw[show((0:Nat):Int)=0 from rfl]at r1
   rw[aUD]at r3
   rw[r1]
   have e:(if bM (sF 0)/\(∀ x∈l,ValidL x)then vH l [] (sF 0)else none)=jnP l:=by unfold jnP;simp only[aCq,true_and]
   rw[<- e,<- r3]
   cases R with
   | inl d =>
    simp only[aTI]
    rw[eM d.2 (VZs (r2 d rfl))]
    simp only[aTI,aPs]
    by_cases c:bM d.2
    · rw[aTN c,aTK c];rfl
    · rw[aTL c,aTJ c];rfl
   | inr x=>rfl
 · unfold rL
   rw[aIB l hz]
   simp only[aTI]
   by_cases c:∀ x∈l,ValidL x
   · rw[aTN c,aTK rfl,aB3 c hl]
     simp only[aTI]
     cases hj:jnP l with
     | none=>rfl
     | some t =>
      obtain⟨s,e⟩:=t
      obtain⟨_,g1,_⟩:=aB4 hj
      simp only[pk,aT3]
      rw[rZ s (by have:=g1.sz;omega)]
      rfl
   · rw[aTL c]
     unfold jnP
     rw[aTJ c];rfl
/- Cliques: their nodes in order. -/
theorem aAT:∀ {a b:List Int},a.Pairwise (· < ·)->b.Pairwise (· < ·)->(∀ x,x∈a↔x∈b)->a=b
 | [],[],_,_,_=>rfl
 | [],y::b,_,_,h=>absurd ((h y).2 (by simp)) (by simp)
 | x::a,[],_,_,h=>absurd ((h x).1 (by simp)) (by simp)
 | x::a,y::b,ha,hb,h=>by
  rw[aUp]at ha hb
  have hxy:x=y:=by
   have h1:=(h x).1 (by simp)
   have h2:=(h y).2 (by simp)
   rcases aTM.1 h1 with e | e
   · exact e
   · rcases aTM.1 h2 with e' | e'
     · exact e'.symm
     · have:=hb.1 x e;have:=ha.1 y e';omega
  subst hxy
  have:a=b:=aAT ha.2 hb.2 (fun z=>by
   constructor
   · intro hz
     have:=(h z).1 (by simp[hz])
     rcases aTM.1 this with e | e
     · subst e;have:=ha.1 z hz;omega
     · exact e
   · intro hz
     have:=(h z).2 (by simp[hz])
     rcases aTM.1 this with e | e
     · subst e;have:=hb.1 z hz;omega
     · exact e)
  rw[this]
def aBz:List Int->Int->List Int
 | [],n=>[n]
 | x::l,n=>if x<n then x::aBz l n else if x=n then x::l else n::x::l
theorem aAx:∀ (l:List Int) (n x:Int),x∈aBz l n↔x=n\/x∈l
 | [],n,x=>by simp[aBz]
 | y::l,n,x=>by
  unfold aBz
  by_cases h1:y<n
  · rw[aTK h1,aTM,aTM,aAx l n x]
    constructor
    · rintro(h | h | h) <;> simp[h]
    · rintro(h | h | h) <;> simp[h]
  · rw[aTJ h1]
    by_cases h2:y=n
    · rw[aTK h2];subst h2;simp
    · rw[aTJ h2];simp
theorem xC:∀ (l:List Int) (n:Int),l.Pairwise (· < ·)->(aBz l n).Pairwise (· < ·)
 | [],n,_=>by simp[aBz]
 | y::l,n,h=>by
  unfold aBz
  rw[aUp]at h
  by_cases h1:y<n
  · rw[aTK h1,aUp]
    exact⟨fun x hx=>by rcases(aAx l n x).1 hx with e | e;omega;exact h.1 x e,xC l n h.2⟩
  · rw[aTJ h1]
    by_cases h2:y=n
    · rw[aTK h2,aUp];exact h
    · rw[aTJ h2,aUp]
      exact⟨fun x hx=>by rcases aTM.1 hx with e | e;omega;have:=h.1 x e;omega,aUp.2 h⟩
theorem aAy:∀ (l:List Int) (n:Int),(aBz l n).length<=l.length+1
 | [],n=>by simp[aBz]
 | y::l,n=>by
  unfold aBz
  split
  · simp[aAy l n]
  · split <;> simp
def oK (l:List Int)(n:Int):Nat:=(l.takeWhile (fun x=>decide (x<n))).length
theorem aLx (l:List Int)(n:Int):oK l n<=l.length:=by
 unfold oK
 induction l with
 | nil=>simp
 | cons x l ih =>
  rw[List.takeWhile_cons]
  split
  · simpa using ih
  · simp
theorem aEc (x:Int)(l:List Int)(n:Int):oK (x::l) n=if x<n then oK l n+1 else 0:=by
 unfold oK
 rw[List.takeWhile_cons]
 by_cases h:x<n <;> simp[h]
theorem aMh:∀ (l:List Int) (n:Int),aBz l n=if l[oK l n]?=some n then l else l.take (oK l n)++[n]++l.drop (oK l n)
 | [],n=>by simp[aBz,oK]
 | x::l,n=>by
  rw[aEc]
  unfold aBz
  by_cases h:x<n
  · rw[aTK h,aTK h,aMh l n]
    simp only[aWi,aVM,aWD]
    split <;> simp
  · rw[aTJ h,aTJ h]
    by_cases h2:x=n <;> simp[h2]
theorem aOw (l:List Int)(n:Int)(h:l.length<=4294967296):lp (gP l n) 0=some ((oK l n:Nat):Int):=by
 have main:∀ m k:Nat,m+k=l.length->lp (gP l n) (k:Int)=some ((k+oK (l.drop k) n:Nat):Int):=by
  intro m
  induction m with
  | zero =>
   intro k hk
   have:k=l.length:=by omega
   subst this
   rw[aJ (r:=(l.length:Int)) (by unfold gP;rw[aTJ (by omega)];rfl),aU3];simp[oK]
  | succ m ih =>
   intro k hk
   have hlt:k<l.length:=by omega
   rw[aTQ hlt,aEc]
   by_cases c:l[k]<n
   · rw[aTK c]
     have e:gP l n (k:Int)=some (.inl ((k:Int)+1)):=by
      unfold gP
      rw[aTK (by omega),aM hlt,wi (by omega)]
      simp[c]
     rw[aS e,show(k:Int)+1=((k+1:Nat):Int)by omega,ih (k+1) (by omega)]
     congr 2;omega
   · rw[aTJ c]
     have e:gP l n (k:Int)=some (.inr (k:Int)):=by
      unfold gP
      rw[aTK (by omega),aM hlt]
      simp[c]
     rw[aJ e];simp
 have:=main l.length 0 (by omega)
 simpa using this
theorem aJT (l:List Int)(n:Int)(h:l.length<=4294967296):nU l n=some (aBz l n):=by
 have hf:=aLx l n
 unfold nU
 rw[aOw l n h,aMh]
 simp only[aTI]
 by_cases hlt:oK l n<l.length
 · rw[aTK (by omega),aM hlt,aTS hlt]
   simp only[aTI,aUQ,Option.some.injEq]
   by_cases c:l[oK l n]=n
   · rw[aTK c,aTK c]
   · rw[aTJ c,aTJ c,qC _ _ _ (by omega),qC _ _ _ (by omega)]
     simp only[aTI,aL,aTO]
     rw[aN (by simp;omega),aN (by simp;omega),aN (by simp;omega)]
     simp only[aTI]
     simp
     rw[aUz (by simp)]
 · have:oK l n=l.length:=by omega
   rw[aTJ (by omega),this,aTJ (by simp)]
   simp only[aTI,aTP,aT9]
   rw[qC _ _ _ (by omega),qC _ _ _ (by omega)]
   simp only[aTI,aL,aTO]
   rw[aN (by simp;omega),aN (by simp;omega),aN (by simp;omega)]
   simp
/- The arms of a node of a link set, both programs. -/
def uJ (v:Int)(l:Link):Int:=if l.fA=v then l.fB else l.fA
def tch (v:Int)(l:Link):Bool:=decide (l.fA=v\/l.fB=v)
noncomputable def aBw (v:Int)(l:Link):l08Arm:=if l.fA=v then⟨l.fB,l.fWeight,RN l.fDX,RN l.fDY⟩else⟨l.fA,l.fWeight,l.fDX,l.fDY⟩
noncomputable def bO (v:Int)(s:List Link):List l08Arm:=(s.filter (tch v)).map (aBw v)
theorem aLP (v:Int)(l:Link):(aBw v l).fnode=uJ v l:=by unfold aBw uJ;split <;> rfl
theorem aH9 {s:List Link}(hs:LSet s)(v:Int):((s.filter (tch v)).map (uJ v)).Pairwise (· < ·):=by
 rw[aVa]
 refine List.Pairwise.imp_of_mem (fun {a b} ha hb hr=>?_) (hs.2.sublist List.filter_sublist)
 rw[aUb]at ha hb
 have h1:=hs.1 a ha.1
 have h2:=hs.1 b hb.1
 have t1:=ha.2
 have t2:=hb.2
 unfold tch at t1 t2
 rw[aUQ]at t1 t2
 unfold ValidL at h1 h2
 unfold fI at hr
 unfold uJ
 split <;> split <;> omega
theorem aR0 {s:List Link}(hs:LSet s)(v:Int):aAX s v=some ((s.filter (tch v)).map (uJ v)):=by
 have hlen:=hs.len
 unfold aAX
 obtain⟨e1,e2⟩:=lW (step:=tI s v) s (fun k t=>(t,(k:Int))) (fun t l=>if tch v l then aBz t (uJ v l)else t) (fun t=>t)
  (fun k t=>t.length<=k/\t.Pairwise (· < ·)/\∀ x,x∈t↔x∈((s.take k).filter (tch v)).map (uJ v)) (fun k t hk hI=>by
   obtain⟨i1,i2,i3⟩:=hI
   have hv:=hs.1 _ (aT2 hk)
   have w1:IntKind.i64.wrap ((k:Int)+1)=((k+1:Nat):Int):=by rw[wi (by omega)];omega
   refine⟨?_,?_,?_,?_⟩
   · unfold tI
     simp only[]
     rw[aTK (by omega),aM hk]
     unfold ValidL at hv
     simp only[aTI,aJT t _ (by omega:t.length<=4294967296),w1]
     by_cases A:(s[k]).fA=v
     · have B:¬(s[k]).fB=v:=by omega
       simp[A,B,tch,uJ]
     · by_cases B:(s[k]).fB=v
       · rw[aTJ A]
         simp only[aTI]
         rw[aTK B,aJT t _ (by omega:t.length<=4294967296)]
         simp[A,B,tch,uJ]
       · simp[A,B,tch,uJ]
   · have:=aAy t (uJ v s[k])
     split <;> omega
   · split
     · exact xC _ _ i2
     · exact i2
   · intro x
     have tk:s.take (k+1)=s.take k++[s[k]]:=by rw[aVH,aTS hk];rfl
     rw[tk,aVT,aUF,aTR,<- i3 x]
     by_cases T:tch v s[k]=true
     · simp only[T,aT3,aAx,List.filter_cons_of_pos,aVA,aTV,aUH,aUA]
       exact Or.comm
     · simp[T]) (fun t _=>by unfold tI;simp only[];rw[aTJ (by omega)]) [] ⟨by simp,List.Pairwise.nil,by simp⟩
 rw[show((0:Nat):Int)=0 from rfl]at e1
 rw[e1]
 simp only[aTI]
 congr 1
 obtain⟨_,g2,g3⟩:=e2
 rw[aUY]at g3
 exact aAT g2 (aH9 hs v) g3
theorem LSet.uniq {s:List Link}(hs:LSet s){a b:Link}(ha:a∈s)(hb:b∈s)(h1:a.fA=b.fA)(h2:a.fB=b.fB):a=b:=by
 obtain⟨i,hi,rfl⟩:=aVk ha
 obtain⟨j,hj,rfl⟩:=aVk hb
 have pw:=aVm.1 hs.2
 rcases Nat.lt_trichotomy i j with h | h | h
 · have:=pw i j hi hj h;unfold fI at this;omega
 · subst h;rfl
 · have:=pw j i hj hi h;unfold fI at this;omega
theorem aR5 (p q r t:Prop)[Decidable p][Decidable q][Decidable r][Decidable t]:((if p then(if q then some true else(if r then some (decide t)else some false))else(if r then some (decide t)else some false)):Option Bool)=some (decide ((p/\q)\/(r/\t))):=by
 by_cases p <;> by_cases q <;> by_cases r <;> by_cases t <;> simp[*]
theorem aP1 {s:List Link}(hs:LSet s){v:Int}{l:Link}(hl:l∈s)(ht:tch v l=true):aBJ s (uJ v l) v=some (l,true):=by
 have hlen:=hs.len
 have hv:=hs.1 l hl
 unfold aBJ
 rw[mB s (by have:=hs.sz;omega),aTN hs]
 simp only[aTI,aT3]
 obtain⟨r,e,q⟩:=aNp (step:=uG s (uJ v l) v) s.length (fun r=>r=.inr (l,true)) (fun k=>l∈s.drop k) (by simpa using hl) (fun k hk hj=>by
  have hx:=hs.1 _ (aT2 hk)
  have w1:IntKind.i64.wrap ((k:Int)+1)=((k+1:Nat):Int):=by rw[wi (by omega)];omega
  rw[aTQ hk]at hj
  have st:uG s (uJ v l) v (k:Int)=some (if(((s[k]).fA=uJ v l/\(s[k]).fB=v)\/((s[k]).fA=v/\(s[k]).fB=uJ v l))then .inr (.inr (s[k],true))else .inl ((k+1:Nat):Int)):=by
   unfold uG
   rw[aTK (by omega),aM hk]
   simp only[aTI,w1,uE s[k] (by have:=hx.sz;omega)]
   rw[aR5]
   simp only[aTI]
   by_cases c:((s[k]).fA=uJ v l/\(s[k]).fB=v)\/((s[k]).fA=v/\(s[k]).fB=uJ v l)
   · rw[aTK c,aTN c];rfl
   · rw[aTJ c,aTL c];rfl
  unfold tch at ht
  rw[aUQ]at ht
  unfold ValidL at hx hv
  by_cases c:((s[k]).fA=uJ v l/\(s[k]).fB=v)\/((s[k]).fA=v/\(s[k]).fB=uJ v l)
  · rw[aTK c]at st
    right
    refine⟨_,st,?_⟩
    have:s[k]=l:=by
     refine hs.uniq (aT2 hk) hl ?_ ?_
     · unfold uJ at c;split at c <;> omega
     · unfold uJ at c;split at c <;> omega
    rw[this]
  · rw[aTJ c]at st
    left
    refine⟨st,?_⟩
    rcases aTM.1 hj with e | e
    · exfalso;apply c
      rw[<- e];unfold uJ;split <;> omega
    · exact e) (fun hj=>by rw[aU3]at hj;cases hj)
 rw[e,q];rfl
theorem aRK {r:Rat}(h:VZ r):VZ (RN r):=(aLU h).2.2
def vK (a:l08Arm):Prop:=(0<=a.fnode/\a.fnode<=9)/\VZ a.fweight/\VZ a.fdx/\VZ a.fdy
theorem aKB {v:Int}{l:Link}(h:ValidL l):vK (aBw v l):=by
 obtain⟨h1,h2,h3⟩:=h.vz
 unfold aBw
 split
 · exact⟨h.2.1,h1,aRK h2,aRK h3⟩
 · exact⟨h.1,h1,h2,h3⟩
theorem aHj {s:List Link}(hs:LSet s)(v:Int):∀ a∈bO v s,vK a:=by
 intro a ha
 obtain⟨l,hl,rfl⟩:=aT5.1 ha
 exact aKB (hs.1 l (aUb.1 hl).1)
theorem aCE {s:List Link}(hs:LSet s)(v:Int):(bO v s).length<=100:=by
 have:=hs.len
 have:=aVC (tch v) s
 unfold bO
 rw[aTZ];omega
theorem aNL {s:List Link}(hs:LSet s)(v:Int):((bO v s).map (·.fnode)).Pairwise (· < ·):=by
 have:=aH9 hs v
 unfold bO
 rw[aVr]
 have e:(fun a:l08Arm=>a.fnode) ∘ aBw v=uJ v:=by funext l;exact aLP v l
 rw[e];exact this
theorem aSo {s:List Link}(hs:LSet s)(v:Int):aAW s v=some (bO v s):=by
 have hal:=aCE hs v
 unfold aAW
 rw[aR0 hs v]
 simp only[aTI]
 have hfl:((s.filter (tch v)).map (uJ v)).length=(bO v s).length:=by unfold bO;rw[aTZ,aTZ]
 have:=sV (step:=tH s v ((s.filter (tch v)).map (uJ v))) (bO v s) (fun k t=>((k:Int),t)) (fun t=>t) (fun k t hk ht=>by
  have hk2:k<(s.filter (tch v)).length:=by unfold bO at hk;rwa [aTZ]at hk
  have hk3:k<((s.filter (tch v)).map (uJ v)).length:=by rwa [aTZ]
  have hm:=aUb.1 (aT2 hk2)
  have w1:IntKind.i64.wrap ((k:Int)+1)=((k+1:Nat):Int):=by rw[wi (by omega)];omega
  have hv:=hs.1 _ hm.1
  obtain⟨v1,v2,v3⟩:=hv.vz
  have g:=aP1 hs hm.1 hm.2
  have ea:(bO v s)[k]=aBw v (s.filter (tch v))[k]:=by simp only[bO,aUZ]
  unfold tH
  simp only[]
  rw[aTK (by omega),aM hk3,aUZ]
  simp only[aTI,g,(aLU v2).1,(aLU v3).1,w1]
  rw[ea]
  unfold aBw
  by_cases A:((s.filter (tch v))[k]).fA=v
  · rw[aTK A,aTK A]
    simp only[aTI,uJ,A,aT3]
    rw[aN (by omega)];rfl
  · rw[aTJ A,aTJ A]
    simp only[aTI,uJ,A,aT9]
    rw[aN (by omega)];rfl) (fun t ht=>by unfold tH;simp only[];rw[aTJ (by omega)])
 rw[show((0:Nat):Int)=0 from rfl]at this
 rw[this];rfl
/- Eliminating a node of a link set, both programs. -/
open IntKind
noncomputable def sJ (a:List l08Arm):Rat:=a.foldl (fun t a=>RA t a.fweight) (sF 0)
noncomputable def gE (t:Rat)(a:l08Arm):Parent:=⟨a.fnode,RD a.fweight t,a.fdx,a.fdy⟩
noncomputable def vG (t:Rat)(a b:l08Arm):Link:=⟨a.fnode,b.fnode,RD (RM a.fweight b.fweight) t,RS a.fdx b.fdx,RS a.fdy b.fdy⟩
noncomputable def iX (t:Rat):List l08Arm->List Link
 | []=>[]
 | a::r=>r.map (vG t a)++iX t r
noncomputable def aC6 (v:Int)(a:List l08Arm):Conditional:=⟨v,sJ a,a.map (gE (sJ a))⟩
def condOk (v:Int)(a:List l08Arm):Prop:=bT (aC6 v a)=some true
noncomputable instance (v:Int)(a:List l08Arm):Decidable (condOk v a):=Classical.propDecidable _
noncomputable def zA (v:Int)(s:List Link):Option (Conditional×List Link) :=
 if(1<=v/\v<=9)/\condOk v (bO v s)/\(∀ x∈iX (sJ (bO v s)) (bO v s),ValidL x)then some (aC6 v (bO v s),iX (sJ (bO v s)) (bO v s))else none
theorem aJi {v:Int}{s:List Link}(h:(1<=v/\v<=9)/\condOk v (bO v s)/\(∀ x∈iX (sJ (bO v s)) (bO v s),ValidL x)):zA v s=some (aC6 v (bO v s),iX (sJ (bO v s)) (bO v s)):=by unfold zA;rw[aTK h]
theorem aCA {v:Int}{s:List Link}(h:¬((1<=v/\v<=9)/\condOk v (bO v s)/\(∀ x∈iX (sJ (bO v s)) (bO v s),ValidL x))):zA v s=none:=by unfold zA;rw[aTJ h]
def aFR:Conditional:=Conditional.mk 0 (Rat.mk (BigInt.mk false ([])) ([])) ([])
def pkE:Option (Conditional×List Link)->Conditional×List Link×Bool
 | some (c,m)=>(c,m,true)
 | none=>(aFR,[],false)
theorem aKo:∀ (a:List l08Arm) (t:Rat),(∀ x∈a,vK x)->VZ t->VZ (a.foldl (fun t a=>RA t a.fweight) t)
 | [],t,_,h=>h
 | x::a,t,ho,h=>aKo a _ (fun y hy=>ho y (by simp[hy])) (aBC h (ho x (by simp)).2.1).2.2
theorem aAQ {a:List l08Arm}(h:∀ x∈a,vK x):VZ (sJ a):=aKo a _ h (.inl aCq)
theorem aDk {α β:Type}(g:α->β):∀ (l:List α) (t:List β),l.foldl (fun t b=>t++[g b]) t=t++l.map g
 | [],t=>by simp
 | x::l,t=>by rw[aVe,aDk g l,aTV,aT0];rfl
theorem aJ4 {t:Rat}{a b:l08Arm}(ht:VZ t)(ha:vK a)(hb:vK b):bW (vG t a b)<=144:=by
 have h1:=mL (aFC (aES ha.2.1 hb.2.1).2.2 ht).2.2
 have h2:=mL (aHK ha.2.2.1 hb.2.2.1).2.2
 have h3:=mL (aHK ha.2.2.2 hb.2.2.2).2.2
 unfold bW vG;simp only[];omega
theorem aMv {t:Rat}(ht:VZ t):∀ {a:List l08Arm},(∀ x∈a,vK x)->∀ x∈iX t a,bW x<=144
 | [],_,x,hx=>by cases hx
 | a::r,h,x,hx=>by
  rw[iX]at hx
  rcases aTR.1 hx with hx | hx
  · obtain⟨b,hb,rfl⟩:=aT5.1 hx
    exact aJ4 ht (h a (by simp)) (h b (by simp[hb]))
  · exact aMv ht (fun y hy=>h y (by simp[hy])) x hx
theorem aGF (t:Rat):∀ {a:List l08Arm} {n:Nat},a.length<=n->(iX t a).length<=n*a.length
 | [],n,_=>by simp[iX]
 | a::r,n,h=>by
  rw[aUh]at h
  have:=aGF t (a:=r) (n:=n) (by omega)
  rw[iX,aT4,aTZ,aUh,aU5,Nat.mul_one];omega
theorem aO2 (t:Rat):∀ {a:List l08Arm} {x:Link},x∈iX t a->∃ y∈a,x.fA=y.fnode
 | [],x,hx=>by cases hx
 | a::r,x,hx=>by
  rw[iX]at hx
  rcases aTR.1 hx with hx | hx
  · obtain⟨b,hb,rfl⟩:=aT5.1 hx
    exact⟨a,by simp,rfl⟩
  · obtain⟨y,hy,e⟩:=aO2 t hx
    exact⟨y,by simp[hy],e⟩
theorem aJ7 (t:Rat):∀ {a:List l08Arm},(a.map (·.fnode)).Pairwise (· < ·)->(iX t a).Pairwise fI
 | [],_=>List.Pairwise.nil
 | a::r,h=>by
  rw[aTV,aUp]at h
  rw[iX,aVf]
  refine⟨?_,aJ7 t h.2,fun x hx y hy=>?_⟩
  · rw[aVa]
    have:=h.2
    rw[aVa]at this
    exact this.imp (fun {b c} hbc=>.inr ⟨rfl,hbc⟩)
  · obtain⟨b,hb,rfl⟩:=aT5.1 hx
    obtain⟨z,hz,e⟩:=aO2 t hy
    exact .inl (by rw[e];exact h.1 _ (aT5.2 ⟨z,hz,rfl⟩))
theorem aId {t:Rat}{a:List l08Arm}(h:(a.map (·.fnode)).Pairwise (· < ·)):LSet (iX t a)↔∀ x∈iX t a,ValidL x:=⟨fun g=>g.1,fun g=>⟨g,aJ7 t h⟩⟩
theorem aNA {a:List l08Arm}(ha:∀ x∈a,vK x)(hl:a.length<=100):lp (iB a) (0,sF 0)=some (sJ a):=by
 have:=(lW (step:=iB a) a (fun k t=>((k:Int),t)) (fun t a=>RA t a.fweight) (fun t=>t) (fun _ t=>VZ t) (fun k t hk hi=>by
  have w1:i64.wrap ((k:Int)+1)=((k+1:Nat):Int):=by rw[wi (by omega)];omega
  obtain⟨q1,_,q3⟩:=aBC hi (ha _ (aT2 hk)).2.1
  refine⟨?_,q3⟩
  unfold iB
  simp only[]
  rw[aTK (by omega),aM hk]
  simp only[aTI,q1,w1]) (fun t _=>by unfold iB;simp only[];rw[aTJ (by omega)]) (sF 0) (.inl aCq)).1
 rw[show((0:Nat):Int)=0 from rfl]at this
 exact this
theorem aNC {a:List l08Arm}{t:Rat}(ht:VZ t)(ha:∀ x∈a,vK x)(hl:a.length<=100):lp (iA a t) (0,[])=some (a.map (gE t)):=by
 have:=sV (step:=iA a t) (a.map (gE t)) (fun k t=>((k:Int),t)) (fun t=>t) (fun k u hk hu=>by
  have hk2:k<a.length:=by rwa [aTZ]at hk
  have w1:i64.wrap ((k:Int)+1)=((k+1:Nat):Int):=by rw[wi (by omega)];omega
  have ho:=ha _ (aT2 hk2)
  have q:=(aFC ho.2.1 ht).1
  unfold iA
  simp only[]
  rw[aTK (by omega),aM hk2]
  simp only[aTI,q,qN _ (VZs ho.2.2.1),qN _ (VZs ho.2.2.2),w1]
  rw[aN (by omega)]
  simp only[aTI,wC,aUZ]
  rfl) (fun u hu=>by unfold iA;simp only[];rw[aTZ,aTJ (by omega)])
 rw[show((0:Nat):Int)=0 from rfl]at this
 exact this
theorem aNB {r:List l08Arm}{x:l08Arm}{t:Rat}(ht:VZ t)(hx:vK x)(hr:∀ y∈r,vK y)(hl:r.length<=100)(acc:List Link)(hacc:acc.length<=1000000) :
 lp (hZ r x t) (0,acc)=some (acc++r.map (vG t x)):=by
 have:=(lW (step:=hZ r x t) r (fun k u=>((k:Int),u)) (fun u b=>u++[vG t x b]) (fun u=>u) (fun k u=>u.length<=1000000+k) (fun k u hk hi=>by
  have w1:i64.wrap ((k:Int)+1)=((k+1:Nat):Int):=by rw[wi (by omega)];omega
  have ho:=hr _ (aT2 hk)
  have q0:=aES hx.2.1 ho.2.1
  have q1:=(aFC q0.2.2 ht).1
  have q2:=(aHK hx.2.2.1 ho.2.2.1).1
  have q3:=(aHK hx.2.2.2 ho.2.2.2).1
  refine⟨?_,by rw[aT4,aUr];omega⟩
  unfold hZ
  simp only[]
  rw[aTK (by omega),aM hk]
  simp only[aTI,q0.1,q1,q2,q3,w1]
  rw[aN (by omega)]
  rfl) (fun u _=>by unfold hZ;simp only[];rw[aTJ (by omega)]) acc (by omega)).1
 rw[show((0:Nat):Int)=0 from rfl,aDk]at this
 exact this
theorem aN6 {α:Type}(l:List α)(k:Nat)(hk:k+1<=l.length)(hl:l.length<=4294967296):sub l (i64.wrap ((k:Int)+1)) (l.length:Int)=some (l.drop (k+1)):=by
 have w1:i64.wrap ((k:Int)+1)=((k+1:Nat):Int):=by rw[wi (by omega)];omega
 rw[w1,qC _ _ _ (by omega)];congr 1
 rw[aUz];rfl
 rw[aUR];omega
theorem aLA {a:List l08Arm}{t:Rat}(ht:VZ t)(ha:∀ x∈a,vK x)(hl:a.length<=100):lp (fK a t) (0,[])=some (iX t a):=by
 have main:∀ m k:Nat,m+k=a.length->∀ acc:List Link,acc.length<=100*k->lp (fK a t) ((k:Int),acc)=some (acc++iX t (a.drop k)):=by
  intro m
  induction m with
  | zero =>
   intro k hk acc hacc
   rw[aUe (by omega),iX,aUJ]
   exact aJ (by unfold fK;simp only[];rw[aTJ (by omega)])
  | succ m ih =>
   intro k hk acc hacc
   have hlt:k<a.length:=by omega
   have w1:i64.wrap ((k:Int)+1)=((k+1:Nat):Int):=by rw[wi (by omega)];omega
   rw[aTQ hlt,iX]
   have row:=aNB (r:=a.drop (k+1)) ht (ha _ (aT2 hlt)) (fun y hy=>ha y (aWv hy)) (by rw[aUR];omega) acc (by omega)
   have st:fK a t ((k:Int),acc)=some (.inl (((k+1:Nat):Int),acc++(a.drop (k+1)).map (vG t a[k]))):=by
    unfold fK
    simp only[]
    rw[aTK (by omega),aM hlt,aN6 a k (by omega) (by omega)]
    simp only[aTI,row,w1]
   rw[aS st,ih (k+1) (by omega) _ (by rw[aT4,aTZ,aUR];omega),aT0]
 have:=main a.length 0 (by omega) [] (by simp)
 rw[show((0:Nat):Int)=0 from rfl,aUD,aTO]at this
 exact this
theorem aJk {v:Int}{a:List l08Arm}(ha:∀ x∈a,vK x)(hl:a.length<=100):aV (aC6 v a)<=4294967296:=by
 have h1:=mL (aAQ ha)
 have h2:nT (a.map (gE (sJ a)))<=145*(a.map (gE (sJ a))).length:=aEq (c:=144) (fun p hp=>by
  obtain⟨x,hx,rfl⟩:=aT5.1 hp
  have ho:=ha x hx
  have g1:=mL (aFC ho.2.1 (aAQ ha)).2.2
  have g2:=mL ho.2.2.1
  have g3:=mL ho.2.2.2
  unfold jN gE;simp only[];omega)
 rw[aTZ]at h2
 unfold aV aC6;simp only[];omega
theorem aQY {s:List Link}(hs:LSet s)(v:Int):tN s v=some (pkE (zA v s)):=by
 have ha:=aHj hs v
 have hl:=aCE hs v
 have ht:=aAQ ha
 obtain⟨b,b1,b2,_⟩:=aJo _ (aJk (v:=v) ha hl)
 have inc:=aNL hs v
 unfold tN
 rw[mB s (by have:=hs.sz;omega),aTN hs,aBd]
 simp only[aTI,aT3]
 by_cases c:1<=v/\v<=9
 · rw[aTN c]
   simp only[aUL,aTP,aT9]
   rw[aSo hs v,bY 0 (by omega)]
   simp only[aTI]
   rw[aNA ha hl]
   simp only[aTI]
   rw[aNC ht ha hl]
   simp only[aTI]
   rw[aLA ht ha hl]
   simp only[aTI]
   have e:(Conditional.mk v (sJ (bO v s)) ((bO v s).map (gE (sJ (bO v s)))))=aC6 v (bO v s):=rfl
   rw[e,b1]
   simp only[aTI]
   have hms:=aEq (aMv ht ha)
   have hml:=aGF (sJ (bO v s)) (a:=bO v s) (aTU _)
   have hm2:(bO v s).length*(bO v s).length<=100*100:=aUd hl hl
   rw[mB _ (by unfold aK;omega)]
   cases b with
   | false =>
    have:¬condOk v (bO v s):=by unfold condOk;rw[b1];simp
    rw[aCA (fun h=>this h.2.1)];rfl
   | true =>
    have hc:condOk v (bO v s):=b1
    simp only[aT3,aTI]
    by_cases d:∀ x∈iX (sJ (bO v s)) (bO v s),ValidL x
    · rw[aTN ((aId inc).2 d),aJi ⟨c,hc,d⟩];rfl
    · rw[aTL (fun h=>d ((aId inc).1 h)),aCA (fun h=>d h.2.2)];rfl
 · rw[aTL c]
   rw[aCA (fun h=>c h.1)];rfl
def yJ (a:l08Arm):Parent:=⟨a.fnode,oO,a.fdx,a.fdy⟩
theorem aLO (v:Int)(s:List Link)(k:Nat)(hk:k<s.length):bO v (s.take (k+1))=bO v (s.take k)++(if tch v s[k]then [aBw v s[k]]else []):=by
 have tk:s.take (k+1)=s.take k++[s[k]]:=by rw[aVH,aTS hk];rfl
 unfold bO
 rw[tk,aVT,aUF]
 congr 1
 by_cases c:tch v s[k] <;> simp[c]
theorem aLC {s:List Link}(hs:LSet s)(v:Int):lp (eA s v) (0,sF 0,[],[])=some (sJ (bO v s),(bO v s).map (·.fweight),(bO v s).map yJ):=by
 have hlen:=hs.len
 have hpre:∀ k,∀ a∈bO v (s.take k),vK a:=fun k a ha=>by
  obtain⟨l,hl,rfl⟩:=aT5.1 ha
  exact aKB (hs.1 l (aWu (aUb.1 hl).1))
 have hpl:∀ k,(bO v (s.take k)).length<=100:=fun k=>by
  have:=aVC (tch v) (s.take k)
  have h2:(s.take k).length<=s.length:=by rw[aUo];omega
  unfold bO;rw[aTZ];omega
 have main:∀ m k:Nat,m+k=s.length->lp (eA s v) ((k:Int),sJ (bO v (s.take k)),(bO v (s.take k)).map (·.fweight),(bO v (s.take k)).map yJ)=some (sJ (bO v s),(bO v s).map (·.fweight),(bO v s).map yJ):=by
  intro m
  induction m with
  | zero =>
   intro k hk
   rw[aUz (by omega)]
   exact aJ (by unfold eA;simp only[];rw[aTJ (by omega)])
  | succ m ih =>
   intro k hk
   have hlt:k<s.length:=by omega
   have w1:i64.wrap ((k:Int)+1)=((k+1:Nat):Int):=by rw[wi (by omega)];omega
   have hv:=hs.1 _ (aT2 hlt)
   obtain⟨v1,v2,v3⟩:=hv.vz
   have n1:=(aLU v2).2.1
   have n2:=(aLU v3).2.1
   have ra:=(aBC (aAQ (hpre k)) v1).2.1
   have hp:=hpl k
   have st:eA s v ((k:Int),sJ (bO v (s.take k)),(bO v (s.take k)).map (·.fweight),(bO v (s.take k)).map yJ)=some (.inl (((k+1:Nat):Int),sJ (bO v (s.take (k+1))),(bO v (s.take (k+1))).map (·.fweight),(bO v (s.take (k+1))).map yJ)):=by
    rw[aLO v s k hlt]
    unfold eA
    simp only[]
    rw[aTK (by omega),aM hlt]
    simp only[aTI,n1,n2,ra,w1]
    have k1:∀ {α:Type} {f:l08Arm->α},((bO v (s.take k)).map f).length<=100:=by intro α f;rw[aTZ];exact hp
    by_cases A:(s[k]).fA=v
    · rw[aTK A,aN (by have:=k1 (f:=yJ);omega)]
      simp only[aTI,wC]
      rw[aN (by have:=k1 (f:=fun a=>a.fweight);omega)]
      simp[tch,A,aBw,sJ,yJ,oO,ra]
    · by_cases B:(s[k]).fB=v
      · rw[aTJ A,aTK B,aN (by have:=k1 (f:=yJ);omega)]
        simp only[aTI,wC]
        rw[aN (by have:=k1 (f:=fun a=>a.fweight);omega)]
        simp[tch,A,B,aBw,sJ,yJ,oO,ra]
      · simp[tch,A,B]
   rw[aS st]
   exact ih (k+1) (by omega)
 have:=main s.length 0 (by omega)
 simpa [bO,sJ]using this
theorem aNE {a:List l08Arm}{t:Rat}(ht:VZ t)(ha:∀ x∈a,vK x)(hl:a.length<=100):lp (dZ (t,a.map (·.fweight),a.map yJ)) (0,a.map yJ)=some (a.map (gE t)):=by
 have main:∀ m k:Nat,m+k=a.length->lp (dZ (t,a.map (·.fweight),a.map yJ)) ((k:Int),(a.take k).map (gE t)++(a.drop k).map yJ)=some (a.map (gE t)):=by
  intro m
  induction m with
  | zero =>
   intro k hk
   refine aJ ?_
   unfold dZ
   simp only[aTZ]
   rw[aTJ (by omega),aUe (by omega),aUz (by omega)]
   simp
  | succ m ih =>
   intro k hk
   have hlt:k<a.length:=by omega
   have w1:i64.wrap ((k:Int)+1)=((k+1:Nat):Int):=by rw[wi (by omega)];omega
   have ho:=ha _ (aT2 hlt)
   have q:=(aFC ho.2.1 ht).2.1
   have tl:((a.take k).map (gE t)).length=k:=by rw[aTZ,aUo];omega
   have e1:idx (a.map (fun x=>x.fweight)) (k:Int)=some (a[k]).fweight:=by rw[aM (by rwa [aTZ]),aUZ]
   have e2:idx ((a.take k).map (gE t)++(a.drop k).map yJ) (k:Int)=some (yJ a[k]):=by
    rw[hY,aUs (by omega),tl,aVo,aTQ hlt];rfl
   have e3:nS ((a.take k).map (gE t)++(a.drop k).map yJ) (k:Int) (gE t a[k])=(a.take (k+1)).map (gE t)++(a.drop (k+1)).map yJ:=by
    rw[jO,aVY _ _ (by omega),tl,aVo,aTQ hlt,aTV,aWg,aVH,aTS hlt,aUF,aT0]
    rfl
   have st:dZ (t,a.map (·.fweight),a.map yJ) ((k:Int),(a.take k).map (gE t)++(a.drop k).map yJ)=some (.inl (((k+1:Nat):Int),(a.take (k+1)).map (gE t)++(a.drop (k+1)).map yJ)):=by
    unfold dZ
    simp only[aTZ]
    rw[aTK (by omega),e1]
    simp only[aTI,q,e2,wC,w1]
    have:(Parent.mk (yJ a[k]).fNode (RD (a[k]).fweight t) (yJ a[k]).fDX (yJ a[k]).fDY)=gE t a[k]:=rfl
    rw[this,e3]
   rw[aS st]
   exact ih (k+1) (by omega)
 have:=main a.length 0 (by omega)
 simpa using this
def aGe (t:Rat)(x:l08Arm)(r:List l08Arm):Prop:=∀ y∈r,ValidL (vG t x y)
noncomputable instance (t:Rat)(x:l08Arm)(r:List l08Arm):Decidable (aGe t x r):=Classical.propDecidable _
theorem aND {a:List l08Arm}{t:Rat}(ht:VZ t)(ha:∀ x∈a,vK x)(hl:a.length<=100)(q0:List Parent)(i:Nat)(hi:i<a.length):∀ m j:Nat,m+j=a.length->∀ acc:List Link,acc.length<=1000000+j->
 lp (fM (a.map (gE t)) (t,a.map (·.fweight),q0) (i:Int) (gE t a[i])) ((j:Int),acc)=some (if aGe t a[i] (a.drop j)then .inl (acc++(a.drop j).map (vG t a[i]))else .inr (aFR,[],false)):=by
 intro m
 induction m with
 | zero =>
  intro j hj acc hacc
  rw[aUe (by omega),aTK (by intro y hy;cases hy),aUH,aUJ]
  exact aJ (by unfold fM;simp only[aTZ];rw[aTJ (by omega)])
 | succ m ih =>
  intro j hj acc hacc
  have hlt:j<a.length:=by omega
  have w1:i64.wrap ((j:Int)+1)=((j+1:Nat):Int):=by rw[wi (by omega)];omega
  have hx:=ha _ (aT2 hi)
  have ho:=ha _ (aT2 hlt)
  have p0:=aES hx.2.1 ho.2.1
  have p1:=(aFC p0.2.2 ht).2.1
  have p2:=(aHK hx.2.2.1 ho.2.2.1).2.1
  have p3:=(aHK hx.2.2.2 ho.2.2.2).2.1
  have vl:=(gO (vG t a[i] a[j]) (by have:=aJ4 ht hx ho;omega)).2
  have e0:idx (a.map (gE t)) (j:Int)=some (gE t a[j]):=by rw[aM (by rwa [aTZ]),aUZ]
  have e1:idx (a.map (fun x=>x.fweight)) (i:Int)=some (a[i]).fweight:=by rw[aM (by rwa [aTZ]),aUZ]
  have e2:idx (a.map (fun x=>x.fweight)) (j:Int)=some (a[j]).fweight:=by rw[aM (by rwa [aTZ]),aUZ]
  have st:fM (a.map (gE t)) (t,a.map (·.fweight),q0) (i:Int) (gE t a[i]) ((j:Int),acc)=some (if ValidL (vG t a[i] a[j])then .inl (((j+1:Nat):Int),acc++[vG t a[i] a[j]])else .inr (.inr (aFR,[],false))):=by
   unfold fM
   simp only[aTZ]
   rw[aTK (by omega),e0,e1,e2]
   simp only[aTI,p0.2.1,p1,w1]
   have f1:(gE t a[i]).fDX=(a[i]).fdx:=rfl
   have f2:(gE t a[i]).fDY=(a[i]).fdy:=rfl
   have f3:(gE t a[j]).fDX=(a[j]).fdx:=rfl
   have f4:(gE t a[j]).fDY=(a[j]).fdy:=rfl
   rw[f1,f2,f3,f4,p2]
   simp only[aTI]
   rw[p3]
   simp only[aTI]
   have f5:(Link.mk (gE t a[i]).fNode (gE t a[j]).fNode (RD (RM (a[i]).fweight (a[j]).fweight) t) (RS (a[i]).fdx (a[j]).fdx) (RS (a[i]).fdy (a[j]).fdy))=vG t a[i] a[j]:=rfl
   rw[f5,vl]
   simp only[aTI]
   by_cases c:ValidL (vG t a[i] a[j])
   · rw[aTN c,aTK rfl,aTK c,aN (by omega)];rfl
   · rw[aTL c,aTJ c];rfl
  rw[aTQ hlt]
  by_cases c:ValidL (vG t a[i] a[j])
  · rw[aTK c]at st
    rw[aS st,ih (j+1) (by omega) _ (by rw[aT4,aUr];omega)]
    have:aGe t a[i] (a[j]::a.drop (j+1))↔aGe t a[i] (a.drop (j+1)):=⟨fun h x hx'=>h x (aUv _ hx'),fun h x hx'=>by rcases aTM.1 hx' with rfl | h';exact c;exact h x h'⟩
    simp only[this,aTV,aT0,aUP]
  · rw[aTJ c]at st
    rw[aJ st,aTJ (fun h=>c (h _ aWh))]
theorem aLB {a:List l08Arm}{t:Rat}(ht:VZ t)(ha:∀ x∈a,vK x)(hl:a.length<=100)(q0:List Parent):lp (dY (a.map (gE t)) (t,a.map (·.fweight),q0)) (0,[])=some (if ∀ x∈iX t a,ValidL x then .inl (iX t a)else .inr (aFR,[],false)):=by
 have main:∀ m k:Nat,m+k=a.length->∀ acc:List Link,acc.length<=100*k->lp (dY (a.map (gE t)) (t,a.map (·.fweight),q0)) ((k:Int),acc)=some (if ∀ x∈iX t (a.drop k),ValidL x then .inl (acc++iX t (a.drop k))else .inr (aFR,[],false)):=by
  intro m
  induction m with
  | zero =>
   intro k hk acc hacc
   rw[aUe (by omega),aTK (by simp[iX]),iX,aUJ]
   exact aJ (by unfold dY;simp only[aTZ];rw[aTJ (by omega)])
  | succ m ih =>
   intro k hk acc hacc
   have hlt:k<a.length:=by omega
   have w1:i64.wrap ((k:Int)+1)=((k+1:Nat):Int):=by rw[wi (by omega)];omega
   have e0:idx (a.map (gE t)) (k:Int)=some (gE t a[k]):=by rw[aM (by rwa [aTZ]),aUZ]
   have row:=aND ht ha hl q0 k hlt (a.length-(k+1)) (k+1) (by omega) acc (by omega)
   rw[aTQ hlt,iX]
   have st:dY (a.map (gE t)) (t,a.map (·.fweight),q0) ((k:Int),acc)=some (if aGe t a[k] (a.drop (k+1))then .inl (((k+1:Nat):Int),acc++(a.drop (k+1)).map (vG t (a[k]'hlt)))else .inr (.inr (aFR,[],false))):=by
    unfold dY
    simp only[aTZ]
    rw[aTK (by omega),e0]
    simp only[aTI,w1,row]
    by_cases c:aGe t a[k] (a.drop (k+1))
    · rw[aTK c,aTK c]
    · rw[aTJ c,aTJ c]
   by_cases c:aGe t a[k] (a.drop (k+1))
   · rw[aTK c]at st
     rw[aS st,ih (k+1) (by omega) _ (by rw[aT4,aTZ,aUR];omega)]
     have:(∀ x∈(a.drop (k+1)).map (vG t a[k])++iX t (a.drop (k+1)),ValidL x)↔∀ x∈iX t (a.drop (k+1)),ValidL x:=⟨fun h x hx=>h x (aUE _ hx),fun h x hx=>by
      rcases aTR.1 hx with hx | hx
      · obtain⟨y,hy,rfl⟩:=aT5.1 hx;exact c y hy
      · exact h x hx⟩
     simp only[this,aT0]
   · rw[aTJ c]at st
     rw[aJ st,aTJ]
     intro h
     exact c fun y hy=>h _ (aUC _ (aT5.2 ⟨y,hy,rfl⟩))
 have:=main a.length 0 (by omega) [] (by simp)
 rw[show((0:Nat):Int)=0 from rfl,aUD,aTO]at this
 exact this
theorem aQZ {s:List Link}(hs:LSet s)(v:Int):lC s v=some (pkE (zA v s)):=by
 have ha:=aHj hs v
 have hl:=aCE hs v
 have ht:=aAQ ha
 obtain⟨b,b1,b2,_⟩:=aJo _ (aJk (v:=v) ha hl)
 unfold lC
 have e0:((if v<1 then some true else some (decide (10<=v))):Option Bool)=some (!decide (1<=v/\v<=9)):=by
  by_cases A:v<1
  · have:¬1<=v:=by omega
    simp[A,this]
  · by_cases B:10<=v
    · have:¬v<=9:=by omega
      simp[A,B,this]
    · have h1:1<=v:=by omega
      have h2:v<=9:=by omega
      simp[A,B,h1,h2]
 rw[e0]
 simp only[aTI]
 by_cases c:1<=v/\v<=9
 · rw[aTN c]
   simp only[aUL,aTP,aT9]
   rw[dJ 0 (by omega)]
   simp only[aTI]
   rw[aLC hs v]
   simp only[aTI]
   rw[aNE ht ha hl]
   simp only[aTI]
   have e:(Conditional.mk v (sJ (bO v s)) ((bO v s).map (gE (sJ (bO v s)))))=aC6 v (bO v s):=rfl
   rw[e,b2]
   simp only[aTI]
   cases b with
   | false =>
    have:¬condOk v (bO v s):=by unfold condOk;rw[b1];simp
    rw[aCA (fun h=>this h.2.1)];rfl
   | true =>
    have hc:condOk v (bO v s):=b1
    simp only[aT3]
    rw[aLB ht ha hl]
    by_cases d:∀ x∈iX (sJ (bO v s)) (bO v s),ValidL x
    · rw[aTK d,aJi ⟨c,hc,d⟩];rfl
    · rw[aTJ d,aCA (fun h=>d h.2.2)];rfl
 · rw[aTL c]
   rw[aCA (fun h=>c h.1)];rfl
/- Reducing a node of a link set and a node of a tree, both programs. -/
theorem wi1 {k:Nat}(h:k<=4294967296):IntKind.i64.wrap ((k:Int)+1)=((k+1:Nat):Int):=by rw[wi (by omega)];omega
def zQ (v:Int)(s:List Link):List Link:=s.filter (fun l=>!tch v l)
theorem yC {α:Type}(p:α->Bool):∀ (l t:List α),l.foldl (fun t x=>if p x=true then t++[x]else t) t=t++l.filter p
 | [],t=>by simp
 | x::l,t=>by
  rw[aVe,yC p l,aUn]
  by_cases c:p x=true
  · simp only[c,aT3,aT0,aUP]
  · simp only[Bool.not_eq_true]at c;simp[c]
theorem aRk (v:Int)(l:Link):((if l.fA≠v then some (decide (l.fB≠v))else some false):Option Bool)=some (!tch v l):=by
 unfold tch;by_cases A:l.fA=v <;> by_cases B:l.fB=v <;> simp[A,B]
theorem aMY {s:List Link}(h:s.length<=4294967296)(v:Int):nB s v=some (zQ v s):=by
 have:=(lW (step:=jQ s v) s (fun k t=>((k:Int),t)) (fun t x=>if(fun l=>!tch v l) x=true then t++[x]else t) (fun t=>t) (fun k t=>t.length<=k) (fun k t hk hi=>by
  constructor
  · unfold jQ
    simp only[]
    rw[aTK (by omega),aM hk]
    simp only[aTI,aRk,wi1 (by omega:k<=4294967296)]
    by_cases c:tch v s[k]=true
    · rw[aTJ (by simp[c]),aTJ (by simp[c])]
    · rw[aTK (by simpa using c),aTK (by simpa using c),aN (by omega)];rfl
  · simp only[];split
    · rw[aT4,aUr];omega
    · omega) (fun t _=>by unfold jQ;simp only[];rw[aTJ (by omega)]) [] (aUB _)).1
 rw[show((0:Nat):Int)=0 from rfl,yC,aTO]at this
 unfold nB
 rw[this];rfl
theorem aNP {s:List Link}(hs:LSet s)(v:Int):vQ s v=some (zQ v s):=by
 have hl:=hs.len
 have:=(lW (step:=mM s v) s (fun k t=>((k:Int),t)) (fun t x=>if(fun l=>!tch v l) x=true then t++[x]else t) (fun t=>t) (fun k t=>t.length<=k) (fun k t hk hi=>by
  constructor
  · unfold mM
    simp only[]
    rw[aTK (by omega),aM hk]
    have cp:=uE s[k] (by have:=(hs.1 _ (aT2 hk)).sz;omega)
    simp only[aTI,aRk,wi1 (by omega:k<=4294967296),cp]
    by_cases c:tch v s[k]=true
    · rw[aTJ (by simp[c]),aTJ (by simp[c])]
    · rw[aTK (by simpa using c),aTK (by simpa using c),aN (by omega)];rfl
  · simp only[];split
    · rw[aT4,aUr];omega
    · omega) (fun t _=>by unfold mM;simp only[];rw[aTJ (by omega)]) [] (aUB _)).1
 rw[show((0:Nat):Int)=0 from rfl,yC,aTO]at this
 unfold vQ
 rw[mB s (by have:=hs.sz;omega),aTN hs]
 simp only[aTI,aT3,this]
 rfl
noncomputable def aEx (v:Int)(s:List Link):Option (Conditional×List Link×Rat) :=
 (zA v s).bind fun x=>(jnP (zQ v s++x.2)).map fun y=>(x.1,y.1,y.2)
def pkR:Option (Conditional×List Link×Rat)->Conditional×List Link×Rat×Bool
 | some (c,m,e)=>(c,m,e,true)
 | none=>(aFR,[],oO,false)
theorem aKs {v:Int}{s:List Link}(hs:LSet s){c:Conditional}{m:List Link}(h:zA v s=some (c,m)):(∀ x∈m,ValidL x)/\m.length<=10000/\aV c<=20000/\(1<=v/\v<=9):=by
 unfold zA at h
 split at h
 · rename_i g
   cases h
   have ha:=aHj hs v
   have hl:=aCE hs v
   have h1:=aGF (sJ (bO v s)) (a:=bO v s) (aTU _)
   have h2:(bO v s).length*(bO v s).length<=100*100:=aUd hl hl
   have g1:=mL (aAQ ha)
   have g2:nT ((bO v s).map (gE (sJ (bO v s))))<=145*((bO v s).map (gE (sJ (bO v s)))).length:=aEq (c:=144) (fun p hp=>by
    obtain⟨x,hx,rfl⟩:=aT5.1 hp
    have ho:=ha x hx
    have g1:=mL (aFC ho.2.1 (aAQ ha)).2.2
    have g2:=mL ho.2.2.1
    have g3:=mL ho.2.2.2
    unfold jN gE;simp only[];omega)
   rw[aTZ]at g2
   refine⟨g.2.2,by omega,?_,g.1⟩
   unfold aV aC6;simp only[];omega
 · cases h
theorem aOo {v:Int}{s:List Link}(hs:LSet s):(∀ x∈zQ v s,ValidL x)/\(zQ v s).length<=100:=by
 have:=aVC (fun l=>!tch v l) s
 have:=hs.len
 exact⟨fun x hx=>hs.1 x (aUb.1 hx).1,by unfold zQ;omega⟩
theorem aGl {s:List Link}(hs:LSet s)(v:Int):xM s v=some (pkR (aEx v s))/\pA s v=some (pkR (aEx v s)):=by
 unfold xM pA aEx
 rw[aQY hs,aQZ hs]
 cases h:zA v s with
 | none=>exact⟨rfl,rfl⟩
 | some x =>
  obtain⟨c,m⟩:=x
  obtain⟨m1,m2,m3,_⟩:=aKs hs h
  obtain⟨r1,r2⟩:=aOo (v:=v) hs
  have hall:∀ x∈zQ v s++m,ValidL x:=fun x hx=>(aTR.1 hx).elim (r1 x) (m1 x)
  have hlen:(zQ v s++m).length<=20000:=by rw[aT4];omega
  have hsz:=aCn hall
  have j1:=(aAd (zQ v s++m) (by omega)).1
  have j2:=aB3 hall (by omega)
  simp only[pkE,aTI,aT3]
  rw[aNP hs,aMY (by have:=hs.len;omega)]
  simp only[aTI]
  rw[aN (by omega)]
  simp only[aTI,wC,j1,j2]
  cases jnP (zQ v s++m)with
  | none=>exact⟨rfl,rfl⟩
  | some y=>exact⟨rfl,rfl⟩
theorem aIZ {v:Int}{s:List Link}(hs:LSet s){c:Conditional}{m:List Link}{e:Rat}(h:aEx v s=some (c,m,e)):aV c<=20000/\LSet m/\bM e/\c.fNode=v:=by
 unfold aEx at h
 cases h1:zA v s with
 | none=>rw[h1]at h;cases h
 | some x =>
  rw[h1]at h
  cases h2:jnP (zQ v s++x.2)with
  | none=>rw[aTI,h2]at h;cases h
  | some y =>
   rw[aTI,h2]at h
   cases h
   have:=aB4 (s:=y.1) (e:=y.2) h2
   refine⟨(aKs hs (c:=x.1) (m:=x.2) h1).2.2.1,this.2.1,this.2.2,?_⟩
   unfold zA at h1
   split at h1
   · cases h1;rfl
   · cases h1
/- A node of a tree, both programs. -/
open IntKind
def aT (l s:List Int):Int:=(l.find? (fun u=>decide (u∈s))).getD 0
theorem aMK (l s:List Int)(hl:l.length<=4294967296)(hs:s.length<=4294967296):wL l s=some (aT l s):=by
 have main:∀ m k:Nat,m+k=l.length->lp (kH l s) (k:Int)=some (match (l.drop k).find? (fun u=>decide (u∈s))with | some x=>.inr x | none=>.inl ()):=by
  intro m
  induction m with
  | zero =>
   intro k hk
   have:k=l.length:=by omega
   subst this
   rw[aJ (r:=.inl ()) (by unfold kH;rw[aTJ (by omega)]),aU3];rfl
  | succ m ih =>
   intro k hk
   have hlt:k<l.length:=by omega
   rw[aTQ hlt,aWj]
   by_cases c:l[k]∈s
   · rw[aJ (r:=.inr l[k]) (by unfold kH;rw[aTK (by omega),aM hlt];simp[aD4 s _ hs,c])];simp[c]
   · have e:kH l s (k:Int)=some (.inl ((k+1:Nat):Int)):=by
      unfold kH;rw[aTK (by omega),aM hlt];simp only[aTI,aD4 s _ hs,wi1 (by omega:k<=4294967296)];simp[c]
     rw[aS e,ih (k+1) (by omega)]
     simp only[c,aV9]
 have:=main l.length 0 (by omega)
 rw[show((0:Nat):Int)=0 from rfl,aUD]at this
 unfold wL aT
 rw[this]
 cases l.find? (fun u=>decide (u∈s)) <;> rfl
def aGu (c:Conditional):List Int:=c.fParents.map (·.fNode)
def upP (order:List Int)(c:Conditional):Int:=aT order (aGu c)
theorem aG6 {α:Type}{p q:α->Bool}:∀ {l:List α},(∀ x∈l,p x=q x)->l.find? p=l.find? q
 | [],_=>rfl
 | x::l,h=>by rw[aWj,aWj,h x (by simp),aG6 (fun y hy=>h y (by simp[hy]))]
theorem aTv {order:List Int}{c:Conditional}(ho:∀ u∈order,1<=u)(hl:order.length<=4294967296)(hc:c.fParents.length<=4294967296):aDb order c=some (upP order c):=by
 have:=(lW (step:=wK c) c.fParents (fun k t=>((k:Int),t)) (fun t x=>if(fun p:Parent=>decide (0<p.fNode)) x=true then t++[x.fNode]else t) (fun t=>t) (fun k t=>t.length<=k) (fun k t hk hi=>by
  constructor
  · unfold wK
    simp only[]
    rw[aTK (by omega),aM hk]
    simp only[aTI,wi1 (by omega:k<=4294967296)]
    by_cases c0:0<(c.fParents[k]).fNode
    · rw[aTK c0,aTK (by simpa using c0),aN (by omega)];rfl
    · rw[aTJ c0,aTJ (by simpa using c0)]
  · simp only[];split
    · rw[aT4,aUr];omega
    · omega) (fun t _=>by unfold wK;simp only[];rw[aTJ (by omega)]) [] (aUB _)).1
 rw[show((0:Nat):Int)=0 from rfl]at this
 have e:∀ (l:List Parent) (t:List Int),l.foldl (fun t x=>if(fun p:Parent=>decide (0<p.fNode)) x=true then t++[x.fNode]else t) t=t++(l.filter (fun p=>decide (0<p.fNode))).map (·.fNode):=by
  intro l
  induction l with
  | nil=>intro t;simp
  | cons x l ih =>
   intro t
   rw[aVe,ih,aUn]
   by_cases c0:0<x.fNode <;> simp[c0]
 rw[e,aTO]at this
 unfold aDb
 rw[this]
 simp only[aTI]
 have hf:=aVC (fun p:Parent=>decide (0<p.fNode)) c.fParents
 rw[aMK _ _ hl (by rw[aTZ];omega)]
 simp only[aTI]
 congr 1
 unfold upP aT
 congr 1
 refine aG6 fun u hu=>?_
 have:=ho u hu
 rw[Bool.eq_iff_iff,aVS,aVS]
 unfold aGu
 simp only[aT5,aUb,aUQ]
 constructor
 · rintro⟨p,⟨h1,_⟩,rfl⟩;exact⟨p,h1,rfl⟩
 · rintro⟨p,h1,rfl⟩;exact⟨p,⟨h1,by omega⟩,rfl⟩
theorem aE9 (c:Conditional)(v:Int)(h:c.fParents.length<=4294967296):rG c v=some (decide (v∈aGu c)):=by
 have main:∀ m k:Nat,m+k=c.fParents.length->lp (gU c v) (k:Int)=some (if v∈(c.fParents.drop k).map (·.fNode)then .inr true else .inl ()):=by
  intro m
  induction m with
  | zero =>
   intro k hk
   have:k=c.fParents.length:=by omega
   subst this
   rw[aJ (r:=.inl ()) (by unfold gU;rw[aTJ (by omega)]),aU3];simp
  | succ m ih =>
   intro k hk
   have hlt:k<c.fParents.length:=by omega
   rw[aTQ hlt,aTV]
   by_cases d:(c.fParents[k]).fNode=v
   · rw[aJ (r:=.inr true) (by unfold gU;rw[aTK (by omega),aM hlt];simp[d]),aTK (by simp[d])]
   · have e:gU c v (k:Int)=some (.inl ((k+1:Nat):Int)):=by
      unfold gU;rw[aTK (by omega),aM hlt];simp only[aTI,wi1 (by omega:k<=4294967296)];rw[aTJ d]
     rw[aS e,ih (k+1) (by omega)]
     have:(v∈(c.fParents[k]).fNode::(c.fParents.drop (k+1)).map (·.fNode))↔v∈(c.fParents.drop (k+1)).map (·.fNode):=by
      rw[aTM];exact⟨fun h=>h.resolve_left (fun e=>d e.symm),.inr⟩
     simp only[this]
 have:=main c.fParents.length 0 (by omega)
 rw[show((0:Nat):Int)=0 from rfl,aUD]at this
 unfold rG aGu
 rw[this]
 by_cases d:v∈c.fParents.map (·.fNode)
 · rw[aTK d,aTN d];rfl
 · rw[aTJ d,aTL d];rfl
theorem aSU (order:List Int)(v:Int)(own:List Link)(r:Conditional×List Link×Rat×Bool)(e:Rat)(hl:order.length<=4294967296)(hc:r.1.fParents.length<=4294967296):lp (fJ order v own r e) 0=some (TreeNode.mk v (upP order r.1) own r.1 r.2.1 e):=by
 have main:∀ m k:Nat,m+k=order.length->lp (fJ order v own r e) (k:Int)=some (TreeNode.mk v (aT (order.drop k) (aGu r.1)) own r.1 r.2.1 e):=by
  intro m
  induction m with
  | zero =>
   intro k hk
   have:k=order.length:=by omega
   subst this
   rw[aJ (by unfold fJ;rw[aTJ (by omega)]),aU3];rfl
  | succ m ih =>
   intro k hk
   have hlt:k<order.length:=by omega
   rw[aTQ hlt]
   unfold aT
   rw[aWj]
   by_cases d:order[k]∈aGu r.1
   · rw[aJ (r:=TreeNode.mk v order[k] own r.1 r.2.1 e) (by unfold fJ;rw[aTK (by omega),aM hlt];simp only[aTI,aE9 _ _ hc,aTN d,aT3])]
     simp[d]
   · have e:fJ order v own r e (k:Int)=some (.inl ((k+1:Nat):Int)):=by
      unfold fJ;rw[aTK (by omega),aM hlt];simp only[aTI,aE9 _ _ hc,wi1 (by omega:k<=4294967296),aTL d,aTP,aT9]
     rw[aS e,ih (k+1) (by omega)]
     simp only[d,aV9]
     rfl
 have:=main order.length 0 (by omega)
 rw[show((0:Nat):Int)=0 from rfl,aUD]at this
 exact this
def aBa (v:Int)(b:List TreeNode):List Link:=(b.filter (fun n=>decide (n.fUp=v))).flatMap (·.fMessages)
theorem aJ3 (v:Int):∀ (b:List TreeNode) (t:List Link),b.foldl (fun t n=>if n.fUp=v then t++n.fMessages else t) t=t++aBa v b
 | [],t=>by simp[aBa]
 | n::b,t=>by
  rw[aVe,aJ3 v b]
  unfold aBa
  rw[aUn]
  by_cases c:n.fUp=v <;> simp[c]
theorem aMq {v:Int}:∀ {b:List TreeNode},(∀ n∈b,LSet n.fMessages)->(aBa v b).length<=100*b.length
 | [],_=>by simp[aBa]
 | n::b,h=>by
  have:=aMq (v:=v) (b:=b) (fun m hm=>h m (by simp[hm]))
  have h1:=(h n (by simp)).len
  unfold aBa at this ⊢
  rw[aUn,aUh]
  split
  · rw[aUk,aT4];omega
  · omega
theorem aNm {v:Int}{b:List TreeNode}(h:∀ n∈b,LSet n.fMessages):∀ x∈aBa v b,ValidL x:=by
 intro x hx
 unfold aBa at hx
 obtain⟨n,hn,hx⟩:=aVh.1 hx
 exact(h n (aUb.1 hn).1).1 x hx
theorem aRw {step:(Int×List Link)->Option ((Int×List Link) ⊕ List Link)}(v:Int)(b:List TreeNode)(own:List Link)(ho:own.length<=4294967296)(hb:b.length<=4194304)(h:∀ n∈b,LSet n.fMessages)
 (hstep:step=fun s=>match s with | (v6,v7)=>(if(v6<(b.length:Int))then(idx b v6).bind fun y8=>(if(y8.fUp=v)then(chk ((v7.length+y8.fMessages.length)*184<=140737488355328)).bind fun _u=>(aX (v7++y8.fMessages)).bind fun v10=>some (.inl (i64.wrap (v6+1),v10))else some (.inl (i64.wrap (v6+1),v7)))else some (.inr v7))):lp step (0,own)=some (own++aBa v b):=by
 subst hstep
 have:=(lW (step:=fun s=>match s with | (v6,v7)=>(if(v6<(b.length:Int))then(idx b v6).bind fun y8=>(if(y8.fUp=v)then(chk ((v7.length+y8.fMessages.length)*184<=140737488355328)).bind fun _u=>(aX (v7++y8.fMessages)).bind fun v10=>some (.inl (i64.wrap (v6+1),v10))else some (.inl (i64.wrap (v6+1),v7)))else some (.inr v7))) b (fun k t=>((k:Int),t)) (fun t n=>if n.fUp=v then t++n.fMessages else t) (fun t=>t) (fun k t=>t.length<=4294967296+100*k) (fun k t hk hi=>by
  have hm:=(h _ (aT2 hk)).len
  constructor
  · simp only[]
    rw[aTK (by omega),aM hk]
    simp only[aTI,wi1 (by omega:k<=4294967296)]
    by_cases c:(b[k]).fUp=v
    · rw[aTK c,aTK c,aN (by omega)];rfl
    · rw[aTJ c,aTJ c]
  · split
    · rw[aT4];omega
    · omega) (fun t _=>by simp only[];rw[aTJ (by omega)]) own (by omega)).1
 rw[show((0:Nat):Int)=0 from rfl,aJ3]at this
 exact this
def aSQ:TreeNode:=TreeNode.mk 0 0 ([]) (Conditional.mk 0 (Rat.mk (BigInt.mk false ([])) ([])) ([])) ([]) (Rat.mk (BigInt.mk false ([])) ([]))
noncomputable def sS (order:List Int)(v:Int)(own:List Link)(b:List TreeNode):Option TreeNode :=
 (jnP (own++aBa v b)).bind fun x=>(aEx v x.1).bind fun y=>if bM (RA x.2 y.2.2)then some ⟨v,upP order y.1,own,y.1,y.2.1,RA x.2 y.2.2⟩else none
def pkN:Option TreeNode->TreeNode×Bool
 | some n=>(n,true)
 | none=>(aSQ,false)
theorem aQC {c:Conditional}(h:aV c<=20000):c.fParents.length<=20000:=by
 have:c.fParents.length<=nT c.fParents:=jW _ _
 unfold aV at h;omega
theorem aL2 (a b:List Link):aK (a++b)=aK a+aK b:=by unfold aK szL;simp
theorem aOP {order:List Int}{v:Int}{own:List Link}{b:List TreeNode}(hl:order.length<=4194304)(ho:∀ u∈order,1<=u)(hz:aK own<=4194304)(hb:b.length<=100)(hm:∀ n∈b,LSet n.fMessages)(hv:∀ x∈own,ValidL x) :
 aAU v own order b=some (pkN (sS order v own b))/\rH ⟨b⟩ order v own=some (pkN (sS order v own b)):=by
 have hol:own.length<=4194304:=aTY (jW _ _) hz
 have q1:=aRw (step:=aBp v b) v b own (by omega) (by omega) hm rfl
 have q2:=aRw (step:=uR ⟨b⟩ v) v b own (by omega) (by omega) hm rfl
 have hmv:=aNm (v:=v) hm
 have hml:=aMq (v:=v) hm
 have hall:∀ x∈own++aBa v b,ValidL x:=fun x hx=>(aTR.1 hx).elim (hv x) (hmv x)
 have hms:=aCn hmv
 have hsz:aK (own++aBa v b)<=4294967296:=by rw[aL2];omega
 have hln:(own++aBa v b).length<=4294967296:=by rw[aT4];omega
 have j1:=(aAd (own++aBa v b) hsz).1
 have j2:=aB3 hall hln
 unfold aAU rH sS
 rw[aCP own (by omega)]
 simp only[aTI,aTO,aUV]
 rw[aN (by omega),q1]
 simp only[aTI,wC]
 rw[q2,j1]
 simp only[aTI,j2]
 cases h:jnP (own++aBa v b)with
 | none =>
  simp only[pk,Option.bind_none,pkN]
  refine⟨?_,rfl⟩
  rw[(aGl aCm v).1]
  have e0:bB (pkR (aEx v [])).2.2.1<=4294967296:=by
   cases h2:aEx v []with
   | none=>exact VZs aCM
   | some y=>exact VZs (.inl (aIZ aCm (c:=y.1) (m:=y.2.1) (e:=y.2.2) h2).2.2.1)
  simp only[aTI]
  rw[(aTF (VZs aCM) e0).1]
  rfl
 | some x =>
  obtain⟨s,e⟩:=x
  obtain⟨_,hs,he⟩:=aB4 h
  simp only[pk,aTI,aT3]
  rw[(aGl hs v).1,(aGl hs v).2]
  simp only[aTI]
  cases h2:aEx v s with
  | none =>
   simp only[pkR,Option.bind_none,pkN]
   rw[(aBC (.inl he) aCM).1,(aBC (.inl he) aCM).2.1]
   exact⟨rfl,rfl⟩
  | some y =>
   obtain⟨c,m,f⟩:=y
   obtain⟨k1,k2,k3,_⟩:=aIZ hs h2
   have ra:=aBC (.inl he) (.inl k3)
   have hp:=aQC k1
   simp only[pkR,aTI,ra.1,ra.2.1,aT3]
   rw[eM _ (VZs ra.2.2),iQ ra.2.2,aTv ho (by omega) (by omega),aSU order v own (c,m,f,true) (RA e f) (by omega) (by show c.fParents.length<=_;omega)]
   simp only[aTI]
   by_cases g:bM (RA e f)
   · rw[aTN g,aTK g];exact⟨rfl,rfl⟩
   · rw[aTL g,aTJ g];exact⟨rfl,rfl⟩
theorem aGx {order:List Int}{v:Int}{own:List Link}{b:List TreeNode}{n:TreeNode}(h:sS order v own b=some n):LSet n.fMessages/\n.fOwn=own/\aV n.fCond<=20000/\bM n.fEnergy/\n.fNode=v/\n.fUp=upP order n.fCond:=by
 unfold sS at h
 cases h1:jnP (own++aBa v b)with
 | none=>rw[h1]at h;cases h
 | some x =>
  rw[h1,aTI]at h
  cases h2:aEx v x.1 with
  | none=>rw[h2]at h;cases h
  | some y =>
   rw[h2,aTI]at h
   obtain⟨_,hs,he⟩:=aB4 (s:=x.1) (e:=x.2) h1
   obtain⟨k1,k2,k3,_⟩:=aIZ hs (c:=y.1) (m:=y.2.1) (e:=y.2.2) h2
   split at h
   · rename_i g;cases h;exact⟨k2,rfl,k1,g,rfl,rfl⟩
   · cases h
/- The nodes of a link set, orders of elimination, whose a link is, both programs. -/
def aFj:List Int:=(List.range 9).map (fun k:Nat=>(k:Int)+1)
theorem aOS {x:Int}:x∈aFj↔1<=x/\x<=9:=by
 unfold aFj
 simp only[aT5,aWp]
 constructor
 · rintro⟨k,h,rfl⟩;omega
 · intro h;exact⟨(x-1).toNat,by omega,by omega⟩
theorem aGy:aFj.length=9:=by decide
theorem aOT (k:Nat)(h:k<aFj.length):aFj[k]=(k:Int)+1:=by simp[aFj]
def fF (s:List Link):List Int:=aFj.filter (fun v=>s.any (tch v))
theorem yK (s:List Link):(fF s).Pairwise (· < ·):=by
 have:aFj.Pairwise (· < ·):=by decide
 exact this.sublist List.filter_sublist
theorem tS (s:List Link):(fF s).length<=9:=by
 have:=aVC (fun v=>s.any (tch v)) aFj
 rw[aGy]at this;exact this
theorem aA6 {s:List Link}{x:Int}:x∈fF s↔(1<=x/\x<=9)/\∃ l∈s,l.fA=x\/l.fB=x:=by
 unfold fF
 rw[aUb,aOS,aWt]
 simp only[tch,aUQ]
def aHw (t:List Int)(l:Link):List Int:=aBz (if 0<l.fA then aBz t l.fA else t) l.fB
theorem aJU {t:List Int}(l:Link)(h:t.Pairwise (· < ·)):(aHw t l).Pairwise (· < ·):=by
 unfold aHw;split
 · exact xC _ _ (xC _ _ h)
 · exact xC _ _ h
theorem aOx {t:List Int}{l:Link}{x:Int}:x∈aHw t l↔x=l.fB\/(x=l.fA/\0<x)\/x∈t:=by
 unfold aHw;split
 · rw[aAx,aAx]
   constructor
   · rintro(h | h | h)
     · exact .inl h
     · exact .inr (.inl ⟨h,by omega⟩)
     · exact .inr (.inr h)
   · rintro(h | ⟨h,_⟩ | h)
     · exact .inl h
     · exact .inr (.inl h)
     · exact .inr (.inr h)
 · rw[aAx]
   constructor
   · rintro(h | h)
     · exact .inl h
     · exact .inr (.inr h)
   · rintro(h | ⟨h,_⟩ | h)
     · exact .inl h
     · omega
     · exact .inr h
theorem aOy (t:List Int)(l:Link):(aHw t l).length<=t.length+2:=by
 unfold aHw;split
 · have:=aAy (aBz t l.fA) l.fB;have:=aAy t l.fA;omega
 · have:=aAy t l.fB;omega
theorem aIj:∀ (s:List Link) (t:List Int) (x:Int),x∈s.foldl aHw t↔x∈t\/∃ l∈s,x=l.fB\/(x=l.fA/\0<x)
 | [],t,x=>by simp
 | l::s,t,x=>by
  rw[aVe,aIj s,aOx]
  simp only[aTM,exists_eq_or_imp]
  constructor
  · rintro((h | h | h) | h)
    · exact .inr (.inl (.inl h))
    · exact .inr (.inl (.inr h))
    · exact .inl h
    · exact .inr (.inr h)
  · rintro(h | (h | h) | h)
    · exact .inl (.inr (.inr h))
    · exact .inl (.inl h)
    · exact .inl (.inr (.inl h))
    · exact .inr h
theorem aD9:∀ (s:List Link) (t:List Int),t.Pairwise (· < ·)->(s.foldl aHw t).Pairwise (· < ·)
 | [],t,h=>h
 | l::s,t,h=>aD9 s _ (aJU l h)
theorem aET {s:List Link}(hs:LSet s):nZ s=some (fF s):=by
 have hl:=hs.len
 have:=(lW (step:=oS s) s (fun k t=>(t,(k:Int))) aHw (fun t=>t) (fun k t=>t.length<=2*k) (fun k t hk hi=>by
  constructor
  · unfold oS
    simp only[]
    rw[aTK (by omega),aM hk]
    simp only[aTI,wi1 (by omega:k<=4294967296)]
    unfold aHw
    by_cases c:0<(s[k]).fA
    · rw[aTK c,aTK c,aJT _ _ (by omega)]
      simp only[aTI]
      rw[aJT _ _ (by have:=aAy t (s[k]).fA;omega)];rfl
    · rw[aTJ c,aTJ c]
      simp only[aTI]
      rw[aJT _ _ (by omega)];rfl
  · have:=aOy t s[k];omega) (fun t _=>by unfold oS;simp only[];rw[aTJ (by omega)]) [] (aUB _)).1
 rw[show((0:Nat):Int)=0 from rfl]at this
 unfold nZ
 rw[mB s (by have:=hs.sz;omega),aTN hs]
 simp only[aTI,aT3,this]
 congr 1
 refine aAT (aD9 _ _ List.Pairwise.nil) (yK s) fun x=>?_
 rw[aIj,aA6]
 constructor
 · rintro(h | ⟨l,hl,h⟩)
   · cases h
   · have v:=hs.1 l hl
     rcases h with rfl | ⟨rfl,h0⟩
     · exact⟨⟨by have:=v.2.2.1;have:=v.1.1;omega,v.2.1.2⟩,l,hl,.inr rfl⟩
     · exact⟨⟨by omega,v.1.2⟩,l,hl,.inl rfl⟩
 · rintro⟨h1,l,hl,h⟩
   refine .inr ⟨l,hl,?_⟩
   rcases h with h | h
   · exact .inr ⟨h.symm,by omega⟩
   · exact .inl h.symm
theorem aLi {s:List Link}(hs:s.length<=4294967296)(v:Int)(t:List Int)(ht:t.length<=1000):lp (gZ s v t) 0=some (if s.any (tch v)=true then t++[v]else t):=by
 have main:∀ m k:Nat,m+k=s.length->lp (gZ s v t) (k:Int)=some (if(s.drop k).any (tch v)=true then t++[v]else t):=by
  intro m
  induction m with
  | zero =>
   intro k hk
   have:k=s.length:=by omega
   subst this
   rw[aJ (r:=t) (by unfold gZ;rw[aTJ (by omega)]),aU3];rfl
  | succ m ih =>
   intro k hk
   have hlt:k<s.length:=by omega
   have e0:((if(s[k]).fA=v then some true else some (decide ((s[k]).fB=v))):Option Bool)=some (tch v s[k]):=by
    unfold tch;by_cases A:(s[k]).fA=v <;> by_cases B:(s[k]).fB=v <;> simp[A,B]
   rw[aTQ hlt,List.any_cons]
   by_cases c:tch v s[k]=true
   · rw[aJ (r:=t++[v]) (by unfold gZ;rw[aTK (by omega),aM hlt];simp only[aTI,e0,c,aT3];rw[aN (by omega)];rfl)]
     simp[c]
   · have e:gZ s v t (k:Int)=some (.inl ((k+1:Nat):Int)):=by
      unfold gZ;rw[aTK (by omega),aM hlt];simp only[aTI,e0,wi1 (by omega:k<=4294967296)];rw[aTJ c]
     rw[aS e,ih (k+1) (by omega)]
     simp only[Bool.not_eq_true]at c
     simp[c]
 have:=main s.length 0 (by omega)
 rw[show((0:Nat):Int)=0 from rfl,aUD]at this
 exact this
theorem aIa {s:List Link}(hs:s.length<=4294967296):kA s=some (fF s):=by
 have:=(lW (step:=pB s) aFj (fun k t=>((k:Int)+1,t)) (fun t v=>if(fun v=>s.any (tch v)) v=true then t++[v]else t) (fun t=>t) (fun k t=>t.length<=k) (fun k t hk hi=>by
  have hk9:k<9:=by rw[aGy]at hk;exact hk
  constructor
  · unfold pB
    simp only[]
    rw[aTK (by omega),aLi hs _ _ (by omega),aOT]
    have w:IntKind.i64.wrap ((k:Int)+1+1)=((k+1:Nat):Int)+1:=by rw[wi (by omega)];omega
    simp only[aTI,w]
  · simp only[];split
    · rw[aT4,aUr];omega
    · omega) (fun t _=>by unfold pB;simp only[];rw[aGy,aTJ (by omega)]) [] (aUB _)).1
 rw[show((0:Nat):Int)+1=1 from rfl,yC,aTO]at this
 unfold kA
 rw[this];rfl
def isOrd (s:List Link)(o:List Int):Prop:=o.Nodup/\(∀ y∈o,y∈fF s)/\o.length=(fF s).length
instance (s:List Link)(o:List Int):Decidable (isOrd s o):=by unfold isOrd;exact inferInstance
theorem aI4:∀ {a b:List Int},a.Nodup->(∀ x∈a,x∈b)->b.length<=a.length->b.Perm a
 | [],b,_,_,h=>by
  have:b=[]:=List.eq_nil_of_length_eq_zero (by simpa using h)
  rw[this]
 | x::a,b,hn,hs,h=>by
  rw[aUM]at hn
  have hx:=hs x (by simp)
  have p:=List.perm_cons_erase hx
  have hl:=p.length_eq
  rw[aUh]at hl h
  refine p.trans (List.Perm.cons x (aI4 hn.2 (fun y hy=>?_) (by omega)))
  have:y≠x:=fun e=>hn.1 (e▸hy)
  exact(List.mem_erase_of_ne this).2 (hs y (by simp[hy]))
theorem aNs {l:List Int}(h:l.Pairwise (· < ·)):l.Nodup:=h.imp (fun {a b} hab e=>by subst e;omega)
theorem aIh (s:List Link)(o:List Int):isOrd s o↔(∀ v∈fF s,v∈o)/\o.length=(fF s).length:=by
 have hn:=aNs (yK s)
 constructor
 · rintro⟨h1,h2,h3⟩
   have p:=aI4 h1 h2 (by omega)
   exact⟨fun v hv=>p.mem_iff.1 hv,h3⟩
 · rintro⟨h1,h2⟩
   have p:=aI4 hn h1 (by omega)
   exact⟨p.nodup_iff.2 hn,fun y hy=>p.mem_iff.1 hy,h2⟩
theorem aGY {s:List Link}{o:List Int}(h:isOrd s o):o.length<=9/\(∀ u∈o,1<=u):=by
 have:=tS s
 exact⟨by rw[h.2.2];exact this,fun u hu=>(aA6.1 (h.2.1 u hu)).1.1⟩
theorem aG7 {σ:Type}{step:σ->Option (σ ⊕ (Unit ⊕ Bool))}(n:Nat)(E:Nat->σ)(G:Nat->Prop)(h1:∀ k:Nat,k<n->(G k/\step (E k)=some (.inl (E (k+1))))\/(¬G k/\step (E k)=some (.inr (.inr false))))(h2:step (E n)=some (.inr (.inl ()))) :
 (lp step (E 0)=some (.inl ())/\∀ k,k<n->G k)\/(lp step (E 0)=some (.inr false)/\∃ k,k<n/\¬G k):=by
 have main:∀ m k:Nat,m+k=n->(lp step (E k)=some (.inl ())/\∀ j,k<=j->j<n->G j)\/(lp step (E k)=some (.inr false)/\∃ j,j<n/\¬G j):=by
  intro m
  induction m with
  | zero =>
   intro k hk
   have:k=n:=by omega
   subst this
   exact .inl ⟨aJ h2,fun j _ _=>by omega⟩
  | succ m ih =>
   intro k hk
   rcases h1 k (by omega)with⟨g,e⟩ | ⟨g,e⟩
   · rw[aS e]
     rcases ih (k+1) (by omega)with⟨a,b⟩ | ⟨a,b⟩
     · refine .inl ⟨a,fun j h1 h2=>?_⟩
       by_cases e:j=k
       · subst e;exact g
       · exact b j (by omega) h2
     · exact .inr ⟨a,b⟩
   · exact .inr ⟨aJ e,k,by omega,g⟩
 rcases main n 0 (by omega)with⟨a,b⟩ | ⟨a,b⟩
 · exact .inl ⟨a,fun j h=>b j (aUB _) h⟩
 · exact .inr ⟨a,b⟩
theorem aA5 {l:List Int}:l.Nodup↔∀ k (h:k<l.length),l[k]∉l.take k:=by
 unfold List.Nodup
 rw[aVm]
 constructor
 · intro h k hk hm
   obtain⟨j,hj,e⟩:=aWw.1 hm
   rw[aUo]at hj
   rw[List.getElem_take]at e
   exact h j k (by omega) hk (by omega) e
 · intro h i j hi hj hij e
   refine h j hj ?_
   rw[<- e]
   exact aWw.2 ⟨i,by rw[aUo];omega,by rw[List.getElem_take]⟩
theorem aLZ {s:List Link}(hs:LSet s)(o:List Int)(ho:o.length<=4194304):aAY s o=some (decide (isOrd s o)):=by
 have hn:=tS s
 unfold aAY
 rw[aET hs]
 simp only[aTI]
 have L:=aG7 (step:=tJ o (fF s)) o.length (fun k=>((k:Int),o.take k)) (fun k=>∀ h:k<o.length,o[k]∈fF s/\o[k]∉o.take k) (fun k hk=>by
  have tl:(o.take k).length<=k:=by rw[aUo];omega
  have tk:o.take (k+1)=o.take k++[o[k]]:=by rw[aVH,aTS hk];rfl
  unfold tJ
  simp only[]
  rw[aTK (by omega),aM hk]
  simp only[aTI,aD4 (fF s) _ (by omega),aD4 (o.take k) _ (by omega),wi1 (by omega:k<=4294967296)]
  by_cases A:o[k]∈fF s
  · by_cases B:o[k]∈o.take k
    · right
      refine⟨fun h=>(h hk).2 B,?_⟩
      rw[aTN A,aTN B];rfl
    · left
      refine⟨fun h=>⟨A,B⟩,?_⟩
      rw[aTN A,aTL B]
      simp only[aT3,aTI,aTP,aT9]
      rw[aN (by omega),tk];rfl
  · right
    refine⟨fun h=>A (h hk).1,?_⟩
    rw[aTL A];rfl) (by unfold tJ;simp only[];rw[aTJ (by omega)])
 simp only[aVF]at L
 rw[show((0:Nat):Int)=0 from rfl]at L
 rcases L with⟨e,g⟩ | ⟨e,k,hk,g⟩
 · rw[e]
   simp only[aTI]
   rw[mB s (by have:=hs.sz;omega),aTN hs]
   simp only[aTI,aT3]
   congr 1
   rw[Bool.eq_iff_iff,aVS,aVS]
   constructor
   · intro h
     refine⟨aA5.2 (fun k hk=>(g k hk hk).2),fun y hy=>?_,by omega⟩
     obtain⟨j,hj,rfl⟩:=aWw.1 hy
     exact(g j hj hj).1
   · intro h;rw[h.2.2]
 · rw[e]
   have:¬isOrd s o:=fun h=>g (fun hk=>⟨h.2.1 _ (aT2 hk),aA5.1 h.1 k hk⟩)
   rw[aTL this];rfl
theorem aEm (s:List Link)(h:aK s<=4294967296):fS s=some (decide (LSet s)):=by
 rw[<- mB s h]
 unfold fS dR
 have:lp (qE s) 0=lp (fH s) 0:=by
  refine aO4 (fun _=>True) (fun v _=>⟨?_,fun _ _=>trivial⟩) _ trivial
  unfold qE fH
  cases e:idx s v with
  | none=>rfl
  | some y =>
   have hy:y∈s:=List.mem_of_getElem? (aD8 e).2.1
   have hz:=qB (w:=bW) hy
   unfold aK at h
   have q:=gO y (by omega)
   simp only[aTI,q.1,q.2,aKP,aHr]
 rw[this]
theorem aL0 {s:List Link}(hs:LSet s)(o:List Int)(ho:o.length<=4194304):uU s o=some (decide (isOrd s o)):=by
 have hn:=tS s
 unfold uU
 have il:fS s=some true:=by rw[aEm s (by have:=hs.sz;omega),aTN hs]
 rw[il,aIa (by have:=hs.len;omega)]
 simp only[aTI,aT3]
 have L:=aG7 (step:=pJ o (fF s)) (fF s).length (fun k=>(k:Int)) (fun k=>∀ h:k<(fF s).length,(fF s)[k]∈o) (fun k hk=>by
  unfold pJ
  rw[aTK (by omega),aM hk]
  simp only[aTI,aB7 o _ (by omega),wi1 (by omega:k<=4294967296)]
  by_cases A:(fF s)[k]∈o
  · exact .inl ⟨fun _=>A,by rw[aTN A];rfl⟩
  · exact .inr ⟨fun h=>A (h hk),by rw[aTL A];rfl⟩) (by unfold pJ;rw[aTJ (by omega)])
 rw[show((0:Nat):Int)=0 from rfl]at L
 rcases L with⟨e,g⟩ | ⟨e,k,hk,g⟩
 · rw[e]
   simp only[aTI]
   congr 1
   rw[Bool.eq_iff_iff,aVS,aVS,aIh]
   constructor
   · intro h
     refine⟨fun v hv=>?_,by omega⟩
     obtain⟨j,hj,rfl⟩:=aWw.1 hv
     exact g j hj hj
   · intro h;rw[h.2]
 · rw[e]
   have:¬isOrd s o:=fun h=>g (fun hk=>((aIh s o).1 h).1 _ (aT2 hk))
   rw[aTL this];rfl
def qT (o:List Int)(v:Int)(l:Link):Bool:=decide (aT o [l.fA,l.fB]=v)
theorem aQD (o:List Int)(l:Link)(h:o.length<=4294967296):aAf o l=some (aT o [l.fA,l.fB]):=by
 unfold aAf
 rw[aMK _ _ h (by simp)];rfl
theorem aNy {o s:List Int}{v:Int}(h:aT o s=v)(hv:v≠0):v∈s/\v∈o:=by
 unfold aT at h
 cases e:o.find? (fun u=>decide (u∈s))with
 | none=>rw[e]at h;exact absurd h.symm hv
 | some x =>
  rw[e]at h
  simp only[Option.getD_some]at h
  subst h
  exact⟨by simpa using List.find?_some e,List.mem_of_find?_eq_some e⟩
theorem aLw {o s:List Int}{k:Nat}(hk:k<o.length)(hn:o.Nodup)(h1:∀ u∈o,1<=u):aT o s=o[k]↔o[k]∈s/\∀ u∈o.take k,u∉s:=by
 have ef:o.find? (fun u=>decide (u∈s))=((o.take k).find? (fun u=>decide (u∈s))).or ((o[k]::o.drop (k+1)).find? (fun u=>decide (u∈s))):=by
  rw[<- List.find?_append,<- aTQ hk,aUx]
 have hnt:=aA5.1 hn k hk
 constructor
 · intro h
   have hp:=h1 _ (aT2 hk)
   refine⟨(aNy h (by omega)).1,fun u hu hus=>?_⟩
   unfold aT at h
   rw[ef]at h
   cases f:(o.take k).find? (fun u=>decide (u∈s))with
   | none =>
    rw[List.find?_eq_none]at f
    exact f u hu (by simpa using hus)
   | some x =>
    have hx:=List.mem_of_find?_eq_some f
    rw[f]at h
    simp only[Option.some_or,Option.getD_some]at h
    rw[h]at hx
    exact hnt hx
 · rintro⟨a,b⟩
   unfold aT
   rw[ef]
   have:(o.take k).find? (fun u=>decide (u∈s))=none:=by
    rw[List.find?_eq_none];intro u hu;simpa using b u hu
   rw[this,Option.none_or,aWj]
   simp[a]
/- Building a tree, both programs, and the law. -/
theorem uQ (c:Conditional)(h:aV c<=4294967296):gJ c=some c:=by
 have hp:=jW jN c.fParents
 unfold aV nT at h
 unfold gJ
 rw[jA _ (by omega)]
 simp only[aTI]
 have:=sV (step:=gH c) c.fParents (fun k t=>((k:Int),t)) (fun t=>t) (fun k t hk ht=>by
  have he:=qB (w:=jN) (aT2 hk)
  have hn:jN c.fParents[k]=bB (c.fParents[k]).fShare+bB (c.fParents[k]).fDX+bB (c.fParents[k]).fDY:=rfl
  unfold gH
  simp only[]
  rw[aTK (by omega),aM hk]
  simp only[aTI]
  rw[jA _ (by omega)]
  simp only[aTI]
  rw[jA _ (by omega)]
  simp only[aTI]
  rw[jA _ (by omega)]
  simp only[aTI]
  rw[aN (by omega),wi (by omega)];rfl) (fun t ht=>by unfold gH;simp only[];rw[aTJ (by omega)])
 rw[show((0:Nat):Int)=0 from rfl]at this
 rw[this];rfl
theorem aNb (s:List Link)(o:List Int)(v:Int)(hs:s.length<=4194304)(ho:o.length<=4194304):lp (lS s o v) (0,[])=some (s.filter (qT o v)):=by
 have:=(lW (step:=lS s o v) s (fun k t=>((k:Int),t)) (fun t x=>if qT o v x=true then t++[x]else t) (fun t=>t) (fun k t=>t.length<=k) (fun k t hk hi=>by
  constructor
  · unfold lS
    simp only[]
    rw[aTK (by omega),aM hk]
    simp only[aTI,aQD o _ (by omega:o.length<=4294967296),wi1 (by omega:k<=4294967296)]
    by_cases c:aT o [(s[k]).fA,(s[k]).fB]=v
    · rw[aTK c,aTK (by unfold qT;simpa using c),aN (by omega)];rfl
    · rw[aTJ c,aTJ (by unfold qT;simpa using c)]
  · split
    · rw[aT4,aUr];omega
    · omega) (fun t _=>by unfold lS;simp only[];rw[aTJ (by omega)]) [] (aUB _)).1
 rw[show((0:Nat):Int)=0 from rfl,yC,aTO]at this
 exact this
theorem aN4 (o:List Int)(k:Nat)(hk:k<=o.length):sub o 0 (k:Int)=some (o.take k):=by
 rw[qC _ _ _ (by omega)];simp
theorem aOE (o:List Int)(hn:o.Nodup)(h1:∀ u∈o,1<=u)(ho:o.length<=4194304)(k:Nat)(hk:k<o.length)(l:Link)(hl:l.fA<l.fB) :
 ((if l.fA=o[k]then(sub o 0 (k:Int)).bind fun y57=>(gG y57 l.fB).bind fun r58=>(if r58=true then(if l.fB=o[k]then(sub o 0 (k:Int)).bind fun y59=>(gG y59 l.fA).bind fun r60=>some (!r60)else some false)else some true)else(if l.fB=o[k]then(sub o 0 (k:Int)).bind fun y61=>(gG y61 l.fA).bind fun r62=>some (!r62)else some false)):Option Bool)=some (qT o o[k] l):=by
 have tl:(o.take k).length<=4294967296:=by rw[aUo];omega
 have hnt:=aA5.1 hn k hk
 have ft:=aLw (s:=[l.fA,l.fB]) hk hn h1
 rw[aN4 o k (by omega)]
 simp only[aTI,aB7 _ _ tl]
 unfold qT
 by_cases A:l.fA=o[k]
 · have B:¬l.fB=o[k]:=by omega
   rw[aTK A,aTJ B]
   by_cases C:l.fB∈o.take k
   · rw[aTN C,aTK rfl]
     have:¬aT o [l.fA,l.fB]=o[k]:=fun h=>(ft.1 h).2 _ C (by simp)
     rw[aTL this]
   · rw[aTL C]
     have:aT o [l.fA,l.fB]=o[k]:=ft.2 ⟨by simp[A],fun u hu hs=>by
      rcases aTM.1 hs with rfl | hs
      · exact hnt (A▸hu)
      · rw[aUA.1 hs]at hu;exact C hu⟩
     rw[aTN this];rfl
 · rw[aTJ A]
   by_cases B:l.fB=o[k]
   · rw[aTK B]
     by_cases C:l.fA∈o.take k
     · have:¬aT o [l.fA,l.fB]=o[k]:=fun h=>(ft.1 h).2 _ C (by simp)
       rw[aTN C,aTL this];rfl
     · have:aT o [l.fA,l.fB]=o[k]:=ft.2 ⟨by simp[B],fun u hu hs=>by
        rcases aTM.1 hs with rfl | hs
        · exact C hu
        · rw[aUA.1 hs]at hu;exact hnt (B▸hu)⟩
       rw[aTL C,aTN this];rfl
   · rw[aTJ B]
     have:¬aT o [l.fA,l.fB]=o[k]:=fun h=>by
      have:=(ft.1 h).1
      simp only[aTM,aVN,or_false]at this
      rcases this with e | e
      · exact A e.symm
      · exact B e.symm
     rw[aTL this]
theorem aNc (s:List Link)(o:List Int)(hs:s.length<=4194304)(ho:o.length<=4194304)(hv:∀ x∈s,ValidL x)(hn:o.Nodup)(h1:∀ u∈o,1<=u)(i:Nat)(hi:i<o.length):lp (jK s o o[i] (i:Int)) (0,[])=some (s.filter (qT o o[i])):=by
 have:=(lW (step:=jK s o o[i] (i:Int)) s (fun k t=>((k:Int),t)) (fun t x=>if qT o o[i] x=true then t++[x]else t) (fun t=>t) (fun k t=>t.length<=k) (fun k t hk hj=>by
  constructor
  · unfold jK
    simp only[]
    rw[aTK (by omega),aM hk]
    have oc:=aOE o hn h1 ho i hi s[k] (hv _ (aT2 hk)).2.2.1
    simp only[aTI,wi1 (by omega:k<=4294967296)]
    rw[oc]
    simp only[aTI]
    by_cases c:qT o o[i] s[k]=true
    · rw[aTK c,aTK c,aN (by omega)];rfl
    · rw[aTJ c,aTJ c]
  · split
    · rw[aT4,aUr];omega
    · omega) (fun t _=>by unfold jK;simp only[];rw[aTJ (by omega)]) [] (aUB _)).1
 rw[show((0:Nat):Int)=0 from rfl,yC,aTO]at this
 exact this
noncomputable def wS (s:List Link)(o:List Int):List Int->List TreeNode->Option (List TreeNode)
 | [],b=>some b
 | v::r,b=>(sS o v (s.filter (qT o v)) b).bind fun n=>wS s o r (b++[n])
noncomputable def zB (s:List Link)(o:List Int):Option Tree :=
 (jnP s).bind fun x=>if isOrd x.1 o then(wS s o o []).map Tree.mk else none
def pkT:Option Tree->Tree×Bool
 | some t=>(t,true)
 | none=>(Tree.mk [],false)
def aRY:Option (List TreeNode)->(List TreeNode) ⊕ (Tree×Bool)
 | some b=>.inl b
 | none=>.inr (Tree.mk [],false)
def NodeOk (s:List Link)(o:List Int)(n:TreeNode):Prop:=LSet n.fMessages/\n.fOwn=s.filter (qT o n.fNode)/\aV n.fCond<=20000/\bM n.fEnergy/\n.fUp=upP o n.fCond
theorem aAS (p:Link->Bool):∀ s:List Link,aK (s.filter p)<=aK s
 | []=>aTU _
 | x::s=>by
  have:=aAS p s
  unfold aK at this ⊢
  rw[aUn,oP]
  split
  · rw[oP];omega
  · omega
theorem aLj {s:List Link}{o:List Int}{v:Int}{b:List TreeNode}{n:TreeNode}(h:sS o v (s.filter (qT o v)) b=some n):NodeOk s o n/\n.fNode=v:=by
 obtain⟨h1,h2,h3,h4,h5,h6⟩:=aGx h
 exact⟨⟨h1,by rw[h5];exact h2,h3,h4,h6⟩,h5⟩
theorem aBG {s:List Link}{o:List Int}:∀ (r:List Int) (b b':List TreeNode),(∀ n∈b,NodeOk s o n)->wS s o r b=some b'->(∀ n∈b',NodeOk s o n)/\b'.map (·.fNode)=b.map (·.fNode)++r
 | [],b,b',h,e=>by cases e;exact⟨h,by simp⟩
 | v::r,b,b',h,e=>by
  rw[wS]at e
  cases h1:sS o v (s.filter (qT o v)) b with
  | none=>rw[h1]at e;cases e
  | some n =>
   rw[h1,aTI]at e
   obtain⟨g1,g2⟩:=aLj h1
   obtain⟨k1,k2⟩:=aBG r (b++[n]) b' (fun m hm=>by
    rcases aTR.1 hm with hm | hm
    · exact h m hm
    · rw[aUA.1 hm];exact g1) e
   exact⟨k1,by rw[k2,aUF,aT0];simp[g2]⟩
theorem aKS (s:List Link)(o:List Int)(hz:aK s<=4194304)(hv:∀ x∈s,ValidL x)(ho:o.length<=9)(h1:∀ u∈o,1<=u):∀ m k:Nat,m+k=o.length->∀ b:List TreeNode,b.length=k->(∀ n∈b,LSet n.fMessages)->lp (lR s o) ((k:Int),b)=some (aRY (wS s o (o.drop k) b)):=by
 have hl:s.length<=4194304:=aTY (jW _ _) hz
 intro m
 induction m with
 | zero =>
  intro k hk b hb hm
  rw[aUe (by omega)]
  exact aJ (by unfold lR;simp only[];rw[aTJ (by omega)];rfl)
 | succ m ih =>
  intro k hk b hb hm
  have hlt:k<o.length:=by omega
  rw[aTQ hlt,wS]
  have nq:=(aOP (v:=o[k]) (own:=s.filter (qT o o[k])) (b:=b) (by omega:o.length<=4194304) h1 (aTY (aAS _ s) hz) (by omega) hm (fun x hx=>hv x (aUb.1 hx).1)).1
  have st:lR s o ((k:Int),b)=some (match sS o o[k] (s.filter (qT o o[k])) b with | some n=>.inl (((k+1:Nat):Int),b++[n]) | none=>.inr (.inr (Tree.mk [],false))):=by
   unfold lR
   simp only[]
   rw[aTK (by omega),aM hlt]
   simp only[aTI,aNb s o o[k] hl (by omega),nq,wi1 (by omega:k<=4294967296)]
   cases sS o o[k] (s.filter (qT o o[k])) b with
   | none=>rfl
   | some n=>simp only[pkN,aT3];rw[aN (by omega)];rfl
  cases h:sS o o[k] (s.filter (qT o o[k])) b with
  | none=>rw[h]at st;rw[aJ st];rfl
  | some n =>
   rw[h]at st
   rw[aS st,aTI]
   exact ih (k+1) (by omega) _ (by simp[hb]) (fun x hx=>by
    rcases aTR.1 hx with hx | hx
    · exact hm x hx
    · rw[aUA.1 hx];exact(aGx h).1)
theorem aKV (s:List Link)(o:List Int)(hz:aK s<=4194304)(hv:∀ x∈s,ValidL x)(ho:o.length<=9)(hn:o.Nodup)(h1:∀ u∈o,1<=u):∀ m k:Nat,m+k=o.length->∀ b:List TreeNode,b.length=k->(∀ n∈b,LSet n.fMessages)->lp (jJ s o) ((k:Int),b)=some (aRY (wS s o (o.drop k) b)):=by
 have hl:s.length<=4194304:=aTY (jW _ _) hz
 intro m
 induction m with
 | zero =>
  intro k hk b hb hm
  rw[aUe (by omega)]
  exact aJ (by unfold jJ;simp only[];rw[aTJ (by omega)];rfl)
 | succ m ih =>
  intro k hk b hb hm
  have hlt:k<o.length:=by omega
  rw[aTQ hlt,wS]
  have nq:=(aOP (v:=o[k]) (own:=s.filter (qT o o[k])) (b:=b) (by omega:o.length<=4194304) h1 (aTY (aAS _ s) hz) (by omega) hm (fun x hx=>hv x (aUb.1 hx).1)).2
  have st:jJ s o ((k:Int),b)=some (match sS o o[k] (s.filter (qT o o[k])) b with | some n=>.inl (((k+1:Nat):Int),b++[n]) | none=>.inr (.inr (Tree.mk [],false))):=by
   unfold jJ
   simp only[]
   rw[aTK (by omega),aM hlt]
   simp only[aTI,aNc s o hl (by omega) hv hn h1 k hlt,nq,wi1 (by omega:k<=4294967296)]
   cases sS o o[k] (s.filter (qT o o[k])) b with
   | none=>rfl
   | some n=>simp only[pkN,aT3];rw[aN (by omega)];rfl
  cases h:sS o o[k] (s.filter (qT o o[k])) b with
  | none=>rw[h]at st;rw[aJ st];rfl
  | some n =>
   rw[h]at st
   rw[aS st,aTI]
   exact ih (k+1) (by omega) _ (by simp[hb]) (fun x hx=>by
    rcases aTR.1 hx with hx | hx
    · exact hm x hx
    · rw[aUA.1 hx];exact(aGx h).1)
theorem NodeOk.sz {s:List Link}{o:List Int}{n:TreeNode}(h:NodeOk s o n)(hz:aK s<=4194304):bU n<=4300000:=by
 have h1:=h.1.sz
 have h2:aK n.fOwn<=4194304:=by rw[h.2.1];exact aTY (aAS _ s) hz
 have h3:=mL (.inl h.2.2.2.1)
 have h4:=h.2.2.1
 unfold bU;omega
theorem aLG (n:TreeNode)(h:bU n<=4294967296):lY n=some n:=by
 unfold bU at h
 unfold lY
 rw[rZ _ (by omega),uQ _ (by omega)]
 simp only[aTI]
 rw[rZ _ (by omega),jA _ (by omega)]
 rfl
theorem aLF (t:Tree)(h:mP t<=4294967296):sY t=some t:=by
 unfold mP pN at h
 have hl:=jW bU t.fNodes
 unfold sY
 have:=sV (step:=nH t) t.fNodes (fun k t=>((k:Int),t)) (fun t=>t) (fun k u hk hu=>by
  have he:=qB (w:=bU) (aT2 hk)
  unfold nH
  simp only[]
  rw[aTK (by omega),aM hk]
  simp only[aTI]
  rw[aLG _ (by omega)]
  simp only[aTI]
  rw[aN (by omega),wi1 (by omega)];rfl) (fun t ht=>by unfold nH;simp only[];rw[aTJ (by omega)])
 rw[show((0:Nat):Int)=0 from rfl]at this
 rw[this];rfl
theorem aQi {s:List Link}{o:List Int}{b:List TreeNode}(hz:aK s<=4194304)(ho:o.length<=9)(h:wS s o o []=some b):mP ⟨b⟩<=38700018:=by
 obtain⟨h1,h2⟩:=aBG o [] b (by simp) h
 have hl:b.length=o.length:=by have:=congrArg List.length h2;simpa using this
 have:pN b<=(4300000+1)*b.length:=aEq (fun n hn=>(h1 n hn).sz hz)
 unfold mP
 have:(4300000+1)*b.length<=4300001*9:=aUd (aTU _) (by omega)
 simp only[]
 omega
theorem aJz (s:List Link)(o:List Int)(hz:aK s<=4194304)(ho:o.length<=4194304):yF s o=some (pkT (zB s o))/\nL s o=some (pkT (zB s o)):=by
 obtain⟨j1,j2⟩:=aAd s (by omega)
 unfold yF nL zB
 rw[j1,j2]
 cases h:jnP s with
 | none=>exact⟨rfl,rfl⟩
 | some x =>
  obtain⟨u,e⟩:=x
  obtain⟨hv,hs,he⟩:=aB4 h
  simp only[pk,aTI,aT3]
  rw[aLZ hs o ho,aL0 hs o ho]
  by_cases c:isOrd u o
  · obtain⟨l9,h1⟩:=aGY c
    have q1:=aKS s o hz hv l9 h1 o.length 0 (by omega) [] rfl (by simp)
    have q2:=aKV s o hz hv l9 c.1 h1 o.length 0 (by omega) [] rfl (by simp)
    rw[show((0:Nat):Int)=0 from rfl,aUD]at q1 q2
    rw[aTN c,aTK c]
    simp only[aTI,aUL,aTP,aT9,q1,q2]
    cases g:wS s o o []with
    | none=>exact⟨rfl,rfl⟩
    | some b =>
     simp only[aRY]
     rw[aLF ⟨b⟩ (by have:=aQi hz l9 g;omega)]
     exact⟨rfl,rfl⟩
  · rw[aTL c,aTJ c]
    exact⟨rfl,rfl⟩
/- Fractions as rational numbers. -/
abbrev Q:=_root_.Rat
def ofQ (q:Q):Rat:=⟨big q.num,aA q.den⟩
def bH (q:Q):Prop:=bl q.num<=24/\(aA q.den).length<=24
instance (q:Q):Decidable (bH q):=by unfold bH;infer_instance
def aGw (q:Q):Rat:=if bH q then ofQ q else oO
theorem aCt {q:Q}(h:bH q):aGw q=ofQ q:=aTK h
theorem uK {q:Q}(h:bH q):bM (ofQ q):=by
 obtain⟨h1,h2⟩:=h
 refine⟨⟨aA9 (by unfold bl at h1;omega),fun hn=>?_⟩,aA9 (by omega),dO q.den_nz,h2,h1,?_⟩
 · have:q.num<0:=aUi hn
   exact dO (by omega)
 · show Nat.gcd (val (aA q.num.natAbs)) (val (aA q.den))=1
   rw[cV,cV];exact q.reduced
theorem hU {q:Q}(h:bH q):VZ (ofQ q):=.inl (uK h)
theorem aMt (z:Int){d:Nat}(hd:0<d):mkR (decide (z<0)) z.natAbs d=aGw (mkRat z d):=by
 have hn:=_root_.Rat.num_mkRat z d
 have hden:=_root_.Rat.den_mkRat z d
 rw[aTJ (by omega)]at hn hden
 have hg:Nat.gcd d z.natAbs=Nat.gcd z.natAbs d:=Nat.gcd_comm _ _
 rw[hg]at hn hden
 generalize hgg:Nat.gcd z.natAbs d=g at hn hden
 have hgp:0<g:=by rw[<- hgg];exact aWb _ hd
 have hdv:g∣z.natAbs:=by rw[<- hgg];exact Nat.gcd_dvd_left _ _
 obtain⟨k,hk⟩:=hdv
 have hxk:z.natAbs / g=k:=by rw[hk,Nat.mul_div_cancel_left _ hgp]
 have hnk:(mkRat z d).num.natAbs=k/\(((mkRat z d).num<0)↔(z<0/\k≠0)):=by
  rcases Int.natAbs_eq z with e | e
  · have:(mkRat z d).num=(k:Int):=by
     rw[hn,e,hk];simp[Int.natCast_mul]
     rw[Int.mul_ediv_cancel_left _ (by omega)]
    rw[this];exact⟨by simp,by constructor <;> intro h <;> omega⟩
  · have:(mkRat z d).num=-(k:Int):=by
     rw[hn,e,hk,Int.natCast_mul,<- Int.mul_neg,Int.mul_ediv_cancel_left _ (by omega)]
    rw[this]
    refine⟨by simp,?_⟩
    constructor
    · intro h
      refine⟨?_,by omega⟩
      rcases Nat.eq_zero_or_pos k with h0 | h0
      · omega
      · have:=aUq hgp h0
        omega
    · rintro⟨_,h⟩;omega
 have hf:bH (mkRat z d)↔((aA k).length<=24/\(aA (d / g)).length<=24):=by unfold bH bl;rw[hnk.1,hden]
 unfold mkR aGw
 rw[aTJ (by omega),hgg,hxk]
 by_cases c:(aA k).length<=24/\(aA (d / g)).length<=24
 · rw[aTJ (by omega),aTK (hf.2 c)]
   unfold ofQ big
   rw[hnk.1,hden]
   congr 2
   rw[<- Bool.decide_and]
   exact decide_eq_decide.2 hnk.2.symm
 · rw[aTK (by omega),aTJ (fun h=>c (hf.1 h))]
theorem oJ {q:Q}(h:bH q):0<q.den/\bl q.num<=24/\(aA q.den).length<=24:=⟨aVt q.den_nz,h.1,h.2⟩
theorem aTG {p q:Q}(hp:bH p)(hq:bH q):RA (ofQ p) (ofQ q)=aGw (p+q):=by
 have h:=(aBC (hU hp) (hU hq)).2.1
 obtain⟨a1,a2,a3⟩:=oJ hp
 obtain⟨b1,b2,b3⟩:=oJ hq
 have e:bL (ofQ p) (ofQ q)=some (aGw (p+q)):=by
  unfold ofQ
  rw[aDH _ _ _ _ a1 b1 a2 a3 b2 b3]
  unfold aKG
  rw[aMt _ (aUq a1 b1),_root_.Rat.add_def']
 rw[e]at h;exact(Option.some.inj h).symm
theorem aTD {p q:Q}(hp:bH p)(hq:bH q):RM (ofQ p) (ofQ q)=aGw (p*q):=by
 have h:=(aES (hU hp) (hU hq)).2.1
 obtain⟨a1,a2,a3⟩:=oJ hp
 obtain⟨b1,b2,b3⟩:=oJ hq
 have e:bK (ofQ p) (ofQ q)=some (aGw (p*q)):=by
  unfold ofQ
  rw[aJR _ _ _ _ a1 b1 a2 a3 b2 b3]
  unfold aQK
  rw[_root_.Rat.mul_def',<- aMt _ (aUq a1 b1),aVc]
  congr 1
  refine aFJ fun hx=>?_
  have q':=aFH p.num q.num
  rw[aTN hx,Bool.and_true]at q'
  exact q'
 rw[e]at h;exact(Option.some.inj h).symm
theorem aTE {p q:Q}(hp:bH p)(hq:bH q)(h0:q≠0):RD (ofQ p) (ofQ q)=aGw (p / q):=by
 have h:=(aFC (hU hp) (hU hq)).2.1
 obtain⟨a1,a2,a3⟩:=oJ hp
 obtain⟨b1,b2,b3⟩:=oJ hq
 have hn:q.num≠0:=fun e=>h0 (_root_.Rat.num_eq_zero.1 e)
 have e:dX (ofQ p) (ofQ q)=some (aGw (p / q)):=by
  unfold ofQ
  rw[aJS _ _ _ _ a1 b1 a2 a3 b2 b3]
  unfold aSi
  have key:p / q=mkRat (p.num*q.num.sign*q.den) (p.den*q.num.natAbs):=by
   rw[_root_.Rat.div_def]
   conv=>lhs;rw[_root_.Rat.mul_def']
   rw[_root_.Rat.num_inv,_root_.Rat.den_inv,aTJ hn,<- Int.mul_assoc]
  rw[key,<- aMt _ (aUq a1 (by omega))]
  have hs:q.num.sign.natAbs=1:=by rw[Int.natAbs_sign];simp[hn]
  have e1:(p.num*q.num.sign*q.den).natAbs=p.num.natAbs*q.den:=by
   rw[aVc,aVc,hs,Nat.mul_one,aUK]
  rw[e1]
  congr 1
  refine aFJ fun hx=>?_
  have hp0:p.num≠0:=by rintro e;rw[e]at hx;simp at hx
  have hd0:(0:Int)<(q.den:Int):=by omega
  have:(p.num*q.num.sign*(q.den:Int)<0)↔(p.num*q.num.sign<0):=by
   constructor
   · intro hh
     rcases Int.lt_or_le (p.num*q.num.sign) 0 with h1 | h1
     · exact h1
     · have:=Int.mul_nonneg h1 (Int.le_of_lt hd0);omega
   · intro hh;exact aV2 hh hd0
  rw[show decide (p.num*q.num.sign*(q.den:Int)<0)=decide (p.num*q.num.sign<0)from decide_eq_decide.2 this]
  rcases Int.lt_or_gt_of_ne hn with c | c
  · rw[show decide (p.num*q.num.sign<0)=decide (p.num*-1<0)by rw[Int.sign_eq_neg_one_of_neg c]]
    by_cases cp:p.num<0 <;> simp[c,cp] <;> omega
  · rw[show decide (p.num*q.num.sign<0)=decide (p.num*1<0)by rw[Int.sign_eq_one_of_pos c]]
    have:¬q.num<0:=by omega
    by_cases cp:p.num<0 <;> simp[this,cp]
 rw[e]at h;exact(Option.some.inj h).symm
theorem aTC {p q:Q}(hp:bH p)(hq:bH q):RS (ofQ p) (ofQ q)=aGw (p-q):=by
 have h:=(aHK (hU hp) (hU hq)).2.1
 obtain⟨a1,a2,a3⟩:=oJ hp
 obtain⟨b1,b2,b3⟩:=oJ hq
 have e:cE (ofQ p) (ofQ q)=some (aGw (p-q)):=by
  unfold cE ofQ
  rw[aGm _ _ b1 b2 b3]
  simp only[aTI]
  rw[aDH _ _ _ _ a1 b1 a2 a3 (by rw[aSl];exact b2) b3]
  unfold aKG
  rw[aMt _ (aUq a1 b1),_root_.Rat.sub_def',Int.neg_mul,<- Int.sub_eq_add_neg];rfl
 rw[e]at h;exact(Option.some.inj h).symm
theorem aSw {p:Q}(hp:bH p):RN (ofQ p)=ofQ (-p):=by
 have h:=(aLU (hU hp)).2.1
 obtain⟨a1,a2,a3⟩:=oJ hp
 have e:gF (ofQ p)=some (ofQ (-p)):=by
  unfold ofQ
  rw[aGm _ _ a1 a2 a3]
  rfl
 rw[e]at h;exact(Option.some.inj h).symm
theorem aK3 {q:Q}(h:bH q):0<xX (ofQ q)↔0<q:=by
 have:=aIO (n:=q.num) (d:=q.den) (uK h)
 unfold ofQ
 rw[this]
 constructor
 · intro hh
   rw[_root_.Rat.lt_iff];simp;omega
 · intro hh
   rw[_root_.Rat.lt_iff]at hh;simp at hh;omega
theorem aNS:BB ^ 24=10 ^ 216:=by rw[dN,show(1000000000:Nat)=10 ^ 9 from rfl,<- Nat.pow_mul]
theorem aMJ {q:Q}{n:Int}{d:Nat}(hd:0<d)(hq:q=mkRat n d)(h1:n.natAbs<BB ^ 24)(h2:d<BB ^ 24):bH q:=by
 have hn:=_root_.Rat.num_mkRat n d
 have hden:=_root_.Rat.den_mkRat n d
 rw[aTJ (by omega)]at hn hden
 subst hq
 have hgp:0<Nat.gcd d n.natAbs:=Nat.gcd_pos_of_pos_left _ hd
 unfold bH bl
 refine⟨gN ?_,gN ?_⟩
 · rw[hn]
   have:(n / (Nat.gcd d n.natAbs:Int)).natAbs<=n.natAbs:=Int.natAbs_ediv_le_natAbs _ _
   omega
 · rw[hden]
   exact aU6 (aWe _ _) h2
/- Rational numbers over a bound denominator. -/
def Dv (T:Nat)(q:Q):Prop:=∃ z:Int,q*(T:Q)=(z:Q)
theorem aDr (z:Int):Dv 1 (z:Q):=⟨z,by simp⟩
theorem lF {T:Nat}{p q:Q}(hp:Dv T p)(hq:Dv T q):Dv T (p+q):=by
 obtain⟨a,ha⟩:=hp;obtain⟨b,hb⟩:=hq
 exact⟨a+b,by rw[_root_.Rat.add_mul,ha,hb,_root_.Rat.intCast_add]⟩
theorem aHv {T:Nat}{p:Q}(hp:Dv T p):Dv T (-p):=by
 obtain⟨a,ha⟩:=hp
 exact⟨-a,by rw[_root_.Rat.neg_mul,ha,_root_.Rat.intCast_neg]⟩
theorem oN {T:Nat}{p q:Q}(hp:Dv T p)(hq:Dv T q):Dv T (p-q):=by
 rw[_root_.Rat.sub_eq_add_neg];exact lF hp (aHv hq)
theorem sH {T U:Nat}{p q:Q}(hp:Dv T p)(hq:Dv U q):Dv (T*U) (p*q):=by
 obtain⟨a,ha⟩:=hp;obtain⟨b,hb⟩:=hq
 refine⟨a*b,?_⟩
 rw[aVW,<- ha,<- hb,aUO];grind
theorem pL {T:Nat}(U:Nat){p:Q}(hp:Dv T p):Dv (T*U) p:=by
 have:=sH hp (q:=1) (U:=U) ⟨(U:Int),by rw[_root_.Rat.one_mul];rfl⟩
 rwa [_root_.Rat.mul_one]at this
theorem xP {T U:Nat}{p:Q}(hp:Dv T p)(h:T∣U):Dv U p:=by
 obtain⟨k,rfl⟩:=h;exact pL k hp
theorem aFK {T B:Nat}{q:Q}(hT:0<T)(h:Dv T q)(h1:-(B:Q)<=q)(h2:q<=(B:Q))(hB:0<B)(hb:B*T<BB ^ 24):bH q:=by
 obtain⟨z,hz⟩:=h
 have hT0:(0:Q)<(T:Q):=by
  have:((0:Nat):Q)<(T:Q):=aWG.2 hT
  simpa using this
 have e:q=mkRat z T:=by
  rw[_root_.Rat.mkRat_eq_div]
  have:(T:Q)≠0:=by grind
  have e2:((T:Int):Q)=(T:Q):=rfl
  grind
 refine aMJ hT e ?_ (aU6 (Nat.le_mul_of_pos_left T hB) hb)
 have u1:(z:Q)<=((B*T:Nat):Q):=by
  rw[<- hz,aUO]
  exact aVI h2 (by grind)
 have u2:-((B*T:Nat):Q)<=(z:Q):=by
  rw[<- hz,aUO,<- _root_.Rat.neg_mul]
  exact aVI h1 (by grind)
 have v1:z<=((B*T:Nat):Int):=aVP.1 u1
 have v2:-((B*T:Nat):Int)<=z:=aVP.1 (by rw[_root_.Rat.intCast_neg];exact u2)
 omega
/- Links over the rational numbers; merging and joining. -/
structure QL where
 a:Int
 b:Int
 w:Q
 x:Q
 y:Q
def QL.toL (l:QL):Link:=⟨l.a,l.b,ofQ l.w,ofQ l.x,ofQ l.y⟩
def QL.fit (l:QL):Prop:=bH l.w/\bH l.x/\bH l.y
def QL.ok (l:QL):Prop:=(0<=l.a/\l.a<=9)/\(0<=l.b/\l.b<=9)/\l.a<l.b/\0<l.w
theorem aEp {l:QL}(h:l.fit):ValidL l.toL↔l.ok:=by
 unfold ValidL QL.ok QL.toL
 simp only[aK3 h.1,uK h.2.1,uK h.2.2,and_true]
def cY (k l:QL):Prop:=k.a<l.a\/(k.a=l.a/\k.b<l.b)
instance (k l:QL):Decidable (cY k l):=by unfold cY;infer_instance
theorem aD2 (k l:QL):fI k.toL l.toL↔cY k l:=Iff.rfl
def mrg (k l:QL):QL:=⟨k.a,k.b,k.w+l.w,(k.w*k.x+l.w*l.x) / (k.w+l.w),(k.w*k.y+l.w*l.y) / (k.w+l.w)⟩
def sqQ (x y:Q):Q:=x*x+y*y
def aGD (k l:QL):Q:=(k.w*l.w / (k.w+l.w))*sqQ (k.x-l.x) (k.y-l.y)
def aJa (k l:QL):Prop :=
 (bH (k.w+l.w)/\bH (k.w*k.x)/\bH (l.w*l.x)/\bH (k.w*k.x+l.w*l.x)/\bH ((k.w*k.x+l.w*l.x) / (k.w+l.w)))/\
 (bH (k.w*k.y)/\bH (l.w*l.y)/\bH (k.w*k.y+l.w*l.y)/\bH ((k.w*k.y+l.w*l.y) / (k.w+l.w)))/\
 (bH (k.w*l.w)/\bH (k.w*l.w / (k.w+l.w))/\bH (k.x-l.x)/\bH (k.y-l.y))/\
 (bH ((k.x-l.x)*(k.x-l.x))/\bH ((k.y-l.y)*(k.y-l.y))/\bH (sqQ (k.x-l.x) (k.y-l.y))/\bH (aGD k l))
theorem aHo {p q:Q}(hp:bH p)(hq:bH q)(h:bH (p+q)):RA (ofQ p) (ofQ q)=ofQ (p+q):=by rw[aTG hp hq,aCt h]
theorem aFB {p q:Q}(hp:bH p)(hq:bH q)(h:bH (p*q)):RM (ofQ p) (ofQ q)=ofQ (p*q):=by rw[aTD hp hq,aCt h]
theorem aPX {p q:Q}(hp:bH p)(hq:bH q)(h:bH (p-q)):RS (ofQ p) (ofQ q)=ofQ (p-q):=by rw[aTC hp hq,aCt h]
theorem aNQ {p q:Q}(hp:bH p)(hq:bH q)(h0:q≠0)(h:bH (p / q)):RD (ofQ p) (ofQ q)=ofQ (p / q):=by rw[aTE hp hq h0,aCt h]
theorem aPq {z:Int}(h:z.natAbs<2 ^ 62):bH (z:Q):=by
 refine aMJ (n:=z) (d:=1) (by decide) ?_ (Nat.lt_trans h (by rw[aNS];decide)) (by rw[aNS];decide)
 rw[_root_.Rat.mkRat_eq_div];show(z:Q)=(z:Q) / ((1:Nat):Q);grind
theorem aBP {z:Int}(h:z.natAbs<2 ^ 62):sF z=ofQ (z:Q):=by
 unfold sF ofQ
 rw[show aA (z:Q).den=[1]from sC (d:=1) (by rw[dN];decide) (by decide)];rfl
theorem aQM {k l:QL}(hk:k.fit)(hl:l.fit)(h0:k.w+l.w≠0)(h:aJa k l):zW k.toL l.toL/\aBA k.toL l.toL=(mrg k l).toL/\aED k.toL l.toL=ofQ (aGD k l)/\(mrg k l).fit/\bH (aGD k l):=by
 obtain⟨⟨a1,a2,a3,a4,a5⟩,⟨b2,b3,b4,b5⟩,⟨c1,c2,c3,c4⟩,d1,d2,d3,d4⟩:=h
 obtain⟨k1,k2,k3⟩:=hk
 obtain⟨l1,l2,l3⟩:=hl
 have eL:aBA k.toL l.toL=(mrg k l).toL:=by
  unfold aBA QL.toL mrg
  simp only[]
  rw[aHo k1 l1 a1,aFB k1 k2 a2,aFB l1 l2 a3,aHo a2 a3 a4,aNQ a4 a1 h0 a5,aFB k1 k3 b2,aFB l1 l3 b3,aHo b2 b3 b4,aNQ b4 a1 h0 b5]
 have eE:aED k.toL l.toL=ofQ (aGD k l):=by
  unfold aED QL.toL aGD sqR
  simp only[]
  unfold sqQ at d3
  rw[aHo k1 l1 a1,aFB k1 l1 c1,aNQ c1 a1 h0 c2,aPX k2 l2 c3,aPX k3 l3 c4,aFB c3 c3 d1,aFB c4 c4 d2,aHo d1 d2 d3,aFB c2 d3 d4]
  rfl
 refine⟨?_,eL,eE,⟨a1,a5,b5⟩,d4⟩
 unfold zW
 rw[eL,eE]
 exact⟨uK a1,uK a5,uK b5,uK d4⟩
def kD:List QL->QL->List QL×Q
 | [],l=>([l],0)
 | k::s,l=>if cY k l then(k::(kD s l).1,(kD s l).2)else if cY l k then(l::k::s,0)else(mrg k l::s,aGD k l)
def aDq:List QL->QL->Prop
 | [],_=>True
 | k::s,l=>if cY k l then aDq s l else if cY l k then True else k.w+l.w≠0/\aJa k l
theorem tZ {k l:QL}{s:List QL}(c:cY k l):kD (k::s) l=(k::(kD s l).1,(kD s l).2):=by rw[kD,aTK c]
theorem xJ {k l:QL}{s:List QL}(c:¬cY k l)(d:cY l k):kD (k::s) l=(l::k::s,0):=by rw[kD,aTJ c,aTK d]
theorem xI {k l:QL}{s:List QL}(c:¬cY k l)(d:¬cY l k):kD (k::s) l=(mrg k l::s,aGD k l):=by rw[kD,aTJ c,aTJ d]
theorem aAe:sF 0=ofQ 0:=aBP (by decide)
theorem aEo:bH 0:=aPq (z:=0) (by decide)
theorem aNN {y l:Link}{r:List Link}(h:fI y l):aBn (y::r) l=(aBn r l).map (fun t=>(y::t.1,t.2)):=by
 have e:eB l (y::r)=eB l r+1:=by rw[eB,aTK h]
 unfold aBn
 rw[e]
 by_cases c:eB l r<r.length
 · rw[aVU c,aVU (by simpa using c)]
   simp only[aVQ,aVM,aWD,aTT]
   split
   · rfl
   · split <;> rfl
 · rw[aVV c,aVV (by simpa using c)]
   simp only[aVM,aWD,aTT]
   rfl
theorem aNO {y l:Link}{r:List Link}(h:¬fI y l):aBn (y::r) l=if fI l y then some (l::y::r,sF 0)else if zW y l then some (aBA y l::r,aED y l)else none:=by
 have e:eB l (y::r)=0:=by rw[eB,aTJ h]
 unfold aBn
 rw[e]
 simp
theorem aRH:∀ (s:List QL) (l:QL),(∀ k∈s,k.fit)->l.fit->aDq s l->aBn (s.map QL.toL) l.toL=some ((kD s l).1.map QL.toL,ofQ (kD s l).2)/\(∀ k∈(kD s l).1,k.fit)/\bH (kD s l).2
 | [],l,_,hl,_=>by
  refine⟨?_,?_,aEo⟩
  · unfold aBn kD
    simp[eB,aAe]
  · intro k hk
    simp[kD]at hk;subst hk;exact hl
 | k::s,l,hs,hl,hf=>by
  unfold aDq at hf
  rw[aTV]
  by_cases c:cY k l
  · rw[aTK c]at hf
    obtain⟨g1,g2,g3⟩:=aRH s l (fun x hx=>hs x (by simp[hx])) hl hf
    rw[aNN ((aD2 k l).2 c),g1,tZ c]
    refine⟨rfl,fun x hx=>?_,g3⟩
    rcases aTM.1 hx with rfl | hx
    · exact hs _ (by simp)
    · exact g2 x hx
  · rw[aTJ c]at hf
    rw[aNO (fun h=>c ((aD2 k l).1 h))]
    by_cases d:cY l k
    · rw[xJ c d,aTK ((aD2 l k).2 d)]
      refine⟨by rw[aAe];rfl,fun x hx=>?_,aEo⟩
      rcases aTM.1 hx with rfl | hx
      · exact hl
      · exact hs x hx
    · rw[aTJ d]at hf
      rw[xI c d,aTJ (fun h=>d ((aD2 l k).1 h))]
      obtain⟨g1,g2,g3,g4,g5⟩:=aQM (hs k (by simp)) hl hf.1 hf.2
      rw[aTK g1,g2,g3]
      refine⟨rfl,fun x hx=>?_,g5⟩
      rcases aTM.1 hx with rfl | hx
      · exact g4
      · exact hs x (by simp[hx])
def aR:List QL->List QL->Q->List QL×Q
 | [],s,e=>(s,e)
 | x::r,s,e=>aR r (kD s x).1 (e+(kD s x).2)
def aBe:List QL->List QL->Q->Prop
 | [],_,_=>True
 | x::r,s,e=>aDq s x/\bH (e+(kD s x).2)/\aBe r (kD s x).1 (e+(kD s x).2)
theorem aO9:∀ (l s:List QL) (e:Q),(∀ k∈l,k.fit)->(∀ k∈s,k.fit)->bH e->aBe l s e->vH (l.map QL.toL) (s.map QL.toL) (ofQ e)=some ((aR l s e).1.map QL.toL,ofQ (aR l s e).2)/\(∀ k∈(aR l s e).1,k.fit)/\bH (aR l s e).2
 | [],s,e,_,hs,he,_=>⟨rfl,hs,he⟩
 | x::r,s,e,hl,hs,he,hf=>by
  obtain⟨f1,f2,f3⟩:=hf
  obtain⟨g1,g2,g3⟩:=aRH s x hs (hl x (by simp)) f1
  rw[aTV,vH,g1]
  simp only[]
  rw[aHo he g3 f2,aTK (uK f2)]
  exact aO9 r _ _ (fun y hy=>hl y (by simp[hy])) g2 f2 f3
end Go.Ev
