/- Parts PR2, PR3, PV, PR4, PR5, PR6, PR7, PR8, PR9, QA, QB, QC. -/
import Derived.Test.YtlhoochohnnepaaGreatPb1
import Derived.Test.YtlhoochohnnepaaGreatPa1
set_option linter.all false
set_option maxHeartbeats 4000000
set_option maxRecDepth 20000
/- Links: validity, order, merging; adding links to a link set, both programs. -/
namespace Go.Ev
open IntKind
def ValidL (l:Link):Prop:=(0<=l.fA/\l.fA<=9)/\(0<=l.fB/\l.fB<=9)/\l.fA<l.fB/\0<wV l.fWeight/\bD l.fDX/\bD l.fDY
instance (l:Link):Decidable (ValidL l):=by unfold ValidL;infer_instance
theorem iF (l:Link)(h:bY l<=4294967296):dY l=some (decide (ValidL l))/\hG l=some (decide (ValidL l)):=by
 unfold bY at h
 obtain⟨g1,g2⟩:=aAl l.fWeight (by omega)
 have a1:=aAm l.fDX (by omega)
 have a2:=aAm l.fDY (by omega)
 have b1:=dS l.fDX (by omega)
 have b2:=dS l.fDY (by omega)
 unfold dY hG ValidL
 simp only[aJQ,aB0,g1,g2,a1,a2,b1,b2,aTb]
 by_cases A:0<=l.fA/\l.fA<=9
 · by_cases B:0<=l.fB/\l.fB<=9
   · by_cases C:l.fA<l.fB
     · by_cases D:0<wV l.fWeight
       · by_cases E:bD l.fDX
         · by_cases F:bD l.fDY <;> simp[A,B,C,D,E,F]
         · simp[A,B,C,D,E]
       · simp[A,B,C,D]
     · simp[A,B,C]
   · simp[A,B]
 · simp[A]
theorem ValidL.vz {l:Link}(h:ValidL l):VZ l.fWeight/\VZ l.fDX/\VZ l.fDY:=⟨.inl (aAa h.2.2.2.1),.inl h.2.2.2.2.1,.inl h.2.2.2.2.2⟩
theorem ValidL.sz {l:Link}(h:ValidL l):bY l<=144:=by
 obtain⟨h1,h2,h3⟩:=h.vz
 have:=nF h1
 have:=nF h2
 have:=nF h3
 unfold bY;omega
theorem aDG {α:Type}{w:α->Nat}{c:Nat}:∀ {l:List α},(∀ x∈l,w x<=c)->szL w l<=(c+1)*l.length
 | [],_=>by simp[aH1]
 | y::l,h=>by
  have h1:=h y (by simp)
  have h2:=aDG (l:=l) (c:=c) (fun x hx=>h x (by simp[hx]))
  rw[nY,aTG,aUy,Nat.mul_one];omega
def eO (k l:Link):Prop:=k.fA<l.fA\/(k.fA=l.fA/\k.fB<l.fB)
instance (k l:Link):Decidable (eO k l):=by unfold eO;infer_instance
theorem aGJ (k l:Link):nK k l=some (decide (eO k l)):=by
 unfold nK eO
 by_cases A:k.fA<l.fA
 · simp[A]
 · by_cases B:k.fA=l.fA
   · simp[A,B]
   · simp[A,B]
theorem aKm (k l:Link):jY k l=some (decide (eO k l)):=aGJ k l
theorem aBv {a b c:Link}(h:eO a b)(g:eO b c):eO a c:=by unfold eO at *;omega
noncomputable def sqR (x y:Rat):Rat:=RA (RM x x) (RM y y)
noncomputable def aA8 (k l:Link):Link:=⟨k.fA,k.fB,RA k.fWeight l.fWeight,RD (RA (RM k.fWeight k.fDX) (RM l.fWeight l.fDX)) (RA k.fWeight l.fWeight),RD (RA (RM k.fWeight k.fDY) (RM l.fWeight l.fDY)) (RA k.fWeight l.fWeight)⟩
noncomputable def aDR (k l:Link):Rat:=RM (RD (RM k.fWeight l.fWeight) (RA k.fWeight l.fWeight)) (sqR (RS k.fDX l.fDX) (RS k.fDY l.fDY))
def yY (k l:Link):Prop:=bD (aA8 k l).fWeight/\bD (aA8 k l).fDX/\bD (aA8 k l).fDY/\bD (aDR k l)
noncomputable instance (k l:Link):Decidable (yY k l):=by unfold yY;infer_instance
def aG3:Link:=Link.mk 0 0 (Rat.mk (BigInt.mk false ([])) ([])) (Rat.mk (BigInt.mk false ([])) ([])) (Rat.mk (BigInt.mk false ([])) ([]))
theorem aSX {x y:Rat}(hx:VZ x)(hy:VZ y):oB x y=some (sqR x y)/\lL x y=some (sqR x y)/\VZ (sqR x y):=by
 obtain⟨a1,a2,a3⟩:=aBa hx hx
 obtain⟨b1,b2,b3⟩:=aBa hy hy
 obtain⟨c1,c2,c3⟩:=yG a3 b3
 unfold oB lL sqR
 simp only[a1,a2,b1,b2,c1,c2,aTb]
 exact⟨trivial,trivial,c3⟩
theorem aJD {k l:Link}(hk:ValidL k)(hl:ValidL l)(h:yY k l):ValidL (aA8 k l) :=
 ⟨hk.1,hk.2.1,hk.2.2.1,aRX hk.2.2.2.1 hl.2.2.2.1 h.1,h.2.1,h.2.2.1⟩
theorem aL3 {k l:Link}(hk:ValidL k)(hl:ValidL l)(hA:k.fA=l.fA)(hB:k.fB=l.fB) :
 oE k l=some (if yY k l then(aA8 k l,aDR k l,true)else(aG3,nH,false))/\oM k l=some (if yY k l then(aA8 k l,aDR k l,true)else(aG3,nH,false))/\VZ (aDR k l):=by
 obtain⟨k1,k2,k3⟩:=hk.vz
 obtain⟨l1,l2,l3⟩:=hl.vz
 obtain⟨a1,a2,a3⟩:=yG k1 l1
 obtain⟨b1,b2,b3⟩:=aBa k1 k2
 obtain⟨c1,c2,c3⟩:=aBa l1 l2
 obtain⟨d1,d2,d3⟩:=yG b3 c3
 obtain⟨e1,e2,e3⟩:=aCR d3 a3
 obtain⟨f1,f2,f3⟩:=aBa k1 k3
 obtain⟨g1,g2,g3⟩:=aBa l1 l3
 obtain⟨i1,i2,i3⟩:=yG f3 g3
 obtain⟨j1,j2,j3⟩:=aCR i3 a3
 obtain⟨m1,m2,m3⟩:=aBa k1 l1
 obtain⟨n1,n2,n3⟩:=aCR m3 a3
 obtain⟨o1,o2,o3⟩:=aG1 k2 l2
 obtain⟨p1,p2,p3⟩:=aG1 k3 l3
 obtain⟨q1,q2,q3⟩:=aSX o3 p3
 obtain⟨r1,r2,r3⟩:=aBa n3 q3
 have v1:=(iF k (by have:=hk.sz;omega)).1
 have v2:=(iF l (by have:=hl.sz;omega)).1
 have vm:=(iF (aA8 k l) (by
  have:=nF a3;have:=nF e3;have:=nF j3
  unfold bY aA8;simp only[];omega)).1
 refine⟨?_,?_,r3⟩
 · unfold oE
   rw[v1,v2,aTg hk,aTg hl]
   simp only[aTb,aTz,hA,hB,ne_eq,not_true_eq_false,aTD,aVA,aTk]
   simp only[a1,b1,c1,d1,e1,f1,g1,i1,j1,m1,n1,o1,p1,q1,r1,aTb]
   rw[<- hA,<- hB]
   have e:(Link.mk k.fA k.fB (RA k.fWeight l.fWeight) (RD (RA (RM k.fWeight k.fDX) (RM l.fWeight l.fDX)) (RA k.fWeight l.fWeight)) (RD (RA (RM k.fWeight k.fDY) (RM l.fWeight l.fDY)) (RA k.fWeight l.fWeight)))=aA8 k l:=rfl
   rw[e,vm]
   have e2:RM (RD (RM k.fWeight l.fWeight) (RA k.fWeight l.fWeight)) (sqR (RS k.fDX l.fDX) (RS k.fDY l.fDY))=aDR k l:=rfl
   rw[e2,dS (aDR k l) (VZs r3)]
   simp only[aTb]
   by_cases O:yY k l
   · rw[aTd O,aTg (aJD hk hl O),aTg O.2.2.2];rfl
   · rw[aTc O]
     by_cases V:ValidL (aA8 k l)
     · have:¬bD (aDR k l):=fun h=>O ⟨aAa V.2.2.2.1,V.2.2.2.2.1,V.2.2.2.2.2,h⟩
       rw[aTg V,aTe this];rfl
     · rw[aTe V];rfl
 · unfold oM
   simp only[a2,b2,c2,d2,e2,f2,g2,i2,j2,m2,n2,o2,p2,q2,r2,aTb,iE a3,iE e3,iE j3,iE r3]
   unfold yY aA8 aDR
   simp only[]
   by_cases A:bD (RA k.fWeight l.fWeight)
   · by_cases B:bD (RD (RA (RM k.fWeight k.fDX) (RM l.fWeight l.fDX)) (RA k.fWeight l.fWeight))
     · by_cases C:bD (RD (RA (RM k.fWeight k.fDY) (RM l.fWeight l.fDY)) (RA k.fWeight l.fWeight))
       · by_cases D:bD (RM (RD (RM k.fWeight l.fWeight) (RA k.fWeight l.fWeight)) (sqR (RS k.fDX l.fDX) (RS k.fDY l.fDY))) <;> simp[A,B,C,D,aG3,nH]
       · simp[A,B,C,aG3,nH]
     · simp[A,B,aG3,nH]
   · simp[A,aG3,nH]
def LSet (s:List Link):Prop:=(∀ x∈s,ValidL x)/\s.Pairwise eO
noncomputable instance (s:List Link):Decidable (LSet s):=Classical.propDecidable _
theorem aL9:∀ (l:List Int) (a N:Int),l.Pairwise (· < ·)->(∀ x∈l,a<=x/\x<N)->(l.length:Int)<=max 0 (N-a)
 | [],a,N,_,_=>by rw[aUq];omega
 | x::l,a,N,h,hb=>by
  rw[aTQ]at h
  have h1:=hb x (by simp)
  have:=aL9 l (x+1) N h.2 (fun y hy=>⟨by have:=h.1 y hy;omega,(hb y (by simp[hy])).2⟩)
  rw[aTG];omega
theorem LSet.len {s:List Link}(h:LSet s):s.length<=100:=by
 have:=aL9 (s.map fun l=>l.fA*10+l.fB) 0 100 (by
  rw[aUC]
  refine List.Pairwise.imp_of_mem (fun {a b} ha hb hr=>?_) h.2
  have h1:=h.1 a ha
  have h2:=h.1 b hb
  unfold ValidL at h1 h2
  unfold eO at hr
  omega) (by
  intro x hx
  obtain⟨l,hl,rfl⟩:=aTu.1 hx
  have h1:=h.1 l hl
  unfold ValidL at h1
  omega)
 rw[aTs]at this;omega
theorem aBQ {s:List Link}(h:∀ x∈s,ValidL x):aL s<=145*s.length:=aDG (fun x hx=>(h x hx).sz)
theorem LSet.sz {s:List Link}(h:LSet s):aL s<=14500:=by
 have:=aBQ h.1
 have:=h.len
 omega
def lsF:Option Link->List Link->Prop
 | _,[]=>True
 | p,x::r=>ValidL x/\(∀ q,p=some q->eO q x)/\lsF (some x) r
noncomputable instance (p:Option Link)(s:List Link):Decidable (lsF p s):=Classical.propDecidable _
theorem aL4:∀ (s:List Link) (p:Option Link),lsF p s↔LSet s/\∀ q,p=some q->∀ x∈s,eO q x
 | [],p=>by simp[lsF,LSet]
 | x::r,p=>by
  rw[lsF,aL4 r (some x)]
  unfold LSet
  rw[aTQ]
  constructor
  · rintro⟨h1,h2,⟨h3,h4⟩,h5⟩
    refine⟨⟨fun y hy=>?_,fun y hy=>h5 x rfl y hy,h4⟩,fun q hq y hy=>?_⟩
    · rcases aTf.1 hy with rfl | hy
      · exact h1
      · exact h3 y hy
    · rcases aTf.1 hy with rfl | hy
      · exact h2 q hq
      · exact aBv (h2 q hq) (h5 x rfl y hy)
  · rintro⟨⟨h1,h2,h3⟩,h4⟩
    exact⟨h1 x (by simp),fun q hq=>h4 q hq x (by simp),⟨fun y hy=>h1 y (by simp[hy]),h3⟩,fun q hq y hy=>by cases hq;exact h2 y hy⟩
theorem lR (s:List Link)(h:aL s<=4294967296):dH s=some (decide (LSet s)):=by
 unfold aL at h
 have hl:=nJ bY s
 have main:∀ m k:Nat,m+k=s.length->∀ p:Option Link,(p=if k=0 then none else s[k-1]?)->lp (eI s) (k:Int)=some (if lsF p (s.drop k)then .inl ()else .inr false):=by
  intro m
  induction m with
  | zero =>
   intro k hk p _
   rw[aTE (by omega),aTd (by simp[lsF])]
   exact aK (by unfold eI;rw[aTc (by omega)])
  | succ m ih =>
   intro k hk p hp
   have hlt:k<s.length:=by omega
   have hz:=tB (w:=bY) (aTv hlt)
   have v:=(iF s[k] (by omega)).1
   rw[aTh hlt]
   have st:eI s (k:Int)=some (if ValidL s[k]/\(∀ q,p=some q->eO q s[k])then .inl ((k+1:Nat):Int)else .inr (.inr false)):=by
    have w1:i64.wrap ((k:Int)+1)=((k+1:Nat):Int):=by rw[wi (by omega)];omega
    unfold eI
    rw[aTd (by omega),aN hlt]
    simp only[aTb,v,w1]
    by_cases V:ValidL s[k]
    · rw[aTg V,aTd rfl]
      by_cases K:k=0
      · subst K
        rw[aTd rfl]at hp;subst hp
        simp[V]
      · have hlt2:k-1<s.length:=by omega
        rw[aTc K,aTl hlt2]at hp;subst hp
        have w2:i64.wrap ((k:Int)-1)=((k-1:Nat):Int):=by rw[wi (by omega)];omega
        rw[aTd (by omega),w2,aN hlt2]
        simp only[aTb,aGJ]
        by_cases L:eO s[k-1] s[k]
        · simp[V,L]
        · simp[L]
    · rw[aTe V];simp[V]
   by_cases G:ValidL s[k]/\(∀ q,p=some q->eO q s[k])
   · rw[aTd G]at st
     rw[aQ st,ih (k+1) (by omega) (some s[k]) (by rw[aTc (by omega),Nat.add_sub_cancel,aTl hlt])]
     have:lsF p (s[k]::s.drop (k+1))↔lsF (some s[k]) (s.drop (k+1)):=by rw[lsF];exact⟨fun h=>h.2.2,fun h=>⟨G.1,G.2,h⟩⟩
     simp only[this]
   · rw[aTc G]at st
     rw[aK st,aTc]
     rw[lsF];exact fun h=>G ⟨h.1,h.2.1⟩
 have:=main s.length 0 (by omega) none (by simp)
 unfold dH
 rw[show((0:Nat):Int)=0 from rfl,aTZ]at this
 rw[this]
 have e:lsF none s↔LSet s:=by rw[aL4];exact⟨fun h=>h.1,fun h=>⟨h,fun q hq=>by cases hq⟩⟩
 by_cases c:LSet s
 · rw[aTd (e.2 c),aTg c];rfl
 · rw[aTc (fun h=>c (e.1 h)),aTe c];rfl
def dK (l:Link):List Link->Nat
 | []=>0
 | y::r=>if eO y l then dK l r+1 else 0
theorem aLQ (l:Link):∀ s:List Link,dK l s<=s.length
 | []=>aTn _
 | y::r=>by
  have:=aLQ l r
  rw[dK];split <;> simp <;> omega
theorem aDO (l:Link):∀ s:List Link,∀ x∈s.take (dK l s),eO x l
 | [],x,h=>by simp[dK]at h
 | y::r,x,h=>by
  rw[dK]at h
  by_cases c:eO y l
  · rw[aTd c,aVa]at h
    rcases aTf.1 h with rfl | h
    · exact c
    · exact aDO l r x h
  · rw[aTc c]at h;simp at h
theorem aBU (l:Link):∀ (s:List Link) (h:dK l s<s.length),¬eO s[dK l s] l
 | [],h=>by simp at h
 | y::r,h=>by
  by_cases c:eO y l
  · have e:dK l (y::r)=dK l r+1:=by rw[dK,aTd c]
    have h':dK l r<r.length:=by rw[e]at h;simpa using h
    have:=aBU l r h'
    simpa [e]using this
  · have e:dK l (y::r)=0:=by rw[dK,aTc c]
    simpa [e]using c
theorem aN7 (s:List Link)(l:Link)(h:s.length<=4294967296):lp (gP l s) 0=some ((dK l s:Nat):Int):=by
 have main:∀ m k:Nat,m+k=s.length->lp (gP l s) (k:Int)=some ((k+dK l (s.drop k):Nat):Int):=by
  intro m
  induction m with
  | zero =>
   intro k hk
   rw[aTE (by omega)]
   refine aK ?_
   unfold gP
   rw[aTc (by omega)];rfl
  | succ m ih =>
   intro k hk
   have hlt:k<s.length:=by omega
   have w1:i64.wrap ((k:Int)+1)=((k+1:Nat):Int):=by rw[wi (by omega)];omega
   rw[aTh hlt,dK]
   have st:gP l s (k:Int)=some (if eO s[k] l then .inl ((k+1:Nat):Int)else .inr (k:Int)):=by
    unfold gP
    rw[aTd (by omega),aN hlt]
    simp only[aTb,aGJ,w1]
    by_cases L:eO s[k] l <;> simp[L]
   by_cases L:eO s[k] l
   · rw[aTd L]at st ⊢
     rw[aQ st,ih (k+1) (by omega)]
     congr 2;omega
   · rw[aTc L]at st ⊢
     rw[aK st];rfl
 have:=main s.length 0 (by omega)
 simpa using this
noncomputable def aAR (s:List Link)(l:Link):Option (List Link×Rat) :=
 if h:dK l s<s.length then
  if eO l s[dK l s]then some (s.take (dK l s)++[l]++s.drop (dK l s),dN 0)
  else if yY s[dK l s] l then some (s.take (dK l s)++[aA8 s[dK l s] l]++s.drop (dK l s+1),aDR s[dK l s] l)else none
 else some (s.take (dK l s)++[l]++s.drop (dK l s),dN 0)
def pk:Option (List Link×Rat)->List Link×Rat×Bool
 | some (s,e)=>(s,e,true)
 | none=>([],nH,false)
theorem aGN {s:List Link}{m:Link}{p q:Nat}(hs:LSet s)(hm:ValidL m)(h1:∀ x∈s.take p,eO x m)(h2:∀ y∈s.drop q,eO m y):LSet (s.take p++[m]++s.drop q):=by
 refine⟨fun x hx=>?_,?_⟩
 · rw[aTj,aTj,aTU]at hx
   rcases hx with(hx | rfl) | hx
   · exact hs.1 x (aVP hx)
   · exact hm
   · exact hs.1 x (aVQ hx)
 · rw[aTx,aUH]
   refine⟨hs.2.sublist (List.take_sublist _ _),?_,fun a ha b hb=>?_⟩
   · rw[aUk,aTQ]
     exact⟨h2,hs.2.sublist (List.drop_sublist _ _)⟩
   · rw[aUk]at hb
     rcases aTf.1 hb with rfl | hb
     · exact h1 a ha
     · exact aBv (h1 a ha) (h2 b hb)
theorem aRh {s:List Link}(h:s.Pairwise eO){p:Nat}(hp:p<s.length):(∀ x∈s.take p,eO x s[p])/\∀ y∈s.drop (p+1),eO s[p] y:=by
 have e:s=s.take p++(s[p]::s.drop (p+1)):=by rw[<- aTh hp,aT6]
 rw[e,aUH,aTQ]at h
 exact⟨fun x hx=>h.2.2 x hx _ aVi,h.2.1.1⟩
theorem aIP {s:List Link}{l:Link}(hs:LSet s)(hl:ValidL l){s':List Link}{e:Rat}(h:aAR s l=some (s',e)):LSet s'/\VZ e:=by
 unfold aAR at h
 have z:VZ (dN 0):=.inl (xJ 0 (by omega))
 by_cases c:dK l s<s.length
 · rw[aVk c]at h
   obtain⟨g1,g2⟩:=aRh hs.2 c
   by_cases c2:eO l s[dK l s]
   · rw[aTd c2]at h;cases h
     refine⟨aGN hs hl (aDO l s) (fun y hy=>?_),z⟩
     rw[aTh c]at hy
     rcases aTf.1 hy with rfl | hy
     · exact c2
     · exact aBv c2 (g2 y hy)
   · rw[aTc c2]at h
     have hv:=hs.1 _ (aTv c)
     have nl:=aBU l s c
     have hA:s[dK l s].fA=l.fA/\s[dK l s].fB=l.fB:=by unfold eO at c2 nl;omega
     by_cases O:yY s[dK l s] l
     · rw[aTd O]at h;cases h
       exact⟨aGN hs (aJD hv hl O) g1 g2,(aL3 hv hl hA.1 hA.2).2.2⟩
     · rw[aTc O]at h;cases h
 · rw[aVl c]at h;cases h
   refine⟨aGN hs hl (aDO l s) (fun y hy=>?_),z⟩
   rw[aTE (by omega)]at hy;cases hy
theorem aIQ (s:List Link)(l:Link):wP s l=gP l s:=rfl
theorem uS {α:Type}(x:α):aV x=some x:=rfl
theorem aHW {s:List Link}{l:Link}(hs:LSet s)(hl:ValidL l):nL s l=some (pk (aAR s l))/\tX s l=some (pk (aAR s l)):=by
 have hlen:=hs.len
 have hp:=aLQ l s
 have v:=(iF l (by have:=hl.sz;omega)).1
 have i1:=lR s (by have:=hs.sz;omega)
 have c1:=aCg s (by have:=hs.sz;omega)
 have c2:=tL l (by have:=hl.sz;omega)
 have lp1:=aN7 s l (by omega)
 have rf1:cD 0=some (dN 0):=bV 0 (by omega)
 have rf2:bO 0=some (dN 0):=cO 0 (by omega)
 have s1:sub s 0 ((dK l s:Nat):Int)=some (s.take (dK l s)):=by rw[qC _ _ _ (by omega)];simp
 have s2:sub s ((dK l s:Nat):Int) (s.length:Int)=some (s.drop (dK l s)):=by
  rw[qC _ _ _ (by omega)];congr 1
  rw[aT1];rfl
  rw[aUr];omega
 have t1:(s.take (dK l s)).length<=100:=by rw[aTS];omega
 have t2:(s.drop (dK l s)).length<=100:=by rw[aUr];omega
 unfold nL tX aAR
 rw[aIQ,i1,v,aTg hs,aTg hl,lp1]
 simp only[aTb,aTz,aUh,aTk,aTD,c1,lp1,s1,s2,uS,aTi]
 rw[aM (by simp only[aUq,aTC];omega)]
 simp only[aTb]
 by_cases c:dK l s<s.length
 · have c':((dK l s:Nat):Int)<(s.length:Int):=by omega
   have c'':¬((dK l s:Nat):Int)=(s.length:Int):=by omega
   rw[aTd c',aTc c'',aVk c,aN c]
   simp only[aTb,aGJ,aKm]
   by_cases L:eO l s[dK l s]
   · rw[aTd L,aTg L]
     simp only[aUh,aTk,aTD,aTz,c2,aTb,rf1,rf2]
     rw[aM (by omega)]
     simp only[aTb]
     rw[aM (by rw[aTF,aTY];omega)]
     exact⟨rfl,rfl⟩
   · rw[aTc L,aTe L]
     have hv:=hs.1 _ (aTv c)
     have nl:=aBU l s c
     have hA:s[dK l s].fA=l.fA/\s[dK l s].fB=l.fB:=by unfold eO at L nl;omega
     obtain⟨m1,m2,m3⟩:=aL3 hv hl hA.1 hA.2
     simp only[aVy,aTz,aTk,aTD,m1,m2,aTb]
     by_cases O:yY s[dK l s] l
     · rw[aTd O,aTd O]
       have w1:i64.wrap (((dK l s:Nat):Int)+1)=((dK l s+1:Nat):Int):=by rw[wi (by omega)];omega
       have s3:sub s ((dK l s+1:Nat):Int) (s.length:Int)=some (s.drop (dK l s+1)):=by
        rw[qC _ _ _ (by omega)];congr 1
        rw[aT1];rfl
        rw[aUr];omega
       have t3:(s.drop (dK l s+1)).length<=100:=by rw[aUr];omega
       simp only[aTz,w1,s3,aTb,lH]
       rw[aM (by omega)]
       simp only[aTb]
       rw[aM (by rw[aTF,aTY];omega)]
       refine⟨?_,rfl⟩
       simp only[pk]
       rw[List.set_eq_take_append_cons_drop,aTd c,aTx,aUk]
     · rw[aTc O,aTc O]
       exact⟨rfl,rfl⟩
 · have c':¬((dK l s:Nat):Int)<(s.length:Int):=by omega
   have c'':((dK l s:Nat):Int)=(s.length:Int):=by omega
   rw[aTc c',aTd c'',aVl c]
   simp only[aTb,aTk,aTD,aTz,c2,rf1,rf2]
   rw[aM (by omega)]
   simp only[aTb]
   rw[aM (by rw[aTF,aTY];omega)]
   exact⟨rfl,rfl⟩
/- Joining links into a link set, both programs. -/
theorem aRY {r s:Rat}(hr:VZ r)(hs:VZ s)(h:¬bD r):RA r s=nH:=by
 have q:=(yG hr hs).1
 unfold cZ at q
 rw[dS r (VZs hr),aTe h]at q
 simpa [nH]using q.symm
noncomputable def uI:List Link->List Link->Rat->Option (List Link×Rat)
 | [],s,e=>some (s,e)
 | x::r,s,e=>match aAR s x with
  | none=>none
  | some (s',e')=>if bD (RA e e')then uI r s' (RA e e')else none
theorem aJP:∀ (l s:List Link) (e:Rat),(∀ x∈l,ValidL x)->LSet s->bD e->∀ s' e',uI l s e=some (s',e')->LSet s'/\bD e'
 | [],s,e,_,hs,he,s',e',h=>by rw[uI]at h;cases h;exact⟨hs,he⟩
 | x::r,s,e,hv,hs,he,s',e',h=>by
  rw[uI]at h
  cases ha:aAR s x with
  | none=>rw[ha]at h;cases h
  | some t =>
   obtain⟨s1,e1⟩:=t
   rw[ha]at h
   simp only[]at h
   obtain⟨g1,g2⟩:=aIP hs (hv x (by simp)) ha
   by_cases c:bD (RA e e1)
   · rw[aTd c]at h
     exact aJP r s1 _ (fun y hy=>hv y (by simp[hy])) g1 c s' e' h
   · rw[aTc c]at h;cases h
noncomputable instance (l:List Link):Decidable (∀ x∈l,ValidL x):=Classical.propDecidable _
def aCu:List Link×Rat×Bool:=([],nH,false)
theorem aK0 (l:List Link)(hv:∀ x∈l,ValidL x)(hl:l.length<=4294967296):∀ m k:Nat,m+k=l.length->∀ s e,LSet s->VZ e->
 lp (gF l) (s,(k:Int),e)=some (match uI (l.drop k) s e with | some t=>.inl t | none=>.inr aCu):=by
 intro m
 induction m with
 | zero =>
  intro k hk s e hs he
  rw[aTE (by omega),uI]
  exact aK (by unfold gF;simp only[];rw[aTc (by omega)])
 | succ m ih =>
  intro k hk s e hs he
  have hlt:k<l.length:=by omega
  have hx:=hv _ (aTv hlt)
  have w1:IntKind.i64.wrap ((k:Int)+1)=((k+1:Nat):Int):=by rw[wi (by omega)];omega
  have a:=(aHW hs hx).2
  rw[aTh hlt,uI]
  cases ha:aAR s l[k]with
  | none =>
   rw[ha]at a
   have g:=(yG he aCe).2.1
   refine aK ?_
   unfold gF
   simp only[]
   rw[aTd (by omega),aN hlt]
   simp only[aTb,a,pk,g]
   rfl
  | some t =>
   obtain⟨s1,e1⟩:=t
   rw[ha]at a
   obtain⟨g1,g2⟩:=aIP hs hx ha
   obtain⟨_,q2,q3⟩:=yG he g2
   have st:gF l (s,(k:Int),e)=some (if bD (RA e e1)then .inl (s1,((k+1:Nat):Int),RA e e1)else .inr (.inr aCu)):=by
    unfold gF
    simp only[]
    rw[aTd (by omega),aN hlt]
    simp only[aTb,a,pk,q2,iE q3,aTz,w1]
    by_cases c:bD (RA e e1)
    · simp[c]
    · simp[c,aCu,nH]
   simp only[]
   by_cases c:bD (RA e e1)
   · rw[aTd c]at st ⊢
     rw[aQ st]
     exact ih (k+1) (by omega) s1 _ g1 q3
   · rw[aTc c]at st ⊢
     rw[aK st]
def aOW:(List Link×Rat) ⊕ (List Link×Rat×Bool)->List Link×Rat×Bool
 | .inl d=>if bD d.2 then(d.1,d.2,true)else aCu
 | .inr x=>x
theorem aKZ (l:List Link)(hz:aL l<=4294967296):∀ m k:Nat,m+k=l.length->∀ s e,LSet s->VZ e->
 ∃ R,lp (eH l) (s,(k:Int),e)=some R/\(∀ d,R=.inl d->VZ d.2)/\aOW R=pk (if bD e/\(∀ x∈l.drop k,ValidL x)then uI (l.drop k) s e else none):=by
 have hl:l.length<=4294967296:=by have:=nJ bY l;unfold aL at hz;omega
 intro m
 induction m with
 | zero =>
  intro k hk s e hs he
  refine⟨.inl (s,e),aK (by unfold eH;simp only[];rw[aTc (by omega)]),fun d h=>(by cases h;exact he),?_⟩
  rw[aTE (by omega),uI]
  by_cases c:bD e
  · simp[aOW,pk,c]
  · simp[aOW,pk,c,aCu]
 | succ m ih =>
  intro k hk s e hs he
  have hlt:k<l.length:=by omega
  have w1:IntKind.i64.wrap ((k:Int)+1)=((k+1:Nat):Int):=by rw[wi (by omega)];omega
  have hxz:bY l[k]<=4294967296:=by have:=tB (w:=bY) (aTv hlt);unfold aL at hz;omega
  rw[aTh hlt]
  by_cases hx:ValidL l[k]
  · have a:=(aHW hs hx).1
    rw[uI]
    cases ha:aAR s l[k]with
    | none =>
     rw[ha]at a
     refine⟨.inr aCu,aK ?_,fun d h=>(by cases h),?_⟩
     · unfold eH
       simp only[]
       rw[aTd (by omega),aN hlt]
       simp only[aTb,a,pk]
       rfl
     · simp[aOW,pk,aCu]
    | some t =>
     obtain⟨s1,e1⟩:=t
     rw[ha]at a
     obtain⟨g1,g2⟩:=aIP hs hx ha
     obtain⟨q1,_,q3⟩:=yG he g2
     have st:eH l (s,(k:Int),e)=some (.inl (s1,((k+1:Nat):Int),RA e e1)):=by
      unfold eH
      simp only[]
      rw[aTd (by omega),aN hlt]
      simp only[aTb,a,pk,q1,aTz,w1]
     obtain⟨R,r1,r2,r3⟩:=ih (k+1) (by omega) s1 _ g1 q3
     refine⟨R,by rw[aQ st];exact r1,r2,?_⟩
     rw[r3]
     simp only[]
     by_cases c:bD e
     · by_cases c2:bD (RA e e1)
       · have:(∀ x∈l[k]::l.drop (k+1),ValidL x)↔(∀ x∈l.drop (k+1),ValidL x):=⟨fun h x hx'=>h x (aTT _ hx'),fun h x hx'=>by rcases aTf.1 hx' with rfl | h';exact hx;exact h x h'⟩
         simp only[c,c2,true_and,aTz,this]
       · simp only[c,c2,true_and,false_and,aTD,ite_self]
     · have c2:¬bD (RA e e1):=by rw[aRY he g2 c];exact aBc
       simp only[c,c2,false_and,aTD]
  · refine⟨.inr aCu,aK ?_,fun d h=>(by cases h),?_⟩
    · unfold eH
      simp only[]
      rw[aTd (by omega),aN hlt]
      have a:nL s l[k]=some aCu:=by
       unfold nL
       rw[lR s (by have:=hs.sz;omega),(iF l[k] hxz).1,aTg hs,aTe hx]
       rfl
      simp only[aTb,a,aCu]
      rfl
    · rw[aTc (fun h=>hx (h.2 _ aVi))];rfl
theorem aHY (l:List Link)(hz:aL l<=4294967296):oK l=some (decide (∀ x∈l,ValidL x)):=by
 have hl:l.length<=4294967296:=by have:=nJ bY l;unfold aL at hz;omega
 have main:∀ m k:Nat,m+k=l.length->lp (gY l) (k:Int)=some (if(∀ x∈l.drop k,ValidL x)then .inl ()else .inr false):=by
  intro m
  induction m with
  | zero =>
   intro k hk
   rw[aTE (by omega),aTd (by simp)]
   exact aK (by unfold gY;rw[aTc (by omega)])
  | succ m ih =>
   intro k hk
   have hlt:k<l.length:=by omega
   have w1:IntKind.i64.wrap ((k:Int)+1)=((k+1:Nat):Int):=by rw[wi (by omega)];omega
   have v:=(iF l[k] (by have:=tB (w:=bY) (aTv hlt);unfold aL at hz;omega)).2
   have st:gY l (k:Int)=some (if ValidL l[k]then .inl ((k+1:Nat):Int)else .inr (.inr false)):=by
    unfold gY
    rw[aTd (by omega),aN hlt]
    simp only[aTb,v,w1]
    by_cases c:ValidL l[k] <;> simp[c]
   rw[aTh hlt]
   by_cases c:ValidL l[k]
   · rw[aTd c]at st
     rw[aQ st,ih (k+1) (by omega)]
     have:(∀ x∈l[k]::l.drop (k+1),ValidL x)↔(∀ x∈l.drop (k+1),ValidL x):=⟨fun h x hx'=>h x (aTT _ hx'),fun h x hx'=>by rcases aTf.1 hx' with rfl | h';exact c;exact h x h'⟩
     simp only[this]
   · rw[aTc c]at st
     rw[aK st,aTc (fun h=>c (h _ aVi))]
 have:=main l.length 0 (by omega)
 unfold oK
 rw[show((0:Nat):Int)=0 from rfl,aTZ]at this
 rw[this]
 by_cases c:∀ x∈l,ValidL x
 · rw[aTd c,aTg c];rfl
 · rw[aTc c,aTe c];rfl
theorem aBP:LSet []:=⟨by simp,List.Pairwise.nil⟩
theorem aBS:bD (dN 0):=xJ 0 (by omega)
noncomputable def jnP (l:List Link):Option (List Link×Rat):=if ∀ x∈l,ValidL x then uI l [] (dN 0)else none
theorem aBz {l s:List Link}{e:Rat}(h:jnP l=some (s,e)):(∀ x∈l,ValidL x)/\LSet s/\bD e:=by
 unfold jnP at h
 by_cases c:∀ x∈l,ValidL x
 · rw[aTd c]at h
   exact⟨c,aJP l [] _ c aBP aBS s e h⟩
 · rw[aTc c]at h;cases h
theorem aBy {l:List Link}(hv:∀ x∈l,ValidL x)(hl:l.length<=4294967296):kJ l=some (pk (jnP l)):=by
 unfold kJ jnP
 rw[cO 0 (by omega),aTd hv]
 simp only[aTb]
 have:=aK0 l hv hl l.length 0 (by omega) [] (dN 0) aBP (.inl aBS)
 rw[show((0:Nat):Int)=0 from rfl,aTZ]at this
 rw[this]
 cases uI l [] (dN 0)with
 | none=>rfl
 | some t=>rfl
theorem wL (l:List Link)(hz:aL l<=4294967296):iK l=some (pk (jnP l))/\mX l=some (pk (jnP l)):=by
 have hl:l.length<=4294967296:=by have:=nJ bY l;unfold aL at hz;omega
 constructor
 · unfold iK
   rw[bV 0 (by omega)]
   simp only[aTb]
   obtain⟨R,r1,r2,r3⟩:=aKZ l hz l.length 0 (by omega) [] (dN 0) aBP (.inl aBS)
   rw[show((0:Nat):Int)=0 from rfl]at r1
   rw[aTZ]at r3
   rw[r1]
   have e:(if bD (dN 0)/\(∀ x∈l,ValidL x)then uI l [] (dN 0)else none)=jnP l:=by unfold jnP;simp only[aBS,true_and]
   rw[<- e,<- r3]
   cases R with
   | inl d =>
    simp only[aTb]
    rw[dS d.2 (VZs (r2 d rfl))]
    simp only[aTb,aOW]
    by_cases c:bD d.2
    · rw[aTg c,aTd c];rfl
    · rw[aTe c,aTc c];rfl
   | inr x=>rfl
 · unfold mX
   rw[aHY l hz]
   simp only[aTb]
   by_cases c:∀ x∈l,ValidL x
   · rw[aTg c,aTd rfl,aBy c hl]
     simp only[aTb]
     cases hj:jnP l with
     | none=>rfl
     | some t =>
      obtain⟨s,e⟩:=t
      obtain⟨_,g1,_⟩:=aBz hj
      simp only[pk,aTz]
      rw[qP s (by have:=g1.sz;omega)]
      rfl
   · rw[aTe c]
     unfold jnP
     rw[aTc c];rfl
/- Cliques: their nodes in order. -/
theorem aAt:∀ {a b:List Int},a.Pairwise (· < ·)->b.Pairwise (· < ·)->(∀ x,x∈a↔x∈b)->a=b
 | [],[],_,_,_=>rfl
 | [],y::b,_,_,h=>absurd ((h y).2 (by simp)) (by simp)
 | x::a,[],_,_,h=>absurd ((h x).1 (by simp)) (by simp)
 | x::a,y::b,ha,hb,h=>by
  rw[aTQ]at ha hb
  have hxy:x=y:=by
   have h1:=(h x).1 (by simp)
   have h2:=(h y).2 (by simp)
   rcases aTf.1 h1 with e | e
   · exact e
   · rcases aTf.1 h2 with e' | e'
     · exact e'.symm
     · have:=hb.1 x e;have:=ha.1 y e';omega
  subst hxy
  have:a=b:=aAt ha.2 hb.2 (fun z=>by
   constructor
   · intro hz
     have:=(h z).1 (by simp[hz])
     rcases aTf.1 this with e | e
     · subst e;have:=ha.1 z hz;omega
     · exact e
   · intro hz
     have:=(h z).2 (by simp[hz])
     rcases aTf.1 this with e | e
     · subst e;have:=hb.1 z hz;omega
     · exact e)
  rw[this]
def aA7:List Int->Int->List Int
 | [],n=>[n]
 | x::l,n=>if x<n then x::aA7 l n else if x=n then x::l else n::x::l
theorem aAb:∀ (l:List Int) (n x:Int),x∈aA7 l n↔x=n\/x∈l
 | [],n,x=>by simp[aA7]
 | y::l,n,x=>by
  unfold aA7
  by_cases h1:y<n
  · rw[aTd h1,aTf,aTf,aAb l n x]
    constructor
    · rintro(h | h | h) <;> simp[h]
    · rintro(h | h | h) <;> simp[h]
  · rw[aTc h1]
    by_cases h2:y=n
    · rw[aTd h2];subst h2;simp
    · rw[aTc h2];simp
theorem wA:∀ (l:List Int) (n:Int),l.Pairwise (· < ·)->(aA7 l n).Pairwise (· < ·)
 | [],n,_=>by simp[aA7]
 | y::l,n,h=>by
  unfold aA7
  rw[aTQ]at h
  by_cases h1:y<n
  · rw[aTd h1,aTQ]
    exact⟨fun x hx=>by rcases(aAb l n x).1 hx with e | e;omega;exact h.1 x e,wA l n h.2⟩
  · rw[aTc h1]
    by_cases h2:y=n
    · rw[aTd h2,aTQ];exact h
    · rw[aTc h2,aTQ]
      exact⟨fun x hx=>by rcases aTf.1 hx with e | e;omega;have:=h.1 x e;omega,aTQ.2 h⟩
theorem aAc:∀ (l:List Int) (n:Int),(aA7 l n).length<=l.length+1
 | [],n=>by simp[aA7]
 | y::l,n=>by
  unfold aA7
  split
  · simp[aAc l n]
  · split <;> simp
def nX (l:List Int)(n:Int):Nat:=(l.takeWhile (fun x=>decide (x<n))).length
theorem aK3 (l:List Int)(n:Int):nX l n<=l.length:=by
 unfold nX
 induction l with
 | nil=>simp
 | cons x l ih =>
  rw[List.takeWhile_cons]
  split
  · simpa using ih
  · simp
theorem aDt (x:Int)(l:List Int)(n:Int):nX (x::l) n=if x<n then nX l n+1 else 0:=by
 unfold nX
 rw[List.takeWhile_cons]
 by_cases h:x<n <;> simp[h]
theorem aLO:∀ (l:List Int) (n:Int),aA7 l n=if l[nX l n]?=some n then l else l.take (nX l n)++[n]++l.drop (nX l n)
 | [],n=>by simp[aA7,nX]
 | x::l,n=>by
  rw[aDt]
  unfold aA7
  by_cases h:x<n
  · rw[aTd h,aTd h,aLO l n]
    simp only[aVH,aVa,aVX]
    split <;> simp
  · rw[aTc h,aTc h]
    by_cases h2:x=n <;> simp[h2]
theorem aN1 (l:List Int)(n:Int)(h:l.length<=4294967296):lp (gA l n) 0=some ((nX l n:Nat):Int):=by
 have main:∀ m k:Nat,m+k=l.length->lp (gA l n) (k:Int)=some ((k+nX (l.drop k) n:Nat):Int):=by
  intro m
  induction m with
  | zero =>
   intro k hk
   have:k=l.length:=by omega
   subst this
   rw[aK (r:=(l.length:Int)) (by unfold gA;rw[aTc (by omega)];rfl),aUo];simp[nX]
  | succ m ih =>
   intro k hk
   have hlt:k<l.length:=by omega
   rw[aTh hlt,aDt]
   by_cases c:l[k]<n
   · rw[aTd c]
     have e:gA l n (k:Int)=some (.inl ((k:Int)+1)):=by
      unfold gA
      rw[aTd (by omega),aN hlt,wi (by omega)]
      simp[c]
     rw[aQ e,show(k:Int)+1=((k+1:Nat):Int)by omega,ih (k+1) (by omega)]
     congr 2;omega
   · rw[aTc c]
     have e:gA l n (k:Int)=some (.inr (k:Int)):=by
      unfold gA
      rw[aTd (by omega),aN hlt]
      simp[c]
     rw[aK e];simp
 have:=main l.length 0 (by omega)
 simpa using this
theorem aJl (l:List Int)(n:Int)(h:l.length<=4294967296):nC l n=some (aA7 l n):=by
 have hf:=aK3 l n
 unfold nC
 rw[aN1 l n h,aLO]
 simp only[aTb]
 by_cases hlt:nX l n<l.length
 · rw[aTd (by omega),aN hlt,aTl hlt]
   simp only[aTb,aUs,Option.some.injEq]
   by_cases c:l[nX l n]=n
   · rw[aTd c,aTd c]
   · rw[aTc c,aTc c,qC _ _ _ (by omega),qC _ _ _ (by omega)]
     simp only[aTb,aJ,aTi]
     rw[aM (by simp;omega),aM (by simp;omega),aM (by simp;omega)]
     simp only[aTb]
     simp
     rw[aT1 (by simp)]
 · have:nX l n=l.length:=by omega
   rw[aTc (by omega),this,aTc (by simp)]
   simp only[aTb,aTk,aTD]
   rw[qC _ _ _ (by omega),qC _ _ _ (by omega)]
   simp only[aTb,aJ,aTi]
   rw[aM (by simp;omega),aM (by simp;omega),aM (by simp;omega)]
   simp
/- The arms of a node of a link set, both programs. -/
def tQ (v:Int)(l:Link):Int:=if l.fA=v then l.fB else l.fA
def tch (v:Int)(l:Link):Bool:=decide (l.fA=v\/l.fB=v)
noncomputable def aA3 (v:Int)(l:Link):l08Arm:=if l.fA=v then⟨l.fB,l.fWeight,RN l.fDX,RN l.fDY⟩else⟨l.fA,l.fWeight,l.fDX,l.fDY⟩
noncomputable def bJ (v:Int)(s:List Link):List l08Arm:=(s.filter (tch v)).map (aA3 v)
theorem aLl (v:Int)(l:Link):(aA3 v l).fnode=tQ v l:=by unfold aA3 tQ;split <;> rfl
theorem aHu {s:List Link}(hs:LSet s)(v:Int):((s.filter (tch v)).map (tQ v)).Pairwise (· < ·):=by
 rw[aUC]
 refine List.Pairwise.imp_of_mem (fun {a b} ha hb hr=>?_) (hs.2.sublist List.filter_sublist)
 rw[aTI]at ha hb
 have h1:=hs.1 a ha.1
 have h2:=hs.1 b hb.1
 have t1:=ha.2
 have t2:=hb.2
 unfold tch at t1 t2
 rw[aUs]at t1 t2
 unfold ValidL at h1 h2
 unfold eO at hr
 unfold tQ
 split <;> split <;> omega
theorem aRl {s:List Link}(hs:LSet s)(v:Int):tH s v=some ((s.filter (tch v)).map (tQ v)):=by
 have hlen:=hs.len
 unfold tH
 obtain⟨e1,e2⟩:=mQ (step:=oA s v) s (fun k t=>(t,(k:Int))) (fun t l=>if tch v l then aA7 t (tQ v l)else t) (fun t=>t)
  (fun k t=>t.length<=k/\t.Pairwise (· < ·)/\∀ x,x∈t↔x∈((s.take k).filter (tch v)).map (tQ v)) (fun k t hk hI=>by
   obtain⟨i1,i2,i3⟩:=hI
   have hv:=hs.1 _ (aTv hk)
   have w1:IntKind.i64.wrap ((k:Int)+1)=((k+1:Nat):Int):=by rw[wi (by omega)];omega
   refine⟨?_,?_,?_,?_⟩
   · unfold oA
     simp only[]
     rw[aTd (by omega),aN hk]
     unfold ValidL at hv
     simp only[aTb,aJl t _ (by omega:t.length<=4294967296),w1]
     by_cases A:(s[k]).fA=v
     · have B:¬(s[k]).fB=v:=by omega
       simp[A,B,tch,tQ]
     · by_cases B:(s[k]).fB=v
       · rw[aTc A]
         simp only[aTb]
         rw[aTd B,aJl t _ (by omega:t.length<=4294967296)]
         simp[A,B,tch,tQ]
       · simp[A,B,tch,tQ]
   · have:=aAc t (tQ v s[k])
     split <;> omega
   · split
     · exact wA _ _ i2
     · exact i2
   · intro x
     have tk:s.take (k+1)=s.take k++[s[k]]:=by rw[aVJ,aTl hk];rfl
     rw[tk,aVj,aUc,aTj,<- i3 x]
     by_cases T:tch v s[k]=true
     · simp only[T,aTz,aAb,List.filter_cons_of_pos,aUY,aTo,aT8,aTU]
       exact Or.comm
     · simp[T]) (fun t _=>by unfold oA;simp only[];rw[aTc (by omega)]) [] ⟨by simp,List.Pairwise.nil,by simp⟩
 rw[show((0:Nat):Int)=0 from rfl]at e1
 rw[e1]
 simp only[aTb]
 congr 1
 obtain⟨_,g2,g3⟩:=e2
 rw[aUz]at g3
 exact aAt g2 (aHu hs v) g3
theorem LSet.uniq {s:List Link}(hs:LSet s){a b:Link}(ha:a∈s)(hb:b∈s)(h1:a.fA=b.fA)(h2:a.fB=b.fB):a=b:=by
 obtain⟨i,hi,rfl⟩:=aVb ha
 obtain⟨j,hj,rfl⟩:=aVb hb
 have pw:=aU2.1 hs.2
 rcases Nat.lt_trichotomy i j with h | h | h
 · have:=pw i j hi hj h;unfold eO at this;omega
 · subst h;rfl
 · have:=pw j i hj hi h;unfold eO at this;omega
theorem aRr (p q r t:Prop)[Decidable p][Decidable q][Decidable r][Decidable t]:((if p then(if q then some true else(if r then some (decide t)else some false))else(if r then some (decide t)else some false)):Option Bool)=some (decide ((p/\q)\/(r/\t))):=by
 by_cases p <;> by_cases q <;> by_cases r <;> by_cases t <;> simp[*]
theorem aPt {s:List Link}(hs:LSet s){v:Int}{l:Link}(hl:l∈s)(ht:tch v l=true):vX s (tQ v l) v=some (l,true):=by
 have hlen:=hs.len
 have hv:=hs.1 l hl
 unfold vX
 rw[lR s (by have:=hs.sz;omega),aTg hs]
 simp only[aTb,aTz]
 obtain⟨r,e,q⟩:=aMY (step:=pN s (tQ v l) v) s.length (fun r=>r=.inr (l,true)) (fun k=>l∈s.drop k) (by simpa using hl) (fun k hk hj=>by
  have hx:=hs.1 _ (aTv hk)
  have w1:IntKind.i64.wrap ((k:Int)+1)=((k+1:Nat):Int):=by rw[wi (by omega)];omega
  rw[aTh hk]at hj
  have st:pN s (tQ v l) v (k:Int)=some (if(((s[k]).fA=tQ v l/\(s[k]).fB=v)\/((s[k]).fA=v/\(s[k]).fB=tQ v l))then .inr (.inr (s[k],true))else .inl ((k+1:Nat):Int)):=by
   unfold pN
   rw[aTd (by omega),aN hk]
   simp only[aTb,w1,tL s[k] (by have:=hx.sz;omega)]
   rw[aRr]
   simp only[aTb]
   by_cases c:((s[k]).fA=tQ v l/\(s[k]).fB=v)\/((s[k]).fA=v/\(s[k]).fB=tQ v l)
   · rw[aTd c,aTg c];rfl
   · rw[aTc c,aTe c];rfl
  unfold tch at ht
  rw[aUs]at ht
  unfold ValidL at hx hv
  by_cases c:((s[k]).fA=tQ v l/\(s[k]).fB=v)\/((s[k]).fA=v/\(s[k]).fB=tQ v l)
  · rw[aTd c]at st
    right
    refine⟨_,st,?_⟩
    have:s[k]=l:=by
     refine hs.uniq (aTv hk) hl ?_ ?_
     · unfold tQ at c;split at c <;> omega
     · unfold tQ at c;split at c <;> omega
    rw[this]
  · rw[aTc c]at st
    left
    refine⟨st,?_⟩
    rcases aTf.1 hj with e | e
    · exfalso;apply c
      rw[<- e];unfold tQ;split <;> omega
    · exact e) (fun hj=>by rw[aUo]at hj;cases hj)
 rw[e,q];rfl
theorem aQ1 {r:Rat}(h:VZ r):VZ (RN r):=(aLs h).2.2
def uK (a:l08Arm):Prop:=(0<=a.fnode/\a.fnode<=9)/\VZ a.fweight/\VZ a.fdx/\VZ a.fdy
theorem aJ9 {v:Int}{l:Link}(h:ValidL l):uK (aA3 v l):=by
 obtain⟨h1,h2,h3⟩:=h.vz
 unfold aA3
 split
 · exact⟨h.2.1,h1,aQ1 h2,aQ1 h3⟩
 · exact⟨h.1,h1,h2,h3⟩
theorem aGC {s:List Link}(hs:LSet s)(v:Int):∀ a∈bJ v s,uK a:=by
 intro a ha
 obtain⟨l,hl,rfl⟩:=aTu.1 ha
 exact aJ9 (hs.1 l (aTI.1 hl).1)
theorem aB5 {s:List Link}(hs:LSet s)(v:Int):(bJ v s).length<=100:=by
 have:=hs.len
 have:=aU1 (tch v) s
 unfold bJ
 rw[aTs];omega
theorem aNi {s:List Link}(hs:LSet s)(v:Int):((bJ v s).map (·.fnode)).Pairwise (· < ·):=by
 have:=aHu hs v
 unfold bJ
 rw[aUK]
 have e:(fun a:l08Arm=>a.fnode) ∘ aA3 v=tQ v:=by funext l;exact aLl v l
 rw[e];exact this
theorem aRN {s:List Link}(hs:LSet s)(v:Int):tG s v=some (bJ v s):=by
 have hal:=aB5 hs v
 unfold tG
 rw[aRl hs v]
 simp only[aTb]
 have hfl:((s.filter (tch v)).map (tQ v)).length=(bJ v s).length:=by unfold bJ;rw[aTs,aTs]
 have:=rN (step:=nZ s v ((s.filter (tch v)).map (tQ v))) (bJ v s) (fun k t=>((k:Int),t)) (fun t=>t) (fun k t hk ht=>by
  have hk2:k<(s.filter (tch v)).length:=by unfold bJ at hk;rwa [aTs]at hk
  have hk3:k<((s.filter (tch v)).map (tQ v)).length:=by rwa [aTs]
  have hm:=aTI.1 (aTv hk2)
  have w1:IntKind.i64.wrap ((k:Int)+1)=((k+1:Nat):Int):=by rw[wi (by omega)];omega
  have hv:=hs.1 _ hm.1
  obtain⟨v1,v2,v3⟩:=hv.vz
  have g:=aPt hs hm.1 hm.2
  have ea:(bJ v s)[k]=aA3 v (s.filter (tch v))[k]:=by simp only[bJ,aUL]
  unfold nZ
  simp only[]
  rw[aTd (by omega),aN hk3,aUL]
  simp only[aTb,g,(aLs v2).1,(aLs v3).1,w1]
  rw[ea]
  unfold aA3
  by_cases A:((s.filter (tch v))[k]).fA=v
  · rw[aTd A,aTd A]
    simp only[aTb,tQ,A,aTz]
    rw[aM (by omega)];rfl
  · rw[aTc A,aTc A]
    simp only[aTb,tQ,A,aTD]
    rw[aM (by omega)];rfl) (fun t ht=>by unfold nZ;simp only[];rw[aTc (by omega)])
 rw[show((0:Nat):Int)=0 from rfl]at this
 rw[this];rfl
/- Eliminating a node of a link set, both programs. -/
open IntKind
noncomputable def qW (a:List l08Arm):Rat:=a.foldl (fun t a=>RA t a.fweight) (dN 0)
noncomputable def fQ (t:Rat)(a:l08Arm):Parent:=⟨a.fnode,RD a.fweight t,a.fdx,a.fdy⟩
noncomputable def uH (t:Rat)(a b:l08Arm):Link:=⟨a.fnode,b.fnode,RD (RM a.fweight b.fweight) t,RS a.fdx b.fdx,RS a.fdy b.fdy⟩
noncomputable def iM (t:Rat):List l08Arm->List Link
 | []=>[]
 | a::r=>r.map (uH t a)++iM t r
noncomputable def aCw (v:Int)(a:List l08Arm):Conditional:=⟨v,qW a,a.map (fQ (qW a))⟩
def condOk (v:Int)(a:List l08Arm):Prop:=bA (aCw v a)=some true
noncomputable instance (v:Int)(a:List l08Arm):Decidable (condOk v a):=Classical.propDecidable _
noncomputable def yC (v:Int)(s:List Link):Option (Conditional×List Link) :=
 if(1<=v/\v<=9)/\condOk v (bJ v s)/\(∀ x∈iM (qW (bJ v s)) (bJ v s),ValidL x)then some (aCw v (bJ v s),iM (qW (bJ v s)) (bJ v s))else none
theorem aIK {v:Int}{s:List Link}(h:(1<=v/\v<=9)/\condOk v (bJ v s)/\(∀ x∈iM (qW (bJ v s)) (bJ v s),ValidL x)):yC v s=some (aCw v (bJ v s),iM (qW (bJ v s)) (bJ v s)):=by unfold yC;rw[aTd h]
theorem aB1 {v:Int}{s:List Link}(h:¬((1<=v/\v<=9)/\condOk v (bJ v s)/\(∀ x∈iM (qW (bJ v s)) (bJ v s),ValidL x))):yC v s=none:=by unfold yC;rw[aTc h]
def aE6:Conditional:=Conditional.mk 0 (Rat.mk (BigInt.mk false ([])) ([])) ([])
def pkE:Option (Conditional×List Link)->Conditional×List Link×Bool
 | some (c,m)=>(c,m,true)
 | none=>(aE6,[],false)
theorem aJU:∀ (a:List l08Arm) (t:Rat),(∀ x∈a,uK x)->VZ t->VZ (a.foldl (fun t a=>RA t a.fweight) t)
 | [],t,_,h=>h
 | x::a,t,ho,h=>aJU a _ (fun y hy=>ho y (by simp[hy])) (yG h (ho x (by simp)).2.1).2.2
theorem aAr {a:List l08Arm}(h:∀ x∈a,uK x):VZ (qW a):=aJU a _ h (.inl aBS)
theorem aGl {α β:Type}(g:α->β):∀ (l:List α) (t:List β),l.foldl (fun t b=>t++[g b]) t=t++l.map g
 | [],t=>by simp
 | x::l,t=>by rw[aUG,aGl g l,aTo,aTx];rfl
theorem aJx {t:Rat}{a b:l08Arm}(ht:VZ t)(ha:uK a)(hb:uK b):bY (uH t a b)<=144:=by
 have h1:=nF (aCR (aBa ha.2.1 hb.2.1).2.2 ht).2.2
 have h2:=nF (aG1 ha.2.2.1 hb.2.2.1).2.2
 have h3:=nF (aG1 ha.2.2.2 hb.2.2.2).2.2
 unfold bY uH;simp only[];omega
theorem aL1 {t:Rat}(ht:VZ t):∀ {a:List l08Arm},(∀ x∈a,uK x)->∀ x∈iM t a,bY x<=144
 | [],_,x,hx=>by cases hx
 | a::r,h,x,hx=>by
  rw[iM]at hx
  rcases aTj.1 hx with hx | hx
  · obtain⟨b,hb,rfl⟩:=aTu.1 hx
    exact aJx ht (h a (by simp)) (h b (by simp[hb]))
  · exact aL1 ht (fun y hy=>h y (by simp[hy])) x hx
theorem aFT (t:Rat):∀ {a:List l08Arm} {n:Nat},a.length<=n->(iM t a).length<=n*a.length
 | [],n,_=>by simp[iM]
 | a::r,n,h=>by
  rw[aTG]at h
  have:=aFT t (a:=r) (n:=n) (by omega)
  rw[iM,aTF,aTs,aTG,aUy,Nat.mul_one];omega
theorem aOv (t:Rat):∀ {a:List l08Arm} {x:Link},x∈iM t a->∃ y∈a,x.fA=y.fnode
 | [],x,hx=>by cases hx
 | a::r,x,hx=>by
  rw[iM]at hx
  rcases aTj.1 hx with hx | hx
  · obtain⟨b,hb,rfl⟩:=aTu.1 hx
    exact⟨a,by simp,rfl⟩
  · obtain⟨y,hy,e⟩:=aOv t hx
    exact⟨y,by simp[hy],e⟩
theorem aJB (t:Rat):∀ {a:List l08Arm},(a.map (·.fnode)).Pairwise (· < ·)->(iM t a).Pairwise eO
 | [],_=>List.Pairwise.nil
 | a::r,h=>by
  rw[aTo,aTQ]at h
  rw[iM,aUH]
  refine⟨?_,aJB t h.2,fun x hx y hy=>?_⟩
  · rw[aUC]
    have:=h.2
    rw[aUC]at this
    exact this.imp (fun {b c} hbc=>.inr ⟨rfl,hbc⟩)
  · obtain⟨b,hb,rfl⟩:=aTu.1 hx
    obtain⟨z,hz,e⟩:=aOv t hy
    exact .inl (by rw[e];exact h.1 _ (aTu.2 ⟨z,hz,rfl⟩))
theorem aHz {t:Rat}{a:List l08Arm}(h:(a.map (·.fnode)).Pairwise (· < ·)):LSet (iM t a)↔∀ x∈iM t a,ValidL x:=⟨fun g=>g.1,fun g=>⟨g,aJB t h⟩⟩
theorem aM8 {a:List l08Arm}(ha:∀ x∈a,uK x)(hl:a.length<=100):lp (eT a) (0,dN 0)=some (qW a):=by
 have:=(mQ (step:=eT a) a (fun k t=>((k:Int),t)) (fun t a=>RA t a.fweight) (fun t=>t) (fun _ t=>VZ t) (fun k t hk hi=>by
  have w1:i64.wrap ((k:Int)+1)=((k+1:Nat):Int):=by rw[wi (by omega)];omega
  obtain⟨q1,_,q3⟩:=yG hi (ha _ (aTv hk)).2.1
  refine⟨?_,q3⟩
  unfold eT
  simp only[]
  rw[aTd (by omega),aN hk]
  simp only[aTb,q1,w1]) (fun t _=>by unfold eT;simp only[];rw[aTc (by omega)]) (dN 0) (.inl aBS)).1
 rw[show((0:Nat):Int)=0 from rfl]at this
 exact this
theorem aNa {a:List l08Arm}{t:Rat}(ht:VZ t)(ha:∀ x∈a,uK x)(hl:a.length<=100):lp (eR a t) (0,[])=some (a.map (fQ t)):=by
 have:=rN (step:=eR a t) (a.map (fQ t)) (fun k t=>((k:Int),t)) (fun t=>t) (fun k u hk hu=>by
  have hk2:k<a.length:=by rwa [aTs]at hk
  have w1:i64.wrap ((k:Int)+1)=((k+1:Nat):Int):=by rw[wi (by omega)];omega
  have ho:=ha _ (aTv hk2)
  have q:=(aCR ho.2.1 ht).1
  unfold eR
  simp only[]
  rw[aTd (by omega),aN hk2]
  simp only[aTb,q,pJ _ (VZs ho.2.2.1),pJ _ (VZs ho.2.2.2),w1]
  rw[aM (by omega)]
  simp only[aTb,uS,aUL]
  rfl) (fun u hu=>by unfold eR;simp only[];rw[aTs,aTc (by omega)])
 rw[show((0:Nat):Int)=0 from rfl]at this
 exact this
theorem aM9 {r:List l08Arm}{x:l08Arm}{t:Rat}(ht:VZ t)(hx:uK x)(hr:∀ y∈r,uK y)(hl:r.length<=100)(acc:List Link)(hacc:acc.length<=1000000) :
 lp (eQ r x t) (0,acc)=some (acc++r.map (uH t x)):=by
 have:=(mQ (step:=eQ r x t) r (fun k u=>((k:Int),u)) (fun u b=>u++[uH t x b]) (fun u=>u) (fun k u=>u.length<=1000000+k) (fun k u hk hi=>by
  have w1:i64.wrap ((k:Int)+1)=((k+1:Nat):Int):=by rw[wi (by omega)];omega
  have ho:=hr _ (aTv hk)
  have q0:=aBa hx.2.1 ho.2.1
  have q1:=(aCR q0.2.2 ht).1
  have q2:=(aG1 hx.2.2.1 ho.2.2.1).1
  have q3:=(aG1 hx.2.2.2 ho.2.2.2).1
  refine⟨?_,by rw[aTF,aTY];omega⟩
  unfold eQ
  simp only[]
  rw[aTd (by omega),aN hk]
  simp only[aTb,q0.1,q1,q2,q3,w1]
  rw[aM (by omega)]
  rfl) (fun u _=>by unfold eQ;simp only[];rw[aTc (by omega)]) acc (by omega)).1
 rw[show((0:Nat):Int)=0 from rfl,aGl]at this
 exact this
theorem aNA {α:Type}(l:List α)(k:Nat)(hk:k+1<=l.length)(hl:l.length<=4294967296):sub l (i64.wrap ((k:Int)+1)) (l.length:Int)=some (l.drop (k+1)):=by
 have w1:i64.wrap ((k:Int)+1)=((k+1:Nat):Int):=by rw[wi (by omega)];omega
 rw[w1,qC _ _ _ (by omega)];congr 1
 rw[aT1];rfl
 rw[aUr];omega
theorem aK5 {a:List l08Arm}{t:Rat}(ht:VZ t)(ha:∀ x∈a,uK x)(hl:a.length<=100):lp (dI a t) (0,[])=some (iM t a):=by
 have main:∀ m k:Nat,m+k=a.length->∀ acc:List Link,acc.length<=100*k->lp (dI a t) ((k:Int),acc)=some (acc++iM t (a.drop k)):=by
  intro m
  induction m with
  | zero =>
   intro k hk acc hacc
   rw[aTE (by omega),iM,aUf]
   exact aK (by unfold dI;simp only[];rw[aTc (by omega)])
  | succ m ih =>
   intro k hk acc hacc
   have hlt:k<a.length:=by omega
   have w1:i64.wrap ((k:Int)+1)=((k+1:Nat):Int):=by rw[wi (by omega)];omega
   rw[aTh hlt,iM]
   have row:=aM9 (r:=a.drop (k+1)) ht (ha _ (aTv hlt)) (fun y hy=>ha y (aVQ hy)) (by rw[aUr];omega) acc (by omega)
   have st:dI a t ((k:Int),acc)=some (.inl (((k+1:Nat):Int),acc++(a.drop (k+1)).map (uH t a[k]))):=by
    unfold dI
    simp only[]
    rw[aTd (by omega),aN hlt,aNA a k (by omega) (by omega)]
    simp only[aTb,row,w1]
   rw[aQ st,ih (k+1) (by omega) _ (by rw[aTF,aTs,aUr];omega),aTx]
 have:=main a.length 0 (by omega) [] (by simp)
 rw[show((0:Nat):Int)=0 from rfl,aTZ,aTi]at this
 exact this
theorem aIM {v:Int}{a:List l08Arm}(ha:∀ x∈a,uK x)(hl:a.length<=100):aX (aCw v a)<=4294967296:=by
 have h1:=nF (aAr ha)
 have h2:pF (a.map (fQ (qW a)))<=145*(a.map (fQ (qW a))).length:=aDG (c:=144) (fun p hp=>by
  obtain⟨x,hx,rfl⟩:=aTu.1 hp
  have ho:=ha x hx
  have g1:=nF (aCR ho.2.1 (aAr ha)).2.2
  have g2:=nF ho.2.2.1
  have g3:=nF ho.2.2.2
  unfold nI fQ;simp only[];omega)
 rw[aTs]at h2
 unfold aX aCw;simp only[];omega
theorem aQh {s:List Link}(hs:LSet s)(v:Int):kC s v=some (pkE (yC v s)):=by
 have ha:=aGC hs v
 have hl:=aB5 hs v
 have ht:=aAr ha
 obtain⟨b,b1,b2,_⟩:=aIR _ (aIM (v:=v) ha hl)
 have inc:=aNi hs v
 unfold kC
 rw[lR s (by have:=hs.sz;omega),aTg hs,aAH]
 simp only[aTb,aTz]
 by_cases c:1<=v/\v<=9
 · rw[aTg c]
   simp only[aUh,aTk,aTD]
   rw[aRN hs v,bV 0 (by omega)]
   simp only[aTb]
   rw[aM8 ha hl]
   simp only[aTb]
   rw[aNa ht ha hl]
   simp only[aTb]
   rw[aK5 ht ha hl]
   simp only[aTb]
   have e:(Conditional.mk v (qW (bJ v s)) ((bJ v s).map (fQ (qW (bJ v s)))))=aCw v (bJ v s):=rfl
   rw[e,b1]
   simp only[aTb]
   have hms:=aDG (aL1 ht ha)
   have hml:=aFT (qW (bJ v s)) (a:=bJ v s) (aTn _)
   have hm2:(bJ v s).length*(bJ v s).length<=100*100:=aTK hl hl
   rw[lR _ (by unfold aL;omega)]
   cases b with
   | false =>
    have:¬condOk v (bJ v s):=by unfold condOk;rw[b1];simp
    rw[aB1 (fun h=>this h.2.1)];rfl
   | true =>
    have hc:condOk v (bJ v s):=b1
    simp only[aTz,aTb]
    by_cases d:∀ x∈iM (qW (bJ v s)) (bJ v s),ValidL x
    · rw[aTg ((aHz inc).2 d),aIK ⟨c,hc,d⟩];rfl
    · rw[aTe (fun h=>d ((aHz inc).1 h)),aB1 (fun h=>d h.2.2)];rfl
 · rw[aTe c]
   rw[aB1 (fun h=>c h.1)];rfl
def xK (a:l08Arm):Parent:=⟨a.fnode,nH,a.fdx,a.fdy⟩
theorem aLk (v:Int)(s:List Link)(k:Nat)(hk:k<s.length):bJ v (s.take (k+1))=bJ v (s.take k)++(if tch v s[k]then [aA3 v s[k]]else []):=by
 have tk:s.take (k+1)=s.take k++[s[k]]:=by rw[aVJ,aTl hk];rfl
 unfold bJ
 rw[tk,aVj,aUc]
 congr 1
 by_cases c:tch v s[k] <;> simp[c]
theorem aK7 {s:List Link}(hs:LSet s)(v:Int):lp (eY s v) (0,dN 0,[],[])=some (qW (bJ v s),(bJ v s).map (·.fweight),(bJ v s).map xK):=by
 have hlen:=hs.len
 have hpre:∀ k,∀ a∈bJ v (s.take k),uK a:=fun k a ha=>by
  obtain⟨l,hl,rfl⟩:=aTu.1 ha
  exact aJ9 (hs.1 l (aVP (aTI.1 hl).1))
 have hpl:∀ k,(bJ v (s.take k)).length<=100:=fun k=>by
  have:=aU1 (tch v) (s.take k)
  have h2:(s.take k).length<=s.length:=by rw[aTS];omega
  unfold bJ;rw[aTs];omega
 have main:∀ m k:Nat,m+k=s.length->lp (eY s v) ((k:Int),qW (bJ v (s.take k)),(bJ v (s.take k)).map (·.fweight),(bJ v (s.take k)).map xK)=some (qW (bJ v s),(bJ v s).map (·.fweight),(bJ v s).map xK):=by
  intro m
  induction m with
  | zero =>
   intro k hk
   rw[aT1 (by omega)]
   exact aK (by unfold eY;simp only[];rw[aTc (by omega)])
  | succ m ih =>
   intro k hk
   have hlt:k<s.length:=by omega
   have w1:i64.wrap ((k:Int)+1)=((k+1:Nat):Int):=by rw[wi (by omega)];omega
   have hv:=hs.1 _ (aTv hlt)
   obtain⟨v1,v2,v3⟩:=hv.vz
   have n1:=(aLs v2).2.1
   have n2:=(aLs v3).2.1
   have ra:=(yG (aAr (hpre k)) v1).2.1
   have hp:=hpl k
   have st:eY s v ((k:Int),qW (bJ v (s.take k)),(bJ v (s.take k)).map (·.fweight),(bJ v (s.take k)).map xK)=some (.inl (((k+1:Nat):Int),qW (bJ v (s.take (k+1))),(bJ v (s.take (k+1))).map (·.fweight),(bJ v (s.take (k+1))).map xK)):=by
    rw[aLk v s k hlt]
    unfold eY
    simp only[]
    rw[aTd (by omega),aN hlt]
    simp only[aTb,n1,n2,ra,w1]
    have k1:∀ {α:Type} {f:l08Arm->α},((bJ v (s.take k)).map f).length<=100:=by intro α f;rw[aTs];exact hp
    by_cases A:(s[k]).fA=v
    · rw[aTd A,aM (by have:=k1 (f:=xK);omega)]
      simp only[aTb,uS]
      rw[aM (by have:=k1 (f:=fun a=>a.fweight);omega)]
      simp[tch,A,aA3,qW,xK,nH,ra]
    · by_cases B:(s[k]).fB=v
      · rw[aTc A,aTd B,aM (by have:=k1 (f:=xK);omega)]
        simp only[aTb,uS]
        rw[aM (by have:=k1 (f:=fun a=>a.fweight);omega)]
        simp[tch,A,B,aA3,qW,xK,nH,ra]
      · simp[tch,A,B]
   rw[aQ st]
   exact ih (k+1) (by omega)
 have:=main s.length 0 (by omega)
 simpa [bJ,qW]using this
theorem aNc {a:List l08Arm}{t:Rat}(ht:VZ t)(ha:∀ x∈a,uK x)(hl:a.length<=100):lp (eX (t,a.map (·.fweight),a.map xK)) (0,a.map xK)=some (a.map (fQ t)):=by
 have main:∀ m k:Nat,m+k=a.length->lp (eX (t,a.map (·.fweight),a.map xK)) ((k:Int),(a.take k).map (fQ t)++(a.drop k).map xK)=some (a.map (fQ t)):=by
  intro m
  induction m with
  | zero =>
   intro k hk
   refine aK ?_
   unfold eX
   simp only[aTs]
   rw[aTc (by omega),aTE (by omega),aT1 (by omega)]
   simp
  | succ m ih =>
   intro k hk
   have hlt:k<a.length:=by omega
   have w1:i64.wrap ((k:Int)+1)=((k+1:Nat):Int):=by rw[wi (by omega)];omega
   have ho:=ha _ (aTv hlt)
   have q:=(aCR ho.2.1 ht).2.1
   have tl:((a.take k).map (fQ t)).length=k:=by rw[aTs,aTS];omega
   have e1:idx (a.map (fun x=>x.fweight)) (k:Int)=some (a[k]).fweight:=by rw[aN (by rwa [aTs]),aUL]
   have e2:idx ((a.take k).map (fQ t)++(a.drop k).map xK) (k:Int)=some (xK a[k]):=by
    rw[kP,aT0 (by omega),tl,aUV,aTh hlt];rfl
   have e3:iB ((a.take k).map (fQ t)++(a.drop k).map xK) (k:Int) (fQ t a[k])=(a.take (k+1)).map (fQ t)++(a.drop (k+1)).map xK:=by
    rw[lH,aVp _ _ (by omega),tl,aUV,aTh hlt,aTo,aVG,aVJ,aTl hlt,aUc,aTx]
    rfl
   have st:eX (t,a.map (·.fweight),a.map xK) ((k:Int),(a.take k).map (fQ t)++(a.drop k).map xK)=some (.inl (((k+1:Nat):Int),(a.take (k+1)).map (fQ t)++(a.drop (k+1)).map xK)):=by
    unfold eX
    simp only[aTs]
    rw[aTd (by omega),e1]
    simp only[aTb,q,e2,uS,w1]
    have:(Parent.mk (xK a[k]).fNode (RD (a[k]).fweight t) (xK a[k]).fDX (xK a[k]).fDY)=fQ t a[k]:=rfl
    rw[this,e3]
   rw[aQ st]
   exact ih (k+1) (by omega)
 have:=main a.length 0 (by omega)
 simpa using this
def aFr (t:Rat)(x:l08Arm)(r:List l08Arm):Prop:=∀ y∈r,ValidL (uH t x y)
noncomputable instance (t:Rat)(x:l08Arm)(r:List l08Arm):Decidable (aFr t x r):=Classical.propDecidable _
theorem aNb {a:List l08Arm}{t:Rat}(ht:VZ t)(ha:∀ x∈a,uK x)(hl:a.length<=100)(q0:List Parent)(i:Nat)(hi:i<a.length):∀ m j:Nat,m+j=a.length->∀ acc:List Link,acc.length<=1000000+j->
 lp (gT (a.map (fQ t)) (t,a.map (·.fweight),q0) (i:Int) (fQ t a[i])) ((j:Int),acc)=some (if aFr t a[i] (a.drop j)then .inl (acc++(a.drop j).map (uH t a[i]))else .inr (aE6,[],false)):=by
 intro m
 induction m with
 | zero =>
  intro j hj acc hacc
  rw[aTE (by omega),aTd (by intro y hy;cases hy),aT8,aUf]
  exact aK (by unfold gT;simp only[aTs];rw[aTc (by omega)])
 | succ m ih =>
  intro j hj acc hacc
  have hlt:j<a.length:=by omega
  have w1:i64.wrap ((j:Int)+1)=((j+1:Nat):Int):=by rw[wi (by omega)];omega
  have hx:=ha _ (aTv hi)
  have ho:=ha _ (aTv hlt)
  have p0:=aBa hx.2.1 ho.2.1
  have p1:=(aCR p0.2.2 ht).2.1
  have p2:=(aG1 hx.2.2.1 ho.2.2.1).2.1
  have p3:=(aG1 hx.2.2.2 ho.2.2.2).2.1
  have vl:=(iF (uH t a[i] a[j]) (by have:=aJx ht hx ho;omega)).2
  have e0:idx (a.map (fQ t)) (j:Int)=some (fQ t a[j]):=by rw[aN (by rwa [aTs]),aUL]
  have e1:idx (a.map (fun x=>x.fweight)) (i:Int)=some (a[i]).fweight:=by rw[aN (by rwa [aTs]),aUL]
  have e2:idx (a.map (fun x=>x.fweight)) (j:Int)=some (a[j]).fweight:=by rw[aN (by rwa [aTs]),aUL]
  have st:gT (a.map (fQ t)) (t,a.map (·.fweight),q0) (i:Int) (fQ t a[i]) ((j:Int),acc)=some (if ValidL (uH t a[i] a[j])then .inl (((j+1:Nat):Int),acc++[uH t a[i] a[j]])else .inr (.inr (aE6,[],false))):=by
   unfold gT
   simp only[aTs]
   rw[aTd (by omega),e0,e1,e2]
   simp only[aTb,p0.2.1,p1,w1]
   have f1:(fQ t a[i]).fDX=(a[i]).fdx:=rfl
   have f2:(fQ t a[i]).fDY=(a[i]).fdy:=rfl
   have f3:(fQ t a[j]).fDX=(a[j]).fdx:=rfl
   have f4:(fQ t a[j]).fDY=(a[j]).fdy:=rfl
   rw[f1,f2,f3,f4,p2]
   simp only[aTb]
   rw[p3]
   simp only[aTb]
   have f5:(Link.mk (fQ t a[i]).fNode (fQ t a[j]).fNode (RD (RM (a[i]).fweight (a[j]).fweight) t) (RS (a[i]).fdx (a[j]).fdx) (RS (a[i]).fdy (a[j]).fdy))=uH t a[i] a[j]:=rfl
   rw[f5,vl]
   simp only[aTb]
   by_cases c:ValidL (uH t a[i] a[j])
   · rw[aTg c,aTd rfl,aTd c,aM (by omega)];rfl
   · rw[aTe c,aTc c];rfl
  rw[aTh hlt]
  by_cases c:ValidL (uH t a[i] a[j])
  · rw[aTd c]at st
    rw[aQ st,ih (j+1) (by omega) _ (by rw[aTF,aTY];omega)]
    have:aFr t a[i] (a[j]::a.drop (j+1))↔aFr t a[i] (a.drop (j+1)):=⟨fun h x hx'=>h x (aTT _ hx'),fun h x hx'=>by rcases aTf.1 hx' with rfl | h';exact c;exact h x h'⟩
    simp only[this,aTo,aTx,aUk]
  · rw[aTc c]at st
    rw[aK st,aTc (fun h=>c (h _ aVi))]
theorem aK6 {a:List l08Arm}{t:Rat}(ht:VZ t)(ha:∀ x∈a,uK x)(hl:a.length<=100)(q0:List Parent):lp (eW (a.map (fQ t)) (t,a.map (·.fweight),q0)) (0,[])=some (if ∀ x∈iM t a,ValidL x then .inl (iM t a)else .inr (aE6,[],false)):=by
 have main:∀ m k:Nat,m+k=a.length->∀ acc:List Link,acc.length<=100*k->lp (eW (a.map (fQ t)) (t,a.map (·.fweight),q0)) ((k:Int),acc)=some (if ∀ x∈iM t (a.drop k),ValidL x then .inl (acc++iM t (a.drop k))else .inr (aE6,[],false)):=by
  intro m
  induction m with
  | zero =>
   intro k hk acc hacc
   rw[aTE (by omega),aTd (by simp[iM]),iM,aUf]
   exact aK (by unfold eW;simp only[aTs];rw[aTc (by omega)])
  | succ m ih =>
   intro k hk acc hacc
   have hlt:k<a.length:=by omega
   have w1:i64.wrap ((k:Int)+1)=((k+1:Nat):Int):=by rw[wi (by omega)];omega
   have e0:idx (a.map (fQ t)) (k:Int)=some (fQ t a[k]):=by rw[aN (by rwa [aTs]),aUL]
   have row:=aNb ht ha hl q0 k hlt (a.length-(k+1)) (k+1) (by omega) acc (by omega)
   rw[aTh hlt,iM]
   have st:eW (a.map (fQ t)) (t,a.map (·.fweight),q0) ((k:Int),acc)=some (if aFr t a[k] (a.drop (k+1))then .inl (((k+1:Nat):Int),acc++(a.drop (k+1)).map (uH t (a[k]'hlt)))else .inr (.inr (aE6,[],false))):=by
    unfold eW
    simp only[aTs]
    rw[aTd (by omega),e0]
    simp only[aTb,w1,row]
    by_cases c:aFr t a[k] (a.drop (k+1))
    · rw[aTd c,aTd c]
    · rw[aTc c,aTc c]
   by_cases c:aFr t a[k] (a.drop (k+1))
   · rw[aTd c]at st
     rw[aQ st,ih (k+1) (by omega) _ (by rw[aTF,aTs,aUr];omega)]
     have:(∀ x∈(a.drop (k+1)).map (uH t a[k])++iM t (a.drop (k+1)),ValidL x)↔∀ x∈iM t (a.drop (k+1)),ValidL x:=⟨fun h x hx=>h x (aT7 _ hx),fun h x hx=>by
      rcases aTj.1 hx with hx | hx
      · obtain⟨y,hy,rfl⟩:=aTu.1 hx;exact c y hy
      · exact h x hx⟩
     simp only[this,aTx]
   · rw[aTc c]at st
     rw[aK st,aTc]
     intro h
     exact c fun y hy=>h _ (aT5 _ (aTu.2 ⟨y,hy,rfl⟩))
 have:=main a.length 0 (by omega) [] (by simp)
 rw[show((0:Nat):Int)=0 from rfl,aTZ,aTi]at this
 exact this
theorem aQi {s:List Link}(hs:LSet s)(v:Int):sJ s v=some (pkE (yC v s)):=by
 have ha:=aGC hs v
 have hl:=aB5 hs v
 have ht:=aAr ha
 obtain⟨b,b1,b2,_⟩:=aIR _ (aIM (v:=v) ha hl)
 unfold sJ
 have e0:((if v<1 then some true else some (decide (10<=v))):Option Bool)=some (!decide (1<=v/\v<=9)):=by
  by_cases A:v<1
  · have:¬1<=v:=by omega
    simp[A,this]
  · by_cases B:10<=v
    · have:¬v<=9:=by omega
      simp[A,B,this]
    · have h1:1<=v:=by omega
      have h2:v<=9:=by omega
      simp[A,B,h1,h2]
 rw[e0]
 simp only[aTb]
 by_cases c:1<=v/\v<=9
 · rw[aTg c]
   simp only[aUh,aTk,aTD]
   rw[cO 0 (by omega)]
   simp only[aTb]
   rw[aK7 hs v]
   simp only[aTb]
   rw[aNc ht ha hl]
   simp only[aTb]
   have e:(Conditional.mk v (qW (bJ v s)) ((bJ v s).map (fQ (qW (bJ v s)))))=aCw v (bJ v s):=rfl
   rw[e,b2]
   simp only[aTb]
   cases b with
   | false =>
    have:¬condOk v (bJ v s):=by unfold condOk;rw[b1];simp
    rw[aB1 (fun h=>this h.2.1)];rfl
   | true =>
    have hc:condOk v (bJ v s):=b1
    simp only[aTz]
    rw[aK6 ht ha hl]
    by_cases d:∀ x∈iM (qW (bJ v s)) (bJ v s),ValidL x
    · rw[aTd d,aIK ⟨c,hc,d⟩];rfl
    · rw[aTc d,aB1 (fun h=>d h.2.2)];rfl
 · rw[aTe c]
   rw[aB1 (fun h=>c h.1)];rfl
/- Reducing a node of a link set and a node of a tree, both programs. -/
theorem wi1 {k:Nat}(h:k<=4294967296):IntKind.i64.wrap ((k:Int)+1)=((k+1:Nat):Int):=by rw[wi (by omega)];omega
def yS (v:Int)(s:List Link):List Link:=s.filter (fun l=>!tch v l)
theorem xB {α:Type}(p:α->Bool):∀ (l t:List α),l.foldl (fun t x=>if p x=true then t++[x]else t) t=t++l.filter p
 | [],t=>by simp
 | x::l,t=>by
  rw[aUG,xB p l,aTP]
  by_cases c:p x=true
  · simp only[c,aTz,aTx,aUk]
  · simp only[Bool.not_eq_true]at c;simp[c]
theorem aQE (v:Int)(l:Link):((if l.fA≠v then some (decide (l.fB≠v))else some false):Option Bool)=some (!tch v l):=by
 unfold tch;by_cases A:l.fA=v <;> by_cases B:l.fB=v <;> simp[A,B]
theorem aMy {s:List Link}(h:s.length<=4294967296)(v:Int):uU s v=some (yS v s):=by
 have:=(mQ (step:=mD s v) s (fun k t=>((k:Int),t)) (fun t x=>if(fun l=>!tch v l) x=true then t++[x]else t) (fun t=>t) (fun k t=>t.length<=k) (fun k t hk hi=>by
  constructor
  · unfold mD
    simp only[]
    rw[aTd (by omega),aN hk]
    simp only[aTb,aQE,wi1 (by omega:k<=4294967296)]
    by_cases c:tch v s[k]=true
    · rw[aTc (by simp[c]),aTc (by simp[c])]
    · rw[aTd (by simpa using c),aTd (by simpa using c),aM (by omega)];rfl
  · simp only[];split
    · rw[aTF,aTY];omega
    · omega) (fun t _=>by unfold mD;simp only[];rw[aTc (by omega)]) [] (aT9 _)).1
 rw[show((0:Nat):Int)=0 from rfl,xB,aTi]at this
 unfold uU
 rw[this];rfl
theorem aNm {s:List Link}(hs:LSet s)(v:Int):mL s v=some (yS v s):=by
 have hl:=hs.len
 have:=(mQ (step:=jG s v) s (fun k t=>((k:Int),t)) (fun t x=>if(fun l=>!tch v l) x=true then t++[x]else t) (fun t=>t) (fun k t=>t.length<=k) (fun k t hk hi=>by
  constructor
  · unfold jG
    simp only[]
    rw[aTd (by omega),aN hk]
    have cp:=tL s[k] (by have:=(hs.1 _ (aTv hk)).sz;omega)
    simp only[aTb,aQE,wi1 (by omega:k<=4294967296),cp]
    by_cases c:tch v s[k]=true
    · rw[aTc (by simp[c]),aTc (by simp[c])]
    · rw[aTd (by simpa using c),aTd (by simpa using c),aM (by omega)];rfl
  · simp only[];split
    · rw[aTF,aTY];omega
    · omega) (fun t _=>by unfold jG;simp only[];rw[aTc (by omega)]) [] (aT9 _)).1
 rw[show((0:Nat):Int)=0 from rfl,xB,aTi]at this
 unfold mL
 rw[lR s (by have:=hs.sz;omega),aTg hs]
 simp only[aTb,aTz,this]
 rfl
noncomputable def aDL (v:Int)(s:List Link):Option (Conditional×List Link×Rat) :=
 (yC v s).bind fun x=>(jnP (yS v s++x.2)).map fun y=>(x.1,y.1,y.2)
def pkR:Option (Conditional×List Link×Rat)->Conditional×List Link×Rat×Bool
 | some (c,m,e)=>(c,m,e,true)
 | none=>(aE6,[],nH,false)
theorem aJ0 {v:Int}{s:List Link}(hs:LSet s){c:Conditional}{m:List Link}(h:yC v s=some (c,m)):(∀ x∈m,ValidL x)/\m.length<=10000/\aX c<=20000/\(1<=v/\v<=9):=by
 unfold yC at h
 split at h
 · rename_i g
   cases h
   have ha:=aGC hs v
   have hl:=aB5 hs v
   have h1:=aFT (qW (bJ v s)) (a:=bJ v s) (aTn _)
   have h2:(bJ v s).length*(bJ v s).length<=100*100:=aTK hl hl
   have g1:=nF (aAr ha)
   have g2:pF ((bJ v s).map (fQ (qW (bJ v s))))<=145*((bJ v s).map (fQ (qW (bJ v s)))).length:=aDG (c:=144) (fun p hp=>by
    obtain⟨x,hx,rfl⟩:=aTu.1 hp
    have ho:=ha x hx
    have g1:=nF (aCR ho.2.1 (aAr ha)).2.2
    have g2:=nF ho.2.2.1
    have g3:=nF ho.2.2.2
    unfold nI fQ;simp only[];omega)
   rw[aTs]at g2
   refine⟨g.2.2,by omega,?_,g.1⟩
   unfold aX aCw;simp only[];omega
 · cases h
theorem aNS {v:Int}{s:List Link}(hs:LSet s):(∀ x∈yS v s,ValidL x)/\(yS v s).length<=100:=by
 have:=aU1 (fun l=>!tch v l) s
 have:=hs.len
 exact⟨fun x hx=>hs.1 x (aTI.1 hx).1,by unfold yS;omega⟩
theorem aFy {s:List Link}(hs:LSet s)(v:Int):oC s v=some (pkR (aDL v s))/\wO s v=some (pkR (aDL v s)):=by
 unfold oC wO aDL
 rw[aQh hs,aQi hs]
 cases h:yC v s with
 | none=>exact⟨rfl,rfl⟩
 | some x =>
  obtain⟨c,m⟩:=x
  obtain⟨m1,m2,m3,_⟩:=aJ0 hs h
  obtain⟨r1,r2⟩:=aNS (v:=v) hs
  have hall:∀ x∈yS v s++m,ValidL x:=fun x hx=>(aTj.1 hx).elim (r1 x) (m1 x)
  have hlen:(yS v s++m).length<=20000:=by rw[aTF];omega
  have hsz:=aBQ hall
  have j1:=(wL (yS v s++m) (by omega)).1
  have j2:=aBy hall (by omega)
  simp only[pkE,aTb,aTz]
  rw[aNm hs,aMy (by have:=hs.len;omega)]
  simp only[aTb]
  rw[aM (by omega)]
  simp only[aTb,uS,j1,j2]
  cases jnP (yS v s++m)with
  | none=>exact⟨rfl,rfl⟩
  | some y=>exact⟨rfl,rfl⟩
theorem aIl {v:Int}{s:List Link}(hs:LSet s){c:Conditional}{m:List Link}{e:Rat}(h:aDL v s=some (c,m,e)):aX c<=20000/\LSet m/\bD e/\c.fNode=v:=by
 unfold aDL at h
 cases h1:yC v s with
 | none=>rw[h1]at h;cases h
 | some x =>
  rw[h1]at h
  cases h2:jnP (yS v s++x.2)with
  | none=>rw[aTb,h2]at h;cases h
  | some y =>
   rw[aTb,h2]at h
   cases h
   have:=aBz (s:=y.1) (e:=y.2) h2
   refine⟨(aJ0 hs (c:=x.1) (m:=x.2) h1).2.2.1,this.2.1,this.2.2,?_⟩
   unfold yC at h1
   split at h1
   · cases h1;rfl
   · cases h1
/- A node of a tree, both programs. -/
open IntKind
def aU (l s:List Int):Int:=(l.find? (fun u=>decide (u∈s))).getD 0
theorem aMi (l s:List Int)(hl:l.length<=4294967296)(hs:s.length<=4294967296):oQ l s=some (aU l s):=by
 have main:∀ m k:Nat,m+k=l.length->lp (gW l s) (k:Int)=some (match (l.drop k).find? (fun u=>decide (u∈s))with | some x=>.inr x | none=>.inl ()):=by
  intro m
  induction m with
  | zero =>
   intro k hk
   have:k=l.length:=by omega
   subst this
   rw[aK (r:=.inl ()) (by unfold gW;rw[aTc (by omega)]),aUo];rfl
  | succ m ih =>
   intro k hk
   have hlt:k<l.length:=by omega
   rw[aTh hlt,aVI]
   by_cases c:l[k]∈s
   · rw[aK (r:=.inr l[k]) (by unfold gW;rw[aTd (by omega),aN hlt];simp[aDm s _ hs,c])];simp[c]
   · have e:gW l s (k:Int)=some (.inl ((k+1:Nat):Int)):=by
      unfold gW;rw[aTd (by omega),aN hlt];simp only[aTb,aDm s _ hs,wi1 (by omega:k<=4294967296)];simp[c]
     rw[aQ e,ih (k+1) (by omega)]
     simp only[c,aVA]
 have:=main l.length 0 (by omega)
 rw[show((0:Nat):Int)=0 from rfl,aTZ]at this
 unfold oQ aU
 rw[this]
 cases l.find? (fun u=>decide (u∈s)) <;> rfl
def aFF (c:Conditional):List Int:=c.fParents.map (·.fNode)
def upP (order:List Int)(c:Conditional):Int:=aU order (aFF c)
theorem aGn {α:Type}{p q:α->Bool}:∀ {l:List α},(∀ x∈l,p x=q x)->l.find? p=l.find? q
 | [],_=>rfl
 | x::l,h=>by rw[aVI,aVI,h x (by simp),aGn (fun y hy=>h y (by simp[hy]))]
theorem aSV {order:List Int}{c:Conditional}(ho:∀ u∈order,1<=u)(hl:order.length<=4294967296)(hc:c.fParents.length<=4294967296):xF order c=some (upP order c):=by
 have:=(mQ (step:=qY c) c.fParents (fun k t=>((k:Int),t)) (fun t x=>if(fun p:Parent=>decide (0<p.fNode)) x=true then t++[x.fNode]else t) (fun t=>t) (fun k t=>t.length<=k) (fun k t hk hi=>by
  constructor
  · unfold qY
    simp only[]
    rw[aTd (by omega),aN hk]
    simp only[aTb,wi1 (by omega:k<=4294967296)]
    by_cases c0:0<(c.fParents[k]).fNode
    · rw[aTd c0,aTd (by simpa using c0),aM (by omega)];rfl
    · rw[aTc c0,aTc (by simpa using c0)]
  · simp only[];split
    · rw[aTF,aTY];omega
    · omega) (fun t _=>by unfold qY;simp only[];rw[aTc (by omega)]) [] (aT9 _)).1
 rw[show((0:Nat):Int)=0 from rfl]at this
 have e:∀ (l:List Parent) (t:List Int),l.foldl (fun t x=>if(fun p:Parent=>decide (0<p.fNode)) x=true then t++[x.fNode]else t) t=t++(l.filter (fun p=>decide (0<p.fNode))).map (·.fNode):=by
  intro l
  induction l with
  | nil=>intro t;simp
  | cons x l ih =>
   intro t
   rw[aUG,ih,aTP]
   by_cases c0:0<x.fNode <;> simp[c0]
 rw[e,aTi]at this
 unfold xF
 rw[this]
 simp only[aTb]
 have hf:=aU1 (fun p:Parent=>decide (0<p.fNode)) c.fParents
 rw[aMi _ _ hl (by rw[aTs];omega)]
 simp only[aTb]
 congr 1
 unfold upP aU
 congr 1
 refine aGn fun u hu=>?_
 have:=ho u hu
 rw[Bool.eq_iff_iff,aVh,aVh]
 unfold aFF
 simp only[aTu,aTI,aUs]
 constructor
 · rintro⟨p,⟨h1,_⟩,rfl⟩;exact⟨p,h1,rfl⟩
 · rintro⟨p,h1,rfl⟩;exact⟨p,⟨h1,by omega⟩,rfl⟩
theorem aEm (c:Conditional)(v:Int)(h:c.fParents.length<=4294967296):xW c v=some (decide (v∈aFF c)):=by
 have main:∀ m k:Nat,m+k=c.fParents.length->lp (jA c v) (k:Int)=some (if v∈(c.fParents.drop k).map (·.fNode)then .inr true else .inl ()):=by
  intro m
  induction m with
  | zero =>
   intro k hk
   have:k=c.fParents.length:=by omega
   subst this
   rw[aK (r:=.inl ()) (by unfold jA;rw[aTc (by omega)]),aUo];simp
  | succ m ih =>
   intro k hk
   have hlt:k<c.fParents.length:=by omega
   rw[aTh hlt,aTo]
   by_cases d:(c.fParents[k]).fNode=v
   · rw[aK (r:=.inr true) (by unfold jA;rw[aTd (by omega),aN hlt];simp[d]),aTd (by simp[d])]
   · have e:jA c v (k:Int)=some (.inl ((k+1:Nat):Int)):=by
      unfold jA;rw[aTd (by omega),aN hlt];simp only[aTb,wi1 (by omega:k<=4294967296)];rw[aTc d]
     rw[aQ e,ih (k+1) (by omega)]
     have:(v∈(c.fParents[k]).fNode::(c.fParents.drop (k+1)).map (·.fNode))↔v∈(c.fParents.drop (k+1)).map (·.fNode):=by
      rw[aTf];exact⟨fun h=>h.resolve_left (fun e=>d e.symm),.inr⟩
     simp only[this]
 have:=main c.fParents.length 0 (by omega)
 rw[show((0:Nat):Int)=0 from rfl,aTZ]at this
 unfold xW aFF
 rw[this]
 by_cases d:v∈c.fParents.map (·.fNode)
 · rw[aTd d,aTg d];rfl
 · rw[aTc d,aTe d];rfl
theorem aSi (order:List Int)(v:Int)(own:List Link)(r:Conditional×List Link×Rat×Bool)(e:Rat)(hl:order.length<=4294967296)(hc:r.1.fParents.length<=4294967296):lp (gH order v own r e) 0=some (TreeNode.mk v (upP order r.1) own r.1 r.2.1 e):=by
 have main:∀ m k:Nat,m+k=order.length->lp (gH order v own r e) (k:Int)=some (TreeNode.mk v (aU (order.drop k) (aFF r.1)) own r.1 r.2.1 e):=by
  intro m
  induction m with
  | zero =>
   intro k hk
   have:k=order.length:=by omega
   subst this
   rw[aK (by unfold gH;rw[aTc (by omega)]),aUo];rfl
  | succ m ih =>
   intro k hk
   have hlt:k<order.length:=by omega
   rw[aTh hlt]
   unfold aU
   rw[aVI]
   by_cases d:order[k]∈aFF r.1
   · rw[aK (r:=TreeNode.mk v order[k] own r.1 r.2.1 e) (by unfold gH;rw[aTd (by omega),aN hlt];simp only[aTb,aEm _ _ hc,aTg d,aTz])]
     simp[d]
   · have e:gH order v own r e (k:Int)=some (.inl ((k+1:Nat):Int)):=by
      unfold gH;rw[aTd (by omega),aN hlt];simp only[aTb,aEm _ _ hc,wi1 (by omega:k<=4294967296),aTe d,aTk,aTD]
     rw[aQ e,ih (k+1) (by omega)]
     simp only[d,aVA]
     rfl
 have:=main order.length 0 (by omega)
 rw[show((0:Nat):Int)=0 from rfl,aTZ]at this
 exact this
def aAD (v:Int)(b:List TreeNode):List Link:=(b.filter (fun n=>decide (n.fUp=v))).flatMap (·.fMessages)
theorem aJw (v:Int):∀ (b:List TreeNode) (t:List Link),b.foldl (fun t n=>if n.fUp=v then t++n.fMessages else t) t=t++aAD v b
 | [],t=>by simp[aAD]
 | n::b,t=>by
  rw[aUG,aJw v b]
  unfold aAD
  rw[aTP]
  by_cases c:n.fUp=v <;> simp[c]
theorem aLW {v:Int}:∀ {b:List TreeNode},(∀ n∈b,LSet n.fMessages)->(aAD v b).length<=100*b.length
 | [],_=>by simp[aAD]
 | n::b,h=>by
  have:=aLW (v:=v) (b:=b) (fun m hm=>h m (by simp[hm]))
  have h1:=(h n (by simp)).len
  unfold aAD at this ⊢
  rw[aTP,aTG]
  split
  · rw[aTO,aTF];omega
  · omega
theorem aMV {v:Int}{b:List TreeNode}(h:∀ n∈b,LSet n.fMessages):∀ x∈aAD v b,ValidL x:=by
 intro x hx
 unfold aAD at hx
 obtain⟨n,hn,hx⟩:=aU0.1 hx
 exact(h n (aTI.1 hn).1).1 x hx
theorem aQO {step:(Int×List Link)->Option ((Int×List Link) ⊕ List Link)}(v:Int)(b:List TreeNode)(own:List Link)(ho:own.length<=4294967296)(hb:b.length<=4194304)(h:∀ n∈b,LSet n.fMessages)
 (hstep:step=fun s=>match s with | (v6,v7)=>(if(v6<(b.length:Int))then(idx b v6).bind fun y8=>(if(y8.fUp=v)then(chk ((v7.length+y8.fMessages.length)*184<=140737488355328)).bind fun _u=>(aV (v7++y8.fMessages)).bind fun v10=>some (.inl (i64.wrap (v6+1),v10))else some (.inl (i64.wrap (v6+1),v7)))else some (.inr v7))):lp step (0,own)=some (own++aAD v b):=by
 subst hstep
 have:=(mQ (step:=fun s=>match s with | (v6,v7)=>(if(v6<(b.length:Int))then(idx b v6).bind fun y8=>(if(y8.fUp=v)then(chk ((v7.length+y8.fMessages.length)*184<=140737488355328)).bind fun _u=>(aV (v7++y8.fMessages)).bind fun v10=>some (.inl (i64.wrap (v6+1),v10))else some (.inl (i64.wrap (v6+1),v7)))else some (.inr v7))) b (fun k t=>((k:Int),t)) (fun t n=>if n.fUp=v then t++n.fMessages else t) (fun t=>t) (fun k t=>t.length<=4294967296+100*k) (fun k t hk hi=>by
  have hm:=(h _ (aTv hk)).len
  constructor
  · simp only[]
    rw[aTd (by omega),aN hk]
    simp only[aTb,wi1 (by omega:k<=4294967296)]
    by_cases c:(b[k]).fUp=v
    · rw[aTd c,aTd c,aM (by omega)];rfl
    · rw[aTc c,aTc c]
  · split
    · rw[aTF];omega
    · omega) (fun t _=>by simp only[];rw[aTc (by omega)]) own (by omega)).1
 rw[show((0:Nat):Int)=0 from rfl,aJw]at this
 exact this
def aSg:TreeNode:=TreeNode.mk 0 0 ([]) (Conditional.mk 0 (Rat.mk (BigInt.mk false ([])) ([])) ([])) ([]) (Rat.mk (BigInt.mk false ([])) ([]))
noncomputable def rJ (order:List Int)(v:Int)(own:List Link)(b:List TreeNode):Option TreeNode :=
 (jnP (own++aAD v b)).bind fun x=>(aDL v x.1).bind fun y=>if bD (RA x.2 y.2.2)then some ⟨v,upP order y.1,own,y.1,y.2.1,RA x.2 y.2.2⟩else none
def pkN:Option TreeNode->TreeNode×Bool
 | some n=>(n,true)
 | none=>(aSg,false)
theorem aP0 {c:Conditional}(h:aX c<=20000):c.fParents.length<=20000:=by
 have:c.fParents.length<=pF c.fParents:=nJ _ _
 unfold aX at h;omega
theorem aLF (a b:List Link):aL (a++b)=aL a+aL b:=by unfold aL szL;simp
theorem aOj {order:List Int}{v:Int}{own:List Link}{b:List TreeNode}(hl:order.length<=4194304)(ho:∀ u∈order,1<=u)(hz:aL own<=4194304)(hb:b.length<=100)(hm:∀ n∈b,LSet n.fMessages)(hv:∀ x∈own,ValidL x) :
 tD v own order b=some (pkN (rJ order v own b))/\xX ⟨b⟩ order v own=some (pkN (rJ order v own b)):=by
 have hol:own.length<=4194304:=aTr (nJ _ _) hz
 have q1:=aQO (step:=wN v b) v b own (by omega) (by omega) hm rfl
 have q2:=aQO (step:=zB ⟨b⟩ v) v b own (by omega) (by omega) hm rfl
 have hmv:=aMV (v:=v) hm
 have hml:=aLW (v:=v) hm
 have hall:∀ x∈own++aAD v b,ValidL x:=fun x hx=>(aTj.1 hx).elim (hv x) (hmv x)
 have hms:=aBQ hmv
 have hsz:aL (own++aAD v b)<=4294967296:=by rw[aLF];omega
 have hln:(own++aAD v b).length<=4294967296:=by rw[aTF];omega
 have j1:=(wL (own++aAD v b) hsz).1
 have j2:=aBy hall hln
 unfold tD xX rJ
 rw[aCg own (by omega)]
 simp only[aTb,aTi,aUq]
 rw[aM (by omega),q1]
 simp only[aTb,uS]
 rw[q2,j1]
 simp only[aTb,j2]
 cases h:jnP (own++aAD v b)with
 | none =>
  simp only[pk,Option.bind_none,pkN]
  refine⟨?_,rfl⟩
  rw[(aFy aBP v).1]
  have e0:bG (pkR (aDL v [])).2.2.1<=4294967296:=by
   cases h2:aDL v []with
   | none=>exact VZs aCe
   | some y=>exact VZs (.inl (aIl aBP (c:=y.1) (m:=y.2.1) (e:=y.2.2) h2).2.2.1)
  simp only[aTb]
  rw[(aS8 (VZs aCe) e0).1]
  rfl
 | some x =>
  obtain⟨s,e⟩:=x
  obtain⟨_,hs,he⟩:=aBz h
  simp only[pk,aTb,aTz]
  rw[(aFy hs v).1,(aFy hs v).2]
  simp only[aTb]
  cases h2:aDL v s with
  | none =>
   simp only[pkR,Option.bind_none,pkN]
   rw[(yG (.inl he) aCe).1,(yG (.inl he) aCe).2.1]
   exact⟨rfl,rfl⟩
  | some y =>
   obtain⟨c,m,f⟩:=y
   obtain⟨k1,k2,k3,_⟩:=aIl hs h2
   have ra:=yG (.inl he) (.inl k3)
   have hp:=aP0 k1
   simp only[pkR,aTb,ra.1,ra.2.1,aTz]
   rw[dS _ (VZs ra.2.2),iE ra.2.2,aSV ho (by omega) (by omega),aSi order v own (c,m,f,true) (RA e f) (by omega) (by show c.fParents.length<=_;omega)]
   simp only[aTb]
   by_cases g:bD (RA e f)
   · rw[aTg g,aTd g];exact⟨rfl,rfl⟩
   · rw[aTe g,aTc g];exact⟨rfl,rfl⟩
theorem aFL {order:List Int}{v:Int}{own:List Link}{b:List TreeNode}{n:TreeNode}(h:rJ order v own b=some n):LSet n.fMessages/\n.fOwn=own/\aX n.fCond<=20000/\bD n.fEnergy/\n.fNode=v/\n.fUp=upP order n.fCond:=by
 unfold rJ at h
 cases h1:jnP (own++aAD v b)with
 | none=>rw[h1]at h;cases h
 | some x =>
  rw[h1,aTb]at h
  cases h2:aDL v x.1 with
  | none=>rw[h2]at h;cases h
  | some y =>
   rw[h2,aTb]at h
   obtain⟨_,hs,he⟩:=aBz (s:=x.1) (e:=x.2) h1
   obtain⟨k1,k2,k3,_⟩:=aIl hs (c:=y.1) (m:=y.2.1) (e:=y.2.2) h2
   split at h
   · rename_i g;cases h;exact⟨k2,rfl,k1,g,rfl,rfl⟩
   · cases h
/- The nodes of a link set, orders of elimination, whose a link is, both programs. -/
def aEy:List Int:=(List.range 9).map (fun k:Nat=>(k:Int)+1)
theorem aOm {x:Int}:x∈aEy↔1<=x/\x<=9:=by
 unfold aEy
 simp only[aTu,aVM]
 constructor
 · rintro⟨k,h,rfl⟩;omega
 · intro h;exact⟨(x-1).toNat,by omega,by omega⟩
theorem aFM:aEy.length=9:=by decide
theorem aOn (k:Nat)(h:k<aEy.length):aEy[k]=(k:Int)+1:=by simp[aEy]
def fE (s:List Link):List Int:=aEy.filter (fun v=>s.any (tch v))
theorem aAz (s:List Link):(fE s).Pairwise (· < ·):=by
 have:aEy.Pairwise (· < ·):=by decide
 exact this.sublist List.filter_sublist
theorem xL (s:List Link):(fE s).length<=9:=by
 have:=aU1 (fun v=>s.any (tch v)) aEy
 rw[aFM]at this;exact this
theorem aAy {s:List Link}{x:Int}:x∈fE s↔(1<=x/\x<=9)/\∃ l∈s,l.fA=x\/l.fB=x:=by
 unfold fE
 rw[aTI,aOm,List.any_eq_true]
 simp only[tch,aUs]
def aGO (t:List Int)(l:Link):List Int:=aA7 (if 0<l.fA then aA7 t l.fA else t) l.fB
theorem aJm {t:List Int}(l:Link)(h:t.Pairwise (· < ·)):(aGO t l).Pairwise (· < ·):=by
 unfold aGO;split
 · exact wA _ _ (wA _ _ h)
 · exact wA _ _ h
theorem aN2 {t:List Int}{l:Link}{x:Int}:x∈aGO t l↔x=l.fB\/(x=l.fA/\0<x)\/x∈t:=by
 unfold aGO;split
 · rw[aAb,aAb]
   constructor
   · rintro(h | h | h)
     · exact .inl h
     · exact .inr (.inl ⟨h,by omega⟩)
     · exact .inr (.inr h)
   · rintro(h | ⟨h,_⟩ | h)
     · exact .inl h
     · exact .inr (.inl h)
     · exact .inr (.inr h)
 · rw[aAb]
   constructor
   · rintro(h | h)
     · exact .inl h
     · exact .inr (.inr h)
   · rintro(h | ⟨h,_⟩ | h)
     · exact .inl h
     · omega
     · exact .inr h
theorem aN3 (t:List Int)(l:Link):(aGO t l).length<=t.length+2:=by
 unfold aGO;split
 · have:=aAc (aA7 t l.fA) l.fB;have:=aAc t l.fA;omega
 · have:=aAc t l.fB;omega
theorem aHF:∀ (s:List Link) (t:List Int) (x:Int),x∈s.foldl aGO t↔x∈t\/∃ l∈s,x=l.fB\/(x=l.fA/\0<x)
 | [],t,x=>by simp
 | l::s,t,x=>by
  rw[aUG,aHF s,aN2]
  simp only[aTf,exists_eq_or_imp]
  constructor
  · rintro((h | h | h) | h)
    · exact .inr (.inl (.inl h))
    · exact .inr (.inl (.inr h))
    · exact .inl h
    · exact .inr (.inr h)
  · rintro(h | (h | h) | h)
    · exact .inl (.inr (.inr h))
    · exact .inl (.inl h)
    · exact .inl (.inr (.inl h))
    · exact .inr h
theorem aDp:∀ (s:List Link) (t:List Int),t.Pairwise (· < ·)->(s.foldl aGO t).Pairwise (· < ·)
 | [],t,h=>h
 | l::s,t,h=>aDp s _ (aJm l h)
theorem aHU {s:List Link}(hs:LSet s):qE s=some (fE s):=by
 have hl:=hs.len
 have:=(mQ (step:=oD s) s (fun k t=>(t,(k:Int))) aGO (fun t=>t) (fun k t=>t.length<=2*k) (fun k t hk hi=>by
  constructor
  · unfold oD
    simp only[]
    rw[aTd (by omega),aN hk]
    simp only[aTb,wi1 (by omega:k<=4294967296)]
    unfold aGO
    by_cases c:0<(s[k]).fA
    · rw[aTd c,aTd c,aJl _ _ (by omega)]
      simp only[aTb]
      rw[aJl _ _ (by have:=aAc t (s[k]).fA;omega)];rfl
    · rw[aTc c,aTc c]
      simp only[aTb]
      rw[aJl _ _ (by omega)];rfl
  · have:=aN3 t s[k];omega) (fun t _=>by unfold oD;simp only[];rw[aTc (by omega)]) [] (aT9 _)).1
 rw[show((0:Nat):Int)=0 from rfl]at this
 unfold qE
 rw[lR s (by have:=hs.sz;omega),aTg hs]
 simp only[aTb,aTz,this]
 congr 1
 refine aAt (aDp _ _ List.Pairwise.nil) (aAz s) fun x=>?_
 rw[aHF,aAy]
 constructor
 · rintro(h | ⟨l,hl,h⟩)
   · cases h
   · have v:=hs.1 l hl
     rcases h with rfl | ⟨rfl,h0⟩
     · exact⟨⟨by have:=v.2.2.1;have:=v.1.1;omega,v.2.1.2⟩,l,hl,.inr rfl⟩
     · exact⟨⟨by omega,v.1.2⟩,l,hl,.inl rfl⟩
 · rintro⟨h1,l,hl,h⟩
   refine .inr ⟨l,hl,?_⟩
   rcases h with h | h
   · exact .inr ⟨h.symm,by omega⟩
   · exact .inl h.symm
theorem aKN {s:List Link}(hs:s.length<=4294967296)(v:Int)(t:List Int)(ht:t.length<=1000):lp (gR s v t) 0=some (if s.any (tch v)=true then t++[v]else t):=by
 have main:∀ m k:Nat,m+k=s.length->lp (gR s v t) (k:Int)=some (if(s.drop k).any (tch v)=true then t++[v]else t):=by
  intro m
  induction m with
  | zero =>
   intro k hk
   have:k=s.length:=by omega
   subst this
   rw[aK (r:=t) (by unfold gR;rw[aTc (by omega)]),aUo];rfl
  | succ m ih =>
   intro k hk
   have hlt:k<s.length:=by omega
   have e0:((if(s[k]).fA=v then some true else some (decide ((s[k]).fB=v))):Option Bool)=some (tch v s[k]):=by
    unfold tch;by_cases A:(s[k]).fA=v <;> by_cases B:(s[k]).fB=v <;> simp[A,B]
   rw[aTh hlt,List.any_cons]
   by_cases c:tch v s[k]=true
   · rw[aK (r:=t++[v]) (by unfold gR;rw[aTd (by omega),aN hlt];simp only[aTb,e0,c,aTz];rw[aM (by omega)];rfl)]
     simp[c]
   · have e:gR s v t (k:Int)=some (.inl ((k+1:Nat):Int)):=by
      unfold gR;rw[aTd (by omega),aN hlt];simp only[aTb,e0,wi1 (by omega:k<=4294967296)];rw[aTc c]
     rw[aQ e,ih (k+1) (by omega)]
     simp only[Bool.not_eq_true]at c
     simp[c]
 have:=main s.length 0 (by omega)
 rw[show((0:Nat):Int)=0 from rfl,aTZ]at this
 exact this
theorem aHv {s:List Link}(hs:s.length<=4294967296):jQ s=some (fE s):=by
 have:=(mQ (step:=oL s) aEy (fun k t=>((k:Int)+1,t)) (fun t v=>if(fun v=>s.any (tch v)) v=true then t++[v]else t) (fun t=>t) (fun k t=>t.length<=k) (fun k t hk hi=>by
  have hk9:k<9:=by rw[aFM]at hk;exact hk
  constructor
  · unfold oL
    simp only[]
    rw[aTd (by omega),aKN hs _ _ (by omega),aOn]
    have w:IntKind.i64.wrap ((k:Int)+1+1)=((k+1:Nat):Int)+1:=by rw[wi (by omega)];omega
    simp only[aTb,w]
  · simp only[];split
    · rw[aTF,aTY];omega
    · omega) (fun t _=>by unfold oL;simp only[];rw[aFM,aTc (by omega)]) [] (aT9 _)).1
 rw[show((0:Nat):Int)+1=1 from rfl,xB,aTi]at this
 unfold jQ
 rw[this];rfl
def isOrd (s:List Link)(o:List Int):Prop:=o.Nodup/\(∀ y∈o,y∈fE s)/\o.length=(fE s).length
instance (s:List Link)(o:List Int):Decidable (isOrd s o):=by unfold isOrd;exact inferInstance
theorem aIs:∀ {a b:List Int},a.Nodup->(∀ x∈a,x∈b)->b.length<=a.length->b.Perm a
 | [],b,_,_,h=>by
  have:b=[]:=List.eq_nil_of_length_eq_zero (by simpa using h)
  rw[this]
 | x::a,b,hn,hs,h=>by
  rw[aUe]at hn
  have hx:=hs x (by simp)
  have p:=List.perm_cons_erase hx
  have hl:=p.length_eq
  rw[aTG]at hl h
  refine p.trans (List.Perm.cons x (aIs hn.2 (fun y hy=>?_) (by omega)))
  have:y≠x:=fun e=>hn.1 (e▸hy)
  exact(List.mem_erase_of_ne this).2 (hs y (by simp[hy]))
theorem aM0 {l:List Int}(h:l.Pairwise (· < ·)):l.Nodup:=h.imp (fun {a b} hab e=>by subst e;omega)
theorem aHD (s:List Link)(o:List Int):isOrd s o↔(∀ v∈fE s,v∈o)/\o.length=(fE s).length:=by
 have hn:=aM0 (aAz s)
 constructor
 · rintro⟨h1,h2,h3⟩
   have p:=aIs h1 h2 (by omega)
   exact⟨fun v hv=>p.mem_iff.1 hv,h3⟩
 · rintro⟨h1,h2⟩
   have p:=aIs hn h1 (by omega)
   exact⟨p.nodup_iff.2 hn,fun y hy=>p.mem_iff.1 hy,h2⟩
theorem aGf {s:List Link}{o:List Int}(h:isOrd s o):o.length<=9/\(∀ u∈o,1<=u):=by
 have:=xL s
 exact⟨by rw[h.2.2];exact this,fun u hu=>(aAy.1 (h.2.1 u hu)).1.1⟩
theorem aGo {σ:Type}{step:σ->Option (σ ⊕ (Unit ⊕ Bool))}(n:Nat)(E:Nat->σ)(G:Nat->Prop)(h1:∀ k:Nat,k<n->(G k/\step (E k)=some (.inl (E (k+1))))\/(¬G k/\step (E k)=some (.inr (.inr false))))(h2:step (E n)=some (.inr (.inl ()))) :
 (lp step (E 0)=some (.inl ())/\∀ k,k<n->G k)\/(lp step (E 0)=some (.inr false)/\∃ k,k<n/\¬G k):=by
 have main:∀ m k:Nat,m+k=n->(lp step (E k)=some (.inl ())/\∀ j,k<=j->j<n->G j)\/(lp step (E k)=some (.inr false)/\∃ j,j<n/\¬G j):=by
  intro m
  induction m with
  | zero =>
   intro k hk
   have:k=n:=by omega
   subst this
   exact .inl ⟨aK h2,fun j _ _=>by omega⟩
  | succ m ih =>
   intro k hk
   rcases h1 k (by omega)with⟨g,e⟩ | ⟨g,e⟩
   · rw[aQ e]
     rcases ih (k+1) (by omega)with⟨a,b⟩ | ⟨a,b⟩
     · refine .inl ⟨a,fun j h1 h2=>?_⟩
       by_cases e:j=k
       · subst e;exact g
       · exact b j (by omega) h2
     · exact .inr ⟨a,b⟩
   · exact .inr ⟨aK e,k,by omega,g⟩
 rcases main n 0 (by omega)with⟨a,b⟩ | ⟨a,b⟩
 · exact .inl ⟨a,fun j h=>b j (aT9 _) h⟩
 · exact .inr ⟨a,b⟩
theorem aAx {l:List Int}:l.Nodup↔∀ k (h:k<l.length),l[k]∉l.take k:=by
 unfold List.Nodup
 rw[aU2]
 constructor
 · intro h k hk hm
   obtain⟨j,hj,e⟩:=aVR.1 hm
   rw[aTS]at hj
   rw[List.getElem_take]at e
   exact h j k (by omega) hk (by omega) e
 · intro h i j hi hj hij e
   refine h j hj ?_
   rw[<- e]
   exact aVR.2 ⟨i,by rw[aTS];omega,by rw[List.getElem_take]⟩
theorem aLz {s:List Link}(hs:LSet s)(o:List Int)(ho:o.length<=4194304):tM s o=some (decide (isOrd s o)):=by
 have hn:=xL s
 unfold tM
 rw[aHU hs]
 simp only[aTb]
 have L:=aGo (step:=oF o (fE s)) o.length (fun k=>((k:Int),o.take k)) (fun k=>∀ h:k<o.length,o[k]∈fE s/\o[k]∉o.take k) (fun k hk=>by
  have tl:(o.take k).length<=k:=by rw[aTS];omega
  have tk:o.take (k+1)=o.take k++[o[k]]:=by rw[aVJ,aTl hk];rfl
  unfold oF
  simp only[]
  rw[aTd (by omega),aN hk]
  simp only[aTb,aDm (fE s) _ (by omega),aDm (o.take k) _ (by omega),wi1 (by omega:k<=4294967296)]
  by_cases A:o[k]∈fE s
  · by_cases B:o[k]∈o.take k
    · right
      refine⟨fun h=>(h hk).2 B,?_⟩
      rw[aTg A,aTg B];rfl
    · left
      refine⟨fun h=>⟨A,B⟩,?_⟩
      rw[aTg A,aTe B]
      simp only[aTz,aTb,aTk,aTD]
      rw[aM (by omega),tk];rfl
  · right
    refine⟨fun h=>A (h hk).1,?_⟩
    rw[aTe A];rfl) (by unfold oF;simp only[];rw[aTc (by omega)])
 simp only[aVw]at L
 rw[show((0:Nat):Int)=0 from rfl]at L
 rcases L with⟨e,g⟩ | ⟨e,k,hk,g⟩
 · rw[e]
   simp only[aTb]
   rw[lR s (by have:=hs.sz;omega),aTg hs]
   simp only[aTb,aTz]
   congr 1
   rw[Bool.eq_iff_iff,aVh,aVh]
   constructor
   · intro h
     refine⟨aAx.2 (fun k hk=>(g k hk hk).2),fun y hy=>?_,by omega⟩
     obtain⟨j,hj,rfl⟩:=aVR.1 hy
     exact(g j hj hj).1
   · intro h;rw[h.2.2]
 · rw[e]
   have:¬isOrd s o:=fun h=>g (fun hk=>⟨h.2.1 _ (aTv hk),aAx.1 h.1 k hk⟩)
   rw[aTe this];rfl
theorem aDB (s:List Link)(h:aL s<=4294967296):fI s=some (decide (LSet s)):=by
 rw[<- lR s h]
 unfold fI dH
 have:lp (pB s) 0=lp (eI s) 0:=by
  refine aOy (fun _=>True) (fun v _=>⟨?_,fun _ _=>trivial⟩) _ trivial
  unfold pB eI
  cases e:idx s v with
  | none=>rfl
  | some y =>
   have hy:y∈s:=List.mem_of_getElem? (aD0 e).2.1
   have hz:=tB (w:=bY) hy
   unfold aL at h
   have q:=iF y (by omega)
   simp only[aTb,q.1,q.2,aKm,aGJ]
 rw[this]
theorem aLA {s:List Link}(hs:LSet s)(o:List Int)(ho:o.length<=4194304):aAJ s o=some (decide (isOrd s o)):=by
 have hn:=xL s
 unfold aAJ
 have il:fI s=some true:=by rw[aDB s (by have:=hs.sz;omega),aTg hs]
 rw[il,aHv (by have:=hs.len;omega)]
 simp only[aTb,aTz]
 have L:=aGo (step:=rZ o (fE s)) (fE s).length (fun k=>(k:Int)) (fun k=>∀ h:k<(fE s).length,(fE s)[k]∈o) (fun k hk=>by
  unfold rZ
  rw[aTd (by omega),aN hk]
  simp only[aTb,aBD o _ (by omega),wi1 (by omega:k<=4294967296)]
  by_cases A:(fE s)[k]∈o
  · exact .inl ⟨fun _=>A,by rw[aTg A];rfl⟩
  · exact .inr ⟨fun h=>A (h hk),by rw[aTe A];rfl⟩) (by unfold rZ;rw[aTc (by omega)])
 rw[show((0:Nat):Int)=0 from rfl]at L
 rcases L with⟨e,g⟩ | ⟨e,k,hk,g⟩
 · rw[e]
   simp only[aTb]
   congr 1
   rw[Bool.eq_iff_iff,aVh,aVh,aHD]
   constructor
   · intro h
     refine⟨fun v hv=>?_,by omega⟩
     obtain⟨j,hj,rfl⟩:=aVR.1 hv
     exact g j hj hj
   · intro h;rw[h.2]
 · rw[e]
   have:¬isOrd s o:=fun h=>g (fun hk=>((aHD s o).1 h).1 _ (aTv hk))
   rw[aTe this];rfl
def pQ (o:List Int)(v:Int)(l:Link):Bool:=decide (aU o [l.fA,l.fB]=v)
theorem aP1 (o:List Int)(l:Link)(h:o.length<=4294967296):qZ o l=some (aU o [l.fA,l.fB]):=by
 unfold qZ
 rw[aMi _ _ h (by simp)];rfl
theorem aM6 {o s:List Int}{v:Int}(h:aU o s=v)(hv:v≠0):v∈s/\v∈o:=by
 unfold aU at h
 cases e:o.find? (fun u=>decide (u∈s))with
 | none=>rw[e]at h;exact absurd h.symm hv
 | some x =>
  rw[e]at h
  simp only[Option.getD_some]at h
  subst h
  exact⟨by simpa using List.find?_some e,List.mem_of_find?_eq_some e⟩
theorem aK2 {o s:List Int}{k:Nat}(hk:k<o.length)(hn:o.Nodup)(h1:∀ u∈o,1<=u):aU o s=o[k]↔o[k]∈s/\∀ u∈o.take k,u∉s:=by
 have ef:o.find? (fun u=>decide (u∈s))=((o.take k).find? (fun u=>decide (u∈s))).or ((o[k]::o.drop (k+1)).find? (fun u=>decide (u∈s))):=by
  rw[<- List.find?_append,<- aTh hk,aT6]
 have hnt:=aAx.1 hn k hk
 constructor
 · intro h
   have hp:=h1 _ (aTv hk)
   refine⟨(aM6 h (by omega)).1,fun u hu hus=>?_⟩
   unfold aU at h
   rw[ef]at h
   cases f:(o.take k).find? (fun u=>decide (u∈s))with
   | none =>
    rw[List.find?_eq_none]at f
    exact f u hu (by simpa using hus)
   | some x =>
    have hx:=List.mem_of_find?_eq_some f
    rw[f]at h
    simp only[Option.some_or,Option.getD_some]at h
    rw[h]at hx
    exact hnt hx
 · rintro⟨a,b⟩
   unfold aU
   rw[ef]
   have:(o.take k).find? (fun u=>decide (u∈s))=none:=by
    rw[List.find?_eq_none];intro u hu;simpa using b u hu
   rw[this,Option.none_or,aVI]
   simp[a]
/- Building a tree, both programs, and the law. -/
theorem tW (c:Conditional)(h:aX c<=4294967296):fU c=some c:=by
 have hp:=nJ nI c.fParents
 unfold aX pF at h
 unfold fU
 rw[gG _ (by omega)]
 simp only[aTb]
 have:=rN (step:=fT c) c.fParents (fun k t=>((k:Int),t)) (fun t=>t) (fun k t hk ht=>by
  have he:=tB (w:=nI) (aTv hk)
  have hn:nI c.fParents[k]=bG (c.fParents[k]).fShare+bG (c.fParents[k]).fDX+bG (c.fParents[k]).fDY:=rfl
  unfold fT
  simp only[]
  rw[aTd (by omega),aN hk]
  simp only[aTb]
  rw[gG _ (by omega)]
  simp only[aTb]
  rw[gG _ (by omega)]
  simp only[aTb]
  rw[gG _ (by omega)]
  simp only[aTb]
  rw[aM (by omega),wi (by omega)];rfl) (fun t ht=>by unfold fT;simp only[];rw[aTc (by omega)])
 rw[show((0:Nat):Int)=0 from rfl]at this
 rw[this];rfl
theorem aMM (s:List Link)(o:List Int)(v:Int)(hs:s.length<=4194304)(ho:o.length<=4194304):lp (iY s o v) (0,[])=some (s.filter (pQ o v)):=by
 have:=(mQ (step:=iY s o v) s (fun k t=>((k:Int),t)) (fun t x=>if pQ o v x=true then t++[x]else t) (fun t=>t) (fun k t=>t.length<=k) (fun k t hk hi=>by
  constructor
  · unfold iY
    simp only[]
    rw[aTd (by omega),aN hk]
    simp only[aTb,aP1 o _ (by omega:o.length<=4294967296),wi1 (by omega:k<=4294967296)]
    by_cases c:aU o [(s[k]).fA,(s[k]).fB]=v
    · rw[aTd c,aTd (by unfold pQ;simpa using c),aM (by omega)];rfl
    · rw[aTc c,aTc (by unfold pQ;simpa using c)]
  · split
    · rw[aTF,aTY];omega
    · omega) (fun t _=>by unfold iY;simp only[];rw[aTc (by omega)]) [] (aT9 _)).1
 rw[show((0:Nat):Int)=0 from rfl,xB,aTi]at this
 exact this
theorem aNy (o:List Int)(k:Nat)(hk:k<=o.length):sub o 0 (k:Int)=some (o.take k):=by
 rw[qC _ _ _ (by omega)];simp
theorem aOa (o:List Int)(hn:o.Nodup)(h1:∀ u∈o,1<=u)(ho:o.length<=4194304)(k:Nat)(hk:k<o.length)(l:Link)(hl:l.fA<l.fB) :
 ((if l.fA=o[k]then(sub o 0 (k:Int)).bind fun y57=>(fS y57 l.fB).bind fun r58=>(if r58=true then(if l.fB=o[k]then(sub o 0 (k:Int)).bind fun y59=>(fS y59 l.fA).bind fun r60=>some (!r60)else some false)else some true)else(if l.fB=o[k]then(sub o 0 (k:Int)).bind fun y61=>(fS y61 l.fA).bind fun r62=>some (!r62)else some false)):Option Bool)=some (pQ o o[k] l):=by
 have tl:(o.take k).length<=4294967296:=by rw[aTS];omega
 have hnt:=aAx.1 hn k hk
 have ft:=aK2 (s:=[l.fA,l.fB]) hk hn h1
 rw[aNy o k (by omega)]
 simp only[aTb,aBD _ _ tl]
 unfold pQ
 by_cases A:l.fA=o[k]
 · have B:¬l.fB=o[k]:=by omega
   rw[aTd A,aTc B]
   by_cases C:l.fB∈o.take k
   · rw[aTg C,aTd rfl]
     have:¬aU o [l.fA,l.fB]=o[k]:=fun h=>(ft.1 h).2 _ C (by simp)
     rw[aTe this]
   · rw[aTe C]
     have:aU o [l.fA,l.fB]=o[k]:=ft.2 ⟨by simp[A],fun u hu hs=>by
      rcases aTf.1 hs with rfl | hs
      · exact hnt (A▸hu)
      · rw[aTU.1 hs]at hu;exact C hu⟩
     rw[aTg this];rfl
 · rw[aTc A]
   by_cases B:l.fB=o[k]
   · rw[aTd B]
     by_cases C:l.fA∈o.take k
     · have:¬aU o [l.fA,l.fB]=o[k]:=fun h=>(ft.1 h).2 _ C (by simp)
       rw[aTg C,aTe this];rfl
     · have:aU o [l.fA,l.fB]=o[k]:=ft.2 ⟨by simp[B],fun u hu hs=>by
        rcases aTf.1 hs with rfl | hs
        · exact C hu
        · rw[aTU.1 hs]at hu;exact hnt (B▸hu)⟩
       rw[aTe C,aTg this];rfl
   · rw[aTc B]
     have:¬aU o [l.fA,l.fB]=o[k]:=fun h=>by
      have:=(ft.1 h).1
      simp only[aTf,aVc,or_false]at this
      rcases this with e | e
      · exact A e.symm
      · exact B e.symm
     rw[aTe this]
theorem aMN (s:List Link)(o:List Int)(hs:s.length<=4194304)(ho:o.length<=4194304)(hv:∀ x∈s,ValidL x)(hn:o.Nodup)(h1:∀ u∈o,1<=u)(i:Nat)(hi:i<o.length):lp (lQ s o o[i] (i:Int)) (0,[])=some (s.filter (pQ o o[i])):=by
 have:=(mQ (step:=lQ s o o[i] (i:Int)) s (fun k t=>((k:Int),t)) (fun t x=>if pQ o o[i] x=true then t++[x]else t) (fun t=>t) (fun k t=>t.length<=k) (fun k t hk hj=>by
  constructor
  · unfold lQ
    simp only[]
    rw[aTd (by omega),aN hk]
    have oc:=aOa o hn h1 ho i hi s[k] (hv _ (aTv hk)).2.2.1
    simp only[aTb,wi1 (by omega:k<=4294967296)]
    rw[oc]
    simp only[aTb]
    by_cases c:pQ o o[i] s[k]=true
    · rw[aTd c,aTd c,aM (by omega)];rfl
    · rw[aTc c,aTc c]
  · split
    · rw[aTF,aTY];omega
    · omega) (fun t _=>by unfold lQ;simp only[];rw[aTc (by omega)]) [] (aT9 _)).1
 rw[show((0:Nat):Int)=0 from rfl,xB,aTi]at this
 exact this
noncomputable def vN (s:List Link)(o:List Int):List Int->List TreeNode->Option (List TreeNode)
 | [],b=>some b
 | v::r,b=>(rJ o v (s.filter (pQ o v)) b).bind fun n=>vN s o r (b++[n])
noncomputable def zQ (s:List Link)(o:List Int):Option Tree :=
 (jnP s).bind fun x=>if isOrd x.1 o then(vN s o o []).map Tree.mk else none
def pkT:Option Tree->Tree×Bool
 | some t=>(t,true)
 | none=>(Tree.mk [],false)
def aRj:Option (List TreeNode)->(List TreeNode) ⊕ (Tree×Bool)
 | some b=>.inl b
 | none=>.inr (Tree.mk [],false)
def NodeOk (s:List Link)(o:List Int)(n:TreeNode):Prop:=LSet n.fMessages/\n.fOwn=s.filter (pQ o n.fNode)/\aX n.fCond<=20000/\bD n.fEnergy/\n.fUp=upP o n.fCond
theorem aAs (p:Link->Bool):∀ s:List Link,aL (s.filter p)<=aL s
 | []=>aTn _
 | x::s=>by
  have:=aAs p s
  unfold aL at this ⊢
  rw[aTP,nY]
  split
  · rw[nY];omega
  · omega
theorem aKO {s:List Link}{o:List Int}{v:Int}{b:List TreeNode}{n:TreeNode}(h:rJ o v (s.filter (pQ o v)) b=some n):NodeOk s o n/\n.fNode=v:=by
 obtain⟨h1,h2,h3,h4,h5,h6⟩:=aFL h
 exact⟨⟨h1,by rw[h5];exact h2,h3,h4,h6⟩,h5⟩
theorem aBd {s:List Link}{o:List Int}:∀ (r:List Int) (b b':List TreeNode),(∀ n∈b,NodeOk s o n)->vN s o r b=some b'->(∀ n∈b',NodeOk s o n)/\b'.map (·.fNode)=b.map (·.fNode)++r
 | [],b,b',h,e=>by cases e;exact⟨h,by simp⟩
 | v::r,b,b',h,e=>by
  rw[vN]at e
  cases h1:rJ o v (s.filter (pQ o v)) b with
  | none=>rw[h1]at e;cases e
  | some n =>
   rw[h1,aTb]at e
   obtain⟨g1,g2⟩:=aKO h1
   obtain⟨k1,k2⟩:=aBd r (b++[n]) b' (fun m hm=>by
    rcases aTj.1 hm with hm | hm
    · exact h m hm
    · rw[aTU.1 hm];exact g1) e
   exact⟨k1,by rw[k2,aUc,aTx];simp[g2]⟩
theorem aKq (s:List Link)(o:List Int)(hz:aL s<=4194304)(hv:∀ x∈s,ValidL x)(ho:o.length<=9)(h1:∀ u∈o,1<=u):∀ m k:Nat,m+k=o.length->∀ b:List TreeNode,b.length=k->(∀ n∈b,LSet n.fMessages)->lp (iX s o) ((k:Int),b)=some (aRj (vN s o (o.drop k) b)):=by
 have hl:s.length<=4194304:=aTr (nJ _ _) hz
 intro m
 induction m with
 | zero =>
  intro k hk b hb hm
  rw[aTE (by omega)]
  exact aK (by unfold iX;simp only[];rw[aTc (by omega)];rfl)
 | succ m ih =>
  intro k hk b hb hm
  have hlt:k<o.length:=by omega
  rw[aTh hlt,vN]
  have nq:=(aOj (v:=o[k]) (own:=s.filter (pQ o o[k])) (b:=b) (by omega:o.length<=4194304) h1 (aTr (aAs _ s) hz) (by omega) hm (fun x hx=>hv x (aTI.1 hx).1)).1
  have st:iX s o ((k:Int),b)=some (match rJ o o[k] (s.filter (pQ o o[k])) b with | some n=>.inl (((k+1:Nat):Int),b++[n]) | none=>.inr (.inr (Tree.mk [],false))):=by
   unfold iX
   simp only[]
   rw[aTd (by omega),aN hlt]
   simp only[aTb,aMM s o o[k] hl (by omega),nq,wi1 (by omega:k<=4294967296)]
   cases rJ o o[k] (s.filter (pQ o o[k])) b with
   | none=>rfl
   | some n=>simp only[pkN,aTz];rw[aM (by omega)];rfl
  cases h:rJ o o[k] (s.filter (pQ o o[k])) b with
  | none=>rw[h]at st;rw[aK st];rfl
  | some n =>
   rw[h]at st
   rw[aQ st,aTb]
   exact ih (k+1) (by omega) _ (by simp[hb]) (fun x hx=>by
    rcases aTj.1 hx with hx | hx
    · exact hm x hx
    · rw[aTU.1 hx];exact(aFL h).1)
theorem aKs (s:List Link)(o:List Int)(hz:aL s<=4194304)(hv:∀ x∈s,ValidL x)(ho:o.length<=9)(hn:o.Nodup)(h1:∀ u∈o,1<=u):∀ m k:Nat,m+k=o.length->∀ b:List TreeNode,b.length=k->(∀ n∈b,LSet n.fMessages)->lp (lP s o) ((k:Int),b)=some (aRj (vN s o (o.drop k) b)):=by
 have hl:s.length<=4194304:=aTr (nJ _ _) hz
 intro m
 induction m with
 | zero =>
  intro k hk b hb hm
  rw[aTE (by omega)]
  exact aK (by unfold lP;simp only[];rw[aTc (by omega)];rfl)
 | succ m ih =>
  intro k hk b hb hm
  have hlt:k<o.length:=by omega
  rw[aTh hlt,vN]
  have nq:=(aOj (v:=o[k]) (own:=s.filter (pQ o o[k])) (b:=b) (by omega:o.length<=4194304) h1 (aTr (aAs _ s) hz) (by omega) hm (fun x hx=>hv x (aTI.1 hx).1)).2
  have st:lP s o ((k:Int),b)=some (match rJ o o[k] (s.filter (pQ o o[k])) b with | some n=>.inl (((k+1:Nat):Int),b++[n]) | none=>.inr (.inr (Tree.mk [],false))):=by
   unfold lP
   simp only[]
   rw[aTd (by omega),aN hlt]
   simp only[aTb,aMN s o hl (by omega) hv hn h1 k hlt,nq,wi1 (by omega:k<=4294967296)]
   cases rJ o o[k] (s.filter (pQ o o[k])) b with
   | none=>rfl
   | some n=>simp only[pkN,aTz];rw[aM (by omega)];rfl
  cases h:rJ o o[k] (s.filter (pQ o o[k])) b with
  | none=>rw[h]at st;rw[aK st];rfl
  | some n =>
   rw[h]at st
   rw[aQ st,aTb]
   exact ih (k+1) (by omega) _ (by simp[hb]) (fun x hx=>by
    rcases aTj.1 hx with hx | hx
    · exact hm x hx
    · rw[aTU.1 hx];exact(aFL h).1)
theorem NodeOk.sz {s:List Link}{o:List Int}{n:TreeNode}(h:NodeOk s o n)(hz:aL s<=4194304):cJ n<=4300000:=by
 have h1:=h.1.sz
 have h2:aL n.fOwn<=4194304:=by rw[h.2.1];exact aTr (aAs _ s) hz
 have h3:=nF (.inl h.2.2.2.1)
 have h4:=h.2.2.1
 unfold cJ;omega
theorem aLd (n:TreeNode)(h:cJ n<=4294967296):tV n=some n:=by
 unfold cJ at h
 unfold tV
 rw[qP _ (by omega),tW _ (by omega)]
 simp only[aTb]
 rw[qP _ (by omega),gG _ (by omega)]
 rfl
theorem aLc (t:Tree)(h:sZ t<=4294967296):zP t=some t:=by
 unfold sZ vE at h
 have hl:=nJ cJ t.fNodes
 unfold zP
 have:=rN (step:=qO t) t.fNodes (fun k t=>((k:Int),t)) (fun t=>t) (fun k u hk hu=>by
  have he:=tB (w:=cJ) (aTv hk)
  unfold qO
  simp only[]
  rw[aTd (by omega),aN hk]
  simp only[aTb]
  rw[aLd _ (by omega)]
  simp only[aTb]
  rw[aM (by omega),wi1 (by omega)];rfl) (fun t ht=>by unfold qO;simp only[];rw[aTc (by omega)])
 rw[show((0:Nat):Int)=0 from rfl]at this
 rw[this];rfl
theorem aPJ {s:List Link}{o:List Int}{b:List TreeNode}(hz:aL s<=4194304)(ho:o.length<=9)(h:vN s o o []=some b):sZ ⟨b⟩<=38700018:=by
 obtain⟨h1,h2⟩:=aBd o [] b (by simp) h
 have hl:b.length=o.length:=by have:=congrArg List.length h2;simpa using this
 have:vE b<=(4300000+1)*b.length:=aDG (fun n hn=>(h1 n hn).sz hz)
 unfold sZ
 have:(4300000+1)*b.length<=4300001*9:=aTK (aTn _) (by omega)
 simp only[]
 omega
theorem aQD (s:List Link)(o:List Int)(hz:aL s<=4194304)(ho:o.length<=4194304):pO s o=some (pkT (zQ s o))/\aBC s o=some (pkT (zQ s o)):=by
 obtain⟨j1,j2⟩:=wL s (by omega)
 unfold pO aBC zQ
 rw[j1,j2]
 cases h:jnP s with
 | none=>exact⟨rfl,rfl⟩
 | some x =>
  obtain⟨u,e⟩:=x
  obtain⟨hv,hs,he⟩:=aBz h
  simp only[pk,aTb,aTz]
  rw[aLz hs o ho,aLA hs o ho]
  by_cases c:isOrd u o
  · obtain⟨l9,h1⟩:=aGf c
    have q1:=aKq s o hz hv l9 h1 o.length 0 (by omega) [] rfl (by simp)
    have q2:=aKs s o hz hv l9 c.1 h1 o.length 0 (by omega) [] rfl (by simp)
    rw[show((0:Nat):Int)=0 from rfl,aTZ]at q1 q2
    rw[aTg c,aTd c]
    simp only[aTb,aUh,aTk,aTD,q1,q2]
    cases g:vN s o o []with
    | none=>exact⟨rfl,rfl⟩
    | some b =>
     simp only[aRj]
     rw[aLc ⟨b⟩ (by have:=aPJ hz l9 g;omega)]
     exact⟨rfl,rfl⟩
  · rw[aTe c,aTc c]
    exact⟨rfl,rfl⟩
/- Fractions as rational numbers. -/
abbrev Q:=_root_.Rat
def ofQ (q:Q):Rat:=⟨big q.num,aA q.den⟩
def bQ (q:Q):Prop:=bl q.num<=24/\(aA q.den).length<=24
instance (q:Q):Decidable (bQ q):=by unfold bQ;infer_instance
def aFJ (q:Q):Rat:=if bQ q then ofQ q else nH
theorem aBV {q:Q}(h:bQ q):aFJ q=ofQ q:=aTd h
theorem qT {q:Q}(h:bQ q):bD (ofQ q):=by
 obtain⟨h1,h2⟩:=h
 refine⟨⟨aAC (by unfold bl at h1;omega),fun hn=>?_⟩,aAC (by omega),dF q.den_nz,h2,h1,?_⟩
 · have:q.num<0:=aTM hn
   exact dF (by omega)
 · show Nat.gcd (val (aA q.num.natAbs)) (val (aA q.den))=1
   rw[cQ,cQ];exact q.reduced
theorem jP {q:Q}(h:bQ q):VZ (ofQ q):=.inl (qT h)
theorem aLZ (z:Int){d:Nat}(hd:0<d):mkR (decide (z<0)) z.natAbs d=aFJ (mkRat z d):=by
 have hn:=_root_.Rat.num_mkRat z d
 have hden:=_root_.Rat.den_mkRat z d
 rw[aTc (by omega)]at hn hden
 have hg:Nat.gcd d z.natAbs=Nat.gcd z.natAbs d:=Nat.gcd_comm _ _
 rw[hg]at hn hden
 generalize hgg:Nat.gcd z.natAbs d=g at hn hden
 have hgp:0<g:=by rw[<- hgg];exact aVB _ hd
 have hdv:g∣z.natAbs:=by rw[<- hgg];exact Nat.gcd_dvd_left _ _
 obtain⟨k,hk⟩:=hdv
 have hxk:z.natAbs / g=k:=by rw[hk,Nat.mul_div_cancel_left _ hgp]
 have hnk:(mkRat z d).num.natAbs=k/\(((mkRat z d).num<0)↔(z<0/\k≠0)):=by
  rcases Int.natAbs_eq z with e | e
  · have:(mkRat z d).num=(k:Int):=by
     rw[hn,e,hk];simp[Int.natCast_mul]
     rw[Int.mul_ediv_cancel_left _ (by omega)]
    rw[this];exact⟨by simp,by constructor <;> intro h <;> omega⟩
  · have:(mkRat z d).num=-(k:Int):=by
     rw[hn,e,hk,Int.natCast_mul,<- Int.mul_neg,Int.mul_ediv_cancel_left _ (by omega)]
    rw[this]
    refine⟨by simp,?_⟩
    constructor
    · intro h
      refine⟨?_,by omega⟩
      rcases Nat.eq_zero_or_pos k with h0 | h0
      · omega
      · have:=aTW hgp h0
        omega
    · rintro⟨_,h⟩;omega
 have hf:bQ (mkRat z d)↔((aA k).length<=24/\(aA (d / g)).length<=24):=by unfold bQ bl;rw[hnk.1,hden]
 unfold mkR aFJ
 rw[aTc (by omega),hgg,hxk]
 by_cases c:(aA k).length<=24/\(aA (d / g)).length<=24
 · rw[aTc (by omega),aTd (hf.2 c)]
   unfold ofQ big
   rw[hnk.1,hden]
   congr 2
   rw[<- Bool.decide_and]
   exact decide_eq_decide.2 hnk.2.symm
 · rw[aTd (by omega),aTc (fun h=>c (hf.1 h))]
theorem nW {q:Q}(h:bQ q):0<q.den/\bl q.num<=24/\(aA q.den).length<=24:=⟨aUS q.den_nz,h.1,h.2⟩
theorem aS9 {p q:Q}(hp:bQ p)(hq:bQ q):RA (ofQ p) (ofQ q)=aFJ (p+q):=by
 have h:=(yG (jP hp) (jP hq)).2.1
 obtain⟨a1,a2,a3⟩:=nW hp
 obtain⟨b1,b2,b3⟩:=nW hq
 have e:bN (ofQ p) (ofQ q)=some (aFJ (p+q)):=by
  unfold ofQ
  rw[aBm _ _ _ _ a1 b1 a2 a3 b2 b3]
  unfold aIO
  rw[aLZ _ (aTW a1 b1),_root_.Rat.add_def']
 rw[e]at h;exact(Option.some.inj h).symm
theorem aS6 {p q:Q}(hp:bQ p)(hq:bQ q):RM (ofQ p) (ofQ q)=aFJ (p*q):=by
 have h:=(aBa (jP hp) (jP hq)).2.1
 obtain⟨a1,a2,a3⟩:=nW hp
 obtain⟨b1,b2,b3⟩:=nW hq
 have e:bT (ofQ p) (ofQ q)=some (aFJ (p*q)):=by
  unfold ofQ
  rw[aFA _ _ _ _ a1 b1 a2 a3 b2 b3]
  unfold aOr
  rw[_root_.Rat.mul_def',<- aLZ _ (aTW a1 b1),aUE]
  congr 1
  refine aEW fun hx=>?_
  have q':=aET p.num q.num
  rw[aTg hx,Bool.and_true]at q'
  exact q'
 rw[e]at h;exact(Option.some.inj h).symm
theorem aS7 {p q:Q}(hp:bQ p)(hq:bQ q)(h0:q≠0):RD (ofQ p) (ofQ q)=aFJ (p / q):=by
 have h:=(aCR (jP hp) (jP hq)).2.1
 obtain⟨a1,a2,a3⟩:=nW hp
 obtain⟨b1,b2,b3⟩:=nW hq
 have hn:q.num≠0:=fun e=>h0 (_root_.Rat.num_eq_zero.1 e)
 have e:dA (ofQ p) (ofQ q)=some (aFJ (p / q)):=by
  unfold ofQ
  rw[aJj _ _ _ _ a1 b1 a2 a3 b2 b3]
  unfold aRH
  have key:p / q=mkRat (p.num*q.num.sign*q.den) (p.den*q.num.natAbs):=by
   rw[_root_.Rat.div_def]
   conv=>lhs;rw[_root_.Rat.mul_def']
   rw[_root_.Rat.num_inv,_root_.Rat.den_inv,aTc hn,<- Int.mul_assoc]
  rw[key,<- aLZ _ (aTW a1 (by omega))]
  have hs:q.num.sign.natAbs=1:=by rw[Int.natAbs_sign];simp[hn]
  have e1:(p.num*q.num.sign*q.den).natAbs=p.num.natAbs*q.den:=by
   rw[aUE,aUE,hs,Nat.mul_one,aUb]
  rw[e1]
  congr 1
  refine aEW fun hx=>?_
  have hp0:p.num≠0:=by rintro e;rw[e]at hx;simp at hx
  have hd0:(0:Int)<(q.den:Int):=by omega
  have:(p.num*q.num.sign*(q.den:Int)<0)↔(p.num*q.num.sign<0):=by
   constructor
   · intro hh
     rcases Int.lt_or_le (p.num*q.num.sign) 0 with h1 | h1
     · exact h1
     · have:=Int.mul_nonneg h1 (Int.le_of_lt hd0);omega
   · intro hh;exact aVx hh hd0
  rw[show decide (p.num*q.num.sign*(q.den:Int)<0)=decide (p.num*q.num.sign<0)from decide_eq_decide.2 this]
  rcases Int.lt_or_gt_of_ne hn with c | c
  · rw[show decide (p.num*q.num.sign<0)=decide (p.num*-1<0)by rw[Int.sign_eq_neg_one_of_neg c]]
    by_cases cp:p.num<0 <;> simp[c,cp] <;> omega
  · rw[show decide (p.num*q.num.sign<0)=decide (p.num*1<0)by rw[Int.sign_eq_one_of_pos c]]
    have:¬q.num<0:=by omega
    by_cases cp:p.num<0 <;> simp[this,cp]
 rw[e]at h;exact(Option.some.inj h).symm
theorem aS5 {p q:Q}(hp:bQ p)(hq:bQ q):RS (ofQ p) (ofQ q)=aFJ (p-q):=by
 have h:=(aG1 (jP hp) (jP hq)).2.1
 obtain⟨a1,a2,a3⟩:=nW hp
 obtain⟨b1,b2,b3⟩:=nW hq
 have e:dQ (ofQ p) (ofQ q)=some (aFJ (p-q)):=by
  unfold dQ ofQ
  rw[aFz _ _ b1 b2 b3]
  simp only[aTb]
  rw[aBm _ _ _ _ a1 b1 a2 a3 (by rw[aRK];exact b2) b3]
  unfold aIO
  rw[aLZ _ (aTW a1 b1),_root_.Rat.sub_def',Int.neg_mul,<- Int.sub_eq_add_neg];rfl
 rw[e]at h;exact(Option.some.inj h).symm
theorem aRW {p:Q}(hp:bQ p):RN (ofQ p)=ofQ (-p):=by
 have h:=(aLs (jP hp)).2.1
 obtain⟨a1,a2,a3⟩:=nW hp
 have e:fR (ofQ p)=some (ofQ (-p)):=by
  unfold ofQ
  rw[aFz _ _ a1 a2 a3]
  rfl
 rw[e]at h;exact(Option.some.inj h).symm
theorem aKz {q:Q}(h:bQ q):0<wV (ofQ q)↔0<q:=by
 have:=aH9 (n:=q.num) (d:=q.den) (qT h)
 unfold ofQ
 rw[this]
 constructor
 · intro hh
   rw[_root_.Rat.lt_iff];simp;omega
 · intro hh
   rw[_root_.Rat.lt_iff]at hh;simp at hh;omega
theorem aLB:BB ^ 24=10 ^ 216:=by rw[dD,show(1000000000:Nat)=10 ^ 9 from rfl,<- Nat.pow_mul]
theorem aMh {q:Q}{n:Int}{d:Nat}(hd:0<d)(hq:q=mkRat n d)(h1:n.natAbs<BB ^ 24)(h2:d<BB ^ 24):bQ q:=by
 have hn:=_root_.Rat.num_mkRat n d
 have hden:=_root_.Rat.den_mkRat n d
 rw[aTc (by omega)]at hn hden
 subst hq
 have hgp:0<Nat.gcd d n.natAbs:=Nat.gcd_pos_of_pos_left _ hd
 unfold bQ bl
 refine⟨fZ ?_,fZ ?_⟩
 · rw[hn]
   have:(n / (Nat.gcd d n.natAbs:Int)).natAbs<=n.natAbs:=Int.natAbs_ediv_le_natAbs _ _
   omega
 · rw[hden]
   exact aUu (aVE _ _) h2
/- Rational numbers over a bound denominator. -/
def Dv (T:Nat)(q:Q):Prop:=∃ z:Int,q*(T:Q)=(z:Q)
theorem aD4 (z:Int):Dv 1 (z:Q):=⟨z,by simp⟩
theorem kS {T:Nat}{p q:Q}(hp:Dv T p)(hq:Dv T q):Dv T (p+q):=by
 obtain⟨a,ha⟩:=hp;obtain⟨b,hb⟩:=hq
 exact⟨a+b,by rw[_root_.Rat.add_mul,ha,hb,_root_.Rat.intCast_add]⟩
theorem aIZ {T:Nat}{p:Q}(hp:Dv T p):Dv T (-p):=by
 obtain⟨a,ha⟩:=hp
 exact⟨-a,by rw[_root_.Rat.neg_mul,ha,_root_.Rat.intCast_neg]⟩
theorem zW {T:Nat}{p q:Q}(hp:Dv T p)(hq:Dv T q):Dv T (p-q):=by
 rw[_root_.Rat.sub_eq_add_neg];exact kS hp (aIZ hq)
theorem yH {T U:Nat}{p q:Q}(hp:Dv T p)(hq:Dv U q):Dv (T*U) (p*q):=by
 obtain⟨a,ha⟩:=hp;obtain⟨b,hb⟩:=hq
 refine⟨a*b,?_⟩
 rw[aVm,<- ha,<- hb,aUi];grind
theorem rV {T:Nat}(U:Nat){p:Q}(hp:Dv T p):Dv (T*U) p:=by
 have:=yH hp (q:=1) (U:=U) ⟨(U:Int),by rw[_root_.Rat.one_mul];rfl⟩
 rwa [_root_.Rat.mul_one]at this
theorem vD {T U:Nat}{p:Q}(hp:Dv T p)(h:T∣U):Dv U p:=by
 obtain⟨k,rfl⟩:=h;exact rV k hp
theorem aDr {T B:Nat}{q:Q}(hT:0<T)(h:Dv T q)(h1:-(B:Q)<=q)(h2:q<=(B:Q))(hB:0<B)(hb:B*T<BB ^ 24):bQ q:=by
 obtain⟨z,hz⟩:=h
 have hT0:(0:Q)<(T:Q):=by
  have:((0:Nat):Q)<(T:Q):=aV2.2 hT
  simpa using this
 have e:q=mkRat z T:=by
  rw[_root_.Rat.mkRat_eq_div]
  have:(T:Q)≠0:=by grind
  have e2:((T:Int):Q)=(T:Q):=rfl
  grind
 refine aMh hT e ?_ (aUu (Nat.le_mul_of_pos_left T hB) hb)
 have u1:(z:Q)<=((B*T:Nat):Q):=by
  rw[<- hz,aUi]
  exact aU5 h2 (by grind)
 have u2:-((B*T:Nat):Q)<=(z:Q):=by
  rw[<- hz,aUi,<- _root_.Rat.neg_mul]
  exact aU5 h1 (by grind)
 have v1:z<=((B*T:Nat):Int):=aVe.1 u1
 have v2:-((B*T:Nat):Int)<=z:=aVe.1 (by rw[_root_.Rat.intCast_neg];exact u2)
 omega
/- Links over the rational numbers; merging and joining. -/
structure QL where
 a:Int
 b:Int
 w:Q
 x:Q
 y:Q
def QL.toL (l:QL):Link:=⟨l.a,l.b,ofQ l.w,ofQ l.x,ofQ l.y⟩
def QL.fit (l:QL):Prop:=bQ l.w/\bQ l.x/\bQ l.y
def QL.ok (l:QL):Prop:=(0<=l.a/\l.a<=9)/\(0<=l.b/\l.b<=9)/\l.a<l.b/\0<l.w
theorem aG8 {l:QL}(h:l.fit):ValidL l.toL↔l.ok:=by
 unfold ValidL QL.ok QL.toL
 simp only[aKz h.1,qT h.2.1,qT h.2.2,and_true]
def cU (k l:QL):Prop:=k.a<l.a\/(k.a=l.a/\k.b<l.b)
instance (k l:QL):Decidable (cU k l):=by unfold cU;infer_instance
theorem aDk (k l:QL):eO k.toL l.toL↔cU k l:=Iff.rfl
def mrg (k l:QL):QL:=⟨k.a,k.b,k.w+l.w,(k.w*k.x+l.w*l.x) / (k.w+l.w),(k.w*k.y+l.w*l.y) / (k.w+l.w)⟩
def sqQ (x y:Q):Q:=x*x+y*y
def aFS (k l:QL):Q:=(k.w*l.w / (k.w+l.w))*sqQ (k.x-l.x) (k.y-l.y)
def aIz (k l:QL):Prop :=
 (bQ (k.w+l.w)/\bQ (k.w*k.x)/\bQ (l.w*l.x)/\bQ (k.w*k.x+l.w*l.x)/\bQ ((k.w*k.x+l.w*l.x) / (k.w+l.w)))/\
 (bQ (k.w*k.y)/\bQ (l.w*l.y)/\bQ (k.w*k.y+l.w*l.y)/\bQ ((k.w*k.y+l.w*l.y) / (k.w+l.w)))/\
 (bQ (k.w*l.w)/\bQ (k.w*l.w / (k.w+l.w))/\bQ (k.x-l.x)/\bQ (k.y-l.y))/\
 (bQ ((k.x-l.x)*(k.x-l.x))/\bQ ((k.y-l.y)*(k.y-l.y))/\bQ (sqQ (k.x-l.x) (k.y-l.y))/\bQ (aFS k l))
theorem aGG {p q:Q}(hp:bQ p)(hq:bQ q)(h:bQ (p+q)):RA (ofQ p) (ofQ q)=ofQ (p+q):=by rw[aS9 hp hq,aBV h]
theorem aGF {p q:Q}(hp:bQ p)(hq:bQ q)(h:bQ (p*q)):RM (ofQ p) (ofQ q)=ofQ (p*q):=by rw[aS6 hp hq,aBV h]
theorem aPp {p q:Q}(hp:bQ p)(hq:bQ q)(h:bQ (p-q)):RS (ofQ p) (ofQ q)=ofQ (p-q):=by rw[aS5 hp hq,aBV h]
theorem aLt {p q:Q}(hp:bQ p)(hq:bQ q)(h0:q≠0)(h:bQ (p / q)):RD (ofQ p) (ofQ q)=ofQ (p / q):=by rw[aS7 hp hq h0,aBV h]
theorem aJX {z:Int}(h:z.natAbs<2 ^ 62):bQ (z:Q):=by
 refine aMh (n:=z) (d:=1) (by decide) ?_ (Nat.lt_trans h (by rw[aLB];decide)) (by rw[aLB];decide)
 rw[_root_.Rat.mkRat_eq_div];show(z:Q)=(z:Q) / ((1:Nat):Q);grind
theorem aBl {z:Int}(h:z.natAbs<2 ^ 62):dN z=ofQ (z:Q):=by
 unfold dN ofQ
 rw[show aA (z:Q).den=[1]from qS (d:=1) (by rw[dD];decide) (by decide)];rfl
theorem aP6 {k l:QL}(hk:k.fit)(hl:l.fit)(h0:k.w+l.w≠0)(h:aIz k l):yY k.toL l.toL/\aA8 k.toL l.toL=(mrg k l).toL/\aDR k.toL l.toL=ofQ (aFS k l)/\(mrg k l).fit/\bQ (aFS k l):=by
 obtain⟨⟨a1,a2,a3,a4,a5⟩,⟨b2,b3,b4,b5⟩,⟨c1,c2,c3,c4⟩,d1,d2,d3,d4⟩:=h
 obtain⟨k1,k2,k3⟩:=hk
 obtain⟨l1,l2,l3⟩:=hl
 have eL:aA8 k.toL l.toL=(mrg k l).toL:=by
  unfold aA8 QL.toL mrg
  simp only[]
  rw[aGG k1 l1 a1,aGF k1 k2 a2,aGF l1 l2 a3,aGG a2 a3 a4,aLt a4 a1 h0 a5,aGF k1 k3 b2,aGF l1 l3 b3,aGG b2 b3 b4,aLt b4 a1 h0 b5]
 have eE:aDR k.toL l.toL=ofQ (aFS k l):=by
  unfold aDR QL.toL aFS sqR
  simp only[]
  unfold sqQ at d3
  rw[aGG k1 l1 a1,aGF k1 l1 c1,aLt c1 a1 h0 c2,aPp k2 l2 c3,aPp k3 l3 c4,aGF c3 c3 d1,aGF c4 c4 d2,aGG d1 d2 d3,aGF c2 d3 d4]
  rfl
 refine⟨?_,eL,eE,⟨a1,a5,b5⟩,d4⟩
 unfold yY
 rw[eL,eE]
 exact⟨qT a1,qT a5,qT b5,qT d4⟩
def jS:List QL->QL->List QL×Q
 | [],l=>([l],0)
 | k::s,l=>if cU k l then(k::(jS s l).1,(jS s l).2)else if cU l k then(l::k::s,0)else(mrg k l::s,aFS k l)
def aCQ:List QL->QL->Prop
 | [],_=>True
 | k::s,l=>if cU k l then aCQ s l else if cU l k then True else k.w+l.w≠0/\aIz k l
theorem sV {k l:QL}{s:List QL}(c:cU k l):jS (k::s) l=(k::(jS s l).1,(jS s l).2):=by rw[jS,aTd c]
theorem wI {k l:QL}{s:List QL}(c:¬cU k l)(d:cU l k):jS (k::s) l=(l::k::s,0):=by rw[jS,aTc c,aTd d]
theorem wH {k l:QL}{s:List QL}(c:¬cU k l)(d:¬cU l k):jS (k::s) l=(mrg k l::s,aFS k l):=by rw[jS,aTc c,aTc d]
theorem aAo:dN 0=ofQ 0:=aBl (by decide)
theorem aDD:bQ 0:=aJX (z:=0) (by decide)
theorem aNk {y l:Link}{r:List Link}(h:eO y l):aAR (y::r) l=(aAR r l).map (fun t=>(y::t.1,t.2)):=by
 have e:dK l (y::r)=dK l r+1:=by rw[dK,aTd h]
 unfold aAR
 rw[e]
 by_cases c:dK l r<r.length
 · rw[aVk c,aVk (by simpa using c)]
   simp only[aVf,aVa,aVX,aTm]
   split
   · rfl
   · split <;> rfl
 · rw[aVl c,aVl (by simpa using c)]
   simp only[aVa,aVX,aTm]
   rfl
theorem aNl {y l:Link}{r:List Link}(h:¬eO y l):aAR (y::r) l=if eO l y then some (l::y::r,dN 0)else if yY y l then some (aA8 y l::r,aDR y l)else none:=by
 have e:dK l (y::r)=0:=by rw[dK,aTc h]
 unfold aAR
 rw[e]
 simp
theorem aQY:∀ (s:List QL) (l:QL),(∀ k∈s,k.fit)->l.fit->aCQ s l->aAR (s.map QL.toL) l.toL=some ((jS s l).1.map QL.toL,ofQ (jS s l).2)/\(∀ k∈(jS s l).1,k.fit)/\bQ (jS s l).2
 | [],l,_,hl,_=>by
  refine⟨?_,?_,aDD⟩
  · unfold aAR jS
    simp[dK,aAo]
  · intro k hk
    simp[jS]at hk;subst hk;exact hl
 | k::s,l,hs,hl,hf=>by
  unfold aCQ at hf
  rw[aTo]
  by_cases c:cU k l
  · rw[aTd c]at hf
    obtain⟨g1,g2,g3⟩:=aQY s l (fun x hx=>hs x (by simp[hx])) hl hf
    rw[aNk ((aDk k l).2 c),g1,sV c]
    refine⟨rfl,fun x hx=>?_,g3⟩
    rcases aTf.1 hx with rfl | hx
    · exact hs _ (by simp)
    · exact g2 x hx
  · rw[aTc c]at hf
    rw[aNl (fun h=>c ((aDk k l).1 h))]
    by_cases d:cU l k
    · rw[wI c d,aTd ((aDk l k).2 d)]
      refine⟨by rw[aAo];rfl,fun x hx=>?_,aDD⟩
      rcases aTf.1 hx with rfl | hx
      · exact hl
      · exact hs x hx
    · rw[aTc d]at hf
      rw[wH c d,aTc (fun h=>d ((aDk l k).1 h))]
      obtain⟨g1,g2,g3,g4,g5⟩:=aP6 (hs k (by simp)) hl hf.1 hf.2
      rw[aTd g1,g2,g3]
      refine⟨rfl,fun x hx=>?_,g5⟩
      rcases aTf.1 hx with rfl | hx
      · exact g4
      · exact hs x (by simp[hx])
def aR:List QL->List QL->Q->List QL×Q
 | [],s,e=>(s,e)
 | x::r,s,e=>aR r (jS s x).1 (e+(jS s x).2)
def aAI:List QL->List QL->Q->Prop
 | [],_,_=>True
 | x::r,s,e=>aCQ s x/\bQ (e+(jS s x).2)/\aAI r (jS s x).1 (e+(jS s x).2)
theorem aOE:∀ (l s:List QL) (e:Q),(∀ k∈l,k.fit)->(∀ k∈s,k.fit)->bQ e->aAI l s e->uI (l.map QL.toL) (s.map QL.toL) (ofQ e)=some ((aR l s e).1.map QL.toL,ofQ (aR l s e).2)/\(∀ k∈(aR l s e).1,k.fit)/\bQ (aR l s e).2
 | [],s,e,_,hs,he,_=>⟨rfl,hs,he⟩
 | x::r,s,e,hl,hs,he,hf=>by
  obtain⟨f1,f2,f3⟩:=hf
  obtain⟨g1,g2,g3⟩:=aQY s x hs (hl x (by simp)) f1
  rw[aTo,uI,g1]
  simp only[]
  rw[aGG he g3 f2,aTd (qT f2)]
  exact aOE r _ _ (fun y hy=>hl y (by simp[hy])) g2 f2 f3
end Go.Ev
