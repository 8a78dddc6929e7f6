/- Parts P20, PR2, PR3, PV, PR4, PR5, PR6, PR7, PR8, PR9. -/
import Derived.Test.YtlhoochohnnepaaGreatPb1
import Derived.Test.YtlhoochohnnepaaGreatPa1
set_option linter.all false
/- Copies of links; the links of a tree. -/
namespace Go.Ev
set_option linter.all false
theorem mO (x:Rat)(h:bF x<=4294967296):hU x=some x:=by
 unfold bF qP tI at h
 rw[pP,pP]at h
 unfold hU
 rw[aJ (by simp;omega),aJ (by simp;omega)]
 simp only[Option.bind_some,aI,List.nil_append]
theorem pR (x:Link)(h:cI x<=4294967296):iW x=some x:=by
 unfold cI at h
 unfold iW
 rw[mO _ (by omega)]
 simp only[Option.bind_some]
 rw[mO _ (by omega)]
 simp only[Option.bind_some]
 rw[mO _ (by omega)]
 simp only[Option.bind_some]
theorem aAj (l:List Link)(h:aW l<=4294967296):mM l=some l:=by
 unfold aW at h
 have hl:=nK cI l
 unfold mM
 have:=wC (step:=mL l) l (fun k t=>((k:Int),t)) (fun t=>t) (fun k t hk ht=>by
  have he:=rI (w:=cI) (List.getElem_mem hk)
  unfold mL
  simp only[]
  rw[if_pos (by omega),aG hk]
  simp only[Option.bind_some]
  rw[pR _ (by omega)]
  simp only[Option.bind_some]
  rw[aJ (by omega),wi (by omega)];rfl) (fun t ht=>by unfold mL;simp only[];rw[if_neg (by omega)])
 rw[show((0:Nat):Int)=0 from rfl]at this
 rw[this];rfl
theorem xZ (l:List Int)(h:l.length<=4294967296):dJ l=some l:=by
 unfold dJ
 rw[aJ (by simp;omega)]
 simp only[Option.bind_some,aI,List.nil_append]
theorem gK (x:Rat)(h:bF x<=4294967296):eJ x=some x:=by
 unfold bF qP tI at h
 rw[pP,pP]at h
 unfold eJ
 rw[xZ _ (by omega)]
 simp only[Option.bind_some]
 rw[xZ _ (by omega)]
 simp only[Option.bind_some]
theorem aCq (x:Link)(h:cI x<=4294967296):oN x=some x:=by
 unfold cI at h
 unfold oN
 rw[gK _ (by omega)]
 simp only[Option.bind_some]
 rw[gK _ (by omega)]
 simp only[Option.bind_some]
 rw[gK _ (by omega)]
 simp only[Option.bind_some]
theorem qY (l:List Link)(h:aW l<=4294967296):iN l=some l:=by
 unfold aW at h
 have hl:=nK cI l
 unfold iN
 have:=wC (step:=jI l) l (fun k t=>((k:Int),t)) (fun t=>t) (fun k t hk ht=>by
  have he:=rI (w:=cI) (List.getElem_mem hk)
  unfold jI
  simp only[]
  rw[if_pos (by omega),aG hk]
  simp only[Option.bind_some]
  rw[aCq _ (by omega)]
  simp only[Option.bind_some]
  rw[aJ (by omega),wi (by omega)];rfl) (fun t ht=>by unfold jI;simp only[];rw[if_neg (by omega)])
 rw[show((0:Nat):Int)=0 from rfl]at this
 rw[this];rfl
end Go.Ev
/- Links: validity, order, merging; adding links to a link set, both programs. -/
namespace Go.Ev
open IntKind
set_option linter.all false
def ValidL (l:Link):Prop:=(0<=l.fA/\l.fA<=9)/\(0<=l.fB/\l.fB<=9)/\l.fA<l.fB/\0<sY l.fWeight/\bA l.fDX/\bA l.fDY
instance (l:Link):Decidable (ValidL l):=by unfold ValidL;infer_instance
theorem gB (l:Link)(h:cI l<=4294967296):dO l=some (decide (ValidL l))/\fR l=some (decide (ValidL l)):=by
 unfold cI at h
 obtain⟨g1,g2⟩:=wI l.fWeight (by omega)
 have a1:=zG l.fDX (by omega)
 have a2:=zG l.fDY (by omega)
 have b1:=dI l.fDX (by omega)
 have b2:=dI l.fDY (by omega)
 unfold dO fR ValidL
 simp only[aGp,zW,g1,g2,a1,a2,b1,b2,Option.bind_some]
 by_cases A:0<=l.fA/\l.fA<=9
 · by_cases B:0<=l.fB/\l.fB<=9
   · by_cases C:l.fA<l.fB
     · by_cases D:0<sY l.fWeight
       · by_cases E:bA l.fDX
         · by_cases F:bA l.fDY <;> simp[A,B,C,D,E,F]
         · simp[A,B,C,D,E]
       · simp[A,B,C,D]
     · simp[A,B,C]
   · simp[A,B]
 · simp[A]
theorem ValidL.vz {l:Link}(h:ValidL l):VZ l.fWeight/\VZ l.fDX/\VZ l.fDY:=⟨.inl (vQ h.2.2.2.1),.inl h.2.2.2.2.1,.inl h.2.2.2.2.2⟩
theorem ValidL.sz {l:Link}(h:ValidL l):cI l<=144:=by
 obtain⟨h1,h2,h3⟩:=h.vz
 have:=nI h1
 have:=nI h2
 have:=nI h3
 unfold cI;omega
theorem aBw {α:Type}{w:α->Nat}{c:Nat}:∀ {l:List α},(∀ x∈l,w x<=c)->szL w l<=(c+1)*l.length
 | [],_=>by simp[aKW]
 | y::l,h=>by
  have h1:=h y (by simp)
  have h2:=aBw (l:=l) (c:=c) (fun x hx=>h x (by simp[hx]))
  rw[vL,List.length_cons,Nat.mul_add,Nat.mul_one];omega
def dW (k l:Link):Prop:=k.fA<l.fA\/(k.fA=l.fA/\k.fB<l.fB)
instance (k l:Link):Decidable (dW k l):=by unfold dW;infer_instance
theorem aDX (k l:Link):kW k l=some (decide (dW k l)):=by
 unfold kW dW
 by_cases A:k.fA<l.fA
 · simp[A]
 · by_cases B:k.fA=l.fA
   · simp[A,B]
   · simp[A,B]
theorem aGR (k l:Link):iD k l=some (decide (dW k l)):=aDX k l
theorem yV {a b c:Link}(h:dW a b)(g:dW b c):dW a c:=by unfold dW at *;omega
noncomputable def sqR (x y:Rat):Rat:=RA (RM x x) (RM y y)
noncomputable def yF (k l:Link):Link:=⟨k.fA,k.fB,RA k.fWeight l.fWeight,RD (RA (RM k.fWeight k.fDX) (RM l.fWeight l.fDX)) (RA k.fWeight l.fWeight),RD (RA (RM k.fWeight k.fDY) (RM l.fWeight l.fDY)) (RA k.fWeight l.fWeight)⟩
noncomputable def aBD (k l:Link):Rat:=RM (RD (RM k.fWeight l.fWeight) (RA k.fWeight l.fWeight)) (sqR (RS k.fDX l.fDX) (RS k.fDY l.fDY))
def uR (k l:Link):Prop:=bA (yF k l).fWeight/\bA (yF k l).fDX/\bA (yF k l).fDY/\bA (aBD k l)
noncomputable instance (k l:Link):Decidable (uR k l):=by unfold uR;infer_instance
def aEe:Link:=Link.mk 0 0 (Rat.mk (BigInt.mk false ([])) ([])) (Rat.mk (BigInt.mk false ([])) ([])) (Rat.mk (BigInt.mk false ([])) ([]))
theorem aNB {x y:Rat}(hx:VZ x)(hy:VZ y):lK x y=some (sqR x y)/\jE x y=some (sqR x y)/\VZ (sqR x y):=by
 obtain⟨a1,a2,a3⟩:=aCv hx hx
 obtain⟨b1,b2,b3⟩:=aCv hy hy
 obtain⟨c1,c2,c3⟩:=zI a3 b3
 unfold lK jE sqR
 simp only[a1,a2,b1,b2,c1,c2,Option.bind_some]
 exact⟨trivial,trivial,c3⟩
theorem aGe {k l:Link}(hk:ValidL k)(hl:ValidL l)(h:uR k l):ValidL (yF k l) :=
 ⟨hk.1,hk.2.1,hk.2.2.1,aMy hk.2.2.2.1 hl.2.2.2.1 h.1,h.2.1,h.2.2.1⟩
theorem aH6 {k l:Link}(hk:ValidL k)(hl:ValidL l)(hA:k.fA=l.fA)(hB:k.fB=l.fB) :
 lM k l=some (if uR k l then(yF k l,aBD k l,true)else(aEe,lI,false))/\lU k l=some (if uR k l then(yF k l,aBD k l,true)else(aEe,lI,false))/\VZ (aBD k l):=by
 obtain⟨k1,k2,k3⟩:=hk.vz
 obtain⟨l1,l2,l3⟩:=hl.vz
 obtain⟨a1,a2,a3⟩:=zI k1 l1
 obtain⟨b1,b2,b3⟩:=aCv k1 k2
 obtain⟨c1,c2,c3⟩:=aCv l1 l2
 obtain⟨d1,d2,d3⟩:=zI b3 c3
 obtain⟨e1,e2,e3⟩:=aDU d3 a3
 obtain⟨f1,f2,f3⟩:=aCv k1 k3
 obtain⟨g1,g2,g3⟩:=aCv l1 l3
 obtain⟨i1,i2,i3⟩:=zI f3 g3
 obtain⟨j1,j2,j3⟩:=aDU i3 a3
 obtain⟨m1,m2,m3⟩:=aCv k1 l1
 obtain⟨n1,n2,n3⟩:=aDU m3 a3
 obtain⟨o1,o2,o3⟩:=aFF k2 l2
 obtain⟨p1,p2,p3⟩:=aFF k3 l3
 obtain⟨q1,q2,q3⟩:=aNB o3 p3
 obtain⟨r1,r2,r3⟩:=aCv n3 q3
 have v1:=(gB k (by have:=hk.sz;omega)).1
 have v2:=(gB l (by have:=hl.sz;omega)).1
 have vm:=(gB (yF k l) (by
  have:=nI a3;have:=nI e3;have:=nI j3
  unfold cI yF;simp only[];omega)).1
 refine⟨?_,?_,r3⟩
 · unfold lM
   rw[v1,v2,decide_eq_true hk,decide_eq_true hl]
   simp only[Option.bind_some,if_true,hA,hB,ne_eq,not_true_eq_false,if_false,decide_false,Bool.false_eq_true]
   simp only[a1,b1,c1,d1,e1,f1,g1,i1,j1,m1,n1,o1,p1,q1,r1,Option.bind_some]
   rw[<- hA,<- hB]
   have e:(Link.mk k.fA k.fB (RA k.fWeight l.fWeight) (RD (RA (RM k.fWeight k.fDX) (RM l.fWeight l.fDX)) (RA k.fWeight l.fWeight)) (RD (RA (RM k.fWeight k.fDY) (RM l.fWeight l.fDY)) (RA k.fWeight l.fWeight)))=yF k l:=rfl
   rw[e,vm]
   have e2:RM (RD (RM k.fWeight l.fWeight) (RA k.fWeight l.fWeight)) (sqR (RS k.fDX l.fDX) (RS k.fDY l.fDY))=aBD k l:=rfl
   rw[e2,dI (aBD k l) (VZs r3)]
   simp only[Option.bind_some]
   by_cases O:uR k l
   · rw[if_pos O,decide_eq_true (aGe hk hl O),decide_eq_true O.2.2.2];rfl
   · rw[if_neg O]
     by_cases V:ValidL (yF k l)
     · have:¬bA (aBD k l):=fun h=>O ⟨vQ V.2.2.2.1,V.2.2.2.2.1,V.2.2.2.2.2,h⟩
       rw[decide_eq_true V,decide_eq_false this];rfl
     · rw[decide_eq_false V];rfl
 · unfold lU
   simp only[a2,b2,c2,d2,e2,f2,g2,i2,j2,m2,n2,o2,p2,q2,r2,Option.bind_some,gV a3,gV e3,gV j3,gV r3]
   unfold uR yF aBD
   simp only[]
   by_cases A:bA (RA k.fWeight l.fWeight)
   · by_cases B:bA (RD (RA (RM k.fWeight k.fDX) (RM l.fWeight l.fDX)) (RA k.fWeight l.fWeight))
     · by_cases C:bA (RD (RA (RM k.fWeight k.fDY) (RM l.fWeight l.fDY)) (RA k.fWeight l.fWeight))
       · by_cases D:bA (RM (RD (RM k.fWeight l.fWeight) (RA k.fWeight l.fWeight)) (sqR (RS k.fDX l.fDX) (RS k.fDY l.fDY))) <;> simp[A,B,C,D,aEe,lI]
       · simp[A,B,C,aEe,lI]
     · simp[A,B,aEe,lI]
   · simp[A,aEe,lI]
def LSet (s:List Link):Prop:=(∀ x∈s,ValidL x)/\s.Pairwise dW
noncomputable instance (s:List Link):Decidable (LSet s):=Classical.propDecidable _
theorem aIb:∀ (l:List Int) (a N:Int),l.Pairwise (· < ·)->(∀ x∈l,a<=x/\x<N)->(l.length:Int)<=max 0 (N-a)
 | [],a,N,_,_=>by rw[List.length_nil];omega
 | x::l,a,N,h,hb=>by
  rw[List.pairwise_cons]at h
  have h1:=hb x (by simp)
  have:=aIb l (x+1) N h.2 (fun y hy=>⟨by have:=h.1 y hy;omega,(hb y (by simp[hy])).2⟩)
  rw[List.length_cons];omega
theorem LSet.len {s:List Link}(h:LSet s):s.length<=100:=by
 have:=aIb (s.map fun l=>l.fA*10+l.fB) 0 100 (by
  rw[List.pairwise_map]
  refine List.Pairwise.imp_of_mem (fun {a b} ha hb hr=>?_) h.2
  have h1:=h.1 a ha
  have h2:=h.1 b hb
  unfold ValidL at h1 h2
  unfold dW at hr
  omega) (by
  intro x hx
  obtain⟨l,hl,rfl⟩:=List.mem_map.1 hx
  have h1:=h.1 l hl
  unfold ValidL at h1
  omega)
 rw[List.length_map]at this;omega
theorem zM {s:List Link}(h:∀ x∈s,ValidL x):aW s<=145*s.length:=aBw (fun x hx=>(h x hx).sz)
theorem LSet.sz {s:List Link}(h:LSet s):aW s<=14500:=by
 have:=zM h.1
 have:=h.len
 omega
def lsF:Option Link->List Link->Prop
 | _,[]=>True
 | p,x::r=>ValidL x/\(∀ q,p=some q->dW q x)/\lsF (some x) r
noncomputable instance (p:Option Link)(s:List Link):Decidable (lsF p s):=Classical.propDecidable _
theorem aH7:∀ (s:List Link) (p:Option Link),lsF p s↔LSet s/\∀ q,p=some q->∀ x∈s,dW q x
 | [],p=>by simp[lsF,LSet]
 | x::r,p=>by
  rw[lsF,aH7 r (some x)]
  unfold LSet
  rw[List.pairwise_cons]
  constructor
  · rintro⟨h1,h2,⟨h3,h4⟩,h5⟩
    refine⟨⟨fun y hy=>?_,fun y hy=>h5 x rfl y hy,h4⟩,fun q hq y hy=>?_⟩
    · rcases List.mem_cons.1 hy with rfl | hy
      · exact h1
      · exact h3 y hy
    · rcases List.mem_cons.1 hy with rfl | hy
      · exact h2 q hq
      · exact yV (h2 q hq) (h5 x rfl y hy)
  · rintro⟨⟨h1,h2,h3⟩,h4⟩
    exact⟨h1 x (by simp),fun q hq=>h4 q hq x (by simp),⟨fun y hy=>h1 y (by simp[hy]),h3⟩,fun q hq y hy=>by cases hq;exact h2 y hy⟩
theorem jL (s:List Link)(h:aW s<=4294967296):cQ s=some (decide (LSet s)):=by
 unfold aW at h
 have hl:=nK cI s
 have main:∀ m k:Nat,m+k=s.length->∀ p:Option Link,(p=if k=0 then none else s[k-1]?)->lp (dS s) (k:Int)=some (if lsF p (s.drop k)then .inl ()else .inr false):=by
  intro m
  induction m with
  | zero =>
   intro k hk p _
   rw[List.drop_eq_nil_of_le (by omega),if_pos (by simp[lsF])]
   exact aF (by unfold dS;rw[if_neg (by omega)])
  | succ m ih =>
   intro k hk p hp
   have hlt:k<s.length:=by omega
   have hz:=rI (w:=cI) (List.getElem_mem hlt)
   have v:=(gB s[k] (by omega)).1
   rw[List.drop_eq_getElem_cons hlt]
   have st:dS s (k:Int)=some (if ValidL s[k]/\(∀ q,p=some q->dW q s[k])then .inl ((k+1:Nat):Int)else .inr (.inr false)):=by
    have w1:i64.wrap ((k:Int)+1)=((k+1:Nat):Int):=by rw[wi (by omega)];omega
    unfold dS
    rw[if_pos (by omega),aG hlt]
    simp only[Option.bind_some,v,w1]
    by_cases V:ValidL s[k]
    · rw[decide_eq_true V,if_pos rfl]
      by_cases K:k=0
      · subst K
        rw[if_pos rfl]at hp;subst hp
        simp[V]
      · have hlt2:k-1<s.length:=by omega
        rw[if_neg K,List.getElem?_eq_getElem hlt2]at hp;subst hp
        have w2:i64.wrap ((k:Int)-1)=((k-1:Nat):Int):=by rw[wi (by omega)];omega
        rw[if_pos (by omega),w2,aG hlt2]
        simp only[Option.bind_some,aDX]
        by_cases L:dW s[k-1] s[k]
        · simp[V,L]
        · simp[L]
    · rw[decide_eq_false V];simp[V]
   by_cases G:ValidL s[k]/\(∀ q,p=some q->dW q s[k])
   · rw[if_pos G]at st
     rw[aM st,ih (k+1) (by omega) (some s[k]) (by rw[if_neg (by omega),Nat.add_sub_cancel,List.getElem?_eq_getElem hlt])]
     have:lsF p (s[k]::s.drop (k+1))↔lsF (some s[k]) (s.drop (k+1)):=by rw[lsF];exact⟨fun h=>h.2.2,fun h=>⟨G.1,G.2,h⟩⟩
     simp only[this]
   · rw[if_neg G]at st
     rw[aF st,if_neg]
     rw[lsF];exact fun h=>G ⟨h.1,h.2.1⟩
 have:=main s.length 0 (by omega) none (by simp)
 unfold cQ
 rw[show((0:Nat):Int)=0 from rfl,List.drop_zero]at this
 rw[this]
 have e:lsF none s↔LSet s:=by rw[aH7];exact⟨fun h=>h.1,fun h=>⟨h,fun q hq=>by cases hq⟩⟩
 by_cases c:LSet s
 · rw[if_pos (e.2 c),decide_eq_true c];rfl
 · rw[if_neg (fun h=>c (e.1 h)),decide_eq_false c];rfl
def cY (l:Link):List Link->Nat
 | []=>0
 | y::r=>if dW y l then cY l r+1 else 0
theorem aHX (l:Link):∀ s:List Link,cY l s<=s.length
 | []=>Nat.le_refl _
 | y::r=>by
  have:=aHX l r
  rw[cY];split <;> simp <;> omega
theorem aBA (l:Link):∀ s:List Link,∀ x∈s.take (cY l s),dW x l
 | [],x,h=>by simp[cY]at h
 | y::r,x,h=>by
  rw[cY]at h
  by_cases c:dW y l
  · rw[if_pos c,List.take_succ_cons]at h
    rcases List.mem_cons.1 h with rfl | h
    · exact c
    · exact aBA l r x h
  · rw[if_neg c]at h;simp at h
theorem zQ (l:Link):∀ (s:List Link) (h:cY l s<s.length),¬dW s[cY l s] l
 | [],h=>by simp at h
 | y::r,h=>by
  by_cases c:dW y l
  · have e:cY l (y::r)=cY l r+1:=by rw[cY,if_pos c]
    have h':cY l r<r.length:=by rw[e]at h;simpa using h
    have:=zQ l r h'
    simpa [e]using this
  · have e:cY l (y::r)=0:=by rw[cY,if_neg c]
    simpa [e]using c
theorem aJE (s:List Link)(l:Link)(h:s.length<=4294967296):lp (fE l s) 0=some ((cY l s:Nat):Int):=by
 have main:∀ m k:Nat,m+k=s.length->lp (fE l s) (k:Int)=some ((k+cY l (s.drop k):Nat):Int):=by
  intro m
  induction m with
  | zero =>
   intro k hk
   rw[List.drop_eq_nil_of_le (by omega)]
   refine aF ?_
   unfold fE
   rw[if_neg (by omega)];rfl
  | succ m ih =>
   intro k hk
   have hlt:k<s.length:=by omega
   have w1:i64.wrap ((k:Int)+1)=((k+1:Nat):Int):=by rw[wi (by omega)];omega
   rw[List.drop_eq_getElem_cons hlt,cY]
   have st:fE l s (k:Int)=some (if dW s[k] l then .inl ((k+1:Nat):Int)else .inr (k:Int)):=by
    unfold fE
    rw[if_pos (by omega),aG hlt]
    simp only[Option.bind_some,aDX,w1]
    by_cases L:dW s[k] l <;> simp[L]
   by_cases L:dW s[k] l
   · rw[if_pos L]at st ⊢
     rw[aM st,ih (k+1) (by omega)]
     congr 2;omega
   · rw[if_neg L]at st ⊢
     rw[aF st];rfl
 have:=main s.length 0 (by omega)
 simpa using this
noncomputable def xO (s:List Link)(l:Link):Option (List Link×Rat) :=
 if h:cY l s<s.length then
  if dW l s[cY l s]then some (s.take (cY l s)++[l]++s.drop (cY l s),nX 0)
  else if uR s[cY l s] l then some (s.take (cY l s)++[yF s[cY l s] l]++s.drop (cY l s+1),aBD s[cY l s] l)else none
 else some (s.take (cY l s)++[l]++s.drop (cY l s),nX 0)
def pk:Option (List Link×Rat)->List Link×Rat×Bool
 | some (s,e)=>(s,e,true)
 | none=>([],lI,false)
theorem aDZ {s:List Link}{m:Link}{p q:Nat}(hs:LSet s)(hm:ValidL m)(h1:∀ x∈s.take p,dW x m)(h2:∀ y∈s.drop q,dW m y):LSet (s.take p++[m]++s.drop q):=by
 refine⟨fun x hx=>?_,?_⟩
 · rw[List.mem_append,List.mem_append,List.mem_singleton]at hx
   rcases hx with(hx | rfl) | hx
   · exact hs.1 x (List.mem_of_mem_take hx)
   · exact hm
   · exact hs.1 x (List.mem_of_mem_drop hx)
 · rw[List.append_assoc,List.pairwise_append]
   refine⟨hs.2.sublist (List.take_sublist _ _),?_,fun a ha b hb=>?_⟩
   · rw[List.singleton_append,List.pairwise_cons]
     exact⟨h2,hs.2.sublist (List.drop_sublist _ _)⟩
   · rw[List.singleton_append]at hb
     rcases List.mem_cons.1 hb with rfl | hb
     · exact h1 a ha
     · exact yV (h1 a ha) (h2 b hb)
theorem aL4 {s:List Link}(h:s.Pairwise dW){p:Nat}(hp:p<s.length):(∀ x∈s.take p,dW x s[p])/\∀ y∈s.drop (p+1),dW s[p] y:=by
 have e:s=s.take p++(s[p]::s.drop (p+1)):=by rw[<- List.drop_eq_getElem_cons hp,List.take_append_drop]
 rw[e,List.pairwise_append,List.pairwise_cons]at h
 exact⟨fun x hx=>h.2.2 x hx _ List.mem_cons_self,h.2.1.1⟩
theorem aFB {s:List Link}{l:Link}(hs:LSet s)(hl:ValidL l){s':List Link}{e:Rat}(h:xO s l=some (s',e)):LSet s'/\VZ e:=by
 unfold xO at h
 have z:VZ (nX 0):=.inl (wV 0 (by omega))
 by_cases c:cY l s<s.length
 · rw[dif_pos c]at h
   obtain⟨g1,g2⟩:=aL4 hs.2 c
   by_cases c2:dW l s[cY l s]
   · rw[if_pos c2]at h;cases h
     refine⟨aDZ hs hl (aBA l s) (fun y hy=>?_),z⟩
     rw[List.drop_eq_getElem_cons c]at hy
     rcases List.mem_cons.1 hy with rfl | hy
     · exact c2
     · exact yV c2 (g2 y hy)
   · rw[if_neg c2]at h
     have hv:=hs.1 _ (List.getElem_mem c)
     have nl:=zQ l s c
     have hA:s[cY l s].fA=l.fA/\s[cY l s].fB=l.fB:=by unfold dW at c2 nl;omega
     by_cases O:uR s[cY l s] l
     · rw[if_pos O]at h;cases h
       exact⟨aDZ hs (aGe hv hl O) g1 g2,(aH6 hv hl hA.1 hA.2).2.2⟩
     · rw[if_neg O]at h;cases h
 · rw[dif_neg c]at h;cases h
   refine⟨aDZ hs hl (aBA l s) (fun y hy=>?_),z⟩
   rw[List.drop_eq_nil_of_le (by omega)]at hy;cases hy
theorem aFC (s:List Link)(l:Link):sL s l=fE l s:=rfl
theorem qX {α:Type}(x:α):aS x=some x:=rfl
theorem aEY {s:List Link}{l:Link}(hs:LSet s)(hl:ValidL l):kY s l=some (pk (xO s l))/\qE s l=some (pk (xO s l)):=by
 have hlen:=hs.len
 have hp:=aHX l s
 have v:=(gB l (by have:=hl.sz;omega)).1
 have i1:=jL s (by have:=hs.sz;omega)
 have c1:=aAj s (by have:=hs.sz;omega)
 have c2:=pR l (by have:=hl.sz;omega)
 have lp1:=aJE s l (by omega)
 have rf1:bV 0=some (nX 0):=bL 0 (by omega)
 have rf2:dK 0=some (nX 0):=jJ 0 (by omega)
 have s1:sub s 0 ((cY l s:Nat):Int)=some (s.take (cY l s)):=by rw[kV _ _ _ (by omega)];simp
 have s2:sub s ((cY l s:Nat):Int) (s.length:Int)=some (s.drop (cY l s)):=by
  rw[kV _ _ _ (by omega)];congr 1
  rw[List.take_of_length_le];rfl
  rw[List.length_drop];omega
 have t1:(s.take (cY l s)).length<=100:=by rw[List.length_take];omega
 have t2:(s.drop (cY l s)).length<=100:=by rw[List.length_drop];omega
 unfold kY qE xO
 rw[aFC,i1,v,decide_eq_true hs,decide_eq_true hl,lp1]
 simp only[Option.bind_some,if_true,Bool.not_true,Bool.false_eq_true,if_false,c1,lp1,s1,s2,qX,List.nil_append]
 rw[aJ (by simp only[List.length_nil,Nat.zero_add];omega)]
 simp only[Option.bind_some]
 by_cases c:cY l s<s.length
 · have c':((cY l s:Nat):Int)<(s.length:Int):=by omega
   have c'':¬((cY l s:Nat):Int)=(s.length:Int):=by omega
   rw[if_pos c',if_neg c'',dif_pos c,aG c]
   simp only[Option.bind_some,aDX,aGR]
   by_cases L:dW l s[cY l s]
   · rw[if_pos L,decide_eq_true L]
     simp only[Bool.not_true,Bool.false_eq_true,if_false,if_true,c2,Option.bind_some,rf1,rf2]
     rw[aJ (by omega)]
     simp only[Option.bind_some]
     rw[aJ (by rw[List.length_append,List.length_singleton];omega)]
     exact⟨rfl,rfl⟩
   · rw[if_neg L,decide_eq_false L]
     have hv:=hs.1 _ (List.getElem_mem c)
     have nl:=zQ l s c
     have hA:s[cY l s].fA=l.fA/\s[cY l s].fB=l.fB:=by unfold dW at L nl;omega
     obtain⟨m1,m2,m3⟩:=aH6 hv hl hA.1 hA.2
     simp only[Bool.not_false,if_true,Bool.false_eq_true,if_false,m1,m2,Option.bind_some]
     by_cases O:uR s[cY l s] l
     · rw[if_pos O,if_pos O]
       have w1:i64.wrap (((cY l s:Nat):Int)+1)=((cY l s+1:Nat):Int):=by rw[wi (by omega)];omega
       have s3:sub s ((cY l s+1:Nat):Int) (s.length:Int)=some (s.drop (cY l s+1)):=by
        rw[kV _ _ _ (by omega)];congr 1
        rw[List.take_of_length_le];rfl
        rw[List.length_drop];omega
       have t3:(s.drop (cY l s+1)).length<=100:=by rw[List.length_drop];omega
       simp only[if_true,w1,s3,Option.bind_some,mU]
       rw[aJ (by omega)]
       simp only[Option.bind_some]
       rw[aJ (by rw[List.length_append,List.length_singleton];omega)]
       refine⟨?_,rfl⟩
       simp only[pk]
       rw[List.set_eq_take_append_cons_drop,if_pos c,List.append_assoc,List.singleton_append]
     · rw[if_neg O,if_neg O]
       exact⟨rfl,rfl⟩
 · have c':¬((cY l s:Nat):Int)<(s.length:Int):=by omega
   have c'':((cY l s:Nat):Int)=(s.length:Int):=by omega
   rw[if_neg c',if_pos c'',dif_neg c]
   simp only[Option.bind_some,Bool.false_eq_true,if_false,if_true,c2,rf1,rf2]
   rw[aJ (by omega)]
   simp only[Option.bind_some]
   rw[aJ (by rw[List.length_append,List.length_singleton];omega)]
   exact⟨rfl,rfl⟩
end Go.Ev
/- Joining links into a link set, both programs. -/
namespace Go.Ev
set_option linter.all false
theorem aMz {r s:Rat}(hr:VZ r)(hs:VZ s)(h:¬bA r):RA r s=lI:=by
 have q:=(zI hr hs).1
 unfold cK at q
 rw[dI r (VZs hr),decide_eq_false h]at q
 simpa [lI]using q.symm
noncomputable def qM:List Link->List Link->Rat->Option (List Link×Rat)
 | [],s,e=>some (s,e)
 | x::r,s,e=>match xO s x with
  | none=>none
  | some (s',e')=>if bA (RA e e')then qM r s' (RA e e')else none
theorem aGo:∀ (l s:List Link) (e:Rat),(∀ x∈l,ValidL x)->LSet s->bA e->∀ s' e',qM l s e=some (s',e')->LSet s'/\bA e'
 | [],s,e,_,hs,he,s',e',h=>by rw[qM]at h;cases h;exact⟨hs,he⟩
 | x::r,s,e,hv,hs,he,s',e',h=>by
  rw[qM]at h
  cases ha:xO s x with
  | none=>rw[ha]at h;cases h
  | some t =>
   obtain⟨s1,e1⟩:=t
   rw[ha]at h
   simp only[]at h
   obtain⟨g1,g2⟩:=aFB hs (hv x (by simp)) ha
   by_cases c:bA (RA e e1)
   · rw[if_pos c]at h
     exact aGo r s1 _ (fun y hy=>hv y (by simp[hy])) g1 c s' e' h
   · rw[if_neg c]at h;cases h
noncomputable instance (l:List Link):Decidable (∀ x∈l,ValidL x):=Classical.propDecidable _
def aAx:List Link×Rat×Bool:=([],lI,false)
theorem aHn (l:List Link)(hv:∀ x∈l,ValidL x)(hl:l.length<=4294967296):∀ m k:Nat,m+k=l.length->∀ s e,LSet s->VZ e->
 lp (fC l) (s,(k:Int),e)=some (match qM (l.drop k) s e with | some t=>.inl t | none=>.inr aAx):=by
 intro m
 induction m with
 | zero =>
  intro k hk s e hs he
  rw[List.drop_eq_nil_of_le (by omega),qM]
  exact aF (by unfold fC;simp only[];rw[if_neg (by omega)])
 | succ m ih =>
  intro k hk s e hs he
  have hlt:k<l.length:=by omega
  have hx:=hv _ (List.getElem_mem hlt)
  have w1:IntKind.i64.wrap ((k:Int)+1)=((k+1:Nat):Int):=by rw[wi (by omega)];omega
  have a:=(aEY hs hx).2
  rw[List.drop_eq_getElem_cons hlt,qM]
  cases ha:xO s l[k]with
  | none =>
   rw[ha]at a
   have g:=(zI he aAh).2.1
   refine aF ?_
   unfold fC
   simp only[]
   rw[if_pos (by omega),aG hlt]
   simp only[Option.bind_some,a,pk,g]
   rfl
  | some t =>
   obtain⟨s1,e1⟩:=t
   rw[ha]at a
   obtain⟨g1,g2⟩:=aFB hs hx ha
   obtain⟨_,q2,q3⟩:=zI he g2
   have st:fC l (s,(k:Int),e)=some (if bA (RA e e1)then .inl (s1,((k+1:Nat):Int),RA e e1)else .inr (.inr aAx)):=by
    unfold fC
    simp only[]
    rw[if_pos (by omega),aG hlt]
    simp only[Option.bind_some,a,pk,q2,gV q3,if_true,w1]
    by_cases c:bA (RA e e1)
    · simp[c]
    · simp[c,aAx,lI]
   simp only[]
   by_cases c:bA (RA e e1)
   · rw[if_pos c]at st ⊢
     rw[aM st]
     exact ih (k+1) (by omega) s1 _ g1 q3
   · rw[if_neg c]at st ⊢
     rw[aF st]
def aKk:(List Link×Rat) ⊕ (List Link×Rat×Bool)->List Link×Rat×Bool
 | .inl d=>if bA d.2 then(d.1,d.2,true)else aAx
 | .inr x=>x
theorem aHm (l:List Link)(hz:aW l<=4294967296):∀ m k:Nat,m+k=l.length->∀ s e,LSet s->VZ e->
 ∃ R,lp (dR l) (s,(k:Int),e)=some R/\(∀ d,R=.inl d->VZ d.2)/\aKk R=pk (if bA e/\(∀ x∈l.drop k,ValidL x)then qM (l.drop k) s e else none):=by
 have hl:l.length<=4294967296:=by have:=nK cI l;unfold aW at hz;omega
 intro m
 induction m with
 | zero =>
  intro k hk s e hs he
  refine⟨.inl (s,e),aF (by unfold dR;simp only[];rw[if_neg (by omega)]),fun d h=>(by cases h;exact he),?_⟩
  rw[List.drop_eq_nil_of_le (by omega),qM]
  by_cases c:bA e
  · simp[aKk,pk,c]
  · simp[aKk,pk,c,aAx]
 | succ m ih =>
  intro k hk s e hs he
  have hlt:k<l.length:=by omega
  have w1:IntKind.i64.wrap ((k:Int)+1)=((k+1:Nat):Int):=by rw[wi (by omega)];omega
  have hxz:cI l[k]<=4294967296:=by have:=rI (w:=cI) (List.getElem_mem hlt);unfold aW at hz;omega
  rw[List.drop_eq_getElem_cons hlt]
  by_cases hx:ValidL l[k]
  · have a:=(aEY hs hx).1
    rw[qM]
    cases ha:xO s l[k]with
    | none =>
     rw[ha]at a
     refine⟨.inr aAx,aF ?_,fun d h=>(by cases h),?_⟩
     · unfold dR
       simp only[]
       rw[if_pos (by omega),aG hlt]
       simp only[Option.bind_some,a,pk]
       rfl
     · simp[aKk,pk,aAx]
    | some t =>
     obtain⟨s1,e1⟩:=t
     rw[ha]at a
     obtain⟨g1,g2⟩:=aFB hs hx ha
     obtain⟨q1,_,q3⟩:=zI he g2
     have st:dR l (s,(k:Int),e)=some (.inl (s1,((k+1:Nat):Int),RA e e1)):=by
      unfold dR
      simp only[]
      rw[if_pos (by omega),aG hlt]
      simp only[Option.bind_some,a,pk,q1,if_true,w1]
     obtain⟨R,r1,r2,r3⟩:=ih (k+1) (by omega) s1 _ g1 q3
     refine⟨R,by rw[aM st];exact r1,r2,?_⟩
     rw[r3]
     simp only[]
     by_cases c:bA e
     · by_cases c2:bA (RA e e1)
       · have:(∀ x∈l[k]::l.drop (k+1),ValidL x)↔(∀ x∈l.drop (k+1),ValidL x):=⟨fun h x hx'=>h x (List.mem_cons_of_mem _ hx'),fun h x hx'=>by rcases List.mem_cons.1 hx' with rfl | h';exact hx;exact h x h'⟩
         simp only[c,c2,true_and,if_true,this]
       · simp only[c,c2,true_and,false_and,if_false,ite_self]
     · have c2:¬bA (RA e e1):=by rw[aMz he g2 c];exact yG
       simp only[c,c2,false_and,if_false]
  · refine⟨.inr aAx,aF ?_,fun d h=>(by cases h),?_⟩
    · unfold dR
      simp only[]
      rw[if_pos (by omega),aG hlt]
      have a:kY s l[k]=some aAx:=by
       unfold kY
       rw[jL s (by have:=hs.sz;omega),(gB l[k] hxz).1,decide_eq_true hs,decide_eq_false hx]
       rfl
      simp only[Option.bind_some,a,aAx]
      rfl
    · rw[if_neg (fun h=>hx (h.2 _ List.mem_cons_self))];rfl
theorem aE1 (l:List Link)(hz:aW l<=4294967296):lR l=some (decide (∀ x∈l,ValidL x)):=by
 have hl:l.length<=4294967296:=by have:=nK cI l;unfold aW at hz;omega
 have main:∀ m k:Nat,m+k=l.length->lp (fO l) (k:Int)=some (if(∀ x∈l.drop k,ValidL x)then .inl ()else .inr false):=by
  intro m
  induction m with
  | zero =>
   intro k hk
   rw[List.drop_eq_nil_of_le (by omega),if_pos (by simp)]
   exact aF (by unfold fO;rw[if_neg (by omega)])
  | succ m ih =>
   intro k hk
   have hlt:k<l.length:=by omega
   have w1:IntKind.i64.wrap ((k:Int)+1)=((k+1:Nat):Int):=by rw[wi (by omega)];omega
   have v:=(gB l[k] (by have:=rI (w:=cI) (List.getElem_mem hlt);unfold aW at hz;omega)).2
   have st:fO l (k:Int)=some (if ValidL l[k]then .inl ((k+1:Nat):Int)else .inr (.inr false)):=by
    unfold fO
    rw[if_pos (by omega),aG hlt]
    simp only[Option.bind_some,v,w1]
    by_cases c:ValidL l[k] <;> simp[c]
   rw[List.drop_eq_getElem_cons hlt]
   by_cases c:ValidL l[k]
   · rw[if_pos c]at st
     rw[aM st,ih (k+1) (by omega)]
     have:(∀ x∈l[k]::l.drop (k+1),ValidL x)↔(∀ x∈l.drop (k+1),ValidL x):=⟨fun h x hx'=>h x (List.mem_cons_of_mem _ hx'),fun h x hx'=>by rcases List.mem_cons.1 hx' with rfl | h';exact c;exact h x h'⟩
     simp only[this]
   · rw[if_neg c]at st
     rw[aF st,if_neg (fun h=>c (h _ List.mem_cons_self))]
 have:=main l.length 0 (by omega)
 unfold lR
 rw[show((0:Nat):Int)=0 from rfl,List.drop_zero]at this
 rw[this]
 by_cases c:∀ x∈l,ValidL x
 · rw[if_pos c,decide_eq_true c];rfl
 · rw[if_neg c,decide_eq_false c];rfl
theorem zK:LSet []:=⟨by simp,List.Pairwise.nil⟩
theorem zP:bA (nX 0):=wV 0 (by omega)
noncomputable def jnP (l:List Link):Option (List Link×Rat):=if ∀ x∈l,ValidL x then qM l [] (nX 0)else none
theorem yY {l s:List Link}{e:Rat}(h:jnP l=some (s,e)):(∀ x∈l,ValidL x)/\LSet s/\bA e:=by
 unfold jnP at h
 by_cases c:∀ x∈l,ValidL x
 · rw[if_pos c]at h
   exact⟨c,aGo l [] _ c zK zP s e h⟩
 · rw[if_neg c]at h;cases h
theorem yX {l:List Link}(hv:∀ x∈l,ValidL x)(hl:l.length<=4294967296):iK l=some (pk (jnP l)):=by
 unfold iK jnP
 rw[jJ 0 (by omega),if_pos hv]
 simp only[Option.bind_some]
 have:=aHn l hv hl l.length 0 (by omega) [] (nX 0) zK (.inl zP)
 rw[show((0:Nat):Int)=0 from rfl,List.drop_zero]at this
 rw[this]
 cases qM l [] (nX 0)with
 | none=>rfl
 | some t=>rfl
theorem uU (l:List Link)(hz:aW l<=4294967296):dG l=some (pk (jnP l))/\nG l=some (pk (jnP l)):=by
 have hl:l.length<=4294967296:=by have:=nK cI l;unfold aW at hz;omega
 constructor
 · unfold dG
   rw[bL 0 (by omega)]
   simp only[Option.bind_some]
   obtain⟨R,r1,r2,r3⟩:=aHm l hz l.length 0 (by omega) [] (nX 0) zK (.inl zP)
   rw[show((0:Nat):Int)=0 from rfl]at r1
   rw[List.drop_zero]at r3
   rw[r1]
   have e:(if bA (nX 0)/\(∀ x∈l,ValidL x)then qM l [] (nX 0)else none)=jnP l:=by unfold jnP;simp only[zP,true_and]
   rw[<- e,<- r3]
   cases R with
   | inl d =>
    simp only[Option.bind_some]
    rw[dI d.2 (VZs (r2 d rfl))]
    simp only[Option.bind_some,aKk]
    by_cases c:bA d.2
    · rw[decide_eq_true c,if_pos c];rfl
    · rw[decide_eq_false c,if_neg c];rfl
   | inr x=>rfl
 · unfold nG
   rw[aE1 l hz]
   simp only[Option.bind_some]
   by_cases c:∀ x∈l,ValidL x
   · rw[decide_eq_true c,if_pos rfl,yX c hl]
     simp only[Option.bind_some]
     cases hj:jnP l with
     | none=>rfl
     | some t =>
      obtain⟨s,e⟩:=t
      obtain⟨_,g1,_⟩:=yY hj
      simp only[pk,if_true]
      rw[qY s (by have:=g1.sz;omega)]
      rfl
   · rw[decide_eq_false c]
     unfold jnP
     rw[if_neg c];rfl
end Go.Ev
/- Cliques: their nodes in order. -/
namespace Go.Ev
set_option linter.all false
theorem wN:∀ {a b:List Int},a.Pairwise (· < ·)->b.Pairwise (· < ·)->(∀ x,x∈a↔x∈b)->a=b
 | [],[],_,_,_=>rfl
 | [],y::b,_,_,h=>absurd ((h y).2 (by simp)) (by simp)
 | x::a,[],_,_,h=>absurd ((h x).1 (by simp)) (by simp)
 | x::a,y::b,ha,hb,h=>by
  rw[List.pairwise_cons]at ha hb
  have hxy:x=y:=by
   have h1:=(h x).1 (by simp)
   have h2:=(h y).2 (by simp)
   rcases List.mem_cons.1 h1 with e | e
   · exact e
   · rcases List.mem_cons.1 h2 with e' | e'
     · exact e'.symm
     · have:=hb.1 x e;have:=ha.1 y e';omega
  subst hxy
  have:a=b:=wN ha.2 hb.2 (fun z=>by
   constructor
   · intro hz
     have:=(h z).1 (by simp[hz])
     rcases List.mem_cons.1 this with e | e
     · subst e;have:=ha.1 z hz;omega
     · exact e
   · intro hz
     have:=(h z).2 (by simp[hz])
     rcases List.mem_cons.1 this with e | e
     · subst e;have:=hb.1 z hz;omega
     · exact e)
  rw[this]
def yD:List Int->Int->List Int
 | [],n=>[n]
 | x::l,n=>if x<n then x::yD l n else if x=n then x::l else n::x::l
theorem vU:∀ (l:List Int) (n x:Int),x∈yD l n↔x=n\/x∈l
 | [],n,x=>by simp[yD]
 | y::l,n,x=>by
  unfold yD
  by_cases h1:y<n
  · rw[if_pos h1,List.mem_cons,List.mem_cons,vU l n x]
    constructor
    · rintro(h | h | h) <;> simp[h]
    · rintro(h | h | h) <;> simp[h]
  · rw[if_neg h1]
    by_cases h2:y=n
    · rw[if_pos h2];subst h2;simp
    · rw[if_neg h2];simp
theorem sA:∀ (l:List Int) (n:Int),l.Pairwise (· < ·)->(yD l n).Pairwise (· < ·)
 | [],n,_=>by simp[yD]
 | y::l,n,h=>by
  unfold yD
  rw[List.pairwise_cons]at h
  by_cases h1:y<n
  · rw[if_pos h1,List.pairwise_cons]
    exact⟨fun x hx=>by rcases(vU l n x).1 hx with e | e;omega;exact h.1 x e,sA l n h.2⟩
  · rw[if_neg h1]
    by_cases h2:y=n
    · rw[if_pos h2,List.pairwise_cons];exact h
    · rw[if_neg h2,List.pairwise_cons]
      exact⟨fun x hx=>by rcases List.mem_cons.1 hx with e | e;omega;have:=h.1 x e;omega,List.pairwise_cons.2 h⟩
theorem vV:∀ (l:List Int) (n:Int),(yD l n).length<=l.length+1
 | [],n=>by simp[yD]
 | y::l,n=>by
  unfold yD
  split
  · simp[vV l n]
  · split <;> simp
def lF (l:List Int)(n:Int):Nat:=(l.takeWhile (fun x=>decide (x<n))).length
theorem aHs (l:List Int)(n:Int):lF l n<=l.length:=by
 unfold lF
 induction l with
 | nil=>simp
 | cons x l ih =>
  rw[List.takeWhile_cons]
  split
  · simpa using ih
  · simp
theorem aBj (x:Int)(l:List Int)(n:Int):lF (x::l) n=if x<n then lF l n+1 else 0:=by
 unfold lF
 rw[List.takeWhile_cons]
 by_cases h:x<n <;> simp[h]
theorem aHV:∀ (l:List Int) (n:Int),yD l n=if l[lF l n]?=some n then l else l.take (lF l n)++[n]++l.drop (lF l n)
 | [],n=>by simp[yD,lF]
 | x::l,n=>by
  rw[aBj]
  unfold yD
  by_cases h:x<n
  · rw[if_pos h,if_pos h,aHV l n]
    simp only[List.getElem?_cons_succ,List.take_succ_cons,List.drop_succ_cons]
    split <;> simp
  · rw[if_neg h,if_neg h]
    by_cases h2:x=n <;> simp[h2]
theorem aJy (l:List Int)(n:Int)(h:l.length<=4294967296):lp (eX l n) 0=some ((lF l n:Nat):Int):=by
 have main:∀ m k:Nat,m+k=l.length->lp (eX l n) (k:Int)=some ((k+lF (l.drop k) n:Nat):Int):=by
  intro m
  induction m with
  | zero =>
   intro k hk
   have:k=l.length:=by omega
   subst this
   rw[aF (r:=(l.length:Int)) (by unfold eX;rw[if_neg (by omega)];rfl),List.drop_length];simp[lF]
  | succ m ih =>
   intro k hk
   have hlt:k<l.length:=by omega
   rw[List.drop_eq_getElem_cons hlt,aBj]
   by_cases c:l[k]<n
   · rw[if_pos c]
     have e:eX l n (k:Int)=some (.inl ((k:Int)+1)):=by
      unfold eX
      rw[if_pos (by omega),aG hlt,wi (by omega)]
      simp[c]
     rw[aM e,show(k:Int)+1=((k+1:Nat):Int)by omega,ih (k+1) (by omega)]
     congr 2;omega
   · rw[if_neg c]
     have e:eX l n (k:Int)=some (.inr (k:Int)):=by
      unfold eX
      rw[if_pos (by omega),aG hlt]
      simp[c]
     rw[aF e];simp
 have:=main l.length 0 (by omega)
 simpa using this
theorem aFX (l:List Int)(n:Int)(h:l.length<=4294967296):kQ l n=some (yD l n):=by
 have hf:=aHs l n
 unfold kQ
 rw[aJy l n h,aHV]
 simp only[Option.bind_some]
 by_cases hlt:lF l n<l.length
 · rw[if_pos (by omega),aG hlt,List.getElem?_eq_getElem hlt]
   simp only[Option.bind_some,decide_eq_true_eq,Option.some.injEq]
   by_cases c:l[lF l n]=n
   · rw[if_pos c,if_pos c]
   · rw[if_neg c,if_neg c,kV _ _ _ (by omega),kV _ _ _ (by omega)]
     simp only[Option.bind_some,aI,List.nil_append]
     rw[aJ (by simp;omega),aJ (by simp;omega),aJ (by simp;omega)]
     simp only[Option.bind_some]
     simp
     rw[List.take_of_length_le (by simp)]
 · have:lF l n=l.length:=by omega
   rw[if_neg (by omega),this,if_neg (by simp)]
   simp only[Option.bind_some,Bool.false_eq_true,if_false]
   rw[kV _ _ _ (by omega),kV _ _ _ (by omega)]
   simp only[Option.bind_some,aI,List.nil_append]
   rw[aJ (by simp;omega),aJ (by simp;omega),aJ (by simp;omega)]
   simp
end Go.Ev
/- The arms of a node of a link set, both programs. -/
namespace Go.Ev
set_option linter.all false
def pV (v:Int)(l:Link):Int:=if l.fA=v then l.fB else l.fA
def tch (v:Int)(l:Link):Bool:=decide (l.fA=v\/l.fB=v)
noncomputable def yA (v:Int)(l:Link):l08Arm:=if l.fA=v then⟨l.fB,l.fWeight,RN l.fDX,RN l.fDY⟩else⟨l.fA,l.fWeight,l.fDX,l.fDY⟩
noncomputable def bC (v:Int)(s:List Link):List l08Arm:=(s.filter (tch v)).map (yA v)
theorem aHG (v:Int)(l:Link):(yA v l).fnode=pV v l:=by unfold yA pV;split <;> rfl
theorem aEx {s:List Link}(hs:LSet s)(v:Int):((s.filter (tch v)).map (pV v)).Pairwise (· < ·):=by
 rw[List.pairwise_map]
 refine List.Pairwise.imp_of_mem (fun {a b} ha hb hr=>?_) (hs.2.sublist List.filter_sublist)
 rw[List.mem_filter]at ha hb
 have h1:=hs.1 a ha.1
 have h2:=hs.1 b hb.1
 have t1:=ha.2
 have t2:=hb.2
 unfold tch at t1 t2
 rw[decide_eq_true_eq]at t1 t2
 unfold ValidL at h1 h2
 unfold dW at hr
 unfold pV
 split <;> split <;> omega
theorem aL8 {s:List Link}(hs:LSet s)(v:Int):wR s v=some ((s.filter (tch v)).map (pV v)):=by
 have hlen:=hs.len
 unfold wR
 obtain⟨e1,e2⟩:=mY (step:=oT s v) s (fun k t=>(t,(k:Int))) (fun t l=>if tch v l then yD t (pV v l)else t) (fun t=>t)
  (fun k t=>t.length<=k/\t.Pairwise (· < ·)/\∀ x,x∈t↔x∈((s.take k).filter (tch v)).map (pV v)) (fun k t hk hI=>by
   obtain⟨i1,i2,i3⟩:=hI
   have hv:=hs.1 _ (List.getElem_mem hk)
   have w1:IntKind.i64.wrap ((k:Int)+1)=((k+1:Nat):Int):=by rw[wi (by omega)];omega
   refine⟨?_,?_,?_,?_⟩
   · unfold oT
     simp only[]
     rw[if_pos (by omega),aG hk]
     unfold ValidL at hv
     simp only[Option.bind_some,aFX t _ (by omega:t.length<=4294967296),w1]
     by_cases A:(s[k]).fA=v
     · have B:¬(s[k]).fB=v:=by omega
       simp[A,B,tch,pV]
     · by_cases B:(s[k]).fB=v
       · rw[if_neg A]
         simp only[Option.bind_some]
         rw[if_pos B,aFX t _ (by omega:t.length<=4294967296)]
         simp[A,B,tch,pV]
       · simp[A,B,tch,pV]
   · have:=vV t (pV v s[k])
     split <;> omega
   · split
     · exact sA _ _ i2
     · exact i2
   · intro x
     have tk:s.take (k+1)=s.take k++[s[k]]:=by rw[List.take_add_one,List.getElem?_eq_getElem hk];rfl
     rw[tk,List.filter_append,List.map_append,List.mem_append,<- i3 x]
     by_cases T:tch v s[k]=true
     · simp only[T,if_true,vU,List.filter_cons_of_pos,List.filter_nil,List.map_cons,List.map_nil,List.mem_singleton]
       exact Or.comm
     · simp[T]) (fun t _=>by unfold oT;simp only[];rw[if_neg (by omega)]) [] ⟨by simp,List.Pairwise.nil,by simp⟩
 rw[show((0:Nat):Int)=0 from rfl]at e1
 rw[e1]
 simp only[Option.bind_some]
 congr 1
 obtain⟨_,g2,g3⟩:=e2
 rw[List.take_length]at g3
 exact wN g2 (aEx hs v) g3
theorem LSet.uniq {s:List Link}(hs:LSet s){a b:Link}(ha:a∈s)(hb:b∈s)(h1:a.fA=b.fA)(h2:a.fB=b.fB):a=b:=by
 obtain⟨i,hi,rfl⟩:=List.getElem_of_mem ha
 obtain⟨j,hj,rfl⟩:=List.getElem_of_mem hb
 have pw:=List.pairwise_iff_getElem.1 hs.2
 rcases Nat.lt_trichotomy i j with h | h | h
 · have:=pw i j hi hj h;unfold dW at this;omega
 · subst h;rfl
 · have:=pw j i hj hi h;unfold dW at this;omega
theorem aMf (p q r t:Prop)[Decidable p][Decidable q][Decidable r][Decidable t]:((if p then(if q then some true else(if r then some (decide t)else some false))else(if r then some (decide t)else some false)):Option Bool)=some (decide ((p/\q)\/(r/\t))):=by
 by_cases p <;> by_cases q <;> by_cases r <;> by_cases t <;> simp[*]
theorem aKJ {s:List Link}(hs:LSet s){v:Int}{l:Link}(hl:l∈s)(ht:tch v l=true):yK s (pV v l) v=some (l,true):=by
 have hlen:=hs.len
 have hv:=hs.1 l hl
 unfold yK
 rw[jL s (by have:=hs.sz;omega),decide_eq_true hs]
 simp only[Option.bind_some,if_true]
 obtain⟨r,e,q⟩:=aIN (step:=pT s (pV v l) v) s.length (fun r=>r=.inr (l,true)) (fun k=>l∈s.drop k) (by simpa using hl) (fun k hk hj=>by
  have hx:=hs.1 _ (List.getElem_mem hk)
  have w1:IntKind.i64.wrap ((k:Int)+1)=((k+1:Nat):Int):=by rw[wi (by omega)];omega
  rw[List.drop_eq_getElem_cons hk]at hj
  have st:pT s (pV v l) v (k:Int)=some (if(((s[k]).fA=pV v l/\(s[k]).fB=v)\/((s[k]).fA=v/\(s[k]).fB=pV v l))then .inr (.inr (s[k],true))else .inl ((k+1:Nat):Int)):=by
   unfold pT
   rw[if_pos (by omega),aG hk]
   simp only[Option.bind_some,w1,pR s[k] (by have:=hx.sz;omega)]
   rw[aMf]
   simp only[Option.bind_some]
   by_cases c:((s[k]).fA=pV v l/\(s[k]).fB=v)\/((s[k]).fA=v/\(s[k]).fB=pV v l)
   · rw[if_pos c,decide_eq_true c];rfl
   · rw[if_neg c,decide_eq_false c];rfl
  unfold tch at ht
  rw[decide_eq_true_eq]at ht
  unfold ValidL at hx hv
  by_cases c:((s[k]).fA=pV v l/\(s[k]).fB=v)\/((s[k]).fA=v/\(s[k]).fB=pV v l)
  · rw[if_pos c]at st
    right
    refine⟨_,st,?_⟩
    have:s[k]=l:=by
     refine hs.uniq (List.getElem_mem hk) hl ?_ ?_
     · unfold pV at c;split at c <;> omega
     · unfold pV at c;split at c <;> omega
    rw[this]
  · rw[if_neg c]at st
    left
    refine⟨st,?_⟩
    rcases List.mem_cons.1 hj with e | e
    · exfalso;apply c
      rw[<- e];unfold pV;split <;> omega
    · exact e) (fun hj=>by rw[List.drop_length]at hj;cases hj)
 rw[e,q];rfl
theorem aLS {r:Rat}(h:VZ r):VZ (RN r):=(aI9 h).2.2
def qN (a:l08Arm):Prop:=(0<=a.fnode/\a.fnode<=9)/\VZ a.fweight/\VZ a.fdx/\VZ a.fdy
theorem aGE {v:Int}{l:Link}(h:ValidL l):qN (yA v l):=by
 obtain⟨h1,h2,h3⟩:=h.vz
 unfold yA
 split
 · exact⟨h.2.1,h1,aLS h2,aLS h3⟩
 · exact⟨h.1,h1,h2,h3⟩
theorem aDP {s:List Link}(hs:LSet s)(v:Int):∀ a∈bC v s,qN a:=by
 intro a ha
 obtain⟨l,hl,rfl⟩:=List.mem_map.1 ha
 exact aGE (hs.1 l (List.mem_filter.1 hl).1)
theorem aAc {s:List Link}(hs:LSet s)(v:Int):(bC v s).length<=100:=by
 have:=hs.len
 have:=List.length_filter_le (tch v) s
 unfold bC
 rw[List.length_map];omega
theorem aI5 {s:List Link}(hs:LSet s)(v:Int):((bC v s).map (·.fnode)).Pairwise (· < ·):=by
 have:=aEx hs v
 unfold bC
 rw[List.map_map]
 have e:(fun a:l08Arm=>a.fnode) ∘ yA v=pV v:=by funext l;exact aHG v l
 rw[e];exact this
theorem aMr {s:List Link}(hs:LSet s)(v:Int):wQ s v=some (bC v s):=by
 have hal:=aAc hs v
 unfold wQ
 rw[aL8 hs v]
 simp only[Option.bind_some]
 have hfl:((s.filter (tch v)).map (pV v)).length=(bC v s).length:=by unfold bC;rw[List.length_map,List.length_map]
 have:=wC (step:=oS s v ((s.filter (tch v)).map (pV v))) (bC v s) (fun k t=>((k:Int),t)) (fun t=>t) (fun k t hk ht=>by
  have hk2:k<(s.filter (tch v)).length:=by unfold bC at hk;rwa [List.length_map]at hk
  have hk3:k<((s.filter (tch v)).map (pV v)).length:=by rwa [List.length_map]
  have hm:=List.mem_filter.1 (List.getElem_mem hk2)
  have w1:IntKind.i64.wrap ((k:Int)+1)=((k+1:Nat):Int):=by rw[wi (by omega)];omega
  have hv:=hs.1 _ hm.1
  obtain⟨v1,v2,v3⟩:=hv.vz
  have g:=aKJ hs hm.1 hm.2
  have ea:(bC v s)[k]=yA v (s.filter (tch v))[k]:=by simp only[bC,List.getElem_map]
  unfold oS
  simp only[]
  rw[if_pos (by omega),aG hk3,List.getElem_map]
  simp only[Option.bind_some,g,(aI9 v2).1,(aI9 v3).1,w1]
  rw[ea]
  unfold yA
  by_cases A:((s.filter (tch v))[k]).fA=v
  · rw[if_pos A,if_pos A]
    simp only[Option.bind_some,pV,A,if_true]
    rw[aJ (by omega)];rfl
  · rw[if_neg A,if_neg A]
    simp only[Option.bind_some,pV,A,if_false]
    rw[aJ (by omega)];rfl) (fun t ht=>by unfold oS;simp only[];rw[if_neg (by omega)])
 rw[show((0:Nat):Int)=0 from rfl]at this
 rw[this];rfl
end Go.Ev
/- Eliminating a node of a link set, both programs. -/
namespace Go.Ev
open IntKind
set_option linter.all false
noncomputable def oB (a:List l08Arm):Rat:=a.foldl (fun t a=>RA t a.fweight) (nX 0)
noncomputable def eO (t:Rat)(a:l08Arm):Parent:=⟨a.fnode,RD a.fweight t,a.fdx,a.fdy⟩
noncomputable def qL (t:Rat)(a b:l08Arm):Link:=⟨a.fnode,b.fnode,RD (RM a.fweight b.fweight) t,RS a.fdx b.fdx,RS a.fdy b.fdy⟩
noncomputable def gG (t:Rat):List l08Arm->List Link
 | []=>[]
 | a::r=>r.map (qL t a)++gG t r
noncomputable def aAA (v:Int)(a:List l08Arm):Conditional:=⟨v,oB a,a.map (eO (oB a))⟩
def condOk (v:Int)(a:List l08Arm):Prop:=dA (aAA v a)=some true
noncomputable instance (v:Int)(a:List l08Arm):Decidable (condOk v a):=Classical.propDecidable _
noncomputable def wF (v:Int)(s:List Link):Option (Conditional×List Link) :=
 if(1<=v/\v<=9)/\condOk v (bC v s)/\(∀ x∈gG (oB (bC v s)) (bC v s),ValidL x)then some (aAA v (bC v s),gG (oB (bC v s)) (bC v s))else none
theorem aFv {v:Int}{s:List Link}(h:(1<=v/\v<=9)/\condOk v (bC v s)/\(∀ x∈gG (oB (bC v s)) (bC v s),ValidL x)):wF v s=some (aAA v (bC v s),gG (oB (bC v s)) (bC v s)):=by unfold wF;rw[if_pos h]
theorem zY {v:Int}{s:List Link}(h:¬((1<=v/\v<=9)/\condOk v (bC v s)/\(∀ x∈gG (oB (bC v s)) (bC v s),ValidL x))):wF v s=none:=by unfold wF;rw[if_neg h]
def aCE:Conditional:=Conditional.mk 0 (Rat.mk (BigInt.mk false ([])) ([])) ([])
def pkE:Option (Conditional×List Link)->Conditional×List Link×Bool
 | some (c,m)=>(c,m,true)
 | none=>(aCE,[],false)
theorem aGt:∀ (a:List l08Arm) (t:Rat),(∀ x∈a,qN x)->VZ t->VZ (a.foldl (fun t a=>RA t a.fweight) t)
 | [],t,_,h=>h
 | x::a,t,ho,h=>aGt a _ (fun y hy=>ho y (by simp[hy])) (zI h (ho x (by simp)).2.1).2.2
theorem wL {a:List l08Arm}(h:∀ x∈a,qN x):VZ (oB a):=aGt a _ h (.inl zP)
theorem aDC {α β:Type}(g:α->β):∀ (l:List α) (t:List β),l.foldl (fun t b=>t++[g b]) t=t++l.map g
 | [],t=>by simp
 | x::l,t=>by rw[List.foldl_cons,aDC g l,List.map_cons,List.append_assoc];rfl
theorem aGa {t:Rat}{a b:l08Arm}(ht:VZ t)(ha:qN a)(hb:qN b):cI (qL t a b)<=144:=by
 have h1:=nI (aDU (aCv ha.2.1 hb.2.1).2.2 ht).2.2
 have h2:=nI (aFF ha.2.2.1 hb.2.2.1).2.2
 have h3:=nI (aFF ha.2.2.2 hb.2.2.2).2.2
 unfold cI qL;simp only[];omega
theorem aH5 {t:Rat}(ht:VZ t):∀ {a:List l08Arm},(∀ x∈a,qN x)->∀ x∈gG t a,cI x<=144
 | [],_,x,hx=>by cases hx
 | a::r,h,x,hx=>by
  rw[gG]at hx
  rcases List.mem_append.1 hx with hx | hx
  · obtain⟨b,hb,rfl⟩:=List.mem_map.1 hx
    exact aGa ht (h a (by simp)) (h b (by simp[hb]))
  · exact aH5 ht (fun y hy=>h y (by simp[hy])) x hx
theorem aDi (t:Rat):∀ {a:List l08Arm} {n:Nat},a.length<=n->(gG t a).length<=n*a.length
 | [],n,_=>by simp[gG]
 | a::r,n,h=>by
  rw[List.length_cons]at h
  have:=aDi t (a:=r) (n:=n) (by omega)
  rw[gG,List.length_append,List.length_map,List.length_cons,Nat.mul_add,Nat.mul_one];omega
theorem aJU (t:Rat):∀ {a:List l08Arm} {x:Link},x∈gG t a->∃ y∈a,x.fA=y.fnode
 | [],x,hx=>by cases hx
 | a::r,x,hx=>by
  rw[gG]at hx
  rcases List.mem_append.1 hx with hx | hx
  · obtain⟨b,hb,rfl⟩:=List.mem_map.1 hx
    exact⟨a,by simp,rfl⟩
  · obtain⟨y,hy,e⟩:=aJU t hx
    exact⟨y,by simp[hy],e⟩
theorem aGc (t:Rat):∀ {a:List l08Arm},(a.map (·.fnode)).Pairwise (· < ·)->(gG t a).Pairwise dW
 | [],_=>List.Pairwise.nil
 | a::r,h=>by
  rw[List.map_cons,List.pairwise_cons]at h
  rw[gG,List.pairwise_append]
  refine⟨?_,aGc t h.2,fun x hx y hy=>?_⟩
  · rw[List.pairwise_map]
    have:=h.2
    rw[List.pairwise_map]at this
    exact this.imp (fun {b c} hbc=>.inr ⟨rfl,hbc⟩)
  · obtain⟨b,hb,rfl⟩:=List.mem_map.1 hx
    obtain⟨z,hz,e⟩:=aJU t hy
    exact .inl (by rw[e];exact h.1 _ (List.mem_map.2 ⟨z,hz,rfl⟩))
theorem aEA {t:Rat}{a:List l08Arm}(h:(a.map (·.fnode)).Pairwise (· < ·)):LSet (gG t a)↔∀ x∈gG t a,ValidL x:=⟨fun g=>g.1,fun g=>⟨g,aGc t h⟩⟩
theorem aIW {a:List l08Arm}(ha:∀ x∈a,qN x)(hl:a.length<=100):lp (fM a) (0,nX 0)=some (oB a):=by
 have:=(mY (step:=fM a) a (fun k t=>((k:Int),t)) (fun t a=>RA t a.fweight) (fun t=>t) (fun _ t=>VZ t) (fun k t hk hi=>by
  have w1:i64.wrap ((k:Int)+1)=((k+1:Nat):Int):=by rw[wi (by omega)];omega
  obtain⟨q1,_,q3⟩:=zI hi (ha _ (List.getElem_mem hk)).2.1
  refine⟨?_,q3⟩
  unfold fM
  simp only[]
  rw[if_pos (by omega),aG hk]
  simp only[Option.bind_some,q1,w1]) (fun t _=>by unfold fM;simp only[];rw[if_neg (by omega)]) (nX 0) (.inl zP)).1
 rw[show((0:Nat):Int)=0 from rfl]at this
 exact this
theorem aIY {a:List l08Arm}{t:Rat}(ht:VZ t)(ha:∀ x∈a,qN x)(hl:a.length<=100):lp (fL a t) (0,[])=some (a.map (eO t)):=by
 have:=wC (step:=fL a t) (a.map (eO t)) (fun k t=>((k:Int),t)) (fun t=>t) (fun k u hk hu=>by
  have hk2:k<a.length:=by rwa [List.length_map]at hk
  have w1:i64.wrap ((k:Int)+1)=((k+1:Nat):Int):=by rw[wi (by omega)];omega
  have ho:=ha _ (List.getElem_mem hk2)
  have q:=(aDU ho.2.1 ht).1
  unfold fL
  simp only[]
  rw[if_pos (by omega),aG hk2]
  simp only[Option.bind_some,q,mO _ (VZs ho.2.2.1),mO _ (VZs ho.2.2.2),w1]
  rw[aJ (by omega)]
  simp only[Option.bind_some,qX,List.getElem_map]
  rfl) (fun u hu=>by unfold fL;simp only[];rw[List.length_map,if_neg (by omega)])
 rw[show((0:Nat):Int)=0 from rfl]at this
 exact this
theorem aIX {r:List l08Arm}{x:l08Arm}{t:Rat}(ht:VZ t)(hx:qN x)(hr:∀ y∈r,qN y)(hl:r.length<=100)(acc:List Link)(hacc:acc.length<=1000000) :
 lp (fK r x t) (0,acc)=some (acc++r.map (qL t x)):=by
 have:=(mY (step:=fK r x t) r (fun k u=>((k:Int),u)) (fun u b=>u++[qL t x b]) (fun u=>u) (fun k u=>u.length<=1000000+k) (fun k u hk hi=>by
  have w1:i64.wrap ((k:Int)+1)=((k+1:Nat):Int):=by rw[wi (by omega)];omega
  have ho:=hr _ (List.getElem_mem hk)
  have q0:=aCv hx.2.1 ho.2.1
  have q1:=(aDU q0.2.2 ht).1
  have q2:=(aFF hx.2.2.1 ho.2.2.1).1
  have q3:=(aFF hx.2.2.2 ho.2.2.2).1
  refine⟨?_,by rw[List.length_append,List.length_singleton];omega⟩
  unfold fK
  simp only[]
  rw[if_pos (by omega),aG hk]
  simp only[Option.bind_some,q0.1,q1,q2,q3,w1]
  rw[aJ (by omega)]
  rfl) (fun u _=>by unfold fK;simp only[];rw[if_neg (by omega)]) acc (by omega)).1
 rw[show((0:Nat):Int)=0 from rfl,aDC]at this
 exact this
theorem aJi {α:Type}(l:List α)(k:Nat)(hk:k+1<=l.length)(hl:l.length<=4294967296):sub l (i64.wrap ((k:Int)+1)) (l.length:Int)=some (l.drop (k+1)):=by
 have w1:i64.wrap ((k:Int)+1)=((k+1:Nat):Int):=by rw[wi (by omega)];omega
 rw[w1,kV _ _ _ (by omega)];congr 1
 rw[List.take_of_length_le];rfl
 rw[List.length_drop];omega
theorem aHt {a:List l08Arm}{t:Rat}(ht:VZ t)(ha:∀ x∈a,qN x)(hl:a.length<=100):lp (dZ a t) (0,[])=some (gG t a):=by
 have main:∀ m k:Nat,m+k=a.length->∀ acc:List Link,acc.length<=100*k->lp (dZ a t) ((k:Int),acc)=some (acc++gG t (a.drop k)):=by
  intro m
  induction m with
  | zero =>
   intro k hk acc hacc
   rw[List.drop_eq_nil_of_le (by omega),gG,List.append_nil]
   exact aF (by unfold dZ;simp only[];rw[if_neg (by omega)])
  | succ m ih =>
   intro k hk acc hacc
   have hlt:k<a.length:=by omega
   have w1:i64.wrap ((k:Int)+1)=((k+1:Nat):Int):=by rw[wi (by omega)];omega
   rw[List.drop_eq_getElem_cons hlt,gG]
   have row:=aIX (r:=a.drop (k+1)) ht (ha _ (List.getElem_mem hlt)) (fun y hy=>ha y (List.mem_of_mem_drop hy)) (by rw[List.length_drop];omega) acc (by omega)
   have st:dZ a t ((k:Int),acc)=some (.inl (((k+1:Nat):Int),acc++(a.drop (k+1)).map (qL t a[k]))):=by
    unfold dZ
    simp only[]
    rw[if_pos (by omega),aG hlt,aJi a k (by omega) (by omega)]
    simp only[Option.bind_some,row,w1]
   rw[aM st,ih (k+1) (by omega) _ (by rw[List.length_append,List.length_map,List.length_drop];omega),List.append_assoc]
 have:=main a.length 0 (by omega) [] (by simp)
 rw[show((0:Nat):Int)=0 from rfl,List.drop_zero,List.nil_append]at this
 exact this
theorem aFx {v:Int}{a:List l08Arm}(ha:∀ x∈a,qN x)(hl:a.length<=100):aV (aAA v a)<=4294967296:=by
 have h1:=nI (wL ha)
 have h2:mJ (a.map (eO (oB a)))<=145*(a.map (eO (oB a))).length:=aBw (c:=144) (fun p hp=>by
  obtain⟨x,hx,rfl⟩:=List.mem_map.1 hp
  have ho:=ha x hx
  have g1:=nI (aDU ho.2.1 (wL ha)).2.2
  have g2:=nI ho.2.2.1
  have g3:=nI ho.2.2.2
  unfold kU eO;simp only[];omega)
 rw[List.length_map]at h2
 unfold aV aAA;simp only[];omega
theorem aLh {s:List Link}(hs:LSet s)(v:Int):oZ s v=some (pkE (wF v s)):=by
 have ha:=aDP hs v
 have hl:=aAc hs v
 have ht:=wL ha
 obtain⟨b,b1,b2,_⟩:=aIn _ (aFx (v:=v) ha hl)
 have inc:=aI5 hs v
 unfold oZ
 rw[jL s (by have:=hs.sz;omega),decide_eq_true hs,xF]
 simp only[Option.bind_some,if_true]
 by_cases c:1<=v/\v<=9
 · rw[decide_eq_true c]
   simp only[Bool.not_true,Bool.false_eq_true,if_false]
   rw[aMr hs v,bL 0 (by omega)]
   simp only[Option.bind_some]
   rw[aIW ha hl]
   simp only[Option.bind_some]
   rw[aIY ht ha hl]
   simp only[Option.bind_some]
   rw[aHt ht ha hl]
   simp only[Option.bind_some]
   have e:(Conditional.mk v (oB (bC v s)) ((bC v s).map (eO (oB (bC v s)))))=aAA v (bC v s):=rfl
   rw[e,b1]
   simp only[Option.bind_some]
   have hms:=aBw (aH5 ht ha)
   have hml:=aDi (oB (bC v s)) (a:=bC v s) (Nat.le_refl _)
   have hm2:(bC v s).length*(bC v s).length<=100*100:=Nat.mul_le_mul hl hl
   rw[jL _ (by unfold aW;omega)]
   cases b with
   | false =>
    have:¬condOk v (bC v s):=by unfold condOk;rw[b1];simp
    rw[zY (fun h=>this h.2.1)];rfl
   | true =>
    have hc:condOk v (bC v s):=b1
    simp only[if_true,Option.bind_some]
    by_cases d:∀ x∈gG (oB (bC v s)) (bC v s),ValidL x
    · rw[decide_eq_true ((aEA inc).2 d),aFv ⟨c,hc,d⟩];rfl
    · rw[decide_eq_false (fun h=>d ((aEA inc).1 h)),zY (fun h=>d h.2.2)];rfl
 · rw[decide_eq_false c]
   rw[zY (fun h=>c h.1)];rfl
def tO (a:l08Arm):Parent:=⟨a.fnode,lI,a.fdx,a.fdy⟩
theorem aHF (v:Int)(s:List Link)(k:Nat)(hk:k<s.length):bC v (s.take (k+1))=bC v (s.take k)++(if tch v s[k]then [yA v s[k]]else []):=by
 have tk:s.take (k+1)=s.take k++[s[k]]:=by rw[List.take_add_one,List.getElem?_eq_getElem hk];rfl
 unfold bC
 rw[tk,List.filter_append,List.map_append]
 congr 1
 by_cases c:tch v s[k] <;> simp[c]
theorem aHv {s:List Link}(hs:LSet s)(v:Int):lp (cX s v) (0,nX 0,[],[])=some (oB (bC v s),(bC v s).map (·.fweight),(bC v s).map tO):=by
 have hlen:=hs.len
 have hpre:∀ k,∀ a∈bC v (s.take k),qN a:=fun k a ha=>by
  obtain⟨l,hl,rfl⟩:=List.mem_map.1 ha
  exact aGE (hs.1 l (List.mem_of_mem_take (List.mem_filter.1 hl).1))
 have hpl:∀ k,(bC v (s.take k)).length<=100:=fun k=>by
  have:=List.length_filter_le (tch v) (s.take k)
  have h2:(s.take k).length<=s.length:=by rw[List.length_take];omega
  unfold bC;rw[List.length_map];omega
 have main:∀ m k:Nat,m+k=s.length->lp (cX s v) ((k:Int),oB (bC v (s.take k)),(bC v (s.take k)).map (·.fweight),(bC v (s.take k)).map tO)=some (oB (bC v s),(bC v s).map (·.fweight),(bC v s).map tO):=by
  intro m
  induction m with
  | zero =>
   intro k hk
   rw[List.take_of_length_le (by omega)]
   exact aF (by unfold cX;simp only[];rw[if_neg (by omega)])
  | succ m ih =>
   intro k hk
   have hlt:k<s.length:=by omega
   have w1:i64.wrap ((k:Int)+1)=((k+1:Nat):Int):=by rw[wi (by omega)];omega
   have hv:=hs.1 _ (List.getElem_mem hlt)
   obtain⟨v1,v2,v3⟩:=hv.vz
   have n1:=(aI9 v2).2.1
   have n2:=(aI9 v3).2.1
   have ra:=(zI (wL (hpre k)) v1).2.1
   have hp:=hpl k
   have st:cX s v ((k:Int),oB (bC v (s.take k)),(bC v (s.take k)).map (·.fweight),(bC v (s.take k)).map tO)=some (.inl (((k+1:Nat):Int),oB (bC v (s.take (k+1))),(bC v (s.take (k+1))).map (·.fweight),(bC v (s.take (k+1))).map tO)):=by
    rw[aHF v s k hlt]
    unfold cX
    simp only[]
    rw[if_pos (by omega),aG hlt]
    simp only[Option.bind_some,n1,n2,ra,w1]
    have k1:∀ {α:Type} {f:l08Arm->α},((bC v (s.take k)).map f).length<=100:=by intro α f;rw[List.length_map];exact hp
    by_cases A:(s[k]).fA=v
    · rw[if_pos A,aJ (by have:=k1 (f:=tO);omega)]
      simp only[Option.bind_some,qX]
      rw[aJ (by have:=k1 (f:=fun a=>a.fweight);omega)]
      simp[tch,A,yA,oB,tO,lI,ra]
    · by_cases B:(s[k]).fB=v
      · rw[if_neg A,if_pos B,aJ (by have:=k1 (f:=tO);omega)]
        simp only[Option.bind_some,qX]
        rw[aJ (by have:=k1 (f:=fun a=>a.fweight);omega)]
        simp[tch,A,B,yA,oB,tO,lI,ra]
      · simp[tch,A,B]
   rw[aM st]
   exact ih (k+1) (by omega)
 have:=main s.length 0 (by omega)
 simpa [bC,oB]using this
theorem aI0 {a:List l08Arm}{t:Rat}(ht:VZ t)(ha:∀ x∈a,qN x)(hl:a.length<=100):lp (cW (t,a.map (·.fweight),a.map tO)) (0,a.map tO)=some (a.map (eO t)):=by
 have main:∀ m k:Nat,m+k=a.length->lp (cW (t,a.map (·.fweight),a.map tO)) ((k:Int),(a.take k).map (eO t)++(a.drop k).map tO)=some (a.map (eO t)):=by
  intro m
  induction m with
  | zero =>
   intro k hk
   refine aF ?_
   unfold cW
   simp only[List.length_map]
   rw[if_neg (by omega),List.drop_eq_nil_of_le (by omega),List.take_of_length_le (by omega)]
   simp
  | succ m ih =>
   intro k hk
   have hlt:k<a.length:=by omega
   have w1:i64.wrap ((k:Int)+1)=((k+1:Nat):Int):=by rw[wi (by omega)];omega
   have ho:=ha _ (List.getElem_mem hlt)
   have q:=(aDU ho.2.1 ht).2.1
   have tl:((a.take k).map (eO t)).length=k:=by rw[List.length_map,List.length_take];omega
   have e1:idx (a.map (fun x=>x.fweight)) (k:Int)=some (a[k]).fweight:=by rw[aG (by rwa [List.length_map]),List.getElem_map]
   have e2:idx ((a.take k).map (eO t)++(a.drop k).map tO) (k:Int)=some (tO a[k]):=by
    rw[aFt,List.getElem?_append_right (by omega),tl,Nat.sub_self,List.drop_eq_getElem_cons hlt];rfl
   have e3:tK ((a.take k).map (eO t)++(a.drop k).map tO) (k:Int) (eO t a[k])=(a.take (k+1)).map (eO t)++(a.drop (k+1)).map tO:=by
    rw[mU,List.set_append_right _ _ (by omega),tl,Nat.sub_self,List.drop_eq_getElem_cons hlt,List.map_cons,List.set_cons_zero,List.take_add_one,List.getElem?_eq_getElem hlt,List.map_append,List.append_assoc]
    rfl
   have st:cW (t,a.map (·.fweight),a.map tO) ((k:Int),(a.take k).map (eO t)++(a.drop k).map tO)=some (.inl (((k+1:Nat):Int),(a.take (k+1)).map (eO t)++(a.drop (k+1)).map tO)):=by
    unfold cW
    simp only[List.length_map]
    rw[if_pos (by omega),e1]
    simp only[Option.bind_some,q,e2,qX,w1]
    have:(Parent.mk (tO a[k]).fNode (RD (a[k]).fweight t) (tO a[k]).fDX (tO a[k]).fDY)=eO t a[k]:=rfl
    rw[this,e3]
   rw[aM st]
   exact ih (k+1) (by omega)
 have:=main a.length 0 (by omega)
 simpa using this
def aCU (t:Rat)(x:l08Arm)(r:List l08Arm):Prop:=∀ y∈r,ValidL (qL t x y)
noncomputable instance (t:Rat)(x:l08Arm)(r:List l08Arm):Decidable (aCU t x r):=Classical.propDecidable _
theorem aIZ {a:List l08Arm}{t:Rat}(ht:VZ t)(ha:∀ x∈a,qN x)(hl:a.length<=100)(q0:List Parent)(i:Nat)(hi:i<a.length):∀ m j:Nat,m+j=a.length->∀ acc:List Link,acc.length<=1000000+j->
 lp (eA (a.map (eO t)) (t,a.map (·.fweight),q0) (i:Int) (eO t a[i])) ((j:Int),acc)=some (if aCU t a[i] (a.drop j)then .inl (acc++(a.drop j).map (qL t a[i]))else .inr (aCE,[],false)):=by
 intro m
 induction m with
 | zero =>
  intro j hj acc hacc
  rw[List.drop_eq_nil_of_le (by omega),if_pos (by intro y hy;cases hy),List.map_nil,List.append_nil]
  exact aF (by unfold eA;simp only[List.length_map];rw[if_neg (by omega)])
 | succ m ih =>
  intro j hj acc hacc
  have hlt:j<a.length:=by omega
  have w1:i64.wrap ((j:Int)+1)=((j+1:Nat):Int):=by rw[wi (by omega)];omega
  have hx:=ha _ (List.getElem_mem hi)
  have ho:=ha _ (List.getElem_mem hlt)
  have p0:=aCv hx.2.1 ho.2.1
  have p1:=(aDU p0.2.2 ht).2.1
  have p2:=(aFF hx.2.2.1 ho.2.2.1).2.1
  have p3:=(aFF hx.2.2.2 ho.2.2.2).2.1
  have vl:=(gB (qL t a[i] a[j]) (by have:=aGa ht hx ho;omega)).2
  have e0:idx (a.map (eO t)) (j:Int)=some (eO t a[j]):=by rw[aG (by rwa [List.length_map]),List.getElem_map]
  have e1:idx (a.map (fun x=>x.fweight)) (i:Int)=some (a[i]).fweight:=by rw[aG (by rwa [List.length_map]),List.getElem_map]
  have e2:idx (a.map (fun x=>x.fweight)) (j:Int)=some (a[j]).fweight:=by rw[aG (by rwa [List.length_map]),List.getElem_map]
  have st:eA (a.map (eO t)) (t,a.map (·.fweight),q0) (i:Int) (eO t a[i]) ((j:Int),acc)=some (if ValidL (qL t a[i] a[j])then .inl (((j+1:Nat):Int),acc++[qL t a[i] a[j]])else .inr (.inr (aCE,[],false))):=by
   unfold eA
   simp only[List.length_map]
   rw[if_pos (by omega),e0,e1,e2]
   simp only[Option.bind_some,p0.2.1,p1,w1]
   have f1:(eO t a[i]).fDX=(a[i]).fdx:=rfl
   have f2:(eO t a[i]).fDY=(a[i]).fdy:=rfl
   have f3:(eO t a[j]).fDX=(a[j]).fdx:=rfl
   have f4:(eO t a[j]).fDY=(a[j]).fdy:=rfl
   rw[f1,f2,f3,f4,p2]
   simp only[Option.bind_some]
   rw[p3]
   simp only[Option.bind_some]
   have f5:(Link.mk (eO t a[i]).fNode (eO t a[j]).fNode (RD (RM (a[i]).fweight (a[j]).fweight) t) (RS (a[i]).fdx (a[j]).fdx) (RS (a[i]).fdy (a[j]).fdy))=qL t a[i] a[j]:=rfl
   rw[f5,vl]
   simp only[Option.bind_some]
   by_cases c:ValidL (qL t a[i] a[j])
   · rw[decide_eq_true c,if_pos rfl,if_pos c,aJ (by omega)];rfl
   · rw[decide_eq_false c,if_neg c];rfl
  rw[List.drop_eq_getElem_cons hlt]
  by_cases c:ValidL (qL t a[i] a[j])
  · rw[if_pos c]at st
    rw[aM st,ih (j+1) (by omega) _ (by rw[List.length_append,List.length_singleton];omega)]
    have:aCU t a[i] (a[j]::a.drop (j+1))↔aCU t a[i] (a.drop (j+1)):=⟨fun h x hx'=>h x (List.mem_cons_of_mem _ hx'),fun h x hx'=>by rcases List.mem_cons.1 hx' with rfl | h';exact c;exact h x h'⟩
    simp only[this,List.map_cons,List.append_assoc,List.singleton_append]
  · rw[if_neg c]at st
    rw[aF st,if_neg (fun h=>c (h _ List.mem_cons_self))]
theorem aHu {a:List l08Arm}{t:Rat}(ht:VZ t)(ha:∀ x∈a,qN x)(hl:a.length<=100)(q0:List Parent):lp (cV (a.map (eO t)) (t,a.map (·.fweight),q0)) (0,[])=some (if ∀ x∈gG t a,ValidL x then .inl (gG t a)else .inr (aCE,[],false)):=by
 have main:∀ m k:Nat,m+k=a.length->∀ acc:List Link,acc.length<=100*k->lp (cV (a.map (eO t)) (t,a.map (·.fweight),q0)) ((k:Int),acc)=some (if ∀ x∈gG t (a.drop k),ValidL x then .inl (acc++gG t (a.drop k))else .inr (aCE,[],false)):=by
  intro m
  induction m with
  | zero =>
   intro k hk acc hacc
   rw[List.drop_eq_nil_of_le (by omega),if_pos (by simp[gG]),gG,List.append_nil]
   exact aF (by unfold cV;simp only[List.length_map];rw[if_neg (by omega)])
  | succ m ih =>
   intro k hk acc hacc
   have hlt:k<a.length:=by omega
   have w1:i64.wrap ((k:Int)+1)=((k+1:Nat):Int):=by rw[wi (by omega)];omega
   have e0:idx (a.map (eO t)) (k:Int)=some (eO t a[k]):=by rw[aG (by rwa [List.length_map]),List.getElem_map]
   have row:=aIZ ht ha hl q0 k hlt (a.length-(k+1)) (k+1) (by omega) acc (by omega)
   rw[List.drop_eq_getElem_cons hlt,gG]
   have st:cV (a.map (eO t)) (t,a.map (·.fweight),q0) ((k:Int),acc)=some (if aCU t a[k] (a.drop (k+1))then .inl (((k+1:Nat):Int),acc++(a.drop (k+1)).map (qL t (a[k]'hlt)))else .inr (.inr (aCE,[],false))):=by
    unfold cV
    simp only[List.length_map]
    rw[if_pos (by omega),e0]
    simp only[Option.bind_some,w1,row]
    by_cases c:aCU t a[k] (a.drop (k+1))
    · rw[if_pos c,if_pos c]
    · rw[if_neg c,if_neg c]
   by_cases c:aCU t a[k] (a.drop (k+1))
   · rw[if_pos c]at st
     rw[aM st,ih (k+1) (by omega) _ (by rw[List.length_append,List.length_map,List.length_drop];omega)]
     have:(∀ x∈(a.drop (k+1)).map (qL t a[k])++gG t (a.drop (k+1)),ValidL x)↔∀ x∈gG t (a.drop (k+1)),ValidL x:=⟨fun h x hx=>h x (List.mem_append_right _ hx),fun h x hx=>by
      rcases List.mem_append.1 hx with hx | hx
      · obtain⟨y,hy,rfl⟩:=List.mem_map.1 hx;exact c y hy
      · exact h x hx⟩
     simp only[this,List.append_assoc]
   · rw[if_neg c]at st
     rw[aF st,if_neg]
     intro h
     exact c fun y hy=>h _ (List.mem_append_left _ (List.mem_map.2 ⟨y,hy,rfl⟩))
 have:=main a.length 0 (by omega) [] (by simp)
 rw[show((0:Nat):Int)=0 from rfl,List.drop_zero,List.nil_append]at this
 exact this
theorem aLi {s:List Link}(hs:LSet s)(v:Int):iM s v=some (pkE (wF v s)):=by
 have ha:=aDP hs v
 have hl:=aAc hs v
 have ht:=wL ha
 obtain⟨b,b1,b2,_⟩:=aIn _ (aFx (v:=v) ha hl)
 unfold iM
 have e0:((if v<1 then some true else some (decide (10<=v))):Option Bool)=some (!decide (1<=v/\v<=9)):=by
  by_cases A:v<1
  · have:¬1<=v:=by omega
    simp[A,this]
  · by_cases B:10<=v
    · have:¬v<=9:=by omega
      simp[A,B,this]
    · have h1:1<=v:=by omega
      have h2:v<=9:=by omega
      simp[A,B,h1,h2]
 rw[e0]
 simp only[Option.bind_some]
 by_cases c:1<=v/\v<=9
 · rw[decide_eq_true c]
   simp only[Bool.not_true,Bool.false_eq_true,if_false]
   rw[jJ 0 (by omega)]
   simp only[Option.bind_some]
   rw[aHv hs v]
   simp only[Option.bind_some]
   rw[aI0 ht ha hl]
   simp only[Option.bind_some]
   have e:(Conditional.mk v (oB (bC v s)) ((bC v s).map (eO (oB (bC v s)))))=aAA v (bC v s):=rfl
   rw[e,b2]
   simp only[Option.bind_some]
   cases b with
   | false =>
    have:¬condOk v (bC v s):=by unfold condOk;rw[b1];simp
    rw[zY (fun h=>this h.2.1)];rfl
   | true =>
    have hc:condOk v (bC v s):=b1
    simp only[if_true]
    rw[aHu ht ha hl]
    by_cases d:∀ x∈gG (oB (bC v s)) (bC v s),ValidL x
    · rw[if_pos d,aFv ⟨c,hc,d⟩];rfl
    · rw[if_neg d,zY (fun h=>d h.2.2)];rfl
 · rw[decide_eq_false c]
   rw[zY (fun h=>c h.1)];rfl
end Go.Ev
/- Reducing a node of a link set and a node of a tree, both programs. -/
namespace Go.Ev
set_option linter.all false
theorem wi1 {k:Nat}(h:k<=4294967296):IntKind.i64.wrap ((k:Int)+1)=((k+1:Nat):Int):=by rw[wi (by omega)];omega
def vT (v:Int)(s:List Link):List Link:=s.filter (fun l=>!tch v l)
theorem tG {α:Type}(p:α->Bool):∀ (l t:List α),l.foldl (fun t x=>if p x=true then t++[x]else t) t=t++l.filter p
 | [],t=>by simp
 | x::l,t=>by
  rw[List.foldl_cons,tG p l,List.filter_cons]
  by_cases c:p x=true
  · simp only[c,if_true,List.append_assoc,List.singleton_append]
  · simp only[Bool.not_eq_true]at c;simp[c]
theorem aLC (v:Int)(l:Link):((if l.fA≠v then some (decide (l.fB≠v))else some false):Option Bool)=some (!tch v l):=by
 unfold tch;by_cases A:l.fA=v <;> by_cases B:l.fB=v <;> simp[A,B]
theorem aIt {s:List Link}(h:s.length<=4294967296)(v:Int):kF s v=some (vT v s):=by
 have:=(mY (step:=hC s v) s (fun k t=>((k:Int),t)) (fun t x=>if(fun l=>!tch v l) x=true then t++[x]else t) (fun t=>t) (fun k t=>t.length<=k) (fun k t hk hi=>by
  constructor
  · unfold hC
    simp only[]
    rw[if_pos (by omega),aG hk]
    simp only[Option.bind_some,aLC,wi1 (by omega:k<=4294967296)]
    by_cases c:tch v s[k]=true
    · rw[if_neg (by simp[c]),if_neg (by simp[c])]
    · rw[if_pos (by simpa using c),if_pos (by simpa using c),aJ (by omega)];rfl
  · simp only[];split
    · rw[List.length_append,List.length_singleton];omega
    · omega) (fun t _=>by unfold hC;simp only[];rw[if_neg (by omega)]) [] (Nat.zero_le _)).1
 rw[show((0:Nat):Int)=0 from rfl,tG,List.nil_append]at this
 unfold kF
 rw[this];rfl
theorem aI8 {s:List Link}(hs:LSet s)(v:Int):qR s v=some (vT v s):=by
 have hl:=hs.len
 have:=(mY (step:=jT s v) s (fun k t=>((k:Int),t)) (fun t x=>if(fun l=>!tch v l) x=true then t++[x]else t) (fun t=>t) (fun k t=>t.length<=k) (fun k t hk hi=>by
  constructor
  · unfold jT
    simp only[]
    rw[if_pos (by omega),aG hk]
    have cp:=pR s[k] (by have:=(hs.1 _ (List.getElem_mem hk)).sz;omega)
    simp only[Option.bind_some,aLC,wi1 (by omega:k<=4294967296),cp]
    by_cases c:tch v s[k]=true
    · rw[if_neg (by simp[c]),if_neg (by simp[c])]
    · rw[if_pos (by simpa using c),if_pos (by simpa using c),aJ (by omega)];rfl
  · simp only[];split
    · rw[List.length_append,List.length_singleton];omega
    · omega) (fun t _=>by unfold jT;simp only[];rw[if_neg (by omega)]) [] (Nat.zero_le _)).1
 rw[show((0:Nat):Int)=0 from rfl,tG,List.nil_append]at this
 unfold qR
 rw[jL s (by have:=hs.sz;omega),decide_eq_true hs]
 simp only[Option.bind_some,if_true,this]
 rfl
noncomputable def aC0 (v:Int)(s:List Link):Option (Conditional×List Link×Rat) :=
 (wF v s).bind fun x=>(jnP (vT v s++x.2)).map fun y=>(x.1,y.1,y.2)
def pkR:Option (Conditional×List Link×Rat)->Conditional×List Link×Rat×Bool
 | some (c,m,e)=>(c,m,e,true)
 | none=>(aCE,[],lI,false)
theorem aGv {v:Int}{s:List Link}(hs:LSet s){c:Conditional}{m:List Link}(h:wF v s=some (c,m)):(∀ x∈m,ValidL x)/\m.length<=10000/\aV c<=20000/\(1<=v/\v<=9):=by
 unfold wF at h
 split at h
 · rename_i g
   cases h
   have ha:=aDP hs v
   have hl:=aAc hs v
   have h1:=aDi (oB (bC v s)) (a:=bC v s) (Nat.le_refl _)
   have h2:(bC v s).length*(bC v s).length<=100*100:=Nat.mul_le_mul hl hl
   have g1:=nI (wL ha)
   have g2:mJ ((bC v s).map (eO (oB (bC v s))))<=145*((bC v s).map (eO (oB (bC v s)))).length:=aBw (c:=144) (fun p hp=>by
    obtain⟨x,hx,rfl⟩:=List.mem_map.1 hp
    have ho:=ha x hx
    have g1:=nI (aDU ho.2.1 (wL ha)).2.2
    have g2:=nI ho.2.2.1
    have g3:=nI ho.2.2.2
    unfold kU eO;simp only[];omega)
   rw[List.length_map]at g2
   refine⟨g.2.2,by omega,?_,g.1⟩
   unfold aV aAA;simp only[];omega
 · cases h
theorem aJs {v:Int}{s:List Link}(hs:LSet s):(∀ x∈vT v s,ValidL x)/\(vT v s).length<=100:=by
 have:=List.length_filter_le (fun l=>!tch v l) s
 have:=hs.len
 exact⟨fun x hx=>hs.1 x (List.mem_filter.1 hx).1,by unfold vT;omega⟩
theorem aCZ {s:List Link}(hs:LSet s)(v:Int):sI s v=some (pkR (aC0 v s))/\lS s v=some (pkR (aC0 v s)):=by
 unfold sI lS aC0
 rw[aLh hs,aLi hs]
 cases h:wF v s with
 | none=>exact⟨rfl,rfl⟩
 | some x =>
  obtain⟨c,m⟩:=x
  obtain⟨m1,m2,m3,_⟩:=aGv hs h
  obtain⟨r1,r2⟩:=aJs (v:=v) hs
  have hall:∀ x∈vT v s++m,ValidL x:=fun x hx=>(List.mem_append.1 hx).elim (r1 x) (m1 x)
  have hlen:(vT v s++m).length<=20000:=by rw[List.length_append];omega
  have hsz:=zM hall
  have j1:=(uU (vT v s++m) (by omega)).1
  have j2:=yX hall (by omega)
  simp only[pkE,Option.bind_some,if_true]
  rw[aI8 hs,aIt (by have:=hs.len;omega)]
  simp only[Option.bind_some]
  rw[aJ (by omega)]
  simp only[Option.bind_some,qX,j1,j2]
  cases jnP (vT v s++m)with
  | none=>exact⟨rfl,rfl⟩
  | some y=>exact⟨rfl,rfl⟩
theorem aFe {v:Int}{s:List Link}(hs:LSet s){c:Conditional}{m:List Link}{e:Rat}(h:aC0 v s=some (c,m,e)):aV c<=20000/\LSet m/\bA e/\c.fNode=v:=by
 unfold aC0 at h
 cases h1:wF v s with
 | none=>rw[h1]at h;cases h
 | some x =>
  rw[h1]at h
  cases h2:jnP (vT v s++x.2)with
  | none=>rw[Option.bind_some,h2]at h;cases h
  | some y =>
   rw[Option.bind_some,h2]at h
   cases h
   have:=yY (s:=y.1) (e:=y.2) h2
   refine⟨(aGv hs (c:=x.1) (m:=x.2) h1).2.2.1,this.2.1,this.2.2,?_⟩
   unfold wF at h1
   split at h1
   · cases h1;rfl
   · cases h1
end Go.Ev
/- A node of a tree, both programs. -/
namespace Go.Ev
open IntKind
set_option linter.all false
def aR (l s:List Int):Int:=(l.find? (fun u=>decide (u∈s))).getD 0
theorem aIh (l s:List Int)(hl:l.length<=4294967296)(hs:s.length<=4294967296):rK l s=some (aR l s):=by
 have main:∀ m k:Nat,m+k=l.length->lp (iB l s) (k:Int)=some (match (l.drop k).find? (fun u=>decide (u∈s))with | some x=>.inr x | none=>.inl ()):=by
  intro m
  induction m with
  | zero =>
   intro k hk
   have:k=l.length:=by omega
   subst this
   rw[aF (r:=.inl ()) (by unfold iB;rw[if_neg (by omega)]),List.drop_length];rfl
  | succ m ih =>
   intro k hk
   have hlt:k<l.length:=by omega
   rw[List.drop_eq_getElem_cons hlt,List.find?_cons]
   by_cases c:l[k]∈s
   · rw[aF (r:=.inr l[k]) (by unfold iB;rw[if_pos (by omega),aG hlt];simp[aBd s _ hs,c])];simp[c]
   · have e:iB l s (k:Int)=some (.inl ((k+1:Nat):Int)):=by
      unfold iB;rw[if_pos (by omega),aG hlt];simp only[Option.bind_some,aBd s _ hs,wi1 (by omega:k<=4294967296)];simp[c]
     rw[aM e,ih (k+1) (by omega)]
     simp only[c,decide_false]
 have:=main l.length 0 (by omega)
 rw[show((0:Nat):Int)=0 from rfl,List.drop_zero]at this
 unfold rK aR
 rw[this]
 cases l.find? (fun u=>decide (u∈s)) <;> rfl
def aC8 (c:Conditional):List Int:=c.fParents.map (·.fNode)
def upP (order:List Int)(c:Conditional):Int:=aR order (aC8 c)
theorem aDE {α:Type}{p q:α->Bool}:∀ {l:List α},(∀ x∈l,p x=q x)->l.find? p=l.find? q
 | [],_=>rfl
 | x::l,h=>by rw[List.find?_cons,List.find?_cons,h x (by simp),aDE (fun y hy=>h y (by simp[hy]))]
theorem aNz {order:List Int}{c:Conditional}(ho:∀ u∈order,1<=u)(hl:order.length<=4294967296)(hc:c.fParents.length<=4294967296):aAE order c=some (upP order c):=by
 have:=(mY (step:=rJ c) c.fParents (fun k t=>((k:Int),t)) (fun t x=>if(fun p:Parent=>decide (0<p.fNode)) x=true then t++[x.fNode]else t) (fun t=>t) (fun k t=>t.length<=k) (fun k t hk hi=>by
  constructor
  · unfold rJ
    simp only[]
    rw[if_pos (by omega),aG hk]
    simp only[Option.bind_some,wi1 (by omega:k<=4294967296)]
    by_cases c0:0<(c.fParents[k]).fNode
    · rw[if_pos c0,if_pos (by simpa using c0),aJ (by omega)];rfl
    · rw[if_neg c0,if_neg (by simpa using c0)]
  · simp only[];split
    · rw[List.length_append,List.length_singleton];omega
    · omega) (fun t _=>by unfold rJ;simp only[];rw[if_neg (by omega)]) [] (Nat.zero_le _)).1
 rw[show((0:Nat):Int)=0 from rfl]at this
 have e:∀ (l:List Parent) (t:List Int),l.foldl (fun t x=>if(fun p:Parent=>decide (0<p.fNode)) x=true then t++[x.fNode]else t) t=t++(l.filter (fun p=>decide (0<p.fNode))).map (·.fNode):=by
  intro l
  induction l with
  | nil=>intro t;simp
  | cons x l ih =>
   intro t
   rw[List.foldl_cons,ih,List.filter_cons]
   by_cases c0:0<x.fNode <;> simp[c0]
 rw[e,List.nil_append]at this
 unfold aAE
 rw[this]
 simp only[Option.bind_some]
 have hf:=List.length_filter_le (fun p:Parent=>decide (0<p.fNode)) c.fParents
 rw[aIh _ _ hl (by rw[List.length_map];omega)]
 simp only[Option.bind_some]
 congr 1
 unfold upP aR
 congr 1
 refine aDE fun u hu=>?_
 have:=ho u hu
 rw[Bool.eq_iff_iff,decide_eq_true_iff,decide_eq_true_iff]
 unfold aC8
 simp only[List.mem_map,List.mem_filter,decide_eq_true_eq]
 constructor
 · rintro⟨p,⟨h1,_⟩,rfl⟩;exact⟨p,h1,rfl⟩
 · rintro⟨p,h1,rfl⟩;exact⟨p,⟨h1,by omega⟩,rfl⟩
theorem aB7 (c:Conditional)(v:Int)(h:c.fParents.length<=4294967296):nD c v=some (decide (v∈aC8 c)):=by
 have main:∀ m k:Nat,m+k=c.fParents.length->lp (fD c v) (k:Int)=some (if v∈(c.fParents.drop k).map (·.fNode)then .inr true else .inl ()):=by
  intro m
  induction m with
  | zero =>
   intro k hk
   have:k=c.fParents.length:=by omega
   subst this
   rw[aF (r:=.inl ()) (by unfold fD;rw[if_neg (by omega)]),List.drop_length];simp
  | succ m ih =>
   intro k hk
   have hlt:k<c.fParents.length:=by omega
   rw[List.drop_eq_getElem_cons hlt,List.map_cons]
   by_cases d:(c.fParents[k]).fNode=v
   · rw[aF (r:=.inr true) (by unfold fD;rw[if_pos (by omega),aG hlt];simp[d]),if_pos (by simp[d])]
   · have e:fD c v (k:Int)=some (.inl ((k+1:Nat):Int)):=by
      unfold fD;rw[if_pos (by omega),aG hlt];simp only[Option.bind_some,wi1 (by omega:k<=4294967296)];rw[if_neg d]
     rw[aM e,ih (k+1) (by omega)]
     have:(v∈(c.fParents[k]).fNode::(c.fParents.drop (k+1)).map (·.fNode))↔v∈(c.fParents.drop (k+1)).map (·.fNode):=by
      rw[List.mem_cons];exact⟨fun h=>h.resolve_left (fun e=>d e.symm),.inr⟩
     simp only[this]
 have:=main c.fParents.length 0 (by omega)
 rw[show((0:Nat):Int)=0 from rfl,List.drop_zero]at this
 unfold nD aC8
 rw[this]
 by_cases d:v∈c.fParents.map (·.fNode)
 · rw[if_pos d,decide_eq_true d];rfl
 · rw[if_neg d,decide_eq_false d];rfl
theorem aMU (order:List Int)(v:Int)(own:List Link)(r:Conditional×List Link×Rat×Bool)(e:Rat)(hl:order.length<=4294967296)(hc:r.1.fParents.length<=4294967296):lp (dY order v own r e) 0=some (TreeNode.mk v (upP order r.1) own r.1 r.2.1 e):=by
 have main:∀ m k:Nat,m+k=order.length->lp (dY order v own r e) (k:Int)=some (TreeNode.mk v (aR (order.drop k) (aC8 r.1)) own r.1 r.2.1 e):=by
  intro m
  induction m with
  | zero =>
   intro k hk
   have:k=order.length:=by omega
   subst this
   rw[aF (by unfold dY;rw[if_neg (by omega)]),List.drop_length];rfl
  | succ m ih =>
   intro k hk
   have hlt:k<order.length:=by omega
   rw[List.drop_eq_getElem_cons hlt]
   unfold aR
   rw[List.find?_cons]
   by_cases d:order[k]∈aC8 r.1
   · rw[aF (r:=TreeNode.mk v order[k] own r.1 r.2.1 e) (by unfold dY;rw[if_pos (by omega),aG hlt];simp only[Option.bind_some,aB7 _ _ hc,decide_eq_true d,if_true])]
     simp[d]
   · have e:dY order v own r e (k:Int)=some (.inl ((k+1:Nat):Int)):=by
      unfold dY;rw[if_pos (by omega),aG hlt];simp only[Option.bind_some,aB7 _ _ hc,wi1 (by omega:k<=4294967296),decide_eq_false d,Bool.false_eq_true,if_false]
     rw[aM e,ih (k+1) (by omega)]
     simp only[d,decide_false]
     rfl
 have:=main order.length 0 (by omega)
 rw[show((0:Nat):Int)=0 from rfl,List.drop_zero]at this
 exact this
def yE (v:Int)(b:List TreeNode):List Link:=(b.filter (fun n=>decide (n.fUp=v))).flatMap (·.fMessages)
theorem aF9 (v:Int):∀ (b:List TreeNode) (t:List Link),b.foldl (fun t n=>if n.fUp=v then t++n.fMessages else t) t=t++yE v b
 | [],t=>by simp[yE]
 | n::b,t=>by
  rw[List.foldl_cons,aF9 v b]
  unfold yE
  rw[List.filter_cons]
  by_cases c:n.fUp=v <;> simp[c]
theorem aH1 {v:Int}:∀ {b:List TreeNode},(∀ n∈b,LSet n.fMessages)->(yE v b).length<=100*b.length
 | [],_=>by simp[yE]
 | n::b,h=>by
  have:=aH1 (v:=v) (b:=b) (fun m hm=>h m (by simp[hm]))
  have h1:=(h n (by simp)).len
  unfold yE at this ⊢
  rw[List.filter_cons,List.length_cons]
  split
  · rw[List.flatMap_cons,List.length_append];omega
  · omega
theorem aIL {v:Int}{b:List TreeNode}(h:∀ n∈b,LSet n.fMessages):∀ x∈yE v b,ValidL x:=by
 intro x hx
 unfold yE at hx
 obtain⟨n,hn,hx⟩:=List.mem_flatMap.1 hx
 exact(h n (List.mem_filter.1 hn).1).1 x hx
theorem aLJ {step:(Int×List Link)->Option ((Int×List Link) ⊕ List Link)}(v:Int)(b:List TreeNode)(own:List Link)(ho:own.length<=4294967296)(hb:b.length<=4194304)(h:∀ n∈b,LSet n.fMessages)
 (hstep:step=fun s=>match s with | (v6,v7)=>(if(v6<(b.length:Int))then(idx b v6).bind fun y8=>(if(y8.fUp=v)then(chk ((v7.length+y8.fMessages.length)*184<=140737488355328)).bind fun _u=>(aS (v7++y8.fMessages)).bind fun v10=>some (.inl (i64.wrap (v6+1),v10))else some (.inl (i64.wrap (v6+1),v7)))else some (.inr v7))):lp step (0,own)=some (own++yE v b):=by
 subst hstep
 have:=(mY (step:=fun s=>match s with | (v6,v7)=>(if(v6<(b.length:Int))then(idx b v6).bind fun y8=>(if(y8.fUp=v)then(chk ((v7.length+y8.fMessages.length)*184<=140737488355328)).bind fun _u=>(aS (v7++y8.fMessages)).bind fun v10=>some (.inl (i64.wrap (v6+1),v10))else some (.inl (i64.wrap (v6+1),v7)))else some (.inr v7))) b (fun k t=>((k:Int),t)) (fun t n=>if n.fUp=v then t++n.fMessages else t) (fun t=>t) (fun k t=>t.length<=4294967296+100*k) (fun k t hk hi=>by
  have hm:=(h _ (List.getElem_mem hk)).len
  constructor
  · simp only[]
    rw[if_pos (by omega),aG hk]
    simp only[Option.bind_some,wi1 (by omega:k<=4294967296)]
    by_cases c:(b[k]).fUp=v
    · rw[if_pos c,if_pos c,aJ (by omega)];rfl
    · rw[if_neg c,if_neg c]
  · split
    · rw[List.length_append];omega
    · omega) (fun t _=>by simp only[];rw[if_neg (by omega)]) own (by omega)).1
 rw[show((0:Nat):Int)=0 from rfl,aF9]at this
 exact this
def aMS:TreeNode:=TreeNode.mk 0 0 ([]) (Conditional.mk 0 (Rat.mk (BigInt.mk false ([])) ([])) ([])) ([]) (Rat.mk (BigInt.mk false ([])) ([]))
noncomputable def sB (order:List Int)(v:Int)(own:List Link)(b:List TreeNode):Option TreeNode :=
 (jnP (own++yE v b)).bind fun x=>(aC0 v x.1).bind fun y=>if bA (RA x.2 y.2.2)then some ⟨v,upP order y.1,own,y.1,y.2.1,RA x.2 y.2.2⟩else none
def pkN:Option TreeNode->TreeNode×Bool
 | some n=>(n,true)
 | none=>(aMS,false)
theorem aK4 {c:Conditional}(h:aV c<=20000):c.fParents.length<=20000:=by
 have:c.fParents.length<=mJ c.fParents:=nK _ _
 unfold aV at h;omega
theorem aKV (a b:List Link):aW (a++b)=aW a+aW b:=by unfold aW szL;simp
theorem aJK {order:List Int}{v:Int}{own:List Link}{b:List TreeNode}(hl:order.length<=4194304)(ho:∀ u∈order,1<=u)(hz:aW own<=4194304)(hb:b.length<=100)(hm:∀ n∈b,LSet n.fMessages)(hv:∀ x∈own,ValidL x) :
 wO v own order b=some (pkN (sB order v own b))/\nF ⟨b⟩ order v own=some (pkN (sB order v own b)):=by
 have hol:own.length<=4194304:=Nat.le_trans (nK _ _) hz
 have q1:=aLJ (step:=xU v b) v b own (by omega) (by omega) hm rfl
 have q2:=aLJ (step:=qD ⟨b⟩ v) v b own (by omega) (by omega) hm rfl
 have hmv:=aIL (v:=v) hm
 have hml:=aH1 (v:=v) hm
 have hall:∀ x∈own++yE v b,ValidL x:=fun x hx=>(List.mem_append.1 hx).elim (hv x) (hmv x)
 have hms:=zM hmv
 have hsz:aW (own++yE v b)<=4294967296:=by rw[aKV];omega
 have hln:(own++yE v b).length<=4294967296:=by rw[List.length_append];omega
 have j1:=(uU (own++yE v b) hsz).1
 have j2:=yX hall hln
 unfold wO nF sB
 rw[aAj own (by omega)]
 simp only[Option.bind_some,List.nil_append,List.length_nil]
 rw[aJ (by omega),q1]
 simp only[Option.bind_some,qX]
 rw[q2,j1]
 simp only[Option.bind_some,j2]
 cases h:jnP (own++yE v b)with
 | none =>
  simp only[pk,Option.bind_none,pkN]
  refine⟨?_,rfl⟩
  rw[(aCZ zK v).1]
  have e0:bF (pkR (aC0 v [])).2.2.1<=4294967296:=by
   cases h2:aC0 v []with
   | none=>exact VZs aAh
   | some y=>exact VZs (.inl (aFe zK (c:=y.1) (m:=y.2.1) (e:=y.2.2) h2).2.2.1)
  simp only[Option.bind_some]
  rw[(aNL (VZs aAh) e0).1]
  rfl
 | some x =>
  obtain⟨s,e⟩:=x
  obtain⟨_,hs,he⟩:=yY h
  simp only[pk,Option.bind_some,if_true]
  rw[(aCZ hs v).1,(aCZ hs v).2]
  simp only[Option.bind_some]
  cases h2:aC0 v s with
  | none =>
   simp only[pkR,Option.bind_none,pkN]
   rw[(zI (.inl he) aAh).1,(zI (.inl he) aAh).2.1]
   exact⟨rfl,rfl⟩
  | some y =>
   obtain⟨c,m,f⟩:=y
   obtain⟨k1,k2,k3,_⟩:=aFe hs h2
   have ra:=zI (.inl he) (.inl k3)
   have hp:=aK4 k1
   simp only[pkR,Option.bind_some,ra.1,ra.2.1,if_true]
   rw[dI _ (VZs ra.2.2),gV ra.2.2,aNz ho (by omega) (by omega),aMU order v own (c,m,f,true) (RA e f) (by omega) (by show c.fParents.length<=_;omega)]
   simp only[Option.bind_some]
   by_cases g:bA (RA e f)
   · rw[decide_eq_true g,if_pos g];exact⟨rfl,rfl⟩
   · rw[decide_eq_false g,if_neg g];exact⟨rfl,rfl⟩
theorem aDb {order:List Int}{v:Int}{own:List Link}{b:List TreeNode}{n:TreeNode}(h:sB order v own b=some n):LSet n.fMessages/\n.fOwn=own/\aV n.fCond<=20000/\bA n.fEnergy/\n.fNode=v/\n.fUp=upP order n.fCond:=by
 unfold sB at h
 cases h1:jnP (own++yE v b)with
 | none=>rw[h1]at h;cases h
 | some x =>
  rw[h1,Option.bind_some]at h
  cases h2:aC0 v x.1 with
  | none=>rw[h2]at h;cases h
  | some y =>
   rw[h2,Option.bind_some]at h
   obtain⟨_,hs,he⟩:=yY (s:=x.1) (e:=x.2) h1
   obtain⟨k1,k2,k3,_⟩:=aFe hs (c:=y.1) (m:=y.2.1) (e:=y.2.2) h2
   split at h
   · rename_i g;cases h;exact⟨k2,rfl,k1,g,rfl,rfl⟩
   · cases h
end Go.Ev
/- The nodes of a link set, orders of elimination, whose a link is, both programs. -/
namespace Go.Ev
set_option linter.all false
def aAG:List Int:=(List.range 9).map (fun k:Nat=>(k:Int)+1)
theorem aJM {x:Int}:x∈aAG↔1<=x/\x<=9:=by
 unfold aAG
 simp only[List.mem_map,List.mem_range]
 constructor
 · rintro⟨k,h,rfl⟩;omega
 · intro h;exact⟨(x-1).toNat,by omega,by omega⟩
theorem aDc:aAG.length=9:=by decide
theorem aJN (k:Nat)(h:k<aAG.length):aAG[k]=(k:Int)+1:=by simp[aAG]
def eB (s:List Link):List Int:=aAG.filter (fun v=>s.any (tch v))
theorem wY (s:List Link):(eB s).Pairwise (· < ·):=by
 have:aAG.Pairwise (· < ·):=by decide
 exact this.sublist List.filter_sublist
theorem tQ (s:List Link):(eB s).length<=9:=by
 have:=List.length_filter_le (fun v=>s.any (tch v)) aAG
 rw[aDc]at this;exact this
theorem wX {s:List Link}{x:Int}:x∈eB s↔(1<=x/\x<=9)/\∃ l∈s,l.fA=x\/l.fB=x:=by
 unfold eB
 rw[List.mem_filter,aJM,List.any_eq_true]
 simp only[tch,decide_eq_true_eq]
def aD2 (t:List Int)(l:Link):List Int:=yD (if 0<l.fA then yD t l.fA else t) l.fB
theorem aFY {t:List Int}(l:Link)(h:t.Pairwise (· < ·)):(aD2 t l).Pairwise (· < ·):=by
 unfold aD2;split
 · exact sA _ _ (sA _ _ h)
 · exact sA _ _ h
theorem aJz {t:List Int}{l:Link}{x:Int}:x∈aD2 t l↔x=l.fB\/(x=l.fA/\0<x)\/x∈t:=by
 unfold aD2;split
 · rw[vU,vU]
   constructor
   · rintro(h | h | h)
     · exact .inl h
     · exact .inr (.inl ⟨h,by omega⟩)
     · exact .inr (.inr h)
   · rintro(h | ⟨h,_⟩ | h)
     · exact .inl h
     · exact .inr (.inl h)
     · exact .inr (.inr h)
 · rw[vU]
   constructor
   · rintro(h | h)
     · exact .inl h
     · exact .inr (.inr h)
   · rintro(h | ⟨h,_⟩ | h)
     · exact .inl h
     · omega
     · exact .inr h
theorem aJA (t:List Int)(l:Link):(aD2 t l).length<=t.length+2:=by
 unfold aD2;split
 · have:=vV (yD t l.fA) l.fB;have:=vV t l.fA;omega
 · have:=vV t l.fB;omega
theorem aEI:∀ (s:List Link) (t:List Int) (x:Int),x∈s.foldl aD2 t↔x∈t\/∃ l∈s,x=l.fB\/(x=l.fA/\0<x)
 | [],t,x=>by simp
 | l::s,t,x=>by
  rw[List.foldl_cons,aEI s,aJz]
  simp only[List.mem_cons,exists_eq_or_imp]
  constructor
  · rintro((h | h | h) | h)
    · exact .inr (.inl (.inl h))
    · exact .inr (.inl (.inr h))
    · exact .inl h
    · exact .inr (.inr h)
  · rintro(h | (h | h) | h)
    · exact .inl (.inr (.inr h))
    · exact .inl (.inl h)
    · exact .inl (.inr (.inl h))
    · exact .inr h
theorem aBg:∀ (s:List Link) (t:List Int),t.Pairwise (· < ·)->(s.foldl aD2 t).Pairwise (· < ·)
 | [],t,h=>h
 | l::s,t,h=>aBg s _ (aFY l h)
theorem aBS {s:List Link}(hs:LSet s):kX s=some (eB s):=by
 have hl:=hs.len
 have:=(mY (step:=lL s) s (fun k t=>(t,(k:Int))) aD2 (fun t=>t) (fun k t=>t.length<=2*k) (fun k t hk hi=>by
  constructor
  · unfold lL
    simp only[]
    rw[if_pos (by omega),aG hk]
    simp only[Option.bind_some,wi1 (by omega:k<=4294967296)]
    unfold aD2
    by_cases c:0<(s[k]).fA
    · rw[if_pos c,if_pos c,aFX _ _ (by omega)]
      simp only[Option.bind_some]
      rw[aFX _ _ (by have:=vV t (s[k]).fA;omega)];rfl
    · rw[if_neg c,if_neg c]
      simp only[Option.bind_some]
      rw[aFX _ _ (by omega)];rfl
  · have:=aJA t s[k];omega) (fun t _=>by unfold lL;simp only[];rw[if_neg (by omega)]) [] (Nat.zero_le _)).1
 rw[show((0:Nat):Int)=0 from rfl]at this
 unfold kX
 rw[jL s (by have:=hs.sz;omega),decide_eq_true hs]
 simp only[Option.bind_some,if_true,this]
 congr 1
 refine wN (aBg _ _ List.Pairwise.nil) (wY s) fun x=>?_
 rw[aEI,wX]
 constructor
 · rintro(h | ⟨l,hl,h⟩)
   · cases h
   · have v:=hs.1 l hl
     rcases h with rfl | ⟨rfl,h0⟩
     · exact⟨⟨by have:=v.2.2.1;have:=v.1.1;omega,v.2.1.2⟩,l,hl,.inr rfl⟩
     · exact⟨⟨by omega,v.1.2⟩,l,hl,.inl rfl⟩
 · rintro⟨h1,l,hl,h⟩
   refine .inr ⟨l,hl,?_⟩
   rcases h with h | h
   · exact .inr ⟨h.symm,by omega⟩
   · exact .inl h.symm
theorem aHc {s:List Link}(hs:s.length<=4294967296)(v:Int)(t:List Int)(ht:t.length<=1000):lp (fG s v t) 0=some (if s.any (tch v)=true then t++[v]else t):=by
 have main:∀ m k:Nat,m+k=s.length->lp (fG s v t) (k:Int)=some (if(s.drop k).any (tch v)=true then t++[v]else t):=by
  intro m
  induction m with
  | zero =>
   intro k hk
   have:k=s.length:=by omega
   subst this
   rw[aF (r:=t) (by unfold fG;rw[if_neg (by omega)]),List.drop_length];rfl
  | succ m ih =>
   intro k hk
   have hlt:k<s.length:=by omega
   have e0:((if(s[k]).fA=v then some true else some (decide ((s[k]).fB=v))):Option Bool)=some (tch v s[k]):=by
    unfold tch;by_cases A:(s[k]).fA=v <;> by_cases B:(s[k]).fB=v <;> simp[A,B]
   rw[List.drop_eq_getElem_cons hlt,List.any_cons]
   by_cases c:tch v s[k]=true
   · rw[aF (r:=t++[v]) (by unfold fG;rw[if_pos (by omega),aG hlt];simp only[Option.bind_some,e0,c,if_true];rw[aJ (by omega)];rfl)]
     simp[c]
   · have e:fG s v t (k:Int)=some (.inl ((k+1:Nat):Int)):=by
      unfold fG;rw[if_pos (by omega),aG hlt];simp only[Option.bind_some,e0,wi1 (by omega:k<=4294967296)];rw[if_neg c]
     rw[aM e,ih (k+1) (by omega)]
     simp only[Bool.not_eq_true]at c
     simp[c]
 have:=main s.length 0 (by omega)
 rw[show((0:Nat):Int)=0 from rfl,List.drop_zero]at this
 exact this
theorem aIH {s:List Link}(hs:s.length<=4294967296):qB s=some (eB s):=by
 have:=(mY (step:=lT s) aAG (fun k t=>((k:Int)+1,t)) (fun t v=>if(fun v=>s.any (tch v)) v=true then t++[v]else t) (fun t=>t) (fun k t=>t.length<=k) (fun k t hk hi=>by
  have hk9:k<9:=by rw[aDc]at hk;exact hk
  constructor
  · unfold lT
    simp only[]
    rw[if_pos (by omega),aHc hs _ _ (by omega),aJN]
    have w:IntKind.i64.wrap ((k:Int)+1+1)=((k+1:Nat):Int)+1:=by rw[wi (by omega)];omega
    simp only[Option.bind_some,w]
  · simp only[];split
    · rw[List.length_append,List.length_singleton];omega
    · omega) (fun t _=>by unfold lT;simp only[];rw[aDc,if_neg (by omega)]) [] (Nat.zero_le _)).1
 rw[show((0:Nat):Int)+1=1 from rfl,tG,List.nil_append]at this
 unfold qB
 rw[this];rfl
def isOrd (s:List Link)(o:List Int):Prop:=o.Nodup/\(∀ y∈o,y∈eB s)/\o.length=(eB s).length
instance (s:List Link)(o:List Int):Decidable (isOrd s o):=by unfold isOrd;exact inferInstance
theorem aG9:∀ {a b:List Int},a.Nodup->(∀ x∈a,x∈b)->b.length<=a.length->b.Perm a
 | [],b,_,_,h=>by
  have:b=[]:=List.eq_nil_of_length_eq_zero (by simpa using h)
  rw[this]
 | x::a,b,hn,hs,h=>by
  rw[List.nodup_cons]at hn
  have hx:=hs x (by simp)
  have p:=List.perm_cons_erase hx
  have hl:=p.length_eq
  rw[List.length_cons]at hl h
  refine p.trans (List.Perm.cons x (aG9 hn.2 (fun y hy=>?_) (by omega)))
  have:y≠x:=fun e=>hn.1 (e▸hy)
  exact(List.mem_erase_of_ne this).2 (hs y (by simp[hy]))
theorem aIO {l:List Int}(h:l.Pairwise (· < ·)):l.Nodup:=h.imp (fun {a b} hab e=>by subst e;omega)
theorem aEG (s:List Link)(o:List Int):isOrd s o↔(∀ v∈eB s,v∈o)/\o.length=(eB s).length:=by
 have hn:=aIO (wY s)
 constructor
 · rintro⟨h1,h2,h3⟩
   have p:=aG9 h1 h2 (by omega)
   exact⟨fun v hv=>p.mem_iff.1 hv,h3⟩
 · rintro⟨h1,h2⟩
   have p:=aG9 hn h1 (by omega)
   exact⟨p.nodup_iff.2 hn,fun y hy=>p.mem_iff.1 hy,h2⟩
theorem aJ4 {s:List Link}{o:List Int}(h:isOrd s o):o.length<=9/\(∀ u∈o,1<=u):=by
 have:=tQ s
 exact⟨by rw[h.2.2];exact this,fun u hu=>(wX.1 (h.2.1 u hu)).1.1⟩
theorem aDF {σ:Type}{step:σ->Option (σ ⊕ (Unit ⊕ Bool))}(n:Nat)(E:Nat->σ)(G:Nat->Prop)(h1:∀ k:Nat,k<n->(G k/\step (E k)=some (.inl (E (k+1))))\/(¬G k/\step (E k)=some (.inr (.inr false))))(h2:step (E n)=some (.inr (.inl ()))) :
 (lp step (E 0)=some (.inl ())/\∀ k,k<n->G k)\/(lp step (E 0)=some (.inr false)/\∃ k,k<n/\¬G k):=by
 have main:∀ m k:Nat,m+k=n->(lp step (E k)=some (.inl ())/\∀ j,k<=j->j<n->G j)\/(lp step (E k)=some (.inr false)/\∃ j,j<n/\¬G j):=by
  intro m
  induction m with
  | zero =>
   intro k hk
   have:k=n:=by omega
   subst this
   exact .inl ⟨aF h2,fun j _ _=>by omega⟩
  | succ m ih =>
   intro k hk
   rcases h1 k (by omega)with⟨g,e⟩ | ⟨g,e⟩
   · rw[aM e]
     rcases ih (k+1) (by omega)with⟨a,b⟩ | ⟨a,b⟩
     · refine .inl ⟨a,fun j h1 h2=>?_⟩
       by_cases e:j=k
       · subst e;exact g
       · exact b j (by omega) h2
     · exact .inr ⟨a,b⟩
   · exact .inr ⟨aF e,k,by omega,g⟩
 rcases main n 0 (by omega)with⟨a,b⟩ | ⟨a,b⟩
 · exact .inl ⟨a,fun j h=>b j (Nat.zero_le _) h⟩
 · exact .inr ⟨a,b⟩
theorem wW {l:List Int}:l.Nodup↔∀ k (h:k<l.length),l[k]∉l.take k:=by
 unfold List.Nodup
 rw[List.pairwise_iff_getElem]
 constructor
 · intro h k hk hm
   obtain⟨j,hj,e⟩:=List.mem_iff_getElem.1 hm
   rw[List.length_take]at hj
   rw[List.getElem_take]at e
   exact h j k (by omega) hk (by omega) e
 · intro h i j hi hj hij e
   refine h j hj ?_
   rw[<- e]
   exact List.mem_iff_getElem.2 ⟨i,by rw[List.length_take];omega,by rw[List.getElem_take]⟩
theorem aHO {s:List Link}(hs:LSet s)(o:List Int)(ho:o.length<=4194304):wS s o=some (decide (isOrd s o)):=by
 have hn:=tQ s
 unfold wS
 rw[aBS hs]
 simp only[Option.bind_some]
 have L:=aDF (step:=oU o (eB s)) o.length (fun k=>((k:Int),o.take k)) (fun k=>∀ h:k<o.length,o[k]∈eB s/\o[k]∉o.take k) (fun k hk=>by
  have tl:(o.take k).length<=k:=by rw[List.length_take];omega
  have tk:o.take (k+1)=o.take k++[o[k]]:=by rw[List.take_add_one,List.getElem?_eq_getElem hk];rfl
  unfold oU
  simp only[]
  rw[if_pos (by omega),aG hk]
  simp only[Option.bind_some,aBd (eB s) _ (by omega),aBd (o.take k) _ (by omega),wi1 (by omega:k<=4294967296)]
  by_cases A:o[k]∈eB s
  · by_cases B:o[k]∈o.take k
    · right
      refine⟨fun h=>(h hk).2 B,?_⟩
      rw[decide_eq_true A,decide_eq_true B];rfl
    · left
      refine⟨fun h=>⟨A,B⟩,?_⟩
      rw[decide_eq_true A,decide_eq_false B]
      simp only[if_true,Option.bind_some,Bool.false_eq_true,if_false]
      rw[aJ (by omega),tk];rfl
  · right
    refine⟨fun h=>A (h hk).1,?_⟩
    rw[decide_eq_false A];rfl) (by unfold oU;simp only[];rw[if_neg (by omega)])
 simp only[List.take_zero]at L
 rw[show((0:Nat):Int)=0 from rfl]at L
 rcases L with⟨e,g⟩ | ⟨e,k,hk,g⟩
 · rw[e]
   simp only[Option.bind_some]
   rw[jL s (by have:=hs.sz;omega),decide_eq_true hs]
   simp only[Option.bind_some,if_true]
   congr 1
   rw[Bool.eq_iff_iff,decide_eq_true_iff,decide_eq_true_iff]
   constructor
   · intro h
     refine⟨wW.2 (fun k hk=>(g k hk hk).2),fun y hy=>?_,by omega⟩
     obtain⟨j,hj,rfl⟩:=List.mem_iff_getElem.1 hy
     exact(g j hj hj).1
   · intro h;rw[h.2.2]
 · rw[e]
   have:¬isOrd s o:=fun h=>g (fun hk=>⟨h.2.1 _ (List.getElem_mem hk),wW.1 h.1 k hk⟩)
   rw[decide_eq_false this];rfl
theorem aFL (s:List Link)(h:aW s<=4294967296):kM s=some (decide (LSet s)):=by
 rw[<- jL s h]
 unfold kM cQ
 have:lp (mI s) 0=lp (dS s) 0:=by
  refine aJV (fun _=>True) (fun v _=>⟨?_,fun _ _=>trivial⟩) _ trivial
  unfold mI dS
  cases e:idx s v with
  | none=>rfl
  | some y =>
   have hy:y∈s:=List.mem_of_getElem? (aDy e).2.1
   have hz:=rI (w:=cI) hy
   unfold aW at h
   have q:=gB y (by omega)
   simp only[Option.bind_some,q.1,q.2,aGR,aDX]
 rw[this]
theorem aD0 {s:List Link}(hs:LSet s)(o:List Int)(ho:o.length<=4194304):nS s o=some (decide (isOrd s o)):=by
 have hn:=tQ s
 unfold nS
 have il:kM s=some true:=by rw[aFL s (by have:=hs.sz;omega),decide_eq_true hs]
 rw[il,aIH (by have:=hs.len;omega)]
 simp only[Option.bind_some,if_true]
 have L:=aDF (step:=lW o (eB s)) (eB s).length (fun k=>(k:Int)) (fun k=>∀ h:k<(eB s).length,(eB s)[k]∈o) (fun k hk=>by
  unfold lW
  rw[if_pos (by omega),aG hk]
  simp only[Option.bind_some,aDz o _ (by omega),wi1 (by omega:k<=4294967296)]
  by_cases A:(eB s)[k]∈o
  · exact .inl ⟨fun _=>A,by rw[decide_eq_true A];rfl⟩
  · exact .inr ⟨fun h=>A (h hk),by rw[decide_eq_false A];rfl⟩) (by unfold lW;rw[if_neg (by omega)])
 rw[show((0:Nat):Int)=0 from rfl]at L
 rcases L with⟨e,g⟩ | ⟨e,k,hk,g⟩
 · rw[e]
   simp only[Option.bind_some]
   congr 1
   rw[Bool.eq_iff_iff,decide_eq_true_iff,decide_eq_true_iff,aEG]
   constructor
   · intro h
     refine⟨fun v hv=>?_,by omega⟩
     obtain⟨j,hj,rfl⟩:=List.mem_iff_getElem.1 hv
     exact g j hj hj
   · intro h;rw[h.2]
 · rw[e]
   have:¬isOrd s o:=fun h=>g (fun hk=>((aEG s o).1 h).1 _ (List.getElem_mem hk))
   rw[decide_eq_false this];rfl
def tP (o:List Int)(v:Int)(l:Link):Bool:=decide (aR o [l.fA,l.fB]=v)
theorem aK5 (o:List Int)(l:Link)(h:o.length<=4294967296):uW o l=some (aR o [l.fA,l.fB]):=by
 unfold uW
 rw[aIh _ _ h (by simp)];rfl
theorem aEK {o s:List Int}{v:Int}(h:aR o s=v)(hv:v≠0):v∈s/\v∈o:=by
 unfold aR at h
 cases e:o.find? (fun u=>decide (u∈s))with
 | none=>rw[e]at h;exact absurd h.symm hv
 | some x =>
  rw[e]at h
  simp only[Option.getD_some]at h
  subst h
  exact⟨by simpa using List.find?_some e,List.mem_of_find?_eq_some e⟩
theorem aHq {o s:List Int}{k:Nat}(hk:k<o.length)(hn:o.Nodup)(h1:∀ u∈o,1<=u):aR o s=o[k]↔o[k]∈s/\∀ u∈o.take k,u∉s:=by
 have ef:o.find? (fun u=>decide (u∈s))=((o.take k).find? (fun u=>decide (u∈s))).or ((o[k]::o.drop (k+1)).find? (fun u=>decide (u∈s))):=by
  rw[<- List.find?_append,<- List.drop_eq_getElem_cons hk,List.take_append_drop]
 have hnt:=wW.1 hn k hk
 constructor
 · intro h
   have hp:=h1 _ (List.getElem_mem hk)
   refine⟨(aEK h (by omega)).1,fun u hu hus=>?_⟩
   unfold aR at h
   rw[ef]at h
   cases f:(o.take k).find? (fun u=>decide (u∈s))with
   | none =>
    rw[List.find?_eq_none]at f
    exact f u hu (by simpa using hus)
   | some x =>
    have hx:=List.mem_of_find?_eq_some f
    rw[f]at h
    simp only[Option.some_or,Option.getD_some]at h
    rw[h]at hx
    exact hnt hx
 · rintro⟨a,b⟩
   unfold aR
   rw[ef]
   have:(o.take k).find? (fun u=>decide (u∈s))=none:=by
    rw[List.find?_eq_none];intro u hu;simpa using b u hu
   rw[this,Option.none_or,List.find?_cons]
   simp[a]
end Go.Ev
/- Building a tree, both programs, and the law. -/
namespace Go.Ev
set_option linter.all false
theorem xH (c:Conditional)(h:aV c<=4294967296):gL c=some c:=by
 have hp:=nK kU c.fParents
 unfold aV mJ at h
 unfold gL
 rw[gK _ (by omega)]
 simp only[Option.bind_some]
 have:=wC (step:=eR c) c.fParents (fun k t=>((k:Int),t)) (fun t=>t) (fun k t hk ht=>by
  have he:=rI (w:=kU) (List.getElem_mem hk)
  have hn:kU c.fParents[k]=bF (c.fParents[k]).fShare+bF (c.fParents[k]).fDX+bF (c.fParents[k]).fDY:=rfl
  unfold eR
  simp only[]
  rw[if_pos (by omega),aG hk]
  simp only[Option.bind_some]
  rw[gK _ (by omega)]
  simp only[Option.bind_some]
  rw[gK _ (by omega)]
  simp only[Option.bind_some]
  rw[gK _ (by omega)]
  simp only[Option.bind_some]
  rw[aJ (by omega),wi (by omega)];rfl) (fun t ht=>by unfold eR;simp only[];rw[if_neg (by omega)])
 rw[show((0:Nat):Int)=0 from rfl]at this
 rw[this];rfl
theorem aIC (s:List Link)(o:List Int)(v:Int)(hs:s.length<=4194304)(ho:o.length<=4194304):lp (jA s o v) (0,[])=some (s.filter (tP o v)):=by
 have:=(mY (step:=jA s o v) s (fun k t=>((k:Int),t)) (fun t x=>if tP o v x=true then t++[x]else t) (fun t=>t) (fun k t=>t.length<=k) (fun k t hk hi=>by
  constructor
  · unfold jA
    simp only[]
    rw[if_pos (by omega),aG hk]
    simp only[Option.bind_some,aK5 o _ (by omega:o.length<=4294967296),wi1 (by omega:k<=4294967296)]
    by_cases c:aR o [(s[k]).fA,(s[k]).fB]=v
    · rw[if_pos c,if_pos (by unfold tP;simpa using c),aJ (by omega)];rfl
    · rw[if_neg c,if_neg (by unfold tP;simpa using c)]
  · split
    · rw[List.length_append,List.length_singleton];omega
    · omega) (fun t _=>by unfold jA;simp only[];rw[if_neg (by omega)]) [] (Nat.zero_le _)).1
 rw[show((0:Nat):Int)=0 from rfl,tG,List.nil_append]at this
 exact this
theorem aJg (o:List Int)(k:Nat)(hk:k<=o.length):sub o 0 (k:Int)=some (o.take k):=by
 rw[kV _ _ _ (by omega)];simp
theorem aJF (o:List Int)(hn:o.Nodup)(h1:∀ u∈o,1<=u)(ho:o.length<=4194304)(k:Nat)(hk:k<o.length)(l:Link)(hl:l.fA<l.fB) :
 ((if l.fA=o[k]then(sub o 0 (k:Int)).bind fun y57=>(gJ y57 l.fB).bind fun r58=>(if r58=true then(if l.fB=o[k]then(sub o 0 (k:Int)).bind fun y59=>(gJ y59 l.fA).bind fun r60=>some (!r60)else some false)else some true)else(if l.fB=o[k]then(sub o 0 (k:Int)).bind fun y61=>(gJ y61 l.fA).bind fun r62=>some (!r62)else some false)):Option Bool)=some (tP o o[k] l):=by
 have tl:(o.take k).length<=4294967296:=by rw[List.length_take];omega
 have hnt:=wW.1 hn k hk
 have ft:=aHq (s:=[l.fA,l.fB]) hk hn h1
 rw[aJg o k (by omega)]
 simp only[Option.bind_some,aDz _ _ tl]
 unfold tP
 by_cases A:l.fA=o[k]
 · have B:¬l.fB=o[k]:=by omega
   rw[if_pos A,if_neg B]
   by_cases C:l.fB∈o.take k
   · rw[decide_eq_true C,if_pos rfl]
     have:¬aR o [l.fA,l.fB]=o[k]:=fun h=>(ft.1 h).2 _ C (by simp)
     rw[decide_eq_false this]
   · rw[decide_eq_false C]
     have:aR o [l.fA,l.fB]=o[k]:=ft.2 ⟨by simp[A],fun u hu hs=>by
      rcases List.mem_cons.1 hs with rfl | hs
      · exact hnt (A▸hu)
      · rw[List.mem_singleton.1 hs]at hu;exact C hu⟩
     rw[decide_eq_true this];rfl
 · rw[if_neg A]
   by_cases B:l.fB=o[k]
   · rw[if_pos B]
     by_cases C:l.fA∈o.take k
     · have:¬aR o [l.fA,l.fB]=o[k]:=fun h=>(ft.1 h).2 _ C (by simp)
       rw[decide_eq_true C,decide_eq_false this];rfl
     · have:aR o [l.fA,l.fB]=o[k]:=ft.2 ⟨by simp[B],fun u hu hs=>by
        rcases List.mem_cons.1 hs with rfl | hs
        · exact C hu
        · rw[List.mem_singleton.1 hs]at hu;exact hnt (B▸hu)⟩
       rw[decide_eq_false C,decide_eq_true this];rfl
   · rw[if_neg B]
     have:¬aR o [l.fA,l.fB]=o[k]:=fun h=>by
      have:=(ft.1 h).1
      simp only[List.mem_cons,List.not_mem_nil,or_false]at this
      rcases this with e | e
      · exact A e.symm
      · exact B e.symm
     rw[decide_eq_false this]
theorem aID (s:List Link)(o:List Int)(hs:s.length<=4194304)(ho:o.length<=4194304)(hv:∀ x∈s,ValidL x)(hn:o.Nodup)(h1:∀ u∈o,1<=u)(i:Nat)(hi:i<o.length):lp (gU s o o[i] (i:Int)) (0,[])=some (s.filter (tP o o[i])):=by
 have:=(mY (step:=gU s o o[i] (i:Int)) s (fun k t=>((k:Int),t)) (fun t x=>if tP o o[i] x=true then t++[x]else t) (fun t=>t) (fun k t=>t.length<=k) (fun k t hk hj=>by
  constructor
  · unfold gU
    simp only[]
    rw[if_pos (by omega),aG hk]
    have oc:=aJF o hn h1 ho i hi s[k] (hv _ (List.getElem_mem hk)).2.2.1
    simp only[Option.bind_some,wi1 (by omega:k<=4294967296)]
    rw[oc]
    simp only[Option.bind_some]
    by_cases c:tP o o[i] s[k]=true
    · rw[if_pos c,if_pos c,aJ (by omega)];rfl
    · rw[if_neg c,if_neg c]
  · split
    · rw[List.length_append,List.length_singleton];omega
    · omega) (fun t _=>by unfold gU;simp only[];rw[if_neg (by omega)]) [] (Nat.zero_le _)).1
 rw[show((0:Nat):Int)=0 from rfl,tG,List.nil_append]at this
 exact this
noncomputable def xT (s:List Link)(o:List Int):List Int->List TreeNode->Option (List TreeNode)
 | [],b=>some b
 | v::r,b=>(sB o v (s.filter (tP o v)) b).bind fun n=>xT s o r (b++[n])
noncomputable def aBO (s:List Link)(o:List Int):Option Tree :=
 (jnP s).bind fun x=>if isOrd x.1 o then(xT s o o []).map Tree.mk else none
def pkT:Option Tree->Tree×Bool
 | some t=>(t,true)
 | none=>(Tree.mk [],false)
def aL6:Option (List TreeNode)->(List TreeNode) ⊕ (Tree×Bool)
 | some b=>.inl b
 | none=>.inr (Tree.mk [],false)
def NodeOk (s:List Link)(o:List Int)(n:TreeNode):Prop:=LSet n.fMessages/\n.fOwn=s.filter (tP o n.fNode)/\aV n.fCond<=20000/\bA n.fEnergy/\n.fUp=upP o n.fCond
theorem wM (p:Link->Bool):∀ s:List Link,aW (s.filter p)<=aW s
 | []=>Nat.le_refl _
 | x::s=>by
  have:=wM p s
  unfold aW at this ⊢
  rw[List.filter_cons,vL]
  split
  · rw[vL];omega
  · omega
theorem aHd {s:List Link}{o:List Int}{v:Int}{b:List TreeNode}{n:TreeNode}(h:sB o v (s.filter (tP o v)) b=some n):NodeOk s o n/\n.fNode=v:=by
 obtain⟨h1,h2,h3,h4,h5,h6⟩:=aDb h
 exact⟨⟨h1,by rw[h5];exact h2,h3,h4,h6⟩,h5⟩
theorem aFP {s:List Link}{o:List Int}:∀ (r:List Int) (b b':List TreeNode),(∀ n∈b,NodeOk s o n)->xT s o r b=some b'->(∀ n∈b',NodeOk s o n)/\b'.map (·.fNode)=b.map (·.fNode)++r
 | [],b,b',h,e=>by cases e;exact⟨h,by simp⟩
 | v::r,b,b',h,e=>by
  rw[xT]at e
  cases h1:sB o v (s.filter (tP o v)) b with
  | none=>rw[h1]at e;cases e
  | some n =>
   rw[h1,Option.bind_some]at e
   obtain⟨g1,g2⟩:=aHd h1
   obtain⟨k1,k2⟩:=aFP r (b++[n]) b' (fun m hm=>by
    rcases List.mem_append.1 hm with hm | hm
    · exact h m hm
    · rw[List.mem_singleton.1 hm];exact g1) e
   exact⟨k1,by rw[k2,List.map_append,List.append_assoc];simp[g2]⟩
theorem aGU (s:List Link)(o:List Int)(hz:aW s<=4194304)(hv:∀ x∈s,ValidL x)(ho:o.length<=9)(h1:∀ u∈o,1<=u):∀ m k:Nat,m+k=o.length->∀ b:List TreeNode,b.length=k->(∀ n∈b,LSet n.fMessages)->lp (iZ s o) ((k:Int),b)=some (aL6 (xT s o (o.drop k) b)):=by
 have hl:s.length<=4194304:=Nat.le_trans (nK _ _) hz
 intro m
 induction m with
 | zero =>
  intro k hk b hb hm
  rw[List.drop_eq_nil_of_le (by omega)]
  exact aF (by unfold iZ;simp only[];rw[if_neg (by omega)];rfl)
 | succ m ih =>
  intro k hk b hb hm
  have hlt:k<o.length:=by omega
  rw[List.drop_eq_getElem_cons hlt,xT]
  have nq:=(aJK (v:=o[k]) (own:=s.filter (tP o o[k])) (b:=b) (by omega:o.length<=4194304) h1 (Nat.le_trans (wM _ s) hz) (by omega) hm (fun x hx=>hv x (List.mem_filter.1 hx).1)).1
  have st:iZ s o ((k:Int),b)=some (match sB o o[k] (s.filter (tP o o[k])) b with | some n=>.inl (((k+1:Nat):Int),b++[n]) | none=>.inr (.inr (Tree.mk [],false))):=by
   unfold iZ
   simp only[]
   rw[if_pos (by omega),aG hlt]
   simp only[Option.bind_some,aIC s o o[k] hl (by omega),nq,wi1 (by omega:k<=4294967296)]
   cases sB o o[k] (s.filter (tP o o[k])) b with
   | none=>rfl
   | some n=>simp only[pkN,if_true];rw[aJ (by omega)];rfl
  cases h:sB o o[k] (s.filter (tP o o[k])) b with
  | none=>rw[h]at st;rw[aF st];rfl
  | some n =>
   rw[h]at st
   rw[aM st,Option.bind_some]
   exact ih (k+1) (by omega) _ (by simp[hb]) (fun x hx=>by
    rcases List.mem_append.1 hx with hx | hx
    · exact hm x hx
    · rw[List.mem_singleton.1 hx];exact(aDb h).1)
theorem aGV (s:List Link)(o:List Int)(hz:aW s<=4194304)(hv:∀ x∈s,ValidL x)(ho:o.length<=9)(hn:o.Nodup)(h1:∀ u∈o,1<=u):∀ m k:Nat,m+k=o.length->∀ b:List TreeNode,b.length=k->(∀ n∈b,LSet n.fMessages)->lp (gT s o) ((k:Int),b)=some (aL6 (xT s o (o.drop k) b)):=by
 have hl:s.length<=4194304:=Nat.le_trans (nK _ _) hz
 intro m
 induction m with
 | zero =>
  intro k hk b hb hm
  rw[List.drop_eq_nil_of_le (by omega)]
  exact aF (by unfold gT;simp only[];rw[if_neg (by omega)];rfl)
 | succ m ih =>
  intro k hk b hb hm
  have hlt:k<o.length:=by omega
  rw[List.drop_eq_getElem_cons hlt,xT]
  have nq:=(aJK (v:=o[k]) (own:=s.filter (tP o o[k])) (b:=b) (by omega:o.length<=4194304) h1 (Nat.le_trans (wM _ s) hz) (by omega) hm (fun x hx=>hv x (List.mem_filter.1 hx).1)).2
  have st:gT s o ((k:Int),b)=some (match sB o o[k] (s.filter (tP o o[k])) b with | some n=>.inl (((k+1:Nat):Int),b++[n]) | none=>.inr (.inr (Tree.mk [],false))):=by
   unfold gT
   simp only[]
   rw[if_pos (by omega),aG hlt]
   simp only[Option.bind_some,aID s o hl (by omega) hv hn h1 k hlt,nq,wi1 (by omega:k<=4294967296)]
   cases sB o o[k] (s.filter (tP o o[k])) b with
   | none=>rfl
   | some n=>simp only[pkN,if_true];rw[aJ (by omega)];rfl
  cases h:sB o o[k] (s.filter (tP o o[k])) b with
  | none=>rw[h]at st;rw[aF st];rfl
  | some n =>
   rw[h]at st
   rw[aM st,Option.bind_some]
   exact ih (k+1) (by omega) _ (by simp[hb]) (fun x hx=>by
    rcases List.mem_append.1 hx with hx | hx
    · exact hm x hx
    · rw[List.mem_singleton.1 hx];exact(aDb h).1)
theorem NodeOk.sz {s:List Link}{o:List Int}{n:TreeNode}(h:NodeOk s o n)(hz:aW s<=4194304):kT n<=4300000:=by
 have h1:=h.1.sz
 have h2:aW n.fOwn<=4194304:=by rw[h.2.1];exact Nat.le_trans (wM _ s) hz
 have h3:=nI (.inl h.2.2.2.1)
 have h4:=h.2.2.1
 unfold kT;omega
theorem aHz (n:TreeNode)(h:kT n<=4294967296):jH n=some n:=by
 unfold kT at h
 unfold jH
 rw[qY _ (by omega),xH _ (by omega)]
 simp only[Option.bind_some]
 rw[qY _ (by omega),gK _ (by omega)]
 rfl
theorem aHy (t:Tree)(h:aAP t<=4294967296):oM t=some t:=by
 unfold aAP uV at h
 have hl:=nK kT t.fNodes
 unfold oM
 have:=wC (step:=kL t) t.fNodes (fun k t=>((k:Int),t)) (fun t=>t) (fun k u hk hu=>by
  have he:=rI (w:=kT) (List.getElem_mem hk)
  unfold kL
  simp only[]
  rw[if_pos (by omega),aG hk]
  simp only[Option.bind_some]
  rw[aHz _ (by omega)]
  simp only[Option.bind_some]
  rw[aJ (by omega),wi1 (by omega)];rfl) (fun t ht=>by unfold kL;simp only[];rw[if_neg (by omega)])
 rw[show((0:Nat):Int)=0 from rfl]at this
 rw[this];rfl
theorem aKU {s:List Link}{o:List Int}{b:List TreeNode}(hz:aW s<=4194304)(ho:o.length<=9)(h:xT s o o []=some b):aAP ⟨b⟩<=38700018:=by
 obtain⟨h1,h2⟩:=aFP o [] b (by simp) h
 have hl:b.length=o.length:=by have:=congrArg List.length h2;simpa using this
 have:uV b<=(4300000+1)*b.length:=aBw (fun n hn=>(h1 n hn).sz hz)
 unfold aAP
 have:(4300000+1)*b.length<=4300001*9:=Nat.mul_le_mul (Nat.le_refl _) (by omega)
 simp only[]
 omega
theorem aIs (s:List Link)(o:List Int)(hz:aW s<=4194304)(ho:o.length<=4194304):tJ s o=some (pkT (aBO s o))/\kN s o=some (pkT (aBO s o)):=by
 obtain⟨j1,j2⟩:=uU s (by omega)
 unfold tJ kN aBO
 rw[j1,j2]
 cases h:jnP s with
 | none=>exact⟨rfl,rfl⟩
 | some x =>
  obtain⟨u,e⟩:=x
  obtain⟨hv,hs,he⟩:=yY h
  simp only[pk,Option.bind_some,if_true]
  rw[aHO hs o ho,aD0 hs o ho]
  by_cases c:isOrd u o
  · obtain⟨l9,h1⟩:=aJ4 c
    have q1:=aGU s o hz hv l9 h1 o.length 0 (by omega) [] rfl (by simp)
    have q2:=aGV s o hz hv l9 c.1 h1 o.length 0 (by omega) [] rfl (by simp)
    rw[show((0:Nat):Int)=0 from rfl,List.drop_zero]at q1 q2
    rw[decide_eq_true c,if_pos c]
    simp only[Option.bind_some,Bool.not_true,Bool.false_eq_true,if_false,q1,q2]
    cases g:xT s o o []with
    | none=>exact⟨rfl,rfl⟩
    | some b =>
     simp only[aL6]
     rw[aHy ⟨b⟩ (by have:=aKU hz l9 g;omega)]
     exact⟨rfl,rfl⟩
  · rw[decide_eq_false c,if_neg c]
    exact⟨rfl,rfl⟩
end Go.Ev
