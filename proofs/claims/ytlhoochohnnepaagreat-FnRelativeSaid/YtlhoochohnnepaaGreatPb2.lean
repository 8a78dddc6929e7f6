/- Parts P20, PR2, PR3, PV, PR4, PR5, PR6, PR7, PR8, PR9. -/
import Derived.Test.YtlhoochohnnepaaGreatPb1
import Derived.Test.YtlhoochohnnepaaGreatPa1
set_option linter.all false
/- Copies of links; the links of a tree. -/
namespace Go.Ev
set_option linter.all false
theorem nC (x:Rat)(h:bG x<=4294967296):iQ x=some x:=by
 unfold bG sB uV at h
 rw[qM,qM]at h
 unfold iQ
 rw[aL (by simp;omega),aL (by simp;omega)]
 simp only[Option.bind_some,aH,List.nil_append]
theorem qU (x:Link)(h:cA x<=4294967296):jT x=some x:=by
 unfold cA at h
 unfold jT
 rw[nC _ (by omega)]
 simp only[Option.bind_some]
 rw[nC _ (by omega)]
 simp only[Option.bind_some]
 rw[nC _ (by omega)]
 simp only[Option.bind_some]
theorem aAX (l:List Link)(h:aK l<=4294967296):nA l=some l:=by
 unfold aK at h
 have hl:=oA cA l
 unfold nA
 have:=xR (step:=mZ l) l (fun k t=>((k:Int),t)) (fun t=>t) (fun k t hk ht=>by
  have he:=sR (w:=cA) (List.getElem_mem hk)
  unfold mZ
  simp only[]
  rw[if_pos (by omega),aJ hk]
  simp only[Option.bind_some]
  rw[qU _ (by omega)]
  simp only[Option.bind_some]
  rw[aL (by omega),wi (by omega)];rfl) (fun t ht=>by unfold mZ;simp only[];rw[if_neg (by omega)])
 rw[show((0:Nat):Int)=0 from rfl]at this
 rw[this];rfl
theorem zH (l:List Int)(h:l.length<=4294967296):dQ l=some l:=by
 unfold dQ
 rw[aL (by simp;omega)]
 simp only[Option.bind_some,aH,List.nil_append]
theorem fR (x:Rat)(h:bG x<=4294967296):dW x=some x:=by
 unfold bG sB uV at h
 rw[qM,qM]at h
 unfold dW
 rw[zH _ (by omega)]
 simp only[Option.bind_some]
 rw[zH _ (by omega)]
 simp only[Option.bind_some]
theorem aC8 (x:Link)(h:cA x<=4294967296):xF x=some x:=by
 unfold cA at h
 unfold xF
 rw[fR _ (by omega)]
 simp only[Option.bind_some]
 rw[fR _ (by omega)]
 simp only[Option.bind_some]
 rw[fR _ (by omega)]
 simp only[Option.bind_some]
theorem sL (l:List Link)(h:aK l<=4294967296):nY l=some l:=by
 unfold aK at h
 have hl:=oA cA l
 unfold nY
 have:=xR (step:=mU l) l (fun k t=>((k:Int),t)) (fun t=>t) (fun k t hk ht=>by
  have he:=sR (w:=cA) (List.getElem_mem hk)
  unfold mU
  simp only[]
  rw[if_pos (by omega),aJ hk]
  simp only[Option.bind_some]
  rw[aC8 _ (by omega)]
  simp only[Option.bind_some]
  rw[aL (by omega),wi (by omega)];rfl) (fun t ht=>by unfold mU;simp only[];rw[if_neg (by omega)])
 rw[show((0:Nat):Int)=0 from rfl]at this
 rw[this];rfl
def pV (l:List TreeNode):List Link:=(l.map (fun n=>n.fOwn)).flatten
end Go.Ev
/- Links: validity, order, merging; adding links to a link set, both programs. -/
namespace Go.Ev
open IntKind
set_option linter.all false
def ValidL (l:Link):Prop:=(0<=l.fA/\l.fA<=9)/\(0<=l.fB/\l.fB<=9)/\l.fA<l.fB/\0<uM l.fWeight/\bA l.fDX/\bA l.fDY
instance (l:Link):Decidable (ValidL l):=by unfold ValidL;infer_instance
theorem gR (l:Link)(h:cA l<=4294967296):dV l=some (decide (ValidL l))/\kX l=some (decide (ValidL l)):=by
 unfold cA at h
 obtain⟨g1,g2⟩:=uT l.fWeight (by omega)
 have a1:=xW l.fDX (by omega)
 have a2:=xW l.fDY (by omega)
 have b1:=dP l.fDX (by omega)
 have b2:=dP l.fDY (by omega)
 unfold dV kX ValidL
 simp only[aHJ,aAM,g1,g2,a1,a2,b1,b2,Option.bind_some]
 by_cases A:0<=l.fA/\l.fA<=9
 · by_cases B:0<=l.fB/\l.fB<=9
   · by_cases C:l.fA<l.fB
     · by_cases D:0<uM l.fWeight
       · by_cases E:bA l.fDX
         · by_cases F:bA l.fDY <;> simp[A,B,C,D,E,F]
         · simp[A,B,C,D,E]
       · simp[A,B,C,D]
     · simp[A,B,C]
   · simp[A,B]
 · simp[A]
theorem ValidL.vz {l:Link}(h:ValidL l):VZ l.fWeight/\VZ l.fDX/\VZ l.fDY:=⟨.inl (xL h.2.2.2.1),.inl h.2.2.2.2.1,.inl h.2.2.2.2.2⟩
theorem ValidL.sz {l:Link}(h:ValidL l):cA l<=144:=by
 obtain⟨h1,h2,h3⟩:=h.vz
 have:=lA h1
 have:=lA h2
 have:=lA h3
 unfold cA;omega
theorem aCc {α:Type}{w:α->Nat}{c:Nat}:∀ {l:List α},(∀ x∈l,w x<=c)->szL w l<=(c+1)*l.length
 | [],_=>by simp[aM7]
 | y::l,h=>by
  have h1:=h y (by simp)
  have h2:=aCc (l:=l) (c:=c) (fun x hx=>h x (by simp[hx]))
  rw[qN,List.length_cons,Nat.mul_add,Nat.mul_one];omega
def eG (k l:Link):Prop:=k.fA<l.fA\/(k.fA=l.fA/\k.fB<l.fB)
instance (k l:Link):Decidable (eG k l):=by unfold eG;infer_instance
theorem aEQ (k l:Link):lI k l=some (decide (eG k l)):=by
 unfold lI eG
 by_cases A:k.fA<l.fA
 · simp[A]
 · by_cases B:k.fA=l.fA
   · simp[A,B]
   · simp[A,B]
theorem aIi (k l:Link):oK k l=some (decide (eG k l)):=aEQ k l
theorem aAh {a b c:Link}(h:eG a b)(g:eG b c):eG a c:=by unfold eG at *;omega
noncomputable def sqR (x y:Rat):Rat:=RA (RM x x) (RM y y)
noncomputable def zO (k l:Link):Link:=⟨k.fA,k.fB,RA k.fWeight l.fWeight,RD (RA (RM k.fWeight k.fDX) (RM l.fWeight l.fDX)) (RA k.fWeight l.fWeight),RD (RA (RM k.fWeight k.fDY) (RM l.fWeight l.fDY)) (RA k.fWeight l.fWeight)⟩
noncomputable def aCl (k l:Link):Rat:=RM (RD (RM k.fWeight l.fWeight) (RA k.fWeight l.fWeight)) (sqR (RS k.fDX l.fDX) (RS k.fDY l.fDY))
def wP (k l:Link):Prop:=bA (zO k l).fWeight/\bA (zO k l).fDX/\bA (zO k l).fDY/\bA (aCl k l)
noncomputable instance (k l:Link):Decidable (wP k l):=by unfold wP;infer_instance
def aFe:Link:=Link.mk 0 0 (Rat.mk (BigInt.mk false ([])) ([])) (Rat.mk (BigInt.mk false ([])) ([])) (Rat.mk (BigInt.mk false ([])) ([]))
theorem aP4 {x y:Rat}(hx:VZ x)(hy:VZ y):lV x y=some (sqR x y)/\rG x y=some (sqR x y)/\VZ (sqR x y):=by
 obtain⟨a1,a2,a3⟩:=zQ hx hx
 obtain⟨b1,b2,b3⟩:=zQ hy hy
 obtain⟨c1,c2,c3⟩:=wC a3 b3
 unfold lV rG sqR
 simp only[a1,a2,b1,b2,c1,c2,Option.bind_some]
 exact⟨trivial,trivial,c3⟩
theorem aHx {k l:Link}(hk:ValidL k)(hl:ValidL l)(h:wP k l):ValidL (zO k l) :=
 ⟨hk.1,hk.2.1,hk.2.2.1,aOY hk.2.2.2.1 hl.2.2.2.1 h.1,h.2.1,h.2.2.1⟩
theorem aJK {k l:Link}(hk:ValidL k)(hl:ValidL l)(hA:k.fA=l.fA)(hB:k.fB=l.fB) :
 lY k l=some (if wP k l then(zO k l,aCl k l,true)else(aFe,lF,false))/\tZ k l=some (if wP k l then(zO k l,aCl k l,true)else(aFe,lF,false))/\VZ (aCl k l):=by
 obtain⟨k1,k2,k3⟩:=hk.vz
 obtain⟨l1,l2,l3⟩:=hl.vz
 obtain⟨a1,a2,a3⟩:=wC k1 l1
 obtain⟨b1,b2,b3⟩:=zQ k1 k2
 obtain⟨c1,c2,c3⟩:=zQ l1 l2
 obtain⟨d1,d2,d3⟩:=wC b3 c3
 obtain⟨e1,e2,e3⟩:=aB7 d3 a3
 obtain⟨f1,f2,f3⟩:=zQ k1 k3
 obtain⟨g1,g2,g3⟩:=zQ l1 l3
 obtain⟨i1,i2,i3⟩:=wC f3 g3
 obtain⟨j1,j2,j3⟩:=aB7 i3 a3
 obtain⟨m1,m2,m3⟩:=zQ k1 l1
 obtain⟨n1,n2,n3⟩:=aB7 m3 a3
 obtain⟨o1,o2,o3⟩:=aFd k2 l2
 obtain⟨p1,p2,p3⟩:=aFd k3 l3
 obtain⟨q1,q2,q3⟩:=aP4 o3 p3
 obtain⟨r1,r2,r3⟩:=zQ n3 q3
 have v1:=(gR k (by have:=hk.sz;omega)).1
 have v2:=(gR l (by have:=hl.sz;omega)).1
 have vm:=(gR (zO k l) (by
  have:=lA a3;have:=lA e3;have:=lA j3
  unfold cA zO;simp only[];omega)).1
 refine⟨?_,?_,r3⟩
 · unfold lY
   rw[v1,v2,decide_eq_true hk,decide_eq_true hl]
   simp only[Option.bind_some,if_true,hA,hB,ne_eq,not_true_eq_false,if_false,decide_false,Bool.false_eq_true]
   simp only[a1,b1,c1,d1,e1,f1,g1,i1,j1,m1,n1,o1,p1,q1,r1,Option.bind_some]
   rw[<- hA,<- hB]
   have e:(Link.mk k.fA k.fB (RA k.fWeight l.fWeight) (RD (RA (RM k.fWeight k.fDX) (RM l.fWeight l.fDX)) (RA k.fWeight l.fWeight)) (RD (RA (RM k.fWeight k.fDY) (RM l.fWeight l.fDY)) (RA k.fWeight l.fWeight)))=zO k l:=rfl
   rw[e,vm]
   have e2:RM (RD (RM k.fWeight l.fWeight) (RA k.fWeight l.fWeight)) (sqR (RS k.fDX l.fDX) (RS k.fDY l.fDY))=aCl k l:=rfl
   rw[e2,dP (aCl k l) (VZs r3)]
   simp only[Option.bind_some]
   by_cases O:wP k l
   · rw[if_pos O,decide_eq_true (aHx hk hl O),decide_eq_true O.2.2.2];rfl
   · rw[if_neg O]
     by_cases V:ValidL (zO k l)
     · have:¬bA (aCl k l):=fun h=>O ⟨xL V.2.2.2.1,V.2.2.2.2.1,V.2.2.2.2.2,h⟩
       rw[decide_eq_true V,decide_eq_false this];rfl
     · rw[decide_eq_false V];rfl
 · unfold tZ
   simp only[a2,b2,c2,d2,e2,f2,g2,i2,j2,m2,n2,o2,p2,q2,r2,Option.bind_some,gQ a3,gQ e3,gQ j3,gQ r3]
   unfold wP zO aCl
   simp only[]
   by_cases A:bA (RA k.fWeight l.fWeight)
   · by_cases B:bA (RD (RA (RM k.fWeight k.fDX) (RM l.fWeight l.fDX)) (RA k.fWeight l.fWeight))
     · by_cases C:bA (RD (RA (RM k.fWeight k.fDY) (RM l.fWeight l.fDY)) (RA k.fWeight l.fWeight))
       · by_cases D:bA (RM (RD (RM k.fWeight l.fWeight) (RA k.fWeight l.fWeight)) (sqR (RS k.fDX l.fDX) (RS k.fDY l.fDY))) <;> simp[A,B,C,D,aFe,lF]
       · simp[A,B,C,aFe,lF]
     · simp[A,B,aFe,lF]
   · simp[A,aFe,lF]
def LSet (s:List Link):Prop:=(∀ x∈s,ValidL x)/\s.Pairwise eG
noncomputable instance (s:List Link):Decidable (LSet s):=Classical.propDecidable _
theorem aJR:∀ (l:List Int) (a N:Int),l.Pairwise (· < ·)->(∀ x∈l,a<=x/\x<N)->(l.length:Int)<=max 0 (N-a)
 | [],a,N,_,_=>by rw[List.length_nil];omega
 | x::l,a,N,h,hb=>by
  rw[List.pairwise_cons]at h
  have h1:=hb x (by simp)
  have:=aJR l (x+1) N h.2 (fun y hy=>⟨by have:=h.1 y hy;omega,(hb y (by simp[hy])).2⟩)
  rw[List.length_cons];omega
theorem LSet.len {s:List Link}(h:LSet s):s.length<=100:=by
 have:=aJR (s.map fun l=>l.fA*10+l.fB) 0 100 (by
  rw[List.pairwise_map]
  refine List.Pairwise.imp_of_mem (fun {a b} ha hb hr=>?_) h.2
  have h1:=h.1 a ha
  have h2:=h.1 b hb
  unfold ValidL at h1 h2
  unfold eG at hr
  omega) (by
  intro x hx
  obtain⟨l,hl,rfl⟩:=List.mem_map.1 hx
  have h1:=h.1 l hl
  unfold ValidL at h1
  omega)
 rw[List.length_map]at this;omega
theorem aAA {s:List Link}(h:∀ x∈s,ValidL x):aK s<=145*s.length:=aCc (fun x hx=>(h x hx).sz)
theorem LSet.sz {s:List Link}(h:LSet s):aK s<=14500:=by
 have:=aAA h.1
 have:=h.len
 omega
def lsF:Option Link->List Link->Prop
 | _,[]=>True
 | p,x::r=>ValidL x/\(∀ q,p=some q->eG q x)/\lsF (some x) r
noncomputable instance (p:Option Link)(s:List Link):Decidable (lsF p s):=Classical.propDecidable _
theorem aJM:∀ (s:List Link) (p:Option Link),lsF p s↔LSet s/\∀ q,p=some q->∀ x∈s,eG q x
 | [],p=>by simp[lsF,LSet]
 | x::r,p=>by
  rw[lsF,aJM r (some x)]
  unfold LSet
  rw[List.pairwise_cons]
  constructor
  · rintro⟨h1,h2,⟨h3,h4⟩,h5⟩
    refine⟨⟨fun y hy=>?_,fun y hy=>h5 x rfl y hy,h4⟩,fun q hq y hy=>?_⟩
    · rcases List.mem_cons.1 hy with rfl | hy
      · exact h1
      · exact h3 y hy
    · rcases List.mem_cons.1 hy with rfl | hy
      · exact h2 q hq
      · exact aAh (h2 q hq) (h5 x rfl y hy)
  · rintro⟨⟨h1,h2,h3⟩,h4⟩
    exact⟨h1 x (by simp),fun q hq=>h4 q hq x (by simp),⟨fun y hy=>h1 y (by simp[hy]),h3⟩,fun q hq y hy=>by cases hq;exact h2 y hy⟩
theorem jZ (s:List Link)(h:aK s<=4294967296):cV s=some (decide (LSet s)):=by
 unfold aK at h
 have hl:=oA cA s
 have main:∀ m k:Nat,m+k=s.length->∀ p:Option Link,(p=if k=0 then none else s[k-1]?)->lp (eC s) (k:Int)=some (if lsF p (s.drop k)then .inl ()else .inr false):=by
  intro m
  induction m with
  | zero =>
   intro k hk p _
   rw[List.drop_eq_nil_of_le (by omega),if_pos (by simp[lsF])]
   exact aI (by unfold eC;rw[if_neg (by omega)])
  | succ m ih =>
   intro k hk p hp
   have hlt:k<s.length:=by omega
   have hz:=sR (w:=cA) (List.getElem_mem hlt)
   have v:=(gR s[k] (by omega)).1
   rw[List.drop_eq_getElem_cons hlt]
   have st:eC s (k:Int)=some (if ValidL s[k]/\(∀ q,p=some q->eG q s[k])then .inl ((k+1:Nat):Int)else .inr (.inr false)):=by
    have w1:i64.wrap ((k:Int)+1)=((k+1:Nat):Int):=by rw[wi (by omega)];omega
    unfold eC
    rw[if_pos (by omega),aJ hlt]
    simp only[Option.bind_some,v,w1]
    by_cases V:ValidL s[k]
    · rw[decide_eq_true V,if_pos rfl]
      by_cases K:k=0
      · subst K
        rw[if_pos rfl]at hp;subst hp
        simp[V]
      · have hlt2:k-1<s.length:=by omega
        rw[if_neg K,List.getElem?_eq_getElem hlt2]at hp;subst hp
        have w2:i64.wrap ((k:Int)-1)=((k-1:Nat):Int):=by rw[wi (by omega)];omega
        rw[if_pos (by omega),w2,aJ hlt2]
        simp only[Option.bind_some,aEQ]
        by_cases L:eG s[k-1] s[k]
        · simp[V,L]
        · simp[L]
    · rw[decide_eq_false V];simp[V]
   by_cases G:ValidL s[k]/\(∀ q,p=some q->eG q s[k])
   · rw[if_pos G]at st
     rw[aR st,ih (k+1) (by omega) (some s[k]) (by rw[if_neg (by omega),Nat.add_sub_cancel,List.getElem?_eq_getElem hlt])]
     have:lsF p (s[k]::s.drop (k+1))↔lsF (some s[k]) (s.drop (k+1)):=by rw[lsF];exact⟨fun h=>h.2.2,fun h=>⟨G.1,G.2,h⟩⟩
     simp only[this]
   · rw[if_neg G]at st
     rw[aI st,if_neg]
     rw[lsF];exact fun h=>G ⟨h.1,h.2.1⟩
 have:=main s.length 0 (by omega) none (by simp)
 unfold cV
 rw[show((0:Nat):Int)=0 from rfl,List.drop_zero]at this
 rw[this]
 have e:lsF none s↔LSet s:=by rw[aJM];exact⟨fun h=>h.1,fun h=>⟨h,fun q hq=>by cases hq⟩⟩
 by_cases c:LSet s
 · rw[if_pos (e.2 c),decide_eq_true c];rfl
 · rw[if_neg (fun h=>c (e.1 h)),decide_eq_false c];rfl
def dH (l:Link):List Link->Nat
 | []=>0
 | y::r=>if eG y l then dH l r+1 else 0
theorem aJy (l:Link):∀ s:List Link,dH l s<=s.length
 | []=>Nat.le_refl _
 | y::r=>by
  have:=aJy l r
  rw[dH];split <;> simp <;> omega
theorem aCi (l:Link):∀ s:List Link,∀ x∈s.take (dH l s),eG x l
 | [],x,h=>by simp[dH]at h
 | y::r,x,h=>by
  rw[dH]at h
  by_cases c:eG y l
  · rw[if_pos c,List.take_succ_cons]at h
    rcases List.mem_cons.1 h with rfl | h
    · exact c
    · exact aCi l r x h
  · rw[if_neg c]at h;simp at h
theorem aAG (l:Link):∀ (s:List Link) (h:dH l s<s.length),¬eG s[dH l s] l
 | [],h=>by simp at h
 | y::r,h=>by
  by_cases c:eG y l
  · have e:dH l (y::r)=dH l r+1:=by rw[dH,if_pos c]
    have h':dH l r<r.length:=by rw[e]at h;simpa using h
    have:=aAG l r h'
    simpa [e]using this
  · have e:dH l (y::r)=0:=by rw[dH,if_neg c]
    simpa [e]using c
theorem aLF (s:List Link)(l:Link)(h:s.length<=4294967296):lp (fV l s) 0=some ((dH l s:Nat):Int):=by
 have main:∀ m k:Nat,m+k=s.length->lp (fV l s) (k:Int)=some ((k+dH l (s.drop k):Nat):Int):=by
  intro m
  induction m with
  | zero =>
   intro k hk
   rw[List.drop_eq_nil_of_le (by omega)]
   refine aI ?_
   unfold fV
   rw[if_neg (by omega)];rfl
  | succ m ih =>
   intro k hk
   have hlt:k<s.length:=by omega
   have w1:i64.wrap ((k:Int)+1)=((k+1:Nat):Int):=by rw[wi (by omega)];omega
   rw[List.drop_eq_getElem_cons hlt,dH]
   have st:fV l s (k:Int)=some (if eG s[k] l then .inl ((k+1:Nat):Int)else .inr (k:Int)):=by
    unfold fV
    rw[if_pos (by omega),aJ hlt]
    simp only[Option.bind_some,aEQ,w1]
    by_cases L:eG s[k] l <;> simp[L]
   by_cases L:eG s[k] l
   · rw[if_pos L]at st ⊢
     rw[aR st,ih (k+1) (by omega)]
     congr 2;omega
   · rw[if_neg L]at st ⊢
     rw[aI st];rfl
 have:=main s.length 0 (by omega)
 simpa using this
noncomputable def yZ (s:List Link)(l:Link):Option (List Link×Rat) :=
 if h:dH l s<s.length then
  if eG l s[dH l s]then some (s.take (dH l s)++[l]++s.drop (dH l s),dG 0)
  else if wP s[dH l s] l then some (s.take (dH l s)++[zO s[dH l s] l]++s.drop (dH l s+1),aCl s[dH l s] l)else none
 else some (s.take (dH l s)++[l]++s.drop (dH l s),dG 0)
def pk:Option (List Link×Rat)->List Link×Rat×Bool
 | some (s,e)=>(s,e,true)
 | none=>([],lF,false)
theorem aET {s:List Link}{m:Link}{p q:Nat}(hs:LSet s)(hm:ValidL m)(h1:∀ x∈s.take p,eG x m)(h2:∀ y∈s.drop q,eG m y):LSet (s.take p++[m]++s.drop q):=by
 refine⟨fun x hx=>?_,?_⟩
 · rw[List.mem_append,List.mem_append,List.mem_singleton]at hx
   rcases hx with(hx | rfl) | hx
   · exact hs.1 x (List.mem_of_mem_take hx)
   · exact hm
   · exact hs.1 x (List.mem_of_mem_drop hx)
 · rw[List.append_assoc,List.pairwise_append]
   refine⟨hs.2.sublist (List.take_sublist _ _),?_,fun a ha b hb=>?_⟩
   · rw[List.singleton_append,List.pairwise_cons]
     exact⟨h2,hs.2.sublist (List.drop_sublist _ _)⟩
   · rw[List.singleton_append]at hb
     rcases List.mem_cons.1 hb with rfl | hb
     · exact h1 a ha
     · exact aAh (h1 a ha) (h2 b hb)
theorem aOn {s:List Link}(h:s.Pairwise eG){p:Nat}(hp:p<s.length):(∀ x∈s.take p,eG x s[p])/\∀ y∈s.drop (p+1),eG s[p] y:=by
 have e:s=s.take p++(s[p]::s.drop (p+1)):=by rw[<- List.drop_eq_getElem_cons hp,List.take_append_drop]
 rw[e,List.pairwise_append,List.pairwise_cons]at h
 exact⟨fun x hx=>h.2.2 x hx _ List.mem_cons_self,h.2.1.1⟩
theorem aGR {s:List Link}{l:Link}(hs:LSet s)(hl:ValidL l){s':List Link}{e:Rat}(h:yZ s l=some (s',e)):LSet s'/\VZ e:=by
 unfold yZ at h
 have z:VZ (dG 0):=.inl (vD 0 (by omega))
 by_cases c:dH l s<s.length
 · rw[dif_pos c]at h
   obtain⟨g1,g2⟩:=aOn hs.2 c
   by_cases c2:eG l s[dH l s]
   · rw[if_pos c2]at h;cases h
     refine⟨aET hs hl (aCi l s) (fun y hy=>?_),z⟩
     rw[List.drop_eq_getElem_cons c]at hy
     rcases List.mem_cons.1 hy with rfl | hy
     · exact c2
     · exact aAh c2 (g2 y hy)
   · rw[if_neg c2]at h
     have hv:=hs.1 _ (List.getElem_mem c)
     have nl:=aAG l s c
     have hA:s[dH l s].fA=l.fA/\s[dH l s].fB=l.fB:=by unfold eG at c2 nl;omega
     by_cases O:wP s[dH l s] l
     · rw[if_pos O]at h;cases h
       exact⟨aET hs (aHx hv hl O) g1 g2,(aJK hv hl hA.1 hA.2).2.2⟩
     · rw[if_neg O]at h;cases h
 · rw[dif_neg c]at h;cases h
   refine⟨aET hs hl (aCi l s) (fun y hy=>?_),z⟩
   rw[List.drop_eq_nil_of_le (by omega)]at hy;cases hy
theorem aGS (s:List Link)(l:Link):zI s l=fV l s:=rfl
theorem sG {α:Type}(x:α):aU x=some x:=rfl
theorem aF6 {s:List Link}{l:Link}(hs:LSet s)(hl:ValidL l):lK s l=some (pk (yZ s l))/\yS s l=some (pk (yZ s l)):=by
 have hlen:=hs.len
 have hp:=aJy l s
 have v:=(gR l (by have:=hl.sz;omega)).1
 have i1:=jZ s (by have:=hs.sz;omega)
 have c1:=aAX s (by have:=hs.sz;omega)
 have c2:=qU l (by have:=hl.sz;omega)
 have lp1:=aLF s l (by omega)
 have rf1:cC 0=some (dG 0):=bP 0 (by omega)
 have rf2:bQ 0=some (dG 0):=dF 0 (by omega)
 have s1:sub s 0 ((dH l s:Nat):Int)=some (s.take (dH l s)):=by rw[pK _ _ _ (by omega)];simp
 have s2:sub s ((dH l s:Nat):Int) (s.length:Int)=some (s.drop (dH l s)):=by
  rw[pK _ _ _ (by omega)];congr 1
  rw[List.take_of_length_le];rfl
  rw[List.length_drop];omega
 have t1:(s.take (dH l s)).length<=100:=by rw[List.length_take];omega
 have t2:(s.drop (dH l s)).length<=100:=by rw[List.length_drop];omega
 unfold lK yS yZ
 rw[aGS,i1,v,decide_eq_true hs,decide_eq_true hl,lp1]
 simp only[Option.bind_some,if_true,Bool.not_true,Bool.false_eq_true,if_false,c1,lp1,s1,s2,sG,List.nil_append]
 rw[aL (by simp only[List.length_nil,Nat.zero_add];omega)]
 simp only[Option.bind_some]
 by_cases c:dH l s<s.length
 · have c':((dH l s:Nat):Int)<(s.length:Int):=by omega
   have c'':¬((dH l s:Nat):Int)=(s.length:Int):=by omega
   rw[if_pos c',if_neg c'',dif_pos c,aJ c]
   simp only[Option.bind_some,aEQ,aIi]
   by_cases L:eG l s[dH l s]
   · rw[if_pos L,decide_eq_true L]
     simp only[Bool.not_true,Bool.false_eq_true,if_false,if_true,c2,Option.bind_some,rf1,rf2]
     rw[aL (by omega)]
     simp only[Option.bind_some]
     rw[aL (by rw[List.length_append,List.length_singleton];omega)]
     exact⟨rfl,rfl⟩
   · rw[if_neg L,decide_eq_false L]
     have hv:=hs.1 _ (List.getElem_mem c)
     have nl:=aAG l s c
     have hA:s[dH l s].fA=l.fA/\s[dH l s].fB=l.fB:=by unfold eG at L nl;omega
     obtain⟨m1,m2,m3⟩:=aJK hv hl hA.1 hA.2
     simp only[Bool.not_false,if_true,Bool.false_eq_true,if_false,m1,m2,Option.bind_some]
     by_cases O:wP s[dH l s] l
     · rw[if_pos O,if_pos O]
       have w1:i64.wrap (((dH l s:Nat):Int)+1)=((dH l s+1:Nat):Int):=by rw[wi (by omega)];omega
       have s3:sub s ((dH l s+1:Nat):Int) (s.length:Int)=some (s.drop (dH l s+1)):=by
        rw[pK _ _ _ (by omega)];congr 1
        rw[List.take_of_length_le];rfl
        rw[List.length_drop];omega
       have t3:(s.drop (dH l s+1)).length<=100:=by rw[List.length_drop];omega
       simp only[if_true,w1,s3,Option.bind_some,qW]
       rw[aL (by omega)]
       simp only[Option.bind_some]
       rw[aL (by rw[List.length_append,List.length_singleton];omega)]
       refine⟨?_,rfl⟩
       simp only[pk]
       rw[List.set_eq_take_append_cons_drop,if_pos c,List.append_assoc,List.singleton_append]
     · rw[if_neg O,if_neg O]
       exact⟨rfl,rfl⟩
 · have c':¬((dH l s:Nat):Int)<(s.length:Int):=by omega
   have c'':((dH l s:Nat):Int)=(s.length:Int):=by omega
   rw[if_neg c',if_pos c'',dif_neg c]
   simp only[Option.bind_some,Bool.false_eq_true,if_false,if_true,c2,rf1,rf2]
   rw[aL (by omega)]
   simp only[Option.bind_some]
   rw[aL (by rw[List.length_append,List.length_singleton];omega)]
   exact⟨rfl,rfl⟩
end Go.Ev
/- Joining links into a link set, both programs. -/
namespace Go.Ev
set_option linter.all false
theorem aOZ {r s:Rat}(hr:VZ r)(hs:VZ s)(h:¬bA r):RA r s=lF:=by
 have q:=(wC hr hs).1
 unfold cR at q
 rw[dP r (VZs hr),decide_eq_false h]at q
 simpa [lF]using q.symm
noncomputable def rY:List Link->List Link->Rat->Option (List Link×Rat)
 | [],s,e=>some (s,e)
 | x::r,s,e=>match yZ s x with
  | none=>none
  | some (s',e')=>if bA (RA e e')then rY r s' (RA e e')else none
theorem aHI:∀ (l s:List Link) (e:Rat),(∀ x∈l,ValidL x)->LSet s->bA e->∀ s' e',rY l s e=some (s',e')->LSet s'/\bA e'
 | [],s,e,_,hs,he,s',e',h=>by rw[rY]at h;cases h;exact⟨hs,he⟩
 | x::r,s,e,hv,hs,he,s',e',h=>by
  rw[rY]at h
  cases ha:yZ s x with
  | none=>rw[ha]at h;cases h
  | some t =>
   obtain⟨s1,e1⟩:=t
   rw[ha]at h
   simp only[]at h
   obtain⟨g1,g2⟩:=aGR hs (hv x (by simp)) ha
   by_cases c:bA (RA e e1)
   · rw[if_pos c]at h
     exact aHI r s1 _ (fun y hy=>hv y (by simp[hy])) g1 c s' e' h
   · rw[if_neg c]at h;cases h
noncomputable instance (l:List Link):Decidable (∀ x∈l,ValidL x):=Classical.propDecidable _
def aBc:List Link×Rat×Bool:=([],lF,false)
theorem aIO (l:List Link)(hv:∀ x∈l,ValidL x)(hl:l.length<=4294967296):∀ m k:Nat,m+k=l.length->∀ s e,LSet s->VZ e->
 lp (iD l) (s,(k:Int),e)=some (match rY (l.drop k) s e with | some t=>.inl t | none=>.inr aBc):=by
 intro m
 induction m with
 | zero =>
  intro k hk s e hs he
  rw[List.drop_eq_nil_of_le (by omega),rY]
  exact aI (by unfold iD;simp only[];rw[if_neg (by omega)])
 | succ m ih =>
  intro k hk s e hs he
  have hlt:k<l.length:=by omega
  have hx:=hv _ (List.getElem_mem hlt)
  have w1:IntKind.i64.wrap ((k:Int)+1)=((k+1:Nat):Int):=by rw[wi (by omega)];omega
  have a:=(aF6 hs hx).2
  rw[List.drop_eq_getElem_cons hlt,rY]
  cases ha:yZ s l[k]with
  | none =>
   rw[ha]at a
   have g:=(wC he aAV).2.1
   refine aI ?_
   unfold iD
   simp only[]
   rw[if_pos (by omega),aJ hlt]
   simp only[Option.bind_some,a,pk,g]
   rfl
  | some t =>
   obtain⟨s1,e1⟩:=t
   rw[ha]at a
   obtain⟨g1,g2⟩:=aGR hs hx ha
   obtain⟨_,q2,q3⟩:=wC he g2
   have st:iD l (s,(k:Int),e)=some (if bA (RA e e1)then .inl (s1,((k+1:Nat):Int),RA e e1)else .inr (.inr aBc)):=by
    unfold iD
    simp only[]
    rw[if_pos (by omega),aJ hlt]
    simp only[Option.bind_some,a,pk,q2,gQ q3,if_true,w1]
    by_cases c:bA (RA e e1)
    · simp[c]
    · simp[c,aBc,lF]
   simp only[]
   by_cases c:bA (RA e e1)
   · rw[if_pos c]at st ⊢
     rw[aR st]
     exact ih (k+1) (by omega) s1 _ g1 q3
   · rw[if_neg c]at st ⊢
     rw[aI st]
def aMr:(List Link×Rat) ⊕ (List Link×Rat×Bool)->List Link×Rat×Bool
 | .inl d=>if bA d.2 then(d.1,d.2,true)else aBc
 | .inr x=>x
theorem aIN (l:List Link)(hz:aK l<=4294967296):∀ m k:Nat,m+k=l.length->∀ s e,LSet s->VZ e->
 ∃ R,lp (eB l) (s,(k:Int),e)=some R/\(∀ d,R=.inl d->VZ d.2)/\aMr R=pk (if bA e/\(∀ x∈l.drop k,ValidL x)then rY (l.drop k) s e else none):=by
 have hl:l.length<=4294967296:=by have:=oA cA l;unfold aK at hz;omega
 intro m
 induction m with
 | zero =>
  intro k hk s e hs he
  refine⟨.inl (s,e),aI (by unfold eB;simp only[];rw[if_neg (by omega)]),fun d h=>(by cases h;exact he),?_⟩
  rw[List.drop_eq_nil_of_le (by omega),rY]
  by_cases c:bA e
  · simp[aMr,pk,c]
  · simp[aMr,pk,c,aBc]
 | succ m ih =>
  intro k hk s e hs he
  have hlt:k<l.length:=by omega
  have w1:IntKind.i64.wrap ((k:Int)+1)=((k+1:Nat):Int):=by rw[wi (by omega)];omega
  have hxz:cA l[k]<=4294967296:=by have:=sR (w:=cA) (List.getElem_mem hlt);unfold aK at hz;omega
  rw[List.drop_eq_getElem_cons hlt]
  by_cases hx:ValidL l[k]
  · have a:=(aF6 hs hx).1
    rw[rY]
    cases ha:yZ s l[k]with
    | none =>
     rw[ha]at a
     refine⟨.inr aBc,aI ?_,fun d h=>(by cases h),?_⟩
     · unfold eB
       simp only[]
       rw[if_pos (by omega),aJ hlt]
       simp only[Option.bind_some,a,pk]
       rfl
     · simp[aMr,pk,aBc]
    | some t =>
     obtain⟨s1,e1⟩:=t
     rw[ha]at a
     obtain⟨g1,g2⟩:=aGR hs hx ha
     obtain⟨q1,_,q3⟩:=wC he g2
     have st:eB l (s,(k:Int),e)=some (.inl (s1,((k+1:Nat):Int),RA e e1)):=by
      unfold eB
      simp only[]
      rw[if_pos (by omega),aJ hlt]
      simp only[Option.bind_some,a,pk,q1,if_true,w1]
     obtain⟨R,r1,r2,r3⟩:=ih (k+1) (by omega) s1 _ g1 q3
     refine⟨R,by rw[aR st];exact r1,r2,?_⟩
     rw[r3]
     simp only[]
     by_cases c:bA e
     · by_cases c2:bA (RA e e1)
       · have:(∀ x∈l[k]::l.drop (k+1),ValidL x)↔(∀ x∈l.drop (k+1),ValidL x):=⟨fun h x hx'=>h x (List.mem_cons_of_mem _ hx'),fun h x hx'=>by rcases List.mem_cons.1 hx' with rfl | h';exact hx;exact h x h'⟩
         simp only[c,c2,true_and,if_true,this]
       · simp only[c,c2,true_and,false_and,if_false,ite_self]
     · have c2:¬bA (RA e e1):=by rw[aOZ he g2 c];exact zR
       simp only[c,c2,false_and,if_false]
  · refine⟨.inr aBc,aI ?_,fun d h=>(by cases h),?_⟩
    · unfold eB
      simp only[]
      rw[if_pos (by omega),aJ hlt]
      have a:lK s l[k]=some aBc:=by
       unfold lK
       rw[jZ s (by have:=hs.sz;omega),(gR l[k] hxz).1,decide_eq_true hs,decide_eq_false hx]
       rfl
      simp only[Option.bind_some,a,aBc]
      rfl
    · rw[if_neg (fun h=>hx (h.2 _ List.mem_cons_self))];rfl
theorem aF8 (l:List Link)(hz:aK l<=4294967296):tX l=some (decide (∀ x∈l,ValidL x)):=by
 have hl:l.length<=4294967296:=by have:=oA cA l;unfold aK at hz;omega
 have main:∀ m k:Nat,m+k=l.length->lp (jF l) (k:Int)=some (if(∀ x∈l.drop k,ValidL x)then .inl ()else .inr false):=by
  intro m
  induction m with
  | zero =>
   intro k hk
   rw[List.drop_eq_nil_of_le (by omega),if_pos (by simp)]
   exact aI (by unfold jF;rw[if_neg (by omega)])
  | succ m ih =>
   intro k hk
   have hlt:k<l.length:=by omega
   have w1:IntKind.i64.wrap ((k:Int)+1)=((k+1:Nat):Int):=by rw[wi (by omega)];omega
   have v:=(gR l[k] (by have:=sR (w:=cA) (List.getElem_mem hlt);unfold aK at hz;omega)).2
   have st:jF l (k:Int)=some (if ValidL l[k]then .inl ((k+1:Nat):Int)else .inr (.inr false)):=by
    unfold jF
    rw[if_pos (by omega),aJ hlt]
    simp only[Option.bind_some,v,w1]
    by_cases c:ValidL l[k] <;> simp[c]
   rw[List.drop_eq_getElem_cons hlt]
   by_cases c:ValidL l[k]
   · rw[if_pos c]at st
     rw[aR st,ih (k+1) (by omega)]
     have:(∀ x∈l[k]::l.drop (k+1),ValidL x)↔(∀ x∈l.drop (k+1),ValidL x):=⟨fun h x hx'=>h x (List.mem_cons_of_mem _ hx'),fun h x hx'=>by rcases List.mem_cons.1 hx' with rfl | h';exact c;exact h x h'⟩
     simp only[this]
   · rw[if_neg c]at st
     rw[aI st,if_neg (fun h=>c (h _ List.mem_cons_self))]
 have:=main l.length 0 (by omega)
 unfold tX
 rw[show((0:Nat):Int)=0 from rfl,List.drop_zero]at this
 rw[this]
 by_cases c:∀ x∈l,ValidL x
 · rw[if_pos c,decide_eq_true c];rfl
 · rw[if_neg c,decide_eq_false c];rfl
theorem aAz:LSet []:=⟨by simp,List.Pairwise.nil⟩
theorem aAE:bA (dG 0):=vD 0 (by omega)
noncomputable def jnP (l:List Link):Option (List Link×Rat):=if ∀ x∈l,ValidL x then rY l [] (dG 0)else none
theorem aBo {l s:List Link}{e:Rat}(h:jnP l=some (s,e)):(∀ x∈l,ValidL x)/\LSet s/\bA e:=by
 unfold jnP at h
 by_cases c:∀ x∈l,ValidL x
 · rw[if_pos c]at h
   exact⟨c,aHI l [] _ c aAz aAE s e h⟩
 · rw[if_neg c]at h;cases h
theorem aAj {l:List Link}(hv:∀ x∈l,ValidL x)(hl:l.length<=4294967296):nW l=some (pk (jnP l)):=by
 unfold nW jnP
 rw[dF 0 (by omega),if_pos hv]
 simp only[Option.bind_some]
 have:=aIO l hv hl l.length 0 (by omega) [] (dG 0) aAz (.inl aAE)
 rw[show((0:Nat):Int)=0 from rfl,List.drop_zero]at this
 rw[this]
 cases rY l [] (dG 0)with
 | none=>rfl
 | some t=>rfl
theorem wU (l:List Link)(hz:aK l<=4294967296):gW l=some (pk (jnP l))/\vT l=some (pk (jnP l)):=by
 have hl:l.length<=4294967296:=by have:=oA cA l;unfold aK at hz;omega
 constructor
 · unfold gW
   rw[bP 0 (by omega)]
   simp only[Option.bind_some]
   obtain⟨R,r1,r2,r3⟩:=aIN l hz l.length 0 (by omega) [] (dG 0) aAz (.inl aAE)
   rw[show((0:Nat):Int)=0 from rfl]at r1
   rw[List.drop_zero]at r3
   rw[r1]
   have e:(if bA (dG 0)/\(∀ x∈l,ValidL x)then rY l [] (dG 0)else none)=jnP l:=by unfold jnP;simp only[aAE,true_and]
   rw[<- e,<- r3]
   cases R with
   | inl d =>
    simp only[Option.bind_some]
    rw[dP d.2 (VZs (r2 d rfl))]
    simp only[Option.bind_some,aMr]
    by_cases c:bA d.2
    · rw[decide_eq_true c,if_pos c];rfl
    · rw[decide_eq_false c,if_neg c];rfl
   | inr x=>rfl
 · unfold vT
   rw[aF8 l hz]
   simp only[Option.bind_some]
   by_cases c:∀ x∈l,ValidL x
   · rw[decide_eq_true c,if_pos rfl,aAj c hl]
     simp only[Option.bind_some]
     cases hj:jnP l with
     | none=>rfl
     | some t =>
      obtain⟨s,e⟩:=t
      obtain⟨_,g1,_⟩:=aBo hj
      simp only[pk,if_true]
      rw[sL s (by have:=g1.sz;omega)]
      rfl
   · rw[decide_eq_false c]
     unfold jnP
     rw[if_neg c];rfl
end Go.Ev
/- Cliques: their nodes in order. -/
namespace Go.Ev
set_option linter.all false
theorem yA:∀ {a b:List Int},a.Pairwise (· < ·)->b.Pairwise (· < ·)->(∀ x,x∈a↔x∈b)->a=b
 | [],[],_,_,_=>rfl
 | [],y::b,_,_,h=>absurd ((h y).2 (by simp)) (by simp)
 | x::a,[],_,_,h=>absurd ((h x).1 (by simp)) (by simp)
 | x::a,y::b,ha,hb,h=>by
  rw[List.pairwise_cons]at ha hb
  have hxy:x=y:=by
   have h1:=(h x).1 (by simp)
   have h2:=(h y).2 (by simp)
   rcases List.mem_cons.1 h1 with e | e
   · exact e
   · rcases List.mem_cons.1 h2 with e' | e'
     · exact e'.symm
     · have:=hb.1 x e;have:=ha.1 y e';omega
  subst hxy
  have:a=b:=yA ha.2 hb.2 (fun z=>by
   constructor
   · intro hz
     have:=(h z).1 (by simp[hz])
     rcases List.mem_cons.1 this with e | e
     · subst e;have:=ha.1 z hz;omega
     · exact e
   · intro hz
     have:=(h z).2 (by simp[hz])
     rcases List.mem_cons.1 this with e | e
     · subst e;have:=hb.1 z hz;omega
     · exact e)
  rw[this]
def zN:List Int->Int->List Int
 | [],n=>[n]
 | x::l,n=>if x<n then x::zN l n else if x=n then x::l else n::x::l
theorem xM:∀ (l:List Int) (n x:Int),x∈zN l n↔x=n\/x∈l
 | [],n,x=>by simp[zN]
 | y::l,n,x=>by
  unfold zN
  by_cases h1:y<n
  · rw[if_pos h1,List.mem_cons,List.mem_cons,xM l n x]
    constructor
    · rintro(h | h | h) <;> simp[h]
    · rintro(h | h | h) <;> simp[h]
  · rw[if_neg h1]
    by_cases h2:y=n
    · rw[if_pos h2];subst h2;simp
    · rw[if_neg h2];simp
theorem tJ:∀ (l:List Int) (n:Int),l.Pairwise (· < ·)->(zN l n).Pairwise (· < ·)
 | [],n,_=>by simp[zN]
 | y::l,n,h=>by
  unfold zN
  rw[List.pairwise_cons]at h
  by_cases h1:y<n
  · rw[if_pos h1,List.pairwise_cons]
    exact⟨fun x hx=>by rcases(xM l n x).1 hx with e | e;omega;exact h.1 x e,tJ l n h.2⟩
  · rw[if_neg h1]
    by_cases h2:y=n
    · rw[if_pos h2,List.pairwise_cons];exact h
    · rw[if_neg h2,List.pairwise_cons]
      exact⟨fun x hx=>by rcases List.mem_cons.1 hx with e | e;omega;have:=h.1 x e;omega,List.pairwise_cons.2 h⟩
theorem xN:∀ (l:List Int) (n:Int),(zN l n).length<=l.length+1
 | [],n=>by simp[zN]
 | y::l,n=>by
  unfold zN
  split
  · simp[xN l n]
  · split <;> simp
def lQ (l:List Int)(n:Int):Nat:=(l.takeWhile (fun x=>decide (x<n))).length
theorem aIS (l:List Int)(n:Int):lQ l n<=l.length:=by
 unfold lQ
 induction l with
 | nil=>simp
 | cons x l ih =>
  rw[List.takeWhile_cons]
  split
  · simpa using ih
  · simp
theorem aBX (x:Int)(l:List Int)(n:Int):lQ (x::l) n=if x<n then lQ l n+1 else 0:=by
 unfold lQ
 rw[List.takeWhile_cons]
 by_cases h:x<n <;> simp[h]
theorem aJw:∀ (l:List Int) (n:Int),zN l n=if l[lQ l n]?=some n then l else l.take (lQ l n)++[n]++l.drop (lQ l n)
 | [],n=>by simp[zN,lQ]
 | x::l,n=>by
  rw[aBX]
  unfold zN
  by_cases h:x<n
  · rw[if_pos h,if_pos h,aJw l n]
    simp only[List.getElem?_cons_succ,List.take_succ_cons,List.drop_succ_cons]
    split <;> simp
  · rw[if_neg h,if_neg h]
    by_cases h2:x=n <;> simp[h2]
theorem aLz (l:List Int)(n:Int)(h:l.length<=4294967296):lp (fN l n) 0=some ((lQ l n:Nat):Int):=by
 have main:∀ m k:Nat,m+k=l.length->lp (fN l n) (k:Int)=some ((k+lQ (l.drop k) n:Nat):Int):=by
  intro m
  induction m with
  | zero =>
   intro k hk
   have:k=l.length:=by omega
   subst this
   rw[aI (r:=(l.length:Int)) (by unfold fN;rw[if_neg (by omega)];rfl),List.drop_length];simp[lQ]
  | succ m ih =>
   intro k hk
   have hlt:k<l.length:=by omega
   rw[List.drop_eq_getElem_cons hlt,aBX]
   by_cases c:l[k]<n
   · rw[if_pos c]
     have e:fN l n (k:Int)=some (.inl ((k:Int)+1)):=by
      unfold fN
      rw[if_pos (by omega),aJ hlt,wi (by omega)]
      simp[c]
     rw[aR e,show(k:Int)+1=((k+1:Nat):Int)by omega,ih (k+1) (by omega)]
     congr 2;omega
   · rw[if_neg c]
     have e:fN l n (k:Int)=some (.inr (k:Int)):=by
      unfold fN
      rw[if_pos (by omega),aJ hlt]
      simp[c]
     rw[aI e];simp
 have:=main l.length 0 (by omega)
 simpa using this
theorem aHe (l:List Int)(n:Int)(h:l.length<=4294967296):lB l n=some (zN l n):=by
 have hf:=aIS l n
 unfold lB
 rw[aLz l n h,aJw]
 simp only[Option.bind_some]
 by_cases hlt:lQ l n<l.length
 · rw[if_pos (by omega),aJ hlt,List.getElem?_eq_getElem hlt]
   simp only[Option.bind_some,decide_eq_true_eq,Option.some.injEq]
   by_cases c:l[lQ l n]=n
   · rw[if_pos c,if_pos c]
   · rw[if_neg c,if_neg c,pK _ _ _ (by omega),pK _ _ _ (by omega)]
     simp only[Option.bind_some,aH,List.nil_append]
     rw[aL (by simp;omega),aL (by simp;omega),aL (by simp;omega)]
     simp only[Option.bind_some]
     simp
     rw[List.take_of_length_le (by simp)]
 · have:lQ l n=l.length:=by omega
   rw[if_neg (by omega),this,if_neg (by simp)]
   simp only[Option.bind_some,Bool.false_eq_true,if_false]
   rw[pK _ _ _ (by omega),pK _ _ _ (by omega)]
   simp only[Option.bind_some,aH,List.nil_append]
   rw[aL (by simp;omega),aL (by simp;omega),aL (by simp;omega)]
   simp
end Go.Ev
/- The arms of a node of a link set, both programs. -/
namespace Go.Ev
set_option linter.all false
def qZ (v:Int)(l:Link):Int:=if l.fA=v then l.fB else l.fA
def tch (v:Int)(l:Link):Bool:=decide (l.fA=v\/l.fB=v)
noncomputable def zK (v:Int)(l:Link):l08Arm:=if l.fA=v then⟨l.fB,l.fWeight,RN l.fDX,RN l.fDY⟩else⟨l.fA,l.fWeight,l.fDX,l.fDY⟩
noncomputable def bC (v:Int)(s:List Link):List l08Arm:=(s.filter (tch v)).map (zK v)
theorem aJb (v:Int)(l:Link):(zK v l).fnode=qZ v l:=by unfold zK qZ;split <;> rfl
theorem aFC {s:List Link}(hs:LSet s)(v:Int):((s.filter (tch v)).map (qZ v)).Pairwise (· < ·):=by
 rw[List.pairwise_map]
 refine List.Pairwise.imp_of_mem (fun {a b} ha hb hr=>?_) (hs.2.sublist List.filter_sublist)
 rw[List.mem_filter]at ha hb
 have h1:=hs.1 a ha.1
 have h2:=hs.1 b hb.1
 have t1:=ha.2
 have t2:=hb.2
 unfold tch at t1 t2
 rw[decide_eq_true_eq]at t1 t2
 unfold ValidL at h1 h2
 unfold eG at hr
 unfold qZ
 split <;> split <;> omega
theorem aOq {s:List Link}(hs:LSet s)(v:Int):qR s v=some ((s.filter (tch v)).map (qZ v)):=by
 have hlen:=hs.len
 unfold qR
 obtain⟨e1,e2⟩:=kR (step:=lU s v) s (fun k t=>(t,(k:Int))) (fun t l=>if tch v l then zN t (qZ v l)else t) (fun t=>t)
  (fun k t=>t.length<=k/\t.Pairwise (· < ·)/\∀ x,x∈t↔x∈((s.take k).filter (tch v)).map (qZ v)) (fun k t hk hI=>by
   obtain⟨i1,i2,i3⟩:=hI
   have hv:=hs.1 _ (List.getElem_mem hk)
   have w1:IntKind.i64.wrap ((k:Int)+1)=((k+1:Nat):Int):=by rw[wi (by omega)];omega
   refine⟨?_,?_,?_,?_⟩
   · unfold lU
     simp only[]
     rw[if_pos (by omega),aJ hk]
     unfold ValidL at hv
     simp only[Option.bind_some,aHe t _ (by omega:t.length<=4294967296),w1]
     by_cases A:(s[k]).fA=v
     · have B:¬(s[k]).fB=v:=by omega
       simp[A,B,tch,qZ]
     · by_cases B:(s[k]).fB=v
       · rw[if_neg A]
         simp only[Option.bind_some]
         rw[if_pos B,aHe t _ (by omega:t.length<=4294967296)]
         simp[A,B,tch,qZ]
       · simp[A,B,tch,qZ]
   · have:=xN t (qZ v s[k])
     split <;> omega
   · split
     · exact tJ _ _ i2
     · exact i2
   · intro x
     have tk:s.take (k+1)=s.take k++[s[k]]:=by rw[List.take_add_one,List.getElem?_eq_getElem hk];rfl
     rw[tk,List.filter_append,List.map_append,List.mem_append,<- i3 x]
     by_cases T:tch v s[k]=true
     · simp only[T,if_true,xM,List.filter_cons_of_pos,List.filter_nil,List.map_cons,List.map_nil,List.mem_singleton]
       exact Or.comm
     · simp[T]) (fun t _=>by unfold lU;simp only[];rw[if_neg (by omega)]) [] ⟨by simp,List.Pairwise.nil,by simp⟩
 rw[show((0:Nat):Int)=0 from rfl]at e1
 rw[e1]
 simp only[Option.bind_some]
 congr 1
 obtain⟨_,g2,g3⟩:=e2
 rw[List.take_length]at g3
 exact yA g2 (aFC hs v) g3
theorem LSet.uniq {s:List Link}(hs:LSet s){a b:Link}(ha:a∈s)(hb:b∈s)(h1:a.fA=b.fA)(h2:a.fB=b.fB):a=b:=by
 obtain⟨i,hi,rfl⟩:=List.getElem_of_mem ha
 obtain⟨j,hj,rfl⟩:=List.getElem_of_mem hb
 have pw:=List.pairwise_iff_getElem.1 hs.2
 rcases Nat.lt_trichotomy i j with h | h | h
 · have:=pw i j hi hj h;unfold eG at this;omega
 · subst h;rfl
 · have:=pw j i hj hi h;unfold eG at this;omega
theorem aOx (p q r t:Prop)[Decidable p][Decidable q][Decidable r][Decidable t]:((if p then(if q then some true else(if r then some (decide t)else some false))else(if r then some (decide t)else some false)):Option Bool)=some (decide ((p/\q)\/(r/\t))):=by
 by_cases p <;> by_cases q <;> by_cases r <;> by_cases t <;> simp[*]
theorem aMU {s:List Link}(hs:LSet s){v:Int}{l:Link}(hl:l∈s)(ht:tch v l=true):tG s (qZ v l) v=some (l,true):=by
 have hlen:=hs.len
 have hv:=hs.1 l hl
 unfold tG
 rw[jZ s (by have:=hs.sz;omega),decide_eq_true hs]
 simp only[Option.bind_some,if_true]
 obtain⟨r,e,q⟩:=aKy (step:=nG s (qZ v l) v) s.length (fun r=>r=.inr (l,true)) (fun k=>l∈s.drop k) (by simpa using hl) (fun k hk hj=>by
  have hx:=hs.1 _ (List.getElem_mem hk)
  have w1:IntKind.i64.wrap ((k:Int)+1)=((k+1:Nat):Int):=by rw[wi (by omega)];omega
  rw[List.drop_eq_getElem_cons hk]at hj
  have st:nG s (qZ v l) v (k:Int)=some (if(((s[k]).fA=qZ v l/\(s[k]).fB=v)\/((s[k]).fA=v/\(s[k]).fB=qZ v l))then .inr (.inr (s[k],true))else .inl ((k+1:Nat):Int)):=by
   unfold nG
   rw[if_pos (by omega),aJ hk]
   simp only[Option.bind_some,w1,qU s[k] (by have:=hx.sz;omega)]
   rw[aOx]
   simp only[Option.bind_some]
   by_cases c:((s[k]).fA=qZ v l/\(s[k]).fB=v)\/((s[k]).fA=v/\(s[k]).fB=qZ v l)
   · rw[if_pos c,decide_eq_true c];rfl
   · rw[if_neg c,decide_eq_false c];rfl
  unfold tch at ht
  rw[decide_eq_true_eq]at ht
  unfold ValidL at hx hv
  by_cases c:((s[k]).fA=qZ v l/\(s[k]).fB=v)\/((s[k]).fA=v/\(s[k]).fB=qZ v l)
  · rw[if_pos c]at st
    right
    refine⟨_,st,?_⟩
    have:s[k]=l:=by
     refine hs.uniq (List.getElem_mem hk) hl ?_ ?_
     · unfold qZ at c;split at c <;> omega
     · unfold qZ at c;split at c <;> omega
    rw[this]
  · rw[if_neg c]at st
    left
    refine⟨st,?_⟩
    rcases List.mem_cons.1 hj with e | e
    · exfalso;apply c
      rw[<- e];unfold qZ;split <;> omega
    · exact e) (fun hj=>by rw[List.drop_length]at hj;cases hj)
 rw[e,q];rfl
theorem aN9 {r:Rat}(h:VZ r):VZ (RN r):=(aKV h).2.2
def rZ (a:l08Arm):Prop:=(0<=a.fnode/\a.fnode<=9)/\VZ a.fweight/\VZ a.fdx/\VZ a.fdy
theorem aH1 {v:Int}{l:Link}(h:ValidL l):rZ (zK v l):=by
 obtain⟨h1,h2,h3⟩:=h.vz
 unfold zK
 split
 · exact⟨h.2.1,h1,aN9 h2,aN9 h3⟩
 · exact⟨h.1,h1,h2,h3⟩
theorem aEI {s:List Link}(hs:LSet s)(v:Int):∀ a∈bC v s,rZ a:=by
 intro a ha
 obtain⟨l,hl,rfl⟩:=List.mem_map.1 ha
 exact aH1 (hs.1 l (List.mem_filter.1 hl).1)
theorem aAQ {s:List Link}(hs:LSet s)(v:Int):(bC v s).length<=100:=by
 have:=hs.len
 have:=List.length_filter_le (tch v) s
 unfold bC
 rw[List.length_map];omega
theorem aKQ {s:List Link}(hs:LSet s)(v:Int):((bC v s).map (·.fnode)).Pairwise (· < ·):=by
 have:=aFC hs v
 unfold bC
 rw[List.map_map]
 have e:(fun a:l08Arm=>a.fnode) ∘ zK v=qZ v:=by funext l;exact aJb v l
 rw[e];exact this
theorem aOO {s:List Link}(hs:LSet s)(v:Int):qQ s v=some (bC v s):=by
 have hal:=aAQ hs v
 unfold qQ
 rw[aOq hs v]
 simp only[Option.bind_some]
 have hfl:((s.filter (tch v)).map (qZ v)).length=(bC v s).length:=by unfold bC;rw[List.length_map,List.length_map]
 have:=xR (step:=lT s v ((s.filter (tch v)).map (qZ v))) (bC v s) (fun k t=>((k:Int),t)) (fun t=>t) (fun k t hk ht=>by
  have hk2:k<(s.filter (tch v)).length:=by unfold bC at hk;rwa [List.length_map]at hk
  have hk3:k<((s.filter (tch v)).map (qZ v)).length:=by rwa [List.length_map]
  have hm:=List.mem_filter.1 (List.getElem_mem hk2)
  have w1:IntKind.i64.wrap ((k:Int)+1)=((k+1:Nat):Int):=by rw[wi (by omega)];omega
  have hv:=hs.1 _ hm.1
  obtain⟨v1,v2,v3⟩:=hv.vz
  have g:=aMU hs hm.1 hm.2
  have ea:(bC v s)[k]=zK v (s.filter (tch v))[k]:=by simp only[bC,List.getElem_map]
  unfold lT
  simp only[]
  rw[if_pos (by omega),aJ hk3,List.getElem_map]
  simp only[Option.bind_some,g,(aKV v2).1,(aKV v3).1,w1]
  rw[ea]
  unfold zK
  by_cases A:((s.filter (tch v))[k]).fA=v
  · rw[if_pos A,if_pos A]
    simp only[Option.bind_some,qZ,A,if_true]
    rw[aL (by omega)];rfl
  · rw[if_neg A,if_neg A]
    simp only[Option.bind_some,qZ,A,if_false]
    rw[aL (by omega)];rfl) (fun t ht=>by unfold lT;simp only[];rw[if_neg (by omega)])
 rw[show((0:Nat):Int)=0 from rfl]at this
 rw[this];rfl
end Go.Ev
/- Eliminating a node of a link set, both programs. -/
namespace Go.Ev
open IntKind
set_option linter.all false
noncomputable def oV (a:List l08Arm):Rat:=a.foldl (fun t a=>RA t a.fweight) (dG 0)
noncomputable def fG (t:Rat)(a:l08Arm):Parent:=⟨a.fnode,RD a.fweight t,a.fdx,a.fdy⟩
noncomputable def rX (t:Rat)(a b:l08Arm):Link:=⟨a.fnode,b.fnode,RD (RM a.fweight b.fweight) t,RS a.fdx b.fdx,RS a.fdy b.fdy⟩
noncomputable def gY (t:Rat):List l08Arm->List Link
 | []=>[]
 | a::r=>r.map (rX t a)++gY t r
noncomputable def aBf (v:Int)(a:List l08Arm):Conditional:=⟨v,oV a,a.map (fG (oV a))⟩
def condOk (v:Int)(a:List l08Arm):Prop:=aZ (aBf v a)=some true
noncomputable instance (v:Int)(a:List l08Arm):Decidable (condOk v a):=Classical.propDecidable _
noncomputable def vZ (v:Int)(s:List Link):Option (Conditional×List Link) :=
 if(1<=v/\v<=9)/\condOk v (bC v s)/\(∀ x∈gY (oV (bC v s)) (bC v s),ValidL x)then some (aBf v (bC v s),gY (oV (bC v s)) (bC v s))else none
theorem aGK {v:Int}{s:List Link}(h:(1<=v/\v<=9)/\condOk v (bC v s)/\(∀ x∈gY (oV (bC v s)) (bC v s),ValidL x)):vZ v s=some (aBf v (bC v s),gY (oV (bC v s)) (bC v s)):=by unfold vZ;rw[if_pos h]
theorem aAN {v:Int}{s:List Link}(h:¬((1<=v/\v<=9)/\condOk v (bC v s)/\(∀ x∈gY (oV (bC v s)) (bC v s),ValidL x))):vZ v s=none:=by unfold vZ;rw[if_neg h]
def aDm:Conditional:=Conditional.mk 0 (Rat.mk (BigInt.mk false ([])) ([])) ([])
def pkE:Option (Conditional×List Link)->Conditional×List Link×Bool
 | some (c,m)=>(c,m,true)
 | none=>(aDm,[],false)
theorem aHO:∀ (a:List l08Arm) (t:Rat),(∀ x∈a,rZ x)->VZ t->VZ (a.foldl (fun t a=>RA t a.fweight) t)
 | [],t,_,h=>h
 | x::a,t,ho,h=>aHO a _ (fun y hy=>ho y (by simp[hy])) (wC h (ho x (by simp)).2.1).2.2
theorem xY {a:List l08Arm}(h:∀ x∈a,rZ x):VZ (oV a):=aHO a _ h (.inl aAE)
theorem aBq {α β:Type}(g:α->β):∀ (l:List α) (t:List β),l.foldl (fun t b=>t++[g b]) t=t++l.map g
 | [],t=>by simp
 | x::l,t=>by rw[List.foldl_cons,aBq g l,List.map_cons,List.append_assoc];rfl
theorem aHr {t:Rat}{a b:l08Arm}(ht:VZ t)(ha:rZ a)(hb:rZ b):cA (rX t a b)<=144:=by
 have h1:=lA (aB7 (zQ ha.2.1 hb.2.1).2.2 ht).2.2
 have h2:=lA (aFd ha.2.2.1 hb.2.2.1).2.2
 have h3:=lA (aFd ha.2.2.2 hb.2.2.2).2.2
 unfold cA rX;simp only[];omega
theorem aJI {t:Rat}(ht:VZ t):∀ {a:List l08Arm},(∀ x∈a,rZ x)->∀ x∈gY t a,cA x<=144
 | [],_,x,hx=>by cases hx
 | a::r,h,x,hx=>by
  rw[gY]at hx
  rcases List.mem_append.1 hx with hx | hx
  · obtain⟨b,hb,rfl⟩:=List.mem_map.1 hx
    exact aHr ht (h a (by simp)) (h b (by simp[hb]))
  · exact aJI ht (fun y hy=>h y (by simp[hy])) x hx
theorem aD3 (t:Rat):∀ {a:List l08Arm} {n:Nat},a.length<=n->(gY t a).length<=n*a.length
 | [],n,_=>by simp[gY]
 | a::r,n,h=>by
  rw[List.length_cons]at h
  have:=aD3 t (a:=r) (n:=n) (by omega)
  rw[gY,List.length_append,List.length_map,List.length_cons,Nat.mul_add,Nat.mul_one];omega
theorem aL2 (t:Rat):∀ {a:List l08Arm} {x:Link},x∈gY t a->∃ y∈a,x.fA=y.fnode
 | [],x,hx=>by cases hx
 | a::r,x,hx=>by
  rw[gY]at hx
  rcases List.mem_append.1 hx with hx | hx
  · obtain⟨b,hb,rfl⟩:=List.mem_map.1 hx
    exact⟨a,by simp,rfl⟩
  · obtain⟨y,hy,e⟩:=aL2 t hx
    exact⟨y,by simp[hy],e⟩
theorem aHv (t:Rat):∀ {a:List l08Arm},(a.map (·.fnode)).Pairwise (· < ·)->(gY t a).Pairwise eG
 | [],_=>List.Pairwise.nil
 | a::r,h=>by
  rw[List.map_cons,List.pairwise_cons]at h
  rw[gY,List.pairwise_append]
  refine⟨?_,aHv t h.2,fun x hx y hy=>?_⟩
  · rw[List.pairwise_map]
    have:=h.2
    rw[List.pairwise_map]at this
    exact this.imp (fun {b c} hbc=>.inr ⟨rfl,hbc⟩)
  · obtain⟨b,hb,rfl⟩:=List.mem_map.1 hx
    obtain⟨z,hz,e⟩:=aL2 t hy
    exact .inl (by rw[e];exact h.1 _ (List.mem_map.2 ⟨z,hz,rfl⟩))
theorem aFG {t:Rat}{a:List l08Arm}(h:(a.map (·.fnode)).Pairwise (· < ·)):LSet (gY t a)↔∀ x∈gY t a,ValidL x:=⟨fun g=>g.1,fun g=>⟨g,aHv t h⟩⟩
theorem aKH {a:List l08Arm}(ha:∀ x∈a,rZ x)(hl:a.length<=100):lp (eJ a) (0,dG 0)=some (oV a):=by
 have:=(kR (step:=eJ a) a (fun k t=>((k:Int),t)) (fun t a=>RA t a.fweight) (fun t=>t) (fun _ t=>VZ t) (fun k t hk hi=>by
  have w1:i64.wrap ((k:Int)+1)=((k+1:Nat):Int):=by rw[wi (by omega)];omega
  obtain⟨q1,_,q3⟩:=wC hi (ha _ (List.getElem_mem hk)).2.1
  refine⟨?_,q3⟩
  unfold eJ
  simp only[]
  rw[if_pos (by omega),aJ hk]
  simp only[Option.bind_some,q1,w1]) (fun t _=>by unfold eJ;simp only[];rw[if_neg (by omega)]) (dG 0) (.inl aAE)).1
 rw[show((0:Nat):Int)=0 from rfl]at this
 exact this
theorem aKJ {a:List l08Arm}{t:Rat}(ht:VZ t)(ha:∀ x∈a,rZ x)(hl:a.length<=100):lp (eI a t) (0,[])=some (a.map (fG t)):=by
 have:=xR (step:=eI a t) (a.map (fG t)) (fun k t=>((k:Int),t)) (fun t=>t) (fun k u hk hu=>by
  have hk2:k<a.length:=by rwa [List.length_map]at hk
  have w1:i64.wrap ((k:Int)+1)=((k+1:Nat):Int):=by rw[wi (by omega)];omega
  have ho:=ha _ (List.getElem_mem hk2)
  have q:=(aB7 ho.2.1 ht).1
  unfold eI
  simp only[]
  rw[if_pos (by omega),aJ hk2]
  simp only[Option.bind_some,q,nC _ (VZs ho.2.2.1),nC _ (VZs ho.2.2.2),w1]
  rw[aL (by omega)]
  simp only[Option.bind_some,sG,List.getElem_map]
  rfl) (fun u hu=>by unfold eI;simp only[];rw[List.length_map,if_neg (by omega)])
 rw[show((0:Nat):Int)=0 from rfl]at this
 exact this
theorem aKI {r:List l08Arm}{x:l08Arm}{t:Rat}(ht:VZ t)(hx:rZ x)(hr:∀ y∈r,rZ y)(hl:r.length<=100)(acc:List Link)(hacc:acc.length<=1000000) :
 lp (eH r x t) (0,acc)=some (acc++r.map (rX t x)):=by
 have:=(kR (step:=eH r x t) r (fun k u=>((k:Int),u)) (fun u b=>u++[rX t x b]) (fun u=>u) (fun k u=>u.length<=1000000+k) (fun k u hk hi=>by
  have w1:i64.wrap ((k:Int)+1)=((k+1:Nat):Int):=by rw[wi (by omega)];omega
  have ho:=hr _ (List.getElem_mem hk)
  have q0:=zQ hx.2.1 ho.2.1
  have q1:=(aB7 q0.2.2 ht).1
  have q2:=(aFd hx.2.2.1 ho.2.2.1).1
  have q3:=(aFd hx.2.2.2 ho.2.2.2).1
  refine⟨?_,by rw[List.length_append,List.length_singleton];omega⟩
  unfold eH
  simp only[]
  rw[if_pos (by omega),aJ hk]
  simp only[Option.bind_some,q0.1,q1,q2,q3,w1]
  rw[aL (by omega)]
  rfl) (fun u _=>by unfold eH;simp only[];rw[if_neg (by omega)]) acc (by omega)).1
 rw[show((0:Nat):Int)=0 from rfl,aBq]at this
 exact this
theorem aK7 {α:Type}(l:List α)(k:Nat)(hk:k+1<=l.length)(hl:l.length<=4294967296):sub l (i64.wrap ((k:Int)+1)) (l.length:Int)=some (l.drop (k+1)):=by
 have w1:i64.wrap ((k:Int)+1)=((k+1:Nat):Int):=by rw[wi (by omega)];omega
 rw[w1,pK _ _ _ (by omega)];congr 1
 rw[List.take_of_length_le];rfl
 rw[List.length_drop];omega
theorem aIU {a:List l08Arm}{t:Rat}(ht:VZ t)(ha:∀ x∈a,rZ x)(hl:a.length<=100):lp (dA a t) (0,[])=some (gY t a):=by
 have main:∀ m k:Nat,m+k=a.length->∀ acc:List Link,acc.length<=100*k->lp (dA a t) ((k:Int),acc)=some (acc++gY t (a.drop k)):=by
  intro m
  induction m with
  | zero =>
   intro k hk acc hacc
   rw[List.drop_eq_nil_of_le (by omega),gY,List.append_nil]
   exact aI (by unfold dA;simp only[];rw[if_neg (by omega)])
  | succ m ih =>
   intro k hk acc hacc
   have hlt:k<a.length:=by omega
   have w1:i64.wrap ((k:Int)+1)=((k+1:Nat):Int):=by rw[wi (by omega)];omega
   rw[List.drop_eq_getElem_cons hlt,gY]
   have row:=aKI (r:=a.drop (k+1)) ht (ha _ (List.getElem_mem hlt)) (fun y hy=>ha y (List.mem_of_mem_drop hy)) (by rw[List.length_drop];omega) acc (by omega)
   have st:dA a t ((k:Int),acc)=some (.inl (((k+1:Nat):Int),acc++(a.drop (k+1)).map (rX t a[k]))):=by
    unfold dA
    simp only[]
    rw[if_pos (by omega),aJ hlt,aK7 a k (by omega) (by omega)]
    simp only[Option.bind_some,row,w1]
   rw[aR st,ih (k+1) (by omega) _ (by rw[List.length_append,List.length_map,List.length_drop];omega),List.append_assoc]
 have:=main a.length 0 (by omega) [] (by simp)
 rw[show((0:Nat):Int)=0 from rfl,List.drop_zero,List.nil_append]at this
 exact this
theorem aGM {v:Int}{a:List l08Arm}(ha:∀ x∈a,rZ x)(hl:a.length<=100):aV (aBf v a)<=4294967296:=by
 have h1:=lA (xY ha)
 have h2:mX (a.map (fG (oV a)))<=145*(a.map (fG (oV a))).length:=aCc (c:=144) (fun p hp=>by
  obtain⟨x,hx,rfl⟩:=List.mem_map.1 hp
  have ho:=ha x hx
  have g1:=lA (aB7 ho.2.1 (xY ha)).2.2
  have g2:=lA ho.2.2.1
  have g3:=lA ho.2.2.2
  unfold lH fG;simp only[];omega)
 rw[List.length_map]at h2
 unfold aV aBf;simp only[];omega
theorem aNs {s:List Link}(hs:LSet s)(v:Int):jB s v=some (pkE (vZ v s)):=by
 have ha:=aEI hs v
 have hl:=aAQ hs v
 have ht:=xY ha
 obtain⟨b,b1,b2,_⟩:=aGT _ (aGM (v:=v) ha hl)
 have inc:=aKQ hs v
 unfold jB
 rw[jZ s (by have:=hs.sz;omega),decide_eq_true hs,yP]
 simp only[Option.bind_some,if_true]
 by_cases c:1<=v/\v<=9
 · rw[decide_eq_true c]
   simp only[Bool.not_true,Bool.false_eq_true,if_false]
   rw[aOO hs v,bP 0 (by omega)]
   simp only[Option.bind_some]
   rw[aKH ha hl]
   simp only[Option.bind_some]
   rw[aKJ ht ha hl]
   simp only[Option.bind_some]
   rw[aIU ht ha hl]
   simp only[Option.bind_some]
   have e:(Conditional.mk v (oV (bC v s)) ((bC v s).map (fG (oV (bC v s)))))=aBf v (bC v s):=rfl
   rw[e,b1]
   simp only[Option.bind_some]
   have hms:=aCc (aJI ht ha)
   have hml:=aD3 (oV (bC v s)) (a:=bC v s) (Nat.le_refl _)
   have hm2:(bC v s).length*(bC v s).length<=100*100:=Nat.mul_le_mul hl hl
   rw[jZ _ (by unfold aK;omega)]
   cases b with
   | false =>
    have:¬condOk v (bC v s):=by unfold condOk;rw[b1];simp
    rw[aAN (fun h=>this h.2.1)];rfl
   | true =>
    have hc:condOk v (bC v s):=b1
    simp only[if_true,Option.bind_some]
    by_cases d:∀ x∈gY (oV (bC v s)) (bC v s),ValidL x
    · rw[decide_eq_true ((aFG inc).2 d),aGK ⟨c,hc,d⟩];rfl
    · rw[decide_eq_false (fun h=>d ((aFG inc).1 h)),aAN (fun h=>d h.2.2)];rfl
 · rw[decide_eq_false c]
   rw[aAN (fun h=>c h.1)];rfl
def vE (a:l08Arm):Parent:=⟨a.fnode,lF,a.fdx,a.fdy⟩
theorem aJa (v:Int)(s:List Link)(k:Nat)(hk:k<s.length):bC v (s.take (k+1))=bC v (s.take k)++(if tch v s[k]then [zK v s[k]]else []):=by
 have tk:s.take (k+1)=s.take k++[s[k]]:=by rw[List.take_add_one,List.getElem?_eq_getElem hk];rfl
 unfold bC
 rw[tk,List.filter_append,List.map_append]
 congr 1
 by_cases c:tch v s[k] <;> simp[c]
theorem aIW {s:List Link}(hs:LSet s)(v:Int):lp (eQ s v) (0,dG 0,[],[])=some (oV (bC v s),(bC v s).map (·.fweight),(bC v s).map vE):=by
 have hlen:=hs.len
 have hpre:∀ k,∀ a∈bC v (s.take k),rZ a:=fun k a ha=>by
  obtain⟨l,hl,rfl⟩:=List.mem_map.1 ha
  exact aH1 (hs.1 l (List.mem_of_mem_take (List.mem_filter.1 hl).1))
 have hpl:∀ k,(bC v (s.take k)).length<=100:=fun k=>by
  have:=List.length_filter_le (tch v) (s.take k)
  have h2:(s.take k).length<=s.length:=by rw[List.length_take];omega
  unfold bC;rw[List.length_map];omega
 have main:∀ m k:Nat,m+k=s.length->lp (eQ s v) ((k:Int),oV (bC v (s.take k)),(bC v (s.take k)).map (·.fweight),(bC v (s.take k)).map vE)=some (oV (bC v s),(bC v s).map (·.fweight),(bC v s).map vE):=by
  intro m
  induction m with
  | zero =>
   intro k hk
   rw[List.take_of_length_le (by omega)]
   exact aI (by unfold eQ;simp only[];rw[if_neg (by omega)])
  | succ m ih =>
   intro k hk
   have hlt:k<s.length:=by omega
   have w1:i64.wrap ((k:Int)+1)=((k+1:Nat):Int):=by rw[wi (by omega)];omega
   have hv:=hs.1 _ (List.getElem_mem hlt)
   obtain⟨v1,v2,v3⟩:=hv.vz
   have n1:=(aKV v2).2.1
   have n2:=(aKV v3).2.1
   have ra:=(wC (xY (hpre k)) v1).2.1
   have hp:=hpl k
   have st:eQ s v ((k:Int),oV (bC v (s.take k)),(bC v (s.take k)).map (·.fweight),(bC v (s.take k)).map vE)=some (.inl (((k+1:Nat):Int),oV (bC v (s.take (k+1))),(bC v (s.take (k+1))).map (·.fweight),(bC v (s.take (k+1))).map vE)):=by
    rw[aJa v s k hlt]
    unfold eQ
    simp only[]
    rw[if_pos (by omega),aJ hlt]
    simp only[Option.bind_some,n1,n2,ra,w1]
    have k1:∀ {α:Type} {f:l08Arm->α},((bC v (s.take k)).map f).length<=100:=by intro α f;rw[List.length_map];exact hp
    by_cases A:(s[k]).fA=v
    · rw[if_pos A,aL (by have:=k1 (f:=vE);omega)]
      simp only[Option.bind_some,sG]
      rw[aL (by have:=k1 (f:=fun a=>a.fweight);omega)]
      simp[tch,A,zK,oV,vE,lF,ra]
    · by_cases B:(s[k]).fB=v
      · rw[if_neg A,if_pos B,aL (by have:=k1 (f:=vE);omega)]
        simp only[Option.bind_some,sG]
        rw[aL (by have:=k1 (f:=fun a=>a.fweight);omega)]
        simp[tch,A,B,zK,oV,vE,lF,ra]
      · simp[tch,A,B]
   rw[aR st]
   exact ih (k+1) (by omega)
 have:=main s.length 0 (by omega)
 simpa [bC,oV]using this
theorem aKL {a:List l08Arm}{t:Rat}(ht:VZ t)(ha:∀ x∈a,rZ x)(hl:a.length<=100):lp (eO (t,a.map (·.fweight),a.map vE)) (0,a.map vE)=some (a.map (fG t)):=by
 have main:∀ m k:Nat,m+k=a.length->lp (eO (t,a.map (·.fweight),a.map vE)) ((k:Int),(a.take k).map (fG t)++(a.drop k).map vE)=some (a.map (fG t)):=by
  intro m
  induction m with
  | zero =>
   intro k hk
   refine aI ?_
   unfold eO
   simp only[List.length_map]
   rw[if_neg (by omega),List.drop_eq_nil_of_le (by omega),List.take_of_length_le (by omega)]
   simp
  | succ m ih =>
   intro k hk
   have hlt:k<a.length:=by omega
   have w1:i64.wrap ((k:Int)+1)=((k+1:Nat):Int):=by rw[wi (by omega)];omega
   have ho:=ha _ (List.getElem_mem hlt)
   have q:=(aB7 ho.2.1 ht).2.1
   have tl:((a.take k).map (fG t)).length=k:=by rw[List.length_map,List.length_take];omega
   have e1:idx (a.map (fun x=>x.fweight)) (k:Int)=some (a[k]).fweight:=by rw[aJ (by rwa [List.length_map]),List.getElem_map]
   have e2:idx ((a.take k).map (fG t)++(a.drop k).map vE) (k:Int)=some (vE a[k]):=by
    rw[aGJ,List.getElem?_append_right (by omega),tl,Nat.sub_self,List.drop_eq_getElem_cons hlt];rfl
   have e3:kG ((a.take k).map (fG t)++(a.drop k).map vE) (k:Int) (fG t a[k])=(a.take (k+1)).map (fG t)++(a.drop (k+1)).map vE:=by
    rw[qW,List.set_append_right _ _ (by omega),tl,Nat.sub_self,List.drop_eq_getElem_cons hlt,List.map_cons,List.set_cons_zero,List.take_add_one,List.getElem?_eq_getElem hlt,List.map_append,List.append_assoc]
    rfl
   have st:eO (t,a.map (·.fweight),a.map vE) ((k:Int),(a.take k).map (fG t)++(a.drop k).map vE)=some (.inl (((k+1:Nat):Int),(a.take (k+1)).map (fG t)++(a.drop (k+1)).map vE)):=by
    unfold eO
    simp only[List.length_map]
    rw[if_pos (by omega),e1]
    simp only[Option.bind_some,q,e2,sG,w1]
    have:(Parent.mk (vE a[k]).fNode (RD (a[k]).fweight t) (vE a[k]).fDX (vE a[k]).fDY)=fG t a[k]:=rfl
    rw[this,e3]
   rw[aR st]
   exact ih (k+1) (by omega)
 have:=main a.length 0 (by omega)
 simpa using this
def aDF (t:Rat)(x:l08Arm)(r:List l08Arm):Prop:=∀ y∈r,ValidL (rX t x y)
noncomputable instance (t:Rat)(x:l08Arm)(r:List l08Arm):Decidable (aDF t x r):=Classical.propDecidable _
theorem aKK {a:List l08Arm}{t:Rat}(ht:VZ t)(ha:∀ x∈a,rZ x)(hl:a.length<=100)(q0:List Parent)(i:Nat)(hi:i<a.length):∀ m j:Nat,m+j=a.length->∀ acc:List Link,acc.length<=1000000+j->
 lp (gC (a.map (fG t)) (t,a.map (·.fweight),q0) (i:Int) (fG t a[i])) ((j:Int),acc)=some (if aDF t a[i] (a.drop j)then .inl (acc++(a.drop j).map (rX t a[i]))else .inr (aDm,[],false)):=by
 intro m
 induction m with
 | zero =>
  intro j hj acc hacc
  rw[List.drop_eq_nil_of_le (by omega),if_pos (by intro y hy;cases hy),List.map_nil,List.append_nil]
  exact aI (by unfold gC;simp only[List.length_map];rw[if_neg (by omega)])
 | succ m ih =>
  intro j hj acc hacc
  have hlt:j<a.length:=by omega
  have w1:i64.wrap ((j:Int)+1)=((j+1:Nat):Int):=by rw[wi (by omega)];omega
  have hx:=ha _ (List.getElem_mem hi)
  have ho:=ha _ (List.getElem_mem hlt)
  have p0:=zQ hx.2.1 ho.2.1
  have p1:=(aB7 p0.2.2 ht).2.1
  have p2:=(aFd hx.2.2.1 ho.2.2.1).2.1
  have p3:=(aFd hx.2.2.2 ho.2.2.2).2.1
  have vl:=(gR (rX t a[i] a[j]) (by have:=aHr ht hx ho;omega)).2
  have e0:idx (a.map (fG t)) (j:Int)=some (fG t a[j]):=by rw[aJ (by rwa [List.length_map]),List.getElem_map]
  have e1:idx (a.map (fun x=>x.fweight)) (i:Int)=some (a[i]).fweight:=by rw[aJ (by rwa [List.length_map]),List.getElem_map]
  have e2:idx (a.map (fun x=>x.fweight)) (j:Int)=some (a[j]).fweight:=by rw[aJ (by rwa [List.length_map]),List.getElem_map]
  have st:gC (a.map (fG t)) (t,a.map (·.fweight),q0) (i:Int) (fG t a[i]) ((j:Int),acc)=some (if ValidL (rX t a[i] a[j])then .inl (((j+1:Nat):Int),acc++[rX t a[i] a[j]])else .inr (.inr (aDm,[],false))):=by
   unfold gC
   simp only[List.length_map]
   rw[if_pos (by omega),e0,e1,e2]
   simp only[Option.bind_some,p0.2.1,p1,w1]
   have f1:(fG t a[i]).fDX=(a[i]).fdx:=rfl
   have f2:(fG t a[i]).fDY=(a[i]).fdy:=rfl
   have f3:(fG t a[j]).fDX=(a[j]).fdx:=rfl
   have f4:(fG t a[j]).fDY=(a[j]).fdy:=rfl
   rw[f1,f2,f3,f4,p2]
   simp only[Option.bind_some]
   rw[p3]
   simp only[Option.bind_some]
   have f5:(Link.mk (fG t a[i]).fNode (fG t a[j]).fNode (RD (RM (a[i]).fweight (a[j]).fweight) t) (RS (a[i]).fdx (a[j]).fdx) (RS (a[i]).fdy (a[j]).fdy))=rX t a[i] a[j]:=rfl
   rw[f5,vl]
   simp only[Option.bind_some]
   by_cases c:ValidL (rX t a[i] a[j])
   · rw[decide_eq_true c,if_pos rfl,if_pos c,aL (by omega)];rfl
   · rw[decide_eq_false c,if_neg c];rfl
  rw[List.drop_eq_getElem_cons hlt]
  by_cases c:ValidL (rX t a[i] a[j])
  · rw[if_pos c]at st
    rw[aR st,ih (j+1) (by omega) _ (by rw[List.length_append,List.length_singleton];omega)]
    have:aDF t a[i] (a[j]::a.drop (j+1))↔aDF t a[i] (a.drop (j+1)):=⟨fun h x hx'=>h x (List.mem_cons_of_mem _ hx'),fun h x hx'=>by rcases List.mem_cons.1 hx' with rfl | h';exact c;exact h x h'⟩
    simp only[this,List.map_cons,List.append_assoc,List.singleton_append]
  · rw[if_neg c]at st
    rw[aI st,if_neg (fun h=>c (h _ List.mem_cons_self))]
theorem aIV {a:List l08Arm}{t:Rat}(ht:VZ t)(ha:∀ x∈a,rZ x)(hl:a.length<=100)(q0:List Parent):lp (eM (a.map (fG t)) (t,a.map (·.fweight),q0)) (0,[])=some (if ∀ x∈gY t a,ValidL x then .inl (gY t a)else .inr (aDm,[],false)):=by
 have main:∀ m k:Nat,m+k=a.length->∀ acc:List Link,acc.length<=100*k->lp (eM (a.map (fG t)) (t,a.map (·.fweight),q0)) ((k:Int),acc)=some (if ∀ x∈gY t (a.drop k),ValidL x then .inl (acc++gY t (a.drop k))else .inr (aDm,[],false)):=by
  intro m
  induction m with
  | zero =>
   intro k hk acc hacc
   rw[List.drop_eq_nil_of_le (by omega),if_pos (by simp[gY]),gY,List.append_nil]
   exact aI (by unfold eM;simp only[List.length_map];rw[if_neg (by omega)])
  | succ m ih =>
   intro k hk acc hacc
   have hlt:k<a.length:=by omega
   have w1:i64.wrap ((k:Int)+1)=((k+1:Nat):Int):=by rw[wi (by omega)];omega
   have e0:idx (a.map (fG t)) (k:Int)=some (fG t a[k]):=by rw[aJ (by rwa [List.length_map]),List.getElem_map]
   have row:=aKK ht ha hl q0 k hlt (a.length-(k+1)) (k+1) (by omega) acc (by omega)
   rw[List.drop_eq_getElem_cons hlt,gY]
   have st:eM (a.map (fG t)) (t,a.map (·.fweight),q0) ((k:Int),acc)=some (if aDF t a[k] (a.drop (k+1))then .inl (((k+1:Nat):Int),acc++(a.drop (k+1)).map (rX t (a[k]'hlt)))else .inr (.inr (aDm,[],false))):=by
    unfold eM
    simp only[List.length_map]
    rw[if_pos (by omega),e0]
    simp only[Option.bind_some,w1,row]
    by_cases c:aDF t a[k] (a.drop (k+1))
    · rw[if_pos c,if_pos c]
    · rw[if_neg c,if_neg c]
   by_cases c:aDF t a[k] (a.drop (k+1))
   · rw[if_pos c]at st
     rw[aR st,ih (k+1) (by omega) _ (by rw[List.length_append,List.length_map,List.length_drop];omega)]
     have:(∀ x∈(a.drop (k+1)).map (rX t a[k])++gY t (a.drop (k+1)),ValidL x)↔∀ x∈gY t (a.drop (k+1)),ValidL x:=⟨fun h x hx=>h x (List.mem_append_right _ hx),fun h x hx=>by
      rcases List.mem_append.1 hx with hx | hx
      · obtain⟨y,hy,rfl⟩:=List.mem_map.1 hx;exact c y hy
      · exact h x hx⟩
     simp only[this,List.append_assoc]
   · rw[if_neg c]at st
     rw[aI st,if_neg]
     intro h
     exact c fun y hy=>h _ (List.mem_append_left _ (List.mem_map.2 ⟨y,hy,rfl⟩))
 have:=main a.length 0 (by omega) [] (by simp)
 rw[show((0:Nat):Int)=0 from rfl,List.drop_zero,List.nil_append]at this
 exact this
theorem aNt {s:List Link}(hs:LSet s)(v:Int):pZ s v=some (pkE (vZ v s)):=by
 have ha:=aEI hs v
 have hl:=aAQ hs v
 have ht:=xY ha
 obtain⟨b,b1,b2,_⟩:=aGT _ (aGM (v:=v) ha hl)
 unfold pZ
 have e0:((if v<1 then some true else some (decide (10<=v))):Option Bool)=some (!decide (1<=v/\v<=9)):=by
  by_cases A:v<1
  · have:¬1<=v:=by omega
    simp[A,this]
  · by_cases B:10<=v
    · have:¬v<=9:=by omega
      simp[A,B,this]
    · have h1:1<=v:=by omega
      have h2:v<=9:=by omega
      simp[A,B,h1,h2]
 rw[e0]
 simp only[Option.bind_some]
 by_cases c:1<=v/\v<=9
 · rw[decide_eq_true c]
   simp only[Bool.not_true,Bool.false_eq_true,if_false]
   rw[dF 0 (by omega)]
   simp only[Option.bind_some]
   rw[aIW hs v]
   simp only[Option.bind_some]
   rw[aKL ht ha hl]
   simp only[Option.bind_some]
   have e:(Conditional.mk v (oV (bC v s)) ((bC v s).map (fG (oV (bC v s)))))=aBf v (bC v s):=rfl
   rw[e,b2]
   simp only[Option.bind_some]
   cases b with
   | false =>
    have:¬condOk v (bC v s):=by unfold condOk;rw[b1];simp
    rw[aAN (fun h=>this h.2.1)];rfl
   | true =>
    have hc:condOk v (bC v s):=b1
    simp only[if_true]
    rw[aIV ht ha hl]
    by_cases d:∀ x∈gY (oV (bC v s)) (bC v s),ValidL x
    · rw[if_pos d,aGK ⟨c,hc,d⟩];rfl
    · rw[if_neg d,aAN (fun h=>d h.2.2)];rfl
 · rw[decide_eq_false c]
   rw[aAN (fun h=>c h.1)];rfl
end Go.Ev
/- Reducing a node of a link set and a node of a tree, both programs. -/
namespace Go.Ev
set_option linter.all false
theorem wi1 {k:Nat}(h:k<=4294967296):IntKind.i64.wrap ((k:Int)+1)=((k+1:Nat):Int):=by rw[wi (by omega)];omega
def wM (v:Int)(s:List Link):List Link:=s.filter (fun l=>!tch v l)
theorem uS {α:Type}(p:α->Bool):∀ (l t:List α),l.foldl (fun t x=>if p x=true then t++[x]else t) t=t++l.filter p
 | [],t=>by simp
 | x::l,t=>by
  rw[List.foldl_cons,uS p l,List.filter_cons]
  by_cases c:p x=true
  · simp only[c,if_true,List.append_assoc,List.singleton_append]
  · simp only[Bool.not_eq_true]at c;simp[c]
theorem aNO (v:Int)(l:Link):((if l.fA≠v then some (decide (l.fB≠v))else some false):Option Bool)=some (!tch v l):=by
 unfold tch;by_cases A:l.fA=v <;> by_cases B:l.fB=v <;> simp[A,B]
theorem aKe {s:List Link}(h:s.length<=4294967296)(v:Int):sJ s v=some (wM v s):=by
 have:=(kR (step:=kH s v) s (fun k t=>((k:Int),t)) (fun t x=>if(fun l=>!tch v l) x=true then t++[x]else t) (fun t=>t) (fun k t=>t.length<=k) (fun k t hk hi=>by
  constructor
  · unfold kH
    simp only[]
    rw[if_pos (by omega),aJ hk]
    simp only[Option.bind_some,aNO,wi1 (by omega:k<=4294967296)]
    by_cases c:tch v s[k]=true
    · rw[if_neg (by simp[c]),if_neg (by simp[c])]
    · rw[if_pos (by simpa using c),if_pos (by simpa using c),aL (by omega)];rfl
  · simp only[];split
    · rw[List.length_append,List.length_singleton];omega
    · omega) (fun t _=>by unfold kH;simp only[];rw[if_neg (by omega)]) [] (Nat.zero_le _)).1
 rw[show((0:Nat):Int)=0 from rfl,uS,List.nil_append]at this
 unfold sJ
 rw[this];rfl
theorem aKU {s:List Link}(hs:LSet s)(v:Int):kN s v=some (wM v s):=by
 have hl:=hs.len
 have:=(kR (step:=iM s v) s (fun k t=>((k:Int),t)) (fun t x=>if(fun l=>!tch v l) x=true then t++[x]else t) (fun t=>t) (fun k t=>t.length<=k) (fun k t hk hi=>by
  constructor
  · unfold iM
    simp only[]
    rw[if_pos (by omega),aJ hk]
    have cp:=qU s[k] (by have:=(hs.1 _ (List.getElem_mem hk)).sz;omega)
    simp only[Option.bind_some,aNO,wi1 (by omega:k<=4294967296),cp]
    by_cases c:tch v s[k]=true
    · rw[if_neg (by simp[c]),if_neg (by simp[c])]
    · rw[if_pos (by simpa using c),if_pos (by simpa using c),aL (by omega)];rfl
  · simp only[];split
    · rw[List.length_append,List.length_singleton];omega
    · omega) (fun t _=>by unfold iM;simp only[];rw[if_neg (by omega)]) [] (Nat.zero_le _)).1
 rw[show((0:Nat):Int)=0 from rfl,uS,List.nil_append]at this
 unfold kN
 rw[jZ s (by have:=hs.sz;omega),decide_eq_true hs]
 simp only[Option.bind_some,if_true,this]
 rfl
noncomputable def aCf (v:Int)(s:List Link):Option (Conditional×List Link×Rat) :=
 (vZ v s).bind fun x=>(jnP (wM v s++x.2)).map fun y=>(x.1,y.1,y.2)
def pkR:Option (Conditional×List Link×Rat)->Conditional×List Link×Rat×Bool
 | some (c,m,e)=>(c,m,e,true)
 | none=>(aDm,[],lF,false)
theorem aHR {v:Int}{s:List Link}(hs:LSet s){c:Conditional}{m:List Link}(h:vZ v s=some (c,m)):(∀ x∈m,ValidL x)/\m.length<=10000/\aV c<=20000/\(1<=v/\v<=9):=by
 unfold vZ at h
 split at h
 · rename_i g
   cases h
   have ha:=aEI hs v
   have hl:=aAQ hs v
   have h1:=aD3 (oV (bC v s)) (a:=bC v s) (Nat.le_refl _)
   have h2:(bC v s).length*(bC v s).length<=100*100:=Nat.mul_le_mul hl hl
   have g1:=lA (xY ha)
   have g2:mX ((bC v s).map (fG (oV (bC v s))))<=145*((bC v s).map (fG (oV (bC v s)))).length:=aCc (c:=144) (fun p hp=>by
    obtain⟨x,hx,rfl⟩:=List.mem_map.1 hp
    have ho:=ha x hx
    have g1:=lA (aB7 ho.2.1 (xY ha)).2.2
    have g2:=lA ho.2.2.1
    have g3:=lA ho.2.2.2
    unfold lH fG;simp only[];omega)
   rw[List.length_map]at g2
   refine⟨g.2.2,by omega,?_,g.1⟩
   unfold aV aBf;simp only[];omega
 · cases h
theorem aLp {v:Int}{s:List Link}(hs:LSet s):(∀ x∈wM v s,ValidL x)/\(wM v s).length<=100:=by
 have:=List.length_filter_le (fun l=>!tch v l) s
 have:=hs.len
 exact⟨fun x hx=>hs.1 x (List.mem_filter.1 hx).1,by unfold wM;omega⟩
theorem aDK {s:List Link}(hs:LSet s)(v:Int):lW s v=some (pkR (aCf v s))/\tY s v=some (pkR (aCf v s)):=by
 unfold lW tY aCf
 rw[aNs hs,aNt hs]
 cases h:vZ v s with
 | none=>exact⟨rfl,rfl⟩
 | some x =>
  obtain⟨c,m⟩:=x
  obtain⟨m1,m2,m3,_⟩:=aHR hs h
  obtain⟨r1,r2⟩:=aLp (v:=v) hs
  have hall:∀ x∈wM v s++m,ValidL x:=fun x hx=>(List.mem_append.1 hx).elim (r1 x) (m1 x)
  have hlen:(wM v s++m).length<=20000:=by rw[List.length_append];omega
  have hsz:=aAA hall
  have j1:=(wU (wM v s++m) (by omega)).1
  have j2:=aAj hall (by omega)
  simp only[pkE,Option.bind_some,if_true]
  rw[aKU hs,aKe (by have:=hs.len;omega)]
  simp only[Option.bind_some]
  rw[aL (by omega)]
  simp only[Option.bind_some,sG,j1,j2]
  cases jnP (wM v s++m)with
  | none=>exact⟨rfl,rfl⟩
  | some y=>exact⟨rfl,rfl⟩
theorem aGo {v:Int}{s:List Link}(hs:LSet s){c:Conditional}{m:List Link}{e:Rat}(h:aCf v s=some (c,m,e)):aV c<=20000/\LSet m/\bA e/\c.fNode=v:=by
 unfold aCf at h
 cases h1:vZ v s with
 | none=>rw[h1]at h;cases h
 | some x =>
  rw[h1]at h
  cases h2:jnP (wM v s++x.2)with
  | none=>rw[Option.bind_some,h2]at h;cases h
  | some y =>
   rw[Option.bind_some,h2]at h
   cases h
   have:=aBo (s:=y.1) (e:=y.2) h2
   refine⟨(aHR hs (c:=x.1) (m:=x.2) h1).2.2.1,this.2.1,this.2.2,?_⟩
   unfold vZ at h1
   split at h1
   · cases h1;rfl
   · cases h1
end Go.Ev
/- A node of a tree, both programs. -/
namespace Go.Ev
open IntKind
set_option linter.all false
def aP (l s:List Int):Int:=(l.find? (fun u=>decide (u∈s))).getD 0
theorem aJY (l s:List Int)(hl:l.length<=4294967296)(hs:s.length<=4294967296):mJ l s=some (aP l s):=by
 have main:∀ m k:Nat,m+k=l.length->lp (gG l s) (k:Int)=some (match (l.drop k).find? (fun u=>decide (u∈s))with | some x=>.inr x | none=>.inl ()):=by
  intro m
  induction m with
  | zero =>
   intro k hk
   have:k=l.length:=by omega
   subst this
   rw[aI (r:=.inl ()) (by unfold gG;rw[if_neg (by omega)]),List.drop_length];rfl
  | succ m ih =>
   intro k hk
   have hlt:k<l.length:=by omega
   rw[List.drop_eq_getElem_cons hlt,List.find?_cons]
   by_cases c:l[k]∈s
   · rw[aI (r:=.inr l[k]) (by unfold gG;rw[if_pos (by omega),aJ hlt];simp[aBR s _ hs,c])];simp[c]
   · have e:gG l s (k:Int)=some (.inl ((k+1:Nat):Int)):=by
      unfold gG;rw[if_pos (by omega),aJ hlt];simp only[Option.bind_some,aBR s _ hs,wi1 (by omega:k<=4294967296)];simp[c]
     rw[aR e,ih (k+1) (by omega)]
     simp only[c,decide_false]
 have:=main l.length 0 (by omega)
 rw[show((0:Nat):Int)=0 from rfl,List.drop_zero]at this
 unfold mJ aP
 rw[this]
 cases l.find? (fun u=>decide (u∈s)) <;> rfl
def aDR (c:Conditional):List Int:=c.fParents.map (·.fNode)
def upP (order:List Int)(c:Conditional):Int:=aP order (aDR c)
theorem aEw {α:Type}{p q:α->Bool}:∀ {l:List α},(∀ x∈l,p x=q x)->l.find? p=l.find? q
 | [],_=>rfl
 | x::l,h=>by rw[List.find?_cons,List.find?_cons,h x (by simp),aEw (fun y hy=>h y (by simp[hy]))]
theorem aP2 {order:List Int}{c:Conditional}(ho:∀ u∈order,1<=u)(hl:order.length<=4294967296)(hc:c.fParents.length<=4294967296):uW order c=some (upP order c):=by
 have:=(kR (step:=oW c) c.fParents (fun k t=>((k:Int),t)) (fun t x=>if(fun p:Parent=>decide (0<p.fNode)) x=true then t++[x.fNode]else t) (fun t=>t) (fun k t=>t.length<=k) (fun k t hk hi=>by
  constructor
  · unfold oW
    simp only[]
    rw[if_pos (by omega),aJ hk]
    simp only[Option.bind_some,wi1 (by omega:k<=4294967296)]
    by_cases c0:0<(c.fParents[k]).fNode
    · rw[if_pos c0,if_pos (by simpa using c0),aL (by omega)];rfl
    · rw[if_neg c0,if_neg (by simpa using c0)]
  · simp only[];split
    · rw[List.length_append,List.length_singleton];omega
    · omega) (fun t _=>by unfold oW;simp only[];rw[if_neg (by omega)]) [] (Nat.zero_le _)).1
 rw[show((0:Nat):Int)=0 from rfl]at this
 have e:∀ (l:List Parent) (t:List Int),l.foldl (fun t x=>if(fun p:Parent=>decide (0<p.fNode)) x=true then t++[x.fNode]else t) t=t++(l.filter (fun p=>decide (0<p.fNode))).map (·.fNode):=by
  intro l
  induction l with
  | nil=>intro t;simp
  | cons x l ih =>
   intro t
   rw[List.foldl_cons,ih,List.filter_cons]
   by_cases c0:0<x.fNode <;> simp[c0]
 rw[e,List.nil_append]at this
 unfold uW
 rw[this]
 simp only[Option.bind_some]
 have hf:=List.length_filter_le (fun p:Parent=>decide (0<p.fNode)) c.fParents
 rw[aJY _ _ hl (by rw[List.length_map];omega)]
 simp only[Option.bind_some]
 congr 1
 unfold upP aP
 congr 1
 refine aEw fun u hu=>?_
 have:=ho u hu
 rw[Bool.eq_iff_iff,decide_eq_true_iff,decide_eq_true_iff]
 unfold aDR
 simp only[List.mem_map,List.mem_filter,decide_eq_true_eq]
 constructor
 · rintro⟨p,⟨h1,_⟩,rfl⟩;exact⟨p,h1,rfl⟩
 · rintro⟨p,h1,rfl⟩;exact⟨p,⟨h1,by omega⟩,rfl⟩
theorem aCJ (c:Conditional)(v:Int)(h:c.fParents.length<=4294967296):vN c v=some (decide (v∈aDR c)):=by
 have main:∀ m k:Nat,m+k=c.fParents.length->lp (iE c v) (k:Int)=some (if v∈(c.fParents.drop k).map (·.fNode)then .inr true else .inl ()):=by
  intro m
  induction m with
  | zero =>
   intro k hk
   have:k=c.fParents.length:=by omega
   subst this
   rw[aI (r:=.inl ()) (by unfold iE;rw[if_neg (by omega)]),List.drop_length];simp
  | succ m ih =>
   intro k hk
   have hlt:k<c.fParents.length:=by omega
   rw[List.drop_eq_getElem_cons hlt,List.map_cons]
   by_cases d:(c.fParents[k]).fNode=v
   · rw[aI (r:=.inr true) (by unfold iE;rw[if_pos (by omega),aJ hlt];simp[d]),if_pos (by simp[d])]
   · have e:iE c v (k:Int)=some (.inl ((k+1:Nat):Int)):=by
      unfold iE;rw[if_pos (by omega),aJ hlt];simp only[Option.bind_some,wi1 (by omega:k<=4294967296)];rw[if_neg d]
     rw[aR e,ih (k+1) (by omega)]
     have:(v∈(c.fParents[k]).fNode::(c.fParents.drop (k+1)).map (·.fNode))↔v∈(c.fParents.drop (k+1)).map (·.fNode):=by
      rw[List.mem_cons];exact⟨fun h=>h.resolve_left (fun e=>d e.symm),.inr⟩
     simp only[this]
 have:=main c.fParents.length 0 (by omega)
 rw[show((0:Nat):Int)=0 from rfl,List.drop_zero]at this
 unfold vN aDR
 rw[this]
 by_cases d:v∈c.fParents.map (·.fNode)
 · rw[if_pos d,decide_eq_true d];rfl
 · rw[if_neg d,decide_eq_false d];rfl
theorem aPm (order:List Int)(v:Int)(own:List Link)(r:Conditional×List Link×Rat×Bool)(e:Rat)(hl:order.length<=4294967296)(hc:r.1.fParents.length<=4294967296):lp (fS order v own r e) 0=some (TreeNode.mk v (upP order r.1) own r.1 r.2.1 e):=by
 have main:∀ m k:Nat,m+k=order.length->lp (fS order v own r e) (k:Int)=some (TreeNode.mk v (aP (order.drop k) (aDR r.1)) own r.1 r.2.1 e):=by
  intro m
  induction m with
  | zero =>
   intro k hk
   have:k=order.length:=by omega
   subst this
   rw[aI (by unfold fS;rw[if_neg (by omega)]),List.drop_length];rfl
  | succ m ih =>
   intro k hk
   have hlt:k<order.length:=by omega
   rw[List.drop_eq_getElem_cons hlt]
   unfold aP
   rw[List.find?_cons]
   by_cases d:order[k]∈aDR r.1
   · rw[aI (r:=TreeNode.mk v order[k] own r.1 r.2.1 e) (by unfold fS;rw[if_pos (by omega),aJ hlt];simp only[Option.bind_some,aCJ _ _ hc,decide_eq_true d,if_true])]
     simp[d]
   · have e:fS order v own r e (k:Int)=some (.inl ((k+1:Nat):Int)):=by
      unfold fS;rw[if_pos (by omega),aJ hlt];simp only[Option.bind_some,aCJ _ _ hc,wi1 (by omega:k<=4294967296),decide_eq_false d,Bool.false_eq_true,if_false]
     rw[aR e,ih (k+1) (by omega)]
     simp only[d,decide_false]
     rfl
 have:=main order.length 0 (by omega)
 rw[show((0:Nat):Int)=0 from rfl,List.drop_zero]at this
 exact this
def yL (v:Int)(b:List TreeNode):List Link:=(b.filter (fun n=>decide (n.fUp=v))).flatMap (·.fMessages)
theorem aHq (v:Int):∀ (b:List TreeNode) (t:List Link),b.foldl (fun t n=>if n.fUp=v then t++n.fMessages else t) t=t++yL v b
 | [],t=>by simp[yL]
 | n::b,t=>by
  rw[List.foldl_cons,aHq v b]
  unfold yL
  rw[List.filter_cons]
  by_cases c:n.fUp=v <;> simp[c]
theorem aJD {v:Int}:∀ {b:List TreeNode},(∀ n∈b,LSet n.fMessages)->(yL v b).length<=100*b.length
 | [],_=>by simp[yL]
 | n::b,h=>by
  have:=aJD (v:=v) (b:=b) (fun m hm=>h m (by simp[hm]))
  have h1:=(h n (by simp)).len
  unfold yL at this ⊢
  rw[List.filter_cons,List.length_cons]
  split
  · rw[List.flatMap_cons,List.length_append];omega
  · omega
theorem aKw {v:Int}{b:List TreeNode}(h:∀ n∈b,LSet n.fMessages):∀ x∈yL v b,ValidL x:=by
 intro x hx
 unfold yL at hx
 obtain⟨n,hn,hx⟩:=List.mem_flatMap.1 hx
 exact(h n (List.mem_filter.1 hn).1).1 x hx
theorem aNX {step:(Int×List Link)->Option ((Int×List Link) ⊕ List Link)}(v:Int)(b:List TreeNode)(own:List Link)(ho:own.length<=4294967296)(hb:b.length<=4194304)(h:∀ n∈b,LSet n.fMessages)
 (hstep:step=fun s=>match s with | (v6,v7)=>(if(v6<(b.length:Int))then(idx b v6).bind fun y8=>(if(y8.fUp=v)then(chk ((v7.length+y8.fMessages.length)*184<=140737488355328)).bind fun _u=>(aU (v7++y8.fMessages)).bind fun v10=>some (.inl (i64.wrap (v6+1),v10))else some (.inl (i64.wrap (v6+1),v7)))else some (.inr v7))):lp step (0,own)=some (own++yL v b):=by
 subst hstep
 have:=(kR (step:=fun s=>match s with | (v6,v7)=>(if(v6<(b.length:Int))then(idx b v6).bind fun y8=>(if(y8.fUp=v)then(chk ((v7.length+y8.fMessages.length)*184<=140737488355328)).bind fun _u=>(aU (v7++y8.fMessages)).bind fun v10=>some (.inl (i64.wrap (v6+1),v10))else some (.inl (i64.wrap (v6+1),v7)))else some (.inr v7))) b (fun k t=>((k:Int),t)) (fun t n=>if n.fUp=v then t++n.fMessages else t) (fun t=>t) (fun k t=>t.length<=4294967296+100*k) (fun k t hk hi=>by
  have hm:=(h _ (List.getElem_mem hk)).len
  constructor
  · simp only[]
    rw[if_pos (by omega),aJ hk]
    simp only[Option.bind_some,wi1 (by omega:k<=4294967296)]
    by_cases c:(b[k]).fUp=v
    · rw[if_pos c,if_pos c,aL (by omega)];rfl
    · rw[if_neg c,if_neg c]
  · split
    · rw[List.length_append];omega
    · omega) (fun t _=>by simp only[];rw[if_neg (by omega)]) own (by omega)).1
 rw[show((0:Nat):Int)=0 from rfl,aHq]at this
 exact this
def aPj:TreeNode:=TreeNode.mk 0 0 ([]) (Conditional.mk 0 (Rat.mk (BigInt.mk false ([])) ([])) ([])) ([]) (Rat.mk (BigInt.mk false ([])) ([]))
noncomputable def pD (order:List Int)(v:Int)(own:List Link)(b:List TreeNode):Option TreeNode :=
 (jnP (own++yL v b)).bind fun x=>(aCf v x.1).bind fun y=>if bA (RA x.2 y.2.2)then some ⟨v,upP order y.1,own,y.1,y.2.1,RA x.2 y.2.2⟩else none
def pkN:Option TreeNode->TreeNode×Bool
 | some n=>(n,true)
 | none=>(aPj,false)
theorem aNg {c:Conditional}(h:aV c<=20000):c.fParents.length<=20000:=by
 have:c.fParents.length<=mX c.fParents:=oA _ _
 unfold aV at h;omega
theorem aJq (a b:List Link):aK (a++b)=aK a+aK b:=by unfold aK szL;simp
theorem aLQ {order:List Int}{v:Int}{own:List Link}{b:List TreeNode}(hl:order.length<=4194304)(ho:∀ u∈order,1<=u)(hz:aK own<=4194304)(hb:b.length<=100)(hm:∀ n∈b,LSet n.fMessages)(hv:∀ x∈own,ValidL x) :
 qO v own order b=some (pkN (pD order v own b))/\vQ ⟨b⟩ order v own=some (pkN (pD order v own b)):=by
 have hol:own.length<=4194304:=Nat.le_trans (oA _ _) hz
 have q1:=aNX (step:=tW v b) v b own (by omega) (by omega) hm rfl
 have q2:=aNX (step:=wR ⟨b⟩ v) v b own (by omega) (by omega) hm rfl
 have hmv:=aKw (v:=v) hm
 have hml:=aJD (v:=v) hm
 have hall:∀ x∈own++yL v b,ValidL x:=fun x hx=>(List.mem_append.1 hx).elim (hv x) (hmv x)
 have hms:=aAA hmv
 have hsz:aK (own++yL v b)<=4294967296:=by rw[aJq];omega
 have hln:(own++yL v b).length<=4294967296:=by rw[List.length_append];omega
 have j1:=(wU (own++yL v b) hsz).1
 have j2:=aAj hall hln
 unfold qO vQ pD
 rw[aAX own (by omega)]
 simp only[Option.bind_some,List.nil_append,List.length_nil]
 rw[aL (by omega),q1]
 simp only[Option.bind_some,sG]
 rw[q2,j1]
 simp only[Option.bind_some,j2]
 cases h:jnP (own++yL v b)with
 | none =>
  simp only[pk,Option.bind_none,pkN]
  refine⟨?_,rfl⟩
  rw[(aDK aAz v).1]
  have e0:bG (pkR (aCf v [])).2.2.1<=4294967296:=by
   cases h2:aCf v []with
   | none=>exact VZs aAV
   | some y=>exact VZs (.inl (aGo aAz (c:=y.1) (m:=y.2.1) (e:=y.2.2) h2).2.2.1)
  simp only[Option.bind_some]
  rw[(aQb (VZs aAV) e0).1]
  rfl
 | some x =>
  obtain⟨s,e⟩:=x
  obtain⟨_,hs,he⟩:=aBo h
  simp only[pk,Option.bind_some,if_true]
  rw[(aDK hs v).1,(aDK hs v).2]
  simp only[Option.bind_some]
  cases h2:aCf v s with
  | none =>
   simp only[pkR,Option.bind_none,pkN]
   rw[(wC (.inl he) aAV).1,(wC (.inl he) aAV).2.1]
   exact⟨rfl,rfl⟩
  | some y =>
   obtain⟨c,m,f⟩:=y
   obtain⟨k1,k2,k3,_⟩:=aGo hs h2
   have ra:=wC (.inl he) (.inl k3)
   have hp:=aNg k1
   simp only[pkR,Option.bind_some,ra.1,ra.2.1,if_true]
   rw[dP _ (VZs ra.2.2),gQ ra.2.2,aP2 ho (by omega) (by omega),aPm order v own (c,m,f,true) (RA e f) (by omega) (by show c.fParents.length<=_;omega)]
   simp only[Option.bind_some]
   by_cases g:bA (RA e f)
   · rw[decide_eq_true g,if_pos g];exact⟨rfl,rfl⟩
   · rw[decide_eq_false g,if_neg g];exact⟨rfl,rfl⟩
theorem aDX {order:List Int}{v:Int}{own:List Link}{b:List TreeNode}{n:TreeNode}(h:pD order v own b=some n):LSet n.fMessages/\n.fOwn=own/\aV n.fCond<=20000/\bA n.fEnergy/\n.fNode=v/\n.fUp=upP order n.fCond:=by
 unfold pD at h
 cases h1:jnP (own++yL v b)with
 | none=>rw[h1]at h;cases h
 | some x =>
  rw[h1,Option.bind_some]at h
  cases h2:aCf v x.1 with
  | none=>rw[h2]at h;cases h
  | some y =>
   rw[h2,Option.bind_some]at h
   obtain⟨_,hs,he⟩:=aBo (s:=x.1) (e:=x.2) h1
   obtain⟨k1,k2,k3,_⟩:=aGo hs (c:=y.1) (m:=y.2.1) (e:=y.2.2) h2
   split at h
   · rename_i g;cases h;exact⟨k2,rfl,k1,g,rfl,rfl⟩
   · cases h
end Go.Ev
/- The nodes of a link set, orders of elimination, whose a link is, both programs. -/
namespace Go.Ev
set_option linter.all false
def aCV:List Int:=(List.range 9).map (fun k:Nat=>(k:Int)+1)
theorem aLT {x:Int}:x∈aCV↔1<=x/\x<=9:=by
 unfold aCV
 simp only[List.mem_map,List.mem_range]
 constructor
 · rintro⟨k,h,rfl⟩;omega
 · intro h;exact⟨(x-1).toNat,by omega,by omega⟩
theorem aDY:aCV.length=9:=by decide
theorem aLU (k:Nat)(h:k<aCV.length):aCV[k]=(k:Int)+1:=by simp[aCV]
def fD (s:List Link):List Int:=aCV.filter (fun v=>s.any (tch v))
theorem yI (s:List Link):(fD s).Pairwise (· < ·):=by
 have:aCV.Pairwise (· < ·):=by decide
 exact this.sublist List.filter_sublist
theorem yH (s:List Link):(fD s).length<=9:=by
 have:=List.length_filter_le (fun v=>s.any (tch v)) aCV
 rw[aDY]at this;exact this
theorem yG {s:List Link}{x:Int}:x∈fD s↔(1<=x/\x<=9)/\∃ l∈s,l.fA=x\/l.fB=x:=by
 unfold fD
 rw[List.mem_filter,aLT,List.any_eq_true]
 simp only[tch,decide_eq_true_eq]
def aEU (t:List Int)(l:Link):List Int:=zN (if 0<l.fA then zN t l.fA else t) l.fB
theorem aHf {t:List Int}(l:Link)(h:t.Pairwise (· < ·)):(aEU t l).Pairwise (· < ·):=by
 unfold aEU;split
 · exact tJ _ _ (tJ _ _ h)
 · exact tJ _ _ h
theorem aLA {t:List Int}{l:Link}{x:Int}:x∈aEU t l↔x=l.fB\/(x=l.fA/\0<x)\/x∈t:=by
 unfold aEU;split
 · rw[xM,xM]
   constructor
   · rintro(h | h | h)
     · exact .inl h
     · exact .inr (.inl ⟨h,by omega⟩)
     · exact .inr (.inr h)
   · rintro(h | ⟨h,_⟩ | h)
     · exact .inl h
     · exact .inr (.inl h)
     · exact .inr (.inr h)
 · rw[xM]
   constructor
   · rintro(h | h)
     · exact .inl h
     · exact .inr (.inr h)
   · rintro(h | ⟨h,_⟩ | h)
     · exact .inl h
     · omega
     · exact .inr h
theorem aLB (t:List Int)(l:Link):(aEU t l).length<=t.length+2:=by
 unfold aEU;split
 · have:=xN (zN t l.fA) l.fB;have:=xN t l.fA;omega
 · have:=xN t l.fB;omega
theorem aFP:∀ (s:List Link) (t:List Int) (x:Int),x∈s.foldl aEU t↔x∈t\/∃ l∈s,x=l.fB\/(x=l.fA/\0<x)
 | [],t,x=>by simp
 | l::s,t,x=>by
  rw[List.foldl_cons,aFP s,aLA]
  simp only[List.mem_cons,exists_eq_or_imp]
  constructor
  · rintro((h | h | h) | h)
    · exact .inr (.inl (.inl h))
    · exact .inr (.inl (.inr h))
    · exact .inl h
    · exact .inr (.inr h)
  · rintro(h | (h | h) | h)
    · exact .inl (.inr (.inr h))
    · exact .inl (.inl h)
    · exact .inl (.inr (.inl h))
    · exact .inr h
theorem aBU:∀ (s:List Link) (t:List Int),t.Pairwise (· < ·)->(s.foldl aEU t).Pairwise (· < ·)
 | [],t,h=>h
 | l::s,t,h=>aBU s _ (aHf l h)
theorem aF4 {s:List Link}(hs:LSet s):oC s=some (fD s):=by
 have hl:=hs.len
 have:=(kR (step:=lX s) s (fun k t=>(t,(k:Int))) aEU (fun t=>t) (fun k t=>t.length<=2*k) (fun k t hk hi=>by
  constructor
  · unfold lX
    simp only[]
    rw[if_pos (by omega),aJ hk]
    simp only[Option.bind_some,wi1 (by omega:k<=4294967296)]
    unfold aEU
    by_cases c:0<(s[k]).fA
    · rw[if_pos c,if_pos c,aHe _ _ (by omega)]
      simp only[Option.bind_some]
      rw[aHe _ _ (by have:=xN t (s[k]).fA;omega)];rfl
    · rw[if_neg c,if_neg c]
      simp only[Option.bind_some]
      rw[aHe _ _ (by omega)];rfl
  · have:=aLB t s[k];omega) (fun t _=>by unfold lX;simp only[];rw[if_neg (by omega)]) [] (Nat.zero_le _)).1
 rw[show((0:Nat):Int)=0 from rfl]at this
 unfold oC
 rw[jZ s (by have:=hs.sz;omega),decide_eq_true hs]
 simp only[Option.bind_some,if_true,this]
 congr 1
 refine yA (aBU _ _ List.Pairwise.nil) (yI s) fun x=>?_
 rw[aFP,yG]
 constructor
 · rintro(h | ⟨l,hl,h⟩)
   · cases h
   · have v:=hs.1 l hl
     rcases h with rfl | ⟨rfl,h0⟩
     · exact⟨⟨by have:=v.2.2.1;have:=v.1.1;omega,v.2.1.2⟩,l,hl,.inr rfl⟩
     · exact⟨⟨by omega,v.1.2⟩,l,hl,.inl rfl⟩
 · rintro⟨h1,l,hl,h⟩
   refine .inr ⟨l,hl,?_⟩
   rcases h with h | h
   · exact .inr ⟨h.symm,by omega⟩
   · exact .inl h.symm
theorem aID {s:List Link}(hs:s.length<=4294967296)(v:Int)(t:List Int)(ht:t.length<=1000):lp (iK s v t) 0=some (if s.any (tch v)=true then t++[v]else t):=by
 have main:∀ m k:Nat,m+k=s.length->lp (iK s v t) (k:Int)=some (if(s.drop k).any (tch v)=true then t++[v]else t):=by
  intro m
  induction m with
  | zero =>
   intro k hk
   have:k=s.length:=by omega
   subst this
   rw[aI (r:=t) (by unfold iK;rw[if_neg (by omega)]),List.drop_length];rfl
  | succ m ih =>
   intro k hk
   have hlt:k<s.length:=by omega
   have e0:((if(s[k]).fA=v then some true else some (decide ((s[k]).fB=v))):Option Bool)=some (tch v s[k]):=by
    unfold tch;by_cases A:(s[k]).fA=v <;> by_cases B:(s[k]).fB=v <;> simp[A,B]
   rw[List.drop_eq_getElem_cons hlt,List.any_cons]
   by_cases c:tch v s[k]=true
   · rw[aI (r:=t++[v]) (by unfold iK;rw[if_pos (by omega),aJ hlt];simp only[Option.bind_some,e0,c,if_true];rw[aL (by omega)];rfl)]
     simp[c]
   · have e:iK s v t (k:Int)=some (.inl ((k+1:Nat):Int)):=by
      unfold iK;rw[if_pos (by omega),aJ hlt];simp only[Option.bind_some,e0,wi1 (by omega:k<=4294967296)];rw[if_neg c]
     rw[aR e,ih (k+1) (by omega)]
     simp only[Bool.not_eq_true]at c
     simp[c]
 have:=main s.length 0 (by omega)
 rw[show((0:Nat):Int)=0 from rfl,List.drop_zero]at this
 exact this
theorem aKs {s:List Link}(hs:s.length<=4294967296):yR s=some (fD s):=by
 have:=(kR (step:=pO s) aCV (fun k t=>((k:Int)+1,t)) (fun t v=>if(fun v=>s.any (tch v)) v=true then t++[v]else t) (fun t=>t) (fun k t=>t.length<=k) (fun k t hk hi=>by
  have hk9:k<9:=by rw[aDY]at hk;exact hk
  constructor
  · unfold pO
    simp only[]
    rw[if_pos (by omega),aID hs _ _ (by omega),aLU]
    have w:IntKind.i64.wrap ((k:Int)+1+1)=((k+1:Nat):Int)+1:=by rw[wi (by omega)];omega
    simp only[Option.bind_some,w]
  · simp only[];split
    · rw[List.length_append,List.length_singleton];omega
    · omega) (fun t _=>by unfold pO;simp only[];rw[aDY,if_neg (by omega)]) [] (Nat.zero_le _)).1
 rw[show((0:Nat):Int)+1=1 from rfl,uS,List.nil_append]at this
 unfold yR
 rw[this];rfl
def isOrd (s:List Link)(o:List Int):Prop:=o.Nodup/\(∀ y∈o,y∈fD s)/\o.length=(fD s).length
instance (s:List Link)(o:List Int):Decidable (isOrd s o):=by unfold isOrd;exact inferInstance
theorem aIB:∀ {a b:List Int},a.Nodup->(∀ x∈a,x∈b)->b.length<=a.length->b.Perm a
 | [],b,_,_,h=>by
  have:b=[]:=List.eq_nil_of_length_eq_zero (by simpa using h)
  rw[this]
 | x::a,b,hn,hs,h=>by
  rw[List.nodup_cons]at hn
  have hx:=hs x (by simp)
  have p:=List.perm_cons_erase hx
  have hl:=p.length_eq
  rw[List.length_cons]at hl h
  refine p.trans (List.Perm.cons x (aIB hn.2 (fun y hy=>?_) (by omega)))
  have:y≠x:=fun e=>hn.1 (e▸hy)
  exact(List.mem_erase_of_ne this).2 (hs y (by simp[hy]))
theorem aKz {l:List Int}(h:l.Pairwise (· < ·)):l.Nodup:=h.imp (fun {a b} hab e=>by subst e;omega)
theorem aFM (s:List Link)(o:List Int):isOrd s o↔(∀ v∈fD s,v∈o)/\o.length=(fD s).length:=by
 have hn:=aKz (yI s)
 constructor
 · rintro⟨h1,h2,h3⟩
   have p:=aIB h1 h2 (by omega)
   exact⟨fun v hv=>p.mem_iff.1 hv,h3⟩
 · rintro⟨h1,h2⟩
   have p:=aIB hn h1 (by omega)
   exact⟨p.nodup_iff.2 hn,fun y hy=>p.mem_iff.1 hy,h2⟩
theorem aEq {s:List Link}{o:List Int}(h:isOrd s o):o.length<=9/\(∀ u∈o,1<=u):=by
 have:=yH s
 exact⟨by rw[h.2.2];exact this,fun u hu=>(yG.1 (h.2.1 u hu)).1.1⟩
theorem aEx {σ:Type}{step:σ->Option (σ ⊕ (Unit ⊕ Bool))}(n:Nat)(E:Nat->σ)(G:Nat->Prop)(h1:∀ k:Nat,k<n->(G k/\step (E k)=some (.inl (E (k+1))))\/(¬G k/\step (E k)=some (.inr (.inr false))))(h2:step (E n)=some (.inr (.inl ()))) :
 (lp step (E 0)=some (.inl ())/\∀ k,k<n->G k)\/(lp step (E 0)=some (.inr false)/\∃ k,k<n/\¬G k):=by
 have main:∀ m k:Nat,m+k=n->(lp step (E k)=some (.inl ())/\∀ j,k<=j->j<n->G j)\/(lp step (E k)=some (.inr false)/\∃ j,j<n/\¬G j):=by
  intro m
  induction m with
  | zero =>
   intro k hk
   have:k=n:=by omega
   subst this
   exact .inl ⟨aI h2,fun j _ _=>by omega⟩
  | succ m ih =>
   intro k hk
   rcases h1 k (by omega)with⟨g,e⟩ | ⟨g,e⟩
   · rw[aR e]
     rcases ih (k+1) (by omega)with⟨a,b⟩ | ⟨a,b⟩
     · refine .inl ⟨a,fun j h1 h2=>?_⟩
       by_cases e:j=k
       · subst e;exact g
       · exact b j (by omega) h2
     · exact .inr ⟨a,b⟩
   · exact .inr ⟨aI e,k,by omega,g⟩
 rcases main n 0 (by omega)with⟨a,b⟩ | ⟨a,b⟩
 · exact .inl ⟨a,fun j h=>b j (Nat.zero_le _) h⟩
 · exact .inr ⟨a,b⟩
theorem yE {l:List Int}:l.Nodup↔∀ k (h:k<l.length),l[k]∉l.take k:=by
 unfold List.Nodup
 rw[List.pairwise_iff_getElem]
 constructor
 · intro h k hk hm
   obtain⟨j,hj,e⟩:=List.mem_iff_getElem.1 hm
   rw[List.length_take]at hj
   rw[List.getElem_take]at e
   exact h j k (by omega) hk (by omega) e
 · intro h i j hi hj hij e
   refine h j hj ?_
   rw[<- e]
   exact List.mem_iff_getElem.2 ⟨i,by rw[List.length_take];omega,by rw[List.getElem_take]⟩
theorem aJk {s:List Link}(hs:LSet s)(o:List Int)(ho:o.length<=4194304):qV s o=some (decide (isOrd s o)):=by
 have hn:=yH s
 unfold qV
 rw[aF4 hs]
 simp only[Option.bind_some]
 have L:=aEx (step:=lZ o (fD s)) o.length (fun k=>((k:Int),o.take k)) (fun k=>∀ h:k<o.length,o[k]∈fD s/\o[k]∉o.take k) (fun k hk=>by
  have tl:(o.take k).length<=k:=by rw[List.length_take];omega
  have tk:o.take (k+1)=o.take k++[o[k]]:=by rw[List.take_add_one,List.getElem?_eq_getElem hk];rfl
  unfold lZ
  simp only[]
  rw[if_pos (by omega),aJ hk]
  simp only[Option.bind_some,aBR (fD s) _ (by omega),aBR (o.take k) _ (by omega),wi1 (by omega:k<=4294967296)]
  by_cases A:o[k]∈fD s
  · by_cases B:o[k]∈o.take k
    · right
      refine⟨fun h=>(h hk).2 B,?_⟩
      rw[decide_eq_true A,decide_eq_true B];rfl
    · left
      refine⟨fun h=>⟨A,B⟩,?_⟩
      rw[decide_eq_true A,decide_eq_false B]
      simp only[if_true,Option.bind_some,Bool.false_eq_true,if_false]
      rw[aL (by omega),tk];rfl
  · right
    refine⟨fun h=>A (h hk).1,?_⟩
    rw[decide_eq_false A];rfl) (by unfold lZ;simp only[];rw[if_neg (by omega)])
 simp only[List.take_zero]at L
 rw[show((0:Nat):Int)=0 from rfl]at L
 rcases L with⟨e,g⟩ | ⟨e,k,hk,g⟩
 · rw[e]
   simp only[Option.bind_some]
   rw[jZ s (by have:=hs.sz;omega),decide_eq_true hs]
   simp only[Option.bind_some,if_true]
   congr 1
   rw[Bool.eq_iff_iff,decide_eq_true_iff,decide_eq_true_iff]
   constructor
   · intro h
     refine⟨yE.2 (fun k hk=>(g k hk hk).2),fun y hy=>?_,by omega⟩
     obtain⟨j,hj,rfl⟩:=List.mem_iff_getElem.1 hy
     exact(g j hj hj).1
   · intro h;rw[h.2.2]
 · rw[e]
   have:¬isOrd s o:=fun h=>g (fun hk=>⟨h.2.1 _ (List.getElem_mem hk),yE.1 h.1 k hk⟩)
   rw[decide_eq_false this];rfl
theorem aGZ (s:List Link)(h:aK s<=4294967296):rM s=some (decide (LSet s)):=by
 rw[<- jZ s h]
 unfold rM cV
 have:lp (rL s) 0=lp (eC s) 0:=by
  refine aL5 (fun _=>True) (fun v _=>⟨?_,fun _ _=>trivial⟩) _ trivial
  unfold rL eC
  cases e:idx s v with
  | none=>rfl
  | some y =>
   have hy:y∈s:=List.mem_of_getElem? (aFb e).2.1
   have hz:=sR (w:=cA) hy
   unfold aK at h
   have q:=gR y (by omega)
   simp only[Option.bind_some,q.1,q.2,aIi,aEQ]
 rw[this]
theorem aJl {s:List Link}(hs:LSet s)(o:List Int)(ho:o.length<=4194304):yT s o=some (decide (isOrd s o)):=by
 have hn:=yH s
 unfold yT
 have il:rM s=some true:=by rw[aGZ s (by have:=hs.sz;omega),decide_eq_true hs]
 rw[il,aKs (by have:=hs.len;omega)]
 simp only[Option.bind_some,if_true]
 have L:=aEx (step:=pP o (fD s)) (fD s).length (fun k=>(k:Int)) (fun k=>∀ h:k<(fD s).length,(fD s)[k]∈o) (fun k hk=>by
  unfold pP
  rw[if_pos (by omega),aJ hk]
  simp only[Option.bind_some,aAm o _ (by omega),wi1 (by omega:k<=4294967296)]
  by_cases A:(fD s)[k]∈o
  · exact .inl ⟨fun _=>A,by rw[decide_eq_true A];rfl⟩
  · exact .inr ⟨fun h=>A (h hk),by rw[decide_eq_false A];rfl⟩) (by unfold pP;rw[if_neg (by omega)])
 rw[show((0:Nat):Int)=0 from rfl]at L
 rcases L with⟨e,g⟩ | ⟨e,k,hk,g⟩
 · rw[e]
   simp only[Option.bind_some]
   congr 1
   rw[Bool.eq_iff_iff,decide_eq_true_iff,decide_eq_true_iff,aFM]
   constructor
   · intro h
     refine⟨fun v hv=>?_,by omega⟩
     obtain⟨j,hj,rfl⟩:=List.mem_iff_getElem.1 hv
     exact g j hj hj
   · intro h;rw[h.2]
 · rw[e]
   have:¬isOrd s o:=fun h=>g (fun hk=>((aFM s o).1 h).1 _ (List.getElem_mem hk))
   rw[decide_eq_false this];rfl
def nI (o:List Int)(v:Int)(l:Link):Bool:=decide (aP o [l.fA,l.fB]=v)
theorem aNh (o:List Int)(l:Link)(h:o.length<=4294967296):oX o l=some (aP o [l.fA,l.fB]):=by
 unfold oX
 rw[aJY _ _ h (by simp)];rfl
theorem aKF {o s:List Int}{v:Int}(h:aP o s=v)(hv:v≠0):v∈s/\v∈o:=by
 unfold aP at h
 cases e:o.find? (fun u=>decide (u∈s))with
 | none=>rw[e]at h;exact absurd h.symm hv
 | some x =>
  rw[e]at h
  simp only[Option.getD_some]at h
  subst h
  exact⟨by simpa using List.find?_some e,List.mem_of_find?_eq_some e⟩
theorem aIR {o s:List Int}{k:Nat}(hk:k<o.length)(hn:o.Nodup)(h1:∀ u∈o,1<=u):aP o s=o[k]↔o[k]∈s/\∀ u∈o.take k,u∉s:=by
 have ef:o.find? (fun u=>decide (u∈s))=((o.take k).find? (fun u=>decide (u∈s))).or ((o[k]::o.drop (k+1)).find? (fun u=>decide (u∈s))):=by
  rw[<- List.find?_append,<- List.drop_eq_getElem_cons hk,List.take_append_drop]
 have hnt:=yE.1 hn k hk
 constructor
 · intro h
   have hp:=h1 _ (List.getElem_mem hk)
   refine⟨(aKF h (by omega)).1,fun u hu hus=>?_⟩
   unfold aP at h
   rw[ef]at h
   cases f:(o.take k).find? (fun u=>decide (u∈s))with
   | none =>
    rw[List.find?_eq_none]at f
    exact f u hu (by simpa using hus)
   | some x =>
    have hx:=List.mem_of_find?_eq_some f
    rw[f]at h
    simp only[Option.some_or,Option.getD_some]at h
    rw[h]at hx
    exact hnt hx
 · rintro⟨a,b⟩
   unfold aP
   rw[ef]
   have:(o.take k).find? (fun u=>decide (u∈s))=none:=by
    rw[List.find?_eq_none];intro u hu;simpa using b u hu
   rw[this,Option.none_or,List.find?_cons]
   simp[a]
end Go.Ev
/- Building a tree, both programs, and the law. -/
namespace Go.Ev
set_option linter.all false
theorem rJ (c:Conditional)(h:aV c<=4294967296):fJ c=some c:=by
 have hp:=oA lH c.fParents
 unfold aV mX at h
 unfold fJ
 rw[fR _ (by omega)]
 simp only[Option.bind_some]
 have:=xR (step:=fI c) c.fParents (fun k t=>((k:Int),t)) (fun t=>t) (fun k t hk ht=>by
  have he:=sR (w:=lH) (List.getElem_mem hk)
  have hn:lH c.fParents[k]=bG (c.fParents[k]).fShare+bG (c.fParents[k]).fDX+bG (c.fParents[k]).fDY:=rfl
  unfold fI
  simp only[]
  rw[if_pos (by omega),aJ hk]
  simp only[Option.bind_some]
  rw[fR _ (by omega)]
  simp only[Option.bind_some]
  rw[fR _ (by omega)]
  simp only[Option.bind_some]
  rw[fR _ (by omega)]
  simp only[Option.bind_some]
  rw[aL (by omega),wi (by omega)];rfl) (fun t ht=>by unfold fI;simp only[];rw[if_neg (by omega)])
 rw[show((0:Nat):Int)=0 from rfl]at this
 rw[this];rfl
theorem aKn (s:List Link)(o:List Int)(v:Int)(hs:s.length<=4194304)(ho:o.length<=4194304):lp (hZ s o v) (0,[])=some (s.filter (nI o v)):=by
 have:=(kR (step:=hZ s o v) s (fun k t=>((k:Int),t)) (fun t x=>if nI o v x=true then t++[x]else t) (fun t=>t) (fun k t=>t.length<=k) (fun k t hk hi=>by
  constructor
  · unfold hZ
    simp only[]
    rw[if_pos (by omega),aJ hk]
    simp only[Option.bind_some,aNh o _ (by omega:o.length<=4294967296),wi1 (by omega:k<=4294967296)]
    by_cases c:aP o [(s[k]).fA,(s[k]).fB]=v
    · rw[if_pos c,if_pos (by unfold nI;simpa using c),aL (by omega)];rfl
    · rw[if_neg c,if_neg (by unfold nI;simpa using c)]
  · split
    · rw[List.length_append,List.length_singleton];omega
    · omega) (fun t _=>by unfold hZ;simp only[];rw[if_neg (by omega)]) [] (Nat.zero_le _)).1
 rw[show((0:Nat):Int)=0 from rfl,uS,List.nil_append]at this
 exact this
theorem aK5 (o:List Int)(k:Nat)(hk:k<=o.length):sub o 0 (k:Int)=some (o.take k):=by
 rw[pK _ _ _ (by omega)];simp
theorem aLI (o:List Int)(hn:o.Nodup)(h1:∀ u∈o,1<=u)(ho:o.length<=4194304)(k:Nat)(hk:k<o.length)(l:Link)(hl:l.fA<l.fB) :
 ((if l.fA=o[k]then(sub o 0 (k:Int)).bind fun y57=>(fH y57 l.fB).bind fun r58=>(if r58=true then(if l.fB=o[k]then(sub o 0 (k:Int)).bind fun y59=>(fH y59 l.fA).bind fun r60=>some (!r60)else some false)else some true)else(if l.fB=o[k]then(sub o 0 (k:Int)).bind fun y61=>(fH y61 l.fA).bind fun r62=>some (!r62)else some false)):Option Bool)=some (nI o o[k] l):=by
 have tl:(o.take k).length<=4294967296:=by rw[List.length_take];omega
 have hnt:=yE.1 hn k hk
 have ft:=aIR (s:=[l.fA,l.fB]) hk hn h1
 rw[aK5 o k (by omega)]
 simp only[Option.bind_some,aAm _ _ tl]
 unfold nI
 by_cases A:l.fA=o[k]
 · have B:¬l.fB=o[k]:=by omega
   rw[if_pos A,if_neg B]
   by_cases C:l.fB∈o.take k
   · rw[decide_eq_true C,if_pos rfl]
     have:¬aP o [l.fA,l.fB]=o[k]:=fun h=>(ft.1 h).2 _ C (by simp)
     rw[decide_eq_false this]
   · rw[decide_eq_false C]
     have:aP o [l.fA,l.fB]=o[k]:=ft.2 ⟨by simp[A],fun u hu hs=>by
      rcases List.mem_cons.1 hs with rfl | hs
      · exact hnt (A▸hu)
      · rw[List.mem_singleton.1 hs]at hu;exact C hu⟩
     rw[decide_eq_true this];rfl
 · rw[if_neg A]
   by_cases B:l.fB=o[k]
   · rw[if_pos B]
     by_cases C:l.fA∈o.take k
     · have:¬aP o [l.fA,l.fB]=o[k]:=fun h=>(ft.1 h).2 _ C (by simp)
       rw[decide_eq_true C,decide_eq_false this];rfl
     · have:aP o [l.fA,l.fB]=o[k]:=ft.2 ⟨by simp[B],fun u hu hs=>by
        rcases List.mem_cons.1 hs with rfl | hs
        · exact C hu
        · rw[List.mem_singleton.1 hs]at hu;exact hnt (B▸hu)⟩
       rw[decide_eq_false C,decide_eq_true this];rfl
   · rw[if_neg B]
     have:¬aP o [l.fA,l.fB]=o[k]:=fun h=>by
      have:=(ft.1 h).1
      simp only[List.mem_cons,List.not_mem_nil,or_false]at this
      rcases this with e | e
      · exact A e.symm
      · exact B e.symm
     rw[decide_eq_false this]
theorem aKo (s:List Link)(o:List Int)(hs:s.length<=4194304)(ho:o.length<=4194304)(hv:∀ x∈s,ValidL x)(hn:o.Nodup)(h1:∀ u∈o,1<=u)(i:Nat)(hi:i<o.length):lp (jY s o o[i] (i:Int)) (0,[])=some (s.filter (nI o o[i])):=by
 have:=(kR (step:=jY s o o[i] (i:Int)) s (fun k t=>((k:Int),t)) (fun t x=>if nI o o[i] x=true then t++[x]else t) (fun t=>t) (fun k t=>t.length<=k) (fun k t hk hj=>by
  constructor
  · unfold jY
    simp only[]
    rw[if_pos (by omega),aJ hk]
    have oc:=aLI o hn h1 ho i hi s[k] (hv _ (List.getElem_mem hk)).2.2.1
    simp only[Option.bind_some,wi1 (by omega:k<=4294967296)]
    rw[oc]
    simp only[Option.bind_some]
    by_cases c:nI o o[i] s[k]=true
    · rw[if_pos c,if_pos c,aL (by omega)];rfl
    · rw[if_neg c,if_neg c]
  · split
    · rw[List.length_append,List.length_singleton];omega
    · omega) (fun t _=>by unfold jY;simp only[];rw[if_neg (by omega)]) [] (Nat.zero_le _)).1
 rw[show((0:Nat):Int)=0 from rfl,uS,List.nil_append]at this
 exact this
noncomputable def tB (s:List Link)(o:List Int):List Int->List TreeNode->Option (List TreeNode)
 | [],b=>some b
 | v::r,b=>(pD o v (s.filter (nI o v)) b).bind fun n=>tB s o r (b++[n])
noncomputable def xG (s:List Link)(o:List Int):Option Tree :=
 (jnP s).bind fun x=>if isOrd x.1 o then(tB s o o []).map Tree.mk else none
def pkT:Option Tree->Tree×Bool
 | some t=>(t,true)
 | none=>(Tree.mk [],false)
def aOp:Option (List TreeNode)->(List TreeNode) ⊕ (Tree×Bool)
 | some b=>.inl b
 | none=>.inr (Tree.mk [],false)
def NodeOk (s:List Link)(o:List Int)(n:TreeNode):Prop:=LSet n.fMessages/\n.fOwn=s.filter (nI o n.fNode)/\aV n.fCond<=20000/\bA n.fEnergy/\n.fUp=upP o n.fCond
theorem xZ (p:Link->Bool):∀ s:List Link,aK (s.filter p)<=aK s
 | []=>Nat.le_refl _
 | x::s=>by
  have:=xZ p s
  unfold aK at this ⊢
  rw[List.filter_cons,qN]
  split
  · rw[qN];omega
  · omega
theorem aIE {s:List Link}{o:List Int}{v:Int}{b:List TreeNode}{n:TreeNode}(h:pD o v (s.filter (nI o v)) b=some n):NodeOk s o n/\n.fNode=v:=by
 obtain⟨h1,h2,h3,h4,h5,h6⟩:=aDX h
 exact⟨⟨h1,by rw[h5];exact h2,h3,h4,h6⟩,h5⟩
theorem zS {s:List Link}{o:List Int}:∀ (r:List Int) (b b':List TreeNode),(∀ n∈b,NodeOk s o n)->tB s o r b=some b'->(∀ n∈b',NodeOk s o n)/\b'.map (·.fNode)=b.map (·.fNode)++r
 | [],b,b',h,e=>by cases e;exact⟨h,by simp⟩
 | v::r,b,b',h,e=>by
  rw[tB]at e
  cases h1:pD o v (s.filter (nI o v)) b with
  | none=>rw[h1]at e;cases e
  | some n =>
   rw[h1,Option.bind_some]at e
   obtain⟨g1,g2⟩:=aIE h1
   obtain⟨k1,k2⟩:=zS r (b++[n]) b' (fun m hm=>by
    rcases List.mem_append.1 hm with hm | hm
    · exact h m hm
    · rw[List.mem_singleton.1 hm];exact g1) e
   exact⟨k1,by rw[k2,List.map_append,List.append_assoc];simp[g2]⟩
theorem aIm (s:List Link)(o:List Int)(hz:aK s<=4194304)(hv:∀ x∈s,ValidL x)(ho:o.length<=9)(h1:∀ u∈o,1<=u):∀ m k:Nat,m+k=o.length->∀ b:List TreeNode,b.length=k->(∀ n∈b,LSet n.fMessages)->lp (hY s o) ((k:Int),b)=some (aOp (tB s o (o.drop k) b)):=by
 have hl:s.length<=4194304:=Nat.le_trans (oA _ _) hz
 intro m
 induction m with
 | zero =>
  intro k hk b hb hm
  rw[List.drop_eq_nil_of_le (by omega)]
  exact aI (by unfold hY;simp only[];rw[if_neg (by omega)];rfl)
 | succ m ih =>
  intro k hk b hb hm
  have hlt:k<o.length:=by omega
  rw[List.drop_eq_getElem_cons hlt,tB]
  have nq:=(aLQ (v:=o[k]) (own:=s.filter (nI o o[k])) (b:=b) (by omega:o.length<=4194304) h1 (Nat.le_trans (xZ _ s) hz) (by omega) hm (fun x hx=>hv x (List.mem_filter.1 hx).1)).1
  have st:hY s o ((k:Int),b)=some (match pD o o[k] (s.filter (nI o o[k])) b with | some n=>.inl (((k+1:Nat):Int),b++[n]) | none=>.inr (.inr (Tree.mk [],false))):=by
   unfold hY
   simp only[]
   rw[if_pos (by omega),aJ hlt]
   simp only[Option.bind_some,aKn s o o[k] hl (by omega),nq,wi1 (by omega:k<=4294967296)]
   cases pD o o[k] (s.filter (nI o o[k])) b with
   | none=>rfl
   | some n=>simp only[pkN,if_true];rw[aL (by omega)];rfl
  cases h:pD o o[k] (s.filter (nI o o[k])) b with
  | none=>rw[h]at st;rw[aI st];rfl
  | some n =>
   rw[h]at st
   rw[aR st,Option.bind_some]
   exact ih (k+1) (by omega) _ (by simp[hb]) (fun x hx=>by
    rcases List.mem_append.1 hx with hx | hx
    · exact hm x hx
    · rw[List.mem_singleton.1 hx];exact(aDX h).1)
theorem aIo (s:List Link)(o:List Int)(hz:aK s<=4194304)(hv:∀ x∈s,ValidL x)(ho:o.length<=9)(hn:o.Nodup)(h1:∀ u∈o,1<=u):∀ m k:Nat,m+k=o.length->∀ b:List TreeNode,b.length=k->(∀ n∈b,LSet n.fMessages)->lp (jX s o) ((k:Int),b)=some (aOp (tB s o (o.drop k) b)):=by
 have hl:s.length<=4194304:=Nat.le_trans (oA _ _) hz
 intro m
 induction m with
 | zero =>
  intro k hk b hb hm
  rw[List.drop_eq_nil_of_le (by omega)]
  exact aI (by unfold jX;simp only[];rw[if_neg (by omega)];rfl)
 | succ m ih =>
  intro k hk b hb hm
  have hlt:k<o.length:=by omega
  rw[List.drop_eq_getElem_cons hlt,tB]
  have nq:=(aLQ (v:=o[k]) (own:=s.filter (nI o o[k])) (b:=b) (by omega:o.length<=4194304) h1 (Nat.le_trans (xZ _ s) hz) (by omega) hm (fun x hx=>hv x (List.mem_filter.1 hx).1)).2
  have st:jX s o ((k:Int),b)=some (match pD o o[k] (s.filter (nI o o[k])) b with | some n=>.inl (((k+1:Nat):Int),b++[n]) | none=>.inr (.inr (Tree.mk [],false))):=by
   unfold jX
   simp only[]
   rw[if_pos (by omega),aJ hlt]
   simp only[Option.bind_some,aKo s o hl (by omega) hv hn h1 k hlt,nq,wi1 (by omega:k<=4294967296)]
   cases pD o o[k] (s.filter (nI o o[k])) b with
   | none=>rfl
   | some n=>simp only[pkN,if_true];rw[aL (by omega)];rfl
  cases h:pD o o[k] (s.filter (nI o o[k])) b with
  | none=>rw[h]at st;rw[aI st];rfl
  | some n =>
   rw[h]at st
   rw[aR st,Option.bind_some]
   exact ih (k+1) (by omega) _ (by simp[hb]) (fun x hx=>by
    rcases List.mem_append.1 hx with hx | hx
    · exact hm x hx
    · rw[List.mem_singleton.1 hx];exact(aDX h).1)
theorem NodeOk.sz {s:List Link}{o:List Int}{n:TreeNode}(h:NodeOk s o n)(hz:aK s<=4194304):gK n<=4300000:=by
 have h1:=h.1.sz
 have h2:aK n.fOwn<=4194304:=by rw[h.2.1];exact Nat.le_trans (xZ _ s) hz
 have h3:=lA (.inl h.2.2.2.1)
 have h4:=h.2.2.1
 unfold gK;omega
theorem aI2 (n:TreeNode)(h:gK n<=4294967296):rI n=some n:=by
 unfold gK at h
 unfold rI
 rw[sL _ (by omega),rJ _ (by omega)]
 simp only[Option.bind_some]
 rw[sL _ (by omega),fR _ (by omega)]
 rfl
theorem aI1 (t:Tree)(h:uU t<=4294967296):xE t=some t:=by
 unfold uU wV at h
 have hl:=oA gK t.fNodes
 unfold xE
 have:=xR (step:=oJ t) t.fNodes (fun k t=>((k:Int),t)) (fun t=>t) (fun k u hk hu=>by
  have he:=sR (w:=gK) (List.getElem_mem hk)
  unfold oJ
  simp only[]
  rw[if_pos (by omega),aJ hk]
  simp only[Option.bind_some]
  rw[aI2 _ (by omega)]
  simp only[Option.bind_some]
  rw[aL (by omega),wi1 (by omega)];rfl) (fun t ht=>by unfold oJ;simp only[];rw[if_neg (by omega)])
 rw[show((0:Nat):Int)=0 from rfl]at this
 rw[this];rfl
theorem aM6 {s:List Link}{o:List Int}{b:List TreeNode}(hz:aK s<=4194304)(ho:o.length<=9)(h:tB s o o []=some b):uU ⟨b⟩<=38700018:=by
 obtain⟨h1,h2⟩:=zS o [] b (by simp) h
 have hl:b.length=o.length:=by have:=congrArg List.length h2;simpa using this
 have:wV b<=(4300000+1)*b.length:=aCc (fun n hn=>(h1 n hn).sz hz)
 unfold uU
 have:(4300000+1)*b.length<=4300001*9:=Nat.mul_le_mul (Nat.le_refl _) (by omega)
 simp only[]
 omega
theorem aNN (s:List Link)(o:List Int)(hz:aK s<=4194304)(ho:o.length<=4194304):nH s o=some (pkT (xG s o))/\aAl s o=some (pkT (xG s o)):=by
 obtain⟨j1,j2⟩:=wU s (by omega)
 unfold nH aAl xG
 rw[j1,j2]
 cases h:jnP s with
 | none=>exact⟨rfl,rfl⟩
 | some x =>
  obtain⟨u,e⟩:=x
  obtain⟨hv,hs,he⟩:=aBo h
  simp only[pk,Option.bind_some,if_true]
  rw[aJk hs o ho,aJl hs o ho]
  by_cases c:isOrd u o
  · obtain⟨l9,h1⟩:=aEq c
    have q1:=aIm s o hz hv l9 h1 o.length 0 (by omega) [] rfl (by simp)
    have q2:=aIo s o hz hv l9 c.1 h1 o.length 0 (by omega) [] rfl (by simp)
    rw[show((0:Nat):Int)=0 from rfl,List.drop_zero]at q1 q2
    rw[decide_eq_true c,if_pos c]
    simp only[Option.bind_some,Bool.not_true,Bool.false_eq_true,if_false,q1,q2]
    cases g:tB s o o []with
    | none=>exact⟨rfl,rfl⟩
    | some b =>
     simp only[aOp]
     rw[aI1 ⟨b⟩ (by have:=aM6 hz l9 g;omega)]
     exact⟨rfl,rfl⟩
  · rw[decide_eq_false c,if_neg c]
    exact⟨rfl,rfl⟩
end Go.Ev
