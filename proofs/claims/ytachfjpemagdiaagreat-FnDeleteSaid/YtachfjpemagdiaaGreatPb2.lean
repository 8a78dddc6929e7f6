/- Parts P20, PR2, PR3, PV, PR4, PR5, PR6, PR7, PR8, PR9. -/
import Derived.Test.YtachfjpemagdiaaGreatPb1
import Derived.Test.YtachfjpemagdiaaGreatPa1
set_option linter.all false
/- Copies of links; the links of a tree. -/
namespace Go.Ev
set_option linter.all false
theorem qA (x:Rat)(h:bG x<=4294967296):jQ x=some x:=by
 unfold bG uY tN at h
 rw[tO,tO]at h
 unfold jQ
 rw[aP (by simp;omega),aP (by simp;omega)]
 simp only[Option.bind_some,aO,List.nil_append]
theorem tU (x:Link)(h:bL x<=4294967296):lK x=some x:=by
 unfold bL at h
 unfold lK
 rw[qA _ (by omega)]
 simp only[Option.bind_some]
 rw[qA _ (by omega)]
 simp only[Option.bind_some]
 rw[qA _ (by omega)]
 simp only[Option.bind_some]
theorem aCx (l:List Link)(h:aG l<=4294967296):pY l=some l:=by
 unfold aG at h
 have hl:=eT bL l
 unfold pY
 have:=aAv (step:=pX l) l (fun k t=>((k:Int),t)) (fun t=>t) (fun k t hk ht=>by
  have he:=mG (w:=bL) (List.getElem_mem hk)
  unfold pX
  simp only[]
  rw[if_pos (by omega),aK hk]
  simp only[Option.bind_some]
  rw[tU _ (by omega)]
  simp only[Option.bind_some]
  rw[aP (by omega),wi (by omega)];rfl) (fun t ht=>by unfold pX;simp only[];rw[if_neg (by omega)])
 rw[show((0:Nat):Int)=0 from rfl]at this
 rw[this];rfl
theorem aBh (l:List Int)(h:l.length<=4294967296):eQ l=some l:=by
 unfold eQ
 rw[aP (by simp;omega)]
 simp only[Option.bind_some,aO,List.nil_append]
theorem iU (x:Rat)(h:bG x<=4294967296):fV x=some x:=by
 unfold bG uY tN at h
 rw[tO,tO]at h
 unfold fV
 rw[aBh _ (by omega)]
 simp only[Option.bind_some]
 rw[aBh _ (by omega)]
 simp only[Option.bind_some]
theorem aEU (x:Link)(h:bL x<=4294967296):sL x=some x:=by
 unfold bL at h
 unfold sL
 rw[iU _ (by omega)]
 simp only[Option.bind_some]
 rw[iU _ (by omega)]
 simp only[Option.bind_some]
 rw[iU _ (by omega)]
 simp only[Option.bind_some]
theorem rL (l:List Link)(h:aG l<=4294967296):iV l=some l:=by
 unfold aG at h
 have hl:=eT bL l
 unfold iV
 have:=aAv (step:=lS l) l (fun k t=>((k:Int),t)) (fun t=>t) (fun k t hk ht=>by
  have he:=mG (w:=bL) (List.getElem_mem hk)
  unfold lS
  simp only[]
  rw[if_pos (by omega),aK hk]
  simp only[Option.bind_some]
  rw[aEU _ (by omega)]
  simp only[Option.bind_some]
  rw[aP (by omega),wi (by omega)];rfl) (fun t ht=>by unfold lS;simp only[];rw[if_neg (by omega)])
 rw[show((0:Nat):Int)=0 from rfl]at this
 rw[this];rfl
def bP (l:List TreeNode):List Link:=(l.map (fun n=>n.fOwn)).flatten
theorem aAo:∀ l:List TreeNode,aG (bP l)<=szL bK l
 | []=>by simp[bP,aG,aEX]
 | y::l=>by
  have:=aAo l
  have hn:bK y=aG y.fOwn+aT y.fCond+aG y.fMessages+bG y.fEnergy:=rfl
  unfold bP aG at *
  rw[List.map_cons,List.flatten_cons,aIb,lJ]
  omega
theorem aEn (l:List TreeNode)(k:Nat)(hk:k<l.length):bP (l.take (k+1))=bP (l.take k)++l[k].fOwn:=by
 unfold bP
 rw[List.take_succ,List.getElem?_eq_getElem hk,List.map_append,List.flatten_append]
 simp
theorem aNg {α:Type}(w:α->Nat)(l:List α)(k:Nat):szL w (l.take k)<=szL w l:=by
 have:=aIb w (l.take k) (l.drop k)
 rw[List.take_append_drop]at this
 omega
theorem aKJ (l:List TreeNode)(h:szL bK l<=4294967296)(k:Nat):(bP (l.take k)).length<=4294967296:=by
 have h1:=aAo (l.take k)
 have h2:=aNg bK l k
 have h3:=eT bL (bP (l.take k))
 unfold aG at h1
 omega
end Go.Ev
/- Links: validity, order, merging; adding links to a link set, both programs. -/
namespace Go.Ev
open IntKind
set_option linter.all false
def ValidL (l:Link):Prop:=(0<=l.fA/\l.fA<=9)/\(0<=l.fB/\l.fB<=9)/\l.fA<l.fB/\0<xE l.fWeight/\bO l.fDX/\bO l.fDY
instance (l:Link):Decidable (ValidL l):=by unfold ValidL;infer_instance
theorem gH (l:Link)(h:bL l<=4294967296):eW l=some (decide (ValidL l))/\gE l=some (decide (ValidL l)):=by
 unfold bL at h
 obtain⟨g1,g2⟩:=xX l.fWeight (by omega)
 have a1:=aAE l.fDX (by omega)
 have a2:=aAE l.fDY (by omega)
 have b1:=eM l.fDX (by omega)
 have b2:=eM l.fDY (by omega)
 unfold eW gE ValidL
 simp only[aJO,aCh,g1,g2,a1,a2,b1,b2,Option.bind_some]
 by_cases A:0<=l.fA/\l.fA<=9
 · by_cases B:0<=l.fB/\l.fB<=9
   · by_cases C:l.fA<l.fB
     · by_cases D:0<xE l.fWeight
       · by_cases E:bO l.fDX
         · by_cases F:bO l.fDY <;> simp[A,B,C,D,E,F]
         · simp[A,B,C,D,E]
       · simp[A,B,C,D]
     · simp[A,B,C]
   · simp[A,B]
 · simp[A]
theorem ValidL.vz {l:Link}(h:ValidL l):VZ l.fWeight/\VZ l.fDX/\VZ l.fDY:=⟨.inl (aAj h.2.2.2.1),.inl h.2.2.2.2.1,.inl h.2.2.2.2.2⟩
theorem ValidL.sz {l:Link}(h:ValidL l):bL l<=144:=by
 obtain⟨h1,h2,h3⟩:=h.vz
 have:=mF h1
 have:=mF h2
 have:=mF h3
 unfold bL;omega
theorem aDP {α:Type}{w:α->Nat}{c:Nat}:∀ {l:List α},(∀ x∈l,w x<=c)->szL w l<=(c+1)*l.length
 | [],_=>by simp[aEX]
 | y::l,h=>by
  have h1:=h y (by simp)
  have h2:=aDP (l:=l) (c:=c) (fun x hx=>h x (by simp[hx]))
  rw[lJ,List.length_cons,Nat.mul_add,Nat.mul_one];omega
def fH (k l:Link):Prop:=k.fA<l.fA\/(k.fA=l.fA/\k.fB<l.fB)
instance (k l:Link):Decidable (fH k l):=by unfold fH;infer_instance
theorem aGS (k l:Link):nR k l=some (decide (fH k l)):=by
 unfold nR fH
 by_cases A:k.fA<l.fA
 · simp[A]
 · by_cases B:k.fA=l.fA
   · simp[A,B]
   · simp[A,B]
theorem aKm (k l:Link):kD k l=some (decide (fH k l)):=aGS k l
theorem aBN {a b c:Link}(h:fH a b)(g:fH b c):fH a c:=by unfold fH at *;omega
noncomputable def sqR (x y:Rat):Rat:=RA (RM x x) (RM y y)
noncomputable def aBk (k l:Link):Link:=⟨k.fA,k.fB,RA k.fWeight l.fWeight,RD (RA (RM k.fWeight k.fDX) (RM l.fWeight l.fDX)) (RA k.fWeight l.fWeight),RD (RA (RM k.fWeight k.fDY) (RM l.fWeight l.fDY)) (RA k.fWeight l.fWeight)⟩
noncomputable def aDY (k l:Link):Rat:=RM (RD (RM k.fWeight l.fWeight) (RA k.fWeight l.fWeight)) (sqR (RS k.fDX l.fDX) (RS k.fDY l.fDY))
def zM (k l:Link):Prop:=bO (aBk k l).fWeight/\bO (aBk k l).fDX/\bO (aBk k l).fDY/\bO (aDY k l)
noncomputable instance (k l:Link):Decidable (zM k l):=by unfold zM;infer_instance
def aHh:Link:=Link.mk 0 0 (Rat.mk (BigInt.mk false ([])) ([])) (Rat.mk (BigInt.mk false ([])) ([])) (Rat.mk (BigInt.mk false ([])) ([]))
theorem aR5 {x y:Rat}(hx:VZ x)(hy:VZ y):oJ x y=some (sqR x y)/\lQ x y=some (sqR x y)/\VZ (sqR x y):=by
 obtain⟨a1,a2,a3⟩:=aD9 hx hx
 obtain⟨b1,b2,b3⟩:=aD9 hy hy
 obtain⟨c1,c2,c3⟩:=aBn a3 b3
 unfold oJ lQ sqR
 simp only[a1,a2,b1,b2,c1,c2,Option.bind_some]
 exact⟨trivial,trivial,c3⟩
theorem aJD {k l:Link}(hk:ValidL k)(hl:ValidL l)(h:zM k l):ValidL (aBk k l) :=
 ⟨hk.1,hk.2.1,hk.2.2.1,aQX hk.2.2.2.1 hl.2.2.2.1 h.1,h.2.1,h.2.2.1⟩
theorem aLP {k l:Link}(hk:ValidL k)(hl:ValidL l)(hA:k.fA=l.fA)(hB:k.fB=l.fB) :
 oM k l=some (if zM k l then(aBk k l,aDY k l,true)else(aHh,oF,false))/\oX k l=some (if zM k l then(aBk k l,aDY k l,true)else(aHh,oF,false))/\VZ (aDY k l):=by
 obtain⟨k1,k2,k3⟩:=hk.vz
 obtain⟨l1,l2,l3⟩:=hl.vz
 obtain⟨a1,a2,a3⟩:=aBn k1 l1
 obtain⟨b1,b2,b3⟩:=aD9 k1 k2
 obtain⟨c1,c2,c3⟩:=aD9 l1 l2
 obtain⟨d1,d2,d3⟩:=aBn b3 c3
 obtain⟨e1,e2,e3⟩:=aGP d3 a3
 obtain⟨f1,f2,f3⟩:=aD9 k1 k3
 obtain⟨g1,g2,g3⟩:=aD9 l1 l3
 obtain⟨i1,i2,i3⟩:=aBn f3 g3
 obtain⟨j1,j2,j3⟩:=aGP i3 a3
 obtain⟨m1,m2,m3⟩:=aD9 k1 l1
 obtain⟨n1,n2,n3⟩:=aGP m3 a3
 obtain⟨o1,o2,o3⟩:=aIW k2 l2
 obtain⟨p1,p2,p3⟩:=aIW k3 l3
 obtain⟨q1,q2,q3⟩:=aR5 o3 p3
 obtain⟨r1,r2,r3⟩:=aD9 n3 q3
 have v1:=(gH k (by have:=hk.sz;omega)).1
 have v2:=(gH l (by have:=hl.sz;omega)).1
 have vm:=(gH (aBk k l) (by
  have:=mF a3;have:=mF e3;have:=mF j3
  unfold bL aBk;simp only[];omega)).1
 refine⟨?_,?_,r3⟩
 · unfold oM
   rw[v1,v2,decide_eq_true hk,decide_eq_true hl]
   simp only[Option.bind_some,if_true,hA,hB,ne_eq,not_true_eq_false,if_false,decide_false,Bool.false_eq_true]
   simp only[a1,b1,c1,d1,e1,f1,g1,i1,j1,m1,n1,o1,p1,q1,r1,Option.bind_some]
   rw[<- hA,<- hB]
   have e:(Link.mk k.fA k.fB (RA k.fWeight l.fWeight) (RD (RA (RM k.fWeight k.fDX) (RM l.fWeight l.fDX)) (RA k.fWeight l.fWeight)) (RD (RA (RM k.fWeight k.fDY) (RM l.fWeight l.fDY)) (RA k.fWeight l.fWeight)))=aBk k l:=rfl
   rw[e,vm]
   have e2:RM (RD (RM k.fWeight l.fWeight) (RA k.fWeight l.fWeight)) (sqR (RS k.fDX l.fDX) (RS k.fDY l.fDY))=aDY k l:=rfl
   rw[e2,eM (aDY k l) (VZs r3)]
   simp only[Option.bind_some]
   by_cases O:zM k l
   · rw[if_pos O,decide_eq_true (aJD hk hl O),decide_eq_true O.2.2.2];rfl
   · rw[if_neg O]
     by_cases V:ValidL (aBk k l)
     · have:¬bO (aDY k l):=fun h=>O ⟨aAj V.2.2.2.1,V.2.2.2.2.1,V.2.2.2.2.2,h⟩
       rw[decide_eq_true V,decide_eq_false this];rfl
     · rw[decide_eq_false V];rfl
 · unfold oX
   simp only[a2,b2,c2,d2,e2,f2,g2,i2,j2,m2,n2,o2,p2,q2,r2,Option.bind_some,iK a3,iK e3,iK j3,iK r3]
   unfold zM aBk aDY
   simp only[]
   by_cases A:bO (RA k.fWeight l.fWeight)
   · by_cases B:bO (RD (RA (RM k.fWeight k.fDX) (RM l.fWeight l.fDX)) (RA k.fWeight l.fWeight))
     · by_cases C:bO (RD (RA (RM k.fWeight k.fDY) (RM l.fWeight l.fDY)) (RA k.fWeight l.fWeight))
       · by_cases D:bO (RM (RD (RM k.fWeight l.fWeight) (RA k.fWeight l.fWeight)) (sqR (RS k.fDX l.fDX) (RS k.fDY l.fDY))) <;> simp[A,B,C,D,aHh,oF]
       · simp[A,B,C,aHh,oF]
     · simp[A,B,aHh,oF]
   · simp[A,aHh,oF]
def LSet (s:List Link):Prop:=(∀ x∈s,ValidL x)/\s.Pairwise fH
noncomputable instance (s:List Link):Decidable (LSet s):=Classical.propDecidable _
theorem aLU:∀ (l:List Int) (a N:Int),l.Pairwise (· < ·)->(∀ x∈l,a<=x/\x<N)->(l.length:Int)<=max 0 (N-a)
 | [],a,N,_,_=>by rw[List.length_nil];omega
 | x::l,a,N,h,hb=>by
  rw[List.pairwise_cons]at h
  have h1:=hb x (by simp)
  have:=aLU l (x+1) N h.2 (fun y hy=>⟨by have:=h.1 y hy;omega,(hb y (by simp[hy])).2⟩)
  rw[List.length_cons];omega
theorem LSet.len {s:List Link}(h:LSet s):s.length<=100:=by
 have:=aLU (s.map fun l=>l.fA*10+l.fB) 0 100 (by
  rw[List.pairwise_map]
  refine List.Pairwise.imp_of_mem (fun {a b} ha hb hr=>?_) h.2
  have h1:=h.1 a ha
  have h2:=h.1 b hb
  unfold ValidL at h1 h2
  unfold fH at hr
  omega) (by
  intro x hx
  obtain⟨l,hl,rfl⟩:=List.mem_map.1 hx
  have h1:=h.1 l hl
  unfold ValidL at h1
  omega)
 rw[List.length_map]at this;omega
theorem aB4 {s:List Link}(h:∀ x∈s,ValidL x):aG s<=145*s.length:=aDP (fun x hx=>(h x hx).sz)
theorem LSet.sz {s:List Link}(h:LSet s):aG s<=14500:=by
 have:=aB4 h.1
 have:=h.len
 omega
def lsF:Option Link->List Link->Prop
 | _,[]=>True
 | p,x::r=>ValidL x/\(∀ q,p=some q->fH q x)/\lsF (some x) r
noncomputable instance (p:Option Link)(s:List Link):Decidable (lsF p s):=Classical.propDecidable _
theorem aLQ:∀ (s:List Link) (p:Option Link),lsF p s↔LSet s/\∀ q,p=some q->∀ x∈s,fH q x
 | [],p=>by simp[lsF,LSet]
 | x::r,p=>by
  rw[lsF,aLQ r (some x)]
  unfold LSet
  rw[List.pairwise_cons]
  constructor
  · rintro⟨h1,h2,⟨h3,h4⟩,h5⟩
    refine⟨⟨fun y hy=>?_,fun y hy=>h5 x rfl y hy,h4⟩,fun q hq y hy=>?_⟩
    · rcases List.mem_cons.1 hy with rfl | hy
      · exact h1
      · exact h3 y hy
    · rcases List.mem_cons.1 hy with rfl | hy
      · exact h2 q hq
      · exact aBN (h2 q hq) (h5 x rfl y hy)
  · rintro⟨⟨h1,h2,h3⟩,h4⟩
    exact⟨h1 x (by simp),fun q hq=>h4 q hq x (by simp),⟨fun y hy=>h1 y (by simp[hy]),h3⟩,fun q hq y hy=>by cases hq;exact h2 y hy⟩
theorem lV (s:List Link)(h:aG s<=4294967296):dR s=some (decide (LSet s)):=by
 unfold aG at h
 have hl:=eT bL s
 have main:∀ m k:Nat,m+k=s.length->∀ p:Option Link,(p=if k=0 then none else s[k-1]?)->lp (fE s) (k:Int)=some (if lsF p (s.drop k)then .inl ()else .inr false):=by
  intro m
  induction m with
  | zero =>
   intro k hk p _
   rw[List.drop_eq_nil_of_le (by omega),if_pos (by simp[lsF])]
   exact aL (by unfold fE;rw[if_neg (by omega)])
  | succ m ih =>
   intro k hk p hp
   have hlt:k<s.length:=by omega
   have hz:=mG (w:=bL) (List.getElem_mem hlt)
   have v:=(gH s[k] (by omega)).1
   rw[List.drop_eq_getElem_cons hlt]
   have st:fE s (k:Int)=some (if ValidL s[k]/\(∀ q,p=some q->fH q s[k])then .inl ((k+1:Nat):Int)else .inr (.inr false)):=by
    have w1:i64.wrap ((k:Int)+1)=((k+1:Nat):Int):=by rw[wi (by omega)];omega
    unfold fE
    rw[if_pos (by omega),aK hlt]
    simp only[Option.bind_some,v,w1]
    by_cases V:ValidL s[k]
    · rw[decide_eq_true V,if_pos rfl]
      by_cases K:k=0
      · subst K
        rw[if_pos rfl]at hp;subst hp
        simp[V]
      · have hlt2:k-1<s.length:=by omega
        rw[if_neg K,List.getElem?_eq_getElem hlt2]at hp;subst hp
        have w2:i64.wrap ((k:Int)-1)=((k-1:Nat):Int):=by rw[wi (by omega)];omega
        rw[if_pos (by omega),w2,aK hlt2]
        simp only[Option.bind_some,aGS]
        by_cases L:fH s[k-1] s[k]
        · simp[V,L]
        · simp[L]
    · rw[decide_eq_false V];simp[V]
   by_cases G:ValidL s[k]/\(∀ q,p=some q->fH q s[k])
   · rw[if_pos G]at st
     rw[aS st,ih (k+1) (by omega) (some s[k]) (by rw[if_neg (by omega),Nat.add_sub_cancel,List.getElem?_eq_getElem hlt])]
     have:lsF p (s[k]::s.drop (k+1))↔lsF (some s[k]) (s.drop (k+1)):=by rw[lsF];exact⟨fun h=>h.2.2,fun h=>⟨G.1,G.2,h⟩⟩
     simp only[this]
   · rw[if_neg G]at st
     rw[aL st,if_neg]
     rw[lsF];exact fun h=>G ⟨h.1,h.2.1⟩
 have:=main s.length 0 (by omega) none (by simp)
 unfold dR
 rw[show((0:Nat):Int)=0 from rfl,List.drop_zero]at this
 rw[this]
 have e:lsF none s↔LSet s:=by rw[aLQ];exact⟨fun h=>h.1,fun h=>⟨h,fun q hq=>by cases hq⟩⟩
 by_cases c:LSet s
 · rw[if_pos (e.2 c),decide_eq_true c];rfl
 · rw[if_neg (fun h=>c (e.1 h)),decide_eq_false c];rfl
def eG (l:Link):List Link->Nat
 | []=>0
 | y::r=>if fH y l then eG l r+1 else 0
theorem aLC (l:Link):∀ s:List Link,eG l s<=s.length
 | []=>Nat.le_refl _
 | y::r=>by
  have:=aLC l r
  rw[eG];split <;> simp <;> omega
theorem aDU (l:Link):∀ s:List Link,∀ x∈s.take (eG l s),fH x l
 | [],x,h=>by simp[eG]at h
 | y::r,x,h=>by
  rw[eG]at h
  by_cases c:fH y l
  · rw[if_pos c,List.take_succ_cons]at h
    rcases List.mem_cons.1 h with rfl | h
    · exact c
    · exact aDU l r x h
  · rw[if_neg c]at h;simp at h
theorem aCa (l:Link):∀ (s:List Link) (h:eG l s<s.length),¬fH s[eG l s] l
 | [],h=>by simp at h
 | y::r,h=>by
  by_cases c:fH y l
  · have e:eG l (y::r)=eG l r+1:=by rw[eG,if_pos c]
    have h':eG l r<r.length:=by rw[e]at h;simpa using h
    have:=aCa l r h'
    simpa [e]using this
  · have e:eG l (y::r)=0:=by rw[eG,if_neg c]
    simpa [e]using c
theorem aNI (s:List Link)(l:Link)(h:s.length<=4294967296):lp (gP l s) 0=some ((eG l s:Nat):Int):=by
 have main:∀ m k:Nat,m+k=s.length->lp (gP l s) (k:Int)=some ((k+eG l (s.drop k):Nat):Int):=by
  intro m
  induction m with
  | zero =>
   intro k hk
   rw[List.drop_eq_nil_of_le (by omega)]
   refine aL ?_
   unfold gP
   rw[if_neg (by omega)];rfl
  | succ m ih =>
   intro k hk
   have hlt:k<s.length:=by omega
   have w1:i64.wrap ((k:Int)+1)=((k+1:Nat):Int):=by rw[wi (by omega)];omega
   rw[List.drop_eq_getElem_cons hlt,eG]
   have st:gP l s (k:Int)=some (if fH s[k] l then .inl ((k+1:Nat):Int)else .inr (k:Int)):=by
    unfold gP
    rw[if_pos (by omega),aK hlt]
    simp only[Option.bind_some,aGS,w1]
    by_cases L:fH s[k] l <;> simp[L]
   by_cases L:fH s[k] l
   · rw[if_pos L]at st ⊢
     rw[aS st,ih (k+1) (by omega)]
     congr 2;omega
   · rw[if_neg L]at st ⊢
     rw[aL st];rfl
 have:=main s.length 0 (by omega)
 simpa using this
noncomputable def aBa (s:List Link)(l:Link):Option (List Link×Rat) :=
 if h:eG l s<s.length then
  if fH l s[eG l s]then some (s.take (eG l s)++[l]++s.drop (eG l s),rA 0)
  else if zM s[eG l s] l then some (s.take (eG l s)++[aBk s[eG l s] l]++s.drop (eG l s+1),aDY s[eG l s] l)else none
 else some (s.take (eG l s)++[l]++s.drop (eG l s),rA 0)
def pk:Option (List Link×Rat)->List Link×Rat×Bool
 | some (s,e)=>(s,e,true)
 | none=>([],oF,false)
theorem aGW {s:List Link}{m:Link}{p q:Nat}(hs:LSet s)(hm:ValidL m)(h1:∀ x∈s.take p,fH x m)(h2:∀ y∈s.drop q,fH m y):LSet (s.take p++[m]++s.drop q):=by
 refine⟨fun x hx=>?_,?_⟩
 · rw[List.mem_append,List.mem_append,List.mem_singleton]at hx
   rcases hx with(hx | rfl) | hx
   · exact hs.1 x (List.mem_of_mem_take hx)
   · exact hm
   · exact hs.1 x (List.mem_of_mem_drop hx)
 · rw[List.append_assoc,List.pairwise_append]
   refine⟨hs.2.sublist (List.take_sublist _ _),?_,fun a ha b hb=>?_⟩
   · rw[List.singleton_append,List.pairwise_cons]
     exact⟨h2,hs.2.sublist (List.drop_sublist _ _)⟩
   · rw[List.singleton_append]at hb
     rcases List.mem_cons.1 hb with rfl | hb
     · exact h1 a ha
     · exact aBN (h1 a ha) (h2 b hb)
theorem aQu {s:List Link}(h:s.Pairwise fH){p:Nat}(hp:p<s.length):(∀ x∈s.take p,fH x s[p])/\∀ y∈s.drop (p+1),fH s[p] y:=by
 have e:s=s.take p++(s[p]::s.drop (p+1)):=by rw[<- List.drop_eq_getElem_cons hp,List.take_append_drop]
 rw[e,List.pairwise_append,List.pairwise_cons]at h
 exact⟨fun x hx=>h.2.2 x hx _ List.mem_cons_self,h.2.1.1⟩
theorem aIQ {s:List Link}{l:Link}(hs:LSet s)(hl:ValidL l){s':List Link}{e:Rat}(h:aBa s l=some (s',e)):LSet s'/\VZ e:=by
 unfold aBa at h
 have z:VZ (rA 0):=.inl (aAN 0 (by omega))
 by_cases c:eG l s<s.length
 · rw[dif_pos c]at h
   obtain⟨g1,g2⟩:=aQu hs.2 c
   by_cases c2:fH l s[eG l s]
   · rw[if_pos c2]at h;cases h
     refine⟨aGW hs hl (aDU l s) (fun y hy=>?_),z⟩
     rw[List.drop_eq_getElem_cons c]at hy
     rcases List.mem_cons.1 hy with rfl | hy
     · exact c2
     · exact aBN c2 (g2 y hy)
   · rw[if_neg c2]at h
     have hv:=hs.1 _ (List.getElem_mem c)
     have nl:=aCa l s c
     have hA:s[eG l s].fA=l.fA/\s[eG l s].fB=l.fB:=by unfold fH at c2 nl;omega
     by_cases O:zM s[eG l s] l
     · rw[if_pos O]at h;cases h
       exact⟨aGW hs (aJD hv hl O) g1 g2,(aLP hv hl hA.1 hA.2).2.2⟩
     · rw[if_neg O]at h;cases h
 · rw[dif_neg c]at h;cases h
   refine⟨aGW hs hl (aDU l s) (fun y hy=>?_),z⟩
   rw[List.drop_eq_nil_of_le (by omega)]at hy;cases hy
theorem aIR (s:List Link)(l:Link):xH s l=gP l s:=rfl
theorem tH {α:Type}(x:α):bE x=some x:=rfl
theorem aH5 {s:List Link}{l:Link}(hs:LSet s)(hl:ValidL l):nS s l=some (pk (aBa s l))/\uJ s l=some (pk (aBa s l)):=by
 have hlen:=hs.len
 have hp:=aLC l s
 have v:=(gH l (by have:=hl.sz;omega)).1
 have i1:=lV s (by have:=hs.sz;omega)
 have c1:=aCx s (by have:=hs.sz;omega)
 have c2:=tU l (by have:=hl.sz;omega)
 have lp1:=aNI s l (by omega)
 have rf1:cM 0=some (rA 0):=bS 0 (by omega)
 have rf2:cP 0=some (rA 0):=gO 0 (by omega)
 have s1:sub s 0 ((eG l s:Nat):Int)=some (s.take (eG l s)):=by rw[pQ _ _ _ (by omega)];simp
 have s2:sub s ((eG l s:Nat):Int) (s.length:Int)=some (s.drop (eG l s)):=by
  rw[pQ _ _ _ (by omega)];congr 1
  rw[List.take_of_length_le];rfl
  rw[List.length_drop];omega
 have t1:(s.take (eG l s)).length<=100:=by rw[List.length_take];omega
 have t2:(s.drop (eG l s)).length<=100:=by rw[List.length_drop];omega
 unfold nS uJ aBa
 rw[aIR,i1,v,decide_eq_true hs,decide_eq_true hl,lp1]
 simp only[Option.bind_some,if_true,Bool.not_true,Bool.false_eq_true,if_false,c1,lp1,s1,s2,tH,List.nil_append]
 rw[aP (by simp only[List.length_nil,Nat.zero_add];omega)]
 simp only[Option.bind_some]
 by_cases c:eG l s<s.length
 · have c':((eG l s:Nat):Int)<(s.length:Int):=by omega
   have c'':¬((eG l s:Nat):Int)=(s.length:Int):=by omega
   rw[if_pos c',if_neg c'',dif_pos c,aK c]
   simp only[Option.bind_some,aGS,aKm]
   by_cases L:fH l s[eG l s]
   · rw[if_pos L,decide_eq_true L]
     simp only[Bool.not_true,Bool.false_eq_true,if_false,if_true,c2,Option.bind_some,rf1,rf2]
     rw[aP (by omega)]
     simp only[Option.bind_some]
     rw[aP (by rw[List.length_append,List.length_singleton];omega)]
     exact⟨rfl,rfl⟩
   · rw[if_neg L,decide_eq_false L]
     have hv:=hs.1 _ (List.getElem_mem c)
     have nl:=aCa l s c
     have hA:s[eG l s].fA=l.fA/\s[eG l s].fB=l.fB:=by unfold fH at L nl;omega
     obtain⟨m1,m2,m3⟩:=aLP hv hl hA.1 hA.2
     simp only[Bool.not_false,if_true,Bool.false_eq_true,if_false,m1,m2,Option.bind_some]
     by_cases O:zM s[eG l s] l
     · rw[if_pos O,if_pos O]
       have w1:i64.wrap (((eG l s:Nat):Int)+1)=((eG l s+1:Nat):Int):=by rw[wi (by omega)];omega
       have s3:sub s ((eG l s+1:Nat):Int) (s.length:Int)=some (s.drop (eG l s+1)):=by
        rw[pQ _ _ _ (by omega)];congr 1
        rw[List.take_of_length_le];rfl
        rw[List.length_drop];omega
       have t3:(s.drop (eG l s+1)).length<=100:=by rw[List.length_drop];omega
       simp only[if_true,w1,s3,Option.bind_some,sD]
       rw[aP (by omega)]
       simp only[Option.bind_some]
       rw[aP (by rw[List.length_append,List.length_singleton];omega)]
       refine⟨?_,rfl⟩
       simp only[pk]
       rw[List.set_eq_take_append_cons_drop,if_pos c,List.append_assoc,List.singleton_append]
     · rw[if_neg O,if_neg O]
       exact⟨rfl,rfl⟩
 · have c':¬((eG l s:Nat):Int)<(s.length:Int):=by omega
   have c'':((eG l s:Nat):Int)=(s.length:Int):=by omega
   rw[if_neg c',if_pos c'',dif_neg c]
   simp only[Option.bind_some,Bool.false_eq_true,if_false,if_true,c2,rf1,rf2]
   rw[aP (by omega)]
   simp only[Option.bind_some]
   rw[aP (by rw[List.length_append,List.length_singleton];omega)]
   exact⟨rfl,rfl⟩
end Go.Ev
/- Joining links into a link set, both programs. -/
namespace Go.Ev
set_option linter.all false
theorem aQY {r s:Rat}(hr:VZ r)(hs:VZ s)(h:¬bO r):RA r s=oF:=by
 have q:=(aBn hr hs).1
 unfold dK at q
 rw[eM r (VZs hr),decide_eq_false h]at q
 simpa [oF]using q.symm
noncomputable def uU:List Link->List Link->Rat->Option (List Link×Rat)
 | [],s,e=>some (s,e)
 | x::r,s,e=>match aBa s x with
  | none=>none
  | some (s',e')=>if bO (RA e e')then uU r s' (RA e e')else none
theorem aJN:∀ (l s:List Link) (e:Rat),(∀ x∈l,ValidL x)->LSet s->bO e->∀ s' e',uU l s e=some (s',e')->LSet s'/\bO e'
 | [],s,e,_,hs,he,s',e',h=>by rw[uU]at h;cases h;exact⟨hs,he⟩
 | x::r,s,e,hv,hs,he,s',e',h=>by
  rw[uU]at h
  cases ha:aBa s x with
  | none=>rw[ha]at h;cases h
  | some t =>
   obtain⟨s1,e1⟩:=t
   rw[ha]at h
   simp only[]at h
   obtain⟨g1,g2⟩:=aIQ hs (hv x (by simp)) ha
   by_cases c:bO (RA e e1)
   · rw[if_pos c]at h
     exact aJN r s1 _ (fun y hy=>hv y (by simp[hy])) g1 c s' e' h
   · rw[if_neg c]at h;cases h
noncomputable instance (l:List Link):Decidable (∀ x∈l,ValidL x):=Classical.propDecidable _
def aCL:List Link×Rat×Bool:=([],oF,false)
theorem aKV (l:List Link)(hv:∀ x∈l,ValidL x)(hl:l.length<=4294967296):∀ m k:Nat,m+k=l.length->∀ s e,LSet s->VZ e->
 lp (gM l) (s,(k:Int),e)=some (match uU (l.drop k) s e with | some t=>.inl t | none=>.inr aCL):=by
 intro m
 induction m with
 | zero =>
  intro k hk s e hs he
  rw[List.drop_eq_nil_of_le (by omega),uU]
  exact aL (by unfold gM;simp only[];rw[if_neg (by omega)])
 | succ m ih =>
  intro k hk s e hs he
  have hlt:k<l.length:=by omega
  have hx:=hv _ (List.getElem_mem hlt)
  have w1:IntKind.i64.wrap ((k:Int)+1)=((k+1:Nat):Int):=by rw[wi (by omega)];omega
  have a:=(aH5 hs hx).2
  rw[List.drop_eq_getElem_cons hlt,uU]
  cases ha:aBa s l[k]with
  | none =>
   rw[ha]at a
   have g:=(aBn he aCv).2.1
   refine aL ?_
   unfold gM
   simp only[]
   rw[if_pos (by omega),aK hlt]
   simp only[Option.bind_some,a,pk,g]
   rfl
  | some t =>
   obtain⟨s1,e1⟩:=t
   rw[ha]at a
   obtain⟨g1,g2⟩:=aIQ hs hx ha
   obtain⟨_,q2,q3⟩:=aBn he g2
   have st:gM l (s,(k:Int),e)=some (if bO (RA e e1)then .inl (s1,((k+1:Nat):Int),RA e e1)else .inr (.inr aCL)):=by
    unfold gM
    simp only[]
    rw[if_pos (by omega),aK hlt]
    simp only[Option.bind_some,a,pk,q2,iK q3,if_true,w1]
    by_cases c:bO (RA e e1)
    · simp[c]
    · simp[c,aCL,oF]
   simp only[]
   by_cases c:bO (RA e e1)
   · rw[if_pos c]at st ⊢
     rw[aS st]
     exact ih (k+1) (by omega) s1 _ g1 q3
   · rw[if_neg c]at st ⊢
     rw[aL st]
def aOx:(List Link×Rat) ⊕ (List Link×Rat×Bool)->List Link×Rat×Bool
 | .inl d=>if bO d.2 then(d.1,d.2,true)else aCL
 | .inr x=>x
theorem aKU (l:List Link)(hz:aG l<=4294967296):∀ m k:Nat,m+k=l.length->∀ s e,LSet s->VZ e->
 ∃ R,lp (fD l) (s,(k:Int),e)=some R/\(∀ d,R=.inl d->VZ d.2)/\aOx R=pk (if bO e/\(∀ x∈l.drop k,ValidL x)then uU (l.drop k) s e else none):=by
 have hl:l.length<=4294967296:=by have:=eT bL l;unfold aG at hz;omega
 intro m
 induction m with
 | zero =>
  intro k hk s e hs he
  refine⟨.inl (s,e),aL (by unfold fD;simp only[];rw[if_neg (by omega)]),fun d h=>(by cases h;exact he),?_⟩
  rw[List.drop_eq_nil_of_le (by omega),uU]
  by_cases c:bO e
  · simp[aOx,pk,c]
  · simp[aOx,pk,c,aCL]
 | succ m ih =>
  intro k hk s e hs he
  have hlt:k<l.length:=by omega
  have w1:IntKind.i64.wrap ((k:Int)+1)=((k+1:Nat):Int):=by rw[wi (by omega)];omega
  have hxz:bL l[k]<=4294967296:=by have:=mG (w:=bL) (List.getElem_mem hlt);unfold aG at hz;omega
  rw[List.drop_eq_getElem_cons hlt]
  by_cases hx:ValidL l[k]
  · have a:=(aH5 hs hx).1
    rw[uU]
    cases ha:aBa s l[k]with
    | none =>
     rw[ha]at a
     refine⟨.inr aCL,aL ?_,fun d h=>(by cases h),?_⟩
     · unfold fD
       simp only[]
       rw[if_pos (by omega),aK hlt]
       simp only[Option.bind_some,a,pk]
       rfl
     · simp[aOx,pk,aCL]
    | some t =>
     obtain⟨s1,e1⟩:=t
     rw[ha]at a
     obtain⟨g1,g2⟩:=aIQ hs hx ha
     obtain⟨q1,_,q3⟩:=aBn he g2
     have st:fD l (s,(k:Int),e)=some (.inl (s1,((k+1:Nat):Int),RA e e1)):=by
      unfold fD
      simp only[]
      rw[if_pos (by omega),aK hlt]
      simp only[Option.bind_some,a,pk,q1,if_true,w1]
     obtain⟨R,r1,r2,r3⟩:=ih (k+1) (by omega) s1 _ g1 q3
     refine⟨R,by rw[aS st];exact r1,r2,?_⟩
     rw[r3]
     simp only[]
     by_cases c:bO e
     · by_cases c2:bO (RA e e1)
       · have:(∀ x∈l[k]::l.drop (k+1),ValidL x)↔(∀ x∈l.drop (k+1),ValidL x):=⟨fun h x hx'=>h x (List.mem_cons_of_mem _ hx'),fun h x hx'=>by rcases List.mem_cons.1 hx' with rfl | h';exact hx;exact h x h'⟩
         simp only[c,c2,true_and,if_true,this]
       · simp only[c,c2,true_and,false_and,if_false,ite_self]
     · have c2:¬bO (RA e e1):=by rw[aQY he g2 c];exact aBo
       simp only[c,c2,false_and,if_false]
  · refine⟨.inr aCL,aL ?_,fun d h=>(by cases h),?_⟩
    · unfold fD
      simp only[]
      rw[if_pos (by omega),aK hlt]
      have a:nS s l[k]=some aCL:=by
       unfold nS
       rw[lV s (by have:=hs.sz;omega),(gH l[k] hxz).1,decide_eq_true hs,decide_eq_false hx]
       rfl
      simp only[Option.bind_some,a,aCL]
      rfl
    · rw[if_neg (fun h=>hx (h.2 _ List.mem_cons_self))];rfl
theorem aH7 (l:List Link)(hz:aG l<=4294967296):oU l=some (decide (∀ x∈l,ValidL x)):=by
 have hl:l.length<=4294967296:=by have:=eT bL l;unfold aG at hz;omega
 have main:∀ m k:Nat,m+k=l.length->lp (hY l) (k:Int)=some (if(∀ x∈l.drop k,ValidL x)then .inl ()else .inr false):=by
  intro m
  induction m with
  | zero =>
   intro k hk
   rw[List.drop_eq_nil_of_le (by omega),if_pos (by simp)]
   exact aL (by unfold hY;rw[if_neg (by omega)])
  | succ m ih =>
   intro k hk
   have hlt:k<l.length:=by omega
   have w1:IntKind.i64.wrap ((k:Int)+1)=((k+1:Nat):Int):=by rw[wi (by omega)];omega
   have v:=(gH l[k] (by have:=mG (w:=bL) (List.getElem_mem hlt);unfold aG at hz;omega)).2
   have st:hY l (k:Int)=some (if ValidL l[k]then .inl ((k+1:Nat):Int)else .inr (.inr false)):=by
    unfold hY
    rw[if_pos (by omega),aK hlt]
    simp only[Option.bind_some,v,w1]
    by_cases c:ValidL l[k] <;> simp[c]
   rw[List.drop_eq_getElem_cons hlt]
   by_cases c:ValidL l[k]
   · rw[if_pos c]at st
     rw[aS st,ih (k+1) (by omega)]
     have:(∀ x∈l[k]::l.drop (k+1),ValidL x)↔(∀ x∈l.drop (k+1),ValidL x):=⟨fun h x hx'=>h x (List.mem_cons_of_mem _ hx'),fun h x hx'=>by rcases List.mem_cons.1 hx' with rfl | h';exact c;exact h x h'⟩
     simp only[this]
   · rw[if_neg c]at st
     rw[aL st,if_neg (fun h=>c (h _ List.mem_cons_self))]
 have:=main l.length 0 (by omega)
 unfold oU
 rw[show((0:Nat):Int)=0 from rfl,List.drop_zero]at this
 rw[this]
 by_cases c:∀ x∈l,ValidL x
 · rw[if_pos c,decide_eq_true c];rfl
 · rw[if_neg c,decide_eq_false c];rfl
theorem aB3:LSet []:=⟨by simp,List.Pairwise.nil⟩
theorem aB8:bO (rA 0):=aAN 0 (by omega)
noncomputable def jnP (l:List Link):Option (List Link×Rat):=if ∀ x∈l,ValidL x then uU l [] (rA 0)else none
theorem aA2 {l s:List Link}{e:Rat}(h:jnP l=some (s,e)):(∀ x∈l,ValidL x)/\LSet s/\bO e:=by
 unfold jnP at h
 by_cases c:∀ x∈l,ValidL x
 · rw[if_pos c]at h
   exact⟨c,aJN l [] _ c aB3 aB8 s e h⟩
 · rw[if_neg c]at h;cases h
theorem aBP {l:List Link}(hv:∀ x∈l,ValidL x)(hl:l.length<=4294967296):kO l=some (pk (jnP l)):=by
 unfold kO jnP
 rw[gO 0 (by omega),if_pos hv]
 simp only[Option.bind_some]
 have:=aKV l hv hl l.length 0 (by omega) [] (rA 0) aB3 (.inl aB8)
 rw[show((0:Nat):Int)=0 from rfl,List.drop_zero]at this
 rw[this]
 cases uU l [] (rA 0)with
 | none=>rfl
 | some t=>rfl
theorem zT (l:List Link)(hz:aG l<=4294967296):iP l=some (pk (jnP l))/\qU l=some (pk (jnP l)):=by
 have hl:l.length<=4294967296:=by have:=eT bL l;unfold aG at hz;omega
 constructor
 · unfold iP
   rw[bS 0 (by omega)]
   simp only[Option.bind_some]
   obtain⟨R,r1,r2,r3⟩:=aKU l hz l.length 0 (by omega) [] (rA 0) aB3 (.inl aB8)
   rw[show((0:Nat):Int)=0 from rfl]at r1
   rw[List.drop_zero]at r3
   rw[r1]
   have e:(if bO (rA 0)/\(∀ x∈l,ValidL x)then uU l [] (rA 0)else none)=jnP l:=by unfold jnP;simp only[aB8,true_and]
   rw[<- e,<- r3]
   cases R with
   | inl d =>
    simp only[Option.bind_some]
    rw[eM d.2 (VZs (r2 d rfl))]
    simp only[Option.bind_some,aOx]
    by_cases c:bO d.2
    · rw[decide_eq_true c,if_pos c];rfl
    · rw[decide_eq_false c,if_neg c];rfl
   | inr x=>rfl
 · unfold qU
   rw[aH7 l hz]
   simp only[Option.bind_some]
   by_cases c:∀ x∈l,ValidL x
   · rw[decide_eq_true c,if_pos rfl,aBP c hl]
     simp only[Option.bind_some]
     cases hj:jnP l with
     | none=>rfl
     | some t =>
      obtain⟨s,e⟩:=t
      obtain⟨_,g1,_⟩:=aA2 hj
      simp only[pk,if_true]
      rw[rL s (by have:=g1.sz;omega)]
      rfl
   · rw[decide_eq_false c]
     unfold jnP
     rw[if_neg c];rfl
end Go.Ev
/- Cliques: their nodes in order. -/
namespace Go.Ev
set_option linter.all false
theorem aAJ:∀ {a b:List Int},a.Pairwise (· < ·)->b.Pairwise (· < ·)->(∀ x,x∈a↔x∈b)->a=b
 | [],[],_,_,_=>rfl
 | [],y::b,_,_,h=>absurd ((h y).2 (by simp)) (by simp)
 | x::a,[],_,_,h=>absurd ((h x).1 (by simp)) (by simp)
 | x::a,y::b,ha,hb,h=>by
  rw[List.pairwise_cons]at ha hb
  have hxy:x=y:=by
   have h1:=(h x).1 (by simp)
   have h2:=(h y).2 (by simp)
   rcases List.mem_cons.1 h1 with e | e
   · exact e
   · rcases List.mem_cons.1 h2 with e' | e'
     · exact e'.symm
     · have:=hb.1 x e;have:=ha.1 y e';omega
  subst hxy
  have:a=b:=aAJ ha.2 hb.2 (fun z=>by
   constructor
   · intro hz
     have:=(h z).1 (by simp[hz])
     rcases List.mem_cons.1 this with e | e
     · subst e;have:=ha.1 z hz;omega
     · exact e
   · intro hz
     have:=(h z).2 (by simp[hz])
     rcases List.mem_cons.1 this with e | e
     · subst e;have:=hb.1 z hz;omega
     · exact e)
  rw[this]
def aBj:List Int->Int->List Int
 | [],n=>[n]
 | x::l,n=>if x<n then x::aBj l n else if x=n then x::l else n::x::l
theorem aAl:∀ (l:List Int) (n x:Int),x∈aBj l n↔x=n\/x∈l
 | [],n,x=>by simp[aBj]
 | y::l,n,x=>by
  unfold aBj
  by_cases h1:y<n
  · rw[if_pos h1,List.mem_cons,List.mem_cons,aAl l n x]
    constructor
    · rintro(h | h | h) <;> simp[h]
    · rintro(h | h | h) <;> simp[h]
  · rw[if_neg h1]
    by_cases h2:y=n
    · rw[if_pos h2];subst h2;simp
    · rw[if_neg h2];simp
theorem wN:∀ (l:List Int) (n:Int),l.Pairwise (· < ·)->(aBj l n).Pairwise (· < ·)
 | [],n,_=>by simp[aBj]
 | y::l,n,h=>by
  unfold aBj
  rw[List.pairwise_cons]at h
  by_cases h1:y<n
  · rw[if_pos h1,List.pairwise_cons]
    exact⟨fun x hx=>by rcases(aAl l n x).1 hx with e | e;omega;exact h.1 x e,wN l n h.2⟩
  · rw[if_neg h1]
    by_cases h2:y=n
    · rw[if_pos h2,List.pairwise_cons];exact h
    · rw[if_neg h2,List.pairwise_cons]
      exact⟨fun x hx=>by rcases List.mem_cons.1 hx with e | e;omega;have:=h.1 x e;omega,List.pairwise_cons.2 h⟩
theorem aAm:∀ (l:List Int) (n:Int),(aBj l n).length<=l.length+1
 | [],n=>by simp[aBj]
 | y::l,n=>by
  unfold aBj
  split
  · simp[aAm l n]
  · split <;> simp
def oD (l:List Int)(n:Int):Nat:=(l.takeWhile (fun x=>decide (x<n))).length
theorem aKZ (l:List Int)(n:Int):oD l n<=l.length:=by
 unfold oD
 induction l with
 | nil=>simp
 | cons x l ih =>
  rw[List.takeWhile_cons]
  split
  · simpa using ih
  · simp
theorem aDC (x:Int)(l:List Int)(n:Int):oD (x::l) n=if x<n then oD l n+1 else 0:=by
 unfold oD
 rw[List.takeWhile_cons]
 by_cases h:x<n <;> simp[h]
theorem aLB:∀ (l:List Int) (n:Int),aBj l n=if l[oD l n]?=some n then l else l.take (oD l n)++[n]++l.drop (oD l n)
 | [],n=>by simp[aBj,oD]
 | x::l,n=>by
  rw[aDC]
  unfold aBj
  by_cases h:x<n
  · rw[if_pos h,if_pos h,aLB l n]
    simp only[List.getElem?_cons_succ,List.take_succ_cons,List.drop_succ_cons]
    split <;> simp
  · rw[if_neg h,if_neg h]
    by_cases h2:x=n <;> simp[h2]
theorem aND (l:List Int)(n:Int)(h:l.length<=4294967296):lp (gI l n) 0=some ((oD l n:Nat):Int):=by
 have main:∀ m k:Nat,m+k=l.length->lp (gI l n) (k:Int)=some ((k+oD (l.drop k) n:Nat):Int):=by
  intro m
  induction m with
  | zero =>
   intro k hk
   have:k=l.length:=by omega
   subst this
   rw[aL (r:=(l.length:Int)) (by unfold gI;rw[if_neg (by omega)];rfl),List.drop_length];simp[oD]
  | succ m ih =>
   intro k hk
   have hlt:k<l.length:=by omega
   rw[List.drop_eq_getElem_cons hlt,aDC]
   by_cases c:l[k]<n
   · rw[if_pos c]
     have e:gI l n (k:Int)=some (.inl ((k:Int)+1)):=by
      unfold gI
      rw[if_pos (by omega),aK hlt,wi (by omega)]
      simp[c]
     rw[aS e,show(k:Int)+1=((k+1:Nat):Int)by omega,ih (k+1) (by omega)]
     congr 2;omega
   · rw[if_neg c]
     have e:gI l n (k:Int)=some (.inr (k:Int)):=by
      unfold gI
      rw[if_pos (by omega),aK hlt]
      simp[c]
     rw[aL e];simp
 have:=main l.length 0 (by omega)
 simpa using this
theorem aJk (l:List Int)(n:Int)(h:l.length<=4294967296):nK l n=some (aBj l n):=by
 have hf:=aKZ l n
 unfold nK
 rw[aND l n h,aLB]
 simp only[Option.bind_some]
 by_cases hlt:oD l n<l.length
 · rw[if_pos (by omega),aK hlt,List.getElem?_eq_getElem hlt]
   simp only[Option.bind_some,decide_eq_true_eq,Option.some.injEq]
   by_cases c:l[oD l n]=n
   · rw[if_pos c,if_pos c]
   · rw[if_neg c,if_neg c,pQ _ _ _ (by omega),pQ _ _ _ (by omega)]
     simp only[Option.bind_some,aO,List.nil_append]
     rw[aP (by simp;omega),aP (by simp;omega),aP (by simp;omega)]
     simp only[Option.bind_some]
     simp
     rw[List.take_of_length_le (by simp)]
 · have:oD l n=l.length:=by omega
   rw[if_neg (by omega),this,if_neg (by simp)]
   simp only[Option.bind_some,Bool.false_eq_true,if_false]
   rw[pQ _ _ _ (by omega),pQ _ _ _ (by omega)]
   simp only[Option.bind_some,aO,List.nil_append]
   rw[aP (by simp;omega),aP (by simp;omega),aP (by simp;omega)]
   simp
end Go.Ev
/- The arms of a node of a link set, both programs. -/
namespace Go.Ev
set_option linter.all false
def sE (v:Int)(l:Link):Int:=if l.fA=v then l.fB else l.fA
def tch (v:Int)(l:Link):Bool:=decide (l.fA=v\/l.fB=v)
noncomputable def aBi (v:Int)(l:Link):l08Arm:=if l.fA=v then⟨l.fB,l.fWeight,RN l.fDX,RN l.fDY⟩else⟨l.fA,l.fWeight,l.fDX,l.fDY⟩
noncomputable def bN (v:Int)(s:List Link):List l08Arm:=(s.filter (tch v)).map (aBi v)
theorem aA9 (v:Int)(l:Link):(aBi v l).fnode=sE v l:=by unfold aBi sE;split <;> rfl
theorem aHE {s:List Link}(hs:LSet s)(v:Int):((s.filter (tch v)).map (sE v)).Pairwise (· < ·):=by
 rw[List.pairwise_map]
 refine List.Pairwise.imp_of_mem (fun {a b} ha hb hr=>?_) (hs.2.sublist List.filter_sublist)
 rw[List.mem_filter]at ha hb
 have h1:=hs.1 a ha.1
 have h2:=hs.1 b hb.1
 have t1:=ha.2
 have t2:=hb.2
 unfold tch at t1 t2
 rw[decide_eq_true_eq]at t1 t2
 unfold ValidL at h1 h2
 unfold fH at hr
 unfold sE
 split <;> split <;> omega
theorem aQx {s:List Link}(hs:LSet s)(v:Int):tS s v=some ((s.filter (tch v)).map (sE v)):=by
 have hlen:=hs.len
 unfold tS
 obtain⟨e1,e2⟩:=gY (step:=oI s v) s (fun k t=>(t,(k:Int))) (fun t l=>if tch v l then aBj t (sE v l)else t) (fun t=>t)
  (fun k t=>t.length<=k/\t.Pairwise (· < ·)/\∀ x,x∈t↔x∈((s.take k).filter (tch v)).map (sE v)) (fun k t hk hI=>by
   obtain⟨i1,i2,i3⟩:=hI
   have hv:=hs.1 _ (List.getElem_mem hk)
   have w1:IntKind.i64.wrap ((k:Int)+1)=((k+1:Nat):Int):=by rw[wi (by omega)];omega
   refine⟨?_,?_,?_,?_⟩
   · unfold oI
     simp only[]
     rw[if_pos (by omega),aK hk]
     unfold ValidL at hv
     simp only[Option.bind_some,aJk t _ (by omega:t.length<=4294967296),w1]
     by_cases A:(s[k]).fA=v
     · have B:¬(s[k]).fB=v:=by omega
       simp[A,B,tch,sE]
     · by_cases B:(s[k]).fB=v
       · rw[if_neg A]
         simp only[Option.bind_some]
         rw[if_pos B,aJk t _ (by omega:t.length<=4294967296)]
         simp[A,B,tch,sE]
       · simp[A,B,tch,sE]
   · have:=aAm t (sE v s[k])
     split <;> omega
   · split
     · exact wN _ _ i2
     · exact i2
   · intro x
     have tk:s.take (k+1)=s.take k++[s[k]]:=by rw[List.take_add_one,List.getElem?_eq_getElem hk];rfl
     rw[tk,List.filter_append,List.map_append,List.mem_append,<- i3 x]
     by_cases T:tch v s[k]=true
     · simp only[T,if_true,aAl,List.filter_cons_of_pos,List.filter_nil,List.map_cons,List.map_nil,List.mem_singleton]
       exact Or.comm
     · simp[T]) (fun t _=>by unfold oI;simp only[];rw[if_neg (by omega)]) [] ⟨by simp,List.Pairwise.nil,by simp⟩
 rw[show((0:Nat):Int)=0 from rfl]at e1
 rw[e1]
 simp only[Option.bind_some]
 congr 1
 obtain⟨_,g2,g3⟩:=e2
 rw[List.take_length]at g3
 exact aAJ g2 (aHE hs v) g3
theorem LSet.uniq {s:List Link}(hs:LSet s){a b:Link}(ha:a∈s)(hb:b∈s)(h1:a.fA=b.fA)(h2:a.fB=b.fB):a=b:=by
 obtain⟨i,hi,rfl⟩:=List.getElem_of_mem ha
 obtain⟨j,hj,rfl⟩:=List.getElem_of_mem hb
 have pw:=List.pairwise_iff_getElem.1 hs.2
 rcases Nat.lt_trichotomy i j with h | h | h
 · have:=pw i j hi hj h;unfold fH at this;omega
 · subst h;rfl
 · have:=pw j i hj hi h;unfold fH at this;omega
theorem aQD (p q r t:Prop)[Decidable p][Decidable q][Decidable r][Decidable t]:((if p then(if q then some true else(if r then some (decide t)else some false))else(if r then some (decide t)else some false)):Option Bool)=some (decide ((p/\q)\/(r/\t))):=by
 by_cases p <;> by_cases q <;> by_cases r <;> by_cases t <;> simp[*]
theorem aO3 {s:List Link}(hs:LSet s){v:Int}{l:Link}(hl:l∈s)(ht:tch v l=true):wK s (sE v l) v=some (l,true):=by
 have hlen:=hs.len
 have hv:=hs.1 l hl
 unfold wK
 rw[lV s (by have:=hs.sz;omega),decide_eq_true hs]
 simp only[Option.bind_some,if_true]
 obtain⟨r,e,q⟩:=aMA (step:=qE s (sE v l) v) s.length (fun r=>r=.inr (l,true)) (fun k=>l∈s.drop k) (by simpa using hl) (fun k hk hj=>by
  have hx:=hs.1 _ (List.getElem_mem hk)
  have w1:IntKind.i64.wrap ((k:Int)+1)=((k+1:Nat):Int):=by rw[wi (by omega)];omega
  rw[List.drop_eq_getElem_cons hk]at hj
  have st:qE s (sE v l) v (k:Int)=some (if(((s[k]).fA=sE v l/\(s[k]).fB=v)\/((s[k]).fA=v/\(s[k]).fB=sE v l))then .inr (.inr (s[k],true))else .inl ((k+1:Nat):Int)):=by
   unfold qE
   rw[if_pos (by omega),aK hk]
   simp only[Option.bind_some,w1,tU s[k] (by have:=hx.sz;omega)]
   rw[aQD]
   simp only[Option.bind_some]
   by_cases c:((s[k]).fA=sE v l/\(s[k]).fB=v)\/((s[k]).fA=v/\(s[k]).fB=sE v l)
   · rw[if_pos c,decide_eq_true c];rfl
   · rw[if_neg c,decide_eq_false c];rfl
  unfold tch at ht
  rw[decide_eq_true_eq]at ht
  unfold ValidL at hx hv
  by_cases c:((s[k]).fA=sE v l/\(s[k]).fB=v)\/((s[k]).fA=v/\(s[k]).fB=sE v l)
  · rw[if_pos c]at st
    right
    refine⟨_,st,?_⟩
    have:s[k]=l:=by
     refine hs.uniq (List.getElem_mem hk) hl ?_ ?_
     · unfold sE at c;split at c <;> omega
     · unfold sE at c;split at c <;> omega
    rw[this]
  · rw[if_neg c]at st
    left
    refine⟨st,?_⟩
    rcases List.mem_cons.1 hj with e | e
    · exfalso;apply c
      rw[<- e];unfold sE;split <;> omega
    · exact e) (fun hj=>by rw[List.drop_length]at hj;cases hj)
 rw[e,q];rfl
theorem aQf {r:Rat}(h:VZ r):VZ (RN r):=(aM4 h).2.2
def uW (a:l08Arm):Prop:=(0<=a.fnode/\a.fnode<=9)/\VZ a.fweight/\VZ a.fdx/\VZ a.fdy
theorem aKa {v:Int}{l:Link}(h:ValidL l):uW (aBi v l):=by
 obtain⟨h1,h2,h3⟩:=h.vz
 unfold aBi
 split
 · exact⟨h.2.1,h1,aQf h2,aQf h3⟩
 · exact⟨h.1,h1,h2,h3⟩
theorem aGI {s:List Link}(hs:LSet s)(v:Int):∀ a∈bN v s,uW a:=by
 intro a ha
 obtain⟨l,hl,rfl⟩:=List.mem_map.1 ha
 exact aKa (hs.1 l (List.mem_filter.1 hl).1)
theorem aCp {s:List Link}(hs:LSet s)(v:Int):(bN v s).length<=100:=by
 have:=hs.len
 have:=List.length_filter_le (tch v) s
 unfold bN
 rw[List.length_map];omega
theorem aHZ {s:List Link}(hs:LSet s)(v:Int):((bN v s).map (·.fnode)).Pairwise (· < ·):=by
 have:=aHE hs v
 unfold bN
 rw[List.map_map]
 have e:(fun a:l08Arm=>a.fnode) ∘ aBi v=sE v:=by funext l;exact aA9 v l
 rw[e];exact this
theorem aQN {s:List Link}(hs:LSet s)(v:Int):tR s v=some (bN v s):=by
 have hal:=aCp hs v
 unfold tR
 rw[aQx hs v]
 simp only[Option.bind_some]
 have hfl:((s.filter (tch v)).map (sE v)).length=(bN v s).length:=by unfold bN;rw[List.length_map,List.length_map]
 have:=aAv (step:=oH s v ((s.filter (tch v)).map (sE v))) (bN v s) (fun k t=>((k:Int),t)) (fun t=>t) (fun k t hk ht=>by
  have hk2:k<(s.filter (tch v)).length:=by unfold bN at hk;rwa [List.length_map]at hk
  have hk3:k<((s.filter (tch v)).map (sE v)).length:=by rwa [List.length_map]
  have hm:=List.mem_filter.1 (List.getElem_mem hk2)
  have w1:IntKind.i64.wrap ((k:Int)+1)=((k+1:Nat):Int):=by rw[wi (by omega)];omega
  have hv:=hs.1 _ hm.1
  obtain⟨v1,v2,v3⟩:=hv.vz
  have g:=aO3 hs hm.1 hm.2
  have ea:(bN v s)[k]=aBi v (s.filter (tch v))[k]:=by simp only[bN,List.getElem_map]
  unfold oH
  simp only[]
  rw[if_pos (by omega),aK hk3,List.getElem_map]
  simp only[Option.bind_some,g,(aM4 v2).1,(aM4 v3).1,w1]
  rw[ea]
  unfold aBi
  by_cases A:((s.filter (tch v))[k]).fA=v
  · rw[if_pos A,if_pos A]
    simp only[Option.bind_some,sE,A,if_true]
    rw[aP (by omega)];rfl
  · rw[if_neg A,if_neg A]
    simp only[Option.bind_some,sE,A,if_false]
    rw[aP (by omega)];rfl) (fun t ht=>by unfold oH;simp only[];rw[if_neg (by omega)])
 rw[show((0:Nat):Int)=0 from rfl]at this
 rw[this];rfl
end Go.Ev
/- Eliminating a node of a link set, both programs. -/
namespace Go.Ev
open IntKind
set_option linter.all false
noncomputable def rT (a:List l08Arm):Rat:=a.foldl (fun t a=>RA t a.fweight) (rA 0)
noncomputable def fZ (t:Rat)(a:l08Arm):Parent:=⟨a.fnode,RD a.fweight t,a.fdx,a.fdy⟩
noncomputable def tG (t:Rat)(a b:l08Arm):Link:=⟨a.fnode,b.fnode,RD (RM a.fweight b.fweight) t,RS a.fdx b.fdx,RS a.fdy b.fdy⟩
noncomputable def gX (t:Rat):List l08Arm->List Link
 | []=>[]
 | a::r=>r.map (tG t a)++gX t r
noncomputable def aAA (v:Int)(a:List l08Arm):Conditional:=⟨v,rT a,a.map (fZ (rT a))⟩
def condOk (v:Int)(a:List l08Arm):Prop:=bC (aAA v a)=some true
noncomputable instance (v:Int)(a:List l08Arm):Decidable (condOk v a):=Classical.propDecidable _
noncomputable def wV (v:Int)(s:List Link):Option (Conditional×List Link) :=
 if(1<=v/\v<=9)/\condOk v (bN v s)/\(∀ x∈gX (rT (bN v s)) (bN v s),ValidL x)then some (aAA v (bN v s),gX (rT (bN v s)) (bN v s))else none
theorem aIM {v:Int}{s:List Link}(h:(1<=v/\v<=9)/\condOk v (bN v s)/\(∀ x∈gX (rT (bN v s)) (bN v s),ValidL x)):wV v s=some (aAA v (bN v s),gX (rT (bN v s)) (bN v s)):=by unfold wV;rw[if_pos h]
theorem aCl {v:Int}{s:List Link}(h:¬((1<=v/\v<=9)/\condOk v (bN v s)/\(∀ x∈gX (rT (bN v s)) (bN v s),ValidL x))):wV v s=none:=by unfold wV;rw[if_neg h]
def aE9:Conditional:=Conditional.mk 0 (Rat.mk (BigInt.mk false ([])) ([])) ([])
def pkE:Option (Conditional×List Link)->Conditional×List Link×Bool
 | some (c,m)=>(c,m,true)
 | none=>(aE9,[],false)
theorem aJR:∀ (a:List l08Arm) (t:Rat),(∀ x∈a,uW x)->VZ t->VZ (a.foldl (fun t a=>RA t a.fweight) t)
 | [],t,_,h=>h
 | x::a,t,ho,h=>aJR a _ (fun y hy=>ho y (by simp[hy])) (aBn h (ho x (by simp)).2.1).2.2
theorem aAH {a:List l08Arm}(h:∀ x∈a,uW x):VZ (rT a):=aJR a _ h (.inl aB8)
theorem aCY {α β:Type}(g:α->β):∀ (l:List α) (t:List β),l.foldl (fun t b=>t++[g b]) t=t++l.map g
 | [],t=>by simp
 | x::l,t=>by rw[List.foldl_cons,aCY g l,List.map_cons,List.append_assoc];rfl
theorem aJy {t:Rat}{a b:l08Arm}(ht:VZ t)(ha:uW a)(hb:uW b):bL (tG t a b)<=144:=by
 have h1:=mF (aGP (aD9 ha.2.1 hb.2.1).2.2 ht).2.2
 have h2:=mF (aIW ha.2.2.1 hb.2.2.1).2.2
 have h3:=mF (aIW ha.2.2.2 hb.2.2.2).2.2
 unfold bL tG;simp only[];omega
theorem aLM {t:Rat}(ht:VZ t):∀ {a:List l08Arm},(∀ x∈a,uW x)->∀ x∈gX t a,bL x<=144
 | [],_,x,hx=>by cases hx
 | a::r,h,x,hx=>by
  rw[gX]at hx
  rcases List.mem_append.1 hx with hx | hx
  · obtain⟨b,hb,rfl⟩:=List.mem_map.1 hx
    exact aJy ht (h a (by simp)) (h b (by simp[hb]))
  · exact aLM ht (fun y hy=>h y (by simp[hy])) x hx
theorem aFY (t:Rat):∀ {a:List l08Arm} {n:Nat},a.length<=n->(gX t a).length<=n*a.length
 | [],n,_=>by simp[gX]
 | a::r,n,h=>by
  rw[List.length_cons]at h
  have:=aFY t (a:=r) (n:=n) (by omega)
  rw[gX,List.length_append,List.length_map,List.length_cons,Nat.mul_add,Nat.mul_one];omega
theorem aN9 (t:Rat):∀ {a:List l08Arm} {x:Link},x∈gX t a->∃ y∈a,x.fA=y.fnode
 | [],x,hx=>by cases hx
 | a::r,x,hx=>by
  rw[gX]at hx
  rcases List.mem_append.1 hx with hx | hx
  · obtain⟨b,hb,rfl⟩:=List.mem_map.1 hx
    exact⟨a,by simp,rfl⟩
  · obtain⟨y,hy,e⟩:=aN9 t hx
    exact⟨y,by simp[hy],e⟩
theorem aJB (t:Rat):∀ {a:List l08Arm},(a.map (·.fnode)).Pairwise (· < ·)->(gX t a).Pairwise fH
 | [],_=>List.Pairwise.nil
 | a::r,h=>by
  rw[List.map_cons,List.pairwise_cons]at h
  rw[gX,List.pairwise_append]
  refine⟨?_,aJB t h.2,fun x hx y hy=>?_⟩
  · rw[List.pairwise_map]
    have:=h.2
    rw[List.pairwise_map]at this
    exact this.imp (fun {b c} hbc=>.inr ⟨rfl,hbc⟩)
  · obtain⟨b,hb,rfl⟩:=List.mem_map.1 hx
    obtain⟨z,hz,e⟩:=aN9 t hy
    exact .inl (by rw[e];exact h.1 _ (List.mem_map.2 ⟨z,hz,rfl⟩))
theorem aHI {t:Rat}{a:List l08Arm}(h:(a.map (·.fnode)).Pairwise (· < ·)):LSet (gX t a)↔∀ x∈gX t a,ValidL x:=⟨fun g=>g.1,fun g=>⟨g,aJB t h⟩⟩
theorem aML {a:List l08Arm}(ha:∀ x∈a,uW x)(hl:a.length<=100):lp (fM a) (0,rA 0)=some (rT a):=by
 have:=(gY (step:=fM a) a (fun k t=>((k:Int),t)) (fun t a=>RA t a.fweight) (fun t=>t) (fun _ t=>VZ t) (fun k t hk hi=>by
  have w1:i64.wrap ((k:Int)+1)=((k+1:Nat):Int):=by rw[wi (by omega)];omega
  obtain⟨q1,_,q3⟩:=aBn hi (ha _ (List.getElem_mem hk)).2.1
  refine⟨?_,q3⟩
  unfold fM
  simp only[]
  rw[if_pos (by omega),aK hk]
  simp only[Option.bind_some,q1,w1]) (fun t _=>by unfold fM;simp only[];rw[if_neg (by omega)]) (rA 0) (.inl aB8)).1
 rw[show((0:Nat):Int)=0 from rfl]at this
 exact this
theorem aMN {a:List l08Arm}{t:Rat}(ht:VZ t)(ha:∀ x∈a,uW x)(hl:a.length<=100):lp (fL a t) (0,[])=some (a.map (fZ t)):=by
 have:=aAv (step:=fL a t) (a.map (fZ t)) (fun k t=>((k:Int),t)) (fun t=>t) (fun k u hk hu=>by
  have hk2:k<a.length:=by rwa [List.length_map]at hk
  have w1:i64.wrap ((k:Int)+1)=((k+1:Nat):Int):=by rw[wi (by omega)];omega
  have ho:=ha _ (List.getElem_mem hk2)
  have q:=(aGP ho.2.1 ht).1
  unfold fL
  simp only[]
  rw[if_pos (by omega),aK hk2]
  simp only[Option.bind_some,q,qA _ (VZs ho.2.2.1),qA _ (VZs ho.2.2.2),w1]
  rw[aP (by omega)]
  simp only[Option.bind_some,tH,List.getElem_map]
  rfl) (fun u hu=>by unfold fL;simp only[];rw[List.length_map,if_neg (by omega)])
 rw[show((0:Nat):Int)=0 from rfl]at this
 exact this
theorem aMM {r:List l08Arm}{x:l08Arm}{t:Rat}(ht:VZ t)(hx:uW x)(hr:∀ y∈r,uW y)(hl:r.length<=100)(acc:List Link)(hacc:acc.length<=1000000) :
 lp (fK r x t) (0,acc)=some (acc++r.map (tG t x)):=by
 have:=(gY (step:=fK r x t) r (fun k u=>((k:Int),u)) (fun u b=>u++[tG t x b]) (fun u=>u) (fun k u=>u.length<=1000000+k) (fun k u hk hi=>by
  have w1:i64.wrap ((k:Int)+1)=((k+1:Nat):Int):=by rw[wi (by omega)];omega
  have ho:=hr _ (List.getElem_mem hk)
  have q0:=aD9 hx.2.1 ho.2.1
  have q1:=(aGP q0.2.2 ht).1
  have q2:=(aIW hx.2.2.1 ho.2.2.1).1
  have q3:=(aIW hx.2.2.2 ho.2.2.2).1
  refine⟨?_,by rw[List.length_append,List.length_singleton];omega⟩
  unfold fK
  simp only[]
  rw[if_pos (by omega),aK hk]
  simp only[Option.bind_some,q0.1,q1,q2,q3,w1]
  rw[aP (by omega)]
  rfl) (fun u _=>by unfold fK;simp only[];rw[if_neg (by omega)]) acc (by omega)).1
 rw[show((0:Nat):Int)=0 from rfl,aCY]at this
 exact this
theorem aNk {α:Type}(l:List α)(k:Nat)(hk:k+1<=l.length)(hl:l.length<=4294967296):sub l (i64.wrap ((k:Int)+1)) (l.length:Int)=some (l.drop (k+1)):=by
 have w1:i64.wrap ((k:Int)+1)=((k+1:Nat):Int):=by rw[wi (by omega)];omega
 rw[w1,pQ _ _ _ (by omega)];congr 1
 rw[List.take_of_length_le];rfl
 rw[List.length_drop];omega
theorem aK1 {a:List l08Arm}{t:Rat}(ht:VZ t)(ha:∀ x∈a,uW x)(hl:a.length<=100):lp (dY a t) (0,[])=some (gX t a):=by
 have main:∀ m k:Nat,m+k=a.length->∀ acc:List Link,acc.length<=100*k->lp (dY a t) ((k:Int),acc)=some (acc++gX t (a.drop k)):=by
  intro m
  induction m with
  | zero =>
   intro k hk acc hacc
   rw[List.drop_eq_nil_of_le (by omega),gX,List.append_nil]
   exact aL (by unfold dY;simp only[];rw[if_neg (by omega)])
  | succ m ih =>
   intro k hk acc hacc
   have hlt:k<a.length:=by omega
   have w1:i64.wrap ((k:Int)+1)=((k+1:Nat):Int):=by rw[wi (by omega)];omega
   rw[List.drop_eq_getElem_cons hlt,gX]
   have row:=aMM (r:=a.drop (k+1)) ht (ha _ (List.getElem_mem hlt)) (fun y hy=>ha y (List.mem_of_mem_drop hy)) (by rw[List.length_drop];omega) acc (by omega)
   have st:dY a t ((k:Int),acc)=some (.inl (((k+1:Nat):Int),acc++(a.drop (k+1)).map (tG t a[k]))):=by
    unfold dY
    simp only[]
    rw[if_pos (by omega),aK hlt,aNk a k (by omega) (by omega)]
    simp only[Option.bind_some,row,w1]
   rw[aS st,ih (k+1) (by omega) _ (by rw[List.length_append,List.length_map,List.length_drop];omega),List.append_assoc]
 have:=main a.length 0 (by omega) [] (by simp)
 rw[show((0:Nat):Int)=0 from rfl,List.drop_zero,List.nil_append]at this
 exact this
theorem aIN {v:Int}{a:List l08Arm}(ha:∀ x∈a,uW x)(hl:a.length<=100):aT (aAA v a)<=4294967296:=by
 have h1:=mF (aAH ha)
 have h2:nJ (a.map (fZ (rT a)))<=145*(a.map (fZ (rT a))).length:=aDP (c:=144) (fun p hp=>by
  obtain⟨x,hx,rfl⟩:=List.mem_map.1 hp
  have ho:=ha x hx
  have g1:=mF (aGP ho.2.1 (aAH ha)).2.2
  have g2:=mF ho.2.2.1
  have g3:=mF ho.2.2.2
  unfold jJ fZ;simp only[];omega)
 rw[List.length_map]at h2
 unfold aT aAA;simp only[];omega
theorem aPF {s:List Link}(hs:LSet s)(v:Int):kJ s v=some (pkE (wV v s)):=by
 have ha:=aGI hs v
 have hl:=aCp hs v
 have ht:=aAH ha
 obtain⟨b,b1,b2,_⟩:=aIS _ (aIN (v:=v) ha hl)
 have inc:=aHZ hs v
 unfold kJ
 rw[lV s (by have:=hs.sz;omega),decide_eq_true hs,zP]
 simp only[Option.bind_some,if_true]
 by_cases c:1<=v/\v<=9
 · rw[decide_eq_true c]
   simp only[Bool.not_true,Bool.false_eq_true,if_false]
   rw[aQN hs v,bS 0 (by omega)]
   simp only[Option.bind_some]
   rw[aML ha hl]
   simp only[Option.bind_some]
   rw[aMN ht ha hl]
   simp only[Option.bind_some]
   rw[aK1 ht ha hl]
   simp only[Option.bind_some]
   have e:(Conditional.mk v (rT (bN v s)) ((bN v s).map (fZ (rT (bN v s)))))=aAA v (bN v s):=rfl
   rw[e,b1]
   simp only[Option.bind_some]
   have hms:=aDP (aLM ht ha)
   have hml:=aFY (rT (bN v s)) (a:=bN v s) (Nat.le_refl _)
   have hm2:(bN v s).length*(bN v s).length<=100*100:=Nat.mul_le_mul hl hl
   rw[lV _ (by unfold aG;omega)]
   cases b with
   | false =>
    have:¬condOk v (bN v s):=by unfold condOk;rw[b1];simp
    rw[aCl (fun h=>this h.2.1)];rfl
   | true =>
    have hc:condOk v (bN v s):=b1
    simp only[if_true,Option.bind_some]
    by_cases d:∀ x∈gX (rT (bN v s)) (bN v s),ValidL x
    · rw[decide_eq_true ((aHI inc).2 d),aIM ⟨c,hc,d⟩];rfl
    · rw[decide_eq_false (fun h=>d ((aHI inc).1 h)),aCl (fun h=>d h.2.2)];rfl
 · rw[decide_eq_false c]
   rw[aCl (fun h=>c h.1)];rfl
def yF (a:l08Arm):Parent:=⟨a.fnode,oF,a.fdx,a.fdy⟩
theorem aLh (v:Int)(s:List Link)(k:Nat)(hk:k<s.length):bN v (s.take (k+1))=bN v (s.take k)++(if tch v s[k]then [aBi v s[k]]else []):=by
 have tk:s.take (k+1)=s.take k++[s[k]]:=by rw[List.take_add_one,List.getElem?_eq_getElem hk];rfl
 unfold bN
 rw[tk,List.filter_append,List.map_append]
 congr 1
 by_cases c:tch v s[k] <;> simp[c]
theorem aK3 {s:List Link}(hs:LSet s)(v:Int):lp (eB s v) (0,rA 0,[],[])=some (rT (bN v s),(bN v s).map (·.fweight),(bN v s).map yF):=by
 have hlen:=hs.len
 have hpre:∀ k,∀ a∈bN v (s.take k),uW a:=fun k a ha=>by
  obtain⟨l,hl,rfl⟩:=List.mem_map.1 ha
  exact aKa (hs.1 l (List.mem_of_mem_take (List.mem_filter.1 hl).1))
 have hpl:∀ k,(bN v (s.take k)).length<=100:=fun k=>by
  have:=List.length_filter_le (tch v) (s.take k)
  have h2:(s.take k).length<=s.length:=by rw[List.length_take];omega
  unfold bN;rw[List.length_map];omega
 have main:∀ m k:Nat,m+k=s.length->lp (eB s v) ((k:Int),rT (bN v (s.take k)),(bN v (s.take k)).map (·.fweight),(bN v (s.take k)).map yF)=some (rT (bN v s),(bN v s).map (·.fweight),(bN v s).map yF):=by
  intro m
  induction m with
  | zero =>
   intro k hk
   rw[List.take_of_length_le (by omega)]
   exact aL (by unfold eB;simp only[];rw[if_neg (by omega)])
  | succ m ih =>
   intro k hk
   have hlt:k<s.length:=by omega
   have w1:i64.wrap ((k:Int)+1)=((k+1:Nat):Int):=by rw[wi (by omega)];omega
   have hv:=hs.1 _ (List.getElem_mem hlt)
   obtain⟨v1,v2,v3⟩:=hv.vz
   have n1:=(aM4 v2).2.1
   have n2:=(aM4 v3).2.1
   have ra:=(aBn (aAH (hpre k)) v1).2.1
   have hp:=hpl k
   have st:eB s v ((k:Int),rT (bN v (s.take k)),(bN v (s.take k)).map (·.fweight),(bN v (s.take k)).map yF)=some (.inl (((k+1:Nat):Int),rT (bN v (s.take (k+1))),(bN v (s.take (k+1))).map (·.fweight),(bN v (s.take (k+1))).map yF)):=by
    rw[aLh v s k hlt]
    unfold eB
    simp only[]
    rw[if_pos (by omega),aK hlt]
    simp only[Option.bind_some,n1,n2,ra,w1]
    have k1:∀ {α:Type} {f:l08Arm->α},((bN v (s.take k)).map f).length<=100:=by intro α f;rw[List.length_map];exact hp
    by_cases A:(s[k]).fA=v
    · rw[if_pos A,aP (by have:=k1 (f:=yF);omega)]
      simp only[Option.bind_some,tH]
      rw[aP (by have:=k1 (f:=fun a=>a.fweight);omega)]
      simp[tch,A,aBi,rT,yF,oF,ra]
    · by_cases B:(s[k]).fB=v
      · rw[if_neg A,if_pos B,aP (by have:=k1 (f:=yF);omega)]
        simp only[Option.bind_some,tH]
        rw[aP (by have:=k1 (f:=fun a=>a.fweight);omega)]
        simp[tch,A,B,aBi,rT,yF,oF,ra]
      · simp[tch,A,B]
   rw[aS st]
   exact ih (k+1) (by omega)
 have:=main s.length 0 (by omega)
 simpa [bN,rT]using this
theorem aMP {a:List l08Arm}{t:Rat}(ht:VZ t)(ha:∀ x∈a,uW x)(hl:a.length<=100):lp (eA (t,a.map (·.fweight),a.map yF)) (0,a.map yF)=some (a.map (fZ t)):=by
 have main:∀ m k:Nat,m+k=a.length->lp (eA (t,a.map (·.fweight),a.map yF)) ((k:Int),(a.take k).map (fZ t)++(a.drop k).map yF)=some (a.map (fZ t)):=by
  intro m
  induction m with
  | zero =>
   intro k hk
   refine aL ?_
   unfold eA
   simp only[List.length_map]
   rw[if_neg (by omega),List.drop_eq_nil_of_le (by omega),List.take_of_length_le (by omega)]
   simp
  | succ m ih =>
   intro k hk
   have hlt:k<a.length:=by omega
   have w1:i64.wrap ((k:Int)+1)=((k+1:Nat):Int):=by rw[wi (by omega)];omega
   have ho:=ha _ (List.getElem_mem hlt)
   have q:=(aGP ho.2.1 ht).2.1
   have tl:((a.take k).map (fZ t)).length=k:=by rw[List.length_map,List.length_take];omega
   have e1:idx (a.map (fun x=>x.fweight)) (k:Int)=some (a[k]).fweight:=by rw[aK (by rwa [List.length_map]),List.getElem_map]
   have e2:idx ((a.take k).map (fZ t)++(a.drop k).map yF) (k:Int)=some (yF a[k]):=by
    rw[aII,List.getElem?_append_right (by omega),tl,Nat.sub_self,List.drop_eq_getElem_cons hlt];rfl
   have e3:xP ((a.take k).map (fZ t)++(a.drop k).map yF) (k:Int) (fZ t a[k])=(a.take (k+1)).map (fZ t)++(a.drop (k+1)).map yF:=by
    rw[sD,List.set_append_right _ _ (by omega),tl,Nat.sub_self,List.drop_eq_getElem_cons hlt,List.map_cons,List.set_cons_zero,List.take_add_one,List.getElem?_eq_getElem hlt,List.map_append,List.append_assoc]
    rfl
   have st:eA (t,a.map (·.fweight),a.map yF) ((k:Int),(a.take k).map (fZ t)++(a.drop k).map yF)=some (.inl (((k+1:Nat):Int),(a.take (k+1)).map (fZ t)++(a.drop (k+1)).map yF)):=by
    unfold eA
    simp only[List.length_map]
    rw[if_pos (by omega),e1]
    simp only[Option.bind_some,q,e2,tH,w1]
    have:(Parent.mk (yF a[k]).fNode (RD (a[k]).fweight t) (yF a[k]).fDX (yF a[k]).fDY)=fZ t a[k]:=rfl
    rw[this,e3]
   rw[aS st]
   exact ih (k+1) (by omega)
 have:=main a.length 0 (by omega)
 simpa using this
def aFu (t:Rat)(x:l08Arm)(r:List l08Arm):Prop:=∀ y∈r,ValidL (tG t x y)
noncomputable instance (t:Rat)(x:l08Arm)(r:List l08Arm):Decidable (aFu t x r):=Classical.propDecidable _
theorem aMO {a:List l08Arm}{t:Rat}(ht:VZ t)(ha:∀ x∈a,uW x)(hl:a.length<=100)(q0:List Parent)(i:Nat)(hi:i<a.length):∀ m j:Nat,m+j=a.length->∀ acc:List Link,acc.length<=1000000+j->
 lp (fN (a.map (fZ t)) (t,a.map (·.fweight),q0) (i:Int) (fZ t a[i])) ((j:Int),acc)=some (if aFu t a[i] (a.drop j)then .inl (acc++(a.drop j).map (tG t a[i]))else .inr (aE9,[],false)):=by
 intro m
 induction m with
 | zero =>
  intro j hj acc hacc
  rw[List.drop_eq_nil_of_le (by omega),if_pos (by intro y hy;cases hy),List.map_nil,List.append_nil]
  exact aL (by unfold fN;simp only[List.length_map];rw[if_neg (by omega)])
 | succ m ih =>
  intro j hj acc hacc
  have hlt:j<a.length:=by omega
  have w1:i64.wrap ((j:Int)+1)=((j+1:Nat):Int):=by rw[wi (by omega)];omega
  have hx:=ha _ (List.getElem_mem hi)
  have ho:=ha _ (List.getElem_mem hlt)
  have p0:=aD9 hx.2.1 ho.2.1
  have p1:=(aGP p0.2.2 ht).2.1
  have p2:=(aIW hx.2.2.1 ho.2.2.1).2.1
  have p3:=(aIW hx.2.2.2 ho.2.2.2).2.1
  have vl:=(gH (tG t a[i] a[j]) (by have:=aJy ht hx ho;omega)).2
  have e0:idx (a.map (fZ t)) (j:Int)=some (fZ t a[j]):=by rw[aK (by rwa [List.length_map]),List.getElem_map]
  have e1:idx (a.map (fun x=>x.fweight)) (i:Int)=some (a[i]).fweight:=by rw[aK (by rwa [List.length_map]),List.getElem_map]
  have e2:idx (a.map (fun x=>x.fweight)) (j:Int)=some (a[j]).fweight:=by rw[aK (by rwa [List.length_map]),List.getElem_map]
  have st:fN (a.map (fZ t)) (t,a.map (·.fweight),q0) (i:Int) (fZ t a[i]) ((j:Int),acc)=some (if ValidL (tG t a[i] a[j])then .inl (((j+1:Nat):Int),acc++[tG t a[i] a[j]])else .inr (.inr (aE9,[],false))):=by
   unfold fN
   simp only[List.length_map]
   rw[if_pos (by omega),e0,e1,e2]
   simp only[Option.bind_some,p0.2.1,p1,w1]
   have f1:(fZ t a[i]).fDX=(a[i]).fdx:=rfl
   have f2:(fZ t a[i]).fDY=(a[i]).fdy:=rfl
   have f3:(fZ t a[j]).fDX=(a[j]).fdx:=rfl
   have f4:(fZ t a[j]).fDY=(a[j]).fdy:=rfl
   rw[f1,f2,f3,f4,p2]
   simp only[Option.bind_some]
   rw[p3]
   simp only[Option.bind_some]
   have f5:(Link.mk (fZ t a[i]).fNode (fZ t a[j]).fNode (RD (RM (a[i]).fweight (a[j]).fweight) t) (RS (a[i]).fdx (a[j]).fdx) (RS (a[i]).fdy (a[j]).fdy))=tG t a[i] a[j]:=rfl
   rw[f5,vl]
   simp only[Option.bind_some]
   by_cases c:ValidL (tG t a[i] a[j])
   · rw[decide_eq_true c,if_pos rfl,if_pos c,aP (by omega)];rfl
   · rw[decide_eq_false c,if_neg c];rfl
  rw[List.drop_eq_getElem_cons hlt]
  by_cases c:ValidL (tG t a[i] a[j])
  · rw[if_pos c]at st
    rw[aS st,ih (j+1) (by omega) _ (by rw[List.length_append,List.length_singleton];omega)]
    have:aFu t a[i] (a[j]::a.drop (j+1))↔aFu t a[i] (a.drop (j+1)):=⟨fun h x hx'=>h x (List.mem_cons_of_mem _ hx'),fun h x hx'=>by rcases List.mem_cons.1 hx' with rfl | h';exact c;exact h x h'⟩
    simp only[this,List.map_cons,List.append_assoc,List.singleton_append]
  · rw[if_neg c]at st
    rw[aL st,if_neg (fun h=>c (h _ List.mem_cons_self))]
theorem aK2 {a:List l08Arm}{t:Rat}(ht:VZ t)(ha:∀ x∈a,uW x)(hl:a.length<=100)(q0:List Parent):lp (dZ (a.map (fZ t)) (t,a.map (·.fweight),q0)) (0,[])=some (if ∀ x∈gX t a,ValidL x then .inl (gX t a)else .inr (aE9,[],false)):=by
 have main:∀ m k:Nat,m+k=a.length->∀ acc:List Link,acc.length<=100*k->lp (dZ (a.map (fZ t)) (t,a.map (·.fweight),q0)) ((k:Int),acc)=some (if ∀ x∈gX t (a.drop k),ValidL x then .inl (acc++gX t (a.drop k))else .inr (aE9,[],false)):=by
  intro m
  induction m with
  | zero =>
   intro k hk acc hacc
   rw[List.drop_eq_nil_of_le (by omega),if_pos (by simp[gX]),gX,List.append_nil]
   exact aL (by unfold dZ;simp only[List.length_map];rw[if_neg (by omega)])
  | succ m ih =>
   intro k hk acc hacc
   have hlt:k<a.length:=by omega
   have w1:i64.wrap ((k:Int)+1)=((k+1:Nat):Int):=by rw[wi (by omega)];omega
   have e0:idx (a.map (fZ t)) (k:Int)=some (fZ t a[k]):=by rw[aK (by rwa [List.length_map]),List.getElem_map]
   have row:=aMO ht ha hl q0 k hlt (a.length-(k+1)) (k+1) (by omega) acc (by omega)
   rw[List.drop_eq_getElem_cons hlt,gX]
   have st:dZ (a.map (fZ t)) (t,a.map (·.fweight),q0) ((k:Int),acc)=some (if aFu t a[k] (a.drop (k+1))then .inl (((k+1:Nat):Int),acc++(a.drop (k+1)).map (tG t (a[k]'hlt)))else .inr (.inr (aE9,[],false))):=by
    unfold dZ
    simp only[List.length_map]
    rw[if_pos (by omega),e0]
    simp only[Option.bind_some,w1,row]
    by_cases c:aFu t a[k] (a.drop (k+1))
    · rw[if_pos c,if_pos c]
    · rw[if_neg c,if_neg c]
   by_cases c:aFu t a[k] (a.drop (k+1))
   · rw[if_pos c]at st
     rw[aS st,ih (k+1) (by omega) _ (by rw[List.length_append,List.length_map,List.length_drop];omega)]
     have:(∀ x∈(a.drop (k+1)).map (tG t a[k])++gX t (a.drop (k+1)),ValidL x)↔∀ x∈gX t (a.drop (k+1)),ValidL x:=⟨fun h x hx=>h x (List.mem_append_right _ hx),fun h x hx=>by
      rcases List.mem_append.1 hx with hx | hx
      · obtain⟨y,hy,rfl⟩:=List.mem_map.1 hx;exact c y hy
      · exact h x hx⟩
     simp only[this,List.append_assoc]
   · rw[if_neg c]at st
     rw[aL st,if_neg]
     intro h
     exact c fun y hy=>h _ (List.mem_append_left _ (List.mem_map.2 ⟨y,hy,rfl⟩))
 have:=main a.length 0 (by omega) [] (by simp)
 rw[show((0:Nat):Int)=0 from rfl,List.drop_zero,List.nil_append]at this
 exact this
theorem aPG {s:List Link}(hs:LSet s)(v:Int):kQ s v=some (pkE (wV v s)):=by
 have ha:=aGI hs v
 have hl:=aCp hs v
 have ht:=aAH ha
 obtain⟨b,b1,b2,_⟩:=aIS _ (aIN (v:=v) ha hl)
 unfold kQ
 have e0:((if v<1 then some true else some (decide (10<=v))):Option Bool)=some (!decide (1<=v/\v<=9)):=by
  by_cases A:v<1
  · have:¬1<=v:=by omega
    simp[A,this]
  · by_cases B:10<=v
    · have:¬v<=9:=by omega
      simp[A,B,this]
    · have h1:1<=v:=by omega
      have h2:v<=9:=by omega
      simp[A,B,h1,h2]
 rw[e0]
 simp only[Option.bind_some]
 by_cases c:1<=v/\v<=9
 · rw[decide_eq_true c]
   simp only[Bool.not_true,Bool.false_eq_true,if_false]
   rw[gO 0 (by omega)]
   simp only[Option.bind_some]
   rw[aK3 hs v]
   simp only[Option.bind_some]
   rw[aMP ht ha hl]
   simp only[Option.bind_some]
   have e:(Conditional.mk v (rT (bN v s)) ((bN v s).map (fZ (rT (bN v s)))))=aAA v (bN v s):=rfl
   rw[e,b2]
   simp only[Option.bind_some]
   cases b with
   | false =>
    have:¬condOk v (bN v s):=by unfold condOk;rw[b1];simp
    rw[aCl (fun h=>this h.2.1)];rfl
   | true =>
    have hc:condOk v (bN v s):=b1
    simp only[if_true]
    rw[aK2 ht ha hl]
    by_cases d:∀ x∈gX (rT (bN v s)) (bN v s),ValidL x
    · rw[if_pos d,aIM ⟨c,hc,d⟩];rfl
    · rw[if_neg d,aCl (fun h=>d h.2.2)];rfl
 · rw[decide_eq_false c]
   rw[aCl (fun h=>c h.1)];rfl
end Go.Ev
/- Reducing a node of a link set and a node of a tree, both programs. -/
namespace Go.Ev
set_option linter.all false
theorem wi1 {k:Nat}(h:k<=4294967296):IntKind.i64.wrap ((k:Int)+1)=((k+1:Nat):Int):=by rw[wi (by omega)];omega
def wL (v:Int)(s:List Link):List Link:=s.filter (fun l=>!tch v l)
theorem xW {α:Type}(p:α->Bool):∀ (l t:List α),l.foldl (fun t x=>if p x=true then t++[x]else t) t=t++l.filter p
 | [],t=>by simp
 | x::l,t=>by
  rw[List.foldl_cons,xW p l,List.filter_cons]
  by_cases c:p x=true
  · simp only[c,if_true,List.append_assoc,List.singleton_append]
  · simp only[Bool.not_eq_true]at c;simp[c]
theorem aPX (v:Int)(l:Link):((if l.fA≠v then some (decide (l.fB≠v))else some false):Option Bool)=some (!tch v l):=by
 unfold tch;by_cases A:l.fA=v <;> by_cases B:l.fB=v <;> simp[A,B]
theorem aMd {s:List Link}(h:s.length<=4294967296)(v:Int):mV s v=some (wL v s):=by
 have:=(gY (step:=jO s v) s (fun k t=>((k:Int),t)) (fun t x=>if(fun l=>!tch v l) x=true then t++[x]else t) (fun t=>t) (fun k t=>t.length<=k) (fun k t hk hi=>by
  constructor
  · unfold jO
    simp only[]
    rw[if_pos (by omega),aK hk]
    simp only[Option.bind_some,aPX,wi1 (by omega:k<=4294967296)]
    by_cases c:tch v s[k]=true
    · rw[if_neg (by simp[c]),if_neg (by simp[c])]
    · rw[if_pos (by simpa using c),if_pos (by simpa using c),aP (by omega)];rfl
  · simp only[];split
    · rw[List.length_append,List.length_singleton];omega
    · omega) (fun t _=>by unfold jO;simp only[];rw[if_neg (by omega)]) [] (Nat.zero_le _)).1
 rw[show((0:Nat):Int)=0 from rfl,xW,List.nil_append]at this
 unfold mV
 rw[this];rfl
theorem aM3 {s:List Link}(hs:LSet s)(v:Int):mN s v=some (wL v s):=by
 have hl:=hs.len
 have:=(gY (step:=jM s v) s (fun k t=>((k:Int),t)) (fun t x=>if(fun l=>!tch v l) x=true then t++[x]else t) (fun t=>t) (fun k t=>t.length<=k) (fun k t hk hi=>by
  constructor
  · unfold jM
    simp only[]
    rw[if_pos (by omega),aK hk]
    have cp:=tU s[k] (by have:=(hs.1 _ (List.getElem_mem hk)).sz;omega)
    simp only[Option.bind_some,aPX,wi1 (by omega:k<=4294967296),cp]
    by_cases c:tch v s[k]=true
    · rw[if_neg (by simp[c]),if_neg (by simp[c])]
    · rw[if_pos (by simpa using c),if_pos (by simpa using c),aP (by omega)];rfl
  · simp only[];split
    · rw[List.length_append,List.length_singleton];omega
    · omega) (fun t _=>by unfold jM;simp only[];rw[if_neg (by omega)]) [] (Nat.zero_le _)).1
 rw[show((0:Nat):Int)=0 from rfl,xW,List.nil_append]at this
 unfold mN
 rw[lV s (by have:=hs.sz;omega),decide_eq_true hs]
 simp only[Option.bind_some,if_true,this]
 rfl
noncomputable def aBy (v:Int)(s:List Link):Option (Conditional×List Link×Rat) :=
 (wV v s).bind fun x=>(jnP (wL v s++x.2)).map fun y=>(x.1,y.1,y.2)
def pkR:Option (Conditional×List Link×Rat)->Conditional×List Link×Rat×Bool
 | some (c,m,e)=>(c,m,e,true)
 | none=>(aE9,[],oF,false)
theorem aJW {v:Int}{s:List Link}(hs:LSet s){c:Conditional}{m:List Link}(h:wV v s=some (c,m)):(∀ x∈m,ValidL x)/\m.length<=10000/\aT c<=20000/\(1<=v/\v<=9):=by
 unfold wV at h
 split at h
 · rename_i g
   cases h
   have ha:=aGI hs v
   have hl:=aCp hs v
   have h1:=aFY (rT (bN v s)) (a:=bN v s) (Nat.le_refl _)
   have h2:(bN v s).length*(bN v s).length<=100*100:=Nat.mul_le_mul hl hl
   have g1:=mF (aAH ha)
   have g2:nJ ((bN v s).map (fZ (rT (bN v s))))<=145*((bN v s).map (fZ (rT (bN v s)))).length:=aDP (c:=144) (fun p hp=>by
    obtain⟨x,hx,rfl⟩:=List.mem_map.1 hp
    have ho:=ha x hx
    have g1:=mF (aGP ho.2.1 (aAH ha)).2.2
    have g2:=mF ho.2.2.1
    have g3:=mF ho.2.2.2
    unfold jJ fZ;simp only[];omega)
   rw[List.length_map]at g2
   refine⟨g.2.2,by omega,?_,g.1⟩
   unfold aT aAA;simp only[];omega
 · cases h
theorem aNx {v:Int}{s:List Link}(hs:LSet s):(∀ x∈wL v s,ValidL x)/\(wL v s).length<=100:=by
 have:=List.length_filter_le (fun l=>!tch v l) s
 have:=hs.len
 exact⟨fun x hx=>hs.1 x (List.mem_filter.1 hx).1,by unfold wL;omega⟩
theorem aFA {s:List Link}(hs:LSet s)(v:Int):oK s v=some (pkR (aBy v s))/\oV s v=some (pkR (aBy v s)):=by
 unfold oK oV aBy
 rw[aPF hs,aPG hs]
 cases h:wV v s with
 | none=>exact⟨rfl,rfl⟩
 | some x =>
  obtain⟨c,m⟩:=x
  obtain⟨m1,m2,m3,_⟩:=aJW hs h
  obtain⟨r1,r2⟩:=aNx (v:=v) hs
  have hall:∀ x∈wL v s++m,ValidL x:=fun x hx=>(List.mem_append.1 hx).elim (r1 x) (m1 x)
  have hlen:(wL v s++m).length<=20000:=by rw[List.length_append];omega
  have hsz:=aB4 hall
  have j1:=(zT (wL v s++m) (by omega)).1
  have j2:=aBP hall (by omega)
  simp only[pkE,Option.bind_some,if_true]
  rw[aM3 hs,aMd (by have:=hs.len;omega)]
  simp only[Option.bind_some]
  rw[aP (by omega)]
  simp only[Option.bind_some,tH,j1,j2]
  cases jnP (wL v s++m)with
  | none=>exact⟨rfl,rfl⟩
  | some y=>exact⟨rfl,rfl⟩
theorem aIq {v:Int}{s:List Link}(hs:LSet s){c:Conditional}{m:List Link}{e:Rat}(h:aBy v s=some (c,m,e)):aT c<=20000/\LSet m/\bO e/\c.fNode=v:=by
 unfold aBy at h
 cases h1:wV v s with
 | none=>rw[h1]at h;cases h
 | some x =>
  rw[h1]at h
  cases h2:jnP (wL v s++x.2)with
  | none=>rw[Option.bind_some,h2]at h;cases h
  | some y =>
   rw[Option.bind_some,h2]at h
   cases h
   have:=aA2 (s:=y.1) (e:=y.2) h2
   refine⟨(aJW hs (c:=x.1) (m:=x.2) h1).2.2.1,this.2.1,this.2.2,?_⟩
   unfold wV at h1
   split at h1
   · cases h1;rfl
   · cases h1
end Go.Ev
/- A node of a tree, both programs. -/
namespace Go.Ev
open IntKind
set_option linter.all false
def aQ (l s:List Int):Int:=(l.find? (fun u=>decide (u∈s))).getD 0
theorem aL0 (l s:List Int)(hl:l.length<=4294967296)(hs:s.length<=4294967296):pG l s=some (aQ l s):=by
 have main:∀ m k:Nat,m+k=l.length->lp (hJ l s) (k:Int)=some (match (l.drop k).find? (fun u=>decide (u∈s))with | some x=>.inr x | none=>.inl ()):=by
  intro m
  induction m with
  | zero =>
   intro k hk
   have:k=l.length:=by omega
   subst this
   rw[aL (r:=.inl ()) (by unfold hJ;rw[if_neg (by omega)]),List.drop_length];rfl
  | succ m ih =>
   intro k hk
   have hlt:k<l.length:=by omega
   rw[List.drop_eq_getElem_cons hlt,List.find?_cons]
   by_cases c:l[k]∈s
   · rw[aL (r:=.inr l[k]) (by unfold hJ;rw[if_pos (by omega),aK hlt];simp[aDw s _ hs,c])];simp[c]
   · have e:hJ l s (k:Int)=some (.inl ((k+1:Nat):Int)):=by
      unfold hJ;rw[if_pos (by omega),aK hlt];simp only[Option.bind_some,aDw s _ hs,wi1 (by omega:k<=4294967296)];simp[c]
     rw[aS e,ih (k+1) (by omega)]
     simp only[c,decide_false]
 have:=main l.length 0 (by omega)
 rw[show((0:Nat):Int)=0 from rfl,List.drop_zero]at this
 unfold pG aQ
 rw[this]
 cases l.find? (fun u=>decide (u∈s)) <;> rfl
def xF (c:Conditional):List Int:=c.fParents.map (·.fNode)
def upP (order:List Int)(c:Conditional):Int:=aQ order (xF c)
theorem aGs {α:Type}{p q:α->Bool}:∀ {l:List α},(∀ x∈l,p x=q x)->l.find? p=l.find? q
 | [],_=>rfl
 | x::l,h=>by rw[List.find?_cons,List.find?_cons,h x (by simp),aGs (fun y hy=>h y (by simp[hy]))]
theorem aR3 {order:List Int}{c:Conditional}(ho:∀ u∈order,1<=u)(hl:order.length<=4294967296)(hc:c.fParents.length<=4294967296):yA order c=some (upP order c):=by
 have:=(gY (step:=rU c) c.fParents (fun k t=>((k:Int),t)) (fun t x=>if(fun p:Parent=>decide (0<p.fNode)) x=true then t++[x.fNode]else t) (fun t=>t) (fun k t=>t.length<=k) (fun k t hk hi=>by
  constructor
  · unfold rU
    simp only[]
    rw[if_pos (by omega),aK hk]
    simp only[Option.bind_some,wi1 (by omega:k<=4294967296)]
    by_cases c0:0<(c.fParents[k]).fNode
    · rw[if_pos c0,if_pos (by simpa using c0),aP (by omega)];rfl
    · rw[if_neg c0,if_neg (by simpa using c0)]
  · simp only[];split
    · rw[List.length_append,List.length_singleton];omega
    · omega) (fun t _=>by unfold rU;simp only[];rw[if_neg (by omega)]) [] (Nat.zero_le _)).1
 rw[show((0:Nat):Int)=0 from rfl]at this
 have e:∀ (l:List Parent) (t:List Int),l.foldl (fun t x=>if(fun p:Parent=>decide (0<p.fNode)) x=true then t++[x.fNode]else t) t=t++(l.filter (fun p=>decide (0<p.fNode))).map (·.fNode):=by
  intro l
  induction l with
  | nil=>intro t;simp
  | cons x l ih =>
   intro t
   rw[List.foldl_cons,ih,List.filter_cons]
   by_cases c0:0<x.fNode <;> simp[c0]
 rw[e,List.nil_append]at this
 unfold yA
 rw[this]
 simp only[Option.bind_some]
 have hf:=List.length_filter_le (fun p:Parent=>decide (0<p.fNode)) c.fParents
 rw[aL0 _ _ hl (by rw[List.length_map];omega)]
 simp only[Option.bind_some]
 congr 1
 unfold upP aQ
 congr 1
 refine aGs fun u hu=>?_
 have:=ho u hu
 rw[Bool.eq_iff_iff,decide_eq_true_iff,decide_eq_true_iff]
 unfold xF
 simp only[List.mem_map,List.mem_filter,decide_eq_true_eq]
 constructor
 · rintro⟨p,⟨h1,_⟩,rfl⟩;exact⟨p,h1,rfl⟩
 · rintro⟨p,h1,rfl⟩;exact⟨p,⟨h1,by omega⟩,rfl⟩
theorem aEq (c:Conditional)(v:Int)(h:c.fParents.length<=4294967296):qR c v=some (decide (v∈xF c)):=by
 have main:∀ m k:Nat,m+k=c.fParents.length->lp (gN c v) (k:Int)=some (if v∈(c.fParents.drop k).map (·.fNode)then .inr true else .inl ()):=by
  intro m
  induction m with
  | zero =>
   intro k hk
   have:k=c.fParents.length:=by omega
   subst this
   rw[aL (r:=.inl ()) (by unfold gN;rw[if_neg (by omega)]),List.drop_length];simp
  | succ m ih =>
   intro k hk
   have hlt:k<c.fParents.length:=by omega
   rw[List.drop_eq_getElem_cons hlt,List.map_cons]
   by_cases d:(c.fParents[k]).fNode=v
   · rw[aL (r:=.inr true) (by unfold gN;rw[if_pos (by omega),aK hlt];simp[d]),if_pos (by simp[d])]
   · have e:gN c v (k:Int)=some (.inl ((k+1:Nat):Int)):=by
      unfold gN;rw[if_pos (by omega),aK hlt];simp only[Option.bind_some,wi1 (by omega:k<=4294967296)];rw[if_neg d]
     rw[aS e,ih (k+1) (by omega)]
     have:(v∈(c.fParents[k]).fNode::(c.fParents.drop (k+1)).map (·.fNode))↔v∈(c.fParents.drop (k+1)).map (·.fNode):=by
      rw[List.mem_cons];exact⟨fun h=>h.resolve_left (fun e=>d e.symm),.inr⟩
     simp only[this]
 have:=main c.fParents.length 0 (by omega)
 rw[show((0:Nat):Int)=0 from rfl,List.drop_zero]at this
 unfold qR xF
 rw[this]
 by_cases d:v∈c.fParents.map (·.fNode)
 · rw[if_pos d,decide_eq_true d];rfl
 · rw[if_neg d,decide_eq_false d];rfl
theorem aRj (order:List Int)(v:Int)(own:List Link)(r:Conditional×List Link×Rat×Bool)(e:Rat)(hl:order.length<=4294967296)(hc:r.1.fParents.length<=4294967296):lp (fJ order v own r e) 0=some (TreeNode.mk v (upP order r.1) own r.1 r.2.1 e):=by
 have main:∀ m k:Nat,m+k=order.length->lp (fJ order v own r e) (k:Int)=some (TreeNode.mk v (aQ (order.drop k) (xF r.1)) own r.1 r.2.1 e):=by
  intro m
  induction m with
  | zero =>
   intro k hk
   have:k=order.length:=by omega
   subst this
   rw[aL (by unfold fJ;rw[if_neg (by omega)]),List.drop_length];rfl
  | succ m ih =>
   intro k hk
   have hlt:k<order.length:=by omega
   rw[List.drop_eq_getElem_cons hlt]
   unfold aQ
   rw[List.find?_cons]
   by_cases d:order[k]∈xF r.1
   · rw[aL (r:=TreeNode.mk v order[k] own r.1 r.2.1 e) (by unfold fJ;rw[if_pos (by omega),aK hlt];simp only[Option.bind_some,aEq _ _ hc,decide_eq_true d,if_true])]
     simp[d]
   · have e:fJ order v own r e (k:Int)=some (.inl ((k+1:Nat):Int)):=by
      unfold fJ;rw[if_pos (by omega),aK hlt];simp only[Option.bind_some,aEq _ _ hc,wi1 (by omega:k<=4294967296),decide_eq_false d,Bool.false_eq_true,if_false]
     rw[aS e,ih (k+1) (by omega)]
     simp only[d,decide_false]
     rfl
 have:=main order.length 0 (by omega)
 rw[show((0:Nat):Int)=0 from rfl,List.drop_zero]at this
 exact this
def xG (v:Int)(b:List TreeNode):List Link:=(b.filter (fun n=>decide (n.fUp=v))).flatMap (·.fMessages)
theorem aJx (v:Int):∀ (b:List TreeNode) (t:List Link),b.foldl (fun t n=>if n.fUp=v then t++n.fMessages else t) t=t++xG v b
 | [],t=>by simp[xG]
 | n::b,t=>by
  rw[List.foldl_cons,aJx v b]
  unfold xG
  rw[List.filter_cons]
  by_cases c:n.fUp=v <;> simp[c]
theorem aLH {v:Int}:∀ {b:List TreeNode},(∀ n∈b,LSet n.fMessages)->(xG v b).length<=100*b.length
 | [],_=>by simp[xG]
 | n::b,h=>by
  have:=aLH (v:=v) (b:=b) (fun m hm=>h m (by simp[hm]))
  have h1:=(h n (by simp)).len
  unfold xG at this ⊢
  rw[List.filter_cons,List.length_cons]
  split
  · rw[List.flatMap_cons,List.length_append];omega
  · omega
theorem aMy {v:Int}{b:List TreeNode}(h:∀ n∈b,LSet n.fMessages):∀ x∈xG v b,ValidL x:=by
 intro x hx
 unfold xG at hx
 obtain⟨n,hn,hx⟩:=List.mem_flatMap.1 hx
 exact(h n (List.mem_filter.1 hn).1).1 x hx
theorem aP4 {step:(Int×List Link)->Option ((Int×List Link) ⊕ List Link)}(v:Int)(b:List TreeNode)(own:List Link)(ho:own.length<=4294967296)(hb:b.length<=4194304)(h:∀ n∈b,LSet n.fMessages)
 (hstep:step=fun s=>match s with | (v6,v7)=>(if(v6<(b.length:Int))then(idx b v6).bind fun y8=>(if(y8.fUp=v)then(chk ((v7.length+y8.fMessages.length)*184<=140737488355328)).bind fun _u=>(bE (v7++y8.fMessages)).bind fun v10=>some (.inl (i64.wrap (v6+1),v10))else some (.inl (i64.wrap (v6+1),v7)))else some (.inr v7))):lp step (0,own)=some (own++xG v b):=by
 subst hstep
 have:=(gY (step:=fun s=>match s with | (v6,v7)=>(if(v6<(b.length:Int))then(idx b v6).bind fun y8=>(if(y8.fUp=v)then(chk ((v7.length+y8.fMessages.length)*184<=140737488355328)).bind fun _u=>(bE (v7++y8.fMessages)).bind fun v10=>some (.inl (i64.wrap (v6+1),v10))else some (.inl (i64.wrap (v6+1),v7)))else some (.inr v7))) b (fun k t=>((k:Int),t)) (fun t n=>if n.fUp=v then t++n.fMessages else t) (fun t=>t) (fun k t=>t.length<=4294967296+100*k) (fun k t hk hi=>by
  have hm:=(h _ (List.getElem_mem hk)).len
  constructor
  · simp only[]
    rw[if_pos (by omega),aK hk]
    simp only[Option.bind_some,wi1 (by omega:k<=4294967296)]
    by_cases c:(b[k]).fUp=v
    · rw[if_pos c,if_pos c,aP (by omega)];rfl
    · rw[if_neg c,if_neg c]
  · split
    · rw[List.length_append];omega
    · omega) (fun t _=>by simp only[];rw[if_neg (by omega)]) own (by omega)).1
 rw[show((0:Nat):Int)=0 from rfl,aJx]at this
 exact this
def aRh:TreeNode:=TreeNode.mk 0 0 ([]) (Conditional.mk 0 (Rat.mk (BigInt.mk false ([])) ([])) ([])) ([]) (Rat.mk (BigInt.mk false ([])) ([]))
noncomputable def mO (order:List Int)(v:Int)(own:List Link)(b:List TreeNode):Option TreeNode :=
 (jnP (own++xG v b)).bind fun x=>(aBy v x.1).bind fun y=>if bO (RA x.2 y.2.2)then some ⟨v,upP order y.1,own,y.1,y.2.1,RA x.2 y.2.2⟩else none
def pkN:Option TreeNode->TreeNode×Bool
 | some n=>(n,true)
 | none=>(aRh,false)
theorem aPs {c:Conditional}(h:aT c<=20000):c.fParents.length<=20000:=by
 have:c.fParents.length<=nJ c.fParents:=eT _ _
 unfold aT at h;omega
theorem aC4 (a b:List Link):aG (a++b)=aG a+aG b:=by unfold aG szL;simp
theorem aNU {order:List Int}{v:Int}{own:List Link}{b:List TreeNode}(hl:order.length<=4194304)(ho:∀ u∈order,1<=u)(hz:aG own<=4194304)(hb:b.length<=100)(hm:∀ n∈b,LSet n.fMessages)(hv:∀ x∈own,ValidL x) :
 tP v own order b=some (pkN (mO order v own b))/\qS ⟨b⟩ order v own=some (pkN (mO order v own b)):=by
 have hol:own.length<=4194304:=Nat.le_trans (eT _ _) hz
 have q1:=aP4 (step:=xD v b) v b own (by omega) (by omega) hm rfl
 have q2:=aP4 (step:=uI ⟨b⟩ v) v b own (by omega) (by omega) hm rfl
 have hmv:=aMy (v:=v) hm
 have hml:=aLH (v:=v) hm
 have hall:∀ x∈own++xG v b,ValidL x:=fun x hx=>(List.mem_append.1 hx).elim (hv x) (hmv x)
 have hms:=aB4 hmv
 have hsz:aG (own++xG v b)<=4294967296:=by rw[aC4];omega
 have hln:(own++xG v b).length<=4294967296:=by rw[List.length_append];omega
 have j1:=(zT (own++xG v b) hsz).1
 have j2:=aBP hall hln
 unfold tP qS mO
 rw[aCx own (by omega)]
 simp only[Option.bind_some,List.nil_append,List.length_nil]
 rw[aP (by omega),q1]
 simp only[Option.bind_some,tH]
 rw[q2,j1]
 simp only[Option.bind_some,j2]
 cases h:jnP (own++xG v b)with
 | none =>
  simp only[pk,Option.bind_none,pkN]
  refine⟨?_,rfl⟩
  rw[(aFA aB3 v).1]
  have e0:bG (pkR (aBy v [])).2.2.1<=4294967296:=by
   cases h2:aBy v []with
   | none=>exact VZs aCv
   | some y=>exact VZs (.inl (aIq aB3 (c:=y.1) (m:=y.2.1) (e:=y.2.2) h2).2.2.1)
  simp only[Option.bind_some]
  rw[(aSc (VZs aCv) e0).1]
  rfl
 | some x =>
  obtain⟨s,e⟩:=x
  obtain⟨_,hs,he⟩:=aA2 h
  simp only[pk,Option.bind_some,if_true]
  rw[(aFA hs v).1,(aFA hs v).2]
  simp only[Option.bind_some]
  cases h2:aBy v s with
  | none =>
   simp only[pkR,Option.bind_none,pkN]
   rw[(aBn (.inl he) aCv).1,(aBn (.inl he) aCv).2.1]
   exact⟨rfl,rfl⟩
  | some y =>
   obtain⟨c,m,f⟩:=y
   obtain⟨k1,k2,k3,_⟩:=aIq hs h2
   have ra:=aBn (.inl he) (.inl k3)
   have hp:=aPs k1
   simp only[pkR,Option.bind_some,ra.1,ra.2.1,if_true]
   rw[eM _ (VZs ra.2.2),iK ra.2.2,aR3 ho (by omega) (by omega),aRj order v own (c,m,f,true) (RA e f) (by omega) (by show c.fParents.length<=_;omega)]
   simp only[Option.bind_some]
   by_cases g:bO (RA e f)
   · rw[decide_eq_true g,if_pos g];exact⟨rfl,rfl⟩
   · rw[decide_eq_false g,if_neg g];exact⟨rfl,rfl⟩
theorem aFP {order:List Int}{v:Int}{own:List Link}{b:List TreeNode}{n:TreeNode}(h:mO order v own b=some n):LSet n.fMessages/\n.fOwn=own/\aT n.fCond<=20000/\bO n.fEnergy/\n.fNode=v/\n.fUp=upP order n.fCond:=by
 unfold mO at h
 cases h1:jnP (own++xG v b)with
 | none=>rw[h1]at h;cases h
 | some x =>
  rw[h1,Option.bind_some]at h
  cases h2:aBy v x.1 with
  | none=>rw[h2]at h;cases h
  | some y =>
   rw[h2,Option.bind_some]at h
   obtain⟨_,hs,he⟩:=aA2 (s:=x.1) (e:=x.2) h1
   obtain⟨k1,k2,k3,_⟩:=aIq hs (c:=y.1) (m:=y.2.1) (e:=y.2.2) h2
   split at h
   · rename_i g;cases h;exact⟨k2,rfl,k1,g,rfl,rfl⟩
   · cases h
end Go.Ev
/- The nodes of a link set, orders of elimination, whose a link is, both programs. -/
namespace Go.Ev
set_option linter.all false
def aEB:List Int:=(List.range 9).map (fun k:Nat=>(k:Int)+1)
theorem aNX {x:Int}:x∈aEB↔1<=x/\x<=9:=by
 unfold aEB
 simp only[List.mem_map,List.mem_range]
 constructor
 · rintro⟨k,h,rfl⟩;omega
 · intro h;exact⟨(x-1).toNat,by omega,by omega⟩
theorem aFS:aEB.length=9:=by decide
theorem aNY (k:Nat)(h:k<aEB.length):aEB[k]=(k:Int)+1:=by simp[aEB]
def dS (s:List Link):List Int:=aEB.filter (fun v=>s.any (tch v))
theorem aAT (s:List Link):(dS s).Pairwise (· < ·):=by
 have:aEB.Pairwise (· < ·):=by decide
 exact this.sublist List.filter_sublist
theorem yG (s:List Link):(dS s).length<=9:=by
 have:=List.length_filter_le (fun v=>s.any (tch v)) aEB
 rw[aFS]at this;exact this
theorem aAS {s:List Link}{x:Int}:x∈dS s↔(1<=x/\x<=9)/\∃ l∈s,l.fA=x\/l.fB=x:=by
 unfold dS
 rw[List.mem_filter,aNX,List.any_eq_true]
 simp only[tch,decide_eq_true_eq]
def aG1 (t:List Int)(l:Link):List Int:=aBj (if 0<l.fA then aBj t l.fA else t) l.fB
theorem aJl {t:List Int}(l:Link)(h:t.Pairwise (· < ·)):(aG1 t l).Pairwise (· < ·):=by
 unfold aG1;split
 · exact wN _ _ (wN _ _ h)
 · exact wN _ _ h
theorem aNE {t:List Int}{l:Link}{x:Int}:x∈aG1 t l↔x=l.fB\/(x=l.fA/\0<x)\/x∈t:=by
 unfold aG1;split
 · rw[aAl,aAl]
   constructor
   · rintro(h | h | h)
     · exact .inl h
     · exact .inr (.inl ⟨h,by omega⟩)
     · exact .inr (.inr h)
   · rintro(h | ⟨h,_⟩ | h)
     · exact .inl h
     · exact .inr (.inl h)
     · exact .inr (.inr h)
 · rw[aAl]
   constructor
   · rintro(h | h)
     · exact .inl h
     · exact .inr (.inr h)
   · rintro(h | ⟨h,_⟩ | h)
     · exact .inl h
     · omega
     · exact .inr h
theorem aNF (t:List Int)(l:Link):(aG1 t l).length<=t.length+2:=by
 unfold aG1;split
 · have:=aAm (aBj t l.fA) l.fB;have:=aAm t l.fA;omega
 · have:=aAm t l.fB;omega
theorem aHR:∀ (s:List Link) (t:List Int) (x:Int),x∈s.foldl aG1 t↔x∈t\/∃ l∈s,x=l.fB\/(x=l.fA/\0<x)
 | [],t,x=>by simp
 | l::s,t,x=>by
  rw[List.foldl_cons,aHR s,aNE]
  simp only[List.mem_cons,exists_eq_or_imp]
  constructor
  · rintro((h | h | h) | h)
    · exact .inr (.inl (.inl h))
    · exact .inr (.inl (.inr h))
    · exact .inl h
    · exact .inr (.inr h)
  · rintro(h | (h | h) | h)
    · exact .inl (.inr (.inr h))
    · exact .inl (.inl h)
    · exact .inl (.inr (.inl h))
    · exact .inr h
theorem aDA:∀ (s:List Link) (t:List Int),t.Pairwise (· < ·)->(s.foldl aG1 t).Pairwise (· < ·)
 | [],t,h=>h
 | l::s,t,h=>aDA s _ (aJl l h)
theorem aH4 {s:List Link}(hs:LSet s):qY s=some (dS s):=by
 have hl:=hs.len
 have:=(gY (step:=oL s) s (fun k t=>(t,(k:Int))) aG1 (fun t=>t) (fun k t=>t.length<=2*k) (fun k t hk hi=>by
  constructor
  · unfold oL
    simp only[]
    rw[if_pos (by omega),aK hk]
    simp only[Option.bind_some,wi1 (by omega:k<=4294967296)]
    unfold aG1
    by_cases c:0<(s[k]).fA
    · rw[if_pos c,if_pos c,aJk _ _ (by omega)]
      simp only[Option.bind_some]
      rw[aJk _ _ (by have:=aAm t (s[k]).fA;omega)];rfl
    · rw[if_neg c,if_neg c]
      simp only[Option.bind_some]
      rw[aJk _ _ (by omega)];rfl
  · have:=aNF t s[k];omega) (fun t _=>by unfold oL;simp only[];rw[if_neg (by omega)]) [] (Nat.zero_le _)).1
 rw[show((0:Nat):Int)=0 from rfl]at this
 unfold qY
 rw[lV s (by have:=hs.sz;omega),decide_eq_true hs]
 simp only[Option.bind_some,if_true,this]
 congr 1
 refine aAJ (aDA _ _ List.Pairwise.nil) (aAT s) fun x=>?_
 rw[aHR,aAS]
 constructor
 · rintro(h | ⟨l,hl,h⟩)
   · cases h
   · have v:=hs.1 l hl
     rcases h with rfl | ⟨rfl,h0⟩
     · exact⟨⟨by have:=v.2.2.1;have:=v.1.1;omega,v.2.1.2⟩,l,hl,.inr rfl⟩
     · exact⟨⟨by omega,v.1.2⟩,l,hl,.inl rfl⟩
 · rintro⟨h1,l,hl,h⟩
   refine .inr ⟨l,hl,?_⟩
   rcases h with h | h
   · exact .inr ⟨h.symm,by omega⟩
   · exact .inl h.symm
theorem aKL {s:List Link}(hs:s.length<=4294967296)(v:Int)(t:List Int)(ht:t.length<=1000):lp (gR s v t) 0=some (if s.any (tch v)=true then t++[v]else t):=by
 have main:∀ m k:Nat,m+k=s.length->lp (gR s v t) (k:Int)=some (if(s.drop k).any (tch v)=true then t++[v]else t):=by
  intro m
  induction m with
  | zero =>
   intro k hk
   have:k=s.length:=by omega
   subst this
   rw[aL (r:=t) (by unfold gR;rw[if_neg (by omega)]),List.drop_length];rfl
  | succ m ih =>
   intro k hk
   have hlt:k<s.length:=by omega
   have e0:((if(s[k]).fA=v then some true else some (decide ((s[k]).fB=v))):Option Bool)=some (tch v s[k]):=by
    unfold tch;by_cases A:(s[k]).fA=v <;> by_cases B:(s[k]).fB=v <;> simp[A,B]
   rw[List.drop_eq_getElem_cons hlt,List.any_cons]
   by_cases c:tch v s[k]=true
   · rw[aL (r:=t++[v]) (by unfold gR;rw[if_pos (by omega),aK hlt];simp only[Option.bind_some,e0,c,if_true];rw[aP (by omega)];rfl)]
     simp[c]
   · have e:gR s v t (k:Int)=some (.inl ((k+1:Nat):Int)):=by
      unfold gR;rw[if_pos (by omega),aK hlt];simp only[Option.bind_some,e0,wi1 (by omega:k<=4294967296)];rw[if_neg c]
     rw[aS e,ih (k+1) (by omega)]
     simp only[Bool.not_eq_true]at c
     simp[c]
 have:=main s.length 0 (by omega)
 rw[show((0:Nat):Int)=0 from rfl,List.drop_zero]at this
 exact this
theorem aHF {s:List Link}(hs:s.length<=4294967296):rK s=some (dS s):=by
 have:=(gY (step:=oW s) aEB (fun k t=>((k:Int)+1,t)) (fun t v=>if(fun v=>s.any (tch v)) v=true then t++[v]else t) (fun t=>t) (fun k t=>t.length<=k) (fun k t hk hi=>by
  have hk9:k<9:=by rw[aFS]at hk;exact hk
  constructor
  · unfold oW
    simp only[]
    rw[if_pos (by omega),aKL hs _ _ (by omega),aNY]
    have w:IntKind.i64.wrap ((k:Int)+1+1)=((k+1:Nat):Int)+1:=by rw[wi (by omega)];omega
    simp only[Option.bind_some,w]
  · simp only[];split
    · rw[List.length_append,List.length_singleton];omega
    · omega) (fun t _=>by unfold oW;simp only[];rw[aFS,if_neg (by omega)]) [] (Nat.zero_le _)).1
 rw[show((0:Nat):Int)+1=1 from rfl,xW,List.nil_append]at this
 unfold rK
 rw[this];rfl
def isOrd (s:List Link)(o:List Int):Prop:=o.Nodup/\(∀ y∈o,y∈dS s)/\o.length=(dS s).length
instance (s:List Link)(o:List Int):Decidable (isOrd s o):=by unfold isOrd;exact inferInstance
theorem aKH:∀ {a b:List Int},a.Nodup->(∀ x∈a,x∈b)->b.length<=a.length->b.Perm a
 | [],b,_,_,h=>by
  have:b=[]:=List.eq_nil_of_length_eq_zero (by simpa using h)
  rw[this]
 | x::a,b,hn,hs,h=>by
  rw[List.nodup_cons]at hn
  have hx:=hs x (by simp)
  have p:=List.perm_cons_erase hx
  have hl:=p.length_eq
  rw[List.length_cons]at hl h
  refine p.trans (List.Perm.cons x (aKH hn.2 (fun y hy=>?_) (by omega)))
  have:y≠x:=fun e=>hn.1 (e▸hy)
  exact(List.mem_erase_of_ne this).2 (hs y (by simp[hy]))
theorem aMC {l:List Int}(h:l.Pairwise (· < ·)):l.Nodup:=h.imp (fun {a b} hab e=>by subst e;omega)
theorem aHO (s:List Link)(o:List Int):isOrd s o↔(∀ v∈dS s,v∈o)/\o.length=(dS s).length:=by
 have hn:=aMC (aAT s)
 constructor
 · rintro⟨h1,h2,h3⟩
   have p:=aKH h1 h2 (by omega)
   exact⟨fun v hv=>p.mem_iff.1 hv,h3⟩
 · rintro⟨h1,h2⟩
   have p:=aKH hn h1 (by omega)
   exact⟨p.nodup_iff.2 hn,fun y hy=>p.mem_iff.1 hy,h2⟩
theorem aAy {s:List Link}{o:List Int}(h:isOrd s o):o.length<=9/\(∀ u∈o,1<=u):=by
 have:=yG s
 exact⟨by rw[h.2.2];exact this,fun u hu=>(aAS.1 (h.2.1 u hu)).1.1⟩
theorem aGu {σ:Type}{step:σ->Option (σ ⊕ (Unit ⊕ Bool))}(n:Nat)(E:Nat->σ)(G:Nat->Prop)(h1:∀ k:Nat,k<n->(G k/\step (E k)=some (.inl (E (k+1))))\/(¬G k/\step (E k)=some (.inr (.inr false))))(h2:step (E n)=some (.inr (.inl ()))) :
 (lp step (E 0)=some (.inl ())/\∀ k,k<n->G k)\/(lp step (E 0)=some (.inr false)/\∃ k,k<n/\¬G k):=by
 have main:∀ m k:Nat,m+k=n->(lp step (E k)=some (.inl ())/\∀ j,k<=j->j<n->G j)\/(lp step (E k)=some (.inr false)/\∃ j,j<n/\¬G j):=by
  intro m
  induction m with
  | zero =>
   intro k hk
   have:k=n:=by omega
   subst this
   exact .inl ⟨aL h2,fun j _ _=>by omega⟩
  | succ m ih =>
   intro k hk
   rcases h1 k (by omega)with⟨g,e⟩ | ⟨g,e⟩
   · rw[aS e]
     rcases ih (k+1) (by omega)with⟨a,b⟩ | ⟨a,b⟩
     · refine .inl ⟨a,fun j h1 h2=>?_⟩
       by_cases e:j=k
       · subst e;exact g
       · exact b j (by omega) h2
     · exact .inr ⟨a,b⟩
   · exact .inr ⟨aL e,k,by omega,g⟩
 rcases main n 0 (by omega)with⟨a,b⟩ | ⟨a,b⟩
 · exact .inl ⟨a,fun j h=>b j (Nat.zero_le _) h⟩
 · exact .inr ⟨a,b⟩
theorem aAQ {l:List Int}:l.Nodup↔∀ k (h:k<l.length),l[k]∉l.take k:=by
 unfold List.Nodup
 rw[List.pairwise_iff_getElem]
 constructor
 · intro h k hk hm
   obtain⟨j,hj,e⟩:=List.mem_iff_getElem.1 hm
   rw[List.length_take]at hj
   rw[List.getElem_take]at e
   exact h j k (by omega) hk (by omega) e
 · intro h i j hi hj hij e
   refine h j hj ?_
   rw[<- e]
   exact List.mem_iff_getElem.2 ⟨i,by rw[List.length_take];omega,by rw[List.getElem_take]⟩
theorem aLo {s:List Link}(hs:LSet s)(o:List Int)(ho:o.length<=4194304):tV s o=some (decide (isOrd s o)):=by
 have hn:=yG s
 unfold tV
 rw[aH4 hs]
 simp only[Option.bind_some]
 have L:=aGu (step:=oN o (dS s)) o.length (fun k=>((k:Int),o.take k)) (fun k=>∀ h:k<o.length,o[k]∈dS s/\o[k]∉o.take k) (fun k hk=>by
  have tl:(o.take k).length<=k:=by rw[List.length_take];omega
  have tk:o.take (k+1)=o.take k++[o[k]]:=by rw[List.take_add_one,List.getElem?_eq_getElem hk];rfl
  unfold oN
  simp only[]
  rw[if_pos (by omega),aK hk]
  simp only[Option.bind_some,aDw (dS s) _ (by omega),aDw (o.take k) _ (by omega),wi1 (by omega:k<=4294967296)]
  by_cases A:o[k]∈dS s
  · by_cases B:o[k]∈o.take k
    · right
      refine⟨fun h=>(h hk).2 B,?_⟩
      rw[decide_eq_true A,decide_eq_true B];rfl
    · left
      refine⟨fun h=>⟨A,B⟩,?_⟩
      rw[decide_eq_true A,decide_eq_false B]
      simp only[if_true,Option.bind_some,Bool.false_eq_true,if_false]
      rw[aP (by omega),tk];rfl
  · right
    refine⟨fun h=>A (h hk).1,?_⟩
    rw[decide_eq_false A];rfl) (by unfold oN;simp only[];rw[if_neg (by omega)])
 simp only[List.take_zero]at L
 rw[show((0:Nat):Int)=0 from rfl]at L
 rcases L with⟨e,g⟩ | ⟨e,k,hk,g⟩
 · rw[e]
   simp only[Option.bind_some]
   rw[lV s (by have:=hs.sz;omega),decide_eq_true hs]
   simp only[Option.bind_some,if_true]
   congr 1
   rw[Bool.eq_iff_iff,decide_eq_true_iff,decide_eq_true_iff]
   constructor
   · intro h
     refine⟨aAQ.2 (fun k hk=>(g k hk hk).2),fun y hy=>?_,by omega⟩
     obtain⟨j,hj,rfl⟩:=List.mem_iff_getElem.1 hy
     exact(g j hj hj).1
   · intro h;rw[h.2.2]
 · rw[e]
   have:¬isOrd s o:=fun h=>g (fun hk=>⟨h.2.1 _ (List.getElem_mem hk),aAQ.1 h.1 k hk⟩)
   rw[decide_eq_false this];rfl
theorem aI1 (s:List Link)(h:aG s<=4294967296):nD s=some (decide (LSet s)):=by
 rw[<- lV s h]
 unfold nD dR
 have:lp (pS s) 0=lp (fE s) 0:=by
  refine aOc (fun _=>True) (fun v _=>⟨?_,fun _ _=>trivial⟩) _ trivial
  unfold pS fE
  cases e:idx s v with
  | none=>rfl
  | some y =>
   have hy:y∈s:=List.mem_of_getElem? (aGn e).2.1
   have hz:=mG (w:=bL) hy
   unfold aG at h
   have q:=gH y (by omega)
   simp only[Option.bind_some,q.1,q.2,aKm,aGS]
 rw[this]
theorem aLp {s:List Link}(hs:LSet s)(o:List Int)(ho:o.length<=4194304):uL s o=some (decide (isOrd s o)):=by
 have hn:=yG s
 unfold uL
 have il:nD s=some true:=by rw[aI1 s (by have:=hs.sz;omega),decide_eq_true hs]
 rw[il,aHF (by have:=hs.len;omega)]
 simp only[Option.bind_some,if_true]
 have L:=aGu (step:=pB o (dS s)) (dS s).length (fun k=>(k:Int)) (fun k=>∀ h:k<(dS s).length,(dS s)[k]∈o) (fun k hk=>by
  unfold pB
  rw[if_pos (by omega),aK hk]
  simp only[Option.bind_some,wU o _ (by omega),wi1 (by omega:k<=4294967296)]
  by_cases A:(dS s)[k]∈o
  · exact .inl ⟨fun _=>A,by rw[decide_eq_true A];rfl⟩
  · exact .inr ⟨fun h=>A (h hk),by rw[decide_eq_false A];rfl⟩) (by unfold pB;rw[if_neg (by omega)])
 rw[show((0:Nat):Int)=0 from rfl]at L
 rcases L with⟨e,g⟩ | ⟨e,k,hk,g⟩
 · rw[e]
   simp only[Option.bind_some]
   congr 1
   rw[Bool.eq_iff_iff,decide_eq_true_iff,decide_eq_true_iff,aHO]
   constructor
   · intro h
     refine⟨fun v hv=>?_,by omega⟩
     obtain⟨j,hj,rfl⟩:=List.mem_iff_getElem.1 hv
     exact g j hj hj
   · intro h;rw[h.2]
 · rw[e]
   have:¬isOrd s o:=fun h=>g (fun hk=>((aHO s o).1 h).1 _ (List.getElem_mem hk))
   rw[decide_eq_false this];rfl
def mA (o:List Int)(v:Int)(l:Link):Bool:=decide (aQ o [l.fA,l.fB]=v)
theorem aPt (o:List Int)(l:Link)(h:o.length<=4294967296):rV o l=some (aQ o [l.fA,l.fB]):=by
 unfold rV
 rw[aL0 _ _ h (by simp)];rfl
theorem vK {o s:List Int}{v:Int}(h:aQ o s=v)(hv:v≠0):v∈s/\v∈o:=by
 unfold aQ at h
 cases e:o.find? (fun u=>decide (u∈s))with
 | none=>rw[e]at h;exact absurd h.symm hv
 | some x =>
  rw[e]at h
  simp only[Option.getD_some]at h
  subst h
  exact⟨by simpa using List.find?_some e,List.mem_of_find?_eq_some e⟩
theorem aCZ {o s:List Int}{k:Nat}(hk:k<o.length)(hn:o.Nodup)(h1:∀ u∈o,1<=u):aQ o s=o[k]↔o[k]∈s/\∀ u∈o.take k,u∉s:=by
 have ef:o.find? (fun u=>decide (u∈s))=((o.take k).find? (fun u=>decide (u∈s))).or ((o[k]::o.drop (k+1)).find? (fun u=>decide (u∈s))):=by
  rw[<- List.find?_append,<- List.drop_eq_getElem_cons hk,List.take_append_drop]
 have hnt:=aAQ.1 hn k hk
 constructor
 · intro h
   have hp:=h1 _ (List.getElem_mem hk)
   refine⟨(vK h (by omega)).1,fun u hu hus=>?_⟩
   unfold aQ at h
   rw[ef]at h
   cases f:(o.take k).find? (fun u=>decide (u∈s))with
   | none =>
    rw[List.find?_eq_none]at f
    exact f u hu (by simpa using hus)
   | some x =>
    have hx:=List.mem_of_find?_eq_some f
    rw[f]at h
    simp only[Option.some_or,Option.getD_some]at h
    rw[h]at hx
    exact hnt hx
 · rintro⟨a,b⟩
   unfold aQ
   rw[ef]
   have:(o.take k).find? (fun u=>decide (u∈s))=none:=by
    rw[List.find?_eq_none];intro u hu;simpa using b u hu
   rw[this,Option.none_or,List.find?_cons]
   simp[a]
end Go.Ev
/- Building a tree, both programs, and the law. -/
namespace Go.Ev
set_option linter.all false
theorem uH (c:Conditional)(h:aT c<=4294967296):gC c=some c:=by
 have hp:=eT jJ c.fParents
 unfold aT nJ at h
 unfold gC
 rw[iU _ (by omega)]
 simp only[Option.bind_some]
 have:=aAv (step:=gB c) c.fParents (fun k t=>((k:Int),t)) (fun t=>t) (fun k t hk ht=>by
  have he:=mG (w:=jJ) (List.getElem_mem hk)
  have hn:jJ c.fParents[k]=bG (c.fParents[k]).fShare+bG (c.fParents[k]).fDX+bG (c.fParents[k]).fDY:=rfl
  unfold gB
  simp only[]
  rw[if_pos (by omega),aK hk]
  simp only[Option.bind_some]
  rw[iU _ (by omega)]
  simp only[Option.bind_some]
  rw[iU _ (by omega)]
  simp only[Option.bind_some]
  rw[iU _ (by omega)]
  simp only[Option.bind_some]
  rw[aP (by omega),wi (by omega)];rfl) (fun t ht=>by unfold gB;simp only[];rw[if_neg (by omega)])
 rw[show((0:Nat):Int)=0 from rfl]at this
 rw[this];rfl
theorem aMo (s:List Link)(o:List Int)(v:Int)(hs:s.length<=4194304)(ho:o.length<=4194304):lp (jB s o v) (0,[])=some (s.filter (mA o v)):=by
 have:=(gY (step:=jB s o v) s (fun k t=>((k:Int),t)) (fun t x=>if mA o v x=true then t++[x]else t) (fun t=>t) (fun k t=>t.length<=k) (fun k t hk hi=>by
  constructor
  · unfold jB
    simp only[]
    rw[if_pos (by omega),aK hk]
    simp only[Option.bind_some,aPt o _ (by omega:o.length<=4294967296),wi1 (by omega:k<=4294967296)]
    by_cases c:aQ o [(s[k]).fA,(s[k]).fB]=v
    · rw[if_pos c,if_pos (by unfold mA;simpa using c),aP (by omega)];rfl
    · rw[if_neg c,if_neg (by unfold mA;simpa using c)]
  · split
    · rw[List.length_append,List.length_singleton];omega
    · omega) (fun t _=>by unfold jB;simp only[];rw[if_neg (by omega)]) [] (Nat.zero_le _)).1
 rw[show((0:Nat):Int)=0 from rfl,xW,List.nil_append]at this
 exact this
theorem aNi (o:List Int)(k:Nat)(hk:k<=o.length):sub o 0 (k:Int)=some (o.take k):=by
 rw[pQ _ _ _ (by omega)];simp
theorem aNL (o:List Int)(hn:o.Nodup)(h1:∀ u∈o,1<=u)(ho:o.length<=4194304)(k:Nat)(hk:k<o.length)(l:Link)(hl:l.fA<l.fB) :
 ((if l.fA=o[k]then(sub o 0 (k:Int)).bind fun y57=>(dX y57 l.fB).bind fun r58=>(if r58=true then(if l.fB=o[k]then(sub o 0 (k:Int)).bind fun y59=>(dX y59 l.fA).bind fun r60=>some (!r60)else some false)else some true)else(if l.fB=o[k]then(sub o 0 (k:Int)).bind fun y61=>(dX y61 l.fA).bind fun r62=>some (!r62)else some false)):Option Bool)=some (mA o o[k] l):=by
 have tl:(o.take k).length<=4294967296:=by rw[List.length_take];omega
 have hnt:=aAQ.1 hn k hk
 have ft:=aCZ (s:=[l.fA,l.fB]) hk hn h1
 rw[aNi o k (by omega)]
 simp only[Option.bind_some,wU _ _ tl]
 unfold mA
 by_cases A:l.fA=o[k]
 · have B:¬l.fB=o[k]:=by omega
   rw[if_pos A,if_neg B]
   by_cases C:l.fB∈o.take k
   · rw[decide_eq_true C,if_pos rfl]
     have:¬aQ o [l.fA,l.fB]=o[k]:=fun h=>(ft.1 h).2 _ C (by simp)
     rw[decide_eq_false this]
   · rw[decide_eq_false C]
     have:aQ o [l.fA,l.fB]=o[k]:=ft.2 ⟨by simp[A],fun u hu hs=>by
      rcases List.mem_cons.1 hs with rfl | hs
      · exact hnt (A▸hu)
      · rw[List.mem_singleton.1 hs]at hu;exact C hu⟩
     rw[decide_eq_true this];rfl
 · rw[if_neg A]
   by_cases B:l.fB=o[k]
   · rw[if_pos B]
     by_cases C:l.fA∈o.take k
     · have:¬aQ o [l.fA,l.fB]=o[k]:=fun h=>(ft.1 h).2 _ C (by simp)
       rw[decide_eq_true C,decide_eq_false this];rfl
     · have:aQ o [l.fA,l.fB]=o[k]:=ft.2 ⟨by simp[B],fun u hu hs=>by
        rcases List.mem_cons.1 hs with rfl | hs
        · exact C hu
        · rw[List.mem_singleton.1 hs]at hu;exact hnt (B▸hu)⟩
       rw[decide_eq_false C,decide_eq_true this];rfl
   · rw[if_neg B]
     have:¬aQ o [l.fA,l.fB]=o[k]:=fun h=>by
      have:=(ft.1 h).1
      simp only[List.mem_cons,List.not_mem_nil,or_false]at this
      rcases this with e | e
      · exact A e.symm
      · exact B e.symm
     rw[decide_eq_false this]
theorem aMp (s:List Link)(o:List Int)(hs:s.length<=4194304)(ho:o.length<=4194304)(hv:∀ x∈s,ValidL x)(hn:o.Nodup)(h1:∀ u∈o,1<=u)(i:Nat)(hi:i<o.length):lp (jF s o o[i] (i:Int)) (0,[])=some (s.filter (mA o o[i])):=by
 have:=(gY (step:=jF s o o[i] (i:Int)) s (fun k t=>((k:Int),t)) (fun t x=>if mA o o[i] x=true then t++[x]else t) (fun t=>t) (fun k t=>t.length<=k) (fun k t hk hj=>by
  constructor
  · unfold jF
    simp only[]
    rw[if_pos (by omega),aK hk]
    have oc:=aNL o hn h1 ho i hi s[k] (hv _ (List.getElem_mem hk)).2.2.1
    simp only[Option.bind_some,wi1 (by omega:k<=4294967296)]
    rw[oc]
    simp only[Option.bind_some]
    by_cases c:mA o o[i] s[k]=true
    · rw[if_pos c,if_pos c,aP (by omega)];rfl
    · rw[if_neg c,if_neg c]
  · split
    · rw[List.length_append,List.length_singleton];omega
    · omega) (fun t _=>by unfold jF;simp only[];rw[if_neg (by omega)]) [] (Nat.zero_le _)).1
 rw[show((0:Nat):Int)=0 from rfl,xW,List.nil_append]at this
 exact this
noncomputable def oG (s:List Link)(o:List Int):List Int->List TreeNode->Option (List TreeNode)
 | [],b=>some b
 | v::r,b=>(mO o v (s.filter (mA o v)) b).bind fun n=>oG s o r (b++[n])
noncomputable def lA (s:List Link)(o:List Int):Option Tree :=
 (jnP s).bind fun x=>if isOrd x.1 o then(oG s o o []).map Tree.mk else none
def pkT:Option Tree->Tree×Bool
 | some t=>(t,true)
 | none=>(Tree.mk [],false)
def aQw:Option (List TreeNode)->(List TreeNode) ⊕ (Tree×Bool)
 | some b=>.inl b
 | none=>.inr (Tree.mk [],false)
def NodeOk (s:List Link)(o:List Int)(n:TreeNode):Prop:=LSet n.fMessages/\n.fOwn=s.filter (mA o n.fNode)/\aT n.fCond<=20000/\bO n.fEnergy/\n.fUp=upP o n.fCond
theorem aAI (p:Link->Bool):∀ s:List Link,aG (s.filter p)<=aG s
 | []=>Nat.le_refl _
 | x::s=>by
  have:=aAI p s
  unfold aG at this ⊢
  rw[List.filter_cons,lJ]
  split
  · rw[lJ];omega
  · omega
theorem aFQ {s:List Link}{o:List Int}{v:Int}{b:List TreeNode}{n:TreeNode}(h:mO o v (s.filter (mA o v)) b=some n):NodeOk s o n/\n.fNode=v:=by
 obtain⟨h1,h2,h3,h4,h5,h6⟩:=aFP h
 exact⟨⟨h1,by rw[h5];exact h2,h3,h4,h6⟩,h5⟩
theorem xZ {s:List Link}{o:List Int}:∀ (r:List Int) (b b':List TreeNode),(∀ n∈b,NodeOk s o n)->oG s o r b=some b'->(∀ n∈b',NodeOk s o n)/\b'.map (·.fNode)=b.map (·.fNode)++r
 | [],b,b',h,e=>by cases e;exact⟨h,by simp⟩
 | v::r,b,b',h,e=>by
  rw[oG]at e
  cases h1:mO o v (s.filter (mA o v)) b with
  | none=>rw[h1]at e;cases e
  | some n =>
   rw[h1,Option.bind_some]at e
   obtain⟨g1,g2⟩:=aFQ h1
   obtain⟨k1,k2⟩:=xZ r (b++[n]) b' (fun m hm=>by
    rcases List.mem_append.1 hm with hm | hm
    · exact h m hm
    · rw[List.mem_singleton.1 hm];exact g1) e
   exact⟨k1,by rw[k2,List.map_append,List.append_assoc];simp[g2]⟩
theorem aKo (s:List Link)(o:List Int)(hz:aG s<=4194304)(hv:∀ x∈s,ValidL x)(ho:o.length<=9)(h1:∀ u∈o,1<=u):∀ m k:Nat,m+k=o.length->∀ b:List TreeNode,b.length=k->(∀ n∈b,LSet n.fMessages)->lp (jA s o) ((k:Int),b)=some (aQw (oG s o (o.drop k) b)):=by
 have hl:s.length<=4194304:=Nat.le_trans (eT _ _) hz
 intro m
 induction m with
 | zero =>
  intro k hk b hb hm
  rw[List.drop_eq_nil_of_le (by omega)]
  exact aL (by unfold jA;simp only[];rw[if_neg (by omega)];rfl)
 | succ m ih =>
  intro k hk b hb hm
  have hlt:k<o.length:=by omega
  rw[List.drop_eq_getElem_cons hlt,oG]
  have nq:=(aNU (v:=o[k]) (own:=s.filter (mA o o[k])) (b:=b) (by omega:o.length<=4194304) h1 (Nat.le_trans (aAI _ s) hz) (by omega) hm (fun x hx=>hv x (List.mem_filter.1 hx).1)).1
  have st:jA s o ((k:Int),b)=some (match mO o o[k] (s.filter (mA o o[k])) b with | some n=>.inl (((k+1:Nat):Int),b++[n]) | none=>.inr (.inr (Tree.mk [],false))):=by
   unfold jA
   simp only[]
   rw[if_pos (by omega),aK hlt]
   simp only[Option.bind_some,aMo s o o[k] hl (by omega),nq,wi1 (by omega:k<=4294967296)]
   cases mO o o[k] (s.filter (mA o o[k])) b with
   | none=>rfl
   | some n=>simp only[pkN,if_true];rw[aP (by omega)];rfl
  cases h:mO o o[k] (s.filter (mA o o[k])) b with
  | none=>rw[h]at st;rw[aL st];rfl
  | some n =>
   rw[h]at st
   rw[aS st,Option.bind_some]
   exact ih (k+1) (by omega) _ (by simp[hb]) (fun x hx=>by
    rcases List.mem_append.1 hx with hx | hx
    · exact hm x hx
    · rw[List.mem_singleton.1 hx];exact(aFP h).1)
theorem aKp (s:List Link)(o:List Int)(hz:aG s<=4194304)(hv:∀ x∈s,ValidL x)(ho:o.length<=9)(hn:o.Nodup)(h1:∀ u∈o,1<=u):∀ m k:Nat,m+k=o.length->∀ b:List TreeNode,b.length=k->(∀ n∈b,LSet n.fMessages)->lp (jE s o) ((k:Int),b)=some (aQw (oG s o (o.drop k) b)):=by
 have hl:s.length<=4194304:=Nat.le_trans (eT _ _) hz
 intro m
 induction m with
 | zero =>
  intro k hk b hb hm
  rw[List.drop_eq_nil_of_le (by omega)]
  exact aL (by unfold jE;simp only[];rw[if_neg (by omega)];rfl)
 | succ m ih =>
  intro k hk b hb hm
  have hlt:k<o.length:=by omega
  rw[List.drop_eq_getElem_cons hlt,oG]
  have nq:=(aNU (v:=o[k]) (own:=s.filter (mA o o[k])) (b:=b) (by omega:o.length<=4194304) h1 (Nat.le_trans (aAI _ s) hz) (by omega) hm (fun x hx=>hv x (List.mem_filter.1 hx).1)).2
  have st:jE s o ((k:Int),b)=some (match mO o o[k] (s.filter (mA o o[k])) b with | some n=>.inl (((k+1:Nat):Int),b++[n]) | none=>.inr (.inr (Tree.mk [],false))):=by
   unfold jE
   simp only[]
   rw[if_pos (by omega),aK hlt]
   simp only[Option.bind_some,aMp s o hl (by omega) hv hn h1 k hlt,nq,wi1 (by omega:k<=4294967296)]
   cases mO o o[k] (s.filter (mA o o[k])) b with
   | none=>rfl
   | some n=>simp only[pkN,if_true];rw[aP (by omega)];rfl
  cases h:mO o o[k] (s.filter (mA o o[k])) b with
  | none=>rw[h]at st;rw[aL st];rfl
  | some n =>
   rw[h]at st
   rw[aS st,Option.bind_some]
   exact ih (k+1) (by omega) _ (by simp[hb]) (fun x hx=>by
    rcases List.mem_append.1 hx with hx | hx
    · exact hm x hx
    · rw[List.mem_singleton.1 hx];exact(aFP h).1)
theorem NodeOk.sz {s:List Link}{o:List Int}{n:TreeNode}(h:NodeOk s o n)(hz:aG s<=4194304):bK n<=4300000:=by
 have h1:=h.1.sz
 have h2:aG n.fOwn<=4194304:=by rw[h.2.1];exact Nat.le_trans (aAI _ s) hz
 have h3:=mF (.inl h.2.2.2.1)
 have h4:=h.2.2.1
 unfold bK;omega
theorem aK7 (n:TreeNode)(h:bK n<=4294967296):lR n=some n:=by
 unfold bK at h
 unfold lR
 rw[rL _ (by omega),uH _ (by omega)]
 simp only[Option.bind_some]
 rw[rL _ (by omega),iU _ (by omega)]
 rfl
theorem aK6 (t:Tree)(h:fO t<=4294967296):sK t=some t:=by
 unfold fO iE at h
 have hl:=eT bK t.fNodes
 unfold sK
 have:=aAv (step:=nA t) t.fNodes (fun k t=>((k:Int),t)) (fun t=>t) (fun k u hk hu=>by
  have he:=mG (w:=bK) (List.getElem_mem hk)
  unfold nA
  simp only[]
  rw[if_pos (by omega),aK hk]
  simp only[Option.bind_some]
  rw[aK7 _ (by omega)]
  simp only[Option.bind_some]
  rw[aP (by omega),wi1 (by omega)];rfl) (fun t ht=>by unfold nA;simp only[];rw[if_neg (by omega)])
 rw[show((0:Nat):Int)=0 from rfl]at this
 rw[this];rfl
theorem aPe {s:List Link}{o:List Int}{b:List TreeNode}(hz:aG s<=4194304)(ho:o.length<=9)(h:oG s o o []=some b):fO ⟨b⟩<=38700018:=by
 obtain⟨h1,h2⟩:=xZ o [] b (by simp) h
 have hl:b.length=o.length:=by have:=congrArg List.length h2;simpa using this
 have:iE b<=(4300000+1)*b.length:=aDP (fun n hn=>(h1 n hn).sz hz)
 unfold fO
 have:(4300000+1)*b.length<=4300001*9:=Nat.mul_le_mul (Nat.le_refl _) (by omega)
 simp only[]
 omega
theorem aE8 (s:List Link)(o:List Int)(hz:aG s<=4194304)(ho:o.length<=4194304):qF s o=some (pkT (lA s o))/\kW s o=some (pkT (lA s o)):=by
 obtain⟨j1,j2⟩:=zT s (by omega)
 unfold qF kW lA
 rw[j1,j2]
 cases h:jnP s with
 | none=>exact⟨rfl,rfl⟩
 | some x =>
  obtain⟨u,e⟩:=x
  obtain⟨hv,hs,he⟩:=aA2 h
  simp only[pk,Option.bind_some,if_true]
  rw[aLo hs o ho,aLp hs o ho]
  by_cases c:isOrd u o
  · obtain⟨l9,h1⟩:=aAy c
    have q1:=aKo s o hz hv l9 h1 o.length 0 (by omega) [] rfl (by simp)
    have q2:=aKp s o hz hv l9 c.1 h1 o.length 0 (by omega) [] rfl (by simp)
    rw[show((0:Nat):Int)=0 from rfl,List.drop_zero]at q1 q2
    rw[decide_eq_true c,if_pos c]
    simp only[Option.bind_some,Bool.not_true,Bool.false_eq_true,if_false,q1,q2]
    cases g:oG s o o []with
    | none=>exact⟨rfl,rfl⟩
    | some b =>
     simp only[aQw]
     rw[aK6 ⟨b⟩ (by have:=aPe hz l9 g;omega)]
     exact⟨rfl,rfl⟩
  · rw[decide_eq_false c,if_neg c]
    exact⟨rfl,rfl⟩
end Go.Ev
