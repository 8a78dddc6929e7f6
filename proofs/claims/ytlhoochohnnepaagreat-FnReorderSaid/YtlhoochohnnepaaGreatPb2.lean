/- Parts P20, PR2, PR3, PV, PR4, PR5, PR6, PR7, PR8, PR9. -/
import Derived.Test.YtlhoochohnnepaaGreatPb1
import Derived.Test.YtlhoochohnnepaaGreatPa1
set_option linter.all false
/- Copies of links; the links of a tree. -/
namespace Go.Ev
set_option linter.all false
theorem pW (x:Rat)(h:bE x<=4294967296):jQ x=some x:=by
 unfold bE uV xV at h
 rw[tI,tI]at h
 unfold jQ
 rw[aP (by simp;omega),aP (by simp;omega)]
 simp only[Option.bind_some,aK,List.nil_append]
theorem tO (x:Link)(h:bV x<=4294967296):lD x=some x:=by
 unfold bV at h
 unfold lD
 rw[pW _ (by omega)]
 simp only[Option.bind_some]
 rw[pW _ (by omega)]
 simp only[Option.bind_some]
 rw[pW _ (by omega)]
 simp only[Option.bind_some]
theorem aCp (l:List Link)(h:aL l<=4294967296):pU l=some l:=by
 unfold aL at h
 have hl:=iY bV l
 unfold pU
 have:=aAq (step:=pT l) l (fun k t=>((k:Int),t)) (fun t=>t) (fun k t hk ht=>by
  have he:=pL (w:=bV) (List.getElem_mem hk)
  unfold pT
  simp only[]
  rw[if_pos (by omega),aM hk]
  simp only[Option.bind_some]
  rw[tO _ (by omega)]
  simp only[Option.bind_some]
  rw[aP (by omega),wi (by omega)];rfl) (fun t ht=>by unfold pT;simp only[];rw[if_neg (by omega)])
 rw[show((0:Nat):Int)=0 from rfl]at this
 rw[this];rfl
theorem aA7 (l:List Int)(h:l.length<=4294967296):eR l=some l:=by
 unfold eR
 rw[aP (by simp;omega)]
 simp only[Option.bind_some,aK,List.nil_append]
theorem gN (x:Rat)(h:bE x<=4294967296):eX x=some x:=by
 unfold bE uV xV at h
 rw[tI,tI]at h
 unfold eX
 rw[aA7 _ (by omega)]
 simp only[Option.bind_some]
 rw[aA7 _ (by omega)]
 simp only[Option.bind_some]
theorem aER (x:Link)(h:bV x<=4294967296):sI x=some x:=by
 unfold bV at h
 unfold sI
 rw[gN _ (by omega)]
 simp only[Option.bind_some]
 rw[gN _ (by omega)]
 simp only[Option.bind_some]
 rw[gN _ (by omega)]
 simp only[Option.bind_some]
theorem qZ (l:List Link)(h:aL l<=4294967296):iU l=some l:=by
 unfold aL at h
 have hl:=iY bV l
 unfold iU
 have:=aAq (step:=lO l) l (fun k t=>((k:Int),t)) (fun t=>t) (fun k t hk ht=>by
  have he:=pL (w:=bV) (List.getElem_mem hk)
  unfold lO
  simp only[]
  rw[if_pos (by omega),aM hk]
  simp only[Option.bind_some]
  rw[aER _ (by omega)]
  simp only[Option.bind_some]
  rw[aP (by omega),wi (by omega)];rfl) (fun t ht=>by unfold lO;simp only[];rw[if_neg (by omega)])
 rw[show((0:Nat):Int)=0 from rfl]at this
 rw[this];rfl
def eC (l:List TreeNode):List Link:=(l.map (fun n=>n.fOwn)).flatten
theorem aB0:∀ l:List TreeNode,aL (eC l)<=szL bR l
 | []=>by simp[eC,aL,aHW]
 | y::l=>by
  have:=aB0 l
  have hn:bR y=aL y.fOwn+aU y.fCond+aL y.fMessages+bE y.fEnergy:=rfl
  unfold eC aL at *
  rw[List.map_cons,List.flatten_cons,aHX,oC]
  omega
theorem aEl (l:List TreeNode)(k:Nat)(hk:k<l.length):eC (l.take (k+1))=eC (l.take k)++l[k].fOwn:=by
 unfold eC
 rw[List.take_succ,List.getElem?_eq_getElem hk,List.map_append,List.flatten_append]
 simp
theorem aMZ {α:Type}(w:α->Nat)(l:List α)(k:Nat):szL w (l.take k)<=szL w l:=by
 have:=aHX w (l.take k) (l.drop k)
 rw[List.take_append_drop]at this
 omega
theorem aKC (l:List TreeNode)(h:szL bR l<=4294967296)(k:Nat):(eC (l.take k)).length<=4294967296:=by
 have h1:=aB0 (l.take k)
 have h2:=aMZ bR l k
 have h3:=iY bV (eC (l.take k))
 unfold aL at h1
 omega
end Go.Ev
/- Links: validity, order, merging; adding links to a link set, both programs. -/
namespace Go.Ev
open IntKind
set_option linter.all false
def ValidL (l:Link):Prop:=(0<=l.fA/\l.fA<=9)/\(0<=l.fB/\l.fB<=9)/\l.fA<l.fB/\0<xJ l.fWeight/\bL l.fDX/\bL l.fDY
instance (l:Link):Decidable (ValidL l):=by unfold ValidL;infer_instance
theorem iL (l:Link)(h:bV l<=4294967296):eW l=some (decide (ValidL l))/\iC l=some (decide (ValidL l)):=by
 unfold bV at h
 obtain⟨g1,g2⟩:=aAv l.fWeight (by omega)
 have a1:=aAw l.fDX (by omega)
 have a2:=aAw l.fDY (by omega)
 have b1:=eQ l.fDX (by omega)
 have b2:=eQ l.fDY (by omega)
 unfold eW iC ValidL
 simp only[aJE,aB6,g1,g2,a1,a2,b1,b2,Option.bind_some]
 by_cases A:0<=l.fA/\l.fA<=9
 · by_cases B:0<=l.fB/\l.fB<=9
   · by_cases C:l.fA<l.fB
     · by_cases D:0<xJ l.fWeight
       · by_cases E:bL l.fDX
         · by_cases F:bL l.fDY <;> simp[A,B,C,D,E,F]
         · simp[A,B,C,D,E]
       · simp[A,B,C,D]
     · simp[A,B,C]
   · simp[A,B]
 · simp[A]
theorem ValidL.vz {l:Link}(h:ValidL l):VZ l.fWeight/\VZ l.fDX/\VZ l.fDY:=⟨.inl (aAe h.2.2.2.1),.inl h.2.2.2.2.1,.inl h.2.2.2.2.2⟩
theorem ValidL.sz {l:Link}(h:ValidL l):bV l<=144:=by
 obtain⟨h1,h2,h3⟩:=h.vz
 have:=lS h1
 have:=lS h2
 have:=lS h3
 unfold bV;omega
theorem aDL {α:Type}{w:α->Nat}{c:Nat}:∀ {l:List α},(∀ x∈l,w x<=c)->szL w l<=(c+1)*l.length
 | [],_=>by simp[aHW]
 | y::l,h=>by
  have h1:=h y (by simp)
  have h2:=aDL (l:=l) (c:=c) (fun x hx=>h x (by simp[hx]))
  rw[oC,List.length_cons,Nat.mul_add,Nat.mul_one];omega
def fG (k l:Link):Prop:=k.fA<l.fA\/(k.fA=l.fA/\k.fB<l.fB)
instance (k l:Link):Decidable (fG k l):=by unfold fG;infer_instance
theorem aGG (k l:Link):nK k l=some (decide (fG k l)):=by
 unfold nK fG
 by_cases A:k.fA<l.fA
 · simp[A]
 · by_cases B:k.fA=l.fA
   · simp[A,B]
   · simp[A,B]
theorem aKd (k l:Link):jZ k l=some (decide (fG k l)):=aGG k l
theorem aBC {a b c:Link}(h:fG a b)(g:fG b c):fG a c:=by unfold fG at *;omega
noncomputable def sqR (x y:Rat):Rat:=RA (RM x x) (RM y y)
noncomputable def aBc (k l:Link):Link:=⟨k.fA,k.fB,RA k.fWeight l.fWeight,RD (RA (RM k.fWeight k.fDX) (RM l.fWeight l.fDX)) (RA k.fWeight l.fWeight),RD (RA (RM k.fWeight k.fDY) (RM l.fWeight l.fDY)) (RA k.fWeight l.fWeight)⟩
noncomputable def aDU (k l:Link):Rat:=RM (RD (RM k.fWeight l.fWeight) (RA k.fWeight l.fWeight)) (sqR (RS k.fDX l.fDX) (RS k.fDY l.fDY))
def zJ (k l:Link):Prop:=bL (aBc k l).fWeight/\bL (aBc k l).fDX/\bL (aBc k l).fDY/\bL (aDU k l)
noncomputable instance (k l:Link):Decidable (zJ k l):=by unfold zJ;infer_instance
def aG1:Link:=Link.mk 0 0 (Rat.mk (BigInt.mk false ([])) ([])) (Rat.mk (BigInt.mk false ([])) ([])) (Rat.mk (BigInt.mk false ([])) ([]))
theorem aRV {x y:Rat}(hx:VZ x)(hy:VZ y):oF x y=some (sqR x y)/\lL x y=some (sqR x y)/\VZ (sqR x y):=by
 obtain⟨a1,a2,a3⟩:=aBf hx hx
 obtain⟨b1,b2,b3⟩:=aBf hy hy
 obtain⟨c1,c2,c3⟩:=yY a3 b3
 unfold oF lL sqR
 simp only[a1,a2,b1,b2,c1,c2,Option.bind_some]
 exact⟨trivial,trivial,c3⟩
theorem aJs {k l:Link}(hk:ValidL k)(hl:ValidL l)(h:zJ k l):ValidL (aBc k l) :=
 ⟨hk.1,hk.2.1,hk.2.2.1,aQO hk.2.2.2.1 hl.2.2.2.1 h.1,h.2.1,h.2.2.1⟩
theorem aLF {k l:Link}(hk:ValidL k)(hl:ValidL l)(hA:k.fA=l.fA)(hB:k.fB=l.fB) :
 oI k l=some (if zJ k l then(aBc k l,aDU k l,true)else(aG1,nJ,false))/\oS k l=some (if zJ k l then(aBc k l,aDU k l,true)else(aG1,nJ,false))/\VZ (aDU k l):=by
 obtain⟨k1,k2,k3⟩:=hk.vz
 obtain⟨l1,l2,l3⟩:=hl.vz
 obtain⟨a1,a2,a3⟩:=yY k1 l1
 obtain⟨b1,b2,b3⟩:=aBf k1 k2
 obtain⟨c1,c2,c3⟩:=aBf l1 l2
 obtain⟨d1,d2,d3⟩:=yY b3 c3
 obtain⟨e1,e2,e3⟩:=aDI d3 a3
 obtain⟨f1,f2,f3⟩:=aBf k1 k3
 obtain⟨g1,g2,g3⟩:=aBf l1 l3
 obtain⟨i1,i2,i3⟩:=yY f3 g3
 obtain⟨j1,j2,j3⟩:=aDI i3 a3
 obtain⟨m1,m2,m3⟩:=aBf k1 l1
 obtain⟨n1,n2,n3⟩:=aDI m3 a3
 obtain⟨o1,o2,o3⟩:=aIP k2 l2
 obtain⟨p1,p2,p3⟩:=aIP k3 l3
 obtain⟨q1,q2,q3⟩:=aRV o3 p3
 obtain⟨r1,r2,r3⟩:=aBf n3 q3
 have v1:=(iL k (by have:=hk.sz;omega)).1
 have v2:=(iL l (by have:=hl.sz;omega)).1
 have vm:=(iL (aBc k l) (by
  have:=lS a3;have:=lS e3;have:=lS j3
  unfold bV aBc;simp only[];omega)).1
 refine⟨?_,?_,r3⟩
 · unfold oI
   rw[v1,v2,decide_eq_true hk,decide_eq_true hl]
   simp only[Option.bind_some,if_true,hA,hB,ne_eq,not_true_eq_false,if_false,decide_false,Bool.false_eq_true]
   simp only[a1,b1,c1,d1,e1,f1,g1,i1,j1,m1,n1,o1,p1,q1,r1,Option.bind_some]
   rw[<- hA,<- hB]
   have e:(Link.mk k.fA k.fB (RA k.fWeight l.fWeight) (RD (RA (RM k.fWeight k.fDX) (RM l.fWeight l.fDX)) (RA k.fWeight l.fWeight)) (RD (RA (RM k.fWeight k.fDY) (RM l.fWeight l.fDY)) (RA k.fWeight l.fWeight)))=aBc k l:=rfl
   rw[e,vm]
   have e2:RM (RD (RM k.fWeight l.fWeight) (RA k.fWeight l.fWeight)) (sqR (RS k.fDX l.fDX) (RS k.fDY l.fDY))=aDU k l:=rfl
   rw[e2,eQ (aDU k l) (VZs r3)]
   simp only[Option.bind_some]
   by_cases O:zJ k l
   · rw[if_pos O,decide_eq_true (aJs hk hl O),decide_eq_true O.2.2.2];rfl
   · rw[if_neg O]
     by_cases V:ValidL (aBc k l)
     · have:¬bL (aDU k l):=fun h=>O ⟨aAe V.2.2.2.1,V.2.2.2.2.1,V.2.2.2.2.2,h⟩
       rw[decide_eq_true V,decide_eq_false this];rfl
     · rw[decide_eq_false V];rfl
 · unfold oS
   simp only[a2,b2,c2,d2,e2,f2,g2,i2,j2,m2,n2,o2,p2,q2,r2,Option.bind_some,iK a3,iK e3,iK j3,iK r3]
   unfold zJ aBc aDU
   simp only[]
   by_cases A:bL (RA k.fWeight l.fWeight)
   · by_cases B:bL (RD (RA (RM k.fWeight k.fDX) (RM l.fWeight l.fDX)) (RA k.fWeight l.fWeight))
     · by_cases C:bL (RD (RA (RM k.fWeight k.fDY) (RM l.fWeight l.fDY)) (RA k.fWeight l.fWeight))
       · by_cases D:bL (RM (RD (RM k.fWeight l.fWeight) (RA k.fWeight l.fWeight)) (sqR (RS k.fDX l.fDX) (RS k.fDY l.fDY))) <;> simp[A,B,C,D,aG1,nJ]
       · simp[A,B,C,aG1,nJ]
     · simp[A,B,aG1,nJ]
   · simp[A,aG1,nJ]
def LSet (s:List Link):Prop:=(∀ x∈s,ValidL x)/\s.Pairwise fG
noncomputable instance (s:List Link):Decidable (LSet s):=Classical.propDecidable _
theorem aLL:∀ (l:List Int) (a N:Int),l.Pairwise (· < ·)->(∀ x∈l,a<=x/\x<N)->(l.length:Int)<=max 0 (N-a)
 | [],a,N,_,_=>by rw[List.length_nil];omega
 | x::l,a,N,h,hb=>by
  rw[List.pairwise_cons]at h
  have h1:=hb x (by simp)
  have:=aLL l (x+1) N h.2 (fun y hy=>⟨by have:=h.1 y hy;omega,(hb y (by simp[hy])).2⟩)
  rw[List.length_cons];omega
theorem LSet.len {s:List Link}(h:LSet s):s.length<=100:=by
 have:=aLL (s.map fun l=>l.fA*10+l.fB) 0 100 (by
  rw[List.pairwise_map]
  refine List.Pairwise.imp_of_mem (fun {a b} ha hb hr=>?_) h.2
  have h1:=h.1 a ha
  have h2:=h.1 b hb
  unfold ValidL at h1 h2
  unfold fG at hr
  omega) (by
  intro x hx
  obtain⟨l,hl,rfl⟩:=List.mem_map.1 hx
  have h1:=h.1 l hl
  unfold ValidL at h1
  omega)
 rw[List.length_map]at this;omega
theorem aBS {s:List Link}(h:∀ x∈s,ValidL x):aL s<=145*s.length:=aDL (fun x hx=>(h x hx).sz)
theorem LSet.sz {s:List Link}(h:LSet s):aL s<=14500:=by
 have:=aBS h.1
 have:=h.len
 omega
def lsF:Option Link->List Link->Prop
 | _,[]=>True
 | p,x::r=>ValidL x/\(∀ q,p=some q->fG q x)/\lsF (some x) r
noncomputable instance (p:Option Link)(s:List Link):Decidable (lsF p s):=Classical.propDecidable _
theorem aLG:∀ (s:List Link) (p:Option Link),lsF p s↔LSet s/\∀ q,p=some q->∀ x∈s,fG q x
 | [],p=>by simp[lsF,LSet]
 | x::r,p=>by
  rw[lsF,aLG r (some x)]
  unfold LSet
  rw[List.pairwise_cons]
  constructor
  · rintro⟨h1,h2,⟨h3,h4⟩,h5⟩
    refine⟨⟨fun y hy=>?_,fun y hy=>h5 x rfl y hy,h4⟩,fun q hq y hy=>?_⟩
    · rcases List.mem_cons.1 hy with rfl | hy
      · exact h1
      · exact h3 y hy
    · rcases List.mem_cons.1 hy with rfl | hy
      · exact h2 q hq
      · exact aBC (h2 q hq) (h5 x rfl y hy)
  · rintro⟨⟨h1,h2,h3⟩,h4⟩
    exact⟨h1 x (by simp),fun q hq=>h4 q hq x (by simp),⟨fun y hy=>h1 y (by simp[hy]),h3⟩,fun q hq y hy=>by cases hq;exact h2 y hy⟩
theorem lT (s:List Link)(h:aL s<=4294967296):dN s=some (decide (LSet s)):=by
 unfold aL at h
 have hl:=iY bV s
 have main:∀ m k:Nat,m+k=s.length->∀ p:Option Link,(p=if k=0 then none else s[k-1]?)->lp (fE s) (k:Int)=some (if lsF p (s.drop k)then .inl ()else .inr false):=by
  intro m
  induction m with
  | zero =>
   intro k hk p _
   rw[List.drop_eq_nil_of_le (by omega),if_pos (by simp[lsF])]
   exact aN (by unfold fE;rw[if_neg (by omega)])
  | succ m ih =>
   intro k hk p hp
   have hlt:k<s.length:=by omega
   have hz:=pL (w:=bV) (List.getElem_mem hlt)
   have v:=(iL s[k] (by omega)).1
   rw[List.drop_eq_getElem_cons hlt]
   have st:fE s (k:Int)=some (if ValidL s[k]/\(∀ q,p=some q->fG q s[k])then .inl ((k+1:Nat):Int)else .inr (.inr false)):=by
    have w1:i64.wrap ((k:Int)+1)=((k+1:Nat):Int):=by rw[wi (by omega)];omega
    unfold fE
    rw[if_pos (by omega),aM hlt]
    simp only[Option.bind_some,v,w1]
    by_cases V:ValidL s[k]
    · rw[decide_eq_true V,if_pos rfl]
      by_cases K:k=0
      · subst K
        rw[if_pos rfl]at hp;subst hp
        simp[V]
      · have hlt2:k-1<s.length:=by omega
        rw[if_neg K,List.getElem?_eq_getElem hlt2]at hp;subst hp
        have w2:i64.wrap ((k:Int)-1)=((k-1:Nat):Int):=by rw[wi (by omega)];omega
        rw[if_pos (by omega),w2,aM hlt2]
        simp only[Option.bind_some,aGG]
        by_cases L:fG s[k-1] s[k]
        · simp[V,L]
        · simp[L]
    · rw[decide_eq_false V];simp[V]
   by_cases G:ValidL s[k]/\(∀ q,p=some q->fG q s[k])
   · rw[if_pos G]at st
     rw[aS st,ih (k+1) (by omega) (some s[k]) (by rw[if_neg (by omega),Nat.add_sub_cancel,List.getElem?_eq_getElem hlt])]
     have:lsF p (s[k]::s.drop (k+1))↔lsF (some s[k]) (s.drop (k+1)):=by rw[lsF];exact⟨fun h=>h.2.2,fun h=>⟨G.1,G.2,h⟩⟩
     simp only[this]
   · rw[if_neg G]at st
     rw[aN st,if_neg]
     rw[lsF];exact fun h=>G ⟨h.1,h.2.1⟩
 have:=main s.length 0 (by omega) none (by simp)
 unfold dN
 rw[show((0:Nat):Int)=0 from rfl,List.drop_zero]at this
 rw[this]
 have e:lsF none s↔LSet s:=by rw[aLG];exact⟨fun h=>h.1,fun h=>⟨h,fun q hq=>by cases hq⟩⟩
 by_cases c:LSet s
 · rw[if_pos (e.2 c),decide_eq_true c];rfl
 · rw[if_neg (fun h=>c (e.1 h)),decide_eq_false c];rfl
def eB (l:Link):List Link->Nat
 | []=>0
 | y::r=>if fG y l then eB l r+1 else 0
theorem aLt (l:Link):∀ s:List Link,eB l s<=s.length
 | []=>Nat.le_refl _
 | y::r=>by
  have:=aLt l r
  rw[eB];split <;> simp <;> omega
theorem aDS (l:Link):∀ s:List Link,∀ x∈s.take (eB l s),fG x l
 | [],x,h=>by simp[eB]at h
 | y::r,x,h=>by
  rw[eB]at h
  by_cases c:fG y l
  · rw[if_pos c,List.take_succ_cons]at h
    rcases List.mem_cons.1 h with rfl | h
    · exact c
    · exact aDS l r x h
  · rw[if_neg c]at h;simp at h
theorem aBZ (l:Link):∀ (s:List Link) (h:eB l s<s.length),¬fG s[eB l s] l
 | [],h=>by simp at h
 | y::r,h=>by
  by_cases c:fG y l
  · have e:eB l (y::r)=eB l r+1:=by rw[eB,if_pos c]
    have h':eB l r<r.length:=by rw[e]at h;simpa using h
    have:=aBZ l r h'
    simpa [e]using this
  · have e:eB l (y::r)=0:=by rw[eB,if_neg c]
    simpa [e]using c
theorem aNs (s:List Link)(l:Link)(h:s.length<=4294967296):lp (gO l s) 0=some ((eB l s:Nat):Int):=by
 have main:∀ m k:Nat,m+k=s.length->lp (gO l s) (k:Int)=some ((k+eB l (s.drop k):Nat):Int):=by
  intro m
  induction m with
  | zero =>
   intro k hk
   rw[List.drop_eq_nil_of_le (by omega)]
   refine aN ?_
   unfold gO
   rw[if_neg (by omega)];rfl
  | succ m ih =>
   intro k hk
   have hlt:k<s.length:=by omega
   have w1:i64.wrap ((k:Int)+1)=((k+1:Nat):Int):=by rw[wi (by omega)];omega
   rw[List.drop_eq_getElem_cons hlt,eB]
   have st:gO l s (k:Int)=some (if fG s[k] l then .inl ((k+1:Nat):Int)else .inr (k:Int)):=by
    unfold gO
    rw[if_pos (by omega),aM hlt]
    simp only[Option.bind_some,aGG,w1]
    by_cases L:fG s[k] l <;> simp[L]
   by_cases L:fG s[k] l
   · rw[if_pos L]at st ⊢
     rw[aS st,ih (k+1) (by omega)]
     congr 2;omega
   · rw[if_neg L]at st ⊢
     rw[aN st];rfl
 have:=main s.length 0 (by omega)
 simpa using this
noncomputable def aA0 (s:List Link)(l:Link):Option (List Link×Rat) :=
 if h:eB l s<s.length then
  if fG l s[eB l s]then some (s.take (eB l s)++[l]++s.drop (eB l s),eF 0)
  else if zJ s[eB l s] l then some (s.take (eB l s)++[aBc s[eB l s] l]++s.drop (eB l s+1),aDU s[eB l s] l)else none
 else some (s.take (eB l s)++[l]++s.drop (eB l s),eF 0)
def pk:Option (List Link×Rat)->List Link×Rat×Bool
 | some (s,e)=>(s,e,true)
 | none=>([],nJ,false)
theorem aGJ {s:List Link}{m:Link}{p q:Nat}(hs:LSet s)(hm:ValidL m)(h1:∀ x∈s.take p,fG x m)(h2:∀ y∈s.drop q,fG m y):LSet (s.take p++[m]++s.drop q):=by
 refine⟨fun x hx=>?_,?_⟩
 · rw[List.mem_append,List.mem_append,List.mem_singleton]at hx
   rcases hx with(hx | rfl) | hx
   · exact hs.1 x (List.mem_of_mem_take hx)
   · exact hm
   · exact hs.1 x (List.mem_of_mem_drop hx)
 · rw[List.append_assoc,List.pairwise_append]
   refine⟨hs.2.sublist (List.take_sublist _ _),?_,fun a ha b hb=>?_⟩
   · rw[List.singleton_append,List.pairwise_cons]
     exact⟨h2,hs.2.sublist (List.drop_sublist _ _)⟩
   · rw[List.singleton_append]at hb
     rcases List.mem_cons.1 hb with rfl | hb
     · exact h1 a ha
     · exact aBC (h1 a ha) (h2 b hb)
theorem aQf {s:List Link}(h:s.Pairwise fG){p:Nat}(hp:p<s.length):(∀ x∈s.take p,fG x s[p])/\∀ y∈s.drop (p+1),fG s[p] y:=by
 have e:s=s.take p++(s[p]::s.drop (p+1)):=by rw[<- List.drop_eq_getElem_cons hp,List.take_append_drop]
 rw[e,List.pairwise_append,List.pairwise_cons]at h
 exact⟨fun x hx=>h.2.2 x hx _ List.mem_cons_self,h.2.1.1⟩
theorem aIJ {s:List Link}{l:Link}(hs:LSet s)(hl:ValidL l){s':List Link}{e:Rat}(h:aA0 s l=some (s',e)):LSet s'/\VZ e:=by
 unfold aA0 at h
 have z:VZ (eF 0):=.inl (yC 0 (by omega))
 by_cases c:eB l s<s.length
 · rw[dif_pos c]at h
   obtain⟨g1,g2⟩:=aQf hs.2 c
   by_cases c2:fG l s[eB l s]
   · rw[if_pos c2]at h;cases h
     refine⟨aGJ hs hl (aDS l s) (fun y hy=>?_),z⟩
     rw[List.drop_eq_getElem_cons c]at hy
     rcases List.mem_cons.1 hy with rfl | hy
     · exact c2
     · exact aBC c2 (g2 y hy)
   · rw[if_neg c2]at h
     have hv:=hs.1 _ (List.getElem_mem c)
     have nl:=aBZ l s c
     have hA:s[eB l s].fA=l.fA/\s[eB l s].fB=l.fB:=by unfold fG at c2 nl;omega
     by_cases O:zJ s[eB l s] l
     · rw[if_pos O]at h;cases h
       exact⟨aGJ hs (aJs hv hl O) g1 g2,(aLF hv hl hA.1 hA.2).2.2⟩
     · rw[if_neg O]at h;cases h
 · rw[dif_neg c]at h;cases h
   refine⟨aGJ hs hl (aDS l s) (fun y hy=>?_),z⟩
   rw[List.drop_eq_nil_of_le (by omega)]at hy;cases hy
theorem aIK (s:List Link)(l:Link):wV s l=gO l s:=rfl
theorem vC {α:Type}(x:α):bB x=some x:=rfl
theorem aHQ {s:List Link}{l:Link}(hs:LSet s)(hl:ValidL l):nM s l=some (pk (aA0 s l))/\uE s l=some (pk (aA0 s l)):=by
 have hlen:=hs.len
 have hp:=aLt l s
 have v:=(iL l (by have:=hl.sz;omega)).1
 have i1:=lT s (by have:=hs.sz;omega)
 have c1:=aCp s (by have:=hs.sz;omega)
 have c2:=tO l (by have:=hl.sz;omega)
 have lp1:=aNs s l (by omega)
 have rf1:cO 0=some (eF 0):=bZ 0 (by omega)
 have rf2:bS 0=some (eF 0):=dH 0 (by omega)
 have s1:sub s 0 ((eB l s:Nat):Int)=some (s.take (eB l s)):=by rw[pM _ _ _ (by omega)];simp
 have s2:sub s ((eB l s:Nat):Int) (s.length:Int)=some (s.drop (eB l s)):=by
  rw[pM _ _ _ (by omega)];congr 1
  rw[List.take_of_length_le];rfl
  rw[List.length_drop];omega
 have t1:(s.take (eB l s)).length<=100:=by rw[List.length_take];omega
 have t2:(s.drop (eB l s)).length<=100:=by rw[List.length_drop];omega
 unfold nM uE aA0
 rw[aIK,i1,v,decide_eq_true hs,decide_eq_true hl,lp1]
 simp only[Option.bind_some,if_true,Bool.not_true,Bool.false_eq_true,if_false,c1,lp1,s1,s2,vC,List.nil_append]
 rw[aP (by simp only[List.length_nil,Nat.zero_add];omega)]
 simp only[Option.bind_some]
 by_cases c:eB l s<s.length
 · have c':((eB l s:Nat):Int)<(s.length:Int):=by omega
   have c'':¬((eB l s:Nat):Int)=(s.length:Int):=by omega
   rw[if_pos c',if_neg c'',dif_pos c,aM c]
   simp only[Option.bind_some,aGG,aKd]
   by_cases L:fG l s[eB l s]
   · rw[if_pos L,decide_eq_true L]
     simp only[Bool.not_true,Bool.false_eq_true,if_false,if_true,c2,Option.bind_some,rf1,rf2]
     rw[aP (by omega)]
     simp only[Option.bind_some]
     rw[aP (by rw[List.length_append,List.length_singleton];omega)]
     exact⟨rfl,rfl⟩
   · rw[if_neg L,decide_eq_false L]
     have hv:=hs.1 _ (List.getElem_mem c)
     have nl:=aBZ l s c
     have hA:s[eB l s].fA=l.fA/\s[eB l s].fB=l.fB:=by unfold fG at L nl;omega
     obtain⟨m1,m2,m3⟩:=aLF hv hl hA.1 hA.2
     simp only[Bool.not_false,if_true,Bool.false_eq_true,if_false,m1,m2,Option.bind_some]
     by_cases O:zJ s[eB l s] l
     · rw[if_pos O,if_pos O]
       have w1:i64.wrap (((eB l s:Nat):Int)+1)=((eB l s+1:Nat):Int):=by rw[wi (by omega)];omega
       have s3:sub s ((eB l s+1:Nat):Int) (s.length:Int)=some (s.drop (eB l s+1)):=by
        rw[pM _ _ _ (by omega)];congr 1
        rw[List.take_of_length_le];rfl
        rw[List.length_drop];omega
       have t3:(s.drop (eB l s+1)).length<=100:=by rw[List.length_drop];omega
       simp only[if_true,w1,s3,Option.bind_some,sA]
       rw[aP (by omega)]
       simp only[Option.bind_some]
       rw[aP (by rw[List.length_append,List.length_singleton];omega)]
       refine⟨?_,rfl⟩
       simp only[pk]
       rw[List.set_eq_take_append_cons_drop,if_pos c,List.append_assoc,List.singleton_append]
     · rw[if_neg O,if_neg O]
       exact⟨rfl,rfl⟩
 · have c':¬((eB l s:Nat):Int)<(s.length:Int):=by omega
   have c'':((eB l s:Nat):Int)=(s.length:Int):=by omega
   rw[if_neg c',if_pos c'',dif_neg c]
   simp only[Option.bind_some,Bool.false_eq_true,if_false,if_true,c2,rf1,rf2]
   rw[aP (by omega)]
   simp only[Option.bind_some]
   rw[aP (by rw[List.length_append,List.length_singleton];omega)]
   exact⟨rfl,rfl⟩
end Go.Ev
/- Joining links into a link set, both programs. -/
namespace Go.Ev
set_option linter.all false
theorem aQP {r s:Rat}(hr:VZ r)(hs:VZ s)(h:¬bL r):RA r s=nJ:=by
 have q:=(yY hr hs).1
 unfold dJ at q
 rw[eQ r (VZs hr),decide_eq_false h]at q
 simpa [nJ]using q.symm
noncomputable def uP:List Link->List Link->Rat->Option (List Link×Rat)
 | [],s,e=>some (s,e)
 | x::r,s,e=>match aA0 s x with
  | none=>none
  | some (s',e')=>if bL (RA e e')then uP r s' (RA e e')else none
theorem aJD:∀ (l s:List Link) (e:Rat),(∀ x∈l,ValidL x)->LSet s->bL e->∀ s' e',uP l s e=some (s',e')->LSet s'/\bL e'
 | [],s,e,_,hs,he,s',e',h=>by rw[uP]at h;cases h;exact⟨hs,he⟩
 | x::r,s,e,hv,hs,he,s',e',h=>by
  rw[uP]at h
  cases ha:aA0 s x with
  | none=>rw[ha]at h;cases h
  | some t =>
   obtain⟨s1,e1⟩:=t
   rw[ha]at h
   simp only[]at h
   obtain⟨g1,g2⟩:=aIJ hs (hv x (by simp)) ha
   by_cases c:bL (RA e e1)
   · rw[if_pos c]at h
     exact aJD r s1 _ (fun y hy=>hv y (by simp[hy])) g1 c s' e' h
   · rw[if_neg c]at h;cases h
noncomputable instance (l:List Link):Decidable (∀ x∈l,ValidL x):=Classical.propDecidable _
def aCB:List Link×Rat×Bool:=([],nJ,false)
theorem aKN (l:List Link)(hv:∀ x∈l,ValidL x)(hl:l.length<=4294967296):∀ m k:Nat,m+k=l.length->∀ s e,LSet s->VZ e->
 lp (gL l) (s,(k:Int),e)=some (match uP (l.drop k) s e with | some t=>.inl t | none=>.inr aCB):=by
 intro m
 induction m with
 | zero =>
  intro k hk s e hs he
  rw[List.drop_eq_nil_of_le (by omega),uP]
  exact aN (by unfold gL;simp only[];rw[if_neg (by omega)])
 | succ m ih =>
  intro k hk s e hs he
  have hlt:k<l.length:=by omega
  have hx:=hv _ (List.getElem_mem hlt)
  have w1:IntKind.i64.wrap ((k:Int)+1)=((k+1:Nat):Int):=by rw[wi (by omega)];omega
  have a:=(aHQ hs hx).2
  rw[List.drop_eq_getElem_cons hlt,uP]
  cases ha:aA0 s l[k]with
  | none =>
   rw[ha]at a
   have g:=(yY he aCm).2.1
   refine aN ?_
   unfold gL
   simp only[]
   rw[if_pos (by omega),aM hlt]
   simp only[Option.bind_some,a,pk,g]
   rfl
  | some t =>
   obtain⟨s1,e1⟩:=t
   rw[ha]at a
   obtain⟨g1,g2⟩:=aIJ hs hx ha
   obtain⟨_,q2,q3⟩:=yY he g2
   have st:gL l (s,(k:Int),e)=some (if bL (RA e e1)then .inl (s1,((k+1:Nat):Int),RA e e1)else .inr (.inr aCB)):=by
    unfold gL
    simp only[]
    rw[if_pos (by omega),aM hlt]
    simp only[Option.bind_some,a,pk,q2,iK q3,if_true,w1]
    by_cases c:bL (RA e e1)
    · simp[c]
    · simp[c,aCB,nJ]
   simp only[]
   by_cases c:bL (RA e e1)
   · rw[if_pos c]at st ⊢
     rw[aS st]
     exact ih (k+1) (by omega) s1 _ g1 q3
   · rw[if_neg c]at st ⊢
     rw[aN st]
def aOg:(List Link×Rat) ⊕ (List Link×Rat×Bool)->List Link×Rat×Bool
 | .inl d=>if bL d.2 then(d.1,d.2,true)else aCB
 | .inr x=>x
theorem aKM (l:List Link)(hz:aL l<=4294967296):∀ m k:Nat,m+k=l.length->∀ s e,LSet s->VZ e->
 ∃ R,lp (fD l) (s,(k:Int),e)=some R/\(∀ d,R=.inl d->VZ d.2)/\aOg R=pk (if bL e/\(∀ x∈l.drop k,ValidL x)then uP (l.drop k) s e else none):=by
 have hl:l.length<=4294967296:=by have:=iY bV l;unfold aL at hz;omega
 intro m
 induction m with
 | zero =>
  intro k hk s e hs he
  refine⟨.inl (s,e),aN (by unfold fD;simp only[];rw[if_neg (by omega)]),fun d h=>(by cases h;exact he),?_⟩
  rw[List.drop_eq_nil_of_le (by omega),uP]
  by_cases c:bL e
  · simp[aOg,pk,c]
  · simp[aOg,pk,c,aCB]
 | succ m ih =>
  intro k hk s e hs he
  have hlt:k<l.length:=by omega
  have w1:IntKind.i64.wrap ((k:Int)+1)=((k+1:Nat):Int):=by rw[wi (by omega)];omega
  have hxz:bV l[k]<=4294967296:=by have:=pL (w:=bV) (List.getElem_mem hlt);unfold aL at hz;omega
  rw[List.drop_eq_getElem_cons hlt]
  by_cases hx:ValidL l[k]
  · have a:=(aHQ hs hx).1
    rw[uP]
    cases ha:aA0 s l[k]with
    | none =>
     rw[ha]at a
     refine⟨.inr aCB,aN ?_,fun d h=>(by cases h),?_⟩
     · unfold fD
       simp only[]
       rw[if_pos (by omega),aM hlt]
       simp only[Option.bind_some,a,pk]
       rfl
     · simp[aOg,pk,aCB]
    | some t =>
     obtain⟨s1,e1⟩:=t
     rw[ha]at a
     obtain⟨g1,g2⟩:=aIJ hs hx ha
     obtain⟨q1,_,q3⟩:=yY he g2
     have st:fD l (s,(k:Int),e)=some (.inl (s1,((k+1:Nat):Int),RA e e1)):=by
      unfold fD
      simp only[]
      rw[if_pos (by omega),aM hlt]
      simp only[Option.bind_some,a,pk,q1,if_true,w1]
     obtain⟨R,r1,r2,r3⟩:=ih (k+1) (by omega) s1 _ g1 q3
     refine⟨R,by rw[aS st];exact r1,r2,?_⟩
     rw[r3]
     simp only[]
     by_cases c:bL e
     · by_cases c2:bL (RA e e1)
       · have:(∀ x∈l[k]::l.drop (k+1),ValidL x)↔(∀ x∈l.drop (k+1),ValidL x):=⟨fun h x hx'=>h x (List.mem_cons_of_mem _ hx'),fun h x hx'=>by rcases List.mem_cons.1 hx' with rfl | h';exact hx;exact h x h'⟩
         simp only[c,c2,true_and,if_true,this]
       · simp only[c,c2,true_and,false_and,if_false,ite_self]
     · have c2:¬bL (RA e e1):=by rw[aQP he g2 c];exact aBg
       simp only[c,c2,false_and,if_false]
  · refine⟨.inr aCB,aN ?_,fun d h=>(by cases h),?_⟩
    · unfold fD
      simp only[]
      rw[if_pos (by omega),aM hlt]
      have a:nM s l[k]=some aCB:=by
       unfold nM
       rw[lT s (by have:=hs.sz;omega),(iL l[k] hxz).1,decide_eq_true hs,decide_eq_false hx]
       rfl
      simp only[Option.bind_some,a,aCB]
      rfl
    · rw[if_neg (fun h=>hx (h.2 _ List.mem_cons_self))];rfl
theorem aHS (l:List Link)(hz:aL l<=4294967296):oP l=some (decide (∀ x∈l,ValidL x)):=by
 have hl:l.length<=4294967296:=by have:=iY bV l;unfold aL at hz;omega
 have main:∀ m k:Nat,m+k=l.length->lp (hZ l) (k:Int)=some (if(∀ x∈l.drop k,ValidL x)then .inl ()else .inr false):=by
  intro m
  induction m with
  | zero =>
   intro k hk
   rw[List.drop_eq_nil_of_le (by omega),if_pos (by simp)]
   exact aN (by unfold hZ;rw[if_neg (by omega)])
  | succ m ih =>
   intro k hk
   have hlt:k<l.length:=by omega
   have w1:IntKind.i64.wrap ((k:Int)+1)=((k+1:Nat):Int):=by rw[wi (by omega)];omega
   have v:=(iL l[k] (by have:=pL (w:=bV) (List.getElem_mem hlt);unfold aL at hz;omega)).2
   have st:hZ l (k:Int)=some (if ValidL l[k]then .inl ((k+1:Nat):Int)else .inr (.inr false)):=by
    unfold hZ
    rw[if_pos (by omega),aM hlt]
    simp only[Option.bind_some,v,w1]
    by_cases c:ValidL l[k] <;> simp[c]
   rw[List.drop_eq_getElem_cons hlt]
   by_cases c:ValidL l[k]
   · rw[if_pos c]at st
     rw[aS st,ih (k+1) (by omega)]
     have:(∀ x∈l[k]::l.drop (k+1),ValidL x)↔(∀ x∈l.drop (k+1),ValidL x):=⟨fun h x hx'=>h x (List.mem_cons_of_mem _ hx'),fun h x hx'=>by rcases List.mem_cons.1 hx' with rfl | h';exact c;exact h x h'⟩
     simp only[this]
   · rw[if_neg c]at st
     rw[aN st,if_neg (fun h=>c (h _ List.mem_cons_self))]
 have:=main l.length 0 (by omega)
 unfold oP
 rw[show((0:Nat):Int)=0 from rfl,List.drop_zero]at this
 rw[this]
 by_cases c:∀ x∈l,ValidL x
 · rw[if_pos c,decide_eq_true c];rfl
 · rw[if_neg c,decide_eq_false c];rfl
theorem aBR:LSet []:=⟨by simp,List.Pairwise.nil⟩
theorem aBW:bL (eF 0):=yC 0 (by omega)
noncomputable def jnP (l:List Link):Option (List Link×Rat):=if ∀ x∈l,ValidL x then uP l [] (eF 0)else none
theorem aBF {l s:List Link}{e:Rat}(h:jnP l=some (s,e)):(∀ x∈l,ValidL x)/\LSet s/\bL e:=by
 unfold jnP at h
 by_cases c:∀ x∈l,ValidL x
 · rw[if_pos c]at h
   exact⟨c,aJD l [] _ c aBR aBW s e h⟩
 · rw[if_neg c]at h;cases h
theorem aBE {l:List Link}(hv:∀ x∈l,ValidL x)(hl:l.length<=4294967296):kL l=some (pk (jnP l)):=by
 unfold kL jnP
 rw[dH 0 (by omega),if_pos hv]
 simp only[Option.bind_some]
 have:=aKN l hv hl l.length 0 (by omega) [] (eF 0) aBR (.inl aBW)
 rw[show((0:Nat):Int)=0 from rfl,List.drop_zero]at this
 rw[this]
 cases uP l [] (eF 0)with
 | none=>rfl
 | some t=>rfl
theorem wT (l:List Link)(hz:aL l<=4294967296):eI l=some (pk (jnP l))/\mZ l=some (pk (jnP l)):=by
 have hl:l.length<=4294967296:=by have:=iY bV l;unfold aL at hz;omega
 constructor
 · unfold eI
   rw[bZ 0 (by omega)]
   simp only[Option.bind_some]
   obtain⟨R,r1,r2,r3⟩:=aKM l hz l.length 0 (by omega) [] (eF 0) aBR (.inl aBW)
   rw[show((0:Nat):Int)=0 from rfl]at r1
   rw[List.drop_zero]at r3
   rw[r1]
   have e:(if bL (eF 0)/\(∀ x∈l,ValidL x)then uP l [] (eF 0)else none)=jnP l:=by unfold jnP;simp only[aBW,true_and]
   rw[<- e,<- r3]
   cases R with
   | inl d =>
    simp only[Option.bind_some]
    rw[eQ d.2 (VZs (r2 d rfl))]
    simp only[Option.bind_some,aOg]
    by_cases c:bL d.2
    · rw[decide_eq_true c,if_pos c];rfl
    · rw[decide_eq_false c,if_neg c];rfl
   | inr x=>rfl
 · unfold mZ
   rw[aHS l hz]
   simp only[Option.bind_some]
   by_cases c:∀ x∈l,ValidL x
   · rw[decide_eq_true c,if_pos rfl,aBE c hl]
     simp only[Option.bind_some]
     cases hj:jnP l with
     | none=>rfl
     | some t =>
      obtain⟨s,e⟩:=t
      obtain⟨_,g1,_⟩:=aBF hj
      simp only[pk,if_true]
      rw[qZ s (by have:=g1.sz;omega)]
      rfl
   · rw[decide_eq_false c]
     unfold jnP
     rw[if_neg c];rfl
end Go.Ev
/- Cliques: their nodes in order. -/
namespace Go.Ev
set_option linter.all false
theorem aAC:∀ {a b:List Int},a.Pairwise (· < ·)->b.Pairwise (· < ·)->(∀ x,x∈a↔x∈b)->a=b
 | [],[],_,_,_=>rfl
 | [],y::b,_,_,h=>absurd ((h y).2 (by simp)) (by simp)
 | x::a,[],_,_,h=>absurd ((h x).1 (by simp)) (by simp)
 | x::a,y::b,ha,hb,h=>by
  rw[List.pairwise_cons]at ha hb
  have hxy:x=y:=by
   have h1:=(h x).1 (by simp)
   have h2:=(h y).2 (by simp)
   rcases List.mem_cons.1 h1 with e | e
   · exact e
   · rcases List.mem_cons.1 h2 with e' | e'
     · exact e'.symm
     · have:=hb.1 x e;have:=ha.1 y e';omega
  subst hxy
  have:a=b:=aAC ha.2 hb.2 (fun z=>by
   constructor
   · intro hz
     have:=(h z).1 (by simp[hz])
     rcases List.mem_cons.1 this with e | e
     · subst e;have:=ha.1 z hz;omega
     · exact e
   · intro hz
     have:=(h z).2 (by simp[hz])
     rcases List.mem_cons.1 this with e | e
     · subst e;have:=hb.1 z hz;omega
     · exact e)
  rw[this]
def aBb:List Int->Int->List Int
 | [],n=>[n]
 | x::l,n=>if x<n then x::aBb l n else if x=n then x::l else n::x::l
theorem aAg:∀ (l:List Int) (n x:Int),x∈aBb l n↔x=n\/x∈l
 | [],n,x=>by simp[aBb]
 | y::l,n,x=>by
  unfold aBb
  by_cases h1:y<n
  · rw[if_pos h1,List.mem_cons,List.mem_cons,aAg l n x]
    constructor
    · rintro(h | h | h) <;> simp[h]
    · rintro(h | h | h) <;> simp[h]
  · rw[if_neg h1]
    by_cases h2:y=n
    · rw[if_pos h2];subst h2;simp
    · rw[if_neg h2];simp
theorem wJ:∀ (l:List Int) (n:Int),l.Pairwise (· < ·)->(aBb l n).Pairwise (· < ·)
 | [],n,_=>by simp[aBb]
 | y::l,n,h=>by
  unfold aBb
  rw[List.pairwise_cons]at h
  by_cases h1:y<n
  · rw[if_pos h1,List.pairwise_cons]
    exact⟨fun x hx=>by rcases(aAg l n x).1 hx with e | e;omega;exact h.1 x e,wJ l n h.2⟩
  · rw[if_neg h1]
    by_cases h2:y=n
    · rw[if_pos h2,List.pairwise_cons];exact h
    · rw[if_neg h2,List.pairwise_cons]
      exact⟨fun x hx=>by rcases List.mem_cons.1 hx with e | e;omega;have:=h.1 x e;omega,List.pairwise_cons.2 h⟩
theorem aAh:∀ (l:List Int) (n:Int),(aBb l n).length<=l.length+1
 | [],n=>by simp[aBb]
 | y::l,n=>by
  unfold aBb
  split
  · simp[aAh l n]
  · split <;> simp
def nY (l:List Int)(n:Int):Nat:=(l.takeWhile (fun x=>decide (x<n))).length
theorem aKR (l:List Int)(n:Int):nY l n<=l.length:=by
 unfold nY
 induction l with
 | nil=>simp
 | cons x l ih =>
  rw[List.takeWhile_cons]
  split
  · simpa using ih
  · simp
theorem aDA (x:Int)(l:List Int)(n:Int):nY (x::l) n=if x<n then nY l n+1 else 0:=by
 unfold nY
 rw[List.takeWhile_cons]
 by_cases h:x<n <;> simp[h]
theorem aLs:∀ (l:List Int) (n:Int),aBb l n=if l[nY l n]?=some n then l else l.take (nY l n)++[n]++l.drop (nY l n)
 | [],n=>by simp[aBb,nY]
 | x::l,n=>by
  rw[aDA]
  unfold aBb
  by_cases h:x<n
  · rw[if_pos h,if_pos h,aLs l n]
    simp only[List.getElem?_cons_succ,List.take_succ_cons,List.drop_succ_cons]
    split <;> simp
  · rw[if_neg h,if_neg h]
    by_cases h2:x=n <;> simp[h2]
theorem aNm (l:List Int)(n:Int)(h:l.length<=4294967296):lp (gH l n) 0=some ((nY l n:Nat):Int):=by
 have main:∀ m k:Nat,m+k=l.length->lp (gH l n) (k:Int)=some ((k+nY (l.drop k) n:Nat):Int):=by
  intro m
  induction m with
  | zero =>
   intro k hk
   have:k=l.length:=by omega
   subst this
   rw[aN (r:=(l.length:Int)) (by unfold gH;rw[if_neg (by omega)];rfl),List.drop_length];simp[nY]
  | succ m ih =>
   intro k hk
   have hlt:k<l.length:=by omega
   rw[List.drop_eq_getElem_cons hlt,aDA]
   by_cases c:l[k]<n
   · rw[if_pos c]
     have e:gH l n (k:Int)=some (.inl ((k:Int)+1)):=by
      unfold gH
      rw[if_pos (by omega),aM hlt,wi (by omega)]
      simp[c]
     rw[aS e,show(k:Int)+1=((k+1:Nat):Int)by omega,ih (k+1) (by omega)]
     congr 2;omega
   · rw[if_neg c]
     have e:gH l n (k:Int)=some (.inr (k:Int)):=by
      unfold gH
      rw[if_pos (by omega),aM hlt]
      simp[c]
     rw[aN e];simp
 have:=main l.length 0 (by omega)
 simpa using this
theorem aJc (l:List Int)(n:Int)(h:l.length<=4294967296):nF l n=some (aBb l n):=by
 have hf:=aKR l n
 unfold nF
 rw[aNm l n h,aLs]
 simp only[Option.bind_some]
 by_cases hlt:nY l n<l.length
 · rw[if_pos (by omega),aM hlt,List.getElem?_eq_getElem hlt]
   simp only[Option.bind_some,decide_eq_true_eq,Option.some.injEq]
   by_cases c:l[nY l n]=n
   · rw[if_pos c,if_pos c]
   · rw[if_neg c,if_neg c,pM _ _ _ (by omega),pM _ _ _ (by omega)]
     simp only[Option.bind_some,aK,List.nil_append]
     rw[aP (by simp;omega),aP (by simp;omega),aP (by simp;omega)]
     simp only[Option.bind_some]
     simp
     rw[List.take_of_length_le (by simp)]
 · have:nY l n=l.length:=by omega
   rw[if_neg (by omega),this,if_neg (by simp)]
   simp only[Option.bind_some,Bool.false_eq_true,if_false]
   rw[pM _ _ _ (by omega),pM _ _ _ (by omega)]
   simp only[Option.bind_some,aK,List.nil_append]
   rw[aP (by simp;omega),aP (by simp;omega),aP (by simp;omega)]
   simp
end Go.Ev
/- The arms of a node of a link set, both programs. -/
namespace Go.Ev
set_option linter.all false
def tU (v:Int)(l:Link):Int:=if l.fA=v then l.fB else l.fA
def tch (v:Int)(l:Link):Bool:=decide (l.fA=v\/l.fB=v)
noncomputable def aA8 (v:Int)(l:Link):l08Arm:=if l.fA=v then⟨l.fB,l.fWeight,RN l.fDX,RN l.fDY⟩else⟨l.fA,l.fWeight,l.fDX,l.fDY⟩
noncomputable def bO (v:Int)(s:List Link):List l08Arm:=(s.filter (tch v)).map (aA8 v)
theorem aK9 (v:Int)(l:Link):(aA8 v l).fnode=tU v l:=by unfold aA8 tU;split <;> rfl
theorem aHn {s:List Link}(hs:LSet s)(v:Int):((s.filter (tch v)).map (tU v)).Pairwise (· < ·):=by
 rw[List.pairwise_map]
 refine List.Pairwise.imp_of_mem (fun {a b} ha hb hr=>?_) (hs.2.sublist List.filter_sublist)
 rw[List.mem_filter]at ha hb
 have h1:=hs.1 a ha.1
 have h2:=hs.1 b hb.1
 have t1:=ha.2
 have t2:=hb.2
 unfold tch at t1 t2
 rw[decide_eq_true_eq]at t1 t2
 unfold ValidL at h1 h2
 unfold fG at hr
 unfold tU
 split <;> split <;> omega
theorem aQi {s:List Link}(hs:LSet s)(v:Int):tM s v=some ((s.filter (tch v)).map (tU v)):=by
 have hlen:=hs.len
 unfold tM
 obtain⟨e1,e2⟩:=lI (step:=oE s v) s (fun k t=>(t,(k:Int))) (fun t l=>if tch v l then aBb t (tU v l)else t) (fun t=>t)
  (fun k t=>t.length<=k/\t.Pairwise (· < ·)/\∀ x,x∈t↔x∈((s.take k).filter (tch v)).map (tU v)) (fun k t hk hI=>by
   obtain⟨i1,i2,i3⟩:=hI
   have hv:=hs.1 _ (List.getElem_mem hk)
   have w1:IntKind.i64.wrap ((k:Int)+1)=((k+1:Nat):Int):=by rw[wi (by omega)];omega
   refine⟨?_,?_,?_,?_⟩
   · unfold oE
     simp only[]
     rw[if_pos (by omega),aM hk]
     unfold ValidL at hv
     simp only[Option.bind_some,aJc t _ (by omega:t.length<=4294967296),w1]
     by_cases A:(s[k]).fA=v
     · have B:¬(s[k]).fB=v:=by omega
       simp[A,B,tch,tU]
     · by_cases B:(s[k]).fB=v
       · rw[if_neg A]
         simp only[Option.bind_some]
         rw[if_pos B,aJc t _ (by omega:t.length<=4294967296)]
         simp[A,B,tch,tU]
       · simp[A,B,tch,tU]
   · have:=aAh t (tU v s[k])
     split <;> omega
   · split
     · exact wJ _ _ i2
     · exact i2
   · intro x
     have tk:s.take (k+1)=s.take k++[s[k]]:=by rw[List.take_add_one,List.getElem?_eq_getElem hk];rfl
     rw[tk,List.filter_append,List.map_append,List.mem_append,<- i3 x]
     by_cases T:tch v s[k]=true
     · simp only[T,if_true,aAg,List.filter_cons_of_pos,List.filter_nil,List.map_cons,List.map_nil,List.mem_singleton]
       exact Or.comm
     · simp[T]) (fun t _=>by unfold oE;simp only[];rw[if_neg (by omega)]) [] ⟨by simp,List.Pairwise.nil,by simp⟩
 rw[show((0:Nat):Int)=0 from rfl]at e1
 rw[e1]
 simp only[Option.bind_some]
 congr 1
 obtain⟨_,g2,g3⟩:=e2
 rw[List.take_length]at g3
 exact aAC g2 (aHn hs v) g3
theorem LSet.uniq {s:List Link}(hs:LSet s){a b:Link}(ha:a∈s)(hb:b∈s)(h1:a.fA=b.fA)(h2:a.fB=b.fB):a=b:=by
 obtain⟨i,hi,rfl⟩:=List.getElem_of_mem ha
 obtain⟨j,hj,rfl⟩:=List.getElem_of_mem hb
 have pw:=List.pairwise_iff_getElem.1 hs.2
 rcases Nat.lt_trichotomy i j with h | h | h
 · have:=pw i j hi hj h;unfold fG at this;omega
 · subst h;rfl
 · have:=pw j i hj hi h;unfold fG at this;omega
theorem aQo (p q r t:Prop)[Decidable p][Decidable q][Decidable r][Decidable t]:((if p then(if q then some true else(if r then some (decide t)else some false))else(if r then some (decide t)else some false)):Option Bool)=some (decide ((p/\q)\/(r/\t))):=by
 by_cases p <;> by_cases q <;> by_cases r <;> by_cases t <;> simp[*]
theorem aOJ {s:List Link}(hs:LSet s){v:Int}{l:Link}(hl:l∈s)(ht:tch v l=true):wH s (tU v l) v=some (l,true):=by
 have hlen:=hs.len
 have hv:=hs.1 l hl
 unfold wH
 rw[lT s (by have:=hs.sz;omega),decide_eq_true hs]
 simp only[Option.bind_some,if_true]
 obtain⟨r,e,q⟩:=aMs (step:=qB s (tU v l) v) s.length (fun r=>r=.inr (l,true)) (fun k=>l∈s.drop k) (by simpa using hl) (fun k hk hj=>by
  have hx:=hs.1 _ (List.getElem_mem hk)
  have w1:IntKind.i64.wrap ((k:Int)+1)=((k+1:Nat):Int):=by rw[wi (by omega)];omega
  rw[List.drop_eq_getElem_cons hk]at hj
  have st:qB s (tU v l) v (k:Int)=some (if(((s[k]).fA=tU v l/\(s[k]).fB=v)\/((s[k]).fA=v/\(s[k]).fB=tU v l))then .inr (.inr (s[k],true))else .inl ((k+1:Nat):Int)):=by
   unfold qB
   rw[if_pos (by omega),aM hk]
   simp only[Option.bind_some,w1,tO s[k] (by have:=hx.sz;omega)]
   rw[aQo]
   simp only[Option.bind_some]
   by_cases c:((s[k]).fA=tU v l/\(s[k]).fB=v)\/((s[k]).fA=v/\(s[k]).fB=tU v l)
   · rw[if_pos c,decide_eq_true c];rfl
   · rw[if_neg c,decide_eq_false c];rfl
  unfold tch at ht
  rw[decide_eq_true_eq]at ht
  unfold ValidL at hx hv
  by_cases c:((s[k]).fA=tU v l/\(s[k]).fB=v)\/((s[k]).fA=v/\(s[k]).fB=tU v l)
  · rw[if_pos c]at st
    right
    refine⟨_,st,?_⟩
    have:s[k]=l:=by
     refine hs.uniq (List.getElem_mem hk) hl ?_ ?_
     · unfold tU at c;split at c <;> omega
     · unfold tU at c;split at c <;> omega
    rw[this]
  · rw[if_neg c]at st
    left
    refine⟨st,?_⟩
    rcases List.mem_cons.1 hj with e | e
    · exfalso;apply c
      rw[<- e];unfold tU;split <;> omega
    · exact e) (fun hj=>by rw[List.drop_length]at hj;cases hj)
 rw[e,q];rfl
theorem aP3 {r:Rat}(h:VZ r):VZ (RN r):=(aMP h).2.2
def uR (a:l08Arm):Prop:=(0<=a.fnode/\a.fnode<=9)/\VZ a.fweight/\VZ a.fdx/\VZ a.fdy
theorem aJX {v:Int}{l:Link}(h:ValidL l):uR (aA8 v l):=by
 obtain⟨h1,h2,h3⟩:=h.vz
 unfold aA8
 split
 · exact⟨h.2.1,h1,aP3 h2,aP3 h3⟩
 · exact⟨h.1,h1,h2,h3⟩
theorem aGw {s:List Link}(hs:LSet s)(v:Int):∀ a∈bO v s,uR a:=by
 intro a ha
 obtain⟨l,hl,rfl⟩:=List.mem_map.1 ha
 exact aJX (hs.1 l (List.mem_filter.1 hl).1)
theorem aCc {s:List Link}(hs:LSet s)(v:Int):(bO v s).length<=100:=by
 have:=hs.len
 have:=List.length_filter_le (tch v) s
 unfold bO
 rw[List.length_map];omega
theorem aMK {s:List Link}(hs:LSet s)(v:Int):((bO v s).map (·.fnode)).Pairwise (· < ·):=by
 have:=aHn hs v
 unfold bO
 rw[List.map_map]
 have e:(fun a:l08Arm=>a.fnode) ∘ aA8 v=tU v:=by funext l;exact aK9 v l
 rw[e];exact this
theorem aQF {s:List Link}(hs:LSet s)(v:Int):tL s v=some (bO v s):=by
 have hal:=aCc hs v
 unfold tL
 rw[aQi hs v]
 simp only[Option.bind_some]
 have hfl:((s.filter (tch v)).map (tU v)).length=(bO v s).length:=by unfold bO;rw[List.length_map,List.length_map]
 have:=aAq (step:=oD s v ((s.filter (tch v)).map (tU v))) (bO v s) (fun k t=>((k:Int),t)) (fun t=>t) (fun k t hk ht=>by
  have hk2:k<(s.filter (tch v)).length:=by unfold bO at hk;rwa [List.length_map]at hk
  have hk3:k<((s.filter (tch v)).map (tU v)).length:=by rwa [List.length_map]
  have hm:=List.mem_filter.1 (List.getElem_mem hk2)
  have w1:IntKind.i64.wrap ((k:Int)+1)=((k+1:Nat):Int):=by rw[wi (by omega)];omega
  have hv:=hs.1 _ hm.1
  obtain⟨v1,v2,v3⟩:=hv.vz
  have g:=aOJ hs hm.1 hm.2
  have ea:(bO v s)[k]=aA8 v (s.filter (tch v))[k]:=by simp only[bO,List.getElem_map]
  unfold oD
  simp only[]
  rw[if_pos (by omega),aM hk3,List.getElem_map]
  simp only[Option.bind_some,g,(aMP v2).1,(aMP v3).1,w1]
  rw[ea]
  unfold aA8
  by_cases A:((s.filter (tch v))[k]).fA=v
  · rw[if_pos A,if_pos A]
    simp only[Option.bind_some,tU,A,if_true]
    rw[aP (by omega)];rfl
  · rw[if_neg A,if_neg A]
    simp only[Option.bind_some,tU,A,if_false]
    rw[aP (by omega)];rfl) (fun t ht=>by unfold oD;simp only[];rw[if_neg (by omega)])
 rw[show((0:Nat):Int)=0 from rfl]at this
 rw[this];rfl
end Go.Ev
/- Eliminating a node of a link set, both programs. -/
namespace Go.Ev
open IntKind
set_option linter.all false
noncomputable def rR (a:List l08Arm):Rat:=a.foldl (fun t a=>RA t a.fweight) (eF 0)
noncomputable def gA (t:Rat)(a:l08Arm):Parent:=⟨a.fnode,RD a.fweight t,a.fdx,a.fdy⟩
noncomputable def uO (t:Rat)(a b:l08Arm):Link:=⟨a.fnode,b.fnode,RD (RM a.fweight b.fweight) t,RS a.fdx b.fdx,RS a.fdy b.fdy⟩
noncomputable def iR (t:Rat):List l08Arm->List Link
 | []=>[]
 | a::r=>r.map (uO t a)++iR t r
noncomputable def aCE (v:Int)(a:List l08Arm):Conditional:=⟨v,rR a,a.map (gA (rR a))⟩
def condOk (v:Int)(a:List l08Arm):Prop:=bJ (aCE v a)=some true
noncomputable instance (v:Int)(a:List l08Arm):Decidable (condOk v a):=Classical.propDecidable _
noncomputable def yU (v:Int)(s:List Link):Option (Conditional×List Link) :=
 if(1<=v/\v<=9)/\condOk v (bO v s)/\(∀ x∈iR (rR (bO v s)) (bO v s),ValidL x)then some (aCE v (bO v s),iR (rR (bO v s)) (bO v s))else none
theorem aID {v:Int}{s:List Link}(h:(1<=v/\v<=9)/\condOk v (bO v s)/\(∀ x∈iR (rR (bO v s)) (bO v s),ValidL x)):yU v s=some (aCE v (bO v s),iR (rR (bO v s)) (bO v s)):=by unfold yU;rw[if_pos h]
theorem aB8 {v:Int}{s:List Link}(h:¬((1<=v/\v<=9)/\condOk v (bO v s)/\(∀ x∈iR (rR (bO v s)) (bO v s),ValidL x))):yU v s=none:=by unfold yU;rw[if_neg h]
def aE9:Conditional:=Conditional.mk 0 (Rat.mk (BigInt.mk false ([])) ([])) ([])
def pkE:Option (Conditional×List Link)->Conditional×List Link×Bool
 | some (c,m)=>(c,m,true)
 | none=>(aE9,[],false)
theorem aJI:∀ (a:List l08Arm) (t:Rat),(∀ x∈a,uR x)->VZ t->VZ (a.foldl (fun t a=>RA t a.fweight) t)
 | [],t,_,h=>h
 | x::a,t,ho,h=>aJI a _ (fun y hy=>ho y (by simp[hy])) (yY h (ho x (by simp)).2.1).2.2
theorem aAA {a:List l08Arm}(h:∀ x∈a,uR x):VZ (rR a):=aJI a _ h (.inl aBW)
theorem aCS {α β:Type}(g:α->β):∀ (l:List α) (t:List β),l.foldl (fun t b=>t++[g b]) t=t++l.map g
 | [],t=>by simp
 | x::l,t=>by rw[List.foldl_cons,aCS g l,List.map_cons,List.append_assoc];rfl
theorem aJm {t:Rat}{a b:l08Arm}(ht:VZ t)(ha:uR a)(hb:uR b):bV (uO t a b)<=144:=by
 have h1:=lS (aDI (aBf ha.2.1 hb.2.1).2.2 ht).2.2
 have h2:=lS (aIP ha.2.2.1 hb.2.2.1).2.2
 have h3:=lS (aIP ha.2.2.2 hb.2.2.2).2.2
 unfold bV uO;simp only[];omega
theorem aLD {t:Rat}(ht:VZ t):∀ {a:List l08Arm},(∀ x∈a,uR x)->∀ x∈iR t a,bV x<=144
 | [],_,x,hx=>by cases hx
 | a::r,h,x,hx=>by
  rw[iR]at hx
  rcases List.mem_append.1 hx with hx | hx
  · obtain⟨b,hb,rfl⟩:=List.mem_map.1 hx
    exact aJm ht (h a (by simp)) (h b (by simp[hb]))
  · exact aLD ht (fun y hy=>h y (by simp[hy])) x hx
theorem aFU (t:Rat):∀ {a:List l08Arm} {n:Nat},a.length<=n->(iR t a).length<=n*a.length
 | [],n,_=>by simp[iR]
 | a::r,n,h=>by
  rw[List.length_cons]at h
  have:=aFU t (a:=r) (n:=n) (by omega)
  rw[iR,List.length_append,List.length_map,List.length_cons,Nat.mul_add,Nat.mul_one];omega
theorem aNU (t:Rat):∀ {a:List l08Arm} {x:Link},x∈iR t a->∃ y∈a,x.fA=y.fnode
 | [],x,hx=>by cases hx
 | a::r,x,hx=>by
  rw[iR]at hx
  rcases List.mem_append.1 hx with hx | hx
  · obtain⟨b,hb,rfl⟩:=List.mem_map.1 hx
    exact⟨a,by simp,rfl⟩
  · obtain⟨y,hy,e⟩:=aNU t hx
    exact⟨y,by simp[hy],e⟩
theorem aJq (t:Rat):∀ {a:List l08Arm},(a.map (·.fnode)).Pairwise (· < ·)->(iR t a).Pairwise fG
 | [],_=>List.Pairwise.nil
 | a::r,h=>by
  rw[List.map_cons,List.pairwise_cons]at h
  rw[iR,List.pairwise_append]
  refine⟨?_,aJq t h.2,fun x hx y hy=>?_⟩
  · rw[List.pairwise_map]
    have:=h.2
    rw[List.pairwise_map]at this
    exact this.imp (fun {b c} hbc=>.inr ⟨rfl,hbc⟩)
  · obtain⟨b,hb,rfl⟩:=List.mem_map.1 hx
    obtain⟨z,hz,e⟩:=aNU t hy
    exact .inl (by rw[e];exact h.1 _ (List.mem_map.2 ⟨z,hz,rfl⟩))
theorem aHr {t:Rat}{a:List l08Arm}(h:(a.map (·.fnode)).Pairwise (· < ·)):LSet (iR t a)↔∀ x∈iR t a,ValidL x:=⟨fun g=>g.1,fun g=>⟨g,aJq t h⟩⟩
theorem aMB {a:List l08Arm}(ha:∀ x∈a,uR x)(hl:a.length<=100):lp (fK a) (0,eF 0)=some (rR a):=by
 have:=(lI (step:=fK a) a (fun k t=>((k:Int),t)) (fun t a=>RA t a.fweight) (fun t=>t) (fun _ t=>VZ t) (fun k t hk hi=>by
  have w1:i64.wrap ((k:Int)+1)=((k+1:Nat):Int):=by rw[wi (by omega)];omega
  obtain⟨q1,_,q3⟩:=yY hi (ha _ (List.getElem_mem hk)).2.1
  refine⟨?_,q3⟩
  unfold fK
  simp only[]
  rw[if_pos (by omega),aM hk]
  simp only[Option.bind_some,q1,w1]) (fun t _=>by unfold fK;simp only[];rw[if_neg (by omega)]) (eF 0) (.inl aBW)).1
 rw[show((0:Nat):Int)=0 from rfl]at this
 exact this
theorem aMD {a:List l08Arm}{t:Rat}(ht:VZ t)(ha:∀ x∈a,uR x)(hl:a.length<=100):lp (fJ a t) (0,[])=some (a.map (gA t)):=by
 have:=aAq (step:=fJ a t) (a.map (gA t)) (fun k t=>((k:Int),t)) (fun t=>t) (fun k u hk hu=>by
  have hk2:k<a.length:=by rwa [List.length_map]at hk
  have w1:i64.wrap ((k:Int)+1)=((k+1:Nat):Int):=by rw[wi (by omega)];omega
  have ho:=ha _ (List.getElem_mem hk2)
  have q:=(aDI ho.2.1 ht).1
  unfold fJ
  simp only[]
  rw[if_pos (by omega),aM hk2]
  simp only[Option.bind_some,q,pW _ (VZs ho.2.2.1),pW _ (VZs ho.2.2.2),w1]
  rw[aP (by omega)]
  simp only[Option.bind_some,vC,List.getElem_map]
  rfl) (fun u hu=>by unfold fJ;simp only[];rw[List.length_map,if_neg (by omega)])
 rw[show((0:Nat):Int)=0 from rfl]at this
 exact this
theorem aMC {r:List l08Arm}{x:l08Arm}{t:Rat}(ht:VZ t)(hx:uR x)(hr:∀ y∈r,uR y)(hl:r.length<=100)(acc:List Link)(hacc:acc.length<=1000000) :
 lp (fI r x t) (0,acc)=some (acc++r.map (uO t x)):=by
 have:=(lI (step:=fI r x t) r (fun k u=>((k:Int),u)) (fun u b=>u++[uO t x b]) (fun u=>u) (fun k u=>u.length<=1000000+k) (fun k u hk hi=>by
  have w1:i64.wrap ((k:Int)+1)=((k+1:Nat):Int):=by rw[wi (by omega)];omega
  have ho:=hr _ (List.getElem_mem hk)
  have q0:=aBf hx.2.1 ho.2.1
  have q1:=(aDI q0.2.2 ht).1
  have q2:=(aIP hx.2.2.1 ho.2.2.1).1
  have q3:=(aIP hx.2.2.2 ho.2.2.2).1
  refine⟨?_,by rw[List.length_append,List.length_singleton];omega⟩
  unfold fI
  simp only[]
  rw[if_pos (by omega),aM hk]
  simp only[Option.bind_some,q0.1,q1,q2,q3,w1]
  rw[aP (by omega)]
  rfl) (fun u _=>by unfold fI;simp only[];rw[if_neg (by omega)]) acc (by omega)).1
 rw[show((0:Nat):Int)=0 from rfl,aCS]at this
 exact this
theorem aM3 {α:Type}(l:List α)(k:Nat)(hk:k+1<=l.length)(hl:l.length<=4294967296):sub l (i64.wrap ((k:Int)+1)) (l.length:Int)=some (l.drop (k+1)):=by
 have w1:i64.wrap ((k:Int)+1)=((k+1:Nat):Int):=by rw[wi (by omega)];omega
 rw[w1,pM _ _ _ (by omega)];congr 1
 rw[List.take_of_length_le];rfl
 rw[List.length_drop];omega
theorem aKT {a:List l08Arm}{t:Rat}(ht:VZ t)(ha:∀ x∈a,uR x)(hl:a.length<=100):lp (dW a t) (0,[])=some (iR t a):=by
 have main:∀ m k:Nat,m+k=a.length->∀ acc:List Link,acc.length<=100*k->lp (dW a t) ((k:Int),acc)=some (acc++iR t (a.drop k)):=by
  intro m
  induction m with
  | zero =>
   intro k hk acc hacc
   rw[List.drop_eq_nil_of_le (by omega),iR,List.append_nil]
   exact aN (by unfold dW;simp only[];rw[if_neg (by omega)])
  | succ m ih =>
   intro k hk acc hacc
   have hlt:k<a.length:=by omega
   have w1:i64.wrap ((k:Int)+1)=((k+1:Nat):Int):=by rw[wi (by omega)];omega
   rw[List.drop_eq_getElem_cons hlt,iR]
   have row:=aMC (r:=a.drop (k+1)) ht (ha _ (List.getElem_mem hlt)) (fun y hy=>ha y (List.mem_of_mem_drop hy)) (by rw[List.length_drop];omega) acc (by omega)
   have st:dW a t ((k:Int),acc)=some (.inl (((k+1:Nat):Int),acc++(a.drop (k+1)).map (uO t a[k]))):=by
    unfold dW
    simp only[]
    rw[if_pos (by omega),aM hlt,aM3 a k (by omega) (by omega)]
    simp only[Option.bind_some,row,w1]
   rw[aS st,ih (k+1) (by omega) _ (by rw[List.length_append,List.length_map,List.length_drop];omega),List.append_assoc]
 have:=main a.length 0 (by omega) [] (by simp)
 rw[show((0:Nat):Int)=0 from rfl,List.drop_zero,List.nil_append]at this
 exact this
theorem aIF {v:Int}{a:List l08Arm}(ha:∀ x∈a,uR x)(hl:a.length<=100):aU (aCE v a)<=4294967296:=by
 have h1:=lS (aAA ha)
 have h2:nE (a.map (gA (rR a)))<=145*(a.map (gA (rR a))).length:=aDL (c:=144) (fun p hp=>by
  obtain⟨x,hx,rfl⟩:=List.mem_map.1 hp
  have ho:=ha x hx
  have g1:=lS (aDI ho.2.1 (aAA ha)).2.2
  have g2:=lS ho.2.2.1
  have g3:=lS ho.2.2.2
  unfold jI gA;simp only[];omega)
 rw[List.length_map]at h2
 unfold aU aCE;simp only[];omega
theorem aPj {s:List Link}(hs:LSet s)(v:Int):kF s v=some (pkE (yU v s)):=by
 have ha:=aGw hs v
 have hl:=aCc hs v
 have ht:=aAA ha
 obtain⟨b,b1,b2,_⟩:=aIL _ (aIF (v:=v) ha hl)
 have inc:=aMK hs v
 unfold kF
 rw[lT s (by have:=hs.sz;omega),decide_eq_true hs,aAP]
 simp only[Option.bind_some,if_true]
 by_cases c:1<=v/\v<=9
 · rw[decide_eq_true c]
   simp only[Bool.not_true,Bool.false_eq_true,if_false]
   rw[aQF hs v,bZ 0 (by omega)]
   simp only[Option.bind_some]
   rw[aMB ha hl]
   simp only[Option.bind_some]
   rw[aMD ht ha hl]
   simp only[Option.bind_some]
   rw[aKT ht ha hl]
   simp only[Option.bind_some]
   have e:(Conditional.mk v (rR (bO v s)) ((bO v s).map (gA (rR (bO v s)))))=aCE v (bO v s):=rfl
   rw[e,b1]
   simp only[Option.bind_some]
   have hms:=aDL (aLD ht ha)
   have hml:=aFU (rR (bO v s)) (a:=bO v s) (Nat.le_refl _)
   have hm2:(bO v s).length*(bO v s).length<=100*100:=Nat.mul_le_mul hl hl
   rw[lT _ (by unfold aL;omega)]
   cases b with
   | false =>
    have:¬condOk v (bO v s):=by unfold condOk;rw[b1];simp
    rw[aB8 (fun h=>this h.2.1)];rfl
   | true =>
    have hc:condOk v (bO v s):=b1
    simp only[if_true,Option.bind_some]
    by_cases d:∀ x∈iR (rR (bO v s)) (bO v s),ValidL x
    · rw[decide_eq_true ((aHr inc).2 d),aID ⟨c,hc,d⟩];rfl
    · rw[decide_eq_false (fun h=>d ((aHr inc).1 h)),aB8 (fun h=>d h.2.2)];rfl
 · rw[decide_eq_false c]
   rw[aB8 (fun h=>c h.1)];rfl
def yD (a:l08Arm):Parent:=⟨a.fnode,nJ,a.fdx,a.fdy⟩
theorem aK8 (v:Int)(s:List Link)(k:Nat)(hk:k<s.length):bO v (s.take (k+1))=bO v (s.take k)++(if tch v s[k]then [aA8 v s[k]]else []):=by
 have tk:s.take (k+1)=s.take k++[s[k]]:=by rw[List.take_add_one,List.getElem?_eq_getElem hk];rfl
 unfold bO
 rw[tk,List.filter_append,List.map_append]
 congr 1
 by_cases c:tch v s[k] <;> simp[c]
theorem aKV {s:List Link}(hs:LSet s)(v:Int):lp (dZ s v) (0,eF 0,[],[])=some (rR (bO v s),(bO v s).map (·.fweight),(bO v s).map yD):=by
 have hlen:=hs.len
 have hpre:∀ k,∀ a∈bO v (s.take k),uR a:=fun k a ha=>by
  obtain⟨l,hl,rfl⟩:=List.mem_map.1 ha
  exact aJX (hs.1 l (List.mem_of_mem_take (List.mem_filter.1 hl).1))
 have hpl:∀ k,(bO v (s.take k)).length<=100:=fun k=>by
  have:=List.length_filter_le (tch v) (s.take k)
  have h2:(s.take k).length<=s.length:=by rw[List.length_take];omega
  unfold bO;rw[List.length_map];omega
 have main:∀ m k:Nat,m+k=s.length->lp (dZ s v) ((k:Int),rR (bO v (s.take k)),(bO v (s.take k)).map (·.fweight),(bO v (s.take k)).map yD)=some (rR (bO v s),(bO v s).map (·.fweight),(bO v s).map yD):=by
  intro m
  induction m with
  | zero =>
   intro k hk
   rw[List.take_of_length_le (by omega)]
   exact aN (by unfold dZ;simp only[];rw[if_neg (by omega)])
  | succ m ih =>
   intro k hk
   have hlt:k<s.length:=by omega
   have w1:i64.wrap ((k:Int)+1)=((k+1:Nat):Int):=by rw[wi (by omega)];omega
   have hv:=hs.1 _ (List.getElem_mem hlt)
   obtain⟨v1,v2,v3⟩:=hv.vz
   have n1:=(aMP v2).2.1
   have n2:=(aMP v3).2.1
   have ra:=(yY (aAA (hpre k)) v1).2.1
   have hp:=hpl k
   have st:dZ s v ((k:Int),rR (bO v (s.take k)),(bO v (s.take k)).map (·.fweight),(bO v (s.take k)).map yD)=some (.inl (((k+1:Nat):Int),rR (bO v (s.take (k+1))),(bO v (s.take (k+1))).map (·.fweight),(bO v (s.take (k+1))).map yD)):=by
    rw[aK8 v s k hlt]
    unfold dZ
    simp only[]
    rw[if_pos (by omega),aM hlt]
    simp only[Option.bind_some,n1,n2,ra,w1]
    have k1:∀ {α:Type} {f:l08Arm->α},((bO v (s.take k)).map f).length<=100:=by intro α f;rw[List.length_map];exact hp
    by_cases A:(s[k]).fA=v
    · rw[if_pos A,aP (by have:=k1 (f:=yD);omega)]
      simp only[Option.bind_some,vC]
      rw[aP (by have:=k1 (f:=fun a=>a.fweight);omega)]
      simp[tch,A,aA8,rR,yD,nJ,ra]
    · by_cases B:(s[k]).fB=v
      · rw[if_neg A,if_pos B,aP (by have:=k1 (f:=yD);omega)]
        simp only[Option.bind_some,vC]
        rw[aP (by have:=k1 (f:=fun a=>a.fweight);omega)]
        simp[tch,A,B,aA8,rR,yD,nJ,ra]
      · simp[tch,A,B]
   rw[aS st]
   exact ih (k+1) (by omega)
 have:=main s.length 0 (by omega)
 simpa [bO,rR]using this
theorem aMF {a:List l08Arm}{t:Rat}(ht:VZ t)(ha:∀ x∈a,uR x)(hl:a.length<=100):lp (dY (t,a.map (·.fweight),a.map yD)) (0,a.map yD)=some (a.map (gA t)):=by
 have main:∀ m k:Nat,m+k=a.length->lp (dY (t,a.map (·.fweight),a.map yD)) ((k:Int),(a.take k).map (gA t)++(a.drop k).map yD)=some (a.map (gA t)):=by
  intro m
  induction m with
  | zero =>
   intro k hk
   refine aN ?_
   unfold dY
   simp only[List.length_map]
   rw[if_neg (by omega),List.drop_eq_nil_of_le (by omega),List.take_of_length_le (by omega)]
   simp
  | succ m ih =>
   intro k hk
   have hlt:k<a.length:=by omega
   have w1:i64.wrap ((k:Int)+1)=((k+1:Nat):Int):=by rw[wi (by omega)];omega
   have ho:=ha _ (List.getElem_mem hlt)
   have q:=(aDI ho.2.1 ht).2.1
   have tl:((a.take k).map (gA t)).length=k:=by rw[List.length_map,List.length_take];omega
   have e1:idx (a.map (fun x=>x.fweight)) (k:Int)=some (a[k]).fweight:=by rw[aM (by rwa [List.length_map]),List.getElem_map]
   have e2:idx ((a.take k).map (gA t)++(a.drop k).map yD) (k:Int)=some (yD a[k]):=by
    rw[aIz,List.getElem?_append_right (by omega),tl,Nat.sub_self,List.drop_eq_getElem_cons hlt];rfl
   have e3:jX ((a.take k).map (gA t)++(a.drop k).map yD) (k:Int) (gA t a[k])=(a.take (k+1)).map (gA t)++(a.drop (k+1)).map yD:=by
    rw[sA,List.set_append_right _ _ (by omega),tl,Nat.sub_self,List.drop_eq_getElem_cons hlt,List.map_cons,List.set_cons_zero,List.take_add_one,List.getElem?_eq_getElem hlt,List.map_append,List.append_assoc]
    rfl
   have st:dY (t,a.map (·.fweight),a.map yD) ((k:Int),(a.take k).map (gA t)++(a.drop k).map yD)=some (.inl (((k+1:Nat):Int),(a.take (k+1)).map (gA t)++(a.drop (k+1)).map yD)):=by
    unfold dY
    simp only[List.length_map]
    rw[if_pos (by omega),e1]
    simp only[Option.bind_some,q,e2,vC,w1]
    have:(Parent.mk (yD a[k]).fNode (RD (a[k]).fweight t) (yD a[k]).fDX (yD a[k]).fDY)=gA t a[k]:=rfl
    rw[this,e3]
   rw[aS st]
   exact ih (k+1) (by omega)
 have:=main a.length 0 (by omega)
 simpa using this
def aFt (t:Rat)(x:l08Arm)(r:List l08Arm):Prop:=∀ y∈r,ValidL (uO t x y)
noncomputable instance (t:Rat)(x:l08Arm)(r:List l08Arm):Decidable (aFt t x r):=Classical.propDecidable _
theorem aME {a:List l08Arm}{t:Rat}(ht:VZ t)(ha:∀ x∈a,uR x)(hl:a.length<=100)(q0:List Parent)(i:Nat)(hi:i<a.length):∀ m j:Nat,m+j=a.length->∀ acc:List Link,acc.length<=1000000+j->
 lp (fL (a.map (gA t)) (t,a.map (·.fweight),q0) (i:Int) (gA t a[i])) ((j:Int),acc)=some (if aFt t a[i] (a.drop j)then .inl (acc++(a.drop j).map (uO t a[i]))else .inr (aE9,[],false)):=by
 intro m
 induction m with
 | zero =>
  intro j hj acc hacc
  rw[List.drop_eq_nil_of_le (by omega),if_pos (by intro y hy;cases hy),List.map_nil,List.append_nil]
  exact aN (by unfold fL;simp only[List.length_map];rw[if_neg (by omega)])
 | succ m ih =>
  intro j hj acc hacc
  have hlt:j<a.length:=by omega
  have w1:i64.wrap ((j:Int)+1)=((j+1:Nat):Int):=by rw[wi (by omega)];omega
  have hx:=ha _ (List.getElem_mem hi)
  have ho:=ha _ (List.getElem_mem hlt)
  have p0:=aBf hx.2.1 ho.2.1
  have p1:=(aDI p0.2.2 ht).2.1
  have p2:=(aIP hx.2.2.1 ho.2.2.1).2.1
  have p3:=(aIP hx.2.2.2 ho.2.2.2).2.1
  have vl:=(iL (uO t a[i] a[j]) (by have:=aJm ht hx ho;omega)).2
  have e0:idx (a.map (gA t)) (j:Int)=some (gA t a[j]):=by rw[aM (by rwa [List.length_map]),List.getElem_map]
  have e1:idx (a.map (fun x=>x.fweight)) (i:Int)=some (a[i]).fweight:=by rw[aM (by rwa [List.length_map]),List.getElem_map]
  have e2:idx (a.map (fun x=>x.fweight)) (j:Int)=some (a[j]).fweight:=by rw[aM (by rwa [List.length_map]),List.getElem_map]
  have st:fL (a.map (gA t)) (t,a.map (·.fweight),q0) (i:Int) (gA t a[i]) ((j:Int),acc)=some (if ValidL (uO t a[i] a[j])then .inl (((j+1:Nat):Int),acc++[uO t a[i] a[j]])else .inr (.inr (aE9,[],false))):=by
   unfold fL
   simp only[List.length_map]
   rw[if_pos (by omega),e0,e1,e2]
   simp only[Option.bind_some,p0.2.1,p1,w1]
   have f1:(gA t a[i]).fDX=(a[i]).fdx:=rfl
   have f2:(gA t a[i]).fDY=(a[i]).fdy:=rfl
   have f3:(gA t a[j]).fDX=(a[j]).fdx:=rfl
   have f4:(gA t a[j]).fDY=(a[j]).fdy:=rfl
   rw[f1,f2,f3,f4,p2]
   simp only[Option.bind_some]
   rw[p3]
   simp only[Option.bind_some]
   have f5:(Link.mk (gA t a[i]).fNode (gA t a[j]).fNode (RD (RM (a[i]).fweight (a[j]).fweight) t) (RS (a[i]).fdx (a[j]).fdx) (RS (a[i]).fdy (a[j]).fdy))=uO t a[i] a[j]:=rfl
   rw[f5,vl]
   simp only[Option.bind_some]
   by_cases c:ValidL (uO t a[i] a[j])
   · rw[decide_eq_true c,if_pos rfl,if_pos c,aP (by omega)];rfl
   · rw[decide_eq_false c,if_neg c];rfl
  rw[List.drop_eq_getElem_cons hlt]
  by_cases c:ValidL (uO t a[i] a[j])
  · rw[if_pos c]at st
    rw[aS st,ih (j+1) (by omega) _ (by rw[List.length_append,List.length_singleton];omega)]
    have:aFt t a[i] (a[j]::a.drop (j+1))↔aFt t a[i] (a.drop (j+1)):=⟨fun h x hx'=>h x (List.mem_cons_of_mem _ hx'),fun h x hx'=>by rcases List.mem_cons.1 hx' with rfl | h';exact c;exact h x h'⟩
    simp only[this,List.map_cons,List.append_assoc,List.singleton_append]
  · rw[if_neg c]at st
    rw[aN st,if_neg (fun h=>c (h _ List.mem_cons_self))]
theorem aKU {a:List l08Arm}{t:Rat}(ht:VZ t)(ha:∀ x∈a,uR x)(hl:a.length<=100)(q0:List Parent):lp (dX (a.map (gA t)) (t,a.map (·.fweight),q0)) (0,[])=some (if ∀ x∈iR t a,ValidL x then .inl (iR t a)else .inr (aE9,[],false)):=by
 have main:∀ m k:Nat,m+k=a.length->∀ acc:List Link,acc.length<=100*k->lp (dX (a.map (gA t)) (t,a.map (·.fweight),q0)) ((k:Int),acc)=some (if ∀ x∈iR t (a.drop k),ValidL x then .inl (acc++iR t (a.drop k))else .inr (aE9,[],false)):=by
  intro m
  induction m with
  | zero =>
   intro k hk acc hacc
   rw[List.drop_eq_nil_of_le (by omega),if_pos (by simp[iR]),iR,List.append_nil]
   exact aN (by unfold dX;simp only[List.length_map];rw[if_neg (by omega)])
  | succ m ih =>
   intro k hk acc hacc
   have hlt:k<a.length:=by omega
   have w1:i64.wrap ((k:Int)+1)=((k+1:Nat):Int):=by rw[wi (by omega)];omega
   have e0:idx (a.map (gA t)) (k:Int)=some (gA t a[k]):=by rw[aM (by rwa [List.length_map]),List.getElem_map]
   have row:=aME ht ha hl q0 k hlt (a.length-(k+1)) (k+1) (by omega) acc (by omega)
   rw[List.drop_eq_getElem_cons hlt,iR]
   have st:dX (a.map (gA t)) (t,a.map (·.fweight),q0) ((k:Int),acc)=some (if aFt t a[k] (a.drop (k+1))then .inl (((k+1:Nat):Int),acc++(a.drop (k+1)).map (uO t (a[k]'hlt)))else .inr (.inr (aE9,[],false))):=by
    unfold dX
    simp only[List.length_map]
    rw[if_pos (by omega),e0]
    simp only[Option.bind_some,w1,row]
    by_cases c:aFt t a[k] (a.drop (k+1))
    · rw[if_pos c,if_pos c]
    · rw[if_neg c,if_neg c]
   by_cases c:aFt t a[k] (a.drop (k+1))
   · rw[if_pos c]at st
     rw[aS st,ih (k+1) (by omega) _ (by rw[List.length_append,List.length_map,List.length_drop];omega)]
     have:(∀ x∈(a.drop (k+1)).map (uO t a[k])++iR t (a.drop (k+1)),ValidL x)↔∀ x∈iR t (a.drop (k+1)),ValidL x:=⟨fun h x hx=>h x (List.mem_append_right _ hx),fun h x hx=>by
      rcases List.mem_append.1 hx with hx | hx
      · obtain⟨y,hy,rfl⟩:=List.mem_map.1 hx;exact c y hy
      · exact h x hx⟩
     simp only[this,List.append_assoc]
   · rw[if_neg c]at st
     rw[aN st,if_neg]
     intro h
     exact c fun y hy=>h _ (List.mem_append_left _ (List.mem_map.2 ⟨y,hy,rfl⟩))
 have:=main a.length 0 (by omega) [] (by simp)
 rw[show((0:Nat):Int)=0 from rfl,List.drop_zero,List.nil_append]at this
 exact this
theorem aPk {s:List Link}(hs:LSet s)(v:Int):kN s v=some (pkE (yU v s)):=by
 have ha:=aGw hs v
 have hl:=aCc hs v
 have ht:=aAA ha
 obtain⟨b,b1,b2,_⟩:=aIL _ (aIF (v:=v) ha hl)
 unfold kN
 have e0:((if v<1 then some true else some (decide (10<=v))):Option Bool)=some (!decide (1<=v/\v<=9)):=by
  by_cases A:v<1
  · have:¬1<=v:=by omega
    simp[A,this]
  · by_cases B:10<=v
    · have:¬v<=9:=by omega
      simp[A,B,this]
    · have h1:1<=v:=by omega
      have h2:v<=9:=by omega
      simp[A,B,h1,h2]
 rw[e0]
 simp only[Option.bind_some]
 by_cases c:1<=v/\v<=9
 · rw[decide_eq_true c]
   simp only[Bool.not_true,Bool.false_eq_true,if_false]
   rw[dH 0 (by omega)]
   simp only[Option.bind_some]
   rw[aKV hs v]
   simp only[Option.bind_some]
   rw[aMF ht ha hl]
   simp only[Option.bind_some]
   have e:(Conditional.mk v (rR (bO v s)) ((bO v s).map (gA (rR (bO v s)))))=aCE v (bO v s):=rfl
   rw[e,b2]
   simp only[Option.bind_some]
   cases b with
   | false =>
    have:¬condOk v (bO v s):=by unfold condOk;rw[b1];simp
    rw[aB8 (fun h=>this h.2.1)];rfl
   | true =>
    have hc:condOk v (bO v s):=b1
    simp only[if_true]
    rw[aKU ht ha hl]
    by_cases d:∀ x∈iR (rR (bO v s)) (bO v s),ValidL x
    · rw[if_pos d,aID ⟨c,hc,d⟩];rfl
    · rw[if_neg d,aB8 (fun h=>d h.2.2)];rfl
 · rw[decide_eq_false c]
   rw[aB8 (fun h=>c h.1)];rfl
end Go.Ev
/- Reducing a node of a link set and a node of a tree, both programs. -/
namespace Go.Ev
set_option linter.all false
theorem wi1 {k:Nat}(h:k<=4294967296):IntKind.i64.wrap ((k:Int)+1)=((k+1:Nat):Int):=by rw[wi (by omega)];omega
def zH (v:Int)(s:List Link):List Link:=s.filter (fun l=>!tch v l)
theorem xU {α:Type}(p:α->Bool):∀ (l t:List α),l.foldl (fun t x=>if p x=true then t++[x]else t) t=t++l.filter p
 | [],t=>by simp
 | x::l,t=>by
  rw[List.foldl_cons,xU p l,List.filter_cons]
  by_cases c:p x=true
  · simp only[c,if_true,List.append_assoc,List.singleton_append]
  · simp only[Bool.not_eq_true]at c;simp[c]
theorem aPE (v:Int)(l:Link):((if l.fA≠v then some (decide (l.fB≠v))else some false):Option Bool)=some (!tch v l):=by
 unfold tch;by_cases A:l.fA=v <;> by_cases B:l.fB=v <;> simp[A,B]
theorem aL6 {s:List Link}(h:s.length<=4294967296)(v:Int):mQ s v=some (zH v s):=by
 have:=(lI (step:=jN s v) s (fun k t=>((k:Int),t)) (fun t x=>if(fun l=>!tch v l) x=true then t++[x]else t) (fun t=>t) (fun k t=>t.length<=k) (fun k t hk hi=>by
  constructor
  · unfold jN
    simp only[]
    rw[if_pos (by omega),aM hk]
    simp only[Option.bind_some,aPE,wi1 (by omega:k<=4294967296)]
    by_cases c:tch v s[k]=true
    · rw[if_neg (by simp[c]),if_neg (by simp[c])]
    · rw[if_pos (by simpa using c),if_pos (by simpa using c),aP (by omega)];rfl
  · simp only[];split
    · rw[List.length_append,List.length_singleton];omega
    · omega) (fun t _=>by unfold jN;simp only[];rw[if_neg (by omega)]) [] (Nat.zero_le _)).1
 rw[show((0:Nat):Int)=0 from rfl,xU,List.nil_append]at this
 unfold mQ
 rw[this];rfl
theorem aMO {s:List Link}(hs:LSet s)(v:Int):mH s v=some (zH v s):=by
 have hl:=hs.len
 have:=(lI (step:=jL s v) s (fun k t=>((k:Int),t)) (fun t x=>if(fun l=>!tch v l) x=true then t++[x]else t) (fun t=>t) (fun k t=>t.length<=k) (fun k t hk hi=>by
  constructor
  · unfold jL
    simp only[]
    rw[if_pos (by omega),aM hk]
    have cp:=tO s[k] (by have:=(hs.1 _ (List.getElem_mem hk)).sz;omega)
    simp only[Option.bind_some,aPE,wi1 (by omega:k<=4294967296),cp]
    by_cases c:tch v s[k]=true
    · rw[if_neg (by simp[c]),if_neg (by simp[c])]
    · rw[if_pos (by simpa using c),if_pos (by simpa using c),aP (by omega)];rfl
  · simp only[];split
    · rw[List.length_append,List.length_singleton];omega
    · omega) (fun t _=>by unfold jL;simp only[];rw[if_neg (by omega)]) [] (Nat.zero_le _)).1
 rw[show((0:Nat):Int)=0 from rfl,xU,List.nil_append]at this
 unfold mH
 rw[lT s (by have:=hs.sz;omega),decide_eq_true hs]
 simp only[Option.bind_some,if_true,this]
 rfl
noncomputable def aDP (v:Int)(s:List Link):Option (Conditional×List Link×Rat) :=
 (yU v s).bind fun x=>(jnP (zH v s++x.2)).map fun y=>(x.1,y.1,y.2)
def pkR:Option (Conditional×List Link×Rat)->Conditional×List Link×Rat×Bool
 | some (c,m,e)=>(c,m,e,true)
 | none=>(aE9,[],nJ,false)
theorem aJN {v:Int}{s:List Link}(hs:LSet s){c:Conditional}{m:List Link}(h:yU v s=some (c,m)):(∀ x∈m,ValidL x)/\m.length<=10000/\aU c<=20000/\(1<=v/\v<=9):=by
 unfold yU at h
 split at h
 · rename_i g
   cases h
   have ha:=aGw hs v
   have hl:=aCc hs v
   have h1:=aFU (rR (bO v s)) (a:=bO v s) (Nat.le_refl _)
   have h2:(bO v s).length*(bO v s).length<=100*100:=Nat.mul_le_mul hl hl
   have g1:=lS (aAA ha)
   have g2:nE ((bO v s).map (gA (rR (bO v s))))<=145*((bO v s).map (gA (rR (bO v s)))).length:=aDL (c:=144) (fun p hp=>by
    obtain⟨x,hx,rfl⟩:=List.mem_map.1 hp
    have ho:=ha x hx
    have g1:=lS (aDI ho.2.1 (aAA ha)).2.2
    have g2:=lS ho.2.2.1
    have g3:=lS ho.2.2.2
    unfold jI gA;simp only[];omega)
   rw[List.length_map]at g2
   refine⟨g.2.2,by omega,?_,g.1⟩
   unfold aU aCE;simp only[];omega
 · cases h
theorem aNg {v:Int}{s:List Link}(hs:LSet s):(∀ x∈zH v s,ValidL x)/\(zH v s).length<=100:=by
 have:=List.length_filter_le (fun l=>!tch v l) s
 have:=hs.len
 exact⟨fun x hx=>hs.1 x (List.mem_filter.1 hx).1,by unfold zH;omega⟩
theorem aFy {s:List Link}(hs:LSet s)(v:Int):oG s v=some (pkR (aDP v s))/\oQ s v=some (pkR (aDP v s)):=by
 unfold oG oQ aDP
 rw[aPj hs,aPk hs]
 cases h:yU v s with
 | none=>exact⟨rfl,rfl⟩
 | some x =>
  obtain⟨c,m⟩:=x
  obtain⟨m1,m2,m3,_⟩:=aJN hs h
  obtain⟨r1,r2⟩:=aNg (v:=v) hs
  have hall:∀ x∈zH v s++m,ValidL x:=fun x hx=>(List.mem_append.1 hx).elim (r1 x) (m1 x)
  have hlen:(zH v s++m).length<=20000:=by rw[List.length_append];omega
  have hsz:=aBS hall
  have j1:=(wT (zH v s++m) (by omega)).1
  have j2:=aBE hall (by omega)
  simp only[pkE,Option.bind_some,if_true]
  rw[aMO hs,aL6 (by have:=hs.len;omega)]
  simp only[Option.bind_some]
  rw[aP (by omega)]
  simp only[Option.bind_some,vC,j1,j2]
  cases jnP (zH v s++m)with
  | none=>exact⟨rfl,rfl⟩
  | some y=>exact⟨rfl,rfl⟩
theorem aId {v:Int}{s:List Link}(hs:LSet s){c:Conditional}{m:List Link}{e:Rat}(h:aDP v s=some (c,m,e)):aU c<=20000/\LSet m/\bL e/\c.fNode=v:=by
 unfold aDP at h
 cases h1:yU v s with
 | none=>rw[h1]at h;cases h
 | some x =>
  rw[h1]at h
  cases h2:jnP (zH v s++x.2)with
  | none=>rw[Option.bind_some,h2]at h;cases h
  | some y =>
   rw[Option.bind_some,h2]at h
   cases h
   have:=aBF (s:=y.1) (e:=y.2) h2
   refine⟨(aJN hs (c:=x.1) (m:=x.2) h1).2.2.1,this.2.1,this.2.2,?_⟩
   unfold yU at h1
   split at h1
   · cases h1;rfl
   · cases h1
end Go.Ev
/- A node of a tree, both programs. -/
namespace Go.Ev
open IntKind
set_option linter.all false
def aR (l s:List Int):Int:=(l.find? (fun u=>decide (u∈s))).getD 0
theorem aLS (l s:List Int)(hl:l.length<=4294967296)(hs:s.length<=4294967296):oY l s=some (aR l s):=by
 have main:∀ m k:Nat,m+k=l.length->lp (hU l s) (k:Int)=some (match (l.drop k).find? (fun u=>decide (u∈s))with | some x=>.inr x | none=>.inl ()):=by
  intro m
  induction m with
  | zero =>
   intro k hk
   have:k=l.length:=by omega
   subst this
   rw[aN (r:=.inl ()) (by unfold hU;rw[if_neg (by omega)]),List.drop_length];rfl
  | succ m ih =>
   intro k hk
   have hlt:k<l.length:=by omega
   rw[List.drop_eq_getElem_cons hlt,List.find?_cons]
   by_cases c:l[k]∈s
   · rw[aN (r:=.inr l[k]) (by unfold hU;rw[if_pos (by omega),aM hlt];simp[aDs s _ hs,c])];simp[c]
   · have e:hU l s (k:Int)=some (.inl ((k+1:Nat):Int)):=by
      unfold hU;rw[if_pos (by omega),aM hlt];simp only[Option.bind_some,aDs s _ hs,wi1 (by omega:k<=4294967296)];simp[c]
     rw[aS e,ih (k+1) (by omega)]
     simp only[c,decide_false]
 have:=main l.length 0 (by omega)
 rw[show((0:Nat):Int)=0 from rfl,List.drop_zero]at this
 unfold oY aR
 rw[this]
 cases l.find? (fun u=>decide (u∈s)) <;> rfl
def aFJ (c:Conditional):List Int:=c.fParents.map (·.fNode)
def upP (order:List Int)(c:Conditional):Int:=aR order (aFJ c)
theorem aGl {α:Type}{p q:α->Bool}:∀ {l:List α},(∀ x∈l,p x=q x)->l.find? p=l.find? q
 | [],_=>rfl
 | x::l,h=>by rw[List.find?_cons,List.find?_cons,h x (by simp),aGl (fun y hy=>h y (by simp[hy]))]
theorem aRT {order:List Int}{c:Conditional}(ho:∀ u∈order,1<=u)(hl:order.length<=4294967296)(hc:c.fParents.length<=4294967296):xW order c=some (upP order c):=by
 have:=(lI (step:=rS c) c.fParents (fun k t=>((k:Int),t)) (fun t x=>if(fun p:Parent=>decide (0<p.fNode)) x=true then t++[x.fNode]else t) (fun t=>t) (fun k t=>t.length<=k) (fun k t hk hi=>by
  constructor
  · unfold rS
    simp only[]
    rw[if_pos (by omega),aM hk]
    simp only[Option.bind_some,wi1 (by omega:k<=4294967296)]
    by_cases c0:0<(c.fParents[k]).fNode
    · rw[if_pos c0,if_pos (by simpa using c0),aP (by omega)];rfl
    · rw[if_neg c0,if_neg (by simpa using c0)]
  · simp only[];split
    · rw[List.length_append,List.length_singleton];omega
    · omega) (fun t _=>by unfold rS;simp only[];rw[if_neg (by omega)]) [] (Nat.zero_le _)).1
 rw[show((0:Nat):Int)=0 from rfl]at this
 have e:∀ (l:List Parent) (t:List Int),l.foldl (fun t x=>if(fun p:Parent=>decide (0<p.fNode)) x=true then t++[x.fNode]else t) t=t++(l.filter (fun p=>decide (0<p.fNode))).map (·.fNode):=by
  intro l
  induction l with
  | nil=>intro t;simp
  | cons x l ih =>
   intro t
   rw[List.foldl_cons,ih,List.filter_cons]
   by_cases c0:0<x.fNode <;> simp[c0]
 rw[e,List.nil_append]at this
 unfold xW
 rw[this]
 simp only[Option.bind_some]
 have hf:=List.length_filter_le (fun p:Parent=>decide (0<p.fNode)) c.fParents
 rw[aLS _ _ hl (by rw[List.length_map];omega)]
 simp only[Option.bind_some]
 congr 1
 unfold upP aR
 congr 1
 refine aGl fun u hu=>?_
 have:=ho u hu
 rw[Bool.eq_iff_iff,decide_eq_true_iff,decide_eq_true_iff]
 unfold aFJ
 simp only[List.mem_map,List.mem_filter,decide_eq_true_eq]
 constructor
 · rintro⟨p,⟨h1,_⟩,rfl⟩;exact⟨p,h1,rfl⟩
 · rintro⟨p,h1,rfl⟩;exact⟨p,⟨h1,by omega⟩,rfl⟩
theorem aEp (c:Conditional)(v:Int)(h:c.fParents.length<=4294967296):qN c v=some (decide (v∈aFJ c)):=by
 have main:∀ m k:Nat,m+k=c.fParents.length->lp (gM c v) (k:Int)=some (if v∈(c.fParents.drop k).map (·.fNode)then .inr true else .inl ()):=by
  intro m
  induction m with
  | zero =>
   intro k hk
   have:k=c.fParents.length:=by omega
   subst this
   rw[aN (r:=.inl ()) (by unfold gM;rw[if_neg (by omega)]),List.drop_length];simp
  | succ m ih =>
   intro k hk
   have hlt:k<c.fParents.length:=by omega
   rw[List.drop_eq_getElem_cons hlt,List.map_cons]
   by_cases d:(c.fParents[k]).fNode=v
   · rw[aN (r:=.inr true) (by unfold gM;rw[if_pos (by omega),aM hlt];simp[d]),if_pos (by simp[d])]
   · have e:gM c v (k:Int)=some (.inl ((k+1:Nat):Int)):=by
      unfold gM;rw[if_pos (by omega),aM hlt];simp only[Option.bind_some,wi1 (by omega:k<=4294967296)];rw[if_neg d]
     rw[aS e,ih (k+1) (by omega)]
     have:(v∈(c.fParents[k]).fNode::(c.fParents.drop (k+1)).map (·.fNode))↔v∈(c.fParents.drop (k+1)).map (·.fNode):=by
      rw[List.mem_cons];exact⟨fun h=>h.resolve_left (fun e=>d e.symm),.inr⟩
     simp only[this]
 have:=main c.fParents.length 0 (by omega)
 rw[show((0:Nat):Int)=0 from rfl,List.drop_zero]at this
 unfold qN aFJ
 rw[this]
 by_cases d:v∈c.fParents.map (·.fNode)
 · rw[if_pos d,decide_eq_true d];rfl
 · rw[if_neg d,decide_eq_false d];rfl
theorem aRb (order:List Int)(v:Int)(own:List Link)(r:Conditional×List Link×Rat×Bool)(e:Rat)(hl:order.length<=4294967296)(hc:r.1.fParents.length<=4294967296):lp (fH order v own r e) 0=some (TreeNode.mk v (upP order r.1) own r.1 r.2.1 e):=by
 have main:∀ m k:Nat,m+k=order.length->lp (fH order v own r e) (k:Int)=some (TreeNode.mk v (aR (order.drop k) (aFJ r.1)) own r.1 r.2.1 e):=by
  intro m
  induction m with
  | zero =>
   intro k hk
   have:k=order.length:=by omega
   subst this
   rw[aN (by unfold fH;rw[if_neg (by omega)]),List.drop_length];rfl
  | succ m ih =>
   intro k hk
   have hlt:k<order.length:=by omega
   rw[List.drop_eq_getElem_cons hlt]
   unfold aR
   rw[List.find?_cons]
   by_cases d:order[k]∈aFJ r.1
   · rw[aN (r:=TreeNode.mk v order[k] own r.1 r.2.1 e) (by unfold fH;rw[if_pos (by omega),aM hlt];simp only[Option.bind_some,aEp _ _ hc,decide_eq_true d,if_true])]
     simp[d]
   · have e:fH order v own r e (k:Int)=some (.inl ((k+1:Nat):Int)):=by
      unfold fH;rw[if_pos (by omega),aM hlt];simp only[Option.bind_some,aEp _ _ hc,wi1 (by omega:k<=4294967296),decide_eq_false d,Bool.false_eq_true,if_false]
     rw[aS e,ih (k+1) (by omega)]
     simp only[d,decide_false]
     rfl
 have:=main order.length 0 (by omega)
 rw[show((0:Nat):Int)=0 from rfl,List.drop_zero]at this
 exact this
def aAK (v:Int)(b:List TreeNode):List Link:=(b.filter (fun n=>decide (n.fUp=v))).flatMap (·.fMessages)
theorem aJl (v:Int):∀ (b:List TreeNode) (t:List Link),b.foldl (fun t n=>if n.fUp=v then t++n.fMessages else t) t=t++aAK v b
 | [],t=>by simp[aAK]
 | n::b,t=>by
  rw[List.foldl_cons,aJl v b]
  unfold aAK
  rw[List.filter_cons]
  by_cases c:n.fUp=v <;> simp[c]
theorem aLy {v:Int}:∀ {b:List TreeNode},(∀ n∈b,LSet n.fMessages)->(aAK v b).length<=100*b.length
 | [],_=>by simp[aAK]
 | n::b,h=>by
  have:=aLy (v:=v) (b:=b) (fun m hm=>h m (by simp[hm]))
  have h1:=(h n (by simp)).len
  unfold aAK at this ⊢
  rw[List.filter_cons,List.length_cons]
  split
  · rw[List.flatMap_cons,List.length_append];omega
  · omega
theorem aMp {v:Int}{b:List TreeNode}(h:∀ n∈b,LSet n.fMessages):∀ x∈aAK v b,ValidL x:=by
 intro x hx
 unfold aAK at hx
 obtain⟨n,hn,hx⟩:=List.mem_flatMap.1 hx
 exact(h n (List.mem_filter.1 hn).1).1 x hx
theorem aPP {step:(Int×List Link)->Option ((Int×List Link) ⊕ List Link)}(v:Int)(b:List TreeNode)(own:List Link)(ho:own.length<=4294967296)(hb:b.length<=4194304)(h:∀ n∈b,LSet n.fMessages)
 (hstep:step=fun s=>match s with | (v6,v7)=>(if(v6<(b.length:Int))then(idx b v6).bind fun y8=>(if(y8.fUp=v)then(chk ((v7.length+y8.fMessages.length)*184<=140737488355328)).bind fun _u=>(bB (v7++y8.fMessages)).bind fun v10=>some (.inl (i64.wrap (v6+1),v10))else some (.inl (i64.wrap (v6+1),v7)))else some (.inr v7))):lp step (0,own)=some (own++aAK v b):=by
 subst hstep
 have:=(lI (step:=fun s=>match s with | (v6,v7)=>(if(v6<(b.length:Int))then(idx b v6).bind fun y8=>(if(y8.fUp=v)then(chk ((v7.length+y8.fMessages.length)*184<=140737488355328)).bind fun _u=>(bB (v7++y8.fMessages)).bind fun v10=>some (.inl (i64.wrap (v6+1),v10))else some (.inl (i64.wrap (v6+1),v7)))else some (.inr v7))) b (fun k t=>((k:Int),t)) (fun t n=>if n.fUp=v then t++n.fMessages else t) (fun t=>t) (fun k t=>t.length<=4294967296+100*k) (fun k t hk hi=>by
  have hm:=(h _ (List.getElem_mem hk)).len
  constructor
  · simp only[]
    rw[if_pos (by omega),aM hk]
    simp only[Option.bind_some,wi1 (by omega:k<=4294967296)]
    by_cases c:(b[k]).fUp=v
    · rw[if_pos c,if_pos c,aP (by omega)];rfl
    · rw[if_neg c,if_neg c]
  · split
    · rw[List.length_append];omega
    · omega) (fun t _=>by simp only[];rw[if_neg (by omega)]) own (by omega)).1
 rw[show((0:Nat):Int)=0 from rfl,aJl]at this
 exact this
def aQ8:TreeNode:=TreeNode.mk 0 0 ([]) (Conditional.mk 0 (Rat.mk (BigInt.mk false ([])) ([])) ([])) ([]) (Rat.mk (BigInt.mk false ([])) ([]))
noncomputable def sC (order:List Int)(v:Int)(own:List Link)(b:List TreeNode):Option TreeNode :=
 (jnP (own++aAK v b)).bind fun x=>(aDP v x.1).bind fun y=>if bL (RA x.2 y.2.2)then some ⟨v,upP order y.1,own,y.1,y.2.1,RA x.2 y.2.2⟩else none
def pkN:Option TreeNode->TreeNode×Bool
 | some n=>(n,true)
 | none=>(aQ8,false)
theorem aO6 {c:Conditional}(h:aU c<=20000):c.fParents.length<=20000:=by
 have:c.fParents.length<=nE c.fParents:=iY _ _
 unfold aU at h;omega
theorem aLj (a b:List Link):aL (a++b)=aL a+aL b:=by unfold aL szL;simp
theorem aNF {order:List Int}{v:Int}{own:List Link}{b:List TreeNode}(hl:order.length<=4194304)(ho:∀ u∈order,1<=u)(hz:aL own<=4194304)(hb:b.length<=100)(hm:∀ n∈b,LSet n.fMessages)(hv:∀ x∈own,ValidL x) :
 tJ v own order b=some (pkN (sC order v own b))/\qO ⟨b⟩ order v own=some (pkN (sC order v own b)):=by
 have hol:own.length<=4194304:=Nat.le_trans (iY _ _) hz
 have q1:=aPP (step:=wU v b) v b own (by omega) (by omega) hm rfl
 have q2:=aPP (step:=uD ⟨b⟩ v) v b own (by omega) (by omega) hm rfl
 have hmv:=aMp (v:=v) hm
 have hml:=aLy (v:=v) hm
 have hall:∀ x∈own++aAK v b,ValidL x:=fun x hx=>(List.mem_append.1 hx).elim (hv x) (hmv x)
 have hms:=aBS hmv
 have hsz:aL (own++aAK v b)<=4294967296:=by rw[aLj];omega
 have hln:(own++aAK v b).length<=4294967296:=by rw[List.length_append];omega
 have j1:=(wT (own++aAK v b) hsz).1
 have j2:=aBE hall hln
 unfold tJ qO sC
 rw[aCp own (by omega)]
 simp only[Option.bind_some,List.nil_append,List.length_nil]
 rw[aP (by omega),q1]
 simp only[Option.bind_some,vC]
 rw[q2,j1]
 simp only[Option.bind_some,j2]
 cases h:jnP (own++aAK v b)with
 | none =>
  simp only[pk,Option.bind_none,pkN]
  refine⟨?_,rfl⟩
  rw[(aFy aBR v).1]
  have e0:bE (pkR (aDP v [])).2.2.1<=4294967296:=by
   cases h2:aDP v []with
   | none=>exact VZs aCm
   | some y=>exact VZs (.inl (aId aBR (c:=y.1) (m:=y.2.1) (e:=y.2.2) h2).2.2.1)
  simp only[Option.bind_some]
  rw[(aR2 (VZs aCm) e0).1]
  rfl
 | some x =>
  obtain⟨s,e⟩:=x
  obtain⟨_,hs,he⟩:=aBF h
  simp only[pk,Option.bind_some,if_true]
  rw[(aFy hs v).1,(aFy hs v).2]
  simp only[Option.bind_some]
  cases h2:aDP v s with
  | none =>
   simp only[pkR,Option.bind_none,pkN]
   rw[(yY (.inl he) aCm).1,(yY (.inl he) aCm).2.1]
   exact⟨rfl,rfl⟩
  | some y =>
   obtain⟨c,m,f⟩:=y
   obtain⟨k1,k2,k3,_⟩:=aId hs h2
   have ra:=yY (.inl he) (.inl k3)
   have hp:=aO6 k1
   simp only[pkR,Option.bind_some,ra.1,ra.2.1,if_true]
   rw[eQ _ (VZs ra.2.2),iK ra.2.2,aRT ho (by omega) (by omega),aRb order v own (c,m,f,true) (RA e f) (by omega) (by show c.fParents.length<=_;omega)]
   simp only[Option.bind_some]
   by_cases g:bL (RA e f)
   · rw[decide_eq_true g,if_pos g];exact⟨rfl,rfl⟩
   · rw[decide_eq_false g,if_neg g];exact⟨rfl,rfl⟩
theorem aFN {order:List Int}{v:Int}{own:List Link}{b:List TreeNode}{n:TreeNode}(h:sC order v own b=some n):LSet n.fMessages/\n.fOwn=own/\aU n.fCond<=20000/\bL n.fEnergy/\n.fNode=v/\n.fUp=upP order n.fCond:=by
 unfold sC at h
 cases h1:jnP (own++aAK v b)with
 | none=>rw[h1]at h;cases h
 | some x =>
  rw[h1,Option.bind_some]at h
  cases h2:aDP v x.1 with
  | none=>rw[h2]at h;cases h
  | some y =>
   rw[h2,Option.bind_some]at h
   obtain⟨_,hs,he⟩:=aBF (s:=x.1) (e:=x.2) h1
   obtain⟨k1,k2,k3,_⟩:=aId hs (c:=y.1) (m:=y.2.1) (e:=y.2.2) h2
   split at h
   · rename_i g;cases h;exact⟨k2,rfl,k1,g,rfl,rfl⟩
   · cases h
end Go.Ev
/- The nodes of a link set, orders of elimination, whose a link is, both programs. -/
namespace Go.Ev
set_option linter.all false
def aEy:List Int:=(List.range 9).map (fun k:Nat=>(k:Int)+1)
theorem aNI {x:Int}:x∈aEy↔1<=x/\x<=9:=by
 unfold aEy
 simp only[List.mem_map,List.mem_range]
 constructor
 · rintro⟨k,h,rfl⟩;omega
 · intro h;exact⟨(x-1).toNat,by omega,by omega⟩
theorem aFO:aEy.length=9:=by decide
theorem aNJ (k:Nat)(h:k<aEy.length):aEy[k]=(k:Int)+1:=by simp[aEy]
def fO (s:List Link):List Int:=aEy.filter (fun v=>s.any (tch v))
theorem aAH (s:List Link):(fO s).Pairwise (· < ·):=by
 have:aEy.Pairwise (· < ·):=by decide
 exact this.sublist List.filter_sublist
theorem yE (s:List Link):(fO s).length<=9:=by
 have:=List.length_filter_le (fun v=>s.any (tch v)) aEy
 rw[aFO]at this;exact this
theorem aAG {s:List Link}{x:Int}:x∈fO s↔(1<=x/\x<=9)/\∃ l∈s,l.fA=x\/l.fB=x:=by
 unfold fO
 rw[List.mem_filter,aNI,List.any_eq_true]
 simp only[tch,decide_eq_true_eq]
def aGN (t:List Int)(l:Link):List Int:=aBb (if 0<l.fA then aBb t l.fA else t) l.fB
theorem aJd {t:List Int}(l:Link)(h:t.Pairwise (· < ·)):(aGN t l).Pairwise (· < ·):=by
 unfold aGN;split
 · exact wJ _ _ (wJ _ _ h)
 · exact wJ _ _ h
theorem aNn {t:List Int}{l:Link}{x:Int}:x∈aGN t l↔x=l.fB\/(x=l.fA/\0<x)\/x∈t:=by
 unfold aGN;split
 · rw[aAg,aAg]
   constructor
   · rintro(h | h | h)
     · exact .inl h
     · exact .inr (.inl ⟨h,by omega⟩)
     · exact .inr (.inr h)
   · rintro(h | ⟨h,_⟩ | h)
     · exact .inl h
     · exact .inr (.inl h)
     · exact .inr (.inr h)
 · rw[aAg]
   constructor
   · rintro(h | h)
     · exact .inl h
     · exact .inr (.inr h)
   · rintro(h | ⟨h,_⟩ | h)
     · exact .inl h
     · omega
     · exact .inr h
theorem aNo (t:List Int)(l:Link):(aGN t l).length<=t.length+2:=by
 unfold aGN;split
 · have:=aAh (aBb t l.fA) l.fB;have:=aAh t l.fA;omega
 · have:=aAh t l.fB;omega
theorem aHA:∀ (s:List Link) (t:List Int) (x:Int),x∈s.foldl aGN t↔x∈t\/∃ l∈s,x=l.fB\/(x=l.fA/\0<x)
 | [],t,x=>by simp
 | l::s,t,x=>by
  rw[List.foldl_cons,aHA s,aNn]
  simp only[List.mem_cons,exists_eq_or_imp]
  constructor
  · rintro((h | h | h) | h)
    · exact .inr (.inl (.inl h))
    · exact .inr (.inl (.inr h))
    · exact .inl h
    · exact .inr (.inr h)
  · rintro(h | (h | h) | h)
    · exact .inl (.inr (.inr h))
    · exact .inl (.inl h)
    · exact .inl (.inr (.inl h))
    · exact .inr h
theorem aDx:∀ (s:List Link) (t:List Int),t.Pairwise (· < ·)->(s.foldl aGN t).Pairwise (· < ·)
 | [],t,h=>h
 | l::s,t,h=>aDx s _ (aJd l h)
theorem aD6 {s:List Link}(hs:LSet s):nL s=some (fO s):=by
 have hl:=hs.len
 have:=(lI (step:=oH s) s (fun k t=>(t,(k:Int))) aGN (fun t=>t) (fun k t=>t.length<=2*k) (fun k t hk hi=>by
  constructor
  · unfold oH
    simp only[]
    rw[if_pos (by omega),aM hk]
    simp only[Option.bind_some,wi1 (by omega:k<=4294967296)]
    unfold aGN
    by_cases c:0<(s[k]).fA
    · rw[if_pos c,if_pos c,aJc _ _ (by omega)]
      simp only[Option.bind_some]
      rw[aJc _ _ (by have:=aAh t (s[k]).fA;omega)];rfl
    · rw[if_neg c,if_neg c]
      simp only[Option.bind_some]
      rw[aJc _ _ (by omega)];rfl
  · have:=aNo t s[k];omega) (fun t _=>by unfold oH;simp only[];rw[if_neg (by omega)]) [] (Nat.zero_le _)).1
 rw[show((0:Nat):Int)=0 from rfl]at this
 unfold nL
 rw[lT s (by have:=hs.sz;omega),decide_eq_true hs]
 simp only[Option.bind_some,if_true,this]
 congr 1
 refine aAC (aDx _ _ List.Pairwise.nil) (aAH s) fun x=>?_
 rw[aHA,aAG]
 constructor
 · rintro(h | ⟨l,hl,h⟩)
   · cases h
   · have v:=hs.1 l hl
     rcases h with rfl | ⟨rfl,h0⟩
     · exact⟨⟨by have:=v.2.2.1;have:=v.1.1;omega,v.2.1.2⟩,l,hl,.inr rfl⟩
     · exact⟨⟨by omega,v.1.2⟩,l,hl,.inl rfl⟩
 · rintro⟨h1,l,hl,h⟩
   refine .inr ⟨l,hl,?_⟩
   rcases h with h | h
   · exact .inr ⟨h.symm,by omega⟩
   · exact .inl h.symm
theorem aKD {s:List Link}(hs:s.length<=4294967296)(v:Int)(t:List Int)(ht:t.length<=1000):lp (gQ s v t) 0=some (if s.any (tch v)=true then t++[v]else t):=by
 have main:∀ m k:Nat,m+k=s.length->lp (gQ s v t) (k:Int)=some (if(s.drop k).any (tch v)=true then t++[v]else t):=by
  intro m
  induction m with
  | zero =>
   intro k hk
   have:k=s.length:=by omega
   subst this
   rw[aN (r:=t) (by unfold gQ;rw[if_neg (by omega)]),List.drop_length];rfl
  | succ m ih =>
   intro k hk
   have hlt:k<s.length:=by omega
   have e0:((if(s[k]).fA=v then some true else some (decide ((s[k]).fB=v))):Option Bool)=some (tch v s[k]):=by
    unfold tch;by_cases A:(s[k]).fA=v <;> by_cases B:(s[k]).fB=v <;> simp[A,B]
   rw[List.drop_eq_getElem_cons hlt,List.any_cons]
   by_cases c:tch v s[k]=true
   · rw[aN (r:=t++[v]) (by unfold gQ;rw[if_pos (by omega),aM hlt];simp only[Option.bind_some,e0,c,if_true];rw[aP (by omega)];rfl)]
     simp[c]
   · have e:gQ s v t (k:Int)=some (.inl ((k+1:Nat):Int)):=by
      unfold gQ;rw[if_pos (by omega),aM hlt];simp only[Option.bind_some,e0,wi1 (by omega:k<=4294967296)];rw[if_neg c]
     rw[aS e,ih (k+1) (by omega)]
     simp only[Bool.not_eq_true]at c
     simp[c]
 have:=main s.length 0 (by omega)
 rw[show((0:Nat):Int)=0 from rfl,List.drop_zero]at this
 exact this
theorem aMl {s:List Link}(hs:s.length<=4294967296):uA s=some (fO s):=by
 have:=(lI (step:=oR s) aEy (fun k t=>((k:Int)+1,t)) (fun t v=>if(fun v=>s.any (tch v)) v=true then t++[v]else t) (fun t=>t) (fun k t=>t.length<=k) (fun k t hk hi=>by
  have hk9:k<9:=by rw[aFO]at hk;exact hk
  constructor
  · unfold oR
    simp only[]
    rw[if_pos (by omega),aKD hs _ _ (by omega),aNJ]
    have w:IntKind.i64.wrap ((k:Int)+1+1)=((k+1:Nat):Int)+1:=by rw[wi (by omega)];omega
    simp only[Option.bind_some,w]
  · simp only[];split
    · rw[List.length_append,List.length_singleton];omega
    · omega) (fun t _=>by unfold oR;simp only[];rw[aFO,if_neg (by omega)]) [] (Nat.zero_le _)).1
 rw[show((0:Nat):Int)+1=1 from rfl,xU,List.nil_append]at this
 unfold uA
 rw[this];rfl
def isOrd (s:List Link)(o:List Int):Prop:=o.Nodup/\(∀ y∈o,y∈fO s)/\o.length=(fO s).length
instance (s:List Link)(o:List Int):Decidable (isOrd s o):=by unfold isOrd;exact inferInstance
theorem aKA:∀ {a b:List Int},a.Nodup->(∀ x∈a,x∈b)->b.length<=a.length->b.Perm a
 | [],b,_,_,h=>by
  have:b=[]:=List.eq_nil_of_length_eq_zero (by simpa using h)
  rw[this]
 | x::a,b,hn,hs,h=>by
  rw[List.nodup_cons]at hn
  have hx:=hs x (by simp)
  have p:=List.perm_cons_erase hx
  have hl:=p.length_eq
  rw[List.length_cons]at hl h
  refine p.trans (List.Perm.cons x (aKA hn.2 (fun y hy=>?_) (by omega)))
  have:y≠x:=fun e=>hn.1 (e▸hy)
  exact(List.mem_erase_of_ne this).2 (hs y (by simp[hy]))
theorem aMt {l:List Int}(h:l.Pairwise (· < ·)):l.Nodup:=h.imp (fun {a b} hab e=>by subst e;omega)
theorem aHx (s:List Link)(o:List Int):isOrd s o↔(∀ v∈fO s,v∈o)/\o.length=(fO s).length:=by
 have hn:=aMt (aAH s)
 constructor
 · rintro⟨h1,h2,h3⟩
   have p:=aKA h1 h2 (by omega)
   exact⟨fun v hv=>p.mem_iff.1 hv,h3⟩
 · rintro⟨h1,h2⟩
   have p:=aKA hn h1 (by omega)
   exact⟨p.nodup_iff.2 hn,fun y hy=>p.mem_iff.1 hy,h2⟩
theorem aGg {s:List Link}{o:List Int}(h:isOrd s o):o.length<=9/\(∀ u∈o,1<=u):=by
 have:=yE s
 exact⟨by rw[h.2.2];exact this,fun u hu=>(aAG.1 (h.2.1 u hu)).1.1⟩
theorem aGm {σ:Type}{step:σ->Option (σ ⊕ (Unit ⊕ Bool))}(n:Nat)(E:Nat->σ)(G:Nat->Prop)(h1:∀ k:Nat,k<n->(G k/\step (E k)=some (.inl (E (k+1))))\/(¬G k/\step (E k)=some (.inr (.inr false))))(h2:step (E n)=some (.inr (.inl ()))) :
 (lp step (E 0)=some (.inl ())/\∀ k,k<n->G k)\/(lp step (E 0)=some (.inr false)/\∃ k,k<n/\¬G k):=by
 have main:∀ m k:Nat,m+k=n->(lp step (E k)=some (.inl ())/\∀ j,k<=j->j<n->G j)\/(lp step (E k)=some (.inr false)/\∃ j,j<n/\¬G j):=by
  intro m
  induction m with
  | zero =>
   intro k hk
   have:k=n:=by omega
   subst this
   exact .inl ⟨aN h2,fun j _ _=>by omega⟩
  | succ m ih =>
   intro k hk
   rcases h1 k (by omega)with⟨g,e⟩ | ⟨g,e⟩
   · rw[aS e]
     rcases ih (k+1) (by omega)with⟨a,b⟩ | ⟨a,b⟩
     · refine .inl ⟨a,fun j h1 h2=>?_⟩
       by_cases e:j=k
       · subst e;exact g
       · exact b j (by omega) h2
     · exact .inr ⟨a,b⟩
   · exact .inr ⟨aN e,k,by omega,g⟩
 rcases main n 0 (by omega)with⟨a,b⟩ | ⟨a,b⟩
 · exact .inl ⟨a,fun j h=>b j (Nat.zero_le _) h⟩
 · exact .inr ⟨a,b⟩
theorem aAF {l:List Int}:l.Nodup↔∀ k (h:k<l.length),l[k]∉l.take k:=by
 unfold List.Nodup
 rw[List.pairwise_iff_getElem]
 constructor
 · intro h k hk hm
   obtain⟨j,hj,e⟩:=List.mem_iff_getElem.1 hm
   rw[List.length_take]at hj
   rw[List.getElem_take]at e
   exact h j k (by omega) hk (by omega) e
 · intro h i j hi hj hij e
   refine h j hj ?_
   rw[<- e]
   exact List.mem_iff_getElem.2 ⟨i,by rw[List.length_take];omega,by rw[List.getElem_take]⟩
theorem aLf {s:List Link}(hs:LSet s)(o:List Int)(ho:o.length<=4194304):tR s o=some (decide (isOrd s o)):=by
 have hn:=yE s
 unfold tR
 rw[aD6 hs]
 simp only[Option.bind_some]
 have L:=aGm (step:=oJ o (fO s)) o.length (fun k=>((k:Int),o.take k)) (fun k=>∀ h:k<o.length,o[k]∈fO s/\o[k]∉o.take k) (fun k hk=>by
  have tl:(o.take k).length<=k:=by rw[List.length_take];omega
  have tk:o.take (k+1)=o.take k++[o[k]]:=by rw[List.take_add_one,List.getElem?_eq_getElem hk];rfl
  unfold oJ
  simp only[]
  rw[if_pos (by omega),aM hk]
  simp only[Option.bind_some,aDs (fO s) _ (by omega),aDs (o.take k) _ (by omega),wi1 (by omega:k<=4294967296)]
  by_cases A:o[k]∈fO s
  · by_cases B:o[k]∈o.take k
    · right
      refine⟨fun h=>(h hk).2 B,?_⟩
      rw[decide_eq_true A,decide_eq_true B];rfl
    · left
      refine⟨fun h=>⟨A,B⟩,?_⟩
      rw[decide_eq_true A,decide_eq_false B]
      simp only[if_true,Option.bind_some,Bool.false_eq_true,if_false]
      rw[aP (by omega),tk];rfl
  · right
    refine⟨fun h=>A (h hk).1,?_⟩
    rw[decide_eq_false A];rfl) (by unfold oJ;simp only[];rw[if_neg (by omega)])
 simp only[List.take_zero]at L
 rw[show((0:Nat):Int)=0 from rfl]at L
 rcases L with⟨e,g⟩ | ⟨e,k,hk,g⟩
 · rw[e]
   simp only[Option.bind_some]
   rw[lT s (by have:=hs.sz;omega),decide_eq_true hs]
   simp only[Option.bind_some,if_true]
   congr 1
   rw[Bool.eq_iff_iff,decide_eq_true_iff,decide_eq_true_iff]
   constructor
   · intro h
     refine⟨aAF.2 (fun k hk=>(g k hk hk).2),fun y hy=>?_,by omega⟩
     obtain⟨j,hj,rfl⟩:=List.mem_iff_getElem.1 hy
     exact(g j hj hj).1
   · intro h;rw[h.2.2]
 · rw[e]
   have:¬isOrd s o:=fun h=>g (fun hk=>⟨h.2.1 _ (List.getElem_mem hk),aAF.1 h.1 k hk⟩)
   rw[decide_eq_false this];rfl
theorem aIS (s:List Link)(h:aL s<=4294967296):nA s=some (decide (LSet s)):=by
 rw[<- lT s h]
 unfold nA dN
 have:lp (pO s) 0=lp (fE s) 0:=by
  refine aNX (fun _=>True) (fun v _=>⟨?_,fun _ _=>trivial⟩) _ trivial
  unfold pO fE
  cases e:idx s v with
  | none=>rfl
  | some y =>
   have hy:y∈s:=List.mem_of_getElem? (aGh e).2.1
   have hz:=pL (w:=bV) hy
   unfold aL at h
   have q:=iL y (by omega)
   simp only[Option.bind_some,q.1,q.2,aKd,aGG]
 rw[this]
theorem aGK {s:List Link}(hs:LSet s)(o:List Int)(ho:o.length<=4194304):rG s o=some (decide (isOrd s o)):=by
 have hn:=yE s
 unfold rG
 have il:nA s=some true:=by rw[aIS s (by have:=hs.sz;omega),decide_eq_true hs]
 rw[il,aMl (by have:=hs.len;omega)]
 simp only[Option.bind_some,if_true]
 have L:=aGm (step:=oW o (fO s)) (fO s).length (fun k=>(k:Int)) (fun k=>∀ h:k<(fO s).length,(fO s)[k]∈o) (fun k hk=>by
  unfold oW
  rw[if_pos (by omega),aM hk]
  simp only[Option.bind_some,aBI o _ (by omega),wi1 (by omega:k<=4294967296)]
  by_cases A:(fO s)[k]∈o
  · exact .inl ⟨fun _=>A,by rw[decide_eq_true A];rfl⟩
  · exact .inr ⟨fun h=>A (h hk),by rw[decide_eq_false A];rfl⟩) (by unfold oW;rw[if_neg (by omega)])
 rw[show((0:Nat):Int)=0 from rfl]at L
 rcases L with⟨e,g⟩ | ⟨e,k,hk,g⟩
 · rw[e]
   simp only[Option.bind_some]
   congr 1
   rw[Bool.eq_iff_iff,decide_eq_true_iff,decide_eq_true_iff,aHx]
   constructor
   · intro h
     refine⟨fun v hv=>?_,by omega⟩
     obtain⟨j,hj,rfl⟩:=List.mem_iff_getElem.1 hv
     exact g j hj hj
   · intro h;rw[h.2]
 · rw[e]
   have:¬isOrd s o:=fun h=>g (fun hk=>((aHx s o).1 h).1 _ (List.getElem_mem hk))
   rw[decide_eq_false this];rfl
def qD (o:List Int)(v:Int)(l:Link):Bool:=decide (aR o [l.fA,l.fB]=v)
theorem aO7 (o:List Int)(l:Link)(h:o.length<=4294967296):rT o l=some (aR o [l.fA,l.fB]):=by
 unfold rT
 rw[aLS _ _ h (by simp)];rfl
theorem aMz {o s:List Int}{v:Int}(h:aR o s=v)(hv:v≠0):v∈s/\v∈o:=by
 unfold aR at h
 cases e:o.find? (fun u=>decide (u∈s))with
 | none=>rw[e]at h;exact absurd h.symm hv
 | some x =>
  rw[e]at h
  simp only[Option.getD_some]at h
  subst h
  exact⟨by simpa using List.find?_some e,List.mem_of_find?_eq_some e⟩
theorem aKQ {o s:List Int}{k:Nat}(hk:k<o.length)(hn:o.Nodup)(h1:∀ u∈o,1<=u):aR o s=o[k]↔o[k]∈s/\∀ u∈o.take k,u∉s:=by
 have ef:o.find? (fun u=>decide (u∈s))=((o.take k).find? (fun u=>decide (u∈s))).or ((o[k]::o.drop (k+1)).find? (fun u=>decide (u∈s))):=by
  rw[<- List.find?_append,<- List.drop_eq_getElem_cons hk,List.take_append_drop]
 have hnt:=aAF.1 hn k hk
 constructor
 · intro h
   have hp:=h1 _ (List.getElem_mem hk)
   refine⟨(aMz h (by omega)).1,fun u hu hus=>?_⟩
   unfold aR at h
   rw[ef]at h
   cases f:(o.take k).find? (fun u=>decide (u∈s))with
   | none =>
    rw[List.find?_eq_none]at f
    exact f u hu (by simpa using hus)
   | some x =>
    have hx:=List.mem_of_find?_eq_some f
    rw[f]at h
    simp only[Option.some_or,Option.getD_some]at h
    rw[h]at hx
    exact hnt hx
 · rintro⟨a,b⟩
   unfold aR
   rw[ef]
   have:(o.take k).find? (fun u=>decide (u∈s))=none:=by
    rw[List.find?_eq_none];intro u hu;simpa using b u hu
   rw[this,Option.none_or,List.find?_cons]
   simp[a]
end Go.Ev
/- Building a tree, both programs, and the law. -/
namespace Go.Ev
set_option linter.all false
theorem uC (c:Conditional)(h:aU c<=4294967296):gE c=some c:=by
 have hp:=iY jI c.fParents
 unfold aU nE at h
 unfold gE
 rw[gN _ (by omega)]
 simp only[Option.bind_some]
 have:=aAq (step:=gD c) c.fParents (fun k t=>((k:Int),t)) (fun t=>t) (fun k t hk ht=>by
  have he:=pL (w:=jI) (List.getElem_mem hk)
  have hn:jI c.fParents[k]=bE (c.fParents[k]).fShare+bE (c.fParents[k]).fDX+bE (c.fParents[k]).fDY:=rfl
  unfold gD
  simp only[]
  rw[if_pos (by omega),aM hk]
  simp only[Option.bind_some]
  rw[gN _ (by omega)]
  simp only[Option.bind_some]
  rw[gN _ (by omega)]
  simp only[Option.bind_some]
  rw[gN _ (by omega)]
  simp only[Option.bind_some]
  rw[aP (by omega),wi (by omega)];rfl) (fun t ht=>by unfold gD;simp only[];rw[if_neg (by omega)])
 rw[show((0:Nat):Int)=0 from rfl]at this
 rw[this];rfl
theorem aMg (s:List Link)(o:List Int)(v:Int)(hs:s.length<=4194304)(ho:o.length<=4194304):lp (jB s o v) (0,[])=some (s.filter (qD o v)):=by
 have:=(lI (step:=jB s o v) s (fun k t=>((k:Int),t)) (fun t x=>if qD o v x=true then t++[x]else t) (fun t=>t) (fun k t=>t.length<=k) (fun k t hk hi=>by
  constructor
  · unfold jB
    simp only[]
    rw[if_pos (by omega),aM hk]
    simp only[Option.bind_some,aO7 o _ (by omega:o.length<=4294967296),wi1 (by omega:k<=4294967296)]
    by_cases c:aR o [(s[k]).fA,(s[k]).fB]=v
    · rw[if_pos c,if_pos (by unfold qD;simpa using c),aP (by omega)];rfl
    · rw[if_neg c,if_neg (by unfold qD;simpa using c)]
  · split
    · rw[List.length_append,List.length_singleton];omega
    · omega) (fun t _=>by unfold jB;simp only[];rw[if_neg (by omega)]) [] (Nat.zero_le _)).1
 rw[show((0:Nat):Int)=0 from rfl,xU,List.nil_append]at this
 exact this
theorem aM1 (o:List Int)(k:Nat)(hk:k<=o.length):sub o 0 (k:Int)=some (o.take k):=by
 rw[pM _ _ _ (by omega)];simp
theorem aNv (o:List Int)(hn:o.Nodup)(h1:∀ u∈o,1<=u)(ho:o.length<=4194304)(k:Nat)(hk:k<o.length)(l:Link)(hl:l.fA<l.fB) :
 ((if l.fA=o[k]then(sub o 0 (k:Int)).bind fun y57=>(gC y57 l.fB).bind fun r58=>(if r58=true then(if l.fB=o[k]then(sub o 0 (k:Int)).bind fun y59=>(gC y59 l.fA).bind fun r60=>some (!r60)else some false)else some true)else(if l.fB=o[k]then(sub o 0 (k:Int)).bind fun y61=>(gC y61 l.fA).bind fun r62=>some (!r62)else some false)):Option Bool)=some (qD o o[k] l):=by
 have tl:(o.take k).length<=4294967296:=by rw[List.length_take];omega
 have hnt:=aAF.1 hn k hk
 have ft:=aKQ (s:=[l.fA,l.fB]) hk hn h1
 rw[aM1 o k (by omega)]
 simp only[Option.bind_some,aBI _ _ tl]
 unfold qD
 by_cases A:l.fA=o[k]
 · have B:¬l.fB=o[k]:=by omega
   rw[if_pos A,if_neg B]
   by_cases C:l.fB∈o.take k
   · rw[decide_eq_true C,if_pos rfl]
     have:¬aR o [l.fA,l.fB]=o[k]:=fun h=>(ft.1 h).2 _ C (by simp)
     rw[decide_eq_false this]
   · rw[decide_eq_false C]
     have:aR o [l.fA,l.fB]=o[k]:=ft.2 ⟨by simp[A],fun u hu hs=>by
      rcases List.mem_cons.1 hs with rfl | hs
      · exact hnt (A▸hu)
      · rw[List.mem_singleton.1 hs]at hu;exact C hu⟩
     rw[decide_eq_true this];rfl
 · rw[if_neg A]
   by_cases B:l.fB=o[k]
   · rw[if_pos B]
     by_cases C:l.fA∈o.take k
     · have:¬aR o [l.fA,l.fB]=o[k]:=fun h=>(ft.1 h).2 _ C (by simp)
       rw[decide_eq_true C,decide_eq_false this];rfl
     · have:aR o [l.fA,l.fB]=o[k]:=ft.2 ⟨by simp[B],fun u hu hs=>by
        rcases List.mem_cons.1 hs with rfl | hs
        · exact C hu
        · rw[List.mem_singleton.1 hs]at hu;exact hnt (B▸hu)⟩
       rw[decide_eq_false C,decide_eq_true this];rfl
   · rw[if_neg B]
     have:¬aR o [l.fA,l.fB]=o[k]:=fun h=>by
      have:=(ft.1 h).1
      simp only[List.mem_cons,List.not_mem_nil,or_false]at this
      rcases this with e | e
      · exact A e.symm
      · exact B e.symm
     rw[decide_eq_false this]
theorem aMh (s:List Link)(o:List Int)(hs:s.length<=4194304)(ho:o.length<=4194304)(hv:∀ x∈s,ValidL x)(hn:o.Nodup)(h1:∀ u∈o,1<=u)(i:Nat)(hi:i<o.length):lp (jE s o o[i] (i:Int)) (0,[])=some (s.filter (qD o o[i])):=by
 have:=(lI (step:=jE s o o[i] (i:Int)) s (fun k t=>((k:Int),t)) (fun t x=>if qD o o[i] x=true then t++[x]else t) (fun t=>t) (fun k t=>t.length<=k) (fun k t hk hj=>by
  constructor
  · unfold jE
    simp only[]
    rw[if_pos (by omega),aM hk]
    have oc:=aNv o hn h1 ho i hi s[k] (hv _ (List.getElem_mem hk)).2.2.1
    simp only[Option.bind_some,wi1 (by omega:k<=4294967296)]
    rw[oc]
    simp only[Option.bind_some]
    by_cases c:qD o o[i] s[k]=true
    · rw[if_pos c,if_pos c,aP (by omega)];rfl
    · rw[if_neg c,if_neg c]
  · split
    · rw[List.length_append,List.length_singleton];omega
    · omega) (fun t _=>by unfold jE;simp only[];rw[if_neg (by omega)]) [] (Nat.zero_le _)).1
 rw[show((0:Nat):Int)=0 from rfl,xU,List.nil_append]at this
 exact this
noncomputable def wB (s:List Link)(o:List Int):List Int->List TreeNode->Option (List TreeNode)
 | [],b=>some b
 | v::r,b=>(sC o v (s.filter (qD o v)) b).bind fun n=>wB s o r (b++[n])
noncomputable def wW (s:List Link)(o:List Int):Option Tree :=
 (jnP s).bind fun x=>if isOrd x.1 o then(wB s o o []).map Tree.mk else none
def pkT:Option Tree->Tree×Bool
 | some t=>(t,true)
 | none=>(Tree.mk [],false)
def aQh:Option (List TreeNode)->(List TreeNode) ⊕ (Tree×Bool)
 | some b=>.inl b
 | none=>.inr (Tree.mk [],false)
def NodeOk (s:List Link)(o:List Int)(n:TreeNode):Prop:=LSet n.fMessages/\n.fOwn=s.filter (qD o n.fNode)/\aU n.fCond<=20000/\bL n.fEnergy/\n.fUp=upP o n.fCond
theorem aAB (p:Link->Bool):∀ s:List Link,aL (s.filter p)<=aL s
 | []=>Nat.le_refl _
 | x::s=>by
  have:=aAB p s
  unfold aL at this ⊢
  rw[List.filter_cons,oC]
  split
  · rw[oC];omega
  · omega
theorem aKE {s:List Link}{o:List Int}{v:Int}{b:List TreeNode}{n:TreeNode}(h:sC o v (s.filter (qD o v)) b=some n):NodeOk s o n/\n.fNode=v:=by
 obtain⟨h1,h2,h3,h4,h5,h6⟩:=aFN h
 exact⟨⟨h1,by rw[h5];exact h2,h3,h4,h6⟩,h5⟩
theorem aBi {s:List Link}{o:List Int}:∀ (r:List Int) (b b':List TreeNode),(∀ n∈b,NodeOk s o n)->wB s o r b=some b'->(∀ n∈b',NodeOk s o n)/\b'.map (·.fNode)=b.map (·.fNode)++r
 | [],b,b',h,e=>by cases e;exact⟨h,by simp⟩
 | v::r,b,b',h,e=>by
  rw[wB]at e
  cases h1:sC o v (s.filter (qD o v)) b with
  | none=>rw[h1]at e;cases e
  | some n =>
   rw[h1,Option.bind_some]at e
   obtain⟨g1,g2⟩:=aKE h1
   obtain⟨k1,k2⟩:=aBi r (b++[n]) b' (fun m hm=>by
    rcases List.mem_append.1 hm with hm | hm
    · exact h m hm
    · rw[List.mem_singleton.1 hm];exact g1) e
   exact⟨k1,by rw[k2,List.map_append,List.append_assoc];simp[g2]⟩
theorem aKg (s:List Link)(o:List Int)(hz:aL s<=4194304)(hv:∀ x∈s,ValidL x)(ho:o.length<=9)(h1:∀ u∈o,1<=u):∀ m k:Nat,m+k=o.length->∀ b:List TreeNode,b.length=k->(∀ n∈b,LSet n.fMessages)->lp (jA s o) ((k:Int),b)=some (aQh (wB s o (o.drop k) b)):=by
 have hl:s.length<=4194304:=Nat.le_trans (iY _ _) hz
 intro m
 induction m with
 | zero =>
  intro k hk b hb hm
  rw[List.drop_eq_nil_of_le (by omega)]
  exact aN (by unfold jA;simp only[];rw[if_neg (by omega)];rfl)
 | succ m ih =>
  intro k hk b hb hm
  have hlt:k<o.length:=by omega
  rw[List.drop_eq_getElem_cons hlt,wB]
  have nq:=(aNF (v:=o[k]) (own:=s.filter (qD o o[k])) (b:=b) (by omega:o.length<=4194304) h1 (Nat.le_trans (aAB _ s) hz) (by omega) hm (fun x hx=>hv x (List.mem_filter.1 hx).1)).1
  have st:jA s o ((k:Int),b)=some (match sC o o[k] (s.filter (qD o o[k])) b with | some n=>.inl (((k+1:Nat):Int),b++[n]) | none=>.inr (.inr (Tree.mk [],false))):=by
   unfold jA
   simp only[]
   rw[if_pos (by omega),aM hlt]
   simp only[Option.bind_some,aMg s o o[k] hl (by omega),nq,wi1 (by omega:k<=4294967296)]
   cases sC o o[k] (s.filter (qD o o[k])) b with
   | none=>rfl
   | some n=>simp only[pkN,if_true];rw[aP (by omega)];rfl
  cases h:sC o o[k] (s.filter (qD o o[k])) b with
  | none=>rw[h]at st;rw[aN st];rfl
  | some n =>
   rw[h]at st
   rw[aS st,Option.bind_some]
   exact ih (k+1) (by omega) _ (by simp[hb]) (fun x hx=>by
    rcases List.mem_append.1 hx with hx | hx
    · exact hm x hx
    · rw[List.mem_singleton.1 hx];exact(aFN h).1)
theorem aKi (s:List Link)(o:List Int)(hz:aL s<=4194304)(hv:∀ x∈s,ValidL x)(ho:o.length<=9)(hn:o.Nodup)(h1:∀ u∈o,1<=u):∀ m k:Nat,m+k=o.length->∀ b:List TreeNode,b.length=k->(∀ n∈b,LSet n.fMessages)->lp (jD s o) ((k:Int),b)=some (aQh (wB s o (o.drop k) b)):=by
 have hl:s.length<=4194304:=Nat.le_trans (iY _ _) hz
 intro m
 induction m with
 | zero =>
  intro k hk b hb hm
  rw[List.drop_eq_nil_of_le (by omega)]
  exact aN (by unfold jD;simp only[];rw[if_neg (by omega)];rfl)
 | succ m ih =>
  intro k hk b hb hm
  have hlt:k<o.length:=by omega
  rw[List.drop_eq_getElem_cons hlt,wB]
  have nq:=(aNF (v:=o[k]) (own:=s.filter (qD o o[k])) (b:=b) (by omega:o.length<=4194304) h1 (Nat.le_trans (aAB _ s) hz) (by omega) hm (fun x hx=>hv x (List.mem_filter.1 hx).1)).2
  have st:jD s o ((k:Int),b)=some (match sC o o[k] (s.filter (qD o o[k])) b with | some n=>.inl (((k+1:Nat):Int),b++[n]) | none=>.inr (.inr (Tree.mk [],false))):=by
   unfold jD
   simp only[]
   rw[if_pos (by omega),aM hlt]
   simp only[Option.bind_some,aMh s o hl (by omega) hv hn h1 k hlt,nq,wi1 (by omega:k<=4294967296)]
   cases sC o o[k] (s.filter (qD o o[k])) b with
   | none=>rfl
   | some n=>simp only[pkN,if_true];rw[aP (by omega)];rfl
  cases h:sC o o[k] (s.filter (qD o o[k])) b with
  | none=>rw[h]at st;rw[aN st];rfl
  | some n =>
   rw[h]at st
   rw[aS st,Option.bind_some]
   exact ih (k+1) (by omega) _ (by simp[hb]) (fun x hx=>by
    rcases List.mem_append.1 hx with hx | hx
    · exact hm x hx
    · rw[List.mem_singleton.1 hx];exact(aFN h).1)
theorem NodeOk.sz {s:List Link}{o:List Int}{n:TreeNode}(h:NodeOk s o n)(hz:aL s<=4194304):bR n<=4300000:=by
 have h1:=h.1.sz
 have h2:aL n.fOwn<=4194304:=by rw[h.2.1];exact Nat.le_trans (aAB _ s) hz
 have h3:=lS (.inl h.2.2.2.1)
 have h4:=h.2.2.1
 unfold bR;omega
theorem aK0 (n:TreeNode)(h:bR n<=4294967296):lN n=some n:=by
 unfold bR at h
 unfold lN
 rw[qZ _ (by omega),uC _ (by omega)]
 simp only[Option.bind_some]
 rw[qZ _ (by omega),gN _ (by omega)]
 rfl
theorem aKZ (t:Tree)(h:kC t<=4294967296):sH t=some t:=by
 unfold kC lU at h
 have hl:=iY bR t.fNodes
 unfold sH
 have:=aAq (step:=mV t) t.fNodes (fun k t=>((k:Int),t)) (fun t=>t) (fun k u hk hu=>by
  have he:=pL (w:=bR) (List.getElem_mem hk)
  unfold mV
  simp only[]
  rw[if_pos (by omega),aM hk]
  simp only[Option.bind_some]
  rw[aK0 _ (by omega)]
  simp only[Option.bind_some]
  rw[aP (by omega),wi1 (by omega)];rfl) (fun t ht=>by unfold mV;simp only[];rw[if_neg (by omega)])
 rw[show((0:Nat):Int)=0 from rfl]at this
 rw[this];rfl
theorem aOW {s:List Link}{o:List Int}{b:List TreeNode}(hz:aL s<=4194304)(ho:o.length<=9)(h:wB s o o []=some b):kC ⟨b⟩<=38700018:=by
 obtain⟨h1,h2⟩:=aBi o [] b (by simp) h
 have hl:b.length=o.length:=by have:=congrArg List.length h2;simpa using this
 have:lU b<=(4300000+1)*b.length:=aDL (fun n hn=>(h1 n hn).sz hz)
 unfold kC
 have:(4300000+1)*b.length<=4300001*9:=Nat.mul_le_mul (Nat.le_refl _) (by omega)
 simp only[]
 omega
theorem aIU (s:List Link)(o:List Int)(hz:aL s<=4194304)(ho:o.length<=4194304):qC s o=some (pkT (wW s o))/\nB s o=some (pkT (wW s o)):=by
 obtain⟨j1,j2⟩:=wT s (by omega)
 unfold qC nB wW
 rw[j1,j2]
 cases h:jnP s with
 | none=>exact⟨rfl,rfl⟩
 | some x =>
  obtain⟨u,e⟩:=x
  obtain⟨hv,hs,he⟩:=aBF h
  simp only[pk,Option.bind_some,if_true]
  rw[aLf hs o ho,aGK hs o ho]
  by_cases c:isOrd u o
  · obtain⟨l9,h1⟩:=aGg c
    have q1:=aKg s o hz hv l9 h1 o.length 0 (by omega) [] rfl (by simp)
    have q2:=aKi s o hz hv l9 c.1 h1 o.length 0 (by omega) [] rfl (by simp)
    rw[show((0:Nat):Int)=0 from rfl,List.drop_zero]at q1 q2
    rw[decide_eq_true c,if_pos c]
    simp only[Option.bind_some,Bool.not_true,Bool.false_eq_true,if_false,q1,q2]
    cases g:wB s o o []with
    | none=>exact⟨rfl,rfl⟩
    | some b =>
     simp only[aQh]
     rw[aKZ ⟨b⟩ (by have:=aOW hz l9 g;omega)]
     exact⟨rfl,rfl⟩
  · rw[decide_eq_false c,if_neg c]
    exact⟨rfl,rfl⟩
end Go.Ev
