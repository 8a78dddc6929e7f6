/- Parts P20, PR2, PR3, PV, PR4, PR5, PR6, PR7, PR8, PR9. -/
import Derived.Test.YtlhoochohnnepaaGreatPb1
import Derived.Test.YtlhoochohnnepaaGreatPa1
set_option linter.all false
/- Copies of links; the links of a tree. -/
namespace Go.Ev
set_option linter.all false
theorem pR (x:Rat)(h:bI x<=4294967296):jP x=some x:=by
 unfold bI uU xV at h
 rw[tJ,tJ]at h
 unfold jP
 rw[aO (by simp;omega),aO (by simp;omega)]
 simp only[Option.bind_some,aL,List.nil_append]
theorem tQ (x:Link)(h:bR x<=4294967296):lA x=some x:=by
 unfold bR at h
 unfold lA
 rw[pR _ (by omega)]
 simp only[Option.bind_some]
 rw[pR _ (by omega)]
 simp only[Option.bind_some]
 rw[pR _ (by omega)]
 simp only[Option.bind_some]
theorem aCb (l:List Link)(h:aI l<=4294967296):pP l=some l:=by
 unfold aI at h
 have hl:=iG bR l
 unfold pP
 have:=aAn (step:=pO l) l (fun k t=>((k:Int),t)) (fun t=>t) (fun k t hk ht=>by
  have he:=pH (w:=bR) (List.getElem_mem hk)
  unfold pO
  simp only[]
  rw[if_pos (by omega),aK hk]
  simp only[Option.bind_some]
  rw[tQ _ (by omega)]
  simp only[Option.bind_some]
  rw[aO (by omega),wi (by omega)];rfl) (fun t ht=>by unfold pO;simp only[];rw[if_neg (by omega)])
 rw[show((0:Nat):Int)=0 from rfl]at this
 rw[this];rfl
theorem aA2 (l:List Int)(h:l.length<=4294967296):eG l=some l:=by
 unfold eG
 rw[aO (by simp;omega)]
 simp only[Option.bind_some,aL,List.nil_append]
theorem gQ (x:Rat)(h:bI x<=4294967296):eQ x=some x:=by
 unfold bI uU xV at h
 rw[tJ,tJ]at h
 unfold eQ
 rw[aA2 _ (by omega)]
 simp only[Option.bind_some]
 rw[aA2 _ (by omega)]
 simp only[Option.bind_some]
theorem aEJ (x:Link)(h:bR x<=4294967296):sB x=some x:=by
 unfold bR at h
 unfold sB
 rw[gQ _ (by omega)]
 simp only[Option.bind_some]
 rw[gQ _ (by omega)]
 simp only[Option.bind_some]
 rw[gQ _ (by omega)]
 simp only[Option.bind_some]
theorem qT (l:List Link)(h:aI l<=4294967296):iU l=some l:=by
 unfold aI at h
 have hl:=iG bR l
 unfold iU
 have:=aAn (step:=lM l) l (fun k t=>((k:Int),t)) (fun t=>t) (fun k t hk ht=>by
  have he:=pH (w:=bR) (List.getElem_mem hk)
  unfold lM
  simp only[]
  rw[if_pos (by omega),aK hk]
  simp only[Option.bind_some]
  rw[aEJ _ (by omega)]
  simp only[Option.bind_some]
  rw[aO (by omega),wi (by omega)];rfl) (fun t ht=>by unfold lM;simp only[];rw[if_neg (by omega)])
 rw[show((0:Nat):Int)=0 from rfl]at this
 rw[this];rfl
def cI (l:List TreeNode):List Link:=(l.map (fun n=>n.fOwn)).flatten
theorem aBL:∀ l:List TreeNode,aI (cI l)<=szL bQ l
 | []=>by simp[cI,aI,aEL]
 | y::l=>by
  have:=aBL l
  have hn:bQ y=aI y.fOwn+aR y.fCond+aI y.fMessages+bI y.fEnergy:=rfl
  unfold cI aI at *
  rw[List.map_cons,List.flatten_cons,aHQ,mC]
  omega
theorem aEb (l:List TreeNode)(k:Nat)(hk:k<l.length):cI (l.take (k+1))=cI (l.take k)++l[k].fOwn:=by
 unfold cI
 rw[List.take_succ,List.getElem?_eq_getElem hk,List.map_append,List.flatten_append]
 simp
theorem aMT {α:Type}(w:α->Nat)(l:List α)(k:Nat):szL w (l.take k)<=szL w l:=by
 have:=aHQ w (l.take k) (l.drop k)
 rw[List.take_append_drop]at this
 omega
theorem aKn (l:List TreeNode)(h:szL bQ l<=4294967296)(k:Nat):(cI (l.take k)).length<=4294967296:=by
 have h1:=aBL (l.take k)
 have h2:=aMT bQ l k
 have h3:=iG bR (cI (l.take k))
 unfold aI at h1
 omega
end Go.Ev
/- Links: validity, order, merging; adding links to a link set, both programs. -/
namespace Go.Ev
open IntKind
set_option linter.all false
def ValidL (l:Link):Prop:=(0<=l.fA/\l.fA<=9)/\(0<=l.fB/\l.fB<=9)/\l.fA<l.fB/\0<wX l.fWeight/\bK l.fDX/\bK l.fDY
instance (l:Link):Decidable (ValidL l):=by unfold ValidL;infer_instance
theorem gI (l:Link)(h:bR l<=4294967296):eO l=some (decide (ValidL l))/\gF l=some (decide (ValidL l)):=by
 unfold bR at h
 obtain⟨g1,g2⟩:=vK l.fWeight (by omega)
 have a1:=aAt l.fDX (by omega)
 have a2:=aAt l.fDY (by omega)
 have b1:=eC l.fDX (by omega)
 have b2:=eC l.fDY (by omega)
 unfold eO gF ValidL
 simp only[aJu,aBR,g1,g2,a1,a2,b1,b2,Option.bind_some]
 by_cases A:0<=l.fA/\l.fA<=9
 · by_cases B:0<=l.fB/\l.fB<=9
   · by_cases C:l.fA<l.fB
     · by_cases D:0<wX l.fWeight
       · by_cases E:bK l.fDX
         · by_cases F:bK l.fDY <;> simp[A,B,C,D,E,F]
         · simp[A,B,C,D,E]
       · simp[A,B,C,D]
     · simp[A,B,C]
   · simp[A,B]
 · simp[A]
theorem ValidL.vz {l:Link}(h:ValidL l):VZ l.fWeight/\VZ l.fDX/\VZ l.fDY:=⟨.inl (aAd h.2.2.2.1),.inl h.2.2.2.2.1,.inl h.2.2.2.2.2⟩
theorem ValidL.sz {l:Link}(h:ValidL l):bR l<=144:=by
 obtain⟨h1,h2,h3⟩:=h.vz
 have:=nF h1
 have:=nF h2
 have:=nF h3
 unfold bR;omega
theorem aDC {α:Type}{w:α->Nat}{c:Nat}:∀ {l:List α},(∀ x∈l,w x<=c)->szL w l<=(c+1)*l.length
 | [],_=>by simp[aEL]
 | y::l,h=>by
  have h1:=h y (by simp)
  have h2:=aDC (l:=l) (c:=c) (fun x hx=>h x (by simp[hx]))
  rw[mC,List.length_cons,Nat.mul_add,Nat.mul_one];omega
def fD (k l:Link):Prop:=k.fA<l.fA\/(k.fA=l.fA/\k.fB<l.fB)
instance (k l:Link):Decidable (fD k l):=by unfold fD;infer_instance
theorem aGx (k l:Link):nH k l=some (decide (fD k l)):=by
 unfold nH fD
 by_cases A:k.fA<l.fA
 · simp[A]
 · by_cases B:k.fA=l.fA
   · simp[A,B]
   · simp[A,B]
theorem aJ2 (k l:Link):kB k l=some (decide (fD k l)):=aGx k l
theorem aBr {a b c:Link}(h:fD a b)(g:fD b c):fD a c:=by unfold fD at *;omega
noncomputable def sqR (x y:Rat):Rat:=RA (RM x x) (RM y y)
noncomputable def aA6 (k l:Link):Link:=⟨k.fA,k.fB,RA k.fWeight l.fWeight,RD (RA (RM k.fWeight k.fDX) (RM l.fWeight l.fDX)) (RA k.fWeight l.fWeight),RD (RA (RM k.fWeight k.fDY) (RM l.fWeight l.fDY)) (RA k.fWeight l.fWeight)⟩
noncomputable def aDM (k l:Link):Rat:=RM (RD (RM k.fWeight l.fWeight) (RA k.fWeight l.fWeight)) (sqR (RS k.fDX l.fDX) (RS k.fDY l.fDY))
def zH (k l:Link):Prop:=bK (aA6 k l).fWeight/\bK (aA6 k l).fDX/\bK (aA6 k l).fDY/\bK (aDM k l)
noncomputable instance (k l:Link):Decidable (zH k l):=by unfold zH;infer_instance
def aGU:Link:=Link.mk 0 0 (Rat.mk (BigInt.mk false ([])) ([])) (Rat.mk (BigInt.mk false ([])) ([])) (Rat.mk (BigInt.mk false ([])) ([]))
theorem aRW {x y:Rat}(hx:VZ x)(hy:VZ y):oB x y=some (sqR x y)/\lI x y=some (sqR x y)/\VZ (sqR x y):=by
 obtain⟨a1,a2,a3⟩:=aBB hx hx
 obtain⟨b1,b2,b3⟩:=aBB hy hy
 obtain⟨c1,c2,c3⟩:=zA a3 b3
 unfold oB lI sqR
 simp only[a1,a2,b1,b2,c1,c2,Option.bind_some]
 exact⟨trivial,trivial,c3⟩
theorem aJi {k l:Link}(hk:ValidL k)(hl:ValidL l)(h:zH k l):ValidL (aA6 k l) :=
 ⟨hk.1,hk.2.1,hk.2.2.1,aQP hk.2.2.2.1 hl.2.2.2.1 h.1,h.2.1,h.2.2.1⟩
theorem aLu {k l:Link}(hk:ValidL k)(hl:ValidL l)(hA:k.fA=l.fA)(hB:k.fB=l.fB) :
 oE k l=some (if zH k l then(aA6 k l,aDM k l,true)else(aGU,nG,false))/\oO k l=some (if zH k l then(aA6 k l,aDM k l,true)else(aGU,nG,false))/\VZ (aDM k l):=by
 obtain⟨k1,k2,k3⟩:=hk.vz
 obtain⟨l1,l2,l3⟩:=hl.vz
 obtain⟨a1,a2,a3⟩:=zA k1 l1
 obtain⟨b1,b2,b3⟩:=aBB k1 k2
 obtain⟨c1,c2,c3⟩:=aBB l1 l2
 obtain⟨d1,d2,d3⟩:=zA b3 c3
 obtain⟨e1,e2,e3⟩:=aDv d3 a3
 obtain⟨f1,f2,f3⟩:=aBB k1 k3
 obtain⟨g1,g2,g3⟩:=aBB l1 l3
 obtain⟨i1,i2,i3⟩:=zA f3 g3
 obtain⟨j1,j2,j3⟩:=aDv i3 a3
 obtain⟨m1,m2,m3⟩:=aBB k1 l1
 obtain⟨n1,n2,n3⟩:=aDv m3 a3
 obtain⟨o1,o2,o3⟩:=aID k2 l2
 obtain⟨p1,p2,p3⟩:=aID k3 l3
 obtain⟨q1,q2,q3⟩:=aRW o3 p3
 obtain⟨r1,r2,r3⟩:=aBB n3 q3
 have v1:=(gI k (by have:=hk.sz;omega)).1
 have v2:=(gI l (by have:=hl.sz;omega)).1
 have vm:=(gI (aA6 k l) (by
  have:=nF a3;have:=nF e3;have:=nF j3
  unfold bR aA6;simp only[];omega)).1
 refine⟨?_,?_,r3⟩
 · unfold oE
   rw[v1,v2,decide_eq_true hk,decide_eq_true hl]
   simp only[Option.bind_some,if_true,hA,hB,ne_eq,not_true_eq_false,if_false,decide_false,Bool.false_eq_true]
   simp only[a1,b1,c1,d1,e1,f1,g1,i1,j1,m1,n1,o1,p1,q1,r1,Option.bind_some]
   rw[<- hA,<- hB]
   have e:(Link.mk k.fA k.fB (RA k.fWeight l.fWeight) (RD (RA (RM k.fWeight k.fDX) (RM l.fWeight l.fDX)) (RA k.fWeight l.fWeight)) (RD (RA (RM k.fWeight k.fDY) (RM l.fWeight l.fDY)) (RA k.fWeight l.fWeight)))=aA6 k l:=rfl
   rw[e,vm]
   have e2:RM (RD (RM k.fWeight l.fWeight) (RA k.fWeight l.fWeight)) (sqR (RS k.fDX l.fDX) (RS k.fDY l.fDY))=aDM k l:=rfl
   rw[e2,eC (aDM k l) (VZs r3)]
   simp only[Option.bind_some]
   by_cases O:zH k l
   · rw[if_pos O,decide_eq_true (aJi hk hl O),decide_eq_true O.2.2.2];rfl
   · rw[if_neg O]
     by_cases V:ValidL (aA6 k l)
     · have:¬bK (aDM k l):=fun h=>O ⟨aAd V.2.2.2.1,V.2.2.2.2.1,V.2.2.2.2.2,h⟩
       rw[decide_eq_true V,decide_eq_false this];rfl
     · rw[decide_eq_false V];rfl
 · unfold oO
   simp only[a2,b2,c2,d2,e2,f2,g2,i2,j2,m2,n2,o2,p2,q2,r2,Option.bind_some,iM a3,iM e3,iM j3,iM r3]
   unfold zH aA6 aDM
   simp only[]
   by_cases A:bK (RA k.fWeight l.fWeight)
   · by_cases B:bK (RD (RA (RM k.fWeight k.fDX) (RM l.fWeight l.fDX)) (RA k.fWeight l.fWeight))
     · by_cases C:bK (RD (RA (RM k.fWeight k.fDY) (RM l.fWeight l.fDY)) (RA k.fWeight l.fWeight))
       · by_cases D:bK (RM (RD (RM k.fWeight l.fWeight) (RA k.fWeight l.fWeight)) (sqR (RS k.fDX l.fDX) (RS k.fDY l.fDY))) <;> simp[A,B,C,D,aGU,nG]
       · simp[A,B,C,aGU,nG]
     · simp[A,B,aGU,nG]
   · simp[A,aGU,nG]
def LSet (s:List Link):Prop:=(∀ x∈s,ValidL x)/\s.Pairwise fD
noncomputable instance (s:List Link):Decidable (LSet s):=Classical.propDecidable _
theorem aLB:∀ (l:List Int) (a N:Int),l.Pairwise (· < ·)->(∀ x∈l,a<=x/\x<N)->(l.length:Int)<=max 0 (N-a)
 | [],a,N,_,_=>by rw[List.length_nil];omega
 | x::l,a,N,h,hb=>by
  rw[List.pairwise_cons]at h
  have h1:=hb x (by simp)
  have:=aLB l (x+1) N h.2 (fun y hy=>⟨by have:=h.1 y hy;omega,(hb y (by simp[hy])).2⟩)
  rw[List.length_cons];omega
theorem LSet.len {s:List Link}(h:LSet s):s.length<=100:=by
 have:=aLB (s.map fun l=>l.fA*10+l.fB) 0 100 (by
  rw[List.pairwise_map]
  refine List.Pairwise.imp_of_mem (fun {a b} ha hb hr=>?_) h.2
  have h1:=h.1 a ha
  have h2:=h.1 b hb
  unfold ValidL at h1 h2
  unfold fD at hr
  omega) (by
  intro x hx
  obtain⟨l,hl,rfl⟩:=List.mem_map.1 hx
  have h1:=h.1 l hl
  unfold ValidL at h1
  omega)
 rw[List.length_map]at this;omega
theorem aBE {s:List Link}(h:∀ x∈s,ValidL x):aI s<=145*s.length:=aDC (fun x hx=>(h x hx).sz)
theorem LSet.sz {s:List Link}(h:LSet s):aI s<=14500:=by
 have:=aBE h.1
 have:=h.len
 omega
def lsF:Option Link->List Link->Prop
 | _,[]=>True
 | p,x::r=>ValidL x/\(∀ q,p=some q->fD q x)/\lsF (some x) r
noncomputable instance (p:Option Link)(s:List Link):Decidable (lsF p s):=Classical.propDecidable _
theorem aLv:∀ (s:List Link) (p:Option Link),lsF p s↔LSet s/\∀ q,p=some q->∀ x∈s,fD q x
 | [],p=>by simp[lsF,LSet]
 | x::r,p=>by
  rw[lsF,aLv r (some x)]
  unfold LSet
  rw[List.pairwise_cons]
  constructor
  · rintro⟨h1,h2,⟨h3,h4⟩,h5⟩
    refine⟨⟨fun y hy=>?_,fun y hy=>h5 x rfl y hy,h4⟩,fun q hq y hy=>?_⟩
    · rcases List.mem_cons.1 hy with rfl | hy
      · exact h1
      · exact h3 y hy
    · rcases List.mem_cons.1 hy with rfl | hy
      · exact h2 q hq
      · exact aBr (h2 q hq) (h5 x rfl y hy)
  · rintro⟨⟨h1,h2,h3⟩,h4⟩
    exact⟨h1 x (by simp),fun q hq=>h4 q hq x (by simp),⟨fun y hy=>h1 y (by simp[hy]),h3⟩,fun q hq y hy=>by cases hq;exact h2 y hy⟩
theorem lS (s:List Link)(h:aI s<=4294967296):dM s=some (decide (LSet s)):=by
 unfold aI at h
 have hl:=iG bR s
 have main:∀ m k:Nat,m+k=s.length->∀ p:Option Link,(p=if k=0 then none else s[k-1]?)->lp (eZ s) (k:Int)=some (if lsF p (s.drop k)then .inl ()else .inr false):=by
  intro m
  induction m with
  | zero =>
   intro k hk p _
   rw[List.drop_eq_nil_of_le (by omega),if_pos (by simp[lsF])]
   exact aJ (by unfold eZ;rw[if_neg (by omega)])
  | succ m ih =>
   intro k hk p hp
   have hlt:k<s.length:=by omega
   have hz:=pH (w:=bR) (List.getElem_mem hlt)
   have v:=(gI s[k] (by omega)).1
   rw[List.drop_eq_getElem_cons hlt]
   have st:eZ s (k:Int)=some (if ValidL s[k]/\(∀ q,p=some q->fD q s[k])then .inl ((k+1:Nat):Int)else .inr (.inr false)):=by
    have w1:i64.wrap ((k:Int)+1)=((k+1:Nat):Int):=by rw[wi (by omega)];omega
    unfold eZ
    rw[if_pos (by omega),aK hlt]
    simp only[Option.bind_some,v,w1]
    by_cases V:ValidL s[k]
    · rw[decide_eq_true V,if_pos rfl]
      by_cases K:k=0
      · subst K
        rw[if_pos rfl]at hp;subst hp
        simp[V]
      · have hlt2:k-1<s.length:=by omega
        rw[if_neg K,List.getElem?_eq_getElem hlt2]at hp;subst hp
        have w2:i64.wrap ((k:Int)-1)=((k-1:Nat):Int):=by rw[wi (by omega)];omega
        rw[if_pos (by omega),w2,aK hlt2]
        simp only[Option.bind_some,aGx]
        by_cases L:fD s[k-1] s[k]
        · simp[V,L]
        · simp[L]
    · rw[decide_eq_false V];simp[V]
   by_cases G:ValidL s[k]/\(∀ q,p=some q->fD q s[k])
   · rw[if_pos G]at st
     rw[aQ st,ih (k+1) (by omega) (some s[k]) (by rw[if_neg (by omega),Nat.add_sub_cancel,List.getElem?_eq_getElem hlt])]
     have:lsF p (s[k]::s.drop (k+1))↔lsF (some s[k]) (s.drop (k+1)):=by rw[lsF];exact⟨fun h=>h.2.2,fun h=>⟨G.1,G.2,h⟩⟩
     simp only[this]
   · rw[if_neg G]at st
     rw[aJ st,if_neg]
     rw[lsF];exact fun h=>G ⟨h.1,h.2.1⟩
 have:=main s.length 0 (by omega) none (by simp)
 unfold dM
 rw[show((0:Nat):Int)=0 from rfl,List.drop_zero]at this
 rw[this]
 have e:lsF none s↔LSet s:=by rw[aLv];exact⟨fun h=>h.1,fun h=>⟨h,fun q hq=>by cases hq⟩⟩
 by_cases c:LSet s
 · rw[if_pos (e.2 c),decide_eq_true c];rfl
 · rw[if_neg (fun h=>c (e.1 h)),decide_eq_false c];rfl
def dV (l:Link):List Link->Nat
 | []=>0
 | y::r=>if fD y l then dV l r+1 else 0
theorem aLi (l:Link):∀ s:List Link,dV l s<=s.length
 | []=>Nat.le_refl _
 | y::r=>by
  have:=aLi l r
  rw[dV];split <;> simp <;> omega
theorem aDH (l:Link):∀ s:List Link,∀ x∈s.take (dV l s),fD x l
 | [],x,h=>by simp[dV]at h
 | y::r,x,h=>by
  rw[dV]at h
  by_cases c:fD y l
  · rw[if_pos c,List.take_succ_cons]at h
    rcases List.mem_cons.1 h with rfl | h
    · exact c
    · exact aDH l r x h
  · rw[if_neg c]at h;simp at h
theorem aBK (l:Link):∀ (s:List Link) (h:dV l s<s.length),¬fD s[dV l s] l
 | [],h=>by simp at h
 | y::r,h=>by
  by_cases c:fD y l
  · have e:dV l (y::r)=dV l r+1:=by rw[dV,if_pos c]
    have h':dV l r<r.length:=by rw[e]at h;simpa using h
    have:=aBK l r h'
    simpa [e]using this
  · have e:dV l (y::r)=0:=by rw[dV,if_neg c]
    simpa [e]using c
theorem aNm (s:List Link)(l:Link)(h:s.length<=4294967296):lp (gU l s) 0=some ((dV l s:Nat):Int):=by
 have main:∀ m k:Nat,m+k=s.length->lp (gU l s) (k:Int)=some ((k+dV l (s.drop k):Nat):Int):=by
  intro m
  induction m with
  | zero =>
   intro k hk
   rw[List.drop_eq_nil_of_le (by omega)]
   refine aJ ?_
   unfold gU
   rw[if_neg (by omega)];rfl
  | succ m ih =>
   intro k hk
   have hlt:k<s.length:=by omega
   have w1:i64.wrap ((k:Int)+1)=((k+1:Nat):Int):=by rw[wi (by omega)];omega
   rw[List.drop_eq_getElem_cons hlt,dV]
   have st:gU l s (k:Int)=some (if fD s[k] l then .inl ((k+1:Nat):Int)else .inr (k:Int)):=by
    unfold gU
    rw[if_pos (by omega),aK hlt]
    simp only[Option.bind_some,aGx,w1]
    by_cases L:fD s[k] l <;> simp[L]
   by_cases L:fD s[k] l
   · rw[if_pos L]at st ⊢
     rw[aQ st,ih (k+1) (by omega)]
     congr 2;omega
   · rw[if_neg L]at st ⊢
     rw[aJ st];rfl
 have:=main s.length 0 (by omega)
 simpa using this
noncomputable def aAU (s:List Link)(l:Link):Option (List Link×Rat) :=
 if h:dV l s<s.length then
  if fD l s[dV l s]then some (s.take (dV l s)++[l]++s.drop (dV l s),dU 0)
  else if zH s[dV l s] l then some (s.take (dV l s)++[aA6 s[dV l s] l]++s.drop (dV l s+1),aDM s[dV l s] l)else none
 else some (s.take (dV l s)++[l]++s.drop (dV l s),dU 0)
def pk:Option (List Link×Rat)->List Link×Rat×Bool
 | some (s,e)=>(s,e,true)
 | none=>([],nG,false)
theorem aGB {s:List Link}{m:Link}{p q:Nat}(hs:LSet s)(hm:ValidL m)(h1:∀ x∈s.take p,fD x m)(h2:∀ y∈s.drop q,fD m y):LSet (s.take p++[m]++s.drop q):=by
 refine⟨fun x hx=>?_,?_⟩
 · rw[List.mem_append,List.mem_append,List.mem_singleton]at hx
   rcases hx with(hx | rfl) | hx
   · exact hs.1 x (List.mem_of_mem_take hx)
   · exact hm
   · exact hs.1 x (List.mem_of_mem_drop hx)
 · rw[List.append_assoc,List.pairwise_append]
   refine⟨hs.2.sublist (List.take_sublist _ _),?_,fun a ha b hb=>?_⟩
   · rw[List.singleton_append,List.pairwise_cons]
     exact⟨h2,hs.2.sublist (List.drop_sublist _ _)⟩
   · rw[List.singleton_append]at hb
     rcases List.mem_cons.1 hb with rfl | hb
     · exact h1 a ha
     · exact aBr (h1 a ha) (h2 b hb)
theorem aQg {s:List Link}(h:s.Pairwise fD){p:Nat}(hp:p<s.length):(∀ x∈s.take p,fD x s[p])/\∀ y∈s.drop (p+1),fD s[p] y:=by
 have e:s=s.take p++(s[p]::s.drop (p+1)):=by rw[<- List.drop_eq_getElem_cons hp,List.take_append_drop]
 rw[e,List.pairwise_append,List.pairwise_cons]at h
 exact⟨fun x hx=>h.2.2 x hx _ List.mem_cons_self,h.2.1.1⟩
theorem aIy {s:List Link}{l:Link}(hs:LSet s)(hl:ValidL l){s':List Link}{e:Rat}(h:aAU s l=some (s',e)):LSet s'/\VZ e:=by
 unfold aAU at h
 have z:VZ (dU 0):=.inl (yC 0 (by omega))
 by_cases c:dV l s<s.length
 · rw[dif_pos c]at h
   obtain⟨g1,g2⟩:=aQg hs.2 c
   by_cases c2:fD l s[dV l s]
   · rw[if_pos c2]at h;cases h
     refine⟨aGB hs hl (aDH l s) (fun y hy=>?_),z⟩
     rw[List.drop_eq_getElem_cons c]at hy
     rcases List.mem_cons.1 hy with rfl | hy
     · exact c2
     · exact aBr c2 (g2 y hy)
   · rw[if_neg c2]at h
     have hv:=hs.1 _ (List.getElem_mem c)
     have nl:=aBK l s c
     have hA:s[dV l s].fA=l.fA/\s[dV l s].fB=l.fB:=by unfold fD at c2 nl;omega
     by_cases O:zH s[dV l s] l
     · rw[if_pos O]at h;cases h
       exact⟨aGB hs (aJi hv hl O) g1 g2,(aLu hv hl hA.1 hA.2).2.2⟩
     · rw[if_neg O]at h;cases h
 · rw[dif_neg c]at h;cases h
   refine⟨aGB hs hl (aDH l s) (fun y hy=>?_),z⟩
   rw[List.drop_eq_nil_of_le (by omega)]at hy;cases hy
theorem aIz (s:List Link)(l:Link):wZ s l=gU l s:=rfl
theorem tA {α:Type}(x:α):aZ x=some x:=rfl
theorem aHI {s:List Link}{l:Link}(hs:LSet s)(hl:ValidL l):nJ s l=some (pk (aAU s l))/\uF s l=some (pk (aAU s l)):=by
 have hlen:=hs.len
 have hp:=aLi l s
 have v:=(gI l (by have:=hl.sz;omega)).1
 have i1:=lS s (by have:=hs.sz;omega)
 have c1:=aCb s (by have:=hs.sz;omega)
 have c2:=tQ l (by have:=hl.sz;omega)
 have lp1:=aNm s l (by omega)
 have rf1:cK 0=some (dU 0):=bS 0 (by omega)
 have rf2:cC 0=some (dU 0):=fF 0 (by omega)
 have s1:sub s 0 ((dV l s:Nat):Int)=some (s.take (dV l s)):=by rw[sH _ _ _ (by omega)];simp
 have s2:sub s ((dV l s:Nat):Int) (s.length:Int)=some (s.drop (dV l s)):=by
  rw[sH _ _ _ (by omega)];congr 1
  rw[List.take_of_length_le];rfl
  rw[List.length_drop];omega
 have t1:(s.take (dV l s)).length<=100:=by rw[List.length_take];omega
 have t2:(s.drop (dV l s)).length<=100:=by rw[List.length_drop];omega
 unfold nJ uF aAU
 rw[aIz,i1,v,decide_eq_true hs,decide_eq_true hl,lp1]
 simp only[Option.bind_some,if_true,Bool.not_true,Bool.false_eq_true,if_false,c1,lp1,s1,s2,tA,List.nil_append]
 rw[aO (by simp only[List.length_nil,Nat.zero_add];omega)]
 simp only[Option.bind_some]
 by_cases c:dV l s<s.length
 · have c':((dV l s:Nat):Int)<(s.length:Int):=by omega
   have c'':¬((dV l s:Nat):Int)=(s.length:Int):=by omega
   rw[if_pos c',if_neg c'',dif_pos c,aK c]
   simp only[Option.bind_some,aGx,aJ2]
   by_cases L:fD l s[dV l s]
   · rw[if_pos L,decide_eq_true L]
     simp only[Bool.not_true,Bool.false_eq_true,if_false,if_true,c2,Option.bind_some,rf1,rf2]
     rw[aO (by omega)]
     simp only[Option.bind_some]
     rw[aO (by rw[List.length_append,List.length_singleton];omega)]
     exact⟨rfl,rfl⟩
   · rw[if_neg L,decide_eq_false L]
     have hv:=hs.1 _ (List.getElem_mem c)
     have nl:=aBK l s c
     have hA:s[dV l s].fA=l.fA/\s[dV l s].fB=l.fB:=by unfold fD at L nl;omega
     obtain⟨m1,m2,m3⟩:=aLu hv hl hA.1 hA.2
     simp only[Bool.not_false,if_true,Bool.false_eq_true,if_false,m1,m2,Option.bind_some]
     by_cases O:zH s[dV l s] l
     · rw[if_pos O,if_pos O]
       have w1:i64.wrap (((dV l s:Nat):Int)+1)=((dV l s+1:Nat):Int):=by rw[wi (by omega)];omega
       have s3:sub s ((dV l s+1:Nat):Int) (s.length:Int)=some (s.drop (dV l s+1)):=by
        rw[sH _ _ _ (by omega)];congr 1
        rw[List.take_of_length_le];rfl
        rw[List.length_drop];omega
       have t3:(s.drop (dV l s+1)).length<=100:=by rw[List.length_drop];omega
       simp only[if_true,w1,s3,Option.bind_some,tS]
       rw[aO (by omega)]
       simp only[Option.bind_some]
       rw[aO (by rw[List.length_append,List.length_singleton];omega)]
       refine⟨?_,rfl⟩
       simp only[pk]
       rw[List.set_eq_take_append_cons_drop,if_pos c,List.append_assoc,List.singleton_append]
     · rw[if_neg O,if_neg O]
       exact⟨rfl,rfl⟩
 · have c':¬((dV l s:Nat):Int)<(s.length:Int):=by omega
   have c'':((dV l s:Nat):Int)=(s.length:Int):=by omega
   rw[if_neg c',if_pos c'',dif_neg c]
   simp only[Option.bind_some,Bool.false_eq_true,if_false,if_true,c2,rf1,rf2]
   rw[aO (by omega)]
   simp only[Option.bind_some]
   rw[aO (by rw[List.length_append,List.length_singleton];omega)]
   exact⟨rfl,rfl⟩
end Go.Ev
/- Joining links into a link set, both programs. -/
namespace Go.Ev
set_option linter.all false
theorem aQQ {r s:Rat}(hr:VZ r)(hs:VZ s)(h:¬bK r):RA r s=nG:=by
 have q:=(zA hr hs).1
 unfold dG at q
 rw[eC r (VZs hr),decide_eq_false h]at q
 simpa [nG]using q.symm
noncomputable def uR:List Link->List Link->Rat->Option (List Link×Rat)
 | [],s,e=>some (s,e)
 | x::r,s,e=>match aAU s x with
  | none=>none
  | some (s',e')=>if bK (RA e e')then uR r s' (RA e e')else none
theorem aJt:∀ (l s:List Link) (e:Rat),(∀ x∈l,ValidL x)->LSet s->bK e->∀ s' e',uR l s e=some (s',e')->LSet s'/\bK e'
 | [],s,e,_,hs,he,s',e',h=>by rw[uR]at h;cases h;exact⟨hs,he⟩
 | x::r,s,e,hv,hs,he,s',e',h=>by
  rw[uR]at h
  cases ha:aAU s x with
  | none=>rw[ha]at h;cases h
  | some t =>
   obtain⟨s1,e1⟩:=t
   rw[ha]at h
   simp only[]at h
   obtain⟨g1,g2⟩:=aIy hs (hv x (by simp)) ha
   by_cases c:bK (RA e e1)
   · rw[if_pos c]at h
     exact aJt r s1 _ (fun y hy=>hv y (by simp[hy])) g1 c s' e' h
   · rw[if_neg c]at h;cases h
noncomputable instance (l:List Link):Decidable (∀ x∈l,ValidL x):=Classical.propDecidable _
def aCq:List Link×Rat×Bool:=([],nG,false)
theorem aKz (l:List Link)(hv:∀ x∈l,ValidL x)(hl:l.length<=4294967296):∀ m k:Nat,m+k=l.length->∀ s e,LSet s->VZ e->
 lp (gO l) (s,(k:Int),e)=some (match uR (l.drop k) s e with | some t=>.inl t | none=>.inr aCq):=by
 intro m
 induction m with
 | zero =>
  intro k hk s e hs he
  rw[List.drop_eq_nil_of_le (by omega),uR]
  exact aJ (by unfold gO;simp only[];rw[if_neg (by omega)])
 | succ m ih =>
  intro k hk s e hs he
  have hlt:k<l.length:=by omega
  have hx:=hv _ (List.getElem_mem hlt)
  have w1:IntKind.i64.wrap ((k:Int)+1)=((k+1:Nat):Int):=by rw[wi (by omega)];omega
  have a:=(aHI hs hx).2
  rw[List.drop_eq_getElem_cons hlt,uR]
  cases ha:aAU s l[k]with
  | none =>
   rw[ha]at a
   have g:=(zA he aB9).2.1
   refine aJ ?_
   unfold gO
   simp only[]
   rw[if_pos (by omega),aK hlt]
   simp only[Option.bind_some,a,pk,g]
   rfl
  | some t =>
   obtain⟨s1,e1⟩:=t
   rw[ha]at a
   obtain⟨g1,g2⟩:=aIy hs hx ha
   obtain⟨_,q2,q3⟩:=zA he g2
   have st:gO l (s,(k:Int),e)=some (if bK (RA e e1)then .inl (s1,((k+1:Nat):Int),RA e e1)else .inr (.inr aCq)):=by
    unfold gO
    simp only[]
    rw[if_pos (by omega),aK hlt]
    simp only[Option.bind_some,a,pk,q2,iM q3,if_true,w1]
    by_cases c:bK (RA e e1)
    · simp[c]
    · simp[c,aCq,nG]
   simp only[]
   by_cases c:bK (RA e e1)
   · rw[if_pos c]at st ⊢
     rw[aQ st]
     exact ih (k+1) (by omega) s1 _ g1 q3
   · rw[if_neg c]at st ⊢
     rw[aJ st]
def aN9:(List Link×Rat) ⊕ (List Link×Rat×Bool)->List Link×Rat×Bool
 | .inl d=>if bK d.2 then(d.1,d.2,true)else aCq
 | .inr x=>x
theorem aKy (l:List Link)(hz:aI l<=4294967296):∀ m k:Nat,m+k=l.length->∀ s e,LSet s->VZ e->
 ∃ R,lp (eY l) (s,(k:Int),e)=some R/\(∀ d,R=.inl d->VZ d.2)/\aN9 R=pk (if bK e/\(∀ x∈l.drop k,ValidL x)then uR (l.drop k) s e else none):=by
 have hl:l.length<=4294967296:=by have:=iG bR l;unfold aI at hz;omega
 intro m
 induction m with
 | zero =>
  intro k hk s e hs he
  refine⟨.inl (s,e),aJ (by unfold eY;simp only[];rw[if_neg (by omega)]),fun d h=>(by cases h;exact he),?_⟩
  rw[List.drop_eq_nil_of_le (by omega),uR]
  by_cases c:bK e
  · simp[aN9,pk,c]
  · simp[aN9,pk,c,aCq]
 | succ m ih =>
  intro k hk s e hs he
  have hlt:k<l.length:=by omega
  have w1:IntKind.i64.wrap ((k:Int)+1)=((k+1:Nat):Int):=by rw[wi (by omega)];omega
  have hxz:bR l[k]<=4294967296:=by have:=pH (w:=bR) (List.getElem_mem hlt);unfold aI at hz;omega
  rw[List.drop_eq_getElem_cons hlt]
  by_cases hx:ValidL l[k]
  · have a:=(aHI hs hx).1
    rw[uR]
    cases ha:aAU s l[k]with
    | none =>
     rw[ha]at a
     refine⟨.inr aCq,aJ ?_,fun d h=>(by cases h),?_⟩
     · unfold eY
       simp only[]
       rw[if_pos (by omega),aK hlt]
       simp only[Option.bind_some,a,pk]
       rfl
     · simp[aN9,pk,aCq]
    | some t =>
     obtain⟨s1,e1⟩:=t
     rw[ha]at a
     obtain⟨g1,g2⟩:=aIy hs hx ha
     obtain⟨q1,_,q3⟩:=zA he g2
     have st:eY l (s,(k:Int),e)=some (.inl (s1,((k+1:Nat):Int),RA e e1)):=by
      unfold eY
      simp only[]
      rw[if_pos (by omega),aK hlt]
      simp only[Option.bind_some,a,pk,q1,if_true,w1]
     obtain⟨R,r1,r2,r3⟩:=ih (k+1) (by omega) s1 _ g1 q3
     refine⟨R,by rw[aQ st];exact r1,r2,?_⟩
     rw[r3]
     simp only[]
     by_cases c:bK e
     · by_cases c2:bK (RA e e1)
       · have:(∀ x∈l[k]::l.drop (k+1),ValidL x)↔(∀ x∈l.drop (k+1),ValidL x):=⟨fun h x hx'=>h x (List.mem_cons_of_mem _ hx'),fun h x hx'=>by rcases List.mem_cons.1 hx' with rfl | h';exact hx;exact h x h'⟩
         simp only[c,c2,true_and,if_true,this]
       · simp only[c,c2,true_and,false_and,if_false,ite_self]
     · have c2:¬bK (RA e e1):=by rw[aQQ he g2 c];exact aA8
       simp only[c,c2,false_and,if_false]
  · refine⟨.inr aCq,aJ ?_,fun d h=>(by cases h),?_⟩
    · unfold eY
      simp only[]
      rw[if_pos (by omega),aK hlt]
      have a:nJ s l[k]=some aCq:=by
       unfold nJ
       rw[lS s (by have:=hs.sz;omega),(gI l[k] hxz).1,decide_eq_true hs,decide_eq_false hx]
       rfl
      simp only[Option.bind_some,a,aCq]
      rfl
    · rw[if_neg (fun h=>hx (h.2 _ List.mem_cons_self))];rfl
theorem aHK (l:List Link)(hz:aI l<=4294967296):oL l=some (decide (∀ x∈l,ValidL x)):=by
 have hl:l.length<=4294967296:=by have:=iG bR l;unfold aI at hz;omega
 have main:∀ m k:Nat,m+k=l.length->lp (iC l) (k:Int)=some (if(∀ x∈l.drop k,ValidL x)then .inl ()else .inr false):=by
  intro m
  induction m with
  | zero =>
   intro k hk
   rw[List.drop_eq_nil_of_le (by omega),if_pos (by simp)]
   exact aJ (by unfold iC;rw[if_neg (by omega)])
  | succ m ih =>
   intro k hk
   have hlt:k<l.length:=by omega
   have w1:IntKind.i64.wrap ((k:Int)+1)=((k+1:Nat):Int):=by rw[wi (by omega)];omega
   have v:=(gI l[k] (by have:=pH (w:=bR) (List.getElem_mem hlt);unfold aI at hz;omega)).2
   have st:iC l (k:Int)=some (if ValidL l[k]then .inl ((k+1:Nat):Int)else .inr (.inr false)):=by
    unfold iC
    rw[if_pos (by omega),aK hlt]
    simp only[Option.bind_some,v,w1]
    by_cases c:ValidL l[k] <;> simp[c]
   rw[List.drop_eq_getElem_cons hlt]
   by_cases c:ValidL l[k]
   · rw[if_pos c]at st
     rw[aQ st,ih (k+1) (by omega)]
     have:(∀ x∈l[k]::l.drop (k+1),ValidL x)↔(∀ x∈l.drop (k+1),ValidL x):=⟨fun h x hx'=>h x (List.mem_cons_of_mem _ hx'),fun h x hx'=>by rcases List.mem_cons.1 hx' with rfl | h';exact c;exact h x h'⟩
     simp only[this]
   · rw[if_neg c]at st
     rw[aJ st,if_neg (fun h=>c (h _ List.mem_cons_self))]
 have:=main l.length 0 (by omega)
 unfold oL
 rw[show((0:Nat):Int)=0 from rfl,List.drop_zero]at this
 rw[this]
 by_cases c:∀ x∈l,ValidL x
 · rw[if_pos c,decide_eq_true c];rfl
 · rw[if_neg c,decide_eq_false c];rfl
theorem aBD:LSet []:=⟨by simp,List.Pairwise.nil⟩
theorem aBI:bK (dU 0):=yC 0 (by omega)
noncomputable def jnP (l:List Link):Option (List Link×Rat):=if ∀ x∈l,ValidL x then uR l [] (dU 0)else none
theorem aAM {l s:List Link}{e:Rat}(h:jnP l=some (s,e)):(∀ x∈l,ValidL x)/\LSet s/\bK e:=by
 unfold jnP at h
 by_cases c:∀ x∈l,ValidL x
 · rw[if_pos c]at h
   exact⟨c,aJt l [] _ c aBD aBI s e h⟩
 · rw[if_neg c]at h;cases h
theorem aBt {l:List Link}(hv:∀ x∈l,ValidL x)(hl:l.length<=4294967296):kL l=some (pk (jnP l)):=by
 unfold kL jnP
 rw[fF 0 (by omega),if_pos hv]
 simp only[Option.bind_some]
 have:=aKz l hv hl l.length 0 (by omega) [] (dU 0) aBD (.inl aBI)
 rw[show((0:Nat):Int)=0 from rfl,List.drop_zero]at this
 rw[this]
 cases uR l [] (dU 0)with
 | none=>rfl
 | some t=>rfl
theorem zO (l:List Link)(hz:aI l<=4294967296):iR l=some (pk (jnP l))/\qI l=some (pk (jnP l)):=by
 have hl:l.length<=4294967296:=by have:=iG bR l;unfold aI at hz;omega
 constructor
 · unfold iR
   rw[bS 0 (by omega)]
   simp only[Option.bind_some]
   obtain⟨R,r1,r2,r3⟩:=aKy l hz l.length 0 (by omega) [] (dU 0) aBD (.inl aBI)
   rw[show((0:Nat):Int)=0 from rfl]at r1
   rw[List.drop_zero]at r3
   rw[r1]
   have e:(if bK (dU 0)/\(∀ x∈l,ValidL x)then uR l [] (dU 0)else none)=jnP l:=by unfold jnP;simp only[aBI,true_and]
   rw[<- e,<- r3]
   cases R with
   | inl d =>
    simp only[Option.bind_some]
    rw[eC d.2 (VZs (r2 d rfl))]
    simp only[Option.bind_some,aN9]
    by_cases c:bK d.2
    · rw[decide_eq_true c,if_pos c];rfl
    · rw[decide_eq_false c,if_neg c];rfl
   | inr x=>rfl
 · unfold qI
   rw[aHK l hz]
   simp only[Option.bind_some]
   by_cases c:∀ x∈l,ValidL x
   · rw[decide_eq_true c,if_pos rfl,aBt c hl]
     simp only[Option.bind_some]
     cases hj:jnP l with
     | none=>rfl
     | some t =>
      obtain⟨s,e⟩:=t
      obtain⟨_,g1,_⟩:=aAM hj
      simp only[pk,if_true]
      rw[qT s (by have:=g1.sz;omega)]
      rfl
   · rw[decide_eq_false c]
     unfold jnP
     rw[if_neg c];rfl
end Go.Ev
/- Cliques: their nodes in order. -/
namespace Go.Ev
set_option linter.all false
theorem aAx:∀ {a b:List Int},a.Pairwise (· < ·)->b.Pairwise (· < ·)->(∀ x,x∈a↔x∈b)->a=b
 | [],[],_,_,_=>rfl
 | [],y::b,_,_,h=>absurd ((h y).2 (by simp)) (by simp)
 | x::a,[],_,_,h=>absurd ((h x).1 (by simp)) (by simp)
 | x::a,y::b,ha,hb,h=>by
  rw[List.pairwise_cons]at ha hb
  have hxy:x=y:=by
   have h1:=(h x).1 (by simp)
   have h2:=(h y).2 (by simp)
   rcases List.mem_cons.1 h1 with e | e
   · exact e
   · rcases List.mem_cons.1 h2 with e' | e'
     · exact e'.symm
     · have:=hb.1 x e;have:=ha.1 y e';omega
  subst hxy
  have:a=b:=aAx ha.2 hb.2 (fun z=>by
   constructor
   · intro hz
     have:=(h z).1 (by simp[hz])
     rcases List.mem_cons.1 this with e | e
     · subst e;have:=ha.1 z hz;omega
     · exact e
   · intro hz
     have:=(h z).2 (by simp[hz])
     rcases List.mem_cons.1 this with e | e
     · subst e;have:=hb.1 z hz;omega
     · exact e)
  rw[this]
def aA5:List Int->Int->List Int
 | [],n=>[n]
 | x::l,n=>if x<n then x::aA5 l n else if x=n then x::l else n::x::l
theorem aAf:∀ (l:List Int) (n x:Int),x∈aA5 l n↔x=n\/x∈l
 | [],n,x=>by simp[aA5]
 | y::l,n,x=>by
  unfold aA5
  by_cases h1:y<n
  · rw[if_pos h1,List.mem_cons,List.mem_cons,aAf l n x]
    constructor
    · rintro(h | h | h) <;> simp[h]
    · rintro(h | h | h) <;> simp[h]
  · rw[if_neg h1]
    by_cases h2:y=n
    · rw[if_pos h2];subst h2;simp
    · rw[if_neg h2];simp
theorem wH:∀ (l:List Int) (n:Int),l.Pairwise (· < ·)->(aA5 l n).Pairwise (· < ·)
 | [],n,_=>by simp[aA5]
 | y::l,n,h=>by
  unfold aA5
  rw[List.pairwise_cons]at h
  by_cases h1:y<n
  · rw[if_pos h1,List.pairwise_cons]
    exact⟨fun x hx=>by rcases(aAf l n x).1 hx with e | e;omega;exact h.1 x e,wH l n h.2⟩
  · rw[if_neg h1]
    by_cases h2:y=n
    · rw[if_pos h2,List.pairwise_cons];exact h
    · rw[if_neg h2,List.pairwise_cons]
      exact⟨fun x hx=>by rcases List.mem_cons.1 hx with e | e;omega;have:=h.1 x e;omega,List.pairwise_cons.2 h⟩
theorem aAg:∀ (l:List Int) (n:Int),(aA5 l n).length<=l.length+1
 | [],n=>by simp[aA5]
 | y::l,n=>by
  unfold aA5
  split
  · simp[aAg l n]
  · split <;> simp
def nT (l:List Int)(n:Int):Nat:=(l.takeWhile (fun x=>decide (x<n))).length
theorem aKE (l:List Int)(n:Int):nT l n<=l.length:=by
 unfold nT
 induction l with
 | nil=>simp
 | cons x l ih =>
  rw[List.takeWhile_cons]
  split
  · simpa using ih
  · simp
theorem aDn (x:Int)(l:List Int)(n:Int):nT (x::l) n=if x<n then nT l n+1 else 0:=by
 unfold nT
 rw[List.takeWhile_cons]
 by_cases h:x<n <;> simp[h]
theorem aLh:∀ (l:List Int) (n:Int),aA5 l n=if l[nT l n]?=some n then l else l.take (nT l n)++[n]++l.drop (nT l n)
 | [],n=>by simp[aA5,nT]
 | x::l,n=>by
  rw[aDn]
  unfold aA5
  by_cases h:x<n
  · rw[if_pos h,if_pos h,aLh l n]
    simp only[List.getElem?_cons_succ,List.take_succ_cons,List.drop_succ_cons]
    split <;> simp
  · rw[if_neg h,if_neg h]
    by_cases h2:x=n <;> simp[h2]
theorem aNh (l:List Int)(n:Int)(h:l.length<=4294967296):lp (gJ l n) 0=some ((nT l n:Nat):Int):=by
 have main:∀ m k:Nat,m+k=l.length->lp (gJ l n) (k:Int)=some ((k+nT (l.drop k) n:Nat):Int):=by
  intro m
  induction m with
  | zero =>
   intro k hk
   have:k=l.length:=by omega
   subst this
   rw[aJ (r:=(l.length:Int)) (by unfold gJ;rw[if_neg (by omega)];rfl),List.drop_length];simp[nT]
  | succ m ih =>
   intro k hk
   have hlt:k<l.length:=by omega
   rw[List.drop_eq_getElem_cons hlt,aDn]
   by_cases c:l[k]<n
   · rw[if_pos c]
     have e:gJ l n (k:Int)=some (.inl ((k:Int)+1)):=by
      unfold gJ
      rw[if_pos (by omega),aK hlt,wi (by omega)]
      simp[c]
     rw[aQ e,show(k:Int)+1=((k+1:Nat):Int)by omega,ih (k+1) (by omega)]
     congr 2;omega
   · rw[if_neg c]
     have e:gJ l n (k:Int)=some (.inr (k:Int)):=by
      unfold gJ
      rw[if_pos (by omega),aK hlt]
      simp[c]
     rw[aJ e];simp
 have:=main l.length 0 (by omega)
 simpa using this
theorem aI0 (l:List Int)(n:Int)(h:l.length<=4294967296):nB l n=some (aA5 l n):=by
 have hf:=aKE l n
 unfold nB
 rw[aNh l n h,aLh]
 simp only[Option.bind_some]
 by_cases hlt:nT l n<l.length
 · rw[if_pos (by omega),aK hlt,List.getElem?_eq_getElem hlt]
   simp only[Option.bind_some,decide_eq_true_eq,Option.some.injEq]
   by_cases c:l[nT l n]=n
   · rw[if_pos c,if_pos c]
   · rw[if_neg c,if_neg c,sH _ _ _ (by omega),sH _ _ _ (by omega)]
     simp only[Option.bind_some,aL,List.nil_append]
     rw[aO (by simp;omega),aO (by simp;omega),aO (by simp;omega)]
     simp only[Option.bind_some]
     simp
     rw[List.take_of_length_le (by simp)]
 · have:nT l n=l.length:=by omega
   rw[if_neg (by omega),this,if_neg (by simp)]
   simp only[Option.bind_some,Bool.false_eq_true,if_false]
   rw[sH _ _ _ (by omega),sH _ _ _ (by omega)]
   simp only[Option.bind_some,aL,List.nil_append]
   rw[aO (by simp;omega),aO (by simp;omega),aO (by simp;omega)]
   simp
end Go.Ev
/- The arms of a node of a link set, both programs. -/
namespace Go.Ev
set_option linter.all false
def rT (v:Int)(l:Link):Int:=if l.fA=v then l.fB else l.fA
def tch (v:Int)(l:Link):Bool:=decide (l.fA=v\/l.fB=v)
noncomputable def aA3 (v:Int)(l:Link):l08Arm:=if l.fA=v then⟨l.fB,l.fWeight,RN l.fDX,RN l.fDY⟩else⟨l.fA,l.fWeight,l.fDX,l.fDY⟩
noncomputable def bL (v:Int)(s:List Link):List l08Arm:=(s.filter (tch v)).map (aA3 v)
theorem aAT (v:Int)(l:Link):(aA3 v l).fnode=rT v l:=by unfold aA3 rT;split <;> rfl
theorem aHf {s:List Link}(hs:LSet s)(v:Int):((s.filter (tch v)).map (rT v)).Pairwise (· < ·):=by
 rw[List.pairwise_map]
 refine List.Pairwise.imp_of_mem (fun {a b} ha hb hr=>?_) (hs.2.sublist List.filter_sublist)
 rw[List.mem_filter]at ha hb
 have h1:=hs.1 a ha.1
 have h2:=hs.1 b hb.1
 have t1:=ha.2
 have t2:=hb.2
 unfold tch at t1 t2
 rw[decide_eq_true_eq]at t1 t2
 unfold ValidL at h1 h2
 unfold fD at hr
 unfold rT
 split <;> split <;> omega
theorem aQj {s:List Link}(hs:LSet s)(v:Int):tN s v=some ((s.filter (tch v)).map (rT v)):=by
 have hlen:=hs.len
 unfold tN
 obtain⟨e1,e2⟩:=kI (step:=oA s v) s (fun k t=>(t,(k:Int))) (fun t l=>if tch v l then aA5 t (rT v l)else t) (fun t=>t)
  (fun k t=>t.length<=k/\t.Pairwise (· < ·)/\∀ x,x∈t↔x∈((s.take k).filter (tch v)).map (rT v)) (fun k t hk hI=>by
   obtain⟨i1,i2,i3⟩:=hI
   have hv:=hs.1 _ (List.getElem_mem hk)
   have w1:IntKind.i64.wrap ((k:Int)+1)=((k+1:Nat):Int):=by rw[wi (by omega)];omega
   refine⟨?_,?_,?_,?_⟩
   · unfold oA
     simp only[]
     rw[if_pos (by omega),aK hk]
     unfold ValidL at hv
     simp only[Option.bind_some,aI0 t _ (by omega:t.length<=4294967296),w1]
     by_cases A:(s[k]).fA=v
     · have B:¬(s[k]).fB=v:=by omega
       simp[A,B,tch,rT]
     · by_cases B:(s[k]).fB=v
       · rw[if_neg A]
         simp only[Option.bind_some]
         rw[if_pos B,aI0 t _ (by omega:t.length<=4294967296)]
         simp[A,B,tch,rT]
       · simp[A,B,tch,rT]
   · have:=aAg t (rT v s[k])
     split <;> omega
   · split
     · exact wH _ _ i2
     · exact i2
   · intro x
     have tk:s.take (k+1)=s.take k++[s[k]]:=by rw[List.take_add_one,List.getElem?_eq_getElem hk];rfl
     rw[tk,List.filter_append,List.map_append,List.mem_append,<- i3 x]
     by_cases T:tch v s[k]=true
     · simp only[T,if_true,aAf,List.filter_cons_of_pos,List.filter_nil,List.map_cons,List.map_nil,List.mem_singleton]
       exact Or.comm
     · simp[T]) (fun t _=>by unfold oA;simp only[];rw[if_neg (by omega)]) [] ⟨by simp,List.Pairwise.nil,by simp⟩
 rw[show((0:Nat):Int)=0 from rfl]at e1
 rw[e1]
 simp only[Option.bind_some]
 congr 1
 obtain⟨_,g2,g3⟩:=e2
 rw[List.take_length]at g3
 exact aAx g2 (aHf hs v) g3
theorem LSet.uniq {s:List Link}(hs:LSet s){a b:Link}(ha:a∈s)(hb:b∈s)(h1:a.fA=b.fA)(h2:a.fB=b.fB):a=b:=by
 obtain⟨i,hi,rfl⟩:=List.getElem_of_mem ha
 obtain⟨j,hj,rfl⟩:=List.getElem_of_mem hb
 have pw:=List.pairwise_iff_getElem.1 hs.2
 rcases Nat.lt_trichotomy i j with h | h | h
 · have:=pw i j hi hj h;unfold fD at this;omega
 · subst h;rfl
 · have:=pw j i hj hi h;unfold fD at this;omega
theorem aQp (p q r t:Prop)[Decidable p][Decidable q][Decidable r][Decidable t]:((if p then(if q then some true else(if r then some (decide t)else some false))else(if r then some (decide t)else some false)):Option Bool)=some (decide ((p/\q)\/(r/\t))):=by
 by_cases p <;> by_cases q <;> by_cases r <;> by_cases t <;> simp[*]
theorem aOH {s:List Link}(hs:LSet s){v:Int}{l:Link}(hl:l∈s)(ht:tch v l=true):wE s (rT v l) v=some (l,true):=by
 have hlen:=hs.len
 have hv:=hs.1 l hl
 unfold wE
 rw[lS s (by have:=hs.sz;omega),decide_eq_true hs]
 simp only[Option.bind_some,if_true]
 obtain⟨r,e,q⟩:=aMl (step:=pV s (rT v l) v) s.length (fun r=>r=.inr (l,true)) (fun k=>l∈s.drop k) (by simpa using hl) (fun k hk hj=>by
  have hx:=hs.1 _ (List.getElem_mem hk)
  have w1:IntKind.i64.wrap ((k:Int)+1)=((k+1:Nat):Int):=by rw[wi (by omega)];omega
  rw[List.drop_eq_getElem_cons hk]at hj
  have st:pV s (rT v l) v (k:Int)=some (if(((s[k]).fA=rT v l/\(s[k]).fB=v)\/((s[k]).fA=v/\(s[k]).fB=rT v l))then .inr (.inr (s[k],true))else .inl ((k+1:Nat):Int)):=by
   unfold pV
   rw[if_pos (by omega),aK hk]
   simp only[Option.bind_some,w1,tQ s[k] (by have:=hx.sz;omega)]
   rw[aQp]
   simp only[Option.bind_some]
   by_cases c:((s[k]).fA=rT v l/\(s[k]).fB=v)\/((s[k]).fA=v/\(s[k]).fB=rT v l)
   · rw[if_pos c,decide_eq_true c];rfl
   · rw[if_neg c,decide_eq_false c];rfl
  unfold tch at ht
  rw[decide_eq_true_eq]at ht
  unfold ValidL at hx hv
  by_cases c:((s[k]).fA=rT v l/\(s[k]).fB=v)\/((s[k]).fA=v/\(s[k]).fB=rT v l)
  · rw[if_pos c]at st
    right
    refine⟨_,st,?_⟩
    have:s[k]=l:=by
     refine hs.uniq (List.getElem_mem hk) hl ?_ ?_
     · unfold rT at c;split at c <;> omega
     · unfold rT at c;split at c <;> omega
    rw[this]
  · rw[if_neg c]at st
    left
    refine⟨st,?_⟩
    rcases List.mem_cons.1 hj with e | e
    · exfalso;apply c
      rw[<- e];unfold rT;split <;> omega
    · exact e) (fun hj=>by rw[List.drop_length]at hj;cases hj)
 rw[e,q];rfl
theorem aP1 {r:Rat}(h:VZ r):VZ (RN r):=(aMJ h).2.2
def uS (a:l08Arm):Prop:=(0<=a.fnode/\a.fnode<=9)/\VZ a.fweight/\VZ a.fdx/\VZ a.fdy
theorem aJO {v:Int}{l:Link}(h:ValidL l):uS (aA3 v l):=by
 obtain⟨h1,h2,h3⟩:=h.vz
 unfold aA3
 split
 · exact⟨h.2.1,h1,aP1 h2,aP1 h3⟩
 · exact⟨h.1,h1,h2,h3⟩
theorem aGq {s:List Link}(hs:LSet s)(v:Int):∀ a∈bL v s,uS a:=by
 intro a ha
 obtain⟨l,hl,rfl⟩:=List.mem_map.1 ha
 exact aJO (hs.1 l (List.mem_filter.1 hl).1)
theorem aBX {s:List Link}(hs:LSet s)(v:Int):(bL v s).length<=100:=by
 have:=hs.len
 have:=List.length_filter_le (tch v) s
 unfold bL
 rw[List.length_map];omega
theorem aHA {s:List Link}(hs:LSet s)(v:Int):((bL v s).map (·.fnode)).Pairwise (· < ·):=by
 have:=aHf hs v
 unfold bL
 rw[List.map_map]
 have e:(fun a:l08Arm=>a.fnode) ∘ aA3 v=rT v:=by funext l;exact aAT v l
 rw[e];exact this
theorem aQE {s:List Link}(hs:LSet s)(v:Int):tM s v=some (bL v s):=by
 have hal:=aBX hs v
 unfold tM
 rw[aQj hs v]
 simp only[Option.bind_some]
 have hfl:((s.filter (tch v)).map (rT v)).length=(bL v s).length:=by unfold bL;rw[List.length_map,List.length_map]
 have:=aAn (step:=nZ s v ((s.filter (tch v)).map (rT v))) (bL v s) (fun k t=>((k:Int),t)) (fun t=>t) (fun k t hk ht=>by
  have hk2:k<(s.filter (tch v)).length:=by unfold bL at hk;rwa [List.length_map]at hk
  have hk3:k<((s.filter (tch v)).map (rT v)).length:=by rwa [List.length_map]
  have hm:=List.mem_filter.1 (List.getElem_mem hk2)
  have w1:IntKind.i64.wrap ((k:Int)+1)=((k+1:Nat):Int):=by rw[wi (by omega)];omega
  have hv:=hs.1 _ hm.1
  obtain⟨v1,v2,v3⟩:=hv.vz
  have g:=aOH hs hm.1 hm.2
  have ea:(bL v s)[k]=aA3 v (s.filter (tch v))[k]:=by simp only[bL,List.getElem_map]
  unfold nZ
  simp only[]
  rw[if_pos (by omega),aK hk3,List.getElem_map]
  simp only[Option.bind_some,g,(aMJ v2).1,(aMJ v3).1,w1]
  rw[ea]
  unfold aA3
  by_cases A:((s.filter (tch v))[k]).fA=v
  · rw[if_pos A,if_pos A]
    simp only[Option.bind_some,rT,A,if_true]
    rw[aO (by omega)];rfl
  · rw[if_neg A,if_neg A]
    simp only[Option.bind_some,rT,A,if_false]
    rw[aO (by omega)];rfl) (fun t ht=>by unfold nZ;simp only[];rw[if_neg (by omega)])
 rw[show((0:Nat):Int)=0 from rfl]at this
 rw[this];rfl
end Go.Ev
/- Eliminating a node of a link set, both programs. -/
namespace Go.Ev
open IntKind
set_option linter.all false
noncomputable def rJ (a:List l08Arm):Rat:=a.foldl (fun t a=>RA t a.fweight) (dU 0)
noncomputable def fZ (t:Rat)(a:l08Arm):Parent:=⟨a.fnode,RD a.fweight t,a.fdx,a.fdy⟩
noncomputable def sY (t:Rat)(a b:l08Arm):Link:=⟨a.fnode,b.fnode,RD (RM a.fweight b.fweight) t,RS a.fdx b.fdx,RS a.fdy b.fdy⟩
noncomputable def hG (t:Rat):List l08Arm->List Link
 | []=>[]
 | a::r=>r.map (sY t a)++hG t r
noncomputable def aAq (v:Int)(a:List l08Arm):Conditional:=⟨v,rJ a,a.map (fZ (rJ a))⟩
def condOk (v:Int)(a:List l08Arm):Prop:=bA (aAq v a)=some true
noncomputable instance (v:Int)(a:List l08Arm):Decidable (condOk v a):=Classical.propDecidable _
noncomputable def wP (v:Int)(s:List Link):Option (Conditional×List Link) :=
 if(1<=v/\v<=9)/\condOk v (bL v s)/\(∀ x∈hG (rJ (bL v s)) (bL v s),ValidL x)then some (aAq v (bL v s),hG (rJ (bL v s)) (bL v s))else none
theorem aIt {v:Int}{s:List Link}(h:(1<=v/\v<=9)/\condOk v (bL v s)/\(∀ x∈hG (rJ (bL v s)) (bL v s),ValidL x)):wP v s=some (aAq v (bL v s),hG (rJ (bL v s)) (bL v s)):=by unfold wP;rw[if_pos h]
theorem aBT {v:Int}{s:List Link}(h:¬((1<=v/\v<=9)/\condOk v (bL v s)/\(∀ x∈hG (rJ (bL v s)) (bL v s),ValidL x))):wP v s=none:=by unfold wP;rw[if_neg h]
def aEW:Conditional:=Conditional.mk 0 (Rat.mk (BigInt.mk false ([])) ([])) ([])
def pkE:Option (Conditional×List Link)->Conditional×List Link×Bool
 | some (c,m)=>(c,m,true)
 | none=>(aEW,[],false)
theorem aJy:∀ (a:List l08Arm) (t:Rat),(∀ x∈a,uS x)->VZ t->VZ (a.foldl (fun t a=>RA t a.fweight) t)
 | [],t,_,h=>h
 | x::a,t,ho,h=>aJy a _ (fun y hy=>ho y (by simp[hy])) (zA h (ho x (by simp)).2.1).2.2
theorem aAv {a:List l08Arm}(h:∀ x∈a,uS x):VZ (rJ a):=aJy a _ h (.inl aBI)
theorem aCG {α β:Type}(g:α->β):∀ (l:List α) (t:List β),l.foldl (fun t b=>t++[g b]) t=t++l.map g
 | [],t=>by simp
 | x::l,t=>by rw[List.foldl_cons,aCG g l,List.map_cons,List.append_assoc];rfl
theorem aJc {t:Rat}{a b:l08Arm}(ht:VZ t)(ha:uS a)(hb:uS b):bR (sY t a b)<=144:=by
 have h1:=nF (aDv (aBB ha.2.1 hb.2.1).2.2 ht).2.2
 have h2:=nF (aID ha.2.2.1 hb.2.2.1).2.2
 have h3:=nF (aID ha.2.2.2 hb.2.2.2).2.2
 unfold bR sY;simp only[];omega
theorem aLr {t:Rat}(ht:VZ t):∀ {a:List l08Arm},(∀ x∈a,uS x)->∀ x∈hG t a,bR x<=144
 | [],_,x,hx=>by cases hx
 | a::r,h,x,hx=>by
  rw[hG]at hx
  rcases List.mem_append.1 hx with hx | hx
  · obtain⟨b,hb,rfl⟩:=List.mem_map.1 hx
    exact aJc ht (h a (by simp)) (h b (by simp[hb]))
  · exact aLr ht (fun y hy=>h y (by simp[hy])) x hx
theorem aFJ (t:Rat):∀ {a:List l08Arm} {n:Nat},a.length<=n->(hG t a).length<=n*a.length
 | [],n,_=>by simp[hG]
 | a::r,n,h=>by
  rw[List.length_cons]at h
  have:=aFJ t (a:=r) (n:=n) (by omega)
  rw[hG,List.length_append,List.length_map,List.length_cons,Nat.mul_add,Nat.mul_one];omega
theorem aNO (t:Rat):∀ {a:List l08Arm} {x:Link},x∈hG t a->∃ y∈a,x.fA=y.fnode
 | [],x,hx=>by cases hx
 | a::r,x,hx=>by
  rw[hG]at hx
  rcases List.mem_append.1 hx with hx | hx
  · obtain⟨b,hb,rfl⟩:=List.mem_map.1 hx
    exact⟨a,by simp,rfl⟩
  · obtain⟨y,hy,e⟩:=aNO t hx
    exact⟨y,by simp[hy],e⟩
theorem aJg (t:Rat):∀ {a:List l08Arm},(a.map (·.fnode)).Pairwise (· < ·)->(hG t a).Pairwise fD
 | [],_=>List.Pairwise.nil
 | a::r,h=>by
  rw[List.map_cons,List.pairwise_cons]at h
  rw[hG,List.pairwise_append]
  refine⟨?_,aJg t h.2,fun x hx y hy=>?_⟩
  · rw[List.pairwise_map]
    have:=h.2
    rw[List.pairwise_map]at this
    exact this.imp (fun {b c} hbc=>.inr ⟨rfl,hbc⟩)
  · obtain⟨b,hb,rfl⟩:=List.mem_map.1 hx
    obtain⟨z,hz,e⟩:=aNO t hy
    exact .inl (by rw[e];exact h.1 _ (List.mem_map.2 ⟨z,hz,rfl⟩))
theorem aHj {t:Rat}{a:List l08Arm}(h:(a.map (·.fnode)).Pairwise (· < ·)):LSet (hG t a)↔∀ x∈hG t a,ValidL x:=⟨fun g=>g.1,fun g=>⟨g,aJg t h⟩⟩
theorem aMw {a:List l08Arm}(ha:∀ x∈a,uS x)(hl:a.length<=100):lp (fI a) (0,dU 0)=some (rJ a):=by
 have:=(kI (step:=fI a) a (fun k t=>((k:Int),t)) (fun t a=>RA t a.fweight) (fun t=>t) (fun _ t=>VZ t) (fun k t hk hi=>by
  have w1:i64.wrap ((k:Int)+1)=((k+1:Nat):Int):=by rw[wi (by omega)];omega
  obtain⟨q1,_,q3⟩:=zA hi (ha _ (List.getElem_mem hk)).2.1
  refine⟨?_,q3⟩
  unfold fI
  simp only[]
  rw[if_pos (by omega),aK hk]
  simp only[Option.bind_some,q1,w1]) (fun t _=>by unfold fI;simp only[];rw[if_neg (by omega)]) (dU 0) (.inl aBI)).1
 rw[show((0:Nat):Int)=0 from rfl]at this
 exact this
theorem aMy {a:List l08Arm}{t:Rat}(ht:VZ t)(ha:∀ x∈a,uS x)(hl:a.length<=100):lp (fH a t) (0,[])=some (a.map (fZ t)):=by
 have:=aAn (step:=fH a t) (a.map (fZ t)) (fun k t=>((k:Int),t)) (fun t=>t) (fun k u hk hu=>by
  have hk2:k<a.length:=by rwa [List.length_map]at hk
  have w1:i64.wrap ((k:Int)+1)=((k+1:Nat):Int):=by rw[wi (by omega)];omega
  have ho:=ha _ (List.getElem_mem hk2)
  have q:=(aDv ho.2.1 ht).1
  unfold fH
  simp only[]
  rw[if_pos (by omega),aK hk2]
  simp only[Option.bind_some,q,pR _ (VZs ho.2.2.1),pR _ (VZs ho.2.2.2),w1]
  rw[aO (by omega)]
  simp only[Option.bind_some,tA,List.getElem_map]
  rfl) (fun u hu=>by unfold fH;simp only[];rw[List.length_map,if_neg (by omega)])
 rw[show((0:Nat):Int)=0 from rfl]at this
 exact this
theorem aMx {r:List l08Arm}{x:l08Arm}{t:Rat}(ht:VZ t)(hx:uS x)(hr:∀ y∈r,uS y)(hl:r.length<=100)(acc:List Link)(hacc:acc.length<=1000000) :
 lp (fG r x t) (0,acc)=some (acc++r.map (sY t x)):=by
 have:=(kI (step:=fG r x t) r (fun k u=>((k:Int),u)) (fun u b=>u++[sY t x b]) (fun u=>u) (fun k u=>u.length<=1000000+k) (fun k u hk hi=>by
  have w1:i64.wrap ((k:Int)+1)=((k+1:Nat):Int):=by rw[wi (by omega)];omega
  have ho:=hr _ (List.getElem_mem hk)
  have q0:=aBB hx.2.1 ho.2.1
  have q1:=(aDv q0.2.2 ht).1
  have q2:=(aID hx.2.2.1 ho.2.2.1).1
  have q3:=(aID hx.2.2.2 ho.2.2.2).1
  refine⟨?_,by rw[List.length_append,List.length_singleton];omega⟩
  unfold fG
  simp only[]
  rw[if_pos (by omega),aK hk]
  simp only[Option.bind_some,q0.1,q1,q2,q3,w1]
  rw[aO (by omega)]
  rfl) (fun u _=>by unfold fG;simp only[];rw[if_neg (by omega)]) acc (by omega)).1
 rw[show((0:Nat):Int)=0 from rfl,aCG]at this
 exact this
theorem aMX {α:Type}(l:List α)(k:Nat)(hk:k+1<=l.length)(hl:l.length<=4294967296):sub l (i64.wrap ((k:Int)+1)) (l.length:Int)=some (l.drop (k+1)):=by
 have w1:i64.wrap ((k:Int)+1)=((k+1:Nat):Int):=by rw[wi (by omega)];omega
 rw[w1,sH _ _ _ (by omega)];congr 1
 rw[List.take_of_length_le];rfl
 rw[List.length_drop];omega
theorem aKG {a:List l08Arm}{t:Rat}(ht:VZ t)(ha:∀ x∈a,uS x)(hl:a.length<=100):lp (dN a t) (0,[])=some (hG t a):=by
 have main:∀ m k:Nat,m+k=a.length->∀ acc:List Link,acc.length<=100*k->lp (dN a t) ((k:Int),acc)=some (acc++hG t (a.drop k)):=by
  intro m
  induction m with
  | zero =>
   intro k hk acc hacc
   rw[List.drop_eq_nil_of_le (by omega),hG,List.append_nil]
   exact aJ (by unfold dN;simp only[];rw[if_neg (by omega)])
  | succ m ih =>
   intro k hk acc hacc
   have hlt:k<a.length:=by omega
   have w1:i64.wrap ((k:Int)+1)=((k+1:Nat):Int):=by rw[wi (by omega)];omega
   rw[List.drop_eq_getElem_cons hlt,hG]
   have row:=aMx (r:=a.drop (k+1)) ht (ha _ (List.getElem_mem hlt)) (fun y hy=>ha y (List.mem_of_mem_drop hy)) (by rw[List.length_drop];omega) acc (by omega)
   have st:dN a t ((k:Int),acc)=some (.inl (((k+1:Nat):Int),acc++(a.drop (k+1)).map (sY t a[k]))):=by
    unfold dN
    simp only[]
    rw[if_pos (by omega),aK hlt,aMX a k (by omega) (by omega)]
    simp only[Option.bind_some,row,w1]
   rw[aQ st,ih (k+1) (by omega) _ (by rw[List.length_append,List.length_map,List.length_drop];omega),List.append_assoc]
 have:=main a.length 0 (by omega) [] (by simp)
 rw[show((0:Nat):Int)=0 from rfl,List.drop_zero,List.nil_append]at this
 exact this
theorem aIu {v:Int}{a:List l08Arm}(ha:∀ x∈a,uS x)(hl:a.length<=100):aR (aAq v a)<=4294967296:=by
 have h1:=nF (aAv ha)
 have h2:nA (a.map (fZ (rJ a)))<=145*(a.map (fZ (rJ a))).length:=aDC (c:=144) (fun p hp=>by
  obtain⟨x,hx,rfl⟩:=List.mem_map.1 hp
  have ho:=ha x hx
  have g1:=nF (aDv ho.2.1 (aAv ha)).2.2
  have g2:=nF ho.2.2.1
  have g3:=nF ho.2.2.2
  unfold jF fZ;simp only[];omega)
 rw[List.length_map]at h2
 unfold aR aAq;simp only[];omega
theorem aPf {s:List Link}(hs:LSet s)(v:Int):kE s v=some (pkE (wP v s)):=by
 have ha:=aGq hs v
 have hl:=aBX hs v
 have ht:=aAv ha
 obtain⟨b,b1,b2,_⟩:=aIA _ (aIu (v:=v) ha hl)
 have inc:=aHA hs v
 unfold kE
 rw[lS s (by have:=hs.sz;omega),decide_eq_true hs,zI]
 simp only[Option.bind_some,if_true]
 by_cases c:1<=v/\v<=9
 · rw[decide_eq_true c]
   simp only[Bool.not_true,Bool.false_eq_true,if_false]
   rw[aQE hs v,bS 0 (by omega)]
   simp only[Option.bind_some]
   rw[aMw ha hl]
   simp only[Option.bind_some]
   rw[aMy ht ha hl]
   simp only[Option.bind_some]
   rw[aKG ht ha hl]
   simp only[Option.bind_some]
   have e:(Conditional.mk v (rJ (bL v s)) ((bL v s).map (fZ (rJ (bL v s)))))=aAq v (bL v s):=rfl
   rw[e,b1]
   simp only[Option.bind_some]
   have hms:=aDC (aLr ht ha)
   have hml:=aFJ (rJ (bL v s)) (a:=bL v s) (Nat.le_refl _)
   have hm2:(bL v s).length*(bL v s).length<=100*100:=Nat.mul_le_mul hl hl
   rw[lS _ (by unfold aI;omega)]
   cases b with
   | false =>
    have:¬condOk v (bL v s):=by unfold condOk;rw[b1];simp
    rw[aBT (fun h=>this h.2.1)];rfl
   | true =>
    have hc:condOk v (bL v s):=b1
    simp only[if_true,Option.bind_some]
    by_cases d:∀ x∈hG (rJ (bL v s)) (bL v s),ValidL x
    · rw[decide_eq_true ((aHj inc).2 d),aIt ⟨c,hc,d⟩];rfl
    · rw[decide_eq_false (fun h=>d ((aHj inc).1 h)),aBT (fun h=>d h.2.2)];rfl
 · rw[decide_eq_false c]
   rw[aBT (fun h=>c h.1)];rfl
def yD (a:l08Arm):Parent:=⟨a.fnode,nG,a.fdx,a.fdy⟩
theorem aKV (v:Int)(s:List Link)(k:Nat)(hk:k<s.length):bL v (s.take (k+1))=bL v (s.take k)++(if tch v s[k]then [aA3 v s[k]]else []):=by
 have tk:s.take (k+1)=s.take k++[s[k]]:=by rw[List.take_add_one,List.getElem?_eq_getElem hk];rfl
 unfold bL
 rw[tk,List.filter_append,List.map_append]
 congr 1
 by_cases c:tch v s[k] <;> simp[c]
theorem aKI {s:List Link}(hs:LSet s)(v:Int):lp (dQ s v) (0,dU 0,[],[])=some (rJ (bL v s),(bL v s).map (·.fweight),(bL v s).map yD):=by
 have hlen:=hs.len
 have hpre:∀ k,∀ a∈bL v (s.take k),uS a:=fun k a ha=>by
  obtain⟨l,hl,rfl⟩:=List.mem_map.1 ha
  exact aJO (hs.1 l (List.mem_of_mem_take (List.mem_filter.1 hl).1))
 have hpl:∀ k,(bL v (s.take k)).length<=100:=fun k=>by
  have:=List.length_filter_le (tch v) (s.take k)
  have h2:(s.take k).length<=s.length:=by rw[List.length_take];omega
  unfold bL;rw[List.length_map];omega
 have main:∀ m k:Nat,m+k=s.length->lp (dQ s v) ((k:Int),rJ (bL v (s.take k)),(bL v (s.take k)).map (·.fweight),(bL v (s.take k)).map yD)=some (rJ (bL v s),(bL v s).map (·.fweight),(bL v s).map yD):=by
  intro m
  induction m with
  | zero =>
   intro k hk
   rw[List.take_of_length_le (by omega)]
   exact aJ (by unfold dQ;simp only[];rw[if_neg (by omega)])
  | succ m ih =>
   intro k hk
   have hlt:k<s.length:=by omega
   have w1:i64.wrap ((k:Int)+1)=((k+1:Nat):Int):=by rw[wi (by omega)];omega
   have hv:=hs.1 _ (List.getElem_mem hlt)
   obtain⟨v1,v2,v3⟩:=hv.vz
   have n1:=(aMJ v2).2.1
   have n2:=(aMJ v3).2.1
   have ra:=(zA (aAv (hpre k)) v1).2.1
   have hp:=hpl k
   have st:dQ s v ((k:Int),rJ (bL v (s.take k)),(bL v (s.take k)).map (·.fweight),(bL v (s.take k)).map yD)=some (.inl (((k+1:Nat):Int),rJ (bL v (s.take (k+1))),(bL v (s.take (k+1))).map (·.fweight),(bL v (s.take (k+1))).map yD)):=by
    rw[aKV v s k hlt]
    unfold dQ
    simp only[]
    rw[if_pos (by omega),aK hlt]
    simp only[Option.bind_some,n1,n2,ra,w1]
    have k1:∀ {α:Type} {f:l08Arm->α},((bL v (s.take k)).map f).length<=100:=by intro α f;rw[List.length_map];exact hp
    by_cases A:(s[k]).fA=v
    · rw[if_pos A,aO (by have:=k1 (f:=yD);omega)]
      simp only[Option.bind_some,tA]
      rw[aO (by have:=k1 (f:=fun a=>a.fweight);omega)]
      simp[tch,A,aA3,rJ,yD,nG,ra]
    · by_cases B:(s[k]).fB=v
      · rw[if_neg A,if_pos B,aO (by have:=k1 (f:=yD);omega)]
        simp only[Option.bind_some,tA]
        rw[aO (by have:=k1 (f:=fun a=>a.fweight);omega)]
        simp[tch,A,B,aA3,rJ,yD,nG,ra]
      · simp[tch,A,B]
   rw[aQ st]
   exact ih (k+1) (by omega)
 have:=main s.length 0 (by omega)
 simpa [bL,rJ]using this
theorem aMA {a:List l08Arm}{t:Rat}(ht:VZ t)(ha:∀ x∈a,uS x)(hl:a.length<=100):lp (dP (t,a.map (·.fweight),a.map yD)) (0,a.map yD)=some (a.map (fZ t)):=by
 have main:∀ m k:Nat,m+k=a.length->lp (dP (t,a.map (·.fweight),a.map yD)) ((k:Int),(a.take k).map (fZ t)++(a.drop k).map yD)=some (a.map (fZ t)):=by
  intro m
  induction m with
  | zero =>
   intro k hk
   refine aJ ?_
   unfold dP
   simp only[List.length_map]
   rw[if_neg (by omega),List.drop_eq_nil_of_le (by omega),List.take_of_length_le (by omega)]
   simp
  | succ m ih =>
   intro k hk
   have hlt:k<a.length:=by omega
   have w1:i64.wrap ((k:Int)+1)=((k+1:Nat):Int):=by rw[wi (by omega)];omega
   have ho:=ha _ (List.getElem_mem hlt)
   have q:=(aDv ho.2.1 ht).2.1
   have tl:((a.take k).map (fZ t)).length=k:=by rw[List.length_map,List.length_take];omega
   have e1:idx (a.map (fun x=>x.fweight)) (k:Int)=some (a[k]).fweight:=by rw[aK (by rwa [List.length_map]),List.getElem_map]
   have e2:idx ((a.take k).map (fZ t)++(a.drop k).map yD) (k:Int)=some (yD a[k]):=by
    rw[aIq,List.getElem?_append_right (by omega),tl,Nat.sub_self,List.drop_eq_getElem_cons hlt];rfl
   have e3:kT ((a.take k).map (fZ t)++(a.drop k).map yD) (k:Int) (fZ t a[k])=(a.take (k+1)).map (fZ t)++(a.drop (k+1)).map yD:=by
    rw[tS,List.set_append_right _ _ (by omega),tl,Nat.sub_self,List.drop_eq_getElem_cons hlt,List.map_cons,List.set_cons_zero,List.take_add_one,List.getElem?_eq_getElem hlt,List.map_append,List.append_assoc]
    rfl
   have st:dP (t,a.map (·.fweight),a.map yD) ((k:Int),(a.take k).map (fZ t)++(a.drop k).map yD)=some (.inl (((k+1:Nat):Int),(a.take (k+1)).map (fZ t)++(a.drop (k+1)).map yD)):=by
    unfold dP
    simp only[List.length_map]
    rw[if_pos (by omega),e1]
    simp only[Option.bind_some,q,e2,tA,w1]
    have:(Parent.mk (yD a[k]).fNode (RD (a[k]).fweight t) (yD a[k]).fDX (yD a[k]).fDY)=fZ t a[k]:=rfl
    rw[this,e3]
   rw[aQ st]
   exact ih (k+1) (by omega)
 have:=main a.length 0 (by omega)
 simpa using this
def aFk (t:Rat)(x:l08Arm)(r:List l08Arm):Prop:=∀ y∈r,ValidL (sY t x y)
noncomputable instance (t:Rat)(x:l08Arm)(r:List l08Arm):Decidable (aFk t x r):=Classical.propDecidable _
theorem aMz {a:List l08Arm}{t:Rat}(ht:VZ t)(ha:∀ x∈a,uS x)(hl:a.length<=100)(q0:List Parent)(i:Nat)(hi:i<a.length):∀ m j:Nat,m+j=a.length->∀ acc:List Link,acc.length<=1000000+j->
 lp (fJ (a.map (fZ t)) (t,a.map (·.fweight),q0) (i:Int) (fZ t a[i])) ((j:Int),acc)=some (if aFk t a[i] (a.drop j)then .inl (acc++(a.drop j).map (sY t a[i]))else .inr (aEW,[],false)):=by
 intro m
 induction m with
 | zero =>
  intro j hj acc hacc
  rw[List.drop_eq_nil_of_le (by omega),if_pos (by intro y hy;cases hy),List.map_nil,List.append_nil]
  exact aJ (by unfold fJ;simp only[List.length_map];rw[if_neg (by omega)])
 | succ m ih =>
  intro j hj acc hacc
  have hlt:j<a.length:=by omega
  have w1:i64.wrap ((j:Int)+1)=((j+1:Nat):Int):=by rw[wi (by omega)];omega
  have hx:=ha _ (List.getElem_mem hi)
  have ho:=ha _ (List.getElem_mem hlt)
  have p0:=aBB hx.2.1 ho.2.1
  have p1:=(aDv p0.2.2 ht).2.1
  have p2:=(aID hx.2.2.1 ho.2.2.1).2.1
  have p3:=(aID hx.2.2.2 ho.2.2.2).2.1
  have vl:=(gI (sY t a[i] a[j]) (by have:=aJc ht hx ho;omega)).2
  have e0:idx (a.map (fZ t)) (j:Int)=some (fZ t a[j]):=by rw[aK (by rwa [List.length_map]),List.getElem_map]
  have e1:idx (a.map (fun x=>x.fweight)) (i:Int)=some (a[i]).fweight:=by rw[aK (by rwa [List.length_map]),List.getElem_map]
  have e2:idx (a.map (fun x=>x.fweight)) (j:Int)=some (a[j]).fweight:=by rw[aK (by rwa [List.length_map]),List.getElem_map]
  have st:fJ (a.map (fZ t)) (t,a.map (·.fweight),q0) (i:Int) (fZ t a[i]) ((j:Int),acc)=some (if ValidL (sY t a[i] a[j])then .inl (((j+1:Nat):Int),acc++[sY t a[i] a[j]])else .inr (.inr (aEW,[],false))):=by
   unfold fJ
   simp only[List.length_map]
   rw[if_pos (by omega),e0,e1,e2]
   simp only[Option.bind_some,p0.2.1,p1,w1]
   have f1:(fZ t a[i]).fDX=(a[i]).fdx:=rfl
   have f2:(fZ t a[i]).fDY=(a[i]).fdy:=rfl
   have f3:(fZ t a[j]).fDX=(a[j]).fdx:=rfl
   have f4:(fZ t a[j]).fDY=(a[j]).fdy:=rfl
   rw[f1,f2,f3,f4,p2]
   simp only[Option.bind_some]
   rw[p3]
   simp only[Option.bind_some]
   have f5:(Link.mk (fZ t a[i]).fNode (fZ t a[j]).fNode (RD (RM (a[i]).fweight (a[j]).fweight) t) (RS (a[i]).fdx (a[j]).fdx) (RS (a[i]).fdy (a[j]).fdy))=sY t a[i] a[j]:=rfl
   rw[f5,vl]
   simp only[Option.bind_some]
   by_cases c:ValidL (sY t a[i] a[j])
   · rw[decide_eq_true c,if_pos rfl,if_pos c,aO (by omega)];rfl
   · rw[decide_eq_false c,if_neg c];rfl
  rw[List.drop_eq_getElem_cons hlt]
  by_cases c:ValidL (sY t a[i] a[j])
  · rw[if_pos c]at st
    rw[aQ st,ih (j+1) (by omega) _ (by rw[List.length_append,List.length_singleton];omega)]
    have:aFk t a[i] (a[j]::a.drop (j+1))↔aFk t a[i] (a.drop (j+1)):=⟨fun h x hx'=>h x (List.mem_cons_of_mem _ hx'),fun h x hx'=>by rcases List.mem_cons.1 hx' with rfl | h';exact c;exact h x h'⟩
    simp only[this,List.map_cons,List.append_assoc,List.singleton_append]
  · rw[if_neg c]at st
    rw[aJ st,if_neg (fun h=>c (h _ List.mem_cons_self))]
theorem aKH {a:List l08Arm}{t:Rat}(ht:VZ t)(ha:∀ x∈a,uS x)(hl:a.length<=100)(q0:List Parent):lp (dO (a.map (fZ t)) (t,a.map (·.fweight),q0)) (0,[])=some (if ∀ x∈hG t a,ValidL x then .inl (hG t a)else .inr (aEW,[],false)):=by
 have main:∀ m k:Nat,m+k=a.length->∀ acc:List Link,acc.length<=100*k->lp (dO (a.map (fZ t)) (t,a.map (·.fweight),q0)) ((k:Int),acc)=some (if ∀ x∈hG t (a.drop k),ValidL x then .inl (acc++hG t (a.drop k))else .inr (aEW,[],false)):=by
  intro m
  induction m with
  | zero =>
   intro k hk acc hacc
   rw[List.drop_eq_nil_of_le (by omega),if_pos (by simp[hG]),hG,List.append_nil]
   exact aJ (by unfold dO;simp only[List.length_map];rw[if_neg (by omega)])
  | succ m ih =>
   intro k hk acc hacc
   have hlt:k<a.length:=by omega
   have w1:i64.wrap ((k:Int)+1)=((k+1:Nat):Int):=by rw[wi (by omega)];omega
   have e0:idx (a.map (fZ t)) (k:Int)=some (fZ t a[k]):=by rw[aK (by rwa [List.length_map]),List.getElem_map]
   have row:=aMz ht ha hl q0 k hlt (a.length-(k+1)) (k+1) (by omega) acc (by omega)
   rw[List.drop_eq_getElem_cons hlt,hG]
   have st:dO (a.map (fZ t)) (t,a.map (·.fweight),q0) ((k:Int),acc)=some (if aFk t a[k] (a.drop (k+1))then .inl (((k+1:Nat):Int),acc++(a.drop (k+1)).map (sY t (a[k]'hlt)))else .inr (.inr (aEW,[],false))):=by
    unfold dO
    simp only[List.length_map]
    rw[if_pos (by omega),e0]
    simp only[Option.bind_some,w1,row]
    by_cases c:aFk t a[k] (a.drop (k+1))
    · rw[if_pos c,if_pos c]
    · rw[if_neg c,if_neg c]
   by_cases c:aFk t a[k] (a.drop (k+1))
   · rw[if_pos c]at st
     rw[aQ st,ih (k+1) (by omega) _ (by rw[List.length_append,List.length_map,List.length_drop];omega)]
     have:(∀ x∈(a.drop (k+1)).map (sY t a[k])++hG t (a.drop (k+1)),ValidL x)↔∀ x∈hG t (a.drop (k+1)),ValidL x:=⟨fun h x hx=>h x (List.mem_append_right _ hx),fun h x hx=>by
      rcases List.mem_append.1 hx with hx | hx
      · obtain⟨y,hy,rfl⟩:=List.mem_map.1 hx;exact c y hy
      · exact h x hx⟩
     simp only[this,List.append_assoc]
   · rw[if_neg c]at st
     rw[aJ st,if_neg]
     intro h
     exact c fun y hy=>h _ (List.mem_append_left _ (List.mem_map.2 ⟨y,hy,rfl⟩))
 have:=main a.length 0 (by omega) [] (by simp)
 rw[show((0:Nat):Int)=0 from rfl,List.drop_zero,List.nil_append]at this
 exact this
theorem aPg {s:List Link}(hs:LSet s)(v:Int):kN s v=some (pkE (wP v s)):=by
 have ha:=aGq hs v
 have hl:=aBX hs v
 have ht:=aAv ha
 obtain⟨b,b1,b2,_⟩:=aIA _ (aIu (v:=v) ha hl)
 unfold kN
 have e0:((if v<1 then some true else some (decide (10<=v))):Option Bool)=some (!decide (1<=v/\v<=9)):=by
  by_cases A:v<1
  · have:¬1<=v:=by omega
    simp[A,this]
  · by_cases B:10<=v
    · have:¬v<=9:=by omega
      simp[A,B,this]
    · have h1:1<=v:=by omega
      have h2:v<=9:=by omega
      simp[A,B,h1,h2]
 rw[e0]
 simp only[Option.bind_some]
 by_cases c:1<=v/\v<=9
 · rw[decide_eq_true c]
   simp only[Bool.not_true,Bool.false_eq_true,if_false]
   rw[fF 0 (by omega)]
   simp only[Option.bind_some]
   rw[aKI hs v]
   simp only[Option.bind_some]
   rw[aMA ht ha hl]
   simp only[Option.bind_some]
   have e:(Conditional.mk v (rJ (bL v s)) ((bL v s).map (fZ (rJ (bL v s)))))=aAq v (bL v s):=rfl
   rw[e,b2]
   simp only[Option.bind_some]
   cases b with
   | false =>
    have:¬condOk v (bL v s):=by unfold condOk;rw[b1];simp
    rw[aBT (fun h=>this h.2.1)];rfl
   | true =>
    have hc:condOk v (bL v s):=b1
    simp only[if_true]
    rw[aKH ht ha hl]
    by_cases d:∀ x∈hG (rJ (bL v s)) (bL v s),ValidL x
    · rw[if_pos d,aIt ⟨c,hc,d⟩];rfl
    · rw[if_neg d,aBT (fun h=>d h.2.2)];rfl
 · rw[decide_eq_false c]
   rw[aBT (fun h=>c h.1)];rfl
end Go.Ev
/- Reducing a node of a link set and a node of a tree, both programs. -/
namespace Go.Ev
set_option linter.all false
theorem wi1 {k:Nat}(h:k<=4294967296):IntKind.i64.wrap ((k:Int)+1)=((k+1:Nat):Int):=by rw[wi (by omega)];omega
def wF (v:Int)(s:List Link):List Link:=s.filter (fun l=>!tch v l)
theorem xS {α:Type}(p:α->Bool):∀ (l t:List α),l.foldl (fun t x=>if p x=true then t++[x]else t) t=t++l.filter p
 | [],t=>by simp
 | x::l,t=>by
  rw[List.foldl_cons,xS p l,List.filter_cons]
  by_cases c:p x=true
  · simp only[c,if_true,List.append_assoc,List.singleton_append]
  · simp only[Bool.not_eq_true]at c;simp[c]
theorem aPB (v:Int)(l:Link):((if l.fA≠v then some (decide (l.fB≠v))else some false):Option Bool)=some (!tch v l):=by
 unfold tch;by_cases A:l.fA=v <;> by_cases B:l.fB=v <;> simp[A,B]
theorem aLY {s:List Link}(h:s.length<=4294967296)(v:Int):mM s v=some (wF v s):=by
 have:=(kI (step:=jM s v) s (fun k t=>((k:Int),t)) (fun t x=>if(fun l=>!tch v l) x=true then t++[x]else t) (fun t=>t) (fun k t=>t.length<=k) (fun k t hk hi=>by
  constructor
  · unfold jM
    simp only[]
    rw[if_pos (by omega),aK hk]
    simp only[Option.bind_some,aPB,wi1 (by omega:k<=4294967296)]
    by_cases c:tch v s[k]=true
    · rw[if_neg (by simp[c]),if_neg (by simp[c])]
    · rw[if_pos (by simpa using c),if_pos (by simpa using c),aO (by omega)];rfl
  · simp only[];split
    · rw[List.length_append,List.length_singleton];omega
    · omega) (fun t _=>by unfold jM;simp only[];rw[if_neg (by omega)]) [] (Nat.zero_le _)).1
 rw[show((0:Nat):Int)=0 from rfl,xS,List.nil_append]at this
 unfold mM
 rw[this];rfl
theorem aMI {s:List Link}(hs:LSet s)(v:Int):mH s v=some (wF v s):=by
 have hl:=hs.len
 have:=(kI (step:=jK s v) s (fun k t=>((k:Int),t)) (fun t x=>if(fun l=>!tch v l) x=true then t++[x]else t) (fun t=>t) (fun k t=>t.length<=k) (fun k t hk hi=>by
  constructor
  · unfold jK
    simp only[]
    rw[if_pos (by omega),aK hk]
    have cp:=tQ s[k] (by have:=(hs.1 _ (List.getElem_mem hk)).sz;omega)
    simp only[Option.bind_some,aPB,wi1 (by omega:k<=4294967296),cp]
    by_cases c:tch v s[k]=true
    · rw[if_neg (by simp[c]),if_neg (by simp[c])]
    · rw[if_pos (by simpa using c),if_pos (by simpa using c),aO (by omega)];rfl
  · simp only[];split
    · rw[List.length_append,List.length_singleton];omega
    · omega) (fun t _=>by unfold jK;simp only[];rw[if_neg (by omega)]) [] (Nat.zero_le _)).1
 rw[show((0:Nat):Int)=0 from rfl,xS,List.nil_append]at this
 unfold mH
 rw[lS s (by have:=hs.sz;omega),decide_eq_true hs]
 simp only[Option.bind_some,if_true,this]
 rfl
noncomputable def aBd (v:Int)(s:List Link):Option (Conditional×List Link×Rat) :=
 (wP v s).bind fun x=>(jnP (wF v s++x.2)).map fun y=>(x.1,y.1,y.2)
def pkR:Option (Conditional×List Link×Rat)->Conditional×List Link×Rat×Bool
 | some (c,m,e)=>(c,m,e,true)
 | none=>(aEW,[],nG,false)
theorem aJD {v:Int}{s:List Link}(hs:LSet s){c:Conditional}{m:List Link}(h:wP v s=some (c,m)):(∀ x∈m,ValidL x)/\m.length<=10000/\aR c<=20000/\(1<=v/\v<=9):=by
 unfold wP at h
 split at h
 · rename_i g
   cases h
   have ha:=aGq hs v
   have hl:=aBX hs v
   have h1:=aFJ (rJ (bL v s)) (a:=bL v s) (Nat.le_refl _)
   have h2:(bL v s).length*(bL v s).length<=100*100:=Nat.mul_le_mul hl hl
   have g1:=nF (aAv ha)
   have g2:nA ((bL v s).map (fZ (rJ (bL v s))))<=145*((bL v s).map (fZ (rJ (bL v s)))).length:=aDC (c:=144) (fun p hp=>by
    obtain⟨x,hx,rfl⟩:=List.mem_map.1 hp
    have ho:=ha x hx
    have g1:=nF (aDv ho.2.1 (aAv ha)).2.2
    have g2:=nF ho.2.2.1
    have g3:=nF ho.2.2.2
    unfold jF fZ;simp only[];omega)
   rw[List.length_map]at g2
   refine⟨g.2.2,by omega,?_,g.1⟩
   unfold aR aAq;simp only[];omega
 · cases h
theorem aNb {v:Int}{s:List Link}(hs:LSet s):(∀ x∈wF v s,ValidL x)/\(wF v s).length<=100:=by
 have:=List.length_filter_le (fun l=>!tch v l) s
 have:=hs.len
 exact⟨fun x hx=>hs.1 x (List.mem_filter.1 hx).1,by unfold wF;omega⟩
theorem aFp {s:List Link}(hs:LSet s)(v:Int):oC s v=some (pkR (aBd v s))/\oM s v=some (pkR (aBd v s)):=by
 unfold oC oM aBd
 rw[aPf hs,aPg hs]
 cases h:wP v s with
 | none=>exact⟨rfl,rfl⟩
 | some x =>
  obtain⟨c,m⟩:=x
  obtain⟨m1,m2,m3,_⟩:=aJD hs h
  obtain⟨r1,r2⟩:=aNb (v:=v) hs
  have hall:∀ x∈wF v s++m,ValidL x:=fun x hx=>(List.mem_append.1 hx).elim (r1 x) (m1 x)
  have hlen:(wF v s++m).length<=20000:=by rw[List.length_append];omega
  have hsz:=aBE hall
  have j1:=(zO (wF v s++m) (by omega)).1
  have j2:=aBt hall (by omega)
  simp only[pkE,Option.bind_some,if_true]
  rw[aMI hs,aLY (by have:=hs.len;omega)]
  simp only[Option.bind_some]
  rw[aO (by omega)]
  simp only[Option.bind_some,tA,j1,j2]
  cases jnP (wF v s++m)with
  | none=>exact⟨rfl,rfl⟩
  | some y=>exact⟨rfl,rfl⟩
theorem aH4 {v:Int}{s:List Link}(hs:LSet s){c:Conditional}{m:List Link}{e:Rat}(h:aBd v s=some (c,m,e)):aR c<=20000/\LSet m/\bK e/\c.fNode=v:=by
 unfold aBd at h
 cases h1:wP v s with
 | none=>rw[h1]at h;cases h
 | some x =>
  rw[h1]at h
  cases h2:jnP (wF v s++x.2)with
  | none=>rw[Option.bind_some,h2]at h;cases h
  | some y =>
   rw[Option.bind_some,h2]at h
   cases h
   have:=aAM (s:=y.1) (e:=y.2) h2
   refine⟨(aJD hs (c:=x.1) (m:=x.2) h1).2.2.1,this.2.1,this.2.2,?_⟩
   unfold wP at h1
   split at h1
   · cases h1;rfl
   · cases h1
end Go.Ev
/- A node of a tree, both programs. -/
namespace Go.Ev
open IntKind
set_option linter.all false
def aS (l s:List Int):Int:=(l.find? (fun u=>decide (u∈s))).getD 0
theorem aLI (l s:List Int)(hl:l.length<=4294967296)(hs:s.length<=4294967296):oW l s=some (aS l s):=by
 have main:∀ m k:Nat,m+k=l.length->lp (hZ l s) (k:Int)=some (match (l.drop k).find? (fun u=>decide (u∈s))with | some x=>.inr x | none=>.inl ()):=by
  intro m
  induction m with
  | zero =>
   intro k hk
   have:k=l.length:=by omega
   subst this
   rw[aJ (r:=.inl ()) (by unfold hZ;rw[if_neg (by omega)]),List.drop_length];rfl
  | succ m ih =>
   intro k hk
   have hlt:k<l.length:=by omega
   rw[List.drop_eq_getElem_cons hlt,List.find?_cons]
   by_cases c:l[k]∈s
   · rw[aJ (r:=.inr l[k]) (by unfold hZ;rw[if_pos (by omega),aK hlt];simp[aDg s _ hs,c])];simp[c]
   · have e:hZ l s (k:Int)=some (.inl ((k+1:Nat):Int)):=by
      unfold hZ;rw[if_pos (by omega),aK hlt];simp only[Option.bind_some,aDg s _ hs,wi1 (by omega:k<=4294967296)];simp[c]
     rw[aQ e,ih (k+1) (by omega)]
     simp only[c,decide_false]
 have:=main l.length 0 (by omega)
 rw[show((0:Nat):Int)=0 from rfl,List.drop_zero]at this
 unfold oW aS
 rw[this]
 cases l.find? (fun u=>decide (u∈s)) <;> rfl
def xL (c:Conditional):List Int:=c.fParents.map (·.fNode)
def upP (order:List Int)(c:Conditional):Int:=aS order (xL c)
theorem aGf {α:Type}{p q:α->Bool}:∀ {l:List α},(∀ x∈l,p x=q x)->l.find? p=l.find? q
 | [],_=>rfl
 | x::l,h=>by rw[List.find?_cons,List.find?_cons,h x (by simp),aGf (fun y hy=>h y (by simp[hy]))]
theorem aRU {order:List Int}{c:Conditional}(ho:∀ u∈order,1<=u)(hl:order.length<=4294967296)(hc:c.fParents.length<=4294967296):xW order c=some (upP order c):=by
 have:=(kI (step:=rK c) c.fParents (fun k t=>((k:Int),t)) (fun t x=>if(fun p:Parent=>decide (0<p.fNode)) x=true then t++[x.fNode]else t) (fun t=>t) (fun k t=>t.length<=k) (fun k t hk hi=>by
  constructor
  · unfold rK
    simp only[]
    rw[if_pos (by omega),aK hk]
    simp only[Option.bind_some,wi1 (by omega:k<=4294967296)]
    by_cases c0:0<(c.fParents[k]).fNode
    · rw[if_pos c0,if_pos (by simpa using c0),aO (by omega)];rfl
    · rw[if_neg c0,if_neg (by simpa using c0)]
  · simp only[];split
    · rw[List.length_append,List.length_singleton];omega
    · omega) (fun t _=>by unfold rK;simp only[];rw[if_neg (by omega)]) [] (Nat.zero_le _)).1
 rw[show((0:Nat):Int)=0 from rfl]at this
 have e:∀ (l:List Parent) (t:List Int),l.foldl (fun t x=>if(fun p:Parent=>decide (0<p.fNode)) x=true then t++[x.fNode]else t) t=t++(l.filter (fun p=>decide (0<p.fNode))).map (·.fNode):=by
  intro l
  induction l with
  | nil=>intro t;simp
  | cons x l ih =>
   intro t
   rw[List.foldl_cons,ih,List.filter_cons]
   by_cases c0:0<x.fNode <;> simp[c0]
 rw[e,List.nil_append]at this
 unfold xW
 rw[this]
 simp only[Option.bind_some]
 have hf:=List.length_filter_le (fun p:Parent=>decide (0<p.fNode)) c.fParents
 rw[aLI _ _ hl (by rw[List.length_map];omega)]
 simp only[Option.bind_some]
 congr 1
 unfold upP aS
 congr 1
 refine aGf fun u hu=>?_
 have:=ho u hu
 rw[Bool.eq_iff_iff,decide_eq_true_iff,decide_eq_true_iff]
 unfold xL
 simp only[List.mem_map,List.mem_filter,decide_eq_true_eq]
 constructor
 · rintro⟨p,⟨h1,_⟩,rfl⟩;exact⟨p,h1,rfl⟩
 · rintro⟨p,h1,rfl⟩;exact⟨p,⟨h1,by omega⟩,rfl⟩
theorem aEf (c:Conditional)(v:Int)(h:c.fParents.length<=4294967296):qG c v=some (decide (v∈xL c)):=by
 have main:∀ m k:Nat,m+k=c.fParents.length->lp (gP c v) (k:Int)=some (if v∈(c.fParents.drop k).map (·.fNode)then .inr true else .inl ()):=by
  intro m
  induction m with
  | zero =>
   intro k hk
   have:k=c.fParents.length:=by omega
   subst this
   rw[aJ (r:=.inl ()) (by unfold gP;rw[if_neg (by omega)]),List.drop_length];simp
  | succ m ih =>
   intro k hk
   have hlt:k<c.fParents.length:=by omega
   rw[List.drop_eq_getElem_cons hlt,List.map_cons]
   by_cases d:(c.fParents[k]).fNode=v
   · rw[aJ (r:=.inr true) (by unfold gP;rw[if_pos (by omega),aK hlt];simp[d]),if_pos (by simp[d])]
   · have e:gP c v (k:Int)=some (.inl ((k+1:Nat):Int)):=by
      unfold gP;rw[if_pos (by omega),aK hlt];simp only[Option.bind_some,wi1 (by omega:k<=4294967296)];rw[if_neg d]
     rw[aQ e,ih (k+1) (by omega)]
     have:(v∈(c.fParents[k]).fNode::(c.fParents.drop (k+1)).map (·.fNode))↔v∈(c.fParents.drop (k+1)).map (·.fNode):=by
      rw[List.mem_cons];exact⟨fun h=>h.resolve_left (fun e=>d e.symm),.inr⟩
     simp only[this]
 have:=main c.fParents.length 0 (by omega)
 rw[show((0:Nat):Int)=0 from rfl,List.drop_zero]at this
 unfold qG xL
 rw[this]
 by_cases d:v∈c.fParents.map (·.fNode)
 · rw[if_pos d,decide_eq_true d];rfl
 · rw[if_neg d,decide_eq_false d];rfl
theorem aRc (order:List Int)(v:Int)(own:List Link)(r:Conditional×List Link×Rat×Bool)(e:Rat)(hl:order.length<=4294967296)(hc:r.1.fParents.length<=4294967296):lp (fE order v own r e) 0=some (TreeNode.mk v (upP order r.1) own r.1 r.2.1 e):=by
 have main:∀ m k:Nat,m+k=order.length->lp (fE order v own r e) (k:Int)=some (TreeNode.mk v (aS (order.drop k) (xL r.1)) own r.1 r.2.1 e):=by
  intro m
  induction m with
  | zero =>
   intro k hk
   have:k=order.length:=by omega
   subst this
   rw[aJ (by unfold fE;rw[if_neg (by omega)]),List.drop_length];rfl
  | succ m ih =>
   intro k hk
   have hlt:k<order.length:=by omega
   rw[List.drop_eq_getElem_cons hlt]
   unfold aS
   rw[List.find?_cons]
   by_cases d:order[k]∈xL r.1
   · rw[aJ (r:=TreeNode.mk v order[k] own r.1 r.2.1 e) (by unfold fE;rw[if_pos (by omega),aK hlt];simp only[Option.bind_some,aEf _ _ hc,decide_eq_true d,if_true])]
     simp[d]
   · have e:fE order v own r e (k:Int)=some (.inl ((k+1:Nat):Int)):=by
      unfold fE;rw[if_pos (by omega),aK hlt];simp only[Option.bind_some,aEf _ _ hc,wi1 (by omega:k<=4294967296),decide_eq_false d,Bool.false_eq_true,if_false]
     rw[aQ e,ih (k+1) (by omega)]
     simp only[d,decide_false]
     rfl
 have:=main order.length 0 (by omega)
 rw[show((0:Nat):Int)=0 from rfl,List.drop_zero]at this
 exact this
def wY (v:Int)(b:List TreeNode):List Link:=(b.filter (fun n=>decide (n.fUp=v))).flatMap (·.fMessages)
theorem aJb (v:Int):∀ (b:List TreeNode) (t:List Link),b.foldl (fun t n=>if n.fUp=v then t++n.fMessages else t) t=t++wY v b
 | [],t=>by simp[wY]
 | n::b,t=>by
  rw[List.foldl_cons,aJb v b]
  unfold wY
  rw[List.filter_cons]
  by_cases c:n.fUp=v <;> simp[c]
theorem aLm {v:Int}:∀ {b:List TreeNode},(∀ n∈b,LSet n.fMessages)->(wY v b).length<=100*b.length
 | [],_=>by simp[wY]
 | n::b,h=>by
  have:=aLm (v:=v) (b:=b) (fun m hm=>h m (by simp[hm]))
  have h1:=(h n (by simp)).len
  unfold wY at this ⊢
  rw[List.filter_cons,List.length_cons]
  split
  · rw[List.flatMap_cons,List.length_append];omega
  · omega
theorem aMi {v:Int}{b:List TreeNode}(h:∀ n∈b,LSet n.fMessages):∀ x∈wY v b,ValidL x:=by
 intro x hx
 unfold wY at hx
 obtain⟨n,hn,hx⟩:=List.mem_flatMap.1 hx
 exact(h n (List.mem_filter.1 hn).1).1 x hx
theorem aPL {step:(Int×List Link)->Option ((Int×List Link) ⊕ List Link)}(v:Int)(b:List TreeNode)(own:List Link)(ho:own.length<=4294967296)(hb:b.length<=4194304)(h:∀ n∈b,LSet n.fMessages)
 (hstep:step=fun s=>match s with | (v6,v7)=>(if(v6<(b.length:Int))then(idx b v6).bind fun y8=>(if(y8.fUp=v)then(chk ((v7.length+y8.fMessages.length)*184<=140737488355328)).bind fun _u=>(aZ (v7++y8.fMessages)).bind fun v10=>some (.inl (i64.wrap (v6+1),v10))else some (.inl (i64.wrap (v6+1),v7)))else some (.inr v7))):lp step (0,own)=some (own++wY v b):=by
 subst hstep
 have:=(kI (step:=fun s=>match s with | (v6,v7)=>(if(v6<(b.length:Int))then(idx b v6).bind fun y8=>(if(y8.fUp=v)then(chk ((v7.length+y8.fMessages.length)*184<=140737488355328)).bind fun _u=>(aZ (v7++y8.fMessages)).bind fun v10=>some (.inl (i64.wrap (v6+1),v10))else some (.inl (i64.wrap (v6+1),v7)))else some (.inr v7))) b (fun k t=>((k:Int),t)) (fun t n=>if n.fUp=v then t++n.fMessages else t) (fun t=>t) (fun k t=>t.length<=4294967296+100*k) (fun k t hk hi=>by
  have hm:=(h _ (List.getElem_mem hk)).len
  constructor
  · simp only[]
    rw[if_pos (by omega),aK hk]
    simp only[Option.bind_some,wi1 (by omega:k<=4294967296)]
    by_cases c:(b[k]).fUp=v
    · rw[if_pos c,if_pos c,aO (by omega)];rfl
    · rw[if_neg c,if_neg c]
  · split
    · rw[List.length_append];omega
    · omega) (fun t _=>by simp only[];rw[if_neg (by omega)]) own (by omega)).1
 rw[show((0:Nat):Int)=0 from rfl,aJb]at this
 exact this
def aRa:TreeNode:=TreeNode.mk 0 0 ([]) (Conditional.mk 0 (Rat.mk (BigInt.mk false ([])) ([])) ([])) ([]) (Rat.mk (BigInt.mk false ([])) ([]))
noncomputable def mI (order:List Int)(v:Int)(own:List Link)(b:List TreeNode):Option TreeNode :=
 (jnP (own++wY v b)).bind fun x=>(aBd v x.1).bind fun y=>if bK (RA x.2 y.2.2)then some ⟨v,upP order y.1,own,y.1,y.2.1,RA x.2 y.2.2⟩else none
def pkN:Option TreeNode->TreeNode×Bool
 | some n=>(n,true)
 | none=>(aRa,false)
theorem aO3 {c:Conditional}(h:aR c<=20000):c.fParents.length<=20000:=by
 have:c.fParents.length<=nA c.fParents:=iG _ _
 unfold aR at h;omega
theorem aHP (a b:List Link):aI (a++b)=aI a+aI b:=by unfold aI szL;simp
theorem aNB {order:List Int}{v:Int}{own:List Link}{b:List TreeNode}(hl:order.length<=4194304)(ho:∀ u∈order,1<=u)(hz:aI own<=4194304)(hb:b.length<=100)(hm:∀ n∈b,LSet n.fMessages)(hv:∀ x∈own,ValidL x) :
 tK v own order b=some (pkN (mI order v own b))/\qH ⟨b⟩ order v own=some (pkN (mI order v own b)):=by
 have hol:own.length<=4194304:=Nat.le_trans (iG _ _) hz
 have q1:=aPL (step:=wW v b) v b own (by omega) (by omega) hm rfl
 have q2:=aPL (step:=uE ⟨b⟩ v) v b own (by omega) (by omega) hm rfl
 have hmv:=aMi (v:=v) hm
 have hml:=aLm (v:=v) hm
 have hall:∀ x∈own++wY v b,ValidL x:=fun x hx=>(List.mem_append.1 hx).elim (hv x) (hmv x)
 have hms:=aBE hmv
 have hsz:aI (own++wY v b)<=4294967296:=by rw[aHP];omega
 have hln:(own++wY v b).length<=4294967296:=by rw[List.length_append];omega
 have j1:=(zO (own++wY v b) hsz).1
 have j2:=aBt hall hln
 unfold tK qH mI
 rw[aCb own (by omega)]
 simp only[Option.bind_some,List.nil_append,List.length_nil]
 rw[aO (by omega),q1]
 simp only[Option.bind_some,tA]
 rw[q2,j1]
 simp only[Option.bind_some,j2]
 cases h:jnP (own++wY v b)with
 | none =>
  simp only[pk,Option.bind_none,pkN]
  refine⟨?_,rfl⟩
  rw[(aFp aBD v).1]
  have e0:bI (pkR (aBd v [])).2.2.1<=4294967296:=by
   cases h2:aBd v []with
   | none=>exact VZs aB9
   | some y=>exact VZs (.inl (aH4 aBD (c:=y.1) (m:=y.2.1) (e:=y.2.2) h2).2.2.1)
  simp only[Option.bind_some]
  rw[(aR3 (VZs aB9) e0).1]
  rfl
 | some x =>
  obtain⟨s,e⟩:=x
  obtain⟨_,hs,he⟩:=aAM h
  simp only[pk,Option.bind_some,if_true]
  rw[(aFp hs v).1,(aFp hs v).2]
  simp only[Option.bind_some]
  cases h2:aBd v s with
  | none =>
   simp only[pkR,Option.bind_none,pkN]
   rw[(zA (.inl he) aB9).1,(zA (.inl he) aB9).2.1]
   exact⟨rfl,rfl⟩
  | some y =>
   obtain⟨c,m,f⟩:=y
   obtain⟨k1,k2,k3,_⟩:=aH4 hs h2
   have ra:=zA (.inl he) (.inl k3)
   have hp:=aO3 k1
   simp only[pkR,Option.bind_some,ra.1,ra.2.1,if_true]
   rw[eC _ (VZs ra.2.2),iM ra.2.2,aRU ho (by omega) (by omega),aRc order v own (c,m,f,true) (RA e f) (by omega) (by show c.fParents.length<=_;omega)]
   simp only[Option.bind_some]
   by_cases g:bK (RA e f)
   · rw[decide_eq_true g,if_pos g];exact⟨rfl,rfl⟩
   · rw[decide_eq_false g,if_neg g];exact⟨rfl,rfl⟩
theorem aFB {order:List Int}{v:Int}{own:List Link}{b:List TreeNode}{n:TreeNode}(h:mI order v own b=some n):LSet n.fMessages/\n.fOwn=own/\aR n.fCond<=20000/\bK n.fEnergy/\n.fNode=v/\n.fUp=upP order n.fCond:=by
 unfold mI at h
 cases h1:jnP (own++wY v b)with
 | none=>rw[h1]at h;cases h
 | some x =>
  rw[h1,Option.bind_some]at h
  cases h2:aBd v x.1 with
  | none=>rw[h2]at h;cases h
  | some y =>
   rw[h2,Option.bind_some]at h
   obtain⟨_,hs,he⟩:=aAM (s:=x.1) (e:=x.2) h1
   obtain⟨k1,k2,k3,_⟩:=aH4 hs (c:=y.1) (m:=y.2.1) (e:=y.2.2) h2
   split at h
   · rename_i g;cases h;exact⟨k2,rfl,k1,g,rfl,rfl⟩
   · cases h
end Go.Ev
/- The nodes of a link set, orders of elimination, whose a link is, both programs. -/
namespace Go.Ev
set_option linter.all false
def aEq:List Int:=(List.range 9).map (fun k:Nat=>(k:Int)+1)
theorem aNE {x:Int}:x∈aEq↔1<=x/\x<=9:=by
 unfold aEq
 simp only[List.mem_map,List.mem_range]
 constructor
 · rintro⟨k,h,rfl⟩;omega
 · intro h;exact⟨(x-1).toNat,by omega,by omega⟩
theorem aFE:aEq.length=9:=by decide
theorem aNF (k:Nat)(h:k<aEq.length):aEq[k]=(k:Int)+1:=by simp[aEq]
def fV (s:List Link):List Int:=aEq.filter (fun v=>s.any (tch v))
theorem aAF (s:List Link):(fV s).Pairwise (· < ·):=by
 have:aEq.Pairwise (· < ·):=by decide
 exact this.sublist List.filter_sublist
theorem aAE (s:List Link):(fV s).length<=9:=by
 have:=List.length_filter_le (fun v=>s.any (tch v)) aEq
 rw[aFE]at this;exact this
theorem aAD {s:List Link}{x:Int}:x∈fV s↔(1<=x/\x<=9)/\∃ l∈s,l.fA=x\/l.fB=x:=by
 unfold fV
 rw[List.mem_filter,aNE,List.any_eq_true]
 simp only[tch,decide_eq_true_eq]
def aGD (t:List Int)(l:Link):List Int:=aA5 (if 0<l.fA then aA5 t l.fA else t) l.fB
theorem aI1 {t:List Int}(l:Link)(h:t.Pairwise (· < ·)):(aGD t l).Pairwise (· < ·):=by
 unfold aGD;split
 · exact wH _ _ (wH _ _ h)
 · exact wH _ _ h
theorem aNi {t:List Int}{l:Link}{x:Int}:x∈aGD t l↔x=l.fB\/(x=l.fA/\0<x)\/x∈t:=by
 unfold aGD;split
 · rw[aAf,aAf]
   constructor
   · rintro(h | h | h)
     · exact .inl h
     · exact .inr (.inl ⟨h,by omega⟩)
     · exact .inr (.inr h)
   · rintro(h | ⟨h,_⟩ | h)
     · exact .inl h
     · exact .inr (.inl h)
     · exact .inr (.inr h)
 · rw[aAf]
   constructor
   · rintro(h | h)
     · exact .inl h
     · exact .inr (.inr h)
   · rintro(h | ⟨h,_⟩ | h)
     · exact .inl h
     · omega
     · exact .inr h
theorem aNj (t:List Int)(l:Link):(aGD t l).length<=t.length+2:=by
 unfold aGD;split
 · have:=aAg (aA5 t l.fA) l.fB;have:=aAg t l.fA;omega
 · have:=aAg t l.fB;omega
theorem aHs:∀ (s:List Link) (t:List Int) (x:Int),x∈s.foldl aGD t↔x∈t\/∃ l∈s,x=l.fB\/(x=l.fA/\0<x)
 | [],t,x=>by simp
 | l::s,t,x=>by
  rw[List.foldl_cons,aHs s,aNi]
  simp only[List.mem_cons,exists_eq_or_imp]
  constructor
  · rintro((h | h | h) | h)
    · exact .inr (.inl (.inl h))
    · exact .inr (.inl (.inr h))
    · exact .inl h
    · exact .inr (.inr h)
  · rintro(h | (h | h) | h)
    · exact .inl (.inr (.inr h))
    · exact .inl (.inl h)
    · exact .inl (.inr (.inl h))
    · exact .inr h
theorem aDk:∀ (s:List Link) (t:List Int),t.Pairwise (· < ·)->(s.foldl aGD t).Pairwise (· < ·)
 | [],t,h=>h
 | l::s,t,h=>aDk s _ (aI1 l h)
theorem aHH {s:List Link}(hs:LSet s):qL s=some (fV s):=by
 have hl:=hs.len
 have:=(kI (step:=oD s) s (fun k t=>(t,(k:Int))) aGD (fun t=>t) (fun k t=>t.length<=2*k) (fun k t hk hi=>by
  constructor
  · unfold oD
    simp only[]
    rw[if_pos (by omega),aK hk]
    simp only[Option.bind_some,wi1 (by omega:k<=4294967296)]
    unfold aGD
    by_cases c:0<(s[k]).fA
    · rw[if_pos c,if_pos c,aI0 _ _ (by omega)]
      simp only[Option.bind_some]
      rw[aI0 _ _ (by have:=aAg t (s[k]).fA;omega)];rfl
    · rw[if_neg c,if_neg c]
      simp only[Option.bind_some]
      rw[aI0 _ _ (by omega)];rfl
  · have:=aNj t s[k];omega) (fun t _=>by unfold oD;simp only[];rw[if_neg (by omega)]) [] (Nat.zero_le _)).1
 rw[show((0:Nat):Int)=0 from rfl]at this
 unfold qL
 rw[lS s (by have:=hs.sz;omega),decide_eq_true hs]
 simp only[Option.bind_some,if_true,this]
 congr 1
 refine aAx (aDk _ _ List.Pairwise.nil) (aAF s) fun x=>?_
 rw[aHs,aAD]
 constructor
 · rintro(h | ⟨l,hl,h⟩)
   · cases h
   · have v:=hs.1 l hl
     rcases h with rfl | ⟨rfl,h0⟩
     · exact⟨⟨by have:=v.2.2.1;have:=v.1.1;omega,v.2.1.2⟩,l,hl,.inr rfl⟩
     · exact⟨⟨by omega,v.1.2⟩,l,hl,.inl rfl⟩
 · rintro⟨h1,l,hl,h⟩
   refine .inr ⟨l,hl,?_⟩
   rcases h with h | h
   · exact .inr ⟨h.symm,by omega⟩
   · exact .inl h.symm
theorem aKo {s:List Link}(hs:s.length<=4294967296)(v:Int)(t:List Int)(ht:t.length<=1000):lp (gW s v t) 0=some (if s.any (tch v)=true then t++[v]else t):=by
 have main:∀ m k:Nat,m+k=s.length->lp (gW s v t) (k:Int)=some (if(s.drop k).any (tch v)=true then t++[v]else t):=by
  intro m
  induction m with
  | zero =>
   intro k hk
   have:k=s.length:=by omega
   subst this
   rw[aJ (r:=t) (by unfold gW;rw[if_neg (by omega)]),List.drop_length];rfl
  | succ m ih =>
   intro k hk
   have hlt:k<s.length:=by omega
   have e0:((if(s[k]).fA=v then some true else some (decide ((s[k]).fB=v))):Option Bool)=some (tch v s[k]):=by
    unfold tch;by_cases A:(s[k]).fA=v <;> by_cases B:(s[k]).fB=v <;> simp[A,B]
   rw[List.drop_eq_getElem_cons hlt,List.any_cons]
   by_cases c:tch v s[k]=true
   · rw[aJ (r:=t++[v]) (by unfold gW;rw[if_pos (by omega),aK hlt];simp only[Option.bind_some,e0,c,if_true];rw[aO (by omega)];rfl)]
     simp[c]
   · have e:gW s v t (k:Int)=some (.inl ((k+1:Nat):Int)):=by
      unfold gW;rw[if_pos (by omega),aK hlt];simp only[Option.bind_some,e0,wi1 (by omega:k<=4294967296)];rw[if_neg c]
     rw[aQ e,ih (k+1) (by omega)]
     simp only[Bool.not_eq_true]at c
     simp[c]
 have:=main s.length 0 (by omega)
 rw[show((0:Nat):Int)=0 from rfl,List.drop_zero]at this
 exact this
theorem aMc {s:List Link}(hs:s.length<=4294967296):uA s=some (fV s):=by
 have:=(kI (step:=oN s) aEq (fun k t=>((k:Int)+1,t)) (fun t v=>if(fun v=>s.any (tch v)) v=true then t++[v]else t) (fun t=>t) (fun k t=>t.length<=k) (fun k t hk hi=>by
  have hk9:k<9:=by rw[aFE]at hk;exact hk
  constructor
  · unfold oN
    simp only[]
    rw[if_pos (by omega),aKo hs _ _ (by omega),aNF]
    have w:IntKind.i64.wrap ((k:Int)+1+1)=((k+1:Nat):Int)+1:=by rw[wi (by omega)];omega
    simp only[Option.bind_some,w]
  · simp only[];split
    · rw[List.length_append,List.length_singleton];omega
    · omega) (fun t _=>by unfold oN;simp only[];rw[aFE,if_neg (by omega)]) [] (Nat.zero_le _)).1
 rw[show((0:Nat):Int)+1=1 from rfl,xS,List.nil_append]at this
 unfold uA
 rw[this];rfl
def isOrd (s:List Link)(o:List Int):Prop:=o.Nodup/\(∀ y∈o,y∈fV s)/\o.length=(fV s).length
instance (s:List Link)(o:List Int):Decidable (isOrd s o):=by unfold isOrd;exact inferInstance
theorem aKl:∀ {a b:List Int},a.Nodup->(∀ x∈a,x∈b)->b.length<=a.length->b.Perm a
 | [],b,_,_,h=>by
  have:b=[]:=List.eq_nil_of_length_eq_zero (by simpa using h)
  rw[this]
 | x::a,b,hn,hs,h=>by
  rw[List.nodup_cons]at hn
  have hx:=hs x (by simp)
  have p:=List.perm_cons_erase hx
  have hl:=p.length_eq
  rw[List.length_cons]at hl h
  refine p.trans (List.Perm.cons x (aKl hn.2 (fun y hy=>?_) (by omega)))
  have:y≠x:=fun e=>hn.1 (e▸hy)
  exact(List.mem_erase_of_ne this).2 (hs y (by simp[hy]))
theorem aMn {l:List Int}(h:l.Pairwise (· < ·)):l.Nodup:=h.imp (fun {a b} hab e=>by subst e;omega)
theorem aHp (s:List Link)(o:List Int):isOrd s o↔(∀ v∈fV s,v∈o)/\o.length=(fV s).length:=by
 have hn:=aMn (aAF s)
 constructor
 · rintro⟨h1,h2,h3⟩
   have p:=aKl h1 h2 (by omega)
   exact⟨fun v hv=>p.mem_iff.1 hv,h3⟩
 · rintro⟨h1,h2⟩
   have p:=aKl hn h1 (by omega)
   exact⟨p.nodup_iff.2 hn,fun y hy=>p.mem_iff.1 hy,h2⟩
theorem aBu {s:List Link}{o:List Int}(h:isOrd s o):o.length<=9/\(∀ u∈o,1<=u):=by
 have:=aAE s
 exact⟨by rw[h.2.2];exact this,fun u hu=>(aAD.1 (h.2.1 u hu)).1.1⟩
theorem aGg {σ:Type}{step:σ->Option (σ ⊕ (Unit ⊕ Bool))}(n:Nat)(E:Nat->σ)(G:Nat->Prop)(h1:∀ k:Nat,k<n->(G k/\step (E k)=some (.inl (E (k+1))))\/(¬G k/\step (E k)=some (.inr (.inr false))))(h2:step (E n)=some (.inr (.inl ()))) :
 (lp step (E 0)=some (.inl ())/\∀ k,k<n->G k)\/(lp step (E 0)=some (.inr false)/\∃ k,k<n/\¬G k):=by
 have main:∀ m k:Nat,m+k=n->(lp step (E k)=some (.inl ())/\∀ j,k<=j->j<n->G j)\/(lp step (E k)=some (.inr false)/\∃ j,j<n/\¬G j):=by
  intro m
  induction m with
  | zero =>
   intro k hk
   have:k=n:=by omega
   subst this
   exact .inl ⟨aJ h2,fun j _ _=>by omega⟩
  | succ m ih =>
   intro k hk
   rcases h1 k (by omega)with⟨g,e⟩ | ⟨g,e⟩
   · rw[aQ e]
     rcases ih (k+1) (by omega)with⟨a,b⟩ | ⟨a,b⟩
     · refine .inl ⟨a,fun j h1 h2=>?_⟩
       by_cases e:j=k
       · subst e;exact g
       · exact b j (by omega) h2
     · exact .inr ⟨a,b⟩
   · exact .inr ⟨aJ e,k,by omega,g⟩
 rcases main n 0 (by omega)with⟨a,b⟩ | ⟨a,b⟩
 · exact .inl ⟨a,fun j h=>b j (Nat.zero_le _) h⟩
 · exact .inr ⟨a,b⟩
theorem aAB {l:List Int}:l.Nodup↔∀ k (h:k<l.length),l[k]∉l.take k:=by
 unfold List.Nodup
 rw[List.pairwise_iff_getElem]
 constructor
 · intro h k hk hm
   obtain⟨j,hj,e⟩:=List.mem_iff_getElem.1 hm
   rw[List.length_take]at hj
   rw[List.getElem_take]at e
   exact h j k (by omega) hk (by omega) e
 · intro h i j hi hj hij e
   refine h j hj ?_
   rw[<- e]
   exact List.mem_iff_getElem.2 ⟨i,by rw[List.length_take];omega,by rw[List.getElem_take]⟩
theorem aK4 {s:List Link}(hs:LSet s)(o:List Int)(ho:o.length<=4194304):tR s o=some (decide (isOrd s o)):=by
 have hn:=aAE s
 unfold tR
 rw[aHH hs]
 simp only[Option.bind_some]
 have L:=aGg (step:=oF o (fV s)) o.length (fun k=>((k:Int),o.take k)) (fun k=>∀ h:k<o.length,o[k]∈fV s/\o[k]∉o.take k) (fun k hk=>by
  have tl:(o.take k).length<=k:=by rw[List.length_take];omega
  have tk:o.take (k+1)=o.take k++[o[k]]:=by rw[List.take_add_one,List.getElem?_eq_getElem hk];rfl
  unfold oF
  simp only[]
  rw[if_pos (by omega),aK hk]
  simp only[Option.bind_some,aDg (fV s) _ (by omega),aDg (o.take k) _ (by omega),wi1 (by omega:k<=4294967296)]
  by_cases A:o[k]∈fV s
  · by_cases B:o[k]∈o.take k
    · right
      refine⟨fun h=>(h hk).2 B,?_⟩
      rw[decide_eq_true A,decide_eq_true B];rfl
    · left
      refine⟨fun h=>⟨A,B⟩,?_⟩
      rw[decide_eq_true A,decide_eq_false B]
      simp only[if_true,Option.bind_some,Bool.false_eq_true,if_false]
      rw[aO (by omega),tk];rfl
  · right
    refine⟨fun h=>A (h hk).1,?_⟩
    rw[decide_eq_false A];rfl) (by unfold oF;simp only[];rw[if_neg (by omega)])
 simp only[List.take_zero]at L
 rw[show((0:Nat):Int)=0 from rfl]at L
 rcases L with⟨e,g⟩ | ⟨e,k,hk,g⟩
 · rw[e]
   simp only[Option.bind_some]
   rw[lS s (by have:=hs.sz;omega),decide_eq_true hs]
   simp only[Option.bind_some,if_true]
   congr 1
   rw[Bool.eq_iff_iff,decide_eq_true_iff,decide_eq_true_iff]
   constructor
   · intro h
     refine⟨aAB.2 (fun k hk=>(g k hk hk).2),fun y hy=>?_,by omega⟩
     obtain⟨j,hj,rfl⟩:=List.mem_iff_getElem.1 hy
     exact(g j hj hj).1
   · intro h;rw[h.2.2]
 · rw[e]
   have:¬isOrd s o:=fun h=>g (fun hk=>⟨h.2.1 _ (List.getElem_mem hk),aAB.1 h.1 k hk⟩)
   rw[decide_eq_false this];rfl
theorem aIH (s:List Link)(h:aI s<=4294967296):mV s=some (decide (LSet s)):=by
 rw[<- lS s h]
 unfold mV dM
 have:lp (pK s) 0=lp (eZ s) 0:=by
  refine aNS (fun _=>True) (fun v _=>⟨?_,fun _ _=>trivial⟩) _ trivial
  unfold pK eZ
  cases e:idx s v with
  | none=>rfl
  | some y =>
   have hy:y∈s:=List.mem_of_getElem? (aGb e).2.1
   have hz:=pH (w:=bR) hy
   unfold aI at h
   have q:=gI y (by omega)
   simp only[Option.bind_some,q.1,q.2,aJ2,aGx]
 rw[this]
theorem aK5 {s:List Link}(hs:LSet s)(o:List Int)(ho:o.length<=4194304):uH s o=some (decide (isOrd s o)):=by
 have hn:=aAE s
 unfold uH
 have il:mV s=some true:=by rw[aIH s (by have:=hs.sz;omega),decide_eq_true hs]
 rw[il,aMc (by have:=hs.len;omega)]
 simp only[Option.bind_some,if_true]
 have L:=aGg (step:=oT o (fV s)) (fV s).length (fun k=>(k:Int)) (fun k=>∀ h:k<(fV s).length,(fV s)[k]∈o) (fun k hk=>by
  unfold oT
  rw[if_pos (by omega),aK hk]
  simp only[Option.bind_some,yP o _ (by omega),wi1 (by omega:k<=4294967296)]
  by_cases A:(fV s)[k]∈o
  · exact .inl ⟨fun _=>A,by rw[decide_eq_true A];rfl⟩
  · exact .inr ⟨fun h=>A (h hk),by rw[decide_eq_false A];rfl⟩) (by unfold oT;rw[if_neg (by omega)])
 rw[show((0:Nat):Int)=0 from rfl]at L
 rcases L with⟨e,g⟩ | ⟨e,k,hk,g⟩
 · rw[e]
   simp only[Option.bind_some]
   congr 1
   rw[Bool.eq_iff_iff,decide_eq_true_iff,decide_eq_true_iff,aHp]
   constructor
   · intro h
     refine⟨fun v hv=>?_,by omega⟩
     obtain⟨j,hj,rfl⟩:=List.mem_iff_getElem.1 hv
     exact g j hj hj
   · intro h;rw[h.2]
 · rw[e]
   have:¬isOrd s o:=fun h=>g (fun hk=>((aHp s o).1 h).1 _ (List.getElem_mem hk))
   rw[decide_eq_false this];rfl
def lX (o:List Int)(v:Int)(l:Link):Bool:=decide (aS o [l.fA,l.fB]=v)
theorem aO4 (o:List Int)(l:Link)(h:o.length<=4294967296):rL o l=some (aS o [l.fA,l.fB]):=by
 unfold rL
 rw[aLI _ _ h (by simp)];rfl
theorem aBS {o s:List Int}{v:Int}(h:aS o s=v)(hv:v≠0):v∈s/\v∈o:=by
 unfold aS at h
 cases e:o.find? (fun u=>decide (u∈s))with
 | none=>rw[e]at h;exact absurd h.symm hv
 | some x =>
  rw[e]at h
  simp only[Option.getD_some]at h
  subst h
  exact⟨by simpa using List.find?_some e,List.mem_of_find?_eq_some e⟩
theorem aCH {o s:List Int}{k:Nat}(hk:k<o.length)(hn:o.Nodup)(h1:∀ u∈o,1<=u):aS o s=o[k]↔o[k]∈s/\∀ u∈o.take k,u∉s:=by
 have ef:o.find? (fun u=>decide (u∈s))=((o.take k).find? (fun u=>decide (u∈s))).or ((o[k]::o.drop (k+1)).find? (fun u=>decide (u∈s))):=by
  rw[<- List.find?_append,<- List.drop_eq_getElem_cons hk,List.take_append_drop]
 have hnt:=aAB.1 hn k hk
 constructor
 · intro h
   have hp:=h1 _ (List.getElem_mem hk)
   refine⟨(aBS h (by omega)).1,fun u hu hus=>?_⟩
   unfold aS at h
   rw[ef]at h
   cases f:(o.take k).find? (fun u=>decide (u∈s))with
   | none =>
    rw[List.find?_eq_none]at f
    exact f u hu (by simpa using hus)
   | some x =>
    have hx:=List.mem_of_find?_eq_some f
    rw[f]at h
    simp only[Option.some_or,Option.getD_some]at h
    rw[h]at hx
    exact hnt hx
 · rintro⟨a,b⟩
   unfold aS
   rw[ef]
   have:(o.take k).find? (fun u=>decide (u∈s))=none:=by
    rw[List.find?_eq_none];intro u hu;simpa using b u hu
   rw[this,Option.none_or,List.find?_cons]
   simp[a]
end Go.Ev
/- Building a tree, both programs, and the law. -/
namespace Go.Ev
set_option linter.all false
theorem uD (c:Conditional)(h:aR c<=4294967296):gC c=some c:=by
 have hp:=iG jF c.fParents
 unfold aR nA at h
 unfold gC
 rw[gQ _ (by omega)]
 simp only[Option.bind_some]
 have:=aAn (step:=gB c) c.fParents (fun k t=>((k:Int),t)) (fun t=>t) (fun k t hk ht=>by
  have he:=pH (w:=jF) (List.getElem_mem hk)
  have hn:jF c.fParents[k]=bI (c.fParents[k]).fShare+bI (c.fParents[k]).fDX+bI (c.fParents[k]).fDY:=rfl
  unfold gB
  simp only[]
  rw[if_pos (by omega),aK hk]
  simp only[Option.bind_some]
  rw[gQ _ (by omega)]
  simp only[Option.bind_some]
  rw[gQ _ (by omega)]
  simp only[Option.bind_some]
  rw[gQ _ (by omega)]
  simp only[Option.bind_some]
  rw[aO (by omega),wi (by omega)];rfl) (fun t ht=>by unfold gB;simp only[];rw[if_neg (by omega)])
 rw[show((0:Nat):Int)=0 from rfl]at this
 rw[this];rfl
theorem aL8 (s:List Link)(o:List Int)(v:Int)(hs:s.length<=4194304)(ho:o.length<=4194304):lp (iY s o v) (0,[])=some (s.filter (lX o v)):=by
 have:=(kI (step:=iY s o v) s (fun k t=>((k:Int),t)) (fun t x=>if lX o v x=true then t++[x]else t) (fun t=>t) (fun k t=>t.length<=k) (fun k t hk hi=>by
  constructor
  · unfold iY
    simp only[]
    rw[if_pos (by omega),aK hk]
    simp only[Option.bind_some,aO4 o _ (by omega:o.length<=4294967296),wi1 (by omega:k<=4294967296)]
    by_cases c:aS o [(s[k]).fA,(s[k]).fB]=v
    · rw[if_pos c,if_pos (by unfold lX;simpa using c),aO (by omega)];rfl
    · rw[if_neg c,if_neg (by unfold lX;simpa using c)]
  · split
    · rw[List.length_append,List.length_singleton];omega
    · omega) (fun t _=>by unfold iY;simp only[];rw[if_neg (by omega)]) [] (Nat.zero_le _)).1
 rw[show((0:Nat):Int)=0 from rfl,xS,List.nil_append]at this
 exact this
theorem aMV (o:List Int)(k:Nat)(hk:k<=o.length):sub o 0 (k:Int)=some (o.take k):=by
 rw[sH _ _ _ (by omega)];simp
theorem aNs (o:List Int)(hn:o.Nodup)(h1:∀ u∈o,1<=u)(ho:o.length<=4194304)(k:Nat)(hk:k<o.length)(l:Link)(hl:l.fA<l.fB) :
 ((if l.fA=o[k]then(sub o 0 (k:Int)).bind fun y57=>(eA y57 l.fB).bind fun r58=>(if r58=true then(if l.fB=o[k]then(sub o 0 (k:Int)).bind fun y59=>(eA y59 l.fA).bind fun r60=>some (!r60)else some false)else some true)else(if l.fB=o[k]then(sub o 0 (k:Int)).bind fun y61=>(eA y61 l.fA).bind fun r62=>some (!r62)else some false)):Option Bool)=some (lX o o[k] l):=by
 have tl:(o.take k).length<=4294967296:=by rw[List.length_take];omega
 have hnt:=aAB.1 hn k hk
 have ft:=aCH (s:=[l.fA,l.fB]) hk hn h1
 rw[aMV o k (by omega)]
 simp only[Option.bind_some,yP _ _ tl]
 unfold lX
 by_cases A:l.fA=o[k]
 · have B:¬l.fB=o[k]:=by omega
   rw[if_pos A,if_neg B]
   by_cases C:l.fB∈o.take k
   · rw[decide_eq_true C,if_pos rfl]
     have:¬aS o [l.fA,l.fB]=o[k]:=fun h=>(ft.1 h).2 _ C (by simp)
     rw[decide_eq_false this]
   · rw[decide_eq_false C]
     have:aS o [l.fA,l.fB]=o[k]:=ft.2 ⟨by simp[A],fun u hu hs=>by
      rcases List.mem_cons.1 hs with rfl | hs
      · exact hnt (A▸hu)
      · rw[List.mem_singleton.1 hs]at hu;exact C hu⟩
     rw[decide_eq_true this];rfl
 · rw[if_neg A]
   by_cases B:l.fB=o[k]
   · rw[if_pos B]
     by_cases C:l.fA∈o.take k
     · have:¬aS o [l.fA,l.fB]=o[k]:=fun h=>(ft.1 h).2 _ C (by simp)
       rw[decide_eq_true C,decide_eq_false this];rfl
     · have:aS o [l.fA,l.fB]=o[k]:=ft.2 ⟨by simp[B],fun u hu hs=>by
        rcases List.mem_cons.1 hs with rfl | hs
        · exact C hu
        · rw[List.mem_singleton.1 hs]at hu;exact hnt (B▸hu)⟩
       rw[decide_eq_false C,decide_eq_true this];rfl
   · rw[if_neg B]
     have:¬aS o [l.fA,l.fB]=o[k]:=fun h=>by
      have:=(ft.1 h).1
      simp only[List.mem_cons,List.not_mem_nil,or_false]at this
      rcases this with e | e
      · exact A e.symm
      · exact B e.symm
     rw[decide_eq_false this]
theorem aL9 (s:List Link)(o:List Int)(hs:s.length<=4194304)(ho:o.length<=4194304)(hv:∀ x∈s,ValidL x)(hn:o.Nodup)(h1:∀ u∈o,1<=u)(i:Nat)(hi:i<o.length):lp (jC s o o[i] (i:Int)) (0,[])=some (s.filter (lX o o[i])):=by
 have:=(kI (step:=jC s o o[i] (i:Int)) s (fun k t=>((k:Int),t)) (fun t x=>if lX o o[i] x=true then t++[x]else t) (fun t=>t) (fun k t=>t.length<=k) (fun k t hk hj=>by
  constructor
  · unfold jC
    simp only[]
    rw[if_pos (by omega),aK hk]
    have oc:=aNs o hn h1 ho i hi s[k] (hv _ (List.getElem_mem hk)).2.2.1
    simp only[Option.bind_some,wi1 (by omega:k<=4294967296)]
    rw[oc]
    simp only[Option.bind_some]
    by_cases c:lX o o[i] s[k]=true
    · rw[if_pos c,if_pos c,aO (by omega)];rfl
    · rw[if_neg c,if_neg c]
  · split
    · rw[List.length_append,List.length_singleton];omega
    · omega) (fun t _=>by unfold jC;simp only[];rw[if_neg (by omega)]) [] (Nat.zero_le _)).1
 rw[show((0:Nat):Int)=0 from rfl,xS,List.nil_append]at this
 exact this
noncomputable def pG (s:List Link)(o:List Int):List Int->List TreeNode->Option (List TreeNode)
 | [],b=>some b
 | v::r,b=>(mI o v (s.filter (lX o v)) b).bind fun n=>pG s o r (b++[n])
noncomputable def nW (s:List Link)(o:List Int):Option Tree :=
 (jnP s).bind fun x=>if isOrd x.1 o then(pG s o o []).map Tree.mk else none
def pkT:Option Tree->Tree×Bool
 | some t=>(t,true)
 | none=>(Tree.mk [],false)
def aQi:Option (List TreeNode)->(List TreeNode) ⊕ (Tree×Bool)
 | some b=>.inl b
 | none=>.inr (Tree.mk [],false)
def NodeOk (s:List Link)(o:List Int)(n:TreeNode):Prop:=LSet n.fMessages/\n.fOwn=s.filter (lX o n.fNode)/\aR n.fCond<=20000/\bK n.fEnergy/\n.fUp=upP o n.fCond
theorem aAw (p:Link->Bool):∀ s:List Link,aI (s.filter p)<=aI s
 | []=>Nat.le_refl _
 | x::s=>by
  have:=aAw p s
  unfold aI at this ⊢
  rw[List.filter_cons,mC]
  split
  · rw[mC];omega
  · omega
theorem aFC {s:List Link}{o:List Int}{v:Int}{b:List TreeNode}{n:TreeNode}(h:mI o v (s.filter (lX o v)) b=some n):NodeOk s o n/\n.fNode=v:=by
 obtain⟨h1,h2,h3,h4,h5,h6⟩:=aFB h
 exact⟨⟨h1,by rw[h5];exact h2,h3,h4,h6⟩,h5⟩
theorem aAb {s:List Link}{o:List Int}:∀ (r:List Int) (b b':List TreeNode),(∀ n∈b,NodeOk s o n)->pG s o r b=some b'->(∀ n∈b',NodeOk s o n)/\b'.map (·.fNode)=b.map (·.fNode)++r
 | [],b,b',h,e=>by cases e;exact⟨h,by simp⟩
 | v::r,b,b',h,e=>by
  rw[pG]at e
  cases h1:mI o v (s.filter (lX o v)) b with
  | none=>rw[h1]at e;cases e
  | some n =>
   rw[h1,Option.bind_some]at e
   obtain⟨g1,g2⟩:=aFC h1
   obtain⟨k1,k2⟩:=aAb r (b++[n]) b' (fun m hm=>by
    rcases List.mem_append.1 hm with hm | hm
    · exact h m hm
    · rw[List.mem_singleton.1 hm];exact g1) e
   exact⟨k1,by rw[k2,List.map_append,List.append_assoc];simp[g2]⟩
theorem aJ5 (s:List Link)(o:List Int)(hz:aI s<=4194304)(hv:∀ x∈s,ValidL x)(ho:o.length<=9)(h1:∀ u∈o,1<=u):∀ m k:Nat,m+k=o.length->∀ b:List TreeNode,b.length=k->(∀ n∈b,LSet n.fMessages)->lp (iX s o) ((k:Int),b)=some (aQi (pG s o (o.drop k) b)):=by
 have hl:s.length<=4194304:=Nat.le_trans (iG _ _) hz
 intro m
 induction m with
 | zero =>
  intro k hk b hb hm
  rw[List.drop_eq_nil_of_le (by omega)]
  exact aJ (by unfold iX;simp only[];rw[if_neg (by omega)];rfl)
 | succ m ih =>
  intro k hk b hb hm
  have hlt:k<o.length:=by omega
  rw[List.drop_eq_getElem_cons hlt,pG]
  have nq:=(aNB (v:=o[k]) (own:=s.filter (lX o o[k])) (b:=b) (by omega:o.length<=4194304) h1 (Nat.le_trans (aAw _ s) hz) (by omega) hm (fun x hx=>hv x (List.mem_filter.1 hx).1)).1
  have st:iX s o ((k:Int),b)=some (match mI o o[k] (s.filter (lX o o[k])) b with | some n=>.inl (((k+1:Nat):Int),b++[n]) | none=>.inr (.inr (Tree.mk [],false))):=by
   unfold iX
   simp only[]
   rw[if_pos (by omega),aK hlt]
   simp only[Option.bind_some,aL8 s o o[k] hl (by omega),nq,wi1 (by omega:k<=4294967296)]
   cases mI o o[k] (s.filter (lX o o[k])) b with
   | none=>rfl
   | some n=>simp only[pkN,if_true];rw[aO (by omega)];rfl
  cases h:mI o o[k] (s.filter (lX o o[k])) b with
  | none=>rw[h]at st;rw[aJ st];rfl
  | some n =>
   rw[h]at st
   rw[aQ st,Option.bind_some]
   exact ih (k+1) (by omega) _ (by simp[hb]) (fun x hx=>by
    rcases List.mem_append.1 hx with hx | hx
    · exact hm x hx
    · rw[List.mem_singleton.1 hx];exact(aFB h).1)
theorem aJ6 (s:List Link)(o:List Int)(hz:aI s<=4194304)(hv:∀ x∈s,ValidL x)(ho:o.length<=9)(hn:o.Nodup)(h1:∀ u∈o,1<=u):∀ m k:Nat,m+k=o.length->∀ b:List TreeNode,b.length=k->(∀ n∈b,LSet n.fMessages)->lp (jB s o) ((k:Int),b)=some (aQi (pG s o (o.drop k) b)):=by
 have hl:s.length<=4194304:=Nat.le_trans (iG _ _) hz
 intro m
 induction m with
 | zero =>
  intro k hk b hb hm
  rw[List.drop_eq_nil_of_le (by omega)]
  exact aJ (by unfold jB;simp only[];rw[if_neg (by omega)];rfl)
 | succ m ih =>
  intro k hk b hb hm
  have hlt:k<o.length:=by omega
  rw[List.drop_eq_getElem_cons hlt,pG]
  have nq:=(aNB (v:=o[k]) (own:=s.filter (lX o o[k])) (b:=b) (by omega:o.length<=4194304) h1 (Nat.le_trans (aAw _ s) hz) (by omega) hm (fun x hx=>hv x (List.mem_filter.1 hx).1)).2
  have st:jB s o ((k:Int),b)=some (match mI o o[k] (s.filter (lX o o[k])) b with | some n=>.inl (((k+1:Nat):Int),b++[n]) | none=>.inr (.inr (Tree.mk [],false))):=by
   unfold jB
   simp only[]
   rw[if_pos (by omega),aK hlt]
   simp only[Option.bind_some,aL9 s o hl (by omega) hv hn h1 k hlt,nq,wi1 (by omega:k<=4294967296)]
   cases mI o o[k] (s.filter (lX o o[k])) b with
   | none=>rfl
   | some n=>simp only[pkN,if_true];rw[aO (by omega)];rfl
  cases h:mI o o[k] (s.filter (lX o o[k])) b with
  | none=>rw[h]at st;rw[aJ st];rfl
  | some n =>
   rw[h]at st
   rw[aQ st,Option.bind_some]
   exact ih (k+1) (by omega) _ (by simp[hb]) (fun x hx=>by
    rcases List.mem_append.1 hx with hx | hx
    · exact hm x hx
    · rw[List.mem_singleton.1 hx];exact(aFB h).1)
theorem NodeOk.sz {s:List Link}{o:List Int}{n:TreeNode}(h:NodeOk s o n)(hz:aI s<=4194304):bQ n<=4300000:=by
 have h1:=h.1.sz
 have h2:aI n.fOwn<=4194304:=by rw[h.2.1];exact Nat.le_trans (aAw _ s) hz
 have h3:=nF (.inl h.2.2.2.1)
 have h4:=h.2.2.1
 unfold bQ;omega
theorem aKN (n:TreeNode)(h:bQ n<=4294967296):lL n=some n:=by
 unfold bQ at h
 unfold lL
 rw[qT _ (by omega),uD _ (by omega)]
 simp only[Option.bind_some]
 rw[qT _ (by omega),gQ _ (by omega)]
 rfl
theorem aKM (t:Tree)(h:jJ t<=4294967296):sA t=some t:=by
 unfold jJ lT at h
 have hl:=iG bQ t.fNodes
 unfold sA
 have:=aAn (step:=mR t) t.fNodes (fun k t=>((k:Int),t)) (fun t=>t) (fun k u hk hu=>by
  have he:=pH (w:=bQ) (List.getElem_mem hk)
  unfold mR
  simp only[]
  rw[if_pos (by omega),aK hk]
  simp only[Option.bind_some]
  rw[aKN _ (by omega)]
  simp only[Option.bind_some]
  rw[aO (by omega),wi1 (by omega)];rfl) (fun t ht=>by unfold mR;simp only[];rw[if_neg (by omega)])
 rw[show((0:Nat):Int)=0 from rfl]at this
 rw[this];rfl
theorem aOT {s:List Link}{o:List Int}{b:List TreeNode}(hz:aI s<=4194304)(ho:o.length<=9)(h:pG s o o []=some b):jJ ⟨b⟩<=38700018:=by
 obtain⟨h1,h2⟩:=aAb o [] b (by simp) h
 have hl:b.length=o.length:=by have:=congrArg List.length h2;simpa using this
 have:lT b<=(4300000+1)*b.length:=aDC (fun n hn=>(h1 n hn).sz hz)
 unfold jJ
 have:(4300000+1)*b.length<=4300001*9:=Nat.mul_le_mul (Nat.le_refl _) (by omega)
 simp only[]
 omega
theorem aIK (s:List Link)(o:List Int)(hz:aI s<=4194304)(ho:o.length<=4194304):pW s o=some (pkT (nW s o))/\mW s o=some (pkT (nW s o)):=by
 obtain⟨j1,j2⟩:=zO s (by omega)
 unfold pW mW nW
 rw[j1,j2]
 cases h:jnP s with
 | none=>exact⟨rfl,rfl⟩
 | some x =>
  obtain⟨u,e⟩:=x
  obtain⟨hv,hs,he⟩:=aAM h
  simp only[pk,Option.bind_some,if_true]
  rw[aK4 hs o ho,aK5 hs o ho]
  by_cases c:isOrd u o
  · obtain⟨l9,h1⟩:=aBu c
    have q1:=aJ5 s o hz hv l9 h1 o.length 0 (by omega) [] rfl (by simp)
    have q2:=aJ6 s o hz hv l9 c.1 h1 o.length 0 (by omega) [] rfl (by simp)
    rw[show((0:Nat):Int)=0 from rfl,List.drop_zero]at q1 q2
    rw[decide_eq_true c,if_pos c]
    simp only[Option.bind_some,Bool.not_true,Bool.false_eq_true,if_false,q1,q2]
    cases g:pG s o o []with
    | none=>exact⟨rfl,rfl⟩
    | some b =>
     simp only[aQi]
     rw[aKM ⟨b⟩ (by have:=aOT hz l9 g;omega)]
     exact⟨rfl,rfl⟩
  · rw[decide_eq_false c,if_neg c]
    exact⟨rfl,rfl⟩
end Go.Ev
