/- Parts PR5, PR6, PR7, PR8, MX2, PR9, QA, QB, QC, QD, QE, QF, P21, QG. -/
import Derived.Test.YtmgbflccodamfaaGreatPb2
import Derived.Test.YtmgbflccodamfaaGreatPb1
import Derived.Test.YtmgbflccodamfaaGreatPa1
set_option linter.all false
set_option maxHeartbeats 4000000
set_option maxRecDepth 20000
/- Eliminating a node of a link set, both programs. -/
namespace Go.Ev
open IntKind
noncomputable def rM (a:List l08Arm):Rat:=a.foldl (fun t a=>RA t a.fweight) (nH 0)
noncomputable def fG (t:Rat)(a:l08Arm):Parent:=⟨a.fnode,RD a.fweight t,a.fdx,a.fdy⟩
noncomputable def uT (t:Rat)(a b:l08Arm):Link:=⟨a.fnode,b.fnode,RD (RM a.fweight b.fweight) t,RS a.fdx b.fdx,RS a.fdy b.fdy⟩
noncomputable def iC (t:Rat):List l08Arm->List Link
 | []=>[]
 | a::r=>r.map (uT t a)++iC t r
noncomputable def aCX (v:Int)(a:List l08Arm):Conditional:=⟨v,rM a,a.map (fG (rM a))⟩
def condOk (v:Int)(a:List l08Arm):Prop:=bJ (aCX v a)=some true
noncomputable instance (v:Int)(a:List l08Arm):Decidable (condOk v a):=Classical.propDecidable _
noncomputable def yX (v:Int)(s:List Link):Option (Conditional×List Link) :=
 if(1<=v/\v<=9)/\condOk v (bM v s)/\(∀ x∈iC (rM (bM v s)) (bM v s),ValidL x)then some (aCX v (bM v s),iC (rM (bM v s)) (bM v s))else none
theorem aJh {v:Int}{s:List Link}(h:(1<=v/\v<=9)/\condOk v (bM v s)/\(∀ x∈iC (rM (bM v s)) (bM v s),ValidL x)):yX v s=some (aCX v (bM v s),iC (rM (bM v s)) (bM v s)):=by unfold yX;rw[aUs h]
theorem aCv {v:Int}{s:List Link}(h:¬((1<=v/\v<=9)/\condOk v (bM v s)/\(∀ x∈iC (rM (bM v s)) (bM v s),ValidL x))):yX v s=none:=by unfold yX;rw[aUq h]
def aFC:Conditional:=Conditional.mk 0 (Rat.mk (BigInt.mk false ([])) ([])) ([])
def pkE:Option (Conditional×List Link)->Conditional×List Link×Bool
 | some (c,m)=>(c,m,true)
 | none=>(aFC,[],false)
theorem aKp:∀ (a:List l08Arm) (t:Rat),(∀ x∈a,uU x)->VZ t->VZ (a.foldl (fun t a=>RA t a.fweight) t)
 | [],t,_,h=>h
 | x::a,t,ho,h=>aKp a _ (fun y hy=>ho y (by simp[hy])) (aBp h (ho x (by simp)).2.1).2.2
theorem aAJ {a:List l08Arm}(h:∀ x∈a,uU x):VZ (rM a):=aKp a _ h (.inl aCg)
theorem aGW {α β:Type}(g:α->β):∀ (l:List α) (t:List β),l.foldl (fun t b=>t++[g b]) t=t++l.map g
 | [],t=>by simp
 | x::l,t=>by rw[aVw,aGW g l,aUH,aUO];rfl
theorem aJ1 {t:Rat}{a b:l08Arm}(ht:VZ t)(ha:uU a)(hb:uU b):cG (uT t a b)<=144:=by
 have h1:=nC (aHm (aEJ ha.2.1 hb.2.1).2.2 ht).2.2
 have h2:=nC (aHE ha.2.2.1 hb.2.2.1).2.2
 have h3:=nC (aHE ha.2.2.2 hb.2.2.2).2.2
 unfold cG uT;simp only[];omega
theorem aMF {t:Rat}(ht:VZ t):∀ {a:List l08Arm},(∀ x∈a,uU x)->∀ x∈iC t a,cG x<=144
 | [],_,x,hx=>by cases hx
 | a::r,h,x,hx=>by
  rw[iC]at hx
  rcases aUz.1 hx with hx | hx
  · obtain⟨b,hb,rfl⟩:=aUJ.1 hx
    exact aJ1 ht (h a (by simp)) (h b (by simp[hb]))
  · exact aMF ht (fun y hy=>h y (by simp[hy])) x hx
theorem aGw (t:Rat):∀ {a:List l08Arm} {n:Nat},a.length<=n->(iC t a).length<=n*a.length
 | [],n,_=>by simp[iC]
 | a::r,n,h=>by
  rw[aUC]at h
  have:=aGw t (a:=r) (n:=n) (by omega)
  rw[iC,aUF,aUM,aUC,aVM,Nat.mul_one];omega
theorem aO3 (t:Rat):∀ {a:List l08Arm} {x:Link},x∈iC t a->∃ y∈a,x.fA=y.fnode
 | [],x,hx=>by cases hx
 | a::r,x,hx=>by
  rw[iC]at hx
  rcases aUz.1 hx with hx | hx
  · obtain⟨b,hb,rfl⟩:=aUJ.1 hx
    exact⟨a,by simp,rfl⟩
  · obtain⟨y,hy,e⟩:=aO3 t hx
    exact⟨y,by simp[hy],e⟩
theorem aJ4 (t:Rat):∀ {a:List l08Arm},(a.map (·.fnode)).Pairwise (· < ·)->(iC t a).Pairwise fD
 | [],_=>List.Pairwise.nil
 | a::r,h=>by
  rw[aUH,aVa]at h
  rw[iC,aWf]
  refine⟨?_,aJ4 t h.2,fun x hx y hy=>?_⟩
  · rw[aVz]
    have:=h.2
    rw[aVz]at this
    exact this.imp (fun {b c} hbc=>.inr ⟨rfl,hbc⟩)
  · obtain⟨b,hb,rfl⟩:=aUJ.1 hx
    obtain⟨z,hz,e⟩:=aO3 t hy
    exact .inl (by rw[e];exact h.1 _ (aUJ.2 ⟨z,hz,rfl⟩))
theorem aH7 {t:Rat}{a:List l08Arm}(h:(a.map (·.fnode)).Pairwise (· < ·)):LSet (iC t a)↔∀ x∈iC t a,ValidL x:=⟨fun g=>g.1,fun g=>⟨g,aJ4 t h⟩⟩
theorem aNP {a:List l08Arm}(ha:∀ x∈a,uU x)(hl:a.length<=100):lp (gL a) (0,nH 0)=some (rM a):=by
 have:=(iF (step:=gL a) a (fun k t=>((k:Int),t)) (fun t a=>RA t a.fweight) (fun t=>t) (fun _ t=>VZ t) (fun k t hk hi=>by
  have w1:i64.wrap ((k:Int)+1)=((k+1:Nat):Int):=by rw[wi (by omega)];omega
  obtain⟨q1,_,q3⟩:=aBp hi (ha _ (aUA hk)).2.1
  refine⟨?_,q3⟩
  unfold gL
  simp only[]
  rw[aUs (by omega),aH hk]
  simp only[aUp,q1,w1]) (fun t _=>by unfold gL;simp only[];rw[aUq (by omega)]) (nH 0) (.inl aCg)).1
 rw[show((0:Nat):Int)=0 from rfl]at this
 exact this
theorem aNR {a:List l08Arm}{t:Rat}(ht:VZ t)(ha:∀ x∈a,uU x)(hl:a.length<=100):lp (gK a t) (0,[])=some (a.map (fG t)):=by
 have:=yR (step:=gK a t) (a.map (fG t)) (fun k t=>((k:Int),t)) (fun t=>t) (fun k u hk hu=>by
  have hk2:k<a.length:=by rwa [aUM]at hk
  have w1:i64.wrap ((k:Int)+1)=((k+1:Nat):Int):=by rw[wi (by omega)];omega
  have ho:=ha _ (aUA hk2)
  have q:=(aHm ho.2.1 ht).1
  unfold gK
  simp only[]
  rw[aUs (by omega),aH hk2]
  simp only[aUp,q,pQ _ (VZs ho.2.2.1),pQ _ (VZs ho.2.2.2),w1]
  rw[aI (by omega)]
  simp only[aUp,vH,aVG]
  rfl) (fun u hu=>by unfold gK;simp only[];rw[aUM,aUq (by omega)])
 rw[show((0:Nat):Int)=0 from rfl]at this
 exact this
theorem aNQ {r:List l08Arm}{x:l08Arm}{t:Rat}(ht:VZ t)(hx:uU x)(hr:∀ y∈r,uU y)(hl:r.length<=100)(acc:List Link)(hacc:acc.length<=1000000) :
 lp (gJ r x t) (0,acc)=some (acc++r.map (uT t x)):=by
 have:=(iF (step:=gJ r x t) r (fun k u=>((k:Int),u)) (fun u b=>u++[uT t x b]) (fun u=>u) (fun k u=>u.length<=1000000+k) (fun k u hk hi=>by
  have w1:i64.wrap ((k:Int)+1)=((k+1:Nat):Int):=by rw[wi (by omega)];omega
  have ho:=hr _ (aUA hk)
  have q0:=aEJ hx.2.1 ho.2.1
  have q1:=(aHm q0.2.2 ht).1
  have q2:=(aHE hx.2.2.1 ho.2.2.1).1
  have q3:=(aHE hx.2.2.2 ho.2.2.2).1
  refine⟨?_,by rw[aUF,aU5];omega⟩
  unfold gJ
  simp only[]
  rw[aUs (by omega),aH hk]
  simp only[aUp,q0.1,q1,q2,q3,w1]
  rw[aI (by omega)]
  rfl) (fun u _=>by unfold gJ;simp only[];rw[aUq (by omega)]) acc (by omega)).1
 rw[show((0:Nat):Int)=0 from rfl,aGW]at this
 exact this
theorem aOc {α:Type}(l:List α)(k:Nat)(hk:k+1<=l.length)(hl:l.length<=4294967296):sub l (i64.wrap ((k:Int)+1)) (l.length:Int)=some (l.drop (k+1)):=by
 have w1:i64.wrap ((k:Int)+1)=((k+1:Nat):Int):=by rw[wi (by omega)];omega
 rw[w1,tJ _ _ _ (by omega)];congr 1
 rw[aVt];rfl
 rw[aV2];omega
theorem aLH {a:List l08Arm}{t:Rat}(ht:VZ t)(ha:∀ x∈a,uU x)(hl:a.length<=100):lp (eJ a t) (0,[])=some (iC t a):=by
 have main:∀ m k:Nat,m+k=a.length->∀ acc:List Link,acc.length<=100*k->lp (eJ a t) ((k:Int),acc)=some (acc++iC t (a.drop k)):=by
  intro m
  induction m with
  | zero =>
   intro k hk acc hacc
   rw[aUW (by omega),iC,aVx]
   exact aG (by unfold eJ;simp only[];rw[aUq (by omega)])
  | succ m ih =>
   intro k hk acc hacc
   have hlt:k<a.length:=by omega
   have w1:i64.wrap ((k:Int)+1)=((k+1:Nat):Int):=by rw[wi (by omega)];omega
   rw[aUw hlt,iC]
   have row:=aNQ (r:=a.drop (k+1)) ht (ha _ (aUA hlt)) (fun y hy=>ha y (List.mem_of_mem_drop hy)) (by rw[aV2];omega) acc (by omega)
   have st:eJ a t ((k:Int),acc)=some (.inl (((k+1:Nat):Int),acc++(a.drop (k+1)).map (uT t a[k]))):=by
    unfold eJ
    simp only[]
    rw[aUs (by omega),aH hlt,aOc a k (by omega) (by omega)]
    simp only[aUp,row,w1]
   rw[aO st,ih (k+1) (by omega) _ (by rw[aUF,aUM,aV2];omega),aUO]
 have:=main a.length 0 (by omega) [] (by simp)
 rw[show((0:Nat):Int)=0 from rfl,aVn,aUx]at this
 exact this
theorem aJj {v:Int}{a:List l08Arm}(ha:∀ x∈a,uU x)(hl:a.length<=100):aW (aCX v a)<=4294967296:=by
 have h1:=nC (aAJ ha)
 have h2:pO (a.map (fG (rM a)))<=145*(a.map (fG (rM a))).length:=aEk (c:=144) (fun p hp=>by
  obtain⟨x,hx,rfl⟩:=aUJ.1 hp
  have ho:=ha x hx
  have g1:=nC (aHm ho.2.1 (aAJ ha)).2.2
  have g2:=nC ho.2.2.1
  have g3:=nC ho.2.2.2
  unfold nD fG;simp only[];omega)
 rw[aUM]at h2
 unfold aW aCX;simp only[];omega
theorem aQV {s:List Link}(hs:LSet s)(v:Int):sJ s v=some (pkE (yX v s)):=by
 have ha:=aHb hs v
 have hl:=aCz hs v
 have ht:=aAJ ha
 obtain⟨b,b1,b2,_⟩:=aJq _ (aJj (v:=v) ha hl)
 have inc:=aNY hs v
 unfold sJ
 rw[lO s (by have:=hs.sz;omega),aUu hs,aCp]
 simp only[aUp,aUK]
 by_cases c:1<=v/\v<=9
 · rw[aUu c]
   simp only[aVj,aUv,aUT]
   rw[aSy hs v,fM 0 (by omega)]
   simp only[aUp]
   rw[aNP ha hl]
   simp only[aUp]
   rw[aNR ht ha hl]
   simp only[aUp]
   rw[aLH ht ha hl]
   simp only[aUp]
   have e:(Conditional.mk v (rM (bM v s)) ((bM v s).map (fG (rM (bM v s)))))=aCX v (bM v s):=rfl
   rw[e,b1]
   simp only[aUp]
   have hms:=aEk (aMF ht ha)
   have hml:=aGw (rM (bM v s)) (a:=bM v s) (aUI _)
   have hm2:(bM v s).length*(bM v s).length<=100*100:=aUX hl hl
   rw[lO _ (by unfold aK;omega)]
   cases b with
   | false =>
    have:¬condOk v (bM v s):=by unfold condOk;rw[b1];simp
    rw[aCv (fun h=>this h.2.1)];rfl
   | true =>
    have hc:condOk v (bM v s):=b1
    simp only[aUK,aUp]
    by_cases d:∀ x∈iC (rM (bM v s)) (bM v s),ValidL x
    · rw[aUu ((aH7 inc).2 d),aJh ⟨c,hc,d⟩];rfl
    · rw[aUt (fun h=>d ((aH7 inc).1 h)),aCv (fun h=>d h.2.2)];rfl
 · rw[aUt c]
   rw[aCv (fun h=>c h.1)];rfl
def yH (a:l08Arm):Parent:=⟨a.fnode,nY,a.fdx,a.fdy⟩
theorem aLW (v:Int)(s:List Link)(k:Nat)(hk:k<s.length):bM v (s.take (k+1))=bM v (s.take k)++(if tch v s[k]then [aBj v s[k]]else []):=by
 have tk:s.take (k+1)=s.take k++[s[k]]:=by rw[aV4,aUG hk];rfl
 unfold bM
 rw[tk,aWS,aVE]
 congr 1
 by_cases c:tch v s[k] <;> simp[c]
theorem aLJ {s:List Link}(hs:LSet s)(v:Int):lp (dK s v) (0,nH 0,[],[])=some (rM (bM v s),(bM v s).map (·.fweight),(bM v s).map yH):=by
 have hlen:=hs.len
 have hpre:∀ k,∀ a∈bM v (s.take k),uU a:=fun k a ha=>by
  obtain⟨l,hl,rfl⟩:=aUJ.1 ha
  exact aKG (hs.1 l (List.mem_of_mem_take (aUy.1 hl).1))
 have hpl:∀ k,(bM v (s.take k)).length<=100:=fun k=>by
  have:=aWp (tch v) (s.take k)
  have h2:(s.take k).length<=s.length:=by rw[aVp];omega
  unfold bM;rw[aUM];omega
 have main:∀ m k:Nat,m+k=s.length->lp (dK s v) ((k:Int),rM (bM v (s.take k)),(bM v (s.take k)).map (·.fweight),(bM v (s.take k)).map yH)=some (rM (bM v s),(bM v s).map (·.fweight),(bM v s).map yH):=by
  intro m
  induction m with
  | zero =>
   intro k hk
   rw[aVt (by omega)]
   exact aG (by unfold dK;simp only[];rw[aUq (by omega)])
  | succ m ih =>
   intro k hk
   have hlt:k<s.length:=by omega
   have w1:i64.wrap ((k:Int)+1)=((k+1:Nat):Int):=by rw[wi (by omega)];omega
   have hv:=hs.1 _ (aUA hlt)
   obtain⟨v1,v2,v3⟩:=hv.vz
   have n1:=(aN2 v2).2.1
   have n2:=(aN2 v3).2.1
   have ra:=(aBp (aAJ (hpre k)) v1).2.1
   have hp:=hpl k
   have st:dK s v ((k:Int),rM (bM v (s.take k)),(bM v (s.take k)).map (·.fweight),(bM v (s.take k)).map yH)=some (.inl (((k+1:Nat):Int),rM (bM v (s.take (k+1))),(bM v (s.take (k+1))).map (·.fweight),(bM v (s.take (k+1))).map yH)):=by
    rw[aLW v s k hlt]
    unfold dK
    simp only[]
    rw[aUs (by omega),aH hlt]
    simp only[aUp,n1,n2,ra,w1]
    have k1:∀ {α:Type} {f:l08Arm->α},((bM v (s.take k)).map f).length<=100:=by intro α f;rw[aUM];exact hp
    by_cases A:(s[k]).fA=v
    · rw[aUs A,aI (by have:=k1 (f:=yH);omega)]
      simp only[aUp,vH]
      rw[aI (by have:=k1 (f:=fun a=>a.fweight);omega)]
      simp[tch,A,aBj,rM,yH,nY,ra]
    · by_cases B:(s[k]).fB=v
      · rw[aUq A,aUs B,aI (by have:=k1 (f:=yH);omega)]
        simp only[aUp,vH]
        rw[aI (by have:=k1 (f:=fun a=>a.fweight);omega)]
        simp[tch,A,B,aBj,rM,yH,nY,ra]
      · simp[tch,A,B]
   rw[aO st]
   exact ih (k+1) (by omega)
 have:=main s.length 0 (by omega)
 simpa [bM,rM]using this
theorem aNT {a:List l08Arm}{t:Rat}(ht:VZ t)(ha:∀ x∈a,uU x)(hl:a.length<=100):lp (dJ (t,a.map (·.fweight),a.map yH)) (0,a.map yH)=some (a.map (fG t)):=by
 have main:∀ m k:Nat,m+k=a.length->lp (dJ (t,a.map (·.fweight),a.map yH)) ((k:Int),(a.take k).map (fG t)++(a.drop k).map yH)=some (a.map (fG t)):=by
  intro m
  induction m with
  | zero =>
   intro k hk
   refine aG ?_
   unfold dJ
   simp only[aUM]
   rw[aUq (by omega),aUW (by omega),aVt (by omega)]
   simp
  | succ m ih =>
   intro k hk
   have hlt:k<a.length:=by omega
   have w1:i64.wrap ((k:Int)+1)=((k+1:Nat):Int):=by rw[wi (by omega)];omega
   have ho:=ha _ (aUA hlt)
   have q:=(aHm ho.2.1 ht).2.1
   have tl:((a.take k).map (fG t)).length=k:=by rw[aUM,aVp];omega
   have e1:idx (a.map (fun x=>x.fweight)) (k:Int)=some (a[k]).fweight:=by rw[aH (by rwa [aUM]),aVG]
   have e2:idx ((a.take k).map (fG t)++(a.drop k).map yH) (k:Int)=some (yH a[k]):=by
    rw[aFw,aVl (by omega),tl,aW1,aUw hlt];rfl
   have e3:nA ((a.take k).map (fG t)++(a.drop k).map yH) (k:Int) (fG t a[k])=(a.take (k+1)).map (fG t)++(a.drop (k+1)).map yH:=by
    rw[rQ,List.set_append_right _ _ (by omega),tl,aW1,aUw hlt,aUH,List.set_cons_zero,aV4,aUG hlt,aVE,aUO]
    rfl
   have st:dJ (t,a.map (·.fweight),a.map yH) ((k:Int),(a.take k).map (fG t)++(a.drop k).map yH)=some (.inl (((k+1:Nat):Int),(a.take (k+1)).map (fG t)++(a.drop (k+1)).map yH)):=by
    unfold dJ
    simp only[aUM]
    rw[aUs (by omega),e1]
    simp only[aUp,q,e2,vH,w1]
    have:(Parent.mk (yH a[k]).fNode (RD (a[k]).fweight t) (yH a[k]).fDX (yH a[k]).fDY)=fG t a[k]:=rfl
    rw[this,e3]
   rw[aO st]
   exact ih (k+1) (by omega)
 have:=main a.length 0 (by omega)
 simpa using this
def aFY (t:Rat)(x:l08Arm)(r:List l08Arm):Prop:=∀ y∈r,ValidL (uT t x y)
noncomputable instance (t:Rat)(x:l08Arm)(r:List l08Arm):Decidable (aFY t x r):=Classical.propDecidable _
theorem aNS {a:List l08Arm}{t:Rat}(ht:VZ t)(ha:∀ x∈a,uU x)(hl:a.length<=100)(q0:List Parent)(i:Nat)(hi:i<a.length):∀ m j:Nat,m+j=a.length->∀ acc:List Link,acc.length<=1000000+j->
 lp (eO (a.map (fG t)) (t,a.map (·.fweight),q0) (i:Int) (fG t a[i])) ((j:Int),acc)=some (if aFY t a[i] (a.drop j)then .inl (acc++(a.drop j).map (uT t a[i]))else .inr (aFC,[],false)):=by
 intro m
 induction m with
 | zero =>
  intro j hj acc hacc
  rw[aUW (by omega),aUs (by intro y hy;cases hy),aVy,aVx]
  exact aG (by unfold eO;simp only[aUM];rw[aUq (by omega)])
 | succ m ih =>
  intro j hj acc hacc
  have hlt:j<a.length:=by omega
  have w1:i64.wrap ((j:Int)+1)=((j+1:Nat):Int):=by rw[wi (by omega)];omega
  have hx:=ha _ (aUA hi)
  have ho:=ha _ (aUA hlt)
  have p0:=aEJ hx.2.1 ho.2.1
  have p1:=(aHm p0.2.2 ht).2.1
  have p2:=(aHE hx.2.2.1 ho.2.2.1).2.1
  have p3:=(aHE hx.2.2.2 ho.2.2.2).2.1
  have vl:=(fL (uT t a[i] a[j]) (by have:=aJ1 ht hx ho;omega)).2
  have e0:idx (a.map (fG t)) (j:Int)=some (fG t a[j]):=by rw[aH (by rwa [aUM]),aVG]
  have e1:idx (a.map (fun x=>x.fweight)) (i:Int)=some (a[i]).fweight:=by rw[aH (by rwa [aUM]),aVG]
  have e2:idx (a.map (fun x=>x.fweight)) (j:Int)=some (a[j]).fweight:=by rw[aH (by rwa [aUM]),aVG]
  have st:eO (a.map (fG t)) (t,a.map (·.fweight),q0) (i:Int) (fG t a[i]) ((j:Int),acc)=some (if ValidL (uT t a[i] a[j])then .inl (((j+1:Nat):Int),acc++[uT t a[i] a[j]])else .inr (.inr (aFC,[],false))):=by
   unfold eO
   simp only[aUM]
   rw[aUs (by omega),e0,e1,e2]
   simp only[aUp,p0.2.1,p1,w1]
   have f1:(fG t a[i]).fDX=(a[i]).fdx:=rfl
   have f2:(fG t a[i]).fDY=(a[i]).fdy:=rfl
   have f3:(fG t a[j]).fDX=(a[j]).fdx:=rfl
   have f4:(fG t a[j]).fDY=(a[j]).fdy:=rfl
   rw[f1,f2,f3,f4,p2]
   simp only[aUp]
   rw[p3]
   simp only[aUp]
   have f5:(Link.mk (fG t a[i]).fNode (fG t a[j]).fNode (RD (RM (a[i]).fweight (a[j]).fweight) t) (RS (a[i]).fdx (a[j]).fdx) (RS (a[i]).fdy (a[j]).fdy))=uT t a[i] a[j]:=rfl
   rw[f5,vl]
   simp only[aUp]
   by_cases c:ValidL (uT t a[i] a[j])
   · rw[aUu c,aUs rfl,aUs c,aI (by omega)];rfl
   · rw[aUt c,aUq c];rfl
  rw[aUw hlt]
  by_cases c:ValidL (uT t a[i] a[j])
  · rw[aUs c]at st
    rw[aO st,ih (j+1) (by omega) _ (by rw[aUF,aU5];omega)]
    have:aFY t a[i] (a[j]::a.drop (j+1))↔aFY t a[i] (a.drop (j+1)):=⟨fun h x hx'=>h x (aU3 _ hx'),fun h x hx'=>by rcases aUr.1 hx' with rfl | h';exact c;exact h x h'⟩
    simp only[this,aUH,aUO,aVK]
  · rw[aUq c]at st
    rw[aG st,aUq (fun h=>c (h _ aWP))]
theorem aLI {a:List l08Arm}{t:Rat}(ht:VZ t)(ha:∀ x∈a,uU x)(hl:a.length<=100)(q0:List Parent):lp (dI (a.map (fG t)) (t,a.map (·.fweight),q0)) (0,[])=some (if ∀ x∈iC t a,ValidL x then .inl (iC t a)else .inr (aFC,[],false)):=by
 have main:∀ m k:Nat,m+k=a.length->∀ acc:List Link,acc.length<=100*k->lp (dI (a.map (fG t)) (t,a.map (·.fweight),q0)) ((k:Int),acc)=some (if ∀ x∈iC t (a.drop k),ValidL x then .inl (acc++iC t (a.drop k))else .inr (aFC,[],false)):=by
  intro m
  induction m with
  | zero =>
   intro k hk acc hacc
   rw[aUW (by omega),aUs (by simp[iC]),iC,aVx]
   exact aG (by unfold dI;simp only[aUM];rw[aUq (by omega)])
  | succ m ih =>
   intro k hk acc hacc
   have hlt:k<a.length:=by omega
   have w1:i64.wrap ((k:Int)+1)=((k+1:Nat):Int):=by rw[wi (by omega)];omega
   have e0:idx (a.map (fG t)) (k:Int)=some (fG t a[k]):=by rw[aH (by rwa [aUM]),aVG]
   have row:=aNS ht ha hl q0 k hlt (a.length-(k+1)) (k+1) (by omega) acc (by omega)
   rw[aUw hlt,iC]
   have st:dI (a.map (fG t)) (t,a.map (·.fweight),q0) ((k:Int),acc)=some (if aFY t a[k] (a.drop (k+1))then .inl (((k+1:Nat):Int),acc++(a.drop (k+1)).map (uT t (a[k]'hlt)))else .inr (.inr (aFC,[],false))):=by
    unfold dI
    simp only[aUM]
    rw[aUs (by omega),e0]
    simp only[aUp,w1,row]
    by_cases c:aFY t a[k] (a.drop (k+1))
    · rw[aUs c,aUs c]
    · rw[aUq c,aUq c]
   by_cases c:aFY t a[k] (a.drop (k+1))
   · rw[aUs c]at st
     rw[aO st,ih (k+1) (by omega) _ (by rw[aUF,aUM,aV2];omega)]
     have:(∀ x∈(a.drop (k+1)).map (uT t a[k])++iC t (a.drop (k+1)),ValidL x)↔∀ x∈iC t (a.drop (k+1)),ValidL x:=⟨fun h x hx=>h x (aU8 _ hx),fun h x hx=>by
      rcases aUz.1 hx with hx | hx
      · obtain⟨y,hy,rfl⟩:=aUJ.1 hx;exact c y hy
      · exact h x hx⟩
     simp only[this,aUO]
   · rw[aUq c]at st
     rw[aG st,aUq]
     intro h
     exact c fun y hy=>h _ (aVe _ (aUJ.2 ⟨y,hy,rfl⟩))
 have:=main a.length 0 (by omega) [] (by simp)
 rw[show((0:Nat):Int)=0 from rfl,aVn,aUx]at this
 exact this
theorem aQW {s:List Link}(hs:LSet s)(v:Int):kI s v=some (pkE (yX v s)):=by
 have ha:=aHb hs v
 have hl:=aCz hs v
 have ht:=aAJ ha
 obtain⟨b,b1,b2,_⟩:=aJq _ (aJj (v:=v) ha hl)
 unfold kI
 have e0:((if v<1 then some true else some (decide (10<=v))):Option Bool)=some (!decide (1<=v/\v<=9)):=by
  by_cases A:v<1
  · have:¬1<=v:=by omega
    simp[A,this]
  · by_cases B:10<=v
    · have:¬v<=9:=by omega
      simp[A,B,this]
    · have h1:1<=v:=by omega
      have h2:v<=9:=by omega
      simp[A,B,h1,h2]
 rw[e0]
 simp only[aUp]
 by_cases c:1<=v/\v<=9
 · rw[aUu c]
   simp only[aVj,aUv,aUT]
   rw[bS 0 (by omega)]
   simp only[aUp]
   rw[aLJ hs v]
   simp only[aUp]
   rw[aNT ht ha hl]
   simp only[aUp]
   have e:(Conditional.mk v (rM (bM v s)) ((bM v s).map (fG (rM (bM v s)))))=aCX v (bM v s):=rfl
   rw[e,b2]
   simp only[aUp]
   cases b with
   | false =>
    have:¬condOk v (bM v s):=by unfold condOk;rw[b1];simp
    rw[aCv (fun h=>this h.2.1)];rfl
   | true =>
    have hc:condOk v (bM v s):=b1
    simp only[aUK]
    rw[aLI ht ha hl]
    by_cases d:∀ x∈iC (rM (bM v s)) (bM v s),ValidL x
    · rw[aUs d,aJh ⟨c,hc,d⟩];rfl
    · rw[aUq d,aCv (fun h=>d h.2.2)];rfl
 · rw[aUt c]
   rw[aCv (fun h=>c h.1)];rfl
/- Reducing a node of a link set and a node of a tree, both programs. -/
theorem wi1 {k:Nat}(h:k<=4294967296):IntKind.i64.wrap ((k:Int)+1)=((k+1:Nat):Int):=by rw[wi (by omega)];omega
def zL (v:Int)(s:List Link):List Link:=s.filter (fun l=>!tch v l)
theorem xY {α:Type}(p:α->Bool):∀ (l t:List α),l.foldl (fun t x=>if p x=true then t++[x]else t) t=t++l.filter p
 | [],t=>by simp
 | x::l,t=>by
  rw[aVw,xY p l,aUY]
  by_cases c:p x=true
  · simp only[c,aUK,aUO,aVK]
  · simp only[Bool.not_eq_true]at c;simp[c]
theorem aRn (v:Int)(l:Link):((if l.fA≠v then some (decide (l.fB≠v))else some false):Option Bool)=some (!tch v l):=by
 unfold tch;by_cases A:l.fA=v <;> by_cases B:l.fB=v <;> simp[A,B]
theorem aNg {s:List Link}(h:s.length<=4294967296)(v:Int):mK s v=some (zL v s):=by
 have:=(iF (step:=jB s v) s (fun k t=>((k:Int),t)) (fun t x=>if(fun l=>!tch v l) x=true then t++[x]else t) (fun t=>t) (fun k t=>t.length<=k) (fun k t hk hi=>by
  constructor
  · unfold jB
    simp only[]
    rw[aUs (by omega),aH hk]
    simp only[aUp,aRn,wi1 (by omega:k<=4294967296)]
    by_cases c:tch v s[k]=true
    · rw[aUq (by simp[c]),aUq (by simp[c])]
    · rw[aUs (by simpa using c),aUs (by simpa using c),aI (by omega)];rfl
  · simp only[];split
    · rw[aUF,aU5];omega
    · omega) (fun t _=>by unfold jB;simp only[];rw[aUq (by omega)]) [] (aVk _)).1
 rw[show((0:Nat):Int)=0 from rfl,xY,aUx]at this
 unfold mK
 rw[this];rfl
theorem aN1 {s:List Link}(hs:LSet s)(v:Int):uX s v=some (zL v s):=by
 have hl:=hs.len
 have:=(iF (step:=lW s v) s (fun k t=>((k:Int),t)) (fun t x=>if(fun l=>!tch v l) x=true then t++[x]else t) (fun t=>t) (fun k t=>t.length<=k) (fun k t hk hi=>by
  constructor
  · unfold lW
    simp only[]
    rw[aUs (by omega),aH hk]
    have cp:=tM s[k] (by have:=(hs.1 _ (aUA hk)).sz;omega)
    simp only[aUp,aRn,wi1 (by omega:k<=4294967296),cp]
    by_cases c:tch v s[k]=true
    · rw[aUq (by simp[c]),aUq (by simp[c])]
    · rw[aUs (by simpa using c),aUs (by simpa using c),aI (by omega)];rfl
  · simp only[];split
    · rw[aUF,aU5];omega
    · omega) (fun t _=>by unfold lW;simp only[];rw[aUq (by omega)]) [] (aVk _)).1
 rw[show((0:Nat):Int)=0 from rfl,xY,aUx]at this
 unfold uX
 rw[lO s (by have:=hs.sz;omega),aUu hs]
 simp only[aUp,aUK,this]
 rfl
noncomputable def aEn (v:Int)(s:List Link):Option (Conditional×List Link×Rat) :=
 (yX v s).bind fun x=>(jnP (zL v s++x.2)).map fun y=>(x.1,y.1,y.2)
def pkR:Option (Conditional×List Link×Rat)->Conditional×List Link×Rat×Bool
 | some (c,m,e)=>(c,m,e,true)
 | none=>(aFC,[],nY,false)
theorem aKv {v:Int}{s:List Link}(hs:LSet s){c:Conditional}{m:List Link}(h:yX v s=some (c,m)):(∀ x∈m,ValidL x)/\m.length<=10000/\aW c<=20000/\(1<=v/\v<=9):=by
 unfold yX at h
 split at h
 · rename_i g
   cases h
   have ha:=aHb hs v
   have hl:=aCz hs v
   have h1:=aGw (rM (bM v s)) (a:=bM v s) (aUI _)
   have h2:(bM v s).length*(bM v s).length<=100*100:=aUX hl hl
   have g1:=nC (aAJ ha)
   have g2:pO ((bM v s).map (fG (rM (bM v s))))<=145*((bM v s).map (fG (rM (bM v s)))).length:=aEk (c:=144) (fun p hp=>by
    obtain⟨x,hx,rfl⟩:=aUJ.1 hp
    have ho:=ha x hx
    have g1:=nC (aHm ho.2.1 (aAJ ha)).2.2
    have g2:=nC ho.2.2.1
    have g3:=nC ho.2.2.2
    unfold nD fG;simp only[];omega)
   rw[aUM]at g2
   refine⟨g.2.2,by omega,?_,g.1⟩
   unfold aW aCX;simp only[];omega
 · cases h
theorem aOr {v:Int}{s:List Link}(hs:LSet s):(∀ x∈zL v s,ValidL x)/\(zL v s).length<=100:=by
 have:=aWp (fun l=>!tch v l) s
 have:=hs.len
 exact⟨fun x hx=>hs.1 x (aUy.1 hx).1,by unfold zL;omega⟩
theorem aF2 {s:List Link}(hs:LSet s)(v:Int):xB s v=some (pkR (aEn v s))/\oG s v=some (pkR (aEn v s)):=by
 unfold xB oG aEn
 rw[aQV hs,aQW hs]
 cases h:yX v s with
 | none=>exact⟨rfl,rfl⟩
 | some x =>
  obtain⟨c,m⟩:=x
  obtain⟨m1,m2,m3,_⟩:=aKv hs h
  obtain⟨r1,r2⟩:=aOr (v:=v) hs
  have hall:∀ x∈zL v s++m,ValidL x:=fun x hx=>(aUz.1 hx).elim (r1 x) (m1 x)
  have hlen:(zL v s++m).length<=20000:=by rw[aUF];omega
  have hsz:=aCc hall
  have j1:=(zQ (zL v s++m) (by omega)).1
  have j2:=aBU hall (by omega)
  simp only[pkE,aUp,aUK]
  rw[aN1 hs,aNg (by have:=hs.len;omega)]
  simp only[aUp]
  rw[aI (by omega)]
  simp only[aUp,vH,j1,j2]
  cases jnP (zL v s++m)with
  | none=>exact⟨rfl,rfl⟩
  | some y=>exact⟨rfl,rfl⟩
theorem aIS {v:Int}{s:List Link}(hs:LSet s){c:Conditional}{m:List Link}{e:Rat}(h:aEn v s=some (c,m,e)):aW c<=20000/\LSet m/\bK e/\c.fNode=v:=by
 unfold aEn at h
 cases h1:yX v s with
 | none=>rw[h1]at h;cases h
 | some x =>
  rw[h1]at h
  cases h2:jnP (zL v s++x.2)with
  | none=>rw[aUp,h2]at h;cases h
  | some y =>
   rw[aUp,h2]at h
   cases h
   have:=aDc (s:=y.1) (e:=y.2) h2
   refine⟨(aKv hs (c:=x.1) (m:=x.2) h1).2.2.1,this.2.1,this.2.2,?_⟩
   unfold yX at h1
   split at h1
   · cases h1;rfl
   · cases h1
/- A node of a tree, both programs. -/
open IntKind
def aP (l s:List Int):Int:=(l.find? (fun u=>decide (u∈s))).getD 0
theorem aMY (l s:List Int)(hl:l.length<=4294967296)(hs:s.length<=4294967296):vT l s=some (aP l s):=by
 have main:∀ m k:Nat,m+k=l.length->lp (jP l s) (k:Int)=some (match (l.drop k).find? (fun u=>decide (u∈s))with | some x=>.inr x | none=>.inl ()):=by
  intro m
  induction m with
  | zero =>
   intro k hk
   have:k=l.length:=by omega
   subst this
   rw[aG (r:=.inl ()) (by unfold jP;rw[aUq (by omega)]),aVO];rfl
  | succ m ih =>
   intro k hk
   have hlt:k<l.length:=by omega
   rw[aUw hlt,aWR]
   by_cases c:l[k]∈s
   · rw[aG (r:=.inr l[k]) (by unfold jP;rw[aUs (by omega),aH hlt];simp[aDR s _ hs,c])];simp[c]
   · have e:jP l s (k:Int)=some (.inl ((k+1:Nat):Int)):=by
      unfold jP;rw[aUs (by omega),aH hlt];simp only[aUp,aDR s _ hs,wi1 (by omega:k<=4294967296)];simp[c]
     rw[aO e,ih (k+1) (by omega)]
     simp only[c,aVZ]
 have:=main l.length 0 (by omega)
 rw[show((0:Nat):Int)=0 from rfl,aVn]at this
 unfold vT aP
 rw[this]
 cases l.find? (fun u=>decide (u∈s)) <;> rfl
def aGf (c:Conditional):List Int:=c.fParents.map (·.fNode)
def upP (order:List Int)(c:Conditional):Int:=aP order (aGf c)
theorem aGY {α:Type}{p q:α->Bool}:∀ {l:List α},(∀ x∈l,p x=q x)->l.find? p=l.find? q
 | [],_=>rfl
 | x::l,h=>by rw[aWR,aWR,h x (by simp),aGY (fun y hy=>h y (by simp[hy]))]
theorem aT5 {order:List Int}{c:Conditional}(ho:∀ u∈order,1<=u)(hl:order.length<=4294967296)(hc:c.fParents.length<=4294967296):aC2 order c=some (upP order c):=by
 have:=(iF (step:=vQ c) c.fParents (fun k t=>((k:Int),t)) (fun t x=>if(fun p:Parent=>decide (0<p.fNode)) x=true then t++[x.fNode]else t) (fun t=>t) (fun k t=>t.length<=k) (fun k t hk hi=>by
  constructor
  · unfold vQ
    simp only[]
    rw[aUs (by omega),aH hk]
    simp only[aUp,wi1 (by omega:k<=4294967296)]
    by_cases c0:0<(c.fParents[k]).fNode
    · rw[aUs c0,aUs (by simpa using c0),aI (by omega)];rfl
    · rw[aUq c0,aUq (by simpa using c0)]
  · simp only[];split
    · rw[aUF,aU5];omega
    · omega) (fun t _=>by unfold vQ;simp only[];rw[aUq (by omega)]) [] (aVk _)).1
 rw[show((0:Nat):Int)=0 from rfl]at this
 have e:∀ (l:List Parent) (t:List Int),l.foldl (fun t x=>if(fun p:Parent=>decide (0<p.fNode)) x=true then t++[x.fNode]else t) t=t++(l.filter (fun p=>decide (0<p.fNode))).map (·.fNode):=by
  intro l
  induction l with
  | nil=>intro t;simp
  | cons x l ih =>
   intro t
   rw[aVw,ih,aUY]
   by_cases c0:0<x.fNode <;> simp[c0]
 rw[e,aUx]at this
 unfold aC2
 rw[this]
 simp only[aUp]
 have hf:=aWp (fun p:Parent=>decide (0<p.fNode)) c.fParents
 rw[aMY _ _ hl (by rw[aUM];omega)]
 simp only[aUp]
 congr 1
 unfold upP aP
 congr 1
 refine aGY fun u hu=>?_
 have:=ho u hu
 rw[Bool.eq_iff_iff,aWx,aWx]
 unfold aGf
 simp only[aUJ,aUy,aVb]
 constructor
 · rintro⟨p,⟨h1,_⟩,rfl⟩;exact⟨p,h1,rfl⟩
 · rintro⟨p,h1,rfl⟩;exact⟨p,⟨h1,by omega⟩,rfl⟩
theorem aE0 (c:Conditional)(v:Int)(h:c.fParents.length<=4294967296):qH c v=some (decide (v∈aGf c)):=by
 have main:∀ m k:Nat,m+k=c.fParents.length->lp (fS c v) (k:Int)=some (if v∈(c.fParents.drop k).map (·.fNode)then .inr true else .inl ()):=by
  intro m
  induction m with
  | zero =>
   intro k hk
   have:k=c.fParents.length:=by omega
   subst this
   rw[aG (r:=.inl ()) (by unfold fS;rw[aUq (by omega)]),aVO];simp
  | succ m ih =>
   intro k hk
   have hlt:k<c.fParents.length:=by omega
   rw[aUw hlt,aUH]
   by_cases d:(c.fParents[k]).fNode=v
   · rw[aG (r:=.inr true) (by unfold fS;rw[aUs (by omega),aH hlt];simp[d]),aUs (by simp[d])]
   · have e:fS c v (k:Int)=some (.inl ((k+1:Nat):Int)):=by
      unfold fS;rw[aUs (by omega),aH hlt];simp only[aUp,wi1 (by omega:k<=4294967296)];rw[aUq d]
     rw[aO e,ih (k+1) (by omega)]
     have:(v∈(c.fParents[k]).fNode::(c.fParents.drop (k+1)).map (·.fNode))↔v∈(c.fParents.drop (k+1)).map (·.fNode):=by
      rw[aUr];exact⟨fun h=>h.resolve_left (fun e=>d e.symm),.inr⟩
     simp only[this]
 have:=main c.fParents.length 0 (by omega)
 rw[show((0:Nat):Int)=0 from rfl,aVn]at this
 unfold qH aGf
 rw[this]
 by_cases d:v∈c.fParents.map (·.fNode)
 · rw[aUs d,aUu d];rfl
 · rw[aUq d,aUt d];rfl
theorem aTa (order:List Int)(v:Int)(own:List Link)(r:Conditional×List Link×Rat×Bool)(e:Rat)(hl:order.length<=4294967296)(hc:r.1.fParents.length<=4294967296):lp (eH order v own r e) 0=some (TreeNode.mk v (upP order r.1) own r.1 r.2.1 e):=by
 have main:∀ m k:Nat,m+k=order.length->lp (eH order v own r e) (k:Int)=some (TreeNode.mk v (aP (order.drop k) (aGf r.1)) own r.1 r.2.1 e):=by
  intro m
  induction m with
  | zero =>
   intro k hk
   have:k=order.length:=by omega
   subst this
   rw[aG (by unfold eH;rw[aUq (by omega)]),aVO];rfl
  | succ m ih =>
   intro k hk
   have hlt:k<order.length:=by omega
   rw[aUw hlt]
   unfold aP
   rw[aWR]
   by_cases d:order[k]∈aGf r.1
   · rw[aG (r:=TreeNode.mk v order[k] own r.1 r.2.1 e) (by unfold eH;rw[aUs (by omega),aH hlt];simp only[aUp,aE0 _ _ hc,aUu d,aUK])]
     simp[d]
   · have e:eH order v own r e (k:Int)=some (.inl ((k+1:Nat):Int)):=by
      unfold eH;rw[aUs (by omega),aH hlt];simp only[aUp,aE0 _ _ hc,wi1 (by omega:k<=4294967296),aUt d,aUv,aUT]
     rw[aO e,ih (k+1) (by omega)]
     simp only[d,aVZ]
     rfl
 have:=main order.length 0 (by omega)
 rw[show((0:Nat):Int)=0 from rfl,aVn]at this
 exact this
def aA1 (v:Int)(b:List TreeNode):List Link:=(b.filter (fun n=>decide (n.fUp=v))).flatMap (·.fMessages)
theorem aJ0 (v:Int):∀ (b:List TreeNode) (t:List Link),b.foldl (fun t n=>if n.fUp=v then t++n.fMessages else t) t=t++aA1 v b
 | [],t=>by simp[aA1]
 | n::b,t=>by
  rw[aVw,aJ0 v b]
  unfold aA1
  rw[aUY]
  by_cases c:n.fUp=v <;> simp[c]
theorem aMA {v:Int}:∀ {b:List TreeNode},(∀ n∈b,LSet n.fMessages)->(aA1 v b).length<=100*b.length
 | [],_=>by simp[aA1]
 | n::b,h=>by
  have:=aMA (v:=v) (b:=b) (fun m hm=>h m (by simp[hm]))
  have h1:=(h n (by simp)).len
  unfold aA1 at this ⊢
  rw[aUY,aUC]
  split
  · rw[aVc,aUF];omega
  · omega
theorem aNz {v:Int}{b:List TreeNode}(h:∀ n∈b,LSet n.fMessages):∀ x∈aA1 v b,ValidL x:=by
 intro x hx
 unfold aA1 at hx
 obtain⟨n,hn,hx⟩:=aVN.1 hx
 exact(h n (aUy.1 hn).1).1 x hx
theorem aRu {step:(Int×List Link)->Option ((Int×List Link) ⊕ List Link)}(v:Int)(b:List TreeNode)(own:List Link)(ho:own.length<=4294967296)(hb:b.length<=4194304)(h:∀ n∈b,LSet n.fMessages)
 (hstep:step=fun s=>match s with | (v6,v7)=>(if(v6<(b.length:Int))then(idx b v6).bind fun y8=>(if(y8.fUp=v)then(chk ((v7.length+y8.fMessages.length)*184<=140737488355328)).bind fun _u=>(aS (v7++y8.fMessages)).bind fun v10=>some (.inl (i64.wrap (v6+1),v10))else some (.inl (i64.wrap (v6+1),v7)))else some (.inr v7))):lp step (0,own)=some (own++aA1 v b):=by
 subst hstep
 have:=(iF (step:=fun s=>match s with | (v6,v7)=>(if(v6<(b.length:Int))then(idx b v6).bind fun y8=>(if(y8.fUp=v)then(chk ((v7.length+y8.fMessages.length)*184<=140737488355328)).bind fun _u=>(aS (v7++y8.fMessages)).bind fun v10=>some (.inl (i64.wrap (v6+1),v10))else some (.inl (i64.wrap (v6+1),v7)))else some (.inr v7))) b (fun k t=>((k:Int),t)) (fun t n=>if n.fUp=v then t++n.fMessages else t) (fun t=>t) (fun k t=>t.length<=4294967296+100*k) (fun k t hk hi=>by
  have hm:=(h _ (aUA hk)).len
  constructor
  · simp only[]
    rw[aUs (by omega),aH hk]
    simp only[aUp,wi1 (by omega:k<=4294967296)]
    by_cases c:(b[k]).fUp=v
    · rw[aUs c,aUs c,aI (by omega)];rfl
    · rw[aUq c,aUq c]
  · split
    · rw[aUF];omega
    · omega) (fun t _=>by simp only[];rw[aUq (by omega)]) own (by omega)).1
 rw[show((0:Nat):Int)=0 from rfl,aJ0]at this
 exact this
def aS8:TreeNode:=TreeNode.mk 0 0 ([]) (Conditional.mk 0 (Rat.mk (BigInt.mk false ([])) ([])) ([])) ([]) (Rat.mk (BigInt.mk false ([])) ([]))
noncomputable def rR (order:List Int)(v:Int)(own:List Link)(b:List TreeNode):Option TreeNode :=
 (jnP (own++aA1 v b)).bind fun x=>(aEn v x.1).bind fun y=>if bK (RA x.2 y.2.2)then some ⟨v,upP order y.1,own,y.1,y.2.1,RA x.2 y.2.2⟩else none
def pkN:Option TreeNode->TreeNode×Bool
 | some n=>(n,true)
 | none=>(aS8,false)
theorem aQw {c:Conditional}(h:aW c<=20000):c.fParents.length<=20000:=by
 have:c.fParents.length<=pO c.fParents:=qR _ _
 unfold aW at h;omega
theorem aMf (a b:List Link):aK (a++b)=aK a+aK b:=by unfold aK szL;simp
theorem aOP {order:List Int}{v:Int}{own:List Link}{b:List TreeNode}(hl:order.length<=4194304)(ho:∀ u∈order,1<=u)(hz:aK own<=4194304)(hb:b.length<=100)(hm:∀ n∈b,LSet n.fMessages)(hv:∀ x∈own,ValidL x) :
 aAL v own order b=some (pkN (rR order v own b))/\qJ ⟨b⟩ order v own=some (pkN (rR order v own b)):=by
 have hol:own.length<=4194304:=aUE (qR _ _) hz
 have q1:=aRu (step:=aBb v b) v b own (by omega) (by omega) hm rfl
 have q2:=aRu (step:=uE ⟨b⟩ v) v b own (by omega) (by omega) hm rfl
 have hmv:=aNz (v:=v) hm
 have hml:=aMA (v:=v) hm
 have hall:∀ x∈own++aA1 v b,ValidL x:=fun x hx=>(aUz.1 hx).elim (hv x) (hmv x)
 have hms:=aCc hmv
 have hsz:aK (own++aA1 v b)<=4294967296:=by rw[aMf];omega
 have hln:(own++aA1 v b).length<=4294967296:=by rw[aUF];omega
 have j1:=(zQ (own++aA1 v b) hsz).1
 have j2:=aBU hall hln
 unfold aAL qJ rR
 rw[aCJ own (by omega)]
 simp only[aUp,aUx,aVu]
 rw[aI (by omega),q1]
 simp only[aUp,vH]
 rw[q2,j1]
 simp only[aUp,j2]
 cases h:jnP (own++aA1 v b)with
 | none =>
  simp only[pk,Option.bind_none,pkN]
  refine⟨?_,rfl⟩
  rw[(aF2 aCb v).1]
  have e0:bO (pkR (aEn v [])).2.2.1<=4294967296:=by
   cases h2:aEn v []with
   | none=>exact VZs aCG
   | some y=>exact VZs (.inl (aIS aCb (c:=y.1) (m:=y.2.1) (e:=y.2.2) h2).2.2.1)
  simp only[aUp]
  rw[(aUm (VZs aCG) e0).1]
  rfl
 | some x =>
  obtain⟨s,e⟩:=x
  obtain⟨_,hs,he⟩:=aDc h
  simp only[pk,aUp,aUK]
  rw[(aF2 hs v).1,(aF2 hs v).2]
  simp only[aUp]
  cases h2:aEn v s with
  | none =>
   simp only[pkR,Option.bind_none,pkN]
   rw[(aBp (.inl he) aCG).1,(aBp (.inl he) aCG).2.1]
   exact⟨rfl,rfl⟩
  | some y =>
   obtain⟨c,m,f⟩:=y
   obtain⟨k1,k2,k3,_⟩:=aIS hs h2
   have ra:=aBp (.inl he) (.inl k3)
   have hp:=aQw k1
   simp only[pkR,aUp,ra.1,ra.2.1,aUK]
   rw[dR _ (VZs ra.2.2),hY ra.2.2,aT5 ho (by omega) (by omega),aTa order v own (c,m,f,true) (RA e f) (by omega) (by show c.fParents.length<=_;omega)]
   simp only[aUp]
   by_cases g:bK (RA e f)
   · rw[aUu g,aUs g];exact⟨rfl,rfl⟩
   · rw[aUt g,aUq g];exact⟨rfl,rfl⟩
theorem aGm {order:List Int}{v:Int}{own:List Link}{b:List TreeNode}{n:TreeNode}(h:rR order v own b=some n):LSet n.fMessages/\n.fOwn=own/\aW n.fCond<=20000/\bK n.fEnergy/\n.fNode=v/\n.fUp=upP order n.fCond:=by
 unfold rR at h
 cases h1:jnP (own++aA1 v b)with
 | none=>rw[h1]at h;cases h
 | some x =>
  rw[h1,aUp]at h
  cases h2:aEn v x.1 with
  | none=>rw[h2]at h;cases h
  | some y =>
   rw[h2,aUp]at h
   obtain⟨_,hs,he⟩:=aDc (s:=x.1) (e:=x.2) h1
   obtain⟨k1,k2,k3,_⟩:=aIS hs (c:=y.1) (m:=y.2.1) (e:=y.2.2) h2
   split at h
   · rename_i g;cases h;exact⟨k2,rfl,k1,g,rfl,rfl⟩
   · cases h
/- The nodes of a link set, orders of elimination, whose a link is, both programs. -/
def aC4:List Int:=(List.range 9).map (fun k:Nat=>(k:Int)+1)
theorem aGn {x:Int}:x∈aC4↔1<=x/\x<=9:=by
 unfold aC4
 simp only[aUJ,aVH]
 constructor
 · rintro⟨k,h,rfl⟩;omega
 · intro h;exact⟨(x-1).toNat,by omega,by omega⟩
theorem aGo:aC4.length=9:=by decide
theorem aOR (k:Nat)(h:k<aC4.length):aC4[k]=(k:Int)+1:=by simp[aC4]
def gQ (s:List Link):List Int:=aC4.filter (fun v=>s.any (tch v))
theorem aGl (s:List Link):(gQ s).Pairwise (· < ·):=by
 have:aC4.Pairwise (· < ·):=by decide
 exact this.sublist List.filter_sublist
theorem aAX (s:List Link):(gQ s).length<=9:=by
 have:=aWp (fun v=>s.any (tch v)) aC4
 rw[aGo]at this;exact this
theorem aGk {s:List Link}{x:Int}:x∈gQ s↔(1<=x/\x<=9)/\∃ l∈s,l.fA=x\/l.fB=x:=by
 unfold gQ
 rw[aUy,aGn,aWn]
 simp only[tch,aVb]
def aHv (t:List Int)(l:Link):List Int:=aBk (if 0<l.fA then aBk t l.fA else t) l.fB
theorem aJO {t:List Int}(l:Link)(h:t.Pairwise (· < ·)):(aHv t l).Pairwise (· < ·):=by
 unfold aHv;split
 · exact wK _ _ (wK _ _ h)
 · exact wK _ _ h
theorem aOy {t:List Int}{l:Link}{x:Int}:x∈aHv t l↔x=l.fB\/(x=l.fA/\0<x)\/x∈t:=by
 unfold aHv;split
 · rw[aAm,aAm]
   constructor
   · rintro(h | h | h)
     · exact .inl h
     · exact .inr (.inl ⟨h,by omega⟩)
     · exact .inr (.inr h)
   · rintro(h | ⟨h,_⟩ | h)
     · exact .inl h
     · exact .inr (.inl h)
     · exact .inr (.inr h)
 · rw[aAm]
   constructor
   · rintro(h | h)
     · exact .inl h
     · exact .inr (.inr h)
   · rintro(h | ⟨h,_⟩ | h)
     · exact .inl h
     · omega
     · exact .inr h
theorem aOz (t:List Int)(l:Link):(aHv t l).length<=t.length+2:=by
 unfold aHv;split
 · have:=aAn (aBk t l.fA) l.fB;have:=aAn t l.fA;omega
 · have:=aAn t l.fB;omega
theorem aIf:∀ (s:List Link) (t:List Int) (x:Int),x∈s.foldl aHv t↔x∈t\/∃ l∈s,x=l.fB\/(x=l.fA/\0<x)
 | [],t,x=>by simp
 | l::s,t,x=>by
  rw[aVw,aIf s,aOy]
  simp only[aUr,exists_eq_or_imp]
  constructor
  · rintro((h | h | h) | h)
    · exact .inr (.inl (.inl h))
    · exact .inr (.inl (.inr h))
    · exact .inl h
    · exact .inr (.inr h)
  · rintro(h | (h | h) | h)
    · exact .inl (.inr (.inr h))
    · exact .inl (.inl h)
    · exact .inl (.inr (.inl h))
    · exact .inr h
theorem aDZ:∀ (s:List Link) (t:List Int),t.Pairwise (· < ·)->(s.foldl aHv t).Pairwise (· < ·)
 | [],t,h=>h
 | l::s,t,h=>aDZ s _ (aJO l h)
theorem aN3 {s:List Link}(hs:LSet s):aAO s=some (gQ s):=by
 have hl:=hs.len
 have:=(iF (step:=sF s) s (fun k t=>(t,(k:Int))) aHv (fun t=>t) (fun k t=>t.length<=2*k) (fun k t hk hi=>by
  constructor
  · unfold sF
    simp only[]
    rw[aUs (by omega),aH hk]
    simp only[aUp,wi1 (by omega:k<=4294967296)]
    unfold aHv
    by_cases c:0<(s[k]).fA
    · rw[aUs c,aUs c,aJN _ _ (by omega)]
      simp only[aUp]
      rw[aJN _ _ (by have:=aAn t (s[k]).fA;omega)];rfl
    · rw[aUq c,aUq c]
      simp only[aUp]
      rw[aJN _ _ (by omega)];rfl
  · have:=aOz t s[k];omega) (fun t _=>by unfold sF;simp only[];rw[aUq (by omega)]) [] (aVk _)).1
 rw[show((0:Nat):Int)=0 from rfl]at this
 unfold aAO
 rw[lO s (by have:=hs.sz;omega),aUu hs]
 simp only[aUp,aUK,this]
 congr 1
 refine aC1 (aDZ _ _ List.Pairwise.nil) (aGl s) fun x=>?_
 rw[aIf,aGk]
 constructor
 · rintro(h | ⟨l,hl,h⟩)
   · cases h
   · have v:=hs.1 l hl
     rcases h with rfl | ⟨rfl,h0⟩
     · exact⟨⟨by have:=v.2.2.1;have:=v.1.1;omega,v.2.1.2⟩,l,hl,.inr rfl⟩
     · exact⟨⟨by omega,v.1.2⟩,l,hl,.inl rfl⟩
 · rintro⟨h1,l,hl,h⟩
   refine .inr ⟨l,hl,?_⟩
   rcases h with h | h
   · exact .inr ⟨h.symm,by omega⟩
   · exact .inl h.symm
theorem aLo {s:List Link}(hs:s.length<=4294967296)(v:Int)(t:List Int)(ht:t.length<=1000):lp (gE s v t) 0=some (if s.any (tch v)=true then t++[v]else t):=by
 have main:∀ m k:Nat,m+k=s.length->lp (gE s v t) (k:Int)=some (if(s.drop k).any (tch v)=true then t++[v]else t):=by
  intro m
  induction m with
  | zero =>
   intro k hk
   have:k=s.length:=by omega
   subst this
   rw[aG (r:=t) (by unfold gE;rw[aUq (by omega)]),aVO];rfl
  | succ m ih =>
   intro k hk
   have hlt:k<s.length:=by omega
   have e0:((if(s[k]).fA=v then some true else some (decide ((s[k]).fB=v))):Option Bool)=some (tch v s[k]):=by
    unfold tch;by_cases A:(s[k]).fA=v <;> by_cases B:(s[k]).fB=v <;> simp[A,B]
   rw[aUw hlt,List.any_cons]
   by_cases c:tch v s[k]=true
   · rw[aG (r:=t++[v]) (by unfold gE;rw[aUs (by omega),aH hlt];simp only[aUp,e0,c,aUK];rw[aI (by omega)];rfl)]
     simp[c]
   · have e:gE s v t (k:Int)=some (.inl ((k+1:Nat):Int)):=by
      unfold gE;rw[aUs (by omega),aH hlt];simp only[aUp,e0,wi1 (by omega:k<=4294967296)];rw[aUq c]
     rw[aO e,ih (k+1) (by omega)]
     simp only[Bool.not_eq_true]at c
     simp[c]
 have:=main s.length 0 (by omega)
 rw[show((0:Nat):Int)=0 from rfl,aVn]at this
 exact this
theorem aH2 {s:List Link}(hs:s.length<=4294967296):rA s=some (gQ s):=by
 have:=(iF (step:=oH s) aC4 (fun k t=>((k:Int)+1,t)) (fun t v=>if(fun v=>s.any (tch v)) v=true then t++[v]else t) (fun t=>t) (fun k t=>t.length<=k) (fun k t hk hi=>by
  have hk9:k<9:=by rw[aGo]at hk;exact hk
  constructor
  · unfold oH
    simp only[]
    rw[aUs (by omega),aLo hs _ _ (by omega),aOR]
    have w:IntKind.i64.wrap ((k:Int)+1+1)=((k+1:Nat):Int)+1:=by rw[wi (by omega)];omega
    simp only[aUp,w]
  · simp only[];split
    · rw[aUF,aU5];omega
    · omega) (fun t _=>by unfold oH;simp only[];rw[aGo,aUq (by omega)]) [] (aVk _)).1
 rw[show((0:Nat):Int)+1=1 from rfl,xY,aUx]at this
 unfold rA
 rw[this];rfl
def isOrd (s:List Link)(o:List Int):Prop:=o.Nodup/\(∀ y∈o,y∈gQ s)/\o.length=(gQ s).length
instance (s:List Link)(o:List Int):Decidable (isOrd s o):=by unfold isOrd;exact inferInstance
theorem aLl:∀ {a b:List Int},a.Nodup->(∀ x∈a,x∈b)->b.length<=a.length->b.Perm a
 | [],b,_,_,h=>by
  have:b=[]:=List.eq_nil_of_length_eq_zero (by simpa using h)
  rw[this]
 | x::a,b,hn,hs,h=>by
  rw[aUL]at hn
  have hx:=hs x (by simp)
  have p:=List.perm_cons_erase hx
  have hl:=p.length_eq
  rw[aUC]at hl h
  refine p.trans (List.Perm.cons x (aLl hn.2 (fun y hy=>?_) (by omega)))
  have:y≠x:=fun e=>hn.1 (e▸hy)
  exact(List.mem_erase_of_ne this).2 (hs y (by simp[hy]))
theorem aND {l:List Int}(h:l.Pairwise (· < ·)):l.Nodup:=h.imp (fun {a b} hab e=>by subst e;omega)
theorem aId (s:List Link)(o:List Int):isOrd s o↔(∀ v∈gQ s,v∈o)/\o.length=(gQ s).length:=by
 have hn:=aND (aGl s)
 constructor
 · rintro⟨h1,h2,h3⟩
   have p:=aLl h1 h2 (by omega)
   exact⟨fun v hv=>p.mem_iff.1 hv,h3⟩
 · rintro⟨h1,h2⟩
   have p:=aLl hn h1 (by omega)
   exact⟨p.nodup_iff.2 hn,fun y hy=>p.mem_iff.1 hy,h2⟩
theorem aGP {s:List Link}{o:List Int}(h:isOrd s o):o.length<=9/\(∀ u∈o,1<=u):=by
 have:=aAX s
 exact⟨by rw[h.2.2];exact this,fun u hu=>(aGk.1 (h.2.1 u hu)).1.1⟩
theorem aGZ {σ:Type}{step:σ->Option (σ ⊕ (Unit ⊕ Bool))}(n:Nat)(E:Nat->σ)(G:Nat->Prop)(h1:∀ k:Nat,k<n->(G k/\step (E k)=some (.inl (E (k+1))))\/(¬G k/\step (E k)=some (.inr (.inr false))))(h2:step (E n)=some (.inr (.inl ()))) :
 (lp step (E 0)=some (.inl ())/\∀ k,k<n->G k)\/(lp step (E 0)=some (.inr false)/\∃ k,k<n/\¬G k):=by
 have main:∀ m k:Nat,m+k=n->(lp step (E k)=some (.inl ())/\∀ j,k<=j->j<n->G j)\/(lp step (E k)=some (.inr false)/\∃ j,j<n/\¬G j):=by
  intro m
  induction m with
  | zero =>
   intro k hk
   have:k=n:=by omega
   subst this
   exact .inl ⟨aG h2,fun j _ _=>by omega⟩
  | succ m ih =>
   intro k hk
   rcases h1 k (by omega)with⟨g,e⟩ | ⟨g,e⟩
   · rw[aO e]
     rcases ih (k+1) (by omega)with⟨a,b⟩ | ⟨a,b⟩
     · refine .inl ⟨a,fun j h1 h2=>?_⟩
       by_cases e:j=k
       · subst e;exact g
       · exact b j (by omega) h2
     · exact .inr ⟨a,b⟩
   · exact .inr ⟨aG e,k,by omega,g⟩
 rcases main n 0 (by omega)with⟨a,b⟩ | ⟨a,b⟩
 · exact .inl ⟨a,fun j h=>b j (aVk _) h⟩
 · exact .inr ⟨a,b⟩
theorem aAW {l:List Int}:l.Nodup↔∀ k (h:k<l.length),l[k]∉l.take k:=by
 unfold List.Nodup
 rw[aW2]
 constructor
 · intro h k hk hm
   obtain⟨j,hj,e⟩:=aWY.1 hm
   rw[aVp]at hj
   rw[List.getElem_take]at e
   exact h j k (by omega) hk (by omega) e
 · intro h i j hi hj hij e
   refine h j hj ?_
   rw[<- e]
   exact aWY.2 ⟨i,by rw[aVp];omega,by rw[List.getElem_take]⟩
theorem aL7 {s:List Link}(hs:LSet s)(o:List Int)(ho:o.length<=4194304):aAP s o=some (decide (isOrd s o)):=by
 have hn:=aAX s
 unfold aAP
 rw[aN3 hs]
 simp only[aUp]
 have L:=aGZ (step:=sG o (gQ s)) o.length (fun k=>((k:Int),o.take k)) (fun k=>∀ h:k<o.length,o[k]∈gQ s/\o[k]∉o.take k) (fun k hk=>by
  have tl:(o.take k).length<=k:=by rw[aVp];omega
  have tk:o.take (k+1)=o.take k++[o[k]]:=by rw[aV4,aUG hk];rfl
  unfold sG
  simp only[]
  rw[aUs (by omega),aH hk]
  simp only[aUp,aDR (gQ s) _ (by omega),aDR (o.take k) _ (by omega),wi1 (by omega:k<=4294967296)]
  by_cases A:o[k]∈gQ s
  · by_cases B:o[k]∈o.take k
    · right
      refine⟨fun h=>(h hk).2 B,?_⟩
      rw[aUu A,aUu B];rfl
    · left
      refine⟨fun h=>⟨A,B⟩,?_⟩
      rw[aUu A,aUt B]
      simp only[aUK,aUp,aUv,aUT]
      rw[aI (by omega),tk];rfl
  · right
    refine⟨fun h=>A (h hk).1,?_⟩
    rw[aUt A];rfl) (by unfold sG;simp only[];rw[aUq (by omega)])
 simp only[aWr]at L
 rw[show((0:Nat):Int)=0 from rfl]at L
 rcases L with⟨e,g⟩ | ⟨e,k,hk,g⟩
 · rw[e]
   simp only[aUp]
   rw[lO s (by have:=hs.sz;omega),aUu hs]
   simp only[aUp,aUK]
   congr 1
   rw[Bool.eq_iff_iff,aWx,aWx]
   constructor
   · intro h
     refine⟨aAW.2 (fun k hk=>(g k hk hk).2),fun y hy=>?_,by omega⟩
     obtain⟨j,hj,rfl⟩:=aWY.1 hy
     exact(g j hj hj).1
   · intro h;rw[h.2.2]
 · rw[e]
   have:¬isOrd s o:=fun h=>g (fun hk=>⟨h.2.1 _ (aUA hk),aAW.1 h.1 k hk⟩)
   rw[aUt this];rfl
theorem aEe (s:List Link)(h:aK s<=4294967296):kK s=some (decide (LSet s)):=by
 rw[<- lO s h]
 unfold kK eQ
 have:lp (pJ s) 0=lp (fO s) 0:=by
  refine aO5 (fun _=>True) (fun v _=>⟨?_,fun _ _=>trivial⟩) _ trivial
  unfold pJ fO
  cases e:idx s v with
  | none=>rfl
  | some y =>
   have hy:y∈s:=List.mem_of_getElem? (aGS e).2.1
   have hz:=vN (w:=cG) hy
   unfold aK at h
   have q:=fL y (by omega)
   simp only[aUp,q.1,q.2,aK0,aHq]
 rw[this];rfl
theorem aL8 {s:List Link}(hs:LSet s)(o:List Int)(ho:o.length<=4194304):uI s o=some (decide (isOrd s o)):=by
 have hn:=aAX s
 unfold uI
 have il:kK s=some true:=by rw[aEe s (by have:=hs.sz;omega),aUu hs]
 rw[il,aH2 (by have:=hs.len;omega)]
 simp only[aUp,aUK]
 have L:=aGZ (step:=oO o (gQ s)) (gQ s).length (fun k=>(k:Int)) (fun k=>∀ h:k<(gQ s).length,(gQ s)[k]∈o) (fun k hk=>by
  unfold oO
  rw[aUs (by omega),aH hk]
  simp only[aUp,yW o _ (by omega),wi1 (by omega:k<=4294967296)]
  by_cases A:(gQ s)[k]∈o
  · exact .inl ⟨fun _=>A,by rw[aUu A];rfl⟩
  · exact .inr ⟨fun h=>A (h hk),by rw[aUt A];rfl⟩) (by unfold oO;rw[aUq (by omega)])
 rw[show((0:Nat):Int)=0 from rfl]at L
 rcases L with⟨e,g⟩ | ⟨e,k,hk,g⟩
 · rw[e]
   simp only[aUp]
   congr 1
   rw[Bool.eq_iff_iff,aWx,aWx,aId]
   constructor
   · intro h
     refine⟨fun v hv=>?_,by omega⟩
     obtain⟨j,hj,rfl⟩:=aWY.1 hv
     exact g j hj hj
   · intro h;rw[h.2]
 · rw[e]
   have:¬isOrd s o:=fun h=>g (fun hk=>((aId s o).1 h).1 _ (aUA hk))
   rw[aUt this];rfl
def pZ (o:List Int)(v:Int)(l:Link):Bool:=decide (aP o [l.fA,l.fB]=v)
theorem aQx (o:List Int)(l:Link)(h:o.length<=4294967296):zT o l=some (aP o [l.fA,l.fB]):=by
 unfold zT
 rw[aMY _ _ h (by simp)];rfl
theorem aNM {o s:List Int}{v:Int}(h:aP o s=v)(hv:v≠0):v∈s/\v∈o:=by
 unfold aP at h
 cases e:o.find? (fun u=>decide (u∈s))with
 | none=>rw[e]at h;exact absurd h.symm hv
 | some x =>
  rw[e]at h
  simp only[Option.getD_some]at h
  subst h
  exact⟨by simpa using List.find?_some e,List.mem_of_find?_eq_some e⟩
theorem aLF {o s:List Int}{k:Nat}(hk:k<o.length)(hn:o.Nodup)(h1:∀ u∈o,1<=u):aP o s=o[k]↔o[k]∈s/\∀ u∈o.take k,u∉s:=by
 have ef:o.find? (fun u=>decide (u∈s))=((o.take k).find? (fun u=>decide (u∈s))).or ((o[k]::o.drop (k+1)).find? (fun u=>decide (u∈s))):=by
  rw[<- List.find?_append,<- aUw hk,aVs]
 have hnt:=aAW.1 hn k hk
 constructor
 · intro h
   have hp:=h1 _ (aUA hk)
   refine⟨(aNM h (by omega)).1,fun u hu hus=>?_⟩
   unfold aP at h
   rw[ef]at h
   cases f:(o.take k).find? (fun u=>decide (u∈s))with
   | none =>
    rw[List.find?_eq_none]at f
    exact f u hu (by simpa using hus)
   | some x =>
    have hx:=List.mem_of_find?_eq_some f
    rw[f]at h
    simp only[Option.some_or,Option.getD_some]at h
    rw[h]at hx
    exact hnt hx
 · rintro⟨a,b⟩
   unfold aP
   rw[ef]
   have:(o.take k).find? (fun u=>decide (u∈s))=none:=by
    rw[List.find?_eq_none];intro u hu;simpa using b u hu
   rw[this,Option.none_or,aWR]
   simp[a]
/- The order of least degrees: what the program's loops yield. -/
open IntKind
theorem aTy {z:Int}(h:0<=z/\z<=9):chk ((0:Int)<=z/\z<((10:Nat):Int))=some ():=aI (by omega)
theorem aPg (s:List Link)(hs:∀ z∈s,(0<=z.fA/\z.fA<=9)/\(0<=z.fB/\z.fB<=9))(hl:s.length<=1000):∃ g,wP s=some g/\∀ x y:Int,(0<=x/\x<=9)->(0<=y/\y<=9)->(gf g x.toNat y.toNat=true↔∃ z∈s,(z.fA=x/\z.fB=y)\/(z.fA=y/\z.fB=x)):=by
 have main:∀ (m k:Nat) (g:Nat->Bool),m+k=s.length->(∀ x y:Int,(0<=x/\x<=9)->(0<=y/\y<=9)->(gf g x.toNat y.toNat=true↔∃ z∈s.take k,(z.fA=x/\z.fB=y)\/(z.fA=y/\z.fB=x)))->
  ∃ g',lp (qI s) ((k:Int),g)=some g'/\∀ x y:Int,(0<=x/\x<=9)->(0<=y/\y<=9)->(gf g' x.toNat y.toNat=true↔∃ z∈s,(z.fA=x/\z.fB=y)\/(z.fA=y/\z.fB=x)):=by
  intro m
  induction m with
  | zero =>
   intro k g hk hg
   have:k=s.length:=by omega
   subst this
   rw[aV1]at hg
   exact⟨g,aG (by unfold qI;simp only[];rw[aUq (by omega)]),hg⟩
  | succ m ih =>
   intro k g hk hg
   have hlt:k<s.length:=by omega
   obtain⟨ha,hb⟩:=hs _ (aUA hlt)
   have ht:s.take (k+1)=s.take k++[s[k]]:=by rw[aV4,aUG hlt];rfl
   obtain⟨g',e1,e2⟩:=ih (k+1) (uV (uV g ((s[k]).fA.toNat*10+(s[k]).fB.toNat*1) true) ((s[k]).fB.toNat*10+(s[k]).fA.toNat*1) true) (by omega) (fun x y hx hy=>by
    rw[aEi (by omega) (by omega),aEi (by omega) (by omega),ht]
    have key:(∃ z∈s.take k++[s[k]],(z.fA=x/\z.fB=y)\/(z.fA=y/\z.fB=x))↔(∃ z∈s.take k,(z.fA=x/\z.fB=y)\/(z.fA=y/\z.fB=x))\/(((s[k]).fA=x/\(s[k]).fB=y)\/((s[k]).fA=y/\(s[k]).fB=x)):=by
     constructor
     · rintro⟨z,hz,h⟩
       rcases aUz.1 hz with hz | hz
       · exact .inl ⟨z,hz,h⟩
       · rw[aU2.1 hz]at h;exact .inr h
     · rintro(⟨z,hz,h⟩ | h)
       · exact⟨z,aVe _ hz,h⟩
       · exact⟨s[k],aU8 _ (aU2.2 rfl),h⟩
    rw[key,<- hg x y hx hy]
    by_cases c1:x.toNat=(s[k]).fB.toNat/\y.toNat=(s[k]).fA.toNat
    · rw[aUs c1]
      simp only[true_iff]
      exact .inr (.inr (by omega))
    · rw[aUq c1]
      by_cases c2:x.toNat=(s[k]).fA.toNat/\y.toNat=(s[k]).fB.toNat
      · rw[aUs c2]
        simp only[true_iff]
        exact .inr (.inl (by omega))
      · rw[aUq c2]
        constructor
        · exact .inl
        · rintro(h | h)
          · exact h
          · exfalso;omega)
   refine⟨g',?_,e2⟩
   rw[aO,e1]
   unfold qI
   simp only[]
   rw[aUs (by omega),aH hlt]
   simp only[aUp]
   rw[aTy ha,aTy hb]
   simp only[aUp]
   rw[wi (n:=(k:Int)+1) (by omega)]
   rfl
 obtain⟨g',e1,e2⟩:=main s.length 0 (fun _=>false) (by omega) (fun x y _ _=>by simp[gf])
 refine⟨g',?_,e2⟩
 unfold wP
 rw[show((0:Nat):Int)=0 from rfl]at e1
 rw[e1];rfl
def dg (g:Nat->Bool)(v:Nat):Nat:=((List.range 10).filter (gf g v)).length
theorem aPD (g:Nat->Bool){v:Nat}(hv:v<10):fT g (v:Int)=some (dg g v:Int):=by
 have:=(iF (step:=iJ g v) (List.range 10) (fun k (t:Nat)=>((t:Int),(k:Int))) (fun t x=>if gf g v x=true then t+1 else t) (fun t=>(t:Int)) (fun k t=>t<=k) (fun k t hk hi=>by
  have hk':k<10:=by simpa using hk
  have e:(List.range 10)[k]'hk=k:=List.getElem_range ..
  constructor
  · unfold iJ
    simp only[]
    rw[aUs (by omega),aCY hk']
    simp only[aUp,aFc]
    have e2:g (v*10+k)=gf g v k:=by unfold gf;rw[Nat.mul_one]
    have w:i64.wrap ((k:Int)+1)=((k+1:Nat):Int):=wi (by omega)
    have w2:i64.wrap ((t:Int)+1)=((t+1:Nat):Int):=wi (by omega)
    rw[e2,w,w2,e]
    cases gf g v k <;> rfl
  · split <;> omega) (fun t _=>by unfold iJ;simp only[];rw[aUq (by simp)]) 0 (aVk _)).1
 have ct:∀ (l:List Nat) (t:Nat),l.foldl (fun t x=>if gf g v x=true then t+1 else t) t=t+(l.filter (gf g v)).length:=by
  intro l
  induction l with
  | nil=>intro t;rfl
  | cons x l ih =>
   intro t
   rw[aVw,ih,aUY]
   cases gf g v x
   · simp
   · simp;omega
 rw[ct,aUR]at this
 unfold fT
 rw[aCY hv]
 simp only[aUp]
 rw[show(((0:Nat):Int),((0:Nat):Int))=(0,0)from rfl]at this
 rw[this];rfl
theorem aIz (s:List Int)(hs:s.length<=1000)(v:Int):oE s v=some (s.filter fun x=>decide (x≠v)):=by
 have:=(iF (step:=kB s v) s (fun k t=>((k:Int),t)) (fun t x=>if(fun x=>decide (x≠v)) x=true then t++[x]else t) (fun t=>t) (fun k t=>t.length<=k) (fun k t hk hi=>by
  constructor
  · unfold kB
    simp only[]
    have w:i64.wrap ((k:Int)+1)=((k+1:Nat):Int):=wi (by omega)
    rw[aUs (by omega),aH hk,w]
    simp only[aUp]
    by_cases c:s[k]=v
    · rw[aUq (by simpa using c),aUq (by simpa using c)]
    · rw[aUs c,aUs (by simpa using c),aI (by omega)];rfl
  · simp only[];split
    · rw[aUF,aU5];omega
    · omega) (fun t _=>by unfold kB;simp only[];rw[aUq (by omega)]) [] (aVk _)).1
 rw[show((0:Nat):Int)=0 from rfl]at this
 have ff:∀ (l t:List Int),l.foldl (fun t x=>if(fun x=>decide (x≠v)) x=true then t++[x]else t) t=t++l.filter fun x=>decide (x≠v):=by
  intro l
  induction l with
  | nil=>intro t;simp
  | cons x l ih =>
   intro t
   rw[aVw,ih,aUY]
   by_cases c:x=v
   · simp[c]
   · simp[c]
 rw[ff,aUx]at this
 unfold oE
 rw[this];rfl
theorem aPJ (s:List Int)(hs:s.length<=1000):lp (eB [] s) (0,([]:List Int))=some s:=by
 exact yR (step:=eB [] s) s (fun k t=>((k:Int),t)) (fun t=>t) (fun k t hk ht=>by
  unfold eB
  simp only[]
  have w:i64.wrap ((k:Int)+1)=((k+1:Nat):Int):=wi (by omega)
  rw[aUs (by omega),aH hk,w]
  simp only[aUp]
  rw[yW [] _ (by simp)]
  simp only[aUp]
  rw[aUq (by simp),aI (by omega)];rfl) (fun t ht=>by unfold eB;simp only[];rw[aUq (by omega)])
theorem aLU (g:Nat->Bool)(s:List Int)(hs:s.length<=1000)(h9:∀ u∈s,1<=u/\u<=9):∀ (m k:Nat) (b:Int),m+k=s.length->b∈s->∃ c,lp (eA s g) (b,(k:Int))=some c/\c∈s/\dg g c.toNat<=dg g b.toNat/\∀ u∈s.drop k,dg g c.toNat<=dg g u.toNat
 | 0,k,b,hk,hb=>by
  refine⟨b,aG (by unfold eA;simp only[];rw[aUq (by omega)]),hb,aUI _,?_⟩
  rw[aUW (by omega)];simp
 | m+1,k,b,hk,hb=>by
  have hlt:k<s.length:=by omega
  have hy:=aUA hlt
  have w:i64.wrap ((k:Int)+1)=((k+1:Nat):Int):=wi (by omega)
  have deg:∀ u∈s,fT g u=some (dg g u.toNat:Int):=fun u hu=>by
   obtain⟨n,rfl⟩:=aVL (show 0<=u by have:=h9 u hu;omega)
   rw[aFc]
   exact aPD g (by have:=h9 _ hu;omega)
  have st:eA s g (b,(k:Int))=if dg g (s[k]).toNat<dg g b.toNat then some (.inl (s[k],((k+1:Nat):Int)))else some (.inl (b,((k+1:Nat):Int))):=by
   unfold eA
   simp only[]
   rw[aUs (by omega),aH hlt,w]
   simp only[aUp]
   rw[deg _ hy,deg _ hb]
   simp only[aUp,Int.ofNat_lt]
  rw[aUw hlt]
  by_cases c:dg g (s[k]).toNat<dg g b.toNat
  · rw[aUs c]at st
    obtain⟨z,e1,e2,e3,e4⟩:=aLU g s hs h9 m (k+1) s[k] (by omega) hy
    refine⟨z,by rw[aO st];exact e1,e2,by omega,fun u hu=>?_⟩
    rcases aUr.1 hu with rfl | hu
    · exact e3
    · exact e4 u hu
  · rw[aUq c]at st
    obtain⟨z,e1,e2,e3,e4⟩:=aLU g s hs h9 m (k+1) b (by omega) hb
    refine⟨z,by rw[aO st];exact e1,e2,e3,fun u hu=>?_⟩
    rcases aUr.1 hu with rfl | hu
    · omega
    · exact e4 u hu
structure GS (g:Nat->Bool):Prop where
 sy:∀ x y,x<10->y<10->gf g x y=gf g y x
 dg:∀ x,x<10->gf g x x=false
def aKj (g h:Nat->Bool)(v:Nat):Prop:=∀ x y,x<10->y<10->(gf h x y=true↔x≠v/\y≠v/\(gf g x y=true\/(x≠y/\gf g v x=true/\gf g v y=true)))
theorem GS.cut {g:Nat->Bool}(hg:GS g){v:Nat}(hv:v<10):∃ h n,mR g (v:Int)=some (h,n)/\aKj g h v/\GS h:=by
 obtain⟨h,f,e1,e2⟩:=aTx hv hg.sy (hg.dg v hv)
 refine⟨h,f,e1,e2,⟨fun x y hx hy=>?_,fun x hx=>?_⟩⟩
 · have a:=e2 x y hx hy
   have c:=e2 y x hy hx
   rw[hg.sy y x hy hx]at c
   rw[Bool.eq_iff_iff,a,c]
   constructor
   · rintro⟨h1,h2,h3 | ⟨h3,h4,h5⟩⟩
     · exact⟨h2,h1,.inl h3⟩
     · exact⟨h2,h1,.inr ⟨fun e=>h3 e.symm,h5,h4⟩⟩
   · rintro⟨h1,h2,h3 | ⟨h3,h4,h5⟩⟩
     · exact⟨h2,h1,.inl h3⟩
     · exact⟨h2,h1,.inr ⟨fun e=>h3 e.symm,h5,h4⟩⟩
 · cases c:gf h x x with
   | false=>rfl
   | true =>
    rcases((e2 x x hx hx).1 c).2.2 with h3 | h3
    · rw[hg.dg x hx]at h3;cases h3
    · exact absurd rfl h3.1
def aRa:(Nat->Bool)->List Int->Prop
 | _,[]=>True
 | g,v::r=>(∀ u∈r,dg g v.toNat<=dg g u.toNat)/\∃ h,aKj g h v.toNat/\aRa h r
theorem aGh:∀ (n:Nat) (g:Nat->Bool) (s acc:List Int),s.length=n->s.Nodup->(∀ u∈s,1<=u/\u<=9)->GS g->acc.length+n<=100->∃ o,lp (dZ []) (g,s,acc)=some (acc++o)/\o.Nodup/\(∀ u,u∈o↔u∈s)/\aRa g o
 | 0,g,s,acc,hn,_,_,_,_=>by
  have:s=[]:=aUD.1 hn
  subst this
  exact⟨[],by rw[aVx];exact aG (by unfold dZ;rfl),List.nodup_nil,fun u=>Iff.rfl,trivial⟩
 | n+1,g,s,acc,hn,nd,h9,hg,ha=>by
  have h0:0<s.length:=by omega
  obtain⟨v,e1,e2,e3,e4⟩:=aLU g s (by omega) h9 s.length 0 s[0] (by omega) (aUA h0)
  rw[aVn]at e4
  rw[show((0:Nat):Int)=0 from rfl]at e1
  obtain⟨k,rfl⟩:=aVL (show 0<=v by have:=h9 v e2;omega)
  have k9:k<10:=by have:=h9 _ e2;omega
  obtain⟨h,f,c1,c2,c3⟩:=hg.cut k9
  have fm:∀ u,u∈(s.filter fun x=>decide (x≠(k:Int)))↔u∈s/\u≠(k:Int):=fun u=>by rw[aUy,aVb]
  have fl:(s.filter fun x=>decide (x≠(k:Int))).length=n:=by
   have e:(s.filter fun x=>decide (x≠(k:Int)))=s.erase k:=by
    rw[nd.erase_eq_filter]
    refine aWi fun x _=>?_
    rw[bne,Bool.eq_iff_iff];simp
   rw[e,List.length_erase_of_mem e2];omega
  obtain⟨o,f1,f2,f3,f4⟩:=aGh n h (s.filter fun x=>decide (x≠(k:Int))) (acc++[(k:Int)]) fl (nd.filter _) (fun u hu=>h9 u ((fm u).1 hu).1) c3 (by rw[aUF,aU5];omega)
  refine⟨(k:Int)::o,?_,aUL.2 ⟨fun hm=>((fm _).1 ((f3 _).1 hm)).2 rfl,f2⟩,fun u=>?_,fun u hu=>?_,h,?_,f4⟩
  · have st:dZ [] (g,s,acc)=some (.inl (h,s.filter fun x=>decide (x≠(k:Int)),acc++[(k:Int)])):=by
     unfold dZ
     simp only[]
     rw[aUs (by omega),aPJ s (by omega)]
     simp only[aUp]
     rw[aUq (by omega)]
     simp only[aUp]
     have i0:=aH h0
     rw[show((0:Nat):Int)=0 from rfl]at i0
     rw[i0]
     simp only[aUp]
     rw[e1]
     simp only[aUp]
     rw[aI (by omega),c1,aIz s (by omega)]
     rfl
    rw[aO st,f1,aUO];rfl
  · rw[aUr,f3,fm]
    constructor
    · rintro(rfl | h)
      · exact e2
      · exact h.1
    · intro h
      by_cases c:u=k
      · exact .inl c
      · exact .inr ⟨h,c⟩
  · rw[aFc];exact e4 u ((fm u).1 ((f3 u).1 hu)).1
  · rw[aFc];exact c2
theorem aQy {s:List Link}(hs:LSet s):∃ g o,(∀ x y:Int,(0<=x/\x<=9)->(0<=y/\y<=9)->(gf g x.toNat y.toNat=true↔∃ z∈s,(z.fA=x/\z.fB=y)\/(z.fA=y/\z.fB=x)))/\GS g/\fW s []=some o/\o.Nodup/\(∀ u,u∈o↔u∈gQ s)/\aRa g o:=by
 have hv:∀ z∈s,(0<=z.fA/\z.fA<=9)/\(0<=z.fB/\z.fB<=9)/\z.fA≠z.fB:=fun z hz=>by
  have:=hs.1 z hz
  have h1:=this.1;have h2:=this.2.1;have h3:=this.2.2.1
  omega
 obtain⟨g,e1,e2⟩:=aPg s (fun z hz=>⟨(hv z hz).1,(hv z hz).2.1⟩) (by have:=hs.len;omega)
 have sy:GS g:=⟨fun x y hx hy=>by
  have a:=e2 (x:Int) (y:Int) (by omega) (by omega)
  have b:=e2 (y:Int) (x:Int) (by omega) (by omega)
  rw[aFc,aFc]at a b
  rw[Bool.eq_iff_iff,a,b]
  constructor
  · rintro⟨z,hz,h⟩;exact⟨z,hz,h.symm⟩
  · rintro⟨z,hz,h⟩;exact⟨z,hz,h.symm⟩,fun x hx=>by
  have a:=e2 (x:Int) (x:Int) (by omega) (by omega)
  rw[aFc]at a
  cases c:gf g x x with
  | false=>rfl
  | true =>
   obtain⟨z,hz,h⟩:=a.1 c
   have:=(hv z hz).2.2
   omega⟩
 have nl:=aAX s
 obtain⟨o,f1,f2,f3,f4⟩:=aGh (gQ s).length g (gQ s) [] rfl ((by decide:aC4.Nodup).filter _) (fun u hu=>by
  exact aGn.1 (aUy.1 hu).1) sy (by simp only[aVu];omega)
 refine⟨g,o,e2,sy,?_,f2,f3,f4⟩
 unfold fW
 rw[aEe s (by have:=hs.sz;omega),aUu hs]
 simp only[aUp,aUK]
 rw[e1,aH2 (by have:=hs.len;omega)]
 simp only[aUp]
 rw[f1];rfl
/- Building a tree, both programs, and the law. -/
theorem uD (c:Conditional)(h:aW c<=4294967296):fI c=some c:=by
 have hp:=qR nD c.fParents
 unfold aW pO at h
 unfold fI
 rw[iK _ (by omega)]
 simp only[aUp]
 have:=yR (step:=fH c) c.fParents (fun k t=>((k:Int),t)) (fun t=>t) (fun k t hk ht=>by
  have he:=vN (w:=nD) (aUA hk)
  have hn:nD c.fParents[k]=bO (c.fParents[k]).fShare+bO (c.fParents[k]).fDX+bO (c.fParents[k]).fDY:=rfl
  unfold fH
  simp only[]
  rw[aUs (by omega),aH hk]
  simp only[aUp]
  rw[iK _ (by omega)]
  simp only[aUp]
  rw[iK _ (by omega)]
  simp only[aUp]
  rw[iK _ (by omega)]
  simp only[aUp]
  rw[aI (by omega),wi (by omega)];rfl) (fun t ht=>by unfold fH;simp only[];rw[aUq (by omega)])
 rw[show((0:Nat):Int)=0 from rfl]at this
 rw[this];rfl
theorem aNr (s:List Link)(o:List Int)(v:Int)(hs:s.length<=4194304)(ho:o.length<=4194304):lp (lB s o v) (0,[])=some (s.filter (pZ o v)):=by
 have:=(iF (step:=lB s o v) s (fun k t=>((k:Int),t)) (fun t x=>if pZ o v x=true then t++[x]else t) (fun t=>t) (fun k t=>t.length<=k) (fun k t hk hi=>by
  constructor
  · unfold lB
    simp only[]
    rw[aUs (by omega),aH hk]
    simp only[aUp,aQx o _ (by omega:o.length<=4294967296),wi1 (by omega:k<=4294967296)]
    by_cases c:aP o [(s[k]).fA,(s[k]).fB]=v
    · rw[aUs c,aUs (by unfold pZ;simpa using c),aI (by omega)];rfl
    · rw[aUq c,aUq (by unfold pZ;simpa using c)]
  · split
    · rw[aUF,aU5];omega
    · omega) (fun t _=>by unfold lB;simp only[];rw[aUq (by omega)]) [] (aVk _)).1
 rw[show((0:Nat):Int)=0 from rfl,xY,aUx]at this
 exact this
theorem aOa (o:List Int)(k:Nat)(hk:k<=o.length):sub o 0 (k:Int)=some (o.take k):=by
 rw[tJ _ _ _ (by omega)];simp
theorem aOH (o:List Int)(hn:o.Nodup)(h1:∀ u∈o,1<=u)(ho:o.length<=4194304)(k:Nat)(hk:k<o.length)(l:Link)(hl:l.fA<l.fB) :
 ((if l.fA=o[k]then(sub o 0 (k:Int)).bind fun y57=>(dP y57 l.fB).bind fun r58=>(if r58=true then(if l.fB=o[k]then(sub o 0 (k:Int)).bind fun y59=>(dP y59 l.fA).bind fun r60=>some (!r60)else some false)else some true)else(if l.fB=o[k]then(sub o 0 (k:Int)).bind fun y61=>(dP y61 l.fA).bind fun r62=>some (!r62)else some false)):Option Bool)=some (pZ o o[k] l):=by
 have tl:(o.take k).length<=4294967296:=by rw[aVp];omega
 have hnt:=aAW.1 hn k hk
 have ft:=aLF (s:=[l.fA,l.fB]) hk hn h1
 rw[aOa o k (by omega)]
 simp only[aUp,yW _ _ tl]
 unfold pZ
 by_cases A:l.fA=o[k]
 · have B:¬l.fB=o[k]:=by omega
   rw[aUs A,aUq B]
   by_cases C:l.fB∈o.take k
   · rw[aUu C,aUs rfl]
     have:¬aP o [l.fA,l.fB]=o[k]:=fun h=>(ft.1 h).2 _ C (by simp)
     rw[aUt this]
   · rw[aUt C]
     have:aP o [l.fA,l.fB]=o[k]:=ft.2 ⟨by simp[A],fun u hu hs=>by
      rcases aUr.1 hs with rfl | hs
      · exact hnt (A▸hu)
      · rw[aU2.1 hs]at hu;exact C hu⟩
     rw[aUu this];rfl
 · rw[aUq A]
   by_cases B:l.fB=o[k]
   · rw[aUs B]
     by_cases C:l.fA∈o.take k
     · have:¬aP o [l.fA,l.fB]=o[k]:=fun h=>(ft.1 h).2 _ C (by simp)
       rw[aUu C,aUt this];rfl
     · have:aP o [l.fA,l.fB]=o[k]:=ft.2 ⟨by simp[B],fun u hu hs=>by
        rcases aUr.1 hs with rfl | hs
        · exact C hu
        · rw[aU2.1 hs]at hu;exact hnt (B▸hu)⟩
       rw[aUt C,aUu this];rfl
   · rw[aUq B]
     have:¬aP o [l.fA,l.fB]=o[k]:=fun h=>by
      have:=(ft.1 h).1
      simp only[aUr,aVi,or_false]at this
      rcases this with e | e
      · exact A e.symm
      · exact B e.symm
     rw[aUt this]
theorem aNs (s:List Link)(o:List Int)(hs:s.length<=4194304)(ho:o.length<=4194304)(hv:∀ x∈s,ValidL x)(hn:o.Nodup)(h1:∀ u∈o,1<=u)(i:Nat)(hi:i<o.length):lp (iT s o o[i] (i:Int)) (0,[])=some (s.filter (pZ o o[i])):=by
 have:=(iF (step:=iT s o o[i] (i:Int)) s (fun k t=>((k:Int),t)) (fun t x=>if pZ o o[i] x=true then t++[x]else t) (fun t=>t) (fun k t=>t.length<=k) (fun k t hk hj=>by
  constructor
  · unfold iT
    simp only[]
    rw[aUs (by omega),aH hk]
    have oc:=aOH o hn h1 ho i hi s[k] (hv _ (aUA hk)).2.2.1
    simp only[aUp,wi1 (by omega:k<=4294967296)]
    rw[oc]
    simp only[aUp]
    by_cases c:pZ o o[i] s[k]=true
    · rw[aUs c,aUs c,aI (by omega)];rfl
    · rw[aUq c,aUq c]
  · split
    · rw[aUF,aU5];omega
    · omega) (fun t _=>by unfold iT;simp only[];rw[aUq (by omega)]) [] (aVk _)).1
 rw[show((0:Nat):Int)=0 from rfl,xY,aUx]at this
 exact this
noncomputable def wB (s:List Link)(o:List Int):List Int->List TreeNode->Option (List TreeNode)
 | [],b=>some b
 | v::r,b=>(rR o v (s.filter (pZ o v)) b).bind fun n=>wB s o r (b++[n])
noncomputable def aAd (s:List Link)(o:List Int):Option Tree :=
 (jnP s).bind fun x=>if isOrd x.1 o then(wB s o o []).map Tree.mk else none
def pkT:Option Tree->Tree×Bool
 | some t=>(t,true)
 | none=>(Tree.mk [],false)
def aR4:Option (List TreeNode)->(List TreeNode) ⊕ (Tree×Bool)
 | some b=>.inl b
 | none=>.inr (Tree.mk [],false)
def NodeOk (s:List Link)(o:List Int)(n:TreeNode):Prop:=LSet n.fMessages/\n.fOwn=s.filter (pZ o n.fNode)/\aW n.fCond<=20000/\bK n.fEnergy/\n.fUp=upP o n.fCond
theorem aAK (p:Link->Bool):∀ s:List Link,aK (s.filter p)<=aK s
 | []=>aUI _
 | x::s=>by
  have:=aAK p s
  unfold aK at this ⊢
  rw[aUY,tI]
  split
  · rw[tI];omega
  · omega
theorem aLq {s:List Link}{o:List Int}{v:Int}{b:List TreeNode}{n:TreeNode}(h:rR o v (s.filter (pZ o v)) b=some n):NodeOk s o n/\n.fNode=v:=by
 obtain⟨h1,h2,h3,h4,h5,h6⟩:=aGm h
 exact⟨⟨h1,by rw[h5];exact h2,h3,h4,h6⟩,h5⟩
theorem aBu {s:List Link}{o:List Int}:∀ (r:List Int) (b b':List TreeNode),(∀ n∈b,NodeOk s o n)->wB s o r b=some b'->(∀ n∈b',NodeOk s o n)/\b'.map (·.fNode)=b.map (·.fNode)++r
 | [],b,b',h,e=>by cases e;exact⟨h,by simp⟩
 | v::r,b,b',h,e=>by
  rw[wB]at e
  cases h1:rR o v (s.filter (pZ o v)) b with
  | none=>rw[h1]at e;cases e
  | some n =>
   rw[h1,aUp]at e
   obtain⟨g1,g2⟩:=aLq h1
   obtain⟨k1,k2⟩:=aBu r (b++[n]) b' (fun m hm=>by
    rcases aUz.1 hm with hm | hm
    · exact h m hm
    · rw[aU2.1 hm];exact g1) e
   exact⟨k1,by rw[k2,aVE,aUO];simp[g2]⟩
theorem aK3 (s:List Link)(o:List Int)(hz:aK s<=4194304)(hv:∀ x∈s,ValidL x)(ho:o.length<=9)(h1:∀ u∈o,1<=u):∀ m k:Nat,m+k=o.length->∀ b:List TreeNode,b.length=k->(∀ n∈b,LSet n.fMessages)->lp (lA s o) ((k:Int),b)=some (aR4 (wB s o (o.drop k) b)):=by
 have hl:s.length<=4194304:=aUE (qR _ _) hz
 intro m
 induction m with
 | zero =>
  intro k hk b hb hm
  rw[aUW (by omega)]
  exact aG (by unfold lA;simp only[];rw[aUq (by omega)];rfl)
 | succ m ih =>
  intro k hk b hb hm
  have hlt:k<o.length:=by omega
  rw[aUw hlt,wB]
  have nq:=(aOP (v:=o[k]) (own:=s.filter (pZ o o[k])) (b:=b) (by omega:o.length<=4194304) h1 (aUE (aAK _ s) hz) (by omega) hm (fun x hx=>hv x (aUy.1 hx).1)).1
  have st:lA s o ((k:Int),b)=some (match rR o o[k] (s.filter (pZ o o[k])) b with | some n=>.inl (((k+1:Nat):Int),b++[n]) | none=>.inr (.inr (Tree.mk [],false))):=by
   unfold lA
   simp only[]
   rw[aUs (by omega),aH hlt]
   simp only[aUp,aNr s o o[k] hl (by omega),nq,wi1 (by omega:k<=4294967296)]
   cases rR o o[k] (s.filter (pZ o o[k])) b with
   | none=>rfl
   | some n=>simp only[pkN,aUK];rw[aI (by omega)];rfl
  cases h:rR o o[k] (s.filter (pZ o o[k])) b with
  | none=>rw[h]at st;rw[aG st];rfl
  | some n =>
   rw[h]at st
   rw[aO st,aUp]
   exact ih (k+1) (by omega) _ (by simp[hb]) (fun x hx=>by
    rcases aUz.1 hx with hx | hx
    · exact hm x hx
    · rw[aU2.1 hx];exact(aGm h).1)
theorem aK4 (s:List Link)(o:List Int)(hz:aK s<=4194304)(hv:∀ x∈s,ValidL x)(ho:o.length<=9)(hn:o.Nodup)(h1:∀ u∈o,1<=u):∀ m k:Nat,m+k=o.length->∀ b:List TreeNode,b.length=k->(∀ n∈b,LSet n.fMessages)->lp (iS s o) ((k:Int),b)=some (aR4 (wB s o (o.drop k) b)):=by
 have hl:s.length<=4194304:=aUE (qR _ _) hz
 intro m
 induction m with
 | zero =>
  intro k hk b hb hm
  rw[aUW (by omega)]
  exact aG (by unfold iS;simp only[];rw[aUq (by omega)];rfl)
 | succ m ih =>
  intro k hk b hb hm
  have hlt:k<o.length:=by omega
  rw[aUw hlt,wB]
  have nq:=(aOP (v:=o[k]) (own:=s.filter (pZ o o[k])) (b:=b) (by omega:o.length<=4194304) h1 (aUE (aAK _ s) hz) (by omega) hm (fun x hx=>hv x (aUy.1 hx).1)).2
  have st:iS s o ((k:Int),b)=some (match rR o o[k] (s.filter (pZ o o[k])) b with | some n=>.inl (((k+1:Nat):Int),b++[n]) | none=>.inr (.inr (Tree.mk [],false))):=by
   unfold iS
   simp only[]
   rw[aUs (by omega),aH hlt]
   simp only[aUp,aNs s o hl (by omega) hv hn h1 k hlt,nq,wi1 (by omega:k<=4294967296)]
   cases rR o o[k] (s.filter (pZ o o[k])) b with
   | none=>rfl
   | some n=>simp only[pkN,aUK];rw[aI (by omega)];rfl
  cases h:rR o o[k] (s.filter (pZ o o[k])) b with
  | none=>rw[h]at st;rw[aG st];rfl
  | some n =>
   rw[h]at st
   rw[aO st,aUp]
   exact ih (k+1) (by omega) _ (by simp[hb]) (fun x hx=>by
    rcases aUz.1 hx with hx | hx
    · exact hm x hx
    · rw[aU2.1 hx];exact(aGm h).1)
theorem NodeOk.sz {s:List Link}{o:List Int}{n:TreeNode}(h:NodeOk s o n)(hz:aK s<=4194304):hJ n<=4300000:=by
 have h1:=h.1.sz
 have h2:aK n.fOwn<=4194304:=by rw[h.2.1];exact aUE (aAK _ s) hz
 have h3:=nC (.inl h.2.2.2.1)
 have h4:=h.2.2.1
 unfold hJ;omega
theorem aLN (n:TreeNode)(h:hJ n<=4294967296):lJ n=some n:=by
 unfold hJ at h
 unfold lJ
 rw[vK _ (by omega),uD _ (by omega)]
 simp only[aUp]
 rw[vK _ (by omega),iK _ (by omega)]
 rfl
theorem aLM (t:Tree)(h:yA t<=4294967296):rV t=some t:=by
 unfold yA zS at h
 have hl:=qR hJ t.fNodes
 unfold rV
 have:=yR (step:=mS t) t.fNodes (fun k t=>((k:Int),t)) (fun t=>t) (fun k u hk hu=>by
  have he:=vN (w:=hJ) (aUA hk)
  unfold mS
  simp only[]
  rw[aUs (by omega),aH hk]
  simp only[aUp]
  rw[aLN _ (by omega)]
  simp only[aUp]
  rw[aI (by omega),wi1 (by omega)];rfl) (fun t ht=>by unfold mS;simp only[];rw[aUq (by omega)])
 rw[show((0:Nat):Int)=0 from rfl]at this
 rw[this];rfl
theorem aQk {s:List Link}{o:List Int}{b:List TreeNode}(hz:aK s<=4194304)(ho:o.length<=9)(h:wB s o o []=some b):yA ⟨b⟩<=38700018:=by
 obtain⟨h1,h2⟩:=aBu o [] b (by simp) h
 have hl:b.length=o.length:=by have:=congrArg List.length h2;simpa using this
 have:zS b<=(4300000+1)*b.length:=aEk (fun n hn=>(h1 n hn).sz hz)
 unfold yA
 have:(4300000+1)*b.length<=4300001*9:=aUX (aUI _) (by omega)
 simp only[]
 omega
theorem aRm (s:List Link)(o:List Int)(hz:aK s<=4194304)(ho:o.length<=4194304):aBA s o=some (pkT (aAd s o))/\qN s o=some (pkT (aAd s o)):=by
 obtain⟨j1,j2⟩:=zQ s (by omega)
 unfold aBA qN aAd
 rw[j1,j2]
 cases h:jnP s with
 | none=>exact⟨rfl,rfl⟩
 | some x =>
  obtain⟨u,e⟩:=x
  obtain⟨hv,hs,he⟩:=aDc h
  simp only[pk,aUp,aUK]
  rw[aL7 hs o ho,aL8 hs o ho]
  by_cases c:isOrd u o
  · obtain⟨l9,h1⟩:=aGP c
    have q1:=aK3 s o hz hv l9 h1 o.length 0 (by omega) [] rfl (by simp)
    have q2:=aK4 s o hz hv l9 c.1 h1 o.length 0 (by omega) [] rfl (by simp)
    rw[show((0:Nat):Int)=0 from rfl,aVn]at q1 q2
    rw[aUu c,aUs c]
    simp only[aUp,aVj,aUv,aUT,q1,q2]
    cases g:wB s o o []with
    | none=>exact⟨rfl,rfl⟩
    | some b =>
     simp only[aR4]
     rw[aLM ⟨b⟩ (by have:=aQk hz l9 g;omega)]
     exact⟨rfl,rfl⟩
  · rw[aUt c,aUq c]
    exact⟨rfl,rfl⟩
/- Fractions as rational numbers. -/
abbrev Q:=_root_.Rat
def ofQ (q:Q):Rat:=⟨big q.num,aA q.den⟩
def bN (q:Q):Prop:=bl q.num<=24/\(aA q.den).length<=24
instance (q:Q):Decidable (bN q):=by unfold bN;infer_instance
def aGj (q:Q):Rat:=if bN q then ofQ q else nY
theorem aCj {q:Q}(h:bN q):aGj q=ofQ q:=aUs h
theorem tY {q:Q}(h:bN q):bK (ofQ q):=by
 obtain⟨h1,h2⟩:=h
 refine⟨⟨aAZ (by unfold bl at h1;omega),fun hn=>?_⟩,aAZ (by omega),cY q.den_nz,h2,h1,?_⟩
 · have:q.num<0:=aU4 hn
   exact cY (by omega)
 · show Nat.gcd (val (aA q.num.natAbs)) (val (aA q.den))=1
   rw[cI,cI];exact q.reduced
theorem jZ {q:Q}(h:bN q):VZ (ofQ q):=.inl (tY h)
theorem aMD (z:Int){d:Nat}(hd:0<d):mkR (decide (z<0)) z.natAbs d=aGj (mkRat z d):=by
 have hn:=_root_.Rat.num_mkRat z d
 have hden:=_root_.Rat.den_mkRat z d
 rw[aUq (by omega)]at hn hden
 have hg:Nat.gcd d z.natAbs=Nat.gcd z.natAbs d:=Nat.gcd_comm _ _
 rw[hg]at hn hden
 generalize hgg:Nat.gcd z.natAbs d=g at hn hden
 have hgp:0<g:=by rw[<- hgg];exact aWK _ hd
 have hdv:g∣z.natAbs:=by rw[<- hgg];exact Nat.gcd_dvd_left _ _
 obtain⟨k,hk⟩:=hdv
 have hxk:z.natAbs / g=k:=by rw[hk,Nat.mul_div_cancel_left _ hgp]
 have hnk:(mkRat z d).num.natAbs=k/\(((mkRat z d).num<0)↔(z<0/\k≠0)):=by
  rcases Int.natAbs_eq z with e | e
  · have:(mkRat z d).num=(k:Int):=by
     rw[hn,e,hk];simp[Int.natCast_mul]
     rw[Int.mul_ediv_cancel_left _ (by omega)]
    rw[this];exact⟨by simp,by constructor <;> intro h <;> omega⟩
  · have:(mkRat z d).num=-(k:Int):=by
     rw[hn,e,hk,Int.natCast_mul,<- Int.mul_neg,Int.mul_ediv_cancel_left _ (by omega)]
    rw[this]
    refine⟨by simp,?_⟩
    constructor
    · intro h
      refine⟨?_,by omega⟩
      rcases Nat.eq_zero_or_pos k with h0 | h0
      · omega
      · have:=aU6 hgp h0
        omega
    · rintro⟨_,h⟩;omega
 have hf:bN (mkRat z d)↔((aA k).length<=24/\(aA (d / g)).length<=24):=by unfold bN bl;rw[hnk.1,hden]
 unfold mkR aGj
 rw[aUq (by omega),hgg,hxk]
 by_cases c:(aA k).length<=24/\(aA (d / g)).length<=24
 · rw[aUq (by omega),aUs (hf.2 c)]
   unfold ofQ big
   rw[hnk.1,hden]
   congr 2
   rw[<- Bool.decide_and]
   exact decide_eq_decide.2 hnk.2.symm
 · rw[aUs (by omega),aUq (fun h=>c (hf.1 h))]
theorem nU {q:Q}(h:bN q):0<q.den/\bl q.num<=24/\(aA q.den).length<=24:=⟨aWb q.den_nz,h.1,h.2⟩
theorem aUn {p q:Q}(hp:bN p)(hq:bN q):RA (ofQ p) (ofQ q)=aGj (p+q):=by
 have h:=(aBp (jZ hp) (jZ hq)).2.1
 obtain⟨a1,a2,a3⟩:=nU hp
 obtain⟨b1,b2,b3⟩:=nU hq
 have e:bP (ofQ p) (ofQ q)=some (aGj (p+q)):=by
  unfold ofQ
  rw[aDw _ _ _ _ a1 b1 a2 a3 b2 b3]
  unfold aKM
  rw[aMD _ (aU6 a1 b1),_root_.Rat.add_def']
 rw[e]at h;exact(Option.some.inj h).symm
theorem aUk {p q:Q}(hp:bN p)(hq:bN q):RM (ofQ p) (ofQ q)=aGj (p*q):=by
 have h:=(aEJ (jZ hp) (jZ hq)).2.1
 obtain⟨a1,a2,a3⟩:=nU hp
 obtain⟨b1,b2,b3⟩:=nU hq
 have e:bU (ofQ p) (ofQ q)=some (aGj (p*q)):=by
  unfold ofQ
  rw[aJL _ _ _ _ a1 b1 a2 a3 b2 b3]
  unfold aQF
  rw[_root_.Rat.mul_def',<- aMD _ (aU6 a1 b1),aVV]
  congr 1
  refine aFu fun hx=>?_
  have q':=aFr p.num q.num
  rw[aUu hx,Bool.and_true]at q'
  exact q'
 rw[e]at h;exact(Option.some.inj h).symm
theorem aUl {p q:Q}(hp:bN p)(hq:bN q)(h0:q≠0):RD (ofQ p) (ofQ q)=aGj (p / q):=by
 have h:=(aHm (jZ hp) (jZ hq)).2.1
 obtain⟨a1,a2,a3⟩:=nU hp
 obtain⟨b1,b2,b3⟩:=nU hq
 have hn:q.num≠0:=fun e=>h0 (_root_.Rat.num_eq_zero.1 e)
 have e:eG (ofQ p) (ofQ q)=some (aGj (p / q)):=by
  unfold ofQ
  rw[aJM _ _ _ _ a1 b1 a2 a3 b2 b3]
  unfold aSq
  have key:p / q=mkRat (p.num*q.num.sign*q.den) (p.den*q.num.natAbs):=by
   rw[_root_.Rat.div_def]
   conv=>lhs;rw[_root_.Rat.mul_def']
   rw[_root_.Rat.num_inv,_root_.Rat.den_inv,aUq hn,<- Int.mul_assoc]
  rw[key,<- aMD _ (aU6 a1 (by omega))]
  have hs:q.num.sign.natAbs=1:=by rw[Int.natAbs_sign];simp[hn]
  have e1:(p.num*q.num.sign*q.den).natAbs=p.num.natAbs*q.den:=by
   rw[aVV,aVV,hs,Nat.mul_one,aVo]
  rw[e1]
  congr 1
  refine aFu fun hx=>?_
  have hp0:p.num≠0:=by rintro e;rw[e]at hx;simp at hx
  have hd0:(0:Int)<(q.den:Int):=by omega
  have:(p.num*q.num.sign*(q.den:Int)<0)↔(p.num*q.num.sign<0):=by
   constructor
   · intro hh
     rcases Int.lt_or_le (p.num*q.num.sign) 0 with h1 | h1
     · exact h1
     · have:=Int.mul_nonneg h1 (Int.le_of_lt hd0);omega
   · intro hh;exact aWF hh hd0
  rw[show decide (p.num*q.num.sign*(q.den:Int)<0)=decide (p.num*q.num.sign<0)from decide_eq_decide.2 this]
  rcases Int.lt_or_gt_of_ne hn with c | c
  · rw[show decide (p.num*q.num.sign<0)=decide (p.num*-1<0)by rw[Int.sign_eq_neg_one_of_neg c]]
    by_cases cp:p.num<0 <;> simp[c,cp] <;> omega
  · rw[show decide (p.num*q.num.sign<0)=decide (p.num*1<0)by rw[Int.sign_eq_one_of_pos c]]
    have:¬q.num<0:=by omega
    by_cases cp:p.num<0 <;> simp[this,cp]
 rw[e]at h;exact(Option.some.inj h).symm
theorem aUj {p q:Q}(hp:bN p)(hq:bN q):RS (ofQ p) (ofQ q)=aGj (p-q):=by
 have h:=(aHE (jZ hp) (jZ hq)).2.1
 obtain⟨a1,a2,a3⟩:=nU hp
 obtain⟨b1,b2,b3⟩:=nU hq
 have e:cM (ofQ p) (ofQ q)=some (aGj (p-q)):=by
  unfold cM ofQ
  rw[aF3 _ _ b1 b2 b3]
  simp only[aUp]
  rw[aDw _ _ _ _ a1 b1 a2 a3 (by rw[aSu];exact b2) b3]
  unfold aKM
  rw[aMD _ (aU6 a1 b1),_root_.Rat.sub_def',Int.neg_mul,<- Int.sub_eq_add_neg];rfl
 rw[e]at h;exact(Option.some.inj h).symm
theorem aTK {p:Q}(hp:bN p):RN (ofQ p)=ofQ (-p):=by
 have h:=(aN2 (jZ hp)).2.1
 obtain⟨a1,a2,a3⟩:=nU hp
 have e:iG (ofQ p)=some (ofQ (-p)):=by
  unfold ofQ
  rw[aF3 _ _ a1 a2 a3]
  rfl
 rw[e]at h;exact(Option.some.inj h).symm
theorem aLc {q:Q}(h:bN q):0<xR (ofQ q)↔0<q:=by
 have:=aII (n:=q.num) (d:=q.den) (tY h)
 unfold ofQ
 rw[this]
 constructor
 · intro hh
   rw[_root_.Rat.lt_iff];simp;omega
 · intro hh
   rw[_root_.Rat.lt_iff]at hh;simp at hh;omega
theorem aQh:BB ^ 24=10 ^ 216:=by rw[cX,show(1000000000:Nat)=10 ^ 9 from rfl,<- Nat.pow_mul]
theorem aMX {q:Q}{n:Int}{d:Nat}(hd:0<d)(hq:q=mkRat n d)(h1:n.natAbs<BB ^ 24)(h2:d<BB ^ 24):bN q:=by
 have hn:=_root_.Rat.num_mkRat n d
 have hden:=_root_.Rat.den_mkRat n d
 rw[aUq (by omega)]at hn hden
 subst hq
 have hgp:0<Nat.gcd d n.natAbs:=Nat.gcd_pos_of_pos_left _ hd
 unfold bN bl
 refine⟨fK ?_,fK ?_⟩
 · rw[hn]
   have:(n / (Nat.gcd d n.natAbs:Int)).natAbs<=n.natAbs:=Int.natAbs_ediv_le_natAbs _ _
   omega
 · rw[hden]
   exact aVW (aWN _ _) h2
/- Rational numbers over a bound denominator. -/
def Dv (T:Nat)(q:Q):Prop:=∃ z:Int,q*(T:Q)=(z:Q)
theorem aDl (z:Int):Dv 1 (z:Q):=⟨z,by simp⟩
theorem kN {T:Nat}{p q:Q}(hp:Dv T p)(hq:Dv T q):Dv T (p+q):=by
 obtain⟨a,ha⟩:=hp;obtain⟨b,hb⟩:=hq
 exact⟨a+b,by rw[_root_.Rat.add_mul,ha,hb,_root_.Rat.intCast_add]⟩
theorem aMa {T:Nat}{p:Q}(hp:Dv T p):Dv T (-p):=by
 obtain⟨a,ha⟩:=hp
 exact⟨-a,by rw[_root_.Rat.neg_mul,ha,_root_.Rat.intCast_neg]⟩
theorem pG {T:Nat}{p q:Q}(hp:Dv T p)(hq:Dv T q):Dv T (p-q):=by
 rw[_root_.Rat.sub_eq_add_neg];exact kN hp (aMa hq)
theorem sN {T U:Nat}{p q:Q}(hp:Dv T p)(hq:Dv U q):Dv (T*U) (p*q):=by
 obtain⟨a,ha⟩:=hp;obtain⟨b,hb⟩:=hq
 refine⟨a*b,?_⟩
 rw[aWy,<- ha,<- hb,aVD];grind
theorem qQ {T:Nat}(U:Nat){p:Q}(hp:Dv T p):Dv (T*U) p:=by
 have:=sN hp (q:=1) (U:=U) ⟨(U:Int),by rw[_root_.Rat.one_mul];rfl⟩
 rwa [_root_.Rat.mul_one]at this
theorem xH {T U:Nat}{p:Q}(hp:Dv T p)(h:T∣U):Dv U p:=by
 obtain⟨k,rfl⟩:=h;exact qQ k hp
theorem aJc {T B:Nat}{q:Q}(hT:0<T)(h:Dv T q)(h1:-(B:Q)<=q)(h2:q<=(B:Q))(hB:0<B)(hb:B*T<BB ^ 24):bN q:=by
 obtain⟨z,hz⟩:=h
 have hT0:(0:Q)<(T:Q):=by
  have:((0:Nat):Q)<(T:Q):=_root_.Rat.natCast_lt_natCast.2 hT
  simpa using this
 have e:q=mkRat z T:=by
  rw[_root_.Rat.mkRat_eq_div]
  have:(T:Q)≠0:=by grind
  have e2:((T:Int):Q)=(T:Q):=rfl
  grind
 refine aMX hT e ?_ (aVW (Nat.le_mul_of_pos_left T hB) hb)
 have u1:(z:Q)<=((B*T:Nat):Q):=by
  rw[<- hz,aVD]
  exact aWW h2 (by grind)
 have u2:-((B*T:Nat):Q)<=(z:Q):=by
  rw[<- hz,aVD,<- _root_.Rat.neg_mul]
  exact aWW h1 (by grind)
 have v1:z<=((B*T:Nat):Int):=aWv.1 u1
 have v2:-((B*T:Nat):Int)<=z:=aWv.1 (by rw[_root_.Rat.intCast_neg];exact u2)
 omega
/- Links over the rational numbers; merging and joining. -/
structure QL where
 a:Int
 b:Int
 w:Q
 x:Q
 y:Q
def QL.toL (l:QL):Link:=⟨l.a,l.b,ofQ l.w,ofQ l.x,ofQ l.y⟩
def QL.fit (l:QL):Prop:=bN l.w/\bN l.x/\bN l.y
def QL.ok (l:QL):Prop:=(0<=l.a/\l.a<=9)/\(0<=l.b/\l.b<=9)/\l.a<l.b/\0<l.w
theorem aEh {l:QL}(h:l.fit):ValidL l.toL↔l.ok:=by
 unfold ValidL QL.ok QL.toL
 simp only[aLc h.1,tY h.2.1,tY h.2.2,and_true]
def cW (k l:QL):Prop:=k.a<l.a\/(k.a=l.a/\k.b<l.b)
instance (k l:QL):Decidable (cW k l):=by unfold cW;infer_instance
theorem aDP (k l:QL):fD k.toL l.toL↔cW k l:=Iff.rfl
def mrg (k l:QL):QL:=⟨k.a,k.b,k.w+l.w,(k.w*k.x+l.w*l.x) / (k.w+l.w),(k.w*k.y+l.w*l.y) / (k.w+l.w)⟩
def sqQ (x y:Q):Q:=x*x+y*y
def aGv (k l:QL):Q:=(k.w*l.w / (k.w+l.w))*sqQ (k.x-l.x) (k.y-l.y)
def aI5 (k l:QL):Prop :=
 (bN (k.w+l.w)/\bN (k.w*k.x)/\bN (l.w*l.x)/\bN (k.w*k.x+l.w*l.x)/\bN ((k.w*k.x+l.w*l.x) / (k.w+l.w)))/\
 (bN (k.w*k.y)/\bN (l.w*l.y)/\bN (k.w*k.y+l.w*l.y)/\bN ((k.w*k.y+l.w*l.y) / (k.w+l.w)))/\
 (bN (k.w*l.w)/\bN (k.w*l.w / (k.w+l.w))/\bN (k.x-l.x)/\bN (k.y-l.y))/\
 (bN ((k.x-l.x)*(k.x-l.x))/\bN ((k.y-l.y)*(k.y-l.y))/\bN (sqQ (k.x-l.x) (k.y-l.y))/\bN (aGv k l))
theorem aHn {p q:Q}(hp:bN p)(hq:bN q)(h:bN (p+q)):RA (ofQ p) (ofQ q)=ofQ (p+q):=by rw[aUn hp hq,aCj h]
theorem aFn {p q:Q}(hp:bN p)(hq:bN q)(h:bN (p*q)):RM (ofQ p) (ofQ q)=ofQ (p*q):=by rw[aUk hp hq,aCj h]
theorem aP3 {p q:Q}(hp:bN p)(hq:bN q)(h:bN (p-q)):RS (ofQ p) (ofQ q)=ofQ (p-q):=by rw[aUj hp hq,aCj h]
theorem aP4 {p q:Q}(hp:bN p)(hq:bN q)(h0:q≠0)(h:bN (p / q)):RD (ofQ p) (ofQ q)=ofQ (p / q):=by rw[aUl hp hq h0,aCj h]
theorem aPq {z:Int}(h:z.natAbs<2 ^ 62):bN (z:Q):=by
 refine aMX (n:=z) (d:=1) (by decide) ?_ (Nat.lt_trans h (by rw[aQh];decide)) (by rw[aQh];decide)
 rw[_root_.Rat.mkRat_eq_div];show(z:Q)=(z:Q) / ((1:Nat):Q);grind
theorem aBG {z:Int}(h:z.natAbs<2 ^ 62):nH z=ofQ (z:Q):=by
 unfold nH ofQ
 rw[show aA (z:Q).den=[1]from rG (d:=1) (by rw[cX];decide) (by decide)];rfl
theorem aQH {k l:QL}(hk:k.fit)(hl:l.fit)(h0:k.w+l.w≠0)(h:aI5 k l):aAp k.toL l.toL/\aCC k.toL l.toL=(mrg k l).toL/\aEv k.toL l.toL=ofQ (aGv k l)/\(mrg k l).fit/\bN (aGv k l):=by
 obtain⟨⟨a1,a2,a3,a4,a5⟩,⟨b2,b3,b4,b5⟩,⟨c1,c2,c3,c4⟩,d1,d2,d3,d4⟩:=h
 obtain⟨k1,k2,k3⟩:=hk
 obtain⟨l1,l2,l3⟩:=hl
 have eL:aCC k.toL l.toL=(mrg k l).toL:=by
  unfold aCC QL.toL mrg
  simp only[]
  rw[aHn k1 l1 a1,aFn k1 k2 a2,aFn l1 l2 a3,aHn a2 a3 a4,aP4 a4 a1 h0 a5,aFn k1 k3 b2,aFn l1 l3 b3,aHn b2 b3 b4,aP4 b4 a1 h0 b5]
 have eE:aEv k.toL l.toL=ofQ (aGv k l):=by
  unfold aEv QL.toL aGv sqR
  simp only[]
  unfold sqQ at d3
  rw[aHn k1 l1 a1,aFn k1 l1 c1,aP4 c1 a1 h0 c2,aP3 k2 l2 c3,aP3 k3 l3 c4,aFn c3 c3 d1,aFn c4 c4 d2,aHn d1 d2 d3,aFn c2 d3 d4]
  rfl
 refine⟨?_,eL,eE,⟨a1,a5,b5⟩,d4⟩
 unfold aAp
 rw[eL,eE]
 exact⟨tY a1,tY a5,tY b5,tY d4⟩
def jI:List QL->QL->List QL×Q
 | [],l=>([l],0)
 | k::s,l=>if cW k l then(k::(jI s l).1,(jI s l).2)else if cW l k then(l::k::s,0)else(mrg k l::s,aGv k l)
def aDk:List QL->QL->Prop
 | [],_=>True
 | k::s,l=>if cW k l then aDk s l else if cW l k then True else k.w+l.w≠0/\aI5 k l
theorem tD {k l:QL}{s:List QL}(c:cW k l):jI (k::s) l=(k::(jI s l).1,(jI s l).2):=by rw[jI,aUs c]
theorem wU {k l:QL}{s:List QL}(c:¬cW k l)(d:cW l k):jI (k::s) l=(l::k::s,0):=by rw[jI,aUq c,aUs d]
theorem wT {k l:QL}{s:List QL}(c:¬cW k l)(d:¬cW l k):jI (k::s) l=(mrg k l::s,aGv k l):=by rw[jI,aUq c,aUq d]
theorem aBq:nH 0=ofQ 0:=aBG (by decide)
theorem aEg:bN 0:=aPq (z:=0) (by decide)
theorem aNZ {y l:Link}{r:List Link}(h:fD y l):aCF (y::r) l=(aCF r l).map (fun t=>(y::t.1,t.2)):=by
 have e:fJ l (y::r)=fJ l r+1:=by rw[fJ,aUs h]
 unfold aCF
 rw[e]
 by_cases c:fJ l r<r.length
 · rw[aWD c,aWD (by simpa using c)]
   simp only[aWw,aWl,aWZ,aUB]
   split
   · rfl
   · split <;> rfl
 · rw[aWE c,aWE (by simpa using c)]
   simp only[aWl,aWZ,aUB]
   rfl
theorem aN0 {y l:Link}{r:List Link}(h:¬fD y l):aCF (y::r) l=if fD l y then some (l::y::r,nH 0)else if aAp y l then some (aCC y l::r,aEv y l)else none:=by
 have e:fJ l (y::r)=0:=by rw[fJ,aUq h]
 unfold aCF
 rw[e]
 simp
theorem aRL:∀ (s:List QL) (l:QL),(∀ k∈s,k.fit)->l.fit->aDk s l->aCF (s.map QL.toL) l.toL=some ((jI s l).1.map QL.toL,ofQ (jI s l).2)/\(∀ k∈(jI s l).1,k.fit)/\bN (jI s l).2
 | [],l,_,hl,_=>by
  refine⟨?_,?_,aEg⟩
  · unfold aCF jI
    simp[fJ,aBq]
  · intro k hk
    simp[jI]at hk;subst hk;exact hl
 | k::s,l,hs,hl,hf=>by
  unfold aDk at hf
  rw[aUH]
  by_cases c:cW k l
  · rw[aUs c]at hf
    obtain⟨g1,g2,g3⟩:=aRL s l (fun x hx=>hs x (by simp[hx])) hl hf
    rw[aNZ ((aDP k l).2 c),g1,tD c]
    refine⟨rfl,fun x hx=>?_,g3⟩
    rcases aUr.1 hx with rfl | hx
    · exact hs _ (by simp)
    · exact g2 x hx
  · rw[aUq c]at hf
    rw[aN0 (fun h=>c ((aDP k l).1 h))]
    by_cases d:cW l k
    · rw[wU c d,aUs ((aDP l k).2 d)]
      refine⟨by rw[aBq];rfl,fun x hx=>?_,aEg⟩
      rcases aUr.1 hx with rfl | hx
      · exact hl
      · exact hs x hx
    · rw[aUq d]at hf
      rw[wT c d,aUq (fun h=>d ((aDP l k).1 h))]
      obtain⟨g1,g2,g3,g4,g5⟩:=aQH (hs k (by simp)) hl hf.1 hf.2
      rw[aUs g1,g2,g3]
      refine⟨rfl,fun x hx=>?_,g5⟩
      rcases aUr.1 hx with rfl | hx
      · exact g4
      · exact hs x (by simp[hx])
def aU:List QL->List QL->Q->List QL×Q
 | [],s,e=>(s,e)
 | x::r,s,e=>aU r (jI s x).1 (e+(jI s x).2)
def aA3:List QL->List QL->Q->Prop
 | [],_,_=>True
 | x::r,s,e=>aDk s x/\bN (e+(jI s x).2)/\aA3 r (jI s x).1 (e+(jI s x).2)
theorem aPd:∀ (l s:List QL) (e:Q),(∀ k∈l,k.fit)->(∀ k∈s,k.fit)->bN e->aA3 l s e->yS (l.map QL.toL) (s.map QL.toL) (ofQ e)=some ((aU l s e).1.map QL.toL,ofQ (aU l s e).2)/\(∀ k∈(aU l s e).1,k.fit)/\bN (aU l s e).2
 | [],s,e,_,hs,he,_=>⟨rfl,hs,he⟩
 | x::r,s,e,hl,hs,he,hf=>by
  obtain⟨f1,f2,f3⟩:=hf
  obtain⟨g1,g2,g3⟩:=aRL s x hs (hl x (by simp)) f1
  rw[aUH,yS,g1]
  simp only[]
  rw[aHn he g3 f2,aUs (tY f2)]
  exact aPd r _ _ (fun y hy=>hl y (by simp[hy])) g2 f2 f3
/- What joining keeps: sums, energies, order, scale. -/
def sm (f:QL->Q):List QL->Q
 | []=>0
 | x::l=>f x+sm f l
theorem rI (f:QL->Q):∀ a b:List QL,sm f (a++b)=sm f a+sm f b
 | [],b=>by simp only[aUx,sm];grind
 | x::a,b=>by rw[aUB,sm,sm,rI f a b,_root_.Rat.add_assoc]
theorem oU {f:QL->Q}:∀ {l:List QL},(∀ x∈l,0<=f x)->0<=sm f l
 | [],_=>by simp[sm]
 | x::l,h=>by
  have h1:=h x (by simp)
  have h2:=oU (f:=f) (l:=l) (fun y hy=>h y (by simp[hy]))
  rw[sm];grind
theorem aIH {f:QL->Q}:∀ {l:List QL},(∀ x∈l,0<=f x)->∀ x∈l,f x<=sm f l
 | y::l,h,x,hx=>by
  have h1:=h y (by simp)
  have h2:=oU (f:=f) (l:=l) (fun y hy=>h y (by simp[hy]))
  rw[sm]
  rcases aUr.1 hx with rfl | hx
  · grind
  · have:=aIH (f:=f) (l:=l) (fun y hy=>h y (by simp[hy])) x hx
    grind
theorem aOf {f g:QL->Q}:∀ {l:List QL},(∀ x∈l,f x<=g x)->sm f l<=sm g l
 | [],_=>by simp[sm]
 | x::l,h=>by
  have h1:=h x (by simp)
  have h2:=aOf (f:=f) (g:=g) (l:=l) (fun y hy=>h y (by simp[hy]))
  rw[sm,sm];grind
theorem aLb (c:Q)(f:QL->Q):∀ l:List QL,sm (fun x=>c*f x) l=c*sm f l
 | []=>by simp[sm]
 | x::l=>by rw[sm,sm,aLb c f l];grind
def enQ (l:QL):Q:=l.w*sqQ l.x l.y
def wt (l:QL):Q:=l.w
def mx (l:QL):Q:=l.w*l.x
def my (l:QL):Q:=l.w*l.y
theorem aSa {k l:QL}(hk:0<k.w)(hl:0<l.w):enQ (mrg k l)+aGv k l=enQ k+enQ l:=by
 have:k.w+l.w≠0:=by grind
 unfold enQ mrg aGv sqQ
 simp only[]
 grind
theorem aR7 (k l:QL):wt (mrg k l)=wt k+wt l:=rfl
theorem aR9 {k l:QL}(hk:0<k.w)(hl:0<l.w):mx (mrg k l)=mx k+mx l:=by
 have:k.w+l.w≠0:=by grind
 unfold mx mrg
 simp only[]
 grind
theorem aR8 {k l:QL}(hk:0<k.w)(hl:0<l.w):my (mrg k l)=my k+my l:=by
 have:k.w+l.w≠0:=by grind
 unfold my mrg
 simp only[]
 grind
theorem aMB {k l:QL}(hk:0<k.w)(hl:0<l.w):0<(mrg k l).w:=by
 show 0<k.w+l.w;grind
theorem zH {k l:QL}(c:¬cW k l)(d:¬cW l k):k.a=l.a/\k.b=l.b:=by unfold cW at c d;omega
theorem aD7 {P:QL->Prop}(hP:∀ k l,k.a=l.a->k.b=l.b->P k->P l->P (mrg k l)):∀ (s:List QL) (l:QL),(∀ x∈s,P x)->P l->∀ x∈(jI s l).1,P x
 | [],l,_,hl,x,hx=>by simp[jI]at hx;subst hx;exact hl
 | k::s,l,hs,hl,x,hx=>by
  by_cases c:cW k l
  · rw[tD c]at hx
    rcases aUr.1 hx with rfl | hx
    · exact hs _ (by simp)
    · exact aD7 hP s l (fun y hy=>hs y (by simp[hy])) hl x hx
  · by_cases d:cW l k
    · rw[wU c d]at hx
      rcases aUr.1 hx with rfl | hx
      · exact hl
      · exact hs x hx
    · rw[wT c d]at hx
      rcases aUr.1 hx with rfl | hx
      · exact hP _ _ (zH c d).1 (zH c d).2 (hs k (by simp)) hl
      · exact hs x (by simp[hx])
theorem aM8 {f:QL->Q}(hf:∀ k l,k.a=l.a->k.b=l.b->0<k.w->0<l.w->f (mrg k l)=f k+f l):∀ (s:List QL) (l:QL),(∀ x∈s,0<x.w)->0<l.w->sm f (jI s l).1=sm f s+f l
 | [],l,_,hl=>by simp only[jI,sm];grind
 | k::s,l,hs,hl=>by
  by_cases c:cW k l
  · rw[tD c,sm,sm,aM8 hf s l (fun y hy=>hs y (by simp[hy])) hl];grind
  · by_cases d:cW l k
    · rw[wU c d,sm];grind
    · rw[wT c d,sm,sm,hf _ _ (zH c d).1 (zH c d).2 (hs k (by simp)) hl];grind
theorem aM9:∀ (s:List QL) (l:QL),(∀ x∈s,0<x.w)->0<l.w->sm enQ (jI s l).1+(jI s l).2=sm enQ s+enQ l
 | [],l,_,hl=>by simp only[jI,sm];grind
 | k::s,l,hs,hl=>by
  by_cases c:cW k l
  · have:=aM9 s l (fun y hy=>hs y (by simp[hy])) hl
    rw[tD c,sm,sm];simp only[];grind
  · by_cases d:cW l k
    · rw[wU c d,sm];grind
    · have:=aSa (hs k (by simp)) hl
      rw[wT c d,sm,sm];simp only[];grind
theorem aKa {a b c:QL}(h:cW a b)(g:cW b c):cW a c:=by unfold cW at *;omega
theorem aKO:∀ (s:List QL) (l:QL),s.Pairwise cW->(jI s l).1.Pairwise cW
 | [],l,_=>by simp[jI]
 | k::s,l,h=>by
  rw[aVa]at h
  by_cases c:cW k l
  · rw[tD c]
    simp only[]
    rw[aVa]
    refine⟨aD7 (P:=fun x=>cW k x) (fun a b e1 e2 g1 g2=>?_) s l h.1 c,aKO s l h.2⟩
    exact g1
  · by_cases d:cW l k
    · rw[wU c d]
      simp only[]
      rw[aVa]
      refine⟨fun x hx=>?_,aVa.2 h⟩
      rcases aUr.1 hx with rfl | hx
      · exact d
      · exact aKa d (h.1 x hx)
    · rw[wT c d]
      simp only[]
      rw[aVa]
      exact⟨fun x hx=>h.1 x hx,h.2⟩
def Sc (D:Nat)(l:QL):Prop:=0<l.w/\Dv D l.w/\Dv D (mx l)/\Dv D (my l)
theorem aSB {D:Nat}{k l:QL}(hk:Sc D k)(hl:Sc D l):Sc D (mrg k l):=by
 refine⟨aMB hk.1 hl.1,kN hk.2.1 hl.2.1,?_,?_⟩
 · rw[aR9 hk.1 hl.1];exact kN hk.2.2.1 hl.2.2.1
 · rw[aR8 hk.1 hl.1];exact kN hk.2.2.2 hl.2.2.2
theorem aSC {D E:Nat}{l:QL}(h:Sc D l)(hd:D∣E):Sc E l:=⟨h.1,xH h.2.1 hd,xH h.2.2.1 hd,xH h.2.2.2 hd⟩
def nm (D:Nat)(w:Q):Nat:=(w*(D:Q)).num.toNat
theorem zN {D:Nat}{w:Q}(hD:0<D)(hw:0<w)(h:Dv D w):(nm D w:Q)=w*(D:Q)/\0<nm D w:=by
 obtain⟨z,hz⟩:=h
 have hD':(0:Q)<(D:Q):=by
  have:((0:Nat):Q)<(D:Q):=_root_.Rat.natCast_lt_natCast.2 hD
  simpa using this
 have hp:0<w*(D:Q):=_root_.Rat.mul_pos hw hD'
 have hzp:0<z:=by
  have:((0:Int):Q)<(z:Q):=by rw[<- hz];exact hp
  exact _root_.Rat.intCast_lt_intCast.1 this
 unfold nm
 rw[hz]
 have e:((z:Q)).num=z:=rfl
 rw[e]
 refine⟨?_,by omega⟩
 have e2:((z.toNat:Int):Q)=(z:Q):=by rw[Int.toNat_of_nonneg (by omega)]
 exact e2
theorem aDB {D W:Nat}{w:Q}(hD:0<D)(hw:0<w)(h:Dv D w)(hW:w<=(W:Q)):nm D w<=W*D:=by
 have hD':(0:Q)<=(D:Q):=by
  have:((0:Nat):Q)<=(D:Q):=aWU.2 (aVk _)
  simpa using this
 have h1:=(zN hD hw h).1
 have h2:w*(D:Q)<=(W:Q)*(D:Q):=aWW hW hD'
 rw[<- h1,<- aVD]at h2
 exact aWU.1 h2
theorem aEf {D:Nat}{w a:Q}(hD:0<D)(hw:0<w)(h:Dv D w)(ha:Dv D a):Dv (nm D w) (a / w):=by
 obtain⟨z,hz⟩:=ha
 refine⟨z,?_⟩
 rw[(zN hD hw h).1,<- hz]
 have:w≠0:=by grind
 grind
theorem aS9 {l:QL}(h:0<l.w):l.x=mx l / l.w/\l.y=my l / l.w:=by
 have:l.w≠0:=by grind
 unfold mx my
 constructor <;> grind
theorem aJr {D:Nat}{l:QL}(hD:0<D)(h:Sc D l):Dv (nm D l.w) l.x/\Dv (nm D l.w) l.y:=by
 rw[(aS9 h.1).1,(aS9 h.1).2]
 exact⟨aEf hD h.1 h.2.1 h.2.2.1,aEf hD h.1 h.2.1 h.2.2.2⟩
theorem aKU {D:Nat}{l:QL}(hD:0<D)(h:Sc D l):Dv (D*nm D l.w) (enQ l):=by
 have e:enQ l=mx l*l.x+my l*l.y:=by unfold enQ sqQ mx my;grind
 rw[e]
 exact kN (sN h.2.2.1 (aJr hD h).1) (sN h.2.2.2 (aJr hD h).2)
def pn (D:Nat):List QL->Nat
 | []=>1
 | x::l=>nm D x.w*pn D l
theorem aLi (D:Nat):∀ a b:List QL,pn D (a++b)=pn D a*pn D b
 | [],b=>by simp[pn]
 | x::a,b=>by rw[aUB,pn,pn,aLi D a b,aVr]
theorem aGb (D:Nat):∀ {l:List QL},∀ x∈l,nm D x.w∣pn D l
 | y::l,x,hx=>by
  rw[pn]
  rcases aUr.1 hx with rfl | hx
  · exact aWB _ _
  · exact aWL (aGb D x hx) (aWG _ _)
theorem aC3 {D:Nat}(hD:0<D):∀ {l:List QL},(∀ x∈l,Sc D x)->0<pn D l
 | [],_=>by simp[pn]
 | x::l,h=>aU6 (zN hD (h x (by simp)).1 (h x (by simp)).2.1).2 (aC3 hD (fun y hy=>h y (by simp[hy])))
theorem aGc {D W:Nat}(hD:0<D):∀ {l:List QL},(∀ x∈l,Sc D x)->(∀ x∈l,x.w<=(W:Q))->pn D l<=(W*D) ^ l.length
 | [],_,_=>by simp[pn]
 | x::l,h,g=>by
  rw[pn,aUC,aVI,aU7]
  exact aUX (aGc hD (fun y hy=>h y (by simp[hy])) (fun y hy=>g y (by simp[hy]))) (aDB hD (h x (by simp)).1 (h x (by simp)).2.1 (g x (by simp)))
theorem aHu {T:Nat}{f:QL->Q}:∀ {l:List QL},(∀ x∈l,Dv T (f x))->Dv T (sm f l)
 | [],_=>⟨0,by simp[sm]⟩
 | x::l,h=>kN (h x (by simp)) (aHu (fun y hy=>h y (by simp[hy])))
theorem aHf {D:Nat}(hD:0<D){l:List QL}(h:∀ x∈l,Sc D x):Dv (D*pn D l) (sm enQ l) :=
 aHu fun x hx=>xH (aKU hD (h x hx)) (aWe D (aGb D x hx))
/- Joining computes with few digits only. -/
def bd (B:Nat)(q:Q):Prop:=-(B:Q)<=q/\q<=(B:Q)
theorem zY (n:Nat):(0:Q)<=(n:Q):=by
 have:((0:Nat):Q)<=(n:Q):=aWU.2 (aVk _)
 simpa using this
theorem aC5 {m n:Nat}(h:m<=n):(m:Q)<=(n:Q):=aWU.2 h
theorem aD5 {A B:Nat}{p:Q}(h:bd A p)(hl:A<=B):bd B p:=by
 have:=aC5 hl
 unfold bd at *;grind
theorem aDj {A B:Nat}{p q:Q}(hp:bd A p)(hq:bd B q):bd (A+B) (p+q):=by
 unfold bd at *;rw[aW7];grind
theorem aB4 {A B:Nat}{p q:Q}(hp:bd A p)(hq:bd B q):bd (A+B) (p-q):=by
 unfold bd at *;rw[aW7];grind
theorem aPN {A:Nat}{p:Q}(hp:bd A p):bd A (-p):=by
 unfold bd at *;grind
theorem pF {A B:Nat}{p q:Q}(hp:bd A p)(hq:bd B q):bd (A*B) (p*q):=by
 unfold bd at *
 rw[aVD]
 have a1:0<=((A:Q)-p)*((B:Q)+q):=aVq (by grind) (by grind)
 have a2:0<=((A:Q)+p)*((B:Q)-q):=aVq (by grind) (by grind)
 have a3:0<=((A:Q)+p)*((B:Q)+q):=aVq (by grind) (by grind)
 have a4:0<=((A:Q)-p)*((B:Q)-q):=aVq (by grind) (by grind)
 constructor <;> grind
theorem aG0 {A:Nat}{p w:Q}(hw:0<w)(h1:-(A:Q)*w<=p)(h2:p<=(A:Q)*w):bd A (p / w):=by
 have e:p / w*w=p:=_root_.Rat.div_mul_cancel (by grind)
 constructor
 · exact aW0 (by rw[e];exact h1) hw
 · exact aW0 (by rw[e];exact h2) hw
theorem aFE {A:Nat}{w x:Q}(hw:0<w)(h:bd A x):-(A:Q)*w<=w*x/\w*x<=(A:Q)*w:=by
 have h1:0<=w*(x+A):=aVq (by grind) (by unfold bd at h;grind)
 have h2:0<=w*(A-x):=aVq (by grind) (by unfold bd at h;grind)
 constructor <;> grind
theorem aJn {A:Nat}{w v x y:Q}(hw:0<w)(hv:0<v)(hx:bd A x)(hy:bd A y):bd A ((w*x+v*y) / (w+v)):=by
 obtain⟨a1,a2⟩:=aFE hw hx
 obtain⟨b1,b2⟩:=aFE hv hy
 exact aG0 (by grind) (by grind) (by grind)
def PP:Nat:=72 ^ 16
theorem aSJ:0<PP:=by decide
theorem tW {a b T U:Nat}(h:T<=PP ^ a)(g:U<=PP ^ b):T*U<=PP ^ (a+b):=by
 rw[Nat.pow_add];exact aUX h g
theorem iB {a b T:Nat}(h:T<=PP ^ a)(g:a<=b):T<=PP ^ b:=aUE h (aU9 aSJ g)
theorem cS {T B:Nat}{q:Q}(hT:0<T)(h:Dv T q)(h1:bd B q)(hB:0<B)(b:B<=10 ^ 12)(t:T<=PP ^ 6):bN q:=by
 refine aJc hT h h1.1 h1.2 hB (aVW (aUX b t) ?_)
 rw[aQh];unfold PP;decide
theorem aNh {W:Nat}{w:Q}(h:0<w)(h2:w<=(W:Q)):bd W w:=⟨by have:=zY W;grind,h2⟩
structure Lk (D X:Nat)(l:QL):Prop where
 sc:Sc D l
 bx:bd X l.x
 by':bd X l.y
theorem aSN {D X:Nat}{k l:QL}(hk:Lk D X k)(hl:Lk D X l):Lk D X (mrg k l) :=
 ⟨aSB hk.sc hl.sc,aJn hk.sc.1 hl.sc.1 hk.bx hl.bx,aJn hk.sc.1 hl.sc.1 hk.by' hl.by'⟩
theorem aGJ {D X:Nat}{l:QL}(hD:0<D)(hP:72*D<=PP)(h:Lk D X l)(hX:X<=2000)(h0:0<X)(hw:l.w<=72):l.fit:=by
 have hn:=aDB hD h.sc.1 h.sc.2.1 (W:=72) hw
 have np:=(zN hD h.sc.1 h.sc.2.1).2
 obtain⟨x1,x2⟩:=aJr hD h.sc
 have e1:D<=PP ^ 6:=iB (a:=1) (by rw[aVQ];omega) (by omega)
 have e2:nm D l.w<=PP ^ 6:=iB (a:=1) (by rw[aVQ];omega) (by omega)
 exact⟨cS hD h.sc.2.1 (aNh (W:=72) h.sc.1 hw) (by omega) (by omega) e1,cS np x1 h.bx h0 (by omega) e2,cS np x2 h.by' h0 (by omega) e2⟩
theorem aNA {D X:Nat}{k l:QL}(hD:0<D)(hP:72*D<=PP)(hX:X<=2000)(h0:0<X)(hk:Lk D X k)(hl:Lk D X l)(hw:k.w+l.w<=72):aI5 k l:=by
 have pk:=hk.sc.1
 have pl:=hl.sc.1
 have kw:k.w<=((72:Nat):Q):=by show k.w<=72;grind
 have lw:l.w<=((72:Nat):Q):=by show l.w<=72;grind
 have sw:k.w+l.w<=((72:Nat):Q):=hw
 have dk:=hk.sc.2.1
 have dl:=hl.sc.2.1
 have ds:=kN dk dl
 have ps:0<k.w+l.w:=by grind
 have nk:=aDB hD pk dk kw
 have nl:=aDB hD pl dl lw
 have ns:=aDB hD ps ds sw
 have qk:=(zN hD pk dk).2
 have ql:=(zN hD pl dl).2
 obtain⟨qe,qs⟩:=zN hD ps ds
 obtain⟨xk,yk⟩:=aJr hD hk.sc
 obtain⟨xl,yl⟩:=aJr hD hl.sc
 have eD:D<=PP ^ 1:=by rw[aVQ];omega
 have eK:nm D k.w<=PP ^ 1:=by rw[aVQ];omega
 have eL:nm D l.w<=PP ^ 1:=by rw[aVQ];omega
 have eS:nm D (k.w+l.w)<=PP ^ 1:=by rw[aVQ];omega
 have bk:=aNh pk kw
 have bl':=aNh pl lw
 have bs:=aNh ps sw
 have X2:X*X<=4000000:=aUX hX hX
 have X3:0<X*X:=aU6 h0 h0
 have cw:Dv (D*nm D (k.w+l.w)) (k.w*l.w / (k.w+l.w)):=by
  obtain⟨z,hz⟩:=sN dk dl
  refine⟨z,?_⟩
  rw[<- hz,aVD,aVD,qe]
  have:k.w+l.w≠0:=by grind
  grind
 have cb:bd 72 (k.w*l.w / (k.w+l.w)):=by
  have e:=aFE pk bl'
  have p2:0<k.w*k.w:=_root_.Rat.mul_pos pk pk
  have p3:0<k.w*l.w:=_root_.Rat.mul_pos pk pl
  exact aG0 ps (by have:=zY 72;have:=aVq this (Std.le_of_lt ps);grind) (by have:=aVq (zY 72) (Std.le_of_lt pl);grind)
 have dx:=pG (qQ (nm D l.w) xk) (by rw[aU7];exact qQ (nm D k.w) xl)
 have dy:=pG (qQ (nm D l.w) yk) (by rw[aU7];exact qQ (nm D k.w) yl)
 have bx:=aB4 hk.bx hl.bx
 have by_:=aB4 hk.by' hl.by'
 have qn:0<nm D k.w*nm D l.w:=aU6 qk ql
 have en2:nm D k.w*nm D l.w<=PP ^ 2:=tW eK eL
 have dxx:=sN dx dx
 have dyy:=sN dy dy
 have qnn:=aU6 qn qn
 have en4:(nm D k.w*nm D l.w)*(nm D k.w*nm D l.w)<=PP ^ 4:=tW en2 en2
 have bxx:=pF bx bx
 have byy:=pF by_ by_
 have e4:(X+X)*(X+X)=4*(X*X):=by rw[<- Nat.two_mul,Nat.mul_mul_mul_comm]
 rw[e4]at bxx byy
 have bsq:=aDj bxx byy
 have dsq:=kN dxx dyy
 refine⟨⟨?_,?_,?_,?_,?_⟩,⟨?_,?_,?_,?_⟩,⟨?_,?_,?_,?_⟩,?_,?_,?_,?_⟩
 · exact cS hD ds bs (by omega) (by omega) (iB eD (by omega))
 · exact cS hD hk.sc.2.2.1 (pF bk hk.bx) (by omega) (by omega) (iB eD (by omega))
 · exact cS hD hl.sc.2.2.1 (pF bl' hl.bx) (by omega) (by omega) (iB eD (by omega))
 · exact cS hD (kN hk.sc.2.2.1 hl.sc.2.2.1) (aDj (pF bk hk.bx) (pF bl' hl.bx)) (by omega) (by omega) (iB eD (by omega))
 · exact cS qs (aEf hD ps ds (kN hk.sc.2.2.1 hl.sc.2.2.1)) (aJn pk pl hk.bx hl.bx) h0 (by omega) (iB eS (by omega))
 · exact cS hD hk.sc.2.2.2 (pF bk hk.by') (by omega) (by omega) (iB eD (by omega))
 · exact cS hD hl.sc.2.2.2 (pF bl' hl.by') (by omega) (by omega) (iB eD (by omega))
 · exact cS hD (kN hk.sc.2.2.2 hl.sc.2.2.2) (aDj (pF bk hk.by') (pF bl' hl.by')) (by omega) (by omega) (iB eD (by omega))
 · exact cS qs (aEf hD ps ds (kN hk.sc.2.2.2 hl.sc.2.2.2)) (aJn pk pl hk.by' hl.by') h0 (by omega) (iB eS (by omega))
 · exact cS (aU6 hD hD) (sN dk dl) (pF bk bl') (by omega) (by omega) (iB (tW eD eD) (by omega))
 · exact cS (aU6 hD qs) cw cb (by omega) (by omega) (iB (tW eD eS) (by omega))
 · exact cS qn dx bx (by omega) (by omega) (iB en2 (by omega))
 · exact cS qn dy by_ (by omega) (by omega) (iB en2 (by omega))
 · exact cS qnn dxx bxx (by omega) (by omega) (iB en4 (by omega))
 · exact cS qnn dyy byy (by omega) (by omega) (iB en4 (by omega))
 · exact cS qnn dsq bsq (by omega) (by omega) (iB en4 (by omega))
 · exact cS (aU6 (aU6 hD qs) qnn) (sN cw dsq) (pF cb bsq) (by omega) (by omega) (tW (tW eD eS) en4)
/- Joining succeeds where scale and energies are small. -/
def inV (V:List Int)(x:QL):Prop:=x.a∈V/\x.b∈V/\x.a<x.b
theorem aLm {s:List QL}(h:s.Pairwise cW):(s.map fun x=>(x.a,x.b)).Nodup:=by
 rw[List.Nodup,aVz]
 refine h.imp fun {a b} hab e=>?_
 injection e with e1 e2
 unfold cW at hab;omega
theorem aJU {s:List QL}(h:s.Pairwise cW):(s.map fun x=>(x.b,x.a)).Nodup:=by
 rw[List.Nodup,aVz]
 refine h.imp fun {a b} hab e=>?_
 injection e with e1 e2
 unfold cW at hab;omega
theorem aJQ (V:List Int):∀ U:List Int,(U.flatMap fun u=>V.map fun v=>(u,v)).length=U.length*V.length
 | []=>by simp
 | u::U=>by rw[aVc,aUF,aJQ V U,aUM,aUC,aV6,Nat.add_comm]
theorem aGx {U V:List Int}{u v:Int}(hu:u∈U)(hv:v∈V):(u,v)∈U.flatMap fun u=>V.map fun v=>(u,v) :=
 aVN.2 ⟨u,hu,aUJ.2 ⟨v,hv,rfl⟩⟩
theorem aCe {V:List Int}(hV:V.Nodup){s:List QL}(ho:s.Pairwise cW)(h:∀ x∈s,inV V x):2*s.length+V.length<=V.length*V.length:=by
 have n1:((s.map fun x=>(x.a,x.b))++((s.map fun x=>(x.b,x.a))++V.map fun v=>(v,v))).Nodup:=by
  rw[aUQ,aUQ]
  refine⟨aLm ho,⟨aJU ho,?_,?_⟩,?_⟩
  · rw[List.Nodup,aVz]
    exact hV.imp fun {a b} hab e=>by injection e with e1 e2;exact hab e1
  · intro p hp q hq e
    obtain⟨x,hx,rfl⟩:=aUJ.1 hp
    obtain⟨v,hv,rfl⟩:=aUJ.1 hq
    injection e with e1 e2
    have:=(h x hx).2.2;omega
  · intro p hp q hq e
    obtain⟨x,hx,rfl⟩:=aUJ.1 hp
    have:=(h x hx).2.2
    rcases aUz.1 hq with hq | hq
    · obtain⟨y,hy,rfl⟩:=aUJ.1 hq
      injection e with e1 e2
      have:=(h y hy).2.2;omega
    · obtain⟨v,hv,rfl⟩:=aUJ.1 hq
      injection e with e1 e2;omega
 have:=n1.length_le_of_subset (l₂:=V.flatMap fun u=>V.map fun v=>(u,v)) (fun p hp=>by
  rcases aUz.1 hp with hp | hp
  · obtain⟨x,hx,rfl⟩:=aUJ.1 hp
    exact aGx (h x hx).1 (h x hx).2.1
  · rcases aUz.1 hp with hp | hp
    · obtain⟨x,hx,rfl⟩:=aUJ.1 hp
      exact aGx (h x hx).2.1 (h x hx).1
    · obtain⟨v,hv,rfl⟩:=aUJ.1 hp
      exact aGx hv hv)
 rw[aJQ]at this
 simp only[aUF,aUM]at this
 omega
theorem aIr:∀ (s:List QL) (l:QL),(∀ k∈s,k.w+l.w≠0/\aI5 k l)->aDk s l
 | [],_,_=>trivial
 | k::s,l,h=>by
  unfold aDk
  split
  · exact aIr s l (fun y hy=>h y (by simp[hy]))
  · split
    · trivial
    · exact h k (by simp)
theorem aCu {l:QL}(h:0<l.w):0<=enQ l:=by
 unfold enQ sqQ
 have h0:∀ z:Q,0<=z*z:=fun z=>by
  rcases _root_.Rat.le_total (a:=0) (b:=z)with c | c
  · exact aVq c c
  · have:=aVq (a:=-z) (b:=-z) (by grind) (by grind);grind
 exact aVq (by grind) (by have:=h0 l.x;have:=h0 l.y;grind)
theorem aRD {D X:Nat}{l:QL}(h:Lk D X l):enQ l<=((2*(X*X):Nat):Q)*l.w:=by
 have h1:=pF h.bx h.bx
 have h2:=pF h.by' h.by'
 have h3:=aDj h1 h2
 have e:X*X+X*X=2*(X*X):=by omega
 rw[e]at h3
 have:=(aFE h.sc.1 h3).2
 unfold enQ sqQ;exact this
theorem aOg {D X:Nat}{l:List QL}(h:∀ x∈l,Lk D X x):sm enQ l<=((2*(X*X):Nat):Q)*sm wt l:=by
 rw[<- aLb]
 exact aOf fun x hx=>aRD (h x hx)
theorem uK {D X:Nat}{l:List QL}(h:∀ x∈l,Lk D X x)(hX:X<=1600)(hw:sm wt l<=72):0<=sm enQ l/\sm enQ l<=((10 ^ 9:Nat):Q):=by
 refine⟨oU fun x hx=>aCu (h x hx).sc.1,?_⟩
 have h1:=aOg h
 have h2:X*X<=1600*1600:=aUX hX hX
 have h3:((2*(X*X):Nat):Q)*sm wt l<=((2*(X*X):Nat):Q)*72:=_root_.Rat.mul_le_mul_of_nonneg_left hw (zY _)
 have h4:((2*(X*X)*72:Nat):Q)<=((10 ^ 9:Nat):Q):=aC5 (by omega)
 rw[aVD]at h4
 have h5:((72:Nat):Q)=72:=rfl
 rw[h5]at h4
 grind
theorem iO {D X:Nat}{l:List QL}(h:∀ x∈l,Lk D X x):0<=sm wt l:=oU fun x hx=>by have:=(h x hx).sc.1;unfold wt;grind
theorem wZ {D X:Nat}{l:List QL}(h:∀ x∈l,Lk D X x){x:QL}(hx:x∈l):x.w<=sm wt l:=aIH (f:=wt) (fun y hy=>by have:=(h y hy).sc.1;unfold wt;grind) x hx
structure Jn (D T X γ:Nat)(V:List Int):Prop where
 hD:0<D
 hP:72*D<=PP
 hX:X<=1600
 h0:0<X
 hT:0<T
 hV:V.Nodup
 hg:V.length*V.length<=2*γ+V.length
 hB:10 ^ 9*(T*(D*(72*D) ^ γ))<BB ^ 24
theorem aNl {D T X γ:Nat}{V:List Int}(j:Jn D T X γ V){s:List QL}(hs:∀ x∈s,Lk D X x/\inV V x)(ho:s.Pairwise cW)(hw:sm wt s<=72):0<D*pn D s/\D*pn D s<=D*(72*D) ^ γ/\Dv (D*pn D s) (sm enQ s):=by
 have hl:=aCe j.hV ho (fun x hx=>(hs x hx).2)
 have hg:=j.hg
 have h1:=aGc (W:=72) j.hD (fun x hx=>(hs x hx).1.sc) (fun x hx=>by
  have:=wZ (fun y hy=>(hs y hy).1) hx
  show x.w<=72;grind)
 have hD:=j.hD
 refine⟨aU6 j.hD (aC3 j.hD (fun x hx=>(hs x hx).1.sc)),aUS D (aUE h1 (aU9 (by omega) (by omega))),aHf j.hD (fun x hx=>(hs x hx).1.sc)⟩
theorem aNW {D T X γ:Nat}{V:List Int}(j:Jn D T X γ V){s:List QL}(hs:∀ x∈s,Lk D X x/\inV V x)(ho:s.Pairwise cW)(hw:sm wt s<=72){q:Q}(hq:Dv T q)(h0:0<=q)(h1:q<=((10 ^ 9:Nat):Q)):bN (q-sm enQ s):=by
 obtain⟨a1,a2,a3⟩:=aNl j hs ho hw
 obtain⟨b1,b2⟩:=uK (fun x hx=>(hs x hx).1) j.hX hw
 have d:=pG (qQ (D*pn D s) hq) (by rw[aU7];exact qQ T a3)
 refine aJc (B:=10 ^ 9) (aU6 j.hT a1) d ?_ ?_ (by omega) (aVW (aUS _ (aUS T a2)) j.hB)
 · grind
 · grind
theorem aDT {D T X γ:Nat}{V:List Int}(j:Jn D T X γ V):∀ (l s:List QL) (q:Q),(∀ x∈l,Lk D X x/\inV V x/\Dv T (enQ x))->(∀ x∈s,Lk D X x/\inV V x)->s.Pairwise cW->sm wt s+sm wt l<=72->Dv T q->0<=q->q+sm enQ l<=((10 ^ 9:Nat):Q)->
 aA3 l s (q-sm enQ s)/\(∀ x∈(aU l s (q-sm enQ s)).1,Lk D X x/\inV V x)/\(aU l s (q-sm enQ s)).1.Pairwise cW/\(aU l s (q-sm enQ s)).2=q+sm enQ l-sm enQ (aU l s (q-sm enQ s)).1/\sm wt (aU l s (q-sm enQ s)).1=sm wt s+sm wt l
 | [],s,q,_,hs,ho,_,_,_,_=>by
  refine⟨trivial,hs,ho,?_,?_⟩
  · simp only[aU,sm];grind
  · simp only[aU,sm];grind
 | x::r,s,q,hl,hs,ho,hw,hq,h0,hb=>by
  obtain⟨x1,x2,x3⟩:=hl x (by simp)
  have hr:∀ y∈r,Lk D X y/\inV V y/\Dv T (enQ y):=fun y hy=>hl y (by simp[hy])
  rw[sm]at hw hb
  have wr:=iO (fun y hy=>(hr y hy).1)
  have ws:=iO (fun y hy=>(hs y hy).1)
  have wx:(0:Q)<wt x:=x1.sc.1
  have hp:∀ y∈s,0<y.w:=fun y hy=>(hs y hy).1.sc.1
  have e1:=aM9 s x hp x1.sc.1
  have e2:=aM8 (f:=wt) (fun k l _ _ _ _=>aR7 k l) s x hp x1.sc.1
  have n1:=aD7 (P:=fun y=>Lk D X y/\inV V y) (fun a b _ _ g1 g2=>⟨aSN g1.1 g2.1,g1.2⟩) s x hs ⟨x1,x2⟩
  have n2:=aKO s x ho
  have e3:q-sm enQ s+(jI s x).2=(q+enQ x)-sm enQ (jI s x).1:=by grind
  have er:=oU (f:=enQ) (fun y hy=>aCu (hr y hy).1.sc.1)
  have ex:=aCu x1.sc.1
  have hq':=kN hq x3
  obtain⟨g1,g2,g3,g4,g5⟩:=aDT j r (jI s x).1 (q+enQ x) hr n1 n2 (by rw[e2];grind) hq' (by grind) (by grind)
  have ft:bN ((q+enQ x)-sm enQ (jI s x).1):=aNW j n1 n2 (by rw[e2];grind) hq' (by grind) (by grind)
  have af:aDk s x:=aIr s x fun k hk=>by
   have:=hp k hk
   have:=wZ (fun y hy=>(hs y hy).1) hk
   unfold wt at wx
   refine⟨by grind,aNA j.hD j.hP (by have:=j.hX;omega) j.h0 (hs k hk).1 x1 (by
    have e:wt x=x.w:=rfl
    grind)⟩
  rw[aU,aA3,e3]
  refine⟨⟨af,ft,g1⟩,g2,g3,?_,?_⟩
  · rw[g4,sm];grind
  · rw[g5,e2,sm];grind
/- Comparison of links, conditionals, tree nodes; nodes that have changed. -/
theorem aFT (a b:List Int)(h:a.length<=4294967296):oW a b=some (decide (a=b)):=by
 unfold oW
 by_cases hl:a.length=b.length
 · rw[aUq (by omega),aSd a b hl (fun k ha hb=>by
    unfold qZ
    rw[aUs (by omega),aH ha,aH hb,wi (by omega)]
    simp only[aUp]
    by_cases c:a[k]=b[k]
    · rw[aUq (by simp[c]),aUs c]
    · rw[aUs c,aUq c]) (by unfold qZ;rw[aUq (by omega)])]
   by_cases c:a=b <;> simp[c]
 · rw[aUs (by omega)]
   have:a≠b:=by rintro rfl;exact hl rfl
   simp[this]
theorem aBh (r s:Rat)(h:bO r<=4294967296):eT r s=some (decide (r=s)):=by
 obtain⟨⟨a,m⟩,d⟩:=r
 obtain⟨⟨a',m'⟩,d'⟩:=s
 unfold bO uW yB at h
 rw[tH,tH]at h
 simp only at h
 unfold eT
 simp only[]
 rw[aFT m m' (by omega),aFT d d' (by omega)]
 by_cases c1:a=a' <;> by_cases c2:m=m' <;> by_cases c3:d=d' <;> simp[c1,c2,c3]
theorem aE8 (r s:Rat)(h:bO r<=4294967296):rN r s=some (decide (r=s)):=aBh r s h
/- Conditionals that are valid. -/
theorem aNi (c:Conditional)(h:aW c<=4294967296)(hg:∀ j (hj:j<c.fParents.length),aGg c j c.fParents[j]):∀ m k:Nat,m+k=c.fParents.length->∀ s:Rat,VZ s->
 lp (bF c) ((k:Int),s)=some (.inl (((c.fParents.drop k).map (·.fShare)).foldl RA s)):=by
 have hl:=(aIX h).1
 intro m
 induction m with
 | zero =>
  intro k hk s hs
  rw[aUW (by omega)]
  exact aG (by unfold bF;simp only[];rw[aUq (by omega)];rfl)
 | succ m ih =>
  intro k hk s hs
  have hlt:k<c.fParents.length:=by omega
  obtain⟨z1,z2,z3⟩:=aRo h hlt
  obtain⟨g1,g2⟩:=aAF _ z1
  have b1:=dR _ z2
  have b2:=dR _ z3
  obtain⟨A,B,C,D,E,F⟩:=hg k hlt
  obtain⟨t1,_,t3⟩:=aBp hs (.inl (aAl D))
  have w1:IntKind.i64.wrap ((k:Int)+1)=((k+1:Nat):Int):=by rw[wi (by omega)];omega
  have D':¬xR (c.fParents[k]).fShare<=0:=by omega
  have st:bF c ((k:Int),s)=some (.inl (((k+1:Nat):Int),RA s (c.fParents[k]).fShare)):=by
   have hin:(k:Int)<(c.fParents.length:Int):=by omega
   unfold bF
   simp only[hin,aUK,aH hlt,aUp,aED,g1,b1,b2,t1,w1]
   by_cases K:0<k
   · have hlt2:k-1<c.fParents.length:=by omega
     have w2:IntKind.i64.wrap ((k:Int)-1)=((k-1:Nat):Int):=by rw[wi (by omega)];omega
     have K':(0:Int)<(k:Int):=by omega
     have C':=C (c.fParents[k-1]) K (by rw[aUG hlt2])
     have C'':¬(c.fParents[k]).fNode<=(c.fParents[k-1]).fNode:=by omega
     simp[A,B,K,K',D',w2,aH hlt2,C'',E,F]
   · have K':¬(0:Int)<(k:Int):=by omega
     simp[A,B,K,K',D',E,F]
  rw[aO st,ih (k+1) (by omega) _ t3,aUw hlt]
  rfl
theorem aK1 (c:Conditional)(h:aW c<=4294967296)(h1:1<=c.fNode/\c.fNode<=9)(h2:0<xR c.fTotal)(h3:c.fParents≠[])(hg:∀ j (hj:j<c.fParents.length),aGg c j c.fParents[j])(hs:(c.fParents.map (·.fShare)).foldl RA (nH 0)=nH 1):bJ c=some true:=by
 obtain⟨hl,hT⟩:=aIX h
 obtain⟨g1,g2⟩:=aAF _ hT
 have e:=aNi c h hg c.fParents.length 0 (by omega) (nH 0) aMo
 rw[show((0:Nat):Int)=0 from rfl,aVn,hs]at e
 have hp:(0:Int)<(c.fParents.length:Int):=by
  have:=List.length_pos_iff.2 h3;omega
 unfold bJ
 rw[fM 0 (by omega),fM 1 (by omega)]
 simp only[aUp,e,g1,aCp]
 simp[h1,h2,h3,hp,aE8 (nH 1) (nH 1) (VZs (.inl (aAR 1 (by omega))))]
end Go.Ev
