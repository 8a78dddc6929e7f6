/- Parts PR5, PR6, PR7, PR8, PR9, P21, PS1, PS2, PS3. -/
import Derived.Test.YthjpgecdkmiadaaGreatPb2
import Derived.Test.YthjpgecdkmiadaaGreatPb1
import Derived.Test.YthjpgecdkmiadaaGreatPa1
set_option linter.all false
/- Eliminating a node of a link set, both programs. -/
namespace Go.Ev
open IntKind
set_option linter.all false
noncomputable def tQ (a:List l08Arm):Rat:=a.foldl (fun t a=>RA t a.fweight) (xT 0)
noncomputable def gH (t:Rat) (a:l08Arm):Parent:=⟨a.fnode,RD a.fweight t,a.fdx,a.fdy⟩
noncomputable def uY (t:Rat) (a b:l08Arm):Link:=⟨a.fnode,b.fnode,RD (RM a.fweight b.fweight) t,RS a.fdx b.fdx,RS a.fdy b.fdy⟩
noncomputable def iR (t:Rat):List l08Arm→List Link
  | []=>[]
  | a::r=>r.map (uY t a)++iR t r
noncomputable def aBu (v:Int) (a:List l08Arm):Conditional:=⟨v,tQ a,a.map (gH (tQ a))⟩
def zD (v:Int) (a:List l08Arm):Prop:=dX (aBu v a)=some true
noncomputable instance (v:Int) (a:List l08Arm):Decidable (zD v a):=Classical.propDecidable _
noncomputable def yT (v:Int) (s:List Link):Option (Conditional × List Link) :=
  if (1≤v∧v≤9)∧zD v (bS v s)∧(∀ x ∈ iR (tQ (bS v s)) (bS v s),ValidL x) then some (aBu v (bS v s),iR (tQ (bS v s)) (bS v s)) else none
theorem aJ2 {v:Int} {s:List Link} (h:(1≤v∧v≤9)∧zD v (bS v s)∧(∀ x ∈ iR (tQ (bS v s)) (bS v s),ValidL x)):yT v s=some (aBu v (bS v s),iR (tQ (bS v s)) (bS v s)):=by unfold yT;rw [if_pos h]
theorem aBJ {v:Int} {s:List Link} (h:¬((1≤v∧v≤9)∧zD v (bS v s)∧(∀ x ∈ iR (tQ (bS v s)) (bS v s),ValidL x))):yT v s=none:=by unfold yT;rw [if_neg h]
def aEr:Conditional:=Conditional.mk 0 (Rat.mk (BigInt.mk false ([])) ([])) ([])
def pkE:Option (Conditional × List Link)→Conditional × List Link × Bool
  | some (c,m)=>(c,m,true)
  | none=>(aEr,[],false)
theorem aId:∀ (a:List l08Arm) (t:Rat),(∀ x ∈ a,wW x)→VZ t→VZ (a.foldl (fun t a=>RA t a.fweight) t)
  | [],t,_,h=>h
  | x::a,t,ho,h=>aId a _ (fun y hy=>ho y (by simp [hy])) (aCz h (ho x (by simp)).2.1).2.2
theorem aAf {a:List l08Arm} (h:∀ x ∈ a,wW x):VZ (tQ a):=aId a _ h (.inl aBD)
theorem aCt {α β:Type} (g:α→β):∀ (l:List α) (t:List β),l.foldl (fun t b=>t++[g b]) t=t++l.map g
  | [],t=>by simp
  | x::l,t=>by rw [List.foldl_cons,aCt g l,List.map_cons,List.append_assoc];rfl
theorem aHY {t:Rat} {a b:l08Arm} (ht:VZ t) (ha:wW a) (hb:wW b):aT (uY t a b)≤144:=by
  have h1:=qB (aGc (aFO ha.2.1 hb.2.1).2.2 ht).2.2
  have h2:=qB (aIy ha.2.2.1 hb.2.2.1).2.2
  have h3:=qB (aIy ha.2.2.2 hb.2.2.2).2.2
  unfold aT uY;simp only [];omega
theorem aJN {t:Rat} (ht:VZ t):∀ {a:List l08Arm},(∀ x ∈ a,wW x)→∀ x ∈ iR t a,aT x≤144
  | [],_,x,hx=>by cases hx
  | a::r,h,x,hx=>by
    rw [iR] at hx
    rcases List.mem_append.1 hx with hx | hx
    · obtain ⟨b,hb,rfl⟩:=List.mem_map.1 hx
      exact aHY ht (h a (by simp)) (h b (by simp [hb]))
    · exact aJN ht (fun y hy=>h y (by simp [hy])) x hx
theorem aE6 (t:Rat):∀ {a:List l08Arm} {n:Nat},a.length≤n→(iR t a).length≤n*a.length
  | [],n,_=>by simp [iR]
  | a::r,n,h=>by
    rw [List.length_cons] at h
    have:=aE6 t (a:=r) (n:=n) (by omega)
    rw [iR,List.length_append,List.length_map,List.length_cons,Nat.mul_add,Nat.mul_one];omega
theorem aLq (t:Rat):∀ {a:List l08Arm} {x:Link},x ∈ iR t a→∃ y ∈ a,x.fA=y.fnode
  | [],x,hx=>by cases hx
  | a::r,x,hx=>by
    rw [iR] at hx
    rcases List.mem_append.1 hx with hx | hx
    · obtain ⟨b,hb,rfl⟩:=List.mem_map.1 hx
      exact ⟨a,by simp,rfl⟩
    · obtain ⟨y,hy,e⟩:=aLq t hx
      exact ⟨y,by simp [hy],e⟩
theorem aHZ (t:Rat):∀ {a:List l08Arm},(a.map (·.fnode)).Pairwise (· < ·)→(iR t a).Pairwise fY
  | [],_=>List.Pairwise.nil
  | a::r,h=>by
    rw [List.map_cons,List.pairwise_cons] at h
    rw [iR,List.pairwise_append]
    refine ⟨?_,aHZ t h.2,fun x hx y hy=>?_⟩
    · rw [List.pairwise_map]
      have:=h.2
      rw [List.pairwise_map] at this
      exact this.imp (fun {b c} hbc=>.inr ⟨rfl,hbc⟩)
    · obtain ⟨b,hb,rfl⟩:=List.mem_map.1 hx
      obtain ⟨z,hz,e⟩:=aLq t hy
      exact .inl (by rw [e];exact h.1 _ (List.mem_map.2 ⟨z,hz,rfl⟩))
theorem aGs {t:Rat} {a:List l08Arm} (h:(a.map (·.fnode)).Pairwise (· < ·)):LSet (iR t a)↔∀ x ∈ iR t a,ValidL x:=⟨fun g=>g.1,fun g=>⟨g,aHZ t h⟩⟩
theorem aKC {a:List l08Arm} (ha:∀ x ∈ a,wW x) (hl:a.length≤100):lp (eY a) (0,xT 0)=some (tQ a):=by
  have:=(jZ (step:=eY a) a (fun k t=>((k:Int),t)) (fun t a=>RA t a.fweight) (fun t=>t) (fun _ t=>VZ t) (fun k t hk hi=>by
    have w1:i64.wrap ((k:Int)+1)=((k+1:Nat):Int):=by rw [wi (by omega)];omega
    obtain ⟨q1,_,q3⟩:=aCz hi (ha _ (List.getElem_mem hk)).2.1
    refine ⟨?_,q3⟩
    unfold eY
    simp only []
    rw [if_pos (by omega),aI hk]
    simp only [Option.bind_some,q1,w1]) (fun t _=>by unfold eY;simp only [];rw [if_neg (by omega)]) (xT 0) (.inl aBD)).1
  rw [show ((0:Nat):Int)=0 from rfl] at this
  exact this
theorem aKE {a:List l08Arm} {t:Rat} (ht:VZ t) (ha:∀ x ∈ a,wW x) (hl:a.length≤100):lp (eX a t) (0,[])=some (a.map (gH t)):=by
  have:=wO (step:=eX a t) (a.map (gH t)) (fun k t=>((k:Int),t)) (fun t=>t) (fun k u hk hu=>by
    have hk2:k < a.length:=by rwa [List.length_map] at hk
    have w1:i64.wrap ((k:Int)+1)=((k+1:Nat):Int):=by rw [wi (by omega)];omega
    have ho:=ha _ (List.getElem_mem hk2)
    have q:=(aGc ho.2.1 ht).1
    unfold eX
    simp only []
    rw [if_pos (by omega),aI hk2]
    simp only [Option.bind_some,q,fC _ (VZs ho.2.2.1),fC _ (VZs ho.2.2.2),w1]
    rw [aQ (by omega)]
    simp only [Option.bind_some,tF,List.getElem_map]
    rfl) (fun u hu=>by unfold eX;simp only [];rw [List.length_map,if_neg (by omega)])
  rw [show ((0:Nat):Int)=0 from rfl] at this
  exact this
theorem aKD {r:List l08Arm} {x:l08Arm} {t:Rat} (ht:VZ t) (hx:wW x) (hr:∀ y ∈ r,wW y) (hl:r.length≤100) (acc:List Link) (hacc:acc.length≤1000000) :
    lp (eW r x t) (0,acc)=some (acc++r.map (uY t x)):=by
  have:=(jZ (step:=eW r x t) r (fun k u=>((k:Int),u)) (fun u b=>u++[uY t x b]) (fun u=>u) (fun k u=>u.length≤1000000+k) (fun k u hk hi=>by
    have w1:i64.wrap ((k:Int)+1)=((k+1:Nat):Int):=by rw [wi (by omega)];omega
    have ho:=hr _ (List.getElem_mem hk)
    have q0:=aFO hx.2.1 ho.2.1
    have q1:=(aGc q0.2.2 ht).1
    have q2:=(aIy hx.2.2.1 ho.2.2.1).1
    have q3:=(aIy hx.2.2.2 ho.2.2.2).1
    refine ⟨?_,by rw [List.length_append,List.length_singleton];omega⟩
    unfold eW
    simp only []
    rw [if_pos (by omega),aI hk]
    simp only [Option.bind_some,q0.1,q1,q2,q3,w1]
    rw [aQ (by omega)]
    rfl) (fun u _=>by unfold eW;simp only [];rw [if_neg (by omega)]) acc (by omega)).1
  rw [show ((0:Nat):Int)=0 from rfl,aCt] at this
  exact this
theorem aKS {α:Type} (l:List α) (k:Nat) (hk:k+1≤l.length) (hl:l.length≤4294967296):sub l (i64.wrap ((k:Int)+1)) (l.length:Int)=some (l.drop (k+1)):=by
  have w1:i64.wrap ((k:Int)+1)=((k+1:Nat):Int):=by rw [wi (by omega)];omega
  rw [w1,vN _ _ _ (by omega)];congr 1
  rw [List.take_of_length_le];rfl
  rw [List.length_drop];omega
theorem aJb {a:List l08Arm} {t:Rat} (ht:VZ t) (ha:∀ x ∈ a,wW x) (hl:a.length≤100):lp (dQ a t) (0,[])=some (iR t a):=by
  have main:∀ m k:Nat,m+k=a.length→∀ acc:List Link,acc.length≤100*k→lp (dQ a t) ((k:Int),acc)=some (acc++iR t (a.drop k)):=by
    intro m
    induction m with
    | zero =>
      intro k hk acc hacc
      rw [List.drop_eq_nil_of_le (by omega),iR,List.append_nil]
      exact aL (by unfold dQ;simp only [];rw [if_neg (by omega)])
    | succ m ih =>
      intro k hk acc hacc
      have hlt:k < a.length:=by omega
      have w1:i64.wrap ((k:Int)+1)=((k+1:Nat):Int):=by rw [wi (by omega)];omega
      rw [List.drop_eq_getElem_cons hlt,iR]
      have row:=aKD (r:=a.drop (k+1)) ht (ha _ (List.getElem_mem hlt)) (fun y hy=>ha y (List.mem_of_mem_drop hy)) (by rw [List.length_drop];omega) acc (by omega)
      have st:dQ a t ((k:Int),acc)=some (.inl (((k+1:Nat):Int),acc++(a.drop (k+1)).map (uY t a[k]))):=by
        unfold dQ
        simp only []
        rw [if_pos (by omega),aI hlt,aKS a k (by omega) (by omega)]
        simp only [Option.bind_some,row,w1]
      rw [bD st,ih (k+1) (by omega) _ (by rw [List.length_append,List.length_map,List.length_drop];omega),List.append_assoc]
  have:=main a.length 0 (by omega) [] (by simp)
  rw [show ((0:Nat):Int)=0 from rfl,List.drop_zero,List.nil_append] at this
  exact this
theorem aJ4 {v:Int} {a:List l08Arm} (ha:∀ x ∈ a,wW x) (hl:a.length≤100):aK (aBu v a)≤4294967296:=by
  have h1:=qB (aAf ha)
  have h2:cL (a.map (gH (tQ a)))≤145*(a.map (gH (tQ a))).length:=aDj (c:=144) (fun p hp=>by
    obtain ⟨x,hx,rfl⟩:=List.mem_map.1 hp
    have ho:=ha x hx
    have g1:=qB (aGc ho.2.1 (aAf ha)).2.2
    have g2:=qB ho.2.2.1
    have g3:=qB ho.2.2.2
    unfold bO gH;simp only [];omega)
  rw [List.length_map] at h2
  unfold aK aBu;simp only [];omega
theorem aMu {s:List Link} (hs:LSet s) (v:Int):jY s v=some (pkE (yT v s)):=by
  have ha:=aFK hs v
  have hl:=aBN hs v
  have ht:=aAf ha
  obtain ⟨b,b1,b2,_⟩:=aJ6 _ (aJ4 (v:=v) ha hl)
  have inc:=aGG hs v
  unfold jY
  rw [lN s (by have:=hs.sz;omega),decide_eq_true hs,aC9]
  simp only [Option.bind_some,if_true]
  by_cases c:1≤v∧v≤9
  · rw [decide_eq_true c]
    simp only [Bool.not_true,Bool.false_eq_true,if_false]
    rw [aNc hs v,kU 0 (by omega)]
    simp only [Option.bind_some]
    rw [aKC ha hl]
    simp only [Option.bind_some]
    rw [aKE ht ha hl]
    simp only [Option.bind_some]
    rw [aJb ht ha hl]
    simp only [Option.bind_some]
    have e:(Conditional.mk v (tQ (bS v s)) ((bS v s).map (gH (tQ (bS v s)))))=aBu v (bS v s):=rfl
    rw [e,b1]
    simp only [Option.bind_some]
    have hms:=aDj (aJN ht ha)
    have hml:=aE6 (tQ (bS v s)) (a:=bS v s) (Nat.le_refl _)
    have hm2:(bS v s).length*(bS v s).length≤100*100:=Nat.mul_le_mul hl hl
    rw [lN _ (by unfold aF;omega)]
    cases b with
    | false =>
      have:¬zD v (bS v s):=by unfold zD;rw [b1];simp
      rw [aBJ (fun h=>this h.2.1)];rfl
    | true =>
      have hc:zD v (bS v s):=b1
      simp only [if_true,Option.bind_some]
      by_cases d:∀ x ∈ iR (tQ (bS v s)) (bS v s),ValidL x
      · rw [decide_eq_true ((aGs inc).2 d),aJ2 ⟨c,hc,d⟩];rfl
      · rw [decide_eq_false (fun h=>d ((aGs inc).1 h)),aBJ (fun h=>d h.2.2)];rfl
  · rw [decide_eq_false c]
    rw [aBJ (fun h=>c h.1)];rfl
def xU (a:l08Arm):Parent:=⟨a.fnode,pQ,a.fdx,a.fdy⟩
theorem aJm (v:Int) (s:List Link) (k:Nat) (hk:k < s.length):bS v (s.take (k+1))=bS v (s.take k)++(if tch v s[k] then [aBv v s[k]] else []):=by
  have tk:s.take (k+1)=s.take k++[s[k]]:=by rw [List.take_add_one,List.getElem?_eq_getElem hk];rfl
  unfold bS
  rw [tk,List.filter_append,List.map_append]
  congr 1
  by_cases c:tch v s[k] <;> simp [c]
theorem aJd {s:List Link} (hs:LSet s) (v:Int):lp (dU s v) (0,xT 0,[],[])=some (tQ (bS v s),(bS v s).map (·.fweight),(bS v s).map xU):=by
  have hlen:=hs.len
  have hpre:∀ k,∀ a ∈ bS v (s.take k),wW a:=fun k a ha=>by
    obtain ⟨l,hl,rfl⟩:=List.mem_map.1 ha
    exact aIt (hs.1 l (List.mem_of_mem_take (List.mem_filter.1 hl).1))
  have hpl:∀ k,(bS v (s.take k)).length≤100:=fun k=>by
    have:=List.length_filter_le (tch v) (s.take k)
    have h2:(s.take k).length≤s.length:=by rw [List.length_take];omega
    unfold bS;rw [List.length_map];omega
  have main:∀ m k:Nat,m+k=s.length→lp (dU s v) ((k:Int),tQ (bS v (s.take k)),(bS v (s.take k)).map (·.fweight),(bS v (s.take k)).map xU)=some (tQ (bS v s),(bS v s).map (·.fweight),(bS v s).map xU):=by
    intro m
    induction m with
    | zero =>
      intro k hk
      rw [List.take_of_length_le (by omega)]
      exact aL (by unfold dU;simp only [];rw [if_neg (by omega)])
    | succ m ih =>
      intro k hk
      have hlt:k < s.length:=by omega
      have w1:i64.wrap ((k:Int)+1)=((k+1:Nat):Int):=by rw [wi (by omega)];omega
      have hv:=hs.1 _ (List.getElem_mem hlt)
      obtain ⟨v1,v2,v3⟩:=hv.vz
      have n1:=(aLY v2).2.1
      have n2:=(aLY v3).2.1
      have ra:=(aCz (aAf (hpre k)) v1).2.1
      have hp:=hpl k
      have st:dU s v ((k:Int),tQ (bS v (s.take k)),(bS v (s.take k)).map (·.fweight),(bS v (s.take k)).map xU)=some (.inl (((k+1:Nat):Int),tQ (bS v (s.take (k+1))),(bS v (s.take (k+1))).map (·.fweight),(bS v (s.take (k+1))).map xU)):=by
        rw [aJm v s k hlt]
        unfold dU
        simp only []
        rw [if_pos (by omega),aI hlt]
        simp only [Option.bind_some,n1,n2,ra,w1]
        have k1:∀ {α:Type} {f:l08Arm→α},((bS v (s.take k)).map f).length≤100:=by intro α f;rw [List.length_map];exact hp
        by_cases A:(s[k]).fA=v
        · rw [if_pos A,aQ (by have:=k1 (f:=xU);omega)]
          simp only [Option.bind_some,tF]
          rw [aQ (by have:=k1 (f:=fun a=>a.fweight);omega)]
          simp [tch,A,aBv,tQ,xU,pQ,ra]
        · by_cases B:(s[k]).fB=v
          · rw [if_neg A,if_pos B,aQ (by have:=k1 (f:=xU);omega)]
            simp only [Option.bind_some,tF]
            rw [aQ (by have:=k1 (f:=fun a=>a.fweight);omega)]
            simp [tch,A,B,aBv,tQ,xU,pQ,ra]
          · simp [tch,A,B]
      rw [bD st]
      exact ih (k+1) (by omega)
  have:=main s.length 0 (by omega)
  simpa [bS,tQ] using this
theorem aKG {a:List l08Arm} {t:Rat} (ht:VZ t) (ha:∀ x ∈ a,wW x) (hl:a.length≤100):lp (dS (t,a.map (·.fweight),a.map xU)) (0,a.map xU)=some (a.map (gH t)):=by
  have main:∀ m k:Nat,m+k=a.length→lp (dS (t,a.map (·.fweight),a.map xU)) ((k:Int),(a.take k).map (gH t)++(a.drop k).map xU)=some (a.map (gH t)):=by
    intro m
    induction m with
    | zero =>
      intro k hk
      refine aL ?_
      unfold dS
      simp only [List.length_map]
      rw [if_neg (by omega),List.drop_eq_nil_of_le (by omega),List.take_of_length_le (by omega)]
      simp
    | succ m ih =>
      intro k hk
      have hlt:k < a.length:=by omega
      have w1:i64.wrap ((k:Int)+1)=((k+1:Nat):Int):=by rw [wi (by omega)];omega
      have ho:=ha _ (List.getElem_mem hlt)
      have q:=(aGc ho.2.1 ht).2.1
      have tl:((a.take k).map (gH t)).length=k:=by rw [List.length_map,List.length_take];omega
      have e1:idx (a.map (fun x=>x.fweight)) (k:Int)=some (a[k]).fweight:=by rw [aI (by rwa [List.length_map]),List.getElem_map]
      have e2:idx ((a.take k).map (gH t)++(a.drop k).map xU) (k:Int)=some (xU a[k]):=by
        rw [aDb,List.getElem?_append_right (by omega),tl,Nat.sub_self,List.drop_eq_getElem_cons hlt];rfl
      have e3:fZ ((a.take k).map (gH t)++(a.drop k).map xU) (k:Int) (gH t a[k])=(a.take (k+1)).map (gH t)++(a.drop (k+1)).map xU:=by
        rw [iG,List.set_append_right _ _ (by omega),tl,Nat.sub_self,List.drop_eq_getElem_cons hlt,List.map_cons,List.set_cons_zero,List.take_add_one,List.getElem?_eq_getElem hlt,List.map_append,List.append_assoc]
        rfl
      have st:dS (t,a.map (·.fweight),a.map xU) ((k:Int),(a.take k).map (gH t)++(a.drop k).map xU)=some (.inl (((k+1:Nat):Int),(a.take (k+1)).map (gH t)++(a.drop (k+1)).map xU)):=by
        unfold dS
        simp only [List.length_map]
        rw [if_pos (by omega),e1]
        simp only [Option.bind_some,q,e2,tF,w1]
        have:(Parent.mk (xU a[k]).fNode (RD (a[k]).fweight t) (xU a[k]).fDX (xU a[k]).fDY)=gH t a[k]:=rfl
        rw [this,e3]
      rw [bD st]
      exact ih (k+1) (by omega)
  have:=main a.length 0 (by omega)
  simpa using this
def aEM (t:Rat) (x:l08Arm) (r:List l08Arm):Prop:=∀ y ∈ r,ValidL (uY t x y)
noncomputable instance (t:Rat) (x:l08Arm) (r:List l08Arm):Decidable (aEM t x r):=Classical.propDecidable _
theorem aKF {a:List l08Arm} {t:Rat} (ht:VZ t) (ha:∀ x ∈ a,wW x) (hl:a.length≤100) (q0:List Parent) (i:Nat) (hi:i < a.length):∀ m j:Nat,m+j=a.length→∀ acc:List Link,acc.length≤1000000+j →
    lp (eZ (a.map (gH t)) (t,a.map (·.fweight),q0) (i:Int) (gH t a[i])) ((j:Int),acc)=some (if aEM t a[i] (a.drop j) then .inl (acc++(a.drop j).map (uY t a[i])) else .inr (aEr,[],false)):=by
  intro m
  induction m with
  | zero =>
    intro j hj acc hacc
    rw [List.drop_eq_nil_of_le (by omega),if_pos (by intro y hy;cases hy),List.map_nil,List.append_nil]
    exact aL (by unfold eZ;simp only [List.length_map];rw [if_neg (by omega)])
  | succ m ih =>
    intro j hj acc hacc
    have hlt:j < a.length:=by omega
    have w1:i64.wrap ((j:Int)+1)=((j+1:Nat):Int):=by rw [wi (by omega)];omega
    have hx:=ha _ (List.getElem_mem hi)
    have ho:=ha _ (List.getElem_mem hlt)
    have p0:=aFO hx.2.1 ho.2.1
    have p1:=(aGc p0.2.2 ht).2.1
    have p2:=(aIy hx.2.2.1 ho.2.2.1).2.1
    have p3:=(aIy hx.2.2.2 ho.2.2.2).2.1
    have vl:=(gA (uY t a[i] a[j]) (by have:=aHY ht hx ho;omega)).2
    have e0:idx (a.map (gH t)) (j:Int)=some (gH t a[j]):=by rw [aI (by rwa [List.length_map]),List.getElem_map]
    have e1:idx (a.map (fun x=>x.fweight)) (i:Int)=some (a[i]).fweight:=by rw [aI (by rwa [List.length_map]),List.getElem_map]
    have e2:idx (a.map (fun x=>x.fweight)) (j:Int)=some (a[j]).fweight:=by rw [aI (by rwa [List.length_map]),List.getElem_map]
    have st:eZ (a.map (gH t)) (t,a.map (·.fweight),q0) (i:Int) (gH t a[i]) ((j:Int),acc)=some (if ValidL (uY t a[i] a[j]) then .inl (((j+1:Nat):Int),acc++[uY t a[i] a[j]]) else .inr (.inr (aEr,[],false))):=by
      unfold eZ
      simp only [List.length_map]
      rw [if_pos (by omega),e0,e1,e2]
      simp only [Option.bind_some,p0.2.1,p1,w1]
      have f1:(gH t a[i]).fDX=(a[i]).fdx:=rfl
      have f2:(gH t a[i]).fDY=(a[i]).fdy:=rfl
      have f3:(gH t a[j]).fDX=(a[j]).fdx:=rfl
      have f4:(gH t a[j]).fDY=(a[j]).fdy:=rfl
      rw [f1,f2,f3,f4,p2]
      simp only [Option.bind_some]
      rw [p3]
      simp only [Option.bind_some]
      have f5:(Link.mk (gH t a[i]).fNode (gH t a[j]).fNode (RD (RM (a[i]).fweight (a[j]).fweight) t) (RS (a[i]).fdx (a[j]).fdx) (RS (a[i]).fdy (a[j]).fdy))=uY t a[i] a[j]:=rfl
      rw [f5,vl]
      simp only [Option.bind_some]
      by_cases c:ValidL (uY t a[i] a[j])
      · rw [decide_eq_true c,if_pos rfl,if_pos c,aQ (by omega)];rfl
      · rw [decide_eq_false c,if_neg c];rfl
    rw [List.drop_eq_getElem_cons hlt]
    by_cases c:ValidL (uY t a[i] a[j])
    · rw [if_pos c] at st
      rw [bD st,ih (j+1) (by omega) _ (by rw [List.length_append,List.length_singleton];omega)]
      have:aEM t a[i] (a[j]::a.drop (j+1))↔aEM t a[i] (a.drop (j+1)):=⟨fun h x hx'=>h x (List.mem_cons_of_mem _ hx'),fun h x hx'=>by rcases List.mem_cons.1 hx' with rfl | h';exact c;exact h x h'⟩
      simp only [this,List.map_cons,List.append_assoc,List.singleton_append]
    · rw [if_neg c] at st
      rw [aL st,if_neg (fun h=>c (h _ List.mem_cons_self))]
theorem aJc {a:List l08Arm} {t:Rat} (ht:VZ t) (ha:∀ x ∈ a,wW x) (hl:a.length≤100) (q0:List Parent):lp (dR (a.map (gH t)) (t,a.map (·.fweight),q0)) (0,[])=some (if ∀ x ∈ iR t a,ValidL x then .inl (iR t a) else .inr (aEr,[],false)):=by
  have main:∀ m k:Nat,m+k=a.length→∀ acc:List Link,acc.length≤100*k→lp (dR (a.map (gH t)) (t,a.map (·.fweight),q0)) ((k:Int),acc)=some (if ∀ x ∈ iR t (a.drop k),ValidL x then .inl (acc++iR t (a.drop k)) else .inr (aEr,[],false)):=by
    intro m
    induction m with
    | zero =>
      intro k hk acc hacc
      rw [List.drop_eq_nil_of_le (by omega),if_pos (by simp [iR]),iR,List.append_nil]
      exact aL (by unfold dR;simp only [List.length_map];rw [if_neg (by omega)])
    | succ m ih =>
      intro k hk acc hacc
      have hlt:k < a.length:=by omega
      have w1:i64.wrap ((k:Int)+1)=((k+1:Nat):Int):=by rw [wi (by omega)];omega
      have e0:idx (a.map (gH t)) (k:Int)=some (gH t a[k]):=by rw [aI (by rwa [List.length_map]),List.getElem_map]
      have row:=aKF ht ha hl q0 k hlt (a.length - (k+1)) (k+1) (by omega) acc (by omega)
      rw [List.drop_eq_getElem_cons hlt,iR]
      have st:dR (a.map (gH t)) (t,a.map (·.fweight),q0) ((k:Int),acc)=some (if aEM t a[k] (a.drop (k+1)) then .inl (((k+1:Nat):Int),acc++(a.drop (k+1)).map (uY t (a[k]'hlt))) else .inr (.inr (aEr,[],false))):=by
        unfold dR
        simp only [List.length_map]
        rw [if_pos (by omega),e0]
        simp only [Option.bind_some,w1,row]
        by_cases c:aEM t a[k] (a.drop (k+1))
        · rw [if_pos c,if_pos c]
        · rw [if_neg c,if_neg c]
      by_cases c:aEM t a[k] (a.drop (k+1))
      · rw [if_pos c] at st
        rw [bD st,ih (k+1) (by omega) _ (by rw [List.length_append,List.length_map,List.length_drop];omega)]
        have:(∀ x ∈ (a.drop (k+1)).map (uY t a[k])++iR t (a.drop (k+1)),ValidL x)↔∀ x ∈ iR t (a.drop (k+1)),ValidL x:=⟨fun h x hx=>h x (List.mem_append_right _ hx),fun h x hx=>by
          rcases List.mem_append.1 hx with hx | hx
          · obtain ⟨y,hy,rfl⟩:=List.mem_map.1 hx;exact c y hy
          · exact h x hx⟩
        simp only [this,List.append_assoc]
      · rw [if_neg c] at st
        rw [aL st,if_neg]
        intro h
        exact c fun y hy=>h _ (List.mem_append_left _ (List.mem_map.2 ⟨y,hy,rfl⟩))
  have:=main a.length 0 (by omega) [] (by simp)
  rw [show ((0:Nat):Int)=0 from rfl,List.drop_zero,List.nil_append] at this
  exact this
theorem aMv {s:List Link} (hs:LSet s) (v:Int):kI s v=some (pkE (yT v s)):=by
  have ha:=aFK hs v
  have hl:=aBN hs v
  have ht:=aAf ha
  obtain ⟨b,b1,b2,_⟩:=aJ6 _ (aJ4 (v:=v) ha hl)
  unfold kI
  have e0:((if v < 1 then some true else some (decide (10≤v))):Option Bool)=some (!decide (1≤v∧v≤9)):=by
    by_cases A:v < 1
    · have:¬1≤v:=by omega
      simp [A,this]
    · by_cases B:10≤v
      · have:¬v≤9:=by omega
        simp [A,B,this]
      · have h1:1≤v:=by omega
        have h2:v≤9:=by omega
        simp [A,B,h1,h2]
  rw [e0]
  simp only [Option.bind_some]
  by_cases c:1≤v∧v≤9
  · rw [decide_eq_true c]
    simp only [Bool.not_true,Bool.false_eq_true,if_false]
    rw [lM 0 (by omega)]
    simp only [Option.bind_some]
    rw [aJd hs v]
    simp only [Option.bind_some]
    rw [aKG ht ha hl]
    simp only [Option.bind_some]
    have e:(Conditional.mk v (tQ (bS v s)) ((bS v s).map (gH (tQ (bS v s)))))=aBu v (bS v s):=rfl
    rw [e,b2]
    simp only [Option.bind_some]
    cases b with
    | false =>
      have:¬zD v (bS v s):=by unfold zD;rw [b1];simp
      rw [aBJ (fun h=>this h.2.1)];rfl
    | true =>
      have hc:zD v (bS v s):=b1
      simp only [if_true]
      rw [aJc ht ha hl]
      by_cases d:∀ x ∈ iR (tQ (bS v s)) (bS v s),ValidL x
      · rw [if_pos d,aJ2 ⟨c,hc,d⟩];rfl
      · rw [if_neg d,aBJ (fun h=>d h.2.2)];rfl
  · rw [decide_eq_false c]
    rw [aBJ (fun h=>c h.1)];rfl
end Go.Ev
/- Reducing a node of a link set and a node of a tree, both programs. -/
namespace Go.Ev
set_option linter.all false
theorem wi1 {k:Nat} (h:k≤4294967296):IntKind.i64.wrap ((k:Int)+1)=((k+1:Nat):Int):=by rw [wi (by omega)];omega
def yP (v:Int) (s:List Link):List Link:=s.filter (fun l=>!tch v l)
theorem xP {α:Type} (p:α→Bool):∀ (l t:List α),l.foldl (fun t x=>if p x=true then t++[x] else t) t=t++l.filter p
  | [],t=>by simp
  | x::l,t=>by
    rw [List.foldl_cons,xP p l,List.filter_cons]
    by_cases c:p x=true
    · simp only [c,if_true,List.append_assoc,List.singleton_append]
    · simp only [Bool.not_eq_true] at c;simp [c]
theorem aMK (v:Int) (l:Link):((if l.fA≠v then some (decide (l.fB≠v)) else some false):Option Bool)=some (!tch v l):=by
  unfold tch;by_cases A:l.fA=v <;> by_cases B:l.fB=v <;> simp [A,B]
theorem aKa {s:List Link} (h:s.length≤4294967296) (v:Int):mS s v=some (yP v s):=by
  have:=(jZ (step:=jI s v) s (fun k t=>((k:Int),t)) (fun t x=>if (fun l=>!tch v l) x=true then t++[x] else t) (fun t=>t) (fun k t=>t.length≤k) (fun k t hk hi=>by
    constructor
    · unfold jI
      simp only []
      rw [if_pos (by omega),aI hk]
      simp only [Option.bind_some,aMK,wi1 (by omega:k≤4294967296)]
      by_cases c:tch v s[k]=true
      · rw [if_neg (by simp [c]),if_neg (by simp [c])]
      · rw [if_pos (by simpa using c),if_pos (by simpa using c),aQ (by omega)];rfl
    · simp only [];split
      · rw [List.length_append,List.length_singleton];omega
      · omega) (fun t _=>by unfold jI;simp only [];rw [if_neg (by omega)]) [] (Nat.zero_le _)).1
  rw [show ((0:Nat):Int)=0 from rfl,xP,List.nil_append] at this
  unfold mS
  rw [this];rfl
theorem aKL {s:List Link} (hs:LSet s) (v:Int):mD s v=some (yP v s):=by
  have hl:=hs.len
  have:=(jZ (step:=jD s v) s (fun k t=>((k:Int),t)) (fun t x=>if (fun l=>!tch v l) x=true then t++[x] else t) (fun t=>t) (fun k t=>t.length≤k) (fun k t hk hi=>by
    constructor
    · unfold jD
      simp only []
      rw [if_pos (by omega),aI hk]
      have cp:=tX s[k] (by have:=(hs.1 _ (List.getElem_mem hk)).sz;omega)
      simp only [Option.bind_some,aMK,wi1 (by omega:k≤4294967296),cp]
      by_cases c:tch v s[k]=true
      · rw [if_neg (by simp [c]),if_neg (by simp [c])]
      · rw [if_pos (by simpa using c),if_pos (by simpa using c),aQ (by omega)];rfl
    · simp only [];split
      · rw [List.length_append,List.length_singleton];omega
      · omega) (fun t _=>by unfold jD;simp only [];rw [if_neg (by omega)]) [] (Nat.zero_le _)).1
  rw [show ((0:Nat):Int)=0 from rfl,xP,List.nil_append] at this
  unfold mD
  rw [lN s (by have:=hs.sz;omega),decide_eq_true hs]
  simp only [Option.bind_some,if_true,this]
  rfl
noncomputable def aDl (v:Int) (s:List Link):Option (Conditional × List Link × Rat) :=
  (yT v s).bind fun x=>(jnP (yP v s++x.2)).map fun y=>(x.1,y.1,y.2)
def pkR:Option (Conditional × List Link × Rat)→Conditional × List Link × Rat × Bool
  | some (c,m,e)=>(c,m,e,true)
  | none=>(aEr,[],pQ,false)
theorem aIj {v:Int} {s:List Link} (hs:LSet s) {c:Conditional} {m:List Link} (h:yT v s=some (c,m)):(∀ x ∈ m,ValidL x)∧m.length≤10000∧aK c≤20000∧(1≤v∧v≤9):=by
  unfold yT at h
  split at h
  · rename_i g
    cases h
    have ha:=aFK hs v
    have hl:=aBN hs v
    have h1:=aE6 (tQ (bS v s)) (a:=bS v s) (Nat.le_refl _)
    have h2:(bS v s).length*(bS v s).length≤100*100:=Nat.mul_le_mul hl hl
    have g1:=qB (aAf ha)
    have g2:cL ((bS v s).map (gH (tQ (bS v s))))≤145*((bS v s).map (gH (tQ (bS v s)))).length:=aDj (c:=144) (fun p hp=>by
      obtain ⟨x,hx,rfl⟩:=List.mem_map.1 hp
      have ho:=ha x hx
      have g1:=qB (aGc ho.2.1 (aAf ha)).2.2
      have g2:=qB ho.2.2.1
      have g3:=qB ho.2.2.2
      unfold bO gH;simp only [];omega)
    rw [List.length_map] at g2
    refine ⟨g.2.2,by omega,?_,g.1⟩
    unfold aK aBu;simp only [];omega
  · cases h
theorem aKY {v:Int} {s:List Link} (hs:LSet s):(∀ x ∈ yP v s,ValidL x)∧(yP v s).length≤100:=by
  have:=List.length_filter_le (fun l=>!tch v l) s
  have:=hs.len
  exact ⟨fun x hx=>hs.1 x (List.mem_filter.1 hx).1,by unfold yP;omega⟩
theorem aEQ {s:List Link} (hs:LSet s) (v:Int):oJ s v=some (pkR (aDl v s))∧oX s v=some (pkR (aDl v s)):=by
  unfold oJ oX aDl
  rw [aMu hs,aMv hs]
  cases h:yT v s with
  | none=>exact ⟨rfl,rfl⟩
  | some x =>
    obtain ⟨c,m⟩:=x
    obtain ⟨m1,m2,m3,_⟩:=aIj hs h
    obtain ⟨r1,r2⟩:=aKY (v:=v) hs
    have hall:∀ x ∈ yP v s++m,ValidL x:=fun x hx=>(List.mem_append.1 hx).elim (r1 x) (m1 x)
    have hlen:(yP v s++m).length≤20000:=by rw [List.length_append];omega
    have hsz:=aDi hall
    have j1:=(aBB (yP v s++m) (by omega)).1
    have j2:=aBl hall (by omega)
    simp only [pkE,Option.bind_some,if_true]
    rw [aKL hs,aKa (by have:=hs.len;omega)]
    simp only [Option.bind_some]
    rw [aQ (by omega)]
    simp only [Option.bind_some,tF,j1,j2]
    cases jnP (yP v s++m) with
    | none=>exact ⟨rfl,rfl⟩
    | some y=>exact ⟨rfl,rfl⟩
theorem aG6 {v:Int} {s:List Link} (hs:LSet s) {c:Conditional} {m:List Link} {e:Rat} (h:aDl v s=some (c,m,e)):aK c≤20000∧LSet m∧bR e∧c.fNode=v:=by
  unfold aDl at h
  cases h1:yT v s with
  | none=>rw [h1] at h;cases h
  | some x =>
    rw [h1] at h
    cases h2:jnP (yP v s++x.2) with
    | none=>rw [Option.bind_some,h2] at h;cases h
    | some y =>
      rw [Option.bind_some,h2] at h
      cases h
      have:=aDy (s:=y.1) (e:=y.2) h2
      refine ⟨(aIj hs (c:=x.1) (m:=x.2) h1).2.2.1,this.2.1,this.2.2,?_⟩
      unfold yT at h1
      split at h1
      · cases h1;rfl
      · cases h1
end Go.Ev
/- A node of a tree, both programs. -/
namespace Go.Ev
open IntKind
set_option linter.all false
def fR (l s:List Int):Int:=(l.find? (fun u=>decide (u ∈ s))).getD 0
theorem aJY (l s:List Int) (hl:l.length≤4294967296) (hs:s.length≤4294967296):pF l s=some (fR l s):=by
  have main:∀ m k:Nat,m+k=l.length→lp (gT l s) (k:Int)=some (match (l.drop k).find? (fun u=>decide (u ∈ s)) with | some x=>.inr x | none=>.inl ()):=by
    intro m
    induction m with
    | zero =>
      intro k hk
      have:k=l.length:=by omega
      subst this
      rw [aL (r:=.inl ()) (by unfold gT;rw [if_neg (by omega)]),List.drop_length];rfl
    | succ m ih =>
      intro k hk
      have hlt:k < l.length:=by omega
      rw [List.drop_eq_getElem_cons hlt,List.find?_cons]
      by_cases c:l[k] ∈ s
      · rw [aL (r:=.inr l[k]) (by unfold gT;rw [if_pos (by omega),aI hlt];simp [uJ s _ hs,c])];simp [c]
      · have e:gT l s (k:Int)=some (.inl ((k+1:Nat):Int)):=by
          unfold gT;rw [if_pos (by omega),aI hlt];simp only [Option.bind_some,uJ s _ hs,wi1 (by omega:k≤4294967296)];simp [c]
        rw [bD e,ih (k+1) (by omega)]
        simp only [c,decide_false]
  have:=main l.length 0 (by omega)
  rw [show ((0:Nat):Int)=0 from rfl,List.drop_zero] at this
  unfold pF fR
  rw [this]
  cases l.find? (fun u=>decide (u ∈ s)) <;> rfl
def aAS (c:Conditional):List Int:=c.fParents.map (·.fNode)
def upP (order:List Int) (c:Conditional):Int:=fR order (aAS c)
theorem aFu {α:Type} {p q:α→Bool}:∀ {l:List α},(∀ x ∈ l,p x=q x)→l.find? p=l.find? q
  | [],_=>rfl
  | x::l,h=>by rw [List.find?_cons,List.find?_cons,h x (by simp),aFu (fun y hy=>h y (by simp [hy]))]
theorem aN8 {order:List Int} {c:Conditional} (ho:∀ u ∈ order,1≤u) (hl:order.length≤4294967296) (hc:c.fParents.length≤4294967296):xQ order c=some (upP order c):=by
  have:=(jZ (step:=rT c) c.fParents (fun k t=>((k:Int),t)) (fun t x=>if (fun p:Parent=>decide (0 < p.fNode)) x=true then t++[x.fNode] else t) (fun t=>t) (fun k t=>t.length≤k) (fun k t hk hi=>by
    constructor
    · unfold rT
      simp only []
      rw [if_pos (by omega),aI hk]
      simp only [Option.bind_some,wi1 (by omega:k≤4294967296)]
      by_cases c0:0 < (c.fParents[k]).fNode
      · rw [if_pos c0,if_pos (by simpa using c0),aQ (by omega)];rfl
      · rw [if_neg c0,if_neg (by simpa using c0)]
    · simp only [];split
      · rw [List.length_append,List.length_singleton];omega
      · omega) (fun t _=>by unfold rT;simp only [];rw [if_neg (by omega)]) [] (Nat.zero_le _)).1
  rw [show ((0:Nat):Int)=0 from rfl] at this
  have e:∀ (l:List Parent) (t:List Int),l.foldl (fun t x=>if (fun p:Parent=>decide (0 < p.fNode)) x=true then t++[x.fNode] else t) t=t++(l.filter (fun p=>decide (0 < p.fNode))).map (·.fNode):=by
    intro l
    induction l with
    | nil=>intro t;simp
    | cons x l ih =>
      intro t
      rw [List.foldl_cons,ih,List.filter_cons]
      by_cases c0:0 < x.fNode <;> simp [c0]
  rw [e,List.nil_append] at this
  unfold xQ
  rw [this]
  simp only [Option.bind_some]
  have hf:=List.length_filter_le (fun p:Parent=>decide (0 < p.fNode)) c.fParents
  rw [aJY _ _ hl (by rw [List.length_map];omega)]
  simp only [Option.bind_some]
  congr 1
  unfold upP fR
  congr 1
  refine aFu fun u hu=>?_
  have:=ho u hu
  rw [Bool.eq_iff_iff,decide_eq_true_iff,decide_eq_true_iff]
  unfold aAS
  simp only [List.mem_map,List.mem_filter,decide_eq_true_eq]
  constructor
  · rintro ⟨p,⟨h1,_⟩,rfl⟩;exact ⟨p,h1,rfl⟩
  · rintro ⟨p,h1,rfl⟩;exact ⟨p,⟨h1,by omega⟩,rfl⟩
theorem aDL (c:Conditional) (v:Int) (h:c.fParents.length≤4294967296):qV c v=some (decide (v ∈ aAS c)):=by
  have main:∀ m k:Nat,m+k=c.fParents.length→lp (gK c v) (k:Int)=some (if v ∈ (c.fParents.drop k).map (·.fNode) then .inr true else .inl ()):=by
    intro m
    induction m with
    | zero =>
      intro k hk
      have:k=c.fParents.length:=by omega
      subst this
      rw [aL (r:=.inl ()) (by unfold gK;rw [if_neg (by omega)]),List.drop_length];simp
    | succ m ih =>
      intro k hk
      have hlt:k < c.fParents.length:=by omega
      rw [List.drop_eq_getElem_cons hlt,List.map_cons]
      by_cases d:(c.fParents[k]).fNode=v
      · rw [aL (r:=.inr true) (by unfold gK;rw [if_pos (by omega),aI hlt];simp [d]),if_pos (by simp [d])]
      · have e:gK c v (k:Int)=some (.inl ((k+1:Nat):Int)):=by
          unfold gK;rw [if_pos (by omega),aI hlt];simp only [Option.bind_some,wi1 (by omega:k≤4294967296)];rw [if_neg d]
        rw [bD e,ih (k+1) (by omega)]
        have:(v ∈ (c.fParents[k]).fNode::(c.fParents.drop (k+1)).map (·.fNode))↔v ∈ (c.fParents.drop (k+1)).map (·.fNode):=by
          rw [List.mem_cons];exact ⟨fun h=>h.resolve_left (fun e=>d e.symm),.inr⟩
        simp only [this]
  have:=main c.fParents.length 0 (by omega)
  rw [show ((0:Nat):Int)=0 from rfl,List.drop_zero] at this
  unfold qV aAS
  rw [this]
  by_cases d:v ∈ c.fParents.map (·.fNode)
  · rw [if_pos d,decide_eq_true d];rfl
  · rw [if_neg d,decide_eq_false d];rfl
theorem aNy (order:List Int) (v:Int) (own:List Link) (r:Conditional × List Link × Rat × Bool) (e:Rat) (hl:order.length≤4294967296) (hc:r.1.fParents.length≤4294967296):lp (eU order v own r e) 0=some (TreeNode.mk v (upP order r.1) own r.1 r.2.1 e):=by
  have main:∀ m k:Nat,m+k=order.length→lp (eU order v own r e) (k:Int)=some (TreeNode.mk v (fR (order.drop k) (aAS r.1)) own r.1 r.2.1 e):=by
    intro m
    induction m with
    | zero =>
      intro k hk
      have:k=order.length:=by omega
      subst this
      rw [aL (by unfold eU;rw [if_neg (by omega)]),List.drop_length];rfl
    | succ m ih =>
      intro k hk
      have hlt:k < order.length:=by omega
      rw [List.drop_eq_getElem_cons hlt]
      unfold fR
      rw [List.find?_cons]
      by_cases d:order[k] ∈ aAS r.1
      · rw [aL (r:=TreeNode.mk v order[k] own r.1 r.2.1 e) (by unfold eU;rw [if_pos (by omega),aI hlt];simp only [Option.bind_some,aDL _ _ hc,decide_eq_true d,if_true])]
        simp [d]
      · have e:eU order v own r e (k:Int)=some (.inl ((k+1:Nat):Int)):=by
          unfold eU;rw [if_pos (by omega),aI hlt];simp only [Option.bind_some,aDL _ _ hc,wi1 (by omega:k≤4294967296),decide_eq_false d,Bool.false_eq_true,if_false]
        rw [bD e,ih (k+1) (by omega)]
        simp only [d,decide_false]
        rfl
  have:=main order.length 0 (by omega)
  rw [show ((0:Nat):Int)=0 from rfl,List.drop_zero] at this
  exact this
def yW (v:Int) (b:List TreeNode):List Link:=(b.filter (fun n=>decide (n.fUp=v))).flatMap (·.fMessages)
theorem aHX (v:Int):∀ (b:List TreeNode) (t:List Link),b.foldl (fun t n=>if n.fUp=v then t++n.fMessages else t) t=t++yW v b
  | [],t=>by simp [yW]
  | n::b,t=>by
    rw [List.foldl_cons,aHX v b]
    unfold yW
    rw [List.filter_cons]
    by_cases c:n.fUp=v <;> simp [c]
theorem aJJ {v:Int}:∀ {b:List TreeNode},(∀ n ∈ b,LSet n.fMessages)→(yW v b).length≤100*b.length
  | [],_=>by simp [yW]
  | n::b,h=>by
    have:=aJJ (v:=v) (b:=b) (fun m hm=>h m (by simp [hm]))
    have h1:=(h n (by simp)).len
    unfold yW at this ⊢
    rw [List.filter_cons,List.length_cons]
    split
    · rw [List.flatMap_cons,List.length_append];omega
    · omega
theorem aKq {v:Int} {b:List TreeNode} (h:∀ n ∈ b,LSet n.fMessages):∀ x ∈ yW v b,ValidL x:=by
  intro x hx
  unfold yW at hx
  obtain ⟨n,hn,hx⟩:=List.mem_flatMap.1 hx
  exact (h n (List.mem_filter.1 hn).1).1 x hx
theorem aMN {step:(Int × List Link)→Option ((Int × List Link) ⊕ List Link)} (v:Int) (b:List TreeNode) (own:List Link) (ho:own.length≤4294967296) (hb:b.length≤4194304) (h:∀ n ∈ b,LSet n.fMessages)
    (hstep:step=fun s=>match s with | (v6,v7)=>(if (v6 < (b.length:Int)) then (idx b v6).bind fun y8=>(if (y8.fUp=v) then (chk ((v7.length+y8.fMessages.length)*184≤140737488355328)).bind fun _u=>(aY (v7++y8.fMessages)).bind fun v10=>some (.inl (i64.wrap (v6+1),v10)) else some (.inl (i64.wrap (v6+1),v7))) else some (.inr v7))):lp step (0,own)=some (own++yW v b):=by
  subst hstep
  have:=(jZ (step:=fun s=>match s with | (v6,v7)=>(if (v6 < (b.length:Int)) then (idx b v6).bind fun y8=>(if (y8.fUp=v) then (chk ((v7.length+y8.fMessages.length)*184≤140737488355328)).bind fun _u=>(aY (v7++y8.fMessages)).bind fun v10=>some (.inl (i64.wrap (v6+1),v10)) else some (.inl (i64.wrap (v6+1),v7))) else some (.inr v7))) b (fun k t=>((k:Int),t)) (fun t n=>if n.fUp=v then t++n.fMessages else t) (fun t=>t) (fun k t=>t.length≤4294967296+100*k) (fun k t hk hi=>by
    have hm:=(h _ (List.getElem_mem hk)).len
    constructor
    · simp only []
      rw [if_pos (by omega),aI hk]
      simp only [Option.bind_some,wi1 (by omega:k≤4294967296)]
      by_cases c:(b[k]).fUp=v
      · rw [if_pos c,if_pos c,aQ (by omega)];rfl
      · rw [if_neg c,if_neg c]
    · split
      · rw [List.length_append];omega
      · omega) (fun t _=>by simp only [];rw [if_neg (by omega)]) own (by omega)).1
  rw [show ((0:Nat):Int)=0 from rfl,aHX] at this
  exact this
def aNx:TreeNode:=TreeNode.mk 0 0 ([]) (Conditional.mk 0 (Rat.mk (BigInt.mk false ([])) ([])) ([])) ([]) (Rat.mk (BigInt.mk false ([])) ([]))
noncomputable def wL (order:List Int) (v:Int) (own:List Link) (b:List TreeNode):Option TreeNode :=
  (jnP (own++yW v b)).bind fun x=>(aDl v x.1).bind fun y=>if bR (RA x.2 y.2.2) then some ⟨v,upP order y.1,own,y.1,y.2.1,RA x.2 y.2.2⟩ else none
def pkN:Option TreeNode→TreeNode × Bool
  | some n=>(n,true)
  | none=>(aNx,false)
theorem aMo {c:Conditional} (h:aK c≤20000):c.fParents.length≤20000:=by
  have:c.fParents.length≤cL c.fParents:=cP _ _
  unfold aK at h;omega
theorem aCB (a b:List Link):aF (a++b)=aF a+aF b:=by unfold aF szL;simp
theorem aLi {order:List Int} {v:Int} {own:List Link} {b:List TreeNode} (hl:order.length≤4194304) (ho:∀ u ∈ order,1≤u) (hz:aF own≤4194304) (hb:b.length≤100) (hm:∀ n ∈ b,LSet n.fMessages) (hv:∀ x ∈ own,ValidL x) :
    tS v own order b=some (pkN (wL order v own b))∧qW ⟨b⟩ order v own=some (pkN (wL order v own b)):=by
  have hol:own.length≤4194304:=Nat.le_trans (cP _ _) hz
  have q1:=aMN (step:=wX v b) v b own (by omega) (by omega) hm rfl
  have q2:=aMN (step:=uM ⟨b⟩ v) v b own (by omega) (by omega) hm rfl
  have hmv:=aKq (v:=v) hm
  have hml:=aJJ (v:=v) hm
  have hall:∀ x ∈ own++yW v b,ValidL x:=fun x hx=>(List.mem_append.1 hx).elim (hv x) (hmv x)
  have hms:=aDi hmv
  have hsz:aF (own++yW v b)≤4294967296:=by rw [aCB];omega
  have hln:(own++yW v b).length≤4294967296:=by rw [List.length_append];omega
  have j1:=(aBB (own++yW v b) hsz).1
  have j2:=aBl hall hln
  unfold tS qW wL
  rw [rV own (by omega)]
  simp only [Option.bind_some,List.nil_append,List.length_nil]
  rw [aQ (by omega),q1]
  simp only [Option.bind_some,tF]
  rw [q2,j1]
  simp only [Option.bind_some,j2]
  cases h:jnP (own++yW v b) with
  | none =>
    simp only [pk,Option.bind_none,pkN]
    refine ⟨?_,rfl⟩
    rw [(aEQ aBA v).1]
    have e0:aS (pkR (aDl v [])).2.2.1≤4294967296:=by
      cases h2:aDl v [] with
      | none=>exact VZs aBV
      | some y=>exact VZs (.inl (aG6 aBA (c:=y.1) (m:=y.2.1) (e:=y.2.2) h2).2.2.1)
    simp only [Option.bind_some]
    rw [(aOc (VZs aBV) e0).1]
    rfl
  | some x =>
    obtain ⟨s,e⟩:=x
    obtain ⟨_,hs,he⟩:=aDy h
    simp only [pk,Option.bind_some,if_true]
    rw [(aEQ hs v).1,(aEQ hs v).2]
    simp only [Option.bind_some]
    cases h2:aDl v s with
    | none =>
      simp only [pkR,Option.bind_none,pkN]
      rw [(aCz (.inl he) aBV).1,(aCz (.inl he) aBV).2.1]
      exact ⟨rfl,rfl⟩
    | some y =>
      obtain ⟨c,m,f⟩:=y
      obtain ⟨k1,k2,k3,_⟩:=aG6 hs h2
      have ra:=aCz (.inl he) (.inl k3)
      have hp:=aMo k1
      simp only [pkR,Option.bind_some,ra.1,ra.2.1,if_true]
      rw [fJ _ (VZs ra.2.2),iV ra.2.2,aN8 ho (by omega) (by omega),aNy order v own (c,m,f,true) (RA e f) (by omega) (by show c.fParents.length≤_;omega)]
      simp only [Option.bind_some]
      by_cases g:bR (RA e f)
      · rw [decide_eq_true g,if_pos g];exact ⟨rfl,rfl⟩
      · rw [decide_eq_false g,if_neg g];exact ⟨rfl,rfl⟩
theorem aEY {order:List Int} {v:Int} {own:List Link} {b:List TreeNode} {n:TreeNode} (h:wL order v own b=some n):LSet n.fMessages∧n.fOwn=own∧aK n.fCond≤20000∧bR n.fEnergy∧n.fNode=v∧n.fUp=upP order n.fCond:=by
  unfold wL at h
  cases h1:jnP (own++yW v b) with
  | none=>rw [h1] at h;cases h
  | some x =>
    rw [h1,Option.bind_some] at h
    cases h2:aDl v x.1 with
    | none=>rw [h2] at h;cases h
    | some y =>
      rw [h2,Option.bind_some] at h
      obtain ⟨_,hs,he⟩:=aDy (s:=x.1) (e:=x.2) h1
      obtain ⟨k1,k2,k3,_⟩:=aG6 hs (c:=y.1) (m:=y.2.1) (e:=y.2.2) h2
      split at h
      · rename_i g;cases h;exact ⟨k2,rfl,k1,g,rfl,rfl⟩
      · cases h
end Go.Ev
/- The nodes of a link set, orders of elimination, whose a link is, both programs. -/
namespace Go.Ev
set_option linter.all false
def aFX:List Int:=(List.range 9).map (fun k:Nat=>(k:Int)+1)
theorem aLk {x:Int}:x ∈ aFX↔1≤x∧x≤9:=by
  unfold aFX
  simp only [List.mem_map,List.mem_range]
  constructor
  · rintro ⟨k,h,rfl⟩;omega
  · intro h;exact ⟨(x - 1).toNat,by omega,by omega⟩
theorem aE0:aFX.length=9:=by decide
theorem aLl (k:Nat) (h:k < aFX.length):aFX[k]=(k:Int)+1:=by simp [aFX]
def nO (s:List Link):List Int:=aFX.filter (fun v=>s.any (tch v))
theorem aEX (s:List Link):(nO s).Pairwise (· < ·):=by
  have:aFX.Pairwise (· < ·):=by decide
  exact this.sublist List.filter_sublist
theorem aCj (s:List Link):(nO s).length≤9:=by
  have:=List.length_filter_le (fun v=>s.any (tch v)) aFX
  rw [aE0] at this;exact this
theorem aEW {s:List Link} {x:Int}:x ∈ nO s↔(1≤x∧x≤9)∧∃ l ∈ s,l.fA=x∨l.fB=x:=by
  unfold nO
  rw [List.mem_filter,aLk,List.any_eq_true]
  simp only [tch,decide_eq_true_eq]
def aFV (t:List Int) (l:Link):List Int:=aAR (if 0 < l.fA then aAR t l.fA else t) l.fB
theorem aHR {t:List Int} (l:Link) (h:t.Pairwise (· < ·)):(aFV t l).Pairwise (· < ·):=by
  unfold aFV;split
  · exact wJ _ _ (wJ _ _ h)
  · exact wJ _ _ h
theorem aK8 {t:List Int} {l:Link} {x:Int}:x ∈ aFV t l↔x=l.fB∨(x=l.fA∧0 < x)∨x ∈ t:=by
  unfold aFV;split
  · rw [zI,zI]
    constructor
    · rintro (h | h | h)
      · exact .inl h
      · exact .inr (.inl ⟨h,by omega⟩)
      · exact .inr (.inr h)
    · rintro (h | ⟨h,_⟩ | h)
      · exact .inl h
      · exact .inr (.inl h)
      · exact .inr (.inr h)
  · rw [zI]
    constructor
    · rintro (h | h)
      · exact .inl h
      · exact .inr (.inr h)
    · rintro (h | ⟨h,_⟩ | h)
      · exact .inl h
      · omega
      · exact .inr h
theorem aK9 (t:List Int) (l:Link):(aFV t l).length≤t.length+2:=by
  unfold aFV;split
  · have:=zJ (aAR t l.fA) l.fB;have:=zJ t l.fA;omega
  · have:=zJ t l.fB;omega
theorem aGC:∀ (s:List Link) (t:List Int) (x:Int),x ∈ s.foldl aFV t↔x ∈ t∨∃ l ∈ s,x=l.fB∨(x=l.fA∧0 < x)
  | [],t,x=>by simp
  | l::s,t,x=>by
    rw [List.foldl_cons,aGC s,aK8]
    simp only [List.mem_cons,exists_eq_or_imp]
    constructor
    · rintro ((h | h | h) | h)
      · exact .inr (.inl (.inl h))
      · exact .inr (.inl (.inr h))
      · exact .inl h
      · exact .inr (.inr h)
    · rintro (h | (h | h) | h)
      · exact .inl (.inr (.inr h))
      · exact .inl (.inl h)
      · exact .inl (.inr (.inl h))
      · exact .inr h
theorem aDc:∀ (s:List Link) (t:List Int),t.Pairwise (· < ·)→(s.foldl aFV t).Pairwise (· < ·)
  | [],t,h=>h
  | l::s,t,h=>aDc s _ (aHR l h)
theorem aKM {s:List Link} (hs:LSet s):tY s=some (nO s):=by
  have hl:=hs.len
  have:=(jZ (step:=oL s) s (fun k t=>(t,(k:Int))) aFV (fun t=>t) (fun k t=>t.length≤2*k) (fun k t hk hi=>by
    constructor
    · unfold oL
      simp only []
      rw [if_pos (by omega),aI hk]
      simp only [Option.bind_some,wi1 (by omega:k≤4294967296)]
      unfold aFV
      by_cases c:0 < (s[k]).fA
      · rw [if_pos c,if_pos c,aHQ _ _ (by omega)]
        simp only [Option.bind_some]
        rw [aHQ _ _ (by have:=zJ t (s[k]).fA;omega)];rfl
      · rw [if_neg c,if_neg c]
        simp only [Option.bind_some]
        rw [aHQ _ _ (by omega)];rfl
    · have:=aK9 t s[k];omega) (fun t _=>by unfold oL;simp only [];rw [if_neg (by omega)]) [] (Nat.zero_le _)).1
  rw [show ((0:Nat):Int)=0 from rfl] at this
  unfold tY
  rw [lN s (by have:=hs.sz;omega),decide_eq_true hs]
  simp only [Option.bind_some,if_true,this]
  congr 1
  refine aCe (aDc _ _ List.Pairwise.nil) (aEX s) fun x=>?_
  rw [aGC,aEW]
  constructor
  · rintro (h | ⟨l,hl,h⟩)
    · cases h
    · have v:=hs.1 l hl
      rcases h with rfl | ⟨rfl,h0⟩
      · exact ⟨⟨by have:=v.2.2.1;have:=v.1.1;omega,v.2.1.2⟩,l,hl,.inr rfl⟩
      · exact ⟨⟨by omega,v.1.2⟩,l,hl,.inl rfl⟩
  · rintro ⟨h1,l,hl,h⟩
    refine .inr ⟨l,hl,?_⟩
    rcases h with h | h
    · exact .inr ⟨h.symm,by omega⟩
    · exact .inl h.symm
theorem aIW {s:List Link} (hs:s.length≤4294967296) (v:Int) (t:List Int) (ht:t.length≤1000):lp (gP s v t) 0=some (if s.any (tch v)=true then t++[v] else t):=by
  have main:∀ m k:Nat,m+k=s.length→lp (gP s v t) (k:Int)=some (if (s.drop k).any (tch v)=true then t++[v] else t):=by
    intro m
    induction m with
    | zero =>
      intro k hk
      have:k=s.length:=by omega
      subst this
      rw [aL (r:=t) (by unfold gP;rw [if_neg (by omega)]),List.drop_length];rfl
    | succ m ih =>
      intro k hk
      have hlt:k < s.length:=by omega
      have e0:((if (s[k]).fA=v then some true else some (decide ((s[k]).fB=v))):Option Bool)=some (tch v s[k]):=by
        unfold tch;by_cases A:(s[k]).fA=v <;> by_cases B:(s[k]).fB=v <;> simp [A,B]
      rw [List.drop_eq_getElem_cons hlt,List.any_cons]
      by_cases c:tch v s[k]=true
      · rw [aL (r:=t++[v]) (by unfold gP;rw [if_pos (by omega),aI hlt];simp only [Option.bind_some,e0,c,if_true];rw [aQ (by omega)];rfl)]
        simp [c]
      · have e:gP s v t (k:Int)=some (.inl ((k+1:Nat):Int)):=by
          unfold gP;rw [if_pos (by omega),aI hlt];simp only [Option.bind_some,e0,wi1 (by omega:k≤4294967296)];rw [if_neg c]
        rw [bD e,ih (k+1) (by omega)]
        simp only [Bool.not_eq_true] at c
        simp [c]
  have:=main s.length 0 (by omega)
  rw [show ((0:Nat):Int)=0 from rfl,List.drop_zero] at this
  exact this
theorem aKk {s:List Link} (hs:s.length≤4294967296):uK s=some (nO s):=by
  have:=(jZ (step:=oY s) aFX (fun k t=>((k:Int)+1,t)) (fun t v=>if (fun v=>s.any (tch v)) v=true then t++[v] else t) (fun t=>t) (fun k t=>t.length≤k) (fun k t hk hi=>by
    have hk9:k < 9:=by rw [aE0] at hk;exact hk
    constructor
    · unfold oY
      simp only []
      rw [if_pos (by omega),aIW hs _ _ (by omega),aLl]
      have w:IntKind.i64.wrap ((k:Int)+1+1)=((k+1:Nat):Int)+1:=by rw [wi (by omega)];omega
      simp only [Option.bind_some,w]
    · simp only [];split
      · rw [List.length_append,List.length_singleton];omega
      · omega) (fun t _=>by unfold oY;simp only [];rw [aE0,if_neg (by omega)]) [] (Nat.zero_le _)).1
  rw [show ((0:Nat):Int)+1=1 from rfl,xP,List.nil_append] at this
  unfold uK
  rw [this];rfl
def aAL (s:List Link) (o:List Int):Prop:=o.Nodup∧(∀ y ∈ o,y ∈ nO s)∧o.length=(nO s).length
instance (s:List Link) (o:List Int):Decidable (aAL s o):=by unfold aAL;exact inferInstance
theorem aIU:∀ {a b:List Int},a.Nodup→(∀ x ∈ a,x ∈ b)→b.length≤a.length→b.Perm a
  | [],b,_,_,h=>by
    have:b=[]:=List.eq_nil_of_length_eq_zero (by simpa using h)
    rw [this]
  | x::a,b,hn,hs,h=>by
    rw [List.nodup_cons] at hn
    have hx:=hs x (by simp)
    have p:=List.perm_cons_erase hx
    have hl:=p.length_eq
    rw [List.length_cons] at hl h
    refine p.trans (List.Perm.cons x (aIU hn.2 (fun y hy=>?_) (by omega)))
    have:y≠x:=fun e=>hn.1 (e ▸ hy)
    exact (List.mem_erase_of_ne this).2 (hs y (by simp [hy]))
theorem aKt {l:List Int} (h:l.Pairwise (· < ·)):l.Nodup:=h.imp (fun {a b} hab e=>by subst e;omega)
theorem aGz (s:List Link) (o:List Int):aAL s o↔(∀ v ∈ nO s,v ∈ o)∧o.length=(nO s).length:=by
  have hn:=aKt (aEX s)
  constructor
  · rintro ⟨h1,h2,h3⟩
    have p:=aIU h1 h2 (by omega)
    exact ⟨fun v hv=>p.mem_iff.1 hv,h3⟩
  · rintro ⟨h1,h2⟩
    have p:=aIU hn h1 (by omega)
    exact ⟨p.nodup_iff.2 hn,fun y hy=>p.mem_iff.1 hy,h2⟩
theorem aFp {s:List Link} {o:List Int} (h:aAL s o):o.length≤9∧(∀ u ∈ o,1≤u):=by
  have:=aCj s
  exact ⟨by rw [h.2.2];exact this,fun u hu=>(aEW.1 (h.2.1 u hu)).1.1⟩
theorem aFv {σ:Type} {step:σ→Option (σ ⊕ (Unit ⊕ Bool))} (n:Nat) (E:Nat→σ) (G:Nat→Prop) (h1:∀ k:Nat,k < n→(G k∧step (E k)=some (.inl (E (k+1))))∨(¬G k∧step (E k)=some (.inr (.inr false)))) (h2:step (E n)=some (.inr (.inl ()))) :
    (lp step (E 0)=some (.inl ())∧∀ k,k < n→G k)∨(lp step (E 0)=some (.inr false)∧∃ k,k < n∧¬G k):=by
  have main:∀ m k:Nat,m+k=n→(lp step (E k)=some (.inl ())∧∀ j,k≤j→j < n→G j)∨(lp step (E k)=some (.inr false)∧∃ j,j < n∧¬G j):=by
    intro m
    induction m with
    | zero =>
      intro k hk
      have:k=n:=by omega
      subst this
      exact .inl ⟨aL h2,fun j _ _=>by omega⟩
    | succ m ih =>
      intro k hk
      rcases h1 k (by omega) with ⟨g,e⟩ | ⟨g,e⟩
      · rw [bD e]
        rcases ih (k+1) (by omega) with ⟨a,b⟩ | ⟨a,b⟩
        · refine .inl ⟨a,fun j h1 h2=>?_⟩
          by_cases e:j=k
          · subst e;exact g
          · exact b j (by omega) h2
        · exact .inr ⟨a,b⟩
      · exact .inr ⟨aL e,k,by omega,g⟩
  rcases main n 0 (by omega) with ⟨a,b⟩ | ⟨a,b⟩
  · exact .inl ⟨a,fun j h=>b j (Nat.zero_le _) h⟩
  · exact .inr ⟨a,b⟩
theorem aAm {l:List Int}:l.Nodup↔∀ k (h:k < l.length),l[k] ∉ l.take k:=by
  unfold List.Nodup
  rw [List.pairwise_iff_getElem]
  constructor
  · intro h k hk hm
    obtain ⟨j,hj,e⟩:=List.mem_iff_getElem.1 hm
    rw [List.length_take] at hj
    rw [List.getElem_take] at e
    exact h j k (by omega) hk (by omega) e
  · intro h i j hi hj hij e
    refine h j hj ?_
    rw [← e]
    exact List.mem_iff_getElem.2 ⟨i,by rw [List.length_take];omega,by rw [List.getElem_take]⟩
theorem aJt {s:List Link} (hs:LSet s) (o:List Int) (ho:o.length≤4194304):tZ s o=some (decide (aAL s o)):=by
  have hn:=aCj s
  unfold tZ
  rw [aKM hs]
  simp only [Option.bind_some]
  have L:=aFv (step:=oN o (nO s)) o.length (fun k=>((k:Int),o.take k)) (fun k=>∀ h:k < o.length,o[k] ∈ nO s∧o[k] ∉ o.take k) (fun k hk=>by
    have tl:(o.take k).length≤k:=by rw [List.length_take];omega
    have tk:o.take (k+1)=o.take k++[o[k]]:=by rw [List.take_add_one,List.getElem?_eq_getElem hk];rfl
    unfold oN
    simp only []
    rw [if_pos (by omega),aI hk]
    simp only [Option.bind_some,uJ (nO s) _ (by omega),uJ (o.take k) _ (by omega),wi1 (by omega:k≤4294967296)]
    by_cases A:o[k] ∈ nO s
    · by_cases B:o[k] ∈ o.take k
      · right
        refine ⟨fun h=>(h hk).2 B,?_⟩
        rw [decide_eq_true A,decide_eq_true B];rfl
      · left
        refine ⟨fun h=>⟨A,B⟩,?_⟩
        rw [decide_eq_true A,decide_eq_false B]
        simp only [if_true,Option.bind_some,Bool.false_eq_true,if_false]
        rw [aQ (by omega),tk];rfl
    · right
      refine ⟨fun h=>A (h hk).1,?_⟩
      rw [decide_eq_false A];rfl) (by unfold oN;simp only [];rw [if_neg (by omega)])
  simp only [List.take_zero] at L
  rw [show ((0:Nat):Int)=0 from rfl] at L
  rcases L with ⟨e,g⟩ | ⟨e,k,hk,g⟩
  · rw [e]
    simp only [Option.bind_some]
    rw [lN s (by have:=hs.sz;omega),decide_eq_true hs]
    simp only [Option.bind_some,if_true]
    congr 1
    rw [Bool.eq_iff_iff,decide_eq_true_iff,decide_eq_true_iff]
    constructor
    · intro h
      refine ⟨aAm.2 (fun k hk=>(g k hk hk).2),fun y hy=>?_,by omega⟩
      obtain ⟨j,hj,rfl⟩:=List.mem_iff_getElem.1 hy
      exact (g j hj hj).1
    · intro h;rw [h.2.2]
  · rw [e]
    have:¬aAL s o:=fun h=>g (fun hk=>⟨h.2.1 _ (List.getElem_mem hk),aAm.1 h.1 k hk⟩)
    rw [decide_eq_false this];rfl
theorem aHv (s:List Link) (h:aF s≤4294967296):nA s=some (decide (LSet s)):=by
  rw [← lN s h]
  unfold nA dM
  have:lp (pZ s) 0=lp (eS s) 0:=by
    refine aLs (fun _=>True) (fun v _=>⟨?_,fun _ _=>trivial⟩) _ trivial
    unfold pZ eS
    cases e:idx s v with
    | none=>rfl
    | some y =>
      have hy:y ∈ s:=List.mem_of_getElem? (aEf e).2.1
      have hz:=fL (w:=aT) hy
      unfold aF at h
      have q:=gA y (by omega)
      simp only [Option.bind_some,q.1,q.2,aIC,aFR]
  rw [this]
theorem aJu {s:List Link} (hs:LSet s) (o:List Int) (ho:o.length≤4194304):uP s o=some (decide (aAL s o)):=by
  have hn:=aCj s
  unfold uP
  have il:nA s=some true:=by rw [aHv s (by have:=hs.sz;omega),decide_eq_true hs]
  rw [il,aKk (by have:=hs.len;omega)]
  simp only [Option.bind_some,if_true]
  have L:=aFv (step:=pB o (nO s)) (nO s).length (fun k=>(k:Int)) (fun k=>∀ h:k < (nO s).length,(nO s)[k] ∈ o) (fun k hk=>by
    unfold pB
    rw [if_pos (by omega),aI hk]
    simp only [Option.bind_some,aBp o _ (by omega),wi1 (by omega:k≤4294967296)]
    by_cases A:(nO s)[k] ∈ o
    · exact .inl ⟨fun _=>A,by rw [decide_eq_true A];rfl⟩
    · exact .inr ⟨fun h=>A (h hk),by rw [decide_eq_false A];rfl⟩) (by unfold pB;rw [if_neg (by omega)])
  rw [show ((0:Nat):Int)=0 from rfl] at L
  rcases L with ⟨e,g⟩ | ⟨e,k,hk,g⟩
  · rw [e]
    simp only [Option.bind_some]
    congr 1
    rw [Bool.eq_iff_iff,decide_eq_true_iff,decide_eq_true_iff,aGz]
    constructor
    · intro h
      refine ⟨fun v hv=>?_,by omega⟩
      obtain ⟨j,hj,rfl⟩:=List.mem_iff_getElem.1 hv
      exact g j hj hj
    · intro h;rw [h.2]
  · rw [e]
    have:¬aAL s o:=fun h=>g (fun hk=>((aGz s o).1 h).1 _ (List.getElem_mem hk))
    rw [decide_eq_false this];rfl
def qD (o:List Int) (v:Int) (l:Link):Bool:=decide (fR o [l.fA,l.fB]=v)
theorem aMp (o:List Int) (l:Link) (h:o.length≤4294967296):rU o l=some (fR o [l.fA,l.fB]):=by
  unfold rU
  rw [aJY _ _ h (by simp)];rfl
theorem aBI {o s:List Int} {v:Int} (h:fR o s=v) (hv:v≠0):v ∈ s∧v ∈ o:=by
  unfold fR at h
  cases e:o.find? (fun u=>decide (u ∈ s)) with
  | none=>rw [e] at h;exact absurd h.symm hv
  | some x =>
    rw [e] at h
    simp only [Option.getD_some] at h
    subst h
    exact ⟨by simpa using List.find?_some e,List.mem_of_find?_eq_some e⟩
theorem aCv {o s:List Int} {k:Nat} (hk:k < o.length) (hn:o.Nodup) (h1:∀ u ∈ o,1≤u):fR o s=o[k]↔o[k] ∈ s∧∀ u ∈ o.take k,u ∉ s:=by
  have ef:o.find? (fun u=>decide (u ∈ s))=((o.take k).find? (fun u=>decide (u ∈ s))).or ((o[k]::o.drop (k+1)).find? (fun u=>decide (u ∈ s))):=by
    rw [← List.find?_append,← List.drop_eq_getElem_cons hk,List.take_append_drop]
  have hnt:=aAm.1 hn k hk
  constructor
  · intro h
    have hp:=h1 _ (List.getElem_mem hk)
    refine ⟨(aBI h (by omega)).1,fun u hu hus=>?_⟩
    unfold fR at h
    rw [ef] at h
    cases f:(o.take k).find? (fun u=>decide (u ∈ s)) with
    | none =>
      rw [List.find?_eq_none] at f
      exact f u hu (by simpa using hus)
    | some x =>
      have hx:=List.mem_of_find?_eq_some f
      rw [f] at h
      simp only [Option.some_or,Option.getD_some] at h
      rw [h] at hx
      exact hnt hx
  · rintro ⟨a,b⟩
    unfold fR
    rw [ef]
    have:(o.take k).find? (fun u=>decide (u ∈ s))=none:=by
      rw [List.find?_eq_none];intro u hu;simpa using b u hu
    rw [this,Option.none_or,List.find?_cons]
    simp [a]
end Go.Ev
/- Building a tree, both programs, and the law. -/
namespace Go.Ev
set_option linter.all false
theorem aAu (c:Conditional) (h:aK c≤4294967296):iM c=some c:=by
  have hp:=cP bO c.fParents
  unfold aK cL at h
  unfold iM
  rw [iK _ (by omega)]
  simp only [Option.bind_some]
  have:=wO (step:=fU c) c.fParents (fun k t=>((k:Int),t)) (fun t=>t) (fun k t hk ht=>by
    have he:=fL (w:=bO) (List.getElem_mem hk)
    have hn:bO c.fParents[k]=aS (c.fParents[k]).fShare+aS (c.fParents[k]).fDX+aS (c.fParents[k]).fDY:=rfl
    unfold fU
    simp only []
    rw [if_pos (by omega),aI hk]
    simp only [Option.bind_some]
    rw [iK _ (by omega)]
    simp only [Option.bind_some]
    rw [iK _ (by omega)]
    simp only [Option.bind_some]
    rw [iK _ (by omega)]
    simp only [Option.bind_some]
    rw [aQ (by omega),wi (by omega)];rfl) (fun t ht=>by unfold fU;simp only [];rw [if_neg (by omega)])
  rw [show ((0:Nat):Int)=0 from rfl] at this
  rw [this];rfl
theorem aKi (s:List Link) (o:List Int) (v:Int) (hs:s.length≤4194304) (ho:o.length≤4194304):lp (iQ s o v) (0,[])=some (s.filter (qD o v)):=by
  have:=(jZ (step:=iQ s o v) s (fun k t=>((k:Int),t)) (fun t x=>if qD o v x=true then t++[x] else t) (fun t=>t) (fun k t=>t.length≤k) (fun k t hk hi=>by
    constructor
    · unfold iQ
      simp only []
      rw [if_pos (by omega),aI hk]
      simp only [Option.bind_some,aMp o _ (by omega:o.length≤4294967296),wi1 (by omega:k≤4294967296)]
      by_cases c:fR o [(s[k]).fA,(s[k]).fB]=v
      · rw [if_pos c,if_pos (by unfold qD;simpa using c),aQ (by omega)];rfl
      · rw [if_neg c,if_neg (by unfold qD;simpa using c)]
    · split
      · rw [List.length_append,List.length_singleton];omega
      · omega) (fun t _=>by unfold iQ;simp only [];rw [if_neg (by omega)]) [] (Nat.zero_le _)).1
  rw [show ((0:Nat):Int)=0 from rfl,xP,List.nil_append] at this
  exact this
theorem aKQ (o:List Int) (k:Nat) (hk:k≤o.length):sub o 0 (k:Int)=some (o.take k):=by
  rw [vN _ _ _ (by omega)];simp
theorem aLf (o:List Int) (hn:o.Nodup) (h1:∀ u ∈ o,1≤u) (ho:o.length≤4194304) (k:Nat) (hk:k < o.length) (l:Link) (hl:l.fA < l.fB) :
    ((if l.fA=o[k] then (sub o 0 (k:Int)).bind fun y57=>(fT y57 l.fB).bind fun r58=>(if r58=true then (if l.fB=o[k] then (sub o 0 (k:Int)).bind fun y59=>(fT y59 l.fA).bind fun r60=>some (!r60) else some false) else some true) else (if l.fB=o[k] then (sub o 0 (k:Int)).bind fun y61=>(fT y61 l.fA).bind fun r62=>some (!r62) else some false)):Option Bool)=some (qD o o[k] l):=by
  have tl:(o.take k).length≤4294967296:=by rw [List.length_take];omega
  have hnt:=aAm.1 hn k hk
  have ft:=aCv (s:=[l.fA,l.fB]) hk hn h1
  rw [aKQ o k (by omega)]
  simp only [Option.bind_some,aBp _ _ tl]
  unfold qD
  by_cases A:l.fA=o[k]
  · have B:¬l.fB=o[k]:=by omega
    rw [if_pos A,if_neg B]
    by_cases C:l.fB ∈ o.take k
    · rw [decide_eq_true C,if_pos rfl]
      have:¬fR o [l.fA,l.fB]=o[k]:=fun h=>(ft.1 h).2 _ C (by simp)
      rw [decide_eq_false this]
    · rw [decide_eq_false C]
      have:fR o [l.fA,l.fB]=o[k]:=ft.2 ⟨by simp [A],fun u hu hs=>by
        rcases List.mem_cons.1 hs with rfl | hs
        · exact hnt (A ▸ hu)
        · rw [List.mem_singleton.1 hs] at hu;exact C hu⟩
      rw [decide_eq_true this];rfl
  · rw [if_neg A]
    by_cases B:l.fB=o[k]
    · rw [if_pos B]
      by_cases C:l.fA ∈ o.take k
      · have:¬fR o [l.fA,l.fB]=o[k]:=fun h=>(ft.1 h).2 _ C (by simp)
        rw [decide_eq_true C,decide_eq_false this];rfl
      · have:fR o [l.fA,l.fB]=o[k]:=ft.2 ⟨by simp [B],fun u hu hs=>by
          rcases List.mem_cons.1 hs with rfl | hs
          · exact C hu
          · rw [List.mem_singleton.1 hs] at hu;exact hnt (B ▸ hu)⟩
        rw [decide_eq_false C,decide_eq_true this];rfl
    · rw [if_neg B]
      have:¬fR o [l.fA,l.fB]=o[k]:=fun h=>by
        have:=(ft.1 h).1
        simp only [List.mem_cons,List.not_mem_nil,or_false] at this
        rcases this with e | e
        · exact A e.symm
        · exact B e.symm
      rw [decide_eq_false this]
theorem aKj (s:List Link) (o:List Int) (hs:s.length≤4194304) (ho:o.length≤4194304) (hv:∀ x ∈ s,ValidL x) (hn:o.Nodup) (h1:∀ u ∈ o,1≤u) (i:Nat) (hi:i < o.length):lp (iU s o o[i] (i:Int)) (0,[])=some (s.filter (qD o o[i])):=by
  have:=(jZ (step:=iU s o o[i] (i:Int)) s (fun k t=>((k:Int),t)) (fun t x=>if qD o o[i] x=true then t++[x] else t) (fun t=>t) (fun k t=>t.length≤k) (fun k t hk hj=>by
    constructor
    · unfold iU
      simp only []
      rw [if_pos (by omega),aI hk]
      have oc:=aLf o hn h1 ho i hi s[k] (hv _ (List.getElem_mem hk)).2.2.1
      simp only [Option.bind_some,wi1 (by omega:k≤4294967296)]
      rw [oc]
      simp only [Option.bind_some]
      by_cases c:qD o o[i] s[k]=true
      · rw [if_pos c,if_pos c,aQ (by omega)];rfl
      · rw [if_neg c,if_neg c]
    · split
      · rw [List.length_append,List.length_singleton];omega
      · omega) (fun t _=>by unfold iU;simp only [];rw [if_neg (by omega)]) [] (Nat.zero_le _)).1
  rw [show ((0:Nat):Int)=0 from rfl,xP,List.nil_append] at this
  exact this
noncomputable def xF (s:List Link) (o:List Int):List Int→List TreeNode→Option (List TreeNode)
  | [],b=>some b
  | v::r,b=>(wL o v (s.filter (qD o v)) b).bind fun n=>xF s o r (b++[n])
noncomputable def xB (s:List Link) (o:List Int):Option Tree :=
  (jnP s).bind fun x=>if aAL x.1 o then (xF s o o []).map Tree.mk else none
def pkT:Option Tree→Tree × Bool
  | some t=>(t,true)
  | none=>(Tree.mk [],false)
def aM6:Option (List TreeNode)→(List TreeNode) ⊕ (Tree × Bool)
  | some b=>.inl b
  | none=>.inr (Tree.mk [],false)
def NodeOk (s:List Link) (o:List Int) (n:TreeNode):Prop:=LSet n.fMessages∧n.fOwn=s.filter (qD o n.fNode)∧aK n.fCond≤20000∧bR n.fEnergy∧n.fUp=upP o n.fCond
theorem aAg (p:Link→Bool):∀ s:List Link,aF (s.filter p)≤aF s
  | []=>Nat.le_refl _
  | x::s=>by
    have:=aAg p s
    unfold aF at this ⊢
    rw [List.filter_cons,jA]
    split
    · rw [jA];omega
    · omega
theorem aEZ {s:List Link} {o:List Int} {v:Int} {b:List TreeNode} {n:TreeNode} (h:wL o v (s.filter (qD o v)) b=some n):NodeOk s o n∧n.fNode=v:=by
  obtain ⟨h1,h2,h3,h4,h5,h6⟩:=aEY h
  exact ⟨⟨h1,by rw [h5];exact h2,h3,h4,h6⟩,h5⟩
theorem aCA {s:List Link} {o:List Int}:∀ (r:List Int) (b b':List TreeNode),(∀ n ∈ b,NodeOk s o n)→xF s o r b=some b'→(∀ n ∈ b',NodeOk s o n)∧b'.map (·.fNode)=b.map (·.fNode)++r
  | [],b,b',h,e=>by cases e;exact ⟨h,by simp⟩
  | v::r,b,b',h,e=>by
    rw [xF] at e
    cases h1:wL o v (s.filter (qD o v)) b with
    | none=>rw [h1] at e;cases e
    | some n =>
      rw [h1,Option.bind_some] at e
      obtain ⟨g1,g2⟩:=aEZ h1
      obtain ⟨k1,k2⟩:=aCA r (b++[n]) b' (fun m hm=>by
        rcases List.mem_append.1 hm with hm | hm
        · exact h m hm
        · rw [List.mem_singleton.1 hm];exact g1) e
      exact ⟨k1,by rw [k2,List.map_append,List.append_assoc];simp [g2]⟩
theorem aIE (s:List Link) (o:List Int) (hz:aF s≤4194304) (hv:∀ x ∈ s,ValidL x) (ho:o.length≤9) (h1:∀ u ∈ o,1≤u):∀ m k:Nat,m+k=o.length→∀ b:List TreeNode,b.length=k→(∀ n ∈ b,LSet n.fMessages)→lp (iP s o) ((k:Int),b)=some (aM6 (xF s o (o.drop k) b)):=by
  have hl:s.length≤4194304:=Nat.le_trans (cP _ _) hz
  intro m
  induction m with
  | zero =>
    intro k hk b hb hm
    rw [List.drop_eq_nil_of_le (by omega)]
    exact aL (by unfold iP;simp only [];rw [if_neg (by omega)];rfl)
  | succ m ih =>
    intro k hk b hb hm
    have hlt:k < o.length:=by omega
    rw [List.drop_eq_getElem_cons hlt,xF]
    have nq:=(aLi (v:=o[k]) (own:=s.filter (qD o o[k])) (b:=b) (by omega:o.length≤4194304) h1 (Nat.le_trans (aAg _ s) hz) (by omega) hm (fun x hx=>hv x (List.mem_filter.1 hx).1)).1
    have st:iP s o ((k:Int),b)=some (match wL o o[k] (s.filter (qD o o[k])) b with | some n=>.inl (((k+1:Nat):Int),b++[n]) | none=>.inr (.inr (Tree.mk [],false))):=by
      unfold iP
      simp only []
      rw [if_pos (by omega),aI hlt]
      simp only [Option.bind_some,aKi s o o[k] hl (by omega),nq,wi1 (by omega:k≤4294967296)]
      cases wL o o[k] (s.filter (qD o o[k])) b with
      | none=>rfl
      | some n=>simp only [pkN,if_true];rw [aQ (by omega)];rfl
    cases h:wL o o[k] (s.filter (qD o o[k])) b with
    | none=>rw [h] at st;rw [aL st];rfl
    | some n =>
      rw [h] at st
      rw [bD st,Option.bind_some]
      exact ih (k+1) (by omega) _ (by simp [hb]) (fun x hx=>by
        rcases List.mem_append.1 hx with hx | hx
        · exact hm x hx
        · rw [List.mem_singleton.1 hx];exact (aEY h).1)
theorem aIF (s:List Link) (o:List Int) (hz:aF s≤4194304) (hv:∀ x ∈ s,ValidL x) (ho:o.length≤9) (hn:o.Nodup) (h1:∀ u ∈ o,1≤u):∀ m k:Nat,m+k=o.length→∀ b:List TreeNode,b.length=k→(∀ n ∈ b,LSet n.fMessages)→lp (iT s o) ((k:Int),b)=some (aM6 (xF s o (o.drop k) b)):=by
  have hl:s.length≤4194304:=Nat.le_trans (cP _ _) hz
  intro m
  induction m with
  | zero =>
    intro k hk b hb hm
    rw [List.drop_eq_nil_of_le (by omega)]
    exact aL (by unfold iT;simp only [];rw [if_neg (by omega)];rfl)
  | succ m ih =>
    intro k hk b hb hm
    have hlt:k < o.length:=by omega
    rw [List.drop_eq_getElem_cons hlt,xF]
    have nq:=(aLi (v:=o[k]) (own:=s.filter (qD o o[k])) (b:=b) (by omega:o.length≤4194304) h1 (Nat.le_trans (aAg _ s) hz) (by omega) hm (fun x hx=>hv x (List.mem_filter.1 hx).1)).2
    have st:iT s o ((k:Int),b)=some (match wL o o[k] (s.filter (qD o o[k])) b with | some n=>.inl (((k+1:Nat):Int),b++[n]) | none=>.inr (.inr (Tree.mk [],false))):=by
      unfold iT
      simp only []
      rw [if_pos (by omega),aI hlt]
      simp only [Option.bind_some,aKj s o hl (by omega) hv hn h1 k hlt,nq,wi1 (by omega:k≤4294967296)]
      cases wL o o[k] (s.filter (qD o o[k])) b with
      | none=>rfl
      | some n=>simp only [pkN,if_true];rw [aQ (by omega)];rfl
    cases h:wL o o[k] (s.filter (qD o o[k])) b with
    | none=>rw [h] at st;rw [aL st];rfl
    | some n =>
      rw [h] at st
      rw [bD st,Option.bind_some]
      exact ih (k+1) (by omega) _ (by simp [hb]) (fun x hx=>by
        rcases List.mem_append.1 hx with hx | hx
        · exact hm x hx
        · rw [List.mem_singleton.1 hx];exact (aEY h).1)
theorem NodeOk.sz {s:List Link} {o:List Int} {n:TreeNode} (h:NodeOk s o n) (hz:aF s≤4194304):aN n≤4300000:=by
  have h1:=h.1.sz
  have h2:aF n.fOwn≤4194304:=by rw [h.2.1];exact Nat.le_trans (aAg _ s) hz
  have h3:=qB (.inl h.2.2.2.1)
  have h4:=h.2.2.1
  unfold aN;omega
theorem aJg (n:TreeNode) (h:aN n≤4294967296):lJ n=some n:=by
  unfold aN at h
  unfold lJ
  rw [rI _ (by omega),aAu _ (by omega)]
  simp only [Option.bind_some]
  rw [rI _ (by omega),iK _ (by omega)]
  rfl
theorem aFE (t:Tree) (h:bZ t≤4294967296):pO t=some t:=by
  unfold bZ bW at h
  have hl:=cP aN t.fNodes
  unfold pO
  have:=wO (step:=mX t) t.fNodes (fun k t=>((k:Int),t)) (fun t=>t) (fun k u hk hu=>by
    have he:=fL (w:=aN) (List.getElem_mem hk)
    unfold mX
    simp only []
    rw [if_pos (by omega),aI hk]
    simp only [Option.bind_some]
    rw [aJg _ (by omega)]
    simp only [Option.bind_some]
    rw [aQ (by omega),wi1 (by omega)];rfl) (fun t ht=>by unfold mX;simp only [];rw [if_neg (by omega)])
  rw [show ((0:Nat):Int)=0 from rfl] at this
  rw [this];rfl
theorem aMc {s:List Link} {o:List Int} {b:List TreeNode} (hz:aF s≤4194304) (ho:o.length≤9) (h:xF s o o []=some b):bZ ⟨b⟩≤38700018:=by
  obtain ⟨h1,h2⟩:=aCA o [] b (by simp) h
  have hl:b.length=o.length:=by have:=congrArg List.length h2;simpa using this
  have:bW b≤(4300000+1)*b.length:=aDj (fun n hn=>(h1 n hn).sz hz)
  unfold bZ
  have:(4300000+1)*b.length≤4300001*9:=Nat.mul_le_mul (Nat.le_refl _) (by omega)
  simp only []
  omega
theorem aJ8 (s:List Link) (o:List Int) (hz:aF s≤4194304) (ho:o.length≤4194304):mG s o=some (pkT (xB s o))∧nC s o=some (pkT (xB s o)):=by
  obtain ⟨j1,j2⟩:=aBB s (by omega)
  unfold mG nC xB
  rw [j1,j2]
  cases h:jnP s with
  | none=>exact ⟨rfl,rfl⟩
  | some x =>
    obtain ⟨u,e⟩:=x
    obtain ⟨hv,hs,he⟩:=aDy h
    simp only [pk,Option.bind_some,if_true]
    rw [aJt hs o ho,aJu hs o ho]
    by_cases c:aAL u o
    · obtain ⟨l9,h1⟩:=aFp c
      have q1:=aIE s o hz hv l9 h1 o.length 0 (by omega) [] rfl (by simp)
      have q2:=aIF s o hz hv l9 c.1 h1 o.length 0 (by omega) [] rfl (by simp)
      rw [show ((0:Nat):Int)=0 from rfl,List.drop_zero] at q1 q2
      rw [decide_eq_true c,if_pos c]
      simp only [Option.bind_some,Bool.not_true,Bool.false_eq_true,if_false,q1,q2]
      cases g:xF s o o [] with
      | none=>exact ⟨rfl,rfl⟩
      | some b =>
        simp only [aM6]
        rw [aFE ⟨b⟩ (by have:=aMc hz l9 g;omega)]
        exact ⟨rfl,rfl⟩
    · rw [decide_eq_false c,if_neg c]
      exact ⟨rfl,rfl⟩
end Go.Ev
/- Comparison of links, conditionals, tree nodes; nodes that have changed. -/
namespace Go.Ev
set_option linter.all false
theorem aEH (a b:List Int) (h:a.length≤4294967296):pN a b=some (decide (a=b)):=by
  unfold pN
  by_cases hl:a.length=b.length
  · rw [if_neg (by omega),aDx a b hl (fun k ha hb=>by
      unfold rH
      rw [if_pos (by omega),aI ha,aI hb,wi (by omega)]
      simp only [Option.bind_some]
      by_cases c:a[k]=b[k]
      · rw [if_neg (by simp [c]),if_pos c]
      · rw [if_pos c,if_neg c]) (by unfold rH;rw [if_neg (by omega)])]
    by_cases c:a=b <;> simp [c]
  · rw [if_pos (by omega)]
    have:a≠b:=by rintro rfl;exact hl rfl
    simp [this]
theorem fQ (r s:Rat) (h:aS r≤4294967296):cZ r s=some (decide (r=s)):=by
  obtain ⟨⟨a,m⟩,d⟩:=r
  obtain ⟨⟨a',m'⟩,d'⟩:=s
  unfold aS dH gB at h
  rw [rS,rS] at h
  simp only at h
  unfold cZ
  simp only []
  rw [aEH m m' (by omega),aEH d d' (by omega)]
  by_cases c1:a=a' <;> by_cases c2:m=m' <;> by_cases c3:d=d' <;> simp [c1,c2,c3]
theorem sT (r s:Rat) (h:aS r≤4294967296):cU r s=some (decide (r=s)):=fQ r s h
theorem aIO (r s:Link) (h:aT r≤4294967296):sM r s=some (decide (r=s)):=by
  obtain ⟨a,b,w,x,y⟩:=r
  obtain ⟨a',b',w',x',y'⟩:=s
  unfold aT at h
  simp only at h
  unfold sM
  simp only []
  rw [fQ w w' (by omega),fQ x x' (by omega),fQ y y' (by omega)]
  by_cases c1:a=a' <;> by_cases c2:b=b' <;> by_cases c3:w=w' <;> by_cases c4:x=x' <;> by_cases c5:y=y' <;> simp [c1,c2,c3,c4,c5]
theorem zX (a b:List Link) (h:aF a≤4294967296):mZ a b=some (decide (a=b)):=by
  have hal:=cP aT a
  unfold aF at h
  unfold mZ
  by_cases hl:a.length=b.length
  · rw [if_neg (by omega),aDx a b hl (fun k ha hb=>by
      have he:=fL (w:=aT) (List.getElem_mem ha)
      unfold pY
      rw [if_pos (by omega),aI ha,aI hb,wi (by omega)]
      simp only [Option.bind_some]
      rw [aIO _ _ (by omega)]
      simp only [Option.bind_some]
      by_cases c:a[k]=b[k]
      · rw [if_pos (by simp [c]),if_pos c]
      · rw [if_neg (by simp [c]),if_neg c]) (by unfold pY;rw [if_neg (by omega)])]
    by_cases c:a=b <;> simp [c]
  · rw [if_pos (by omega)]
    have:a≠b:=by rintro rfl;exact hl rfl
    simp [this]
theorem zF (a b:List Link) (h:aF a≤4294967296):mF a b=some (decide (a=b)):=by
  have hal:=cP aT a
  unfold aF at h
  unfold mF
  by_cases hl:a.length=b.length
  · rw [if_neg (by omega),aDx a b hl (fun k ha hb=>by
      have he:=fL (w:=aT) (List.getElem_mem ha)
      unfold pU
      rw [if_pos (by omega),aI ha,aI hb,wi (by omega)]
      simp only [Option.bind_some]
      generalize a[k]=r at *
      generalize b[k]=s at *
      obtain ⟨a1,b1,w,x,y⟩:=r
      obtain ⟨a2,b2,w',x',y'⟩:=s
      have hn:aT ⟨a1,b1,w,x,y⟩=aS w+aS x+aS y:=rfl
      simp only []
      rw [sT w w' (by omega),sT x x' (by omega),sT y y' (by omega)]
      by_cases c1:a1=a2 <;> by_cases c2:b1=b2 <;> by_cases c3:w=w' <;> by_cases c4:x=x' <;> by_cases c5:y=y' <;> simp [c1,c2,c3,c4,c5]) (by unfold pU;rw [if_neg (by omega)])]
    by_cases c:a=b <;> simp [c]
  · rw [if_pos (by omega)]
    have:a≠b:=by rintro rfl;exact hl rfl
    simp [this]
theorem uO (a b:Conditional) (h:aK a≤4294967296):iO a b=some (decide (a=b)):=by
  obtain ⟨n,t,l⟩:=a
  obtain ⟨n',t',l'⟩:=b
  have hal:=cP bO l
  unfold aK cL at h
  simp only at h
  unfold iO
  simp only []
  rw [fQ t t' (by omega)]
  by_cases c1:n=n'
  · by_cases c2:t=t'
    · by_cases hl:l.length=l'.length
      · have e:lp (fV ⟨n,t,l⟩ ⟨n',t',l'⟩) 0=some (if l=l' then .inl () else .inr false):=aDx l l' hl (fun k ha hb=>by
          have he:=fL (w:=bO) (List.getElem_mem ha)
          unfold fV
          simp only []
          rw [if_pos (by omega),aI ha,aI hb,wi (by omega)]
          simp only [Option.bind_some]
          generalize l[k]=r at *
          generalize l'[k]=s at *
          obtain ⟨a1,w,x,y⟩:=r
          obtain ⟨a2,w',x',y'⟩:=s
          have hn:bO ⟨a1,w,x,y⟩=aS w+aS x+aS y:=rfl
          simp only []
          rw [fQ w w' (by omega),fQ x x' (by omega),fQ y y' (by omega)]
          by_cases c1:a1=a2 <;> by_cases c3:w=w' <;> by_cases c4:x=x' <;> by_cases c5:y=y' <;> simp [c1,c3,c4,c5]) (by unfold fV;simp only [];rw [if_neg (by omega)])
        rw [e]
        by_cases c:l=l' <;> simp [c1,c2,hl,c]
      · have:l≠l':=by rintro rfl;exact hl rfl
        have h2:(l.length:Int)≠(l'.length:Int):=by omega
        simp [c1,c2,this,h2]
    · simp [c1,c2]
  · simp [c1]
theorem aAi (a b:Conditional) (h:aK a≤4294967296):kR a b=some (decide (a=b)):=uO a b h
theorem aEG (a b:TreeNode) (h:aN a≤4294967296):lH a b=some (decide (a=b)):=by
  obtain ⟨n,u,o,c,m,e⟩:=a
  obtain ⟨n',u',o',c',m',e'⟩:=b
  unfold aN at h
  simp only at h
  unfold lH
  simp only []
  rw [zX o o' (by omega),uO c c' (by omega),zX m m' (by omega),fQ e e' (by omega)]
  by_cases c1:n=n' <;> by_cases c2:u=u' <;> by_cases c3:o=o' <;> by_cases c4:c=c' <;> by_cases c5:m=m' <;> by_cases c6:e=e' <;> simp [c1,c2,c3,c4,c5,c6]
theorem aKs (a b:TreeNode) (h:aN a≤4294967296):tR a b=some (decide (a=b)):=by
  obtain ⟨n,u,o,c,m,e⟩:=a
  obtain ⟨n',u',o',c',m',e'⟩:=b
  unfold aN at h
  simp only at h
  unfold tR
  simp only []
  rw [zF o o' (by omega),aAi c c' (by omega),zF m m' (by omega),sT e e' (by omega)]
  by_cases c1:n=n' <;> by_cases c2:u=u' <;> by_cases c3:o=o' <;> by_cases c4:c=c' <;> by_cases c5:m=m' <;> by_cases c6:e=e' <;> simp [c1,c2,c3,c4,c5,c6]
def atN (t:Tree) (v:Int):Option Nat:=t.fNodes.findIdx? (fun n=>decide (n.fNode=v))
theorem aGB (t:Tree) (v:Int) (h:t.fNodes.length≤4294967296):lI t v=some (match atN t v with | none=>-1 | some k=>(k:Int)):=by
  unfold lI atN
  rw [aLr t.fNodes (fun n=>decide (n.fNode=v)) (fun k hk=>by
    unfold sY
    rw [if_pos (by omega),aI hk,wi (by omega)]
    simp only [Option.bind_some,decide_eq_true_eq]
    by_cases c:(t.fNodes[k]).fNode=v
    · rw [if_pos c,if_pos c]
    · rw [if_neg c,if_neg c]) (by unfold sY;rw [if_neg (by omega)])]
  simp only [Option.bind_some]
  cases t.fNodes.findIdx? (fun n=>decide (n.fNode=v)) <;> rfl
theorem aHl (t:Tree) (v:Int) (h:t.fNodes.length≤4294967296):xR t v=some (match atN t v with | none=>-1 | some k=>(k:Int)):=aGB t v h
end Go.Ev
/- Is it a tree, both programs, and the law. -/
namespace Go.Ev
set_option linter.all false
theorem aH2 (t:Tree) (h:bZ t≤4294967296):mE t=some (cJ t.fNodes)∧mY t=some (cJ t.fNodes):=by
  unfold bZ bW at h
  have hl:=cP aN t.fNodes
  have hmem:∀ k (hk:k < t.fNodes.length),aF (t.fNodes[k]).fOwn≤4294967296:=fun k hk=>by
    have he:=fL (w:=aN) (List.getElem_mem hk)
    have hn:aN t.fNodes[k]=aF (t.fNodes[k]).fOwn+aK (t.fNodes[k]).fCond+aF (t.fNodes[k]).fMessages+aS (t.fNodes[k]).fEnergy:=rfl
    omega
  have hln:∀ k (hk:k < t.fNodes.length),(cJ (t.fNodes.take k)).length+((t.fNodes[k]).fOwn).length≤4294967296:=fun k hk=>by
    have:=aIV t.fNodes h (k+1)
    rw [aA1 _ _ hk,List.length_append] at this;omega
  have aux:∀ (step:(Int × (List Link))→Option ((Int × (List Link)) ⊕ (List Link))),(∀ k (hk:k < t.fNodes.length),step ((k:Int),cJ (t.fNodes.take k))=some (.inl (((k+1:Nat):Int),cJ (t.fNodes.take (k+1)))))→step ((t.fNodes.length:Int),cJ (t.fNodes.take t.fNodes.length))=some (.inr (cJ t.fNodes))→lp step (0,[])=some (cJ t.fNodes):=by
    intro step h1 h2
    have main:∀ m k:Nat,m+k=t.fNodes.length→lp step ((k:Int),cJ (t.fNodes.take k))=some (cJ t.fNodes):=by
      intro m
      induction m with
      | zero =>
        intro k hk
        have:k=t.fNodes.length:=by omega
        subst this
        exact aL h2
      | succ m ih =>
        intro k hk
        rw [bD (h1 k (by omega))]
        exact ih (k+1) (by omega)
    exact main t.fNodes.length 0 (by omega)
  constructor
  · unfold mE
    rw [aux (kQ t) (fun k hk=>by
      have:=hmem k hk
      have:=hln k hk
      unfold kQ
      simp only []
      rw [if_pos (by omega),aI hk]
      simp only [Option.bind_some]
      rw [rV _ (by omega)]
      simp only [Option.bind_some]
      rw [aQ (by omega),aA1 _ _ hk,wi1 (by omega)];rfl) (by unfold kQ;simp only [];rw [if_neg (by omega),List.take_length])]
    rfl
  · unfold mY
    rw [aux (lL t) (fun k hk=>by
      have:=hmem k hk
      have:=hln k hk
      unfold lL
      simp only []
      rw [if_pos (by omega),aI hk]
      simp only [Option.bind_some]
      rw [rI _ (by omega)]
      simp only [Option.bind_some]
      rw [aQ (by omega),aA1 _ _ hk,wi1 (by omega)];rfl) (by unfold lL;simp only [];rw [if_neg (by omega),List.take_length])]
    rfl
def gU (t:Tree):List Int:=t.fNodes.map (·.fNode)
theorem aJG (t:Tree) (h:t.fNodes.length≤4294967296):kV t=some (gU t)∧rK t=some (gU t):=by
  have e:rK t=kV t:=rfl
  have:kV t=some (gU t):=by
    have:=(jZ (step:=oK t) t.fNodes (fun k u=>((k:Int),u)) (fun u n=>u++[n.fNode]) (fun u=>u) (fun k u=>u.length≤k) (fun k u hk hi=>by
      constructor
      · unfold oK
        simp only []
        rw [if_pos (by omega),aI hk]
        simp only [Option.bind_some,wi1 (by omega:k≤4294967296)]
        rw [aQ (by omega)];rfl
      · rw [List.length_append,List.length_singleton];omega) (fun u _=>by unfold oK;simp only [];rw [if_neg (by omega)]) [] (Nat.zero_le _)).1
    rw [show ((0:Nat):Int)=0 from rfl,aCt,List.nil_append] at this
    unfold kV
    rw [this];rfl
  exact ⟨this,e.trans this⟩
theorem aJy (a b:Tree) (h:bZ a≤4294967296):rZ a b=some (decide (a=b)):=by
  unfold bZ bW at h
  have hl:=cP aN a.fNodes
  obtain ⟨a⟩:=a
  obtain ⟨b⟩:=b
  simp only [] at h hl
  unfold rZ
  by_cases hn:a.length=b.length
  · rw [if_neg (by simp only [];omega),aDx a b hn (fun k ha hb=>by
      have he:=fL (w:=aN) (List.getElem_mem ha)
      unfold qZ
      simp only []
      rw [if_pos (by omega),aI ha,aI hb,wi (by omega)]
      simp only [Option.bind_some]
      rw [aKs _ _ (by omega)]
      by_cases c:a[k]=b[k] <;> simp [c]) (by unfold qZ;simp only [];rw [if_neg (by omega)])]
    by_cases c:a=b <;> simp [c]
  · rw [if_pos (by simp only [];omega)]
    have:a≠b:=by rintro rfl;exact hn rfl
    simp [this]
theorem aJz (a b:Tree) (h:bZ a≤4294967296):sP a b=some (decide (a=b)):=by
  unfold bZ bW at h
  have hl:=cP aN a.fNodes
  obtain ⟨a⟩:=a
  obtain ⟨b⟩:=b
  simp only [] at h hl
  unfold sP
  by_cases hn:a.length=b.length
  · rw [if_neg (by simp only [];omega),aDx a b hn (fun k ha hb=>by
      have he:=fL (w:=aN) (List.getElem_mem ha)
      unfold rJ
      simp only []
      rw [if_pos (by omega),aI ha,aI hb,wi (by omega)]
      simp only [Option.bind_some]
      rw [aEG _ _ (by omega)]
      by_cases c:a[k]=b[k] <;> simp [c]) (by unfold rJ;simp only [];rw [if_neg (by omega)])]
    by_cases c:a=b <;> simp [c]
  · rw [if_pos (by simp only [];omega)]
    have:a≠b:=by rintro rfl;exact hn rfl
    simp [this]
def pX (t:Tree):Prop:=xB (cJ t.fNodes) (gU t)=some t
noncomputable instance (t:Tree):Decidable (pX t):=Classical.propDecidable _
theorem aL6 (t:Tree) (h:bZ t≤4194304):wH t=some (decide (pX t))∧wT t=some (decide (pX t)):=by
  have h0:=h
  unfold bZ bW at h
  have hl:=cP aN t.fNodes
  have ho:=zK t.fNodes
  obtain ⟨l1,l2⟩:=aH2 t (by omega)
  obtain ⟨o1,o2⟩:=aJG t (by omega)
  obtain ⟨b1,b2⟩:=aJ8 (cJ t.fNodes) (gU t) (by omega) (by unfold gU;rw [List.length_map];omega)
  unfold wH wT
  rw [l1,l2]
  simp only [Option.bind_some,o1,o2,b1,b2]
  by_cases c:pX t
  · have c':=c
    unfold pX at c'
    rw [c',decide_eq_true c]
    simp only [pkT,if_true,aJy t t (by omega),aJz t t (by omega),Option.bind_some,decide_true,and_self]
  · rw [decide_eq_false c]
    cases g:xB (cJ t.fNodes) (gU t) with
    | none=>simp [pkT]
    | some u =>
      have:¬t=u:=by rintro rfl;exact c g
      simp only [pkT,if_true,aJy t u (by omega),aJz t u (by omega),Option.bind_some,decide_eq_false this,and_self]
end Go.Ev
/- Paths of a tree end: what a tree's node hands up lies later in the order. -/
namespace Go.Ev
set_option linter.all false
def pr (s:List Link) (x y:Int):Prop:=∃ l ∈ s,l.fA=x∧l.fB=y
theorem aCh {a b:List Link} {x y:Int}:pr (a++b) x y↔pr a x y∨pr b x y:=by
  unfold pr
  constructor
  · rintro ⟨l,h,e⟩
    rcases List.mem_append.1 h with h | h
    · exact .inl ⟨l,h,e⟩
    · exact .inr ⟨l,h,e⟩
  · rintro (⟨l,h,e⟩ | ⟨l,h,e⟩)
    · exact ⟨l,List.mem_append_left _ h,e⟩
    · exact ⟨l,List.mem_append_right _ h,e⟩
theorem aEl {a:List Link} {l:Link} {x y:Int}:pr (l::a) x y↔(l.fA=x∧l.fB=y)∨pr a x y:=by
  unfold pr;simp only [List.mem_cons,exists_eq_or_imp]
theorem aIQ {x y:Int}:¬pr [] x y:=by rintro ⟨l,h,_⟩;cases h
theorem aMz {s:List Link} {l:Link} {s':List Link} {e:Rat} (h:aEh s l=some (s',e)) (x y:Int):pr s' x y↔pr s x y∨(l.fA=x∧l.fB=y):=by
  have ins:∀ p,pr (s.take p++[l]++s.drop p) x y↔pr s x y∨(l.fA=x∧l.fB=y):=by
    intro p
    have e1:pr s x y↔pr (s.take p) x y∨pr (s.drop p) x y:=by rw [← aCh,List.take_append_drop]
    rw [e1,List.append_assoc,aCh,List.singleton_append,aEl]
    constructor
    · rintro (h | h | h)
      · exact .inl (.inl h)
      · exact .inr h
      · exact .inl (.inr h)
    · rintro ((h | h) | h)
      · exact .inl h
      · exact .inr (.inr h)
      · exact .inr (.inl h)
  unfold aEh at h
  by_cases c:eV l s < s.length
  · rw [dif_pos c] at h
    by_cases c2:fY l s[eV l s]
    · rw [if_pos c2] at h;cases h;exact ins _
    · rw [if_neg c2] at h
      have nl:=aBE l s c
      have hA:s[eV l s].fA=l.fA∧s[eV l s].fB=l.fB:=by unfold fY at c2 nl;omega
      by_cases O:aA4 s[eV l s] l
      · rw [if_pos O] at h;cases h
        have e1:pr s x y↔pr (s.take (eV l s)) x y∨((s[eV l s].fA=x∧s[eV l s].fB=y)∨pr (s.drop (eV l s+1)) x y):=by
          rw [← aEl,← List.drop_eq_getElem_cons c,← aCh,List.take_append_drop]
        rw [e1,List.append_assoc,aCh,List.singleton_append,aEl]
        have e2:(aCQ s[eV l s] l).fA=s[eV l s].fA:=rfl
        have e3:(aCQ s[eV l s] l).fB=s[eV l s].fB:=rfl
        rw [e2,e3,hA.1,hA.2]
        constructor
        · rintro (h | h | h)
          · exact .inl (.inl h)
          · exact .inr h
          · exact .inl (.inr (.inr h))
        · rintro ((h | h | h) | h)
          · exact .inl h
          · exact .inr (.inl h)
          · exact .inr (.inr h)
          · exact .inr (.inl h)
      · rw [if_neg O] at h;cases h
  · rw [dif_neg c] at h;cases h;exact ins _
theorem aH8:∀ (l s:List Link) (e:Rat) (s':List Link) (e':Rat),xH l s e=some (s',e')→∀ x y,pr s' x y↔pr s x y∨pr l x y
  | [],s,e,s',e',h,x,y=>by
    rw [xH] at h;cases h
    exact ⟨.inl,fun h=>h.elim id (fun h=>(aIQ h).elim)⟩
  | a::r,s,e,s',e',h,x,y=>by
    rw [xH] at h
    cases ha:aEh s a with
    | none=>rw [ha] at h;cases h
    | some t =>
      obtain ⟨s1,e1⟩:=t
      rw [ha] at h
      simp only [] at h
      by_cases c:bR (RA e e1)
      · rw [if_pos c] at h
        rw [aH8 r s1 _ s' e' h x y,aMz ha,aEl,or_assoc]
      · rw [if_neg c] at h;cases h
theorem aLA {l s:List Link} {e:Rat} (h:jnP l=some (s,e)) (x y:Int):pr s x y↔pr l x y:=by
  unfold jnP at h
  by_cases c:∀ x ∈ l,ValidL x
  · rw [if_pos c] at h
    rw [aH8 l [] _ s e h x y]
    exact ⟨fun h=>h.elim (fun h=>(aIQ h).elim) id,.inr⟩
  · rw [if_neg c] at h;cases h
def adj (s:List Link) (x y:Int):Prop:=pr s x y∨pr s y x
def en (s:List Link) (x:Int):Prop:=∃ y,adj s x y
theorem aJO (t:Rat) {x y:Int}:∀ {a:List l08Arm},(a.map (·.fnode)).Pairwise (· < ·)→(pr (iR t a) x y↔x ∈ a.map (·.fnode)∧y ∈ a.map (·.fnode)∧x < y)
  | [],_=>⟨fun h=>(aIQ h).elim,fun h=>by cases h.1⟩
  | b::r,hp=>by
    rw [List.map_cons,List.pairwise_cons] at hp
    rw [iR,aCh,aJO t hp.2,List.map_cons]
    have e1:pr (r.map (uY t b)) x y↔x=b.fnode∧y ∈ r.map (·.fnode):=by
      constructor
      · rintro ⟨l,hl,h1,h2⟩
        obtain ⟨z,hz,rfl⟩:=List.mem_map.1 hl
        exact ⟨h1.symm,List.mem_map.2 ⟨z,hz,h2⟩⟩
      · rintro ⟨rfl,h⟩
        obtain ⟨z,hz,rfl⟩:=List.mem_map.1 h
        exact ⟨uY t b z,List.mem_map.2 ⟨z,hz,rfl⟩,rfl,rfl⟩
    rw [e1,List.mem_cons,List.mem_cons]
    constructor
    · rintro (⟨rfl,h⟩ | ⟨h1,h2,h3⟩)
      · exact ⟨.inl rfl,.inr h,hp.1 y h⟩
      · exact ⟨.inr h1,.inr h2,h3⟩
    · rintro ⟨h1,h2,h3⟩
      rcases h1 with rfl | h1
      · rcases h2 with rfl | h2
        · omega
        · exact .inl ⟨rfl,h2⟩
      · rcases h2 with rfl | h2
        · have:=hp.1 x h1;omega
        · exact .inr ⟨h1,h2,h3⟩
theorem aMm {v:Int} {s:List Link} (hs:LSet s) {c:Conditional} {m:List Link} {f:Rat} (h:aDl v s=some (c,m,f)) :
    (∀ p,p ∈ aAS c↔adj s p v)∧∀ x y,pr m x y↔(pr s x y∧x≠v∧y≠v)∨(x ∈ aAS c∧y ∈ aAS c∧x < y):=by
  unfold aDl at h
  cases h1:yT v s with
  | none=>rw [h1] at h;cases h
  | some u =>
    rw [h1] at h
    cases h2:jnP (yP v s++u.2) with
    | none=>rw [Option.bind_some,h2] at h;cases h
    | some w =>
      rw [Option.bind_some,h2] at h
      cases h
      unfold yT at h1
      split at h1
      · cases h1
        have hn:aAS (aBu v (bS v s))=(bS v s).map (·.fnode):=by unfold aAS aBu;rw [List.map_map];rfl
        have hp:∀ p,p ∈ aAS (aBu v (bS v s))↔adj s p v:=by
          intro p
          rw [hn]
          unfold bS
          rw [List.map_map]
          simp only [List.mem_map,List.mem_filter,Function.comp]
          constructor
          · rintro ⟨l,⟨hl,ht⟩,rfl⟩
            rw [aAB]
            unfold sC tch at *
            have ht:=of_decide_eq_true ht
            split
            · rename_i e;exact .inr ⟨l,hl,e,rfl⟩
            · rename_i e;exact .inl ⟨l,hl,rfl,ht.resolve_left e⟩
          · rintro (⟨l,hl,e1,e2⟩ | ⟨l,hl,e1,e2⟩)
            · have:=(hs.1 l hl).2.2.1
              refine ⟨l,⟨hl,by unfold tch;simp [e2]⟩,?_⟩
              rw [aAB];unfold sC
              rw [if_neg (by omega)];exact e1
            · refine ⟨l,⟨hl,by unfold tch;simp [e1]⟩,?_⟩
              rw [aAB];unfold sC
              rw [if_pos e1];exact e2
        refine ⟨hp,fun x y=>?_⟩
        rw [aLA (s:=w.1) (e:=w.2) h2,aCh,aJO _ (aGG hs v),← hn]
        have hr:pr (yP v s) x y↔pr s x y∧x≠v∧y≠v:=by
          unfold yP pr
          simp only [List.mem_filter,tch,Bool.not_eq_true',decide_eq_false_iff_not]
          constructor
          · rintro ⟨l,⟨hl,hn⟩,rfl,rfl⟩
            exact ⟨⟨l,hl,rfl,rfl⟩,fun e=>hn (.inl e),fun e=>hn (.inr e)⟩
          · rintro ⟨⟨l,hl,rfl,rfl⟩,a,b⟩
            exact ⟨l,⟨hl,fun h=>h.elim a b⟩,rfl,rfl⟩
        rw [hr]
      · cases h1
structure PathN (o:List Int) (n:TreeNode):Prop where
  near:∀ x,en n.fMessages x→x ∈ aAS n.fCond
  clq:∀ x y,x ∈ aAS n.fCond→y ∈ aAS n.fCond→x < y→pr n.fMessages x y
  late:∀ i (h:i < o.length),o[i]=n.fNode→∀ p ∈ aAS n.fCond,p ∉ o.take (i+1)
theorem aE4 {v:Int} {b:List TreeNode} {x y:Int}:pr (yW v b) x y↔∃ n ∈ b,n.fUp=v∧pr n.fMessages x y:=by
  unfold pr yW
  constructor
  · rintro ⟨l,hl,e⟩
    obtain ⟨n,hn,h⟩:=List.mem_flatMap.1 hl
    obtain ⟨h1,h2⟩:=List.mem_filter.1 hn
    exact ⟨n,h1,of_decide_eq_true h2,l,h,e⟩
  · rintro ⟨n,h1,h2,l,h,e⟩
    exact ⟨l,List.mem_flatMap.2 ⟨n,List.mem_filter.2 ⟨h1,by simp [h2]⟩,h⟩,e⟩
theorem aIX {s:List Link} {o:List Int} (hn:o.Nodup) (h1:∀ u ∈ o,1≤u) {k:Nat} (hk:k < o.length) {b:List TreeNode} (hb:∀ n ∈ b,NodeOk s o n∧PathN o n) {n:TreeNode} (h:wL o o[k] (s.filter (qD o o[k])) b=some n):PathN o n:=by
  have hv:=h1 _ (List.getElem_mem hk)
  unfold wL at h
  cases e1:jnP (s.filter (qD o o[k])++yW o[k] b) with
  | none=>rw [e1] at h;cases h
  | some u =>
    obtain ⟨j,e⟩:=u
    rw [e1,Option.bind_some] at h
    cases e2:aDl o[k] j with
    | none=>rw [e2] at h;cases h
    | some w =>
      obtain ⟨c,m,f⟩:=w
      rw [e2,Option.bind_some] at h
      split at h
      · cases h
        obtain ⟨_,hs,_⟩:=aDy e1
        obtain ⟨hp,hm⟩:=aMm hs e2
        have hj:∀ x y,pr j x y↔pr (s.filter (qD o o[k])) x y∨pr (yW o[k] b) x y:=fun x y=>by rw [aLA e1,aCh]
        have up:∀ n ∈ b,n.fUp=o[k]→fR o (aAS n.fCond)=o[k]:=fun n hn hu=>by rw [← hu,(hb n hn).1.2.2.2.2];rfl
        have nb:∀ x,en j x→x≠o[k]→adj j x o[k]:=by
          rintro x ⟨y,hxy⟩ hx
          have own:∀ x y,pr (s.filter (qD o o[k])) x y→(x=o[k]∨y=o[k]):=by
            rintro x y ⟨l,hl,rfl,rfl⟩
            have:=(aBI (of_decide_eq_true (List.mem_filter.1 hl).2) (by omega)).1
            simp only [List.mem_cons,List.not_mem_nil,or_false] at this
            exact this.elim (fun h=>.inl h.symm) (fun h=>.inr h.symm)
          have msg:∀ x,(∃ y,adj (yW o[k] b) x y)→x≠o[k]→adj j x o[k]:=by
            rintro x ⟨y,h⟩ hx
            have:∃ n ∈ b,n.fUp=o[k]∧en n.fMessages x:=by
              rcases h with h | h
              · obtain ⟨n,a,b,c⟩:=aE4.1 h;exact ⟨n,a,b,y,.inl c⟩
              · obtain ⟨n,a,b,c⟩:=aE4.1 h;exact ⟨n,a,b,y,.inr c⟩
            obtain ⟨n,hn,hu,he⟩:=this
            have px:=(hb n hn).2.near x he
            have pv:=(aBI (up n hn hu) (by omega)).1
            rcases Int.lt_or_gt_of_ne hx with hlt | hlt
            · exact .inl ((hj _ _).2 (.inr (aE4.2 ⟨n,hn,hu,(hb n hn).2.clq _ _ px pv hlt⟩)))
            · exact .inr ((hj _ _).2 (.inr (aE4.2 ⟨n,hn,hu,(hb n hn).2.clq _ _ pv px hlt⟩)))
          rcases hxy with h | h
          · rcases (hj _ _).1 h with g | g
            · rcases own _ _ g with e | e
              · exact absurd e hx
              · rw [e] at h;exact .inl h
            · exact msg x ⟨y,.inl g⟩ hx
          · rcases (hj _ _).1 h with g | g
            · rcases own _ _ g with e | e
              · rw [e] at h;exact .inr h
              · exact absurd e hx
            · exact msg x ⟨y,.inr g⟩ hx
        refine ⟨?_,fun x y hx hy hxy=>(hm x y).2 (.inr ⟨hx,hy,hxy⟩),?_⟩
        · rintro x ⟨y,h | h⟩
          · rcases (hm x y).1 h with ⟨g,a,_⟩ | ⟨g,_⟩
            · exact (hp x).2 (nb x ⟨y,.inl g⟩ a)
            · exact g
          · rcases (hm y x).1 h with ⟨g,_,a⟩ | ⟨_,g,_⟩
            · exact (hp x).2 (nb x ⟨y,.inr g⟩ a)
            · exact g
        · intro i hi hio p hpp hpt
          have hik:i=k:=by
            have:=(List.getElem_inj hn).1 (show o[i]=o[k] from hio);exact this
          subst hik
          have ha:=(hp p).1 hpp
          have hne:p≠o[i]:=by
            rintro rfl
            rcases ha with ⟨l,hl,a,b⟩ | ⟨l,hl,a,b⟩ <;> (have:=(hs.1 l hl).2.2.1;omega)
          have hpt:p ∈ o.take i:=by
            rw [List.take_add_one,List.getElem?_eq_getElem hi] at hpt
            rcases List.mem_append.1 hpt with h | h
            · exact h
            · exact absurd (by simpa using h) hne
          have key:∀ x y,pr j x y→(x=p∨y=p)→False:=by
            intro x y h hxy
            rcases (hj x y).1 h with ⟨l,hl,rfl,rfl⟩ | h
            · have:=((aCv hi hn h1).1 (of_decide_eq_true (List.mem_filter.1 hl).2)).2 p hpt
              simp only [List.mem_cons,List.not_mem_nil,or_false,not_or] at this
              rcases hxy with e | e
              · exact this.1 e.symm
              · exact this.2 e.symm
            · obtain ⟨n,hn',hu,g⟩:=aE4.1 h
              refine ((aCv hi hn h1).1 (up n hn' hu)).2 p hpt ((hb n hn').2.near p ?_)
              rcases hxy with rfl | rfl
              · exact ⟨y,.inl g⟩
              · exact ⟨x,.inr g⟩
          rcases ha with h | h
          · exact key _ _ h (.inl rfl)
          · exact key _ _ h (.inr rfl)
      · cases h
theorem aIG {s:List Link} {o:List Int} (hn:o.Nodup) (h1:∀ u ∈ o,1≤u):∀ m k:Nat,m+k=o.length→∀ b b':List TreeNode,(∀ n ∈ b,NodeOk s o n∧PathN o n)→xF s o (o.drop k) b=some b'→∀ n ∈ b',NodeOk s o n∧PathN o n:=by
  intro m
  induction m with
  | zero =>
    intro k hk b b' hb h
    rw [List.drop_eq_nil_of_le (by omega),xF] at h
    cases h;exact hb
  | succ m ih =>
    intro k hk b b' hb h
    have hlt:k < o.length:=by omega
    rw [List.drop_eq_getElem_cons hlt,xF] at h
    cases e:wL o o[k] (s.filter (qD o o[k])) b with
    | none=>rw [e] at h;cases h
    | some n =>
      rw [e,Option.bind_some] at h
      refine ih (k+1) (by omega) (b++[n]) b' (fun x hx=>?_) h
      rcases List.mem_append.1 hx with hx | hx
      · exact hb x hx
      · rw [List.mem_singleton.1 hx];exact ⟨(aEZ e).1,aIX hn h1 hlt hb e⟩
theorem aEi {t:Tree} (ht:pX t):t.fNodes.length≤9∧∀ k (hk:k < t.fNodes.length) j,atN t (t.fNodes[k]).fUp=some j→k < j∧j < t.fNodes.length:=by
  unfold pX xB at ht
  cases h:jnP (cJ t.fNodes) with
  | none=>rw [h] at ht;cases ht
  | some x =>
    rw [h,Option.bind_some] at ht
    by_cases c:aAL x.1 (gU t)
    · rw [if_pos c] at ht
      obtain ⟨l9,h1⟩:=aFp c
      cases g:xF (cJ t.fNodes) (gU t) (gU t) [] with
      | none=>rw [g] at ht;cases ht
      | some b =>
        rw [g] at ht
        have hb : b = t.fNodes := by have : Tree.mk b = t := by simpa using ht
                                     rw [← this]
        subst hb
        have hp:=aIG c.1 h1 (gU t).length 0 (by omega) [] t.fNodes (by simp) (by rw [List.drop_zero];exact g)
        have hl:(gU t).length=t.fNodes.length:=by unfold gU;rw [List.length_map]
        refine ⟨by omega,fun k hk j hj=>?_⟩
        unfold atN at hj
        rw [List.findIdx?_eq_some_iff_getElem] at hj
        obtain ⟨hjl,he,_⟩:=hj
        refine ⟨?_,hjl⟩
        have he:=of_decide_eq_true he
        obtain ⟨ok,pn⟩:=hp _ (List.getElem_mem hk)
        have hu:(t.fNodes[k]).fUp=fR (gU t) (aAS (t.fNodes[k]).fCond):=ok.2.2.2.2
        have hoj:(gU t)[j]'(by omega)=(t.fNodes[j]).fNode:=by simp [gU]
        have hok:(gU t)[k]'(by omega)=(t.fNodes[k]).fNode:=by simp [gU]
        have hju:=h1 _ (List.getElem_mem (by omega:j < (gU t).length))
        have hm:=(aBI hu.symm (by omega)).1
        have nt:=pn.late k (by omega) hok _ hm
        apply Decidable.byContradiction
        intro hle
        apply nt
        rw [← he,← hoj]
        exact List.mem_iff_getElem.2 ⟨j,by rw [List.length_take];omega,by rw [List.getElem_take]⟩
    · rw [if_neg c] at ht;cases ht
theorem aKh {t:Tree} (ht:pX t):∀ m k:Nat,k+m=t.fNodes.length→k < t.fNodes.length→∀ acc:List Int,acc.length≤k→∃ p,lp (eE t) ((k:Int),acc)=some p∧p.length≤acc.length+m:=by
  obtain ⟨h9,hup⟩:=aEi ht
  intro m
  induction m using Nat.strongRecOn with
  | ind m ih =>
    intro k hk c acc hacc
    have endl:∀ acc:List Int,lp (eE t) (-1,acc)=some acc:=fun acc=>aL (by unfold eE;simp only [];rw [if_neg (by omega)])
    have st:eE t ((k:Int),acc)=some (.inl ((match atN t (t.fNodes[k]).fUp with | none=>-1 | some j=>(j:Int)),acc++[(t.fNodes[k]).fNode])):=by
      unfold eE
      simp only []
      rw [if_pos (by omega),aI c]
      simp only [Option.bind_some]
      rw [aQ (by omega)]
      simp only [Option.bind_some,tF,aHl t _ (by omega:t.fNodes.length≤4294967296)]
      all_goals rfl
    rw [bD st]
    cases e:atN t (t.fNodes[k]).fUp with
    | none=>exact ⟨_,endl _,by rw [List.length_append,List.length_singleton];omega⟩
    | some j =>
      obtain ⟨g1,g2⟩:=hup k c j e
      obtain ⟨p,q1,q2⟩:=ih (t.fNodes.length - j) (by omega) j (by omega) g2 (acc++[(t.fNodes[k]).fNode]) (by rw [List.length_append,List.length_singleton];omega)
      exact ⟨p,q1,by rw [List.length_append,List.length_singleton] at q2;omega⟩
theorem aM5 {t:Tree} (ht:pX t) (v:Int):∃ p,hP t v=some p∧tK t v=some p∧p.length≤9:=by
  have e:tK t v=hP t v:=rfl
  rw [e]
  obtain ⟨h9,hup⟩:=aEi ht
  unfold hP
  rw [aHl t v (by omega)]
  simp only [Option.bind_some]
  cases a:atN t v with
  | none =>
    have:lp (eE t) (-1,[])=some []:=aL (by unfold eE;simp only [];rw [if_neg (by omega)])
    exact ⟨[],by simp [this],by simp [this],by simp⟩
  | some k =>
    have hk:k < t.fNodes.length:=by
      unfold atN at a
      rw [List.findIdx?_eq_some_iff_getElem] at a
      exact a.1
    obtain ⟨p,q1,q2⟩:=aKh ht (t.fNodes.length - k) k (by omega) hk [] (Nat.zero_le _)
    exact ⟨p,by simp [q1],by simp [q1],by simp at q2;omega⟩
end Go.Ev
/- Trees in another order, and the nodes that a change affects: both programs, and the laws. -/
namespace Go.Ev
set_option linter.all false
noncomputable def oP (t:Tree) (v:Int):List Int:=(hP t v).getD []
theorem aJF {t:Tree} (ht:pX t) (v:Int):hP t v=some (oP t v)∧tK t v=some (oP t v)∧(oP t v).length≤9:=by
  obtain ⟨p,e1,e2,e3⟩:=aM5 ht v
  have:oP t v=p:=by unfold oP;rw [e1];rfl
  rw [this];exact ⟨e1,e2,e3⟩
theorem aLd {t:Tree} (ht:pX t) {v x:Int} (h:x ∈ oP t v):∃ n ∈ t.fNodes,n.fNode=v:=by
  have h9:=(aEi ht).1
  cases a:atN t v with
  | none =>
    have:hP t v=some []:=by
      unfold hP
      rw [aHl t v (by omega),a]
      simp only [Option.bind_some]
      rw [aL (r:=[]) (by unfold eE;simp only [];rw [if_neg (by omega)])];rfl
    unfold oP at h
    rw [this] at h;cases h
  | some k =>
    unfold atN at a
    rw [List.findIdx?_eq_some_iff_getElem] at a
    exact ⟨_,List.getElem_mem a.1,of_decide_eq_true a.2.1⟩
noncomputable def aEg (t:Tree) (s:List Int):List Int:=(gU t).filter (fun x=>decide (∃ y ∈ s,x ∈ oP t y))
theorem aDz (t:Tree):∀ (s u:List Int),s.foldl (fun u y=>u++oP t y) u=u++s.flatMap (oP t)
  | [],u=>by simp
  | y::s,u=>by rw [List.foldl_cons,aDz t s,List.flatMap_cons,List.append_assoc]
theorem aCu (t:Tree) (s:List Int):∀ (l:List TreeNode) (u:List Int),l.foldl (fun u n=>if n.fNode ∈ s then u++oP t n.fNode else u) u=u++(l.filter (fun n=>decide (n.fNode ∈ s))).flatMap (fun n=>oP t n.fNode)
  | [],u=>by simp
  | n::l,u=>by
    rw [List.foldl_cons,aCu t s l,List.filter_cons]
    by_cases c:n.fNode ∈ s <;> simp [c]
theorem aIe (d:List Int):∀ (l:List TreeNode) (u:List Int),l.foldl (fun u n=>if n.fNode ∈ d then u++[n.fNode] else u) u=u++(l.map (·.fNode)).filter (fun x=>decide (x ∈ d))
  | [],u=>by simp
  | n::l,u=>by
    rw [List.foldl_cons,aIe d l,List.map_cons,List.filter_cons]
    by_cases c:n.fNode ∈ d <;> simp [c]
theorem aLT {t:Tree} {s d:List Int} (h:∀ x,x ∈ d↔∃ y ∈ s,x ∈ oP t y):(gU t).filter (fun x=>decide (x ∈ d))=aEg t s:=by
  unfold aEg
  refine List.filter_congr fun x _=>?_
  rw [Bool.eq_iff_iff,decide_eq_true_iff,decide_eq_true_iff];exact h x
theorem aNG {t:Tree} (ht:pX t) (s:List Int) (hs:s.length≤4194304):lZ t s=some (aEg t s)∧pA t s=some (aEg t s)∧(aEg t s).length≤9:=by
  have h9:=(aEi ht).1
  have hl:(aEg t s).length≤9:=by
    have:=List.length_filter_le (fun x=>decide (∃ y ∈ s,x ∈ oP t y)) (gU t)
    have e:(gU t).length=t.fNodes.length:=by unfold gU;rw [List.length_map]
    unfold aEg;omega
  have second:∀ (step:(Int × (List Int))→Option ((Int × (List Int)) ⊕ (List Int))) (d:List Int),(∀ k (hk:k < t.fNodes.length) (u:List Int),u.length≤k→step ((k:Int),u)=some (.inl (((k+1:Nat):Int),if (t.fNodes[k]).fNode ∈ d then u++[(t.fNodes[k]).fNode] else u)))→(∀ u,step ((t.fNodes.length:Int),u)=some (.inr u))→(∀ x,x ∈ d↔∃ y ∈ s,x ∈ oP t y)→lp step (0,[])=some (aEg t s):=by
    intro step d h1 h2 h3
    have:=(jZ (step:=step) t.fNodes (fun k u=>((k:Int),u)) (fun u n=>if n.fNode ∈ d then u++[n.fNode] else u) (fun u=>u) (fun k u=>u.length≤k) (fun k u hk hi=>by
      refine ⟨h1 k hk u hi,?_⟩
      split
      · rw [List.length_append,List.length_singleton];omega
      · omega) (fun u _=>h2 u) [] (Nat.zero_le _)).1
    rw [show ((0:Nat):Int)=0 from rfl,aIe,List.nil_append] at this
    rw [this]
    exact congrArg some (aLT h3)
  refine ⟨?_,?_,hl⟩
  · have f1:=(jZ (step:=jC t s) s (fun k u=>((k:Int),u)) (fun u y=>u++oP t y) (fun u=>u) (fun k u=>u.length≤9*k) (fun k u hk hi=>by
      obtain ⟨q1,_,q3⟩:=aJF ht s[k]
      constructor
      · unfold jC
        simp only []
        rw [if_pos (by omega),aI hk]
        simp only [Option.bind_some,q1,wi1 (by omega:k≤4294967296)]
        rw [aQ (by omega)];rfl
      · rw [List.length_append];omega) (fun u _=>by unfold jC;simp only [];rw [if_neg (by omega)]) [] (Nat.zero_le _))
    have f2:=f1.2
    have f1:=f1.1
    rw [show ((0:Nat):Int)=0 from rfl,aDz,List.nil_append] at f1
    rw [aDz,List.nil_append] at f2
    unfold lZ
    rw [f1]
    simp only [Option.bind_some]
    rw [second (jB t (s.flatMap (oP t))) (s.flatMap (oP t)) (fun k hk u hu=>by
      unfold jB
      simp only []
      rw [if_pos (by omega),aI hk]
      simp only [Option.bind_some,uJ _ _ (by omega:(s.flatMap (oP t)).length≤4294967296),wi1 (by omega:k≤4294967296)]
      by_cases c:(t.fNodes[k]).fNode ∈ s.flatMap (oP t)
      · rw [decide_eq_true c,if_pos rfl,if_pos c,aQ (by omega)];rfl
      · rw [decide_eq_false c,if_neg c];rfl) (fun u=>by unfold jB;simp only [];rw [if_neg (by omega)]) (fun x=>List.mem_flatMap)]
    rfl
  · have f1:=(jZ (step:=kK t s) t.fNodes (fun k u=>((k:Int),u)) (fun u n=>if n.fNode ∈ s then u++oP t n.fNode else u) (fun u=>u) (fun k u=>u.length≤9*k) (fun k u hk hi=>by
      obtain ⟨_,q2,q3⟩:=aJF ht (t.fNodes[k]).fNode
      constructor
      · unfold kK
        simp only []
        rw [if_pos (by omega),aI hk]
        simp only [Option.bind_some,aBp s _ (by omega),q2,wi1 (by omega:k≤4294967296)]
        by_cases c:(t.fNodes[k]).fNode ∈ s
        · rw [decide_eq_true c,if_pos rfl,if_pos c,aQ (by omega)];rfl
        · rw [decide_eq_false c,if_neg c];rfl
      · split
        · rw [List.length_append];omega
        · omega) (fun u _=>by unfold kK;simp only [];rw [if_neg (by omega)]) [] (Nat.zero_le _))
    have f2:=f1.2
    have f1:=f1.1
    rw [show ((0:Nat):Int)=0 from rfl,aCu,List.nil_append] at f1
    rw [aCu,List.nil_append] at f2
    unfold pA
    rw [f1]
    simp only [Option.bind_some]
    rw [second (kJ t ((t.fNodes.filter (fun n=>decide (n.fNode ∈ s))).flatMap (fun n=>oP t n.fNode))) ((t.fNodes.filter (fun n=>decide (n.fNode ∈ s))).flatMap (fun n=>oP t n.fNode)) (fun k hk u hu=>by
      unfold kJ
      simp only []
      rw [if_pos (by omega),aI hk]
      simp only [Option.bind_some,aBp ((t.fNodes.filter (fun n=>decide (n.fNode ∈ s))).flatMap (fun n=>oP t n.fNode)) _ (by omega),wi1 (by omega:k≤4294967296)]
      by_cases c:(t.fNodes[k]).fNode ∈ (t.fNodes.filter (fun n=>decide (n.fNode ∈ s))).flatMap (fun n=>oP t n.fNode)
      · rw [decide_eq_true c,if_pos rfl,if_pos c,aQ (by omega)];rfl
      · rw [decide_eq_false c,if_neg c];rfl) (fun u=>by unfold kJ;simp only [];rw [if_neg (by omega)]) (fun x=>by
      rw [List.mem_flatMap]
      constructor
      · rintro ⟨n,hn,hx⟩
        exact ⟨n.fNode,of_decide_eq_true (List.mem_filter.1 hn).2,hx⟩
      · rintro ⟨y,hy,hx⟩
        obtain ⟨n,hn,e⟩:=aLd ht hx
        subst e
        exact ⟨n,List.mem_filter.2 ⟨hn,by simp [hy]⟩,hx⟩)]
    rfl
end Go.Ev
