/- Parts PR5, PR6, PR7, PR8, PR9, P21, PS1, PS2, PS3, PT1. -/
import Derived.Test.YthjpgecdkmiadaaGreatPb2
import Derived.Test.YthjpgecdkmiadaaGreatPb1
import Derived.Test.YthjpgecdkmiadaaGreatPa1
set_option linter.all false
/- Eliminating a node of a link set, both programs. -/
namespace Go.Ev
set_option linter.all false
noncomputable def tT (a:List l08Arm):Rat:=a.foldl (fun t a=>RA t a.fweight) (xU 0)
noncomputable def gH (t:Rat) (a:l08Arm):Parent:=⟨a.fnode,RD a.fweight t,a.fdx,a.fdy⟩
noncomputable def uY (t:Rat) (a b:l08Arm):Link:=⟨a.fnode,b.fnode,RD (RM a.fweight b.fweight) t,RS a.fdx b.fdx,RS a.fdy b.fdy⟩
noncomputable def iS (t:Rat):List l08Arm→List Link
  | []=>[]
  | a::r=>r.map (uY t a)++iS t r
noncomputable def aBy (v:Int) (a:List l08Arm):Conditional:=⟨v,tT a,a.map (gH (tT a))⟩
def zJ (v:Int) (a:List l08Arm):Prop:=eA (aBy v a)=some true
noncomputable instance (v:Int) (a:List l08Arm):Decidable (zJ v a):=Classical.propDecidable _
noncomputable def yV (v:Int) (s:List Link):Option (Conditional × List Link) :=
  if (1≤v∧v≤9)∧zJ v (bW v s)∧(∀ x ∈ iS (tT (bW v s)) (bW v s),ValidL x) then some (aBy v (bW v s),iS (tT (bW v s)) (bW v s)) else none
theorem aKe {v:Int} {s:List Link} (h:(1≤v∧v≤9)∧zJ v (bW v s)∧(∀ x ∈ iS (tT (bW v s)) (bW v s),ValidL x)):yV v s=some (aBy v (bW v s),iS (tT (bW v s)) (bW v s)):=by unfold yV;rw [if_pos h]
theorem aBR {v:Int} {s:List Link} (h:¬((1≤v∧v≤9)∧zJ v (bW v s)∧(∀ x ∈ iS (tT (bW v s)) (bW v s),ValidL x))):yV v s=none:=by unfold yV;rw [if_neg h]
def aEO:Conditional:=Conditional.mk 0 (Rat.mk (BigInt.mk false ([])) ([])) ([])
def pkE:Option (Conditional × List Link)→Conditional × List Link × Bool
  | some (c,m)=>(c,m,true)
  | none=>(aEO,[],false)
theorem aIy:∀ (a:List l08Arm) (t:Rat),(∀ x ∈ a,wX x)→VZ t→VZ (a.foldl (fun t a=>RA t a.fweight) t)
  | [],t,_,h=>h
  | x::a,t,ho,h=>aIy a _ (fun y hy=>ho y (by simp [hy])) (aCM h (ho x (by simp)).2.1).2.2
theorem aAh {a:List l08Arm} (h:∀ x ∈ a,wX x):VZ (tT a):=aIy a _ h (.inl aBJ)
theorem aCF {α β:Type} (g:α→β):∀ (l:List α) (t:List β),l.foldl (fun t b=>t++[g b]) t=t++l.map g
  | [],t=>by simp
  | x::l,t=>by rw [List.foldl_cons,aCF g l,List.map_cons,List.append_assoc];rfl
theorem aIi {t:Rat} {a b:l08Arm} (ht:VZ t) (ha:wX a) (hb:wX b):bH (uY t a b)≤144:=by
  have h1:=rA (aGz (aGc ha.2.1 hb.2.1).2.2 ht).2.2
  have h2:=rA (aIR ha.2.2.1 hb.2.2.1).2.2
  have h3:=rA (aIR ha.2.2.2 hb.2.2.2).2.2
  unfold bH uY;simp only [];omega
theorem aJ1 {t:Rat} (ht:VZ t):∀ {a:List l08Arm},(∀ x ∈ a,wX x)→∀ x ∈ iS t a,bH x≤144
  | [],_,x,hx=>by cases hx
  | a::r,h,x,hx=>by
    rw [iS] at hx
    rcases List.mem_append.1 hx with hx | hx
    · obtain ⟨b,hb,rfl⟩:=List.mem_map.1 hx
      exact aIi ht (h a (by simp)) (h b (by simp [hb]))
    · exact aJ1 ht (fun y hy=>h y (by simp [hy])) x hx
theorem aFr (t:Rat):∀ {a:List l08Arm} {n:Nat},a.length≤n→(iS t a).length≤n*a.length
  | [],n,_=>by simp [iS]
  | a::r,n,h=>by
    rw [List.length_cons] at h
    have:=aFr t (a:=r) (n:=n) (by omega)
    rw [iS,List.length_append,List.length_map,List.length_cons,Nat.mul_add,Nat.mul_one];omega
theorem aLE (t:Rat):∀ {a:List l08Arm} {x:Link},x ∈ iS t a→∃ y ∈ a,x.fA=y.fnode
  | [],x,hx=>by cases hx
  | a::r,x,hx=>by
    rw [iS] at hx
    rcases List.mem_append.1 hx with hx | hx
    · obtain ⟨b,hb,rfl⟩:=List.mem_map.1 hx
      exact ⟨a,by simp,rfl⟩
    · obtain ⟨y,hy,e⟩:=aLE t hx
      exact ⟨y,by simp [hy],e⟩
theorem aIj (t:Rat):∀ {a:List l08Arm},(a.map (·.fnode)).Pairwise (· < ·)→(iS t a).Pairwise fY
  | [],_=>List.Pairwise.nil
  | a::r,h=>by
    rw [List.map_cons,List.pairwise_cons] at h
    rw [iS,List.pairwise_append]
    refine ⟨?_,aIj t h.2,fun x hx y hy=>?_⟩
    · rw [List.pairwise_map]
      have:=h.2
      rw [List.pairwise_map] at this
      exact this.imp (fun {b c} hbc=>.inr ⟨rfl,hbc⟩)
    · obtain ⟨b,hb,rfl⟩:=List.mem_map.1 hx
      obtain ⟨z,hz,e⟩:=aLE t hy
      exact .inl (by rw [e];exact h.1 _ (List.mem_map.2 ⟨z,hz,rfl⟩))
theorem aGO {t:Rat} {a:List l08Arm} (h:(a.map (·.fnode)).Pairwise (· < ·)):LSet (iS t a)↔∀ x ∈ iS t a,ValidL x:=⟨fun g=>g.1,fun g=>⟨g,aIj t h⟩⟩
theorem aKO {a:List l08Arm} (ha:∀ x ∈ a,wX x) (hl:a.length≤100):lp (fC a) (0,xU 0)=some (tT a):=by
  have:=(kI (step:=fC a) a (fun k t=>((k:Int),t)) (fun t a=>RA t a.fweight) (fun t=>t) (fun _ t=>VZ t) (fun k t hk hi=>by
    have w1:IntKind.i64.wrap ((k:Int)+1)=((k+1:Nat):Int):=by rw [wi (by omega)];omega
    obtain ⟨q1,_,q3⟩:=aCM hi (ha _ (List.getElem_mem hk)).2.1
    refine ⟨?_,q3⟩
    unfold fC
    simp only []
    rw [if_pos (by omega),aH hk]
    simp only [Option.bind_some,q1,w1]) (fun t _=>by unfold fC;simp only [];rw [if_neg (by omega)]) (xU 0) (.inl aBJ)).1
  rw [show ((0:Nat):Int)=0 from rfl] at this
  exact this
theorem aKQ {a:List l08Arm} {t:Rat} (ht:VZ t) (ha:∀ x ∈ a,wX x) (hl:a.length≤100):lp (eZ a t) (0,[])=some (a.map (gH t)):=by
  have:=zX (step:=eZ a t) (a.map (gH t)) (fun k t=>((k:Int),t)) (fun t=>t) (fun k u hk hu=>by
    have hk2:k < a.length:=by rwa [List.length_map] at hk
    have w1:IntKind.i64.wrap ((k:Int)+1)=((k+1:Nat):Int):=by rw [wi (by omega)];omega
    have ho:=ha _ (List.getElem_mem hk2)
    have q:=(aGz ho.2.1 ht).1
    unfold eZ
    simp only []
    rw [if_pos (by omega),aH hk2]
    simp only [Option.bind_some,q,qF _ (VZs ho.2.2.1),qF _ (VZs ho.2.2.2),w1]
    rw [aR (by omega)]
    simp only [Option.bind_some,tK,List.getElem_map]
    rfl) (fun u hu=>by unfold eZ;simp only [];rw [List.length_map,if_neg (by omega)])
  rw [show ((0:Nat):Int)=0 from rfl] at this
  exact this
theorem aKP {r:List l08Arm} {x:l08Arm} {t:Rat} (ht:VZ t) (hx:wX x) (hr:∀ y ∈ r,wX y) (hl:r.length≤100) (acc:List Link) (hacc:acc.length≤1000000) :
    lp (eY r x t) (0,acc)=some (acc++r.map (uY t x)):=by
  have:=(kI (step:=eY r x t) r (fun k u=>((k:Int),u)) (fun u b=>u++[uY t x b]) (fun u=>u) (fun k u=>u.length≤1000000+k) (fun k u hk hi=>by
    have w1:IntKind.i64.wrap ((k:Int)+1)=((k+1:Nat):Int):=by rw [wi (by omega)];omega
    have ho:=hr _ (List.getElem_mem hk)
    have q0:=aGc hx.2.1 ho.2.1
    have q1:=(aGz q0.2.2 ht).1
    have q2:=(aIR hx.2.2.1 ho.2.2.1).1
    have q3:=(aIR hx.2.2.2 ho.2.2.2).1
    refine ⟨?_,by rw [List.length_append,List.length_singleton];omega⟩
    unfold eY
    simp only []
    rw [if_pos (by omega),aH hk]
    simp only [Option.bind_some,q0.1,q1,q2,q3,w1]
    rw [aR (by omega)]
    rfl) (fun u _=>by unfold eY;simp only [];rw [if_neg (by omega)]) acc (by omega)).1
  rw [show ((0:Nat):Int)=0 from rfl,aCF] at this
  exact this
theorem aK6 {α:Type} (l:List α) (k:Nat) (hk:k+1≤l.length) (hl:l.length≤4294967296):sub l (IntKind.i64.wrap ((k:Int)+1)) (l.length:Int)=some (l.drop (k+1)):=by
  have w1:IntKind.i64.wrap ((k:Int)+1)=((k+1:Nat):Int):=by rw [wi (by omega)];omega
  rw [w1,vQ _ _ _ (by omega)];congr 1
  rw [List.take_of_length_le];rfl
  rw [List.length_drop];omega
theorem aJs {a:List l08Arm} {t:Rat} (ht:VZ t) (ha:∀ x ∈ a,wX x) (hl:a.length≤100):lp (dS a t) (0,[])=some (iS t a):=by
  have main:∀ m k:Nat,m+k=a.length→∀ acc:List Link,acc.length≤100*k→lp (dS a t) ((k:Int),acc)=some (acc++iS t (a.drop k)):=by
    intro m
    induction m with
    | zero =>
      intro k hk acc hacc
      rw [List.drop_eq_nil_of_le (by omega),iS,List.append_nil]
      exact aM (by unfold dS;simp only [];rw [if_neg (by omega)])
    | succ m ih =>
      intro k hk acc hacc
      have hlt:k < a.length:=by omega
      have w1:IntKind.i64.wrap ((k:Int)+1)=((k+1:Nat):Int):=by rw [wi (by omega)];omega
      rw [List.drop_eq_getElem_cons hlt,iS]
      have row:=aKP (r:=a.drop (k+1)) ht (ha _ (List.getElem_mem hlt)) (fun y hy=>ha y (List.mem_of_mem_drop hy)) (by rw [List.length_drop];omega) acc (by omega)
      have st:dS a t ((k:Int),acc)=some (.inl (((k+1:Nat):Int),acc++(a.drop (k+1)).map (uY t a[k]))):=by
        unfold dS
        simp only []
        rw [if_pos (by omega),aH hlt,aK6 a k (by omega) (by omega)]
        simp only [Option.bind_some,row,w1]
      rw [bI st,ih (k+1) (by omega) _ (by rw [List.length_append,List.length_map,List.length_drop];omega),List.append_assoc]
  have:=main a.length 0 (by omega) [] (by simp)
  rw [show ((0:Nat):Int)=0 from rfl,List.drop_zero,List.nil_append] at this
  exact this
theorem aKg {v:Int} {a:List l08Arm} (ha:∀ x ∈ a,wX x) (hl:a.length≤100):aL (aBy v a)≤4294967296:=by
  have h1:=rA (aAh ha)
  have h2:cR (a.map (gH (tT a)))≤145*(a.map (gH (tT a))).length:=aDy (c:=144) (fun p hp=>by
    obtain ⟨x,hx,rfl⟩:=List.mem_map.1 hp
    have ho:=ha x hx
    have g1:=rA (aGz ho.2.1 (aAh ha)).2.2
    have g2:=rA ho.2.2.1
    have g3:=rA ho.2.2.2
    unfold bX gH;simp only [];omega)
  rw [List.length_map] at h2
  unfold aL aBy;simp only [];omega
theorem aME {s:List Link} (hs:LSet s) (v:Int):kF s v=some (pkE (yV v s)):=by
  have ha:=aF6 hs v
  have hl:=aBV hs v
  have ht:=aAh ha
  obtain ⟨b,b1,b2,_⟩:=aKi _ (aKg (v:=v) ha hl)
  have inc:=aG2 hs v
  unfold kF
  rw [lW s (by have:=hs.sz;omega),decide_eq_true hs,aDn]
  simp only [Option.bind_some,if_true]
  by_cases c:1≤v∧v≤9
  · rw [decide_eq_true c]
    simp only [Bool.not_true,Bool.false_eq_true,if_false]
    rw [aNl hs v,lF 0 (by omega)]
    simp only [Option.bind_some]
    rw [aKO ha hl]
    simp only [Option.bind_some]
    rw [aKQ ht ha hl]
    simp only [Option.bind_some]
    rw [aJs ht ha hl]
    simp only [Option.bind_some]
    have e:(Conditional.mk v (tT (bW v s)) ((bW v s).map (gH (tT (bW v s)))))=aBy v (bW v s):=rfl
    rw [e,b1]
    simp only [Option.bind_some]
    have hms:=aDy (aJ1 ht ha)
    have hml:=aFr (tT (bW v s)) (a:=bW v s) (Nat.le_refl _)
    have hm2:(bW v s).length*(bW v s).length≤100*100:=Nat.mul_le_mul hl hl
    rw [lW _ (by unfold aK;omega)]
    cases b with
    | false =>
      have:¬zJ v (bW v s):=by unfold zJ;rw [b1];simp
      rw [aBR (fun h=>this h.2.1)];rfl
    | true =>
      have hc:zJ v (bW v s):=b1
      simp only [if_true,Option.bind_some]
      by_cases d:∀ x ∈ iS (tT (bW v s)) (bW v s),ValidL x
      · rw [decide_eq_true ((aGO inc).2 d),aKe ⟨c,hc,d⟩];rfl
      · rw [decide_eq_false (fun h=>d ((aGO inc).1 h)),aBR (fun h=>d h.2.2)];rfl
  · rw [decide_eq_false c]
    rw [aBR (fun h=>c h.1)];rfl
def xW (a:l08Arm):Parent:=⟨a.fnode,pT,a.fdx,a.fdy⟩
theorem aJD (v:Int) (s:List Link) (k:Nat) (hk:k < s.length):bW v (s.take (k+1))=bW v (s.take k)++(if tch v s[k] then [aBA v s[k]] else []):=by
  have tk:s.take (k+1)=s.take k++[s[k]]:=by rw [List.take_add_one,List.getElem?_eq_getElem hk];rfl
  unfold bW
  rw [tk,List.filter_append,List.map_append]
  congr 1
  by_cases c:tch v s[k] <;> simp [c]
theorem aJu {s:List Link} (hs:LSet s) (v:Int):lp (dW s v) (0,xU 0,[],[])=some (tT (bW v s),(bW v s).map (·.fweight),(bW v s).map xW):=by
  have hlen:=hs.len
  have hpre:∀ k,∀ a ∈ bW v (s.take k),wX a:=fun k a ha=>by
    obtain ⟨l,hl,rfl⟩:=List.mem_map.1 ha
    exact aIM (hs.1 l (List.mem_of_mem_take (List.mem_filter.1 hl).1))
  have hpl:∀ k,(bW v (s.take k)).length≤100:=fun k=>by
    have:=List.length_filter_le (tch v) (s.take k)
    have h2:(s.take k).length≤s.length:=by rw [List.length_take];omega
    unfold bW;rw [List.length_map];omega
  have main:∀ m k:Nat,m+k=s.length→lp (dW s v) ((k:Int),tT (bW v (s.take k)),(bW v (s.take k)).map (·.fweight),(bW v (s.take k)).map xW)=some (tT (bW v s),(bW v s).map (·.fweight),(bW v s).map xW):=by
    intro m
    induction m with
    | zero =>
      intro k hk
      rw [List.take_of_length_le (by omega)]
      exact aM (by unfold dW;simp only [];rw [if_neg (by omega)])
    | succ m ih =>
      intro k hk
      have hlt:k < s.length:=by omega
      have w1:IntKind.i64.wrap ((k:Int)+1)=((k+1:Nat):Int):=by rw [wi (by omega)];omega
      have hv:=hs.1 _ (List.getElem_mem hlt)
      obtain ⟨v1,v2,v3⟩:=hv.vz
      have n1:=(aL7 v2).2.1
      have n2:=(aL7 v3).2.1
      have ra:=(aCM (aAh (hpre k)) v1).2.1
      have hp:=hpl k
      have st:dW s v ((k:Int),tT (bW v (s.take k)),(bW v (s.take k)).map (·.fweight),(bW v (s.take k)).map xW)=some (.inl (((k+1:Nat):Int),tT (bW v (s.take (k+1))),(bW v (s.take (k+1))).map (·.fweight),(bW v (s.take (k+1))).map xW)):=by
        rw [aJD v s k hlt]
        unfold dW
        simp only []
        rw [if_pos (by omega),aH hlt]
        simp only [Option.bind_some,n1,n2,ra,w1]
        have k1:∀ {α:Type} {f:l08Arm→α},((bW v (s.take k)).map f).length≤100:=by intro α f;rw [List.length_map];exact hp
        by_cases A:(s[k]).fA=v
        · rw [if_pos A,aR (by have:=k1 (f:=xW);omega)]
          simp only [Option.bind_some,tK]
          rw [aR (by have:=k1 (f:=fun a=>a.fweight);omega)]
          simp [tch,A,aBA,tT,xW,pT,ra]
        · by_cases B:(s[k]).fB=v
          · rw [if_neg A,if_pos B,aR (by have:=k1 (f:=xW);omega)]
            simp only [Option.bind_some,tK]
            rw [aR (by have:=k1 (f:=fun a=>a.fweight);omega)]
            simp [tch,A,B,aBA,tT,xW,pT,ra]
          · simp [tch,A,B]
      rw [bI st]
      exact ih (k+1) (by omega)
  have:=main s.length 0 (by omega)
  simpa [bW,tT] using this
theorem aKS {a:List l08Arm} {t:Rat} (ht:VZ t) (ha:∀ x ∈ a,wX x) (hl:a.length≤100):lp (dV (t,a.map (·.fweight),a.map xW)) (0,a.map xW)=some (a.map (gH t)):=by
  have main:∀ m k:Nat,m+k=a.length→lp (dV (t,a.map (·.fweight),a.map xW)) ((k:Int),(a.take k).map (gH t)++(a.drop k).map xW)=some (a.map (gH t)):=by
    intro m
    induction m with
    | zero =>
      intro k hk
      refine aM ?_
      unfold dV
      simp only [List.length_map]
      rw [if_neg (by omega),List.drop_eq_nil_of_le (by omega),List.take_of_length_le (by omega)]
      simp
    | succ m ih =>
      intro k hk
      have hlt:k < a.length:=by omega
      have w1:IntKind.i64.wrap ((k:Int)+1)=((k+1:Nat):Int):=by rw [wi (by omega)];omega
      have ho:=ha _ (List.getElem_mem hlt)
      have q:=(aGz ho.2.1 ht).2.1
      have tl:((a.take k).map (gH t)).length=k:=by rw [List.length_map,List.length_take];omega
      have e1:idx (a.map (fun x=>x.fweight)) (k:Int)=some (a[k]).fweight:=by rw [aH (by rwa [List.length_map]),List.getElem_map]
      have e2:idx ((a.take k).map (gH t)++(a.drop k).map xW) (k:Int)=some (xW a[k]):=by
        rw [aDp,List.getElem?_append_right (by omega),tl,Nat.sub_self,List.drop_eq_getElem_cons hlt];rfl
      have e3:fZ ((a.take k).map (gH t)++(a.drop k).map xW) (k:Int) (gH t a[k])=(a.take (k+1)).map (gH t)++(a.drop (k+1)).map xW:=by
        rw [iF,List.set_append_right _ _ (by omega),tl,Nat.sub_self,List.drop_eq_getElem_cons hlt,List.map_cons,List.set_cons_zero,List.take_add_one,List.getElem?_eq_getElem hlt,List.map_append,List.append_assoc]
        rfl
      have st:dV (t,a.map (·.fweight),a.map xW) ((k:Int),(a.take k).map (gH t)++(a.drop k).map xW)=some (.inl (((k+1:Nat):Int),(a.take (k+1)).map (gH t)++(a.drop (k+1)).map xW)):=by
        unfold dV
        simp only [List.length_map]
        rw [if_pos (by omega),e1]
        simp only [Option.bind_some,q,e2,tK,w1]
        have:(Parent.mk (xW a[k]).fNode (RD (a[k]).fweight t) (xW a[k]).fDX (xW a[k]).fDY)=gH t a[k]:=rfl
        rw [this,e3]
      rw [bI st]
      exact ih (k+1) (by omega)
  have:=main a.length 0 (by omega)
  simpa using this
def aE7 (t:Rat) (x:l08Arm) (r:List l08Arm):Prop:=∀ y ∈ r,ValidL (uY t x y)
noncomputable instance (t:Rat) (x:l08Arm) (r:List l08Arm):Decidable (aE7 t x r):=Classical.propDecidable _
theorem aKR {a:List l08Arm} {t:Rat} (ht:VZ t) (ha:∀ x ∈ a,wX x) (hl:a.length≤100) (q0:List Parent) (i:Nat) (hi:i < a.length):∀ m j:Nat,m+j=a.length→∀ acc:List Link,acc.length≤1000000+j →
    lp (fD (a.map (gH t)) (t,a.map (·.fweight),q0) (i:Int) (gH t a[i])) ((j:Int),acc)=some (if aE7 t a[i] (a.drop j) then .inl (acc++(a.drop j).map (uY t a[i])) else .inr (aEO,[],false)):=by
  intro m
  induction m with
  | zero =>
    intro j hj acc hacc
    rw [List.drop_eq_nil_of_le (by omega),if_pos (by intro y hy;cases hy),List.map_nil,List.append_nil]
    exact aM (by unfold fD;simp only [List.length_map];rw [if_neg (by omega)])
  | succ m ih =>
    intro j hj acc hacc
    have hlt:j < a.length:=by omega
    have w1:IntKind.i64.wrap ((j:Int)+1)=((j+1:Nat):Int):=by rw [wi (by omega)];omega
    have hx:=ha _ (List.getElem_mem hi)
    have ho:=ha _ (List.getElem_mem hlt)
    have p0:=aGc hx.2.1 ho.2.1
    have p1:=(aGz p0.2.2 ht).2.1
    have p2:=(aIR hx.2.2.1 ho.2.2.1).2.1
    have p3:=(aIR hx.2.2.2 ho.2.2.2).2.1
    have vl:=(iA (uY t a[i] a[j]) (by have:=aIi ht hx ho;omega)).2
    have e0:idx (a.map (gH t)) (j:Int)=some (gH t a[j]):=by rw [aH (by rwa [List.length_map]),List.getElem_map]
    have e1:idx (a.map (fun x=>x.fweight)) (i:Int)=some (a[i]).fweight:=by rw [aH (by rwa [List.length_map]),List.getElem_map]
    have e2:idx (a.map (fun x=>x.fweight)) (j:Int)=some (a[j]).fweight:=by rw [aH (by rwa [List.length_map]),List.getElem_map]
    have st:fD (a.map (gH t)) (t,a.map (·.fweight),q0) (i:Int) (gH t a[i]) ((j:Int),acc)=some (if ValidL (uY t a[i] a[j]) then .inl (((j+1:Nat):Int),acc++[uY t a[i] a[j]]) else .inr (.inr (aEO,[],false))):=by
      unfold fD
      simp only [List.length_map]
      rw [if_pos (by omega),e0,e1,e2]
      simp only [Option.bind_some,p0.2.1,p1,w1]
      have f1:(gH t a[i]).fDX=(a[i]).fdx:=rfl
      have f2:(gH t a[i]).fDY=(a[i]).fdy:=rfl
      have f3:(gH t a[j]).fDX=(a[j]).fdx:=rfl
      have f4:(gH t a[j]).fDY=(a[j]).fdy:=rfl
      rw [f1,f2,f3,f4,p2]
      simp only [Option.bind_some]
      rw [p3]
      simp only [Option.bind_some]
      have f5:(Link.mk (gH t a[i]).fNode (gH t a[j]).fNode (RD (RM (a[i]).fweight (a[j]).fweight) t) (RS (a[i]).fdx (a[j]).fdx) (RS (a[i]).fdy (a[j]).fdy))=uY t a[i] a[j]:=rfl
      rw [f5,vl]
      simp only [Option.bind_some]
      by_cases c:ValidL (uY t a[i] a[j])
      · rw [decide_eq_true c,if_pos rfl,if_pos c,aR (by omega)];rfl
      · rw [decide_eq_false c,if_neg c];rfl
    rw [List.drop_eq_getElem_cons hlt]
    by_cases c:ValidL (uY t a[i] a[j])
    · rw [if_pos c] at st
      rw [bI st,ih (j+1) (by omega) _ (by rw [List.length_append,List.length_singleton];omega)]
      have:aE7 t a[i] (a[j]::a.drop (j+1))↔aE7 t a[i] (a.drop (j+1)):=⟨fun h x hx'=>h x (List.mem_cons_of_mem _ hx'),fun h x hx'=>by rcases List.mem_cons.1 hx' with rfl | h';exact c;exact h x h'⟩
      simp only [this,List.map_cons,List.append_assoc,List.singleton_append]
    · rw [if_neg c] at st
      rw [aM st,if_neg (fun h=>c (h _ List.mem_cons_self))]
theorem aJt {a:List l08Arm} {t:Rat} (ht:VZ t) (ha:∀ x ∈ a,wX x) (hl:a.length≤100) (q0:List Parent):lp (dU (a.map (gH t)) (t,a.map (·.fweight),q0)) (0,[])=some (if ∀ x ∈ iS t a,ValidL x then .inl (iS t a) else .inr (aEO,[],false)):=by
  have main:∀ m k:Nat,m+k=a.length→∀ acc:List Link,acc.length≤100*k→lp (dU (a.map (gH t)) (t,a.map (·.fweight),q0)) ((k:Int),acc)=some (if ∀ x ∈ iS t (a.drop k),ValidL x then .inl (acc++iS t (a.drop k)) else .inr (aEO,[],false)):=by
    intro m
    induction m with
    | zero =>
      intro k hk acc hacc
      rw [List.drop_eq_nil_of_le (by omega),if_pos (by simp [iS]),iS,List.append_nil]
      exact aM (by unfold dU;simp only [List.length_map];rw [if_neg (by omega)])
    | succ m ih =>
      intro k hk acc hacc
      have hlt:k < a.length:=by omega
      have w1:IntKind.i64.wrap ((k:Int)+1)=((k+1:Nat):Int):=by rw [wi (by omega)];omega
      have e0:idx (a.map (gH t)) (k:Int)=some (gH t a[k]):=by rw [aH (by rwa [List.length_map]),List.getElem_map]
      have row:=aKR ht ha hl q0 k hlt (a.length - (k+1)) (k+1) (by omega) acc (by omega)
      rw [List.drop_eq_getElem_cons hlt,iS]
      have st:dU (a.map (gH t)) (t,a.map (·.fweight),q0) ((k:Int),acc)=some (if aE7 t a[k] (a.drop (k+1)) then .inl (((k+1:Nat):Int),acc++(a.drop (k+1)).map (uY t (a[k]'hlt))) else .inr (.inr (aEO,[],false))):=by
        unfold dU
        simp only [List.length_map]
        rw [if_pos (by omega),e0]
        simp only [Option.bind_some,w1,row]
        by_cases c:aE7 t a[k] (a.drop (k+1))
        · rw [if_pos c,if_pos c]
        · rw [if_neg c,if_neg c]
      by_cases c:aE7 t a[k] (a.drop (k+1))
      · rw [if_pos c] at st
        rw [bI st,ih (k+1) (by omega) _ (by rw [List.length_append,List.length_map,List.length_drop];omega)]
        have:(∀ x ∈ (a.drop (k+1)).map (uY t a[k])++iS t (a.drop (k+1)),ValidL x)↔∀ x ∈ iS t (a.drop (k+1)),ValidL x:=⟨fun h x hx=>h x (List.mem_append_right _ hx),fun h x hx=>by
          rcases List.mem_append.1 hx with hx | hx
          · obtain ⟨y,hy,rfl⟩:=List.mem_map.1 hx;exact c y hy
          · exact h x hx⟩
        simp only [this,List.append_assoc]
      · rw [if_neg c] at st
        rw [aM st,if_neg]
        intro h
        exact c fun y hy=>h _ (List.mem_append_left _ (List.mem_map.2 ⟨y,hy,rfl⟩))
  have:=main a.length 0 (by omega) [] (by simp)
  rw [show ((0:Nat):Int)=0 from rfl,List.drop_zero,List.nil_append] at this
  exact this
theorem aMF {s:List Link} (hs:LSet s) (v:Int):kR s v=some (pkE (yV v s)):=by
  have ha:=aF6 hs v
  have hl:=aBV hs v
  have ht:=aAh ha
  obtain ⟨b,b1,b2,_⟩:=aKi _ (aKg (v:=v) ha hl)
  unfold kR
  have e0:((if v < 1 then some true else some (decide (10≤v))):Option Bool)=some (!decide (1≤v∧v≤9)):=by
    by_cases A:v < 1
    · have:¬1≤v:=by omega
      simp [A,this]
    · by_cases B:10≤v
      · have:¬v≤9:=by omega
        simp [A,B,this]
      · have h1:1≤v:=by omega
        have h2:v≤9:=by omega
        simp [A,B,h1,h2]
  rw [e0]
  simp only [Option.bind_some]
  by_cases c:1≤v∧v≤9
  · rw [decide_eq_true c]
    simp only [Bool.not_true,Bool.false_eq_true,if_false]
    rw [lV 0 (by omega)]
    simp only [Option.bind_some]
    rw [aJu hs v]
    simp only [Option.bind_some]
    rw [aKS ht ha hl]
    simp only [Option.bind_some]
    have e:(Conditional.mk v (tT (bW v s)) ((bW v s).map (gH (tT (bW v s)))))=aBy v (bW v s):=rfl
    rw [e,b2]
    simp only [Option.bind_some]
    cases b with
    | false =>
      have:¬zJ v (bW v s):=by unfold zJ;rw [b1];simp
      rw [aBR (fun h=>this h.2.1)];rfl
    | true =>
      have hc:zJ v (bW v s):=b1
      simp only [if_true]
      rw [aJt ht ha hl]
      by_cases d:∀ x ∈ iS (tT (bW v s)) (bW v s),ValidL x
      · rw [if_pos d,aKe ⟨c,hc,d⟩];rfl
      · rw [if_neg d,aBR (fun h=>d h.2.2)];rfl
  · rw [decide_eq_false c]
    rw [aBR (fun h=>c h.1)];rfl
end Go.Ev
/- Reducing a node of a link set and a node of a tree, both programs. -/
namespace Go.Ev
set_option linter.all false
theorem wi1 {k:Nat} (h:k≤4294967296):IntKind.i64.wrap ((k:Int)+1)=((k+1:Nat):Int):=by rw [wi (by omega)];omega
def yR (v:Int) (s:List Link):List Link:=s.filter (fun l=>!tch v l)
theorem xO {α:Type} (p:α→Bool):∀ (l t:List α),l.foldl (fun t x=>if p x=true then t++[x] else t) t=t++l.filter p
  | [],t=>by simp
  | x::l,t=>by
    rw [List.foldl_cons,xO p l,List.filter_cons]
    by_cases c:p x=true
    · simp only [c,if_true,List.append_assoc,List.singleton_append]
    · simp only [Bool.not_eq_true] at c;simp [c]
theorem aMU (v:Int) (l:Link):((if l.fA≠v then some (decide (l.fB≠v)) else some false):Option Bool)=some (!tch v l):=by
  unfold tch;by_cases A:l.fA=v <;> by_cases B:l.fB=v <;> simp [A,B]
theorem aKl {s:List Link} (h:s.length≤4294967296) (v:Int):nA s v=some (yR v s):=by
  have:=(kI (step:=jL s v) s (fun k t=>((k:Int),t)) (fun t x=>if (fun l=>!tch v l) x=true then t++[x] else t) (fun t=>t) (fun k t=>t.length≤k) (fun k t hk hi=>by
    constructor
    · unfold jL
      simp only []
      rw [if_pos (by omega),aH hk]
      simp only [Option.bind_some,aMU,wi1 (by omega:k≤4294967296)]
      by_cases c:tch v s[k]=true
      · rw [if_neg (by simp [c]),if_neg (by simp [c])]
      · rw [if_pos (by simpa using c),if_pos (by simpa using c),aR (by omega)];rfl
    · simp only [];split
      · rw [List.length_append,List.length_singleton];omega
      · omega) (fun t _=>by unfold jL;simp only [];rw [if_neg (by omega)]) [] (Nat.zero_le _)).1
  rw [show ((0:Nat):Int)=0 from rfl,xO,List.nil_append] at this
  unfold nA
  rw [this];rfl
theorem aKX {s:List Link} (hs:LSet s) (v:Int):mL s v=some (yR v s):=by
  have hl:=hs.len
  have:=(kI (step:=jG s v) s (fun k t=>((k:Int),t)) (fun t x=>if (fun l=>!tch v l) x=true then t++[x] else t) (fun t=>t) (fun k t=>t.length≤k) (fun k t hk hi=>by
    constructor
    · unfold jG
      simp only []
      rw [if_pos (by omega),aH hk]
      have cp:=tY s[k] (by have:=(hs.1 _ (List.getElem_mem hk)).sz;omega)
      simp only [Option.bind_some,aMU,wi1 (by omega:k≤4294967296),cp]
      by_cases c:tch v s[k]=true
      · rw [if_neg (by simp [c]),if_neg (by simp [c])]
      · rw [if_pos (by simpa using c),if_pos (by simpa using c),aR (by omega)];rfl
    · simp only [];split
      · rw [List.length_append,List.length_singleton];omega
      · omega) (fun t _=>by unfold jG;simp only [];rw [if_neg (by omega)]) [] (Nat.zero_le _)).1
  rw [show ((0:Nat):Int)=0 from rfl,xO,List.nil_append] at this
  unfold mL
  rw [lW s (by have:=hs.sz;omega),decide_eq_true hs]
  simp only [Option.bind_some,if_true,this]
  rfl
noncomputable def aDA (v:Int) (s:List Link):Option (Conditional × List Link × Rat) :=
  (yV v s).bind fun x=>(jnP (yR v s++x.2)).map fun y=>(x.1,y.1,y.2)
def pkR:Option (Conditional × List Link × Rat)→Conditional × List Link × Rat × Bool
  | some (c,m,e)=>(c,m,e,true)
  | none=>(aEO,[],pT,false)
theorem aID {v:Int} {s:List Link} (hs:LSet s) {c:Conditional} {m:List Link} (h:yV v s=some (c,m)):(∀ x ∈ m,ValidL x)∧m.length≤10000∧aL c≤20000∧(1≤v∧v≤9):=by
  unfold yV at h
  split at h
  · rename_i g
    cases h
    have ha:=aF6 hs v
    have hl:=aBV hs v
    have h1:=aFr (tT (bW v s)) (a:=bW v s) (Nat.le_refl _)
    have h2:(bW v s).length*(bW v s).length≤100*100:=Nat.mul_le_mul hl hl
    have g1:=rA (aAh ha)
    have g2:cR ((bW v s).map (gH (tT (bW v s))))≤145*((bW v s).map (gH (tT (bW v s)))).length:=aDy (c:=144) (fun p hp=>by
      obtain ⟨x,hx,rfl⟩:=List.mem_map.1 hp
      have ho:=ha x hx
      have g1:=rA (aGz ho.2.1 (aAh ha)).2.2
      have g2:=rA ho.2.2.1
      have g3:=rA ho.2.2.2
      unfold bX gH;simp only [];omega)
    rw [List.length_map] at g2
    refine ⟨g.2.2,by omega,?_,g.1⟩
    unfold aL aBy;simp only [];omega
  · cases h
theorem aLc {v:Int} {s:List Link} (hs:LSet s):(∀ x ∈ yR v s,ValidL x)∧(yR v s).length≤100:=by
  have:=List.length_filter_le (fun l=>!tch v l) s
  have:=hs.len
  exact ⟨fun x hx=>hs.1 x (List.mem_filter.1 hx).1,by unfold yR;omega⟩
theorem aFb {s:List Link} (hs:LSet s) (v:Int):oQ s v=some (pkR (aDA v s))∧pE s v=some (pkR (aDA v s)):=by
  unfold oQ pE aDA
  rw [aME hs,aMF hs]
  cases h:yV v s with
  | none=>exact ⟨rfl,rfl⟩
  | some x =>
    obtain ⟨c,m⟩:=x
    obtain ⟨m1,m2,m3,_⟩:=aID hs h
    obtain ⟨r1,r2⟩:=aLc (v:=v) hs
    have hall:∀ x ∈ yR v s++m,ValidL x:=fun x hx=>(List.mem_append.1 hx).elim (r1 x) (m1 x)
    have hlen:(yR v s++m).length≤20000:=by rw [List.length_append];omega
    have hsz:=aDx hall
    have j1:=(aBG (yR v s++m) (by omega)).1
    have j2:=aBo hall (by omega)
    simp only [pkE,Option.bind_some,if_true]
    rw [aKX hs,aKl (by have:=hs.len;omega)]
    simp only [Option.bind_some]
    rw [aR (by omega)]
    simp only [Option.bind_some,tK,j1,j2]
    cases jnP (yR v s++m) with
    | none=>exact ⟨rfl,rfl⟩
    | some y=>exact ⟨rfl,rfl⟩
theorem aHt {v:Int} {s:List Link} (hs:LSet s) {c:Conditional} {m:List Link} {e:Rat} (h:aDA v s=some (c,m,e)):aL c≤20000∧LSet m∧bV e∧c.fNode=v:=by
  unfold aDA at h
  cases h1:yV v s with
  | none=>rw [h1] at h;cases h
  | some x =>
    rw [h1] at h
    cases h2:jnP (yR v s++x.2) with
    | none=>rw [Option.bind_some,h2] at h;cases h
    | some y =>
      rw [Option.bind_some,h2] at h
      cases h
      have:=aDO (s:=y.1) (e:=y.2) h2
      refine ⟨(aID hs (c:=x.1) (m:=x.2) h1).2.2.1,this.2.1,this.2.2,?_⟩
      unfold yV at h1
      split at h1
      · cases h1;rfl
      · cases h1
end Go.Ev
/- A node of a tree, both programs. -/
namespace Go.Ev
set_option linter.all false
def hZ (l s:List Int):Int:=(l.find? (fun u=>decide (u ∈ s))).getD 0
theorem aKc (l s:List Int) (hl:l.length≤4294967296) (hs:s.length≤4294967296):pM l s=some (hZ l s):=by
  have main:∀ m k:Nat,m+k=l.length→lp (gR l s) (k:Int)=some (match (l.drop k).find? (fun u=>decide (u ∈ s)) with | some x=>.inr x | none=>.inl ()):=by
    intro m
    induction m with
    | zero =>
      intro k hk
      have:k=l.length:=by omega
      subst this
      rw [aM (r:=.inl ()) (by unfold gR;rw [if_neg (by omega)]),List.drop_length];rfl
    | succ m ih =>
      intro k hk
      have hlt:k < l.length:=by omega
      rw [List.drop_eq_getElem_cons hlt,List.find?_cons]
      by_cases c:l[k] ∈ s
      · rw [aM (r:=.inr l[k]) (by unfold gR;rw [if_pos (by omega),aH hlt];simp [aBm s _ hs,c])];simp [c]
      · have e:gR l s (k:Int)=some (.inl ((k+1:Nat):Int)):=by
          unfold gR;rw [if_pos (by omega),aH hlt];simp only [Option.bind_some,aBm s _ hs,wi1 (by omega:k≤4294967296)];simp [c]
        rw [bI e,ih (k+1) (by omega)]
        simp only [c,decide_false]
  have:=main l.length 0 (by omega)
  rw [show ((0:Nat):Int)=0 from rfl,List.drop_zero] at this
  unfold pM hZ
  rw [this]
  cases l.find? (fun u=>decide (u ∈ s)) <;> rfl
def aAS (c:Conditional):List Int:=c.fParents.map (·.fNode)
def upP (order:List Int) (c:Conditional):Int:=hZ order (aAS c)
theorem aFR {α:Type} {p q:α→Bool}:∀ {l:List α},(∀ x ∈ l,p x=q x)→l.find? p=l.find? q
  | [],_=>rfl
  | x::l,h=>by rw [List.find?_cons,List.find?_cons,h x (by simp),aFR (fun y hy=>h y (by simp [hy]))]
theorem aOg {order:List Int} {c:Conditional} (ho:∀ u ∈ order,1≤u) (hl:order.length≤4294967296) (hc:c.fParents.length≤4294967296):xR order c=some (upP order c):=by
  have:=(kI (step:=rX c) c.fParents (fun k t=>((k:Int),t)) (fun t x=>if (fun p:Parent=>decide (0 < p.fNode)) x=true then t++[x.fNode] else t) (fun t=>t) (fun k t=>t.length≤k) (fun k t hk hi=>by
    constructor
    · unfold rX
      simp only []
      rw [if_pos (by omega),aH hk]
      simp only [Option.bind_some,wi1 (by omega:k≤4294967296)]
      by_cases c0:0 < (c.fParents[k]).fNode
      · rw [if_pos c0,if_pos (by simpa using c0),aR (by omega)];rfl
      · rw [if_neg c0,if_neg (by simpa using c0)]
    · simp only [];split
      · rw [List.length_append,List.length_singleton];omega
      · omega) (fun t _=>by unfold rX;simp only [];rw [if_neg (by omega)]) [] (Nat.zero_le _)).1
  rw [show ((0:Nat):Int)=0 from rfl] at this
  have e:∀ (l:List Parent) (t:List Int),l.foldl (fun t x=>if (fun p:Parent=>decide (0 < p.fNode)) x=true then t++[x.fNode] else t) t=t++(l.filter (fun p=>decide (0 < p.fNode))).map (·.fNode):=by
    intro l
    induction l with
    | nil=>intro t;simp
    | cons x l ih =>
      intro t
      rw [List.foldl_cons,ih,List.filter_cons]
      by_cases c0:0 < x.fNode <;> simp [c0]
  rw [e,List.nil_append] at this
  unfold xR
  rw [this]
  simp only [Option.bind_some]
  have hf:=List.length_filter_le (fun p:Parent=>decide (0 < p.fNode)) c.fParents
  rw [aKc _ _ hl (by rw [List.length_map];omega)]
  simp only [Option.bind_some]
  congr 1
  unfold upP hZ
  congr 1
  refine aFR fun u hu=>?_
  have:=ho u hu
  rw [Bool.eq_iff_iff,decide_eq_true_iff,decide_eq_true_iff]
  unfold aAS
  simp only [List.mem_map,List.mem_filter,decide_eq_true_eq]
  constructor
  · rintro ⟨p,⟨h1,_⟩,rfl⟩;exact ⟨p,h1,rfl⟩
  · rintro ⟨p,h1,rfl⟩;exact ⟨p,⟨h1,by omega⟩,rfl⟩
theorem aD2 (c:Conditional) (v:Int) (h:c.fParents.length≤4294967296):qX c v=some (decide (v ∈ aAS c)):=by
  have main:∀ m k:Nat,m+k=c.fParents.length→lp (gK c v) (k:Int)=some (if v ∈ (c.fParents.drop k).map (·.fNode) then .inr true else .inl ()):=by
    intro m
    induction m with
    | zero =>
      intro k hk
      have:k=c.fParents.length:=by omega
      subst this
      rw [aM (r:=.inl ()) (by unfold gK;rw [if_neg (by omega)]),List.drop_length];simp
    | succ m ih =>
      intro k hk
      have hlt:k < c.fParents.length:=by omega
      rw [List.drop_eq_getElem_cons hlt,List.map_cons]
      by_cases d:(c.fParents[k]).fNode=v
      · rw [aM (r:=.inr true) (by unfold gK;rw [if_pos (by omega),aH hlt];simp [d]),if_pos (by simp [d])]
      · have e:gK c v (k:Int)=some (.inl ((k+1:Nat):Int)):=by
          unfold gK;rw [if_pos (by omega),aH hlt];simp only [Option.bind_some,wi1 (by omega:k≤4294967296)];rw [if_neg d]
        rw [bI e,ih (k+1) (by omega)]
        have:(v ∈ (c.fParents[k]).fNode::(c.fParents.drop (k+1)).map (·.fNode))↔v ∈ (c.fParents.drop (k+1)).map (·.fNode):=by
          rw [List.mem_cons];exact ⟨fun h=>h.resolve_left (fun e=>d e.symm),.inr⟩
        simp only [this]
  have:=main c.fParents.length 0 (by omega)
  rw [show ((0:Nat):Int)=0 from rfl,List.drop_zero] at this
  unfold qX aAS
  rw [this]
  by_cases d:v ∈ c.fParents.map (·.fNode)
  · rw [if_pos d,decide_eq_true d];rfl
  · rw [if_neg d,decide_eq_false d];rfl
theorem aNH (order:List Int) (v:Int) (own:List Link) (r:Conditional × List Link × Rat × Bool) (e:Rat) (hl:order.length≤4294967296) (hc:r.1.fParents.length≤4294967296):lp (eW order v own r e) 0=some (TreeNode.mk v (upP order r.1) own r.1 r.2.1 e):=by
  have main:∀ m k:Nat,m+k=order.length→lp (eW order v own r e) (k:Int)=some (TreeNode.mk v (hZ (order.drop k) (aAS r.1)) own r.1 r.2.1 e):=by
    intro m
    induction m with
    | zero =>
      intro k hk
      have:k=order.length:=by omega
      subst this
      rw [aM (by unfold eW;rw [if_neg (by omega)]),List.drop_length];rfl
    | succ m ih =>
      intro k hk
      have hlt:k < order.length:=by omega
      rw [List.drop_eq_getElem_cons hlt]
      unfold hZ
      rw [List.find?_cons]
      by_cases d:order[k] ∈ aAS r.1
      · rw [aM (r:=TreeNode.mk v order[k] own r.1 r.2.1 e) (by unfold eW;rw [if_pos (by omega),aH hlt];simp only [Option.bind_some,aD2 _ _ hc,decide_eq_true d,if_true])]
        simp [d]
      · have e:eW order v own r e (k:Int)=some (.inl ((k+1:Nat):Int)):=by
          unfold eW;rw [if_pos (by omega),aH hlt];simp only [Option.bind_some,aD2 _ _ hc,wi1 (by omega:k≤4294967296),decide_eq_false d,Bool.false_eq_true,if_false]
        rw [bI e,ih (k+1) (by omega)]
        simp only [d,decide_false]
        rfl
  have:=main order.length 0 (by omega)
  rw [show ((0:Nat):Int)=0 from rfl,List.drop_zero] at this
  exact this
def zB (v:Int) (b:List TreeNode):List Link:=(b.filter (fun n=>decide (n.fUp=v))).flatMap (·.fMessages)
theorem aIh (v:Int):∀ (b:List TreeNode) (t:List Link),b.foldl (fun t n=>if n.fUp=v then t++n.fMessages else t) t=t++zB v b
  | [],t=>by simp [zB]
  | n::b,t=>by
    rw [List.foldl_cons,aIh v b]
    unfold zB
    rw [List.filter_cons]
    by_cases c:n.fUp=v <;> simp [c]
theorem aJY {v:Int}:∀ {b:List TreeNode},(∀ n ∈ b,LSet n.fMessages)→(zB v b).length≤100*b.length
  | [],_=>by simp [zB]
  | n::b,h=>by
    have:=aJY (v:=v) (b:=b) (fun m hm=>h m (by simp [hm]))
    have h1:=(h n (by simp)).len
    unfold zB at this ⊢
    rw [List.filter_cons,List.length_cons]
    split
    · rw [List.flatMap_cons,List.length_append];omega
    · omega
theorem aKz {v:Int} {b:List TreeNode} (h:∀ n ∈ b,LSet n.fMessages):∀ x ∈ zB v b,ValidL x:=by
  intro x hx
  unfold zB at hx
  obtain ⟨n,hn,hx⟩:=List.mem_flatMap.1 hx
  exact (h n (List.mem_filter.1 hn).1).1 x hx
theorem aMX {step:(Int × List Link)→Option ((Int × List Link) ⊕ List Link)} (v:Int) (b:List TreeNode) (own:List Link) (ho:own.length≤4294967296) (hb:b.length≤4194304) (h:∀ n ∈ b,LSet n.fMessages)
    (hstep:step=fun s=>match s with | (v6,v7)=>(if (v6 < (b.length:Int)) then (idx b v6).bind fun y8=>(if (y8.fUp=v) then (chk ((v7.length+y8.fMessages.length)*184≤140737488355328)).bind fun _u=>(aZ (v7++y8.fMessages)).bind fun v10=>some (.inl (IntKind.i64.wrap (v6+1),v10)) else some (.inl (IntKind.i64.wrap (v6+1),v7))) else some (.inr v7))):lp step (0,own)=some (own++zB v b):=by
  subst hstep
  have:=(kI (step:=fun s=>match s with | (v6,v7)=>(if (v6 < (b.length:Int)) then (idx b v6).bind fun y8=>(if (y8.fUp=v) then (chk ((v7.length+y8.fMessages.length)*184≤140737488355328)).bind fun _u=>(aZ (v7++y8.fMessages)).bind fun v10=>some (.inl (IntKind.i64.wrap (v6+1),v10)) else some (.inl (IntKind.i64.wrap (v6+1),v7))) else some (.inr v7))) b (fun k t=>((k:Int),t)) (fun t n=>if n.fUp=v then t++n.fMessages else t) (fun t=>t) (fun k t=>t.length≤4294967296+100*k) (fun k t hk hi=>by
    have hm:=(h _ (List.getElem_mem hk)).len
    constructor
    · simp only []
      rw [if_pos (by omega),aH hk]
      simp only [Option.bind_some,wi1 (by omega:k≤4294967296)]
      by_cases c:(b[k]).fUp=v
      · rw [if_pos c,if_pos c,aR (by omega)];rfl
      · rw [if_neg c,if_neg c]
    · split
      · rw [List.length_append];omega
      · omega) (fun t _=>by simp only [];rw [if_neg (by omega)]) own (by omega)).1
  rw [show ((0:Nat):Int)=0 from rfl,aIh] at this
  exact this
def aNG:TreeNode:=TreeNode.mk 0 0 ([]) (Conditional.mk 0 (Rat.mk (BigInt.mk false ([])) ([])) ([])) ([]) (Rat.mk (BigInt.mk false ([])) ([]))
noncomputable def wP (order:List Int) (v:Int) (own:List Link) (b:List TreeNode):Option TreeNode :=
  (jnP (own++zB v b)).bind fun x=>(aDA v x.1).bind fun y=>if bV (RA x.2 y.2.2) then some ⟨v,upP order y.1,own,y.1,y.2.1,RA x.2 y.2.2⟩ else none
def pkN:Option TreeNode→TreeNode × Bool
  | some n=>(n,true)
  | none=>(aNG,false)
theorem aMw {c:Conditional} (h:aL c≤20000):c.fParents.length≤20000:=by
  have:c.fParents.length≤cR c.fParents:=dR _ _
  unfold aL at h;omega
theorem aMo (a b:List Link):aK (a++b)=aK a+aK b:=by unfold aK szL;simp
theorem aLx {order:List Int} {v:Int} {own:List Link} {b:List TreeNode} (hl:order.length≤4194304) (ho:∀ u ∈ order,1≤u) (hz:aK own≤4194304) (hb:b.length≤100) (hm:∀ n ∈ b,LSet n.fMessages) (hv:∀ x ∈ own,ValidL x) :
    tV v own order b=some (pkN (wP order v own b))∧qY ⟨b⟩ order v own=some (pkN (wP order v own b)):=by
  have hol:own.length≤4194304:=Nat.le_trans (dR _ _) hz
  have q1:=aMX (step:=wY v b) v b own (by omega) (by omega) hm rfl
  have q2:=aMX (step:=uL ⟨b⟩ v) v b own (by omega) (by omega) hm rfl
  have hmv:=aKz (v:=v) hm
  have hml:=aJY (v:=v) hm
  have hall:∀ x ∈ own++zB v b,ValidL x:=fun x hx=>(List.mem_append.1 hx).elim (hv x) (hmv x)
  have hms:=aDx hmv
  have hsz:aK (own++zB v b)≤4294967296:=by rw [aMo];omega
  have hln:(own++zB v b).length≤4294967296:=by rw [List.length_append];omega
  have j1:=(aBG (own++zB v b) hsz).1
  have j2:=aBo hall hln
  unfold tV qY wP
  rw [yX own (by omega)]
  simp only [Option.bind_some,List.nil_append,List.length_nil]
  rw [aR (by omega),q1]
  simp only [Option.bind_some,tK]
  rw [q2,j1]
  simp only [Option.bind_some,j2]
  cases h:jnP (own++zB v b) with
  | none =>
    simp only [pk,Option.bind_none,pkN]
    refine ⟨?_,rfl⟩
    rw [(aFb aBF v).1]
    have e0:aQ (pkR (aDA v [])).2.2.1≤4294967296:=by
      cases h2:aDA v [] with
      | none=>exact VZs aB6
      | some y=>exact VZs (.inl (aHt aBF (c:=y.1) (m:=y.2.1) (e:=y.2.2) h2).2.2.1)
    simp only [Option.bind_some]
    rw [(aOk (VZs aB6) e0).1]
    rfl
  | some x =>
    obtain ⟨s,e⟩:=x
    obtain ⟨_,hs,he⟩:=aDO h
    simp only [pk,Option.bind_some,if_true]
    rw [(aFb hs v).1,(aFb hs v).2]
    simp only [Option.bind_some]
    cases h2:aDA v s with
    | none =>
      simp only [pkR,Option.bind_none,pkN]
      rw [(aCM (.inl he) aB6).1,(aCM (.inl he) aB6).2.1]
      exact ⟨rfl,rfl⟩
    | some y =>
      obtain ⟨c,m,f⟩:=y
      obtain ⟨k1,k2,k3,_⟩:=aHt hs h2
      have ra:=aCM (.inl he) (.inl k3)
      have hp:=aMw k1
      simp only [pkR,Option.bind_some,ra.1,ra.2.1,if_true]
      rw [fJ _ (VZs ra.2.2),iY ra.2.2,aOg ho (by omega) (by omega),aNH order v own (c,m,f,true) (RA e f) (by omega) (by show c.fParents.length≤_;omega)]
      simp only [Option.bind_some]
      by_cases g:bV (RA e f)
      · rw [decide_eq_true g,if_pos g];exact ⟨rfl,rfl⟩
      · rw [decide_eq_false g,if_neg g];exact ⟨rfl,rfl⟩
theorem aFj {order:List Int} {v:Int} {own:List Link} {b:List TreeNode} {n:TreeNode} (h:wP order v own b=some n):LSet n.fMessages∧n.fOwn=own∧aL n.fCond≤20000∧bV n.fEnergy∧n.fNode=v∧n.fUp=upP order n.fCond:=by
  unfold wP at h
  cases h1:jnP (own++zB v b) with
  | none=>rw [h1] at h;cases h
  | some x =>
    rw [h1,Option.bind_some] at h
    cases h2:aDA v x.1 with
    | none=>rw [h2] at h;cases h
    | some y =>
      rw [h2,Option.bind_some] at h
      obtain ⟨_,hs,he⟩:=aDO (s:=x.1) (e:=x.2) h1
      obtain ⟨k1,k2,k3,_⟩:=aHt hs (c:=y.1) (m:=y.2.1) (e:=y.2.2) h2
      split at h
      · rename_i g;cases h;exact ⟨k2,rfl,k1,g,rfl,rfl⟩
      · cases h
end Go.Ev
/- The nodes of a link set, orders of elimination, whose a link is, both programs. -/
namespace Go.Ev
set_option linter.all false
def aGm:List Int:=(List.range 9).map (fun k:Nat=>(k:Int)+1)
theorem aLz {x:Int}:x ∈ aGm↔1≤x∧x≤9:=by
  unfold aGm
  simp only [List.mem_map,List.mem_range]
  constructor
  · rintro ⟨k,h,rfl⟩;omega
  · intro h;exact ⟨(x - 1).toNat,by omega,by omega⟩
theorem aFl:aGm.length=9:=by decide
theorem aLA (k:Nat) (h:k < aGm.length):aGm[k]=(k:Int)+1:=by simp [aGm]
def nW (s:List Link):List Int:=aGm.filter (fun v=>s.any (tch v))
theorem aFi (s:List Link):(nW s).Pairwise (· < ·):=by
  have:aGm.Pairwise (· < ·):=by decide
  exact this.sublist List.filter_sublist
theorem aCu (s:List Link):(nW s).length≤9:=by
  have:=List.length_filter_le (fun v=>s.any (tch v)) aGm
  rw [aFl] at this;exact this
theorem aFh {s:List Link} {x:Int}:x ∈ nW s↔(1≤x∧x≤9)∧∃ l ∈ s,l.fA=x∨l.fB=x:=by
  unfold nW
  rw [List.mem_filter,aLz,List.any_eq_true]
  simp only [tch,decide_eq_true_eq]
def aGk (t:List Int) (l:Link):List Int:=aAR (if 0 < l.fA then aAR t l.fA else t) l.fB
theorem aIc {t:List Int} (l:Link) (h:t.Pairwise (· < ·)):(aGk t l).Pairwise (· < ·):=by
  unfold aGk;split
  · exact wN _ _ (wN _ _ h)
  · exact wN _ _ h
theorem aLm {t:List Int} {l:Link} {x:Int}:x ∈ aGk t l↔x=l.fB∨(x=l.fA∧0 < x)∨x ∈ t:=by
  unfold aGk;split
  · rw [zP,zP]
    constructor
    · rintro (h | h | h)
      · exact .inl h
      · exact .inr (.inl ⟨h,by omega⟩)
      · exact .inr (.inr h)
    · rintro (h | ⟨h,_⟩ | h)
      · exact .inl h
      · exact .inr (.inl h)
      · exact .inr (.inr h)
  · rw [zP]
    constructor
    · rintro (h | h)
      · exact .inl h
      · exact .inr (.inr h)
    · rintro (h | ⟨h,_⟩ | h)
      · exact .inl h
      · omega
      · exact .inr h
theorem aLn (t:List Int) (l:Link):(aGk t l).length≤t.length+2:=by
  unfold aGk;split
  · have:=zQ (aAR t l.fA) l.fB;have:=zQ t l.fA;omega
  · have:=zQ t l.fB;omega
theorem aGW:∀ (s:List Link) (t:List Int) (x:Int),x ∈ s.foldl aGk t↔x ∈ t∨∃ l ∈ s,x=l.fB∨(x=l.fA∧0 < x)
  | [],t,x=>by simp
  | l::s,t,x=>by
    rw [List.foldl_cons,aGW s,aLm]
    simp only [List.mem_cons,exists_eq_or_imp]
    constructor
    · rintro ((h | h | h) | h)
      · exact .inr (.inl (.inl h))
      · exact .inr (.inl (.inr h))
      · exact .inl h
      · exact .inr (.inr h)
    · rintro (h | (h | h) | h)
      · exact .inl (.inr (.inr h))
      · exact .inl (.inl h)
      · exact .inl (.inr (.inl h))
      · exact .inr h
theorem aDq:∀ (s:List Link) (t:List Int),t.Pairwise (· < ·)→(s.foldl aGk t).Pairwise (· < ·)
  | [],t,h=>h
  | l::s,t,h=>aDq s _ (aIc l h)
theorem aKZ {s:List Link} (hs:LSet s):tZ s=some (nW s):=by
  have hl:=hs.len
  have:=(kI (step:=oS s) s (fun k t=>(t,(k:Int))) aGk (fun t=>t) (fun k t=>t.length≤2*k) (fun k t hk hi=>by
    constructor
    · unfold oS
      simp only []
      rw [if_pos (by omega),aH hk]
      simp only [Option.bind_some,wi1 (by omega:k≤4294967296)]
      unfold aGk
      by_cases c:0 < (s[k]).fA
      · rw [if_pos c,if_pos c,aIb _ _ (by omega)]
        simp only [Option.bind_some]
        rw [aIb _ _ (by have:=zQ t (s[k]).fA;omega)];rfl
      · rw [if_neg c,if_neg c]
        simp only [Option.bind_some]
        rw [aIb _ _ (by omega)];rfl
    · have:=aLn t s[k];omega) (fun t _=>by unfold oS;simp only [];rw [if_neg (by omega)]) [] (Nat.zero_le _)).1
  rw [show ((0:Nat):Int)=0 from rfl] at this
  unfold tZ
  rw [lW s (by have:=hs.sz;omega),decide_eq_true hs]
  simp only [Option.bind_some,if_true,this]
  congr 1
  refine aCp (aDq _ _ List.Pairwise.nil) (aFi s) fun x=>?_
  rw [aGW,aFh]
  constructor
  · rintro (h | ⟨l,hl,h⟩)
    · cases h
    · have v:=hs.1 l hl
      rcases h with rfl | ⟨rfl,h0⟩
      · exact ⟨⟨by have:=v.2.2.1;have:=v.1.1;omega,v.2.1.2⟩,l,hl,.inr rfl⟩
      · exact ⟨⟨by omega,v.1.2⟩,l,hl,.inl rfl⟩
  · rintro ⟨h1,l,hl,h⟩
    refine .inr ⟨l,hl,?_⟩
    rcases h with h | h
    · exact .inr ⟨h.symm,by omega⟩
    · exact .inl h.symm
theorem aJe {s:List Link} (hs:s.length≤4294967296) (v:Int) (t:List Int) (ht:t.length≤1000):lp (gN s v t) 0=some (if s.any (tch v)=true then t++[v] else t):=by
  have main:∀ m k:Nat,m+k=s.length→lp (gN s v t) (k:Int)=some (if (s.drop k).any (tch v)=true then t++[v] else t):=by
    intro m
    induction m with
    | zero =>
      intro k hk
      have:k=s.length:=by omega
      subst this
      rw [aM (r:=t) (by unfold gN;rw [if_neg (by omega)]),List.drop_length];rfl
    | succ m ih =>
      intro k hk
      have hlt:k < s.length:=by omega
      have e0:((if (s[k]).fA=v then some true else some (decide ((s[k]).fB=v))):Option Bool)=some (tch v s[k]):=by
        unfold tch;by_cases A:(s[k]).fA=v <;> by_cases B:(s[k]).fB=v <;> simp [A,B]
      rw [List.drop_eq_getElem_cons hlt,List.any_cons]
      by_cases c:tch v s[k]=true
      · rw [aM (r:=t++[v]) (by unfold gN;rw [if_pos (by omega),aH hlt];simp only [Option.bind_some,e0,c,if_true];rw [aR (by omega)];rfl)]
        simp [c]
      · have e:gN s v t (k:Int)=some (.inl ((k+1:Nat):Int)):=by
          unfold gN;rw [if_pos (by omega),aH hlt];simp only [Option.bind_some,e0,wi1 (by omega:k≤4294967296)];rw [if_neg c]
        rw [bI e,ih (k+1) (by omega)]
        simp only [Bool.not_eq_true] at c
        simp [c]
  have:=main s.length 0 (by omega)
  rw [show ((0:Nat):Int)=0 from rfl,List.drop_zero] at this
  exact this
theorem aKv {s:List Link} (hs:s.length≤4294967296):uJ s=some (nW s):=by
  have:=(kI (step:=pF s) aGm (fun k t=>((k:Int)+1,t)) (fun t v=>if (fun v=>s.any (tch v)) v=true then t++[v] else t) (fun t=>t) (fun k t=>t.length≤k) (fun k t hk hi=>by
    have hk9:k < 9:=by rw [aFl] at hk;exact hk
    constructor
    · unfold pF
      simp only []
      rw [if_pos (by omega),aJe hs _ _ (by omega),aLA]
      have w:IntKind.i64.wrap ((k:Int)+1+1)=((k+1:Nat):Int)+1:=by rw [wi (by omega)];omega
      simp only [Option.bind_some,w]
    · simp only [];split
      · rw [List.length_append,List.length_singleton];omega
      · omega) (fun t _=>by unfold pF;simp only [];rw [aFl,if_neg (by omega)]) [] (Nat.zero_le _)).1
  rw [show ((0:Nat):Int)+1=1 from rfl,xO,List.nil_append] at this
  unfold uJ
  rw [this];rfl
def aAK (s:List Link) (o:List Int):Prop:=o.Nodup∧(∀ y ∈ o,y ∈ nW s)∧o.length=(nW s).length
instance (s:List Link) (o:List Int):Decidable (aAK s o):=by unfold aAK;exact inferInstance
theorem aJc:∀ {a b:List Int},a.Nodup→(∀ x ∈ a,x ∈ b)→b.length≤a.length→b.Perm a
  | [],b,_,_,h=>by
    have:b=[]:=List.eq_nil_of_length_eq_zero (by simpa using h)
    rw [this]
  | x::a,b,hn,hs,h=>by
    rw [List.nodup_cons] at hn
    have hx:=hs x (by simp)
    have p:=List.perm_cons_erase hx
    have hl:=p.length_eq
    rw [List.length_cons] at hl h
    refine p.trans (List.Perm.cons x (aJc hn.2 (fun y hy=>?_) (by omega)))
    have:y≠x:=fun e=>hn.1 (e ▸ hy)
    exact (List.mem_erase_of_ne this).2 (hs y (by simp [hy]))
theorem aKD {l:List Int} (h:l.Pairwise (· < ·)):l.Nodup:=h.imp (fun {a b} hab e=>by subst e;omega)
theorem aGV (s:List Link) (o:List Int):aAK s o↔(∀ v ∈ nW s,v ∈ o)∧o.length=(nW s).length:=by
  have hn:=aKD (aFi s)
  constructor
  · rintro ⟨h1,h2,h3⟩
    have p:=aJc h1 h2 (by omega)
    exact ⟨fun v hv=>p.mem_iff.1 hv,h3⟩
  · rintro ⟨h1,h2⟩
    have p:=aJc hn h1 (by omega)
    exact ⟨p.nodup_iff.2 hn,fun y hy=>p.mem_iff.1 hy,h2⟩
theorem aFL {s:List Link} {o:List Int} (h:aAK s o):o.length≤9∧(∀ u ∈ o,1≤u):=by
  have:=aCu s
  exact ⟨by rw [h.2.2];exact this,fun u hu=>(aFh.1 (h.2.1 u hu)).1.1⟩
theorem aFS {σ:Type} {step:σ→Option (σ ⊕ (Unit ⊕ Bool))} (n:Nat) (E:Nat→σ) (G:Nat→Prop) (h1:∀ k:Nat,k < n→(G k∧step (E k)=some (.inl (E (k+1))))∨(¬G k∧step (E k)=some (.inr (.inr false)))) (h2:step (E n)=some (.inr (.inl ()))) :
    (lp step (E 0)=some (.inl ())∧∀ k,k < n→G k)∨(lp step (E 0)=some (.inr false)∧∃ k,k < n∧¬G k):=by
  have main:∀ m k:Nat,m+k=n→(lp step (E k)=some (.inl ())∧∀ j,k≤j→j < n→G j)∨(lp step (E k)=some (.inr false)∧∃ j,j < n∧¬G j):=by
    intro m
    induction m with
    | zero =>
      intro k hk
      have:k=n:=by omega
      subst this
      exact .inl ⟨aM h2,fun j _ _=>by omega⟩
    | succ m ih =>
      intro k hk
      rcases h1 k (by omega) with ⟨g,e⟩ | ⟨g,e⟩
      · rw [bI e]
        rcases ih (k+1) (by omega) with ⟨a,b⟩ | ⟨a,b⟩
        · refine .inl ⟨a,fun j h1 h2=>?_⟩
          by_cases e:j=k
          · subst e;exact g
          · exact b j (by omega) h2
        · exact .inr ⟨a,b⟩
      · exact .inr ⟨aM e,k,by omega,g⟩
  rcases main n 0 (by omega) with ⟨a,b⟩ | ⟨a,b⟩
  · exact .inl ⟨a,fun j h=>b j (Nat.zero_le _) h⟩
  · exact .inr ⟨a,b⟩
theorem aAl {l:List Int}:l.Nodup↔∀ k (h:k < l.length),l[k] ∉ l.take k:=by
  unfold List.Nodup
  rw [List.pairwise_iff_getElem]
  constructor
  · intro h k hk hm
    obtain ⟨j,hj,e⟩:=List.mem_iff_getElem.1 hm
    rw [List.length_take] at hj
    rw [List.getElem_take] at e
    exact h j k (by omega) hk (by omega) e
  · intro h i j hi hj hij e
    refine h j hj ?_
    rw [← e]
    exact List.mem_iff_getElem.2 ⟨i,by rw [List.length_take];omega,by rw [List.getElem_take]⟩
theorem aJJ {s:List Link} (hs:LSet s) (o:List Int) (ho:o.length≤4194304):uA s o=some (decide (aAK s o)):=by
  have hn:=aCu s
  unfold uA
  rw [aKZ hs]
  simp only [Option.bind_some]
  have L:=aFS (step:=oU o (nW s)) o.length (fun k=>((k:Int),o.take k)) (fun k=>∀ h:k < o.length,o[k] ∈ nW s∧o[k] ∉ o.take k) (fun k hk=>by
    have tl:(o.take k).length≤k:=by rw [List.length_take];omega
    have tk:o.take (k+1)=o.take k++[o[k]]:=by rw [List.take_add_one,List.getElem?_eq_getElem hk];rfl
    unfold oU
    simp only []
    rw [if_pos (by omega),aH hk]
    simp only [Option.bind_some,aBm (nW s) _ (by omega),aBm (o.take k) _ (by omega),wi1 (by omega:k≤4294967296)]
    by_cases A:o[k] ∈ nW s
    · by_cases B:o[k] ∈ o.take k
      · right
        refine ⟨fun h=>(h hk).2 B,?_⟩
        rw [decide_eq_true A,decide_eq_true B];rfl
      · left
        refine ⟨fun h=>⟨A,B⟩,?_⟩
        rw [decide_eq_true A,decide_eq_false B]
        simp only [if_true,Option.bind_some,Bool.false_eq_true,if_false]
        rw [aR (by omega),tk];rfl
    · right
      refine ⟨fun h=>A (h hk).1,?_⟩
      rw [decide_eq_false A];rfl) (by unfold oU;simp only [];rw [if_neg (by omega)])
  simp only [List.take_zero] at L
  rw [show ((0:Nat):Int)=0 from rfl] at L
  rcases L with ⟨e,g⟩ | ⟨e,k,hk,g⟩
  · rw [e]
    simp only [Option.bind_some]
    rw [lW s (by have:=hs.sz;omega),decide_eq_true hs]
    simp only [Option.bind_some,if_true]
    congr 1
    rw [Bool.eq_iff_iff,decide_eq_true_iff,decide_eq_true_iff]
    constructor
    · intro h
      refine ⟨aAl.2 (fun k hk=>(g k hk hk).2),fun y hy=>?_,by omega⟩
      obtain ⟨j,hj,rfl⟩:=List.mem_iff_getElem.1 hy
      exact (g j hj hj).1
    · intro h;rw [h.2.2]
  · rw [e]
    have:¬aAK s o:=fun h=>g (fun hk=>⟨h.2.1 _ (List.getElem_mem hk),aAl.1 h.1 k hk⟩)
    rw [decide_eq_false this];rfl
theorem aHR (s:List Link) (h:aK s≤4294967296):nI s=some (decide (LSet s)):=by
  rw [← lW s h]
  unfold nI dO
  have:lp (qB s) 0=lp (eT s) 0:=by
    refine aLG (fun _=>True) (fun v _=>⟨?_,fun _ _=>trivial⟩) _ trivial
    unfold qB eT
    cases e:idx s v with
    | none=>rfl
    | some y =>
      have hy:y ∈ s:=List.mem_of_getElem? (aEw e).2.1
      have hz:=gO (w:=bH) hy
      unfold aK at h
      have q:=iA y (by omega)
      simp only [Option.bind_some,q.1,q.2,aIU,aGf]
  rw [this]
theorem aJK {s:List Link} (hs:LSet s) (o:List Int) (ho:o.length≤4194304):uP s o=some (decide (aAK s o)):=by
  have hn:=aCu s
  unfold uP
  have il:nI s=some true:=by rw [aHR s (by have:=hs.sz;omega),decide_eq_true hs]
  rw [il,aKv (by have:=hs.len;omega)]
  simp only [Option.bind_some,if_true]
  have L:=aFS (step:=pI o (nW s)) (nW s).length (fun k=>(k:Int)) (fun k=>∀ h:k < (nW s).length,(nW s)[k] ∈ o) (fun k hk=>by
    unfold pI
    rw [if_pos (by omega),aH hk]
    simp only [Option.bind_some,aBs o _ (by omega),wi1 (by omega:k≤4294967296)]
    by_cases A:(nW s)[k] ∈ o
    · exact .inl ⟨fun _=>A,by rw [decide_eq_true A];rfl⟩
    · exact .inr ⟨fun h=>A (h hk),by rw [decide_eq_false A];rfl⟩) (by unfold pI;rw [if_neg (by omega)])
  rw [show ((0:Nat):Int)=0 from rfl] at L
  rcases L with ⟨e,g⟩ | ⟨e,k,hk,g⟩
  · rw [e]
    simp only [Option.bind_some]
    congr 1
    rw [Bool.eq_iff_iff,decide_eq_true_iff,decide_eq_true_iff,aGV]
    constructor
    · intro h
      refine ⟨fun v hv=>?_,by omega⟩
      obtain ⟨j,hj,rfl⟩:=List.mem_iff_getElem.1 hv
      exact g j hj hj
    · intro h;rw [h.2]
  · rw [e]
    have:¬aAK s o:=fun h=>g (fun hk=>((aGV s o).1 h).1 _ (List.getElem_mem hk))
    rw [decide_eq_false this];rfl
def wO (o:List Int) (v:Int) (l:Link):Bool:=decide (hZ o [l.fA,l.fB]=v)
theorem aMx (o:List Int) (l:Link) (h:o.length≤4294967296):rY o l=some (hZ o [l.fA,l.fB]):=by
  unfold rY
  rw [aKc _ _ h (by simp)];rfl
theorem aBP {o s:List Int} {v:Int} (h:hZ o s=v) (hv:v≠0):v ∈ s∧v ∈ o:=by
  unfold hZ at h
  cases e:o.find? (fun u=>decide (u ∈ s)) with
  | none=>rw [e] at h;exact absurd h.symm hv
  | some x =>
    rw [e] at h
    simp only [Option.getD_some] at h
    subst h
    exact ⟨by simpa using List.find?_some e,List.mem_of_find?_eq_some e⟩
theorem aCH {o s:List Int} {k:Nat} (hk:k < o.length) (hn:o.Nodup) (h1:∀ u ∈ o,1≤u):hZ o s=o[k]↔o[k] ∈ s∧∀ u ∈ o.take k,u ∉ s:=by
  have ef:o.find? (fun u=>decide (u ∈ s))=((o.take k).find? (fun u=>decide (u ∈ s))).or ((o[k]::o.drop (k+1)).find? (fun u=>decide (u ∈ s))):=by
    rw [← List.find?_append,← List.drop_eq_getElem_cons hk,List.take_append_drop]
  have hnt:=aAl.1 hn k hk
  constructor
  · intro h
    have hp:=h1 _ (List.getElem_mem hk)
    refine ⟨(aBP h (by omega)).1,fun u hu hus=>?_⟩
    unfold hZ at h
    rw [ef] at h
    cases f:(o.take k).find? (fun u=>decide (u ∈ s)) with
    | none =>
      rw [List.find?_eq_none] at f
      exact f u hu (by simpa using hus)
    | some x =>
      have hx:=List.mem_of_find?_eq_some f
      rw [f] at h
      simp only [Option.some_or,Option.getD_some] at h
      rw [h] at hx
      exact hnt hx
  · rintro ⟨a,b⟩
    unfold hZ
    rw [ef]
    have:(o.take k).find? (fun u=>decide (u ∈ s))=none:=by
      rw [List.find?_eq_none];intro u hu;simpa using b u hu
    rw [this,Option.none_or,List.find?_cons]
    simp [a]
end Go.Ev
/- Building a tree, both programs, and the law. -/
namespace Go.Ev
set_option linter.all false
theorem aAv (c:Conditional) (h:aL c≤4294967296):iL c=some c:=by
  have hp:=dR bX c.fParents
  unfold aL cR at h
  unfold iL
  rw [iJ _ (by omega)]
  simp only [Option.bind_some]
  have:=zX (step:=fU c) c.fParents (fun k t=>((k:Int),t)) (fun t=>t) (fun k t hk ht=>by
    have he:=gO (w:=bX) (List.getElem_mem hk)
    have hn:bX c.fParents[k]=aQ (c.fParents[k]).fShare+aQ (c.fParents[k]).fDX+aQ (c.fParents[k]).fDY:=rfl
    unfold fU
    simp only []
    rw [if_pos (by omega),aH hk]
    simp only [Option.bind_some]
    rw [iJ _ (by omega)]
    simp only [Option.bind_some]
    rw [iJ _ (by omega)]
    simp only [Option.bind_some]
    rw [iJ _ (by omega)]
    simp only [Option.bind_some]
    rw [aR (by omega),wi (by omega)];rfl) (fun t ht=>by unfold fU;simp only [];rw [if_neg (by omega)])
  rw [show ((0:Nat):Int)=0 from rfl] at this
  rw [this];rfl
theorem aKt (s:List Link) (o:List Int) (v:Int) (hs:s.length≤4194304) (ho:o.length≤4194304):lp (iR s o v) (0,[])=some (s.filter (wO o v)):=by
  have:=(kI (step:=iR s o v) s (fun k t=>((k:Int),t)) (fun t x=>if wO o v x=true then t++[x] else t) (fun t=>t) (fun k t=>t.length≤k) (fun k t hk hi=>by
    constructor
    · unfold iR
      simp only []
      rw [if_pos (by omega),aH hk]
      simp only [Option.bind_some,aMx o _ (by omega:o.length≤4294967296),wi1 (by omega:k≤4294967296)]
      by_cases c:hZ o [(s[k]).fA,(s[k]).fB]=v
      · rw [if_pos c,if_pos (by unfold wO;simpa using c),aR (by omega)];rfl
      · rw [if_neg c,if_neg (by unfold wO;simpa using c)]
    · split
      · rw [List.length_append,List.length_singleton];omega
      · omega) (fun t _=>by unfold iR;simp only [];rw [if_neg (by omega)]) [] (Nat.zero_le _)).1
  rw [show ((0:Nat):Int)=0 from rfl,xO,List.nil_append] at this
  exact this
theorem aK4 (o:List Int) (k:Nat) (hk:k≤o.length):sub o 0 (k:Int)=some (o.take k):=by
  rw [vQ _ _ _ (by omega)];simp
theorem aLu (o:List Int) (hn:o.Nodup) (h1:∀ u ∈ o,1≤u) (ho:o.length≤4194304) (k:Nat) (hk:k < o.length) (l:Link) (hl:l.fA < l.fB) :
    ((if l.fA=o[k] then (sub o 0 (k:Int)).bind fun y57=>(fT y57 l.fB).bind fun r58=>(if r58=true then (if l.fB=o[k] then (sub o 0 (k:Int)).bind fun y59=>(fT y59 l.fA).bind fun r60=>some (!r60) else some false) else some true) else (if l.fB=o[k] then (sub o 0 (k:Int)).bind fun y61=>(fT y61 l.fA).bind fun r62=>some (!r62) else some false)):Option Bool)=some (wO o o[k] l):=by
  have tl:(o.take k).length≤4294967296:=by rw [List.length_take];omega
  have hnt:=aAl.1 hn k hk
  have ft:=aCH (s:=[l.fA,l.fB]) hk hn h1
  rw [aK4 o k (by omega)]
  simp only [Option.bind_some,aBs _ _ tl]
  unfold wO
  by_cases A:l.fA=o[k]
  · have B:¬l.fB=o[k]:=by omega
    rw [if_pos A,if_neg B]
    by_cases C:l.fB ∈ o.take k
    · rw [decide_eq_true C,if_pos rfl]
      have:¬hZ o [l.fA,l.fB]=o[k]:=fun h=>(ft.1 h).2 _ C (by simp)
      rw [decide_eq_false this]
    · rw [decide_eq_false C]
      have:hZ o [l.fA,l.fB]=o[k]:=ft.2 ⟨by simp [A],fun u hu hs=>by
        rcases List.mem_cons.1 hs with rfl | hs
        · exact hnt (A ▸ hu)
        · rw [List.mem_singleton.1 hs] at hu;exact C hu⟩
      rw [decide_eq_true this];rfl
  · rw [if_neg A]
    by_cases B:l.fB=o[k]
    · rw [if_pos B]
      by_cases C:l.fA ∈ o.take k
      · have:¬hZ o [l.fA,l.fB]=o[k]:=fun h=>(ft.1 h).2 _ C (by simp)
        rw [decide_eq_true C,decide_eq_false this];rfl
      · have:hZ o [l.fA,l.fB]=o[k]:=ft.2 ⟨by simp [B],fun u hu hs=>by
          rcases List.mem_cons.1 hs with rfl | hs
          · exact C hu
          · rw [List.mem_singleton.1 hs] at hu;exact hnt (B ▸ hu)⟩
        rw [decide_eq_false C,decide_eq_true this];rfl
    · rw [if_neg B]
      have:¬hZ o [l.fA,l.fB]=o[k]:=fun h=>by
        have:=(ft.1 h).1
        simp only [List.mem_cons,List.not_mem_nil,or_false] at this
        rcases this with e | e
        · exact A e.symm
        · exact B e.symm
      rw [decide_eq_false this]
theorem aKu (s:List Link) (o:List Int) (hs:s.length≤4194304) (ho:o.length≤4194304) (hv:∀ x ∈ s,ValidL x) (hn:o.Nodup) (h1:∀ u ∈ o,1≤u) (i:Nat) (hi:i < o.length):lp (iX s o o[i] (i:Int)) (0,[])=some (s.filter (wO o o[i])):=by
  have:=(kI (step:=iX s o o[i] (i:Int)) s (fun k t=>((k:Int),t)) (fun t x=>if wO o o[i] x=true then t++[x] else t) (fun t=>t) (fun k t=>t.length≤k) (fun k t hk hj=>by
    constructor
    · unfold iX
      simp only []
      rw [if_pos (by omega),aH hk]
      have oc:=aLu o hn h1 ho i hi s[k] (hv _ (List.getElem_mem hk)).2.2.1
      simp only [Option.bind_some,wi1 (by omega:k≤4294967296)]
      rw [oc]
      simp only [Option.bind_some]
      by_cases c:wO o o[i] s[k]=true
      · rw [if_pos c,if_pos c,aR (by omega)];rfl
      · rw [if_neg c,if_neg c]
    · split
      · rw [List.length_append,List.length_singleton];omega
      · omega) (fun t _=>by unfold iX;simp only [];rw [if_neg (by omega)]) [] (Nat.zero_le _)).1
  rw [show ((0:Nat):Int)=0 from rfl,xO,List.nil_append] at this
  exact this
noncomputable def xQ (s:List Link) (o:List Int):List Int→List TreeNode→Option (List TreeNode)
  | [],b=>some b
  | v::r,b=>(wP o v (s.filter (wO o v)) b).bind fun n=>xQ s o r (b++[n])
noncomputable def yI (s:List Link) (o:List Int):Option Tree :=
  (jnP s).bind fun x=>if aAK x.1 o then (xQ s o o []).map Tree.mk else none
def pkT:Option Tree→Tree × Bool
  | some t=>(t,true)
  | none=>(Tree.mk [],false)
def aNe:Option (List TreeNode)→(List TreeNode) ⊕ (Tree × Bool)
  | some b=>.inl b
  | none=>.inr (Tree.mk [],false)
def NodeOk (s:List Link) (o:List Int) (n:TreeNode):Prop:=LSet n.fMessages∧n.fOwn=s.filter (wO o n.fNode)∧aL n.fCond≤20000∧bV n.fEnergy∧n.fUp=upP o n.fCond
theorem aAi (p:Link→Bool):∀ s:List Link,aK (s.filter p)≤aK s
  | []=>Nat.le_refl _
  | x::s=>by
    have:=aAi p s
    unfold aK at this ⊢
    rw [List.filter_cons,rV]
    split
    · rw [rV];omega
    · omega
theorem aFk {s:List Link} {o:List Int} {v:Int} {b:List TreeNode} {n:TreeNode} (h:wP o v (s.filter (wO o v)) b=some n):NodeOk s o n∧n.fNode=v:=by
  obtain ⟨h1,h2,h3,h4,h5,h6⟩:=aFj h
  exact ⟨⟨h1,by rw [h5];exact h2,h3,h4,h6⟩,h5⟩
theorem aHZ {s:List Link} {o:List Int}:∀ (r:List Int) (b b':List TreeNode),(∀ n ∈ b,NodeOk s o n)→xQ s o r b=some b'→(∀ n ∈ b',NodeOk s o n)∧b'.map (·.fNode)=b.map (·.fNode)++r
  | [],b,b',h,e=>by cases e;exact ⟨h,by simp⟩
  | v::r,b,b',h,e=>by
    rw [xQ] at e
    cases h1:wP o v (s.filter (wO o v)) b with
    | none=>rw [h1] at e;cases e
    | some n =>
      rw [h1,Option.bind_some] at e
      obtain ⟨g1,g2⟩:=aFk h1
      obtain ⟨k1,k2⟩:=aHZ r (b++[n]) b' (fun m hm=>by
        rcases List.mem_append.1 hm with hm | hm
        · exact h m hm
        · rw [List.mem_singleton.1 hm];exact g1) e
      exact ⟨k1,by rw [k2,List.map_append,List.append_assoc];simp [g2]⟩
theorem aIX (s:List Link) (o:List Int) (hz:aK s≤4194304) (hv:∀ x ∈ s,ValidL x) (ho:o.length≤9) (h1:∀ u ∈ o,1≤u):∀ m k:Nat,m+k=o.length→∀ b:List TreeNode,b.length=k→(∀ n ∈ b,LSet n.fMessages)→lp (iQ s o) ((k:Int),b)=some (aNe (xQ s o (o.drop k) b)):=by
  have hl:s.length≤4194304:=Nat.le_trans (dR _ _) hz
  intro m
  induction m with
  | zero =>
    intro k hk b hb hm
    rw [List.drop_eq_nil_of_le (by omega)]
    exact aM (by unfold iQ;simp only [];rw [if_neg (by omega)];rfl)
  | succ m ih =>
    intro k hk b hb hm
    have hlt:k < o.length:=by omega
    rw [List.drop_eq_getElem_cons hlt,xQ]
    have nq:=(aLx (v:=o[k]) (own:=s.filter (wO o o[k])) (b:=b) (by omega:o.length≤4194304) h1 (Nat.le_trans (aAi _ s) hz) (by omega) hm (fun x hx=>hv x (List.mem_filter.1 hx).1)).1
    have st:iQ s o ((k:Int),b)=some (match wP o o[k] (s.filter (wO o o[k])) b with | some n=>.inl (((k+1:Nat):Int),b++[n]) | none=>.inr (.inr (Tree.mk [],false))):=by
      unfold iQ
      simp only []
      rw [if_pos (by omega),aH hlt]
      simp only [Option.bind_some,aKt s o o[k] hl (by omega),nq,wi1 (by omega:k≤4294967296)]
      cases wP o o[k] (s.filter (wO o o[k])) b with
      | none=>rfl
      | some n=>simp only [pkN,if_true];rw [aR (by omega)];rfl
    cases h:wP o o[k] (s.filter (wO o o[k])) b with
    | none=>rw [h] at st;rw [aM st];rfl
    | some n =>
      rw [h] at st
      rw [bI st,Option.bind_some]
      exact ih (k+1) (by omega) _ (by simp [hb]) (fun x hx=>by
        rcases List.mem_append.1 hx with hx | hx
        · exact hm x hx
        · rw [List.mem_singleton.1 hx];exact (aFj h).1)
theorem aIY (s:List Link) (o:List Int) (hz:aK s≤4194304) (hv:∀ x ∈ s,ValidL x) (ho:o.length≤9) (hn:o.Nodup) (h1:∀ u ∈ o,1≤u):∀ m k:Nat,m+k=o.length→∀ b:List TreeNode,b.length=k→(∀ n ∈ b,LSet n.fMessages)→lp (iW s o) ((k:Int),b)=some (aNe (xQ s o (o.drop k) b)):=by
  have hl:s.length≤4194304:=Nat.le_trans (dR _ _) hz
  intro m
  induction m with
  | zero =>
    intro k hk b hb hm
    rw [List.drop_eq_nil_of_le (by omega)]
    exact aM (by unfold iW;simp only [];rw [if_neg (by omega)];rfl)
  | succ m ih =>
    intro k hk b hb hm
    have hlt:k < o.length:=by omega
    rw [List.drop_eq_getElem_cons hlt,xQ]
    have nq:=(aLx (v:=o[k]) (own:=s.filter (wO o o[k])) (b:=b) (by omega:o.length≤4194304) h1 (Nat.le_trans (aAi _ s) hz) (by omega) hm (fun x hx=>hv x (List.mem_filter.1 hx).1)).2
    have st:iW s o ((k:Int),b)=some (match wP o o[k] (s.filter (wO o o[k])) b with | some n=>.inl (((k+1:Nat):Int),b++[n]) | none=>.inr (.inr (Tree.mk [],false))):=by
      unfold iW
      simp only []
      rw [if_pos (by omega),aH hlt]
      simp only [Option.bind_some,aKu s o hl (by omega) hv hn h1 k hlt,nq,wi1 (by omega:k≤4294967296)]
      cases wP o o[k] (s.filter (wO o o[k])) b with
      | none=>rfl
      | some n=>simp only [pkN,if_true];rw [aR (by omega)];rfl
    cases h:wP o o[k] (s.filter (wO o o[k])) b with
    | none=>rw [h] at st;rw [aM st];rfl
    | some n =>
      rw [h] at st
      rw [bI st,Option.bind_some]
      exact ih (k+1) (by omega) _ (by simp [hb]) (fun x hx=>by
        rcases List.mem_append.1 hx with hx | hx
        · exact hm x hx
        · rw [List.mem_singleton.1 hx];exact (aFj h).1)
theorem NodeOk.sz {s:List Link} {o:List Int} {n:TreeNode} (h:NodeOk s o n) (hz:aK s≤4194304):aS n≤4300000:=by
  have h1:=h.1.sz
  have h2:aK n.fOwn≤4194304:=by rw [h.2.1];exact Nat.le_trans (aAi _ s) hz
  have h3:=rA (.inl h.2.2.2.1)
  have h4:=h.2.2.1
  unfold aS;omega
theorem aJy (n:TreeNode) (h:aS n≤4294967296):lS n=some n:=by
  unfold aS at h
  unfold lS
  rw [rN _ (by omega),aAv _ (by omega)]
  simp only [Option.bind_some]
  rw [rN _ (by omega),iJ _ (by omega)]
  rfl
theorem aJx (t:Tree) (h:cG t≤4294967296):sP t=some t:=by
  unfold cG cC at h
  have hl:=dR aS t.fNodes
  unfold sP
  have:=zX (step:=nF t) t.fNodes (fun k t=>((k:Int),t)) (fun t=>t) (fun k u hk hu=>by
    have he:=gO (w:=aS) (List.getElem_mem hk)
    unfold nF
    simp only []
    rw [if_pos (by omega),aH hk]
    simp only [Option.bind_some]
    rw [aJy _ (by omega)]
    simp only [Option.bind_some]
    rw [aR (by omega),wi1 (by omega)];rfl) (fun t ht=>by unfold nF;simp only [];rw [if_neg (by omega)])
  rw [show ((0:Nat):Int)=0 from rfl] at this
  rw [this];rfl
theorem aJL {s:List Link} {o:List Int} {b:List TreeNode} (hz:aK s≤4194304) (ho:o.length≤9) (h:xQ s o o []=some b):cG ⟨b⟩≤38700018:=by
  obtain ⟨h1,h2⟩:=aHZ o [] b (by simp) h
  have hl:b.length=o.length:=by have:=congrArg List.length h2;simpa using this
  have:cC b≤(4300000+1)*b.length:=aDy (fun n hn=>(h1 n hn).sz hz)
  unfold cG
  have:(4300000+1)*b.length≤4300001*9:=Nat.mul_le_mul (Nat.le_refl _) (by omega)
  simp only []
  omega
theorem aHS (s:List Link) (o:List Int) (hz:aK s≤4194304) (ho:o.length≤4194304):kG s o=some (pkT (yI s o))∧iO s o=some (pkT (yI s o)):=by
  obtain ⟨j1,j2⟩:=aBG s (by omega)
  unfold kG iO yI
  rw [j1,j2]
  cases h:jnP s with
  | none=>exact ⟨rfl,rfl⟩
  | some x =>
    obtain ⟨u,e⟩:=x
    obtain ⟨hv,hs,he⟩:=aDO h
    simp only [pk,Option.bind_some,if_true]
    rw [aJJ hs o ho,aJK hs o ho]
    by_cases c:aAK u o
    · obtain ⟨l9,h1⟩:=aFL c
      have q1:=aIX s o hz hv l9 h1 o.length 0 (by omega) [] rfl (by simp)
      have q2:=aIY s o hz hv l9 c.1 h1 o.length 0 (by omega) [] rfl (by simp)
      rw [show ((0:Nat):Int)=0 from rfl,List.drop_zero] at q1 q2
      rw [decide_eq_true c,if_pos c]
      simp only [Option.bind_some,Bool.not_true,Bool.false_eq_true,if_false,q1,q2]
      cases g:xQ s o o [] with
      | none=>exact ⟨rfl,rfl⟩
      | some b =>
        simp only [aNe]
        rw [aJx ⟨b⟩ (by have:=aJL hz l9 g;omega)]
        exact ⟨rfl,rfl⟩
    · rw [decide_eq_false c,if_neg c]
      exact ⟨rfl,rfl⟩
theorem aG1 {s:List Link} {o:List Int} (hz:aK s≤4194304):cG (pkT (yI s o)).1≤38700018:=by
  unfold yI
  cases h:jnP s with
  | none=>exact Nat.zero_le _
  | some x =>
    rw [Option.bind_some]
    by_cases c:aAK x.1 o
    · rw [if_pos c]
      cases g:xQ s o o [] with
      | none=>exact Nat.zero_le _
      | some b=>exact aJL hz (aFL c).1 g
    · rw [if_neg c];exact Nat.zero_le _
end Go.Ev
/- Comparison of links, conditionals, tree nodes; nodes that have changed. -/
namespace Go.Ev
set_option linter.all false
theorem aE2 (a b:List Int) (h:a.length≤4294967296):pR a b=some (decide (a=b)):=by
  unfold pR
  by_cases hl:a.length=b.length
  · rw [if_neg (by omega),aDN a b hl (fun k ha hb=>by
      unfold rL
      rw [if_pos (by omega),aH ha,aH hb,wi (by omega)]
      simp only [Option.bind_some]
      by_cases c:a[k]=b[k]
      · rw [if_neg (by simp [c]),if_pos c]
      · rw [if_pos c,if_neg c]) (by unfold rL;rw [if_neg (by omega)])]
    by_cases c:a=b <;> simp [c]
  · rw [if_pos (by omega)]
    have:a≠b:=by rintro rfl;exact hl rfl
    simp [this]
theorem fP (r s:Rat) (h:aQ r≤4294967296):dG r s=some (decide (r=s)):=by
  obtain ⟨⟨a,m⟩,d⟩:=r
  obtain ⟨⟨a',m'⟩,d'⟩:=s
  unfold aQ dN dX at h
  rw [kC,kC] at h
  simp only at h
  unfold dG
  simp only []
  rw [aE2 m m' (by omega),aE2 d d' (by omega)]
  by_cases c1:a=a' <;> by_cases c2:m=m' <;> by_cases c3:d=d' <;> simp [c1,c2,c3]
theorem sV (r s:Rat) (h:aQ r≤4294967296):cX r s=some (decide (r=s)):=fP r s h
theorem aI7 (r s:Link) (h:bH r≤4294967296):sN r s=some (decide (r=s)):=by
  obtain ⟨a,b,w,x,y⟩:=r
  obtain ⟨a',b',w',x',y'⟩:=s
  unfold bH at h
  simp only at h
  unfold sN
  simp only []
  rw [fP w w' (by omega),fP x x' (by omega),fP y y' (by omega)]
  by_cases c1:a=a' <;> by_cases c2:b=b' <;> by_cases c3:w=w' <;> by_cases c4:x=x' <;> by_cases c5:y=y' <;> simp [c1,c2,c3,c4,c5]
theorem aAb (a b:List Link) (h:aK a≤4294967296):nH a b=some (decide (a=b)):=by
  have hal:=dR bH a
  unfold aK at h
  unfold nH
  by_cases hl:a.length=b.length
  · rw [if_neg (by omega),aDN a b hl (fun k ha hb=>by
      have he:=gO (w:=bH) (List.getElem_mem ha)
      unfold qA
      rw [if_pos (by omega),aH ha,aH hb,wi (by omega)]
      simp only [Option.bind_some]
      rw [aI7 _ _ (by omega)]
      simp only [Option.bind_some]
      by_cases c:a[k]=b[k]
      · rw [if_pos (by simp [c]),if_pos c]
      · rw [if_neg (by simp [c]),if_neg c]) (by unfold qA;rw [if_neg (by omega)])]
    by_cases c:a=b <;> simp [c]
  · rw [if_pos (by omega)]
    have:a≠b:=by rintro rfl;exact hl rfl
    simp [this]
theorem zN (a b:List Link) (h:aK a≤4294967296):mN a b=some (decide (a=b)):=by
  have hal:=dR bH a
  unfold aK at h
  unfold mN
  by_cases hl:a.length=b.length
  · rw [if_neg (by omega),aDN a b hl (fun k ha hb=>by
      have he:=gO (w:=bH) (List.getElem_mem ha)
      unfold pX
      rw [if_pos (by omega),aH ha,aH hb,wi (by omega)]
      simp only [Option.bind_some]
      generalize a[k]=r at *
      generalize b[k]=s at *
      obtain ⟨a1,b1,w,x,y⟩:=r
      obtain ⟨a2,b2,w',x',y'⟩:=s
      have hn:bH ⟨a1,b1,w,x,y⟩=aQ w+aQ x+aQ y:=rfl
      simp only []
      rw [sV w w' (by omega),sV x x' (by omega),sV y y' (by omega)]
      by_cases c1:a1=a2 <;> by_cases c2:b1=b2 <;> by_cases c3:w=w' <;> by_cases c4:x=x' <;> by_cases c5:y=y' <;> simp [c1,c2,c3,c4,c5]) (by unfold pX;rw [if_neg (by omega)])]
    by_cases c:a=b <;> simp [c]
  · rw [if_pos (by omega)]
    have:a≠b:=by rintro rfl;exact hl rfl
    simp [this]
theorem uN (a b:Conditional) (h:aL a≤4294967296):iN a b=some (decide (a=b)):=by
  obtain ⟨n,t,l⟩:=a
  obtain ⟨n',t',l'⟩:=b
  have hal:=dR bX l
  unfold aL cR at h
  simp only at h
  unfold iN
  simp only []
  rw [fP t t' (by omega)]
  by_cases c1:n=n'
  · by_cases c2:t=t'
    · by_cases hl:l.length=l'.length
      · have e:lp (fV ⟨n,t,l⟩ ⟨n',t',l'⟩) 0=some (if l=l' then .inl () else .inr false):=aDN l l' hl (fun k ha hb=>by
          have he:=gO (w:=bX) (List.getElem_mem ha)
          unfold fV
          simp only []
          rw [if_pos (by omega),aH ha,aH hb,wi (by omega)]
          simp only [Option.bind_some]
          generalize l[k]=r at *
          generalize l'[k]=s at *
          obtain ⟨a1,w,x,y⟩:=r
          obtain ⟨a2,w',x',y'⟩:=s
          have hn:bX ⟨a1,w,x,y⟩=aQ w+aQ x+aQ y:=rfl
          simp only []
          rw [fP w w' (by omega),fP x x' (by omega),fP y y' (by omega)]
          by_cases c1:a1=a2 <;> by_cases c3:w=w' <;> by_cases c4:x=x' <;> by_cases c5:y=y' <;> simp [c1,c3,c4,c5]) (by unfold fV;simp only [];rw [if_neg (by omega)])
        rw [e]
        by_cases c:l=l' <;> simp [c1,c2,hl,c]
      · have:l≠l':=by rintro rfl;exact hl rfl
        have h2:(l.length:Int)≠(l'.length:Int):=by omega
        simp [c1,c2,this,h2]
    · simp [c1,c2]
  · simp [c1]
theorem aAj (a b:Conditional) (h:aL a≤4294967296):lC a b=some (decide (a=b)):=uN a b h
theorem aE1 (a b:TreeNode) (h:aS a≤4294967296):lR a b=some (decide (a=b)):=by
  obtain ⟨n,u,o,c,m,e⟩:=a
  obtain ⟨n',u',o',c',m',e'⟩:=b
  unfold aS at h
  simp only at h
  unfold lR
  simp only []
  rw [aAb o o' (by omega),uN c c' (by omega),aAb m m' (by omega),fP e e' (by omega)]
  by_cases c1:n=n' <;> by_cases c2:u=u' <;> by_cases c3:o=o' <;> by_cases c4:c=c' <;> by_cases c5:m=m' <;> by_cases c6:e=e' <;> simp [c1,c2,c3,c4,c5,c6]
theorem aKB (a b:TreeNode) (h:aS a≤4294967296):tU a b=some (decide (a=b)):=by
  obtain ⟨n,u,o,c,m,e⟩:=a
  obtain ⟨n',u',o',c',m',e'⟩:=b
  unfold aS at h
  simp only at h
  unfold tU
  simp only []
  rw [zN o o' (by omega),aAj c c' (by omega),zN m m' (by omega),sV e e' (by omega)]
  by_cases c1:n=n' <;> by_cases c2:u=u' <;> by_cases c3:o=o' <;> by_cases c4:c=c' <;> by_cases c5:m=m' <;> by_cases c6:e=e' <;> simp [c1,c2,c3,c4,c5,c6]
def atN (t:Tree) (v:Int):Option Nat:=t.fNodes.findIdx? (fun n=>decide (n.fNode=v))
theorem aKC (t:Tree) (v:Int) (h:t.fNodes.length≤4294967296):rM t v=some (match atN t v with | none=>-1 | some k=>(k:Int)):=by
  unfold rM atN
  rw [aLF t.fNodes (fun n=>decide (n.fNode=v)) (fun k hk=>by
    unfold tB
    rw [if_pos (by omega),aH hk,wi (by omega)]
    simp only [Option.bind_some,decide_eq_true_eq]
    by_cases c:(t.fNodes[k]).fNode=v
    · rw [if_pos c,if_pos c]
    · rw [if_neg c,if_neg c]) (by unfold tB;rw [if_neg (by omega)])]
  simp only [Option.bind_some]
  cases t.fNodes.findIdx? (fun n=>decide (n.fNode=v)) <;> rfl
theorem aHH (t:Tree) (v:Int) (h:t.fNodes.length≤4294967296):xS t v=some (match atN t v with | none=>-1 | some k=>(k:Int)):=aKC t v h
end Go.Ev
/- Is it a tree, both programs, and the law. -/
namespace Go.Ev
set_option linter.all false
theorem aIo (t:Tree) (h:cG t≤4294967296):mM t=some (jA t.fNodes)∧nG t=some (jA t.fNodes):=by
  unfold cG cC at h
  have hl:=dR aS t.fNodes
  have hmem:∀ k (hk:k < t.fNodes.length),aK (t.fNodes[k]).fOwn≤4294967296:=fun k hk=>by
    have he:=gO (w:=aS) (List.getElem_mem hk)
    have hn:aS t.fNodes[k]=aK (t.fNodes[k]).fOwn+aL (t.fNodes[k]).fCond+aK (t.fNodes[k]).fMessages+aQ (t.fNodes[k]).fEnergy:=rfl
    omega
  have hln:∀ k (hk:k < t.fNodes.length),(jA (t.fNodes.take k)).length+((t.fNodes[k]).fOwn).length≤4294967296:=fun k hk=>by
    have:=aJd t.fNodes h (k+1)
    rw [aA4 _ _ hk,List.length_append] at this;omega
  have aux:∀ (step:(Int × (List Link))→Option ((Int × (List Link)) ⊕ (List Link))),(∀ k (hk:k < t.fNodes.length),step ((k:Int),jA (t.fNodes.take k))=some (.inl (((k+1:Nat):Int),jA (t.fNodes.take (k+1)))))→step ((t.fNodes.length:Int),jA (t.fNodes.take t.fNodes.length))=some (.inr (jA t.fNodes))→lp step (0,[])=some (jA t.fNodes):=by
    intro step h1 h2
    have main:∀ m k:Nat,m+k=t.fNodes.length→lp step ((k:Int),jA (t.fNodes.take k))=some (jA t.fNodes):=by
      intro m
      induction m with
      | zero =>
        intro k hk
        have:k=t.fNodes.length:=by omega
        subst this
        exact aM h2
      | succ m ih =>
        intro k hk
        rw [bI (h1 k (by omega))]
        exact ih (k+1) (by omega)
    exact main t.fNodes.length 0 (by omega)
  constructor
  · unfold mM
    rw [aux (lB t) (fun k hk=>by
      have:=hmem k hk
      have:=hln k hk
      unfold lB
      simp only []
      rw [if_pos (by omega),aH hk]
      simp only [Option.bind_some]
      rw [yX _ (by omega)]
      simp only [Option.bind_some]
      rw [aR (by omega),aA4 _ _ hk,wi1 (by omega)];rfl) (by unfold lB;simp only [];rw [if_neg (by omega),List.take_length])]
    rfl
  · unfold nG
    rw [aux (lU t) (fun k hk=>by
      have:=hmem k hk
      have:=hln k hk
      unfold lU
      simp only []
      rw [if_pos (by omega),aH hk]
      simp only [Option.bind_some]
      rw [rN _ (by omega)]
      simp only [Option.bind_some]
      rw [aR (by omega),aA4 _ _ hk,wi1 (by omega)];rfl) (by unfold lU;simp only [];rw [if_neg (by omega),List.take_length])]
    rfl
def xH (t:Tree):List Int:=t.fNodes.map (·.fNode)
theorem aMy (t:Tree) (h:t.fNodes.length≤4294967296):nU t=some (xH t)∧uO t=some (xH t):=by
  have e:uO t=nU t:=rfl
  have:nU t=some (xH t):=by
    have:=(kI (step:=oR t) t.fNodes (fun k u=>((k:Int),u)) (fun u n=>u++[n.fNode]) (fun u=>u) (fun k u=>u.length≤k) (fun k u hk hi=>by
      constructor
      · unfold oR
        simp only []
        rw [if_pos (by omega),aH hk]
        simp only [Option.bind_some,wi1 (by omega:k≤4294967296)]
        rw [aR (by omega)];rfl
      · rw [List.length_append,List.length_singleton];omega) (fun u _=>by unfold oR;simp only [];rw [if_neg (by omega)]) [] (Nat.zero_le _)).1
    rw [show ((0:Nat):Int)=0 from rfl,aCF,List.nil_append] at this
    unfold nU
    rw [this];rfl
  exact ⟨this,e.trans this⟩
theorem aJO (a b:Tree) (h:cG a≤4294967296):sB a b=some (decide (a=b)):=by
  unfold cG cC at h
  have hl:=dR aS a.fNodes
  obtain ⟨a⟩:=a
  obtain ⟨b⟩:=b
  simp only [] at h hl
  unfold sB
  by_cases hn:a.length=b.length
  · rw [if_neg (by simp only [];omega),aDN a b hn (fun k ha hb=>by
      have he:=gO (w:=aS) (List.getElem_mem ha)
      unfold rG
      simp only []
      rw [if_pos (by omega),aH ha,aH hb,wi (by omega)]
      simp only [Option.bind_some]
      rw [aKB _ _ (by omega)]
      by_cases c:a[k]=b[k] <;> simp [c]) (by unfold rG;simp only [];rw [if_neg (by omega)])]
    by_cases c:a=b <;> simp [c]
  · rw [if_pos (by simp only [];omega)]
    have:a≠b:=by rintro rfl;exact hn rfl
    simp [this]
theorem aJP (a b:Tree) (h:cG a≤4294967296):sR a b=some (decide (a=b)):=by
  unfold cG cC at h
  have hl:=dR aS a.fNodes
  obtain ⟨a⟩:=a
  obtain ⟨b⟩:=b
  simp only [] at h hl
  unfold sR
  by_cases hn:a.length=b.length
  · rw [if_neg (by simp only [];omega),aDN a b hn (fun k ha hb=>by
      have he:=gO (w:=aS) (List.getElem_mem ha)
      unfold rO
      simp only []
      rw [if_pos (by omega),aH ha,aH hb,wi (by omega)]
      simp only [Option.bind_some]
      rw [aE1 _ _ (by omega)]
      by_cases c:a[k]=b[k] <;> simp [c]) (by unfold rO;simp only [];rw [if_neg (by omega)])]
    by_cases c:a=b <;> simp [c]
  · rw [if_pos (by simp only [];omega)]
    have:a≠b:=by rintro rfl;exact hn rfl
    simp [this]
def oE (t:Tree):Prop:=yI (jA t.fNodes) (xH t)=some t
noncomputable instance (t:Tree):Decidable (oE t):=Classical.propDecidable _
theorem aDw (t:Tree) (h:cG t≤4194304):nP t=some (decide (oE t))∧nR t=some (decide (oE t)):=by
  have h0:=h
  unfold cG cC at h
  have hl:=dR aS t.fNodes
  have ho:=aBL t.fNodes
  obtain ⟨l1,l2⟩:=aIo t (by omega)
  obtain ⟨o1,o2⟩:=aMy t (by omega)
  obtain ⟨b1,b2⟩:=aHS (jA t.fNodes) (xH t) (by omega) (by unfold xH;rw [List.length_map];omega)
  unfold nP nR
  rw [l1,l2]
  simp only [Option.bind_some,o1,o2,b1,b2]
  by_cases c:oE t
  · have c':=c
    unfold oE at c'
    rw [c',decide_eq_true c]
    simp only [pkT,if_true,aJO t t (by omega),aJP t t (by omega),Option.bind_some,decide_true,and_self]
  · rw [decide_eq_false c]
    cases g:yI (jA t.fNodes) (xH t) with
    | none=>simp [pkT]
    | some u =>
      have:¬t=u:=by rintro rfl;exact c g
      simp only [pkT,if_true,aJO t u (by omega),aJP t u (by omega),Option.bind_some,decide_eq_false this,and_self]
theorem aNj (t:Tree) (o:yZ t):oD t=some true:=by
  unfold oD
  rw [aEC t o _ (by omega) (by omega)]
  simp only [Option.bind_some]
  by_cases h:(cG t:Int)≤1048576
  · rw [if_pos h,if_neg (by omega)]
    obtain ⟨e1,e2⟩:=aDw t (by omega)
    simp only [aEB t (by omega),e1,e2,Option.bind_some,aBQ t (by omega),if_true,beq_self_eq_true]
  · rw [if_neg h,if_pos (by omega)]
end Go.Ev
/- Paths of a tree end: what a tree's node hands up lies later in the order. -/
namespace Go.Ev
set_option linter.all false
def pr (s:List Link) (x y:Int):Prop:=∃ l ∈ s,l.fA=x∧l.fB=y
theorem aCs {a b:List Link} {x y:Int}:pr (a++b) x y↔pr a x y∨pr b x y:=by
  unfold pr
  constructor
  · rintro ⟨l,h,e⟩
    rcases List.mem_append.1 h with h | h
    · exact .inl ⟨l,h,e⟩
    · exact .inr ⟨l,h,e⟩
  · rintro (⟨l,h,e⟩ | ⟨l,h,e⟩)
    · exact ⟨l,List.mem_append_left _ h,e⟩
    · exact ⟨l,List.mem_append_right _ h,e⟩
theorem aEG {a:List Link} {l:Link} {x y:Int}:pr (l::a) x y↔(l.fA=x∧l.fB=y)∨pr a x y:=by
  unfold pr;simp only [List.mem_cons,exists_eq_or_imp]
theorem aI9 {x y:Int}:¬pr [] x y:=by rintro ⟨l,h,_⟩;cases h
theorem aMJ {s:List Link} {l:Link} {s':List Link} {e:Rat} (h:aEz s l=some (s',e)) (x y:Int):pr s' x y↔pr s x y∨(l.fA=x∧l.fB=y):=by
  have ins:∀ p,pr (s.take p++[l]++s.drop p) x y↔pr s x y∨(l.fA=x∧l.fB=y):=by
    intro p
    have e1:pr s x y↔pr (s.take p) x y∨pr (s.drop p) x y:=by rw [← aCs,List.take_append_drop]
    rw [e1,List.append_assoc,aCs,List.singleton_append,aEG]
    constructor
    · rintro (h | h | h)
      · exact .inl (.inl h)
      · exact .inr h
      · exact .inl (.inr h)
    · rintro ((h | h) | h)
      · exact .inl h
      · exact .inr (.inr h)
      · exact .inr (.inl h)
  unfold aEz at h
  by_cases c:eX l s < s.length
  · rw [dif_pos c] at h
    by_cases c2:fY l s[eX l s]
    · rw [if_pos c2] at h;cases h;exact ins _
    · rw [if_neg c2] at h
      have nl:=aBK l s c
      have hA:s[eX l s].fA=l.fA∧s[eX l s].fB=l.fB:=by unfold fY at c2 nl;omega
      by_cases O:aA7 s[eX l s] l
      · rw [if_pos O] at h;cases h
        have e1:pr s x y↔pr (s.take (eX l s)) x y∨((s[eX l s].fA=x∧s[eX l s].fB=y)∨pr (s.drop (eX l s+1)) x y):=by
          rw [← aEG,← List.drop_eq_getElem_cons c,← aCs,List.take_append_drop]
        rw [e1,List.append_assoc,aCs,List.singleton_append,aEG]
        have e2:(aC4 s[eX l s] l).fA=s[eX l s].fA:=rfl
        have e3:(aC4 s[eX l s] l).fB=s[eX l s].fB:=rfl
        rw [e2,e3,hA.1,hA.2]
        constructor
        · rintro (h | h | h)
          · exact .inl (.inl h)
          · exact .inr h
          · exact .inl (.inr (.inr h))
        · rintro ((h | h | h) | h)
          · exact .inl h
          · exact .inr (.inl h)
          · exact .inr (.inr h)
          · exact .inr (.inl h)
      · rw [if_neg O] at h;cases h
  · rw [dif_neg c] at h;cases h;exact ins _
theorem aIu:∀ (l s:List Link) (e:Rat) (s':List Link) (e':Rat),xE l s e=some (s',e')→∀ x y,pr s' x y↔pr s x y∨pr l x y
  | [],s,e,s',e',h,x,y=>by
    rw [xE] at h;cases h
    exact ⟨.inl,fun h=>h.elim id (fun h=>(aI9 h).elim)⟩
  | a::r,s,e,s',e',h,x,y=>by
    rw [xE] at h
    cases ha:aEz s a with
    | none=>rw [ha] at h;cases h
    | some t =>
      obtain ⟨s1,e1⟩:=t
      rw [ha] at h
      simp only [] at h
      by_cases c:bV (RA e e1)
      · rw [if_pos c] at h
        rw [aIu r s1 _ s' e' h x y,aMJ ha,aEG,or_assoc]
      · rw [if_neg c] at h;cases h
theorem aLN {l s:List Link} {e:Rat} (h:jnP l=some (s,e)) (x y:Int):pr s x y↔pr l x y:=by
  unfold jnP at h
  by_cases c:∀ x ∈ l,ValidL x
  · rw [if_pos c] at h
    rw [aIu l [] _ s e h x y]
    exact ⟨fun h=>h.elim (fun h=>(aI9 h).elim) id,.inr⟩
  · rw [if_neg c] at h;cases h
def adj (s:List Link) (x y:Int):Prop:=pr s x y∨pr s y x
def en (s:List Link) (x:Int):Prop:=∃ y,adj s x y
theorem aJ2 (t:Rat) {x y:Int}:∀ {a:List l08Arm},(a.map (·.fnode)).Pairwise (· < ·)→(pr (iS t a) x y↔x ∈ a.map (·.fnode)∧y ∈ a.map (·.fnode)∧x < y)
  | [],_=>⟨fun h=>(aI9 h).elim,fun h=>by cases h.1⟩
  | b::r,hp=>by
    rw [List.map_cons,List.pairwise_cons] at hp
    rw [iS,aCs,aJ2 t hp.2,List.map_cons]
    have e1:pr (r.map (uY t b)) x y↔x=b.fnode∧y ∈ r.map (·.fnode):=by
      constructor
      · rintro ⟨l,hl,h1,h2⟩
        obtain ⟨z,hz,rfl⟩:=List.mem_map.1 hl
        exact ⟨h1.symm,List.mem_map.2 ⟨z,hz,h2⟩⟩
      · rintro ⟨rfl,h⟩
        obtain ⟨z,hz,rfl⟩:=List.mem_map.1 h
        exact ⟨uY t b z,List.mem_map.2 ⟨z,hz,rfl⟩,rfl,rfl⟩
    rw [e1,List.mem_cons,List.mem_cons]
    constructor
    · rintro (⟨rfl,h⟩ | ⟨h1,h2,h3⟩)
      · exact ⟨.inl rfl,.inr h,hp.1 y h⟩
      · exact ⟨.inr h1,.inr h2,h3⟩
    · rintro ⟨h1,h2,h3⟩
      rcases h1 with rfl | h1
      · rcases h2 with rfl | h2
        · omega
        · exact .inl ⟨rfl,h2⟩
      · rcases h2 with rfl | h2
        · have:=hp.1 x h1;omega
        · exact .inr ⟨h1,h2,h3⟩
theorem aMu {v:Int} {s:List Link} (hs:LSet s) {c:Conditional} {m:List Link} {f:Rat} (h:aDA v s=some (c,m,f)) :
    (∀ p,p ∈ aAS c↔adj s p v)∧∀ x y,pr m x y↔(pr s x y∧x≠v∧y≠v)∨(x ∈ aAS c∧y ∈ aAS c∧x < y):=by
  unfold aDA at h
  cases h1:yV v s with
  | none=>rw [h1] at h;cases h
  | some u =>
    rw [h1] at h
    cases h2:jnP (yR v s++u.2) with
    | none=>rw [Option.bind_some,h2] at h;cases h
    | some w =>
      rw [Option.bind_some,h2] at h
      cases h
      unfold yV at h1
      split at h1
      · cases h1
        have hn:aAS (aBy v (bW v s))=(bW v s).map (·.fnode):=by unfold aAS aBy;rw [List.map_map];rfl
        have hp:∀ p,p ∈ aAS (aBy v (bW v s))↔adj s p v:=by
          intro p
          rw [hn]
          unfold bW
          rw [List.map_map]
          simp only [List.mem_map,List.mem_filter,Function.comp]
          constructor
          · rintro ⟨l,⟨hl,ht⟩,rfl⟩
            rw [aAD]
            unfold sE tch at *
            have ht:=of_decide_eq_true ht
            split
            · rename_i e;exact .inr ⟨l,hl,e,rfl⟩
            · rename_i e;exact .inl ⟨l,hl,rfl,ht.resolve_left e⟩
          · rintro (⟨l,hl,e1,e2⟩ | ⟨l,hl,e1,e2⟩)
            · have:=(hs.1 l hl).2.2.1
              refine ⟨l,⟨hl,by unfold tch;simp [e2]⟩,?_⟩
              rw [aAD];unfold sE
              rw [if_neg (by omega)];exact e1
            · refine ⟨l,⟨hl,by unfold tch;simp [e1]⟩,?_⟩
              rw [aAD];unfold sE
              rw [if_pos e1];exact e2
        refine ⟨hp,fun x y=>?_⟩
        rw [aLN (s:=w.1) (e:=w.2) h2,aCs,aJ2 _ (aG2 hs v),← hn]
        have hr:pr (yR v s) x y↔pr s x y∧x≠v∧y≠v:=by
          unfold yR pr
          simp only [List.mem_filter,tch,Bool.not_eq_true',decide_eq_false_iff_not]
          constructor
          · rintro ⟨l,⟨hl,hn⟩,rfl,rfl⟩
            exact ⟨⟨l,hl,rfl,rfl⟩,fun e=>hn (.inl e),fun e=>hn (.inr e)⟩
          · rintro ⟨⟨l,hl,rfl,rfl⟩,a,b⟩
            exact ⟨l,⟨hl,fun h=>h.elim a b⟩,rfl,rfl⟩
        rw [hr]
      · cases h1
structure PathN (o:List Int) (n:TreeNode):Prop where
  near:∀ x,en n.fMessages x→x ∈ aAS n.fCond
  clq:∀ x y,x ∈ aAS n.fCond→y ∈ aAS n.fCond→x < y→pr n.fMessages x y
  late:∀ i (h:i < o.length),o[i]=n.fNode→∀ p ∈ aAS n.fCond,p ∉ o.take (i+1)
theorem aFp {v:Int} {b:List TreeNode} {x y:Int}:pr (zB v b) x y↔∃ n ∈ b,n.fUp=v∧pr n.fMessages x y:=by
  unfold pr zB
  constructor
  · rintro ⟨l,hl,e⟩
    obtain ⟨n,hn,h⟩:=List.mem_flatMap.1 hl
    obtain ⟨h1,h2⟩:=List.mem_filter.1 hn
    exact ⟨n,h1,of_decide_eq_true h2,l,h,e⟩
  · rintro ⟨n,h1,h2,l,h,e⟩
    exact ⟨l,List.mem_flatMap.2 ⟨n,List.mem_filter.2 ⟨h1,by simp [h2]⟩,h⟩,e⟩
theorem aJf {s:List Link} {o:List Int} (hn:o.Nodup) (h1:∀ u ∈ o,1≤u) {k:Nat} (hk:k < o.length) {b:List TreeNode} (hb:∀ n ∈ b,NodeOk s o n∧PathN o n) {n:TreeNode} (h:wP o o[k] (s.filter (wO o o[k])) b=some n):PathN o n:=by
  have hv:=h1 _ (List.getElem_mem hk)
  unfold wP at h
  cases e1:jnP (s.filter (wO o o[k])++zB o[k] b) with
  | none=>rw [e1] at h;cases h
  | some u =>
    obtain ⟨j,e⟩:=u
    rw [e1,Option.bind_some] at h
    cases e2:aDA o[k] j with
    | none=>rw [e2] at h;cases h
    | some w =>
      obtain ⟨c,m,f⟩:=w
      rw [e2,Option.bind_some] at h
      split at h
      · cases h
        obtain ⟨_,hs,_⟩:=aDO e1
        obtain ⟨hp,hm⟩:=aMu hs e2
        have hj:∀ x y,pr j x y↔pr (s.filter (wO o o[k])) x y∨pr (zB o[k] b) x y:=fun x y=>by rw [aLN e1,aCs]
        have up:∀ n ∈ b,n.fUp=o[k]→hZ o (aAS n.fCond)=o[k]:=fun n hn hu=>by rw [← hu,(hb n hn).1.2.2.2.2];rfl
        have nb:∀ x,en j x→x≠o[k]→adj j x o[k]:=by
          rintro x ⟨y,hxy⟩ hx
          have own:∀ x y,pr (s.filter (wO o o[k])) x y→(x=o[k]∨y=o[k]):=by
            rintro x y ⟨l,hl,rfl,rfl⟩
            have:=(aBP (of_decide_eq_true (List.mem_filter.1 hl).2) (by omega)).1
            simp only [List.mem_cons,List.not_mem_nil,or_false] at this
            exact this.elim (fun h=>.inl h.symm) (fun h=>.inr h.symm)
          have msg:∀ x,(∃ y,adj (zB o[k] b) x y)→x≠o[k]→adj j x o[k]:=by
            rintro x ⟨y,h⟩ hx
            have:∃ n ∈ b,n.fUp=o[k]∧en n.fMessages x:=by
              rcases h with h | h
              · obtain ⟨n,a,b,c⟩:=aFp.1 h;exact ⟨n,a,b,y,.inl c⟩
              · obtain ⟨n,a,b,c⟩:=aFp.1 h;exact ⟨n,a,b,y,.inr c⟩
            obtain ⟨n,hn,hu,he⟩:=this
            have px:=(hb n hn).2.near x he
            have pv:=(aBP (up n hn hu) (by omega)).1
            rcases Int.lt_or_gt_of_ne hx with hlt | hlt
            · exact .inl ((hj _ _).2 (.inr (aFp.2 ⟨n,hn,hu,(hb n hn).2.clq _ _ px pv hlt⟩)))
            · exact .inr ((hj _ _).2 (.inr (aFp.2 ⟨n,hn,hu,(hb n hn).2.clq _ _ pv px hlt⟩)))
          rcases hxy with h | h
          · rcases (hj _ _).1 h with g | g
            · rcases own _ _ g with e | e
              · exact absurd e hx
              · rw [e] at h;exact .inl h
            · exact msg x ⟨y,.inl g⟩ hx
          · rcases (hj _ _).1 h with g | g
            · rcases own _ _ g with e | e
              · rw [e] at h;exact .inr h
              · exact absurd e hx
            · exact msg x ⟨y,.inr g⟩ hx
        refine ⟨?_,fun x y hx hy hxy=>(hm x y).2 (.inr ⟨hx,hy,hxy⟩),?_⟩
        · rintro x ⟨y,h | h⟩
          · rcases (hm x y).1 h with ⟨g,a,_⟩ | ⟨g,_⟩
            · exact (hp x).2 (nb x ⟨y,.inl g⟩ a)
            · exact g
          · rcases (hm y x).1 h with ⟨g,_,a⟩ | ⟨_,g,_⟩
            · exact (hp x).2 (nb x ⟨y,.inr g⟩ a)
            · exact g
        · intro i hi hio p hpp hpt
          have hik:i=k:=by
            have:=(List.getElem_inj hn).1 (show o[i]=o[k] from hio);exact this
          subst hik
          have ha:=(hp p).1 hpp
          have hne:p≠o[i]:=by
            rintro rfl
            rcases ha with ⟨l,hl,a,b⟩ | ⟨l,hl,a,b⟩ <;> (have:=(hs.1 l hl).2.2.1;omega)
          have hpt:p ∈ o.take i:=by
            rw [List.take_add_one,List.getElem?_eq_getElem hi] at hpt
            rcases List.mem_append.1 hpt with h | h
            · exact h
            · exact absurd (by simpa using h) hne
          have key:∀ x y,pr j x y→(x=p∨y=p)→False:=by
            intro x y h hxy
            rcases (hj x y).1 h with ⟨l,hl,rfl,rfl⟩ | h
            · have:=((aCH hi hn h1).1 (of_decide_eq_true (List.mem_filter.1 hl).2)).2 p hpt
              simp only [List.mem_cons,List.not_mem_nil,or_false,not_or] at this
              rcases hxy with e | e
              · exact this.1 e.symm
              · exact this.2 e.symm
            · obtain ⟨n,hn',hu,g⟩:=aFp.1 h
              refine ((aCH hi hn h1).1 (up n hn' hu)).2 p hpt ((hb n hn').2.near p ?_)
              rcases hxy with rfl | rfl
              · exact ⟨y,.inl g⟩
              · exact ⟨x,.inr g⟩
          rcases ha with h | h
          · exact key _ _ h (.inl rfl)
          · exact key _ _ h (.inr rfl)
      · cases h
theorem aIZ {s:List Link} {o:List Int} (hn:o.Nodup) (h1:∀ u ∈ o,1≤u):∀ m k:Nat,m+k=o.length→∀ b b':List TreeNode,(∀ n ∈ b,NodeOk s o n∧PathN o n)→xQ s o (o.drop k) b=some b'→∀ n ∈ b',NodeOk s o n∧PathN o n:=by
  intro m
  induction m with
  | zero =>
    intro k hk b b' hb h
    rw [List.drop_eq_nil_of_le (by omega),xQ] at h
    cases h;exact hb
  | succ m ih =>
    intro k hk b b' hb h
    have hlt:k < o.length:=by omega
    rw [List.drop_eq_getElem_cons hlt,xQ] at h
    cases e:wP o o[k] (s.filter (wO o o[k])) b with
    | none=>rw [e] at h;cases h
    | some n =>
      rw [e,Option.bind_some] at h
      refine ih (k+1) (by omega) (b++[n]) b' (fun x hx=>?_) h
      rcases List.mem_append.1 hx with hx | hx
      · exact hb x hx
      · rw [List.mem_singleton.1 hx];exact ⟨(aFk e).1,aJf hn h1 hlt hb e⟩
theorem aEA {t:Tree} (ht:oE t):t.fNodes.length≤9∧∀ k (hk:k < t.fNodes.length) j,atN t (t.fNodes[k]).fUp=some j→k < j∧j < t.fNodes.length:=by
  unfold oE yI at ht
  cases h:jnP (jA t.fNodes) with
  | none=>rw [h] at ht;cases ht
  | some x =>
    rw [h,Option.bind_some] at ht
    by_cases c:aAK x.1 (xH t)
    · rw [if_pos c] at ht
      obtain ⟨l9,h1⟩:=aFL c
      cases g:xQ (jA t.fNodes) (xH t) (xH t) [] with
      | none=>rw [g] at ht;cases ht
      | some b =>
        rw [g] at ht
        have hb : b = t.fNodes := by have : Tree.mk b = t := by simpa using ht
                                     rw [← this]
        subst hb
        have hp:=aIZ c.1 h1 (xH t).length 0 (by omega) [] t.fNodes (by simp) (by rw [List.drop_zero];exact g)
        have hl:(xH t).length=t.fNodes.length:=by unfold xH;rw [List.length_map]
        refine ⟨by omega,fun k hk j hj=>?_⟩
        unfold atN at hj
        rw [List.findIdx?_eq_some_iff_getElem] at hj
        obtain ⟨hjl,he,_⟩:=hj
        refine ⟨?_,hjl⟩
        have he:=of_decide_eq_true he
        obtain ⟨ok,pn⟩:=hp _ (List.getElem_mem hk)
        have hu:(t.fNodes[k]).fUp=hZ (xH t) (aAS (t.fNodes[k]).fCond):=ok.2.2.2.2
        have hoj:(xH t)[j]'(by omega)=(t.fNodes[j]).fNode:=by simp [xH]
        have hok:(xH t)[k]'(by omega)=(t.fNodes[k]).fNode:=by simp [xH]
        have hju:=h1 _ (List.getElem_mem (by omega:j < (xH t).length))
        have hm:=(aBP hu.symm (by omega)).1
        have nt:=pn.late k (by omega) hok _ hm
        apply Decidable.byContradiction
        intro hle
        apply nt
        rw [← he,← hoj]
        exact List.mem_iff_getElem.2 ⟨j,by rw [List.length_take];omega,by rw [List.getElem_take]⟩
    · rw [if_neg c] at ht;cases ht
theorem aKs {t:Tree} (ht:oE t):∀ m k:Nat,k+m=t.fNodes.length→k < t.fNodes.length→∀ acc:List Int,acc.length≤k→∃ p,lp (eH t) ((k:Int),acc)=some p∧p.length≤acc.length+m:=by
  obtain ⟨h9,hup⟩:=aEA ht
  intro m
  induction m using Nat.strongRecOn with
  | ind m ih =>
    intro k hk c acc hacc
    have endl:∀ acc:List Int,lp (eH t) (-1,acc)=some acc:=fun acc=>aM (by unfold eH;simp only [];rw [if_neg (by omega)])
    have st:eH t ((k:Int),acc)=some (.inl ((match atN t (t.fNodes[k]).fUp with | none=>-1 | some j=>(j:Int)),acc++[(t.fNodes[k]).fNode])):=by
      unfold eH
      simp only []
      rw [if_pos (by omega),aH c]
      simp only [Option.bind_some]
      rw [aR (by omega)]
      simp only [Option.bind_some,tK,aHH t _ (by omega:t.fNodes.length≤4294967296)]
      all_goals rfl
    rw [bI st]
    cases e:atN t (t.fNodes[k]).fUp with
    | none=>exact ⟨_,endl _,by rw [List.length_append,List.length_singleton];omega⟩
    | some j =>
      obtain ⟨g1,g2⟩:=hup k c j e
      obtain ⟨p,q1,q2⟩:=ih (t.fNodes.length - j) (by omega) j (by omega) g2 (acc++[(t.fNodes[k]).fNode]) (by rw [List.length_append,List.length_singleton];omega)
      exact ⟨p,q1,by rw [List.length_append,List.length_singleton] at q2;omega⟩
theorem aLr {t:Tree} (ht:oE t) (v:Int):∃ p,gC t v=some p∧qT t v=some p∧p.length≤9:=by
  have e:qT t v=gC t v:=rfl
  rw [e]
  obtain ⟨h9,hup⟩:=aEA ht
  unfold gC
  rw [aHH t v (by omega)]
  simp only [Option.bind_some]
  cases a:atN t v with
  | none =>
    have:lp (eH t) (-1,[])=some []:=aM (by unfold eH;simp only [];rw [if_neg (by omega)])
    exact ⟨[],by simp [this],by simp [this],by simp⟩
  | some k =>
    have hk:k < t.fNodes.length:=by
      unfold atN at a
      rw [List.findIdx?_eq_some_iff_getElem] at a
      exact a.1
    obtain ⟨p,q1,q2⟩:=aKs ht (t.fNodes.length - k) k (by omega) hk [] (Nat.zero_le _)
    exact ⟨p,by simp [q1],by simp [q1],by simp at q2;omega⟩
theorem aL8 (t:Tree) (v:Int) (h:cG t≤4194304):∃ p,wK t v=some p∧tQ t v=some p∧p.length≤9:=by
  obtain ⟨e1,e2⟩:=aDw t h
  unfold wK tQ
  rw [e1,e2]
  by_cases c:oE t
  · obtain ⟨p,q1,q2,q3⟩:=aLr c v
    exact ⟨p,by simp [c,q1],by simp [c,q2],q3⟩
  · exact ⟨[],by simp [c],by simp [c],by simp⟩
theorem aNi (t:Tree) (v:Int) (o:yZ t) (_o:(okI .i64) v):oC t v=some true:=by
  unfold oC
  rw [aEC t o _ (by omega) (by omega)]
  simp only [Option.bind_some]
  by_cases h:(cG t:Int)≤1048576
  · rw [if_pos h,if_neg (by omega)]
    obtain ⟨p,e1,e2,e3⟩:=aL8 t v (by omega)
    have sp:dX p=p.length:=kC p
    obtain ⟨k1,x1,m1,m2,m3⟩:=aC3 t 1 (by omega) (by omega)
    obtain ⟨k2,x2,n1,n2,n3,_⟩:=hC p 1 (by omega) (by omega)
    have c1:¬k1 < 0:=by omega
    have c2:¬k2 < 0:=by omega
    simp only [aEB t (by omega),e1,e2,Option.bind_some,aBQ t (by omega),aAx p (by omega),m1,n1,n2,c1,c2,if_true,if_false,Bool.not_true,Bool.false_eq_true,ne_eq,not_true_eq_false]
  · rw [if_neg h,if_pos (by omega)]
end Go.Ev
/- Trees in another order, and the nodes that a change affects: both programs, and the laws. -/
namespace Go.Ev
set_option linter.all false
theorem aKY (t:Tree) (o:List Int) (h:cG t≤4194304) (ho:o.length≤4194304):∃ r,mO t o=some r∧kA t o=some r∧cG r.1≤38700018:=by
  obtain ⟨e1,e2⟩:=aDw t h
  have hz:=aBL t.fNodes
  have h0:=h
  unfold cG cC at h0
  obtain ⟨l1,l2⟩:=aIo t (by omega)
  obtain ⟨b1,b2⟩:=aHS (jA t.fNodes) o (by omega) ho
  unfold mO kA
  rw [e1,e2]
  by_cases c:oE t
  · refine ⟨pkT (yI (jA t.fNodes) o),?_,?_,aG1 (by omega)⟩
    · simp [c,l1,b1]
    · simp [c,l2,b2]
  · exact ⟨(Tree.mk [],false),by simp [c],by simp [c],Nat.zero_le _⟩
theorem aK0 (t:Tree) (o:List Int) (ot:yZ t) (_oo:(okL (okI .i64)) o):iU t o=some true:=by
  unfold iU
  by_cases g:1048576 < (o.length:Int)
  · rw [if_pos g]
  rw [if_neg g,aEC t ot _ (by omega) (by omega)]
  simp only [Option.bind_some]
  by_cases h:(cG t:Int)≤1048576
  · rw [if_pos h,if_neg (by omega)]
    obtain ⟨r,e1,e2,e3⟩:=aKY t o (by omega) (by omega)
    have so:dX o=o.length:=kC o
    obtain ⟨k1,x1,m1,_,m3,m4⟩:=aC3 t 1 (by omega) (by omega)
    obtain ⟨k2,x2,n1,_,n3,_⟩:=hC o k1 (by omega) (by omega)
    obtain ⟨k3,x3,p1,p2,p3,_⟩:=aC3 r.1 1 (by omega) (by omega)
    have c2:¬k2 < 0:=by omega
    have c3:¬k3 < 0:=by omega
    simp only [aEB t (by omega),aCO o (by omega),e1,e2,Option.bind_some,aBQ t (by omega),aAx o (by omega),aBQ r.1 (by omega),m1,n1,p1,p2,c2,c3,if_true,if_false,beq_self_eq_true,Bool.not_true,Bool.false_eq_true,ne_eq,not_true_eq_false]
  · rw [if_neg h,if_pos (by omega)]
noncomputable def oW (t:Tree) (v:Int):List Int:=(gC t v).getD []
theorem aJV {t:Tree} (ht:oE t) (v:Int):gC t v=some (oW t v)∧qT t v=some (oW t v)∧(oW t v).length≤9:=by
  obtain ⟨p,e1,e2,e3⟩:=aLr ht v
  have:oW t v=p:=by unfold oW;rw [e1];rfl
  rw [this];exact ⟨e1,e2,e3⟩
theorem aLs {t:Tree} (ht:oE t) {v x:Int} (h:x ∈ oW t v):∃ n ∈ t.fNodes,n.fNode=v:=by
  have h9:=(aEA ht).1
  cases a:atN t v with
  | none =>
    have:gC t v=some []:=by
      unfold gC
      rw [aHH t v (by omega),a]
      simp only [Option.bind_some]
      rw [aM (r:=[]) (by unfold eH;simp only [];rw [if_neg (by omega)])];rfl
    unfold oW at h
    rw [this] at h;cases h
  | some k =>
    unfold atN at a
    rw [List.findIdx?_eq_some_iff_getElem] at a
    exact ⟨_,List.getElem_mem a.1,of_decide_eq_true a.2.1⟩
noncomputable def aHM (t:Tree) (s:List Int):List Int:=(xH t).filter (fun x=>decide (∃ y ∈ s,x ∈ oW t y))
theorem aDQ (t:Tree):∀ (s u:List Int),s.foldl (fun u y=>u++oW t y) u=u++s.flatMap (oW t)
  | [],u=>by simp
  | y::s,u=>by rw [List.foldl_cons,aDQ t s,List.flatMap_cons,List.append_assoc]
theorem aCG (t:Tree) (s:List Int):∀ (l:List TreeNode) (u:List Int),l.foldl (fun u n=>if n.fNode ∈ s then u++oW t n.fNode else u) u=u++(l.filter (fun n=>decide (n.fNode ∈ s))).flatMap (fun n=>oW t n.fNode)
  | [],u=>by simp
  | n::l,u=>by
    rw [List.foldl_cons,aCG t s l,List.filter_cons]
    by_cases c:n.fNode ∈ s <;> simp [c]
theorem aIz (d:List Int):∀ (l:List TreeNode) (u:List Int),l.foldl (fun u n=>if n.fNode ∈ d then u++[n.fNode] else u) u=u++(l.map (·.fNode)).filter (fun x=>decide (x ∈ d))
  | [],u=>by simp
  | n::l,u=>by
    rw [List.foldl_cons,aIz d l,List.map_cons,List.filter_cons]
    by_cases c:n.fNode ∈ d <;> simp [c]
theorem aL2 {t:Tree} {s d:List Int} (h:∀ x,x ∈ d↔∃ y ∈ s,x ∈ oW t y):(xH t).filter (fun x=>decide (x ∈ d))=aHM t s:=by
  unfold aHM
  refine List.filter_congr fun x _=>?_
  rw [Bool.eq_iff_iff,decide_eq_true_iff,decide_eq_true_iff];exact h x
theorem aNO {t:Tree} (ht:oE t) (s:List Int) (hs:s.length≤4194304):mH t s=some (aHM t s)∧pH t s=some (aHM t s)∧(aHM t s).length≤9:=by
  have h9:=(aEA ht).1
  have hl:(aHM t s).length≤9:=by
    have:=List.length_filter_le (fun x=>decide (∃ y ∈ s,x ∈ oW t y)) (xH t)
    have e:(xH t).length=t.fNodes.length:=by unfold xH;rw [List.length_map]
    unfold aHM;omega
  have second:∀ (step:(Int × (List Int))→Option ((Int × (List Int)) ⊕ (List Int))) (d:List Int),(∀ k (hk:k < t.fNodes.length) (u:List Int),u.length≤k→step ((k:Int),u)=some (.inl (((k+1:Nat):Int),if (t.fNodes[k]).fNode ∈ d then u++[(t.fNodes[k]).fNode] else u)))→(∀ u,step ((t.fNodes.length:Int),u)=some (.inr u))→(∀ x,x ∈ d↔∃ y ∈ s,x ∈ oW t y)→lp step (0,[])=some (aHM t s):=by
    intro step d h1 h2 h3
    have:=(kI (step:=step) t.fNodes (fun k u=>((k:Int),u)) (fun u n=>if n.fNode ∈ d then u++[n.fNode] else u) (fun u=>u) (fun k u=>u.length≤k) (fun k u hk hi=>by
      refine ⟨h1 k hk u hi,?_⟩
      split
      · rw [List.length_append,List.length_singleton];omega
      · omega) (fun u _=>h2 u) [] (Nat.zero_le _)).1
    rw [show ((0:Nat):Int)=0 from rfl,aIz,List.nil_append] at this
    rw [this]
    exact congrArg some (aL2 h3)
  refine ⟨?_,?_,hl⟩
  · have f1:=(kI (step:=jF t s) s (fun k u=>((k:Int),u)) (fun u y=>u++oW t y) (fun u=>u) (fun k u=>u.length≤9*k) (fun k u hk hi=>by
      obtain ⟨q1,_,q3⟩:=aJV ht s[k]
      constructor
      · unfold jF
        simp only []
        rw [if_pos (by omega),aH hk]
        simp only [Option.bind_some,q1,wi1 (by omega:k≤4294967296)]
        rw [aR (by omega)];rfl
      · rw [List.length_append];omega) (fun u _=>by unfold jF;simp only [];rw [if_neg (by omega)]) [] (Nat.zero_le _))
    have f2:=f1.2
    have f1:=f1.1
    rw [show ((0:Nat):Int)=0 from rfl,aDQ,List.nil_append] at f1
    rw [aDQ,List.nil_append] at f2
    unfold mH
    rw [f1]
    simp only [Option.bind_some]
    rw [second (jE t (s.flatMap (oW t))) (s.flatMap (oW t)) (fun k hk u hu=>by
      unfold jE
      simp only []
      rw [if_pos (by omega),aH hk]
      simp only [Option.bind_some,aBm _ _ (by omega:(s.flatMap (oW t)).length≤4294967296),wi1 (by omega:k≤4294967296)]
      by_cases c:(t.fNodes[k]).fNode ∈ s.flatMap (oW t)
      · rw [decide_eq_true c,if_pos rfl,if_pos c,aR (by omega)];rfl
      · rw [decide_eq_false c,if_neg c];rfl) (fun u=>by unfold jE;simp only [];rw [if_neg (by omega)]) (fun x=>List.mem_flatMap)]
    rfl
  · have f1:=(kI (step:=kT t s) t.fNodes (fun k u=>((k:Int),u)) (fun u n=>if n.fNode ∈ s then u++oW t n.fNode else u) (fun u=>u) (fun k u=>u.length≤9*k) (fun k u hk hi=>by
      obtain ⟨_,q2,q3⟩:=aJV ht (t.fNodes[k]).fNode
      constructor
      · unfold kT
        simp only []
        rw [if_pos (by omega),aH hk]
        simp only [Option.bind_some,aBs s _ (by omega),q2,wi1 (by omega:k≤4294967296)]
        by_cases c:(t.fNodes[k]).fNode ∈ s
        · rw [decide_eq_true c,if_pos rfl,if_pos c,aR (by omega)];rfl
        · rw [decide_eq_false c,if_neg c];rfl
      · split
        · rw [List.length_append];omega
        · omega) (fun u _=>by unfold kT;simp only [];rw [if_neg (by omega)]) [] (Nat.zero_le _))
    have f2:=f1.2
    have f1:=f1.1
    rw [show ((0:Nat):Int)=0 from rfl,aCG,List.nil_append] at f1
    rw [aCG,List.nil_append] at f2
    unfold pH
    rw [f1]
    simp only [Option.bind_some]
    rw [second (kS t ((t.fNodes.filter (fun n=>decide (n.fNode ∈ s))).flatMap (fun n=>oW t n.fNode))) ((t.fNodes.filter (fun n=>decide (n.fNode ∈ s))).flatMap (fun n=>oW t n.fNode)) (fun k hk u hu=>by
      unfold kS
      simp only []
      rw [if_pos (by omega),aH hk]
      simp only [Option.bind_some,aBs ((t.fNodes.filter (fun n=>decide (n.fNode ∈ s))).flatMap (fun n=>oW t n.fNode)) _ (by omega),wi1 (by omega:k≤4294967296)]
      by_cases c:(t.fNodes[k]).fNode ∈ (t.fNodes.filter (fun n=>decide (n.fNode ∈ s))).flatMap (fun n=>oW t n.fNode)
      · rw [decide_eq_true c,if_pos rfl,if_pos c,aR (by omega)];rfl
      · rw [decide_eq_false c,if_neg c];rfl) (fun u=>by unfold kS;simp only [];rw [if_neg (by omega)]) (fun x=>by
      rw [List.mem_flatMap]
      constructor
      · rintro ⟨n,hn,hx⟩
        exact ⟨n.fNode,of_decide_eq_true (List.mem_filter.1 hn).2,hx⟩
      · rintro ⟨y,hy,hx⟩
        obtain ⟨n,hn,e⟩:=aLs ht hx
        subst e
        exact ⟨n,List.mem_filter.2 ⟨hn,by simp [hy]⟩,hx⟩)]
    rfl
theorem aHT (t:Tree) (s:List Int) (h:cG t≤4194304) (hs:s.length≤4194304):∃ r,oV t s=some r∧kY t s=some r∧r.length≤9:=by
  obtain ⟨e1,e2⟩:=aDw t h
  unfold oV kY
  rw [e1,e2]
  by_cases c:oE t
  · obtain ⟨q1,q2,q3⟩:=aNO c s hs
    exact ⟨aHM t s,by simp [c,q1],by simp [c,q2],q3⟩
  · exact ⟨[],by simp [c],by simp [c],by simp⟩
theorem aLI (t:Tree) (s:List Int) (ot:yZ t) (_os:(okL (okI .i64)) s):jP t s=some true:=by
  unfold jP
  by_cases g:1048576 < (s.length:Int)
  · rw [if_pos g]
  rw [if_neg g,aEC t ot _ (by omega) (by omega)]
  simp only [Option.bind_some]
  by_cases h:(cG t:Int)≤1048576
  · rw [if_pos h,if_neg (by omega)]
    obtain ⟨r,e1,e2,e3⟩:=aHT t s (by omega) (by omega)
    have so:dX s=s.length:=kC s
    have sr:dX r=r.length:=kC r
    obtain ⟨k1,x1,m1,_,m3,m4⟩:=aC3 t 1 (by omega) (by omega)
    obtain ⟨k2,x2,n1,_,n3,_⟩:=hC s k1 (by omega) (by omega)
    obtain ⟨k3,x3,p1,p2,p3,_⟩:=hC r 1 (by omega) (by omega)
    have c2:¬k2 < 0:=by omega
    have c3:¬k3 < 0:=by omega
    simp only [aEB t (by omega),aCO s (by omega),e1,e2,Option.bind_some,aBQ t (by omega),aAx s (by omega),aAx r (by omega),m1,n1,p1,p2,c2,c3,if_true,if_false,Bool.not_true,Bool.false_eq_true,ne_eq,not_true_eq_false]
  · rw [if_neg h,if_pos (by omega)]
end Go.Ev
/- The law of building a tree; inserting a link, both programs, and the law. -/
namespace Go.Ev
set_option linter.all false
theorem aMj (s:List Link) (o:List Int) (os:(okL aA6) s) (_oo:(okL (okI .i64)) o):kU s o=some true:=by
  unfold kU
  by_cases g:1048576 < (o.length:Int)
  · rw [if_pos g]
  rw [if_neg g,aEW s os _ (by omega) (by omega)]
  simp only [Option.bind_some]
  by_cases h:(aK s:Int)≤1048576
  · rw [if_pos h,if_neg (by omega)]
    obtain ⟨e1,e2⟩:=aHS s o (by omega) (by omega)
    have e3:=aG1 (s:=s) (o:=o) (by omega)
    have so:dX o=o.length:=kC o
    obtain ⟨k1,x1,m1,_,m3,m4,_⟩:=aFq s 1 (by omega) (by omega)
    obtain ⟨k2,x2,n1,_,n3,_⟩:=hC o k1 (by omega) (by omega)
    obtain ⟨k3,x3,p1,p2,p3,_⟩:=aC3 (pkT (yI s o)).1 1 (by omega) (by omega)
    have c2:¬k2 < 0:=by omega
    have c3:¬k3 < 0:=by omega
    simp only [aER s (by omega),aCO o (by omega),e1,e2,Option.bind_some,aFT s (by omega),aAx o (by omega),aBQ (pkT (yI s o)).1 (by omega),m1,n1,p1,p2,c2,c3,if_true,if_false,beq_self_eq_true,Bool.not_true,Bool.false_eq_true,ne_eq,not_true_eq_false]
  · rw [if_neg h,if_pos (by omega)]
end Go.Ev
