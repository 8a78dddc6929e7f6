/- Parts PR5, PR6, PR7, PR8, PR9, P21, PS1, PS2, PS3, PT1, P22b, PT2, PT3, PT4. -/
import Derived.Test.YthjpgecdkmiadaaGreatPb2
import Derived.Test.YthjpgecdkmiadaaGreatPb1
import Derived.Test.YthjpgecdkmiadaaGreatPa1
set_option linter.all false
/- Eliminating a node of a link set, both programs. -/
namespace Go.Ev
open IntKind
set_option linter.all false
noncomputable def tJ (a:List l08Arm):Rat:=a.foldl (fun t a=>RA t a.fweight) (xP 0)
noncomputable def fX (t:Rat) (a:l08Arm):Parent:=⟨a.fnode,RD a.fweight t,a.fdx,a.fdy⟩
noncomputable def wZ (t:Rat) (a b:l08Arm):Link:=⟨a.fnode,b.fnode,RD (RM a.fweight b.fweight) t,RS a.fdx b.fdx,RS a.fdy b.fdy⟩
noncomputable def jH (t:Rat):List l08Arm→List Link
  | []=>[]
  | a::r=>r.map (wZ t a)++jH t r
noncomputable def aDD (v:Int) (a:List l08Arm):Conditional:=⟨v,tJ a,a.map (fX (tJ a))⟩
def yY (v:Int) (a:List l08Arm):Prop:=bW (aDD v a)=some true
noncomputable instance (v:Int) (a:List l08Arm):Decidable (yY v a):=Classical.propDecidable _
noncomputable def yL (v:Int) (s:List Link):Option (Conditional × List Link) :=
  if (1≤v∧v≤9)∧yY v (bV v s)∧(∀ x ∈ jH (tJ (bV v s)) (bV v s),ValidL x) then some (aDD v (bV v s),jH (tJ (bV v s)) (bV v s)) else none
theorem aJV {v:Int} {s:List Link} (h:(1≤v∧v≤9)∧yY v (bV v s)∧(∀ x ∈ jH (tJ (bV v s)) (bV v s),ValidL x)):yL v s=some (aDD v (bV v s),jH (tJ (bV v s)) (bV v s)):=by unfold yL;rw [if_pos h]
theorem aBv {v:Int} {s:List Link} (h:¬((1≤v∧v≤9)∧yY v (bV v s)∧(∀ x ∈ jH (tJ (bV v s)) (bV v s),ValidL x))):yL v s=none:=by unfold yL;rw [if_neg h]
def aEp:Conditional:=Conditional.mk 0 (Rat.mk (BigInt.mk false ([])) ([])) ([])
def pkE:Option (Conditional × List Link)→Conditional × List Link × Bool
  | some (c,m)=>(c,m,true)
  | none=>(aEp,[],false)
theorem aH1:∀ (a:List l08Arm) (t:Rat),(∀ x ∈ a,wQ x)→VZ t→VZ (a.foldl (fun t a=>RA t a.fweight) t)
  | [],t,_,h=>h
  | x::a,t,ho,h=>aH1 a _ (fun y hy=>ho y (by simp [hy])) (aCj h (ho x (by simp)).2.1).2.2
theorem zW {a:List l08Arm} (h:∀ x ∈ a,wQ x):VZ (tJ a):=aH1 a _ h (.inl aBr)
theorem aCf {α β:Type} (g:α→β):∀ (l:List α) (t:List β),l.foldl (fun t b=>t++[g b]) t=t++l.map g
  | [],t=>by simp
  | x::l,t=>by rw [List.foldl_cons,aCf g l,List.map_cons,List.append_assoc];rfl
theorem aHM {t:Rat} {a b:l08Arm} (ht:VZ t) (ha:wQ a) (hb:wQ b):bG (wZ t a b)≤144:=by
  have h1:=qK (aF7 (aFJ ha.2.1 hb.2.1).2.2 ht).2.2
  have h2:=qK (aIm ha.2.2.1 hb.2.2.1).2.2
  have h3:=qK (aIm ha.2.2.2 hb.2.2.2).2.2
  unfold bG wZ;simp only [];omega
theorem aJJ {t:Rat} (ht:VZ t):∀ {a:List l08Arm},(∀ x ∈ a,wQ x)→∀ x ∈ jH t a,bG x≤144
  | [],_,x,hx=>by cases hx
  | a::r,h,x,hx=>by
    rw [jH] at hx
    rcases List.mem_append.1 hx with hx | hx
    · obtain ⟨b,hb,rfl⟩:=List.mem_map.1 hx
      exact aHM ht (h a (by simp)) (h b (by simp [hb]))
    · exact aJJ ht (fun y hy=>h y (by simp [hy])) x hx
theorem aEZ (t:Rat):∀ {a:List l08Arm} {n:Nat},a.length≤n→(jH t a).length≤n*a.length
  | [],n,_=>by simp [jH]
  | a::r,n,h=>by
    rw [List.length_cons] at h
    have:=aEZ t (a:=r) (n:=n) (by omega)
    rw [jH,List.length_append,List.length_map,List.length_cons,Nat.mul_add,Nat.mul_one];omega
theorem aLi (t:Rat):∀ {a:List l08Arm} {x:Link},x ∈ jH t a→∃ y ∈ a,x.fA=y.fnode
  | [],x,hx=>by cases hx
  | a::r,x,hx=>by
    rw [jH] at hx
    rcases List.mem_append.1 hx with hx | hx
    · obtain ⟨b,hb,rfl⟩:=List.mem_map.1 hx
      exact ⟨a,by simp,rfl⟩
    · obtain ⟨y,hy,e⟩:=aLi t hx
      exact ⟨y,by simp [hy],e⟩
theorem aHO (t:Rat):∀ {a:List l08Arm},(a.map (·.fnode)).Pairwise (· < ·)→(jH t a).Pairwise gF
  | [],_=>List.Pairwise.nil
  | a::r,h=>by
    rw [List.map_cons,List.pairwise_cons] at h
    rw [jH,List.pairwise_append]
    refine ⟨?_,aHO t h.2,fun x hx y hy=>?_⟩
    · rw [List.pairwise_map]
      have:=h.2
      rw [List.pairwise_map] at this
      exact this.imp (fun {b c} hbc=>.inr ⟨rfl,hbc⟩)
    · obtain ⟨b,hb,rfl⟩:=List.mem_map.1 hx
      obtain ⟨z,hz,e⟩:=aLi t hy
      exact .inl (by rw [e];exact h.1 _ (List.mem_map.2 ⟨z,hz,rfl⟩))
theorem aGm {t:Rat} {a:List l08Arm} (h:(a.map (·.fnode)).Pairwise (· < ·)):LSet (jH t a)↔∀ x ∈ jH t a,ValidL x:=⟨fun g=>g.1,fun g=>⟨g,aHO t h⟩⟩
theorem aKt {a:List l08Arm} (ha:∀ x ∈ a,wQ x) (hl:a.length≤100):lp (eW a) (0,xP 0)=some (tJ a):=by
  have:=(iV (step:=eW a) a (fun k t=>((k:Int),t)) (fun t a=>RA t a.fweight) (fun t=>t) (fun _ t=>VZ t) (fun k t hk hi=>by
    have w1:i64.wrap ((k:Int)+1)=((k+1:Nat):Int):=by rw [wi (by omega)];omega
    obtain ⟨q1,_,q3⟩:=aCj hi (ha _ (List.getElem_mem hk)).2.1
    refine ⟨?_,q3⟩
    unfold eW
    simp only []
    rw [if_pos (by omega),aH hk]
    simp only [Option.bind_some,q1,w1]) (fun t _=>by unfold eW;simp only [];rw [if_neg (by omega)]) (xP 0) (.inl aBr)).1
  rw [show ((0:Nat):Int)=0 from rfl] at this
  exact this
theorem aKv {a:List l08Arm} {t:Rat} (ht:VZ t) (ha:∀ x ∈ a,wQ x) (hl:a.length≤100):lp (eV a t) (0,[])=some (a.map (fX t)):=by
  have:=zI (step:=eV a t) (a.map (fX t)) (fun k t=>((k:Int),t)) (fun t=>t) (fun k u hk hu=>by
    have hk2:k < a.length:=by rwa [List.length_map] at hk
    have w1:i64.wrap ((k:Int)+1)=((k+1:Nat):Int):=by rw [wi (by omega)];omega
    have ho:=ha _ (List.getElem_mem hk2)
    have q:=(aF7 ho.2.1 ht).1
    unfold eV
    simp only []
    rw [if_pos (by omega),aH hk2]
    simp only [Option.bind_some,q,pJ _ (VZs ho.2.2.1),pJ _ (VZs ho.2.2.2),w1]
    rw [aQ (by omega)]
    simp only [Option.bind_some,vD,List.getElem_map]
    rfl) (fun u hu=>by unfold eV;simp only [];rw [List.length_map,if_neg (by omega)])
  rw [show ((0:Nat):Int)=0 from rfl] at this
  exact this
theorem aKu {r:List l08Arm} {x:l08Arm} {t:Rat} (ht:VZ t) (hx:wQ x) (hr:∀ y ∈ r,wQ y) (hl:r.length≤100) (acc:List Link) (hacc:acc.length≤1000000) :
    lp (eU r x t) (0,acc)=some (acc++r.map (wZ t x)):=by
  have:=(iV (step:=eU r x t) r (fun k u=>((k:Int),u)) (fun u b=>u++[wZ t x b]) (fun u=>u) (fun k u=>u.length≤1000000+k) (fun k u hk hi=>by
    have w1:i64.wrap ((k:Int)+1)=((k+1:Nat):Int):=by rw [wi (by omega)];omega
    have ho:=hr _ (List.getElem_mem hk)
    have q0:=aFJ hx.2.1 ho.2.1
    have q1:=(aF7 q0.2.2 ht).1
    have q2:=(aIm hx.2.2.1 ho.2.2.1).1
    have q3:=(aIm hx.2.2.2 ho.2.2.2).1
    refine ⟨?_,by rw [List.length_append,List.length_singleton];omega⟩
    unfold eU
    simp only []
    rw [if_pos (by omega),aH hk]
    simp only [Option.bind_some,q0.1,q1,q2,q3,w1]
    rw [aQ (by omega)]
    rfl) (fun u _=>by unfold eU;simp only [];rw [if_neg (by omega)]) acc (by omega)).1
  rw [show ((0:Nat):Int)=0 from rfl,aCf] at this
  exact this
theorem aKL {α:Type} (l:List α) (k:Nat) (hk:k+1≤l.length) (hl:l.length≤4294967296):sub l (i64.wrap ((k:Int)+1)) (l.length:Int)=some (l.drop (k+1)):=by
  have w1:i64.wrap ((k:Int)+1)=((k+1:Nat):Int):=by rw [wi (by omega)];omega
  rw [w1,vK _ _ _ (by omega)];congr 1
  rw [List.take_of_length_le];rfl
  rw [List.length_drop];omega
theorem aI4 {a:List l08Arm} {t:Rat} (ht:VZ t) (ha:∀ x ∈ a,wQ x) (hl:a.length≤100):lp (dQ a t) (0,[])=some (jH t a):=by
  have main:∀ m k:Nat,m+k=a.length→∀ acc:List Link,acc.length≤100*k→lp (dQ a t) ((k:Int),acc)=some (acc++jH t (a.drop k)):=by
    intro m
    induction m with
    | zero =>
      intro k hk acc hacc
      rw [List.drop_eq_nil_of_le (by omega),jH,List.append_nil]
      exact aN (by unfold dQ;simp only [];rw [if_neg (by omega)])
    | succ m ih =>
      intro k hk acc hacc
      have hlt:k < a.length:=by omega
      have w1:i64.wrap ((k:Int)+1)=((k+1:Nat):Int):=by rw [wi (by omega)];omega
      rw [List.drop_eq_getElem_cons hlt,jH]
      have row:=aKu (r:=a.drop (k+1)) ht (ha _ (List.getElem_mem hlt)) (fun y hy=>ha y (List.mem_of_mem_drop hy)) (by rw [List.length_drop];omega) acc (by omega)
      have st:dQ a t ((k:Int),acc)=some (.inl (((k+1:Nat):Int),acc++(a.drop (k+1)).map (wZ t a[k]))):=by
        unfold dQ
        simp only []
        rw [if_pos (by omega),aH hlt,aKL a k (by omega) (by omega)]
        simp only [Option.bind_some,row,w1]
      rw [bF st,ih (k+1) (by omega) _ (by rw [List.length_append,List.length_map,List.length_drop];omega),List.append_assoc]
  have:=main a.length 0 (by omega) [] (by simp)
  rw [show ((0:Nat):Int)=0 from rfl,List.drop_zero,List.nil_append] at this
  exact this
theorem aJX {v:Int} {a:List l08Arm} (ha:∀ x ∈ a,wQ x) (hl:a.length≤100):aK (aDD v a)≤4294967296:=by
  have h1:=qK (zW ha)
  have h2:cP (a.map (fX (tJ a)))≤145*(a.map (fX (tJ a))).length:=aCX (c:=144) (fun p hp=>by
    obtain ⟨x,hx,rfl⟩:=List.mem_map.1 hp
    have ho:=ha x hx
    have g1:=qK (aF7 ho.2.1 (zW ha)).2.2
    have g2:=qK ho.2.2.1
    have g3:=qK ho.2.2.2
    unfold bS fX;simp only [];omega)
  rw [List.length_map] at h2
  unfold aK aDD;simp only [];omega
theorem aMm {s:List Link} (hs:LSet s) (v:Int):jV s v=some (pkE (yL v s)):=by
  have ha:=aFF hs v
  have hl:=aBz hs v
  have ht:=zW ha
  obtain ⟨b,b1,b2,_⟩:=aHk _ (aJX (v:=v) ha hl)
  have inc:=aKB hs v
  unfold jV
  rw [lL s (by have:=hs.sz;omega),decide_eq_true hs,aCN]
  simp only [Option.bind_some,if_true]
  by_cases c:1≤v∧v≤9
  · rw [decide_eq_true c]
    simp only [Bool.not_true,Bool.false_eq_true,if_false]
    rw [aM9 hs v,kU 0 (by omega)]
    simp only [Option.bind_some]
    rw [aKt ha hl]
    simp only [Option.bind_some]
    rw [aKv ht ha hl]
    simp only [Option.bind_some]
    rw [aI4 ht ha hl]
    simp only [Option.bind_some]
    have e:(Conditional.mk v (tJ (bV v s)) ((bV v s).map (fX (tJ (bV v s)))))=aDD v (bV v s):=rfl
    rw [e,b1]
    simp only [Option.bind_some]
    have hms:=aCX (aJJ ht ha)
    have hml:=aEZ (tJ (bV v s)) (a:=bV v s) (Nat.le_refl _)
    have hm2:(bV v s).length*(bV v s).length≤100*100:=Nat.mul_le_mul hl hl
    rw [lL _ (by unfold aL;omega)]
    cases b with
    | false =>
      have:¬yY v (bV v s):=by unfold yY;rw [b1];simp
      rw [aBv (fun h=>this h.2.1)];rfl
    | true =>
      have hc:yY v (bV v s):=b1
      simp only [if_true,Option.bind_some]
      by_cases d:∀ x ∈ jH (tJ (bV v s)) (bV v s),ValidL x
      · rw [decide_eq_true ((aGm inc).2 d),aJV ⟨c,hc,d⟩];rfl
      · rw [decide_eq_false (fun h=>d ((aGm inc).1 h)),aBv (fun h=>d h.2.2)];rfl
  · rw [decide_eq_false c]
    rw [aBv (fun h=>c h.1)];rfl
def xR (a:l08Arm):Parent:=⟨a.fnode,oV,a.fdx,a.fdy⟩
theorem aJg (v:Int) (s:List Link) (k:Nat) (hk:k < s.length):bV v (s.take (k+1))=bV v (s.take k)++(if tch v s[k] then [aBi v s[k]] else []):=by
  have tk:s.take (k+1)=s.take k++[s[k]]:=by rw [List.take_add_one,List.getElem?_eq_getElem hk];rfl
  unfold bV
  rw [tk,List.filter_append,List.map_append]
  congr 1
  by_cases c:tch v s[k] <;> simp [c]
theorem aI6 {s:List Link} (hs:LSet s) (v:Int):lp (dU s v) (0,xP 0,[],[])=some (tJ (bV v s),(bV v s).map (·.fweight),(bV v s).map xR):=by
  have hlen:=hs.len
  have hpre:∀ k,∀ a ∈ bV v (s.take k),wQ a:=fun k a ha=>by
    obtain ⟨l,hl,rfl⟩:=List.mem_map.1 ha
    exact aIg (hs.1 l (List.mem_of_mem_take (List.mem_filter.1 hl).1))
  have hpl:∀ k,(bV v (s.take k)).length≤100:=fun k=>by
    have:=List.length_filter_le (tch v) (s.take k)
    have h2:(s.take k).length≤s.length:=by rw [List.length_take];omega
    unfold bV;rw [List.length_map];omega
  have main:∀ m k:Nat,m+k=s.length→lp (dU s v) ((k:Int),tJ (bV v (s.take k)),(bV v (s.take k)).map (·.fweight),(bV v (s.take k)).map xR)=some (tJ (bV v s),(bV v s).map (·.fweight),(bV v s).map xR):=by
    intro m
    induction m with
    | zero =>
      intro k hk
      rw [List.take_of_length_le (by omega)]
      exact aN (by unfold dU;simp only [];rw [if_neg (by omega)])
    | succ m ih =>
      intro k hk
      have hlt:k < s.length:=by omega
      have w1:i64.wrap ((k:Int)+1)=((k+1:Nat):Int):=by rw [wi (by omega)];omega
      have hv:=hs.1 _ (List.getElem_mem hlt)
      obtain ⟨v1,v2,v3⟩:=hv.vz
      have n1:=(aLK v2).2.1
      have n2:=(aLK v3).2.1
      have ra:=(aCj (zW (hpre k)) v1).2.1
      have hp:=hpl k
      have st:dU s v ((k:Int),tJ (bV v (s.take k)),(bV v (s.take k)).map (·.fweight),(bV v (s.take k)).map xR)=some (.inl (((k+1:Nat):Int),tJ (bV v (s.take (k+1))),(bV v (s.take (k+1))).map (·.fweight),(bV v (s.take (k+1))).map xR)):=by
        rw [aJg v s k hlt]
        unfold dU
        simp only []
        rw [if_pos (by omega),aH hlt]
        simp only [Option.bind_some,n1,n2,ra,w1]
        have k1:∀ {α:Type} {f:l08Arm→α},((bV v (s.take k)).map f).length≤100:=by intro α f;rw [List.length_map];exact hp
        by_cases A:(s[k]).fA=v
        · rw [if_pos A,aQ (by have:=k1 (f:=xR);omega)]
          simp only [Option.bind_some,vD]
          rw [aQ (by have:=k1 (f:=fun a=>a.fweight);omega)]
          simp [tch,A,aBi,tJ,xR,oV,ra]
        · by_cases B:(s[k]).fB=v
          · rw [if_neg A,if_pos B,aQ (by have:=k1 (f:=xR);omega)]
            simp only [Option.bind_some,vD]
            rw [aQ (by have:=k1 (f:=fun a=>a.fweight);omega)]
            simp [tch,A,B,aBi,tJ,xR,oV,ra]
          · simp [tch,A,B]
      rw [bF st]
      exact ih (k+1) (by omega)
  have:=main s.length 0 (by omega)
  simpa [bV,tJ] using this
theorem aKx {a:List l08Arm} {t:Rat} (ht:VZ t) (ha:∀ x ∈ a,wQ x) (hl:a.length≤100):lp (dS (t,a.map (·.fweight),a.map xR)) (0,a.map xR)=some (a.map (fX t)):=by
  have main:∀ m k:Nat,m+k=a.length→lp (dS (t,a.map (·.fweight),a.map xR)) ((k:Int),(a.take k).map (fX t)++(a.drop k).map xR)=some (a.map (fX t)):=by
    intro m
    induction m with
    | zero =>
      intro k hk
      refine aN ?_
      unfold dS
      simp only [List.length_map]
      rw [if_neg (by omega),List.drop_eq_nil_of_le (by omega),List.take_of_length_le (by omega)]
      simp
    | succ m ih =>
      intro k hk
      have hlt:k < a.length:=by omega
      have w1:i64.wrap ((k:Int)+1)=((k+1:Nat):Int):=by rw [wi (by omega)];omega
      have ho:=ha _ (List.getElem_mem hlt)
      have q:=(aF7 ho.2.1 ht).2.1
      have tl:((a.take k).map (fX t)).length=k:=by rw [List.length_map,List.length_take];omega
      have e1:idx (a.map (fun x=>x.fweight)) (k:Int)=some (a[k]).fweight:=by rw [aH (by rwa [List.length_map]),List.getElem_map]
      have e2:idx ((a.take k).map (fX t)++(a.drop k).map xR) (k:Int)=some (xR a[k]):=by
        rw [aCO,List.getElem?_append_right (by omega),tl,Nat.sub_self,List.drop_eq_getElem_cons hlt];rfl
      have e3:eZ ((a.take k).map (fX t)++(a.drop k).map xR) (k:Int) (fX t a[k])=(a.take (k+1)).map (fX t)++(a.drop (k+1)).map xR:=by
        rw [gI,List.set_append_right _ _ (by omega),tl,Nat.sub_self,List.drop_eq_getElem_cons hlt,List.map_cons,List.set_cons_zero,List.take_add_one,List.getElem?_eq_getElem hlt,List.map_append,List.append_assoc]
        rfl
      have st:dS (t,a.map (·.fweight),a.map xR) ((k:Int),(a.take k).map (fX t)++(a.drop k).map xR)=some (.inl (((k+1:Nat):Int),(a.take (k+1)).map (fX t)++(a.drop (k+1)).map xR)):=by
        unfold dS
        simp only [List.length_map]
        rw [if_pos (by omega),e1]
        simp only [Option.bind_some,q,e2,vD,w1]
        have:(Parent.mk (xR a[k]).fNode (RD (a[k]).fweight t) (xR a[k]).fDX (xR a[k]).fDY)=fX t a[k]:=rfl
        rw [this,e3]
      rw [bF st]
      exact ih (k+1) (by omega)
  have:=main a.length 0 (by omega)
  simpa using this
def aEH (t:Rat) (x:l08Arm) (r:List l08Arm):Prop:=∀ y ∈ r,ValidL (wZ t x y)
noncomputable instance (t:Rat) (x:l08Arm) (r:List l08Arm):Decidable (aEH t x r):=Classical.propDecidable _
theorem aKw {a:List l08Arm} {t:Rat} (ht:VZ t) (ha:∀ x ∈ a,wQ x) (hl:a.length≤100) (q0:List Parent) (i:Nat) (hi:i < a.length):∀ m j:Nat,m+j=a.length→∀ acc:List Link,acc.length≤1000000+j →
    lp (eX (a.map (fX t)) (t,a.map (·.fweight),q0) (i:Int) (fX t a[i])) ((j:Int),acc)=some (if aEH t a[i] (a.drop j) then .inl (acc++(a.drop j).map (wZ t a[i])) else .inr (aEp,[],false)):=by
  intro m
  induction m with
  | zero =>
    intro j hj acc hacc
    rw [List.drop_eq_nil_of_le (by omega),if_pos (by intro y hy;cases hy),List.map_nil,List.append_nil]
    exact aN (by unfold eX;simp only [List.length_map];rw [if_neg (by omega)])
  | succ m ih =>
    intro j hj acc hacc
    have hlt:j < a.length:=by omega
    have w1:i64.wrap ((j:Int)+1)=((j+1:Nat):Int):=by rw [wi (by omega)];omega
    have hx:=ha _ (List.getElem_mem hi)
    have ho:=ha _ (List.getElem_mem hlt)
    have p0:=aFJ hx.2.1 ho.2.1
    have p1:=(aF7 p0.2.2 ht).2.1
    have p2:=(aIm hx.2.2.1 ho.2.2.1).2.1
    have p3:=(aIm hx.2.2.2 ho.2.2.2).2.1
    have vl:=(hF (wZ t a[i] a[j]) (by have:=aHM ht hx ho;omega)).2
    have e0:idx (a.map (fX t)) (j:Int)=some (fX t a[j]):=by rw [aH (by rwa [List.length_map]),List.getElem_map]
    have e1:idx (a.map (fun x=>x.fweight)) (i:Int)=some (a[i]).fweight:=by rw [aH (by rwa [List.length_map]),List.getElem_map]
    have e2:idx (a.map (fun x=>x.fweight)) (j:Int)=some (a[j]).fweight:=by rw [aH (by rwa [List.length_map]),List.getElem_map]
    have st:eX (a.map (fX t)) (t,a.map (·.fweight),q0) (i:Int) (fX t a[i]) ((j:Int),acc)=some (if ValidL (wZ t a[i] a[j]) then .inl (((j+1:Nat):Int),acc++[wZ t a[i] a[j]]) else .inr (.inr (aEp,[],false))):=by
      unfold eX
      simp only [List.length_map]
      rw [if_pos (by omega),e0,e1,e2]
      simp only [Option.bind_some,p0.2.1,p1,w1]
      have f1:(fX t a[i]).fDX=(a[i]).fdx:=rfl
      have f2:(fX t a[i]).fDY=(a[i]).fdy:=rfl
      have f3:(fX t a[j]).fDX=(a[j]).fdx:=rfl
      have f4:(fX t a[j]).fDY=(a[j]).fdy:=rfl
      rw [f1,f2,f3,f4,p2]
      simp only [Option.bind_some]
      rw [p3]
      simp only [Option.bind_some]
      have f5:(Link.mk (fX t a[i]).fNode (fX t a[j]).fNode (RD (RM (a[i]).fweight (a[j]).fweight) t) (RS (a[i]).fdx (a[j]).fdx) (RS (a[i]).fdy (a[j]).fdy))=wZ t a[i] a[j]:=rfl
      rw [f5,vl]
      simp only [Option.bind_some]
      by_cases c:ValidL (wZ t a[i] a[j])
      · rw [decide_eq_true c,if_pos rfl,if_pos c,aQ (by omega)];rfl
      · rw [decide_eq_false c,if_neg c];rfl
    rw [List.drop_eq_getElem_cons hlt]
    by_cases c:ValidL (wZ t a[i] a[j])
    · rw [if_pos c] at st
      rw [bF st,ih (j+1) (by omega) _ (by rw [List.length_append,List.length_singleton];omega)]
      have:aEH t a[i] (a[j]::a.drop (j+1))↔aEH t a[i] (a.drop (j+1)):=⟨fun h x hx'=>h x (List.mem_cons_of_mem _ hx'),fun h x hx'=>by rcases List.mem_cons.1 hx' with rfl | h';exact c;exact h x h'⟩
      simp only [this,List.map_cons,List.append_assoc,List.singleton_append]
    · rw [if_neg c] at st
      rw [aN st,if_neg (fun h=>c (h _ List.mem_cons_self))]
theorem aI5 {a:List l08Arm} {t:Rat} (ht:VZ t) (ha:∀ x ∈ a,wQ x) (hl:a.length≤100) (q0:List Parent):lp (dR (a.map (fX t)) (t,a.map (·.fweight),q0)) (0,[])=some (if ∀ x ∈ jH t a,ValidL x then .inl (jH t a) else .inr (aEp,[],false)):=by
  have main:∀ m k:Nat,m+k=a.length→∀ acc:List Link,acc.length≤100*k→lp (dR (a.map (fX t)) (t,a.map (·.fweight),q0)) ((k:Int),acc)=some (if ∀ x ∈ jH t (a.drop k),ValidL x then .inl (acc++jH t (a.drop k)) else .inr (aEp,[],false)):=by
    intro m
    induction m with
    | zero =>
      intro k hk acc hacc
      rw [List.drop_eq_nil_of_le (by omega),if_pos (by simp [jH]),jH,List.append_nil]
      exact aN (by unfold dR;simp only [List.length_map];rw [if_neg (by omega)])
    | succ m ih =>
      intro k hk acc hacc
      have hlt:k < a.length:=by omega
      have w1:i64.wrap ((k:Int)+1)=((k+1:Nat):Int):=by rw [wi (by omega)];omega
      have e0:idx (a.map (fX t)) (k:Int)=some (fX t a[k]):=by rw [aH (by rwa [List.length_map]),List.getElem_map]
      have row:=aKw ht ha hl q0 k hlt (a.length - (k+1)) (k+1) (by omega) acc (by omega)
      rw [List.drop_eq_getElem_cons hlt,jH]
      have st:dR (a.map (fX t)) (t,a.map (·.fweight),q0) ((k:Int),acc)=some (if aEH t a[k] (a.drop (k+1)) then .inl (((k+1:Nat):Int),acc++(a.drop (k+1)).map (wZ t (a[k]'hlt))) else .inr (.inr (aEp,[],false))):=by
        unfold dR
        simp only [List.length_map]
        rw [if_pos (by omega),e0]
        simp only [Option.bind_some,w1,row]
        by_cases c:aEH t a[k] (a.drop (k+1))
        · rw [if_pos c,if_pos c]
        · rw [if_neg c,if_neg c]
      by_cases c:aEH t a[k] (a.drop (k+1))
      · rw [if_pos c] at st
        rw [bF st,ih (k+1) (by omega) _ (by rw [List.length_append,List.length_map,List.length_drop];omega)]
        have:(∀ x ∈ (a.drop (k+1)).map (wZ t a[k])++jH t (a.drop (k+1)),ValidL x)↔∀ x ∈ jH t (a.drop (k+1)),ValidL x:=⟨fun h x hx=>h x (List.mem_append_right _ hx),fun h x hx=>by
          rcases List.mem_append.1 hx with hx | hx
          · obtain ⟨y,hy,rfl⟩:=List.mem_map.1 hx;exact c y hy
          · exact h x hx⟩
        simp only [this,List.append_assoc]
      · rw [if_neg c] at st
        rw [aN st,if_neg]
        intro h
        exact c fun y hy=>h _ (List.mem_append_left _ (List.mem_map.2 ⟨y,hy,rfl⟩))
  have:=main a.length 0 (by omega) [] (by simp)
  rw [show ((0:Nat):Int)=0 from rfl,List.drop_zero,List.nil_append] at this
  exact this
theorem aMn {s:List Link} (hs:LSet s) (v:Int):kH s v=some (pkE (yL v s)):=by
  have ha:=aFF hs v
  have hl:=aBz hs v
  have ht:=zW ha
  obtain ⟨b,b1,b2,_⟩:=aHk _ (aJX (v:=v) ha hl)
  unfold kH
  have e0:((if v < 1 then some true else some (decide (10≤v))):Option Bool)=some (!decide (1≤v∧v≤9)):=by
    by_cases A:v < 1
    · have:¬1≤v:=by omega
      simp [A,this]
    · by_cases B:10≤v
      · have:¬v≤9:=by omega
        simp [A,B,this]
      · have h1:1≤v:=by omega
        have h2:v≤9:=by omega
        simp [A,B,h1,h2]
  rw [e0]
  simp only [Option.bind_some]
  by_cases c:1≤v∧v≤9
  · rw [decide_eq_true c]
    simp only [Bool.not_true,Bool.false_eq_true,if_false]
    rw [lJ 0 (by omega)]
    simp only [Option.bind_some]
    rw [aI6 hs v]
    simp only [Option.bind_some]
    rw [aKx ht ha hl]
    simp only [Option.bind_some]
    have e:(Conditional.mk v (tJ (bV v s)) ((bV v s).map (fX (tJ (bV v s)))))=aDD v (bV v s):=rfl
    rw [e,b2]
    simp only [Option.bind_some]
    cases b with
    | false =>
      have:¬yY v (bV v s):=by unfold yY;rw [b1];simp
      rw [aBv (fun h=>this h.2.1)];rfl
    | true =>
      have hc:yY v (bV v s):=b1
      simp only [if_true]
      rw [aI5 ht ha hl]
      by_cases d:∀ x ∈ jH (tJ (bV v s)) (bV v s),ValidL x
      · rw [if_pos d,aJV ⟨c,hc,d⟩];rfl
      · rw [if_neg d,aBv (fun h=>d h.2.2)];rfl
  · rw [decide_eq_false c]
    rw [aBv (fun h=>c h.1)];rfl
end Go.Ev
/- Reducing a node of a link set and a node of a tree, both programs. -/
namespace Go.Ev
set_option linter.all false
theorem wi1 {k:Nat} (h:k≤4294967296):IntKind.i64.wrap ((k:Int)+1)=((k+1:Nat):Int):=by rw [wi (by omega)];omega
def aAw (v:Int) (s:List Link):List Link:=s.filter (fun l=>!tch v l)
theorem xL {α:Type} (p:α→Bool):∀ (l t:List α),l.foldl (fun t x=>if p x=true then t++[x] else t) t=t++l.filter p
  | [],t=>by simp
  | x::l,t=>by
    rw [List.foldl_cons,xL p l,List.filter_cons]
    by_cases c:p x=true
    · simp only [c,if_true,List.append_assoc,List.singleton_append]
    · simp only [Bool.not_eq_true] at c;simp [c]
theorem aMF (v:Int) (l:Link):((if l.fA≠v then some (decide (l.fB≠v)) else some false):Option Bool)=some (!tch v l):=by
  unfold tch;by_cases A:l.fA=v <;> by_cases B:l.fB=v <;> simp [A,B]
theorem aJ1 {s:List Link} (h:s.length≤4294967296) (v:Int):mN s v=some (aAw v s):=by
  have:=(iV (step:=jA s v) s (fun k t=>((k:Int),t)) (fun t x=>if (fun l=>!tch v l) x=true then t++[x] else t) (fun t=>t) (fun k t=>t.length≤k) (fun k t hk hi=>by
    constructor
    · unfold jA
      simp only []
      rw [if_pos (by omega),aH hk]
      simp only [Option.bind_some,aMF,wi1 (by omega:k≤4294967296)]
      by_cases c:tch v s[k]=true
      · rw [if_neg (by simp [c]),if_neg (by simp [c])]
      · rw [if_pos (by simpa using c),if_pos (by simpa using c),aQ (by omega)];rfl
    · simp only [];split
      · rw [List.length_append,List.length_singleton];omega
      · omega) (fun t _=>by unfold jA;simp only [];rw [if_neg (by omega)]) [] (Nat.zero_le _)).1
  rw [show ((0:Nat):Int)=0 from rfl,xL,List.nil_append] at this
  unfold mN
  rw [this];rfl
theorem aKD {s:List Link} (hs:LSet s) (v:Int):mD s v=some (aAw v s):=by
  have hl:=hs.len
  have:=(iV (step:=iT s v) s (fun k t=>((k:Int),t)) (fun t x=>if (fun l=>!tch v l) x=true then t++[x] else t) (fun t=>t) (fun k t=>t.length≤k) (fun k t hk hi=>by
    constructor
    · unfold iT
      simp only []
      rw [if_pos (by omega),aH hk]
      have cp:=tO s[k] (by have:=(hs.1 _ (List.getElem_mem hk)).sz;omega)
      simp only [Option.bind_some,aMF,wi1 (by omega:k≤4294967296),cp]
      by_cases c:tch v s[k]=true
      · rw [if_neg (by simp [c]),if_neg (by simp [c])]
      · rw [if_pos (by simpa using c),if_pos (by simpa using c),aQ (by omega)];rfl
    · simp only [];split
      · rw [List.length_append,List.length_singleton];omega
      · omega) (fun t _=>by unfold iT;simp only [];rw [if_neg (by omega)]) [] (Nat.zero_le _)).1
  rw [show ((0:Nat):Int)=0 from rfl,xL,List.nil_append] at this
  unfold mD
  rw [lL s (by have:=hs.sz;omega),decide_eq_true hs]
  simp only [Option.bind_some,if_true,this]
  rfl
noncomputable def aDJ (v:Int) (s:List Link):Option (Conditional × List Link × Rat) :=
  (yL v s).bind fun x=>(jnP (aAw v s++x.2)).map fun y=>(x.1,y.1,y.2)
def pkR:Option (Conditional × List Link × Rat)→Conditional × List Link × Rat × Bool
  | some (c,m,e)=>(c,m,e,true)
  | none=>(aEp,[],oV,false)
theorem aH6 {v:Int} {s:List Link} (hs:LSet s) {c:Conditional} {m:List Link} (h:yL v s=some (c,m)):(∀ x ∈ m,ValidL x)∧m.length≤10000∧aK c≤20000∧(1≤v∧v≤9):=by
  unfold yL at h
  split at h
  · rename_i g
    cases h
    have ha:=aFF hs v
    have hl:=aBz hs v
    have h1:=aEZ (tJ (bV v s)) (a:=bV v s) (Nat.le_refl _)
    have h2:(bV v s).length*(bV v s).length≤100*100:=Nat.mul_le_mul hl hl
    have g1:=qK (zW ha)
    have g2:cP ((bV v s).map (fX (tJ (bV v s))))≤145*((bV v s).map (fX (tJ (bV v s)))).length:=aCX (c:=144) (fun p hp=>by
      obtain ⟨x,hx,rfl⟩:=List.mem_map.1 hp
      have ho:=ha x hx
      have g1:=qK (aF7 ho.2.1 (zW ha)).2.2
      have g2:=qK ho.2.2.1
      have g3:=qK ho.2.2.2
      unfold bS fX;simp only [];omega)
    rw [List.length_map] at g2
    refine ⟨g.2.2,by omega,?_,g.1⟩
    unfold aK aDD;simp only [];omega
  · cases h
theorem aKS {v:Int} {s:List Link} (hs:LSet s):(∀ x ∈ aAw v s,ValidL x)∧(aAw v s).length≤100:=by
  have:=List.length_filter_le (fun l=>!tch v l) s
  have:=hs.len
  exact ⟨fun x hx=>hs.1 x (List.mem_filter.1 hx).1,by unfold aAw;omega⟩
theorem aEL {s:List Link} (hs:LSet s) (v:Int):nX s v=some (pkR (aDJ v s))∧oJ s v=some (pkR (aDJ v s)):=by
  unfold nX oJ aDJ
  rw [aMm hs,aMn hs]
  cases h:yL v s with
  | none=>exact ⟨rfl,rfl⟩
  | some x =>
    obtain ⟨c,m⟩:=x
    obtain ⟨m1,m2,m3,_⟩:=aH6 hs h
    obtain ⟨r1,r2⟩:=aKS (v:=v) hs
    have hall:∀ x ∈ aAw v s++m,ValidL x:=fun x hx=>(List.mem_append.1 hx).elim (r1 x) (m1 x)
    have hlen:(aAw v s++m).length≤20000:=by rw [List.length_append];omega
    have hsz:=aCW hall
    have j1:=(aBn (aAw v s++m) (by omega)).1
    have j2:=aA9 hall (by omega)
    simp only [pkE,Option.bind_some,if_true]
    rw [aKD hs,aJ1 (by have:=hs.len;omega)]
    simp only [Option.bind_some]
    rw [aQ (by omega)]
    simp only [Option.bind_some,vD,j1,j2]
    cases jnP (aAw v s++m) with
    | none=>exact ⟨rfl,rfl⟩
    | some y=>exact ⟨rfl,rfl⟩
theorem aGZ {v:Int} {s:List Link} (hs:LSet s) {c:Conditional} {m:List Link} {e:Rat} (h:aDJ v s=some (c,m,e)):aK c≤20000∧LSet m∧bT e∧c.fNode=v:=by
  unfold aDJ at h
  cases h1:yL v s with
  | none=>rw [h1] at h;cases h
  | some x =>
    rw [h1] at h
    cases h2:jnP (aAw v s++x.2) with
    | none=>rw [Option.bind_some,h2] at h;cases h
    | some y =>
      rw [Option.bind_some,h2] at h
      cases h
      have:=aFi (s:=y.1) (e:=y.2) h2
      refine ⟨(aH6 hs (c:=x.1) (m:=x.2) h1).2.2.1,this.2.1,this.2.2,?_⟩
      unfold yL at h1
      split at h1
      · cases h1;rfl
      · cases h1
end Go.Ev
/- A node of a tree, both programs. -/
namespace Go.Ev
open IntKind
set_option linter.all false
def jD (l s:List Int):Int:=(l.find? (fun u=>decide (u ∈ s))).getD 0
theorem aJT (l s:List Int) (hl:l.length≤4294967296) (hs:s.length≤4294967296):oO l s=some (jD l s):=by
  have main:∀ m k:Nat,m+k=l.length→lp (gK l s) (k:Int)=some (match (l.drop k).find? (fun u=>decide (u ∈ s)) with | some x=>.inr x | none=>.inl ()):=by
    intro m
    induction m with
    | zero =>
      intro k hk
      have:k=l.length:=by omega
      subst this
      rw [aN (r:=.inl ()) (by unfold gK;rw [if_neg (by omega)]),List.drop_length];rfl
    | succ m ih =>
      intro k hk
      have hlt:k < l.length:=by omega
      rw [List.drop_eq_getElem_cons hlt,List.find?_cons]
      by_cases c:l[k] ∈ s
      · rw [aN (r:=.inr l[k]) (by unfold gK;rw [if_pos (by omega),aH hlt];simp [zK s _ hs,c])];simp [c]
      · have e:gK l s (k:Int)=some (.inl ((k+1:Nat):Int)):=by
          unfold gK;rw [if_pos (by omega),aH hlt];simp only [Option.bind_some,zK s _ hs,wi1 (by omega:k≤4294967296)];simp [c]
        rw [bF e,ih (k+1) (by omega)]
        simp only [c,decide_false]
  have:=main l.length 0 (by omega)
  rw [show ((0:Nat):Int)=0 from rfl,List.drop_zero] at this
  unfold oO jD
  rw [this]
  cases l.find? (fun u=>decide (u ∈ s)) <;> rfl
def aDK (c:Conditional):List Int:=c.fParents.map (·.fNode)
def upP (order:List Int) (c:Conditional):Int:=jD order (aDK c)
theorem aFq {α:Type} {p q:α→Bool}:∀ {l:List α},(∀ x ∈ l,p x=q x)→l.find? p=l.find? q
  | [],_=>rfl
  | x::l,h=>by rw [List.find?_cons,List.find?_cons,h x (by simp),aFq (fun y hy=>h y (by simp [hy]))]
theorem aN3 {order:List Int} {c:Conditional} (ho:∀ u ∈ order,1≤u) (hl:order.length≤4294967296) (hc:c.fParents.length≤4294967296):xN order c=some (upP order c):=by
  have:=(iV (step:=rE c) c.fParents (fun k t=>((k:Int),t)) (fun t x=>if (fun p:Parent=>decide (0 < p.fNode)) x=true then t++[x.fNode] else t) (fun t=>t) (fun k t=>t.length≤k) (fun k t hk hi=>by
    constructor
    · unfold rE
      simp only []
      rw [if_pos (by omega),aH hk]
      simp only [Option.bind_some,wi1 (by omega:k≤4294967296)]
      by_cases c0:0 < (c.fParents[k]).fNode
      · rw [if_pos c0,if_pos (by simpa using c0),aQ (by omega)];rfl
      · rw [if_neg c0,if_neg (by simpa using c0)]
    · simp only [];split
      · rw [List.length_append,List.length_singleton];omega
      · omega) (fun t _=>by unfold rE;simp only [];rw [if_neg (by omega)]) [] (Nat.zero_le _)).1
  rw [show ((0:Nat):Int)=0 from rfl] at this
  have e:∀ (l:List Parent) (t:List Int),l.foldl (fun t x=>if (fun p:Parent=>decide (0 < p.fNode)) x=true then t++[x.fNode] else t) t=t++(l.filter (fun p=>decide (0 < p.fNode))).map (·.fNode):=by
    intro l
    induction l with
    | nil=>intro t;simp
    | cons x l ih =>
      intro t
      rw [List.foldl_cons,ih,List.filter_cons]
      by_cases c0:0 < x.fNode <;> simp [c0]
  rw [e,List.nil_append] at this
  unfold xN
  rw [this]
  simp only [Option.bind_some]
  have hf:=List.length_filter_le (fun p:Parent=>decide (0 < p.fNode)) c.fParents
  rw [aJT _ _ hl (by rw [List.length_map];omega)]
  simp only [Option.bind_some]
  congr 1
  unfold upP jD
  congr 1
  refine aFq fun u hu=>?_
  have:=ho u hu
  rw [Bool.eq_iff_iff,decide_eq_true_iff,decide_eq_true_iff]
  unfold aDK
  simp only [List.mem_map,List.mem_filter,decide_eq_true_eq]
  constructor
  · rintro ⟨p,⟨h1,_⟩,rfl⟩;exact ⟨p,h1,rfl⟩
  · rintro ⟨p,h1,rfl⟩;exact ⟨p,⟨h1,by omega⟩,rfl⟩
theorem aDz (c:Conditional) (v:Int) (h:c.fParents.length≤4294967296):qF c v=some (decide (v ∈ aDK c)):=by
  have main:∀ m k:Nat,m+k=c.fParents.length→lp (gB c v) (k:Int)=some (if v ∈ (c.fParents.drop k).map (·.fNode) then .inr true else .inl ()):=by
    intro m
    induction m with
    | zero =>
      intro k hk
      have:k=c.fParents.length:=by omega
      subst this
      rw [aN (r:=.inl ()) (by unfold gB;rw [if_neg (by omega)]),List.drop_length];simp
    | succ m ih =>
      intro k hk
      have hlt:k < c.fParents.length:=by omega
      rw [List.drop_eq_getElem_cons hlt,List.map_cons]
      by_cases d:(c.fParents[k]).fNode=v
      · rw [aN (r:=.inr true) (by unfold gB;rw [if_pos (by omega),aH hlt];simp [d]),if_pos (by simp [d])]
      · have e:gB c v (k:Int)=some (.inl ((k+1:Nat):Int)):=by
          unfold gB;rw [if_pos (by omega),aH hlt];simp only [Option.bind_some,wi1 (by omega:k≤4294967296)];rw [if_neg d]
        rw [bF e,ih (k+1) (by omega)]
        have:(v ∈ (c.fParents[k]).fNode::(c.fParents.drop (k+1)).map (·.fNode))↔v ∈ (c.fParents.drop (k+1)).map (·.fNode):=by
          rw [List.mem_cons];exact ⟨fun h=>h.resolve_left (fun e=>d e.symm),.inr⟩
        simp only [this]
  have:=main c.fParents.length 0 (by omega)
  rw [show ((0:Nat):Int)=0 from rfl,List.drop_zero] at this
  unfold qF aDK
  rw [this]
  by_cases d:v ∈ c.fParents.map (·.fNode)
  · rw [if_pos d,decide_eq_true d];rfl
  · rw [if_neg d,decide_eq_false d];rfl
theorem aNv (order:List Int) (v:Int) (own:List Link) (r:Conditional × List Link × Rat × Bool) (e:Rat) (hl:order.length≤4294967296) (hc:r.1.fParents.length≤4294967296):lp (eS order v own r e) 0=some (TreeNode.mk v (upP order r.1) own r.1 r.2.1 e):=by
  have main:∀ m k:Nat,m+k=order.length→lp (eS order v own r e) (k:Int)=some (TreeNode.mk v (jD (order.drop k) (aDK r.1)) own r.1 r.2.1 e):=by
    intro m
    induction m with
    | zero =>
      intro k hk
      have:k=order.length:=by omega
      subst this
      rw [aN (by unfold eS;rw [if_neg (by omega)]),List.drop_length];rfl
    | succ m ih =>
      intro k hk
      have hlt:k < order.length:=by omega
      rw [List.drop_eq_getElem_cons hlt]
      unfold jD
      rw [List.find?_cons]
      by_cases d:order[k] ∈ aDK r.1
      · rw [aN (r:=TreeNode.mk v order[k] own r.1 r.2.1 e) (by unfold eS;rw [if_pos (by omega),aH hlt];simp only [Option.bind_some,aDz _ _ hc,decide_eq_true d,if_true])]
        simp [d]
      · have e:eS order v own r e (k:Int)=some (.inl ((k+1:Nat):Int)):=by
          unfold eS;rw [if_pos (by omega),aH hlt];simp only [Option.bind_some,aDz _ _ hc,wi1 (by omega:k≤4294967296),decide_eq_false d,Bool.false_eq_true,if_false]
        rw [bF e,ih (k+1) (by omega)]
        simp only [d,decide_false]
        rfl
  have:=main order.length 0 (by omega)
  rw [show ((0:Nat):Int)=0 from rfl,List.drop_zero] at this
  exact this
def aAR (v:Int) (b:List TreeNode):List Link:=(b.filter (fun n=>decide (n.fUp=v))).flatMap (·.fMessages)
theorem aHL (v:Int):∀ (b:List TreeNode) (t:List Link),b.foldl (fun t n=>if n.fUp=v then t++n.fMessages else t) t=t++aAR v b
  | [],t=>by simp [aAR]
  | n::b,t=>by
    rw [List.foldl_cons,aHL v b]
    unfold aAR
    rw [List.filter_cons]
    by_cases c:n.fUp=v <;> simp [c]
theorem aJG {v:Int}:∀ {b:List TreeNode},(∀ n ∈ b,LSet n.fMessages)→(aAR v b).length≤100*b.length
  | [],_=>by simp [aAR]
  | n::b,h=>by
    have:=aJG (v:=v) (b:=b) (fun m hm=>h m (by simp [hm]))
    have h1:=(h n (by simp)).len
    unfold aAR at this ⊢
    rw [List.filter_cons,List.length_cons]
    split
    · rw [List.flatMap_cons,List.length_append];omega
    · omega
theorem aKe {v:Int} {b:List TreeNode} (h:∀ n ∈ b,LSet n.fMessages):∀ x ∈ aAR v b,ValidL x:=by
  intro x hx
  unfold aAR at hx
  obtain ⟨n,hn,hx⟩:=List.mem_flatMap.1 hx
  exact (h n (List.mem_filter.1 hn).1).1 x hx
theorem aMI {step:(Int × List Link)→Option ((Int × List Link) ⊕ List Link)} (v:Int) (b:List TreeNode) (own:List Link) (ho:own.length≤4294967296) (hb:b.length≤4194304) (h:∀ n ∈ b,LSet n.fMessages)
    (hstep:step=fun s=>match s with | (v6,v7)=>(if (v6 < (b.length:Int)) then (idx b v6).bind fun y8=>(if (y8.fUp=v) then (chk ((v7.length+y8.fMessages.length)*184≤140737488355328)).bind fun _u=>(aT (v7++y8.fMessages)).bind fun v10=>some (.inl (i64.wrap (v6+1),v10)) else some (.inl (i64.wrap (v6+1),v7))) else some (.inr v7))):lp step (0,own)=some (own++aAR v b):=by
  subst hstep
  have:=(iV (step:=fun s=>match s with | (v6,v7)=>(if (v6 < (b.length:Int)) then (idx b v6).bind fun y8=>(if (y8.fUp=v) then (chk ((v7.length+y8.fMessages.length)*184≤140737488355328)).bind fun _u=>(aT (v7++y8.fMessages)).bind fun v10=>some (.inl (i64.wrap (v6+1),v10)) else some (.inl (i64.wrap (v6+1),v7))) else some (.inr v7))) b (fun k t=>((k:Int),t)) (fun t n=>if n.fUp=v then t++n.fMessages else t) (fun t=>t) (fun k t=>t.length≤4294967296+100*k) (fun k t hk hi=>by
    have hm:=(h _ (List.getElem_mem hk)).len
    constructor
    · simp only []
      rw [if_pos (by omega),aH hk]
      simp only [Option.bind_some,wi1 (by omega:k≤4294967296)]
      by_cases c:(b[k]).fUp=v
      · rw [if_pos c,if_pos c,aQ (by omega)];rfl
      · rw [if_neg c,if_neg c]
    · split
      · rw [List.length_append];omega
      · omega) (fun t _=>by simp only [];rw [if_neg (by omega)]) own (by omega)).1
  rw [show ((0:Nat):Int)=0 from rfl,aHL] at this
  exact this
def aNu:TreeNode:=TreeNode.mk 0 0 ([]) (Conditional.mk 0 (Rat.mk (BigInt.mk false ([])) ([])) ([])) ([]) (Rat.mk (BigInt.mk false ([])) ([]))
noncomputable def uP (order:List Int) (v:Int) (own:List Link) (b:List TreeNode):Option TreeNode :=
  (jnP (own++aAR v b)).bind fun x=>(aDJ v x.1).bind fun y=>if bT (RA x.2 y.2.2) then some ⟨v,upP order y.1,own,y.1,y.2.1,RA x.2 y.2.2⟩ else none
def pkN:Option TreeNode→TreeNode × Bool
  | some n=>(n,true)
  | none=>(aNu,false)
theorem aJC {c:Conditional} (h:aK c≤20000):c.fParents.length≤20000:=by
  have:c.fParents.length≤cP c.fParents:=cY _ _
  unfold aK at h;omega
theorem aL2 (a b:List Link):aL (a++b)=aL a+aL b:=by unfold aL szL;simp
theorem aLb {order:List Int} {v:Int} {own:List Link} {b:List TreeNode} (hl:order.length≤4194304) (ho:∀ u ∈ order,1≤u) (hz:aL own≤4194304) (hb:b.length≤100) (hm:∀ n ∈ b,LSet n.fMessages) (hv:∀ x ∈ own,ValidL x) :
    tL v own order b=some (pkN (uP order v own b))∧qG ⟨b⟩ order v own=some (pkN (uP order v own b)):=by
  have hol:own.length≤4194304:=Nat.le_trans (cY _ _) hz
  have q1:=aMI (step:=wR v b) v b own (by omega) (by omega) hm rfl
  have q2:=aMI (step:=uE ⟨b⟩ v) v b own (by omega) (by omega) hm rfl
  have hmv:=aKe (v:=v) hm
  have hml:=aJG (v:=v) hm
  have hall:∀ x ∈ own++aAR v b,ValidL x:=fun x hx=>(List.mem_append.1 hx).elim (hv x) (hmv x)
  have hms:=aCW hmv
  have hsz:aL (own++aAR v b)≤4294967296:=by rw [aL2];omega
  have hln:(own++aAR v b).length≤4294967296:=by rw [List.length_append];omega
  have j1:=(aBn (own++aAR v b) hsz).1
  have j2:=aA9 hall hln
  unfold tL qG uP
  rw [yO own (by omega)]
  simp only [Option.bind_some,List.nil_append,List.length_nil]
  rw [aQ (by omega),q1]
  simp only [Option.bind_some,vD]
  rw [q2,j1]
  simp only [Option.bind_some,j2]
  cases h:jnP (own++aAR v b) with
  | none =>
    simp only [pk,Option.bind_none,pkN]
    refine ⟨?_,rfl⟩
    rw [(aEL aBm v).1]
    have e0:aR (pkR (aDJ v [])).2.2.1≤4294967296:=by
      cases h2:aDJ v [] with
      | none=>exact VZs aBH
      | some y=>exact VZs (.inl (aGZ aBm (c:=y.1) (m:=y.2.1) (e:=y.2.2) h2).2.2.1)
    simp only [Option.bind_some]
    rw [(aN7 (VZs aBH) e0).1]
    rfl
  | some x =>
    obtain ⟨s,e⟩:=x
    obtain ⟨_,hs,he⟩:=aFi h
    simp only [pk,Option.bind_some,if_true]
    rw [(aEL hs v).1,(aEL hs v).2]
    simp only [Option.bind_some]
    cases h2:aDJ v s with
    | none =>
      simp only [pkR,Option.bind_none,pkN]
      rw [(aCj (.inl he) aBH).1,(aCj (.inl he) aBH).2.1]
      exact ⟨rfl,rfl⟩
    | some y =>
      obtain ⟨c,m,f⟩:=y
      obtain ⟨k1,k2,k3,_⟩:=aGZ hs h2
      have ra:=aCj (.inl he) (.inl k3)
      have hp:=aJC k1
      simp only [pkR,Option.bind_some,ra.1,ra.2.1,if_true]
      rw [fF _ (VZs ra.2.2),iN ra.2.2,aN3 ho (by omega) (by omega),aNv order v own (c,m,f,true) (RA e f) (by omega) (by show c.fParents.length≤_;omega)]
      simp only [Option.bind_some]
      by_cases g:bT (RA e f)
      · rw [decide_eq_true g,if_pos g];exact ⟨rfl,rfl⟩
      · rw [decide_eq_false g,if_neg g];exact ⟨rfl,rfl⟩
theorem aEU {order:List Int} {v:Int} {own:List Link} {b:List TreeNode} {n:TreeNode} (h:uP order v own b=some n):LSet n.fMessages∧n.fOwn=own∧aK n.fCond≤20000∧bT n.fEnergy∧n.fNode=v∧n.fUp=upP order n.fCond:=by
  unfold uP at h
  cases h1:jnP (own++aAR v b) with
  | none=>rw [h1] at h;cases h
  | some x =>
    rw [h1,Option.bind_some] at h
    cases h2:aDJ v x.1 with
    | none=>rw [h2] at h;cases h
    | some y =>
      rw [h2,Option.bind_some] at h
      obtain ⟨_,hs,he⟩:=aFi (s:=x.1) (e:=x.2) h1
      obtain ⟨k1,k2,k3,_⟩:=aGZ hs (c:=y.1) (m:=y.2.1) (e:=y.2.2) h2
      split at h
      · rename_i g;cases h;exact ⟨k2,rfl,k1,g,rfl,rfl⟩
      · cases h
end Go.Ev
/- The nodes of a link set, orders of elimination, whose a link is, both programs. -/
namespace Go.Ev
set_option linter.all false
def aFS:List Int:=(List.range 9).map (fun k:Nat=>(k:Int)+1)
theorem aLd {x:Int}:x ∈ aFS↔1≤x∧x≤9:=by
  unfold aFS
  simp only [List.mem_map,List.mem_range]
  constructor
  · rintro ⟨k,h,rfl⟩;omega
  · intro h;exact ⟨(x - 1).toNat,by omega,by omega⟩
theorem aEV:aFS.length=9:=by decide
theorem aLe (k:Nat) (h:k < aFS.length):aFS[k]=(k:Int)+1:=by simp [aFS]
def nG (s:List Link):List Int:=aFS.filter (fun v=>s.any (tch v))
theorem aET (s:List Link):(nG s).Pairwise (· < ·):=by
  have:aFS.Pairwise (· < ·):=by decide
  exact this.sublist List.filter_sublist
theorem aB4 (s:List Link):(nG s).length≤9:=by
  have:=List.length_filter_le (fun v=>s.any (tch v)) aFS
  rw [aEV] at this;exact this
theorem aES {s:List Link} {x:Int}:x ∈ nG s↔(1≤x∧x≤9)∧∃ l ∈ s,l.fA=x∨l.fB=x:=by
  unfold nG
  rw [List.mem_filter,aLd,List.any_eq_true]
  simp only [tch,decide_eq_true_eq]
def aFQ (t:List Int) (l:Link):List Int:=xC (if 0 < l.fA then xC t l.fA else t) l.fB
theorem aHG {t:List Int} (l:Link) (h:t.Pairwise (· < ·)):(aFQ t l).Pairwise (· < ·):=by
  unfold aFQ;split
  · exact tA _ _ (tA _ _ h)
  · exact tA _ _ h
theorem aK2 {t:List Int} {l:Link} {x:Int}:x ∈ aFQ t l↔x=l.fB∨(x=l.fA∧0 < x)∨x ∈ t:=by
  unfold aFQ;split
  · rw [xQ,xQ]
    constructor
    · rintro (h | h | h)
      · exact .inl h
      · exact .inr (.inl ⟨h,by omega⟩)
      · exact .inr (.inr h)
    · rintro (h | ⟨h,_⟩ | h)
      · exact .inl h
      · exact .inr (.inl h)
      · exact .inr (.inr h)
  · rw [xQ]
    constructor
    · rintro (h | h)
      · exact .inl h
      · exact .inr (.inr h)
    · rintro (h | ⟨h,_⟩ | h)
      · exact .inl h
      · omega
      · exact .inr h
theorem aK3 (t:List Int) (l:Link):(aFQ t l).length≤t.length+2:=by
  unfold aFQ;split
  · have:=tU (xC t l.fA) l.fB;have:=tU t l.fA;omega
  · have:=tU t l.fB;omega
theorem aGu:∀ (s:List Link) (t:List Int) (x:Int),x ∈ s.foldl aFQ t↔x ∈ t∨∃ l ∈ s,x=l.fB∨(x=l.fA∧0 < x)
  | [],t,x=>by simp
  | l::s,t,x=>by
    rw [List.foldl_cons,aGu s,aK2]
    simp only [List.mem_cons,exists_eq_or_imp]
    constructor
    · rintro ((h | h | h) | h)
      · exact .inr (.inl (.inl h))
      · exact .inr (.inl (.inr h))
      · exact .inl h
      · exact .inr (.inr h)
    · rintro (h | (h | h) | h)
      · exact .inl (.inr (.inr h))
      · exact .inl (.inl h)
      · exact .inl (.inr (.inl h))
      · exact .inr h
theorem aCP:∀ (s:List Link) (t:List Int),t.Pairwise (· < ·)→(s.foldl aFQ t).Pairwise (· < ·)
  | [],t,h=>h
  | l::s,t,h=>aCP s _ (aHG l h)
theorem aKF {s:List Link} (hs:LSet s):tP s=some (nG s):=by
  have hl:=hs.len
  have:=(iV (step:=nZ s) s (fun k t=>(t,(k:Int))) aFQ (fun t=>t) (fun k t=>t.length≤2*k) (fun k t hk hi=>by
    constructor
    · unfold nZ
      simp only []
      rw [if_pos (by omega),aH hk]
      simp only [Option.bind_some,wi1 (by omega:k≤4294967296)]
      unfold aFQ
      by_cases c:0 < (s[k]).fA
      · rw [if_pos c,if_pos c,aEM _ _ (by omega)]
        simp only [Option.bind_some]
        rw [aEM _ _ (by have:=tU t (s[k]).fA;omega)];rfl
      · rw [if_neg c,if_neg c]
        simp only [Option.bind_some]
        rw [aEM _ _ (by omega)];rfl
    · have:=aK3 t s[k];omega) (fun t _=>by unfold nZ;simp only [];rw [if_neg (by omega)]) [] (Nat.zero_le _)).1
  rw [show ((0:Nat):Int)=0 from rfl] at this
  unfold tP
  rw [lL s (by have:=hs.sz;omega),decide_eq_true hs]
  simp only [Option.bind_some,if_true,this]
  congr 1
  refine zY (aCP _ _ List.Pairwise.nil) (aET s) fun x=>?_
  rw [aGu,aES]
  constructor
  · rintro (h | ⟨l,hl,h⟩)
    · cases h
    · have v:=hs.1 l hl
      rcases h with rfl | ⟨rfl,h0⟩
      · exact ⟨⟨by have:=v.2.2.1;have:=v.1.1;omega,v.2.1.2⟩,l,hl,.inr rfl⟩
      · exact ⟨⟨by omega,v.1.2⟩,l,hl,.inl rfl⟩
  · rintro ⟨h1,l,hl,h⟩
    refine .inr ⟨l,hl,?_⟩
    rcases h with h | h
    · exact .inr ⟨h.symm,by omega⟩
    · exact .inl h.symm
theorem aIL {s:List Link} (hs:s.length≤4294967296) (v:Int) (t:List Int) (ht:t.length≤1000):lp (gG s v t) 0=some (if s.any (tch v)=true then t++[v] else t):=by
  have main:∀ m k:Nat,m+k=s.length→lp (gG s v t) (k:Int)=some (if (s.drop k).any (tch v)=true then t++[v] else t):=by
    intro m
    induction m with
    | zero =>
      intro k hk
      have:k=s.length:=by omega
      subst this
      rw [aN (r:=t) (by unfold gG;rw [if_neg (by omega)]),List.drop_length];rfl
    | succ m ih =>
      intro k hk
      have hlt:k < s.length:=by omega
      have e0:((if (s[k]).fA=v then some true else some (decide ((s[k]).fB=v))):Option Bool)=some (tch v s[k]):=by
        unfold tch;by_cases A:(s[k]).fA=v <;> by_cases B:(s[k]).fB=v <;> simp [A,B]
      rw [List.drop_eq_getElem_cons hlt,List.any_cons]
      by_cases c:tch v s[k]=true
      · rw [aN (r:=t++[v]) (by unfold gG;rw [if_pos (by omega),aH hlt];simp only [Option.bind_some,e0,c,if_true];rw [aQ (by omega)];rfl)]
        simp [c]
      · have e:gG s v t (k:Int)=some (.inl ((k+1:Nat):Int)):=by
          unfold gG;rw [if_pos (by omega),aH hlt];simp only [Option.bind_some,e0,wi1 (by omega:k≤4294967296)];rw [if_neg c]
        rw [bF e,ih (k+1) (by omega)]
        simp only [Bool.not_eq_true] at c
        simp [c]
  have:=main s.length 0 (by omega)
  rw [show ((0:Nat):Int)=0 from rfl,List.drop_zero] at this
  exact this
theorem aKa {s:List Link} (hs:s.length≤4294967296):uC s=some (nG s):=by
  have:=(iV (step:=oK s) aFS (fun k t=>((k:Int)+1,t)) (fun t v=>if (fun v=>s.any (tch v)) v=true then t++[v] else t) (fun t=>t) (fun k t=>t.length≤k) (fun k t hk hi=>by
    have hk9:k < 9:=by rw [aEV] at hk;exact hk
    constructor
    · unfold oK
      simp only []
      rw [if_pos (by omega),aIL hs _ _ (by omega),aLe]
      have w:IntKind.i64.wrap ((k:Int)+1+1)=((k+1:Nat):Int)+1:=by rw [wi (by omega)];omega
      simp only [Option.bind_some,w]
    · simp only [];split
      · rw [List.length_append,List.length_singleton];omega
      · omega) (fun t _=>by unfold oK;simp only [];rw [aEV,if_neg (by omega)]) [] (Nat.zero_le _)).1
  rw [show ((0:Nat):Int)+1=1 from rfl,xL,List.nil_append] at this
  unfold uC
  rw [this];rfl
def aBa (s:List Link) (o:List Int):Prop:=o.Nodup∧(∀ y ∈ o,y ∈ nG s)∧o.length=(nG s).length
instance (s:List Link) (o:List Int):Decidable (aBa s o):=by unfold aBa;exact inferInstance
theorem aII:∀ {a b:List Int},a.Nodup→(∀ x ∈ a,x ∈ b)→b.length≤a.length→b.Perm a
  | [],b,_,_,h=>by
    have:b=[]:=List.eq_nil_of_length_eq_zero (by simpa using h)
    rw [this]
  | x::a,b,hn,hs,h=>by
    rw [List.nodup_cons] at hn
    have hx:=hs x (by simp)
    have p:=List.perm_cons_erase hx
    have hl:=p.length_eq
    rw [List.length_cons] at hl h
    refine p.trans (List.Perm.cons x (aII hn.2 (fun y hy=>?_) (by omega)))
    have:y≠x:=fun e=>hn.1 (e ▸ hy)
    exact (List.mem_erase_of_ne this).2 (hs y (by simp [hy]))
theorem aKi {l:List Int} (h:l.Pairwise (· < ·)):l.Nodup:=h.imp (fun {a b} hab e=>by subst e;omega)
theorem aGt (s:List Link) (o:List Int):aBa s o↔(∀ v ∈ nG s,v ∈ o)∧o.length=(nG s).length:=by
  have hn:=aKi (aET s)
  constructor
  · rintro ⟨h1,h2,h3⟩
    have p:=aII h1 h2 (by omega)
    exact ⟨fun v hv=>p.mem_iff.1 hv,h3⟩
  · rintro ⟨h1,h2⟩
    have p:=aII hn h1 (by omega)
    exact ⟨p.nodup_iff.2 hn,fun y hy=>p.mem_iff.1 hy,h2⟩
theorem aHY {s:List Link} {o:List Int} (h:aBa s o):o.length≤9∧(∀ u ∈ o,1≤u):=by
  have:=aB4 s
  exact ⟨by rw [h.2.2];exact this,fun u hu=>(aES.1 (h.2.1 u hu)).1.1⟩
theorem aFr {σ:Type} {step:σ→Option (σ ⊕ (Unit ⊕ Bool))} (n:Nat) (E:Nat→σ) (G:Nat→Prop) (h1:∀ k:Nat,k < n→(G k∧step (E k)=some (.inl (E (k+1))))∨(¬G k∧step (E k)=some (.inr (.inr false)))) (h2:step (E n)=some (.inr (.inl ()))) :
    (lp step (E 0)=some (.inl ())∧∀ k,k < n→G k)∨(lp step (E 0)=some (.inr false)∧∃ k,k < n∧¬G k):=by
  have main:∀ m k:Nat,m+k=n→(lp step (E k)=some (.inl ())∧∀ j,k≤j→j < n→G j)∨(lp step (E k)=some (.inr false)∧∃ j,j < n∧¬G j):=by
    intro m
    induction m with
    | zero =>
      intro k hk
      have:k=n:=by omega
      subst this
      exact .inl ⟨aN h2,fun j _ _=>by omega⟩
    | succ m ih =>
      intro k hk
      rcases h1 k (by omega) with ⟨g,e⟩ | ⟨g,e⟩
      · rw [bF e]
        rcases ih (k+1) (by omega) with ⟨a,b⟩ | ⟨a,b⟩
        · refine .inl ⟨a,fun j h1 h2=>?_⟩
          by_cases e:j=k
          · subst e;exact g
          · exact b j (by omega) h2
        · exact .inr ⟨a,b⟩
      · exact .inr ⟨aN e,k,by omega,g⟩
  rcases main n 0 (by omega) with ⟨a,b⟩ | ⟨a,b⟩
  · exact .inl ⟨a,fun j h=>b j (Nat.zero_le _) h⟩
  · exact .inr ⟨a,b⟩
theorem aAd {l:List Int}:l.Nodup↔∀ k (h:k < l.length),l[k] ∉ l.take k:=by
  unfold List.Nodup
  rw [List.pairwise_iff_getElem]
  constructor
  · intro h k hk hm
    obtain ⟨j,hj,e⟩:=List.mem_iff_getElem.1 hm
    rw [List.length_take] at hj
    rw [List.getElem_take] at e
    exact h j k (by omega) hk (by omega) e
  · intro h i j hi hj hij e
    refine h j hj ?_
    rw [← e]
    exact List.mem_iff_getElem.2 ⟨i,by rw [List.length_take];omega,by rw [List.getElem_take]⟩
theorem aJo {s:List Link} (hs:LSet s) (o:List Int) (ho:o.length≤4194304):tQ s o=some (decide (aBa s o)):=by
  have hn:=aB4 s
  unfold tQ
  rw [aKF hs]
  simp only [Option.bind_some]
  have L:=aFr (step:=oB o (nG s)) o.length (fun k=>((k:Int),o.take k)) (fun k=>∀ h:k < o.length,o[k] ∈ nG s∧o[k] ∉ o.take k) (fun k hk=>by
    have tl:(o.take k).length≤k:=by rw [List.length_take];omega
    have tk:o.take (k+1)=o.take k++[o[k]]:=by rw [List.take_add_one,List.getElem?_eq_getElem hk];rfl
    unfold oB
    simp only []
    rw [if_pos (by omega),aH hk]
    simp only [Option.bind_some,zK (nG s) _ (by omega),zK (o.take k) _ (by omega),wi1 (by omega:k≤4294967296)]
    by_cases A:o[k] ∈ nG s
    · by_cases B:o[k] ∈ o.take k
      · right
        refine ⟨fun h=>(h hk).2 B,?_⟩
        rw [decide_eq_true A,decide_eq_true B];rfl
      · left
        refine ⟨fun h=>⟨A,B⟩,?_⟩
        rw [decide_eq_true A,decide_eq_false B]
        simp only [if_true,Option.bind_some,Bool.false_eq_true,if_false]
        rw [aQ (by omega),tk];rfl
    · right
      refine ⟨fun h=>A (h hk).1,?_⟩
      rw [decide_eq_false A];rfl) (by unfold oB;simp only [];rw [if_neg (by omega)])
  simp only [List.take_zero] at L
  rw [show ((0:Nat):Int)=0 from rfl] at L
  rcases L with ⟨e,g⟩ | ⟨e,k,hk,g⟩
  · rw [e]
    simp only [Option.bind_some]
    rw [lL s (by have:=hs.sz;omega),decide_eq_true hs]
    simp only [Option.bind_some,if_true]
    congr 1
    rw [Bool.eq_iff_iff,decide_eq_true_iff,decide_eq_true_iff]
    constructor
    · intro h
      refine ⟨aAd.2 (fun k hk=>(g k hk hk).2),fun y hy=>?_,by omega⟩
      obtain ⟨j,hj,rfl⟩:=List.mem_iff_getElem.1 hy
      exact (g j hj hj).1
    · intro h;rw [h.2.2]
  · rw [e]
    have:¬aBa s o:=fun h=>g (fun hk=>⟨h.2.1 _ (List.getElem_mem hk),aAd.1 h.1 k hk⟩)
    rw [decide_eq_false this];rfl
theorem aHn (s:List Link) (h:aL s≤4294967296):mU s=some (decide (LSet s)):=by
  rw [← lL s h]
  unfold mU dK
  have:lp (pE s) 0=lp (eO s) 0:=by
    refine aLj (fun _=>True) (fun v _=>⟨?_,fun _ _=>trivial⟩) _ trivial
    unfold pE eO
    cases e:idx s v with
    | none=>rfl
    | some y =>
      have hy:y ∈ s:=List.mem_of_getElem? (aEf e).2.1
      have hz:=fH (w:=bG) hy
      unfold aL at h
      have q:=hF y (by omega)
      simp only [Option.bind_some,q.1,q.2,aIr,aFM]
  rw [this]
theorem aJp {s:List Link} (hs:LSet s) (o:List Int) (ho:o.length≤4194304):uI s o=some (decide (aBa s o)):=by
  have hn:=aB4 s
  unfold uI
  have il:mU s=some true:=by rw [aHn s (by have:=hs.sz;omega),decide_eq_true hs]
  rw [il,aKa (by have:=hs.len;omega)]
  simp only [Option.bind_some,if_true]
  have L:=aFr (step:=oM o (nG s)) (nG s).length (fun k=>(k:Int)) (fun k=>∀ h:k < (nG s).length,(nG s)[k] ∈ o) (fun k hk=>by
    unfold oM
    rw [if_pos (by omega),aH hk]
    simp only [Option.bind_some,aFl o _ (by omega),wi1 (by omega:k≤4294967296)]
    by_cases A:(nG s)[k] ∈ o
    · exact .inl ⟨fun _=>A,by rw [decide_eq_true A];rfl⟩
    · exact .inr ⟨fun h=>A (h hk),by rw [decide_eq_false A];rfl⟩) (by unfold oM;rw [if_neg (by omega)])
  rw [show ((0:Nat):Int)=0 from rfl] at L
  rcases L with ⟨e,g⟩ | ⟨e,k,hk,g⟩
  · rw [e]
    simp only [Option.bind_some]
    congr 1
    rw [Bool.eq_iff_iff,decide_eq_true_iff,decide_eq_true_iff,aGt]
    constructor
    · intro h
      refine ⟨fun v hv=>?_,by omega⟩
      obtain ⟨j,hj,rfl⟩:=List.mem_iff_getElem.1 hv
      exact g j hj hj
    · intro h;rw [h.2]
  · rw [e]
    have:¬aBa s o:=fun h=>g (fun hk=>((aGt s o).1 h).1 _ (List.getElem_mem hk))
    rw [decide_eq_false this];rfl
def xS (o:List Int) (v:Int) (l:Link):Bool:=decide (jD o [l.fA,l.fB]=v)
theorem aMb (o:List Int) (l:Link) (h:o.length≤4294967296):rG o l=some (jD o [l.fA,l.fB]):=by
  unfold rG
  rw [aJT _ _ h (by simp)];rfl
theorem aKo {o s:List Int} {v:Int} (h:jD o s=v) (hv:v≠0):v ∈ s∧v ∈ o:=by
  unfold jD at h
  cases e:o.find? (fun u=>decide (u ∈ s)) with
  | none=>rw [e] at h;exact absurd h.symm hv
  | some x =>
    rw [e] at h
    simp only [Option.getD_some] at h
    subst h
    exact ⟨by simpa using List.find?_some e,List.mem_of_find?_eq_some e⟩
theorem aI0 {o s:List Int} {k:Nat} (hk:k < o.length) (hn:o.Nodup) (h1:∀ u ∈ o,1≤u):jD o s=o[k]↔o[k] ∈ s∧∀ u ∈ o.take k,u ∉ s:=by
  have ef:o.find? (fun u=>decide (u ∈ s))=((o.take k).find? (fun u=>decide (u ∈ s))).or ((o[k]::o.drop (k+1)).find? (fun u=>decide (u ∈ s))):=by
    rw [← List.find?_append,← List.drop_eq_getElem_cons hk,List.take_append_drop]
  have hnt:=aAd.1 hn k hk
  constructor
  · intro h
    have hp:=h1 _ (List.getElem_mem hk)
    refine ⟨(aKo h (by omega)).1,fun u hu hus=>?_⟩
    unfold jD at h
    rw [ef] at h
    cases f:(o.take k).find? (fun u=>decide (u ∈ s)) with
    | none =>
      rw [List.find?_eq_none] at f
      exact f u hu (by simpa using hus)
    | some x =>
      have hx:=List.mem_of_find?_eq_some f
      rw [f] at h
      simp only [Option.some_or,Option.getD_some] at h
      rw [h] at hx
      exact hnt hx
  · rintro ⟨a,b⟩
    unfold jD
    rw [ef]
    have:(o.take k).find? (fun u=>decide (u ∈ s))=none:=by
      rw [List.find?_eq_none];intro u hu;simpa using b u hu
    rw [this,Option.none_or,List.find?_cons]
    simp [a]
end Go.Ev
/- Building a tree, both programs, and the law. -/
namespace Go.Ev
set_option linter.all false
theorem aAm (c:Conditional) (h:aK c≤4294967296):iD c=some c:=by
  have hp:=cY bS c.fParents
  unfold aK cP at h
  unfold iD
  rw [iB _ (by omega)]
  simp only [Option.bind_some]
  have:=zI (step:=fO c) c.fParents (fun k t=>((k:Int),t)) (fun t=>t) (fun k t hk ht=>by
    have he:=fH (w:=bS) (List.getElem_mem hk)
    have hn:bS c.fParents[k]=aR (c.fParents[k]).fShare+aR (c.fParents[k]).fDX+aR (c.fParents[k]).fDY:=rfl
    unfold fO
    simp only []
    rw [if_pos (by omega),aH hk]
    simp only [Option.bind_some]
    rw [iB _ (by omega)]
    simp only [Option.bind_some]
    rw [iB _ (by omega)]
    simp only [Option.bind_some]
    rw [iB _ (by omega)]
    simp only [Option.bind_some]
    rw [aQ (by omega),wi (by omega)];rfl) (fun t ht=>by unfold fO;simp only [];rw [if_neg (by omega)])
  rw [show ((0:Nat):Int)=0 from rfl] at this
  rw [this];rfl
theorem aJ8 (s:List Link) (o:List Int) (v:Int) (hs:s.length≤4194304) (ho:o.length≤4194304):lp (iI s o v) (0,[])=some (s.filter (xS o v)):=by
  have:=(iV (step:=iI s o v) s (fun k t=>((k:Int),t)) (fun t x=>if xS o v x=true then t++[x] else t) (fun t=>t) (fun k t=>t.length≤k) (fun k t hk hi=>by
    constructor
    · unfold iI
      simp only []
      rw [if_pos (by omega),aH hk]
      simp only [Option.bind_some,aMb o _ (by omega:o.length≤4294967296),wi1 (by omega:k≤4294967296)]
      by_cases c:jD o [(s[k]).fA,(s[k]).fB]=v
      · rw [if_pos c,if_pos (by unfold xS;simpa using c),aQ (by omega)];rfl
      · rw [if_neg c,if_neg (by unfold xS;simpa using c)]
    · split
      · rw [List.length_append,List.length_singleton];omega
      · omega) (fun t _=>by unfold iI;simp only [];rw [if_neg (by omega)]) [] (Nat.zero_le _)).1
  rw [show ((0:Nat):Int)=0 from rfl,xL,List.nil_append] at this
  exact this
theorem aKJ (o:List Int) (k:Nat) (hk:k≤o.length):sub o 0 (k:Int)=some (o.take k):=by
  rw [vK _ _ _ (by omega)];simp
theorem aK8 (o:List Int) (hn:o.Nodup) (h1:∀ u ∈ o,1≤u) (ho:o.length≤4194304) (k:Nat) (hk:k < o.length) (l:Link) (hl:l.fA < l.fB) :
    ((if l.fA=o[k] then (sub o 0 (k:Int)).bind fun y57=>(gH y57 l.fB).bind fun r58=>(if r58=true then (if l.fB=o[k] then (sub o 0 (k:Int)).bind fun y59=>(gH y59 l.fA).bind fun r60=>some (!r60) else some false) else some true) else (if l.fB=o[k] then (sub o 0 (k:Int)).bind fun y61=>(gH y61 l.fA).bind fun r62=>some (!r62) else some false)):Option Bool)=some (xS o o[k] l):=by
  have tl:(o.take k).length≤4294967296:=by rw [List.length_take];omega
  have hnt:=aAd.1 hn k hk
  have ft:=aI0 (s:=[l.fA,l.fB]) hk hn h1
  rw [aKJ o k (by omega)]
  simp only [Option.bind_some,aFl _ _ tl]
  unfold xS
  by_cases A:l.fA=o[k]
  · have B:¬l.fB=o[k]:=by omega
    rw [if_pos A,if_neg B]
    by_cases C:l.fB ∈ o.take k
    · rw [decide_eq_true C,if_pos rfl]
      have:¬jD o [l.fA,l.fB]=o[k]:=fun h=>(ft.1 h).2 _ C (by simp)
      rw [decide_eq_false this]
    · rw [decide_eq_false C]
      have:jD o [l.fA,l.fB]=o[k]:=ft.2 ⟨by simp [A],fun u hu hs=>by
        rcases List.mem_cons.1 hs with rfl | hs
        · exact hnt (A ▸ hu)
        · rw [List.mem_singleton.1 hs] at hu;exact C hu⟩
      rw [decide_eq_true this];rfl
  · rw [if_neg A]
    by_cases B:l.fB=o[k]
    · rw [if_pos B]
      by_cases C:l.fA ∈ o.take k
      · have:¬jD o [l.fA,l.fB]=o[k]:=fun h=>(ft.1 h).2 _ C (by simp)
        rw [decide_eq_true C,decide_eq_false this];rfl
      · have:jD o [l.fA,l.fB]=o[k]:=ft.2 ⟨by simp [B],fun u hu hs=>by
          rcases List.mem_cons.1 hs with rfl | hs
          · exact C hu
          · rw [List.mem_singleton.1 hs] at hu;exact hnt (B ▸ hu)⟩
        rw [decide_eq_false C,decide_eq_true this];rfl
    · rw [if_neg B]
      have:¬jD o [l.fA,l.fB]=o[k]:=fun h=>by
        have:=(ft.1 h).1
        simp only [List.mem_cons,List.not_mem_nil,or_false] at this
        rcases this with e | e
        · exact A e.symm
        · exact B e.symm
      rw [decide_eq_false this]
theorem aJ9 (s:List Link) (o:List Int) (hs:s.length≤4194304) (ho:o.length≤4194304) (hv:∀ x ∈ s,ValidL x) (hn:o.Nodup) (h1:∀ u ∈ o,1≤u) (i:Nat) (hi:i < o.length):lp (iM s o o[i] (i:Int)) (0,[])=some (s.filter (xS o o[i])):=by
  have:=(iV (step:=iM s o o[i] (i:Int)) s (fun k t=>((k:Int),t)) (fun t x=>if xS o o[i] x=true then t++[x] else t) (fun t=>t) (fun k t=>t.length≤k) (fun k t hk hj=>by
    constructor
    · unfold iM
      simp only []
      rw [if_pos (by omega),aH hk]
      have oc:=aK8 o hn h1 ho i hi s[k] (hv _ (List.getElem_mem hk)).2.2.1
      simp only [Option.bind_some,wi1 (by omega:k≤4294967296)]
      rw [oc]
      simp only [Option.bind_some]
      by_cases c:xS o o[i] s[k]=true
      · rw [if_pos c,if_pos c,aQ (by omega)];rfl
      · rw [if_neg c,if_neg c]
    · split
      · rw [List.length_append,List.length_singleton];omega
      · omega) (fun t _=>by unfold iM;simp only [];rw [if_neg (by omega)]) [] (Nat.zero_le _)).1
  rw [show ((0:Nat):Int)=0 from rfl,xL,List.nil_append] at this
  exact this
noncomputable def zA (s:List Link) (o:List Int):List Int→List TreeNode→Option (List TreeNode)
  | [],b=>some b
  | v::r,b=>(uP o v (s.filter (xS o v)) b).bind fun n=>zA s o r (b++[n])
noncomputable def aDn (s:List Link) (o:List Int):Option Tree :=
  (jnP s).bind fun x=>if aBa x.1 o then (zA s o o []).map Tree.mk else none
def pkT:Option Tree→Tree × Bool
  | some t=>(t,true)
  | none=>(Tree.mk [],false)
def aM1:Option (List TreeNode)→(List TreeNode) ⊕ (Tree × Bool)
  | some b=>.inl b
  | none=>.inr (Tree.mk [],false)
def NodeOk (s:List Link) (o:List Int) (n:TreeNode):Prop:=LSet n.fMessages∧n.fOwn=s.filter (xS o n.fNode)∧aK n.fCond≤20000∧bT n.fEnergy∧n.fUp=upP o n.fCond
theorem zX (p:Link→Bool):∀ s:List Link,aL (s.filter p)≤aL s
  | []=>Nat.le_refl _
  | x::s=>by
    have:=zX p s
    unfold aL at this ⊢
    rw [List.filter_cons,lX]
    split
    · rw [lX];omega
    · omega
theorem aIM {s:List Link} {o:List Int} {v:Int} {b:List TreeNode} {n:TreeNode} (h:uP o v (s.filter (xS o v)) b=some n):NodeOk s o n∧n.fNode=v:=by
  obtain ⟨h1,h2,h3,h4,h5,h6⟩:=aEU h
  exact ⟨⟨h1,by rw [h5];exact h2,h3,h4,h6⟩,h5⟩
theorem aEs {s:List Link} {o:List Int}:∀ (r:List Int) (b b':List TreeNode),(∀ n ∈ b,NodeOk s o n)→zA s o r b=some b'→(∀ n ∈ b',NodeOk s o n)∧b'.map (·.fNode)=b.map (·.fNode)++r
  | [],b,b',h,e=>by cases e;exact ⟨h,by simp⟩
  | v::r,b,b',h,e=>by
    rw [zA] at e
    cases h1:uP o v (s.filter (xS o v)) b with
    | none=>rw [h1] at e;cases e
    | some n =>
      rw [h1,Option.bind_some] at e
      obtain ⟨g1,g2⟩:=aIM h1
      obtain ⟨k1,k2⟩:=aEs r (b++[n]) b' (fun m hm=>by
        rcases List.mem_append.1 hm with hm | hm
        · exact h m hm
        · rw [List.mem_singleton.1 hm];exact g1) e
      exact ⟨k1,by rw [k2,List.map_append,List.append_assoc];simp [g2]⟩
theorem aIu (s:List Link) (o:List Int) (hz:aL s≤4194304) (hv:∀ x ∈ s,ValidL x) (ho:o.length≤9) (h1:∀ u ∈ o,1≤u):∀ m k:Nat,m+k=o.length→∀ b:List TreeNode,b.length=k→(∀ n ∈ b,LSet n.fMessages)→lp (iH s o) ((k:Int),b)=some (aM1 (zA s o (o.drop k) b)):=by
  have hl:s.length≤4194304:=Nat.le_trans (cY _ _) hz
  intro m
  induction m with
  | zero =>
    intro k hk b hb hm
    rw [List.drop_eq_nil_of_le (by omega)]
    exact aN (by unfold iH;simp only [];rw [if_neg (by omega)];rfl)
  | succ m ih =>
    intro k hk b hb hm
    have hlt:k < o.length:=by omega
    rw [List.drop_eq_getElem_cons hlt,zA]
    have nq:=(aLb (v:=o[k]) (own:=s.filter (xS o o[k])) (b:=b) (by omega:o.length≤4194304) h1 (Nat.le_trans (zX _ s) hz) (by omega) hm (fun x hx=>hv x (List.mem_filter.1 hx).1)).1
    have st:iH s o ((k:Int),b)=some (match uP o o[k] (s.filter (xS o o[k])) b with | some n=>.inl (((k+1:Nat):Int),b++[n]) | none=>.inr (.inr (Tree.mk [],false))):=by
      unfold iH
      simp only []
      rw [if_pos (by omega),aH hlt]
      simp only [Option.bind_some,aJ8 s o o[k] hl (by omega),nq,wi1 (by omega:k≤4294967296)]
      cases uP o o[k] (s.filter (xS o o[k])) b with
      | none=>rfl
      | some n=>simp only [pkN,if_true];rw [aQ (by omega)];rfl
    cases h:uP o o[k] (s.filter (xS o o[k])) b with
    | none=>rw [h] at st;rw [aN st];rfl
    | some n =>
      rw [h] at st
      rw [bF st,Option.bind_some]
      exact ih (k+1) (by omega) _ (by simp [hb]) (fun x hx=>by
        rcases List.mem_append.1 hx with hx | hx
        · exact hm x hx
        · rw [List.mem_singleton.1 hx];exact (aEU h).1)
theorem aIv (s:List Link) (o:List Int) (hz:aL s≤4194304) (hv:∀ x ∈ s,ValidL x) (ho:o.length≤9) (hn:o.Nodup) (h1:∀ u ∈ o,1≤u):∀ m k:Nat,m+k=o.length→∀ b:List TreeNode,b.length=k→(∀ n ∈ b,LSet n.fMessages)→lp (iL s o) ((k:Int),b)=some (aM1 (zA s o (o.drop k) b)):=by
  have hl:s.length≤4194304:=Nat.le_trans (cY _ _) hz
  intro m
  induction m with
  | zero =>
    intro k hk b hb hm
    rw [List.drop_eq_nil_of_le (by omega)]
    exact aN (by unfold iL;simp only [];rw [if_neg (by omega)];rfl)
  | succ m ih =>
    intro k hk b hb hm
    have hlt:k < o.length:=by omega
    rw [List.drop_eq_getElem_cons hlt,zA]
    have nq:=(aLb (v:=o[k]) (own:=s.filter (xS o o[k])) (b:=b) (by omega:o.length≤4194304) h1 (Nat.le_trans (zX _ s) hz) (by omega) hm (fun x hx=>hv x (List.mem_filter.1 hx).1)).2
    have st:iL s o ((k:Int),b)=some (match uP o o[k] (s.filter (xS o o[k])) b with | some n=>.inl (((k+1:Nat):Int),b++[n]) | none=>.inr (.inr (Tree.mk [],false))):=by
      unfold iL
      simp only []
      rw [if_pos (by omega),aH hlt]
      simp only [Option.bind_some,aJ9 s o hl (by omega) hv hn h1 k hlt,nq,wi1 (by omega:k≤4294967296)]
      cases uP o o[k] (s.filter (xS o o[k])) b with
      | none=>rfl
      | some n=>simp only [pkN,if_true];rw [aQ (by omega)];rfl
    cases h:uP o o[k] (s.filter (xS o o[k])) b with
    | none=>rw [h] at st;rw [aN st];rfl
    | some n =>
      rw [h] at st
      rw [bF st,Option.bind_some]
      exact ih (k+1) (by omega) _ (by simp [hb]) (fun x hx=>by
        rcases List.mem_append.1 hx with hx | hx
        · exact hm x hx
        · rw [List.mem_singleton.1 hx];exact (aEU h).1)
theorem NodeOk.sz {s:List Link} {o:List Int} {n:TreeNode} (h:NodeOk s o n) (hz:aL s≤4194304):aS n≤4300000:=by
  have h1:=h.1.sz
  have h2:aL n.fOwn≤4194304:=by rw [h.2.1];exact Nat.le_trans (zX _ s) hz
  have h3:=qK (.inl h.2.2.2.1)
  have h4:=h.2.2.1
  unfold aS;omega
theorem aJa (n:TreeNode) (h:aS n≤4294967296):lG n=some n:=by
  unfold aS at h
  unfold lG
  rw [qV _ (by omega),aAm _ (by omega)]
  simp only [Option.bind_some]
  rw [qV _ (by omega),iB _ (by omega)]
  rfl
theorem aI9 (t:Tree) (h:dV t≤4294967296):sC t=some t:=by
  unfold dV cA at h
  have hl:=cY aS t.fNodes
  unfold sC
  have:=zI (step:=mS t) t.fNodes (fun k t=>((k:Int),t)) (fun t=>t) (fun k u hk hu=>by
    have he:=fH (w:=aS) (List.getElem_mem hk)
    unfold mS
    simp only []
    rw [if_pos (by omega),aH hk]
    simp only [Option.bind_some]
    rw [aJa _ (by omega)]
    simp only [Option.bind_some]
    rw [aQ (by omega),wi1 (by omega)];rfl) (fun t ht=>by unfold mS;simp only [];rw [if_neg (by omega)])
  rw [show ((0:Nat):Int)=0 from rfl] at this
  rw [this];rfl
theorem aLX {s:List Link} {o:List Int} {b:List TreeNode} (hz:aL s≤4194304) (ho:o.length≤9) (h:zA s o o []=some b):dV ⟨b⟩≤38700018:=by
  obtain ⟨h1,h2⟩:=aEs o [] b (by simp) h
  have hl:b.length=o.length:=by have:=congrArg List.length h2;simpa using this
  have:cA b≤(4300000+1)*b.length:=aCX (fun n hn=>(h1 n hn).sz hz)
  unfold dV
  have:(4300000+1)*b.length≤4300001*9:=Nat.mul_le_mul (Nat.le_refl _) (by omega)
  simp only []
  omega
theorem aME (s:List Link) (o:List Int) (hz:aL s≤4194304) (ho:o.length≤4194304):pR s o=some (pkT (aDn s o))∧qJ s o=some (pkT (aDn s o)):=by
  obtain ⟨j1,j2⟩:=aBn s (by omega)
  unfold pR qJ aDn
  rw [j1,j2]
  cases h:jnP s with
  | none=>exact ⟨rfl,rfl⟩
  | some x =>
    obtain ⟨u,e⟩:=x
    obtain ⟨hv,hs,he⟩:=aFi h
    simp only [pk,Option.bind_some,if_true]
    rw [aJo hs o ho,aJp hs o ho]
    by_cases c:aBa u o
    · obtain ⟨l9,h1⟩:=aHY c
      have q1:=aIu s o hz hv l9 h1 o.length 0 (by omega) [] rfl (by simp)
      have q2:=aIv s o hz hv l9 c.1 h1 o.length 0 (by omega) [] rfl (by simp)
      rw [show ((0:Nat):Int)=0 from rfl,List.drop_zero] at q1 q2
      rw [decide_eq_true c,if_pos c]
      simp only [Option.bind_some,Bool.not_true,Bool.false_eq_true,if_false,q1,q2]
      cases g:zA s o o [] with
      | none=>exact ⟨rfl,rfl⟩
      | some b =>
        simp only [aM1]
        rw [aI9 ⟨b⟩ (by have:=aLX hz l9 g;omega)]
        exact ⟨rfl,rfl⟩
    · rw [decide_eq_false c,if_neg c]
      exact ⟨rfl,rfl⟩
end Go.Ev
/- Comparison of links, conditionals, tree nodes; nodes that have changed. -/
namespace Go.Ev
set_option linter.all false
theorem aAa (a b:List Int) (h:a.length≤4294967296):hC a b=some (decide (a=b)):=by
  unfold hC
  by_cases hl:a.length=b.length
  · rw [if_neg (by omega),aDl a b hl (fun k ha hb=>by
      unfold qU
      rw [if_pos (by omega),aH ha,aH hb,wi (by omega)]
      simp only [Option.bind_some]
      by_cases c:a[k]=b[k]
      · rw [if_neg (by simp [c]),if_pos c]
      · rw [if_pos c,if_neg c]) (by unfold qU;rw [if_neg (by omega)])]
    by_cases c:a=b <;> simp [c]
  · rw [if_pos (by omega)]
    have:a≠b:=by rintro rfl;exact hl rfl
    simp [this]
theorem fM (r s:Rat) (h:aR r≤4294967296):cZ r s=some (decide (r=s)):=by
  obtain ⟨⟨a,m⟩,d⟩:=r
  obtain ⟨⟨a',m'⟩,d'⟩:=s
  unfold aR dI eK at h
  rw [nS,nS] at h
  simp only at h
  unfold cZ
  simp only []
  rw [aAa m m' (by omega),aAa d d' (by omega)]
  by_cases c1:a=a' <;> by_cases c2:m=m' <;> by_cases c3:d=d' <;> simp [c1,c2,c3]
theorem sL (r s:Rat) (h:aR r≤4294967296):cU r s=some (decide (r=s)):=fM r s h
theorem aID (r s:Link) (h:bG r≤4294967296):sA r s=some (decide (r=s)):=by
  obtain ⟨a,b,w,x,y⟩:=r
  obtain ⟨a',b',w',x',y'⟩:=s
  unfold bG at h
  simp only at h
  unfold sA
  simp only []
  rw [fM w w' (by omega),fM x x' (by omega),fM y y' (by omega)]
  by_cases c1:a=a' <;> by_cases c2:b=b' <;> by_cases c3:w=w' <;> by_cases c4:x=x' <;> by_cases c5:y=y' <;> simp [c1,c2,c3,c4,c5]
theorem zN (a b:List Link) (h:aL a≤4294967296):mT a b=some (decide (a=b)):=by
  have hal:=cY bG a
  unfold aL at h
  unfold mT
  by_cases hl:a.length=b.length
  · rw [if_neg (by omega),aDl a b hl (fun k ha hb=>by
      have he:=fH (w:=bG) (List.getElem_mem ha)
      unfold pD
      rw [if_pos (by omega),aH ha,aH hb,wi (by omega)]
      simp only [Option.bind_some]
      rw [aID _ _ (by omega)]
      simp only [Option.bind_some]
      by_cases c:a[k]=b[k]
      · rw [if_pos (by simp [c]),if_pos c]
      · rw [if_neg (by simp [c]),if_neg c]) (by unfold pD;rw [if_neg (by omega)])]
    by_cases c:a=b <;> simp [c]
  · rw [if_pos (by omega)]
    have:a≠b:=by rintro rfl;exact hl rfl
    simp [this]
theorem zC (a b:List Link) (h:aL a≤4294967296):mE a b=some (decide (a=b)):=by
  have hal:=cY bG a
  unfold aL at h
  unfold mE
  by_cases hl:a.length=b.length
  · rw [if_neg (by omega),aDl a b hl (fun k ha hb=>by
      have he:=fH (w:=bG) (List.getElem_mem ha)
      unfold oY
      rw [if_pos (by omega),aH ha,aH hb,wi (by omega)]
      simp only [Option.bind_some]
      generalize a[k]=r at *
      generalize b[k]=s at *
      obtain ⟨a1,b1,w,x,y⟩:=r
      obtain ⟨a2,b2,w',x',y'⟩:=s
      have hn:bG ⟨a1,b1,w,x,y⟩=aR w+aR x+aR y:=rfl
      simp only []
      rw [sL w w' (by omega),sL x x' (by omega),sL y y' (by omega)]
      by_cases c1:a1=a2 <;> by_cases c2:b1=b2 <;> by_cases c3:w=w' <;> by_cases c4:x=x' <;> by_cases c5:y=y' <;> simp [c1,c2,c3,c4,c5]) (by unfold oY;rw [if_neg (by omega)])]
    by_cases c:a=b <;> simp [c]
  · rw [if_pos (by omega)]
    have:a≠b:=by rintro rfl;exact hl rfl
    simp [this]
theorem uG (a b:Conditional) (h:aK a≤4294967296):iF a b=some (decide (a=b)):=by
  obtain ⟨n,t,l⟩:=a
  obtain ⟨n',t',l'⟩:=b
  have hal:=cY bS l
  unfold aK cP at h
  simp only at h
  unfold iF
  simp only []
  rw [fM t t' (by omega)]
  by_cases c1:n=n'
  · by_cases c2:t=t'
    · by_cases hl:l.length=l'.length
      · have e:lp (fP ⟨n,t,l⟩ ⟨n',t',l'⟩) 0=some (if l=l' then .inl () else .inr false):=aDl l l' hl (fun k ha hb=>by
          have he:=fH (w:=bS) (List.getElem_mem ha)
          unfold fP
          simp only []
          rw [if_pos (by omega),aH ha,aH hb,wi (by omega)]
          simp only [Option.bind_some]
          generalize l[k]=r at *
          generalize l'[k]=s at *
          obtain ⟨a1,w,x,y⟩:=r
          obtain ⟨a2,w',x',y'⟩:=s
          have hn:bS ⟨a1,w,x,y⟩=aR w+aR x+aR y:=rfl
          simp only []
          rw [fM w w' (by omega),fM x x' (by omega),fM y y' (by omega)]
          by_cases c1:a1=a2 <;> by_cases c3:w=w' <;> by_cases c4:x=x' <;> by_cases c5:y=y' <;> simp [c1,c3,c4,c5]) (by unfold fP;simp only [];rw [if_neg (by omega)])
        rw [e]
        by_cases c:l=l' <;> simp [c1,c2,hl,c]
      · have:l≠l':=by rintro rfl;exact hl rfl
        have h2:(l.length:Int)≠(l'.length:Int):=by omega
        simp [c1,c2,this,h2]
    · simp [c1,c2]
  · simp [c1]
theorem zZ (a b:Conditional) (h:aK a≤4294967296):kR a b=some (decide (a=b)):=uG a b h
theorem aEC (a b:TreeNode) (h:aS a≤4294967296):lF a b=some (decide (a=b)):=by
  obtain ⟨n,u,o,c,m,e⟩:=a
  obtain ⟨n',u',o',c',m',e'⟩:=b
  unfold aS at h
  simp only at h
  unfold lF
  simp only []
  rw [zN o o' (by omega),uG c c' (by omega),zN m m' (by omega),fM e e' (by omega)]
  by_cases c1:n=n' <;> by_cases c2:u=u' <;> by_cases c3:o=o' <;> by_cases c4:c=c' <;> by_cases c5:m=m' <;> by_cases c6:e=e' <;> simp [c1,c2,c3,c4,c5,c6]
theorem aKh (a b:TreeNode) (h:aS a≤4294967296):tK a b=some (decide (a=b)):=by
  obtain ⟨n,u,o,c,m,e⟩:=a
  obtain ⟨n',u',o',c',m',e'⟩:=b
  unfold aS at h
  simp only at h
  unfold tK
  simp only []
  rw [zC o o' (by omega),zZ c c' (by omega),zC m m' (by omega),sL e e' (by omega)]
  by_cases c1:n=n' <;> by_cases c2:u=u' <;> by_cases c3:o=o' <;> by_cases c4:c=c' <;> by_cases c5:m=m' <;> by_cases c6:e=e' <;> simp [c1,c2,c3,c4,c5,c6]
end Go.Ev
/- Is it a tree, both programs, and the law. -/
namespace Go.Ev
set_option linter.all false
theorem aLl (t:Tree) (h:dV t≤4294967296):pO t=some (jW t.fNodes)∧qH t=some (jW t.fNodes):=by
  unfold dV cA at h
  have hl:=cY aS t.fNodes
  have hmem:∀ k (hk:k < t.fNodes.length),aL (t.fNodes[k]).fOwn≤4294967296:=fun k hk=>by
    have he:=fH (w:=aS) (List.getElem_mem hk)
    have hn:aS t.fNodes[k]=aL (t.fNodes[k]).fOwn+aK (t.fNodes[k]).fCond+aL (t.fNodes[k]).fMessages+aR (t.fNodes[k]).fEnergy:=rfl
    omega
  have hln:∀ k (hk:k < t.fNodes.length),(jW (t.fNodes.take k)).length+((t.fNodes[k]).fOwn).length≤4294967296:=fun k hk=>by
    have:=aIJ t.fNodes h (k+1)
    rw [aAP _ _ hk,List.length_append] at this;omega
  have aux:∀ (step:(Int × (List Link))→Option ((Int × (List Link)) ⊕ (List Link))),(∀ k (hk:k < t.fNodes.length),step ((k:Int),jW (t.fNodes.take k))=some (.inl (((k+1:Nat):Int),jW (t.fNodes.take (k+1)))))→step ((t.fNodes.length:Int),jW (t.fNodes.take t.fNodes.length))=some (.inr (jW t.fNodes))→lp step (0,[])=some (jW t.fNodes):=by
    intro step h1 h2
    have main:∀ m k:Nat,m+k=t.fNodes.length→lp step ((k:Int),jW (t.fNodes.take k))=some (jW t.fNodes):=by
      intro m
      induction m with
      | zero =>
        intro k hk
        have:k=t.fNodes.length:=by omega
        subst this
        exact aN h2
      | succ m ih =>
        intro k hk
        rw [bF (h1 k (by omega))]
        exact ih (k+1) (by omega)
    exact main t.fNodes.length 0 (by omega)
  constructor
  · unfold pO
    rw [aux (kQ t) (fun k hk=>by
      have:=hmem k hk
      have:=hln k hk
      unfold kQ
      simp only []
      rw [if_pos (by omega),aH hk]
      simp only [Option.bind_some]
      rw [yO _ (by omega)]
      simp only [Option.bind_some]
      rw [aQ (by omega),aAP _ _ hk,wi1 (by omega)];rfl) (by unfold kQ;simp only [];rw [if_neg (by omega),List.take_length])]
    rfl
  · unfold qH
    rw [aux (lI t) (fun k hk=>by
      have:=hmem k hk
      have:=hln k hk
      unfold lI
      simp only []
      rw [if_pos (by omega),aH hk]
      simp only [Option.bind_some]
      rw [qV _ (by omega)]
      simp only [Option.bind_some]
      rw [aQ (by omega),aAP _ _ hk,wi1 (by omega)];rfl) (by unfold lI;simp only [];rw [if_neg (by omega),List.take_length])]
    rfl
def aC5 (t:Tree):List Int:=t.fNodes.map (·.fNode)
theorem aMc (t:Tree) (h:t.fNodes.length≤4294967296):nE t=some (aC5 t)∧uH t=some (aC5 t):=by
  have e:uH t=nE t:=rfl
  have:nE t=some (aC5 t):=by
    have:=(iV (step:=nY t) t.fNodes (fun k u=>((k:Int),u)) (fun u n=>u++[n.fNode]) (fun u=>u) (fun k u=>u.length≤k) (fun k u hk hi=>by
      constructor
      · unfold nY
        simp only []
        rw [if_pos (by omega),aH hk]
        simp only [Option.bind_some,wi1 (by omega:k≤4294967296)]
        rw [aQ (by omega)];rfl
      · rw [List.length_append,List.length_singleton];omega) (fun u _=>by unfold nY;simp only [];rw [if_neg (by omega)]) [] (Nat.zero_le _)).1
    rw [show ((0:Nat):Int)=0 from rfl,aCf,List.nil_append] at this
    unfold nE
    rw [this];rfl
  exact ⟨this,e.trans this⟩
theorem aJv (a b:Tree) (h:dV a≤4294967296):rJ a b=some (decide (a=b)):=by
  unfold dV cA at h
  have hl:=cY aS a.fNodes
  obtain ⟨a⟩:=a
  obtain ⟨b⟩:=b
  simp only [] at h hl
  unfold rJ
  by_cases hn:a.length=b.length
  · rw [if_neg (by simp only [];omega),aDl a b hn (fun k ha hb=>by
      have he:=fH (w:=aS) (List.getElem_mem ha)
      unfold qN
      simp only []
      rw [if_pos (by omega),aH ha,aH hb,wi (by omega)]
      simp only [Option.bind_some]
      rw [aKh _ _ (by omega)]
      by_cases c:a[k]=b[k] <;> simp [c]) (by unfold qN;simp only [];rw [if_neg (by omega)])]
    by_cases c:a=b <;> simp [c]
  · rw [if_pos (by simp only [];omega)]
    have:a≠b:=by rintro rfl;exact hn rfl
    simp [this]
theorem aJw (a b:Tree) (h:dV a≤4294967296):sE a b=some (decide (a=b)):=by
  unfold dV cA at h
  have hl:=cY aS a.fNodes
  obtain ⟨a⟩:=a
  obtain ⟨b⟩:=b
  simp only [] at h hl
  unfold sE
  by_cases hn:a.length=b.length
  · rw [if_neg (by simp only [];omega),aDl a b hn (fun k ha hb=>by
      have he:=fH (w:=aS) (List.getElem_mem ha)
      unfold qW
      simp only []
      rw [if_pos (by omega),aH ha,aH hb,wi (by omega)]
      simp only [Option.bind_some]
      rw [aEC _ _ (by omega)]
      by_cases c:a[k]=b[k] <;> simp [c]) (by unfold qW;simp only [];rw [if_neg (by omega)])]
    by_cases c:a=b <;> simp [c]
  · rw [if_pos (by simp only [];omega)]
    have:a≠b:=by rintro rfl;exact hn rfl
    simp [this]
def vZ (t:Tree):Prop:=aDn (jW t.fNodes) (aC5 t)=some t
noncomputable instance (t:Tree):Decidable (vZ t):=Classical.propDecidable _
theorem aLR (t:Tree) (h:dV t≤4194304):wF t=some (decide (vZ t))∧wN t=some (decide (vZ t)):=by
  have h0:=h
  unfold dV cA at h
  have hl:=cY aS t.fNodes
  have ho:=aC4 t.fNodes
  obtain ⟨l1,l2⟩:=aLl t (by omega)
  obtain ⟨o1,o2⟩:=aMc t (by omega)
  obtain ⟨b1,b2⟩:=aME (jW t.fNodes) (aC5 t) (by omega) (by unfold aC5;rw [List.length_map];omega)
  unfold wF wN
  rw [l1,l2]
  simp only [Option.bind_some,o1,o2,b1,b2]
  by_cases c:vZ t
  · have c':=c
    unfold vZ at c'
    rw [c',decide_eq_true c]
    simp only [pkT,if_true,aJv t t (by omega),aJw t t (by omega),Option.bind_some,decide_true,and_self]
  · rw [decide_eq_false c]
    cases g:aDn (jW t.fNodes) (aC5 t) with
    | none=>simp [pkT]
    | some u =>
      have:¬t=u:=by rintro rfl;exact c g
      simp only [pkT,if_true,aJv t u (by omega),aJw t u (by omega),Option.bind_some,decide_eq_false this,and_self]
end Go.Ev
/- Paths of a tree end: what a tree's node hands up lies later in the order. -/
namespace Go.Ev
set_option linter.all false
def pr (s:List Link) (x y:Int):Prop:=∃ l ∈ s,l.fA=x∧l.fB=y
def adj (s:List Link) (x y:Int):Prop:=pr s x y∨pr s y x
def en (s:List Link) (x:Int):Prop:=∃ y,adj s x y
structure PathN (o:List Int) (n:TreeNode):Prop where
  near:∀ x,en n.fMessages x→x ∈ aDK n.fCond
  clq:∀ x y,x ∈ aDK n.fCond→y ∈ aDK n.fCond→x < y→pr n.fMessages x y
  late:∀ i (h:i < o.length),o[i]=n.fNode→∀ p ∈ aDK n.fCond,p ∉ o.take (i+1)
end Go.Ev
/- Trees in another order, and the nodes that a change affects: both programs, and the laws. -/
namespace Go.Ev
set_option linter.all false
end Go.Ev
/- The law of building a tree; inserting a link, both programs, and the law. -/
namespace Go.Ev
set_option linter.all false
end Go.Ev
/- Cliques: their nodes in order. -/
set_option linter.all false
namespace Go.Ev
set_option linter.all false
def uW (l m:List Int):List Int:=m.foldl xC l
theorem xD:∀ (m l:List Int),l.Pairwise (· < ·)→(uW l m).Pairwise (· < ·)∧(∀ x,x ∈ uW l m↔x ∈ l∨x ∈ m)∧(uW l m).length≤l.length+m.length
  | [],l,h=>⟨h,by simp [uW],by simp [uW]⟩
  | n::m,l,h=>by
    obtain ⟨a,b,c⟩:=xD m (xC l n) (tA l n h)
    have:=tU l n
    refine ⟨a,fun x=>?_,?_⟩
    · show x ∈ uW (xC l n) m↔_
      rw [b x,xQ,List.mem_cons]
      constructor
      · rintro ((h | h) | h) <;> simp [h]
      · rintro (h | h | h) <;> simp [h]
    · show (uW (xC l n) m).length≤_
      simp only [List.length_cons];omega
def wS (k:Clique):List Int:=uW (uW [] k.fFrontal) k.fSeparator
theorem aG6 (k:Clique):(wS k).Pairwise (· < ·)∧(∀ x,x ∈ wS k↔x ∈ k.fFrontal∨x ∈ k.fSeparator)∧(wS k).length≤k.fFrontal.length+k.fSeparator.length:=by
  obtain ⟨a,b,c⟩:=xD k.fFrontal [] List.Pairwise.nil
  obtain ⟨a',b',c'⟩:=xD k.fSeparator (uW [] k.fFrontal) a
  refine ⟨a',fun x=>by unfold wS;rw [b' x,b x];simp,?_⟩
  unfold wS;simp only [List.length_nil] at c;omega
theorem xM (k:Clique):dH k=k.fFrontal.length+k.fSeparator.length:=by
  unfold dH eK;rw [nS,nS]
theorem aIU (k:Clique) (h:dH k≤1048576):lM k=some (wS k):=by
  rw [xM] at h
  unfold lM
  have e1:=iV (step:=lZ k) k.fFrontal (fun i (t:List Int)=>(t,(i:Int))) xC (fun t=>t) (fun i t=>t.length≤i) (fun i t hk hi=>by
    refine ⟨?_,by have:=tU t k.fFrontal[i];omega⟩
    unfold lZ
    simp only []
    rw [if_pos (by omega),aH hk,wi (by omega)]
    simp only [Option.bind_some]
    rw [aEM _ _ (by omega)];rfl) (fun t hi=>by unfold lZ;simp only [];rw [if_neg (by omega)]) [] (by simp)
  rw [show ((0:Nat):Int)=0 from rfl] at e1
  rw [e1.1]
  simp only [Option.bind_some]
  have hl:(uW [] k.fFrontal).length≤k.fFrontal.length:=by have:=(xD k.fFrontal [] List.Pairwise.nil).2.2;simpa using this
  have e2:=iV (step:=lY k) k.fSeparator (fun i (t:List Int)=>(t,(i:Int))) xC (fun t=>t) (fun i t=>t.length≤k.fFrontal.length+i) (fun i t hk hi=>by
    refine ⟨?_,by have:=tU t k.fSeparator[i];omega⟩
    unfold lY
    simp only []
    rw [if_pos (by omega),aH hk,wi (by omega)]
    simp only [Option.bind_some]
    rw [aEM _ _ (by omega)];rfl) (fun t hi=>by unfold lY;simp only [];rw [if_neg (by omega)]) (uW [] k.fFrontal) (by omega)
  rw [show ((0:Nat):Int)=0 from rfl] at e2
  have e3:=e2.1
  unfold uW at e3
  rw [e3];rfl
def aG5 (l:List Clique) (a:Int):List Int:=if 0≤a then (match l[a.toNat]? with | some k=>wS k | none=>[]) else []
def ddp:Option Int→List Int→List Int
  | _,[]=>[]
  | p,x::l=>if p=some x then ddp (some x) l else x::ddp (some x) l
theorem aFy (p:Option Int) (x:Int) (l:List Int):ddp p (x::l)=if p=some x then ddp (some x) l else x::ddp (some x) l:=rfl
theorem aGy:∀ (l:List Int) (p:Option Int),l.Pairwise (·≤·)→(∀ q,p=some q→∀ x ∈ l,q≤x)→(ddp p l).Pairwise (· < ·)∧(∀ x,x ∈ ddp p l↔x ∈ l∧p≠some x)∧(∀ q,p=some q→∀ x ∈ ddp p l,q < x)
  | [],p,_,_=>by simp [ddp]
  | y::l,p,h,hp=>by
    rw [List.pairwise_cons] at h
    obtain ⟨a,b,c⟩:=aGy l (some y) h.2 (fun q e x hx=>by cases e;exact h.1 x hx)
    have hc:=c y rfl
    by_cases hy:p=some y
    · have e:ddp p (y::l)=ddp (some y) l:=by rw [aFy,if_pos hy]
      rw [e]
      subst hy
      refine ⟨a,fun x=>?_,fun q e x hx=>by cases e;exact hc x hx⟩
      rw [b x,List.mem_cons]
      constructor
      · rintro ⟨h1,h2⟩;exact ⟨.inr h1,h2⟩
      · rintro ⟨h1 | h1,h2⟩
        · exact absurd (by rw [h1]) h2
        · exact ⟨h1,h2⟩
    · have e:ddp p (y::l)=y::ddp (some y) l:=by rw [aFy,if_neg hy]
      rw [e]
      refine ⟨List.pairwise_cons.2 ⟨hc,a⟩,fun x=>?_,fun q eq x hx=>?_⟩
      · rw [List.mem_cons,List.mem_cons,b x]
        constructor
        · rintro (h1 | ⟨h1,h2⟩)
          · subst h1;exact ⟨.inl rfl,hy⟩
          · refine ⟨.inr h1,fun e=>?_⟩
            have h3:=hp x e y (by simp)
            have h4:=h.1 x h1
            exact h2 (by congr 1;omega)
        · rintro ⟨h1 | h1,h2⟩
          · exact .inl h1
          · by_cases h3:x=y
            · exact .inl h3
            · exact .inr ⟨h1,fun e=>h3 (by injection e with e;exact e.symm)⟩
      · have h1:q≤y:=hp q eq y (by simp)
        have h2:q≠y:=fun e=>hy (by rw [eq,e])
        rcases List.mem_cons.1 hx with e | e
        · omega
        · have:=hc x e;omega
theorem aIK (r:List Int) (h:r.length≤4294967296):lp (eM r) (0,[])=some (ddp none r):=by
  have main:∀ m k:Nat,m+k=r.length→∀ t:List Int,t.length≤k→lp (eM r) ((k:Int),t)=some (t++ddp (if k=0 then none else r[k - 1]?) (r.drop k)):=by
    intro m
    induction m with
    | zero =>
      intro k hk t ht
      have:k=r.length:=by omega
      subst this
      rw [aN (r:=t) (by unfold eM;simp only [];rw [if_neg (by omega)]),List.drop_length];simp [ddp]
    | succ m ih =>
      intro k hk t ht
      have hlt:k < r.length:=by omega
      rw [List.drop_eq_getElem_cons hlt]
      have hstep:eM r ((k:Int),t)=some (.inl ((k:Int)+1,if (if k=0 then none else r[k - 1]?)=some r[k] then t else t++[r[k]])):=by
        unfold eM
        simp only []
        rw [if_pos (by omega),aH hlt,wi (n:=(k:Int)+1) (by omega),aQ (by omega)]
        simp only [Option.bind_some,aM]
        by_cases k0:k=0
        · subst k0;simp
        · have hk1:k - 1 < r.length:=by omega
          rw [if_neg (by omega),if_neg k0,wi (n:=(k:Int) - 1) (by omega),show (k:Int) - 1=((k - 1:Nat):Int) by omega,aH hk1,List.getElem?_eq_getElem hk1]
          simp only [Option.bind_some]
          by_cases c:r[k - 1]=r[k]
          · simp [c]
          · simp [c]
      rw [bF hstep,show (k:Int)+1=((k+1:Nat):Int) by omega,ih (k+1) (by omega) _ (by by_cases c:(if k=0 then none else r[k - 1]?)=some r[k];(rw [if_pos c];omega);(rw [if_neg c];simp;omega))]
      rw [if_neg (show ¬(k+1=0) by omega),show k+1 - 1=k by omega,List.getElem?_eq_getElem hlt]
      rw [aFy]
      by_cases c:(if k=0 then none else r[k - 1]?)=some r[k]
      · rw [if_pos c,if_pos c]
      · rw [if_neg c,if_neg c];simp
  have:=main r.length 0 (by omega) [] (by simp)
  simpa using this
theorem aEd (l:List Int) (h:l.length≤4294967296):cV l=some l:=by
  unfold cV
  rw [aQ (by simp;omega)]
  simp only [Option.bind_some,aM,List.nil_append]
theorem aMr (k:Clique):ddp none (srt (k.fFrontal++k.fSeparator))=wS k:=by
  have hs:(srt (k.fFrontal++k.fSeparator)).Pairwise (·≤·):=by
    have:=List.pairwise_mergeSort (le:=fun (x y:Int)=>decide (x≤y)) (fun a b c=>by simp;omega) (fun a b=>by simp;omega) (k.fFrontal++k.fSeparator)
    unfold srt
    exact this.imp (fun h=>by simpa using h)
  obtain ⟨a,b,_⟩:=aGy _ none hs (by simp)
  obtain ⟨a',b',_⟩:=aG6 k
  refine zY a a' (fun x=>?_)
  rw [b x,b' x]
  unfold srt
  simp
theorem aCd (l:List Clique) (a:Int) (h:bR l≤1048576):gQ l a=some (aG5 l a):=by
  unfold bR at h
  have hl:=cY dH l
  unfold gQ aG5
  by_cases h0:0≤a
  · rw [if_neg (by omega),if_pos h0]
    simp only [Option.bind_some,decide_eq_true_eq]
    by_cases h1:(l.length:Int)≤a
    · rw [if_pos h1,List.getElem?_eq_none (by omega)]
    · obtain ⟨n,rfl⟩:∃ n:Nat,a=n:=⟨a.toNat,by omega⟩
      have hn:n < l.length:=by omega
      have he:=fH (w:=dH) (List.getElem_mem hn)
      rw [xM] at he
      rw [if_neg h1,aH hn]
      simp only [Option.bind_some]
      rw [aEd _ (by omega)]
      simp only [Option.bind_some,aM]
      rw [aQ (by omega)]
      simp only [Option.bind_some]
      have hsl:(srt ((l[n]).fFrontal++(l[n]).fSeparator)).length=(l[n]).fFrontal.length+(l[n]).fSeparator.length:=by rw [aGM];simp
      unfold aKM
      rw [aQ (by simp;omega)]
      simp only [Option.bind_some]
      rw [aIK _ (by omega),aMr]
      simp [hn]
  · rw [if_pos (by omega),if_neg h0];rfl
end Go.Ev
/- Deleting a link, both programs, and the law. -/
namespace Go.Ev
set_option linter.all false
end Go.Ev
/- Inserting all links, both programs, and the law. -/
namespace Go.Ev
set_option linter.all false
end Go.Ev
/- The cliques of a tree, both programs, and the law. -/
namespace Go.Ev
set_option linter.all false
theorem aIN {o:List Int} {v:Int} {own:List Link} {b:List TreeNode} {n:TreeNode} (h:uP o v own b=some n):bW n.fCond=some true:=by
  unfold uP at h
  cases e1:jnP (own++aAR v b) with
  | none=>rw [e1] at h;cases h
  | some u =>
    rw [e1,Option.bind_some] at h
    cases e2:aDJ v u.1 with
    | none=>rw [e2] at h;cases h
    | some w =>
      obtain ⟨c,m,f⟩:=w
      rw [e2,Option.bind_some] at h
      have hc:bW c=some true:=by
        unfold aDJ at e2
        cases e3:yL v u.1 with
        | none=>rw [e3] at e2;cases e2
        | some x =>
          rw [e3,Option.bind_some] at e2
          have ex:x.1=c:=by
            cases e4:jnP (aAw v u.1++x.2) with
            | none=>rw [e4] at e2;cases e2
            | some y=>rw [e4] at e2;exact congrArg Prod.fst (Option.some.inj e2)
          unfold yL at e3
          split at e3
          · rename_i hh
            cases e3
            rw [← ex];exact hh.2.1
          · cases e3
      split at h
      · cases h;exact hc
      · cases h
theorem aGe {Q:TreeNode→Prop} {s:List Link} {o:List Int} (hQ:∀ v b n,uP o v (s.filter (xS o v)) b=some n→Q n):∀ (r:List Int) (b b':List TreeNode),(∀ n ∈ b,Q n)→zA s o r b=some b'→∀ n ∈ b',Q n
  | [],b,b',h,e=>by cases e;exact h
  | v::r,b,b',h,e=>by
    rw [zA] at e
    cases h1:uP o v (s.filter (xS o v)) b with
    | none=>rw [h1] at e;cases e
    | some n =>
      rw [h1,Option.bind_some] at e
      exact aGe hQ r (b++[n]) b' (fun m hm=>by
        rcases List.mem_append.1 hm with hm | hm
        · exact h m hm
        · rw [List.mem_singleton.1 hm];exact hQ _ _ _ h1) e
theorem aB0 {t:Tree} (ht:vZ t):t.fNodes.length≤9∧∀ n ∈ t.fNodes,1≤n.fNode∧bW n.fCond=some true∧aK n.fCond≤20000:=by
  unfold vZ aDn at ht
  cases hj:jnP (jW t.fNodes) with
  | none=>rw [hj] at ht;cases ht
  | some x =>
    rw [hj,Option.bind_some] at ht
    by_cases c:aBa x.1 (aC5 t)
    · rw [if_pos c] at ht
      cases g:zA (jW t.fNodes) (aC5 t) (aC5 t) [] with
      | none=>rw [g] at ht;cases ht
      | some b =>
        rw [g] at ht
        have e:=Option.some.inj ht
        obtain ⟨k1,k2⟩:=aEs (aC5 t) [] b (by simp) g
        have k3:=aGe (Q:=fun n=>bW n.fCond=some true) (fun v b n h=>aIN h) (aC5 t) [] b (by simp) g
        have eb:b=t.fNodes:=by rw [← e]
        subst eb
        obtain ⟨l1,l2⟩:=aHY c
        refine ⟨by unfold aC5 at l1;rwa [List.length_map] at l1,fun n hn=>⟨l2 _ (List.mem_map.2 ⟨n,hn,rfl⟩),k3 n hn,(k1 n hn).2.2.1⟩⟩
    · rw [if_neg c] at ht;cases ht
def aCY (c:Conditional):List Int:=(aDK c).filter (fun x=>decide (0 < x))
theorem aEA:∀ (l:List Parent) (t:List Int),l.foldl (fun t p=>if 0 < p.fNode then t++[p.fNode] else t) t=t++(l.map (·.fNode)).filter (fun x=>decide (0 < x))
  | [],t=>by simp
  | p::l,t=>by
    rw [List.foldl_cons,aEA l,List.map_cons,List.filter_cons]
    by_cases c:0 < p.fNode <;> simp [c]
theorem aMY (c:Conditional) (h:c.fParents.length≤4294967296):nT c=some (aCY c):=by
  have:=(iV (step:=jS c) c.fParents (fun k t=>((k:Int),t)) (fun t p=>if 0 < p.fNode then t++[p.fNode] else t) (fun t=>t) (fun k t=>t.length≤k) (fun k t hk hi=>by
    constructor
    · unfold jS
      simp only []
      rw [if_pos (by omega),aH hk]
      simp only [Option.bind_some,wi1 (by omega:k≤4294967296)]
      by_cases d:0 < (c.fParents[k]).fNode
      · rw [if_pos d,if_pos d,aQ (by omega)];rfl
      · rw [if_neg d,if_neg d]
    · split
      · rw [List.length_append,List.length_singleton];omega
      · omega) (fun t _=>by unfold jS;simp only [];rw [if_neg (by omega)]) [] (Nat.zero_le _)).1
  rw [show ((0:Nat):Int)=0 from rfl,aEA,List.nil_append] at this
  unfold nT
  rw [this];rfl
theorem aMZ (n:TreeNode) (h:n.fCond.fParents.length≤4294967296) (hp:∀ p ∈ n.fCond.fParents,0≤p.fNode):lp (iK n) (0,[])=some (aCY n.fCond):=by
  have:=(iV (step:=iK n) n.fCond.fParents (fun k t=>((k:Int),t)) (fun t p=>if 0 < p.fNode then t++[p.fNode] else t) (fun t=>t) (fun k t=>t.length≤k) (fun k t hk hi=>by
    constructor
    · unfold iK
      simp only []
      rw [if_pos (by omega),aH hk]
      simp only [Option.bind_some,wi1 (by omega:k≤4294967296)]
      have h0:=hp _ (List.getElem_mem hk)
      by_cases d:0 < (n.fCond.fParents[k]).fNode
      · rw [if_pos d,if_pos (by omega),aQ (by omega)];rfl
      · rw [if_neg d,if_neg (by omega)]
    · split
      · rw [List.length_append,List.length_singleton];omega
      · omega) (fun t _=>by unfold iK;simp only [];rw [if_neg (by omega)]) [] (Nat.zero_le _)).1
  rw [show ((0:Nat):Int)=0 from rfl,aEA,List.nil_append] at this
  exact this
theorem aF8:sF=oR:=rfl
theorem aJb (l:List Clique) (v:Int) (hl:l.length≤1000) (hf:∀ c ∈ l,c.fFrontal.length≤1000000):∃ r:Int,oR l v=some r∧((r=-1∧∀ c ∈ l,v ∉ c.fFrontal)∨∃ (j:Nat) (h:j < l.length),r=j∧v ∈ (l[j]).fFrontal):=by
  have main:∀ m k:Nat,m+k=l.length→∃ x,lp (jM l v) (k:Int)=some x∧((x=.inl ()∧∀ c ∈ l.drop k,v ∉ c.fFrontal)∨∃ (j:Nat) (h:j < l.length),x=.inr (j:Int)∧v ∈ (l[j]).fFrontal):=by
    intro m
    induction m with
    | zero =>
      intro k hk
      exact ⟨.inl (),aN (by unfold jM;rw [if_neg (by omega)]),.inl ⟨rfl,by rw [List.drop_eq_nil_of_le (by omega)];simp⟩⟩
    | succ m ih =>
      intro k hk
      have hlt:k < l.length:=by omega
      have h1:=hf _ (List.getElem_mem hlt)
      by_cases c:v ∈ (l[k]).fFrontal
      · refine ⟨.inr (k:Int),aN ?_,.inr ⟨k,hlt,rfl,c⟩⟩
        unfold jM
        rw [if_pos (by omega),aH hlt]
        simp only [Option.bind_some,zK _ v (by omega:(l[k]).fFrontal.length≤4294967296),decide_eq_true c,if_true]
      · obtain ⟨x,e1,e2⟩:=ih (k+1) (by omega)
        refine ⟨x,?_,?_⟩
        · rw [bF (s':=((k+1:Nat):Int)),e1]
          unfold jM
          rw [if_pos (by omega),aH hlt]
          simp only [Option.bind_some,zK _ v (by omega:(l[k]).fFrontal.length≤4294967296),decide_eq_false c,Bool.false_eq_true,if_false,wi1 (by omega:k≤4294967296)]
        · rcases e2 with ⟨a,b⟩ | b
          · refine .inl ⟨a,fun y hy=>?_⟩
            rw [List.drop_eq_getElem_cons hlt] at hy
            rcases List.mem_cons.1 hy with rfl | hy
            · exact c
            · exact b y hy
          · exact .inr b
  obtain ⟨x,e1,e2⟩:=main l.length 0 (by omega)
  rw [show ((0:Nat):Int)=0 from rfl] at e1
  unfold oR
  rw [e1]
  rcases e2 with ⟨rfl,b⟩ | ⟨j,h,rfl,g⟩
  · exact ⟨-1,rfl,.inl ⟨rfl,by simpa using b⟩⟩
  · exact ⟨j,rfl,.inr ⟨j,h,rfl,g⟩⟩
theorem aKg (a b:List Int) (h:a.length≤4294967296):qL a b=some (decide (a=b)):=aAa a b h
structure InvC (out:List Clique) (k:Nat):Prop where
  len:out.length≤k
  sz:bR out≤20010*k
  pos:∀ c ∈ out,∀ x ∈ c.fFrontal,1≤x
theorem aLC {out:List Clique} {c:Clique} (h:c ∈ out):c.fFrontal.length+c.fSeparator.length+1≤bR out:=by
  have:=fH (w:=dH) h
  rw [xM] at this;exact this
theorem aGL (a b:List Clique):bR (a++b)=bR a+bR b:=aEg _ _ _
theorem aL4 (c:Clique):bR [c]=c.fFrontal.length+c.fSeparator.length+1:=by unfold bR;rw [lX,aCl,xM]
theorem aL3 {l:List Clique} {j:Nat} (hj:j < l.length) (c:Clique):bR (l.set j c)+(dH l[j])=bR l+dH c:=by
  have e:l=l.take j++l[j]::l.drop (j+1):=by rw [← List.drop_eq_getElem_cons hj,List.take_append_drop]
  have e2:l.set j c=l.take j++c::l.drop (j+1):=by rw [List.set_eq_take_append_cons_drop,if_pos hj]
  have h1:bR l=bR (l.take j)+(dH l[j]+1+bR (l.drop (j+1))):=by
    have:=congrArg bR e
    rw [aGL] at this
    rw [this]
    unfold bR;rw [lX]
  have h2:bR (l.set j c)=bR (l.take j)+(dH c+1+bR (l.drop (j+1))):=by
    rw [e2,aGL]
    unfold bR;rw [lX]
  omega
theorem aIe {t:Tree} (ht:vZ t) (k:Nat) (hk:k < t.fNodes.length) (m:Nat) (hm:m+k+1=t.fNodes.length) (out:List Clique) (ho:InvC out m) :
    ∃ out',eP t ((k:Int),out)=some (.inl ((k:Int) - 1,out'))∧eT t ((k:Int),out)=some (.inl ((k:Int) - 1,out'))∧InvC out' (m+1):=by
  obtain ⟨h9,hn⟩:=aB0 ht
  obtain ⟨n1,n2,n3⟩:=hn _ (List.getElem_mem hk)
  have hpl:=aJC n3
  obtain ⟨b,v1,_,v3⟩:=aHk (t.fNodes[k]).fCond (by omega)
  rw [n2] at v1
  have hb:=Option.some.inj v1
  obtain ⟨_,v4⟩:=v3 hb.symm
  have hpos:∀ p ∈ (t.fNodes[k]).fCond.fParents,0≤p.fNode:=fun p hp=>by
    obtain ⟨j,hj,rfl⟩:=List.getElem_of_mem hp
    exact (v4 j hj).1.1
  have sS:=aMY (t.fNodes[k]).fCond (by omega)
  have sI:=aMZ t.fNodes[k] (by omega) hpos
  have hsl:(aCY (t.fNodes[k]).fCond).length≤20000:=by
    refine Nat.le_trans (List.length_filter_le _ _) ?_
    unfold aDK;rw [List.length_map];exact hpl
  have hosz:=ho.sz
  have hlen:=ho.len
  obtain ⟨r,c1,c2⟩:=aJb out (t.fNodes[k]).fUp (by omega) (fun c hc=>by have:=aLC hc;omega)
  have cI:((if (t.fNodes[k]).fUp≠0 then (sF out (t.fNodes[k]).fUp).bind fun r46=>some r46 else some (-1)):Option Int)=some r:=by
    by_cases z:(t.fNodes[k]).fUp≠0
    · rw [if_pos z,aF8,c1];rfl
    · rw [if_neg z]
      rcases c2 with ⟨rfl,_⟩ | ⟨j,hj,rfl,g⟩
      · rfl
      · exfalso
        have:=ho.pos _ (List.getElem_mem hj) _ g
        omega
  have w1:IntKind.i64.wrap ((k:Int) - 1)=(k:Int) - 1:=wi (by omega)
  have hnew:∀ (S:((if 0≤r then (idx out r).bind fun y25=>(lM y25).bind fun r26=>(qL (aCY (t.fNodes[k]).fCond) r26).bind fun r27=>some r27 else some false):Option Bool)=some false)
      (I:((if 0≤r then (gQ out r).bind fun r50=>(hC (aCY (t.fNodes[k]).fCond) r50).bind fun r51=>some r51 else some false):Option Bool)=some false),
      ∃ out',eP t ((k:Int),out)=some (.inl ((k:Int) - 1,out'))∧eT t ((k:Int),out)=some (.inl ((k:Int) - 1,out'))∧InvC out' (m+1):=by
    intro S I
    refine ⟨out++[⟨[(t.fNodes[k]).fNode],aCY (t.fNodes[k]).fCond,r⟩],?_,?_,?_⟩
    · unfold eP
      simp only []
      rw [if_pos (by omega),aH hk]
      simp only [Option.bind_some,sS,c1]
      rw [S]
      simp only [Option.bind_some,Bool.false_eq_true,if_false]
      rw [aQ (by omega),w1];rfl
    · unfold eT
      simp only []
      rw [if_pos (by omega),aH hk]
      simp only [Option.bind_some,sI]
      rw [cI]
      simp only [Option.bind_some]
      rw [I]
      simp only [Option.bind_some,Bool.false_eq_true,if_false]
      rw [aQ (by omega),w1];rfl
    · refine ⟨by rw [List.length_append,List.length_singleton];omega,?_,fun c hc x hx=>?_⟩
      · rw [aGL,aL4]
        simp only [List.length_singleton]
        omega
      · rcases List.mem_append.1 hc with hc | hc
        · exact ho.pos c hc x hx
        · rw [List.mem_singleton.1 hc] at hx
          rw [List.mem_singleton.1 hx];exact n1
  rcases c2 with ⟨rfl,_⟩ | ⟨j,hj,rfl,g⟩
  · exact hnew (by rw [if_neg (by omega)]) (by rw [if_neg (by omega)])
  · have hcm:=aLC (List.getElem_mem hj)
    have hcz:dH out[j]≤1048576:=by rw [xM];omega
    have q1:=aIU out[j] hcz
    have q2:=aCd out (j:Int) (by omega)
    have q3:aG5 out (j:Int)=wS out[j]:=by
      unfold aG5
      rw [if_pos (by omega),Int.toNat_natCast,List.getElem?_eq_getElem hj]
    have S:((if 0≤(j:Int) then (idx out (j:Int)).bind fun y25=>(lM y25).bind fun r26=>(qL (aCY (t.fNodes[k]).fCond) r26).bind fun r27=>some r27 else some false):Option Bool)=some (decide (aCY (t.fNodes[k]).fCond=wS out[j])):=by
      rw [if_pos (by omega),aH hj]
      simp only [Option.bind_some,q1,aKg _ _ (by omega:(aCY (t.fNodes[k]).fCond).length≤4294967296)]
    have I:((if 0≤(j:Int) then (gQ out (j:Int)).bind fun r50=>(hC (aCY (t.fNodes[k]).fCond) r50).bind fun r51=>some r51 else some false):Option Bool)=some (decide (aCY (t.fNodes[k]).fCond=wS out[j])):=by
      rw [if_pos (by omega),q2,q3]
      simp only [Option.bind_some,aAa _ _ (by omega:(aCY (t.fNodes[k]).fCond).length≤4294967296)]
    by_cases c:aCY (t.fNodes[k]).fCond=wS out[j]
    · rw [decide_eq_true c] at S I
      refine ⟨out.set j ⟨[(t.fNodes[k]).fNode]++(out[j]).fFrontal,(out[j]).fSeparator,(out[j]).fUp⟩,?_,?_,?_⟩
      · unfold eP
        simp only []
        rw [if_pos (by omega),aH hk]
        simp only [Option.bind_some,sS,c1]
        rw [S]
        simp only [Option.bind_some,if_true]
        rw [aH hj]
        simp only [Option.bind_some]
        rw [aQ (by simp only [List.length_singleton];omega),w1];rfl
      · unfold eT
        simp only []
        rw [if_pos (by omega),aH hk]
        simp only [Option.bind_some,sI]
        rw [cI]
        simp only [Option.bind_some]
        rw [I]
        simp only [Option.bind_some,if_true]
        rw [aH hj]
        simp only [Option.bind_some]
        rw [aQ (by simp only [List.length_singleton];omega),w1];rfl
      · refine ⟨by rw [List.length_set];omega,?_,fun c hc x hx=>?_⟩
        · have:=aL3 hj ⟨[(t.fNodes[k]).fNode]++(out[j]).fFrontal,(out[j]).fSeparator,(out[j]).fUp⟩
          rw [xM,xM] at this
          simp only [List.length_append,List.length_singleton] at this
          omega
        · rcases List.mem_or_eq_of_mem_set hc with hc | hc
          · exact ho.pos c hc x hx
          · subst hc
            rcases List.mem_append.1 hx with hx | hx
            · rw [List.mem_singleton.1 hx];exact n1
            · exact ho.pos _ (List.getElem_mem hj) x hx
    · rw [decide_eq_false c] at S I
      exact hnew S I
theorem aDE {t:Tree} (ht:vZ t):∀ (k m:Nat) (out:List Clique),m+k=t.fNodes.length→InvC out m→∃ r,lp (eP t) ((k:Int) - 1,out)=some r∧lp (eT t) ((k:Int) - 1,out)=some r∧bR r≤20010*9
  | 0,m,out,hm,ho=>by
    have h9:=(aB0 ht).1
    refine ⟨out,aN ?_,aN ?_,Nat.le_trans ho.sz (Nat.mul_le_mul (Nat.le_refl _) (by omega))⟩
    · unfold eP;simp only [];rw [if_neg (by omega)]
    · unfold eT;simp only [];rw [if_neg (by omega)]
  | k+1,m,out,hm,ho=>by
    obtain ⟨o',e1,e2,e3⟩:=aIe ht k (by omega) m (by omega) out ho
    obtain ⟨r,f1,f2,f3⟩:=aDE ht k (m+1) o' (by omega) e3
    rw [show ((k+1:Nat):Int) - 1=(k:Int) by omega]
    exact ⟨r,by rw [bF e1];exact f1,by rw [bF e2];exact f2,f3⟩
theorem aIq (t:Tree) (h:dV t≤1048576):∃ r,pQ t=some r∧mV t=some r∧bR r≤180090:=by
  obtain ⟨e1,e2⟩:=aLR t (by omega)
  unfold pQ mV
  rw [e1,e2]
  by_cases c:vZ t
  · obtain ⟨r,f1,f2,f3⟩:=aDE c t.fNodes.length 0 [] (by omega) ⟨Nat.le_refl _,Nat.zero_le _,by simp⟩
    have h9:=(aB0 c).1
    have w:IntKind.i64.wrap ((t.fNodes.length:Int) - 1)=(t.fNodes.length:Int) - 1:=wi (by omega)
    rw [decide_eq_true c]
    refine ⟨r,?_,?_,f3⟩
    · simp only [Option.bind_some,if_true,aM,w,f1]
    · simp only [Option.bind_some,if_true,aM,w,f2]
  · rw [decide_eq_false c]
    exact ⟨[],rfl,rfl,Nat.zero_le _⟩
theorem aLU (t:Tree) (ot:aG4 t):kK t=some true:=by
  unfold kK
  rw [aL0 t ot _ (by omega) (by omega)]
  simp only [Option.bind_some]
  by_cases h:(dV t:Int)≤1048576
  · rw [if_pos h,if_neg (by omega)]
    obtain ⟨r,e1,e2,z1⟩:=aIq t (by omega)
    obtain ⟨k1,x1,m1,_,m3,m4⟩:=aMg t 1 (by omega) (by omega)
    obtain ⟨k3,x3,p1,p2,p3,p4,_⟩:=aIQ r 1 (by omega) (by omega)
    have c2:¬k1 < 0:=by omega
    have c3:¬k3 < 0:=by omega
    simp only [aLY t (by omega),e1,e2,Option.bind_some,aMk t (by omega),aI3 r (by omega),m1,p1,p2,c2,c3,if_true,if_false,beq_self_eq_true,Bool.not_true,Bool.false_eq_true,ne_eq,not_true_eq_false]
  · rw [if_neg h,if_pos (by omega)]
end Go.Ev
