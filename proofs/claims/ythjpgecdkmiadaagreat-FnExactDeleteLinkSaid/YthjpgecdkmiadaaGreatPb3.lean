/- Parts PR5, PR6, PR7, PR8, PR9, P21, PS1, PS2, PS3. -/
import Derived.Test.YthjpgecdkmiadaaGreatPb2
import Derived.Test.YthjpgecdkmiadaaGreatPb1
import Derived.Test.YthjpgecdkmiadaaGreatPa1
set_option linter.all false
/- Eliminating a node of a link set, both programs. -/
namespace Go.Ev
open IntKind
set_option linter.all false
noncomputable def uO (a:List l08Arm):Rat:=a.foldl (fun t a=>RA t a.fweight) (yL 0)
noncomputable def gK (t:Rat) (a:l08Arm):Parent:=⟨a.fnode,RD a.fweight t,a.fdx,a.fdy⟩
noncomputable def vY (t:Rat) (a b:l08Arm):Link:=⟨a.fnode,b.fnode,RD (RM a.fweight b.fweight) t,RS a.fdx b.fdx,RS a.fdy b.fdy⟩
noncomputable def iY (t:Rat):List l08Arm→List Link
  | []=>[]
  | a::r=>r.map (vY t a)++iY t r
noncomputable def aBU (v:Int) (a:List l08Arm):Conditional:=⟨v,uO a,a.map (gK (uO a))⟩
def aAf (v:Int) (a:List l08Arm):Prop:=eC (aBU v a)=some true
noncomputable instance (v:Int) (a:List l08Arm):Decidable (aAf v a):=Classical.propDecidable _
noncomputable def zQ (v:Int) (s:List Link):Option (Conditional × List Link) :=
  if (1≤v∧v≤9)∧aAf v (bY v s)∧(∀ x ∈ iY (uO (bY v s)) (bY v s),ValidL x) then some (aBU v (bY v s),iY (uO (bY v s)) (bY v s)) else none
theorem aKA {v:Int} {s:List Link} (h:(1≤v∧v≤9)∧aAf v (bY v s)∧(∀ x ∈ iY (uO (bY v s)) (bY v s),ValidL x)):zQ v s=some (aBU v (bY v s),iY (uO (bY v s)) (bY v s)):=by unfold zQ;rw [if_pos h]
theorem aCa {v:Int} {s:List Link} (h:¬((1≤v∧v≤9)∧aAf v (bY v s)∧(∀ x ∈ iY (uO (bY v s)) (bY v s),ValidL x))):zQ v s=none:=by unfold zQ;rw [if_neg h]
def aE3:Conditional:=Conditional.mk 0 (Rat.mk (BigInt.mk false ([])) ([])) ([])
def pkE:Option (Conditional × List Link)→Conditional × List Link × Bool
  | some (c,m)=>(c,m,true)
  | none=>(aE3,[],false)
theorem aIL:∀ (a:List l08Arm) (t:Rat),(∀ x ∈ a,xO x)→VZ t→VZ (a.foldl (fun t a=>RA t a.fweight) t)
  | [],t,_,h=>h
  | x::a,t,ho,h=>aIL a _ (fun y hy=>ho y (by simp [hy])) (aC7 h (ho x (by simp)).2.1).2.2
theorem aAA {a:List l08Arm} (h:∀ x ∈ a,xO x):VZ (uO a):=aIL a _ h (.inl aB4)
theorem aC1 {α β:Type} (g:α→β):∀ (l:List α) (t:List β),l.foldl (fun t b=>t++[g b]) t=t++l.map g
  | [],t=>by simp
  | x::l,t=>by rw [List.foldl_cons,aC1 g l,List.map_cons,List.append_assoc];rfl
theorem aIz {t:Rat} {a b:l08Arm} (ht:VZ t) (ha:xO a) (hb:xO b):aX (vY t a b)≤144:=by
  have h1:=rS (aGH (aGm ha.2.1 hb.2.1).2.2 ht).2.2
  have h2:=rS (aI6 ha.2.2.1 hb.2.2.1).2.2
  have h3:=rS (aI6 ha.2.2.2 hb.2.2.2).2.2
  unfold aX vY;simp only [];omega
theorem aKn {t:Rat} (ht:VZ t):∀ {a:List l08Arm},(∀ x ∈ a,xO x)→∀ x ∈ iY t a,aX x≤144
  | [],_,x,hx=>by cases hx
  | a::r,h,x,hx=>by
    rw [iY] at hx
    rcases List.mem_append.1 hx with hx | hx
    · obtain ⟨b,hb,rfl⟩:=List.mem_map.1 hx
      exact aIz ht (h a (by simp)) (h b (by simp [hb]))
    · exact aKn ht (fun y hy=>h y (by simp [hy])) x hx
theorem aFD (t:Rat):∀ {a:List l08Arm} {n:Nat},a.length≤n→(iY t a).length≤n*a.length
  | [],n,_=>by simp [iY]
  | a::r,n,h=>by
    rw [List.length_cons] at h
    have:=aFD t (a:=r) (n:=n) (by omega)
    rw [iY,List.length_append,List.length_map,List.length_cons,Nat.mul_add,Nat.mul_one];omega
theorem aL0 (t:Rat):∀ {a:List l08Arm} {x:Link},x ∈ iY t a→∃ y ∈ a,x.fA=y.fnode
  | [],x,hx=>by cases hx
  | a::r,x,hx=>by
    rw [iY] at hx
    rcases List.mem_append.1 hx with hx | hx
    · obtain ⟨b,hb,rfl⟩:=List.mem_map.1 hx
      exact ⟨a,by simp,rfl⟩
    · obtain ⟨y,hy,e⟩:=aL0 t hx
      exact ⟨y,by simp [hy],e⟩
theorem aIB (t:Rat):∀ {a:List l08Arm},(a.map (·.fnode)).Pairwise (· < ·)→(iY t a).Pairwise gC
  | [],_=>List.Pairwise.nil
  | a::r,h=>by
    rw [List.map_cons,List.pairwise_cons] at h
    rw [iY,List.pairwise_append]
    refine ⟨?_,aIB t h.2,fun x hx y hy=>?_⟩
    · rw [List.pairwise_map]
      have:=h.2
      rw [List.pairwise_map] at this
      exact this.imp (fun {b c} hbc=>.inr ⟨rfl,hbc⟩)
    · obtain ⟨b,hb,rfl⟩:=List.mem_map.1 hx
      obtain ⟨z,hz,e⟩:=aL0 t hy
      exact .inl (by rw [e];exact h.1 _ (List.mem_map.2 ⟨z,hz,rfl⟩))
theorem aGY {t:Rat} {a:List l08Arm} (h:(a.map (·.fnode)).Pairwise (· < ·)):LSet (iY t a)↔∀ x ∈ iY t a,ValidL x:=⟨fun g=>g.1,fun g=>⟨g,aIB t h⟩⟩
theorem aLc {a:List l08Arm} (ha:∀ x ∈ a,xO x) (hl:a.length≤100):lp (fG a) (0,yL 0)=some (uO a):=by
  have:=(iN (step:=fG a) a (fun k t=>((k:Int),t)) (fun t a=>RA t a.fweight) (fun t=>t) (fun _ t=>VZ t) (fun k t hk hi=>by
    have w1:i64.wrap ((k:Int)+1)=((k+1:Nat):Int):=by rw [wi (by omega)];omega
    obtain ⟨q1,_,q3⟩:=aC7 hi (ha _ (List.getElem_mem hk)).2.1
    refine ⟨?_,q3⟩
    unfold fG
    simp only []
    rw [if_pos (by omega),aI hk]
    simp only [Option.bind_some,q1,w1]) (fun t _=>by unfold fG;simp only [];rw [if_neg (by omega)]) (yL 0) (.inl aB4)).1
  rw [show ((0:Nat):Int)=0 from rfl] at this
  exact this
theorem aLe {a:List l08Arm} {t:Rat} (ht:VZ t) (ha:∀ x ∈ a,xO x) (hl:a.length≤100):lp (fF a t) (0,[])=some (a.map (gK t)):=by
  have:=aAo (step:=fF a t) (a.map (gK t)) (fun k t=>((k:Int),t)) (fun t=>t) (fun k u hk hu=>by
    have hk2:k < a.length:=by rwa [List.length_map] at hk
    have w1:i64.wrap ((k:Int)+1)=((k+1:Nat):Int):=by rw [wi (by omega)];omega
    have ho:=ha _ (List.getElem_mem hk2)
    have q:=(aGH ho.2.1 ht).1
    unfold fF
    simp only []
    rw [if_pos (by omega),aI hk2]
    simp only [Option.bind_some,q,qQ _ (VZs ho.2.2.1),qQ _ (VZs ho.2.2.2),w1]
    rw [aP (by omega)]
    simp only [Option.bind_some,uD,List.getElem_map]
    rfl) (fun u hu=>by unfold fF;simp only [];rw [List.length_map,if_neg (by omega)])
  rw [show ((0:Nat):Int)=0 from rfl] at this
  exact this
theorem aLd {r:List l08Arm} {x:l08Arm} {t:Rat} (ht:VZ t) (hx:xO x) (hr:∀ y ∈ r,xO y) (hl:r.length≤100) (acc:List Link) (hacc:acc.length≤1000000) :
    lp (fE r x t) (0,acc)=some (acc++r.map (vY t x)):=by
  have:=(iN (step:=fE r x t) r (fun k u=>((k:Int),u)) (fun u b=>u++[vY t x b]) (fun u=>u) (fun k u=>u.length≤1000000+k) (fun k u hk hi=>by
    have w1:i64.wrap ((k:Int)+1)=((k+1:Nat):Int):=by rw [wi (by omega)];omega
    have ho:=hr _ (List.getElem_mem hk)
    have q0:=aGm hx.2.1 ho.2.1
    have q1:=(aGH q0.2.2 ht).1
    have q2:=(aI6 hx.2.2.1 ho.2.2.1).1
    have q3:=(aI6 hx.2.2.2 ho.2.2.2).1
    refine ⟨?_,by rw [List.length_append,List.length_singleton];omega⟩
    unfold fE
    simp only []
    rw [if_pos (by omega),aI hk]
    simp only [Option.bind_some,q0.1,q1,q2,q3,w1]
    rw [aP (by omega)]
    rfl) (fun u _=>by unfold fE;simp only [];rw [if_neg (by omega)]) acc (by omega)).1
  rw [show ((0:Nat):Int)=0 from rfl,aC1] at this
  exact this
theorem aLt {α:Type} (l:List α) (k:Nat) (hk:k+1≤l.length) (hl:l.length≤4294967296):sub l (i64.wrap ((k:Int)+1)) (l.length:Int)=some (l.drop (k+1)):=by
  have w1:i64.wrap ((k:Int)+1)=((k+1:Nat):Int):=by rw [wi (by omega)];omega
  rw [w1,tN _ _ _ (by omega)];congr 1
  rw [List.take_of_length_le];rfl
  rw [List.length_drop];omega
theorem aJJ {a:List l08Arm} {t:Rat} (ht:VZ t) (ha:∀ x ∈ a,xO x) (hl:a.length≤100):lp (dY a t) (0,[])=some (iY t a):=by
  have main:∀ m k:Nat,m+k=a.length→∀ acc:List Link,acc.length≤100*k→lp (dY a t) ((k:Int),acc)=some (acc++iY t (a.drop k)):=by
    intro m
    induction m with
    | zero =>
      intro k hk acc hacc
      rw [List.drop_eq_nil_of_le (by omega),iY,List.append_nil]
      exact aN (by unfold dY;simp only [];rw [if_neg (by omega)])
    | succ m ih =>
      intro k hk acc hacc
      have hlt:k < a.length:=by omega
      have w1:i64.wrap ((k:Int)+1)=((k+1:Nat):Int):=by rw [wi (by omega)];omega
      rw [List.drop_eq_getElem_cons hlt,iY]
      have row:=aLd (r:=a.drop (k+1)) ht (ha _ (List.getElem_mem hlt)) (fun y hy=>ha y (List.mem_of_mem_drop hy)) (by rw [List.length_drop];omega) acc (by omega)
      have st:dY a t ((k:Int),acc)=some (.inl (((k+1:Nat):Int),acc++(a.drop (k+1)).map (vY t a[k]))):=by
        unfold dY
        simp only []
        rw [if_pos (by omega),aI hlt,aLt a k (by omega) (by omega)]
        simp only [Option.bind_some,row,w1]
      rw [bF st,ih (k+1) (by omega) _ (by rw [List.length_append,List.length_map,List.length_drop];omega),List.append_assoc]
  have:=main a.length 0 (by omega) [] (by simp)
  rw [show ((0:Nat):Int)=0 from rfl,List.drop_zero,List.nil_append] at this
  exact this
theorem aKC {v:Int} {a:List l08Arm} (ha:∀ x ∈ a,xO x) (hl:a.length≤100):aQ (aBU v a)≤4294967296:=by
  have h1:=rS (aAA ha)
  have h2:cU (a.map (gK (uO a)))≤145*(a.map (gK (uO a))).length:=aDP (c:=144) (fun p hp=>by
    obtain ⟨x,hx,rfl⟩:=List.mem_map.1 hp
    have ho:=ha x hx
    have g1:=rS (aGH ho.2.1 (aAA ha)).2.2
    have g2:=rS ho.2.2.1
    have g3:=rS ho.2.2.2
    unfold bZ gK;simp only [];omega)
  rw [List.length_map] at h2
  unfold aQ aBU;simp only [];omega
theorem aMW {s:List Link} (hs:LSet s) (v:Int):kO s v=some (pkE (zQ v s)):=by
  have ha:=aGi hs v
  have hl:=aCe hs v
  have ht:=aAA ha
  obtain ⟨b,b1,b2,_⟩:=aKE _ (aKC (v:=v) ha hl)
  have inc:=aHc hs v
  unfold kO
  rw [mN s (by have:=hs.sz;omega),decide_eq_true hs,aDF]
  simp only [Option.bind_some,if_true]
  by_cases c:1≤v∧v≤9
  · rw [decide_eq_true c]
    simp only [Bool.not_true,Bool.false_eq_true,if_false]
    rw [aNE hs v,lU 0 (by omega)]
    simp only [Option.bind_some]
    rw [aLc ha hl]
    simp only [Option.bind_some]
    rw [aLe ht ha hl]
    simp only [Option.bind_some]
    rw [aJJ ht ha hl]
    simp only [Option.bind_some]
    have e:(Conditional.mk v (uO (bY v s)) ((bY v s).map (gK (uO (bY v s)))))=aBU v (bY v s):=rfl
    rw [e,b1]
    simp only [Option.bind_some]
    have hms:=aDP (aKn ht ha)
    have hml:=aFD (uO (bY v s)) (a:=bY v s) (Nat.le_refl _)
    have hm2:(bY v s).length*(bY v s).length≤100*100:=Nat.mul_le_mul hl hl
    rw [mN _ (by unfold aG;omega)]
    cases b with
    | false =>
      have:¬aAf v (bY v s):=by unfold aAf;rw [b1];simp
      rw [aCa (fun h=>this h.2.1)];rfl
    | true =>
      have hc:aAf v (bY v s):=b1
      simp only [if_true,Option.bind_some]
      by_cases d:∀ x ∈ iY (uO (bY v s)) (bY v s),ValidL x
      · rw [decide_eq_true ((aGY inc).2 d),aKA ⟨c,hc,d⟩];rfl
      · rw [decide_eq_false (fun h=>d ((aGY inc).1 h)),aCa (fun h=>d h.2.2)];rfl
  · rw [decide_eq_false c]
    rw [aCa (fun h=>c h.1)];rfl
def yM (a:l08Arm):Parent:=⟨a.fnode,qE,a.fdx,a.fdy⟩
theorem aJU (v:Int) (s:List Link) (k:Nat) (hk:k < s.length):bY v (s.take (k+1))=bY v (s.take k)++(if tch v s[k] then [aBV v s[k]] else []):=by
  have tk:s.take (k+1)=s.take k++[s[k]]:=by rw [List.take_add_one,List.getElem?_eq_getElem hk];rfl
  unfold bY
  rw [tk,List.filter_append,List.map_append]
  congr 1
  by_cases c:tch v s[k] <;> simp [c]
theorem aJL {s:List Link} (hs:LSet s) (v:Int):lp (eB s v) (0,yL 0,[],[])=some (uO (bY v s),(bY v s).map (·.fweight),(bY v s).map yM):=by
  have hlen:=hs.len
  have hpre:∀ k,∀ a ∈ bY v (s.take k),xO a:=fun k a ha=>by
    obtain ⟨l,hl,rfl⟩:=List.mem_map.1 ha
    exact aI1 (hs.1 l (List.mem_of_mem_take (List.mem_filter.1 hl).1))
  have hpl:∀ k,(bY v (s.take k)).length≤100:=fun k=>by
    have:=List.length_filter_le (tch v) (s.take k)
    have h2:(s.take k).length≤s.length:=by rw [List.length_take];omega
    unfold bY;rw [List.length_map];omega
  have main:∀ m k:Nat,m+k=s.length→lp (eB s v) ((k:Int),uO (bY v (s.take k)),(bY v (s.take k)).map (·.fweight),(bY v (s.take k)).map yM)=some (uO (bY v s),(bY v s).map (·.fweight),(bY v s).map yM):=by
    intro m
    induction m with
    | zero =>
      intro k hk
      rw [List.take_of_length_le (by omega)]
      exact aN (by unfold eB;simp only [];rw [if_neg (by omega)])
    | succ m ih =>
      intro k hk
      have hlt:k < s.length:=by omega
      have w1:i64.wrap ((k:Int)+1)=((k+1:Nat):Int):=by rw [wi (by omega)];omega
      have hv:=hs.1 _ (List.getElem_mem hlt)
      obtain ⟨v1,v2,v3⟩:=hv.vz
      have n1:=(aMv v2).2.1
      have n2:=(aMv v3).2.1
      have ra:=(aC7 (aAA (hpre k)) v1).2.1
      have hp:=hpl k
      have st:eB s v ((k:Int),uO (bY v (s.take k)),(bY v (s.take k)).map (·.fweight),(bY v (s.take k)).map yM)=some (.inl (((k+1:Nat):Int),uO (bY v (s.take (k+1))),(bY v (s.take (k+1))).map (·.fweight),(bY v (s.take (k+1))).map yM)):=by
        rw [aJU v s k hlt]
        unfold eB
        simp only []
        rw [if_pos (by omega),aI hlt]
        simp only [Option.bind_some,n1,n2,ra,w1]
        have k1:∀ {α:Type} {f:l08Arm→α},((bY v (s.take k)).map f).length≤100:=by intro α f;rw [List.length_map];exact hp
        by_cases A:(s[k]).fA=v
        · rw [if_pos A,aP (by have:=k1 (f:=yM);omega)]
          simp only [Option.bind_some,uD]
          rw [aP (by have:=k1 (f:=fun a=>a.fweight);omega)]
          simp [tch,A,aBV,uO,yM,qE,ra]
        · by_cases B:(s[k]).fB=v
          · rw [if_neg A,if_pos B,aP (by have:=k1 (f:=yM);omega)]
            simp only [Option.bind_some,uD]
            rw [aP (by have:=k1 (f:=fun a=>a.fweight);omega)]
            simp [tch,A,B,aBV,uO,yM,qE,ra]
          · simp [tch,A,B]
      rw [bF st]
      exact ih (k+1) (by omega)
  have:=main s.length 0 (by omega)
  simpa [bY,uO] using this
theorem aLg {a:List l08Arm} {t:Rat} (ht:VZ t) (ha:∀ x ∈ a,xO x) (hl:a.length≤100):lp (eA (t,a.map (·.fweight),a.map yM)) (0,a.map yM)=some (a.map (gK t)):=by
  have main:∀ m k:Nat,m+k=a.length→lp (eA (t,a.map (·.fweight),a.map yM)) ((k:Int),(a.take k).map (gK t)++(a.drop k).map yM)=some (a.map (gK t)):=by
    intro m
    induction m with
    | zero =>
      intro k hk
      refine aN ?_
      unfold eA
      simp only [List.length_map]
      rw [if_neg (by omega),List.drop_eq_nil_of_le (by omega),List.take_of_length_le (by omega)]
      simp
    | succ m ih =>
      intro k hk
      have hlt:k < a.length:=by omega
      have w1:i64.wrap ((k:Int)+1)=((k+1:Nat):Int):=by rw [wi (by omega)];omega
      have ho:=ha _ (List.getElem_mem hlt)
      have q:=(aGH ho.2.1 ht).2.1
      have tl:((a.take k).map (gK t)).length=k:=by rw [List.length_map,List.length_take];omega
      have e1:idx (a.map (fun x=>x.fweight)) (k:Int)=some (a[k]).fweight:=by rw [aI (by rwa [List.length_map]),List.getElem_map]
      have e2:idx ((a.take k).map (gK t)++(a.drop k).map yM) (k:Int)=some (yM a[k]):=by
        rw [aDH,List.getElem?_append_right (by omega),tl,Nat.sub_self,List.drop_eq_getElem_cons hlt];rfl
      have e3:gD ((a.take k).map (gK t)++(a.drop k).map yM) (k:Int) (gK t a[k])=(a.take (k+1)).map (gK t)++(a.drop (k+1)).map yM:=by
        rw [iL,List.set_append_right _ _ (by omega),tl,Nat.sub_self,List.drop_eq_getElem_cons hlt,List.map_cons,List.set_cons_zero,List.take_add_one,List.getElem?_eq_getElem hlt,List.map_append,List.append_assoc]
        rfl
      have st:eA (t,a.map (·.fweight),a.map yM) ((k:Int),(a.take k).map (gK t)++(a.drop k).map yM)=some (.inl (((k+1:Nat):Int),(a.take (k+1)).map (gK t)++(a.drop (k+1)).map yM)):=by
        unfold eA
        simp only [List.length_map]
        rw [if_pos (by omega),e1]
        simp only [Option.bind_some,q,e2,uD,w1]
        have:(Parent.mk (yM a[k]).fNode (RD (a[k]).fweight t) (yM a[k]).fDX (yM a[k]).fDY)=gK t a[k]:=rfl
        rw [this,e3]
      rw [bF st]
      exact ih (k+1) (by omega)
  have:=main a.length 0 (by omega)
  simpa using this
def aFl (t:Rat) (x:l08Arm) (r:List l08Arm):Prop:=∀ y ∈ r,ValidL (vY t x y)
noncomputable instance (t:Rat) (x:l08Arm) (r:List l08Arm):Decidable (aFl t x r):=Classical.propDecidable _
theorem aLf {a:List l08Arm} {t:Rat} (ht:VZ t) (ha:∀ x ∈ a,xO x) (hl:a.length≤100) (q0:List Parent) (i:Nat) (hi:i < a.length):∀ m j:Nat,m+j=a.length→∀ acc:List Link,acc.length≤1000000+j →
    lp (fH (a.map (gK t)) (t,a.map (·.fweight),q0) (i:Int) (gK t a[i])) ((j:Int),acc)=some (if aFl t a[i] (a.drop j) then .inl (acc++(a.drop j).map (vY t a[i])) else .inr (aE3,[],false)):=by
  intro m
  induction m with
  | zero =>
    intro j hj acc hacc
    rw [List.drop_eq_nil_of_le (by omega),if_pos (by intro y hy;cases hy),List.map_nil,List.append_nil]
    exact aN (by unfold fH;simp only [List.length_map];rw [if_neg (by omega)])
  | succ m ih =>
    intro j hj acc hacc
    have hlt:j < a.length:=by omega
    have w1:i64.wrap ((j:Int)+1)=((j+1:Nat):Int):=by rw [wi (by omega)];omega
    have hx:=ha _ (List.getElem_mem hi)
    have ho:=ha _ (List.getElem_mem hlt)
    have p0:=aGm hx.2.1 ho.2.1
    have p1:=(aGH p0.2.2 ht).2.1
    have p2:=(aI6 hx.2.2.1 ho.2.2.1).2.1
    have p3:=(aI6 hx.2.2.2 ho.2.2.2).2.1
    have vl:=(gF (vY t a[i] a[j]) (by have:=aIz ht hx ho;omega)).2
    have e0:idx (a.map (gK t)) (j:Int)=some (gK t a[j]):=by rw [aI (by rwa [List.length_map]),List.getElem_map]
    have e1:idx (a.map (fun x=>x.fweight)) (i:Int)=some (a[i]).fweight:=by rw [aI (by rwa [List.length_map]),List.getElem_map]
    have e2:idx (a.map (fun x=>x.fweight)) (j:Int)=some (a[j]).fweight:=by rw [aI (by rwa [List.length_map]),List.getElem_map]
    have st:fH (a.map (gK t)) (t,a.map (·.fweight),q0) (i:Int) (gK t a[i]) ((j:Int),acc)=some (if ValidL (vY t a[i] a[j]) then .inl (((j+1:Nat):Int),acc++[vY t a[i] a[j]]) else .inr (.inr (aE3,[],false))):=by
      unfold fH
      simp only [List.length_map]
      rw [if_pos (by omega),e0,e1,e2]
      simp only [Option.bind_some,p0.2.1,p1,w1]
      have f1:(gK t a[i]).fDX=(a[i]).fdx:=rfl
      have f2:(gK t a[i]).fDY=(a[i]).fdy:=rfl
      have f3:(gK t a[j]).fDX=(a[j]).fdx:=rfl
      have f4:(gK t a[j]).fDY=(a[j]).fdy:=rfl
      rw [f1,f2,f3,f4,p2]
      simp only [Option.bind_some]
      rw [p3]
      simp only [Option.bind_some]
      have f5:(Link.mk (gK t a[i]).fNode (gK t a[j]).fNode (RD (RM (a[i]).fweight (a[j]).fweight) t) (RS (a[i]).fdx (a[j]).fdx) (RS (a[i]).fdy (a[j]).fdy))=vY t a[i] a[j]:=rfl
      rw [f5,vl]
      simp only [Option.bind_some]
      by_cases c:ValidL (vY t a[i] a[j])
      · rw [decide_eq_true c,if_pos rfl,if_pos c,aP (by omega)];rfl
      · rw [decide_eq_false c,if_neg c];rfl
    rw [List.drop_eq_getElem_cons hlt]
    by_cases c:ValidL (vY t a[i] a[j])
    · rw [if_pos c] at st
      rw [bF st,ih (j+1) (by omega) _ (by rw [List.length_append,List.length_singleton];omega)]
      have:aFl t a[i] (a[j]::a.drop (j+1))↔aFl t a[i] (a.drop (j+1)):=⟨fun h x hx'=>h x (List.mem_cons_of_mem _ hx'),fun h x hx'=>by rcases List.mem_cons.1 hx' with rfl | h';exact c;exact h x h'⟩
      simp only [this,List.map_cons,List.append_assoc,List.singleton_append]
    · rw [if_neg c] at st
      rw [aN st,if_neg (fun h=>c (h _ List.mem_cons_self))]
theorem aJK {a:List l08Arm} {t:Rat} (ht:VZ t) (ha:∀ x ∈ a,xO x) (hl:a.length≤100) (q0:List Parent):lp (dZ (a.map (gK t)) (t,a.map (·.fweight),q0)) (0,[])=some (if ∀ x ∈ iY t a,ValidL x then .inl (iY t a) else .inr (aE3,[],false)):=by
  have main:∀ m k:Nat,m+k=a.length→∀ acc:List Link,acc.length≤100*k→lp (dZ (a.map (gK t)) (t,a.map (·.fweight),q0)) ((k:Int),acc)=some (if ∀ x ∈ iY t (a.drop k),ValidL x then .inl (acc++iY t (a.drop k)) else .inr (aE3,[],false)):=by
    intro m
    induction m with
    | zero =>
      intro k hk acc hacc
      rw [List.drop_eq_nil_of_le (by omega),if_pos (by simp [iY]),iY,List.append_nil]
      exact aN (by unfold dZ;simp only [List.length_map];rw [if_neg (by omega)])
    | succ m ih =>
      intro k hk acc hacc
      have hlt:k < a.length:=by omega
      have w1:i64.wrap ((k:Int)+1)=((k+1:Nat):Int):=by rw [wi (by omega)];omega
      have e0:idx (a.map (gK t)) (k:Int)=some (gK t a[k]):=by rw [aI (by rwa [List.length_map]),List.getElem_map]
      have row:=aLf ht ha hl q0 k hlt (a.length - (k+1)) (k+1) (by omega) acc (by omega)
      rw [List.drop_eq_getElem_cons hlt,iY]
      have st:dZ (a.map (gK t)) (t,a.map (·.fweight),q0) ((k:Int),acc)=some (if aFl t a[k] (a.drop (k+1)) then .inl (((k+1:Nat):Int),acc++(a.drop (k+1)).map (vY t (a[k]'hlt))) else .inr (.inr (aE3,[],false))):=by
        unfold dZ
        simp only [List.length_map]
        rw [if_pos (by omega),e0]
        simp only [Option.bind_some,w1,row]
        by_cases c:aFl t a[k] (a.drop (k+1))
        · rw [if_pos c,if_pos c]
        · rw [if_neg c,if_neg c]
      by_cases c:aFl t a[k] (a.drop (k+1))
      · rw [if_pos c] at st
        rw [bF st,ih (k+1) (by omega) _ (by rw [List.length_append,List.length_map,List.length_drop];omega)]
        have:(∀ x ∈ (a.drop (k+1)).map (vY t a[k])++iY t (a.drop (k+1)),ValidL x)↔∀ x ∈ iY t (a.drop (k+1)),ValidL x:=⟨fun h x hx=>h x (List.mem_append_right _ hx),fun h x hx=>by
          rcases List.mem_append.1 hx with hx | hx
          · obtain ⟨y,hy,rfl⟩:=List.mem_map.1 hx;exact c y hy
          · exact h x hx⟩
        simp only [this,List.append_assoc]
      · rw [if_neg c] at st
        rw [aN st,if_neg]
        intro h
        exact c fun y hy=>h _ (List.mem_append_left _ (List.mem_map.2 ⟨y,hy,rfl⟩))
  have:=main a.length 0 (by omega) [] (by simp)
  rw [show ((0:Nat):Int)=0 from rfl,List.drop_zero,List.nil_append] at this
  exact this
theorem aMX {s:List Link} (hs:LSet s) (v:Int):lB s v=some (pkE (zQ v s)):=by
  have ha:=aGi hs v
  have hl:=aCe hs v
  have ht:=aAA ha
  obtain ⟨b,b1,b2,_⟩:=aKE _ (aKC (v:=v) ha hl)
  unfold lB
  have e0:((if v < 1 then some true else some (decide (10≤v))):Option Bool)=some (!decide (1≤v∧v≤9)):=by
    by_cases A:v < 1
    · have:¬1≤v:=by omega
      simp [A,this]
    · by_cases B:10≤v
      · have:¬v≤9:=by omega
        simp [A,B,this]
      · have h1:1≤v:=by omega
        have h2:v≤9:=by omega
        simp [A,B,h1,h2]
  rw [e0]
  simp only [Option.bind_some]
  by_cases c:1≤v∧v≤9
  · rw [decide_eq_true c]
    simp only [Bool.not_true,Bool.false_eq_true,if_false]
    rw [mM 0 (by omega)]
    simp only [Option.bind_some]
    rw [aJL hs v]
    simp only [Option.bind_some]
    rw [aLg ht ha hl]
    simp only [Option.bind_some]
    have e:(Conditional.mk v (uO (bY v s)) ((bY v s).map (gK (uO (bY v s)))))=aBU v (bY v s):=rfl
    rw [e,b2]
    simp only [Option.bind_some]
    cases b with
    | false =>
      have:¬aAf v (bY v s):=by unfold aAf;rw [b1];simp
      rw [aCa (fun h=>this h.2.1)];rfl
    | true =>
      have hc:aAf v (bY v s):=b1
      simp only [if_true]
      rw [aJK ht ha hl]
      by_cases d:∀ x ∈ iY (uO (bY v s)) (bY v s),ValidL x
      · rw [if_pos d,aKA ⟨c,hc,d⟩];rfl
      · rw [if_neg d,aCa (fun h=>d h.2.2)];rfl
  · rw [decide_eq_false c]
    rw [aCa (fun h=>c h.1)];rfl
end Go.Ev
/- Reducing a node of a link set and a node of a tree, both programs. -/
namespace Go.Ev
set_option linter.all false
theorem wi1 {k:Nat} (h:k≤4294967296):IntKind.i64.wrap ((k:Int)+1)=((k+1:Nat):Int):=by rw [wi (by omega)];omega
def zI (v:Int) (s:List Link):List Link:=s.filter (fun l=>!tch v l)
theorem wP {α:Type} (p:α→Bool):∀ (l t:List α),l.foldl (fun t x=>if p x=true then t++[x] else t) t=t++l.filter p
  | [],t=>by simp
  | x::l,t=>by
    rw [List.foldl_cons,wP p l,List.filter_cons]
    by_cases c:p x=true
    · simp only [c,if_true,List.append_assoc,List.singleton_append]
    · simp only [Bool.not_eq_true] at c;simp [c]
theorem aNb (v:Int) (l:Link):((if l.fA≠v then some (decide (l.fB≠v)) else some false):Option Bool)=some (!tch v l):=by
  unfold tch;by_cases A:l.fA=v <;> by_cases B:l.fB=v <;> simp [A,B]
theorem aKJ {s:List Link} (h:s.length≤4294967296) (v:Int):nO s v=some (zI v s):=by
  have:=(iN (step:=jN s v) s (fun k t=>((k:Int),t)) (fun t x=>if (fun l=>!tch v l) x=true then t++[x] else t) (fun t=>t) (fun k t=>t.length≤k) (fun k t hk hi=>by
    constructor
    · unfold jN
      simp only []
      rw [if_pos (by omega),aI hk]
      simp only [Option.bind_some,aNb,wi1 (by omega:k≤4294967296)]
      by_cases c:tch v s[k]=true
      · rw [if_neg (by simp [c]),if_neg (by simp [c])]
      · rw [if_pos (by simpa using c),if_pos (by simpa using c),aP (by omega)];rfl
    · simp only [];split
      · rw [List.length_append,List.length_singleton];omega
      · omega) (fun t _=>by unfold jN;simp only [];rw [if_neg (by omega)]) [] (Nat.zero_le _)).1
  rw [show ((0:Nat):Int)=0 from rfl,wP,List.nil_append] at this
  unfold nO
  rw [this];rfl
theorem aLn {s:List Link} (hs:LSet s) (v:Int):nD s v=some (zI v s):=by
  have hl:=hs.len
  have:=(iN (step:=jJ s v) s (fun k t=>((k:Int),t)) (fun t x=>if (fun l=>!tch v l) x=true then t++[x] else t) (fun t=>t) (fun k t=>t.length≤k) (fun k t hk hi=>by
    constructor
    · unfold jJ
      simp only []
      rw [if_pos (by omega),aI hk]
      have cp:=uT s[k] (by have:=(hs.1 _ (List.getElem_mem hk)).sz;omega)
      simp only [Option.bind_some,aNb,wi1 (by omega:k≤4294967296),cp]
      by_cases c:tch v s[k]=true
      · rw [if_neg (by simp [c]),if_neg (by simp [c])]
      · rw [if_pos (by simpa using c),if_pos (by simpa using c),aP (by omega)];rfl
    · simp only [];split
      · rw [List.length_append,List.length_singleton];omega
      · omega) (fun t _=>by unfold jJ;simp only [];rw [if_neg (by omega)]) [] (Nat.zero_le _)).1
  rw [show ((0:Nat):Int)=0 from rfl,wP,List.nil_append] at this
  unfold nD
  rw [mN s (by have:=hs.sz;omega),decide_eq_true hs]
  simp only [Option.bind_some,if_true,this]
  rfl
noncomputable def aDR (v:Int) (s:List Link):Option (Conditional × List Link × Rat) :=
  (zQ v s).bind fun x=>(jnP (zI v s++x.2)).map fun y=>(x.1,y.1,y.2)
def pkR:Option (Conditional × List Link × Rat)→Conditional × List Link × Rat × Bool
  | some (c,m,e)=>(c,m,e,true)
  | none=>(aE3,[],qE,false)
theorem aIQ {v:Int} {s:List Link} (hs:LSet s) {c:Conditional} {m:List Link} (h:zQ v s=some (c,m)):(∀ x ∈ m,ValidL x)∧m.length≤10000∧aQ c≤20000∧(1≤v∧v≤9):=by
  unfold zQ at h
  split at h
  · rename_i g
    cases h
    have ha:=aGi hs v
    have hl:=aCe hs v
    have h1:=aFD (uO (bY v s)) (a:=bY v s) (Nat.le_refl _)
    have h2:(bY v s).length*(bY v s).length≤100*100:=Nat.mul_le_mul hl hl
    have g1:=rS (aAA ha)
    have g2:cU ((bY v s).map (gK (uO (bY v s))))≤145*((bY v s).map (gK (uO (bY v s)))).length:=aDP (c:=144) (fun p hp=>by
      obtain ⟨x,hx,rfl⟩:=List.mem_map.1 hp
      have ho:=ha x hx
      have g1:=rS (aGH ho.2.1 (aAA ha)).2.2
      have g2:=rS ho.2.2.1
      have g3:=rS ho.2.2.2
      unfold bZ gK;simp only [];omega)
    rw [List.length_map] at g2
    refine ⟨g.2.2,by omega,?_,g.1⟩
    unfold aQ aBU;simp only [];omega
  · cases h
theorem aLz {v:Int} {s:List Link} (hs:LSet s):(∀ x ∈ zI v s,ValidL x)∧(zI v s).length≤100:=by
  have:=List.length_filter_le (fun l=>!tch v l) s
  have:=hs.len
  exact ⟨fun x hx=>hs.1 x (List.mem_filter.1 hx).1,by unfold zI;omega⟩
theorem aFp {s:List Link} (hs:LSet s) (v:Int):oZ s v=some (pkR (aDR v s))∧pP s v=some (pkR (aDR v s)):=by
  unfold oZ pP aDR
  rw [aMW hs,aMX hs]
  cases h:zQ v s with
  | none=>exact ⟨rfl,rfl⟩
  | some x =>
    obtain ⟨c,m⟩:=x
    obtain ⟨m1,m2,m3,_⟩:=aIQ hs h
    obtain ⟨r1,r2⟩:=aLz (v:=v) hs
    have hall:∀ x ∈ zI v s++m,ValidL x:=fun x hx=>(List.mem_append.1 hx).elim (r1 x) (m1 x)
    have hlen:(zI v s++m).length≤20000:=by rw [List.length_append];omega
    have hsz:=aDO hall
    have j1:=(zR (zI v s++m) (by omega)).1
    have j2:=aBL hall (by omega)
    simp only [pkE,Option.bind_some,if_true]
    rw [aLn hs,aKJ (by have:=hs.len;omega)]
    simp only [Option.bind_some]
    rw [aP (by omega)]
    simp only [Option.bind_some,uD,j1,j2]
    cases jnP (zI v s++m) with
    | none=>exact ⟨rfl,rfl⟩
    | some y=>exact ⟨rfl,rfl⟩
theorem aHE {v:Int} {s:List Link} (hs:LSet s) {c:Conditional} {m:List Link} {e:Rat} (h:aDR v s=some (c,m,e)):aQ c≤20000∧LSet m∧bX e∧c.fNode=v:=by
  unfold aDR at h
  cases h1:zQ v s with
  | none=>rw [h1] at h;cases h
  | some x =>
    rw [h1] at h
    cases h2:jnP (zI v s++x.2) with
    | none=>rw [Option.bind_some,h2] at h;cases h
    | some y =>
      rw [Option.bind_some,h2] at h
      cases h
      have:=aCZ (s:=y.1) (e:=y.2) h2
      refine ⟨(aIQ hs (c:=x.1) (m:=x.2) h1).2.2.1,this.2.1,this.2.2,?_⟩
      unfold zQ at h1
      split at h1
      · cases h1;rfl
      · cases h1
end Go.Ev
/- A node of a tree, both programs. -/
namespace Go.Ev
open IntKind
set_option linter.all false
def iF (l s:List Int):Int:=(l.find? (fun u=>decide (u ∈ s))).getD 0
theorem aKy (l s:List Int) (hl:l.length≤4294967296) (hs:s.length≤4294967296):pV l s=some (iF l s):=by
  have main:∀ m k:Nat,m+k=l.length→lp (gW l s) (k:Int)=some (match (l.drop k).find? (fun u=>decide (u ∈ s)) with | some x=>.inr x | none=>.inl ()):=by
    intro m
    induction m with
    | zero =>
      intro k hk
      have:k=l.length:=by omega
      subst this
      rw [aN (r:=.inl ()) (by unfold gW;rw [if_neg (by omega)]),List.drop_length];rfl
    | succ m ih =>
      intro k hk
      have hlt:k < l.length:=by omega
      rw [List.drop_eq_getElem_cons hlt,List.find?_cons]
      by_cases c:l[k] ∈ s
      · rw [aN (r:=.inr l[k]) (by unfold gW;rw [if_pos (by omega),aI hlt];simp [tE s _ hs,c])];simp [c]
      · have e:gW l s (k:Int)=some (.inl ((k+1:Nat):Int)):=by
          unfold gW;rw [if_pos (by omega),aI hlt];simp only [Option.bind_some,tE s _ hs,wi1 (by omega:k≤4294967296)];simp [c]
        rw [bF e,ih (k+1) (by omega)]
        simp only [c,decide_false]
  have:=main l.length 0 (by omega)
  rw [show ((0:Nat):Int)=0 from rfl,List.drop_zero] at this
  unfold pV iF
  rw [this]
  cases l.find? (fun u=>decide (u ∈ s)) <;> rfl
def aBd (c:Conditional):List Int:=c.fParents.map (·.fNode)
def upP (order:List Int) (c:Conditional):Int:=iF order (aBd c)
theorem aF3 {α:Type} {p q:α→Bool}:∀ {l:List α},(∀ x ∈ l,p x=q x)→l.find? p=l.find? q
  | [],_=>rfl
  | x::l,h=>by rw [List.find?_cons,List.find?_cons,h x (by simp),aF3 (fun y hy=>h y (by simp [hy]))]
theorem aOy {order:List Int} {c:Conditional} (ho:∀ u ∈ order,1≤u) (hl:order.length≤4294967296) (hc:c.fParents.length≤4294967296):yI order c=some (upP order c):=by
  have:=(iN (step:=sO c) c.fParents (fun k t=>((k:Int),t)) (fun t x=>if (fun p:Parent=>decide (0 < p.fNode)) x=true then t++[x.fNode] else t) (fun t=>t) (fun k t=>t.length≤k) (fun k t hk hi=>by
    constructor
    · unfold sO
      simp only []
      rw [if_pos (by omega),aI hk]
      simp only [Option.bind_some,wi1 (by omega:k≤4294967296)]
      by_cases c0:0 < (c.fParents[k]).fNode
      · rw [if_pos c0,if_pos (by simpa using c0),aP (by omega)];rfl
      · rw [if_neg c0,if_neg (by simpa using c0)]
    · simp only [];split
      · rw [List.length_append,List.length_singleton];omega
      · omega) (fun t _=>by unfold sO;simp only [];rw [if_neg (by omega)]) [] (Nat.zero_le _)).1
  rw [show ((0:Nat):Int)=0 from rfl] at this
  have e:∀ (l:List Parent) (t:List Int),l.foldl (fun t x=>if (fun p:Parent=>decide (0 < p.fNode)) x=true then t++[x.fNode] else t) t=t++(l.filter (fun p=>decide (0 < p.fNode))).map (·.fNode):=by
    intro l
    induction l with
    | nil=>intro t;simp
    | cons x l ih =>
      intro t
      rw [List.foldl_cons,ih,List.filter_cons]
      by_cases c0:0 < x.fNode <;> simp [c0]
  rw [e,List.nil_append] at this
  unfold yI
  rw [this]
  simp only [Option.bind_some]
  have hf:=List.length_filter_le (fun p:Parent=>decide (0 < p.fNode)) c.fParents
  rw [aKy _ _ hl (by rw [List.length_map];omega)]
  simp only [Option.bind_some]
  congr 1
  unfold upP iF
  congr 1
  refine aF3 fun u hu=>?_
  have:=ho u hu
  rw [Bool.eq_iff_iff,decide_eq_true_iff,decide_eq_true_iff]
  unfold aBd
  simp only [List.mem_map,List.mem_filter,decide_eq_true_eq]
  constructor
  · rintro ⟨p,⟨h1,_⟩,rfl⟩;exact ⟨p,h1,rfl⟩
  · rintro ⟨p,h1,rfl⟩;exact ⟨p,⟨h1,by omega⟩,rfl⟩
theorem aEj (c:Conditional) (v:Int) (h:c.fParents.length≤4294967296):rN c v=some (decide (v ∈ aBd c)):=by
  have main:∀ m k:Nat,m+k=c.fParents.length→lp (gN c v) (k:Int)=some (if v ∈ (c.fParents.drop k).map (·.fNode) then .inr true else .inl ()):=by
    intro m
    induction m with
    | zero =>
      intro k hk
      have:k=c.fParents.length:=by omega
      subst this
      rw [aN (r:=.inl ()) (by unfold gN;rw [if_neg (by omega)]),List.drop_length];simp
    | succ m ih =>
      intro k hk
      have hlt:k < c.fParents.length:=by omega
      rw [List.drop_eq_getElem_cons hlt,List.map_cons]
      by_cases d:(c.fParents[k]).fNode=v
      · rw [aN (r:=.inr true) (by unfold gN;rw [if_pos (by omega),aI hlt];simp [d]),if_pos (by simp [d])]
      · have e:gN c v (k:Int)=some (.inl ((k+1:Nat):Int)):=by
          unfold gN;rw [if_pos (by omega),aI hlt];simp only [Option.bind_some,wi1 (by omega:k≤4294967296)];rw [if_neg d]
        rw [bF e,ih (k+1) (by omega)]
        have:(v ∈ (c.fParents[k]).fNode::(c.fParents.drop (k+1)).map (·.fNode))↔v ∈ (c.fParents.drop (k+1)).map (·.fNode):=by
          rw [List.mem_cons];exact ⟨fun h=>h.resolve_left (fun e=>d e.symm),.inr⟩
        simp only [this]
  have:=main c.fParents.length 0 (by omega)
  rw [show ((0:Nat):Int)=0 from rfl,List.drop_zero] at this
  unfold rN aBd
  rw [this]
  by_cases d:v ∈ c.fParents.map (·.fNode)
  · rw [if_pos d,decide_eq_true d];rfl
  · rw [if_neg d,decide_eq_false d];rfl
theorem aNZ (order:List Int) (v:Int) (own:List Link) (r:Conditional × List Link × Rat × Bool) (e:Rat) (hl:order.length≤4294967296) (hc:r.1.fParents.length≤4294967296):lp (fC order v own r e) 0=some (TreeNode.mk v (upP order r.1) own r.1 r.2.1 e):=by
  have main:∀ m k:Nat,m+k=order.length→lp (fC order v own r e) (k:Int)=some (TreeNode.mk v (iF (order.drop k) (aBd r.1)) own r.1 r.2.1 e):=by
    intro m
    induction m with
    | zero =>
      intro k hk
      have:k=order.length:=by omega
      subst this
      rw [aN (by unfold fC;rw [if_neg (by omega)]),List.drop_length];rfl
    | succ m ih =>
      intro k hk
      have hlt:k < order.length:=by omega
      rw [List.drop_eq_getElem_cons hlt]
      unfold iF
      rw [List.find?_cons]
      by_cases d:order[k] ∈ aBd r.1
      · rw [aN (r:=TreeNode.mk v order[k] own r.1 r.2.1 e) (by unfold fC;rw [if_pos (by omega),aI hlt];simp only [Option.bind_some,aEj _ _ hc,decide_eq_true d,if_true])]
        simp [d]
      · have e:fC order v own r e (k:Int)=some (.inl ((k+1:Nat):Int)):=by
          unfold fC;rw [if_pos (by omega),aI hlt];simp only [Option.bind_some,aEj _ _ hc,wi1 (by omega:k≤4294967296),decide_eq_false d,Bool.false_eq_true,if_false]
        rw [bF e,ih (k+1) (by omega)]
        simp only [d,decide_false]
        rfl
  have:=main order.length 0 (by omega)
  rw [show ((0:Nat):Int)=0 from rfl,List.drop_zero] at this
  exact this
def zW (v:Int) (b:List TreeNode):List Link:=(b.filter (fun n=>decide (n.fUp=v))).flatMap (·.fMessages)
theorem aIy (v:Int):∀ (b:List TreeNode) (t:List Link),b.foldl (fun t n=>if n.fUp=v then t++n.fMessages else t) t=t++zW v b
  | [],t=>by simp [zW]
  | n::b,t=>by
    rw [List.foldl_cons,aIy v b]
    unfold zW
    rw [List.filter_cons]
    by_cases c:n.fUp=v <;> simp [c]
theorem aKj {v:Int}:∀ {b:List TreeNode},(∀ n ∈ b,LSet n.fMessages)→(zW v b).length≤100*b.length
  | [],_=>by simp [zW]
  | n::b,h=>by
    have:=aKj (v:=v) (b:=b) (fun m hm=>h m (by simp [hm]))
    have h1:=(h n (by simp)).len
    unfold zW at this ⊢
    rw [List.filter_cons,List.length_cons]
    split
    · rw [List.flatMap_cons,List.length_append];omega
    · omega
theorem aKZ {v:Int} {b:List TreeNode} (h:∀ n ∈ b,LSet n.fMessages):∀ x ∈ zW v b,ValidL x:=by
  intro x hx
  unfold zW at hx
  obtain ⟨n,hn,hx⟩:=List.mem_flatMap.1 hx
  exact (h n (List.mem_filter.1 hn).1).1 x hx
theorem aNe {step:(Int × List Link)→Option ((Int × List Link) ⊕ List Link)} (v:Int) (b:List TreeNode) (own:List Link) (ho:own.length≤4294967296) (hb:b.length≤4194304) (h:∀ n ∈ b,LSet n.fMessages)
    (hstep:step=fun s=>match s with | (v6,v7)=>(if (v6 < (b.length:Int)) then (idx b v6).bind fun y8=>(if (y8.fUp=v) then (chk ((v7.length+y8.fMessages.length)*184≤140737488355328)).bind fun _u=>(aZ (v7++y8.fMessages)).bind fun v10=>some (.inl (i64.wrap (v6+1),v10)) else some (.inl (i64.wrap (v6+1),v7))) else some (.inr v7))):lp step (0,own)=some (own++zW v b):=by
  subst hstep
  have:=(iN (step:=fun s=>match s with | (v6,v7)=>(if (v6 < (b.length:Int)) then (idx b v6).bind fun y8=>(if (y8.fUp=v) then (chk ((v7.length+y8.fMessages.length)*184≤140737488355328)).bind fun _u=>(aZ (v7++y8.fMessages)).bind fun v10=>some (.inl (i64.wrap (v6+1),v10)) else some (.inl (i64.wrap (v6+1),v7))) else some (.inr v7))) b (fun k t=>((k:Int),t)) (fun t n=>if n.fUp=v then t++n.fMessages else t) (fun t=>t) (fun k t=>t.length≤4294967296+100*k) (fun k t hk hi=>by
    have hm:=(h _ (List.getElem_mem hk)).len
    constructor
    · simp only []
      rw [if_pos (by omega),aI hk]
      simp only [Option.bind_some,wi1 (by omega:k≤4294967296)]
      by_cases c:(b[k]).fUp=v
      · rw [if_pos c,if_pos c,aP (by omega)];rfl
      · rw [if_neg c,if_neg c]
    · split
      · rw [List.length_append];omega
      · omega) (fun t _=>by simp only [];rw [if_neg (by omega)]) own (by omega)).1
  rw [show ((0:Nat):Int)=0 from rfl,aIy] at this
  exact this
def aNY:TreeNode:=TreeNode.mk 0 0 ([]) (Conditional.mk 0 (Rat.mk (BigInt.mk false ([])) ([])) ([])) ([]) (Rat.mk (BigInt.mk false ([])) ([]))
noncomputable def xI (order:List Int) (v:Int) (own:List Link) (b:List TreeNode):Option TreeNode :=
  (jnP (own++zW v b)).bind fun x=>(aDR v x.1).bind fun y=>if bX (RA x.2 y.2.2) then some ⟨v,upP order y.1,own,y.1,y.2.1,RA x.2 y.2.2⟩ else none
def pkN:Option TreeNode→TreeNode × Bool
  | some n=>(n,true)
  | none=>(aNY,false)
theorem aMO {c:Conditional} (h:aQ c≤20000):c.fParents.length≤20000:=by
  have:c.fParents.length≤cU c.fParents:=cO _ _
  unfold aQ at h;omega
theorem aDa (a b:List Link):aG (a++b)=aG a+aG b:=by unfold aG szL;simp
theorem aLT {order:List Int} {v:Int} {own:List Link} {b:List TreeNode} (hl:order.length≤4194304) (ho:∀ u ∈ order,1≤u) (hz:aG own≤4194304) (hb:b.length≤100) (hm:∀ n ∈ b,LSet n.fMessages) (hv:∀ x ∈ own,ValidL x) :
    uQ v own order b=some (pkN (xI order v own b))∧rO ⟨b⟩ order v own=some (pkN (xI order v own b)):=by
  have hol:own.length≤4194304:=Nat.le_trans (cO _ _) hz
  have q1:=aNe (step:=xP v b) v b own (by omega) (by omega) hm rfl
  have q2:=aNe (step:=vG ⟨b⟩ v) v b own (by omega) (by omega) hm rfl
  have hmv:=aKZ (v:=v) hm
  have hml:=aKj (v:=v) hm
  have hall:∀ x ∈ own++zW v b,ValidL x:=fun x hx=>(List.mem_append.1 hx).elim (hv x) (hmv x)
  have hms:=aDO hmv
  have hsz:aG (own++zW v b)≤4294967296:=by rw [aDa];omega
  have hln:(own++zW v b).length≤4294967296:=by rw [List.length_append];omega
  have j1:=(zR (own++zW v b) hsz).1
  have j2:=aBL hall hln
  unfold uQ rO xI
  rw [zS own (by omega)]
  simp only [Option.bind_some,List.nil_append,List.length_nil]
  rw [aP (by omega),q1]
  simp only [Option.bind_some,uD]
  rw [q2,j1]
  simp only [Option.bind_some,j2]
  cases h:jnP (own++zW v b) with
  | none =>
    simp only [pk,Option.bind_none,pkN]
    refine ⟨?_,rfl⟩
    rw [(aFp aB0 v).1]
    have e0:aS (pkR (aDR v [])).2.2.1≤4294967296:=by
      cases h2:aDR v [] with
      | none=>exact VZs aCq
      | some y=>exact VZs (.inl (aHE aB0 (c:=y.1) (m:=y.2.1) (e:=y.2.2) h2).2.2.1)
    simp only [Option.bind_some]
    rw [(aOC (VZs aCq) e0).1]
    rfl
  | some x =>
    obtain ⟨s,e⟩:=x
    obtain ⟨_,hs,he⟩:=aCZ h
    simp only [pk,Option.bind_some,if_true]
    rw [(aFp hs v).1,(aFp hs v).2]
    simp only [Option.bind_some]
    cases h2:aDR v s with
    | none =>
      simp only [pkR,Option.bind_none,pkN]
      rw [(aC7 (.inl he) aCq).1,(aC7 (.inl he) aCq).2.1]
      exact ⟨rfl,rfl⟩
    | some y =>
      obtain ⟨c,m,f⟩:=y
      obtain ⟨k1,k2,k3,_⟩:=aHE hs h2
      have ra:=aC7 (.inl he) (.inl k3)
      have hp:=aMO k1
      simp only [pkR,Option.bind_some,ra.1,ra.2.1,if_true]
      rw [fN _ (VZs ra.2.2),jC ra.2.2,aOy ho (by omega) (by omega),aNZ order v own (c,m,f,true) (RA e f) (by omega) (by show c.fParents.length≤_;omega)]
      simp only [Option.bind_some]
      by_cases g:bX (RA e f)
      · rw [decide_eq_true g,if_pos g];exact ⟨rfl,rfl⟩
      · rw [decide_eq_false g,if_neg g];exact ⟨rfl,rfl⟩
theorem aFw {order:List Int} {v:Int} {own:List Link} {b:List TreeNode} {n:TreeNode} (h:xI order v own b=some n):LSet n.fMessages∧n.fOwn=own∧aQ n.fCond≤20000∧bX n.fEnergy∧n.fNode=v∧n.fUp=upP order n.fCond:=by
  unfold xI at h
  cases h1:jnP (own++zW v b) with
  | none=>rw [h1] at h;cases h
  | some x =>
    rw [h1,Option.bind_some] at h
    cases h2:aDR v x.1 with
    | none=>rw [h2] at h;cases h
    | some y =>
      rw [h2,Option.bind_some] at h
      obtain ⟨_,hs,he⟩:=aCZ (s:=x.1) (e:=x.2) h1
      obtain ⟨k1,k2,k3,_⟩:=aHE hs (c:=y.1) (m:=y.2.1) (e:=y.2.2) h2
      split at h
      · rename_i g;cases h;exact ⟨k2,rfl,k1,g,rfl,rfl⟩
      · cases h
end Go.Ev
/- The nodes of a link set, orders of elimination, whose a link is, both programs. -/
namespace Go.Ev
set_option linter.all false
def aGw:List Int:=(List.range 9).map (fun k:Nat=>(k:Int)+1)
theorem aLV {x:Int}:x ∈ aGw↔1≤x∧x≤9:=by
  unfold aGw
  simp only [List.mem_map,List.mem_range]
  constructor
  · rintro ⟨k,h,rfl⟩;omega
  · intro h;exact ⟨(x - 1).toNat,by omega,by omega⟩
theorem aFy:aGw.length=9:=by decide
theorem aLW (k:Nat) (h:k < aGw.length):aGw[k]=(k:Int)+1:=by simp [aGw]
def fU (s:List Link):List Int:=aGw.filter (fun v=>s.any (tch v))
theorem aAJ (s:List Link):(fU s).Pairwise (· < ·):=by
  have:aGw.Pairwise (· < ·):=by decide
  exact this.sublist List.filter_sublist
theorem aAI (s:List Link):(fU s).length≤9:=by
  have:=List.length_filter_le (fun v=>s.any (tch v)) aGw
  rw [aFy] at this;exact this
theorem aAH {s:List Link} {x:Int}:x ∈ fU s↔(1≤x∧x≤9)∧∃ l ∈ s,l.fA=x∨l.fB=x:=by
  unfold fU
  rw [List.mem_filter,aLV,List.any_eq_true]
  simp only [tch,decide_eq_true_eq]
def aGu (t:List Int) (l:Link):List Int:=aBc (if 0 < l.fA then aBc t l.fA else t) l.fB
theorem aIr {t:List Int} (l:Link) (h:t.Pairwise (· < ·)):(aGu t l).Pairwise (· < ·):=by
  unfold aGu;split
  · exact xG _ _ (xG _ _ h)
  · exact xG _ _ h
theorem aLJ {t:List Int} {l:Link} {x:Int}:x ∈ aGu t l↔x=l.fB∨(x=l.fA∧0 < x)∨x ∈ t:=by
  unfold aGu;split
  · rw [aAj,aAj]
    constructor
    · rintro (h | h | h)
      · exact .inl h
      · exact .inr (.inl ⟨h,by omega⟩)
      · exact .inr (.inr h)
    · rintro (h | ⟨h,_⟩ | h)
      · exact .inl h
      · exact .inr (.inl h)
      · exact .inr (.inr h)
  · rw [aAj]
    constructor
    · rintro (h | h)
      · exact .inl h
      · exact .inr (.inr h)
    · rintro (h | ⟨h,_⟩ | h)
      · exact .inl h
      · omega
      · exact .inr h
theorem aLK (t:List Int) (l:Link):(aGu t l).length≤t.length+2:=by
  unfold aGu;split
  · have:=aAk (aBc t l.fA) l.fB;have:=aAk t l.fA;omega
  · have:=aAk t l.fB;omega
theorem aG6:∀ (s:List Link) (t:List Int) (x:Int),x ∈ s.foldl aGu t↔x ∈ t∨∃ l ∈ s,x=l.fB∨(x=l.fA∧0 < x)
  | [],t,x=>by simp
  | l::s,t,x=>by
    rw [List.foldl_cons,aG6 s,aLJ]
    simp only [List.mem_cons,exists_eq_or_imp]
    constructor
    · rintro ((h | h | h) | h)
      · exact .inr (.inl (.inl h))
      · exact .inr (.inl (.inr h))
      · exact .inl h
      · exact .inr (.inr h)
    · rintro (h | (h | h) | h)
      · exact .inl (.inr (.inr h))
      · exact .inl (.inl h)
      · exact .inl (.inr (.inl h))
      · exact .inr h
theorem aDI:∀ (s:List Link) (t:List Int),t.Pairwise (· < ·)→(s.foldl aGu t).Pairwise (· < ·)
  | [],t,h=>h
  | l::s,t,h=>aDI s _ (aIr l h)
theorem aD8 {s:List Link} (hs:LSet s):rV s=some (fU s):=by
  have hl:=hs.len
  have:=(iN (step:=pB s) s (fun k t=>(t,(k:Int))) aGu (fun t=>t) (fun k t=>t.length≤2*k) (fun k t hk hi=>by
    constructor
    · unfold pB
      simp only []
      rw [if_pos (by omega),aI hk]
      simp only [Option.bind_some,wi1 (by omega:k≤4294967296)]
      unfold aGu
      by_cases c:0 < (s[k]).fA
      · rw [if_pos c,if_pos c,aIq _ _ (by omega)]
        simp only [Option.bind_some]
        rw [aIq _ _ (by have:=aAk t (s[k]).fA;omega)];rfl
      · rw [if_neg c,if_neg c]
        simp only [Option.bind_some]
        rw [aIq _ _ (by omega)];rfl
    · have:=aLK t s[k];omega) (fun t _=>by unfold pB;simp only [];rw [if_neg (by omega)]) [] (Nat.zero_le _)).1
  rw [show ((0:Nat):Int)=0 from rfl] at this
  unfold rV
  rw [mN s (by have:=hs.sz;omega),decide_eq_true hs]
  simp only [Option.bind_some,if_true,this]
  congr 1
  refine aAD (aDI _ _ List.Pairwise.nil) (aAJ s) fun x=>?_
  rw [aG6,aAH]
  constructor
  · rintro (h | ⟨l,hl,h⟩)
    · cases h
    · have v:=hs.1 l hl
      rcases h with rfl | ⟨rfl,h0⟩
      · exact ⟨⟨by have:=v.2.2.1;have:=v.1.1;omega,v.2.1.2⟩,l,hl,.inr rfl⟩
      · exact ⟨⟨by omega,v.1.2⟩,l,hl,.inl rfl⟩
  · rintro ⟨h1,l,hl,h⟩
    refine .inr ⟨l,hl,?_⟩
    rcases h with h | h
    · exact .inr ⟨h.symm,by omega⟩
    · exact .inl h.symm
theorem aJu {s:List Link} (hs:s.length≤4294967296) (v:Int) (t:List Int) (ht:t.length≤1000):lp (gT s v t) 0=some (if s.any (tch v)=true then t++[v] else t):=by
  have main:∀ m k:Nat,m+k=s.length→lp (gT s v t) (k:Int)=some (if (s.drop k).any (tch v)=true then t++[v] else t):=by
    intro m
    induction m with
    | zero =>
      intro k hk
      have:k=s.length:=by omega
      subst this
      rw [aN (r:=t) (by unfold gT;rw [if_neg (by omega)]),List.drop_length];rfl
    | succ m ih =>
      intro k hk
      have hlt:k < s.length:=by omega
      have e0:((if (s[k]).fA=v then some true else some (decide ((s[k]).fB=v))):Option Bool)=some (tch v s[k]):=by
        unfold tch;by_cases A:(s[k]).fA=v <;> by_cases B:(s[k]).fB=v <;> simp [A,B]
      rw [List.drop_eq_getElem_cons hlt,List.any_cons]
      by_cases c:tch v s[k]=true
      · rw [aN (r:=t++[v]) (by unfold gT;rw [if_pos (by omega),aI hlt];simp only [Option.bind_some,e0,c,if_true];rw [aP (by omega)];rfl)]
        simp [c]
      · have e:gT s v t (k:Int)=some (.inl ((k+1:Nat):Int)):=by
          unfold gT;rw [if_pos (by omega),aI hlt];simp only [Option.bind_some,e0,wi1 (by omega:k≤4294967296)];rw [if_neg c]
        rw [bF e,ih (k+1) (by omega)]
        simp only [Bool.not_eq_true] at c
        simp [c]
  have:=main s.length 0 (by omega)
  rw [show ((0:Nat):Int)=0 from rfl,List.drop_zero] at this
  exact this
theorem aGU {s:List Link} (hs:s.length≤4294967296):sG s=some (fU s):=by
  have:=(iN (step:=pQ s) aGw (fun k t=>((k:Int)+1,t)) (fun t v=>if (fun v=>s.any (tch v)) v=true then t++[v] else t) (fun t=>t) (fun k t=>t.length≤k) (fun k t hk hi=>by
    have hk9:k < 9:=by rw [aFy] at hk;exact hk
    constructor
    · unfold pQ
      simp only []
      rw [if_pos (by omega),aJu hs _ _ (by omega),aLW]
      have w:IntKind.i64.wrap ((k:Int)+1+1)=((k+1:Nat):Int)+1:=by rw [wi (by omega)];omega
      simp only [Option.bind_some,w]
    · simp only [];split
      · rw [List.length_append,List.length_singleton];omega
      · omega) (fun t _=>by unfold pQ;simp only [];rw [aFy,if_neg (by omega)]) [] (Nat.zero_le _)).1
  rw [show ((0:Nat):Int)+1=1 from rfl,wP,List.nil_append] at this
  unfold sG
  rw [this];rfl
def aA6 (s:List Link) (o:List Int):Prop:=o.Nodup∧(∀ y ∈ o,y ∈ fU s)∧o.length=(fU s).length
instance (s:List Link) (o:List Int):Decidable (aA6 s o):=by unfold aA6;exact inferInstance
theorem aJr:∀ {a b:List Int},a.Nodup→(∀ x ∈ a,x ∈ b)→b.length≤a.length→b.Perm a
  | [],b,_,_,h=>by
    have:b=[]:=List.eq_nil_of_length_eq_zero (by simpa using h)
    rw [this]
  | x::a,b,hn,hs,h=>by
    rw [List.nodup_cons] at hn
    have hx:=hs x (by simp)
    have p:=List.perm_cons_erase hx
    have hl:=p.length_eq
    rw [List.length_cons] at hl h
    refine p.trans (List.Perm.cons x (aJr hn.2 (fun y hy=>?_) (by omega)))
    have:y≠x:=fun e=>hn.1 (e ▸ hy)
    exact (List.mem_erase_of_ne this).2 (hs y (by simp [hy]))
theorem aK3 {l:List Int} (h:l.Pairwise (· < ·)):l.Nodup:=h.imp (fun {a b} hab e=>by subst e;omega)
theorem aG4 (s:List Link) (o:List Int):aA6 s o↔(∀ v ∈ fU s,v ∈ o)∧o.length=(fU s).length:=by
  have hn:=aK3 (aAJ s)
  constructor
  · rintro ⟨h1,h2,h3⟩
    have p:=aJr h1 h2 (by omega)
    exact ⟨fun v hv=>p.mem_iff.1 hv,h3⟩
  · rintro ⟨h1,h2⟩
    have p:=aJr hn h1 (by omega)
    exact ⟨p.nodup_iff.2 hn,fun y hy=>p.mem_iff.1 hy,h2⟩
theorem aFW {s:List Link} {o:List Int} (h:aA6 s o):o.length≤9∧(∀ u ∈ o,1≤u):=by
  have:=aAI s
  exact ⟨by rw [h.2.2];exact this,fun u hu=>(aAH.1 (h.2.1 u hu)).1.1⟩
theorem aF4 {σ:Type} {step:σ→Option (σ ⊕ (Unit ⊕ Bool))} (n:Nat) (E:Nat→σ) (G:Nat→Prop) (h1:∀ k:Nat,k < n→(G k∧step (E k)=some (.inl (E (k+1))))∨(¬G k∧step (E k)=some (.inr (.inr false)))) (h2:step (E n)=some (.inr (.inl ()))) :
    (lp step (E 0)=some (.inl ())∧∀ k,k < n→G k)∨(lp step (E 0)=some (.inr false)∧∃ k,k < n∧¬G k):=by
  have main:∀ m k:Nat,m+k=n→(lp step (E k)=some (.inl ())∧∀ j,k≤j→j < n→G j)∨(lp step (E k)=some (.inr false)∧∃ j,j < n∧¬G j):=by
    intro m
    induction m with
    | zero =>
      intro k hk
      have:k=n:=by omega
      subst this
      exact .inl ⟨aN h2,fun j _ _=>by omega⟩
    | succ m ih =>
      intro k hk
      rcases h1 k (by omega) with ⟨g,e⟩ | ⟨g,e⟩
      · rw [bF e]
        rcases ih (k+1) (by omega) with ⟨a,b⟩ | ⟨a,b⟩
        · refine .inl ⟨a,fun j h1 h2=>?_⟩
          by_cases e:j=k
          · subst e;exact g
          · exact b j (by omega) h2
        · exact .inr ⟨a,b⟩
      · exact .inr ⟨aN e,k,by omega,g⟩
  rcases main n 0 (by omega) with ⟨a,b⟩ | ⟨a,b⟩
  · exact .inl ⟨a,fun j h=>b j (Nat.zero_le _) h⟩
  · exact .inr ⟨a,b⟩
theorem aAG {l:List Int}:l.Nodup↔∀ k (h:k < l.length),l[k] ∉ l.take k:=by
  unfold List.Nodup
  rw [List.pairwise_iff_getElem]
  constructor
  · intro h k hk hm
    obtain ⟨j,hj,e⟩:=List.mem_iff_getElem.1 hm
    rw [List.length_take] at hj
    rw [List.getElem_take] at e
    exact h j k (by omega) hk (by omega) e
  · intro h i j hi hj hij e
    refine h j hj ?_
    rw [← e]
    exact List.mem_iff_getElem.2 ⟨i,by rw [List.length_take];omega,by rw [List.getElem_take]⟩
theorem aJ1 {s:List Link} (hs:LSet s) (o:List Int) (ho:o.length≤4194304):uU s o=some (decide (aA6 s o)):=by
  have hn:=aAI s
  unfold uU
  rw [aD8 hs]
  simp only [Option.bind_some]
  have L:=aF4 (step:=pD o (fU s)) o.length (fun k=>((k:Int),o.take k)) (fun k=>∀ h:k < o.length,o[k] ∈ fU s∧o[k] ∉ o.take k) (fun k hk=>by
    have tl:(o.take k).length≤k:=by rw [List.length_take];omega
    have tk:o.take (k+1)=o.take k++[o[k]]:=by rw [List.take_add_one,List.getElem?_eq_getElem hk];rfl
    unfold pD
    simp only []
    rw [if_pos (by omega),aI hk]
    simp only [Option.bind_some,tE (fU s) _ (by omega),tE (o.take k) _ (by omega),wi1 (by omega:k≤4294967296)]
    by_cases A:o[k] ∈ fU s
    · by_cases B:o[k] ∈ o.take k
      · right
        refine ⟨fun h=>(h hk).2 B,?_⟩
        rw [decide_eq_true A,decide_eq_true B];rfl
      · left
        refine ⟨fun h=>⟨A,B⟩,?_⟩
        rw [decide_eq_true A,decide_eq_false B]
        simp only [if_true,Option.bind_some,Bool.false_eq_true,if_false]
        rw [aP (by omega),tk];rfl
    · right
      refine ⟨fun h=>A (h hk).1,?_⟩
      rw [decide_eq_false A];rfl) (by unfold pD;simp only [];rw [if_neg (by omega)])
  simp only [List.take_zero] at L
  rw [show ((0:Nat):Int)=0 from rfl] at L
  rcases L with ⟨e,g⟩ | ⟨e,k,hk,g⟩
  · rw [e]
    simp only [Option.bind_some]
    rw [mN s (by have:=hs.sz;omega),decide_eq_true hs]
    simp only [Option.bind_some,if_true]
    congr 1
    rw [Bool.eq_iff_iff,decide_eq_true_iff,decide_eq_true_iff]
    constructor
    · intro h
      refine ⟨aAG.2 (fun k hk=>(g k hk hk).2),fun y hy=>?_,by omega⟩
      obtain ⟨j,hj,rfl⟩:=List.mem_iff_getElem.1 hy
      exact (g j hj hj).1
    · intro h;rw [h.2.2]
  · rw [e]
    have:¬aA6 s o:=fun h=>g (fun hk=>⟨h.2.1 _ (List.getElem_mem hk),aAG.1 h.1 k hk⟩)
    rw [decide_eq_false this];rfl
theorem aH6 (s:List Link) (h:aG s≤4294967296):nW s=some (decide (LSet s)):=by
  rw [← mN s h]
  unfold nW dS
  have:lp (qN s) 0=lp (eX s) 0:=by
    refine aL2 (fun _=>True) (fun v _=>⟨?_,fun _ _=>trivial⟩) _ trivial
    unfold qN eX
    cases e:idx s v with
    | none=>rfl
    | some y =>
      have hy:y ∈ s:=List.mem_of_getElem? (aEN e).2.1
      have hz:=gG (w:=aX) hy
      unfold aG at h
      have q:=gF y (by omega)
      simp only [Option.bind_some,q.1,q.2,aJa,aGp]
  rw [this]
theorem aJ2 {s:List Link} (hs:LSet s) (o:List Int) (ho:o.length≤4194304):vK s o=some (decide (aA6 s o)):=by
  have hn:=aAI s
  unfold vK
  have il:nW s=some true:=by rw [aH6 s (by have:=hs.sz;omega),decide_eq_true hs]
  rw [il,aGU (by have:=hs.len;omega)]
  simp only [Option.bind_some,if_true]
  have L:=aF4 (step:=pS o (fU s)) (fU s).length (fun k=>(k:Int)) (fun k=>∀ h:k < (fU s).length,(fU s)[k] ∈ o) (fun k hk=>by
    unfold pS
    rw [if_pos (by omega),aI hk]
    simp only [Option.bind_some,aAu o _ (by omega),wi1 (by omega:k≤4294967296)]
    by_cases A:(fU s)[k] ∈ o
    · exact .inl ⟨fun _=>A,by rw [decide_eq_true A];rfl⟩
    · exact .inr ⟨fun h=>A (h hk),by rw [decide_eq_false A];rfl⟩) (by unfold pS;rw [if_neg (by omega)])
  rw [show ((0:Nat):Int)=0 from rfl] at L
  rcases L with ⟨e,g⟩ | ⟨e,k,hk,g⟩
  · rw [e]
    simp only [Option.bind_some]
    congr 1
    rw [Bool.eq_iff_iff,decide_eq_true_iff,decide_eq_true_iff,aG4]
    constructor
    · intro h
      refine ⟨fun v hv=>?_,by omega⟩
      obtain ⟨j,hj,rfl⟩:=List.mem_iff_getElem.1 hv
      exact g j hj hj
    · intro h;rw [h.2]
  · rw [e]
    have:¬aA6 s o:=fun h=>g (fun hk=>((aG4 s o).1 h).1 _ (List.getElem_mem hk))
    rw [decide_eq_false this];rfl
def xH (o:List Int) (v:Int) (l:Link):Bool:=decide (iF o [l.fA,l.fB]=v)
theorem aMP (o:List Int) (l:Link) (h:o.length≤4294967296):sP o l=some (iF o [l.fA,l.fB]):=by
  unfold sP
  rw [aKy _ _ h (by simp)];rfl
theorem aB9 {o s:List Int} {v:Int} (h:iF o s=v) (hv:v≠0):v ∈ s∧v ∈ o:=by
  unfold iF at h
  cases e:o.find? (fun u=>decide (u ∈ s)) with
  | none=>rw [e] at h;exact absurd h.symm hv
  | some x =>
    rw [e] at h
    simp only [Option.getD_some] at h
    subst h
    exact ⟨by simpa using List.find?_some e,List.mem_of_find?_eq_some e⟩
theorem aC3 {o s:List Int} {k:Nat} (hk:k < o.length) (hn:o.Nodup) (h1:∀ u ∈ o,1≤u):iF o s=o[k]↔o[k] ∈ s∧∀ u ∈ o.take k,u ∉ s:=by
  have ef:o.find? (fun u=>decide (u ∈ s))=((o.take k).find? (fun u=>decide (u ∈ s))).or ((o[k]::o.drop (k+1)).find? (fun u=>decide (u ∈ s))):=by
    rw [← List.find?_append,← List.drop_eq_getElem_cons hk,List.take_append_drop]
  have hnt:=aAG.1 hn k hk
  constructor
  · intro h
    have hp:=h1 _ (List.getElem_mem hk)
    refine ⟨(aB9 h (by omega)).1,fun u hu hus=>?_⟩
    unfold iF at h
    rw [ef] at h
    cases f:(o.take k).find? (fun u=>decide (u ∈ s)) with
    | none =>
      rw [List.find?_eq_none] at f
      exact f u hu (by simpa using hus)
    | some x =>
      have hx:=List.mem_of_find?_eq_some f
      rw [f] at h
      simp only [Option.some_or,Option.getD_some] at h
      rw [h] at hx
      exact hnt hx
  · rintro ⟨a,b⟩
    unfold iF
    rw [ef]
    have:(o.take k).find? (fun u=>decide (u ∈ s))=none:=by
      rw [List.find?_eq_none];intro u hu;simpa using b u hu
    rw [this,Option.none_or,List.find?_cons]
    simp [a]
end Go.Ev
/- Building a tree, both programs, and the law. -/
namespace Go.Ev
set_option linter.all false
theorem aAR (c:Conditional) (h:aQ c≤4294967296):iR c=some c:=by
  have hp:=cO bZ c.fParents
  unfold aQ cU at h
  unfold iR
  rw [iP _ (by omega)]
  simp only [Option.bind_some]
  have:=aAo (step:=fY c) c.fParents (fun k t=>((k:Int),t)) (fun t=>t) (fun k t hk ht=>by
    have he:=gG (w:=bZ) (List.getElem_mem hk)
    have hn:bZ c.fParents[k]=aS (c.fParents[k]).fShare+aS (c.fParents[k]).fDX+aS (c.fParents[k]).fDY:=rfl
    unfold fY
    simp only []
    rw [if_pos (by omega),aI hk]
    simp only [Option.bind_some]
    rw [iP _ (by omega)]
    simp only [Option.bind_some]
    rw [iP _ (by omega)]
    simp only [Option.bind_some]
    rw [iP _ (by omega)]
    simp only [Option.bind_some]
    rw [aP (by omega),wi (by omega)];rfl) (fun t ht=>by unfold fY;simp only [];rw [if_neg (by omega)])
  rw [show ((0:Nat):Int)=0 from rfl] at this
  rw [this];rfl
theorem aKR (s:List Link) (o:List Int) (v:Int) (hs:s.length≤4194304) (ho:o.length≤4194304):lp (iW s o v) (0,[])=some (s.filter (xH o v)):=by
  have:=(iN (step:=iW s o v) s (fun k t=>((k:Int),t)) (fun t x=>if xH o v x=true then t++[x] else t) (fun t=>t) (fun k t=>t.length≤k) (fun k t hk hi=>by
    constructor
    · unfold iW
      simp only []
      rw [if_pos (by omega),aI hk]
      simp only [Option.bind_some,aMP o _ (by omega:o.length≤4294967296),wi1 (by omega:k≤4294967296)]
      by_cases c:iF o [(s[k]).fA,(s[k]).fB]=v
      · rw [if_pos c,if_pos (by unfold xH;simpa using c),aP (by omega)];rfl
      · rw [if_neg c,if_neg (by unfold xH;simpa using c)]
    · split
      · rw [List.length_append,List.length_singleton];omega
      · omega) (fun t _=>by unfold iW;simp only [];rw [if_neg (by omega)]) [] (Nat.zero_le _)).1
  rw [show ((0:Nat):Int)=0 from rfl,wP,List.nil_append] at this
  exact this
theorem aLr (o:List Int) (k:Nat) (hk:k≤o.length):sub o 0 (k:Int)=some (o.take k):=by
  rw [tN _ _ _ (by omega)];simp
theorem aLQ (o:List Int) (hn:o.Nodup) (h1:∀ u ∈ o,1≤u) (ho:o.length≤4194304) (k:Nat) (hk:k < o.length) (l:Link) (hl:l.fA < l.fB) :
    ((if l.fA=o[k] then (sub o 0 (k:Int)).bind fun y57=>(eZ y57 l.fB).bind fun r58=>(if r58=true then (if l.fB=o[k] then (sub o 0 (k:Int)).bind fun y59=>(eZ y59 l.fA).bind fun r60=>some (!r60) else some false) else some true) else (if l.fB=o[k] then (sub o 0 (k:Int)).bind fun y61=>(eZ y61 l.fA).bind fun r62=>some (!r62) else some false)):Option Bool)=some (xH o o[k] l):=by
  have tl:(o.take k).length≤4294967296:=by rw [List.length_take];omega
  have hnt:=aAG.1 hn k hk
  have ft:=aC3 (s:=[l.fA,l.fB]) hk hn h1
  rw [aLr o k (by omega)]
  simp only [Option.bind_some,aAu _ _ tl]
  unfold xH
  by_cases A:l.fA=o[k]
  · have B:¬l.fB=o[k]:=by omega
    rw [if_pos A,if_neg B]
    by_cases C:l.fB ∈ o.take k
    · rw [decide_eq_true C,if_pos rfl]
      have:¬iF o [l.fA,l.fB]=o[k]:=fun h=>(ft.1 h).2 _ C (by simp)
      rw [decide_eq_false this]
    · rw [decide_eq_false C]
      have:iF o [l.fA,l.fB]=o[k]:=ft.2 ⟨by simp [A],fun u hu hs=>by
        rcases List.mem_cons.1 hs with rfl | hs
        · exact hnt (A ▸ hu)
        · rw [List.mem_singleton.1 hs] at hu;exact C hu⟩
      rw [decide_eq_true this];rfl
  · rw [if_neg A]
    by_cases B:l.fB=o[k]
    · rw [if_pos B]
      by_cases C:l.fA ∈ o.take k
      · have:¬iF o [l.fA,l.fB]=o[k]:=fun h=>(ft.1 h).2 _ C (by simp)
        rw [decide_eq_true C,decide_eq_false this];rfl
      · have:iF o [l.fA,l.fB]=o[k]:=ft.2 ⟨by simp [B],fun u hu hs=>by
          rcases List.mem_cons.1 hs with rfl | hs
          · exact C hu
          · rw [List.mem_singleton.1 hs] at hu;exact hnt (B ▸ hu)⟩
        rw [decide_eq_false C,decide_eq_true this];rfl
    · rw [if_neg B]
      have:¬iF o [l.fA,l.fB]=o[k]:=fun h=>by
        have:=(ft.1 h).1
        simp only [List.mem_cons,List.not_mem_nil,or_false] at this
        rcases this with e | e
        · exact A e.symm
        · exact B e.symm
      rw [decide_eq_false this]
theorem aKS (s:List Link) (o:List Int) (hs:s.length≤4194304) (ho:o.length≤4194304) (hv:∀ x ∈ s,ValidL x) (hn:o.Nodup) (h1:∀ u ∈ o,1≤u) (i:Nat) (hi:i < o.length):lp (jB s o o[i] (i:Int)) (0,[])=some (s.filter (xH o o[i])):=by
  have:=(iN (step:=jB s o o[i] (i:Int)) s (fun k t=>((k:Int),t)) (fun t x=>if xH o o[i] x=true then t++[x] else t) (fun t=>t) (fun k t=>t.length≤k) (fun k t hk hj=>by
    constructor
    · unfold jB
      simp only []
      rw [if_pos (by omega),aI hk]
      have oc:=aLQ o hn h1 ho i hi s[k] (hv _ (List.getElem_mem hk)).2.2.1
      simp only [Option.bind_some,wi1 (by omega:k≤4294967296)]
      rw [oc]
      simp only [Option.bind_some]
      by_cases c:xH o o[i] s[k]=true
      · rw [if_pos c,if_pos c,aP (by omega)];rfl
      · rw [if_neg c,if_neg c]
    · split
      · rw [List.length_append,List.length_singleton];omega
      · omega) (fun t _=>by unfold jB;simp only [];rw [if_neg (by omega)]) [] (Nat.zero_le _)).1
  rw [show ((0:Nat):Int)=0 from rfl,wP,List.nil_append] at this
  exact this
noncomputable def yH (s:List Link) (o:List Int):List Int→List TreeNode→Option (List TreeNode)
  | [],b=>some b
  | v::r,b=>(xI o v (s.filter (xH o v)) b).bind fun n=>yH s o r (b++[n])
noncomputable def qG (s:List Link) (o:List Int):Option Tree :=
  (jnP s).bind fun x=>if aA6 x.1 o then (yH s o o []).map Tree.mk else none
def pkT:Option Tree→Tree × Bool
  | some t=>(t,true)
  | none=>(Tree.mk [],false)
def aNy:Option (List TreeNode)→(List TreeNode) ⊕ (Tree × Bool)
  | some b=>.inl b
  | none=>.inr (Tree.mk [],false)
def NodeOk (s:List Link) (o:List Int) (n:TreeNode):Prop:=LSet n.fMessages∧n.fOwn=s.filter (xH o n.fNode)∧aQ n.fCond≤20000∧bX n.fEnergy∧n.fUp=upP o n.fCond
theorem aAB (p:Link→Bool):∀ s:List Link,aG (s.filter p)≤aG s
  | []=>Nat.le_refl _
  | x::s=>by
    have:=aAB p s
    unfold aG at this ⊢
    rw [List.filter_cons,lM]
    split
    · rw [lM];omega
    · omega
theorem aFx {s:List Link} {o:List Int} {v:Int} {b:List TreeNode} {n:TreeNode} (h:xI o v (s.filter (xH o v)) b=some n):NodeOk s o n∧n.fNode=v:=by
  obtain ⟨h1,h2,h3,h4,h5,h6⟩:=aFw h
  exact ⟨⟨h1,by rw [h5];exact h2,h3,h4,h6⟩,h5⟩
theorem aIc {s:List Link} {o:List Int}:∀ (r:List Int) (b b':List TreeNode),(∀ n ∈ b,NodeOk s o n)→yH s o r b=some b'→(∀ n ∈ b',NodeOk s o n)∧b'.map (·.fNode)=b.map (·.fNode)++r
  | [],b,b',h,e=>by cases e;exact ⟨h,by simp⟩
  | v::r,b,b',h,e=>by
    rw [yH] at e
    cases h1:xI o v (s.filter (xH o v)) b with
    | none=>rw [h1] at e;cases e
    | some n =>
      rw [h1,Option.bind_some] at e
      obtain ⟨g1,g2⟩:=aFx h1
      obtain ⟨k1,k2⟩:=aIc r (b++[n]) b' (fun m hm=>by
        rcases List.mem_append.1 hm with hm | hm
        · exact h m hm
        · rw [List.mem_singleton.1 hm];exact g1) e
      exact ⟨k1,by rw [k2,List.map_append,List.append_assoc];simp [g2]⟩
theorem aJd (s:List Link) (o:List Int) (hz:aG s≤4194304) (hv:∀ x ∈ s,ValidL x) (ho:o.length≤9) (h1:∀ u ∈ o,1≤u):∀ m k:Nat,m+k=o.length→∀ b:List TreeNode,b.length=k→(∀ n ∈ b,LSet n.fMessages)→lp (iV s o) ((k:Int),b)=some (aNy (yH s o (o.drop k) b)):=by
  have hl:s.length≤4194304:=Nat.le_trans (cO _ _) hz
  intro m
  induction m with
  | zero =>
    intro k hk b hb hm
    rw [List.drop_eq_nil_of_le (by omega)]
    exact aN (by unfold iV;simp only [];rw [if_neg (by omega)];rfl)
  | succ m ih =>
    intro k hk b hb hm
    have hlt:k < o.length:=by omega
    rw [List.drop_eq_getElem_cons hlt,yH]
    have nq:=(aLT (v:=o[k]) (own:=s.filter (xH o o[k])) (b:=b) (by omega:o.length≤4194304) h1 (Nat.le_trans (aAB _ s) hz) (by omega) hm (fun x hx=>hv x (List.mem_filter.1 hx).1)).1
    have st:iV s o ((k:Int),b)=some (match xI o o[k] (s.filter (xH o o[k])) b with | some n=>.inl (((k+1:Nat):Int),b++[n]) | none=>.inr (.inr (Tree.mk [],false))):=by
      unfold iV
      simp only []
      rw [if_pos (by omega),aI hlt]
      simp only [Option.bind_some,aKR s o o[k] hl (by omega),nq,wi1 (by omega:k≤4294967296)]
      cases xI o o[k] (s.filter (xH o o[k])) b with
      | none=>rfl
      | some n=>simp only [pkN,if_true];rw [aP (by omega)];rfl
    cases h:xI o o[k] (s.filter (xH o o[k])) b with
    | none=>rw [h] at st;rw [aN st];rfl
    | some n =>
      rw [h] at st
      rw [bF st,Option.bind_some]
      exact ih (k+1) (by omega) _ (by simp [hb]) (fun x hx=>by
        rcases List.mem_append.1 hx with hx | hx
        · exact hm x hx
        · rw [List.mem_singleton.1 hx];exact (aFw h).1)
theorem aJe (s:List Link) (o:List Int) (hz:aG s≤4194304) (hv:∀ x ∈ s,ValidL x) (ho:o.length≤9) (hn:o.Nodup) (h1:∀ u ∈ o,1≤u):∀ m k:Nat,m+k=o.length→∀ b:List TreeNode,b.length=k→(∀ n ∈ b,LSet n.fMessages)→lp (jA s o) ((k:Int),b)=some (aNy (yH s o (o.drop k) b)):=by
  have hl:s.length≤4194304:=Nat.le_trans (cO _ _) hz
  intro m
  induction m with
  | zero =>
    intro k hk b hb hm
    rw [List.drop_eq_nil_of_le (by omega)]
    exact aN (by unfold jA;simp only [];rw [if_neg (by omega)];rfl)
  | succ m ih =>
    intro k hk b hb hm
    have hlt:k < o.length:=by omega
    rw [List.drop_eq_getElem_cons hlt,yH]
    have nq:=(aLT (v:=o[k]) (own:=s.filter (xH o o[k])) (b:=b) (by omega:o.length≤4194304) h1 (Nat.le_trans (aAB _ s) hz) (by omega) hm (fun x hx=>hv x (List.mem_filter.1 hx).1)).2
    have st:jA s o ((k:Int),b)=some (match xI o o[k] (s.filter (xH o o[k])) b with | some n=>.inl (((k+1:Nat):Int),b++[n]) | none=>.inr (.inr (Tree.mk [],false))):=by
      unfold jA
      simp only []
      rw [if_pos (by omega),aI hlt]
      simp only [Option.bind_some,aKS s o hl (by omega) hv hn h1 k hlt,nq,wi1 (by omega:k≤4294967296)]
      cases xI o o[k] (s.filter (xH o o[k])) b with
      | none=>rfl
      | some n=>simp only [pkN,if_true];rw [aP (by omega)];rfl
    cases h:xI o o[k] (s.filter (xH o o[k])) b with
    | none=>rw [h] at st;rw [aN st];rfl
    | some n =>
      rw [h] at st
      rw [bF st,Option.bind_some]
      exact ih (k+1) (by omega) _ (by simp [hb]) (fun x hx=>by
        rcases List.mem_append.1 hx with hx | hx
        · exact hm x hx
        · rw [List.mem_singleton.1 hx];exact (aFw h).1)
theorem NodeOk.sz {s:List Link} {o:List Int} {n:TreeNode} (h:NodeOk s o n) (hz:aG s≤4194304):aU n≤4300000:=by
  have h1:=h.1.sz
  have h2:aG n.fOwn≤4194304:=by rw [h.2.1];exact Nat.le_trans (aAB _ s) hz
  have h3:=rS (.inl h.2.2.2.1)
  have h4:=h.2.2.1
  unfold aU;omega
theorem aJP (n:TreeNode) (h:aU n≤4294967296):mJ n=some n:=by
  unfold aU at h
  unfold mJ
  rw [sH _ (by omega),aAR _ (by omega)]
  simp only [Option.bind_some]
  rw [sH _ (by omega),iP _ (by omega)]
  rfl
theorem aJO (t:Tree) (h:cD t≤4294967296):tG t=some t:=by
  unfold cD cC at h
  have hl:=cO aU t.fNodes
  unfold tG
  have:=aAo (step:=nU t) t.fNodes (fun k t=>((k:Int),t)) (fun t=>t) (fun k u hk hu=>by
    have he:=gG (w:=aU) (List.getElem_mem hk)
    unfold nU
    simp only []
    rw [if_pos (by omega),aI hk]
    simp only [Option.bind_some]
    rw [aJP _ (by omega)]
    simp only [Option.bind_some]
    rw [aP (by omega),wi1 (by omega)];rfl) (fun t ht=>by unfold nU;simp only [];rw [if_neg (by omega)])
  rw [show ((0:Nat):Int)=0 from rfl] at this
  rw [this];rfl
theorem aJ3 {s:List Link} {o:List Int} {b:List TreeNode} (hz:aG s≤4194304) (ho:o.length≤9) (h:yH s o o []=some b):cD ⟨b⟩≤38700018:=by
  obtain ⟨h1,h2⟩:=aIc o [] b (by simp) h
  have hl:b.length=o.length:=by have:=congrArg List.length h2;simpa using this
  have:cC b≤(4300000+1)*b.length:=aDP (fun n hn=>(h1 n hn).sz hz)
  unfold cD
  have:(4300000+1)*b.length≤4300001*9:=Nat.mul_le_mul (Nat.le_refl _) (by omega)
  simp only []
  omega
theorem aE2 (s:List Link) (o:List Int) (hz:aG s≤4194304) (ho:o.length≤4194304):kQ s o=some (pkT (qG s o))∧lG s o=some (pkT (qG s o)):=by
  obtain ⟨j1,j2⟩:=zR s (by omega)
  unfold kQ lG qG
  rw [j1,j2]
  cases h:jnP s with
  | none=>exact ⟨rfl,rfl⟩
  | some x =>
    obtain ⟨u,e⟩:=x
    obtain ⟨hv,hs,he⟩:=aCZ h
    simp only [pk,Option.bind_some,if_true]
    rw [aJ1 hs o ho,aJ2 hs o ho]
    by_cases c:aA6 u o
    · obtain ⟨l9,h1⟩:=aFW c
      have q1:=aJd s o hz hv l9 h1 o.length 0 (by omega) [] rfl (by simp)
      have q2:=aJe s o hz hv l9 c.1 h1 o.length 0 (by omega) [] rfl (by simp)
      rw [show ((0:Nat):Int)=0 from rfl,List.drop_zero] at q1 q2
      rw [decide_eq_true c,if_pos c]
      simp only [Option.bind_some,Bool.not_true,Bool.false_eq_true,if_false,q1,q2]
      cases g:yH s o o [] with
      | none=>exact ⟨rfl,rfl⟩
      | some b =>
        simp only [aNy]
        rw [aJO ⟨b⟩ (by have:=aJ3 hz l9 g;omega)]
        exact ⟨rfl,rfl⟩
    · rw [decide_eq_false c,if_neg c]
      exact ⟨rfl,rfl⟩
theorem aHb {s:List Link} {o:List Int} (hz:aG s≤4194304):cD (pkT (qG s o)).1≤38700018:=by
  unfold qG
  cases h:jnP s with
  | none=>exact Nat.zero_le _
  | some x =>
    rw [Option.bind_some]
    by_cases c:aA6 x.1 o
    · rw [if_pos c]
      cases g:yH s o o [] with
      | none=>exact Nat.zero_le _
      | some b=>exact aJ3 hz (aFW c).1 g
    · rw [if_neg c];exact Nat.zero_le _
end Go.Ev
/- Comparison of links, conditionals, tree nodes; nodes that have changed. -/
namespace Go.Ev
set_option linter.all false
theorem aFg (a b:List Int) (h:a.length≤4294967296):qC a b=some (decide (a=b)):=by
  unfold qC
  by_cases hl:a.length=b.length
  · rw [if_neg (by omega),aD4 a b hl (fun k ha hb=>by
      unfold sF
      rw [if_pos (by omega),aI ha,aI hb,wi (by omega)]
      simp only [Option.bind_some]
      by_cases c:a[k]=b[k]
      · rw [if_neg (by simp [c]),if_pos c]
      · rw [if_pos c,if_neg c]) (by unfold sF;rw [if_neg (by omega)])]
    by_cases c:a=b <;> simp [c]
  · rw [if_pos (by omega)]
    have:a≠b:=by rintro rfl;exact hl rfl
    simp [this]
theorem fT (r s:Rat) (h:aS r≤4294967296):dH r s=some (decide (r=s)):=by
  obtain ⟨⟨a,m⟩,d⟩:=r
  obtain ⟨⟨a',m'⟩,d'⟩:=s
  unfold aS cQ fI at h
  rw [oV,oV] at h
  simp only at h
  unfold dH
  simp only []
  rw [aFg m m' (by omega),aFg d d' (by omega)]
  by_cases c1:a=a' <;> by_cases c2:m=m' <;> by_cases c3:d=d' <;> simp [c1,c2,c3]
theorem tO (r s:Rat) (h:aS r≤4294967296):cY r s=some (decide (r=s)):=fT r s h
theorem aFf (r s:Link) (h:aX r≤4294967296):qB r s=some (decide (r=s)):=by
  obtain ⟨a,b,w,x,y⟩:=r
  obtain ⟨a',b',w',x',y'⟩:=s
  unfold aX at h
  simp only at h
  unfold qB
  simp only []
  rw [fT w w' (by omega),fT x x' (by omega),fT y y' (by omega)]
  by_cases c1:a=a' <;> by_cases c2:b=b' <;> by_cases c3:w=w' <;> by_cases c4:x=x' <;> by_cases c5:y=y' <;> simp [c1,c2,c3,c4,c5]
theorem aAt (a b:List Link) (h:aG a≤4294967296):nV a b=some (decide (a=b)):=by
  have hal:=cO aX a
  unfold aG at h
  unfold nV
  by_cases hl:a.length=b.length
  · rw [if_neg (by omega),aD4 a b hl (fun k ha hb=>by
      have he:=gG (w:=aX) (List.getElem_mem ha)
      unfold qM
      rw [if_pos (by omega),aI ha,aI hb,wi (by omega)]
      simp only [Option.bind_some]
      rw [aFf _ _ (by omega)]
      simp only [Option.bind_some]
      by_cases c:a[k]=b[k]
      · rw [if_pos (by simp [c]),if_pos c]
      · rw [if_neg (by simp [c]),if_neg c]) (by unfold qM;rw [if_neg (by omega)])]
    by_cases c:a=b <;> simp [c]
  · rw [if_pos (by omega)]
    have:a≠b:=by rintro rfl;exact hl rfl
    simp [this]
theorem wA (a b:List Link) (h:aG a≤4294967296):kN a b=some (decide (a=b)):=by
  have hal:=cO aX a
  unfold aG at h
  unfold kN
  by_cases hl:a.length=b.length
  · rw [if_neg (by omega),aD4 a b hl (fun k ha hb=>by
      have he:=gG (w:=aX) (List.getElem_mem ha)
      unfold qJ
      rw [if_pos (by omega),aI ha,aI hb,wi (by omega)]
      simp only [Option.bind_some]
      generalize a[k]=r at *
      generalize b[k]=s at *
      obtain ⟨a1,b1,w,x,y⟩:=r
      obtain ⟨a2,b2,w',x',y'⟩:=s
      have hn:aX ⟨a1,b1,w,x,y⟩=aS w+aS x+aS y:=rfl
      simp only []
      rw [tO w w' (by omega),tO x x' (by omega),tO y y' (by omega)]
      by_cases c1:a1=a2 <;> by_cases c2:b1=b2 <;> by_cases c3:w=w' <;> by_cases c4:x=x' <;> by_cases c5:y=y' <;> simp [c1,c2,c3,c4,c5]) (by unfold qJ;rw [if_neg (by omega)])]
    by_cases c:a=b <;> simp [c]
  · rw [if_pos (by omega)]
    have:a≠b:=by rintro rfl;exact hl rfl
    simp [this]
theorem vJ (a b:Conditional) (h:aQ a≤4294967296):iT a b=some (decide (a=b)):=by
  obtain ⟨n,t,l⟩:=a
  obtain ⟨n',t',l'⟩:=b
  have hal:=cO bZ l
  unfold aQ cU at h
  simp only at h
  unfold iT
  simp only []
  rw [fT t t' (by omega)]
  by_cases c1:n=n'
  · by_cases c2:t=t'
    · by_cases hl:l.length=l'.length
      · have e:lp (fZ ⟨n,t,l⟩ ⟨n',t',l'⟩) 0=some (if l=l' then .inl () else .inr false):=aD4 l l' hl (fun k ha hb=>by
          have he:=gG (w:=bZ) (List.getElem_mem ha)
          unfold fZ
          simp only []
          rw [if_pos (by omega),aI ha,aI hb,wi (by omega)]
          simp only [Option.bind_some]
          generalize l[k]=r at *
          generalize l'[k]=s at *
          obtain ⟨a1,w,x,y⟩:=r
          obtain ⟨a2,w',x',y'⟩:=s
          have hn:bZ ⟨a1,w,x,y⟩=aS w+aS x+aS y:=rfl
          simp only []
          rw [fT w w' (by omega),fT x x' (by omega),fT y y' (by omega)]
          by_cases c1:a1=a2 <;> by_cases c3:w=w' <;> by_cases c4:x=x' <;> by_cases c5:y=y' <;> simp [c1,c3,c4,c5]) (by unfold fZ;simp only [];rw [if_neg (by omega)])
        rw [e]
        by_cases c:l=l' <;> simp [c1,c2,hl,c]
      · have:l≠l':=by rintro rfl;exact hl rfl
        have h2:(l.length:Int)≠(l'.length:Int):=by omega
        simp [c1,c2,this,h2]
    · simp [c1,c2]
  · simp [c1]
theorem aAE (a b:Conditional) (h:aQ a≤4294967296):lR a b=some (decide (a=b)):=vJ a b h
theorem aFe (a b:TreeNode) (h:aU a≤4294967296):mH a b=some (decide (a=b)):=by
  obtain ⟨n,u,o,c,m,e⟩:=a
  obtain ⟨n',u',o',c',m',e'⟩:=b
  unfold aU at h
  simp only at h
  unfold mH
  simp only []
  rw [aAt o o' (by omega),vJ c c' (by omega),aAt m m' (by omega),fT e e' (by omega)]
  by_cases c1:n=n' <;> by_cases c2:u=u' <;> by_cases c3:o=o' <;> by_cases c4:c=c' <;> by_cases c5:m=m' <;> by_cases c6:e=e' <;> simp [c1,c2,c3,c4,c5,c6]
theorem aK2 (a b:TreeNode) (h:aU a≤4294967296):uP a b=some (decide (a=b)):=by
  obtain ⟨n,u,o,c,m,e⟩:=a
  obtain ⟨n',u',o',c',m',e'⟩:=b
  unfold aU at h
  simp only at h
  unfold uP
  simp only []
  rw [wA o o' (by omega),aAE c c' (by omega),wA m m' (by omega),tO e e' (by omega)]
  by_cases c1:n=n' <;> by_cases c2:u=u' <;> by_cases c3:o=o' <;> by_cases c4:c=c' <;> by_cases c5:m=m' <;> by_cases c6:e=e' <;> simp [c1,c2,c3,c4,c5,c6]
def atN (t:Tree) (v:Int):Option Nat:=t.fNodes.findIdx? (fun n=>decide (n.fNode=v))
theorem aG5 (t:Tree) (v:Int) (h:t.fNodes.length≤4294967296):mI t v=some (match atN t v with | none=>-1 | some k=>(k:Int)):=by
  unfold mI atN
  rw [aL1 t.fNodes (fun n=>decide (n.fNode=v)) (fun k hk=>by
    unfold tV
    rw [if_pos (by omega),aI hk,wi (by omega)]
    simp only [Option.bind_some,decide_eq_true_eq]
    by_cases c:(t.fNodes[k]).fNode=v
    · rw [if_pos c,if_pos c]
    · rw [if_neg c,if_neg c]) (by unfold tV;rw [if_neg (by omega)])]
  simp only [Option.bind_some]
  cases t.fNodes.findIdx? (fun n=>decide (n.fNode=v)) <;> rfl
theorem aHT (t:Tree) (v:Int) (h:t.fNodes.length≤4294967296):yJ t v=some (match atN t v with | none=>-1 | some k=>(k:Int)):=aG5 t v h
end Go.Ev
/- Is it a tree, both programs, and the law. -/
namespace Go.Ev
set_option linter.all false
theorem aFQ (t:Tree) (h:cD t≤4294967296):kM t=some (bV t.fNodes)∧lE t=some (bV t.fNodes):=by
  unfold cD cC at h
  have hl:=cO aU t.fNodes
  have hmem:∀ k (hk:k < t.fNodes.length),aG (t.fNodes[k]).fOwn≤4294967296:=fun k hk=>by
    have he:=gG (w:=aU) (List.getElem_mem hk)
    have hn:aU t.fNodes[k]=aG (t.fNodes[k]).fOwn+aQ (t.fNodes[k]).fCond+aG (t.fNodes[k]).fMessages+aS (t.fNodes[k]).fEnergy:=rfl
    omega
  have hln:∀ k (hk:k < t.fNodes.length),(bV (t.fNodes.take k)).length+((t.fNodes[k]).fOwn).length≤4294967296:=fun k hk=>by
    have:=aJs t.fNodes h (k+1)
    rw [aBq _ _ hk,List.length_append] at this;omega
  have aux:∀ (step:(Int × (List Link))→Option ((Int × (List Link)) ⊕ (List Link))),(∀ k (hk:k < t.fNodes.length),step ((k:Int),bV (t.fNodes.take k))=some (.inl (((k+1:Nat):Int),bV (t.fNodes.take (k+1)))))→step ((t.fNodes.length:Int),bV (t.fNodes.take t.fNodes.length))=some (.inr (bV t.fNodes))→lp step (0,[])=some (bV t.fNodes):=by
    intro step h1 h2
    have main:∀ m k:Nat,m+k=t.fNodes.length→lp step ((k:Int),bV (t.fNodes.take k))=some (bV t.fNodes):=by
      intro m
      induction m with
      | zero =>
        intro k hk
        have:k=t.fNodes.length:=by omega
        subst this
        exact aN h2
      | succ m ih =>
        intro k hk
        rw [bF (h1 k (by omega))]
        exact ih (k+1) (by omega)
    exact main t.fNodes.length 0 (by omega)
  constructor
  · unfold kM
    rw [aux (lQ t) (fun k hk=>by
      have:=hmem k hk
      have:=hln k hk
      unfold lQ
      simp only []
      rw [if_pos (by omega),aI hk]
      simp only [Option.bind_some]
      rw [zS _ (by omega)]
      simp only [Option.bind_some]
      rw [aP (by omega),aBq _ _ hk,wi1 (by omega)];rfl) (by unfold lQ;simp only [];rw [if_neg (by omega),List.take_length])]
    rfl
  · unfold lE
    rw [aux (mL t) (fun k hk=>by
      have:=hmem k hk
      have:=hln k hk
      unfold mL
      simp only []
      rw [if_pos (by omega),aI hk]
      simp only [Option.bind_some]
      rw [sH _ (by omega)]
      simp only [Option.bind_some]
      rw [aP (by omega),aBq _ _ hk,wi1 (by omega)];rfl) (by unfold mL;simp only [];rw [if_neg (by omega),List.take_length])]
    rfl
def eH (t:Tree):List Int:=t.fNodes.map (·.fNode)
theorem aHJ (t:Tree) (h:t.fNodes.length≤4294967296):jP t=some (eH t)∧sJ t=some (eH t):=by
  have e:sJ t=jP t:=rfl
  have:jP t=some (eH t):=by
    have:=(iN (step:=pA t) t.fNodes (fun k u=>((k:Int),u)) (fun u n=>u++[n.fNode]) (fun u=>u) (fun k u=>u.length≤k) (fun k u hk hi=>by
      constructor
      · unfold pA
        simp only []
        rw [if_pos (by omega),aI hk]
        simp only [Option.bind_some,wi1 (by omega:k≤4294967296)]
        rw [aP (by omega)];rfl
      · rw [List.length_append,List.length_singleton];omega) (fun u _=>by unfold pA;simp only [];rw [if_neg (by omega)]) [] (Nat.zero_le _)).1
    rw [show ((0:Nat):Int)=0 from rfl,aC1,List.nil_append] at this
    unfold jP
    rw [this];rfl
  exact ⟨this,e.trans this⟩
theorem aJ9 (a b:Tree) (h:cD a≤4294967296):sS a b=some (decide (a=b)):=by
  unfold cD cC at h
  have hl:=cO aU a.fNodes
  obtain ⟨a⟩:=a
  obtain ⟨b⟩:=b
  simp only [] at h hl
  unfold sS
  by_cases hn:a.length=b.length
  · rw [if_neg (by simp only [];omega),aD4 a b hn (fun k ha hb=>by
      have he:=gG (w:=aU) (List.getElem_mem ha)
      unfold rU
      simp only []
      rw [if_pos (by omega),aI ha,aI hb,wi (by omega)]
      simp only [Option.bind_some]
      rw [aK2 _ _ (by omega)]
      by_cases c:a[k]=b[k] <;> simp [c]) (by unfold rU;simp only [];rw [if_neg (by omega)])]
    by_cases c:a=b <;> simp [c]
  · rw [if_pos (by simp only [];omega)]
    have:a≠b:=by rintro rfl;exact hn rfl
    simp [this]
theorem aKa (a b:Tree) (h:cD a≤4294967296):tI a b=some (decide (a=b)):=by
  unfold cD cC at h
  have hl:=cO aU a.fNodes
  obtain ⟨a⟩:=a
  obtain ⟨b⟩:=b
  simp only [] at h hl
  unfold tI
  by_cases hn:a.length=b.length
  · rw [if_neg (by simp only [];omega),aD4 a b hn (fun k ha hb=>by
      have he:=gG (w:=aU) (List.getElem_mem ha)
      unfold sI
      simp only []
      rw [if_pos (by omega),aI ha,aI hb,wi (by omega)]
      simp only [Option.bind_some]
      rw [aFe _ _ (by omega)]
      by_cases c:a[k]=b[k] <;> simp [c]) (by unfold sI;simp only [];rw [if_neg (by omega)])]
    by_cases c:a=b <;> simp [c]
  · rw [if_pos (by simp only [];omega)]
    have:a≠b:=by rintro rfl;exact hn rfl
    simp [this]
def mF (t:Tree):Prop:=qG (bV t.fNodes) (eH t)=some t
noncomputable instance (t:Tree):Decidable (mF t):=Classical.propDecidable _
theorem aI9 (t:Tree) (h:cD t≤4194304):uC t=some (decide (mF t))∧uL t=some (decide (mF t)):=by
  have h0:=h
  unfold cD cC at h
  have hl:=cO aU t.fNodes
  have ho:=yE t.fNodes
  obtain ⟨l1,l2⟩:=aFQ t (by omega)
  obtain ⟨o1,o2⟩:=aHJ t (by omega)
  obtain ⟨b1,b2⟩:=aE2 (bV t.fNodes) (eH t) (by omega) (by unfold eH;rw [List.length_map];omega)
  unfold uC uL
  rw [l1,l2]
  simp only [Option.bind_some,o1,o2,b1,b2]
  by_cases c:mF t
  · have c':=c
    unfold mF at c'
    rw [c',decide_eq_true c]
    simp only [pkT,if_true,aJ9 t t (by omega),aKa t t (by omega),Option.bind_some,decide_true,and_self]
  · rw [decide_eq_false c]
    cases g:qG (bV t.fNodes) (eH t) with
    | none=>simp [pkT]
    | some u =>
      have:¬t=u:=by rintro rfl;exact c g
      simp only [pkT,if_true,aJ9 t u (by omega),aKa t u (by omega),Option.bind_some,decide_eq_false this,and_self]
end Go.Ev
/- Paths of a tree end: what a tree's node hands up lies later in the order. -/
namespace Go.Ev
set_option linter.all false
def pr (s:List Link) (x y:Int):Prop:=∃ l ∈ s,l.fA=x∧l.fB=y
theorem aCN {a b:List Link} {x y:Int}:pr (a++b) x y↔pr a x y∨pr b x y:=by
  unfold pr
  constructor
  · rintro ⟨l,h,e⟩
    rcases List.mem_append.1 h with h | h
    · exact .inl ⟨l,h,e⟩
    · exact .inr ⟨l,h,e⟩
  · rintro (⟨l,h,e⟩ | ⟨l,h,e⟩)
    · exact ⟨l,List.mem_append_left _ h,e⟩
    · exact ⟨l,List.mem_append_right _ h,e⟩
theorem aES {a:List Link} {l:Link} {x y:Int}:pr (l::a) x y↔(l.fA=x∧l.fB=y)∨pr a x y:=by
  unfold pr;simp only [List.mem_cons,exists_eq_or_imp]
theorem aJo {x y:Int}:¬pr [] x y:=by rintro ⟨l,h,_⟩;cases h
theorem aM1 {s:List Link} {l:Link} {s':List Link} {e:Rat} (h:aEO s l=some (s',e)) (x y:Int):pr s' x y↔pr s x y∨(l.fA=x∧l.fB=y):=by
  have ins:∀ p,pr (s.take p++[l]++s.drop p) x y↔pr s x y∨(l.fA=x∧l.fB=y):=by
    intro p
    have e1:pr s x y↔pr (s.take p) x y∨pr (s.drop p) x y:=by rw [← aCN,List.take_append_drop]
    rw [e1,List.append_assoc,aCN,List.singleton_append,aES]
    constructor
    · rintro (h | h | h)
      · exact .inl (.inl h)
      · exact .inr h
      · exact .inl (.inr h)
    · rintro ((h | h) | h)
      · exact .inl h
      · exact .inr (.inr h)
      · exact .inr (.inl h)
  unfold aEO at h
  by_cases c:fD l s < s.length
  · rw [dif_pos c] at h
    by_cases c2:gC l s[fD l s]
    · rw [if_pos c2] at h;cases h;exact ins _
    · rw [if_neg c2] at h
      have nl:=aB5 l s c
      have hA:s[fD l s].fA=l.fA∧s[fD l s].fB=l.fB:=by unfold gC at c2 nl;omega
      by_cases O:aBs s[fD l s] l
      · rw [if_pos O] at h;cases h
        have e1:pr s x y↔pr (s.take (fD l s)) x y∨((s[fD l s].fA=x∧s[fD l s].fB=y)∨pr (s.drop (fD l s+1)) x y):=by
          rw [← aES,← List.drop_eq_getElem_cons c,← aCN,List.take_append_drop]
        rw [e1,List.append_assoc,aCN,List.singleton_append,aES]
        have e2:(aDo s[fD l s] l).fA=s[fD l s].fA:=rfl
        have e3:(aDo s[fD l s] l).fB=s[fD l s].fB:=rfl
        rw [e2,e3,hA.1,hA.2]
        constructor
        · rintro (h | h | h)
          · exact .inl (.inl h)
          · exact .inr h
          · exact .inl (.inr (.inr h))
        · rintro ((h | h | h) | h)
          · exact .inl h
          · exact .inr (.inl h)
          · exact .inr (.inr h)
          · exact .inr (.inl h)
      · rw [if_neg O] at h;cases h
  · rw [dif_neg c] at h;cases h;exact ins _
theorem aIH:∀ (l s:List Link) (e:Rat) (s':List Link) (e':Rat),xX l s e=some (s',e')→∀ x y,pr s' x y↔pr s x y∨pr l x y
  | [],s,e,s',e',h,x,y=>by
    rw [xX] at h;cases h
    exact ⟨.inl,fun h=>h.elim id (fun h=>(aJo h).elim)⟩
  | a::r,s,e,s',e',h,x,y=>by
    rw [xX] at h
    cases ha:aEO s a with
    | none=>rw [ha] at h;cases h
    | some t =>
      obtain ⟨s1,e1⟩:=t
      rw [ha] at h
      simp only [] at h
      by_cases c:bX (RA e e1)
      · rw [if_pos c] at h
        rw [aIH r s1 _ s' e' h x y,aM1 ha,aES,or_assoc]
      · rw [if_neg c] at h;cases h
theorem aHU {l s:List Link} {e:Rat} (h:jnP l=some (s,e)) (x y:Int):pr s x y↔pr l x y:=by
  unfold jnP at h
  by_cases c:∀ x ∈ l,ValidL x
  · rw [if_pos c] at h
    rw [aIH l [] _ s e h x y]
    exact ⟨fun h=>h.elim (fun h=>(aJo h).elim) id,.inr⟩
  · rw [if_neg c] at h;cases h
def adj (s:List Link) (x y:Int):Prop:=pr s x y∨pr s y x
def en (s:List Link) (x:Int):Prop:=∃ y,adj s x y
theorem aKo (t:Rat) {x y:Int}:∀ {a:List l08Arm},(a.map (·.fnode)).Pairwise (· < ·)→(pr (iY t a) x y↔x ∈ a.map (·.fnode)∧y ∈ a.map (·.fnode)∧x < y)
  | [],_=>⟨fun h=>(aJo h).elim,fun h=>by cases h.1⟩
  | b::r,hp=>by
    rw [List.map_cons,List.pairwise_cons] at hp
    rw [iY,aCN,aKo t hp.2,List.map_cons]
    have e1:pr (r.map (vY t b)) x y↔x=b.fnode∧y ∈ r.map (·.fnode):=by
      constructor
      · rintro ⟨l,hl,h1,h2⟩
        obtain ⟨z,hz,rfl⟩:=List.mem_map.1 hl
        exact ⟨h1.symm,List.mem_map.2 ⟨z,hz,h2⟩⟩
      · rintro ⟨rfl,h⟩
        obtain ⟨z,hz,rfl⟩:=List.mem_map.1 h
        exact ⟨vY t b z,List.mem_map.2 ⟨z,hz,rfl⟩,rfl,rfl⟩
    rw [e1,List.mem_cons,List.mem_cons]
    constructor
    · rintro (⟨rfl,h⟩ | ⟨h1,h2,h3⟩)
      · exact ⟨.inl rfl,.inr h,hp.1 y h⟩
      · exact ⟨.inr h1,.inr h2,h3⟩
    · rintro ⟨h1,h2,h3⟩
      rcases h1 with rfl | h1
      · rcases h2 with rfl | h2
        · omega
        · exact .inl ⟨rfl,h2⟩
      · rcases h2 with rfl | h2
        · have:=hp.1 x h1;omega
        · exact .inr ⟨h1,h2,h3⟩
theorem aMM {v:Int} {s:List Link} (hs:LSet s) {c:Conditional} {m:List Link} {f:Rat} (h:aDR v s=some (c,m,f)) :
    (∀ p,p ∈ aBd c↔adj s p v)∧∀ x y,pr m x y↔(pr s x y∧x≠v∧y≠v)∨(x ∈ aBd c∧y ∈ aBd c∧x < y):=by
  unfold aDR at h
  cases h1:zQ v s with
  | none=>rw [h1] at h;cases h
  | some u =>
    rw [h1] at h
    cases h2:jnP (zI v s++u.2) with
    | none=>rw [Option.bind_some,h2] at h;cases h
    | some w =>
      rw [Option.bind_some,h2] at h
      cases h
      unfold zQ at h1
      split at h1
      · cases h1
        have hn:aBd (aBU v (bY v s))=(bY v s).map (·.fnode):=by unfold aBd aBU;rw [List.map_map];rfl
        have hp:∀ p,p ∈ aBd (aBU v (bY v s))↔adj s p v:=by
          intro p
          rw [hn]
          unfold bY
          rw [List.map_map]
          simp only [List.mem_map,List.mem_filter,Function.comp]
          constructor
          · rintro ⟨l,⟨hl,ht⟩,rfl⟩
            rw [aAY]
            unfold sV tch at *
            have ht:=of_decide_eq_true ht
            split
            · rename_i e;exact .inr ⟨l,hl,e,rfl⟩
            · rename_i e;exact .inl ⟨l,hl,rfl,ht.resolve_left e⟩
          · rintro (⟨l,hl,e1,e2⟩ | ⟨l,hl,e1,e2⟩)
            · have:=(hs.1 l hl).2.2.1
              refine ⟨l,⟨hl,by unfold tch;simp [e2]⟩,?_⟩
              rw [aAY];unfold sV
              rw [if_neg (by omega)];exact e1
            · refine ⟨l,⟨hl,by unfold tch;simp [e1]⟩,?_⟩
              rw [aAY];unfold sV
              rw [if_pos e1];exact e2
        refine ⟨hp,fun x y=>?_⟩
        rw [aHU (s:=w.1) (e:=w.2) h2,aCN,aKo _ (aHc hs v),← hn]
        have hr:pr (zI v s) x y↔pr s x y∧x≠v∧y≠v:=by
          unfold zI pr
          simp only [List.mem_filter,tch,Bool.not_eq_true',decide_eq_false_iff_not]
          constructor
          · rintro ⟨l,⟨hl,hn⟩,rfl,rfl⟩
            exact ⟨⟨l,hl,rfl,rfl⟩,fun e=>hn (.inl e),fun e=>hn (.inr e)⟩
          · rintro ⟨⟨l,hl,rfl,rfl⟩,a,b⟩
            exact ⟨l,⟨hl,fun h=>h.elim a b⟩,rfl,rfl⟩
        rw [hr]
      · cases h1
structure PathN (o:List Int) (n:TreeNode):Prop where
  near:∀ x,en n.fMessages x→x ∈ aBd n.fCond
  clq:∀ x y,x ∈ aBd n.fCond→y ∈ aBd n.fCond→x < y→pr n.fMessages x y
  late:∀ i (h:i < o.length),o[i]=n.fNode→∀ p ∈ aBd n.fCond,p ∉ o.take (i+1)
theorem aFC {v:Int} {b:List TreeNode} {x y:Int}:pr (zW v b) x y↔∃ n ∈ b,n.fUp=v∧pr n.fMessages x y:=by
  unfold pr zW
  constructor
  · rintro ⟨l,hl,e⟩
    obtain ⟨n,hn,h⟩:=List.mem_flatMap.1 hl
    obtain ⟨h1,h2⟩:=List.mem_filter.1 hn
    exact ⟨n,h1,of_decide_eq_true h2,l,h,e⟩
  · rintro ⟨n,h1,h2,l,h,e⟩
    exact ⟨l,List.mem_flatMap.2 ⟨n,List.mem_filter.2 ⟨h1,by simp [h2]⟩,h⟩,e⟩
theorem aJv {s:List Link} {o:List Int} (hn:o.Nodup) (h1:∀ u ∈ o,1≤u) {k:Nat} (hk:k < o.length) {b:List TreeNode} (hb:∀ n ∈ b,NodeOk s o n∧PathN o n) {n:TreeNode} (h:xI o o[k] (s.filter (xH o o[k])) b=some n):PathN o n:=by
  have hv:=h1 _ (List.getElem_mem hk)
  unfold xI at h
  cases e1:jnP (s.filter (xH o o[k])++zW o[k] b) with
  | none=>rw [e1] at h;cases h
  | some u =>
    obtain ⟨j,e⟩:=u
    rw [e1,Option.bind_some] at h
    cases e2:aDR o[k] j with
    | none=>rw [e2] at h;cases h
    | some w =>
      obtain ⟨c,m,f⟩:=w
      rw [e2,Option.bind_some] at h
      split at h
      · cases h
        obtain ⟨_,hs,_⟩:=aCZ e1
        obtain ⟨hp,hm⟩:=aMM hs e2
        have hj:∀ x y,pr j x y↔pr (s.filter (xH o o[k])) x y∨pr (zW o[k] b) x y:=fun x y=>by rw [aHU e1,aCN]
        have up:∀ n ∈ b,n.fUp=o[k]→iF o (aBd n.fCond)=o[k]:=fun n hn hu=>by rw [← hu,(hb n hn).1.2.2.2.2];rfl
        have nb:∀ x,en j x→x≠o[k]→adj j x o[k]:=by
          rintro x ⟨y,hxy⟩ hx
          have own:∀ x y,pr (s.filter (xH o o[k])) x y→(x=o[k]∨y=o[k]):=by
            rintro x y ⟨l,hl,rfl,rfl⟩
            have:=(aB9 (of_decide_eq_true (List.mem_filter.1 hl).2) (by omega)).1
            simp only [List.mem_cons,List.not_mem_nil,or_false] at this
            exact this.elim (fun h=>.inl h.symm) (fun h=>.inr h.symm)
          have msg:∀ x,(∃ y,adj (zW o[k] b) x y)→x≠o[k]→adj j x o[k]:=by
            rintro x ⟨y,h⟩ hx
            have:∃ n ∈ b,n.fUp=o[k]∧en n.fMessages x:=by
              rcases h with h | h
              · obtain ⟨n,a,b,c⟩:=aFC.1 h;exact ⟨n,a,b,y,.inl c⟩
              · obtain ⟨n,a,b,c⟩:=aFC.1 h;exact ⟨n,a,b,y,.inr c⟩
            obtain ⟨n,hn,hu,he⟩:=this
            have px:=(hb n hn).2.near x he
            have pv:=(aB9 (up n hn hu) (by omega)).1
            rcases Int.lt_or_gt_of_ne hx with hlt | hlt
            · exact .inl ((hj _ _).2 (.inr (aFC.2 ⟨n,hn,hu,(hb n hn).2.clq _ _ px pv hlt⟩)))
            · exact .inr ((hj _ _).2 (.inr (aFC.2 ⟨n,hn,hu,(hb n hn).2.clq _ _ pv px hlt⟩)))
          rcases hxy with h | h
          · rcases (hj _ _).1 h with g | g
            · rcases own _ _ g with e | e
              · exact absurd e hx
              · rw [e] at h;exact .inl h
            · exact msg x ⟨y,.inl g⟩ hx
          · rcases (hj _ _).1 h with g | g
            · rcases own _ _ g with e | e
              · rw [e] at h;exact .inr h
              · exact absurd e hx
            · exact msg x ⟨y,.inr g⟩ hx
        refine ⟨?_,fun x y hx hy hxy=>(hm x y).2 (.inr ⟨hx,hy,hxy⟩),?_⟩
        · rintro x ⟨y,h | h⟩
          · rcases (hm x y).1 h with ⟨g,a,_⟩ | ⟨g,_⟩
            · exact (hp x).2 (nb x ⟨y,.inl g⟩ a)
            · exact g
          · rcases (hm y x).1 h with ⟨g,_,a⟩ | ⟨_,g,_⟩
            · exact (hp x).2 (nb x ⟨y,.inr g⟩ a)
            · exact g
        · intro i hi hio p hpp hpt
          have hik:i=k:=by
            have:=(List.getElem_inj hn).1 (show o[i]=o[k] from hio);exact this
          subst hik
          have ha:=(hp p).1 hpp
          have hne:p≠o[i]:=by
            rintro rfl
            rcases ha with ⟨l,hl,a,b⟩ | ⟨l,hl,a,b⟩ <;> (have:=(hs.1 l hl).2.2.1;omega)
          have hpt:p ∈ o.take i:=by
            rw [List.take_add_one,List.getElem?_eq_getElem hi] at hpt
            rcases List.mem_append.1 hpt with h | h
            · exact h
            · exact absurd (by simpa using h) hne
          have key:∀ x y,pr j x y→(x=p∨y=p)→False:=by
            intro x y h hxy
            rcases (hj x y).1 h with ⟨l,hl,rfl,rfl⟩ | h
            · have:=((aC3 hi hn h1).1 (of_decide_eq_true (List.mem_filter.1 hl).2)).2 p hpt
              simp only [List.mem_cons,List.not_mem_nil,or_false,not_or] at this
              rcases hxy with e | e
              · exact this.1 e.symm
              · exact this.2 e.symm
            · obtain ⟨n,hn',hu,g⟩:=aFC.1 h
              refine ((aC3 hi hn h1).1 (up n hn' hu)).2 p hpt ((hb n hn').2.near p ?_)
              rcases hxy with rfl | rfl
              · exact ⟨y,.inl g⟩
              · exact ⟨x,.inr g⟩
          rcases ha with h | h
          · exact key _ _ h (.inl rfl)
          · exact key _ _ h (.inr rfl)
      · cases h
theorem aJf {s:List Link} {o:List Int} (hn:o.Nodup) (h1:∀ u ∈ o,1≤u):∀ m k:Nat,m+k=o.length→∀ b b':List TreeNode,(∀ n ∈ b,NodeOk s o n∧PathN o n)→yH s o (o.drop k) b=some b'→∀ n ∈ b',NodeOk s o n∧PathN o n:=by
  intro m
  induction m with
  | zero =>
    intro k hk b b' hb h
    rw [List.drop_eq_nil_of_le (by omega),yH] at h
    cases h;exact hb
  | succ m ih =>
    intro k hk b b' hb h
    have hlt:k < o.length:=by omega
    rw [List.drop_eq_getElem_cons hlt,yH] at h
    cases e:xI o o[k] (s.filter (xH o o[k])) b with
    | none=>rw [e] at h;cases h
    | some n =>
      rw [e,Option.bind_some] at h
      refine ih (k+1) (by omega) (b++[n]) b' (fun x hx=>?_) h
      rcases List.mem_append.1 hx with hx | hx
      · exact hb x hx
      · rw [List.mem_singleton.1 hx];exact ⟨(aFx e).1,aJv hn h1 hlt hb e⟩
theorem aEP {t:Tree} (ht:mF t):t.fNodes.length≤9∧∀ k (hk:k < t.fNodes.length) j,atN t (t.fNodes[k]).fUp=some j→k < j∧j < t.fNodes.length:=by
  unfold mF qG at ht
  cases h:jnP (bV t.fNodes) with
  | none=>rw [h] at ht;cases ht
  | some x =>
    rw [h,Option.bind_some] at ht
    by_cases c:aA6 x.1 (eH t)
    · rw [if_pos c] at ht
      obtain ⟨l9,h1⟩:=aFW c
      cases g:yH (bV t.fNodes) (eH t) (eH t) [] with
      | none=>rw [g] at ht;cases ht
      | some b =>
        rw [g] at ht
        have hb : b = t.fNodes := by have : Tree.mk b = t := by simpa using ht
                                     rw [← this]
        subst hb
        have hp:=aJf c.1 h1 (eH t).length 0 (by omega) [] t.fNodes (by simp) (by rw [List.drop_zero];exact g)
        have hl:(eH t).length=t.fNodes.length:=by unfold eH;rw [List.length_map]
        refine ⟨by omega,fun k hk j hj=>?_⟩
        unfold atN at hj
        rw [List.findIdx?_eq_some_iff_getElem] at hj
        obtain ⟨hjl,he,_⟩:=hj
        refine ⟨?_,hjl⟩
        have he:=of_decide_eq_true he
        obtain ⟨ok,pn⟩:=hp _ (List.getElem_mem hk)
        have hu:(t.fNodes[k]).fUp=iF (eH t) (aBd (t.fNodes[k]).fCond):=ok.2.2.2.2
        have hoj:(eH t)[j]'(by omega)=(t.fNodes[j]).fNode:=by simp [eH]
        have hok:(eH t)[k]'(by omega)=(t.fNodes[k]).fNode:=by simp [eH]
        have hju:=h1 _ (List.getElem_mem (by omega:j < (eH t).length))
        have hm:=(aB9 hu.symm (by omega)).1
        have nt:=pn.late k (by omega) hok _ hm
        apply Decidable.byContradiction
        intro hle
        apply nt
        rw [← he,← hoj]
        exact List.mem_iff_getElem.2 ⟨j,by rw [List.length_take];omega,by rw [List.getElem_take]⟩
    · rw [if_neg c] at ht;cases ht
theorem aKQ {t:Tree} (ht:mF t):∀ m k:Nat,k+m=t.fNodes.length→k < t.fNodes.length→∀ acc:List Int,acc.length≤k→∃ p,lp (eJ t) ((k:Int),acc)=some p∧p.length≤acc.length+m:=by
  obtain ⟨h9,hup⟩:=aEP ht
  intro m
  induction m using Nat.strongRecOn with
  | ind m ih =>
    intro k hk c acc hacc
    have endl:∀ acc:List Int,lp (eJ t) (-1,acc)=some acc:=fun acc=>aN (by unfold eJ;simp only [];rw [if_neg (by omega)])
    have st:eJ t ((k:Int),acc)=some (.inl ((match atN t (t.fNodes[k]).fUp with | none=>-1 | some j=>(j:Int)),acc++[(t.fNodes[k]).fNode])):=by
      unfold eJ
      simp only []
      rw [if_pos (by omega),aI c]
      simp only [Option.bind_some]
      rw [aP (by omega)]
      simp only [Option.bind_some,uD,aHT t _ (by omega:t.fNodes.length≤4294967296)]
      all_goals rfl
    rw [bF st]
    cases e:atN t (t.fNodes[k]).fUp with
    | none=>exact ⟨_,endl _,by rw [List.length_append,List.length_singleton];omega⟩
    | some j =>
      obtain ⟨g1,g2⟩:=hup k c j e
      obtain ⟨p,q1,q2⟩:=ih (t.fNodes.length - j) (by omega) j (by omega) g2 (acc++[(t.fNodes[k]).fNode]) (by rw [List.length_append,List.length_singleton];omega)
      exact ⟨p,q1,by rw [List.length_append,List.length_singleton] at q2;omega⟩
theorem aNx {t:Tree} (ht:mF t) (v:Int):∃ p,hZ t v=some p∧uH t v=some p∧p.length≤9:=by
  have e:uH t v=hZ t v:=rfl
  rw [e]
  obtain ⟨h9,hup⟩:=aEP ht
  unfold hZ
  rw [aHT t v (by omega)]
  simp only [Option.bind_some]
  cases a:atN t v with
  | none =>
    have:lp (eJ t) (-1,[])=some []:=aN (by unfold eJ;simp only [];rw [if_neg (by omega)])
    exact ⟨[],by simp [this],by simp [this],by simp⟩
  | some k =>
    have hk:k < t.fNodes.length:=by
      unfold atN at a
      rw [List.findIdx?_eq_some_iff_getElem] at a
      exact a.1
    obtain ⟨p,q1,q2⟩:=aKQ ht (t.fNodes.length - k) k (by omega) hk [] (Nat.zero_le _)
    exact ⟨p,by simp [q1],by simp [q1],by simp at q2;omega⟩
end Go.Ev
/- Trees in another order, and the nodes that a change affects: both programs, and the laws. -/
namespace Go.Ev
set_option linter.all false
noncomputable def pG (t:Tree) (v:Int):List Int:=(hZ t v).getD []
theorem aKg {t:Tree} (ht:mF t) (v:Int):hZ t v=some (pG t v)∧uH t v=some (pG t v)∧(pG t v).length≤9:=by
  obtain ⟨p,e1,e2,e3⟩:=aNx ht v
  have:pG t v=p:=by unfold pG;rw [e1];rfl
  rw [this];exact ⟨e1,e2,e3⟩
theorem aLO {t:Tree} (ht:mF t) {v x:Int} (h:x ∈ pG t v):∃ n ∈ t.fNodes,n.fNode=v:=by
  have h9:=(aEP ht).1
  cases a:atN t v with
  | none =>
    have:hZ t v=some []:=by
      unfold hZ
      rw [aHT t v (by omega),a]
      simp only [Option.bind_some]
      rw [aN (r:=[]) (by unfold eJ;simp only [];rw [if_neg (by omega)])];rfl
    unfold pG at h
    rw [this] at h;cases h
  | some k =>
    unfold atN at a
    rw [List.findIdx?_eq_some_iff_getElem] at a
    exact ⟨_,List.getElem_mem a.1,of_decide_eq_true a.2.1⟩
noncomputable def aCp (t:Tree) (s:List Int):List Int:=(eH t).filter (fun x=>decide (∃ y ∈ s,x ∈ pG t y))
theorem aD6 (t:Tree):∀ (s u:List Int),s.foldl (fun u y=>u++pG t y) u=u++s.flatMap (pG t)
  | [],u=>by simp
  | y::s,u=>by rw [List.foldl_cons,aD6 t s,List.flatMap_cons,List.append_assoc]
theorem aC2 (t:Tree) (s:List Int):∀ (l:List TreeNode) (u:List Int),l.foldl (fun u n=>if n.fNode ∈ s then u++pG t n.fNode else u) u=u++(l.filter (fun n=>decide (n.fNode ∈ s))).flatMap (fun n=>pG t n.fNode)
  | [],u=>by simp
  | n::l,u=>by
    rw [List.foldl_cons,aC2 t s l,List.filter_cons]
    by_cases c:n.fNode ∈ s <;> simp [c]
theorem aF0 (d:List Int):∀ (l:List TreeNode) (u:List Int),l.foldl (fun u n=>if n.fNode ∈ d then u++[n.fNode] else u) u=u++(l.map (·.fNode)).filter (fun x=>decide (x ∈ d))
  | [],u=>by simp
  | n::l,u=>by
    rw [List.foldl_cons,aF0 d l,List.map_cons,List.filter_cons]
    by_cases c:n.fNode ∈ d <;> simp [c]
theorem aMq {t:Tree} {s d:List Int} (h:∀ x,x ∈ d↔∃ y ∈ s,x ∈ pG t y):(eH t).filter (fun x=>decide (x ∈ d))=aCp t s:=by
  unfold aCp
  refine List.filter_congr fun x _=>?_
  rw [Bool.eq_iff_iff,decide_eq_true_iff,decide_eq_true_iff];exact h x
theorem aMp {t:Tree} (ht:mF t) (s:List Int) (hs:s.length≤4194304):kE t s=some (aCp t s)∧lJ t s=some (aCp t s)∧(aCp t s).length≤9:=by
  have h9:=(aEP ht).1
  have hl:(aCp t s).length≤9:=by
    have:=List.length_filter_le (fun x=>decide (∃ y ∈ s,x ∈ pG t y)) (eH t)
    have e:(eH t).length=t.fNodes.length:=by unfold eH;rw [List.length_map]
    unfold aCp;omega
  have second:∀ (step:(Int × (List Int))→Option ((Int × (List Int)) ⊕ (List Int))) (d:List Int),(∀ k (hk:k < t.fNodes.length) (u:List Int),u.length≤k→step ((k:Int),u)=some (.inl (((k+1:Nat):Int),if (t.fNodes[k]).fNode ∈ d then u++[(t.fNodes[k]).fNode] else u)))→(∀ u,step ((t.fNodes.length:Int),u)=some (.inr u))→(∀ x,x ∈ d↔∃ y ∈ s,x ∈ pG t y)→lp step (0,[])=some (aCp t s):=by
    intro step d h1 h2 h3
    have:=(iN (step:=step) t.fNodes (fun k u=>((k:Int),u)) (fun u n=>if n.fNode ∈ d then u++[n.fNode] else u) (fun u=>u) (fun k u=>u.length≤k) (fun k u hk hi=>by
      refine ⟨h1 k hk u hi,?_⟩
      split
      · rw [List.length_append,List.length_singleton];omega
      · omega) (fun u _=>h2 u) [] (Nat.zero_le _)).1
    rw [show ((0:Nat):Int)=0 from rfl,aF0,List.nil_append] at this
    rw [this]
    exact congrArg some (aMq h3)
  refine ⟨?_,?_,hl⟩
  · have f1:=(iN (step:=jI t s) s (fun k u=>((k:Int),u)) (fun u y=>u++pG t y) (fun u=>u) (fun k u=>u.length≤9*k) (fun k u hk hi=>by
      obtain ⟨q1,_,q3⟩:=aKg ht s[k]
      constructor
      · unfold jI
        simp only []
        rw [if_pos (by omega),aI hk]
        simp only [Option.bind_some,q1,wi1 (by omega:k≤4294967296)]
        rw [aP (by omega)];rfl
      · rw [List.length_append];omega) (fun u _=>by unfold jI;simp only [];rw [if_neg (by omega)]) [] (Nat.zero_le _))
    have f2:=f1.2
    have f1:=f1.1
    rw [show ((0:Nat):Int)=0 from rfl,aD6,List.nil_append] at f1
    rw [aD6,List.nil_append] at f2
    unfold kE
    rw [f1]
    simp only [Option.bind_some]
    rw [second (jH t (s.flatMap (pG t))) (s.flatMap (pG t)) (fun k hk u hu=>by
      unfold jH
      simp only []
      rw [if_pos (by omega),aI hk]
      simp only [Option.bind_some,tE _ _ (by omega:(s.flatMap (pG t)).length≤4294967296),wi1 (by omega:k≤4294967296)]
      by_cases c:(t.fNodes[k]).fNode ∈ s.flatMap (pG t)
      · rw [decide_eq_true c,if_pos rfl,if_pos c,aP (by omega)];rfl
      · rw [decide_eq_false c,if_neg c];rfl) (fun u=>by unfold jH;simp only [];rw [if_neg (by omega)]) (fun x=>List.mem_flatMap)]
    rfl
  · have f1:=(iN (step:=lD t s) t.fNodes (fun k u=>((k:Int),u)) (fun u n=>if n.fNode ∈ s then u++pG t n.fNode else u) (fun u=>u) (fun k u=>u.length≤9*k) (fun k u hk hi=>by
      obtain ⟨_,q2,q3⟩:=aKg ht (t.fNodes[k]).fNode
      constructor
      · unfold lD
        simp only []
        rw [if_pos (by omega),aI hk]
        simp only [Option.bind_some,aAu s _ (by omega),q2,wi1 (by omega:k≤4294967296)]
        by_cases c:(t.fNodes[k]).fNode ∈ s
        · rw [decide_eq_true c,if_pos rfl,if_pos c,aP (by omega)];rfl
        · rw [decide_eq_false c,if_neg c];rfl
      · split
        · rw [List.length_append];omega
        · omega) (fun u _=>by unfold lD;simp only [];rw [if_neg (by omega)]) [] (Nat.zero_le _))
    have f2:=f1.2
    have f1:=f1.1
    rw [show ((0:Nat):Int)=0 from rfl,aC2,List.nil_append] at f1
    rw [aC2,List.nil_append] at f2
    unfold lJ
    rw [f1]
    simp only [Option.bind_some]
    rw [second (lC t ((t.fNodes.filter (fun n=>decide (n.fNode ∈ s))).flatMap (fun n=>pG t n.fNode))) ((t.fNodes.filter (fun n=>decide (n.fNode ∈ s))).flatMap (fun n=>pG t n.fNode)) (fun k hk u hu=>by
      unfold lC
      simp only []
      rw [if_pos (by omega),aI hk]
      simp only [Option.bind_some,aAu ((t.fNodes.filter (fun n=>decide (n.fNode ∈ s))).flatMap (fun n=>pG t n.fNode)) _ (by omega),wi1 (by omega:k≤4294967296)]
      by_cases c:(t.fNodes[k]).fNode ∈ (t.fNodes.filter (fun n=>decide (n.fNode ∈ s))).flatMap (fun n=>pG t n.fNode)
      · rw [decide_eq_true c,if_pos rfl,if_pos c,aP (by omega)];rfl
      · rw [decide_eq_false c,if_neg c];rfl) (fun u=>by unfold lC;simp only [];rw [if_neg (by omega)]) (fun x=>by
      rw [List.mem_flatMap]
      constructor
      · rintro ⟨n,hn,hx⟩
        exact ⟨n.fNode,of_decide_eq_true (List.mem_filter.1 hn).2,hx⟩
      · rintro ⟨y,hy,hx⟩
        obtain ⟨n,hn,e⟩:=aLO ht hx
        subst e
        exact ⟨n,List.mem_filter.2 ⟨hn,by simp [hy]⟩,hx⟩)]
    rfl
end Go.Ev
