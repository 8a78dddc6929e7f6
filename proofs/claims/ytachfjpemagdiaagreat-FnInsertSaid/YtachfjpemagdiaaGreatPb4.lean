/- Parts QM, QN, QO, QP, QR, QT, QU, PG1, VA, PS1, PS2, PS3, PT1, P22b, PT2, VB, VC, PT3, VD. -/
import Derived.Test.YtachfjpemagdiaaGreatPb3
import Derived.Test.YtachfjpemagdiaaGreatPa1
import Derived.Test.YtachfjpemagdiaaGreatLd
import Derived.Test.YtachfjpemagdiaaGreatPb1
import Derived.Test.YtachfjpemagdiaaGreatPb2
set_option linter.all false
/- A node of a tree: the program computes what is computed over the rational numbers. -/
namespace Go.Ev
set_option linter.all false
theorem Front.restLk {D X:Nat} {V:List Int} {v:Int} {s:List QL} (h:Front D X V v s):∀ x ∈ xD v s,Lk D X x:=fun x hx=>(h.lk x (aB9.1 hx).1).1
theorem Front.armLen {D X:Nat} {V:List Int} {v:Int} {s:List QL} (h:Front D X V v s):(bS v s).length≤V.length - 1:=by
  have ha:=h.arms
  have n:((bS v s).map fun x=>x.a).Nodup:=by
    rw [List.Nodup,List.pairwise_map]
    exact ha.inc.imp fun {x y} hxy e=>by omega
  have:=n.length_le_of_subset (l₂:=V.erase v) (fun z hz=>by
    obtain ⟨x,hx,rfl⟩:=List.mem_map.1 hz
    exact (h.hV.mem_erase_iff).2 ⟨(h.armV x hx).2,(h.armV x hx).1⟩)
  rw [List.length_map,List.length_erase_of_mem h.hv] at this
  exact this
theorem Front.sumFits {D T X:Nat} {V:List Int} {v:Int} {s:List QL} (h:Front D X V v s) (r:Room D T V.length) (hT:0 < T) {q:Q} (hq:Dv T q) (h0:0≤q) (hq2:q≤((10 ^ 8:Nat):Q)) :
    dA ((q - sm enQ s)+(bP (kA v s) [] 0).2):=by
  obtain ⟨g1,g2,g3,g4,g5⟩:=h.nextIn r
  obtain ⟨n1,n2⟩:=h.next rfl
  have ha:=h.arms
  obtain ⟨a1,a2⟩:=ha.nN
  have hDN:D*nm D (sm wt (bS v s))≤D*(72*D):=Nat.mul_le_mul_left _ a2
  have hD':0 < D*nm D (sm wt (bS v s)):=Nat.mul_pos h.hD a1
  have hw:=h.hw
  have hX:=h.hX
  have hD:=h.hD
  have es:=aAp enQ v (fun l=>aNj v l) s
  have ew:=aAp wt v (fun l=>aDM v l) s
  have wr:=nR h.restLk
  have wa:=nR h.armLk
  have en1:sm enQ (kA v s)=sm enQ (xD v s)+sm enQ (sK (sm wt (bS v s)) (bS v s)):=zA _ _ _
  have mk:∀ z ∈ sK (sm wt (bS v s)) (bS v s),Lk (D*nm D (sm wt (bS v s))) (2*X) z:=fun z hz=>(ha.each hz).2.2.1
  have wm:=ha.mesh_le
  obtain ⟨b1,b2⟩:=uP h.armLk (by omega) ha.hw
  obtain ⟨b3,b4⟩:=uP mk (by omega) (by have:=ha.hw;grind)
  obtain ⟨b5,b6⟩:=uP (fun x hx=>(g2 x hx).1) (by omega) (by rw [g5];grind)
  have e:(q - sm enQ s)+(bP (kA v s) [] 0).2=q - sm enQ (bS v s)+sm enQ (sK (sm wt (bS v s)) (bS v s)) - sm enQ (bP (kA v s) [] 0).1:=by
    rw [g4,en1,es];grind
  have d1:Dv (D*nm D (sm wt (bS v s))*pn D (bS v s)) (sm enQ (bS v s)):=by
    refine yA (aFj h.hD fun x hx=>(h.armLk x hx).sc) ?_
    rw [Nat.mul_right_comm]
    exact Nat.dvd_mul_right _ _
  have d2:Dv (D*nm D (sm wt (bS v s))*pn D (bS v s)) (sm enQ (sK (sm wt (bS v s)) (bS v s))):=aIE fun z hz=>(ha.each hz).2.2.2.1
  have d3:Dv (D*nm D (sm wt (bS v s))*pn (D*nm D (sm wt (bS v s))) (bP (kA v s) [] 0).1) (sm enQ (bP (kA v s) [] 0).1):=aFj hD' fun x hx=>(g2 x hx).1.sc
  have d1':=vH (pn (D*nm D (sm wt (bS v s))) (bP (kA v s) [] 0).1) d1
  have d2':=vH (pn (D*nm D (sm wt (bS v s))) (bP (kA v s) [] 0).1) d2
  have d3':=vH (pn D (bS v s)) d3
  rw [Nat.mul_right_comm] at d3'
  have up:∀ {U:Nat} {p:Q},Dv U p→Dv (T*U) p:=fun hp=>by rw [Nat.mul_comm];exact vH T hp
  have d:=aAc (pY (aAc (vH (D*nm D (sm wt (bS v s))*pn D (bS v s)*pn (D*nm D (sm wt (bS v s))) (bP (kA v s) [] 0).1) hq) (up d1')) (up d2')) (up d3')
  rw [e]
  have p1:pn D (bS v s)≤(72*D) ^ (V.length - 1):=Nat.le_trans (aFX (W:=72) h.hD (fun x hx=>(h.armLk x hx).sc) (fun x hx=>ha.le hx)) (Nat.pow_le_pow_right (by omega) h.armLen)
  have p2:pn (D*nm D (sm wt (bS v s))) (bP (kA v s) [] 0).1≤(72*(D*(72*D))) ^ tri (V.length - 1):=by
    have l1:=aDG (h.hV.erase v) g3 (fun x hx=>(g2 x hx).2)
    rw [List.length_erase_of_mem h.hv] at l1
    have l2:=aCC (K:=V.length - 1) (by have:=r.k6;omega)
    have l3:=aFX (W:=72) hD' (fun x hx=>(g2 x hx).1.sc) (fun x hx=>by
      have:=vV (fun y hy=>(g2 y hy).1) hx
      show x.w≤72;grind)
    exact Nat.le_trans l3 (Nat.le_trans (Nat.pow_le_pow_right (by omega) (by omega)) (Nat.pow_le_pow_left (Nat.mul_le_mul_left _ hDN) _))
  have q1:0 < pn D (bS v s):=aCJ h.hD fun x hx=>(h.armLk x hx).sc
  have q2:0 < pn (D*nm D (sm wt (bS v s))) (bP (kA v s) [] 0).1:=aCJ hD' fun x hx=>(g2 x hx).1.sc
  have c4:((4*10 ^ 8:Nat):Q)=4*((10 ^ 8:Nat):Q):=_root_.Rat.natCast_mul 4 (10 ^ 8)
  have c5:=aBM (10 ^ 8)
  refine aG4 (B:=4*10 ^ 8) (Nat.mul_pos hT (Nat.mul_pos (Nat.mul_pos hD' q1) q2)) d ?_ ?_ (by omega) (Nat.lt_of_le_of_lt (Nat.mul_le_mul_left _ (Nat.mul_le_mul_left T (Nat.mul_le_mul (Nat.mul_le_mul hDN p1) p2))) r.c3)
  · rw [c4];grind
  · rw [c4];grind
theorem aN2 {order:List Int} {v:Int} {own:List QL} {b:List NQ} {T X:Nat} {V:List Int} (h:Inc (aCt v b) T X V v (own++rI v b)) :
    lL order v (own.map QL.toL) (b.map NQ.toN)=some (aBu order v own b).toN∧dA (aBu order v own b).enQ∧0 < (aBu order v own b).den∧(aBu order v own b).den≤aCt v b*(72*aCt v b) ∧
    (∀ x ∈ (aBu order v own b).msgs,Lk (aBu order v own b).den (2*X) x∧inV (V.erase v) x)∧(aBu order v own b).msgs.Pairwise dE∧sm wt (aBu order v own b).msgs≤sm wt (own++rI v b):=by
  obtain ⟨j1,j2,j3,j4⟩:=h.join
  obtain ⟨g1,g2,g3,g4,g5⟩:=j2.nextIn h.room
  obtain ⟨n1,n2⟩:=j2.next rfl
  have ha:=j2.arms
  obtain ⟨a1,a2⟩:=ha.nN
  obtain ⟨e1,f1,f2⟩:=aOb h.fo j1
  have e2:=aOc f1 ha
  obtain ⟨e3,f3,f4⟩:=aOb (fun x hx=>⟨(n1 x hx).2.2.2.1,(n1 x hx).2.2.2.2⟩) g1
  obtain ⟨s1,s2⟩:=uP (fun x hx=>(h.lk x hx).1) (by have:=h.hX;omega) h.hw
  have f5:=j2.sumFits h.room h.hT (aIE fun x hx=>(h.lk x hx).2.2) s1 s2
  rw [← j3] at f5
  refine ⟨?_,f5,Nat.mul_pos h.hD a1,Nat.mul_le_mul_left _ a2,g2,g3,?_⟩
  · unfold lL
    rw [aNE,← List.map_append,e1]
    simp only [Option.bind_some]
    unfold aAw
    rw [e2]
    simp only [Option.bind_some]
    rw [aLq,← List.map_append]
    have e4:xD v (bP (own++rI v b) [] 0).1++sK (sm wt (bS v (bP (own++rI v b) [] 0).1)) (bS v (bP (own++rI v b) [] 0).1)=kA v (bP (own++rI v b) [] 0).1:=rfl
    rw [e4,e3]
    simp only [Option.map_some,Option.bind_some]
    rw [aHh f2 f4 f5,if_pos (uY f5),aPq]
    rfl
  · show sm wt (bP (kA v (bP (own++rI v b) [] 0).1) [] 0).1≤_
    rw [g5,← j4]
    exact n2
end Go.Ev
/- First in an order; products; room by numbers. -/
namespace Go.Ev
set_option linter.all false
theorem aAO {o s:List Int} (h1:∀ u ∈ o,1≤u):(aQ o s=0∧∀ u ∈ o,u ∉ s)∨∃ p v r,o=p++v::r∧aQ o s=v∧v ∈ s∧∀ u ∈ p,u ∉ s:=by
  unfold aQ
  cases h:o.find? (fun u=>decide (u ∈ s)) with
  | none =>
    refine .inl ⟨rfl,fun u hu hs=>?_⟩
    have:=List.find?_eq_none.1 h u hu
    simp [hs] at this
  | some v =>
    obtain ⟨hv,p,r,e,hp⟩:=List.find?_eq_some_iff_append.1 h
    exact .inr ⟨p,v,r,e,rfl,of_decide_eq_true hv,fun u hu hs=>by have:=hp u hu;simp [hs] at this⟩
theorem aBe {p r s:List Int} (h:∀ u ∈ p,u ∉ s):aQ (p++r) s=aQ r s:=by
  unfold aQ
  rw [List.find?_append]
  have:p.find? (fun u=>decide (u ∈ s))=none:=List.find?_eq_none.2 fun u hu=>by simp [h u hu]
  rw [this];rfl
theorem aIh {v:Int} {r s:List Int} (h:v ∈ s):aQ (v::r) s=v:=by
  unfold aQ
  rw [List.find?_cons]
  simp [h]
theorem wM {p r s:List Int} {v:Int} (hn:(p++v::r).Nodup) (h1:∀ u ∈ p++v::r,1≤u):aQ (p++v::r) s=v↔v ∈ s∧∀ u ∈ p,u ∉ s:=by
  constructor
  · intro h
    rcases aAO (s:=s) h1 with ⟨h2,h3⟩ | ⟨p',v',r',e,h2,h3,h4⟩
    · have:=h1 v (by simp);omega
    · rw [h] at h2
      subst h2
      have hp:p=p':=by
        have n2:=hn
        rw [e] at n2
        have a1:=List.nodup_append.1 hn
        have a2:=List.nodup_append.1 n2
        have b1:v ∉ p:=fun hv=>a1.2.2 v hv v (by simp) rfl
        have b2:v ∉ p':=fun hv=>a2.2.2 v hv v (by simp) rfl
        have c1:(p++v::r).takeWhile (fun u=>decide (u≠v))=p:=by
          rw [List.takeWhile_append_of_pos (fun u hu=>by have:u≠v:=fun e=>b1 (e ▸ hu);simpa using this)]
          simp
        have c2:(p'++v::r').takeWhile (fun u=>decide (u≠v))=p':=by
          rw [List.takeWhile_append_of_pos (fun u hu=>by have:u≠v:=fun e=>b2 (e ▸ hu);simpa using this)]
          simp
        rw [← c1,e,c2]
      subst hp
      exact ⟨h3,h4⟩
  · rintro ⟨h2,h3⟩
    rw [aBe h3,aIh h2]
theorem aIg {p r s:List Int} (h1:∀ u ∈ p++r,1≤u) (h:∀ u ∈ p,u ∉ s):(aQ (p++r) s=0∧∀ u ∈ r,u ∉ s)∨(aQ (p++r) s ∈ r∧aQ (p++r) s ∈ s):=by
  rw [aBe h]
  rcases aAO (s:=s) (fun u hu=>h1 u (List.mem_append_right p hu)) with h | ⟨p',v,r',e,h2,h3,_⟩
  · exact .inl h
  · exact .inr (by rw [h2];exact ⟨by rw [e];simp,h3⟩)
theorem yH {α:Type} {f:α→Nat}:∀ {l:List α},(∀ x ∈ l,0 < f x)→0 < dU f l
  | [],_=>by simp [dU]
  | x::l,h=>Nat.mul_pos (h x (by simp)) (yH fun y hy=>h y (by simp [hy]))
theorem aCH {α:Type} {f:α→Nat}:∀ {l:List α} {x:α},x ∈ l→f x ∣ dU f l
  | y::l,x,h=>by
    rw [dU]
    rcases List.mem_cons.1 h with rfl | h
    · exact Nat.dvd_mul_right _ _
    · exact Nat.dvd_trans (aCH h) (Nat.dvd_mul_left _ _)
theorem aFW {α:Type} (f:α→Nat):∀ a b:List α,dU f (a++b)=dU f a*dU f b
  | [],b=>by simp [dU]
  | x::a,b=>by rw [List.cons_append,dU,dU,aFW f a b,Nat.mul_assoc]
theorem aHF {α:Type} {f g:α→Nat}:∀ {l:List α},(∀ x ∈ l,f x≤g x)→dU f l≤dU g l
  | [],_=>Nat.le_refl _
  | x::l,h=>Nat.mul_le_mul (h x (by simp)) (aHF fun y hy=>h y (by simp [hy]))
theorem aFV {α:Type} (f:α→Nat) (k:Nat):∀ l:List α,dU (fun x=>f x ^ k) l=dU f l ^ k
  | []=>by simp [dU]
  | x::l=>by rw [dU,dU,aFV f k l,Nat.mul_pow]
theorem aEl {α:Type} (f:α→Nat):∀ l:List α,l≠[]→72*dU f l≤dU (fun x=>72*f x) l
  | [x],_=>by simp [dU]
  | x::y::l,_=>by
    have:=aEl f (y::l) (by simp)
    rw [dU,dU,← Nat.mul_assoc]
    refine Nat.mul_le_mul_left _ (Nat.le_trans ?_ this)
    exact Nat.le_mul_of_pos_left _ (by omega)
theorem aC6 {α:Type} (f:α→Nat) (p:α→Bool):∀ l:List α,dU f l=dU f (l.filter p)*dU f (l.filter fun x=>!p x)
  | []=>rfl
  | x::l=>by
    rw [List.filter_cons,List.filter_cons,dU,aC6 f p l]
    cases p x
    · simp only [Bool.false_eq_true,if_false,Bool.not_false,if_true,dU]
      rw [Nat.mul_left_comm]
    · simp only [if_true,Bool.not_true,Bool.false_eq_true,if_false,dU,Nat.mul_assoc]
def ex (k:Nat):Nat:=72 ^ 2 ^ k
theorem aK9:∀ a b:Nat,a≤b→b≤6→tri a≤tri b:=by
  have:∀ b,b≤6→∀ a,a≤b→tri a≤tri b:=by decide
  exact fun a b h g=>this b g a h
theorem aM0 {D T K k:Nat} (hD:0 < D) (hk:K+k≤6) (hK:2≤K) (h1:72*D≤ex k) (h2:T≤ex k ^ (tri K+1)):Room D T K:=by
  have hF:0 < ex k:=by unfold ex;exact Nat.pow_pos (by omega)
  have hk4:k≤4:=by omega
  have k6:K≤6:=by omega
  have d0:D≤ex k:=by omega
  have m1:72*(D*(72*D))≤ex k*ex k:=by rw [← Nat.mul_assoc];exact Nat.mul_le_mul h1 h1
  have m2:D*(72*D)≤ex k*ex k:=Nat.mul_le_mul d0 h1
  have e1:T*(D*(72*D) ^ tri K)≤ex k ^ (tri K+1)*(ex k*ex k ^ tri K):=Nat.mul_le_mul h2 (Nat.mul_le_mul d0 (Nat.pow_le_pow_left h1 _))
  have e2:(D*(72*D))*(72*D) ^ tri K*((D*(72*D))*(72*(D*(72*D))) ^ tri (K - 1))≤(ex k*ex k)*ex k ^ tri K*((ex k*ex k)*(ex k*ex k) ^ tri (K - 1)) :=
    Nat.mul_le_mul (Nat.mul_le_mul m2 (Nat.pow_le_pow_left h1 _)) (Nat.mul_le_mul m2 (Nat.pow_le_pow_left m1 _))
  have e3:T*((D*(72*D))*(72*D) ^ (K - 1)*(72*(D*(72*D))) ^ tri (K - 1))≤ex k ^ (tri K+1)*((ex k*ex k)*ex k ^ (K - 1)*(ex k*ex k) ^ tri (K - 1)) :=
    Nat.mul_le_mul h2 (Nat.mul_le_mul (Nat.mul_le_mul m2 (Nat.pow_le_pow_left h1 _)) (Nat.pow_le_pow_left m1 _))
  have num:∀ k,k≤4→∀ K,K≤6 - k→2≤K→ex k≤PP∧10 ^ 8*(ex k ^ (tri K+1)*(ex k*ex k ^ tri K)) < 10 ^ 216∧(K≤2∨(ex k*ex k≤PP∧10 ^ 8*((ex k*ex k)*ex k ^ tri K*((ex k*ex k)*(ex k*ex k) ^ tri (K - 1))) < 10 ^ 216))∧4*10 ^ 8*(ex k ^ (tri K+1)*((ex k*ex k)*ex k ^ (K - 1)*(ex k*ex k) ^ tri (K - 1))) < 10 ^ 216:=by
    unfold ex PP;decide
  obtain ⟨n1,n2,n3,n4⟩:=num k hk4 K (by omega) hK
  rw [← aMQ] at n2 n3 n4
  refine ⟨k6,Nat.le_trans h1 n1,Nat.lt_of_le_of_lt (Nat.mul_le_mul_left _ e1) n2,?_,Nat.lt_of_le_of_lt (Nat.mul_le_mul_left _ e3) n4⟩
  rcases n3 with n3 | ⟨n3,n5⟩
  · exact .inl n3
  · exact .inr ⟨Nat.le_trans m1 n3,Nat.lt_of_le_of_lt (Nat.mul_le_mul_left _ e2) n5⟩
end Go.Ev
/- Trees over the rational numbers: the front of the next node. -/
namespace Go.Ev
set_option linter.all false
def oK (o:List Int) (v:Int) (x:QL):Bool:=decide (aQ o [x.a,x.b]=v)
def psN (c:CQ):List Int:=c.ps.map (·.node)
structure Base (l:List QL) (o:List Int):Prop where
  nd:o.Nodup
  h1:∀ u ∈ o,1≤u∧u≤9
  len:o.length≤5
  lk:∀ x ∈ l,Lk 1 20 x∧inV (0::o) x∧Dv 1 (enQ x)
  hw:sm wt l≤72
def wI (rem:List Int) (c:NQ):Bool:=decide (c.up ∈ rem)
def kid (v:Int) (c:NQ):Bool:=decide (c.up=v)
def ex' (k:Nat):Nat:=if k=0 then 1 else ex k
theorem aMh (k:Nat):ex' k≤ex k:=by
  unfold ex'
  split
  · exact Nat.pow_pos (by omega)
  · exact Nat.le_refl _
def aK0 (l:List QL) (o rem:List Int) (b:List NQ) (u w:Int):Prop :=
  (∃ x ∈ l,aQ o [x.a,x.b] ∈ rem∧((x.a=u∧x.b=w)∨(x.a=w∧x.b=u)))∨∃ c ∈ b,c.up ∈ rem∧u ∈ psN c.cond∧w ∈ psN c.cond
def rH (b:List NQ):List QL:=b.flatMap (·.msgs)
structure TInv (l:List QL) (o pre rem:List Int) (b:List NQ):Prop where
  split:o=pre++rem
  len:b.length=pre.length
  den:∀ c ∈ b,c.up ∈ rem→0 < c.den
  msg:∀ c ∈ b,c.up ∈ rem→(∀ x ∈ c.msgs,Lk c.den (20*2 ^ b.length) x)∧c.msgs.Pairwise dE
  ps:∀ c ∈ b,c.up ∈ rem→(∀ u ∈ psN c.cond,u ∈ 0::rem)∧c.up=aQ o (psN c.cond)∧(∀ x ∈ c.msgs,x.a ∈ psN c.cond∧x.b ∈ psN c.cond∧x.a < x.b)∧∀ u ∈ psN c.cond,∀ w ∈ psN c.cond,u < w→∃ x ∈ c.msgs,x.a=u∧x.b=w
  prod:dU (fun c:NQ=>72*c.den) (b.filter (wI rem))≤ex' b.length
  wtt:sm wt (rH (b.filter (wI rem)))+sm wt (l.filter fun x=>decide (aQ o [x.a,x.b] ∈ rem))≤72
  cut:∀ S:Int→Prop,(∃ u ∈ rem,S u)→¬S 0→∃ u w,S u∧¬S w∧aK0 l o rem b u w
theorem aGd {pre rem s:List Int} (hn:(pre++rem).Nodup) (h1:∀ u ∈ pre++rem,1≤u) (h:aQ (pre++rem) s ∈ rem):∀ u ∈ pre,u ∉ s:=by
  obtain ⟨r1,r2,e⟩:=List.append_of_mem h
  have e2:pre++rem=(pre++r1)++aQ (pre++rem) s::r2:=(congrArg (pre++·) e).trans (List.append_assoc pre r1 _).symm
  generalize hw:aQ (pre++rem) s=w at e e2
  rw [e2] at hw hn h1
  have:=(wM hn h1).1 hw
  exact fun u hu=>this.2 u (List.mem_append_left _ hu)
theorem aD2 (f:QL→Q) (p:QL→Bool):∀ l:List QL,sm f l=sm f (l.filter p)+sm f (l.filter fun x=>!p x)
  | []=>by simp only [List.filter_nil,sm];grind
  | x::l=>by
    have ih:=aD2 f p l
    rw [List.filter_cons,List.filter_cons,sm]
    cases p x
    · simp only [Bool.false_eq_true,if_false,Bool.not_false,if_true,sm];grind
    · simp only [if_true,Bool.not_true,Bool.false_eq_true,if_false,sm];grind
theorem aEy (f:QL→Q) (p:NQ→Bool):∀ b:List NQ,sm f (rH b)=sm f (rH (b.filter p))+sm f (rH (b.filter fun x=>!p x))
  | []=>by simp only [rH,List.filter_nil,List.flatMap_nil,sm];grind
  | x::b=>by
    have ih:=aEy f p b
    unfold rH at ih ⊢
    rw [List.filter_cons,List.filter_cons,List.flatMap_cons,zA,ih]
    cases p x
    · simp only [Bool.false_eq_true,if_false,Bool.not_false,if_true,List.flatMap_cons,zA];grind
    · simp only [if_true,Bool.not_true,Bool.false_eq_true,if_false,List.flatMap_cons,zA];grind
theorem aH0 {v:Int} {r:List Int} (b:List NQ):(b.filter (wI (v::r))).filter (kid v)=b.filter (kid v):=by
  rw [List.filter_filter]
  refine List.filter_congr fun c _=>?_
  unfold wI kid
  by_cases e:c.up=v <;> simp [e]
theorem aF7 {v:Int} {r:List Int} (hv:v ∉ r) (b:List NQ):(b.filter (wI (v::r))).filter (fun c=>!kid v c)=b.filter (wI r):=by
  rw [List.filter_filter]
  refine List.filter_congr fun c _=>?_
  unfold wI kid
  by_cases e:c.up=v
  · simp [e,hv]
  · simp [e]
theorem aKs {v:Int} {r o:List Int} (hv:v ∉ r) (l:List QL):sm wt (l.filter fun x=>decide (aQ o [x.a,x.b] ∈ v::r))=sm wt (l.filter (oK o v))+sm wt (l.filter fun x=>decide (aQ o [x.a,x.b] ∈ r)):=by
  rw [aD2 wt (oK o v),List.filter_filter,List.filter_filter]
  congr 2
  · refine List.filter_congr fun x _=>?_
    unfold oK
    by_cases e:aQ o [x.a,x.b]=v <;> simp [e]
  · refine List.filter_congr fun x _=>?_
    unfold oK
    by_cases e:aQ o [x.a,x.b]=v
    · simp [e,hv]
    · simp [e]
end Go.Ev
/- Trees over the rational numbers: what comes into the next front. -/
namespace Go.Ev
set_option linter.all false
theorem aB7 {pre r:List Int} {v:Int} (hn:(pre++v::r).Nodup) (h1:∀ u ∈ pre++v::r,1≤u) {x:QL}:oK (pre++v::r) v x=true↔(x.a=v∨x.b=v)∧x.a ∉ pre∧x.b ∉ pre:=by
  unfold oK
  rw [decide_eq_true_eq,wM hn h1]
  simp only [List.mem_cons,List.not_mem_nil,or_false]
  constructor
  · rintro ⟨h2,h3⟩
    exact ⟨by rcases h2 with h | h <;> simp [h],fun h=>h3 _ h (.inl rfl),fun h=>h3 _ h (.inr rfl)⟩
  · rintro ⟨h2,h3,h4⟩
    refine ⟨by rcases h2 with h | h <;> simp [h],fun u hu hh=>?_⟩
    rcases hh with rfl | rfl
    · exact h3 hu
    · exact h4 hu
theorem aOg {pre rem:List Int} {x:QL} (hv:inV (0::(pre++rem)) x) (h:∀ u ∈ pre,u ∉ [x.a,x.b]):inV (0::rem) x:=by
  obtain ⟨h1,h2,h3⟩:=hv
  have key:∀ u,u ∈ [x.a,x.b]→u ∈ 0::(pre++rem)→u ∈ 0::rem:=by
    intro u hu hm
    simp only [List.mem_cons,List.mem_append] at hm ⊢
    rcases hm with h4 | h4 | h4
    · exact .inl h4
    · exact absurd hu (h u h4)
    · exact .inr h4
  exact ⟨key _ (by simp) h1,key _ (by simp) h2,h3⟩
section
variable {l:List QL} {o pre r:List Int} {v:Int} {b:List NQ}
theorem TInv.facts (hb:Base l o) (hi:TInv l o pre (v::r) b):(pre++v::r).Nodup∧(∀ u ∈ pre++v::r,1≤u)∧v ∉ r∧1≤v∧v≤9∧r.length+1+b.length≤5∧(0::v::r).Nodup∧∀ u ∈ 0::v::r,0≤u∧u≤9:=by
  have e:=hi.split
  have n:=hb.nd
  have h1:=hb.h1
  have len:=hb.len
  rw [e] at n h1 len
  have n2:=(List.nodup_append.1 n).2.1
  have a1:=h1 v (by simp)
  have hr:∀ u ∈ v::r,1≤u∧u≤9:=fun u hu=>h1 u (List.mem_append_right _ hu)
  refine ⟨n,fun u hu=>(h1 u hu).1,(List.nodup_cons.1 n2).1,a1.1,a1.2,?_,List.nodup_cons.2 ⟨fun h=>?_,n2⟩,fun u hu=>?_⟩
  · have:=hi.len
    simp only [List.length_append,List.length_cons] at len
    omega
  · have:=hr 0 h;omega
  · rcases List.mem_cons.1 hu with rfl | hu
    · omega
    · have:=hr u hu;omega
theorem uM {x:QL}:x ∈ rI v b↔∃ c ∈ b,c.up=v∧x ∈ c.msgs:=by
  unfold rI
  rw [List.mem_flatMap]
  constructor
  · rintro ⟨c,hc,hx⟩
    rw [List.mem_filter,decide_eq_true_eq] at hc
    exact ⟨c,hc.1,hc.2,hx⟩
  · rintro ⟨c,hc,h,hx⟩
    exact ⟨c,List.mem_filter.2 ⟨hc,decide_eq_true h⟩,hx⟩
theorem TInv.kids (hi:TInv l o pre (v::r) b):dU (fun c:NQ=>72*c.den) (b.filter (kid v))*dU (fun c:NQ=>72*c.den) (b.filter fun c=>wI (v::r) c&&!kid v c)≤ex' b.length∧0 < dU (fun c:NQ=>72*c.den) (b.filter fun c=>wI (v::r) c&&!kid v c)∧0 < dU (fun c:NQ=>72*c.den) (b.filter (kid v)):=by
  have h:=hi.prod
  rw [aC6 _ (kid v),aH0,List.filter_filter] at h
  have e:(fun a=>!kid v a&&wI (v::r) a)=fun c=>wI (v::r) c&&!kid v c:=by funext c;rw [Bool.and_comm]
  rw [e] at h
  refine ⟨h,yH fun c hc=>?_,yH fun c hc=>?_⟩
  · rw [List.mem_filter,Bool.and_eq_true] at hc
    have:=hi.den c hc.1 (of_decide_eq_true hc.2.1)
    omega
  · rw [List.mem_filter] at hc
    have hu:=of_decide_eq_true hc.2
    have:=hi.den c hc.1 (by rw [hu];simp)
    omega
theorem aGr (hi:TInv l o pre (v::r) b) (hb:Base l o):sm wt (l.filter (oK o v)++rI v b)+(sm wt (rH (b.filter (wI r)))+sm wt (l.filter fun x=>decide (aQ o [x.a,x.b] ∈ r)))≤72 ∧
    (∀ c ∈ b,c.up ∈ v::r→∀ x ∈ c.msgs,x.w≤72):=by
  obtain ⟨n,h1,hv,_⟩:=hi.facts hb
  have h:=hi.wtt
  have h0:=h
  rw [aEy wt (kid v),aH0,aF7 hv,aKs hv] at h
  rw [zA]
  have e:rH (b.filter (kid v))=rI v b:=rfl
  rw [e] at h
  refine ⟨by grind,fun c hc hu x hx=>?_⟩
  have hm:x ∈ rH (b.filter (wI (v::r))):=List.mem_flatMap.2 ⟨c,List.mem_filter.2 ⟨hc,decide_eq_true hu⟩,hx⟩
  have nn:∀ y ∈ rH (b.filter (wI (v::r))),0≤wt y:=by
    intro y hy
    obtain ⟨d,hd,hy⟩:=List.mem_flatMap.1 hy
    rw [List.mem_filter] at hd
    have:=((hi.msg d hd.1 (of_decide_eq_true hd.2)).1 y hy).sc.1
    unfold wt;grind
  have h2:=aIN nn x hm
  have h3:0≤sm wt (l.filter fun x=>decide (aQ o [x.a,x.b] ∈ v::r)):=nR fun y hy=>(hb.lk y (List.mem_filter.1 hy).1).1
  have e2:wt x=x.w:=rfl
  grind
theorem aJ4 (hb:Base l o) (hi:TInv l o pre (v::r) b) {c:NQ} (hc:c ∈ b) (hu:c.up=v):0 < c.den*pn c.den c.msgs∧c.den*pn c.den c.msgs≤(72*c.den) ^ (tri (r.length+2)+1):=by
  obtain ⟨n,h1,hv,_,_,hl,nV,hV⟩:=hi.facts hb
  have hu':c.up ∈ v::r:=by rw [hu];simp
  obtain ⟨m1,m2⟩:=hi.msg c hc hu'
  obtain ⟨p1,p2,p3,p4⟩:=hi.ps c hc hu'
  have hd:=hi.den c hc hu'
  have l1:=aDG nV m2 (fun x hx=>⟨p1 _ (p3 x hx).1,p1 _ (p3 x hx).2.1,(p3 x hx).2.2⟩)
  have eV:(0::v::r).length=r.length+2:=rfl
  rw [eV] at l1
  have l2:=aCC (K:=r.length+2) (by omega)
  have l3:=aFX (W:=72) hd (fun x hx=>(m1 x hx).sc) (fun x hx=>(aGr hi hb).2 c hc hu' x hx)
  refine ⟨Nat.mul_pos hd (aCJ hd fun x hx=>(m1 x hx).sc),?_⟩
  rw [Nat.pow_succ,Nat.mul_comm ((72*c.den) ^ _)]
  exact Nat.mul_le_mul (by omega) (Nat.le_trans l3 (Nat.pow_le_pow_right (by omega) (by omega)))
theorem TInv.inc (hb:Base l o) (hi:TInv l o pre (v::r) b) :
    Inc (aCt v b) (dU (fun c:NQ=>c.den*pn c.den c.msgs) (b.filter (kid v))) (20*2 ^ b.length) (0::v::r) v (l.filter (oK o v)++rI v b):=by
  obtain ⟨n,h1,hv,v1,v9,hl,nV,hV⟩:=hi.facts hb
  have kd:∀ c ∈ b.filter (kid v),c ∈ b∧c.up=v∧c.up ∈ v::r:=fun c hc=>by
    rw [List.mem_filter] at hc
    have:=of_decide_eq_true hc.2
    exact ⟨hc.1,this,by rw [this];simp⟩
  have hD:0 < aCt v b:=yH fun c hc=>hi.den c (kd c hc).1 (kd c hc).2.2
  obtain ⟨k1,k2,k3⟩:=hi.kids
  have hH:dU (fun c:NQ=>72*c.den) (b.filter (kid v))≤ex b.length:=Nat.le_trans (Nat.le_trans (Nat.le_mul_of_pos_right _ k2) k1) (aMh _)
  have ex72:72≤ex b.length:=by
    unfold ex
    have:1≤2 ^ b.length:=Nat.one_le_two_pow
    calc 72=72 ^ 1:=rfl
      _≤_:=Nat.pow_le_pow_right (by omega) this
  have hX:20*2 ^ b.length≤20*2 ^ 4:=Nat.mul_le_mul_left _ (Nat.pow_le_pow_right (by omega) (by omega))
  refine ⟨hD,yH fun c hc=>(aJ4 hb hi (kd c hc).1 (kd c hc).2.1).1,by omega,Nat.mul_pos (by omega) (Nat.pow_pos (by omega)),?_,?_,nV,hV,by simp,v1,?_,?_⟩
  · intro x hx
    rcases List.mem_append.1 hx with hx | hx
    · rw [List.mem_filter] at hx
      obtain ⟨l1,l2,l3⟩:=hb.lk x hx.1
      refine ⟨aKg l1 (Nat.one_dvd _) (by have:1≤2 ^ b.length:=Nat.one_le_two_pow;omega),?_,yA l3 (Nat.one_dvd _)⟩
      have e:=hi.split
      rw [e] at l2 hx
      obtain ⟨_,a2,a3⟩:=(aB7 n h1).1 hx.2
      refine aOg l2 fun u hu hm=>?_
      simp only [List.mem_cons,List.not_mem_nil,or_false] at hm
      rcases hm with rfl | rfl
      · exact a2 hu
      · exact a3 hu
    · obtain ⟨c,hc,hu,hx⟩:=uM.1 hx
      have hk:c ∈ b.filter (kid v):=List.mem_filter.2 ⟨hc,decide_eq_true hu⟩
      have hu':c.up ∈ v::r:=by rw [hu];simp
      have hd:=hi.den c hc hu'
      obtain ⟨m1,m2⟩:=hi.msg c hc hu'
      obtain ⟨p1,p2,p3,p4⟩:=hi.ps c hc hu'
      refine ⟨aKg (m1 x hx) (aCH (f:=fun c:NQ=>c.den) hk) (Nat.le_refl _),⟨p1 _ (p3 x hx).1,p1 _ (p3 x hx).2.1,(p3 x hx).2.2⟩,?_⟩
      exact yA (aKf hd (m1 x hx).sc) (Nat.dvd_trans (Nat.mul_dvd_mul_left _ (aGN _ x hx)) (aCH (f:=fun c:NQ=>c.den*pn c.den c.msgs) hk))
  · have:=(aGr hi hb).1
    have a1:0≤sm wt (l.filter fun x=>decide (aQ o [x.a,x.b] ∈ r)):=nR fun y hy=>(hb.lk y (List.mem_filter.1 hy).1).1
    have a2:0≤sm wt (rH (b.filter (wI r))):=by
      refine rO fun y hy=>?_
      obtain ⟨d,hd,hy⟩:=List.mem_flatMap.1 hy
      rw [List.mem_filter] at hd
      have:=((hi.msg d hd.1 (List.mem_cons_of_mem v (of_decide_eq_true hd.2))).1 y hy).sc.1
      unfold wt;grind
    grind
  · obtain ⟨u,w,s1,s2,adj⟩:=hi.cut (fun u=>u=v) ⟨v,by simp,rfl⟩ (by omega)
    subst s1
    rcases adj with ⟨x,hx,hf,hp⟩ | ⟨c,hc,hu,p1,p2⟩
    · refine ⟨x,List.mem_append_left _ (List.mem_filter.2 ⟨hx,?_⟩),by rcases hp with hp | hp <;> simp [hp]⟩
      have e:=hi.split
      rw [e] at hf ⊢
      have:=aGd n h1 hf
      refine (aB7 n h1).2 ⟨by rcases hp with hp | hp <;> simp [hp],fun h=>this _ h (by simp),fun h=>this _ h (by simp)⟩
    · obtain ⟨q1,q2,q3,q4⟩:=hi.ps c hc hu
      have e:=hi.split
      have hcu:c.up=u:=by
        rw [q2,e]
        refine (wM n h1).2 ⟨p1,fun z hz hm=>?_⟩
        have:=q1 z hm
        rcases List.mem_cons.1 this with rfl | h
        · have:=h1 0 (List.mem_append_left _ hz);omega
        · exact (List.nodup_append.1 n).2.2 z hz z h rfl
      rcases Int.lt_or_gt_of_ne s2 with h | h
      · obtain ⟨x,hx,e1,e2⟩:=q4 w p2 u p1 h
        exact ⟨x,List.mem_append_right _ (uM.2 ⟨c,hc,hcu,hx⟩),.inr e2⟩
      · obtain ⟨x,hx,e1,e2⟩:=q4 u p1 w p2 h
        exact ⟨x,List.mem_append_right _ (uM.2 ⟨c,hc,hcu,hx⟩),.inl e1⟩
  · have eV:(0::v::r).length=r.length+2:=rfl
    rw [eV]
    refine aM0 (k:=b.length) hD (by omega) (by omega) ?_ ?_
    · by_cases c:b.filter (kid v)=[]
      · have:aCt v b=1:=by
          have e:aCt v b=dU (fun c:NQ=>c.den) (b.filter (kid v)):=rfl
          rw [e,c];rfl
        rw [this];omega
      · exact Nat.le_trans (aEl _ _ c) hH
    · refine Nat.le_trans (aHF (g:=fun c:NQ=>(72*c.den) ^ (tri (r.length+2)+1)) fun c hc=>(aJ4 hb hi (kd c hc).1 (kd c hc).2.1).2) ?_
      rw [aFV]
      exact Nat.pow_le_pow_left hH _
end
end Go.Ev
/- Trees over the rational numbers: the invariant goes on. -/
namespace Go.Ev
set_option linter.all false
theorem aEk (v:Int) (a:List QL):psN (wO v a)=a.map fun x=>x.a:=by
  unfold psN wO
  simp only [List.map_map]
  rfl
section
variable {l:List QL} {o pre r:List Int} {v:Int} {b:List NQ}
def nxt (l:List QL) (o:List Int) (v:Int) (b:List NQ):NQ:=aBu o v (l.filter (oK o v)) b
theorem aI1 {u:Int}:u ∈ psN (nxt l o v b).cond↔∃ y ∈ (bP (l.filter (oK o v)++rI v b) [] 0).1,(y.a=v∨y.b=v)∧u=(aBT v y).a:=by
  have e:psN (nxt l o v b).cond=(bS v (bP (l.filter (oK o v)++rI v b) [] 0).1).map fun x=>x.a:=aEk v _
  rw [e,List.mem_map]
  constructor
  · rintro ⟨x,hx,rfl⟩
    obtain ⟨y,hy,ht,rfl⟩:=yK.1 hx
    exact ⟨y,hy,ht,rfl⟩
  · rintro ⟨y,hy,ht,rfl⟩
    exact ⟨_,yK.2 ⟨y,hy,ht,rfl⟩,rfl⟩
theorem aBL {z:QL} (hz:z ∈ l.filter (oK o v)++rI v b) (h:z.a < z.b) {u:Int} (hu:(z.a=v∧z.b=u)∨(z.a=u∧z.b=v)):u ∈ psN (nxt l o v b).cond:=by
  obtain ⟨y,hy,e1,e2⟩:=tK _ [] 0 z (.inr hz)
  rw [aI1]
  have ht:y.a=v∨y.b=v:=by rw [← e1,← e2];rcases hu with hu | hu <;> simp [hu]
  refine ⟨y,hy,ht,?_⟩
  have:=aAU ht (by omega)
  omega
theorem TInv.kid_ps (hb:Base l o) (hi:TInv l o pre (v::r) b) {c:NQ} (hc:c ∈ b) (hu:c.up=v):v ∈ psN c.cond∧∀ u ∈ psN c.cond,u≠v→u ∈ psN (nxt l o v b).cond:=by
  have hu':c.up ∈ v::r:=by rw [hu];simp
  obtain ⟨p1,p2,p3,p4⟩:=hi.ps c hc hu'
  obtain ⟨n,h1,hv,v1,v9,hl,nV,hV⟩:=hi.facts hb
  have vm:v ∈ psN c.cond:=by
    have e:=hi.split
    rw [hu,e] at p2
    exact ((wM n h1).1 p2.symm).1
  refine ⟨vm,fun u hm hne=>?_⟩
  rcases Int.lt_or_gt_of_ne hne with h | h
  · obtain ⟨x,hx,e1,e2⟩:=p4 u hm v vm h
    exact aBL (z:=x) (List.mem_append_right _ (uM.2 ⟨c,hc,hu,hx⟩)) (by omega) (.inr ⟨e1,e2⟩)
  · obtain ⟨x,hx,e1,e2⟩:=p4 v vm u hm h
    exact aBL (z:=x) (List.mem_append_right _ (uM.2 ⟨c,hc,hu,hx⟩)) (by omega) (.inl ⟨e1,e2⟩)
theorem TInv.nxt_rem (hb:Base l o) (hi:TInv l o pre (v::r) b):∀ u ∈ psN (nxt l o v b).cond,u ∈ 0::r∧u≠v:=by
  intro u hu
  have hj:=((hi.inc hb).join).2.1
  obtain ⟨y,hy,ht,rfl⟩:=aI1.1 hu
  have:=hj.armV _ (yK.2 ⟨y,hy,ht,rfl⟩)
  refine ⟨?_,this.2⟩
  have h1:=this.1
  simp only [List.mem_cons] at h1 ⊢
  rcases h1 with h | h | h
  · exact .inl h
  · exact absurd h this.2
  · exact .inr h
theorem TInv.adj (hb:Base l o) (hi:TInv l o pre (v::r) b) {u w:Int} (h:aK0 l o (v::r) b u w) (hne:u≠w) :
    (u=v→w ∈ psN (nxt l o v b).cond)∧(w=v→u ∈ psN (nxt l o v b).cond)∧(u≠v→w≠v→(u ∈ psN (nxt l o v b).cond∧w ∈ psN (nxt l o v b).cond)∨aK0 l o r b u w):=by
  obtain ⟨n,h1,hv,v1,v9,hl,nV,hV⟩:=hi.facts hb
  have e:=hi.split
  rcases h with ⟨x,hx,hf,hp⟩ | ⟨c,hc,hu,p1,p2⟩
  · have own:x.a=v∨x.b=v→x ∈ l.filter (oK o v):=fun ht=>by
      rw [e] at hf ⊢
      have:=aGd n h1 hf
      exact List.mem_filter.2 ⟨hx,(aB7 n h1).2 ⟨ht,fun h=>this _ h (by simp),fun h=>this _ h (by simp)⟩⟩
    have hlt:=(hb.lk x hx).2.1.2.2
    refine ⟨fun h2=>?_,fun h2=>?_,fun h2 h3=>.inr (.inl ⟨x,hx,?_,hp⟩)⟩
    · subst h2
      rcases hp with ⟨g1,g2⟩ | ⟨g1,g2⟩
      · exact aBL (List.mem_append_left _ (own (.inl g1))) hlt (.inl ⟨g1,g2⟩)
      · exact aBL (List.mem_append_left _ (own (.inr g2))) hlt (.inr ⟨g1,g2⟩)
    · subst h2
      rcases hp with ⟨g1,g2⟩ | ⟨g1,g2⟩
      · exact aBL (List.mem_append_left _ (own (.inr g2))) hlt (.inr ⟨g1,g2⟩)
      · exact aBL (List.mem_append_left _ (own (.inl g1))) hlt (.inl ⟨g1,g2⟩)
    · rcases List.mem_cons.1 hf with h4 | h4
      · exfalso
        have h5:=h4
        rw [e] at h5
        have:=((wM n h1).1 h5).1
        simp only [List.mem_cons,List.not_mem_nil,or_false] at this
        omega
      · exact h4
  · by_cases k:c.up=v
    · obtain ⟨vm,hk⟩:=hi.kid_ps hb hc k
      exact ⟨fun h2=>hk w p2 (by omega),fun h2=>hk u p1 (by omega),fun h2 h3=>.inl ⟨hk u p1 h2,hk w p2 h3⟩⟩
    · have hr:c.up ∈ r:=(List.mem_cons.1 hu).resolve_left k
      obtain ⟨q1,q2,q3,q4⟩:=hi.ps c hc hu
      have nv:v ∉ psN c.cond:=fun hm=>by
        rw [e] at q2
        refine k (q2.trans ((wM n h1).2 ⟨hm,fun z hz hm=>?_⟩))
        rcases List.mem_cons.1 (q1 z hm) with rfl | h
        · have:=h1 0 (List.mem_append_left _ hz);omega
        · exact (List.nodup_append.1 n).2.2 z hz z h rfl
      exact ⟨fun h2=>absurd (h2 ▸ p1) nv,fun h2=>absurd (h2 ▸ p2) nv,fun _ _=>.inr (.inr ⟨c,hc,hr,p1,p2⟩)⟩
theorem TInv.nxt_up (hb:Base l o) (hi:TInv l o pre (v::r) b) {u:Int} (hu:u ∈ psN (nxt l o v b).cond) (h0:u≠0):(nxt l o v b).up ∈ r:=by
  obtain ⟨n,h1,hv,v1,v9,hl,nV,hV⟩:=hi.facts hb
  have e:=hi.split
  have hr:=hi.nxt_rem hb
  have er:(nxt l o v b).up=aQ o (psN (nxt l o v b).cond):=rfl
  have e2:pre++v::r=(pre++[v])++r:=by simp
  have e3:aQ o (psN (nxt l o v b).cond)=aQ ((pre++[v])++r) (psN (nxt l o v b).cond):=congrArg (fun o'=>aQ o' (psN (nxt l o v b).cond)) (e.trans e2)
  rw [er,e3]
  have h1':∀ u ∈ (pre++[v])++r,1≤u:=by rw [← e2];exact h1
  rcases aIg (p:=pre++[v]) (r:=r) (s:=psN (nxt l o v b).cond) h1' (fun z hz hm=>by
    obtain ⟨g1,g2⟩:=hr z hm
    have zr:z ∈ r:=by
      rcases List.mem_cons.1 g1 with h | h
      · have:=h1' z (List.mem_append_left _ hz);omega
      · exact h
    rcases List.mem_append.1 hz with hz | hz
    · exact (List.nodup_append.1 n).2.2 z hz z (by simp [zr]) rfl
    · simp at hz;exact g2 hz) with ⟨_,h⟩ | h
  · exact absurd hu (h u ((List.mem_cons.1 (hr u hu).1).resolve_left h0))
  · exact h.1
theorem aKn {P H:Nat} {D d k:Nat} (hH:0 < H) (hP:0 < P) (h:H*P≤ex' k) (hd:d≤D*(72*D)) (hD:(D=1∧H=1)∨72*D≤H):P*(72*d)≤ex (k+1):=by
  have e:ex (k+1)=ex k*ex k:=by unfold ex;rw [Nat.pow_succ,Nat.pow_mul,Nat.pow_two]
  have h2:=aMh k
  rcases hD with ⟨rfl,rfl⟩ | hD
  · have hd2:72*d≤72*72:=by omega
    by_cases c:k=0
    · subst c
      have:ex' 0=1:=rfl
      rw [this] at h
      have hp1:P=1:=by omega
      rw [hp1,e]
      have:ex 0=72:=rfl
      rw [this];omega
    · have ek:72*72≤ex k:=by
        unfold ex
        have:2≤2 ^ k:=by
          calc 2=2 ^ 1:=rfl
            _≤_:=Nat.pow_le_pow_right (by omega) (by omega)
        calc 72*72=72 ^ 2:=rfl
          _≤_:=Nat.pow_le_pow_right (by omega) this
      rw [e]
      exact Nat.mul_le_mul (by omega) (by omega)
  · have a1:72*d≤H*H:=by
      calc 72*d≤72*(D*(72*D)):=Nat.mul_le_mul_left _ hd
        _=(72*D)*(72*D):=by rw [Nat.mul_assoc]
        _≤H*H:=Nat.mul_le_mul hD hD
    rw [e]
    calc P*(72*d)≤P*(H*H):=Nat.mul_le_mul_left _ a1
      _=(H*P)*H:=by rw [← Nat.mul_assoc,Nat.mul_comm P H]
      _≤ex k*ex k:=Nat.mul_le_mul (by omega) (Nat.le_trans (Nat.le_mul_of_pos_right H hP) (by omega))
end
end Go.Ev
/- Trees over the rational numbers: the whole tree. -/
namespace Go.Ev
set_option linter.all false
section
variable {l:List QL} {o pre r:List Int} {v:Int} {b:List NQ}
theorem TInv.next (hb:Base l o) (hi:TInv l o pre (v::r) b):TInv l o (pre++[v]) r (b++[nxt l o v b])∧lL o v ((l.filter (oK o v)).map QL.toL) (b.map NQ.toN)=some (nxt l o v b).toN∧dA (nxt l o v b).enQ:=by
  obtain ⟨n,h1,hv,v1,v9,hl,nV,hV⟩:=hi.facts hb
  have hinc:=hi.inc hb
  obtain ⟨c1,c2,c3,c4,c5,c6,c7⟩:=aN2 (order:=o) hinc
  have hmem:∀ c ∈ b++[nxt l o v b],c ∈ b∨c=nxt l o v b:=fun c hc=>by simpa using hc
  have hlen:(b++[nxt l o v b]).length=b.length+1:=by simp
  have hsp:=hi.split
  refine ⟨⟨?_,?_,?_,?_,?_,?_,?_,?_⟩,c1,c2⟩
  · rw [hsp];simp
  · rw [hlen,List.length_append,hi.len];rfl
  · intro c hc hu
    rcases hmem c hc with hc | rfl
    · exact hi.den c hc (List.mem_cons_of_mem v hu)
    · exact c3
  · intro c hc hu
    rw [hlen]
    rcases hmem c hc with hc | rfl
    · obtain ⟨m1,m2⟩:=hi.msg c hc (List.mem_cons_of_mem v hu)
      exact ⟨fun x hx=>aKg (m1 x hx) (Nat.dvd_refl _) (Nat.mul_le_mul_left _ (Nat.pow_le_pow_right (by omega) (by omega))),m2⟩
    · refine ⟨fun x hx=>?_,c6⟩
      have:=(c5 x hx).1
      have e:2*(20*2 ^ b.length)=20*2 ^ (b.length+1):=by rw [Nat.pow_succ];omega
      rw [← e];exact this
  · intro c hc hu
    rcases hmem c hc with hc | rfl
    · obtain ⟨p1,p2,p3,p4⟩:=hi.ps c hc (List.mem_cons_of_mem v hu)
      refine ⟨fun u hm=>?_,p2,p3,p4⟩
      have h:=p1 u hm
      simp only [List.mem_cons] at h ⊢
      rcases h with h | h | h
      · exact .inl h
      · exfalso
        subst h
        rw [hsp] at p2
        have:c.up=u:=p2.trans ((wM n h1).2 ⟨hm,fun z hz hz2=>by
          rcases List.mem_cons.1 (p1 z hz2) with rfl | h
          · have:=h1 0 (List.mem_append_left _ hz);omega
          · exact (List.nodup_append.1 n).2.2 z hz z h rfl⟩)
        rw [this] at hu;exact hv hu
      · exact .inr h
    · refine ⟨fun u hm=>(hi.nxt_rem hb u hm).1,rfl,fun x hx=>?_,fun u hu' w hw' huw=>?_⟩
      · have hj:=(hinc.join).2.1
        refine ⟨?_,?_,(c5 x hx).2.2.2⟩
        all_goals
          obtain ⟨y,hy,e1,e2⟩:=wK _ [] 0 x hx
          have hy:=hy.resolve_left (by simp)
          rcases List.mem_append.1 hy with hy | hy
          · obtain ⟨m1,m2,m3⟩:=aB9.1 hy
            obtain ⟨z,hz,f1,f2⟩:=wK _ [] 0 y m1
            have hz:=hz.resolve_left (by simp)
            rcases List.mem_append.1 hz with hz | hz
            · exfalso
              have:=(List.mem_filter.1 hz).2
              rw [hsp] at this
              have:=((aB7 n h1).1 this).1
              omega
            · obtain ⟨c,hc,hu2,hz⟩:=uM.1 hz
              obtain ⟨_,hk⟩:=hi.kid_ps hb hc hu2
              obtain ⟨_,_,p3,_⟩:=hi.ps c hc (by rw [hu2];simp)
              have g1:=(p3 z hz).1
              have g2:=(p3 z hz).2.1
              rw [f1,e1] at g1
              rw [f2,e2] at g2
              first | exact hk _ g1 (by omega) | exact hk _ g2 (by omega)
          · obtain ⟨_,_,_,_,⟨y1,hy1,q1⟩,y2,hy2,q2⟩:=hj.arms.each hy
            have e:psN (nxt l o v b).cond=(bS v (bP (l.filter (oK o v)++rI v b) [] 0).1).map fun x=>x.a:=aEk v _
            rw [e]
            first | exact List.mem_map.2 ⟨y1,hy1,q1.trans e1⟩ | exact List.mem_map.2 ⟨y2,hy2,q2.trans e2⟩
      · have hj:=(hinc.join).2.1
        have e:psN (nxt l o v b).cond=(bS v (bP (l.filter (oK o v)++rI v b) [] 0).1).map fun x=>x.a:=aEk v _
        rw [e] at hu' hw'
        obtain ⟨x,hx,rfl⟩:=List.mem_map.1 hu'
        obtain ⟨y,hy,rfl⟩:=List.mem_map.1 hw'
        have hm:=aHX (sm wt (bS v (bP (l.filter (oK o v)++rI v b) [] 0).1)) hj.arms.inc x hx y hy huw
        obtain ⟨z,hz,f1,f2⟩:=tK (kA v (bP (l.filter (oK o v)++rI v b) [] 0).1) [] 0 _ (.inr (List.mem_append_right _ hm))
        exact ⟨z,hz,f1.symm,f2.symm⟩
  · obtain ⟨k1,k2,k3⟩:=hi.kids
    rw [hlen,List.filter_append,aFW]
    have e1:b.filter (wI r)=b.filter fun c=>wI (v::r) c&&!kid v c:=by
      rw [← aF7 hv,List.filter_filter]
      refine List.filter_congr fun c _=>?_
      rw [Bool.and_comm]
    rw [e1]
    have ekk:ex' (b.length+1)=ex (b.length+1):=by unfold ex';rw [if_neg (by omega)]
    rw [ekk]
    have hD:(aCt v b=1∧dU (fun c:NQ=>72*c.den) (b.filter (kid v))=1)∨72*aCt v b≤dU (fun c:NQ=>72*c.den) (b.filter (kid v)):=by
      by_cases c:b.filter (kid v)=[]
      · left
        have e:aCt v b=dU (fun c:NQ=>c.den) (b.filter (kid v)):=rfl
        rw [e,c];exact ⟨rfl,rfl⟩
      · exact .inr (aEl (fun c:NQ=>c.den) _ c)
    have hs:=aKn k3 k2 k1 c4 hD
    have le:dU (fun c:NQ=>72*c.den) ([nxt l o v b].filter (wI r))≤72*(nxt l o v b).den:=by
      have hp:0 < (nxt l o v b).den:=c3
      rw [List.filter_cons,List.filter_nil]
      split
      · simp [dU]
      · simp only [dU];omega
    exact Nat.le_trans (Nat.mul_le_mul_left _ le) hs
  · have hw:=(aGr hi hb).1
    have hn:0≤sm wt (nxt l o v b).msgs:=nR fun x hx=>(c5 x hx).1
    have e:sm wt (rH ((b++[nxt l o v b]).filter (wI r)))≤sm wt (rH (b.filter (wI r)))+sm wt (nxt l o v b).msgs:=by
      unfold rH
      rw [List.filter_append,List.flatMap_append,zA,List.filter_cons,List.filter_nil]
      split
      · rw [List.flatMap_cons,List.flatMap_nil,List.append_nil];grind
      · rw [List.flatMap_nil];simp only [sm];grind
    have c7':sm wt (nxt l o v b).msgs≤sm wt (l.filter (oK o v)++rI v b):=c7
    grind
  · intro S hS h0
    obtain ⟨u0,hu0,su0⟩:=hS
    have viaN:∀ u w,S u→¬S w→u ∈ psN (nxt l o v b).cond→w ∈ psN (nxt l o v b).cond→aK0 l o r (b++[nxt l o v b]) u w:=by
      intro u w su sw hu hw
      exact .inr ⟨nxt l o v b,by simp,hi.nxt_up hb hu (fun e=>h0 (e ▸ su)),hu,hw⟩
    have up:∀ u w,aK0 l o r b u w→aK0 l o r (b++[nxt l o v b]) u w:=by
      rintro u w (⟨x,hx,h⟩ | ⟨c,hc,h⟩)
      · exact .inl ⟨x,hx,h⟩
      · exact .inr ⟨c,by simp [hc],h⟩
    have ne0:u0≠v:=fun e=>hv (e ▸ hu0)
    obtain ⟨u,w,⟨su,uv⟩,sw,ad⟩:=hi.cut (fun u=>S u∧u≠v) ⟨u0,List.mem_cons_of_mem v hu0,su0,ne0⟩ (fun h=>h0 h.1)
    have uw:u≠w:=fun e=>sw (e ▸ ⟨su,uv⟩)
    obtain ⟨t1,t2,t3⟩:=hi.adj hb ad uw
    by_cases wv:w=v
    · have hu:=t2 wv
      obtain ⟨u',w',su',sw',ad'⟩:=hi.cut (fun u=>S u∨u=v) ⟨u0,List.mem_cons_of_mem v hu0,.inl su0⟩ (fun h=>h.elim h0 (by omega))
      have uw':u'≠w':=fun e=>sw' (e ▸ su')
      obtain ⟨t1',t2',t3'⟩:=hi.adj hb ad' uw'
      have wv':w'≠v:=fun e=>sw' (.inr e)
      have sw2:¬S w':=fun h=>sw' (.inl h)
      by_cases uv':u'=v
      · exact ⟨u,w',su,sw2,viaN u w' su sw2 hu (t1' uv')⟩
      · have su2:S u':=su'.resolve_right uv'
        rcases t3' uv' wv' with ⟨g1,g2⟩ | g
        · exact ⟨u',w',su2,sw2,viaN u' w' su2 sw2 g1 g2⟩
        · exact ⟨u',w',su2,sw2,up _ _ g⟩
    · have sw2:¬S w:=fun h=>sw ⟨h,wv⟩
      rcases t3 uv wv with ⟨g1,g2⟩ | g
      · exact ⟨u,w,su,sw2,viaN u w su sw2 g1 g2⟩
      · exact ⟨u,w,su,sw2,up _ _ g⟩
end
def eG (l:List QL) (o:List Int):List Int→List NQ→List NQ
  | [],b=>b
  | v::r,b=>eG l o r (b++[nxt l o v b])
theorem aNz (o:List Int) (v:Int):∀ l:List QL,(l.map QL.toL).filter (kY o v)=(l.filter (oK o v)).map QL.toL
  | []=>rfl
  | x::l=>by
    have e:kY o v x.toL=oK o v x:=rfl
    rw [List.map_cons,List.filter_cons,List.filter_cons,aNz o v l,e]
    split <;> rfl
theorem aLb {l:List QL} {o:List Int} (hb:Base l o):∀ (r pre:List Int) (b:List NQ),TInv l o pre r b→oD (l.map QL.toL) o r (b.map NQ.toN)=some ((eG l o r b).map NQ.toN)
  | [],_,b,_=>rfl
  | v::r,pre,b,hi=>by
    obtain ⟨h1,h2,h3⟩:=hi.next hb
    rw [oD,aNz,h2]
    have:=aLb hb r (pre++[v]) (b++[nxt l o v b]) h1
    rw [List.map_append] at this
    exact this
def Grounded (l:List QL) (o:List Int):Prop:=∀ S:Int→Prop,(∃ u ∈ o,S u)→¬S 0→∃ x ∈ l,(S x.a∧¬S x.b)∨(S x.b∧¬S x.a)
theorem TInv.start {l:List QL} {o:List Int} (hb:Base l o) (hg:Grounded l o):TInv l o [] o [] where
  split:=rfl
  len:=rfl
  den:=by simp
  msg:=by simp
  ps:=by simp
  prod:=Nat.le_refl 1
  wtt:=by
    have e:sm wt (rH (([]:List NQ).filter (wI o)))=0:=rfl
    rw [e]
    have h1:=aD2 wt (fun x=>decide (aQ o [x.a,x.b] ∈ o)) l
    have h2:0≤sm wt (l.filter fun x=>!decide (aQ o [x.a,x.b] ∈ o)):=nR fun y hy=>(hb.lk y (List.mem_filter.1 hy).1).1
    have:=hb.hw
    grind
  cut:=by
    intro S hS h0
    obtain ⟨x,hx,h⟩:=hg S hS h0
    have hf:aQ o [x.a,x.b] ∈ o:=by
      obtain ⟨i1,i2,i3⟩:=(hb.lk x hx).2.1
      have hbm:x.b ∈ o:=by
        rcases List.mem_cons.1 i2 with h | h
        · exfalso
          rcases List.mem_cons.1 i1 with h2 | h2
          · omega
          · have:=hb.h1 _ h2;omega
        · exact h
      rcases aAO (s:=[x.a,x.b]) (fun u hu=>(hb.h1 u hu).1) with ⟨_,h4⟩ | ⟨p,v,r,e,h2,h3,h4⟩
      · exact absurd (by simp) (h4 _ hbm)
      · rw [h2,e];simp
    rcases h with ⟨g1,g2⟩ | ⟨g1,g2⟩
    · exact ⟨x.a,x.b,g1,g2,.inl ⟨x,hx,hf,.inl ⟨rfl,rfl⟩⟩⟩
    · exact ⟨x.b,x.a,g1,g2,.inl ⟨x,hx,hf,.inr ⟨rfl,rfl⟩⟩⟩
theorem Base.join {l:List QL} {o:List Int} (hb:Base l o):jnP (l.map QL.toL)=some ((bP l [] 0).1.map QL.toL,ofQ (bP l [] 0).2)∧(∀ k ∈ (bP l [] 0).1,k.fit∧Lk 1 20 k∧inV (0::o) k)∧(bP l [] 0).1.Pairwise dE∧dA (bP l [] 0).2:=by
  have nV:(0::o).Nodup:=List.nodup_cons.2 ⟨fun h=>by have:=hb.h1 0 h;omega,hb.nd⟩
  have hVn:∀ u ∈ 0::o,0≤u∧u≤9:=fun u hu=>by
    rcases List.mem_cons.1 hu with rfl | hu
    · omega
    · have:=hb.h1 u hu;omega
  have len:(0::o).length≤6:=by have:=hb.len;simp only [List.length_cons];omega
  have j:Jn 1 1 20 15 (0::o):=⟨by omega,by decide,by omega,by omega,by omega,nV,by
    have h1:=aCC len
    have h2:=aK9 _ 6 len (by omega)
    have h3:tri 6=15:=by decide
    omega,by rw [aMQ];decide⟩
  have es:=uP (fun x hx=>(hb.lk x hx).1) (by omega) hb.hw
  have e0:(0:Q) - sm enQ []=0:=by simp only [sm];grind
  have g:=aCn j l [] 0 (fun x hx=>⟨(hb.lk x hx).1,(hb.lk x hx).2.1,(hb.lk x hx).2.2⟩) (by simp) List.Pairwise.nil (by simp only [sm];have:=hb.hw;grind) ⟨0,by simp⟩ (by grind) (by have:=es.2;grind)
  rw [e0] at g
  obtain ⟨g1,g2,g3,g4,g5⟩:=g
  have fo:∀ x ∈ l,x.fit∧x.ok:=fun x hx=>by
    obtain ⟨l1,⟨l2,l3,l4⟩,_⟩:=hb.lk x hx
    refine ⟨aEP (by omega) (by decide) l1 (by omega) (by omega) ?_,hVn _ l2,hVn _ l3,l4,l1.sc.1⟩
    have:=vV (fun y hy=>(hb.lk y hy).1) hx
    have:=hb.hw
    grind
  obtain ⟨e1,f1,f2⟩:=aOb fo g1
  exact ⟨e1,fun k hk=>⟨f1 k hk,g2 k hk⟩,g3,f2⟩
theorem aNh {l:List QL} {o:List Int} (hb:Base l o) (hg:Grounded l o) (ho:isOrd ((bP l [] 0).1.map QL.toL) o):mS (l.map QL.toL) o=some ⟨(eG l o o []).map NQ.toN⟩:=by
  unfold mS
  rw [hb.join.1]
  simp only [Option.bind_some]
  rw [if_pos ho]
  have:=aLb hb o [] [] (TInv.start hb hg)
  rw [List.map_nil] at this
  rw [this]
  rfl
end Go.Ev
/- Links of whole numbers that tie nodes to the ground: their tree is built. -/
namespace Go.Ev
set_option linter.all false
def LkI (x:QL):Prop:=(0≤x.a∧x.a < x.b∧x.b≤5)∧∃ w p q:Int,(1≤w∧w≤9)∧(-20≤p∧p≤20)∧(-20≤q∧q≤20)∧x.w=(w:Q)∧x.x=(p:Q)∧x.y=(q:Q)
theorem aMw {B:Nat} {z:Int} (h:-(B:Int)≤z∧z≤(B:Int)):bd B (z:Q):=by
  constructor
  · have:=(_root_.Rat.intCast_le_intCast (a:=-(B:Int)) (b:=z)).2 h.1
    rw [_root_.Rat.intCast_neg] at this;exact this
  · exact (_root_.Rat.intCast_le_intCast (a:=z) (b:=(B:Int))).2 h.2
theorem LkI.lk {x:QL} (h:LkI x):Lk 1 20 x∧Dv 1 (enQ x)∧x.w≤9:=by
  obtain ⟨_,w,p,q,hw,hp,hq,e1,e2,e3⟩:=h
  have w0:((0:Int):Q) < (w:Q):=_root_.Rat.intCast_lt_intCast.2 (by omega)
  have w9:(w:Q)≤((9:Int):Q):=_root_.Rat.intCast_le_intCast.2 hw.2
  have z0:((0:Int):Q)=0:=rfl
  have z9:((9:Int):Q)=9:=rfl
  have m1:mx x=((w*p:Int):Q):=by unfold mx;rw [e1,e2,_root_.Rat.intCast_mul]
  have m2:my x=((w*q:Int):Q):=by unfold my;rw [e1,e3,_root_.Rat.intCast_mul]
  have m3:enQ x=((w*(p*p+q*q):Int):Q):=by
    unfold enQ sqQ
    rw [e1,e2,e3,_root_.Rat.intCast_mul,_root_.Rat.intCast_add,_root_.Rat.intCast_mul,_root_.Rat.intCast_mul]
  refine ⟨⟨⟨by rw [e1];grind,by rw [e1];exact aHo _,by rw [m1];exact aHo _,by rw [m2];exact aHo _⟩,by rw [e2];exact aMw (by omega),by rw [e3];exact aMw (by omega)⟩,by rw [m3];exact aHo _,by rw [e1];grind⟩
theorem aON:∀ {l:List QL},(∀ x ∈ l,LkI x)→sm wt l≤((9*l.length:Nat):Q)
  | [],_=>by simp [sm]
  | x::l,h=>by
    have h1:=(h x (by simp)).lk.2.2
    have h2:=aON (l:=l) (fun y hy=>h y (by simp [hy]))
    have e:(9*(x::l).length:Nat)=9+9*l.length:=by rw [List.length_cons];omega
    rw [sm,e,_root_.Rat.natCast_add]
    have e2:wt x=x.w:=rfl
    have e3:((9:Nat):Q)=9:=rfl
    rw [e2,e3];grind
structure Tie (l:List QL) (o:List Int):Prop where
  nd:o.Nodup
  mem:∀ u,u ∈ o↔1≤u∧∃ x ∈ l,x.a=u∨x.b=u
  lk:∀ x ∈ l,LkI x
  len:l.length≤8
  gr:Grounded l o
theorem Tie.five {l:List QL} {o:List Int} (h:Tie l o):∀ u ∈ o,1≤u∧u≤5:=by
  intro u hu
  obtain ⟨h1,x,hx,ht⟩:=(h.mem u).1 hu
  have:=(h.lk x hx).1
  omega
theorem Tie.base {l:List QL} {o:List Int} (h:Tie l o):Base l o where
  nd:=h.nd
  h1:=fun u hu=>by have:=h.five u hu;omega
  len:=by
    have:=h.nd.length_le_of_subset (l₂:=[1,2,3,4,5]) (fun u hu=>by
      have:=h.five u hu
      simp only [List.mem_cons,List.not_mem_nil,or_false];omega)
    simpa using this
  lk:=fun x hx=>by
    obtain ⟨h1,h2,h3⟩:=(h.lk x hx).lk
    have hn:=(h.lk x hx).1
    refine ⟨h1,⟨?_,?_,hn.2.1⟩,h2⟩
    · by_cases c:x.a=0
      · rw [c];simp
      · exact List.mem_cons_of_mem _ ((h.mem _).2 ⟨by omega,x,hx,.inl rfl⟩)
    · exact List.mem_cons_of_mem _ ((h.mem _).2 ⟨by omega,x,hx,.inr rfl⟩)
  hw:=by
    have h1:=aON h.lk
    have h2:((9*l.length:Nat):Q)≤((72:Nat):Q):=aI6 (by have:=h.len;omega)
    have e:((72:Nat):Q)=72:=rfl
    grind
theorem aEB {s:List Link} {u:Int}:u ∈ fH s↔(1≤u∧u≤9)∧∃ x ∈ s,x.fA=u∨x.fB=u:=by
  unfold fH aDj tch
  rw [List.mem_filter,List.any_eq_true]
  constructor
  · rintro ⟨h1,x,hx,ht⟩
    obtain ⟨k,hk,rfl⟩:=List.mem_map.1 h1
    rw [List.mem_range] at hk
    exact ⟨by omega,x,hx,of_decide_eq_true ht⟩
  · rintro ⟨h1,x,hx,ht⟩
    exact ⟨List.mem_map.2 ⟨(u - 1).toNat,List.mem_range.2 (by omega),by omega⟩,x,hx,decide_eq_true ht⟩
theorem zG (s:List Link):(fH s).Nodup:=by
  unfold fH
  exact (by decide:aDj.Nodup).filter _
theorem aKw {a b:List Int} (ha:a.Nodup) (hb:b.Nodup) (h:∀ u,u ∈ a↔u ∈ b):a.length=b.length :=
  Nat.le_antisymm (ha.length_le_of_subset fun u hu=>(h u).1 hu) (hb.length_le_of_subset fun u hu=>(h u).2 hu)
theorem Tie.isOrd {l:List QL} {o:List Int} (h:Tie l o):isOrd ((bP l [] 0).1.map QL.toL) o:=by
  have key:∀ u,u ∈ o↔u ∈ fH ((bP l [] 0).1.map QL.toL):=by
    intro u
    rw [h.mem,aEB]
    constructor
    · rintro ⟨h1,x,hx,ht⟩
      obtain ⟨y,hy,e1,e2⟩:=tK l [] 0 x (.inr hx)
      have:=(h.lk x hx).1
      refine ⟨by omega,y.toL,List.mem_map_of_mem hy,?_⟩
      show y.a=u∨y.b=u
      rw [← e1,← e2];exact ht
    · rintro ⟨h1,z,hz,ht⟩
      obtain ⟨y,hy,rfl⟩:=List.mem_map.1 hz
      obtain ⟨x,hx,e1,e2⟩:=wK l [] 0 y hy
      have hx:=hx.resolve_left (by simp)
      refine ⟨h1.1,x,hx,?_⟩
      rw [e1,e2];exact ht
  exact ⟨h.nd,fun y hy=>(key y).1 hy,aKw h.nd (zG _) key⟩
theorem Tie.build {l:List QL} {o:List Int} (h:Tie l o):mS (l.map QL.toL) o=some ⟨(eG l o o []).map NQ.toN⟩:=aNh h.base h.gr h.isOrd
theorem Grounded.perm {l l':List QL} {o o':List Int} (h:Grounded l o) (h1:∀ x ∈ l,x ∈ l') (h2:∀ u ∈ o',u ∈ o):Grounded l' o':=by
  intro S hS h0
  obtain ⟨u,hu,su⟩:=hS
  obtain ⟨x,hx,hh⟩:=h S ⟨u,h2 u hu,su⟩ h0
  exact ⟨x,h1 x hx,hh⟩
theorem Tie.perm {l l':List QL} {o o':List Int} (h:Tie l o) (hl:l'.Perm l) (ho:o'.Perm o):Tie l' o' where
  nd:=ho.nodup_iff.2 h.nd
  mem:=fun u=>by
    rw [ho.mem_iff,h.mem]
    constructor
    · rintro ⟨h1,x,hx,ht⟩;exact ⟨h1,x,hl.mem_iff.2 hx,ht⟩
    · rintro ⟨h1,x,hx,ht⟩;exact ⟨h1,x,hl.mem_iff.1 hx,ht⟩
  lk:=fun x hx=>h.lk x (hl.mem_iff.1 hx)
  len:=by rw [hl.length_eq];exact h.len
  gr:=h.gr.perm (fun x hx=>hl.mem_iff.2 hx) fun u hu=>ho.mem_iff.1 hu
theorem aIb {l:List QL} {o:List Int} (hl:∀ x ∈ l,0≤x.a∧x.a < x.b) (hm:∀ u,u ∈ o↔1≤u∧∃ x ∈ l,x.a=u∨x.b=u) (h:∀ u ∈ o,∃ x ∈ l,x.b=u):Grounded l o:=by
  intro S hS h0
  have key:∀ (n:Nat) (u:Int),u.toNat≤n→u ∈ o→S u→∃ x ∈ l,(S x.a∧¬S x.b)∨(S x.b∧¬S x.a):=by
    intro n
    induction n with
    | zero=>intro u hn hu _;have:=(hm u).1 hu;omega
    | succ n ih =>
      intro u hn hu su
      obtain ⟨x,hx,e⟩:=h u hu
      have hx2:=hl x hx
      by_cases c:S x.a
      · refine ih x.a (by omega) ((hm _).2 ⟨?_,x,hx,.inl rfl⟩) c
        by_cases z:x.a=0
        · rw [z] at c;exact absurd c h0
        · omega
      · exact ⟨x,hx,.inr ⟨e ▸ su,c⟩⟩
  obtain ⟨u,hu,su⟩:=hS
  exact key u.toNat u (Nat.le_refl _) hu su
theorem aLc {n:Int} {l:List QL} {o:List Int} (h1:∀ x ∈ l,LkI x∧x.b≤n+1) (h2:l.length≤8) (h3:∀ k,1≤k→k≤n→∃ x ∈ l,x.b=k) (nd:o.Nodup) (hm:∀ u,u ∈ o↔1≤u∧∃ x ∈ l,x.a=u∨x.b=u):Tie l o where
  nd:=nd
  mem:=hm
  lk:=fun x hx=>(h1 x hx).1
  len:=h2
  gr:=aIb (fun x hx=>by have:=(h1 x hx).1.1;omega) hm fun u hu=>by
    obtain ⟨g1,x,hx,ht⟩:=(hm u).1 hu
    by_cases c:u≤n
    · exact h3 u g1 c
    · have:=(h1 x hx)
      have g:=this.1.1
      refine ⟨x,hx,by omega⟩
end Go.Ev
/- The cursor and what is drawn from it. -/
namespace Go.Ev
open IntKind
set_option linter.all false
theorem aGi (x:Int):0≤xX .i64 x 255∧xX .i64 x 255≤255:=by
  unfold xX
  have h:(BitVec.ofInt (IntKind.bits .i64) x &&& BitVec.ofInt (IntKind.bits .i64) 255).toNat≤255:=by
    rw [BitVec.toNat_and]
    exact Nat.le_trans Nat.and_le_right (by decide)
  rw [wi (by omega)]
  omega
def oJ (c:l01Cur):Prop:=c.fb.length≤1048576∧0≤c.fi∧c.fi≤1048577
theorem aMs (c:l01Cur) (h:oJ c):∃ r,gU c=some r∧(0≤r.1∧r.1≤255)∧oJ r.2∧r.2.fb=c.fb:=by
  obtain ⟨h1,h2,h3⟩:=h
  unfold gU
  simp only [aO]
  by_cases hc:c.fi < (c.fb.length:Int)
  · rw [if_pos hc]
    have:=aK (l:=c.fb) (k:=c.fi.toNat) (by omega)
    rw [show ((c.fi.toNat:Nat):Int)=c.fi by omega] at this
    rw [this]
    simp only [Option.bind_some]
    refine ⟨_,rfl,aGi _,⟨h1,?_,?_⟩,rfl⟩
    · simp only [];rw [wi (by omega)];omega
    · simp only [];rw [wi (by omega)];omega
  · rw [if_neg hc]
    exact ⟨_,rfl,aGi _,⟨h1,h2,h3⟩,rfl⟩
theorem rA (c:l01Cur) (n:Int) (h:oJ c) (hn:1≤n∧n≤256):∃ r,cC c n=some r∧(0≤r.1∧r.1 < n)∧oJ r.2∧r.2.fb=c.fb:=by
  unfold cC
  rw [if_neg (by omega),if_pos (by omega)]
  obtain ⟨r,e,g1,g2,g3⟩:=aMs c h
  rw [show (l01Cur.mk c.fb c.fi c.fh)=c from rfl,e]
  simp only [Option.bind_some]
  rw [aN (by omega)]
  refine ⟨_,rfl,⟨Int.tmod_nonneg _ g1.1,Int.tmod_lt_of_pos _ (by omega)⟩,?_,rfl⟩
  unfold oJ at g2 h ⊢
  simp only []
  exact ⟨h.1,g2.2⟩
theorem aNB (code:List Int) (h:code.length≤1048576):∃ c,rN code=some c∧oJ c∧c.fb=code:=by
  unfold rN
  simp only [aO]
  have main:∀ (m k:Nat) (v:Int),m+k=code.length→∃ d,lp (lJ code) (v,(k:Int))=some d:=by
    intro m
    induction m with
    | zero =>
      intro k v hk
      exact ⟨v,aJ (by unfold lJ;simp only [];rw [if_neg (by omega)];rfl)⟩
    | succ m ih =>
      intro k v hk
      have hlt:k < code.length:=by omega
      by_cases c:(k:Int) < 4000
      · obtain ⟨d,e⟩:=ih (k+1) (xX .i64 (i64.wrap (i64.wrap (i64.wrap (v*59)+i64.wrap code[k])+7)) 1073741823) (by omega)
        refine ⟨d,?_⟩
        rw [aT (s':=(xX .i64 (i64.wrap (i64.wrap (i64.wrap (v*59)+i64.wrap code[k])+7)) 1073741823,((k+1:Nat):Int))),e]
        unfold lJ
        simp only []
        rw [if_pos (by omega),aK hlt]
        have w:i64.wrap ((k:Int)+1)=((k+1:Nat):Int):=by rw [wi (by omega)];omega
        simp only [Option.bind_some,decide_eq_true c,if_true,aO,w]
      · refine ⟨v,aJ ?_⟩
        unfold lJ
        simp only []
        rw [if_pos (by omega)]
        simp only [Option.bind_some,decide_eq_false c,Bool.false_eq_true,if_false]
  obtain ⟨d,e⟩:=main code.length 0 (i64.wrap (1951+(code.length:Int))) (by omega)
  rw [show ((0:Nat):Int)=0 from rfl] at e
  rw [e]
  exact ⟨_,rfl,⟨h,by simp,by simp⟩,rfl⟩
end Go.Ev
/- Links that are drawn. -/
namespace Go.Ev
set_option linter.all false
theorem wN {fb:List Int} {c:l01Cur} (h:oJ c) (e:c.fb=fb):oJ ⟨fb,c.fi,c.fh⟩:=by
  subst e;exact h
def mkI (a b w x y:Int):QL:=⟨a,b,(w:Q),(x:Q),(y:Q)⟩
theorem aLT {a b w x y:Int} (h:0≤a∧a < b∧b≤5) (hw:1≤w∧w≤9) (hx:-20≤x∧x≤20) (hy:-20≤y∧y≤20):LkI (mkI a b w x y):=⟨h,w,x,y,hw,hx,hy,rfl,rfl,rfl⟩
theorem aF2 {a b w x y:Int} (ha:0≤a∧a≤5) (hb:0≤b∧b≤5) (hab:a≠b) (hw:1≤w∧w≤9) (hx:-20≤x∧x≤20) (hy:-20≤y∧y≤20) :
    ∃ k:QL,pL a b w x y=some (k.toL,true)∧LkI k∧((k.a=a∧k.b=b)∨(k.a=b∧k.b=a)):=by
  unfold pL
  simp only [aBc,xG,Option.bind_some]
  rw [decide_eq_true (show 0≤a∧a≤9 by omega),decide_eq_true (show 0≤b∧b≤9 by omega),decide_eq_true (show 1≤w∧w≤9999 by omega),decide_eq_true (show -1000000≤x∧x≤1000000 by omega),decide_eq_true (show -1000000≤y∧y≤1000000 by omega)]
  simp only [if_true,if_neg hab,Option.bind_some,Bool.not_true,Bool.false_eq_true,if_false]
  by_cases c:b < a
  · rw [if_pos c]
    simp only [Option.bind_some]
    rw [wi (n:=0 - x) (by omega),wi (n:=0 - y) (by omega),bO w (by omega),bO (0 - x) (by omega),bO (0 - y) (by omega),aAx (z:=w) (by omega),aAx (z:=0 - x) (by omega),aAx (z:=0 - y) (by omega)]
    exact ⟨mkI b a w (0 - x) (0 - y),rfl,aLT (by omega) hw (by omega) (by omega),.inr ⟨rfl,rfl⟩⟩
  · rw [if_neg c]
    simp only [Option.bind_some]
    rw [bO w (by omega),bO x (by omega),bO y (by omega),aAx (z:=w) (by omega),aAx (z:=x) (by omega),aAx (z:=y) (by omega)]
    exact ⟨mkI a b w x y,rfl,aLT (by omega) hw hx hy,.inl ⟨rfl,rfl⟩⟩
theorem aMj (c:l01Cur) (n:Int) (h:oJ c) (hn:1≤n∧n≤5):∃ (k:QL) (c':l01Cur),pI c n=some (k.toL,c')∧oJ c'∧c'.fb=c.fb∧LkI k∧k.b≤n:=by
  obtain ⟨r1,a1,b1,c1,d1⟩:=rA ⟨c.fb,c.fi,c.fh⟩ n h (by omega)
  obtain ⟨r2,a2,b2,c2,d2⟩:=rA ⟨c.fb,r1.2.fi,r1.2.fh⟩ n (wN c1 d1) (by omega)
  obtain ⟨r3,a3,b3,c3,d3⟩:=rA ⟨c.fb,r2.2.fi,r2.2.fh⟩ 9 (wN c2 d2) (by omega)
  obtain ⟨r4,a4,b4,c4,d4⟩:=rA ⟨c.fb,r3.2.fi,r3.2.fh⟩ 41 (wN c3 d3) (by omega)
  obtain ⟨r5,a5,b5,c5,d5⟩:=rA ⟨c.fb,r4.2.fi,r4.2.fh⟩ 41 (wN c4 d4) (by omega)
  have pick:∃ v:Int,((if (r1.1=r2.1) then (chk (IntKind.i64.wrap (n+1)≠0)).bind fun _u=>(bA ((IntKind.i64.wrap (r1.1+1)).tmod (IntKind.i64.wrap (n+1)))).bind fun v4=>some v4 else some r2.1):Option Int)=some v∧(0≤v∧v≤n)∧r1.1≠v:=by
    by_cases e:r1.1=r2.1
    · rw [if_pos e,wi (n:=n+1) (by omega),wi (n:=r1.1+1) (by omega),aN (by omega)]
      simp only [Option.bind_some,aO]
      refine ⟨_,rfl,?_⟩
      rw [Int.tmod_eq_of_lt (by omega) (by omega)];omega
    · rw [if_neg e];exact ⟨_,rfl,by omega,e⟩
  obtain ⟨v,ev,hv,hne⟩:=pick
  obtain ⟨k,ek,hk,hk2⟩:=aF2 (a:=r1.1) (b:=v) (w:=1+r3.1) (x:=r4.1 - 20) (y:=r5.1 - 20) (by omega) (by omega) hne (by omega) (by omega) (by omega)
  refine ⟨k,⟨c.fb,r5.2.fi,r5.2.fh⟩,?_,wN c5 d5,rfl,hk,by omega⟩
  unfold pI
  rw [a1];simp only [Option.bind_some]
  rw [a2];simp only [Option.bind_some]
  rw [ev];simp only [Option.bind_some]
  rw [a3];simp only [Option.bind_some]
  rw [a4];simp only [Option.bind_some]
  rw [a5];simp only [Option.bind_some]
  rw [wi (n:=1+r3.1) (by omega),wi (n:=r4.1 - 20) (by omega),wi (n:=r5.1 - 20) (by omega),ek]
  rfl
structure LinkL (n:Int) (l:List QL):Prop where
  each:∀ x ∈ l,LkI x∧x.b≤n+1
  len:l.length≤7
  all:∀ k,1≤k→k≤n→∃ x ∈ l,x.b=k
theorem aOR (c:l01Cur) (n:Int) (hn:1≤n∧n≤4):∀ (m k:Nat) (l:List QL) (fi fh:Int),(m:Int)+k=n+1→1≤k→oJ ⟨c.fb,fi,fh⟩→l.length=k - 1→(∀ x ∈ l,LkI x∧x.b≤n)→(∀ j:Int,1≤j→j < k→∃ x ∈ l,x.b=j) →
    ∃ (l':List QL) (fi' fh':Int),lp (kE c n) ((k:Int),l.map QL.toL,fi,fh)=some (l'.map QL.toL,fi',fh')∧oJ ⟨c.fb,fi',fh'⟩∧(l'.length:Int)=n∧(∀ x ∈ l',LkI x∧x.b≤n)∧∀ j:Int,1≤j→j≤n→∃ x ∈ l',x.b=j:=by
  intro m
  induction m with
  | zero =>
    intro k l fi fh hm hk hc hl he ha
    refine ⟨l,fi,fh,aJ ?_,hc,by omega,he,fun j h1 h2=>ha j h1 (by omega)⟩
    unfold kE
    simp only []
    rw [if_neg (by omega)]
  | succ m ih =>
    intro k l fi fh hm hk hc hl he ha
    obtain ⟨r1,a1,b1,c1,d1⟩:=rA ⟨c.fb,fi,fh⟩ k hc (by omega)
    obtain ⟨r2,a2,b2,c2,d2⟩:=rA ⟨c.fb,r1.2.fi,r1.2.fh⟩ 9 (wN c1 d1) (by omega)
    obtain ⟨r3,a3,b3,c3,d3⟩:=rA ⟨c.fb,r2.2.fi,r2.2.fh⟩ 41 (wN c2 d2) (by omega)
    obtain ⟨r4,a4,b4,c4,d4⟩:=rA ⟨c.fb,r3.2.fi,r3.2.fh⟩ 41 (wN c3 d3) (by omega)
    obtain ⟨q,eq,hq,hq2⟩:=aF2 (a:=r1.1) (b:=k) (w:=1+r2.1) (x:=r3.1 - 20) (y:=r4.1 - 20) (by omega) (by omega) (by omega) (by omega) (by omega) (by omega)
    have hqb:q.b=k:=by have:=hq.1;omega
    have st:kE c n ((k:Int),l.map QL.toL,fi,fh)=some (.inl (((k+1:Nat):Int),(l++[q]).map QL.toL,r4.2.fi,r4.2.fh)):=by
      unfold kE
      simp only []
      rw [if_pos (by omega),a1]
      simp only [Option.bind_some]
      rw [a2]
      simp only [Option.bind_some]
      rw [a3]
      simp only [Option.bind_some]
      rw [a4]
      simp only [Option.bind_some]
      rw [wi (n:=1+r2.1) (by omega),wi (n:=r3.1 - 20) (by omega),wi (n:=r4.1 - 20) (by omega),eq]
      simp only [Option.bind_some]
      rw [aN (by rw [List.length_map];omega),wi (n:=(k:Int)+1) (by omega)]
      simp only [Option.bind_some,aO,List.map_append,List.map_cons,List.map_nil]
      rfl
    rw [aT st]
    refine ih (k+1) (l++[q]) r4.2.fi r4.2.fh (by omega) (by omega) (wN c4 d4) (by rw [List.length_append,List.length_singleton];omega) (fun x hx=>?_) (fun j h1 h2=>?_)
    · rcases List.mem_append.1 hx with hx | hx
      · exact he x hx
      · simp at hx;subst hx;exact ⟨hq,by omega⟩
    · by_cases e:j=k
      · exact ⟨q,by simp,by omega⟩
      · obtain ⟨x,hx,h⟩:=ha j h1 (by omega)
        exact ⟨x,by simp [hx],h⟩
theorem aOQ (c:l01Cur) (n:Int) (hn:1≤n∧n≤4):∀ (m:Nat) (l:List QL) (fi fh:Int),oJ ⟨c.fb,fi,fh⟩→l.length+m≤7→(∀ x ∈ l,LkI x∧x.b≤n+1) →
    ∃ (l':List QL) (fi' fh':Int),lp (kD c n) ((m:Int),l.map QL.toL,fi,fh)=some ((l++l').map QL.toL,fi',fh')∧oJ ⟨c.fb,fi',fh'⟩∧(l++l').length≤7∧∀ x ∈ l++l',LkI x∧x.b≤n+1:=by
  intro m
  induction m with
  | zero =>
    intro l fi fh hc hl he
    refine ⟨[],fi,fh,aJ ?_,hc,by simpa using hl,by simpa using he⟩
    unfold kD
    simp only []
    rw [if_neg (by omega),List.append_nil]
  | succ m ih =>
    intro l fi fh hc hl he
    obtain ⟨q,c',a1,a2,a3,a4,a5⟩:=aMj ⟨c.fb,fi,fh⟩ (n+1) hc (by omega)
    have st:kD c n (((m+1:Nat):Int),l.map QL.toL,fi,fh)=some (.inl ((m:Int),(l++[q]).map QL.toL,c'.fi,c'.fh)):=by
      unfold kD
      simp only []
      rw [if_pos (by omega),wi (n:=n+1) (by omega),a1]
      simp only [Option.bind_some]
      rw [aN (by rw [List.length_map];omega),wi (n:=((m+1:Nat):Int) - 1) (by omega)]
      simp only [Option.bind_some,aO,List.map_append,List.map_cons,List.map_nil]
      rw [show ((m+1:Nat):Int) - 1=(m:Int) by omega]
    rw [aT st]
    obtain ⟨l',fi',fh',g1,g2,g3,g4⟩:=ih (l++[q]) c'.fi c'.fh (wN a2 a3) (by rw [List.length_append,List.length_singleton];omega) (fun x hx=>by
      rcases List.mem_append.1 hx with hx | hx
      · exact he x hx
      · simp at hx;subst hx;exact ⟨a4,a5⟩)
    have e:l++[q]++l'=l++(q::l'):=by simp
    rw [e] at g1 g3 g4
    exact ⟨q::l',fi',fh',g1,g2,g3,g4⟩
theorem aN9 (c:l01Cur) (n:Int) (h:oJ c) (hn:1≤n∧n≤4):∃ (l:List QL) (c':l01Cur),sE c n=some (l.map QL.toL,c')∧oJ c'∧c'.fb=c.fb∧LinkL n l:=by
  obtain ⟨l1,f1,g1,e1,o1,n1,h1,a1⟩:=aOR c n hn n.toNat 1 [] c.fi c.fh (by omega) (by omega) h rfl (by simp) (fun j h1 h2=>by omega)
  obtain ⟨r,e2,b2,o2,d2⟩:=rA ⟨c.fb,f1,g1⟩ 4 o1 (by omega)
  obtain ⟨l2,f3,g3,e3,o3,n3,h3⟩:=aOQ c n hn r.1.toNat l1 r.2.fi r.2.fh (wN o2 d2) (by omega) (fun x hx=>⟨(h1 x hx).1,by have:=(h1 x hx).2;omega⟩)
  refine ⟨l1++l2,⟨c.fb,f3,g3⟩,?_,o3,rfl,⟨h3,n3,fun k k1 k2=>?_⟩⟩
  · unfold sE
    rw [show ((1:Nat):Int)=1 from rfl,List.map_nil] at e1
    rw [e1]
    simp only [Option.bind_some]
    rw [e2]
    simp only [Option.bind_some]
    rw [show ((r.1.toNat:Nat):Int)=r.1 by omega] at e3
    rw [e3]
    rfl
  · obtain ⟨x,hx,e⟩:=a1 k k1 k2
    exact ⟨x,by simp [hx],e⟩
end Go.Ev
/- Is it a tree, both programs, and the law. -/
namespace Go.Ev
set_option linter.all false
def eA (t:Tree):List Int:=t.fNodes.map (·.fNode)
theorem aGB (a b:Tree) (h:gI a≤4294967296):oA a b=some (decide (a=b)):=by
  unfold gI jB at h
  have hl:=fT bH a.fNodes
  obtain ⟨a⟩:=a
  obtain ⟨b⟩:=b
  simp only [] at h hl
  unfold oA
  by_cases hn:a.length=b.length
  · rw [if_neg (by simp only [];omega),aGV a b hn (fun k ha hb=>by
      have he:=mF (w:=bH) (List.getElem_mem ha)
      unfold pT
      simp only []
      rw [if_pos (by omega),aK ha,aK hb,wi (by omega)]
      simp only [Option.bind_some]
      rw [aAt _ _ (by omega)]
      by_cases c:a[k]=b[k] <;> simp [c]) (by unfold pT;simp only [];rw [if_neg (by omega)])]
    by_cases c:a=b <;> simp [c]
  · rw [if_pos (by simp only [];omega)]
    have:a≠b:=by rintro rfl;exact hn rfl
    simp [this]
def jZ (t:Tree):Prop:=mS (bV t.fNodes) (eA t)=some t
noncomputable instance (t:Tree):Decidable (jZ t):=Classical.propDecidable _
end Go.Ev
/- Paths of a tree end: what a tree's node hands up lies later in the order. -/
namespace Go.Ev
set_option linter.all false
def pr (s:List Link) (x y:Int):Prop:=∃ l ∈ s,l.fA=x∧l.fB=y
theorem aAy {a b:List Link} {x y:Int}:pr (a++b) x y↔pr a x y∨pr b x y:=by
  unfold pr
  constructor
  · rintro ⟨l,h,e⟩
    rcases List.mem_append.1 h with h | h
    · exact .inl ⟨l,h,e⟩
    · exact .inr ⟨l,h,e⟩
  · rintro (⟨l,h,e⟩ | ⟨l,h,e⟩)
    · exact ⟨l,List.mem_append_left _ h,e⟩
    · exact ⟨l,List.mem_append_right _ h,e⟩
theorem aDI {a:List Link} {l:Link} {x y:Int}:pr (l::a) x y↔(l.fA=x∧l.fB=y)∨pr a x y:=by
  unfold pr;simp only [List.mem_cons,exists_eq_or_imp]
theorem aIT {x y:Int}:¬pr [] x y:=by rintro ⟨l,h,_⟩;cases h
theorem aNl {s:List Link} {l:Link} {s':List Link} {e:Rat} (h:aAa s l=some (s',e)) (x y:Int):pr s' x y↔pr s x y∨(l.fA=x∧l.fB=y):=by
  have ins:∀ p,pr (s.take p++[l]++s.drop p) x y↔pr s x y∨(l.fA=x∧l.fB=y):=by
    intro p
    have e1:pr s x y↔pr (s.take p) x y∨pr (s.drop p) x y:=by rw [← aAy,List.take_append_drop]
    rw [e1,List.append_assoc,aAy,List.singleton_append,aDI]
    constructor
    · rintro (h | h | h)
      · exact .inl (.inl h)
      · exact .inr h
      · exact .inl (.inr h)
    · rintro ((h | h) | h)
      · exact .inl h
      · exact .inr (.inr h)
      · exact .inr (.inl h)
  unfold aAa at h
  by_cases c:dK l s < s.length
  · rw [dif_pos c] at h
    by_cases c2:eO l s[dK l s]
    · rw [if_pos c2] at h;cases h;exact ins _
    · rw [if_neg c2] at h
      have nl:=aA5 l s c
      have hA:s[dK l s].fA=l.fA∧s[dK l s].fB=l.fB:=by unfold eO at c2 nl;omega
      by_cases O:xF s[dK l s] l
      · rw [if_pos O] at h;cases h
        have e1:pr s x y↔pr (s.take (dK l s)) x y∨((s[dK l s].fA=x∧s[dK l s].fB=y)∨pr (s.drop (dK l s+1)) x y):=by
          rw [← aDI,← List.drop_eq_getElem_cons c,← aAy,List.take_append_drop]
        rw [e1,List.append_assoc,aAy,List.singleton_append,aDI]
        have e2:(aAn s[dK l s] l).fA=s[dK l s].fA:=rfl
        have e3:(aAn s[dK l s] l).fB=s[dK l s].fB:=rfl
        rw [e2,e3,hA.1,hA.2]
        constructor
        · rintro (h | h | h)
          · exact .inl (.inl h)
          · exact .inr h
          · exact .inl (.inr (.inr h))
        · rintro ((h | h | h) | h)
          · exact .inl h
          · exact .inr (.inl h)
          · exact .inr (.inr h)
          · exact .inr (.inl h)
      · rw [if_neg O] at h;cases h
  · rw [dif_neg c] at h;cases h;exact ins _
theorem aH7:∀ (l s:List Link) (e:Rat) (s':List Link) (e':Rat),tA l s e=some (s',e')→∀ x y,pr s' x y↔pr s x y∨pr l x y
  | [],s,e,s',e',h,x,y=>by
    rw [tA] at h;cases h
    exact ⟨.inl,fun h=>h.elim id (fun h=>(aIT h).elim)⟩
  | a::r,s,e,s',e',h,x,y=>by
    rw [tA] at h
    cases ha:aAa s a with
    | none=>rw [ha] at h;cases h
    | some t =>
      obtain ⟨s1,e1⟩:=t
      rw [ha] at h
      simp only [] at h
      by_cases c:bL (RA e e1)
      · rw [if_pos c] at h
        rw [aH7 r s1 _ s' e' h x y,aNl ha,aDI,or_assoc]
      · rw [if_neg c] at h;cases h
theorem aET {l s:List Link} {e:Rat} (h:jnP l=some (s,e)) (x y:Int):pr s x y↔pr l x y:=by
  unfold jnP at h
  by_cases c:∀ x ∈ l,ValidL x
  · rw [if_pos c] at h
    rw [aH7 l [] _ s e h x y]
    exact ⟨fun h=>h.elim (fun h=>(aIT h).elim) id,.inr⟩
  · rw [if_neg c] at h;cases h
def adj (s:List Link) (x y:Int):Prop:=pr s x y∨pr s y x
def en (s:List Link) (x:Int):Prop:=∃ y,adj s x y
theorem aJV (t:Rat) {x y:Int}:∀ {a:List l08Arm},(a.map (·.fnode)).Pairwise (· < ·)→(pr (gJ t a) x y↔x ∈ a.map (·.fnode)∧y ∈ a.map (·.fnode)∧x < y)
  | [],_=>⟨fun h=>(aIT h).elim,fun h=>by cases h.1⟩
  | b::r,hp=>by
    rw [List.map_cons,List.pairwise_cons] at hp
    rw [gJ,aAy,aJV t hp.2,List.map_cons]
    have e1:pr (r.map (rQ t b)) x y↔x=b.fnode∧y ∈ r.map (·.fnode):=by
      constructor
      · rintro ⟨l,hl,h1,h2⟩
        obtain ⟨z,hz,rfl⟩:=List.mem_map.1 hl
        exact ⟨h1.symm,List.mem_map.2 ⟨z,hz,h2⟩⟩
      · rintro ⟨rfl,h⟩
        obtain ⟨z,hz,rfl⟩:=List.mem_map.1 h
        exact ⟨rQ t b z,List.mem_map.2 ⟨z,hz,rfl⟩,rfl,rfl⟩
    rw [e1,List.mem_cons,List.mem_cons]
    constructor
    · rintro (⟨rfl,h⟩ | ⟨h1,h2,h3⟩)
      · exact ⟨.inl rfl,.inr h,hp.1 y h⟩
      · exact ⟨.inr h1,.inr h2,h3⟩
    · rintro ⟨h1,h2,h3⟩
      rcases h1 with rfl | h1
      · rcases h2 with rfl | h2
        · omega
        · exact .inl ⟨rfl,h2⟩
      · rcases h2 with rfl | h2
        · have:=hp.1 x h1;omega
        · exact .inr ⟨h1,h2,h3⟩
theorem aJL {v:Int} {s:List Link} (hs:LSet s) {c:Conditional} {m:List Link} {f:Rat} (h:aAw v s=some (c,m,f)) :
    (∀ p,p ∈ uW c↔adj s p v)∧∀ x y,pr m x y↔(pr s x y∧x≠v∧y≠v)∨(x ∈ uW c∧y ∈ uW c∧x < y):=by
  unfold aAw at h
  cases h1:uQ v s with
  | none=>rw [h1] at h;cases h
  | some u =>
    rw [h1] at h
    cases h2:jnP (uI v s++u.2) with
    | none=>rw [Option.bind_some,h2] at h;cases h
    | some w =>
      rw [Option.bind_some,h2] at h
      cases h
      unfold uQ at h1
      split at h1
      · cases h1
        have hn:uW (yQ v (bK v s))=(bK v s).map (·.fnode):=by unfold uW yQ;rw [List.map_map];rfl
        have hp:∀ p,p ∈ uW (yQ v (bK v s))↔adj s p v:=by
          intro p
          rw [hn]
          unfold bK
          rw [List.map_map]
          simp only [List.mem_map,List.mem_filter,Function.comp]
          constructor
          · rintro ⟨l,⟨hl,ht⟩,rfl⟩
            rw [zZ]
            unfold qJ tch at *
            have ht:=of_decide_eq_true ht
            split
            · rename_i e;exact .inr ⟨l,hl,e,rfl⟩
            · rename_i e;exact .inl ⟨l,hl,rfl,ht.resolve_left e⟩
          · rintro (⟨l,hl,e1,e2⟩ | ⟨l,hl,e1,e2⟩)
            · have:=(hs.1 l hl).2.2.1
              refine ⟨l,⟨hl,by unfold tch;simp [e2]⟩,?_⟩
              rw [zZ];unfold qJ
              rw [if_neg (by omega)];exact e1
            · refine ⟨l,⟨hl,by unfold tch;simp [e1]⟩,?_⟩
              rw [zZ];unfold qJ
              rw [if_pos e1];exact e2
        refine ⟨hp,fun x y=>?_⟩
        rw [aET (s:=w.1) (e:=w.2) h2,aAy,aJV _ (aGj hs v),← hn]
        have hr:pr (uI v s) x y↔pr s x y∧x≠v∧y≠v:=by
          unfold uI pr
          simp only [List.mem_filter,tch,Bool.not_eq_true',decide_eq_false_iff_not]
          constructor
          · rintro ⟨l,⟨hl,hn⟩,rfl,rfl⟩
            exact ⟨⟨l,hl,rfl,rfl⟩,fun e=>hn (.inl e),fun e=>hn (.inr e)⟩
          · rintro ⟨⟨l,hl,rfl,rfl⟩,a,b⟩
            exact ⟨l,⟨hl,fun h=>h.elim a b⟩,rfl,rfl⟩
        rw [hr]
      · cases h1
structure PathN (o:List Int) (n:TreeNode):Prop where
  near:∀ x,en n.fMessages x→x ∈ uW n.fCond
  clq:∀ x y,x ∈ uW n.fCond→y ∈ uW n.fCond→x < y→pr n.fMessages x y
  late:∀ i (h:i < o.length),o[i]=n.fNode→∀ p ∈ uW n.fCond,p ∉ o.take (i+1)
theorem aCL {v:Int} {b:List TreeNode} {x y:Int}:pr (uZ v b) x y↔∃ n ∈ b,n.fUp=v∧pr n.fMessages x y:=by
  unfold pr uZ
  constructor
  · rintro ⟨l,hl,e⟩
    obtain ⟨n,hn,h⟩:=List.mem_flatMap.1 hl
    obtain ⟨h1,h2⟩:=List.mem_filter.1 hn
    exact ⟨n,h1,of_decide_eq_true h2,l,h,e⟩
  · rintro ⟨n,h1,h2,l,h,e⟩
    exact ⟨l,List.mem_flatMap.2 ⟨n,List.mem_filter.2 ⟨h1,by simp [h2]⟩,h⟩,e⟩
theorem aI3 {s:List Link} {o:List Int} (hn:o.Nodup) (h1:∀ u ∈ o,1≤u) {k:Nat} (hk:k < o.length) {b:List TreeNode} (hb:∀ n ∈ b,NodeOk s o n∧PathN o n) {n:TreeNode} (h:lL o o[k] (s.filter (kY o o[k])) b=some n):PathN o n:=by
  have hv:=h1 _ (List.getElem_mem hk)
  unfold lL at h
  cases e1:jnP (s.filter (kY o o[k])++uZ o[k] b) with
  | none=>rw [e1] at h;cases h
  | some u =>
    obtain ⟨j,e⟩:=u
    rw [e1,Option.bind_some] at h
    cases e2:aAw o[k] j with
    | none=>rw [e2] at h;cases h
    | some w =>
      obtain ⟨c,m,f⟩:=w
      rw [e2,Option.bind_some] at h
      split at h
      · cases h
        obtain ⟨_,hs,_⟩:=zR e1
        obtain ⟨hp,hm⟩:=aJL hs e2
        have hj:∀ x y,pr j x y↔pr (s.filter (kY o o[k])) x y∨pr (uZ o[k] b) x y:=fun x y=>by rw [aET e1,aAy]
        have up:∀ n ∈ b,n.fUp=o[k]→aQ o (uW n.fCond)=o[k]:=fun n hn hu=>by rw [← hu,(hb n hn).1.2.2.2.2];rfl
        have nb:∀ x,en j x→x≠o[k]→adj j x o[k]:=by
          rintro x ⟨y,hxy⟩ hx
          have own:∀ x y,pr (s.filter (kY o o[k])) x y→(x=o[k]∨y=o[k]):=by
            rintro x y ⟨l,hl,rfl,rfl⟩
            have:=(tM (of_decide_eq_true (List.mem_filter.1 hl).2) (by omega)).1
            simp only [List.mem_cons,List.not_mem_nil,or_false] at this
            exact this.elim (fun h=>.inl h.symm) (fun h=>.inr h.symm)
          have msg:∀ x,(∃ y,adj (uZ o[k] b) x y)→x≠o[k]→adj j x o[k]:=by
            rintro x ⟨y,h⟩ hx
            have:∃ n ∈ b,n.fUp=o[k]∧en n.fMessages x:=by
              rcases h with h | h
              · obtain ⟨n,a,b,c⟩:=aCL.1 h;exact ⟨n,a,b,y,.inl c⟩
              · obtain ⟨n,a,b,c⟩:=aCL.1 h;exact ⟨n,a,b,y,.inr c⟩
            obtain ⟨n,hn,hu,he⟩:=this
            have px:=(hb n hn).2.near x he
            have pv:=(tM (up n hn hu) (by omega)).1
            rcases Int.lt_or_gt_of_ne hx with hlt | hlt
            · exact .inl ((hj _ _).2 (.inr (aCL.2 ⟨n,hn,hu,(hb n hn).2.clq _ _ px pv hlt⟩)))
            · exact .inr ((hj _ _).2 (.inr (aCL.2 ⟨n,hn,hu,(hb n hn).2.clq _ _ pv px hlt⟩)))
          rcases hxy with h | h
          · rcases (hj _ _).1 h with g | g
            · rcases own _ _ g with e | e
              · exact absurd e hx
              · rw [e] at h;exact .inl h
            · exact msg x ⟨y,.inl g⟩ hx
          · rcases (hj _ _).1 h with g | g
            · rcases own _ _ g with e | e
              · rw [e] at h;exact .inr h
              · exact absurd e hx
            · exact msg x ⟨y,.inr g⟩ hx
        refine ⟨?_,fun x y hx hy hxy=>(hm x y).2 (.inr ⟨hx,hy,hxy⟩),?_⟩
        · rintro x ⟨y,h | h⟩
          · rcases (hm x y).1 h with ⟨g,a,_⟩ | ⟨g,_⟩
            · exact (hp x).2 (nb x ⟨y,.inl g⟩ a)
            · exact g
          · rcases (hm y x).1 h with ⟨g,_,a⟩ | ⟨_,g,_⟩
            · exact (hp x).2 (nb x ⟨y,.inr g⟩ a)
            · exact g
        · intro i hi hio p hpp hpt
          have hik:i=k:=by
            have:=(List.getElem_inj hn).1 (show o[i]=o[k] from hio);exact this
          subst hik
          have ha:=(hp p).1 hpp
          have hne:p≠o[i]:=by
            rintro rfl
            rcases ha with ⟨l,hl,a,b⟩ | ⟨l,hl,a,b⟩ <;> (have:=(hs.1 l hl).2.2.1;omega)
          have hpt:p ∈ o.take i:=by
            rw [List.take_add_one,List.getElem?_eq_getElem hi] at hpt
            rcases List.mem_append.1 hpt with h | h
            · exact h
            · exact absurd (by simpa using h) hne
          have key:∀ x y,pr j x y→(x=p∨y=p)→False:=by
            intro x y h hxy
            rcases (hj x y).1 h with ⟨l,hl,rfl,rfl⟩ | h
            · have:=((aBQ hi hn h1).1 (of_decide_eq_true (List.mem_filter.1 hl).2)).2 p hpt
              simp only [List.mem_cons,List.not_mem_nil,or_false,not_or] at this
              rcases hxy with e | e
              · exact this.1 e.symm
              · exact this.2 e.symm
            · obtain ⟨n,hn',hu,g⟩:=aCL.1 h
              refine ((aBQ hi hn h1).1 (up n hn' hu)).2 p hpt ((hb n hn').2.near p ?_)
              rcases hxy with rfl | rfl
              · exact ⟨y,.inl g⟩
              · exact ⟨x,.inr g⟩
          rcases ha with h | h
          · exact key _ _ h (.inl rfl)
          · exact key _ _ h (.inr rfl)
      · cases h
theorem aDW {s:List Link} {o:List Int} (hn:o.Nodup) (h1:∀ u ∈ o,1≤u):∀ m k:Nat,m+k=o.length→∀ b b':List TreeNode,(∀ n ∈ b,NodeOk s o n∧PathN o n)→oD s o (o.drop k) b=some b'→∀ n ∈ b',NodeOk s o n∧PathN o n:=by
  intro m
  induction m with
  | zero =>
    intro k hk b b' hb h
    rw [List.drop_eq_nil_of_le (by omega),oD] at h
    cases h;exact hb
  | succ m ih =>
    intro k hk b b' hb h
    have hlt:k < o.length:=by omega
    rw [List.drop_eq_getElem_cons hlt,oD] at h
    cases e:lL o o[k] (s.filter (kY o o[k])) b with
    | none=>rw [e] at h;cases h
    | some n =>
      rw [e,Option.bind_some] at h
      refine ih (k+1) (by omega) (b++[n]) b' (fun x hx=>?_) h
      rcases List.mem_append.1 hx with hx | hx
      · exact hb x hx
      · rw [List.mem_singleton.1 hx];exact ⟨(aEs e).1,aI3 hn h1 hlt hb e⟩
theorem tT {t:Tree} (ht:jZ t):t.fNodes.length≤9∧∀ k (hk:k < t.fNodes.length) j,atN t (t.fNodes[k]).fUp=some j→k < j∧j < t.fNodes.length:=by
  unfold jZ mS at ht
  cases h:jnP (bV t.fNodes) with
  | none=>rw [h] at ht;cases ht
  | some x =>
    rw [h,Option.bind_some] at ht
    by_cases c:isOrd x.1 (eA t)
    · rw [if_pos c] at ht
      obtain ⟨l9,h1⟩:=aAL c
      cases g:oD (bV t.fNodes) (eA t) (eA t) [] with
      | none=>rw [g] at ht;cases ht
      | some b =>
        rw [g] at ht
        have hb : b = t.fNodes := by have : Tree.mk b = t := by simpa using ht
                                     rw [← this]
        subst hb
        have hp:=aDW c.1 h1 (eA t).length 0 (by omega) [] t.fNodes (by simp) (by rw [List.drop_zero];exact g)
        have hl:(eA t).length=t.fNodes.length:=by unfold eA;rw [List.length_map]
        refine ⟨by omega,fun k hk j hj=>?_⟩
        unfold atN at hj
        rw [List.findIdx?_eq_some_iff_getElem] at hj
        obtain ⟨hjl,he,_⟩:=hj
        refine ⟨?_,hjl⟩
        have he:=of_decide_eq_true he
        obtain ⟨ok,pn⟩:=hp _ (List.getElem_mem hk)
        have hu:(t.fNodes[k]).fUp=aQ (eA t) (uW (t.fNodes[k]).fCond):=ok.2.2.2.2
        have hoj:(eA t)[j]'(by omega)=(t.fNodes[j]).fNode:=by simp [eA]
        have hok:(eA t)[k]'(by omega)=(t.fNodes[k]).fNode:=by simp [eA]
        have hju:=h1 _ (List.getElem_mem (by omega:j < (eA t).length))
        have hm:=(tM hu.symm (by omega)).1
        have nt:=pn.late k (by omega) hok _ hm
        apply Decidable.byContradiction
        intro hle
        apply nt
        rw [← he,← hoj]
        exact List.mem_iff_getElem.2 ⟨j,by rw [List.length_take];omega,by rw [List.getElem_take]⟩
    · rw [if_neg c] at ht;cases ht
end Go.Ev
/- Trees in another order, and the nodes that a change affects: both programs, and the laws. -/
namespace Go.Ev
set_option linter.all false
theorem aIe (d:List Int):∀ (l:List TreeNode) (u:List Int),l.foldl (fun u n=>if n.fNode ∈ d then u++[n.fNode] else u) u=u++(l.map (·.fNode)).filter (fun x=>decide (x ∈ d))
  | [],u=>by simp
  | n::l,u=>by
    rw [List.foldl_cons,aIe d l,List.map_cons,List.filter_cons]
    by_cases c:n.fNode ∈ d <;> simp [c]
end Go.Ev
/- The law of building a tree; inserting a link, both programs, and the law. -/
namespace Go.Ev
set_option linter.all false
def gM (o:List Int) (l:Link):List Int:=[l.fA,l.fB].filter (fun y=>decide (0 < y∧y ∉ o))
theorem aHQ (o:List Int) (l:Link):(gM o l).length≤2:=List.length_filter_le _ _
theorem aKz (o:List Int) (l:Link):gM o l=(if 0 < l.fA∧l.fA ∉ o then [l.fA] else [])++(if 0 < l.fB∧l.fB ∉ o then [l.fB] else []):=by
  unfold gM
  rw [List.filter_cons,List.filter_cons,List.filter_nil]
  by_cases a:0 < l.fA∧l.fA ∉ o <;> by_cases b:0 < l.fB∧l.fB ∉ o <;> simp [a,b]
theorem aIt {t:Tree} {v:Int}:atN t v=none↔v ∉ eA t:=by
  unfold atN eA
  rw [List.findIdx?_eq_none_iff]
  simp only [decide_eq_false_iff_not,List.mem_map,not_exists,not_and]
theorem xH (t:Tree) (v:Int) (h:t.fNodes.length≤4294967296):(iY t v).bind (fun r=>some (decide (r < 0)))=some (decide (v ∉ eA t)):=by
  rw [aBd t v h,Option.bind_some]
  cases e:atN t v with
  | none=>simp [aIt.1 e]
  | some k =>
    have:¬v ∉ eA t:=fun h=>by rw [aIt.2 h] at e;cases e
    simp only [Int.not_lt.2 (Int.natCast_nonneg k),decide_false,this]
theorem aKy (t:Tree) (ht:t.fNodes.length≤4294967296) (l:Link) (hv:ValidL l) (o u:List Int) (ho:o.length≤4194304) (hu:u.length≤4194304):lp (cK t l) (0,o,u)=some (o++gM (eA t) l,u++gM (eA t) l):=by
  rw [aKz]
  have hA0:=hv.1.1
  have hB0:=hv.2.1.1
  have s3:∀ o u,cK t l (2,o,u)=some (.inr (o,u)):=by
    intro o u
    unfold cK
    simp
  have hB:∀ (o u:List Int),o.length≤4194305→u.length≤4194305→lp (cK t l) (1,o,u)=some (o++(if 0 < l.fB∧l.fB ∉ eA t then [l.fB] else []),u++(if 0 < l.fB∧l.fB ∉ eA t then [l.fB] else [])):=by
    intro o u ho hu
    by_cases c:0 < l.fB∧l.fB ∉ eA t
    · rw [aT (s':=(2,o++[l.fB],u++[l.fB])),aJ (s3 _ _),if_pos c]
      unfold cK
      simp only []
      rw [if_pos (by simp),show idx [l.fA,l.fB] 1=some l.fB from rfl]
      simp only [Option.bind_some]
      rw [if_pos (by omega),xH t _ ht,decide_eq_true c.2]
      simp only [Option.bind_some,if_true]
      rw [aN (by omega)]
      simp only [Option.bind_some,aO]
      rw [aN (by omega)];rfl
    · rw [aT (s':=(2,o,u)),aJ (s3 _ _),if_neg c,List.append_nil,List.append_nil]
      unfold cK
      simp only []
      rw [if_pos (by simp),show idx [l.fA,l.fB] 1=some l.fB from rfl]
      simp only [Option.bind_some]
      by_cases d:0 < l.fB
      · have:¬l.fB ∉ eA t:=fun h=>c ⟨d,h⟩
        rw [if_pos (by omega),xH t _ ht,decide_eq_false this];rfl
      · rw [if_neg (by omega)];rfl
  by_cases c:0 < l.fA∧l.fA ∉ eA t
  · rw [aT (s':=(1,o++[l.fA],u++[l.fA])),hB _ _ (by simp;omega) (by simp;omega),if_pos c]
    · simp only [List.append_assoc]
    · unfold cK
      simp only []
      rw [if_pos (by simp),show idx [l.fA,l.fB] 0=some l.fA from rfl]
      simp only [Option.bind_some]
      rw [if_pos (by omega),xH t _ ht,decide_eq_true c.2]
      simp only [Option.bind_some,if_true]
      rw [aN (by omega)]
      simp only [Option.bind_some,aO]
      rw [aN (by omega)];rfl
  · rw [aT (s':=(1,o,u)),hB _ _ (by omega) (by omega),if_neg c]
    · simp
    · unfold cK
      simp only []
      rw [if_pos (by simp),show idx [l.fA,l.fB] 0=some l.fA from rfl]
      simp only [Option.bind_some]
      by_cases d:0 < l.fA
      · have:¬l.fA ∉ eA t:=fun h=>c ⟨d,h⟩
        rw [if_pos (by omega),xH t _ ht,decide_eq_false this];rfl
      · rw [if_neg (by omega)];rfl
def pkI:Option (Tree × List Int)→Tree × List Int × Bool
  | some (u,a)=>(u,a,true)
  | none=>(Tree.mk [],[],false)
end Go.Ev
/- Cliques: their nodes in order. -/
set_option linter.all false
namespace Go.Ev
set_option linter.all false
end Go.Ev
/- Deleting a link, both programs, and the law. -/
namespace Go.Ev
set_option linter.all false
theorem aHP {s u:List Link} {e:Rat} (h:jnP s=some (u,e)):fH u=fH s:=by
  refine yZ (zJ u) (zJ s) fun x=>?_
  have h1:∀ (a b:List Link),(∀ x y,pr a x y→pr b x y)→(∃ l ∈ a,l.fA=x∨l.fB=x)→∃ l ∈ b,l.fA=x∨l.fB=x:=by
    rintro a b hab ⟨l,hl,c⟩
    obtain ⟨m,hm,e1,e2⟩:=hab l.fA l.fB ⟨l,hl,rfl,rfl⟩
    exact ⟨m,hm,by rw [e1,e2];exact c⟩
  rw [zH,zH]
  exact ⟨fun ⟨a,b⟩=>⟨a,h1 u s (fun x y=>(aET h x y).1) b⟩,fun ⟨a,b⟩=>⟨a,h1 s u (fun x y=>(aET h x y).2) b⟩⟩
end Go.Ev
/- Trees that are drawn. -/
namespace Go.Ev
set_option linter.all false
theorem LinkL.tie {n:Int} {l:List QL} (h:LinkL n l) {o:List Int} (nd:o.Nodup) (hm:∀ u,u ∈ o↔u ∈ fH (l.map QL.toL)):Tie l o:=by
  refine aLc h.each (by have:=h.len;omega) h.all nd fun u=>?_
  rw [hm,aEB]
  constructor
  · rintro ⟨h1,z,hz,ht⟩
    obtain ⟨y,hy,rfl⟩:=List.mem_map.1 hz
    exact ⟨h1.1,y,hy,ht⟩
  · rintro ⟨h1,y,hy,ht⟩
    have:=(h.each y hy).1.1
    exact ⟨by omega,y.toL,List.mem_map_of_mem hy,ht⟩
theorem LinkL.tie0 {n:Int} {l:List QL} (h:LinkL n l):Tie l (fH (l.map QL.toL)):=h.tie (zG _) fun _=>Iff.rfl
theorem Base.valid {l:List QL} {o:List Int} (hb:Base l o):∀ x ∈ l.map QL.toL,ValidL x:=by
  intro x hx
  have:=hb.join.1
  exact (zR this).1 x hx
theorem Tie.sz {l:List QL} {o:List Int} (h:Tie l o):aF (l.map QL.toL)≤2000:=by
  have h1:=aA1 h.base.valid
  rw [List.length_map] at h1
  have:=h.len
  omega
theorem Tie.join {l:List QL} {o:List Int} (h:Tie l o):∃ s e,jnP (l.map QL.toL)=some (s,e)∧LSet s∧fH s=fH (l.map QL.toL):=by
  have h1:=h.base.join.1
  exact ⟨_,_,h1,(zR h1).2.1,aHP h1⟩
theorem aLG (c:l01Cur) (s:List Int) (hs:s.length≤9):∀ (m k:Nat) (a:List Int) (fi fh:Int),m+k=s.length→oJ ⟨c.fb,fi,fh⟩→a.Perm (s.take k) →
    ∃ (a':List Int) (fi' fh':Int),lp (kC c s) ((k:Int),a,fi,fh)=some (a',fi',fh')∧oJ ⟨c.fb,fi',fh'⟩∧a'.Perm s:=by
  intro m
  induction m with
  | zero =>
    intro k a fi fh hm hc hp
    refine ⟨a,fi,fh,aJ ?_,hc,by rw [List.take_of_length_le (by omega)] at hp;exact hp⟩
    unfold kC
    simp only []
    rw [if_neg (by omega)]
  | succ m ih =>
    intro k a fi fh hm hc hp
    have hlt:k < s.length:=by omega
    have hl:a.length=k:=by rw [hp.length_eq,List.length_take];omega
    obtain ⟨r,a1,b1,c1,d1⟩:=rA ⟨c.fb,fi,fh⟩ ((k:Int)+1) hc (by omega)
    have e1:sub a 0 r.1=some (a.take r.1.toNat):=by rw [qW _ _ _ (by omega)];simp
    have e2:sub a r.1 (a.length:Int)=some (a.drop r.1.toNat):=by
      rw [qW _ _ _ (by omega),List.take_of_length_le (by rw [List.length_drop];omega)]
    have t1:(a.take r.1.toNat).length≤9:=by rw [List.length_take];omega
    have t2:(a.drop r.1.toNat).length≤9:=by rw [List.length_drop];omega
    have st:kC c s ((k:Int),a,fi,fh)=some (.inl (((k+1:Nat):Int),a.take r.1.toNat++[s[k]]++a.drop r.1.toNat,r.2.fi,r.2.fh)):=by
      unfold kC
      simp only []
      rw [if_pos (by omega),aK hlt]
      simp only [Option.bind_some,aO]
      rw [wi (n:=(a.length:Int)+1) (by omega),hl,a1]
      simp only [Option.bind_some]
      rw [e1]
      simp only [Option.bind_some,List.nil_append,List.length_nil,Nat.zero_add]
      rw [aN (by omega)]
      simp only [Option.bind_some,aO]
      rw [aN (by omega)]
      simp only [Option.bind_some,aO]
      rw [hl] at e2
      rw [e2]
      simp only [Option.bind_some]
      rw [aN (by rw [List.length_append,List.length_singleton];omega),wi (n:=(k:Int)+1) (by omega)]
      rfl
    rw [aT st]
    refine ih (k+1) _ _ _ (by omega) (wN c1 d1) ?_
    rw [List.take_add_one,List.getElem?_eq_getElem hlt]
    have p1:(a.take r.1.toNat++[s[k]]++a.drop r.1.toNat).Perm (a++[s[k]]):=by
      rw [List.append_assoc]
      refine (List.Perm.append_left _ List.perm_append_comm).trans ?_
      rw [← List.append_assoc,List.take_append_drop]
    exact p1.trans (hp.append_right _)
theorem aLY (c:l01Cur) (h:oJ c):∃ (n:Int) (l:List QL) (o:List Int) (c':l01Cur),sB c=some (l.map QL.toL,o,c')∧oJ c'∧c'.fb=c.fb∧LinkL n l∧(1≤n∧n≤4)∧Tie l o:=by
  obtain ⟨r,a1,b1,c1,d1⟩:=rA ⟨c.fb,c.fi,c.fh⟩ 4 h (by omega)
  obtain ⟨l,c2,a2,o2,f2,hl⟩:=aN9 ⟨c.fb,r.2.fi,r.2.fh⟩ (1+r.1) (wN c1 d1) (by omega)
  obtain ⟨s,e,j1,j2,j3⟩:=hl.tie0.join
  have hz:=hl.tie0.sz
  have js:=(xL (l.map QL.toL) (by omega)).1
  rw [j1] at js
  have ns:=aGo j2
  rw [j3] at ns
  obtain ⟨o,f3,g3,a3,o3,p3⟩:=aLG c (fH (l.map QL.toL)) (zI _) _ 0 [] c2.fi c2.fh (Nat.add_zero _) (wN o2 f2) (by simp)
  refine ⟨1+r.1,l,o,⟨c.fb,f3,g3⟩,?_,o3,rfl,hl,by omega,hl.tie (p3.nodup_iff.2 (zG _)) fun u=>p3.mem_iff⟩
  unfold sB
  rw [a1];simp only [Option.bind_some]
  rw [wi (n:=1+r.1) (by omega),a2];simp only [Option.bind_some]
  rw [js];simp only [Option.bind_some,pk]
  rw [ns];simp only [Option.bind_some]
  rw [show ((0:Nat):Int)=0 from rfl] at a3
  rw [a3]
  rfl
def cG (l:List QL) (o:List Int):Tree:=⟨(eG l o o []).map NQ.toN⟩
theorem aNY (code:List Int) (h:code.length≤1048576):∃ (n:Int) (l:List QL) (o:List Int),qF code=some (cG l o)∧LinkL n l∧(1≤n∧n≤4)∧Tie l o:=by
  obtain ⟨c,e1,c1,f1⟩:=aNB code h
  obtain ⟨n,l,o,c',e2,c2,f2,hl,hn,ht⟩:=aLY ⟨c.fb,c.fi,c.fh⟩ c1
  refine ⟨n,l,o,?_,hl,hn,ht⟩
  have hz:=ht.sz
  have ho:o.length≤5:=ht.base.len
  have bq:=(aDO (l.map QL.toL) o (by omega) (by omega)).1
  rw [ht.build] at bq
  unfold qF vK
  rw [e1];simp only [Option.bind_some]
  rw [e2];simp only [Option.bind_some]
  rw [bq]
  rfl
theorem aNg (c:l01Cur) (n:Int) (h:oJ c):∀ (m:Nat) (k fi fh:Int),m+k=n→0≤k→n≤1000→oJ ⟨c.fb,fi,fh⟩→∃ fi' fh',lp (oL n c) (k,fi,fh)=some (fi',fh')∧oJ ⟨c.fb,fi',fh'⟩:=by
  intro m
  induction m with
  | zero =>
    intro k fi fh hm hk hn hc
    exact ⟨fi,fh,aJ (by unfold oL;simp only [];rw [if_neg (by omega)]),hc⟩
  | succ m ih =>
    intro k fi fh hm hk hn hc
    obtain ⟨r,a1,b1,c1,d1⟩:=aMs ⟨c.fb,fi,fh⟩ hc
    obtain ⟨f2,g2,e2,c2⟩:=ih (k+1) r.2.fi r.2.fh (by omega) (by omega) hn (wN c1 d1)
    refine ⟨f2,g2,?_,c2⟩
    rw [aT (s':=(k+1,r.2.fi,r.2.fh)),e2]
    unfold oL
    simp only []
    rw [if_pos (by omega),a1]
    simp only [Option.bind_some]
    rw [wi (n:=k+1) (by omega)]
theorem aM5 (code:List Int) (n:Int) (hn:0≤n∧n≤1000) (h:code.length≤1048576):∃ c,uD code n=some c∧oJ c:=by
  obtain ⟨c,e1,c1,f1⟩:=aNB code h
  obtain ⟨f2,g2,e2,c2⟩:=aNg c n c1 n.toNat 0 c.fi c.fh (by omega) (by omega) hn.2 c1
  refine ⟨⟨c.fb,f2,g2⟩,?_,c2⟩
  unfold uD
  rw [e1];simp only [Option.bind_some]
  rw [e2]
  rfl
theorem aOa (code:List Int) (h:code.length≤1048576):∃ k:QL,qG code=some k.toL∧LkI k∧k.b≤3:=by
  obtain ⟨c,e1,c1⟩:=aM5 code 5 (by omega) h
  obtain ⟨k,c',a1,a2,a3,a4,a5⟩:=aMj ⟨c.fb,c.fi,c.fh⟩ 3 c1 (by omega)
  refine ⟨k,?_,a4,a5⟩
  unfold qG
  rw [e1];simp only [Option.bind_some]
  rw [a1]
  rfl
end Go.Ev
/- The program alone: links, order and test of a tree (the seat lacks the other program's). -/
namespace Go.Ev
set_option linter.all false
theorem aGY (t:Tree) (h:gI t≤4294967296):jW t=some (bV t.fNodes):=by
  unfold gI jB at h
  have hl:=fT bH t.fNodes
  have hmem:∀ k (hk:k < t.fNodes.length),aF (t.fNodes[k]).fOwn≤4294967296:=fun k hk=>by
    have he:=mF (w:=bH) (List.getElem_mem hk)
    have hn:bH t.fNodes[k]=aF (t.fNodes[k]).fOwn+aS (t.fNodes[k]).fCond+aF (t.fNodes[k]).fMessages+bI (t.fNodes[k]).fEnergy:=rfl
    omega
  have hln:∀ k (hk:k < t.fNodes.length),(bV (t.fNodes.take k)).length+((t.fNodes[k]).fOwn).length≤4294967296:=fun k hk=>by
    have:=aI0 t.fNodes h (k+1)
    rw [aC8 _ _ hk,List.length_append] at this;omega
  have aux:∀ (step:(Int × (List Link))→Option ((Int × (List Link)) ⊕ (List Link))),(∀ k (hk:k < t.fNodes.length),step ((k:Int),bV (t.fNodes.take k))=some (.inl (((k+1:Nat):Int),bV (t.fNodes.take (k+1)))))→step ((t.fNodes.length:Int),bV (t.fNodes.take t.fNodes.length))=some (.inr (bV t.fNodes))→lp step (0,[])=some (bV t.fNodes):=by
    intro step h1 h2
    have main:∀ m k:Nat,m+k=t.fNodes.length→lp step ((k:Int),bV (t.fNodes.take k))=some (bV t.fNodes):=by
      intro m
      induction m with
      | zero =>
        intro k hk
        have:k=t.fNodes.length:=by omega
        subst this
        exact aJ h2
      | succ m ih =>
        intro k hk
        rw [aT (h1 k (by omega))]
        exact ih (k+1) (by omega)
    exact main t.fNodes.length 0 (by omega)
  unfold jW
  rw [aux (kQ t) (fun k hk=>by
    have:=hmem k hk
    have:=hln k hk
    unfold kQ
    simp only []
    rw [if_pos (by omega),aK hk]
    simp only [Option.bind_some]
    rw [pS _ (by omega)]
    simp only [Option.bind_some]
    rw [aN (by omega),aC8 _ _ hk,wi1 (by omega)];rfl) (by unfold kQ;simp only [];rw [if_neg (by omega),List.take_length])]
  rfl
theorem aDJ (t:Tree) (h:t.fNodes.length≤4294967296):iZ t=some (eA t):=by
  have:iZ t=some (eA t):=by
    have:=(jN (step:=nM t) t.fNodes (fun k u=>((k:Int),u)) (fun u n=>u++[n.fNode]) (fun u=>u) (fun k u=>u.length≤k) (fun k u hk hi=>by
      constructor
      · unfold nM
        simp only []
        rw [if_pos (by omega),aK hk]
        simp only [Option.bind_some,wi1 (by omega:k≤4294967296)]
        rw [aN (by omega)];rfl
      · rw [List.length_append,List.length_singleton];omega) (fun u _=>by unfold nM;simp only [];rw [if_neg (by omega)]) [] (Nat.zero_le _)).1
    rw [show ((0:Nat):Int)=0 from rfl,aBP,List.nil_append] at this
    unfold iZ
    rw [this];rfl
  exact this
theorem aID (t:Tree) (h:gI t≤4194304):rV t=some (decide (jZ t)):=by
  have h0:=h
  unfold gI jB at h
  have hl:=fT bH t.fNodes
  have ho:=aA6 t.fNodes
  have l2:=aGY t (by omega)
  have o2:=aDJ t (by omega)
  have b2:=(aDO (bV t.fNodes) (eA t) (by omega) (by unfold eA;rw [List.length_map];omega)).2
  unfold rV
  rw [l2]
  simp only [Option.bind_some,o2,b2]
  by_cases c:jZ t
  · have c':=c
    unfold jZ at c'
    rw [c',decide_eq_true c]
    simp only [pkT,if_true,aGB t t (by omega),Option.bind_some,decide_true]
  · rw [decide_eq_false c]
    cases g:mS (bV t.fNodes) (eA t) with
    | none=>simp [pkT]
    | some u =>
      have:¬t=u:=by rintro rfl;exact c g
      simp only [pkT,if_true,aGB t u (by omega),Option.bind_some,decide_eq_false this]
def xE (t:Tree):Nat→Nat→List Int
  | 0,_=>[]
  | m+1,k=>match t.fNodes[k]? with
    | none=>[]
    | some n=>n.fNode::(match atN t n.fUp with | none=>[] | some j=>xE t m j)
theorem yI {t:Tree} {m k:Nat} (hk:k < t.fNodes.length):xE t (m+1) k=(t.fNodes[k]).fNode::(match atN t (t.fNodes[k]).fUp with | none=>[] | some j=>xE t m j):=by
  rw [xE,List.getElem?_eq_getElem hk]
theorem aHH {t:Tree} (ht:jZ t):∀ (m k:Nat),t.fNodes.length≤k+m→k < t.fNodes.length→∀ acc:List Int,acc.length≤k→lp (fW t) ((k:Int),acc)=some (acc++xE t m k):=by
  obtain ⟨h9,hup⟩:=tT ht
  have endl:∀ acc:List Int,lp (fW t) (-1,acc)=some acc:=fun acc=>aJ (by unfold fW;simp only [];rw [if_neg (by omega)])
  intro m
  induction m with
  | zero=>intro k h1 h2;omega
  | succ m ih =>
    intro k hk c acc hacc
    have st:fW t ((k:Int),acc)=some (.inl ((match atN t (t.fNodes[k]).fUp with | none=>-1 | some j=>(j:Int)),acc++[(t.fNodes[k]).fNode])):=by
      unfold fW
      simp only []
      rw [if_pos (by omega),aK c]
      simp only [Option.bind_some]
      rw [aN (by omega)]
      simp only [Option.bind_some,rR,aBd t _ (by omega:t.fNodes.length≤4294967296)]
      all_goals rfl
    rw [aT st,yI c]
    cases e:atN t (t.fNodes[k]).fUp with
    | none=>exact endl _
    | some j =>
      obtain ⟨g1,g2⟩:=hup k c j e
      rw [ih j (by omega) g2 (acc++[(t.fNodes[k]).fNode]) (by rw [List.length_append,List.length_singleton];omega),List.append_assoc]
      rfl
def oV (t:Tree) (v:Int):List Int:=match atN t v with | none=>[] | some k=>xE t 9 k
theorem aLD {t:Tree} (ht:jZ t) (v:Int):uN t v=some (oV t v):=by
  obtain ⟨h9,hup⟩:=tT ht
  unfold uN oV
  rw [aBd t v (by omega)]
  simp only [Option.bind_some]
  cases a:atN t v with
  | none =>
    have:lp (fW t) (-1,[])=some []:=aJ (by unfold fW;simp only [];rw [if_neg (by omega)])
    simp [this]
  | some k =>
    have hk:k < t.fNodes.length:=by
      unfold atN at a
      rw [List.findIdx?_eq_some_iff_getElem] at a
      exact a.1
    have:=aHH ht 9 k (by omega) hk [] (Nat.zero_le _)
    simp [this]
theorem aFZ (t:Tree):∀ m k,(xE t m k).length≤m
  | 0,_=>by simp [xE]
  | m+1,k=>by
    rw [xE]
    cases t.fNodes[k]? with
    | none=>simp
    | some n =>
      simp only []
      cases atN t n.fUp with
      | none=>simp
      | some j=>have:=aFZ t m j;simp only [List.length_cons];omega
theorem aKr (t:Tree) (v:Int):(oV t v).length≤9:=by
  unfold oV
  cases atN t v with
  | none=>simp
  | some k=>exact aFZ t 9 k
theorem aCu {t:Tree} {v:Int} {k:Nat} (h:atN t v=some k):∃ hk:k < t.fNodes.length,(t.fNodes[k]).fNode=v:=by
  unfold atN at h
  rw [List.findIdx?_eq_some_iff_getElem] at h
  exact ⟨h.1,of_decide_eq_true h.2.1⟩
theorem aHJ {t:Tree} {v x:Int} (h:x ∈ oV t v):∃ n ∈ t.fNodes,n.fNode=v:=by
  unfold oV at h
  cases a:atN t v with
  | none=>rw [a] at h;cases h
  | some k =>
    obtain ⟨hk,e⟩:=aCu a
    exact ⟨_,List.getElem_mem hk,e⟩
def wZ (t:Tree) (s:List Int):List Int:=(eA t).filter (fun x=>decide (∃ y ∈ s,x ∈ oV t y))
theorem aMa (t:Tree) (s:List Int):∀ (l:List TreeNode) (u:List Int),l.foldl (fun u n=>if n.fNode ∈ s then u++oV t n.fNode else u) u=u++(l.filter (fun n=>decide (n.fNode ∈ s))).flatMap (fun n=>oV t n.fNode)
  | [],u=>by simp
  | n::l,u=>by
    rw [List.foldl_cons,aMa t s l,List.filter_cons]
    by_cases c:n.fNode ∈ s <;> simp [c]
theorem aOi {t:Tree} {s d:List Int} (h:∀ x,x ∈ d↔∃ y ∈ s,x ∈ oV t y):(eA t).filter (fun x=>decide (x ∈ d))=wZ t s:=by
  unfold wZ
  refine List.filter_congr fun x _=>?_
  rw [Bool.eq_iff_iff,decide_eq_true_iff,decide_eq_true_iff];exact h x
theorem aNK {t:Tree} (ht:jZ t) (s:List Int) (hs:s.length≤4194304):nK t s=some (wZ t s)∧(wZ t s).length≤9:=by
  have h9:=(tT ht).1
  have hl:(wZ t s).length≤9:=by
    have:=List.length_filter_le (fun x=>decide (∃ y ∈ s,x ∈ oV t y)) (eA t)
    have e:(eA t).length=t.fNodes.length:=by unfold eA;rw [List.length_map]
    unfold wZ;omega
  have second:∀ (step:(Int × (List Int))→Option ((Int × (List Int)) ⊕ (List Int))) (d:List Int),(∀ k (hk:k < t.fNodes.length) (u:List Int),u.length≤k→step ((k:Int),u)=some (.inl (((k+1:Nat):Int),if (t.fNodes[k]).fNode ∈ d then u++[(t.fNodes[k]).fNode] else u)))→(∀ u,step ((t.fNodes.length:Int),u)=some (.inr u))→(∀ x,x ∈ d↔∃ y ∈ s,x ∈ oV t y)→lp step (0,[])=some (wZ t s):=by
    intro step d h1 h2 h3
    have:=(jN (step:=step) t.fNodes (fun k u=>((k:Int),u)) (fun u n=>if n.fNode ∈ d then u++[n.fNode] else u) (fun u=>u) (fun k u=>u.length≤k) (fun k u hk hi=>by
      refine ⟨h1 k hk u hi,?_⟩
      split
      · rw [List.length_append,List.length_singleton];omega
      · omega) (fun u _=>h2 u) [] (Nat.zero_le _)).1
    rw [show ((0:Nat):Int)=0 from rfl,aIe,List.nil_append] at this
    rw [this]
    exact congrArg some (aOi h3)
  refine ⟨?_,hl⟩
  · have f1:=(jN (step:=jV t s) t.fNodes (fun k u=>((k:Int),u)) (fun u n=>if n.fNode ∈ s then u++oV t n.fNode else u) (fun u=>u) (fun k u=>u.length≤9*k) (fun k u hk hi=>by
      have q2:=aLD ht (t.fNodes[k]).fNode
      have q3:=aKr t (t.fNodes[k]).fNode
      constructor
      · unfold jV
        simp only []
        rw [if_pos (by omega),aK hk]
        simp only [Option.bind_some,aAN s _ (by omega),q2,wi1 (by omega:k≤4294967296)]
        by_cases c:(t.fNodes[k]).fNode ∈ s
        · rw [decide_eq_true c,if_pos rfl,if_pos c,aN (by omega)];rfl
        · rw [decide_eq_false c,if_neg c];rfl
      · split
        · rw [List.length_append];omega
        · omega) (fun u _=>by unfold jV;simp only [];rw [if_neg (by omega)]) [] (Nat.zero_le _))
    have f2:=f1.2
    have f1:=f1.1
    rw [show ((0:Nat):Int)=0 from rfl,aMa,List.nil_append] at f1
    rw [aMa,List.nil_append] at f2
    unfold nK
    rw [f1]
    simp only [Option.bind_some]
    rw [second (jU t ((t.fNodes.filter (fun n=>decide (n.fNode ∈ s))).flatMap (fun n=>oV t n.fNode))) ((t.fNodes.filter (fun n=>decide (n.fNode ∈ s))).flatMap (fun n=>oV t n.fNode)) (fun k hk u hu=>by
      unfold jU
      simp only []
      rw [if_pos (by omega),aK hk]
      simp only [Option.bind_some,aAN ((t.fNodes.filter (fun n=>decide (n.fNode ∈ s))).flatMap (fun n=>oV t n.fNode)) _ (by omega),wi1 (by omega:k≤4294967296)]
      by_cases c:(t.fNodes[k]).fNode ∈ (t.fNodes.filter (fun n=>decide (n.fNode ∈ s))).flatMap (fun n=>oV t n.fNode)
      · rw [decide_eq_true c,if_pos rfl,if_pos c,aN (by omega)];rfl
      · rw [decide_eq_false c,if_neg c];rfl) (fun u=>by unfold jU;simp only [];rw [if_neg (by omega)]) (fun x=>by
      rw [List.mem_flatMap]
      constructor
      · rintro ⟨n,hn,hx⟩
        exact ⟨n.fNode,of_decide_eq_true (List.mem_filter.1 hn).2,hx⟩
      · rintro ⟨y,hy,hx⟩
        obtain ⟨n,hn,e⟩:=aHJ hx
        subst e
        exact ⟨n,List.mem_filter.2 ⟨hn,by simp [hy]⟩,hx⟩)]
    rfl
end Go.Ev
/- Inserting all links, both programs, and the law. -/
namespace Go.Ev
set_option linter.all false
theorem aHu (a:Int) (c:Nat):∀ r:List Int,r.Nodup→(r.map (fun v=>if a=v then c else 0)).sum≤c
  | [],_=>Nat.zero_le _
  | v::r,h=>by
    rw [List.nodup_cons] at h
    rw [List.map_cons,List.sum_cons]
    by_cases e:a=v
    · rw [if_pos e]
      have:∀ l:List Int,v ∉ l→(l.map (fun v=>if a=v then c else 0)).sum=0:=by
        intro l
        induction l with
        | nil=>intro _;rfl
        | cons x l ih =>
          intro hx
          simp only [List.mem_cons,not_or] at hx
          rw [List.map_cons,List.sum_cons,ih hx.2,if_neg (fun e'=>hx.1 (by rw [← e,e']))]
      rw [this r h.1];omega
    · rw [if_neg e]
      have:=aHu a c r h.2
      omega
theorem aHM (o:List Int) (r:List Int) (hr:r.Nodup):∀ s:List Link,(r.map (fun v=>aF (s.filter (kY o v)))).sum≤aF s
  | []=>by
    have:∀ l:List Int,(l.map (fun v=>aF (([]:List Link).filter (kY o v)))).sum=0:=by
      intro l
      induction l with
      | nil=>rfl
      | cons x l ih=>rw [List.map_cons,List.sum_cons,ih];rfl
    rw [this];exact Nat.zero_le _
  | x::s=>by
    have ih:=aHM o r hr s
    have h1:=aHu (aQ o [x.fA,x.fB]) (bN x+1) r hr
    have e:∀ l:List Int,(l.map (fun v=>aF ((x::s).filter (kY o v)))).sum=(l.map (fun v=>if aQ o [x.fA,x.fB]=v then bN x+1 else 0)).sum+(l.map (fun v=>aF (s.filter (kY o v)))).sum:=by
      intro l
      induction l with
      | nil=>rfl
      | cons v l ih =>
        simp only [List.map_cons,List.sum_cons,ih]
        have:aF ((x::s).filter (kY o v))=(if aQ o [x.fA,x.fB]=v then bN x+1 else 0)+aF (s.filter (kY o v)):=by
          rw [List.filter_cons]
          unfold kY
          by_cases c:aQ o [x.fA,x.fB]=v
          · rw [if_pos (by simpa using c),if_pos c];unfold aF;rw [lF]
          · rw [if_neg (by simpa using c),if_neg c];omega
        omega
    rw [e]
    have:aF (x::s)=bN x+1+aF s:=by unfold aF;rw [lF]
    omega
theorem zE:∀ b:List TreeNode,aF (bV b)=(b.map (fun n=>aF n.fOwn)).sum
  | []=>rfl
  | n::b=>by
    have e:bV (n::b)=n.fOwn++bV b:=by simp [bV]
    rw [e,aGv,zE b,List.map_cons,List.sum_cons]
theorem aLa {s:List Link} {o:List Int} {b:List TreeNode} (hn:o.Nodup) (h:oD s o o []=some b):aF (bV b)≤aF s:=by
  obtain ⟨h1,h2⟩:=yB o [] b (by simp) h
  simp only [List.map_nil,List.nil_append] at h2
  rw [zE]
  have e:b.map (fun n=>aF n.fOwn)=b.map (fun n=>aF (s.filter (kY o n.fNode))):=List.map_congr_left fun n hn=>by rw [(h1 n hn).2.1]
  have e2:b.map (fun n=>aF (s.filter (kY o n.fNode)))=o.map (fun v=>aF (s.filter (kY o v))):=by rw [← h2,List.map_map];rfl
  rw [e,e2]
  exact aHM o o hn s
theorem aHr {s:List Link} {o:List Int}:∀ {b:List TreeNode},(∀ n ∈ b,NodeOk s o n)→szL bH b≤aF (bV b)+51425*b.length
  | [],_=>Nat.zero_le _
  | n::b,h=>by
    have ih:=aHr (b:=b) (fun m hm=>h m (by simp [hm]))
    have hn:=h n (by simp)
    have h1:=hn.1.sz
    have h3:=oH (.inl hn.2.2.2.1)
    have h4:=hn.2.2.1
    have e:aF (bV (n::b))=aF n.fOwn+aF (bV b):=by rw [zE,zE,List.map_cons,List.sum_cons]
    have e2:bH n=aF n.fOwn+aS n.fCond+aF n.fMessages+bI n.fEnergy:=rfl
    rw [lF,List.length_cons,e,e2]
    omega
theorem aJs {s:List Link} {o:List Int} {u:Tree} (h:mS s o=some u):aF (bV u.fNodes)≤aF s∧gI u≤aF s+462825:=by
  unfold mS at h
  cases hj:jnP s with
  | none=>rw [hj] at h;cases h
  | some x =>
    rw [hj,Option.bind_some] at h
    by_cases c:isOrd x.1 o
    · rw [if_pos c] at h
      cases g:oD s o o [] with
      | none=>rw [g] at h;cases h
      | some b =>
        rw [g] at h
        obtain rfl:=Option.some.inj h
        have h1:=aLa c.1 g
        obtain ⟨k1,k2⟩:=yB o [] b (by simp) g
        have h2:=aHr k1
        have hl:b.length=o.length:=by have:=congrArg List.length k2;simpa using this
        have h9:=(aAL c).1
        refine ⟨h1,?_⟩
        show szL bH b≤_
        have:51425*b.length≤51425*9:=Nat.mul_le_mul (Nat.le_refl _) (by omega)
        omega
    · rw [if_neg c] at h;cases h
end Go.Ev
/- What is built on tied links is a tree. -/
namespace Go.Ev
set_option linter.all false
theorem aIf {α:Type} {f g:Int→List α}:∀ {r:List Int},(∀ u ∈ r,f u=g u)→r.flatMap f=r.flatMap g
  | [],_=>rfl
  | u::r,h=>by rw [List.flatMap_cons,List.flatMap_cons,h u (by simp),aIf fun w hw=>h w (by simp [hw])]
theorem aF0 {α:Type} (f:α→Int):∀ (o:List Int) (l:List α),o.Nodup→(∀ x ∈ l,f x ∈ o)→(o.flatMap fun v=>l.filter fun x=>decide (f x=v)).Perm l
  | [],l,_,h=>by
    cases l with
    | nil=>exact List.Perm.refl _
    | cons x l=>exact absurd (h x (by simp)) (by simp)
  | v::r,l,hn,h=>by
    rw [List.nodup_cons] at hn
    rw [List.flatMap_cons]
    have e:(r.flatMap fun u=>l.filter fun x=>decide (f x=u))=r.flatMap fun u=>(l.filter fun x=>!decide (f x=v)).filter fun x=>decide (f x=u):=by
      refine aIf fun u hu=>?_
      rw [List.filter_filter]
      refine List.filter_congr fun x _=>?_
      by_cases c:f x=u
      · have:f x≠v:=fun e=>hn.1 (by rw [← e,c];exact hu)
        rw [decide_eq_true c,decide_eq_false this];rfl
      · rw [decide_eq_false c];rfl
    rw [e]
    have ih:=aF0 f r (l.filter fun x=>!decide (f x=v)) hn.2 (fun x hx=>by
      rw [List.mem_filter] at hx
      have h1:=h x hx.1
      have h2:f x≠v:=by simpa using hx.2
      exact (List.mem_cons.1 h1).resolve_left h2)
    exact (List.Perm.append_left _ ih).trans (List.filter_append_perm _ l)
theorem aAz {α:Type} (f:α→Int) (l:List α) (v:Int):∀ o:List Int,o.Nodup→v ∈ o→((o.flatMap fun u=>l.filter fun x=>decide (f x=u)).filter fun x=>decide (f x=v))=l.filter fun x=>decide (f x=v)
  | w::r,hn,hv=>by
    rw [List.nodup_cons] at hn
    rw [List.flatMap_cons,List.filter_append]
    have none:∀ s:List Int,v ∉ s→((s.flatMap fun u=>l.filter fun x=>decide (f x=u)).filter fun x=>decide (f x=v))=[]:=by
      intro s hs
      rw [List.filter_eq_nil_iff]
      intro x hx
      obtain ⟨u,hu,hx⟩:=List.mem_flatMap.1 hx
      have:=of_decide_eq_true (List.mem_filter.1 hx).2
      intro e
      have:=of_decide_eq_true e
      have e3:v=u:=by omega
      exact hs (e3 ▸ hu)
    by_cases c:v=w
    · subst c
      rw [none r hn.1,List.append_nil,List.filter_filter]
      refine List.filter_congr fun x _=>?_
      simp
    · have e:((l.filter fun x=>decide (f x=w)).filter fun x=>decide (f x=v))=[]:=by
        rw [List.filter_eq_nil_iff]
        intro x hx e
        have h1:=of_decide_eq_true (List.mem_filter.1 hx).2
        have h2:=of_decide_eq_true e
        exact c (by omega)
      rw [e,List.nil_append]
      exact aAz f l v r hn.2 ((List.mem_cons.1 hv).resolve_left c)
theorem aCY (l:List QL) (o:List Int):∀ (r:List Int) (b:List NQ),(eG l o r b).map (fun n=>n.node)=b.map (fun n=>n.node)++r
  | [],b=>by simp [eG]
  | v::r,b=>by
    rw [eG,aCY l o r]
    simp only [List.map_append,List.map_cons,List.map_nil,List.append_assoc,List.singleton_append]
    rfl
theorem aFL (l:List QL) (o:List Int):∀ (r:List Int) (b:List NQ),(eG l o r b).flatMap (fun n=>n.own)=b.flatMap (fun n=>n.own)++r.flatMap fun v=>l.filter (oK o v)
  | [],b=>by simp [eG]
  | v::r,b=>by
    rw [eG,aFL l o r,List.flatMap_append,List.flatMap_cons,List.flatMap_nil,List.append_nil,List.flatMap_cons,List.append_assoc]
    rfl
theorem aCZ {l l':List QL} {o:List Int}:∀ (r:List Int) (b:List NQ),(∀ v ∈ r,l'.filter (oK o v)=l.filter (oK o v))→eG l' o r b=eG l o r b
  | [],b,_=>rfl
  | v::r,b,h=>by
    have e:nxt l' o v b=nxt l o v b:=by unfold nxt;rw [h v (by simp)]
    rw [eG,eG,e]
    exact aCZ r _ fun u hu=>h u (by simp [hu])
def pX (l:List QL) (o:List Int):List QL:=o.flatMap fun v=>l.filter (oK o v)
theorem Tie.owner {l:List QL} {o:List Int} (h:Tie l o):∀ x ∈ l,aQ o [x.a,x.b] ∈ o:=by
  intro x hx
  have hb:=h.base
  have hbm:x.b ∈ o:=(h.mem _).2 ⟨by have:=(h.lk x hx).1;omega,x,hx,.inr rfl⟩
  rcases aAO (s:=[x.a,x.b]) (fun u hu=>(hb.h1 u hu).1) with ⟨_,h4⟩ | ⟨p,v,r,e,h2,h3,h4⟩
  · exact absurd (by simp) (h4 _ hbm)
  · rw [h2,e];simp
theorem Tie.inPerm {l:List QL} {o:List Int} (h:Tie l o):(pX l o).Perm l:=aF0 (fun x:QL=>aQ o [x.a,x.b]) o l h.nd h.owner
theorem Tie.inTie {l:List QL} {o:List Int} (h:Tie l o):Tie (pX l o) o:=h.perm h.inPerm (List.Perm.refl _)
theorem Tie.inTree {l:List QL} {o:List Int} (h:Tie l o):cG (pX l o) o=cG l o:=by
  unfold cG
  have e:eG (pX l o) o o []=eG l o o []:=aCZ o [] fun v hv=>aAz (fun x:QL=>aQ o [x.a,x.b]) l v o h.nd hv
  rw [e]
theorem aLF:∀ b:List NQ,bV (b.map NQ.toN)=(b.flatMap fun n=>n.own).map QL.toL:=by
  intro b
  unfold bV
  induction b with
  | nil=>rfl
  | cons n b ih =>
    rw [List.flatMap_cons,List.map_append,← ih];rfl
theorem yV (l:List QL) (o:List Int):bV (cG l o).fNodes=(pX l o).map QL.toL:=by
  unfold cG
  simp only []
  rw [aLF,aFL,List.flatMap_nil,List.nil_append]
  rfl
theorem yW (l:List QL) (o:List Int):eA (cG l o)=o:=by
  unfold eA cG
  simp only [List.map_map]
  have:=aCY l o o []
  rw [List.map_nil,List.nil_append] at this
  exact this
theorem Tie.isTree {l:List QL} {o:List Int} (h:Tie l o):jZ (cG l o):=by
  unfold jZ
  rw [yV,yW,h.inTie.build]
  exact congrArg some h.inTree
theorem Tie.tsz {l:List QL} {o:List Int} (h:Tie l o):gI (cG l o)≤470000:=by
  have hz:=h.sz
  have:=(aJs h.build).2
  unfold cG
  omega
theorem aK8 {t:Tree} (ht:jZ t):(eA t).Nodup∧(∀ u ∈ eA t,1≤u)∧∀ n ∈ t.fNodes,n.fUp≠0→n.fUp ∈ eA t:=by
  unfold jZ mS at ht
  cases h:jnP (bV t.fNodes) with
  | none=>rw [h] at ht;cases ht
  | some x =>
    rw [h,Option.bind_some] at ht
    by_cases c:isOrd x.1 (eA t)
    · rw [if_pos c] at ht
      obtain ⟨l9,h1⟩:=aAL c
      cases g:oD (bV t.fNodes) (eA t) (eA t) [] with
      | none=>rw [g] at ht;cases ht
      | some b =>
        rw [g] at ht
        have hb : b = t.fNodes := by have : Tree.mk b = t := by simpa using ht
                                     rw [← this]
        subst hb
        have hp:=(yB (eA t) [] t.fNodes (by simp) g).1
        refine ⟨c.1,h1,fun n hn h0=>?_⟩
        have hu:n.fUp=aQ (eA t) (uW n.fCond):=(hp n hn).2.2.2.2
        exact (tM hu.symm h0).2
    · rw [if_neg c] at ht;cases ht
end Go.Ev
