/- Parts QM, QN, QO, QP, QR, QT, QU, PG1, VA, PS1, PS2, PS3, PT1, P22b, PT2, VB, VC, PT3, VD, VE, PT4, VF, VG, VH, VI, VJ, VK, VP. -/
import Derived.Test.YtachfjpemagdiaaGreatPb3
import Derived.Test.YtachfjpemagdiaaGreatPa1
import Derived.Test.YtachfjpemagdiaaGreatLd
import Derived.Test.YtachfjpemagdiaaGreatPb1
import Derived.Test.YtachfjpemagdiaaGreatPb2
set_option linter.all false
/- A node of a tree: the program computes what is computed over the rational numbers. -/
namespace Go.Ev
set_option linter.all false
theorem Front.restLk {D X:Nat} {V:List Int} {v:Int} {s:List QL} (h:Front D X V v s):∀ x ∈ xC v s,Lk D X x:=fun x hx=>(h.lk x (aB6.1 hx).1).1
theorem Front.armLen {D X:Nat} {V:List Int} {v:Int} {s:List QL} (h:Front D X V v s):(bT v s).length≤V.length - 1:=by
  have ha:=h.arms
  have n:((bT v s).map fun x=>x.a).Nodup:=by
    rw [List.Nodup,List.pairwise_map]
    exact ha.inc.imp fun {x y} hxy e=>by omega
  have:=n.length_le_of_subset (l₂:=V.erase v) (fun z hz=>by
    obtain ⟨x,hx,rfl⟩:=List.mem_map.1 hz
    exact (h.hV.mem_erase_iff).2 ⟨(h.armV x hx).2,(h.armV x hx).1⟩)
  rw [List.length_map,List.length_erase_of_mem h.hv] at this
  exact this
theorem Front.sumFits {D T X:Nat} {V:List Int} {v:Int} {s:List QL} (h:Front D X V v s) (r:Room D T V.length) (hT:0 < T) {q:Q} (hq:Dv T q) (h0:0≤q) (hq2:q≤((10 ^ 8:Nat):Q)) :
    dA ((q - sm enQ s)+(bO (kB v s) [] 0).2):=by
  obtain ⟨g1,g2,g3,g4,g5⟩:=h.nextIn r
  obtain ⟨n1,n2⟩:=h.next rfl
  have ha:=h.arms
  obtain ⟨a1,a2⟩:=ha.nN
  have hDN:D*nm D (sm wt (bT v s))≤D*(72*D):=Nat.mul_le_mul_left _ a2
  have hD':0 < D*nm D (sm wt (bT v s)):=Nat.mul_pos h.hD a1
  have hw:=h.hw
  have hX:=h.hX
  have hD:=h.hD
  have es:=aAo enQ v (fun l=>aM7 v l) s
  have ew:=aAo wt v (fun l=>aDM v l) s
  have wr:=nX h.restLk
  have wa:=nX h.armLk
  have en1:sm enQ (kB v s)=sm enQ (xC v s)+sm enQ (sN (sm wt (bT v s)) (bT v s)):=yW _ _ _
  have mk:∀ z ∈ sN (sm wt (bT v s)) (bT v s),Lk (D*nm D (sm wt (bT v s))) (2*X) z:=fun z hz=>(ha.each hz).2.2.1
  have wm:=ha.mesh_le
  obtain ⟨b1,b2⟩:=uO h.armLk (by omega) ha.hw
  obtain ⟨b3,b4⟩:=uO mk (by omega) (by have:=ha.hw;grind)
  obtain ⟨b5,b6⟩:=uO (fun x hx=>(g2 x hx).1) (by omega) (by rw [g5];grind)
  have e:(q - sm enQ s)+(bO (kB v s) [] 0).2=q - sm enQ (bT v s)+sm enQ (sN (sm wt (bT v s)) (bT v s)) - sm enQ (bO (kB v s) [] 0).1:=by
    rw [g4,en1,es];grind
  have d1:Dv (D*nm D (sm wt (bT v s))*pn D (bT v s)) (sm enQ (bT v s)):=by
    refine yB (aFc h.hD fun x hx=>(h.armLk x hx).sc) ?_
    rw [Nat.mul_right_comm]
    exact Nat.dvd_mul_right _ _
  have d2:Dv (D*nm D (sm wt (bT v s))*pn D (bT v s)) (sm enQ (sN (sm wt (bT v s)) (bT v s))):=aIm fun z hz=>(ha.each hz).2.2.2.1
  have d3:Dv (D*nm D (sm wt (bT v s))*pn (D*nm D (sm wt (bT v s))) (bO (kB v s) [] 0).1) (sm enQ (bO (kB v s) [] 0).1):=aFc hD' fun x hx=>(g2 x hx).1.sc
  have d1':=vE (pn (D*nm D (sm wt (bT v s))) (bO (kB v s) [] 0).1) d1
  have d2':=vE (pn (D*nm D (sm wt (bT v s))) (bO (kB v s) [] 0).1) d2
  have d3':=vE (pn D (bT v s)) d3
  rw [Nat.mul_right_comm] at d3'
  have up:∀ {U:Nat} {p:Q},Dv U p→Dv (T*U) p:=fun hp=>by rw [Nat.mul_comm];exact vE T hp
  have d:=zZ (qB (zZ (vE (D*nm D (sm wt (bT v s))*pn D (bT v s)*pn (D*nm D (sm wt (bT v s))) (bO (kB v s) [] 0).1) hq) (up d1')) (up d2')) (up d3')
  rw [e]
  have p1:pn D (bT v s)≤(72*D) ^ (V.length - 1):=Nat.le_trans (aFP (W:=72) h.hD (fun x hx=>(h.armLk x hx).sc) (fun x hx=>ha.le hx)) (Nat.pow_le_pow_right (by omega) h.armLen)
  have p2:pn (D*nm D (sm wt (bT v s))) (bO (kB v s) [] 0).1≤(72*(D*(72*D))) ^ tri (V.length - 1):=by
    have l1:=aDH (h.hV.erase v) g3 (fun x hx=>(g2 x hx).2)
    rw [List.length_erase_of_mem h.hv] at l1
    have l2:=aCu (K:=V.length - 1) (by have:=r.k6;omega)
    have l3:=aFP (W:=72) hD' (fun x hx=>(g2 x hx).1.sc) (fun x hx=>by
      have:=vN (fun y hy=>(g2 y hy).1) hx
      show x.w≤72;grind)
    exact Nat.le_trans l3 (Nat.le_trans (Nat.pow_le_pow_right (by omega) (by omega)) (Nat.pow_le_pow_left (Nat.mul_le_mul_left _ hDN) _))
  have q1:0 < pn D (bT v s):=aCD h.hD fun x hx=>(h.armLk x hx).sc
  have q2:0 < pn (D*nm D (sm wt (bT v s))) (bO (kB v s) [] 0).1:=aCD hD' fun x hx=>(g2 x hx).1.sc
  have c4:((4*10 ^ 8:Nat):Q)=4*((10 ^ 8:Nat):Q):=_root_.Rat.natCast_mul 4 (10 ^ 8)
  have c5:=aBD (10 ^ 8)
  refine aGV (B:=4*10 ^ 8) (Nat.mul_pos hT (Nat.mul_pos (Nat.mul_pos hD' q1) q2)) d ?_ ?_ (by omega) (Nat.lt_of_le_of_lt (Nat.mul_le_mul_left _ (Nat.mul_le_mul_left T (Nat.mul_le_mul (Nat.mul_le_mul hDN p1) p2))) r.c3)
  · rw [c4];grind
  · rw [c4];grind
theorem aNT {order:List Int} {v:Int} {own:List QL} {b:List NQ} {T X:Nat} {V:List Int} (h:Inc (aDD v b) T X V v (own++tB v b)) :
    qM order v (own.map QL.toL) (b.map NQ.toN)=some (aB4 order v own b).toN∧dA (aB4 order v own b).enQ∧0 < (aB4 order v own b).den∧(aB4 order v own b).den≤aDD v b*(72*aDD v b) ∧
    (∀ x ∈ (aB4 order v own b).msgs,Lk (aB4 order v own b).den (2*X) x∧inV (V.erase v) x)∧(aB4 order v own b).msgs.Pairwise dE∧sm wt (aB4 order v own b).msgs≤sm wt (own++tB v b):=by
  obtain ⟨j1,j2,j3,j4⟩:=h.join
  obtain ⟨g1,g2,g3,g4,g5⟩:=j2.nextIn h.room
  obtain ⟨n1,n2⟩:=j2.next rfl
  have ha:=j2.arms
  obtain ⟨a1,a2⟩:=ha.nN
  obtain ⟨e1,f1,f2⟩:=aN2 h.fo j1
  have e2:=aN3 f1 ha
  obtain ⟨e3,f3,f4⟩:=aN2 (fun x hx=>⟨(n1 x hx).2.2.2.1,(n1 x hx).2.2.2.2⟩) g1
  obtain ⟨s1,s2⟩:=uO (fun x hx=>(h.lk x hx).1) (by have:=h.hX;omega) h.hw
  have f5:=j2.sumFits h.room h.hT (aIm fun x hx=>(h.lk x hx).2.2) s1 s2
  rw [← j3] at f5
  refine ⟨?_,f5,Nat.mul_pos h.hD a1,Nat.mul_le_mul_left _ a2,g2,g3,?_⟩
  · unfold qM
    rw [aNt,← List.map_append,e1]
    simp only [Option.bind_some]
    unfold aCz
    rw [e2]
    simp only [Option.bind_some]
    rw [aLf,← List.map_append]
    have e4:xC v (bO (own++tB v b) [] 0).1++sN (sm wt (bT v (bO (own++tB v b) [] 0).1)) (bT v (bO (own++tB v b) [] 0).1)=kB v (bO (own++tB v b) [] 0).1:=rfl
    rw [e4,e3]
    simp only [Option.map_some,Option.bind_some]
    rw [aG8 f2 f4 f5,if_pos (uV f5),aPj]
    rfl
  · show sm wt (bO (kB v (bO (own++tB v b) [] 0).1) [] 0).1≤_
    rw [g5,← j4]
    exact n2
end Go.Ev
/- First in an order; products; room by numbers. -/
namespace Go.Ev
set_option linter.all false
theorem aCk {o s:List Int} (h1:∀ u ∈ o,1≤u):(aY o s=0∧∀ u ∈ o,u ∉ s)∨∃ p v r,o=p++v::r∧aY o s=v∧v ∈ s∧∀ u ∈ p,u ∉ s:=by
  unfold aY
  cases h:o.find? (fun u=>decide (u ∈ s)) with
  | none =>
    refine .inl ⟨rfl,fun u hu hs=>?_⟩
    have:=List.find?_eq_none.1 h u hu
    simp [hs] at this
  | some v =>
    obtain ⟨hv,p,r,e,hp⟩:=List.find?_eq_some_iff_append.1 h
    exact .inr ⟨p,v,r,e,rfl,of_decide_eq_true hv,fun u hu hs=>by have:=hp u hu;simp [hs] at this⟩
theorem aF6 {p r s:List Int} (h:∀ u ∈ p,u ∉ s):aY (p++r) s=aY r s:=by
  unfold aY
  rw [List.find?_append]
  have:p.find? (fun u=>decide (u ∈ s))=none:=List.find?_eq_none.2 fun u hu=>by simp [h u hu]
  rw [this];rfl
theorem aL3 {v:Int} {r s:List Int} (h:v ∈ s):aY (v::r) s=v:=by
  unfold aY
  rw [List.find?_cons]
  simp [h]
theorem uM {p r s:List Int} {v:Int} (hn:(p++v::r).Nodup) (h1:∀ u ∈ p++v::r,1≤u):aY (p++v::r) s=v↔v ∈ s∧∀ u ∈ p,u ∉ s:=by
  constructor
  · intro h
    rcases aCk (s:=s) h1 with ⟨h2,h3⟩ | ⟨p',v',r',e,h2,h3,h4⟩
    · have:=h1 v (by simp);omega
    · rw [h] at h2
      subst h2
      have hp:p=p':=by
        have n2:=hn
        rw [e] at n2
        have a1:=List.nodup_append.1 hn
        have a2:=List.nodup_append.1 n2
        have b1:v ∉ p:=fun hv=>a1.2.2 v hv v (by simp) rfl
        have b2:v ∉ p':=fun hv=>a2.2.2 v hv v (by simp) rfl
        have c1:(p++v::r).takeWhile (fun u=>decide (u≠v))=p:=by
          rw [List.takeWhile_append_of_pos (fun u hu=>by have:u≠v:=fun e=>b1 (e ▸ hu);simpa using this)]
          simp
        have c2:(p'++v::r').takeWhile (fun u=>decide (u≠v))=p':=by
          rw [List.takeWhile_append_of_pos (fun u hu=>by have:u≠v:=fun e=>b2 (e ▸ hu);simpa using this)]
          simp
        rw [← c1,e,c2]
      subst hp
      exact ⟨h3,h4⟩
  · rintro ⟨h2,h3⟩
    rw [aF6 h3,aL3 h2]
theorem aH1 {p r s:List Int} (h1:∀ u ∈ p++r,1≤u) (h:∀ u ∈ p,u ∉ s):(aY (p++r) s=0∧∀ u ∈ r,u ∉ s)∨(aY (p++r) s ∈ r∧aY (p++r) s ∈ s):=by
  rw [aF6 h]
  rcases aCk (s:=s) (fun u hu=>h1 u (List.mem_append_right p hu)) with h | ⟨p',v,r',e,h2,h3,_⟩
  · exact .inl h
  · exact .inr (by rw [h2];exact ⟨by rw [e];simp,h3⟩)
theorem yG {α:Type} {f:α→Nat}:∀ {l:List α},(∀ x ∈ l,0 < f x)→0 < eP f l
  | [],_=>by simp [eP]
  | x::l,h=>Nat.mul_pos (h x (by simp)) (yG fun y hy=>h y (by simp [hy]))
theorem aCB {α:Type} {f:α→Nat}:∀ {l:List α} {x:α},x ∈ l→f x ∣ eP f l
  | y::l,x,h=>by
    rw [eP]
    rcases List.mem_cons.1 h with rfl | h
    · exact Nat.dvd_mul_right _ _
    · exact Nat.dvd_trans (aCB h) (Nat.dvd_mul_left _ _)
theorem aFO {α:Type} (f:α→Nat):∀ a b:List α,eP f (a++b)=eP f a*eP f b
  | [],b=>by simp [eP]
  | x::a,b=>by rw [List.cons_append,eP,eP,aFO f a b,Nat.mul_assoc]
theorem aHu {α:Type} {f g:α→Nat}:∀ {l:List α},(∀ x ∈ l,f x≤g x)→eP f l≤eP g l
  | [],_=>Nat.le_refl _
  | x::l,h=>Nat.mul_le_mul (h x (by simp)) (aHu fun y hy=>h y (by simp [hy]))
theorem aFN {α:Type} (f:α→Nat) (k:Nat):∀ l:List α,eP (fun x=>f x ^ k) l=eP f l ^ k
  | []=>by simp [eP]
  | x::l=>by rw [eP,eP,aFN f k l,Nat.mul_pow]
theorem aEk {α:Type} (f:α→Nat):∀ l:List α,l≠[]→72*eP f l≤eP (fun x=>72*f x) l
  | [x],_=>by simp [eP]
  | x::y::l,_=>by
    have:=aEk f (y::l) (by simp)
    rw [eP,eP,← Nat.mul_assoc]
    refine Nat.mul_le_mul_left _ (Nat.le_trans ?_ this)
    exact Nat.le_mul_of_pos_left _ (by omega)
theorem aC1 {α:Type} (f:α→Nat) (p:α→Bool):∀ l:List α,eP f l=eP f (l.filter p)*eP f (l.filter fun x=>!p x)
  | []=>rfl
  | x::l=>by
    rw [List.filter_cons,List.filter_cons,eP,aC1 f p l]
    cases p x
    · simp only [Bool.false_eq_true,if_false,Bool.not_false,if_true,eP]
      rw [Nat.mul_left_comm]
    · simp only [if_true,Bool.not_true,Bool.false_eq_true,if_false,eP,Nat.mul_assoc]
def ex (k:Nat):Nat:=72 ^ 2 ^ k
theorem aKV:∀ a b:Nat,a≤b→b≤6→tri a≤tri b:=by
  have:∀ b,b≤6→∀ a,a≤b→tri a≤tri b:=by decide
  exact fun a b h g=>this b g a h
theorem aMN {D T K k:Nat} (hD:0 < D) (hk:K+k≤6) (hK:2≤K) (h1:72*D≤ex k) (h2:T≤ex k ^ (tri K+1)):Room D T K:=by
  have hF:0 < ex k:=by unfold ex;exact Nat.pow_pos (by omega)
  have hk4:k≤4:=by omega
  have k6:K≤6:=by omega
  have d0:D≤ex k:=by omega
  have m1:72*(D*(72*D))≤ex k*ex k:=by rw [← Nat.mul_assoc];exact Nat.mul_le_mul h1 h1
  have m2:D*(72*D)≤ex k*ex k:=Nat.mul_le_mul d0 h1
  have e1:T*(D*(72*D) ^ tri K)≤ex k ^ (tri K+1)*(ex k*ex k ^ tri K):=Nat.mul_le_mul h2 (Nat.mul_le_mul d0 (Nat.pow_le_pow_left h1 _))
  have e2:(D*(72*D))*(72*D) ^ tri K*((D*(72*D))*(72*(D*(72*D))) ^ tri (K - 1))≤(ex k*ex k)*ex k ^ tri K*((ex k*ex k)*(ex k*ex k) ^ tri (K - 1)) :=
    Nat.mul_le_mul (Nat.mul_le_mul m2 (Nat.pow_le_pow_left h1 _)) (Nat.mul_le_mul m2 (Nat.pow_le_pow_left m1 _))
  have e3:T*((D*(72*D))*(72*D) ^ (K - 1)*(72*(D*(72*D))) ^ tri (K - 1))≤ex k ^ (tri K+1)*((ex k*ex k)*ex k ^ (K - 1)*(ex k*ex k) ^ tri (K - 1)) :=
    Nat.mul_le_mul h2 (Nat.mul_le_mul (Nat.mul_le_mul m2 (Nat.pow_le_pow_left h1 _)) (Nat.pow_le_pow_left m1 _))
  have num:∀ k,k≤4→∀ K,K≤6 - k→2≤K→ex k≤PP∧10 ^ 8*(ex k ^ (tri K+1)*(ex k*ex k ^ tri K)) < 10 ^ 216∧(K≤2∨(ex k*ex k≤PP∧10 ^ 8*((ex k*ex k)*ex k ^ tri K*((ex k*ex k)*(ex k*ex k) ^ tri (K - 1))) < 10 ^ 216))∧4*10 ^ 8*(ex k ^ (tri K+1)*((ex k*ex k)*ex k ^ (K - 1)*(ex k*ex k) ^ tri (K - 1))) < 10 ^ 216:=by
    unfold ex PP;decide
  obtain ⟨n1,n2,n3,n4⟩:=num k hk4 K (by omega) hK
  rw [← aMB] at n2 n3 n4
  refine ⟨k6,Nat.le_trans h1 n1,Nat.lt_of_le_of_lt (Nat.mul_le_mul_left _ e1) n2,?_,Nat.lt_of_le_of_lt (Nat.mul_le_mul_left _ e3) n4⟩
  rcases n3 with n3 | ⟨n3,n5⟩
  · exact .inl n3
  · exact .inr ⟨Nat.le_trans m1 n3,Nat.lt_of_le_of_lt (Nat.mul_le_mul_left _ e2) n5⟩
end Go.Ev
/- Trees over the rational numbers: the front of the next node. -/
namespace Go.Ev
set_option linter.all false
def uT (o:List Int) (v:Int) (x:QL):Bool:=decide (aY o [x.a,x.b]=v)
def psN (c:CQ):List Int:=c.ps.map (·.node)
structure Base (l:List QL) (o:List Int):Prop where
  nd:o.Nodup
  h1:∀ u ∈ o,1≤u∧u≤9
  len:o.length≤5
  lk:∀ x ∈ l,Lk 1 20 x∧inV (0::o) x∧Dv 1 (enQ x)
  hw:sm wt l≤72
def wG (rem:List Int) (c:NQ):Bool:=decide (c.up ∈ rem)
def kid (v:Int) (c:NQ):Bool:=decide (c.up=v)
def ex' (k:Nat):Nat:=if k=0 then 1 else ex k
theorem aL5 (k:Nat):ex' k≤ex k:=by
  unfold ex'
  split
  · exact Nat.pow_pos (by omega)
  · exact Nat.le_refl _
def aKO (l:List QL) (o rem:List Int) (b:List NQ) (u w:Int):Prop :=
  (∃ x ∈ l,aY o [x.a,x.b] ∈ rem∧((x.a=u∧x.b=w)∨(x.a=w∧x.b=u)))∨∃ c ∈ b,c.up ∈ rem∧u ∈ psN c.cond∧w ∈ psN c.cond
def rK (b:List NQ):List QL:=b.flatMap (·.msgs)
structure TInv (l:List QL) (o pre rem:List Int) (b:List NQ):Prop where
  split:o=pre++rem
  len:b.length=pre.length
  den:∀ c ∈ b,c.up ∈ rem→0 < c.den
  msg:∀ c ∈ b,c.up ∈ rem→(∀ x ∈ c.msgs,Lk c.den (20*2 ^ b.length) x)∧c.msgs.Pairwise dE
  ps:∀ c ∈ b,c.up ∈ rem→(∀ u ∈ psN c.cond,u ∈ 0::rem)∧c.up=aY o (psN c.cond)∧(∀ x ∈ c.msgs,x.a ∈ psN c.cond∧x.b ∈ psN c.cond∧x.a < x.b)∧∀ u ∈ psN c.cond,∀ w ∈ psN c.cond,u < w→∃ x ∈ c.msgs,x.a=u∧x.b=w
  prod:eP (fun c:NQ=>72*c.den) (b.filter (wG rem))≤ex' b.length
  wtt:sm wt (rK (b.filter (wG rem)))+sm wt (l.filter fun x=>decide (aY o [x.a,x.b] ∈ rem))≤72
  cut:∀ S:Int→Prop,(∃ u ∈ rem,S u)→¬S 0→∃ u w,S u∧¬S w∧aKO l o rem b u w
theorem aF4 {pre rem s:List Int} (hn:(pre++rem).Nodup) (h1:∀ u ∈ pre++rem,1≤u) (h:aY (pre++rem) s ∈ rem):∀ u ∈ pre,u ∉ s:=by
  obtain ⟨r1,r2,e⟩:=List.append_of_mem h
  have e2:pre++rem=(pre++r1)++aY (pre++rem) s::r2:=(congrArg (pre++·) e).trans (List.append_assoc pre r1 _).symm
  generalize hw:aY (pre++rem) s=w at e e2
  rw [e2] at hw hn h1
  have:=(uM hn h1).1 hw
  exact fun u hu=>this.2 u (List.mem_append_left _ hu)
theorem aD2 (f:QL→Q) (p:QL→Bool):∀ l:List QL,sm f l=sm f (l.filter p)+sm f (l.filter fun x=>!p x)
  | []=>by simp only [List.filter_nil,sm];grind
  | x::l=>by
    have ih:=aD2 f p l
    rw [List.filter_cons,List.filter_cons,sm]
    cases p x
    · simp only [Bool.false_eq_true,if_false,Bool.not_false,if_true,sm];grind
    · simp only [if_true,Bool.not_true,Bool.false_eq_true,if_false,sm];grind
theorem aEu (f:QL→Q) (p:NQ→Bool):∀ b:List NQ,sm f (rK b)=sm f (rK (b.filter p))+sm f (rK (b.filter fun x=>!p x))
  | []=>by simp only [rK,List.filter_nil,List.flatMap_nil,sm];grind
  | x::b=>by
    have ih:=aEu f p b
    unfold rK at ih ⊢
    rw [List.filter_cons,List.filter_cons,List.flatMap_cons,yW,ih]
    cases p x
    · simp only [Bool.false_eq_true,if_false,Bool.not_false,if_true,List.flatMap_cons,yW];grind
    · simp only [if_true,Bool.not_true,Bool.false_eq_true,if_false,List.flatMap_cons,yW];grind
theorem aHL {v:Int} {r:List Int} (b:List NQ):(b.filter (wG (v::r))).filter (kid v)=b.filter (kid v):=by
  rw [List.filter_filter]
  refine List.filter_congr fun c _=>?_
  unfold wG kid
  by_cases e:c.up=v <;> simp [e]
theorem aFZ {v:Int} {r:List Int} (hv:v ∉ r) (b:List NQ):(b.filter (wG (v::r))).filter (fun c=>!kid v c)=b.filter (wG r):=by
  rw [List.filter_filter]
  refine List.filter_congr fun c _=>?_
  unfold wG kid
  by_cases e:c.up=v
  · simp [e,hv]
  · simp [e]
theorem aKj {v:Int} {r o:List Int} (hv:v ∉ r) (l:List QL):sm wt (l.filter fun x=>decide (aY o [x.a,x.b] ∈ v::r))=sm wt (l.filter (uT o v))+sm wt (l.filter fun x=>decide (aY o [x.a,x.b] ∈ r)):=by
  rw [aD2 wt (uT o v),List.filter_filter,List.filter_filter]
  congr 2
  · refine List.filter_congr fun x _=>?_
    unfold uT
    by_cases e:aY o [x.a,x.b]=v <;> simp [e]
  · refine List.filter_congr fun x _=>?_
    unfold uT
    by_cases e:aY o [x.a,x.b]=v
    · simp [e,hv]
    · simp [e]
end Go.Ev
/- Trees over the rational numbers: what comes into the next front. -/
namespace Go.Ev
set_option linter.all false
theorem aB2 {pre r:List Int} {v:Int} (hn:(pre++v::r).Nodup) (h1:∀ u ∈ pre++v::r,1≤u) {x:QL}:uT (pre++v::r) v x=true↔(x.a=v∨x.b=v)∧x.a ∉ pre∧x.b ∉ pre:=by
  unfold uT
  rw [decide_eq_true_eq,uM hn h1]
  simp only [List.mem_cons,List.not_mem_nil,or_false]
  constructor
  · rintro ⟨h2,h3⟩
    exact ⟨by rcases h2 with h | h <;> simp [h],fun h=>h3 _ h (.inl rfl),fun h=>h3 _ h (.inr rfl)⟩
  · rintro ⟨h2,h3,h4⟩
    refine ⟨by rcases h2 with h | h <;> simp [h],fun u hu hh=>?_⟩
    rcases hh with rfl | rfl
    · exact h3 hu
    · exact h4 hu
theorem aOa {pre rem:List Int} {x:QL} (hv:inV (0::(pre++rem)) x) (h:∀ u ∈ pre,u ∉ [x.a,x.b]):inV (0::rem) x:=by
  obtain ⟨h1,h2,h3⟩:=hv
  have key:∀ u,u ∈ [x.a,x.b]→u ∈ 0::(pre++rem)→u ∈ 0::rem:=by
    intro u hu hm
    simp only [List.mem_cons,List.mem_append] at hm ⊢
    rcases hm with h4 | h4 | h4
    · exact .inl h4
    · exact absurd hu (h u h4)
    · exact .inr h4
  exact ⟨key _ (by simp) h1,key _ (by simp) h2,h3⟩
section
variable {l:List QL} {o pre r:List Int} {v:Int} {b:List NQ}
theorem TInv.facts (hb:Base l o) (hi:TInv l o pre (v::r) b):(pre++v::r).Nodup∧(∀ u ∈ pre++v::r,1≤u)∧v ∉ r∧1≤v∧v≤9∧r.length+1+b.length≤5∧(0::v::r).Nodup∧∀ u ∈ 0::v::r,0≤u∧u≤9:=by
  have e:=hi.split
  have n:=hb.nd
  have h1:=hb.h1
  have len:=hb.len
  rw [e] at n h1 len
  have n2:=(List.nodup_append.1 n).2.1
  have a1:=h1 v (by simp)
  have hr:∀ u ∈ v::r,1≤u∧u≤9:=fun u hu=>h1 u (List.mem_append_right _ hu)
  refine ⟨n,fun u hu=>(h1 u hu).1,(List.nodup_cons.1 n2).1,a1.1,a1.2,?_,List.nodup_cons.2 ⟨fun h=>?_,n2⟩,fun u hu=>?_⟩
  · have:=hi.len
    simp only [List.length_append,List.length_cons] at len
    omega
  · have:=hr 0 h;omega
  · rcases List.mem_cons.1 hu with rfl | hu
    · omega
    · have:=hr u hu;omega
theorem yH {x:QL}:x ∈ tB v b↔∃ c ∈ b,c.up=v∧x ∈ c.msgs:=by
  unfold tB
  rw [List.mem_flatMap]
  constructor
  · rintro ⟨c,hc,hx⟩
    rw [List.mem_filter,decide_eq_true_eq] at hc
    exact ⟨c,hc.1,hc.2,hx⟩
  · rintro ⟨c,hc,h,hx⟩
    exact ⟨c,List.mem_filter.2 ⟨hc,decide_eq_true h⟩,hx⟩
theorem TInv.kids (hi:TInv l o pre (v::r) b):eP (fun c:NQ=>72*c.den) (b.filter (kid v))*eP (fun c:NQ=>72*c.den) (b.filter fun c=>wG (v::r) c&&!kid v c)≤ex' b.length∧0 < eP (fun c:NQ=>72*c.den) (b.filter fun c=>wG (v::r) c&&!kid v c)∧0 < eP (fun c:NQ=>72*c.den) (b.filter (kid v)):=by
  have h:=hi.prod
  rw [aC1 _ (kid v),aHL,List.filter_filter] at h
  have e:(fun a=>!kid v a&&wG (v::r) a)=fun c=>wG (v::r) c&&!kid v c:=by funext c;rw [Bool.and_comm]
  rw [e] at h
  refine ⟨h,yG fun c hc=>?_,yG fun c hc=>?_⟩
  · rw [List.mem_filter,Bool.and_eq_true] at hc
    have:=hi.den c hc.1 (of_decide_eq_true hc.2.1)
    omega
  · rw [List.mem_filter] at hc
    have hu:=of_decide_eq_true hc.2
    have:=hi.den c hc.1 (by rw [hu];simp)
    omega
theorem aGl (hi:TInv l o pre (v::r) b) (hb:Base l o):sm wt (l.filter (uT o v)++tB v b)+(sm wt (rK (b.filter (wG r)))+sm wt (l.filter fun x=>decide (aY o [x.a,x.b] ∈ r)))≤72 ∧
    (∀ c ∈ b,c.up ∈ v::r→∀ x ∈ c.msgs,x.w≤72):=by
  obtain ⟨n,h1,hv,_⟩:=hi.facts hb
  have h:=hi.wtt
  have h0:=h
  rw [aEu wt (kid v),aHL,aFZ hv,aKj hv] at h
  rw [yW]
  have e:rK (b.filter (kid v))=tB v b:=rfl
  rw [e] at h
  refine ⟨by grind,fun c hc hu x hx=>?_⟩
  have hm:x ∈ rK (b.filter (wG (v::r))):=List.mem_flatMap.2 ⟨c,List.mem_filter.2 ⟨hc,decide_eq_true hu⟩,hx⟩
  have nn:∀ y ∈ rK (b.filter (wG (v::r))),0≤wt y:=by
    intro y hy
    obtain ⟨d,hd,hy⟩:=List.mem_flatMap.1 hy
    rw [List.mem_filter] at hd
    have:=((hi.msg d hd.1 (of_decide_eq_true hd.2)).1 y hy).sc.1
    unfold wt;grind
  have h2:=aIx nn x hm
  have h3:0≤sm wt (l.filter fun x=>decide (aY o [x.a,x.b] ∈ v::r)):=nX fun y hy=>(hb.lk y (List.mem_filter.1 hy).1).1
  have e2:wt x=x.w:=rfl
  grind
theorem aJV (hb:Base l o) (hi:TInv l o pre (v::r) b) {c:NQ} (hc:c ∈ b) (hu:c.up=v):0 < c.den*pn c.den c.msgs∧c.den*pn c.den c.msgs≤(72*c.den) ^ (tri (r.length+2)+1):=by
  obtain ⟨n,h1,hv,_,_,hl,nV,hV⟩:=hi.facts hb
  have hu':c.up ∈ v::r:=by rw [hu];simp
  obtain ⟨m1,m2⟩:=hi.msg c hc hu'
  obtain ⟨p1,p2,p3,p4⟩:=hi.ps c hc hu'
  have hd:=hi.den c hc hu'
  have l1:=aDH nV m2 (fun x hx=>⟨p1 _ (p3 x hx).1,p1 _ (p3 x hx).2.1,(p3 x hx).2.2⟩)
  have eV:(0::v::r).length=r.length+2:=rfl
  rw [eV] at l1
  have l2:=aCu (K:=r.length+2) (by omega)
  have l3:=aFP (W:=72) hd (fun x hx=>(m1 x hx).sc) (fun x hx=>(aGl hi hb).2 c hc hu' x hx)
  refine ⟨Nat.mul_pos hd (aCD hd fun x hx=>(m1 x hx).sc),?_⟩
  rw [Nat.pow_succ,Nat.mul_comm ((72*c.den) ^ _)]
  exact Nat.mul_le_mul (by omega) (Nat.le_trans l3 (Nat.pow_le_pow_right (by omega) (by omega)))
theorem TInv.inc (hb:Base l o) (hi:TInv l o pre (v::r) b) :
    Inc (aDD v b) (eP (fun c:NQ=>c.den*pn c.den c.msgs) (b.filter (kid v))) (20*2 ^ b.length) (0::v::r) v (l.filter (uT o v)++tB v b):=by
  obtain ⟨n,h1,hv,v1,v9,hl,nV,hV⟩:=hi.facts hb
  have kd:∀ c ∈ b.filter (kid v),c ∈ b∧c.up=v∧c.up ∈ v::r:=fun c hc=>by
    rw [List.mem_filter] at hc
    have:=of_decide_eq_true hc.2
    exact ⟨hc.1,this,by rw [this];simp⟩
  have hD:0 < aDD v b:=yG fun c hc=>hi.den c (kd c hc).1 (kd c hc).2.2
  obtain ⟨k1,k2,k3⟩:=hi.kids
  have hH:eP (fun c:NQ=>72*c.den) (b.filter (kid v))≤ex b.length:=Nat.le_trans (Nat.le_trans (Nat.le_mul_of_pos_right _ k2) k1) (aL5 _)
  have ex72:72≤ex b.length:=by
    unfold ex
    have:1≤2 ^ b.length:=Nat.one_le_two_pow
    calc 72=72 ^ 1:=rfl
      _≤_:=Nat.pow_le_pow_right (by omega) this
  have hX:20*2 ^ b.length≤20*2 ^ 4:=Nat.mul_le_mul_left _ (Nat.pow_le_pow_right (by omega) (by omega))
  refine ⟨hD,yG fun c hc=>(aJV hb hi (kd c hc).1 (kd c hc).2.1).1,by omega,Nat.mul_pos (by omega) (Nat.pow_pos (by omega)),?_,?_,nV,hV,by simp,v1,?_,?_⟩
  · intro x hx
    rcases List.mem_append.1 hx with hx | hx
    · rw [List.mem_filter] at hx
      obtain ⟨l1,l2,l3⟩:=hb.lk x hx.1
      refine ⟨aJ7 l1 (Nat.one_dvd _) (by have:1≤2 ^ b.length:=Nat.one_le_two_pow;omega),?_,yB l3 (Nat.one_dvd _)⟩
      have e:=hi.split
      rw [e] at l2 hx
      obtain ⟨_,a2,a3⟩:=(aB2 n h1).1 hx.2
      refine aOa l2 fun u hu hm=>?_
      simp only [List.mem_cons,List.not_mem_nil,or_false] at hm
      rcases hm with rfl | rfl
      · exact a2 hu
      · exact a3 hu
    · obtain ⟨c,hc,hu,hx⟩:=yH.1 hx
      have hk:c ∈ b.filter (kid v):=List.mem_filter.2 ⟨hc,decide_eq_true hu⟩
      have hu':c.up ∈ v::r:=by rw [hu];simp
      have hd:=hi.den c hc hu'
      obtain ⟨m1,m2⟩:=hi.msg c hc hu'
      obtain ⟨p1,p2,p3,p4⟩:=hi.ps c hc hu'
      refine ⟨aJ7 (m1 x hx) (aCB (f:=fun c:NQ=>c.den) hk) (Nat.le_refl _),⟨p1 _ (p3 x hx).1,p1 _ (p3 x hx).2.1,(p3 x hx).2.2⟩,?_⟩
      exact yB (aJ6 hd (m1 x hx).sc) (Nat.dvd_trans (Nat.mul_dvd_mul_left _ (aGG _ x hx)) (aCB (f:=fun c:NQ=>c.den*pn c.den c.msgs) hk))
  · have:=(aGl hi hb).1
    have a1:0≤sm wt (l.filter fun x=>decide (aY o [x.a,x.b] ∈ r)):=nX fun y hy=>(hb.lk y (List.mem_filter.1 hy).1).1
    have a2:0≤sm wt (rK (b.filter (wG r))):=by
      refine rR fun y hy=>?_
      obtain ⟨d,hd,hy⟩:=List.mem_flatMap.1 hy
      rw [List.mem_filter] at hd
      have:=((hi.msg d hd.1 (List.mem_cons_of_mem v (of_decide_eq_true hd.2))).1 y hy).sc.1
      unfold wt;grind
    grind
  · obtain ⟨u,w,s1,s2,adj⟩:=hi.cut (fun u=>u=v) ⟨v,by simp,rfl⟩ (by omega)
    subst s1
    rcases adj with ⟨x,hx,hf,hp⟩ | ⟨c,hc,hu,p1,p2⟩
    · refine ⟨x,List.mem_append_left _ (List.mem_filter.2 ⟨hx,?_⟩),by rcases hp with hp | hp <;> simp [hp]⟩
      have e:=hi.split
      rw [e] at hf ⊢
      have:=aF4 n h1 hf
      refine (aB2 n h1).2 ⟨by rcases hp with hp | hp <;> simp [hp],fun h=>this _ h (by simp),fun h=>this _ h (by simp)⟩
    · obtain ⟨q1,q2,q3,q4⟩:=hi.ps c hc hu
      have e:=hi.split
      have hcu:c.up=u:=by
        rw [q2,e]
        refine (uM n h1).2 ⟨p1,fun z hz hm=>?_⟩
        have:=q1 z hm
        rcases List.mem_cons.1 this with rfl | h
        · have:=h1 0 (List.mem_append_left _ hz);omega
        · exact (List.nodup_append.1 n).2.2 z hz z h rfl
      rcases Int.lt_or_gt_of_ne s2 with h | h
      · obtain ⟨x,hx,e1,e2⟩:=q4 w p2 u p1 h
        exact ⟨x,List.mem_append_right _ (yH.2 ⟨c,hc,hcu,hx⟩),.inr e2⟩
      · obtain ⟨x,hx,e1,e2⟩:=q4 u p1 w p2 h
        exact ⟨x,List.mem_append_right _ (yH.2 ⟨c,hc,hcu,hx⟩),.inl e1⟩
  · have eV:(0::v::r).length=r.length+2:=rfl
    rw [eV]
    refine aMN (k:=b.length) hD (by omega) (by omega) ?_ ?_
    · by_cases c:b.filter (kid v)=[]
      · have:aDD v b=1:=by
          have e:aDD v b=eP (fun c:NQ=>c.den) (b.filter (kid v)):=rfl
          rw [e,c];rfl
        rw [this];omega
      · exact Nat.le_trans (aEk _ _ c) hH
    · refine Nat.le_trans (aHu (g:=fun c:NQ=>(72*c.den) ^ (tri (r.length+2)+1)) fun c hc=>(aJV hb hi (kd c hc).1 (kd c hc).2.1).2) ?_
      rw [aFN]
      exact Nat.pow_le_pow_left hH _
end
end Go.Ev
/- Trees over the rational numbers: the invariant goes on. -/
namespace Go.Ev
set_option linter.all false
theorem aEj (v:Int) (a:List QL):psN (wM v a)=a.map fun x=>x.a:=by
  unfold psN wM
  simp only [List.map_map]
  rfl
section
variable {l:List QL} {o pre r:List Int} {v:Int} {b:List NQ}
def nxt (l:List QL) (o:List Int) (v:Int) (b:List NQ):NQ:=aB4 o v (l.filter (uT o v)) b
theorem aLz {u:Int}:u ∈ psN (nxt l o v b).cond↔∃ y ∈ (bO (l.filter (uT o v)++tB v b) [] 0).1,(y.a=v∨y.b=v)∧u=(aBL v y).a:=by
  have e:psN (nxt l o v b).cond=(bT v (bO (l.filter (uT o v)++tB v b) [] 0).1).map fun x=>x.a:=aEj v _
  rw [e,List.mem_map]
  constructor
  · rintro ⟨x,hx,rfl⟩
    obtain ⟨y,hy,ht,rfl⟩:=yJ.1 hx
    exact ⟨y,hy,ht,rfl⟩
  · rintro ⟨y,hy,ht,rfl⟩
    exact ⟨_,yJ.2 ⟨y,hy,ht,rfl⟩,rfl⟩
theorem aBC {z:QL} (hz:z ∈ l.filter (uT o v)++tB v b) (h:z.a < z.b) {u:Int} (hu:(z.a=v∧z.b=u)∨(z.a=u∧z.b=v)):u ∈ psN (nxt l o v b).cond:=by
  obtain ⟨y,hy,e1,e2⟩:=tO _ [] 0 z (.inr hz)
  rw [aLz]
  have ht:y.a=v∨y.b=v:=by rw [← e1,← e2];rcases hu with hu | hu <;> simp [hu]
  refine ⟨y,hy,ht,?_⟩
  have:=aCo ht (by omega)
  omega
theorem TInv.kid_ps (hb:Base l o) (hi:TInv l o pre (v::r) b) {c:NQ} (hc:c ∈ b) (hu:c.up=v):v ∈ psN c.cond∧∀ u ∈ psN c.cond,u≠v→u ∈ psN (nxt l o v b).cond:=by
  have hu':c.up ∈ v::r:=by rw [hu];simp
  obtain ⟨p1,p2,p3,p4⟩:=hi.ps c hc hu'
  obtain ⟨n,h1,hv,v1,v9,hl,nV,hV⟩:=hi.facts hb
  have vm:v ∈ psN c.cond:=by
    have e:=hi.split
    rw [hu,e] at p2
    exact ((uM n h1).1 p2.symm).1
  refine ⟨vm,fun u hm hne=>?_⟩
  rcases Int.lt_or_gt_of_ne hne with h | h
  · obtain ⟨x,hx,e1,e2⟩:=p4 u hm v vm h
    exact aBC (z:=x) (List.mem_append_right _ (yH.2 ⟨c,hc,hu,hx⟩)) (by omega) (.inr ⟨e1,e2⟩)
  · obtain ⟨x,hx,e1,e2⟩:=p4 v vm u hm h
    exact aBC (z:=x) (List.mem_append_right _ (yH.2 ⟨c,hc,hu,hx⟩)) (by omega) (.inl ⟨e1,e2⟩)
theorem TInv.nxt_rem (hb:Base l o) (hi:TInv l o pre (v::r) b):∀ u ∈ psN (nxt l o v b).cond,u ∈ 0::r∧u≠v:=by
  intro u hu
  have hj:=((hi.inc hb).join).2.1
  obtain ⟨y,hy,ht,rfl⟩:=aLz.1 hu
  have:=hj.armV _ (yJ.2 ⟨y,hy,ht,rfl⟩)
  refine ⟨?_,this.2⟩
  have h1:=this.1
  simp only [List.mem_cons] at h1 ⊢
  rcases h1 with h | h | h
  · exact .inl h
  · exact absurd h this.2
  · exact .inr h
theorem TInv.adj (hb:Base l o) (hi:TInv l o pre (v::r) b) {u w:Int} (h:aKO l o (v::r) b u w) (hne:u≠w) :
    (u=v→w ∈ psN (nxt l o v b).cond)∧(w=v→u ∈ psN (nxt l o v b).cond)∧(u≠v→w≠v→(u ∈ psN (nxt l o v b).cond∧w ∈ psN (nxt l o v b).cond)∨aKO l o r b u w):=by
  obtain ⟨n,h1,hv,v1,v9,hl,nV,hV⟩:=hi.facts hb
  have e:=hi.split
  rcases h with ⟨x,hx,hf,hp⟩ | ⟨c,hc,hu,p1,p2⟩
  · have own:x.a=v∨x.b=v→x ∈ l.filter (uT o v):=fun ht=>by
      rw [e] at hf ⊢
      have:=aF4 n h1 hf
      exact List.mem_filter.2 ⟨hx,(aB2 n h1).2 ⟨ht,fun h=>this _ h (by simp),fun h=>this _ h (by simp)⟩⟩
    have hlt:=(hb.lk x hx).2.1.2.2
    refine ⟨fun h2=>?_,fun h2=>?_,fun h2 h3=>.inr (.inl ⟨x,hx,?_,hp⟩)⟩
    · subst h2
      rcases hp with ⟨g1,g2⟩ | ⟨g1,g2⟩
      · exact aBC (List.mem_append_left _ (own (.inl g1))) hlt (.inl ⟨g1,g2⟩)
      · exact aBC (List.mem_append_left _ (own (.inr g2))) hlt (.inr ⟨g1,g2⟩)
    · subst h2
      rcases hp with ⟨g1,g2⟩ | ⟨g1,g2⟩
      · exact aBC (List.mem_append_left _ (own (.inr g2))) hlt (.inr ⟨g1,g2⟩)
      · exact aBC (List.mem_append_left _ (own (.inl g1))) hlt (.inl ⟨g1,g2⟩)
    · rcases List.mem_cons.1 hf with h4 | h4
      · exfalso
        have h5:=h4
        rw [e] at h5
        have:=((uM n h1).1 h5).1
        simp only [List.mem_cons,List.not_mem_nil,or_false] at this
        omega
      · exact h4
  · by_cases k:c.up=v
    · obtain ⟨vm,hk⟩:=hi.kid_ps hb hc k
      exact ⟨fun h2=>hk w p2 (by omega),fun h2=>hk u p1 (by omega),fun h2 h3=>.inl ⟨hk u p1 h2,hk w p2 h3⟩⟩
    · have hr:c.up ∈ r:=(List.mem_cons.1 hu).resolve_left k
      obtain ⟨q1,q2,q3,q4⟩:=hi.ps c hc hu
      have nv:v ∉ psN c.cond:=fun hm=>by
        rw [e] at q2
        refine k (q2.trans ((uM n h1).2 ⟨hm,fun z hz hm=>?_⟩))
        rcases List.mem_cons.1 (q1 z hm) with rfl | h
        · have:=h1 0 (List.mem_append_left _ hz);omega
        · exact (List.nodup_append.1 n).2.2 z hz z h rfl
      exact ⟨fun h2=>absurd (h2 ▸ p1) nv,fun h2=>absurd (h2 ▸ p2) nv,fun _ _=>.inr (.inr ⟨c,hc,hr,p1,p2⟩)⟩
theorem TInv.nxt_up (hb:Base l o) (hi:TInv l o pre (v::r) b) {u:Int} (hu:u ∈ psN (nxt l o v b).cond) (h0:u≠0):(nxt l o v b).up ∈ r:=by
  obtain ⟨n,h1,hv,v1,v9,hl,nV,hV⟩:=hi.facts hb
  have e:=hi.split
  have hr:=hi.nxt_rem hb
  have er:(nxt l o v b).up=aY o (psN (nxt l o v b).cond):=rfl
  have e2:pre++v::r=(pre++[v])++r:=by simp
  have e3:aY o (psN (nxt l o v b).cond)=aY ((pre++[v])++r) (psN (nxt l o v b).cond):=congrArg (fun o'=>aY o' (psN (nxt l o v b).cond)) (e.trans e2)
  rw [er,e3]
  have h1':∀ u ∈ (pre++[v])++r,1≤u:=by rw [← e2];exact h1
  rcases aH1 (p:=pre++[v]) (r:=r) (s:=psN (nxt l o v b).cond) h1' (fun z hz hm=>by
    obtain ⟨g1,g2⟩:=hr z hm
    have zr:z ∈ r:=by
      rcases List.mem_cons.1 g1 with h | h
      · have:=h1' z (List.mem_append_left _ hz);omega
      · exact h
    rcases List.mem_append.1 hz with hz | hz
    · exact (List.nodup_append.1 n).2.2 z hz z (by simp [zr]) rfl
    · simp at hz;exact g2 hz) with ⟨_,h⟩ | h
  · exact absurd hu (h u ((List.mem_cons.1 (hr u hu).1).resolve_left h0))
  · exact h.1
theorem aKg {P H:Nat} {D d k:Nat} (hH:0 < H) (hP:0 < P) (h:H*P≤ex' k) (hd:d≤D*(72*D)) (hD:(D=1∧H=1)∨72*D≤H):P*(72*d)≤ex (k+1):=by
  have e:ex (k+1)=ex k*ex k:=by unfold ex;rw [Nat.pow_succ,Nat.pow_mul,Nat.pow_two]
  have h2:=aL5 k
  rcases hD with ⟨rfl,rfl⟩ | hD
  · have hd2:72*d≤72*72:=by omega
    by_cases c:k=0
    · subst c
      have:ex' 0=1:=rfl
      rw [this] at h
      have hp1:P=1:=by omega
      rw [hp1,e]
      have:ex 0=72:=rfl
      rw [this];omega
    · have ek:72*72≤ex k:=by
        unfold ex
        have:2≤2 ^ k:=by
          calc 2=2 ^ 1:=rfl
            _≤_:=Nat.pow_le_pow_right (by omega) (by omega)
        calc 72*72=72 ^ 2:=rfl
          _≤_:=Nat.pow_le_pow_right (by omega) this
      rw [e]
      exact Nat.mul_le_mul (by omega) (by omega)
  · have a1:72*d≤H*H:=by
      calc 72*d≤72*(D*(72*D)):=Nat.mul_le_mul_left _ hd
        _=(72*D)*(72*D):=by rw [Nat.mul_assoc]
        _≤H*H:=Nat.mul_le_mul hD hD
    rw [e]
    calc P*(72*d)≤P*(H*H):=Nat.mul_le_mul_left _ a1
      _=(H*P)*H:=by rw [← Nat.mul_assoc,Nat.mul_comm P H]
      _≤ex k*ex k:=Nat.mul_le_mul (by omega) (Nat.le_trans (Nat.le_mul_of_pos_right H hP) (by omega))
end
end Go.Ev
/- Trees over the rational numbers: the whole tree. -/
namespace Go.Ev
set_option linter.all false
section
variable {l:List QL} {o pre r:List Int} {v:Int} {b:List NQ}
theorem TInv.next (hb:Base l o) (hi:TInv l o pre (v::r) b):TInv l o (pre++[v]) r (b++[nxt l o v b])∧qM o v ((l.filter (uT o v)).map QL.toL) (b.map NQ.toN)=some (nxt l o v b).toN∧dA (nxt l o v b).enQ:=by
  obtain ⟨n,h1,hv,v1,v9,hl,nV,hV⟩:=hi.facts hb
  have hinc:=hi.inc hb
  obtain ⟨c1,c2,c3,c4,c5,c6,c7⟩:=aNT (order:=o) hinc
  have hmem:∀ c ∈ b++[nxt l o v b],c ∈ b∨c=nxt l o v b:=fun c hc=>by simpa using hc
  have hlen:(b++[nxt l o v b]).length=b.length+1:=by simp
  have hsp:=hi.split
  refine ⟨⟨?_,?_,?_,?_,?_,?_,?_,?_⟩,c1,c2⟩
  · rw [hsp];simp
  · rw [hlen,List.length_append,hi.len];rfl
  · intro c hc hu
    rcases hmem c hc with hc | rfl
    · exact hi.den c hc (List.mem_cons_of_mem v hu)
    · exact c3
  · intro c hc hu
    rw [hlen]
    rcases hmem c hc with hc | rfl
    · obtain ⟨m1,m2⟩:=hi.msg c hc (List.mem_cons_of_mem v hu)
      exact ⟨fun x hx=>aJ7 (m1 x hx) (Nat.dvd_refl _) (Nat.mul_le_mul_left _ (Nat.pow_le_pow_right (by omega) (by omega))),m2⟩
    · refine ⟨fun x hx=>?_,c6⟩
      have:=(c5 x hx).1
      have e:2*(20*2 ^ b.length)=20*2 ^ (b.length+1):=by rw [Nat.pow_succ];omega
      rw [← e];exact this
  · intro c hc hu
    rcases hmem c hc with hc | rfl
    · obtain ⟨p1,p2,p3,p4⟩:=hi.ps c hc (List.mem_cons_of_mem v hu)
      refine ⟨fun u hm=>?_,p2,p3,p4⟩
      have h:=p1 u hm
      simp only [List.mem_cons] at h ⊢
      rcases h with h | h | h
      · exact .inl h
      · exfalso
        subst h
        rw [hsp] at p2
        have:c.up=u:=p2.trans ((uM n h1).2 ⟨hm,fun z hz hz2=>by
          rcases List.mem_cons.1 (p1 z hz2) with rfl | h
          · have:=h1 0 (List.mem_append_left _ hz);omega
          · exact (List.nodup_append.1 n).2.2 z hz z h rfl⟩)
        rw [this] at hu;exact hv hu
      · exact .inr h
    · refine ⟨fun u hm=>(hi.nxt_rem hb u hm).1,rfl,fun x hx=>?_,fun u hu' w hw' huw=>?_⟩
      · have hj:=(hinc.join).2.1
        refine ⟨?_,?_,(c5 x hx).2.2.2⟩
        all_goals
          obtain ⟨y,hy,e1,e2⟩:=zO _ [] 0 x hx
          have hy:=hy.resolve_left (by simp)
          rcases List.mem_append.1 hy with hy | hy
          · obtain ⟨m1,m2,m3⟩:=aB6.1 hy
            obtain ⟨z,hz,f1,f2⟩:=zO _ [] 0 y m1
            have hz:=hz.resolve_left (by simp)
            rcases List.mem_append.1 hz with hz | hz
            · exfalso
              have:=(List.mem_filter.1 hz).2
              rw [hsp] at this
              have:=((aB2 n h1).1 this).1
              omega
            · obtain ⟨c,hc,hu2,hz⟩:=yH.1 hz
              obtain ⟨_,hk⟩:=hi.kid_ps hb hc hu2
              obtain ⟨_,_,p3,_⟩:=hi.ps c hc (by rw [hu2];simp)
              have g1:=(p3 z hz).1
              have g2:=(p3 z hz).2.1
              rw [f1,e1] at g1
              rw [f2,e2] at g2
              first | exact hk _ g1 (by omega) | exact hk _ g2 (by omega)
          · obtain ⟨_,_,_,_,⟨y1,hy1,q1⟩,y2,hy2,q2⟩:=hj.arms.each hy
            have e:psN (nxt l o v b).cond=(bT v (bO (l.filter (uT o v)++tB v b) [] 0).1).map fun x=>x.a:=aEj v _
            rw [e]
            first | exact List.mem_map.2 ⟨y1,hy1,q1.trans e1⟩ | exact List.mem_map.2 ⟨y2,hy2,q2.trans e2⟩
      · have hj:=(hinc.join).2.1
        have e:psN (nxt l o v b).cond=(bT v (bO (l.filter (uT o v)++tB v b) [] 0).1).map fun x=>x.a:=aEj v _
        rw [e] at hu' hw'
        obtain ⟨x,hx,rfl⟩:=List.mem_map.1 hu'
        obtain ⟨y,hy,rfl⟩:=List.mem_map.1 hw'
        have hm:=aHH (sm wt (bT v (bO (l.filter (uT o v)++tB v b) [] 0).1)) hj.arms.inc x hx y hy huw
        obtain ⟨z,hz,f1,f2⟩:=tO (kB v (bO (l.filter (uT o v)++tB v b) [] 0).1) [] 0 _ (.inr (List.mem_append_right _ hm))
        exact ⟨z,hz,f1.symm,f2.symm⟩
  · obtain ⟨k1,k2,k3⟩:=hi.kids
    rw [hlen,List.filter_append,aFO]
    have e1:b.filter (wG r)=b.filter fun c=>wG (v::r) c&&!kid v c:=by
      rw [← aFZ hv,List.filter_filter]
      refine List.filter_congr fun c _=>?_
      rw [Bool.and_comm]
    rw [e1]
    have ekk:ex' (b.length+1)=ex (b.length+1):=by unfold ex';rw [if_neg (by omega)]
    rw [ekk]
    have hD:(aDD v b=1∧eP (fun c:NQ=>72*c.den) (b.filter (kid v))=1)∨72*aDD v b≤eP (fun c:NQ=>72*c.den) (b.filter (kid v)):=by
      by_cases c:b.filter (kid v)=[]
      · left
        have e:aDD v b=eP (fun c:NQ=>c.den) (b.filter (kid v)):=rfl
        rw [e,c];exact ⟨rfl,rfl⟩
      · exact .inr (aEk (fun c:NQ=>c.den) _ c)
    have hs:=aKg k3 k2 k1 c4 hD
    have le:eP (fun c:NQ=>72*c.den) ([nxt l o v b].filter (wG r))≤72*(nxt l o v b).den:=by
      have hp:0 < (nxt l o v b).den:=c3
      rw [List.filter_cons,List.filter_nil]
      split
      · simp [eP]
      · simp only [eP];omega
    exact Nat.le_trans (Nat.mul_le_mul_left _ le) hs
  · have hw:=(aGl hi hb).1
    have hn:0≤sm wt (nxt l o v b).msgs:=nX fun x hx=>(c5 x hx).1
    have e:sm wt (rK ((b++[nxt l o v b]).filter (wG r)))≤sm wt (rK (b.filter (wG r)))+sm wt (nxt l o v b).msgs:=by
      unfold rK
      rw [List.filter_append,List.flatMap_append,yW,List.filter_cons,List.filter_nil]
      split
      · rw [List.flatMap_cons,List.flatMap_nil,List.append_nil];grind
      · rw [List.flatMap_nil];simp only [sm];grind
    have c7':sm wt (nxt l o v b).msgs≤sm wt (l.filter (uT o v)++tB v b):=c7
    grind
  · intro S hS h0
    obtain ⟨u0,hu0,su0⟩:=hS
    have viaN:∀ u w,S u→¬S w→u ∈ psN (nxt l o v b).cond→w ∈ psN (nxt l o v b).cond→aKO l o r (b++[nxt l o v b]) u w:=by
      intro u w su sw hu hw
      exact .inr ⟨nxt l o v b,by simp,hi.nxt_up hb hu (fun e=>h0 (e ▸ su)),hu,hw⟩
    have up:∀ u w,aKO l o r b u w→aKO l o r (b++[nxt l o v b]) u w:=by
      rintro u w (⟨x,hx,h⟩ | ⟨c,hc,h⟩)
      · exact .inl ⟨x,hx,h⟩
      · exact .inr ⟨c,by simp [hc],h⟩
    have ne0:u0≠v:=fun e=>hv (e ▸ hu0)
    obtain ⟨u,w,⟨su,uv⟩,sw,ad⟩:=hi.cut (fun u=>S u∧u≠v) ⟨u0,List.mem_cons_of_mem v hu0,su0,ne0⟩ (fun h=>h0 h.1)
    have uw:u≠w:=fun e=>sw (e ▸ ⟨su,uv⟩)
    obtain ⟨t1,t2,t3⟩:=hi.adj hb ad uw
    by_cases wv:w=v
    · have hu:=t2 wv
      obtain ⟨u',w',su',sw',ad'⟩:=hi.cut (fun u=>S u∨u=v) ⟨u0,List.mem_cons_of_mem v hu0,.inl su0⟩ (fun h=>h.elim h0 (by omega))
      have uw':u'≠w':=fun e=>sw' (e ▸ su')
      obtain ⟨t1',t2',t3'⟩:=hi.adj hb ad' uw'
      have wv':w'≠v:=fun e=>sw' (.inr e)
      have sw2:¬S w':=fun h=>sw' (.inl h)
      by_cases uv':u'=v
      · exact ⟨u,w',su,sw2,viaN u w' su sw2 hu (t1' uv')⟩
      · have su2:S u':=su'.resolve_right uv'
        rcases t3' uv' wv' with ⟨g1,g2⟩ | g
        · exact ⟨u',w',su2,sw2,viaN u' w' su2 sw2 g1 g2⟩
        · exact ⟨u',w',su2,sw2,up _ _ g⟩
    · have sw2:¬S w:=fun h=>sw ⟨h,wv⟩
      rcases t3 uv wv with ⟨g1,g2⟩ | g
      · exact ⟨u,w,su,sw2,viaN u w su sw2 g1 g2⟩
      · exact ⟨u,w,su,sw2,up _ _ g⟩
end
def cS (l:List QL) (o:List Int):List Int→List NQ→List NQ
  | [],b=>b
  | v::r,b=>cS l o r (b++[nxt l o v b])
theorem aNp (o:List Int) (v:Int):∀ l:List QL,(l.map QL.toL).filter (oV o v)=(l.filter (uT o v)).map QL.toL
  | []=>rfl
  | x::l=>by
    have e:oV o v x.toL=uT o v x:=rfl
    rw [List.map_cons,List.filter_cons,List.filter_cons,aNp o v l,e]
    split <;> rfl
theorem aKX {l:List QL} {o:List Int} (hb:Base l o):∀ (r pre:List Int) (b:List NQ),TInv l o pre r b→uC (l.map QL.toL) o r (b.map NQ.toN)=some ((cS l o r b).map NQ.toN)
  | [],_,b,_=>rfl
  | v::r,pre,b,hi=>by
    obtain ⟨h1,h2,h3⟩:=hi.next hb
    rw [uC,aNp,h2]
    have:=aKX hb r (pre++[v]) (b++[nxt l o v b]) h1
    rw [List.map_append] at this
    exact this
def Grounded (l:List QL) (o:List Int):Prop:=∀ S:Int→Prop,(∃ u ∈ o,S u)→¬S 0→∃ x ∈ l,(S x.a∧¬S x.b)∨(S x.b∧¬S x.a)
theorem TInv.start {l:List QL} {o:List Int} (hb:Base l o) (hg:Grounded l o):TInv l o [] o [] where
  split:=rfl
  len:=rfl
  den:=by simp
  msg:=by simp
  ps:=by simp
  prod:=Nat.le_refl 1
  wtt:=by
    have e:sm wt (rK (([]:List NQ).filter (wG o)))=0:=rfl
    rw [e]
    have h1:=aD2 wt (fun x=>decide (aY o [x.a,x.b] ∈ o)) l
    have h2:0≤sm wt (l.filter fun x=>!decide (aY o [x.a,x.b] ∈ o)):=nX fun y hy=>(hb.lk y (List.mem_filter.1 hy).1).1
    have:=hb.hw
    grind
  cut:=by
    intro S hS h0
    obtain ⟨x,hx,h⟩:=hg S hS h0
    have hf:aY o [x.a,x.b] ∈ o:=by
      obtain ⟨i1,i2,i3⟩:=(hb.lk x hx).2.1
      have hbm:x.b ∈ o:=by
        rcases List.mem_cons.1 i2 with h | h
        · exfalso
          rcases List.mem_cons.1 i1 with h2 | h2
          · omega
          · have:=hb.h1 _ h2;omega
        · exact h
      rcases aCk (s:=[x.a,x.b]) (fun u hu=>(hb.h1 u hu).1) with ⟨_,h4⟩ | ⟨p,v,r,e,h2,h3,h4⟩
      · exact absurd (by simp) (h4 _ hbm)
      · rw [h2,e];simp
    rcases h with ⟨g1,g2⟩ | ⟨g1,g2⟩
    · exact ⟨x.a,x.b,g1,g2,.inl ⟨x,hx,hf,.inl ⟨rfl,rfl⟩⟩⟩
    · exact ⟨x.b,x.a,g1,g2,.inl ⟨x,hx,hf,.inr ⟨rfl,rfl⟩⟩⟩
theorem Base.join {l:List QL} {o:List Int} (hb:Base l o):jnP (l.map QL.toL)=some ((bO l [] 0).1.map QL.toL,ofQ (bO l [] 0).2)∧(∀ k ∈ (bO l [] 0).1,k.fit∧Lk 1 20 k∧inV (0::o) k)∧(bO l [] 0).1.Pairwise dE∧dA (bO l [] 0).2:=by
  have nV:(0::o).Nodup:=List.nodup_cons.2 ⟨fun h=>by have:=hb.h1 0 h;omega,hb.nd⟩
  have hVn:∀ u ∈ 0::o,0≤u∧u≤9:=fun u hu=>by
    rcases List.mem_cons.1 hu with rfl | hu
    · omega
    · have:=hb.h1 u hu;omega
  have len:(0::o).length≤6:=by have:=hb.len;simp only [List.length_cons];omega
  have j:Jn 1 1 20 15 (0::o):=⟨by omega,by decide,by omega,by omega,by omega,nV,by
    have h1:=aCu len
    have h2:=aKV _ 6 len (by omega)
    have h3:tri 6=15:=by decide
    omega,by rw [aMB];decide⟩
  have es:=uO (fun x hx=>(hb.lk x hx).1) (by omega) hb.hw
  have e0:(0:Q) - sm enQ []=0:=by simp only [sm];grind
  have g:=aCi j l [] 0 (fun x hx=>⟨(hb.lk x hx).1,(hb.lk x hx).2.1,(hb.lk x hx).2.2⟩) (by simp) List.Pairwise.nil (by simp only [sm];have:=hb.hw;grind) ⟨0,by simp⟩ (by grind) (by have:=es.2;grind)
  rw [e0] at g
  obtain ⟨g1,g2,g3,g4,g5⟩:=g
  have fo:∀ x ∈ l,x.fit∧x.ok:=fun x hx=>by
    obtain ⟨l1,⟨l2,l3,l4⟩,_⟩:=hb.lk x hx
    refine ⟨aGR (by omega) (by decide) l1 (by omega) (by omega) ?_,hVn _ l2,hVn _ l3,l4,l1.sc.1⟩
    have:=vN (fun y hy=>(hb.lk y hy).1) hx
    have:=hb.hw
    grind
  obtain ⟨e1,f1,f2⟩:=aN2 fo g1
  exact ⟨e1,fun k hk=>⟨f1 k hk,g2 k hk⟩,g3,f2⟩
theorem aM5 {l:List QL} {o:List Int} (hb:Base l o) (hg:Grounded l o) (ho:isOrd ((bO l [] 0).1.map QL.toL) o):wN (l.map QL.toL) o=some ⟨(cS l o o []).map NQ.toN⟩:=by
  unfold wN
  rw [hb.join.1]
  simp only [Option.bind_some]
  rw [if_pos ho]
  have:=aKX hb o [] [] (TInv.start hb hg)
  rw [List.map_nil] at this
  rw [this]
  rfl
end Go.Ev
/- Links of whole numbers that tie nodes to the ground: their tree is built. -/
namespace Go.Ev
set_option linter.all false
def LkI (x:QL):Prop:=(0≤x.a∧x.a < x.b∧x.b≤5)∧∃ w p q:Int,(1≤w∧w≤9)∧(-20≤p∧p≤20)∧(-20≤q∧q≤20)∧x.w=(w:Q)∧x.x=(p:Q)∧x.y=(q:Q)
theorem aMi {B:Nat} {z:Int} (h:-(B:Int)≤z∧z≤(B:Int)):bd B (z:Q):=by
  constructor
  · have:=(_root_.Rat.intCast_le_intCast (a:=-(B:Int)) (b:=z)).2 h.1
    rw [_root_.Rat.intCast_neg] at this;exact this
  · exact (_root_.Rat.intCast_le_intCast (a:=z) (b:=(B:Int))).2 h.2
theorem LkI.lk {x:QL} (h:LkI x):Lk 1 20 x∧Dv 1 (enQ x)∧x.w≤9:=by
  obtain ⟨_,w,p,q,hw,hp,hq,e1,e2,e3⟩:=h
  have w0:((0:Int):Q) < (w:Q):=_root_.Rat.intCast_lt_intCast.2 (by omega)
  have w9:(w:Q)≤((9:Int):Q):=_root_.Rat.intCast_le_intCast.2 hw.2
  have z0:((0:Int):Q)=0:=rfl
  have z9:((9:Int):Q)=9:=rfl
  have m1:mx x=((w*p:Int):Q):=by unfold mx;rw [e1,e2,_root_.Rat.intCast_mul]
  have m2:my x=((w*q:Int):Q):=by unfold my;rw [e1,e3,_root_.Rat.intCast_mul]
  have m3:enQ x=((w*(p*p+q*q):Int):Q):=by
    unfold enQ sqQ
    rw [e1,e2,e3,_root_.Rat.intCast_mul,_root_.Rat.intCast_add,_root_.Rat.intCast_mul,_root_.Rat.intCast_mul]
  refine ⟨⟨⟨by rw [e1];grind,by rw [e1];exact aHd _,by rw [m1];exact aHd _,by rw [m2];exact aHd _⟩,by rw [e2];exact aMi (by omega),by rw [e3];exact aMi (by omega)⟩,by rw [m3];exact aHd _,by rw [e1];grind⟩
theorem aOE:∀ {l:List QL},(∀ x ∈ l,LkI x)→sm wt l≤((9*l.length:Nat):Q)
  | [],_=>by simp [sm]
  | x::l,h=>by
    have h1:=(h x (by simp)).lk.2.2
    have h2:=aOE (l:=l) (fun y hy=>h y (by simp [hy]))
    have e:(9*(x::l).length:Nat)=9+9*l.length:=by rw [List.length_cons];omega
    rw [sm,e,_root_.Rat.natCast_add]
    have e2:wt x=x.w:=rfl
    have e3:((9:Nat):Q)=9:=rfl
    rw [e2,e3];grind
structure Tie (l:List QL) (o:List Int):Prop where
  nd:o.Nodup
  mem:∀ u,u ∈ o↔1≤u∧∃ x ∈ l,x.a=u∨x.b=u
  lk:∀ x ∈ l,LkI x
  len:l.length≤8
  gr:Grounded l o
theorem Tie.five {l:List QL} {o:List Int} (h:Tie l o):∀ u ∈ o,1≤u∧u≤5:=by
  intro u hu
  obtain ⟨h1,x,hx,ht⟩:=(h.mem u).1 hu
  have:=(h.lk x hx).1
  omega
theorem Tie.base {l:List QL} {o:List Int} (h:Tie l o):Base l o where
  nd:=h.nd
  h1:=fun u hu=>by have:=h.five u hu;omega
  len:=by
    have:=h.nd.length_le_of_subset (l₂:=[1,2,3,4,5]) (fun u hu=>by
      have:=h.five u hu
      simp only [List.mem_cons,List.not_mem_nil,or_false];omega)
    simpa using this
  lk:=fun x hx=>by
    obtain ⟨h1,h2,h3⟩:=(h.lk x hx).lk
    have hn:=(h.lk x hx).1
    refine ⟨h1,⟨?_,?_,hn.2.1⟩,h2⟩
    · by_cases c:x.a=0
      · rw [c];simp
      · exact List.mem_cons_of_mem _ ((h.mem _).2 ⟨by omega,x,hx,.inl rfl⟩)
    · exact List.mem_cons_of_mem _ ((h.mem _).2 ⟨by omega,x,hx,.inr rfl⟩)
  hw:=by
    have h1:=aOE h.lk
    have h2:((9*l.length:Nat):Q)≤((72:Nat):Q):=aIP (by have:=h.len;omega)
    have e:((72:Nat):Q)=72:=rfl
    grind
theorem aEx {s:List Link} {u:Int}:u ∈ fO s↔(1≤u∧u≤9)∧∃ x ∈ s,x.fA=u∨x.fB=u:=by
  unfold fO aDg tch
  rw [List.mem_filter,List.any_eq_true]
  constructor
  · rintro ⟨h1,x,hx,ht⟩
    obtain ⟨k,hk,rfl⟩:=List.mem_map.1 h1
    rw [List.mem_range] at hk
    exact ⟨by omega,x,hx,of_decide_eq_true ht⟩
  · rintro ⟨h1,x,hx,ht⟩
    exact ⟨List.mem_map.2 ⟨(u - 1).toNat,List.mem_range.2 (by omega),by omega⟩,x,hx,decide_eq_true ht⟩
theorem zD (s:List Link):(fO s).Nodup:=by
  unfold fO
  exact (by decide:aDg.Nodup).filter _
theorem aKm {a b:List Int} (ha:a.Nodup) (hb:b.Nodup) (h:∀ u,u ∈ a↔u ∈ b):a.length=b.length :=
  Nat.le_antisymm (ha.length_le_of_subset fun u hu=>(h u).1 hu) (hb.length_le_of_subset fun u hu=>(h u).2 hu)
theorem Tie.isOrd {l:List QL} {o:List Int} (h:Tie l o):isOrd ((bO l [] 0).1.map QL.toL) o:=by
  have key:∀ u,u ∈ o↔u ∈ fO ((bO l [] 0).1.map QL.toL):=by
    intro u
    rw [h.mem,aEx]
    constructor
    · rintro ⟨h1,x,hx,ht⟩
      obtain ⟨y,hy,e1,e2⟩:=tO l [] 0 x (.inr hx)
      have:=(h.lk x hx).1
      refine ⟨by omega,y.toL,List.mem_map_of_mem hy,?_⟩
      show y.a=u∨y.b=u
      rw [← e1,← e2];exact ht
    · rintro ⟨h1,z,hz,ht⟩
      obtain ⟨y,hy,rfl⟩:=List.mem_map.1 hz
      obtain ⟨x,hx,e1,e2⟩:=zO l [] 0 y hy
      have hx:=hx.resolve_left (by simp)
      refine ⟨h1.1,x,hx,?_⟩
      rw [e1,e2];exact ht
  exact ⟨h.nd,fun y hy=>(key y).1 hy,aKm h.nd (zD _) key⟩
theorem Tie.build {l:List QL} {o:List Int} (h:Tie l o):wN (l.map QL.toL) o=some ⟨(cS l o o []).map NQ.toN⟩:=aM5 h.base h.gr h.isOrd
theorem Grounded.perm {l l':List QL} {o o':List Int} (h:Grounded l o) (h1:∀ x ∈ l,x ∈ l') (h2:∀ u ∈ o',u ∈ o):Grounded l' o':=by
  intro S hS h0
  obtain ⟨u,hu,su⟩:=hS
  obtain ⟨x,hx,hh⟩:=h S ⟨u,h2 u hu,su⟩ h0
  exact ⟨x,h1 x hx,hh⟩
theorem Tie.perm {l l':List QL} {o o':List Int} (h:Tie l o) (hl:l'.Perm l) (ho:o'.Perm o):Tie l' o' where
  nd:=ho.nodup_iff.2 h.nd
  mem:=fun u=>by
    rw [ho.mem_iff,h.mem]
    constructor
    · rintro ⟨h1,x,hx,ht⟩;exact ⟨h1,x,hl.mem_iff.2 hx,ht⟩
    · rintro ⟨h1,x,hx,ht⟩;exact ⟨h1,x,hl.mem_iff.1 hx,ht⟩
  lk:=fun x hx=>h.lk x (hl.mem_iff.1 hx)
  len:=by rw [hl.length_eq];exact h.len
  gr:=h.gr.perm (fun x hx=>hl.mem_iff.2 hx) fun u hu=>ho.mem_iff.1 hu
theorem aHV {l:List QL} {o:List Int} (hl:∀ x ∈ l,0≤x.a∧x.a < x.b) (hm:∀ u,u ∈ o↔1≤u∧∃ x ∈ l,x.a=u∨x.b=u) (h:∀ u ∈ o,∃ x ∈ l,x.b=u):Grounded l o:=by
  intro S hS h0
  have key:∀ (n:Nat) (u:Int),u.toNat≤n→u ∈ o→S u→∃ x ∈ l,(S x.a∧¬S x.b)∨(S x.b∧¬S x.a):=by
    intro n
    induction n with
    | zero=>intro u hn hu _;have:=(hm u).1 hu;omega
    | succ n ih =>
      intro u hn hu su
      obtain ⟨x,hx,e⟩:=h u hu
      have hx2:=hl x hx
      by_cases c:S x.a
      · refine ih x.a (by omega) ((hm _).2 ⟨?_,x,hx,.inl rfl⟩) c
        by_cases z:x.a=0
        · rw [z] at c;exact absurd c h0
        · omega
      · exact ⟨x,hx,.inr ⟨e ▸ su,c⟩⟩
  obtain ⟨u,hu,su⟩:=hS
  exact key u.toNat u (Nat.le_refl _) hu su
theorem aKY {n:Int} {l:List QL} {o:List Int} (h1:∀ x ∈ l,LkI x∧x.b≤n+1) (h2:l.length≤8) (h3:∀ k,1≤k→k≤n→∃ x ∈ l,x.b=k) (nd:o.Nodup) (hm:∀ u,u ∈ o↔1≤u∧∃ x ∈ l,x.a=u∨x.b=u):Tie l o where
  nd:=nd
  mem:=hm
  lk:=fun x hx=>(h1 x hx).1
  len:=h2
  gr:=aHV (fun x hx=>by have:=(h1 x hx).1.1;omega) hm fun u hu=>by
    obtain ⟨g1,x,hx,ht⟩:=(hm u).1 hu
    by_cases c:u≤n
    · exact h3 u g1 c
    · have:=(h1 x hx)
      have g:=this.1.1
      refine ⟨x,hx,by omega⟩
end Go.Ev
/- The cursor and what is drawn from it. -/
namespace Go.Ev
open IntKind
set_option linter.all false
theorem aGd (x:Int):0≤xX .i64 x 255∧xX .i64 x 255≤255:=by
  unfold xX
  have h:(BitVec.ofInt (IntKind.bits .i64) x &&& BitVec.ofInt (IntKind.bits .i64) 255).toNat≤255:=by
    rw [BitVec.toNat_and]
    exact Nat.le_trans Nat.and_le_right (by decide)
  rw [wi (by omega)]
  omega
def rY (c:l01Cur):Prop:=c.fb.length≤1048576∧0≤c.fi∧c.fi≤1048577
theorem aN7 (c:l01Cur) (h:rY c):∃ r,jE c=some r∧(0≤r.1∧r.1≤255)∧rY r.2∧r.2.fb=c.fb:=by
  obtain ⟨h1,h2,h3⟩:=h
  unfold jE
  simp only [aO]
  by_cases hc:c.fi < (c.fb.length:Int)
  · rw [if_pos hc]
    have:=aF (l:=c.fb) (k:=c.fi.toNat) (by omega)
    rw [show ((c.fi.toNat:Nat):Int)=c.fi by omega] at this
    rw [this]
    simp only [Option.bind_some]
    refine ⟨_,rfl,aGd _,⟨h1,?_,?_⟩,rfl⟩
    · simp only [];rw [wi (by omega)];omega
    · simp only [];rw [wi (by omega)];omega
  · rw [if_neg hc]
    exact ⟨_,rfl,aGd _,⟨h1,h2,h3⟩,rfl⟩
theorem rG (c:l01Cur) (n:Int) (h:rY c) (hn:1≤n∧n≤256):∃ r,cD c n=some r∧(0≤r.1∧r.1 < n)∧rY r.2∧r.2.fb=c.fb:=by
  unfold cD
  rw [if_neg (by omega),if_pos (by omega)]
  obtain ⟨r,e,g1,g2,g3⟩:=aN7 c h
  rw [show (l01Cur.mk c.fb c.fi c.fh)=c from rfl,e]
  simp only [Option.bind_some]
  rw [aN (by omega)]
  refine ⟨_,rfl,⟨Int.tmod_nonneg _ g1.1,Int.tmod_lt_of_pos _ (by omega)⟩,?_,rfl⟩
  unfold rY at g2 h ⊢
  simp only []
  exact ⟨h.1,g2.2⟩
theorem aOH (code:List Int) (h:code.length≤1048576):∃ c,uG code=some c∧rY c∧c.fb=code:=by
  unfold uG
  simp only [aO]
  have main:∀ (m k:Nat) (v:Int),m+k=code.length→∃ d,lp (lO code) (v,(k:Int))=some d:=by
    intro m
    induction m with
    | zero =>
      intro k v hk
      exact ⟨v,aH (by unfold lO;simp only [];rw [if_neg (by omega)];rfl)⟩
    | succ m ih =>
      intro k v hk
      have hlt:k < code.length:=by omega
      by_cases c:(k:Int) < 4000
      · obtain ⟨d,e⟩:=ih (k+1) (xX .i64 (i64.wrap (i64.wrap (i64.wrap (v*59)+i64.wrap code[k])+7)) 1073741823) (by omega)
        refine ⟨d,?_⟩
        rw [aQ (s':=(xX .i64 (i64.wrap (i64.wrap (i64.wrap (v*59)+i64.wrap code[k])+7)) 1073741823,((k+1:Nat):Int))),e]
        unfold lO
        simp only []
        rw [if_pos (by omega),aF hlt]
        have w:i64.wrap ((k:Int)+1)=((k+1:Nat):Int):=by rw [wi (by omega)];omega
        simp only [Option.bind_some,decide_eq_true c,if_true,aO,w]
      · refine ⟨v,aH ?_⟩
        unfold lO
        simp only []
        rw [if_pos (by omega)]
        simp only [Option.bind_some,decide_eq_false c,Bool.false_eq_true,if_false]
  obtain ⟨d,e⟩:=main code.length 0 (i64.wrap (1951+(code.length:Int))) (by omega)
  rw [show ((0:Nat):Int)=0 from rfl] at e
  rw [e]
  exact ⟨_,rfl,⟨h,by simp,by simp⟩,rfl⟩
end Go.Ev
/- Links that are drawn. -/
namespace Go.Ev
set_option linter.all false
theorem xH {fb:List Int} {c:l01Cur} (h:rY c) (e:c.fb=fb):rY ⟨fb,c.fi,c.fh⟩:=by
  subst e;exact h
def mkI (a b w x y:Int):QL:=⟨a,b,(w:Q),(x:Q),(y:Q)⟩
theorem aLJ {a b w x y:Int} (h:0≤a∧a < b∧b≤5) (hw:1≤w∧w≤9) (hx:-20≤x∧x≤20) (hy:-20≤y∧y≤20):LkI (mkI a b w x y):=⟨h,w,x,y,hw,hx,hy,rfl,rfl,rfl⟩
theorem aFU {a b w x y:Int} (ha:0≤a∧a≤5) (hb:0≤b∧b≤5) (hab:a≠b) (hw:1≤w∧w≤9) (hx:-20≤x∧x≤20) (hy:-20≤y∧y≤20) :
    ∃ k:QL,pO a b w x y=some (k.toL,true)∧LkI k∧((k.a=a∧k.b=b)∨(k.a=b∧k.b=a)):=by
  unfold pO
  simp only [aA3,zN,Option.bind_some]
  rw [decide_eq_true (show 0≤a∧a≤9 by omega),decide_eq_true (show 0≤b∧b≤9 by omega),decide_eq_true (show 1≤w∧w≤9999 by omega),decide_eq_true (show -1000000≤x∧x≤1000000 by omega),decide_eq_true (show -1000000≤y∧y≤1000000 by omega)]
  simp only [if_true,if_neg hab,Option.bind_some,Bool.not_true,Bool.false_eq_true,if_false]
  by_cases c:b < a
  · rw [if_pos c]
    simp only [Option.bind_some]
    rw [wi (n:=0 - x) (by omega),wi (n:=0 - y) (by omega),bS w (by omega),bS (0 - x) (by omega),bS (0 - y) (by omega),aAt (z:=w) (by omega),aAt (z:=0 - x) (by omega),aAt (z:=0 - y) (by omega)]
    exact ⟨mkI b a w (0 - x) (0 - y),rfl,aLJ (by omega) hw (by omega) (by omega),.inr ⟨rfl,rfl⟩⟩
  · rw [if_neg c]
    simp only [Option.bind_some]
    rw [bS w (by omega),bS x (by omega),bS y (by omega),aAt (z:=w) (by omega),aAt (z:=x) (by omega),aAt (z:=y) (by omega)]
    exact ⟨mkI a b w x y,rfl,aLJ (by omega) hw hx hy,.inl ⟨rfl,rfl⟩⟩
theorem aN4 (c:l01Cur) (n:Int) (h:rY c) (hn:1≤n∧n≤5):∃ (k:QL) (c':l01Cur),sE c n=some (k.toL,c')∧rY c'∧c'.fb=c.fb∧LkI k∧k.b≤n:=by
  obtain ⟨r1,a1,b1,c1,d1⟩:=rG ⟨c.fb,c.fi,c.fh⟩ n h (by omega)
  obtain ⟨r2,a2,b2,c2,d2⟩:=rG ⟨c.fb,r1.2.fi,r1.2.fh⟩ n (xH c1 d1) (by omega)
  obtain ⟨r3,a3,b3,c3,d3⟩:=rG ⟨c.fb,r2.2.fi,r2.2.fh⟩ 9 (xH c2 d2) (by omega)
  obtain ⟨r4,a4,b4,c4,d4⟩:=rG ⟨c.fb,r3.2.fi,r3.2.fh⟩ 41 (xH c3 d3) (by omega)
  obtain ⟨r5,a5,b5,c5,d5⟩:=rG ⟨c.fb,r4.2.fi,r4.2.fh⟩ 41 (xH c4 d4) (by omega)
  have pick:∃ v:Int,((if (r1.1=r2.1) then (chk (IntKind.i64.wrap (n+1)≠0)).bind fun _u=>(aZ ((IntKind.i64.wrap (r1.1+1)).tmod (IntKind.i64.wrap (n+1)))).bind fun v4=>some v4 else some r2.1):Option Int)=some v∧(0≤v∧v≤n)∧r1.1≠v:=by
    by_cases e:r1.1=r2.1
    · rw [if_pos e,wi (n:=n+1) (by omega),wi (n:=r1.1+1) (by omega),aN (by omega)]
      simp only [Option.bind_some,aO]
      refine ⟨_,rfl,?_⟩
      rw [Int.tmod_eq_of_lt (by omega) (by omega)];omega
    · rw [if_neg e];exact ⟨_,rfl,by omega,e⟩
  obtain ⟨v,ev,hv,hne⟩:=pick
  obtain ⟨k,ek,hk,hk2⟩:=aFU (a:=r1.1) (b:=v) (w:=1+r3.1) (x:=r4.1 - 20) (y:=r5.1 - 20) (by omega) (by omega) hne (by omega) (by omega) (by omega)
  refine ⟨k,⟨c.fb,r5.2.fi,r5.2.fh⟩,?_,xH c5 d5,rfl,hk,by omega⟩
  unfold sE
  rw [a1];simp only [Option.bind_some]
  rw [a2];simp only [Option.bind_some]
  rw [ev];simp only [Option.bind_some]
  rw [a3];simp only [Option.bind_some]
  rw [a4];simp only [Option.bind_some]
  rw [a5];simp only [Option.bind_some]
  rw [wi (n:=1+r3.1) (by omega),wi (n:=r4.1 - 20) (by omega),wi (n:=r5.1 - 20) (by omega),ek]
  rfl
structure LinkL (n:Int) (l:List QL):Prop where
  each:∀ x ∈ l,LkI x∧x.b≤n+1
  len:l.length≤7
  all:∀ k,1≤k→k≤n→∃ x ∈ l,x.b=k
theorem aOJ (c:l01Cur) (n:Int) (hn:1≤n∧n≤4):∀ (m k:Nat) (l:List QL) (fi fh:Int),(m:Int)+k=n+1→1≤k→rY ⟨c.fb,fi,fh⟩→l.length=k - 1→(∀ x ∈ l,LkI x∧x.b≤n)→(∀ j:Int,1≤j→j < k→∃ x ∈ l,x.b=j) →
    ∃ (l':List QL) (fi' fh':Int),lp (kF c n) ((k:Int),l.map QL.toL,fi,fh)=some (l'.map QL.toL,fi',fh')∧rY ⟨c.fb,fi',fh'⟩∧(l'.length:Int)=n∧(∀ x ∈ l',LkI x∧x.b≤n)∧∀ j:Int,1≤j→j≤n→∃ x ∈ l',x.b=j:=by
  intro m
  induction m with
  | zero =>
    intro k l fi fh hm hk hc hl he ha
    refine ⟨l,fi,fh,aH ?_,hc,by omega,he,fun j h1 h2=>ha j h1 (by omega)⟩
    unfold kF
    simp only []
    rw [if_neg (by omega)]
  | succ m ih =>
    intro k l fi fh hm hk hc hl he ha
    obtain ⟨r1,a1,b1,c1,d1⟩:=rG ⟨c.fb,fi,fh⟩ k hc (by omega)
    obtain ⟨r2,a2,b2,c2,d2⟩:=rG ⟨c.fb,r1.2.fi,r1.2.fh⟩ 9 (xH c1 d1) (by omega)
    obtain ⟨r3,a3,b3,c3,d3⟩:=rG ⟨c.fb,r2.2.fi,r2.2.fh⟩ 41 (xH c2 d2) (by omega)
    obtain ⟨r4,a4,b4,c4,d4⟩:=rG ⟨c.fb,r3.2.fi,r3.2.fh⟩ 41 (xH c3 d3) (by omega)
    obtain ⟨q,eq,hq,hq2⟩:=aFU (a:=r1.1) (b:=k) (w:=1+r2.1) (x:=r3.1 - 20) (y:=r4.1 - 20) (by omega) (by omega) (by omega) (by omega) (by omega) (by omega)
    have hqb:q.b=k:=by have:=hq.1;omega
    have st:kF c n ((k:Int),l.map QL.toL,fi,fh)=some (.inl (((k+1:Nat):Int),(l++[q]).map QL.toL,r4.2.fi,r4.2.fh)):=by
      unfold kF
      simp only []
      rw [if_pos (by omega),a1]
      simp only [Option.bind_some]
      rw [a2]
      simp only [Option.bind_some]
      rw [a3]
      simp only [Option.bind_some]
      rw [a4]
      simp only [Option.bind_some]
      rw [wi (n:=1+r2.1) (by omega),wi (n:=r3.1 - 20) (by omega),wi (n:=r4.1 - 20) (by omega),eq]
      simp only [Option.bind_some]
      rw [aN (by rw [List.length_map];omega),wi (n:=(k:Int)+1) (by omega)]
      simp only [Option.bind_some,aO,List.map_append,List.map_cons,List.map_nil]
      rfl
    rw [aQ st]
    refine ih (k+1) (l++[q]) r4.2.fi r4.2.fh (by omega) (by omega) (xH c4 d4) (by rw [List.length_append,List.length_singleton];omega) (fun x hx=>?_) (fun j h1 h2=>?_)
    · rcases List.mem_append.1 hx with hx | hx
      · exact he x hx
      · simp at hx;subst hx;exact ⟨hq,by omega⟩
    · by_cases e:j=k
      · exact ⟨q,by simp,by omega⟩
      · obtain ⟨x,hx,h⟩:=ha j h1 (by omega)
        exact ⟨x,by simp [hx],h⟩
theorem aOI (c:l01Cur) (n:Int) (hn:1≤n∧n≤4):∀ (m:Nat) (l:List QL) (fi fh:Int),rY ⟨c.fb,fi,fh⟩→l.length+m≤7→(∀ x ∈ l,LkI x∧x.b≤n+1) →
    ∃ (l':List QL) (fi' fh':Int),lp (kE c n) ((m:Int),l.map QL.toL,fi,fh)=some ((l++l').map QL.toL,fi',fh')∧rY ⟨c.fb,fi',fh'⟩∧(l++l').length≤7∧∀ x ∈ l++l',LkI x∧x.b≤n+1:=by
  intro m
  induction m with
  | zero =>
    intro l fi fh hc hl he
    refine ⟨[],fi,fh,aH ?_,hc,by simpa using hl,by simpa using he⟩
    unfold kE
    simp only []
    rw [if_neg (by omega),List.append_nil]
  | succ m ih =>
    intro l fi fh hc hl he
    obtain ⟨q,c',a1,a2,a3,a4,a5⟩:=aN4 ⟨c.fb,fi,fh⟩ (n+1) hc (by omega)
    have st:kE c n (((m+1:Nat):Int),l.map QL.toL,fi,fh)=some (.inl ((m:Int),(l++[q]).map QL.toL,c'.fi,c'.fh)):=by
      unfold kE
      simp only []
      rw [if_pos (by omega),wi (n:=n+1) (by omega),a1]
      simp only [Option.bind_some]
      rw [aN (by rw [List.length_map];omega),wi (n:=((m+1:Nat):Int) - 1) (by omega)]
      simp only [Option.bind_some,aO,List.map_append,List.map_cons,List.map_nil]
      rw [show ((m+1:Nat):Int) - 1=(m:Int) by omega]
    rw [aQ st]
    obtain ⟨l',fi',fh',g1,g2,g3,g4⟩:=ih (l++[q]) c'.fi c'.fh (xH a2 a3) (by rw [List.length_append,List.length_singleton];omega) (fun x hx=>by
      rcases List.mem_append.1 hx with hx | hx
      · exact he x hx
      · simp at hx;subst hx;exact ⟨a4,a5⟩)
    have e:l++[q]++l'=l++(q::l'):=by simp
    rw [e] at g1 g3 g4
    exact ⟨q::l',fi',fh',g1,g2,g3,g4⟩
theorem aN1 (c:l01Cur) (n:Int) (h:rY c) (hn:1≤n∧n≤4):∃ (l:List QL) (c':l01Cur),sD c n=some (l.map QL.toL,c')∧rY c'∧c'.fb=c.fb∧LinkL n l:=by
  obtain ⟨l1,f1,g1,e1,o1,n1,h1,a1⟩:=aOJ c n hn n.toNat 1 [] c.fi c.fh (by omega) (by omega) h rfl (by simp) (fun j h1 h2=>by omega)
  obtain ⟨r,e2,b2,o2,d2⟩:=rG ⟨c.fb,f1,g1⟩ 4 o1 (by omega)
  obtain ⟨l2,f3,g3,e3,o3,n3,h3⟩:=aOI c n hn r.1.toNat l1 r.2.fi r.2.fh (xH o2 d2) (by omega) (fun x hx=>⟨(h1 x hx).1,by have:=(h1 x hx).2;omega⟩)
  refine ⟨l1++l2,⟨c.fb,f3,g3⟩,?_,o3,rfl,⟨h3,n3,fun k k1 k2=>?_⟩⟩
  · unfold sD
    rw [show ((1:Nat):Int)=1 from rfl,List.map_nil] at e1
    rw [e1]
    simp only [Option.bind_some]
    rw [e2]
    simp only [Option.bind_some]
    rw [show ((r.1.toNat:Nat):Int)=r.1 by omega] at e3
    rw [e3]
    rfl
  · obtain ⟨x,hx,e⟩:=a1 k k1 k2
    exact ⟨x,by simp [hx],e⟩
end Go.Ev
/- Is it a tree, both programs, and the law. -/
namespace Go.Ev
set_option linter.all false
def aB3 (t:Tree):List Int:=t.fNodes.map (·.fNode)
theorem aJu (a b:Tree) (h:nD a≤4294967296):qU a b=some (decide (a=b)):=by
  unfold nD nZ at h
  have hl:=iL bN a.fNodes
  obtain ⟨a⟩:=a
  obtain ⟨b⟩:=b
  simp only [] at h hl
  unfold qU
  by_cases hn:a.length=b.length
  · rw [if_neg (by simp only [];omega),aGO a b hn (fun k ha hb=>by
      have he:=kH (w:=bN) (List.getElem_mem ha)
      unfold pV
      simp only []
      rw [if_pos (by omega),aF ha,aF hb,wi (by omega)]
      simp only [Option.bind_some]
      rw [aD4 _ _ (by omega)]
      by_cases c:a[k]=b[k] <;> simp [c]) (by unfold pV;simp only [];rw [if_neg (by omega)])]
    by_cases c:a=b <;> simp [c]
  · rw [if_pos (by simp only [];omega)]
    have:a≠b:=by rintro rfl;exact hn rfl
    simp [this]
def xF (t:Tree):Prop:=wN (eF t.fNodes) (aB3 t)=some t
noncomputable instance (t:Tree):Decidable (xF t):=Classical.propDecidable _
end Go.Ev
/- Paths of a tree end: what a tree's node hands up lies later in the order. -/
namespace Go.Ev
set_option linter.all false
def pr (s:List Link) (x y:Int):Prop:=∃ l ∈ s,l.fA=x∧l.fB=y
theorem aGF {a b:List Link} {x y:Int}:pr (a++b) x y↔pr a x y∨pr b x y:=by
  unfold pr
  constructor
  · rintro ⟨l,h,e⟩
    rcases List.mem_append.1 h with h | h
    · exact .inl ⟨l,h,e⟩
    · exact .inr ⟨l,h,e⟩
  · rintro (⟨l,h,e⟩ | ⟨l,h,e⟩)
    · exact ⟨l,List.mem_append_left _ h,e⟩
    · exact ⟨l,List.mem_append_right _ h,e⟩
theorem aDJ {a:List Link} {l:Link} {x y:Int}:pr (l::a) x y↔(l.fA=x∧l.fB=y)∨pr a x y:=by
  unfold pr;simp only [List.mem_cons,exists_eq_or_imp]
theorem aLq {x y:Int}:¬pr [] x y:=by rintro ⟨l,h,_⟩;cases h
theorem aM9 {s:List Link} {l:Link} {s':List Link} {e:Rat} (h:zX s l=some (s',e)) (x y:Int):pr s' x y↔pr s x y∨(l.fA=x∧l.fB=y):=by
  have ins:∀ p,pr (s.take p++[l]++s.drop p) x y↔pr s x y∨(l.fA=x∧l.fB=y):=by
    intro p
    have e1:pr s x y↔pr (s.take p) x y∨pr (s.drop p) x y:=by rw [← aGF,List.take_append_drop]
    rw [e1,List.append_assoc,aGF,List.singleton_append,aDJ]
    constructor
    · rintro (h | h | h)
      · exact .inl (.inl h)
      · exact .inr h
      · exact .inl (.inr h)
    · rintro ((h | h) | h)
      · exact .inl h
      · exact .inr (.inr h)
      · exact .inr (.inl h)
  unfold zX at h
  by_cases c:dQ l s < s.length
  · rw [dif_pos c] at h
    by_cases c2:eT l s[dQ l s]
    · rw [if_pos c2] at h;cases h;exact ins _
    · rw [if_neg c2] at h
      have nl:=aAX l s c
      have hA:s[dQ l s].fA=l.fA∧s[dQ l s].fB=l.fB:=by unfold eT at c2 nl;omega
      by_cases O:xE s[dQ l s] l
      · rw [if_pos O] at h;cases h
        have e1:pr s x y↔pr (s.take (dQ l s)) x y∨((s[dQ l s].fA=x∧s[dQ l s].fB=y)∨pr (s.drop (dQ l s+1)) x y):=by
          rw [← aDJ,← List.drop_eq_getElem_cons c,← aGF,List.take_append_drop]
        rw [e1,List.append_assoc,aGF,List.singleton_append,aDJ]
        have e2:(aAk s[dQ l s] l).fA=s[dQ l s].fA:=rfl
        have e3:(aAk s[dQ l s] l).fB=s[dQ l s].fB:=rfl
        rw [e2,e3,hA.1,hA.2]
        constructor
        · rintro (h | h | h)
          · exact .inl (.inl h)
          · exact .inr h
          · exact .inl (.inr (.inr h))
        · rintro ((h | h | h) | h)
          · exact .inl h
          · exact .inr (.inl h)
          · exact .inr (.inr h)
          · exact .inr (.inl h)
      · rw [if_neg O] at h;cases h
  · rw [dif_neg c] at h;cases h;exact ins _
theorem aHS:∀ (l s:List Link) (e:Rat) (s':List Link) (e':Rat),tE l s e=some (s',e')→∀ x y,pr s' x y↔pr s x y∨pr l x y
  | [],s,e,s',e',h,x,y=>by
    rw [tE] at h;cases h
    exact ⟨.inl,fun h=>h.elim id (fun h=>(aLq h).elim)⟩
  | a::r,s,e,s',e',h,x,y=>by
    rw [tE] at h
    cases ha:zX s a with
    | none=>rw [ha] at h;cases h
    | some t =>
      obtain ⟨s1,e1⟩:=t
      rw [ha] at h
      simp only [] at h
      by_cases c:bJ (RA e e1)
      · rw [if_pos c] at h
        rw [aHS r s1 _ s' e' h x y,aM9 ha,aDJ,or_assoc]
      · rw [if_neg c] at h;cases h
theorem aLU {l s:List Link} {e:Rat} (h:jnP l=some (s,e)) (x y:Int):pr s x y↔pr l x y:=by
  unfold jnP at h
  by_cases c:∀ x ∈ l,ValidL x
  · rw [if_pos c] at h
    rw [aHS l [] _ s e h x y]
    exact ⟨fun h=>h.elim (fun h=>(aLq h).elim) id,.inr⟩
  · rw [if_neg c] at h;cases h
def adj (s:List Link) (x y:Int):Prop:=pr s x y∨pr s y x
def en (s:List Link) (x:Int):Prop:=∃ y,adj s x y
structure PathN (o:List Int) (n:TreeNode):Prop where
  near:∀ x,en n.fMessages x→x ∈ aBb n.fCond
  clq:∀ x y,x ∈ aBb n.fCond→y ∈ aBb n.fCond→x < y→pr n.fMessages x y
  late:∀ i (h:i < o.length),o[i]=n.fNode→∀ p ∈ aBb n.fCond,p ∉ o.take (i+1)
end Go.Ev
/- Trees in another order, and the nodes that a change affects: both programs, and the laws. -/
namespace Go.Ev
set_option linter.all false
end Go.Ev
/- The law of building a tree; inserting a link, both programs, and the law. -/
namespace Go.Ev
set_option linter.all false
end Go.Ev
/- Cliques: their nodes in order. -/
set_option linter.all false
namespace Go.Ev
set_option linter.all false
def xL (l m:List Int):List Int:=m.foldl wV l
theorem yZ:∀ (m l:List Int),l.Pairwise (· < ·)→(xL l m).Pairwise (· < ·)∧(∀ x,x ∈ xL l m↔x ∈ l∨x ∈ m)∧(xL l m).length≤l.length+m.length
  | [],l,h=>⟨h,by simp [xL],by simp [xL]⟩
  | n::m,l,h=>by
    obtain ⟨a,b,c⟩:=yZ m (wV l n) (rS l n h)
    have:=vZ l n
    refine ⟨a,fun x=>?_,?_⟩
    · show x ∈ xL (wV l n) m↔_
      rw [b x,vY,List.mem_cons]
      constructor
      · rintro ((h | h) | h) <;> simp [h]
      · rintro (h | h | h) <;> simp [h]
    · show (xL (wV l n) m).length≤_
      simp only [List.length_cons];omega
def gD (k:Clique):List Int:=xL (xL [] k.fFrontal) k.fSeparator
theorem mP (k:Clique):(gD k).Pairwise (· < ·)∧(∀ x,x ∈ gD k↔x ∈ k.fFrontal∨x ∈ k.fSeparator)∧(gD k).length≤k.fFrontal.length+k.fSeparator.length:=by
  obtain ⟨a,b,c⟩:=yZ k.fFrontal [] List.Pairwise.nil
  obtain ⟨a',b',c'⟩:=yZ k.fSeparator (xL [] k.fFrontal) a
  refine ⟨a',fun x=>by unfold gD;rw [b' x,b x];simp,?_⟩
  unfold gD;simp only [List.length_nil] at c;omega
theorem yC (k:Clique):jO k=k.fFrontal.length+k.fSeparator.length:=by
  unfold jO qE;rw [oL,oL]
def zC (l:List Clique) (a:Int):List Int:=if 0≤a then (match l[a.toNat]? with | some k=>gD k | none=>[]) else []
def ddp:Option Int→List Int→List Int
  | _,[]=>[]
  | p,x::l=>if p=some x then ddp (some x) l else x::ddp (some x) l
theorem aE0 (p:Option Int) (x:Int) (l:List Int):ddp p (x::l)=if p=some x then ddp (some x) l else x::ddp (some x) l:=rfl
theorem aGa:∀ (l:List Int) (p:Option Int),l.Pairwise (·≤·)→(∀ q,p=some q→∀ x ∈ l,q≤x)→(ddp p l).Pairwise (· < ·)∧(∀ x,x ∈ ddp p l↔x ∈ l∧p≠some x)∧(∀ q,p=some q→∀ x ∈ ddp p l,q < x)
  | [],p,_,_=>by simp [ddp]
  | y::l,p,h,hp=>by
    rw [List.pairwise_cons] at h
    obtain ⟨a,b,c⟩:=aGa l (some y) h.2 (fun q e x hx=>by cases e;exact h.1 x hx)
    have hc:=c y rfl
    by_cases hy:p=some y
    · have e:ddp p (y::l)=ddp (some y) l:=by rw [aE0,if_pos hy]
      rw [e]
      subst hy
      refine ⟨a,fun x=>?_,fun q e x hx=>by cases e;exact hc x hx⟩
      rw [b x,List.mem_cons]
      constructor
      · rintro ⟨h1,h2⟩;exact ⟨.inr h1,h2⟩
      · rintro ⟨h1 | h1,h2⟩
        · exact absurd (by rw [h1]) h2
        · exact ⟨h1,h2⟩
    · have e:ddp p (y::l)=y::ddp (some y) l:=by rw [aE0,if_neg hy]
      rw [e]
      refine ⟨List.pairwise_cons.2 ⟨hc,a⟩,fun x=>?_,fun q eq x hx=>?_⟩
      · rw [List.mem_cons,List.mem_cons,b x]
        constructor
        · rintro (h1 | ⟨h1,h2⟩)
          · subst h1;exact ⟨.inl rfl,hy⟩
          · refine ⟨.inr h1,fun e=>?_⟩
            have h3:=hp x e y (by simp)
            have h4:=h.1 x h1
            exact h2 (by congr 1;omega)
        · rintro ⟨h1 | h1,h2⟩
          · exact .inl h1
          · by_cases h3:x=y
            · exact .inl h3
            · exact .inr ⟨h1,fun e=>h3 (by injection e with e;exact e.symm)⟩
      · have h1:q≤y:=hp q eq y (by simp)
        have h2:q≠y:=fun e=>hy (by rw [eq,e])
        rcases List.mem_cons.1 hx with e | e
        · omega
        · have:=hc x e;omega
theorem aIK (r:List Int) (h:r.length≤4294967296):lp (eH r) (0,[])=some (ddp none r):=by
  have main:∀ m k:Nat,m+k=r.length→∀ t:List Int,t.length≤k→lp (eH r) ((k:Int),t)=some (t++ddp (if k=0 then none else r[k - 1]?) (r.drop k)):=by
    intro m
    induction m with
    | zero =>
      intro k hk t ht
      have:k=r.length:=by omega
      subst this
      rw [aH (r:=t) (by unfold eH;simp only [];rw [if_neg (by omega)]),List.drop_length];simp [ddp]
    | succ m ih =>
      intro k hk t ht
      have hlt:k < r.length:=by omega
      rw [List.drop_eq_getElem_cons hlt]
      have hstep:eH r ((k:Int),t)=some (.inl ((k:Int)+1,if (if k=0 then none else r[k - 1]?)=some r[k] then t else t++[r[k]])):=by
        unfold eH
        simp only []
        rw [if_pos (by omega),aF hlt,wi (n:=(k:Int)+1) (by omega),aN (by omega)]
        simp only [Option.bind_some,aO]
        by_cases k0:k=0
        · subst k0;simp
        · have hk1:k - 1 < r.length:=by omega
          rw [if_neg (by omega),if_neg k0,wi (n:=(k:Int) - 1) (by omega),show (k:Int) - 1=((k - 1:Nat):Int) by omega,aF hk1,List.getElem?_eq_getElem hk1]
          simp only [Option.bind_some]
          by_cases c:r[k - 1]=r[k]
          · simp [c]
          · simp [c]
      rw [aQ hstep,show (k:Int)+1=((k+1:Nat):Int) by omega,ih (k+1) (by omega) _ (by by_cases c:(if k=0 then none else r[k - 1]?)=some r[k];(rw [if_pos c];omega);(rw [if_neg c];simp;omega))]
      rw [if_neg (show ¬(k+1=0) by omega),show k+1 - 1=k by omega,List.getElem?_eq_getElem hlt]
      rw [aE0]
      by_cases c:(if k=0 then none else r[k - 1]?)=some r[k]
      · rw [if_pos c,if_pos c]
      · rw [if_neg c,if_neg c];simp
  have:=main r.length 0 (by omega) [] (by simp)
  simpa using this
theorem aDz (l:List Int) (h:l.length≤4294967296):cL l=some l:=by
  unfold cL
  rw [aN (by simp;omega)]
  simp only [Option.bind_some,aO,List.nil_append]
theorem aM4 (k:Clique):ddp none (srt (k.fFrontal++k.fSeparator))=gD k:=by
  have hs:(srt (k.fFrontal++k.fSeparator)).Pairwise (·≤·):=by
    have:=List.pairwise_mergeSort (le:=fun (x y:Int)=>decide (x≤y)) (fun a b c=>by simp;omega) (fun a b=>by simp;omega) (k.fFrontal++k.fSeparator)
    unfold srt
    exact this.imp (fun h=>by simpa using h)
  obtain ⟨a,b,_⟩:=aGa _ none hs (by simp)
  obtain ⟨a',b',_⟩:=mP k
  refine vQ a a' (fun x=>?_)
  rw [b x,b' x]
  unfold srt
  simp
theorem mY (l:List Clique) (a:Int) (h:bM l≤1048576):cR l a=some (zC l a):=by
  unfold bM at h
  have hl:=iL jO l
  unfold cR zC
  by_cases h0:0≤a
  · rw [if_neg (by omega),if_pos h0]
    simp only [Option.bind_some,decide_eq_true_eq]
    by_cases h1:(l.length:Int)≤a
    · rw [if_pos h1,List.getElem?_eq_none (by omega)]
    · obtain ⟨n,rfl⟩:∃ n:Nat,a=n:=⟨a.toNat,by omega⟩
      have hn:n < l.length:=by omega
      have he:=kH (w:=jO) (List.getElem_mem hn)
      rw [yC] at he
      rw [if_neg h1,aF hn]
      simp only [Option.bind_some]
      rw [aDz _ (by omega)]
      simp only [Option.bind_some,aO]
      rw [aN (by omega)]
      simp only [Option.bind_some]
      have hsl:(srt ((l[n]).fFrontal++(l[n]).fSeparator)).length=(l[n]).fFrontal.length+(l[n]).fSeparator.length:=by rw [aGq];simp
      unfold aK4
      rw [aN (by simp;omega)]
      simp only [Option.bind_some]
      rw [aIK _ (by omega),aM4]
      simp [hn]
  · rw [if_pos (by omega),if_neg h0];rfl
theorem aIL (l:List Clique) (a:Int):(zC l a).length≤bM l:=by
  unfold zC bM
  by_cases h0:0≤a
  · rw [if_pos h0]
    by_cases hn:a.toNat < l.length
    · rw [List.getElem?_eq_getElem hn]
      have he:=kH (w:=jO) (List.getElem_mem hn)
      rw [yC] at he
      have:=(mP l[a.toNat]).2.2
      simp only [];omega
    · rw [List.getElem?_eq_none (by omega)];simp
  · rw [if_neg h0];simp
end Go.Ev
/- Deleting a link, both programs, and the law. -/
namespace Go.Ev
set_option linter.all false
theorem aHA {s u:List Link} {e:Rat} (h:jnP s=some (u,e)):fO u=fO s:=by
  refine vQ (zG u) (zG s) fun x=>?_
  have h1:∀ (a b:List Link),(∀ x y,pr a x y→pr b x y)→(∃ l ∈ a,l.fA=x∨l.fB=x)→∃ l ∈ b,l.fA=x∨l.fB=x:=by
    rintro a b hab ⟨l,hl,c⟩
    obtain ⟨m,hm,e1,e2⟩:=hab l.fA l.fB ⟨l,hl,rfl,rfl⟩
    exact ⟨m,hm,by rw [e1,e2];exact c⟩
  rw [zE,zE]
  exact ⟨fun ⟨a,b⟩=>⟨a,h1 u s (fun x y=>(aLU h x y).1) b⟩,fun ⟨a,b⟩=>⟨a,h1 s u (fun x y=>(aLU h x y).2) b⟩⟩
end Go.Ev
/- Trees that are drawn. -/
namespace Go.Ev
set_option linter.all false
theorem LinkL.tie {n:Int} {l:List QL} (h:LinkL n l) {o:List Int} (nd:o.Nodup) (hm:∀ u,u ∈ o↔u ∈ fO (l.map QL.toL)):Tie l o:=by
  refine aKY h.each (by have:=h.len;omega) h.all nd fun u=>?_
  rw [hm,aEx]
  constructor
  · rintro ⟨h1,z,hz,ht⟩
    obtain ⟨y,hy,rfl⟩:=List.mem_map.1 hz
    exact ⟨h1.1,y,hy,ht⟩
  · rintro ⟨h1,y,hy,ht⟩
    have:=(h.each y hy).1.1
    exact ⟨by omega,y.toL,List.mem_map_of_mem hy,ht⟩
theorem LinkL.tie0 {n:Int} {l:List QL} (h:LinkL n l):Tie l (fO (l.map QL.toL)):=h.tie (zD _) fun _=>Iff.rfl
theorem Base.valid {l:List QL} {o:List Int} (hb:Base l o):∀ x ∈ l.map QL.toL,ValidL x:=by
  intro x hx
  have:=hb.join.1
  exact (aBG this).1 x hx
theorem Tie.sz {l:List QL} {o:List Int} (h:Tie l o):aG (l.map QL.toL)≤2000:=by
  have h1:=aAR h.base.valid
  rw [List.length_map] at h1
  have:=h.len
  omega
theorem Tie.join {l:List QL} {o:List Int} (h:Tie l o):∃ s e,jnP (l.map QL.toL)=some (s,e)∧LSet s∧fO s=fO (l.map QL.toL):=by
  have h1:=h.base.join.1
  exact ⟨_,_,h1,(aBG h1).2.1,aHA h1⟩
theorem aLw (c:l01Cur) (s:List Int) (hs:s.length≤9):∀ (m k:Nat) (a:List Int) (fi fh:Int),m+k=s.length→rY ⟨c.fb,fi,fh⟩→a.Perm (s.take k) →
    ∃ (a':List Int) (fi' fh':Int),lp (kD c s) ((k:Int),a,fi,fh)=some (a',fi',fh')∧rY ⟨c.fb,fi',fh'⟩∧a'.Perm s:=by
  intro m
  induction m with
  | zero =>
    intro k a fi fh hm hc hp
    refine ⟨a,fi,fh,aH ?_,hc,by rw [List.take_of_length_le (by omega)] at hp;exact hp⟩
    unfold kD
    simp only []
    rw [if_neg (by omega)]
  | succ m ih =>
    intro k a fi fh hm hc hp
    have hlt:k < s.length:=by omega
    have hl:a.length=k:=by rw [hp.length_eq,List.length_take];omega
    obtain ⟨r,a1,b1,c1,d1⟩:=rG ⟨c.fb,fi,fh⟩ ((k:Int)+1) hc (by omega)
    have e1:sub a 0 r.1=some (a.take r.1.toNat):=by rw [qZ _ _ _ (by omega)];simp
    have e2:sub a r.1 (a.length:Int)=some (a.drop r.1.toNat):=by
      rw [qZ _ _ _ (by omega),List.take_of_length_le (by rw [List.length_drop];omega)]
    have t1:(a.take r.1.toNat).length≤9:=by rw [List.length_take];omega
    have t2:(a.drop r.1.toNat).length≤9:=by rw [List.length_drop];omega
    have st:kD c s ((k:Int),a,fi,fh)=some (.inl (((k+1:Nat):Int),a.take r.1.toNat++[s[k]]++a.drop r.1.toNat,r.2.fi,r.2.fh)):=by
      unfold kD
      simp only []
      rw [if_pos (by omega),aF hlt]
      simp only [Option.bind_some,aO]
      rw [wi (n:=(a.length:Int)+1) (by omega),hl,a1]
      simp only [Option.bind_some]
      rw [e1]
      simp only [Option.bind_some,List.nil_append,List.length_nil,Nat.zero_add]
      rw [aN (by omega)]
      simp only [Option.bind_some,aO]
      rw [aN (by omega)]
      simp only [Option.bind_some,aO]
      rw [hl] at e2
      rw [e2]
      simp only [Option.bind_some]
      rw [aN (by rw [List.length_append,List.length_singleton];omega),wi (n:=(k:Int)+1) (by omega)]
      rfl
    rw [aQ st]
    refine ih (k+1) _ _ _ (by omega) (xH c1 d1) ?_
    rw [List.take_add_one,List.getElem?_eq_getElem hlt]
    have p1:(a.take r.1.toNat++[s[k]]++a.drop r.1.toNat).Perm (a++[s[k]]):=by
      rw [List.append_assoc]
      refine (List.Perm.append_left _ List.perm_append_comm).trans ?_
      rw [← List.append_assoc,List.take_append_drop]
    exact p1.trans (hp.append_right _)
theorem aLN (c:l01Cur) (h:rY c):∃ (n:Int) (l:List QL) (o:List Int) (c':l01Cur),sA c=some (l.map QL.toL,o,c')∧rY c'∧c'.fb=c.fb∧LinkL n l∧(1≤n∧n≤4)∧Tie l o:=by
  obtain ⟨r,a1,b1,c1,d1⟩:=rG ⟨c.fb,c.fi,c.fh⟩ 4 h (by omega)
  obtain ⟨l,c2,a2,o2,f2,hl⟩:=aN1 ⟨c.fb,r.2.fi,r.2.fh⟩ (1+r.1) (xH c1 d1) (by omega)
  obtain ⟨s,e,j1,j2,j3⟩:=hl.tie0.join
  have hz:=hl.tie0.sz
  have js:=(xK (l.map QL.toL) (by omega)).1
  rw [j1] at js
  have ns:=aGi j2
  rw [j3] at ns
  obtain ⟨o,f3,g3,a3,o3,p3⟩:=aLw c (fO (l.map QL.toL)) (zF _) _ 0 [] c2.fi c2.fh (Nat.add_zero _) (xH o2 f2) (by simp)
  refine ⟨1+r.1,l,o,⟨c.fb,f3,g3⟩,?_,o3,rfl,hl,by omega,hl.tie (p3.nodup_iff.2 (zD _)) fun u=>p3.mem_iff⟩
  unfold sA
  rw [a1];simp only [Option.bind_some]
  rw [wi (n:=1+r.1) (by omega),a2];simp only [Option.bind_some]
  rw [js];simp only [Option.bind_some,pk]
  rw [ns];simp only [Option.bind_some]
  rw [show ((0:Nat):Int)=0 from rfl] at a3
  rw [a3]
  rfl
def mM (l:List QL) (o:List Int):Tree:=⟨(cS l o o []).map NQ.toN⟩
theorem aNL (code:List Int) (h:code.length≤1048576):∃ (n:Int) (l:List QL) (o:List Int),qJ code=some (mM l o)∧LinkL n l∧(1≤n∧n≤4)∧Tie l o:=by
  obtain ⟨c,e1,c1,f1⟩:=aOH code h
  obtain ⟨n,l,o,c',e2,c2,f2,hl,hn,ht⟩:=aLN ⟨c.fb,c.fi,c.fh⟩ c1
  refine ⟨n,l,o,?_,hl,hn,ht⟩
  have hz:=ht.sz
  have ho:o.length≤5:=ht.base.len
  have bq:=(aKb (l.map QL.toL) o (by omega) (by omega)).1
  rw [ht.build] at bq
  unfold qJ vG
  rw [e1];simp only [Option.bind_some]
  rw [e2];simp only [Option.bind_some]
  rw [bq]
  rfl
end Go.Ev
/- The program alone: links, order and test of a tree (the seat lacks the other program's). -/
namespace Go.Ev
set_option linter.all false
theorem aJP (t:Tree) (h:nD t≤4294967296):mB t=some (eF t.fNodes):=by
  unfold nD nZ at h
  have hl:=iL bN t.fNodes
  have hmem:∀ k (hk:k < t.fNodes.length),aG (t.fNodes[k]).fOwn≤4294967296:=fun k hk=>by
    have he:=kH (w:=bN) (List.getElem_mem hk)
    have hn:bN t.fNodes[k]=aG (t.fNodes[k]).fOwn+aS (t.fNodes[k]).fCond+aG (t.fNodes[k]).fMessages+bG (t.fNodes[k]).fEnergy:=rfl
    omega
  have hln:∀ k (hk:k < t.fNodes.length),(eF (t.fNodes.take k)).length+((t.fNodes[k]).fOwn).length≤4294967296:=fun k hk=>by
    have:=aIJ t.fNodes h (k+1)
    rw [aC3 _ _ hk,List.length_append] at this;omega
  have aux:∀ (step:(Int × (List Link))→Option ((Int × (List Link)) ⊕ (List Link))),(∀ k (hk:k < t.fNodes.length),step ((k:Int),eF (t.fNodes.take k))=some (.inl (((k+1:Nat):Int),eF (t.fNodes.take (k+1)))))→step ((t.fNodes.length:Int),eF (t.fNodes.take t.fNodes.length))=some (.inr (eF t.fNodes))→lp step (0,[])=some (eF t.fNodes):=by
    intro step h1 h2
    have main:∀ m k:Nat,m+k=t.fNodes.length→lp step ((k:Int),eF (t.fNodes.take k))=some (eF t.fNodes):=by
      intro m
      induction m with
      | zero =>
        intro k hk
        have:k=t.fNodes.length:=by omega
        subst this
        exact aH h2
      | succ m ih =>
        intro k hk
        rw [aQ (h1 k (by omega))]
        exact ih (k+1) (by omega)
    exact main t.fNodes.length 0 (by omega)
  unfold mB
  rw [aux (kW t) (fun k hk=>by
    have:=hmem k hk
    have:=hln k hk
    unfold kW
    simp only []
    rw [if_pos (by omega),aF hk]
    simp only [Option.bind_some]
    rw [pU _ (by omega)]
    simp only [Option.bind_some]
    rw [aN (by omega),aC3 _ _ hk,wi1 (by omega)];rfl) (by unfold kW;simp only [];rw [if_neg (by omega),List.take_length])]
  rfl
theorem aJC (t:Tree) (h:t.fNodes.length≤4294967296):mX t=some (aB3 t):=by
  have:mX t=some (aB3 t):=by
    have:=(lU (step:=nU t) t.fNodes (fun k u=>((k:Int),u)) (fun u n=>u++[n.fNode]) (fun u=>u) (fun k u=>u.length≤k) (fun k u hk hi=>by
      constructor
      · unfold nU
        simp only []
        rw [if_pos (by omega),aF hk]
        simp only [Option.bind_some,wi1 (by omega:k≤4294967296)]
        rw [aN (by omega)];rfl
      · rw [List.length_append,List.length_singleton];omega) (fun u _=>by unfold nU;simp only [];rw [if_neg (by omega)]) [] (Nat.zero_le _)).1
    rw [show ((0:Nat):Int)=0 from rfl,aBI,List.nil_append] at this
    unfold mX
    rw [this];rfl
  exact this
theorem aMy (t:Tree) (h:nD t≤4194304):uL t=some (decide (xF t)):=by
  have h0:=h
  unfold nD nZ at h
  have hl:=iL bN t.fNodes
  have ho:=aCE t.fNodes
  have l2:=aJP t (by omega)
  have o2:=aJC t (by omega)
  have b2:=(aKb (eF t.fNodes) (aB3 t) (by omega) (by unfold aB3;rw [List.length_map];omega)).2
  unfold uL
  rw [l2]
  simp only [Option.bind_some,o2,b2]
  by_cases c:xF t
  · have c':=c
    unfold xF at c'
    rw [c',decide_eq_true c]
    simp only [pkT,if_true,aJu t t (by omega),Option.bind_some,decide_true]
  · rw [decide_eq_false c]
    cases g:wN (eF t.fNodes) (aB3 t) with
    | none=>simp [pkT]
    | some u =>
      have:¬t=u:=by rintro rfl;exact c g
      simp only [pkT,if_true,aJu t u (by omega),Option.bind_some,decide_eq_false this]
end Go.Ev
/- Inserting all links, both programs, and the law. -/
namespace Go.Ev
set_option linter.all false
theorem aHi (a:Int) (c:Nat):∀ r:List Int,r.Nodup→(r.map (fun v=>if a=v then c else 0)).sum≤c
  | [],_=>Nat.zero_le _
  | v::r,h=>by
    rw [List.nodup_cons] at h
    rw [List.map_cons,List.sum_cons]
    by_cases e:a=v
    · rw [if_pos e]
      have:∀ l:List Int,v ∉ l→(l.map (fun v=>if a=v then c else 0)).sum=0:=by
        intro l
        induction l with
        | nil=>intro _;rfl
        | cons x l ih =>
          intro hx
          simp only [List.mem_cons,not_or] at hx
          rw [List.map_cons,List.sum_cons,ih hx.2,if_neg (fun e'=>hx.1 (by rw [← e,e']))]
      rw [this r h.1];omega
    · rw [if_neg e]
      have:=aHi a c r h.2
      omega
theorem aHy (o:List Int) (r:List Int) (hr:r.Nodup):∀ s:List Link,(r.map (fun v=>aG (s.filter (oV o v)))).sum≤aG s
  | []=>by
    have:∀ l:List Int,(l.map (fun v=>aG (([]:List Link).filter (oV o v)))).sum=0:=by
      intro l
      induction l with
      | nil=>rfl
      | cons x l ih=>rw [List.map_cons,List.sum_cons,ih];rfl
    rw [this];exact Nat.zero_le _
  | x::s=>by
    have ih:=aHy o r hr s
    have h1:=aHi (aY o [x.fA,x.fB]) (bP x+1) r hr
    have e:∀ l:List Int,(l.map (fun v=>aG ((x::s).filter (oV o v)))).sum=(l.map (fun v=>if aY o [x.fA,x.fB]=v then bP x+1 else 0)).sum+(l.map (fun v=>aG (s.filter (oV o v)))).sum:=by
      intro l
      induction l with
      | nil=>rfl
      | cons v l ih =>
        simp only [List.map_cons,List.sum_cons,ih]
        have:aG ((x::s).filter (oV o v))=(if aY o [x.fA,x.fB]=v then bP x+1 else 0)+aG (s.filter (oV o v)):=by
          rw [List.filter_cons]
          unfold oV
          by_cases c:aY o [x.fA,x.fB]=v
          · rw [if_pos (by simpa using c),if_pos c];unfold aG;rw [jP]
          · rw [if_neg (by simpa using c),if_neg c];omega
        omega
    rw [e]
    have:aG (x::s)=bP x+1+aG s:=by unfold aG;rw [jP]
    omega
theorem zA:∀ b:List TreeNode,aG (eF b)=(b.map (fun n=>aG n.fOwn)).sum
  | []=>rfl
  | n::b=>by
    have e:eF (n::b)=n.fOwn++eF b:=by simp [eF]
    rw [e,aJs,zA b,List.map_cons,List.sum_cons]
theorem aKW {s:List Link} {o:List Int} {b:List TreeNode} (hn:o.Nodup) (h:uC s o o []=some b):aG (eF b)≤aG s:=by
  obtain ⟨h1,h2⟩:=aAn o [] b (by simp) h
  simp only [List.map_nil,List.nil_append] at h2
  rw [zA]
  have e:b.map (fun n=>aG n.fOwn)=b.map (fun n=>aG (s.filter (oV o n.fNode))):=List.map_congr_left fun n hn=>by rw [(h1 n hn).2.1]
  have e2:b.map (fun n=>aG (s.filter (oV o n.fNode)))=o.map (fun v=>aG (s.filter (oV o v))):=by rw [← h2,List.map_map];rfl
  rw [e,e2]
  exact aHy o o hn s
theorem aHg {s:List Link} {o:List Int}:∀ {b:List TreeNode},(∀ n ∈ b,NodeOk s o n)→szL bN b≤aG (eF b)+51425*b.length
  | [],_=>Nat.zero_le _
  | n::b,h=>by
    have ih:=aHg (b:=b) (fun m hm=>h m (by simp [hm]))
    have hn:=h n (by simp)
    have h1:=hn.1.sz
    have h3:=oJ (.inl hn.2.2.2.1)
    have h4:=hn.2.2.1
    have e:aG (eF (n::b))=aG n.fOwn+aG (eF b):=by rw [zA,zA,List.map_cons,List.sum_cons]
    have e2:bN n=aG n.fOwn+aS n.fCond+aG n.fMessages+bG n.fEnergy:=rfl
    rw [jP,List.length_cons,e,e2]
    omega
theorem aJc {s:List Link} {o:List Int} {u:Tree} (h:wN s o=some u):aG (eF u.fNodes)≤aG s∧nD u≤aG s+462825:=by
  unfold wN at h
  cases hj:jnP s with
  | none=>rw [hj] at h;cases h
  | some x =>
    rw [hj,Option.bind_some] at h
    by_cases c:isOrd x.1 o
    · rw [if_pos c] at h
      cases g:uC s o o [] with
      | none=>rw [g] at h;cases h
      | some b =>
        rw [g] at h
        obtain rfl:=Option.some.inj h
        have h1:=aKW c.1 g
        obtain ⟨k1,k2⟩:=aAn o [] b (by simp) g
        have h2:=aHg k1
        have hl:b.length=o.length:=by have:=congrArg List.length k2;simpa using this
        have h9:=(aEP c).1
        refine ⟨h1,?_⟩
        show szL bN b≤_
        have:51425*b.length≤51425*9:=Nat.mul_le_mul (Nat.le_refl _) (by omega)
        omega
    · rw [if_neg c] at h;cases h
end Go.Ev
/- What is built on tied links is a tree. -/
namespace Go.Ev
set_option linter.all false
theorem aHY {α:Type} {f g:Int→List α}:∀ {r:List Int},(∀ u ∈ r,f u=g u)→r.flatMap f=r.flatMap g
  | [],_=>rfl
  | u::r,h=>by rw [List.flatMap_cons,List.flatMap_cons,h u (by simp),aHY fun w hw=>h w (by simp [hw])]
theorem aFR {α:Type} (f:α→Int):∀ (o:List Int) (l:List α),o.Nodup→(∀ x ∈ l,f x ∈ o)→(o.flatMap fun v=>l.filter fun x=>decide (f x=v)).Perm l
  | [],l,_,h=>by
    cases l with
    | nil=>exact List.Perm.refl _
    | cons x l=>exact absurd (h x (by simp)) (by simp)
  | v::r,l,hn,h=>by
    rw [List.nodup_cons] at hn
    rw [List.flatMap_cons]
    have e:(r.flatMap fun u=>l.filter fun x=>decide (f x=u))=r.flatMap fun u=>(l.filter fun x=>!decide (f x=v)).filter fun x=>decide (f x=u):=by
      refine aHY fun u hu=>?_
      rw [List.filter_filter]
      refine List.filter_congr fun x _=>?_
      by_cases c:f x=u
      · have:f x≠v:=fun e=>hn.1 (by rw [← e,c];exact hu)
        rw [decide_eq_true c,decide_eq_false this];rfl
      · rw [decide_eq_false c];rfl
    rw [e]
    have ih:=aFR f r (l.filter fun x=>!decide (f x=v)) hn.2 (fun x hx=>by
      rw [List.mem_filter] at hx
      have h1:=h x hx.1
      have h2:f x≠v:=by simpa using hx.2
      exact (List.mem_cons.1 h1).resolve_left h2)
    exact (List.Perm.append_left _ ih).trans (List.filter_append_perm _ l)
theorem aC2 {α:Type} (f:α→Int) (l:List α) (v:Int):∀ o:List Int,o.Nodup→v ∈ o→((o.flatMap fun u=>l.filter fun x=>decide (f x=u)).filter fun x=>decide (f x=v))=l.filter fun x=>decide (f x=v)
  | w::r,hn,hv=>by
    rw [List.nodup_cons] at hn
    rw [List.flatMap_cons,List.filter_append]
    have none:∀ s:List Int,v ∉ s→((s.flatMap fun u=>l.filter fun x=>decide (f x=u)).filter fun x=>decide (f x=v))=[]:=by
      intro s hs
      rw [List.filter_eq_nil_iff]
      intro x hx
      obtain ⟨u,hu,hx⟩:=List.mem_flatMap.1 hx
      have:=of_decide_eq_true (List.mem_filter.1 hx).2
      intro e
      have:=of_decide_eq_true e
      have e3:v=u:=by omega
      exact hs (e3 ▸ hu)
    by_cases c:v=w
    · subst c
      rw [none r hn.1,List.append_nil,List.filter_filter]
      refine List.filter_congr fun x _=>?_
      simp
    · have e:((l.filter fun x=>decide (f x=w)).filter fun x=>decide (f x=v))=[]:=by
        rw [List.filter_eq_nil_iff]
        intro x hx e
        have h1:=of_decide_eq_true (List.mem_filter.1 hx).2
        have h2:=of_decide_eq_true e
        exact c (by omega)
      rw [e,List.nil_append]
      exact aC2 f l v r hn.2 ((List.mem_cons.1 hv).resolve_left c)
theorem aAm (l:List QL) (o:List Int):∀ (r:List Int) (b:List NQ),(cS l o r b).map (fun n=>n.node)=b.map (fun n=>n.node)++r
  | [],b=>by simp [cS]
  | v::r,b=>by
    rw [cS,aAm l o r]
    simp only [List.map_append,List.map_cons,List.map_nil,List.append_assoc,List.singleton_append]
    rfl
theorem aFE (l:List QL) (o:List Int):∀ (r:List Int) (b:List NQ),(cS l o r b).flatMap (fun n=>n.own)=b.flatMap (fun n=>n.own)++r.flatMap fun v=>l.filter (uT o v)
  | [],b=>by simp [cS]
  | v::r,b=>by
    rw [cS,aFE l o r,List.flatMap_append,List.flatMap_cons,List.flatMap_nil,List.append_nil,List.flatMap_cons,List.append_assoc]
    rfl
theorem aCU {l l':List QL} {o:List Int}:∀ (r:List Int) (b:List NQ),(∀ v ∈ r,l'.filter (uT o v)=l.filter (uT o v))→cS l' o r b=cS l o r b
  | [],b,_=>rfl
  | v::r,b,h=>by
    have e:nxt l' o v b=nxt l o v b:=by unfold nxt;rw [h v (by simp)]
    rw [cS,cS,e]
    exact aCU r _ fun u hu=>h u (by simp [hu])
def yO (l:List QL) (o:List Int):List QL:=o.flatMap fun v=>l.filter (uT o v)
theorem Tie.owner {l:List QL} {o:List Int} (h:Tie l o):∀ x ∈ l,aY o [x.a,x.b] ∈ o:=by
  intro x hx
  have hb:=h.base
  have hbm:x.b ∈ o:=(h.mem _).2 ⟨by have:=(h.lk x hx).1;omega,x,hx,.inr rfl⟩
  rcases aCk (s:=[x.a,x.b]) (fun u hu=>(hb.h1 u hu).1) with ⟨_,h4⟩ | ⟨p,v,r,e,h2,h3,h4⟩
  · exact absurd (by simp) (h4 _ hbm)
  · rw [h2,e];simp
theorem Tie.inPerm {l:List QL} {o:List Int} (h:Tie l o):(yO l o).Perm l:=aFR (fun x:QL=>aY o [x.a,x.b]) o l h.nd h.owner
theorem Tie.inTie {l:List QL} {o:List Int} (h:Tie l o):Tie (yO l o) o:=h.perm h.inPerm (List.Perm.refl _)
theorem Tie.inTree {l:List QL} {o:List Int} (h:Tie l o):mM (yO l o) o=mM l o:=by
  unfold mM
  have e:cS (yO l o) o o []=cS l o o []:=aCU o [] fun v hv=>aC2 (fun x:QL=>aY o [x.a,x.b]) l v o h.nd hv
  rw [e]
theorem aLv:∀ b:List NQ,eF (b.map NQ.toN)=(b.flatMap fun n=>n.own).map QL.toL:=by
  intro b
  unfold eF
  induction b with
  | nil=>rfl
  | cons n b ih =>
    rw [List.flatMap_cons,List.map_append,← ih];rfl
theorem aDW (l:List QL) (o:List Int):eF (mM l o).fNodes=(yO l o).map QL.toL:=by
  unfold mM
  simp only []
  rw [aLv,aFE,List.flatMap_nil,List.nil_append]
  rfl
theorem aDX (l:List QL) (o:List Int):aB3 (mM l o)=o:=by
  unfold aB3 mM
  simp only [List.map_map]
  have:=aAm l o o []
  rw [List.map_nil,List.nil_append] at this
  exact this
theorem Tie.isTree {l:List QL} {o:List Int} (h:Tie l o):xF (mM l o):=by
  unfold xF
  rw [aDW,aDX,h.inTie.build]
  exact congrArg some h.inTree
theorem Tie.tsz {l:List QL} {o:List Int} (h:Tie l o):nD (mM l o)≤470000:=by
  have hz:=h.sz
  have:=(aJc h.build).2
  unfold mM
  omega
end Go.Ev
/- The law of the paths of a tree. -/
namespace Go.Ev
set_option linter.all false
theorem aJQ (l:List Int) (n:Int) (h:l.length≤4294967296):pC l n=some (decide (n ∈ l)):=by
  have main:∀ m k:Nat,m+k=l.length→lp (jU l n) (k:Int)=some (if n ∈ l.drop k then .inr true else .inl ()):=by
    intro m
    induction m with
    | zero =>
      intro k hk
      rw [List.drop_eq_nil_of_le (by omega)]
      exact aH (by unfold jU;rw [if_neg (by omega)];rfl)
    | succ m ih =>
      intro k hk
      have hlt:k < l.length:=by omega
      rw [List.drop_eq_getElem_cons hlt]
      by_cases c:l[k]=n
      · rw [aH (r:=.inr true) (by unfold jU;rw [if_pos (by omega),aF hlt];simp [c])]
        rw [if_pos (by simp [c])]
      · have st:jU l n (k:Int)=some (.inl ((k+1:Nat):Int)):=by
          unfold jU
          rw [if_pos (by omega),aF hlt]
          simp only [Option.bind_some,if_neg c]
          rw [wi (n:=(k:Int)+1) (by omega)];rfl
        rw [aQ st,ih (k+1) (by omega)]
        have:n ∈ l[k]::l.drop (k+1)↔n ∈ l.drop (k+1):=by
          rw [List.mem_cons]
          exact ⟨fun h=>h.resolve_left (fun e=>c e.symm),.inr⟩
        simp only [this]
  have:=main l.length 0 (by omega)
  rw [show ((0:Nat):Int)=0 from rfl,List.drop_zero] at this
  unfold pC
  rw [this]
  by_cases c:n ∈ l <;> simp [c]
end Go.Ev
/- The cliques of a tree, both programs, and the law. -/
namespace Go.Ev
set_option linter.all false
theorem aIO {o:List Int} {v:Int} {own:List Link} {b:List TreeNode} {n:TreeNode} (h:qM o v own b=some n):bD n.fCond=some true:=by
  unfold qM at h
  cases e1:jnP (own++zJ v b) with
  | none=>rw [e1] at h;cases h
  | some u =>
    rw [e1,Option.bind_some] at h
    cases e2:aCz v u.1 with
    | none=>rw [e2] at h;cases h
    | some w =>
      obtain ⟨c,m,f⟩:=w
      rw [e2,Option.bind_some] at h
      have hc:bD c=some true:=by
        unfold aCz at e2
        cases e3:wL v u.1 with
        | none=>rw [e3] at e2;cases e2
        | some x =>
          rw [e3,Option.bind_some] at e2
          have ex:x.1=c:=by
            cases e4:jnP (xD v u.1++x.2) with
            | none=>rw [e4] at e2;cases e2
            | some y=>rw [e4] at e2;exact congrArg Prod.fst (Option.some.inj e2)
          unfold wL at e3
          split at e3
          · rename_i hh
            cases e3
            rw [← ex];exact hh.2.1
          · cases e3
      split at h
      · cases h;exact hc
      · cases h
theorem aFG {Q:TreeNode→Prop} {s:List Link} {o:List Int} (hQ:∀ v b n,qM o v (s.filter (oV o v)) b=some n→Q n):∀ (r:List Int) (b b':List TreeNode),(∀ n ∈ b,Q n)→uC s o r b=some b'→∀ n ∈ b',Q n
  | [],b,b',h,e=>by cases e;exact h
  | v::r,b,b',h,e=>by
    rw [uC] at e
    cases h1:qM o v (s.filter (oV o v)) b with
    | none=>rw [h1] at e;cases e
    | some n =>
      rw [h1,Option.bind_some] at e
      exact aFG hQ r (b++[n]) b' (fun m hm=>by
        rcases List.mem_append.1 hm with hm | hm
        · exact h m hm
        · rw [List.mem_singleton.1 hm];exact hQ _ _ _ h1) e
theorem aIr {t:Tree} (ht:xF t):t.fNodes.length≤9∧∀ n ∈ t.fNodes,1≤n.fNode∧bD n.fCond=some true∧aS n.fCond≤20000:=by
  unfold xF wN at ht
  cases hj:jnP (eF t.fNodes) with
  | none=>rw [hj] at ht;cases ht
  | some x =>
    rw [hj,Option.bind_some] at ht
    by_cases c:isOrd x.1 (aB3 t)
    · rw [if_pos c] at ht
      cases g:uC (eF t.fNodes) (aB3 t) (aB3 t) [] with
      | none=>rw [g] at ht;cases ht
      | some b =>
        rw [g] at ht
        have e:=Option.some.inj ht
        obtain ⟨k1,k2⟩:=aAn (aB3 t) [] b (by simp) g
        have k3:=aFG (Q:=fun n=>bD n.fCond=some true) (fun v b n h=>aIO h) (aB3 t) [] b (by simp) g
        have eb:b=t.fNodes:=by rw [← e]
        subst eb
        obtain ⟨l1,l2⟩:=aEP c
        refine ⟨by unfold aB3 at l1;rwa [List.length_map] at l1,fun n hn=>⟨l2 _ (List.mem_map.2 ⟨n,hn,rfl⟩),k3 n hn,(k1 n hn).2.2.1⟩⟩
    · rw [if_neg c] at ht;cases ht
def aBa (c:Conditional):List Int:=(aBb c).filter (fun x=>decide (0 < x))
theorem aHl:∀ (l:List Parent) (t:List Int),l.foldl (fun t p=>if 0 < p.fNode then t++[p.fNode] else t) t=t++(l.map (·.fNode)).filter (fun x=>decide (0 < x))
  | [],t=>by simp
  | p::l,t=>by
    rw [List.foldl_cons,aHl l,List.map_cons,List.filter_cons]
    by_cases c:0 < p.fNode <;> simp [c]
theorem aNN (n:TreeNode) (h:n.fCond.fParents.length≤4294967296) (hp:∀ p ∈ n.fCond.fParents,0≤p.fNode):lp (iQ n) (0,[])=some (aBa n.fCond):=by
  have:=(lU (step:=iQ n) n.fCond.fParents (fun k t=>((k:Int),t)) (fun t p=>if 0 < p.fNode then t++[p.fNode] else t) (fun t=>t) (fun k t=>t.length≤k) (fun k t hk hi=>by
    constructor
    · unfold iQ
      simp only []
      rw [if_pos (by omega),aF hk]
      simp only [Option.bind_some,wi1 (by omega:k≤4294967296)]
      have h0:=hp _ (List.getElem_mem hk)
      by_cases d:0 < (n.fCond.fParents[k]).fNode
      · rw [if_pos d,if_pos (by omega),aN (by omega)];rfl
      · rw [if_neg d,if_neg (by omega)]
    · split
      · rw [List.length_append,List.length_singleton];omega
      · omega) (fun t _=>by unfold iQ;simp only [];rw [if_neg (by omega)]) [] (Nat.zero_le _)).1
  rw [show ((0:Nat):Int)=0 from rfl,aHl,List.nil_append] at this
  exact this
structure InvC (out:List Clique) (k:Nat):Prop where
  len:out.length≤k
  sz:bM out≤20010*k
  pos:∀ c ∈ out,∀ x ∈ c.fFrontal,1≤x
theorem aI9 {out:List Clique} {c:Clique} (h:c ∈ out):c.fFrontal.length+c.fSeparator.length+1≤bM out:=by
  have:=kH (w:=jO) h
  rw [yC] at this;exact this
theorem aGp (a b:List Clique):bM (a++b)=bM a+bM b:=aDF _ _ _
theorem aMH (c:Clique):bM [c]=c.fFrontal.length+c.fSeparator.length+1:=by unfold bM;rw [jP,aBQ,yC]
theorem aMG {l:List Clique} {j:Nat} (hj:j < l.length) (c:Clique):bM (l.set j c)+(jO l[j])=bM l+jO c:=by
  have e:l=l.take j++l[j]::l.drop (j+1):=by rw [← List.drop_eq_getElem_cons hj,List.take_append_drop]
  have e2:l.set j c=l.take j++c::l.drop (j+1):=by rw [List.set_eq_take_append_cons_drop,if_pos hj]
  have h1:bM l=bM (l.take j)+(jO l[j]+1+bM (l.drop (j+1))):=by
    have:=congrArg bM e
    rw [aGp] at this
    rw [this]
    unfold bM;rw [jP]
  have h2:bM (l.set j c)=bM (l.take j)+(jO c+1+bM (l.drop (j+1))):=by
    rw [e2,aGp]
    unfold bM;rw [jP]
  omega
end Go.Ev
/- Nodes that hang on nothing: a tree is not built. -/
namespace Go.Ev
set_option linter.all false
end Go.Ev
/- A link that hangs on nothing cannot be inserted. -/
namespace Go.Ev
set_option linter.all false
end Go.Ev
/- Inserting a link that hangs on the tree. -/
namespace Go.Ev
set_option linter.all false
theorem aKx {l:List QL} {o:List Int} (h:Tie l o):(yO l o).length=l.length:=h.inPerm.length_eq
end Go.Ev
/- Nodes that an inserted link does not change. -/
namespace Go.Ev
set_option linter.all false
theorem aDU (l:List QL) (o:List Int) (v:Int):∀ (p:List Int) (b:List NQ),cS l o (p++[v]) b=cS l o p b++[nxt l o v (cS l o p b)]
  | [],b=>rfl
  | u::p,b=>by rw [List.cons_append,cS,cS,aDU l o v p]
theorem TInv.at {l:List QL} {o:List Int} (hb:Base l o) (hg:Grounded l o):∀ (n:Nat) (p r:List Int),p.length=n→o=p++r→TInv l o p r (cS l o p [])
  | 0,p,r,hn,e=>by
    have:p=[]:=List.length_eq_zero_iff.1 hn
    subst this
    rw [List.nil_append] at e
    subst e
    exact TInv.start hb hg
  | n+1,p,r,hn,e=>by
    rcases List.eq_nil_or_concat p with rfl | ⟨q,v,rfl⟩
    · simp at hn
    · rw [List.concat_eq_append] at hn e ⊢
      have ih:=TInv.at hb hg n q (v::r) (by simpa using hn) (by rw [e,List.append_assoc];rfl)
      rw [aDU]
      exact (ih.next hb).1
end Go.Ev
/- Nodes outside a closed set stay as they are. -/
namespace Go.Ev
set_option linter.all false
set_option maxHeartbeats 2000000
section
variable {l:List QL} {o:List Int} {k:QL} {L:Int→Prop}
end
end Go.Ev
/- Parents lie on the path. -/
namespace Go.Ev
set_option linter.all false
theorem aCw (l:List QL) (o:List Int):∀ (p q:List Int) (b:List NQ),cS l o (p++q) b=cS l o q (cS l o p b)
  | [],q,b=>rfl
  | v::p,q,b=>by rw [List.cons_append,cS,cS,aCw l o p q]
theorem aDV (l:List QL) (o:List Int):∀ (q:List Int) (b:List NQ),∀ c ∈ b,c ∈ cS l o q b
  | [],b,c,h=>h
  | v::q,b,c,h=>by rw [cS];exact aDV l o q _ c (by simp [h])
theorem aNS (l:List QL) (o:List Int) (p:List Int) (v:Int) (r:List Int):nxt l o v (cS l o p []) ∈ cS l o (p++v::r) []:=by
  rw [aCw,cS]
  exact aDV l o r _ _ (by simp)
end Go.Ev
/- Parents of parents; the nodes of a tree by their place. -/
namespace Go.Ev
set_option linter.all false
theorem aAS {p r p' r':List Int} {w:Int} (hn:(p++w::r).Nodup) (e:p++w::r=p'++w::r'):p=p'∧r=r':=by
  induction p generalizing p' with
  | nil =>
    cases p' with
    | nil=>exact ⟨rfl,by simpa using e⟩
    | cons x p' =>
      rw [List.nil_append,List.cons_append] at e
      injection e with e1 e2
      subst e1
      rw [List.nil_append,List.nodup_cons,e2] at hn
      exact absurd (by simp) hn.1
  | cons y p ih =>
    cases p' with
    | nil =>
      rw [List.nil_append,List.cons_append] at e
      injection e with e1 e2
      subst e1
      rw [List.cons_append,List.nodup_cons] at hn
      exact absurd (by simp) hn.1
    | cons x p' =>
      rw [List.cons_append,List.cons_append] at e
      injection e with e1 e2
      rw [List.cons_append,List.nodup_cons] at hn
      obtain ⟨g1,g2⟩:=ih hn.2 e2
      exact ⟨by rw [e1,g1],g2⟩
theorem anc {l:List QL} {o:List Int} (h:Tie l o):∀ (m:Nat) (p:List Int) (v:Int) (r:List Int),r.length≤m→o=p++v::r →
    ∀ w u,w ∈ psN (nxt l o v (cS l o p [])).cond→u ∈ psN (nxt l o v (cS l o p [])).cond→u≠w→∀ p2 r2,o=p2++w::r2→u ∈ 0::r2→u ∈ psN (nxt l o w (cS l o p2 [])).cond:=by
  intro m
  induction m with
  | zero =>
    intro p v r hr e w u hw hu huw p2 r2 e2 hur
    have ti:=TInv.at h.base h.gr p.length p (v::r) rfl e
    have:=(ti.nxt_rem h.base w hw).1
    have r0:r=[]:=List.length_eq_zero_iff.1 (by omega)
    rw [r0] at this
    have w1:=(h.five w (by rw [e2];simp)).1
    simp at this;omega
  | succ m ih =>
    intro p v r hr e w u hw hu huw p2 r2 e2 hur
    have hnd:=h.nd
    have w1:=(h.five w (by rw [e2];simp)).1
    have ti:=TInv.at h.base h.gr p.length p (v::r) rfl e
    have hup:=ti.nxt_up h.base hw (by omega)
    obtain ⟨r1,r3,er⟩:=List.append_of_mem hup
    generalize hx:(nxt l o v (cS l o p [])).up=x at hup er
    have e3:o=(p++v::r1)++x::r3:=by rw [List.append_assoc,List.cons_append,← er];exact e
    have ti2:=TInv.at h.base h.gr (p++v::r1).length (p++v::r1) (x::r3) rfl e3
    have hc:=aNS l o p v r1
    have kp:=(ti2.kid_ps h.base hc hx).2
    by_cases c:w=x
    · subst c
      obtain ⟨g1,g2⟩:=aAS (by rw [← e2];exact hnd) (e2.symm.trans e3)
      rw [g1]
      exact kp u hu huw
    · have hw2:=kp w hw c
      have hwr:=(ti2.nxt_rem h.base w hw2).1
      have hwr:w ∈ r3:=(List.mem_cons.1 hwr).resolve_left (by omega)
      obtain ⟨s1,s2,es⟩:=List.append_of_mem hwr
      have e4:o=(p++v::r1++x::s1)++w::s2:=by
        rw [List.append_assoc,List.cons_append,← es];exact e3
      obtain ⟨g1,g2⟩:=aAS (by rw [← e2];exact hnd) (e2.symm.trans e4)
      have ux:u≠x:=by
        rintro rfl
        have u1:=(h.five u (by rw [e3];simp)).1
        have:u ∈ s2:=by rw [← g2];exact (List.mem_cons.1 hur).resolve_left (by omega)
        rw [e4] at hnd
        exact (List.nodup_append.1 hnd).2.2 u (by simp) u (List.mem_cons_of_mem _ this) rfl
      exact ih (p++v::r1) x r3 (by rw [er] at hr;simp at hr;omega) e3 w u hw2 (kp u hu ux) huw p2 r2 e2 hur
theorem aFF (l:List QL) (o:List Int):∀ (q:List Int) (b:List NQ),∃ c,cS l o q b=b++c
  | [],b=>⟨[],by simp [cS]⟩
  | v::q,b=>by
    obtain ⟨c,e⟩:=aFF l o q (b++[nxt l o v b])
    exact ⟨nxt l o v b::c,by rw [cS,e,List.append_assoc];rfl⟩
theorem aCv (l:List QL) (o:List Int) (q:List Int) (b:List NQ):(cS l o q b).length=b.length+q.length:=by
  have:=congrArg List.length (aAm l o q b)
  simpa using this
theorem aFS (l:List QL) (o:List Int):(mM l o).fNodes.length=o.length:=by
  show ((cS l o o []).map NQ.toN).length=_
  rw [List.length_map,aCv];simp
theorem aLA {l:List QL} {o p:List Int} {v:Int} {r:List Int} (e:o=p++v::r):(mM l o).fNodes[p.length]?=some (nxt l o v (cS l o p [])).toN:=by
  show ((cS l o o []).map NQ.toN)[p.length]?=_
  have:cS l o o []=cS l o (p++v::r) []:=congrArg (fun z=>cS l o z []) e
  rw [this,aCw,cS]
  obtain ⟨c,ec⟩:=aFF l o r (cS l o p []++[nxt l o v (cS l o p [])])
  rw [ec,List.map_append,List.map_append,List.append_assoc,List.getElem?_append_right (by rw [List.length_map,aCv];simp)]
  simp [aCv]
theorem aLt (n:NQ):aBb n.toN.fCond=psN n.cond:=by
  unfold aBb psN NQ.toN CQ.toC
  simp only [List.map_map]
  rfl
end Go.Ev
