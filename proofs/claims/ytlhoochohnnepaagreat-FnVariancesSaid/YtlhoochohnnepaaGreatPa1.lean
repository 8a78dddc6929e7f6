/- Parts PL, PN, PO, PD, PE. -/
import Derived.Test.YtlhoochohnnepaaGreatE3
set_option linter.all false
set_option maxHeartbeats 4000000
set_option maxRecDepth 20000
/- Plain laws: loops over lists. No program. -/
namespace Go.Ev
theorem wi {n:Int}(h:-9223372036854775808<=n/\n<=9223372036854775807):IntKind.i64.wrap n=n:=by
 rw[IntKind.wrap_i64];omega
theorem kP {α:Type}(l:List α)(k:Nat):idx l (k:Int)=l[k]?:=by
 unfold idx;rw[aTd (by omega)];simp
theorem aN {α:Type}{l:List α}{k:Nat}(h:k<l.length):idx l (k:Int)=some l[k]:=by rw[kP];simp[h]
theorem lH {α:Type}(l:List α)(k:Nat)(y:α):iB l (k:Int) y=l.set k y:=by unfold iB;simp
theorem aM {p:Prop}{_:Decidable p}(h:p):chk p=some ():=by unfold chk;rw[aTd h]
theorem qC {α:Type}(l:List α)(a b:Int)(h:0<=a/\a<=b/\b<=l.length):sub l a b=some ((l.drop a.toNat).take (b-a).toNat):=by unfold sub;rw[aTd h]
section
variable {α σ τ ρ:Type}
end
section
variable {σ ρ:Type}
end
section
variable {σ ρ:Type}
theorem aMY {step:Int->Option (Int ⊕ ρ)}(n:Nat)(Q:ρ->Prop)(J:Nat->Prop)(h0:J 0)(h1:∀ k:Nat,k<n->J k->(step (k:Int)=some (.inl ((k+1:Nat):Int))/\J (k+1))\/∃ r,step (k:Int)=some (.inr r)/\Q r)(h2:J n->∃ r,step (n:Int)=some (.inr r)/\Q r):∃ r,lp step 0=some r/\Q r:=by
 have main:∀ m k:Nat,m+k=n->J k->∃ r,lp step (k:Int)=some r/\Q r:=by
  intro m
  induction m with
  | zero =>
   intro k hk hj
   have:k=n:=by omega
   subst this
   obtain⟨r,e,q⟩:=h2 hj
   exact⟨r,aK e,q⟩
  | succ m ih =>
   intro k hk hj
   rcases h1 k (by omega) hj with⟨e,hj'⟩ | ⟨r,e,q⟩
   · rw[aQ e];exact ih (k+1) (by omega) hj'
   · exact⟨r,aK e,q⟩
 exact main n 0 (by omega) h0
theorem aOy {step step':σ->Option (σ ⊕ ρ)}(J:σ->Prop)(h:∀ s,J s->step s=step' s/\∀ s',step s=some (.inl s')->J s')(s:σ)(hs:J s):lp step s=lp step' s:=by
 apply Option.ext
 intro r
 rw[aBX,aBX]
 constructor
 · rintro⟨n,hn⟩
   refine⟨n,?_⟩
   induction hn with
   | done e=>exact .done (by rw[<- (h _ hs).1];exact e)
   | more e _ ih=>exact .more (by rw[<- (h _ hs).1];exact e) (ih ((h _ hs).2 _ e))
 · rintro⟨n,hn⟩
   refine⟨n,?_⟩
   induction hn with
   | done e=>exact .done (by rw[(h _ hs).1];exact e)
   | more e _ ih=>have e':=(h _ hs).1.trans e;exact .more e' (ih ((h _ hs).2 _ e'))
end
theorem mQ {α σ τ ρ:Type}{step:σ->Option (σ ⊕ ρ)}(l:List α)(E:Nat->τ->σ)(f:τ->α->τ)(fin:τ->ρ)(I:Nat->τ->Prop)
 (h1:∀ k t (hk:k<l.length),I k t->step (E k t)=some (.inl (E (k+1) (f t l[k])))/\I (k+1) (f t l[k])) (h2:∀ t,I l.length t->step (E l.length t)=some (.inr (fin t))) (t:τ) (h0:I 0 t) :
 lp step (E 0 t)=some (fin (l.foldl f t))/\I l.length (l.foldl f t):=by
 have main:∀ n k t,n+k=l.length->I k t->lp step (E k t)=some (fin ((l.drop k).foldl f t))/\I l.length ((l.drop k).foldl f t):=by
  intro n
  induction n with
  | zero =>
   intro k t hk hi
   have:k=l.length:=by omega
   subst this
   rw[aUo,List.foldl_nil]
   exact⟨aK (h2 t hi),hi⟩
  | succ n ih =>
   intro k t hk hi
   have hlt:k<l.length:=by omega
   obtain⟨e,hi'⟩:=h1 k t hlt hi
   rw[aTh hlt,aUG,aQ e]
   exact ih (k+1) _ (by omega) hi'
 have:=main l.length 0 t (by omega) h0
 simpa using this
/- Plain laws of loops over nested values: sizes, copies, comparisons, marks. No program. -/
section
variable {α:Type}
def szL (w:α->Nat)(l:List α):Nat:=(l.map (fun y=>w y+1)).sum
theorem aH1 (w:α->Nat):szL w []=0:=rfl
theorem nY (w:α->Nat)(y:α)(l:List α):szL w (y::l)=w y+1+szL w l:=by simp[szL]
theorem aH2 (w:α->Nat):∀ (a b:List α),szL w (a++b)=szL w a+szL w b
 | [],b=>by simp[aH1]
 | y::a,b=>by rw[aTm,nY,nY,aH2 w a b];omega
theorem aNx (w:α->Nat):∀ l:List α,szL w l=l.length+(l.map w).sum
 | []=>rfl
 | y::l=>by rw[nY,aNx w l,aTo,aVF,aTG];omega
theorem nJ (w:α->Nat)(l:List α):l.length<=szL w l:=by rw[aNx];omega
theorem tC:∀ l:List α,szL (fun _=>0) l=l.length
 | []=>rfl
 | y::l=>by rw[nY,tC l,aTG];omega
theorem tB {w:α->Nat}:∀ {l:List α} {y:α},y∈l->w y+1<=szL w l
 | z::l,y,h=>by
  rw[nY]
  rcases aTf.1 h with rfl | h
  · omega
  · have:=tB (w:=w) h;omega
theorem rN {σ ρ:Type}{step:σ->Option (σ ⊕ ρ)}(l:List α)(E:Nat->List α->σ)(fin:List α->ρ)
 (h1:∀ (k:Nat) (t:List α) (hk:k<l.length),t.length=k->step (E k t)=some (.inl (E (k+1) (t++[l[k]])))) (h2:∀ t:List α,t.length=l.length->step (E l.length t)=some (.inr (fin t))):lp step (E 0 [])=some (fin l):=by
 have main:∀ n k (t:List α),n+k=l.length->t.length=k->lp step (E k t)=some (fin (t++l.drop k)):=by
  intro n
  induction n with
  | zero =>
   intro k t hk ht
   have:k=l.length:=by omega
   subst this
   rw[aUo,aUf]
   exact aK (h2 t ht)
  | succ n ih =>
   intro k t hk ht
   have hlt:k<l.length:=by omega
   rw[aQ (h1 k t hlt ht),ih (k+1) _ (by omega) (by simp[ht]),aTx,aUk,<- aTh hlt]
 have:=main l.length 0 [] (by omega) rfl
 simpa using this
end
/- Plain laws of loops: comparison of lists, search. No program. -/
section
variable {α:Type}
theorem aRq [DecidableEq α]{step:Int->Option (Int ⊕ (Unit ⊕ Bool))}(a b:List α)(hl:a.length=b.length)(h1:∀ (k:Nat) (ha:k<a.length) (hb:k<b.length),step (k:Int)=some (if a[k]=b[k]then .inl ((k:Int)+1)else .inr (.inr false)))
 (h2:step (a.length:Int)=some (.inr (.inl ()))):lp step 0=some (if a=b then .inl ()else .inr false):=by
 have main:∀ n k:Nat,n+k=a.length->lp step (k:Int)=some (if a.drop k=b.drop k then .inl ()else .inr false):=by
  intro n
  induction n with
  | zero =>
   intro k hk
   have:k=a.length:=by omega
   subst this
   rw[aK h2,aUo,aTE (by omega),aTd rfl]
  | succ n ih =>
   intro k hk
   have ha:k<a.length:=by omega
   have hb:k<b.length:=by omega
   have e:=h1 k ha hb
   rw[aTh ha,aTh hb]
   by_cases c:a[k]=b[k]
   · rw[aTd c]at e
     rw[aQ e,show(k:Int)+1=((k+1:Nat):Int)by omega,ih (k+1) (by omega),c]
     simp only[List.cons.injEq,true_and]
   · rw[aTc c]at e
     rw[aK e,aTc (fun h=>by injection h with h1 _;exact c h1)]
 have:=main a.length 0 (by omega)
 simpa using this
end
/- Natural numbers as lists of limbs. No program. -/
def BB:Nat:=1000000000
theorem dD:BB=1000000000:=rfl
theorem uD:0<BB:=by rw[dD];omega
def val:List Int->Nat
 | []=>0
 | d::l=>d.toNat+BB*val l
def dgs (l:List Int):Prop:=∀ d∈l,0<=d/\d<1000000000
theorem aB2:dgs []:=by intro d h;cases h
theorem mZ {d:Int}{l:List Int}:dgs (d::l)↔(0<=d/\d<1000000000)/\dgs l:=by
 unfold dgs
 constructor
 · intro h;exact⟨h d (by simp),fun x hx=>h x (by simp[hx])⟩
 · rintro⟨h1,h2⟩ x hx
   rcases aTf.1 hx with rfl | hx
   · exact h1
   · exact h2 x hx
theorem aMj {a b:List Int}:dgs (a++b)↔dgs a/\dgs b:=by
 unfold dgs
 constructor
 · intro h;exact⟨fun x hx=>h x (by simp[hx]),fun x hx=>h x (by simp[hx])⟩
 · rintro⟨h1,h2⟩ x hx
   rcases aTj.1 hx with hx | hx
   · exact h1 x hx
   · exact h2 x hx
theorem mE {l:List Int}(h:dgs l){i:Nat}(hi:i<l.length):0<=l[i]/\l[i]<1000000000:=h _ (aTv hi)
theorem aJ5 {l:List Int}(h:dgs l)(k:Nat):dgs (l.take k):=fun d hd=>h d (aVP hd)
theorem aO0 {l:List Int}(h:dgs l)(k:Nat):dgs (l.drop k):=fun d hd=>h d (aVQ hd)
theorem aDv {l:List Int}(h:dgs l)(k:Nat)(x:Int)(hx:0<=x/\x<1000000000):dgs (l.set k x):=by
 intro d hd
 rcases List.mem_or_eq_of_mem_set hd with h' | rfl
 · exact h d h'
 · exact hx
theorem aEZ (n:Nat):dgs (List.replicate n 0):=by
 intro d hd
 rw[List.mem_replicate]at hd
 rw[hd.2];omega
theorem aPI (n:Nat):val (List.replicate n 0)=0:=by
 induction n with
 | zero=>rfl
 | succ n ih=>rw[aUB,val,ih];rfl
theorem aH0:∀ (a b:List Int),val (a++b)=val a+BB ^ a.length*val b
 | [],b=>by simp[val]
 | d::a,b=>by
  rw[aTm,val,val,aH0 a b,aTG,aUw,aUy,aTR (BB ^ a.length) BB,aT3]
  omega
theorem aE9:∀ {l:List Int},dgs l->val l<BB ^ l.length
 | [],_=>by simp[val]
 | d::l,h=>by
  rw[mZ]at h
  have ih:=aE9 h.2
  rw[val,aTG,aUw,aTR _ BB]
  have h1:d.toNat<BB:=by rw[dD];omega
  have h2:BB*(val l+1)<=BB*BB ^ l.length:=aTA _ ih
  rw[aUy]at h2
  omega
theorem oP {l:List Int}{k:Nat}(hk:k<l.length):val (l.take (k+1))=val (l.take k)+BB ^ k*(l[k]).toNat:=by
 rw[aVL,aTl hk,aH0]
 simp only[Option.toList_some,val,aVn,aTX,aTS]
 rw[aUP (by omega)]
theorem iA {l:List Int}{k:Nat}(hk:k<l.length):val (l.drop k)=(l[k]).toNat+BB*val (l.drop (k+1)):=by
 rw[aTh hk,val]
def aA (n:Nat):List Int:=if h:n=0 then []else((n % BB:Nat):Int)::aA (n / BB)
 termination_by n
 decreasing_by exact aVD (by omega) (by rw[dD];omega)
theorem aW:aA 0=[]:=by unfold aA;simp
theorem hU {n:Nat}(h:n≠0):aA n=((n % BB:Nat):Int)::aA (n / BB):=by
 rw[aA,aVl h]
theorem dR (n:Nat):dgs (aA n):=by
 induction n using Nat.strongRecOn with
 | _ n ih =>
  by_cases h:n=0
  · subst h;rw[aW];exact aB2
  · rw[hU h,mZ]
    have:=aUW n uD
    rw[dD]at this
    exact⟨⟨by omega,by rw[dD];omega⟩,ih _ (aVD (by omega) (by rw[dD];omega))⟩
theorem cQ (n:Nat):val (aA n)=n:=by
 induction n using Nat.strongRecOn with
 | _ n ih =>
  by_cases h:n=0
  · subst h;rw[aW];rfl
  · rw[hU h,val,ih _ (aVD (by omega) (by rw[dD];omega))]
    have:=aVo n BB
    simp only[aTJ];omega
theorem aBG {d:Int}{v:Nat}(hd:0<=d/\d<1000000000)(h:d≠0\/v≠0):aA (d.toNat+BB*v)=d::aA v:=by
 have hd':d.toNat<BB:=by rw[dD];omega
 have hne:d.toNat+BB*v≠0:=by
  rcases h with h | h
  · omega
  · have:0<BB*v:=aTW uD (by omega)
    omega
 rw[hU hne,Nat.add_mul_mod_self_left,aUJ hd',Nat.add_mul_div_left _ _ uD,aVO hd',aTC]
 congr 1;omega
def qV:List Int->List Int
 | []=>[]
 | d::l=>match qV l with
  | []=>if d=0 then []else [d]
  | t::r=>d::t::r
theorem dF {n:Nat}(h:n≠0):aA n≠[]:=by rw[hU h];simp
theorem aCP {n:Nat}:aA n=[]↔n=0:=by
 constructor
 · intro h
   by_cases c:n=0
   · exact c
   · exact absurd h (dF c)
 · rintro rfl;exact aW
theorem aFa:∀ {l:List Int},dgs l->qV l=aA (val l)
 | [],_=>by rw[val,aW];rfl
 | d::l,h=>by
  rw[mZ]at h
  have ih:=aFa h.2
  unfold qV
  rw[ih,val]
  by_cases c:val l=0
  · rw[c,aW]
    simp only[aVn,aTX]
    by_cases c2:d=0
    · rw[aTd c2,c2];simp[aW]
    · rw[aTc c2]
      have:=aBG (v:=0) h.1 (.inl c2)
      rw[aW]at this
      simpa using this.symm
  · rw[aBG h.1 (.inr c)]
    cases hx:aA (val l)with
    | nil=>exact absurd hx (dF c)
    | cons t r=>rfl
def nat (l:List Int):Prop:=dgs l/\l.getLast?≠some 0
theorem aDa:∀ {l:List Int},l.getLast?≠some 0->qV l=l
 | [],_=>rfl
 | [d],h=>by
  have:d≠0:=by intro e;apply h;simp[e]
  simp[qV,this]
 | d::e::l,h=>by
  have ih:qV (e::l)=e::l:=aDa (by simpa [List.getLast?_cons_cons]using h)
  unfold qV
  rw[ih]
theorem aAB {l:List Int}(h:nat l):l=aA (val l):=by
 rw[<- aFa h.1,aDa h.2]
theorem aBE:∀ (n:Nat),(aA n).getLast?≠some 0:=by
 intro n
 induction n using Nat.strongRecOn with
 | _ n ih =>
  by_cases h:n=0
  · subst h;rw[aW];simp
  · rw[hU h]
    by_cases c:n / BB=0
    · rw[c,aW]
      have:n % BB=n:=aUJ (by rw[Nat.div_eq_zero_iff]at c;rcases c with c | c;exact absurd c (by rw[dD];omega);exact c)
      rw[this];simp;omega
    · have:=ih _ (aVD (n:=n) (k:=BB) (by omega) (by rw[dD];omega))
      cases hx:aA (n / BB)with
      | nil=>exact absurd hx (dF c)
      | cons t r=>rw[hx]at this;rw[List.getLast?_cons_cons];exact this
theorem aOo (n:Nat):nat (aA n):=⟨dR n,aBE n⟩
theorem aN6 (k:Nat):0<BB ^ k:=Nat.pow_pos uD
theorem fZ {n k:Nat}(h:n<BB ^ k):(aA n).length<=k:=by
 induction k generalizing n with
 | zero => have : n = 0 := by simpa using h
           subst this;rw[aW];simp
 | succ k ih =>
  by_cases c:n=0
  · subst c;rw[aW];simp
  · rw[hU c,aTG]
    have:n / BB<BB ^ k:=by
     rw[aUQ uD]
     rw[aUw]at h;exact h
    have:=ih this;omega
theorem oY (n:Nat):n<BB ^ (aA n).length:=by
 have:=aE9 (dR n)
 rwa [cQ]at this
theorem aNe {n:Nat}(h:n≠0):BB ^ ((aA n).length-1)<=n:=by
 rcases aUn n (BB ^ ((aA n).length-1))with c | c
 · have h1:=fZ c
   have h2:(aA n).length≠0:=fun e=>dF h (aTq.1 e)
   omega
 · exact c
/- More about limbs. No program. -/
theorem aNr {l:List Int}(h:nat l)(e:val l=0):l=[]:=by rw[aAB h,e,aW]
theorem aOp {l:List Int}(h:nat l)(k:Nat):nat (l.drop k):=by
 refine⟨aO0 h.1 k,fun e=>h.2 ?_⟩
 rw[List.getLast?_drop]at e
 split at e
 · cases e
 · exact e
theorem aD7 {l:List Int}(h:nat l){k:Nat}(hk:k<l.length):val (l.drop k)≠0:=by
 intro e
 have:=congrArg List.length (aNr (aOp h k) e)
 simp at this;omega
theorem fK {l:List Int}{k:Nat}(hk:l.length<=k):val (l.drop k)=0:=by rw[aTE hk];rfl
theorem aJ4 {x v:Nat}(h:x+BB*v≠0):aA (x+BB*v)=((x % BB:Nat):Int)::aA (x / BB+v):=by
 have hx:=aVo x BB
 have hm:=aUW x uD
 have e:x+BB*v=((x % BB:Nat):Int).toNat+BB*(x / BB+v):=by
  rw[aTJ,aUy];omega
 rw[e]
 refine aBG ⟨by omega,by rw[dD]at hm ⊢;omega⟩ ?_
 by_cases c:x / BB+v=0
 · left
   rw[c,aVn,aTX,aTJ]at e
   intro h2;apply h;rw[e];omega
 · exact .inr c
def rU (x y:Nat):Int:=if x<y then -1 else if y<x then 1 else 0
theorem aKW {m n:Nat}(h:(aA m).length<(aA n).length):m<n:=by
 have h1:=oY m
 have hn:n≠0:=by rintro rfl;rw[aW]at h;simp at h
 have h2:=aNe hn
 have h3:BB ^ (aA m).length<=BB ^ ((aA n).length-1):=aT4 uD (by omega)
 omega
theorem aHZ:∀ {l:List Int} {k:Nat} {x:Int} (hk:k<l.length),val (l.set k x)+BB ^ k*(l[k]).toNat=val l+BB ^ k*x.toNat
 | d::l,0,x,_=>by simp[val];omega
 | d::l,k+1,x,hk=>by
  have ih:=aHZ (l:=l) (k:=k) (x:=x) (by simpa using hk)
  have ih2:=congrArg (BB*·) ih
  simp only[aUy,<- aT3]at ih2
  simp only[List.set_cons_succ,val,aVf,aUw,aTR (BB ^ k) BB]
  omega
theorem aBF {n i:Nat}(hi:i<(aA n).length):(aA n)[i]=((n / BB ^ i % BB:Nat):Int):=by
 induction i generalizing n with
 | zero =>
  have hn:n≠0:=by rintro rfl;rw[aW]at hi;simp at hi
  have e:=hU hn
  simp only[e,aUt,Nat.pow_zero,Nat.div_one]
 | succ i ih =>
  have hn:n≠0:=by rintro rfl;rw[aW]at hi;simp at hi
  have e:=hU hn
  have hi':i<(aA (n / BB)).length:=by rw[e]at hi;simpa using hi
  have:=ih hi'
  simp only[e,aVf,this,Nat.div_div_eq_div_mul,aUw,aTR (BB ^ i) BB]
theorem qS {d:Nat}(h:d<BB)(h0:d≠0):aA d=[(d:Int)]:=by
 rw[hU h0,aUJ h,aVO h,aW]
theorem fJ {a b k:Nat}(h:b<=k)(hk:(aA k).length<=a):(aA b).length<=a:=by
 rcases aUn (aA k).length (aA b).length with c | c
 · have:=aKW c;omega
 · omega
theorem dV (a b:Nat):(aA (a*b)).length<=(aA a).length+(aA b).length:=by
 refine fZ ?_
 rw[Nat.pow_add]
 exact Nat.mul_lt_mul'' (oY a) (oY b)
theorem aGr (a b:Nat):(aA (a+b)).length<=max (aA a).length (aA b).length+1:=by
 refine fZ ?_
 have h1:=oY a
 have h2:=oY b
 have h3:BB ^ (aA a).length<=BB ^ (max (aA a).length (aA b).length):=aT4 uD (by omega)
 have h4:BB ^ (aA b).length<=BB ^ (max (aA a).length (aA b).length):=aT4 uD (by omega)
 have h5:2*BB ^ (max (aA a).length (aA b).length)<=BB ^ (max (aA a).length (aA b).length)*BB:=by rw[aTR];exact aTA _ (by rw[dD];omega)
 rw[aUw];omega
end Go.Ev
