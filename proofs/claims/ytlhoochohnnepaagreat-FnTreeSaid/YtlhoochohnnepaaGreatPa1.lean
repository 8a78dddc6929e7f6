/- Parts PL, PN, PO, PD, PE. -/
import Derived.Test.YtlhoochohnnepaaGreatE3
set_option linter.all false
set_option maxHeartbeats 4000000
set_option maxRecDepth 20000
/- Plain laws: loops over lists. No program. -/
namespace Go.Ev
theorem wi {n:Int}(h:-9223372036854775808<=n/\n<=9223372036854775807):IntKind.i64.wrap n=n:=by
 rw[IntKind.wrap_i64];omega
theorem hY {α:Type}(l:List α)(k:Nat):idx l (k:Int)=l[k]?:=by
 unfold idx;rw[aTK (by omega)];simp
theorem aM {α:Type}{l:List α}{k:Nat}(h:k<l.length):idx l (k:Int)=some l[k]:=by rw[hY];simp[h]
theorem jO {α:Type}(l:List α)(k:Nat)(y:α):nS l (k:Int) y=l.set k y:=by unfold nS;simp
theorem aN {p:Prop}{_:Decidable p}(h:p):chk p=some ():=by unfold chk;rw[aTK h]
theorem qC {α:Type}(l:List α)(a b:Int)(h:0<=a/\a<=b/\b<=l.length):sub l a b=some ((l.drop a.toNat).take (b-a).toNat):=by unfold sub;rw[aTK h]
section
variable {α σ τ ρ:Type}
end
section
variable {σ ρ:Type}
end
section
variable {σ ρ:Type}
theorem aNp {step:Int->Option (Int ⊕ ρ)}(n:Nat)(Q:ρ->Prop)(J:Nat->Prop)(h0:J 0)(h1:∀ k:Nat,k<n->J k->(step (k:Int)=some (.inl ((k+1:Nat):Int))/\J (k+1))\/∃ r,step (k:Int)=some (.inr r)/\Q r)(h2:J n->∃ r,step (n:Int)=some (.inr r)/\Q r):∃ r,lp step 0=some r/\Q r:=by
 have main:∀ m k:Nat,m+k=n->J k->∃ r,lp step (k:Int)=some r/\Q r:=by
  intro m
  induction m with
  | zero =>
   intro k hk hj
   have:k=n:=by omega
   subst this
   obtain⟨r,e,q⟩:=h2 hj
   exact⟨r,aJ e,q⟩
  | succ m ih =>
   intro k hk hj
   rcases h1 k (by omega) hj with⟨e,hj'⟩ | ⟨r,e,q⟩
   · rw[aS e];exact ih (k+1) (by omega) hj'
   · exact⟨r,aJ e,q⟩
 exact main n 0 (by omega) h0
theorem aO4 {step step':σ->Option (σ ⊕ ρ)}(J:σ->Prop)(h:∀ s,J s->step s=step' s/\∀ s',step s=some (.inl s')->J s')(s:σ)(hs:J s):lp step s=lp step' s:=by
 apply Option.ext
 intro r
 rw[aCv,aCv]
 constructor
 · rintro⟨n,hn⟩
   refine⟨n,?_⟩
   induction hn with
   | done e=>exact .done (by rw[<- (h _ hs).1];exact e)
   | more e _ ih=>exact .more (by rw[<- (h _ hs).1];exact e) (ih ((h _ hs).2 _ e))
 · rintro⟨n,hn⟩
   refine⟨n,?_⟩
   induction hn with
   | done e=>exact .done (by rw[(h _ hs).1];exact e)
   | more e _ ih=>have e':=(h _ hs).1.trans e;exact .more e' (ih ((h _ hs).2 _ e'))
end
theorem lW {α σ τ ρ:Type}{step:σ->Option (σ ⊕ ρ)}(l:List α)(E:Nat->τ->σ)(f:τ->α->τ)(fin:τ->ρ)(I:Nat->τ->Prop)
 (h1:∀ k t (hk:k<l.length),I k t->step (E k t)=some (.inl (E (k+1) (f t l[k])))/\I (k+1) (f t l[k])) (h2:∀ t,I l.length t->step (E l.length t)=some (.inr (fin t))) (t:τ) (h0:I 0 t) :
 lp step (E 0 t)=some (fin (l.foldl f t))/\I l.length (l.foldl f t):=by
 have main:∀ n k t,n+k=l.length->I k t->lp step (E k t)=some (fin ((l.drop k).foldl f t))/\I l.length ((l.drop k).foldl f t):=by
  intro n
  induction n with
  | zero =>
   intro k t hk hi
   have:k=l.length:=by omega
   subst this
   rw[aU3,List.foldl_nil]
   exact⟨aJ (h2 t hi),hi⟩
  | succ n ih =>
   intro k t hk hi
   have hlt:k<l.length:=by omega
   obtain⟨e,hi'⟩:=h1 k t hlt hi
   rw[aTQ hlt,aVe,aS e]
   exact ih (k+1) _ (by omega) hi'
 have:=main l.length 0 t (by omega) h0
 simpa using this
/- Plain laws of loops over nested values: sizes, copies, comparisons, marks. No program. -/
section
variable {α:Type}
def szL (w:α->Nat)(l:List α):Nat:=(l.map (fun y=>w y+1)).sum
theorem aIF (w:α->Nat):szL w []=0:=rfl
theorem oP (w:α->Nat)(y:α)(l:List α):szL w (y::l)=w y+1+szL w l:=by simp[szL]
theorem aIG (w:α->Nat):∀ (a b:List α),szL w (a++b)=szL w a+szL w b
 | [],b=>by simp[aIF]
 | y::a,b=>by rw[aTT,oP,oP,aIG w a b];omega
theorem aN3 (w:α->Nat):∀ l:List α,szL w l=l.length+(l.map w).sum
 | []=>rfl
 | y::l=>by rw[oP,aN3 w l,aTV,aWf,aUh];omega
theorem jW (w:α->Nat)(l:List α):l.length<=szL w l:=by rw[aN3];omega
theorem uC:∀ l:List α,szL (fun _=>0) l=l.length
 | []=>rfl
 | y::l=>by rw[oP,uC l,aUh];omega
theorem qB {w:α->Nat}:∀ {l:List α} {y:α},y∈l->w y+1<=szL w l
 | z::l,y,h=>by
  rw[oP]
  rcases aTM.1 h with rfl | h
  · omega
  · have:=qB (w:=w) h;omega
theorem sV {σ ρ:Type}{step:σ->Option (σ ⊕ ρ)}(l:List α)(E:Nat->List α->σ)(fin:List α->ρ)
 (h1:∀ (k:Nat) (t:List α) (hk:k<l.length),t.length=k->step (E k t)=some (.inl (E (k+1) (t++[l[k]])))) (h2:∀ t:List α,t.length=l.length->step (E l.length t)=some (.inr (fin t))):lp step (E 0 [])=some (fin l):=by
 have main:∀ n k (t:List α),n+k=l.length->t.length=k->lp step (E k t)=some (fin (t++l.drop k)):=by
  intro n
  induction n with
  | zero =>
   intro k t hk ht
   have:k=l.length:=by omega
   subst this
   rw[aU3,aUJ]
   exact aJ (h2 t ht)
  | succ n ih =>
   intro k t hk ht
   have hlt:k<l.length:=by omega
   rw[aS (h1 k t hlt ht),ih (k+1) _ (by omega) (by simp[ht]),aT0,aUP,<- aTQ hlt]
 have:=main l.length 0 [] (by omega) rfl
 simpa using this
end
/- Plain laws of loops: comparison of lists, search. No program. -/
section
variable {α:Type}
theorem aJc [DecidableEq α]{step:Int->Option (Int ⊕ (Unit ⊕ Bool))}(a b:List α)(hl:a.length=b.length)(h1:∀ (k:Nat) (ha:k<a.length) (hb:k<b.length),step (k:Int)=some (if a[k]=b[k]then .inl ((k:Int)+1)else .inr (.inr false)))
 (h2:step (a.length:Int)=some (.inr (.inl ()))):lp step 0=some (if a=b then .inl ()else .inr false):=by
 have main:∀ n k:Nat,n+k=a.length->lp step (k:Int)=some (if a.drop k=b.drop k then .inl ()else .inr false):=by
  intro n
  induction n with
  | zero =>
   intro k hk
   have:k=a.length:=by omega
   subst this
   rw[aJ h2,aU3,aUe (by omega),aTK rfl]
  | succ n ih =>
   intro k hk
   have ha:k<a.length:=by omega
   have hb:k<b.length:=by omega
   have e:=h1 k ha hb
   rw[aTQ ha,aTQ hb]
   by_cases c:a[k]=b[k]
   · rw[aTK c]at e
     rw[aS e,show(k:Int)+1=((k+1:Nat):Int)by omega,ih (k+1) (by omega),c]
     simp only[List.cons.injEq,true_and]
   · rw[aTJ c]at e
     rw[aJ e,aTJ (fun h=>by injection h with h1 _;exact c h1)]
 have:=main a.length 0 (by omega)
 simpa using this
end
/- Natural numbers as lists of limbs. No program. -/
def BB:Nat:=1000000000
theorem dN:BB=1000000000:=rfl
theorem vC:0<BB:=by rw[dN];omega
def val:List Int->Nat
 | []=>0
 | d::l=>d.toNat+BB*val l
def dgs (l:List Int):Prop:=∀ d∈l,0<=d/\d<1000000000
theorem aCB:dgs []:=by intro d h;cases h
theorem nM {d:Int}{l:List Int}:dgs (d::l)↔(0<=d/\d<1000000000)/\dgs l:=by
 unfold dgs
 constructor
 · intro h;exact⟨h d (by simp),fun x hx=>h x (by simp[hx])⟩
 · rintro⟨h1,h2⟩ x hx
   rcases aTM.1 hx with rfl | hx
   · exact h1
   · exact h2 x hx
theorem aML {a b:List Int}:dgs (a++b)↔dgs a/\dgs b:=by
 unfold dgs
 constructor
 · intro h;exact⟨fun x hx=>h x (by simp[hx]),fun x hx=>h x (by simp[hx])⟩
 · rintro⟨h1,h2⟩ x hx
   rcases aTR.1 hx with hx | hx
   · exact h1 x hx
   · exact h2 x hx
theorem mN {l:List Int}(h:dgs l){i:Nat}(hi:i<l.length):0<=l[i]/\l[i]<1000000000:=h _ (aT2 hi)
theorem aKx {l:List Int}(h:dgs l)(k:Nat):dgs (l.take k):=fun d hd=>h d (aWu hd)
theorem aPw {l:List Int}(h:dgs l)(k:Nat):dgs (l.drop k):=fun d hd=>h d (aWv hd)
theorem aEf {l:List Int}(h:dgs l)(k:Nat)(x:Int)(hx:0<=x/\x<1000000000):dgs (l.set k x):=by
 intro d hd
 rcases List.mem_or_eq_of_mem_set hd with h' | rfl
 · exact h d h'
 · exact hx
theorem aFL (n:Nat):dgs (List.replicate n 0):=by
 intro d hd
 rw[List.mem_replicate]at hd
 rw[hd.2];omega
theorem aQh (n:Nat):val (List.replicate n 0)=0:=by
 induction n with
 | zero=>rfl
 | succ n ih=>rw[aVj,val,ih];rfl
theorem aID:∀ (a b:List Int),val (a++b)=val a+BB ^ a.length*val b
 | [],b=>by simp[val]
 | d::a,b=>by
  rw[aTT,val,val,aID a b,aUh,aU0,aU5,aUm (BB ^ a.length) BB,aUI]
  omega
theorem aFT:∀ {l:List Int},dgs l->val l<BB ^ l.length
 | [],_=>by simp[val]
 | d::l,h=>by
  rw[nM]at h
  have ih:=aFT h.2
  rw[val,aUh,aU0,aUm _ BB]
  have h1:d.toNat<BB:=by rw[dN];omega
  have h2:BB*(val l+1)<=BB*BB ^ l.length:=aT7 _ ih
  rw[aU5]at h2
  omega
theorem pM {l:List Int}{k:Nat}(hk:k<l.length):val (l.take (k+1))=val (l.take k)+BB ^ k*(l[k]).toNat:=by
 rw[aWo,aTS hk,aID]
 simp only[Option.toList_some,val,aWa,aUw,aUo]
 rw[aVp (by omega)]
theorem iL {l:List Int}{k:Nat}(hk:k<l.length):val (l.drop k)=(l[k]).toNat+BB*val (l.drop (k+1)):=by
 rw[aTQ hk,val]
def aA (n:Nat):List Int:=if h:n=0 then []else((n % BB:Nat):Int)::aA (n / BB)
 termination_by n
 decreasing_by exact aWd (by omega) (by rw[dN];omega)
theorem bC:aA 0=[]:=by unfold aA;simp
theorem iI {n:Nat}(h:n≠0):aA n=((n % BB:Nat):Int)::aA (n / BB):=by
 rw[aA,aVV h]
theorem eJ (n:Nat):dgs (aA n):=by
 induction n using Nat.strongRecOn with
 | _ n ih =>
  by_cases h:n=0
  · subst h;rw[bC];exact aCB
  · rw[iI h,nM]
    have:=aVw n vC
    rw[dN]at this
    exact⟨⟨by omega,by rw[dN];omega⟩,ih _ (aWd (by omega) (by rw[dN];omega))⟩
theorem cV (n:Nat):val (aA n)=n:=by
 induction n using Nat.strongRecOn with
 | _ n ih =>
  by_cases h:n=0
  · subst h;rw[bC];rfl
  · rw[iI h,val,ih _ (aWd (by omega) (by rw[dN];omega))]
    have:=aVX n BB
    simp only[aUf];omega
theorem aCc {d:Int}{v:Nat}(hd:0<=d/\d<1000000000)(h:d≠0\/v≠0):aA (d.toNat+BB*v)=d::aA v:=by
 have hd':d.toNat<BB:=by rw[dN];omega
 have hne:d.toNat+BB*v≠0:=by
  rcases h with h | h
  · omega
  · have:0<BB*v:=aUq vC (by omega)
    omega
 rw[iI hne,Nat.add_mul_mod_self_left,aVg hd',Nat.add_mul_div_left _ _ vC,aWs hd',aUg]
 congr 1;omega
def sI:List Int->List Int
 | []=>[]
 | d::l=>match sI l with
  | []=>if d=0 then []else [d]
  | t::r=>d::t::r
theorem dO {n:Nat}(h:n≠0):aA n≠[]:=by rw[iI h];simp
theorem aDo {n:Nat}:aA n=[]↔n=0:=by
 constructor
 · intro h
   by_cases c:n=0
   · exact c
   · exact absurd h (dO c)
 · rintro rfl;exact bC
theorem aFU:∀ {l:List Int},dgs l->sI l=aA (val l)
 | [],_=>by rw[val,bC];rfl
 | d::l,h=>by
  rw[nM]at h
  have ih:=aFU h.2
  unfold sI
  rw[ih,val]
  by_cases c:val l=0
  · rw[c,bC]
    simp only[aWa,aUw]
    by_cases c2:d=0
    · rw[aTK c2,c2];simp[bC]
    · rw[aTJ c2]
      have:=aCc (v:=0) h.1 (.inl c2)
      rw[bC]at this
      simpa using this.symm
  · rw[aCc h.1 (.inr c)]
    cases hx:aA (val l)with
    | nil=>exact absurd hx (dO c)
    | cons t r=>rfl
def nat (l:List Int):Prop:=dgs l/\l.getLast?≠some 0
theorem aDQ:∀ {l:List Int},l.getLast?≠some 0->sI l=l
 | [],_=>rfl
 | [d],h=>by
  have:d≠0:=by intro e;apply h;simp[e]
  simp[sI,this]
 | d::e::l,h=>by
  have ih:sI (e::l)=e::l:=aDQ (by simpa [List.getLast?_cons_cons]using h)
  unfold sI
  rw[ih]
theorem aA8 {l:List Int}(h:nat l):l=aA (val l):=by
 rw[<- aFU h.1,aDQ h.2]
theorem aCa:∀ (n:Nat),(aA n).getLast?≠some 0:=by
 intro n
 induction n using Nat.strongRecOn with
 | _ n ih =>
  by_cases h:n=0
  · subst h;rw[bC];simp
  · rw[iI h]
    by_cases c:n / BB=0
    · rw[c,bC]
      have:n % BB=n:=aVg (by rw[Nat.div_eq_zero_iff]at c;rcases c with c | c;exact absurd c (by rw[dN];omega);exact c)
      rw[this];simp;omega
    · have:=ih _ (aWd (n:=n) (k:=BB) (by omega) (by rw[dN];omega))
      cases hx:aA (n / BB)with
      | nil=>exact absurd hx (dO c)
      | cons t r=>rw[hx]at this;rw[List.getLast?_cons_cons];exact this
theorem aOU (n:Nat):nat (aA n):=⟨eJ n,aCa n⟩
theorem aOB (k:Nat):0<BB ^ k:=Nat.pow_pos vC
theorem gN {n k:Nat}(h:n<BB ^ k):(aA n).length<=k:=by
 induction k generalizing n with
 | zero => have : n = 0 := by simpa using h
           subst this;rw[bC];simp
 | succ k ih =>
  by_cases c:n=0
  · subst c;rw[bC];simp
  · rw[iI c,aUh]
    have:n / BB<BB ^ k:=by
     rw[aVq vC]
     rw[aU0]at h;exact h
    have:=ih this;omega
theorem pW (n:Nat):n<BB ^ (aA n).length:=by
 have:=aFT (eJ n)
 rwa [cV]at this
theorem aNG {n:Nat}(h:n≠0):BB ^ ((aA n).length-1)<=n:=by
 rcases aUT n (BB ^ ((aA n).length-1))with c | c
 · have h1:=gN c
   have h2:(aA n).length≠0:=fun e=>dO h (aTW.1 e)
   omega
 · exact c
/- More about limbs. No program. -/
theorem aNX {l:List Int}(h:nat l)(e:val l=0):l=[]:=by rw[aA8 h,e,bC]
theorem aOV {l:List Int}(h:nat l)(k:Nat):nat (l.drop k):=by
 refine⟨aPw h.1 k,fun e=>h.2 ?_⟩
 rw[List.getLast?_drop]at e
 split at e
 · cases e
 · exact e
theorem aEW {l:List Int}(h:nat l){k:Nat}(hk:k<l.length):val (l.drop k)≠0:=by
 intro e
 have:=congrArg List.length (aNX (aOV h k) e)
 simp at this;omega
theorem fU {l:List Int}{k:Nat}(hk:l.length<=k):val (l.drop k)=0:=by rw[aUe hk];rfl
theorem aKw {x v:Nat}(h:x+BB*v≠0):aA (x+BB*v)=((x % BB:Nat):Int)::aA (x / BB+v):=by
 have hx:=aVX x BB
 have hm:=aVw x vC
 have e:x+BB*v=((x % BB:Nat):Int).toNat+BB*(x / BB+v):=by
  rw[aUf,aU5];omega
 rw[e]
 refine aCc ⟨by omega,by rw[dN]at hm ⊢;omega⟩ ?_
 by_cases c:x / BB+v=0
 · left
   rw[c,aWa,aUw,aUf]at e
   intro h2;apply h;rw[e];omega
 · exact .inr c
def tG (x y:Nat):Int:=if x<y then -1 else if y<x then 1 else 0
theorem aLp {m n:Nat}(h:(aA m).length<(aA n).length):m<n:=by
 have h1:=pW m
 have hn:n≠0:=by rintro rfl;rw[bC]at h;simp at h
 have h2:=aNG hn
 have h3:BB ^ (aA m).length<=BB ^ ((aA n).length-1):=aUu vC (by omega)
 omega
theorem aIC:∀ {l:List Int} {k:Nat} {x:Int} (hk:k<l.length),val (l.set k x)+BB ^ k*(l[k]).toNat=val l+BB ^ k*x.toNat
 | d::l,0,x,_=>by simp[val];omega
 | d::l,k+1,x,hk=>by
  have ih:=aIC (l:=l) (k:=k) (x:=x) (by simpa using hk)
  have ih2:=congrArg (BB*·) ih
  simp only[aU5,<- aUI]at ih2
  simp only[List.set_cons_succ,val,aVQ,aU0,aUm (BB ^ k) BB]
  omega
theorem aCb {n i:Nat}(hi:i<(aA n).length):(aA n)[i]=((n / BB ^ i % BB:Nat):Int):=by
 induction i generalizing n with
 | zero =>
  have hn:n≠0:=by rintro rfl;rw[bC]at hi;simp at hi
  have e:=iI hn
  simp only[e,aU1,Nat.pow_zero,Nat.div_one]
 | succ i ih =>
  have hn:n≠0:=by rintro rfl;rw[bC]at hi;simp at hi
  have e:=iI hn
  have hi':i<(aA (n / BB)).length:=by rw[e]at hi;simpa using hi
  have:=ih hi'
  simp only[e,aVQ,this,Nat.div_div_eq_div_mul,aU0,aUm (BB ^ i) BB]
theorem sC {d:Nat}(h:d<BB)(h0:d≠0):aA d=[(d:Int)]:=by
 rw[iI h0,aVg h,aWs h,bC]
theorem fT {a b k:Nat}(h:b<=k)(hk:(aA k).length<=a):(aA b).length<=a:=by
 rcases aUT (aA k).length (aA b).length with c | c
 · have:=aLp c;omega
 · omega
theorem eQ (a b:Nat):(aA (a*b)).length<=(aA a).length+(aA b).length:=by
 refine gN ?_
 rw[Nat.pow_add]
 exact Nat.mul_lt_mul'' (pW a) (pW b)
theorem aHa (a b:Nat):(aA (a+b)).length<=max (aA a).length (aA b).length+1:=by
 refine gN ?_
 have h1:=pW a
 have h2:=pW b
 have h3:BB ^ (aA a).length<=BB ^ (max (aA a).length (aA b).length):=aUu vC (by omega)
 have h4:BB ^ (aA b).length<=BB ^ (max (aA a).length (aA b).length):=aUu vC (by omega)
 have h5:2*BB ^ (max (aA a).length (aA b).length)<=BB ^ (max (aA a).length (aA b).length)*BB:=by rw[aUm];exact aT7 _ (by rw[dN];omega)
 rw[aU0];omega
end Go.Ev
