/- Parts PL, PN, PO, PD, PE. -/
import Derived.Test.YtlhoochohnnepaaGreatE3
set_option linter.all false
/- Plain laws: loops over lists. No program. -/
namespace Go.Ev
theorem wi {n:Int}(h:-9223372036854775808<=n/\n<=9223372036854775807):IntKind.i64.wrap n=n:=by
 rw[IntKind.wrap_i64];omega
theorem aFt {α:Type}(l:List α)(k:Nat):idx l (k:Int)=l[k]?:=by
 unfold idx;rw[if_pos (by omega)];simp
theorem aG {α:Type}{l:List α}{k:Nat}(h:k<l.length):idx l (k:Int)=some l[k]:=by rw[aFt];simp[h]
theorem mU {α:Type}(l:List α)(k:Nat)(y:α):tK l (k:Int) y=l.set k y:=by unfold tK;simp
theorem aJ {p:Prop}{_:Decidable p}(h:p):chk p=some ():=by unfold chk;rw[if_pos h]
theorem kV {α:Type}(l:List α)(a b:Int)(h:0<=a/\a<=b/\b<=l.length):sub l a b=some ((l.drop a.toNat).take (b-a).toNat):=by unfold sub;rw[if_pos h]
section
variable {α σ τ ρ:Type}
end
end Go.Ev
namespace Go.Ev
section
variable {σ ρ:Type}
end
end Go.Ev
namespace Go.Ev
section
variable {σ ρ:Type}
theorem aIN {step:Int->Option (Int ⊕ ρ)}(n:Nat)(Q:ρ->Prop)(J:Nat->Prop)(h0:J 0)(h1:∀ k:Nat,k<n->J k->(step (k:Int)=some (.inl ((k+1:Nat):Int))/\J (k+1))\/∃ r,step (k:Int)=some (.inr r)/\Q r)(h2:J n->∃ r,step (n:Int)=some (.inr r)/\Q r):∃ r,lp step 0=some r/\Q r:=by
 have main:∀ m k:Nat,m+k=n->J k->∃ r,lp step (k:Int)=some r/\Q r:=by
  intro m
  induction m with
  | zero =>
   intro k hk hj
   have:k=n:=by omega
   subst this
   obtain⟨r,e,q⟩:=h2 hj
   exact⟨r,aF e,q⟩
  | succ m ih =>
   intro k hk hj
   rcases h1 k (by omega) hj with⟨e,hj'⟩ | ⟨r,e,q⟩
   · rw[aM e];exact ih (k+1) (by omega) hj'
   · exact⟨r,aF e,q⟩
 exact main n 0 (by omega) h0
theorem aJV {step step':σ->Option (σ ⊕ ρ)}(J:σ->Prop)(h:∀ s,J s->step s=step' s/\∀ s',step s=some (.inl s')->J s')(s:σ)(hs:J s):lp step s=lp step' s:=by
 apply Option.ext
 intro r
 rw[zS,zS]
 constructor
 · rintro⟨n,hn⟩
   refine⟨n,?_⟩
   induction hn with
   | done e=>exact .done (by rw[<- (h _ hs).1];exact e)
   | more e _ ih=>exact .more (by rw[<- (h _ hs).1];exact e) (ih ((h _ hs).2 _ e))
 · rintro⟨n,hn⟩
   refine⟨n,?_⟩
   induction hn with
   | done e=>exact .done (by rw[(h _ hs).1];exact e)
   | more e _ ih=>have e':=(h _ hs).1.trans e;exact .more e' (ih ((h _ hs).2 _ e'))
end
end Go.Ev
namespace Go.Ev
theorem mY {α σ τ ρ:Type}{step:σ->Option (σ ⊕ ρ)}(l:List α)(E:Nat->τ->σ)(f:τ->α->τ)(fin:τ->ρ)(I:Nat->τ->Prop)
 (h1:∀ k t (hk:k<l.length),I k t->step (E k t)=some (.inl (E (k+1) (f t l[k])))/\I (k+1) (f t l[k])) (h2:∀ t,I l.length t->step (E l.length t)=some (.inr (fin t))) (t:τ) (h0:I 0 t) :
 lp step (E 0 t)=some (fin (l.foldl f t))/\I l.length (l.foldl f t):=by
 have main:∀ n k t,n+k=l.length->I k t->lp step (E k t)=some (fin ((l.drop k).foldl f t))/\I l.length ((l.drop k).foldl f t):=by
  intro n
  induction n with
  | zero =>
   intro k t hk hi
   have:k=l.length:=by omega
   subst this
   rw[List.drop_length,List.foldl_nil]
   exact⟨aF (h2 t hi),hi⟩
  | succ n ih =>
   intro k t hk hi
   have hlt:k<l.length:=by omega
   obtain⟨e,hi'⟩:=h1 k t hlt hi
   rw[List.drop_eq_getElem_cons hlt,List.foldl_cons,aM e]
   exact ih (k+1) _ (by omega) hi'
 have:=main l.length 0 t (by omega) h0
 simpa using this
end Go.Ev
/- Plain laws of loops over nested values: sizes, copies, comparisons, marks. No program. -/
namespace Go.Ev
section
variable {α:Type}
def szL (w:α->Nat)(l:List α):Nat:=(l.map (fun y=>w y+1)).sum
theorem aKW (w:α->Nat):szL w []=0:=rfl
theorem vL (w:α->Nat)(y:α)(l:List α):szL w (y::l)=w y+1+szL w l:=by simp[szL]
theorem aJf (w:α->Nat):∀ l:List α,szL w l=l.length+(l.map w).sum
 | []=>rfl
 | y::l=>by rw[vL,aJf w l,List.map_cons,List.sum_cons,List.length_cons];omega
theorem nK (w:α->Nat)(l:List α):l.length<=szL w l:=by rw[aJf];omega
theorem pP:∀ l:List α,szL (fun _=>0) l=l.length
 | []=>rfl
 | y::l=>by rw[vL,pP l,List.length_cons];omega
theorem rI {w:α->Nat}:∀ {l:List α} {y:α},y∈l->w y+1<=szL w l
 | z::l,y,h=>by
  rw[vL]
  rcases List.mem_cons.1 h with rfl | h
  · omega
  · have:=rI (w:=w) h;omega
theorem wC {σ ρ:Type}{step:σ->Option (σ ⊕ ρ)}(l:List α)(E:Nat->List α->σ)(fin:List α->ρ)
 (h1:∀ (k:Nat) (t:List α) (hk:k<l.length),t.length=k->step (E k t)=some (.inl (E (k+1) (t++[l[k]])))) (h2:∀ t:List α,t.length=l.length->step (E l.length t)=some (.inr (fin t))):lp step (E 0 [])=some (fin l):=by
 have main:∀ n k (t:List α),n+k=l.length->t.length=k->lp step (E k t)=some (fin (t++l.drop k)):=by
  intro n
  induction n with
  | zero =>
   intro k t hk ht
   have:k=l.length:=by omega
   subst this
   rw[List.drop_length,List.append_nil]
   exact aF (h2 t ht)
  | succ n ih =>
   intro k t hk ht
   have hlt:k<l.length:=by omega
   rw[aM (h1 k t hlt ht),ih (k+1) _ (by omega) (by simp[ht]),List.append_assoc,List.singleton_append,<- List.drop_eq_getElem_cons hlt]
 have:=main l.length 0 [] (by omega) rfl
 simpa using this
end
end Go.Ev
/- Plain laws of loops: comparison of lists, search. No program. -/
namespace Go.Ev
section
variable {α:Type}
theorem aMe [DecidableEq α]{step:Int->Option (Int ⊕ (Unit ⊕ Bool))}(a b:List α)(hl:a.length=b.length)(h1:∀ (k:Nat) (ha:k<a.length) (hb:k<b.length),step (k:Int)=some (if a[k]=b[k]then .inl ((k:Int)+1)else .inr (.inr false)))
 (h2:step (a.length:Int)=some (.inr (.inl ()))):lp step 0=some (if a=b then .inl ()else .inr false):=by
 have main:∀ n k:Nat,n+k=a.length->lp step (k:Int)=some (if a.drop k=b.drop k then .inl ()else .inr false):=by
  intro n
  induction n with
  | zero =>
   intro k hk
   have:k=a.length:=by omega
   subst this
   rw[aF h2,List.drop_length,List.drop_eq_nil_of_le (by omega),if_pos rfl]
  | succ n ih =>
   intro k hk
   have ha:k<a.length:=by omega
   have hb:k<b.length:=by omega
   have e:=h1 k ha hb
   rw[List.drop_eq_getElem_cons ha,List.drop_eq_getElem_cons hb]
   by_cases c:a[k]=b[k]
   · rw[if_pos c]at e
     rw[aM e,show(k:Int)+1=((k+1:Nat):Int)by omega,ih (k+1) (by omega),c]
     simp only[List.cons.injEq,true_and]
   · rw[if_neg c]at e
     rw[aF e,if_neg (fun h=>by injection h with h1 _;exact c h1)]
 have:=main a.length 0 (by omega)
 simpa using this
end
end Go.Ev
/- Natural numbers as lists of limbs. No program. -/
namespace Go.Ev
def BB:Nat:=1000000000
theorem cL:BB=1000000000:=rfl
theorem qH:0<BB:=by rw[cL];omega
def val:List Int->Nat
 | []=>0
 | d::l=>d.toNat+BB*val l
def dgs (l:List Int):Prop:=∀ d∈l,0<=d/\d<1000000000
theorem zZ:dgs []:=by intro d h;cases h
theorem kO {d:Int}{l:List Int}:dgs (d::l)↔(0<=d/\d<1000000000)/\dgs l:=by
 unfold dgs
 constructor
 · intro h;exact⟨h d (by simp),fun x hx=>h x (by simp[hx])⟩
 · rintro⟨h1,h2⟩ x hx
   rcases List.mem_cons.1 hx with rfl | hx
   · exact h1
   · exact h2 x hx
theorem aIi {a b:List Int}:dgs (a++b)↔dgs a/\dgs b:=by
 unfold dgs
 constructor
 · intro h;exact⟨fun x hx=>h x (by simp[hx]),fun x hx=>h x (by simp[hx])⟩
 · rintro⟨h1,h2⟩ x hx
   rcases List.mem_append.1 hx with hx | hx
   · exact h1 x hx
   · exact h2 x hx
theorem jU {l:List Int}(h:dgs l){i:Nat}(hi:i<l.length):0<=l[i]/\l[i]<1000000000:=h _ (List.getElem_mem hi)
theorem aGA {l:List Int}(h:dgs l)(k:Nat):dgs (l.take k):=fun d hd=>h d (List.mem_of_mem_take hd)
theorem aKo {l:List Int}(h:dgs l)(k:Nat):dgs (l.drop k):=fun d hd=>h d (List.mem_of_mem_drop hd)
theorem aBm {l:List Int}(h:dgs l)(k:Nat)(x:Int)(hx:0<=x/\x<1000000000):dgs (l.set k x):=by
 intro d hd
 rcases List.mem_or_eq_of_mem_set hd with h' | rfl
 · exact h d h'
 · exact hx
theorem aCA (n:Nat):dgs (List.replicate n 0):=by
 intro d hd
 rw[List.mem_replicate]at hd
 rw[hd.2];omega
theorem aKT (n:Nat):val (List.replicate n 0)=0:=by
 induction n with
 | zero=>rfl
 | succ n ih=>rw[List.replicate_succ,val,ih];rfl
theorem aE3:∀ (a b:List Int),val (a++b)=val a+BB ^ a.length*val b
 | [],b=>by simp[val]
 | d::a,b=>by
  rw[List.cons_append,val,val,aE3 a b,List.length_cons,Nat.pow_succ,Nat.mul_add,Nat.mul_comm (BB ^ a.length) BB,Nat.mul_assoc]
  omega
theorem aCG:∀ {l:List Int},dgs l->val l<BB ^ l.length
 | [],_=>by simp[val]
 | d::l,h=>by
  rw[kO]at h
  have ih:=aCG h.2
  rw[val,List.length_cons,Nat.pow_succ,Nat.mul_comm _ BB]
  have h1:d.toNat<BB:=by rw[cL];omega
  have h2:BB*(val l+1)<=BB*BB ^ l.length:=Nat.mul_le_mul_left _ ih
  rw[Nat.mul_add]at h2
  omega
theorem lY {l:List Int}{k:Nat}(hk:k<l.length):val (l.take (k+1))=val (l.take k)+BB ^ k*(l[k]).toNat:=by
 rw[List.take_succ,List.getElem?_eq_getElem hk,aE3]
 simp only[Option.toList_some,val,Nat.mul_zero,Nat.add_zero,List.length_take]
 rw[Nat.min_eq_left (by omega)]
theorem fU {l:List Int}{k:Nat}(hk:k<l.length):val (l.drop k)=(l[k]).toNat+BB*val (l.drop (k+1)):=by
 rw[List.drop_eq_getElem_cons hk,val]
def aA (n:Nat):List Int:=if h:n=0 then []else((n % BB:Nat):Int)::aA (n / BB)
 termination_by n
 decreasing_by exact Nat.div_lt_self (by omega) (by rw[cL];omega)
theorem aT:aA 0=[]:=by unfold aA;simp
theorem fS {n:Nat}(h:n≠0):aA n=((n % BB:Nat):Int)::aA (n / BB):=by
 rw[aA,dif_neg h]
theorem dH (n:Nat):dgs (aA n):=by
 induction n using Nat.strongRecOn with
 | _ n ih =>
  by_cases h:n=0
  · subst h;rw[aT];exact zZ
  · rw[fS h,kO]
    have:=Nat.mod_lt n qH
    rw[cL]at this
    exact⟨⟨by omega,by rw[cL];omega⟩,ih _ (Nat.div_lt_self (by omega) (by rw[cL];omega))⟩
theorem cA (n:Nat):val (aA n)=n:=by
 induction n using Nat.strongRecOn with
 | _ n ih =>
  by_cases h:n=0
  · subst h;rw[aT];rfl
  · rw[fS h,val,ih _ (Nat.div_lt_self (by omega) (by rw[cL];omega))]
    have:=Nat.mod_add_div n BB
    simp only[Int.toNat_natCast];omega
theorem zC {d:Int}{v:Nat}(hd:0<=d/\d<1000000000)(h:d≠0\/v≠0):aA (d.toNat+BB*v)=d::aA v:=by
 have hd':d.toNat<BB:=by rw[cL];omega
 have hne:d.toNat+BB*v≠0:=by
  rcases h with h | h
  · omega
  · have:0<BB*v:=Nat.mul_pos qH (by omega)
    omega
 rw[fS hne,Nat.add_mul_mod_self_left,Nat.mod_eq_of_lt hd',Nat.add_mul_div_left _ _ qH,Nat.div_eq_of_lt hd',Nat.zero_add]
 congr 1;omega
def oA:List Int->List Int
 | []=>[]
 | d::l=>match oA l with
  | []=>if d=0 then []else [d]
  | t::r=>d::t::r
theorem cM {n:Nat}(h:n≠0):aA n≠[]:=by rw[fS h];simp
theorem aDG {n:Nat}:aA n=[]↔n=0:=by
 constructor
 · intro h
   by_cases c:n=0
   · exact c
   · exact absurd h (cM c)
 · rintro rfl;exact aT
theorem aCH:∀ {l:List Int},dgs l->oA l=aA (val l)
 | [],_=>by rw[val,aT];rfl
 | d::l,h=>by
  rw[kO]at h
  have ih:=aCH h.2
  unfold oA
  rw[ih,val]
  by_cases c:val l=0
  · rw[c,aT]
    simp only[Nat.mul_zero,Nat.add_zero]
    by_cases c2:d=0
    · rw[if_pos c2,c2];simp[aT]
    · rw[if_neg c2]
      have:=zC (v:=0) h.1 (.inl c2)
      rw[aT]at this
      simpa using this.symm
  · rw[zC h.1 (.inr c)]
    cases hx:aA (val l)with
    | nil=>exact absurd hx (cM c)
    | cons t r=>rfl
def nat (l:List Int):Prop:=dgs l/\l.getLast?≠some 0
theorem aA2:∀ {l:List Int},l.getLast?≠some 0->oA l=l
 | [],_=>rfl
 | [d],h=>by
  have:d≠0:=by intro e;apply h;simp[e]
  simp[oA,this]
 | d::e::l,h=>by
  have ih:oA (e::l)=e::l:=aA2 (by simpa [List.getLast?_cons_cons]using h)
  unfold oA
  rw[ih]
theorem wZ {l:List Int}(h:nat l):l=aA (val l):=by
 rw[<- aCH h.1,aA2 h.2]
theorem zA:∀ (n:Nat),(aA n).getLast?≠some 0:=by
 intro n
 induction n using Nat.strongRecOn with
 | _ n ih =>
  by_cases h:n=0
  · subst h;rw[aT];simp
  · rw[fS h]
    by_cases c:n / BB=0
    · rw[c,aT]
      have:n % BB=n:=Nat.mod_eq_of_lt (by rw[Nat.div_eq_zero_iff]at c;rcases c with c | c;exact absurd c (by rw[cL];omega);exact c)
      rw[this];simp;omega
    · have:=ih _ (Nat.div_lt_self (n:=n) (k:=BB) (by omega) (by rw[cL];omega))
      cases hx:aA (n / BB)with
      | nil=>exact absurd hx (cM c)
      | cons t r=>rw[hx]at this;rw[List.getLast?_cons_cons];exact this
theorem aJP (n:Nat):nat (aA n):=⟨dH n,zA n⟩
theorem aJD (k:Nat):0<BB ^ k:=Nat.pow_pos qH
theorem eW {n k:Nat}(h:n<BB ^ k):(aA n).length<=k:=by
 induction k generalizing n with
 | zero => have : n = 0 := by simpa using h
           subst this;rw[aT];simp
 | succ k ih =>
  by_cases c:n=0
  · subst c;rw[aT];simp
  · rw[fS c,List.length_cons]
    have:n / BB<BB ^ k:=by
     rw[Nat.div_lt_iff_lt_mul qH]
     rw[Nat.pow_succ]at h;exact h
    have:=ih this;omega
theorem mD (n:Nat):n<BB ^ (aA n).length:=by
 have:=aCG (dH n)
 rwa [cA]at this
theorem aI2 {n:Nat}(h:n≠0):BB ^ ((aA n).length-1)<=n:=by
 rcases Nat.lt_or_ge n (BB ^ ((aA n).length-1))with c | c
 · have h1:=eW c
   have h2:(aA n).length≠0:=fun e=>cM h (List.length_eq_zero_iff.1 e)
   omega
 · exact c
end Go.Ev
/- More about limbs. No program. -/
namespace Go.Ev
set_option linter.all false
theorem aJb {l:List Int}(h:nat l)(e:val l=0):l=[]:=by rw[wZ h,e,aT]
theorem aJQ {l:List Int}(h:nat l)(k:Nat):nat (l.drop k):=by
 refine⟨aKo h.1 k,fun e=>h.2 ?_⟩
 rw[List.getLast?_drop]at e
 split at e
 · cases e
 · exact e
theorem aBV {l:List Int}(h:nat l){k:Nat}(hk:k<l.length):val (l.drop k)≠0:=by
 intro e
 have:=congrArg List.length (aJb (aJQ h k) e)
 simp at this;omega
theorem eH {l:List Int}{k:Nat}(hk:l.length<=k):val (l.drop k)=0:=by rw[List.drop_eq_nil_of_le hk];rfl
theorem aGz {x v:Nat}(h:x+BB*v≠0):aA (x+BB*v)=((x % BB:Nat):Int)::aA (x / BB+v):=by
 have hx:=Nat.mod_add_div x BB
 have hm:=Nat.mod_lt x qH
 have e:x+BB*v=((x % BB:Nat):Int).toNat+BB*(x / BB+v):=by
  rw[Int.toNat_natCast,Nat.mul_add];omega
 rw[e]
 refine zC ⟨by omega,by rw[cL]at hm ⊢;omega⟩ ?_
 by_cases c:x / BB+v=0
 · left
   rw[c,Nat.mul_zero,Nat.add_zero,Int.toNat_natCast]at e
   intro h2;apply h;rw[e];omega
 · exact .inr c
def oQ (x y:Nat):Int:=if x<y then -1 else if y<x then 1 else 0
theorem aHj {m n:Nat}(h:(aA m).length<(aA n).length):m<n:=by
 have h1:=mD m
 have hn:n≠0:=by rintro rfl;rw[aT]at h;simp at h
 have h2:=aI2 hn
 have h3:BB ^ (aA m).length<=BB ^ ((aA n).length-1):=Nat.pow_le_pow_right qH (by omega)
 omega
theorem aE2:∀ {l:List Int} {k:Nat} {x:Int} (hk:k<l.length),val (l.set k x)+BB ^ k*(l[k]).toNat=val l+BB ^ k*x.toNat
 | d::l,0,x,_=>by simp[val];omega
 | d::l,k+1,x,hk=>by
  have ih:=aE2 (l:=l) (k:=k) (x:=x) (by simpa using hk)
  have ih2:=congrArg (BB*·) ih
  simp only[Nat.mul_add,<- Nat.mul_assoc]at ih2
  simp only[List.set_cons_succ,val,List.getElem_cons_succ,Nat.pow_succ,Nat.mul_comm (BB ^ k) BB]
  omega
theorem zB {n i:Nat}(hi:i<(aA n).length):(aA n)[i]=((n / BB ^ i % BB:Nat):Int):=by
 induction i generalizing n with
 | zero =>
  have hn:n≠0:=by rintro rfl;rw[aT]at hi;simp at hi
  have e:=fS hn
  simp only[e,List.getElem_cons_zero,Nat.pow_zero,Nat.div_one]
 | succ i ih =>
  have hn:n≠0:=by rintro rfl;rw[aT]at hi;simp at hi
  have e:=fS hn
  have hi':i<(aA (n / BB)).length:=by rw[e]at hi;simpa using hi
  have:=ih hi'
  simp only[e,List.getElem_cons_succ,this,Nat.div_div_eq_div_mul,Nat.pow_succ,Nat.mul_comm (BB ^ i) BB]
theorem nT {d:Nat}(h:d<BB)(h0:d≠0):aA d=[(d:Int)]:=by
 rw[fS h0,Nat.mod_eq_of_lt h,Nat.div_eq_of_lt h,aT]
theorem eG {a b k:Nat}(h:b<=k)(hk:(aA k).length<=a):(aA b).length<=a:=by
 rcases Nat.lt_or_ge (aA k).length (aA b).length with c | c
 · have:=aHj c;omega
 · omega
theorem dM (a b:Nat):(aA (a*b)).length<=(aA a).length+(aA b).length:=by
 refine eW ?_
 rw[Nat.pow_add]
 exact Nat.mul_lt_mul'' (mD a) (mD b)
theorem aDI (a b:Nat):(aA (a+b)).length<=max (aA a).length (aA b).length+1:=by
 refine eW ?_
 have h1:=mD a
 have h2:=mD b
 have h3:BB ^ (aA a).length<=BB ^ (max (aA a).length (aA b).length):=Nat.pow_le_pow_right qH (by omega)
 have h4:BB ^ (aA b).length<=BB ^ (max (aA a).length (aA b).length):=Nat.pow_le_pow_right qH (by omega)
 have h5:2*BB ^ (max (aA a).length (aA b).length)<=BB ^ (max (aA a).length (aA b).length)*BB:=by rw[Nat.mul_comm];exact Nat.mul_le_mul_left _ (by rw[cL];omega)
 rw[Nat.pow_succ];omega
end Go.Ev
