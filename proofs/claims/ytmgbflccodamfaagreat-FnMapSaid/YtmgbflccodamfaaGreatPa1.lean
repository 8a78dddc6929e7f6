/- Parts PL, PN, PO, PD, MX1, PE. -/
import Derived.Test.YtmgbflccodamfaaGreatE3
set_option linter.all false
set_option maxHeartbeats 4000000
set_option maxRecDepth 20000
/- Plain laws: loops over lists. No program. -/
namespace Go.Ev
theorem wi {n:Int}(h:-9223372036854775808<=n/\n<=9223372036854775807):IntKind.i64.wrap n=n:=by
 rw[IntKind.wrap_i64];omega
theorem aFw {α:Type}(l:List α)(k:Nat):idx l (k:Int)=l[k]?:=by
 unfold idx;rw[aUs (by omega)];simp
theorem aH {α:Type}{l:List α}{k:Nat}(h:k<l.length):idx l (k:Int)=some l[k]:=by rw[aFw];simp[h]
theorem rQ {α:Type}(l:List α)(k:Nat)(y:α):nA l (k:Int) y=l.set k y:=by unfold nA;simp
theorem aI {p:Prop}{_:Decidable p}(h:p):chk p=some ():=by unfold chk;rw[aUs h]
theorem tJ {α:Type}(l:List α)(a b:Int)(h:0<=a/\a<=b/\b<=l.length):sub l a b=some ((l.drop a.toNat).take (b-a).toNat):=by unfold sub;rw[aUs h]
section
variable {α σ τ ρ:Type}
end
section
variable {σ ρ:Type}
end
section
variable {σ ρ:Type}
theorem aAx {step:Int->Option (Int ⊕ ρ)}(n:Nat)(Q:ρ->Prop)(J:Nat->Prop)(h0:J 0)(h1:∀ k:Nat,k<n->J k->(step (k:Int)=some (.inl ((k+1:Nat):Int))/\J (k+1))\/∃ r,step (k:Int)=some (.inr r)/\Q r)(h2:J n->∃ r,step (n:Int)=some (.inr r)/\Q r):∃ r,lp step 0=some r/\Q r:=by
 have main:∀ m k:Nat,m+k=n->J k->∃ r,lp step (k:Int)=some r/\Q r:=by
  intro m
  induction m with
  | zero =>
   intro k hk hj
   have:k=n:=by omega
   subst this
   obtain⟨r,e,q⟩:=h2 hj
   exact⟨r,aG e,q⟩
  | succ m ih =>
   intro k hk hj
   rcases h1 k (by omega) hj with⟨e,hj'⟩ | ⟨r,e,q⟩
   · rw[aO e];exact ih (k+1) (by omega) hj'
   · exact⟨r,aG e,q⟩
 exact main n 0 (by omega) h0
theorem aO5 {step step':σ->Option (σ ⊕ ρ)}(J:σ->Prop)(h:∀ s,J s->step s=step' s/\∀ s',step s=some (.inl s')->J s')(s:σ)(hs:J s):lp step s=lp step' s:=by
 apply Option.ext
 intro r
 rw[aCm,aCm]
 constructor
 · rintro⟨n,hn⟩
   refine⟨n,?_⟩
   induction hn with
   | done e=>exact .done (by rw[<- (h _ hs).1];exact e)
   | more e _ ih=>exact .more (by rw[<- (h _ hs).1];exact e) (ih ((h _ hs).2 _ e))
 · rintro⟨n,hn⟩
   refine⟨n,?_⟩
   induction hn with
   | done e=>exact .done (by rw[(h _ hs).1];exact e)
   | more e _ ih=>have e':=(h _ hs).1.trans e;exact .more e' (ih ((h _ hs).2 _ e'))
end
theorem iF {α σ τ ρ:Type}{step:σ->Option (σ ⊕ ρ)}(l:List α)(E:Nat->τ->σ)(f:τ->α->τ)(fin:τ->ρ)(I:Nat->τ->Prop)
 (h1:∀ k t (hk:k<l.length),I k t->step (E k t)=some (.inl (E (k+1) (f t l[k])))/\I (k+1) (f t l[k])) (h2:∀ t,I l.length t->step (E l.length t)=some (.inr (fin t))) (t:τ) (h0:I 0 t) :
 lp step (E 0 t)=some (fin (l.foldl f t))/\I l.length (l.foldl f t):=by
 have main:∀ n k t,n+k=l.length->I k t->lp step (E k t)=some (fin ((l.drop k).foldl f t))/\I l.length ((l.drop k).foldl f t):=by
  intro n
  induction n with
  | zero =>
   intro k t hk hi
   have:k=l.length:=by omega
   subst this
   rw[aVO,List.foldl_nil]
   exact⟨aG (h2 t hi),hi⟩
  | succ n ih =>
   intro k t hk hi
   have hlt:k<l.length:=by omega
   obtain⟨e,hi'⟩:=h1 k t hlt hi
   rw[aUw hlt,aVw,aO e]
   exact ih (k+1) _ (by omega) hi'
 have:=main l.length 0 t (by omega) h0
 simpa using this
def aHC (l:List ByteArray)(s:ByteArray):Bool:=l.any (fun x=>decide (x=s))
theorem aBW {l:List ByteArray}{s:ByteArray}:aHC l s=true↔s∈l:=by
 unfold aHC
 rw[aWn]
 constructor
 · rintro⟨x,h1,h2⟩;rw[<- aU4 h2];exact h1
 · intro h;exact⟨s,h,by simp⟩
theorem aKm {l:List ByteArray}{s:ByteArray}:aHC l s=false↔s∉l:=by
 rw[<- aBW];simp
/- Plain laws of loops over nested values: sizes, copies, comparisons, marks. No program. -/
section
variable {α:Type}
def szL (w:α->Nat)(l:List α):Nat:=(l.map (fun y=>w y+1)).sum
theorem aQl (w:α->Nat):szL w []=0:=rfl
theorem tI (w:α->Nat)(y:α)(l:List α):szL w (y::l)=w y+1+szL w l:=by simp[szL]
theorem aN9 (w:α->Nat):∀ l:List α,szL w l=l.length+(l.map w).sum
 | []=>rfl
 | y::l=>by rw[tI,aN9 w l,aUH,aWO,aUC];omega
theorem qR (w:α->Nat)(l:List α):l.length<=szL w l:=by rw[aN9];omega
theorem tH:∀ l:List α,szL (fun _=>0) l=l.length
 | []=>rfl
 | y::l=>by rw[tI,tH l,aUC];omega
theorem vN {w:α->Nat}:∀ {l:List α} {y:α},y∈l->w y+1<=szL w l
 | z::l,y,h=>by
  rw[tI]
  rcases aUr.1 h with rfl | h
  · omega
  · have:=vN (w:=w) h;omega
theorem yR {σ ρ:Type}{step:σ->Option (σ ⊕ ρ)}(l:List α)(E:Nat->List α->σ)(fin:List α->ρ)
 (h1:∀ (k:Nat) (t:List α) (hk:k<l.length),t.length=k->step (E k t)=some (.inl (E (k+1) (t++[l[k]])))) (h2:∀ t:List α,t.length=l.length->step (E l.length t)=some (.inr (fin t))):lp step (E 0 [])=some (fin l):=by
 have main:∀ n k (t:List α),n+k=l.length->t.length=k->lp step (E k t)=some (fin (t++l.drop k)):=by
  intro n
  induction n with
  | zero =>
   intro k t hk ht
   have:k=l.length:=by omega
   subst this
   rw[aVO,aVx]
   exact aG (h2 t ht)
  | succ n ih =>
   intro k t hk ht
   have hlt:k<l.length:=by omega
   rw[aO (h1 k t hlt ht),ih (k+1) _ (by omega) (by simp[ht]),aUO,aVK,<- aUw hlt]
 have:=main l.length 0 [] (by omega) rfl
 simpa using this
end
/- Plain laws of loops: comparison of lists, search. No program. -/
section
variable {α:Type}
theorem aSd [DecidableEq α]{step:Int->Option (Int ⊕ (Unit ⊕ Bool))}(a b:List α)(hl:a.length=b.length)(h1:∀ (k:Nat) (ha:k<a.length) (hb:k<b.length),step (k:Int)=some (if a[k]=b[k]then .inl ((k:Int)+1)else .inr (.inr false)))
 (h2:step (a.length:Int)=some (.inr (.inl ()))):lp step 0=some (if a=b then .inl ()else .inr false):=by
 have main:∀ n k:Nat,n+k=a.length->lp step (k:Int)=some (if a.drop k=b.drop k then .inl ()else .inr false):=by
  intro n
  induction n with
  | zero =>
   intro k hk
   have:k=a.length:=by omega
   subst this
   rw[aG h2,aVO,aUW (by omega),aUs rfl]
  | succ n ih =>
   intro k hk
   have ha:k<a.length:=by omega
   have hb:k<b.length:=by omega
   have e:=h1 k ha hb
   rw[aUw ha,aUw hb]
   by_cases c:a[k]=b[k]
   · rw[aUs c]at e
     rw[aO e,show(k:Int)+1=((k+1:Nat):Int)by omega,ih (k+1) (by omega),c]
     simp only[List.cons.injEq,true_and]
   · rw[aUq c]at e
     rw[aG e,aUq (fun h=>by injection h with h1 _;exact c h1)]
 have:=main a.length 0 (by omega)
 simpa using this
end
/- Natural numbers as lists of limbs. No program. -/
def BB:Nat:=1000000000
theorem cX:BB=1000000000:=rfl
theorem uP:0<BB:=by rw[cX];omega
def val:List Int->Nat
 | []=>0
 | d::l=>d.toNat+BB*val l
def dgs (l:List Int):Prop:=∀ d∈l,0<=d/\d<1000000000
theorem aCw:dgs []:=by intro d h;cases h
theorem mX {d:Int}{l:List Int}:dgs (d::l)↔(0<=d/\d<1000000000)/\dgs l:=by
 unfold dgs
 constructor
 · intro h;exact⟨h d (by simp),fun x hx=>h x (by simp[hx])⟩
 · rintro⟨h1,h2⟩ x hx
   rcases aUr.1 hx with rfl | hx
   · exact h1
   · exact h2 x hx
theorem aM1 {a b:List Int}:dgs (a++b)↔dgs a/\dgs b:=by
 unfold dgs
 constructor
 · intro h;exact⟨fun x hx=>h x (by simp[hx]),fun x hx=>h x (by simp[hx])⟩
 · rintro⟨h1,h2⟩ x hx
   rcases aUz.1 hx with hx | hx
   · exact h1 x hx
   · exact h2 x hx
theorem lY {l:List Int}(h:dgs l){i:Nat}(hi:i<l.length):0<=l[i]/\l[i]<1000000000:=h _ (aUA hi)
theorem aKB {l:List Int}(h:dgs l)(k:Nat):dgs (l.take k):=fun d hd=>h d (List.mem_of_mem_take hd)
theorem aPB {l:List Int}(h:dgs l)(k:Nat):dgs (l.drop k):=fun d hd=>h d (List.mem_of_mem_drop hd)
theorem aD3 {l:List Int}(h:dgs l)(k:Nat)(x:Int)(hx:0<=x/\x<1000000000):dgs (l.set k x):=by
 intro d hd
 rcases List.mem_or_eq_of_mem_set hd with h' | rfl
 · exact h d h'
 · exact hx
theorem aFy (n:Nat):dgs (List.replicate n 0):=by
 intro d hd
 rw[List.mem_replicate]at hd
 rw[hd.2];omega
theorem aQj (n:Nat):val (List.replicate n 0)=0:=by
 induction n with
 | zero=>rfl
 | succ n ih=>rw[aV5,val,ih];rfl
theorem aID:∀ (a b:List Int),val (a++b)=val a+BB ^ a.length*val b
 | [],b=>by simp[val]
 | d::a,b=>by
  rw[aUB,val,val,aID a b,aUC,aVI,aVM,aU7 (BB ^ a.length) BB,aVr]
  omega
theorem aFF:∀ {l:List Int},dgs l->val l<BB ^ l.length
 | [],_=>by simp[val]
 | d::l,h=>by
  rw[mX]at h
  have ih:=aFF h.2
  rw[val,aUC,aVI,aU7 _ BB]
  have h1:d.toNat<BB:=by rw[cX];omega
  have h2:BB*(val l+1)<=BB*BB ^ l.length:=aUS _ ih
  rw[aVM]at h2
  omega
theorem oS {l:List Int}{k:Nat}(hk:k<l.length):val (l.take (k+1))=val (l.take k)+BB ^ k*(l[k]).toNat:=by
 rw[List.take_succ,aUG hk,aID]
 simp only[Option.toList_some,val,aWJ,aVh,aVp]
 rw[aWk (by omega)]
theorem hC {l:List Int}{k:Nat}(hk:k<l.length):val (l.drop k)=(l[k]).toNat+BB*val (l.drop (k+1)):=by
 rw[aUw hk,val]
def aA (n:Nat):List Int:=if h:n=0 then []else((n % BB:Nat):Int)::aA (n / BB)
 termination_by n
 decreasing_by exact aWM (by omega) (by rw[cX];omega)
theorem bA:aA 0=[]:=by unfold aA;simp
theorem gY {n:Nat}(h:n≠0):aA n=((n % BB:Nat):Int)::aA (n / BB):=by
 rw[aA,aWE h]
theorem dQ (n:Nat):dgs (aA n):=by
 induction n using Nat.strongRecOn with
 | _ n ih =>
  by_cases h:n=0
  · subst h;rw[bA];exact aCw
  · rw[gY h,mX]
    have:=aWh n uP
    rw[cX]at this
    exact⟨⟨by omega,by rw[cX];omega⟩,ih _ (aWM (by omega) (by rw[cX];omega))⟩
theorem cI (n:Nat):val (aA n)=n:=by
 induction n using Nat.strongRecOn with
 | _ n ih =>
  by_cases h:n=0
  · subst h;rw[bA];rfl
  · rw[gY h,val,ih _ (aWM (by omega) (by rw[cX];omega))]
    have:=aWz n BB
    simp only[aU1];omega
theorem aB2 {d:Int}{v:Nat}(hd:0<=d/\d<1000000000)(h:d≠0\/v≠0):aA (d.toNat+BB*v)=d::aA v:=by
 have hd':d.toNat<BB:=by rw[cX];omega
 have hne:d.toNat+BB*v≠0:=by
  rcases h with h | h
  · omega
  · have:0<BB*v:=aU6 uP (by omega)
    omega
 rw[gY hne,Nat.add_mul_mod_self_left,aV0 hd',Nat.add_mul_div_left _ _ uP,aWX hd',aUR]
 congr 1;omega
def rL:List Int->List Int
 | []=>[]
 | d::l=>match rL l with
  | []=>if d=0 then []else [d]
  | t::r=>d::t::r
theorem cY {n:Nat}(h:n≠0):aA n≠[]:=by rw[gY h];simp
theorem aG1 {n:Nat}:aA n=[]↔n=0:=by
 constructor
 · intro h
   by_cases c:n=0
   · exact c
   · exact absurd h (cY c)
 · rintro rfl;exact bA
theorem aFG:∀ {l:List Int},dgs l->rL l=aA (val l)
 | [],_=>by rw[val,bA];rfl
 | d::l,h=>by
  rw[mX]at h
  have ih:=aFG h.2
  unfold rL
  rw[ih,val]
  by_cases c:val l=0
  · rw[c,bA]
    simp only[aWJ,aVh]
    by_cases c2:d=0
    · rw[aUs c2,c2];simp[bA]
    · rw[aUq c2]
      have:=aB2 (v:=0) h.1 (.inl c2)
      rw[bA]at this
      simpa using this.symm
  · rw[aB2 h.1 (.inr c)]
    cases hx:aA (val l)with
    | nil=>exact absurd hx (cY c)
    | cons t r=>rfl
def nat (l:List Int):Prop:=dgs l/\l.getLast?≠some 0
theorem aDC:∀ {l:List Int},l.getLast?≠some 0->rL l=l
 | [],_=>rfl
 | [d],h=>by
  have:d≠0:=by intro e;apply h;simp[e]
  simp[rL,this]
 | d::e::l,h=>by
  have ih:rL (e::l)=e::l:=aDC (by simpa [List.getLast?_cons_cons]using h)
  unfold rL
  rw[ih]
theorem aAY {l:List Int}(h:nat l):l=aA (val l):=by
 rw[<- aFG h.1,aDC h.2]
theorem aB0:∀ (n:Nat),(aA n).getLast?≠some 0:=by
 intro n
 induction n using Nat.strongRecOn with
 | _ n ih =>
  by_cases h:n=0
  · subst h;rw[bA];simp
  · rw[gY h]
    by_cases c:n / BB=0
    · rw[c,bA]
      have:n % BB=n:=aV0 (by rw[Nat.div_eq_zero_iff]at c;rcases c with c | c;exact absurd c (by rw[cX];omega);exact c)
      rw[this];simp;omega
    · have:=ih _ (aWM (n:=n) (k:=BB) (by omega) (by rw[cX];omega))
      cases hx:aA (n / BB)with
      | nil=>exact absurd hx (cY c)
      | cons t r=>rw[hx]at this;rw[List.getLast?_cons_cons];exact this
theorem aOW (n:Nat):nat (aA n):=⟨dQ n,aB0 n⟩
theorem aOB (k:Nat):0<BB ^ k:=Nat.pow_pos uP
theorem fK {n k:Nat}(h:n<BB ^ k):(aA n).length<=k:=by
 induction k generalizing n with
 | zero => have : n = 0 := by simpa using h
           subst this;rw[bA];simp
 | succ k ih =>
  by_cases c:n=0
  · subst c;rw[bA];simp
  · rw[gY c,aUC]
    have:n / BB<BB ^ k:=by
     rw[aV7 uP]
     rw[aVI]at h;exact h
    have:=ih this;omega
theorem pA (n:Nat):n<BB ^ (aA n).length:=by
 have:=aFF (dQ n)
 rwa [cI]at this
theorem aNV {n:Nat}(h:n≠0):BB ^ ((aA n).length-1)<=n:=by
 rcases aVA n (BB ^ ((aA n).length-1))with c | c
 · have h1:=fK c
   have h2:(aA n).length≠0:=fun e=>cY h (aUD.1 e)
   omega
 · exact c
/- Relations on few nodes: degrees, and what eliminating a node of low degree does. No program in sight. -/
def prs (a:Int->Int->Bool)(V:List Int):List (Int×Int):=V.flatMap fun u=>(V.filter (a u)).map fun w=>(u,w)
def dgr (a:Int->Int->Bool)(V:List Int)(u:Int):Nat:=(V.filter (a u)).length
section
variable {a a':Int->Int->Bool}{V W:List Int}{u v w:Int}
theorem aCl {p:Int×Int}:p∈prs a V↔p.1∈V/\p.2∈V/\a p.1 p.2=true:=by
 obtain⟨x,y⟩:=p
 unfold prs
 rw[aVN]
 constructor
 · rintro⟨z,hz,h⟩
   obtain⟨w,hw,e⟩:=aUJ.1 h
   rw[aUy]at hw
   injection e with e1 e2
   subst e1;subst e2
   exact⟨hz,hw.1,hw.2⟩
 · rintro⟨h1,h2,h3⟩
   exact⟨x,h1,aUJ.2 ⟨y,aUy.2 ⟨h2,h3⟩,rfl⟩⟩
theorem aEp (hV:V.Nodup):(prs a V).Nodup:=by
 unfold prs List.Nodup
 rw[List.pairwise_flatMap]
 refine⟨fun u hu=>?_,?_⟩
 · rw[aVz]
   exact(hV.filter _).imp fun {x y} h e=>h (by injection e)
 · refine hV.imp ?_
   intro x y h p hp q hq e
   obtain⟨_,_,rfl⟩:=aUJ.1 hp
   obtain⟨_,_,rfl⟩:=aUJ.1 hq
   injection e with e1 e2
   exact h e1
theorem aMV {k:Nat}{f:Int->List (Int×Int)}:∀ {R:List Int},(∀ u∈R,k<=(f u).length)->k*R.length<=(R.flatMap f).length
 | [],_=>by simp
 | u::R,h=>by
  have h1:=h u (by simp)
  have h2:=aMV (R:=R) fun w hw=>h w (by simp[hw])
  rw[aVc,aUF,aUC,Nat.mul_succ]
  omega
theorem aR2 {k:Nat}{R:List Int}(h:∀ u∈R,k<=dgr a (0::R) u):dgr a (0::R) 0+k*R.length<=(prs a (0::R)).length:=by
 have h2:=aMV (f:=fun u=>((0::R).filter (a u)).map fun w=>(u,w)) (R:=R) (k:=k) fun u hu=>by rw[aUM];exact h u hu
 unfold prs
 rw[aVc,aUF,aUM]
 show((0::R).filter (a 0)).length+_<=_
 omega
structure MI (a:Int->Int->Bool)(R:List Int):Prop where
 nd:(0::R).Nodup
 sy:∀ u w,u∈0::R->w∈0::R->a u w=a w u
 ir:∀ u,u∈0::R->a u u=false
 gc:dgr a (0::R) 0<=1
 co:∀ S:Int->Prop,(∃ u∈R,S u)->¬S 0->∃ u w,S u/\¬S w/\u∈0::R/\w∈0::R/\a u w=true
 su:(prs a (0::R)).length<=2*R.length+4
theorem aPC (hV:V.Nodup)(hu:u∈V)(hw:w∈V)(hne:u≠w)(h1:a u u=false)(h2:a u w=false):dgr a V u+2<=V.length:=by
 have n:=(hV.filter (a u))
 have:((V.filter (a u))++[u,w]).Nodup:=by
  rw[aUQ]
  refine⟨n,by simpa using hne,fun x hx y hy e=>?_⟩
  subst e
  rw[aUy]at hx
  simp only[aUr,aVi,or_false]at hy
  rcases hy with rfl | rfl
  · rw[h1]at hx;cases hx.2
  · rw[h2]at hx;cases hx.2
 have:=this.length_le_of_subset (l₂:=V) (fun x hx=>by
  rcases aUz.1 hx with hx | hx
  · exact(aUy.1 hx).1
  · simp only[aUr,aVi,or_false]at hx
    rcases hx with rfl | rfl
    · exact hu
    · exact hw)
 rw[aUF]at this
 exact this
theorem aM2 (hV:V.Nodup)(hu:u∈V)(h1:a u u=false):dgr a V u+1<=V.length:=by
 have n:=(hV.filter (a u))
 have:(u::(V.filter (a u))).Nodup:=aUL.2 ⟨fun h=>by rw[aUy,h1]at h;exact absurd h.2 (by simp),n⟩
 have:=this.length_le_of_subset (l₂:=V) (fun x hx=>by
  rcases aUr.1 hx with rfl | hx
  · exact hu
  · exact(aUy.1 hx).1)
 exact this
theorem MI.gpos {R:List Int}(h:MI a R)(hR:R≠[]):1<=dgr a (0::R) 0:=by
 obtain⟨x,hx⟩:=List.exists_mem_of_ne_nil R hR
 have n0:(0:Int)∉R:=(aUL.1 h.nd).1
 obtain⟨u,w,su,sw,hu,hw,e⟩:=h.co (fun u=>u∈R) ⟨x,hx,hx⟩ n0
 have w0:w=0:=(aUr.1 hw).resolve_right sw
 subst w0
 rw[h.sy u 0 hu hw]at e
 exact List.length_pos_of_mem (aUy.2 ⟨hu,e⟩)
theorem MI.low {R:List Int}(h:MI a R)(hR:R≠[]):∃ u∈R,dgr a (0::R) u<=2/\(R.length<=2->dgr a (0::R) u<=1):=by
 have g1:=h.gpos hR
 have hnd:=h.nd
 by_cases c:R.length<=2
 · by_cases c1:∃ u∈R,a u 0=false
   · obtain⟨u,hu,e⟩:=c1
     have:=aPC hnd (aU3 _ hu) (by simp:(0:Int)∈0::R) (fun e=>by subst e;exact(aUL.1 hnd).1 hu) (h.ir u (by simp[hu])) e
     rw[aUC]at this
     exact⟨u,hu,by omega,fun _=>by omega⟩
   · have all:∀ u∈R,a 0 u=true:=fun u hu=>by
      cases e:a u 0 with
      | false=>exact absurd ⟨u,hu,e⟩ c1
      | true=>rw[h.sy 0 u (by simp) (by simp[hu])];exact e
     have:R.length<=dgr a (0::R) 0:=by
      have e:R.filter (a 0)=R:=List.filter_eq_self.2 all
      unfold dgr
      rw[aUY]
      split
      · rw[aUC,e];omega
      · rw[e];omega
     have:=h.gc
     obtain⟨u,hu⟩:=List.exists_mem_of_ne_nil R hR
     have:=aM2 hnd (aU3 _ hu) (h.ir u (by simp[hu]))
     rw[aUC]at this
     exact⟨u,hu,by omega,fun _=>by omega⟩
 · by_cases c1:∃ u∈R,dgr a (0::R) u<=2
   · obtain⟨u,hu,e⟩:=c1
     exact⟨u,hu,e,fun h=>absurd h c⟩
   · exfalso
     have all:∀ u∈R,3<=dgr a (0::R) u:=fun u hu=>by
      have:¬dgr a (0::R) u<=2:=fun h=>c1 ⟨u,hu,h⟩
      omega
     have h3:=aR2 all
     have h4:=h.su
     by_cases c3:R.length=3
     · obtain⟨u,hu,e⟩:∃ u∈R,a u 0=false:=by
        refine Classical.byContradiction fun c1=>?_
        have all:∀ u∈R,a 0 u=true:=fun u hu=>by
         cases e:a u 0 with
         | false=>exact absurd ⟨u,hu,e⟩ c1
         | true=>rw[h.sy 0 u (by simp) (by simp[hu])];exact e
        have:R.length<=dgr a (0::R) 0:=by
         have e:R.filter (a 0)=R:=List.filter_eq_self.2 all
         unfold dgr
         rw[aUY]
         split
         · rw[aUC,e];omega
         · rw[e];omega
        have:=h.gc
        omega
       have:=aPC hnd (aU3 _ hu) (by simp:(0:Int)∈0::R) (fun e=>by subst e;exact(aUL.1 hnd).1 hu) (h.ir u (by simp[hu])) e
       rw[aUC]at this
       have:=all u hu
       omega
     · omega
theorem aRX {l:List Int}(hl:l.length<=2){x y:Int}(hx:x∈l)(hy:y∈l)(hxy:x≠y):∀ z∈l,z=x\/z=y:=by
 match l,hl with
 | [],_=>cases hx
 | [p],_ =>
  simp only[aUr,aVi,or_false]at hx hy
  exact absurd (hx.trans hy.symm) hxy
 | [p,q],_ =>
  simp only[aUr,aVi,or_false]at hx hy ⊢
  intro z hz
  rcases hx with rfl | rfl <;> rcases hy with rfl | rfl <;> rcases hz with rfl | rfl <;> simp_all
 | p::q::r::s,h=>simp only[aUC]at h;omega
theorem MI.step {r:List Int}(h:MI a (v::r))(hd:dgr a (0::v::r) v<=2)
 (he:∀ u w,u∈0::r->w∈0::r->(a' u w=true↔a u w=true\/(u≠w/\a v u=true/\a v w=true)))
 (co:∀ S:Int->Prop,(∃ u∈r,S u)->¬S 0->∃ u w,S u/\¬S w/\u∈0::r/\w∈0::r/\a' u w=true):MI a' r:=by
 have hnd:=h.nd
 have n0:=(aUL.1 hnd).1
 have nvr:=(aUL.1 hnd).2
 have v0:v≠0:=fun e=>n0 (by simp[e])
 have vr:v∉r:=(aUL.1 nvr).1
 have nd':(0::r).Nodup:=aUL.2 ⟨fun h=>n0 (by simp[h]),(aUL.1 nvr).2⟩
 have up:∀ {u},u∈0::r->u∈0::v::r:=fun {u} hu=>by
  rcases aUr.1 hu with h | h <;> simp[h]
 have nv:∀ {u},u∈0::r->u≠v:=fun {u} hu e=>by
  rcases aUr.1 hu with h | h
  · exact v0 (e.symm.trans h)
  · exact vr (e▸h)
 have vm:v∈0::v::r:=by simp
 have inN:∀ {u},u∈0::r->a v u=true->u∈(0::v::r).filter (a v):=fun {u} hu e=>aUy.2 ⟨up hu,e⟩
 refine⟨nd',fun u w hu hw=>?_,fun u hu=>?_,?_,co,?_⟩
 · rw[Bool.eq_iff_iff,he u w hu hw,he w u hw hu,h.sy u w (up hu) (up hw)]
   constructor
   · rintro(h1 | ⟨h1,h2,h3⟩)
     · exact .inl h1
     · exact .inr ⟨fun e=>h1 e.symm,h3,h2⟩
   · rintro(h1 | ⟨h1,h2,h3⟩)
     · exact .inl h1
     · exact .inr ⟨fun e=>h1 e.symm,h3,h2⟩
 · cases c:a' u u with
   | false=>rfl
   | true =>
    rcases(he u u hu hu).1 c with h1 | h1
    · rw[h.ir u (up hu)]at h1;cases h1
    · exact absurd rfl h1.1
 · have n1:((0::r).filter (a' 0)).Nodup:=nd'.filter _
   by_cases c:a v 0=true
   · have c':a 0 v=true:=by rw[h.sy 0 v (by simp) vm];exact c
     have sub:(v::(0::r).filter (a' 0)).length<=2:=by
      have n2:((0:Int)::((0::r).filter (a' 0))).Nodup:=aUL.2 ⟨fun hm=>by
       have e:=(aUy.1 hm).2
       rcases(he 0 0 (by simp) (by simp)).1 e with h1 | h1
       · rw[h.ir 0 (by simp)]at h1;cases h1
       · exact absurd rfl h1.1,n1⟩
      have:=n2.length_le_of_subset (l₂:=(0::v::r).filter (a v)) (fun x hx=>by
       rcases aUr.1 hx with rfl | hx
       · exact inN (by simp) c
       · obtain⟨h1,h2⟩:=aUy.1 hx
         rcases(he 0 x (by simp) h1).1 h2 with h3 | h3
         · exfalso
           have:([v,x]:List Int).Nodup:=by simpa using fun e:v=x=>nv h1 e.symm
           have:=this.length_le_of_subset (l₂:=(0::v::r).filter (a 0)) (fun z hz=>by
            simp only[aUr,aVi,or_false]at hz
            rcases hz with rfl | rfl
            · exact aUy.2 ⟨vm,c'⟩
            · exact aUy.2 ⟨up h1,h3⟩)
           have g:=h.gc
           unfold dgr at g
           simp only[aUC,aVu]at this
           omega
         · exact inN h1 h3.2.2)
      unfold dgr at hd
      simp only[aUC]at this ⊢
      omega
     unfold dgr
     simp only[aUC]at sub
     omega
   · have:=n1.length_le_of_subset (l₂:=(0::v::r).filter (a 0)) (fun x hx=>by
      obtain⟨h1,h2⟩:=aUy.1 hx
      rcases(he 0 x (by simp) h1).1 h2 with h3 | h3
      · exact aUy.2 ⟨up h1,h3⟩
      · exact absurd h3.2.1 c)
     exact aUE this h.gc
 · have nP:=aEp (a:=a) hnd
   have nP':=aEp (a:=a') nd'
   have nF:((prs a (0::v::r)).filter fun p=>decide (p.1≠v/\p.2≠v)).Nodup:=nP.filter _
   have inF:∀ p:Int×Int,p.1∈0::r->p.2∈0::r->a p.1 p.2=true->p∈(prs a (0::v::r)).filter fun p=>decide (p.1≠v/\p.2≠v):=fun p h1 h2 h3 =>
    aUy.2 ⟨aCl.2 ⟨up h1,up h2,h3⟩,aUu ⟨nv h1,nv h2⟩⟩
   have su:=h.su
   rw[aUC]at su
   obtain⟨x0,w0,e0,ne0,_,hw0,c0⟩:=h.co (fun u=>u=v) ⟨v,by simp,rfl⟩ (fun e=>v0 e.symm)
   rw[e0]at c0
   have w0r:w0∈0::r:=by
    simp only[aUr]at hw0 ⊢
    rcases hw0 with h | h | h
    · exact .inl h
    · exact absurd h ne0
    · exact .inr h
   have out:∀ {L:List (Int×Int)},L.Nodup->(∀ p∈L,p∈prs a (0::v::r)/\(p.1=v\/p.2=v))->((prs a (0::v::r)).filter fun p=>decide (p.1≠v/\p.2≠v)).length+L.length<=(prs a (0::v::r)).length:=by
    intro L nL hL
    have:(((prs a (0::v::r)).filter fun p=>decide (p.1≠v/\p.2≠v))++L).Nodup:=by
     rw[aUQ]
     refine⟨nF,nL,fun p hp q hq e=>?_⟩
     subst e
     have:=aU4 (aUy.1 hp).2
     rcases(hL p hq).2 with h | h
     · exact this.1 h
     · exact this.2 h
    have:=this.length_le_of_subset (l₂:=prs a (0::v::r)) (fun p hp=>by
     rcases aUz.1 hp with hp | hp
     · exact(aUy.1 hp).1
     · exact(hL p hp).1)
    rw[aUF]at this
    exact this
   have av:∀ w,w∈0::r->a v w=true->((v,w)∈prs a (0::v::r)/\(w,v)∈prs a (0::v::r)):=fun w hw e =>
    ⟨aCl.2 ⟨vm,up hw,e⟩,aCl.2 ⟨up hw,vm,by show a w v=true;rw[h.sy w v (up hw) vm];exact e⟩⟩
   by_cases one:∃ w1∈0::r,w1≠w0/\a v w1=true
   · obtain⟨w1,hw1,n1,c1⟩:=one
     have all:=aRX hd (inN w0r c0) (inN hw1 c1) (fun e=>n1 e.symm)
     have s1:=nP'.length_le_of_subset (l₂:=((prs a (0::v::r)).filter fun p=>decide (p.1≠v/\p.2≠v))++[(w0,w1),(w1,w0)]) (fun p hp=>by
      obtain⟨h1,h2,h3⟩:=aCl.1 hp
      rcases(he _ _ h1 h2).1 h3 with h4 | ⟨h4,h5,h6⟩
      · exact aVe _ (inF p h1 h2 h4)
      · refine aU8 _ ?_
        have q1:=all _ (inN h1 h5)
        have q2:=all _ (inN h2 h6)
        obtain⟨p1,p2⟩:=p
        simp only at h4 q1 q2
        simp only[aUr,aVi,or_false,Prod.mk.injEq]
        rcases q1 with rfl | rfl <;> rcases q2 with rfl | rfl
        · exact absurd rfl h4
        · exact .inl ⟨rfl,rfl⟩
        · exact .inr ⟨rfl,rfl⟩
        · exact absurd rfl h4)
     have n0v:=nv w0r
     have n1v:=nv hw1
     have s2:=out (L:=[(v,w0),(w0,v),(v,w1),(w1,v)]) (by
      simp only[aUL,aUr,aVi,or_false,not_false_eq_true,and_true,List.nodup_nil,Prod.mk.injEq]
      omega) (fun p hp=>by
      obtain⟨a1,a2⟩:=av w0 w0r c0
      obtain⟨a3,a4⟩:=av w1 hw1 c1
      simp only[aUr,aVi,or_false]at hp
      rcases hp with rfl | rfl | rfl | rfl
      · exact⟨a1,.inl rfl⟩
      · exact⟨a2,.inr rfl⟩
      · exact⟨a3,.inl rfl⟩
      · exact⟨a4,.inr rfl⟩)
     rw[aUF]at s1
     simp only[aUC,aVu]at s1 s2
     omega
   · have all:∀ w∈0::r,a v w=true->w=w0:=fun w hw e=>Classical.byContradiction fun n=>one ⟨w,hw,n,e⟩
     have s1:=nP'.length_le_of_subset (l₂:=(prs a (0::v::r)).filter fun p=>decide (p.1≠v/\p.2≠v)) (fun p hp=>by
      obtain⟨h1,h2,h3⟩:=aCl.1 hp
      rcases(he _ _ h1 h2).1 h3 with h4 | ⟨h4,h5,h6⟩
      · exact inF p h1 h2 h4
      · exact absurd ((all _ h1 h5).trans (all _ h2 h6).symm) h4)
     have n0v:=nv w0r
     have s2:=out (L:=[(v,w0),(w0,v)]) (by
      simp only[aUL,aUr,aVi,or_false,not_false_eq_true,and_true,List.nodup_nil,Prod.mk.injEq]
      omega) (fun p hp=>by
      obtain⟨a1,a2⟩:=av w0 w0r c0
      simp only[aUr,aVi,or_false]at hp
      rcases hp with rfl | rfl
      · exact⟨a1,.inl rfl⟩
      · exact⟨a2,.inr rfl⟩)
     simp only[aUC,aVu]at s2
     omega
end
/- More about limbs. No program. -/
theorem aN6 {l:List Int}(h:nat l)(e:val l=0):l=[]:=by rw[aAY h,e,bA]
theorem aOX {l:List Int}(h:nat l)(k:Nat):nat (l.drop k):=by
 refine⟨aPB h.1 k,fun e=>h.2 ?_⟩
 rw[List.getLast?_drop]at e
 split at e
 · cases e
 · exact e
theorem aEN {l:List Int}(h:nat l){k:Nat}(hk:k<l.length):val (l.drop k)≠0:=by
 intro e
 have:=congrArg List.length (aN6 (aOX h k) e)
 simp at this;omega
theorem eW {l:List Int}{k:Nat}(hk:l.length<=k):val (l.drop k)=0:=by rw[aUW hk];rfl
theorem aKz {x v:Nat}(h:x+BB*v≠0):aA (x+BB*v)=((x % BB:Nat):Int)::aA (x / BB+v):=by
 have hx:=aWz x BB
 have hm:=aWh x uP
 have e:x+BB*v=((x % BB:Nat):Int).toNat+BB*(x / BB+v):=by
  rw[aU1,aVM];omega
 rw[e]
 refine aB2 ⟨by omega,by rw[cX]at hm ⊢;omega⟩ ?_
 by_cases c:x / BB+v=0
 · left
   rw[c,aWJ,aVh,aU1]at e
   intro h2;apply h;rw[e];omega
 · exact .inr c
def sC (x y:Nat):Int:=if x<y then -1 else if y<x then 1 else 0
theorem aLw {m n:Nat}(h:(aA m).length<(aA n).length):m<n:=by
 have h1:=pA m
 have hn:n≠0:=by rintro rfl;rw[bA]at h;simp at h
 have h2:=aNV hn
 have h3:BB ^ (aA m).length<=BB ^ ((aA n).length-1):=aU9 uP (by omega)
 omega
theorem aIC:∀ {l:List Int} {k:Nat} {x:Int} (hk:k<l.length),val (l.set k x)+BB ^ k*(l[k]).toNat=val l+BB ^ k*x.toNat
 | d::l,0,x,_=>by simp[val];omega
 | d::l,k+1,x,hk=>by
  have ih:=aIC (l:=l) (k:=k) (x:=x) (by simpa using hk)
  have ih2:=congrArg (BB*·) ih
  simp only[aVM,<- aVr]at ih2
  simp only[List.set_cons_succ,val,aWw,aVI,aU7 (BB ^ k) BB]
  omega
theorem aB1 {n i:Nat}(hi:i<(aA n).length):(aA n)[i]=((n / BB ^ i % BB:Nat):Int):=by
 induction i generalizing n with
 | zero =>
  have hn:n≠0:=by rintro rfl;rw[bA]at hi;simp at hi
  have e:=gY hn
  simp only[e,aVB,Nat.pow_zero,Nat.div_one]
 | succ i ih =>
  have hn:n≠0:=by rintro rfl;rw[bA]at hi;simp at hi
  have e:=gY hn
  have hi':i<(aA (n / BB)).length:=by rw[e]at hi;simpa using hi
  have:=ih hi'
  simp only[e,aWw,this,Nat.div_div_eq_div_mul,aVI,aU7 (BB ^ i) BB]
theorem rG {d:Nat}(h:d<BB)(h0:d≠0):aA d=[(d:Int)]:=by
 rw[gY h0,aV0 h,aWX h,bA]
theorem eU {a b k:Nat}(h:b<=k)(hk:(aA k).length<=a):(aA b).length<=a:=by
 rcases aVA (aA k).length (aA b).length with c | c
 · have:=aLw c;omega
 · omega
theorem dW (a b:Nat):(aA (a*b)).length<=(aA a).length+(aA b).length:=by
 refine fK ?_
 rw[Nat.pow_add]
 exact Nat.mul_lt_mul'' (pA a) (pA b)
theorem aG3 (a b:Nat):(aA (a+b)).length<=max (aA a).length (aA b).length+1:=by
 refine fK ?_
 have h1:=pA a
 have h2:=pA b
 have h3:BB ^ (aA a).length<=BB ^ (max (aA a).length (aA b).length):=aU9 uP (by omega)
 have h4:BB ^ (aA b).length<=BB ^ (max (aA a).length (aA b).length):=aU9 uP (by omega)
 have h5:2*BB ^ (max (aA a).length (aA b).length)<=BB ^ (max (aA a).length (aA b).length)*BB:=by rw[aU7];exact aUS _ (by rw[cX];omega)
 rw[aVI];omega
end Go.Ev
