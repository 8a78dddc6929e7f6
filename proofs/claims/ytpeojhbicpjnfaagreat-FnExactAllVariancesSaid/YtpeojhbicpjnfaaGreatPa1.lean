/- Parts PL, PN, PO, PD, PE. -/
import Derived.Test.YtpeojhbicpjnfaaGreatE3
set_option linter.all false
/- Plain laws: loops over lists. No program. -/
namespace Go.Ev
theorem wi {n:Int} (h:-9223372036854775808≤n∧n≤9223372036854775807):IntKind.i64.wrap n=n:=by
  rw [IntKind.wrap_i64];omega
theorem yQ {α:Type} (l:List α) (k:Nat):idx l (k:Int)=l[k]?:=by
  unfold idx;rw [if_pos (by omega)];simp
theorem aT {α:Type} {l:List α} {k:Nat} (h:k < l.length):idx l (k:Int)=some l[k]:=by rw [yQ];simp [h]
theorem hZ {α:Type} (l:List α) (k:Nat) (y:α):dD l (k:Int) y=l.set k y:=by unfold dD;simp
theorem bM {p:Prop} {_:Decidable p} (h:p):chk p=some ():=by unfold chk;rw [if_pos h]
theorem aGh {α:Type} (l:List α) (a b:Int) (h:0≤a∧a≤b∧b≤l.length):sub l a b=some ((l.drop a.toNat).take (b - a).toNat):=by unfold sub;rw [if_pos h]
section
variable {α σ τ ρ:Type}
end
end Go.Ev
namespace Go.Ev
section
variable {σ ρ:Type}
theorem xS {step:Int→Option (Int ⊕ ρ)} (n:Nat) (r:ρ) (h1:∀ k:Nat,k < n→step (k:Int)=some (.inl ((k+1:Nat):Int))) (h2:step (n:Int)=some (.inr r)):lp step 0=some r:=by
  have main:∀ m k:Nat,m+k=n→lp step (k:Int)=some r:=by
    intro m
    induction m with
    | zero => intro k hk; have : k = n := by omega
              subst this;exact aY h2
    | succ m ih=>intro k hk;rw [bI (h1 k (by omega))];exact ih (k+1) (by omega)
  exact main n 0 (by omega)
theorem aBV {α:Type} {step:σ→Option (σ ⊕ ρ)} (l z:List α) (E:Nat→List α→σ) (fin:List α→ρ) (hz:z.length=l.length)
    (h1:∀ (k:Nat) (m:List α) (hk:k < l.length),m.length=l.length→step (E k m)=some (.inl (E (k+1) (m.set k l[k])))) (h2:∀ m:List α,m.length=l.length→step (E l.length m)=some (.inr (fin m))):lp step (E 0 z)=some (fin l):=by
  have main:∀ n k (m:List α),n+k=l.length→m.length=l.length→m.take k=l.take k→lp step (E k m)=some (fin l):=by
    intro n
    induction n with
    | zero =>
      intro k m hk hm ht
      have:k=l.length:=by omega
      subst this
      rw [List.take_length,← hm,List.take_length] at ht
      rw [aY (h2 m hm),ht]
    | succ n ih =>
      intro k m hk hm ht
      have hlt:k < l.length:=by omega
      rw [bI (h1 k m hlt hm)]
      refine ih (k+1) _ (by omega) (by simpa using hm) ?_
      rw [List.take_add_one,List.take_add_one,List.take_set_of_le (Nat.le_refl _),ht]
      congr 1
      rw [List.getElem?_set_self (by omega),List.getElem?_eq_getElem hlt]
  exact main l.length 0 z (by omega) hz (by simp)
end
end Go.Ev
namespace Go.Ev
section
variable {σ ρ:Type}
end
end Go.Ev
namespace Go.Ev
theorem aE7 {α σ τ ρ:Type} {step:σ→Option (σ ⊕ ρ)} (l:List α) (E:Nat→τ→σ) (f:τ→α→τ) (fin:τ→ρ) (I:Nat→τ→Prop)
    (h1:∀ k t (hk:k < l.length),I k t→step (E k t)=some (.inl (E (k+1) (f t l[k])))∧I (k+1) (f t l[k])) (h2:∀ t,I l.length t→step (E l.length t)=some (.inr (fin t))) (t:τ) (h0:I 0 t) :
    lp step (E 0 t)=some (fin (l.foldl f t))∧I l.length (l.foldl f t):=by
  have main:∀ n k t,n+k=l.length→I k t→lp step (E k t)=some (fin ((l.drop k).foldl f t))∧I l.length ((l.drop k).foldl f t):=by
    intro n
    induction n with
    | zero =>
      intro k t hk hi
      have:k=l.length:=by omega
      subst this
      rw [List.drop_length,List.foldl_nil]
      exact ⟨aY (h2 t hi),hi⟩
    | succ n ih =>
      intro k t hk hi
      have hlt:k < l.length:=by omega
      obtain ⟨e,hi'⟩:=h1 k t hlt hi
      rw [List.drop_eq_getElem_cons hlt,List.foldl_cons,bI e]
      exact ih (k+1) _ (by omega) hi'
  have:=main l.length 0 t (by omega) h0
  simpa using this
end Go.Ev
/- Plain laws of loops over nested values: sizes, copies, comparisons, marks. No program. -/
namespace Go.Ev
theorem xV {α:Type} {l:List α} {i:Nat} {y:α} (h:i < l.length):idx (l.set i y) (i:Int)=some y:=by
  rw [yQ];simp [h]
theorem aAg {α:Type} {l:List α} {i:Nat} {y:α} (h:l[i]?=some y):idx l (i:Int)=some y:=by rw [yQ];exact h
section
variable {α:Type}
def szL (w:α→Nat) (l:List α):Nat:=(l.map (fun y=>w y+1)).sum
theorem aBS (w:α→Nat):szL w []=0:=rfl
theorem sG (w:α→Nat) (y:α) (l:List α):szL w (y::l)=w y+1+szL w l:=by simp [szL]
theorem aCe (w:α→Nat):∀ l:List α,szL w l=l.length+(l.map w).sum
  | []=>rfl
  | y::l=>by rw [sG,aCe w l,List.map_cons,List.sum_cons,List.length_cons];omega
theorem gR (w:α→Nat) (l:List α):l.length≤szL w l:=by rw [aCe];omega
theorem sF:∀ l:List α,szL (fun _=>0) l=l.length
  | []=>rfl
  | y::l=>by rw [sG,sF l,List.length_cons];omega
theorem mW {w:α→Nat}:∀ {l:List α} {y:α},y ∈ l→w y+1≤szL w l
  | z::l,y,h=>by
    rw [sG]
    rcases List.mem_cons.1 h with rfl | h
    · omega
    · have:=mW (w:=w) h;omega
theorem aFR {step:(Int × Int)→Option ((Int × Int) ⊕ (Int ⊕ Int))} (l:List α) (w:α→Nat) (f:α→Int→Option Int) (hf:∀ y ∈ l,∀ t,0≤t→t≤1048576→f y t=some (if (w y:Int)≤t then t - w y else -1))
    (h1:∀ (k:Nat) t (hk:k < l.length),step (t,(k:Int))=(f l[k] t).bind fun r=>if r < 0 then some (.inr (.inr (-1))) else some (.inl (r,(k:Int)+1)))
    (h2:∀ t,step (t,(l.length:Int))=some (.inr (.inl t))) (t:Int) (h0:0≤t) (ht:t≤1048576):lp step (t,0)=some (if ((l.map w).sum:Int)≤t then .inl (t - ((l.map w).sum:Nat)) else .inr (-1)):=by
  have main:∀ n k t,n+k=l.length→0≤t→t≤1048576→lp step (t,(k:Int))=some (if (((l.drop k).map w).sum:Int)≤t then .inl (t - (((l.drop k).map w).sum:Nat)) else .inr (-1)):=by
    intro n
    induction n with
    | zero =>
      intro k t hk h0 ht
      have:k=l.length:=by omega
      subst this
      rw [aY (h2 t),List.drop_length]
      simp [h0]
    | succ n ih =>
      intro k t hk h0 ht
      have hlt:k < l.length:=by omega
      have e:=h1 k t hlt
      rw [hf _ (List.getElem_mem hlt) t h0 ht] at e
      simp only [Option.bind_some] at e
      rw [List.drop_eq_getElem_cons hlt,List.map_cons,List.sum_cons]
      by_cases c:(w l[k]:Int)≤t
      · rw [if_pos c,if_neg (by omega)] at e
        rw [bI e,show (k:Int)+1=((k+1:Nat):Int) by omega,ih (k+1) _ (by omega) (by omega) (by omega)]
        by_cases d:(((l.drop (k+1)).map w).sum:Int)≤t - w l[k]
        · rw [if_pos d,if_pos (by omega)];congr 2;omega
        · rw [if_neg d,if_neg (by omega)]
      · rw [if_neg c,if_pos (by omega)] at e
        rw [aY e,if_neg (by omega)]
  have:=main l.length 0 t (by omega) h0 ht
  simpa using this
theorem aE8 {σ ρ:Type} {step:σ→Option (σ ⊕ ρ)} (l:List α) (E:Nat→List α→σ) (fin:List α→ρ)
    (h1:∀ (k:Nat) (t:List α) (hk:k < l.length),t.length=k→step (E k t)=some (.inl (E (k+1) (t++[l[k]])))) (h2:∀ t:List α,t.length=l.length→step (E l.length t)=some (.inr (fin t))):lp step (E 0 [])=some (fin l):=by
  have main:∀ n k (t:List α),n+k=l.length→t.length=k→lp step (E k t)=some (fin (t++l.drop k)):=by
    intro n
    induction n with
    | zero =>
      intro k t hk ht
      have:k=l.length:=by omega
      subst this
      rw [List.drop_length,List.append_nil]
      exact aY (h2 t ht)
    | succ n ih =>
      intro k t hk ht
      have hlt:k < l.length:=by omega
      rw [bI (h1 k t hlt ht),ih (k+1) _ (by omega) (by simp [ht]),List.append_assoc,List.singleton_append,← List.drop_eq_getElem_cons hlt]
  have:=main l.length 0 [] (by omega) rfl
  simpa using this
theorem aHD {ms:(Int × Int × List α)→Option ((Int × Int × List α) ⊕ (Int × List α))} {hs:List α→(Int × Int)→Option ((Int × Int) ⊕ (Int ⊕ Int))} (w:α→Nat) (l:List α)
    (el:l.length≤72057594037927936→∀ y k,0≤k→k+100*((w y:Int)+1)≤4611686018427387904→∃ k' y',k≤k'∧k'≤k+100*((w y:Int)+1)∧(∀ (m:List α) (i:Nat),m[i]?=some y→m.length=l.length→ms (k,(i:Int),m)=some (.inl (k',(i:Int)+1,m.set i y'))) ∧
      ∀ (m:List α) (i:Nat),m[i]?=some y'→m.length=l.length→hs m (k,(i:Int))=some (.inl (k',(i:Int)+1)))
    (me:∀ k (m:List α),m.length=l.length→ms (k,(l.length:Int),m)=some (.inr (k,m))) (he:∀ k (m:List α),m.length=l.length→hs m (k,(l.length:Int))=some (.inr (.inl k))) (k:Int) (h0:0≤k) (h1:k+100*(szL w l:Int)≤4611686018427387904) :
    ∃ k' l',lp ms (k,0,l)=some (k',l')∧l'.length=l.length∧lp (hs l') (k,0)=some (.inl k')∧k≤k'∧k'≤k+100*(szL w l:Int):=by
  have hl:l.length≤72057594037927936:=by have:=gR w l;omega
  have main:∀ (r:List α) (pre:List α) (k:Int),pre.length+r.length=l.length→0≤k→k+100*(szL w r:Int)≤4611686018427387904→∃ k' r',r'.length=r.length∧(lp ms (k,(pre.length:Int),pre++r)=some (k',pre++r')) ∧
      (∀ pre':List α,pre'.length=pre.length→lp (hs (pre'++r')) (k,(pre.length:Int))=some (.inl k'))∧k≤k'∧k'≤k+100*(szL w r:Int):=by
    intro r
    induction r with
    | nil =>
      intro pre k hp h0 h1
      have hp:pre.length=l.length:=by simpa using hp
      refine ⟨k,[],rfl,?_,fun pre' hp'=>?_,Int.le_refl _,by simp [aBS]⟩
      · simp only [List.append_nil];rw [hp];exact aY (me k pre hp)
      · simp only [List.append_nil];rw [hp];exact aY (he k pre' (hp'.trans hp))
    | cons y r ih =>
      intro pre k hp h0 h1
      rw [sG] at h1 ⊢
      simp only [List.length_cons] at hp
      obtain ⟨k1,y',b1,b2,e1,e2⟩:=el hl y k h0 (by omega)
      obtain ⟨k2,r',c1,c2,c3,c4,c5⟩:=ih (pre++[y']) k1 (by simp;omega) (by omega) (by omega)
      simp only [List.length_append,List.length_cons,List.length_nil,Nat.zero_add] at c2 c3
      refine ⟨k2,y'::r',by simp [c1],?_,fun pre' hp'=>?_,by omega,by omega⟩
      · rw [bI (e1 (pre++y::r) pre.length (by simp) (by simp;omega)),show (pre.length:Int)+1=((pre.length+1:Nat):Int) by omega]
        rw [show (pre++y::r).set pre.length y'=pre++[y']++r by rw [List.set_append_right _ _ (Nat.le_refl _)];simp,c2]
        simp
      · rw [bI (e2 (pre'++y'::r') pre.length (by rw [← hp'];simp) (by simp;omega)),show (pre.length:Int)+1=((pre.length+1:Nat):Int) by omega]
        have:=c3 (pre'++[y']) (by simp [hp'])
        simpa using this
  obtain ⟨k',r',a1,a2,a3,a4,a5⟩:=main l [] k (by simp) h0 h1
  exact ⟨k',r',by simpa using a2,a1,by simpa using a3 [] rfl,a4,a5⟩
theorem aFS {ms:(Int × Int × List α)→Option ((Int × Int × List α) ⊕ (Int × List α))} (w:α→Nat) (l:List α)
    (el:l.length≤72057594037927936→∀ y k,0≤k→k+100*((w y:Int)+1)≤4611686018427387904→∃ k' y',k≤k'∧k'≤k+100*((w y:Int)+1)∧∀ (m:List α) (i:Nat),m[i]?=some y→m.length=l.length→ms (k,(i:Int),m)=some (.inl (k',(i:Int)+1,m.set i y')))
    (me:∀ k (m:List α),m.length=l.length→ms (k,(l.length:Int),m)=some (.inr (k,m))) (k:Int) (h0:0≤k) (h1:k+100*(szL w l:Int)≤4611686018427387904) :
    ∃ k' l',lp ms (k,0,l)=some (k',l')∧l'.length=l.length∧k≤k'∧k'≤k+100*(szL w l:Int):=by
  have hl:l.length≤72057594037927936:=by have:=gR w l;omega
  have main:∀ (r:List α) (pre:List α) (k:Int),pre.length+r.length=l.length→0≤k→k+100*(szL w r:Int)≤4611686018427387904→∃ k' r',r'.length=r.length∧(lp ms (k,(pre.length:Int),pre++r)=some (k',pre++r'))∧k≤k'∧k'≤k+100*(szL w r:Int):=by
    intro r
    induction r with
    | nil =>
      intro pre k hp h0 h1
      have hp:pre.length=l.length:=by simpa using hp
      refine ⟨k,[],rfl,?_,Int.le_refl _,by simp [aBS]⟩
      simp only [List.append_nil];rw [hp];exact aY (me k pre hp)
    | cons y r ih =>
      intro pre k hp h0 h1
      rw [sG] at h1 ⊢
      simp only [List.length_cons] at hp
      obtain ⟨k1,y',b1,b2,e1⟩:=el hl y k h0 (by omega)
      obtain ⟨k2,r',c1,c2,c4,c5⟩:=ih (pre++[y']) k1 (by simp;omega) (by omega) (by omega)
      simp only [List.length_append,List.length_cons,List.length_nil,Nat.zero_add] at c2
      refine ⟨k2,y'::r',by simp [c1],?_,by omega,by omega⟩
      rw [bI (e1 (pre++y::r) pre.length (by simp) (by simp;omega)),show (pre.length:Int)+1=((pre.length+1:Nat):Int) by omega]
      rw [show (pre++y::r).set pre.length y'=pre++[y']++r by rw [List.set_append_right _ _ (Nat.le_refl _)];simp,c2]
      simp
  obtain ⟨k',r',a1,a2,a4,a5⟩:=main l [] k (by simp) h0 h1
  exact ⟨k',r',by simpa using a2,a1,a4,a5⟩
end
end Go.Ev
/- Plain laws of loops: comparison of lists, search. No program. -/
namespace Go.Ev
section
variable {α:Type}
end
end Go.Ev
/- Natural numbers as lists of limbs. No program. -/
namespace Go.Ev
def BB:Nat:=1000000000
theorem dI:BB=1000000000:=rfl
theorem rK:0 < BB:=by rw [dI];omega
def val:List Int→Nat
  | []=>0
  | d::l=>d.toNat+BB*val l
def dgs (l:List Int):Prop:=∀ d ∈ l,0≤d∧d < 1000000000
theorem yR:dgs []:=by intro d h;cases h
theorem lK {d:Int} {l:List Int}:dgs (d::l)↔(0≤d∧d < 1000000000)∧dgs l:=by
  unfold dgs
  constructor
  · intro h;exact ⟨h d (by simp),fun x hx=>h x (by simp [hx])⟩
  · rintro ⟨h1,h2⟩ x hx
    rcases List.mem_cons.1 hx with rfl | hx
    · exact h1
    · exact h2 x hx
theorem aGu {a b:List Int}:dgs (a++b)↔dgs a∧dgs b:=by
  unfold dgs
  constructor
  · intro h;exact ⟨fun x hx=>h x (by simp [hx]),fun x hx=>h x (by simp [hx])⟩
  · rintro ⟨h1,h2⟩ x hx
    rcases List.mem_append.1 hx with hx | hx
    · exact h1 x hx
    · exact h2 x hx
theorem kP {l:List Int} (h:dgs l) {i:Nat} (hi:i < l.length):0≤l[i]∧l[i] < 1000000000:=h _ (List.getElem_mem hi)
theorem aFo {l:List Int} (h:dgs l) (k:Nat):dgs (l.take k):=fun d hd=>h d (List.mem_of_mem_take hd)
theorem aHR {l:List Int} (h:dgs l) (k:Nat):dgs (l.drop k):=fun d hd=>h d (List.mem_of_mem_drop hd)
theorem aAT {l:List Int} (h:dgs l) (k:Nat) (x:Int) (hx:0≤x∧x < 1000000000):dgs (l.set k x):=by
  intro d hd
  rcases List.mem_or_eq_of_mem_set hd with h' | rfl
  · exact h d h'
  · exact hx
theorem aBW (n:Nat):dgs (List.replicate n 0):=by
  intro d hd
  rw [List.mem_replicate] at hd
  rw [hd.2];omega
theorem aIk (n:Nat):val (List.replicate n 0)=0:=by
  induction n with
  | zero=>rfl
  | succ n ih=>rw [List.replicate_succ,val,ih];rfl
theorem aDV:∀ (a b:List Int),val (a++b)=val a+BB ^ a.length*val b
  | [],b=>by simp [val]
  | d::a,b=>by
    rw [List.cons_append,val,val,aDV a b,List.length_cons,Nat.pow_succ,Nat.mul_add,Nat.mul_comm (BB ^ a.length) BB,Nat.mul_assoc]
    omega
theorem aB7:∀ {l:List Int},dgs l→val l < BB ^ l.length
  | [],_=>by simp [val]
  | d::l,h=>by
    rw [lK] at h
    have ih:=aB7 h.2
    rw [val,List.length_cons,Nat.pow_succ,Nat.mul_comm _ BB]
    have h1:d.toNat < BB:=by rw [dI];omega
    have h2:BB*(val l+1)≤BB*BB ^ l.length:=Nat.mul_le_mul_left _ ih
    rw [Nat.mul_add] at h2
    omega
theorem mI {l:List Int} {k:Nat} (hk:k < l.length):val (l.take (k+1))=val (l.take k)+BB ^ k*(l[k]).toNat:=by
  rw [List.take_succ,List.getElem?_eq_getElem hk,aDV]
  simp only [Option.toList_some,val,Nat.mul_zero,Nat.add_zero,List.length_take]
  rw [Nat.min_eq_left (by omega)]
theorem gE {l:List Int} {k:Nat} (hk:k < l.length):val (l.drop k)=(l[k]).toNat+BB*val (l.drop (k+1)):=by
  rw [List.drop_eq_getElem_cons hk,val]
def aE (n:Nat):List Int:=if h:n=0 then [] else ((n % BB:Nat):Int)::aE (n / BB)
  termination_by n
  decreasing_by exact Nat.div_lt_self (by omega) (by rw [dI];omega)
theorem bB:aE 0=[]:=by unfold aE;simp
theorem gC {n:Nat} (h:n≠0):aE n=((n % BB:Nat):Int)::aE (n / BB):=by
  rw [aE,dif_neg h]
theorem dT (n:Nat):dgs (aE n):=by
  induction n using Nat.strongRecOn with
  | _ n ih =>
    by_cases h:n=0
    · subst h;rw [bB];exact yR
    · rw [gC h,lK]
      have:=Nat.mod_lt n rK
      rw [dI] at this
      exact ⟨⟨by omega,by rw [dI];omega⟩,ih _ (Nat.div_lt_self (by omega) (by rw [dI];omega))⟩
theorem cW (n:Nat):val (aE n)=n:=by
  induction n using Nat.strongRecOn with
  | _ n ih =>
    by_cases h:n=0
    · subst h;rw [bB];rfl
    · rw [gC h,val,ih _ (Nat.div_lt_self (by omega) (by rw [dI];omega))]
      have:=Nat.mod_add_div n BB
      simp only [Int.toNat_natCast];omega
theorem xZ {d:Int} {v:Nat} (hd:0≤d∧d < 1000000000) (h:d≠0∨v≠0):aE (d.toNat+BB*v)=d::aE v:=by
  have hd':d.toNat < BB:=by rw [dI];omega
  have hne:d.toNat+BB*v≠0:=by
    rcases h with h | h
    · omega
    · have:0 < BB*v:=Nat.mul_pos rK (by omega)
      omega
  rw [gC hne,Nat.add_mul_mod_self_left,Nat.mod_eq_of_lt hd',Nat.add_mul_div_left _ _ rK,Nat.div_eq_of_lt hd',Nat.zero_add]
  congr 1;omega
def oY:List Int→List Int
  | []=>[]
  | d::l=>match oY l with
    | []=>if d=0 then [] else [d]
    | t::r=>d::t::r
theorem gD {n:Nat} (h:n≠0):aE n≠[]:=by rw [gC h];simp
theorem aCU {n:Nat}:aE n=[]↔n=0:=by
  constructor
  · intro h
    by_cases c:n=0
    · exact c
    · exact absurd h (gD c)
  · rintro rfl;exact bB
theorem aB8:∀ {l:List Int},dgs l→oY l=aE (val l)
  | [],_=>by rw [val,bB];rfl
  | d::l,h=>by
    rw [lK] at h
    have ih:=aB8 h.2
    unfold oY
    rw [ih,val]
    by_cases c:val l=0
    · rw [c,bB]
      simp only [Nat.mul_zero,Nat.add_zero]
      by_cases c2:d=0
      · rw [if_pos c2,c2];simp [bB]
      · rw [if_neg c2]
        have:=xZ (v:=0) h.1 (.inl c2)
        rw [bB] at this
        simpa using this.symm
    · rw [xZ h.1 (.inr c)]
      cases hx:aE (val l) with
      | nil=>exact absurd hx (gD c)
      | cons t r=>rfl
def nat (l:List Int):Prop:=dgs l∧l.getLast?≠some 0
theorem aAz:∀ {l:List Int},l.getLast?≠some 0→oY l=l
  | [],_=>rfl
  | [d],h=>by
    have:d≠0:=by intro e;apply h;simp [e]
    simp [oY,this]
  | d::e::l,h=>by
    have ih:oY (e::l)=e::l:=aAz (by simpa [List.getLast?_cons_cons] using h)
    unfold oY
    rw [ih]
theorem vQ {l:List Int} (h:nat l):l=aE (val l):=by
  rw [← aB8 h.1,aAz h.2]
theorem xX:∀ (n:Nat),(aE n).getLast?≠some 0:=by
  intro n
  induction n using Nat.strongRecOn with
  | _ n ih =>
    by_cases h:n=0
    · subst h;rw [bB];simp
    · rw [gC h]
      by_cases c:n / BB=0
      · rw [c,bB]
        have:n % BB=n:=Nat.mod_eq_of_lt (by rw [Nat.div_eq_zero_iff] at c;rcases c with c | c;exact absurd c (by rw [dI];omega);exact c)
        rw [this];simp;omega
      · have:=ih _ (Nat.div_lt_self (n:=n) (k:=BB) (by omega) (by rw [dI];omega))
        cases hx:aE (n / BB) with
        | nil=>exact absurd hx (gD c)
        | cons t r=>rw [hx] at this;rw [List.getLast?_cons_cons];exact this
theorem aHA (n:Nat):nat (aE n):=⟨dT n,xX n⟩
theorem aHw (k:Nat):0 < BB ^ k:=Nat.pow_pos rK
theorem iR {n k:Nat} (h:n < BB ^ k):(aE n).length≤k:=by
  induction k generalizing n with
  | zero => have : n = 0 := by simpa using h
            subst this;rw [bB];simp
  | succ k ih =>
    by_cases c:n=0
    · subst c;rw [bB];simp
    · rw [gC c,List.length_cons]
      have:n / BB < BB ^ k:=by
        rw [Nat.div_lt_iff_lt_mul rK]
        rw [Nat.pow_succ] at h;exact h
      have:=ih this;omega
theorem mS (n:Nat):n < BB ^ (aE n).length:=by
  have:=aB7 (dT n)
  rwa [cW] at this
theorem aG6 {n:Nat} (h:n≠0):BB ^ ((aE n).length - 1)≤n:=by
  rcases Nat.lt_or_ge n (BB ^ ((aE n).length - 1)) with c | c
  · have h1:=iR c
    have h2:(aE n).length≠0:=fun e=>gD h (List.length_eq_zero_iff.1 e)
    omega
  · exact c
theorem aCX {m n:Nat} (h:aE m=aE n):m=n:=by
  have:=congrArg val h
  rwa [cW,cW] at this
end Go.Ev
/- More about limbs. No program. -/
namespace Go.Ev
set_option linter.all false
theorem aHh {l:List Int} (h:nat l) (e:val l=0):l=[]:=by rw [vQ h,e,bB]
theorem aHB {l:List Int} (h:nat l) (k:Nat):nat (l.drop k):=by
  refine ⟨aHR h.1 k,fun e=>h.2 ?_⟩
  rw [List.getLast?_drop] at e
  split at e
  · cases e
  · exact e
theorem aBh {l:List Int} (h:nat l) {k:Nat} (hk:k < l.length):val (l.drop k)≠0:=by
  intro e
  have:=congrArg List.length (aHh (aHB h k) e)
  simp at this;omega
theorem eK {l:List Int} {k:Nat} (hk:l.length≤k):val (l.drop k)=0:=by rw [List.drop_eq_nil_of_le hk];rfl
theorem aFn {x v:Nat} (h:x+BB*v≠0):aE (x+BB*v)=((x % BB:Nat):Int)::aE (x / BB+v):=by
  have hx:=Nat.mod_add_div x BB
  have hm:=Nat.mod_lt x rK
  have e:x+BB*v=((x % BB:Nat):Int).toNat+BB*(x / BB+v):=by
    rw [Int.toNat_natCast,Nat.mul_add];omega
  rw [e]
  refine xZ ⟨by omega,by rw [dI] at hm ⊢;omega⟩ ?_
  by_cases c:x / BB+v=0
  · left
    rw [c,Nat.mul_zero,Nat.add_zero,Int.toNat_natCast] at e
    intro h2;apply h;rw [e];omega
  · exact .inr c
def oU (x y:Nat):Int:=if x < y then -1 else if y < x then 1 else 0
theorem aFT {m n:Nat} (h:(aE m).length < (aE n).length):m < n:=by
  have h1:=mS m
  have hn:n≠0:=by rintro rfl;rw [bB] at h;simp at h
  have h2:=aG6 hn
  have h3:BB ^ (aE m).length≤BB ^ ((aE n).length - 1):=Nat.pow_le_pow_right rK (by omega)
  omega
theorem aDU:∀ {l:List Int} {k:Nat} {x:Int} (hk:k < l.length),val (l.set k x)+BB ^ k*(l[k]).toNat=val l+BB ^ k*x.toNat
  | d::l,0,x,_=>by simp [val];omega
  | d::l,k+1,x,hk=>by
    have ih:=aDU (l:=l) (k:=k) (x:=x) (by simpa using hk)
    have ih2:=congrArg (BB*·) ih
    simp only [Nat.mul_add,← Nat.mul_assoc] at ih2
    simp only [List.set_cons_succ,val,List.getElem_cons_succ,Nat.pow_succ,Nat.mul_comm (BB ^ k) BB]
    omega
theorem xY {n i:Nat} (hi:i < (aE n).length):(aE n)[i]=((n / BB ^ i % BB:Nat):Int):=by
  induction i generalizing n with
  | zero =>
    have hn:n≠0:=by rintro rfl;rw [bB] at hi;simp at hi
    have e:=gC hn
    simp only [e,List.getElem_cons_zero,Nat.pow_zero,Nat.div_one]
  | succ i ih =>
    have hn:n≠0:=by rintro rfl;rw [bB] at hi;simp at hi
    have e:=gC hn
    have hi':i < (aE (n / BB)).length:=by rw [e] at hi;simpa using hi
    have:=ih hi'
    simp only [e,List.getElem_cons_succ,this,Nat.div_div_eq_div_mul,Nat.pow_succ,Nat.mul_comm (BB ^ i) BB]
theorem rH {d:Nat} (h:d < BB) (h0:d≠0):aE d=[(d:Int)]:=by
  rw [gC h0,Nat.mod_eq_of_lt h,Nat.div_eq_of_lt h,bB]
theorem eG {a b k:Nat} (h:b≤k) (hk:(aE k).length≤a):(aE b).length≤a:=by
  rcases Nat.lt_or_ge (aE k).length (aE b).length with c | c
  · have:=aFT c;omega
  · omega
theorem cZ (a b:Nat):(aE (a*b)).length≤(aE a).length+(aE b).length:=by
  refine iR ?_
  rw [Nat.pow_add]
  exact Nat.mul_lt_mul'' (mS a) (mS b)
theorem aCW (a b:Nat):(aE (a+b)).length≤max (aE a).length (aE b).length+1:=by
  refine iR ?_
  have h1:=mS a
  have h2:=mS b
  have h3:BB ^ (aE a).length≤BB ^ (max (aE a).length (aE b).length):=Nat.pow_le_pow_right rK (by omega)
  have h4:BB ^ (aE b).length≤BB ^ (max (aE a).length (aE b).length):=Nat.pow_le_pow_right rK (by omega)
  have h5:2*BB ^ (max (aE a).length (aE b).length)≤BB ^ (max (aE a).length (aE b).length)*BB:=by rw [Nat.mul_comm];exact Nat.mul_le_mul_left _ (by rw [dI];omega)
  rw [Nat.pow_succ];omega
end Go.Ev
