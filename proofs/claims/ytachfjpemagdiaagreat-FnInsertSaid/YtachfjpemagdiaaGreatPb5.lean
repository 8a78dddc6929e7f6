/- Parts VE, PT4, VF, VG, VH, VI, VJ, VK, VL, VM, VN, VO. -/
import Derived.Test.YtachfjpemagdiaaGreatPb4
set_option linter.all false
/- The law of the paths of a tree. -/
namespace Go.Ev
set_option linter.all false
theorem aGZ (l:List Int) (n:Int) (h:l.length≤4294967296):kM l n=some (decide (n ∈ l)):=by
  have main:∀ m k:Nat,m+k=l.length→lp (jO l n) (k:Int)=some (if n ∈ l.drop k then .inr true else .inl ()):=by
    intro m
    induction m with
    | zero =>
      intro k hk
      rw [List.drop_eq_nil_of_le (by omega)]
      exact aJ (by unfold jO;rw [if_neg (by omega)];rfl)
    | succ m ih =>
      intro k hk
      have hlt:k < l.length:=by omega
      rw [List.drop_eq_getElem_cons hlt]
      by_cases c:l[k]=n
      · rw [aJ (r:=.inr true) (by unfold jO;rw [if_pos (by omega),aK hlt];simp [c])]
        rw [if_pos (by simp [c])]
      · have st:jO l n (k:Int)=some (.inl ((k+1:Nat):Int)):=by
          unfold jO
          rw [if_pos (by omega),aK hlt]
          simp only [Option.bind_some,if_neg c]
          rw [wi (n:=(k:Int)+1) (by omega)];rfl
        rw [aT st,ih (k+1) (by omega)]
        have:n ∈ l[k]::l.drop (k+1)↔n ∈ l.drop (k+1):=by
          rw [List.mem_cons]
          exact ⟨fun h=>h.resolve_left (fun e=>c e.symm),.inr⟩
        simp only [this]
  have:=main l.length 0 (by omega)
  rw [show ((0:Nat):Int)=0 from rfl,List.drop_zero] at this
  unfold kM
  rw [this]
  by_cases c:n ∈ l <;> simp [c]
theorem aGP {t:Tree} (hn:(eA t).Nodup) {i j:Nat} (hi:i < t.fNodes.length) (hj:j < t.fNodes.length) (h:(t.fNodes[i]).fNode=(t.fNodes[j]).fNode):i=j:=by
  unfold eA at hn
  have li:i < (t.fNodes.map (·.fNode)).length:=by rw [List.length_map];exact hi
  have lj:j < (t.fNodes.map (·.fNode)).length:=by rw [List.length_map];exact hj
  have:=List.pairwise_iff_getElem.1 hn
  rcases Nat.lt_trichotomy i j with c | c | c
  · exact absurd (by simpa using h) (this i j li lj c)
  · exact c
  · exact absurd (by simpa using h.symm) (this j i lj li c)
theorem aJw {t:Tree} {v:Int} (h:v ∈ eA t):∃ j,atN t v=some j:=by
  cases a:atN t v with
  | some j=>exact ⟨j,rfl⟩
  | none =>
    exfalso
    unfold atN at a
    rw [List.findIdx?_eq_none_iff] at a
    obtain ⟨n,hn,e⟩:=List.mem_map.1 h
    have:=a n hn
    simp [e] at this
theorem aMx {t:Tree} (hn:(eA t).Nodup) {k:Nat} (hk:k < t.fNodes.length):atN t (t.fNodes[k]).fNode=some k:=by
  obtain ⟨j,e⟩:=aJw (t:=t) (v:=(t.fNodes[k]).fNode) (List.mem_map_of_mem (List.getElem_mem hk))
  obtain ⟨hj,e2⟩:=aCu e
  rw [e,aGP hn hj hk e2]
theorem aEn {t:Tree} (ht:jZ t):∀ (m k:Nat),k < t.fNodes.length→∀ x ∈ xE t m k,∃ (i:Nat) (hi:i < t.fNodes.length),k≤i∧(t.fNodes[i]).fNode=x
  | 0,k,_,x,hx=>by cases hx
  | m+1,k,hk,x,hx=>by
    rw [yI hk] at hx
    rcases List.mem_cons.1 hx with rfl | hx
    · exact ⟨k,hk,Nat.le_refl _,rfl⟩
    · cases e:atN t (t.fNodes[k]).fUp with
      | none=>rw [e] at hx;cases hx
      | some j =>
        rw [e] at hx
        obtain ⟨g1,g2⟩:=(tT ht).2 k hk j e
        obtain ⟨i,hi,h1,h2⟩:=aEn ht m j g2 x hx
        exact ⟨i,hi,by omega,h2⟩
theorem aC7 {t:Tree} (ht:jZ t) (hn:(eA t).Nodup):∀ (m k:Nat),k < t.fNodes.length→(xE t m k).Nodup
  | 0,k,_=>by simp [xE]
  | m+1,k,hk=>by
    rw [yI hk]
    cases e:atN t (t.fNodes[k]).fUp with
    | none=>simp
    | some j =>
      obtain ⟨g1,g2⟩:=(tT ht).2 k hk j e
      refine List.nodup_cons.2 ⟨fun h=>?_,aC7 ht hn m j g2⟩
      obtain ⟨i,hi,h1,h2⟩:=aEn ht m j g2 _ h
      have:=aGP hn hi hk h2
      omega
theorem aHI {t:Tree} (ht:jZ t) (hn:(eA t).Nodup):∀ (m k:Nat),k < t.fNodes.length→t.fNodes.length≤k+m→∀ (i:Nat) (hi:i < t.fNodes.length) (j:Nat),(t.fNodes[i]).fNode ∈ xE t m k→atN t (t.fNodes[i]).fUp=some j→∃ hj:j < t.fNodes.length,(t.fNodes[j]).fNode ∈ xE t m k
  | 0,k,hk,h0,_,_,_,_,_=>by omega
  | m+1,k,hk,hm,i,hi,j,hx,hj=>by
    rw [yI hk] at hx ⊢
    obtain ⟨q1,q2⟩:=(tT ht).2 i hi j hj
    refine ⟨q2,?_⟩
    rcases List.mem_cons.1 hx with hx | hx
    · have:=aGP hn hi hk hx
      subst this
      rw [hj]
      obtain ⟨m',rfl⟩:∃ m',m=m'+1:=⟨m - 1,by omega⟩
      simp only []
      rw [yI q2]
      simp
    · cases e:atN t (t.fNodes[k]).fUp with
      | none=>rw [e] at hx;cases hx
      | some w =>
        rw [e] at hx
        obtain ⟨g1,g2⟩:=(tT ht).2 k hk w e
        obtain ⟨h1,h2⟩:=aHI ht hn m w g2 (by omega) i hi j hx hj
        exact List.mem_cons_of_mem _ h2
theorem aCK {t:Tree} (ht:jZ t) {v:Int} (hv:v ∈ eA t):(oV t v).Nodup∧(∀ x ∈ oV t v,x ∈ eA t)∧(∃ r,oV t v=v::r)∧∀ n ∈ t.fNodes,n.fNode ∈ oV t v→n.fUp≠0→n.fUp ∈ oV t v:=by
  obtain ⟨hn,h1,hu⟩:=aK8 ht
  obtain ⟨k,e⟩:=aJw hv
  obtain ⟨hk,ek⟩:=aCu e
  have h9:=(tT ht).1
  unfold oV
  rw [e]
  simp only []
  refine ⟨aC7 ht hn 9 k hk,fun x hx=>?_,?_,fun n hnm hx h0=>?_⟩
  · obtain ⟨i,hi,_,h2⟩:=aEn ht 9 k hk x hx
    rw [← h2]
    exact List.mem_map_of_mem (List.getElem_mem hi)
  · rw [yI hk,ek];exact ⟨_,rfl⟩
  · obtain ⟨i,hi,rfl⟩:=List.getElem_of_mem hnm
    obtain ⟨j,ej⟩:=aJw (hu _ hnm h0)
    obtain ⟨hj,h3⟩:=aCu ej
    obtain ⟨_,h4⟩:=aHI ht hn 9 k hk (by omega) i hi j hx ej
    rw [← h3];exact h4
end Go.Ev
/- The cliques of a tree, both programs, and the law. -/
namespace Go.Ev
set_option linter.all false
theorem aI4 {o:List Int} {v:Int} {own:List Link} {b:List TreeNode} {n:TreeNode} (h:lL o v own b=some n):bC n.fCond=some true:=by
  unfold lL at h
  cases e1:jnP (own++uZ v b) with
  | none=>rw [e1] at h;cases h
  | some u =>
    rw [e1,Option.bind_some] at h
    cases e2:aAw v u.1 with
    | none=>rw [e2] at h;cases h
    | some w =>
      obtain ⟨c,m,f⟩:=w
      rw [e2,Option.bind_some] at h
      have hc:bC c=some true:=by
        unfold aAw at e2
        cases e3:uQ v u.1 with
        | none=>rw [e3] at e2;cases e2
        | some x =>
          rw [e3,Option.bind_some] at e2
          have ex:x.1=c:=by
            cases e4:jnP (uI v u.1++x.2) with
            | none=>rw [e4] at e2;cases e2
            | some y=>rw [e4] at e2;exact congrArg Prod.fst (Option.some.inj e2)
          unfold uQ at e3
          split at e3
          · rename_i hh
            cases e3
            rw [← ex];exact hh.2.1
          · cases e3
      split at h
      · cases h;exact hc
      · cases h
theorem aFN {Q:TreeNode→Prop} {s:List Link} {o:List Int} (hQ:∀ v b n,lL o v (s.filter (kY o v)) b=some n→Q n):∀ (r:List Int) (b b':List TreeNode),(∀ n ∈ b,Q n)→oD s o r b=some b'→∀ n ∈ b',Q n
  | [],b,b',h,e=>by cases e;exact h
  | v::r,b,b',h,e=>by
    rw [oD] at e
    cases h1:lL o v (s.filter (kY o v)) b with
    | none=>rw [h1] at e;cases e
    | some n =>
      rw [h1,Option.bind_some] at e
      exact aFN hQ r (b++[n]) b' (fun m hm=>by
        rcases List.mem_append.1 hm with hm | hm
        · exact h m hm
        · rw [List.mem_singleton.1 hm];exact hQ _ _ _ h1) e
structure InvC (out:List Clique) (k:Nat):Prop where
  len:out.length≤k
  sz:aHt out≤20010*k
  pos:∀ c ∈ out,∀ x ∈ c.fFrontal,1≤x
end Go.Ev
/- Nodes that hang on nothing: a tree is not built. -/
namespace Go.Ev
set_option linter.all false
theorem aI5 (P:Int→Prop) {s:List Link} {o:List Int} {v:Int} {b:List TreeNode} {n:TreeNode} (hs:∀ l ∈ s,(P l.fA↔P l.fB)) (hb:∀ m ∈ b,∀ x y,pr m.fMessages x y→(P x↔P y)) (h:lL o v (s.filter (kY o v)) b=some n) :
    (∀ x y,pr n.fMessages x y→(P x↔P y))∧(∀ p ∈ uW n.fCond,(P p↔P v))∧n.fNode=v:=by
  unfold lL at h
  cases e1:jnP (s.filter (kY o v)++uZ v b) with
  | none=>rw [e1] at h;cases h
  | some u =>
    obtain ⟨j,e⟩:=u
    rw [e1,Option.bind_some] at h
    cases e2:aAw v j with
    | none=>rw [e2] at h;cases h
    | some w =>
      obtain ⟨c,m,f⟩:=w
      rw [e2,Option.bind_some] at h
      simp only [] at h
      split at h
      · cases h
        have hj:=(zR e1).2.1
        obtain ⟨r1,r2⟩:=aJL hj e2
        have pj:∀ x y,pr j x y→(P x↔P y):=by
          intro x y hp
          rw [aET e1,aAy] at hp
          rcases hp with ⟨l,hl,rfl,rfl⟩ | hp
          · exact hs l (List.mem_filter.1 hl).1
          · obtain ⟨m',hm,_,hp⟩:=aCL.1 hp
            exact hb m' hm x y hp
        have pp:∀ p ∈ uW c,(P p↔P v):=by
          intro p hp
          rcases (r1 p).1 hp with h1 | h1
          · exact pj _ _ h1
          · exact (pj _ _ h1).symm
        refine ⟨fun x y hp=>?_,pp,rfl⟩
        rcases (r2 x y).1 hp with ⟨h1,_,_⟩ | ⟨h1,h2,_⟩
        · exact pj _ _ h1
        · exact (pp x h1).trans (pp y h2).symm
      · cases h
theorem aDX (P:Int→Prop) {s:List Link} {o:List Int} (hs:∀ l ∈ s,(P l.fA↔P l.fB)):∀ (r:List Int) (b b':List TreeNode),(∀ m ∈ b,(∀ x y,pr m.fMessages x y→(P x↔P y))∧∀ p ∈ uW m.fCond,(P p↔P m.fNode))→oD s o r b=some b' →
    ∀ m ∈ b',(∀ x y,pr m.fMessages x y→(P x↔P y))∧∀ p ∈ uW m.fCond,(P p↔P m.fNode)
  | [],b,b',hb,h=>by cases h;exact hb
  | v::r,b,b',hb,h=>by
    rw [oD] at h
    cases e:lL o v (s.filter (kY o v)) b with
    | none=>rw [e] at h;cases h
    | some n =>
      rw [e,Option.bind_some] at h
      obtain ⟨h1,h2,h3⟩:=aI5 P hs (fun m hm=>(hb m hm).1) e
      refine aDX P hs r (b++[n]) b' (fun m hm=>?_) h
      rcases List.mem_append.1 hm with hm | hm
      · exact hb m hm
      · rw [List.mem_singleton.1 hm,h3];exact ⟨h1,h2⟩
end Go.Ev
/- A link that hangs on nothing cannot be inserted. -/
namespace Go.Ev
set_option linter.all false
theorem aK6 {c:Conditional} (hz:aS c≤4294967296) (h:bC c=some true):c.fParents≠[]:=by
  intro e
  obtain ⟨hl,hT⟩:=aEo hz
  obtain ⟨g1,g2⟩:=vU _ hT
  obtain ⟨r,e1,e2,e3⟩:=aDS c hz c.fParents.length 0 (by omega) (pM 0) aGJ
  rw [show ((0:Nat):Int)=0 from rfl] at e1
  unfold bC at h
  rw [bO 0 (by omega)] at h
  have e0:¬(0:Int) < (c.fParents.length:Int):=by rw [e];simp
  simp only [Option.bind_some,e1,g1,xG,e0,if_false] at h
  cases r with
  | inl v =>
    by_cases A:1≤c.fNode∧c.fNode≤9
    · by_cases B:0 < uV c.fTotal
      · simp [A,B] at h
      · simp [A,B] at h
    · simp [A] at h
  | inr b=>simp only [] at e3;subst e3;cases h
theorem aNX {s:List Link} {o:List Int} {k:Link} (hs:∀ l ∈ s,l.fA≠k.fA∧l.fA≠k.fB∧l.fB≠k.fA∧l.fB≠k.fB):mS (s++[k]) (o++[k.fA,k.fB])=none:=by
  cases hb:mS (s++[k]) (o++[k.fA,k.fB]) with
  | none=>rfl
  | some t =>
    exfalso
    unfold mS at hb
    cases h:jnP (s++[k]) with
    | none=>rw [h] at hb;cases hb
    | some x =>
      rw [h,Option.bind_some] at hb
      by_cases c:isOrd x.1 (o++[k.fA,k.fB])
      · rw [if_pos c] at hb
        obtain ⟨l9,h1⟩:=aAL c
        cases g:oD (s++[k]) (o++[k.fA,k.fB]) (o++[k.fA,k.fB]) [] with
        | none=>rw [g] at hb;cases hb
        | some b =>
          obtain ⟨ok,nodes⟩:=yB (o++[k.fA,k.fB]) [] b (by simp) g
          have hp:=aDW c.1 h1 (o++[k.fA,k.fB]).length 0 (by omega) [] b (by simp) (by rw [List.drop_zero];exact g)
          have hc:=aDX (fun x=>x=k.fA∨x=k.fB) (s:=s++[k]) (o:=o++[k.fA,k.fB]) (fun l hl=>by
            rcases List.mem_append.1 hl with hl | hl
            · have:=hs l hl
              constructor <;> rintro (h | h) <;> simp_all
            · rw [List.mem_singleton.1 hl];simp) _ [] b (by simp) g
          have hv:=aFN (Q:=fun n=>bC n.fCond=some true) (fun v b n hn=>aI4 hn) (o++[k.fA,k.fB]) [] b (by simp) g
          have hm:k.fB ∈ b.map (·.fNode):=by rw [nodes];simp
          obtain ⟨n,hn,e⟩:=List.mem_map.1 hm
          have hz:=(ok n hn).2.2.1
          have hne:=aK6 (by omega) (hv n hn)
          obtain ⟨p,hpm⟩:=List.exists_mem_of_ne_nil _ hne
          have hpn:p.fNode ∈ uW n.fCond:=List.mem_map_of_mem hpm
          have hP:=((hc n hn).2 _ hpn).2 (.inr e)
          have hl:(o++[k.fA,k.fB]).length=o.length+2:=by simp
          have late:=(hp n hn).2.late (o.length+1) (by omega) (by rw [e];simp) _ hpn
          rw [List.take_of_length_le (by omega)] at late
          rcases hP with h2 | h2 <;> exact late (by rw [h2];simp)
      · rw [if_neg c] at hb;cases hb
end Go.Ev
/- Inserting a link that hangs on the tree. -/
namespace Go.Ev
set_option linter.all false
theorem wD {o:List Int} {k:Link} {u:Int}:u ∈ gM o k↔(u=k.fA∨u=k.fB)∧0 < u∧u ∉ o:=by
  unfold gM
  rw [List.mem_filter,decide_eq_true_eq]
  simp only [List.mem_cons,List.not_mem_nil,or_false]
theorem aMU {l:List QL} {o:List Int} {k:QL} (h:Tie l o) (hl:l.length≤7) (hk:LkI k) (hj:k.a=0∨k.a ∈ o∨k.b ∈ o):Tie (l++[k]) (o++gM o k.toL) where
  nd:=by
    rw [List.nodup_append]
    refine ⟨h.nd,?_,fun u hu w hw e=>?_⟩
    · unfold gM
      refine List.Pairwise.filter _ ?_
      have:=hk.1
      refine List.pairwise_cons.2 ⟨fun y hy=>?_,List.pairwise_cons.2 ⟨by simp,List.Pairwise.nil⟩⟩
      rw [List.mem_singleton] at hy
      subst hy
      show k.a≠k.b
      omega
    · rw [wD] at hw
      exact hw.2.2 (e ▸ hu)
  mem:=fun u=>by
    rw [List.mem_append,h.mem,wD]
    constructor
    · rintro (⟨h1,x,hx,ht⟩ | ⟨h1,h2,h3⟩)
      · exact ⟨h1,x,by simp [hx],ht⟩
      · refine ⟨by omega,k,by simp,?_⟩
        rcases h1 with h1 | h1
        · exact .inl h1.symm
        · exact .inr h1.symm
    · rintro ⟨h1,x,hx,ht⟩
      rcases List.mem_append.1 hx with hx | hx
      · exact .inl ⟨h1,x,hx,ht⟩
      · rw [List.mem_singleton] at hx
        subst hx
        by_cases c:u ∈ o
        · exact .inl ((h.mem u).1 c)
        · refine .inr ⟨?_,by omega,c⟩
          rcases ht with ht | ht
          · exact .inl ht.symm
          · exact .inr ht.symm
  lk:=fun x hx=>by
    rcases List.mem_append.1 hx with hx | hx
    · exact h.lk x hx
    · rw [List.mem_singleton.1 hx];exact hk
  len:=by rw [List.length_append,List.length_singleton];omega
  gr:=by
    intro S hS h0
    obtain ⟨u,hu,su⟩:=hS
    by_cases c:∃ w ∈ o,S w
    · obtain ⟨x,hx,hh⟩:=h.gr S c h0
      exact ⟨x,by simp [hx],hh⟩
    · have no:∀ w ∈ o,¬S w:=fun w hw sw=>c ⟨w,hw,sw⟩
      rcases List.mem_append.1 hu with hu | hu
      · exact absurd su (no u hu)
      · rw [wD] at hu
        obtain ⟨h1,h2,h3⟩:=hu
        refine ⟨k,by simp,?_⟩
        have ha:k.toL.fA=k.a:=rfl
        have hb:k.toL.fB=k.b:=rfl
        rw [ha,hb] at h1
        rcases h1 with h1 | h1
        · left
          subst h1
          have hbo:k.b ∈ o:=by
            rcases hj with h4 | h4 | h4
            · omega
            · exact absurd h4 h3
            · exact h4
          exact ⟨su,no _ hbo⟩
        · right
          subst h1
          refine ⟨su,fun sa=>?_⟩
          rcases hj with h4 | h4 | h4
          · rw [h4] at sa;exact h0 sa
          · exact no _ h4 sa
          · exact h3 h4
theorem aKI {l:List QL} {o:List Int} (h:Tie l o):(pX l o).length=l.length:=h.inPerm.length_eq
theorem aJf {l:List QL} {o:List Int} {k:QL} (h:Tie l o) (hl:l.length≤7) (hk:LkI k) (hj:k.a=0∨k.a ∈ o∨k.b ∈ o) :
    Tie (pX l o++[k]) (o++gM o k.toL)∧mS (bV (cG l o).fNodes++[k.toL]) (o++gM o k.toL)=some (cG (pX l o++[k]) (o++gM o k.toL)):=by
  have ht:=aMU h.inTie (by rw [aKI h];exact hl) hk hj
  refine ⟨ht,?_⟩
  rw [yV]
  have:=ht.build
  rw [List.map_append] at this
  exact this
theorem aKG {l:List QL} {o:List Int} {k:QL} (h:Tie l o) (hk:LkI k) (h0:k.a≠0) (ha:k.a ∉ o) (hb:k.b ∉ o):mS (bV (cG l o).fNodes++[k.toL]) (o++gM o k.toL)=none:=by
  have hk1:=hk.1
  have e:gM o k.toL=[k.toL.fA,k.toL.fB]:=by
    unfold gM
    rw [List.filter_eq_self]
    intro u hu
    simp only [List.mem_cons,List.not_mem_nil,or_false] at hu
    rw [decide_eq_true_eq]
    rcases hu with rfl | rfl
    · exact ⟨show 0 < k.a by omega,ha⟩
    · exact ⟨show 0 < k.b by omega,hb⟩
  rw [e]
  refine aNX fun x hx=>?_
  rw [yV] at hx
  obtain ⟨y,hy,rfl⟩:=List.mem_map.1 hx
  have hy':=h.inPerm.mem_iff.1 hy
  have hl:=(h.lk y hy').1
  have ma:1≤y.a→y.a ∈ o:=fun h1=>(h.mem _).2 ⟨h1,y,hy',.inl rfl⟩
  have mb:y.b ∈ o:=(h.mem _).2 ⟨by omega,y,hy',.inr rfl⟩
  show y.a≠k.a∧y.a≠k.b∧y.b≠k.a∧y.b≠k.b
  refine ⟨fun e=>?_,fun e=>?_,fun e=>ha (e ▸ mb),fun e=>hb (e ▸ mb)⟩
  · exact ha (e ▸ ma (by omega))
  · exact hb (e ▸ ma (by omega))
end Go.Ev
/- Nodes that an inserted link does not change. -/
namespace Go.Ev
set_option linter.all false
theorem yU (l:List QL) (o:List Int) (v:Int):∀ (p:List Int) (b:List NQ),eG l o (p++[v]) b=eG l o p b++[nxt l o v (eG l o p b)]
  | [],b=>rfl
  | u::p,b=>by rw [List.cons_append,eG,eG,yU l o v p]
theorem TInv.at {l:List QL} {o:List Int} (hb:Base l o) (hg:Grounded l o):∀ (n:Nat) (p r:List Int),p.length=n→o=p++r→TInv l o p r (eG l o p [])
  | 0,p,r,hn,e=>by
    have:p=[]:=List.length_eq_zero_iff.1 hn
    subst this
    rw [List.nil_append] at e
    subst e
    exact TInv.start hb hg
  | n+1,p,r,hn,e=>by
    rcases List.eq_nil_or_concat p with rfl | ⟨q,v,rfl⟩
    · simp at hn
    · rw [List.concat_eq_append] at hn e ⊢
      have ih:=TInv.at hb hg n q (v::r) (by simpa using hn) (by rw [e,List.append_assoc];rfl)
      rw [yU]
      exact (ih.next hb).1
def aKq {α:Type} (R:α→α→Prop):List α→List α→Prop
  | [],[]=>True
  | x::a,y::b=>R x y∧aKq R a b
  | [],_::_=>False
  | _::_,[]=>False
theorem aFS {α:Type} {R:α→α→Prop} {x y:α} (h2:R x y):∀ {a b:List α},aKq R a b→aKq R (a++[x]) (b++[y])
  | [],[],_=>⟨h2,trivial⟩
  | z::a,w::b,h=>⟨h.1,aFS h2 h.2⟩
  | [],_::_,h=>h.elim
  | _::_,[],h=>h.elim
theorem aE1 {α:Type} {R:α→α→Prop} {p:α→Bool} (hr:∀ x y,R x y→(x=y∨(p x=false∧p y=false))):∀ {a b:List α},aKq R a b→a.filter p=b.filter p
  | [],[],_=>rfl
  | [],_::_,h=>h.elim
  | _::_,[],h=>h.elim
  | x::a,y::b,h=>by
    have ih:=aE1 hr h.2
    rw [List.filter_cons,List.filter_cons,ih]
    rcases hr x y h.1 with e | ⟨e1,e2⟩
    · rw [e]
    · rw [e1,e2];rfl
theorem aEd {α:Type} {R:α→α→Prop}:∀ {a b:List α},aKq R a b→∀ y ∈ b,∃ x ∈ a,R x y
  | [],[],_,y,hy=>by cases hy
  | [],_::_,h,_,_=>h.elim
  | _::_,[],h,_,_=>h.elim
  | x::a,z::b,h,y,hy=>by
    rcases List.mem_cons.1 hy with e | hy
    · exact ⟨x,by simp,e ▸ h.1⟩
    · obtain ⟨w,hw,hr⟩:=aEd h.2 y hy
      exact ⟨w,by simp [hw],hr⟩
theorem aKv {l l':List QL} {o o':List Int} {v:Int} {b b':List NQ} (h1:l'.filter (oK o' v)=l.filter (oK o v)) (h2:b'.filter (kid v)=b.filter (kid v)) (h3:∀ s,(∀ u ∈ s,u=0∨u ∈ o)→aQ o' s=aQ o s) (h4:∀ u ∈ psN (nxt l o v b).cond,u=0∨u ∈ o):nxt l' o' v b'=nxt l o v b:=by
  have e1:rI v b'=rI v b:=by
    have:(b'.filter (kid v)).flatMap (fun n=>n.msgs)=(b.filter (kid v)).flatMap (fun n=>n.msgs):=by rw [h2]
    exact this
  have e2:aCt v b'=aCt v b:=by
    have:dU (fun n:NQ=>n.den) (b'.filter (kid v))=dU (fun n:NQ=>n.den) (b.filter (kid v)):=by rw [h2]
    exact this
  have e3:upQ o' (nxt l o v b).cond=upQ o (nxt l o v b).cond:=h3 _ h4
  unfold nxt aBu at e3 ⊢
  simp only [] at e3 ⊢
  rw [h1,e1,e2,e3]
end Go.Ev
/- Nodes outside a closed set stay as they are. -/
namespace Go.Ev
set_option linter.all false
set_option maxHeartbeats 2000000
section
variable {l:List QL} {o:List Int} {k:QL} {L:Int→Prop}
def Rel (o o':List Int) (L:Int→Prop) (c c':NQ):Prop :=
  c.node=c'.node∧(¬L c.node→c=c')∧(L c.node→(∀ u ∈ psN c'.cond,u=0∨L u)∧∀ u ∈ psN c.cond,u=0∨L u)∧c.up=aQ o (psN c.cond)∧c'.up=aQ o' (psN c'.cond)
theorem aGe {o e s:List Int} (h1:∀ u ∈ o,1≤u) (he:∀ u ∈ e,0 < u∧u ∉ o) (hs:∀ u ∈ s,u=0∨u ∈ o):aQ (o++e) s=aQ o s:=by
  rcases aAO (s:=s) h1 with ⟨h2,h3⟩ | ⟨p,v,r,e1,h2,h3,h4⟩
  · rw [aBe h3,h2]
    unfold aQ
    have:e.find? (fun u=>decide (u ∈ s))=none:=List.find?_eq_none.2 fun u hu hm=>by
      have hm:=of_decide_eq_true hm
      rcases hs u hm with h | h
      · have:=(he u hu).1;omega
      · exact (he u hu).2 h
    rw [this];rfl
  · rw [h2,e1,List.append_assoc,aBe h4,List.cons_append,aIh h3]
theorem aJK (h:Tie l o) (h':Tie (pX l o++[k]) (o++gM o k.toL)) (hk:LkI k) (La:k.a=0∨L k.a) (Lb:L k.b)
    (L1:∀ p v r,o=p++v::r→L v→∀ u ∈ psN (nxt l o v (eG l o p [])).cond,u=0∨L u) :
    ∀ (n:Nat) (p r:List Int),p.length=n→o=p++r→aKq (Rel o (o++gM o k.toL) L) (eG l o p []) (eG (pX l o++[k]) (o++gM o k.toL) p [])
  | 0,p,r,hn,e=>by
    have:p=[]:=List.length_eq_zero_iff.1 hn
    subst this
    exact trivial
  | n+1,p,r,hn,e=>by
    rcases List.eq_nil_or_concat p with rfl | ⟨q,v,rfl⟩
    · simp at hn
    rw [List.concat_eq_append] at hn e ⊢
    have eo:o=q++v::r:=by rw [e,List.append_assoc];rfl
    have ih:=aJK h h' hk La Lb L1 n q (v::r) (by simpa using hn) eo
    rw [yU,yU]
    refine aFS ?_ ih
    have hb:=h.base
    have hb':=h'.base
    have ti:=TInv.at hb h.gr q.length q (v::r) rfl eo
    have eo':o++gM o k.toL=q++v::(r++gM o k.toL) :=
      (congrArg (fun z=>z++gM o k.toL) eo).trans (by simp only [List.append_assoc,List.cons_append])
    have ti':=TInv.at hb' h'.gr q.length q (v::(r++gM o k.toL)) rfl eo'
    have h1:∀ u ∈ o,1≤u:=fun u hu=>(hb.h1 u hu).1
    have ne:∀ u ∈ gM o k.toL,0 < u∧u ∉ o:=fun u hu=>(wD.1 hu).2
    have vo:v ∈ o:=by rw [eo];simp
    have v1:=h1 v vo
    have ps0:∀ u ∈ psN (nxt l o v (eG l o q [])).cond,u=0∨u ∈ o:=fun u hu=>by
      have:=(ti.nxt_rem hb u hu).1
      rcases List.mem_cons.1 this with h2 | h2
      · exact .inl h2
      · exact .inr (by rw [eo];simp [h2])
    have own:∀ x ∈ pX l o,oK (o++gM o k.toL) v x=oK o v x:=fun x hx=>by
      have hx':=h.inPerm.mem_iff.1 hx
      obtain ⟨_,⟨i1,i2,_⟩,_⟩:=hb.lk x hx'
      unfold oK
      rw [aGe h1 ne fun u hu=>by
        simp only [List.mem_cons,List.not_mem_nil,or_false] at hu
        rcases hu with rfl | rfl
        · exact List.mem_cons.1 i1
        · exact List.mem_cons.1 i2]
    have ownl:(pX l o).filter (oK (o++gM o k.toL) v)=l.filter (oK o v):=by
      rw [List.filter_congr own]
      exact aAz (fun x:QL=>aQ o [x.a,x.b]) l v o h.nd vo
    have ownk:oK (o++gM o k.toL) v k=true→L v:=fun ek=>by
      have n':=hb'.nd
      have g1:∀ u ∈ o++gM o k.toL,1≤u:=fun u hu=>(hb'.h1 u hu).1
      rw [eo'] at ek n' g1
      rcases ((aB7 n' g1).1 ek).1 with h2 | h2
      · rcases La with h3 | h3
        · omega
        · exact h2 ▸ h3
      · exact h2 ▸ Lb
    refine ⟨rfl,fun hL=>?_,fun hL=>⟨?_,L1 q v r eo hL⟩,rfl,rfl⟩
    · refine (aKv ?_ ?_ (fun s hs=>aGe h1 ne hs) ps0).symm
      · rw [List.filter_append,ownl]
        have:oK (o++gM o k.toL) v k=false:=by
          cases c:oK (o++gM o k.toL) v k with
          | false=>rfl
          | true=>exact absurd (ownk c) hL
        rw [List.filter_cons,this];simp
      · refine (aE1 (R:=Rel o (o++gM o k.toL) L) (fun c c' hr=>?_) ih).symm
        obtain ⟨r1,r2,r3,r4,r5⟩:=hr
        by_cases c1:L c.node
        · right
          obtain ⟨s1,s2⟩:=r3 c1
          constructor
          · refine decide_eq_false fun e2=>?_
            have:=(tM (o:=o) (s:=psN c.cond) (v:=v) (by rw [← r4];exact e2) (by omega)).1
            rcases s2 v this with h2 | h2
            · omega
            · exact hL h2
          · refine decide_eq_false fun e2=>?_
            have:=(tM (o:=o++gM o k.toL) (s:=psN c'.cond) (v:=v) (by rw [← r5];exact e2) (by omega)).1
            rcases s1 v this with h2 | h2
            · omega
            · exact hL h2
        · exact .inl (r2 c1)
    · intro u hu
      obtain ⟨y,hy,ht,eu⟩:=aI1.1 hu
      obtain ⟨z,hz,z1,z2⟩:=wK _ [] 0 y hy
      have hz:=hz.resolve_left (by simp)
      have yy:y.a < y.b:=by
        have:=(((ti'.inc hb').join).2.1.lk y hy).2.2.2
        exact this
      have an:=aAU ht yy
      have old:z ∈ l.filter (oK o v)++rI v (eG l o q [])→u=0∨L u:=fun hm =>
        L1 q v r eo hL u (aBL hm (by omega) (by rw [z1,z2,eu];omega))
      rcases List.mem_append.1 hz with hz | hz
      · rw [List.filter_append,ownl] at hz
        rcases List.mem_append.1 hz with hz | hz
        · exact old (List.mem_append_left _ hz)
        · have e2:=(List.mem_filter.1 hz).1
          rw [List.mem_singleton] at e2
          subst e2
          rcases an with ⟨_,a2⟩ | ⟨_,_,a2⟩
          · right;rw [eu,a2,← z2];exact Lb
          · rw [eu,a2,← z1];exact La
      · obtain ⟨c',hc',hu',hz⟩:=uM.1 hz
        obtain ⟨c,hc,r1,r2,r3,r4,r5⟩:=aEd ih c' hc'
        by_cases c1:L c.node
        · obtain ⟨s1,_⟩:=r3 c1
          obtain ⟨_,_,p3,_⟩:=ti'.ps c' hc' (by rw [hu'];simp)
          obtain ⟨m1,m2,_⟩:=p3 z hz
          rw [z1] at m1
          rw [z2] at m2
          rcases an with ⟨_,a2⟩ | ⟨_,_,a2⟩
          · rw [eu,a2];exact s1 _ m2
          · rw [eu,a2];exact s1 _ m1
        · have:=r2 c1
          subst this
          exact old (List.mem_append_right _ (uM.2 ⟨c,hc,hu',hz⟩))
end
end Go.Ev
/- Parents lie on the path. -/
namespace Go.Ev
set_option linter.all false
theorem aCD (l:List QL) (o:List Int):∀ (p q:List Int) (b:List NQ),eG l o (p++q) b=eG l o q (eG l o p b)
  | [],q,b=>rfl
  | v::p,q,b=>by rw [List.cons_append,eG,eG,aCD l o p q]
theorem aDV (l:List QL) (o:List Int):∀ (q:List Int) (b:List NQ),∀ c ∈ b,c ∈ eG l o q b
  | [],b,c,h=>h
  | v::q,b,c,h=>by rw [eG];exact aDV l o q _ c (by simp [h])
theorem aLJ (l:List QL) (o:List Int) (p:List Int) (v:Int) (r:List Int):nxt l o v (eG l o p []) ∈ eG l o (p++v::r) []:=by
  rw [aCD,eG]
  exact aDV l o r _ _ (by simp)
theorem aKX {l:List QL} {o:List Int} (h:Tie l o) {S:Int→Prop} (hS:∀ n ∈ eG l o o [],S n.node→n.up≠0→S n.up) :
    ∀ (m:Nat) (p:List Int) (v:Int) (r:List Int),r.length≤m→o=p++v::r→S v→∀ u ∈ psN (nxt l o v (eG l o p [])).cond,u=0∨S u:=by
  intro m
  induction m with
  | zero =>
    intro p v r hr e sv u hu
    have ti:=TInv.at h.base h.gr p.length p (v::r) rfl e
    have:=(ti.nxt_rem h.base u hu).1
    have r0:r=[]:=List.length_eq_zero_iff.1 (by omega)
    rw [r0] at this
    left;simpa using this
  | succ m ih =>
    intro p v r hr e sv u hu
    by_cases u0:u=0
    · exact .inl u0
    right
    have ti:=TInv.at h.base h.gr p.length p (v::r) rfl e
    have hup:=ti.nxt_up h.base hu u0
    have hin:=aLJ l o p v r
    rw [← e] at hin
    have hv1:∀ w ∈ r,1≤w:=fun w hw=>(h.base.h1 w (by rw [e];simp [hw])).1
    have sw:=hS _ hin sv (by have:=hv1 _ hup;omega)
    obtain ⟨r1,r2,er⟩:=List.append_of_mem hup
    generalize hw:(nxt l o v (eG l o p [])).up=w at hup sw er
    have e2:o=(p++v::r1)++w::r2:=by rw [List.append_assoc,List.cons_append,← er];exact e
    by_cases uw:u=w
    · exact uw ▸ sw
    · have ti2:=TInv.at h.base h.gr (p++v::r1).length (p++v::r1) (w::r2) rfl e2
      have hc:=aLJ l o p v r1
      have:=(ti2.kid_ps h.base hc hw).2 u hu uw
      exact (ih (p++v::r1) w r2 (by rw [er] at hr;simp at hr;omega) e2 sw u this).resolve_left u0
end Go.Ev
/- What an inserted link changes lies in the list. -/
namespace Go.Ev
set_option linter.all false
theorem aIq (t:Tree) (y:Int):∀ (b:List TreeNode) (m:List Int),y ∈ b.foldl (aCT t) m→y ∈ m∨∃ n ∈ b,n.fNode=y∧aIr t n
  | [],m,h=>.inl h
  | n::b,m,h=>by
    rw [List.foldl_cons] at h
    rcases aIq t y b _ h with h1 | ⟨x,hx,e⟩
    · unfold aCT at h1
      split at h1
      · rename_i c
        rcases List.mem_append.1 h1 with h1 | h1
        · exact .inl h1
        · exact .inr ⟨n,by simp,(List.mem_singleton.1 h1).symm,c⟩
      · exact .inl h1
    · exact .inr ⟨x,by simp [hx],e⟩
theorem aKY {t:Tree} (hn:(eA t).Nodup) {n:TreeNode} (h:n ∈ t.fNodes):aIr t n=false:=by
  obtain ⟨k,hk,rfl⟩:=List.getElem_of_mem h
  unfold aIr
  rw [aMx hn hk]
  simp [List.getElem?_eq_getElem hk]
theorem aFM (l:List QL) (o:List Int):∀ (q:List Int) (b:List NQ),∀ c ∈ eG l o q b,c ∈ b∨c.node ∈ q
  | [],b,c,h=>.inl h
  | v::q,b,c,h=>by
    rw [eG] at h
    rcases aFM l o q _ c h with h | h
    · rcases List.mem_append.1 h with h | h
      · exact .inl h
      · rw [List.mem_singleton] at h
        right
        have:c.node=v:=by rw [h];rfl
        rw [this];simp
    · exact .inr (by simp [h])
end Go.Ev
/- What an inserted link changes lies in the list: done. -/
namespace Go.Ev
set_option linter.all false
theorem aIa {l:List QL} {o:List Int} {k:QL} (h:Tie l o) (h':Tie (pX l o++[k]) (o++gM o k.toL)) (hk:LkI k) :
    ∀ y ∈ (cG (pX l o++[k]) (o++gM o k.toL)).fNodes.foldl (aCT (cG l o)) [],y ∈ wZ (cG l o) [k.a,k.b]++gM o k.toL:=by
  have hT:=h.isTree
  have eo:=yW l o
  obtain ⟨hn,u1,um⟩:=aK8 hT
  have hk1:=hk.1
  have inL:∀ u,(u=k.a∨u=k.b)→1≤u→u ∈ wZ (cG l o) [k.a,k.b]++gM o k.toL:=by
    intro u hu h1
    by_cases c:u ∈ o
    · refine List.mem_append_left _ ?_
      unfold wZ
      rw [List.mem_filter,decide_eq_true_eq,eo]
      obtain ⟨_,_,⟨r,e⟩,_⟩:=aCK hT (v:=u) (by rw [eo];exact c)
      exact ⟨c,u,by rcases hu with hu | hu <;> simp [hu],by rw [e];simp⟩
    · exact List.mem_append_right _ (wD.2 ⟨hu,by omega,c⟩)
  have hS:∀ n ∈ eG l o o [],n.node ∈ wZ (cG l o) [k.a,k.b]++gM o k.toL→n.up≠0→n.up ∈ wZ (cG l o) [k.a,k.b]++gM o k.toL:=by
    intro n hn' hL h0
    have nm':n.toN ∈ (cG l o).fNodes:=List.mem_map_of_mem hn'
    have no:n.node ∈ o:=by
      rw [← eo];exact List.mem_map.2 ⟨n.toN,nm',rfl⟩
    rcases List.mem_append.1 hL with hL | hL
    · refine List.mem_append_left _ ?_
      unfold wZ at hL ⊢
      rw [List.mem_filter,decide_eq_true_eq] at hL ⊢
      obtain ⟨_,y,hy,hp⟩:=hL
      obtain ⟨w,hw,ew⟩:=aHJ hp
      have hyo:y ∈ eA (cG l o):=by rw [← ew];exact List.mem_map_of_mem hw
      exact ⟨um _ nm' h0,y,hy,(aCK hT hyo).2.2.2 _ nm' hp h0⟩
    · exact absurd no (wD.1 hL).2.2
  have rel:=aJK (L:=fun u=>u ∈ wZ (cG l o) [k.a,k.b]++gM o k.toL) h h' hk (by
    by_cases c:k.a=0
    · exact .inl c
    · exact .inr (inL _ (.inl rfl) (by omega))) (inL _ (.inr rfl) (by omega)) (fun p v r e sv=>aKX h hS r.length p v r (Nat.le_refl _) e sv) o.length o [] rfl (by simp)
  intro y hy
  rcases aIq _ y _ _ hy with h0 | ⟨n,hnm,e,hc⟩
  · cases h0
  · refine Decidable.byContradiction fun nL=>?_
    obtain ⟨N,hN,rfl⟩:=List.mem_map.1 hnm
    rw [aCD] at hN
    rcases aFM _ _ _ _ _ hN with hN | hN
    · obtain ⟨M,hM,r1,r2,_⟩:=aEd rel N hN
      have eN:N.node=y:=e
      have:M=N:=r2 (by rw [r1,eN];exact nL)
      subst this
      have:=aKY hn (n:=M.toN) (List.mem_map_of_mem hM)
      rw [this] at hc
      cases hc
    · have eN:N.node=y:=e
      rw [eN] at hN
      exact nL (List.mem_append_right _ hN)
end Go.Ev
/- Inserting a link: the program alone. -/
namespace Go.Ev
set_option linter.all false
theorem aOS (t:Tree) (l:Link) (c:jZ t) (d:ValidL l) (h:gI t≤2097152) (hl:bN l≤1048576) :
    nQ t l=some (pkI ((mS (bV t.fNodes++[l]) (eA t++gM (eA t) l)).map fun u=>(u,wZ t [l.fA,l.fB]++gM (eA t) l))):=by
  have e2:=aID t (by omega)
  obtain ⟨v1,v2⟩:=fS l (by omega)
  have h0:=h
  unfold gI jB at h0
  have hn:=fT bH t.fNodes
  have ho:=aA6 t.fNodes
  unfold nQ
  rw [e2,v2]
  simp only [Option.bind_some]
  obtain ⟨a2,a3⟩:=aNK c [l.fA,l.fB] (by simp)
  have o2:=aDJ t (by omega)
  have l2:=aGY t (by omega)
  have hol:(eA t).length≤4194304:=by unfold eA;rw [List.length_map];omega
  have hsz:aF (bV t.fNodes++[l])≤4194304:=by
    rw [aGv]
    have:aF [l]≤1048577:=by unfold aF;rw [lF,aDE];omega
    omega
  have hne:=aHQ (eA t) l
  have hsl:=fT bN (bV t.fNodes)
  have hs0:szL bN (bV t.fNodes)=aF (bV t.fNodes):=rfl
  have hol9:(eA t).length≤2097152:=by unfold eA;rw [List.length_map];omega
  obtain ⟨b1,b2⟩:=aDO (bV t.fNodes++[l]) (eA t++gM (eA t) l) hsz (by rw [List.length_append];omega)
  have nI:=aKy t (by omega) l d (eA t) (wZ t [l.fA,l.fB]) hol (by omega)
  rw [decide_eq_true c,decide_eq_true d]
  simp only [if_true,Option.bind_some,Bool.not_true,Bool.false_eq_true,if_false,o2,a2,nI,l2]
  rw [aN (by omega)]
  simp only [Option.bind_some,aO,b2]
  cases mS (bV t.fNodes++[l]) (eA t++gM (eA t) l) with
  | none=>rfl
  | some u=>rfl
end Go.Ev
/- The law of inserting. -/
namespace Go.Ev
set_option linter.all false
theorem aNa (code:List Int) (_:okL (okI .u8) code):uB code=some true:=by
  unfold uB
  by_cases big:(1048576:Int) < (code.length:Int)
  · rw [if_pos big]
  rw [if_neg big]
  obtain ⟨n,l,o,e1,hl,hn,ht⟩:=aNY code (by omega)
  obtain ⟨k,e2,hk,hk3⟩:=aOa code (by omega)
  have hT:=ht.isTree
  have hz:=ht.tsz
  have h9:=(tT hT).1
  have eo:=yW l o
  have kf:k.fit:=aEP (D:=1) (X:=20) (by omega) (by decide) hk.lk.1 (by omega) (by omega) (by have:=hk.lk.2.2;grind)
  have kv:ValidL k.toL:=(aCB kf).2 ⟨by have:=hk.1;omega,by have:=hk.1;omega,hk.1.2.1,hk.lk.1.sc.1⟩
  have ei:=aOS (cG l o) k.toL hT kv (by omega) (by have:=kv.sz;omega)
  rw [eo] at ei
  have o5:=ht.base.len
  rw [e1];simp only [Option.bind_some]
  rw [e2];simp only [Option.bind_some]
  rw [ei];simp only [Option.bind_some]
  rw [aDJ _ (by omega),eo];simp only [Option.bind_some]
  have jd:((if k.toL.fA=0 then some true else (kM o k.toL.fA).bind fun r5=>(if r5=true then some true else (kM o k.toL.fB).bind fun r6=>some r6)):Option Bool)=some (decide (k.a=0∨k.a ∈ o∨k.b ∈ o)):=by
    have ea:k.toL.fA=k.a:=rfl
    have eb:k.toL.fB=k.b:=rfl
    rw [ea,eb,aGZ o k.a (by omega),aGZ o k.b (by omega)]
    by_cases c1:k.a=0
    · simp [c1]
    · by_cases c2:k.a ∈ o
      · simp [c1,c2]
      · simp [c1,c2]
  rw [jd];simp only [Option.bind_some]
  by_cases J:k.a=0∨k.a ∈ o∨k.b ∈ o
  · obtain ⟨ht',eb⟩:=aJf ht (by have:=hl.len;omega) hk J
    have hT':=ht'.isTree
    have hz':=ht'.tsz
    have h9':=(tT hT').1
    have eo':=yW (pX l o++[k]) (o++gM o k.toL)
    have hch:∀ y ∈ (cG (pX l o++[k]) (o++gM o k.toL)).fNodes.foldl (aCT (cG l o)) [],y ∈ wZ (cG l o) [k.toL.fA,k.toL.fB]++gM o k.toL:=aIa ht ht' hk
    have o5':=ht'.base.len
    have hs':=ht'.sz
    rw [eb,decide_eq_true J]
    simp only [Option.map_some,pkI,if_true]
    rw [aGY _ (by omega)]
    simp only [Option.bind_some,aO]
    have eown:bV (cG l o).fNodes++[k.toL]=(pX l o++[k]).map QL.toL:=by rw [yV,List.map_append];rfl
    have hlen:(bV (cG l o).fNodes).length≤8:=by
      have:=congrArg List.length eown
      have h8:=ht'.len
      simp only [List.length_append,List.length_map,List.length_cons,List.length_nil] at this h8 ⊢
      omega
    rw [aN (by omega)]
    simp only [Option.bind_some]
    rw [aDJ _ (by omega),eo']
    simp only [Option.bind_some]
    have bq:=(aDO (bV (cG l o).fNodes++[k.toL]) (o++gM o k.toL) (by rw [eown];omega) (by omega)).2
    rw [eb] at bq
    rw [bq]
    simp only [Option.bind_some,pkT]
    obtain ⟨cq,cl⟩:=aEV (cG l o) (cG (pX l o++[k]) (o++gM o k.toL)) (by omega) (by omega)
    rw [cq]
    simp only [Option.bind_some]
    have hls:(wZ (cG l o) [k.toL.fA,k.toL.fB]++gM o k.toL).length≤100:=by
      have h1:=(aNK hT [k.toL.fA,k.toL.fB] (by simp)).2
      have h2:=aHQ o k.toL
      rw [List.length_append];omega
    have loop:∀ m j:Nat,m+j=((cG (pX l o++[k]) (o++gM o k.toL)).fNodes.foldl (aCT (cG l o)) []).length→lp (lO ((cG (pX l o++[k]) (o++gM o k.toL)).fNodes.foldl (aCT (cG l o)) []) (cG (pX l o++[k]) (o++gM o k.toL),wZ (cG l o) [k.toL.fA,k.toL.fB]++gM o k.toL,true)) (j:Int)=some (.inl ()):=by
      intro m
      induction m with
      | zero =>
        intro j hj
        exact aJ (by unfold lO;rw [if_neg (by omega)])
      | succ m ih =>
        intro j hj
        have hlt:j < ((cG (pX l o++[k]) (o++gM o k.toL)).fNodes.foldl (aCT (cG l o)) []).length:=by omega
        refine (aT (s':=((j+1:Nat):Int)) ?_).trans (ih (j+1) (by omega))
        unfold lO
        rw [if_pos (by omega),aK hlt]
        simp only [Option.bind_some]
        rw [aGZ _ _ (by omega),decide_eq_true (hch _ (List.getElem_mem hlt))]
        simp only [Option.bind_some,if_true]
        rw [wi (n:=(j:Int)+1) (by omega)];rfl
    have lz:=loop _ 0 (Nat.add_zero _)
    rw [show ((0:Nat):Int)=0 from rfl] at lz
    rw [lz]
    simp only [Option.bind_some,if_true]
    rw [aGB _ _ (by omega)]
    have hbm:k.b ∈ wZ (cG l o) [k.toL.fA,k.toL.fB]++gM o k.toL:=by
      by_cases c:k.b ∈ o
      · obtain ⟨_,_,⟨r,e⟩,_⟩:=aCK hT (v:=k.b) (by rw [eo];exact c)
        refine List.mem_append_left _ ?_
        unfold wZ
        rw [List.mem_filter,decide_eq_true_eq,eo]
        exact ⟨c,k.b,by simp [show k.toL.fB=k.b from rfl],by rw [e];simp⟩
      · exact List.mem_append_right _ (wD.2 ⟨.inr rfl,by have:=hk.1;omega,c⟩)
    have hne:=List.length_pos_of_mem hbm
    simp only [decide_true,Option.bind_some,if_true]
    refine congrArg some (decide_eq_true ?_)
    have:(0:Int) < ((wZ (cG l o) [k.toL.fA,k.toL.fB]++gM o k.toL).length:Int):=by omega
    exact this
  · rw [aKG ht hk (fun h=>J (.inl h)) (fun h=>J (.inr (.inl h))) (fun h=>J (.inr (.inr h))),decide_eq_false J]
    simp [pkI,aID _ (show gI (cG l o)≤4194304 by omega),hT]
end Go.Ev
