/- Parts VE. -/
import Derived.Test.YtachfjpemagdiaaGreatPb4
set_option linter.all false
/- The law of the paths of a tree. -/
namespace Go.Ev
set_option linter.all false
theorem aJn (l:List Int) (n:Int) (h:l.length≤4294967296):qY l n=some (decide (n ∈ l)):=by
  have main:∀ m k:Nat,m+k=l.length→lp (jC l n) (k:Int)=some (if n ∈ l.drop k then .inr true else .inl ()):=by
    intro m
    induction m with
    | zero =>
      intro k hk
      rw [List.drop_eq_nil_of_le (by omega)]
      exact aL (by unfold jC;rw [if_neg (by omega)];rfl)
    | succ m ih =>
      intro k hk
      have hlt:k < l.length:=by omega
      rw [List.drop_eq_getElem_cons hlt]
      by_cases c:l[k]=n
      · rw [aL (r:=.inr true) (by unfold jC;rw [if_pos (by omega),aK hlt];simp [c])]
        rw [if_pos (by simp [c])]
      · have st:jC l n (k:Int)=some (.inl ((k+1:Nat):Int)):=by
          unfold jC
          rw [if_pos (by omega),aK hlt]
          simp only [Option.bind_some,if_neg c]
          rw [wi (n:=(k:Int)+1) (by omega)];rfl
        rw [aU st,ih (k+1) (by omega)]
        have:n ∈ l[k]::l.drop (k+1)↔n ∈ l.drop (k+1):=by
          rw [List.mem_cons]
          exact ⟨fun h=>h.resolve_left (fun e=>c e.symm),.inr⟩
        simp only [this]
  have:=main l.length 0 (by omega)
  rw [show ((0:Nat):Int)=0 from rfl,List.drop_zero] at this
  unfold qY
  rw [this]
  by_cases c:n ∈ l <;> simp [c]
theorem aJb {t:Tree} (hn:(kL t).Nodup) {i j:Nat} (hi:i < t.fNodes.length) (hj:j < t.fNodes.length) (h:(t.fNodes[i]).fNode=(t.fNodes[j]).fNode):i=j:=by
  unfold kL at hn
  have li:i < (t.fNodes.map (·.fNode)).length:=by rw [List.length_map];exact hi
  have lj:j < (t.fNodes.map (·.fNode)).length:=by rw [List.length_map];exact hj
  have:=List.pairwise_iff_getElem.1 hn
  rcases Nat.lt_trichotomy i j with c | c | c
  · exact absurd (by simpa using h) (this i j li lj c)
  · exact c
  · exact absurd (by simpa using h.symm) (this j i lj li c)
theorem aLK {t:Tree} {v:Int} (h:v ∈ kL t):∃ j,atN t v=some j:=by
  cases a:atN t v with
  | some j=>exact ⟨j,rfl⟩
  | none =>
    exfalso
    unfold atN at a
    rw [List.findIdx?_eq_none_iff] at a
    obtain ⟨n,hn,e⟩:=List.mem_map.1 h
    have:=a n hn
    simp [e] at this
theorem aDV {t:Tree} (ht:jZ t):∀ (m k:Nat),k < t.fNodes.length→∀ x ∈ wJ t m k,∃ (i:Nat) (hi:i < t.fNodes.length),k≤i∧(t.fNodes[i]).fNode=x
  | 0,k,_,x,hx=>by cases hx
  | m+1,k,hk,x,hx=>by
    rw [xJ hk] at hx
    rcases List.mem_cons.1 hx with rfl | hx
    · exact ⟨k,hk,Nat.le_refl _,rfl⟩
    · cases e:atN t (t.fNodes[k]).fUp with
      | none=>rw [e] at hx;cases hx
      | some j =>
        rw [e] at hx
        obtain ⟨g1,g2⟩:=(uO ht).2 k hk j e
        obtain ⟨i,hi,h1,h2⟩:=aDV ht m j g2 x hx
        exact ⟨i,hi,by omega,h2⟩
theorem aCG {t:Tree} (ht:jZ t) (hn:(kL t).Nodup):∀ (m k:Nat),k < t.fNodes.length→(wJ t m k).Nodup
  | 0,k,_=>by simp [wJ]
  | m+1,k,hk=>by
    rw [xJ hk]
    cases e:atN t (t.fNodes[k]).fUp with
    | none=>simp
    | some j =>
      obtain ⟨g1,g2⟩:=(uO ht).2 k hk j e
      refine List.nodup_cons.2 ⟨fun h=>?_,aCG ht hn m j g2⟩
      obtain ⟨i,hi,h1,h2⟩:=aDV ht m j g2 _ h
      have:=aJb hn hi hk h2
      omega
theorem aHb {t:Tree} (ht:jZ t) (hn:(kL t).Nodup):∀ (m k:Nat),k < t.fNodes.length→t.fNodes.length≤k+m→∀ (i:Nat) (hi:i < t.fNodes.length) (j:Nat),(t.fNodes[i]).fNode ∈ wJ t m k→atN t (t.fNodes[i]).fUp=some j→∃ hj:j < t.fNodes.length,(t.fNodes[j]).fNode ∈ wJ t m k
  | 0,k,hk,h0,_,_,_,_,_=>by omega
  | m+1,k,hk,hm,i,hi,j,hx,hj=>by
    rw [xJ hk] at hx ⊢
    obtain ⟨q1,q2⟩:=(uO ht).2 i hi j hj
    refine ⟨q2,?_⟩
    rcases List.mem_cons.1 hx with hx | hx
    · have:=aJb hn hi hk hx
      subst this
      rw [hj]
      obtain ⟨m',rfl⟩:∃ m',m=m'+1:=⟨m - 1,by omega⟩
      simp only []
      rw [xJ q2]
      simp
    · cases e:atN t (t.fNodes[k]).fUp with
      | none=>rw [e] at hx;cases hx
      | some w =>
        rw [e] at hx
        obtain ⟨g1,g2⟩:=(uO ht).2 k hk w e
        obtain ⟨h1,h2⟩:=aHb ht hn m w g2 (by omega) i hi j hx hj
        exact List.mem_cons_of_mem _ h2
theorem aJP {t:Tree} (ht:jZ t) {v:Int} (hv:v ∈ kL t):(lN t v).Nodup∧(∀ x ∈ lN t v,x ∈ kL t)∧(∃ r,lN t v=v::r)∧∀ n ∈ t.fNodes,n.fNode ∈ lN t v→n.fUp≠0→n.fUp ∈ lN t v:=by
  obtain ⟨hn,h1,hu⟩:=aKn ht
  obtain ⟨k,e⟩:=aLK hv
  obtain ⟨hk,ek⟩:=aEI e
  have h9:=(uO ht).1
  unfold lN
  rw [e]
  simp only []
  refine ⟨aCG ht hn 9 k hk,fun x hx=>?_,?_,fun n hnm hx h0=>?_⟩
  · obtain ⟨i,hi,_,h2⟩:=aDV ht 9 k hk x hx
    rw [← h2]
    exact List.mem_map_of_mem (List.getElem_mem hi)
  · rw [xJ hk,ek];exact ⟨_,rfl⟩
  · obtain ⟨i,hi,rfl⟩:=List.getElem_of_mem hnm
    obtain ⟨j,ej⟩:=aLK (hu _ hnm h0)
    obtain ⟨hj,h3⟩:=aEI ej
    obtain ⟨_,h4⟩:=aHb ht hn 9 k hk (by omega) i hi j hx ej
    rw [← h3];exact h4
theorem aMW (code:List Int) (_:okL (okI .u8) code):uS code=some true:=by
  unfold uS
  by_cases big:(1048576:Int) < (code.length:Int)
  · rw [if_pos big]
  rw [if_neg big]
  obtain ⟨n,l,o,e1,hl,hn,ht⟩:=aNe code (by omega)
  have hT:=ht.isTree
  have hz:=ht.tsz
  have h9:=(uO hT).1
  have eo:=aDv l o
  rw [e1];simp only [Option.bind_some]
  rw [aI9 _ (by omega),eo];simp only [Option.bind_some]
  have ho:o≠[]:=by
    obtain ⟨x,hx,e⟩:=hl.all 1 (by omega) (by omega)
    intro e2
    have:=(ht.mem 1).2 ⟨by omega,x,hx,.inr e⟩
    rw [e2] at this;cases this
  have hop:0 < o.length:=List.length_pos_iff.2 ho
  have ho5:=ht.base.len
  rw [if_neg (by omega)]
  obtain ⟨k,ek,k0,k1⟩:=aN6 code 1 (by omega) (by omega)
  rw [ek];simp only [Option.bind_some]
  rw [aN (by omega)];simp only [Option.bind_some]
  have m0:=Int.tmod_nonneg (o.length:Int) k0
  have m1:=Int.tmod_lt_of_pos k (show (0:Int) < (o.length:Int) by omega)
  have hi:(k.tmod (o.length:Int)).toNat < o.length:=by omega
  have ei:idx o (k.tmod (o.length:Int))=some o[(k.tmod (o.length:Int)).toNat]:=by
    have:=aK hi
    rw [show (((k.tmod (o.length:Int)).toNat:Nat):Int)=k.tmod (o.length:Int) by omega] at this
    exact this
  rw [ei];simp only [Option.bind_some]
  generalize hvv:o[(k.tmod (o.length:Int)).toNat]=v
  have hv:v ∈ kL (dJ l o):=by rw [eo,← hvv];exact List.getElem_mem hi
  obtain ⟨p1,p2,⟨r,p3⟩,p4⟩:=aJP hT hv
  have p5:=aFu (dJ l o) v
  have eit:=aL2 (dJ l o) (by omega)
  rw [decide_eq_true hT] at eit
  have ep:tV (dJ l o) v=some (lN (dJ l o) v):=by
    unfold tV
    rw [eit]
    simp [aHa hT v]
  obtain ⟨a1,a2⟩:=aOc hT [v] (by simp)
  have ea:mX (dJ l o) [v]=some (aBr (dJ l o) [v]):=by
    unfold mX
    rw [eit]
    simp [a1]
  rw [ep];simp only [Option.bind_some]
  rw [ea];simp only [Option.bind_some]
  have am:∀ x,x ∈ aBr (dJ l o) [v]↔x ∈ lN (dJ l o) v:=by
    intro x
    unfold aBr
    rw [List.mem_filter,decide_eq_true_eq]
    constructor
    · rintro ⟨_,y,hy,hx⟩
      rw [List.mem_singleton] at hy
      rw [← hy];exact hx
    · exact fun hx=>⟨p2 x hx,v,by simp,hx⟩
  have an:(aBr (dJ l o) [v]).Nodup:=by
    unfold aBr
    exact (aKn hT).1.filter _
  have al:=aFw an p1 am
  have hlen:(dJ l o).fNodes.length=o.length:=by
    have:(kL (dJ l o)).length=(dJ l o).fNodes.length:=by unfold kL;rw [List.length_map]
    rw [← this,eo]
  have loop:∀ m j:Nat,m+j=(dJ l o).fNodes.length→lp (jQ (dJ l o) o (aBr (dJ l o) [v])) (j:Int)=some (.inl ()):=by
    intro m
    induction m with
    | zero =>
      intro j hj
      exact aL (by unfold jQ;rw [if_neg (by omega)])
    | succ m ih =>
      intro j hj
      have hlt:j < (dJ l o).fNodes.length:=by omega
      have st:jQ (dJ l o) o (aBr (dJ l o) [v]) (j:Int)=some (.inl ((j+1:Nat):Int)):=by
        unfold jQ
        rw [if_pos (by omega),aK hlt]
        simp only [Option.bind_some]
        rw [if_neg (by omega),aJn _ _ (by omega)]
        simp only [Option.bind_some]
        rw [wi (n:=(j:Int)+1) (by omega)]
        by_cases c:((dJ l o).fNodes[j]).fNode ∈ aBr (dJ l o) [v]
        · rw [decide_eq_true c]
          simp only [if_true]
          by_cases d:0 < ((dJ l o).fNodes[j]).fUp
          · have:=(am _).2 (p4 _ (List.getElem_mem hlt) ((am _).1 c) (by omega))
            rw [if_pos d,aJn _ _ (by omega),decide_eq_true this]
            rfl
          · rw [if_neg d];rfl
        · rw [decide_eq_false c];rfl
      rw [aU st]
      exact ih (j+1) (by omega)
  have lz:=loop (dJ l o).fNodes.length 0 (by omega)
  rw [show ((0:Nat):Int)=0 from rfl] at lz
  rw [lz]
  simp only [Option.bind_some]
  rw [if_pos (by rw [p3];simp only [List.length_cons];omega)]
  have e0:idx (lN (dJ l o) v) 0=some v:=by rw [p3];rfl
  rw [e0]
  simp only [Option.bind_some,if_true]
  rw [decide_eq_true (by omega)]
end Go.Ev
