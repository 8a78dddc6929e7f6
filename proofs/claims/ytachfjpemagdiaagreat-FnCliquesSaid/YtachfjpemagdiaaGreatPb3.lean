/- Parts PR8, PR9, QA, QB, QC, QD, QE, QF, P21, QG, QH, QI, QJ, QK. -/
import Derived.Test.YtachfjpemagdiaaGreatPb2
import Derived.Test.YtachfjpemagdiaaGreatPb1
import Derived.Test.YtachfjpemagdiaaGreatPa1
set_option linter.all false
/- The nodes of a link set, orders of elimination, whose a link is, both programs. -/
namespace Go.Ev
set_option linter.all false
def aDg:List Int:=(List.range 9).map (fun k:Nat=>(k:Int)+1)
theorem aLD {x:Int}:x ∈ aDg↔1≤x∧x≤9:=by
  unfold aDg
  simp only [List.mem_map,List.mem_range]
  constructor
  · rintro ⟨k,h,rfl⟩;omega
  · intro h;exact ⟨(x - 1).toNat,by omega,by omega⟩
theorem aEp:aDg.length=9:=by decide
theorem aLE (k:Nat) (h:k < aDg.length):aDg[k]=(k:Int)+1:=by simp [aDg]
def fO (s:List Link):List Int:=aDg.filter (fun v=>s.any (tch v))
theorem zG (s:List Link):(fO s).Pairwise (· < ·):=by
  have:aDg.Pairwise (· < ·):=by decide
  exact this.sublist List.filter_sublist
theorem zF (s:List Link):(fO s).length≤9:=by
  have:=List.length_filter_le (fun v=>s.any (tch v)) aDg
  rw [aEp] at this;exact this
theorem zE {s:List Link} {x:Int}:x ∈ fO s↔(1≤x∧x≤9)∧∃ l ∈ s,l.fA=x∨l.fB=x:=by
  unfold fO
  rw [List.mem_filter,aLD,List.any_eq_true]
  simp only [tch,decide_eq_true_eq]
def aFm (t:List Int) (l:Link):List Int:=wV (if 0 < l.fA then wV t l.fA else t) l.fB
theorem aHs {t:List Int} (l:Link) (h:t.Pairwise (· < ·)):(aFm t l).Pairwise (· < ·):=by
  unfold aFm;split
  · exact rS _ _ (rS _ _ h)
  · exact rS _ _ h
theorem aLn {t:List Int} {l:Link} {x:Int}:x ∈ aFm t l↔x=l.fB∨(x=l.fA∧0 < x)∨x ∈ t:=by
  unfold aFm;split
  · rw [vY,vY]
    constructor
    · rintro (h | h | h)
      · exact .inl h
      · exact .inr (.inl ⟨h,by omega⟩)
      · exact .inr (.inr h)
    · rintro (h | ⟨h,_⟩ | h)
      · exact .inl h
      · exact .inr (.inl h)
      · exact .inr (.inr h)
  · rw [vY]
    constructor
    · rintro (h | h)
      · exact .inl h
      · exact .inr (.inr h)
    · rintro (h | ⟨h,_⟩ | h)
      · exact .inl h
      · omega
      · exact .inr h
theorem aLo (t:List Int) (l:Link):(aFm t l).length≤t.length+2:=by
  unfold aFm;split
  · have:=vZ (wV t l.fA) l.fB;have:=vZ t l.fA;omega
  · have:=vZ t l.fB;omega
theorem aF3:∀ (s:List Link) (t:List Int) (x:Int),x ∈ s.foldl aFm t↔x ∈ t∨∃ l ∈ s,x=l.fB∨(x=l.fA∧0 < x)
  | [],t,x=>by simp
  | l::s,t,x=>by
    rw [List.foldl_cons,aF3 s,aLn]
    simp only [List.mem_cons,exists_eq_or_imp]
    constructor
    · rintro ((h | h | h) | h)
      · exact .inr (.inl (.inl h))
      · exact .inr (.inl (.inr h))
      · exact .inl h
      · exact .inr (.inr h)
    · rintro (h | (h | h) | h)
      · exact .inl (.inr (.inr h))
      · exact .inl (.inl h)
      · exact .inl (.inr (.inl h))
      · exact .inr h
theorem aCj:∀ (s:List Link) (t:List Int),t.Pairwise (· < ·)→(s.foldl aFm t).Pairwise (· < ·)
  | [],t,h=>h
  | l::s,t,h=>aCj s _ (aHs l h)
theorem aGi {s:List Link} (hs:LSet s):pN s=some (fO s):=by
  have hl:=hs.len
  have:=(lU (step:=nI s) s (fun k t=>(t,(k:Int))) aFm (fun t=>t) (fun k t=>t.length≤2*k) (fun k t hk hi=>by
    constructor
    · unfold nI
      simp only []
      rw [if_pos (by omega),aF hk]
      simp only [Option.bind_some,wi1 (by omega:k≤4294967296)]
      unfold aFm
      by_cases c:0 < (s[k]).fA
      · rw [if_pos c,if_pos c,aHr _ _ (by omega)]
        simp only [Option.bind_some]
        rw [aHr _ _ (by have:=vZ t (s[k]).fA;omega)];rfl
      · rw [if_neg c,if_neg c]
        simp only [Option.bind_some]
        rw [aHr _ _ (by omega)];rfl
    · have:=aLo t s[k];omega) (fun t _=>by unfold nI;simp only [];rw [if_neg (by omega)]) [] (Nat.zero_le _)).1
  rw [show ((0:Nat):Int)=0 from rfl] at this
  unfold pN
  rw [kY s (by have:=hs.sz;omega),decide_eq_true hs]
  simp only [Option.bind_some,if_true,this]
  congr 1
  refine vQ (aCj _ _ List.Pairwise.nil) (zG s) fun x=>?_
  rw [aF3,zE]
  constructor
  · rintro (h | ⟨l,hl,h⟩)
    · cases h
    · have v:=hs.1 l hl
      rcases h with rfl | ⟨rfl,h0⟩
      · exact ⟨⟨by have:=v.2.2.1;have:=v.1.1;omega,v.2.1.2⟩,l,hl,.inr rfl⟩
      · exact ⟨⟨by omega,v.1.2⟩,l,hl,.inl rfl⟩
  · rintro ⟨h1,l,hl,h⟩
    refine .inr ⟨l,hl,?_⟩
    rcases h with h | h
    · exact .inr ⟨h.symm,by omega⟩
    · exact .inl h.symm
theorem aIM {s:List Link} (hs:s.length≤4294967296) (v:Int) (t:List Int) (ht:t.length≤1000):lp (gK s v t) 0=some (if s.any (tch v)=true then t++[v] else t):=by
  have main:∀ m k:Nat,m+k=s.length→lp (gK s v t) (k:Int)=some (if (s.drop k).any (tch v)=true then t++[v] else t):=by
    intro m
    induction m with
    | zero =>
      intro k hk
      have:k=s.length:=by omega
      subst this
      rw [aH (r:=t) (by unfold gK;rw [if_neg (by omega)]),List.drop_length];rfl
    | succ m ih =>
      intro k hk
      have hlt:k < s.length:=by omega
      have e0:((if (s[k]).fA=v then some true else some (decide ((s[k]).fB=v))):Option Bool)=some (tch v s[k]):=by
        unfold tch;by_cases A:(s[k]).fA=v <;> by_cases B:(s[k]).fB=v <;> simp [A,B]
      rw [List.drop_eq_getElem_cons hlt,List.any_cons]
      by_cases c:tch v s[k]=true
      · rw [aH (r:=t++[v]) (by unfold gK;rw [if_pos (by omega),aF hlt];simp only [Option.bind_some,e0,c,if_true];rw [aN (by omega)];rfl)]
        simp [c]
      · have e:gK s v t (k:Int)=some (.inl ((k+1:Nat):Int)):=by
          unfold gK;rw [if_pos (by omega),aF hlt];simp only [Option.bind_some,e0,wi1 (by omega:k≤4294967296)];rw [if_neg c]
        rw [aQ e,ih (k+1) (by omega)]
        simp only [Bool.not_eq_true] at c
        simp [c]
  have:=main s.length 0 (by omega)
  rw [show ((0:Nat):Int)=0 from rfl,List.drop_zero] at this
  exact this
theorem aKn {s:List Link} (hs:s.length≤4294967296):sS s=some (fO s):=by
  have:=(lU (step:=nS s) aDg (fun k t=>((k:Int)+1,t)) (fun t v=>if (fun v=>s.any (tch v)) v=true then t++[v] else t) (fun t=>t) (fun k t=>t.length≤k) (fun k t hk hi=>by
    have hk9:k < 9:=by rw [aEp] at hk;exact hk
    constructor
    · unfold nS
      simp only []
      rw [if_pos (by omega),aIM hs _ _ (by omega),aLE]
      have w:IntKind.i64.wrap ((k:Int)+1+1)=((k+1:Nat):Int)+1:=by rw [wi (by omega)];omega
      simp only [Option.bind_some,w]
    · simp only [];split
      · rw [List.length_append,List.length_singleton];omega
      · omega) (fun t _=>by unfold nS;simp only [];rw [aEp,if_neg (by omega)]) [] (Nat.zero_le _)).1
  rw [show ((0:Nat):Int)+1=1 from rfl,vM,List.nil_append] at this
  unfold sS
  rw [this];rfl
def isOrd (s:List Link) (o:List Int):Prop:=o.Nodup∧(∀ y ∈ o,y ∈ fO s)∧o.length=(fO s).length
instance (s:List Link) (o:List Int):Decidable (isOrd s o):=by unfold isOrd;exact inferInstance
theorem aIH:∀ {a b:List Int},a.Nodup→(∀ x ∈ a,x ∈ b)→b.length≤a.length→b.Perm a
  | [],b,_,_,h=>by
    have:b=[]:=List.eq_nil_of_length_eq_zero (by simpa using h)
    rw [this]
  | x::a,b,hn,hs,h=>by
    rw [List.nodup_cons] at hn
    have hx:=hs x (by simp)
    have p:=List.perm_cons_erase hx
    have hl:=p.length_eq
    rw [List.length_cons] at hl h
    refine p.trans (List.Perm.cons x (aIH hn.2 (fun y hy=>?_) (by omega)))
    have:y≠x:=fun e=>hn.1 (e ▸ hy)
    exact (List.mem_erase_of_ne this).2 (hs y (by simp [hy]))
theorem aKw {l:List Int} (h:l.Pairwise (· < ·)):l.Nodup:=h.imp (fun {a b} hab e=>by subst e;omega)
theorem aF2 (s:List Link) (o:List Int):isOrd s o↔(∀ v ∈ fO s,v ∈ o)∧o.length=(fO s).length:=by
  have hn:=aKw (zG s)
  constructor
  · rintro ⟨h1,h2,h3⟩
    have p:=aIH h1 h2 (by omega)
    exact ⟨fun v hv=>p.mem_iff.1 hv,h3⟩
  · rintro ⟨h1,h2⟩
    have p:=aIH hn h1 (by omega)
    exact ⟨p.nodup_iff.2 hn,fun y hy=>p.mem_iff.1 hy,h2⟩
theorem aEP {s:List Link} {o:List Int} (h:isOrd s o):o.length≤9∧(∀ u ∈ o,1≤u):=by
  have:=zF s
  exact ⟨by rw [h.2.2];exact this,fun u hu=>(zE.1 (h.2.1 u hu)).1.1⟩
theorem aEV {σ:Type} {step:σ→Option (σ ⊕ (Unit ⊕ Bool))} (n:Nat) (E:Nat→σ) (G:Nat→Prop) (h1:∀ k:Nat,k < n→(G k∧step (E k)=some (.inl (E (k+1))))∨(¬G k∧step (E k)=some (.inr (.inr false)))) (h2:step (E n)=some (.inr (.inl ()))) :
    (lp step (E 0)=some (.inl ())∧∀ k,k < n→G k)∨(lp step (E 0)=some (.inr false)∧∃ k,k < n∧¬G k):=by
  have main:∀ m k:Nat,m+k=n→(lp step (E k)=some (.inl ())∧∀ j,k≤j→j < n→G j)∨(lp step (E k)=some (.inr false)∧∃ j,j < n∧¬G j):=by
    intro m
    induction m with
    | zero =>
      intro k hk
      have:k=n:=by omega
      subst this
      exact .inl ⟨aH h2,fun j _ _=>by omega⟩
    | succ m ih =>
      intro k hk
      rcases h1 k (by omega) with ⟨g,e⟩ | ⟨g,e⟩
      · rw [aQ e]
        rcases ih (k+1) (by omega) with ⟨a,b⟩ | ⟨a,b⟩
        · refine .inl ⟨a,fun j h1 h2=>?_⟩
          by_cases e:j=k
          · subst e;exact g
          · exact b j (by omega) h2
        · exact .inr ⟨a,b⟩
      · exact .inr ⟨aH e,k,by omega,g⟩
  rcases main n 0 (by omega) with ⟨a,b⟩ | ⟨a,b⟩
  · exact .inl ⟨a,fun j h=>b j (Nat.zero_le _) h⟩
  · exact .inr ⟨a,b⟩
theorem zB {l:List Int}:l.Nodup↔∀ k (h:k < l.length),l[k] ∉ l.take k:=by
  unfold List.Nodup
  rw [List.pairwise_iff_getElem]
  constructor
  · intro h k hk hm
    obtain ⟨j,hj,e⟩:=List.mem_iff_getElem.1 hm
    rw [List.length_take] at hj
    rw [List.getElem_take] at e
    exact h j k (by omega) hk (by omega) e
  · intro h i j hi hj hij e
    refine h j hj ?_
    rw [← e]
    exact List.mem_iff_getElem.2 ⟨i,by rw [List.length_take];omega,by rw [List.getElem_take]⟩
theorem aJp {s:List Link} (hs:LSet s) (o:List Int) (ho:o.length≤4194304):sG s o=some (decide (isOrd s o)):=by
  have hn:=zF s
  unfold sG
  rw [aGi hs]
  simp only [Option.bind_some]
  have L:=aEV (step:=nK o (fO s)) o.length (fun k=>((k:Int),o.take k)) (fun k=>∀ h:k < o.length,o[k] ∈ fO s∧o[k] ∉ o.take k) (fun k hk=>by
    have tl:(o.take k).length≤k:=by rw [List.length_take];omega
    have tk:o.take (k+1)=o.take k++[o[k]]:=by rw [List.take_add_one,List.getElem?_eq_getElem hk];rfl
    unfold nK
    simp only []
    rw [if_pos (by omega),aF hk]
    simp only [Option.bind_some,aCg (fO s) _ (by omega),aCg (o.take k) _ (by omega),wi1 (by omega:k≤4294967296)]
    by_cases A:o[k] ∈ fO s
    · by_cases B:o[k] ∈ o.take k
      · right
        refine ⟨fun h=>(h hk).2 B,?_⟩
        rw [decide_eq_true A,decide_eq_true B];rfl
      · left
        refine ⟨fun h=>⟨A,B⟩,?_⟩
        rw [decide_eq_true A,decide_eq_false B]
        simp only [if_true,Option.bind_some,Bool.false_eq_true,if_false]
        rw [aN (by omega),tk];rfl
    · right
      refine ⟨fun h=>A (h hk).1,?_⟩
      rw [decide_eq_false A];rfl) (by unfold nK;simp only [];rw [if_neg (by omega)])
  simp only [List.take_zero] at L
  rw [show ((0:Nat):Int)=0 from rfl] at L
  rcases L with ⟨e,g⟩ | ⟨e,k,hk,g⟩
  · rw [e]
    simp only [Option.bind_some]
    rw [kY s (by have:=hs.sz;omega),decide_eq_true hs]
    simp only [Option.bind_some,if_true]
    congr 1
    rw [Bool.eq_iff_iff,decide_eq_true_iff,decide_eq_true_iff]
    constructor
    · intro h
      refine ⟨zB.2 (fun k hk=>(g k hk hk).2),fun y hy=>?_,by omega⟩
      obtain ⟨j,hj,rfl⟩:=List.mem_iff_getElem.1 hy
      exact (g j hj hj).1
    · intro h;rw [h.2.2]
  · rw [e]
    have:¬isOrd s o:=fun h=>g (fun hk=>⟨h.2.1 _ (List.getElem_mem hk),zB.1 h.1 k hk⟩)
    rw [decide_eq_false this];rfl
theorem aHc (s:List Link) (h:aG s≤4294967296):mD s=some (decide (LSet s)):=by
  rw [← kY s h]
  unfold mD dF
  have:lp (oI s) 0=lp (eO s) 0:=by
    refine aLL (fun _=>True) (fun v _=>⟨?_,fun _ _=>trivial⟩) _ trivial
    unfold oI eO
    cases e:idx s v with
    | none=>rfl
    | some y =>
      have hy:y ∈ s:=List.mem_of_getElem? (aDB e).2.1
      have hz:=kH (w:=bP) hy
      unfold aG at h
      have q:=hC y (by omega)
      simp only [Option.bind_some,q.1,q.2,aIn,aFh]
  rw [this]
theorem aJq {s:List Link} (hs:LSet s) (o:List Int) (ho:o.length≤4194304):sW s o=some (decide (isOrd s o)):=by
  have hn:=zF s
  unfold sW
  have il:mD s=some true:=by rw [aHc s (by have:=hs.sz;omega),decide_eq_true hs]
  rw [il,aKn (by have:=hs.len;omega)]
  simp only [Option.bind_some,if_true]
  have L:=aEV (step:=nW o (fO s)) (fO s).length (fun k=>(k:Int)) (fun k=>∀ h:k < (fO s).length,(fO s)[k] ∈ o) (fun k hk=>by
    unfold nW
    rw [if_pos (by omega),aF hk]
    simp only [Option.bind_some,wJ o _ (by omega),wi1 (by omega:k≤4294967296)]
    by_cases A:(fO s)[k] ∈ o
    · exact .inl ⟨fun _=>A,by rw [decide_eq_true A];rfl⟩
    · exact .inr ⟨fun h=>A (h hk),by rw [decide_eq_false A];rfl⟩) (by unfold nW;rw [if_neg (by omega)])
  rw [show ((0:Nat):Int)=0 from rfl] at L
  rcases L with ⟨e,g⟩ | ⟨e,k,hk,g⟩
  · rw [e]
    simp only [Option.bind_some]
    congr 1
    rw [Bool.eq_iff_iff,decide_eq_true_iff,decide_eq_true_iff,aF2]
    constructor
    · intro h
      refine ⟨fun v hv=>?_,by omega⟩
      obtain ⟨j,hj,rfl⟩:=List.mem_iff_getElem.1 hv
      exact g j hj hj
    · intro h;rw [h.2]
  · rw [e]
    have:¬isOrd s o:=fun h=>g (fun hk=>((aF2 s o).1 h).1 _ (List.getElem_mem hk))
    rw [decide_eq_false this];rfl
def oV (o:List Int) (v:Int) (l:Link):Bool:=decide (aY o [l.fA,l.fB]=v)
theorem aMP (o:List Int) (l:Link) (h:o.length≤4294967296):qG o l=some (aY o [l.fA,l.fB]):=by
  unfold qG
  rw [aJY _ _ h (by simp)];rfl
theorem aF5 {o s:List Int} {v:Int} (h:aY o s=v) (hv:v≠0):v ∈ s∧v ∈ o:=by
  unfold aY at h
  cases e:o.find? (fun u=>decide (u ∈ s)) with
  | none=>rw [e] at h;exact absurd h.symm hv
  | some x =>
    rw [e] at h
    simp only [Option.getD_some] at h
    subst h
    exact ⟨by simpa using List.find?_some e,List.mem_of_find?_eq_some e⟩
theorem aI0 {o s:List Int} {k:Nat} (hk:k < o.length) (hn:o.Nodup) (h1:∀ u ∈ o,1≤u):aY o s=o[k]↔o[k] ∈ s∧∀ u ∈ o.take k,u ∉ s:=by
  have ef:o.find? (fun u=>decide (u ∈ s))=((o.take k).find? (fun u=>decide (u ∈ s))).or ((o[k]::o.drop (k+1)).find? (fun u=>decide (u ∈ s))):=by
    rw [← List.find?_append,← List.drop_eq_getElem_cons hk,List.take_append_drop]
  have hnt:=zB.1 hn k hk
  constructor
  · intro h
    have hp:=h1 _ (List.getElem_mem hk)
    refine ⟨(aF5 h (by omega)).1,fun u hu hus=>?_⟩
    unfold aY at h
    rw [ef] at h
    cases f:(o.take k).find? (fun u=>decide (u ∈ s)) with
    | none =>
      rw [List.find?_eq_none] at f
      exact f u hu (by simpa using hus)
    | some x =>
      have hx:=List.mem_of_find?_eq_some f
      rw [f] at h
      simp only [Option.some_or,Option.getD_some] at h
      rw [h] at hx
      exact hnt hx
  · rintro ⟨a,b⟩
    unfold aY
    rw [ef]
    have:(o.take k).find? (fun u=>decide (u ∈ s))=none:=by
      rw [List.find?_eq_none];intro u hu;simpa using b u hu
    rw [this,Option.none_or,List.find?_cons]
    simp [a]
end Go.Ev
/- Building a tree, both programs, and the law. -/
namespace Go.Ev
set_option linter.all false
theorem zQ (c:Conditional) (h:aS c≤4294967296):iF c=some c:=by
  have hp:=iL iX c.fParents
  unfold aS mI at h
  unfold iF
  rw [iD _ (by omega)]
  simp only [Option.bind_some]
  have:=yM (step:=fT c) c.fParents (fun k t=>((k:Int),t)) (fun t=>t) (fun k t hk ht=>by
    have he:=kH (w:=iX) (List.getElem_mem hk)
    have hn:iX c.fParents[k]=bG (c.fParents[k]).fShare+bG (c.fParents[k]).fDX+bG (c.fParents[k]).fDY:=rfl
    unfold fT
    simp only []
    rw [if_pos (by omega),aF hk]
    simp only [Option.bind_some]
    rw [iD _ (by omega)]
    simp only [Option.bind_some]
    rw [iD _ (by omega)]
    simp only [Option.bind_some]
    rw [iD _ (by omega)]
    simp only [Option.bind_some]
    rw [aN (by omega),wi (by omega)];rfl) (fun t ht=>by unfold fT;simp only [];rw [if_neg (by omega)])
  rw [show ((0:Nat):Int)=0 from rfl] at this
  rw [this];rfl
theorem aKk (s:List Link) (o:List Int) (v:Int) (hs:s.length≤4194304) (ho:o.length≤4194304):lp (iN s o v) (0,[])=some (s.filter (oV o v)):=by
  have:=(lU (step:=iN s o v) s (fun k t=>((k:Int),t)) (fun t x=>if oV o v x=true then t++[x] else t) (fun t=>t) (fun k t=>t.length≤k) (fun k t hk hi=>by
    constructor
    · unfold iN
      simp only []
      rw [if_pos (by omega),aF hk]
      simp only [Option.bind_some,aMP o _ (by omega:o.length≤4294967296),wi1 (by omega:k≤4294967296)]
      by_cases c:aY o [(s[k]).fA,(s[k]).fB]=v
      · rw [if_pos c,if_pos (by unfold oV;simpa using c),aN (by omega)];rfl
      · rw [if_neg c,if_neg (by unfold oV;simpa using c)]
    · split
      · rw [List.length_append,List.length_singleton];omega
      · omega) (fun t _=>by unfold iN;simp only [];rw [if_neg (by omega)]) [] (Nat.zero_le _)).1
  rw [show ((0:Nat):Int)=0 from rfl,vM,List.nil_append] at this
  exact this
theorem aK1 (o:List Int) (k:Nat) (hk:k≤o.length):sub o 0 (k:Int)=some (o.take k):=by
  rw [qZ _ _ _ (by omega)];simp
theorem aLu (o:List Int) (hn:o.Nodup) (h1:∀ u ∈ o,1≤u) (ho:o.length≤4194304) (k:Nat) (hk:k < o.length) (l:Link) (hl:l.fA < l.fB) :
    ((if l.fA=o[k] then (sub o 0 (k:Int)).bind fun y57=>(eW y57 l.fB).bind fun r58=>(if r58=true then (if l.fB=o[k] then (sub o 0 (k:Int)).bind fun y59=>(eW y59 l.fA).bind fun r60=>some (!r60) else some false) else some true) else (if l.fB=o[k] then (sub o 0 (k:Int)).bind fun y61=>(eW y61 l.fA).bind fun r62=>some (!r62) else some false)):Option Bool)=some (oV o o[k] l):=by
  have tl:(o.take k).length≤4294967296:=by rw [List.length_take];omega
  have hnt:=zB.1 hn k hk
  have ft:=aI0 (s:=[l.fA,l.fB]) hk hn h1
  rw [aK1 o k (by omega)]
  simp only [Option.bind_some,wJ _ _ tl]
  unfold oV
  by_cases A:l.fA=o[k]
  · have B:¬l.fB=o[k]:=by omega
    rw [if_pos A,if_neg B]
    by_cases C:l.fB ∈ o.take k
    · rw [decide_eq_true C,if_pos rfl]
      have:¬aY o [l.fA,l.fB]=o[k]:=fun h=>(ft.1 h).2 _ C (by simp)
      rw [decide_eq_false this]
    · rw [decide_eq_false C]
      have:aY o [l.fA,l.fB]=o[k]:=ft.2 ⟨by simp [A],fun u hu hs=>by
        rcases List.mem_cons.1 hs with rfl | hs
        · exact hnt (A ▸ hu)
        · rw [List.mem_singleton.1 hs] at hu;exact C hu⟩
      rw [decide_eq_true this];rfl
  · rw [if_neg A]
    by_cases B:l.fB=o[k]
    · rw [if_pos B]
      by_cases C:l.fA ∈ o.take k
      · have:¬aY o [l.fA,l.fB]=o[k]:=fun h=>(ft.1 h).2 _ C (by simp)
        rw [decide_eq_true C,decide_eq_false this];rfl
      · have:aY o [l.fA,l.fB]=o[k]:=ft.2 ⟨by simp [B],fun u hu hs=>by
          rcases List.mem_cons.1 hs with rfl | hs
          · exact C hu
          · rw [List.mem_singleton.1 hs] at hu;exact hnt (B ▸ hu)⟩
        rw [decide_eq_false C,decide_eq_true this];rfl
    · rw [if_neg B]
      have:¬aY o [l.fA,l.fB]=o[k]:=fun h=>by
        have:=(ft.1 h).1
        simp only [List.mem_cons,List.not_mem_nil,or_false] at this
        rcases this with e | e
        · exact A e.symm
        · exact B e.symm
      rw [decide_eq_false this]
theorem aKl (s:List Link) (o:List Int) (hs:s.length≤4194304) (ho:o.length≤4194304) (hv:∀ x ∈ s,ValidL x) (hn:o.Nodup) (h1:∀ u ∈ o,1≤u) (i:Nat) (hi:i < o.length):lp (iS s o o[i] (i:Int)) (0,[])=some (s.filter (oV o o[i])):=by
  have:=(lU (step:=iS s o o[i] (i:Int)) s (fun k t=>((k:Int),t)) (fun t x=>if oV o o[i] x=true then t++[x] else t) (fun t=>t) (fun k t=>t.length≤k) (fun k t hk hj=>by
    constructor
    · unfold iS
      simp only []
      rw [if_pos (by omega),aF hk]
      have oc:=aLu o hn h1 ho i hi s[k] (hv _ (List.getElem_mem hk)).2.2.1
      simp only [Option.bind_some,wi1 (by omega:k≤4294967296)]
      rw [oc]
      simp only [Option.bind_some]
      by_cases c:oV o o[i] s[k]=true
      · rw [if_pos c,if_pos c,aN (by omega)];rfl
      · rw [if_neg c,if_neg c]
    · split
      · rw [List.length_append,List.length_singleton];omega
      · omega) (fun t _=>by unfold iS;simp only [];rw [if_neg (by omega)]) [] (Nat.zero_le _)).1
  rw [show ((0:Nat):Int)=0 from rfl,vM,List.nil_append] at this
  exact this
noncomputable def uC (s:List Link) (o:List Int):List Int→List TreeNode→Option (List TreeNode)
  | [],b=>some b
  | v::r,b=>(qM o v (s.filter (oV o v)) b).bind fun n=>uC s o r (b++[n])
noncomputable def wN (s:List Link) (o:List Int):Option Tree :=
  (jnP s).bind fun x=>if isOrd x.1 o then (uC s o o []).map Tree.mk else none
def pkT:Option Tree→Tree × Bool
  | some t=>(t,true)
  | none=>(Tree.mk [],false)
def aNR:Option (List TreeNode)→(List TreeNode) ⊕ (Tree × Bool)
  | some b=>.inl b
  | none=>.inr (Tree.mk [],false)
def NodeOk (s:List Link) (o:List Int) (n:TreeNode):Prop:=LSet n.fMessages∧n.fOwn=s.filter (oV o n.fNode)∧aS n.fCond≤20000∧bJ n.fEnergy∧n.fUp=upP o n.fCond
theorem yV (p:Link→Bool):∀ s:List Link,aG (s.filter p)≤aG s
  | []=>Nat.le_refl _
  | x::s=>by
    have:=yV p s
    unfold aG at this ⊢
    rw [List.filter_cons,jP]
    split
    · rw [jP];omega
    · omega
theorem aIN {s:List Link} {o:List Int} {v:Int} {b:List TreeNode} {n:TreeNode} (h:qM o v (s.filter (oV o v)) b=some n):NodeOk s o n∧n.fNode=v:=by
  obtain ⟨h1,h2,h3,h4,h5,h6⟩:=aEo h
  exact ⟨⟨h1,by rw [h5];exact h2,h3,h4,h6⟩,h5⟩
theorem aAn {s:List Link} {o:List Int}:∀ (r:List Int) (b b':List TreeNode),(∀ n ∈ b,NodeOk s o n)→uC s o r b=some b'→(∀ n ∈ b',NodeOk s o n)∧b'.map (·.fNode)=b.map (·.fNode)++r
  | [],b,b',h,e=>by cases e;exact ⟨h,by simp⟩
  | v::r,b,b',h,e=>by
    rw [uC] at e
    cases h1:qM o v (s.filter (oV o v)) b with
    | none=>rw [h1] at e;cases e
    | some n =>
      rw [h1,Option.bind_some] at e
      obtain ⟨g1,g2⟩:=aIN h1
      obtain ⟨k1,k2⟩:=aAn r (b++[n]) b' (fun m hm=>by
        rcases List.mem_append.1 hm with hm | hm
        · exact h m hm
        · rw [List.mem_singleton.1 hm];exact g1) e
      exact ⟨k1,by rw [k2,List.map_append,List.append_assoc];simp [g2]⟩
theorem aIs (s:List Link) (o:List Int) (hz:aG s≤4194304) (hv:∀ x ∈ s,ValidL x) (ho:o.length≤9) (h1:∀ u ∈ o,1≤u):∀ m k:Nat,m+k=o.length→∀ b:List TreeNode,b.length=k→(∀ n ∈ b,LSet n.fMessages)→lp (iM s o) ((k:Int),b)=some (aNR (uC s o (o.drop k) b)):=by
  have hl:s.length≤4194304:=Nat.le_trans (iL _ _) hz
  intro m
  induction m with
  | zero =>
    intro k hk b hb hm
    rw [List.drop_eq_nil_of_le (by omega)]
    exact aH (by unfold iM;simp only [];rw [if_neg (by omega)];rfl)
  | succ m ih =>
    intro k hk b hb hm
    have hlt:k < o.length:=by omega
    rw [List.drop_eq_getElem_cons hlt,uC]
    have nq:=(aLB (v:=o[k]) (own:=s.filter (oV o o[k])) (b:=b) (by omega:o.length≤4194304) h1 (Nat.le_trans (yV _ s) hz) (by omega) hm (fun x hx=>hv x (List.mem_filter.1 hx).1)).1
    have st:iM s o ((k:Int),b)=some (match qM o o[k] (s.filter (oV o o[k])) b with | some n=>.inl (((k+1:Nat):Int),b++[n]) | none=>.inr (.inr (Tree.mk [],false))):=by
      unfold iM
      simp only []
      rw [if_pos (by omega),aF hlt]
      simp only [Option.bind_some,aKk s o o[k] hl (by omega),nq,wi1 (by omega:k≤4294967296)]
      cases qM o o[k] (s.filter (oV o o[k])) b with
      | none=>rfl
      | some n=>simp only [pkN,if_true];rw [aN (by omega)];rfl
    cases h:qM o o[k] (s.filter (oV o o[k])) b with
    | none=>rw [h] at st;rw [aH st];rfl
    | some n =>
      rw [h] at st
      rw [aQ st,Option.bind_some]
      exact ih (k+1) (by omega) _ (by simp [hb]) (fun x hx=>by
        rcases List.mem_append.1 hx with hx | hx
        · exact hm x hx
        · rw [List.mem_singleton.1 hx];exact (aEo h).1)
theorem aIt (s:List Link) (o:List Int) (hz:aG s≤4194304) (hv:∀ x ∈ s,ValidL x) (ho:o.length≤9) (hn:o.Nodup) (h1:∀ u ∈ o,1≤u):∀ m k:Nat,m+k=o.length→∀ b:List TreeNode,b.length=k→(∀ n ∈ b,LSet n.fMessages)→lp (iR s o) ((k:Int),b)=some (aNR (uC s o (o.drop k) b)):=by
  have hl:s.length≤4194304:=Nat.le_trans (iL _ _) hz
  intro m
  induction m with
  | zero =>
    intro k hk b hb hm
    rw [List.drop_eq_nil_of_le (by omega)]
    exact aH (by unfold iR;simp only [];rw [if_neg (by omega)];rfl)
  | succ m ih =>
    intro k hk b hb hm
    have hlt:k < o.length:=by omega
    rw [List.drop_eq_getElem_cons hlt,uC]
    have nq:=(aLB (v:=o[k]) (own:=s.filter (oV o o[k])) (b:=b) (by omega:o.length≤4194304) h1 (Nat.le_trans (yV _ s) hz) (by omega) hm (fun x hx=>hv x (List.mem_filter.1 hx).1)).2
    have st:iR s o ((k:Int),b)=some (match qM o o[k] (s.filter (oV o o[k])) b with | some n=>.inl (((k+1:Nat):Int),b++[n]) | none=>.inr (.inr (Tree.mk [],false))):=by
      unfold iR
      simp only []
      rw [if_pos (by omega),aF hlt]
      simp only [Option.bind_some,aKl s o hl (by omega) hv hn h1 k hlt,nq,wi1 (by omega:k≤4294967296)]
      cases qM o o[k] (s.filter (oV o o[k])) b with
      | none=>rfl
      | some n=>simp only [pkN,if_true];rw [aN (by omega)];rfl
    cases h:qM o o[k] (s.filter (oV o o[k])) b with
    | none=>rw [h] at st;rw [aH st];rfl
    | some n =>
      rw [h] at st
      rw [aQ st,Option.bind_some]
      exact ih (k+1) (by omega) _ (by simp [hb]) (fun x hx=>by
        rcases List.mem_append.1 hx with hx | hx
        · exact hm x hx
        · rw [List.mem_singleton.1 hx];exact (aEo h).1)
theorem NodeOk.sz {s:List Link} {o:List Int} {n:TreeNode} (h:NodeOk s o n) (hz:aG s≤4194304):bN n≤4300000:=by
  have h1:=h.1.sz
  have h2:aG n.fOwn≤4194304:=by rw [h.2.1];exact Nat.le_trans (yV _ s) hz
  have h3:=oJ (.inl h.2.2.2.1)
  have h4:=h.2.2.1
  unfold bN;omega
theorem aI8 (n:TreeNode) (h:bN n≤4294967296):kT n=some n:=by
  unfold bN at h
  unfold kT
  rw [pU _ (by omega),zQ _ (by omega)]
  simp only [Option.bind_some]
  rw [pU _ (by omega),iD _ (by omega)]
  rfl
theorem aI7 (t:Tree) (h:nD t≤4294967296):qS t=some t:=by
  unfold nD nZ at h
  have hl:=iL bN t.fNodes
  unfold qS
  have:=yM (step:=mA t) t.fNodes (fun k t=>((k:Int),t)) (fun t=>t) (fun k u hk hu=>by
    have he:=kH (w:=bN) (List.getElem_mem hk)
    unfold mA
    simp only []
    rw [if_pos (by omega),aF hk]
    simp only [Option.bind_some]
    rw [aI8 _ (by omega)]
    simp only [Option.bind_some]
    rw [aN (by omega),wi1 (by omega)];rfl) (fun t ht=>by unfold mA;simp only [];rw [if_neg (by omega)])
  rw [show ((0:Nat):Int)=0 from rfl] at this
  rw [this];rfl
theorem aMF {s:List Link} {o:List Int} {b:List TreeNode} (hz:aG s≤4194304) (ho:o.length≤9) (h:uC s o o []=some b):nD ⟨b⟩≤38700018:=by
  obtain ⟨h1,h2⟩:=aAn o [] b (by simp) h
  have hl:b.length=o.length:=by have:=congrArg List.length h2;simpa using this
  have:nZ b≤(4300000+1)*b.length:=aCx (fun n hn=>(h1 n hn).sz hz)
  unfold nD
  have:(4300000+1)*b.length≤4300001*9:=Nat.mul_le_mul (Nat.le_refl _) (by omega)
  simp only []
  omega
theorem aKb (s:List Link) (o:List Int) (hz:aG s≤4194304) (ho:o.length≤4194304):oU s o=some (pkT (wN s o))∧pK s o=some (pkT (wN s o)):=by
  obtain ⟨j1,j2⟩:=xK s (by omega)
  unfold oU pK wN
  rw [j1,j2]
  cases h:jnP s with
  | none=>exact ⟨rfl,rfl⟩
  | some x =>
    obtain ⟨u,e⟩:=x
    obtain ⟨hv,hs,he⟩:=aBG h
    simp only [pk,Option.bind_some,if_true]
    rw [aJp hs o ho,aJq hs o ho]
    by_cases c:isOrd u o
    · obtain ⟨l9,h1⟩:=aEP c
      have q1:=aIs s o hz hv l9 h1 o.length 0 (by omega) [] rfl (by simp)
      have q2:=aIt s o hz hv l9 c.1 h1 o.length 0 (by omega) [] rfl (by simp)
      rw [show ((0:Nat):Int)=0 from rfl,List.drop_zero] at q1 q2
      rw [decide_eq_true c,if_pos c]
      simp only [Option.bind_some,Bool.not_true,Bool.false_eq_true,if_false,q1,q2]
      cases g:uC s o o [] with
      | none=>exact ⟨rfl,rfl⟩
      | some b =>
        simp only [aNR]
        rw [aI7 ⟨b⟩ (by have:=aMF hz l9 g;omega)]
        exact ⟨rfl,rfl⟩
    · rw [decide_eq_false c,if_neg c]
      exact ⟨rfl,rfl⟩
end Go.Ev
/- Fractions as rational numbers. -/
namespace Go.Ev
set_option linter.all false
abbrev Q:=_root_.Rat
def ofQ (q:Q):Rat:=⟨big q.num,aA q.den⟩
def dA (q:Q):Prop:=bl q.num≤24∧(aA q.den).length≤24
instance (q:Q):Decidable (dA q):=by unfold dA;infer_instance
def aEn (q:Q):Rat:=if dA q then ofQ q else nC
theorem aAY {q:Q} (h:dA q):aEn q=ofQ q:=if_pos h
theorem uV {q:Q} (h:dA q):bJ (ofQ q):=by
  obtain ⟨h1,h2⟩:=h
  refine ⟨⟨zI (by unfold bl at h1;omega),fun hn=>?_⟩,zI (by omega),cZ q.den_nz,h2,h1,?_⟩
  · have:q.num < 0:=of_decide_eq_true hn
    exact cZ (by omega)
  · show Nat.gcd (val (aA q.num.natAbs)) (val (aA q.den))=1
    rw [cK,cK];exact q.reduced
theorem uU {q:Q} (h:dA q):VZ (ofQ q):=.inl (uV h)
theorem aJI (z:Int) {d:Nat} (hd:0 < d):mkR (decide (z < 0)) z.natAbs d=aEn (mkRat z d):=by
  have hn:=_root_.Rat.num_mkRat z d
  have hden:=_root_.Rat.den_mkRat z d
  rw [if_neg (by omega)] at hn hden
  have hg:Nat.gcd d z.natAbs=Nat.gcd z.natAbs d:=Nat.gcd_comm _ _
  rw [hg] at hn hden
  generalize hgg:Nat.gcd z.natAbs d=g at hn hden
  have hgp:0 < g:=by rw [← hgg];exact Nat.gcd_pos_of_pos_right _ hd
  have hdv:g ∣ z.natAbs:=by rw [← hgg];exact Nat.gcd_dvd_left _ _
  obtain ⟨k,hk⟩:=hdv
  have hxk:z.natAbs / g=k:=by rw [hk,Nat.mul_div_cancel_left _ hgp]
  have hnk:(mkRat z d).num.natAbs=k∧(((mkRat z d).num < 0)↔(z < 0∧k≠0)):=by
    rcases Int.natAbs_eq z with e | e
    · have:(mkRat z d).num=(k:Int):=by
        rw [hn,e,hk];simp [Int.natCast_mul]
        rw [Int.mul_ediv_cancel_left _ (by omega)]
      rw [this];exact ⟨by simp,by constructor <;> intro h <;> omega⟩
    · have:(mkRat z d).num=-(k:Int):=by
        rw [hn,e,hk,Int.natCast_mul,← Int.mul_neg,Int.mul_ediv_cancel_left _ (by omega)]
      rw [this]
      refine ⟨by simp,?_⟩
      constructor
      · intro h
        refine ⟨?_,by omega⟩
        rcases Nat.eq_zero_or_pos k with h0 | h0
        · omega
        · have:=Nat.mul_pos hgp h0
          omega
      · rintro ⟨_,h⟩;omega
  have hf:dA (mkRat z d)↔((aA k).length≤24∧(aA (d / g)).length≤24):=by unfold dA bl;rw [hnk.1,hden]
  unfold mkR aEn
  rw [if_neg (by omega),hgg,hxk]
  by_cases c:(aA k).length≤24∧(aA (d / g)).length≤24
  · rw [if_neg (by omega),if_pos (hf.2 c)]
    unfold ofQ big
    rw [hnk.1,hden]
    congr 2
    rw [← Bool.decide_and]
    exact decide_eq_decide.2 hnk.2.symm
  · rw [if_pos (by omega),if_neg (fun h=>c (hf.1 h))]
theorem mZ {q:Q} (h:dA q):0 < q.den∧bl q.num≤24∧(aA q.den).length≤24:=⟨Nat.pos_of_ne_zero q.den_nz,h.1,h.2⟩
theorem aPs {p q:Q} (hp:dA p) (hq:dA q):RA (ofQ p) (ofQ q)=aEn (p+q):=by
  have h:=(aAO (uU hp) (uU hq)).2.1
  obtain ⟨a1,a2,a3⟩:=mZ hp
  obtain ⟨b1,b2,b3⟩:=mZ hq
  have e:cC (ofQ p) (ofQ q)=some (aEn (p+q)):=by
    unfold ofQ
    rw [aBW _ _ _ _ a1 b1 a2 a3 b2 b3]
    unfold aIh
    rw [aJI _ (Nat.mul_pos a1 b1),_root_.Rat.add_def']
  rw [e] at h;exact (Option.some.inj h).symm
theorem aPp {p q:Q} (hp:dA p) (hq:dA q):RM (ofQ p) (ofQ q)=aEn (p*q):=by
  have h:=(aDE (uU hp) (uU hq)).2.1
  obtain ⟨a1,a2,a3⟩:=mZ hp
  obtain ⟨b1,b2,b3⟩:=mZ hq
  have e:cM (ofQ p) (ofQ q)=some (aEn (p*q)):=by
    unfold ofQ
    rw [aHp _ _ _ _ a1 b1 a2 a3 b2 b3]
    unfold aMR
    rw [_root_.Rat.mul_def',← aJI _ (Nat.mul_pos a1 b1),Int.natAbs_mul]
    congr 1
    refine aDK fun hx=>?_
    have q':=aDG p.num q.num
    rw [decide_eq_true hx,Bool.and_true] at q'
    exact q'
  rw [e] at h;exact (Option.some.inj h).symm
theorem aPq {p q:Q} (hp:dA p) (hq:dA q) (h0:q≠0):RD (ofQ p) (ofQ q)=aEn (p / q):=by
  have h:=(aFe (uU hp) (uU hq)).2.1
  obtain ⟨a1,a2,a3⟩:=mZ hp
  obtain ⟨b1,b2,b3⟩:=mZ hq
  have hn:q.num≠0:=fun e=>h0 (_root_.Rat.num_eq_zero.1 e)
  have e:eU (ofQ p) (ofQ q)=some (aEn (p / q)):=by
    unfold ofQ
    rw [aHq _ _ _ _ a1 b1 a2 a3 b2 b3]
    unfold aN5
    have key:p / q=mkRat (p.num*q.num.sign*q.den) (p.den*q.num.natAbs):=by
      rw [_root_.Rat.div_def]
      conv=>lhs;rw [_root_.Rat.mul_def']
      rw [_root_.Rat.num_inv,_root_.Rat.den_inv,if_neg hn,← Int.mul_assoc]
    rw [key,← aJI _ (Nat.mul_pos a1 (by omega))]
    have hs:q.num.sign.natAbs=1:=by rw [Int.natAbs_sign];simp [hn]
    have e1:(p.num*q.num.sign*q.den).natAbs=p.num.natAbs*q.den:=by
      rw [Int.natAbs_mul,Int.natAbs_mul,hs,Nat.mul_one,Int.natAbs_natCast]
    rw [e1]
    congr 1
    refine aDK fun hx=>?_
    have hp0:p.num≠0:=by rintro e;rw [e] at hx;simp at hx
    have hd0:(0:Int) < (q.den:Int):=by omega
    have:(p.num*q.num.sign*(q.den:Int) < 0)↔(p.num*q.num.sign < 0):=by
      constructor
      · intro hh
        rcases Int.lt_or_le (p.num*q.num.sign) 0 with h1 | h1
        · exact h1
        · have:=Int.mul_nonneg h1 (Int.le_of_lt hd0);omega
      · intro hh;exact Int.mul_neg_of_neg_of_pos hh hd0
    rw [show decide (p.num*q.num.sign*(q.den:Int) < 0)=decide (p.num*q.num.sign < 0) from decide_eq_decide.2 this]
    rcases Int.lt_or_gt_of_ne hn with c | c
    · rw [show decide (p.num*q.num.sign < 0)=decide (p.num*-1 < 0) by rw [Int.sign_eq_neg_one_of_neg c]]
      by_cases cp:p.num < 0 <;> simp [c,cp] <;> omega
    · rw [show decide (p.num*q.num.sign < 0)=decide (p.num*1 < 0) by rw [Int.sign_eq_one_of_pos c]]
      have:¬q.num < 0:=by omega
      by_cases cp:p.num < 0 <;> simp [this,cp]
  rw [e] at h;exact (Option.some.inj h).symm
theorem aPo {p q:Q} (hp:dA p) (hq:dA q):RS (ofQ p) (ofQ q)=aEn (p - q):=by
  have h:=(aG6 (uU hp) (uU hq)).2.1
  obtain ⟨a1,a2,a3⟩:=mZ hp
  obtain ⟨b1,b2,b3⟩:=mZ hq
  have e:fS (ofQ p) (ofQ q)=some (aEn (p - q)):=by
    unfold fS ofQ
    rw [aEf _ _ b1 b2 b3]
    simp only [Option.bind_some]
    rw [aBW _ _ _ _ a1 b1 a2 a3 (by rw [aN8];exact b2) b3]
    unfold aIh
    rw [aJI _ (Nat.mul_pos a1 b1),_root_.Rat.sub_def',Int.neg_mul,← Int.sub_eq_add_neg];rfl
  rw [e] at h;exact (Option.some.inj h).symm
theorem aOZ {p:Q} (hp:dA p):RN (ofQ p)=ofQ (-p):=by
  have h:=(aKS (uU hp)).2.1
  obtain ⟨a1,a2,a3⟩:=mZ hp
  have e:iC (ofQ p)=some (ofQ (-p)):=by
    unfold ofQ
    rw [aEf _ _ a1 a2 a3]
    rfl
  rw [e] at h;exact (Option.some.inj h).symm
theorem aIy {q:Q} (h:dA q):0 < vH (ofQ q)↔0 < q:=by
  have:=aGs (n:=q.num) (d:=q.den) (uV h)
  unfold ofQ
  rw [this]
  constructor
  · intro hh
    rw [_root_.Rat.lt_iff];simp;omega
  · intro hh
    rw [_root_.Rat.lt_iff] at hh;simp at hh;omega
theorem aMB:BB ^ 24=10 ^ 216:=by rw [cY,show (1000000000:Nat)=10 ^ 9 from rfl,← Nat.pow_mul]
theorem aJX {q:Q} {n:Int} {d:Nat} (hd:0 < d) (hq:q=mkRat n d) (h1:n.natAbs < BB ^ 24) (h2:d < BB ^ 24):dA q:=by
  have hn:=_root_.Rat.num_mkRat n d
  have hden:=_root_.Rat.den_mkRat n d
  rw [if_neg (by omega)] at hn hden
  subst hq
  have hgp:0 < Nat.gcd d n.natAbs:=Nat.gcd_pos_of_pos_left _ hd
  unfold dA bl
  refine ⟨gA ?_,gA ?_⟩
  · rw [hn]
    have:(n / (Nat.gcd d n.natAbs:Int)).natAbs≤n.natAbs:=Int.natAbs_ediv_le_natAbs _ _
    omega
  · rw [hden]
    exact Nat.lt_of_le_of_lt (Nat.div_le_self _ _) h2
end Go.Ev
/- Rational numbers over a bound denominator. -/
namespace Go.Ev
set_option linter.all false
def Dv (T:Nat) (q:Q):Prop:=∃ z:Int,q*(T:Q)=(z:Q)
theorem aHd (z:Int):Dv 1 (z:Q):=⟨z,by simp⟩
theorem qB {T:Nat} {p q:Q} (hp:Dv T p) (hq:Dv T q):Dv T (p+q):=by
  obtain ⟨a,ha⟩:=hp;obtain ⟨b,hb⟩:=hq
  exact ⟨a+b,by rw [_root_.Rat.add_mul,ha,hb,_root_.Rat.intCast_add]⟩
theorem aJr {T:Nat} {p:Q} (hp:Dv T p):Dv T (-p):=by
  obtain ⟨a,ha⟩:=hp
  exact ⟨-a,by rw [_root_.Rat.neg_mul,ha,_root_.Rat.intCast_neg]⟩
theorem zZ {T:Nat} {p q:Q} (hp:Dv T p) (hq:Dv T q):Dv T (p - q):=by
  rw [_root_.Rat.sub_eq_add_neg];exact qB hp (aJr hq)
theorem aAa {T U:Nat} {p q:Q} (hp:Dv T p) (hq:Dv U q):Dv (T*U) (p*q):=by
  obtain ⟨a,ha⟩:=hp;obtain ⟨b,hb⟩:=hq
  refine ⟨a*b,?_⟩
  rw [_root_.Rat.intCast_mul,← ha,← hb,_root_.Rat.natCast_mul];grind
theorem vE {T:Nat} (U:Nat) {p:Q} (hp:Dv T p):Dv (T*U) p:=by
  have:=aAa hp (q:=1) (U:=U) ⟨(U:Int),by rw [_root_.Rat.one_mul];rfl⟩
  rwa [_root_.Rat.mul_one] at this
theorem yB {T U:Nat} {p:Q} (hp:Dv T p) (h:T ∣ U):Dv U p:=by
  obtain ⟨k,rfl⟩:=h;exact vE k hp
theorem aGV {T B:Nat} {q:Q} (hT:0 < T) (h:Dv T q) (h1:-(B:Q)≤q) (h2:q≤(B:Q)) (hB:0 < B) (hb:B*T < BB ^ 24):dA q:=by
  obtain ⟨z,hz⟩:=h
  have hT0:(0:Q) < (T:Q):=by
    have:((0:Nat):Q) < (T:Q):=_root_.Rat.natCast_lt_natCast.2 hT
    simpa using this
  have e:q=mkRat z T:=by
    rw [_root_.Rat.mkRat_eq_div]
    have:(T:Q)≠0:=by grind
    have e2:((T:Int):Q)=(T:Q):=rfl
    grind
  refine aJX hT e ?_ (Nat.lt_of_le_of_lt (Nat.le_mul_of_pos_left T hB) hb)
  have u1:(z:Q)≤((B*T:Nat):Q):=by
    rw [← hz,_root_.Rat.natCast_mul]
    exact _root_.Rat.mul_le_mul_of_nonneg_right h2 (by grind)
  have u2:-((B*T:Nat):Q)≤(z:Q):=by
    rw [← hz,_root_.Rat.natCast_mul,← _root_.Rat.neg_mul]
    exact _root_.Rat.mul_le_mul_of_nonneg_right h1 (by grind)
  have v1:z≤((B*T:Nat):Int):=_root_.Rat.intCast_le_intCast.1 u1
  have v2:-((B*T:Nat):Int)≤z:=_root_.Rat.intCast_le_intCast.1 (by rw [_root_.Rat.intCast_neg];exact u2)
  omega
end Go.Ev
/- Links over the rational numbers; merging and joining. -/
namespace Go.Ev
set_option linter.all false
structure QL where
  a:Int
  b:Int
  w:Q
  x:Q
  y:Q
def QL.toL (l:QL):Link:=⟨l.a,l.b,ofQ l.w,ofQ l.x,ofQ l.y⟩
def QL.fit (l:QL):Prop:=dA l.w∧dA l.x∧dA l.y
def QL.ok (l:QL):Prop:=(0≤l.a∧l.a≤9)∧(0≤l.b∧l.b≤9)∧l.a < l.b∧0 < l.w
theorem aFC {l:QL} (h:l.fit):ValidL l.toL↔l.ok:=by
  unfold ValidL QL.ok QL.toL
  simp only [aIy h.1,uV h.2.1,uV h.2.2,and_true]
def dE (k l:QL):Prop:=k.a < l.a∨(k.a=l.a∧k.b < l.b)
instance (k l:QL):Decidable (dE k l):=by unfold dE;infer_instance
theorem aCe (k l:QL):eT k.toL l.toL↔dE k l:=Iff.rfl
def mrg (k l:QL):QL:=⟨k.a,k.b,k.w+l.w,(k.w*k.x+l.w*l.x) / (k.w+l.w),(k.w*k.y+l.w*l.y) / (k.w+l.w)⟩
def sqQ (x y:Q):Q:=x*x+y*y
def aGM (k l:QL):Q:=(k.w*l.w / (k.w+l.w))*sqQ (k.x - l.x) (k.y - l.y)
def aGL (k l:QL):Prop :=
  (dA (k.w+l.w)∧dA (k.w*k.x)∧dA (l.w*l.x)∧dA (k.w*k.x+l.w*l.x)∧dA ((k.w*k.x+l.w*l.x) / (k.w+l.w))) ∧
  (dA (k.w*k.y)∧dA (l.w*l.y)∧dA (k.w*k.y+l.w*l.y)∧dA ((k.w*k.y+l.w*l.y) / (k.w+l.w))) ∧
  (dA (k.w*l.w)∧dA (k.w*l.w / (k.w+l.w))∧dA (k.x - l.x)∧dA (k.y - l.y)) ∧
  (dA ((k.x - l.x)*(k.x - l.x))∧dA ((k.y - l.y)*(k.y - l.y))∧dA (sqQ (k.x - l.x) (k.y - l.y))∧dA (aGM k l))
theorem aG8 {p q:Q} (hp:dA p) (hq:dA q) (h:dA (p+q)):RA (ofQ p) (ofQ q)=ofQ (p+q):=by rw [aPs hp hq,aAY h]
theorem aG7 {p q:Q} (hp:dA p) (hq:dA q) (h:dA (p*q)):RM (ofQ p) (ofQ q)=ofQ (p*q):=by rw [aPp hp hq,aAY h]
theorem aNc {p q:Q} (hp:dA p) (hq:dA q) (h:dA (p - q)):RS (ofQ p) (ofQ q)=ofQ (p - q):=by rw [aPo hp hq,aAY h]
theorem aMq {p q:Q} (hp:dA p) (hq:dA q) (h0:q≠0) (h:dA (p / q)):RD (ofQ p) (ofQ q)=ofQ (p / q):=by rw [aPq hp hq h0,aAY h]
theorem aL2 {z:Int} (h:z.natAbs < 2 ^ 62):dA (z:Q):=by
  refine aJX (n:=z) (d:=1) (by decide) ?_ (Nat.lt_trans h (by rw [aMB];decide)) (by rw [aMB];decide)
  rw [_root_.Rat.mkRat_eq_div];show (z:Q)=(z:Q) / ((1:Nat):Q);grind
theorem aAt {z:Int} (h:z.natAbs < 2 ^ 62):pZ z=ofQ (z:Q):=by
  unfold pZ ofQ
  rw [show aA (z:Q).den=[1] from pX (d:=1) (by rw [cY];decide) (by decide)];rfl
theorem aMU {k l:QL} (hk:k.fit) (hl:l.fit) (h0:k.w+l.w≠0) (h:aGL k l):xE k.toL l.toL∧aAk k.toL l.toL=(mrg k l).toL∧aCG k.toL l.toL=ofQ (aGM k l)∧(mrg k l).fit∧dA (aGM k l):=by
  obtain ⟨⟨a1,a2,a3,a4,a5⟩,⟨b2,b3,b4,b5⟩,⟨c1,c2,c3,c4⟩,d1,d2,d3,d4⟩:=h
  obtain ⟨k1,k2,k3⟩:=hk
  obtain ⟨l1,l2,l3⟩:=hl
  have eL:aAk k.toL l.toL=(mrg k l).toL:=by
    unfold aAk QL.toL mrg
    simp only []
    rw [aG8 k1 l1 a1,aG7 k1 k2 a2,aG7 l1 l2 a3,aG8 a2 a3 a4,aMq a4 a1 h0 a5,aG7 k1 k3 b2,aG7 l1 l3 b3,aG8 b2 b3 b4,aMq b4 a1 h0 b5]
  have eE:aCG k.toL l.toL=ofQ (aGM k l):=by
    unfold aCG QL.toL aGM sqR
    simp only []
    unfold sqQ at d3
    rw [aG8 k1 l1 a1,aG7 k1 l1 c1,aMq c1 a1 h0 c2,aNc k2 l2 c3,aNc k3 l3 c4,aG7 c3 c3 d1,aG7 c4 c4 d2,aG8 d1 d2 d3,aG7 c2 d3 d4]
    rfl
  refine ⟨?_,eL,eE,⟨a1,a5,b5⟩,d4⟩
  unfold xE
  rw [eL,eE]
  exact ⟨uV a1,uV a5,uV b5,uV d4⟩
def lI:List QL→QL→List QL × Q
  | [],l=>([l],0)
  | k::s,l=>if dE k l then (k::(lI s l).1,(lI s l).2) else if dE l k then (l::k::s,0) else (mrg k l::s,aGM k l)
def aBM:List QL→QL→Prop
  | [],_=>True
  | k::s,l=>if dE k l then aBM s l else if dE l k then True else k.w+l.w≠0∧aGL k l
theorem tT {k l:QL} {s:List QL} (c:dE k l):lI (k::s) l=(k::(lI s l).1,(lI s l).2):=by rw [lI,if_pos c]
theorem wR {k l:QL} {s:List QL} (c:¬dE k l) (d:dE l k):lI (k::s) l=(l::k::s,0):=by rw [lI,if_neg c,if_pos d]
theorem wQ {k l:QL} {s:List QL} (c:¬dE k l) (d:¬dE l k):lI (k::s) l=(mrg k l::s,aGM k l):=by rw [lI,if_neg c,if_neg d]
theorem aDP:pZ 0=ofQ 0:=aAt (by decide)
theorem aCt:dA 0:=aL2 (z:=0) (by decide)
theorem aKP {y l:Link} {r:List Link} (h:eT y l):zX (y::r) l=(zX r l).map (fun t=>(y::t.1,t.2)):=by
  have e:dQ l (y::r)=dQ l r+1:=by rw [dQ,if_pos h]
  unfold zX
  rw [e]
  by_cases c:dQ l r < r.length
  · rw [dif_pos c,dif_pos (by simpa using c)]
    simp only [List.getElem_cons_succ,List.take_succ_cons,List.drop_succ_cons,List.cons_append]
    split
    · rfl
    · split <;> rfl
  · rw [dif_neg c,dif_neg (by simpa using c)]
    simp only [List.take_succ_cons,List.drop_succ_cons,List.cons_append]
    rfl
theorem aKQ {y l:Link} {r:List Link} (h:¬eT y l):zX (y::r) l=if eT l y then some (l::y::r,pZ 0) else if xE y l then some (aAk y l::r,aCG y l) else none:=by
  have e:dQ l (y::r)=0:=by rw [dQ,if_neg h]
  unfold zX
  rw [e]
  simp
theorem aNz:∀ (s:List QL) (l:QL),(∀ k ∈ s,k.fit)→l.fit→aBM s l→zX (s.map QL.toL) l.toL=some ((lI s l).1.map QL.toL,ofQ (lI s l).2)∧(∀ k ∈ (lI s l).1,k.fit)∧dA (lI s l).2
  | [],l,_,hl,_=>by
    refine ⟨?_,?_,aCt⟩
    · unfold zX lI
      simp [dQ,aDP]
    · intro k hk
      simp [lI] at hk;subst hk;exact hl
  | k::s,l,hs,hl,hf=>by
    unfold aBM at hf
    rw [List.map_cons]
    by_cases c:dE k l
    · rw [if_pos c] at hf
      obtain ⟨g1,g2,g3⟩:=aNz s l (fun x hx=>hs x (by simp [hx])) hl hf
      rw [aKP ((aCe k l).2 c),g1,tT c]
      refine ⟨rfl,fun x hx=>?_,g3⟩
      rcases List.mem_cons.1 hx with rfl | hx
      · exact hs _ (by simp)
      · exact g2 x hx
    · rw [if_neg c] at hf
      rw [aKQ (fun h=>c ((aCe k l).1 h))]
      by_cases d:dE l k
      · rw [wR c d,if_pos ((aCe l k).2 d)]
        refine ⟨by rw [aDP];rfl,fun x hx=>?_,aCt⟩
        rcases List.mem_cons.1 hx with rfl | hx
        · exact hl
        · exact hs x hx
      · rw [if_neg d] at hf
        rw [wQ c d,if_neg (fun h=>d ((aCe l k).1 h))]
        obtain ⟨g1,g2,g3,g4,g5⟩:=aMU (hs k (by simp)) hl hf.1 hf.2
        rw [if_pos g1,g2,g3]
        refine ⟨rfl,fun x hx=>?_,g5⟩
        rcases List.mem_cons.1 hx with rfl | hx
        · exact g4
        · exact hs x (by simp [hx])
def bO:List QL→List QL→Q→List QL × Q
  | [],s,e=>(s,e)
  | x::r,s,e=>bO r (lI s x).1 (e+(lI s x).2)
def zP:List QL→List QL→Q→Prop
  | [],_,_=>True
  | x::r,s,e=>aBM s x∧dA (e+(lI s x).2)∧zP r (lI s x).1 (e+(lI s x).2)
theorem aLT:∀ (l s:List QL) (e:Q),(∀ k ∈ l,k.fit)→(∀ k ∈ s,k.fit)→dA e→zP l s e→tE (l.map QL.toL) (s.map QL.toL) (ofQ e)=some ((bO l s e).1.map QL.toL,ofQ (bO l s e).2)∧(∀ k ∈ (bO l s e).1,k.fit)∧dA (bO l s e).2
  | [],s,e,_,hs,he,_=>⟨rfl,hs,he⟩
  | x::r,s,e,hl,hs,he,hf=>by
    obtain ⟨f1,f2,f3⟩:=hf
    obtain ⟨g1,g2,g3⟩:=aNz s x hs (hl x (by simp)) f1
    rw [List.map_cons,tE,g1]
    simp only []
    rw [aG8 he g3 f2,if_pos (uV f2)]
    exact aLT r _ _ (fun y hy=>hl y (by simp [hy])) g2 f2 f3
end Go.Ev
/- What joining keeps: sums, energies, order, scale. -/
namespace Go.Ev
set_option linter.all false
def sm (f:QL→Q):List QL→Q
  | []=>0
  | x::l=>f x+sm f l
theorem yW (f:QL→Q):∀ a b:List QL,sm f (a++b)=sm f a+sm f b
  | [],b=>by simp only [List.nil_append,sm];grind
  | x::a,b=>by rw [List.cons_append,sm,sm,yW f a b,_root_.Rat.add_assoc]
theorem rR {f:QL→Q}:∀ {l:List QL},(∀ x ∈ l,0≤f x)→0≤sm f l
  | [],_=>by simp [sm]
  | x::l,h=>by
    have h1:=h x (by simp)
    have h2:=rR (f:=f) (l:=l) (fun y hy=>h y (by simp [hy]))
    rw [sm];grind
theorem aIx {f:QL→Q}:∀ {l:List QL},(∀ x ∈ l,0≤f x)→∀ x ∈ l,f x≤sm f l
  | y::l,h,x,hx=>by
    have h1:=h y (by simp)
    have h2:=rR (f:=f) (l:=l) (fun y hy=>h y (by simp [hy]))
    rw [sm]
    rcases List.mem_cons.1 hx with rfl | hx
    · grind
    · have:=aIx (f:=f) (l:=l) (fun y hy=>h y (by simp [hy])) x hx
      grind
theorem aNn {f g:QL→Q}:∀ {l:List QL},(∀ x ∈ l,f x≤g x)→sm f l≤sm g l
  | [],_=>by simp [sm]
  | x::l,h=>by
    have h1:=h x (by simp)
    have h2:=aNn (f:=f) (g:=g) (l:=l) (fun y hy=>h y (by simp [hy]))
    rw [sm,sm];grind
theorem aK7 (c:Q) (f:QL→Q):∀ l:List QL,sm (fun x=>c*f x) l=c*sm f l
  | []=>by simp [sm]
  | x::l=>by rw [sm,sm,aK7 c f l];grind
def enQ (l:QL):Q:=l.w*sqQ l.x l.y
def wt (l:QL):Q:=l.w
def mx (l:QL):Q:=l.w*l.x
def my (l:QL):Q:=l.w*l.y
theorem aNY {k l:QL} (hk:0 < k.w) (hl:0 < l.w):enQ (mrg k l)+aGM k l=enQ k+enQ l:=by
  have:k.w+l.w≠0:=by grind
  unfold enQ mrg aGM sqQ
  simp only []
  grind
theorem aNV (k l:QL):wt (mrg k l)=wt k+wt l:=rfl
theorem aNX {k l:QL} (hk:0 < k.w) (hl:0 < l.w):mx (mrg k l)=mx k+mx l:=by
  have:k.w+l.w≠0:=by grind
  unfold mx mrg
  simp only []
  grind
theorem aNW {k l:QL} (hk:0 < k.w) (hl:0 < l.w):my (mrg k l)=my k+my l:=by
  have:k.w+l.w≠0:=by grind
  unfold my mrg
  simp only []
  grind
theorem aMS {k l:QL} (hk:0 < k.w) (hl:0 < l.w):0 < (mrg k l).w:=by
  show 0 < k.w+l.w;grind
theorem aAT {k l:QL} (c:¬dE k l) (d:¬dE l k):k.a=l.a∧k.b=l.b:=by unfold dE at c d;omega
theorem aFa {P:QL→Prop} (hP:∀ k l,k.a=l.a→k.b=l.b→P k→P l→P (mrg k l)):∀ (s:List QL) (l:QL),(∀ x ∈ s,P x)→P l→∀ x ∈ (lI s l).1,P x
  | [],l,_,hl,x,hx=>by simp [lI] at hx;subst hx;exact hl
  | k::s,l,hs,hl,x,hx=>by
    by_cases c:dE k l
    · rw [tT c] at hx
      rcases List.mem_cons.1 hx with rfl | hx
      · exact hs _ (by simp)
      · exact aFa hP s l (fun y hy=>hs y (by simp [hy])) hl x hx
    · by_cases d:dE l k
      · rw [wR c d] at hx
        rcases List.mem_cons.1 hx with rfl | hx
        · exact hl
        · exact hs x hx
      · rw [wQ c d] at hx
        rcases List.mem_cons.1 hx with rfl | hx
        · exact hP _ _ (aAT c d).1 (aAT c d).2 (hs k (by simp)) hl
        · exact hs x (by simp [hx])
theorem aJ2 {f:QL→Q} (hf:∀ k l,k.a=l.a→k.b=l.b→0 < k.w→0 < l.w→f (mrg k l)=f k+f l):∀ (s:List QL) (l:QL),(∀ x ∈ s,0 < x.w)→0 < l.w→sm f (lI s l).1=sm f s+f l
  | [],l,_,hl=>by simp only [lI,sm];grind
  | k::s,l,hs,hl=>by
    by_cases c:dE k l
    · rw [tT c,sm,sm,aJ2 hf s l (fun y hy=>hs y (by simp [hy])) hl];grind
    · by_cases d:dE l k
      · rw [wR c d,sm];grind
      · rw [wQ c d,sm,sm,hf _ _ (aAT c d).1 (aAT c d).2 (hs k (by simp)) hl];grind
theorem aJ3:∀ (s:List QL) (l:QL),(∀ x ∈ s,0 < x.w)→0 < l.w→sm enQ (lI s l).1+(lI s l).2=sm enQ s+enQ l
  | [],l,_,hl=>by simp only [lI,sm];grind
  | k::s,l,hs,hl=>by
    by_cases c:dE k l
    · have:=aJ3 s l (fun y hy=>hs y (by simp [hy])) hl
      rw [tT c,sm,sm];simp only [];grind
    · by_cases d:dE l k
      · rw [wR c d,sm];grind
      · have:=aNY (hs k (by simp)) hl
        rw [wQ c d,sm,sm];simp only [];grind
theorem aHM {a b c:QL} (h:dE a b) (g:dE b c):dE a c:=by unfold dE at *;omega
theorem aIi:∀ (s:List QL) (l:QL),s.Pairwise dE→(lI s l).1.Pairwise dE
  | [],l,_=>by simp [lI]
  | k::s,l,h=>by
    rw [List.pairwise_cons] at h
    by_cases c:dE k l
    · rw [tT c]
      simp only []
      rw [List.pairwise_cons]
      refine ⟨aFa (P:=fun x=>dE k x) (fun a b e1 e2 g1 g2=>?_) s l h.1 c,aIi s l h.2⟩
      exact g1
    · by_cases d:dE l k
      · rw [wR c d]
        simp only []
        rw [List.pairwise_cons]
        refine ⟨fun x hx=>?_,List.pairwise_cons.2 h⟩
        rcases List.mem_cons.1 hx with rfl | hx
        · exact d
        · exact aHM d (h.1 x hx)
      · rw [wQ c d]
        simp only []
        rw [List.pairwise_cons]
        exact ⟨fun x hx=>h.1 x hx,h.2⟩
def Sc (D:Nat) (l:QL):Prop:=0 < l.w∧Dv D l.w∧Dv D (mx l)∧Dv D (my l)
theorem aOc {D:Nat} {k l:QL} (hk:Sc D k) (hl:Sc D l):Sc D (mrg k l):=by
  refine ⟨aMS hk.1 hl.1,qB hk.2.1 hl.2.1,?_,?_⟩
  · rw [aNX hk.1 hl.1];exact qB hk.2.2.1 hl.2.2.1
  · rw [aNW hk.1 hl.1];exact qB hk.2.2.2 hl.2.2.2
theorem aOd {D E:Nat} {l:QL} (h:Sc D l) (hd:D ∣ E):Sc E l:=⟨h.1,yB h.2.1 hd,yB h.2.2.1 hd,yB h.2.2.2 hd⟩
def nm (D:Nat) (w:Q):Nat:=(w*(D:Q)).num.toNat
theorem aAb {D:Nat} {w:Q} (hD:0 < D) (hw:0 < w) (h:Dv D w):(nm D w:Q)=w*(D:Q)∧0 < nm D w:=by
  obtain ⟨z,hz⟩:=h
  have hD':(0:Q) < (D:Q):=by
    have:((0:Nat):Q) < (D:Q):=_root_.Rat.natCast_lt_natCast.2 hD
    simpa using this
  have hp:0 < w*(D:Q):=_root_.Rat.mul_pos hw hD'
  have hzp:0 < z:=by
    have:((0:Int):Q) < (z:Q):=by rw [← hz];exact hp
    exact _root_.Rat.intCast_lt_intCast.1 this
  unfold nm
  rw [hz]
  have e:((z:Q)).num=z:=rfl
  rw [e]
  refine ⟨?_,by omega⟩
  have e2:((z.toNat:Int):Q)=(z:Q):=by rw [Int.toNat_of_nonneg (by omega)]
  exact e2
theorem aC5 {D W:Nat} {w:Q} (hD:0 < D) (hw:0 < w) (h:Dv D w) (hW:w≤(W:Q)):nm D w≤W*D:=by
  have hD':(0:Q)≤(D:Q):=by
    have:((0:Nat):Q)≤(D:Q):=_root_.Rat.natCast_le_natCast.2 (Nat.zero_le _)
    simpa using this
  have h1:=(aAb hD hw h).1
  have h2:w*(D:Q)≤(W:Q)*(D:Q):=_root_.Rat.mul_le_mul_of_nonneg_right hW hD'
  rw [← h1,← _root_.Rat.natCast_mul] at h2
  exact _root_.Rat.natCast_le_natCast.1 h2
theorem aCs {D:Nat} {w a:Q} (hD:0 < D) (hw:0 < w) (h:Dv D w) (ha:Dv D a):Dv (nm D w) (a / w):=by
  obtain ⟨z,hz⟩:=ha
  refine ⟨z,?_⟩
  rw [(aAb hD hw h).1,← hz]
  have:w≠0:=by grind
  grind
theorem aOB {l:QL} (h:0 < l.w):l.x=mx l / l.w∧l.y=my l / l.w:=by
  have:l.w≠0:=by grind
  unfold mx my
  constructor <;> grind
theorem aJi {D:Nat} {l:QL} (hD:0 < D) (h:Sc D l):Dv (nm D l.w) l.x∧Dv (nm D l.w) l.y:=by
  rw [(aOB h.1).1,(aOB h.1).2]
  exact ⟨aCs hD h.1 h.2.1 h.2.2.1,aCs hD h.1 h.2.1 h.2.2.2⟩
theorem aJ6 {D:Nat} {l:QL} (hD:0 < D) (h:Sc D l):Dv (D*nm D l.w) (enQ l):=by
  have e:enQ l=mx l*l.x+my l*l.y:=by unfold enQ sqQ mx my;grind
  rw [e]
  exact qB (aAa h.2.2.1 (aJi hD h).1) (aAa h.2.2.2 (aJi hD h).2)
def pn (D:Nat):List QL→Nat
  | []=>1
  | x::l=>nm D x.w*pn D l
theorem aIE (D:Nat):∀ a b:List QL,pn D (a++b)=pn D a*pn D b
  | [],b=>by simp [pn]
  | x::a,b=>by rw [List.cons_append,pn,pn,aIE D a b,Nat.mul_assoc]
theorem aGG (D:Nat):∀ {l:List QL},∀ x ∈ l,nm D x.w ∣ pn D l
  | y::l,x,hx=>by
    rw [pn]
    rcases List.mem_cons.1 hx with rfl | hx
    · exact Nat.dvd_mul_right _ _
    · exact Nat.dvd_trans (aGG D x hx) (Nat.dvd_mul_left _ _)
theorem aCD {D:Nat} (hD:0 < D):∀ {l:List QL},(∀ x ∈ l,Sc D x)→0 < pn D l
  | [],_=>by simp [pn]
  | x::l,h=>Nat.mul_pos (aAb hD (h x (by simp)).1 (h x (by simp)).2.1).2 (aCD hD (fun y hy=>h y (by simp [hy])))
theorem aFP {D W:Nat} (hD:0 < D):∀ {l:List QL},(∀ x ∈ l,Sc D x)→(∀ x ∈ l,x.w≤(W:Q))→pn D l≤(W*D) ^ l.length
  | [],_,_=>by simp [pn]
  | x::l,h,g=>by
    rw [pn,List.length_cons,Nat.pow_succ,Nat.mul_comm]
    exact Nat.mul_le_mul (aFP hD (fun y hy=>h y (by simp [hy])) (fun y hy=>g y (by simp [hy]))) (aC5 hD (h x (by simp)).1 (h x (by simp)).2.1 (g x (by simp)))
theorem aIm {T:Nat} {f:QL→Q}:∀ {l:List QL},(∀ x ∈ l,Dv T (f x))→Dv T (sm f l)
  | [],_=>⟨0,by simp [sm]⟩
  | x::l,h=>qB (h x (by simp)) (aIm (fun y hy=>h y (by simp [hy])))
theorem aFc {D:Nat} (hD:0 < D) {l:List QL} (h:∀ x ∈ l,Sc D x):Dv (D*pn D l) (sm enQ l) :=
  aIm fun x hx=>yB (aJ6 hD (h x hx)) (Nat.mul_dvd_mul_left D (aGG D x hx))
end Go.Ev
/- Joining computes with few digits only. -/
namespace Go.Ev
set_option linter.all false
def bd (B:Nat) (q:Q):Prop:=-(B:Q)≤q∧q≤(B:Q)
theorem aBD (n:Nat):(0:Q)≤(n:Q):=by
  have:((0:Nat):Q)≤(n:Q):=_root_.Rat.natCast_le_natCast.2 (Nat.zero_le _)
  simpa using this
theorem aIP {m n:Nat} (h:m≤n):(m:Q)≤(n:Q):=_root_.Rat.natCast_le_natCast.2 h
theorem aNy {A B:Nat} {p:Q} (h:bd A p) (hl:A≤B):bd B p:=by
  have:=aIP hl
  unfold bd at *;grind
theorem aG0 {A B:Nat} {p q:Q} (hp:bd A p) (hq:bd B q):bd (A+B) (p+q):=by
  unfold bd at *;rw [_root_.Rat.natCast_add];grind
theorem aGZ {A B:Nat} {p q:Q} (hp:bd A p) (hq:bd B q):bd (A+B) (p - q):=by
  unfold bd at *;rw [_root_.Rat.natCast_add];grind
theorem aMh {A:Nat} {p:Q} (hp:bd A p):bd A (-p):=by
  unfold bd at *;grind
theorem rN {A B:Nat} {p q:Q} (hp:bd A p) (hq:bd B q):bd (A*B) (p*q):=by
  unfold bd at *
  rw [_root_.Rat.natCast_mul]
  have a1:0≤((A:Q) - p)*((B:Q)+q):=_root_.Rat.mul_nonneg (by grind) (by grind)
  have a2:0≤((A:Q)+p)*((B:Q) - q):=_root_.Rat.mul_nonneg (by grind) (by grind)
  have a3:0≤((A:Q)+p)*((B:Q)+q):=_root_.Rat.mul_nonneg (by grind) (by grind)
  have a4:0≤((A:Q) - p)*((B:Q) - q):=_root_.Rat.mul_nonneg (by grind) (by grind)
  constructor <;> grind
theorem aGX {A:Nat} {p w:Q} (hw:0 < w) (h1:-(A:Q)*w≤p) (h2:p≤(A:Q)*w):bd A (p / w):=by
  have e:p / w*w=p:=_root_.Rat.div_mul_cancel (by grind)
  constructor
  · exact _root_.Rat.le_of_mul_le_mul_right (by rw [e];exact h1) hw
  · exact _root_.Rat.le_of_mul_le_mul_right (by rw [e];exact h2) hw
theorem aGk {A:Nat} {w x:Q} (hw:0 < w) (h:bd A x):-(A:Q)*w≤w*x∧w*x≤(A:Q)*w:=by
  have h1:0≤w*(x+A):=_root_.Rat.mul_nonneg (by grind) (by unfold bd at h;grind)
  have h2:0≤w*(A - x):=_root_.Rat.mul_nonneg (by grind) (by unfold bd at h;grind)
  constructor <;> grind
theorem aG1 {A:Nat} {w v x y:Q} (hw:0 < w) (hv:0 < v) (hx:bd A x) (hy:bd A y):bd A ((w*x+v*y) / (w+v)):=by
  obtain ⟨a1,a2⟩:=aGk hw hx
  obtain ⟨b1,b2⟩:=aGk hv hy
  exact aGX (by grind) (by grind) (by grind)
def PP:Nat:=72 ^ 16
theorem aOk:0 < PP:=by decide
theorem xM {a b T U:Nat} (h:T≤PP ^ a) (g:U≤PP ^ b):T*U≤PP ^ (a+b):=by
  rw [Nat.pow_add];exact Nat.mul_le_mul h g
theorem oG {a b T:Nat} (h:T≤PP ^ a) (g:a≤b):T≤PP ^ b:=Nat.le_trans h (Nat.pow_le_pow_right aOk g)
theorem iJ {T B:Nat} {q:Q} (hT:0 < T) (h:Dv T q) (h1:bd B q) (hB:0 < B) (b:B≤10 ^ 12) (t:T≤PP ^ 6):dA q:=by
  refine aGV hT h h1.1 h1.2 hB (Nat.lt_of_le_of_lt (Nat.mul_le_mul b t) ?_)
  rw [aMB];unfold PP;decide
theorem aKd {W:Nat} {w:Q} (h:0 < w) (h2:w≤(W:Q)):bd W w:=⟨by have:=aBD W;grind,h2⟩
structure Lk (D X:Nat) (l:QL):Prop where
  sc:Sc D l
  bx:bd X l.x
  by':bd X l.y
theorem aOm {D X:Nat} {k l:QL} (hk:Lk D X k) (hl:Lk D X l):Lk D X (mrg k l) :=
  ⟨aOc hk.sc hl.sc,aG1 hk.sc.1 hl.sc.1 hk.bx hl.bx,aG1 hk.sc.1 hl.sc.1 hk.by' hl.by'⟩
theorem aGR {D X:Nat} {l:QL} (hD:0 < D) (hP:72*D≤PP) (h:Lk D X l) (hX:X≤1000) (h0:0 < X) (hw:l.w≤72):l.fit:=by
  have hn:=aC5 hD h.sc.1 h.sc.2.1 (W:=72) hw
  have np:=(aAb hD h.sc.1 h.sc.2.1).2
  obtain ⟨x1,x2⟩:=aJi hD h.sc
  have e1:D≤PP ^ 6:=oG (a:=1) (by rw [Nat.pow_one];omega) (by omega)
  have e2:nm D l.w≤PP ^ 6:=oG (a:=1) (by rw [Nat.pow_one];omega) (by omega)
  exact ⟨iJ hD h.sc.2.1 (aKd (W:=72) h.sc.1 hw) (by omega) (by omega) e1,iJ np x1 h.bx h0 (by omega) e2,iJ np x2 h.by' h0 (by omega) e2⟩
theorem aKt {D X:Nat} {k l:QL} (hD:0 < D) (hP:72*D≤PP) (hX:X≤1000) (h0:0 < X) (hk:Lk D X k) (hl:Lk D X l) (hw:k.w+l.w≤72):aGL k l:=by
  have pk:=hk.sc.1
  have pl:=hl.sc.1
  have kw:k.w≤((72:Nat):Q):=by show k.w≤72;grind
  have lw:l.w≤((72:Nat):Q):=by show l.w≤72;grind
  have sw:k.w+l.w≤((72:Nat):Q):=hw
  have dk:=hk.sc.2.1
  have dl:=hl.sc.2.1
  have ds:=qB dk dl
  have ps:0 < k.w+l.w:=by grind
  have nk:=aC5 hD pk dk kw
  have nl:=aC5 hD pl dl lw
  have ns:=aC5 hD ps ds sw
  have qk:=(aAb hD pk dk).2
  have ql:=(aAb hD pl dl).2
  obtain ⟨qe,qs⟩:=aAb hD ps ds
  obtain ⟨xk,yk⟩:=aJi hD hk.sc
  obtain ⟨xl,yl⟩:=aJi hD hl.sc
  have eD:D≤PP ^ 1:=by rw [Nat.pow_one];omega
  have eK:nm D k.w≤PP ^ 1:=by rw [Nat.pow_one];omega
  have eL:nm D l.w≤PP ^ 1:=by rw [Nat.pow_one];omega
  have eS:nm D (k.w+l.w)≤PP ^ 1:=by rw [Nat.pow_one];omega
  have bk:=aKd pk kw
  have bl':=aKd pl lw
  have bs:=aKd ps sw
  have X2:X*X≤1000000:=Nat.mul_le_mul hX hX
  have X3:0 < X*X:=Nat.mul_pos h0 h0
  have cw:Dv (D*nm D (k.w+l.w)) (k.w*l.w / (k.w+l.w)):=by
    obtain ⟨z,hz⟩:=aAa dk dl
    refine ⟨z,?_⟩
    rw [← hz,_root_.Rat.natCast_mul,_root_.Rat.natCast_mul,qe]
    have:k.w+l.w≠0:=by grind
    grind
  have cb:bd 72 (k.w*l.w / (k.w+l.w)):=by
    have e:=aGk pk bl'
    have p2:0 < k.w*k.w:=_root_.Rat.mul_pos pk pk
    have p3:0 < k.w*l.w:=_root_.Rat.mul_pos pk pl
    exact aGX ps (by have:=aBD 72;have:=_root_.Rat.mul_nonneg this (Std.le_of_lt ps);grind) (by have:=_root_.Rat.mul_nonneg (aBD 72) (Std.le_of_lt pl);grind)
  have dx:=zZ (vE (nm D l.w) xk) (by rw [Nat.mul_comm];exact vE (nm D k.w) xl)
  have dy:=zZ (vE (nm D l.w) yk) (by rw [Nat.mul_comm];exact vE (nm D k.w) yl)
  have bx:=aGZ hk.bx hl.bx
  have by_:=aGZ hk.by' hl.by'
  have qn:0 < nm D k.w*nm D l.w:=Nat.mul_pos qk ql
  have en2:nm D k.w*nm D l.w≤PP ^ 2:=xM eK eL
  have dxx:=aAa dx dx
  have dyy:=aAa dy dy
  have qnn:=Nat.mul_pos qn qn
  have en4:(nm D k.w*nm D l.w)*(nm D k.w*nm D l.w)≤PP ^ 4:=xM en2 en2
  have bxx:=rN bx bx
  have byy:=rN by_ by_
  have e4:(X+X)*(X+X)=4*(X*X):=by rw [← Nat.two_mul,Nat.mul_mul_mul_comm]
  rw [e4] at bxx byy
  have bsq:=aG0 bxx byy
  have dsq:=qB dxx dyy
  refine ⟨⟨?_,?_,?_,?_,?_⟩,⟨?_,?_,?_,?_⟩,⟨?_,?_,?_,?_⟩,?_,?_,?_,?_⟩
  · exact iJ hD ds bs (by omega) (by omega) (oG eD (by omega))
  · exact iJ hD hk.sc.2.2.1 (rN bk hk.bx) (by omega) (by omega) (oG eD (by omega))
  · exact iJ hD hl.sc.2.2.1 (rN bl' hl.bx) (by omega) (by omega) (oG eD (by omega))
  · exact iJ hD (qB hk.sc.2.2.1 hl.sc.2.2.1) (aG0 (rN bk hk.bx) (rN bl' hl.bx)) (by omega) (by omega) (oG eD (by omega))
  · exact iJ qs (aCs hD ps ds (qB hk.sc.2.2.1 hl.sc.2.2.1)) (aG1 pk pl hk.bx hl.bx) h0 (by omega) (oG eS (by omega))
  · exact iJ hD hk.sc.2.2.2 (rN bk hk.by') (by omega) (by omega) (oG eD (by omega))
  · exact iJ hD hl.sc.2.2.2 (rN bl' hl.by') (by omega) (by omega) (oG eD (by omega))
  · exact iJ hD (qB hk.sc.2.2.2 hl.sc.2.2.2) (aG0 (rN bk hk.by') (rN bl' hl.by')) (by omega) (by omega) (oG eD (by omega))
  · exact iJ qs (aCs hD ps ds (qB hk.sc.2.2.2 hl.sc.2.2.2)) (aG1 pk pl hk.by' hl.by') h0 (by omega) (oG eS (by omega))
  · exact iJ (Nat.mul_pos hD hD) (aAa dk dl) (rN bk bl') (by omega) (by omega) (oG (xM eD eD) (by omega))
  · exact iJ (Nat.mul_pos hD qs) cw cb (by omega) (by omega) (oG (xM eD eS) (by omega))
  · exact iJ qn dx bx (by omega) (by omega) (oG en2 (by omega))
  · exact iJ qn dy by_ (by omega) (by omega) (oG en2 (by omega))
  · exact iJ qnn dxx bxx (by omega) (by omega) (oG en4 (by omega))
  · exact iJ qnn dyy byy (by omega) (by omega) (oG en4 (by omega))
  · exact iJ qnn dsq bsq (by omega) (by omega) (oG en4 (by omega))
  · exact iJ (Nat.mul_pos (Nat.mul_pos hD qs) qnn) (aAa cw dsq) (rN cb bsq) (by omega) (by omega) (xM (xM eD eS) en4)
end Go.Ev
/- Joining succeeds where scale and energies are small. -/
namespace Go.Ev
set_option linter.all false
def inV (V:List Int) (x:QL):Prop:=x.a ∈ V∧x.b ∈ V∧x.a < x.b
theorem aII {s:List QL} (h:s.Pairwise dE):(s.map fun x=>(x.a,x.b)).Nodup:=by
  rw [List.Nodup,List.pairwise_map]
  refine h.imp fun {a b} hab e=>?_
  injection e with e1 e2
  unfold dE at hab;omega
theorem aHx {s:List QL} (h:s.Pairwise dE):(s.map fun x=>(x.b,x.a)).Nodup:=by
  rw [List.Nodup,List.pairwise_map]
  refine h.imp fun {a b} hab e=>?_
  injection e with e1 e2
  unfold dE at hab;omega
theorem aHt (V:List Int):∀ U:List Int,(U.flatMap fun u=>V.map fun v=>(u,v)).length=U.length*V.length
  | []=>by simp
  | u::U=>by rw [List.flatMap_cons,List.length_append,aHt V U,List.length_map,List.length_cons,Nat.succ_mul,Nat.add_comm]
theorem aEw {U V:List Int} {u v:Int} (hu:u ∈ U) (hv:v ∈ V):(u,v) ∈ U.flatMap fun u=>V.map fun v=>(u,v) :=
  List.mem_flatMap.2 ⟨u,hu,List.mem_map.2 ⟨v,hv,rfl⟩⟩
theorem aDH {V:List Int} (hV:V.Nodup) {s:List QL} (ho:s.Pairwise dE) (h:∀ x ∈ s,inV V x):2*s.length+V.length≤V.length*V.length:=by
  have n1:((s.map fun x=>(x.a,x.b))++((s.map fun x=>(x.b,x.a))++V.map fun v=>(v,v))).Nodup:=by
    rw [List.nodup_append,List.nodup_append]
    refine ⟨aII ho,⟨aHx ho,?_,?_⟩,?_⟩
    · rw [List.Nodup,List.pairwise_map]
      exact hV.imp fun {a b} hab e=>by injection e with e1 e2;exact hab e1
    · intro p hp q hq e
      obtain ⟨x,hx,rfl⟩:=List.mem_map.1 hp
      obtain ⟨v,hv,rfl⟩:=List.mem_map.1 hq
      injection e with e1 e2
      have:=(h x hx).2.2;omega
    · intro p hp q hq e
      obtain ⟨x,hx,rfl⟩:=List.mem_map.1 hp
      have:=(h x hx).2.2
      rcases List.mem_append.1 hq with hq | hq
      · obtain ⟨y,hy,rfl⟩:=List.mem_map.1 hq
        injection e with e1 e2
        have:=(h y hy).2.2;omega
      · obtain ⟨v,hv,rfl⟩:=List.mem_map.1 hq
        injection e with e1 e2;omega
  have:=n1.length_le_of_subset (l₂:=V.flatMap fun u=>V.map fun v=>(u,v)) (fun p hp=>by
    rcases List.mem_append.1 hp with hp | hp
    · obtain ⟨x,hx,rfl⟩:=List.mem_map.1 hp
      exact aEw (h x hx).1 (h x hx).2.1
    · rcases List.mem_append.1 hp with hp | hp
      · obtain ⟨x,hx,rfl⟩:=List.mem_map.1 hp
        exact aEw (h x hx).2.1 (h x hx).1
      · obtain ⟨v,hv,rfl⟩:=List.mem_map.1 hp
        exact aEw hv hv)
  rw [aHt] at this
  simp only [List.length_append,List.length_map] at this
  omega
theorem aGg:∀ (s:List QL) (l:QL),(∀ k ∈ s,k.w+l.w≠0∧aGL k l)→aBM s l
  | [],_,_=>trivial
  | k::s,l,h=>by
    unfold aBM
    split
    · exact aGg s l (fun y hy=>h y (by simp [hy]))
    · split
      · trivial
      · exact h k (by simp)
theorem aCP {l:QL} (h:0 < l.w):0≤enQ l:=by
  unfold enQ sqQ
  have h0:∀ z:Q,0≤z*z:=fun z=>by
    rcases _root_.Rat.le_total (a:=0) (b:=z) with c | c
    · exact _root_.Rat.mul_nonneg c c
    · have:=_root_.Rat.mul_nonneg (a:=-z) (b:=-z) (by grind) (by grind);grind
  exact _root_.Rat.mul_nonneg (by grind) (by have:=h0 l.x;have:=h0 l.y;grind)
theorem aOM {D X:Nat} {l:QL} (h:Lk D X l):enQ l≤((2*(X*X):Nat):Q)*l.w:=by
  have h1:=rN h.bx h.bx
  have h2:=rN h.by' h.by'
  have h3:=aG0 h1 h2
  have e:X*X+X*X=2*(X*X):=by omega
  rw [e] at h3
  have:=(aGk h.sc.1 h3).2
  unfold enQ sqQ;exact this
theorem aK8 {D X:Nat} {l:List QL} (h:∀ x ∈ l,Lk D X x):sm enQ l≤((2*(X*X):Nat):Q)*sm wt l:=by
  rw [← aK7]
  exact aNn fun x hx=>aOM (h x hx)
theorem uO {D X:Nat} {l:List QL} (h:∀ x ∈ l,Lk D X x) (hX:X≤800) (hw:sm wt l≤72):0≤sm enQ l∧sm enQ l≤((10 ^ 8:Nat):Q):=by
  refine ⟨rR fun x hx=>aCP (h x hx).sc.1,?_⟩
  have h1:=aK8 h
  have h2:X*X≤800*800:=Nat.mul_le_mul hX hX
  have h3:((2*(X*X):Nat):Q)*sm wt l≤((2*(X*X):Nat):Q)*72:=_root_.Rat.mul_le_mul_of_nonneg_left hw (aBD _)
  have h4:((2*(X*X)*72:Nat):Q)≤((10 ^ 8:Nat):Q):=aIP (by omega)
  rw [_root_.Rat.natCast_mul] at h4
  have h5:((72:Nat):Q)=72:=rfl
  rw [h5] at h4
  grind
theorem nX {D X:Nat} {l:List QL} (h:∀ x ∈ l,Lk D X x):0≤sm wt l:=rR fun x hx=>by have:=(h x hx).sc.1;unfold wt;grind
theorem vN {D X:Nat} {l:List QL} (h:∀ x ∈ l,Lk D X x) {x:QL} (hx:x ∈ l):x.w≤sm wt l:=aIx (f:=wt) (fun y hy=>by have:=(h y hy).sc.1;unfold wt;grind) x hx
structure Jn (D T X γ:Nat) (V:List Int):Prop where
  hD:0 < D
  hP:72*D≤PP
  hX:X≤800
  h0:0 < X
  hT:0 < T
  hV:V.Nodup
  hg:V.length*V.length≤2*γ+V.length
  hB:10 ^ 8*(T*(D*(72*D) ^ γ)) < BB ^ 24
theorem aKh {D T X γ:Nat} {V:List Int} (j:Jn D T X γ V) {s:List QL} (hs:∀ x ∈ s,Lk D X x∧inV V x) (ho:s.Pairwise dE) (hw:sm wt s≤72):0 < D*pn D s∧D*pn D s≤D*(72*D) ^ γ∧Dv (D*pn D s) (sm enQ s):=by
  have hl:=aDH j.hV ho (fun x hx=>(hs x hx).2)
  have hg:=j.hg
  have h1:=aFP (W:=72) j.hD (fun x hx=>(hs x hx).1.sc) (fun x hx=>by
    have:=vN (fun y hy=>(hs y hy).1) hx
    show x.w≤72;grind)
  have hD:=j.hD
  refine ⟨Nat.mul_pos j.hD (aCD j.hD (fun x hx=>(hs x hx).1.sc)),Nat.mul_le_mul_left D (Nat.le_trans h1 (Nat.pow_le_pow_right (by omega) (by omega))),aFc j.hD (fun x hx=>(hs x hx).1.sc)⟩
theorem aKL {D T X γ:Nat} {V:List Int} (j:Jn D T X γ V) {s:List QL} (hs:∀ x ∈ s,Lk D X x∧inV V x) (ho:s.Pairwise dE) (hw:sm wt s≤72) {q:Q} (hq:Dv T q) (h0:0≤q) (h1:q≤((10 ^ 8:Nat):Q)):dA (q - sm enQ s):=by
  obtain ⟨a1,a2,a3⟩:=aKh j hs ho hw
  obtain ⟨b1,b2⟩:=uO (fun x hx=>(hs x hx).1) j.hX hw
  have d:=zZ (vE (D*pn D s) hq) (by rw [Nat.mul_comm];exact vE T a3)
  refine aGV (B:=10 ^ 8) (Nat.mul_pos j.hT a1) d ?_ ?_ (by omega) (Nat.lt_of_le_of_lt (Nat.mul_le_mul_left _ (Nat.mul_le_mul_left T a2)) j.hB)
  · grind
  · grind
theorem aCi {D T X γ:Nat} {V:List Int} (j:Jn D T X γ V):∀ (l s:List QL) (q:Q),(∀ x ∈ l,Lk D X x∧inV V x∧Dv T (enQ x))→(∀ x ∈ s,Lk D X x∧inV V x)→s.Pairwise dE→sm wt s+sm wt l≤72→Dv T q→0≤q→q+sm enQ l≤((10 ^ 8:Nat):Q) →
    zP l s (q - sm enQ s)∧(∀ x ∈ (bO l s (q - sm enQ s)).1,Lk D X x∧inV V x)∧(bO l s (q - sm enQ s)).1.Pairwise dE∧(bO l s (q - sm enQ s)).2=q+sm enQ l - sm enQ (bO l s (q - sm enQ s)).1∧sm wt (bO l s (q - sm enQ s)).1=sm wt s+sm wt l
  | [],s,q,_,hs,ho,_,_,_,_=>by
    refine ⟨trivial,hs,ho,?_,?_⟩
    · simp only [bO,sm];grind
    · simp only [bO,sm];grind
  | x::r,s,q,hl,hs,ho,hw,hq,h0,hb=>by
    obtain ⟨x1,x2,x3⟩:=hl x (by simp)
    have hr:∀ y ∈ r,Lk D X y∧inV V y∧Dv T (enQ y):=fun y hy=>hl y (by simp [hy])
    rw [sm] at hw hb
    have wr:=nX (fun y hy=>(hr y hy).1)
    have ws:=nX (fun y hy=>(hs y hy).1)
    have wx:(0:Q) < wt x:=x1.sc.1
    have hp:∀ y ∈ s,0 < y.w:=fun y hy=>(hs y hy).1.sc.1
    have e1:=aJ3 s x hp x1.sc.1
    have e2:=aJ2 (f:=wt) (fun k l _ _ _ _=>aNV k l) s x hp x1.sc.1
    have n1:=aFa (P:=fun y=>Lk D X y∧inV V y) (fun a b _ _ g1 g2=>⟨aOm g1.1 g2.1,g1.2⟩) s x hs ⟨x1,x2⟩
    have n2:=aIi s x ho
    have e3:q - sm enQ s+(lI s x).2=(q+enQ x) - sm enQ (lI s x).1:=by grind
    have er:=rR (f:=enQ) (fun y hy=>aCP (hr y hy).1.sc.1)
    have ex:=aCP x1.sc.1
    have hq':=qB hq x3
    obtain ⟨g1,g2,g3,g4,g5⟩:=aCi j r (lI s x).1 (q+enQ x) hr n1 n2 (by rw [e2];grind) hq' (by grind) (by grind)
    have ft:dA ((q+enQ x) - sm enQ (lI s x).1):=aKL j n1 n2 (by rw [e2];grind) hq' (by grind) (by grind)
    have af:aBM s x:=aGg s x fun k hk=>by
      have:=hp k hk
      have:=vN (fun y hy=>(hs y hy).1) hk
      unfold wt at wx
      refine ⟨by grind,aKt j.hD j.hP (by have:=j.hX;omega) j.h0 (hs k hk).1 x1 (by
        have e:wt x=x.w:=rfl
        grind)⟩
    rw [bO,zP,e3]
    refine ⟨⟨af,ft,g1⟩,g2,g3,?_,?_⟩
    · rw [g4,sm];grind
    · rw [g5,e2,sm];grind
end Go.Ev
/- Comparison of links, conditionals, tree nodes; nodes that have changed. -/
namespace Go.Ev
set_option linter.all false
theorem aBA (a b:List Int) (h:a.length≤4294967296):gZ a b=some (decide (a=b)):=by
  unfold gZ
  by_cases hl:a.length=b.length
  · rw [if_neg (by omega),aGO a b hl (fun k ha hb=>by
      unfold pT
      rw [if_pos (by omega),aF ha,aF hb,wi (by omega)]
      simp only [Option.bind_some]
      by_cases c:a[k]=b[k]
      · rw [if_neg (by simp [c]),if_pos c]
      · rw [if_pos c,if_neg c]) (by unfold pT;rw [if_neg (by omega)])]
    by_cases c:a=b <;> simp [c]
  · rw [if_pos (by omega)]
    have:a≠b:=by rintro rfl;exact hl rfl
    simp [this]
theorem fN (r s:Rat) (h:bG r≤4294967296):cU r s=some (decide (r=s)):=by
  obtain ⟨⟨a,m⟩,d⟩:=r
  obtain ⟨⟨a',m'⟩,d'⟩:=s
  unfold bG tG qE at h
  rw [oL,oL] at h
  simp only at h
  unfold cU
  simp only []
  rw [aBA m m' (by omega),aBA d d' (by omega)]
  by_cases c1:a=a' <;> by_cases c2:m=m' <;> by_cases c3:d=d' <;> simp [c1,c2,c3]
theorem aDd (r s:Rat) (h:bG r≤4294967296):kZ r s=some (decide (r=s)):=fN r s h
theorem aIB (r s:Link) (h:bP r≤4294967296):qQ r s=some (decide (r=s)):=by
  obtain ⟨a,b,w,x,y⟩:=r
  obtain ⟨a',b',w',x',y'⟩:=s
  unfold bP at h
  simp only at h
  unfold qQ
  simp only []
  rw [fN w w' (by omega),fN x x' (by omega),fN y y' (by omega)]
  by_cases c1:a=a' <;> by_cases c2:b=b' <;> by_cases c3:w=w' <;> by_cases c4:x=x' <;> by_cases c5:y=y' <;> simp [c1,c2,c3,c4,c5]
theorem yP (a b:List Link) (h:aG a≤4294967296):mC a b=some (decide (a=b)):=by
  have hal:=iL bP a
  unfold aG at h
  unfold mC
  by_cases hl:a.length=b.length
  · rw [if_neg (by omega),aGO a b hl (fun k ha hb=>by
      have he:=kH (w:=bP) (List.getElem_mem ha)
      unfold oH
      rw [if_pos (by omega),aF ha,aF hb,wi (by omega)]
      simp only [Option.bind_some]
      rw [aIB _ _ (by omega)]
      simp only [Option.bind_some]
      by_cases c:a[k]=b[k]
      · rw [if_pos (by simp [c]),if_pos c]
      · rw [if_neg (by simp [c]),if_neg c]) (by unfold oH;rw [if_neg (by omega)])]
    by_cases c:a=b <;> simp [c]
  · rw [if_pos (by omega)]
    have:a≠b:=by rintro rfl;exact hl rfl
    simp [this]
theorem zR (a b:Conditional) (h:aS a≤4294967296):iI a b=some (decide (a=b)):=by
  obtain ⟨n,t,l⟩:=a
  obtain ⟨n',t',l'⟩:=b
  have hal:=iL iX l
  unfold aS mI at h
  simp only at h
  unfold iI
  simp only []
  rw [fN t t' (by omega)]
  by_cases c1:n=n'
  · by_cases c2:t=t'
    · by_cases hl:l.length=l'.length
      · have e:lp (fU ⟨n,t,l⟩ ⟨n',t',l'⟩) 0=some (if l=l' then .inl () else .inr false):=aGO l l' hl (fun k ha hb=>by
          have he:=kH (w:=iX) (List.getElem_mem ha)
          unfold fU
          simp only []
          rw [if_pos (by omega),aF ha,aF hb,wi (by omega)]
          simp only [Option.bind_some]
          generalize l[k]=r at *
          generalize l'[k]=s at *
          obtain ⟨a1,w,x,y⟩:=r
          obtain ⟨a2,w',x',y'⟩:=s
          have hn:iX ⟨a1,w,x,y⟩=bG w+bG x+bG y:=rfl
          simp only []
          rw [fN w w' (by omega),fN x x' (by omega),fN y y' (by omega)]
          by_cases c1:a1=a2 <;> by_cases c3:w=w' <;> by_cases c4:x=x' <;> by_cases c5:y=y' <;> simp [c1,c3,c4,c5]) (by unfold fU;simp only [];rw [if_neg (by omega)])
        rw [e]
        by_cases c:l=l' <;> simp [c1,c2,hl,c]
      · have:l≠l':=by rintro rfl;exact hl rfl
        have h2:(l.length:Int)≠(l'.length:Int):=by omega
        simp [c1,c2,this,h2]
    · simp [c1,c2]
  · simp [c1]
theorem aD4 (a b:TreeNode) (h:bN a≤4294967296):kS a b=some (decide (a=b)):=by
  obtain ⟨n,u,o,c,m,e⟩:=a
  obtain ⟨n',u',o',c',m',e'⟩:=b
  unfold bN at h
  simp only at h
  unfold kS
  simp only []
  rw [yP o o' (by omega),zR c c' (by omega),yP m m' (by omega),fN e e' (by omega)]
  by_cases c1:n=n' <;> by_cases c2:u=u' <;> by_cases c3:o=o' <;> by_cases c4:c=c' <;> by_cases c5:m=m' <;> by_cases c6:e=e' <;> simp [c1,c2,c3,c4,c5,c6]
end Go.Ev
/- Conditionals that are valid. -/
namespace Go.Ev
set_option linter.all false
theorem aKe (c:Conditional) (h:aS c≤4294967296) (hg:∀ j (hj:j < c.fParents.length),aEm c j c.fParents[j]):∀ m k:Nat,m+k=c.fParents.length→∀ s:Rat,VZ s →
    lp (bC c) ((k:Int),s)=some (.inl (((c.fParents.drop k).map (·.fShare)).foldl RA s)):=by
  have hl:=(aGH h).1
  intro m
  induction m with
  | zero =>
    intro k hk s hs
    rw [List.drop_eq_nil_of_le (by omega)]
    exact aH (by unfold bC;simp only [];rw [if_neg (by omega)];rfl)
  | succ m ih =>
    intro k hk s hs
    have hlt:k < c.fParents.length:=by omega
    obtain ⟨z1,z2,z3⟩:=aNo h hlt
    obtain ⟨g1,g2⟩:=yS _ z1
    have b1:=dX _ z2
    have b2:=dX _ z3
    obtain ⟨A,B,C,D,E,F⟩:=hg k hlt
    obtain ⟨t1,_,t3⟩:=aAO hs (.inl (yE D))
    have w1:IntKind.i64.wrap ((k:Int)+1)=((k+1:Nat):Int):=by rw [wi (by omega)];omega
    have D':¬vH (c.fParents[k]).fShare≤0:=by omega
    have st:bC c ((k:Int),s)=some (.inl (((k+1:Nat):Int),RA s (c.fParents[k]).fShare)):=by
      have hin:(k:Int) < (c.fParents.length:Int):=by omega
      unfold bC
      simp only [hin,if_true,aF hlt,Option.bind_some,aA3,g1,b1,b2,t1,w1]
      by_cases K:0 < k
      · have hlt2:k - 1 < c.fParents.length:=by omega
        have w2:IntKind.i64.wrap ((k:Int) - 1)=((k - 1:Nat):Int):=by rw [wi (by omega)];omega
        have K':(0:Int) < (k:Int):=by omega
        have C':=C (c.fParents[k - 1]) K (by rw [List.getElem?_eq_getElem hlt2])
        have C'':¬(c.fParents[k]).fNode≤(c.fParents[k - 1]).fNode:=by omega
        simp [A,B,K,K',D',w2,aF hlt2,C'',E,F]
      · have K':¬(0:Int) < (k:Int):=by omega
        simp [A,B,K,K',D',E,F]
    rw [aQ st,ih (k+1) (by omega) _ t3,List.drop_eq_getElem_cons hlt]
    rfl
theorem aIp (c:Conditional) (h:aS c≤4294967296) (h1:1≤c.fNode∧c.fNode≤9) (h2:0 < vH c.fTotal) (h3:c.fParents≠[]) (hg:∀ j (hj:j < c.fParents.length),aEm c j c.fParents[j]) (hs:(c.fParents.map (·.fShare)).foldl RA (pZ 0)=pZ 1):bD c=some true:=by
  obtain ⟨hl,hT⟩:=aGH h
  obtain ⟨g1,g2⟩:=yS _ hT
  have e:=aKe c h hg c.fParents.length 0 (by omega) (pZ 0) aJy
  rw [show ((0:Nat):Int)=0 from rfl,List.drop_zero,hs] at e
  have hp:(0:Int) < (c.fParents.length:Int):=by
    have:=List.length_pos_iff.2 h3;omega
  unfold bD
  rw [bS 0 (by omega),bS 1 (by omega)]
  simp only [Option.bind_some,e,g1,zN]
  simp [h1,h2,h3,hp,aDd (pZ 1) (pZ 1) (VZs (.inl (yY 1 (by omega))))]
end Go.Ev
/- Eliminating a node over the rational numbers. -/
namespace Go.Ev
set_option linter.all false
def aFl (v:Int) (l:QL):Bool:=decide (l.a=v∨l.b=v)
def aBL (v:Int) (l:QL):QL:=if l.a=v then ⟨l.b,v,l.w,-l.x,-l.y⟩ else ⟨l.a,v,l.w,l.x,l.y⟩
def bT (v:Int) (s:List QL):List QL:=(s.filter (aFl v)).map (aBL v)
def toA (a:QL):l08Arm:=⟨a.a,ofQ a.w,ofQ a.x,ofQ a.y⟩
theorem aMk (v:Int):∀ s:List QL,(∀ x ∈ s,x.fit)→bK v (s.map QL.toL)=(bT v s).map toA
  | [],_=>rfl
  | x::s,h=>by
    have ih:=aMk v s (fun y hy=>h y (by simp [hy]))
    obtain ⟨h1,h2,h3⟩:=h x (by simp)
    unfold bK bT at ih ⊢
    rw [List.map_cons,List.filter_cons,List.filter_cons]
    have e:tch v x.toL=aFl v x:=rfl
    rw [e]
    by_cases c:aFl v x=true
    · rw [if_pos c,if_pos c,List.map_cons,List.map_cons,List.map_cons,ih]
      congr 1
      unfold aAh aBL QL.toL toA
      simp only []
      by_cases d:x.a=v
      · rw [if_pos d,if_pos d,aOZ h2,aOZ h3]
      · rw [if_neg d,if_neg d]
    · rw [if_neg c,if_neg c,ih]
structure PQ where
  node:Int
  s:Q
  x:Q
  y:Q
structure CQ where
  node:Int
  t:Q
  ps:List PQ
def PQ.toP (p:PQ):Parent:=⟨p.node,ofQ p.s,ofQ p.x,ofQ p.y⟩
def CQ.toC (c:CQ):Conditional:=⟨c.node,ofQ c.t,c.ps.map PQ.toP⟩
def aHw (t:Q) (a:QL):PQ:=⟨a.a,a.w / t,a.x,a.y⟩
def mlQ (t:Q) (a b:QL):QL:=⟨a.a,b.a,a.w*b.w / t,a.x - b.x,a.y - b.y⟩
def sN (t:Q):List QL→List QL
  | []=>[]
  | a::r=>r.map (mlQ t a)++sN t r
def wM (v:Int) (a:List QL):CQ:=⟨v,sm wt a,a.map (aHw (sm wt a))⟩
structure Arms (D X:Nat) (v:Int) (a:List QL):Prop where
  hD:0 < D
  hP:72*D≤PP
  hX:X≤400
  h0:0 < X
  lk:∀ x ∈ a,Lk D X x
  hw:sm wt a≤72
  inc:a.Pairwise fun x y=>x.a < y.a
  nd:∀ x ∈ a,(0≤x.a∧x.a≤9)∧x.a≠v
  ne:a≠[]
  hv:1≤v∧v≤9
theorem Arms.pos {D X:Nat} {v:Int} {a:List QL} (h:Arms D X v a):0 < sm wt a:=by
  obtain ⟨x,hx⟩:=List.exists_mem_of_ne_nil a h.ne
  have:=vN h.lk hx
  have:=(h.lk x hx).sc.1
  grind
theorem aAq {D X:Nat} {a:List QL} (h:∀ x ∈ a,Lk D X x):Dv D (sm wt a):=aIm fun x hx=>(h x hx).sc.2.1
theorem Arms.le {D X:Nat} {v:Int} {a:List QL} (h:Arms D X v a) {x:QL} (hx:x ∈ a):x.w≤72:=by
  have:=vN h.lk hx
  have:=h.hw
  grind
theorem Arms.fit {D X:Nat} {v:Int} {a:List QL} (h:Arms D X v a) {x:QL} (hx:x ∈ a):x.fit:=aGR h.hD h.hP (h.lk x hx) (by have:=h.hX;omega) h.h0 (h.le hx)
theorem w72 {D:Nat} {q:Q} (hD:0 < D) (hP:72*D≤PP) (h0:0≤q) (h1:q≤72) (hd:Dv D q):dA q:=by
  refine iJ (B:=72) hD hd ⟨?_,h1⟩ (by omega) (by omega) (oG (a:=1) (by rw [Nat.pow_one];omega) (by omega))
  have:=aBD 72
  grind
theorem aLX {D X:Nat} (hD:0 < D) (hP:72*D≤PP):∀ (a:List QL) (t:Q),(∀ x ∈ a,Lk D X x)→Dv D t→0≤t→t+sm wt a≤72→(a.map toA).foldl (fun t a=>RA t a.fweight) (ofQ t)=ofQ (t+sm wt a)
  | [],t,_,_,_,_=>by simp only [List.map_nil,List.foldl_nil,sm];congr 1;grind
  | x::a,t,h,ht,h0,hw=>by
    have hx:=h x (by simp)
    have hr:=fun y hy=>h y (List.mem_cons_of_mem x hy)
    have wr:=nX hr
    have wx:0 < wt x:=hx.sc.1
    rw [sm] at hw ⊢
    have d2:=qB ht hx.sc.2.1
    have e:wt x=x.w:=rfl
    have f1:=w72 hD hP h0 (by grind) ht
    have f2:dA x.w:=w72 hD hP (by grind) (by grind) hx.sc.2.1
    have f3:dA (t+x.w):=w72 hD hP (by grind) (by grind) d2
    rw [List.map_cons,List.foldl_cons]
    have e1:RA (ofQ t) (toA x).fweight=ofQ (t+x.w):=aG8 f1 f2 f3
    rw [e1,aLX hD hP a (t+x.w) hr d2 (by grind) (by grind)]
    congr 1;grind
theorem Arms.tot {D X:Nat} {v:Int} {a:List QL} (h:Arms D X v a):qD (a.map toA)=ofQ (sm wt a):=by
  unfold qD
  rw [aDP,aLX h.hD h.hP a 0 h.lk ⟨0,by simp⟩ (by grind) (by have:=h.hw;grind)]
  congr 1;grind
theorem Arms.ftot {D X:Nat} {v:Int} {a:List QL} (h:Arms D X v a):dA (sm wt a):=w72 h.hD h.hP (by have:=h.pos;grind) h.hw (aAq h.lk)
theorem aBT {D X:Nat} {v:Int} {a:List QL} (h:Arms D X v a) {x:QL} (hx:x ∈ a):Dv (nm D (sm wt a)) (x.w / sm wt a)∧0 < x.w / sm wt a∧x.w / sm wt a≤1:=by
  have hp:=h.pos
  have hl:=vN h.lk hx
  have hx0:=(h.lk x hx).sc.1
  refine ⟨aCs h.hD hp (aAq h.lk) (h.lk x hx).sc.2.1,?_,?_⟩
  · rw [_root_.Rat.lt_div_iff hp];grind
  · have:=aGX (A:=1) (p:=x.w) hp (by grind) (by have e:((1:Nat):Q)=1:=rfl;rw [e];grind)
    have e:((1:Nat):Q)=1:=rfl
    unfold bd at this;rw [e] at this;grind
theorem Arms.nN {D X:Nat} {v:Int} {a:List QL} (h:Arms D X v a):0 < nm D (sm wt a)∧nm D (sm wt a)≤72*D :=
  ⟨(aAb h.hD h.pos (aAq h.lk)).2,aC5 h.hD h.pos (aAq h.lk) h.hw⟩
theorem aHz {N:Nat} {q:Q} (hN:0 < N) (hP:N≤PP) (h0:0≤q) (h1:q≤1) (hd:Dv N q):dA q:=by
  refine iJ (B:=1) hN hd ⟨?_,h1⟩ (by omega) (by omega) (oG (a:=1) (by rw [Nat.pow_one];omega) (by omega))
  have e:((1:Nat):Q)=1:=rfl
  rw [e];grind
theorem aLY {D X:Nat} {v:Int} {a:List QL} (h:Arms D X v a):∀ (b:List QL) (t:Q),(∀ x ∈ b,x ∈ a)→Dv (nm D (sm wt a)) t→0≤t→t+sm (fun x=>x.w / sm wt a) b≤1→((b.map (aHw (sm wt a))).map fun p=>ofQ p.s).foldl RA (ofQ t)=ofQ (t+sm (fun x=>x.w / sm wt a) b)
  | [],t,_,_,_,_=>by simp only [List.map_nil,List.foldl_nil,sm];congr 1;grind
  | x::b,t,hb,ht,h0,hw=>by
    obtain ⟨s1,s2,s3⟩:=aBT h (hb x (by simp))
    have hr:=fun y hy=>hb y (List.mem_cons_of_mem x hy)
    have wr:0≤sm (fun x=>x.w / sm wt a) b:=rR fun y hy=>by have:=(aBT h (hr y hy)).2.1;grind
    obtain ⟨n1,n2⟩:=h.nN
    have nP:nm D (sm wt a)≤PP:=by have:=h.hP;omega
    rw [sm] at hw ⊢
    have d2:=qB ht s1
    have f1:=aHz n1 nP h0 (by grind) ht
    have f2:=aHz n1 nP (by grind) s3 s1
    have f3:dA (t+x.w / sm wt a):=aHz n1 nP (by grind) (by grind) d2
    rw [List.map_cons,List.map_cons,List.foldl_cons]
    have e1:RA (ofQ t) (ofQ (aHw (sm wt a) x).s)=ofQ (t+x.w / sm wt a):=aG8 f1 f2 f3
    rw [e1,aLY h b _ hr d2 (by grind) (by grind)]
    congr 1;grind
theorem aK9 (t:Q):∀ a:List QL,sm (fun x=>x.w / t) a=sm wt a / t
  | []=>by simp [sm];grind
  | x::a=>by rw [sm,sm,aK9 t a];unfold wt;grind
theorem Arms.share_sum {D X:Nat} {v:Int} {a:List QL} (h:Arms D X v a):sm (fun x=>x.w / sm wt a) a=1:=by
  rw [aK9]
  have:=h.pos
  have:sm wt a≠0:=by grind
  grind
theorem aOG:pZ 1=ofQ 1:=aAt (by decide)
theorem Arms.cond {D X:Nat} {v:Int} {a:List QL} (h:Arms D X v a):aBx v (a.map toA)=(wM v a).toC:=by
  unfold aBx wM CQ.toC
  rw [h.tot]
  simp only [List.map_map]
  congr 1
  refine List.map_congr_left fun x hx=>?_
  obtain ⟨s1,s2,s3⟩:=aBT h hx
  obtain ⟨n1,n2⟩:=h.nN
  have f2:=aHz n1 (by have:=h.hP;omega) (by grind) s3 s1
  have:=h.pos
  show fQ (ofQ (sm wt a)) (toA x)=(aHw (sm wt a) x).toP
  unfold fQ toA aHw PQ.toP
  simp only []
  rw [aMq (h.fit hx).1 h.ftot (by grind) f2]
theorem Arms.armOk {D X:Nat} {v:Int} {a:List QL} (h:Arms D X v a):∀ x ∈ a.map toA,tF x:=by
  intro x hx
  obtain ⟨y,hy,rfl⟩:=List.mem_map.1 hx
  obtain ⟨f1,f2,f3⟩:=h.fit hy
  exact ⟨(h.nd y hy).1,uU f1,uU f2,uU f3⟩
theorem aLV {a:List QL} (inc:a.Pairwise fun x y=>x.a < y.a) (nd:∀ x ∈ a,0≤x.a∧x.a≤9):a.length≤10:=by
  have n:(a.map fun x=>x.a).Nodup:=by
    rw [List.Nodup,List.pairwise_map]
    exact inc.imp fun {x y} hxy e=>by omega
  have:=n.length_le_of_subset (l₂:=[0,1,2,3,4,5,6,7,8,9]) (fun z hz=>by
    obtain ⟨x,hx,rfl⟩:=List.mem_map.1 hz
    have:=nd x hx
    simp only [List.mem_cons,List.not_mem_nil,or_false];omega)
  simpa using this
theorem Arms.condOk {D X:Nat} {v:Int} {a:List QL} (h:Arms D X v a):condOk v (a.map toA):=by
  have hl:=aLV h.inc (fun x hx=>(h.nd x hx).1)
  have hz:=aGY (v:=v) h.armOk (by rw [List.length_map];omega)
  obtain ⟨n1,n2⟩:=h.nN
  unfold Go.Ev.condOk
  rw [h.cond] at hz ⊢
  refine aIp _ hz h.hv ((aIy h.ftot).2 h.pos) ?_ ?_ ?_
  · unfold CQ.toC wM
    simp only [ne_eq,List.map_eq_nil_iff]
    exact h.ne
  · intro j hj
    have hj':j < a.length:=by unfold CQ.toC wM at hj;simpa using hj
    have e:(wM v a).toC.fParents[j]=(aHw (sm wt a) a[j]).toP:=by
      unfold CQ.toC wM;simp
    rw [e]
    have hm:=List.getElem_mem hj'
    obtain ⟨s1,s2,s3⟩:=aBT h hm
    have f2:=aHz n1 (by have:=h.hP;omega) (by grind) s3 s1
    obtain ⟨f3,f4,f5⟩:=h.fit hm
    refine ⟨(h.nd _ hm).1,(h.nd _ hm).2,fun q hq hk=>?_,(aIy f2).2 s2,uV f4,uV f5⟩
    have hk':j - 1 < a.length:=by omega
    have e2:(wM v a).toC.fParents[j - 1]?=some (aHw (sm wt a) a[j - 1]).toP:=by
      unfold CQ.toC wM;simp [hk']
    rw [e2] at hk
    cases hk
    exact (List.pairwise_iff_getElem.1 h.inc) (j - 1) j hk' hj' (by omega)
  · have e:((wM v a).toC.fParents.map fun p=>p.fShare)=((a.map (aHw (sm wt a))).map fun p=>ofQ p.s):=by
      unfold CQ.toC wM;simp [PQ.toP,Function.comp_def]
    rw [e,aDP,aLY h a 0 (fun x hx=>hx) ⟨0,by simp⟩ (by grind) (by rw [h.share_sum];grind),h.share_sum,aOG]
    congr 1;grind
end Go.Ev
/- The mesh of an eliminated node over the rational numbers. -/
namespace Go.Ev
set_option linter.all false
theorem aEt {D:Nat} {p q:Q} (hp:Dv D p) (hq:Dv D q) {W:Q} {N:Nat} (hN:(N:Q)=W*D) (hW:W≠0):Dv (D*N) (p*q / W):=by
  obtain ⟨a,ha⟩:=hp
  obtain ⟨b,hb⟩:=hq
  refine ⟨a*b,?_⟩
  rw [_root_.Rat.natCast_mul,hN,_root_.Rat.intCast_mul,← ha,← hb]
  grind
theorem aLI {D X:Nat} {v:Int} {a:List QL} (h:Arms D X v a) {x y:QL} (hx:x ∈ a) (hy:y ∈ a) (hxy:x.a < y.a) :
    tD (ofQ (sm wt a)) (toA x) (toA y)=(mlQ (sm wt a) x y).toL∧(mlQ (sm wt a) x y).fit∧(mlQ (sm wt a) x y).ok∧Lk (D*nm D (sm wt a)) (2*X) (mlQ (sm wt a) x y)∧Dv (D*nm D (sm wt a)*(nm D x.w*nm D y.w)) (enQ (mlQ (sm wt a) x y)):=by
  have hp:=h.pos
  have lx:=h.lk x hx
  have ly:=h.lk y hy
  obtain ⟨n1,n2⟩:=h.nN
  have hN:=(aAb h.hD hp (aAq h.lk)).1
  have hW:sm wt a≠0:=by grind
  obtain ⟨fx1,fx2,fx3⟩:=h.fit hx
  obtain ⟨fy1,fy2,fy3⟩:=h.fit hy
  have dx:=lx.sc.2.1
  have dy:=ly.sc.2.1
  have px:=lx.sc.1
  have py:=ly.sc.1
  have bx:=aKd px (h.le hx)
  have by_:=aKd py (h.le hy)
  have hD:=h.hD
  have hP:=h.hP
  have hX:=h.hX
  have h0:=h.h0
  have eD:D≤PP ^ 1:=by rw [Nat.pow_one];omega
  have eN:nm D (sm wt a)≤PP ^ 1:=by rw [Nat.pow_one];omega
  have ex:nm D x.w≤PP ^ 1:=by have:=aC5 (W:=72) h.hD px dx (h.le hx);rw [Nat.pow_one];omega
  have ey:nm D y.w≤PP ^ 1:=by have:=aC5 (W:=72) h.hD py dy (h.le hy);rw [Nat.pow_one];omega
  obtain ⟨ex1,ex2⟩:=aAb h.hD px dx
  obtain ⟨ey1,ey2⟩:=aAb h.hD py dy
  have f1:dA (x.w*y.w):=iJ (Nat.mul_pos hD hD) (aAa dx dy) (rN bx by_) (by decide) (by decide) (oG (xM eD eD) (by omega))
  have dw:Dv (D*nm D (sm wt a)) (x.w*y.w / sm wt a):=aEt dx dy hN hW
  have pxy:=_root_.Rat.mul_pos px py
  have pw:0 < x.w*y.w / sm wt a:=by rw [_root_.Rat.lt_div_iff hp];grind
  have bw:bd 72 (x.w*y.w / sm wt a):=by
    have l1:=vN h.lk hx
    have l2:0≤(sm wt a - x.w)*y.w:=_root_.Rat.mul_nonneg (by grind) (by grind)
    have l3:0≤((72:Nat) - y.w)*sm wt a:=_root_.Rat.mul_nonneg (by have:=h.le hy;have e:((72:Nat):Q)=72:=rfl;grind) (by grind)
    have l4:=_root_.Rat.mul_nonneg (aBD 72) (Std.le_of_lt hp)
    exact aGX hp (by grind) (by grind)
  have f2:dA (x.w*y.w / sm wt a):=iJ (Nat.mul_pos hD n1) dw bw (by omega) (by omega) (oG (xM eD eN) (by omega))
  obtain ⟨xx,xy⟩:=aJi h.hD lx.sc
  obtain ⟨yx,yy⟩:=aJi h.hD ly.sc
  have gx:=zZ (vE (nm D y.w) xx) (by rw [Nat.mul_comm];exact vE (nm D x.w) yx)
  have gy:=zZ (vE (nm D y.w) xy) (by rw [Nat.mul_comm];exact vE (nm D x.w) yy)
  have cx:=aGZ lx.bx ly.bx
  have cy:=aGZ lx.by' ly.by'
  have f3:dA (x.x - y.x):=iJ (Nat.mul_pos ex2 ey2) gx cx (by omega) (by omega) (oG (xM ex ey) (by omega))
  have f4:dA (x.y - y.y):=iJ (Nat.mul_pos ex2 ey2) gy cy (by omega) (by omega) (oG (xM ex ey) (by omega))
  have lk:Lk (D*nm D (sm wt a)) (2*X) (mlQ (sm wt a) x y):=by
    refine ⟨⟨pw,dw,?_,?_⟩,by rw [Nat.two_mul];exact cx,by rw [Nat.two_mul];exact cy⟩
    · have e:mx (mlQ (sm wt a) x y)=mx x*y.w / sm wt a - x.w*mx y / sm wt a:=by unfold mx mlQ;simp only [];grind
      rw [e]
      exact zZ (aEt lx.sc.2.2.1 dy hN hW) (aEt dx ly.sc.2.2.1 hN hW)
    · have e:my (mlQ (sm wt a) x y)=my x*y.w / sm wt a - x.w*my y / sm wt a:=by unfold my mlQ;simp only [];grind
      rw [e]
      exact zZ (aEt lx.sc.2.2.2 dy hN hW) (aEt dx ly.sc.2.2.2 hN hW)
  refine ⟨?_,⟨f2,f3,f4⟩,⟨(h.nd x hx).1,(h.nd y hy).1,hxy,pw⟩,lk,?_⟩
  · unfold tD toA mlQ QL.toL
    simp only []
    rw [aG7 fx1 fy1 f1,aMq f1 h.ftot hW f2,aNc fx2 fy2 f3,aNc fx3 fy3 f4]
  · have hDN:0 < D*nm D (sm wt a):=Nat.mul_pos hD n1
    have e1:=(aAb hDN pw dw).1
    have e2:nm (D*nm D (sm wt a)) (x.w*y.w / sm wt a)=nm D x.w*nm D y.w:=by
      refine _root_.Rat.natCast_inj.1 ?_
      rw [e1,_root_.Rat.natCast_mul,_root_.Rat.natCast_mul,hN,ex1,ey1]
      grind
    have:=aJ6 hDN lk.sc
    have e3:(mlQ (sm wt a) x y).w=x.w*y.w / sm wt a:=rfl
    rw [e3,e2] at this
    exact this
theorem aHF (t:Q):∀ {a:List QL} {z:QL},z ∈ sN t a→∃ p x q y r,a=p++x::(q++y::r)∧z=mlQ t x y
  | x::a,z,h=>by
    rw [sN,List.mem_append] at h
    rcases h with h | h
    · obtain ⟨y,hy,rfl⟩:=List.mem_map.1 h
      obtain ⟨q,r,e⟩:=List.append_of_mem hy
      exact ⟨[],x,q,y,r,by rw [e];rfl,rfl⟩
    · obtain ⟨p,x',q,y,r,e,h2⟩:=aHF t h
      exact ⟨x::p,x',q,y,r,by rw [e];rfl,h2⟩
theorem Arms.mesh {D X:Nat} {v:Int} {a:List QL} (h:Arms D X v a):∀ p b:List QL,a=p++b→iA (ofQ (sm wt a)) (b.map toA)=(sN (sm wt a) b).map QL.toL
  | _,[],_=>rfl
  | p,x::b,e=>by
    have ih:=h.mesh (p++[x]) b (by rw [e,List.append_assoc];rfl)
    rw [List.map_cons,iA,sN,List.map_append,ih]
    congr 1
    rw [List.map_map,List.map_map]
    refine List.map_congr_left fun y hy=>?_
    have hx:x ∈ a:=by rw [e];simp
    have hy':y ∈ a:=by rw [e];simp [hy]
    have hxy:x.a < y.a:=by
      have:=h.inc
      rw [e,List.pairwise_append,List.pairwise_cons] at this
      exact this.2.1.1 y hy
    exact (aLI h hx hy' hxy).1
theorem aNQ (D:Nat) {p q r:List QL} {x y:QL}:nm D x.w*nm D y.w ∣ pn D (p++x::(q++y::r)):=by
  rw [aIE,pn,aIE,pn]
  refine Nat.dvd_trans ?_ (Nat.dvd_mul_left _ _)
  refine Nat.mul_dvd_mul_left _ (Nat.dvd_trans ?_ (Nat.dvd_mul_left _ _))
  exact Nat.dvd_mul_right _ _
theorem Arms.each {D X:Nat} {v:Int} {a:List QL} (h:Arms D X v a) {z:QL} (hz:z ∈ sN (sm wt a) a) :
    z.fit∧z.ok∧Lk (D*nm D (sm wt a)) (2*X) z∧Dv (D*nm D (sm wt a)*pn D a) (enQ z)∧(∃ x ∈ a,x.a=z.a)∧∃ y ∈ a,y.a=z.b:=by
  obtain ⟨p,x,q,y,r,e,rfl⟩:=aHF _ hz
  have hx:x ∈ a:=by rw [e];simp
  have hy:y ∈ a:=by rw [e];simp
  have hxy:x.a < y.a:=by
    have:=h.inc
    rw [e,List.pairwise_append,List.pairwise_cons] at this
    exact this.2.1.1 y (by simp)
  obtain ⟨_,f,o,l,d⟩:=aLI h hx hy hxy
  refine ⟨f,o,l,yB d (Nat.mul_dvd_mul_left _ ?_),⟨x,hx,rfl⟩,y,hy,rfl⟩
  conv=>rhs;rw [e]
  exact aNQ D
theorem aHH (t:Q):∀ {a:List QL},a.Pairwise (fun x y=>x.a < y.a)→∀ x ∈ a,∀ y ∈ a,x.a < y.a→mlQ t x y ∈ sN t a
  | z::a,h,x,hx,y,hy,hxy=>by
    rw [List.pairwise_cons] at h
    rw [sN,List.mem_append]
    rcases List.mem_cons.1 hx with e | hx
    · rcases List.mem_cons.1 hy with e2 | hy
      · rw [e,e2] at hxy;omega
      · exact .inl (by rw [e];exact List.mem_map_of_mem hy)
    · rcases List.mem_cons.1 hy with e2 | hy
      · have:=h.1 x hx;rw [e2] at hxy;omega
      · exact .inr (aHH t h.2 x hx y hy hxy)
theorem aJJ {t:Q} (ht:0 < t):∀ {a:List QL},(∀ x ∈ a,0≤wt x)→sm wt (sN t a)*t≤sm wt a*sm wt a
  | [],_=>by simp [sN,sm]
  | x::a,h=>by
    have ih:=aJJ ht (a:=a) (fun y hy=>h y (by simp [hy]))
    have h1:=h x (by simp)
    have h2:0≤sm wt a:=rR fun y hy=>h y (by simp [hy])
    have e:∀ b:List QL,sm wt (b.map (mlQ t x))*t=wt x*sm wt b:=by
      intro b
      induction b with
      | nil=>simp [sm]
      | cons y b ih2 =>
        rw [List.map_cons,sm,sm,_root_.Rat.add_mul,ih2]
        have e3:wt (mlQ t x y)=wt x*wt y / t:=rfl
        rw [e3]
        have:t≠0:=by grind
        grind
    rw [sN,yW,sm,_root_.Rat.add_mul,e]
    have h3:=_root_.Rat.mul_nonneg h1 h2
    have h4:=_root_.Rat.mul_nonneg h1 h1
    grind
theorem Arms.mesh_le {D X:Nat} {v:Int} {a:List QL} (h:Arms D X v a):sm wt (sN (sm wt a) a)≤sm wt a:=by
  have:=aJJ h.pos (a:=a) (fun x hx=>by have:=(h.lk x hx).sc.1;unfold wt;grind)
  exact _root_.Rat.le_of_mul_le_mul_right this h.pos
theorem aN3 {D X:Nat} {v:Int} {s:List QL} (hs:∀ x ∈ s,x.fit) (h:Arms D X v (bT v s)) :
    wL v (s.map QL.toL)=some ((wM v (bT v s)).toC,(sN (sm wt (bT v s)) (bT v s)).map QL.toL):=by
  have e1:=aMk v s hs
  have e2:=h.mesh [] (bT v s) rfl
  have hv:∀ x ∈ iA (qD (bK v (s.map QL.toL))) (bK v (s.map QL.toL)),ValidL x:=by
    rw [e1,h.tot,e2]
    intro x hx
    obtain ⟨z,hz,rfl⟩:=List.mem_map.1 hx
    obtain ⟨f,o,_⟩:=h.each hz
    exact (aFC f).2 o
  rw [aGW ⟨h.hv,by rw [e1];exact h.condOk,hv⟩,e1,h.tot,e2,h.cond]
end Go.Ev
/- From a front to its arms, rest and mesh. -/
namespace Go.Ev
set_option linter.all false
theorem aDM (v:Int) (l:QL):(aBL v l).w=l.w:=by unfold aBL;split <;> rfl
theorem aM7 (v:Int) (l:QL):enQ (aBL v l)=enQ l:=by
  unfold aBL enQ sqQ
  split
  · simp only [];grind
  · rfl
theorem aM6 {D X:Nat} (v:Int) {l:QL} (h:Lk D X l):Lk D X (aBL v l):=by
  unfold aBL
  split
  · refine ⟨⟨h.sc.1,h.sc.2.1,?_,?_⟩,aMh h.bx,aMh h.by'⟩
    · have e:mx ⟨l.b,v,l.w,-l.x,-l.y⟩=- mx l:=by unfold mx;simp only [];grind
      rw [e];exact aJr h.sc.2.2.1
    · have e:my ⟨l.b,v,l.w,-l.x,-l.y⟩=- my l:=by unfold my;simp only [];grind
      rw [e];exact aJr h.sc.2.2.2
  · exact ⟨h.sc,h.bx,h.by'⟩
def xC (v:Int) (s:List QL):List QL:=s.filter (fun l=>!aFl v l)
theorem aLf (v:Int):∀ s:List QL,xD v (s.map QL.toL)=(xC v s).map QL.toL
  | []=>rfl
  | x::s=>by
    have ih:=aLf v s
    unfold xD xC at ih ⊢
    rw [List.map_cons,List.filter_cons,List.filter_cons]
    have e:tch v x.toL=aFl v x:=rfl
    rw [e,ih]
    split <;> rfl
theorem aAo (f:QL→Q) (v:Int) (hf:∀ l,f (aBL v l)=f l):∀ s:List QL,sm f s=sm f (bT v s)+sm f (xC v s)
  | []=>by simp only [bT,xC,List.filter_nil,List.map_nil,sm];grind
  | x::s=>by
    have ih:=aAo f v hf s
    unfold bT xC at ih ⊢
    rw [List.filter_cons,List.filter_cons,sm]
    by_cases c:aFl v x=true
    · simp only [c,Bool.not_true,if_true,Bool.false_eq_true,if_false,List.map_cons,sm,hf];grind
    · simp only [c,Bool.not_eq_true,if_false,Bool.not_false,if_true,sm];grind
theorem aHj (D:Nat) (v:Int):∀ s:List QL,pn D s=pn D (bT v s)*pn D (xC v s)
  | []=>rfl
  | x::s=>by
    have ih:=aHj D v s
    unfold bT xC at ih ⊢
    rw [List.filter_cons,List.filter_cons,pn,ih]
    by_cases c:aFl v x=true
    · simp only [c,Bool.not_true,if_true,Bool.false_eq_true,if_false,List.map_cons,pn,aDM,Nat.mul_assoc]
    · simp only [c,if_false,Bool.not_false,if_true,pn]
      simp [Nat.mul_left_comm]
theorem yJ {v:Int} {s:List QL} {a:QL}:a ∈ bT v s↔∃ l ∈ s,(l.a=v∨l.b=v)∧a=aBL v l:=by
  unfold bT
  rw [List.mem_map]
  constructor
  · rintro ⟨l,hl,rfl⟩
    rw [List.mem_filter] at hl
    have:=hl.2
    unfold aFl at this
    exact ⟨l,hl.1,of_decide_eq_true this,rfl⟩
  · rintro ⟨l,hl,ht,rfl⟩
    refine ⟨l,List.mem_filter.2 ⟨hl,?_⟩,rfl⟩
    unfold aFl;exact decide_eq_true ht
theorem aB6 {v:Int} {s:List QL} {l:QL}:l ∈ xC v s↔l ∈ s∧l.a≠v∧l.b≠v:=by
  unfold xC aFl
  rw [List.mem_filter]
  simp [not_or]
theorem aCo {v:Int} {l:QL} (h:l.a=v∨l.b=v) (hl:l.a < l.b):(l.a=v∧(aBL v l).a=l.b)∨(l.b=v∧l.a≠v∧(aBL v l).a=l.a):=by
  unfold aBL
  by_cases c:l.a=v
  · rw [if_pos c];exact .inl ⟨c,rfl⟩
  · rw [if_neg c]
    rcases h with h | h
    · exact absurd h c
    · exact .inr ⟨h,c,rfl⟩
theorem aMj {v:Int} {s:List QL} (ho:s.Pairwise dE) (h:∀ x ∈ s,x.a < x.b):(bT v s).Pairwise fun x y=>x.a < y.a:=by
  unfold bT
  rw [List.pairwise_map]
  refine List.Pairwise.imp_of_mem (fun {x y} hx hy hr=>?_) (ho.sublist List.filter_sublist)
  rw [List.mem_filter] at hx hy
  have tx:=of_decide_eq_true hx.2
  have ty:=of_decide_eq_true hy.2
  have h1:=h x hx.1
  have h2:=h y hy.1
  have g1:=aCo tx h1
  have g2:=aCo ty h2
  unfold dE at hr
  omega
structure Front (D X:Nat) (V:List Int) (v:Int) (s:List QL):Prop where
  hD:0 < D
  hP:72*D≤PP
  hX:X≤400
  h0:0 < X
  lk:∀ x ∈ s,Lk D X x∧inV V x
  ord:s.Pairwise dE
  hw:sm wt s≤72
  hV:V.Nodup
  hn:∀ u ∈ V,0≤u∧u≤9
  hv:v ∈ V
  h1:1≤v
  ne:bT v s≠[]
theorem Front.armLk {D X:Nat} {V:List Int} {v:Int} {s:List QL} (h:Front D X V v s):∀ x ∈ bT v s,Lk D X x:=by
  intro x hx
  obtain ⟨l,hl,_,rfl⟩:=yJ.1 hx
  exact aM6 v (h.lk l hl).1
theorem Front.armV {D X:Nat} {V:List Int} {v:Int} {s:List QL} (h:Front D X V v s):∀ x ∈ bT v s,x.a ∈ V∧x.a≠v:=by
  intro x hx
  obtain ⟨l,hl,ht,rfl⟩:=yJ.1 hx
  obtain ⟨_,i1,i2,i3⟩:=h.lk l hl
  rcases aCo ht i3 with ⟨e1,e2⟩ | ⟨e1,e2,e3⟩
  · rw [e2];exact ⟨i2,by omega⟩
  · rw [e3];exact ⟨i1,by omega⟩
theorem Front.arms {D X:Nat} {V:List Int} {v:Int} {s:List QL} (h:Front D X V v s):Arms D X v (bT v s) where
  hD:=h.hD
  hP:=h.hP
  hX:=h.hX
  h0:=h.h0
  lk:=h.armLk
  hw:=by
    have e:=aAo wt v (fun l=>aDM v l) s
    have:0≤sm wt (xC v s):=nX fun x hx=>(h.lk x (aB6.1 hx).1).1
    have:=h.hw
    grind
  inc:=aMj h.ord fun x hx=>(h.lk x hx).2.2.2
  nd:=fun x hx=>⟨h.hn _ (h.armV x hx).1,(h.armV x hx).2⟩
  ne:=h.ne
  hv:=⟨h.h1,(h.hn v h.hv).2⟩
theorem Front.fit {D X:Nat} {V:List Int} {v:Int} {s:List QL} (h:Front D X V v s):∀ x ∈ s,x.fit:=fun x hx =>
  aGR h.hD h.hP (h.lk x hx).1 (by have:=h.hX;omega) h.h0 (by
    have:=vN (fun y hy=>(h.lk y hy).1) hx
    have:=h.hw
    grind)
def kB (v:Int) (s:List QL):List QL:=xC v s++sN (sm wt (bT v s)) (bT v s)
theorem aJ7 {D E X Y:Nat} {l:QL} (h:Lk D X l) (hd:D ∣ E) (hx:X≤Y):Lk E Y l:=⟨aOd h.sc hd,aNy h.bx hx,aNy h.by' hx⟩
theorem Front.next {D X:Nat} {V:List Int} {v:Int} {s:List QL} (h:Front D X V v s) {N:Nat} (hN:N=nm D (sm wt (bT v s))) :
    (∀ x ∈ kB v s,Lk (D*N) (2*X) x∧inV (V.erase v) x∧Dv (D*N*pn D s) (enQ x)∧x.fit∧x.ok)∧sm wt (kB v s)≤sm wt s:=by
  subst hN
  have ha:=h.arms
  obtain ⟨n1,n2⟩:=ha.nN
  constructor
  · intro x hx
    rcases List.mem_append.1 hx with hx | hx
    · obtain ⟨m1,m2,m3⟩:=aB6.1 hx
      obtain ⟨l1,l2,l3,l4⟩:=h.lk x m1
      refine ⟨aJ7 l1 (Nat.dvd_mul_right _ _) (by omega),⟨(h.hV.mem_erase_iff).2 ⟨m2,l2⟩,(h.hV.mem_erase_iff).2 ⟨m3,l3⟩,l4⟩,?_,h.fit x m1,(h.hn _ l2),(h.hn _ l3),l4,l1.sc.1⟩
      refine yB (aJ6 h.hD l1.sc) ?_
      rw [Nat.mul_assoc]
      exact Nat.mul_dvd_mul_left _ (Nat.dvd_trans (aGG D x m1) (Nat.dvd_mul_left _ _))
    · obtain ⟨e1,e2,e3,e4,⟨y,hy,e5⟩,z,hz,e6⟩:=ha.each hx
      have v1:=h.armV y hy
      have v2:=h.armV z hz
      rw [e5] at v1
      rw [e6] at v2
      refine ⟨e3,⟨(h.hV.mem_erase_iff).2 ⟨v1.2,v1.1⟩,(h.hV.mem_erase_iff).2 ⟨v2.2,v2.1⟩,e2.2.2.1⟩,yB e4 ?_,e1,e2⟩
      refine Nat.mul_dvd_mul_left _ ?_
      rw [aHj D v s]
      exact Nat.dvd_mul_right _ _
  · unfold kB
    rw [yW,aAo wt v (fun l=>aDM v l) s]
    have:=ha.mesh_le
    grind
end Go.Ev
/- A node of a tree over the rational numbers. -/
namespace Go.Ev
set_option linter.all false
def aFH (x y:QL):Prop:=x.a=y.a∧x.b=y.b
theorem aGf:∀ (s:List QL) (l:QL),∀ y ∈ (lI s l).1,(∃ x ∈ s,aFH x y)∨aFH l y
  | [],l,y,hy=>by simp [lI] at hy;subst hy;exact .inr ⟨rfl,rfl⟩
  | k::s,l,y,hy=>by
    by_cases c:dE k l
    · rw [tT c] at hy
      rcases List.mem_cons.1 hy with rfl | hy
      · exact .inl ⟨y,by simp,rfl,rfl⟩
      · rcases aGf s l y hy with ⟨x,hx,h⟩ | h
        · exact .inl ⟨x,by simp [hx],h⟩
        · exact .inr h
    · by_cases d:dE l k
      · rw [wR c d] at hy
        rcases List.mem_cons.1 hy with rfl | hy
        · exact .inr ⟨rfl,rfl⟩
        · exact .inl ⟨y,hy,rfl,rfl⟩
      · rw [wQ c d] at hy
        rcases List.mem_cons.1 hy with rfl | hy
        · exact .inl ⟨k,by simp,rfl,rfl⟩
        · exact .inl ⟨y,by simp [hy],rfl,rfl⟩
theorem aIj:∀ (s:List QL) (l:QL),(∀ x ∈ s,∃ y ∈ (lI s l).1,aFH x y)∧∃ y ∈ (lI s l).1,aFH l y
  | [],l=>⟨by simp,l,by simp [lI],rfl,rfl⟩
  | k::s,l=>by
    by_cases c:dE k l
    · rw [tT c]
      obtain ⟨h1,h2⟩:=aIj s l
      refine ⟨fun x hx=>?_,?_⟩
      · rcases List.mem_cons.1 hx with rfl | hx
        · exact ⟨x,by simp,rfl,rfl⟩
        · obtain ⟨y,hy,h⟩:=h1 x hx
          exact ⟨y,by simp [hy],h⟩
      · obtain ⟨y,hy,h⟩:=h2
        exact ⟨y,by simp [hy],h⟩
    · by_cases d:dE l k
      · rw [wR c d]
        exact ⟨fun x hx=>⟨x,by simp only [List.mem_cons] at hx ⊢;exact .inr hx,rfl,rfl⟩,l,by simp,rfl,rfl⟩
      · rw [wQ c d]
        refine ⟨fun x hx=>?_,mrg k l,by simp,(aAT c d).1.symm,(aAT c d).2.symm⟩
        rcases List.mem_cons.1 hx with rfl | hx
        · exact ⟨mrg x l,by simp,rfl,rfl⟩
        · exact ⟨x,by simp [hx],rfl,rfl⟩
theorem zO:∀ (l s:List QL) (e:Q),∀ y ∈ (bO l s e).1,∃ x,(x ∈ s∨x ∈ l)∧aFH x y
  | [],s,e,y,hy=>⟨y,.inl hy,rfl,rfl⟩
  | z::l,s,e,y,hy=>by
    rw [bO] at hy
    obtain ⟨x,hx,h1,h2⟩:=zO l _ _ y hy
    rcases hx with hx | hx
    · rcases aGf s z x hx with ⟨w,hw,g1,g2⟩ | ⟨g1,g2⟩
      · exact ⟨w,.inl hw,g1.trans h1,g2.trans h2⟩
      · exact ⟨z,.inr (by simp),g1.trans h1,g2.trans h2⟩
    · exact ⟨x,.inr (by simp [hx]),h1,h2⟩
theorem tO:∀ (l s:List QL) (e:Q),∀ x,(x ∈ s∨x ∈ l)→∃ y ∈ (bO l s e).1,aFH x y
  | [],s,e,x,hx=>by
    rcases hx with hx | hx
    · exact ⟨x,hx,rfl,rfl⟩
    · cases hx
  | z::l,s,e,x,hx=>by
    rw [bO]
    obtain ⟨a1,w,hw,a3⟩:=aIj s z
    rcases hx with hx | hx
    · obtain ⟨u,hu,g1,g2⟩:=a1 x hx
      obtain ⟨y,hy,h1,h2⟩:=tO l (lI s z).1 (e+(lI s z).2) u (.inl hu)
      exact ⟨y,hy,g1.trans h1,g2.trans h2⟩
    · rcases List.mem_cons.1 hx with e1 | hx
      · obtain ⟨y,hy,h1,h2⟩:=tO l (lI s z).1 (e+(lI s z).2) w (.inl hw)
        exact ⟨y,hy,by rw [e1];exact a3.1.trans h1,by rw [e1];exact a3.2.trans h2⟩
      · exact tO l _ _ x (.inr hx)
structure NQ where
  node:Int
  up:Int
  own:List QL
  cond:CQ
  msgs:List QL
  enQ:Q
  den:Nat
def NQ.toN (n:NQ):TreeNode:=⟨n.node,n.up,n.own.map QL.toL,n.cond.toC,n.msgs.map QL.toL,ofQ n.enQ⟩
def upQ (order:List Int) (c:CQ):Int:=aY order (c.ps.map (·.node))
theorem aPj (order:List Int) (c:CQ):upP order c.toC=upQ order c:=by
  unfold upP upQ aBb CQ.toC
  simp only [List.map_map]
  rfl
def tB (v:Int) (b:List NQ):List QL:=(b.filter (fun n=>decide (n.up=v))).flatMap (·.msgs)
theorem aNt (v:Int):∀ b:List NQ,zJ v (b.map NQ.toN)=(tB v b).map QL.toL
  | []=>rfl
  | n::b=>by
    have ih:=aNt v b
    unfold zJ tB at ih ⊢
    rw [List.map_cons,List.filter_cons,List.filter_cons]
    by_cases c:n.up=v
    · rw [if_pos (show decide ((NQ.toN n).fUp=v)=true from decide_eq_true c),if_pos (decide_eq_true c),List.flatMap_cons,List.flatMap_cons,List.map_append,ih];rfl
    · rw [if_neg (show ¬decide ((NQ.toN n).fUp=v)=true from fun e=>c (of_decide_eq_true e)),if_neg (fun e=>c (of_decide_eq_true e)),ih]
def eP {α:Type} (f:α→Nat):List α→Nat
  | []=>1
  | x::l=>f x*eP f l
def aDD (v:Int) (b:List NQ):Nat:=eP (·.den) (b.filter (fun n=>decide (n.up=v)))
def aB4 (order:List Int) (v:Int) (own:List QL) (b:List NQ):NQ :=
  ⟨v,upQ order (wM v (bT v (bO (own++tB v b) [] 0).1)),own,wM v (bT v (bO (own++tB v b) [] 0).1),(bO (kB v (bO (own++tB v b) [] 0).1) [] 0).1,
    (bO (own++tB v b) [] 0).2+(bO (kB v (bO (own++tB v b) [] 0).1) [] 0).2,aDD v b*nm (aDD v b) (sm wt (bT v (bO (own++tB v b) [] 0).1))⟩
theorem aN2 {l:List QL} (h:∀ x ∈ l,x.fit∧x.ok) (hj:zP l [] 0):jnP (l.map QL.toL)=some ((bO l [] 0).1.map QL.toL,ofQ (bO l [] 0).2)∧(∀ k ∈ (bO l [] 0).1,k.fit)∧dA (bO l [] 0).2:=by
  obtain ⟨h1,h2,h3⟩:=aLT l [] 0 (fun x hx=>(h x hx).1) (by simp) aCt hj
  refine ⟨?_,h2,h3⟩
  unfold jnP
  rw [if_pos (fun x hx=>by
    obtain ⟨y,hy,rfl⟩:=List.mem_map.1 hx
    exact (aFC (h y hy).1).2 (h y hy).2),aDP]
  exact h1
def tri (K:Nat):Nat:=K*(K - 1) / 2
theorem aCu {K:Nat} (h:K≤6):K*K≤2*tri K+K:=by
  have:∀ K,K≤6→K*K≤2*tri K+K:=by decide
  exact this K h
structure Room (D T K:Nat):Prop where
  k6:K≤6
  d1:72*D≤PP
  c1:10 ^ 8*(T*(D*(72*D) ^ tri K)) < BB ^ 24
  c2:K≤2∨(72*(D*(72*D))≤PP∧10 ^ 8*((D*(72*D))*(72*D) ^ tri K*((D*(72*D))*(72*(D*(72*D))) ^ tri (K - 1))) < BB ^ 24)
  c3:4*10 ^ 8*(T*((D*(72*D))*(72*D) ^ (K - 1)*(72*(D*(72*D))) ^ tri (K - 1))) < BB ^ 24
structure Inc (D T X:Nat) (V:List Int) (v:Int) (l:List QL):Prop where
  hD:0 < D
  hT:0 < T
  hX:X≤400
  h0:0 < X
  lk:∀ x ∈ l,Lk D X x∧inV V x∧Dv T (enQ x)
  hw:sm wt l≤72
  hV:V.Nodup
  hn:∀ u ∈ V,0≤u∧u≤9
  hv:v ∈ V
  h1:1≤v
  ex:∃ x ∈ l,x.a=v∨x.b=v
  room:Room D T V.length
theorem Inc.jn {D T X:Nat} {V:List Int} {v:Int} {l:List QL} (h:Inc D T X V v l):Jn D T X (tri V.length) V :=
  ⟨h.hD,h.room.d1,by have:=h.hX;omega,h.h0,h.hT,h.hV,aCu h.room.k6,h.room.c1⟩
theorem Inc.fo {D T X:Nat} {V:List Int} {v:Int} {l:List QL} (h:Inc D T X V v l):∀ x ∈ l,x.fit∧x.ok:=fun x hx=>by
  obtain ⟨l1,⟨l2,l3,l4⟩,_⟩:=h.lk x hx
  refine ⟨aGR h.hD h.room.d1 l1 (by have:=h.hX;omega) h.h0 ?_,h.hn _ l2,h.hn _ l3,l4,l1.sc.1⟩
  have:=vN (fun y hy=>(h.lk y hy).1) hx
  have:=h.hw
  grind
theorem Inc.join {D T X:Nat} {V:List Int} {v:Int} {l:List QL} (h:Inc D T X V v l) :
    zP l [] 0∧Front D X V v (bO l [] 0).1∧(bO l [] 0).2=sm enQ l - sm enQ (bO l [] 0).1∧sm wt (bO l [] 0).1=sm wt l:=by
  have es:=uO (fun x hx=>(h.lk x hx).1) (by have:=h.hX;omega) h.hw
  have e0:(0:Q) - sm enQ []=0:=by simp only [sm];grind
  have g:=aCi h.jn l [] 0 h.lk (by simp) List.Pairwise.nil (by simp only [sm];have:=h.hw;grind) ⟨0,by simp⟩ (by grind) (by have:=es.2;grind)
  rw [e0] at g
  obtain ⟨g1,g2,g3,g4,g5⟩:=g
  have g5':sm wt (bO l [] 0).1=sm wt l:=by rw [g5];simp only [sm];grind
  refine ⟨g1,⟨h.hD,h.room.d1,h.hX,h.h0,g2,g3,by rw [g5'];exact h.hw,h.hV,h.hn,h.hv,h.h1,?_⟩,by rw [g4];grind,g5'⟩
  obtain ⟨x,hx,ht⟩:=h.ex
  obtain ⟨y,hy,p1,p2⟩:=tO l [] 0 x (.inr hx)
  have:aBL v y ∈ bT v (bO l [] 0).1:=yJ.2 ⟨y,hy,by rw [← p1,← p2];exact ht,rfl⟩
  intro e
  rw [e] at this;cases this
theorem Front.nextIn {D T X:Nat} {V:List Int} {v:Int} {s:List QL} (h:Front D X V v s) (r:Room D T V.length) :
    zP (kB v s) [] 0∧(∀ x ∈ (bO (kB v s) [] 0).1,Lk (D*nm D (sm wt (bT v s))) (2*X) x∧inV (V.erase v) x)∧(bO (kB v s) [] 0).1.Pairwise dE ∧
      (bO (kB v s) [] 0).2=sm enQ (kB v s) - sm enQ (bO (kB v s) [] 0).1∧sm wt (bO (kB v s) [] 0).1=sm wt (kB v s):=by
  obtain ⟨n1,n2⟩:=h.next rfl
  have hl:=List.length_erase_of_mem h.hv
  have hVe:=h.hV.erase v
  by_cases c:V.length≤2
  · have e:kB v s=[]:=by
      rw [List.eq_nil_iff_forall_not_mem]
      intro x hx
      obtain ⟨i1,i2,i3⟩:=(n1 x hx).2.1
      have:(V.erase v).length≤1:=by omega
      have:=(List.nodup_cons.2 ⟨by simp;omega,List.nodup_cons.2 ⟨by simp,List.nodup_nil⟩⟩:([x.a,x.b]:List Int).Nodup).length_le_of_subset (l₂:=V.erase v) (fun z hz=>by
        simp only [List.mem_cons,List.not_mem_nil,or_false] at hz
        rcases hz with rfl | rfl
        · exact i1
        · exact i2)
      simp at this;omega
    rw [e]
    refine ⟨trivial,by simp [bO],by simp [bO],by simp only [bO,sm];grind,by simp only [bO,sm]⟩
  · obtain ⟨r1,r2⟩:=r.c2.resolve_left c
    have ha:=h.arms
    obtain ⟨a1,a2⟩:=ha.nN
    have hDN:D*nm D (sm wt (bT v s))≤D*(72*D):=Nat.mul_le_mul_left _ a2
    have hT:0 < D*nm D (sm wt (bT v s))*pn D s:=Nat.mul_pos (Nat.mul_pos h.hD a1) (aCD h.hD fun x hx=>(h.lk x hx).1.sc)
    have hps:pn D s≤(72*D) ^ tri V.length:=by
      have l1:=aDH h.hV h.ord (fun x hx=>(h.lk x hx).2)
      have l2:=aCu r.k6
      have l3:=aFP (W:=72) h.hD (fun x hx=>(h.lk x hx).1.sc) (fun x hx=>by
        have:=vN (fun y hy=>(h.lk y hy).1) hx
        have:=h.hw
        show x.w≤72;grind)
      have hD:=h.hD
      exact Nat.le_trans l3 (Nat.pow_le_pow_right (by omega) (by omega))
    have jn:Jn (D*nm D (sm wt (bT v s))) (D*nm D (sm wt (bT v s))*pn D s) (2*X) (tri (V.length - 1)) (V.erase v):=by
      refine ⟨Nat.mul_pos h.hD a1,Nat.le_trans (Nat.mul_le_mul_left _ hDN) r1,by have:=h.hX;omega,by have:=h.h0;omega,hT,hVe,?_,?_⟩
      · rw [hl];exact aCu (by have:=r.k6;omega)
      · refine Nat.lt_of_le_of_lt (Nat.mul_le_mul_left _ (Nat.mul_le_mul (Nat.mul_le_mul hDN hps) (Nat.mul_le_mul hDN (Nat.pow_le_pow_left (Nat.mul_le_mul_left _ hDN) _)))) r2
    have hw:sm wt (kB v s)≤72:=by have:=h.hw;grind
    have es:=uO (fun x hx=>(n1 x hx).1) (by have:=h.hX;omega) hw
    have e0:(0:Q) - sm enQ []=0:=by simp only [sm];grind
    have g:=aCi jn (kB v s) [] 0 (fun x hx=>⟨(n1 x hx).1,(n1 x hx).2.1,(n1 x hx).2.2.1⟩) (by simp) List.Pairwise.nil (by simp only [sm];grind) ⟨0,by simp⟩ (by grind) (by have:=es.2;grind)
    rw [e0] at g
    obtain ⟨g1,g2,g3,g4,g5⟩:=g
    exact ⟨g1,g2,g3,by rw [g4];grind,by rw [g5];simp only [sm];grind⟩
end Go.Ev
