/- Parts PR8, PR9, QA, QB, QC, QD, QE, QF, P21, QG, QH, QI, QJ, QK. -/
import Derived.Test.YtachfjpemagdiaaGreatPb2
import Derived.Test.YtachfjpemagdiaaGreatPb1
import Derived.Test.YtachfjpemagdiaaGreatPa1
set_option linter.all false
/- The nodes of a link set, orders of elimination, whose a link is, both programs. -/
namespace Go.Ev
set_option linter.all false
def aDj:List Int:=(List.range 9).map (fun k:Nat=>(k:Int)+1)
theorem aLM {x:Int}:x ∈ aDj↔1≤x∧x≤9:=by
  unfold aDj
  simp only [List.mem_map,List.mem_range]
  constructor
  · rintro ⟨k,h,rfl⟩;omega
  · intro h;exact ⟨(x - 1).toNat,by omega,by omega⟩
theorem aEt:aDj.length=9:=by decide
theorem aLN (k:Nat) (h:k < aDj.length):aDj[k]=(k:Int)+1:=by simp [aDj]
def fH (s:List Link):List Int:=aDj.filter (fun v=>s.any (tch v))
theorem zJ (s:List Link):(fH s).Pairwise (· < ·):=by
  have:aDj.Pairwise (· < ·):=by decide
  exact this.sublist List.filter_sublist
theorem zI (s:List Link):(fH s).length≤9:=by
  have:=List.length_filter_le (fun v=>s.any (tch v)) aDj
  rw [aEt] at this;exact this
theorem zH {s:List Link} {x:Int}:x ∈ fH s↔(1≤x∧x≤9)∧∃ l ∈ s,l.fA=x∨l.fB=x:=by
  unfold fH
  rw [List.mem_filter,aLM,List.any_eq_true]
  simp only [tch,decide_eq_true_eq]
def aFv (t:List Int) (l:Link):List Int:=aAm (if 0 < l.fA then aAm t l.fA else t) l.fB
theorem aHD {t:List Int} (l:Link) (h:t.Pairwise (· < ·)):(aFv t l).Pairwise (· < ·):=by
  unfold aFv;split
  · exact uK _ _ (uK _ _ h)
  · exact uK _ _ h
theorem aLy {t:List Int} {l:Link} {x:Int}:x ∈ aFv t l↔x=l.fB∨(x=l.fA∧0 < x)∨x ∈ t:=by
  unfold aFv;split
  · rw [yF,yF]
    constructor
    · rintro (h | h | h)
      · exact .inl h
      · exact .inr (.inl ⟨h,by omega⟩)
      · exact .inr (.inr h)
    · rintro (h | ⟨h,_⟩ | h)
      · exact .inl h
      · exact .inr (.inl h)
      · exact .inr (.inr h)
  · rw [yF]
    constructor
    · rintro (h | h)
      · exact .inl h
      · exact .inr (.inr h)
    · rintro (h | ⟨h,_⟩ | h)
      · exact .inl h
      · omega
      · exact .inr h
theorem aLz (t:List Int) (l:Link):(aFv t l).length≤t.length+2:=by
  unfold aFv;split
  · have:=yG (aAm t l.fA) l.fB;have:=yG t l.fA;omega
  · have:=yG t l.fB;omega
theorem aGc:∀ (s:List Link) (t:List Int) (x:Int),x ∈ s.foldl aFv t↔x ∈ t∨∃ l ∈ s,x=l.fB∨(x=l.fA∧0 < x)
  | [],t,x=>by simp
  | l::s,t,x=>by
    rw [List.foldl_cons,aGc s,aLy]
    simp only [List.mem_cons,exists_eq_or_imp]
    constructor
    · rintro ((h | h | h) | h)
      · exact .inr (.inl (.inl h))
      · exact .inr (.inl (.inr h))
      · exact .inl h
      · exact .inr (.inr h)
    · rintro (h | (h | h) | h)
      · exact .inl (.inr (.inr h))
      · exact .inl (.inl h)
      · exact .inl (.inr (.inl h))
      · exact .inr h
theorem aCo:∀ (s:List Link) (t:List Int),t.Pairwise (· < ·)→(s.foldl aFv t).Pairwise (· < ·)
  | [],t,h=>h
  | l::s,t,h=>aCo s _ (aHD l h)
theorem aGo {s:List Link} (hs:LSet s):pK s=some (fH s):=by
  have hl:=hs.len
  have:=(jN (step:=mY s) s (fun k t=>(t,(k:Int))) aFv (fun t=>t) (fun k t=>t.length≤2*k) (fun k t hk hi=>by
    constructor
    · unfold mY
      simp only []
      rw [if_pos (by omega),aK hk]
      simp only [Option.bind_some,wi1 (by omega:k≤4294967296)]
      unfold aFv
      by_cases c:0 < (s[k]).fA
      · rw [if_pos c,if_pos c,aHC _ _ (by omega)]
        simp only [Option.bind_some]
        rw [aHC _ _ (by have:=yG t (s[k]).fA;omega)];rfl
      · rw [if_neg c,if_neg c]
        simp only [Option.bind_some]
        rw [aHC _ _ (by omega)];rfl
    · have:=aLz t s[k];omega) (fun t _=>by unfold mY;simp only [];rw [if_neg (by omega)]) [] (Nat.zero_le _)).1
  rw [show ((0:Nat):Int)=0 from rfl] at this
  unfold pK
  rw [kT s (by have:=hs.sz;omega),decide_eq_true hs]
  simp only [Option.bind_some,if_true,this]
  congr 1
  refine yZ (aCo _ _ List.Pairwise.nil) (zJ s) fun x=>?_
  rw [aGc,zH]
  constructor
  · rintro (h | ⟨l,hl,h⟩)
    · cases h
    · have v:=hs.1 l hl
      rcases h with rfl | ⟨rfl,h0⟩
      · exact ⟨⟨by have:=v.2.2.1;have:=v.1.1;omega,v.2.1.2⟩,l,hl,.inr rfl⟩
      · exact ⟨⟨by omega,v.1.2⟩,l,hl,.inl rfl⟩
  · rintro ⟨h1,l,hl,h⟩
    refine .inr ⟨l,hl,?_⟩
    rcases h with h | h
    · exact .inr ⟨h.symm,by omega⟩
    · exact .inl h.symm
theorem aI2 {s:List Link} (hs:s.length≤4294967296) (v:Int) (t:List Int) (ht:t.length≤1000):lp (gF s v t) 0=some (if s.any (tch v)=true then t++[v] else t):=by
  have main:∀ m k:Nat,m+k=s.length→lp (gF s v t) (k:Int)=some (if (s.drop k).any (tch v)=true then t++[v] else t):=by
    intro m
    induction m with
    | zero =>
      intro k hk
      have:k=s.length:=by omega
      subst this
      rw [aJ (r:=t) (by unfold gF;rw [if_neg (by omega)]),List.drop_length];rfl
    | succ m ih =>
      intro k hk
      have hlt:k < s.length:=by omega
      have e0:((if (s[k]).fA=v then some true else some (decide ((s[k]).fB=v))):Option Bool)=some (tch v s[k]):=by
        unfold tch;by_cases A:(s[k]).fA=v <;> by_cases B:(s[k]).fB=v <;> simp [A,B]
      rw [List.drop_eq_getElem_cons hlt,List.any_cons]
      by_cases c:tch v s[k]=true
      · rw [aJ (r:=t++[v]) (by unfold gF;rw [if_pos (by omega),aK hlt];simp only [Option.bind_some,e0,c,if_true];rw [aN (by omega)];rfl)]
        simp [c]
      · have e:gF s v t (k:Int)=some (.inl ((k+1:Nat):Int)):=by
          unfold gF;rw [if_pos (by omega),aK hlt];simp only [Option.bind_some,e0,wi1 (by omega:k≤4294967296)];rw [if_neg c]
        rw [aT e,ih (k+1) (by omega)]
        simp only [Bool.not_eq_true] at c
        simp [c]
  have:=main s.length 0 (by omega)
  rw [show ((0:Nat):Int)=0 from rfl,List.drop_zero] at this
  exact this
theorem aKx {s:List Link} (hs:s.length≤4294967296):sQ s=some (fH s):=by
  have:=(jN (step:=nH s) aDj (fun k t=>((k:Int)+1,t)) (fun t v=>if (fun v=>s.any (tch v)) v=true then t++[v] else t) (fun t=>t) (fun k t=>t.length≤k) (fun k t hk hi=>by
    have hk9:k < 9:=by rw [aEt] at hk;exact hk
    constructor
    · unfold nH
      simp only []
      rw [if_pos (by omega),aI2 hs _ _ (by omega),aLN]
      have w:IntKind.i64.wrap ((k:Int)+1+1)=((k+1:Nat):Int)+1:=by rw [wi (by omega)];omega
      simp only [Option.bind_some,w]
    · simp only [];split
      · rw [List.length_append,List.length_singleton];omega
      · omega) (fun t _=>by unfold nH;simp only [];rw [aEt,if_neg (by omega)]) [] (Nat.zero_le _)).1
  rw [show ((0:Nat):Int)+1=1 from rfl,vT,List.nil_append] at this
  unfold sQ
  rw [this];rfl
def isOrd (s:List Link) (o:List Int):Prop:=o.Nodup∧(∀ y ∈ o,y ∈ fH s)∧o.length=(fH s).length
instance (s:List Link) (o:List Int):Decidable (isOrd s o):=by unfold isOrd;exact inferInstance
theorem aIY:∀ {a b:List Int},a.Nodup→(∀ x ∈ a,x ∈ b)→b.length≤a.length→b.Perm a
  | [],b,_,_,h=>by
    have:b=[]:=List.eq_nil_of_length_eq_zero (by simpa using h)
    rw [this]
  | x::a,b,hn,hs,h=>by
    rw [List.nodup_cons] at hn
    have hx:=hs x (by simp)
    have p:=List.perm_cons_erase hx
    have hl:=p.length_eq
    rw [List.length_cons] at hl h
    refine p.trans (List.Perm.cons x (aIY hn.2 (fun y hy=>?_) (by omega)))
    have:y≠x:=fun e=>hn.1 (e ▸ hy)
    exact (List.mem_erase_of_ne this).2 (hs y (by simp [hy]))
theorem aKH {l:List Int} (h:l.Pairwise (· < ·)):l.Nodup:=h.imp (fun {a b} hab e=>by subst e;omega)
theorem aGa (s:List Link) (o:List Int):isOrd s o↔(∀ v ∈ fH s,v ∈ o)∧o.length=(fH s).length:=by
  have hn:=aKH (zJ s)
  constructor
  · rintro ⟨h1,h2,h3⟩
    have p:=aIY h1 h2 (by omega)
    exact ⟨fun v hv=>p.mem_iff.1 hv,h3⟩
  · rintro ⟨h1,h2⟩
    have p:=aIY hn h1 (by omega)
    exact ⟨p.nodup_iff.2 hn,fun y hy=>p.mem_iff.1 hy,h2⟩
theorem aAL {s:List Link} {o:List Int} (h:isOrd s o):o.length≤9∧(∀ u ∈ o,1≤u):=by
  have:=zI s
  exact ⟨by rw [h.2.2];exact this,fun u hu=>(zH.1 (h.2.1 u hu)).1.1⟩
theorem aE2 {σ:Type} {step:σ→Option (σ ⊕ (Unit ⊕ Bool))} (n:Nat) (E:Nat→σ) (G:Nat→Prop) (h1:∀ k:Nat,k < n→(G k∧step (E k)=some (.inl (E (k+1))))∨(¬G k∧step (E k)=some (.inr (.inr false)))) (h2:step (E n)=some (.inr (.inl ()))) :
    (lp step (E 0)=some (.inl ())∧∀ k,k < n→G k)∨(lp step (E 0)=some (.inr false)∧∃ k,k < n∧¬G k):=by
  have main:∀ m k:Nat,m+k=n→(lp step (E k)=some (.inl ())∧∀ j,k≤j→j < n→G j)∨(lp step (E k)=some (.inr false)∧∃ j,j < n∧¬G j):=by
    intro m
    induction m with
    | zero =>
      intro k hk
      have:k=n:=by omega
      subst this
      exact .inl ⟨aJ h2,fun j _ _=>by omega⟩
    | succ m ih =>
      intro k hk
      rcases h1 k (by omega) with ⟨g,e⟩ | ⟨g,e⟩
      · rw [aT e]
        rcases ih (k+1) (by omega) with ⟨a,b⟩ | ⟨a,b⟩
        · refine .inl ⟨a,fun j h1 h2=>?_⟩
          by_cases e:j=k
          · subst e;exact g
          · exact b j (by omega) h2
        · exact .inr ⟨a,b⟩
      · exact .inr ⟨aJ e,k,by omega,g⟩
  rcases main n 0 (by omega) with ⟨a,b⟩ | ⟨a,b⟩
  · exact .inl ⟨a,fun j h=>b j (Nat.zero_le _) h⟩
  · exact .inr ⟨a,b⟩
theorem zF {l:List Int}:l.Nodup↔∀ k (h:k < l.length),l[k] ∉ l.take k:=by
  unfold List.Nodup
  rw [List.pairwise_iff_getElem]
  constructor
  · intro h k hk hm
    obtain ⟨j,hj,e⟩:=List.mem_iff_getElem.1 hm
    rw [List.length_take] at hj
    rw [List.getElem_take] at e
    exact h j k (by omega) hk (by omega) e
  · intro h i j hi hj hij e
    refine h j hj ?_
    rw [← e]
    exact List.mem_iff_getElem.2 ⟨i,by rw [List.length_take];omega,by rw [List.getElem_take]⟩
theorem aJE {s:List Link} (hs:LSet s) (o:List Int) (ho:o.length≤4194304):sG s o=some (decide (isOrd s o)):=by
  have hn:=zI s
  unfold sG
  rw [aGo hs]
  simp only [Option.bind_some]
  have L:=aE2 (step:=nA o (fH s)) o.length (fun k=>((k:Int),o.take k)) (fun k=>∀ h:k < o.length,o[k] ∈ fH s∧o[k] ∉ o.take k) (fun k hk=>by
    have tl:(o.take k).length≤k:=by rw [List.length_take];omega
    have tk:o.take (k+1)=o.take k++[o[k]]:=by rw [List.take_add_one,List.getElem?_eq_getElem hk];rfl
    unfold nA
    simp only []
    rw [if_pos (by omega),aK hk]
    simp only [Option.bind_some,aCl (fH s) _ (by omega),aCl (o.take k) _ (by omega),wi1 (by omega:k≤4294967296)]
    by_cases A:o[k] ∈ fH s
    · by_cases B:o[k] ∈ o.take k
      · right
        refine ⟨fun h=>(h hk).2 B,?_⟩
        rw [decide_eq_true A,decide_eq_true B];rfl
      · left
        refine ⟨fun h=>⟨A,B⟩,?_⟩
        rw [decide_eq_true A,decide_eq_false B]
        simp only [if_true,Option.bind_some,Bool.false_eq_true,if_false]
        rw [aN (by omega),tk];rfl
    · right
      refine ⟨fun h=>A (h hk).1,?_⟩
      rw [decide_eq_false A];rfl) (by unfold nA;simp only [];rw [if_neg (by omega)])
  simp only [List.take_zero] at L
  rw [show ((0:Nat):Int)=0 from rfl] at L
  rcases L with ⟨e,g⟩ | ⟨e,k,hk,g⟩
  · rw [e]
    simp only [Option.bind_some]
    rw [kT s (by have:=hs.sz;omega),decide_eq_true hs]
    simp only [Option.bind_some,if_true]
    congr 1
    rw [Bool.eq_iff_iff,decide_eq_true_iff,decide_eq_true_iff]
    constructor
    · intro h
      refine ⟨zF.2 (fun k hk=>(g k hk hk).2),fun y hy=>?_,by omega⟩
      obtain ⟨j,hj,rfl⟩:=List.mem_iff_getElem.1 hy
      exact (g j hj hj).1
    · intro h;rw [h.2.2]
  · rw [e]
    have:¬isOrd s o:=fun h=>g (fun hk=>⟨h.2.1 _ (List.getElem_mem hk),zF.1 h.1 k hk⟩)
    rw [decide_eq_false this];rfl
theorem aHn (s:List Link) (h:aF s≤4294967296):lW s=some (decide (LSet s)):=by
  rw [← kT s h]
  unfold lW dF
  have:lp (oG s) 0=lp (eI s) 0:=by
    refine aLW (fun _=>True) (fun v _=>⟨?_,fun _ _=>trivial⟩) _ trivial
    unfold oG eI
    cases e:idx s v with
    | none=>rfl
    | some y =>
      have hy:y ∈ s:=List.mem_of_getElem? (aEW e).2.1
      have hz:=mF (w:=bN) hy
      unfold aF at h
      have q:=fS y (by omega)
      simp only [Option.bind_some,q.1,q.2,aIF,aFo]
  rw [this]
theorem aJF {s:List Link} (hs:LSet s) (o:List Int) (ho:o.length≤4194304):sU s o=some (decide (isOrd s o)):=by
  have hn:=zI s
  unfold sU
  have il:lW s=some true:=by rw [aHn s (by have:=hs.sz;omega),decide_eq_true hs]
  rw [il,aKx (by have:=hs.len;omega)]
  simp only [Option.bind_some,if_true]
  have L:=aE2 (step:=nO o (fH s)) (fH s).length (fun k=>(k:Int)) (fun k=>∀ h:k < (fH s).length,(fH s)[k] ∈ o) (fun k hk=>by
    unfold nO
    rw [if_pos (by omega),aK hk]
    simp only [Option.bind_some,aAN o _ (by omega),wi1 (by omega:k≤4294967296)]
    by_cases A:(fH s)[k] ∈ o
    · exact .inl ⟨fun _=>A,by rw [decide_eq_true A];rfl⟩
    · exact .inr ⟨fun h=>A (h hk),by rw [decide_eq_false A];rfl⟩) (by unfold nO;rw [if_neg (by omega)])
  rw [show ((0:Nat):Int)=0 from rfl] at L
  rcases L with ⟨e,g⟩ | ⟨e,k,hk,g⟩
  · rw [e]
    simp only [Option.bind_some]
    congr 1
    rw [Bool.eq_iff_iff,decide_eq_true_iff,decide_eq_true_iff,aGa]
    constructor
    · intro h
      refine ⟨fun v hv=>?_,by omega⟩
      obtain ⟨j,hj,rfl⟩:=List.mem_iff_getElem.1 hv
      exact g j hj hj
    · intro h;rw [h.2]
  · rw [e]
    have:¬isOrd s o:=fun h=>g (fun hk=>((aGa s o).1 h).1 _ (List.getElem_mem hk))
    rw [decide_eq_false this];rfl
def kY (o:List Int) (v:Int) (l:Link):Bool:=decide (aQ o [l.fA,l.fB]=v)
theorem aM3 (o:List Int) (l:Link) (h:o.length≤4294967296):qC o l=some (aQ o [l.fA,l.fB]):=by
  unfold qC
  rw [aJ7 _ _ h (by simp)];rfl
theorem tM {o s:List Int} {v:Int} (h:aQ o s=v) (hv:v≠0):v ∈ s∧v ∈ o:=by
  unfold aQ at h
  cases e:o.find? (fun u=>decide (u ∈ s)) with
  | none=>rw [e] at h;exact absurd h.symm hv
  | some x =>
    rw [e] at h
    simp only [Option.getD_some] at h
    subst h
    exact ⟨by simpa using List.find?_some e,List.mem_of_find?_eq_some e⟩
theorem aBQ {o s:List Int} {k:Nat} (hk:k < o.length) (hn:o.Nodup) (h1:∀ u ∈ o,1≤u):aQ o s=o[k]↔o[k] ∈ s∧∀ u ∈ o.take k,u ∉ s:=by
  have ef:o.find? (fun u=>decide (u ∈ s))=((o.take k).find? (fun u=>decide (u ∈ s))).or ((o[k]::o.drop (k+1)).find? (fun u=>decide (u ∈ s))):=by
    rw [← List.find?_append,← List.drop_eq_getElem_cons hk,List.take_append_drop]
  have hnt:=zF.1 hn k hk
  constructor
  · intro h
    have hp:=h1 _ (List.getElem_mem hk)
    refine ⟨(tM h (by omega)).1,fun u hu hus=>?_⟩
    unfold aQ at h
    rw [ef] at h
    cases f:(o.take k).find? (fun u=>decide (u ∈ s)) with
    | none =>
      rw [List.find?_eq_none] at f
      exact f u hu (by simpa using hus)
    | some x =>
      have hx:=List.mem_of_find?_eq_some f
      rw [f] at h
      simp only [Option.some_or,Option.getD_some] at h
      rw [h] at hx
      exact hnt hx
  · rintro ⟨a,b⟩
    unfold aQ
    rw [ef]
    have:(o.take k).find? (fun u=>decide (u ∈ s))=none:=by
      rw [List.find?_eq_none];intro u hu;simpa using b u hu
    rw [this,Option.none_or,List.find?_cons]
    simp [a]
end Go.Ev
/- Building a tree, both programs, and the law. -/
namespace Go.Ev
set_option linter.all false
theorem zS (c:Conditional) (h:aS c≤4294967296):iC c=some c:=by
  have hp:=fT iR c.fParents
  unfold aS mB at h
  unfold iC
  rw [iA _ (by omega)]
  simp only [Option.bind_some]
  have:=yM (step:=fL c) c.fParents (fun k t=>((k:Int),t)) (fun t=>t) (fun k t hk ht=>by
    have he:=mF (w:=iR) (List.getElem_mem hk)
    have hn:iR c.fParents[k]=bI (c.fParents[k]).fShare+bI (c.fParents[k]).fDX+bI (c.fParents[k]).fDY:=rfl
    unfold fL
    simp only []
    rw [if_pos (by omega),aK hk]
    simp only [Option.bind_some]
    rw [iA _ (by omega)]
    simp only [Option.bind_some]
    rw [iA _ (by omega)]
    simp only [Option.bind_some]
    rw [iA _ (by omega)]
    simp only [Option.bind_some]
    rw [aN (by omega),wi (by omega)];rfl) (fun t ht=>by unfold fL;simp only [];rw [if_neg (by omega)])
  rw [show ((0:Nat):Int)=0 from rfl] at this
  rw [this];rfl
theorem aKt (s:List Link) (o:List Int) (v:Int) (hs:s.length≤4194304) (ho:o.length≤4194304):lp (iI s o v) (0,[])=some (s.filter (kY o v)):=by
  have:=(jN (step:=iI s o v) s (fun k t=>((k:Int),t)) (fun t x=>if kY o v x=true then t++[x] else t) (fun t=>t) (fun k t=>t.length≤k) (fun k t hk hi=>by
    constructor
    · unfold iI
      simp only []
      rw [if_pos (by omega),aK hk]
      simp only [Option.bind_some,aM3 o _ (by omega:o.length≤4294967296),wi1 (by omega:k≤4294967296)]
      by_cases c:aQ o [(s[k]).fA,(s[k]).fB]=v
      · rw [if_pos c,if_pos (by unfold kY;simpa using c),aN (by omega)];rfl
      · rw [if_neg c,if_neg (by unfold kY;simpa using c)]
    · split
      · rw [List.length_append,List.length_singleton];omega
      · omega) (fun t _=>by unfold iI;simp only [];rw [if_neg (by omega)]) [] (Nat.zero_le _)).1
  rw [show ((0:Nat):Int)=0 from rfl,vT,List.nil_append] at this
  exact this
theorem aLf (o:List Int) (k:Nat) (hk:k≤o.length):sub o 0 (k:Int)=some (o.take k):=by
  rw [qW _ _ _ (by omega)];simp
theorem aLE (o:List Int) (hn:o.Nodup) (h1:∀ u ∈ o,1≤u) (ho:o.length≤4194304) (k:Nat) (hk:k < o.length) (l:Link) (hl:l.fA < l.fB) :
    ((if l.fA=o[k] then (sub o 0 (k:Int)).bind fun y57=>(fK y57 l.fB).bind fun r58=>(if r58=true then (if l.fB=o[k] then (sub o 0 (k:Int)).bind fun y59=>(fK y59 l.fA).bind fun r60=>some (!r60) else some false) else some true) else (if l.fB=o[k] then (sub o 0 (k:Int)).bind fun y61=>(fK y61 l.fA).bind fun r62=>some (!r62) else some false)):Option Bool)=some (kY o o[k] l):=by
  have tl:(o.take k).length≤4294967296:=by rw [List.length_take];omega
  have hnt:=zF.1 hn k hk
  have ft:=aBQ (s:=[l.fA,l.fB]) hk hn h1
  rw [aLf o k (by omega)]
  simp only [Option.bind_some,aAN _ _ tl]
  unfold kY
  by_cases A:l.fA=o[k]
  · have B:¬l.fB=o[k]:=by omega
    rw [if_pos A,if_neg B]
    by_cases C:l.fB ∈ o.take k
    · rw [decide_eq_true C,if_pos rfl]
      have:¬aQ o [l.fA,l.fB]=o[k]:=fun h=>(ft.1 h).2 _ C (by simp)
      rw [decide_eq_false this]
    · rw [decide_eq_false C]
      have:aQ o [l.fA,l.fB]=o[k]:=ft.2 ⟨by simp [A],fun u hu hs=>by
        rcases List.mem_cons.1 hs with rfl | hs
        · exact hnt (A ▸ hu)
        · rw [List.mem_singleton.1 hs] at hu;exact C hu⟩
      rw [decide_eq_true this];rfl
  · rw [if_neg A]
    by_cases B:l.fB=o[k]
    · rw [if_pos B]
      by_cases C:l.fA ∈ o.take k
      · have:¬aQ o [l.fA,l.fB]=o[k]:=fun h=>(ft.1 h).2 _ C (by simp)
        rw [decide_eq_true C,decide_eq_false this];rfl
      · have:aQ o [l.fA,l.fB]=o[k]:=ft.2 ⟨by simp [B],fun u hu hs=>by
          rcases List.mem_cons.1 hs with rfl | hs
          · exact C hu
          · rw [List.mem_singleton.1 hs] at hu;exact hnt (B ▸ hu)⟩
        rw [decide_eq_false C,decide_eq_true this];rfl
    · rw [if_neg B]
      have:¬aQ o [l.fA,l.fB]=o[k]:=fun h=>by
        have:=(ft.1 h).1
        simp only [List.mem_cons,List.not_mem_nil,or_false] at this
        rcases this with e | e
        · exact A e.symm
        · exact B e.symm
      rw [decide_eq_false this]
theorem aKu (s:List Link) (o:List Int) (hs:s.length≤4194304) (ho:o.length≤4194304) (hv:∀ x ∈ s,ValidL x) (hn:o.Nodup) (h1:∀ u ∈ o,1≤u) (i:Nat) (hi:i < o.length):lp (iM s o o[i] (i:Int)) (0,[])=some (s.filter (kY o o[i])):=by
  have:=(jN (step:=iM s o o[i] (i:Int)) s (fun k t=>((k:Int),t)) (fun t x=>if kY o o[i] x=true then t++[x] else t) (fun t=>t) (fun k t=>t.length≤k) (fun k t hk hj=>by
    constructor
    · unfold iM
      simp only []
      rw [if_pos (by omega),aK hk]
      have oc:=aLE o hn h1 ho i hi s[k] (hv _ (List.getElem_mem hk)).2.2.1
      simp only [Option.bind_some,wi1 (by omega:k≤4294967296)]
      rw [oc]
      simp only [Option.bind_some]
      by_cases c:kY o o[i] s[k]=true
      · rw [if_pos c,if_pos c,aN (by omega)];rfl
      · rw [if_neg c,if_neg c]
    · split
      · rw [List.length_append,List.length_singleton];omega
      · omega) (fun t _=>by unfold iM;simp only [];rw [if_neg (by omega)]) [] (Nat.zero_le _)).1
  rw [show ((0:Nat):Int)=0 from rfl,vT,List.nil_append] at this
  exact this
noncomputable def oD (s:List Link) (o:List Int):List Int→List TreeNode→Option (List TreeNode)
  | [],b=>some b
  | v::r,b=>(lL o v (s.filter (kY o v)) b).bind fun n=>oD s o r (b++[n])
noncomputable def mS (s:List Link) (o:List Int):Option Tree :=
  (jnP s).bind fun x=>if isOrd x.1 o then (oD s o o []).map Tree.mk else none
def pkT:Option Tree→Tree × Bool
  | some t=>(t,true)
  | none=>(Tree.mk [],false)
def aN1:Option (List TreeNode)→(List TreeNode) ⊕ (Tree × Bool)
  | some b=>.inl b
  | none=>.inr (Tree.mk [],false)
def NodeOk (s:List Link) (o:List Int) (n:TreeNode):Prop:=LSet n.fMessages∧n.fOwn=s.filter (kY o n.fNode)∧aS n.fCond≤20000∧bL n.fEnergy∧n.fUp=upP o n.fCond
theorem yY (p:Link→Bool):∀ s:List Link,aF (s.filter p)≤aF s
  | []=>Nat.le_refl _
  | x::s=>by
    have:=yY p s
    unfold aF at this ⊢
    rw [List.filter_cons,lF]
    split
    · rw [lF];omega
    · omega
theorem aEs {s:List Link} {o:List Int} {v:Int} {b:List TreeNode} {n:TreeNode} (h:lL o v (s.filter (kY o v)) b=some n):NodeOk s o n∧n.fNode=v:=by
  obtain ⟨h1,h2,h3,h4,h5,h6⟩:=aEr h
  exact ⟨⟨h1,by rw [h5];exact h2,h3,h4,h6⟩,h5⟩
theorem yB {s:List Link} {o:List Int}:∀ (r:List Int) (b b':List TreeNode),(∀ n ∈ b,NodeOk s o n)→oD s o r b=some b'→(∀ n ∈ b',NodeOk s o n)∧b'.map (·.fNode)=b.map (·.fNode)++r
  | [],b,b',h,e=>by cases e;exact ⟨h,by simp⟩
  | v::r,b,b',h,e=>by
    rw [oD] at e
    cases h1:lL o v (s.filter (kY o v)) b with
    | none=>rw [h1] at e;cases e
    | some n =>
      rw [h1,Option.bind_some] at e
      obtain ⟨g1,g2⟩:=aEs h1
      obtain ⟨k1,k2⟩:=yB r (b++[n]) b' (fun m hm=>by
        rcases List.mem_append.1 hm with hm | hm
        · exact h m hm
        · rw [List.mem_singleton.1 hm];exact g1) e
      exact ⟨k1,by rw [k2,List.map_append,List.append_assoc];simp [g2]⟩
theorem aIH (s:List Link) (o:List Int) (hz:aF s≤4194304) (hv:∀ x ∈ s,ValidL x) (ho:o.length≤9) (h1:∀ u ∈ o,1≤u):∀ m k:Nat,m+k=o.length→∀ b:List TreeNode,b.length=k→(∀ n ∈ b,LSet n.fMessages)→lp (iH s o) ((k:Int),b)=some (aN1 (oD s o (o.drop k) b)):=by
  have hl:s.length≤4194304:=Nat.le_trans (fT _ _) hz
  intro m
  induction m with
  | zero =>
    intro k hk b hb hm
    rw [List.drop_eq_nil_of_le (by omega)]
    exact aJ (by unfold iH;simp only [];rw [if_neg (by omega)];rfl)
  | succ m ih =>
    intro k hk b hb hm
    have hlt:k < o.length:=by omega
    rw [List.drop_eq_getElem_cons hlt,oD]
    have nq:=(aLK (v:=o[k]) (own:=s.filter (kY o o[k])) (b:=b) (by omega:o.length≤4194304) h1 (Nat.le_trans (yY _ s) hz) (by omega) hm (fun x hx=>hv x (List.mem_filter.1 hx).1)).1
    have st:iH s o ((k:Int),b)=some (match lL o o[k] (s.filter (kY o o[k])) b with | some n=>.inl (((k+1:Nat):Int),b++[n]) | none=>.inr (.inr (Tree.mk [],false))):=by
      unfold iH
      simp only []
      rw [if_pos (by omega),aK hlt]
      simp only [Option.bind_some,aKt s o o[k] hl (by omega),nq,wi1 (by omega:k≤4294967296)]
      cases lL o o[k] (s.filter (kY o o[k])) b with
      | none=>rfl
      | some n=>simp only [pkN,if_true];rw [aN (by omega)];rfl
    cases h:lL o o[k] (s.filter (kY o o[k])) b with
    | none=>rw [h] at st;rw [aJ st];rfl
    | some n =>
      rw [h] at st
      rw [aT st,Option.bind_some]
      exact ih (k+1) (by omega) _ (by simp [hb]) (fun x hx=>by
        rcases List.mem_append.1 hx with hx | hx
        · exact hm x hx
        · rw [List.mem_singleton.1 hx];exact (aEr h).1)
theorem aII (s:List Link) (o:List Int) (hz:aF s≤4194304) (hv:∀ x ∈ s,ValidL x) (ho:o.length≤9) (hn:o.Nodup) (h1:∀ u ∈ o,1≤u):∀ m k:Nat,m+k=o.length→∀ b:List TreeNode,b.length=k→(∀ n ∈ b,LSet n.fMessages)→lp (iL s o) ((k:Int),b)=some (aN1 (oD s o (o.drop k) b)):=by
  have hl:s.length≤4194304:=Nat.le_trans (fT _ _) hz
  intro m
  induction m with
  | zero =>
    intro k hk b hb hm
    rw [List.drop_eq_nil_of_le (by omega)]
    exact aJ (by unfold iL;simp only [];rw [if_neg (by omega)];rfl)
  | succ m ih =>
    intro k hk b hb hm
    have hlt:k < o.length:=by omega
    rw [List.drop_eq_getElem_cons hlt,oD]
    have nq:=(aLK (v:=o[k]) (own:=s.filter (kY o o[k])) (b:=b) (by omega:o.length≤4194304) h1 (Nat.le_trans (yY _ s) hz) (by omega) hm (fun x hx=>hv x (List.mem_filter.1 hx).1)).2
    have st:iL s o ((k:Int),b)=some (match lL o o[k] (s.filter (kY o o[k])) b with | some n=>.inl (((k+1:Nat):Int),b++[n]) | none=>.inr (.inr (Tree.mk [],false))):=by
      unfold iL
      simp only []
      rw [if_pos (by omega),aK hlt]
      simp only [Option.bind_some,aKu s o hl (by omega) hv hn h1 k hlt,nq,wi1 (by omega:k≤4294967296)]
      cases lL o o[k] (s.filter (kY o o[k])) b with
      | none=>rfl
      | some n=>simp only [pkN,if_true];rw [aN (by omega)];rfl
    cases h:lL o o[k] (s.filter (kY o o[k])) b with
    | none=>rw [h] at st;rw [aJ st];rfl
    | some n =>
      rw [h] at st
      rw [aT st,Option.bind_some]
      exact ih (k+1) (by omega) _ (by simp [hb]) (fun x hx=>by
        rcases List.mem_append.1 hx with hx | hx
        · exact hm x hx
        · rw [List.mem_singleton.1 hx];exact (aEr h).1)
theorem NodeOk.sz {s:List Link} {o:List Int} {n:TreeNode} (h:NodeOk s o n) (hz:aF s≤4194304):bH n≤4300000:=by
  have h1:=h.1.sz
  have h2:aF n.fOwn≤4194304:=by rw [h.2.1];exact Nat.le_trans (yY _ s) hz
  have h3:=oH (.inl h.2.2.2.1)
  have h4:=h.2.2.1
  unfold bH;omega
theorem aJo (n:TreeNode) (h:bH n≤4294967296):kO n=some n:=by
  unfold bH at h
  unfold kO
  rw [pS _ (by omega),zS _ (by omega)]
  simp only [Option.bind_some]
  rw [pS _ (by omega),iA _ (by omega)]
  rfl
theorem aJn (t:Tree) (h:gI t≤4294967296):qQ t=some t:=by
  unfold gI jB at h
  have hl:=fT bH t.fNodes
  unfold qQ
  have:=yM (step:=lU t) t.fNodes (fun k t=>((k:Int),t)) (fun t=>t) (fun k u hk hu=>by
    have he:=mF (w:=bH) (List.getElem_mem hk)
    unfold lU
    simp only []
    rw [if_pos (by omega),aK hk]
    simp only [Option.bind_some]
    rw [aJo _ (by omega)]
    simp only [Option.bind_some]
    rw [aN (by omega),wi1 (by omega)];rfl) (fun t ht=>by unfold lU;simp only [];rw [if_neg (by omega)])
  rw [show ((0:Nat):Int)=0 from rfl] at this
  rw [this];rfl
theorem aMT {s:List Link} {o:List Int} {b:List TreeNode} (hz:aF s≤4194304) (ho:o.length≤9) (h:oD s o o []=some b):gI ⟨b⟩≤38700018:=by
  obtain ⟨h1,h2⟩:=yB o [] b (by simp) h
  have hl:b.length=o.length:=by have:=congrArg List.length h2;simpa using this
  have:jB b≤(4300000+1)*b.length:=aCE (fun n hn=>(h1 n hn).sz hz)
  unfold gI
  have:(4300000+1)*b.length≤4300001*9:=Nat.mul_le_mul (Nat.le_refl _) (by omega)
  simp only []
  omega
theorem aDO (s:List Link) (o:List Int) (hz:aF s≤4194304) (ho:o.length≤4194304):oU s o=some (pkT (mS s o))∧jX s o=some (pkT (mS s o)):=by
  obtain ⟨j1,j2⟩:=xL s (by omega)
  unfold oU jX mS
  rw [j1,j2]
  cases h:jnP s with
  | none=>exact ⟨rfl,rfl⟩
  | some x =>
    obtain ⟨u,e⟩:=x
    obtain ⟨hv,hs,he⟩:=zR h
    simp only [pk,Option.bind_some,if_true]
    rw [aJE hs o ho,aJF hs o ho]
    by_cases c:isOrd u o
    · obtain ⟨l9,h1⟩:=aAL c
      have q1:=aIH s o hz hv l9 h1 o.length 0 (by omega) [] rfl (by simp)
      have q2:=aII s o hz hv l9 c.1 h1 o.length 0 (by omega) [] rfl (by simp)
      rw [show ((0:Nat):Int)=0 from rfl,List.drop_zero] at q1 q2
      rw [decide_eq_true c,if_pos c]
      simp only [Option.bind_some,Bool.not_true,Bool.false_eq_true,if_false,q1,q2]
      cases g:oD s o o [] with
      | none=>exact ⟨rfl,rfl⟩
      | some b =>
        simp only [aN1]
        rw [aJn ⟨b⟩ (by have:=aMT hz l9 g;omega)]
        exact ⟨rfl,rfl⟩
    · rw [decide_eq_false c,if_neg c]
      exact ⟨rfl,rfl⟩
end Go.Ev
/- Fractions as rational numbers. -/
namespace Go.Ev
set_option linter.all false
abbrev Q:=_root_.Rat
def ofQ (q:Q):Rat:=⟨big q.num,aA q.den⟩
def dA (q:Q):Prop:=bl q.num≤24∧(aA q.den).length≤24
instance (q:Q):Decidable (dA q):=by unfold dA;infer_instance
def aEq (q:Q):Rat:=if dA q then ofQ q else mT
theorem aA7 {q:Q} (h:dA q):aEq q=ofQ q:=if_pos h
theorem uY {q:Q} (h:dA q):bL (ofQ q):=by
  obtain ⟨h1,h2⟩:=h
  refine ⟨⟨zL (by unfold bl at h1;omega),fun hn=>?_⟩,zL (by omega),cY q.den_nz,h2,h1,?_⟩
  · have:q.num < 0:=of_decide_eq_true hn
    exact cY (by omega)
  · show Nat.gcd (val (aA q.num.natAbs)) (val (aA q.den))=1
    rw [cJ,cJ];exact q.reduced
theorem uX {q:Q} (h:dA q):VZ (ofQ q):=.inl (uY h)
theorem aJS (z:Int) {d:Nat} (hd:0 < d):mkR (decide (z < 0)) z.natAbs d=aEq (mkRat z d):=by
  have hn:=_root_.Rat.num_mkRat z d
  have hden:=_root_.Rat.den_mkRat z d
  rw [if_neg (by omega)] at hn hden
  have hg:Nat.gcd d z.natAbs=Nat.gcd z.natAbs d:=Nat.gcd_comm _ _
  rw [hg] at hn hden
  generalize hgg:Nat.gcd z.natAbs d=g at hn hden
  have hgp:0 < g:=by rw [← hgg];exact Nat.gcd_pos_of_pos_right _ hd
  have hdv:g ∣ z.natAbs:=by rw [← hgg];exact Nat.gcd_dvd_left _ _
  obtain ⟨k,hk⟩:=hdv
  have hxk:z.natAbs / g=k:=by rw [hk,Nat.mul_div_cancel_left _ hgp]
  have hnk:(mkRat z d).num.natAbs=k∧(((mkRat z d).num < 0)↔(z < 0∧k≠0)):=by
    rcases Int.natAbs_eq z with e | e
    · have:(mkRat z d).num=(k:Int):=by
        rw [hn,e,hk];simp [Int.natCast_mul]
        rw [Int.mul_ediv_cancel_left _ (by omega)]
      rw [this];exact ⟨by simp,by constructor <;> intro h <;> omega⟩
    · have:(mkRat z d).num=-(k:Int):=by
        rw [hn,e,hk,Int.natCast_mul,← Int.mul_neg,Int.mul_ediv_cancel_left _ (by omega)]
      rw [this]
      refine ⟨by simp,?_⟩
      constructor
      · intro h
        refine ⟨?_,by omega⟩
        rcases Nat.eq_zero_or_pos k with h0 | h0
        · omega
        · have:=Nat.mul_pos hgp h0
          omega
      · rintro ⟨_,h⟩;omega
  have hf:dA (mkRat z d)↔((aA k).length≤24∧(aA (d / g)).length≤24):=by unfold dA bl;rw [hnk.1,hden]
  unfold mkR aEq
  rw [if_neg (by omega),hgg,hxk]
  by_cases c:(aA k).length≤24∧(aA (d / g)).length≤24
  · rw [if_neg (by omega),if_pos (hf.2 c)]
    unfold ofQ big
    rw [hnk.1,hden]
    congr 2
    rw [← Bool.decide_and]
    exact decide_eq_decide.2 hnk.2.symm
  · rw [if_pos (by omega),if_neg (fun h=>c (hf.1 h))]
theorem mP {q:Q} (h:dA q):0 < q.den∧bl q.num≤24∧(aA q.den).length≤24:=⟨Nat.pos_of_ne_zero q.den_nz,h.1,h.2⟩
theorem aPz {p q:Q} (hp:dA p) (hq:dA q):RA (ofQ p) (ofQ q)=aEq (p+q):=by
  have h:=(aAX (uX hp) (uX hq)).2.1
  obtain ⟨a1,a2,a3⟩:=mP hp
  obtain ⟨b1,b2,b3⟩:=mP hq
  have e:cA (ofQ p) (ofQ q)=some (aEq (p+q)):=by
    unfold ofQ
    rw [aB1 _ _ _ _ a1 b1 a2 a3 b2 b3]
    unfold aIy
    rw [aJS _ (Nat.mul_pos a1 b1),_root_.Rat.add_def']
  rw [e] at h;exact (Option.some.inj h).symm
theorem aPw {p q:Q} (hp:dA p) (hq:dA q):RM (ofQ p) (ofQ q)=aEq (p*q):=by
  have h:=(aDD (uX hp) (uX hq)).2.1
  obtain ⟨a1,a2,a3⟩:=mP hp
  obtain ⟨b1,b2,b3⟩:=mP hq
  have e:cM (ofQ p) (ofQ q)=some (aEq (p*q)):=by
    unfold ofQ
    rw [aHA _ _ _ _ a1 b1 a2 a3 b2 b3]
    unfold aM6
    rw [_root_.Rat.mul_def',← aJS _ (Nat.mul_pos a1 b1),Int.natAbs_mul]
    congr 1
    refine aDK fun hx=>?_
    have q':=aDF p.num q.num
    rw [decide_eq_true hx,Bool.and_true] at q'
    exact q'
  rw [e] at h;exact (Option.some.inj h).symm
theorem aPx {p q:Q} (hp:dA p) (hq:dA q) (h0:q≠0):RD (ofQ p) (ofQ q)=aEq (p / q):=by
  have h:=(aFl (uX hp) (uX hq)).2.1
  obtain ⟨a1,a2,a3⟩:=mP hp
  obtain ⟨b1,b2,b3⟩:=mP hq
  have hn:q.num≠0:=fun e=>h0 (_root_.Rat.num_eq_zero.1 e)
  have e:eP (ofQ p) (ofQ q)=some (aEq (p / q)):=by
    unfold ofQ
    rw [aHB _ _ _ _ a1 b1 a2 a3 b2 b3]
    unfold aOd
    have key:p / q=mkRat (p.num*q.num.sign*q.den) (p.den*q.num.natAbs):=by
      rw [_root_.Rat.div_def]
      conv=>lhs;rw [_root_.Rat.mul_def']
      rw [_root_.Rat.num_inv,_root_.Rat.den_inv,if_neg hn,← Int.mul_assoc]
    rw [key,← aJS _ (Nat.mul_pos a1 (by omega))]
    have hs:q.num.sign.natAbs=1:=by rw [Int.natAbs_sign];simp [hn]
    have e1:(p.num*q.num.sign*q.den).natAbs=p.num.natAbs*q.den:=by
      rw [Int.natAbs_mul,Int.natAbs_mul,hs,Nat.mul_one,Int.natAbs_natCast]
    rw [e1]
    congr 1
    refine aDK fun hx=>?_
    have hp0:p.num≠0:=by rintro e;rw [e] at hx;simp at hx
    have hd0:(0:Int) < (q.den:Int):=by omega
    have:(p.num*q.num.sign*(q.den:Int) < 0)↔(p.num*q.num.sign < 0):=by
      constructor
      · intro hh
        rcases Int.lt_or_le (p.num*q.num.sign) 0 with h1 | h1
        · exact h1
        · have:=Int.mul_nonneg h1 (Int.le_of_lt hd0);omega
      · intro hh;exact Int.mul_neg_of_neg_of_pos hh hd0
    rw [show decide (p.num*q.num.sign*(q.den:Int) < 0)=decide (p.num*q.num.sign < 0) from decide_eq_decide.2 this]
    rcases Int.lt_or_gt_of_ne hn with c | c
    · rw [show decide (p.num*q.num.sign < 0)=decide (p.num*-1 < 0) by rw [Int.sign_eq_neg_one_of_neg c]]
      by_cases cp:p.num < 0 <;> simp [c,cp] <;> omega
    · rw [show decide (p.num*q.num.sign < 0)=decide (p.num*1 < 0) by rw [Int.sign_eq_one_of_pos c]]
      have:¬q.num < 0:=by omega
      by_cases cp:p.num < 0 <;> simp [this,cp]
  rw [e] at h;exact (Option.some.inj h).symm
theorem aPv {p q:Q} (hp:dA p) (hq:dA q):RS (ofQ p) (ofQ q)=aEq (p - q):=by
  have h:=(aHf (uX hp) (uX hq)).2.1
  obtain ⟨a1,a2,a3⟩:=mP hp
  obtain ⟨b1,b2,b3⟩:=mP hq
  have e:fJ (ofQ p) (ofQ q)=some (aEq (p - q)):=by
    unfold fJ ofQ
    rw [aEg _ _ b1 b2 b3]
    simp only [Option.bind_some]
    rw [aB1 _ _ _ _ a1 b1 a2 a3 (by rw [aOe];exact b2) b3]
    unfold aIy
    rw [aJS _ (Nat.mul_pos a1 b1),_root_.Rat.sub_def',Int.neg_mul,← Int.sub_eq_add_neg];rfl
  rw [e] at h;exact (Option.some.inj h).symm
theorem aO8 {p:Q} (hp:dA p):RN (ofQ p)=ofQ (-p):=by
  have h:=(aK4 (uX hp)).2.1
  obtain ⟨a1,a2,a3⟩:=mP hp
  have e:hZ (ofQ p)=some (ofQ (-p)):=by
    unfold ofQ
    rw [aEg _ _ a1 a2 a3]
    rfl
  rw [e] at h;exact (Option.some.inj h).symm
theorem aIO {q:Q} (h:dA q):0 < uV (ofQ q)↔0 < q:=by
  have:=aGy (n:=q.num) (d:=q.den) (uY h)
  unfold ofQ
  rw [this]
  constructor
  · intro hh
    rw [_root_.Rat.lt_iff];simp;omega
  · intro hh
    rw [_root_.Rat.lt_iff] at hh;simp at hh;omega
theorem aMQ:BB ^ 24=10 ^ 216:=by rw [cX,show (1000000000:Nat)=10 ^ 9 from rfl,← Nat.pow_mul]
theorem aJ6 {q:Q} {n:Int} {d:Nat} (hd:0 < d) (hq:q=mkRat n d) (h1:n.natAbs < BB ^ 24) (h2:d < BB ^ 24):dA q:=by
  have hn:=_root_.Rat.num_mkRat n d
  have hden:=_root_.Rat.den_mkRat n d
  rw [if_neg (by omega)] at hn hden
  subst hq
  have hgp:0 < Nat.gcd d n.natAbs:=Nat.gcd_pos_of_pos_left _ hd
  unfold dA bl
  refine ⟨fR ?_,fR ?_⟩
  · rw [hn]
    have:(n / (Nat.gcd d n.natAbs:Int)).natAbs≤n.natAbs:=Int.natAbs_ediv_le_natAbs _ _
    omega
  · rw [hden]
    exact Nat.lt_of_le_of_lt (Nat.div_le_self _ _) h2
end Go.Ev
/- Rational numbers over a bound denominator. -/
namespace Go.Ev
set_option linter.all false
def Dv (T:Nat) (q:Q):Prop:=∃ z:Int,q*(T:Q)=(z:Q)
theorem aHo (z:Int):Dv 1 (z:Q):=⟨z,by simp⟩
theorem pY {T:Nat} {p q:Q} (hp:Dv T p) (hq:Dv T q):Dv T (p+q):=by
  obtain ⟨a,ha⟩:=hp;obtain ⟨b,hb⟩:=hq
  exact ⟨a+b,by rw [_root_.Rat.add_mul,ha,hb,_root_.Rat.intCast_add]⟩
theorem aJG {T:Nat} {p:Q} (hp:Dv T p):Dv T (-p):=by
  obtain ⟨a,ha⟩:=hp
  exact ⟨-a,by rw [_root_.Rat.neg_mul,ha,_root_.Rat.intCast_neg]⟩
theorem aAc {T:Nat} {p q:Q} (hp:Dv T p) (hq:Dv T q):Dv T (p - q):=by
  rw [_root_.Rat.sub_eq_add_neg];exact pY hp (aJG hq)
theorem aAd {T U:Nat} {p q:Q} (hp:Dv T p) (hq:Dv U q):Dv (T*U) (p*q):=by
  obtain ⟨a,ha⟩:=hp;obtain ⟨b,hb⟩:=hq
  refine ⟨a*b,?_⟩
  rw [_root_.Rat.intCast_mul,← ha,← hb,_root_.Rat.natCast_mul];grind
theorem vH {T:Nat} (U:Nat) {p:Q} (hp:Dv T p):Dv (T*U) p:=by
  have:=aAd hp (q:=1) (U:=U) ⟨(U:Int),by rw [_root_.Rat.one_mul];rfl⟩
  rwa [_root_.Rat.mul_one] at this
theorem yA {T U:Nat} {p:Q} (hp:Dv T p) (h:T ∣ U):Dv U p:=by
  obtain ⟨k,rfl⟩:=h;exact vH k hp
theorem aG4 {T B:Nat} {q:Q} (hT:0 < T) (h:Dv T q) (h1:-(B:Q)≤q) (h2:q≤(B:Q)) (hB:0 < B) (hb:B*T < BB ^ 24):dA q:=by
  obtain ⟨z,hz⟩:=h
  have hT0:(0:Q) < (T:Q):=by
    have:((0:Nat):Q) < (T:Q):=_root_.Rat.natCast_lt_natCast.2 hT
    simpa using this
  have e:q=mkRat z T:=by
    rw [_root_.Rat.mkRat_eq_div]
    have:(T:Q)≠0:=by grind
    have e2:((T:Int):Q)=(T:Q):=rfl
    grind
  refine aJ6 hT e ?_ (Nat.lt_of_le_of_lt (Nat.le_mul_of_pos_left T hB) hb)
  have u1:(z:Q)≤((B*T:Nat):Q):=by
    rw [← hz,_root_.Rat.natCast_mul]
    exact _root_.Rat.mul_le_mul_of_nonneg_right h2 (by grind)
  have u2:-((B*T:Nat):Q)≤(z:Q):=by
    rw [← hz,_root_.Rat.natCast_mul,← _root_.Rat.neg_mul]
    exact _root_.Rat.mul_le_mul_of_nonneg_right h1 (by grind)
  have v1:z≤((B*T:Nat):Int):=_root_.Rat.intCast_le_intCast.1 u1
  have v2:-((B*T:Nat):Int)≤z:=_root_.Rat.intCast_le_intCast.1 (by rw [_root_.Rat.intCast_neg];exact u2)
  omega
end Go.Ev
/- Links over the rational numbers; merging and joining. -/
namespace Go.Ev
set_option linter.all false
structure QL where
  a:Int
  b:Int
  w:Q
  x:Q
  y:Q
def QL.toL (l:QL):Link:=⟨l.a,l.b,ofQ l.w,ofQ l.x,ofQ l.y⟩
def QL.fit (l:QL):Prop:=dA l.w∧dA l.x∧dA l.y
def QL.ok (l:QL):Prop:=(0≤l.a∧l.a≤9)∧(0≤l.b∧l.b≤9)∧l.a < l.b∧0 < l.w
theorem aCB {l:QL} (h:l.fit):ValidL l.toL↔l.ok:=by
  unfold ValidL QL.ok QL.toL
  simp only [aIO h.1,uY h.2.1,uY h.2.2,and_true]
def dE (k l:QL):Prop:=k.a < l.a∨(k.a=l.a∧k.b < l.b)
instance (k l:QL):Decidable (dE k l):=by unfold dE;infer_instance
theorem aCj (k l:QL):eO k.toL l.toL↔dE k l:=Iff.rfl
def mrg (k l:QL):QL:=⟨k.a,k.b,k.w+l.w,(k.w*k.x+l.w*l.x) / (k.w+l.w),(k.w*k.y+l.w*l.y) / (k.w+l.w)⟩
def sqQ (x y:Q):Q:=x*x+y*y
def aGT (k l:QL):Q:=(k.w*l.w / (k.w+l.w))*sqQ (k.x - l.x) (k.y - l.y)
def aGS (k l:QL):Prop :=
  (dA (k.w+l.w)∧dA (k.w*k.x)∧dA (l.w*l.x)∧dA (k.w*k.x+l.w*l.x)∧dA ((k.w*k.x+l.w*l.x) / (k.w+l.w))) ∧
  (dA (k.w*k.y)∧dA (l.w*l.y)∧dA (k.w*k.y+l.w*l.y)∧dA ((k.w*k.y+l.w*l.y) / (k.w+l.w))) ∧
  (dA (k.w*l.w)∧dA (k.w*l.w / (k.w+l.w))∧dA (k.x - l.x)∧dA (k.y - l.y)) ∧
  (dA ((k.x - l.x)*(k.x - l.x))∧dA ((k.y - l.y)*(k.y - l.y))∧dA (sqQ (k.x - l.x) (k.y - l.y))∧dA (aGT k l))
theorem aHh {p q:Q} (hp:dA p) (hq:dA q) (h:dA (p+q)):RA (ofQ p) (ofQ q)=ofQ (p+q):=by rw [aPz hp hq,aA7 h]
theorem aHg {p q:Q} (hp:dA p) (hq:dA q) (h:dA (p*q)):RM (ofQ p) (ofQ q)=ofQ (p*q):=by rw [aPw hp hq,aA7 h]
theorem aNo {p q:Q} (hp:dA p) (hq:dA q) (h:dA (p - q)):RS (ofQ p) (ofQ q)=ofQ (p - q):=by rw [aPv hp hq,aA7 h]
theorem aMG {p q:Q} (hp:dA p) (hq:dA q) (h0:q≠0) (h:dA (p / q)):RD (ofQ p) (ofQ q)=ofQ (p / q):=by rw [aPx hp hq h0,aA7 h]
theorem aMf {z:Int} (h:z.natAbs < 2 ^ 62):dA (z:Q):=by
  refine aJ6 (n:=z) (d:=1) (by decide) ?_ (Nat.lt_trans h (by rw [aMQ];decide)) (by rw [aMQ];decide)
  rw [_root_.Rat.mkRat_eq_div];show (z:Q)=(z:Q) / ((1:Nat):Q);grind
theorem aAx {z:Int} (h:z.natAbs < 2 ^ 62):pM z=ofQ (z:Q):=by
  unfold pM ofQ
  rw [show aA (z:Q).den=[1] from pV (d:=1) (by rw [cX];decide) (by decide)];rfl
theorem aM9 {k l:QL} (hk:k.fit) (hl:l.fit) (h0:k.w+l.w≠0) (h:aGS k l):xF k.toL l.toL∧aAn k.toL l.toL=(mrg k l).toL∧aCM k.toL l.toL=ofQ (aGT k l)∧(mrg k l).fit∧dA (aGT k l):=by
  obtain ⟨⟨a1,a2,a3,a4,a5⟩,⟨b2,b3,b4,b5⟩,⟨c1,c2,c3,c4⟩,d1,d2,d3,d4⟩:=h
  obtain ⟨k1,k2,k3⟩:=hk
  obtain ⟨l1,l2,l3⟩:=hl
  have eL:aAn k.toL l.toL=(mrg k l).toL:=by
    unfold aAn QL.toL mrg
    simp only []
    rw [aHh k1 l1 a1,aHg k1 k2 a2,aHg l1 l2 a3,aHh a2 a3 a4,aMG a4 a1 h0 a5,aHg k1 k3 b2,aHg l1 l3 b3,aHh b2 b3 b4,aMG b4 a1 h0 b5]
  have eE:aCM k.toL l.toL=ofQ (aGT k l):=by
    unfold aCM QL.toL aGT sqR
    simp only []
    unfold sqQ at d3
    rw [aHh k1 l1 a1,aHg k1 l1 c1,aMG c1 a1 h0 c2,aNo k2 l2 c3,aNo k3 l3 c4,aHg c3 c3 d1,aHg c4 c4 d2,aHh d1 d2 d3,aHg c2 d3 d4]
    rfl
  refine ⟨?_,eL,eE,⟨a1,a5,b5⟩,d4⟩
  unfold xF
  rw [eL,eE]
  exact ⟨uY a1,uY a5,uY b5,uY d4⟩
def lC:List QL→QL→List QL × Q
  | [],l=>([l],0)
  | k::s,l=>if dE k l then (k::(lC s l).1,(lC s l).2) else if dE l k then (l::k::s,0) else (mrg k l::s,aGT k l)
def aBU:List QL→QL→Prop
  | [],_=>True
  | k::s,l=>if dE k l then aBU s l else if dE l k then True else k.w+l.w≠0∧aGS k l
theorem tQ {k l:QL} {s:List QL} (c:dE k l):lC (k::s) l=(k::(lC s l).1,(lC s l).2):=by rw [lC,if_pos c]
theorem wS {k l:QL} {s:List QL} (c:¬dE k l) (d:dE l k):lC (k::s) l=(l::k::s,0):=by rw [lC,if_neg c,if_pos d]
theorem wR {k l:QL} {s:List QL} (c:¬dE k l) (d:¬dE l k):lC (k::s) l=(mrg k l::s,aGT k l):=by rw [lC,if_neg c,if_neg d]
theorem aDP:pM 0=ofQ 0:=aAx (by decide)
theorem aCA:dA 0:=aMf (z:=0) (by decide)
theorem aK1 {y l:Link} {r:List Link} (h:eO y l):aAa (y::r) l=(aAa r l).map (fun t=>(y::t.1,t.2)):=by
  have e:dK l (y::r)=dK l r+1:=by rw [dK,if_pos h]
  unfold aAa
  rw [e]
  by_cases c:dK l r < r.length
  · rw [dif_pos c,dif_pos (by simpa using c)]
    simp only [List.getElem_cons_succ,List.take_succ_cons,List.drop_succ_cons,List.cons_append]
    split
    · rfl
    · split <;> rfl
  · rw [dif_neg c,dif_neg (by simpa using c)]
    simp only [List.take_succ_cons,List.drop_succ_cons,List.cons_append]
    rfl
theorem aK2 {y l:Link} {r:List Link} (h:¬eO y l):aAa (y::r) l=if eO l y then some (l::y::r,pM 0) else if xF y l then some (aAn y l::r,aCM y l) else none:=by
  have e:dK l (y::r)=0:=by rw [dK,if_neg h]
  unfold aAa
  rw [e]
  simp
theorem aNL:∀ (s:List QL) (l:QL),(∀ k ∈ s,k.fit)→l.fit→aBU s l→aAa (s.map QL.toL) l.toL=some ((lC s l).1.map QL.toL,ofQ (lC s l).2)∧(∀ k ∈ (lC s l).1,k.fit)∧dA (lC s l).2
  | [],l,_,hl,_=>by
    refine ⟨?_,?_,aCA⟩
    · unfold aAa lC
      simp [dK,aDP]
    · intro k hk
      simp [lC] at hk;subst hk;exact hl
  | k::s,l,hs,hl,hf=>by
    unfold aBU at hf
    rw [List.map_cons]
    by_cases c:dE k l
    · rw [if_pos c] at hf
      obtain ⟨g1,g2,g3⟩:=aNL s l (fun x hx=>hs x (by simp [hx])) hl hf
      rw [aK1 ((aCj k l).2 c),g1,tQ c]
      refine ⟨rfl,fun x hx=>?_,g3⟩
      rcases List.mem_cons.1 hx with rfl | hx
      · exact hs _ (by simp)
      · exact g2 x hx
    · rw [if_neg c] at hf
      rw [aK2 (fun h=>c ((aCj k l).1 h))]
      by_cases d:dE l k
      · rw [wS c d,if_pos ((aCj l k).2 d)]
        refine ⟨by rw [aDP];rfl,fun x hx=>?_,aCA⟩
        rcases List.mem_cons.1 hx with rfl | hx
        · exact hl
        · exact hs x hx
      · rw [if_neg d] at hf
        rw [wR c d,if_neg (fun h=>d ((aCj l k).1 h))]
        obtain ⟨g1,g2,g3,g4,g5⟩:=aM9 (hs k (by simp)) hl hf.1 hf.2
        rw [if_pos g1,g2,g3]
        refine ⟨rfl,fun x hx=>?_,g5⟩
        rcases List.mem_cons.1 hx with rfl | hx
        · exact g4
        · exact hs x (by simp [hx])
def bP:List QL→List QL→Q→List QL × Q
  | [],s,e=>(s,e)
  | x::r,s,e=>bP r (lC s x).1 (e+(lC s x).2)
def zQ:List QL→List QL→Q→Prop
  | [],_,_=>True
  | x::r,s,e=>aBU s x∧dA (e+(lC s x).2)∧zQ r (lC s x).1 (e+(lC s x).2)
theorem aL3:∀ (l s:List QL) (e:Q),(∀ k ∈ l,k.fit)→(∀ k ∈ s,k.fit)→dA e→zQ l s e→tA (l.map QL.toL) (s.map QL.toL) (ofQ e)=some ((bP l s e).1.map QL.toL,ofQ (bP l s e).2)∧(∀ k ∈ (bP l s e).1,k.fit)∧dA (bP l s e).2
  | [],s,e,_,hs,he,_=>⟨rfl,hs,he⟩
  | x::r,s,e,hl,hs,he,hf=>by
    obtain ⟨f1,f2,f3⟩:=hf
    obtain ⟨g1,g2,g3⟩:=aNL s x hs (hl x (by simp)) f1
    rw [List.map_cons,tA,g1]
    simp only []
    rw [aHh he g3 f2,if_pos (uY f2)]
    exact aL3 r _ _ (fun y hy=>hl y (by simp [hy])) g2 f2 f3
end Go.Ev
/- What joining keeps: sums, energies, order, scale. -/
namespace Go.Ev
set_option linter.all false
def sm (f:QL→Q):List QL→Q
  | []=>0
  | x::l=>f x+sm f l
theorem zA (f:QL→Q):∀ a b:List QL,sm f (a++b)=sm f a+sm f b
  | [],b=>by simp only [List.nil_append,sm];grind
  | x::a,b=>by rw [List.cons_append,sm,sm,zA f a b,_root_.Rat.add_assoc]
theorem rO {f:QL→Q}:∀ {l:List QL},(∀ x ∈ l,0≤f x)→0≤sm f l
  | [],_=>by simp [sm]
  | x::l,h=>by
    have h1:=h x (by simp)
    have h2:=rO (f:=f) (l:=l) (fun y hy=>h y (by simp [hy]))
    rw [sm];grind
theorem aIN {f:QL→Q}:∀ {l:List QL},(∀ x ∈ l,0≤f x)→∀ x ∈ l,f x≤sm f l
  | y::l,h,x,hx=>by
    have h1:=h y (by simp)
    have h2:=rO (f:=f) (l:=l) (fun y hy=>h y (by simp [hy]))
    rw [sm]
    rcases List.mem_cons.1 hx with rfl | hx
    · grind
    · have:=aIN (f:=f) (l:=l) (fun y hy=>h y (by simp [hy])) x hx
      grind
theorem aNx {f g:QL→Q}:∀ {l:List QL},(∀ x ∈ l,f x≤g x)→sm f l≤sm g l
  | [],_=>by simp [sm]
  | x::l,h=>by
    have h1:=h x (by simp)
    have h2:=aNx (f:=f) (g:=g) (l:=l) (fun y hy=>h y (by simp [hy]))
    rw [sm,sm];grind
theorem aLj (c:Q) (f:QL→Q):∀ l:List QL,sm (fun x=>c*f x) l=c*sm f l
  | []=>by simp [sm]
  | x::l=>by rw [sm,sm,aLj c f l];grind
def enQ (l:QL):Q:=l.w*sqQ l.x l.y
def wt (l:QL):Q:=l.w
def mx (l:QL):Q:=l.w*l.x
def my (l:QL):Q:=l.w*l.y
theorem aN7 {k l:QL} (hk:0 < k.w) (hl:0 < l.w):enQ (mrg k l)+aGT k l=enQ k+enQ l:=by
  have:k.w+l.w≠0:=by grind
  unfold enQ mrg aGT sqQ
  simp only []
  grind
theorem aN4 (k l:QL):wt (mrg k l)=wt k+wt l:=rfl
theorem aN6 {k l:QL} (hk:0 < k.w) (hl:0 < l.w):mx (mrg k l)=mx k+mx l:=by
  have:k.w+l.w≠0:=by grind
  unfold mx mrg
  simp only []
  grind
theorem aN5 {k l:QL} (hk:0 < k.w) (hl:0 < l.w):my (mrg k l)=my k+my l:=by
  have:k.w+l.w≠0:=by grind
  unfold my mrg
  simp only []
  grind
theorem aM7 {k l:QL} (hk:0 < k.w) (hl:0 < l.w):0 < (mrg k l).w:=by
  show 0 < k.w+l.w;grind
theorem aA2 {k l:QL} (c:¬dE k l) (d:¬dE l k):k.a=l.a∧k.b=l.b:=by unfold dE at c d;omega
theorem aFh {P:QL→Prop} (hP:∀ k l,k.a=l.a→k.b=l.b→P k→P l→P (mrg k l)):∀ (s:List QL) (l:QL),(∀ x ∈ s,P x)→P l→∀ x ∈ (lC s l).1,P x
  | [],l,_,hl,x,hx=>by simp [lC] at hx;subst hx;exact hl
  | k::s,l,hs,hl,x,hx=>by
    by_cases c:dE k l
    · rw [tQ c] at hx
      rcases List.mem_cons.1 hx with rfl | hx
      · exact hs _ (by simp)
      · exact aFh hP s l (fun y hy=>hs y (by simp [hy])) hl x hx
    · by_cases d:dE l k
      · rw [wS c d] at hx
        rcases List.mem_cons.1 hx with rfl | hx
        · exact hl
        · exact hs x hx
      · rw [wR c d] at hx
        rcases List.mem_cons.1 hx with rfl | hx
        · exact hP _ _ (aA2 c d).1 (aA2 c d).2 (hs k (by simp)) hl
        · exact hs x (by simp [hx])
theorem aKb {f:QL→Q} (hf:∀ k l,k.a=l.a→k.b=l.b→0 < k.w→0 < l.w→f (mrg k l)=f k+f l):∀ (s:List QL) (l:QL),(∀ x ∈ s,0 < x.w)→0 < l.w→sm f (lC s l).1=sm f s+f l
  | [],l,_,hl=>by simp only [lC,sm];grind
  | k::s,l,hs,hl=>by
    by_cases c:dE k l
    · rw [tQ c,sm,sm,aKb hf s l (fun y hy=>hs y (by simp [hy])) hl];grind
    · by_cases d:dE l k
      · rw [wS c d,sm];grind
      · rw [wR c d,sm,sm,hf _ _ (aA2 c d).1 (aA2 c d).2 (hs k (by simp)) hl];grind
theorem aKc:∀ (s:List QL) (l:QL),(∀ x ∈ s,0 < x.w)→0 < l.w→sm enQ (lC s l).1+(lC s l).2=sm enQ s+enQ l
  | [],l,_,hl=>by simp only [lC,sm];grind
  | k::s,l,hs,hl=>by
    by_cases c:dE k l
    · have:=aKc s l (fun y hy=>hs y (by simp [hy])) hl
      rw [tQ c,sm,sm];simp only [];grind
    · by_cases d:dE l k
      · rw [wS c d,sm];grind
      · have:=aN7 (hs k (by simp)) hl
        rw [wR c d,sm,sm];simp only [];grind
theorem aH1 {a b c:QL} (h:dE a b) (g:dE b c):dE a c:=by unfold dE at *;omega
theorem aIz:∀ (s:List QL) (l:QL),s.Pairwise dE→(lC s l).1.Pairwise dE
  | [],l,_=>by simp [lC]
  | k::s,l,h=>by
    rw [List.pairwise_cons] at h
    by_cases c:dE k l
    · rw [tQ c]
      simp only []
      rw [List.pairwise_cons]
      refine ⟨aFh (P:=fun x=>dE k x) (fun a b e1 e2 g1 g2=>?_) s l h.1 c,aIz s l h.2⟩
      exact g1
    · by_cases d:dE l k
      · rw [wS c d]
        simp only []
        rw [List.pairwise_cons]
        refine ⟨fun x hx=>?_,List.pairwise_cons.2 h⟩
        rcases List.mem_cons.1 hx with rfl | hx
        · exact d
        · exact aH1 d (h.1 x hx)
      · rw [wR c d]
        simp only []
        rw [List.pairwise_cons]
        exact ⟨fun x hx=>h.1 x hx,h.2⟩
def Sc (D:Nat) (l:QL):Prop:=0 < l.w∧Dv D l.w∧Dv D (mx l)∧Dv D (my l)
theorem aOj {D:Nat} {k l:QL} (hk:Sc D k) (hl:Sc D l):Sc D (mrg k l):=by
  refine ⟨aM7 hk.1 hl.1,pY hk.2.1 hl.2.1,?_,?_⟩
  · rw [aN6 hk.1 hl.1];exact pY hk.2.2.1 hl.2.2.1
  · rw [aN5 hk.1 hl.1];exact pY hk.2.2.2 hl.2.2.2
theorem aOk {D E:Nat} {l:QL} (h:Sc D l) (hd:D ∣ E):Sc E l:=⟨h.1,yA h.2.1 hd,yA h.2.2.1 hd,yA h.2.2.2 hd⟩
def nm (D:Nat) (w:Q):Nat:=(w*(D:Q)).num.toNat
theorem aAe {D:Nat} {w:Q} (hD:0 < D) (hw:0 < w) (h:Dv D w):(nm D w:Q)=w*(D:Q)∧0 < nm D w:=by
  obtain ⟨z,hz⟩:=h
  have hD':(0:Q) < (D:Q):=by
    have:((0:Nat):Q) < (D:Q):=_root_.Rat.natCast_lt_natCast.2 hD
    simpa using this
  have hp:0 < w*(D:Q):=_root_.Rat.mul_pos hw hD'
  have hzp:0 < z:=by
    have:((0:Int):Q) < (z:Q):=by rw [← hz];exact hp
    exact _root_.Rat.intCast_lt_intCast.1 this
  unfold nm
  rw [hz]
  have e:((z:Q)).num=z:=rfl
  rw [e]
  refine ⟨?_,by omega⟩
  have e2:((z.toNat:Int):Q)=(z:Q):=by rw [Int.toNat_of_nonneg (by omega)]
  exact e2
theorem aDa {D W:Nat} {w:Q} (hD:0 < D) (hw:0 < w) (h:Dv D w) (hW:w≤(W:Q)):nm D w≤W*D:=by
  have hD':(0:Q)≤(D:Q):=by
    have:((0:Nat):Q)≤(D:Q):=_root_.Rat.natCast_le_natCast.2 (Nat.zero_le _)
    simpa using this
  have h1:=(aAe hD hw h).1
  have h2:w*(D:Q)≤(W:Q)*(D:Q):=_root_.Rat.mul_le_mul_of_nonneg_right hW hD'
  rw [← h1,← _root_.Rat.natCast_mul] at h2
  exact _root_.Rat.natCast_le_natCast.1 h2
theorem aCz {D:Nat} {w a:Q} (hD:0 < D) (hw:0 < w) (h:Dv D w) (ha:Dv D a):Dv (nm D w) (a / w):=by
  obtain ⟨z,hz⟩:=ha
  refine ⟨z,?_⟩
  rw [(aAe hD hw h).1,← hz]
  have:w≠0:=by grind
  grind
theorem aOK {l:QL} (h:0 < l.w):l.x=mx l / l.w∧l.y=my l / l.w:=by
  have:l.w≠0:=by grind
  unfold mx my
  constructor <;> grind
theorem aJy {D:Nat} {l:QL} (hD:0 < D) (h:Sc D l):Dv (nm D l.w) l.x∧Dv (nm D l.w) l.y:=by
  rw [(aOK h.1).1,(aOK h.1).2]
  exact ⟨aCz hD h.1 h.2.1 h.2.2.1,aCz hD h.1 h.2.1 h.2.2.2⟩
theorem aKf {D:Nat} {l:QL} (hD:0 < D) (h:Sc D l):Dv (D*nm D l.w) (enQ l):=by
  have e:enQ l=mx l*l.x+my l*l.y:=by unfold enQ sqQ mx my;grind
  rw [e]
  exact pY (aAd h.2.2.1 (aJy hD h).1) (aAd h.2.2.2 (aJy hD h).2)
def pn (D:Nat):List QL→Nat
  | []=>1
  | x::l=>nm D x.w*pn D l
theorem aIV (D:Nat):∀ a b:List QL,pn D (a++b)=pn D a*pn D b
  | [],b=>by simp [pn]
  | x::a,b=>by rw [List.cons_append,pn,pn,aIV D a b,Nat.mul_assoc]
theorem aGN (D:Nat):∀ {l:List QL},∀ x ∈ l,nm D x.w ∣ pn D l
  | y::l,x,hx=>by
    rw [pn]
    rcases List.mem_cons.1 hx with rfl | hx
    · exact Nat.dvd_mul_right _ _
    · exact Nat.dvd_trans (aGN D x hx) (Nat.dvd_mul_left _ _)
theorem aCJ {D:Nat} (hD:0 < D):∀ {l:List QL},(∀ x ∈ l,Sc D x)→0 < pn D l
  | [],_=>by simp [pn]
  | x::l,h=>Nat.mul_pos (aAe hD (h x (by simp)).1 (h x (by simp)).2.1).2 (aCJ hD (fun y hy=>h y (by simp [hy])))
theorem aFX {D W:Nat} (hD:0 < D):∀ {l:List QL},(∀ x ∈ l,Sc D x)→(∀ x ∈ l,x.w≤(W:Q))→pn D l≤(W*D) ^ l.length
  | [],_,_=>by simp [pn]
  | x::l,h,g=>by
    rw [pn,List.length_cons,Nat.pow_succ,Nat.mul_comm]
    exact Nat.mul_le_mul (aFX hD (fun y hy=>h y (by simp [hy])) (fun y hy=>g y (by simp [hy]))) (aDa hD (h x (by simp)).1 (h x (by simp)).2.1 (g x (by simp)))
theorem aIE {T:Nat} {f:QL→Q}:∀ {l:List QL},(∀ x ∈ l,Dv T (f x))→Dv T (sm f l)
  | [],_=>⟨0,by simp [sm]⟩
  | x::l,h=>pY (h x (by simp)) (aIE (fun y hy=>h y (by simp [hy])))
theorem aFj {D:Nat} (hD:0 < D) {l:List QL} (h:∀ x ∈ l,Sc D x):Dv (D*pn D l) (sm enQ l) :=
  aIE fun x hx=>yA (aKf hD (h x hx)) (Nat.mul_dvd_mul_left D (aGN D x hx))
end Go.Ev
/- Joining computes with few digits only. -/
namespace Go.Ev
set_option linter.all false
def bd (B:Nat) (q:Q):Prop:=-(B:Q)≤q∧q≤(B:Q)
theorem aBM (n:Nat):(0:Q)≤(n:Q):=by
  have:((0:Nat):Q)≤(n:Q):=_root_.Rat.natCast_le_natCast.2 (Nat.zero_le _)
  simpa using this
theorem aI6 {m n:Nat} (h:m≤n):(m:Q)≤(n:Q):=_root_.Rat.natCast_le_natCast.2 h
theorem aNJ {A B:Nat} {p:Q} (h:bd A p) (hl:A≤B):bd B p:=by
  have:=aI6 hl
  unfold bd at *;grind
theorem aG9 {A B:Nat} {p q:Q} (hp:bd A p) (hq:bd B q):bd (A+B) (p+q):=by
  unfold bd at *;rw [_root_.Rat.natCast_add];grind
theorem aG8 {A B:Nat} {p q:Q} (hp:bd A p) (hq:bd B q):bd (A+B) (p - q):=by
  unfold bd at *;rw [_root_.Rat.natCast_add];grind
theorem aMv {A:Nat} {p:Q} (hp:bd A p):bd A (-p):=by
  unfold bd at *;grind
theorem rK {A B:Nat} {p q:Q} (hp:bd A p) (hq:bd B q):bd (A*B) (p*q):=by
  unfold bd at *
  rw [_root_.Rat.natCast_mul]
  have a1:0≤((A:Q) - p)*((B:Q)+q):=_root_.Rat.mul_nonneg (by grind) (by grind)
  have a2:0≤((A:Q)+p)*((B:Q) - q):=_root_.Rat.mul_nonneg (by grind) (by grind)
  have a3:0≤((A:Q)+p)*((B:Q)+q):=_root_.Rat.mul_nonneg (by grind) (by grind)
  have a4:0≤((A:Q) - p)*((B:Q) - q):=_root_.Rat.mul_nonneg (by grind) (by grind)
  constructor <;> grind
theorem aG6 {A:Nat} {p w:Q} (hw:0 < w) (h1:-(A:Q)*w≤p) (h2:p≤(A:Q)*w):bd A (p / w):=by
  have e:p / w*w=p:=_root_.Rat.div_mul_cancel (by grind)
  constructor
  · exact _root_.Rat.le_of_mul_le_mul_right (by rw [e];exact h1) hw
  · exact _root_.Rat.le_of_mul_le_mul_right (by rw [e];exact h2) hw
theorem aGq {A:Nat} {w x:Q} (hw:0 < w) (h:bd A x):-(A:Q)*w≤w*x∧w*x≤(A:Q)*w:=by
  have h1:0≤w*(x+A):=_root_.Rat.mul_nonneg (by grind) (by unfold bd at h;grind)
  have h2:0≤w*(A - x):=_root_.Rat.mul_nonneg (by grind) (by unfold bd at h;grind)
  constructor <;> grind
theorem aHa {A:Nat} {w v x y:Q} (hw:0 < w) (hv:0 < v) (hx:bd A x) (hy:bd A y):bd A ((w*x+v*y) / (w+v)):=by
  obtain ⟨a1,a2⟩:=aGq hw hx
  obtain ⟨b1,b2⟩:=aGq hv hy
  exact aG6 (by grind) (by grind) (by grind)
def PP:Nat:=72 ^ 16
theorem aOr:0 < PP:=by decide
theorem xN {a b T U:Nat} (h:T≤PP ^ a) (g:U≤PP ^ b):T*U≤PP ^ (a+b):=by
  rw [Nat.pow_add];exact Nat.mul_le_mul h g
theorem oE {a b T:Nat} (h:T≤PP ^ a) (g:a≤b):T≤PP ^ b:=Nat.le_trans h (Nat.pow_le_pow_right aOr g)
theorem iG {T B:Nat} {q:Q} (hT:0 < T) (h:Dv T q) (h1:bd B q) (hB:0 < B) (b:B≤10 ^ 12) (t:T≤PP ^ 6):dA q:=by
  refine aG4 hT h h1.1 h1.2 hB (Nat.lt_of_le_of_lt (Nat.mul_le_mul b t) ?_)
  rw [aMQ];unfold PP;decide
theorem aKk {W:Nat} {w:Q} (h:0 < w) (h2:w≤(W:Q)):bd W w:=⟨by have:=aBM W;grind,h2⟩
structure Lk (D X:Nat) (l:QL):Prop where
  sc:Sc D l
  bx:bd X l.x
  by':bd X l.y
theorem aOt {D X:Nat} {k l:QL} (hk:Lk D X k) (hl:Lk D X l):Lk D X (mrg k l) :=
  ⟨aOj hk.sc hl.sc,aHa hk.sc.1 hl.sc.1 hk.bx hl.bx,aHa hk.sc.1 hl.sc.1 hk.by' hl.by'⟩
theorem aEP {D X:Nat} {l:QL} (hD:0 < D) (hP:72*D≤PP) (h:Lk D X l) (hX:X≤1000) (h0:0 < X) (hw:l.w≤72):l.fit:=by
  have hn:=aDa hD h.sc.1 h.sc.2.1 (W:=72) hw
  have np:=(aAe hD h.sc.1 h.sc.2.1).2
  obtain ⟨x1,x2⟩:=aJy hD h.sc
  have e1:D≤PP ^ 6:=oE (a:=1) (by rw [Nat.pow_one];omega) (by omega)
  have e2:nm D l.w≤PP ^ 6:=oE (a:=1) (by rw [Nat.pow_one];omega) (by omega)
  exact ⟨iG hD h.sc.2.1 (aKk (W:=72) h.sc.1 hw) (by omega) (by omega) e1,iG np x1 h.bx h0 (by omega) e2,iG np x2 h.by' h0 (by omega) e2⟩
theorem aKE {D X:Nat} {k l:QL} (hD:0 < D) (hP:72*D≤PP) (hX:X≤1000) (h0:0 < X) (hk:Lk D X k) (hl:Lk D X l) (hw:k.w+l.w≤72):aGS k l:=by
  have pk:=hk.sc.1
  have pl:=hl.sc.1
  have kw:k.w≤((72:Nat):Q):=by show k.w≤72;grind
  have lw:l.w≤((72:Nat):Q):=by show l.w≤72;grind
  have sw:k.w+l.w≤((72:Nat):Q):=hw
  have dk:=hk.sc.2.1
  have dl:=hl.sc.2.1
  have ds:=pY dk dl
  have ps:0 < k.w+l.w:=by grind
  have nk:=aDa hD pk dk kw
  have nl:=aDa hD pl dl lw
  have ns:=aDa hD ps ds sw
  have qk:=(aAe hD pk dk).2
  have ql:=(aAe hD pl dl).2
  obtain ⟨qe,qs⟩:=aAe hD ps ds
  obtain ⟨xk,yk⟩:=aJy hD hk.sc
  obtain ⟨xl,yl⟩:=aJy hD hl.sc
  have eD:D≤PP ^ 1:=by rw [Nat.pow_one];omega
  have eK:nm D k.w≤PP ^ 1:=by rw [Nat.pow_one];omega
  have eL:nm D l.w≤PP ^ 1:=by rw [Nat.pow_one];omega
  have eS:nm D (k.w+l.w)≤PP ^ 1:=by rw [Nat.pow_one];omega
  have bk:=aKk pk kw
  have bl':=aKk pl lw
  have bs:=aKk ps sw
  have X2:X*X≤1000000:=Nat.mul_le_mul hX hX
  have X3:0 < X*X:=Nat.mul_pos h0 h0
  have cw:Dv (D*nm D (k.w+l.w)) (k.w*l.w / (k.w+l.w)):=by
    obtain ⟨z,hz⟩:=aAd dk dl
    refine ⟨z,?_⟩
    rw [← hz,_root_.Rat.natCast_mul,_root_.Rat.natCast_mul,qe]
    have:k.w+l.w≠0:=by grind
    grind
  have cb:bd 72 (k.w*l.w / (k.w+l.w)):=by
    have e:=aGq pk bl'
    have p2:0 < k.w*k.w:=_root_.Rat.mul_pos pk pk
    have p3:0 < k.w*l.w:=_root_.Rat.mul_pos pk pl
    exact aG6 ps (by have:=aBM 72;have:=_root_.Rat.mul_nonneg this (Std.le_of_lt ps);grind) (by have:=_root_.Rat.mul_nonneg (aBM 72) (Std.le_of_lt pl);grind)
  have dx:=aAc (vH (nm D l.w) xk) (by rw [Nat.mul_comm];exact vH (nm D k.w) xl)
  have dy:=aAc (vH (nm D l.w) yk) (by rw [Nat.mul_comm];exact vH (nm D k.w) yl)
  have bx:=aG8 hk.bx hl.bx
  have by_:=aG8 hk.by' hl.by'
  have qn:0 < nm D k.w*nm D l.w:=Nat.mul_pos qk ql
  have en2:nm D k.w*nm D l.w≤PP ^ 2:=xN eK eL
  have dxx:=aAd dx dx
  have dyy:=aAd dy dy
  have qnn:=Nat.mul_pos qn qn
  have en4:(nm D k.w*nm D l.w)*(nm D k.w*nm D l.w)≤PP ^ 4:=xN en2 en2
  have bxx:=rK bx bx
  have byy:=rK by_ by_
  have e4:(X+X)*(X+X)=4*(X*X):=by rw [← Nat.two_mul,Nat.mul_mul_mul_comm]
  rw [e4] at bxx byy
  have bsq:=aG9 bxx byy
  have dsq:=pY dxx dyy
  refine ⟨⟨?_,?_,?_,?_,?_⟩,⟨?_,?_,?_,?_⟩,⟨?_,?_,?_,?_⟩,?_,?_,?_,?_⟩
  · exact iG hD ds bs (by omega) (by omega) (oE eD (by omega))
  · exact iG hD hk.sc.2.2.1 (rK bk hk.bx) (by omega) (by omega) (oE eD (by omega))
  · exact iG hD hl.sc.2.2.1 (rK bl' hl.bx) (by omega) (by omega) (oE eD (by omega))
  · exact iG hD (pY hk.sc.2.2.1 hl.sc.2.2.1) (aG9 (rK bk hk.bx) (rK bl' hl.bx)) (by omega) (by omega) (oE eD (by omega))
  · exact iG qs (aCz hD ps ds (pY hk.sc.2.2.1 hl.sc.2.2.1)) (aHa pk pl hk.bx hl.bx) h0 (by omega) (oE eS (by omega))
  · exact iG hD hk.sc.2.2.2 (rK bk hk.by') (by omega) (by omega) (oE eD (by omega))
  · exact iG hD hl.sc.2.2.2 (rK bl' hl.by') (by omega) (by omega) (oE eD (by omega))
  · exact iG hD (pY hk.sc.2.2.2 hl.sc.2.2.2) (aG9 (rK bk hk.by') (rK bl' hl.by')) (by omega) (by omega) (oE eD (by omega))
  · exact iG qs (aCz hD ps ds (pY hk.sc.2.2.2 hl.sc.2.2.2)) (aHa pk pl hk.by' hl.by') h0 (by omega) (oE eS (by omega))
  · exact iG (Nat.mul_pos hD hD) (aAd dk dl) (rK bk bl') (by omega) (by omega) (oE (xN eD eD) (by omega))
  · exact iG (Nat.mul_pos hD qs) cw cb (by omega) (by omega) (oE (xN eD eS) (by omega))
  · exact iG qn dx bx (by omega) (by omega) (oE en2 (by omega))
  · exact iG qn dy by_ (by omega) (by omega) (oE en2 (by omega))
  · exact iG qnn dxx bxx (by omega) (by omega) (oE en4 (by omega))
  · exact iG qnn dyy byy (by omega) (by omega) (oE en4 (by omega))
  · exact iG qnn dsq bsq (by omega) (by omega) (oE en4 (by omega))
  · exact iG (Nat.mul_pos (Nat.mul_pos hD qs) qnn) (aAd cw dsq) (rK cb bsq) (by omega) (by omega) (xN (xN eD eS) en4)
end Go.Ev
/- Joining succeeds where scale and energies are small. -/
namespace Go.Ev
set_option linter.all false
def inV (V:List Int) (x:QL):Prop:=x.a ∈ V∧x.b ∈ V∧x.a < x.b
theorem aIZ {s:List QL} (h:s.Pairwise dE):(s.map fun x=>(x.a,x.b)).Nodup:=by
  rw [List.Nodup,List.pairwise_map]
  refine h.imp fun {a b} hab e=>?_
  injection e with e1 e2
  unfold dE at hab;omega
theorem aHL {s:List QL} (h:s.Pairwise dE):(s.map fun x=>(x.b,x.a)).Nodup:=by
  rw [List.Nodup,List.pairwise_map]
  refine h.imp fun {a b} hab e=>?_
  injection e with e1 e2
  unfold dE at hab;omega
theorem aHE (V:List Int):∀ U:List Int,(U.flatMap fun u=>V.map fun v=>(u,v)).length=U.length*V.length
  | []=>by simp
  | u::U=>by rw [List.flatMap_cons,List.length_append,aHE V U,List.length_map,List.length_cons,Nat.succ_mul,Nat.add_comm]
theorem aEA {U V:List Int} {u v:Int} (hu:u ∈ U) (hv:v ∈ V):(u,v) ∈ U.flatMap fun u=>V.map fun v=>(u,v) :=
  List.mem_flatMap.2 ⟨u,hu,List.mem_map.2 ⟨v,hv,rfl⟩⟩
theorem aDG {V:List Int} (hV:V.Nodup) {s:List QL} (ho:s.Pairwise dE) (h:∀ x ∈ s,inV V x):2*s.length+V.length≤V.length*V.length:=by
  have n1:((s.map fun x=>(x.a,x.b))++((s.map fun x=>(x.b,x.a))++V.map fun v=>(v,v))).Nodup:=by
    rw [List.nodup_append,List.nodup_append]
    refine ⟨aIZ ho,⟨aHL ho,?_,?_⟩,?_⟩
    · rw [List.Nodup,List.pairwise_map]
      exact hV.imp fun {a b} hab e=>by injection e with e1 e2;exact hab e1
    · intro p hp q hq e
      obtain ⟨x,hx,rfl⟩:=List.mem_map.1 hp
      obtain ⟨v,hv,rfl⟩:=List.mem_map.1 hq
      injection e with e1 e2
      have:=(h x hx).2.2;omega
    · intro p hp q hq e
      obtain ⟨x,hx,rfl⟩:=List.mem_map.1 hp
      have:=(h x hx).2.2
      rcases List.mem_append.1 hq with hq | hq
      · obtain ⟨y,hy,rfl⟩:=List.mem_map.1 hq
        injection e with e1 e2
        have:=(h y hy).2.2;omega
      · obtain ⟨v,hv,rfl⟩:=List.mem_map.1 hq
        injection e with e1 e2;omega
  have:=n1.length_le_of_subset (l₂:=V.flatMap fun u=>V.map fun v=>(u,v)) (fun p hp=>by
    rcases List.mem_append.1 hp with hp | hp
    · obtain ⟨x,hx,rfl⟩:=List.mem_map.1 hp
      exact aEA (h x hx).1 (h x hx).2.1
    · rcases List.mem_append.1 hp with hp | hp
      · obtain ⟨x,hx,rfl⟩:=List.mem_map.1 hp
        exact aEA (h x hx).2.1 (h x hx).1
      · obtain ⟨v,hv,rfl⟩:=List.mem_map.1 hp
        exact aEA hv hv)
  rw [aHE] at this
  simp only [List.length_append,List.length_map] at this
  omega
theorem aGm:∀ (s:List QL) (l:QL),(∀ k ∈ s,k.w+l.w≠0∧aGS k l)→aBU s l
  | [],_,_=>trivial
  | k::s,l,h=>by
    unfold aBU
    split
    · exact aGm s l (fun y hy=>h y (by simp [hy]))
    · split
      · trivial
      · exact h k (by simp)
theorem aCS {l:QL} (h:0 < l.w):0≤enQ l:=by
  unfold enQ sqQ
  have h0:∀ z:Q,0≤z*z:=fun z=>by
    rcases _root_.Rat.le_total (a:=0) (b:=z) with c | c
    · exact _root_.Rat.mul_nonneg c c
    · have:=_root_.Rat.mul_nonneg (a:=-z) (b:=-z) (by grind) (by grind);grind
  exact _root_.Rat.mul_nonneg (by grind) (by have:=h0 l.x;have:=h0 l.y;grind)
theorem aOV {D X:Nat} {l:QL} (h:Lk D X l):enQ l≤((2*(X*X):Nat):Q)*l.w:=by
  have h1:=rK h.bx h.bx
  have h2:=rK h.by' h.by'
  have h3:=aG9 h1 h2
  have e:X*X+X*X=2*(X*X):=by omega
  rw [e] at h3
  have:=(aGq h.sc.1 h3).2
  unfold enQ sqQ;exact this
theorem aLk {D X:Nat} {l:List QL} (h:∀ x ∈ l,Lk D X x):sm enQ l≤((2*(X*X):Nat):Q)*sm wt l:=by
  rw [← aLj]
  exact aNx fun x hx=>aOV (h x hx)
theorem uP {D X:Nat} {l:List QL} (h:∀ x ∈ l,Lk D X x) (hX:X≤800) (hw:sm wt l≤72):0≤sm enQ l∧sm enQ l≤((10 ^ 8:Nat):Q):=by
  refine ⟨rO fun x hx=>aCS (h x hx).sc.1,?_⟩
  have h1:=aLk h
  have h2:X*X≤800*800:=Nat.mul_le_mul hX hX
  have h3:((2*(X*X):Nat):Q)*sm wt l≤((2*(X*X):Nat):Q)*72:=_root_.Rat.mul_le_mul_of_nonneg_left hw (aBM _)
  have h4:((2*(X*X)*72:Nat):Q)≤((10 ^ 8:Nat):Q):=aI6 (by omega)
  rw [_root_.Rat.natCast_mul] at h4
  have h5:((72:Nat):Q)=72:=rfl
  rw [h5] at h4
  grind
theorem nR {D X:Nat} {l:List QL} (h:∀ x ∈ l,Lk D X x):0≤sm wt l:=rO fun x hx=>by have:=(h x hx).sc.1;unfold wt;grind
theorem vV {D X:Nat} {l:List QL} (h:∀ x ∈ l,Lk D X x) {x:QL} (hx:x ∈ l):x.w≤sm wt l:=aIN (f:=wt) (fun y hy=>by have:=(h y hy).sc.1;unfold wt;grind) x hx
structure Jn (D T X γ:Nat) (V:List Int):Prop where
  hD:0 < D
  hP:72*D≤PP
  hX:X≤800
  h0:0 < X
  hT:0 < T
  hV:V.Nodup
  hg:V.length*V.length≤2*γ+V.length
  hB:10 ^ 8*(T*(D*(72*D) ^ γ)) < BB ^ 24
theorem aKo {D T X γ:Nat} {V:List Int} (j:Jn D T X γ V) {s:List QL} (hs:∀ x ∈ s,Lk D X x∧inV V x) (ho:s.Pairwise dE) (hw:sm wt s≤72):0 < D*pn D s∧D*pn D s≤D*(72*D) ^ γ∧Dv (D*pn D s) (sm enQ s):=by
  have hl:=aDG j.hV ho (fun x hx=>(hs x hx).2)
  have hg:=j.hg
  have h1:=aFX (W:=72) j.hD (fun x hx=>(hs x hx).1.sc) (fun x hx=>by
    have:=vV (fun y hy=>(hs y hy).1) hx
    show x.w≤72;grind)
  have hD:=j.hD
  refine ⟨Nat.mul_pos j.hD (aCJ j.hD (fun x hx=>(hs x hx).1.sc)),Nat.mul_le_mul_left D (Nat.le_trans h1 (Nat.pow_le_pow_right (by omega) (by omega))),aFj j.hD (fun x hx=>(hs x hx).1.sc)⟩
theorem aKW {D T X γ:Nat} {V:List Int} (j:Jn D T X γ V) {s:List QL} (hs:∀ x ∈ s,Lk D X x∧inV V x) (ho:s.Pairwise dE) (hw:sm wt s≤72) {q:Q} (hq:Dv T q) (h0:0≤q) (h1:q≤((10 ^ 8:Nat):Q)):dA (q - sm enQ s):=by
  obtain ⟨a1,a2,a3⟩:=aKo j hs ho hw
  obtain ⟨b1,b2⟩:=uP (fun x hx=>(hs x hx).1) j.hX hw
  have d:=aAc (vH (D*pn D s) hq) (by rw [Nat.mul_comm];exact vH T a3)
  refine aG4 (B:=10 ^ 8) (Nat.mul_pos j.hT a1) d ?_ ?_ (by omega) (Nat.lt_of_le_of_lt (Nat.mul_le_mul_left _ (Nat.mul_le_mul_left T a2)) j.hB)
  · grind
  · grind
theorem aCn {D T X γ:Nat} {V:List Int} (j:Jn D T X γ V):∀ (l s:List QL) (q:Q),(∀ x ∈ l,Lk D X x∧inV V x∧Dv T (enQ x))→(∀ x ∈ s,Lk D X x∧inV V x)→s.Pairwise dE→sm wt s+sm wt l≤72→Dv T q→0≤q→q+sm enQ l≤((10 ^ 8:Nat):Q) →
    zQ l s (q - sm enQ s)∧(∀ x ∈ (bP l s (q - sm enQ s)).1,Lk D X x∧inV V x)∧(bP l s (q - sm enQ s)).1.Pairwise dE∧(bP l s (q - sm enQ s)).2=q+sm enQ l - sm enQ (bP l s (q - sm enQ s)).1∧sm wt (bP l s (q - sm enQ s)).1=sm wt s+sm wt l
  | [],s,q,_,hs,ho,_,_,_,_=>by
    refine ⟨trivial,hs,ho,?_,?_⟩
    · simp only [bP,sm];grind
    · simp only [bP,sm];grind
  | x::r,s,q,hl,hs,ho,hw,hq,h0,hb=>by
    obtain ⟨x1,x2,x3⟩:=hl x (by simp)
    have hr:∀ y ∈ r,Lk D X y∧inV V y∧Dv T (enQ y):=fun y hy=>hl y (by simp [hy])
    rw [sm] at hw hb
    have wr:=nR (fun y hy=>(hr y hy).1)
    have ws:=nR (fun y hy=>(hs y hy).1)
    have wx:(0:Q) < wt x:=x1.sc.1
    have hp:∀ y ∈ s,0 < y.w:=fun y hy=>(hs y hy).1.sc.1
    have e1:=aKc s x hp x1.sc.1
    have e2:=aKb (f:=wt) (fun k l _ _ _ _=>aN4 k l) s x hp x1.sc.1
    have n1:=aFh (P:=fun y=>Lk D X y∧inV V y) (fun a b _ _ g1 g2=>⟨aOt g1.1 g2.1,g1.2⟩) s x hs ⟨x1,x2⟩
    have n2:=aIz s x ho
    have e3:q - sm enQ s+(lC s x).2=(q+enQ x) - sm enQ (lC s x).1:=by grind
    have er:=rO (f:=enQ) (fun y hy=>aCS (hr y hy).1.sc.1)
    have ex:=aCS x1.sc.1
    have hq':=pY hq x3
    obtain ⟨g1,g2,g3,g4,g5⟩:=aCn j r (lC s x).1 (q+enQ x) hr n1 n2 (by rw [e2];grind) hq' (by grind) (by grind)
    have ft:dA ((q+enQ x) - sm enQ (lC s x).1):=aKW j n1 n2 (by rw [e2];grind) hq' (by grind) (by grind)
    have af:aBU s x:=aGm s x fun k hk=>by
      have:=hp k hk
      have:=vV (fun y hy=>(hs y hy).1) hk
      unfold wt at wx
      refine ⟨by grind,aKE j.hD j.hP (by have:=j.hX;omega) j.h0 (hs k hk).1 x1 (by
        have e:wt x=x.w:=rfl
        grind)⟩
    rw [bP,zQ,e3]
    refine ⟨⟨af,ft,g1⟩,g2,g3,?_,?_⟩
    · rw [g4,sm];grind
    · rw [g5,e2,sm];grind
end Go.Ev
/- Comparison of links, conditionals, tree nodes; nodes that have changed. -/
namespace Go.Ev
set_option linter.all false
theorem aD4 (a b:List Int) (h:a.length≤4294967296):nZ a b=some (decide (a=b)):=by
  unfold nZ
  by_cases hl:a.length=b.length
  · rw [if_neg (by omega),aGV a b hl (fun k ha hb=>by
      unfold pR
      rw [if_pos (by omega),aK ha,aK hb,wi (by omega)]
      simp only [Option.bind_some]
      by_cases c:a[k]=b[k]
      · rw [if_neg (by simp [c]),if_pos c]
      · rw [if_pos c,if_neg c]) (by unfold pR;rw [if_neg (by omega)])]
    by_cases c:a=b <;> simp [c]
  · rw [if_pos (by omega)]
    have:a≠b:=by rintro rfl;exact hl rfl
    simp [this]
theorem fG (r s:Rat) (h:bI r≤4294967296):cS r s=some (decide (r=s)):=by
  obtain ⟨⟨a,m⟩,d⟩:=r
  obtain ⟨⟨a',m'⟩,d'⟩:=s
  unfold bI tC rY at h
  rw [rZ,rZ] at h
  simp only at h
  unfold cS
  simp only []
  rw [aD4 m m' (by omega),aD4 d d' (by omega)]
  by_cases c1:a=a' <;> by_cases c2:m=m' <;> by_cases c3:d=d' <;> simp [c1,c2,c3]
theorem aDg (r s:Rat) (h:bI r≤4294967296):kU r s=some (decide (r=s)):=fG r s h
theorem aIR (r s:Link) (h:bN r≤4294967296):qO r s=some (decide (r=s)):=by
  obtain ⟨a,b,w,x,y⟩:=r
  obtain ⟨a',b',w',x',y'⟩:=s
  unfold bN at h
  simp only at h
  unfold qO
  simp only []
  rw [fG w w' (by omega),fG x x' (by omega),fG y y' (by omega)]
  by_cases c1:a=a' <;> by_cases c2:b=b' <;> by_cases c3:w=w' <;> by_cases c4:x=x' <;> by_cases c5:y=y' <;> simp [c1,c2,c3,c4,c5]
theorem yO (a b:List Link) (h:aF a≤4294967296):lV a b=some (decide (a=b)):=by
  have hal:=fT bN a
  unfold aF at h
  unfold lV
  by_cases hl:a.length=b.length
  · rw [if_neg (by omega),aGV a b hl (fun k ha hb=>by
      have he:=mF (w:=bN) (List.getElem_mem ha)
      unfold oF
      rw [if_pos (by omega),aK ha,aK hb,wi (by omega)]
      simp only [Option.bind_some]
      rw [aIR _ _ (by omega)]
      simp only [Option.bind_some]
      by_cases c:a[k]=b[k]
      · rw [if_pos (by simp [c]),if_pos c]
      · rw [if_neg (by simp [c]),if_neg c]) (by unfold oF;rw [if_neg (by omega)])]
    by_cases c:a=b <;> simp [c]
  · rw [if_pos (by omega)]
    have:a≠b:=by rintro rfl;exact hl rfl
    simp [this]
theorem zT (a b:Conditional) (h:aS a≤4294967296):iE a b=some (decide (a=b)):=by
  obtain ⟨n,t,l⟩:=a
  obtain ⟨n',t',l'⟩:=b
  have hal:=fT iR l
  unfold aS mB at h
  simp only at h
  unfold iE
  simp only []
  rw [fG t t' (by omega)]
  by_cases c1:n=n'
  · by_cases c2:t=t'
    · by_cases hl:l.length=l'.length
      · have e:lp (fM ⟨n,t,l⟩ ⟨n',t',l'⟩) 0=some (if l=l' then .inl () else .inr false):=aGV l l' hl (fun k ha hb=>by
          have he:=mF (w:=iR) (List.getElem_mem ha)
          unfold fM
          simp only []
          rw [if_pos (by omega),aK ha,aK hb,wi (by omega)]
          simp only [Option.bind_some]
          generalize l[k]=r at *
          generalize l'[k]=s at *
          obtain ⟨a1,w,x,y⟩:=r
          obtain ⟨a2,w',x',y'⟩:=s
          have hn:iR ⟨a1,w,x,y⟩=bI w+bI x+bI y:=rfl
          simp only []
          rw [fG w w' (by omega),fG x x' (by omega),fG y y' (by omega)]
          by_cases c1:a1=a2 <;> by_cases c3:w=w' <;> by_cases c4:x=x' <;> by_cases c5:y=y' <;> simp [c1,c3,c4,c5]) (by unfold fM;simp only [];rw [if_neg (by omega)])
        rw [e]
        by_cases c:l=l' <;> simp [c1,c2,hl,c]
      · have:l≠l':=by rintro rfl;exact hl rfl
        have h2:(l.length:Int)≠(l'.length:Int):=by omega
        simp [c1,c2,this,h2]
    · simp [c1,c2]
  · simp [c1]
theorem aAt (a b:TreeNode) (h:bH a≤4294967296):iJ a b=some (decide (a=b)):=by
  obtain ⟨n,u,o,c,m,e⟩:=a
  obtain ⟨n',u',o',c',m',e'⟩:=b
  unfold bH at h
  simp only at h
  unfold iJ
  simp only []
  rw [yO o o' (by omega),zT c c' (by omega),yO m m' (by omega),fG e e' (by omega)]
  by_cases c1:n=n' <;> by_cases c2:u=u' <;> by_cases c3:o=o' <;> by_cases c4:c=c' <;> by_cases c5:m=m' <;> by_cases c6:e=e' <;> simp [c1,c2,c3,c4,c5,c6]
def atN (t:Tree) (v:Int):Option Nat:=t.fNodes.findIdx? (fun n=>decide (n.fNode=v))
theorem aBd (t:Tree) (v:Int) (h:t.fNodes.length≤4294967296):iY t v=some (match atN t v with | none=>-1 | some k=>(k:Int)):=by
  unfold iY atN
  rw [aLV t.fNodes (fun n=>decide (n.fNode=v)) (fun k hk=>by
    unfold qZ
    rw [if_pos (by omega),aK hk,wi (by omega)]
    simp only [Option.bind_some,decide_eq_true_eq]
    by_cases c:(t.fNodes[k]).fNode=v
    · rw [if_pos c,if_pos c]
    · rw [if_neg c,if_neg c]) (by unfold qZ;rw [if_neg (by omega)])]
  simp only [Option.bind_some]
  cases t.fNodes.findIdx? (fun n=>decide (n.fNode=v)) <;> rfl
def aIr (t:Tree) (n:TreeNode):Bool:=match atN t n.fNode with
  | none=>true
  | some k=>match t.fNodes[k]? with
    | none=>true
    | some m=>!decide (m=n)
def aCT (t:Tree) (m:List Int) (n:TreeNode):List Int:=if aIr t n then m++[n.fNode] else m
theorem aMr (t:Tree) (m:List Int) (n:TreeNode):(aCT t m n).length≤m.length+1:=by unfold aCT;split <;> simp
theorem aEV (t u:Tree) (h:gI t≤4294967296) (hu:gI u≤4294967296):kS t u=some (u.fNodes.foldl (aCT t) [])∧(u.fNodes.foldl (aCT t) []).length≤u.fNodes.length:=by
  unfold gI jB at h hu
  have hl:=fT bH t.fNodes
  have hul:=fT bH u.fNodes
  unfold kS
  have:=jN (step:=iF t u) u.fNodes (fun k (m:List Int)=>((k:Int),m)) (aCT t) (fun m=>m) (fun k m=>m.length≤k) (fun k m hk hi=>by
    refine ⟨?_,by have:=aMr t m u.fNodes[k];omega⟩
    unfold iF aCT
    simp only []
    rw [if_pos (by omega),aK hk,wi (by omega),aN (by omega)]
    simp only [Option.bind_some]
    rw [aBd t _ (by omega)]
    simp only [Option.bind_some,aO]
    cases hf:atN t (u.fNodes[k]).fNode with
    | none =>
      have ec:aIr t u.fNodes[k]=true:=by unfold aIr;rw [hf]
      rw [ec];simp
    | some j =>
      have hj:j < t.fNodes.length:=(List.findIdx?_eq_some_iff_findIdx_eq.1 hf).1
      have he:=mF (w:=bH) (List.getElem_mem hj)
      simp only []
      rw [if_neg (by omega),aK hj]
      simp only [Option.bind_some]
      have ec:aIr t u.fNodes[k]=!decide (t.fNodes[j]=u.fNodes[k]):=by unfold aIr;rw [hf];simp only [List.getElem?_eq_getElem hj]
      rw [aAt _ _ (by omega),ec]
      by_cases c:t.fNodes[j]=u.fNodes[k] <;> simp [c]) (fun m hi=>by unfold iF;simp only [];rw [if_neg (by omega)]) [] (by simp)
  rw [show ((0:Nat):Int)=0 from rfl] at this
  obtain ⟨e1,e2⟩:=this
  exact ⟨by rw [e1];rfl,e2⟩
end Go.Ev
/- Conditionals that are valid. -/
namespace Go.Ev
set_option linter.all false
theorem aKl (c:Conditional) (h:aS c≤4294967296) (hg:∀ j (hj:j < c.fParents.length),aEp c j c.fParents[j]):∀ m k:Nat,m+k=c.fParents.length→∀ s:Rat,VZ s →
    lp (bE c) ((k:Int),s)=some (.inl (((c.fParents.drop k).map (·.fShare)).foldl RA s)):=by
  have hl:=(aEo h).1
  intro m
  induction m with
  | zero =>
    intro k hk s hs
    rw [List.drop_eq_nil_of_le (by omega)]
    exact aJ (by unfold bE;simp only [];rw [if_neg (by omega)];rfl)
  | succ m ih =>
    intro k hk s hs
    have hlt:k < c.fParents.length:=by omega
    obtain ⟨z1,z2,z3⟩:=aNy h hlt
    obtain ⟨g1,g2⟩:=vU _ z1
    have b1:=dP _ z2
    have b2:=dP _ z3
    obtain ⟨A,B,C,D,E,F⟩:=hg k hlt
    obtain ⟨t1,_,t3⟩:=aAX hs (.inl (yD D))
    have w1:IntKind.i64.wrap ((k:Int)+1)=((k+1:Nat):Int):=by rw [wi (by omega)];omega
    have D':¬uV (c.fParents[k]).fShare≤0:=by omega
    have st:bE c ((k:Int),s)=some (.inl (((k+1:Nat):Int),RA s (c.fParents[k]).fShare)):=by
      have hin:(k:Int) < (c.fParents.length:Int):=by omega
      unfold bE
      simp only [hin,if_true,aK hlt,Option.bind_some,aBc,g1,b1,b2,t1,w1]
      by_cases K:0 < k
      · have hlt2:k - 1 < c.fParents.length:=by omega
        have w2:IntKind.i64.wrap ((k:Int) - 1)=((k - 1:Nat):Int):=by rw [wi (by omega)];omega
        have K':(0:Int) < (k:Int):=by omega
        have C':=C (c.fParents[k - 1]) K (by rw [List.getElem?_eq_getElem hlt2])
        have C'':¬(c.fParents[k]).fNode≤(c.fParents[k - 1]).fNode:=by omega
        simp [A,B,K,K',D',w2,aK hlt2,C'',E,F]
      · have K':¬(0:Int) < (k:Int):=by omega
        simp [A,B,K,K',D',E,F]
    rw [aT st,ih (k+1) (by omega) _ t3,List.drop_eq_getElem_cons hlt]
    rfl
theorem aIG (c:Conditional) (h:aS c≤4294967296) (h1:1≤c.fNode∧c.fNode≤9) (h2:0 < uV c.fTotal) (h3:c.fParents≠[]) (hg:∀ j (hj:j < c.fParents.length),aEp c j c.fParents[j]) (hs:(c.fParents.map (·.fShare)).foldl RA (pM 0)=pM 1):bC c=some true:=by
  obtain ⟨hl,hT⟩:=aEo h
  obtain ⟨g1,g2⟩:=vU _ hT
  have e:=aKl c h hg c.fParents.length 0 (by omega) (pM 0) aGJ
  rw [show ((0:Nat):Int)=0 from rfl,List.drop_zero,hs] at e
  have hp:(0:Int) < (c.fParents.length:Int):=by
    have:=List.length_pos_iff.2 h3;omega
  unfold bC
  rw [bO 0 (by omega),bO 1 (by omega)]
  simp only [Option.bind_some,e,g1,xG]
  simp [h1,h2,h3,hp,aDg (pM 1) (pM 1) (VZs (.inl (zD 1 (by omega))))]
end Go.Ev
/- Eliminating a node over the rational numbers. -/
namespace Go.Ev
set_option linter.all false
def aFu (v:Int) (l:QL):Bool:=decide (l.a=v∨l.b=v)
def aBT (v:Int) (l:QL):QL:=if l.a=v then ⟨l.b,v,l.w,-l.x,-l.y⟩ else ⟨l.a,v,l.w,l.x,l.y⟩
def bS (v:Int) (s:List QL):List QL:=(s.filter (aFu v)).map (aBT v)
def toA (a:QL):l08Arm:=⟨a.a,ofQ a.w,ofQ a.x,ofQ a.y⟩
theorem aMz (v:Int):∀ s:List QL,(∀ x ∈ s,x.fit)→bK v (s.map QL.toL)=(bS v s).map toA
  | [],_=>rfl
  | x::s,h=>by
    have ih:=aMz v s (fun y hy=>h y (by simp [hy]))
    obtain ⟨h1,h2,h3⟩:=h x (by simp)
    unfold bK bS at ih ⊢
    rw [List.map_cons,List.filter_cons,List.filter_cons]
    have e:tch v x.toL=aFu v x:=rfl
    rw [e]
    by_cases c:aFu v x=true
    · rw [if_pos c,if_pos c,List.map_cons,List.map_cons,List.map_cons,ih]
      congr 1
      unfold aAl aBT QL.toL toA
      simp only []
      by_cases d:x.a=v
      · rw [if_pos d,if_pos d,aO8 h2,aO8 h3]
      · rw [if_neg d,if_neg d]
    · rw [if_neg c,if_neg c,ih]
structure PQ where
  node:Int
  s:Q
  x:Q
  y:Q
structure CQ where
  node:Int
  t:Q
  ps:List PQ
def PQ.toP (p:PQ):Parent:=⟨p.node,ofQ p.s,ofQ p.x,ofQ p.y⟩
def CQ.toC (c:CQ):Conditional:=⟨c.node,ofQ c.t,c.ps.map PQ.toP⟩
def aHK (t:Q) (a:QL):PQ:=⟨a.a,a.w / t,a.x,a.y⟩
def mlQ (t:Q) (a b:QL):QL:=⟨a.a,b.a,a.w*b.w / t,a.x - b.x,a.y - b.y⟩
def sK (t:Q):List QL→List QL
  | []=>[]
  | a::r=>r.map (mlQ t a)++sK t r
def wO (v:Int) (a:List QL):CQ:=⟨v,sm wt a,a.map (aHK (sm wt a))⟩
structure Arms (D X:Nat) (v:Int) (a:List QL):Prop where
  hD:0 < D
  hP:72*D≤PP
  hX:X≤400
  h0:0 < X
  lk:∀ x ∈ a,Lk D X x
  hw:sm wt a≤72
  inc:a.Pairwise fun x y=>x.a < y.a
  nd:∀ x ∈ a,(0≤x.a∧x.a≤9)∧x.a≠v
  ne:a≠[]
  hv:1≤v∧v≤9
theorem Arms.pos {D X:Nat} {v:Int} {a:List QL} (h:Arms D X v a):0 < sm wt a:=by
  obtain ⟨x,hx⟩:=List.exists_mem_of_ne_nil a h.ne
  have:=vV h.lk hx
  have:=(h.lk x hx).sc.1
  grind
theorem aAs {D X:Nat} {a:List QL} (h:∀ x ∈ a,Lk D X x):Dv D (sm wt a):=aIE fun x hx=>(h x hx).sc.2.1
theorem Arms.le {D X:Nat} {v:Int} {a:List QL} (h:Arms D X v a) {x:QL} (hx:x ∈ a):x.w≤72:=by
  have:=vV h.lk hx
  have:=h.hw
  grind
theorem Arms.fit {D X:Nat} {v:Int} {a:List QL} (h:Arms D X v a) {x:QL} (hx:x ∈ a):x.fit:=aEP h.hD h.hP (h.lk x hx) (by have:=h.hX;omega) h.h0 (h.le hx)
theorem w72 {D:Nat} {q:Q} (hD:0 < D) (hP:72*D≤PP) (h0:0≤q) (h1:q≤72) (hd:Dv D q):dA q:=by
  refine iG (B:=72) hD hd ⟨?_,h1⟩ (by omega) (by omega) (oE (a:=1) (by rw [Nat.pow_one];omega) (by omega))
  have:=aBM 72
  grind
theorem aL8 {D X:Nat} (hD:0 < D) (hP:72*D≤PP):∀ (a:List QL) (t:Q),(∀ x ∈ a,Lk D X x)→Dv D t→0≤t→t+sm wt a≤72→(a.map toA).foldl (fun t a=>RA t a.fweight) (ofQ t)=ofQ (t+sm wt a)
  | [],t,_,_,_,_=>by simp only [List.map_nil,List.foldl_nil,sm];congr 1;grind
  | x::a,t,h,ht,h0,hw=>by
    have hx:=h x (by simp)
    have hr:=fun y hy=>h y (List.mem_cons_of_mem x hy)
    have wr:=nR hr
    have wx:0 < wt x:=hx.sc.1
    rw [sm] at hw ⊢
    have d2:=pY ht hx.sc.2.1
    have e:wt x=x.w:=rfl
    have f1:=w72 hD hP h0 (by grind) ht
    have f2:dA x.w:=w72 hD hP (by grind) (by grind) hx.sc.2.1
    have f3:dA (t+x.w):=w72 hD hP (by grind) (by grind) d2
    rw [List.map_cons,List.foldl_cons]
    have e1:RA (ofQ t) (toA x).fweight=ofQ (t+x.w):=aHh f1 f2 f3
    rw [e1,aL8 hD hP a (t+x.w) hr d2 (by grind) (by grind)]
    congr 1;grind
theorem Arms.tot {D X:Nat} {v:Int} {a:List QL} (h:Arms D X v a):qA (a.map toA)=ofQ (sm wt a):=by
  unfold qA
  rw [aDP,aL8 h.hD h.hP a 0 h.lk ⟨0,by simp⟩ (by grind) (by have:=h.hw;grind)]
  congr 1;grind
theorem Arms.ftot {D X:Nat} {v:Int} {a:List QL} (h:Arms D X v a):dA (sm wt a):=w72 h.hD h.hP (by have:=h.pos;grind) h.hw (aAs h.lk)
theorem aBY {D X:Nat} {v:Int} {a:List QL} (h:Arms D X v a) {x:QL} (hx:x ∈ a):Dv (nm D (sm wt a)) (x.w / sm wt a)∧0 < x.w / sm wt a∧x.w / sm wt a≤1:=by
  have hp:=h.pos
  have hl:=vV h.lk hx
  have hx0:=(h.lk x hx).sc.1
  refine ⟨aCz h.hD hp (aAs h.lk) (h.lk x hx).sc.2.1,?_,?_⟩
  · rw [_root_.Rat.lt_div_iff hp];grind
  · have:=aG6 (A:=1) (p:=x.w) hp (by grind) (by have e:((1:Nat):Q)=1:=rfl;rw [e];grind)
    have e:((1:Nat):Q)=1:=rfl
    unfold bd at this;rw [e] at this;grind
theorem Arms.nN {D X:Nat} {v:Int} {a:List QL} (h:Arms D X v a):0 < nm D (sm wt a)∧nm D (sm wt a)≤72*D :=
  ⟨(aAe h.hD h.pos (aAs h.lk)).2,aDa h.hD h.pos (aAs h.lk) h.hw⟩
theorem aHO {N:Nat} {q:Q} (hN:0 < N) (hP:N≤PP) (h0:0≤q) (h1:q≤1) (hd:Dv N q):dA q:=by
  refine iG (B:=1) hN hd ⟨?_,h1⟩ (by omega) (by omega) (oE (a:=1) (by rw [Nat.pow_one];omega) (by omega))
  have e:((1:Nat):Q)=1:=rfl
  rw [e];grind
theorem aL9 {D X:Nat} {v:Int} {a:List QL} (h:Arms D X v a):∀ (b:List QL) (t:Q),(∀ x ∈ b,x ∈ a)→Dv (nm D (sm wt a)) t→0≤t→t+sm (fun x=>x.w / sm wt a) b≤1→((b.map (aHK (sm wt a))).map fun p=>ofQ p.s).foldl RA (ofQ t)=ofQ (t+sm (fun x=>x.w / sm wt a) b)
  | [],t,_,_,_,_=>by simp only [List.map_nil,List.foldl_nil,sm];congr 1;grind
  | x::b,t,hb,ht,h0,hw=>by
    obtain ⟨s1,s2,s3⟩:=aBY h (hb x (by simp))
    have hr:=fun y hy=>hb y (List.mem_cons_of_mem x hy)
    have wr:0≤sm (fun x=>x.w / sm wt a) b:=rO fun y hy=>by have:=(aBY h (hr y hy)).2.1;grind
    obtain ⟨n1,n2⟩:=h.nN
    have nP:nm D (sm wt a)≤PP:=by have:=h.hP;omega
    rw [sm] at hw ⊢
    have d2:=pY ht s1
    have f1:=aHO n1 nP h0 (by grind) ht
    have f2:=aHO n1 nP (by grind) s3 s1
    have f3:dA (t+x.w / sm wt a):=aHO n1 nP (by grind) (by grind) d2
    rw [List.map_cons,List.map_cons,List.foldl_cons]
    have e1:RA (ofQ t) (ofQ (aHK (sm wt a) x).s)=ofQ (t+x.w / sm wt a):=aHh f1 f2 f3
    rw [e1,aL9 h b _ hr d2 (by grind) (by grind)]
    congr 1;grind
theorem aLl (t:Q):∀ a:List QL,sm (fun x=>x.w / t) a=sm wt a / t
  | []=>by simp [sm];grind
  | x::a=>by rw [sm,sm,aLl t a];unfold wt;grind
theorem Arms.share_sum {D X:Nat} {v:Int} {a:List QL} (h:Arms D X v a):sm (fun x=>x.w / sm wt a) a=1:=by
  rw [aLl]
  have:=h.pos
  have:sm wt a≠0:=by grind
  grind
theorem aOP:pM 1=ofQ 1:=aAx (by decide)
theorem Arms.cond {D X:Nat} {v:Int} {a:List QL} (h:Arms D X v a):yQ v (a.map toA)=(wO v a).toC:=by
  unfold yQ wO CQ.toC
  rw [h.tot]
  simp only [List.map_map]
  congr 1
  refine List.map_congr_left fun x hx=>?_
  obtain ⟨s1,s2,s3⟩:=aBY h hx
  obtain ⟨n1,n2⟩:=h.nN
  have f2:=aHO n1 (by have:=h.hP;omega) (by grind) s3 s1
  have:=h.pos
  show fI (ofQ (sm wt a)) (toA x)=(aHK (sm wt a) x).toP
  unfold fI toA aHK PQ.toP
  simp only []
  rw [aMG (h.fit hx).1 h.ftot (by grind) f2]
theorem Arms.armOk {D X:Nat} {v:Int} {a:List QL} (h:Arms D X v a):∀ x ∈ a.map toA,tB x:=by
  intro x hx
  obtain ⟨y,hy,rfl⟩:=List.mem_map.1 hx
  obtain ⟨f1,f2,f3⟩:=h.fit hy
  exact ⟨(h.nd y hy).1,uX f1,uX f2,uX f3⟩
theorem aL4 {a:List QL} (inc:a.Pairwise fun x y=>x.a < y.a) (nd:∀ x ∈ a,0≤x.a∧x.a≤9):a.length≤10:=by
  have n:(a.map fun x=>x.a).Nodup:=by
    rw [List.Nodup,List.pairwise_map]
    exact inc.imp fun {x y} hxy e=>by omega
  have:=n.length_le_of_subset (l₂:=[0,1,2,3,4,5,6,7,8,9]) (fun z hz=>by
    obtain ⟨x,hx,rfl⟩:=List.mem_map.1 hz
    have:=nd x hx
    simp only [List.mem_cons,List.not_mem_nil,or_false];omega)
  simpa using this
theorem Arms.condOk {D X:Nat} {v:Int} {a:List QL} (h:Arms D X v a):condOk v (a.map toA):=by
  have hl:=aL4 h.inc (fun x hx=>(h.nd x hx).1)
  have hz:=aG7 (v:=v) h.armOk (by rw [List.length_map];omega)
  obtain ⟨n1,n2⟩:=h.nN
  unfold Go.Ev.condOk
  rw [h.cond] at hz ⊢
  refine aIG _ hz h.hv ((aIO h.ftot).2 h.pos) ?_ ?_ ?_
  · unfold CQ.toC wO
    simp only [ne_eq,List.map_eq_nil_iff]
    exact h.ne
  · intro j hj
    have hj':j < a.length:=by unfold CQ.toC wO at hj;simpa using hj
    have e:(wO v a).toC.fParents[j]=(aHK (sm wt a) a[j]).toP:=by
      unfold CQ.toC wO;simp
    rw [e]
    have hm:=List.getElem_mem hj'
    obtain ⟨s1,s2,s3⟩:=aBY h hm
    have f2:=aHO n1 (by have:=h.hP;omega) (by grind) s3 s1
    obtain ⟨f3,f4,f5⟩:=h.fit hm
    refine ⟨(h.nd _ hm).1,(h.nd _ hm).2,fun q hq hk=>?_,(aIO f2).2 s2,uY f4,uY f5⟩
    have hk':j - 1 < a.length:=by omega
    have e2:(wO v a).toC.fParents[j - 1]?=some (aHK (sm wt a) a[j - 1]).toP:=by
      unfold CQ.toC wO;simp [hk']
    rw [e2] at hk
    cases hk
    exact (List.pairwise_iff_getElem.1 h.inc) (j - 1) j hk' hj' (by omega)
  · have e:((wO v a).toC.fParents.map fun p=>p.fShare)=((a.map (aHK (sm wt a))).map fun p=>ofQ p.s):=by
      unfold CQ.toC wO;simp [PQ.toP,Function.comp_def]
    rw [e,aDP,aL9 h a 0 (fun x hx=>hx) ⟨0,by simp⟩ (by grind) (by rw [h.share_sum];grind),h.share_sum,aOP]
    congr 1;grind
end Go.Ev
/- The mesh of an eliminated node over the rational numbers. -/
namespace Go.Ev
set_option linter.all false
theorem aEx {D:Nat} {p q:Q} (hp:Dv D p) (hq:Dv D q) {W:Q} {N:Nat} (hN:(N:Q)=W*D) (hW:W≠0):Dv (D*N) (p*q / W):=by
  obtain ⟨a,ha⟩:=hp
  obtain ⟨b,hb⟩:=hq
  refine ⟨a*b,?_⟩
  rw [_root_.Rat.natCast_mul,hN,_root_.Rat.intCast_mul,← ha,← hb]
  grind
theorem aLS {D X:Nat} {v:Int} {a:List QL} (h:Arms D X v a) {x y:QL} (hx:x ∈ a) (hy:y ∈ a) (hxy:x.a < y.a) :
    rQ (ofQ (sm wt a)) (toA x) (toA y)=(mlQ (sm wt a) x y).toL∧(mlQ (sm wt a) x y).fit∧(mlQ (sm wt a) x y).ok∧Lk (D*nm D (sm wt a)) (2*X) (mlQ (sm wt a) x y)∧Dv (D*nm D (sm wt a)*(nm D x.w*nm D y.w)) (enQ (mlQ (sm wt a) x y)):=by
  have hp:=h.pos
  have lx:=h.lk x hx
  have ly:=h.lk y hy
  obtain ⟨n1,n2⟩:=h.nN
  have hN:=(aAe h.hD hp (aAs h.lk)).1
  have hW:sm wt a≠0:=by grind
  obtain ⟨fx1,fx2,fx3⟩:=h.fit hx
  obtain ⟨fy1,fy2,fy3⟩:=h.fit hy
  have dx:=lx.sc.2.1
  have dy:=ly.sc.2.1
  have px:=lx.sc.1
  have py:=ly.sc.1
  have bx:=aKk px (h.le hx)
  have by_:=aKk py (h.le hy)
  have hD:=h.hD
  have hP:=h.hP
  have hX:=h.hX
  have h0:=h.h0
  have eD:D≤PP ^ 1:=by rw [Nat.pow_one];omega
  have eN:nm D (sm wt a)≤PP ^ 1:=by rw [Nat.pow_one];omega
  have ex:nm D x.w≤PP ^ 1:=by have:=aDa (W:=72) h.hD px dx (h.le hx);rw [Nat.pow_one];omega
  have ey:nm D y.w≤PP ^ 1:=by have:=aDa (W:=72) h.hD py dy (h.le hy);rw [Nat.pow_one];omega
  obtain ⟨ex1,ex2⟩:=aAe h.hD px dx
  obtain ⟨ey1,ey2⟩:=aAe h.hD py dy
  have f1:dA (x.w*y.w):=iG (Nat.mul_pos hD hD) (aAd dx dy) (rK bx by_) (by decide) (by decide) (oE (xN eD eD) (by omega))
  have dw:Dv (D*nm D (sm wt a)) (x.w*y.w / sm wt a):=aEx dx dy hN hW
  have pxy:=_root_.Rat.mul_pos px py
  have pw:0 < x.w*y.w / sm wt a:=by rw [_root_.Rat.lt_div_iff hp];grind
  have bw:bd 72 (x.w*y.w / sm wt a):=by
    have l1:=vV h.lk hx
    have l2:0≤(sm wt a - x.w)*y.w:=_root_.Rat.mul_nonneg (by grind) (by grind)
    have l3:0≤((72:Nat) - y.w)*sm wt a:=_root_.Rat.mul_nonneg (by have:=h.le hy;have e:((72:Nat):Q)=72:=rfl;grind) (by grind)
    have l4:=_root_.Rat.mul_nonneg (aBM 72) (Std.le_of_lt hp)
    exact aG6 hp (by grind) (by grind)
  have f2:dA (x.w*y.w / sm wt a):=iG (Nat.mul_pos hD n1) dw bw (by omega) (by omega) (oE (xN eD eN) (by omega))
  obtain ⟨xx,xy⟩:=aJy h.hD lx.sc
  obtain ⟨yx,yy⟩:=aJy h.hD ly.sc
  have gx:=aAc (vH (nm D y.w) xx) (by rw [Nat.mul_comm];exact vH (nm D x.w) yx)
  have gy:=aAc (vH (nm D y.w) xy) (by rw [Nat.mul_comm];exact vH (nm D x.w) yy)
  have cx:=aG8 lx.bx ly.bx
  have cy:=aG8 lx.by' ly.by'
  have f3:dA (x.x - y.x):=iG (Nat.mul_pos ex2 ey2) gx cx (by omega) (by omega) (oE (xN ex ey) (by omega))
  have f4:dA (x.y - y.y):=iG (Nat.mul_pos ex2 ey2) gy cy (by omega) (by omega) (oE (xN ex ey) (by omega))
  have lk:Lk (D*nm D (sm wt a)) (2*X) (mlQ (sm wt a) x y):=by
    refine ⟨⟨pw,dw,?_,?_⟩,by rw [Nat.two_mul];exact cx,by rw [Nat.two_mul];exact cy⟩
    · have e:mx (mlQ (sm wt a) x y)=mx x*y.w / sm wt a - x.w*mx y / sm wt a:=by unfold mx mlQ;simp only [];grind
      rw [e]
      exact aAc (aEx lx.sc.2.2.1 dy hN hW) (aEx dx ly.sc.2.2.1 hN hW)
    · have e:my (mlQ (sm wt a) x y)=my x*y.w / sm wt a - x.w*my y / sm wt a:=by unfold my mlQ;simp only [];grind
      rw [e]
      exact aAc (aEx lx.sc.2.2.2 dy hN hW) (aEx dx ly.sc.2.2.2 hN hW)
  refine ⟨?_,⟨f2,f3,f4⟩,⟨(h.nd x hx).1,(h.nd y hy).1,hxy,pw⟩,lk,?_⟩
  · unfold rQ toA mlQ QL.toL
    simp only []
    rw [aHg fx1 fy1 f1,aMG f1 h.ftot hW f2,aNo fx2 fy2 f3,aNo fx3 fy3 f4]
  · have hDN:0 < D*nm D (sm wt a):=Nat.mul_pos hD n1
    have e1:=(aAe hDN pw dw).1
    have e2:nm (D*nm D (sm wt a)) (x.w*y.w / sm wt a)=nm D x.w*nm D y.w:=by
      refine _root_.Rat.natCast_inj.1 ?_
      rw [e1,_root_.Rat.natCast_mul,_root_.Rat.natCast_mul,hN,ex1,ey1]
      grind
    have:=aKf hDN lk.sc
    have e3:(mlQ (sm wt a) x y).w=x.w*y.w / sm wt a:=rfl
    rw [e3,e2] at this
    exact this
theorem aHV (t:Q):∀ {a:List QL} {z:QL},z ∈ sK t a→∃ p x q y r,a=p++x::(q++y::r)∧z=mlQ t x y
  | x::a,z,h=>by
    rw [sK,List.mem_append] at h
    rcases h with h | h
    · obtain ⟨y,hy,rfl⟩:=List.mem_map.1 h
      obtain ⟨q,r,e⟩:=List.append_of_mem hy
      exact ⟨[],x,q,y,r,by rw [e];rfl,rfl⟩
    · obtain ⟨p,x',q,y,r,e,h2⟩:=aHV t h
      exact ⟨x::p,x',q,y,r,by rw [e];rfl,h2⟩
theorem Arms.mesh {D X:Nat} {v:Int} {a:List QL} (h:Arms D X v a):∀ p b:List QL,a=p++b→gJ (ofQ (sm wt a)) (b.map toA)=(sK (sm wt a) b).map QL.toL
  | _,[],_=>rfl
  | p,x::b,e=>by
    have ih:=h.mesh (p++[x]) b (by rw [e,List.append_assoc];rfl)
    rw [List.map_cons,gJ,sK,List.map_append,ih]
    congr 1
    rw [List.map_map,List.map_map]
    refine List.map_congr_left fun y hy=>?_
    have hx:x ∈ a:=by rw [e];simp
    have hy':y ∈ a:=by rw [e];simp [hy]
    have hxy:x.a < y.a:=by
      have:=h.inc
      rw [e,List.pairwise_append,List.pairwise_cons] at this
      exact this.2.1.1 y hy
    exact (aLS h hx hy' hxy).1
theorem aN0 (D:Nat) {p q r:List QL} {x y:QL}:nm D x.w*nm D y.w ∣ pn D (p++x::(q++y::r)):=by
  rw [aIV,pn,aIV,pn]
  refine Nat.dvd_trans ?_ (Nat.dvd_mul_left _ _)
  refine Nat.mul_dvd_mul_left _ (Nat.dvd_trans ?_ (Nat.dvd_mul_left _ _))
  exact Nat.dvd_mul_right _ _
theorem Arms.each {D X:Nat} {v:Int} {a:List QL} (h:Arms D X v a) {z:QL} (hz:z ∈ sK (sm wt a) a) :
    z.fit∧z.ok∧Lk (D*nm D (sm wt a)) (2*X) z∧Dv (D*nm D (sm wt a)*pn D a) (enQ z)∧(∃ x ∈ a,x.a=z.a)∧∃ y ∈ a,y.a=z.b:=by
  obtain ⟨p,x,q,y,r,e,rfl⟩:=aHV _ hz
  have hx:x ∈ a:=by rw [e];simp
  have hy:y ∈ a:=by rw [e];simp
  have hxy:x.a < y.a:=by
    have:=h.inc
    rw [e,List.pairwise_append,List.pairwise_cons] at this
    exact this.2.1.1 y (by simp)
  obtain ⟨_,f,o,l,d⟩:=aLS h hx hy hxy
  refine ⟨f,o,l,yA d (Nat.mul_dvd_mul_left _ ?_),⟨x,hx,rfl⟩,y,hy,rfl⟩
  conv=>rhs;rw [e]
  exact aN0 D
theorem aHX (t:Q):∀ {a:List QL},a.Pairwise (fun x y=>x.a < y.a)→∀ x ∈ a,∀ y ∈ a,x.a < y.a→mlQ t x y ∈ sK t a
  | z::a,h,x,hx,y,hy,hxy=>by
    rw [List.pairwise_cons] at h
    rw [sK,List.mem_append]
    rcases List.mem_cons.1 hx with e | hx
    · rcases List.mem_cons.1 hy with e2 | hy
      · rw [e,e2] at hxy;omega
      · exact .inl (by rw [e];exact List.mem_map_of_mem hy)
    · rcases List.mem_cons.1 hy with e2 | hy
      · have:=h.1 x hx;rw [e2] at hxy;omega
      · exact .inr (aHX t h.2 x hx y hy hxy)
theorem aJT {t:Q} (ht:0 < t):∀ {a:List QL},(∀ x ∈ a,0≤wt x)→sm wt (sK t a)*t≤sm wt a*sm wt a
  | [],_=>by simp [sK,sm]
  | x::a,h=>by
    have ih:=aJT ht (a:=a) (fun y hy=>h y (by simp [hy]))
    have h1:=h x (by simp)
    have h2:0≤sm wt a:=rO fun y hy=>h y (by simp [hy])
    have e:∀ b:List QL,sm wt (b.map (mlQ t x))*t=wt x*sm wt b:=by
      intro b
      induction b with
      | nil=>simp [sm]
      | cons y b ih2 =>
        rw [List.map_cons,sm,sm,_root_.Rat.add_mul,ih2]
        have e3:wt (mlQ t x y)=wt x*wt y / t:=rfl
        rw [e3]
        have:t≠0:=by grind
        grind
    rw [sK,zA,sm,_root_.Rat.add_mul,e]
    have h3:=_root_.Rat.mul_nonneg h1 h2
    have h4:=_root_.Rat.mul_nonneg h1 h1
    grind
theorem Arms.mesh_le {D X:Nat} {v:Int} {a:List QL} (h:Arms D X v a):sm wt (sK (sm wt a) a)≤sm wt a:=by
  have:=aJT h.pos (a:=a) (fun x hx=>by have:=(h.lk x hx).sc.1;unfold wt;grind)
  exact _root_.Rat.le_of_mul_le_mul_right this h.pos
theorem aOc {D X:Nat} {v:Int} {s:List QL} (hs:∀ x ∈ s,x.fit) (h:Arms D X v (bS v s)) :
    uQ v (s.map QL.toL)=some ((wO v (bS v s)).toC,(sK (sm wt (bS v s)) (bS v s)).map QL.toL):=by
  have e1:=aMz v s hs
  have e2:=h.mesh [] (bS v s) rfl
  have hv:∀ x ∈ gJ (qA (bK v (s.map QL.toL))) (bK v (s.map QL.toL)),ValidL x:=by
    rw [e1,h.tot,e2]
    intro x hx
    obtain ⟨z,hz,rfl⟩:=List.mem_map.1 hx
    obtain ⟨f,o,_⟩:=h.each hz
    exact (aCB f).2 o
  rw [aG5 ⟨h.hv,by rw [e1];exact h.condOk,hv⟩,e1,h.tot,e2,h.cond]
end Go.Ev
/- From a front to its arms, rest and mesh. -/
namespace Go.Ev
set_option linter.all false
theorem aDM (v:Int) (l:QL):(aBT v l).w=l.w:=by unfold aBT;split <;> rfl
theorem aNj (v:Int) (l:QL):enQ (aBT v l)=enQ l:=by
  unfold aBT enQ sqQ
  split
  · simp only [];grind
  · rfl
theorem aNi {D X:Nat} (v:Int) {l:QL} (h:Lk D X l):Lk D X (aBT v l):=by
  unfold aBT
  split
  · refine ⟨⟨h.sc.1,h.sc.2.1,?_,?_⟩,aMv h.bx,aMv h.by'⟩
    · have e:mx ⟨l.b,v,l.w,-l.x,-l.y⟩=- mx l:=by unfold mx;simp only [];grind
      rw [e];exact aJG h.sc.2.2.1
    · have e:my ⟨l.b,v,l.w,-l.x,-l.y⟩=- my l:=by unfold my;simp only [];grind
      rw [e];exact aJG h.sc.2.2.2
  · exact ⟨h.sc,h.bx,h.by'⟩
def xD (v:Int) (s:List QL):List QL:=s.filter (fun l=>!aFu v l)
theorem aLq (v:Int):∀ s:List QL,uI v (s.map QL.toL)=(xD v s).map QL.toL
  | []=>rfl
  | x::s=>by
    have ih:=aLq v s
    unfold uI xD at ih ⊢
    rw [List.map_cons,List.filter_cons,List.filter_cons]
    have e:tch v x.toL=aFu v x:=rfl
    rw [e,ih]
    split <;> rfl
theorem aAp (f:QL→Q) (v:Int) (hf:∀ l,f (aBT v l)=f l):∀ s:List QL,sm f s=sm f (bS v s)+sm f (xD v s)
  | []=>by simp only [bS,xD,List.filter_nil,List.map_nil,sm];grind
  | x::s=>by
    have ih:=aAp f v hf s
    unfold bS xD at ih ⊢
    rw [List.filter_cons,List.filter_cons,sm]
    by_cases c:aFu v x=true
    · simp only [c,Bool.not_true,if_true,Bool.false_eq_true,if_false,List.map_cons,sm,hf];grind
    · simp only [c,Bool.not_eq_true,if_false,Bool.not_false,if_true,sm];grind
theorem aHv (D:Nat) (v:Int):∀ s:List QL,pn D s=pn D (bS v s)*pn D (xD v s)
  | []=>rfl
  | x::s=>by
    have ih:=aHv D v s
    unfold bS xD at ih ⊢
    rw [List.filter_cons,List.filter_cons,pn,ih]
    by_cases c:aFu v x=true
    · simp only [c,Bool.not_true,if_true,Bool.false_eq_true,if_false,List.map_cons,pn,aDM,Nat.mul_assoc]
    · simp only [c,if_false,Bool.not_false,if_true,pn]
      simp [Nat.mul_left_comm]
theorem yK {v:Int} {s:List QL} {a:QL}:a ∈ bS v s↔∃ l ∈ s,(l.a=v∨l.b=v)∧a=aBT v l:=by
  unfold bS
  rw [List.mem_map]
  constructor
  · rintro ⟨l,hl,rfl⟩
    rw [List.mem_filter] at hl
    have:=hl.2
    unfold aFu at this
    exact ⟨l,hl.1,of_decide_eq_true this,rfl⟩
  · rintro ⟨l,hl,ht,rfl⟩
    refine ⟨l,List.mem_filter.2 ⟨hl,?_⟩,rfl⟩
    unfold aFu;exact decide_eq_true ht
theorem aB9 {v:Int} {s:List QL} {l:QL}:l ∈ xD v s↔l ∈ s∧l.a≠v∧l.b≠v:=by
  unfold xD aFu
  rw [List.mem_filter]
  simp [not_or]
theorem aAU {v:Int} {l:QL} (h:l.a=v∨l.b=v) (hl:l.a < l.b):(l.a=v∧(aBT v l).a=l.b)∨(l.b=v∧l.a≠v∧(aBT v l).a=l.a):=by
  unfold aBT
  by_cases c:l.a=v
  · rw [if_pos c];exact .inl ⟨c,rfl⟩
  · rw [if_neg c]
    rcases h with h | h
    · exact absurd h c
    · exact .inr ⟨h,c,rfl⟩
theorem aMy {v:Int} {s:List QL} (ho:s.Pairwise dE) (h:∀ x ∈ s,x.a < x.b):(bS v s).Pairwise fun x y=>x.a < y.a:=by
  unfold bS
  rw [List.pairwise_map]
  refine List.Pairwise.imp_of_mem (fun {x y} hx hy hr=>?_) (ho.sublist List.filter_sublist)
  rw [List.mem_filter] at hx hy
  have tx:=of_decide_eq_true hx.2
  have ty:=of_decide_eq_true hy.2
  have h1:=h x hx.1
  have h2:=h y hy.1
  have g1:=aAU tx h1
  have g2:=aAU ty h2
  unfold dE at hr
  omega
structure Front (D X:Nat) (V:List Int) (v:Int) (s:List QL):Prop where
  hD:0 < D
  hP:72*D≤PP
  hX:X≤400
  h0:0 < X
  lk:∀ x ∈ s,Lk D X x∧inV V x
  ord:s.Pairwise dE
  hw:sm wt s≤72
  hV:V.Nodup
  hn:∀ u ∈ V,0≤u∧u≤9
  hv:v ∈ V
  h1:1≤v
  ne:bS v s≠[]
theorem Front.armLk {D X:Nat} {V:List Int} {v:Int} {s:List QL} (h:Front D X V v s):∀ x ∈ bS v s,Lk D X x:=by
  intro x hx
  obtain ⟨l,hl,_,rfl⟩:=yK.1 hx
  exact aNi v (h.lk l hl).1
theorem Front.armV {D X:Nat} {V:List Int} {v:Int} {s:List QL} (h:Front D X V v s):∀ x ∈ bS v s,x.a ∈ V∧x.a≠v:=by
  intro x hx
  obtain ⟨l,hl,ht,rfl⟩:=yK.1 hx
  obtain ⟨_,i1,i2,i3⟩:=h.lk l hl
  rcases aAU ht i3 with ⟨e1,e2⟩ | ⟨e1,e2,e3⟩
  · rw [e2];exact ⟨i2,by omega⟩
  · rw [e3];exact ⟨i1,by omega⟩
theorem Front.arms {D X:Nat} {V:List Int} {v:Int} {s:List QL} (h:Front D X V v s):Arms D X v (bS v s) where
  hD:=h.hD
  hP:=h.hP
  hX:=h.hX
  h0:=h.h0
  lk:=h.armLk
  hw:=by
    have e:=aAp wt v (fun l=>aDM v l) s
    have:0≤sm wt (xD v s):=nR fun x hx=>(h.lk x (aB9.1 hx).1).1
    have:=h.hw
    grind
  inc:=aMy h.ord fun x hx=>(h.lk x hx).2.2.2
  nd:=fun x hx=>⟨h.hn _ (h.armV x hx).1,(h.armV x hx).2⟩
  ne:=h.ne
  hv:=⟨h.h1,(h.hn v h.hv).2⟩
theorem Front.fit {D X:Nat} {V:List Int} {v:Int} {s:List QL} (h:Front D X V v s):∀ x ∈ s,x.fit:=fun x hx =>
  aEP h.hD h.hP (h.lk x hx).1 (by have:=h.hX;omega) h.h0 (by
    have:=vV (fun y hy=>(h.lk y hy).1) hx
    have:=h.hw
    grind)
def kA (v:Int) (s:List QL):List QL:=xD v s++sK (sm wt (bS v s)) (bS v s)
theorem aKg {D E X Y:Nat} {l:QL} (h:Lk D X l) (hd:D ∣ E) (hx:X≤Y):Lk E Y l:=⟨aOk h.sc hd,aNJ h.bx hx,aNJ h.by' hx⟩
theorem Front.next {D X:Nat} {V:List Int} {v:Int} {s:List QL} (h:Front D X V v s) {N:Nat} (hN:N=nm D (sm wt (bS v s))) :
    (∀ x ∈ kA v s,Lk (D*N) (2*X) x∧inV (V.erase v) x∧Dv (D*N*pn D s) (enQ x)∧x.fit∧x.ok)∧sm wt (kA v s)≤sm wt s:=by
  subst hN
  have ha:=h.arms
  obtain ⟨n1,n2⟩:=ha.nN
  constructor
  · intro x hx
    rcases List.mem_append.1 hx with hx | hx
    · obtain ⟨m1,m2,m3⟩:=aB9.1 hx
      obtain ⟨l1,l2,l3,l4⟩:=h.lk x m1
      refine ⟨aKg l1 (Nat.dvd_mul_right _ _) (by omega),⟨(h.hV.mem_erase_iff).2 ⟨m2,l2⟩,(h.hV.mem_erase_iff).2 ⟨m3,l3⟩,l4⟩,?_,h.fit x m1,(h.hn _ l2),(h.hn _ l3),l4,l1.sc.1⟩
      refine yA (aKf h.hD l1.sc) ?_
      rw [Nat.mul_assoc]
      exact Nat.mul_dvd_mul_left _ (Nat.dvd_trans (aGN D x m1) (Nat.dvd_mul_left _ _))
    · obtain ⟨e1,e2,e3,e4,⟨y,hy,e5⟩,z,hz,e6⟩:=ha.each hx
      have v1:=h.armV y hy
      have v2:=h.armV z hz
      rw [e5] at v1
      rw [e6] at v2
      refine ⟨e3,⟨(h.hV.mem_erase_iff).2 ⟨v1.2,v1.1⟩,(h.hV.mem_erase_iff).2 ⟨v2.2,v2.1⟩,e2.2.2.1⟩,yA e4 ?_,e1,e2⟩
      refine Nat.mul_dvd_mul_left _ ?_
      rw [aHv D v s]
      exact Nat.dvd_mul_right _ _
  · unfold kA
    rw [zA,aAp wt v (fun l=>aDM v l) s]
    have:=ha.mesh_le
    grind
end Go.Ev
/- A node of a tree over the rational numbers. -/
namespace Go.Ev
set_option linter.all false
def aFO (x y:QL):Prop:=x.a=y.a∧x.b=y.b
theorem aGl:∀ (s:List QL) (l:QL),∀ y ∈ (lC s l).1,(∃ x ∈ s,aFO x y)∨aFO l y
  | [],l,y,hy=>by simp [lC] at hy;subst hy;exact .inr ⟨rfl,rfl⟩
  | k::s,l,y,hy=>by
    by_cases c:dE k l
    · rw [tQ c] at hy
      rcases List.mem_cons.1 hy with rfl | hy
      · exact .inl ⟨y,by simp,rfl,rfl⟩
      · rcases aGl s l y hy with ⟨x,hx,h⟩ | h
        · exact .inl ⟨x,by simp [hx],h⟩
        · exact .inr h
    · by_cases d:dE l k
      · rw [wS c d] at hy
        rcases List.mem_cons.1 hy with rfl | hy
        · exact .inr ⟨rfl,rfl⟩
        · exact .inl ⟨y,hy,rfl,rfl⟩
      · rw [wR c d] at hy
        rcases List.mem_cons.1 hy with rfl | hy
        · exact .inl ⟨k,by simp,rfl,rfl⟩
        · exact .inl ⟨y,by simp [hy],rfl,rfl⟩
theorem aIA:∀ (s:List QL) (l:QL),(∀ x ∈ s,∃ y ∈ (lC s l).1,aFO x y)∧∃ y ∈ (lC s l).1,aFO l y
  | [],l=>⟨by simp,l,by simp [lC],rfl,rfl⟩
  | k::s,l=>by
    by_cases c:dE k l
    · rw [tQ c]
      obtain ⟨h1,h2⟩:=aIA s l
      refine ⟨fun x hx=>?_,?_⟩
      · rcases List.mem_cons.1 hx with rfl | hx
        · exact ⟨x,by simp,rfl,rfl⟩
        · obtain ⟨y,hy,h⟩:=h1 x hx
          exact ⟨y,by simp [hy],h⟩
      · obtain ⟨y,hy,h⟩:=h2
        exact ⟨y,by simp [hy],h⟩
    · by_cases d:dE l k
      · rw [wS c d]
        exact ⟨fun x hx=>⟨x,by simp only [List.mem_cons] at hx ⊢;exact .inr hx,rfl,rfl⟩,l,by simp,rfl,rfl⟩
      · rw [wR c d]
        refine ⟨fun x hx=>?_,mrg k l,by simp,(aA2 c d).1.symm,(aA2 c d).2.symm⟩
        rcases List.mem_cons.1 hx with rfl | hx
        · exact ⟨mrg x l,by simp,rfl,rfl⟩
        · exact ⟨x,by simp [hx],rfl,rfl⟩
theorem wK:∀ (l s:List QL) (e:Q),∀ y ∈ (bP l s e).1,∃ x,(x ∈ s∨x ∈ l)∧aFO x y
  | [],s,e,y,hy=>⟨y,.inl hy,rfl,rfl⟩
  | z::l,s,e,y,hy=>by
    rw [bP] at hy
    obtain ⟨x,hx,h1,h2⟩:=wK l _ _ y hy
    rcases hx with hx | hx
    · rcases aGl s z x hx with ⟨w,hw,g1,g2⟩ | ⟨g1,g2⟩
      · exact ⟨w,.inl hw,g1.trans h1,g2.trans h2⟩
      · exact ⟨z,.inr (by simp),g1.trans h1,g2.trans h2⟩
    · exact ⟨x,.inr (by simp [hx]),h1,h2⟩
theorem tK:∀ (l s:List QL) (e:Q),∀ x,(x ∈ s∨x ∈ l)→∃ y ∈ (bP l s e).1,aFO x y
  | [],s,e,x,hx=>by
    rcases hx with hx | hx
    · exact ⟨x,hx,rfl,rfl⟩
    · cases hx
  | z::l,s,e,x,hx=>by
    rw [bP]
    obtain ⟨a1,w,hw,a3⟩:=aIA s z
    rcases hx with hx | hx
    · obtain ⟨u,hu,g1,g2⟩:=a1 x hx
      obtain ⟨y,hy,h1,h2⟩:=tK l (lC s z).1 (e+(lC s z).2) u (.inl hu)
      exact ⟨y,hy,g1.trans h1,g2.trans h2⟩
    · rcases List.mem_cons.1 hx with e1 | hx
      · obtain ⟨y,hy,h1,h2⟩:=tK l (lC s z).1 (e+(lC s z).2) w (.inl hw)
        exact ⟨y,hy,by rw [e1];exact a3.1.trans h1,by rw [e1];exact a3.2.trans h2⟩
      · exact tK l _ _ x (.inr hx)
structure NQ where
  node:Int
  up:Int
  own:List QL
  cond:CQ
  msgs:List QL
  enQ:Q
  den:Nat
def NQ.toN (n:NQ):TreeNode:=⟨n.node,n.up,n.own.map QL.toL,n.cond.toC,n.msgs.map QL.toL,ofQ n.enQ⟩
def upQ (order:List Int) (c:CQ):Int:=aQ order (c.ps.map (·.node))
theorem aPq (order:List Int) (c:CQ):upP order c.toC=upQ order c:=by
  unfold upP upQ uW CQ.toC
  simp only [List.map_map]
  rfl
def rI (v:Int) (b:List NQ):List QL:=(b.filter (fun n=>decide (n.up=v))).flatMap (·.msgs)
theorem aNE (v:Int):∀ b:List NQ,uZ v (b.map NQ.toN)=(rI v b).map QL.toL
  | []=>rfl
  | n::b=>by
    have ih:=aNE v b
    unfold uZ rI at ih ⊢
    rw [List.map_cons,List.filter_cons,List.filter_cons]
    by_cases c:n.up=v
    · rw [if_pos (show decide ((NQ.toN n).fUp=v)=true from decide_eq_true c),if_pos (decide_eq_true c),List.flatMap_cons,List.flatMap_cons,List.map_append,ih];rfl
    · rw [if_neg (show ¬decide ((NQ.toN n).fUp=v)=true from fun e=>c (of_decide_eq_true e)),if_neg (fun e=>c (of_decide_eq_true e)),ih]
def dU {α:Type} (f:α→Nat):List α→Nat
  | []=>1
  | x::l=>f x*dU f l
def aCt (v:Int) (b:List NQ):Nat:=dU (·.den) (b.filter (fun n=>decide (n.up=v)))
def aBu (order:List Int) (v:Int) (own:List QL) (b:List NQ):NQ :=
  ⟨v,upQ order (wO v (bS v (bP (own++rI v b) [] 0).1)),own,wO v (bS v (bP (own++rI v b) [] 0).1),(bP (kA v (bP (own++rI v b) [] 0).1) [] 0).1,
    (bP (own++rI v b) [] 0).2+(bP (kA v (bP (own++rI v b) [] 0).1) [] 0).2,aCt v b*nm (aCt v b) (sm wt (bS v (bP (own++rI v b) [] 0).1))⟩
theorem aOb {l:List QL} (h:∀ x ∈ l,x.fit∧x.ok) (hj:zQ l [] 0):jnP (l.map QL.toL)=some ((bP l [] 0).1.map QL.toL,ofQ (bP l [] 0).2)∧(∀ k ∈ (bP l [] 0).1,k.fit)∧dA (bP l [] 0).2:=by
  obtain ⟨h1,h2,h3⟩:=aL3 l [] 0 (fun x hx=>(h x hx).1) (by simp) aCA hj
  refine ⟨?_,h2,h3⟩
  unfold jnP
  rw [if_pos (fun x hx=>by
    obtain ⟨y,hy,rfl⟩:=List.mem_map.1 hx
    exact (aCB (h y hy).1).2 (h y hy).2),aDP]
  exact h1
def tri (K:Nat):Nat:=K*(K - 1) / 2
theorem aCC {K:Nat} (h:K≤6):K*K≤2*tri K+K:=by
  have:∀ K,K≤6→K*K≤2*tri K+K:=by decide
  exact this K h
structure Room (D T K:Nat):Prop where
  k6:K≤6
  d1:72*D≤PP
  c1:10 ^ 8*(T*(D*(72*D) ^ tri K)) < BB ^ 24
  c2:K≤2∨(72*(D*(72*D))≤PP∧10 ^ 8*((D*(72*D))*(72*D) ^ tri K*((D*(72*D))*(72*(D*(72*D))) ^ tri (K - 1))) < BB ^ 24)
  c3:4*10 ^ 8*(T*((D*(72*D))*(72*D) ^ (K - 1)*(72*(D*(72*D))) ^ tri (K - 1))) < BB ^ 24
structure Inc (D T X:Nat) (V:List Int) (v:Int) (l:List QL):Prop where
  hD:0 < D
  hT:0 < T
  hX:X≤400
  h0:0 < X
  lk:∀ x ∈ l,Lk D X x∧inV V x∧Dv T (enQ x)
  hw:sm wt l≤72
  hV:V.Nodup
  hn:∀ u ∈ V,0≤u∧u≤9
  hv:v ∈ V
  h1:1≤v
  ex:∃ x ∈ l,x.a=v∨x.b=v
  room:Room D T V.length
theorem Inc.jn {D T X:Nat} {V:List Int} {v:Int} {l:List QL} (h:Inc D T X V v l):Jn D T X (tri V.length) V :=
  ⟨h.hD,h.room.d1,by have:=h.hX;omega,h.h0,h.hT,h.hV,aCC h.room.k6,h.room.c1⟩
theorem Inc.fo {D T X:Nat} {V:List Int} {v:Int} {l:List QL} (h:Inc D T X V v l):∀ x ∈ l,x.fit∧x.ok:=fun x hx=>by
  obtain ⟨l1,⟨l2,l3,l4⟩,_⟩:=h.lk x hx
  refine ⟨aEP h.hD h.room.d1 l1 (by have:=h.hX;omega) h.h0 ?_,h.hn _ l2,h.hn _ l3,l4,l1.sc.1⟩
  have:=vV (fun y hy=>(h.lk y hy).1) hx
  have:=h.hw
  grind
theorem Inc.join {D T X:Nat} {V:List Int} {v:Int} {l:List QL} (h:Inc D T X V v l) :
    zQ l [] 0∧Front D X V v (bP l [] 0).1∧(bP l [] 0).2=sm enQ l - sm enQ (bP l [] 0).1∧sm wt (bP l [] 0).1=sm wt l:=by
  have es:=uP (fun x hx=>(h.lk x hx).1) (by have:=h.hX;omega) h.hw
  have e0:(0:Q) - sm enQ []=0:=by simp only [sm];grind
  have g:=aCn h.jn l [] 0 h.lk (by simp) List.Pairwise.nil (by simp only [sm];have:=h.hw;grind) ⟨0,by simp⟩ (by grind) (by have:=es.2;grind)
  rw [e0] at g
  obtain ⟨g1,g2,g3,g4,g5⟩:=g
  have g5':sm wt (bP l [] 0).1=sm wt l:=by rw [g5];simp only [sm];grind
  refine ⟨g1,⟨h.hD,h.room.d1,h.hX,h.h0,g2,g3,by rw [g5'];exact h.hw,h.hV,h.hn,h.hv,h.h1,?_⟩,by rw [g4];grind,g5'⟩
  obtain ⟨x,hx,ht⟩:=h.ex
  obtain ⟨y,hy,p1,p2⟩:=tK l [] 0 x (.inr hx)
  have:aBT v y ∈ bS v (bP l [] 0).1:=yK.2 ⟨y,hy,by rw [← p1,← p2];exact ht,rfl⟩
  intro e
  rw [e] at this;cases this
theorem Front.nextIn {D T X:Nat} {V:List Int} {v:Int} {s:List QL} (h:Front D X V v s) (r:Room D T V.length) :
    zQ (kA v s) [] 0∧(∀ x ∈ (bP (kA v s) [] 0).1,Lk (D*nm D (sm wt (bS v s))) (2*X) x∧inV (V.erase v) x)∧(bP (kA v s) [] 0).1.Pairwise dE ∧
      (bP (kA v s) [] 0).2=sm enQ (kA v s) - sm enQ (bP (kA v s) [] 0).1∧sm wt (bP (kA v s) [] 0).1=sm wt (kA v s):=by
  obtain ⟨n1,n2⟩:=h.next rfl
  have hl:=List.length_erase_of_mem h.hv
  have hVe:=h.hV.erase v
  by_cases c:V.length≤2
  · have e:kA v s=[]:=by
      rw [List.eq_nil_iff_forall_not_mem]
      intro x hx
      obtain ⟨i1,i2,i3⟩:=(n1 x hx).2.1
      have:(V.erase v).length≤1:=by omega
      have:=(List.nodup_cons.2 ⟨by simp;omega,List.nodup_cons.2 ⟨by simp,List.nodup_nil⟩⟩:([x.a,x.b]:List Int).Nodup).length_le_of_subset (l₂:=V.erase v) (fun z hz=>by
        simp only [List.mem_cons,List.not_mem_nil,or_false] at hz
        rcases hz with rfl | rfl
        · exact i1
        · exact i2)
      simp at this;omega
    rw [e]
    refine ⟨trivial,by simp [bP],by simp [bP],by simp only [bP,sm];grind,by simp only [bP,sm]⟩
  · obtain ⟨r1,r2⟩:=r.c2.resolve_left c
    have ha:=h.arms
    obtain ⟨a1,a2⟩:=ha.nN
    have hDN:D*nm D (sm wt (bS v s))≤D*(72*D):=Nat.mul_le_mul_left _ a2
    have hT:0 < D*nm D (sm wt (bS v s))*pn D s:=Nat.mul_pos (Nat.mul_pos h.hD a1) (aCJ h.hD fun x hx=>(h.lk x hx).1.sc)
    have hps:pn D s≤(72*D) ^ tri V.length:=by
      have l1:=aDG h.hV h.ord (fun x hx=>(h.lk x hx).2)
      have l2:=aCC r.k6
      have l3:=aFX (W:=72) h.hD (fun x hx=>(h.lk x hx).1.sc) (fun x hx=>by
        have:=vV (fun y hy=>(h.lk y hy).1) hx
        have:=h.hw
        show x.w≤72;grind)
      have hD:=h.hD
      exact Nat.le_trans l3 (Nat.pow_le_pow_right (by omega) (by omega))
    have jn:Jn (D*nm D (sm wt (bS v s))) (D*nm D (sm wt (bS v s))*pn D s) (2*X) (tri (V.length - 1)) (V.erase v):=by
      refine ⟨Nat.mul_pos h.hD a1,Nat.le_trans (Nat.mul_le_mul_left _ hDN) r1,by have:=h.hX;omega,by have:=h.h0;omega,hT,hVe,?_,?_⟩
      · rw [hl];exact aCC (by have:=r.k6;omega)
      · refine Nat.lt_of_le_of_lt (Nat.mul_le_mul_left _ (Nat.mul_le_mul (Nat.mul_le_mul hDN hps) (Nat.mul_le_mul hDN (Nat.pow_le_pow_left (Nat.mul_le_mul_left _ hDN) _)))) r2
    have hw:sm wt (kA v s)≤72:=by have:=h.hw;grind
    have es:=uP (fun x hx=>(n1 x hx).1) (by have:=h.hX;omega) hw
    have e0:(0:Q) - sm enQ []=0:=by simp only [sm];grind
    have g:=aCn jn (kA v s) [] 0 (fun x hx=>⟨(n1 x hx).1,(n1 x hx).2.1,(n1 x hx).2.2.1⟩) (by simp) List.Pairwise.nil (by simp only [sm];grind) ⟨0,by simp⟩ (by grind) (by have:=es.2;grind)
    rw [e0] at g
    obtain ⟨g1,g2,g3,g4,g5⟩:=g
    exact ⟨g1,g2,g3,by rw [g4];grind,by rw [g5];simp only [sm];grind⟩
end Go.Ev
