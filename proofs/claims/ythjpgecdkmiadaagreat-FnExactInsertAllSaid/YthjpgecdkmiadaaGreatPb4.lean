/- Parts PT1, P22b, PT2, PT3. -/
import Derived.Test.YthjpgecdkmiadaaGreatPb3
import Derived.Test.YthjpgecdkmiadaaGreatPb1
import Derived.Test.YthjpgecdkmiadaaGreatPb2
import Derived.Test.YthjpgecdkmiadaaGreatPa1
set_option linter.all false
/- The law of building a tree; inserting a link, both programs, and the law. -/
namespace Go.Ev
set_option linter.all false
def aCN (o:List Int) (l:Link):List Int:=[l.fA,l.fB].filter (fun y=>decide (0 < y∧y ∉ o))
theorem aLm (o:List Int) (l:Link):(aCN o l).length≤2:=List.length_filter_le _ _
theorem aGq (o:List Int) (l:Link):aCN o l=(if 0 < l.fA∧l.fA ∉ o then [l.fA] else [])++(if 0 < l.fB∧l.fB ∉ o then [l.fB] else []):=by
  unfold aCN
  rw [List.filter_cons,List.filter_cons,List.filter_nil]
  by_cases a:0 < l.fA∧l.fA ∉ o <;> by_cases b:0 < l.fB∧l.fB ∉ o <;> simp [a,b]
theorem aKl (l:Link) (hv:ValidL l) (o u:List Int) (ho:o.length≤4194304) (hu:u.length≤4194304):lp (cV l) (0,o,u)=some (o++aCN o l,u++aCN o l):=by
  have hne:l.fB≠l.fA:=by have:=hv.2.2.1;omega
  rw [aGq]
  have s3:∀ o u,cV l (2,o,u)=some (.inr (o,u)):=by
    intro o u
    unfold cV
    simp
  have hB:∀ (o u:List Int),o.length≤4194305→u.length≤4194305→lp (cV l) (1,o,u)=some (o++(if 0 < l.fB∧l.fB ∉ o then [l.fB] else []),u++(if 0 < l.fB∧l.fB ∉ o then [l.fB] else [])):=by
    intro o u ho hu
    by_cases c:0 < l.fB∧l.fB ∉ o
    · rw [bD (s':=(2,o++[l.fB],u++[l.fB])),aL (s3 _ _),if_pos c]
      unfold cV
      simp only []
      rw [if_pos (by simp),show idx [l.fA,l.fB] 1=some l.fB from rfl]
      simp only [Option.bind_some,c.1,if_true,uJ o _ (by omega),decide_eq_false c.2,Bool.not_false]
      rw [aQ (by omega)]
      simp only [Option.bind_some,aO]
      rw [aQ (by omega)];rfl
    · rw [bD (s':=(2,o,u)),aL (s3 _ _),if_neg c,List.append_nil,List.append_nil]
      unfold cV
      simp only []
      rw [if_pos (by simp),show idx [l.fA,l.fB] 1=some l.fB from rfl]
      simp only [Option.bind_some,uJ o _ (by omega)]
      by_cases d:0 < l.fB
      · have:l.fB ∈ o:=Classical.byContradiction fun h=>c ⟨d,h⟩
        simp only [d,if_true,Option.bind_some,this,decide_true,Bool.not_true,Bool.false_eq_true,if_false];rfl
      · simp only [d,if_false,Option.bind_some,Bool.false_eq_true];rfl
  by_cases c:0 < l.fA∧l.fA ∉ o
  · rw [bD (s':=(1,o++[l.fA],u++[l.fA])),hB _ _ (by simp;omega) (by simp;omega),if_pos c]
    · have:(0 < l.fB∧l.fB ∉ o++[l.fA])↔(0 < l.fB∧l.fB ∉ o):=by simp [hne]
      simp only [this,List.append_assoc]
    · unfold cV
      simp only []
      rw [if_pos (by simp),show idx [l.fA,l.fB] 0=some l.fA from rfl]
      simp only [Option.bind_some,c.1,if_true,uJ o _ (by omega),decide_eq_false c.2,Bool.not_false]
      rw [aQ (by omega)]
      simp only [Option.bind_some,aO]
      rw [aQ (by omega)];rfl
  · rw [bD (s':=(1,o,u)),hB _ _ (by omega) (by omega),if_neg c]
    · simp
    · unfold cV
      simp only []
      rw [if_pos (by simp),show idx [l.fA,l.fB] 0=some l.fA from rfl]
      simp only [Option.bind_some,uJ o _ (by omega)]
      by_cases d:0 < l.fA
      · have:l.fA ∈ o:=Classical.byContradiction fun h=>c ⟨d,h⟩
        simp only [d,if_true,Option.bind_some,this,decide_true,Bool.not_true,Bool.false_eq_true,if_false];rfl
      · simp only [d,if_false,Option.bind_some,Bool.false_eq_true];rfl
theorem aIs {t:Tree} {v:Int}:atN t v=none↔v ∉ gU t:=by
  unfold atN gU
  rw [List.findIdx?_eq_none_iff]
  simp only [decide_eq_false_iff_not,List.mem_map,not_exists,not_and]
theorem yR (t:Tree) (v:Int) (h:t.fNodes.length≤4294967296):(lI t v).bind (fun r=>some (decide (r < 0)))=some (decide (v ∉ gU t)):=by
  rw [aGB t v h,Option.bind_some]
  cases e:atN t v with
  | none=>simp [aIs.1 e]
  | some k =>
    have:¬v ∉ gU t:=fun h=>by rw [aIs.2 h] at e;cases e
    simp only [Int.not_lt.2 (Int.natCast_nonneg k),decide_false,this]
theorem aKm (t:Tree) (ht:t.fNodes.length≤4294967296) (l:Link) (hv:ValidL l) (o u:List Int) (ho:o.length≤4194304) (hu:u.length≤4194304):lp (cW t l) (0,o,u)=some (o++aCN (gU t) l,u++aCN (gU t) l):=by
  rw [aGq]
  have hA0:=hv.1.1
  have hB0:=hv.2.1.1
  have s3:∀ o u,cW t l (2,o,u)=some (.inr (o,u)):=by
    intro o u
    unfold cW
    simp
  have hB:∀ (o u:List Int),o.length≤4194305→u.length≤4194305→lp (cW t l) (1,o,u)=some (o++(if 0 < l.fB∧l.fB ∉ gU t then [l.fB] else []),u++(if 0 < l.fB∧l.fB ∉ gU t then [l.fB] else [])):=by
    intro o u ho hu
    by_cases c:0 < l.fB∧l.fB ∉ gU t
    · rw [bD (s':=(2,o++[l.fB],u++[l.fB])),aL (s3 _ _),if_pos c]
      unfold cW
      simp only []
      rw [if_pos (by simp),show idx [l.fA,l.fB] 1=some l.fB from rfl]
      simp only [Option.bind_some]
      rw [if_pos (by omega),yR t _ ht,decide_eq_true c.2]
      simp only [Option.bind_some,if_true]
      rw [aQ (by omega)]
      simp only [Option.bind_some,aO]
      rw [aQ (by omega)];rfl
    · rw [bD (s':=(2,o,u)),aL (s3 _ _),if_neg c,List.append_nil,List.append_nil]
      unfold cW
      simp only []
      rw [if_pos (by simp),show idx [l.fA,l.fB] 1=some l.fB from rfl]
      simp only [Option.bind_some]
      by_cases d:0 < l.fB
      · have:¬l.fB ∉ gU t:=fun h=>c ⟨d,h⟩
        rw [if_pos (by omega),yR t _ ht,decide_eq_false this];rfl
      · rw [if_neg (by omega)];rfl
  by_cases c:0 < l.fA∧l.fA ∉ gU t
  · rw [bD (s':=(1,o++[l.fA],u++[l.fA])),hB _ _ (by simp;omega) (by simp;omega),if_pos c]
    · simp only [List.append_assoc]
    · unfold cW
      simp only []
      rw [if_pos (by simp),show idx [l.fA,l.fB] 0=some l.fA from rfl]
      simp only [Option.bind_some]
      rw [if_pos (by omega),yR t _ ht,decide_eq_true c.2]
      simp only [Option.bind_some,if_true]
      rw [aQ (by omega)]
      simp only [Option.bind_some,aO]
      rw [aQ (by omega)];rfl
  · rw [bD (s':=(1,o,u)),hB _ _ (by omega) (by omega),if_neg c]
    · simp
    · unfold cW
      simp only []
      rw [if_pos (by simp),show idx [l.fA,l.fB] 0=some l.fA from rfl]
      simp only [Option.bind_some]
      by_cases d:0 < l.fA
      · have:¬l.fA ∉ gU t:=fun h=>c ⟨d,h⟩
        rw [if_pos (by omega),yR t _ ht,decide_eq_false this];rfl
      · rw [if_neg (by omega)];rfl
noncomputable def aFq (t:Tree) (l:Link):Option (Tree × List Int) :=
  if pX t∧ValidL l then (xB (cJ t.fNodes++[l]) (gU t++aCN (gU t) l)).map fun u=>(u,aEg t [l.fA,l.fB]++aCN (gU t) l) else none
def pkI:Option (Tree × List Int)→Tree × List Int × Bool
  | some (u,a)=>(u,a,true)
  | none=>(Tree.mk [],[],false)
theorem aNB (t:Tree) (l:Link) (h:bZ t≤2097152) (hl:aT l≤1048576):oO t l=some (pkI (aFq t l))∧pC t l=some (pkI (aFq t l)):=by
  obtain ⟨e1,e2⟩:=aL6 t (by omega)
  obtain ⟨v1,v2⟩:=gA l (by omega)
  have h0:=h
  unfold bZ bW at h0
  have hn:=cP aN t.fNodes
  have ho:=zK t.fNodes
  unfold oO pC
  rw [e1,e2,v1,v2]
  simp only [Option.bind_some]
  by_cases c:pX t
  · by_cases d:ValidL l
    · obtain ⟨a1,a2,a3⟩:=aNG c [l.fA,l.fB] (by simp)
      obtain ⟨o1,o2⟩:=aJG t (by omega)
      obtain ⟨l1,l2⟩:=aH2 t (by omega)
      have hol:(gU t).length≤4194304:=by unfold gU;rw [List.length_map];omega
      have hsz:aF (cJ t.fNodes++[l])≤4194304:=by
        rw [aCB]
        have:aF [l]≤1048577:=by unfold aF;rw [jA,aAh];omega
        omega
      have hne:=aLm (gU t) l
      have hsl:=cP aT (cJ t.fNodes)
      have hs0:szL aT (cJ t.fNodes)=aF (cJ t.fNodes):=rfl
      have hol9:(gU t).length≤2097152:=by unfold gU;rw [List.length_map];omega
      obtain ⟨b1,b2⟩:=aJ8 (cJ t.fNodes++[l]) (gU t++aCN (gU t) l) hsz (by rw [List.length_append];omega)
      have eP:aFq t l=(xB (cJ t.fNodes++[l]) (gU t++aCN (gU t) l)).map fun u=>(u,aEg t [l.fA,l.fB]++aCN (gU t) l):=by unfold aFq;rw [if_pos ⟨c,d⟩]
      have nS:=aKl l d (gU t) (aEg t [l.fA,l.fB]) hol (by omega)
      have nI:=aKm t (by omega) l d (gU t) (aEg t [l.fA,l.fB]) hol (by omega)
      rw [decide_eq_true c,decide_eq_true d,eP]
      simp only [if_true,Option.bind_some,Bool.not_true,Bool.false_eq_true,if_false,o1,o2,a1,a2,nS,nI,l1,l2]
      rw [aQ (by omega)]
      simp only [Option.bind_some,aO,b1,b2]
      cases xB (cJ t.fNodes++[l]) (gU t++aCN (gU t) l) with
      | none=>exact ⟨rfl,rfl⟩
      | some u=>exact ⟨rfl,rfl⟩
    · have eP:aFq t l=none:=by unfold aFq;rw [if_neg (fun h=>d h.2)]
      rw [decide_eq_true c,decide_eq_false d,eP]
      exact ⟨rfl,rfl⟩
  · have eP:aFq t l=none:=by unfold aFq;rw [if_neg (fun h=>c h.1)]
    rw [decide_eq_false c,eP]
    by_cases d:ValidL l
    · rw [decide_eq_true d];exact ⟨rfl,rfl⟩
    · rw [decide_eq_false d];exact ⟨rfl,rfl⟩
end Go.Ev
/- Cliques: their nodes in order. -/
set_option linter.all false
namespace Go.Ev
set_option linter.all false
end Go.Ev
/- Deleting a link, both programs, and the law. -/
namespace Go.Ev
set_option linter.all false
end Go.Ev
/- Inserting all links, both programs, and the law. -/
namespace Go.Ev
set_option linter.all false
theorem aEE (c:Conditional) (h:aK c≤4294967296):tU c=some c:=by
  have hp:=cP bO c.fParents
  unfold aK cL at h
  unfold tU
  rw [fC _ (by omega)]
  simp only [Option.bind_some]
  have:=wO (step:=oF c) c.fParents (fun k t=>((k:Int),t)) (fun t=>t) (fun k t hk ht=>by
    have he:=fL (w:=bO) (List.getElem_mem hk)
    have hn:bO c.fParents[k]=aS (c.fParents[k]).fShare+aS (c.fParents[k]).fDX+aS (c.fParents[k]).fDY:=rfl
    unfold oF
    simp only []
    rw [if_pos (by omega),aI hk]
    simp only [Option.bind_some]
    rw [fC _ (by omega)]
    simp only [Option.bind_some]
    rw [fC _ (by omega)]
    simp only [Option.bind_some]
    rw [fC _ (by omega)]
    simp only [Option.bind_some]
    rw [aQ (by omega),wi (by omega)];rfl) (fun t ht=>by unfold oF;simp only [];rw [if_neg (by omega)])
  rw [show ((0:Nat):Int)=0 from rfl] at this
  rw [this];rfl
theorem aED (t:Tree) (h:bZ t≤4294967296):tT t=some t:=by
  unfold bZ bW at h
  have hl:=cP aN t.fNodes
  unfold tT
  have:=wO (step:=oE t) t.fNodes (fun k t=>((k:Int),t)) (fun t=>t) (fun k u hk hu=>by
    have he:=fL (w:=aN) (List.getElem_mem hk)
    have hn:aN t.fNodes[k]=aF (t.fNodes[k]).fOwn+aK (t.fNodes[k]).fCond+aF (t.fNodes[k]).fMessages+aS (t.fNodes[k]).fEnergy:=rfl
    unfold oE
    simp only []
    rw [if_pos (by omega),aI hk]
    simp only [Option.bind_some]
    rw [rV _ (by omega)]
    simp only [Option.bind_some]
    rw [aEE _ (by omega)]
    simp only [Option.bind_some]
    rw [rV _ (by omega)]
    simp only [Option.bind_some]
    rw [fC _ (by omega)]
    simp only [Option.bind_some]
    rw [aQ (by omega),wi1 (by omega)];rfl) (fun t ht=>by unfold oE;simp only [];rw [if_neg (by omega)])
  rw [show ((0:Nat):Int)=0 from rfl] at this
  rw [this];rfl
theorem aHG (a:Int) (c:Nat):∀ r:List Int,r.Nodup→(r.map (fun v=>if a=v then c else 0)).sum≤c
  | [],_=>Nat.zero_le _
  | v::r,h=>by
    rw [List.nodup_cons] at h
    rw [List.map_cons,List.sum_cons]
    by_cases e:a=v
    · rw [if_pos e]
      have:∀ l:List Int,v ∉ l→(l.map (fun v=>if a=v then c else 0)).sum=0:=by
        intro l
        induction l with
        | nil=>intro _;rfl
        | cons x l ih =>
          intro hx
          simp only [List.mem_cons,not_or] at hx
          rw [List.map_cons,List.sum_cons,ih hx.2,if_neg (fun e'=>hx.1 (by rw [← e,e']))]
      rw [this r h.1];omega
    · rw [if_neg e]
      have:=aHG a c r h.2
      omega
theorem aHU (o:List Int) (r:List Int) (hr:r.Nodup):∀ s:List Link,(r.map (fun v=>aF (s.filter (qD o v)))).sum≤aF s
  | []=>by
    have:∀ l:List Int,(l.map (fun v=>aF (([]:List Link).filter (qD o v)))).sum=0:=by
      intro l
      induction l with
      | nil=>rfl
      | cons x l ih=>rw [List.map_cons,List.sum_cons,ih];rfl
    rw [this];exact Nat.zero_le _
  | x::s=>by
    have ih:=aHU o r hr s
    have h1:=aHG (fR o [x.fA,x.fB]) (aT x+1) r hr
    have e:∀ l:List Int,(l.map (fun v=>aF ((x::s).filter (qD o v)))).sum=(l.map (fun v=>if fR o [x.fA,x.fB]=v then aT x+1 else 0)).sum+(l.map (fun v=>aF (s.filter (qD o v)))).sum:=by
      intro l
      induction l with
      | nil=>rfl
      | cons v l ih =>
        simp only [List.map_cons,List.sum_cons,ih]
        have:aF ((x::s).filter (qD o v))=(if fR o [x.fA,x.fB]=v then aT x+1 else 0)+aF (s.filter (qD o v)):=by
          rw [List.filter_cons]
          unfold qD
          by_cases c:fR o [x.fA,x.fB]=v
          · rw [if_pos (by simpa using c),if_pos c];unfold aF;rw [jA]
          · rw [if_neg (by simpa using c),if_neg c];omega
        omega
    rw [e]
    have:aF (x::s)=aT x+1+aF s:=by unfold aF;rw [jA]
    omega
theorem aAl:∀ b:List TreeNode,aF (cJ b)=(b.map (fun n=>aF n.fOwn)).sum
  | []=>rfl
  | n::b=>by
    have e:cJ (n::b)=n.fOwn++cJ b:=by simp [cJ]
    rw [e,aCB,aAl b,List.map_cons,List.sum_cons]
theorem aKP {s:List Link} {o:List Int} {b:List TreeNode} (hn:o.Nodup) (h:xF s o o []=some b):aF (cJ b)≤aF s:=by
  obtain ⟨h1,h2⟩:=aCA o [] b (by simp) h
  simp only [List.map_nil,List.nil_append] at h2
  rw [aAl]
  have e:b.map (fun n=>aF n.fOwn)=b.map (fun n=>aF (s.filter (qD o n.fNode))):=List.map_congr_left fun n hn=>by rw [(h1 n hn).2.1]
  have e2:b.map (fun n=>aF (s.filter (qD o n.fNode)))=o.map (fun v=>aF (s.filter (qD o v))):=by rw [← h2,List.map_map];rfl
  rw [e,e2]
  exact aHU o o hn s
theorem aHB {s:List Link} {o:List Int}:∀ {b:List TreeNode},(∀ n ∈ b,NodeOk s o n)→szL aN b≤aF (cJ b)+51425*b.length
  | [],_=>Nat.zero_le _
  | n::b,h=>by
    have ih:=aHB (b:=b) (fun m hm=>h m (by simp [hm]))
    have hn:=h n (by simp)
    have h1:=hn.1.sz
    have h3:=qB (.inl hn.2.2.2.1)
    have h4:=hn.2.2.1
    have e:aF (cJ (n::b))=aF n.fOwn+aF (cJ b):=by rw [aAl,aAl,List.map_cons,List.sum_cons]
    have e2:aN n=aF n.fOwn+aK n.fCond+aF n.fMessages+aS n.fEnergy:=rfl
    rw [jA,List.length_cons,e,e2]
    omega
theorem aJj {s:List Link} {o:List Int} {u:Tree} (h:xB s o=some u):aF (cJ u.fNodes)≤aF s∧bZ u≤aF s+462825:=by
  unfold xB at h
  cases hj:jnP s with
  | none=>rw [hj] at h;cases h
  | some x =>
    rw [hj,Option.bind_some] at h
    by_cases c:aAL x.1 o
    · rw [if_pos c] at h
      cases g:xF s o o [] with
      | none=>rw [g] at h;cases h
      | some b =>
        rw [g] at h
        obtain rfl:=Option.some.inj h
        have h1:=aKP c.1 g
        obtain ⟨k1,k2⟩:=aCA o [] b (by simp) g
        have h2:=aHB k1
        have hl:b.length=o.length:=by have:=congrArg List.length k2;simpa using this
        have h9:=(aFp c).1
        refine ⟨h1,?_⟩
        show szL aN b≤_
        have:51425*b.length≤51425*9:=Nat.mul_le_mul (Nat.le_refl _) (by omega)
        omega
    · rw [if_neg c] at h;cases h
theorem aLB {t:Tree} {l:Link} {u:Tree} {a:List Int} (h:aFq t l=some (u,a)):aF (cJ u.fNodes)≤aF (cJ t.fNodes)+aT l+1∧bZ u≤aF (cJ t.fNodes)+aT l+1+462825:=by
  unfold aFq at h
  split at h
  · cases g:xB (cJ t.fNodes++[l]) (gU t++aCN (gU t) l) with
    | none=>rw [g] at h;cases h
    | some v =>
      rw [g,Option.map_some] at h
      have h:=Option.some.inj h
      have e:v=u:=congrArg Prod.fst h
      subst e
      obtain ⟨b1,b2⟩:=aJj g
      have e:aF (cJ t.fNodes++[l])=aF (cJ t.fNodes)+aT l+1:=by
        rw [aCB]
        have:aF [l]=aT l+1:=by unfold aF;rw [jA,aAh]
        omega
      omega
  · cases h
theorem aIb (l:List Link) (hl:aF l≤1048576) (T:Nat) (hT:T+aF l≤1048576):∀ m k:Nat,m+k=l.length→∀ (n:Int) (u:Tree),aF (cJ u.fNodes)≤T+aF (l.take k)→bZ u≤1048576+462825 →
    ∃ r,lp (gE l) (n,(k:Int),u)=some r∧lp (gL l) (n,(k:Int),u)=some r∧(match r with | .inl d=>bZ d.2≤1048576+462825 | .inr d=>d=(Tree.mk [],0,false)):=by
  have hll:l.length≤1048576:=Nat.le_trans (cP aT l) hl
  intro m
  induction m with
  | zero =>
    intro k hk n u h1 h2
    refine ⟨.inl (n,u),aL ?_,aL ?_,h2⟩
    · unfold gE;simp only [];rw [if_neg (by omega)]
    · unfold gL;simp only [];rw [if_neg (by omega)]
  | succ m ih =>
    intro k hk n u h1 h2
    have hlt:k < l.length:=by omega
    have he:=fL (w:=aT) (List.getElem_mem hlt)
    have hls:szL aT l=aF l:=rfl
    obtain ⟨q1,q2⟩:=aNB u l[k] (by omega) (by omega)
    have ht:aF (l.take (k+1))=aF (l.take k)+aT l[k]+1:=by
      rw [List.take_succ_eq_append_getElem hlt,aCB]
      have:aF [l[k]]=aT l[k]+1:=by unfold aF;rw [jA,aAh]
      omega
    have htl:aF (l.take (k+1))≤aF l:=aHF aT l (k+1)
    cases e:aFq u l[k] with
    | none =>
      refine ⟨.inr (Tree.mk [],0,false),aL ?_,aL ?_,rfl⟩
      · unfold gE;simp only []
        rw [if_pos (by omega),aI hlt]
        simp only [Option.bind_some,q1,e,pkI,Bool.false_eq_true,if_false]
      · unfold gL;simp only []
        rw [if_pos (by omega),aI hlt]
        simp only [Option.bind_some,q2,e,pkI,Bool.false_eq_true,if_false]
    | some x =>
      obtain ⟨u',a⟩:=x
      obtain ⟨b1,b2⟩:=aLB e
      have s1:gE l (n,(k:Int),u)=some (.inl (IntKind.i64.wrap (n+(a.length:Int)),((k+1:Nat):Int),u')):=by
        unfold gE;simp only []
        rw [if_pos (by omega),aI hlt]
        simp only [Option.bind_some,q1,e,pkI,if_true,aO,wi1 (by omega:k≤4294967296)]
      have s2:gL l (n,(k:Int),u)=some (.inl (IntKind.i64.wrap (n+(a.length:Int)),((k+1:Nat):Int),u')):=by
        unfold gL;simp only []
        rw [if_pos (by omega),aI hlt]
        simp only [Option.bind_some,q2,e,pkI,if_true,aO,wi1 (by omega:k≤4294967296)]
      rw [bD s1,bD s2]
      exact ih (k+1) (by omega) _ u' (by omega) (by omega)
theorem aIB (t:Tree) (l:List Link) (h:bZ t+aF l≤1048576):∃ r,qL t l=some r∧nB t l=some r∧bZ r.1≤38700018:=by
  have ho:=zK t.fNodes
  have h0:bZ t=szL aN t.fNodes:=rfl
  obtain ⟨r,e1,e2,e3⟩:=aIb l (by omega) (bZ t) h l.length 0 (by omega) 0 t (by rw [List.take_zero];omega) (by omega)
  rw [show ((0:Nat):Int)=0 from rfl] at e1 e2
  unfold qL nB
  rw [aED t (by omega),aFE t (by omega)]
  simp only [Option.bind_some,e1,e2]
  cases r with
  | inl d=>exact ⟨_,rfl,rfl,by simp only [] at e3 ⊢;omega⟩
  | inr d =>
    simp only [] at e3
    subst e3
    exact ⟨_,rfl,rfl,Nat.zero_le _⟩
theorem aL9 (t:Tree) (l:List Link) (ot:aHb t) (ol:(okL aA3) l):kL t l=some true:=by
  unfold kL
  rw [aMf t ot _ (by omega) (by omega)]
  simp only [Option.bind_some]
  by_cases h:(bZ t:Int)≤1048576
  · rw [if_pos h,if_neg (by omega),aEz l ol _ (by omega) (by omega)]
    simp only [Option.bind_some]
    by_cases g:(aF l:Int)≤1048576 - (bZ t:Int)
    · rw [if_pos g,if_neg (by omega)]
      obtain ⟨r,e1,e2,z1⟩:=aIB t l (by omega)
      obtain ⟨k1,x1,m1,_,m3,m4⟩:=aJM t 1 (by omega) (by omega)
      obtain ⟨k2,x2,n1,n2,n3,_⟩:=aE5 l k1 (by omega) (by omega)
      obtain ⟨k3,x3,p1,p2,p3,p4⟩:=aJM r.1 1 (by omega) (by omega)
      have c2:¬k2 < 0:=by omega
      have c3:¬k3 < 0:=by omega
      simp only [aMd t (by omega),aEu l (by omega),e1,e2,Option.bind_some,aJ0 t (by omega),aFw l (by omega),aJ0 r.1 (by omega),m1,n1,p1,p2,c2,c3,if_true,if_false,beq_self_eq_true,Bool.not_true,Bool.false_eq_true,ne_eq,not_true_eq_false]
    · rw [if_neg g,if_pos (by omega)]
  · rw [if_neg h,if_pos (by omega)]
end Go.Ev
