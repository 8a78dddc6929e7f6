/- Parts PT1, P22b, PT2. -/
import Derived.Test.YthjpgecdkmiadaaGreatPb3
import Derived.Test.YthjpgecdkmiadaaGreatPb1
import Derived.Test.YthjpgecdkmiadaaGreatPb2
import Derived.Test.YthjpgecdkmiadaaGreatPa1
set_option linter.all false
/- The law of building a tree; inserting a link, both programs, and the law. -/
namespace Go.Ev
set_option linter.all false
def aCQ (o:List Int) (l:Link):List Int:=[l.fA,l.fB].filter (fun y=>decide (0 < y∧y ∉ o))
theorem aIv (o:List Int) (l:Link):(aCQ o l).length≤2:=List.length_filter_le _ _
theorem aGW (o:List Int) (l:Link):aCQ o l=(if 0 < l.fA∧l.fA ∉ o then [l.fA] else [])++(if 0 < l.fB∧l.fB ∉ o then [l.fB] else []):=by
  unfold aCQ
  rw [List.filter_cons,List.filter_cons,List.filter_nil]
  by_cases a:0 < l.fA∧l.fA ∉ o <;> by_cases b:0 < l.fB∧l.fB ∉ o <;> simp [a,b]
theorem aKU (l:Link) (hv:ValidL l) (o u:List Int) (ho:o.length≤4194304) (hu:u.length≤4194304):lp (cZ l) (0,o,u)=some (o++aCQ o l,u++aCQ o l):=by
  have hne:l.fB≠l.fA:=by have:=hv.2.2.1;omega
  rw [aGW]
  have s3:∀ o u,cZ l (2,o,u)=some (.inr (o,u)):=by
    intro o u
    unfold cZ
    simp
  have hB:∀ (o u:List Int),o.length≤4194305→u.length≤4194305→lp (cZ l) (1,o,u)=some (o++(if 0 < l.fB∧l.fB ∉ o then [l.fB] else []),u++(if 0 < l.fB∧l.fB ∉ o then [l.fB] else [])):=by
    intro o u ho hu
    by_cases c:0 < l.fB∧l.fB ∉ o
    · rw [bF (s':=(2,o++[l.fB],u++[l.fB])),aN (s3 _ _),if_pos c]
      unfold cZ
      simp only []
      rw [if_pos (by simp),show idx [l.fA,l.fB] 1=some l.fB from rfl]
      simp only [Option.bind_some,c.1,if_true,tE o _ (by omega),decide_eq_false c.2,Bool.not_false]
      rw [aP (by omega)]
      simp only [Option.bind_some,aO]
      rw [aP (by omega)];rfl
    · rw [bF (s':=(2,o,u)),aN (s3 _ _),if_neg c,List.append_nil,List.append_nil]
      unfold cZ
      simp only []
      rw [if_pos (by simp),show idx [l.fA,l.fB] 1=some l.fB from rfl]
      simp only [Option.bind_some,tE o _ (by omega)]
      by_cases d:0 < l.fB
      · have:l.fB ∈ o:=Classical.byContradiction fun h=>c ⟨d,h⟩
        simp only [d,if_true,Option.bind_some,this,decide_true,Bool.not_true,Bool.false_eq_true,if_false];rfl
      · simp only [d,if_false,Option.bind_some,Bool.false_eq_true];rfl
  by_cases c:0 < l.fA∧l.fA ∉ o
  · rw [bF (s':=(1,o++[l.fA],u++[l.fA])),hB _ _ (by simp;omega) (by simp;omega),if_pos c]
    · have:(0 < l.fB∧l.fB ∉ o++[l.fA])↔(0 < l.fB∧l.fB ∉ o):=by simp [hne]
      simp only [this,List.append_assoc]
    · unfold cZ
      simp only []
      rw [if_pos (by simp),show idx [l.fA,l.fB] 0=some l.fA from rfl]
      simp only [Option.bind_some,c.1,if_true,tE o _ (by omega),decide_eq_false c.2,Bool.not_false]
      rw [aP (by omega)]
      simp only [Option.bind_some,aO]
      rw [aP (by omega)];rfl
  · rw [bF (s':=(1,o,u)),hB _ _ (by omega) (by omega),if_neg c]
    · simp
    · unfold cZ
      simp only []
      rw [if_pos (by simp),show idx [l.fA,l.fB] 0=some l.fA from rfl]
      simp only [Option.bind_some,tE o _ (by omega)]
      by_cases d:0 < l.fA
      · have:l.fA ∈ o:=Classical.byContradiction fun h=>c ⟨d,h⟩
        simp only [d,if_true,Option.bind_some,this,decide_true,Bool.not_true,Bool.false_eq_true,if_false];rfl
      · simp only [d,if_false,Option.bind_some,Bool.false_eq_true];rfl
theorem aIZ {t:Tree} {v:Int}:atN t v=none↔v ∉ eH t:=by
  unfold atN eH
  rw [List.findIdx?_eq_none_iff]
  simp only [decide_eq_false_iff_not,List.mem_map,not_exists,not_and]
theorem zO (t:Tree) (v:Int) (h:t.fNodes.length≤4294967296):(mI t v).bind (fun r=>some (decide (r < 0)))=some (decide (v ∉ eH t)):=by
  rw [aG5 t v h,Option.bind_some]
  cases e:atN t v with
  | none=>simp [aIZ.1 e]
  | some k =>
    have:¬v ∉ eH t:=fun h=>by rw [aIZ.2 h] at e;cases e
    simp only [Int.not_lt.2 (Int.natCast_nonneg k),decide_false,this]
theorem aKV (t:Tree) (ht:t.fNodes.length≤4294967296) (l:Link) (hv:ValidL l) (o u:List Int) (ho:o.length≤4194304) (hu:u.length≤4194304):lp (dA t l) (0,o,u)=some (o++aCQ (eH t) l,u++aCQ (eH t) l):=by
  rw [aGW]
  have hA0:=hv.1.1
  have hB0:=hv.2.1.1
  have s3:∀ o u,dA t l (2,o,u)=some (.inr (o,u)):=by
    intro o u
    unfold dA
    simp
  have hB:∀ (o u:List Int),o.length≤4194305→u.length≤4194305→lp (dA t l) (1,o,u)=some (o++(if 0 < l.fB∧l.fB ∉ eH t then [l.fB] else []),u++(if 0 < l.fB∧l.fB ∉ eH t then [l.fB] else [])):=by
    intro o u ho hu
    by_cases c:0 < l.fB∧l.fB ∉ eH t
    · rw [bF (s':=(2,o++[l.fB],u++[l.fB])),aN (s3 _ _),if_pos c]
      unfold dA
      simp only []
      rw [if_pos (by simp),show idx [l.fA,l.fB] 1=some l.fB from rfl]
      simp only [Option.bind_some]
      rw [if_pos (by omega),zO t _ ht,decide_eq_true c.2]
      simp only [Option.bind_some,if_true]
      rw [aP (by omega)]
      simp only [Option.bind_some,aO]
      rw [aP (by omega)];rfl
    · rw [bF (s':=(2,o,u)),aN (s3 _ _),if_neg c,List.append_nil,List.append_nil]
      unfold dA
      simp only []
      rw [if_pos (by simp),show idx [l.fA,l.fB] 1=some l.fB from rfl]
      simp only [Option.bind_some]
      by_cases d:0 < l.fB
      · have:¬l.fB ∉ eH t:=fun h=>c ⟨d,h⟩
        rw [if_pos (by omega),zO t _ ht,decide_eq_false this];rfl
      · rw [if_neg (by omega)];rfl
  by_cases c:0 < l.fA∧l.fA ∉ eH t
  · rw [bF (s':=(1,o++[l.fA],u++[l.fA])),hB _ _ (by simp;omega) (by simp;omega),if_pos c]
    · simp only [List.append_assoc]
    · unfold dA
      simp only []
      rw [if_pos (by simp),show idx [l.fA,l.fB] 0=some l.fA from rfl]
      simp only [Option.bind_some]
      rw [if_pos (by omega),zO t _ ht,decide_eq_true c.2]
      simp only [Option.bind_some,if_true]
      rw [aP (by omega)]
      simp only [Option.bind_some,aO]
      rw [aP (by omega)];rfl
  · rw [bF (s':=(1,o,u)),hB _ _ (by omega) (by omega),if_neg c]
    · simp
    · unfold dA
      simp only []
      rw [if_pos (by simp),show idx [l.fA,l.fB] 0=some l.fA from rfl]
      simp only [Option.bind_some]
      by_cases d:0 < l.fA
      · have:¬l.fA ∉ eH t:=fun h=>c ⟨d,h⟩
        rw [if_pos (by omega),zO t _ ht,decide_eq_false this];rfl
      · rw [if_neg (by omega)];rfl
noncomputable def aEK (t:Tree) (l:Link):Option (Tree × List Int) :=
  if mF t∧ValidL l then (qG (bV t.fNodes++[l]) (eH t++aCQ (eH t) l)).map fun u=>(u,aCp t [l.fA,l.fB]++aCQ (eH t) l) else none
def pkI:Option (Tree × List Int)→Tree × List Int × Bool
  | some (u,a)=>(u,a,true)
  | none=>(Tree.mk [],[],false)
theorem aN2 (t:Tree) (l:Link) (h:cD t≤2097152) (hl:aX l≤1048576):pE t l=some (pkI (aEK t l))∧lK t l=some (pkI (aEK t l)):=by
  obtain ⟨e1,e2⟩:=aI9 t (by omega)
  obtain ⟨v1,v2⟩:=gF l (by omega)
  have h0:=h
  unfold cD cC at h0
  have hn:=cO aU t.fNodes
  have ho:=yE t.fNodes
  unfold pE lK
  rw [e1,e2,v1,v2]
  simp only [Option.bind_some]
  by_cases c:mF t
  · by_cases d:ValidL l
    · obtain ⟨a1,a2,a3⟩:=aMp c [l.fA,l.fB] (by simp)
      obtain ⟨o1,o2⟩:=aHJ t (by omega)
      obtain ⟨l1,l2⟩:=aFQ t (by omega)
      have hol:(eH t).length≤4194304:=by unfold eH;rw [List.length_map];omega
      have hsz:aG (bV t.fNodes++[l])≤4194304:=by
        rw [aDa]
        have:aG [l]≤1048577:=by unfold aG;rw [lM,aAC];omega
        omega
      have hne:=aIv (eH t) l
      have hsl:=cO aX (bV t.fNodes)
      have hs0:szL aX (bV t.fNodes)=aG (bV t.fNodes):=rfl
      have hol9:(eH t).length≤2097152:=by unfold eH;rw [List.length_map];omega
      obtain ⟨b1,b2⟩:=aE2 (bV t.fNodes++[l]) (eH t++aCQ (eH t) l) hsz (by rw [List.length_append];omega)
      have eP:aEK t l=(qG (bV t.fNodes++[l]) (eH t++aCQ (eH t) l)).map fun u=>(u,aCp t [l.fA,l.fB]++aCQ (eH t) l):=by unfold aEK;rw [if_pos ⟨c,d⟩]
      have nS:=aKU l d (eH t) (aCp t [l.fA,l.fB]) hol (by omega)
      have nI:=aKV t (by omega) l d (eH t) (aCp t [l.fA,l.fB]) hol (by omega)
      rw [decide_eq_true c,decide_eq_true d,eP]
      simp only [if_true,Option.bind_some,Bool.not_true,Bool.false_eq_true,if_false,o1,o2,a1,a2,nS,nI,l1,l2]
      rw [aP (by omega)]
      simp only [Option.bind_some,aO,b1,b2]
      cases qG (bV t.fNodes++[l]) (eH t++aCQ (eH t) l) with
      | none=>exact ⟨rfl,rfl⟩
      | some u=>exact ⟨rfl,rfl⟩
    · have eP:aEK t l=none:=by unfold aEK;rw [if_neg (fun h=>d h.2)]
      rw [decide_eq_true c,decide_eq_false d,eP]
      exact ⟨rfl,rfl⟩
  · have eP:aEK t l=none:=by unfold aEK;rw [if_neg (fun h=>c h.1)]
    rw [decide_eq_false c,eP]
    by_cases d:ValidL l
    · rw [decide_eq_true d];exact ⟨rfl,rfl⟩
    · rw [decide_eq_false d];exact ⟨rfl,rfl⟩
theorem aMS (t:Tree) (l:Link) (h:cD t≤2097152) (hl:aX l≤1048576):cD (pkI (aEK t l)).1≤38700018∧(pkI (aEK t l)).2.1.length≤11:=by
  have h0:=h
  unfold cD cC at h0
  have ho:=yE t.fNodes
  unfold aEK
  by_cases c:mF t∧ValidL l
  · rw [if_pos c]
    have hsz:aG (bV t.fNodes++[l])≤4194304:=by
      rw [aDa]
      have:aG [l]≤1048577:=by unfold aG;rw [lM,aAC];omega
      omega
    have hb:=aHb (o:=eH t++aCQ (eH t) l) hsz
    have ha:=(aMp c.1 [l.fA,l.fB] (by simp)).2.2
    have hne:=aIv (eH t) l
    cases e:qG (bV t.fNodes++[l]) (eH t++aCQ (eH t) l) with
    | none=>exact ⟨Nat.zero_le _,Nat.zero_le _⟩
    | some u =>
      rw [e] at hb
      refine ⟨hb,?_⟩
      simp only [Option.map_some,pkI,List.length_append];omega
  · rw [if_neg c];exact ⟨Nat.zero_le _,Nat.zero_le _⟩
theorem aL4 (t:Tree) (l:Link) (ot:aDV t) (ol:zU l):jS t l=some true:=by
  unfold jS
  rw [aJ6 t ot _ (by omega) (by omega)]
  simp only [Option.bind_some]
  by_cases h:(cD t:Int)≤1048576
  · rw [if_pos h,if_neg (by omega),aHq l ol _ (by omega) (by omega)]
    simp only [Option.bind_some]
    by_cases g:(aX l:Int)≤1048576 - (cD t:Int)
    · rw [if_pos g,if_neg (by omega)]
      obtain ⟨e1,e2⟩:=aN2 t l (by omega) (by omega)
      obtain ⟨z1,z2⟩:=aMS t l (by omega) (by omega)
      generalize pkI (aEK t l)=r at e1 e2 z1 z2
      have so:fI r.2.1=r.2.1.length:=oV _
      obtain ⟨k1,x1,m1,_,m3,m4⟩:=aEU t 1 (by omega) (by omega)
      obtain ⟨k2,x2,n1,n2,n3⟩:=aKm l k1 (by omega) (by omega)
      obtain ⟨k3,x3,p1,p2,p3,p4⟩:=aEU r.1 1 (by omega) (by omega)
      obtain ⟨k4,x4,q1,q2,q3,q4,_⟩:=iX r.2.1 k3 (by omega) (by omega)
      have c2:¬k2 < 0:=by omega
      have c3:¬k3 < 0:=by omega
      have c4:¬k4 < 0:=by omega
      simp only [aJ4 t (by omega),aHo l (by omega),e1,e2,Option.bind_some,aEW t (by omega),aH0 l (by omega),aEW r.1 (by omega),aEX r.2.1 (by omega),m1,n1,p1,p2,q1,q2,c2,c3,c4,if_true,if_false,beq_self_eq_true,Bool.not_true,Bool.false_eq_true,ne_eq,not_true_eq_false]
    · rw [if_neg g,if_pos (by omega)]
  · rw [if_neg h,if_pos (by omega)]
end Go.Ev
/- Cliques: their nodes in order. -/
set_option linter.all false
namespace Go.Ev
set_option linter.all false
end Go.Ev
/- Deleting a link, both programs, and the law. -/
namespace Go.Ev
set_option linter.all false
noncomputable def atL (s:List Link) (l:Link):Nat:=(s.takeWhile (fun x=>decide (x≠l))).length
theorem aND (s:List Link) (l:Link):atL s l≤s.length:=by
  unfold atL
  have:=congrArg List.length (List.takeWhile_append_dropWhile (p:=fun x=>decide (x≠l)) (l:=s))
  rw [List.length_append] at this;omega
theorem aMo (x:Link) (s:List Link) (l:Link):atL (x::s) l=if x=l then 0 else atL s l+1:=by
  unfold atL
  rw [List.takeWhile_cons]
  by_cases c:x=l <;> simp [c]
theorem aI0 {step:Int→Option (Int ⊕ Int)} (s:List Link) (l:Link) (h1:∀ (k:Nat) (hk:k < s.length),step (k:Int)=some (if s[k]=l then .inr (k:Int) else .inl ((k+1:Nat):Int))) (h2:step (s.length:Int)=some (.inr (s.length:Int))):lp step 0=some ((atL s l:Nat):Int):=by
  have main:∀ m k:Nat,m+k=s.length→lp step (k:Int)=some ((k+atL (s.drop k) l:Nat):Int):=by
    intro m
    induction m with
    | zero =>
      intro k hk
      have:k=s.length:=by omega
      subst this
      rw [aN h2,List.drop_length];rfl
    | succ m ih =>
      intro k hk
      have hlt:k < s.length:=by omega
      rw [List.drop_eq_getElem_cons hlt,aMo]
      by_cases c:s[k]=l
      · rw [if_pos c,aN (by rw [h1 k hlt,if_pos c])];rfl
      · rw [if_neg c,bF (by rw [h1 k hlt,if_neg c]),ih (k+1) (by omega)]
        congr 2;omega
  have:=main s.length 0 (by omega)
  rw [List.drop_zero,Nat.zero_add] at this
  exact this
theorem aEi {s:List Link} (h:aG s≤4194304) {k:Nat} (hk:k < s.length):aX s[k]≤4194304:=by
  have:=gG (w:=aX) (List.getElem_mem hk)
  unfold aG at h;omega
theorem aLj (s:List Link) (l:Link) (h:aG s≤4194304):lp (kP l s) 0=some ((atL s l:Nat):Int):=by
  have hl:s.length≤4194304:=Nat.le_trans (cO aX s) h
  refine aI0 s l (fun k hk=>?_) ?_
  · have he:=aEi h hk
    have h1:aG [s[k]]≤4294967296:=by unfold aG;rw [lM,aAC];omega
    unfold kP
    rw [if_pos (by omega),aI hk]
    simp only [Option.bind_some,wA _ _ h1]
    by_cases c:s[k]=l
    · simp [c]
    · simp only [List.cons.injEq,c,and_true,decide_false,Bool.not_false,if_true,if_false]
      rw [wi (by omega)];rfl
  · unfold kP
    rw [if_neg (by omega)];rfl
theorem aLk (s:List Link) (l:Link) (h:aG s≤4194304):lp (lF l s) 0=some ((atL s l:Nat):Int):=by
  have hl:s.length≤4194304:=Nat.le_trans (cO aX s) h
  refine aI0 s l (fun k hk=>?_) ?_
  · have he:=aEi h hk
    unfold lF
    rw [if_pos (by omega),aI hk]
    simp only [Option.bind_some]
    rw [aFf s[k] l (by omega)]
    by_cases c:s[k]=l
    · simp [c]
    · simp only [c,Option.bind_some,decide_false,Bool.not_false,if_true,if_false]
      rw [wi (by omega)];rfl
  · unfold lF
    rw [if_neg (by omega)];rfl
theorem aFU (o d:List Int) (ho:o.length≤4194304) (hd:d.length≤4194304):lp (gX o d) (0,[])=some (o.filter (fun x=>decide (x ∈ d))):=by
  have:=(iN (step:=gX o d) o (fun k t=>((k:Int),t)) (fun t x=>if decide (x ∈ d)=true then t++[x] else t) (fun t=>t) (fun k t=>t.length≤k) (fun k t hk hi=>by
    constructor
    · unfold gX
      simp only []
      rw [if_pos (by omega),aI hk]
      simp only [Option.bind_some,tE d _ (by omega),wi1 (by omega:k≤4294967296)]
      by_cases c:o[k] ∈ d
      · rw [decide_eq_true c,if_pos rfl,if_pos rfl,aP (by omega)];rfl
      · rw [decide_eq_false c,if_neg (by simp),if_neg (by simp)]
    · split
      · rw [List.length_append,List.length_singleton];omega
      · omega) (fun t _=>by unfold gX;simp only [];rw [if_neg (by omega)]) [] (Nat.zero_le _)).1
  rw [show ((0:Nat):Int)=0 from rfl,wP (fun x=>decide (x ∈ d)),List.nil_append] at this
  exact this
theorem aJE (t:Tree) (d:List Int) (ht:t.fNodes.length≤4194304) (hd:d.length≤4194304):lp (hJ t d) (0,[])=some ((eH t).filter (fun x=>decide (x ∈ d))):=by
  have:=(iN (step:=hJ t d) t.fNodes (fun k u=>((k:Int),u)) (fun u n=>if n.fNode ∈ d then u++[n.fNode] else u) (fun u=>u) (fun k u=>u.length≤k) (fun k u hk hi=>by
    constructor
    · unfold hJ
      simp only []
      rw [if_pos (by omega),aI hk]
      simp only [Option.bind_some,aAu d _ (by omega),wi1 (by omega:k≤4294967296)]
      by_cases c:(t.fNodes[k]).fNode ∈ d
      · rw [decide_eq_true c,if_pos rfl,if_pos c,aP (by omega)];rfl
      · rw [decide_eq_false c,if_neg (by simp),if_neg c]
    · split
      · rw [List.length_append,List.length_singleton];omega
      · omega) (fun u _=>by unfold hJ;simp only [];rw [if_neg (by omega)]) [] (Nat.zero_le _)).1
  rw [show ((0:Nat):Int)=0 from rfl,aF0,List.nil_append] at this
  exact this
theorem aNv {α:Type} (l:List α) (k:Nat) (h:k+1≤l.length) (hl:l.length≤4294967296):sub l (IntKind.i64.wrap ((k:Int)+1)) (l.length:Int)=some (l.drop (k+1)):=by
  rw [wi (by omega),tN _ _ _ (by omega)]
  congr 1
  rw [show ((k:Int)+1).toNat=k+1 by omega]
  exact List.take_of_length_le (by simp;omega)
theorem aJt:fU []=[]:=by decide
theorem aIu {s u:List Link} {e:Rat} (h:jnP s=some (u,e)):fU u=fU s:=by
  refine aAD (aAJ u) (aAJ s) fun x=>?_
  have h1:∀ (a b:List Link),(∀ x y,pr a x y→pr b x y)→(∃ l ∈ a,l.fA=x∨l.fB=x)→∃ l ∈ b,l.fA=x∨l.fB=x:=by
    rintro a b hab ⟨l,hl,c⟩
    obtain ⟨m,hm,e1,e2⟩:=hab l.fA l.fB ⟨l,hl,rfl,rfl⟩
    exact ⟨m,hm,by rw [e1,e2];exact c⟩
  rw [aAH,aAH]
  exact ⟨fun ⟨a,b⟩=>⟨a,h1 u s (fun x y=>(aHU h x y).1) b⟩,fun ⟨a,b⟩=>⟨a,h1 s u (fun x y=>(aHU h x y).2) b⟩⟩
noncomputable def aGb (t:Tree) (l:Link):Option (Tree × List Int) :=
  if mF t∧atL (bV t.fNodes) l < (bV t.fNodes).length then
    (let r:=(bV t.fNodes).take (atL (bV t.fNodes) l)++(bV t.fNodes).drop (atL (bV t.fNodes) l+1)
     (qG r ((eH t).filter (fun x=>decide (x ∈ fU r)))).map fun u=>(u,aCp t [l.fA,l.fB])) else none
theorem aGt (s:List Link) (k:Nat):aG (s.take k++s.drop (k+1))≤aG s:=by
  have e:s=s.take k++s.drop k:=(List.take_append_drop k s).symm
  have h1:aG s=aG (s.take k)+aG (s.drop k):=by rw [← aDa,← e]
  have h2:aG (s.drop (k+1))≤aG (s.drop k):=by
    by_cases c:k < s.length
    · rw [List.drop_eq_getElem_cons c]
      unfold aG;rw [lM];omega
    · rw [List.drop_eq_nil_of_le (by omega)];exact Nat.zero_le _
  rw [aDa];omega
theorem aN7 (t:Tree) (l:Link) (h:cD t≤2097152):pF t l=some (pkI (aGb t l))∧lL t l=some (pkI (aGb t l))∧cD (pkI (aGb t l)).1≤38700018∧(pkI (aGb t l)).2.1.length≤11:=by
  obtain ⟨e1,e2⟩:=aI9 t (by omega)
  have h0:=h
  unfold cD cC at h0
  have hn:=cO aU t.fNodes
  have ho:=yE t.fNodes
  unfold pF lL
  rw [e1,e2]
  simp only [Option.bind_some]
  by_cases c:mF t
  · obtain ⟨a1,a2,a3⟩:=aMp c [l.fA,l.fB] (by simp)
    obtain ⟨o1,o2⟩:=aHJ t (by omega)
    obtain ⟨l1,l2⟩:=aFQ t (by omega)
    have hol:(eH t).length≤2097152:=by unfold eH;rw [List.length_map];omega
    have hsl:=cO aX (bV t.fNodes)
    have hs0:szL aX (bV t.fNodes)=aG (bV t.fNodes):=rfl
    have d1:=aLj (bV t.fNodes) l (by omega)
    have d2:=aLk (bV t.fNodes) l (by omega)
    have hle:=aND (bV t.fNodes) l
    rw [decide_eq_true c]
    simp only [if_true,Option.bind_some,l1,l2,d1,d2]
    by_cases d:atL (bV t.fNodes) l < (bV t.fNodes).length
    · have eP:aGb t l=(qG ((bV t.fNodes).take (atL (bV t.fNodes) l)++(bV t.fNodes).drop (atL (bV t.fNodes) l+1)) ((eH t).filter (fun x=>decide (x ∈ fU ((bV t.fNodes).take (atL (bV t.fNodes) l)++(bV t.fNodes).drop (atL (bV t.fNodes) l+1)))))).map fun u=>(u,aCp t [l.fA,l.fB]):=by
        unfold aGb;rw [if_pos ⟨c,d⟩]
      rw [eP]
      have ht1:=aGt (bV t.fNodes) (atL (bV t.fNodes) l)
      generalize hk:atL (bV t.fNodes) l=k at *
      have x1:sub (bV t.fNodes) 0 (k:Int)=some ((bV t.fNodes).take k):=by rw [tN _ _ _ (by omega)];simp
      have x2:=aNv (bV t.fNodes) k (by omega) (by omega)
      rw [if_neg (by omega),if_neg (by omega),x1,x2]
      simp only [Option.bind_some]
      rw [aP (by rw [List.length_take];simp;omega)]
      simp only [Option.bind_some,aO,List.nil_append]
      rw [aP (by rw [List.length_take,List.length_drop];omega)]
      simp only [Option.bind_some,aO]
      generalize hr:(bV t.fNodes).take k++(bV t.fNodes).drop (k+1)=r at *
      have hrl:r.length≤4194304:=Nat.le_trans (cO aX r) (by show aG r≤_;omega)
      obtain ⟨j1,_⟩:=zR r (by omega)
      have nI:=aGU (s:=r) (by omega)
      have n9:=aAI r
      have kI:=aJE t (fU r) (by omega) (by omega)
      have hf:((eH t).filter (fun x=>decide (x ∈ fU r))).length≤4194304:=Nat.le_trans (List.length_filter_le _ _) (by omega)
      obtain ⟨b1,b2⟩:=aE2 r ((eH t).filter (fun x=>decide (x ∈ fU r))) (by omega) hf
      have bz:=aHb (s:=r) (o:=(eH t).filter (fun x=>decide (x ∈ fU r))) (by omega)
      have fin:∀ o:Option Tree,cD (pkT o).1≤38700018→cD (pkI (o.map fun u=>(u,aCp t [l.fA,l.fB]))).1≤38700018∧(pkI (o.map fun u=>(u,aCp t [l.fA,l.fB]))).2.1.length≤11:=by
        intro o ho
        cases o with
        | none=>exact ⟨Nat.zero_le _,Nat.zero_le _⟩
        | some u=>exact ⟨ho,by simp only [Option.map_some,pkI];omega⟩
      refine ⟨?_,?_,fin _ bz⟩
      · rw [j1]
        simp only [Option.bind_some]
        cases hj:jnP r with
        | none =>
          have n1:=aD8 (s:=[]) ⟨by simp,by simp⟩
          have kS:=aFU (eH t) [] (by omega) (by simp)
          obtain ⟨b3,_⟩:=aE2 r ((eH t).filter (fun x=>decide (x ∈ ([]:List Int)))) (by omega) (Nat.le_trans (List.length_filter_le _ _) (by omega))
          have z1:∀ o,qG r o=none:=fun o=>by unfold qG;rw [hj];rfl
          rw [z1] at b3 ⊢
          simp only [pk,n1,aJt,Option.bind_some,o1,kS,b3];rfl
        | some x =>
          obtain ⟨u,e⟩:=x
          have n1:=aD8 (aCZ hj).2.1
          have kS:=aFU (eH t) (fU r) (by omega) (by omega)
          simp only [pk,n1,aIu hj,Option.bind_some,o1,kS,b1,a1]
          cases qG r ((eH t).filter (fun x=>decide (x ∈ fU r))) with
          | none=>rfl
          | some u=>rfl
      · simp only [nI,Option.bind_some,kI,b2,a2]
        cases qG r ((eH t).filter (fun x=>decide (x ∈ fU r))) with
        | none=>rfl
        | some u=>rfl
    · have eP:aGb t l=none:=by unfold aGb;rw [if_neg (fun h=>d h.2)]
      rw [eP,if_pos (by omega),if_pos (by omega)]
      exact ⟨rfl,rfl,Nat.zero_le _,Nat.zero_le _⟩
  · have eP:aGb t l=none:=by unfold aGb;rw [if_neg (fun h=>c h.1)]
    rw [decide_eq_false c,eP]
    exact ⟨rfl,rfl,Nat.zero_le _,Nat.zero_le _⟩
theorem aL5 (t:Tree) (l:Link) (ot:aDV t) (ol:zU l):jT t l=some true:=by
  unfold jT
  rw [aJ6 t ot _ (by omega) (by omega)]
  simp only [Option.bind_some]
  by_cases h:(cD t:Int)≤1048576
  · rw [if_pos h,if_neg (by omega),aHq l ol _ (by omega) (by omega)]
    simp only [Option.bind_some]
    by_cases g:(aX l:Int)≤1048576 - (cD t:Int)
    · rw [if_pos g,if_neg (by omega)]
      obtain ⟨e1,e2,z1,z2⟩:=aN7 t l (by omega)
      generalize pkI (aGb t l)=r at e1 e2 z1 z2
      have so:fI r.2.1=r.2.1.length:=oV _
      obtain ⟨k1,x1,m1,_,m3,m4⟩:=aEU t 1 (by omega) (by omega)
      obtain ⟨k2,x2,n1,n2,n3⟩:=aKm l k1 (by omega) (by omega)
      obtain ⟨k3,x3,p1,p2,p3,p4⟩:=aEU r.1 1 (by omega) (by omega)
      obtain ⟨k4,x4,q1,q2,q3,q4,_⟩:=iX r.2.1 k3 (by omega) (by omega)
      have c2:¬k2 < 0:=by omega
      have c3:¬k3 < 0:=by omega
      have c4:¬k4 < 0:=by omega
      simp only [aJ4 t (by omega),aHo l (by omega),e1,e2,Option.bind_some,aEW t (by omega),aH0 l (by omega),aEW r.1 (by omega),aEX r.2.1 (by omega),m1,n1,p1,p2,q1,q2,c2,c3,c4,if_true,if_false,beq_self_eq_true,Bool.not_true,Bool.false_eq_true,ne_eq,not_true_eq_false]
    · rw [if_neg g,if_pos (by omega)]
  · rw [if_neg h,if_pos (by omega)]
end Go.Ev
