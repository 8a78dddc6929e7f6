/- Parts VQ, VR. -/
import Derived.Test.YtachfjpemagdiaaGreatPb4
set_option linter.all false
/- The cliques of a tree, step by step. -/
namespace Go.Ev
set_option linter.all false
set_option maxHeartbeats 1000000
theorem aGc (l:List Clique) (v:Int) (hl:l.length≤1000) (hf:∀ c ∈ l,c.fFrontal.length≤1000000):∃ r:Int,lG l v=some r∧((r=-1∧∀ c ∈ l,v ∉ c.fFrontal)∨∃ (j:Nat) (h:j < l.length),r=j∧v ∈ (l[j]).fFrontal):=by
  have main:∀ m k:Nat,m+k=l.length→∃ x,lp (jN l v) (k:Int)=some x∧((x=.inl ()∧∀ c ∈ l.drop k,v ∉ c.fFrontal)∨∃ (j:Nat) (h:j < l.length),x=.inr (j:Int)∧v ∈ (l[j]).fFrontal):=by
    intro m
    induction m with
    | zero =>
      intro k hk
      exact ⟨.inl (),aH (by unfold jN;rw [if_neg (by omega)]),.inl ⟨rfl,by rw [List.drop_eq_nil_of_le (by omega)];simp⟩⟩
    | succ m ih =>
      intro k hk
      have hlt:k < l.length:=by omega
      have h1:=hf _ (List.getElem_mem hlt)
      by_cases c:v ∈ (l[k]).fFrontal
      · refine ⟨.inr (k:Int),aH ?_,.inr ⟨k,hlt,rfl,c⟩⟩
        unfold jN
        rw [if_pos (by omega),aF hlt]
        simp only [Option.bind_some,wJ _ v (by omega:(l[k]).fFrontal.length≤4294967296),decide_eq_true c,if_true]
      · obtain ⟨x,e1,e2⟩:=ih (k+1) (by omega)
        refine ⟨x,?_,?_⟩
        · rw [aQ (s':=((k+1:Nat):Int)),e1]
          unfold jN
          rw [if_pos (by omega),aF hlt]
          simp only [Option.bind_some,wJ _ v (by omega:(l[k]).fFrontal.length≤4294967296),decide_eq_false c,Bool.false_eq_true,if_false,wi1 (by omega:k≤4294967296)]
        · rcases e2 with ⟨a,b⟩ | b
          · refine .inl ⟨a,fun y hy=>?_⟩
            rw [List.drop_eq_getElem_cons hlt] at hy
            rcases List.mem_cons.1 hy with rfl | hy
            · exact c
            · exact b y hy
          · exact .inr b
  obtain ⟨x,e1,e2⟩:=main l.length 0 (by omega)
  rw [show ((0:Nat):Int)=0 from rfl] at e1
  unfold lG
  rw [e1]
  rcases e2 with ⟨rfl,b⟩ | ⟨j,h,rfl,g⟩
  · exact ⟨-1,rfl,.inl ⟨rfl,by simpa using b⟩⟩
  · exact ⟨j,rfl,.inr ⟨j,h,rfl,g⟩⟩
structure InvQ (l:List QL) (o r:List Int) (out:List Clique):Prop where
  len:out.length≤r.length
  sz:bM out≤20010*r.length
  cov:∀ v ∈ r,∃ c ∈ out,v ∈ c.fFrontal
  sub:∀ c ∈ out,(∀ x ∈ c.fFrontal,x ∈ r)∧(∀ x ∈ c.fSeparator,x ∈ r)∧c.fFrontal≠[]
  nd:(out.flatMap (·.fFrontal)).Nodup
  up:∀ (j:Nat) (c:Clique),out[j]?=some c→-1≤c.fUp∧c.fUp < j∧∀ v ∈ c.fSeparator,∃ (k:Nat) (d:Clique),c.fUp=(k:Int)∧out[k]?=some d∧(v ∈ d.fFrontal∨v ∈ d.fSeparator)
  par:∀ c ∈ out,∀ v ∈ c.fFrontal,∀ p' r',o=p'++v::r'→∀ u ∈ psN (nxt l o v (cS l o p' [])).cond,u≠0→u ∈ c.fFrontal∨u ∈ c.fSeparator
theorem InvQ.app {l:List QL} {o r p:List Int} {out:List Clique} {v:Int} {s:List Int} {a:Int} (ho:InvQ l o r out) (e:o=p++v::r) (hnd:o.Nodup) (hs:s.length≤20000)
    (hsr:∀ x ∈ s,x ∈ r) (hps:∀ u ∈ psN (nxt l o v (cS l o p [])).cond,u≠0→u ∈ s) (ha:(a=-1∧s=[])∨∃ (j:Nat) (d:Clique),a=(j:Int)∧out[j]?=some d∧∀ x ∈ s,x ∈ d.fFrontal∨x ∈ d.fSeparator):InvQ l o (v::r) (out++[⟨[v],s,a⟩]):=by
  have hl:=ho.len
  have hz:=ho.sz
  have nv:v ∉ r:=by
    rw [e] at hnd
    exact (List.nodup_cons.1 (List.nodup_append.1 hnd).2.1).1
  refine ⟨by simpa using hl,?_,fun u hu=>?_,fun c hc=>?_,?_,fun j c hj=>?_,fun c hc u hu p' r' e' w hw h0=>?_⟩
  · rw [aGp,aMH]
    simp only [List.length_cons,List.length_nil]
    omega
  · rcases List.mem_cons.1 hu with rfl | hu
    · exact ⟨⟨[u],s,a⟩,by simp,by simp⟩
    · obtain ⟨c,hc,h⟩:=ho.cov u hu
      exact ⟨c,by simp [hc],h⟩
  · rcases List.mem_append.1 hc with hc | hc
    · obtain ⟨h1,h2,h3⟩:=ho.sub c hc
      exact ⟨fun x hx=>List.mem_cons_of_mem _ (h1 x hx),fun x hx=>List.mem_cons_of_mem _ (h2 x hx),h3⟩
    · rw [List.mem_singleton.1 hc]
      exact ⟨fun x hx=>by simp at hx;simp [hx],fun x hx=>List.mem_cons_of_mem _ (hsr x hx),by simp⟩
  · rw [List.flatMap_append,List.nodup_append]
    refine ⟨ho.nd,by simp,fun x hx y hy=>?_⟩
    obtain ⟨c,hc,h⟩:=List.mem_flatMap.1 hx
    have h1:=(ho.sub c hc).1 x h
    simp at hy
    rintro rfl
    rw [hy] at h1;exact nv h1
  · have old:∀ (k:Nat) (d:Clique),out[k]?=some d→(out++[⟨[v],s,a⟩])[k]?=some d:=fun k d hk=>by
      have:k < out.length:=(List.getElem?_eq_some_iff.1 hk).1
      rw [List.getElem?_append_left this];exact hk
    by_cases c1:j < out.length
    · rw [List.getElem?_append_left c1] at hj
      obtain ⟨h1,h2,h3⟩:=ho.up j c hj
      refine ⟨h1,h2,fun x hx=>?_⟩
      obtain ⟨k,d,g1,g2,g3⟩:=h3 x hx
      exact ⟨k,d,g1,old k d g2,g3⟩
    · rw [List.getElem?_append_right (by omega)] at hj
      have hj0:j=out.length:=by
        have:=(List.getElem?_eq_some_iff.1 hj).1
        simp at this;omega
      subst hj0
      simp at hj
      subst hj
      rcases ha with ⟨rfl,rfl⟩ | ⟨k,d,rfl,h2,h3⟩
      · exact ⟨Int.le_refl _,by show (-1:Int) < _;omega,by simp⟩
      · have:=(List.getElem?_eq_some_iff.1 h2).1
        exact ⟨by show (-1:Int)≤(k:Int);omega,by show (k:Int) < _;omega,fun x hx=>⟨k,d,rfl,old k d h2,h3 x hx⟩⟩
  · rcases List.mem_append.1 hc with hc | hc
    · exact ho.par c hc u hu p' r' e' w hw h0
    · rw [List.mem_singleton.1 hc] at hu ⊢
      simp at hu
      subst hu
      obtain ⟨g1,g2⟩:=aAS (by rw [← e];exact hnd) (e.symm.trans e')
      rw [← g1] at hw
      exact .inr (hps w hw h0)
theorem aH0 {out:List Clique} {j:Nat} {d:Clique} {v:Int} (hj:out[j]?=some d) (s:List Int) (a:Int):((out.set j ⟨v::d.fFrontal,s,a⟩).flatMap (·.fFrontal)).Perm (v::out.flatMap (·.fFrontal)):=by
  obtain ⟨hlt,hd⟩:=List.getElem?_eq_some_iff.1 hj
  have e:out=out.take j++d::out.drop (j+1):=by rw [← hd,← List.drop_eq_getElem_cons hlt,List.take_append_drop]
  rw [List.set_eq_take_append_cons_drop,if_pos hlt]
  rw [List.flatMap_append,List.flatMap_cons]
  have e2:out.flatMap (·.fFrontal)=(out.take j).flatMap (·.fFrontal)++(d.fFrontal++(out.drop (j+1)).flatMap (·.fFrontal)):=by
    conv=>lhs;rw [e]
    rw [List.flatMap_append,List.flatMap_cons]
  rw [e2]
  exact List.perm_middle
theorem InvQ.set {l:List QL} {o r p:List Int} {out:List Clique} {v:Int} {j:Nat} {d:Clique} (ho:InvQ l o r out) (e:o=p++v::r) (hnd:o.Nodup) (hj:out[j]?=some d)
    (hps:∀ u ∈ psN (nxt l o v (cS l o p [])).cond,u≠0→u ∈ d.fFrontal∨u ∈ d.fSeparator):InvQ l o (v::r) (out.set j ⟨v::d.fFrontal,d.fSeparator,d.fUp⟩):=by
  have hl:=ho.len
  have hz:=ho.sz
  obtain ⟨hlt,hd⟩:=List.getElem?_eq_some_iff.1 hj
  have hdm:d ∈ out:=List.mem_of_getElem? hj
  have nv:v ∉ r:=by
    rw [e] at hnd
    exact (List.nodup_cons.1 (List.nodup_append.1 hnd).2.1).1
  have mem:∀ c ∈ out.set j ⟨v::d.fFrontal,d.fSeparator,d.fUp⟩,c ∈ out∨c=⟨v::d.fFrontal,d.fSeparator,d.fUp⟩:=fun c hc=>List.mem_or_eq_of_mem_set hc
  have here:(⟨v::d.fFrontal,d.fSeparator,d.fUp⟩:Clique) ∈ out.set j ⟨v::d.fFrontal,d.fSeparator,d.fUp⟩:=List.mem_set hlt _
  have grow:∀ (k:Nat) (c:Clique),out[k]?=some c→∃ c':Clique,(out.set j ⟨v::d.fFrontal,d.fSeparator,d.fUp⟩)[k]?=some c'∧c'.fUp=c.fUp∧c'.fSeparator=c.fSeparator∧∀ x ∈ c.fFrontal,x ∈ c'.fFrontal:=fun k c hk=>by
    rw [List.getElem?_set]
    by_cases c1:j=k
    · subst c1
      rw [hj] at hk
      cases hk
      exact ⟨⟨v::d.fFrontal,d.fSeparator,d.fUp⟩,by rw [if_pos rfl,if_pos hlt],rfl,rfl,fun x hx=>List.mem_cons_of_mem _ hx⟩
    · exact ⟨c,by rw [if_neg c1];exact hk,rfl,rfl,fun x hx=>hx⟩
  refine ⟨by rw [List.length_set];simp;omega,?_,fun u hu=>?_,fun c hc=>?_,?_,fun k c hk=>?_,fun c hc u hu p' r' e' w hw h0=>?_⟩
  · have:=aMG hlt ⟨v::d.fFrontal,d.fSeparator,d.fUp⟩
    rw [yC,yC,hd] at this
    simp only [List.length_cons] at this ⊢
    omega
  · rcases List.mem_cons.1 hu with rfl | hu
    · exact ⟨_,here,by simp⟩
    · obtain ⟨c,hc,h⟩:=ho.cov u hu
      obtain ⟨k,hk,rfl⟩:=List.getElem_of_mem hc
      obtain ⟨c',g1,_,_,g4⟩:=grow k _ (List.getElem?_eq_getElem hk)
      exact ⟨c',List.mem_of_getElem? g1,g4 _ h⟩
  · rcases mem c hc with hc | rfl
    · obtain ⟨h1,h2,h3⟩:=ho.sub c hc
      exact ⟨fun x hx=>List.mem_cons_of_mem _ (h1 x hx),fun x hx=>List.mem_cons_of_mem _ (h2 x hx),h3⟩
    · obtain ⟨h1,h2,h3⟩:=ho.sub d hdm
      refine ⟨fun x hx=>?_,fun x hx=>List.mem_cons_of_mem _ (h2 x hx),by simp⟩
      rcases List.mem_cons.1 hx with rfl | hx
      · simp
      · exact List.mem_cons_of_mem _ (h1 x hx)
  · rw [(aH0 hj _ _).nodup_iff,List.nodup_cons]
    refine ⟨fun hm=>?_,ho.nd⟩
    obtain ⟨c,hc,h⟩:=List.mem_flatMap.1 hm
    exact nv ((ho.sub c hc).1 v h)
  · have old:∃ c0:Clique,out[k]?=some c0∧c.fUp=c0.fUp∧c.fSeparator=c0.fSeparator:=by
      rw [List.getElem?_set] at hk
      by_cases c1:j=k
      · subst c1
        rw [if_pos rfl,if_pos hlt] at hk
        cases hk
        exact ⟨d,hj,rfl,rfl⟩
      · rw [if_neg c1] at hk
        exact ⟨c,hk,rfl,rfl⟩
    obtain ⟨c0,g1,g2,g3⟩:=old
    obtain ⟨h1,h2,h3⟩:=ho.up k c0 g1
    rw [g2,g3]
    refine ⟨h1,h2,fun x hx=>?_⟩
    obtain ⟨i,d',f1,f2,f3⟩:=h3 x hx
    obtain ⟨d2,q1,_,q3,q4⟩:=grow i d' f2
    exact ⟨i,d2,f1,q1,by rw [q3];exact f3.imp (q4 x) id⟩
  · rcases mem c hc with hc | rfl
    · exact ho.par c hc u hu p' r' e' w hw h0
    · rcases List.mem_cons.1 hu with rfl | hu
      · obtain ⟨g1,g2⟩:=aAS (by rw [← e];exact hnd) (e.symm.trans e')
        rw [← g1] at hw
        exact (hps w hw h0).imp (List.mem_cons_of_mem _) id
      · exact (ho.par d hdm u hu p' r' e' w hw h0).imp (List.mem_cons_of_mem _) id
theorem aNM {l:List QL} {o p r:List Int} {v:Int} {out:List Clique} (h:Tie l o) (e:o=p++v::r) (ho:InvQ l o r out) :
    ∃ out',eY (mM l o) ((p.length:Int),out)=some (.inl ((p.length:Int) - 1,out'))∧InvQ l o (v::r) out':=by
  have ht:=h.isTree
  obtain ⟨h9,hn⟩:=aIr ht
  have hg:=aLA (l:=l) e
  obtain ⟨hk,hgk⟩:=List.getElem?_eq_some_iff.1 hg
  obtain ⟨n1,n2,n3⟩:=hn _ (List.getElem_mem hk)
  rw [hgk] at n1 n2 n3
  generalize hN:nxt l o v (cS l o p [])=N at hg hgk n1 n2 n3
  have ti:=TInv.at h.base h.gr p.length p (v::r) rfl e
  have hnode:N.node=v:=by rw [← hN];rfl
  have hup:N.up=aY o (psN N.cond):=by rw [← hN];rfl
  have hrem:∀ u ∈ psN N.cond,u ∈ 0::r∧u≠v:=by rw [← hN];exact ti.nxt_rem h.base
  have hnup:∀ u ∈ psN N.cond,u≠0→N.up ∈ r:=fun u hu h0=>by
    have:=ti.nxt_up (u:=u) h.base (by rw [hN];exact hu) h0
    rw [hN] at this;exact this
  have r1:∀ u ∈ r,1≤u:=fun u hu=>(h.five u (by rw [e];simp [hu])).1
  have hpl:=aJB n3
  have hpos:∀ q ∈ N.toN.fCond.fParents,0≤q.fNode:=fun q hq=>by
    have:q.fNode ∈ aBb N.toN.fCond:=List.mem_map_of_mem hq
    rw [aLt] at this
    rcases List.mem_cons.1 (hrem _ this).1 with h1 | h1
    · omega
    · have:=r1 _ h1;omega
  have sI:=aNN N.toN (by omega) hpos
  have hsep:aBa N.toN.fCond=(psN N.cond).filter (fun x=>decide (0 < x)):=by unfold aBa;rw [aLt]
  have hsm:∀ x,x ∈ aBa N.toN.fCond↔x ∈ psN N.cond∧0 < x:=fun x=>by rw [hsep,List.mem_filter,decide_eq_true_eq]
  have hsr:∀ x ∈ aBa N.toN.fCond,x ∈ r:=fun x hx=>by
    obtain ⟨g1,g2⟩:=(hsm x).1 hx
    exact (List.mem_cons.1 (hrem x g1).1).resolve_left (by omega)
  have hps0:∀ u ∈ psN N.cond,u≠0→u ∈ aBa N.toN.fCond:=fun u hu h0=>(hsm u).2 ⟨hu,by
    have:=r1 u ((List.mem_cons.1 (hrem u hu).1).resolve_left h0);omega⟩
  have hsl:(aBa N.toN.fCond).length≤20000:=by
    refine Nat.le_trans (List.length_filter_le _ _) ?_
    unfold aBb;rw [List.length_map];exact hpl
  have hol:o.length≤5:=h.base.len
  have hrl:r.length+1≤5:=by rw [e] at hol;simp at hol;omega
  have hpl5:p.length≤5:=by rw [e] at hol;simp at hol;omega
  have hosz:=ho.sz
  have hlen:=ho.len
  have hfe:N.toN.fUp=N.up:=rfl
  have hfn:N.toN.fNode=v:=hnode
  obtain ⟨q,c1,c2⟩:=aGc out N.up (by omega) (fun c hc=>by have:=aI9 hc;omega)
  have cI:((if (N.toN).fUp≠0 then (lG out (N.toN).fUp).bind fun r46=>some r46 else some (-1)):Option Int)=some q:=by
    rw [hfe]
    by_cases z:N.up≠0
    · rw [if_pos z,c1];rfl
    · rw [if_neg z]
      rcases c2 with ⟨rfl,_⟩ | ⟨j,hj,rfl,g⟩
      · rfl
      · exfalso
        have:=r1 _ ((ho.sub _ (List.getElem_mem hj)).1 _ g)
        omega
  have w1:IntKind.i64.wrap ((p.length:Int) - 1)=(p.length:Int) - 1:=wi (by omega)
  have hnew:((if 0≤q then (cR out q).bind fun r50=>(gZ (aBa N.toN.fCond) r50).bind fun r51=>some r51 else some false):Option Bool)=some false →
      ((q=-1∧aBa N.toN.fCond=[])∨∃ (j:Nat) (d:Clique),q=(j:Int)∧out[j]?=some d∧∀ x ∈ aBa N.toN.fCond,x ∈ d.fFrontal∨x ∈ d.fSeparator) →
      ∃ out',eY (mM l o) ((p.length:Int),out)=some (.inl ((p.length:Int) - 1,out'))∧InvQ l o (v::r) out':=by
    intro I ha
    refine ⟨out++[⟨[v],aBa N.toN.fCond,q⟩],?_,ho.app e h.nd hsl hsr (by rw [hN];exact hps0) ha⟩
    unfold eY
    simp only []
    rw [if_pos (by omega),aF hk,hgk]
    simp only [Option.bind_some,sI]
    rw [cI]
    simp only [Option.bind_some]
    rw [I]
    simp only [Option.bind_some,Bool.false_eq_true,if_false]
    rw [aN (by omega),w1,hfn];rfl
  rcases c2 with ⟨rfl,hno⟩ | ⟨j,hj,rfl,g⟩
  · refine hnew (by rw [if_neg (by omega)]) (.inl ⟨rfl,?_⟩)
    rw [List.eq_nil_iff_forall_not_mem]
    intro x hx
    obtain ⟨g1,g2⟩:=(hsm x).1 hx
    obtain ⟨c,hc,g3⟩:=ho.cov _ (hnup x g1 (by omega))
    exact hno c hc g3
  · have hcm:=aI9 (List.getElem_mem hj)
    have hjg:out[j]?=some out[j]:=List.getElem?_eq_getElem hj
    have hall:∀ x ∈ aBa N.toN.fCond,x ∈ (out[j]).fFrontal∨x ∈ (out[j]).fSeparator:=fun x hx=>by
      obtain ⟨g1,g2⟩:=(hsm x).1 hx
      by_cases xu:x=N.up
      · rw [xu];exact .inl g
      · have hur:=hnup x g1 (by omega)
        have hum:N.up ∈ psN N.cond:=(aF5 hup.symm (by have:=r1 _ hur;omega)).1
        obtain ⟨s1,s2,es⟩:=List.append_of_mem hur
        have e2:o=(p++v::s1)++N.up::s2:=by rw [List.append_assoc,List.cons_append,← es];exact e
        have hx2:x ∈ 0::s2:=by
          have hxr:=hsr x hx
          have hf:=(uM (p:=p++v::s1) (r:=s2) (s:=psN N.cond) (v:=N.up) (by rw [← e2];exact h.nd) (fun u hu=>by rw [← e2] at hu;exact (h.five u hu).1)).1 (by rw [← e2];exact hup.symm)
          rw [es] at hxr
          rcases List.mem_append.1 hxr with h1 | h1
          · exact absurd g1 (hf.2 x (by simp [h1]))
          · exact List.mem_cons_of_mem _ ((List.mem_cons.1 h1).resolve_left xu)
        have:=anc h r.length p v r (Nat.le_refl _) e N.up x (by rw [hN];exact hum) (by rw [hN];exact g1) xu _ _ e2 hx2
        exact ho.par _ (List.getElem_mem hj) _ g _ _ e2 x this (by omega)
    have q2:=mY out (j:Int) (by omega)
    have q3:zC out (j:Int)=gD out[j]:=by
      unfold zC
      rw [if_pos (by omega),Int.toNat_natCast,List.getElem?_eq_getElem hj]
    have I:((if 0≤(j:Int) then (cR out (j:Int)).bind fun r50=>(gZ (aBa N.toN.fCond) r50).bind fun r51=>some r51 else some false):Option Bool)=some (decide (aBa N.toN.fCond=gD out[j])):=by
      rw [if_pos (by omega),q2,q3]
      simp only [Option.bind_some,aBA _ _ (by omega:(aBa N.toN.fCond).length≤4294967296)]
    by_cases c:aBa N.toN.fCond=gD out[j]
    · rw [decide_eq_true c] at I
      refine ⟨out.set j ⟨v::(out[j]).fFrontal,(out[j]).fSeparator,(out[j]).fUp⟩,?_,ho.set e h.nd hjg (by rw [hN];exact fun u hu h0=>hall u (hps0 u hu h0))⟩
      unfold eY
      simp only []
      rw [if_pos (by omega),aF hk,hgk]
      simp only [Option.bind_some,sI]
      rw [cI]
      simp only [Option.bind_some]
      rw [I]
      simp only [Option.bind_some,if_true]
      rw [aF hj]
      simp only [Option.bind_some]
      rw [aN (by simp only [List.length_singleton];omega),w1,hfn];rfl
    · rw [decide_eq_false c] at I
      exact hnew I (.inr ⟨j,_,rfl,hjg,hall⟩)
end Go.Ev
/- The law of cliques. -/
namespace Go.Ev
set_option linter.all false
set_option maxHeartbeats 1000000
theorem aMd {l:List QL} {o:List Int} (h:Tie l o):∀ (n:Nat) (p r:List Int) (out:List Clique),p.length=n→o=p++r→InvQ l o r out→∃ res,lp (eY (mM l o)) ((p.length:Int) - 1,out)=some res∧InvQ l o o res:=by
  intro n
  induction n with
  | zero =>
    intro p r out hn e ho
    have:p=[]:=List.length_eq_zero_iff.1 hn
    subst this
    rw [List.nil_append] at e
    rw [← e] at ho
    exact ⟨out,aH (by unfold eY;simp only [];rw [if_neg (by simp)]),ho⟩
  | succ n ih =>
    intro p r out hn e ho
    rcases List.eq_nil_or_concat p with rfl | ⟨q,v,rfl⟩
    · simp at hn
    rw [List.concat_eq_append] at hn e ⊢
    have eo:o=q++v::r:=by rw [e,List.append_assoc];rfl
    obtain ⟨out',e1,h1⟩:=aNM h eo ho
    obtain ⟨res,e2,h2⟩:=ih q (v::r) out' (by simpa using hn) eo h1
    refine ⟨res,?_,h2⟩
    have el:(((q++[v]).length:Nat):Int) - 1=(q.length:Int):=by rw [List.length_append,List.length_singleton];omega
    rw [el,aQ e1]
    exact e2
theorem aN6 {l:List QL} {o:List Int} (h:Tie l o):∃ res,pJ (mM l o)=some res∧InvQ l o o res:=by
  obtain ⟨res,e,hr⟩:=aMd h o.length o [] [] rfl (by simp) ⟨by simp,by simp [bM,aBQ],by simp,by simp,by simp,by simp,by simp⟩
  refine ⟨res,?_,hr⟩
  have hz:=h.tsz
  have ol:=h.base.len
  unfold pJ
  rw [aMy _ (by omega),decide_eq_true h.isTree]
  simp only [Option.bind_some,if_true,aO]
  rw [aFS,wi (n:=(o.length:Int) - 1) (by omega),e]
  rfl
theorem aIY (y:Clique) (S:List Int) (hn:(S++y.fFrontal).Nodup) (hz:S.length+y.fFrontal.length≤4294967296):lp (dU y) (0,S)=some (.inl (S++y.fFrontal)):=by
  have main:∀ m k:Nat,m+k=y.fFrontal.length→lp (dU y) ((k:Int),S++y.fFrontal.take k)=some (.inl (S++y.fFrontal)):=by
    intro m
    induction m with
    | zero =>
      intro k hk
      have:k=y.fFrontal.length:=by omega
      subst this
      rw [List.take_length]
      exact aH (by unfold dU;simp only [];rw [if_neg (by omega)])
    | succ m ih =>
      intro k hk
      have hlt:k < y.fFrontal.length:=by omega
      have ht:y.fFrontal.take (k+1)=y.fFrontal.take k++[y.fFrontal[k]]:=by rw [List.take_add_one,List.getElem?_eq_getElem hlt];rfl
      have hno:y.fFrontal[k] ∉ S++y.fFrontal.take k:=by
        have e:S++y.fFrontal=(S++y.fFrontal.take k)++y.fFrontal[k]::y.fFrontal.drop (k+1):=by
          rw [List.append_assoc,← List.drop_eq_getElem_cons hlt,List.take_append_drop]
        rw [e] at hn
        intro hm
        exact (List.nodup_append.1 hn).2.2 _ hm _ (List.mem_cons_self) rfl
      have hlen:(S++y.fFrontal.take k).length≤4294967296:=by rw [List.length_append,List.length_take];omega
      have st:dU y ((k:Int),S++y.fFrontal.take k)=some (.inl (((k+1:Nat):Int),S++y.fFrontal.take (k+1))):=by
        unfold dU
        simp only []
        rw [if_pos (by omega),aF hlt]
        simp only [Option.bind_some]
        rw [wJ _ _ hlen,decide_eq_false hno]
        simp only [Option.bind_some,Bool.false_eq_true,if_false,aO]
        rw [aN (by omega)]
        simp only [Option.bind_some]
        rw [wi (n:=(k:Int)+1) (by omega),ht,List.append_assoc]
        rfl
      rw [aQ st]
      exact ih (k+1) (by omega)
  have:=main y.fFrontal.length 0 (by omega)
  rw [show ((0:Nat):Int)=0 from rfl,List.take_zero,List.append_nil] at this
  exact this
theorem aLa (y:Clique) (N:List Int) (h:∀ v ∈ y.fSeparator,v ∈ N) (hz:N.length≤4294967296) (hs:y.fSeparator.length≤4294967296):lp (fZ y N) 0=some (.inl ()):=by
  have main:∀ m k:Nat,m+k=y.fSeparator.length→lp (fZ y N) (k:Int)=some (.inl ()):=by
    intro m
    induction m with
    | zero=>intro k hk;exact aH (by unfold fZ;rw [if_neg (by omega)])
    | succ m ih =>
      intro k hk
      have hlt:k < y.fSeparator.length:=by omega
      rw [aQ (s':=((k+1:Nat):Int))]
      · exact ih (k+1) (by omega)
      · unfold fZ
        rw [if_pos (by omega),aF hlt]
        simp only [Option.bind_some]
        rw [wJ _ _ hz,decide_eq_true (h _ (List.getElem_mem hlt))]
        simp only [Option.bind_some,if_true]
        rw [wi (n:=(k:Int)+1) (by omega)];rfl
  exact main _ 0 (Nat.add_zero _)
section
variable {l:List QL} {o r:List Int} {out:List Clique}
theorem InvQ.small (ho:InvQ l o r out) (hr:r.length≤5):bM out≤100050∧out.length≤5∧∀ c ∈ out,c.fFrontal.length≤100050∧c.fSeparator.length≤100050:=by
  have:=ho.sz
  have:=ho.len
  refine ⟨by omega,by omega,fun c hc=>?_⟩
  have:=aI9 hc
  omega
theorem aCF {j:Nat} {c:Clique} (h:out[j]?=some c):zC out (j:Int)=gD c:=by
  unfold zC
  rw [if_pos (by omega),Int.toNat_natCast,h]
theorem InvQ.isT (ho:InvQ l o r out) (hr:r.length≤5):iP out=some true:=by
  obtain ⟨z1,z2,z3⟩:=ho.small hr
  have main:∀ m k:Nat,m+k=out.length→lp (fW out) ((k:Int),(out.take k).flatMap (·.fFrontal))=some (.inl ()):=by
    intro m
    induction m with
    | zero=>intro k hk;exact aH (by unfold fW;simp only [];rw [if_neg (by omega)])
    | succ m ih =>
      intro k hk
      have hlt:k < out.length:=by omega
      have hg:=List.getElem?_eq_getElem hlt
      obtain ⟨u1,u2,u3⟩:=ho.up k _ hg
      obtain ⟨f1,f2⟩:=z3 _ (List.getElem_mem hlt)
      obtain ⟨_,_,ne⟩:=ho.sub _ (List.getElem_mem hlt)
      have npos:=List.length_pos_iff.2 ne
      have ht:out.take (k+1)=out.take k++[out[k]]:=by rw [List.take_add_one,hg];rfl
      have e2:(out.take (k+1)).flatMap (·.fFrontal)=(out.take k).flatMap (·.fFrontal)++(out[k]).fFrontal:=by
        rw [ht,List.flatMap_append,List.flatMap_cons,List.flatMap_nil,List.append_nil]
      have hnd:((out.take k).flatMap (·.fFrontal)++(out[k]).fFrontal).Nodup:=by
        rw [← e2]
        refine ho.nd.sublist ?_
        have:out.flatMap (·.fFrontal)=(out.take (k+1)).flatMap (·.fFrontal)++(out.drop (k+1)).flatMap (·.fFrontal):=by rw [← List.flatMap_append,List.take_append_drop]
        rw [this];exact List.sublist_append_left _ _
      have hfl:((out.take k).flatMap (·.fFrontal)).length+(out[k]).fFrontal.length≤4294967296:=by
        have hs:∀ x ∈ (out.take k).flatMap (·.fFrontal)++(out[k]).fFrontal,x ∈ r:=fun x hx=>by
          rcases List.mem_append.1 hx with hx | hx
          · obtain ⟨c,hc,h⟩:=List.mem_flatMap.1 hx
            exact (ho.sub c (List.mem_of_mem_take hc)).1 x h
          · exact (ho.sub _ (List.getElem_mem hlt)).1 x hx
        have:=hnd.length_le_of_subset hs
        rw [List.length_append] at this;omega
      have hN:cR out (out[k]).fUp=some (zC out (out[k]).fUp):=mY out _ (by omega)
      have hNl:=aIL out (out[k]).fUp
      have st:fW out ((k:Int),(out.take k).flatMap (·.fFrontal))=some (.inl (((k+1:Nat):Int),(out.take (k+1)).flatMap (·.fFrontal))):=by
        unfold fW
        simp only []
        rw [if_pos (by omega),aF hlt]
        simp only [Option.bind_some]
        rw [if_neg (by omega),if_neg (by omega),decide_eq_false (by omega)]
        simp only [Option.bind_some,Bool.false_eq_true,if_false]
        rw [aIY _ _ hnd hfl]
        simp only [Option.bind_some]
        rw [hN]
        simp only [Option.bind_some]
        rw [aLa _ _ (fun v hv=>by
          obtain ⟨i,d,g1,g2,g3⟩:=u3 v hv
          rw [g1,aCF g2,(mP d).2.1];exact g3) (by omega) (by omega)]
        simp only [Option.bind_some]
        rw [wi (n:=(k:Int)+1) (by omega),e2]
        rfl
      rw [aQ st]
      exact ih (k+1) (by omega)
  have:=main out.length 0 (by omega)
  unfold iP
  rw [show ((0:Nat):Int)=0 from rfl] at this
  rw [show (([]:List Int))=(out.take 0).flatMap (·.fFrontal) from rfl,this]
  rfl
theorem InvQ.depth (ho:InvQ l o r out) (hr:r.length≤5) {k:Nat} (hk:k < out.length):∃ d:Int,mE out (k:Int)=some d∧1≤d:=by
  obtain ⟨z1,z2,z3⟩:=ho.small hr
  have main:∀ (n:Nat) (a d:Int),-1≤a→a < (n:Int)→a < (out.length:Int)→0≤d→d+n≤1000→∃ d',lp (eI out) (a,d)=some d'∧d≤d':=by
    intro n
    induction n with
    | zero=>intro a d h1 h2 h3 h4 h5;exact ⟨d,aH (by unfold eI;simp only [];rw [if_neg (by omega)]),Int.le_refl _⟩
    | succ n ih =>
      intro a d h1 h2 h3 h4 h5
      by_cases c:0≤a
      · obtain ⟨j,rfl⟩:=Int.eq_ofNat_of_zero_le c
        have hlt:j < out.length:=by omega
        obtain ⟨u1,u2,_⟩:=ho.up j _ (List.getElem?_eq_getElem hlt)
        obtain ⟨d',e1,e2⟩:=ih (out[j]).fUp (d+1) u1 (by omega) (by omega) (by omega) (by omega)
        refine ⟨d',?_,by omega⟩
        rw [aQ (s':=((out[j]).fUp,d+1)),e1]
        unfold eI
        simp only []
        rw [if_pos (by omega),aF hlt]
        simp only [Option.bind_some]
        rw [wi (n:=d+1) (by omega)]
      · exact ⟨d,aH (by unfold eI;simp only [];rw [if_neg (by omega)]),Int.le_refl _⟩
  obtain ⟨u1,u2,_⟩:=ho.up k _ (List.getElem?_eq_getElem hk)
  obtain ⟨d',e1,e2⟩:=main out.length (out[k]).fUp 1 u1 (by omega) (by omega) (by omega) (by omega)
  refine ⟨d',?_,e2⟩
  unfold mE
  rw [ho.isT hr]
  simp only [Option.bind_some,if_true]
  rw [if_neg (by omega),decide_eq_false (by omega)]
  simp only [Option.bind_some,Bool.false_eq_true,if_false]
  rw [aQ (s':=((out[k]).fUp,(1:Int))),e1]
  · rfl
  · unfold eI
    simp only []
    rw [if_pos (by omega),aF hk]
    simp only [Option.bind_some]
    rw [wi (n:=(0:Int)+1) (by omega)];rfl
theorem InvQ.width (ho:InvQ l o r out) (hr:r.length≤5):∃ w:Int,kV out=some w∧w≤(r.length:Int):=by
  obtain ⟨z1,z2,z3⟩:=ho.small hr
  have main:∀ (m k:Nat) (w:Int),m+k=out.length→w≤(r.length:Int)→∃ w',lp (iH out) (w,(k:Int))=some w'∧w'≤(r.length:Int):=by
    intro m
    induction m with
    | zero=>intro k w hk hw;exact ⟨w,aH (by unfold iH;simp only [];rw [if_neg (by omega)]),hw⟩
    | succ m ih =>
      intro k w hk hw
      have hlt:k < out.length:=by omega
      have hg:=List.getElem?_eq_getElem hlt
      have hle:(gD out[k]).length≤r.length:=by
        have nd:(gD out[k]).Nodup:=(mP out[k]).1.imp (fun h=>by omega)
        refine nd.length_le_of_subset fun x hx=>?_
        obtain ⟨h1,h2,_⟩:=ho.sub _ (List.getElem_mem hlt)
        rcases ((mP out[k]).2.1 x).1 hx with h | h
        · exact h1 x h
        · exact h2 x h
      obtain ⟨w',e1,e2⟩:=ih (k+1) (max w ((gD out[k]).length:Int)) (by omega) (by omega)
      refine ⟨w',?_,e2⟩
      rw [aQ (s':=(max w ((gD out[k]).length:Int),((k+1:Nat):Int))),e1]
      unfold iH
      simp only []
      rw [if_pos (by omega),mY out _ (by omega),aCF hg]
      simp only [Option.bind_some]
      rw [wi (n:=(k:Int)+1) (by omega)];rfl
  obtain ⟨w',e1,e2⟩:=main out.length 0 0 (by omega) (by omega)
  refine ⟨w',?_,e2⟩
  unfold kV
  rw [show ((0:Nat):Int)=0 from rfl] at e1
  rw [e1];rfl
theorem aIZ (ho:InvQ l o r out) (hr:r.length≤5) (x:Link) (hx:∃ c ∈ out,(x.fA=0∨x.fA ∈ gD c)∧x.fB ∈ gD c):lp (gE out x) (false,0)=some true:=by
  obtain ⟨z1,z2,z3⟩:=ho.small hr
  have main:∀ (m k:Nat) (f:Bool),m+k=out.length→(f=true∨∃ c ∈ out.drop k,(x.fA=0∨x.fA ∈ gD c)∧x.fB ∈ gD c)→lp (gE out x) (f,(k:Int))=some true:=by
    intro m
    induction m with
    | zero =>
      intro k f hk hf
      rw [List.drop_eq_nil_of_le (by omega)] at hf
      have:f=true:=hf.resolve_right (by simp)
      subst this
      exact aH (by unfold gE;simp only [];rw [if_neg (by omega)])
    | succ m ih =>
      intro k f hk hf
      have hlt:k < out.length:=by omega
      have hg:=List.getElem?_eq_getElem hlt
      rw [List.drop_eq_getElem_cons hlt] at hf
      have hnl:(gD out[k]).length≤4294967296:=by
        have:=(mP out[k]).2.2
        have:=z3 _ (List.getElem_mem hlt)
        omega
      have w:IntKind.i64.wrap ((k:Int)+1)=((k+1:Nat):Int):=wi (by omega)
      have st:gE out x (f,(k:Int))=some (.inl (f||decide ((x.fA=0∨x.fA ∈ gD out[k])∧x.fB ∈ gD out[k]),((k+1:Nat):Int))):=by
        unfold gE
        simp only []
        rw [if_pos (by omega),mY out _ (by omega),aCF hg]
        simp only [Option.bind_some]
        rw [w]
        cases f with
        | true=>simp
        | false =>
          simp only [Bool.false_eq_true,if_false,Bool.false_or]
          rw [aJQ _ _ hnl,aJQ _ _ hnl]
          simp only [Option.bind_some]
          by_cases c0:x.fA=0
          · by_cases cb:x.fB ∈ gD out[k]
            · simp [c0,cb]
            · simp [c0,cb]
          · by_cases ca:x.fA ∈ gD out[k]
            · by_cases cb:x.fB ∈ gD out[k]
              · simp [c0,ca,cb]
              · simp [c0,ca,cb]
            · simp [c0,ca]
      rw [aQ st]
      refine ih (k+1) _ (by omega) ?_
      rcases hf with rfl | ⟨c,hc,h⟩
      · exact .inl rfl
      · rcases List.mem_cons.1 hc with rfl | hc
        · left;rw [decide_eq_true h];simp
        · exact .inr ⟨c,hc,h⟩
  exact main out.length 0 false (by omega) (.inr (by simpa using hx))
end
theorem aMV {l:List QL} {o:List Int} {out:List Clique} (h:Tie l o) (ho:InvQ l o o out) {x:QL} (hx:x ∈ yO l o):∃ c ∈ out,(x.a=0∨x.a ∈ gD c)∧x.b ∈ gD c:=by
  unfold yO at hx
  obtain ⟨v,hv,hm⟩:=List.mem_flatMap.1 hx
  have hxl:=(List.mem_filter.1 hm).1
  obtain ⟨p,r,e⟩:=List.append_of_mem hv
  have hlk:=(h.lk x hxl).1
  have hown:=(aB2 (by rw [← e];exact h.nd) (fun u hu=>by rw [← e] at hu;exact (h.five u hu).1)).1 (by rw [← e];exact (List.mem_filter.1 hm).2)
  obtain ⟨c,hc,hf⟩:=ho.cov v hv
  have inC:∀ u,u ∈ c.fFrontal∨u ∈ c.fSeparator→u ∈ gD c:=fun u hu=>((mP c).2.1 u).2 hu
  have hps:∀ u,(x.a=v∧x.b=u)∨(x.a=u∧x.b=v)→u≠0→u ∈ gD c:=fun u hu h0 =>
    inC u (ho.par c hc v hf p r e u (aBC (List.mem_append_left _ hm) hlk.2.1 hu) h0)
  refine ⟨c,hc,?_⟩
  rcases hown.1 with h1 | h1
  · exact ⟨.inr (inC _ (.inl (by rw [h1];exact hf))),hps x.b (.inl ⟨h1,rfl⟩) (by omega)⟩
  · refine ⟨?_,inC _ (.inl (by rw [h1];exact hf))⟩
    by_cases c0:x.a=0
    · exact .inl c0
    · exact .inr (hps x.a (.inr ⟨rfl,h1⟩) c0)
theorem aMC (code:List Int) (_:okL (okI .u8) code):sR code=some true:=by
  unfold sR
  by_cases big:(1048576:Int) < (code.length:Int)
  · rw [if_pos big]
  rw [if_neg big]
  obtain ⟨n,l,o,e1,hl,hn,ht⟩:=aNL code (by omega)
  obtain ⟨res,e2,ho⟩:=aN6 ht
  have hz:=ht.tsz
  have ol:=ht.base.len
  have nl:=aFS l o
  obtain ⟨z1,z2,z3⟩:=ho.small ol
  have hO:=aJC (mM l o) (by omega)
  rw [aDX] at hO
  have hL:=aJP (mM l o) (by omega)
  rw [aDW] at hL
  have one:∃ v,v ∈ o:=by
    obtain ⟨x,hx⟩:∃ x,x ∈ l:=by
      obtain ⟨x,hx,_⟩:=hl.all 1 (by omega) (by omega)
      exact ⟨x,hx⟩
    exact ⟨x.b,(ht.mem _).2 ⟨by have:=(ht.lk x hx).1;omega,x,hx,.inr rfl⟩⟩
  have npos:0 < res.length:=by
    obtain ⟨v,hv⟩:=one
    obtain ⟨c,hc,_⟩:=ho.cov v hv
    exact List.length_pos_of_mem hc
  rw [e1];simp only [Option.bind_some]
  rw [e2];simp only [Option.bind_some]
  rw [if_neg (by omega),ho.isT ol]
  simp only [Option.bind_some,Bool.not_true,Bool.false_eq_true,if_false]
  rw [hO];simp only [Option.bind_some]
  have loop1:∀ m j:Nat,m+j=o.length→lp (kQ o res) (j:Int)=some (.inl ()):=by
    intro m
    induction m with
    | zero=>intro j hj;exact aH (by unfold kQ;rw [if_neg (by omega)])
    | succ m ih =>
      intro j hj
      have hlt:j < o.length:=by omega
      rw [aQ (s':=((j+1:Nat):Int))]
      · exact ih (j+1) (by omega)
      · obtain ⟨q,c1,c2⟩:=aGc res o[j] (by omega) (fun c hc=>by have:=(z3 c hc).1;omega)
        rcases c2 with ⟨_,hno⟩ | ⟨i,hi,rfl,_⟩
        · obtain ⟨c,hc,hf⟩:=ho.cov _ (List.getElem_mem hlt)
          exact absurd hf (hno c hc)
        · obtain ⟨d,d1,d2⟩:=ho.depth ol hi
          unfold kQ
          rw [if_pos (by omega),aF hlt]
          simp only [Option.bind_some]
          rw [c1]
          simp only [Option.bind_some]
          rw [if_neg (by omega),d1]
          simp only [Option.bind_some]
          rw [decide_eq_false (by omega)]
          simp only [Option.bind_some,Bool.false_eq_true,if_false]
          rw [wi (n:=(j:Int)+1) (by omega)];rfl
  have l1:=loop1 o.length 0 (by omega)
  rw [show ((0:Nat):Int)=0 from rfl] at l1
  rw [l1];simp only [Option.bind_some]
  rw [hL];simp only [Option.bind_some]
  have il:(yO l o).length≤8:=by rw [aKx ht];exact ht.len
  have loop2:∀ m j:Nat,m+j=(yO l o).length→lp (kP ((yO l o).map QL.toL) res) (j:Int)=some (.inl ()):=by
    intro m
    induction m with
    | zero=>intro j hj;exact aH (by unfold kP;rw [if_neg (by rw [List.length_map];omega)])
    | succ m ih =>
      intro j hj
      have hlt:j < (yO l o).length:=by omega
      rw [aQ (s':=((j+1:Nat):Int))]
      · exact ih (j+1) (by omega)
      · unfold kP
        rw [if_pos (by rw [List.length_map];omega),aF (by rw [List.length_map];exact hlt),List.getElem_map]
        simp only [Option.bind_some]
        rw [aIZ ho ol _ (aMV ht ho (List.getElem_mem hlt))]
        simp only [Option.bind_some,if_true]
        rw [wi (n:=(j:Int)+1) (by omega)];rfl
  have l2:=loop2 (yO l o).length 0 (by omega)
  rw [show ((0:Nat):Int)=0 from rfl] at l2
  rw [l2];simp only [Option.bind_some]
  obtain ⟨w,w1,w2⟩:=ho.width ol
  rw [w1];simp only [Option.bind_some]
  rw [nl,decide_eq_true w2]
end Go.Ev
