/- Parts VY, VZ, CA, CB, PU1, PU2, PU3, PU4, CC, VM, VN, VO, WA, WB, WC, CF, CG, CD, CE, CH. -/
import Derived.Test.YtlhoochohnnepaaGreatPb4
import Derived.Test.YtlhoochohnnepaaGreatPb1
import Derived.Test.YtlhoochohnnepaaGreatPb2
set_option linter.all false
/- A tree solved: the program. -/
namespace Go.Ev
set_option linter.all false
set_option maxHeartbeats 1000000
def sX (b:List NQ):List Conditional:=b.map fun n=>n.cond.toC
structure NetB (b:List NQ):Prop where
 dn:Dn b
 len:b.length<=5
 nb:aAV 0 b
 each:∀ n∈b,cY n.cond.toC=some true/\(1<=n.node/\n.node<=9)/\∀ u∈psN n.cond,u=0\/∃ c∈b,c.node=u
theorem Tie.netB {l:List QL}{o:List Int}(h:Tie l o):NetB (bO l o o []):=by
 obtain⟨d,f⟩:=h.dn
 refine⟨d,?_,aD1 h.base h.gr o.length o [] rfl (by simp),fun n hn=>⟨?_,?_,fun u hu=>?_⟩⟩
 · rw[aBF];have:=h.base.len;simpa using this
 · have hm:n.toN∈(dX l o).fNodes:=List.mem_map_of_mem hn
   obtain⟨_,n2,n3⟩:=(aE2 h.isTree).2 _ hm
   have ec:n.toN.fCond=n.cond.toC:=rfl
   rw[ec]at n2 n3
   obtain⟨b,v1,v2,_⟩:=aIA n.cond.toC (by omega)
   rw[n2]at v1
   rw[v2,<- Option.some.inj v1]
 · have:=h.five _ (f n hn).1
   omega
 · exact((f n hn).2.2 u hu).imp id xU
theorem aHe (c:CQ):c.toC.fParents.map (·.fNode)=psN c:=by
 unfold CQ.toC psN
 simp only[List.map_map]
 rfl
theorem aNr (c:Conditional)(N:List Int)(h:∀ q∈c.fParents,q.fNode∈N)(hz:N.length<=4294967296)(hs:c.fParents.length<=4294967296):lp (pD c N) 0=some (.inl ()):=by
 have main:∀ m k:Nat,m+k=c.fParents.length->lp (pD c N) (k:Int)=some (.inl ()):=by
  intro m
  induction m with
  | zero=>intro k hk;exact aJ (by unfold pD;rw[if_neg (by omega)])
  | succ m ih =>
   intro k hk
   have hlt:k<c.fParents.length:=by omega
   rw[aQ (s':=((k+1:Nat):Int))]
   · exact ih (k+1) (by omega)
   · unfold pD
     rw[if_pos (by omega),aK hlt]
     simp only[Option.bind_some]
     rw[yP _ _ hz,decide_eq_true (h _ (List.getElem_mem hlt))]
     simp only[Option.bind_some,if_true]
     rw[wi (n:=(k:Int)+1) (by omega)];rfl
 exact main _ 0 (Nat.add_zero _)
section
variable {b:List NQ}
theorem NetB.sp {b1 r:List NQ}{n:NQ}(h:NetB b)(e:b=b1++n::r):n.node∉r.map (fun c=>c.node)/\(∀ u∈psN n.cond,u=0\/∃ c∈r,c.node=u)/\n.cond.node=n.node:=by
 have hp:=h.dn.1
 have hm:n∈b:=by rw[e];simp
 rw[e,List.pairwise_append,List.pairwise_cons]at hp
 obtain⟨p1,⟨p2,p3⟩,p4⟩:=hp
 refine⟨fun hr=>?_,fun u hu=>?_,(h.dn.2 n hm).2⟩
 · obtain⟨c,hc,ec⟩:=List.mem_map.1 hr
   exact(p2 c hc).2 ec.symm
 · rcases(h.each n hm).2.2 u hu with h0 | ⟨c,hc,ec⟩
   · exact .inl h0
   · right
     rw[e]at hc
     rcases List.mem_append.1 hc with hc | hc
     · exact absurd (ec▸hu) (p4 c hc n (by simp)).1
     · rcases List.mem_cons.1 hc with rfl | hc
       · exact absurd (ec▸hu) (h.dn.2 c hm).1
       · exact⟨c,hc,ec⟩
theorem NetB.isNet (h:NetB b):vF (sX b)=some true:=by
 have hlen:=h.len
 have nl:(sX b).length=b.length:=by unfold sX;rw[List.length_map]
 have main:∀ (n:Nat) (b1 r:List NQ),b1.length=n->b=b1++r->lp (pC (sX b)) ((b1.length:Int)-1,0::(r.map fun c=>c.node).reverse)=some (.inl ()):=by
  intro n
  induction n with
  | zero =>
   intro b1 r hn e
   have:b1=[]:=List.length_eq_zero_iff.1 hn
   subst this
   exact aJ (by unfold pC;simp only[];rw[if_neg (by simp)])
  | succ n ih =>
   intro b1 r hn e
   rcases List.eq_nil_or_concat b1 with rfl | ⟨b2,x,rfl⟩
   · simp at hn
   rw[List.concat_eq_append]at hn e ⊢
   have e2:b=b2++x::r:=by rw[e,List.append_assoc];rfl
   obtain⟨s1,s2,s3⟩:=h.sp e2
   obtain⟨v1,v2,_⟩:=h.each x (by rw[e2];simp)
   have bl:b.length=b2.length+(r.length+1):=by rw[e2];simp
   have el:(((b2++[x]).length:Nat):Int)-1=(b2.length:Int):=by rw[List.length_append,List.length_singleton];omega
   have lt:b2.length<(sX b).length:=by rw[nl,e2];simp
   have hg:(sX b)[b2.length]=x.cond.toC:=by
    unfold sX
    simp only[List.getElem_map,e2]
    simp
   have hN:(0::(r.map fun c=>c.node).reverse).length<=10:=by
    have:b.length=b2.length+(r.length+1):=by rw[e2];simp
    simp;omega
   have hfn:x.cond.toC.fNode=x.node:=s3
   have hpl:x.cond.toC.fParents.length<=100:=by
    obtain⟨D,X,a,e3,ha,_⟩:=(aEk (n:=x) (k:=0) (a:=b2) (b:=x::r) (by rw[<- e2];exact h.nb)).1
    have:=aGa ha.inc fun x hx=>(ha.nd x hx).1
    rw[e3];unfold CQ.toC sF;simp;omega
   rw[el]
   have st:pC (sX b) ((b2.length:Int),0::(r.map fun c=>c.node).reverse)=some (.inl ((b2.length:Int)-1,0::((x::r).map fun c=>c.node).reverse)):=by
    unfold pC
    simp only[]
    rw[if_pos (by omega),aK lt,hg]
    simp only[Option.bind_some]
    rw[v1]
    simp only[Option.bind_some,if_true]
    rw[hfn,yP _ _ (by omega),decide_eq_false (by
     intro hm
     rcases List.mem_cons.1 hm with h0 | hm
     · omega
     · exact s1 (List.mem_reverse.1 hm))]
    simp only[Option.bind_some,Bool.false_eq_true,if_false]
    rw[aNr _ _ (fun q hq=>by
     have:q.fNode∈psN x.cond:=by rw[<- aHe];exact List.mem_map_of_mem hq
     rcases s2 _ this with h0 | ⟨c,hc,ec⟩
     · rw[h0];simp
     · refine List.mem_cons_of_mem _ (List.mem_reverse.2 ?_)
       rw[<- ec];exact List.mem_map_of_mem hc) (by omega) (by omega)]
    simp only[Option.bind_some,aL]
    rw[aO (by omega),wi (n:=(b2.length:Int)-1) (by omega)]
    simp
   rw[aQ st]
   exact ih b2 (x::r) (by simpa using hn) e2
 have:=main b.length b [] rfl (by simp)
 unfold vF
 rw[nl,wi (n:=(b.length:Int)-1) (by omega),aL]
 simp only[List.map_nil,List.reverse_nil]at this
 rw[this]
 rfl
end
theorem aRi {t:Tree}(hz:jJ t<=4294967296)(hc:∀ n∈t.fNodes,aR n.fCond<=4294967296)(hl:t.fNodes.length<=1000):uG t=some (t.fNodes.map (·.fCond)):=by
 have:=(kI (step:=oR t) t.fNodes (fun k u=>((k:Int),u)) (fun u n=>u++[n.fCond]) (fun u=>u) (fun k u=>u.length<=k) (fun k u hk hi=>by
  constructor
  · unfold oR
    simp only[]
    rw[if_pos (by omega),aK hk]
    simp only[Option.bind_some]
    rw[uD _ (hc _ (List.getElem_mem hk))]
    simp only[Option.bind_some,aL]
    rw[aO (by omega),wi (n:=(k:Int)+1) (by omega)];rfl
  · rw[List.length_append,List.length_singleton];omega) (fun u _=>by unfold oR;simp only[];rw[if_neg (by omega)]) [] (Nat.zero_le _)).1
 have e:∀ (a:List TreeNode) (u:List Conditional),a.foldl (fun u n=>u++[n.fCond]) u=u++a.map (·.fCond):=by
  intro a
  induction a with
  | nil=>simp
  | cons x a ih=>intro u;rw[List.foldl_cons,ih];simp
 rw[show((0:Nat):Int)=0 from rfl,e,List.nil_append]at this
 unfold uG
 rw[this];rfl
end Go.Ev
/- The energy of a tree: the program. -/
namespace Go.Ev
set_option linter.all false
set_option maxHeartbeats 1000000
section
variable {l:List QL}{o pre rem:List Int}
end
end Go.Ev
/- Covariances of a tree over the rational numbers. -/
namespace Go.Ev
set_option linter.all false
def lin (f:Int->Q):List PQ->Q
 | []=>0
 | x::r=>x.s*f x.node+lin f r
theorem pA {f f':Int->Q}:∀ {ps:List PQ},(∀ x∈ps,f x.node=f' x.node)->lin f ps=lin f' ps
 | [],_=>rfl
 | x::r,h=>by rw[lin,lin,h x (by simp),pA fun y hy=>h y (by simp[hy])]
theorem aIn (f g:Int->Q):∀ ps:List PQ,lin (fun u=>f u-g u) ps=lin f ps-lin g ps
 | []=>by simp only[lin];grind
 | x::r=>by rw[lin,lin,lin,aIn f g r];grind
theorem aIo (k:Q)(f:Int->Q):∀ ps:List PQ,lin (fun u=>k*f u) ps=k*lin f ps
 | []=>by simp only[lin];grind
 | x::r=>by rw[lin,lin,aIo k f r];grind
theorem aIp (f g:Int->Q):∀ ps:List PQ,lin (fun u=>f u+g u) ps=lin f ps+lin g ps
 | []=>by simp only[lin];grind
 | x::r=>by rw[lin,lin,lin,aIp f g r];grind
theorem aJl (F:Int->Int->Q)(ps:List PQ):∀ qs:List PQ,lin (fun u=>lin (fun q=>F u q) ps) qs=lin (fun q=>lin (fun u=>F u q) qs) ps
 | []=>by
  simp only[lin]
  induction ps with
  | nil=>rfl
  | cons x r ih=>rw[lin,<- ih];grind
 | y::r=>by
  rw[lin,aJl F ps r,<- aIo,<- aIp]
  rfl
theorem aKu {f:Int->Q}:∀ {ps:List PQ},(∀ x∈ps,0<=x.s/\0<=f x.node)->0<=lin f ps
 | [],_=>by simp[lin]
 | x::r,h=>by
  have h1:=aKu (f:=f) (ps:=r) fun y hy=>h y (by simp[hy])
  have h2:=_root_.Rat.mul_nonneg (h x (by simp)).1 (h x (by simp)).2
  rw[lin];grind
theorem aET (f:Int->Q)(g:PQ->Q):∀ ps:List PQ,app f g ps=lin f ps+app (fun _=>0) g ps
 | []=>by simp only[app,lin];grind
 | x::r=>by rw[app,lin,app,aET f g r];grind
theorem aLz (f:Int->Q):∀ ps:List PQ,lin (fun u=>- f u) ps=- lin f ps
 | []=>by simp only[lin];grind
 | x::r=>by rw[lin,lin,aLz f r];grind
def rs (p:Int->Q)(n:NQ):Q:=p n.node-lin p n.cond.ps
def bil (b:List NQ)(p f:Int->Q):Q:=sn (fun n=>n.cond.t*(rs p n*rs f n)) b
def e0 (p:Int->Q)(x:QL):Q:=x.w*((p x.b-p x.a)*(p x.b-p x.a))
theorem aPE (p:Int->Q):∀ l:List QL,sm (eP p (fun _=>0)) l+sm (eP (fun u=>- p u) (fun _=>0)) l=2*sm (eP (fun _=>0) (fun _=>0)) l+2*sm (e0 p) l
 | []=>by simp only[sm];grind
 | x::l=>by
  have ih:=aPE p l
  rw[sm,sm,sm,sm]
  have e:eP p (fun _=>0) x+eP (fun u=>- p u) (fun _=>0) x=2*eP (fun _=>0) (fun _=>0) x+2*e0 p x:=by
   unfold eP e0 sqQ
   simp only[]
   generalize p x.b=u
   generalize p x.a=v
   grind
  grind
theorem aPC (p:Int->Q):∀ b:List NQ,(∀ n∈b,n.cond.node=n.node)->sn (fun n=>cdE p (fun _=>0) n.cond) b+sn (fun n=>cdE (fun u=>- p u) (fun _=>0) n.cond) b=2*sn (fun n=>cdE (fun _=>0) (fun _=>0) n.cond) b+2*bil b p p
 | [],_=>by simp only[sn,bil];grind
 | n::b,h=>by
  have ih:=aPC p b fun m hm=>h m (by simp[hm])
  have hn:=h n (by simp)
  unfold bil at ih ⊢
  rw[sn,sn,sn,sn]
  have e:cdE p (fun _=>0) n.cond+cdE (fun u=>- p u) (fun _=>0) n.cond=2*cdE (fun _=>0) (fun _=>0) n.cond+2*(n.cond.t*(rs p n*rs p n)):=by
   unfold cdE rs sqQ
   rw[hn,aET p,aET (fun u=>- p u),aLz]
   simp only[]
   generalize app (fun _=>0) (fun x=>x.x) n.cond.ps=A
   generalize app (fun _=>0) (fun x=>x.y) n.cond.ps=B
   generalize lin p n.cond.ps=C
   generalize p n.node=D
   grind
  grind
theorem aHO (p:Int->Q){l:List QL}{o:List Int}(h:Tie l o):sm (e0 p) l=bil (bO l o o []) p p:=by
 obtain⟨d,_⟩:=h.dn
 have a1:=aJ4 p (fun _=>0) h
 have a2:=aJ4 (fun u=>- p u) (fun _=>0) h
 have a3:=aJ4 (fun _=>0) (fun _=>0) h
 have b1:=aPE p l
 have b2:=aPC p (bO l o o []) fun n hn=>(d.2 n hn).2
 grind
def cvQ:List NQ->Int->Int->Q
 | [],_,_=>0
 | n::r,a,c=>if a=n.node then(if c=n.node then 1 / n.cond.t+lin (fun u=>lin (cvQ r u) n.cond.ps) n.cond.ps else lin (fun u=>cvQ r u c) n.cond.ps)else if c=n.node then lin (fun u=>cvQ r u a) n.cond.ps else cvQ r a c
theorem aBW:∀ (b:List NQ) (a c:Int),cvQ b a c=cvQ b c a
 | [],_,_=>rfl
 | n::r,a,c=>by
  rw[cvQ,cvQ]
  by_cases h1:a=n.node
  · by_cases h2:c=n.node
    · simp[h1,h2]
    · simp[h1,h2]
  · by_cases h2:c=n.node
    · simp[h1,h2]
    · simp[h1,h2,aBW r a c]
theorem aF5:∀ ps:List PQ,lin (fun _=>0) ps=0
 | []=>rfl
 | x::r=>by rw[lin,aF5 r];grind
theorem aLM:∀ (b:List NQ) (u c:Int),(∀ n∈b,n.node≠u)->cvQ b u c=0
 | [],_,_,_=>rfl
 | n::r,u,c,h=>by
  have h1:¬u=n.node:=fun e=>h n (by simp) e.symm
  have h2:∀ c,cvQ r u c=0:=fun c=>aLM r u c fun m hm=>h m (by simp[hm])
  rw[cvQ,if_neg h1]
  by_cases hc:c=n.node
  · rw[if_pos hc]
    rw[show(fun w=>cvQ r w u)=fun _=>0 from funext fun w=>by rw[aBW,h2],aF5]
  · rw[if_neg hc];exact h2 c
theorem aMY (p:Int->Q)(G:Int->NQ->Q)(ps:List PQ):∀ r:List NQ,sn (fun m=>m.cond.t*(rs p m*lin (fun q=>G q m) ps)) r=lin (fun q=>sn (fun m=>m.cond.t*(rs p m*G q m)) r) ps
 | []=>by simp only[sn,aF5]
 | m::r=>by
  rw[sn,aMY p G ps r]
  have e:(fun q=>sn (fun m=>m.cond.t*(rs p m*G q m)) (m::r))=fun q=>(m.cond.t*rs p m)*G q m+sn (fun m=>m.cond.t*(rs p m*G q m)) r:=funext fun q=>by rw[sn];grind
  rw[e,aIp,aIo]
  grind
theorem aFb {f g:NQ->Q}:∀ {b:List NQ},(∀ n∈b,f n=g n)->sn f b=sn g b
 | [],_=>rfl
 | n::b,h=>by rw[sn,sn,h n (by simp),aFb fun m hm=>h m (by simp[hm])]
def Pin (b:List NQ):Prop:=∀ n∈b,∀ u∈psN n.cond,u=0\/∃ c∈b,c.node=u
theorem Pin.tail {n:NQ}{r:List NQ}(d:Dn (n::r))(h:Pin (n::r)):Pin r:=fun m hm u hu=>by
 rcases h m (by simp[hm]) u hu with h0 | ⟨c,hc,e⟩
 · exact .inl h0
 · rcases List.mem_cons.1 hc with rfl | hc
   · exact absurd (e▸hu) ((List.pairwise_cons.1 d.1).1 m hm).1
   · exact .inr ⟨c,hc,e⟩
theorem aPU (p:Int->Q)(p0:p 0=0):∀ {b:List NQ},Dn b->Pin b->(∀ n∈b,0<n.cond.t)->∀ v,(v=0\/∃ c∈b,c.node=v)->bil b p (fun u=>cvQ b u v)=p v
 | [],_,_,_,v,hv=>by
  rcases hv with rfl | ⟨c,hc,_⟩
  · rw[p0];rfl
  · cases hc
 | n::r,d,hp,ht,v,hv=>by
  have hpw:=(List.pairwise_cons.1 d.1).1
  have ih:=aPU p p0 d.tail (hp.tail d) (fun m hm=>ht m (by simp[hm]))
  have nn:=(d.2 n (by simp)).1
  have hps:∀ u∈psN n.cond,u=0\/∃ c∈r,c.node=u:=fun u hu=>by
   rcases hp n (by simp) u hu with h0 | ⟨c,hc,e⟩
   · exact .inl h0
   · rcases List.mem_cons.1 hc with rfl | hc
     · exact absurd (e▸hu) nn
     · exact .inr ⟨c,hc,e⟩
  have nin:∀ x∈n.cond.ps,¬x.node=n.node:=fun x hx e=>nn (e▸List.mem_map_of_mem hx)
  have nir:∀ m∈r,(∀ x∈m.cond.ps,¬x.node=n.node)/\¬m.node=n.node:=fun m hm=>⟨fun x hx e=>(hpw m hm).1 (e▸List.mem_map_of_mem hx),fun e=>(hpw m hm).2 e.symm⟩
  unfold bil at ih ⊢
  rw[sn]
  by_cases c:v=n.node
  · have en:rs (fun u=>cvQ (n::r) u v) n=1 / n.cond.t:=by
     unfold rs
     have e2:lin (fun u=>cvQ (n::r) u v) n.cond.ps=lin (fun u=>lin (cvQ r u) n.cond.ps) n.cond.ps:=pA fun x hx=>by
      rw[cvQ,if_neg (nin x hx),if_pos c]
      exact pA fun y _=>aBW r _ _
     have e5:cvQ (n::r) n.node v=1 / n.cond.t+lin (fun u=>lin (cvQ r u) n.cond.ps) n.cond.ps:=by rw[cvQ,if_pos rfl,if_pos c]
     rw[e2]
     simp only[e5]
     grind
    have er:sn (fun m=>m.cond.t*(rs p m*rs (fun u=>cvQ (n::r) u v) m)) r=lin p n.cond.ps:=by
     have e1:∀ m∈r,m.cond.t*(rs p m*rs (fun u=>cvQ (n::r) u v) m)=m.cond.t*(rs p m*lin (fun q=>rs (fun u=>cvQ r u q) m) n.cond.ps):=fun m hm=>by
      have e3:rs (fun u=>cvQ (n::r) u v) m=lin (fun q=>rs (fun u=>cvQ r u q) m) n.cond.ps:=by
       unfold rs
       have e4:lin (fun u=>cvQ (n::r) u v) m.cond.ps=lin (fun u=>lin (fun q=>cvQ r u q) n.cond.ps) m.cond.ps:=pA fun x hx=>by
        rw[cvQ,if_neg ((nir m hm).1 x hx),if_pos c]
        exact pA fun y _=>aBW r _ _
       have e5:cvQ (n::r) m.node v=lin (fun q=>cvQ r m.node q) n.cond.ps:=by
        rw[cvQ,if_neg (nir m hm).2,if_pos c]
        exact pA fun y _=>aBW r _ _
       rw[e4,aJl]
       simp only[e5]
       rw[aIn (fun q=>cvQ r m.node q) (fun q=>lin (fun u=>cvQ r u q) m.cond.ps)]
      rw[e3]
     rw[aFb e1,aMY p (fun q m=>rs (fun u=>cvQ r u q) m)]
     exact pA fun x hx=>ih x.node (hps _ (List.mem_map_of_mem hx))
    rw[er,en,c]
    have:=ht n (by simp)
    have h0:n.cond.t≠0:=by grind
    unfold rs
    grind
  · have en:rs (fun u=>cvQ (n::r) u v) n=0:=by
     unfold rs
     have e2:lin (fun u=>cvQ (n::r) u v) n.cond.ps=lin (fun u=>cvQ r u v) n.cond.ps:=pA fun x hx=>by
      rw[cvQ,if_neg (nin x hx),if_neg c]
     have e5:cvQ (n::r) n.node v=lin (fun u=>cvQ r u v) n.cond.ps:=by rw[cvQ,if_pos rfl,if_neg c]
     rw[e2]
     simp only[e5]
     grind
    have hv2:v=0\/∃ m∈r,m.node=v:=by
     rcases hv with h0 | ⟨m,hm,e⟩
     · exact .inl h0
     · rcases List.mem_cons.1 hm with rfl | hm
       · exact absurd e.symm c
       · exact .inr ⟨m,hm,e⟩
    rw[en,<- ih v hv2]
    have e1:∀ m∈r,m.cond.t*(rs p m*rs (fun u=>cvQ (n::r) u v) m)=m.cond.t*(rs p m*rs (fun u=>cvQ r u v) m):=fun m hm=>by
     have e3:rs (fun u=>cvQ (n::r) u v) m=rs (fun u=>cvQ r u v) m:=by
      unfold rs
      have e5:cvQ (n::r) m.node v=cvQ r m.node v:=by rw[cvQ,if_neg (nir m hm).2,if_neg c]
      have e6:lin (fun u=>cvQ (n::r) u v) m.cond.ps=lin (fun u=>cvQ r u v) m.cond.ps:=pA fun x hx=>by rw[cvQ,if_neg ((nir m hm).1 x hx),if_neg c]
      rw[e6]
      simp only[e5]
     rw[e3]
    rw[aFb e1]
    grind
end Go.Ev
/- What covariances are: the greatest of a form; positive, bounded, alike in all orders. -/
namespace Go.Ev
set_option linter.all false
theorem aE3 {l:List QL}{o:List Int}:∀ (n:Nat) (p:List Int),p.length=n->∀ c∈bO l o p [],∃ p' v' r',p=p'++v'::r'/\c=nxt l o v' (bO l o p' [])
 | 0,p,hn,c,hc=>by
  have:p=[]:=List.length_eq_zero_iff.1 hn
  subst this
  cases hc
 | n+1,p,hn,c,hc=>by
  rcases List.eq_nil_or_concat p with rfl | ⟨q,v,rfl⟩
  · simp at hn
  rw[List.concat_eq_append]at hn hc ⊢
  rw[uT]at hc
  rcases List.mem_append.1 hc with hc | hc
  · obtain⟨p',v',r',e1,e2⟩:=aE3 n q (by simpa using hn) c hc
    exact⟨p',v',r'++[v],by rw[e1];simp,e2⟩
  · exact⟨q,v,[],rfl,List.mem_singleton.1 hc⟩
section
variable {l:List QL}{o:List Int}
theorem Tie.pin (h:Tie l o):Pin (bO l o o []):=fun n hn u hu=>((h.dn).2 n hn).2.2 u hu |>.imp id xU
theorem Tie.tpos (h:Tie l o):∀ n∈bO l o o [],0<n.cond.t:=fun n hn=>((h.dn).2 n hn).2.1
def cvT (l:List QL)(o:List Int)(a c:Int):Q:=cvQ (bO l o o []) a c
theorem aOi (h:Tie l o)(c:Int):cvT l o 0 c=0:=aLM _ 0 c fun n hn e=>by
 have:=(h.five _ ((h.dn).2 n hn).1).1
 omega
theorem aOh (h:Tie l o){p:Int->Q}(p0:p 0=0){v:Int}(hv:v=0\/v∈o):bil (bO l o o []) p (fun u=>cvT l o u v)=p v :=
 aPU p p0 (h.dn).1 h.pin h.tpos v (hv.imp id xU)
theorem aQf (p f:Int->Q)(n:NQ):rs (fun u=>p u-f u) n=rs p n-rs f n:=by
 unfold rs
 rw[aIn]
 grind
theorem aPl (b:List NQ)(p f:Int->Q):bil b (fun u=>p u-f u) (fun u=>p u-f u)=bil b p p-2*bil b p f+bil b f f:=by
 unfold bil
 induction b with
 | nil=>simp only[sn];grind
 | cons n b ih =>
  rw[sn,sn,sn,sn,ih,aQf]
  grind
theorem aRT (h:Tie l o){p:Int->Q}(p0:p 0=0){v:Int}(hv:v=0\/v∈o):sm (e0 (fun u=>p u-cvT l o u v)) l=sm (e0 p) l-2*p v+cvT l o v v:=by
 have a1:=aHO (fun u=>p u-cvT l o u v) h
 have a2:=aHO p h
 have b1:=aOh h p0 hv
 have b2:=aOh h (p:=fun u=>cvT l o u v) (aOi h v) hv
 rw[a1,aPl,a2,b1,b2]
theorem aPT {p:Int->Q}{x:QL}(h:0<x.w):0<=e0 p x:=by
 unfold e0
 exact _root_.Rat.mul_nonneg (by grind) (aRe _)
theorem Tie.wpos (h:Tie l o):∀ x∈l,0<x.w:=fun x hx=>(h.lk x hx).lk.1.sc.1
theorem aM4 (h:Tie l o)(p:Int->Q):0<=sm (e0 p) l:=qN fun x hx=>aPT (h.wpos x hx)
theorem aL0 (h:Tie l o){v:Int}(hv:v=0\/v∈o):sm (e0 (fun u=>cvT l o u v)) l=cvT l o v v:=by
 rw[aHO _ h]
 exact aOh h (p:=fun u=>cvT l o u v) (aOi h v) hv
theorem aPW:∀ ps:List PQ,app (fun _=>0) (fun _=>0) ps=0
 | []=>rfl
 | x::r=>by rw[app,aPW r];grind
theorem aOz (f:Int->Q)(ps:List PQ):app f (fun _=>0) ps=lin f ps:=by rw[aET,aPW];grind
theorem aOj:∀ {b:List NQ},(∀ n∈b,0<n.cond.t/\∀ x∈n.cond.ps,0<=x.s)->∀ a c,0<=cvQ b a c
 | [],_,a,c=>by simp[cvQ]
 | n::r,h,a,c=>by
  have ih:=aOj (b:=r) fun m hm=>h m (by simp[hm])
  obtain⟨h1,h2⟩:=h n (by simp)
  have hl:∀ f:Int->Q,(∀ u,0<=f u)->0<=lin f n.cond.ps:=fun f hf=>aKu fun x hx=>⟨h2 x hx,hf _⟩
  have it:0<=1 / n.cond.t:=by
   have:0<1 / n.cond.t:=by rw[_root_.Rat.lt_div_iff h1];grind
   grind
  rw[cvQ]
  by_cases c1:a=n.node
  · rw[if_pos c1]
    by_cases c2:c=n.node
    · rw[if_pos c2]
      have:=hl (fun u=>lin (cvQ r u) n.cond.ps) fun u=>hl _ fun w=>ih u w
      grind
    · rw[if_neg c2];exact hl _ fun u=>ih u c
  · rw[if_neg c1]
    by_cases c2:c=n.node
    · rw[if_pos c2];exact hl _ fun u=>ih u a
    · rw[if_neg c2];exact ih a c
theorem aLL:∀ {b:List NQ},Dn b->(∀ n∈b,0<n.cond.t/\∀ x∈n.cond.ps,0<=x.s)->∀ n∈b,0<cvQ b n.node n.node
 | n::r,d,h,m,hm=>by
  have hnn:=aOj (b:=r) fun m hm=>h m (by simp[hm])
  obtain⟨h1,h2⟩:=h n (by simp)
  have hl:∀ f:Int->Q,(∀ u,0<=f u)->0<=lin f n.cond.ps:=fun f hf=>aKu fun x hx=>⟨h2 x hx,hf _⟩
  have it:0<1 / n.cond.t:=by rw[_root_.Rat.lt_div_iff h1];grind
  rcases List.mem_cons.1 hm with rfl | hm
  · rw[cvQ,if_pos rfl,if_pos rfl]
    have:=hl (fun u=>lin (cvQ r u) m.cond.ps) fun u=>hl _ fun w=>hnn u w
    grind
  · have ne:¬m.node=n.node:=fun e=>((List.pairwise_cons.1 d.1).1 m hm).2 e.symm
    rw[cvQ,if_neg ne,if_neg ne]
    exact aLL d.tail (fun m hm=>h m (by simp[hm])) m hm
theorem Tie.shares (h:Tie l o):∀ n∈bO l o o [],0<n.cond.t/\∀ x∈n.cond.ps,0<=x.s:=fun n hn=>by
 refine⟨h.tpos n hn,fun x hx=>?_⟩
 obtain⟨p,v,r,e,rfl⟩:=aE3 o.length o rfl n hn
 have ti:=TInv.at h.base h.gr p.length p (v::r) rfl e
 have ha:=((ti.inc h.base).join).2.1.arms
 obtain⟨y,hy,rfl⟩:=List.mem_map.1 hx
 have:=(xY ha hy).2.1
 show 0<=y.w / _
 grind
theorem aPi (h:Tie l o){a:Int}(ha:a∈o):0<cvT l o a a:=by
 obtain⟨c,hc,rfl⟩:=xU (l:=l) ha
 exact aLL (h.dn).1 h.shares c hc
end
theorem aOg {l l2:List QL}{o o2:List Int}{k:QL}(h:Tie l o)(h2:Tie l2 o2)(hl:l2.Perm (l++[k]))(hk:0<k.w){v:Int}(hv:v∈o)(hv2:v∈o2):cvT l2 o2 v v<=cvT l o v v:=by
 have e:=aRT h (p:=fun u=>cvT l2 o2 u v) (aOi h2 v) (.inr hv)
 have s:=aL0 h2 (.inr hv2)
 rw[aOX hl,rG]at s
 have n1:=aM4 h (fun u=>cvT l2 o2 u v-cvT l o u v)
 have n2:0<=e0 (fun u=>cvT l2 o2 u v) k:=aPT hk
 simp only[sm]at s
 grind
end Go.Ev
/- Covariances of a net: sums over parents, the table as a function of its nodes. -/
namespace Go.Ev
set_option linter.all false
noncomputable def aBZ (f:Int->Rat):List Parent->Rat->Rat
 | [],s=>s
 | p::ps,s=>aBZ f ps (RA s (RM p.fShare (f p.fNode)))
theorem aHR {f:Int->Rat}:∀ {ps:List Parent} {s:Rat},VZ s->(∀ p∈ps,VZ p.fShare/\VZ (f p.fNode))->VZ (aBZ f ps s)
 | [],s,h,_=>h
 | p::ps,s,h,hp=>show VZ (aBZ f ps (RA s (RM p.fShare (f p.fNode))))from aHR (zA h (aBB (hp p (by simp)).1 (hp p (by simp)).2).2.2).2.2 fun q hq=>hp q (by simp[hq])
theorem aCz {f g:Int->Rat}:∀ {ps:List Parent} {s:Rat},(∀ p∈ps,f p.fNode=g p.fNode)->aBZ f ps s=aBZ g ps s
 | [],_,_=>rfl
 | p::ps,s,h=>by
  unfold aBZ
  rw[h p (by simp)];exact aCz fun q hq=>h q (by simp[hq])
theorem aNQ {step:(Int×Rat)->Option ((Int×Rat) ⊕ Rat)}(ps:List Parent)(f:Int->Rat)(hv:∀ p∈ps,VZ p.fShare/\VZ (f p.fNode))
 (h1:∀ (k:Nat) (hk:k<ps.length) (s:Rat),VZ s->step ((k:Int),s)=some (.inl (((k+1:Nat):Int),RA s (RM (ps[k]).fShare (f (ps[k]).fNode))))) (h2:∀ s:Rat,step ((ps.length:Int),s)=some (.inr s)) (s:Rat) (hs:VZ s):lp step (0,s)=some (aBZ f ps s):=by
 have main:∀ m k:Nat,m+k=ps.length->∀ s,VZ s->lp step ((k:Int),s)=some (aBZ f (ps.drop k) s):=by
  intro m
  induction m with
  | zero =>
   intro k hk s hs
   obtain rfl:k=ps.length:=by omega
   rw[List.drop_length]
   exact aJ (h2 s)
  | succ m ih =>
   intro k hk s hs
   have hlt:k<ps.length:=by omega
   obtain⟨g1,g2⟩:=hv _ (List.getElem_mem hlt)
   rw[aQ (h1 k hlt s hs),List.drop_eq_getElem_cons hlt]
   exact ih (k+1) (by omega) _ (zA hs (aBB g1 g2).2.2).2.2
 have:=main ps.length 0 (by omega) s hs
 rw[List.drop_zero]at this;exact this
noncomputable def newRow (c:Conditional)(C:Int->Int->Rat)(y:Int):Rat:=aBZ (fun p=>C p y) c.fParents (dU 0)
theorem aHg {c:Conditional}{nodes:List Int}{C:Int->Int->Rat}(hp:∀ p∈c.fParents,VZ p.fShare/\p.fNode∈nodes)(hC:∀ x∈nodes,∀ y∈nodes,VZ (C x y)){y:Int}(hy:y∈nodes):VZ (newRow c C y) :=
 aHR xK fun p h=>⟨(hp p h).1,hC _ (hp p h).2 _ hy⟩
noncomputable def aCB (c:Conditional)(C:Int->Int->Rat):Rat:=aBZ (newRow c C) c.fParents (RD (dU 1) c.fTotal)
theorem aH5:VZ (dU 1):=.inl (yC 1 (by omega))
noncomputable def aGF (c:Conditional)(C:Int->Int->Rat)(x y:Int):Rat :=
 if x=c.fNode then(if y=c.fNode then aCB c C else newRow c C y)else if y=c.fNode then newRow c C x else C x y
end Go.Ev
/- Covariances of a net: the table of both programs. -/
namespace Go.Ev
set_option linter.all false
def bT (l:List Conditional):List Int:=0::(l.map (·.fNode)).reverse
theorem xM (c:Conditional)(l:List Conditional):bT (c::l)=bT l++[c.fNode]:=by simp[bT]
theorem sZ {l:List Conditional}{x:Int}:x∈bT l↔x=0\/∃ d∈l,d.fNode=x:=by simp[bT]
def vY:List Conditional->Prop
 | []=>True
 | c::r=>(1<=c.fNode/\c.fNode<=9)/\c.fNode∉bT r/\(∀ p∈c.fParents,bK p.fShare/\p.fNode∈bT r)/\bK c.fTotal/\c.fParents.length<=4294967296/\vY r
theorem aFA:∀ (n:Nat) (l:List Int),l.Nodup->(∀ x∈l,0<=x/\x<n)->l.length<=n
 | 0,l,_,h=>by
  cases l with
  | nil=>simp
  | cons a r=>have:=h a (by simp);omega
 | n+1,l,hn,h=>by
  by_cases c:(n:Int)∈l
  · have h1:=aFA n (l.erase (n:Int)) (hn.erase _) (fun x hx=>by
     have h2:=h x (List.mem_of_mem_erase hx)
     have:x≠n:=by rintro rfl;exact(List.Nodup.mem_erase_iff hn).1 hx |>.1 rfl
     omega)
    rw[List.length_erase_of_mem c]at h1;omega
  · have h1:=aFA n l hn (fun x hx=>by
     have h2:=h x hx
     have:x≠n:=by rintro rfl;exact c hx
     omega)
    omega
theorem yQ:∀ {l:List Conditional},vY l->(bT l).Nodup/\∀ x∈bT l,0<=x/\x<=9
 | [],_=>by simp[bT]
 | c::r,h=>by
  obtain⟨h1,h2,_,_,_,h3⟩:=h
  obtain⟨g1,g2⟩:=yQ h3
  rw[xM]
  refine⟨List.nodup_append.2 ⟨g1,by simp,?_⟩,?_⟩
  · intro x hx y hy e
    simp at hy;subst hy;subst e;exact h2 hx
  · intro x hx
    rcases List.mem_append.1 hx with hx | hx
    · exact g2 x hx
    · simp at hx;subst hx;omega
theorem aJw {l:List Conditional}(h:vY l):l.length<=9:=by
 obtain⟨g1,g2⟩:=yQ h
 have:=aFA 10 _ g1 (fun x hx=>by have:=g2 x hx;omega)
 simp[bT]at this;omega
noncomputable def Cst:List Conditional->Int->Int->Rat
 | []=>fun _ _=>dU 0
 | c::r=>aGF c (Cst r)
theorem aJd {d:Nat}(h:0<d)(s:Bool):mkR s 0 d=dU 0:=by
 unfold mkR
 rw[if_neg (by omega),Nat.gcd_zero_left,Nat.zero_div,Nat.div_self h]
 have e:aA 1=[1]:=kF.symm
 rw[e,aX,if_neg (by simp)]
 simp[dU,big,aX]
theorem aBJ:dU 0=⟨big 0,aA 1⟩:=by rw[<- kF];rfl
theorem aPt {r:Rat}(h:bK r):RM r (dU 0)=dU 0:=by
 obtain⟨n,d,rfl,h1,h2,h3,h4⟩:=zP h
 have q:=aBB (.inl h:VZ _) xK
 have e:bZ ⟨big n,aA d⟩ (dU 0)=some (dU 0):=by
  rw[aBJ,aFr n d 0 1 h1 (by omega) h2 h3 (by simp[bl,aX]) (by rw[<- kF];simp)]
  unfold aNL
  rw[Int.natAbs_zero,Nat.mul_zero,Nat.mul_one,aJd h1,aBJ]
 have:=q.2.1
 rw[e]at this
 exact(Option.some.inj this).symm
theorem aPu:RA (dU 0) (dU 0)=dU 0:=by
 have q:=zA xK xK
 have e:bW (dU 0) (dU 0)=some (dU 0):=by
  rw[aBJ,aBf 0 1 0 1 (by omega) (by omega) (by simp[bl,aX]) (by rw[<- kF];simp) (by simp[bl,aX]) (by rw[<- kF];simp)]
  unfold aIx
  simp only[Int.zero_mul,Int.add_zero,Int.natAbs_zero]
  rw[aJd (by omega),aBJ]
 have:=q.2.1
 rw[e]at this
 exact(Option.some.inj this).symm
theorem aDD {f:Int->Rat}:∀ {ps:List Parent},(∀ p∈ps,bK p.fShare/\f p.fNode=dU 0)->aBZ f ps (dU 0)=dU 0
 | [],_=>rfl
 | p::ps,h=>by
  obtain⟨h1,h2⟩:=h p (by simp)
  show aBZ f ps (RA (dU 0) (RM p.fShare (f p.fNode)))=dU 0
  rw[h2,aPt h1,aPu]
  exact aDD fun q hq=>h q (by simp[hq])
theorem aIJ:∀ {l:List Conditional},vY l->(∀ x∈bT l,∀ y∈bT l,VZ (Cst l x y))/\(∀ x∈bT l,Cst l x 0=dU 0/\Cst l 0 x=dU 0)
 | [],_=>⟨fun _ _ _ _=>xK,fun _ _=>⟨rfl,rfl⟩⟩
 | c::r,h=>by
  obtain⟨h1,h2,h3,h4,_,h5⟩:=h
  obtain⟨g1,g2⟩:=aIJ h5
  have hp:∀ p∈c.fParents,VZ p.fShare/\p.fNode∈bT r:=fun p hp=>⟨.inl (h3 p hp).1,(h3 p hp).2⟩
  have h0:(0:Int)∈bT r:=by simp[bT]
  have hr:∀ y∈bT r,VZ (newRow c (Cst r) y):=fun y hy=>aHg hp g1 hy
  have hr0:newRow c (Cst r) 0=dU 0:=aDD fun p hpp=>⟨(h3 p hpp).1,(g2 _ (h3 p hpp).2).1⟩
  have ho:VZ (aCB c (Cst r)):=aHR (aDv aH5 (.inl h4)).2.2 fun p hpp=>⟨(hp p hpp).1,hr _ (hp p hpp).2⟩
  constructor
  · intro x hx y hy
    rw[xM,List.mem_append,List.mem_singleton]at hx hy
    show VZ (aGF c (Cst r) x y)
    unfold aGF
    by_cases cx:x=c.fNode
    · rw[if_pos cx]
      by_cases cy:y=c.fNode
      · rw[if_pos cy];exact ho
      · rw[if_neg cy];exact hr y (hy.resolve_right cy)
    · rw[if_neg cx]
      by_cases cy:y=c.fNode
      · rw[if_pos cy];exact hr x (hx.resolve_right cx)
      · rw[if_neg cy];exact g1 x (hx.resolve_right cx) y (hy.resolve_right cy)
  · intro x hx
    rw[xM,List.mem_append,List.mem_singleton]at hx
    have n0:¬(0:Int)=c.fNode:=by omega
    show aGF c (Cst r) x 0=dU 0/\aGF c (Cst r) 0 x=dU 0
    unfold aGF
    rw[if_neg n0,if_neg n0,if_neg n0]
    by_cases cx:x=c.fNode
    · rw[if_pos cx,if_pos cx];exact⟨hr0,hr0⟩
    · rw[if_neg cx,if_neg cx];exact g2 x (hx.resolve_right cx)
theorem aAO:∀ {l:List Conditional} (k:Nat),vY l->vY (l.drop k)
 | [],k,h=>by rw[List.drop_nil];exact h
 | c::r,0,h=>h
 | c::r,k+1,h=>aAO (l:=r) k h.2.2.2.2.2
end Go.Ev
/- Covariances of a net: the program's matrix. -/
namespace Go.Ev
set_option linter.all false
theorem qV {α:Type}{l:List α}{i:Int}(h0:0<=i)(h1:i<l.length):∃ y,idx l i=some y:=by
 unfold idx;rw[if_pos h0]
 exact⟨_,List.getElem?_eq_getElem (show i.toNat<l.length by omega)⟩
theorem yO {α:Type}{l:List α}{i j:Int}{v:α}(h0:0<=i)(h1:i<l.length)(h2:0<=j):idx (kT l i v) j=if i=j then some v else idx l j:=by
 unfold idx kT
 rw[if_pos h2,if_pos h2,List.getElem?_set]
 by_cases c:i=j
 · subst c
   rw[if_pos rfl,if_pos rfl,if_pos (by omega)]
 · rw[if_neg (by omega),if_neg c]
theorem xQ {α:Type}(l:List α)(i:Int)(v:α):(kT l i v).length=l.length:=by simp[kT]
def aEV (M:List Rat)(k:Int):Prop:=∀ x:Int,0<=x->x<k->idx M x=some (dU 0)/\idx M (x*10)=some (dU 0)
theorem aQx:∀ (m k:Nat),m+k=10->∀ M:List Rat,M.length=100->aEV M k->∃ M',lp fL ((k:Int),M)=some M'/\M'.length=100/\aEV M' 10:=by
 intro m
 induction m with
 | zero =>
  intro k hk M hM hz
  obtain rfl:k=10:=by omega
  refine⟨M,aJ ?_,hM,hz⟩
  unfold fL
  simp
 | succ m ih =>
  intro k hk M hM hz
  obtain⟨y1,q1⟩:=qV (l:=M) (i:=0*10) (by omega) (by omega)
  obtain⟨y2,q2⟩:=qV (l:=M) (i:=0*(10:Nat)+(k:Int)) (by omega) (by omega)
  have hM1:(kT M (0*(10:Nat)+(k:Int)) (dU 0)).length=100:=by rw[xQ,hM]
  obtain⟨y3,q3⟩:=qV (l:=kT M (0*(10:Nat)+(k:Int)) (dU 0)) (i:=(k:Int)*10) (by omega) (by omega)
  obtain⟨y4,q4⟩:=qV (l:=kT M (0*(10:Nat)+(k:Int)) (dU 0)) (i:=(k:Int)*(10:Nat)+0) (by omega) (by omega)
  have e:fL ((k:Int),M)=some (.inl (((k+1:Nat):Int),kT (kT M (0*(10:Nat)+(k:Int)) (dU 0)) ((k:Int)*(10:Nat)+0) (dU 0))):=by
   unfold fL
   simp only[]
   rw[if_pos (by omega),fF 0 (by omega)]
   simp only[Option.bind_some]
   rw[aO (by omega)]
   simp only[Option.bind_some]
   rw[q1]
   simp only[Option.bind_some]
   rw[aO (by omega)]
   simp only[Option.bind_some]
   rw[aL,q2]
   simp only[Option.bind_some]
   rw[aL,q3]
   simp only[Option.bind_some]
   rw[aL,q4]
   simp only[Option.bind_some]
   rw[aL,wi (by omega)];rfl
  rw[aQ e]
  refine ih (k+1) (by omega) _ (by rw[xQ,xQ,hM]) fun x hx0 hx1=>?_
  rw[yO (by omega) (by omega) hx0,yO (by omega) (by omega) hx0,yO (by omega) (by omega) (show(0:Int)<=x*10 by omega),yO (by omega) (by omega) (show(0:Int)<=x*10 by omega)]
  by_cases c:x=k
  · subst c
    rw[if_pos (show(0*(10:Nat)+(k:Int)=(k:Int))by omega),if_pos (show((k:Int)*(10:Nat)+0=(k:Int)*10)by omega)]
    exact⟨by split <;> rfl,rfl⟩
  · obtain⟨z1,z2⟩:=hz x hx0 (by omega)
    rw[z1,z2]
    refine⟨?_,?_⟩
    · split
      · rfl
      · split <;> rfl
    · split
      · rfl
      · split <;> rfl
structure MatIs (M:List Rat)(nodes:List Int)(C:Int->Int->Rat):Prop where
 len:M.length=100
 get:∀ x∈nodes,∀ y∈nodes,idx M (x*10+y)=some (C x y)
 zero:aEV M 10
theorem aQw (c d:Conditional)(hc:c.fParents.length<=4294967296)(nodes:List Int)(hn:∀ x∈nodes,0<=x/\x<=9)(C:Int->Int->Rat)(M:List Rat)(hM:MatIs M nodes C)(hp:∀ p∈c.fParents,VZ p.fShare/\p.fNode∈nodes)(hC:∀ x∈nodes,∀ y∈nodes,VZ (C x y))(hd:d.fNode∈nodes) :
 lp (hU c M d) (0,dU 0)=some (newRow c C d.fNode):=by
 refine aNQ c.fParents (fun p=>C p d.fNode) (fun p h=>⟨(hp p h).1,hC _ (hp p h).2 _ hd⟩) (fun k hk s hs=>?_) (fun s=>?_) _ xK
 · obtain⟨g1,g2⟩:=hp _ (List.getElem_mem hk)
   have b1:=hn _ g2
   have b2:=hn _ hd
   have q1:=aBB g1 (hC _ g2 _ hd)
   obtain⟨y,qy⟩:=qV (l:=M) (i:=(c.fParents[k]).fNode*10) (by omega) (by rw[hM.len];omega)
   unfold hU
   simp only[]
   rw[if_pos (by omega),aK hk]
   simp only[Option.bind_some]
   rw[aO (by omega)]
   simp only[Option.bind_some]
   rw[qy]
   simp only[Option.bind_some]
   rw[aO (by omega)]
   simp only[Option.bind_some]
   rw[aL,show(((10:Nat):Int))=10 from rfl,hM.get _ g2 _ hd]
   simp only[Option.bind_some]
   rw[q1.2.1]
   simp only[Option.bind_some]
   rw[(zA hs q1.2.2).2.1]
   simp only[Option.bind_some]
   rw[wi (by omega)];rfl
 · unfold hU
   simp only[]
   rw[if_neg (by omega)]
theorem aQu (c:Conditional)(hc:c.fParents.length<=4294967296)(hcn:0<=c.fNode/\c.fNode<=9)(nodes:List Int)(hn:∀ x∈nodes,0<=x/\x<=9)(g:Int->Rat)(M:List Rat)(hM:M.length=100)(hg:∀ x∈nodes,idx M (x*10+c.fNode)=some (g x))(hp:∀ p∈c.fParents,VZ p.fShare/\p.fNode∈nodes)(hv:∀ x∈nodes,VZ (g x))(s:Rat)(hs:VZ s) :
 lp (hJ c M) (0,s)=some (aBZ g c.fParents s):=by
 refine aNQ c.fParents g (fun p h=>⟨(hp p h).1,hv _ (hp p h).2⟩) (fun k hk s hs=>?_) (fun s=>?_) _ hs
 · obtain⟨g1,g2⟩:=hp _ (List.getElem_mem hk)
   have b1:=hn _ g2
   have q1:=aBB g1 (hv _ g2)
   obtain⟨y,qy⟩:=qV (l:=M) (i:=(c.fParents[k]).fNode*10) (by omega) (by omega)
   unfold hJ
   simp only[]
   rw[if_pos (by omega),aK hk]
   simp only[Option.bind_some]
   rw[aO (by omega)]
   simp only[Option.bind_some]
   rw[qy]
   simp only[Option.bind_some]
   rw[aO (by omega)]
   simp only[Option.bind_some]
   rw[aL,show(((10:Nat):Int))=10 from rfl,hg _ g2]
   simp only[Option.bind_some]
   rw[q1.2.1]
   simp only[Option.bind_some]
   rw[(zA hs q1.2.2).2.1]
   simp only[Option.bind_some]
   rw[wi (by omega)];rfl
 · unfold hJ
   simp only[]
   rw[if_neg (by omega)]
theorem aQv (l:List Conditional)(i:Nat)(hi:i<l.length)(hl:l.length<=9)(hg:vY (l.drop i))(M0:List Rat)(hM0:MatIs M0 (bT (l.drop (i+1))) (Cst (l.drop (i+1)))) :
 ∃ M',lp (dR l l[i]) (((i+1:Nat):Int),M0)=some M'/\MatIs M' (bT (l.drop (i+1))) (Cst (l.drop (i+1)))/\∀ d∈l.drop (i+1),idx M' ((l[i]).fNode*10+d.fNode)=some (newRow l[i] (Cst (l.drop (i+1))) d.fNode)/\idx M' (d.fNode*10+(l[i]).fNode)=some (newRow l[i] (Cst (l.drop (i+1))) d.fNode):=by
 rw[List.drop_eq_getElem_cons hi]at hg
 obtain⟨h1,h2,h3,h4,h5,h6⟩:=hg
 generalize hc:l[i]=c at *
 obtain⟨gn1,gn2⟩:=yQ h6
 obtain⟨g1,g2⟩:=aIJ h6
 have hp:∀ p∈c.fParents,VZ p.fShare/\p.fNode∈bT (l.drop (i+1)):=fun p hp=>⟨.inl (h3 p hp).1,(h3 p hp).2⟩
 have main:∀ m j:Nat,m+j=l.length->i+1<=j->∀ M,MatIs M (bT (l.drop (i+1))) (Cst (l.drop (i+1)))->
  (∀ t (ht:t<l.length),i+1<=t->t<j->idx M (c.fNode*10+(l[t]).fNode)=some (newRow c (Cst (l.drop (i+1))) (l[t]).fNode)/\idx M ((l[t]).fNode*10+c.fNode)=some (newRow c (Cst (l.drop (i+1))) (l[t]).fNode))->
  ∃ M',lp (dR l c) ((j:Int),M)=some M'/\MatIs M' (bT (l.drop (i+1))) (Cst (l.drop (i+1)))/\∀ t (ht:t<l.length),i+1<=t->idx M' (c.fNode*10+(l[t]).fNode)=some (newRow c (Cst (l.drop (i+1))) (l[t]).fNode)/\idx M' ((l[t]).fNode*10+c.fNode)=some (newRow c (Cst (l.drop (i+1))) (l[t]).fNode):=by
  intro m
  induction m with
  | zero =>
   intro j hj hij M hM hinv
   obtain rfl:j=l.length:=by omega
   refine⟨M,aJ ?_,hM,fun t ht hit=>hinv t ht hit ht⟩
   unfold dR
   simp only[]
   rw[if_neg (by omega)]
  | succ m ih =>
   intro j hj hij M hM hinv
   have hlt:j<l.length:=by omega
   have hdm:l[j]∈l.drop (i+1):=by
    rw[List.mem_iff_getElem?]
    exact⟨j-(i+1),by rw[List.getElem?_drop,show i+1+(j-(i+1))=j by omega,List.getElem?_eq_getElem hlt]⟩
   have hdn:(l[j]).fNode∈bT (l.drop (i+1)):=sZ.2 (.inr ⟨_,hdm,rfl⟩)
   have hb:=gn2 _ hdn
   have hd1:1<=(l[j]).fNode:=by
    have hgd:=aAO (j-(i+1)) h6
    rw[List.drop_drop,show i+1+(j-(i+1))=j by omega,List.drop_eq_getElem_cons hlt]at hgd
    exact hgd.1.1
   have hne:(l[j]).fNode≠c.fNode:=by intro e;rw[e]at hdn;exact h2 hdn
   generalize hd:l[j]=d at *
   let r:=newRow c (Cst (l.drop (i+1))) d.fNode
   let M1:=kT M (c.fNode*(10:Nat)+d.fNode) r
   let M2:=kT M1 (d.fNode*(10:Nat)+c.fNode) r
   have l0:=hM.len
   have l1:M1.length=100:=by show(kT _ _ _).length=_;rw[xQ,l0]
   obtain⟨y1,q1⟩:=qV (l:=M) (i:=c.fNode*10) (by omega) (by omega)
   obtain⟨y2,q2⟩:=qV (l:=M) (i:=c.fNode*(10:Nat)+d.fNode) (by omega) (by omega)
   obtain⟨y3,q3⟩:=qV (l:=M1) (i:=d.fNode*10) (by omega) (by omega)
   obtain⟨y4,q4⟩:=qV (l:=M1) (i:=d.fNode*(10:Nat)+c.fNode) (by omega) (by omega)
   have e:dR l c ((j:Int),M)=some (.inl (((j+1:Nat):Int),M2)):=by
    unfold dR
    simp only[]
    rw[if_pos (by omega),aK hlt,hd]
    simp only[Option.bind_some]
    rw[fF 0 (by omega)]
    simp only[Option.bind_some]
    rw[aQw c d h5 _ gn2 _ M hM hp g1 hdn]
    simp only[Option.bind_some]
    rw[aO (by omega)]
    simp only[Option.bind_some]
    rw[q1]
    simp only[Option.bind_some]
    rw[aO (by omega)]
    simp only[Option.bind_some]
    rw[aL,q2]
    simp only[Option.bind_some]
    rw[aL]
    rw[show kT M (c.fNode*(10:Nat)+d.fNode) (newRow c (Cst (l.drop (i+1))) d.fNode)=M1 from rfl,q3]
    simp only[Option.bind_some]
    rw[aL,q4]
    simp only[Option.bind_some]
    rw[aL,wi (by omega)];rfl
   have i2:∀ z:Int,0<=z->idx M2 z=if d.fNode*(10:Nat)+c.fNode=z then some r else if c.fNode*(10:Nat)+d.fNode=z then some r else idx M z:=by
    intro z hz
    show idx (kT M1 _ _) z=_
    rw[yO (by omega) (by omega) hz]
    by_cases cz:d.fNode*(10:Nat)+c.fNode=z
    · rw[if_pos cz,if_pos cz]
    · rw[if_neg cz,if_neg cz]
      show idx (kT M _ _) z=_
      rw[yO (by omega) (by omega) hz]
   rw[aQ e]
   refine ih (j+1) (by omega) (by omega) M2 ⟨by show(kT _ _ _).length=_;rw[xQ,l1],fun x hx y hy=>?_,fun x hx0 hx1=>?_⟩ fun t ht hit htj=>?_
   · have b1:=gn2 x hx
     have b2:=gn2 y hy
     have c1:x≠c.fNode:=by rintro rfl;exact h2 hx
     have c2:y≠c.fNode:=by rintro rfl;exact h2 hy
     rw[i2 _ (by omega),if_neg (by omega),if_neg (by omega)]
     exact hM.get x hx y hy
   · obtain⟨z1,z2⟩:=hM.zero x hx0 hx1
     rw[i2 _ (by omega),i2 _ (by omega),if_neg (by omega),if_neg (by omega),if_neg (by omega),if_neg (by omega)]
     exact⟨z1,z2⟩
   · rcases Nat.lt_or_eq_of_le (Nat.le_of_lt_succ htj)with h | h
     · obtain⟨v1,v2⟩:=hinv t ht hit h
       have htn:(l[t]).fNode∈bT (l.drop (i+1)):=sZ.2 (.inr ⟨_,by
        rw[List.mem_iff_getElem?]
        exact⟨t-(i+1),by rw[List.getElem?_drop,show i+1+(t-(i+1))=t by omega,List.getElem?_eq_getElem ht]⟩,rfl⟩)
       have bt:=gn2 _ htn
       have ct:(l[t]).fNode≠c.fNode:=by intro e;rw[e]at htn;exact h2 htn
       rw[i2 _ (by omega),i2 _ (by omega)]
       by_cases ce:(l[t]).fNode=d.fNode
       · rw[ce,if_neg (by omega),if_pos (by omega),if_pos (by omega)];exact⟨rfl,rfl⟩
       · rw[if_neg (by omega),if_neg (by omega),if_neg (by omega),if_neg (by omega)];exact⟨v1,v2⟩
     · subst h
       rw[hd,i2 _ (by omega),i2 _ (by omega),if_neg (by omega),if_pos (by omega),if_pos (by omega)]
       exact⟨rfl,rfl⟩
 obtain⟨M',e1,e2,e3⟩:=main (l.length-(i+1)) (i+1) (by omega) (Nat.le_refl _) M0 hM0 (fun t _ h1 h2=>by omega)
 refine⟨M',e1,e2,fun d hd=>?_⟩
 obtain⟨j,hj⟩:=List.getElem?_of_mem hd
 rw[List.getElem?_drop]at hj
 obtain⟨ht,rfl⟩:=List.getElem?_eq_some_iff.1 hj
 exact e3 _ ht (by omega)
theorem aQt (l:List Conditional)(h:vY l):∀ k:Nat,k<=l.length->∀ M,MatIs M (bT (l.drop k)) (Cst (l.drop k))->∃ M',lp (fK l) ((k:Int)-1,M)=some M'/\MatIs M' (bT l) (Cst l):=by
 have hl:=aJw h
 intro k
 induction k with
 | zero =>
  intro _ M hM
  rw[List.drop_zero]at hM
  refine⟨M,aJ ?_,hM⟩
  unfold fK
  simp only[]
  rw[if_neg (by simp)]
 | succ k ih =>
  intro hk M hM
  have hlt:k<l.length:=by omega
  have hg:=aAO k h
  obtain⟨M1,e1,e2,e3⟩:=aQv l k hlt hl hg M hM
  rw[List.drop_eq_getElem_cons hlt]at hg
  obtain⟨h1,h2,h3,h4,h5,h6⟩:=hg
  generalize hc:l[k]=c at *
  obtain⟨gn1,gn2⟩:=yQ h6
  obtain⟨g1,g2⟩:=aIJ h6
  have hp:∀ p∈c.fParents,VZ p.fShare/\p.fNode∈bT (l.drop (k+1)):=fun p hp=>⟨.inl (h3 p hp).1,(h3 p hp).2⟩
  have hr:∀ y∈bT (l.drop (k+1)),VZ (newRow c (Cst (l.drop (k+1))) y):=fun y hy=>aHg hp g1 hy
  have hr0:newRow c (Cst (l.drop (k+1))) 0=dU 0:=aDD fun p hpp=>⟨(h3 p hpp).1,(g2 _ (h3 p hpp).2).1⟩
  have l1:=e2.len
  have hrow:∀ x∈bT (l.drop (k+1)),idx M1 (c.fNode*10+x)=some (newRow c (Cst (l.drop (k+1))) x)/\idx M1 (x*10+c.fNode)=some (newRow c (Cst (l.drop (k+1))) x):=by
   intro x hx
   rcases sZ.1 hx with rfl | ⟨d,hd,rfl⟩
   · obtain⟨z1,z2⟩:=e2.zero c.fNode (by omega) (by omega)
     rw[Int.add_zero,Int.zero_mul,Int.zero_add,hr0];exact⟨z2,z1⟩
   · exact e3 d hd
  obtain⟨y1,q1⟩:=qV (l:=M1) (i:=c.fNode*10) (by omega) (by omega)
  obtain⟨y2,q2⟩:=qV (l:=M1) (i:=c.fNode*(10:Nat)+c.fNode) (by omega) (by omega)
  have hown:=aQu c h5 ⟨by omega,by omega⟩ _ gn2 (newRow c (Cst (l.drop (k+1)))) M1 l1 (fun x hx=>(hrow x hx).2) hp hr (RD (dU 1) c.fTotal) (aDv aH5 (.inl h4)).2.2
  have e:fK l (((k+1:Nat):Int)-1,M)=some (.inl ((k:Int)-1,kT M1 (c.fNode*(10:Nat)+c.fNode) (aCB c (Cst (l.drop (k+1)))))):=by
   unfold fK
   simp only[]
   have ek:((k+1:Nat):Int)-1=(k:Int):=by omega
   rw[ek,if_pos (by omega),aK hlt,hc]
   simp only[Option.bind_some]
   rw[wi (by omega),show(k:Int)+1=((k+1:Nat):Int)by omega,e1]
   simp only[Option.bind_some]
   rw[fF 1 (by omega)]
   simp only[Option.bind_some]
   rw[(aDv aH5 (.inl h4)).2.1]
   simp only[Option.bind_some]
   rw[hown]
   simp only[Option.bind_some]
   rw[aO (by omega)]
   simp only[Option.bind_some]
   rw[q1]
   simp only[Option.bind_some]
   rw[aL,q2]
   simp only[Option.bind_some]
   rw[aL,wi (by omega)];rfl
  rw[aQ e]
  refine ih (by omega) _ ?_
  rw[List.drop_eq_getElem_cons hlt,hc]
  have i2:∀ z:Int,0<=z->idx (kT M1 (c.fNode*(10:Nat)+c.fNode) (aCB c (Cst (l.drop (k+1))))) z=if c.fNode*(10:Nat)+c.fNode=z then some (aCB c (Cst (l.drop (k+1))))else idx M1 z:=fun z hz=>yO (by omega) (by omega) hz
  refine⟨by rw[xQ,l1],fun x hx y hy=>?_,fun x hx0 hx1=>?_⟩
  · rw[xM,List.mem_append,List.mem_singleton]at hx hy
    have bx:0<=x/\x<=9:=hx.elim (gn2 x) (fun e=>by subst e;omega)
    have by_:0<=y/\y<=9:=hy.elim (gn2 y) (fun e=>by subst e;omega)
    rw[i2 _ (by omega)]
    show _=some (aGF c (Cst (l.drop (k+1))) x y)
    unfold aGF
    by_cases cx:x=c.fNode
    · rw[if_pos cx]
      by_cases cy:y=c.fNode
      · rw[if_pos cy,if_pos (by subst cx;subst cy;omega)]
      · rw[if_neg cy,if_neg (by omega),cx];exact(hrow y (hy.resolve_right cy)).1
    · rw[if_neg cx]
      by_cases cy:y=c.fNode
      · rw[if_pos cy,if_neg (by omega),cy];exact(hrow x (hx.resolve_right cx)).2
      · rw[if_neg cy,if_neg (by omega)];exact e2.get x (hx.resolve_right cx) y (hy.resolve_right cy)
  · obtain⟨z1,z2⟩:=e2.zero x hx0 hx1
    rw[i2 _ (by omega),i2 _ (by omega),if_neg (by omega),if_neg (by omega)]
    exact⟨z1,z2⟩
end Go.Ev
/- Covariances: the laws. -/
namespace Go.Ev
set_option linter.all false
theorem aLC (l:List Conditional)(a:Int)(hl:l.length<=4294967296):vD l a=some (decide (a∈bT l)):=by
 have main:∀ m k:Nat,m+k=l.length->(lp (jW l a) (k:Int)=some (.inr true)/\∃ d∈l.drop k,d.fNode=a)\/(lp (jW l a) (k:Int)=some (.inl ())/\¬∃ d∈l.drop k,d.fNode=a):=by
  intro m
  induction m with
  | zero =>
   intro k hk
   refine .inr ⟨aJ ?_,by rw[List.drop_eq_nil_of_le (by omega)];simp⟩
   unfold jW
   rw[if_neg (by omega)]
  | succ m ih =>
   intro k hk
   have hlt:k<l.length:=by omega
   rw[List.drop_eq_getElem_cons hlt]
   by_cases c:(l[k]).fNode=a
   · refine .inl ⟨aJ ?_,_,List.mem_cons_self,c⟩
     unfold jW
     rw[if_pos (by omega),aK hlt]
     simp only[Option.bind_some]
     rw[if_pos c]
   · have e:jW l a (k:Int)=some (.inl ((k+1:Nat):Int)):=by
      unfold jW
      rw[if_pos (by omega),aK hlt]
      simp only[Option.bind_some]
      rw[if_neg c,wi (by omega)];rfl
     rw[aQ e]
     rcases ih (k+1) (by omega)with⟨h1,d,h2,h3⟩ | ⟨h1,h2⟩
     · exact .inl ⟨h1,d,List.mem_cons_of_mem _ h2,h3⟩
     · refine .inr ⟨h1,?_⟩
       rintro⟨d,hd,e⟩
       rcases List.mem_cons.1 hd with rfl | hd
       · exact c e
       · exact h2 ⟨d,hd,e⟩
 have:=main l.length 0 (by omega)
 rw[List.drop_zero,show((0:Nat):Int)=0 from rfl]at this
 unfold vD
 rcases this with⟨h1,h2⟩ | ⟨h1,h2⟩
 · rw[h1]
   simp only[Option.bind_some]
   rw[decide_eq_true (sZ.2 (.inr h2))]
 · rw[h1]
   simp only[Option.bind_some]
   congr 1
   rw[decide_eq_decide,sZ]
   exact⟨fun h=>.inl h,fun h=>h.resolve_right h2⟩
noncomputable def aNn (l:List Conditional)(a b:Int):Rat:=if a∈bT l/\b∈bT l then Cst l a b else nG
theorem aPa {l:List Conditional}(h:vY l)(hn:vF l=some true)(a b:Int):kQ l a b=some (aNn l a b):=by
 have hl:=aJw h
 obtain⟨gn1,gn2⟩:=yQ h
 unfold kQ aNn
 rw[hn,aLC l a (by omega),aLC l b (by omega)]
 simp only[Option.bind_some,if_true]
 by_cases ca:a∈bT l
 · rw[decide_eq_true ca]
   simp only[if_true,Option.bind_some]
   by_cases cb:b∈bT l
   · rw[decide_eq_true cb]
     simp only[Bool.not_true,Bool.false_eq_true,if_false]
     obtain⟨M1,e1,e2,e3⟩:=aQx 10 0 (by omega) (List.replicate 100 (Rat.mk (BigInt.mk false ([])) ([]))) (by simp) (fun x h0 h1=>by omega)
     rw[show((0:Nat):Int)=0 from rfl]at e1
     rw[e1]
     simp only[Option.bind_some]
     have hM:MatIs M1 (bT (l.drop l.length)) (Cst (l.drop l.length)):=by
      rw[List.drop_length]
      refine⟨e2,fun x hx y hy=>?_,e3⟩
      simp[bT]at hx hy
      subst hx;subst hy
      exact(e3 0 (by omega) (by omega)).1
     obtain⟨M2,f1,f2⟩:=aQt l h l.length (Nat.le_refl _) M1 hM
     rw[aL,wi (by omega),f1]
     simp only[Option.bind_some]
     have ba:=gn2 _ ca
     have bb:=gn2 _ cb
     obtain⟨y,q⟩:=qV (l:=M2) (i:=a*10) (by omega) (by rw[f2.len];omega)
     rw[aO (by omega)]
     simp only[Option.bind_some]
     rw[q]
     simp only[Option.bind_some]
     rw[aO (by omega)]
     simp only[Option.bind_some]
     rw[aL,show(((10:Nat):Int))=10 from rfl,f2.get _ ca _ cb]
     simp only[Option.bind_some]
     rw[gQ _ (VZs ((aIJ h).1 _ ca _ cb)),if_pos ⟨ca,cb⟩];rfl
   · rw[decide_eq_false cb,if_neg (show ¬(a∈bT l/\b∈bT l)from fun h=>cb h.2)];rfl
 · rw[decide_eq_false ca,if_neg (show ¬(a∈bT l/\b∈bT l)from fun h=>ca h.1)];rfl
end Go.Ev
/- Covariances: the program's table is the one over the rational numbers. -/
namespace Go.Ev
set_option linter.all false
set_option maxHeartbeats 1000000
theorem aDU {T B:Nat}{q:Q}(hT:0<T)(h:Dv T q)(h1:bd B q)(b:B<=100*PP)(t:T<=PP ^ 6):cG q:=by
 have h2:=aCt h1 b
 refine aER hT h h2.1 h2.2 (by decide) (Nat.lt_of_le_of_lt (Nat.mul_le_mul_left _ t) ?_)
 rw[aML];unfold PP;decide
theorem coz:Co (fun _=>0) (fun _=>0):=⟨fun _ _=>rfl,fun {D X y} _ h=>⟨⟨by have:=uX X;grind,uX X⟩,⟨0,by simp⟩,⟨0,by simp⟩⟩⟩
theorem aJk (f:Int->Q)(t:Q)(a:List QL):lin f (a.map (yX t))=sM f (fun _=>0) a / t:=by
 rw[<- aOz,aPZ coz]
section
variable {D X T M:Nat}{v:Int}{a:List QL}{f:Int->Q}
theorem aPN (h:Arms D X v a):Dv (nm D (sm wt a)) (1 / sm wt a)/\bd D (1 / sm wt a)/\cG (1 / sm wt a):=by
 have hp:=h.pos
 have hN:=(zG h.hD hp (xX h.lk)).1
 obtain⟨n1,n2⟩:=h.nN
 have hP:=h.hP
 have d1:Dv (nm D (sm wt a)) (1 / sm wt a):=⟨(D:Int),by
  rw[hN]
  have e:((D:Int):Q)=(D:Q):=rfl
  rw[e];grind⟩
 have n1':(1:Q)<=(nm D (sm wt a):Q):=by
  have:=aIf (m:=1) (n:=nm D (sm wt a)) n1
  have e:((1:Nat):Q)=1:=rfl
  rw[e]at this;exact this
 have b1:bd D (1 / sm wt a):=aDW hp (by have:=uX D;have:=_root_.Rat.mul_nonneg this (Std.le_of_lt hp);grind) (by grind)
 exact⟨d1,b1,aDU n1 d1 b1 (by omega) (lF (a:=1) (by rw[Nat.pow_one];omega) (by omega))⟩
theorem aJ9 (h:Arms D X v a)(hf:aIB T M f)(hT:T<=PP ^ 5)(hM:M<=8*PP){s:Q}(ds:Dv (nm D (sm wt a)*T) s)(bs:bd PP s):∀ a1 a2:List QL,a=a1++a2->
 aBZ (fun u=>ofQ (f u)) (a2.map fun y=>(yX (sm wt a) y).toP) (ofQ (s+sM f (fun _=>0) a1 / sm wt a))=ofQ (s+sM f (fun _=>0) a / sm wt a)
 | a1,[],e=>by
  rw[List.append_nil]at e
  rw[List.map_nil,aBZ,<- e]
 | a1,y::a2,e=>by
  have hy:y∈a:=by rw[e];simp
  obtain⟨n1,n2⟩:=h.nN
  have hP:=h.hP
  have hX:=h.hX
  have nP:nm D (sm wt a)<=PP ^ 1:=by rw[Nat.pow_one];omega
  have pp:400<=PP:=by decide
  have NT:=tU nP hT
  have NT0:=Nat.mul_pos n1 hf.1
  obtain⟨s1,s2,s3⟩:=xY h hy
  obtain⟨f1,f2⟩:=hf.2 y.a
  have e1:y.w / sm wt a*f y.a=sM f (fun _=>0) [y] / sm wt a:=by
   unfold sM
   simp only[sm]
   grind
  obtain⟨q1,q2⟩:=aLj coz hf h (a1:=[y]) (by simpa using h.lk y hy) (by have:=wV h.lk hy;simp only[sm];unfold wt at *;grind)
  obtain⟨r1,r2⟩:=aCZ coz hf h (a1:=a1) (a2:=y::a2) e
  obtain⟨t1,t2⟩:=aCZ coz hf h (a1:=a1++[y]) (a2:=a2) (by rw[e];simp)
  have ff:=aDU hf.1 f1 f2 (by omega) (lF hT (by omega))
  have fs:=aFy n1 (by omega) (by grind) s3 s1
  have fp:cG (y.w / sm wt a*f y.a):=by rw[e1];exact aDU NT0 q1 q2 (by omega) NT
  have fa:=aDU NT0 (mA ds r1) (aBz bs r2) (by omega) NT
  have eq:s+sM f (fun _=>0) a1 / sm wt a+y.w / sm wt a*f y.a=s+sM f (fun _=>0) (a1++[y]) / sm wt a:=by
   rw[e1,aMM]
   have:=h.pos
   grind
  have fb:cG (s+sM f (fun _=>0) a1 / sm wt a+y.w / sm wt a*f y.a):=by rw[eq];exact aDU NT0 (mA ds t1) (aBz bs t2) (by omega) NT
  rw[List.map_cons,aBZ]
  have ps:(yX (sm wt a) y).toP.fShare=ofQ (y.w / sm wt a):=rfl
  have pn:(yX (sm wt a) y).toP.fNode=y.a:=rfl
  rw[ps,pn,aGS fs ff fp,aGT fa fp fb,eq]
  exact aJ9 h hf hT hM ds bs (a1++[y]) a2 (by rw[e];simp)
end
def aQ8 (T M:Nat)(C:Int->Int->Q):Prop:=0<T/\∀ a c,Dv T (C a c)/\bd M (C a c)
theorem aOk {n:NQ}{r:List NQ}{D X T M:Nat}{a:List QL}(e1:n.cond=sF n.node a)(ha:Arms D X n.node a)(h:aQ8 T M (cvQ r)):aQ8 (nm D (sm wt a)*(nm D (sm wt a)*T)) (M+2*X+D) (cvQ (n::r)):=by
 obtain⟨n1,n2⟩:=ha.nN
 have ep:n.cond.ps=a.map (yX (sm wt a)):=by rw[e1];rfl
 have et:n.cond.t=sm wt a:=by rw[e1];rfl
 obtain⟨i1,i2,_⟩:=aPN ha
 have col:∀ f:Int->Q,aIB T M f->Dv (nm D (sm wt a)*T) (lin f n.cond.ps)/\bd (M+X) (lin f n.cond.ps):=fun f hf=>by
  rw[ep,aJk]
  exact aCZ coz hf ha (a1:=a) (a2:=[]) (by simp)
 have colu:∀ u,aIB T M (cvQ r u):=fun u=>⟨h.1,fun c=>h.2 u c⟩
 have colv:∀ c,aIB T M (fun u=>cvQ r u c):=fun c=>⟨h.1,fun u=>h.2 u c⟩
 refine⟨Nat.mul_pos n1 (Nat.mul_pos n1 h.1),fun x c=>?_⟩
 rw[cvQ]
 by_cases c1:x=n.node
 · rw[if_pos c1]
   by_cases c2:c=n.node
   · rw[if_pos c2]
     have inner:aIB (nm D (sm wt a)*T) (M+X) (fun u=>lin (cvQ r u) n.cond.ps):=⟨Nat.mul_pos n1 h.1,fun u=>col _ (colu u)⟩
     have outer:Dv (nm D (sm wt a)*(nm D (sm wt a)*T)) (lin (fun u=>lin (cvQ r u) n.cond.ps) n.cond.ps)/\bd (M+X+X) (lin (fun u=>lin (cvQ r u) n.cond.ps) n.cond.ps):=by
      have:=aCZ coz inner ha (a1:=a) (a2:=[]) (by simp)
      rw[<- aJk,<- ep]at this
      exact this
     rw[et]
     exact⟨mA (uN _ i1) outer.1,aCt (aBz i2 outer.2) (by omega)⟩
   · rw[if_neg c2]
     obtain⟨g1,g2⟩:=col _ (colv c)
     exact⟨vL g1 (Nat.dvd_mul_left _ _),aCt g2 (by omega)⟩
 · rw[if_neg c1]
   by_cases c2:c=n.node
   · rw[if_pos c2]
     obtain⟨g1,g2⟩:=col _ (colv x)
     exact⟨vL g1 (Nat.dvd_mul_left _ _),aCt g2 (by omega)⟩
   · rw[if_neg c2]
     obtain⟨g1,g2⟩:=h.2 x c
     exact⟨vL g1 (Nat.dvd_trans (Nat.dvd_mul_left _ _) (Nat.dvd_mul_left _ _)),aCt g2 (by omega)⟩
theorem aKL:∀ (b:List NQ) (k:Nat),aAV k b->k+b.length<=5->∃ T,T<=epr k b.length*epr k b.length/\aQ8 T (b.length*(800+PP)) (cvQ b)
 | [],k,_,_=>⟨1,by simp[epr],by omega,fun a c=>⟨⟨0,by simp[cvQ]⟩,by unfold bd;simp[cvQ]⟩⟩
 | n::r,k,h,hk=>by
  obtain⟨⟨D,X,a,e1,ha,hD⟩,hr⟩:=h
  rw[List.length_cons]at hk
  obtain⟨T,t1,t2⟩:=aKL r (k+1) hr (by omega)
  obtain⟨n1,n2⟩:=ha.nN
  have hX:=ha.hX
  have hP:=ha.hP
  have s:=aOk e1 ha t2
  refine⟨_,?_,s.1,fun x c=>⟨(s.2 x c).1,aCt (s.2 x c).2 ?_⟩⟩
  · rw[List.length_cons,epr]
    have hN:nm D (sm wt a)<=ex k:=Nat.le_trans n2 hD
    calc nm D (sm wt a)*(nm D (sm wt a)*T)<=ex k*(ex k*(epr (k+1) r.length*epr (k+1) r.length)):=Nat.mul_le_mul hN (Nat.mul_le_mul hN t1)
     _=ex k*epr (k+1) r.length*(ex k*epr (k+1) r.length):=by simp only[Nat.mul_assoc,Nat.mul_left_comm,Nat.mul_comm]
  · have e:(r.length+1)*(800+PP)=r.length*(800+PP)+(800+PP):=Nat.succ_mul _ _
    rw[List.length_cons,e];omega
theorem aKr (n:NQ)(r:List NQ):sX (n::r)=n.cond.toC::sX r:=rfl
theorem aIh {b:List NQ}(hn:∀ n∈b,n.cond.node=n.node){u:Int}:u∈bT (sX b)↔u=0\/∃ c∈b,c.node=u:=by
 rw[sZ]
 unfold sX
 constructor
 · rintro(h | ⟨d,hd,e⟩)
   · exact .inl h
   · obtain⟨c,hc,rfl⟩:=List.mem_map.1 hd
     exact .inr ⟨c,hc,by rw[<- hn c hc];exact e⟩
 · rintro(h | ⟨c,hc,e⟩)
   · exact .inl h
   · exact .inr ⟨c.cond.toC,List.mem_map_of_mem hc,by rw[<- e];exact hn c hc⟩
theorem aPV:∀ {b:List NQ} {k:Nat},Dn b->Pin b->aAV k b->k+b.length<=5->(∀ n∈b,1<=n.node/\n.node<=9)->
 vY (sX b)/\∀ x y,(x=0\/∃ c∈b,c.node=x)->(y=0\/∃ c∈b,c.node=y)->Cst (sX b) x y=ofQ (cvQ b x y)
 | [],k,_,_,_,_,_=>⟨trivial,fun x y _ _=>by show dU 0=ofQ 0;exact aCw⟩
 | n::r,k,d,hp,hb,hk,h9=>by
  obtain⟨⟨D,X,a,e1,ha,hD⟩,hr⟩:=hb
  rw[List.length_cons]at hk
  have hpw:=(List.pairwise_cons.1 d.1).1
  obtain⟨gr,ih⟩:=aPV d.tail (hp.tail d) hr (by omega) (fun m hm=>h9 m (by simp[hm]))
  obtain⟨T,t1,t2⟩:=aKL r (k+1) hr (by omega)
  obtain⟨nn,ncn⟩:=d.2 n (by simp)
  have hn9:=h9 n (by simp)
  have rn:∀ m∈r,m.cond.node=m.node:=fun m hm=>(d.2 m (by simp[hm])).2
  have hps:∀ u∈psN n.cond,u=0\/∃ c∈r,c.node=u:=fun u hu=>by
   rcases hp n (by simp) u hu with h0 | ⟨c,hc,e⟩
   · exact .inl h0
   · rcases List.mem_cons.1 hc with rfl | hc
     · exact absurd (e▸hu) nn
     · exact .inr ⟨c,hc,e⟩
  have ep:n.cond.ps=a.map (yX (sm wt a)):=by rw[e1];rfl
  have et:n.cond.t=sm wt a:=by rw[e1];rfl
  have efp:n.cond.toC.fParents=a.map fun y=>(yX (sm wt a) y).toP:=by
   show n.cond.ps.map PQ.toP=_
   rw[ep,List.map_map];rfl
  have efn:n.cond.toC.fNode=n.node:=ncn
  have eft:n.cond.toC.fTotal=ofQ (sm wt a):=by rw[<- et];rfl
  have pin:∀ q∈n.cond.toC.fParents,q.fNode=0\/∃ c∈r,c.node=q.fNode:=fun q hq=>hps _ (by rw[<- aHe];exact List.mem_map_of_mem hq)
  have epe:=aOa (k:=k+1) (n:=r.length) (by omega)
  have tP:T<=PP ^ 4:=Nat.le_trans t1 (tU epe epe)
  have pp:400<=PP:=by decide
  have hP:=ha.hP
  have hX:=ha.hX
  obtain⟨n1,n2⟩:=ha.nN
  have nP:nm D (sm wt a)<=PP ^ 1:=by rw[Nat.pow_one];omega
  have rl:r.length<=4:=by omega
  have hM:r.length*(800+PP)<=4*(800+PP):=Nat.mul_le_mul_right _ rl
  have big:800*4<=PP:=by decide
  obtain⟨i1,i2,i3⟩:=aPN ha
  have z0:(0:Q)+sM (fun _=>0) (fun _=>0) [] / sm wt a=0:=by unfold sM;simp only[sm];grind
  have row:∀ y,(y=0\/∃ c∈r,c.node=y)->newRow n.cond.toC (Cst (sX r)) y=ofQ (lin (fun u=>cvQ r u y) n.cond.ps):=fun y hy=>by
   unfold newRow
   rw[aCz (g:=fun u=>ofQ ((fun u=>cvQ r u y) u)) fun q hq=>ih _ _ (pin q hq) hy,efp,aCw]
   have:=aJ9 ha (f:=fun u=>cvQ r u y) ⟨t2.1,fun u=>t2.2 u y⟩ (lF tP (by omega)) (by omega) (s:=0) ⟨0,by simp⟩ ⟨by have:=uX PP;grind,uX PP⟩ [] a rfl
   rw[ep,aJk]
   have e0:(0:Q)+sM (fun u=>cvQ r u y) (fun _=>0) [] / sm wt a=0:=by unfold sM;simp only[sm];grind
   rw[e0]at this
   rw[this]
   congr 1;grind
  have own:aCB n.cond.toC (Cst (sX r))=ofQ (1 / n.cond.t+lin (fun u=>lin (cvQ r u) n.cond.ps) n.cond.ps):=by
   unfold aCB
   rw[aCz (g:=fun u=>ofQ ((fun u=>lin (cvQ r u) n.cond.ps) u)) fun q hq=>by
    rw[row _ (pin q hq)]
    congr 1
    exact pA fun x _=>aBW r _ _,efp,eft]
   have ft:=ha.ftot
   have hpos:=ha.pos
   have one:dU 1=ofQ 1:=aPH
   have f1:cG 1:=aJB (z:=1) (by decide)
   rw[one,aMK f1 ft (by grind) i3]
   have inner:aIB (nm D (sm wt a)*T) (r.length*(800+PP)+X) (fun u=>lin (cvQ r u) n.cond.ps):=⟨Nat.mul_pos n1 t2.1,fun u=>by
    show Dv _ (lin (cvQ r u) n.cond.ps)/\bd _ (lin (cvQ r u) n.cond.ps)
    rw[ep,aJk]
    exact aCZ coz ⟨t2.1,fun c=>t2.2 u c⟩ ha (a1:=a) (a2:=[]) (by simp)⟩
   have:=aJ9 ha inner (lF (tU nP tP) (by omega)) (by omega) (s:=1 / sm wt a) (uN _ i1) (aCt i2 (by omega)) [] a rfl
   have e0:1 / sm wt a+sM (fun u=>lin (cvQ r u) n.cond.ps) (fun _=>0) [] / sm wt a=1 / sm wt a:=by unfold sM;simp only[sm];grind
   rw[e0]at this
   rw[this,et]
   congr 2
   rw[ep,aJk]
  have nr:∀ y,(y=0\/∃ c∈n::r,c.node=y)->¬y=n.node->(y=0\/∃ c∈r,c.node=y):=fun y hy hne=>by
   rcases hy with h0 | ⟨c,hc,e⟩
   · exact .inl h0
   · rcases List.mem_cons.1 hc with rfl | hc
     · exact absurd e.symm hne
     · exact .inr ⟨c,hc,e⟩
  refine⟨⟨by rw[efn];exact hn9,?_,fun q hq=>⟨?_,?_⟩,?_,?_,gr⟩,fun x y hx hy=>?_⟩
  · rw[efn]
    intro hm
    rcases(aIh rn).1 hm with h0 | ⟨c,hc,e⟩
    · omega
    · exact(hpw c hc).2 e.symm
  · rw[efp]at hq
    obtain⟨y,hy,rfl⟩:=List.mem_map.1 hq
    obtain⟨s1,s2,s3⟩:=xY ha hy
    have fs:cG (y.w / sm wt a):=aFy n1 (by omega) (by grind) s3 s1
    exact rH fs
  · exact(aIh rn).2 (pin q hq)
  · rw[eft];exact rH ha.ftot
  · rw[efp,List.length_map]
    have:=aGa ha.inc fun x hx=>(ha.nd x hx).1
    omega
  · rw[aKr]
    show aGF n.cond.toC (Cst (sX r)) x y=_
    unfold aGF
    rw[efn,cvQ]
    by_cases c1:x=n.node
    · rw[if_pos c1,if_pos c1]
      by_cases c2:y=n.node
      · rw[if_pos c2,if_pos c2];exact own
      · rw[if_neg c2,if_neg c2];exact row y (nr y hy c2)
    · rw[if_neg c1,if_neg c1]
      by_cases c2:y=n.node
      · rw[if_pos c2,if_pos c2];exact row x (nr x hx c1)
      · rw[if_neg c2,if_neg c2];exact ih x y (nr x hx c1) (nr y hy c2)
theorem aRp {l:List QL}{o:List Int}(h:Tie l o){a c:Int}(ha:a=0\/a∈o)(hc:c=0\/c∈o):lQ (dX l o) a c=some (ofQ (cvT l o a c)):=by
 have hz:=h.tsz
 have nb:=h.netB
 obtain⟨g,e⟩:=aPV nb.dn h.pin nb.nb (by have:=nb.len;omega) (fun n hn=>(nb.each n hn).2.1)
 obtain⟨h9,hn⟩:=aE2 h.isTree
 have e2:(dX l o).fNodes.map (·.fCond)=sX (bO l o o []):=by
  unfold dX sX
  simp only[List.map_map]
  rfl
 have net:=aRi (t:=dX l o) (by omega) (fun n hn'=>by have:=(hn n hn').2.2;omega) (by omega)
 rw[e2]at net
 unfold lQ
 rw[net]
 simp only[Option.bind_some]
 rw[aPa g nb.isNet]
 unfold aNn
 have inN:∀ u,(u=0\/u∈o)->u∈bT (sX (bO l o o [])):=fun u hu=>(aIh fun n hn=>(nb.dn.2 n hn).2).2 (hu.imp id xU)
 rw[if_pos ⟨inN a ha,inN c hc⟩,e a c (ha.imp id xU) (hc.imp id xU)]
 rfl
theorem aOl {l:List QL}{o:List Int}(h:Tie l o):∃ T,0<T/\T<=PP ^ 4/\∀ a c,Dv T (cvT l o a c)/\bd (5*(800+PP)) (cvT l o a c):=by
 have nb:=h.netB
 have hl:=nb.len
 obtain⟨T,t1,t2,t3⟩:=aKL _ 0 nb.nb (by omega)
 have ep:=aOa (k:=0) (n:=(bO l o o []).length) (by omega)
 exact⟨T,t2,Nat.le_trans t1 (tU ep ep),fun a c=>⟨(t3 a c).1,aCt (t3 a c).2 (Nat.mul_le_mul_right _ hl)⟩⟩
end Go.Ev
/- What an inserted link changes lies in the list: done. -/
namespace Go.Ev
set_option linter.all false
end Go.Ev
/- Inserting a link: the program alone. -/
namespace Go.Ev
set_option linter.all false
theorem aRl (t:Tree)(l:Link)(c:pI t)(d:ValidL l)(h:jJ t<=2097152)(hl:bR l<=1048576) :
 oU t l=some (pkI ((nW (cI t.fNodes++[l]) (gX t++yY (gX t) l)).map fun u=>(u,aGQ t [l.fA,l.fB]++yY (gX t) l))):=by
 have e2:=aJ0 t (by omega)
 obtain⟨v1,v2⟩:=gI l (by omega)
 have h0:=h
 unfold jJ lT at h0
 have hn:=iG bQ t.fNodes
 have ho:=aBL t.fNodes
 unfold oU
 rw[e2,v2]
 simp only[Option.bind_some]
 obtain⟨a2,a3⟩:=aRq c [l.fA,l.fB] (by simp)
 have o2:=aIc t (by omega)
 have l2:=aLy t (by omega)
 have hol:(gX t).length<=4194304:=by unfold gX;rw[List.length_map];omega
 have hsz:aI (cI t.fNodes++[l])<=4194304:=by
  rw[aHP]
  have:aI [l]<=1048577:=by unfold aI;rw[mC,aEL];omega
  omega
 have hne:=aNH (gX t) l
 have hsl:=iG bR (cI t.fNodes)
 have hs0:szL bR (cI t.fNodes)=aI (cI t.fNodes):=rfl
 have hol9:(gX t).length<=2097152:=by unfold gX;rw[List.length_map];omega
 obtain⟨b1,b2⟩:=aIK (cI t.fNodes++[l]) (gX t++yY (gX t) l) hsz (by rw[List.length_append];omega)
 have nI:=aMd t (by omega) l d (gX t) (aGQ t [l.fA,l.fB]) hol (by omega)
 rw[decide_eq_true c,decide_eq_true d]
 simp only[if_true,Option.bind_some,Bool.not_true,Bool.false_eq_true,if_false,o2,a2,nI,l2]
 rw[aO (by omega)]
 simp only[Option.bind_some,aL,b2]
 cases nW (cI t.fNodes++[l]) (gX t++yY (gX t) l)with
 | none=>rfl
 | some u=>rfl
end Go.Ev
/- The law of inserting. -/
namespace Go.Ev
set_option linter.all false
end Go.Ev
/- A link taken away: which nodes stay as they are. -/
namespace Go.Ev
set_option linter.all false
set_option maxHeartbeats 2000000
section
variable {l l2:List QL}{o e:List Int}{k:QL}{L:Int->Prop}
end
end Go.Ev
/- Deleting a link: what the program yields; what changes. -/
namespace Go.Ev
set_option linter.all false
set_option maxHeartbeats 1000000
section
variable {l A B:List QL}{o:List Int}{k:QL}
end
end Go.Ev
/- The law of deleting. -/
namespace Go.Ev
set_option linter.all false
set_option maxHeartbeats 1000000
end Go.Ev
/- A tree and a further order of its nodes, drawn. -/
namespace Go.Ev
set_option linter.all false
end Go.Ev
/- The law of reordering. -/
namespace Go.Ev
set_option linter.all false
set_option maxHeartbeats 1000000
theorem aIM {l:List QL}{o:List Int}(h:Tie l o){v:Int}(hv:v∈o):eH (dX l o) v=some (ofQ (cvT l o v v)):=by
 unfold eH
 rw[aRp h (.inr hv) (.inr hv)]
 try rfl
theorem xT {l:List QL}{o:List Int}(h:Tie l o)(a c:Int):cG (cvT l o a c):=by
 obtain⟨T,t1,t2,t3⟩:=aOl h
 have pp:1600<=PP:=by decide
 exact aDU t1 (t3 a c).1 (t3 a c).2 (by omega) (lF t2 (by omega))
end Go.Ev
/- Relative variances. -/
namespace Go.Ev
set_option linter.all false
set_option maxHeartbeats 1000000
def aFc (p q:Q):Int:=if p<q then -1 else if p=q then 0 else 1
theorem aOo (n m:Nat):qY n m=if n<m then -1 else if n=m then 0 else 1:=by
 unfold qY
 by_cases c:n<m
 · simp[c]
 · by_cases d:n=m <;> simp[c,d] <;> omega
theorem aKU (x y:Int)(hx:bl x<=1000)(hy:bl y<=1000):wM (big x) (big y)=some (if x<y then -1 else if x=y then 0 else 1):=by
 unfold bl at hx hy
 have i1:=aBi x.natAbs y.natAbs hx hy
 have i2:=aBi y.natAbs x.natAbs hy hx
 rw[aOo]at i1 i2
 unfold wM
 simp only[big,i1,i2,Option.bind_some]
 by_cases cx:x<0
 · by_cases cy:y<0
   · by_cases c1:y.natAbs<x.natAbs
     · have:x<y:=by omega
       simp[cx,cy,c1,this]
     · by_cases c2:y.natAbs=x.natAbs
       · have:x=y:=by omega
         simp[cx,cy,c1,c2,this]
       · have h1:¬x<y:=by omega
         have h2:¬x=y:=by omega
         simp[cx,cy,c1,c2,h1,h2]
   · have:x<y:=by omega
     simp[cx,cy,this]
 · by_cases cy:y<0
   · have h1:¬x<y:=by omega
     have h2:¬x=y:=by omega
     simp[cx,cy,h1,h2]
   · by_cases c1:x.natAbs<y.natAbs
     · have:x<y:=by omega
       simp[cx,cy,c1,this]
     · by_cases c2:x.natAbs=y.natAbs
       · have:x=y:=by omega
         simp[cx,cy,c1,c2,this]
       · have h1:¬x<y:=by omega
         have h2:¬x=y:=by omega
         simp[cx,cy,c1,c2,h1,h2]
theorem aIZ {p q:Q}(hp:cG p)(hq:cG q):tB (ofQ p) (ofQ q)=some (aFc p q):=by
 obtain⟨a1,a2,a3⟩:=kR hp
 obtain⟨b1,b2,b3⟩:=kR hq
 have c1:bl (q.den:Int)<=24:=by unfold bl;rw[Int.natAbs_natCast];exact b3
 have c2:bl (p.den:Int)<=24:=by unfold bl;rw[Int.natAbs_natCast];exact a3
 have c3:=yT p.num q.den
 have c4:=yT q.num p.den
 unfold tB
 rw[aKD hp,aKD hq]
 simp only[Option.bind_some,if_true,Bool.not_true,Bool.false_eq_true,if_false]
 unfold ofQ eU
 simp only[Option.bind_some]
 rw[zM,zM,uK p.num q.den (by omega) (by omega) (by omega),uK q.num p.den (by omega) (by omega) (by omega)]
 simp only[Option.bind_some]
 rw[aKU _ _ (by omega) (by omega)]
 simp only[Option.bind_some]
 congr 1
 unfold aFc
 have e1:(p.num*(q.den:Int)<q.num*(p.den:Int))↔p<q:=(_root_.Rat.lt_iff p q).symm
 have e2:(p.num*(q.den:Int)=q.num*(p.den:Int))↔p=q:=by
  constructor
  · intro h
    have h1:p<=q:=(_root_.Rat.le_iff p q).2 (by omega)
    have h2:q<=p:=(_root_.Rat.le_iff q p).2 (by omega)
    grind
  · rintro rfl;rfl
 simp only[e1,e2]
theorem aJW {p q:Q}(hp:cG p)(hq:cG q):tE (ofQ p) (ofQ q)=some (aFc p q):=by
 unfold tE
 rw[aRh hp,aRh hq]
 simp only[Option.bind_some,if_true,Bool.not_true,Bool.false_eq_true,if_false]
 rw[aIZ hp hq]
 try rfl
theorem aLa {p q:Q}:aFc p q<=0↔p<=q:=by
 unfold aFc
 constructor
 · intro h
   split at h
   · grind
   · split at h
     · grind
     · omega
 · intro h
   split
   · omega
   · split
     · omega
     · grind
section
variable {l:List QL}{o:List Int}
end
end Go.Ev
/- The law of relative variances. -/
namespace Go.Ev
set_option linter.all false
set_option maxHeartbeats 1000000
theorem aQe {q:Q}(h:cG q):∃ s,jQ (ofQ q)=some s/\(0<s↔0<q):=by
 have:=nF (sP h)
 exact⟨_,(vK (ofQ q) (by omega)).2,aHU h⟩
end Go.Ev
/- The law of an additional link. -/
namespace Go.Ev
set_option linter.all false
set_option maxHeartbeats 1000000
theorem aIU {p q:Q}:0<aFc p q↔q<p:=by
 unfold aFc
 constructor
 · intro h
   split at h
   · omega
   · split at h
     · omega
     · grind
 · intro h
   split
   · grind
   · split
     · grind
     · omega
section
variable {l:List QL}{o:List Int}
theorem aQH (h:Tie l o):lR (dX l o)=some (o.map fun v=>ofQ (cvT l o v v)):=by
 have nl:=aDK l o
 have ol:=h.base.len
 have main:∀ (rem pre:List Int),o=pre++rem->lp (gG (dX l o)) ((pre.length:Int),pre.map fun v=>ofQ (cvT l o v v))=some (o.map fun v=>ofQ (cvT l o v v)):=by
  intro rem
  induction rem with
  | nil =>
   intro pre e
   rw[List.append_nil]at e
   rw[<- e]
   exact aJ (by unfold gG;simp only[];rw[if_neg (by omega)])
  | cons v r ih =>
   intro pre e
   have hg:=aNA (l:=l) e
   obtain⟨hk,hgk⟩:=List.getElem?_eq_some_iff.1 hg
   have e2:o=(pre++[v])++r:=by rw[e,List.append_assoc];rfl
   have hv:v∈o:=by rw[e];simp
   have pl:pre.length<=5:=by omega
   have st:gG (dX l o) ((pre.length:Int),pre.map fun v=>ofQ (cvT l o v v))=some (.inl (((pre++[v]).length:Int),(pre++[v]).map fun v=>ofQ (cvT l o v v))):=by
    unfold gG
    simp only[]
    rw[if_pos (by omega),aK hk,hgk]
    simp only[Option.bind_some]
    have en:(nxt l o v (bO l o pre [])).toN.fNode=v:=rfl
    rw[en,aIM h hv]
    simp only[Option.bind_some,aL]
    rw[aO (by rw[List.length_map];omega),wi (n:=(pre.length:Int)+1) (by omega)]
    simp
   rw[aQ st]
   exact ih (pre++[v]) e2
 have m0:=main o [] rfl
 simp only[List.length_nil,List.map_nil]at m0
 unfold lR
 rw[show((0:Nat):Int)=0 from rfl]at m0
 rw[m0]
 rfl
theorem aMp (a:List Rat)(hl:a.length<=1000)(h:∀ r∈a,cM r=some true):uC a=some true:=by
 have main:∀ m k:Nat,m+k=a.length->lp (oP a) (k:Int)=some (.inl ()):=by
  intro m
  induction m with
  | zero=>intro k hk;exact aJ (by unfold oP;rw[if_neg (by omega)])
  | succ m ih =>
   intro k hk
   have hlt:k<a.length:=by omega
   rw[aQ (s':=((k+1:Nat):Int))]
   · exact ih (k+1) (by omega)
   · unfold oP
     rw[if_pos (by omega),aK hlt]
     simp only[Option.bind_some]
     rw[h _ (List.getElem_mem hlt)]
     simp only[Option.bind_some,if_true]
     rw[wi (n:=(k:Int)+1) (by omega)];rfl
 have:=main a.length 0 (by omega)
 unfold uC
 rw[show((0:Nat):Int)=0 from rfl]at this
 rw[this]
 rfl
theorem aPP (h:Tie l o)(hop:0<o.length){sg:Int}{R:Q->Q->Prop}(hr:∀ p,R p p)(ht:∀ p q r,R p q->R q r->R p r)(hs:∀ p q,aFc p q=sg->R p q):∃ v,kA (dX l o) sg=some v/\v∈o/\R (cvT l o v v) (cvT l o o[0] o[0]):=by
 have nl:=aDK l o
 have ol:=h.base.len
 have ml:(o.map fun v=>ofQ (cvT l o v v)).length=o.length:=List.length_map ..
 have main:∀ m k b:Nat,m+k=o.length->(hb:b<o.length)->R (cvT l o o[b] o[b]) (cvT l o o[0] o[0])->∃ (b':Nat) (hb':b' < o.length),lp (gT sg (o.map fun v=>ofQ (cvT l o v v))) ((b:Int),(k:Int))=some (b':Int)/\R (cvT l o o[b'] o[b']) (cvT l o o[0] o[0]):=by
  intro m
  induction m with
  | zero =>
   intro k b hk hb hR
   exact⟨b,hb,aJ (by unfold gT;simp only[];rw[if_neg (by omega)]),hR⟩
  | succ m ih =>
   intro k b hk hb hR
   have hlt:k<o.length:=by omega
   have st:gT sg (o.map fun v=>ofQ (cvT l o v v)) ((b:Int),(k:Int))=some (.inl (if aFc (cvT l o o[k] o[k]) (cvT l o o[b] o[b])=sg then(k:Int)else(b:Int),((k+1:Nat):Int))):=by
    unfold gT
    simp only[]
    rw[if_pos (by omega),aK (by omega:k<(o.map fun v=>ofQ (cvT l o v v)).length),List.getElem_map]
    simp only[Option.bind_some]
    rw[aK (by omega:b<(o.map fun v=>ofQ (cvT l o v v)).length),List.getElem_map]
    simp only[Option.bind_some]
    rw[aIZ (xT h _ _) (xT h _ _)]
    simp only[Option.bind_some]
    rw[wi (n:=(k:Int)+1) (by omega)]
    split <;> rfl
   rw[aQ st]
   by_cases c:aFc (cvT l o o[k] o[k]) (cvT l o o[b] o[b])=sg
   · rw[if_pos c]
     exact ih (k+1) k (by omega) hlt (ht _ _ _ (hs _ _ c) hR)
   · rw[if_neg c]
     exact ih (k+1) b (by omega) hb hR
 obtain⟨b',hb',e1,e2⟩:=main o.length 0 0 (by omega) hop (hr _)
 refine⟨o[b'],?_,List.getElem_mem hb',e2⟩
 unfold kA
 rw[aQH h]
 simp only[Option.bind_some]
 rw[if_neg (by omega),aMp _ (by omega) (fun r hr'=>by
  obtain⟨v,_,rfl⟩:=List.mem_map.1 hr'
  exact aKD (xT h v v))]
 simp only[Option.bind_some,Bool.not_true,Bool.false_eq_true,if_false]
 rw[show((0:Nat):Int)=0 from rfl]at e1
 rw[e1]
 simp only[Option.bind_some]
 have hn:b' < (dX l o).fNodes.length:=by omega
 rw[aK hn]
 simp only[Option.bind_some]
 have eo:=aCy l o
 unfold gX at eo
 have:((dX l o).fNodes.map (·.fNode))[b']?=o[b']?:=by rw[eo]
 rw[List.getElem?_map,List.getElem?_eq_getElem hn,List.getElem?_eq_getElem hb']at this
 exact this
end
theorem aOQ (code:List Int)(_:okL (okI .u8) code):tZ code=some true:=by
 unfold tZ
 by_cases big:(1048576:Int)<(code.length:Int)
 · rw[if_pos big]
 rw[if_neg big]
 obtain⟨n,l,o,e1,hl,hn,ht⟩:=aQd code (by omega)
 obtain⟨k,e2,hk,hk3⟩:=aQr code (by omega)
 have hT:=ht.isTree
 have hz:=ht.tsz
 have nl:=aDK l o
 have eo:=aCy l o
 have kf:k.fit:=aF2 (D:=1) (X:=20) (by omega) (by decide) hk.lk.1 (by omega) (by omega) (by have:=hk.lk.2.2;grind)
 have kv:ValidL k.toL:=(aDz kf).2 ⟨by have:=hk.1;omega,by have:=hk.1;omega,hk.1.2.1,hk.lk.1.sc.1⟩
 have ei:=aRl (dX l o) k.toL hT kv (by omega) (by have:=kv.sz;omega)
 rw[eo]at ei
 have o5:=ht.base.len
 have ho:o≠[]:=by
  obtain⟨x,hx,e⟩:=hl.all 1 (by omega) (by omega)
  intro e2
  have:=(ht.mem 1).2 ⟨by omega,x,hx,.inr e⟩
  rw[e2]at this;cases this
 have hop:0<o.length:=List.length_pos_iff.2 ho
 rw[e1];simp only[Option.bind_some]
 rw[e2];simp only[Option.bind_some]
 rw[ei];simp only[Option.bind_some]
 by_cases J:k.a=0\/k.a∈o\/k.b∈o
 · obtain⟨ht2,eb⟩:=aKB ht (by have:=hl.len;omega) hk J
   rw[eb]
   simp only[Option.map_some,pkI,if_true]
   rw[aIc _ (by omega),eo]
   simp only[Option.bind_some]
   have loop:∀ m j:Nat,m+j=o.length->lp (lH o (dX (aDj l o++[k]) (o++yY o k.toL),aGQ (dX l o) [k.toL.fA,k.toL.fB]++yY o k.toL,true) (dX l o)) (j:Int)=some (.inl ()):=by
    intro m
    induction m with
    | zero=>intro j hj;exact aJ (by unfold lH;rw[if_neg (by omega)])
    | succ m ih =>
     intro j hj
     have hlt:j<o.length:=by omega
     have hm:=List.getElem_mem hlt
     have hm2:o[j]∈o++yY o k.toL:=List.mem_append_left _ hm
     have f1:=xT ht2 o[j] o[j]
     have f2:=xT ht o[j] o[j]
     have le:=aOg ht ht2 (k:=k) (ht.inPerm.append_right _) hk.lk.1.sc.1 hm hm2
     have pos:=aPi ht2 hm2
     obtain⟨s,g1,g2⟩:=aQe f1
     refine(aQ (s':=((j+1:Nat):Int)) ?_).trans (ih (j+1) (by omega))
     unfold lH
     rw[if_pos (by omega),aK hlt]
     simp only[Option.bind_some]
     rw[aIM ht2 hm2,aIM ht hm]
     simp only[Option.bind_some]
     rw[aJW f1 f2]
     simp only[Option.bind_some]
     rw[if_neg (fun h=>by have:=aIU.1 h;grind),g1]
     simp only[Option.bind_some]
     rw[decide_eq_false (by have:=g2.2 pos;omega)]
     simp only[Option.bind_some,Bool.false_eq_true,if_false]
     rw[wi (n:=(j:Int)+1) (by omega)];rfl
   have lz:=loop o.length 0 (by omega)
   rw[show((0:Nat):Int)=0 from rfl]at lz
   rw[lz]
   simp only[Option.bind_some]
   obtain⟨a,a1,a2,a3⟩:=aPP ht hop (sg:=-1) (R:=fun p q=>p<=q) (fun p=>by grind) (fun p q r=>by grind) (fun p q h=>aLa.1 (by omega))
   obtain⟨b,b1,b2,b3⟩:=aPP ht hop (sg:=1) (R:=fun p q=>q<=p) (fun p=>by grind) (fun p q r=>by grind) (fun p q h=>by have:=aIU.1 (show 0<aFc p q by omega);grind)
   have ea:mU (dX l o)=some a:=by unfold mU;rw[a1];rfl
   have eb2:lP (dX l o)=some b:=by unfold lP;rw[b1];rfl
   rw[ea];simp only[Option.bind_some]
   rw[eb2];simp only[Option.bind_some]
   rw[if_pos (by have:=(ht.five a a2).1;omega),if_pos (by have:=(ht.five b b2).1;omega),aIM ht a2,aIM ht b2]
   simp only[Option.bind_some]
   rw[aJW (xT ht a a) (xT ht b b)]
   simp only[Option.bind_some]
   rw[decide_eq_true (aLa.2 (by grind))]
 · rw[aMm ht hk (fun h=>J (.inl h)) (fun h=>J (.inr (.inl h))) (fun h=>J (.inr (.inr h)))]
   simp[pkI,aJ0 _ (show jJ (dX l o)<=4194304 by omega),hT]
end Go.Ev
