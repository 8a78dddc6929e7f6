/- Parts VZ, CA, CB, PU1, PU2, PU3, PU4, CC, VM, VN, VO, WA, WB, WC, CF, CG. -/
import Derived.Test.YtlhoochohnnepaaGreatPb4
import Derived.Test.YtlhoochohnnepaaGreatPb1
import Derived.Test.YtlhoochohnnepaaGreatPb2
set_option linter.all false
/- The energy of a tree: the program. -/
namespace Go.Ev
set_option linter.all false
set_option maxHeartbeats 1000000
theorem aMa {l l':List QL}{o o':List Int}(h:Tie l o)(h':Tie l' o')(ho:o'.Perm o):uU (aI l o o [])=uU (aI l' o' o' []):=by
 have one:∀ {l l':List QL} {o o':List Int},Tie l o->Tie l' o'->(∀ u∈o,u∈o')->uU (aI l o o [])<=uU (aI l' o' o' []):=by
  intro l l' o o' h h' hs
  obtain⟨f1,f2,f3⟩:=aDw (aI l o o []) 0
  obtain⟨g1,g2,g3⟩:=aDw (aI l' o' o' []) 0
  unfold uU
  rcases f3 with f3 | ⟨n,hn,e⟩
  · omega
  · obtain⟨c,hc,e2⟩:=pR (l:=l') (hs _ ((h.dn).2 n hn).1)
    have:=g2 c hc
    omega
 have a:=one h h' fun u hu=>ho.mem_iff.2 hu
 have b:=one h' h fun u hu=>ho.mem_iff.1 hu
 omega
theorem aO1 {l l':List QL}{o o':List Int}(h:Tie l o)(h':Tie l' o')(hl:l'.Perm l)(ho:o'.Perm o):yZ (uU (aI l o o [])).toNat (aI l o o [])=yZ (uU (aI l' o' o' [])).toNat (aI l' o' o' []):=by
 obtain⟨hs,_⟩:=aI6 h h' hl ho
 rw[<- aMa h h' ho]
 apply List.ext_getElem
 · rw[wL,wL]
 · intro i hi1 hi2
   rw[aAL,aAL]
   have e1:ptQ (sol (·.x) (aI l o o [])) (sol (·.y) (aI l o o [])) (i:Int)=ptQ (sol (·.x) (aI l' o' o' [])) (sol (·.y) (aI l' o' o' [])) (i:Int):=by
    unfold ptQ
    rw[(hs i).1,(hs i).2]
   have anyI:∀ {l:List QL} {o:List Int},Tie l o->((aI l o o []).any fun c=>decide (c.node=(i:Int)))=decide ((i:Int)∈o):=fun {l o} h=>by
    rw[Bool.eq_iff_iff,List.any_eq_true,decide_eq_true_eq]
    constructor
    · rintro⟨c,hc,e⟩
      rw[<- of_decide_eq_true e];exact((h.dn).2 c hc).1
    · intro hi
      obtain⟨c,hc,e⟩:=pR (l:=l) hi
      exact⟨c,hc,decide_eq_true e⟩
   rw[e1,anyI h,anyI h',decide_eq_decide.2 (ho.mem_iff (a:=(i:Int))).symm]
theorem aRg:∀ {k m:Nat},k+m<=5->epr 0 k*epr 0 k*ex' k ^ (tri (m+1)+1)<=PP ^ 6:=by
 have:∀ k,k<=5->∀ m,m<=5-k->epr 0 k*epr 0 k*ex' k ^ (tri (m+1)+1)<=PP ^ 6:=by unfold PP ex' ex;decide
 intro k m h
 exact this k (by omega) m (by omega)
theorem aRm {x:QL}{p q:Int->Q}{T:Nat}(hx:LkI x)(hp:∀ u,Dv T (p u))(hq:∀ u,Dv T (q u)):Dv (T*T) (eP p q x):=by
 obtain⟨_,w,a,b,_,_,_,e1,e2,e3⟩:=hx
 have up:∀ z:Int,Dv T (z:Q):=fun z=>by have:=pP T (aD7 z);rwa [Nat.one_mul]at this
 have d1:Dv T (p x.b-p x.a-x.x):=uK (uK (hp _) (hp _)) (by rw[e2];exact up _)
 have d2:Dv T (q x.b-q x.a-x.y):=uK (uK (hq _) (hq _)) (by rw[e3];exact up _)
 have:=vM (aD7 w) (kT (vM d1 d1) (vM d2 d2))
 rw[Nat.one_mul]at this
 unfold eP sqQ
 rw[e1];exact this
theorem aPX (x:QL):eP (fun _=>0) (fun _=>0) x=enQ x:=by
 unfold eP enQ sqQ
 grind
section
variable {l:List QL}{o pre rem:List Int}
theorem aPf (h:Tie l o)(e:o=pre++rem):Dv (dU (fun c:NQ=>c.den*pn c.den c.msgs) ((aI l o pre []).filter (iS rem))) (sm enQ (dO ((aI l o pre []).filter (iS rem))))/\
 0<dU (fun c:NQ=>c.den*pn c.den c.msgs) ((aI l o pre []).filter (iS rem))/\dU (fun c:NQ=>c.den*pn c.den c.msgs) ((aI l o pre []).filter (iS rem))<=ex' pre.length ^ (tri (rem.length+1)+1)/\
 0<=sm enQ (dO ((aI l o pre []).filter (iS rem)))/\sm enQ (dO ((aI l o pre []).filter (iS rem)))<=((10 ^ 9:Nat):Q)/\
 (∀ x∈dO ((aI l o pre []).filter (iS rem)),(x.a=0\/x.a∈rem)/\(x.b=0\/x.b∈rem)):=by
 have ti:=TInv.at h.base h.gr pre.length pre rem rfl e
 have hbl:(aI l o pre []).length=pre.length:=by rw[xQ];simp
 have ol:=h.base.len
 have lens:pre.length+rem.length<=5:=by rw[e]at ol;simpa using ol
 have nd:=h.nd
 have five:=h.five
 have nV:(0::rem).Nodup:=by
  rw[List.nodup_cons]
  refine⟨fun h0=>?_,?_⟩
  · have:=(five 0 (by rw[e];simp[h0])).1;omega
  · rw[e]at nd;exact(List.nodup_append.1 nd).2.1
 have lv:∀ c∈(aI l o pre []).filter (iS rem),c∈aI l o pre []/\c.up∈rem:=fun c hc=>by
  rw[List.mem_filter]at hc
  exact⟨hc.1,of_decide_eq_true hc.2⟩
 have mem:∀ x∈dO ((aI l o pre []).filter (iS rem)),∃ c∈(aI l o pre []).filter (iS rem),x∈c.msgs:=fun x hx=>List.mem_flatMap.1 hx
 have wnn:∀ x∈dO ((aI l o pre []).filter (iS rem)),0<x.w:=fun x hx=>by
  obtain⟨c,hc,hm⟩:=mem x hx
  exact((ti.msg c (lv c hc).1 (lv c hc).2).1 x hm).sc.1
 have w72:sm wt (dO ((aI l o pre []).filter (iS rem)))<=72:=by
  have:=ti.wtt
  have n2:0<=sm wt (l.filter fun x=>decide (aR o [x.a,x.b]∈rem)):=iX fun y hy=>(h.base.lk y (List.mem_filter.1 hy).1).1
  grind
 have w1:∀ x∈dO ((aI l o pre []).filter (iS rem)),x.w<=72:=fun x hx=>by
  have:=aH1 (f:=wt) (fun y hy=>by have:=wnn y hy;unfold wt;grind) x hx
  unfold wt at *;grind
 have each:∀ c∈(aI l o pre []).filter (iS rem),0<c.den*pn c.den c.msgs/\c.den*pn c.den c.msgs<=(72*c.den) ^ (tri (rem.length+1)+1):=fun c hc=>by
  obtain⟨m1,m2⟩:=ti.msg c (lv c hc).1 (lv c hc).2
  obtain⟨p1,p2,p3,p4⟩:=ti.ps c (lv c hc).1 (lv c hc).2
  have hd:=ti.den c (lv c hc).1 (lv c hc).2
  have l1:=aC1 nV m2 (fun x hx=>⟨p1 _ (p3 x hx).1,p1 _ (p3 x hx).2.1,(p3 x hx).2.2⟩)
  have eV:(0::rem).length=rem.length+1:=rfl
  rw[eV]at l1
  have l2:=aCG (K:=rem.length+1) (by omega)
  have l3:=aFH (W:=72) hd (fun x hx=>(m1 x hx).sc) (fun x hx=>w1 x (List.mem_flatMap.2 ⟨c,hc,hx⟩))
  refine⟨Nat.mul_pos hd (aCK hd fun x hx=>(m1 x hx).sc),?_⟩
  rw[Nat.pow_succ,Nat.mul_comm ((72*c.den) ^ _)]
  exact Nat.mul_le_mul (by omega) (Nat.le_trans l3 (Nat.pow_le_pow_right (by omega) (by omega)))
 refine⟨?_,xT fun c hc=>(each c hc).1,?_,?_,?_,?_⟩
 · refine aGL fun x hx=>?_
   obtain⟨c,hc,hm⟩:=mem x hx
   obtain⟨m1,m2⟩:=ti.msg c (lv c hc).1 (lv c hc).2
   have hd:=ti.den c (lv c hc).1 (lv c hc).2
   exact sY (aJ7 hd (m1 x hm).sc) (Nat.dvd_trans (Nat.mul_dvd_mul_left _ (aFG _ x hm)) (aBY (f:=fun c:NQ=>c.den*pn c.den c.msgs) hc))
 · refine Nat.le_trans (aFF (g:=fun c:NQ=>(72*c.den) ^ (tri (rem.length+1)+1)) fun c hc=>(each c hc).2) ?_
   rw[aDR]
   have:=ti.prod
   rw[hbl]at this
   exact Nat.pow_le_pow_left this _
 · exact mK fun x hx=>aB7 (wnn x hx)
 · have le:sm enQ (dO ((aI l o pre []).filter (iS rem)))<=sm (fun x=>((2*(320*320):Nat):Q)*wt x) (dO ((aI l o pre []).filter (iS rem))):=aM6 fun x hx=>by
    obtain⟨c,hc,hm⟩:=mem x hx
    have m1:=(ti.msg c (lv c hc).1 (lv c hc).2).1 x hm
    have hX:20*2 ^ (aI l o pre []).length<=640:=by
     rw[hbl]
     calc 20*2 ^ pre.length<=20*2 ^ 5:=Nat.mul_le_mul_left _ (Nat.pow_le_pow_right (by omega) (by omega))
      _=640:=rfl
    have rl:1<=rem.length:=by
     have:=(lv c hc).2
     exact List.length_pos_of_mem this
    have hX:20*2 ^ (aI l o pre []).length<=320:=by
     rw[hbl]
     calc 20*2 ^ pre.length<=20*2 ^ 4:=Nat.mul_le_mul_left _ (Nat.pow_le_pow_right (by omega) (by omega))
      _=320:=rfl
    exact aPW (aKa m1 (Nat.dvd_refl _) hX)
   rw[aKq]at le
   have k1:((2*(320*320):Nat):Q)*sm wt (dO ((aI l o pre []).filter (iS rem)))<=((2*(320*320):Nat):Q)*72:=_root_.Rat.mul_le_mul_of_nonneg_left w72 (tV _)
   have k2:((2*(320*320):Nat):Q)*72=((2*(320*320)*72:Nat):Q):=(_root_.Rat.natCast_mul _ _).symm
   have k3:((2*(320*320)*72:Nat):Q)<=((10 ^ 9:Nat):Q):=aCN (by decide)
   grind
 · intro x hx
   obtain⟨c,hc,hm⟩:=mem x hx
   obtain⟨p1,p2,p3,p4⟩:=ti.ps c (lv c hc).1 (lv c hc).2
   exact⟨List.mem_cons.1 (p1 _ (p3 x hm).1),List.mem_cons.1 (p1 _ (p3 x hm).2.1)⟩
theorem aFi (h:Tie l o)(e:o=pre++rem):bX (sn (fun n=>n.enQ) (aI l o pre [])):=by
 obtain⟨L1,L2,L3,L4,L5,L6⟩:=aPf h e
 have ol:=h.base.len
 have lens:pre.length+rem.length<=5:=by rw[e]at ol;simpa using ol
 have hbl:(aI l o pre []).length=pre.length:=by rw[xQ];simp
 obtain⟨d,f⟩:=aHV h pre.length pre rem rfl e
 obtain⟨T,t1,t2,t3⟩:=aEV (aI l o pre []) 0 (aBh h.base h.gr pre.length pre rem rfl e)
 rw[hbl]at t1
 have E:=aET (sol (·.x) (aI l o pre [])) (sol (·.y) (aI l o pre [])) h.base h.gr pre.length pre rem rfl e
 have E0:=aET (fun _=>0) (fun _=>0) h.base h.gr pre.length pre rem rfl e
 rw[aKo]at E E0
 rw[aH0 (f:=fun n=>cdE (sol (·.x) (aI l o pre [])) (sol (·.y) (aI l o pre [])) n.cond) fun n hn=>by
  have e1:=aFk (·.x) d n hn
  have e2:=aFk (·.y) d n hn
  unfold cdE
  rw[(d.2 n hn).2,e1,e2]
  unfold sqQ
  grind]at E
 have nd:=h.nd
 rw[e]at nd
 have out:∀ (g:PQ->Q) (u:Int),(u=0\/u∈rem)->sol g (aI l o pre []) u=0:=fun g u hu=>zC g _ u fun n hn en=>by
  have hp:=(f n hn).1
  rcases hu with rfl | hu
  · have:=(h.five n.node (by rw[e];simp[hp])).1;omega
  · exact(List.nodup_append.1 nd).2.2 _ hp _ hu en
 have congrL:∀ (b:List QL) (p q:Int->Q),(∀ x∈b,eP p q x=enQ x)->sm (eP p q) b=sm enQ b:=by
  intro b p q hb
  induction b with
  | nil=>rfl
  | cons x b ih=>rw[sm,sm,hb x (by simp),ih fun y hy=>hb y (by simp[hy])]
 have eL:sm (eP (sol (·.x) (aI l o pre [])) (sol (·.y) (aI l o pre []))) (dO ((aI l o pre []).filter (iS rem)))=sm enQ (dO ((aI l o pre []).filter (iS rem))):=congrL _ _ _ fun x hx=>by
  obtain⟨a1,a2⟩:=L6 x hx
  unfold eP enQ sqQ
  rw[out _ _ a1,out _ _ a1,out _ _ a2,out _ _ a2]
  grind
 have e0L:=congrL (dO ((aI l o pre []).filter (iS rem))) (fun _=>0) (fun _=>0) fun x _=>aPX x
 have e0F:=congrL (l.filter fun x=>decide (aR o [x.a,x.b]∈pre)) (fun _=>0) (fun _=>0) fun x _=>aPX x
 rw[eL]at E
 rw[e0L,e0F]at E0
 have lkF:∀ x∈l.filter (fun x=>decide (aR o [x.a,x.b]∈pre)),Lk 1 20 x:=fun x hx=>(h.base.lk x (List.mem_filter.1 hx).1).1
 have wF:sm wt (l.filter fun x=>decide (aR o [x.a,x.b]∈pre))<=72:=by
  have s:=aBl wt (fun x=>decide (aR o [x.a,x.b]∈pre)) l
  have n2:0<=sm wt (l.filter fun x=>!decide (aR o [x.a,x.b]∈pre)):=iX fun y hy=>(h.base.lk y (List.mem_filter.1 hy).1).1
  have:=h.base.hw
  grind
 obtain⟨s1,s2⟩:=uG lkF (by omega) wF
 have cd0:=aBT (f:=fun n=>cdE (fun _=>0) (fun _=>0) n.cond) (l:=aI l o pre []) fun n hn=>aK2 _ _ (f n hn).2.1
 have nnF:0<=sm (eP (sol (·.x) (aI l o pre [])) (sol (·.y) (aI l o pre []))) (l.filter fun x=>decide (aR o [x.a,x.b]∈pre)):=mK fun x hx=>aRl _ _ (lkF x hx).sc.1
 have dF:Dv (T*T) (sm (eP (sol (·.x) (aI l o pre [])) (sol (·.y) (aI l o pre []))) (l.filter fun x=>decide (aR o [x.a,x.b]∈pre))):=aGL fun x hx=>aRm (h.lk x (List.mem_filter.1 hx).1) (fun u=>(t2.2 u).1) (fun u=>(t3.2 u).1)
 have eP':sn (fun n=>n.enQ) (aI l o pre [])=sm (eP (sol (·.x) (aI l o pre [])) (sol (·.y) (aI l o pre []))) (l.filter fun x=>decide (aR o [x.a,x.b]∈pre))-sm enQ (dO ((aI l o pre []).filter (iS rem))):=by grind
 have k8:((10 ^ 8:Nat):Q)<=((10 ^ 10:Nat):Q):=aCN (by decide)
 have k9:((10 ^ 9:Nat):Q)<=((10 ^ 10:Nat):Q):=aCN (by decide)
 have dd:Dv (T*T*dU (fun c:NQ=>c.den*pn c.den c.msgs) ((aI l o pre []).filter (iS rem))) (sn (fun n=>n.enQ) (aI l o pre [])):=by
  rw[eP']
  exact uK (pP _ dF) (by rw[Nat.mul_comm];exact pP _ L1)
 refine gT (B:=10 ^ 10) (Nat.mul_pos (Nat.mul_pos t2.1 t2.1) L2) dd ⟨?_,?_⟩ (by decide) (by decide) ?_
 · rw[eP'];grind
 · grind
 · exact Nat.le_trans (Nat.mul_le_mul (Nat.mul_le_mul t1 t1) L3) (aRg lens)
end
theorem aNC {l:List QL}{o p:List Int}{v:Int}{r:List Int}(h:Tie l o)(e:o=p++v::r):bX (nxt l o v (aI l o p [])).enQ:=((TInv.at h.base h.gr p.length p (v::r) rfl e).next h.base).2.2
theorem aJM {l:List QL}{o:List Int}(h:Tie l o):lB (gR l o)=some (ofQ (sn (fun n=>n.enQ) (aI l o o []))):=by
 have nl:=aHm l o
 have ol:=h.base.len
 have main:∀ (rem pre:List Int),o=pre++rem->lp (iB (gR l o)) ((pre.length:Int),ofQ (sn (fun n=>n.enQ) (aI l o pre [])))=some (ofQ (sn (fun n=>n.enQ) (aI l o o []))):=by
  intro rem
  induction rem with
  | nil =>
   intro pre e
   rw[List.append_nil]at e
   have e':aI l o pre []=aI l o o []:=congrArg (fun z=>aI l o z []) e.symm
   rw[e']
   have:pre.length=o.length:=by rw[e]
   exact aN (by unfold iB;simp only[];rw[if_neg (by omega)])
  | cons v r ih =>
   intro pre e
   have hg:=aNE (l:=l) e
   obtain⟨hk,hgk⟩:=List.getElem?_eq_some_iff.1 hg
   have e2:o=(pre++[v])++r:=by rw[e,List.append_assoc];rfl
   have f1:=aFi h e
   have f2:=aNC h e
   have f3:=aFi h e2
   have es:sn (fun n=>n.enQ) (aI l o (pre++[v]) [])=sn (fun n=>n.enQ) (aI l o pre [])+(nxt l o v (aI l o pre [])).enQ:=by
    rw[uT,aKn];simp only[sn];grind
   rw[es]at f3
   have pl:pre.length<=5:=by omega
   have st:iB (gR l o) ((pre.length:Int),ofQ (sn (fun n=>n.enQ) (aI l o pre [])))=some (.inl (((pre++[v]).length:Int),ofQ (sn (fun n=>n.enQ) (aI l o (pre++[v]) [])))):=by
    unfold iB
    simp only[]
    rw[if_pos (by omega),aM hk,hgk]
    simp only[Option.bind_some]
    have ee:(nxt l o v (aI l o pre [])).toN.fEnergy=ofQ (nxt l o v (aI l o pre [])).enQ:=rfl
    rw[ee,aGB f1 f2 f3]
    simp only[Option.bind_some]
    rw[wi (n:=(pre.length:Int)+1) (by omega),es]
    simp
   rw[aS st]
   exact ih (pre++[v]) e2
 have m0:=main o [] rfl
 unfold lB
 rw[dH 0 (by omega),aAy]
 simp only[Option.bind_some]
 have:sn (fun n=>n.enQ) (aI l o [] [])=0:=rfl
 rw[this]at m0
 simp only[List.length_nil]at m0
 rw[show((0:Nat):Int)=0 from rfl]at m0
 rw[m0]
 rfl
end Go.Ev
/- Covariances of a tree over the rational numbers. -/
namespace Go.Ev
set_option linter.all false
def lin (f:Int->Q):List PQ->Q
 | []=>0
 | x::r=>x.s*f x.node+lin f r
theorem pD {f f':Int->Q}:∀ {ps:List PQ},(∀ x∈ps,f x.node=f' x.node)->lin f ps=lin f' ps
 | [],_=>rfl
 | x::r,h=>by rw[lin,lin,h x (by simp),pD fun y hy=>h y (by simp[hy])]
theorem aIw (f g:Int->Q):∀ ps:List PQ,lin (fun u=>f u-g u) ps=lin f ps-lin g ps
 | []=>by simp only[lin];grind
 | x::r=>by rw[lin,lin,lin,aIw f g r];grind
theorem aIx (k:Q)(f:Int->Q):∀ ps:List PQ,lin (fun u=>k*f u) ps=k*lin f ps
 | []=>by simp only[lin];grind
 | x::r=>by rw[lin,lin,aIx k f r];grind
theorem aIy (f g:Int->Q):∀ ps:List PQ,lin (fun u=>f u+g u) ps=lin f ps+lin g ps
 | []=>by simp only[lin];grind
 | x::r=>by rw[lin,lin,lin,aIy f g r];grind
theorem aJv (F:Int->Int->Q)(ps:List PQ):∀ qs:List PQ,lin (fun u=>lin (fun q=>F u q) ps) qs=lin (fun q=>lin (fun u=>F u q) qs) ps
 | []=>by
  simp only[lin]
  induction ps with
  | nil=>rfl
  | cons x r ih=>rw[lin,<- ih];grind
 | y::r=>by
  rw[lin,aJv F ps r,<- aIx,<- aIy]
  rfl
theorem aE3 (f:Int->Q)(g:PQ->Q):∀ ps:List PQ,app f g ps=lin f ps+app (fun _=>0) g ps
 | []=>by simp only[app,lin];grind
 | x::r=>by rw[app,lin,app,aE3 f g r];grind
theorem aLJ (f:Int->Q):∀ ps:List PQ,lin (fun u=>- f u) ps=- lin f ps
 | []=>by simp only[lin];grind
 | x::r=>by rw[lin,lin,aLJ f r];grind
def rs (p:Int->Q)(n:NQ):Q:=p n.node-lin p n.cond.ps
def bil (b:List NQ)(p f:Int->Q):Q:=sn (fun n=>n.cond.t*(rs p n*rs f n)) b
def e0 (p:Int->Q)(x:QL):Q:=x.w*((p x.b-p x.a)*(p x.b-p x.a))
theorem aPH (p:Int->Q):∀ l:List QL,sm (eP p (fun _=>0)) l+sm (eP (fun u=>- p u) (fun _=>0)) l=2*sm (eP (fun _=>0) (fun _=>0)) l+2*sm (e0 p) l
 | []=>by simp only[sm];grind
 | x::l=>by
  have ih:=aPH p l
  rw[sm,sm,sm,sm]
  have e:eP p (fun _=>0) x+eP (fun u=>- p u) (fun _=>0) x=2*eP (fun _=>0) (fun _=>0) x+2*e0 p x:=by
   unfold eP e0 sqQ
   simp only[]
   generalize p x.b=u
   generalize p x.a=v
   grind
  grind
theorem aPG (p:Int->Q):∀ b:List NQ,(∀ n∈b,n.cond.node=n.node)->sn (fun n=>cdE p (fun _=>0) n.cond) b+sn (fun n=>cdE (fun u=>- p u) (fun _=>0) n.cond) b=2*sn (fun n=>cdE (fun _=>0) (fun _=>0) n.cond) b+2*bil b p p
 | [],_=>by simp only[sn,bil];grind
 | n::b,h=>by
  have ih:=aPG p b fun m hm=>h m (by simp[hm])
  have hn:=h n (by simp)
  unfold bil at ih ⊢
  rw[sn,sn,sn,sn]
  have e:cdE p (fun _=>0) n.cond+cdE (fun u=>- p u) (fun _=>0) n.cond=2*cdE (fun _=>0) (fun _=>0) n.cond+2*(n.cond.t*(rs p n*rs p n)):=by
   unfold cdE rs sqQ
   rw[hn,aE3 p,aE3 (fun u=>- p u),aLJ]
   simp only[]
   generalize app (fun _=>0) (fun x=>x.x) n.cond.ps=A
   generalize app (fun _=>0) (fun x=>x.y) n.cond.ps=B
   generalize lin p n.cond.ps=C
   generalize p n.node=D
   grind
  grind
theorem aEU (p:Int->Q){l:List QL}{o:List Int}(h:Tie l o):sm (e0 p) l=bil (aI l o o []) p p:=by
 obtain⟨d,_⟩:=h.dn
 have a1:=aFe p (fun _=>0) h
 have a2:=aFe (fun u=>- p u) (fun _=>0) h
 have a3:=aFe (fun _=>0) (fun _=>0) h
 have b1:=aPH p l
 have b2:=aPG p (aI l o o []) fun n hn=>(d.2 n hn).2
 grind
def cvQ:List NQ->Int->Int->Q
 | [],_,_=>0
 | n::r,a,c=>if a=n.node then(if c=n.node then 1 / n.cond.t+lin (fun u=>lin (cvQ r u) n.cond.ps) n.cond.ps else lin (fun u=>cvQ r u c) n.cond.ps)else if c=n.node then lin (fun u=>cvQ r u a) n.cond.ps else cvQ r a c
theorem aAV:∀ (b:List NQ) (a c:Int),cvQ b a c=cvQ b c a
 | [],_,_=>rfl
 | n::r,a,c=>by
  rw[cvQ,cvQ]
  by_cases h1:a=n.node
  · by_cases h2:c=n.node
    · simp[h1,h2]
    · simp[h1,h2]
  · by_cases h2:c=n.node
    · simp[h1,h2]
    · simp[h1,h2,aAV r a c]
theorem aGc:∀ ps:List PQ,lin (fun _=>0) ps=0
 | []=>rfl
 | x::r=>by rw[lin,aGc r];grind
theorem aIE:∀ (b:List NQ) (u c:Int),(∀ n∈b,n.node≠u)->cvQ b u c=0
 | [],_,_,_=>rfl
 | n::r,u,c,h=>by
  have h1:¬u=n.node:=fun e=>h n (by simp) e.symm
  have h2:∀ c,cvQ r u c=0:=fun c=>aIE r u c fun m hm=>h m (by simp[hm])
  rw[cvQ,if_neg h1]
  by_cases hc:c=n.node
  · rw[if_pos hc]
    rw[show(fun w=>cvQ r w u)=fun _=>0 from funext fun w=>by rw[aAV,h2],aGc]
  · rw[if_neg hc];exact h2 c
theorem aM4 (p:Int->Q)(G:Int->NQ->Q)(ps:List PQ):∀ r:List NQ,sn (fun m=>m.cond.t*(rs p m*lin (fun q=>G q m) ps)) r=lin (fun q=>sn (fun m=>m.cond.t*(rs p m*G q m)) r) ps
 | []=>by simp only[sn,aGc]
 | m::r=>by
  rw[sn,aM4 p G ps r]
  have e:(fun q=>sn (fun m=>m.cond.t*(rs p m*G q m)) (m::r))=fun q=>(m.cond.t*rs p m)*G q m+sn (fun m=>m.cond.t*(rs p m*G q m)) r:=funext fun q=>by rw[sn];grind
  rw[e,aIy,aIx]
  grind
theorem aFl {f g:NQ->Q}:∀ {b:List NQ},(∀ n∈b,f n=g n)->sn f b=sn g b
 | [],_=>rfl
 | n::b,h=>by rw[sn,sn,h n (by simp),aFl fun m hm=>h m (by simp[hm])]
def Pin (b:List NQ):Prop:=∀ n∈b,∀ u∈psN n.cond,u=0\/∃ c∈b,c.node=u
theorem Pin.tail {n:NQ}{r:List NQ}(d:Dn (n::r))(h:Pin (n::r)):Pin r:=fun m hm u hu=>by
 rcases h m (by simp[hm]) u hu with h0 | ⟨c,hc,e⟩
 · exact .inl h0
 · rcases List.mem_cons.1 hc with rfl | hc
   · exact absurd (e▸hu) ((List.pairwise_cons.1 d.1).1 m hm).1
   · exact .inr ⟨c,hc,e⟩
theorem aPY (p:Int->Q)(p0:p 0=0):∀ {b:List NQ},Dn b->Pin b->(∀ n∈b,0<n.cond.t)->∀ v,(v=0\/∃ c∈b,c.node=v)->bil b p (fun u=>cvQ b u v)=p v
 | [],_,_,_,v,hv=>by
  rcases hv with rfl | ⟨c,hc,_⟩
  · rw[p0];rfl
  · cases hc
 | n::r,d,hp,ht,v,hv=>by
  have hpw:=(List.pairwise_cons.1 d.1).1
  have ih:=aPY p p0 d.tail (hp.tail d) (fun m hm=>ht m (by simp[hm]))
  have nn:=(d.2 n (by simp)).1
  have hps:∀ u∈psN n.cond,u=0\/∃ c∈r,c.node=u:=fun u hu=>by
   rcases hp n (by simp) u hu with h0 | ⟨c,hc,e⟩
   · exact .inl h0
   · rcases List.mem_cons.1 hc with rfl | hc
     · exact absurd (e▸hu) nn
     · exact .inr ⟨c,hc,e⟩
  have nin:∀ x∈n.cond.ps,¬x.node=n.node:=fun x hx e=>nn (e▸List.mem_map_of_mem hx)
  have nir:∀ m∈r,(∀ x∈m.cond.ps,¬x.node=n.node)/\¬m.node=n.node:=fun m hm=>⟨fun x hx e=>(hpw m hm).1 (e▸List.mem_map_of_mem hx),fun e=>(hpw m hm).2 e.symm⟩
  unfold bil at ih ⊢
  rw[sn]
  by_cases c:v=n.node
  · have en:rs (fun u=>cvQ (n::r) u v) n=1 / n.cond.t:=by
     unfold rs
     have e2:lin (fun u=>cvQ (n::r) u v) n.cond.ps=lin (fun u=>lin (cvQ r u) n.cond.ps) n.cond.ps:=pD fun x hx=>by
      rw[cvQ,if_neg (nin x hx),if_pos c]
      exact pD fun y _=>aAV r _ _
     have e5:cvQ (n::r) n.node v=1 / n.cond.t+lin (fun u=>lin (cvQ r u) n.cond.ps) n.cond.ps:=by rw[cvQ,if_pos rfl,if_pos c]
     rw[e2]
     simp only[e5]
     grind
    have er:sn (fun m=>m.cond.t*(rs p m*rs (fun u=>cvQ (n::r) u v) m)) r=lin p n.cond.ps:=by
     have e1:∀ m∈r,m.cond.t*(rs p m*rs (fun u=>cvQ (n::r) u v) m)=m.cond.t*(rs p m*lin (fun q=>rs (fun u=>cvQ r u q) m) n.cond.ps):=fun m hm=>by
      have e3:rs (fun u=>cvQ (n::r) u v) m=lin (fun q=>rs (fun u=>cvQ r u q) m) n.cond.ps:=by
       unfold rs
       have e4:lin (fun u=>cvQ (n::r) u v) m.cond.ps=lin (fun u=>lin (fun q=>cvQ r u q) n.cond.ps) m.cond.ps:=pD fun x hx=>by
        rw[cvQ,if_neg ((nir m hm).1 x hx),if_pos c]
        exact pD fun y _=>aAV r _ _
       have e5:cvQ (n::r) m.node v=lin (fun q=>cvQ r m.node q) n.cond.ps:=by
        rw[cvQ,if_neg (nir m hm).2,if_pos c]
        exact pD fun y _=>aAV r _ _
       rw[e4,aJv]
       simp only[e5]
       rw[aIw (fun q=>cvQ r m.node q) (fun q=>lin (fun u=>cvQ r u q) m.cond.ps)]
      rw[e3]
     rw[aFl e1,aM4 p (fun q m=>rs (fun u=>cvQ r u q) m)]
     exact pD fun x hx=>ih x.node (hps _ (List.mem_map_of_mem hx))
    rw[er,en,c]
    have:=ht n (by simp)
    have h0:n.cond.t≠0:=by grind
    unfold rs
    grind
  · have en:rs (fun u=>cvQ (n::r) u v) n=0:=by
     unfold rs
     have e2:lin (fun u=>cvQ (n::r) u v) n.cond.ps=lin (fun u=>cvQ r u v) n.cond.ps:=pD fun x hx=>by
      rw[cvQ,if_neg (nin x hx),if_neg c]
     have e5:cvQ (n::r) n.node v=lin (fun u=>cvQ r u v) n.cond.ps:=by rw[cvQ,if_pos rfl,if_neg c]
     rw[e2]
     simp only[e5]
     grind
    have hv2:v=0\/∃ m∈r,m.node=v:=by
     rcases hv with h0 | ⟨m,hm,e⟩
     · exact .inl h0
     · rcases List.mem_cons.1 hm with rfl | hm
       · exact absurd e.symm c
       · exact .inr ⟨m,hm,e⟩
    rw[en,<- ih v hv2]
    have e1:∀ m∈r,m.cond.t*(rs p m*rs (fun u=>cvQ (n::r) u v) m)=m.cond.t*(rs p m*rs (fun u=>cvQ r u v) m):=fun m hm=>by
     have e3:rs (fun u=>cvQ (n::r) u v) m=rs (fun u=>cvQ r u v) m:=by
      unfold rs
      have e5:cvQ (n::r) m.node v=cvQ r m.node v:=by rw[cvQ,if_neg (nir m hm).2,if_neg c]
      have e6:lin (fun u=>cvQ (n::r) u v) m.cond.ps=lin (fun u=>cvQ r u v) m.cond.ps:=pD fun x hx=>by rw[cvQ,if_neg ((nir m hm).1 x hx),if_neg c]
      rw[e6]
      simp only[e5]
     rw[e3]
    rw[aFl e1]
    grind
end Go.Ev
/- What covariances are: the greatest of a form; positive, bounded, alike in all orders. -/
namespace Go.Ev
set_option linter.all false
section
variable {l:List QL}{o:List Int}
theorem Tie.pin (h:Tie l o):Pin (aI l o o []):=fun n hn u hu=>((h.dn).2 n hn).2.2 u hu |>.imp id pR
theorem Tie.tpos (h:Tie l o):∀ n∈aI l o o [],0<n.cond.t:=fun n hn=>((h.dn).2 n hn).2.1
def cvT (l:List QL)(o:List Int)(a c:Int):Q:=cvQ (aI l o o []) a c
theorem aLV (a c:Int):cvT l o a c=cvT l o c a:=aAV _ a c
theorem aHG (h:Tie l o)(c:Int):cvT l o 0 c=0:=aIE _ 0 c fun n hn e=>by
 have:=(h.five _ ((h.dn).2 n hn).1).1
 omega
theorem aE2 (h:Tie l o){u:Int}(hu:u∉o)(c:Int):cvT l o u c=0:=aIE _ u c fun n hn e=>hu (e▸((h.dn).2 n hn).1)
theorem aOm (h:Tie l o){p:Int->Q}(p0:p 0=0){v:Int}(hv:v=0\/v∈o):bil (aI l o o []) p (fun u=>cvT l o u v)=p v :=
 aPY p p0 (h.dn).1 h.pin h.tpos v (hv.imp id pR)
theorem aQe (p f:Int->Q)(n:NQ):rs (fun u=>p u-f u) n=rs p n-rs f n:=by
 unfold rs
 rw[aIw]
 grind
theorem aPo (b:List NQ)(p f:Int->Q):bil b (fun u=>p u-f u) (fun u=>p u-f u)=bil b p p-2*bil b p f+bil b f f:=by
 unfold bil
 induction b with
 | nil=>simp only[sn];grind
 | cons n b ih =>
  rw[sn,sn,sn,sn,ih,aQe]
  grind
theorem aRa (h:Tie l o){p:Int->Q}(p0:p 0=0){v:Int}(hv:v=0\/v∈o):sm (e0 (fun u=>p u-cvT l o u v)) l=sm (e0 p) l-2*p v+cvT l o v v:=by
 have a1:=aEU (fun u=>p u-cvT l o u v) h
 have a2:=aEU p h
 have b1:=aOm h p0 hv
 have b2:=aOm h (p:=fun u=>cvT l o u v) (aHG h v) hv
 rw[a1,aPo,a2,b1,b2]
theorem aRn {p:Int->Q}{x:QL}(h:0<x.w):0<=e0 p x:=by
 unfold e0
 exact _root_.Rat.mul_nonneg (by grind) (aEc _)
theorem Tie.wpos (h:Tie l o):∀ x∈l,0<x.w:=fun x hx=>(h.lk x hx).lk.1.sc.1
theorem aI5 (h:Tie l o)(p:Int->Q):0<=sm (e0 p) l:=mK fun x hx=>aRn (h.wpos x hx)
theorem aG4 (h:Tie l o){v:Int}(hv:v=0\/v∈o):sm (e0 (fun u=>cvT l o u v)) l=cvT l o v v:=by
 rw[aEU _ h]
 exact aOm h (p:=fun u=>cvT l o u v) (aHG h v) hv
theorem aOB:∀ ps:List PQ,app (fun _=>0) (fun _=>0) ps=0
 | []=>rfl
 | x::r=>by rw[app,aOB r];grind
theorem aJY (f:Int->Q)(ps:List PQ):app f (fun _=>0) ps=lin f ps:=by rw[aE3,aOB];grind
theorem aQx (h:Tie l o){p:Int->Q}(p0:p 0=0)(hz:sm (e0 p) l<=0):∀ u∈o,p u=0:=by
 rw[aEU p h]at hz
 have z:=aKm (f:=fun n=>n.cond.t*(rs p n*rs p n)) (l:=aI l o o []) (fun n hn=>_root_.Rat.mul_nonneg (by have:=h.tpos n hn;grind) (aEc _)) hz
 have hp:∀ n∈aI l o o [],p n.node=app p (fun _=>0) n.cond.ps:=fun n hn=>by
  have t:=h.tpos n hn
  rw[aJY]
  rcases _root_.Rat.mul_eq_zero.1 (z n hn)with g | g
  · grind
  · have:rs p n=0:=by rcases _root_.Rat.mul_eq_zero.1 g with g | g <;> exact g
    unfold rs at this;grind
 have hu:∀ (f:Int->Q),f 0=0->∀ n∈aI l o o [],∀ u∈psN n.cond,(∃ c∈aI l o o [],c.node=u)\/f u=0:=fun f f0 n hn u hu=>by
  rcases h.pin n hn u hu with g | g
  · exact .inr (by rw[g];exact f0)
  · exact .inl g
 intro u hu'
 obtain⟨c,hc,rfl⟩:=pR (l:=l) hu'
 have e1:=aCY (fun _=>0) p (h.dn).1 hp (hu p p0) c hc
 have e2:=aCY (fun _=>0) (fun _=>0) (h.dn).1 (fun n hn=>by rw[aOB]) (hu (fun _=>0) rfl) c hc
 rw[e1,<- e2]
end
theorem aOl {l l':List QL}{o o':List Int}(h:Tie l o)(h':Tie l' o')(hl:l'.Perm l)(ho:o'.Perm o)(a v:Int):cvT l o a v=cvT l' o' a v:=by
 by_cases c:v∈o
 · have c':=ho.mem_iff.2 c
   have e1:=aRa h (p:=fun u=>cvT l' o' u v) (aHG h' v) (.inr c)
   have e2:=aRa h' (p:=fun u=>cvT l o u v) (aHG h v) (.inr c')
   have s1:=aG4 h (.inr c)
   have s2:=aG4 h' (.inr c')
   have q1:∀ f:Int->Q,sm (e0 f) l'=sm (e0 f) l:=fun f=>aLm hl
   rw[q1]at e2 s2
   rw[q1]at e2
   have n1:=aI5 h (fun u=>cvT l' o' u v-cvT l o u v)
   have n2:=aI5 h (fun u=>cvT l o u v-cvT l' o' u v)
   have z:=aQx h (p:=fun u=>cvT l' o' u v-cvT l o u v) (by
    show cvT l' o' 0 v-cvT l o 0 v=0
    rw[aHG h,aHG h'];grind) (by grind)
   by_cases ca:a∈o
   · have:=z a ca;grind
   · rw[aE2 h ca,aE2 h' fun g=>ca (ho.mem_iff.1 g)]
 · rw[aLV,aE2 h c,aLV,aE2 h' fun g=>c (ho.mem_iff.1 g)]
end Go.Ev
/- Covariances of a net: sums over parents, the table as a function of its nodes. -/
namespace Go.Ev
set_option linter.all false
noncomputable def aCe (f:Int->Rat):List Parent->Rat->Rat
 | [],s=>s
 | p::ps,s=>aCe f ps (RA s (RM p.fShare (f p.fNode)))
theorem aHY {f:Int->Rat}:∀ {ps:List Parent} {s:Rat},VZ s->(∀ p∈ps,VZ p.fShare/\VZ (f p.fNode))->VZ (aCe f ps s)
 | [],s,h,_=>h
 | p::ps,s,h,hp=>show VZ (aCe f ps (RA s (RM p.fShare (f p.fNode))))from aHY (yY h (aBf (hp p (by simp)).1 (hp p (by simp)).2).2.2).2.2 fun q hq=>hp q (by simp[hq])
theorem aCJ {f g:Int->Rat}:∀ {ps:List Parent} {s:Rat},(∀ p∈ps,f p.fNode=g p.fNode)->aCe f ps s=aCe g ps s
 | [],_,_=>rfl
 | p::ps,s,h=>by
  unfold aCe
  rw[h p (by simp)];exact aCJ fun q hq=>h q (by simp[hq])
theorem aNW {step:(Int×Rat)->Option ((Int×Rat) ⊕ Rat)}(ps:List Parent)(f:Int->Rat)(hv:∀ p∈ps,VZ p.fShare/\VZ (f p.fNode))
 (h1:∀ (k:Nat) (hk:k<ps.length) (s:Rat),VZ s->step ((k:Int),s)=some (.inl (((k+1:Nat):Int),RA s (RM (ps[k]).fShare (f (ps[k]).fNode))))) (h2:∀ s:Rat,step ((ps.length:Int),s)=some (.inr s)) (s:Rat) (hs:VZ s):lp step (0,s)=some (aCe f ps s):=by
 have main:∀ m k:Nat,m+k=ps.length->∀ s,VZ s->lp step ((k:Int),s)=some (aCe f (ps.drop k) s):=by
  intro m
  induction m with
  | zero =>
   intro k hk s hs
   obtain rfl:k=ps.length:=by omega
   rw[List.drop_length]
   exact aN (h2 s)
  | succ m ih =>
   intro k hk s hs
   have hlt:k<ps.length:=by omega
   obtain⟨g1,g2⟩:=hv _ (List.getElem_mem hlt)
   rw[aS (h1 k hlt s hs),List.drop_eq_getElem_cons hlt]
   exact ih (k+1) (by omega) _ (yY hs (aBf g1 g2).2.2).2.2
 have:=main ps.length 0 (by omega) s hs
 rw[List.drop_zero]at this;exact this
noncomputable def newRow (c:Conditional)(C:Int->Int->Rat)(y:Int):Rat:=aCe (fun p=>C p y) c.fParents (eF 0)
theorem aHo {c:Conditional}{nodes:List Int}{C:Int->Int->Rat}(hp:∀ p∈c.fParents,VZ p.fShare/\p.fNode∈nodes)(hC:∀ x∈nodes,∀ y∈nodes,VZ (C x y)){y:Int}(hy:y∈nodes):VZ (newRow c C y) :=
 aHY zI fun p h=>⟨(hp p h).1,hC _ (hp p h).2 _ hy⟩
noncomputable def aCM (c:Conditional)(C:Int->Int->Rat):Rat:=aCe (newRow c C) c.fParents (RD (eF 1) c.fTotal)
theorem aIe:VZ (eF 1):=.inl (yC 1 (by omega))
noncomputable def aGP (c:Conditional)(C:Int->Int->Rat)(x y:Int):Rat :=
 if x=c.fNode then(if y=c.fNode then aCM c C else newRow c C y)else if y=c.fNode then newRow c C x else C x y
end Go.Ev
/- Covariances of a net: the table of both programs. -/
namespace Go.Ev
set_option linter.all false
def bU (l:List Conditional):List Int:=0::(l.map (·.fNode)).reverse
theorem xK (c:Conditional)(l:List Conditional):bU (c::l)=bU l++[c.fNode]:=by simp[bU]
theorem tB {l:List Conditional}{x:Int}:x∈bU l↔x=0\/∃ d∈l,d.fNode=x:=by simp[bU]
def vZ:List Conditional->Prop
 | []=>True
 | c::r=>(1<=c.fNode/\c.fNode<=9)/\c.fNode∉bU r/\(∀ p∈c.fParents,bL p.fShare/\p.fNode∈bU r)/\bL c.fTotal/\c.fParents.length<=4294967296/\vZ r
theorem aFM:∀ (n:Nat) (l:List Int),l.Nodup->(∀ x∈l,0<=x/\x<n)->l.length<=n
 | 0,l,_,h=>by
  cases l with
  | nil=>simp
  | cons a r=>have:=h a (by simp);omega
 | n+1,l,hn,h=>by
  by_cases c:(n:Int)∈l
  · have h1:=aFM n (l.erase (n:Int)) (hn.erase _) (fun x hx=>by
     have h2:=h x (List.mem_of_mem_erase hx)
     have:x≠n:=by rintro rfl;exact(List.Nodup.mem_erase_iff hn).1 hx |>.1 rfl
     omega)
    rw[List.length_erase_of_mem c]at h1;omega
  · have h1:=aFM n l hn (fun x hx=>by
     have h2:=h x hx
     have:x≠n:=by rintro rfl;exact c hx
     omega)
    omega
theorem yS:∀ {l:List Conditional},vZ l->(bU l).Nodup/\∀ x∈bU l,0<=x/\x<=9
 | [],_=>by simp[bU]
 | c::r,h=>by
  obtain⟨h1,h2,_,_,_,h3⟩:=h
  obtain⟨g1,g2⟩:=yS h3
  rw[xK]
  refine⟨List.nodup_append.2 ⟨g1,by simp,?_⟩,?_⟩
  · intro x hx y hy e
    simp at hy;subst hy;subst e;exact h2 hx
  · intro x hx
    rcases List.mem_append.1 hx with hx | hx
    · exact g2 x hx
    · simp at hx;subst hx;omega
theorem aJG {l:List Conditional}(h:vZ l):l.length<=9:=by
 obtain⟨g1,g2⟩:=yS h
 have:=aFM 10 _ g1 (fun x hx=>by have:=g2 x hx;omega)
 simp[bU]at this;omega
noncomputable def Cst:List Conditional->Int->Int->Rat
 | []=>fun _ _=>eF 0
 | c::r=>aGP c (Cst r)
theorem aJn {d:Nat}(h:0<d)(s:Bool):mkR s 0 d=eF 0:=by
 unfold mkR
 rw[if_neg (by omega),Nat.gcd_zero_left,Nat.zero_div,Nat.div_self h]
 have e:aA 1=[1]:=kH.symm
 rw[e,aZ,if_neg (by simp)]
 simp[eF,big,aZ]
theorem aBX:eF 0=⟨big 0,aA 1⟩:=by rw[<- kH];rfl
theorem aPx {r:Rat}(h:bL r):RM r (eF 0)=eF 0:=by
 obtain⟨n,d,rfl,h1,h2,h3,h4⟩:=zN h
 have q:=aBf (.inl h:VZ _) zI
 have e:bT ⟨big n,aA d⟩ (eF 0)=some (eF 0):=by
  rw[aBX,aFA n d 0 1 h1 (by omega) h2 h3 (by simp[bl,aZ]) (by rw[<- kH];simp)]
  unfold aNO
  rw[Int.natAbs_zero,Nat.mul_zero,Nat.mul_one,aJn h1,aBX]
 have:=q.2.1
 rw[e]at this
 exact(Option.some.inj this).symm
theorem aPy:RA (eF 0) (eF 0)=eF 0:=by
 have q:=yY zI zI
 have e:bM (eF 0) (eF 0)=some (eF 0):=by
  rw[aBX,aBp 0 1 0 1 (by omega) (by omega) (by simp[bl,aZ]) (by rw[<- kH];simp) (by simp[bl,aZ]) (by rw[<- kH];simp)]
  unfold aII
  simp only[Int.zero_mul,Int.add_zero,Int.natAbs_zero]
  rw[aJn (by omega),aBX]
 have:=q.2.1
 rw[e]at this
 exact(Option.some.inj this).symm
theorem aDM {f:Int->Rat}:∀ {ps:List Parent},(∀ p∈ps,bL p.fShare/\f p.fNode=eF 0)->aCe f ps (eF 0)=eF 0
 | [],_=>rfl
 | p::ps,h=>by
  obtain⟨h1,h2⟩:=h p (by simp)
  show aCe f ps (RA (eF 0) (RM p.fShare (f p.fNode)))=eF 0
  rw[h2,aPx h1,aPy]
  exact aDM fun q hq=>h q (by simp[hq])
theorem aIT:∀ {l:List Conditional},vZ l->(∀ x∈bU l,∀ y∈bU l,VZ (Cst l x y))/\(∀ x∈bU l,Cst l x 0=eF 0/\Cst l 0 x=eF 0)
 | [],_=>⟨fun _ _ _ _=>zI,fun _ _=>⟨rfl,rfl⟩⟩
 | c::r,h=>by
  obtain⟨h1,h2,h3,h4,_,h5⟩:=h
  obtain⟨g1,g2⟩:=aIT h5
  have hp:∀ p∈c.fParents,VZ p.fShare/\p.fNode∈bU r:=fun p hp=>⟨.inl (h3 p hp).1,(h3 p hp).2⟩
  have h0:(0:Int)∈bU r:=by simp[bU]
  have hr:∀ y∈bU r,VZ (newRow c (Cst r) y):=fun y hy=>aHo hp g1 hy
  have hr0:newRow c (Cst r) 0=eF 0:=aDM fun p hpp=>⟨(h3 p hpp).1,(g2 _ (h3 p hpp).2).1⟩
  have ho:VZ (aCM c (Cst r)):=aHY (aDI aIe (.inl h4)).2.2 fun p hpp=>⟨(hp p hpp).1,hr _ (hp p hpp).2⟩
  constructor
  · intro x hx y hy
    rw[xK,List.mem_append,List.mem_singleton]at hx hy
    show VZ (aGP c (Cst r) x y)
    unfold aGP
    by_cases cx:x=c.fNode
    · rw[if_pos cx]
      by_cases cy:y=c.fNode
      · rw[if_pos cy];exact ho
      · rw[if_neg cy];exact hr y (hy.resolve_right cy)
    · rw[if_neg cx]
      by_cases cy:y=c.fNode
      · rw[if_pos cy];exact hr x (hx.resolve_right cx)
      · rw[if_neg cy];exact g1 x (hx.resolve_right cx) y (hy.resolve_right cy)
  · intro x hx
    rw[xK,List.mem_append,List.mem_singleton]at hx
    have n0:¬(0:Int)=c.fNode:=by omega
    show aGP c (Cst r) x 0=eF 0/\aGP c (Cst r) 0 x=eF 0
    unfold aGP
    rw[if_neg n0,if_neg n0,if_neg n0]
    by_cases cx:x=c.fNode
    · rw[if_pos cx,if_pos cx];exact⟨hr0,hr0⟩
    · rw[if_neg cx,if_neg cx];exact g2 x (hx.resolve_right cx)
theorem aAS:∀ {l:List Conditional} (k:Nat),vZ l->vZ (l.drop k)
 | [],k,h=>by rw[List.drop_nil];exact h
 | c::r,0,h=>h
 | c::r,k+1,h=>aAS (l:=r) k h.2.2.2.2.2
end Go.Ev
/- Covariances of a net: the program's matrix. -/
namespace Go.Ev
set_option linter.all false
theorem rH {α:Type}{l:List α}{i:Int}(h0:0<=i)(h1:i<l.length):∃ y,idx l i=some y:=by
 unfold idx;rw[if_pos h0]
 exact⟨_,List.getElem?_eq_getElem (show i.toNat<l.length by omega)⟩
theorem yR {α:Type}{l:List α}{i j:Int}{v:α}(h0:0<=i)(h1:i<l.length)(h2:0<=j):idx (jX l i v) j=if i=j then some v else idx l j:=by
 unfold idx jX
 rw[if_pos h2,if_pos h2,List.getElem?_set]
 by_cases c:i=j
 · subst c
   rw[if_pos rfl,if_pos rfl,if_pos (by omega)]
 · rw[if_neg (by omega),if_neg c]
theorem xR {α:Type}(l:List α)(i:Int)(v:α):(jX l i v).length=l.length:=by simp[jX]
def aE8 (M:List Rat)(k:Int):Prop:=∀ x:Int,0<=x->x<k->idx M x=some (eF 0)/\idx M (x*10)=some (eF 0)
theorem aQv:∀ (m k:Nat),m+k=10->∀ M:List Rat,M.length=100->aE8 M k->∃ M',lp fN ((k:Int),M)=some M'/\M'.length=100/\aE8 M' 10:=by
 intro m
 induction m with
 | zero =>
  intro k hk M hM hz
  obtain rfl:k=10:=by omega
  refine⟨M,aN ?_,hM,hz⟩
  unfold fN
  simp
 | succ m ih =>
  intro k hk M hM hz
  obtain⟨y1,q1⟩:=rH (l:=M) (i:=0*10) (by omega) (by omega)
  obtain⟨y2,q2⟩:=rH (l:=M) (i:=0*(10:Nat)+(k:Int)) (by omega) (by omega)
  have hM1:(jX M (0*(10:Nat)+(k:Int)) (eF 0)).length=100:=by rw[xR,hM]
  obtain⟨y3,q3⟩:=rH (l:=jX M (0*(10:Nat)+(k:Int)) (eF 0)) (i:=(k:Int)*10) (by omega) (by omega)
  obtain⟨y4,q4⟩:=rH (l:=jX M (0*(10:Nat)+(k:Int)) (eF 0)) (i:=(k:Int)*(10:Nat)+0) (by omega) (by omega)
  have e:fN ((k:Int),M)=some (.inl (((k+1:Nat):Int),jX (jX M (0*(10:Nat)+(k:Int)) (eF 0)) ((k:Int)*(10:Nat)+0) (eF 0))):=by
   unfold fN
   simp only[]
   rw[if_pos (by omega),dH 0 (by omega)]
   simp only[Option.bind_some]
   rw[aP (by omega)]
   simp only[Option.bind_some]
   rw[q1]
   simp only[Option.bind_some]
   rw[aP (by omega)]
   simp only[Option.bind_some]
   rw[aK,q2]
   simp only[Option.bind_some]
   rw[aK,q3]
   simp only[Option.bind_some]
   rw[aK,q4]
   simp only[Option.bind_some]
   rw[aK,wi (by omega)];rfl
  rw[aS e]
  refine ih (k+1) (by omega) _ (by rw[xR,xR,hM]) fun x hx0 hx1=>?_
  rw[yR (by omega) (by omega) hx0,yR (by omega) (by omega) hx0,yR (by omega) (by omega) (show(0:Int)<=x*10 by omega),yR (by omega) (by omega) (show(0:Int)<=x*10 by omega)]
  by_cases c:x=k
  · subst c
    rw[if_pos (show(0*(10:Nat)+(k:Int)=(k:Int))by omega),if_pos (show((k:Int)*(10:Nat)+0=(k:Int)*10)by omega)]
    exact⟨by split <;> rfl,rfl⟩
  · obtain⟨z1,z2⟩:=hz x hx0 (by omega)
    rw[z1,z2]
    refine⟨?_,?_⟩
    · split
      · rfl
      · split <;> rfl
    · split
      · rfl
      · split <;> rfl
structure MatIs (M:List Rat)(nodes:List Int)(C:Int->Int->Rat):Prop where
 len:M.length=100
 get:∀ x∈nodes,∀ y∈nodes,idx M (x*10+y)=some (C x y)
 zero:aE8 M 10
theorem aQu (c d:Conditional)(hc:c.fParents.length<=4294967296)(nodes:List Int)(hn:∀ x∈nodes,0<=x/\x<=9)(C:Int->Int->Rat)(M:List Rat)(hM:MatIs M nodes C)(hp:∀ p∈c.fParents,VZ p.fShare/\p.fNode∈nodes)(hC:∀ x∈nodes,∀ y∈nodes,VZ (C x y))(hd:d.fNode∈nodes) :
 lp (gY c M d) (0,eF 0)=some (newRow c C d.fNode):=by
 refine aNW c.fParents (fun p=>C p d.fNode) (fun p h=>⟨(hp p h).1,hC _ (hp p h).2 _ hd⟩) (fun k hk s hs=>?_) (fun s=>?_) _ zI
 · obtain⟨g1,g2⟩:=hp _ (List.getElem_mem hk)
   have b1:=hn _ g2
   have b2:=hn _ hd
   have q1:=aBf g1 (hC _ g2 _ hd)
   obtain⟨y,qy⟩:=rH (l:=M) (i:=(c.fParents[k]).fNode*10) (by omega) (by rw[hM.len];omega)
   unfold gY
   simp only[]
   rw[if_pos (by omega),aM hk]
   simp only[Option.bind_some]
   rw[aP (by omega)]
   simp only[Option.bind_some]
   rw[qy]
   simp only[Option.bind_some]
   rw[aP (by omega)]
   simp only[Option.bind_some]
   rw[aK,show(((10:Nat):Int))=10 from rfl,hM.get _ g2 _ hd]
   simp only[Option.bind_some]
   rw[q1.2.1]
   simp only[Option.bind_some]
   rw[(yY hs q1.2.2).2.1]
   simp only[Option.bind_some]
   rw[wi (by omega)];rfl
 · unfold gY
   simp only[]
   rw[if_neg (by omega)]
theorem aQs (c:Conditional)(hc:c.fParents.length<=4294967296)(hcn:0<=c.fNode/\c.fNode<=9)(nodes:List Int)(hn:∀ x∈nodes,0<=x/\x<=9)(g:Int->Rat)(M:List Rat)(hM:M.length=100)(hg:∀ x∈nodes,idx M (x*10+c.fNode)=some (g x))(hp:∀ p∈c.fParents,VZ p.fShare/\p.fNode∈nodes)(hv:∀ x∈nodes,VZ (g x))(s:Rat)(hs:VZ s) :
 lp (gX c M) (0,s)=some (aCe g c.fParents s):=by
 refine aNW c.fParents g (fun p h=>⟨(hp p h).1,hv _ (hp p h).2⟩) (fun k hk s hs=>?_) (fun s=>?_) _ hs
 · obtain⟨g1,g2⟩:=hp _ (List.getElem_mem hk)
   have b1:=hn _ g2
   have q1:=aBf g1 (hv _ g2)
   obtain⟨y,qy⟩:=rH (l:=M) (i:=(c.fParents[k]).fNode*10) (by omega) (by omega)
   unfold gX
   simp only[]
   rw[if_pos (by omega),aM hk]
   simp only[Option.bind_some]
   rw[aP (by omega)]
   simp only[Option.bind_some]
   rw[qy]
   simp only[Option.bind_some]
   rw[aP (by omega)]
   simp only[Option.bind_some]
   rw[aK,show(((10:Nat):Int))=10 from rfl,hg _ g2]
   simp only[Option.bind_some]
   rw[q1.2.1]
   simp only[Option.bind_some]
   rw[(yY hs q1.2.2).2.1]
   simp only[Option.bind_some]
   rw[wi (by omega)];rfl
 · unfold gX
   simp only[]
   rw[if_neg (by omega)]
theorem aQt (l:List Conditional)(i:Nat)(hi:i<l.length)(hl:l.length<=9)(hg:vZ (l.drop i))(M0:List Rat)(hM0:MatIs M0 (bU (l.drop (i+1))) (Cst (l.drop (i+1)))) :
 ∃ M',lp (eA l l[i]) (((i+1:Nat):Int),M0)=some M'/\MatIs M' (bU (l.drop (i+1))) (Cst (l.drop (i+1)))/\∀ d∈l.drop (i+1),idx M' ((l[i]).fNode*10+d.fNode)=some (newRow l[i] (Cst (l.drop (i+1))) d.fNode)/\idx M' (d.fNode*10+(l[i]).fNode)=some (newRow l[i] (Cst (l.drop (i+1))) d.fNode):=by
 rw[List.drop_eq_getElem_cons hi]at hg
 obtain⟨h1,h2,h3,h4,h5,h6⟩:=hg
 generalize hc:l[i]=c at *
 obtain⟨gn1,gn2⟩:=yS h6
 obtain⟨g1,g2⟩:=aIT h6
 have hp:∀ p∈c.fParents,VZ p.fShare/\p.fNode∈bU (l.drop (i+1)):=fun p hp=>⟨.inl (h3 p hp).1,(h3 p hp).2⟩
 have main:∀ m j:Nat,m+j=l.length->i+1<=j->∀ M,MatIs M (bU (l.drop (i+1))) (Cst (l.drop (i+1)))->
  (∀ t (ht:t<l.length),i+1<=t->t<j->idx M (c.fNode*10+(l[t]).fNode)=some (newRow c (Cst (l.drop (i+1))) (l[t]).fNode)/\idx M ((l[t]).fNode*10+c.fNode)=some (newRow c (Cst (l.drop (i+1))) (l[t]).fNode))->
  ∃ M',lp (eA l c) ((j:Int),M)=some M'/\MatIs M' (bU (l.drop (i+1))) (Cst (l.drop (i+1)))/\∀ t (ht:t<l.length),i+1<=t->idx M' (c.fNode*10+(l[t]).fNode)=some (newRow c (Cst (l.drop (i+1))) (l[t]).fNode)/\idx M' ((l[t]).fNode*10+c.fNode)=some (newRow c (Cst (l.drop (i+1))) (l[t]).fNode):=by
  intro m
  induction m with
  | zero =>
   intro j hj hij M hM hinv
   obtain rfl:j=l.length:=by omega
   refine⟨M,aN ?_,hM,fun t ht hit=>hinv t ht hit ht⟩
   unfold eA
   simp only[]
   rw[if_neg (by omega)]
  | succ m ih =>
   intro j hj hij M hM hinv
   have hlt:j<l.length:=by omega
   have hdm:l[j]∈l.drop (i+1):=by
    rw[List.mem_iff_getElem?]
    exact⟨j-(i+1),by rw[List.getElem?_drop,show i+1+(j-(i+1))=j by omega,List.getElem?_eq_getElem hlt]⟩
   have hdn:(l[j]).fNode∈bU (l.drop (i+1)):=tB.2 (.inr ⟨_,hdm,rfl⟩)
   have hb:=gn2 _ hdn
   have hd1:1<=(l[j]).fNode:=by
    have hgd:=aAS (j-(i+1)) h6
    rw[List.drop_drop,show i+1+(j-(i+1))=j by omega,List.drop_eq_getElem_cons hlt]at hgd
    exact hgd.1.1
   have hne:(l[j]).fNode≠c.fNode:=by intro e;rw[e]at hdn;exact h2 hdn
   generalize hd:l[j]=d at *
   let r:=newRow c (Cst (l.drop (i+1))) d.fNode
   let M1:=jX M (c.fNode*(10:Nat)+d.fNode) r
   let M2:=jX M1 (d.fNode*(10:Nat)+c.fNode) r
   have l0:=hM.len
   have l1:M1.length=100:=by show(jX _ _ _).length=_;rw[xR,l0]
   obtain⟨y1,q1⟩:=rH (l:=M) (i:=c.fNode*10) (by omega) (by omega)
   obtain⟨y2,q2⟩:=rH (l:=M) (i:=c.fNode*(10:Nat)+d.fNode) (by omega) (by omega)
   obtain⟨y3,q3⟩:=rH (l:=M1) (i:=d.fNode*10) (by omega) (by omega)
   obtain⟨y4,q4⟩:=rH (l:=M1) (i:=d.fNode*(10:Nat)+c.fNode) (by omega) (by omega)
   have e:eA l c ((j:Int),M)=some (.inl (((j+1:Nat):Int),M2)):=by
    unfold eA
    simp only[]
    rw[if_pos (by omega),aM hlt,hd]
    simp only[Option.bind_some]
    rw[dH 0 (by omega)]
    simp only[Option.bind_some]
    rw[aQu c d h5 _ gn2 _ M hM hp g1 hdn]
    simp only[Option.bind_some]
    rw[aP (by omega)]
    simp only[Option.bind_some]
    rw[q1]
    simp only[Option.bind_some]
    rw[aP (by omega)]
    simp only[Option.bind_some]
    rw[aK,q2]
    simp only[Option.bind_some]
    rw[aK]
    rw[show jX M (c.fNode*(10:Nat)+d.fNode) (newRow c (Cst (l.drop (i+1))) d.fNode)=M1 from rfl,q3]
    simp only[Option.bind_some]
    rw[aK,q4]
    simp only[Option.bind_some]
    rw[aK,wi (by omega)];rfl
   have i2:∀ z:Int,0<=z->idx M2 z=if d.fNode*(10:Nat)+c.fNode=z then some r else if c.fNode*(10:Nat)+d.fNode=z then some r else idx M z:=by
    intro z hz
    show idx (jX M1 _ _) z=_
    rw[yR (by omega) (by omega) hz]
    by_cases cz:d.fNode*(10:Nat)+c.fNode=z
    · rw[if_pos cz,if_pos cz]
    · rw[if_neg cz,if_neg cz]
      show idx (jX M _ _) z=_
      rw[yR (by omega) (by omega) hz]
   rw[aS e]
   refine ih (j+1) (by omega) (by omega) M2 ⟨by show(jX _ _ _).length=_;rw[xR,l1],fun x hx y hy=>?_,fun x hx0 hx1=>?_⟩ fun t ht hit htj=>?_
   · have b1:=gn2 x hx
     have b2:=gn2 y hy
     have c1:x≠c.fNode:=by rintro rfl;exact h2 hx
     have c2:y≠c.fNode:=by rintro rfl;exact h2 hy
     rw[i2 _ (by omega),if_neg (by omega),if_neg (by omega)]
     exact hM.get x hx y hy
   · obtain⟨z1,z2⟩:=hM.zero x hx0 hx1
     rw[i2 _ (by omega),i2 _ (by omega),if_neg (by omega),if_neg (by omega),if_neg (by omega),if_neg (by omega)]
     exact⟨z1,z2⟩
   · rcases Nat.lt_or_eq_of_le (Nat.le_of_lt_succ htj)with h | h
     · obtain⟨v1,v2⟩:=hinv t ht hit h
       have htn:(l[t]).fNode∈bU (l.drop (i+1)):=tB.2 (.inr ⟨_,by
        rw[List.mem_iff_getElem?]
        exact⟨t-(i+1),by rw[List.getElem?_drop,show i+1+(t-(i+1))=t by omega,List.getElem?_eq_getElem ht]⟩,rfl⟩)
       have bt:=gn2 _ htn
       have ct:(l[t]).fNode≠c.fNode:=by intro e;rw[e]at htn;exact h2 htn
       rw[i2 _ (by omega),i2 _ (by omega)]
       by_cases ce:(l[t]).fNode=d.fNode
       · rw[ce,if_neg (by omega),if_pos (by omega),if_pos (by omega)];exact⟨rfl,rfl⟩
       · rw[if_neg (by omega),if_neg (by omega),if_neg (by omega),if_neg (by omega)];exact⟨v1,v2⟩
     · subst h
       rw[hd,i2 _ (by omega),i2 _ (by omega),if_neg (by omega),if_pos (by omega),if_pos (by omega)]
       exact⟨rfl,rfl⟩
 obtain⟨M',e1,e2,e3⟩:=main (l.length-(i+1)) (i+1) (by omega) (Nat.le_refl _) M0 hM0 (fun t _ h1 h2=>by omega)
 refine⟨M',e1,e2,fun d hd=>?_⟩
 obtain⟨j,hj⟩:=List.getElem?_of_mem hd
 rw[List.getElem?_drop]at hj
 obtain⟨ht,rfl⟩:=List.getElem?_eq_some_iff.1 hj
 exact e3 _ ht (by omega)
theorem aQr (l:List Conditional)(h:vZ l):∀ k:Nat,k<=l.length->∀ M,MatIs M (bU (l.drop k)) (Cst (l.drop k))->∃ M',lp (fM l) ((k:Int)-1,M)=some M'/\MatIs M' (bU l) (Cst l):=by
 have hl:=aJG h
 intro k
 induction k with
 | zero =>
  intro _ M hM
  rw[List.drop_zero]at hM
  refine⟨M,aN ?_,hM⟩
  unfold fM
  simp only[]
  rw[if_neg (by simp)]
 | succ k ih =>
  intro hk M hM
  have hlt:k<l.length:=by omega
  have hg:=aAS k h
  obtain⟨M1,e1,e2,e3⟩:=aQt l k hlt hl hg M hM
  rw[List.drop_eq_getElem_cons hlt]at hg
  obtain⟨h1,h2,h3,h4,h5,h6⟩:=hg
  generalize hc:l[k]=c at *
  obtain⟨gn1,gn2⟩:=yS h6
  obtain⟨g1,g2⟩:=aIT h6
  have hp:∀ p∈c.fParents,VZ p.fShare/\p.fNode∈bU (l.drop (k+1)):=fun p hp=>⟨.inl (h3 p hp).1,(h3 p hp).2⟩
  have hr:∀ y∈bU (l.drop (k+1)),VZ (newRow c (Cst (l.drop (k+1))) y):=fun y hy=>aHo hp g1 hy
  have hr0:newRow c (Cst (l.drop (k+1))) 0=eF 0:=aDM fun p hpp=>⟨(h3 p hpp).1,(g2 _ (h3 p hpp).2).1⟩
  have l1:=e2.len
  have hrow:∀ x∈bU (l.drop (k+1)),idx M1 (c.fNode*10+x)=some (newRow c (Cst (l.drop (k+1))) x)/\idx M1 (x*10+c.fNode)=some (newRow c (Cst (l.drop (k+1))) x):=by
   intro x hx
   rcases tB.1 hx with rfl | ⟨d,hd,rfl⟩
   · obtain⟨z1,z2⟩:=e2.zero c.fNode (by omega) (by omega)
     rw[Int.add_zero,Int.zero_mul,Int.zero_add,hr0];exact⟨z2,z1⟩
   · exact e3 d hd
  obtain⟨y1,q1⟩:=rH (l:=M1) (i:=c.fNode*10) (by omega) (by omega)
  obtain⟨y2,q2⟩:=rH (l:=M1) (i:=c.fNode*(10:Nat)+c.fNode) (by omega) (by omega)
  have hown:=aQs c h5 ⟨by omega,by omega⟩ _ gn2 (newRow c (Cst (l.drop (k+1)))) M1 l1 (fun x hx=>(hrow x hx).2) hp hr (RD (eF 1) c.fTotal) (aDI aIe (.inl h4)).2.2
  have e:fM l (((k+1:Nat):Int)-1,M)=some (.inl ((k:Int)-1,jX M1 (c.fNode*(10:Nat)+c.fNode) (aCM c (Cst (l.drop (k+1)))))):=by
   unfold fM
   simp only[]
   have ek:((k+1:Nat):Int)-1=(k:Int):=by omega
   rw[ek,if_pos (by omega),aM hlt,hc]
   simp only[Option.bind_some]
   rw[wi (by omega),show(k:Int)+1=((k+1:Nat):Int)by omega,e1]
   simp only[Option.bind_some]
   rw[dH 1 (by omega)]
   simp only[Option.bind_some]
   rw[(aDI aIe (.inl h4)).2.1]
   simp only[Option.bind_some]
   rw[hown]
   simp only[Option.bind_some]
   rw[aP (by omega)]
   simp only[Option.bind_some]
   rw[q1]
   simp only[Option.bind_some]
   rw[aK,q2]
   simp only[Option.bind_some]
   rw[aK,wi (by omega)];rfl
  rw[aS e]
  refine ih (by omega) _ ?_
  rw[List.drop_eq_getElem_cons hlt,hc]
  have i2:∀ z:Int,0<=z->idx (jX M1 (c.fNode*(10:Nat)+c.fNode) (aCM c (Cst (l.drop (k+1))))) z=if c.fNode*(10:Nat)+c.fNode=z then some (aCM c (Cst (l.drop (k+1))))else idx M1 z:=fun z hz=>yR (by omega) (by omega) hz
  refine⟨by rw[xR,l1],fun x hx y hy=>?_,fun x hx0 hx1=>?_⟩
  · rw[xK,List.mem_append,List.mem_singleton]at hx hy
    have bx:0<=x/\x<=9:=hx.elim (gn2 x) (fun e=>by subst e;omega)
    have by_:0<=y/\y<=9:=hy.elim (gn2 y) (fun e=>by subst e;omega)
    rw[i2 _ (by omega)]
    show _=some (aGP c (Cst (l.drop (k+1))) x y)
    unfold aGP
    by_cases cx:x=c.fNode
    · rw[if_pos cx]
      by_cases cy:y=c.fNode
      · rw[if_pos cy,if_pos (by subst cx;subst cy;omega)]
      · rw[if_neg cy,if_neg (by omega),cx];exact(hrow y (hy.resolve_right cy)).1
    · rw[if_neg cx]
      by_cases cy:y=c.fNode
      · rw[if_pos cy,if_neg (by omega),cy];exact(hrow x (hx.resolve_right cx)).2
      · rw[if_neg cy,if_neg (by omega)];exact e2.get x (hx.resolve_right cx) y (hy.resolve_right cy)
  · obtain⟨z1,z2⟩:=e2.zero x hx0 hx1
    rw[i2 _ (by omega),i2 _ (by omega),if_neg (by omega),if_neg (by omega)]
    exact⟨z1,z2⟩
end Go.Ev
/- Covariances: the laws. -/
namespace Go.Ev
set_option linter.all false
theorem aLM (l:List Conditional)(a:Int)(hl:l.length<=4294967296):vF l a=some (decide (a∈bU l)):=by
 have main:∀ m k:Nat,m+k=l.length->(lp (jV l a) (k:Int)=some (.inr true)/\∃ d∈l.drop k,d.fNode=a)\/(lp (jV l a) (k:Int)=some (.inl ())/\¬∃ d∈l.drop k,d.fNode=a):=by
  intro m
  induction m with
  | zero =>
   intro k hk
   refine .inr ⟨aN ?_,by rw[List.drop_eq_nil_of_le (by omega)];simp⟩
   unfold jV
   rw[if_neg (by omega)]
  | succ m ih =>
   intro k hk
   have hlt:k<l.length:=by omega
   rw[List.drop_eq_getElem_cons hlt]
   by_cases c:(l[k]).fNode=a
   · refine .inl ⟨aN ?_,_,List.mem_cons_self,c⟩
     unfold jV
     rw[if_pos (by omega),aM hlt]
     simp only[Option.bind_some]
     rw[if_pos c]
   · have e:jV l a (k:Int)=some (.inl ((k+1:Nat):Int)):=by
      unfold jV
      rw[if_pos (by omega),aM hlt]
      simp only[Option.bind_some]
      rw[if_neg c,wi (by omega)];rfl
     rw[aS e]
     rcases ih (k+1) (by omega)with⟨h1,d,h2,h3⟩ | ⟨h1,h2⟩
     · exact .inl ⟨h1,d,List.mem_cons_of_mem _ h2,h3⟩
     · refine .inr ⟨h1,?_⟩
       rintro⟨d,hd,e⟩
       rcases List.mem_cons.1 hd with rfl | hd
       · exact c e
       · exact h2 ⟨d,hd,e⟩
 have:=main l.length 0 (by omega)
 rw[List.drop_zero,show((0:Nat):Int)=0 from rfl]at this
 unfold vF
 rcases this with⟨h1,h2⟩ | ⟨h1,h2⟩
 · rw[h1]
   simp only[Option.bind_some]
   rw[decide_eq_true (tB.2 (.inr h2))]
 · rw[h1]
   simp only[Option.bind_some]
   congr 1
   rw[decide_eq_decide,tB]
   exact⟨fun h=>.inl h,fun h=>h.resolve_right h2⟩
noncomputable def aNt (l:List Conditional)(a b:Int):Rat:=if a∈bU l/\b∈bU l then Cst l a b else nJ
theorem aPg {l:List Conditional}(h:vZ l)(hn:sW l=some true)(a b:Int):kQ l a b=some (aNt l a b):=by
 have hl:=aJG h
 obtain⟨gn1,gn2⟩:=yS h
 unfold kQ aNt
 rw[hn,aLM l a (by omega),aLM l b (by omega)]
 simp only[Option.bind_some,if_true]
 by_cases ca:a∈bU l
 · rw[decide_eq_true ca]
   simp only[if_true,Option.bind_some]
   by_cases cb:b∈bU l
   · rw[decide_eq_true cb]
     simp only[Bool.not_true,Bool.false_eq_true,if_false]
     obtain⟨M1,e1,e2,e3⟩:=aQv 10 0 (by omega) (List.replicate 100 (Rat.mk (BigInt.mk false ([])) ([]))) (by simp) (fun x h0 h1=>by omega)
     rw[show((0:Nat):Int)=0 from rfl]at e1
     rw[e1]
     simp only[Option.bind_some]
     have hM:MatIs M1 (bU (l.drop l.length)) (Cst (l.drop l.length)):=by
      rw[List.drop_length]
      refine⟨e2,fun x hx y hy=>?_,e3⟩
      simp[bU]at hx hy
      subst hx;subst hy
      exact(e3 0 (by omega) (by omega)).1
     obtain⟨M2,f1,f2⟩:=aQr l h l.length (Nat.le_refl _) M1 hM
     rw[aK,wi (by omega),f1]
     simp only[Option.bind_some]
     have ba:=gn2 _ ca
     have bb:=gn2 _ cb
     obtain⟨y,q⟩:=rH (l:=M2) (i:=a*10) (by omega) (by rw[f2.len];omega)
     rw[aP (by omega)]
     simp only[Option.bind_some]
     rw[q]
     simp only[Option.bind_some]
     rw[aP (by omega)]
     simp only[Option.bind_some]
     rw[aK,show(((10:Nat):Int))=10 from rfl,f2.get _ ca _ cb]
     simp only[Option.bind_some]
     rw[gN _ (VZs ((aIT h).1 _ ca _ cb)),if_pos ⟨ca,cb⟩];rfl
   · rw[decide_eq_false cb,if_neg (show ¬(a∈bU l/\b∈bU l)from fun h=>cb h.2)];rfl
 · rw[decide_eq_false ca,if_neg (show ¬(a∈bU l/\b∈bU l)from fun h=>ca h.1)];rfl
end Go.Ev
/- Covariances: the program's table is the one over the rational numbers. -/
namespace Go.Ev
set_option linter.all false
set_option maxHeartbeats 1000000
theorem aD2 {T B:Nat}{q:Q}(hT:0<T)(h:Dv T q)(h1:bd B q)(b:B<=100*PP)(t:T<=PP ^ 6):bX q:=by
 have h2:=aAt h1 b
 refine aE0 hT h h2.1 h2.2 (by decide) (Nat.lt_of_le_of_lt (Nat.mul_le_mul_left _ t) ?_)
 rw[aMS];unfold PP;decide
theorem coz:Co (fun _=>0) (fun _=>0):=⟨fun _ _=>rfl,fun {D X y} _ h=>⟨⟨by have:=tV X;grind,tV X⟩,⟨0,by simp⟩,⟨0,by simp⟩⟩⟩
theorem aJu (f:Int->Q)(t:Q)(a:List QL):lin f (a.map (tT t))=jO f (fun _=>0) a / t:=by
 rw[<- aJY,aJZ coz]
section
variable {D X T M:Nat}{v:Int}{a:List QL}{f:Int->Q}
theorem aPR (h:Arms D X v a):Dv (nm D (sm wt a)) (1 / sm wt a)/\bd D (1 / sm wt a)/\bX (1 / sm wt a):=by
 have hp:=h.pos
 have hN:=(yG h.hD hp (xX h.lk)).1
 obtain⟨n1,n2⟩:=h.nN
 have hP:=h.hP
 have d1:Dv (nm D (sm wt a)) (1 / sm wt a):=⟨(D:Int),by
  rw[hN]
  have e:((D:Int):Q)=(D:Q):=rfl
  rw[e];grind⟩
 have n1':(1:Q)<=(nm D (sm wt a):Q):=by
  have:=aCN (m:=1) (n:=nm D (sm wt a)) n1
  have e:((1:Nat):Q)=1:=rfl
  rw[e]at this;exact this
 have b1:bd D (1 / sm wt a):=aD3 hp (by have:=tV D;have:=_root_.Rat.mul_nonneg this (Std.le_of_lt hp);grind) (by grind)
 exact⟨d1,b1,aD2 n1 d1 b1 (by omega) (gV (a:=1) (by rw[Nat.pow_one];omega) (by omega))⟩
theorem aKl (h:Arms D X v a)(hf:aCn T M f)(hT:T<=PP ^ 5)(hM:M<=8*PP){s:Q}(ds:Dv (nm D (sm wt a)*T) s)(bs:bd PP s):∀ a1 a2:List QL,a=a1++a2->
 aCe (fun u=>ofQ (f u)) (a2.map fun y=>(tT (sm wt a) y).toP) (ofQ (s+jO f (fun _=>0) a1 / sm wt a))=ofQ (s+jO f (fun _=>0) a / sm wt a)
 | a1,[],e=>by
  rw[List.append_nil]at e
  rw[List.map_nil,aCe,<- e]
 | a1,y::a2,e=>by
  have hy:y∈a:=by rw[e];simp
  obtain⟨n1,n2⟩:=h.nN
  have hP:=h.hP
  have hX:=h.hX
  have nP:nm D (sm wt a)<=PP ^ 1:=by rw[Nat.pow_one];omega
  have pp:400<=PP:=by decide
  have NT:=pK nP hT
  have NT0:=Nat.mul_pos n1 hf.1
  obtain⟨s1,s2,s3⟩:=xY h hy
  obtain⟨f1,f2⟩:=hf.2 y.a
  have e1:y.w / sm wt a*f y.a=jO f (fun _=>0) [y] / sm wt a:=by
   unfold jO
   simp only[sm]
   grind
  obtain⟨q1,q2⟩:=aIj coz hf h (a1:=[y]) (by simpa using h.lk y hy) (by have:=uS h.lk hy;simp only[sm];unfold wt at *;grind)
  obtain⟨r1,r2⟩:=vQ coz hf h (a1:=a1) (a2:=y::a2) e
  obtain⟨t1,t2⟩:=vQ coz hf h (a1:=a1++[y]) (a2:=a2) (by rw[e];simp)
  have ff:=aD2 hf.1 f1 f2 (by omega) (gV hT (by omega))
  have fs:=aEn n1 (by omega) (by grind) s3 s1
  have fp:bX (y.w / sm wt a*f y.a):=by rw[e1];exact aD2 NT0 q1 q2 (by omega) NT
  have fa:=aD2 NT0 (kT ds r1) (aAZ bs r2) (by omega) NT
  have eq:s+jO f (fun _=>0) a1 / sm wt a+y.w / sm wt a*f y.a=s+jO f (fun _=>0) (a1++[y]) / sm wt a:=by
   rw[e1,aIW]
   have:=h.pos
   grind
  have fb:bX (s+jO f (fun _=>0) a1 / sm wt a+y.w / sm wt a*f y.a):=by rw[eq];exact aD2 NT0 (kT ds t1) (aAZ bs t2) (by omega) NT
  rw[List.map_cons,aCe]
  have ps:(tT (sm wt a) y).toP.fShare=ofQ (y.w / sm wt a):=rfl
  have pn:(tT (sm wt a) y).toP.fNode=y.a:=rfl
  rw[ps,pn,aGC fs ff fp,aGD fa fp fb,eq]
  exact aKl h hf hT hM ds bs (a1++[y]) a2 (by rw[e];simp)
end
def aQ6 (T M:Nat)(C:Int->Int->Q):Prop:=0<T/\∀ a c,Dv T (C a c)/\bd M (C a c)
theorem aOn {n:NQ}{r:List NQ}{D X T M:Nat}{a:List QL}(e1:n.cond=nI n.node a)(ha:Arms D X n.node a)(h:aQ6 T M (cvQ r)):aQ6 (nm D (sm wt a)*(nm D (sm wt a)*T)) (M+2*X+D) (cvQ (n::r)):=by
 obtain⟨n1,n2⟩:=ha.nN
 have ep:n.cond.ps=a.map (tT (sm wt a)):=by rw[e1];rfl
 have et:n.cond.t=sm wt a:=by rw[e1];rfl
 obtain⟨i1,i2,_⟩:=aPR ha
 have col:∀ f:Int->Q,aCn T M f->Dv (nm D (sm wt a)*T) (lin f n.cond.ps)/\bd (M+X) (lin f n.cond.ps):=fun f hf=>by
  rw[ep,aJu]
  exact vQ coz hf ha (a1:=a) (a2:=[]) (by simp)
 have colu:∀ u,aCn T M (cvQ r u):=fun u=>⟨h.1,fun c=>h.2 u c⟩
 have colv:∀ c,aCn T M (fun u=>cvQ r u c):=fun c=>⟨h.1,fun u=>h.2 u c⟩
 refine⟨Nat.mul_pos n1 (Nat.mul_pos n1 h.1),fun x c=>?_⟩
 rw[cvQ]
 by_cases c1:x=n.node
 · rw[if_pos c1]
   by_cases c2:c=n.node
   · rw[if_pos c2]
     have inner:aCn (nm D (sm wt a)*T) (M+X) (fun u=>lin (cvQ r u) n.cond.ps):=⟨Nat.mul_pos n1 h.1,fun u=>col _ (colu u)⟩
     have outer:Dv (nm D (sm wt a)*(nm D (sm wt a)*T)) (lin (fun u=>lin (cvQ r u) n.cond.ps) n.cond.ps)/\bd (M+X+X) (lin (fun u=>lin (cvQ r u) n.cond.ps) n.cond.ps):=by
      have:=vQ coz inner ha (a1:=a) (a2:=[]) (by simp)
      rw[<- aJu,<- ep]at this
      exact this
     rw[et]
     exact⟨kT (pP _ i1) outer.1,aAt (aAZ i2 outer.2) (by omega)⟩
   · rw[if_neg c2]
     obtain⟨g1,g2⟩:=col _ (colv c)
     exact⟨sY g1 (Nat.dvd_mul_left _ _),aAt g2 (by omega)⟩
 · rw[if_neg c1]
   by_cases c2:c=n.node
   · rw[if_pos c2]
     obtain⟨g1,g2⟩:=col _ (colv x)
     exact⟨sY g1 (Nat.dvd_mul_left _ _),aAt g2 (by omega)⟩
   · rw[if_neg c2]
     obtain⟨g1,g2⟩:=h.2 x c
     exact⟨sY g1 (Nat.dvd_trans (Nat.dvd_mul_left _ _) (Nat.dvd_mul_left _ _)),aAt g2 (by omega)⟩
theorem aKY:∀ (b:List NQ) (k:Nat),aAb k b->k+b.length<=5->∃ T,T<=epr k b.length*epr k b.length/\aQ6 T (b.length*(800+PP)) (cvQ b)
 | [],k,_,_=>⟨1,by simp[epr],by omega,fun a c=>⟨⟨0,by simp[cvQ]⟩,by unfold bd;simp[cvQ]⟩⟩
 | n::r,k,h,hk=>by
  obtain⟨⟨D,X,a,e1,ha,hD⟩,hr⟩:=h
  rw[List.length_cons]at hk
  obtain⟨T,t1,t2⟩:=aKY r (k+1) hr (by omega)
  obtain⟨n1,n2⟩:=ha.nN
  have hX:=ha.hX
  have hP:=ha.hP
  have s:=aOn e1 ha t2
  refine⟨_,?_,s.1,fun x c=>⟨(s.2 x c).1,aAt (s.2 x c).2 ?_⟩⟩
  · rw[List.length_cons,epr]
    have hN:nm D (sm wt a)<=ex k:=Nat.le_trans n2 hD
    calc nm D (sm wt a)*(nm D (sm wt a)*T)<=ex k*(ex k*(epr (k+1) r.length*epr (k+1) r.length)):=Nat.mul_le_mul hN (Nat.mul_le_mul hN t1)
     _=ex k*epr (k+1) r.length*(ex k*epr (k+1) r.length):=by simp only[Nat.mul_assoc,Nat.mul_left_comm,Nat.mul_comm]
  · have e:(r.length+1)*(800+PP)=r.length*(800+PP)+(800+PP):=Nat.succ_mul _ _
    rw[List.length_cons,e];omega
theorem aKG (n:NQ)(r:List NQ):gW (n::r)=n.cond.toC::gW r:=rfl
theorem aIp {b:List NQ}(hn:∀ n∈b,n.cond.node=n.node){u:Int}:u∈bU (gW b)↔u=0\/∃ c∈b,c.node=u:=by
 rw[tB]
 unfold gW
 constructor
 · rintro(h | ⟨d,hd,e⟩)
   · exact .inl h
   · obtain⟨c,hc,rfl⟩:=List.mem_map.1 hd
     exact .inr ⟨c,hc,by rw[<- hn c hc];exact e⟩
 · rintro(h | ⟨c,hc,e⟩)
   · exact .inl h
   · exact .inr ⟨c.cond.toC,List.mem_map_of_mem hc,by rw[<- e];exact hn c hc⟩
theorem aPZ:∀ {b:List NQ} {k:Nat},Dn b->Pin b->aAb k b->k+b.length<=5->(∀ n∈b,1<=n.node/\n.node<=9)->
 vZ (gW b)/\∀ x y,(x=0\/∃ c∈b,c.node=x)->(y=0\/∃ c∈b,c.node=y)->Cst (gW b) x y=ofQ (cvQ b x y)
 | [],k,_,_,_,_,_=>⟨trivial,fun x y _ _=>by show eF 0=ofQ 0;exact aAy⟩
 | n::r,k,d,hp,hb,hk,h9=>by
  obtain⟨⟨D,X,a,e1,ha,hD⟩,hr⟩:=hb
  rw[List.length_cons]at hk
  have hpw:=(List.pairwise_cons.1 d.1).1
  obtain⟨gr,ih⟩:=aPZ d.tail (hp.tail d) hr (by omega) (fun m hm=>h9 m (by simp[hm]))
  obtain⟨T,t1,t2⟩:=aKY r (k+1) hr (by omega)
  obtain⟨nn,ncn⟩:=d.2 n (by simp)
  have hn9:=h9 n (by simp)
  have rn:∀ m∈r,m.cond.node=m.node:=fun m hm=>(d.2 m (by simp[hm])).2
  have hps:∀ u∈psN n.cond,u=0\/∃ c∈r,c.node=u:=fun u hu=>by
   rcases hp n (by simp) u hu with h0 | ⟨c,hc,e⟩
   · exact .inl h0
   · rcases List.mem_cons.1 hc with rfl | hc
     · exact absurd (e▸hu) nn
     · exact .inr ⟨c,hc,e⟩
  have ep:n.cond.ps=a.map (tT (sm wt a)):=by rw[e1];rfl
  have et:n.cond.t=sm wt a:=by rw[e1];rfl
  have efp:n.cond.toC.fParents=a.map fun y=>(tT (sm wt a) y).toP:=by
   show n.cond.ps.map PQ.toP=_
   rw[ep,List.map_map];rfl
  have efn:n.cond.toC.fNode=n.node:=ncn
  have eft:n.cond.toC.fTotal=ofQ (sm wt a):=by rw[<- et];rfl
  have pin:∀ q∈n.cond.toC.fParents,q.fNode=0\/∃ c∈r,c.node=q.fNode:=fun q hq=>hps _ (by rw[<- aHl];exact List.mem_map_of_mem hq)
  have epe:=aIC (k:=k+1) (n:=r.length) (by omega)
  have tP:T<=PP ^ 4:=Nat.le_trans t1 (pK epe epe)
  have pp:400<=PP:=by decide
  have hP:=ha.hP
  have hX:=ha.hX
  obtain⟨n1,n2⟩:=ha.nN
  have nP:nm D (sm wt a)<=PP ^ 1:=by rw[Nat.pow_one];omega
  have rl:r.length<=4:=by omega
  have hM:r.length*(800+PP)<=4*(800+PP):=Nat.mul_le_mul_right _ rl
  have big:800*4<=PP:=by decide
  obtain⟨i1,i2,i3⟩:=aPR ha
  have z0:(0:Q)+jO (fun _=>0) (fun _=>0) [] / sm wt a=0:=by unfold jO;simp only[sm];grind
  have row:∀ y,(y=0\/∃ c∈r,c.node=y)->newRow n.cond.toC (Cst (gW r)) y=ofQ (lin (fun u=>cvQ r u y) n.cond.ps):=fun y hy=>by
   unfold newRow
   rw[aCJ (g:=fun u=>ofQ ((fun u=>cvQ r u y) u)) fun q hq=>ih _ _ (pin q hq) hy,efp,aAy]
   have:=aKl ha (f:=fun u=>cvQ r u y) ⟨t2.1,fun u=>t2.2 u y⟩ (gV tP (by omega)) (by omega) (s:=0) ⟨0,by simp⟩ ⟨by have:=tV PP;grind,tV PP⟩ [] a rfl
   rw[ep,aJu]
   have e0:(0:Q)+jO (fun u=>cvQ r u y) (fun _=>0) [] / sm wt a=0:=by unfold jO;simp only[sm];grind
   rw[e0]at this
   rw[this]
   congr 1;grind
  have own:aCM n.cond.toC (Cst (gW r))=ofQ (1 / n.cond.t+lin (fun u=>lin (cvQ r u) n.cond.ps) n.cond.ps):=by
   unfold aCM
   rw[aCJ (g:=fun u=>ofQ ((fun u=>lin (cvQ r u) n.cond.ps) u)) fun q hq=>by
    rw[row _ (pin q hq)]
    congr 1
    exact pD fun x _=>aAV r _ _,efp,eft]
   have ft:=ha.ftot
   have hpos:=ha.pos
   have one:eF 1=ofQ 1:=aPK
   have f1:bX 1:=aJK (z:=1) (by decide)
   rw[one,aMQ f1 ft (by grind) i3]
   have inner:aCn (nm D (sm wt a)*T) (r.length*(800+PP)+X) (fun u=>lin (cvQ r u) n.cond.ps):=⟨Nat.mul_pos n1 t2.1,fun u=>by
    show Dv _ (lin (cvQ r u) n.cond.ps)/\bd _ (lin (cvQ r u) n.cond.ps)
    rw[ep,aJu]
    exact vQ coz ⟨t2.1,fun c=>t2.2 u c⟩ ha (a1:=a) (a2:=[]) (by simp)⟩
   have:=aKl ha inner (gV (pK nP tP) (by omega)) (by omega) (s:=1 / sm wt a) (pP _ i1) (aAt i2 (by omega)) [] a rfl
   have e0:1 / sm wt a+jO (fun u=>lin (cvQ r u) n.cond.ps) (fun _=>0) [] / sm wt a=1 / sm wt a:=by unfold jO;simp only[sm];grind
   rw[e0]at this
   rw[this,et]
   congr 2
   rw[ep,aJu]
  have nr:∀ y,(y=0\/∃ c∈n::r,c.node=y)->¬y=n.node->(y=0\/∃ c∈r,c.node=y):=fun y hy hne=>by
   rcases hy with h0 | ⟨c,hc,e⟩
   · exact .inl h0
   · rcases List.mem_cons.1 hc with rfl | hc
     · exact absurd e.symm hne
     · exact .inr ⟨c,hc,e⟩
  refine⟨⟨by rw[efn];exact hn9,?_,fun q hq=>⟨?_,?_⟩,?_,?_,gr⟩,fun x y hx hy=>?_⟩
  · rw[efn]
    intro hm
    rcases(aIp rn).1 hm with h0 | ⟨c,hc,e⟩
    · omega
    · exact(hpw c hc).2 e.symm
  · rw[efp]at hq
    obtain⟨y,hy,rfl⟩:=List.mem_map.1 hq
    obtain⟨s1,s2,s3⟩:=xY ha hy
    have fs:bX (y.w / sm wt a):=aEn n1 (by omega) (by grind) s3 s1
    exact rO fs
  · exact(aIp rn).2 (pin q hq)
  · rw[eft];exact rO ha.ftot
  · rw[efp,List.length_map]
    have:=aDv ha.inc fun x hx=>(ha.nd x hx).1
    omega
  · rw[aKG]
    show aGP n.cond.toC (Cst (gW r)) x y=_
    unfold aGP
    rw[efn,cvQ]
    by_cases c1:x=n.node
    · rw[if_pos c1,if_pos c1]
      by_cases c2:y=n.node
      · rw[if_pos c2,if_pos c2];exact own
      · rw[if_neg c2,if_neg c2];exact row y (nr y hy c2)
    · rw[if_neg c1,if_neg c1]
      by_cases c2:y=n.node
      · rw[if_pos c2,if_pos c2];exact row x (nr x hx c1)
      · rw[if_neg c2,if_neg c2];exact ih x y (nr x hx c1) (nr y hy c2)
theorem aRo {l:List QL}{o:List Int}(h:Tie l o){a c:Int}(ha:a=0\/a∈o)(hc:c=0\/c∈o):lQ (gR l o) a c=some (ofQ (cvT l o a c)):=by
 have hz:=h.tsz
 have nb:=h.netB
 obtain⟨g,e⟩:=aPZ nb.dn h.pin nb.nb (by have:=nb.len;omega) (fun n hn=>(nb.each n hn).2.1)
 obtain⟨h9,hn⟩:=aCH h.isTree
 have e2:(gR l o).fNodes.map (·.fCond)=gW (aI l o o []):=by
  unfold gR gW
  simp only[List.map_map]
  rfl
 have net:=aPN (t:=gR l o) (by omega) (fun n hn'=>by have:=(hn n hn').2.2;omega) (by omega)
 rw[e2]at net
 unfold lQ
 rw[net]
 simp only[Option.bind_some]
 rw[aPg g nb.isNet]
 unfold aNt
 have inN:∀ u,(u=0\/u∈o)->u∈bU (gW (aI l o o [])):=fun u hu=>(aIp fun n hn=>(nb.dn.2 n hn).2).2 (hu.imp id pR)
 rw[if_pos ⟨inN a ha,inN c hc⟩,e a c (ha.imp id pR) (hc.imp id pR)]
 rfl
theorem aOo {l:List QL}{o:List Int}(h:Tie l o):∃ T,0<T/\T<=PP ^ 4/\∀ a c,Dv T (cvT l o a c)/\bd (5*(800+PP)) (cvT l o a c):=by
 have nb:=h.netB
 have hl:=nb.len
 obtain⟨T,t1,t2,t3⟩:=aKY _ 0 nb.nb (by omega)
 have ep:=aIC (k:=0) (n:=(aI l o o []).length) (by omega)
 exact⟨T,t2,Nat.le_trans t1 (pK ep ep),fun a c=>⟨(t3 a c).1,aAt (t3 a c).2 (Nat.mul_le_mul_right _ hl)⟩⟩
end Go.Ev
/- What an inserted link changes lies in the list: done. -/
namespace Go.Ev
set_option linter.all false
end Go.Ev
/- Inserting a link: the program alone. -/
namespace Go.Ev
set_option linter.all false
end Go.Ev
/- The law of inserting. -/
namespace Go.Ev
set_option linter.all false
end Go.Ev
/- A link taken away: which nodes stay as they are. -/
namespace Go.Ev
set_option linter.all false
set_option maxHeartbeats 2000000
section
variable {l l2:List QL}{o e:List Int}{k:QL}{L:Int->Prop}
end
end Go.Ev
/- Deleting a link: what the program yields; what changes. -/
namespace Go.Ev
set_option linter.all false
set_option maxHeartbeats 1000000
section
variable {l A B:List QL}{o:List Int}{k:QL}
end
end Go.Ev
/- The law of deleting. -/
namespace Go.Ev
set_option linter.all false
set_option maxHeartbeats 1000000
theorem aNa (a:List Point)(hl:a.length<=1000)(h:∀ p∈a,bE p.fX<=4294967296/\bE p.fY<=4294967296):oU a a=some true:=by
 have main:∀ m k:Nat,m+k=a.length->lp (kP a a) (k:Int)=some (.inl ()):=by
  intro m
  induction m with
  | zero=>intro k hk;exact aN (by unfold kP;rw[if_neg (by omega)])
  | succ m ih =>
   intro k hk
   have hlt:k<a.length:=by omega
   obtain⟨h1,h2⟩:=h _ (List.getElem_mem hlt)
   rw[aS (s':=((k+1:Nat):Int))]
   · exact ih (k+1) (by omega)
   · unfold kP
     rw[if_pos (by omega),aM hlt]
     simp only[Option.bind_some]
     rw[cR _ _ h1,cR _ _ h2]
     simp only[Option.bind_some,decide_true,if_true,Bool.not_true,Bool.false_eq_true,if_false]
     rw[wi (n:=(k:Int)+1) (by omega)];rfl
 have:=main a.length 0 (by omega)
 unfold oU
 rw[if_neg (by simp),show(0:Int)=((0:Nat):Int)from rfl,this]
 rfl
theorem aRp {l:List QL}{o:List Int}(h:Tie l o):(yZ (uU (aI l o o [])).toNat (aI l o o [])).length<=1000/\∀ p∈yZ (uU (aI l o o [])).toNat (aI l o o []),bE p.fX<=4294967296/\bE p.fY<=4294967296:=by
 obtain⟨t1,t2,t3,t4⟩:=h.netB.top
 refine⟨by rw[wL];omega,fun p hp=>?_⟩
 obtain⟨i,hi,rfl⟩:=List.getElem_of_mem hp
 rw[aAL]
 split
 · obtain⟨T,b1,sx,sy⟩:=aEV _ 0 h.netB.nb
   have ep:=aIC (k:=0) (n:=(aI l o o []).length) (by have:=h.netB.len;omega)
   have hl:=h.netB.len
   have fx:=aGZ sx.1 (sx.2 (i:Int)).1 (sx.2 (i:Int)).2 (by omega) (gV (Nat.le_trans b1 ep) (by omega))
   have fy:=aGZ sy.1 (sy.2 (i:Int)).1 (sy.2 (i:Int)).2 (by omega) (gV (Nat.le_trans b1 ep) (by omega))
   have e1:=lS (kU fx)
   have e2:=lS (kU fy)
   exact⟨by show bE (ofQ _)<=_;omega,by show bE (ofQ _)<=_;omega⟩
 · exact⟨by decide,by decide⟩
end Go.Ev
/- A tree and a further order of its nodes, drawn. -/
namespace Go.Ev
set_option linter.all false
theorem aMi (c:l01Cur)(s:List Int)(hs:s.length<=9):∀ (m k:Nat) (a:List Int) (fi fh:Int),m+k=s.length->qQ ⟨c.fb,fi,fh⟩->a.Perm (s.take k)->
 ∃ a':List Int,lp (iZ s c) ((k:Int),fi,fh,a)=some a'/\a'.Perm s:=by
 intro m
 induction m with
 | zero =>
  intro k a fi fh hm hc hp
  refine⟨a,aN ?_,by rw[List.take_of_length_le (by omega)]at hp;exact hp⟩
  unfold iZ
  simp only[]
  rw[if_neg (by omega)]
 | succ m ih =>
  intro k a fi fh hm hc hp
  have hlt:k<s.length:=by omega
  have hl:a.length=k:=by rw[hp.length_eq,List.length_take];omega
  obtain⟨r,a1,b1,c1,d1⟩:=rK ⟨c.fb,fi,fh⟩ ((k:Int)+1) hc (by omega)
  have e1:sub a 0 r.1=some (a.take r.1.toNat):=by rw[pM _ _ _ (by omega)];simp
  have e2:sub a r.1 (a.length:Int)=some (a.drop r.1.toNat):=by
   rw[pM _ _ _ (by omega),List.take_of_length_le (by rw[List.length_drop];omega)]
  have t1:(a.take r.1.toNat).length<=9:=by rw[List.length_take];omega
  have t2:(a.drop r.1.toNat).length<=9:=by rw[List.length_drop];omega
  have st:iZ s c ((k:Int),fi,fh,a)=some (.inl (((k+1:Nat):Int),r.2.fi,r.2.fh,a.take r.1.toNat++[s[k]]++a.drop r.1.toNat)):=by
   unfold iZ
   simp only[]
   rw[if_pos (by omega),aM hlt]
   simp only[Option.bind_some,aK]
   rw[wi (n:=(a.length:Int)+1) (by omega),hl,a1]
   simp only[Option.bind_some]
   rw[e1]
   simp only[Option.bind_some,List.nil_append,List.length_nil,Nat.zero_add]
   rw[aP (by omega)]
   simp only[Option.bind_some,aK]
   rw[aP (by omega)]
   simp only[Option.bind_some,aK]
   rw[hl]at e2
   rw[e2]
   simp only[Option.bind_some]
   rw[aP (by rw[List.length_append,List.length_singleton];omega),wi (n:=(k:Int)+1) (by omega)]
   rfl
  rw[aS st]
  refine ih (k+1) _ _ _ (by omega) (xC c1 d1) ?_
  rw[List.take_add_one,List.getElem?_eq_getElem hlt]
  have p1:(a.take r.1.toNat++[s[k]]++a.drop r.1.toNat).Perm (a++[s[k]]):=by
   rw[List.append_assoc]
   refine(List.Perm.append_left _ List.perm_append_comm).trans ?_
   rw[<- List.append_assoc,List.take_append_drop]
  exact p1.trans (hp.append_right _)
theorem aO9 (code:List Int)(h:code.length<=1048576){n:Int}{l:List QL}(hl:LinkL n l)(es:eI (l.map QL.toL)=some (pk (jnP (l.map QL.toL)))) :
 ∃ s o,(eI (l.map QL.toL)).bind (fun r=>some r.1)=some s/\mI code s=some o/\Tie l o:=by
 obtain⟨s,e,j1,j2,j3⟩:=hl.tie0.join
 rw[j1]at es
 obtain⟨c,e1,c1⟩:=aPc code 9 (by omega) h
 have ns:=aD6 j2
 rw[j3]at ns
 obtain⟨o,a3,p3⟩:=aMi c (fO (l.map QL.toL)) (yE _) _ 0 [] c.fi c.fh (Nat.add_zero _) c1 (by simp)
 refine⟨s,o,by rw[es];rfl,?_,hl.tie (p3.nodup_iff.2 (xL _)) fun u=>p3.mem_iff⟩
 unfold mI
 rw[e1];simp only[Option.bind_some]
 rw[ns];simp only[Option.bind_some]
 rw[show((0:Nat):Int)=0 from rfl]at a3
 rw[a3]
 rfl
theorem aQB (code:List Int)(h:code.length<=1048576):∃ (n:Int) (l:List QL) (o o2:List Int) (S:List Link),rX code=some (gR l o)/\mJ code=some (l.map QL.toL)/\tQ code=some S/\mI code S=some o2/\LinkL n l/\(1<=n/\n<=4)/\Tie l o/\Tie l o2:=by
 obtain⟨c,e1,c1,f1⟩:=aPM code h
 obtain⟨r,a1,b1,cc1,d1⟩:=rK ⟨c.fb,c.fi,c.fh⟩ 4 c1 (by omega)
 obtain⟨l,c2,a2,o2,f2,hl⟩:=aQp ⟨c.fb,r.2.fi,r.2.fh⟩ (1+r.1) (xC cc1 d1) (by omega)
 obtain⟨s,e,j1,j2,j3⟩:=hl.tie0.join
 have hz:=hl.tie0.sz
 have js:=(wT (l.map QL.toL) (by omega)).1
 obtain⟨S,ord2,q1,q2,q3⟩:=aO9 code h hl js
 rw[j1]at js
 have ns:=aD6 j2
 rw[j3]at ns
 obtain⟨o,f3,g3,a3,o3,p3⟩:=aNx c (fO (l.map QL.toL)) (yE _) _ 0 [] c2.fi c2.fh (Nat.add_zero _) (xC o2 f2) (by simp)
 have ht:Tie l o:=hl.tie (p3.nodup_iff.2 (xL _)) fun u=>p3.mem_iff
 have el:tK ⟨c.fb,c.fi,c.fh⟩=some (l.map QL.toL,o,⟨c.fb,f3,g3⟩):=by
  unfold tK
  rw[a1];simp only[Option.bind_some]
  rw[wi (n:=1+r.1) (by omega),a2];simp only[Option.bind_some]
  rw[js];simp only[Option.bind_some,pk]
  rw[ns];simp only[Option.bind_some]
  rw[show((0:Nat):Int)=0 from rfl]at a3
  rw[a3]
  rfl
 have hz2:=ht.sz
 have ho:o.length<=5:=ht.base.len
 have bq:=(aIU (l.map QL.toL) o (by omega) (by omega)).1
 rw[ht.build]at bq
 have em:mJ code=some (l.map QL.toL):=by
  unfold mJ
  rw[e1];simp only[Option.bind_some]
  rw[a1];simp only[Option.bind_some]
  rw[wi (n:=1+r.1) (by omega),a2]
  rfl
 refine⟨1+r.1,l,o,ord2,S,?_,em,?_,q2,hl,by omega,ht,q3⟩
 · unfold rX xI
   rw[e1];simp only[Option.bind_some]
   rw[el];simp only[Option.bind_some]
   rw[bq]
   rfl
 · unfold tQ
   rw[em];simp only[Option.bind_some]
   exact q1
end Go.Ev
/- The law of reordering. -/
namespace Go.Ev
set_option linter.all false
set_option maxHeartbeats 1000000
theorem aMd {t:Tree}(c:xN t)(h:kC t<=2097152)(o:List Int)(ho:o.length<=1000):mY t o=some (pkT (wW (eC t.fNodes) o)):=by
 have e2:=aOQ t (by omega)
 have l2:=aIv t (by omega)
 have h0:=h
 unfold kC lU at h0
 have hn:=iY bR t.fNodes
 have hs:=aB0 t.fNodes
 obtain⟨b1,b2⟩:=aIU (eC t.fNodes) o (by omega) (by omega)
 unfold mY
 rw[e2,decide_eq_true c]
 simp only[if_true,Option.bind_some,l2,b2]
 try rfl
theorem aPD {l:List QL}{o:List Int}(h:Tie l o){v:Int}(hv:v∈o):lA (gR l o) v=some (ofQ (cvT l o v v)):=by
 unfold lA
 rw[aRo h (.inr hv) (.inr hv)]
 try rfl
theorem aMT {l:List QL}{o:List Int}(h:Tie l o)(a c:Int):bX (cvT l o a c):=by
 obtain⟨T,t1,t2,t3⟩:=aOo h
 have pp:1600<=PP:=by decide
 exact aD2 t1 (t3 a c).1 (t3 a c).2 (by omega) (gV t2 (by omega))
theorem aOT (code:List Int)(_:okL (okI .u8) code):tZ code=some true:=by
 unfold tZ
 by_cases big:(1048576:Int)<(code.length:Int)
 · rw[if_pos big]
 rw[if_neg big]
 obtain⟨n,l,o,o2,S,e1,_,e2,e3,hl,hn,ht,ht2⟩:=aQB code (by omega)
 have hT:=ht.isTree
 have hz:=ht.tsz
 have nl:=aHm l o
 have ho5:=ht.base.len
 have ho2:=ht2.base.len
 have op:o2.Perm o:=(List.perm_ext_iff_of_nodup ht2.nd ht.nd).2 fun u=>by rw[ht2.mem,ht.mem]
 have oll:=op.length_eq
 have ti:=ht.inTie
 have ti2:Tie (aBG l o) o2:=ti.perm (List.Perm.refl _) op
 have hz2:=ti2.tsz
 have hp:(aBG l o).Perm l:=ht.inPerm
 rw[e1];simp only[Option.bind_some]
 rw[e2];simp only[Option.bind_some]
 rw[e3];simp only[Option.bind_some]
 rw[if_neg (by omega)]
 simp only[Option.bind_some]
 rw[aIv _ (by omega),aCI]
 simp only[Option.bind_some]
 have sz:=ti2.sz
 have jq:=(wT ((aBG l o).map QL.toL) (by omega)).2
 have bj:=ti2.base.join.1
 have js:=(aBF bj).2.1
 rw[bj]at jq
 rw[jq]
 simp only[Option.bind_some,pk]
 rw[aGK js o2 (by omega),decide_eq_true ti2.isOrd]
 simp only[Option.bind_some,if_true]
 have rq:=aMd hT (by omega) o2 (by omega)
 rw[aCI,ti2.build]at rq
 rw[rq]
 simp only[Option.bind_some,pkT]
 have ew:(⟨(aI (aBG l o) o2 o2 []).map NQ.toN⟩:Tree)=gR (aBG l o) o2:=rfl
 rw[ew,aLk ht,aLk ti2]
 simp only[Option.bind_some]
 have loop:∀ m j:Nat,m+j=o2.length->lp (lK o2 (gR l o) (gR (aBG l o) o2,true)) (j:Int)=some (.inl ()):=by
  intro m
  induction m with
  | zero=>intro j hj;exact aN (by unfold lK;rw[if_neg (by omega)])
  | succ m ih =>
   intro j hj
   have hlt:j<o2.length:=by omega
   have hm:=List.getElem_mem hlt
   rw[aS (s':=((j+1:Nat):Int))]
   · exact ih (j+1) (by omega)
   · unfold lK
     rw[if_pos (by omega),aM hlt]
     simp only[Option.bind_some]
     rw[aPD ht (op.mem_iff.1 hm),aPD ti2 hm]
     simp only[Option.bind_some]
     have sv:=lS (kU (aMT ht o2[j] o2[j]))
     rw[cR _ _ (by omega),decide_eq_true (by rw[aOl ht ti2 hp op])]
     simp only[Option.bind_some,if_true]
     rw[wi (n:=(j:Int)+1) (by omega)];rfl
 have lz:=loop o2.length 0 (by omega)
 rw[show((0:Nat):Int)=0 from rfl]at lz
 rw[lz]
 simp only[Option.bind_some,if_true]
 obtain⟨z1,z2⟩:=aRp ht
 rw[<- aO1 ht ti2 hp op,aNa _ z1 z2]
 simp only[Option.bind_some,if_true]
 rw[aJM ht,aJM ti2]
 simp only[Option.bind_some]
 obtain⟨_,ee⟩:=aI6 ht ti2 hp op
 have ff:=aFi (pre:=o) (rem:=[]) ht (by simp)
 have:=lS (kU ff)
 rw[<- ee,cR _ _ (by omega),decide_eq_true rfl]
 rfl
end Go.Ev
