/- Parts VT, VU, VW, VX, VY, VZ, VM, VN, VO, WA, WB, WC. -/
import Derived.Test.YtachfjpemagdiaaGreatPb4
import Derived.Test.YtachfjpemagdiaaGreatPb1
set_option linter.all false
/- The energies of a tree at positions; its solution. -/
namespace Go.Ev
set_option linter.all false
def sn (f:NQ->Q):List NQ->Q
 | []=>0
 | x::l=>f x+sn f l
theorem aKt (f:NQ->Q):∀ a b:List NQ,sn f (a++b)=sn f a+sn f b
 | [],b=>by simp only[List.nil_append,sn];grind
 | x::a,b=>by rw[List.cons_append,sn,sn,aKt f a b,_root_.Rat.add_assoc]
theorem aKu (f g:NQ->Q):∀ a:List NQ,sn (fun n=>f n+g n) a=sn f a+sn g a
 | []=>by simp only[sn];grind
 | x::a=>by rw[sn,sn,sn,aKu f g a];grind
theorem aB6 {f:NQ->Q}:∀ {l:List NQ},(∀ x∈l,0<=f x)->0<=sn f l
 | [],_=>by simp[sn]
 | x::l,h=>by
  have h1:=h x (by simp)
  have h2:=aB6 (f:=f) (l:=l) (fun y hy=>h y (by simp[hy]))
  rw[sn];grind
theorem aIe {f:NQ->Q}:∀ {l:List NQ},(∀ x∈l,f x=0)->sn f l=0
 | [],_=>rfl
 | x::l,h=>by
  rw[sn,h x (by simp),aIe (fun y hy=>h y (by simp[hy]))];grind
theorem aNl {f:NQ->Q}:∀ {l:List NQ},(∀ x∈l,0<=f x)->sn f l<=0->∀ x∈l,f x=0
 | y::l,h,h0,x,hx=>by
  have h1:=h y (by simp)
  have h2:=aB6 (f:=f) (l:=l) (fun y hy=>h y (by simp[hy]))
  rw[sn]at h0
  rcases List.mem_cons.1 hx with rfl | hx
  · grind
  · exact aNl (fun y hy=>h y (by simp[hy])) (by grind) x hx
theorem aPk {f:QL->Q}{a b:List QL}(h:a.Perm b):sm f a=sm f b:=by
 induction h with
 | nil=>rfl
 | cons x _ ih=>rw[sm,sm,ih]
 | swap x y l=>rw[sm,sm,sm,sm];grind
 | trans _ _ i1 i2=>rw[i1,i2]
section
variable {l:List QL}{o pre r:List Int}{v:Int}{b:List NQ}
theorem aNQ (hb:Base l o)(hi:TInv l o pre (v::r) b):∀ x∈(nxt l o v b).msgs,x.a∈psN (nxt l o v b).cond/\x.b∈psN (nxt l o v b).cond/\x.a<x.b:=by
 obtain⟨n,h1,hv,v1,v9,hl,nV,hV⟩:=hi.facts hb
 have hinc:=hi.inc hb
 obtain⟨c1,c2,c3,c4,c5,c6,c7⟩:=aNV (order:=o) hinc
 have hsp:=hi.split
 intro x hx
 have hj:=(hinc.join).2.1
 refine⟨?_,?_,(c5 x hx).2.2.2⟩
 all_goals
  obtain⟨y,hy,e1,e2⟩:=nY _ [] 0 x hx
  have hy:=hy.resolve_left (by simp)
  rcases List.mem_append.1 hy with hy | hy
  · obtain⟨m1,m2,m3⟩:=aAp.1 hy
    obtain⟨z,hz,f1,f2⟩:=nY _ [] 0 y m1
    have hz:=hz.resolve_left (by simp)
    rcases List.mem_append.1 hz with hz | hz
    · exfalso
      have:=(List.mem_filter.1 hz).2
      rw[hsp]at this
      have:=((aCb n h1).1 this).1
      omega
    · obtain⟨c,hc,hu2,hz⟩:=qK.1 hz
      obtain⟨_,hk⟩:=hi.kid_ps hb hc hu2
      obtain⟨_,_,p3,_⟩:=hi.ps c hc (by rw[hu2];simp)
      have g1:=(p3 z hz).1
      have g2:=(p3 z hz).2.1
      rw[f1,e1]at g1
      rw[f2,e2]at g2
      first | exact hk _ g1 (by omega) | exact hk _ g2 (by omega)
  · obtain⟨_,_,_,_,⟨y1,hy1,q1⟩,y2,hy2,q2⟩:=hj.arms.each hy
    have e:psN (nxt l o v b).cond=(bR v (bH (l.filter (kB o v)++mP v b) [] 0).1).map fun x=>x.a:=aBA v _
    rw[e]
    first | exact List.mem_map.2 ⟨y1,hy1,q1.trans e1⟩ | exact List.mem_map.2 ⟨y2,hy2,q2.trans e2⟩
theorem aNS (hb:Base l o)(hi:TInv l o pre (v::r) b)(h:(nxt l o v b).up∉r):(nxt l o v b).msgs=[]:=by
 rw[List.eq_nil_iff_forall_not_mem]
 intro x hx
 obtain⟨h1,h2,h3⟩:=aNQ hb hi x hx
 by_cases c:x.b=0
 · have:=hi.nxt_rem hb _ h1
   have h5:0<=x.a:=by
    rcases List.mem_cons.1 this.1 with g | g
    · omega
    · have:=(hi.facts hb).2.1 x.a (by simp[g]);omega
   omega
 · exact h (hi.nxt_up hb h2 c)
theorem aHQ (hb:Base l o)(hi:TInv l o pre (v::r) b):(∀ x∈l.filter (kB o v)++mP v b,0<x.w)/\0<sm wt (bR v (bH (l.filter (kB o v)++mP v b) [] 0).1):=by
 have hinc:=hi.inc hb
 exact⟨fun x hx=>(hinc.lk x hx).1.sc.1,(hinc.join).2.1.arms.pos⟩
theorem aEW (p q:Int->Q)(hb:Base l o)(hg:Grounded l o):∀ (n:Nat) (pre rem:List Int),pre.length=n->o=pre++rem->
 sm (eP p q) (l.filter fun x=>decide (aQ o [x.a,x.b]∈pre))=sn (fun n=>cdE p q n.cond+n.enQ) (aH l o pre [])+sm (eP p q) (dU ((aH l o pre []).filter (iS rem)))
 | 0,pre,rem,hn,e=>by
  have:pre=[]:=List.length_eq_zero_iff.1 hn
  subst this
  have e1:(l.filter fun x=>decide (aQ o [x.a,x.b]∈([]:List Int)))=[]:=by simp
  rw[e1]
  simp only[aH,List.filter_nil,dU,List.flatMap_nil,sm,sn]
  grind
 | n+1,pre,rem,hn,e=>by
  rcases List.eq_nil_or_concat pre with rfl | ⟨q',v,rfl⟩
  · simp at hn
  rw[List.concat_eq_append]at hn e ⊢
  have eo:o=q'++v::rem:=by rw[e,List.append_assoc];rfl
  have ih:=aEW p q hb hg n q' (v::rem) (by simpa using hn) eo
  have ti:=TInv.at hb hg q'.length q' (v::rem) rfl eo
  obtain⟨nd,h1,hv,v1,v9,hl,nV,hV⟩:=ti.facts hb
  obtain⟨fp1,fp2⟩:=aHQ hb ti
  have hN:=aPu p q fp1 fp2
  rw[nQ,aKt]
  simp only[sn]
  have vq:v∉q':=fun h=>by
   have:=hb.nd
   rw[eo]at this
   exact(List.nodup_append.1 this).2.2 v h v (by simp) rfl
  have s1:sm (eP p q) (l.filter fun x=>decide (aQ o [x.a,x.b]∈q'++[v]))=sm (eP p q) (l.filter fun x=>decide (aQ o [x.a,x.b]∈q'))+sm (eP p q) (l.filter (kB o v)):=by
   rw[aBt (eP p q) (fun x=>decide (aQ o [x.a,x.b]∈q')),List.filter_filter,List.filter_filter]
   congr 2
   · refine List.filter_congr fun x _=>?_
     by_cases c:aQ o [x.a,x.b]∈q' <;> simp[c]
   · refine List.filter_congr fun x _=>?_
     unfold kB
     by_cases c:aQ o [x.a,x.b]=v
     · simp[c,vq]
     · by_cases d:aQ o [x.a,x.b]∈q' <;> simp[c,d]
  have s2:sm (eP p q) (dU ((aH l o q' []).filter (iS (v::rem))))=sm (eP p q) (mP v (aH l o q' []))+sm (eP p q) (dU ((aH l o q' []).filter (iS rem))):=by
   rw[aCU (eP p q) (kid v),aGe,aD4 hv]
   rfl
  have s3:sm (eP p q) (dU ((aH l o q' []++[nxt l o v (aH l o q' [])]).filter (iS rem)))=sm (eP p q) (dU ((aH l o q' []).filter (iS rem)))+sm (eP p q) (nxt l o v (aH l o q' [])).msgs:=by
   unfold dU
   rw[List.filter_append,List.flatMap_append,sY,List.filter_cons,List.filter_nil]
   by_cases c:(nxt l o v (aH l o q' [])).up∈rem
   · have:iS rem (nxt l o v (aH l o q' []))=true:=decide_eq_true c
     rw[if_pos this,List.flatMap_cons,List.flatMap_nil,List.append_nil]
   · have:¬iS rem (nxt l o v (aH l o q' []))=true:=fun h=>c (of_decide_eq_true h)
     rw[if_neg this,aNS hb ti c,List.flatMap_nil]
  rw[s1,s3,ih,s2]
  grind
end
theorem aNe (p q:Int->Q){l:List QL}{o:List Int}(h:Tie l o):sm (eP p q) l=sn (fun n=>cdE p q n.cond) (aH l o o [])+sn (fun n=>n.enQ) (aH l o o []):=by
 have e:=aEW p q h.base h.gr o.length o [] rfl (by simp)
 have e1:(l.filter fun x=>decide (aQ o [x.a,x.b]∈o))=l:=List.filter_eq_self.2 fun x hx=>decide_eq_true (h.owner x hx)
 have e2:(aH l o o []).filter (iS [])=[]:=List.filter_eq_nil_iff.2 fun c _ hc=>by have:=of_decide_eq_true hc;simp at this
 rw[e1,e2,aKu]at e
 rw[e]
 simp only[dU,List.flatMap_nil,sm]
 grind
def sol (g:PQ->Q):List NQ->Int->Q
 | [],_=>0
 | n::r,u=>if u=n.node then app (sol g r) g n.cond.ps else sol g r u
theorem aD7 {f f':Int->Q}(g:PQ->Q):∀ {ps:List PQ},(∀ x∈ps,f x.node=f' x.node)->app f g ps=app f' g ps
 | [],_=>rfl
 | x::r,h=>by rw[app,app,h x (by simp),aD7 g fun y hy=>h y (by simp[hy])]
def Dn (b:List NQ):Prop:=b.Pairwise (fun n c=>n.node∉psN c.cond/\n.node≠c.node)/\∀ n∈b,n.node∉psN n.cond/\n.cond.node=n.node
theorem Dn.tail {n:NQ}{r:List NQ}(h:Dn (n::r)):Dn r:=⟨(List.pairwise_cons.1 h.1).2,fun c hc=>h.2 c (by simp[hc])⟩
theorem aFn (g:PQ->Q):∀ {b:List NQ},Dn b->∀ n∈b,sol g b n.node=app (sol g b) g n.cond.ps
 | c::r,h,n,hn=>by
  have hp:=(List.pairwise_cons.1 h.1).1
  have key:∀ m:NQ,c.node∉psN m.cond->app (sol g (c::r)) g m.cond.ps=app (sol g r) g m.cond.ps:=fun m hm =>
   aD7 g fun x hx=>by
    have:x.node≠c.node:=fun e=>hm (e▸List.mem_map_of_mem hx)
    rw[sol,if_neg this]
  rcases List.mem_cons.1 hn with rfl | hn
  · rw[key n (h.2 n (by simp)).1,sol,if_pos rfl]
  · obtain⟨h1,h2⟩:=hp n hn
    rw[key n h1,<- aFn g h.tail n hn,sol,if_neg (fun e=>h2 e.symm)]
theorem zF (g:PQ->Q):∀ (b:List NQ) (u:Int),(∀ n∈b,n.node≠u)->sol g b u=0
 | [],_,_=>rfl
 | n::r,u,h=>by rw[sol,if_neg (fun e=>h n (by simp) e.symm),zF g r u fun c hc=>h c (by simp[hc])]
theorem aIc (g:PQ->Q)(p:Int->Q):∀ {b:List NQ},Dn b->(∀ n∈b,p n.node=app p g n.cond.ps)->(∀ n∈b,∀ u∈psN n.cond,(∃ c∈b,c.node=u)\/p u=0)->∀ n∈b,p n.node=sol g b n.node
 | c::r,h,hp,hu,n,hn=>by
  have hpw:=(List.pairwise_cons.1 h.1).1
  have ih:=aIc g p h.tail (fun m hm=>hp m (by simp[hm])) (fun m hm u hu'=>by
   rcases hu m (by simp[hm]) u hu' with⟨d,hd,e⟩ | h0
   · rcases List.mem_cons.1 hd with rfl | hd
     · exact absurd (e▸hu') (hpw m hm).1
     · exact .inl ⟨d,hd,e⟩
   · exact .inr h0)
  rcases List.mem_cons.1 hn with rfl | hn
  · rw[hp n (by simp),sol,if_pos rfl]
    refine aD7 g fun x hx=>?_
    have hm:x.node∈psN n.cond:=List.mem_map_of_mem hx
    by_cases c1:∃ d∈r,d.node=x.node
    · obtain⟨d,hd,e⟩:=c1
      rw[<- e];exact ih d hd
    · rw[zF g r _ fun d hd e=>c1 ⟨d,hd,e⟩]
      rcases hu n (by simp) _ hm with⟨d,hd,e⟩ | h0
      · rcases List.mem_cons.1 hd with rfl | hd
        · exact absurd (e▸hm) (h.2 d (by simp)).1
        · exact absurd ⟨d,hd,e⟩ c1
      · exact h0
  · rw[sol,if_neg (fun e=>(hpw n hn).2 e.symm)]
    exact ih n hn
theorem aHp (x:Q):0<=x*x:=by
 rcases Std.le_total (a:=0) (b:=x)with h | h
 · exact _root_.Rat.mul_nonneg h h
 · have:=_root_.Rat.mul_nonneg (a:=-x) (b:=-x) (by grind) (by grind)
   grind
theorem aPj {x y:Q}(h:sqQ x y=0):x=0/\y=0:=by
 unfold sqQ at h
 have h1:=aHp x
 have h2:=aHp y
 have e1:x*x=0:=by grind
 have e2:y*y=0:=by grind
 constructor
 · rcases _root_.Rat.mul_eq_zero.1 e1 with h | h <;> exact h
 · rcases _root_.Rat.mul_eq_zero.1 e2 with h | h <;> exact h
theorem aK9 (p q:Int->Q){c:CQ}(h:0<c.t):0<=cdE p q c:=by
 unfold cdE sqQ
 exact _root_.Rat.mul_nonneg (by grind) (by have:=aHp (p c.node-app p (·.x) c.ps);have:=aHp (q c.node-app q (·.y) c.ps);grind)
theorem aOK {p q:Int->Q}{c:CQ}(h:0<c.t)(h0:cdE p q c=0):p c.node=app p (·.x) c.ps/\q c.node=app q (·.y) c.ps:=by
 unfold cdE at h0
 rcases _root_.Rat.mul_eq_zero.1 h0 with h1 | h1
 · grind
 · obtain⟨e1,e2⟩:=aPj h1
   constructor <;> grind
theorem aRw (p q:Int->Q){x:QL}(h:0<x.w):0<=eP p q x:=by
 unfold eP sqQ
 exact _root_.Rat.mul_nonneg (by grind) (by have:=aHp (p x.b-p x.a-x.x);have:=aHp (q x.b-q x.a-x.y);grind)
end Go.Ev
/- Two trees of the same links: the same solution, the same energy. -/
namespace Go.Ev
set_option linter.all false
theorem aIa {l:List QL}{o:List Int}(h:Tie l o):∀ (n:Nat) (pre rem:List Int),pre.length=n->o=pre++rem->
 Dn (aH l o pre [])/\∀ c∈aH l o pre [],c.node∈pre/\0<c.cond.t/\∀ u∈psN c.cond,u=0\/u∈o
 | 0,pre,rem,hn,e=>by
  have:pre=[]:=List.length_eq_zero_iff.1 hn
  subst this
  exact⟨⟨List.Pairwise.nil,by simp[aH]⟩,by simp[aH]⟩
 | n+1,pre,rem,hn,e=>by
  rcases List.eq_nil_or_concat pre with rfl | ⟨q,v,rfl⟩
  · simp at hn
  rw[List.concat_eq_append]at hn e ⊢
  have eo:o=q++v::rem:=by rw[e,List.append_assoc];rfl
  obtain⟨⟨i1,i2⟩,i3⟩:=aIa h n q (v::rem) (by simpa using hn) eo
  have ti:=TInv.at h.base h.gr q.length q (v::rem) rfl eo
  obtain⟨fp1,fp2⟩:=aHQ h.base ti
  have hrem:=ti.nxt_rem h.base
  have nd:=h.nd
  rw[eo]at nd
  have nd2:=List.nodup_append.1 nd
  rw[nQ]
  refine⟨⟨?_,?_⟩,?_⟩
  · rw[List.pairwise_append]
    refine⟨i1,by simp,fun c hc d hd=>?_⟩
    rw[List.mem_singleton.1 hd]
    have cq:=(i3 c hc).1
    have c1:=(h.five c.node (by rw[eo];simp[cq])).1
    refine⟨fun hm=>?_,fun e=>?_⟩
    · rcases List.mem_cons.1 (hrem _ hm).1 with g | g
      · omega
      · exact nd2.2.2 _ cq _ (List.mem_cons_of_mem _ g) rfl
    · have:c.node=v:=e
      exact nd2.2.2 _ cq _ (by simp) this
  · intro c hc
    rcases List.mem_append.1 hc with hc | hc
    · exact i2 c hc
    · rw[List.mem_singleton.1 hc]
      exact⟨fun hm=>(hrem _ hm).2 rfl,rfl⟩
  · intro c hc
    rcases List.mem_append.1 hc with hc | hc
    · obtain⟨g1,g2,g3⟩:=i3 c hc
      exact⟨by simp[g1],g2,g3⟩
    · rw[List.mem_singleton.1 hc]
      refine⟨by simp[show(nxt l o v (aH l o q [])).node=v from rfl],fp2,fun u hu=>?_⟩
      rcases List.mem_cons.1 (hrem u hu).1 with g | g
      · exact .inl g
      · exact .inr (by rw[eo];simp[g])
theorem Tie.dn {l:List QL}{o:List Int}(h:Tie l o):Dn (aH l o o [])/\∀ c∈aH l o o [],c.node∈o/\0<c.cond.t/\∀ u∈psN c.cond,u=0\/u∈o:=aIa h o.length o [] rfl (by simp)
theorem aBp {l:List QL}{o:List Int}{u:Int}(h:u∈o):∃ c∈aH l o o [],c.node=u:=by
 have e:=zE l o o []
 have:u∈(aH l o o []).map (fun n=>n.node):=by rw[e];simpa using h
 obtain⟨c,hc,e2⟩:=List.mem_map.1 this
 exact⟨c,hc,e2⟩
theorem aRl (g:PQ->Q){l:List QL}{o:List Int}(h:Tie l o):sol g (aH l o o []) 0=0 :=
 zF g _ 0 fun n hn e=>by
  have:=(h.five _ ((h.dn).2 n hn).1).1
  omega
theorem aPY {l:List QL}{o:List Int}(h:Tie l o):sm (eP (sol (·.x) (aH l o o [])) (sol (·.y) (aH l o o []))) l=sn (fun n=>n.enQ) (aH l o o []):=by
 obtain⟨d,_⟩:=h.dn
 rw[aNe _ _ h,aIe fun n hn=>by
  have e1:=aFn (·.x) d n hn
  have e2:=aFn (·.y) d n hn
  unfold cdE
  rw[(d.2 n hn).2,e1,e2]
  unfold sqQ
  grind]
 grind
theorem aLu {l l':List QL}{o:List Int}(h:Tie l o)(hl:l'.Perm l)(p q:Int->Q):sn (fun n=>n.enQ) (aH l o o [])<=sm (eP p q) l'/\(p 0=0->q 0=0->sm (eP p q) l'<=sn (fun n=>n.enQ) (aH l o o [])->∀ u∈o,p u=sol (·.x) (aH l o o []) u/\q u=sol (·.y) (aH l o o []) u):=by
 obtain⟨d,f⟩:=h.dn
 have e:=aNe p q h
 rw[aPk hl,e]
 have nn:=aB6 (f:=fun n=>cdE p q n.cond) (l:=aH l o o []) fun n hn=>aK9 p q (f n hn).2.1
 refine⟨by grind,fun p0 q0 hle u hu=>?_⟩
 have z:=aNl (f:=fun n=>cdE p q n.cond) (l:=aH l o o []) (fun n hn=>aK9 p q (f n hn).2.1) (by grind)
 have hz:∀ n∈aH l o o [],p n.node=app p (·.x) n.cond.ps/\q n.node=app q (·.y) n.cond.ps:=fun n hn=>by
  have:=aOK (f n hn).2.1 (z n hn)
  rw[(d.2 n hn).2]at this
  exact this
 have hps:∀ (w:Int->Q),w 0=0->∀ n∈aH l o o [],∀ u∈psN n.cond,(∃ c∈aH l o o [],c.node=u)\/w u=0:=fun w hw n hn u hu=>by
  rcases(f n hn).2.2 u hu with h0 | h0
  · exact .inr (by rw[h0];exact hw)
  · exact .inl (aBp h0)
 obtain⟨c,hc,rfl⟩:=aBp (l:=l) hu
 exact⟨aIc (·.x) p d (fun n hn=>(hz n hn).1) (hps p p0) c hc,aIc (·.y) q d (fun n hn=>(hz n hn).2) (hps q q0) c hc⟩
theorem aJc {l l':List QL}{o o':List Int}(h:Tie l o)(h':Tie l' o')(hl:l'.Perm l)(ho:o'.Perm o) :
 (∀ u,sol (·.x) (aH l o o []) u=sol (·.x) (aH l' o' o' []) u/\sol (·.y) (aH l o o []) u=sol (·.y) (aH l' o' o' []) u)/\sn (fun n=>n.enQ) (aH l o o [])=sn (fun n=>n.enQ) (aH l' o' o' []):=by
 have a1:=aPY h
 have a2:=aPY h'
 have m1:=aLu h' hl.symm (sol (·.x) (aH l o o [])) (sol (·.y) (aH l o o []))
 have m2:=aLu h hl (sol (·.x) (aH l' o' o' [])) (sol (·.y) (aH l' o' o' []))
 have ee:sn (fun n=>n.enQ) (aH l o o [])=sn (fun n=>n.enQ) (aH l' o' o' []):=by
  have:=m1.1
  have:=m2.1
  grind
 refine⟨fun u=>?_,ee⟩
 by_cases c:u∈o
 · exact m1.2 (aRl _ h) (aRl _ h) (by grind) u (ho.mem_iff.2 c)
 · have o1:∀ n∈aH l o o [],n.node≠u:=fun n hn e=>c (e▸((h.dn).2 n hn).1)
   have o2:∀ n∈aH l' o' o' [],n.node≠u:=fun n hn e=>c (ho.mem_iff.1 (e▸((h'.dn).2 n hn).1))
   rw[zF _ _ _ o1,zF _ _ _ o1,zF _ _ _ o2,zF _ _ _ o2]
   exact⟨rfl,rfl⟩
end Go.Ev
/- Positions have few digits. -/
namespace Go.Ev
set_option linter.all false
def aO2 (k:Nat)(n:NQ):Prop:=∃ (D X:Nat) (a:List QL),n.cond=pE n.node a/\Arms D X n.node a/\72*D<=ex k
def aB0:Nat->List NQ->Prop
 | _,[]=>True
 | k,n::r=>aO2 k n/\aB0 (k+1) r
theorem aEv {n:NQ}:∀ {k:Nat} {b:List NQ},aB0 k b->aO2 (k+b.length) n->aB0 k (b++[n])
 | k,[],_,h=>⟨by simpa using h,trivial⟩
 | k,m::r,h,g=>⟨h.1,aEv h.2 (by rw[List.length_cons]at g;rw[show k+1+r.length=k+(r.length+1)by omega];exact g)⟩
theorem aBZ {n:NQ}:∀ {k:Nat} {a b:List NQ},aB0 k (a++b)->aB0 (k+a.length) b
 | k,[],b,h=>h
 | k,m::a,b,h=>by
  have:=aBZ (n:=n) (k:=k+1) (a:=a) h.2
  rw[List.length_cons,show k+(a.length+1)=k+1+a.length by omega];exact this
section
variable {l:List QL}{o pre r:List Int}{v:Int}{b:List NQ}
theorem aQJ (hb:Base l o)(hi:TInv l o pre (v::r) b):72*aBl v b<=ex b.length:=by
 obtain⟨k1,k2,k3⟩:=hi.kids
 have hH:dQ (fun c:NQ=>72*c.den) (b.filter (kid v))<=ex b.length:=Nat.le_trans (Nat.le_trans (Nat.le_mul_of_pos_right _ k2) k1) (aK0 _)
 have ex72:72<=ex b.length:=by
  unfold ex
  have:1<=2 ^ b.length:=Nat.one_le_two_pow
  calc 72=72 ^ 1:=rfl
   _<=_:=Nat.pow_le_pow_right (by omega) this
 by_cases c:b.filter (kid v)=[]
 · have:aBl v b=1:=by
    have e:aBl v b=dQ (fun c:NQ=>c.den) (b.filter (kid v)):=rfl
    rw[e,c];rfl
   rw[this];omega
 · exact Nat.le_trans (aDf _ _ c) hH
theorem aMr (hb:Base l o)(hi:TInv l o pre (v::r) b):aO2 b.length (nxt l o v b) :=
 ⟨aBl v b,20*2 ^ b.length,bR v (bH (l.filter (kB o v)++mP v b) [] 0).1,rfl,((hi.inc hb).join).2.1.arms,aQJ hb hi⟩
theorem aBq (hb:Base l o)(hg:Grounded l o):∀ (n:Nat) (pre rem:List Int),pre.length=n->o=pre++rem->aB0 0 (aH l o pre [])
 | 0,pre,rem,hn,e=>by
  have:pre=[]:=List.length_eq_zero_iff.1 hn
  subst this
  exact trivial
 | n+1,pre,rem,hn,e=>by
  rcases List.eq_nil_or_concat pre with rfl | ⟨q,v,rfl⟩
  · simp at hn
  rw[List.concat_eq_append]at hn e ⊢
  have eo:o=q++v::rem:=by rw[e,List.append_assoc];rfl
  have ih:=aBq hb hg n q (v::rem) (by simpa using hn) eo
  have ti:=TInv.at hb hg q.length q (v::rem) rfl eo
  rw[nQ]
  refine aEv ih ?_
  rw[Nat.zero_add]
  exact aMr hb ti
end
def epr:Nat->Nat->Nat
 | _,0=>1
 | k,n+1=>ex k*epr (k+1) n
theorem aOy {k n:Nat}(h:k+n<=5):epr k n<=PP ^ 2:=by
 have:∀ k,k<=5->∀ n,n<=5-k->epr k n<=PP ^ 2:=by unfold PP;decide
 exact this k (by omega) n (by omega)
structure Co (g:PQ->Q)(gl:QL->Q):Prop where
 par:∀ t a,g (zB t a)=gl a
 lk:∀ {D X:Nat} {y:QL},0<D->Lk D X y->bd X (gl y)/\Dv D (y.w*gl y)/\Dv (nm D y.w) (gl y)
theorem cox:Co (·.x) (·.x):=⟨fun _ _=>rfl,fun hD h=>⟨h.bx,h.sc.2.2.1,(aIT hD h.sc).1⟩⟩
theorem coy:Co (·.y) (·.y):=⟨fun _ _=>rfl,fun hD h=>⟨h.by',h.sc.2.2.2,(aIT hD h.sc).2⟩⟩
def aHd (T M:Nat)(f:Int->Q):Prop:=0<T/\∀ u,Dv T (f u)/\bd M (f u)
def pV (f:Int->Q)(gl:QL->Q)(a:List QL):Q:=sm (fun y=>y.w*(f y.a+gl y)) a
theorem aL4 {g:PQ->Q}{gl:QL->Q}(hg:Co g gl)(f:Int->Q)(t:Q):∀ a:List QL,app f g (a.map (zB t))=pV f gl a / t
 | []=>by simp only[List.map_nil,app,pV,sm];grind
 | x::a=>by
  have ih:=aL4 hg f t a
  unfold pV at ih ⊢
  rw[List.map_cons,app,sm,ih,hg.par]
  unfold zB
  simp only[]
  grind
theorem aLs {g:PQ->Q}{gl:QL->Q}(hg:Co g gl){f:Int->Q}{T M D X:Nat}(hf:aHd T M f)(hD:0<D):∀ a:List QL,(∀ x∈a,Lk D X x)->Dv (D*T) (pV f gl a)/\-((M+X:Nat):Q)*sm wt a<=pV f gl a/\pV f gl a<=((M+X:Nat):Q)*sm wt a
 | [],_=>by
  unfold pV
  simp only[sm]
  exact⟨⟨0,by simp⟩,by grind,by grind⟩
 | y::a,h=>by
  obtain⟨i1,i2,i3⟩:=aLs hg hf hD a (fun x hx=>h x (by simp[hx]))
  have hy:=h y (by simp)
  obtain⟨g1,g2,g3⟩:=hg.lk hD hy
  obtain⟨f1,f2⟩:=hf.2 y.a
  have b:=aFb hy.sc.1 (aD6 f2 g1)
  unfold pV at i1 i2 i3 ⊢
  rw[sm,sm]
  have e:y.w*(f y.a+gl y)=y.w*f y.a+y.w*gl y:=by grind
  refine⟨nH ?_ i1,?_,?_⟩
  · rw[e]
    exact nH (vT hy.sc.2.1 f1) (rR T g2)
  · unfold wt at i2 ⊢;grind
  · unfold wt at i3 ⊢;grind
theorem aLD {g:PQ->Q}{gl:QL->Q}(hg:Co g gl){f:Int->Q}{T M D X:Nat}{v:Int}{a:List QL}(hf:aHd T M f)(h:Arms D X v a){a1:List QL}(h1:∀ x∈a1,Lk D X x)(hle:sm wt a1<=sm wt a) :
 Dv (nm D (sm wt a)*T) (pV f gl a1 / sm wt a)/\bd (M+X) (pV f gl a1 / sm wt a):=by
 have hp:=h.pos
 have hN:=(zL h.hD hp (aAi h.lk)).1
 obtain⟨d1,d2,d3⟩:=aLs hg hf h.hD a1 h1
 have n1:=iZ h1
 have nn:=aAU (M+X)
 have m2:=_root_.Rat.mul_nonneg nn (b:=sm wt a-sm wt a1) (by grind)
 constructor
 · obtain⟨z,hz⟩:=d1
   refine⟨z,?_⟩
   rw[_root_.Rat.natCast_mul,hN,<- hz,_root_.Rat.natCast_mul]
   grind
 · have k1:-((M+X:Nat):Q)*sm wt a<=pV f gl a1:=by
    generalize ((M+X:Nat):Q)=K at *
    grind
   have k2:pV f gl a1<=((M+X:Nat):Q)*sm wt a:=by
    generalize ((M+X:Nat):Q)=K at *
    grind
   exact aGw hp k1 k2
theorem aDg {g:PQ->Q}{gl:QL->Q}(hg:Co g gl){f:Int->Q}{T M D X:Nat}{v:Int}{a:List QL}(hf:aHd T M f)(h:Arms D X v a){a1 a2:List QL}(e:a=a1++a2) :
 Dv (nm D (sm wt a)*T) (pV f gl a1 / sm wt a)/\bd (M+X) (pV f gl a1 / sm wt a):=by
 have h2:∀ x∈a2,Lk D X x:=fun x hx=>h.lk x (by rw[e];simp[hx])
 have n2:=iZ h2
 have es:sm wt a=sm wt a1+sm wt a2:=by rw[e,sY]
 exact aLD hg hf h (fun x hx=>h.lk x (by rw[e];simp[hx])) (by grind)
theorem aJb {g:PQ->Q}{gl:QL->Q}(hg:Co g gl){n:NQ}{r:List NQ}{D X T:Nat}{a:List QL}(e1:n.cond=pE n.node a)(ha:Arms D X n.node a)(t2:aHd T (400*r.length) (sol g r)):aHd (nm D (sm wt a)*T) (400*(r.length+1)) (sol g (n::r)):=by
 obtain⟨n1,n2⟩:=ha.nN
 obtain⟨p1,p2⟩:=aDg hg t2 ha (a1:=a) (a2:=[]) (by simp)
 have hX:=ha.hX
 refine⟨Nat.mul_pos n1 t2.1,fun u=>?_⟩
 rw[sol]
 by_cases c:u=n.node
 · rw[if_pos c,e1]
   have:(pE n.node a).ps=a.map (zB (sm wt a)):=rfl
   rw[this,aL4 hg]
   exact⟨p1,aJ8 p2 (by omega)⟩
 · rw[if_neg c]
   obtain⟨q1,q2⟩:=t2.2 u
   exact⟨xI q1 (Nat.dvd_mul_left _ _),aJ8 q2 (by omega)⟩
theorem aEY:∀ (b:List NQ) (k:Nat),aB0 k b->∃ T,T<=epr k b.length/\aHd T (400*b.length) (sol (·.x) b)/\aHd T (400*b.length) (sol (·.y) b)
 | [],k,_=>⟨1,by simp[epr],⟨by omega,fun u=>⟨⟨0,by simp[sol]⟩,by unfold bd;simp[sol]⟩⟩,⟨by omega,fun u=>⟨⟨0,by simp[sol]⟩,by unfold bd;simp[sol]⟩⟩⟩
 | n::r,k,h=>by
  obtain⟨⟨D,X,a,e1,ha,hk⟩,hr⟩:=h
  obtain⟨T,t1,t2,t3⟩:=aEY r (k+1) hr
  obtain⟨n1,n2⟩:=ha.nN
  exact⟨nm D (sm wt a)*T,Nat.mul_le_mul (Nat.le_trans n2 hk) t1,aJb cox e1 ha t2,aJb coy e1 ha t3⟩
end Go.Ev
/- A conditional applied: the program. -/
namespace Go.Ev
set_option linter.all false
set_option maxHeartbeats 1000000
theorem aFC {p q:Q}(hp:cC p)(hq:cC q)(h:cC (p+q)):bT (ofQ p) (ofQ q)=some (ofQ (p+q)):=by
 have e:=(aBn (mB hp) (mB hq)).2.1
 rw[aHg hp hq h]at e;exact e
theorem aJh {p q:Q}(hp:cC p)(hq:cC q)(h:cC (p*q)):cG (ofQ p) (ofQ q)=some (ofQ (p*q)):=by
 have e:=(aD9 (mB hp) (mB hq)).2.1
 rw[aHf hp hq h]at e;exact e
theorem aRo {p:Q}(hp:cC p):jL (ofQ p)=some true:=by
 have:=mF (mB hp)
 rw[aAE _ (by omega),decide_eq_true (uA hp)]
theorem aOo {p:Q}(hp:cC p):dE (ofQ p)=some true:=by
 rw[iK (mB hp),decide_eq_true (uA hp)]
theorem aGO {p q:Q}(hp:cC p)(hq:cC q)(h:cC (p+q)):qT (ofQ p) (ofQ q)=some (ofQ (p+q)):=by
 unfold qT
 rw[aRo hp,aRo hq]
 simp only[Option.bind_some,if_true,Bool.not_true,Bool.false_eq_true,if_false]
 rw[aFC hp hq h]
 rfl
theorem aLr:mU=some ⟨ofQ 0,ofQ 0⟩:=by
 unfold mU
 rw[gO 0 (by omega)]
 simp only[Option.bind_some,aCO]
def ptQ (fx fy:Int->Q)(u:Int):Point:=⟨ofQ (fx u),ofQ (fy u)⟩
theorem aHc {T B:Nat}{q:Q}(hT:0<T)(h:Dv T q)(hb:bd B q)(hB:B<=10000)(t:T<=PP ^ 6):cC q:=gT (B:=10000) hT h (aJ8 hb hB) (by omega) (by omega) t
theorem aM7 (f:Int->Q)(gl:QL->Q)(a b:List QL):pV f gl (a++b)=pV f gl a+pV f gl b:=sY _ _ _
theorem aLE {g:PQ->Q}{gl:QL->Q}(hg:Co g gl){f:Int->Q}{T M D X:Nat}{v:Int}{a:List QL}(hf:aHd T M f)(hT:T<=PP ^ 2)(hM:M<=5000)(h:Arms D X v a){a1:List QL}{y:QL}{a2:List QL}(e:a=a1++y::a2) :
 cC (f y.a)/\cC (gl y)/\cC (f y.a+gl y)/\cC (y.w / sm wt a)/\cC (y.w / sm wt a*(f y.a+gl y))/\cC (pV f gl a1 / sm wt a)/\cC (pV f gl a1 / sm wt a+y.w / sm wt a*(f y.a+gl y))/\pV f gl a1 / sm wt a+y.w / sm wt a*(f y.a+gl y)=pV f gl (a1++[y]) / sm wt a:=by
 have hy:y∈a:=by rw[e];simp
 have ly:=h.lk y hy
 obtain⟨g1,g2,g3⟩:=hg.lk h.hD ly
 obtain⟨f1,f2⟩:=hf.2 y.a
 obtain⟨s1,s2,s3⟩:=aBu h hy
 obtain⟨n1,n2⟩:=h.nN
 have hP:=h.hP
 have hX:=h.hX
 have nP:nm D (sm wt a)<=PP ^ 1:=by rw[Nat.pow_one];omega
 have yP:nm D y.w<=PP ^ 1:=by have:=aDi (W:=72) h.hD ly.sc.1 ly.sc.2.1 (h.le hy);rw[Nat.pow_one];omega
 have yN:=(zL h.hD ly.sc.1 ly.sc.2.1).2
 have e1:y.w / sm wt a*(f y.a+gl y)=pV f gl [y] / sm wt a:=by
  unfold pV
  simp only[sm]
  grind
 obtain⟨q1,q2⟩:=aLD hg hf h (a1:=[y]) (by simpa using ly) (by have:=xC h.lk hy;simp only[sm];unfold wt at *;grind)
 obtain⟨r1,r2⟩:=aDg hg hf h (a1:=a1) (a2:=y::a2) e
 obtain⟨t1,t2⟩:=aDg hg hf h (a1:=a1++[y]) (a2:=a2) (by rw[e];simp)
 have e2:pV f gl a1 / sm wt a+y.w / sm wt a*(f y.a+gl y)=pV f gl (a1++[y]) / sm wt a:=by
  rw[e1,aM7]
  have:=h.pos
  grind
 have NT:=jW (tZ nP hT) (b:=6) (by omega)
 have NT0:=Nat.mul_pos n1 hf.1
 refine⟨aHc hf.1 f1 f2 (by omega) (jW hT (by omega)),aHc yN g3 g1 (by omega) (jW yP (by omega)),
  aHc (Nat.mul_pos hf.1 yN) (nH (rR _ f1) (by rw[Nat.mul_comm];exact rR _ g3)) (aD6 f2 g1) (by omega) (jW (tZ hT yP) (by omega)),
  aHD n1 (by omega) (by grind) s3 s1,?_,aHc NT0 r1 r2 (by omega) NT,?_,e2⟩
 · rw[e1];exact aHc NT0 q1 q2 (by omega) NT
 · rw[e2];exact aHc NT0 t1 t2 (by omega) NT
theorem aPM {c:CQ}{v:Int}{D X M T1 T2:Nat}{a:List QL}{fx fy:Int->Q}(hc:c=pE v a)(ha:Arms D X v a)(hx:aHd T1 M fx)(hy:aHd T2 M fy)(h1:T1<=PP ^ 2)(h2:T2<=PP ^ 2)(hM:M<=5000)
 (hv:bY c.toC=some true) (at_:List Point) (hat:∀ y∈a,at_[y.a.toNat]?=some (ptQ fx fy y.a)):gZ c.toC at_=some (⟨ofQ (app fx (·.x) c.ps),ofQ (app fy (·.y) c.ps)⟩,true):=by
 have hpl:c.toC.fParents.length=a.length:=by rw[hc];unfold CQ.toC pE;simp
 have al:a.length<=10:=aGl ha.inc fun x hx=>(ha.nd x hx).1
 have main:∀ m k:Nat,m+k=a.length->lp (dV c.toC at_) ((k:Int),⟨ofQ (pV fx (·.x) (a.take k) / sm wt a),ofQ (pV fy (·.y) (a.take k) / sm wt a)⟩)=some (.inl ⟨ofQ (pV fx (·.x) a / sm wt a),ofQ (pV fy (·.y) a / sm wt a)⟩):=by
  intro m
  induction m with
  | zero =>
   intro k hk
   have:k=a.length:=by omega
   subst this
   rw[List.take_length]
   exact aL (by unfold dV;simp only[];rw[if_neg (by omega)])
  | succ m ih =>
   intro k hk
   have hlt:k<a.length:=by omega
   have ey:a=a.take k++a[k]::a.drop (k+1):=by rw[<- List.drop_eq_getElem_cons hlt,List.take_append_drop]
   have et:a.take (k+1)=a.take k++[a[k]]:=by rw[List.take_add_one,List.getElem?_eq_getElem hlt];rfl
   obtain⟨x1,x2,x3,x4,x5,x6,x7,x8⟩:=aLE cox hx h1 hM ha ey
   obtain⟨y1,y2,y3,y4,y5,y6,y7,y8⟩:=aLE coy hy h2 hM ha ey
   have hg:=hat _ (List.getElem_mem hlt)
   obtain⟨hl2,hg2⟩:=List.getElem?_eq_some_iff.1 hg
   have n0:=(ha.nd _ (List.getElem_mem hlt)).1.1
   have hp:c.toC.fParents[k]'(by omega)=(zB (sm wt a) a[k]).toP:=by
    subst hc
    unfold CQ.toC pE;simp
   have hi:idx at_ (a[k]).a=some (ptQ fx fy (a[k]).a):=by
    unfold idx;rw[if_pos n0];exact hg
   have st:dV c.toC at_ ((k:Int),⟨ofQ (pV fx (·.x) (a.take k) / sm wt a),ofQ (pV fy (·.y) (a.take k) / sm wt a)⟩)=some (.inl (((k+1:Nat):Int),⟨ofQ (pV fx (·.x) (a.take (k+1)) / sm wt a),ofQ (pV fy (·.y) (a.take (k+1)) / sm wt a)⟩)):=by
    unfold dV
    simp only[]
    rw[if_pos (by omega),aK (by omega:k<c.toC.fParents.length),hp]
    simp only[Option.bind_some]
    have pn:(zB (sm wt a) a[k]).toP.fNode=(a[k]).a:=rfl
    have ps:(zB (sm wt a) a[k]).toP.fShare=ofQ ((a[k]).w / sm wt a):=rfl
    have px:(zB (sm wt a) a[k]).toP.fDX=ofQ (a[k]).x:=rfl
    have py:(zB (sm wt a) a[k]).toP.fDY=ofQ (a[k]).y:=rfl
    rw[pn,ps,px,py,if_neg (by omega),hi]
    have qx:(ptQ fx fy (a[k]).a).fX=ofQ (fx (a[k]).a):=rfl
    have qy:(ptQ fx fy (a[k]).a).fY=ofQ (fy (a[k]).a):=rfl
    simp only[Option.bind_some]
    rw[qx,qy,aGO x1 x2 x3]
    simp only[Option.bind_some]
    rw[aJh x4 x3 x5]
    simp only[Option.bind_some]
    rw[aFC x6 x5 x7,x8]
    simp only[Option.bind_some]
    rw[aGO y1 y2 y3]
    simp only[Option.bind_some]
    rw[aJh y4 y3 y5]
    simp only[Option.bind_some]
    rw[aFC y6 y5 y7,y8]
    simp only[Option.bind_some]
    rw[wi (n:=(k:Int)+1) (by omega),et]
    rfl
   rw[aS st]
   exact ih (k+1) (by omega)
 have m0:=main a.length 0 (by omega)
 have z0:∀ (f:Int->Q) (gl:QL->Q),pV f gl (a.take 0) / sm wt a=0:=fun f gl=>by
  unfold pV;rw[List.take_zero];simp only[sm];grind
 rw[z0,z0,show((0:Nat):Int)=0 from rfl]at m0
 have ep:c.ps=a.map (zB (sm wt a)):=by rw[hc];rfl
 rw[ep,aL4 cox,aL4 coy]
 obtain⟨r1,r2⟩:=aDg cox hx ha (a1:=a) (a2:=[]) (by simp)
 obtain⟨s1,s2⟩:=aDg coy hy ha (a1:=a) (a2:=[]) (by simp)
 obtain⟨n1,n2⟩:=ha.nN
 have hP:=ha.hP
 have hX:=ha.hX
 have nP:nm D (sm wt a)<=PP ^ 1:=by rw[Nat.pow_one];omega
 have gx:=aHc (Nat.mul_pos n1 hx.1) r1 r2 (by omega) (jW (tZ nP h1) (by omega))
 have gy:=aHc (Nat.mul_pos n1 hy.1) s1 s2 (by omega) (jW (tZ nP h2) (by omega))
 unfold gZ
 rw[hv]
 simp only[Option.bind_some,if_true]
 rw[aLr]
 simp only[Option.bind_some]
 rw[m0]
 simp only[Option.bind_some]
 rw[aOo gx]
 simp only[Option.bind_some,if_true]
 rw[aOo gy]
 simp only[Option.bind_some,Bool.not_true,Bool.false_eq_true,if_false]
end Go.Ev
/- A tree solved: the program. -/
namespace Go.Ev
set_option linter.all false
set_option maxHeartbeats 1000000
def oQ (b:List NQ):List Conditional:=b.map fun n=>n.cond.toC
structure NetB (b:List NQ):Prop where
 dn:Dn b
 len:b.length<=5
 nb:aB0 0 b
 each:∀ n∈b,bY n.cond.toC=some true/\(1<=n.node/\n.node<=9)/\∀ u∈psN n.cond,u=0\/∃ c∈b,c.node=u
theorem Tie.netB {l:List QL}{o:List Int}(h:Tie l o):NetB (aH l o o []):=by
 obtain⟨d,f⟩:=h.dn
 refine⟨d,?_,aBq h.base h.gr o.length o [] rfl (by simp),fun n hn=>⟨?_,?_,fun u hu=>?_⟩⟩
 · rw[xT];have:=h.base.len;simpa using this
 · have hm:n.toN∈(cA l o).fNodes:=List.mem_map_of_mem hn
   obtain⟨_,n2,n3⟩:=(aFf h.isTree).2 _ hm
   have ec:n.toN.fCond=n.cond.toC:=rfl
   rw[ec]at n2 n3
   obtain⟨b,v1,v2,_⟩:=aIS n.cond.toC (by omega)
   rw[n2]at v1
   rw[v2,<- Option.some.inj v1]
 · have:=h.five _ (f n hn).1
   omega
 · exact((f n hn).2.2 u hu).imp id aBp
theorem aMm (c:CQ):c.toC.fParents.map (·.fNode)=psN c:=by
 unfold CQ.toC psN
 simp only[List.map_map]
 rfl
theorem aNK (c:Conditional)(N:List Int)(h:∀ q∈c.fParents,q.fNode∈N)(hz:N.length<=4294967296)(hs:c.fParents.length<=4294967296):lp (pN c N) 0=some (.inl ()):=by
 have main:∀ m k:Nat,m+k=c.fParents.length->lp (pN c N) (k:Int)=some (.inl ()):=by
  intro m
  induction m with
  | zero=>intro k hk;exact aL (by unfold pN;rw[if_neg (by omega)])
  | succ m ih =>
   intro k hk
   have hlt:k<c.fParents.length:=by omega
   rw[aS (s':=((k+1:Nat):Int))]
   · exact ih (k+1) (by omega)
   · unfold pN
     rw[if_pos (by omega),aK hlt]
     simp only[Option.bind_some]
     rw[wU _ _ hz,decide_eq_true (h _ (List.getElem_mem hlt))]
     simp only[Option.bind_some,if_true]
     rw[wi (n:=(k:Int)+1) (by omega)];rfl
 exact main _ 0 (Nat.add_zero _)
section
variable {b:List NQ}
theorem NetB.sp {b1 r:List NQ}{n:NQ}(h:NetB b)(e:b=b1++n::r):n.node∉r.map (fun c=>c.node)/\(∀ u∈psN n.cond,u=0\/∃ c∈r,c.node=u)/\n.cond.node=n.node:=by
 have hp:=h.dn.1
 have hm:n∈b:=by rw[e];simp
 rw[e,List.pairwise_append,List.pairwise_cons]at hp
 obtain⟨p1,⟨p2,p3⟩,p4⟩:=hp
 refine⟨fun hr=>?_,fun u hu=>?_,(h.dn.2 n hm).2⟩
 · obtain⟨c,hc,ec⟩:=List.mem_map.1 hr
   exact(p2 c hc).2 ec.symm
 · rcases(h.each n hm).2.2 u hu with h0 | ⟨c,hc,ec⟩
   · exact .inl h0
   · right
     rw[e]at hc
     rcases List.mem_append.1 hc with hc | hc
     · exact absurd (ec▸hu) (p4 c hc n (by simp)).1
     · rcases List.mem_cons.1 hc with rfl | hc
       · exact absurd (ec▸hu) (h.dn.2 c hm).1
       · exact⟨c,hc,ec⟩
theorem NetB.isNet (h:NetB b):yQ (oQ b)=some true:=by
 have hlen:=h.len
 have nl:(oQ b).length=b.length:=by unfold oQ;rw[List.length_map]
 have main:∀ (n:Nat) (b1 r:List NQ),b1.length=n->b=b1++r->lp (pM (oQ b)) ((b1.length:Int)-1,0::(r.map fun c=>c.node).reverse)=some (.inl ()):=by
  intro n
  induction n with
  | zero =>
   intro b1 r hn e
   have:b1=[]:=List.length_eq_zero_iff.1 hn
   subst this
   exact aL (by unfold pM;simp only[];rw[if_neg (by simp)])
  | succ n ih =>
   intro b1 r hn e
   rcases List.eq_nil_or_concat b1 with rfl | ⟨b2,x,rfl⟩
   · simp at hn
   rw[List.concat_eq_append]at hn e ⊢
   have e2:b=b2++x::r:=by rw[e,List.append_assoc];rfl
   obtain⟨s1,s2,s3⟩:=h.sp e2
   obtain⟨v1,v2,_⟩:=h.each x (by rw[e2];simp)
   have bl:b.length=b2.length+(r.length+1):=by rw[e2];simp
   have el:(((b2++[x]).length:Nat):Int)-1=(b2.length:Int):=by rw[List.length_append,List.length_singleton];omega
   have lt:b2.length<(oQ b).length:=by rw[nl,e2];simp
   have hg:(oQ b)[b2.length]=x.cond.toC:=by
    unfold oQ
    simp only[List.getElem_map,e2]
    simp
   have hN:(0::(r.map fun c=>c.node).reverse).length<=10:=by
    have:b.length=b2.length+(r.length+1):=by rw[e2];simp
    simp;omega
   have hfn:x.cond.toC.fNode=x.node:=s3
   have hpl:x.cond.toC.fParents.length<=100:=by
    obtain⟨D,X,a,e3,ha,_⟩:=(aBZ (n:=x) (k:=0) (a:=b2) (b:=x::r) (by rw[<- e2];exact h.nb)).1
    have:=aGl ha.inc fun x hx=>(ha.nd x hx).1
    rw[e3];unfold CQ.toC pE;simp;omega
   rw[el]
   have st:pM (oQ b) ((b2.length:Int),0::(r.map fun c=>c.node).reverse)=some (.inl ((b2.length:Int)-1,0::((x::r).map fun c=>c.node).reverse)):=by
    unfold pM
    simp only[]
    rw[if_pos (by omega),aK lt,hg]
    simp only[Option.bind_some]
    rw[v1]
    simp only[Option.bind_some,if_true]
    rw[hfn,wU _ _ (by omega),decide_eq_false (by
     intro hm
     rcases List.mem_cons.1 hm with h0 | hm
     · omega
     · exact s1 (List.mem_reverse.1 hm))]
    simp only[Option.bind_some,Bool.false_eq_true,if_false]
    rw[aNK _ _ (fun q hq=>by
     have:q.fNode∈psN x.cond:=by rw[<- aMm];exact List.mem_map_of_mem hq
     rcases s2 _ this with h0 | ⟨c,hc,ec⟩
     · rw[h0];simp
     · refine List.mem_cons_of_mem _ (List.mem_reverse.2 ?_)
       rw[<- ec];exact List.mem_map_of_mem hc) (by omega) (by omega)]
    simp only[Option.bind_some,aO]
    rw[aP (by omega),wi (n:=(b2.length:Int)-1) (by omega)]
    simp
   rw[aS st]
   exact ih b2 (x::r) (by simpa using hn) e2
 have:=main b.length b [] rfl (by simp)
 unfold yQ
 rw[nl,wi (n:=(b.length:Int)-1) (by omega),aO]
 simp only[List.map_nil,List.reverse_nil]at this
 rw[this]
 rfl
def uX (b:List NQ):Int:=b.foldl (fun g n=>max g n.node) 0
theorem aDz:∀ (b:List NQ) (g:Int),g<=b.foldl (fun g n=>max g n.node) g/\(∀ n∈b,n.node<=b.foldl (fun g n=>max g n.node) g)/\(b.foldl (fun g n=>max g n.node) g=g\/∃ n∈b,n.node=b.foldl (fun g n=>max g n.node) g)
 | [],g=>by simp
 | n::b,g=>by
  obtain⟨h1,h2,h3⟩:=aDz b (max g n.node)
  rw[List.foldl_cons]
  refine⟨by omega,fun m hm=>?_,?_⟩
  · rcases List.mem_cons.1 hm with rfl | hm
    · omega
    · exact h2 m hm
  · rcases h3 with h3 | ⟨m,hm,e⟩
    · by_cases c:n.node<=g
      · left;omega
      · right;exact⟨n,by simp,by omega⟩
    · exact .inr ⟨m,by simp[hm],e⟩
theorem NetB.top (h:NetB b):lp (kF (oQ b)) (0,0)=some (uX b)/\0<=uX b/\uX b<=9/\∀ n∈b,n.node<=uX b:=by
 have hlen:=h.len
 have nl:(oQ b).length=b.length:=by unfold oQ;rw[List.length_map]
 obtain⟨f1,f2,f3⟩:=aDz b 0
 refine⟨?_,f1,?_,f2⟩
 · have:=(gY (step:=kF (oQ b)) b (fun k g=>(g,(k:Int))) (fun g n=>max g n.node) (fun g=>g) (fun _ _=>True) (fun k g hk _=>by
    refine⟨?_,trivial⟩
    unfold kF
    simp only[]
    rw[if_pos (by omega),aK (by omega:k<(oQ b).length)]
    simp only[Option.bind_some]
    have hg:((oQ b)[k]'(by omega)).fNode=(b[k]).node:=by
     unfold oQ
     simp only[List.getElem_map]
     exact(h.dn.2 _ (List.getElem_mem hk)).2
    rw[hg,wi (n:=(k:Int)+1) (by omega)];rfl) (fun g _=>by unfold kF;simp only[];rw[if_neg (by omega)]) 0 trivial).1
   exact this
 · rcases f3 with f3 | ⟨n,hn,e⟩
   · unfold uX;omega
   · have:=(h.each n hn).2.1
     unfold uX;omega
def zPt:Point:=Point.mk (Rat.mk (BigInt.mk false ([])) ([])) (Rat.mk (BigInt.mk false ([])) ([]))
def zC (G:Nat)(r:List NQ):List Point:=(List.range (G+1)).map fun(i:Nat)=>if(decide (i=0)||r.any fun c=>decide (c.node=(i:Int)))=true then ptQ (sol (·.x) r) (sol (·.y) r) (i:Int)else zPt
theorem wP (G:Nat)(r:List NQ):(zC G r).length=G+1:=by unfold zC;simp
theorem aAX {G:Nat}{r:List NQ}{i:Nat}(hi:i<(zC G r).length):(zC G r)[i]=if(decide (i=0)||r.any fun c=>decide (c.node=(i:Int)))=true then ptQ (sol (·.x) r) (sol (·.y) r) (i:Int)else zPt:=by
 simp only[zC,List.getElem_map,List.getElem_range]
theorem aN8 {G:Nat}{r:List NQ}{u:Int}(h0:0<=u)(hG:u<=G)(h:u=0\/∃ c∈r,c.node=u):(zC G r)[u.toNat]?=some (ptQ (sol (·.x) r) (sol (·.y) r) u):=by
 obtain⟨i,rfl⟩:=Int.eq_ofNat_of_zero_le h0
 rw[Int.toNat_natCast]
 unfold zC
 rw[List.getElem?_map,List.getElem?_range (by omega)]
 simp only[Option.map_some]
 rw[if_pos]
 rw[Bool.or_eq_true,decide_eq_true_eq,List.any_eq_true]
 rcases h with h | ⟨c,hc,e⟩
 · left;omega
 · exact .inr ⟨c,hc,decide_eq_true e⟩
theorem aN6 {G:Nat}{r:List NQ}{n:NQ}(h1:1<=n.node)(hG:n.node<=G)(hn:n.node∉r.map (fun c=>c.node)):(zC G r).set n.node.toNat (ptQ (sol (·.x) (n::r)) (sol (·.y) (n::r)) n.node)=zC G (n::r):=by
 obtain⟨j,ej⟩:=Int.eq_ofNat_of_zero_le (by omega:0<=n.node)
 apply List.ext_getElem
 · rw[List.length_set,wP,wP]
 · intro i hi1 hi2
   rw[List.length_set,wP]at hi1
   rw[List.getElem_set]
   by_cases c:n.node.toNat=i
   · rw[if_pos c,aAX]
     have e:n.node=(i:Int):=by omega
     rw[if_pos (by rw[Bool.or_eq_true,List.any_eq_true];exact .inr ⟨n,by simp,decide_eq_true e⟩),e]
   · rw[if_neg c,aAX,aAX]
     have ne:¬(i:Int)=n.node:=by omega
     have e1:ptQ (sol (·.x) (n::r)) (sol (·.y) (n::r)) (i:Int)=ptQ (sol (·.x) r) (sol (·.y) r) (i:Int):=by
      unfold ptQ
      rw[sol,if_neg ne,sol,if_neg ne]
     rw[e1]
     have e2:(decide (i=0)||(n::r).any fun c=>decide (c.node=(i:Int)))=(decide (i=0)||r.any fun c=>decide (c.node=(i:Int))):=by
      rw[List.any_cons,decide_eq_false (fun e:n.node=(i:Int)=>ne e.symm),Bool.false_or]
     rw[e2]
theorem aN7 (G:Nat):(List.replicate (G+1) zPt).set 0 ⟨ofQ 0,ofQ 0⟩=zC G []:=by
 apply List.ext_getElem
 · rw[List.length_set,wP];simp
 · intro i hi1 hi2
   rw[List.getElem_set,aAX]
   simp only[List.getElem_replicate,List.any_nil,Bool.or_false]
   by_cases c:i=0
   · subst c;rfl
   · rw[if_neg (fun e=>c e.symm),if_neg (by simpa using c)]
theorem NetB.solve (h:NetB b):sM (oQ b)=some (zC (uX b).toNat b,true):=by
 have hlen:=h.len
 have nl:(oQ b).length=b.length:=by unfold oQ;rw[List.length_map]
 obtain⟨t1,t2,t3,t4⟩:=h.top
 have main:∀ (n:Nat) (b1 r:List NQ),b1.length=n->b=b1++r->lp (kE (oQ b)) ((b1.length:Int)-1,zC (uX b).toNat r)=some (.inl (zC (uX b).toNat b)):=by
  intro n
  induction n with
  | zero =>
   intro b1 r hn e
   have:b1=[]:=List.length_eq_zero_iff.1 hn
   subst this
   rw[List.nil_append]at e
   subst e
   exact aL (by unfold kE;simp only[];rw[if_neg (by simp)])
  | succ n ih =>
   intro b1 r hn e
   rcases List.eq_nil_or_concat b1 with rfl | ⟨b2,x,rfl⟩
   · simp at hn
   rw[List.concat_eq_append]at hn e ⊢
   have e2:b=b2++x::r:=by rw[e,List.append_assoc];rfl
   have hxb:x∈b:=by rw[e2];simp
   obtain⟨s1,s2,s3⟩:=h.sp e2
   obtain⟨v1,v2,_⟩:=h.each x hxb
   have bl:b.length=b2.length+(r.length+1):=by rw[e2];simp
   have el:(((b2++[x]).length:Nat):Int)-1=(b2.length:Int):=by rw[List.length_append,List.length_singleton];omega
   have lt:b2.length<(oQ b).length:=by omega
   have hg:(oQ b)[b2.length]=x.cond.toC:=by
    unfold oQ
    simp only[List.getElem_map,e2]
    simp
   have hfn:x.cond.toC.fNode=x.node:=s3
   have nb2:=aBZ (n:=x) (k:=0) (a:=b2) (b:=x::r) (by rw[<- e2];exact h.nb)
   rw[Nat.zero_add]at nb2
   obtain⟨⟨D,X,a,e3,ha,_⟩,nbr⟩:=nb2
   obtain⟨T1,b1',sx,sy⟩:=aEY r (b2.length+1) nbr
   have ep:=aOy (k:=b2.length+1) (n:=r.length) (by omega)
   have ap:=aPM e3 ha sx sy (by omega) (by omega) (by omega) v1 (zC (uX b).toNat r) (fun y hy=>by
    have hu:y.a∈psN x.cond:=by rw[e3,aBA];exact List.mem_map_of_mem hy
    have h0:=(ha.nd y hy).1.1
    refine aN8 h0 ?_ (s2 _ hu)
    rcases s2 _ hu with g | ⟨c,hc,ec⟩
    · omega
    · have:=t4 c (by rw[e2];simp[hc])
      omega)
   have eset:ptQ (sol (·.x) (x::r)) (sol (·.y) (x::r)) x.node=⟨ofQ (app (sol (·.x) r) (·.x) x.cond.ps),ofQ (app (sol (·.y) r) (·.y) x.cond.ps)⟩:=by
    unfold ptQ
    rw[sol,if_pos rfl,sol,if_pos rfl]
   have tx:=t4 x hxb
   have hset:=aN6 (G:=(uX b).toNat) (r:=r) (n:=x) v2.1 (by omega) s1
   have xin:x.node.toNat<(zC (uX b).toNat r).length:=by rw[wP];omega
   obtain⟨j,ej⟩:=Int.eq_ofNat_of_zero_le (by omega:0<=x.node)
   rw[el]
   have st:kE (oQ b) ((b2.length:Int),zC (uX b).toNat r)=some (.inl ((b2.length:Int)-1,zC (uX b).toNat (x::r))):=by
    unfold kE
    simp only[]
    rw[if_pos (by omega),aK lt,hg]
    simp only[Option.bind_some]
    rw[ap]
    simp only[Option.bind_some,if_true]
    rw[hfn,ej,aK (by rw[ej,Int.toNat_natCast]at xin;exact xin)]
    simp only[Option.bind_some,aO]
    rw[sD,wi (n:=(b2.length:Int)-1) (by omega)]
    rw[<- hset,eset,ej,Int.toNat_natCast]
   rw[aS st]
   exact ih b2 (x::r) (by simpa using hn) e2
 have m0:=main b.length b [] rfl (by simp)
 have w1:IntKind.i64.wrap (uX b+1)=((uX b).toNat+1:Nat):=by rw[wi (by omega)];omega
 unfold sM
 rw[h.isNet]
 simp only[Option.bind_some,if_true]
 rw[t1]
 simp only[Option.bind_some,aO]
 rw[w1,Int.toNat_natCast,aP (by omega)]
 simp only[Option.bind_some]
 rw[aLr]
 simp only[Option.bind_some]
 have i0:∀ (n:Nat) (z:Point),idx (List.replicate (n+1) z) 0=some z:=fun n z=>by unfold idx;simp
 have s0:∀ (l:List Point) (z:Point),xP l 0 z=l.set 0 z:=fun l z=>rfl
 rw[i0]
 simp only[Option.bind_some]
 rw[s0]
 have en:=aN7 (uX b).toNat
 unfold zPt at en
 rw[en,nl,wi (n:=(b.length:Int)-1) (by omega),m0]
 rfl
end
theorem aRq {t:Tree}(hz:fO t<=4294967296)(hc:∀ n∈t.fNodes,aT n.fCond<=4294967296)(hl:t.fNodes.length<=1000):uK t=some (t.fNodes.map (·.fCond)):=by
 have:=(gY (step:=oY t) t.fNodes (fun k u=>((k:Int),u)) (fun u n=>u++[n.fCond]) (fun u=>u) (fun k u=>u.length<=k) (fun k u hk hi=>by
  constructor
  · unfold oY
    simp only[]
    rw[if_pos (by omega),aK hk]
    simp only[Option.bind_some]
    rw[uH _ (hc _ (List.getElem_mem hk))]
    simp only[Option.bind_some,aO]
    rw[aP (by omega),wi (n:=(k:Int)+1) (by omega)];rfl
  · rw[List.length_append,List.length_singleton];omega) (fun u _=>by unfold oY;simp only[];rw[if_neg (by omega)]) [] (Nat.zero_le _)).1
 have e:∀ (a:List TreeNode) (u:List Conditional),a.foldl (fun u n=>u++[n.fCond]) u=u++a.map (·.fCond):=by
  intro a
  induction a with
  | nil=>simp
  | cons x a ih=>intro u;rw[List.foldl_cons,ih];simp
 rw[show((0:Nat):Int)=0 from rfl,e,List.nil_append]at this
 unfold uK
 rw[this];rfl
theorem aLt {l:List QL}{o:List Int}(h:Tie l o):nB (cA l o)=some (zC (uX (aH l o o [])).toNat (aH l o o []),true):=by
 have hz:=h.tsz
 obtain⟨h9,hn⟩:=aFf h.isTree
 unfold nB
 rw[aRq (by omega) (fun n hn'=>by have:=(hn n hn').2.2;omega) (by omega)]
 simp only[Option.bind_some]
 have e:(cA l o).fNodes.map (·.fCond)=oQ (aH l o o []):=by
  unfold cA oQ
  simp only[List.map_map]
  rfl
 rw[e,h.netB.solve]
 rfl
end Go.Ev
/- The energy of a tree: the program. -/
namespace Go.Ev
set_option linter.all false
set_option maxHeartbeats 1000000
theorem aMh {l l':List QL}{o o':List Int}(h:Tie l o)(h':Tie l' o')(ho:o'.Perm o):uX (aH l o o [])=uX (aH l' o' o' []):=by
 have one:∀ {l l':List QL} {o o':List Int},Tie l o->Tie l' o'->(∀ u∈o,u∈o')->uX (aH l o o [])<=uX (aH l' o' o' []):=by
  intro l l' o o' h h' hs
  obtain⟨f1,f2,f3⟩:=aDz (aH l o o []) 0
  obtain⟨g1,g2,g3⟩:=aDz (aH l' o' o' []) 0
  unfold uX
  rcases f3 with f3 | ⟨n,hn,e⟩
  · omega
  · obtain⟨c,hc,e2⟩:=aBp (l:=l') (hs _ ((h.dn).2 n hn).1)
    have:=g2 c hc
    omega
 have a:=one h h' fun u hu=>ho.mem_iff.2 hu
 have b:=one h' h fun u hu=>ho.mem_iff.1 hu
 omega
theorem aPm {l l':List QL}{o o':List Int}(h:Tie l o)(h':Tie l' o')(hl:l'.Perm l)(ho:o'.Perm o):zC (uX (aH l o o [])).toNat (aH l o o [])=zC (uX (aH l' o' o' [])).toNat (aH l' o' o' []):=by
 obtain⟨hs,_⟩:=aJc h h' hl ho
 rw[<- aMh h h' ho]
 apply List.ext_getElem
 · rw[wP,wP]
 · intro i hi1 hi2
   rw[aAX,aAX]
   have e1:ptQ (sol (·.x) (aH l o o [])) (sol (·.y) (aH l o o [])) (i:Int)=ptQ (sol (·.x) (aH l' o' o' [])) (sol (·.y) (aH l' o' o' [])) (i:Int):=by
    unfold ptQ
    rw[(hs i).1,(hs i).2]
   have anyI:∀ {l:List QL} {o:List Int},Tie l o->((aH l o o []).any fun c=>decide (c.node=(i:Int)))=decide ((i:Int)∈o):=fun {l o} h=>by
    rw[Bool.eq_iff_iff,List.any_eq_true,decide_eq_true_eq]
    constructor
    · rintro⟨c,hc,e⟩
      rw[<- of_decide_eq_true e];exact((h.dn).2 c hc).1
    · intro hi
      obtain⟨c,hc,e⟩:=aBp (l:=l) hi
      exact⟨c,hc,decide_eq_true e⟩
   rw[e1,anyI h,anyI h',decide_eq_decide.2 (ho.mem_iff (a:=(i:Int))).symm]
theorem aRp:∀ {k m:Nat},k+m<=5->epr 0 k*epr 0 k*ex' k ^ (tri (m+1)+1)<=PP ^ 6:=by
 have:∀ k,k<=5->∀ m,m<=5-k->epr 0 k*epr 0 k*ex' k ^ (tri (m+1)+1)<=PP ^ 6:=by unfold PP ex' ex;decide
 intro k m h
 exact this k (by omega) m (by omega)
theorem aRx {x:QL}{p q:Int->Q}{T:Nat}(hx:LkI x)(hp:∀ u,Dv T (p u))(hq:∀ u,Dv T (q u)):Dv (T*T) (eP p q x):=by
 obtain⟨_,w,a,b,_,_,_,e1,e2,e3⟩:=hx
 have up:∀ z:Int,Dv T (z:Q):=fun z=>by have:=rR T (aEa z);rwa [Nat.one_mul]at this
 have d1:Dv T (p x.b-p x.a-x.x):=uQ (uQ (hp _) (hp _)) (by rw[e2];exact up _)
 have d2:Dv T (q x.b-q x.a-x.y):=uQ (uQ (hq _) (hq _)) (by rw[e3];exact up _)
 have:=vT (aEa w) (nH (vT d1 d1) (vT d2 d2))
 rw[Nat.one_mul]at this
 unfold eP sqQ
 rw[e1];exact this
theorem aQb (x:QL):eP (fun _=>0) (fun _=>0) x=enQ x:=by
 unfold eP enQ sqQ
 grind
section
variable {l:List QL}{o pre rem:List Int}
theorem aPA (h:Tie l o)(e:o=pre++rem):Dv (dQ (fun c:NQ=>c.den*pn c.den c.msgs) ((aH l o pre []).filter (iS rem))) (sm enQ (dU ((aH l o pre []).filter (iS rem))))/\
 0<dQ (fun c:NQ=>c.den*pn c.den c.msgs) ((aH l o pre []).filter (iS rem))/\dQ (fun c:NQ=>c.den*pn c.den c.msgs) ((aH l o pre []).filter (iS rem))<=ex' pre.length ^ (tri (rem.length+1)+1)/\
 0<=sm enQ (dU ((aH l o pre []).filter (iS rem)))/\sm enQ (dU ((aH l o pre []).filter (iS rem)))<=((10 ^ 9:Nat):Q)/\
 (∀ x∈dU ((aH l o pre []).filter (iS rem)),(x.a=0\/x.a∈rem)/\(x.b=0\/x.b∈rem)):=by
 have ti:=TInv.at h.base h.gr pre.length pre rem rfl e
 have hbl:(aH l o pre []).length=pre.length:=by rw[xT];simp
 have ol:=h.base.len
 have lens:pre.length+rem.length<=5:=by rw[e]at ol;simpa using ol
 have nd:=h.nd
 have five:=h.five
 have nV:(0::rem).Nodup:=by
  rw[List.nodup_cons]
  refine⟨fun h0=>?_,?_⟩
  · have:=(five 0 (by rw[e];simp[h0])).1;omega
  · rw[e]at nd;exact(List.nodup_append.1 nd).2.1
 have lv:∀ c∈(aH l o pre []).filter (iS rem),c∈aH l o pre []/\c.up∈rem:=fun c hc=>by
  rw[List.mem_filter]at hc
  exact⟨hc.1,of_decide_eq_true hc.2⟩
 have mem:∀ x∈dU ((aH l o pre []).filter (iS rem)),∃ c∈(aH l o pre []).filter (iS rem),x∈c.msgs:=fun x hx=>List.mem_flatMap.1 hx
 have wnn:∀ x∈dU ((aH l o pre []).filter (iS rem)),0<x.w:=fun x hx=>by
  obtain⟨c,hc,hm⟩:=mem x hx
  exact((ti.msg c (lv c hc).1 (lv c hc).2).1 x hm).sc.1
 have w72:sm wt (dU ((aH l o pre []).filter (iS rem)))<=72:=by
  have:=ti.wtt
  have n2:0<=sm wt (l.filter fun x=>decide (aQ o [x.a,x.b]∈rem)):=iZ fun y hy=>(h.base.lk y (List.mem_filter.1 hy).1).1
  grind
 have w1:∀ x∈dU ((aH l o pre []).filter (iS rem)),x.w<=72:=fun x hx=>by
  have:=aIf (f:=wt) (fun y hy=>by have:=wnn y hy;unfold wt;grind) x hx
  unfold wt at *;grind
 have each:∀ c∈(aH l o pre []).filter (iS rem),0<c.den*pn c.den c.msgs/\c.den*pn c.den c.msgs<=(72*c.den) ^ (tri (rem.length+1)+1):=fun c hc=>by
  obtain⟨m1,m2⟩:=ti.msg c (lv c hc).1 (lv c hc).2
  obtain⟨p1,p2,p3,p4⟩:=ti.ps c (lv c hc).1 (lv c hc).2
  have hd:=ti.den c (lv c hc).1 (lv c hc).2
  have l1:=aC7 nV m2 (fun x hx=>⟨p1 _ (p3 x hx).1,p1 _ (p3 x hx).2.1,(p3 x hx).2.2⟩)
  have eV:(0::rem).length=rem.length+1:=rfl
  rw[eV]at l1
  have l2:=aCP (K:=rem.length+1) (by omega)
  have l3:=aFI (W:=72) hd (fun x hx=>(m1 x hx).sc) (fun x hx=>w1 x (List.mem_flatMap.2 ⟨c,hc,hx⟩))
  refine⟨Nat.mul_pos hd (aCS hd fun x hx=>(m1 x hx).sc),?_⟩
  rw[Nat.pow_succ,Nat.mul_comm ((72*c.den) ^ _)]
  exact Nat.mul_le_mul (by omega) (Nat.le_trans l3 (Nat.pow_le_pow_right (by omega) (by omega)))
 refine⟨?_,xV fun c hc=>(each c hc).1,?_,?_,?_,?_⟩
 · refine aGY fun x hx=>?_
   obtain⟨c,hc,hm⟩:=mem x hx
   obtain⟨m1,m2⟩:=ti.msg c (lv c hc).1 (lv c hc).2
   have hd:=ti.den c (lv c hc).1 (lv c hc).2
   exact xI (aKi hd (m1 x hm).sc) (Nat.dvd_trans (Nat.mul_dvd_mul_left _ (aFH _ x hm)) (aB9 (f:=fun c:NQ=>c.den*pn c.den c.msgs) hc))
 · refine Nat.le_trans (aFG (g:=fun c:NQ=>(72*c.den) ^ (tri (rem.length+1)+1)) fun c hc=>(each c hc).2) ?_
   rw[aDT]
   have:=ti.prod
   rw[hbl]at this
   exact Nat.pow_le_pow_left this _
 · exact pJ fun x hx=>aCk (wnn x hx)
 · have le:sm enQ (dU ((aH l o pre []).filter (iS rem)))<=sm (fun x=>((2*(320*320):Nat):Q)*wt x) (dU ((aH l o pre []).filter (iS rem))):=aNn fun x hx=>by
    obtain⟨c,hc,hm⟩:=mem x hx
    have m1:=(ti.msg c (lv c hc).1 (lv c hc).2).1 x hm
    have hX:20*2 ^ (aH l o pre []).length<=640:=by
     rw[hbl]
     calc 20*2 ^ pre.length<=20*2 ^ 5:=Nat.mul_le_mul_left _ (Nat.pow_le_pow_right (by omega) (by omega))
      _=640:=rfl
    have rl:1<=rem.length:=by
     have:=(lv c hc).2
     exact List.length_pos_of_mem this
    have hX:20*2 ^ (aH l o pre []).length<=320:=by
     rw[hbl]
     calc 20*2 ^ pre.length<=20*2 ^ 4:=Nat.mul_le_mul_left _ (Nat.pow_le_pow_right (by omega) (by omega))
      _=320:=rfl
    exact aQa (aKl m1 (Nat.dvd_refl _) hX)
   rw[aKw]at le
   have k1:((2*(320*320):Nat):Q)*sm wt (dU ((aH l o pre []).filter (iS rem)))<=((2*(320*320):Nat):Q)*72:=_root_.Rat.mul_le_mul_of_nonneg_left w72 (aAU _)
   have k2:((2*(320*320):Nat):Q)*72=((2*(320*320)*72:Nat):Q):=(_root_.Rat.natCast_mul _ _).symm
   have k3:((2*(320*320)*72:Nat):Q)<=((10 ^ 9:Nat):Q):=aDW (by decide)
   grind
 · intro x hx
   obtain⟨c,hc,hm⟩:=mem x hx
   obtain⟨p1,p2,p3,p4⟩:=ti.ps c (lv c hc).1 (lv c hc).2
   exact⟨List.mem_cons.1 (p1 _ (p3 x hm).1),List.mem_cons.1 (p1 _ (p3 x hm).2.1)⟩
theorem aFl (h:Tie l o)(e:o=pre++rem):cC (sn (fun n=>n.enQ) (aH l o pre [])):=by
 obtain⟨L1,L2,L3,L4,L5,L6⟩:=aPA h e
 have ol:=h.base.len
 have lens:pre.length+rem.length<=5:=by rw[e]at ol;simpa using ol
 have hbl:(aH l o pre []).length=pre.length:=by rw[xT];simp
 obtain⟨d,f⟩:=aIa h pre.length pre rem rfl e
 obtain⟨T,t1,t2,t3⟩:=aEY (aH l o pre []) 0 (aBq h.base h.gr pre.length pre rem rfl e)
 rw[hbl]at t1
 have E:=aEW (sol (·.x) (aH l o pre [])) (sol (·.y) (aH l o pre [])) h.base h.gr pre.length pre rem rfl e
 have E0:=aEW (fun _=>0) (fun _=>0) h.base h.gr pre.length pre rem rfl e
 rw[aKu]at E E0
 rw[aIe (f:=fun n=>cdE (sol (·.x) (aH l o pre [])) (sol (·.y) (aH l o pre [])) n.cond) fun n hn=>by
  have e1:=aFn (·.x) d n hn
  have e2:=aFn (·.y) d n hn
  unfold cdE
  rw[(d.2 n hn).2,e1,e2]
  unfold sqQ
  grind]at E
 have nd:=h.nd
 rw[e]at nd
 have out:∀ (g:PQ->Q) (u:Int),(u=0\/u∈rem)->sol g (aH l o pre []) u=0:=fun g u hu=>zF g _ u fun n hn en=>by
  have hp:=(f n hn).1
  rcases hu with rfl | hu
  · have:=(h.five n.node (by rw[e];simp[hp])).1;omega
  · exact(List.nodup_append.1 nd).2.2 _ hp _ hu en
 have congrL:∀ (b:List QL) (p q:Int->Q),(∀ x∈b,eP p q x=enQ x)->sm (eP p q) b=sm enQ b:=by
  intro b p q hb
  induction b with
  | nil=>rfl
  | cons x b ih=>rw[sm,sm,hb x (by simp),ih fun y hy=>hb y (by simp[hy])]
 have eL:sm (eP (sol (·.x) (aH l o pre [])) (sol (·.y) (aH l o pre []))) (dU ((aH l o pre []).filter (iS rem)))=sm enQ (dU ((aH l o pre []).filter (iS rem))):=congrL _ _ _ fun x hx=>by
  obtain⟨a1,a2⟩:=L6 x hx
  unfold eP enQ sqQ
  rw[out _ _ a1,out _ _ a1,out _ _ a2,out _ _ a2]
  grind
 have e0L:=congrL (dU ((aH l o pre []).filter (iS rem))) (fun _=>0) (fun _=>0) fun x _=>aQb x
 have e0F:=congrL (l.filter fun x=>decide (aQ o [x.a,x.b]∈pre)) (fun _=>0) (fun _=>0) fun x _=>aQb x
 rw[eL]at E
 rw[e0L,e0F]at E0
 have lkF:∀ x∈l.filter (fun x=>decide (aQ o [x.a,x.b]∈pre)),Lk 1 20 x:=fun x hx=>(h.base.lk x (List.mem_filter.1 hx).1).1
 have wF:sm wt (l.filter fun x=>decide (aQ o [x.a,x.b]∈pre))<=72:=by
  have s:=aBt wt (fun x=>decide (aQ o [x.a,x.b]∈pre)) l
  have n2:0<=sm wt (l.filter fun x=>!decide (aQ o [x.a,x.b]∈pre)):=iZ fun y hy=>(h.base.lk y (List.mem_filter.1 hy).1).1
  have:=h.base.hw
  grind
 obtain⟨s1,s2⟩:=uN lkF (by omega) wF
 have cd0:=aB6 (f:=fun n=>cdE (fun _=>0) (fun _=>0) n.cond) (l:=aH l o pre []) fun n hn=>aK9 _ _ (f n hn).2.1
 have nnF:0<=sm (eP (sol (·.x) (aH l o pre [])) (sol (·.y) (aH l o pre []))) (l.filter fun x=>decide (aQ o [x.a,x.b]∈pre)):=pJ fun x hx=>aRw _ _ (lkF x hx).sc.1
 have dF:Dv (T*T) (sm (eP (sol (·.x) (aH l o pre [])) (sol (·.y) (aH l o pre []))) (l.filter fun x=>decide (aQ o [x.a,x.b]∈pre))):=aGY fun x hx=>aRx (h.lk x (List.mem_filter.1 hx).1) (fun u=>(t2.2 u).1) (fun u=>(t3.2 u).1)
 have eP':sn (fun n=>n.enQ) (aH l o pre [])=sm (eP (sol (·.x) (aH l o pre [])) (sol (·.y) (aH l o pre []))) (l.filter fun x=>decide (aQ o [x.a,x.b]∈pre))-sm enQ (dU ((aH l o pre []).filter (iS rem))):=by grind
 have k8:((10 ^ 8:Nat):Q)<=((10 ^ 10:Nat):Q):=aDW (by decide)
 have k9:((10 ^ 9:Nat):Q)<=((10 ^ 10:Nat):Q):=aDW (by decide)
 have dd:Dv (T*T*dQ (fun c:NQ=>c.den*pn c.den c.msgs) ((aH l o pre []).filter (iS rem))) (sn (fun n=>n.enQ) (aH l o pre [])):=by
  rw[eP']
  exact uQ (rR _ dF) (by rw[Nat.mul_comm];exact rR _ L1)
 refine gT (B:=10 ^ 10) (Nat.mul_pos (Nat.mul_pos t2.1 t2.1) L2) dd ⟨?_,?_⟩ (by decide) (by decide) ?_
 · rw[eP'];grind
 · grind
 · exact Nat.le_trans (Nat.mul_le_mul (Nat.mul_le_mul t1 t1) L3) (aRp lens)
end
theorem aNR {l:List QL}{o p:List Int}{v:Int}{r:List Int}(h:Tie l o)(e:o=p++v::r):cC (nxt l o v (aH l o p [])).enQ:=((TInv.at h.base h.gr p.length p (v::r) rfl e).next h.base).2.2
theorem aJV {l:List QL}{o:List Int}(h:Tie l o):lH (cA l o)=some (ofQ (sn (fun n=>n.enQ) (aH l o o []))):=by
 have nl:=aDV l o
 have ol:=h.base.len
 have main:∀ (rem pre:List Int),o=pre++rem->lp (iA (cA l o)) ((pre.length:Int),ofQ (sn (fun n=>n.enQ) (aH l o pre [])))=some (ofQ (sn (fun n=>n.enQ) (aH l o o []))):=by
  intro rem
  induction rem with
  | nil =>
   intro pre e
   rw[List.append_nil]at e
   have e':aH l o pre []=aH l o o []:=congrArg (fun z=>aH l o z []) e.symm
   rw[e']
   have:pre.length=o.length:=by rw[e]
   exact aL (by unfold iA;simp only[];rw[if_neg (by omega)])
  | cons v r ih =>
   intro pre e
   have hg:=aNT (l:=l) e
   obtain⟨hk,hgk⟩:=List.getElem?_eq_some_iff.1 hg
   have e2:o=(pre++[v])++r:=by rw[e,List.append_assoc];rfl
   have f1:=aFl h e
   have f2:=aNR h e
   have f3:=aFl h e2
   have es:sn (fun n=>n.enQ) (aH l o (pre++[v]) [])=sn (fun n=>n.enQ) (aH l o pre [])+(nxt l o v (aH l o pre [])).enQ:=by
    rw[nQ,aKt];simp only[sn];grind
   rw[es]at f3
   have pl:pre.length<=5:=by omega
   have st:iA (cA l o) ((pre.length:Int),ofQ (sn (fun n=>n.enQ) (aH l o pre [])))=some (.inl (((pre++[v]).length:Int),ofQ (sn (fun n=>n.enQ) (aH l o (pre++[v]) [])))):=by
    unfold iA
    simp only[]
    rw[if_pos (by omega),aK hk,hgk]
    simp only[Option.bind_some]
    have ee:(nxt l o v (aH l o pre [])).toN.fEnergy=ofQ (nxt l o v (aH l o pre [])).enQ:=rfl
    rw[ee,aGO f1 f2 f3]
    simp only[Option.bind_some]
    rw[wi (n:=(pre.length:Int)+1) (by omega),es]
    simp
   rw[aS st]
   exact ih (pre++[v]) e2
 have m0:=main o [] rfl
 unfold lH
 rw[gO 0 (by omega),aCO]
 simp only[Option.bind_some]
 have:sn (fun n=>n.enQ) (aH l o [] [])=0:=rfl
 rw[this]at m0
 simp only[List.length_nil]at m0
 rw[show((0:Nat):Int)=0 from rfl]at m0
 rw[m0]
 rfl
end Go.Ev
/- What an inserted link changes lies in the list: done. -/
namespace Go.Ev
set_option linter.all false
end Go.Ev
/- Inserting a link: the program alone. -/
namespace Go.Ev
set_option linter.all false
theorem aRt (t:Tree)(l:Link)(c:iJ t)(d:ValidL l)(h:fO t<=2097152)(hl:bL l<=1048576) :
 pC t l=some (pkI ((lA (bP t.fNodes++[l]) (dI t++oP (dI t) l)).map fun u=>(u,aAD t [l.fA,l.fB]++oP (dI t) l))):=by
 have e2:=aGX t (by omega)
 obtain⟨v1,v2⟩:=gH l (by omega)
 have h0:=h
 unfold fO iE at h0
 have hn:=eT bK t.fNodes
 have ho:=aAo t.fNodes
 unfold pC
 rw[e2,v2]
 simp only[Option.bind_some]
 obtain⟨a2,a3⟩:=aOU c [l.fA,l.fB] (by simp)
 have o2:=aE3 t (by omega)
 have l2:=aIG t (by omega)
 have hol:(dI t).length<=4194304:=by unfold dI;rw[List.length_map];omega
 have hsz:aG (bP t.fNodes++[l])<=4194304:=by
  rw[aC4]
  have:aG [l]<=1048577:=by unfold aG;rw[lJ,aEX];omega
  omega
 have hne:=aN0 (dI t) l
 have hsl:=eT bL (bP t.fNodes)
 have hs0:szL bL (bP t.fNodes)=aG (bP t.fNodes):=rfl
 have hol9:(dI t).length<=2097152:=by unfold dI;rw[List.length_map];omega
 obtain⟨b1,b2⟩:=aE8 (bP t.fNodes++[l]) (dI t++oP (dI t) l) hsz (by rw[List.length_append];omega)
 have nI:=aMt t (by omega) l d (dI t) (aAD t [l.fA,l.fB]) hol (by omega)
 rw[decide_eq_true c,decide_eq_true d]
 simp only[if_true,Option.bind_some,Bool.not_true,Bool.false_eq_true,if_false,o2,a2,nI,l2]
 rw[aP (by omega)]
 simp only[Option.bind_some,aO,b2]
 cases lA (bP t.fNodes++[l]) (dI t++oP (dI t) l)with
 | none=>rfl
 | some u=>rfl
end Go.Ev
/- The law of inserting. -/
namespace Go.Ev
set_option linter.all false
end Go.Ev
/- A link taken away: which nodes stay as they are. -/
namespace Go.Ev
set_option linter.all false
set_option maxHeartbeats 2000000
theorem aHn {l:List QL}{o:List Int}:∀ (n:Nat) (p:List Int),p.length=n->∀ c∈aH l o p [],∃ p' v' r',p=p'++v'::r'/\c=nxt l o v' (aH l o p' [])
 | 0,p,hn,c,hc=>by
  have:p=[]:=List.length_eq_zero_iff.1 hn
  subst this
  cases hc
 | n+1,p,hn,c,hc=>by
  rcases List.eq_nil_or_concat p with rfl | ⟨q,v,rfl⟩
  · simp at hn
  rw[List.concat_eq_append]at hn hc ⊢
  rw[nQ]at hc
  rcases List.mem_append.1 hc with hc | hc
  · obtain⟨p',v',r',e1,e2⟩:=aHn n q (by simpa using hn) c hc
    exact⟨p',v',r'++[v],by rw[e1];simp,e2⟩
  · exact⟨q,v,[],rfl,List.mem_singleton.1 hc⟩
section
variable {l l2:List QL}{o e:List Int}{k:QL}{L:Int->Prop}
theorem aE2 (h:Tie l o)(he:∀ u∈e,0<u/\u∉o){x:QL}(hx:x∈l)(v:Int):kB (o++e) v x=kB o v x:=by
 have hb:=h.base
 have h1:∀ u∈o,1<=u:=fun u hu=>(hb.h1 u hu).1
 obtain⟨_,⟨i1,i2,_⟩,_⟩:=hb.lk x hx
 unfold kB
 rw[aHT h1 he fun u hu=>by
  simp only[List.mem_cons,List.not_mem_nil,or_false]at hu
  rcases hu with rfl | rfl
  · exact List.mem_cons.1 i1
  · exact List.mem_cons.1 i2]
theorem aMK (h:Tie l o)(h2:Tie l2 (o++e))(he:∀ u∈e,0<u/\u∉o)(hs:∀ x∈l,x∈l2):∀ (n:Nat) (p:List Int) (v:Int) (r:List Int),p.length<=n->o=p++v::r->
 ∀ u∈psN (nxt l o v (aH l o p [])).cond,u∈psN (nxt l2 (o++e) v (aH l2 (o++e) p [])).cond:=by
 intro n
 induction n with
 | zero =>
  intro p v r hn eo u hu
  have p0:p=[]:=List.length_eq_zero_iff.1 (by omega)
  subst p0
  obtain⟨y,hy,ht,eu⟩:=aFN.1 hu
  obtain⟨z,hz,z1,z2⟩:=nY _ [] 0 y hy
  have hz:=hz.resolve_left (by simp)
  have ti:=TInv.at h.base h.gr 0 [] (v::r) rfl eo
  have yy:y.a<y.b:=(((ti.inc h.base).join).2.1.lk y hy).2.2.2
  have an:=yV ht yy
  rcases List.mem_append.1 hz with hz | hz
  · rw[List.mem_filter]at hz
    exact aAP (z:=z) (List.mem_append_left _ (List.mem_filter.2 ⟨hs z hz.1,by rw[aE2 h he hz.1];exact hz.2⟩)) (by omega) (by rw[z1,z2,eu];omega)
  · obtain⟨c,hc,_⟩:=qK.1 hz
    cases hc
 | succ n ih =>
  intro p v r hn eo u hu
  have ti:=TInv.at h.base h.gr p.length p (v::r) rfl eo
  obtain⟨y,hy,ht,eu⟩:=aFN.1 hu
  obtain⟨z,hz,z1,z2⟩:=nY _ [] 0 y hy
  have hz:=hz.resolve_left (by simp)
  have yy:y.a<y.b:=(((ti.inc h.base).join).2.1.lk y hy).2.2.2
  have an:=yV ht yy
  have huv:=ti.nxt_rem h.base u hu
  rcases List.mem_append.1 hz with hz | hz
  · rw[List.mem_filter]at hz
    exact aAP (z:=z) (List.mem_append_left _ (List.mem_filter.2 ⟨hs z hz.1,by rw[aE2 h he hz.1];exact hz.2⟩)) (by omega) (by rw[z1,z2,eu];omega)
  · obtain⟨c,hc,hcu,hz⟩:=qK.1 hz
    obtain⟨_,_,p3,_⟩:=ti.ps c hc (by rw[hcu];simp)
    obtain⟨m1,m2,_⟩:=p3 z hz
    obtain⟨p',v',r',e1,e2⟩:=aHn p.length p rfl c hc
    have eo':o=p'++v'::(r'++v::r):=by rw[eo,e1];simp
    have key:=ih p' v' (r'++v::r) (by rw[e1]at hn;simp at hn;omega) eo'
    rw[e2]at m1 m2
    have k1:=key _ m1
    have k2:=key _ m2
    have vv:v∈psN (nxt l2 (o++e) v' (aH l2 (o++e) p' [])).cond/\u∈psN (nxt l2 (o++e) v' (aH l2 (o++e) p' [])).cond:=by
     rcases an with⟨a1,a2⟩ | ⟨a1,_,a2⟩
     · rw[z1,a1]at k1
       rw[z2,<- a2,<- eu]at k2
       exact⟨k1,k2⟩
     · rw[z2,a1]at k2
       rw[z1,<- a2,<- eu]at k1
       exact⟨k2,k1⟩
    have eo2:o++e=p'++v'::(r'++v::(r++e)):=(congrArg (fun z=>z++e) eo').trans (by simp)
    have eo3:o++e=p++v::(r++e):=(congrArg (fun z=>z++e) eo).trans (by simp)
    refine anc h2 _ p' v' _ (Nat.le_refl _) eo2 v u vv.1 vv.2 huv.2 p (r++e) eo3 ?_
    rcases List.mem_cons.1 huv.1 with g | g
    · rw[g];simp
    · simp[g]
theorem aLz (h:Tie l o)(h2:Tie l2 (o++e))(he:∀ u∈e,0<u/\u∉o)(sub:∀ z∈l2,z∈l\/z=k)(own2:∀ v∈o,¬L v->l2.filter (kB (o++e) v)=l.filter (kB o v))(La:k.a=0\/L k.a)(Lb:L k.b)
 (L1:∀ p v r,o=p++v::r->L v->∀ u∈psN (nxt l o v (aH l o p [])).cond,u=0\/L u) :
 ∀ (n:Nat) (p r:List Int),p.length=n->o=p++r->aKA (Rel o (o++e) L) (aH l o p []) (aH l2 (o++e) p [])
 | 0,p,r,hn,eo=>by
  have:p=[]:=List.length_eq_zero_iff.1 hn
  subst this
  exact trivial
 | n+1,p,r,hn,eo=>by
  rcases List.eq_nil_or_concat p with rfl | ⟨q,v,rfl⟩
  · simp at hn
  rw[List.concat_eq_append]at hn eo ⊢
  have eo1:o=q++v::r:=by rw[eo,List.append_assoc];rfl
  have ih:=aLz h h2 he sub own2 La Lb L1 n q (v::r) (by simpa using hn) eo1
  rw[nQ,nQ]
  refine aHv ?_ ih
  have hb:=h.base
  have hb':=h2.base
  have ti:=TInv.at hb h.gr q.length q (v::r) rfl eo1
  have eo':o++e=q++v::(r++e):=(congrArg (fun z=>z++e) eo1).trans (by simp only[List.append_assoc,List.cons_append])
  have ti':=TInv.at hb' h2.gr q.length q (v::(r++e)) rfl eo'
  have h1:∀ u∈o,1<=u:=fun u hu=>(hb.h1 u hu).1
  have vo:v∈o:=by rw[eo1];simp
  have v1:=h1 v vo
  have ps0:∀ u∈psN (nxt l o v (aH l o q [])).cond,u=0\/u∈o:=fun u hu=>by
   have:=(ti.nxt_rem hb u hu).1
   rcases List.mem_cons.1 this with h2 | h2
   · exact .inl h2
   · exact .inr (by rw[eo1];simp[h2])
  refine⟨rfl,fun hL=>?_,fun hL=>⟨?_,L1 q v r eo1 hL⟩,rfl,rfl⟩
  · refine(aMq (own2 v vo hL) ?_ (fun s hs=>aHT h1 he hs) ps0).symm
    refine(aGt (R:=Rel o (o++e) L) (fun c c' hr=>?_) ih).symm
    obtain⟨r1,r2,r3,r4,r5⟩:=hr
    by_cases c1:L c.node
    · right
      obtain⟨s1,s2⟩:=r3 c1
      constructor
      · refine decide_eq_false fun e2=>?_
        have:=(vK (o:=o) (s:=psN c.cond) (v:=v) (by rw[<- r4];exact e2) (by omega)).1
        rcases s2 v this with h2 | h2
        · omega
        · exact hL h2
      · refine decide_eq_false fun e2=>?_
        have:=(vK (o:=o++e) (s:=psN c'.cond) (v:=v) (by rw[<- r5];exact e2) (by omega)).1
        rcases s1 v this with h2 | h2
        · omega
        · exact hL h2
    · exact .inl (r2 c1)
  · intro u hu
    obtain⟨y,hy,ht,eu⟩:=aFN.1 hu
    obtain⟨z,hz,z1,z2⟩:=nY _ [] 0 y hy
    have hz:=hz.resolve_left (by simp)
    have yy:y.a<y.b:=by
     have:=(((ti'.inc hb').join).2.1.lk y hy).2.2.2
     exact this
    have an:=yV ht yy
    have old:z∈l.filter (kB o v)++mP v (aH l o q [])->u=0\/L u:=fun hm =>
     L1 q v r eo1 hL u (aAP hm (by omega) (by rw[z1,z2,eu];omega))
    rcases List.mem_append.1 hz with hz | hz
    · rw[List.mem_filter]at hz
      rcases sub z hz.1 with hz1 | hz1
      · exact old (List.mem_append_left _ (List.mem_filter.2 ⟨hz1,by rw[<- aE2 h he hz1];exact hz.2⟩))
      · subst hz1
        rcases an with⟨_,a2⟩ | ⟨_,_,a2⟩
        · right;rw[eu,a2,<- z2];exact Lb
        · rw[eu,a2,<- z1];exact La
    · obtain⟨c',hc',hu',hz⟩:=qK.1 hz
      obtain⟨c,hc,r1,r2,r3,r4,r5⟩:=aJf ih c' hc'
      by_cases c1:L c.node
      · obtain⟨s1,_⟩:=r3 c1
        obtain⟨_,_,p3,_⟩:=ti'.ps c' hc' (by rw[hu'];simp)
        obtain⟨m1,m2,_⟩:=p3 z hz
        rw[z1]at m1
        rw[z2]at m2
        rcases an with⟨_,a2⟩ | ⟨_,_,a2⟩
        · rw[eu,a2];exact s1 _ m2
        · rw[eu,a2];exact s1 _ m1
      · have:=r2 c1
        subst this
        exact old (List.mem_append_right _ (qK.2 ⟨c,hc,hu',hz⟩))
end
end Go.Ev
/- Deleting a link: what the program yields; what changes. -/
namespace Go.Ev
set_option linter.all false
set_option maxHeartbeats 1000000
theorem aMZ {A B:List Link}{l:Link}(h:l∉A):atL (A++l::B) l=A.length:=by
 induction A with
 | nil=>rw[List.nil_append,aGH,if_pos rfl];rfl
 | cons x A ih =>
  rw[List.cons_append,aGH,if_neg (fun e=>h (by simp[e])),ih (fun hm=>h (by simp[hm]))];rfl
theorem aRy (t:Tree)(l:Link)(c:iJ t)(h:fO t<=2097152){A B:List Link}(e:bP t.fNodes=A++l::B)(hA:l∉A) :
 pD t l=some (pkI ((lA (A++B) ((dI t).filter (fun x=>decide (x∈dS (A++B))))).map fun u=>(u,aAD t [l.fA,l.fB]))):=by
 have e2:=aGX t (by omega)
 have h0:=h
 unfold fO iE at h0
 have hn:=eT bK t.fNodes
 have ho:=aAo t.fNodes
 obtain⟨a2,a3⟩:=aOU c [l.fA,l.fB] (by simp)
 have l2:=aIG t (by omega)
 have hol:(dI t).length<=2097152:=by unfold dI;rw[List.length_map];omega
 have hsl:=eT bL (bP t.fNodes)
 have hs0:szL bL (bP t.fNodes)=aG (bP t.fNodes):=rfl
 have d2:=aMV (bP t.fNodes) l (by omega)
 have hk:atL (bP t.fNodes) l=A.length:=by rw[e];exact aMZ hA
 have ht1:=aG0 (bP t.fNodes) A.length
 have et:(bP t.fNodes).take A.length=A:=by rw[e];simp
 have ed:(bP t.fNodes).drop (A.length+1)=B:=by rw[e,List.drop_append];simp
 have el:(bP t.fNodes).length=A.length+(B.length+1):=by rw[e];simp
 rw[et,ed]at ht1
 unfold pD
 rw[e2,decide_eq_true c]
 simp only[if_true,Option.bind_some,l2,d2,hk]
 have x1:sub (bP t.fNodes) 0 (A.length:Int)=some A:=by rw[pQ _ _ _ (by omega)];simp[et]
 have x2:sub (bP t.fNodes) (IntKind.i64.wrap ((A.length:Int)+1)) ((bP t.fNodes).length:Int)=some B:=by rw[aQt (bP t.fNodes) A.length (by omega) (by omega),ed]
 rw[if_neg (by omega),x1,x2]
 simp only[Option.bind_some]
 rw[aP (by simp;omega)]
 simp only[Option.bind_some,aO,List.nil_append]
 rw[aP (by omega)]
 simp only[Option.bind_some,aO]
 have hrl:(A++B).length<=4194304:=Nat.le_trans (eT bL (A++B)) (by show aG (A++B)<=_;omega)
 have nI:=aHF (s:=A++B) (by omega)
 have n9:=yG (A++B)
 have kI:=aKT t (dS (A++B)) (by omega) (by omega)
 have hf:((dI t).filter (fun x=>decide (x∈dS (A++B)))).length<=4194304:=Nat.le_trans (List.length_filter_le _ _) (by omega)
 obtain⟨b1,b2⟩:=aE8 (A++B) ((dI t).filter (fun x=>decide (x∈dS (A++B)))) (by omega) hf
 simp only[nI,Option.bind_some,kI,b2,a2]
 cases lA (A++B) ((dI t).filter (fun x=>decide (x∈dS (A++B))))with
 | none=>rfl
 | some u=>rfl
theorem aPf {x y:QL}(h:x.toL=y.toL):x=y:=by
 unfold QL.toL at h
 injection h with h1 h2 h3 h4 h5
 have:=aIw h3
 have:=aIw h4
 have:=aIw h5
 cases x;cases y;simp_all
theorem aFy {α:Type}{R:α->α->Prop}:∀ {a b:List α},aKA R a b->∀ x∈a,∃ y∈b,R x y
 | [],_,_,x,hx=>by cases hx
 | x::a,[],h,_,_=>h.elim
 | x::a,y::b,h,z,hz=>by
  rcases List.mem_cons.1 hz with e | hz
  · exact⟨y,by simp,e▸h.1⟩
  · obtain⟨w,hw,hr⟩:=aFy h.2 z hz
    exact⟨w,by simp[hw],hr⟩
theorem aMT {l2:List QL}{o2:List Int}{k:QL}(h2:Tie l2 o2)(hk:k∈l2):∃ A B:List QL,jY l2 o2=A++k::B/\k.toL∉A.map QL.toL:=by
 have hm:k∈jY l2 o2:=h2.inPerm.mem_iff.2 hk
 have:∀ s:List QL,k∈s->∃ A B:List QL,s=A++k::B/\k.toL∉A.map QL.toL:=by
  intro s
  induction s with
  | nil=>intro h;cases h
  | cons x s ih =>
   intro h
   by_cases c:x=k
   · exact⟨[],s,by rw[c];rfl,by simp⟩
   · obtain⟨A,B,e,hn⟩:=ih ((List.mem_cons.1 h).resolve_left fun e=>c e.symm)
     refine⟨x::A,B,by rw[e];rfl,?_⟩
     rw[List.map_cons,List.mem_cons]
     rintro(g | g)
     · exact c (aPf g).symm
     · exact hn g
 exact this _ hm
section
variable {l A B:List QL}{o:List Int}{k:QL}
theorem aOD (h:Tie l o)(h2:Tie (jY l o++[k]) (o++oP o k.toL))(e:jY (jY l o++[k]) (o++oP o k.toL)=A++k::B):(A++B).Perm l:=by
 have p1:=h2.inPerm
 rw[e]at p1
 have p2:(k::(A++B)).Perm (k::jY l o):=List.perm_middle.symm.trans (p1.trans (by simpa using(List.perm_append_comm (l₁:=jY l o) (l₂:=[k]))))
 exact p2.cons_inv.trans h.inPerm
theorem aMU (hr:Tie (A++B) o):(o++oP o k.toL).filter (fun x=>decide (x∈dS ((A++B).map QL.toL)))=o:=by
 have key:∀ u,u∈dS ((A++B).map QL.toL)↔u∈o:=by
  intro u
  rw[aCV,hr.mem]
  constructor
  · rintro⟨g,z,hz,ht⟩
    obtain⟨x,hx,rfl⟩:=List.mem_map.1 hz
    exact⟨g.1,x,hx,ht⟩
  · rintro⟨g,x,hx,ht⟩
    have:=(hr.lk x hx).1
    exact⟨by omega,x.toL,List.mem_map_of_mem hx,ht⟩
 rw[List.filter_append,List.filter_eq_self.2 (fun u hu=>decide_eq_true ((key u).2 hu)),List.filter_eq_nil_iff.2 (fun u hu hc=>(aBE.1 hu).2.2 ((key u).1 (of_decide_eq_true hc))),List.append_nil]
theorem aJ2 (h:Tie l o)(h2:Tie (jY l o++[k]) (o++oP o k.toL))(e:jY (jY l o++[k]) (o++oP o k.toL)=A++k::B)(hr:Tie (A++B) o) :
 ∀ y∈(cA (A++B) o).fNodes.foldl (aD5 (cA (jY l o++[k]) (o++oP o k.toL))) [],y∈aAD (cA (jY l o++[k]) (o++oP o k.toL)) [k.a,k.b]:=by
 generalize hl2:jY l o++[k]=l2 at *
 have he:∀ u∈oP o k.toL,0<u/\u∉o:=fun u hu=>(aBE.1 hu).2
 generalize hE:oP o k.toL=E at *
 have hT:=h2.isTree
 have eo:=xY l2 (o++E)
 obtain⟨hn,u1,um⟩:=aNa hT
 have hk2:k∈l2:=by rw[<- hl2];simp
 have hk1:=(h2.lk k hk2).1
 have ko:∀ u,(u=k.a\/u=k.b)->1<=u->u∈o++E:=fun u hu h1=>(h2.mem u).2 ⟨h1,k,hk2,by rcases hu with hu | hu <;> simp[hu]⟩
 have inL:∀ u,(u=k.a\/u=k.b)->1<=u->u∈aAD (cA l2 (o++E)) [k.a,k.b]:=by
  intro u hu h1
  have c:=ko u hu h1
  unfold aAD
  rw[List.mem_filter,decide_eq_true_eq,eo]
  obtain⟨_,_,⟨r,er⟩,_⟩:=aHB hT (v:=u) (by rw[eo];exact c)
  exact⟨c,u,by rcases hu with hu | hu <;> simp[hu],by rw[er];simp⟩
 have hS:∀ n∈aH l2 (o++E) (o++E) [],n.node∈aAD (cA l2 (o++E)) [k.a,k.b]->n.up≠0->n.up∈aAD (cA l2 (o++E)) [k.a,k.b]:=by
  intro n hn' hL h0
  have nm':n.toN∈(cA l2 (o++E)).fNodes:=List.mem_map_of_mem hn'
  unfold aAD at hL ⊢
  rw[List.mem_filter,decide_eq_true_eq]at hL ⊢
  obtain⟨_,y,hy,hp⟩:=hL
  obtain⟨w,hw,ew⟩:=aJq hp
  have hyo:y∈dI (cA l2 (o++E)):=by rw[<- ew];exact List.mem_map_of_mem hw
  exact⟨um _ nm' h0,y,hy,(aHB hT hyo).2.2.2 _ nm' hp h0⟩
 have sub1:∀ x∈A++B,x∈l2:=fun x hx=>by
  refine h2.inPerm.mem_iff.1 ?_
  rw[e]
  simp only[List.mem_append,List.mem_cons]at hx ⊢
  rcases hx with hx | hx
  · exact .inl hx
  · exact .inr (.inr hx)
 have rel:=aLz (k:=k) (L:=fun u=>u∈aAD (cA l2 (o++E)) [k.a,k.b]) hr h2 he (fun z hz=>by
  have:=h2.inPerm.mem_iff.2 hz
  rw[e]at this
  simp only[List.mem_append,List.mem_cons]at this ⊢
  rcases this with g | g | g
  · exact .inl (.inl g)
  · exact .inr g
  · exact .inl (.inr g)) (fun v hv hL=>by
    have e1:=aBC (fun x:QL=>aQ (o++E) [x.a,x.b]) l2 v (o++E) h2.nd (by simp[hv])
    have e2:(jY l2 (o++E)).filter (kB (o++E) v)=l2.filter (kB (o++E) v):=e1
    rw[<- e2,e,List.filter_append,List.filter_cons]
    have ck:kB (o++E) v k=false:=by
     cases c:kB (o++E) v k with
     | false=>rfl
     | true =>
      exfalso
      have hv2:v∈o++E:=by simp[hv]
      obtain⟨p,r,ep⟩:=List.append_of_mem hv2
      have:=((aCb (by rw[<- ep];exact h2.nd) (fun u hu=>by rw[<- ep]at hu;exact(h2.five u hu).1)).1 (by rw[<- ep];exact c)).1
      have v1:=(h2.five v hv2).1
      exact hL (inL v (by rcases this with g | g <;> simp[g]) v1)
    rw[ck]
    simp only[Bool.false_eq_true,if_false]
    rw[<- List.filter_append]
    exact List.filter_congr fun x hx=>aE2 hr he hx v) (by
  by_cases c:k.a=0
  · exact .inl c
  · exact .inr (inL _ (.inl rfl) (by omega))) (inL _ (.inr rfl) (by omega)) (fun p v r ev sv u hu=>by
    have f:=aMK hr h2 he sub1 p.length p v r (Nat.le_refl _) ev u hu
    have eo2:o++E=p++v::(r++E):=(congrArg (fun z=>z++E) ev).trans (by simp)
    exact aMW h2 hS _ p v (r++E) (Nat.le_refl _) eo2 sv u f) o.length o [] rfl (by simp)
 intro y hy
 rcases aJ5 _ y _ _ hy with h0 | ⟨n,hnm,en,hc⟩
 · cases h0
 · refine Decidable.byContradiction fun nL=>?_
   obtain⟨N,hN,rfl⟩:=List.mem_map.1 hnm
   obtain⟨M,hM,r1,r2,_⟩:=aFy rel N hN
   have eN:N.node=y:=en
   have:N=M:=r2 (by rw[eN];exact nL)
   subst this
   have hM2:N∈aH l2 (o++E) (o++E) []:=by
    rw[aB5]
    exact aCQ _ _ E _ _ hM
   have:=aMX hn (n:=N.toN) (List.mem_map_of_mem hM2)
   rw[this]at hc
   cases hc
end
end Go.Ev
/- The law of deleting. -/
namespace Go.Ev
set_option linter.all false
set_option maxHeartbeats 1000000
theorem aOf (a b:List Int)(h:a.length<=4294967296):wC a b=some (decide (a=b)):=aCR a b h
theorem aNr (a:List Point)(hl:a.length<=1000)(h:∀ p∈a,bG p.fX<=4294967296/\bG p.fY<=4294967296):oZ a a=some true:=by
 have main:∀ m k:Nat,m+k=a.length->lp (kU a a) (k:Int)=some (.inl ()):=by
  intro m
  induction m with
  | zero=>intro k hk;exact aL (by unfold kU;rw[if_neg (by omega)])
  | succ m ih =>
   intro k hk
   have hlt:k<a.length:=by omega
   obtain⟨h1,h2⟩:=h _ (List.getElem_mem hlt)
   rw[aS (s':=((k+1:Nat):Int))]
   · exact ih (k+1) (by omega)
   · unfold kU
     rw[if_pos (by omega),aK hlt]
     simp only[Option.bind_some]
     rw[cZ _ _ h1,cZ _ _ h2]
     simp only[Option.bind_some,decide_true,if_true,Bool.not_true,Bool.false_eq_true,if_false]
     rw[wi (n:=(k:Int)+1) (by omega)];rfl
 have:=main a.length 0 (by omega)
 unfold oZ
 rw[if_neg (by simp),show(0:Int)=((0:Nat):Int)from rfl,this]
 rfl
theorem aRz {l:List QL}{o:List Int}(h:Tie l o):(zC (uX (aH l o o [])).toNat (aH l o o [])).length<=1000/\∀ p∈zC (uX (aH l o o [])).toNat (aH l o o []),bG p.fX<=4294967296/\bG p.fY<=4294967296:=by
 obtain⟨t1,t2,t3,t4⟩:=h.netB.top
 refine⟨by rw[wP];omega,fun p hp=>?_⟩
 obtain⟨i,hi,rfl⟩:=List.getElem_of_mem hp
 rw[aAX]
 split
 · obtain⟨T,b1,sx,sy⟩:=aEY _ 0 h.netB.nb
   have ep:=aOy (k:=0) (n:=(aH l o o []).length) (by have:=h.netB.len;omega)
   have hl:=h.netB.len
   have fx:=aHc sx.1 (sx.2 (i:Int)).1 (sx.2 (i:Int)).2 (by omega) (jW (Nat.le_trans b1 ep) (by omega))
   have fy:=aHc sy.1 (sy.2 (i:Int)).1 (sy.2 (i:Int)).2 (by omega) (jW (Nat.le_trans b1 ep) (by omega))
   have e1:=mF (mB fx)
   have e2:=mF (mB fy)
   exact⟨by show bG (ofQ _)<=_;omega,by show bG (ofQ _)<=_;omega⟩
 · exact⟨by decide,by decide⟩
theorem aPC (code:List Int)(_:okL (okI .u8) code):wD code=some true:=by
 unfold wD
 by_cases big:(1048576:Int)<(code.length:Int)
 · rw[if_pos big]
 rw[if_neg big]
 obtain⟨n,l,o,e1,hl,hn,ht⟩:=aQs code (by omega)
 obtain⟨k,e2,hk,hk3⟩:=aQF code (by omega)
 have hT:=ht.isTree
 have hz:=ht.tsz
 have h9:=(vU hT).1
 have eo:=xY l o
 have kf:k.fit:=aGd (D:=1) (X:=20) (by omega) (by decide) hk.lk.1 (by omega) (by omega) (by have:=hk.lk.2.2;grind)
 have kv:ValidL k.toL:=(aDN kf).2 ⟨by have:=hk.1;omega,by have:=hk.1;omega,hk.1.2.1,hk.lk.1.sc.1⟩
 have ei:=aRt (cA l o) k.toL hT kv (by omega) (by have:=kv.sz;omega)
 rw[eo]at ei
 have o5:=ht.base.len
 rw[e1];simp only[Option.bind_some]
 rw[e2];simp only[Option.bind_some]
 rw[ei];simp only[Option.bind_some]
 by_cases J:k.a=0\/k.a∈o\/k.b∈o
 · obtain⟨ht2,eb⟩:=aKX ht (by have:=hl.len;omega) hk J
   have hT2:=ht2.isTree
   have hz2:=ht2.tsz
   obtain⟨A,B,eAB,hA⟩:=aMT ht2 (k:=k) (by simp)
   have hp:=aOD ht ht2 eAB
   have hr:Tie (A++B) o:=ht.perm hp (List.Perm.refl _)
   have hzr:=hr.tsz
   have eo2:=xY (jY l o++[k]) (o++oP o k.toL)
   have ed:=aRy (cA (jY l o++[k]) (o++oP o k.toL)) k.toL hT2 (by omega) (A:=A.map QL.toL) (B:=B.map QL.toL) (by rw[aAG,eAB,List.map_append];rfl) hA
   rw[<- List.map_append,eo2,aMU hr,hr.build]at ed
   rw[eb]
   simp only[Option.map_some,pkI,if_true]
   rw[ed]
   simp only[Option.map_some,pkI,Option.bind_some]
   have ew:(⟨(aH (A++B) o o []).map NQ.toN⟩:Tree)=cA (A++B) o:=rfl
   rw[ew,aLt ht,aLt hr]
   simp only[Option.bind_some]
   obtain⟨cq,cl⟩:=aGm (cA (jY l o++[k]) (o++oP o k.toL)) (cA (A++B) o) (by omega) (by omega)
   rw[cq]
   simp only[Option.bind_some]
   have hch:∀ y∈(cA (A++B) o).fNodes.foldl (aD5 (cA (jY l o++[k]) (o++oP o k.toL))) [],y∈aAD (cA (jY l o++[k]) (o++oP o k.toL)) [k.toL.fA,k.toL.fB]:=aJ2 ht ht2 eAB hr
   have h9r:=(vU hr.isTree).1
   have hls:(aAD (cA (jY l o++[k]) (o++oP o k.toL)) [k.toL.fA,k.toL.fB]).length<=100:=by
    have h1:=(aOU hT2 [k.toL.fA,k.toL.fB] (by simp)).2
    omega
   have loop:∀ m j:Nat,m+j=((cA (A++B) o).fNodes.foldl (aD5 (cA (jY l o++[k]) (o++oP o k.toL))) []).length->lp (mT ((cA (A++B) o).fNodes.foldl (aD5 (cA (jY l o++[k]) (o++oP o k.toL))) []) (cA (A++B) o,aAD (cA (jY l o++[k]) (o++oP o k.toL)) [k.toL.fA,k.toL.fB],true)) (j:Int)=some (.inl ()):=by
    intro m
    induction m with
    | zero =>
     intro j hj
     exact aL (by unfold mT;rw[if_neg (by omega)])
    | succ m ih =>
     intro j hj
     have hlt:j<((cA (A++B) o).fNodes.foldl (aD5 (cA (jY l o++[k]) (o++oP o k.toL))) []).length:=by omega
     refine(aS (s':=((j+1:Nat):Int)) ?_).trans (ih (j+1) (by omega))
     unfold mT
     rw[if_pos (by omega),aK hlt]
     simp only[Option.bind_some]
     rw[aPB _ _ (by omega),decide_eq_true (hch _ (List.getElem_mem hlt))]
     simp only[Option.bind_some,if_true]
     rw[wi (n:=(j:Int)+1) (by omega)];rfl
   have lz:=loop _ 0 (Nat.add_zero _)
   rw[show((0:Nat):Int)=0 from rfl]at lz
   rw[lz]
   simp only[Option.bind_some,if_true]
   have nlr:=aDV (A++B) o
   have nl:=aDV l o
   rw[aE3 _ (by omega),aE3 _ (by omega),xY,eo]
   simp only[Option.bind_some]
   rw[aOf _ _ (by omega)]
   simp only[Option.bind_some,decide_true,if_true]
   obtain⟨z1,z2⟩:=aRz ht
   rw[<- aPm ht hr hp (List.Perm.refl _),aNr _ z1 z2]
   simp only[Option.bind_some,if_true]
   rw[aJV ht,aJV hr]
   simp only[Option.bind_some]
   obtain⟨_,ee⟩:=aJc ht hr hp (List.Perm.refl _)
   have ff:=aFl (pre:=o) (rem:=[]) ht (by simp)
   have:=mF (mB ff)
   rw[<- ee,cZ _ _ (by omega),decide_eq_true rfl]
   rfl
 · rw[aMB ht hk (fun h=>J (.inl h)) (fun h=>J (.inr (.inl h))) (fun h=>J (.inr (.inr h)))]
   simp[pkI,aGX _ (show fO (cA l o)<=4194304 by omega),hT]
end Go.Ev
