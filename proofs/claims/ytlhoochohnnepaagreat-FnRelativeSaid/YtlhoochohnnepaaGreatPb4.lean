/- Parts QT, QU, PG1, VA, PS1, PS2, PS3, PT1, P22b, PT2, VB, VC, PT3, VD, VE, PT4, VF, VG, VH, VI, VJ, VK, VL, VS, VP, VT, VU, VW, VX, VY, VZ, CA, CB, PU1, PU2. -/
import Derived.Test.YtlhoochohnnepaaGreatPb3
import Derived.Test.YtlhoochohnnepaaGreatPa1
import Derived.Test.YtlhoochohnnepaaGreatLd
import Derived.Test.YtlhoochohnnepaaGreatPb2
import Derived.Test.YtlhoochohnnepaaGreatPb1
set_option linter.all false
/- Trees over the rational numbers: the whole tree. -/
namespace Go.Ev
set_option linter.all false
section
variable {l:List QL}{o pre r:List Int}{v:Int}{b:List NQ}
theorem TInv.next (hb:Base l o)(hi:TInv l o pre (v::r) b):TInv l o (pre++[v]) r (b++[nxt l o v b])/\pD o v ((l.filter (mW o v)).map QL.toL) (b.map NQ.toN)=some (nxt l o v b).toN/\bN (nxt l o v b).enQ:=by
 obtain⟨n,h1,hv,v1,v9,hl,nV,hV⟩:=hi.facts hb
 have hinc:=hi.inc hb
 obtain⟨c1,c2,c3,c4,c5,c6,c7⟩:=aLR (order:=o) hinc
 have hmem:∀ c∈b++[nxt l o v b],c∈b\/c=nxt l o v b:=fun c hc=>by simpa using hc
 have hlen:(b++[nxt l o v b]).length=b.length+1:=by simp
 have hsp:=hi.split
 refine⟨⟨?_,?_,?_,?_,?_,?_,?_,?_⟩,c1,c2⟩
 · rw[hsp];simp
 · rw[hlen,List.length_append,hi.len];rfl
 · intro c hc hu
   rcases hmem c hc with hc | rfl
   · exact hi.den c hc (List.mem_cons_of_mem v hu)
   · exact c3
 · intro c hc hu
   rw[hlen]
   rcases hmem c hc with hc | rfl
   · obtain⟨m1,m2⟩:=hi.msg c hc (List.mem_cons_of_mem v hu)
     exact⟨fun x hx=>aKb (m1 x hx) (Nat.dvd_refl _) (Nat.mul_le_mul_left _ (Nat.pow_le_pow_right (by omega) (by omega))),m2⟩
   · refine⟨fun x hx=>?_,c6⟩
     have:=(c5 x hx).1
     have e:2*(20*2 ^ b.length)=20*2 ^ (b.length+1):=by rw[Nat.pow_succ];omega
     rw[<- e];exact this
 · intro c hc hu
   rcases hmem c hc with hc | rfl
   · obtain⟨p1,p2,p3,p4⟩:=hi.ps c hc (List.mem_cons_of_mem v hu)
     refine⟨fun u hm=>?_,p2,p3,p4⟩
     have h:=p1 u hm
     simp only[List.mem_cons]at h ⊢
     rcases h with h | h | h
     · exact .inl h
     · exfalso
       subst h
       rw[hsp]at p2
       have:c.up=u:=p2.trans ((vY n h1).2 ⟨hm,fun z hz hz2=>by
        rcases List.mem_cons.1 (p1 z hz2)with rfl | h
        · have:=h1 0 (List.mem_append_left _ hz);omega
        · exact(List.nodup_append.1 n).2.2 z hz z h rfl⟩)
       rw[this]at hu;exact hv hu
     · exact .inr h
   · refine⟨fun u hm=>(hi.nxt_rem hb u hm).1,rfl,fun x hx=>?_,fun u hu' w hw' huw=>?_⟩
     · have hj:=(hinc.join).2.1
       refine⟨?_,?_,(c5 x hx).2.2.2⟩
       all_goals
        obtain⟨y,hy,e1,e2⟩:=sI _ [] 0 x hx
        have hy:=hy.resolve_left (by simp)
        rcases List.mem_append.1 hy with hy | hy
        · obtain⟨m1,m2,m3⟩:=xP.1 hy
          obtain⟨z,hz,f1,f2⟩:=sI _ [] 0 y m1
          have hz:=hz.resolve_left (by simp)
          rcases List.mem_append.1 hz with hz | hz
          · exfalso
            have:=(List.mem_filter.1 hz).2
            rw[hsp]at this
            have:=((aBH n h1).1 this).1
            omega
          · obtain⟨c,hc,hu2,hz⟩:=vG.1 hz
            obtain⟨_,hk⟩:=hi.kid_ps hb hc hu2
            obtain⟨_,_,p3,_⟩:=hi.ps c hc (by rw[hu2];simp)
            have g1:=(p3 z hz).1
            have g2:=(p3 z hz).2.1
            rw[f1,e1]at g1
            rw[f2,e2]at g2
            first | exact hk _ g1 (by omega) | exact hk _ g2 (by omega)
        · obtain⟨_,_,_,_,⟨y1,hy1,q1⟩,y2,hy2,q2⟩:=hj.arms.each hy
          have e:psN (nxt l o v b).cond=(bF v (aW (l.filter (mW o v)++mC v b) [] 0).1).map fun x=>x.a:=aBD v _
          rw[e]
          first | exact List.mem_map.2 ⟨y1,hy1,q1.trans e1⟩ | exact List.mem_map.2 ⟨y2,hy2,q2.trans e2⟩
     · have hj:=(hinc.join).2.1
       have e:psN (nxt l o v b).cond=(bF v (aW (l.filter (mW o v)++mC v b) [] 0).1).map fun x=>x.a:=aBD v _
       rw[e]at hu' hw'
       obtain⟨x,hx,rfl⟩:=List.mem_map.1 hu'
       obtain⟨y,hy,rfl⟩:=List.mem_map.1 hw'
       have hm:=aHw (sm wt (bF v (aW (l.filter (mW o v)++mC v b) [] 0).1)) hj.arms.inc x hx y hy huw
       obtain⟨z,hz,f1,f2⟩:=sH (gX v (aW (l.filter (mW o v)++mC v b) [] 0).1) [] 0 _ (.inr (List.mem_append_right _ hm))
       exact⟨z,hz,f1.symm,f2.symm⟩
 · obtain⟨k1,k2,k3⟩:=hi.kids
   rw[hlen,List.filter_append,aFx]
   have e1:b.filter (pY r)=b.filter fun c=>pY (v::r) c&&!kid v c:=by
    rw[<- aCn hv,List.filter_filter]
    refine List.filter_congr fun c _=>?_
    rw[Bool.and_comm]
   rw[e1]
   have ekk:ex' (b.length+1)=ex (b.length+1):=by unfold ex';rw[if_neg (by omega)]
   rw[ekk]
   have hD:(aAU v b=1/\dS (fun c:NQ=>72*c.den) (b.filter (kid v))=1)\/72*aAU v b<=dS (fun c:NQ=>72*c.den) (b.filter (kid v)):=by
    by_cases c:b.filter (kid v)=[]
    · left
      have e:aAU v b=dS (fun c:NQ=>c.den) (b.filter (kid v)):=rfl
      rw[e,c];exact⟨rfl,rfl⟩
    · exact .inr (aBE (fun c:NQ=>c.den) _ c)
   have hs:=aKi k3 k2 k1 c4 hD
   have le:dS (fun c:NQ=>72*c.den) ([nxt l o v b].filter (pY r))<=72*(nxt l o v b).den:=by
    have hp:0<(nxt l o v b).den:=c3
    rw[List.filter_cons,List.filter_nil]
    split
    · simp[dS]
    · simp only[dS];omega
   exact Nat.le_trans (Nat.mul_le_mul_left _ le) hs
 · have hw:=(aF7 hi hb).1
   have hn:0<=sm wt (nxt l o v b).msgs:=jO fun x hx=>(c5 x hx).1
   have e:sm wt (jD ((b++[nxt l o v b]).filter (pY r)))<=sm wt (jD (b.filter (pY r)))+sm wt (nxt l o v b).msgs:=by
    unfold jD
    rw[List.filter_append,List.flatMap_append,pU,List.filter_cons,List.filter_nil]
    split
    · rw[List.flatMap_cons,List.flatMap_nil,List.append_nil];grind
    · rw[List.flatMap_nil];simp only[sm];grind
   have c7':sm wt (nxt l o v b).msgs<=sm wt (l.filter (mW o v)++mC v b):=c7
   grind
 · intro S hS h0
   obtain⟨u0,hu0,su0⟩:=hS
   have viaN:∀ u w,S u->¬S w->u∈psN (nxt l o v b).cond->w∈psN (nxt l o v b).cond->aKR l o r (b++[nxt l o v b]) u w:=by
    intro u w su sw hu hw
    exact .inr ⟨nxt l o v b,by simp,hi.nxt_up hb hu (fun e=>h0 (e▸su)),hu,hw⟩
   have up:∀ u w,aKR l o r b u w->aKR l o r (b++[nxt l o v b]) u w:=by
    rintro u w (⟨x,hx,h⟩ | ⟨c,hc,h⟩)
    · exact .inl ⟨x,hx,h⟩
    · exact .inr ⟨c,by simp[hc],h⟩
   have ne0:u0≠v:=fun e=>hv (e▸hu0)
   obtain⟨u,w,⟨su,uv⟩,sw,ad⟩:=hi.cut (fun u=>S u/\u≠v) ⟨u0,List.mem_cons_of_mem v hu0,su0,ne0⟩ (fun h=>h0 h.1)
   have uw:u≠w:=fun e=>sw (e▸⟨su,uv⟩)
   obtain⟨t1,t2,t3⟩:=hi.adj hb ad uw
   by_cases wv:w=v
   · have hu:=t2 wv
     obtain⟨u',w',su',sw',ad'⟩:=hi.cut (fun u=>S u\/u=v) ⟨u0,List.mem_cons_of_mem v hu0,.inl su0⟩ (fun h=>h.elim h0 (by omega))
     have uw':u'≠w':=fun e=>sw' (e▸su')
     obtain⟨t1',t2',t3'⟩:=hi.adj hb ad' uw'
     have wv':w'≠v:=fun e=>sw' (.inr e)
     have sw2:¬S w':=fun h=>sw' (.inl h)
     by_cases uv':u'=v
     · exact⟨u,w',su,sw2,viaN u w' su sw2 hu (t1' uv')⟩
     · have su2:S u':=su'.resolve_right uv'
       rcases t3' uv' wv' with⟨g1,g2⟩ | g
       · exact⟨u',w',su2,sw2,viaN u' w' su2 sw2 g1 g2⟩
       · exact⟨u',w',su2,sw2,up _ _ g⟩
   · have sw2:¬S w:=fun h=>sw ⟨h,wv⟩
     rcases t3 uv wv with⟨g1,g2⟩ | g
     · exact⟨u,w,su,sw2,viaN u w su sw2 g1 g2⟩
     · exact⟨u,w,su,sw2,up _ _ g⟩
end
def bR (l:List QL)(o:List Int):List Int->List NQ->List NQ
 | [],b=>b
 | v::r,b=>bR l o r (b++[nxt l o v b])
theorem aNS (o:List Int)(v:Int):∀ l:List QL,(l.map QL.toL).filter (nI o v)=(l.filter (mW o v)).map QL.toL
 | []=>rfl
 | x::l=>by
  have e:nI o v x.toL=mW o v x:=rfl
  rw[List.map_cons,List.filter_cons,List.filter_cons,aNS o v l,e]
  split <;> rfl
theorem aK2 {l:List QL}{o:List Int}(hb:Base l o):∀ (r pre:List Int) (b:List NQ),TInv l o pre r b->tB (l.map QL.toL) o r (b.map NQ.toN)=some ((bR l o r b).map NQ.toN)
 | [],_,b,_=>rfl
 | v::r,pre,b,hi=>by
  obtain⟨h1,h2,h3⟩:=hi.next hb
  rw[tB,aNS,h2]
  have:=aK2 hb r (pre++[v]) (b++[nxt l o v b]) h1
  rw[List.map_append]at this
  exact this
def Grounded (l:List QL)(o:List Int):Prop:=∀ S:Int->Prop,(∃ u∈o,S u)->¬S 0->∃ x∈l,(S x.a/\¬S x.b)\/(S x.b/\¬S x.a)
theorem TInv.start {l:List QL}{o:List Int}(hb:Base l o)(hg:Grounded l o):TInv l o [] o [] where
 split:=rfl
 len:=rfl
 den:=by simp
 msg:=by simp
 ps:=by simp
 prod:=Nat.le_refl 1
 wtt:=by
  have e:sm wt (jD (([]:List NQ).filter (pY o)))=0:=rfl
  rw[e]
  have h1:=aBy wt (fun x=>decide (aP o [x.a,x.b]∈o)) l
  have h2:0<=sm wt (l.filter fun x=>!decide (aP o [x.a,x.b]∈o)):=jO fun y hy=>(hb.lk y (List.mem_filter.1 hy).1).1
  have:=hb.hw
  grind
 cut:=by
  intro S hS h0
  obtain⟨x,hx,h⟩:=hg S hS h0
  have hf:aP o [x.a,x.b]∈o:=by
   obtain⟨i1,i2,i3⟩:=(hb.lk x hx).2.1
   have hbm:x.b∈o:=by
    rcases List.mem_cons.1 i2 with h | h
    · exfalso
      rcases List.mem_cons.1 i1 with h2 | h2
      · omega
      · have:=hb.h1 _ h2;omega
    · exact h
   rcases aBW (s:=[x.a,x.b]) (fun u hu=>(hb.h1 u hu).1)with⟨_,h4⟩ | ⟨p,v,r,e,h2,h3,h4⟩
   · exact absurd (by simp) (h4 _ hbm)
   · rw[h2,e];simp
  rcases h with⟨g1,g2⟩ | ⟨g1,g2⟩
  · exact⟨x.a,x.b,g1,g2,.inl ⟨x,hx,hf,.inl ⟨rfl,rfl⟩⟩⟩
  · exact⟨x.b,x.a,g1,g2,.inl ⟨x,hx,hf,.inr ⟨rfl,rfl⟩⟩⟩
theorem Base.join {l:List QL}{o:List Int}(hb:Base l o):jnP (l.map QL.toL)=some ((aW l [] 0).1.map QL.toL,ofQ (aW l [] 0).2)/\(∀ k∈(aW l [] 0).1,k.fit/\Lk 1 20 k/\inV (0::o) k)/\(aW l [] 0).1.Pairwise cP/\bN (aW l [] 0).2:=by
 have nV:(0::o).Nodup:=List.nodup_cons.2 ⟨fun h=>by have:=hb.h1 0 h;omega,hb.nd⟩
 have hVn:∀ u∈0::o,0<=u/\u<=9:=fun u hu=>by
  rcases List.mem_cons.1 hu with rfl | hu
  · omega
  · have:=hb.h1 u hu;omega
 have len:(0::o).length<=6:=by have:=hb.len;simp only[List.length_cons];omega
 have j:Jn 1 1 20 15 (0::o):=⟨by omega,by decide,by omega,by omega,by omega,nV,by
  have h1:=aCb len
  have h2:=aK0 _ 6 len (by omega)
  have h3:tri 6=15:=by decide
  omega,by rw[aKX];decide⟩
 have es:=tQ (fun x hx=>(hb.lk x hx).1) (by omega) hb.hw
 have e0:(0:Q)-sm enQ []=0:=by simp only[sm];grind
 have g:=aBT j l [] 0 (fun x hx=>⟨(hb.lk x hx).1,(hb.lk x hx).2.1,(hb.lk x hx).2.2⟩) (by simp) List.Pairwise.nil (by simp only[sm];have:=hb.hw;grind) ⟨0,by simp⟩ (by grind) (by have:=es.2;grind)
 rw[e0]at g
 obtain⟨g1,g2,g3,g4,g5⟩:=g
 have fo:∀ x∈l,x.fit/\x.ok:=fun x hx=>by
  obtain⟨l1,⟨l2,l3,l4⟩,_⟩:=hb.lk x hx
  refine⟨aGF (by omega) (by decide) l1 (by omega) (by omega) ?_,hVn _ l2,hVn _ l3,l4,l1.sc.1⟩
  have:=tV (fun y hy=>(hb.lk y hy).1) hx
  have:=hb.hw
  grind
 obtain⟨e1,f1,f2⟩:=aOz fo g1
 exact⟨e1,fun k hk=>⟨f1 k hk,g2 k hk⟩,g3,f2⟩
theorem aNx {l:List QL}{o:List Int}(hb:Base l o)(hg:Grounded l o)(ho:isOrd ((aW l [] 0).1.map QL.toL) o):xG (l.map QL.toL) o=some ⟨(bR l o o []).map NQ.toN⟩:=by
 unfold xG
 rw[hb.join.1]
 simp only[Option.bind_some]
 rw[if_pos ho]
 have:=aK2 hb o [] [] (TInv.start hb hg)
 rw[List.map_nil]at this
 rw[this]
 rfl
end Go.Ev
/- Links of whole numbers that tie nodes to the ground: their tree is built. -/
namespace Go.Ev
set_option linter.all false
def LkI (x:QL):Prop:=(0<=x.a/\x.a<x.b/\x.b<=5)/\∃ w p q:Int,(1<=w/\w<=9)/\(-20<=p/\p<=20)/\(-20<=q/\q<=20)/\x.w=(w:Q)/\x.x=(p:Q)/\x.y=(q:Q)
theorem aMJ {B:Nat}{z:Int}(h:-(B:Int)<=z/\z<=(B:Int)):bd B (z:Q):=by
 constructor
 · have:=(_root_.Rat.intCast_le_intCast (a:=-(B:Int)) (b:=z)).2 h.1
   rw[_root_.Rat.intCast_neg]at this;exact this
 · exact(_root_.Rat.intCast_le_intCast (a:=z) (b:=(B:Int))).2 h.2
theorem LkI.lk {x:QL}(h:LkI x):Lk 1 20 x/\Dv 1 (enQ x)/\x.w<=9:=by
 obtain⟨_,w,p,q,hw,hp,hq,e1,e2,e3⟩:=h
 have w0:((0:Int):Q)<(w:Q):=_root_.Rat.intCast_lt_intCast.2 (by omega)
 have w9:(w:Q)<=((9:Int):Q):=_root_.Rat.intCast_le_intCast.2 hw.2
 have z0:((0:Int):Q)=0:=rfl
 have z9:((9:Int):Q)=9:=rfl
 have m1:mx x=((w*p:Int):Q):=by unfold mx;rw[e1,e2,_root_.Rat.intCast_mul]
 have m2:my x=((w*q:Int):Q):=by unfold my;rw[e1,e3,_root_.Rat.intCast_mul]
 have m3:enQ x=((w*(p*p+q*q):Int):Q):=by
  unfold enQ sqQ
  rw[e1,e2,e3,_root_.Rat.intCast_mul,_root_.Rat.intCast_add,_root_.Rat.intCast_mul,_root_.Rat.intCast_mul]
 refine⟨⟨⟨by rw[e1];grind,by rw[e1];exact aCs _,by rw[m1];exact aCs _,by rw[m2];exact aCs _⟩,by rw[e2];exact aMJ (by omega),by rw[e3];exact aMJ (by omega)⟩,by rw[m3];exact aCs _,by rw[e1];grind⟩
theorem aPp:∀ {l:List QL},(∀ x∈l,LkI x)->sm wt l<=((9*l.length:Nat):Q)
 | [],_=>by simp[sm]
 | x::l,h=>by
  have h1:=(h x (by simp)).lk.2.2
  have h2:=aPp (l:=l) (fun y hy=>h y (by simp[hy]))
  have e:(9*(x::l).length:Nat)=9+9*l.length:=by rw[List.length_cons];omega
  rw[sm,e,_root_.Rat.natCast_add]
  have e2:wt x=x.w:=rfl
  have e3:((9:Nat):Q)=9:=rfl
  rw[e2,e3];grind
structure Tie (l:List QL)(o:List Int):Prop where
 nd:o.Nodup
 mem:∀ u,u∈o↔1<=u/\∃ x∈l,x.a=u\/x.b=u
 lk:∀ x∈l,LkI x
 len:l.length<=8
 gr:Grounded l o
theorem Tie.five {l:List QL}{o:List Int}(h:Tie l o):∀ u∈o,1<=u/\u<=5:=by
 intro u hu
 obtain⟨h1,x,hx,ht⟩:=(h.mem u).1 hu
 have:=(h.lk x hx).1
 omega
theorem Tie.base {l:List QL}{o:List Int}(h:Tie l o):Base l o where
 nd:=h.nd
 h1:=fun u hu=>by have:=h.five u hu;omega
 len:=by
  have:=h.nd.length_le_of_subset (l₂:=[1,2,3,4,5]) (fun u hu=>by
   have:=h.five u hu
   simp only[List.mem_cons,List.not_mem_nil,or_false];omega)
  simpa using this
 lk:=fun x hx=>by
  obtain⟨h1,h2,h3⟩:=(h.lk x hx).lk
  have hn:=(h.lk x hx).1
  refine⟨h1,⟨?_,?_,hn.2.1⟩,h2⟩
  · by_cases c:x.a=0
    · rw[c];simp
    · exact List.mem_cons_of_mem _ ((h.mem _).2 ⟨by omega,x,hx,.inl rfl⟩)
  · exact List.mem_cons_of_mem _ ((h.mem _).2 ⟨by omega,x,hx,.inr rfl⟩)
 hw:=by
  have h1:=aPp h.lk
  have h2:((9*l.length:Nat):Q)<=((72:Nat):Q):=aGy (by have:=h.len;omega)
  have e:((72:Nat):Q)=72:=rfl
  grind
theorem aD5 {s:List Link}{u:Int}:u∈fD s↔(1<=u/\u<=9)/\∃ x∈s,x.fA=u\/x.fB=u:=by
 unfold fD aCV tch
 rw[List.mem_filter,List.any_eq_true]
 constructor
 · rintro⟨h1,x,hx,ht⟩
   obtain⟨k,hk,rfl⟩:=List.mem_map.1 h1
   rw[List.mem_range]at hk
   exact⟨by omega,x,hx,of_decide_eq_true ht⟩
 · rintro⟨h1,x,hx,ht⟩
   exact⟨List.mem_map.2 ⟨(u-1).toNat,List.mem_range.2 (by omega),by omega⟩,x,hx,decide_eq_true ht⟩
theorem yF (s:List Link):(fD s).Nodup:=by
 unfold fD
 exact(by decide:aCV.Nodup).filter _
theorem aKq {a b:List Int}(ha:a.Nodup)(hb:b.Nodup)(h:∀ u,u∈a↔u∈b):a.length=b.length :=
 Nat.le_antisymm (ha.length_le_of_subset fun u hu=>(h u).1 hu) (hb.length_le_of_subset fun u hu=>(h u).2 hu)
theorem Tie.isOrd {l:List QL}{o:List Int}(h:Tie l o):isOrd ((aW l [] 0).1.map QL.toL) o:=by
 have key:∀ u,u∈o↔u∈fD ((aW l [] 0).1.map QL.toL):=by
  intro u
  rw[h.mem,aD5]
  constructor
  · rintro⟨h1,x,hx,ht⟩
    obtain⟨y,hy,e1,e2⟩:=sH l [] 0 x (.inr hx)
    have:=(h.lk x hx).1
    refine⟨by omega,y.toL,List.mem_map_of_mem hy,?_⟩
    show y.a=u\/y.b=u
    rw[<- e1,<- e2];exact ht
  · rintro⟨h1,z,hz,ht⟩
    obtain⟨y,hy,rfl⟩:=List.mem_map.1 hz
    obtain⟨x,hx,e1,e2⟩:=sI l [] 0 y hy
    have hx:=hx.resolve_left (by simp)
    refine⟨h1.1,x,hx,?_⟩
    rw[e1,e2];exact ht
 exact⟨h.nd,fun y hy=>(key y).1 hy,aKq h.nd (yF _) key⟩
theorem Tie.build {l:List QL}{o:List Int}(h:Tie l o):xG (l.map QL.toL) o=some ⟨(bR l o o []).map NQ.toN⟩:=aNx h.base h.gr h.isOrd
theorem Grounded.perm {l l':List QL}{o o':List Int}(h:Grounded l o)(h1:∀ x∈l,x∈l')(h2:∀ u∈o',u∈o):Grounded l' o':=by
 intro S hS h0
 obtain⟨u,hu,su⟩:=hS
 obtain⟨x,hx,hh⟩:=h S ⟨u,h2 u hu,su⟩ h0
 exact⟨x,h1 x hx,hh⟩
theorem Tie.perm {l l':List QL}{o o':List Int}(h:Tie l o)(hl:l'.Perm l)(ho:o'.Perm o):Tie l' o' where
 nd:=ho.nodup_iff.2 h.nd
 mem:=fun u=>by
  rw[ho.mem_iff,h.mem]
  constructor
  · rintro⟨h1,x,hx,ht⟩;exact⟨h1,x,hl.mem_iff.2 hx,ht⟩
  · rintro⟨h1,x,hx,ht⟩;exact⟨h1,x,hl.mem_iff.1 hx,ht⟩
 lk:=fun x hx=>h.lk x (hl.mem_iff.1 hx)
 len:=by rw[hl.length_eq];exact h.len
 gr:=h.gr.perm (fun x hx=>hl.mem_iff.2 hx) fun u hu=>ho.mem_iff.1 hu
theorem aHL {l:List QL}{o:List Int}(hl:∀ x∈l,0<=x.a/\x.a<x.b)(hm:∀ u,u∈o↔1<=u/\∃ x∈l,x.a=u\/x.b=u)(h:∀ u∈o,∃ x∈l,x.b=u):Grounded l o:=by
 intro S hS h0
 have key:∀ (n:Nat) (u:Int),u.toNat<=n->u∈o->S u->∃ x∈l,(S x.a/\¬S x.b)\/(S x.b/\¬S x.a):=by
  intro n
  induction n with
  | zero=>intro u hn hu _;have:=(hm u).1 hu;omega
  | succ n ih =>
   intro u hn hu su
   obtain⟨x,hx,e⟩:=h u hu
   have hx2:=hl x hx
   by_cases c:S x.a
   · refine ih x.a (by omega) ((hm _).2 ⟨?_,x,hx,.inl rfl⟩) c
     by_cases z:x.a=0
     · rw[z]at c;exact absurd c h0
     · omega
   · exact⟨x,hx,.inr ⟨e▸su,c⟩⟩
 obtain⟨u,hu,su⟩:=hS
 exact key u.toNat u (Nat.le_refl _) hu su
theorem aK3 {n:Int}{l:List QL}{o:List Int}(h1:∀ x∈l,LkI x/\x.b<=n+1)(h2:l.length<=8)(h3:∀ k,1<=k->k<=n->∃ x∈l,x.b=k)(nd:o.Nodup)(hm:∀ u,u∈o↔1<=u/\∃ x∈l,x.a=u\/x.b=u):Tie l o where
 nd:=nd
 mem:=hm
 lk:=fun x hx=>(h1 x hx).1
 len:=h2
 gr:=aHL (fun x hx=>by have:=(h1 x hx).1.1;omega) hm fun u hu=>by
  obtain⟨g1,x,hx,ht⟩:=(hm u).1 hu
  by_cases c:u<=n
  · exact h3 u g1 c
  · have:=(h1 x hx)
    have g:=this.1.1
    refine⟨x,hx,by omega⟩
end Go.Ev
/- The cursor and what is drawn from it. -/
namespace Go.Ev
open IntKind
set_option linter.all false
theorem aFW (x:Int):0<=xH .i64 x 255/\xH .i64 x 255<=255:=by
 unfold xH
 have h:(BitVec.ofInt (IntKind.bits .i64) x &&& BitVec.ofInt (IntKind.bits .i64) 255).toNat<=255:=by
  rw[BitVec.toNat_and]
  exact Nat.le_trans Nat.and_le_right (by decide)
 rw[wi (by omega)]
 omega
def mV (c:l01Cur):Prop:=c.fb.length<=1048576/\0<=c.fi/\c.fi<=1048577
theorem aGO (c:l01Cur)(h:mV c):∃ r,fC c=some r/\(0<=r.1/\r.1<=255)/\mV r.2/\r.2.fb=c.fb:=by
 obtain⟨h1,h2,h3⟩:=h
 unfold fC
 simp only[aH]
 by_cases hc:c.fi<(c.fb.length:Int)
 · rw[if_pos hc]
   have:=aJ (l:=c.fb) (k:=c.fi.toNat) (by omega)
   rw[show((c.fi.toNat:Nat):Int)=c.fi by omega]at this
   rw[this]
   simp only[Option.bind_some]
   refine⟨_,rfl,aFW _,⟨h1,?_,?_⟩,rfl⟩
   · simp only[];rw[wi (by omega)];omega
   · simp only[];rw[wi (by omega)];omega
 · rw[if_neg hc]
   exact⟨_,rfl,aFW _,⟨h1,h2,h3⟩,rfl⟩
theorem pQ (c:l01Cur)(n:Int)(h:mV c)(hn:1<=n/\n<=256):∃ r,bZ c n=some r/\(0<=r.1/\r.1<n)/\mV r.2/\r.2.fb=c.fb:=by
 unfold bZ
 rw[if_neg (by omega),if_pos (by omega)]
 obtain⟨r,e,g1,g2,g3⟩:=aGO c h
 rw[show(l01Cur.mk c.fb c.fi c.fh)=c from rfl,e]
 simp only[Option.bind_some]
 rw[aL (by omega)]
 refine⟨_,rfl,⟨Int.tmod_nonneg _ g1.1,Int.tmod_lt_of_pos _ (by omega)⟩,?_,rfl⟩
 unfold mV at g2 h ⊢
 simp only[]
 exact⟨h.1,g2.2⟩
theorem aNV (code:List Int)(h:code.length<=1048576):∃ c,qD code=some c/\mV c/\c.fb=code:=by
 unfold qD
 simp only[aH]
 have main:∀ (m k:Nat) (v:Int),m+k=code.length->∃ d,lp (kM code) (v,(k:Int))=some d:=by
  intro m
  induction m with
  | zero =>
   intro k v hk
   exact⟨v,aI (by unfold kM;simp only[];rw[if_neg (by omega)];rfl)⟩
  | succ m ih =>
   intro k v hk
   have hlt:k<code.length:=by omega
   by_cases c:(k:Int)<4000
   · obtain⟨d,e⟩:=ih (k+1) (xH .i64 (i64.wrap (i64.wrap (i64.wrap (v*59)+i64.wrap code[k])+7)) 1073741823) (by omega)
     refine⟨d,?_⟩
     rw[aR (s':=(xH .i64 (i64.wrap (i64.wrap (i64.wrap (v*59)+i64.wrap code[k])+7)) 1073741823,((k+1:Nat):Int))),e]
     unfold kM
     simp only[]
     rw[if_pos (by omega),aJ hlt]
     have w:i64.wrap ((k:Int)+1)=((k+1:Nat):Int):=by rw[wi (by omega)];omega
     simp only[Option.bind_some,decide_eq_true c,if_true,aH,w]
   · refine⟨v,aI ?_⟩
     unfold kM
     simp only[]
     rw[if_pos (by omega)]
     simp only[Option.bind_some,decide_eq_false c,Bool.false_eq_true,if_false]
 obtain⟨d,e⟩:=main code.length 0 (i64.wrap (1951+(code.length:Int))) (by omega)
 rw[show((0:Nat):Int)=0 from rfl]at e
 rw[e]
 exact⟨_,rfl,⟨h,by simp,by simp⟩,rfl⟩
end Go.Ev
/- Links that are drawn. -/
namespace Go.Ev
set_option linter.all false
theorem uG {fb:List Int}{c:l01Cur}(h:mV c)(e:c.fb=fb):mV ⟨fb,c.fi,c.fh⟩:=by
 subst e;exact h
def mkI (a b w x y:Int):QL:=⟨a,b,(w:Q),(x:Q),(y:Q)⟩
theorem aL1 {a b w x y:Int}(h:0<=a/\a<b/\b<=5)(hw:1<=w/\w<=9)(hx:-20<=x/\x<=20)(hy:-20<=y/\y<=20):LkI (mkI a b w x y):=⟨h,w,x,y,hw,hx,hy,rfl,rfl,rfl⟩
theorem aFE {a b w x y:Int}(ha:0<=a/\a<=5)(hb:0<=b/\b<=5)(hab:a≠b)(hw:1<=w/\w<=9)(hx:-20<=x/\x<=20)(hy:-20<=y/\y<=20) :
 ∃ k:QL,oD a b w x y=some (k.toL,true)/\LkI k/\((k.a=a/\k.b=b)\/(k.a=b/\k.b=a)):=by
 unfold oD
 simp only[aAM,yP,Option.bind_some]
 rw[decide_eq_true (show 0<=a/\a<=9 by omega),decide_eq_true (show 0<=b/\b<=9 by omega),decide_eq_true (show 1<=w/\w<=9999 by omega),decide_eq_true (show -1000000<=x/\x<=1000000 by omega),decide_eq_true (show -1000000<=y/\y<=1000000 by omega)]
 simp only[if_true,if_neg hab,Option.bind_some,Bool.not_true,Bool.false_eq_true,if_false]
 by_cases c:b<a
 · rw[if_pos c]
   simp only[Option.bind_some]
   rw[wi (n:=0-x) (by omega),wi (n:=0-y) (by omega),bP w (by omega),bP (0-x) (by omega),bP (0-y) (by omega),yC (z:=w) (by omega),yC (z:=0-x) (by omega),yC (z:=0-y) (by omega)]
   exact⟨mkI b a w (0-x) (0-y),rfl,aL1 (by omega) hw (by omega) (by omega),.inr ⟨rfl,rfl⟩⟩
 · rw[if_neg c]
   simp only[Option.bind_some]
   rw[bP w (by omega),bP x (by omega),bP y (by omega),yC (z:=w) (by omega),yC (z:=x) (by omega),yC (z:=y) (by omega)]
   exact⟨mkI a b w x y,rfl,aL1 (by omega) hw hx hy,.inl ⟨rfl,rfl⟩⟩
theorem aOH (c:l01Cur)(n:Int)(h:mV c)(hn:1<=n/\n<=5):∃ (k:QL) (c':l01Cur),qT c n=some (k.toL,c')/\mV c'/\c'.fb=c.fb/\LkI k/\k.b<=n:=by
 obtain⟨r1,a1,b1,c1,d1⟩:=pQ ⟨c.fb,c.fi,c.fh⟩ n h (by omega)
 obtain⟨r2,a2,b2,c2,d2⟩:=pQ ⟨c.fb,r1.2.fi,r1.2.fh⟩ n (uG c1 d1) (by omega)
 obtain⟨r3,a3,b3,c3,d3⟩:=pQ ⟨c.fb,r2.2.fi,r2.2.fh⟩ 9 (uG c2 d2) (by omega)
 obtain⟨r4,a4,b4,c4,d4⟩:=pQ ⟨c.fb,r3.2.fi,r3.2.fh⟩ 41 (uG c3 d3) (by omega)
 obtain⟨r5,a5,b5,c5,d5⟩:=pQ ⟨c.fb,r4.2.fi,r4.2.fh⟩ 41 (uG c4 d4) (by omega)
 have aLG:∃ v:Int,((if(r1.1=r2.1)then(chk (IntKind.i64.wrap (n+1)≠0)).bind fun _u=>(aU ((IntKind.i64.wrap (r1.1+1)).tmod (IntKind.i64.wrap (n+1)))).bind fun v4=>some v4 else some r2.1):Option Int)=some v/\(0<=v/\v<=n)/\r1.1≠v:=by
  by_cases e:r1.1=r2.1
  · rw[if_pos e,wi (n:=n+1) (by omega),wi (n:=r1.1+1) (by omega),aL (by omega)]
    simp only[Option.bind_some,aH]
    refine⟨_,rfl,?_⟩
    rw[Int.tmod_eq_of_lt (by omega) (by omega)];omega
  · rw[if_neg e];exact⟨_,rfl,by omega,e⟩
 obtain⟨v,ev,hv,hne⟩:=aLG
 obtain⟨k,ek,hk,hk2⟩:=aFE (a:=r1.1) (b:=v) (w:=1+r3.1) (x:=r4.1-20) (y:=r5.1-20) (by omega) (by omega) hne (by omega) (by omega) (by omega)
 refine⟨k,⟨c.fb,r5.2.fi,r5.2.fh⟩,?_,uG c5 d5,rfl,hk,by omega⟩
 unfold qT
 rw[a1];simp only[Option.bind_some]
 rw[a2];simp only[Option.bind_some]
 rw[ev];simp only[Option.bind_some]
 rw[a3];simp only[Option.bind_some]
 rw[a4];simp only[Option.bind_some]
 rw[a5];simp only[Option.bind_some]
 rw[wi (n:=1+r3.1) (by omega),wi (n:=r4.1-20) (by omega),wi (n:=r5.1-20) (by omega),ek]
 rfl
structure LinkL (n:Int)(l:List QL):Prop where
 each:∀ x∈l,LkI x/\x.b<=n+1
 len:l.length<=7
 all:∀ k,1<=k->k<=n->∃ x∈l,x.b=k
theorem aPv (c:l01Cur)(n:Int)(hn:1<=n/\n<=4):∀ (m k:Nat) (l:List QL) (fi fh:Int),(m:Int)+k=n+1->1<=k->mV ⟨c.fb,fi,fh⟩->l.length=k-1->(∀ x∈l,LkI x/\x.b<=n)->(∀ j:Int,1<=j->j<k->∃ x∈l,x.b=j)->
 ∃ (l':List QL) (fi' fh':Int),lp (jR c n) ((k:Int),l.map QL.toL,fi,fh)=some (l'.map QL.toL,fi',fh')/\mV ⟨c.fb,fi',fh'⟩/\(l'.length:Int)=n/\(∀ x∈l',LkI x/\x.b<=n)/\∀ j:Int,1<=j->j<=n->∃ x∈l',x.b=j:=by
 intro m
 induction m with
 | zero =>
  intro k l fi fh hm hk hc hl he ha
  refine⟨l,fi,fh,aI ?_,hc,by omega,he,fun j h1 h2=>ha j h1 (by omega)⟩
  unfold jR
  simp only[]
  rw[if_neg (by omega)]
 | succ m ih =>
  intro k l fi fh hm hk hc hl he ha
  obtain⟨r1,a1,b1,c1,d1⟩:=pQ ⟨c.fb,fi,fh⟩ k hc (by omega)
  obtain⟨r2,a2,b2,c2,d2⟩:=pQ ⟨c.fb,r1.2.fi,r1.2.fh⟩ 9 (uG c1 d1) (by omega)
  obtain⟨r3,a3,b3,c3,d3⟩:=pQ ⟨c.fb,r2.2.fi,r2.2.fh⟩ 41 (uG c2 d2) (by omega)
  obtain⟨r4,a4,b4,c4,d4⟩:=pQ ⟨c.fb,r3.2.fi,r3.2.fh⟩ 41 (uG c3 d3) (by omega)
  obtain⟨q,eq,hq,hq2⟩:=aFE (a:=r1.1) (b:=k) (w:=1+r2.1) (x:=r3.1-20) (y:=r4.1-20) (by omega) (by omega) (by omega) (by omega) (by omega) (by omega)
  have hqb:q.b=k:=by have:=hq.1;omega
  have st:jR c n ((k:Int),l.map QL.toL,fi,fh)=some (.inl (((k+1:Nat):Int),(l++[q]).map QL.toL,r4.2.fi,r4.2.fh)):=by
   unfold jR
   simp only[]
   rw[if_pos (by omega),a1]
   simp only[Option.bind_some]
   rw[a2]
   simp only[Option.bind_some]
   rw[a3]
   simp only[Option.bind_some]
   rw[a4]
   simp only[Option.bind_some]
   rw[wi (n:=1+r2.1) (by omega),wi (n:=r3.1-20) (by omega),wi (n:=r4.1-20) (by omega),eq]
   simp only[Option.bind_some]
   rw[aL (by rw[List.length_map];omega),wi (n:=(k:Int)+1) (by omega)]
   simp only[Option.bind_some,aH,List.map_append,List.map_cons,List.map_nil]
   rfl
  rw[aR st]
  refine ih (k+1) (l++[q]) r4.2.fi r4.2.fh (by omega) (by omega) (uG c4 d4) (by rw[List.length_append,List.length_singleton];omega) (fun x hx=>?_) (fun j h1 h2=>?_)
  · rcases List.mem_append.1 hx with hx | hx
    · exact he x hx
    · simp at hx;subst hx;exact⟨hq,by omega⟩
  · by_cases e:j=k
    · exact⟨q,by simp,by omega⟩
    · obtain⟨x,hx,h⟩:=ha j h1 (by omega)
      exact⟨x,by simp[hx],h⟩
theorem aPu (c:l01Cur)(n:Int)(hn:1<=n/\n<=4):∀ (m:Nat) (l:List QL) (fi fh:Int),mV ⟨c.fb,fi,fh⟩->l.length+m<=7->(∀ x∈l,LkI x/\x.b<=n+1)->
 ∃ (l':List QL) (fi' fh':Int),lp (jQ c n) ((m:Int),l.map QL.toL,fi,fh)=some ((l++l').map QL.toL,fi',fh')/\mV ⟨c.fb,fi',fh'⟩/\(l++l').length<=7/\∀ x∈l++l',LkI x/\x.b<=n+1:=by
 intro m
 induction m with
 | zero =>
  intro l fi fh hc hl he
  refine⟨[],fi,fh,aI ?_,hc,by simpa using hl,by simpa using he⟩
  unfold jQ
  simp only[]
  rw[if_neg (by omega),List.append_nil]
 | succ m ih =>
  intro l fi fh hc hl he
  obtain⟨q,c',a1,a2,a3,a4,a5⟩:=aOH ⟨c.fb,fi,fh⟩ (n+1) hc (by omega)
  have st:jQ c n (((m+1:Nat):Int),l.map QL.toL,fi,fh)=some (.inl ((m:Int),(l++[q]).map QL.toL,c'.fi,c'.fh)):=by
   unfold jQ
   simp only[]
   rw[if_pos (by omega),wi (n:=n+1) (by omega),a1]
   simp only[Option.bind_some]
   rw[aL (by rw[List.length_map];omega),wi (n:=((m+1:Nat):Int)-1) (by omega)]
   simp only[Option.bind_some,aH,List.map_append,List.map_cons,List.map_nil]
   rw[show((m+1:Nat):Int)-1=(m:Int)by omega]
  rw[aR st]
  obtain⟨l',fi',fh',g1,g2,g3,g4⟩:=ih (l++[q]) c'.fi c'.fh (uG a2 a3) (by rw[List.length_append,List.length_singleton];omega) (fun x hx=>by
   rcases List.mem_append.1 hx with hx | hx
   · exact he x hx
   · simp at hx;subst hx;exact⟨a4,a5⟩)
  have e:l++[q]++l'=l++(q::l'):=by simp
  rw[e]at g1 g3 g4
  exact⟨q::l',fi',fh',g1,g2,g3,g4⟩
theorem aOy (c:l01Cur)(n:Int)(h:mV c)(hn:1<=n/\n<=4):∃ (l:List QL) (c':l01Cur),qS c n=some (l.map QL.toL,c')/\mV c'/\c'.fb=c.fb/\LinkL n l:=by
 obtain⟨l1,f1,g1,e1,o1,n1,h1,a1⟩:=aPv c n hn n.toNat 1 [] c.fi c.fh (by omega) (by omega) h rfl (by simp) (fun j h1 h2=>by omega)
 obtain⟨r,e2,b2,o2,d2⟩:=pQ ⟨c.fb,f1,g1⟩ 4 o1 (by omega)
 obtain⟨l2,f3,g3,e3,o3,n3,h3⟩:=aPu c n hn r.1.toNat l1 r.2.fi r.2.fh (uG o2 d2) (by omega) (fun x hx=>⟨(h1 x hx).1,by have:=(h1 x hx).2;omega⟩)
 refine⟨l1++l2,⟨c.fb,f3,g3⟩,?_,o3,rfl,⟨h3,n3,fun k k1 k2=>?_⟩⟩
 · unfold qS
   rw[show((1:Nat):Int)=1 from rfl,List.map_nil]at e1
   rw[e1]
   simp only[Option.bind_some]
   rw[e2]
   simp only[Option.bind_some]
   rw[show((r.1.toNat:Nat):Int)=r.1 by omega]at e3
   rw[e3]
   rfl
 · obtain⟨x,hx,e⟩:=a1 k k1 k2
   exact⟨x,by simp[hx],e⟩
end Go.Ev
/- Is it a tree, both programs, and the law. -/
namespace Go.Ev
set_option linter.all false
def aDT (t:Tree):List Int:=t.fNodes.map (·.fNode)
def aDf (t:Tree):Prop:=xG (pV t.fNodes) (aDT t)=some t
end Go.Ev
/- Paths of a tree end: what a tree's node hands up lies later in the order. -/
namespace Go.Ev
set_option linter.all false
def pr (s:List Link)(x y:Int):Prop:=∃ l∈s,l.fA=x/\l.fB=y
theorem aGt {a b:List Link}{x y:Int}:pr (a++b) x y↔pr a x y\/pr b x y:=by
 unfold pr
 constructor
 · rintro⟨l,h,e⟩
   rcases List.mem_append.1 h with h | h
   · exact .inl ⟨l,h,e⟩
   · exact .inr ⟨l,h,e⟩
 · rintro(⟨l,h,e⟩ | ⟨l,h,e⟩)
   · exact⟨l,List.mem_append_left _ h,e⟩
   · exact⟨l,List.mem_append_right _ h,e⟩
theorem aDd {a:List Link}{l:Link}{x y:Int}:pr (l::a) x y↔(l.fA=x/\l.fB=y)\/pr a x y:=by
 unfold pr;simp only[List.mem_cons,exists_eq_or_imp]
theorem aLD {x y:Int}:¬pr [] x y:=by rintro⟨l,h,_⟩;cases h
theorem aNC {s:List Link}{l:Link}{s':List Link}{e:Rat}(h:yZ s l=some (s',e))(x y:Int):pr s' x y↔pr s x y\/(l.fA=x/\l.fB=y):=by
 have ins:∀ p,pr (s.take p++[l]++s.drop p) x y↔pr s x y\/(l.fA=x/\l.fB=y):=by
  intro p
  have e1:pr s x y↔pr (s.take p) x y\/pr (s.drop p) x y:=by rw[<- aGt,List.take_append_drop]
  rw[e1,List.append_assoc,aGt,List.singleton_append,aDd]
  constructor
  · rintro(h | h | h)
    · exact .inl (.inl h)
    · exact .inr h
    · exact .inl (.inr h)
  · rintro((h | h) | h)
    · exact .inl h
    · exact .inr (.inr h)
    · exact .inr (.inl h)
 unfold yZ at h
 by_cases c:dH l s<s.length
 · rw[dif_pos c]at h
   by_cases c2:eG l s[dH l s]
   · rw[if_pos c2]at h;cases h;exact ins _
   · rw[if_neg c2]at h
     have nl:=aAG l s c
     have hA:s[dH l s].fA=l.fA/\s[dH l s].fB=l.fB:=by unfold eG at c2 nl;omega
     by_cases O:wP s[dH l s] l
     · rw[if_pos O]at h;cases h
       have e1:pr s x y↔pr (s.take (dH l s)) x y\/((s[dH l s].fA=x/\s[dH l s].fB=y)\/pr (s.drop (dH l s+1)) x y):=by
        rw[<- aDd,<- List.drop_eq_getElem_cons c,<- aGt,List.take_append_drop]
       rw[e1,List.append_assoc,aGt,List.singleton_append,aDd]
       have e2:(zO s[dH l s] l).fA=s[dH l s].fA:=rfl
       have e3:(zO s[dH l s] l).fB=s[dH l s].fB:=rfl
       rw[e2,e3,hA.1,hA.2]
       constructor
       · rintro(h | h | h)
         · exact .inl (.inl h)
         · exact .inr h
         · exact .inl (.inr (.inr h))
       · rintro((h | h | h) | h)
         · exact .inl h
         · exact .inr (.inl h)
         · exact .inr (.inr h)
         · exact .inr (.inl h)
     · rw[if_neg O]at h;cases h
 · rw[dif_neg c]at h;cases h;exact ins _
theorem aHH:∀ (l s:List Link) (e:Rat) (s':List Link) (e':Rat),rY l s e=some (s',e')->∀ x y,pr s' x y↔pr s x y\/pr l x y
 | [],s,e,s',e',h,x,y=>by
  rw[rY]at h;cases h
  exact⟨.inl,fun h=>h.elim id (fun h=>(aLD h).elim)⟩
 | a::r,s,e,s',e',h,x,y=>by
  rw[rY]at h
  cases ha:yZ s a with
  | none=>rw[ha]at h;cases h
  | some t =>
   obtain⟨s1,e1⟩:=t
   rw[ha]at h
   simp only[]at h
   by_cases c:bA (RA e e1)
   · rw[if_pos c]at h
     rw[aHH r s1 _ s' e' h x y,aNC ha,aDd,or_assoc]
   · rw[if_neg c]at h;cases h
theorem aMe {l s:List Link}{e:Rat}(h:jnP l=some (s,e))(x y:Int):pr s x y↔pr l x y:=by
 unfold jnP at h
 by_cases c:∀ x∈l,ValidL x
 · rw[if_pos c]at h
   rw[aHH l [] _ s e h x y]
   exact⟨fun h=>h.elim (fun h=>(aLD h).elim) id,.inr⟩
 · rw[if_neg c]at h;cases h
def adj (s:List Link)(x y:Int):Prop:=pr s x y\/pr s y x
def en (s:List Link)(x:Int):Prop:=∃ y,adj s x y
structure PathN (o:List Int)(n:TreeNode):Prop where
 near:∀ x,en n.fMessages x->x∈aDR n.fCond
 clq:∀ x y,x∈aDR n.fCond->y∈aDR n.fCond->x<y->pr n.fMessages x y
 late:∀ i (h:i<o.length),o[i]=n.fNode->∀ p∈aDR n.fCond,p∉o.take (i+1)
end Go.Ev
/- Trees in another order, and the nodes that a change affects: both programs, and the laws. -/
namespace Go.Ev
set_option linter.all false
end Go.Ev
/- The law of building a tree; inserting a link, both programs, and the law. -/
namespace Go.Ev
set_option linter.all false
end Go.Ev
/- Cliques: their nodes in order. -/
set_option linter.all false
namespace Go.Ev
set_option linter.all false
end Go.Ev
/- Deleting a link, both programs, and the law. -/
namespace Go.Ev
set_option linter.all false
theorem aHn {s u:List Link}{e:Rat}(h:jnP s=some (u,e)):fD u=fD s:=by
 refine yA (yI u) (yI s) fun x=>?_
 have h1:∀ (a b:List Link),(∀ x y,pr a x y->pr b x y)->(∃ l∈a,l.fA=x\/l.fB=x)->∃ l∈b,l.fA=x\/l.fB=x:=by
  rintro a b hab ⟨l,hl,c⟩
  obtain⟨m,hm,e1,e2⟩:=hab l.fA l.fB ⟨l,hl,rfl,rfl⟩
  exact⟨m,hm,by rw[e1,e2];exact c⟩
 rw[yG,yG]
 exact⟨fun⟨a,b⟩=>⟨a,h1 u s (fun x y=>(aMe h x y).1) b⟩,fun⟨a,b⟩=>⟨a,h1 s u (fun x y=>(aMe h x y).2) b⟩⟩
end Go.Ev
/- Trees that are drawn. -/
namespace Go.Ev
set_option linter.all false
theorem LinkL.tie {n:Int}{l:List QL}(h:LinkL n l){o:List Int}(nd:o.Nodup)(hm:∀ u,u∈o↔u∈fD (l.map QL.toL)):Tie l o:=by
 refine aK3 h.each (by have:=h.len;omega) h.all nd fun u=>?_
 rw[hm,aD5]
 constructor
 · rintro⟨h1,z,hz,ht⟩
   obtain⟨y,hy,rfl⟩:=List.mem_map.1 hz
   exact⟨h1.1,y,hy,ht⟩
 · rintro⟨h1,y,hy,ht⟩
   have:=(h.each y hy).1.1
   exact⟨by omega,y.toL,List.mem_map_of_mem hy,ht⟩
theorem LinkL.tie0 {n:Int}{l:List QL}(h:LinkL n l):Tie l (fD (l.map QL.toL)):=h.tie (yF _) fun _=>Iff.rfl
theorem Base.valid {l:List QL}{o:List Int}(hb:Base l o):∀ x∈l.map QL.toL,ValidL x:=by
 intro x hx
 have:=hb.join.1
 exact(aBo this).1 x hx
theorem Tie.sz {l:List QL}{o:List Int}(h:Tie l o):aK (l.map QL.toL)<=2000:=by
 have h1:=aAA h.base.valid
 rw[List.length_map]at h1
 have:=h.len
 omega
theorem Tie.join {l:List QL}{o:List Int}(h:Tie l o):∃ s e,jnP (l.map QL.toL)=some (s,e)/\LSet s/\fD s=fD (l.map QL.toL):=by
 have h1:=h.base.join.1
 exact⟨_,_,h1,(aBo h1).2.1,aHn h1⟩
theorem aLK (c:l01Cur)(s:List Int)(hs:s.length<=9):∀ (m k:Nat) (a:List Int) (fi fh:Int),m+k=s.length->mV ⟨c.fb,fi,fh⟩->a.Perm (s.take k)->
 ∃ (a':List Int) (fi' fh':Int),lp (jP c s) ((k:Int),a,fi,fh)=some (a',fi',fh')/\mV ⟨c.fb,fi',fh'⟩/\a'.Perm s:=by
 intro m
 induction m with
 | zero =>
  intro k a fi fh hm hc hp
  refine⟨a,fi,fh,aI ?_,hc,by rw[List.take_of_length_le (by omega)]at hp;exact hp⟩
  unfold jP
  simp only[]
  rw[if_neg (by omega)]
 | succ m ih =>
  intro k a fi fh hm hc hp
  have hlt:k<s.length:=by omega
  have hl:a.length=k:=by rw[hp.length_eq,List.length_take];omega
  obtain⟨r,a1,b1,c1,d1⟩:=pQ ⟨c.fb,fi,fh⟩ ((k:Int)+1) hc (by omega)
  have e1:sub a 0 r.1=some (a.take r.1.toNat):=by rw[pK _ _ _ (by omega)];simp
  have e2:sub a r.1 (a.length:Int)=some (a.drop r.1.toNat):=by
   rw[pK _ _ _ (by omega),List.take_of_length_le (by rw[List.length_drop];omega)]
  have t1:(a.take r.1.toNat).length<=9:=by rw[List.length_take];omega
  have t2:(a.drop r.1.toNat).length<=9:=by rw[List.length_drop];omega
  have st:jP c s ((k:Int),a,fi,fh)=some (.inl (((k+1:Nat):Int),a.take r.1.toNat++[s[k]]++a.drop r.1.toNat,r.2.fi,r.2.fh)):=by
   unfold jP
   simp only[]
   rw[if_pos (by omega),aJ hlt]
   simp only[Option.bind_some,aH]
   rw[wi (n:=(a.length:Int)+1) (by omega),hl,a1]
   simp only[Option.bind_some]
   rw[e1]
   simp only[Option.bind_some,List.nil_append,List.length_nil,Nat.zero_add]
   rw[aL (by omega)]
   simp only[Option.bind_some,aH]
   rw[aL (by omega)]
   simp only[Option.bind_some,aH]
   rw[hl]at e2
   rw[e2]
   simp only[Option.bind_some]
   rw[aL (by rw[List.length_append,List.length_singleton];omega),wi (n:=(k:Int)+1) (by omega)]
   rfl
  rw[aR st]
  refine ih (k+1) _ _ _ (by omega) (uG c1 d1) ?_
  rw[List.take_add_one,List.getElem?_eq_getElem hlt]
  have p1:(a.take r.1.toNat++[s[k]]++a.drop r.1.toNat).Perm (a++[s[k]]):=by
   rw[List.append_assoc]
   refine(List.Perm.append_left _ List.perm_append_comm).trans ?_
   rw[<- List.append_assoc,List.take_append_drop]
  exact p1.trans (hp.append_right _)
theorem aL7 (c:l01Cur)(h:mV c):∃ (n:Int) (l:List QL) (o:List Int) (c':l01Cur),qP c=some (l.map QL.toL,o,c')/\mV c'/\c'.fb=c.fb/\LinkL n l/\(1<=n/\n<=4)/\Tie l o:=by
 obtain⟨r,a1,b1,c1,d1⟩:=pQ ⟨c.fb,c.fi,c.fh⟩ 4 h (by omega)
 obtain⟨l,c2,a2,o2,f2,hl⟩:=aOy ⟨c.fb,r.2.fi,r.2.fh⟩ (1+r.1) (uG c1 d1) (by omega)
 obtain⟨s,e,j1,j2,j3⟩:=hl.tie0.join
 have hz:=hl.tie0.sz
 have js:=(wU (l.map QL.toL) (by omega)).1
 rw[j1]at js
 have ns:=aF4 j2
 rw[j3]at ns
 obtain⟨o,f3,g3,a3,o3,p3⟩:=aLK c (fD (l.map QL.toL)) (yH _) _ 0 [] c2.fi c2.fh (Nat.add_zero _) (uG o2 f2) (by simp)
 refine⟨1+r.1,l,o,⟨c.fb,f3,g3⟩,?_,o3,rfl,hl,by omega,hl.tie (p3.nodup_iff.2 (yF _)) fun u=>p3.mem_iff⟩
 unfold qP
 rw[a1];simp only[Option.bind_some]
 rw[wi (n:=1+r.1) (by omega),a2];simp only[Option.bind_some]
 rw[js];simp only[Option.bind_some,pk]
 rw[ns];simp only[Option.bind_some]
 rw[show((0:Nat):Int)=0 from rfl]at a3
 rw[a3]
 rfl
def lG (l:List QL)(o:List Int):Tree:=⟨(bR l o o []).map NQ.toN⟩
theorem aOk (code:List Int)(h:code.length<=1048576):∃ (n:Int) (l:List QL) (o:List Int),pA code=some (lG l o)/\LinkL n l/\(1<=n/\n<=4)/\Tie l o:=by
 obtain⟨c,e1,c1,f1⟩:=aNV code h
 obtain⟨n,l,o,c',e2,c2,f2,hl,hn,ht⟩:=aL7 ⟨c.fb,c.fi,c.fh⟩ c1
 refine⟨n,l,o,?_,hl,hn,ht⟩
 have hz:=ht.sz
 have ho:o.length<=5:=ht.base.len
 have bq:=(aNN (l.map QL.toL) o (by omega) (by omega)).1
 rw[ht.build]at bq
 unfold pA uL
 rw[e1];simp only[Option.bind_some]
 rw[e2];simp only[Option.bind_some]
 rw[bq]
 rfl
theorem aNw (c:l01Cur)(n:Int)(h:mV c):∀ (m:Nat) (k fi fh:Int),m+k=n->0<=k->n<=1000->mV ⟨c.fb,fi,fh⟩->∃ fi' fh',lp (mY n c) (k,fi,fh)=some (fi',fh')/\mV ⟨c.fb,fi',fh'⟩:=by
 intro m
 induction m with
 | zero =>
  intro k fi fh hm hk hn hc
  exact⟨fi,fh,aI (by unfold mY;simp only[];rw[if_neg (by omega)]),hc⟩
 | succ m ih =>
  intro k fi fh hm hk hn hc
  obtain⟨r,a1,b1,c1,d1⟩:=aGO ⟨c.fb,fi,fh⟩ hc
  obtain⟨f2,g2,e2,c2⟩:=ih (k+1) r.2.fi r.2.fh (by omega) (by omega) hn (uG c1 d1)
  refine⟨f2,g2,?_,c2⟩
  rw[aR (s':=(k+1,r.2.fi,r.2.fh)),e2]
  unfold mY
  simp only[]
  rw[if_pos (by omega),a1]
  simp only[Option.bind_some]
  rw[wi (n:=k+1) (by omega)]
theorem aNm (code:List Int)(n:Int)(hn:0<=n/\n<=1000)(h:code.length<=1048576):∃ c,tC code n=some c/\mV c:=by
 obtain⟨c,e1,c1,f1⟩:=aNV code h
 obtain⟨f2,g2,e2,c2⟩:=aNw c n c1 n.toNat 0 c.fi c.fh (by omega) (by omega) hn.2 c1
 refine⟨⟨c.fb,f2,g2⟩,?_,c2⟩
 unfold tC
 rw[e1];simp only[Option.bind_some]
 rw[e2]
 rfl
theorem aPr (code:List Int)(n:Int)(hn:0<=n/\n<=1000)(h:code.length<=1048576):∃ k,lJ code n=some k/\0<=k/\k<=65535:=by
 obtain⟨c,e1,c1⟩:=aNm code n hn h
 obtain⟨r,a1,b1,o1,d1⟩:=aGO ⟨c.fb,c.fi,c.fh⟩ c1
 obtain⟨r2,a2,b2,o2,d2⟩:=aGO ⟨c.fb,r.2.fi,r.2.fh⟩ (uG o1 d1)
 refine⟨r.1*256+r2.1,?_,by omega,by omega⟩
 unfold lJ
 rw[e1];simp only[Option.bind_some]
 rw[a1];simp only[Option.bind_some]
 rw[a2];simp only[Option.bind_some,aH]
 rw[wi (n:=r.1*256) (by omega),wi (n:=r.1*256+r2.1) (by omega)]
end Go.Ev
/- The program alone: links, order and test of a tree (the seat lacks the other program's). -/
namespace Go.Ev
set_option linter.all false
theorem aNi (t:Tree)(h:t.fNodes.length<=4294967296):oL t=some (aDT t):=by
 have:oL t=some (aDT t):=by
  have:=(kR (step:=mG t) t.fNodes (fun k u=>((k:Int),u)) (fun u n=>u++[n.fNode]) (fun u=>u) (fun k u=>u.length<=k) (fun k u hk hi=>by
   constructor
   · unfold mG
     simp only[]
     rw[if_pos (by omega),aJ hk]
     simp only[Option.bind_some,wi1 (by omega:k<=4294967296)]
     rw[aL (by omega)];rfl
   · rw[List.length_append,List.length_singleton];omega) (fun u _=>by unfold mG;simp only[];rw[if_neg (by omega)]) [] (Nat.zero_le _)).1
  rw[show((0:Nat):Int)=0 from rfl,aBq,List.nil_append]at this
  unfold oL
  rw[this];rfl
 exact this
end Go.Ev
/- Inserting all links, both programs, and the law. -/
namespace Go.Ev
set_option linter.all false
theorem aG5 (a:Int)(c:Nat):∀ r:List Int,r.Nodup->(r.map (fun v=>if a=v then c else 0)).sum<=c
 | [],_=>Nat.zero_le _
 | v::r,h=>by
  rw[List.nodup_cons]at h
  rw[List.map_cons,List.sum_cons]
  by_cases e:a=v
  · rw[if_pos e]
    have:∀ l:List Int,v∉l->(l.map (fun v=>if a=v then c else 0)).sum=0:=by
     intro l
     induction l with
     | nil=>intro _;rfl
     | cons x l ih =>
      intro hx
      simp only[List.mem_cons,not_or]at hx
      rw[List.map_cons,List.sum_cons,ih hx.2,if_neg (fun e'=>hx.1 (by rw[<- e,e']))]
    rw[this r h.1];omega
  · rw[if_neg e]
    have:=aG5 a c r h.2
    omega
theorem aHm (o:List Int)(r:List Int)(hr:r.Nodup):∀ s:List Link,(r.map (fun v=>aK (s.filter (nI o v)))).sum<=aK s
 | []=>by
  have:∀ l:List Int,(l.map (fun v=>aK (([]:List Link).filter (nI o v)))).sum=0:=by
   intro l
   induction l with
   | nil=>rfl
   | cons x l ih=>rw[List.map_cons,List.sum_cons,ih];rfl
  rw[this];exact Nat.zero_le _
 | x::s=>by
  have ih:=aHm o r hr s
  have h1:=aG5 (aP o [x.fA,x.fB]) (cA x+1) r hr
  have e:∀ l:List Int,(l.map (fun v=>aK ((x::s).filter (nI o v)))).sum=(l.map (fun v=>if aP o [x.fA,x.fB]=v then cA x+1 else 0)).sum+(l.map (fun v=>aK (s.filter (nI o v)))).sum:=by
   intro l
   induction l with
   | nil=>rfl
   | cons v l ih =>
    simp only[List.map_cons,List.sum_cons,ih]
    have:aK ((x::s).filter (nI o v))=(if aP o [x.fA,x.fB]=v then cA x+1 else 0)+aK (s.filter (nI o v)):=by
     rw[List.filter_cons]
     unfold nI
     by_cases c:aP o [x.fA,x.fB]=v
     · rw[if_pos (by simpa using c),if_pos c];unfold aK;rw[qN]
     · rw[if_neg (by simpa using c),if_neg c];omega
    omega
  rw[e]
  have:aK (x::s)=cA x+1+aK s:=by unfold aK;rw[qN]
  omega
theorem yD:∀ b:List TreeNode,aK (pV b)=(b.map (fun n=>aK n.fOwn)).sum
 | []=>rfl
 | n::b=>by
  have e:pV (n::b)=n.fOwn++pV b:=by simp[pV]
  rw[e,aJq,yD b,List.map_cons,List.sum_cons]
theorem aK1 {s:List Link}{o:List Int}{b:List TreeNode}(hn:o.Nodup)(h:tB s o o []=some b):aK (pV b)<=aK s:=by
 obtain⟨h1,h2⟩:=zS o [] b (by simp) h
 simp only[List.map_nil,List.nil_append]at h2
 rw[yD]
 have e:b.map (fun n=>aK n.fOwn)=b.map (fun n=>aK (s.filter (nI o n.fNode))):=List.map_congr_left fun n hn=>by rw[(h1 n hn).2.1]
 have e2:b.map (fun n=>aK (s.filter (nI o n.fNode)))=o.map (fun v=>aK (s.filter (nI o v))):=by rw[<- h2,List.map_map];rfl
 rw[e,e2]
 exact aHm o o hn s
theorem aG3 {s:List Link}{o:List Int}:∀ {b:List TreeNode},(∀ n∈b,NodeOk s o n)->szL gK b<=aK (pV b)+51425*b.length
 | [],_=>Nat.zero_le _
 | n::b,h=>by
  have ih:=aG3 (b:=b) (fun m hm=>h m (by simp[hm]))
  have hn:=h n (by simp)
  have h1:=hn.1.sz
  have h3:=lA (.inl hn.2.2.2.1)
  have h4:=hn.2.2.1
  have e:aK (pV (n::b))=aK n.fOwn+aK (pV b):=by rw[yD,yD,List.map_cons,List.sum_cons]
  have e2:gK n=aK n.fOwn+aV n.fCond+aK n.fMessages+bG n.fEnergy:=rfl
  rw[qN,List.length_cons,e,e2]
  omega
theorem aI5 {s:List Link}{o:List Int}{u:Tree}(h:xG s o=some u):aK (pV u.fNodes)<=aK s/\uU u<=aK s+462825:=by
 unfold xG at h
 cases hj:jnP s with
 | none=>rw[hj]at h;cases h
 | some x =>
  rw[hj,Option.bind_some]at h
  by_cases c:isOrd x.1 o
  · rw[if_pos c]at h
    cases g:tB s o o []with
    | none=>rw[g]at h;cases h
    | some b =>
     rw[g]at h
     obtain rfl:=Option.some.inj h
     have h1:=aK1 c.1 g
     obtain⟨k1,k2⟩:=zS o [] b (by simp) g
     have h2:=aG3 k1
     have hl:b.length=o.length:=by have:=congrArg List.length k2;simpa using this
     have h9:=(aEq c).1
     refine⟨h1,?_⟩
     show szL gK b<=_
     have:51425*b.length<=51425*9:=Nat.mul_le_mul (Nat.le_refl _) (by omega)
     omega
  · rw[if_neg c]at h;cases h
end Go.Ev
/- What is built on tied links is a tree. -/
namespace Go.Ev
set_option linter.all false
theorem aHP {α:Type}{f g:Int->List α}:∀ {r:List Int},(∀ u∈r,f u=g u)->r.flatMap f=r.flatMap g
 | [],_=>rfl
 | u::r,h=>by rw[List.flatMap_cons,List.flatMap_cons,h u (by simp),aHP fun w hw=>h w (by simp[hw])]
theorem aFA {α:Type}(f:α->Int):∀ (o:List Int) (l:List α),o.Nodup->(∀ x∈l,f x∈o)->(o.flatMap fun v=>l.filter fun x=>decide (f x=v)).Perm l
 | [],l,_,h=>by
  cases l with
  | nil=>exact List.Perm.refl _
  | cons x l=>exact absurd (h x (by simp)) (by simp)
 | v::r,l,hn,h=>by
  rw[List.nodup_cons]at hn
  rw[List.flatMap_cons]
  have e:(r.flatMap fun u=>l.filter fun x=>decide (f x=u))=r.flatMap fun u=>(l.filter fun x=>!decide (f x=v)).filter fun x=>decide (f x=u):=by
   refine aHP fun u hu=>?_
   rw[List.filter_filter]
   refine List.filter_congr fun x _=>?_
   by_cases c:f x=u
   · have:f x≠v:=fun e=>hn.1 (by rw[<- e,c];exact hu)
     rw[decide_eq_true c,decide_eq_false this];rfl
   · rw[decide_eq_false c];rfl
  rw[e]
  have ih:=aFA f r (l.filter fun x=>!decide (f x=v)) hn.2 (fun x hx=>by
   rw[List.mem_filter]at hx
   have h1:=h x hx.1
   have h2:f x≠v:=by simpa using hx.2
   exact(List.mem_cons.1 h1).resolve_left h2)
  exact(List.Perm.append_left _ ih).trans (List.filter_append_perm _ l)
theorem aCF {α:Type}(f:α->Int)(l:List α)(v:Int):∀ o:List Int,o.Nodup->v∈o->((o.flatMap fun u=>l.filter fun x=>decide (f x=u)).filter fun x=>decide (f x=v))=l.filter fun x=>decide (f x=v)
 | w::r,hn,hv=>by
  rw[List.nodup_cons]at hn
  rw[List.flatMap_cons,List.filter_append]
  have none:∀ s:List Int,v∉s->((s.flatMap fun u=>l.filter fun x=>decide (f x=u)).filter fun x=>decide (f x=v))=[]:=by
   intro s hs
   rw[List.filter_eq_nil_iff]
   intro x hx
   obtain⟨u,hu,hx⟩:=List.mem_flatMap.1 hx
   have:=of_decide_eq_true (List.mem_filter.1 hx).2
   intro e
   have:=of_decide_eq_true e
   have e3:v=u:=by omega
   exact hs (e3▸hu)
  by_cases c:v=w
  · subst c
    rw[none r hn.1,List.append_nil,List.filter_filter]
    refine List.filter_congr fun x _=>?_
    simp
  · have e:((l.filter fun x=>decide (f x=w)).filter fun x=>decide (f x=v))=[]:=by
     rw[List.filter_eq_nil_iff]
     intro x hx e
     have h1:=of_decide_eq_true (List.mem_filter.1 hx).2
     have h2:=of_decide_eq_true e
     exact c (by omega)
    rw[e,List.nil_append]
    exact aCF f l v r hn.2 ((List.mem_cons.1 hv).resolve_left c)
theorem wH (l:List QL)(o:List Int):∀ (r:List Int) (b:List NQ),(bR l o r b).map (fun n=>n.node)=b.map (fun n=>n.node)++r
 | [],b=>by simp[bR]
 | v::r,b=>by
  rw[bR,wH l o r]
  simp only[List.map_append,List.map_cons,List.map_nil,List.append_assoc,List.singleton_append]
  rfl
theorem aFl (l:List QL)(o:List Int):∀ (r:List Int) (b:List NQ),(bR l o r b).flatMap (fun n=>n.own)=b.flatMap (fun n=>n.own)++r.flatMap fun v=>l.filter (mW o v)
 | [],b=>by simp[bR]
 | v::r,b=>by
  rw[bR,aFl l o r,List.flatMap_append,List.flatMap_cons,List.flatMap_nil,List.append_nil,List.flatMap_cons,List.append_assoc]
  rfl
theorem aCx {l l':List QL}{o:List Int}:∀ (r:List Int) (b:List NQ),(∀ v∈r,l'.filter (mW o v)=l.filter (mW o v))->bR l' o r b=bR l o r b
 | [],b,_=>rfl
 | v::r,b,h=>by
  have e:nxt l' o v b=nxt l o v b:=by unfold nxt;rw[h v (by simp)]
  rw[bR,bR,e]
  exact aCx r _ fun u hu=>h u (by simp[hu])
def aHK (l:List QL)(o:List Int):List QL:=o.flatMap fun v=>l.filter (mW o v)
theorem Tie.owner {l:List QL}{o:List Int}(h:Tie l o):∀ x∈l,aP o [x.a,x.b]∈o:=by
 intro x hx
 have hb:=h.base
 have hbm:x.b∈o:=(h.mem _).2 ⟨by have:=(h.lk x hx).1;omega,x,hx,.inr rfl⟩
 rcases aBW (s:=[x.a,x.b]) (fun u hu=>(hb.h1 u hu).1)with⟨_,h4⟩ | ⟨p,v,r,e,h2,h3,h4⟩
 · exact absurd (by simp) (h4 _ hbm)
 · rw[h2,e];simp
theorem Tie.inPerm {l:List QL}{o:List Int}(h:Tie l o):(aHK l o).Perm l:=aFA (fun x:QL=>aP o [x.a,x.b]) o l h.nd h.owner
theorem Tie.inTie {l:List QL}{o:List Int}(h:Tie l o):Tie (aHK l o) o:=h.perm h.inPerm (List.Perm.refl _)
theorem Tie.inTree {l:List QL}{o:List Int}(h:Tie l o):lG (aHK l o) o=lG l o:=by
 unfold lG
 have e:bR (aHK l o) o o []=bR l o o []:=aCx o [] fun v hv=>aCF (fun x:QL=>aP o [x.a,x.b]) l v o h.nd hv
 rw[e]
theorem aLJ:∀ b:List NQ,pV (b.map NQ.toN)=(b.flatMap fun n=>n.own).map QL.toL:=by
 intro b
 unfold pV
 induction b with
 | nil=>rfl
 | cons n b ih =>
  rw[List.flatMap_cons,List.map_append,<- ih];rfl
theorem aIn (l:List QL)(o:List Int):pV (lG l o).fNodes=(aHK l o).map QL.toL:=by
 unfold lG
 simp only[]
 rw[aLJ,aFl,List.flatMap_nil,List.nil_append]
 rfl
theorem aDt (l:List QL)(o:List Int):aDT (lG l o)=o:=by
 unfold aDT lG
 simp only[List.map_map]
 have:=wH l o o []
 rw[List.map_nil,List.nil_append]at this
 exact this
theorem Tie.isTree {l:List QL}{o:List Int}(h:Tie l o):aDf (lG l o):=by
 unfold aDf
 rw[aIn,aDt,h.inTie.build]
 exact congrArg some h.inTree
theorem Tie.tsz {l:List QL}{o:List Int}(h:Tie l o):uU (lG l o)<=470000:=by
 have hz:=h.sz
 have:=(aI5 h.build).2
 unfold lG
 omega
end Go.Ev
/- The law of the paths of a tree. -/
namespace Go.Ev
set_option linter.all false
end Go.Ev
/- The cliques of a tree, both programs, and the law. -/
namespace Go.Ev
set_option linter.all false
theorem aIF {o:List Int}{v:Int}{own:List Link}{b:List TreeNode}{n:TreeNode}(h:pD o v own b=some n):aZ n.fCond=some true:=by
 unfold pD at h
 cases e1:jnP (own++yL v b)with
 | none=>rw[e1]at h;cases h
 | some u =>
  rw[e1,Option.bind_some]at h
  cases e2:aCf v u.1 with
  | none=>rw[e2]at h;cases h
  | some w =>
   obtain⟨c,m,f⟩:=w
   rw[e2,Option.bind_some]at h
   have hc:aZ c=some true:=by
    unfold aCf at e2
    cases e3:vZ v u.1 with
    | none=>rw[e3]at e2;cases e2
    | some x =>
     rw[e3,Option.bind_some]at e2
     have ex:x.1=c:=by
      cases e4:jnP (wM v u.1++x.2)with
      | none=>rw[e4]at e2;cases e2
      | some y=>rw[e4]at e2;exact congrArg Prod.fst (Option.some.inj e2)
     unfold vZ at e3
     split at e3
     · rename_i hh
       cases e3
       rw[<- ex];exact hh.2.1
     · cases e3
   split at h
   · cases h;exact hc
   · cases h
theorem aFn {Q:TreeNode->Prop}{s:List Link}{o:List Int}(hQ:∀ v b n,pD o v (s.filter (nI o v)) b=some n->Q n):∀ (r:List Int) (b b':List TreeNode),(∀ n∈b,Q n)->tB s o r b=some b'->∀ n∈b',Q n
 | [],b,b',h,e=>by cases e;exact h
 | v::r,b,b',h,e=>by
  rw[tB]at e
  cases h1:pD o v (s.filter (nI o v)) b with
  | none=>rw[h1]at e;cases e
  | some n =>
   rw[h1,Option.bind_some]at e
   exact aFn hQ r (b++[n]) b' (fun m hm=>by
    rcases List.mem_append.1 hm with hm | hm
    · exact h m hm
    · rw[List.mem_singleton.1 hm];exact hQ _ _ _ h1) e
theorem aDr {t:Tree}(ht:aDf t):t.fNodes.length<=9/\∀ n∈t.fNodes,1<=n.fNode/\aZ n.fCond=some true/\aV n.fCond<=20000:=by
 unfold aDf xG at ht
 cases hj:jnP (pV t.fNodes)with
 | none=>rw[hj]at ht;cases ht
 | some x =>
  rw[hj,Option.bind_some]at ht
  by_cases c:isOrd x.1 (aDT t)
  · rw[if_pos c]at ht
    cases g:tB (pV t.fNodes) (aDT t) (aDT t) []with
    | none=>rw[g]at ht;cases ht
    | some b =>
     rw[g]at ht
     have e:=Option.some.inj ht
     obtain⟨k1,k2⟩:=zS (aDT t) [] b (by simp) g
     have k3:=aFn (Q:=fun n=>aZ n.fCond=some true) (fun v b n h=>aIF h) (aDT t) [] b (by simp) g
     have eb:b=t.fNodes:=by rw[<- e]
     subst eb
     obtain⟨l1,l2⟩:=aEq c
     refine⟨by unfold aDT at l1;rwa [List.length_map]at l1,fun n hn=>⟨l2 _ (List.mem_map.2 ⟨n,hn,rfl⟩),k3 n hn,(k1 n hn).2.2.1⟩⟩
  · rw[if_neg c]at ht;cases ht
end Go.Ev
/- Nodes that hang on nothing: a tree is not built. -/
namespace Go.Ev
set_option linter.all false
end Go.Ev
/- A link that hangs on nothing cannot be inserted. -/
namespace Go.Ev
set_option linter.all false
end Go.Ev
/- Inserting a link that hangs on the tree. -/
namespace Go.Ev
set_option linter.all false
end Go.Ev
/- Nodes that an inserted link does not change. -/
namespace Go.Ev
set_option linter.all false
theorem sA (l:List QL)(o:List Int)(v:Int):∀ (p:List Int) (b:List NQ),bR l o (p++[v]) b=bR l o p b++[nxt l o v (bR l o p b)]
 | [],b=>rfl
 | u::p,b=>by rw[List.cons_append,bR,bR,sA l o v p]
theorem TInv.at {l:List QL}{o:List Int}(hb:Base l o)(hg:Grounded l o):∀ (n:Nat) (p r:List Int),p.length=n->o=p++r->TInv l o p r (bR l o p [])
 | 0,p,r,hn,e=>by
  have:p=[]:=List.length_eq_zero_iff.1 hn
  subst this
  rw[List.nil_append]at e
  subst e
  exact TInv.start hb hg
 | n+1,p,r,hn,e=>by
  rcases List.eq_nil_or_concat p with rfl | ⟨q,v,rfl⟩
  · simp at hn
  · rw[List.concat_eq_append]at hn e ⊢
    have ih:=TInv.at hb hg n q (v::r) (by simpa using hn) (by rw[e,List.append_assoc];rfl)
    rw[sA]
    exact(ih.next hb).1
end Go.Ev
/- Nodes outside a closed set stay as they are. -/
namespace Go.Ev
set_option linter.all false
set_option maxHeartbeats 2000000
section
variable {l:List QL}{o:List Int}{k:QL}{L:Int->Prop}
end
end Go.Ev
/- Parents lie on the path. -/
namespace Go.Ev
set_option linter.all false
end Go.Ev
/- What an inserted link changes lies in the list. -/
namespace Go.Ev
set_option linter.all false
end Go.Ev
/- Energies at positions: what joining and eliminating keep. -/
namespace Go.Ev
set_option linter.all false
def eP (p q:Int->Q)(x:QL):Q:=x.w*sqQ (p x.b-p x.a-x.x) (q x.b-q x.a-x.y)
theorem aOv (p q:Int->Q){k l:QL}(ha:k.a=l.a)(hb:k.b=l.b)(hk:0<k.w)(hl:0<l.w):eP p q (mrg k l)+aD2 k l=eP p q k+eP p q l:=by
 have:k.w+l.w≠0:=by grind
 unfold eP mrg aD2 sqQ
 simp only[]
 rw[ha,hb]
 generalize p l.b-p l.a=u
 generalize q l.b-q l.a=v
 grind
theorem aJ8 (p q:Int->Q):∀ (s:List QL) (l:QL),(∀ x∈s,0<x.w)->0<l.w->sm (eP p q) (iS s l).1+(iS s l).2=sm (eP p q) s+eP p q l
 | [],l,_,_=>by simp only[iS,sm];grind
 | k::s,l,hs,hl=>by
  have hk:=hs k (by simp)
  have hr:=fun x hx=>hs x (List.mem_cons_of_mem k hx)
  by_cases c:cP k l
  · have ih:=aJ8 p q s l hr hl
    rw[qL c,sm,sm]
    simp only[]
    grind
  · by_cases d:cP l k
    · rw[tS c d]
      simp only[sm]
      grind
    · have e:=aOv p q (wI c d).1 (wI c d).2 hk hl
      rw[tR c d]
      simp only[sm]
      grind
theorem aH7 (s:List QL)(l:QL)(hs:∀ x∈s,0<x.w)(hl:0<l.w):∀ x∈(iS s l).1,0<x.w :=
 aB4 (P:=fun x=>0<x.w) (fun k l _ _ h1 h2=>aJE h1 h2) s l hs hl
theorem aEo (p q:Int->Q):∀ (l s:List QL) (e:Q),(∀ x∈l,0<x.w)->(∀ x∈s,0<x.w)->sm (eP p q) (aW l s e).1+(aW l s e).2=sm (eP p q) s+sm (eP p q) l+e
 | [],s,e,_,_=>by simp only[aW,sm];grind
 | x::l,s,e,hl,hs=>by
  have hx:=hl x (by simp)
  have h1:=aEo p q l (iS s x).1 (e+(iS s x).2) (fun y hy=>hl y (by simp[hy])) (aH7 s x hs hx)
  have h2:=aJ8 p q s x hs hx
  rw[aW,sm]
  grind
theorem aFL:∀ (l s:List QL) (e:Q),(∀ x∈l,0<x.w)->(∀ x∈s,0<x.w)->∀ x∈(aW l s e).1,0<x.w
 | [],s,e,_,hs=>hs
 | x::l,s,e,hl,hs=>by
  rw[aW]
  exact aFL l _ _ (fun y hy=>hl y (by simp[hy])) (aH7 s x hs (hl x (by simp)))
theorem aOQ (p q:Int->Q){v:Int}{l:QL}(h:aCQ v l=true):eP p q (zP v l)=eP p q l:=by
 have h:=of_decide_eq_true h
 unfold zP
 by_cases c:l.a=v
 · rw[if_pos c]
   unfold eP sqQ
   simp only[]
   rw[c]
   grind
 · rw[if_neg c]
   have hb:l.b=v:=h.resolve_left c
   unfold eP sqQ
   simp only[]
   rw[hb]
theorem aG7 (p q:Int->Q)(v:Int):∀ s:List QL,sm (eP p q) s=sm (eP p q) (bF v s)+sm (eP p q) (rU v s)
 | []=>by simp only[bF,rU,List.filter_nil,List.map_nil,sm];grind
 | x::s=>by
  have ih:=aG7 p q v s
  unfold bF rU at ih ⊢
  rw[List.filter_cons,List.filter_cons,sm]
  by_cases c:aCQ v x=true
  · have e:=aOQ p q c
    simp only[c,Bool.not_true,if_true,Bool.false_eq_true,if_false,List.map_cons,sm];grind
  · simp only[c,Bool.not_eq_true,if_false,Bool.not_false,if_true,sm];grind
def app (f:Int->Q)(g:PQ->Q):List PQ->Q
 | []=>0
 | x::r=>x.s*(f x.node+g x)+app f g r
def cdE (p q:Int->Q)(c:CQ):Q:=c.t*sqQ (p c.node-app p (·.x) c.ps) (q c.node-app q (·.y) c.ps)
theorem aN6 (f:Int->Q)(t:Q):∀ a:List QL,app f (·.x) (a.map (wD t))=sm (fun y=>y.w*(f y.a+y.x)) a / t
 | []=>by simp only[List.map_nil,app,sm];grind
 | x::a=>by
  rw[List.map_cons,app,sm,aN6 f t a]
  unfold wD
  simp only[]
  grind
theorem aN5 (f:Int->Q)(t:Q):∀ a:List QL,app f (·.y) (a.map (wD t))=sm (fun y=>y.w*(f y.a+y.y)) a / t
 | []=>by simp only[List.map_nil,app,sm];grind
 | x::a=>by
  rw[List.map_cons,app,sm,aN5 f t a]
  unfold wD
  simp only[]
  grind
section
variable (p q:Int->Q)
def s1x (a:List QL):Q:=sm (fun y=>y.w*(p y.a+y.x)) a
def s1y (a:List QL):Q:=sm (fun y=>y.w*(q y.a+y.y)) a
def s2 (a:List QL):Q:=sm (fun y=>y.w*sqQ (p y.a+y.x) (q y.a+y.y)) a
theorem aL3 (t:Q)(ht:t≠0)(x:QL):∀ a:List QL,sm (eP p q) (a.map (mlQ t x))*t=x.w*(s2 p q a-2*(p x.a+x.x)*s1x p a-2*(q x.a+x.y)*s1y q a+sqQ (p x.a+x.x) (q x.a+x.y)*sm wt a)
 | []=>by simp only[List.map_nil,sm,s2,s1x,s1y];grind
 | y::a=>by
  have ih:=aL3 t ht x a
  unfold s2 s1x s1y at ih ⊢
  rw[List.map_cons,sm,sm,sm,sm,sm,_root_.Rat.add_mul,ih]
  unfold eP mlQ sqQ wt
  simp only[]
  generalize sm (fun y=>y.w*((p y.a+y.x)*(p y.a+y.x)+(q y.a+y.y)*(q y.a+y.y))) a=S2
  generalize sm (fun y=>y.w*(p y.a+y.x)) a=S1
  generalize sm (fun y=>y.w*(q y.a+y.y)) a=S3
  generalize sm (fun l=>l.w) a=S0
  generalize p x.a=px
  generalize p y.a=py
  generalize q x.a=qx
  generalize q y.a=qy
  have e:x.w*y.w / t*((py-px-(x.x-y.x))*(py-px-(x.x-y.x))+(qy-qx-(x.y-y.y))*(qy-qx-(x.y-y.y)))*t=x.w*y.w*((py-px-(x.x-y.x))*(py-px-(x.x-y.x))+(qy-qx-(x.y-y.y))*(qy-qx-(x.y-y.y))):=by grind
  rw[e]
  grind
theorem aJJ (t:Q)(ht:t≠0):∀ a:List QL,sm (eP p q) (kO t a)*t=sm wt a*s2 p q a-s1x p a*s1x p a-s1y q a*s1y q a
 | []=>by simp only[kO,sm,s2,s1x,s1y];grind
 | x::a=>by
  have ih:=aJJ t ht a
  have h:=aL3 p q t ht x a
  rw[kO,pU,_root_.Rat.add_mul,ih,h]
  unfold s2 s1x s1y
  rw[sm,sm,sm,sm]
  unfold wt sqQ
  grind
theorem aJ4 (v:Int):∀ a:List QL,(∀ x∈a,x.b=v)->sm (eP p q) a=sm wt a*sqQ (p v) (q v)-2*p v*s1x p a-2*q v*s1y q a+s2 p q a
 | [],_=>by simp only[sm,s2,s1x,s1y];grind
 | x::a,h=>by
  have ih:=aJ4 v a (fun y hy=>h y (by simp[hy]))
  have hx:=h x (by simp)
  unfold s2 s1x s1y at ih ⊢
  rw[sm,sm,sm,sm,sm,ih]
  unfold eP wt sqQ
  rw[hx]
  grind
theorem aM9 {v:Int}{a:List QL}(hb:∀ x∈a,x.b=v)(h:sm wt a≠0):sm (eP p q) a=cdE p q (pJ v a)+sm (eP p q) (kO (sm wt a) a):=by
 have h1:=aJJ p q (sm wt a) h a
 have h2:=aJ4 p q v a hb
 unfold cdE pJ
 simp only[]
 rw[aN6,aN5,h2]
 have e1:sm (fun y=>y.w*(p y.a+y.x)) a=s1x p a:=rfl
 have e2:sm (fun y=>y.w*(q y.a+y.y)) a=s1y q a:=rfl
 rw[e1,e2]
 unfold sqQ
 have h3:sm (eP p q) (kO (sm wt a) a)=(sm wt a*s2 p q a-s1x p a*s1x p a-s1y q a*s1y q a) / sm wt a:=by grind
 rw[h3]
 grind
end
theorem aOP (v:Int)(s:List QL):∀ x∈bF v s,x.b=v:=by
 intro x hx
 obtain⟨l,_,_,rfl⟩:=tL.1 hx
 unfold zP
 split <;> rfl
theorem aHt {t:Q}(ht:0<t):∀ {a:List QL},(∀ x∈a,0<x.w)->∀ z∈kO t a,0<z.w
 | x::a,h,z,hz=>by
  rw[kO,List.mem_append]at hz
  rcases hz with hz | hz
  · obtain⟨y,hy,rfl⟩:=List.mem_map.1 hz
    have h1:=_root_.Rat.mul_pos (h x (by simp)) (h y (by simp[hy]))
    show 0<x.w*y.w / t
    rw[_root_.Rat.lt_div_iff ht];grind
  · exact aHt ht (fun y hy=>h y (by simp[hy])) z hz
theorem aNk (p q:Int->Q){l:List QL}{o:List Int}{v:Int}{b:List NQ}(hp:∀ x∈l.filter (mW o v)++mC v b,0<x.w)(hW:0<sm wt (bF v (aW (l.filter (mW o v)++mC v b) [] 0).1)) :
 sm (eP p q) (l.filter (mW o v))+sm (eP p q) (mC v b)=cdE p q (nxt l o v b).cond+(nxt l o v b).enQ+sm (eP p q) (nxt l o v b).msgs:=by
 generalize hF:l.filter (mW o v)++mC v b=F at hp hW
 have h1:=aEo p q F [] 0 hp (by simp)
 have p1:=aFL F [] 0 hp (by simp)
 have h2:=aG7 p q v (aW F [] 0).1
 have h3:=aM9 p q (aOP v (aW F [] 0).1) (by grind)
 have pa:∀ x∈bF v (aW F [] 0).1,0<x.w:=fun x hx=>by
  obtain⟨y,hy,_,rfl⟩:=tL.1 hx
  rw[aB3];exact p1 y hy
 have pn:∀ x∈gX v (aW F [] 0).1,0<x.w:=fun x hx=>by
  rcases List.mem_append.1 hx with hx | hx
  · exact p1 x (xP.1 hx).1
  · exact aHt hW pa x hx
 have h4:=aEo p q (gX v (aW F [] 0).1) [] 0 pn (by simp)
 have h5:sm (eP p q) (gX v (aW F [] 0).1)=sm (eP p q) (rU v (aW F [] 0).1)+sm (eP p q) (kO (sm wt (bF v (aW F [] 0).1)) (bF v (aW F [] 0).1)):=pU _ _ _
 have e1:(nxt l o v b).cond=pJ v (bF v (aW F [] 0).1):=by rw[<- hF];rfl
 have e2:(nxt l o v b).enQ=(aW F [] 0).2+(aW (gX v (aW F [] 0).1) [] 0).2:=by rw[<- hF];rfl
 have e3:(nxt l o v b).msgs=(aW (gX v (aW F [] 0).1) [] 0).1:=by rw[<- hF];rfl
 have e4:sm (eP p q) F=sm (eP p q) (l.filter (mW o v))+sm (eP p q) (mC v b):=by rw[<- hF];exact pU _ _ _
 rw[e1,e2,e3]
 simp only[sm]at h1 h4
 grind
end Go.Ev
/- Parents of parents; the nodes of a tree by their place. -/
namespace Go.Ev
set_option linter.all false
theorem aFm (l:List QL)(o:List Int)(q:List Int)(b:List NQ):(bR l o q b).length=b.length+q.length:=by
 have:=congrArg List.length (wH l o q b)
 simpa using this
theorem aKr (l:List QL)(o:List Int):(lG l o).fNodes.length=o.length:=by
 show((bR l o o []).map NQ.toN).length=_
 rw[List.length_map,aFm];simp
end Go.Ev
/- The energies of a tree at positions; its solution. -/
namespace Go.Ev
set_option linter.all false
def sn (f:NQ->Q):List NQ->Q
 | []=>0
 | x::l=>f x+sn f l
theorem aLb (f:NQ->Q):∀ a b:List NQ,sn f (a++b)=sn f a+sn f b
 | [],b=>by simp only[List.nil_append,sn];grind
 | x::a,b=>by rw[List.cons_append,sn,sn,aLb f a b,_root_.Rat.add_assoc]
theorem aLc (f g:NQ->Q):∀ a:List NQ,sn (fun n=>f n+g n) a=sn f a+sn g a
 | []=>by simp only[sn];grind
 | x::a=>by rw[sn,sn,sn,aLc f g a];grind
theorem aFo {f:NQ->Q}:∀ {l:List NQ},(∀ x∈l,0<=f x)->0<=sn f l
 | [],_=>by simp[sn]
 | x::l,h=>by
  have h1:=h x (by simp)
  have h2:=aFo (f:=f) (l:=l) (fun y hy=>h y (by simp[hy]))
  rw[sn];grind
theorem aLa {f:NQ->Q}:∀ {l:List NQ},(∀ x∈l,0<=f x)->sn f l<=0->∀ x∈l,f x=0
 | y::l,h,h0,x,hx=>by
  have h1:=h y (by simp)
  have h2:=aFo (f:=f) (l:=l) (fun y hy=>h y (by simp[hy]))
  rw[sn]at h0
  rcases List.mem_cons.1 hx with rfl | hx
  · grind
  · exact aLa (fun y hy=>h y (by simp[hy])) (by grind) x hx
section
variable {l:List QL}{o pre r:List Int}{v:Int}{b:List NQ}
theorem aLO (hb:Base l o)(hi:TInv l o pre (v::r) b):∀ x∈(nxt l o v b).msgs,x.a∈psN (nxt l o v b).cond/\x.b∈psN (nxt l o v b).cond/\x.a<x.b:=by
 obtain⟨n,h1,hv,v1,v9,hl,nV,hV⟩:=hi.facts hb
 have hinc:=hi.inc hb
 obtain⟨c1,c2,c3,c4,c5,c6,c7⟩:=aLR (order:=o) hinc
 have hsp:=hi.split
 intro x hx
 have hj:=(hinc.join).2.1
 refine⟨?_,?_,(c5 x hx).2.2.2⟩
 all_goals
  obtain⟨y,hy,e1,e2⟩:=sI _ [] 0 x hx
  have hy:=hy.resolve_left (by simp)
  rcases List.mem_append.1 hy with hy | hy
  · obtain⟨m1,m2,m3⟩:=xP.1 hy
    obtain⟨z,hz,f1,f2⟩:=sI _ [] 0 y m1
    have hz:=hz.resolve_left (by simp)
    rcases List.mem_append.1 hz with hz | hz
    · exfalso
      have:=(List.mem_filter.1 hz).2
      rw[hsp]at this
      have:=((aBH n h1).1 this).1
      omega
    · obtain⟨c,hc,hu2,hz⟩:=vG.1 hz
      obtain⟨_,hk⟩:=hi.kid_ps hb hc hu2
      obtain⟨_,_,p3,_⟩:=hi.ps c hc (by rw[hu2];simp)
      have g1:=(p3 z hz).1
      have g2:=(p3 z hz).2.1
      rw[f1,e1]at g1
      rw[f2,e2]at g2
      first | exact hk _ g1 (by omega) | exact hk _ g2 (by omega)
  · obtain⟨_,_,_,_,⟨y1,hy1,q1⟩,y2,hy2,q2⟩:=hj.arms.each hy
    have e:psN (nxt l o v b).cond=(bF v (aW (l.filter (mW o v)++mC v b) [] 0).1).map fun x=>x.a:=aBD v _
    rw[e]
    first | exact List.mem_map.2 ⟨y1,hy1,q1.trans e1⟩ | exact List.mem_map.2 ⟨y2,hy2,q2.trans e2⟩
theorem aLP (hb:Base l o)(hi:TInv l o pre (v::r) b)(h:(nxt l o v b).up∉r):(nxt l o v b).msgs=[]:=by
 rw[List.eq_nil_iff_forall_not_mem]
 intro x hx
 obtain⟨h1,h2,h3⟩:=aLO hb hi x hx
 by_cases c:x.b=0
 · have:=hi.nxt_rem hb _ h1
   have h5:0<=x.a:=by
    rcases List.mem_cons.1 this.1 with g | g
    · omega
    · have:=(hi.facts hb).2.1 x.a (by simp[g]);omega
   omega
 · exact h (hi.nxt_up hb h2 c)
theorem aFO (hb:Base l o)(hi:TInv l o pre (v::r) b):(∀ x∈l.filter (mW o v)++mC v b,0<x.w)/\0<sm wt (bF v (aW (l.filter (mW o v)++mC v b) [] 0).1):=by
 have hinc:=hi.inc hb
 exact⟨fun x hx=>(hinc.lk x hx).1.sc.1,(hinc.join).2.1.arms.pos⟩
theorem aJo (p q:Int->Q)(hb:Base l o)(hg:Grounded l o):∀ (n:Nat) (pre rem:List Int),pre.length=n->o=pre++rem->
 sm (eP p q) (l.filter fun x=>decide (aP o [x.a,x.b]∈pre))=sn (fun n=>cdE p q n.cond+n.enQ) (bR l o pre [])+sm (eP p q) (jD ((bR l o pre []).filter (pY rem)))
 | 0,pre,rem,hn,e=>by
  have:pre=[]:=List.length_eq_zero_iff.1 hn
  subst this
  have e1:(l.filter fun x=>decide (aP o [x.a,x.b]∈([]:List Int)))=[]:=by simp
  rw[e1]
  simp only[bR,List.filter_nil,jD,List.flatMap_nil,sm,sn]
  grind
 | n+1,pre,rem,hn,e=>by
  rcases List.eq_nil_or_concat pre with rfl | ⟨q',v,rfl⟩
  · simp at hn
  rw[List.concat_eq_append]at hn e ⊢
  have eo:o=q'++v::rem:=by rw[e,List.append_assoc];rfl
  have ih:=aJo p q hb hg n q' (v::rem) (by simpa using hn) eo
  have ti:=TInv.at hb hg q'.length q' (v::rem) rfl eo
  obtain⟨nd,h1,hv,v1,v9,hl,nV,hV⟩:=ti.facts hb
  obtain⟨fp1,fp2⟩:=aFO hb ti
  have hN:=aNk p q fp1 fp2
  rw[sA,aLb]
  simp only[sn]
  have vq:v∉q':=fun h=>by
   have:=hb.nd
   rw[eo]at this
   exact(List.nodup_append.1 this).2.2 v h v (by simp) rfl
  have s1:sm (eP p q) (l.filter fun x=>decide (aP o [x.a,x.b]∈q'++[v]))=sm (eP p q) (l.filter fun x=>decide (aP o [x.a,x.b]∈q'))+sm (eP p q) (l.filter (mW o v)):=by
   rw[aBy (eP p q) (fun x=>decide (aP o [x.a,x.b]∈q')),List.filter_filter,List.filter_filter]
   congr 2
   · refine List.filter_congr fun x _=>?_
     by_cases c:aP o [x.a,x.b]∈q' <;> simp[c]
   · refine List.filter_congr fun x _=>?_
     unfold mW
     by_cases c:aP o [x.a,x.b]=v
     · simp[c,vq]
     · by_cases d:aP o [x.a,x.b]∈q' <;> simp[c,d]
  have s2:sm (eP p q) (jD ((bR l o q' []).filter (pY (v::rem))))=sm (eP p q) (mC v (bR l o q' []))+sm (eP p q) (jD ((bR l o q' []).filter (pY rem))):=by
   rw[aBm (eP p q) (kid v),aEj,aCn hv]
   rfl
  have s3:sm (eP p q) (jD ((bR l o q' []++[nxt l o v (bR l o q' [])]).filter (pY rem)))=sm (eP p q) (jD ((bR l o q' []).filter (pY rem)))+sm (eP p q) (nxt l o v (bR l o q' [])).msgs:=by
   unfold jD
   rw[List.filter_append,List.flatMap_append,pU,List.filter_cons,List.filter_nil]
   by_cases c:(nxt l o v (bR l o q' [])).up∈rem
   · have:pY rem (nxt l o v (bR l o q' []))=true:=decide_eq_true c
     rw[if_pos this,List.flatMap_cons,List.flatMap_nil,List.append_nil]
   · have:¬pY rem (nxt l o v (bR l o q' []))=true:=fun h=>c (of_decide_eq_true h)
     rw[if_neg this,aLP hb ti c,List.flatMap_nil]
  rw[s1,s3,ih,s2]
  grind
end
theorem aIl (p q:Int->Q){l:List QL}{o:List Int}(h:Tie l o):sm (eP p q) l=sn (fun n=>cdE p q n.cond) (bR l o o [])+sn (fun n=>n.enQ) (bR l o o []):=by
 have e:=aJo p q h.base h.gr o.length o [] rfl (by simp)
 have e1:(l.filter fun x=>decide (aP o [x.a,x.b]∈o))=l:=List.filter_eq_self.2 fun x hx=>decide_eq_true (h.owner x hx)
 have e2:(bR l o o []).filter (pY [])=[]:=List.filter_eq_nil_iff.2 fun c _ hc=>by have:=of_decide_eq_true hc;simp at this
 rw[e1,e2,aLc]at e
 rw[e]
 simp only[jD,List.flatMap_nil,sm]
 grind
def sol (g:PQ->Q):List NQ->Int->Q
 | [],_=>0
 | n::r,u=>if u=n.node then app (sol g r) g n.cond.ps else sol g r u
theorem aFX {f f':Int->Q}(g:PQ->Q):∀ {ps:List PQ},(∀ x∈ps,f x.node=f' x.node)->app f g ps=app f' g ps
 | [],_=>rfl
 | x::r,h=>by rw[app,app,h x (by simp),aFX g fun y hy=>h y (by simp[hy])]
def Dn (b:List NQ):Prop:=b.Pairwise (fun n c=>n.node∉psN c.cond/\n.node≠c.node)/\∀ n∈b,n.node∉psN n.cond/\n.cond.node=n.node
theorem Dn.tail {n:NQ}{r:List NQ}(h:Dn (n::r)):Dn r:=⟨(List.pairwise_cons.1 h.1).2,fun c hc=>h.2 c (by simp[hc])⟩
theorem aJr (g:PQ->Q):∀ (b:List NQ) (u:Int),(∀ n∈b,n.node≠u)->sol g b u=0
 | [],_,_=>rfl
 | n::r,u,h=>by rw[sol,if_neg (fun e=>h n (by simp) e.symm),aJr g r u fun c hc=>h c (by simp[hc])]
theorem aGc (g:PQ->Q)(p:Int->Q):∀ {b:List NQ},Dn b->(∀ n∈b,p n.node=app p g n.cond.ps)->(∀ n∈b,∀ u∈psN n.cond,(∃ c∈b,c.node=u)\/p u=0)->∀ n∈b,p n.node=sol g b n.node
 | c::r,h,hp,hu,n,hn=>by
  have hpw:=(List.pairwise_cons.1 h.1).1
  have ih:=aGc g p h.tail (fun m hm=>hp m (by simp[hm])) (fun m hm u hu'=>by
   rcases hu m (by simp[hm]) u hu' with⟨d,hd,e⟩ | h0
   · rcases List.mem_cons.1 hd with rfl | hd
     · exact absurd (e▸hu') (hpw m hm).1
     · exact .inl ⟨d,hd,e⟩
   · exact .inr h0)
  rcases List.mem_cons.1 hn with rfl | hn
  · rw[hp n (by simp),sol,if_pos rfl]
    refine aFX g fun x hx=>?_
    have hm:x.node∈psN n.cond:=List.mem_map_of_mem hx
    by_cases c1:∃ d∈r,d.node=x.node
    · obtain⟨d,hd,e⟩:=c1
      rw[<- e];exact ih d hd
    · rw[aJr g r _ fun d hd e=>c1 ⟨d,hd,e⟩]
      rcases hu n (by simp) _ hm with⟨d,hd,e⟩ | h0
      · rcases List.mem_cons.1 hd with rfl | hd
        · exact absurd (e▸hm) (h.2 d (by simp)).1
        · exact absurd ⟨d,hd,e⟩ c1
      · exact h0
  · rw[sol,if_neg (fun e=>(hpw n hn).2 e.symm)]
    exact ih n hn
theorem aK8 (x:Q):0<=x*x:=by
 rcases Std.le_total (a:=0) (b:=x)with h | h
 · exact _root_.Rat.mul_nonneg h h
 · have:=_root_.Rat.mul_nonneg (a:=-x) (b:=-x) (by grind) (by grind)
   grind
end Go.Ev
/- Two trees of the same links: the same solution, the same energy. -/
namespace Go.Ev
set_option linter.all false
theorem aJp {l:List QL}{o:List Int}(h:Tie l o):∀ (n:Nat) (pre rem:List Int),pre.length=n->o=pre++rem->
 Dn (bR l o pre [])/\∀ c∈bR l o pre [],c.node∈pre/\0<c.cond.t/\∀ u∈psN c.cond,u=0\/u∈o
 | 0,pre,rem,hn,e=>by
  have:pre=[]:=List.length_eq_zero_iff.1 hn
  subst this
  exact⟨⟨List.Pairwise.nil,by simp[bR]⟩,by simp[bR]⟩
 | n+1,pre,rem,hn,e=>by
  rcases List.eq_nil_or_concat pre with rfl | ⟨q,v,rfl⟩
  · simp at hn
  rw[List.concat_eq_append]at hn e ⊢
  have eo:o=q++v::rem:=by rw[e,List.append_assoc];rfl
  obtain⟨⟨i1,i2⟩,i3⟩:=aJp h n q (v::rem) (by simpa using hn) eo
  have ti:=TInv.at h.base h.gr q.length q (v::rem) rfl eo
  obtain⟨fp1,fp2⟩:=aFO h.base ti
  have hrem:=ti.nxt_rem h.base
  have nd:=h.nd
  rw[eo]at nd
  have nd2:=List.nodup_append.1 nd
  rw[sA]
  refine⟨⟨?_,?_⟩,?_⟩
  · rw[List.pairwise_append]
    refine⟨i1,by simp,fun c hc d hd=>?_⟩
    rw[List.mem_singleton.1 hd]
    have cq:=(i3 c hc).1
    have c1:=(h.five c.node (by rw[eo];simp[cq])).1
    refine⟨fun hm=>?_,fun e=>?_⟩
    · rcases List.mem_cons.1 (hrem _ hm).1 with g | g
      · omega
      · exact nd2.2.2 _ cq _ (List.mem_cons_of_mem _ g) rfl
    · have:c.node=v:=e
      exact nd2.2.2 _ cq _ (by simp) this
  · intro c hc
    rcases List.mem_append.1 hc with hc | hc
    · exact i2 c hc
    · rw[List.mem_singleton.1 hc]
      exact⟨fun hm=>(hrem _ hm).2 rfl,rfl⟩
  · intro c hc
    rcases List.mem_append.1 hc with hc | hc
    · obtain⟨g1,g2,g3⟩:=i3 c hc
      exact⟨by simp[g1],g2,g3⟩
    · rw[List.mem_singleton.1 hc]
      refine⟨by simp[show(nxt l o v (bR l o q [])).node=v from rfl],fp2,fun u hu=>?_⟩
      rcases List.mem_cons.1 (hrem u hu).1 with g | g
      · exact .inl g
      · exact .inr (by rw[eo];simp[g])
theorem Tie.dn {l:List QL}{o:List Int}(h:Tie l o):Dn (bR l o o [])/\∀ c∈bR l o o [],c.node∈o/\0<c.cond.t/\∀ u∈psN c.cond,u=0\/u∈o:=aJp h o.length o [] rfl (by simp)
theorem tA {l:List QL}{o:List Int}{u:Int}(h:u∈o):∃ c∈bR l o o [],c.node=u:=by
 have e:=wH l o o []
 have:u∈(bR l o o []).map (fun n=>n.node):=by rw[e];simpa using h
 obtain⟨c,hc,e2⟩:=List.mem_map.1 this
 exact⟨c,hc,e2⟩
end Go.Ev
/- Positions have few digits. -/
namespace Go.Ev
set_option linter.all false
def aMT (k:Nat)(n:NQ):Prop:=∃ (D X:Nat) (a:List QL),n.cond=pJ n.node a/\Arms D X n.node a/\72*D<=ex k
def zA:Nat->List NQ->Prop
 | _,[]=>True
 | k,n::r=>aMT k n/\zA (k+1) r
theorem aCO {n:NQ}:∀ {k:Nat} {b:List NQ},zA k b->aMT (k+b.length) n->zA k (b++[n])
 | k,[],_,h=>⟨by simpa using h,trivial⟩
 | k,m::r,h,g=>⟨h.1,aCO h.2 (by rw[List.length_cons]at g;rw[show k+1+r.length=k+(r.length+1)by omega];exact g)⟩
theorem aCP {n:NQ}:∀ {k:Nat} {a b:List NQ},zA k (a++b)->zA (k+a.length) b
 | k,[],b,h=>h
 | k,m::a,b,h=>by
  have:=aCP (n:=n) (k:=k+1) (a:=a) h.2
  rw[List.length_cons,show k+(a.length+1)=k+1+a.length by omega];exact this
section
variable {l:List QL}{o pre r:List Int}{v:Int}{b:List NQ}
theorem aOJ (hb:Base l o)(hi:TInv l o pre (v::r) b):72*aAU v b<=ex b.length:=by
 obtain⟨k1,k2,k3⟩:=hi.kids
 have hH:dS (fun c:NQ=>72*c.den) (b.filter (kid v))<=ex b.length:=Nat.le_trans (Nat.le_trans (Nat.le_mul_of_pos_right _ k2) k1) (aIT _)
 have ex72:72<=ex b.length:=by
  unfold ex
  have:1<=2 ^ b.length:=Nat.one_le_two_pow
  calc 72=72 ^ 1:=rfl
   _<=_:=Nat.pow_le_pow_right (by omega) this
 by_cases c:b.filter (kid v)=[]
 · have:aAU v b=1:=by
    have e:aAU v b=dS (fun c:NQ=>c.den) (b.filter (kid v)):=rfl
    rw[e,c];rfl
   rw[this];omega
 · exact Nat.le_trans (aBE _ _ c) hH
theorem aKp (hb:Base l o)(hi:TInv l o pre (v::r) b):aMT b.length (nxt l o v b) :=
 ⟨aAU v b,20*2 ^ b.length,bF v (aW (l.filter (mW o v)++mC v b) [] 0).1,rfl,((hi.inc hb).join).2.1.arms,aOJ hb hi⟩
theorem aCw (hb:Base l o)(hg:Grounded l o):∀ (n:Nat) (pre rem:List Int),pre.length=n->o=pre++rem->zA 0 (bR l o pre [])
 | 0,pre,rem,hn,e=>by
  have:pre=[]:=List.length_eq_zero_iff.1 hn
  subst this
  exact trivial
 | n+1,pre,rem,hn,e=>by
  rcases List.eq_nil_or_concat pre with rfl | ⟨q,v,rfl⟩
  · simp at hn
  rw[List.concat_eq_append]at hn e ⊢
  have eo:o=q++v::rem:=by rw[e,List.append_assoc];rfl
  have ih:=aCw hb hg n q (v::rem) (by simpa using hn) eo
  have ti:=TInv.at hb hg q.length q (v::rem) rfl eo
  rw[sA]
  refine aCO ih ?_
  rw[Nat.zero_add]
  exact aKp hb ti
end
def epr:Nat->Nat->Nat
 | _,0=>1
 | k,n+1=>ex k*epr (k+1) n
theorem aMs {k n:Nat}(h:k+n<=5):epr k n<=PP ^ 2:=by
 have:∀ k,k<=5->∀ n,n<=5-k->epr k n<=PP ^ 2:=by unfold PP;decide
 exact this k (by omega) n (by omega)
structure Co (g:PQ->Q)(gl:QL->Q):Prop where
 par:∀ t a,g (wD t a)=gl a
 lk:∀ {D X:Nat} {y:QL},0<D->Lk D X y->bd X (gl y)/\Dv D (y.w*gl y)/\Dv (nm D y.w) (gl y)
def aGU (T M:Nat)(f:Int->Q):Prop:=0<T/\∀ u,Dv T (f u)/\bd M (f u)
def pS (f:Int->Q)(gl:QL->Q)(a:List QL):Q:=sm (fun y=>y.w*(f y.a+gl y)) a
theorem aN7 {g:PQ->Q}{gl:QL->Q}(hg:Co g gl)(f:Int->Q)(t:Q):∀ a:List QL,app f g (a.map (wD t))=pS f gl a / t
 | []=>by simp only[List.map_nil,app,pS,sm];grind
 | x::a=>by
  have ih:=aN7 hg f t a
  unfold pS at ih ⊢
  rw[List.map_cons,app,sm,ih,hg.par]
  unfold wD
  simp only[]
  grind
theorem aJn {g:PQ->Q}{gl:QL->Q}(hg:Co g gl){f:Int->Q}{T M D X:Nat}(hf:aGU T M f)(hD:0<D):∀ a:List QL,(∀ x∈a,Lk D X x)->Dv (D*T) (pS f gl a)/\-((M+X:Nat):Q)*sm wt a<=pS f gl a/\pS f gl a<=((M+X:Nat):Q)*sm wt a
 | [],_=>by
  unfold pS
  simp only[sm]
  exact⟨⟨0,by simp⟩,by grind,by grind⟩
 | y::a,h=>by
  obtain⟨i1,i2,i3⟩:=aJn hg hf hD a (fun x hx=>h x (by simp[hx]))
  have hy:=h y (by simp)
  obtain⟨g1,g2,g3⟩:=hg.lk hD hy
  obtain⟨f1,f2⟩:=hf.2 y.a
  have b:=aDo hy.sc.1 (uA f2 g1)
  unfold pS at i1 i2 i3 ⊢
  rw[sm,sm]
  have e:y.w*(f y.a+gl y)=y.w*f y.a+y.w*gl y:=by grind
  refine⟨iL ?_ i1,?_,?_⟩
  · rw[e]
    exact iL (uD hy.sc.2.1 f1) (rR T g2)
  · unfold wt at i2 ⊢;grind
  · unfold wt at i3 ⊢;grind
theorem aJz {g:PQ->Q}{gl:QL->Q}(hg:Co g gl){f:Int->Q}{T M D X:Nat}{v:Int}{a:List QL}(hf:aGU T M f)(h:Arms D X v a){a1:List QL}(h1:∀ x∈a1,Lk D X x)(hle:sm wt a1<=sm wt a) :
 Dv (nm D (sm wt a)*T) (pS f gl a1 / sm wt a)/\bd (M+X) (pS f gl a1 / sm wt a):=by
 have hp:=h.pos
 have hN:=(wO h.hD hp (uX h.lk)).1
 obtain⟨d1,d2,d3⟩:=aJn hg hf h.hD a1 h1
 have n1:=jO h1
 have nn:=sE (M+X)
 have m2:=_root_.Rat.mul_nonneg nn (b:=sm wt a-sm wt a1) (by grind)
 constructor
 · obtain⟨z,hz⟩:=d1
   refine⟨z,?_⟩
   rw[_root_.Rat.natCast_mul,hN,<- hz,_root_.Rat.natCast_mul]
   grind
 · have k1:-((M+X:Nat):Q)*sm wt a<=pS f gl a1:=by
    generalize ((M+X:Nat):Q)=K at *
    grind
   have k2:pS f gl a1<=((M+X:Nat):Q)*sm wt a:=by
    generalize ((M+X:Nat):Q)=K at *
    grind
   exact aCq hp k1 k2
theorem aBF {g:PQ->Q}{gl:QL->Q}(hg:Co g gl){f:Int->Q}{T M D X:Nat}{v:Int}{a:List QL}(hf:aGU T M f)(h:Arms D X v a){a1 a2:List QL}(e:a=a1++a2) :
 Dv (nm D (sm wt a)*T) (pS f gl a1 / sm wt a)/\bd (M+X) (pS f gl a1 / sm wt a):=by
 have h2:∀ x∈a2,Lk D X x:=fun x hx=>h.lk x (by rw[e];simp[hx])
 have n2:=jO h2
 have es:sm wt a=sm wt a1+sm wt a2:=by rw[e,pU]
 exact aJz hg hf h (fun x hx=>h.lk x (by rw[e];simp[hx])) (by grind)
end Go.Ev
/- A conditional applied: the program. -/
namespace Go.Ev
set_option linter.all false
set_option maxHeartbeats 1000000
theorem aHd {p q:Q}(hp:bN p)(hq:bN q)(h:bN (p+q)):bH (ofQ p) (ofQ q)=some (ofQ (p+q)):=by
 have e:=(wC (jN hp) (jN hq)).2.1
 rw[aEN hp hq h]at e;exact e
theorem aLw {p q:Q}(hp:bN p)(hq:bN q)(h:bN (p*q)):bM (ofQ p) (ofQ q)=some (ofQ (p*q)):=by
 have e:=(zQ (jN hp) (jN hq)).2.1
 rw[aEM hp hq h]at e;exact e
theorem aNj {p:Q}(hp:bN p):fT (ofQ p)=some true:=by
 have:=lA (jN hp)
 rw[xW _ (by omega),decide_eq_true (oS hp)]
theorem aMj {p:Q}(hp:bN p):cM (ofQ p)=some true:=by
 rw[gQ (jN hp),decide_eq_true (oS hp)]
theorem aIc {p q:Q}(hp:bN p)(hq:bN q)(h:bN (p+q)):qJ (ofQ p) (ofQ q)=some (ofQ (p+q)):=by
 unfold qJ
 rw[aNj hp,aNj hq]
 simp only[Option.bind_some,if_true,Bool.not_true,Bool.false_eq_true,if_false]
 rw[aHd hp hq h]
 rfl
theorem aKY (f:Int->Q)(gl:QL->Q)(a b:List QL):pS f gl (a++b)=pS f gl a+pS f gl b:=pU _ _ _
end Go.Ev
/- A tree solved: the program. -/
namespace Go.Ev
set_option linter.all false
set_option maxHeartbeats 1000000
def qE (b:List NQ):List Conditional:=b.map fun n=>n.cond.toC
structure NetB (b:List NQ):Prop where
 dn:Dn b
 len:b.length<=5
 nb:zA 0 b
 each:∀ n∈b,cO n.cond.toC=some true/\(1<=n.node/\n.node<=9)/\∀ u∈psN n.cond,u=0\/∃ c∈b,c.node=u
theorem Tie.netB {l:List QL}{o:List Int}(h:Tie l o):NetB (bR l o o []):=by
 obtain⟨d,f⟩:=h.dn
 refine⟨d,?_,aCw h.base h.gr o.length o [] rfl (by simp),fun n hn=>⟨?_,?_,fun u hu=>?_⟩⟩
 · rw[aFm];have:=h.base.len;simpa using this
 · have hm:n.toN∈(lG l o).fNodes:=List.mem_map_of_mem hn
   obtain⟨_,n2,n3⟩:=(aDr h.isTree).2 _ hm
   have ec:n.toN.fCond=n.cond.toC:=rfl
   rw[ec]at n2 n3
   obtain⟨b,v1,v2,_⟩:=aGT n.cond.toC (by omega)
   rw[n2]at v1
   rw[v2,<- Option.some.inj v1]
 · have:=h.five _ (f n hn).1
   omega
 · exact((f n hn).2.2 u hu).imp id tA
theorem aFB (c:CQ):c.toC.fParents.map (·.fNode)=psN c:=by
 unfold CQ.toC psN
 simp only[List.map_map]
 rfl
theorem aLH (c:Conditional)(N:List Int)(h:∀ q∈c.fParents,q.fNode∈N)(hz:N.length<=4294967296)(hs:c.fParents.length<=4294967296):lp (mQ c N) 0=some (.inl ()):=by
 have main:∀ m k:Nat,m+k=c.fParents.length->lp (mQ c N) (k:Int)=some (.inl ()):=by
  intro m
  induction m with
  | zero=>intro k hk;exact aI (by unfold mQ;rw[if_neg (by omega)])
  | succ m ih =>
   intro k hk
   have hlt:k<c.fParents.length:=by omega
   rw[aR (s':=((k+1:Nat):Int))]
   · exact ih (k+1) (by omega)
   · unfold mQ
     rw[if_pos (by omega),aJ hlt]
     simp only[Option.bind_some]
     rw[aAm _ _ hz,decide_eq_true (h _ (List.getElem_mem hlt))]
     simp only[Option.bind_some,if_true]
     rw[wi (n:=(k:Int)+1) (by omega)];rfl
 exact main _ 0 (Nat.add_zero _)
section
variable {b:List NQ}
theorem NetB.sp {b1 r:List NQ}{n:NQ}(h:NetB b)(e:b=b1++n::r):n.node∉r.map (fun c=>c.node)/\(∀ u∈psN n.cond,u=0\/∃ c∈r,c.node=u)/\n.cond.node=n.node:=by
 have hp:=h.dn.1
 have hm:n∈b:=by rw[e];simp
 rw[e,List.pairwise_append,List.pairwise_cons]at hp
 obtain⟨p1,⟨p2,p3⟩,p4⟩:=hp
 refine⟨fun hr=>?_,fun u hu=>?_,(h.dn.2 n hm).2⟩
 · obtain⟨c,hc,ec⟩:=List.mem_map.1 hr
   exact(p2 c hc).2 ec.symm
 · rcases(h.each n hm).2.2 u hu with h0 | ⟨c,hc,ec⟩
   · exact .inl h0
   · right
     rw[e]at hc
     rcases List.mem_append.1 hc with hc | hc
     · exact absurd (ec▸hu) (p4 c hc n (by simp)).1
     · rcases List.mem_cons.1 hc with rfl | hc
       · exact absurd (ec▸hu) (h.dn.2 c hm).1
       · exact⟨c,hc,ec⟩
theorem NetB.isNet (h:NetB b):sN (qE b)=some true:=by
 have hlen:=h.len
 have nl:(qE b).length=b.length:=by unfold qE;rw[List.length_map]
 have main:∀ (n:Nat) (b1 r:List NQ),b1.length=n->b=b1++r->lp (mP (qE b)) ((b1.length:Int)-1,0::(r.map fun c=>c.node).reverse)=some (.inl ()):=by
  intro n
  induction n with
  | zero =>
   intro b1 r hn e
   have:b1=[]:=List.length_eq_zero_iff.1 hn
   subst this
   exact aI (by unfold mP;simp only[];rw[if_neg (by simp)])
  | succ n ih =>
   intro b1 r hn e
   rcases List.eq_nil_or_concat b1 with rfl | ⟨b2,x,rfl⟩
   · simp at hn
   rw[List.concat_eq_append]at hn e ⊢
   have e2:b=b2++x::r:=by rw[e,List.append_assoc];rfl
   obtain⟨s1,s2,s3⟩:=h.sp e2
   obtain⟨v1,v2,_⟩:=h.each x (by rw[e2];simp)
   have bl:b.length=b2.length+(r.length+1):=by rw[e2];simp
   have el:(((b2++[x]).length:Nat):Int)-1=(b2.length:Int):=by rw[List.length_append,List.length_singleton];omega
   have lt:b2.length<(qE b).length:=by rw[nl,e2];simp
   have hg:(qE b)[b2.length]=x.cond.toC:=by
    unfold qE
    simp only[List.getElem_map,e2]
    simp
   have hN:(0::(r.map fun c=>c.node).reverse).length<=10:=by
    have:b.length=b2.length+(r.length+1):=by rw[e2];simp
    simp;omega
   have hfn:x.cond.toC.fNode=x.node:=s3
   have hpl:x.cond.toC.fParents.length<=100:=by
    obtain⟨D,X,a,e3,ha,_⟩:=(aCP (n:=x) (k:=0) (a:=b2) (b:=x::r) (by rw[<- e2];exact h.nb)).1
    have:=aEr ha.inc fun x hx=>(ha.nd x hx).1
    rw[e3];unfold CQ.toC pJ;simp;omega
   rw[el]
   have st:mP (qE b) ((b2.length:Int),0::(r.map fun c=>c.node).reverse)=some (.inl ((b2.length:Int)-1,0::((x::r).map fun c=>c.node).reverse)):=by
    unfold mP
    simp only[]
    rw[if_pos (by omega),aJ lt,hg]
    simp only[Option.bind_some]
    rw[v1]
    simp only[Option.bind_some,if_true]
    rw[hfn,aAm _ _ (by omega),decide_eq_false (by
     intro hm
     rcases List.mem_cons.1 hm with h0 | hm
     · omega
     · exact s1 (List.mem_reverse.1 hm))]
    simp only[Option.bind_some,Bool.false_eq_true,if_false]
    rw[aLH _ _ (fun q hq=>by
     have:q.fNode∈psN x.cond:=by rw[<- aFB];exact List.mem_map_of_mem hq
     rcases s2 _ this with h0 | ⟨c,hc,ec⟩
     · rw[h0];simp
     · refine List.mem_cons_of_mem _ (List.mem_reverse.2 ?_)
       rw[<- ec];exact List.mem_map_of_mem hc) (by omega) (by omega)]
    simp only[Option.bind_some,aH]
    rw[aL (by omega),wi (n:=(b2.length:Int)-1) (by omega)]
    simp
   rw[aR st]
   exact ih b2 (x::r) (by simpa using hn) e2
 have:=main b.length b [] rfl (by simp)
 unfold sN
 rw[nl,wi (n:=(b.length:Int)-1) (by omega),aH]
 simp only[List.map_nil,List.reverse_nil]at this
 rw[this]
 rfl
end
theorem aPs {t:Tree}(hz:uU t<=4294967296)(hc:∀ n∈t.fNodes,aV n.fCond<=4294967296)(hl:t.fNodes.length<=1000):rK t=some (t.fNodes.map (·.fCond)):=by
 have:=(kR (step:=mF t) t.fNodes (fun k u=>((k:Int),u)) (fun u n=>u++[n.fCond]) (fun u=>u) (fun k u=>u.length<=k) (fun k u hk hi=>by
  constructor
  · unfold mF
    simp only[]
    rw[if_pos (by omega),aJ hk]
    simp only[Option.bind_some]
    rw[rJ _ (hc _ (List.getElem_mem hk))]
    simp only[Option.bind_some,aH]
    rw[aL (by omega),wi (n:=(k:Int)+1) (by omega)];rfl
  · rw[List.length_append,List.length_singleton];omega) (fun u _=>by unfold mF;simp only[];rw[if_neg (by omega)]) [] (Nat.zero_le _)).1
 have e:∀ (a:List TreeNode) (u:List Conditional),a.foldl (fun u n=>u++[n.fCond]) u=u++a.map (·.fCond):=by
  intro a
  induction a with
  | nil=>simp
  | cons x a ih=>intro u;rw[List.foldl_cons,ih];simp
 rw[show((0:Nat):Int)=0 from rfl,e,List.nil_append]at this
 unfold rK
 rw[this];rfl
end Go.Ev
/- The energy of a tree: the program. -/
namespace Go.Ev
set_option linter.all false
set_option maxHeartbeats 1000000
section
variable {l:List QL}{o pre rem:List Int}
end
end Go.Ev
/- Covariances of a tree over the rational numbers. -/
namespace Go.Ev
set_option linter.all false
def lin (f:Int->Q):List PQ->Q
 | []=>0
 | x::r=>x.s*f x.node+lin f r
theorem mN {f f':Int->Q}:∀ {ps:List PQ},(∀ x∈ps,f x.node=f' x.node)->lin f ps=lin f' ps
 | [],_=>rfl
 | x::r,h=>by rw[lin,lin,h x (by simp),mN fun y hy=>h y (by simp[hy])]
theorem aGG (f g:Int->Q):∀ ps:List PQ,lin (fun u=>f u-g u) ps=lin f ps-lin g ps
 | []=>by simp only[lin];grind
 | x::r=>by rw[lin,lin,lin,aGG f g r];grind
theorem aGH (k:Q)(f:Int->Q):∀ ps:List PQ,lin (fun u=>k*f u) ps=k*lin f ps
 | []=>by simp only[lin];grind
 | x::r=>by rw[lin,lin,aGH k f r];grind
theorem aGI (f g:Int->Q):∀ ps:List PQ,lin (fun u=>f u+g u) ps=lin f ps+lin g ps
 | []=>by simp only[lin];grind
 | x::r=>by rw[lin,lin,lin,aGI f g r];grind
theorem aHA (F:Int->Int->Q)(ps:List PQ):∀ qs:List PQ,lin (fun u=>lin (fun q=>F u q) ps) qs=lin (fun q=>lin (fun u=>F u q) qs) ps
 | []=>by
  simp only[lin]
  induction ps with
  | nil=>rfl
  | cons x r ih=>rw[lin,<- ih];grind
 | y::r=>by
  rw[lin,aHA F ps r,<- aGH,<- aGI]
  rfl
theorem aIJ {f:Int->Q}:∀ {ps:List PQ},(∀ x∈ps,0<=x.s/\0<=f x.node)->0<=lin f ps
 | [],_=>by simp[lin]
 | x::r,h=>by
  have h1:=aIJ (f:=f) (ps:=r) fun y hy=>h y (by simp[hy])
  have h2:=_root_.Rat.mul_nonneg (h x (by simp)).1 (h x (by simp)).2
  rw[lin];grind
theorem aDi (f:Int->Q)(g:PQ->Q):∀ ps:List PQ,app f g ps=lin f ps+app (fun _=>0) g ps
 | []=>by simp only[app,lin];grind
 | x::r=>by rw[app,lin,app,aDi f g r];grind
theorem aJP (f:Int->Q):∀ ps:List PQ,lin (fun u=>- f u) ps=- lin f ps
 | []=>by simp only[lin];grind
 | x::r=>by rw[lin,lin,aJP f r];grind
def rs (p:Int->Q)(n:NQ):Q:=p n.node-lin p n.cond.ps
def bil (b:List NQ)(p f:Int->Q):Q:=sn (fun n=>n.cond.t*(rs p n*rs f n)) b
def e0 (p:Int->Q)(x:QL):Q:=x.w*((p x.b-p x.a)*(p x.b-p x.a))
theorem aNQ (p:Int->Q):∀ l:List QL,sm (eP p (fun _=>0)) l+sm (eP (fun u=>- p u) (fun _=>0)) l=2*sm (eP (fun _=>0) (fun _=>0)) l+2*sm (e0 p) l
 | []=>by simp only[sm];grind
 | x::l=>by
  have ih:=aNQ p l
  rw[sm,sm,sm,sm]
  have e:eP p (fun _=>0) x+eP (fun u=>- p u) (fun _=>0) x=2*eP (fun _=>0) (fun _=>0) x+2*e0 p x:=by
   unfold eP e0 sqQ
   simp only[]
   generalize p x.b=u
   generalize p x.a=v
   grind
  grind
theorem aNP (p:Int->Q):∀ b:List NQ,(∀ n∈b,n.cond.node=n.node)->sn (fun n=>cdE p (fun _=>0) n.cond) b+sn (fun n=>cdE (fun u=>- p u) (fun _=>0) n.cond) b=2*sn (fun n=>cdE (fun _=>0) (fun _=>0) n.cond) b+2*bil b p p
 | [],_=>by simp only[sn,bil];grind
 | n::b,h=>by
  have ih:=aNP p b fun m hm=>h m (by simp[hm])
  have hn:=h n (by simp)
  unfold bil at ih ⊢
  rw[sn,sn,sn,sn]
  have e:cdE p (fun _=>0) n.cond+cdE (fun u=>- p u) (fun _=>0) n.cond=2*cdE (fun _=>0) (fun _=>0) n.cond+2*(n.cond.t*(rs p n*rs p n)):=by
   unfold cdE rs sqQ
   rw[hn,aDi p,aDi (fun u=>- p u),aJP]
   simp only[]
   generalize app (fun _=>0) (fun x=>x.x) n.cond.ps=A
   generalize app (fun _=>0) (fun x=>x.y) n.cond.ps=B
   generalize lin p n.cond.ps=C
   generalize p n.node=D
   grind
  grind
theorem aDa (p:Int->Q){l:List QL}{o:List Int}(h:Tie l o):sm (e0 p) l=bil (bR l o o []) p p:=by
 obtain⟨d,_⟩:=h.dn
 have a1:=aIl p (fun _=>0) h
 have a2:=aIl (fun u=>- p u) (fun _=>0) h
 have a3:=aIl (fun _=>0) (fun _=>0) h
 have b1:=aNQ p l
 have b2:=aNP p (bR l o o []) fun n hn=>(d.2 n hn).2
 grind
def cvQ:List NQ->Int->Int->Q
 | [],_,_=>0
 | n::r,a,c=>if a=n.node then(if c=n.node then 1 / n.cond.t+lin (fun u=>lin (cvQ r u) n.cond.ps) n.cond.ps else lin (fun u=>cvQ r u c) n.cond.ps)else if c=n.node then lin (fun u=>cvQ r u a) n.cond.ps else cvQ r a c
theorem yV:∀ (b:List NQ) (a c:Int),cvQ b a c=cvQ b c a
 | [],_,_=>rfl
 | n::r,a,c=>by
  rw[cvQ,cvQ]
  by_cases h1:a=n.node
  · by_cases h2:c=n.node
    · simp[h1,h2]
    · simp[h1,h2]
  · by_cases h2:c=n.node
    · simp[h1,h2]
    · simp[h1,h2,yV r a c]
theorem aEl:∀ ps:List PQ,lin (fun _=>0) ps=0
 | []=>rfl
 | x::r=>by rw[lin,aEl r];grind
theorem aGL:∀ (b:List NQ) (u c:Int),(∀ n∈b,n.node≠u)->cvQ b u c=0
 | [],_,_,_=>rfl
 | n::r,u,c,h=>by
  have h1:¬u=n.node:=fun e=>h n (by simp) e.symm
  have h2:∀ c,cvQ r u c=0:=fun c=>aGL r u c fun m hm=>h m (by simp[hm])
  rw[cvQ,if_neg h1]
  by_cases hc:c=n.node
  · rw[if_pos hc]
    rw[show(fun w=>cvQ r w u)=fun _=>0 from funext fun w=>by rw[yV,h2],aEl]
  · rw[if_neg hc];exact h2 c
theorem aK9 (p:Int->Q)(G:Int->NQ->Q)(ps:List PQ):∀ r:List NQ,sn (fun m=>m.cond.t*(rs p m*lin (fun q=>G q m) ps)) r=lin (fun q=>sn (fun m=>m.cond.t*(rs p m*G q m)) r) ps
 | []=>by simp only[sn,aEl]
 | m::r=>by
  rw[sn,aK9 p G ps r]
  have e:(fun q=>sn (fun m=>m.cond.t*(rs p m*G q m)) (m::r))=fun q=>(m.cond.t*rs p m)*G q m+sn (fun m=>m.cond.t*(rs p m*G q m)) r:=funext fun q=>by rw[sn];grind
  rw[e,aGI,aGH]
  grind
theorem aDy {f g:NQ->Q}:∀ {b:List NQ},(∀ n∈b,f n=g n)->sn f b=sn g b
 | [],_=>rfl
 | n::b,h=>by rw[sn,sn,h n (by simp),aDy fun m hm=>h m (by simp[hm])]
def Pin (b:List NQ):Prop:=∀ n∈b,∀ u∈psN n.cond,u=0\/∃ c∈b,c.node=u
theorem Pin.tail {n:NQ}{r:List NQ}(d:Dn (n::r))(h:Pin (n::r)):Pin r:=fun m hm u hu=>by
 rcases h m (by simp[hm]) u hu with h0 | ⟨c,hc,e⟩
 · exact .inl h0
 · rcases List.mem_cons.1 hc with rfl | hc
   · exact absurd (e▸hu) ((List.pairwise_cons.1 d.1).1 m hm).1
   · exact .inr ⟨c,hc,e⟩
theorem aN3 (p:Int->Q)(p0:p 0=0):∀ {b:List NQ},Dn b->Pin b->(∀ n∈b,0<n.cond.t)->∀ v,(v=0\/∃ c∈b,c.node=v)->bil b p (fun u=>cvQ b u v)=p v
 | [],_,_,_,v,hv=>by
  rcases hv with rfl | ⟨c,hc,_⟩
  · rw[p0];rfl
  · cases hc
 | n::r,d,hp,ht,v,hv=>by
  have hpw:=(List.pairwise_cons.1 d.1).1
  have ih:=aN3 p p0 d.tail (hp.tail d) (fun m hm=>ht m (by simp[hm]))
  have nn:=(d.2 n (by simp)).1
  have hps:∀ u∈psN n.cond,u=0\/∃ c∈r,c.node=u:=fun u hu=>by
   rcases hp n (by simp) u hu with h0 | ⟨c,hc,e⟩
   · exact .inl h0
   · rcases List.mem_cons.1 hc with rfl | hc
     · exact absurd (e▸hu) nn
     · exact .inr ⟨c,hc,e⟩
  have nin:∀ x∈n.cond.ps,¬x.node=n.node:=fun x hx e=>nn (e▸List.mem_map_of_mem hx)
  have nir:∀ m∈r,(∀ x∈m.cond.ps,¬x.node=n.node)/\¬m.node=n.node:=fun m hm=>⟨fun x hx e=>(hpw m hm).1 (e▸List.mem_map_of_mem hx),fun e=>(hpw m hm).2 e.symm⟩
  unfold bil at ih ⊢
  rw[sn]
  by_cases c:v=n.node
  · have en:rs (fun u=>cvQ (n::r) u v) n=1 / n.cond.t:=by
     unfold rs
     have e2:lin (fun u=>cvQ (n::r) u v) n.cond.ps=lin (fun u=>lin (cvQ r u) n.cond.ps) n.cond.ps:=mN fun x hx=>by
      rw[cvQ,if_neg (nin x hx),if_pos c]
      exact mN fun y _=>yV r _ _
     have e5:cvQ (n::r) n.node v=1 / n.cond.t+lin (fun u=>lin (cvQ r u) n.cond.ps) n.cond.ps:=by rw[cvQ,if_pos rfl,if_pos c]
     rw[e2]
     simp only[e5]
     grind
    have er:sn (fun m=>m.cond.t*(rs p m*rs (fun u=>cvQ (n::r) u v) m)) r=lin p n.cond.ps:=by
     have e1:∀ m∈r,m.cond.t*(rs p m*rs (fun u=>cvQ (n::r) u v) m)=m.cond.t*(rs p m*lin (fun q=>rs (fun u=>cvQ r u q) m) n.cond.ps):=fun m hm=>by
      have e3:rs (fun u=>cvQ (n::r) u v) m=lin (fun q=>rs (fun u=>cvQ r u q) m) n.cond.ps:=by
       unfold rs
       have e4:lin (fun u=>cvQ (n::r) u v) m.cond.ps=lin (fun u=>lin (fun q=>cvQ r u q) n.cond.ps) m.cond.ps:=mN fun x hx=>by
        rw[cvQ,if_neg ((nir m hm).1 x hx),if_pos c]
        exact mN fun y _=>yV r _ _
       have e5:cvQ (n::r) m.node v=lin (fun q=>cvQ r m.node q) n.cond.ps:=by
        rw[cvQ,if_neg (nir m hm).2,if_pos c]
        exact mN fun y _=>yV r _ _
       rw[e4,aHA]
       simp only[e5]
       rw[aGG (fun q=>cvQ r m.node q) (fun q=>lin (fun u=>cvQ r u q) m.cond.ps)]
      rw[e3]
     rw[aDy e1,aK9 p (fun q m=>rs (fun u=>cvQ r u q) m)]
     exact mN fun x hx=>ih x.node (hps _ (List.mem_map_of_mem hx))
    rw[er,en,c]
    have:=ht n (by simp)
    have h0:n.cond.t≠0:=by grind
    unfold rs
    grind
  · have en:rs (fun u=>cvQ (n::r) u v) n=0:=by
     unfold rs
     have e2:lin (fun u=>cvQ (n::r) u v) n.cond.ps=lin (fun u=>cvQ r u v) n.cond.ps:=mN fun x hx=>by
      rw[cvQ,if_neg (nin x hx),if_neg c]
     have e5:cvQ (n::r) n.node v=lin (fun u=>cvQ r u v) n.cond.ps:=by rw[cvQ,if_pos rfl,if_neg c]
     rw[e2]
     simp only[e5]
     grind
    have hv2:v=0\/∃ m∈r,m.node=v:=by
     rcases hv with h0 | ⟨m,hm,e⟩
     · exact .inl h0
     · rcases List.mem_cons.1 hm with rfl | hm
       · exact absurd e.symm c
       · exact .inr ⟨m,hm,e⟩
    rw[en,<- ih v hv2]
    have e1:∀ m∈r,m.cond.t*(rs p m*rs (fun u=>cvQ (n::r) u v) m)=m.cond.t*(rs p m*rs (fun u=>cvQ r u v) m):=fun m hm=>by
     have e3:rs (fun u=>cvQ (n::r) u v) m=rs (fun u=>cvQ r u v) m:=by
      unfold rs
      have e5:cvQ (n::r) m.node v=cvQ r m.node v:=by rw[cvQ,if_neg (nir m hm).2,if_neg c]
      have e6:lin (fun u=>cvQ (n::r) u v) m.cond.ps=lin (fun u=>cvQ r u v) m.cond.ps:=mN fun x hx=>by rw[cvQ,if_neg ((nir m hm).1 x hx),if_neg c]
      rw[e6]
      simp only[e5]
     rw[e3]
    rw[aDy e1]
    grind
end Go.Ev
/- What covariances are: the greatest of a form; positive, bounded, alike in all orders. -/
namespace Go.Ev
set_option linter.all false
theorem aDs {l:List QL}{o:List Int}:∀ (n:Nat) (p:List Int),p.length=n->∀ c∈bR l o p [],∃ p' v' r',p=p'++v'::r'/\c=nxt l o v' (bR l o p' [])
 | 0,p,hn,c,hc=>by
  have:p=[]:=List.length_eq_zero_iff.1 hn
  subst this
  cases hc
 | n+1,p,hn,c,hc=>by
  rcases List.eq_nil_or_concat p with rfl | ⟨q,v,rfl⟩
  · simp at hn
  rw[List.concat_eq_append]at hn hc ⊢
  rw[sA]at hc
  rcases List.mem_append.1 hc with hc | hc
  · obtain⟨p',v',r',e1,e2⟩:=aDs n q (by simpa using hn) c hc
    exact⟨p',v',r'++[v],by rw[e1];simp,e2⟩
  · exact⟨q,v,[],rfl,List.mem_singleton.1 hc⟩
section
variable {l:List QL}{o:List Int}
theorem Tie.pin (h:Tie l o):Pin (bR l o o []):=fun n hn u hu=>((h.dn).2 n hn).2.2 u hu |>.imp id tA
theorem Tie.tpos (h:Tie l o):∀ n∈bR l o o [],0<n.cond.t:=fun n hn=>((h.dn).2 n hn).2.1
def cvT (l:List QL)(o:List Int)(a c:Int):Q:=cvQ (bR l o o []) a c
theorem aJ0 (a c:Int):cvT l o a c=cvT l o c a:=yV _ a c
theorem aB1 (h:Tie l o)(c:Int):cvT l o 0 c=0:=aGL _ 0 c fun n hn e=>by
 have:=(h.five _ ((h.dn).2 n hn).1).1
 omega
theorem aJ1 (h:Tie l o){u:Int}(hu:u∉o)(c:Int):cvT l o u c=0:=aGL _ u c fun n hn e=>hu (e▸((h.dn).2 n hn).1)
theorem aHX (h:Tie l o){p:Int->Q}(p0:p 0=0){v:Int}(hv:v=0\/v∈o):bil (bR l o o []) p (fun u=>cvT l o u v)=p v :=
 aN3 p p0 (h.dn).1 h.pin h.tpos v (hv.imp id tA)
theorem aOl (p f:Int->Q)(n:NQ):rs (fun u=>p u-f u) n=rs p n-rs f n:=by
 unfold rs
 rw[aGG]
 grind
theorem aNy (b:List NQ)(p f:Int->Q):bil b (fun u=>p u-f u) (fun u=>p u-f u)=bil b p p-2*bil b p f+bil b f f:=by
 unfold bil
 induction b with
 | nil=>simp only[sn];grind
 | cons n b ih =>
  rw[sn,sn,sn,sn,ih,aOl]
  grind
theorem aPl (h:Tie l o){p:Int->Q}(p0:p 0=0){v:Int}(hv:v=0\/v∈o):sm (e0 (fun u=>p u-cvT l o u v)) l=sm (e0 p) l-2*p v+cvT l o v v:=by
 have a1:=aDa (fun u=>p u-cvT l o u v) h
 have a2:=aDa p h
 have b1:=aHX h p0 hv
 have b2:=aHX h (p:=fun u=>cvT l o u v) (aB1 h v) hv
 rw[a1,aNy,a2,b1,b2]
theorem aPA {p:Int->Q}{x:QL}(h:0<x.w):0<=e0 p x:=by
 unfold e0
 exact _root_.Rat.mul_nonneg (by grind) (aK8 _)
theorem Tie.wpos (h:Tie l o):∀ x∈l,0<x.w:=fun x hx=>(h.lk x hx).lk.1.sc.1
theorem aLh (h:Tie l o)(p:Int->Q):0<=sm (e0 p) l:=oE fun x hx=>aPA (h.wpos x hx)
theorem aFh (h:Tie l o){v:Int}(hv:v=0\/v∈o):sm (e0 (fun u=>cvT l o u v)) l=cvT l o v v:=by
 rw[aDa _ h]
 exact aHX h (p:=fun u=>cvT l o u v) (aB1 h v) hv
theorem aMM:∀ ps:List PQ,app (fun _=>0) (fun _=>0) ps=0
 | []=>rfl
 | x::r=>by rw[app,aMM r];grind
theorem aH2 (f:Int->Q)(ps:List PQ):app f (fun _=>0) ps=lin f ps:=by rw[aDi,aMM];grind
theorem aMu (h:Tie l o){p:Int->Q}(p0:p 0=0)(hz:sm (e0 p) l<=0):∀ u∈o,p u=0:=by
 rw[aDa p h]at hz
 have z:=aLa (f:=fun n=>n.cond.t*(rs p n*rs p n)) (l:=bR l o o []) (fun n hn=>_root_.Rat.mul_nonneg (by have:=h.tpos n hn;grind) (aK8 _)) hz
 have hp:∀ n∈bR l o o [],p n.node=app p (fun _=>0) n.cond.ps:=fun n hn=>by
  have t:=h.tpos n hn
  rw[aH2]
  rcases _root_.Rat.mul_eq_zero.1 (z n hn)with g | g
  · grind
  · have:rs p n=0:=by rcases _root_.Rat.mul_eq_zero.1 g with g | g <;> exact g
    unfold rs at this;grind
 have hu:∀ (f:Int->Q),f 0=0->∀ n∈bR l o o [],∀ u∈psN n.cond,(∃ c∈bR l o o [],c.node=u)\/f u=0:=fun f f0 n hn u hu=>by
  rcases h.pin n hn u hu with g | g
  · exact .inr (by rw[g];exact f0)
  · exact .inl g
 intro u hu'
 obtain⟨c,hc,rfl⟩:=tA (l:=l) hu'
 have e1:=aGc (fun _=>0) p (h.dn).1 hp (hu p p0) c hc
 have e2:=aGc (fun _=>0) (fun _=>0) (h.dn).1 (fun n hn=>by rw[aMM]) (hu (fun _=>0) rfl) c hc
 rw[e1,<- e2]
theorem aIZ:∀ {b:List NQ},(∀ n∈b,0<n.cond.t/\∀ x∈n.cond.ps,0<=x.s)->∀ a c,0<=cvQ b a c
 | [],_,a,c=>by simp[cvQ]
 | n::r,h,a,c=>by
  have ih:=aIZ (b:=r) fun m hm=>h m (by simp[hm])
  obtain⟨h1,h2⟩:=h n (by simp)
  have hl:∀ f:Int->Q,(∀ u,0<=f u)->0<=lin f n.cond.ps:=fun f hf=>aIJ fun x hx=>⟨h2 x hx,hf _⟩
  have it:0<=1 / n.cond.t:=by
   have:0<1 / n.cond.t:=by rw[_root_.Rat.lt_div_iff h1];grind
   grind
  rw[cvQ]
  by_cases c1:a=n.node
  · rw[if_pos c1]
    by_cases c2:c=n.node
    · rw[if_pos c2]
      have:=hl (fun u=>lin (cvQ r u) n.cond.ps) fun u=>hl _ fun w=>ih u w
      grind
    · rw[if_neg c2];exact hl _ fun u=>ih u c
  · rw[if_neg c1]
    by_cases c2:c=n.node
    · rw[if_pos c2];exact hl _ fun u=>ih u a
    · rw[if_neg c2];exact ih a c
theorem aJ2:∀ {b:List NQ},Dn b->(∀ n∈b,0<n.cond.t/\∀ x∈n.cond.ps,0<=x.s)->∀ n∈b,0<cvQ b n.node n.node
 | n::r,d,h,m,hm=>by
  have hnn:=aIZ (b:=r) fun m hm=>h m (by simp[hm])
  obtain⟨h1,h2⟩:=h n (by simp)
  have hl:∀ f:Int->Q,(∀ u,0<=f u)->0<=lin f n.cond.ps:=fun f hf=>aIJ fun x hx=>⟨h2 x hx,hf _⟩
  have it:0<1 / n.cond.t:=by rw[_root_.Rat.lt_div_iff h1];grind
  rcases List.mem_cons.1 hm with rfl | hm
  · rw[cvQ,if_pos rfl,if_pos rfl]
    have:=hl (fun u=>lin (cvQ r u) m.cond.ps) fun u=>hl _ fun w=>hnn u w
    grind
  · have ne:¬m.node=n.node:=fun e=>((List.pairwise_cons.1 d.1).1 m hm).2 e.symm
    rw[cvQ,if_neg ne,if_neg ne]
    exact aJ2 d.tail (fun m hm=>h m (by simp[hm])) m hm
theorem Tie.shares (h:Tie l o):∀ n∈bR l o o [],0<n.cond.t/\∀ x∈n.cond.ps,0<=x.s:=fun n hn=>by
 refine⟨h.tpos n hn,fun x hx=>?_⟩
 obtain⟨p,v,r,e,rfl⟩:=aDs o.length o rfl n hn
 have ti:=TInv.at h.base h.gr p.length p (v::r) rfl e
 have ha:=((ti.inc h.base).join).2.1.arms
 obtain⟨y,hy,rfl⟩:=List.mem_map.1 hx
 have:=(uY ha hy).2.1
 show 0<=y.w / _
 grind
theorem aMy (h:Tie l o)(a c:Int):0<=cvT l o a c:=aIZ h.shares a c
theorem aNv (h:Tie l o){a:Int}(ha:a∈o):0<cvT l o a a:=by
 obtain⟨c,hc,rfl⟩:=tA (l:=l) ha
 exact aJ2 (h.dn).1 h.shares c hc
def mn (a c:Q):Q:=if a<=c then a else c
theorem aPt (a c:Q):mn a c<=c:=by
 unfold mn;split <;> grind
theorem aPo (a b c:Q):(mn a c-mn b c)*(mn a c-mn b c)<=(a-b)*(a-b):=by
 have s:=aK8 (a-b)
 unfold mn
 by_cases h1:a<=c
 · rw[if_pos h1]
   by_cases h2:b<=c
   · rw[if_pos h2];grind
   · rw[if_neg h2]
     have:=_root_.Rat.mul_nonneg (a:=b-c) (b:=(b-a)+(c-a)) (by grind) (by grind)
     grind
 · rw[if_neg h1]
   by_cases h2:b<=c
   · rw[if_pos h2]
     have:=_root_.Rat.mul_nonneg (a:=a-c) (b:=(a-b)+(c-b)) (by grind) (by grind)
     grind
   · rw[if_neg h2];grind
theorem aOK (h:Tie l o){v:Int}(hv:v=0\/v∈o):∀ u∈o,cvT l o u v<=cvT l o v v:=by
 have hvv:=aMy h v v
 have p0:(fun u=>mn (cvT l o u v) (cvT l o v v)) 0=0:=by
  show mn (cvT l o 0 v) (cvT l o v v)=0
  rw[aB1 h];unfold mn;rw[if_pos hvv]
 have e:=aPl h (p:=fun u=>mn (cvT l o u v) (cvT l o v v)) p0 hv
 have es:=aFh h hv
 have le:sm (e0 fun u=>mn (cvT l o u v) (cvT l o v v)) l<=sm (e0 (fun u=>cvT l o u v)) l:=aLf fun x hx=>by
  unfold e0
  exact _root_.Rat.mul_le_mul_of_nonneg_left (aPo _ _ _) (by have:=h.wpos x hx;grind)
 have pv:mn (cvT l o v v) (cvT l o v v)=cvT l o v v:=by
  unfold mn;rw[if_pos (by grind)]
 rw[pv]at e
 have z:=aMu h (p:=fun u=>mn (cvT l o u v) (cvT l o v v)-cvT l o u v) (by
  show mn (cvT l o 0 v) (cvT l o v v)-cvT l o 0 v=0
  have:mn (cvT l o 0 v) (cvT l o v v)=0:=p0
  rw[this,aB1 h];grind) (by grind)
 intro u hu
 have:=z u hu
 have:=aPt (cvT l o u v) (cvT l o v v)
 grind
end
end Go.Ev
/- Covariances of a net: sums over parents, the table as a function of its nodes. -/
namespace Go.Ev
set_option linter.all false
noncomputable def aAS (f:Int->Rat):List Parent->Rat->Rat
 | [],s=>s
 | p::ps,s=>aAS f ps (RA s (RM p.fShare (f p.fNode)))
theorem aGb {f:Int->Rat}:∀ {ps:List Parent} {s:Rat},VZ s->(∀ p∈ps,VZ p.fShare/\VZ (f p.fNode))->VZ (aAS f ps s)
 | [],s,h,_=>h
 | p::ps,s,h,hp=>show VZ (aAS f ps (RA s (RM p.fShare (f p.fNode))))from aGb (wC h (zQ (hp p (by simp)).1 (hp p (by simp)).2).2.2).2.2 fun q hq=>hp q (by simp[hq])
theorem aBi {f g:Int->Rat}:∀ {ps:List Parent} {s:Rat},(∀ p∈ps,f p.fNode=g p.fNode)->aAS f ps s=aAS g ps s
 | [],_,_=>rfl
 | p::ps,s,h=>by
  unfold aAS
  rw[h p (by simp)];exact aBi fun q hq=>h q (by simp[hq])
theorem aL4 {step:(Int×Rat)->Option ((Int×Rat) ⊕ Rat)}(ps:List Parent)(f:Int->Rat)(hv:∀ p∈ps,VZ p.fShare/\VZ (f p.fNode))
 (h1:∀ (k:Nat) (hk:k<ps.length) (s:Rat),VZ s->step ((k:Int),s)=some (.inl (((k+1:Nat):Int),RA s (RM (ps[k]).fShare (f (ps[k]).fNode))))) (h2:∀ s:Rat,step ((ps.length:Int),s)=some (.inr s)) (s:Rat) (hs:VZ s):lp step (0,s)=some (aAS f ps s):=by
 have main:∀ m k:Nat,m+k=ps.length->∀ s,VZ s->lp step ((k:Int),s)=some (aAS f (ps.drop k) s):=by
  intro m
  induction m with
  | zero =>
   intro k hk s hs
   obtain rfl:k=ps.length:=by omega
   rw[List.drop_length]
   exact aI (h2 s)
  | succ m ih =>
   intro k hk s hs
   have hlt:k<ps.length:=by omega
   obtain⟨g1,g2⟩:=hv _ (List.getElem_mem hlt)
   rw[aR (h1 k hlt s hs),List.drop_eq_getElem_cons hlt]
   exact ih (k+1) (by omega) _ (wC hs (zQ g1 g2).2.2).2.2
 have:=main ps.length 0 (by omega) s hs
 rw[List.drop_zero]at this;exact this
noncomputable def newRow (c:Conditional)(C:Int->Int->Rat)(y:Int):Rat:=aAS (fun p=>C p y) c.fParents (dG 0)
theorem aFD {c:Conditional}{nodes:List Int}{C:Int->Int->Rat}(hp:∀ p∈c.fParents,VZ p.fShare/\p.fNode∈nodes)(hC:∀ x∈nodes,∀ y∈nodes,VZ (C x y)){y:Int}(hy:y∈nodes):VZ (newRow c C y) :=
 aGb wN fun p h=>⟨(hp p h).1,hC _ (hp p h).2 _ hy⟩
noncomputable def aBl (c:Conditional)(C:Int->Int->Rat):Rat:=aAS (newRow c C) c.fParents (RD (dG 1) c.fTotal)
theorem aGp:VZ (dG 1):=.inl (vD 1 (by omega))
noncomputable def aEX (c:Conditional)(C:Int->Int->Rat)(x y:Int):Rat :=
 if x=c.fNode then(if y=c.fNode then aBl c C else newRow c C y)else if y=c.fNode then newRow c C x else C x y
end Go.Ev
/- Covariances of a net: the table of both programs. -/
namespace Go.Ev
set_option linter.all false
def bK (l:List Conditional):List Int:=0::(l.map (·.fNode)).reverse
theorem uN (c:Conditional)(l:List Conditional):bK (c::l)=bK l++[c.fNode]:=by simp[bK]
theorem qF {l:List Conditional}{x:Int}:x∈bK l↔x=0\/∃ d∈l,d.fNode=x:=by simp[bK]
def sY:List Conditional->Prop
 | []=>True
 | c::r=>(1<=c.fNode/\c.fNode<=9)/\c.fNode∉bK r/\(∀ p∈c.fParents,bA p.fShare/\p.fNode∈bK r)/\bA c.fTotal/\c.fParents.length<=4294967296/\sY r
theorem aDW:∀ (n:Nat) (l:List Int),l.Nodup->(∀ x∈l,0<=x/\x<n)->l.length<=n
 | 0,l,_,h=>by
  cases l with
  | nil=>simp
  | cons a r=>have:=h a (by simp);omega
 | n+1,l,hn,h=>by
  by_cases c:(n:Int)∈l
  · have h1:=aDW n (l.erase (n:Int)) (hn.erase _) (fun x hx=>by
     have h2:=h x (List.mem_of_mem_erase hx)
     have:x≠n:=by rintro rfl;exact(List.Nodup.mem_erase_iff hn).1 hx |>.1 rfl
     omega)
    rw[List.length_erase_of_mem c]at h1;omega
  · have h1:=aDW n l hn (fun x hx=>by
     have h2:=h x hx
     have:x≠n:=by rintro rfl;exact c hx
     omega)
    omega
theorem vV:∀ {l:List Conditional},sY l->(bK l).Nodup/\∀ x∈bK l,0<=x/\x<=9
 | [],_=>by simp[bK]
 | c::r,h=>by
  obtain⟨h1,h2,_,_,_,h3⟩:=h
  obtain⟨g1,g2⟩:=vV h3
  rw[uN]
  refine⟨List.nodup_append.2 ⟨g1,by simp,?_⟩,?_⟩
  · intro x hx y hy e
    simp at hy;subst hy;subst e;exact h2 hx
  · intro x hx
    rcases List.mem_append.1 hx with hx | hx
    · exact g2 x hx
    · simp at hx;subst hx;omega
theorem aHM {l:List Conditional}(h:sY l):l.length<=9:=by
 obtain⟨g1,g2⟩:=vV h
 have:=aDW 10 _ g1 (fun x hx=>by have:=g2 x hx;omega)
 simp[bK]at this;omega
noncomputable def Cst:List Conditional->Int->Int->Rat
 | []=>fun _ _=>dG 0
 | c::r=>aEX c (Cst r)
theorem aHs {d:Nat}(h:0<d)(s:Bool):mkR s 0 d=dG 0:=by
 unfold mkR
 rw[if_neg (by omega),Nat.gcd_zero_left,Nat.zero_div,Nat.div_self h]
 have e:aA 1=[1]:=jC.symm
 rw[e,aQ,if_neg (by simp)]
 simp[dG,big,aQ]
theorem aAF:dG 0=⟨big 0,aA 1⟩:=by rw[<- jC];rfl
theorem aNF {r:Rat}(h:bA r):RM r (dG 0)=dG 0:=by
 obtain⟨n,d,rfl,h1,h2,h3,h4⟩:=wW h
 have q:=zQ (.inl h:VZ _) wN
 have e:bM ⟨big n,aA d⟩ (dG 0)=some (dG 0):=by
  rw[aAF,aDM n d 0 1 h1 (by omega) h2 h3 (by simp[bl,aQ]) (by rw[<- jC];simp)]
  unfold aLZ
  rw[Int.natAbs_zero,Nat.mul_zero,Nat.mul_one,aHs h1,aAF]
 have:=q.2.1
 rw[e]at this
 exact(Option.some.inj this).symm
theorem aNG:RA (dG 0) (dG 0)=dG 0:=by
 have q:=wC wN wN
 have e:bH (dG 0) (dG 0)=some (dG 0):=by
  rw[aAF,zX 0 1 0 1 (by omega) (by omega) (by simp[bl,aQ]) (by rw[<- jC];simp) (by simp[bl,aQ]) (by rw[<- jC];simp)]
  unfold aGQ
  simp only[Int.zero_mul,Int.add_zero,Int.natAbs_zero]
  rw[aHs (by omega),aAF]
 have:=q.2.1
 rw[e]at this
 exact(Option.some.inj this).symm
theorem aCd {f:Int->Rat}:∀ {ps:List Parent},(∀ p∈ps,bA p.fShare/\f p.fNode=dG 0)->aAS f ps (dG 0)=dG 0
 | [],_=>rfl
 | p::ps,h=>by
  obtain⟨h1,h2⟩:=h p (by simp)
  show aAS f ps (RA (dG 0) (RM p.fShare (f p.fNode)))=dG 0
  rw[h2,aNF h1,aNG]
  exact aCd fun q hq=>h q (by simp[hq])
theorem aG0:∀ {l:List Conditional},sY l->(∀ x∈bK l,∀ y∈bK l,VZ (Cst l x y))/\(∀ x∈bK l,Cst l x 0=dG 0/\Cst l 0 x=dG 0)
 | [],_=>⟨fun _ _ _ _=>wN,fun _ _=>⟨rfl,rfl⟩⟩
 | c::r,h=>by
  obtain⟨h1,h2,h3,h4,_,h5⟩:=h
  obtain⟨g1,g2⟩:=aG0 h5
  have hp:∀ p∈c.fParents,VZ p.fShare/\p.fNode∈bK r:=fun p hp=>⟨.inl (h3 p hp).1,(h3 p hp).2⟩
  have h0:(0:Int)∈bK r:=by simp[bK]
  have hr:∀ y∈bK r,VZ (newRow c (Cst r) y):=fun y hy=>aFD hp g1 hy
  have hr0:newRow c (Cst r) 0=dG 0:=aCd fun p hpp=>⟨(h3 p hpp).1,(g2 _ (h3 p hpp).2).1⟩
  have ho:VZ (aBl c (Cst r)):=aGb (aB7 aGp (.inl h4)).2.2 fun p hpp=>⟨(hp p hpp).1,hr _ (hp p hpp).2⟩
  constructor
  · intro x hx y hy
    rw[uN,List.mem_append,List.mem_singleton]at hx hy
    show VZ (aEX c (Cst r) x y)
    unfold aEX
    by_cases cx:x=c.fNode
    · rw[if_pos cx]
      by_cases cy:y=c.fNode
      · rw[if_pos cy];exact ho
      · rw[if_neg cy];exact hr y (hy.resolve_right cy)
    · rw[if_neg cx]
      by_cases cy:y=c.fNode
      · rw[if_pos cy];exact hr x (hx.resolve_right cx)
      · rw[if_neg cy];exact g1 x (hx.resolve_right cx) y (hy.resolve_right cy)
  · intro x hx
    rw[uN,List.mem_append,List.mem_singleton]at hx
    have n0:¬(0:Int)=c.fNode:=by omega
    show aEX c (Cst r) x 0=dG 0/\aEX c (Cst r) 0 x=dG 0
    unfold aEX
    rw[if_neg n0,if_neg n0,if_neg n0]
    by_cases cx:x=c.fNode
    · rw[if_pos cx,if_pos cx];exact⟨hr0,hr0⟩
    · rw[if_neg cx,if_neg cx];exact g2 x (hx.resolve_right cx)
theorem yU:∀ {l:List Conditional} (k:Nat),sY l->sY (l.drop k)
 | [],k,h=>by rw[List.drop_nil];exact h
 | c::r,0,h=>h
 | c::r,k+1,h=>yU (l:=r) k h.2.2.2.2.2
end Go.Ev
