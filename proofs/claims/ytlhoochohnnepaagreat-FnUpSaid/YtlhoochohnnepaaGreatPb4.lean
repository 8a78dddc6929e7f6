/- Parts QT, QU, PG1, VA, PS1, PS2, PS3, PT1, P22b, PT2, VB, VC, PT3, VD, VE, PT4, VF, VG, VH, VI, UA, UB, VJ, VK, VP, UC, UD. -/
import Derived.Test.YtlhoochohnnepaaGreatPb3
import Derived.Test.YtlhoochohnnepaaGreatPa1
import Derived.Test.YtlhoochohnnepaaGreatLd
import Derived.Test.YtlhoochohnnepaaGreatPb2
import Derived.Test.YtlhoochohnnepaaGreatPb1
set_option linter.all false
/- Trees over the rational numbers: the whole tree. -/
namespace Go.Ev
set_option linter.all false
section
variable {l:List QL}{o pre r:List Int}{v:Int}{b:List NQ}
theorem TInv.next (hb:Base l o)(hi:TInv l o pre (v::r) b):TInv l o (pre++[v]) r (b++[nxt l o v b])/\sB o v ((l.filter (uI o v)).map QL.toL) (b.map NQ.toN)=some (nxt l o v b).toN/\cO (nxt l o v b).enQ:=by
 obtain⟨n,h1,hv,v1,v9,hl,nV,hV⟩:=hi.facts hb
 have hinc:=hi.inc hb
 obtain⟨c1,c2,c3,c4,c5,c6,c7⟩:=aL7 (order:=o) hinc
 have hmem:∀ c∈b++[nxt l o v b],c∈b\/c=nxt l o v b:=fun c hc=>by simpa using hc
 have hlen:(b++[nxt l o v b]).length=b.length+1:=by simp
 have hsp:=hi.split
 refine⟨⟨?_,?_,?_,?_,?_,?_,?_,?_⟩,c1,c2⟩
 · rw[hsp];simp
 · rw[hlen,List.length_append,hi.len];rfl
 · intro c hc hu
   rcases hmem c hc with hc | rfl
   · exact hi.den c hc (List.mem_cons_of_mem v hu)
   · exact c3
 · intro c hc hu
   rw[hlen]
   rcases hmem c hc with hc | rfl
   · obtain⟨m1,m2⟩:=hi.msg c hc (List.mem_cons_of_mem v hu)
     exact⟨fun x hx=>aIp (m1 x hx) (Nat.dvd_refl _) (Nat.mul_le_mul_left _ (Nat.pow_le_pow_right (by omega) (by omega))),m2⟩
   · refine⟨fun x hx=>?_,c6⟩
     have:=(c5 x hx).1
     have e:2*(20*2 ^ b.length)=20*2 ^ (b.length+1):=by rw[Nat.pow_succ];omega
     rw[<- e];exact this
 · intro c hc hu
   rcases hmem c hc with hc | rfl
   · obtain⟨p1,p2,p3,p4⟩:=hi.ps c hc (List.mem_cons_of_mem v hu)
     refine⟨fun u hm=>?_,p2,p3,p4⟩
     have h:=p1 u hm
     simp only[List.mem_cons]at h ⊢
     rcases h with h | h | h
     · exact .inl h
     · exfalso
       subst h
       rw[hsp]at p2
       have:c.up=u:=p2.trans ((uB n h1).2 ⟨hm,fun z hz hz2=>by
        rcases List.mem_cons.1 (p1 z hz2)with rfl | h
        · have:=h1 0 (List.mem_append_left _ hz);omega
        · exact(List.nodup_append.1 n).2.2 z hz z h rfl⟩)
       rw[this]at hu;exact hv hu
     · exact .inr h
   · refine⟨fun u hm=>(hi.nxt_rem hb u hm).1,rfl,fun x hx=>?_,fun u hu' w hw' huw=>?_⟩
     · have hj:=(hinc.join).2.1
       refine⟨?_,?_,(c5 x hx).2.2.2⟩
       all_goals
        obtain⟨y,hy,e1,e2⟩:=pE _ [] 0 x hx
        have hy:=hy.resolve_left (by simp)
        rcases List.mem_append.1 hy with hy | hy
        · obtain⟨m1,m2,m3⟩:=aA3.1 hy
          obtain⟨z,hz,f1,f2⟩:=pE _ [] 0 y m1
          have hz:=hz.resolve_left (by simp)
          rcases List.mem_append.1 hz with hz | hz
          · exfalso
            have:=(List.mem_filter.1 hz).2
            rw[hsp]at this
            have:=((aCy n h1).1 this).1
            omega
          · obtain⟨c,hc,hu2,hz⟩:=tS.1 hz
            obtain⟨_,hk⟩:=hi.kid_ps hb hc hu2
            obtain⟨_,_,p3,_⟩:=hi.ps c hc (by rw[hu2];simp)
            have g1:=(p3 z hz).1
            have g2:=(p3 z hz).2.1
            rw[f1,e1]at g1
            rw[f2,e2]at g2
            first | exact hk _ g1 (by omega) | exact hk _ g2 (by omega)
        · obtain⟨_,_,_,_,⟨y1,hy1,q1⟩,y2,hy2,q2⟩:=hj.arms.each hy
          have e:psN (nxt l o v b).cond=(bM v (bG (l.filter (uI o v)++qJ v b) [] 0).1).map fun x=>x.a:=aC5 v _
          rw[e]
          first | exact List.mem_map.2 ⟨y1,hy1,q1.trans e1⟩ | exact List.mem_map.2 ⟨y2,hy2,q2.trans e2⟩
     · have hj:=(hinc.join).2.1
       have e:psN (nxt l o v b).cond=(bM v (bG (l.filter (uI o v)++qJ v b) [] 0).1).map fun x=>x.a:=aC5 v _
       rw[e]at hu' hw'
       obtain⟨x,hx,rfl⟩:=List.mem_map.1 hu'
       obtain⟨y,hy,rfl⟩:=List.mem_map.1 hw'
       have hm:=aGd (sm wt (bM v (bG (l.filter (uI o v)++qJ v b) [] 0).1)) hj.arms.inc x hx y hy huw
       obtain⟨z,hz,f1,f2⟩:=pJ (iR v (bG (l.filter (uI o v)++qJ v b) [] 0).1) [] 0 _ (.inr (List.mem_append_right _ hm))
       exact⟨z,hz,f1.symm,f2.symm⟩
 · obtain⟨k1,k2,k3⟩:=hi.kids
   rw[hlen,List.filter_append,aEu]
   have e1:b.filter (tY r)=b.filter fun c=>tY (v::r) c&&!kid v c:=by
    rw[<- aED hv,List.filter_filter]
    refine List.filter_congr fun c _=>?_
    rw[Bool.and_comm]
   rw[e1]
   have ekk:ex' (b.length+1)=ex (b.length+1):=by unfold ex';rw[if_neg (by omega)]
   rw[ekk]
   have hD:(aCu v b=1/\dU (fun c:NQ=>72*c.den) (b.filter (kid v))=1)\/72*aCu v b<=dU (fun c:NQ=>72*c.den) (b.filter (kid v)):=by
    by_cases c:b.filter (kid v)=[]
    · left
      have e:aCu v b=dU (fun c:NQ=>c.den) (b.filter (kid v)):=rfl
      rw[e,c];exact⟨rfl,rfl⟩
    · exact .inr (aC6 (fun c:NQ=>c.den) _ c)
   have hs:=aIx k3 k2 k1 c4 hD
   have le:dU (fun c:NQ=>72*c.den) ([nxt l o v b].filter (tY r))<=72*(nxt l o v b).den:=by
    have hp:0<(nxt l o v b).den:=c3
    rw[List.filter_cons,List.filter_nil]
    split
    · simp[dU]
    · simp only[dU];omega
   exact Nat.le_trans (Nat.mul_le_mul_left _ le) hs
 · have hw:=(aE0 hi hb).1
   have hn:0<=sm wt (nxt l o v b).msgs:=lX fun x hx=>(c5 x hx).1
   have e:sm wt (pB ((b++[nxt l o v b]).filter (tY r)))<=sm wt (pB (b.filter (tY r)))+sm wt (nxt l o v b).msgs:=by
    unfold pB
    rw[List.filter_append,List.flatMap_append,wT,List.filter_cons,List.filter_nil]
    split
    · rw[List.flatMap_cons,List.flatMap_nil,List.append_nil];grind
    · rw[List.flatMap_nil];simp only[sm];grind
   have c7':sm wt (nxt l o v b).msgs<=sm wt (l.filter (uI o v)++qJ v b):=c7
   grind
 · intro S hS h0
   obtain⟨u0,hu0,su0⟩:=hS
   have viaN:∀ u w,S u->¬S w->u∈psN (nxt l o v b).cond->w∈psN (nxt l o v b).cond->aDR l o r (b++[nxt l o v b]) u w:=by
    intro u w su sw hu hw
    exact .inr ⟨nxt l o v b,by simp,hi.nxt_up hb hu (fun e=>h0 (e▸su)),hu,hw⟩
   have up:∀ u w,aDR l o r b u w->aDR l o r (b++[nxt l o v b]) u w:=by
    rintro u w (⟨x,hx,h⟩ | ⟨c,hc,h⟩)
    · exact .inl ⟨x,hx,h⟩
    · exact .inr ⟨c,by simp[hc],h⟩
   have ne0:u0≠v:=fun e=>hv (e▸hu0)
   obtain⟨u,w,⟨su,uv⟩,sw,ad⟩:=hi.cut (fun u=>S u/\u≠v) ⟨u0,List.mem_cons_of_mem v hu0,su0,ne0⟩ (fun h=>h0 h.1)
   have uw:u≠w:=fun e=>sw (e▸⟨su,uv⟩)
   obtain⟨t1,t2,t3⟩:=hi.adj hb ad uw
   by_cases wv:w=v
   · have hu:=t2 wv
     obtain⟨u',w',su',sw',ad'⟩:=hi.cut (fun u=>S u\/u=v) ⟨u0,List.mem_cons_of_mem v hu0,.inl su0⟩ (fun h=>h.elim h0 (by omega))
     have uw':u'≠w':=fun e=>sw' (e▸su')
     obtain⟨t1',t2',t3'⟩:=hi.adj hb ad' uw'
     have wv':w'≠v:=fun e=>sw' (.inr e)
     have sw2:¬S w':=fun h=>sw' (.inl h)
     by_cases uv':u'=v
     · exact⟨u,w',su,sw2,viaN u w' su sw2 hu (t1' uv')⟩
     · have su2:S u':=su'.resolve_right uv'
       rcases t3' uv' wv' with⟨g1,g2⟩ | g
       · exact⟨u',w',su2,sw2,viaN u' w' su2 sw2 g1 g2⟩
       · exact⟨u',w',su2,sw2,up _ _ g⟩
   · have sw2:¬S w:=fun h=>sw ⟨h,wv⟩
     rcases t3 uv wv with⟨g1,g2⟩ | g
     · exact⟨u,w,su,sw2,viaN u w su sw2 g1 g2⟩
     · exact⟨u,w,su,sw2,up _ _ g⟩
end
def bJ (l:List QL)(o:List Int):List Int->List NQ->List NQ
 | [],b=>b
 | v::r,b=>bJ l o r (b++[nxt l o v b])
theorem aLF (o:List Int)(v:Int):∀ l:List QL,(l.map QL.toL).filter (tP o v)=(l.filter (uI o v)).map QL.toL
 | []=>rfl
 | x::l=>by
  have e:tP o v x.toL=uI o v x:=rfl
  rw[List.map_cons,List.filter_cons,List.filter_cons,aLF o v l,e]
  split <;> rfl
theorem aJd {l:List QL}{o:List Int}(hb:Base l o):∀ (r pre:List Int) (b:List NQ),TInv l o pre r b->xT (l.map QL.toL) o r (b.map NQ.toN)=some ((bJ l o r b).map NQ.toN)
 | [],_,b,_=>rfl
 | v::r,pre,b,hi=>by
  obtain⟨h1,h2,h3⟩:=hi.next hb
  rw[xT,aLF,h2]
  have:=aJd hb r (pre++[v]) (b++[nxt l o v b]) h1
  rw[List.map_append]at this
  exact this
def zL (l:List QL)(o:List Int):Prop:=∀ S:Int->Prop,(∃ u∈o,S u)->¬S 0->∃ x∈l,(S x.a/\¬S x.b)\/(S x.b/\¬S x.a)
theorem TInv.start {l:List QL}{o:List Int}(hb:Base l o)(hg:zL l o):TInv l o [] o [] where
 split:=rfl
 len:=rfl
 den:=by simp
 msg:=by simp
 ps:=by simp
 prod:=Nat.le_refl 1
 wtt:=by
  have e:sm wt (pB (([]:List NQ).filter (tY o)))=0:=rfl
  rw[e]
  have h1:=aCN wt (fun x=>decide (aR o [x.a,x.b]∈o)) l
  have h2:0<=sm wt (l.filter fun x=>!decide (aR o [x.a,x.b]∈o)):=lX fun y hy=>(hb.lk y (List.mem_filter.1 hy).1).1
  have:=hb.hw
  grind
 cut:=by
  intro S hS h0
  obtain⟨x,hx,h⟩:=hg S hS h0
  have hf:aR o [x.a,x.b]∈o:=by
   obtain⟨i1,i2,i3⟩:=(hb.lk x hx).2.1
   have hbm:x.b∈o:=by
    rcases List.mem_cons.1 i2 with h | h
    · exfalso
      rcases List.mem_cons.1 i1 with h2 | h2
      · omega
      · have:=hb.h1 _ h2;omega
    · exact h
   rcases aBi (s:=[x.a,x.b]) (fun u hu=>(hb.h1 u hu).1)with⟨_,h4⟩ | ⟨p,v,r,e,h2,h3,h4⟩
   · exact absurd (by simp) (h4 _ hbm)
   · rw[h2,e];simp
  rcases h with⟨g1,g2⟩ | ⟨g1,g2⟩
  · exact⟨x.a,x.b,g1,g2,.inl ⟨x,hx,hf,.inl ⟨rfl,rfl⟩⟩⟩
  · exact⟨x.b,x.a,g1,g2,.inl ⟨x,hx,hf,.inr ⟨rfl,rfl⟩⟩⟩
theorem Base.join {l:List QL}{o:List Int}(hb:Base l o):jnP (l.map QL.toL)=some ((bG l [] 0).1.map QL.toL,ofQ (bG l [] 0).2)/\(∀ k∈(bG l [] 0).1,k.fit/\Lk 1 20 k/\inV (0::o) k)/\(bG l [] 0).1.Pairwise cP/\cO (bG l [] 0).2:=by
 have nV:(0::o).Nodup:=List.nodup_cons.2 ⟨fun h=>by have:=hb.h1 0 h;omega,hb.nd⟩
 have hVn:∀ u∈0::o,0<=u/\u<=9:=fun u hu=>by
  rcases List.mem_cons.1 hu with rfl | hu
  · omega
  · have:=hb.h1 u hu;omega
 have len:(0::o).length<=6:=by have:=hb.len;simp only[List.length_cons];omega
 have j:Jn 1 1 20 15 (0::o):=⟨by omega,by decide,by omega,by omega,by omega,nV,by
  have h1:=aBv len
  have h2:=aJc _ 6 len (by omega)
  have h3:tri 6=15:=by decide
  omega,by rw[aKR];decide⟩
 have es:=sG (fun x hx=>(hb.lk x hx).1) (by omega) hb.hw
 have e0:(0:Q)-sm enQ []=0:=by simp only[sm];grind
 have g:=aBf j l [] 0 (fun x hx=>⟨(hb.lk x hx).1,(hb.lk x hx).2.1,(hb.lk x hx).2.2⟩) (by simp) List.Pairwise.nil (by simp only[sm];have:=hb.hw;grind) ⟨0,by simp⟩ (by grind) (by have:=es.2;grind)
 rw[e0]at g
 obtain⟨g1,g2,g3,g4,g5⟩:=g
 have fo:∀ x∈l,x.fit/\x.ok:=fun x hx=>by
  obtain⟨l1,⟨l2,l3,l4⟩,_⟩:=hb.lk x hx
  refine⟨aFs (by omega) (by decide) l1 (by omega) (by omega) ?_,hVn _ l2,hVn _ l3,l4,l1.sc.1⟩
  have:=tH (fun y hy=>(hb.lk y hy).1) hx
  have:=hb.hw
  grind
 obtain⟨e1,f1,f2⟩:=aMh fo g1
 exact⟨e1,fun k hk=>⟨f1 k hk,g2 k hk⟩,g3,f2⟩
theorem aLm {l:List QL}{o:List Int}(hb:Base l o)(hg:zL l o)(ho:isOrd ((bG l [] 0).1.map QL.toL) o):aBO (l.map QL.toL) o=some ⟨(bJ l o o []).map NQ.toN⟩:=by
 unfold aBO
 rw[hb.join.1]
 simp only[Option.bind_some]
 rw[if_pos ho]
 have:=aJd hb o [] [] (TInv.start hb hg)
 rw[List.map_nil]at this
 rw[this]
 rfl
end Go.Ev
/- Links of whole numbers that tie nodes to the ground: their tree is built. -/
namespace Go.Ev
set_option linter.all false
def LkI (x:QL):Prop:=(0<=x.a/\x.a<x.b/\x.b<=5)/\∃ w p q:Int,(1<=w/\w<=9)/\(-20<=p/\p<=20)/\(-20<=q/\q<=20)/\x.w=(w:Q)/\x.x=(p:Q)/\x.y=(q:Q)
theorem aKy {B:Nat}{z:Int}(h:-(B:Int)<=z/\z<=(B:Int)):bd B (z:Q):=by
 constructor
 · have:=(_root_.Rat.intCast_le_intCast (a:=-(B:Int)) (b:=z)).2 h.1
   rw[_root_.Rat.intCast_neg]at this;exact this
 · exact(_root_.Rat.intCast_le_intCast (a:=z) (b:=(B:Int))).2 h.2
theorem LkI.lk {x:QL}(h:LkI x):Lk 1 20 x/\Dv 1 (enQ x)/\x.w<=9:=by
 obtain⟨_,w,p,q,hw,hp,hq,e1,e2,e3⟩:=h
 have w0:((0:Int):Q)<(w:Q):=_root_.Rat.intCast_lt_intCast.2 (by omega)
 have w9:(w:Q)<=((9:Int):Q):=_root_.Rat.intCast_le_intCast.2 hw.2
 have z0:((0:Int):Q)=0:=rfl
 have z9:((9:Int):Q)=9:=rfl
 have m1:mx x=((w*p:Int):Q):=by unfold mx;rw[e1,e2,_root_.Rat.intCast_mul]
 have m2:my x=((w*q:Int):Q):=by unfold my;rw[e1,e3,_root_.Rat.intCast_mul]
 have m3:enQ x=((w*(p*p+q*q):Int):Q):=by
  unfold enQ sqQ
  rw[e1,e2,e3,_root_.Rat.intCast_mul,_root_.Rat.intCast_add,_root_.Rat.intCast_mul,_root_.Rat.intCast_mul]
 refine⟨⟨⟨by rw[e1];grind,by rw[e1];exact aFM _,by rw[m1];exact aFM _,by rw[m2];exact aFM _⟩,by rw[e2];exact aKy (by omega),by rw[e3];exact aKy (by omega)⟩,by rw[m3];exact aFM _,by rw[e1];grind⟩
theorem aMW:∀ {l:List QL},(∀ x∈l,LkI x)->sm wt l<=((9*l.length:Nat):Q)
 | [],_=>by simp[sm]
 | x::l,h=>by
  have h1:=(h x (by simp)).lk.2.2
  have h2:=aMW (l:=l) (fun y hy=>h y (by simp[hy]))
  have e:(9*(x::l).length:Nat)=9+9*l.length:=by rw[List.length_cons];omega
  rw[sm,e,_root_.Rat.natCast_add]
  have e2:wt x=x.w:=rfl
  have e3:((9:Nat):Q)=9:=rfl
  rw[e2,e3];grind
structure Tie (l:List QL)(o:List Int):Prop where
 nd:o.Nodup
 mem:∀ u,u∈o↔1<=u/\∃ x∈l,x.a=u\/x.b=u
 lk:∀ x∈l,LkI x
 len:l.length<=8
 gr:zL l o
theorem Tie.five {l:List QL}{o:List Int}(h:Tie l o):∀ u∈o,1<=u/\u<=5:=by
 intro u hu
 obtain⟨h1,x,hx,ht⟩:=(h.mem u).1 hu
 have:=(h.lk x hx).1
 omega
theorem Tie.base {l:List QL}{o:List Int}(h:Tie l o):Base l o where
 nd:=h.nd
 h1:=fun u hu=>by have:=h.five u hu;omega
 len:=by
  have:=h.nd.length_le_of_subset (l₂:=[1,2,3,4,5]) (fun u hu=>by
   have:=h.five u hu
   simp only[List.mem_cons,List.not_mem_nil,or_false];omega)
  simpa using this
 lk:=fun x hx=>by
  obtain⟨h1,h2,h3⟩:=(h.lk x hx).lk
  have hn:=(h.lk x hx).1
  refine⟨h1,⟨?_,?_,hn.2.1⟩,h2⟩
  · by_cases c:x.a=0
    · rw[c];simp
    · exact List.mem_cons_of_mem _ ((h.mem _).2 ⟨by omega,x,hx,.inl rfl⟩)
  · exact List.mem_cons_of_mem _ ((h.mem _).2 ⟨by omega,x,hx,.inr rfl⟩)
 hw:=by
  have h1:=aMW h.lk
  have h2:((9*l.length:Nat):Q)<=((72:Nat):Q):=aHf (by have:=h.len;omega)
  have e:((72:Nat):Q)=72:=rfl
  grind
theorem aDk {s:List Link}{u:Int}:u∈eB s↔(1<=u/\u<=9)/\∃ x∈s,x.fA=u\/x.fB=u:=by
 unfold eB aAG tch
 rw[List.mem_filter,List.any_eq_true]
 constructor
 · rintro⟨h1,x,hx,ht⟩
   obtain⟨k,hk,rfl⟩:=List.mem_map.1 h1
   rw[List.mem_range]at hk
   exact⟨by omega,x,hx,of_decide_eq_true ht⟩
 · rintro⟨h1,x,hx,ht⟩
   exact⟨List.mem_map.2 ⟨(u-1).toNat,List.mem_range.2 (by omega),by omega⟩,x,hx,decide_eq_true ht⟩
theorem tB (s:List Link):(eB s).Nodup:=by
 unfold eB
 exact(by decide:aAG.Nodup).filter _
theorem aIF {a b:List Int}(ha:a.Nodup)(hb:b.Nodup)(h:∀ u,u∈a↔u∈b):a.length=b.length :=
 Nat.le_antisymm (ha.length_le_of_subset fun u hu=>(h u).1 hu) (hb.length_le_of_subset fun u hu=>(h u).2 hu)
theorem Tie.isOrd {l:List QL}{o:List Int}(h:Tie l o):isOrd ((bG l [] 0).1.map QL.toL) o:=by
 have key:∀ u,u∈o↔u∈eB ((bG l [] 0).1.map QL.toL):=by
  intro u
  rw[h.mem,aDk]
  constructor
  · rintro⟨h1,x,hx,ht⟩
    obtain⟨y,hy,e1,e2⟩:=pJ l [] 0 x (.inr hx)
    have:=(h.lk x hx).1
    refine⟨by omega,y.toL,List.mem_map_of_mem hy,?_⟩
    show y.a=u\/y.b=u
    rw[<- e1,<- e2];exact ht
  · rintro⟨h1,z,hz,ht⟩
    obtain⟨y,hy,rfl⟩:=List.mem_map.1 hz
    obtain⟨x,hx,e1,e2⟩:=pE l [] 0 y hy
    have hx:=hx.resolve_left (by simp)
    refine⟨h1.1,x,hx,?_⟩
    rw[e1,e2];exact ht
 exact⟨h.nd,fun y hy=>(key y).1 hy,aIF h.nd (tB _) key⟩
theorem Tie.build {l:List QL}{o:List Int}(h:Tie l o):aBO (l.map QL.toL) o=some ⟨(bJ l o o []).map NQ.toN⟩:=aLm h.base h.gr h.isOrd
theorem aGr {l:List QL}{o:List Int}(hl:∀ x∈l,0<=x.a/\x.a<x.b)(hm:∀ u,u∈o↔1<=u/\∃ x∈l,x.a=u\/x.b=u)(h:∀ u∈o,∃ x∈l,x.b=u):zL l o:=by
 intro S hS h0
 have key:∀ (n:Nat) (u:Int),u.toNat<=n->u∈o->S u->∃ x∈l,(S x.a/\¬S x.b)\/(S x.b/\¬S x.a):=by
  intro n
  induction n with
  | zero=>intro u hn hu _;have:=(hm u).1 hu;omega
  | succ n ih =>
   intro u hn hu su
   obtain⟨x,hx,e⟩:=h u hu
   have hx2:=hl x hx
   by_cases c:S x.a
   · refine ih x.a (by omega) ((hm _).2 ⟨?_,x,hx,.inl rfl⟩) c
     by_cases z:x.a=0
     · rw[z]at c;exact absurd c h0
     · omega
   · exact⟨x,hx,.inr ⟨e▸su,c⟩⟩
 obtain⟨u,hu,su⟩:=hS
 exact key u.toNat u (Nat.le_refl _) hu su
theorem aJe {n:Int}{l:List QL}{o:List Int}(h1:∀ x∈l,LkI x/\x.b<=n+1)(h2:l.length<=8)(h3:∀ k,1<=k->k<=n->∃ x∈l,x.b=k)(nd:o.Nodup)(hm:∀ u,u∈o↔1<=u/\∃ x∈l,x.a=u\/x.b=u):Tie l o where
 nd:=nd
 mem:=hm
 lk:=fun x hx=>(h1 x hx).1
 len:=h2
 gr:=aGr (fun x hx=>by have:=(h1 x hx).1.1;omega) hm fun u hu=>by
  obtain⟨g1,x,hx,ht⟩:=(hm u).1 hu
  by_cases c:u<=n
  · exact h3 u g1 c
  · have:=(h1 x hx)
    have g:=this.1.1
    refine⟨x,hx,by omega⟩
end Go.Ev
/- The cursor and what is drawn from it. -/
namespace Go.Ev
open IntKind
set_option linter.all false
theorem aEP (x:Int):0<=vG .i64 x 255/\vG .i64 x 255<=255:=by
 unfold vG
 have h:(BitVec.ofInt (IntKind.bits .i64) x &&& BitVec.ofInt (IntKind.bits .i64) 255).toNat<=255:=by
  rw[BitVec.toNat_and]
  exact Nat.le_trans Nat.and_le_right (by decide)
 rw[wi (by omega)]
 omega
def nJ (c:l01Cur):Prop:=c.fb.length<=1048576/\0<=c.fi/\c.fi<=1048577
theorem aKu (c:l01Cur)(h:nJ c):∃ r,fV c=some r/\(0<=r.1/\r.1<=255)/\nJ r.2/\r.2.fb=c.fb:=by
 obtain⟨h1,h2,h3⟩:=h
 unfold fV
 simp only[aI]
 by_cases hc:c.fi<(c.fb.length:Int)
 · rw[if_pos hc]
   have:=aG (l:=c.fb) (k:=c.fi.toNat) (by omega)
   rw[show((c.fi.toNat:Nat):Int)=c.fi by omega]at this
   rw[this]
   simp only[Option.bind_some]
   refine⟨_,rfl,aEP _,⟨h1,?_,?_⟩,rfl⟩
   · simp only[];rw[wi (by omega)];omega
   · simp only[];rw[wi (by omega)];omega
 · rw[if_neg hc]
   exact⟨_,rfl,aEP _,⟨h1,h2,h3⟩,rfl⟩
theorem nU (c:l01Cur)(n:Int)(h:nJ c)(hn:1<=n/\n<=256):∃ r,bO c n=some r/\(0<=r.1/\r.1<n)/\nJ r.2/\r.2.fb=c.fb:=by
 unfold bO
 rw[if_neg (by omega),if_pos (by omega)]
 obtain⟨r,e,g1,g2,g3⟩:=aKu c h
 rw[show(l01Cur.mk c.fb c.fi c.fh)=c from rfl,e]
 simp only[Option.bind_some]
 rw[aJ (by omega)]
 refine⟨_,rfl,⟨Int.tmod_nonneg _ g1.1,Int.tmod_lt_of_pos _ (by omega)⟩,?_,rfl⟩
 unfold nJ at g2 h ⊢
 simp only[]
 exact⟨h.1,g2.2⟩
theorem aLH (code:List Int)(h:code.length<=1048576):∃ c,mS code=some c/\nJ c/\c.fb=code:=by
 unfold mS
 simp only[aI]
 have main:∀ (m k:Nat) (v:Int),m+k=code.length->∃ d,lp (kA code) (v,(k:Int))=some d:=by
  intro m
  induction m with
  | zero =>
   intro k v hk
   exact⟨v,aF (by unfold kA;simp only[];rw[if_neg (by omega)];rfl)⟩
  | succ m ih =>
   intro k v hk
   have hlt:k<code.length:=by omega
   by_cases c:(k:Int)<4000
   · obtain⟨d,e⟩:=ih (k+1) (vG .i64 (i64.wrap (i64.wrap (i64.wrap (v*59)+i64.wrap code[k])+7)) 1073741823) (by omega)
     refine⟨d,?_⟩
     rw[aM (s':=(vG .i64 (i64.wrap (i64.wrap (i64.wrap (v*59)+i64.wrap code[k])+7)) 1073741823,((k+1:Nat):Int))),e]
     unfold kA
     simp only[]
     rw[if_pos (by omega),aG hlt]
     have w:i64.wrap ((k:Int)+1)=((k+1:Nat):Int):=by rw[wi (by omega)];omega
     simp only[Option.bind_some,decide_eq_true c,if_true,aI,w]
   · refine⟨v,aF ?_⟩
     unfold kA
     simp only[]
     rw[if_pos (by omega)]
     simp only[Option.bind_some,decide_eq_false c,Bool.false_eq_true,if_false]
 obtain⟨d,e⟩:=main code.length 0 (i64.wrap (1951+(code.length:Int))) (by omega)
 rw[show((0:Nat):Int)=0 from rfl]at e
 rw[e]
 exact⟨_,rfl,⟨h,by simp,by simp⟩,rfl⟩
end Go.Ev
/- Links that are drawn. -/
namespace Go.Ev
set_option linter.all false
theorem sR {fb:List Int}{c:l01Cur}(h:nJ c)(e:c.fb=fb):nJ ⟨fb,c.fi,c.fh⟩:=by
 subst e;exact h
def mkI (a b w x y:Int):QL:=⟨a,b,(w:Q),(x:Q),(y:Q)⟩
theorem aJT {a b w x y:Int}(h:0<=a/\a<b/\b<=5)(hw:1<=w/\w<=9)(hx:-20<=x/\x<=20)(hy:-20<=y/\y<=20):LkI (mkI a b w x y):=⟨h,w,x,y,hw,hx,hy,rfl,rfl,rfl⟩
theorem aEy {a b w x y:Int}(ha:0<=a/\a<=5)(hb:0<=b/\b<=5)(hab:a≠b)(hw:1<=w/\w<=9)(hx:-20<=x/\x<=20)(hy:-20<=y/\y<=20) :
 ∃ k:QL,nM a b w x y=some (k.toL,true)/\LkI k/\((k.a=a/\k.b=b)\/(k.a=b/\k.b=a)):=by
 unfold nM
 simp only[zW,xF,Option.bind_some]
 rw[decide_eq_true (show 0<=a/\a<=9 by omega),decide_eq_true (show 0<=b/\b<=9 by omega),decide_eq_true (show 1<=w/\w<=9999 by omega),decide_eq_true (show -1000000<=x/\x<=1000000 by omega),decide_eq_true (show -1000000<=y/\y<=1000000 by omega)]
 simp only[if_true,if_neg hab,Option.bind_some,Bool.not_true,Bool.false_eq_true,if_false]
 by_cases c:b<a
 · rw[if_pos c]
   simp only[Option.bind_some]
   rw[wi (n:=0-x) (by omega),wi (n:=0-y) (by omega),bL w (by omega),bL (0-x) (by omega),bL (0-y) (by omega),yP (z:=w) (by omega),yP (z:=0-x) (by omega),yP (z:=0-y) (by omega)]
   exact⟨mkI b a w (0-x) (0-y),rfl,aJT (by omega) hw (by omega) (by omega),.inr ⟨rfl,rfl⟩⟩
 · rw[if_neg c]
   simp only[Option.bind_some]
   rw[bL w (by omega),bL x (by omega),bL y (by omega),yP (z:=w) (by omega),yP (z:=x) (by omega),yP (z:=y) (by omega)]
   exact⟨mkI a b w x y,rfl,aJT (by omega) hw hx hy,.inl ⟨rfl,rfl⟩⟩
theorem aMk (c:l01Cur)(n:Int)(h:nJ c)(hn:1<=n/\n<=5):∃ (k:QL) (c':l01Cur),pQ c n=some (k.toL,c')/\nJ c'/\c'.fb=c.fb/\LkI k/\k.b<=n:=by
 obtain⟨r1,a1,b1,c1,d1⟩:=nU ⟨c.fb,c.fi,c.fh⟩ n h (by omega)
 obtain⟨r2,a2,b2,c2,d2⟩:=nU ⟨c.fb,r1.2.fi,r1.2.fh⟩ n (sR c1 d1) (by omega)
 obtain⟨r3,a3,b3,c3,d3⟩:=nU ⟨c.fb,r2.2.fi,r2.2.fh⟩ 9 (sR c2 d2) (by omega)
 obtain⟨r4,a4,b4,c4,d4⟩:=nU ⟨c.fb,r3.2.fi,r3.2.fh⟩ 41 (sR c3 d3) (by omega)
 obtain⟨r5,a5,b5,c5,d5⟩:=nU ⟨c.fb,r4.2.fi,r4.2.fh⟩ 41 (sR c4 d4) (by omega)
 have pick:∃ v:Int,((if(r1.1=r2.1)then(chk (IntKind.i64.wrap (n+1)≠0)).bind fun _u=>(aS ((IntKind.i64.wrap (r1.1+1)).tmod (IntKind.i64.wrap (n+1)))).bind fun v4=>some v4 else some r2.1):Option Int)=some v/\(0<=v/\v<=n)/\r1.1≠v:=by
  by_cases e:r1.1=r2.1
  · rw[if_pos e,wi (n:=n+1) (by omega),wi (n:=r1.1+1) (by omega),aJ (by omega)]
    simp only[Option.bind_some,aI]
    refine⟨_,rfl,?_⟩
    rw[Int.tmod_eq_of_lt (by omega) (by omega)];omega
  · rw[if_neg e];exact⟨_,rfl,by omega,e⟩
 obtain⟨v,ev,hv,hne⟩:=pick
 obtain⟨k,ek,hk,hk2⟩:=aEy (a:=r1.1) (b:=v) (w:=1+r3.1) (x:=r4.1-20) (y:=r5.1-20) (by omega) (by omega) hne (by omega) (by omega) (by omega)
 refine⟨k,⟨c.fb,r5.2.fi,r5.2.fh⟩,?_,sR c5 d5,rfl,hk,by omega⟩
 unfold pQ
 rw[a1];simp only[Option.bind_some]
 rw[a2];simp only[Option.bind_some]
 rw[ev];simp only[Option.bind_some]
 rw[a3];simp only[Option.bind_some]
 rw[a4];simp only[Option.bind_some]
 rw[a5];simp only[Option.bind_some]
 rw[wi (n:=1+r3.1) (by omega),wi (n:=r4.1-20) (by omega),wi (n:=r5.1-20) (by omega),ek]
 rfl
structure LinkL (n:Int)(l:List QL):Prop where
 each:∀ x∈l,LkI x/\x.b<=n+1
 len:l.length<=7
 all:∀ k,1<=k->k<=n->∃ x∈l,x.b=k
theorem aMZ (c:l01Cur)(n:Int)(hn:1<=n/\n<=4):∀ (m k:Nat) (l:List QL) (fi fh:Int),(m:Int)+k=n+1->1<=k->nJ ⟨c.fb,fi,fh⟩->l.length=k-1->(∀ x∈l,LkI x/\x.b<=n)->(∀ j:Int,1<=j->j<k->∃ x∈l,x.b=j)->
 ∃ (l':List QL) (fi' fh':Int),lp (iT c n) ((k:Int),l.map QL.toL,fi,fh)=some (l'.map QL.toL,fi',fh')/\nJ ⟨c.fb,fi',fh'⟩/\(l'.length:Int)=n/\(∀ x∈l',LkI x/\x.b<=n)/\∀ j:Int,1<=j->j<=n->∃ x∈l',x.b=j:=by
 intro m
 induction m with
 | zero =>
  intro k l fi fh hm hk hc hl he ha
  refine⟨l,fi,fh,aF ?_,hc,by omega,he,fun j h1 h2=>ha j h1 (by omega)⟩
  unfold iT
  simp only[]
  rw[if_neg (by omega)]
 | succ m ih =>
  intro k l fi fh hm hk hc hl he ha
  obtain⟨r1,a1,b1,c1,d1⟩:=nU ⟨c.fb,fi,fh⟩ k hc (by omega)
  obtain⟨r2,a2,b2,c2,d2⟩:=nU ⟨c.fb,r1.2.fi,r1.2.fh⟩ 9 (sR c1 d1) (by omega)
  obtain⟨r3,a3,b3,c3,d3⟩:=nU ⟨c.fb,r2.2.fi,r2.2.fh⟩ 41 (sR c2 d2) (by omega)
  obtain⟨r4,a4,b4,c4,d4⟩:=nU ⟨c.fb,r3.2.fi,r3.2.fh⟩ 41 (sR c3 d3) (by omega)
  obtain⟨q,eq,hq,hq2⟩:=aEy (a:=r1.1) (b:=k) (w:=1+r2.1) (x:=r3.1-20) (y:=r4.1-20) (by omega) (by omega) (by omega) (by omega) (by omega) (by omega)
  have hqb:q.b=k:=by have:=hq.1;omega
  have st:iT c n ((k:Int),l.map QL.toL,fi,fh)=some (.inl (((k+1:Nat):Int),(l++[q]).map QL.toL,r4.2.fi,r4.2.fh)):=by
   unfold iT
   simp only[]
   rw[if_pos (by omega),a1]
   simp only[Option.bind_some]
   rw[a2]
   simp only[Option.bind_some]
   rw[a3]
   simp only[Option.bind_some]
   rw[a4]
   simp only[Option.bind_some]
   rw[wi (n:=1+r2.1) (by omega),wi (n:=r3.1-20) (by omega),wi (n:=r4.1-20) (by omega),eq]
   simp only[Option.bind_some]
   rw[aJ (by rw[List.length_map];omega),wi (n:=(k:Int)+1) (by omega)]
   simp only[Option.bind_some,aI,List.map_append,List.map_cons,List.map_nil]
   rfl
  rw[aM st]
  refine ih (k+1) (l++[q]) r4.2.fi r4.2.fh (by omega) (by omega) (sR c4 d4) (by rw[List.length_append,List.length_singleton];omega) (fun x hx=>?_) (fun j h1 h2=>?_)
  · rcases List.mem_append.1 hx with hx | hx
    · exact he x hx
    · simp at hx;subst hx;exact⟨hq,by omega⟩
  · by_cases e:j=k
    · exact⟨q,by simp,by omega⟩
    · obtain⟨x,hx,h⟩:=ha j h1 (by omega)
      exact⟨x,by simp[hx],h⟩
theorem aMY (c:l01Cur)(n:Int)(hn:1<=n/\n<=4):∀ (m:Nat) (l:List QL) (fi fh:Int),nJ ⟨c.fb,fi,fh⟩->l.length+m<=7->(∀ x∈l,LkI x/\x.b<=n+1)->
 ∃ (l':List QL) (fi' fh':Int),lp (iS c n) ((m:Int),l.map QL.toL,fi,fh)=some ((l++l').map QL.toL,fi',fh')/\nJ ⟨c.fb,fi',fh'⟩/\(l++l').length<=7/\∀ x∈l++l',LkI x/\x.b<=n+1:=by
 intro m
 induction m with
 | zero =>
  intro l fi fh hc hl he
  refine⟨[],fi,fh,aF ?_,hc,by simpa using hl,by simpa using he⟩
  unfold iS
  simp only[]
  rw[if_neg (by omega),List.append_nil]
 | succ m ih =>
  intro l fi fh hc hl he
  obtain⟨q,c',a1,a2,a3,a4,a5⟩:=aMk ⟨c.fb,fi,fh⟩ (n+1) hc (by omega)
  have st:iS c n (((m+1:Nat):Int),l.map QL.toL,fi,fh)=some (.inl ((m:Int),(l++[q]).map QL.toL,c'.fi,c'.fh)):=by
   unfold iS
   simp only[]
   rw[if_pos (by omega),wi (n:=n+1) (by omega),a1]
   simp only[Option.bind_some]
   rw[aJ (by rw[List.length_map];omega),wi (n:=((m+1:Nat):Int)-1) (by omega)]
   simp only[Option.bind_some,aI,List.map_append,List.map_cons,List.map_nil]
   rw[show((m+1:Nat):Int)-1=(m:Int)by omega]
  rw[aM st]
  obtain⟨l',fi',fh',g1,g2,g3,g4⟩:=ih (l++[q]) c'.fi c'.fh (sR a2 a3) (by rw[List.length_append,List.length_singleton];omega) (fun x hx=>by
   rcases List.mem_append.1 hx with hx | hx
   · exact he x hx
   · simp at hx;subst hx;exact⟨a4,a5⟩)
  have e:l++[q]++l'=l++(q::l'):=by simp
  rw[e]at g1 g3 g4
  exact⟨q::l',fi',fh',g1,g2,g3,g4⟩
theorem aMg (c:l01Cur)(n:Int)(h:nJ c)(hn:1<=n/\n<=4):∃ (l:List QL) (c':l01Cur),nL c n=some (l.map QL.toL,c')/\nJ c'/\c'.fb=c.fb/\LinkL n l:=by
 obtain⟨l1,f1,g1,e1,o1,n1,h1,a1⟩:=aMZ c n hn n.toNat 1 [] c.fi c.fh (by omega) (by omega) h rfl (by simp) (fun j h1 h2=>by omega)
 obtain⟨r,e2,b2,o2,d2⟩:=nU ⟨c.fb,f1,g1⟩ 4 o1 (by omega)
 obtain⟨l2,f3,g3,e3,o3,n3,h3⟩:=aMY c n hn r.1.toNat l1 r.2.fi r.2.fh (sR o2 d2) (by omega) (fun x hx=>⟨(h1 x hx).1,by have:=(h1 x hx).2;omega⟩)
 refine⟨l1++l2,⟨c.fb,f3,g3⟩,?_,o3,rfl,⟨h3,n3,fun k k1 k2=>?_⟩⟩
 · unfold nL
   rw[show((1:Nat):Int)=1 from rfl,List.map_nil]at e1
   rw[e1]
   simp only[Option.bind_some]
   rw[e2]
   simp only[Option.bind_some]
   rw[show((r.1.toNat:Nat):Int)=r.1 by omega]at e3
   rw[e3]
   rfl
 · obtain⟨x,hx,e⟩:=a1 k k1 k2
   exact⟨x,by simp[hx],e⟩
end Go.Ev
/- Is it a tree, both programs, and the law. -/
namespace Go.Ev
set_option linter.all false
end Go.Ev
/- Paths of a tree end: what a tree's node hands up lies later in the order. -/
namespace Go.Ev
set_option linter.all false
def pr (s:List Link)(x y:Int):Prop:=∃ l∈s,l.fA=x/\l.fB=y
theorem aFi {a b:List Link}{x y:Int}:pr (a++b) x y↔pr a x y\/pr b x y:=by
 unfold pr
 constructor
 · rintro⟨l,h,e⟩
   rcases List.mem_append.1 h with h | h
   · exact .inl ⟨l,h,e⟩
   · exact .inr ⟨l,h,e⟩
 · rintro(⟨l,h,e⟩ | ⟨l,h,e⟩)
   · exact⟨l,List.mem_append_left _ h,e⟩
   · exact⟨l,List.mem_append_right _ h,e⟩
theorem aCx {a:List Link}{l:Link}{x y:Int}:pr (l::a) x y↔(l.fA=x/\l.fB=y)\/pr a x y:=by
 unfold pr;simp only[List.mem_cons,exists_eq_or_imp]
theorem aJC {x y:Int}:¬pr [] x y:=by rintro⟨l,h,_⟩;cases h
theorem aLq {s:List Link}{l:Link}{s':List Link}{e:Rat}(h:xO s l=some (s',e))(x y:Int):pr s' x y↔pr s x y\/(l.fA=x/\l.fB=y):=by
 have ins:∀ p,pr (s.take p++[l]++s.drop p) x y↔pr s x y\/(l.fA=x/\l.fB=y):=by
  intro p
  have e1:pr s x y↔pr (s.take p) x y\/pr (s.drop p) x y:=by rw[<- aFi,List.take_append_drop]
  rw[e1,List.append_assoc,aFi,List.singleton_append,aCx]
  constructor
  · rintro(h | h | h)
    · exact .inl (.inl h)
    · exact .inr h
    · exact .inl (.inr h)
  · rintro((h | h) | h)
    · exact .inl h
    · exact .inr (.inr h)
    · exact .inr (.inl h)
 unfold xO at h
 by_cases c:cY l s<s.length
 · rw[dif_pos c]at h
   by_cases c2:dW l s[cY l s]
   · rw[if_pos c2]at h;cases h;exact ins _
   · rw[if_neg c2]at h
     have nl:=zQ l s c
     have hA:s[cY l s].fA=l.fA/\s[cY l s].fB=l.fB:=by unfold dW at c2 nl;omega
     by_cases O:uR s[cY l s] l
     · rw[if_pos O]at h;cases h
       have e1:pr s x y↔pr (s.take (cY l s)) x y\/((s[cY l s].fA=x/\s[cY l s].fB=y)\/pr (s.drop (cY l s+1)) x y):=by
        rw[<- aCx,<- List.drop_eq_getElem_cons c,<- aFi,List.take_append_drop]
       rw[e1,List.append_assoc,aFi,List.singleton_append,aCx]
       have e2:(yF s[cY l s] l).fA=s[cY l s].fA:=rfl
       have e3:(yF s[cY l s] l).fB=s[cY l s].fB:=rfl
       rw[e2,e3,hA.1,hA.2]
       constructor
       · rintro(h | h | h)
         · exact .inl (.inl h)
         · exact .inr h
         · exact .inl (.inr (.inr h))
       · rintro((h | h | h) | h)
         · exact .inl h
         · exact .inr (.inl h)
         · exact .inr (.inr h)
         · exact .inr (.inl h)
     · rw[if_neg O]at h;cases h
 · rw[dif_neg c]at h;cases h;exact ins _
theorem aGn:∀ (l s:List Link) (e:Rat) (s':List Link) (e':Rat),qM l s e=some (s',e')->∀ x y,pr s' x y↔pr s x y\/pr l x y
 | [],s,e,s',e',h,x,y=>by
  rw[qM]at h;cases h
  exact⟨.inl,fun h=>h.elim id (fun h=>(aJC h).elim)⟩
 | a::r,s,e,s',e',h,x,y=>by
  rw[qM]at h
  cases ha:xO s a with
  | none=>rw[ha]at h;cases h
  | some t =>
   obtain⟨s1,e1⟩:=t
   rw[ha]at h
   simp only[]at h
   by_cases c:bA (RA e e1)
   · rw[if_pos c]at h
     rw[aGn r s1 _ s' e' h x y,aLq ha,aCx,or_assoc]
   · rw[if_neg c]at h;cases h
theorem aJ3 {l s:List Link}{e:Rat}(h:jnP l=some (s,e))(x y:Int):pr s x y↔pr l x y:=by
 unfold jnP at h
 by_cases c:∀ x∈l,ValidL x
 · rw[if_pos c]at h
   rw[aGn l [] _ s e h x y]
   exact⟨fun h=>h.elim (fun h=>(aJC h).elim) id,.inr⟩
 · rw[if_neg c]at h;cases h
def adj (s:List Link)(x y:Int):Prop:=pr s x y\/pr s y x
def en (s:List Link)(x:Int):Prop:=∃ y,adj s x y
structure PathN (o:List Int)(n:TreeNode):Prop where
 near:∀ x,en n.fMessages x->x∈aC8 n.fCond
 clq:∀ x y,x∈aC8 n.fCond->y∈aC8 n.fCond->x<y->pr n.fMessages x y
 late:∀ i (h:i<o.length),o[i]=n.fNode->∀ p∈aC8 n.fCond,p∉o.take (i+1)
end Go.Ev
/- Trees in another order, and the nodes that a change affects: both programs, and the laws. -/
namespace Go.Ev
set_option linter.all false
end Go.Ev
/- The law of building a tree; inserting a link, both programs, and the law. -/
namespace Go.Ev
set_option linter.all false
end Go.Ev
/- Cliques: their nodes in order. -/
set_option linter.all false
namespace Go.Ev
set_option linter.all false
end Go.Ev
/- Deleting a link, both programs, and the law. -/
namespace Go.Ev
set_option linter.all false
theorem aL3 {α:Type}(l:List α)(k:Nat)(h:k+1<=l.length)(hl:l.length<=4294967296):sub l (IntKind.i64.wrap ((k:Int)+1)) (l.length:Int)=some (l.drop (k+1)):=by
 rw[wi (by omega),kV _ _ _ (by omega)]
 congr 1
 rw[show((k:Int)+1).toNat=k+1 by omega]
 exact List.take_of_length_le (by simp;omega)
theorem aF6 {s u:List Link}{e:Rat}(h:jnP s=some (u,e)):eB u=eB s:=by
 refine wN (wY u) (wY s) fun x=>?_
 have h1:∀ (a b:List Link),(∀ x y,pr a x y->pr b x y)->(∃ l∈a,l.fA=x\/l.fB=x)->∃ l∈b,l.fA=x\/l.fB=x:=by
  rintro a b hab ⟨l,hl,c⟩
  obtain⟨m,hm,e1,e2⟩:=hab l.fA l.fB ⟨l,hl,rfl,rfl⟩
  exact⟨m,hm,by rw[e1,e2];exact c⟩
 rw[wX,wX]
 exact⟨fun⟨a,b⟩=>⟨a,h1 u s (fun x y=>(aJ3 h x y).1) b⟩,fun⟨a,b⟩=>⟨a,h1 s u (fun x y=>(aJ3 h x y).2) b⟩⟩
end Go.Ev
/- Trees that are drawn. -/
namespace Go.Ev
set_option linter.all false
theorem LinkL.tie {n:Int}{l:List QL}(h:LinkL n l){o:List Int}(nd:o.Nodup)(hm:∀ u,u∈o↔u∈eB (l.map QL.toL)):Tie l o:=by
 refine aJe h.each (by have:=h.len;omega) h.all nd fun u=>?_
 rw[hm,aDk]
 constructor
 · rintro⟨h1,z,hz,ht⟩
   obtain⟨y,hy,rfl⟩:=List.mem_map.1 hz
   exact⟨h1.1,y,hy,ht⟩
 · rintro⟨h1,y,hy,ht⟩
   have:=(h.each y hy).1.1
   exact⟨by omega,y.toL,List.mem_map_of_mem hy,ht⟩
theorem LinkL.tie0 {n:Int}{l:List QL}(h:LinkL n l):Tie l (eB (l.map QL.toL)):=h.tie (tB _) fun _=>Iff.rfl
theorem Base.valid {l:List QL}{o:List Int}(hb:Base l o):∀ x∈l.map QL.toL,ValidL x:=by
 intro x hx
 have:=hb.join.1
 exact(yY this).1 x hx
theorem Tie.sz {l:List QL}{o:List Int}(h:Tie l o):aW (l.map QL.toL)<=2000:=by
 have h1:=zM h.base.valid
 rw[List.length_map]at h1
 have:=h.len
 omega
theorem Tie.join {l:List QL}{o:List Int}(h:Tie l o):∃ s e,jnP (l.map QL.toL)=some (s,e)/\LSet s/\eB s=eB (l.map QL.toL):=by
 have h1:=h.base.join.1
 exact⟨_,_,h1,(yY h1).2.1,aF6 h1⟩
theorem aJG (c:l01Cur)(s:List Int)(hs:s.length<=9):∀ (m k:Nat) (a:List Int) (fi fh:Int),m+k=s.length->nJ ⟨c.fb,fi,fh⟩->a.Perm (s.take k)->
 ∃ (a':List Int) (fi' fh':Int),lp (lJ c s) ((k:Int),a,fi,fh)=some (a',fi',fh')/\nJ ⟨c.fb,fi',fh'⟩/\a'.Perm s:=by
 intro m
 induction m with
 | zero =>
  intro k a fi fh hm hc hp
  refine⟨a,fi,fh,aF ?_,hc,by rw[List.take_of_length_le (by omega)]at hp;exact hp⟩
  unfold lJ
  simp only[]
  rw[if_neg (by omega)]
 | succ m ih =>
  intro k a fi fh hm hc hp
  have hlt:k<s.length:=by omega
  have hl:a.length=k:=by rw[hp.length_eq,List.length_take];omega
  obtain⟨r,a1,b1,c1,d1⟩:=nU ⟨c.fb,fi,fh⟩ ((k:Int)+1) hc (by omega)
  have e1:sub a 0 r.1=some (a.take r.1.toNat):=by rw[kV _ _ _ (by omega)];simp
  have e2:sub a r.1 (a.length:Int)=some (a.drop r.1.toNat):=by
   rw[kV _ _ _ (by omega),List.take_of_length_le (by rw[List.length_drop];omega)]
  have t1:(a.take r.1.toNat).length<=9:=by rw[List.length_take];omega
  have t2:(a.drop r.1.toNat).length<=9:=by rw[List.length_drop];omega
  have st:lJ c s ((k:Int),a,fi,fh)=some (.inl (((k+1:Nat):Int),a.take r.1.toNat++[s[k]]++a.drop r.1.toNat,r.2.fi,r.2.fh)):=by
   unfold lJ
   simp only[]
   rw[if_pos (by omega),aG hlt]
   simp only[Option.bind_some,aI]
   rw[wi (n:=(a.length:Int)+1) (by omega),hl,a1]
   simp only[Option.bind_some]
   rw[e1]
   simp only[Option.bind_some,List.nil_append,List.length_nil,Nat.zero_add]
   rw[aJ (by omega)]
   simp only[Option.bind_some,aI]
   rw[aJ (by omega)]
   simp only[Option.bind_some,aI]
   rw[hl]at e2
   rw[e2]
   simp only[Option.bind_some]
   rw[aJ (by rw[List.length_append,List.length_singleton];omega),wi (n:=(k:Int)+1) (by omega)]
   rfl
  rw[aM st]
  refine ih (k+1) _ _ _ (by omega) (sR c1 d1) ?_
  rw[List.take_add_one,List.getElem?_eq_getElem hlt]
  have p1:(a.take r.1.toNat++[s[k]]++a.drop r.1.toNat).Perm (a++[s[k]]):=by
   rw[List.append_assoc]
   refine(List.Perm.append_left _ List.perm_append_comm).trans ?_
   rw[<- List.append_assoc,List.take_append_drop]
  exact p1.trans (hp.append_right _)
def yI (l:List QL)(o:List Int):Tree:=⟨(bJ l o o []).map NQ.toN⟩
theorem aLl (c:l01Cur)(n:Int)(h:nJ c):∀ (m:Nat) (k fi fh:Int),m+k=n->0<=k->n<=1000->nJ ⟨c.fb,fi,fh⟩->∃ fi' fh',lp (mK n c) (k,fi,fh)=some (fi',fh')/\nJ ⟨c.fb,fi',fh'⟩:=by
 intro m
 induction m with
 | zero =>
  intro k fi fh hm hk hn hc
  exact⟨fi,fh,aF (by unfold mK;simp only[];rw[if_neg (by omega)]),hc⟩
 | succ m ih =>
  intro k fi fh hm hk hn hc
  obtain⟨r,a1,b1,c1,d1⟩:=aKu ⟨c.fb,fi,fh⟩ hc
  obtain⟨f2,g2,e2,c2⟩:=ih (k+1) r.2.fi r.2.fh (by omega) (by omega) hn (sR c1 d1)
  refine⟨f2,g2,?_,c2⟩
  rw[aM (s':=(k+1,r.2.fi,r.2.fh)),e2]
  unfold mK
  simp only[]
  rw[if_pos (by omega),a1]
  simp only[Option.bind_some]
  rw[wi (n:=k+1) (by omega)]
theorem aK9 (code:List Int)(n:Int)(hn:0<=n/\n<=1000)(h:code.length<=1048576):∃ c,rT code n=some c/\nJ c:=by
 obtain⟨c,e1,c1,f1⟩:=aLH code h
 obtain⟨f2,g2,e2,c2⟩:=aLl c n c1 n.toNat 0 c.fi c.fh (by omega) (by omega) hn.2 c1
 refine⟨⟨c.fb,f2,g2⟩,?_,c2⟩
 unfold rT
 rw[e1];simp only[Option.bind_some]
 rw[e2]
 rfl
end Go.Ev
/- The program alone: links, order and test of a tree (the seat lacks the other program's). -/
namespace Go.Ev
set_option linter.all false
end Go.Ev
/- Inserting all links, both programs, and the law. -/
namespace Go.Ev
set_option linter.all false
end Go.Ev
/- What is built on tied links is a tree. -/
namespace Go.Ev
set_option linter.all false
theorem yH (l:List QL)(o:List Int):∀ (r:List Int) (b:List NQ),(bJ l o r b).map (fun n=>n.node)=b.map (fun n=>n.node)++r
 | [],b=>by simp[bJ]
 | v::r,b=>by
  rw[bJ,yH l o r]
  simp only[List.map_append,List.map_cons,List.map_nil,List.append_assoc,List.singleton_append]
  rfl
theorem Tie.owner {l:List QL}{o:List Int}(h:Tie l o):∀ x∈l,aR o [x.a,x.b]∈o:=by
 intro x hx
 have hb:=h.base
 have hbm:x.b∈o:=(h.mem _).2 ⟨by have:=(h.lk x hx).1;omega,x,hx,.inr rfl⟩
 rcases aBi (s:=[x.a,x.b]) (fun u hu=>(hb.h1 u hu).1)with⟨_,h4⟩ | ⟨p,v,r,e,h2,h3,h4⟩
 · exact absurd (by simp) (h4 _ hbm)
 · rw[h2,e];simp
end Go.Ev
/- The law of the paths of a tree. -/
namespace Go.Ev
set_option linter.all false
end Go.Ev
/- The cliques of a tree, both programs, and the law. -/
namespace Go.Ev
set_option linter.all false
end Go.Ev
/- Nodes that hang on nothing: a tree is not built. -/
namespace Go.Ev
set_option linter.all false
end Go.Ev
/- A link that hangs on nothing cannot be inserted. -/
namespace Go.Ev
set_option linter.all false
end Go.Ev
/- Inserting a link that hangs on the tree. -/
namespace Go.Ev
set_option linter.all false
end Go.Ev
/- Nodes that an inserted link does not change. -/
namespace Go.Ev
set_option linter.all false
theorem wK (l:List QL)(o:List Int)(v:Int):∀ (p:List Int) (b:List NQ),bJ l o (p++[v]) b=bJ l o p b++[nxt l o v (bJ l o p b)]
 | [],b=>rfl
 | u::p,b=>by rw[List.cons_append,bJ,bJ,wK l o v p]
theorem TInv.at {l:List QL}{o:List Int}(hb:Base l o)(hg:zL l o):∀ (n:Nat) (p r:List Int),p.length=n->o=p++r->TInv l o p r (bJ l o p [])
 | 0,p,r,hn,e=>by
  have:p=[]:=List.length_eq_zero_iff.1 hn
  subst this
  rw[List.nil_append]at e
  subst e
  exact TInv.start hb hg
 | n+1,p,r,hn,e=>by
  rcases List.eq_nil_or_concat p with rfl | ⟨q,v,rfl⟩
  · simp at hn
  · rw[List.concat_eq_append]at hn e ⊢
    have ih:=TInv.at hb hg n q (v::r) (by simpa using hn) (by rw[e,List.append_assoc];rfl)
    rw[wK]
    exact(ih.next hb).1
end Go.Ev
/- A tree and a further order of its nodes, drawn. -/
namespace Go.Ev
set_option linter.all false
theorem aIE (c:l01Cur)(s:List Int)(hs:s.length<=9):∀ (m k:Nat) (a:List Int) (fi fh:Int),m+k=s.length->nJ ⟨c.fb,fi,fh⟩->a.Perm (s.take k)->
 ∃ a':List Int,lp (gQ s c) ((k:Int),fi,fh,a)=some a'/\a'.Perm s:=by
 intro m
 induction m with
 | zero =>
  intro k a fi fh hm hc hp
  refine⟨a,aF ?_,by rw[List.take_of_length_le (by omega)]at hp;exact hp⟩
  unfold gQ
  simp only[]
  rw[if_neg (by omega)]
 | succ m ih =>
  intro k a fi fh hm hc hp
  have hlt:k<s.length:=by omega
  have hl:a.length=k:=by rw[hp.length_eq,List.length_take];omega
  obtain⟨r,a1,b1,c1,d1⟩:=nU ⟨c.fb,fi,fh⟩ ((k:Int)+1) hc (by omega)
  have e1:sub a 0 r.1=some (a.take r.1.toNat):=by rw[kV _ _ _ (by omega)];simp
  have e2:sub a r.1 (a.length:Int)=some (a.drop r.1.toNat):=by
   rw[kV _ _ _ (by omega),List.take_of_length_le (by rw[List.length_drop];omega)]
  have t1:(a.take r.1.toNat).length<=9:=by rw[List.length_take];omega
  have t2:(a.drop r.1.toNat).length<=9:=by rw[List.length_drop];omega
  have st:gQ s c ((k:Int),fi,fh,a)=some (.inl (((k+1:Nat):Int),r.2.fi,r.2.fh,a.take r.1.toNat++[s[k]]++a.drop r.1.toNat)):=by
   unfold gQ
   simp only[]
   rw[if_pos (by omega),aG hlt]
   simp only[Option.bind_some,aI]
   rw[wi (n:=(a.length:Int)+1) (by omega),hl,a1]
   simp only[Option.bind_some]
   rw[e1]
   simp only[Option.bind_some,List.nil_append,List.length_nil,Nat.zero_add]
   rw[aJ (by omega)]
   simp only[Option.bind_some,aI]
   rw[aJ (by omega)]
   simp only[Option.bind_some,aI]
   rw[hl]at e2
   rw[e2]
   simp only[Option.bind_some]
   rw[aJ (by rw[List.length_append,List.length_singleton];omega),wi (n:=(k:Int)+1) (by omega)]
   rfl
  rw[aM st]
  refine ih (k+1) _ _ _ (by omega) (sR c1 d1) ?_
  rw[List.take_add_one,List.getElem?_eq_getElem hlt]
  have p1:(a.take r.1.toNat++[s[k]]++a.drop r.1.toNat).Perm (a++[s[k]]):=by
   rw[List.append_assoc]
   refine(List.Perm.append_left _ List.perm_append_comm).trans ?_
   rw[<- List.append_assoc,List.take_append_drop]
  exact p1.trans (hp.append_right _)
theorem aK7 (code:List Int)(h:code.length<=1048576){n:Int}{l:List QL}(hl:LinkL n l)(es:dG (l.map QL.toL)=some (pk (jnP (l.map QL.toL)))) :
 ∃ s o,(dG (l.map QL.toL)).bind (fun r=>some r.1)=some s/\kB code s=some o/\Tie l o/\∃ e,jnP (l.map QL.toL)=some (s,e):=by
 obtain⟨s,e,j1,j2,j3⟩:=hl.tie0.join
 rw[j1]at es
 obtain⟨c,e1,c1⟩:=aK9 code 9 (by omega) h
 have ns:=aBS j2
 rw[j3]at ns
 obtain⟨o,a3,p3⟩:=aIE c (eB (l.map QL.toL)) (tQ _) _ 0 [] c.fi c.fh (Nat.add_zero _) c1 (by simp)
 refine⟨s,o,by rw[es];rfl,?_,hl.tie (p3.nodup_iff.2 (tB _)) (fun u=>p3.mem_iff),e,j1⟩
 unfold kB
 rw[e1];simp only[Option.bind_some]
 rw[ns];simp only[Option.bind_some]
 rw[show((0:Nat):Int)=0 from rfl]at a3
 rw[a3]
 rfl
theorem aMn (code:List Int)(h:code.length<=1048576):∃ (n:Int) (l:List QL) (o o2:List Int) (S:List Link),aAk code=some (yI l o)/\iG code=some (l.map QL.toL)/\pS code=some S/\kB code S=some o2/\LinkL n l/\(1<=n/\n<=4)/\Tie l o/\Tie l o2/\∃ e,jnP (l.map QL.toL)=some (S,e):=by
 obtain⟨c,e1,c1,f1⟩:=aLH code h
 obtain⟨r,a1,b1,cc1,d1⟩:=nU ⟨c.fb,c.fi,c.fh⟩ 4 c1 (by omega)
 obtain⟨l,c2,a2,o2,f2,hl⟩:=aMg ⟨c.fb,r.2.fi,r.2.fh⟩ (1+r.1) (sR cc1 d1) (by omega)
 obtain⟨s,e,j1,j2,j3⟩:=hl.tie0.join
 have hz:=hl.tie0.sz
 have js:=(uU (l.map QL.toL) (by omega)).1
 obtain⟨S,ord2,q1,q2,q3,q4⟩:=aK7 code h hl js
 rw[j1]at js
 have ns:=aBS j2
 rw[j3]at ns
 obtain⟨o,f3,g3,a3,o3,p3⟩:=aJG c (eB (l.map QL.toL)) (tQ _) _ 0 [] c2.fi c2.fh (Nat.add_zero _) (sR o2 f2) (by simp)
 have ht:Tie l o:=hl.tie (p3.nodup_iff.2 (tB _)) fun u=>p3.mem_iff
 have el:wP ⟨c.fb,c.fi,c.fh⟩=some (l.map QL.toL,o,⟨c.fb,f3,g3⟩):=by
  unfold wP
  rw[a1];simp only[Option.bind_some]
  rw[wi (n:=1+r.1) (by omega),a2];simp only[Option.bind_some]
  rw[js];simp only[Option.bind_some,pk]
  rw[ns];simp only[Option.bind_some]
  rw[show((0:Nat):Int)=0 from rfl]at a3
  rw[a3]
  rfl
 have hz2:=ht.sz
 have ho:o.length<=5:=ht.base.len
 have bq:=(aIs (l.map QL.toL) o (by omega) (by omega)).1
 rw[ht.build]at bq
 have em:iG code=some (l.map QL.toL):=by
  unfold iG
  rw[e1];simp only[Option.bind_some]
  rw[a1];simp only[Option.bind_some]
  rw[wi (n:=1+r.1) (by omega),a2]
  rfl
 refine⟨1+r.1,l,o,ord2,S,?_,em,?_,q2,hl,by omega,ht,q3,q4⟩
 · unfold aAk aAR
   rw[e1];simp only[Option.bind_some]
   rw[el];simp only[Option.bind_some]
   rw[bq]
   rfl
 · unfold pS
   rw[em];simp only[Option.bind_some]
   exact q1
end Go.Ev
/- Grids: which pairs are linked, and what eliminating a node does. -/
namespace Go.Ev
open IntKind
set_option linter.all false
set_option maxHeartbeats 1000000
def gf (g:Nat->Bool)(x y:Nat):Bool:=g (x*10+y*1)
theorem aBu {g:Nat->Bool}{a b x y:Nat}{v:Bool}(hb:b<10)(hy:y<10):gf (qO g (a*10+b*1) v) x y=if x=a/\y=b then v else gf g x y:=by
 unfold gf qO
 by_cases c:x=a/\y=b
 · rw[if_pos c,if_pos (by omega)]
 · rw[if_neg c,if_neg (by omega)]
def Bef (i j a b:Nat):Prop:=a<i\/(a=i/\b<j)
structure CutI (g:Nat->Bool)(v i j:Nat)(h:Nat->Bool):Prop where
 at':∀ x y,x<10->y<10->(gf h x y=true↔gf g x y=true\/(gf g v x=true/\gf g v y=true/\((x<y/\Bef i j x y)\/(y<x/\Bef i j y x))))
section
variable {g:Nat->Bool}{v:Nat}
theorem CutI.row {i j:Nat}{h:Nat->Bool}(hv:v<10)(dg:gf g v v=false)(c:CutI g v i j h){x:Nat}(hx:x<10):gf h v x=gf g v x:=by
 have e:=c.at' v x hv hx
 rw[dg]at e
 cases a:gf h v x with
 | true=>exact((e.1 a).resolve_right (by simp)).symm
 | false =>
  cases b:gf g v x with
  | false=>rfl
  | true=>rw[a]at e;exact absurd (e.2 (.inl b)) (by simp)
theorem CutI.here {i j:Nat}{h:Nat->Bool}(c:CutI g v i j h)(hij:i<j)(hi:i<10)(hj:j<10):gf h i j=gf g i j:=by
 have e:=c.at' i j hi hj
 have nb:¬((i<j/\Bef i j i j)\/(j<i/\Bef i j j i)):=by unfold Bef;omega
 cases a:gf h i j with
 | true =>
  rcases e.1 a with h1 | ⟨_,_,h3⟩
  · exact h1.symm
  · exact absurd h3 nb
 | false =>
  cases b:gf g i j with
  | false=>rfl
  | true=>rw[a]at e;exact absurd (e.2 (.inl b)) (by simp)
theorem CutI.set {i j:Nat}{h:Nat->Bool}(sy:∀ x y,x<10->y<10->gf g x y=gf g y x)(c:CutI g v i j h)(hij:i<j)(hi:i<10)(hj:j<10)(h1:gf g v i=true)(h2:gf g v j=true):CutI g v i (j+1) (qO (qO h (i*10+j*1) true) (j*10+i*1) true) where
 at':=fun x y hx hy=>by
  rw[aBu hi hy,aBu hj hy]
  by_cases c1:x=j/\y=i
  · obtain⟨rfl,rfl⟩:=c1
    rw[if_pos ⟨rfl,rfl⟩]
    simp only[true_iff]
    exact .inr ⟨h2,h1,.inr ⟨hij,by unfold Bef;omega⟩⟩
  · rw[if_neg c1]
    by_cases c2:x=i/\y=j
    · obtain⟨rfl,rfl⟩:=c2
      rw[if_pos ⟨rfl,rfl⟩]
      simp only[true_iff]
      exact .inr ⟨h1,h2,.inl ⟨hij,by unfold Bef;omega⟩⟩
    · rw[if_neg c2,c.at' x y hx hy]
      have e:((x<y/\Bef i (j+1) x y)\/(y<x/\Bef i (j+1) y x))↔((x<y/\Bef i j x y)\/(y<x/\Bef i j y x)):=by
       unfold Bef;omega
      rw[e]
theorem CutI.skip {i j:Nat}{h:Nat->Bool}(sy:∀ x y,x<10->y<10->gf g x y=gf g y x)(c:CutI g v i j h)(hij:i<j)(hi:i<10)(hj:j<10)(hn:¬(gf g v i=true/\gf g v j=true/\gf g i j=false)):CutI g v i (j+1) h where
 at':=fun x y hx hy=>by
  rw[c.at' x y hx hy]
  constructor
  · rintro(h1 | ⟨h1,h2,h3⟩)
    · exact .inl h1
    · refine .inr ⟨h1,h2,?_⟩
      unfold Bef at h3 ⊢;omega
  · rintro(h1 | ⟨h1,h2,h3⟩)
    · exact .inl h1
    · by_cases c1:(x<y/\Bef i j x y)\/(y<x/\Bef i j y x)
      · exact .inr ⟨h1,h2,c1⟩
      · left
        have:(x=i/\y=j)\/(y=i/\x=j):=by unfold Bef at h3 c1;omega
        rcases this with⟨rfl,rfl⟩ | ⟨rfl,rfl⟩
        · cases b:gf g x y with
          | true=>rfl
          | false=>exact absurd ⟨h1,h2,b⟩ hn
        · rw[sy x y hx hy]
          cases b:gf g y x with
          | true=>rfl
          | false=>exact absurd ⟨h2,h1,b⟩ hn
theorem aL9 {n:Nat}:((n:Int)).toNat=n:=Int.toNat_natCast n
theorem aCa {n:Nat}(h:n<10):chk ((0:Int)<=(n:Int)/\(n:Int)<((10:Nat):Int))=some ():=aJ (by omega)
theorem aNH (hv:v<10)(sy:∀ x y,x<10->y<10->gf g x y=gf g y x)(dg:gf g v v=false)(i:Nat)(hi:i<10):∀ (m j:Nat) (f:Int) (h:Nat->Bool),m+j=10->i<j->CutI g v i j h->0<=f->f<=1000*(i:Int)+j->
 ∃ f' h',lp (gS (v:Int) (i:Int)) (f,(j:Int),h)=some (f',h')/\CutI g v i 10 h'/\0<=f'/\f'<=1000*(i:Int)+10:=by
 intro m
 induction m with
 | zero =>
  intro j f h hm hij c f0 f1
  have:j=10:=by omega
  subst this
  exact⟨f,h,aF (by unfold gS;simp only[];rw[if_neg (by omega)]),c,f0,f1⟩
 | succ m ih =>
  intro j f h hm hij c f0 f1
  have hj:j<10:=by omega
  have r1:h (v*10+i*1)=gf g v i:=c.row hv dg hi
  have r2:h (v*10+j*1)=gf g v j:=c.row hv dg hj
  have r3:h (i*10+j*1)=gf g i j:=c.here hij hi hj
  have w:i64.wrap ((j:Int)+1)=((j+1:Nat):Int):=wi (by omega)
  have w2:i64.wrap (f+1)=f+1:=wi (by omega)
  by_cases cc:gf g v i=true/\gf g v j=true/\gf g i j=false
  · obtain⟨c1,c2,c3⟩:=cc
    obtain⟨f',h',e1,e2⟩:=ih (j+1) (f+1) _ (by omega) (by omega) (c.set sy hij hi hj c1 c2) (by omega) (by omega)
    refine⟨f',h',?_,e2⟩
    rw[aM,e1]
    unfold gS
    simp only[]
    rw[if_pos (by omega),aCa hv,aCa hi,aCa hj]
    simp only[Option.bind_some,aL9,r1,r2,r3,c1,c2,c3,if_true,Bool.not_false]
    rw[w,w2]
  · obtain⟨f',h',e1,e2⟩:=ih (j+1) f h (by omega) (by omega) (c.skip sy hij hi hj cc) f0 (by omega)
    refine⟨f',h',?_,e2⟩
    rw[aM,e1]
    unfold gS
    simp only[]
    rw[if_pos (by omega),aCa hv,aCa hi,aCa hj]
    simp only[Option.bind_some,aL9,r1,r2,r3]
    cases a1:gf g v i with
    | false=>simp[w]
    | true =>
     cases a2:gf g v j with
     | false=>simp[w]
     | true =>
      cases a3:gf g i j with
      | true=>simp[w]
      | false=>exact absurd ⟨a1,a2,a3⟩ cc
theorem aNG (hv:v<10)(sy:∀ x y,x<10->y<10->gf g x y=gf g y x)(dg:gf g v v=false):∀ (m i:Nat) (f:Int) (h:Nat->Bool),m+i=10->CutI g v i (i+1) h->0<=f->f<=1000*(i:Int)->
 ∃ f' h',lp (jG (v:Int)) (f,(i:Int),h)=some (f',h')/\CutI g v 10 11 h':=by
 intro m
 induction m with
 | zero =>
  intro i f h hm c f0 f1
  have:i=10:=by omega
  subst this
  exact⟨f,h,aF (by unfold jG;simp only[];rw[if_neg (by omega)]),c⟩
 | succ m ih =>
  intro i f h hm c f0 f1
  have hi:i<10:=by omega
  obtain⟨f',h',e1,e2,e3,e4⟩:=aNH hv sy dg i hi (10-(i+1)) (i+1) f h (by omega) (by omega) c f0 (by omega)
  have c2:CutI g v (i+1) (i+1+1) h':=⟨fun x y hx hy=>by
   rw[e2.at' x y hx hy]
   have e:((x<y/\Bef (i+1) (i+1+1) x y)\/(y<x/\Bef (i+1) (i+1+1) y x))↔((x<y/\Bef i 10 x y)\/(y<x/\Bef i 10 y x)):=by unfold Bef;omega
   rw[e]⟩
  obtain⟨f2,h2,g1,g2⟩:=ih (i+1) f' h' (by omega) c2 e3 (by omega)
  refine⟨f2,h2,?_,g2⟩
  rw[aM,g1]
  unfold jG
  simp only[]
  have w:i64.wrap ((i:Int)+1)=((i+1:Nat):Int):=wi (by omega)
  rw[if_pos (by omega),w,e1]
  simp only[Option.bind_some]
theorem aNF (hv:v<10){h0:Nat->Bool}:∀ (m i:Nat) (h:Nat->Bool),m+i=10->(∀ x y,x<10->y<10->(gf h x y=true↔gf h0 x y=true/\¬(x=v/\y<i)/\¬(y=v/\x<i)))->
 ∃ h',lp (jF (v:Int)) ((i:Int),h)=some h'/\∀ x y,x<10->y<10->(gf h' x y=true↔gf h0 x y=true/\x≠v/\y≠v):=by
 intro m
 induction m with
 | zero =>
  intro i h hm c
  have:i=10:=by omega
  subst this
  refine⟨h,aF (by unfold jF;simp only[];rw[if_neg (by omega)]),fun x y hx hy=>?_⟩
  rw[c x y hx hy]
  constructor
  · rintro⟨h1,h2,h3⟩;exact⟨h1,by omega,by omega⟩
  · rintro⟨h1,h2,h3⟩;exact⟨h1,by omega,by omega⟩
 | succ m ih =>
  intro i h hm c
  have hi:i<10:=by omega
  obtain⟨h',e1,e2⟩:=ih (i+1) (qO (qO h (v*10+i*1) false) (i*10+v*1) false) (by omega) (fun x y hx hy=>by
   rw[aBu hv hy,aBu hi hy]
   by_cases c1:x=i/\y=v
   · rw[if_pos c1]
     simp only[Bool.false_eq_true,false_iff]
     rintro⟨_,_,h3⟩;omega
   · rw[if_neg c1]
     by_cases c2:x=v/\y=i
     · rw[if_pos c2]
       simp only[Bool.false_eq_true,false_iff]
       rintro⟨_,h2,_⟩;omega
     · rw[if_neg c2,c x y hx hy]
       constructor
       · rintro⟨h1,h2,h3⟩;exact⟨h1,by omega,by omega⟩
       · rintro⟨h1,h2,h3⟩;exact⟨h1,by omega,by omega⟩)
  refine⟨h',?_,e2⟩
  rw[aM,e1]
  unfold jF
  simp only[]
  have w:i64.wrap ((i:Int)+1)=((i+1:Nat):Int):=wi (by omega)
  rw[if_pos (by omega),aCa hv,aCa hi]
  simp only[Option.bind_some,aL9]
  rw[w]
theorem aM4 (hv:v<10)(sy:∀ x y,x<10->y<10->gf g x y=gf g y x)(dg:gf g v v=false):∃ h n,kK g (v:Int)=some (h,n)/\∀ x y,x<10->y<10->(gf h x y=true↔x≠v/\y≠v/\(gf g x y=true\/(x≠y/\gf g v x=true/\gf g v y=true))):=by
 obtain⟨f1,h1,e1,c1⟩:=aNG hv sy dg 10 0 0 g (by omega) ⟨fun x y hx hy=>by
  constructor
  · exact .inl
  · rintro(h | ⟨_,_,h⟩)
    · exact h
    · unfold Bef at h;omega⟩ (by omega) (by omega)
 obtain⟨h2,e2,c2⟩:=aNF hv (h0:=h1) 10 0 h1 (by omega) (fun x y hx hy=>by
  constructor
  · intro h;exact⟨h,by omega,by omega⟩
  · exact fun h=>h.1)
 refine⟨h2,f1,?_,fun x y hx hy=>?_⟩
 · unfold kK
   rw[show((0:Nat):Int)=0 from rfl]at e1 e2
   rw[e1]
   simp only[Option.bind_some]
   rw[e2]
   rfl
 · rw[c2 x y hx hy,c1.at' x y hx hy]
   constructor
   · rintro⟨h | ⟨a,b,c⟩,hx',hy'⟩
     · exact⟨hx',hy',.inl h⟩
     · exact⟨hx',hy',.inr ⟨by omega,a,b⟩⟩
   · rintro⟨hx',hy',h | ⟨a,b,c⟩⟩
     · exact⟨.inl h,hx',hy'⟩
     · exact⟨.inr ⟨b,c,by unfold Bef;omega⟩,hx',hy'⟩
end
end Go.Ev
/- Nodes outside a closed set stay as they are. -/
namespace Go.Ev
set_option linter.all false
set_option maxHeartbeats 2000000
section
variable {l:List QL}{o:List Int}{k:QL}{L:Int->Prop}
end
end Go.Ev
/- Parents lie on the path. -/
namespace Go.Ev
set_option linter.all false
theorem aEl (l:List QL)(o:List Int):∀ (p q:List Int) (b:List NQ),bJ l o (p++q) b=bJ l o q (bJ l o p b)
 | [],q,b=>rfl
 | v::p,q,b=>by rw[List.cons_append,bJ,bJ,aEl l o p q]
end Go.Ev
/- Parents of parents; the nodes of a tree by their place. -/
namespace Go.Ev
set_option linter.all false
theorem aEk (l:List QL)(o:List Int):∀ (q:List Int) (b:List NQ),∃ c,bJ l o q b=b++c
 | [],b=>⟨[],by simp[bJ]⟩
 | v::q,b=>by
  obtain⟨c,e⟩:=aEk l o q (b++[nxt l o v b])
  exact⟨nxt l o v b::c,by rw[bJ,e,List.append_assoc];rfl⟩
theorem tE (l:List QL)(o:List Int)(q:List Int)(b:List NQ):(bJ l o q b).length=b.length+q.length:=by
 have:=congrArg List.length (yH l o q b)
 simpa using this
theorem aIG (l:List QL)(o:List Int):(yI l o).fNodes.length=o.length:=by
 show((bJ l o o []).map NQ.toN).length=_
 rw[List.length_map,tE];simp
theorem aJJ {l:List QL}{o p:List Int}{v:Int}{r:List Int}(e:o=p++v::r):(yI l o).fNodes[p.length]?=some (nxt l o v (bJ l o p [])).toN:=by
 show((bJ l o o []).map NQ.toN)[p.length]?=_
 have:bJ l o o []=bJ l o (p++v::r) []:=congrArg (fun z=>bJ l o z []) e
 rw[this,aEl,bJ]
 obtain⟨c,ec⟩:=aEk l o r (bJ l o p []++[nxt l o v (bJ l o p [])])
 rw[ec,List.map_append,List.map_append,List.append_assoc,List.getElem?_append_right (by rw[List.length_map,tE];simp)]
 simp[tE]
end Go.Ev
/- The elimination of a drawn set, as grids and as a tree. -/
namespace Go.Ev
set_option linter.all false
set_option maxHeartbeats 1000000
theorem aLk {z:Int}(h:0<=z/\z<=9):chk ((0:Int)<=z/\z<((10:Nat):Int))=some ():=aJ (by omega)
theorem aKb (s:List QL)(hs:∀ z∈s,(0<=z.a/\z.a<=9)/\(0<=z.b/\z.b<=9))(hl:s.length<=1000):∃ g,sD (s.map QL.toL)=some g/\∀ x y:Int,(0<=x/\x<=9)->(0<=y/\y<=9)->(gf g x.toNat y.toNat=true↔∃ z∈s,(z.a=x/\z.b=y)\/(z.a=y/\z.b=x)):=by
 have main:∀ (m k:Nat) (g:Nat->Bool),m+k=s.length->(∀ x y:Int,(0<=x/\x<=9)->(0<=y/\y<=9)->(gf g x.toNat y.toNat=true↔∃ z∈s.take k,(z.a=x/\z.b=y)\/(z.a=y/\z.b=x)))->
  ∃ g',lp (nE (s.map QL.toL)) ((k:Int),g)=some g'/\∀ x y:Int,(0<=x/\x<=9)->(0<=y/\y<=9)->(gf g' x.toNat y.toNat=true↔∃ z∈s,(z.a=x/\z.b=y)\/(z.a=y/\z.b=x)):=by
  intro m
  induction m with
  | zero =>
   intro k g hk hg
   have:k=s.length:=by omega
   subst this
   rw[List.take_length]at hg
   exact⟨g,aF (by unfold nE;simp only[];rw[if_neg (by rw[List.length_map];omega)]),hg⟩
  | succ m ih =>
   intro k g hk hg
   have hlt:k<s.length:=by omega
   obtain⟨ha,hb⟩:=hs _ (List.getElem_mem hlt)
   have ht:s.take (k+1)=s.take k++[s[k]]:=by rw[List.take_add_one,List.getElem?_eq_getElem hlt];rfl
   obtain⟨g',e1,e2⟩:=ih (k+1) (qO (qO g ((s[k]).a.toNat*10+(s[k]).b.toNat*1) true) ((s[k]).b.toNat*10+(s[k]).a.toNat*1) true) (by omega) (fun x y hx hy=>by
    rw[aBu (by omega) (by omega),aBu (by omega) (by omega),ht]
    have key:(∃ z∈s.take k++[s[k]],(z.a=x/\z.b=y)\/(z.a=y/\z.b=x))↔(∃ z∈s.take k,(z.a=x/\z.b=y)\/(z.a=y/\z.b=x))\/(((s[k]).a=x/\(s[k]).b=y)\/((s[k]).a=y/\(s[k]).b=x)):=by
     constructor
     · rintro⟨z,hz,h⟩
       rcases List.mem_append.1 hz with hz | hz
       · exact .inl ⟨z,hz,h⟩
       · rw[List.mem_singleton.1 hz]at h;exact .inr h
     · rintro(⟨z,hz,h⟩ | h)
       · exact⟨z,List.mem_append_left _ hz,h⟩
       · exact⟨s[k],List.mem_append_right _ (List.mem_singleton.2 rfl),h⟩
    rw[key,<- hg x y hx hy]
    by_cases c1:x.toNat=(s[k]).b.toNat/\y.toNat=(s[k]).a.toNat
    · rw[if_pos c1]
      simp only[true_iff]
      exact .inr (.inr (by omega))
    · rw[if_neg c1]
      by_cases c2:x.toNat=(s[k]).a.toNat/\y.toNat=(s[k]).b.toNat
      · rw[if_pos c2]
        simp only[true_iff]
        exact .inr (.inl (by omega))
      · rw[if_neg c2]
        constructor
        · exact .inl
        · rintro(h | h)
          · exact h
          · exfalso;omega)
   refine⟨g',?_,e2⟩
   rw[aM,e1]
   unfold nE
   simp only[]
   have hlt2:k<(s.map QL.toL).length:=by rw[List.length_map];exact hlt
   rw[if_pos (by omega),aG hlt2,List.getElem_map]
   have ea:(s[k]).toL.fA=(s[k]).a:=rfl
   have eb:(s[k]).toL.fB=(s[k]).b:=rfl
   simp only[Option.bind_some,ea,eb]
   rw[aLk ha,aLk hb]
   simp only[Option.bind_some]
   rw[wi (n:=(k:Int)+1) (by omega)]
   rfl
 obtain⟨g',e1,e2⟩:=main s.length 0 (fun _=>false) (by omega) (fun x y _ _=>by simp[gf])
 refine⟨g',?_,e2⟩
 unfold sD
 rw[show((0:Nat):Int)=0 from rfl]at e1
 rw[e1];rfl
section
variable {l:List QL}{o pre r:List Int}{v:Int}{b:List NQ}
theorem aHe (hb:Base l o)(hi:TInv l o pre (v::r) b){u:Int}(hne:u≠v):u∈psN (nxt l o v b).cond↔aDR l o (v::r) b v u:=by
 constructor
 · intro hu
   obtain⟨y,hy,ht,eu⟩:=aHb.1 hu
   obtain⟨z,hz,z1,z2⟩:=pE _ [] 0 y hy
   have hz:=hz.resolve_left (by simp)
   have yy:y.a<y.b:=(((hi.inc hb).join).2.1.lk y hy).2.2.2
   have an:=zE ht yy
   rcases List.mem_append.1 hz with hz | hz
   · rw[List.mem_filter]at hz
     have hf:=hz.2
     unfold uI at hf
     have hf:=of_decide_eq_true hf
     exact .inl ⟨z,hz.1,by rw[hf];simp,by rw[z1,z2,eu];omega⟩
   · obtain⟨c,hc,hcu,hz⟩:=tS.1 hz
     obtain⟨_,_,p3,_⟩:=hi.ps c hc (by rw[hcu];simp)
     obtain⟨m1,m2,_⟩:=p3 z hz
     refine .inr ⟨c,hc,by rw[hcu];simp,?_⟩
     rcases an with⟨a1,a2⟩ | ⟨a1,_,a2⟩
     · rw[z1,a1]at m1
       rw[z2,<- a2,<- eu]at m2
       exact⟨m1,m2⟩
     · rw[z2,a1]at m2
       rw[z1,<- a2,<- eu]at m1
       exact⟨m2,m1⟩
 · intro h
   exact(hi.adj hb h (fun e=>hne e.symm)).1 rfl
theorem aKB (hb:Base l o)(hi:TInv l o pre (v::r) b){u w:Int}(hne:u≠w)(hu:u≠v)(hw:w≠v) :
 aDR l o r (b++[nxt l o v b]) u w↔aDR l o (v::r) b u w\/(u∈psN (nxt l o v b).cond/\w∈psN (nxt l o v b).cond):=by
 constructor
 · rintro(⟨x,hx,h1,h2⟩ | ⟨c,hc,h1,h2,h3⟩)
   · exact .inl (.inl ⟨x,hx,by simp[h1],h2⟩)
   · rcases List.mem_append.1 hc with hc | hc
     · exact .inl (.inr ⟨c,hc,by simp[h1],h2,h3⟩)
     · rw[List.mem_singleton.1 hc]at h2 h3
       exact .inr ⟨h2,h3⟩
 · have both:u∈psN (nxt l o v b).cond->w∈psN (nxt l o v b).cond->aDR l o r (b++[nxt l o v b]) u w:=fun h2 h3=>by
    refine .inr ⟨nxt l o v b,by simp,?_,h2,h3⟩
    by_cases c:u=0
    · exact hi.nxt_up hb h3 (by omega)
    · exact hi.nxt_up hb h2 c
   rintro(h | ⟨h2,h3⟩)
   · rcases(hi.adj hb h hne).2.2 hu hw with⟨h2,h3⟩ | h
     · exact both h2 h3
     · rcases h with⟨x,hx,h⟩ | ⟨c,hc,h⟩
       · exact .inl ⟨x,hx,h⟩
       · exact .inr ⟨c,by simp[hc],h⟩
   · exact both h2 h3
structure GI (l:List QL)(o rem:List Int)(b:List NQ)(g:Nat->Bool):Prop where
 sy:∀ x y,x<10->y<10->gf g x y=gf g y x
 dg:∀ x,x<10->gf g x x=false
 adj:∀ u w:Int,u∈0::rem->w∈0::rem->u≠w->(gf g u.toNat w.toNat=true↔aDR l o rem b u w)
theorem GI.step (hb:Base l o)(hi:TInv l o pre (v::r) b){g:Nat->Bool}(hg:GI l o (v::r) b g):∃ h n,kK g v=some (h,n)/\GI l o r (b++[nxt l o v b]) h:=by
 obtain⟨n,h1,hv,v1,v9,hl,nV,hV⟩:=hi.facts hb
 obtain⟨k,rfl⟩:=Int.eq_ofNat_of_zero_le (show 0<=v by omega)
 have k9:k<10:=by omega
 obtain⟨h,f,e1,e2⟩:=aM4 k9 hg.sy (hg.dg k k9)
 refine⟨h,f,e1,⟨fun x y hx hy=>?_,fun x hx=>?_,fun u w hu hw hne=>?_⟩⟩
 · have a:=e2 x y hx hy
   have c:=e2 y x hy hx
   rw[hg.sy y x hy hx]at c
   rw[Bool.eq_iff_iff,a,c]
   constructor
   · rintro⟨h1,h2,h3 | ⟨h3,h4,h5⟩⟩
     · exact⟨h2,h1,.inl h3⟩
     · exact⟨h2,h1,.inr ⟨fun e=>h3 e.symm,h5,h4⟩⟩
   · rintro⟨h1,h2,h3 | ⟨h3,h4,h5⟩⟩
     · exact⟨h2,h1,.inl h3⟩
     · exact⟨h2,h1,.inr ⟨fun e=>h3 e.symm,h5,h4⟩⟩
 · cases c:gf h x x with
   | false=>rfl
   | true =>
    rcases((e2 x x hx hx).1 c).2.2 with h3 | h3
    · rw[hg.dg x hx]at h3;cases h3
    · exact absurd rfl h3.1
 · have hu':u∈0::↑k::r:=by
    rcases List.mem_cons.1 hu with g | g
    · simp[g]
    · simp[g]
   have hw':w∈0::↑k::r:=by
    rcases List.mem_cons.1 hw with g | g
    · simp[g]
    · simp[g]
   have u9:=hV u hu'
   have w9:=hV w hw'
   have uk:u≠(k:Int):=by
    rintro rfl
    rcases List.mem_cons.1 hu with g | g
    · omega
    · exact hv g
   have wk:w≠(k:Int):=by
    rintro rfl
    rcases List.mem_cons.1 hw with g | g
    · omega
    · exact hv g
   have kk:(k:Int)∈0::↑k::r:=by simp
   rw[e2 _ _ (by omega) (by omega),aKB hb hi hne uk wk,aHe hb hi uk,aHe hb hi wk]
   have q1:=hg.adj u w hu' hw' hne
   have q2:=hg.adj k u kk hu' (fun e=>uk e.symm)
   have q3:=hg.adj k w kk hw' (fun e=>wk e.symm)
   rw[Int.toNat_natCast]at q2 q3
   rw[<- q1,<- q2,<- q3]
   constructor
   · rintro⟨_,_,h3 | ⟨_,h4,h5⟩⟩
     · exact .inl h3
     · exact .inr ⟨h4,h5⟩
   · rintro(h3 | ⟨h4,h5⟩)
     · exact⟨by omega,by omega,.inl h3⟩
     · exact⟨by omega,by omega,.inr ⟨by omega,h4,h5⟩⟩
theorem aHr (g:Nat->Bool)(hv:0<=v/\v<=9)(hr:∀ u∈r,0<=u/\u<=9)(hl:r.length<=1000):lp (cF r v g) 0=some ((r.find? fun u=>gf g v.toNat u.toNat).getD 0):=by
 have main:∀ m k:Nat,m+k=r.length->lp (cF r v g) (k:Int)=some (((r.drop k).find? fun u=>gf g v.toNat u.toNat).getD 0):=by
  intro m
  induction m with
  | zero =>
   intro k hk
   rw[List.drop_eq_nil_of_le (by omega)]
   exact aF (by unfold cF;rw[if_neg (by omega)];rfl)
  | succ m ih =>
   intro k hk
   have hlt:k<r.length:=by omega
   have hu:=hr _ (List.getElem_mem hlt)
   rw[List.drop_eq_getElem_cons hlt,List.find?_cons]
   have st:cF r v g (k:Int)=if gf g v.toNat (r[k]).toNat=true then some (.inr r[k])else some (.inl ((k+1:Nat):Int)):=by
    unfold cF
    rw[if_pos (by omega),aG hlt]
    simp only[Option.bind_some]
    rw[aLk hv,aLk hu]
    simp only[Option.bind_some]
    rw[wi (n:=(k:Int)+1) (by omega)]
    rfl
   cases c:gf g v.toNat (r[k]).toNat with
   | true =>
    rw[aF (r:=r[k]) (by rw[st,c];rfl)]
    rfl
   | false =>
    rw[aM (s':=((k+1:Nat):Int)) (by rw[st,c];rfl)]
    exact ih (k+1) (by omega)
 have:=main r.length 0 (by omega)
 rw[List.drop_zero]at this
 exact this
end
theorem aIV {l:List QL}{o:List Int}(h:Tie l o):∀ (rem pre:List Int) (g:Nat->Bool),o=pre++rem->GI l o rem (bJ l o pre []) g->lp (dE o) ((pre.length:Int),g,(bJ l o pre []).map fun n=>n.up)=some ((bJ l o o []).map fun n=>n.up):=by
 have ol:=h.base.len
 intro rem
 induction rem with
 | nil =>
  intro pre g e hg
  rw[List.append_nil]at e
  have e':bJ l o pre []=bJ l o o []:=congrArg (fun z=>bJ l o z []) e.symm
  have:pre.length=o.length:=by rw[e]
  rw[e']
  exact aF (by unfold dE;simp only[];rw[if_neg (by omega)])
 | cons v r ih =>
  intro pre g e hg
  have ti:=TInv.at h.base h.gr pre.length pre (v::r) rfl e
  obtain⟨nd,h1,hv,v1,v9,hl,nV,hV⟩:=ti.facts h.base
  obtain⟨g',f,e1,hg'⟩:=hg.step h.base ti
  have e2:o=(pre++[v])++r:=by rw[e,List.append_assoc];rfl
  have hlen:o.length=pre.length+(r.length+1):=by rw[e];simp
  have hlt:pre.length<o.length:=by omega
  have hov:o[pre.length]=v:=by simp only[e];simp
  have hr9:∀ u∈r,0<=u/\u<=9:=fun u hu=>hV u (by simp[hu])
  have fl:=aHr (v:=v) (r:=r) g (by omega) hr9 (by omega)
  have eup:(r.find? fun u=>gf g v.toNat u.toNat).getD 0=(nxt l o v (bJ l o pre [])).up:=by
   have er:(nxt l o v (bJ l o pre [])).up=aR o (psN (nxt l o v (bJ l o pre [])).cond):=rfl
   have hrem:=ti.nxt_rem h.base
   have e4:aR o (psN (nxt l o v (bJ l o pre [])).cond)=aR ((pre++[v])++r) (psN (nxt l o v (bJ l o pre [])).cond):=congrArg (fun z=>aR z (psN (nxt l o v (bJ l o pre [])).cond)) e2
   rw[er,e4,aBM (fun u hu hm=>by
    obtain⟨g1,g2⟩:=hrem u hm
    have nd2:=List.nodup_append.1 nd
    rcases List.mem_append.1 hu with hu | hu
    · rcases List.mem_cons.1 g1 with g3 | g3
      · have:=h1 u (by simp[hu]);omega
      · exact nd2.2.2 u hu u (by simp[g3]) rfl
    · exact g2 (List.mem_singleton.1 hu))]
   unfold aR
   congr 1
   have fc:∀ (s:List Int),(∀ u∈s,u∈r)->s.find? (fun u=>gf g v.toNat u.toNat)=s.find? (fun u=>decide (u∈psN (nxt l o v (bJ l o pre [])).cond)):=by
    intro s
    induction s with
    | nil=>intro _;rfl
    | cons u s ihs =>
     intro hs
     have hur:=hs u (by simp)
     have uv:u≠v:=fun e=>hv (e▸hur)
     have:gf g v.toNat u.toNat=decide (u∈psN (nxt l o v (bJ l o pre [])).cond):=by
      rw[Bool.eq_iff_iff,decide_eq_true_eq,aHe h.base ti uv]
      exact hg.adj v u (by simp) (by simp[hur]) (fun e=>uv e.symm)
     rw[List.find?_cons,List.find?_cons,this,ihs fun w hw=>hs w (by simp[hw])]
   exact fc r fun u hu=>hu
  have em:(bJ l o (pre++[v]) []).map (fun n=>n.up)=(bJ l o pre []).map (fun n=>n.up)++[(nxt l o v (bJ l o pre [])).up]:=by
   rw[wK,List.map_append];rfl
  have ml:((bJ l o pre []).map fun n=>n.up).length=pre.length:=by rw[List.length_map,tE];simp
  have st:dE o ((pre.length:Int),g,(bJ l o pre []).map fun n=>n.up)=some (.inl (((pre++[v]).length:Int),g',(bJ l o (pre++[v]) []).map fun n=>n.up)):=by
   unfold dE
   simp only[]
   have ed:o.drop (pre.length+1)=r:=by
    have:o.drop (pre.length+1)=((pre++[v])++r).drop (pre.length+1):=congrArg (fun z=>z.drop (pre.length+1)) e2
    rw[this,List.drop_append];simp
   rw[if_pos (by omega),aG hlt,hov]
   simp only[Option.bind_some]
   rw[aL3 o pre.length (by omega) (by omega),ed]
   simp only[Option.bind_some]
   rw[fl]
   simp only[Option.bind_some,aI]
   rw[aJ (by omega),e1]
   simp only[Option.bind_some]
   rw[wi (n:=(pre.length:Int)+1) (by omega),eup,em]
   simp
  rw[aM st]
  refine ih (pre++[v]) g' e2 ?_
  rw[wK]
  exact hg'
end Go.Ev
/- The law of the elimination's structure. -/
namespace Go.Ev
set_option linter.all false
set_option maxHeartbeats 1000000
theorem tl3 (o up:List Int){i:Nat}(hi:i<up.length)(hl:o.length<=1000):∀ m j:Nat,m+j=o.length->(∃ k,∃ hk:k<o.length,j<=k/\o[k]=up[i])->∃ k,j<=k/\k<o.length/\lp (iO o up (i:Int)) (j:Int)=some (k:Int):=by
 intro m
 induction m with
 | zero=>rintro j hj ⟨k,hk,h1,_⟩;omega
 | succ m ih =>
  rintro j hj ⟨k,hk,h1,h2⟩
  have hlt:j<o.length:=by omega
  have st:iO o up (i:Int) (j:Int)=if o[j]=up[i]then some (.inr (j:Int))else some (.inl ((j+1:Nat):Int)):=by
   unfold iO
   rw[if_pos (by omega),aG hlt,aG hi]
   simp only[Option.bind_some]
   by_cases c:o[j]=up[i]
   · simp[c]
   · simp only[ne_eq,c,not_false_eq_true,decide_true,if_true,if_false]
     rw[wi (n:=(j:Int)+1) (by omega)];rfl
  by_cases c:o[j]=up[i]
  · exact⟨j,Nat.le_refl _,hlt,aF (by rw[st,if_pos c])⟩
  · have jk:j≠k:=by rintro rfl;exact c h2
    obtain⟨k',e1,e2,e3⟩:=ih (j+1) (by omega) ⟨k,hk,by omega,h2⟩
    exact⟨k',by omega,e2,by rw[aM (by rw[st,if_neg c]),e3]⟩
theorem aGq (o up:List Int)(hl:o.length<=10)(hu:up.length=o.length)(hup:∀ i (hi:i<up.length),up[i]≠0->∃ k,∃ hk:k<o.length,i<k/\o[k]=up[i]):∀ (i:Nat) (best:Int) (H:List Int),i<=o.length->H.length=o.length->(∀ j (hj:j<H.length),i<=j->1<=H[j]/\H[j]<=(o.length:Int)-j)->0<=best->best<=(o.length:Int)-i->(i<o.length->1<=best)->
 ∃ b:Int,lp (fQ o up) (best,(i:Int)-1,H)=some (.inl b)/\(0<o.length->1<=b)/\b<=(o.length:Int):=by
 intro i
 induction i with
 | zero =>
  intro best H h1 h2 h3 h4 h5 h6
  exact⟨best,aF (by unfold fQ;simp only[];rw[if_neg (by omega)]),h6,by omega⟩
 | succ i ih =>
  intro best H h1 h2 h3 h4 h5 h6
  have ei:(((i+1:Nat):Int))-1=(i:Int):=by omega
  have hiH:i<H.length:=by omega
  have hiu:i<up.length:=by omega
  have w1:IntKind.i64.wrap ((i:Int)-1)=(i:Int)-1:=wi (by omega)
  have w2:IntKind.i64.wrap ((i:Int)+1)=((i+1:Nat):Int):=wi (by omega)
  have hset:idx (H.set i 1) (i:Int)=some 1:=by rw[aG (by rw[List.length_set];exact hiH)];simp
  rw[ei]
  by_cases c:up[i]=0
  · obtain⟨b,e1,e2⟩:=ih (max best 1) (H.set i 1) (by omega) (by rw[List.length_set];exact h2) (fun j hj hij=>by
     rw[List.length_set]at hj
     rw[List.getElem_set]
     by_cases d:i=j
     · rw[if_pos d];omega
     · rw[if_neg d];exact h3 j hj (by omega)) (by omega) (by omega) (fun _=>by omega)
    refine⟨b,?_,e2⟩
    rw[aM,e1]
    unfold fQ
    simp only[]
    rw[if_pos (by omega),aG hiH]
    simp only[Option.bind_some,aI,mU]
    rw[aG hiu]
    simp only[Option.bind_some]
    rw[if_neg (fun h=>h c)]
    simp only[Option.bind_some]
    rw[hset]
    simp only[Option.bind_some]
    rw[w1]
  · obtain⟨k0,hk0,hik,ek⟩:=hup i hiu c
    obtain⟨k,k1,k2,k3⟩:=tl3 o up hiu (by omega) (o.length-(i+1)) (i+1) (by omega) ⟨k0,hk0,by omega,ek⟩
    have hkH:k<H.length:=by omega
    obtain⟨hk3,hk4⟩:=h3 k hkH (by omega)
    have ek2:idx (H.set i 1) (k:Int)=some H[k]:=by
     rw[aG (by rw[List.length_set];exact hkH),List.getElem_set,if_neg (by omega)]
    have w3:IntKind.i64.wrap (H[k]+1)=H[k]+1:=wi (by omega)
    have hset2:idx ((H.set i 1).set i (H[k]+1)) (i:Int)=some (H[k]+1):=by rw[aG (by rw[List.length_set,List.length_set];exact hiH)];simp
    obtain⟨b,e1,e2⟩:=ih (max best (H[k]+1)) ((H.set i 1).set i (H[k]+1)) (by omega) (by rw[List.length_set,List.length_set];exact h2) (fun j hj hij=>by
     rw[List.length_set,List.length_set]at hj
     rw[List.getElem_set]
     by_cases d:i=j
     · rw[if_pos d];omega
     · rw[if_neg d,List.getElem_set,if_neg d];exact h3 j hj (by omega)) (by omega) (by omega) (fun _=>by omega)
    refine⟨b,?_,e2⟩
    rw[aM,e1]
    unfold fQ
    simp only[]
    rw[if_pos (by omega),aG hiH]
    simp only[Option.bind_some,aI,mU]
    rw[aG hiu]
    simp only[Option.bind_some]
    rw[if_pos c,w2,k3]
    simp only[Option.bind_some]
    rw[if_neg (by omega),ek2]
    simp only[Option.bind_some]
    rw[hset]
    simp only[Option.bind_some]
    rw[w3,hset2]
    simp only[Option.bind_some]
    rw[w1]
theorem aKa (o up:List Int)(hl:o.length<=10)(h0:0<o.length)(hu:up.length=o.length)(hup:∀ i (hi:i<up.length),up[i]≠0->∃ k,∃ hk:k<o.length,i<k/\o[k]=up[i]):∃ b:Int,lV o up=some b/\1<=b/\b<=(o.length:Int):=by
 obtain⟨b,e1,e2,e3⟩:=aGq o up hl hu hup o.length 0 (List.replicate o.length 0) (Nat.le_refl _) (by simp) (fun j hj hij=>by simp at hj;omega) (by omega) (by omega) (by omega)
 refine⟨b,?_,e2 h0,e3⟩
 unfold lV
 rw[if_neg (by omega),decide_eq_false (by omega)]
 simp only[Option.bind_some,Bool.false_eq_true,if_false]
 rw[Int.toNat_natCast,aJ (by omega)]
 simp only[Option.bind_some,aI]
 rw[wi (n:=(o.length:Int)-1) (by omega),e1]
 rfl
theorem aM0 (code:List Int)(_:okL (okI .u8) code):zV code=some true:=by
 unfold zV
 by_cases big:(1048576:Int)<(code.length:Int)
 · rw[if_pos big]
 rw[if_neg big]
 obtain⟨n,l,_,o,S,_,e1,e2,e3,hl,hn,_,ht,e,ej⟩:=aMn code (by omega)
 have ol:=ht.base.len
 have hz:=ht.sz
 have bj:=ht.base.join
 have eS:S=(bG l [] 0).1.map QL.toL:=by
  rw[bj.1]at ej
  have:=Option.some.inj ej
  injection this with h1 h2
  exact h1.symm
 have js:=(yY bj.1).2.1
 have nl:=aIG l o
 have ho:0<o.length:=by
  obtain⟨x,hx,ex⟩:=hl.all 1 (by omega) (by omega)
  exact List.length_pos_of_mem ((ht.mem 1).2 ⟨by omega,x,hx,.inr ex⟩)
 have bq:=(aIs (l.map QL.toL) o (by omega) (by omega)).2
 rw[ht.build]at bq
 have bq2:kN (l.map QL.toL) o=some (yI l o,true):=bq
 rw[e1];simp only[Option.bind_some]
 rw[e2];simp only[Option.bind_some]
 rw[e3];simp only[Option.bind_some]
 rw[bq2];simp only[Option.bind_some]
 rw[eS]
 have lk9:∀ z∈(bG l [] 0).1,(0<=z.a/\z.a<=9)/\(0<=z.b/\z.b<=9):=fun z hz=>by
  obtain⟨x,hx,h1,h2⟩:=pE l [] 0 z hz
  have:=(ht.lk x (hx.resolve_left (by simp))).1
  omega
 have sl:(bG l [] 0).1.length<=1000:=by
  have nV:(0::o).Nodup:=List.nodup_cons.2 ⟨fun h=>by have:=ht.base.h1 0 h;omega,ht.nd⟩
  have:=aAV nV bj.2.2.1 (fun x hx=>(bj.2.1 x hx).2.2)
  have e:(0::o).length=o.length+1:=rfl
  rw[e]at this
  have:(o.length+1)*(o.length+1)<=6*6:=Nat.mul_le_mul (by omega) (by omega)
  omega
 obtain⟨g,g1,g2⟩:=aKb _ lk9 sl
 have lab:∀ z∈(bG l [] 0).1,z.a<z.b:=fun z hz=>((bj.2.1 z hz).2.2).2.2
 have hGI:GI l o o [] g:=by
  have at9:∀ x:Nat,x<10->(0<=(x:Int)/\(x:Int)<=9):=fun x hx=>by omega
  refine⟨fun x y hx hy=>?_,fun x hx=>?_,fun u w hu hw hne=>?_⟩
  · have a:=g2 x y (at9 x hx) (at9 y hy)
    have b:=g2 y x (at9 y hy) (at9 x hx)
    rw[Int.toNat_natCast,Int.toNat_natCast]at a b
    rw[Bool.eq_iff_iff,a,b]
    constructor
    · rintro⟨z,hz,h⟩;exact⟨z,hz,h.symm⟩
    · rintro⟨z,hz,h⟩;exact⟨z,hz,h.symm⟩
  · have a:=g2 x x (at9 x hx) (at9 x hx)
    rw[Int.toNat_natCast]at a
    cases c:gf g x x with
    | false=>rfl
    | true =>
     obtain⟨z,hz,h⟩:=a.1 c
     have:=lab z hz
     omega
  · have aAG:∀ u∈0::o,0<=u/\u<=9:=fun u hu=>by
     rcases List.mem_cons.1 hu with rfl | hu
     · omega
     · have:=ht.five u hu;omega
    rw[g2 u w (aAG u hu) (aAG w hw)]
    constructor
    · rintro⟨z,hz,h⟩
      obtain⟨x,hx,h1,h2⟩:=pE l [] 0 z hz
      have hx:=hx.resolve_left (by simp)
      exact .inl ⟨x,hx,ht.owner x hx,by rw[h1,h2];omega⟩
    · rintro(⟨x,hx,_,h⟩ | ⟨c,hc,_⟩)
      · obtain⟨z,hz,h1,h2⟩:=pJ l [] 0 x (.inr hx)
        exact⟨z,hz,by rw[<- h1,<- h2];omega⟩
      · cases hc
 have el:=aIV ht o [] g rfl hGI
 have eet:gN ((bG l [] 0).1.map QL.toL) o=some ((bJ l o o []).map fun n=>n.up):=by
  unfold gN
  rw[aD0 js o (by omega),decide_eq_true ht.isOrd]
  simp only[Option.bind_some,if_true]
  rw[g1]
  simp only[Option.bind_some]
  have em:(bJ l o [] []).map (fun n=>n.up)=[]:=rfl
  rw[em]at el
  rw[show((([]:List Int).length:Nat):Int)=0 from rfl]at el
  rw[el]
  rfl
 rw[eet]
 simp only[Option.bind_some,if_true]
 have ml:((bJ l o o []).map fun n=>n.up).length=o.length:=by rw[List.length_map,tE];simp
 rw[if_neg (by omega),decide_eq_false (by omega)]
 simp only[Option.bind_some,Bool.false_eq_true,if_false]
 have tl:(bJ l o o []).length=o.length:=by rw[tE];simp
 have tn:∀ i (hi:i<(bJ l o o []).length),((bJ l o o [])[i]).node=o[i]'(by omega):=fun i hi=>by
  have e:=yH l o o []
  rw[List.map_nil,List.nil_append]at e
  have e2:((bJ l o o []).map fun n=>n.node)[i]?=o[i]?:=by rw[e]
  rw[List.getElem?_map,List.getElem?_eq_getElem hi,List.getElem?_eq_getElem (by omega)]at e2
  exact Option.some.inj e2
 have loop:∀ m i:Nat,m+i=o.length->lp (qA (yI l o,true) ((bJ l o o []).map fun n=>n.up) o) (i:Int)=some (.inl ()):=by
  intro m
  induction m with
  | zero=>intro i hi;exact aF (by unfold qA;simp only[];rw[if_neg (by omega)])
  | succ m ih =>
   intro i hi
   have hlt:i<o.length:=by omega
   have hltn:i<(yI l o).fNodes.length:=by omega
   have hm:i<((bJ l o o []).map fun n=>n.up).length:=by omega
   have en:(yI l o).fNodes[i]=((bJ l o o [])[i]'(by omega)).toN:=by
    show((bJ l o o []).map NQ.toN)[i]=_
    exact List.getElem_map ..
   refine(aM (s':=((i+1:Nat):Int)) ?_).trans (ih (i+1) (by omega))
   unfold qA
   simp only[]
   rw[if_pos (by omega),aG hltn,en]
   simp only[Option.bind_some]
   rw[aG hm,List.getElem_map]
   simp only[Option.bind_some]
   rw[if_neg (fun h=>h rfl),aG hlt]
   simp only[Option.bind_some]
   rw[decide_eq_false (fun h=>h (tn i (by omega)))]
   simp only[Bool.false_eq_true,if_false]
   rw[wi (n:=(i:Int)+1) (by omega)];rfl
 have lz:=loop o.length 0 (by omega)
 rw[show((0:Nat):Int)=0 from rfl]at lz
 rw[lz]
 simp only[Option.bind_some]
 obtain⟨b,b1,b2,b3⟩:=aKa o ((bJ l o o []).map fun n=>n.up) (by omega) ho ml (fun i hi h0=>by
  rw[List.getElem_map]at h0 ⊢
  have hit:i<(bJ l o o []).length:=by omega
  have hio:i<o.length:=by omega
  have esp:o=o.take i++o[i]::o.drop (i+1):=by rw[<- List.drop_eq_getElem_cons hio,List.take_append_drop]
  have hg:=aJJ (l:=l) esp
  have lt1:(o.take i).length=i:=by rw[List.length_take];omega
  rw[lt1]at hg
  have hg2:(yI l o).fNodes[i]?=some ((bJ l o o [])[i]).toN:=by
   show((bJ l o o []).map NQ.toN)[i]?=_
   rw[List.getElem?_map,List.getElem?_eq_getElem hit];rfl
  rw[hg2]at hg
  have hup:((bJ l o o [])[i]).up=(nxt l o o[i] (bJ l o (o.take i) [])).up:=congrArg TreeNode.fUp (Option.some.inj hg)
  rw[hup]at h0 ⊢
  have ti:=TInv.at ht.base ht.gr (o.take i).length (o.take i) (o[i]::o.drop (i+1)) rfl esp
  have er:(nxt l o o[i] (bJ l o (o.take i) [])).up=aR o (psN (nxt l o o[i] (bJ l o (o.take i) [])).cond):=rfl
  have hm:=(aEK er.symm h0).1
  have hr:=ti.nxt_up ht.base hm h0
  obtain⟨k,hk,ek⟩:=List.getElem_of_mem hr
  rw[List.length_drop]at hk
  refine⟨i+1+k,by omega,by omega,?_⟩
  rw[<- ek,List.getElem_drop])
 rw[b1]
 simp only[Option.bind_some]
 rw[if_pos b2,decide_eq_true b3]
end Go.Ev
