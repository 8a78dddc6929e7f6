/- Parts QT, QU, PG1, VA, PS1, PS2, PS3, PT1, P22b, PT2, VB, VC, PT3, VD, VE, PT4, VF, VG, VH, VI, VJ, VK, VL, VS, VP, VT, VU, VW, VX. -/
import Derived.Test.YtlhoochohnnepaaGreatPb3
import Derived.Test.YtlhoochohnnepaaGreatPa1
import Derived.Test.YtlhoochohnnepaaGreatLd
import Derived.Test.YtlhoochohnnepaaGreatPb2
import Derived.Test.YtlhoochohnnepaaGreatPb1
set_option linter.all false
/- Trees over the rational numbers: the whole tree. -/
namespace Go.Ev
set_option linter.all false
section
variable {l:List QL}{o pre r:List Int}{v:Int}{b:List NQ}
theorem TInv.next (hb:Base l o)(hi:TInv l o pre (v::r) b):TInv l o (pre++[v]) r (b++[nxt l o v b])/\mI o v ((l.filter (pM o v)).map QL.toL) (b.map NQ.toN)=some (nxt l o v b).toN/\cG (nxt l o v b).enQ:=by
 obtain⟨n,h1,hv,v1,v9,hl,nV,hV⟩:=hi.facts hb
 have hinc:=hi.inc hb
 obtain⟨c1,c2,c3,c4,c5,c6,c7⟩:=aNC (order:=o) hinc
 have hmem:∀ c∈b++[nxt l o v b],c∈b\/c=nxt l o v b:=fun c hc=>by simpa using hc
 have hlen:(b++[nxt l o v b]).length=b.length+1:=by simp
 have hsp:=hi.split
 refine⟨⟨?_,?_,?_,?_,?_,?_,?_,?_⟩,c1,c2⟩
 · rw[hsp];simp
 · rw[hlen,List.length_append,hi.len];rfl
 · intro c hc hu
   rcases hmem c hc with hc | rfl
   · exact hi.den c hc (List.mem_cons_of_mem v hu)
   · exact c3
 · intro c hc hu
   rw[hlen]
   rcases hmem c hc with hc | rfl
   · obtain⟨m1,m2⟩:=hi.msg c hc (List.mem_cons_of_mem v hu)
     exact⟨fun x hx=>aLU (m1 x hx) (Nat.dvd_refl _) (Nat.mul_le_mul_left _ (Nat.pow_le_pow_right (by omega) (by omega))),m2⟩
   · refine⟨fun x hx=>?_,c6⟩
     have:=(c5 x hx).1
     have e:2*(20*2 ^ b.length)=20*2 ^ (b.length+1):=by rw[Nat.pow_succ];omega
     rw[<- e];exact this
 · intro c hc hu
   rcases hmem c hc with hc | rfl
   · obtain⟨p1,p2,p3,p4⟩:=hi.ps c hc (List.mem_cons_of_mem v hu)
     refine⟨fun u hm=>?_,p2,p3,p4⟩
     have h:=p1 u hm
     simp only[List.mem_cons]at h ⊢
     rcases h with h | h | h
     · exact .inl h
     · exfalso
       subst h
       rw[hsp]at p2
       have:c.up=u:=p2.trans ((yR n h1).2 ⟨hm,fun z hz hz2=>by
        rcases List.mem_cons.1 (p1 z hz2)with rfl | h
        · have:=h1 0 (List.mem_append_left _ hz);omega
        · exact(List.nodup_append.1 n).2.2 z hz z h rfl⟩)
       rw[this]at hu;exact hv hu
     · exact .inr h
   · refine⟨fun u hm=>(hi.nxt_rem hb u hm).1,rfl,fun x hx=>?_,fun u hu' w hw' huw=>?_⟩
     · have hj:=(hinc.join).2.1
       refine⟨?_,?_,(c5 x hx).2.2.2⟩
       all_goals
        obtain⟨y,hy,e1,e2⟩:=vC _ [] 0 x hx
        have hy:=hy.resolve_left (by simp)
        rcases List.mem_append.1 hy with hy | hy
        · obtain⟨m1,m2,m3⟩:=aAi.1 hy
          obtain⟨z,hz,f1,f2⟩:=vC _ [] 0 y m1
          have hz:=hz.resolve_left (by simp)
          rcases List.mem_append.1 hz with hz | hz
          · exfalso
            have:=(List.mem_filter.1 hz).2
            rw[hsp]at this
            have:=((aC1 n h1).1 this).1
            omega
          · obtain⟨c,hc,hu2,hz⟩:=yF.1 hz
            obtain⟨_,hk⟩:=hi.kid_ps hb hc hu2
            obtain⟨_,_,p3,_⟩:=hi.ps c hc (by rw[hu2];simp)
            have g1:=(p3 z hz).1
            have g2:=(p3 z hz).2.1
            rw[f1,e1]at g1
            rw[f2,e2]at g2
            first | exact hk _ g1 (by omega) | exact hk _ g2 (by omega)
        · obtain⟨_,_,_,_,⟨y1,hy1,q1⟩,y2,hy2,q2⟩:=hj.arms.each hy
          have e:psN (nxt l o v b).cond=(bP v (bG (l.filter (pM o v)++oI v b) [] 0).1).map fun x=>x.a:=aCW v _
          rw[e]
          first | exact List.mem_map.2 ⟨y1,hy1,q1.trans e1⟩ | exact List.mem_map.2 ⟨y2,hy2,q2.trans e2⟩
     · have hj:=(hinc.join).2.1
       have e:psN (nxt l o v b).cond=(bP v (bG (l.filter (pM o v)++oI v b) [] 0).1).map fun x=>x.a:=aCW v _
       rw[e]at hu' hw'
       obtain⟨x,hx,rfl⟩:=List.mem_map.1 hu'
       obtain⟨y,hy,rfl⟩:=List.mem_map.1 hw'
       have hm:=aJh (sm wt (bP v (bG (l.filter (pM o v)++oI v b) [] 0).1)) hj.arms.inc x hx y hy huw
       obtain⟨z,hz,f1,f2⟩:=vA (iS v (bG (l.filter (pM o v)++oI v b) [] 0).1) [] 0 _ (.inr (List.mem_append_right _ hm))
       exact⟨z,hz,f1.symm,f2.symm⟩
 · obtain⟨k1,k2,k3⟩:=hi.kids
   rw[hlen,List.filter_append,aG9]
   have e1:b.filter (sR r)=b.filter fun c=>sR (v::r) c&&!kid v c:=by
    rw[<- aDS hv,List.filter_filter]
    refine List.filter_congr fun c _=>?_
    rw[Bool.and_comm]
   rw[e1]
   have ekk:ex' (b.length+1)=ex (b.length+1):=by unfold ex';rw[if_neg (by omega)]
   rw[ekk]
   have hD:(aB8 v b=1/\eJ (fun c:NQ=>72*c.den) (b.filter (kid v))=1)\/72*aB8 v b<=eJ (fun c:NQ=>72*c.den) (b.filter (kid v)):=by
    by_cases c:b.filter (kid v)=[]
    · left
      have e:aB8 v b=eJ (fun c:NQ=>c.den) (b.filter (kid v)):=rfl
      rw[e,c];exact⟨rfl,rfl⟩
    · exact .inr (aCX (fun c:NQ=>c.den) _ c)
   have hs:=aL3 k3 k2 k1 c4 hD
   have le:eJ (fun c:NQ=>72*c.den) ([nxt l o v b].filter (sR r))<=72*(nxt l o v b).den:=by
    have hp:0<(nxt l o v b).den:=c3
    rw[List.filter_cons,List.filter_nil]
    split
    · simp[eJ]
    · simp only[eJ];omega
   exact Nat.le_trans (Nat.mul_le_mul_left _ le) hs
 · have hw:=(aHJ hi hb).1
   have hn:0<=sm wt (nxt l o v b).msgs:=kV fun x hx=>(c5 x hx).1
   have e:sm wt (kG ((b++[nxt l o v b]).filter (sR r)))<=sm wt (kG (b.filter (sR r)))+sm wt (nxt l o v b).msgs:=by
    unfold kG
    rw[List.filter_append,List.flatMap_append,rG,List.filter_cons,List.filter_nil]
    split
    · rw[List.flatMap_cons,List.flatMap_nil,List.append_nil];grind
    · rw[List.flatMap_nil];simp only[sm];grind
   have c7':sm wt (nxt l o v b).msgs<=sm wt (l.filter (pM o v)++oI v b):=c7
   grind
 · intro S hS h0
   obtain⟨u0,hu0,su0⟩:=hS
   have viaN:∀ u w,S u->¬S w->u∈psN (nxt l o v b).cond->w∈psN (nxt l o v b).cond->aMF l o r (b++[nxt l o v b]) u w:=by
    intro u w su sw hu hw
    exact .inr ⟨nxt l o v b,by simp,hi.nxt_up hb hu (fun e=>h0 (e▸su)),hu,hw⟩
   have up:∀ u w,aMF l o r b u w->aMF l o r (b++[nxt l o v b]) u w:=by
    rintro u w (⟨x,hx,h⟩ | ⟨c,hc,h⟩)
    · exact .inl ⟨x,hx,h⟩
    · exact .inr ⟨c,by simp[hc],h⟩
   have ne0:u0≠v:=fun e=>hv (e▸hu0)
   obtain⟨u,w,⟨su,uv⟩,sw,ad⟩:=hi.cut (fun u=>S u/\u≠v) ⟨u0,List.mem_cons_of_mem v hu0,su0,ne0⟩ (fun h=>h0 h.1)
   have uw:u≠w:=fun e=>sw (e▸⟨su,uv⟩)
   obtain⟨t1,t2,t3⟩:=hi.adj hb ad uw
   by_cases wv:w=v
   · have hu:=t2 wv
     obtain⟨u',w',su',sw',ad'⟩:=hi.cut (fun u=>S u\/u=v) ⟨u0,List.mem_cons_of_mem v hu0,.inl su0⟩ (fun h=>h.elim h0 (by omega))
     have uw':u'≠w':=fun e=>sw' (e▸su')
     obtain⟨t1',t2',t3'⟩:=hi.adj hb ad' uw'
     have wv':w'≠v:=fun e=>sw' (.inr e)
     have sw2:¬S w':=fun h=>sw' (.inl h)
     by_cases uv':u'=v
     · exact⟨u,w',su,sw2,viaN u w' su sw2 hu (t1' uv')⟩
     · have su2:S u':=su'.resolve_right uv'
       rcases t3' uv' wv' with⟨g1,g2⟩ | g
       · exact⟨u',w',su2,sw2,viaN u' w' su2 sw2 g1 g2⟩
       · exact⟨u',w',su2,sw2,up _ _ g⟩
   · have sw2:¬S w:=fun h=>sw ⟨h,wv⟩
     rcases t3 uv wv with⟨g1,g2⟩ | g
     · exact⟨u,w,su,sw2,viaN u w su sw2 g1 g2⟩
     · exact⟨u,w,su,sw2,up _ _ g⟩
end
def bO (l:List QL)(o:List Int):List Int->List NQ->List NQ
 | [],b=>b
 | v::r,b=>bO l o r (b++[nxt l o v b])
theorem aPG (o:List Int)(v:Int):∀ l:List QL,(l.map QL.toL).filter (lX o v)=(l.filter (pM o v)).map QL.toL
 | []=>rfl
 | x::l=>by
  have e:lX o v x.toL=pM o v x:=rfl
  rw[List.map_cons,List.filter_cons,List.filter_cons,aPG o v l,e]
  split <;> rfl
theorem aMR {l:List QL}{o:List Int}(hb:Base l o):∀ (r pre:List Int) (b:List NQ),TInv l o pre r b->pG (l.map QL.toL) o r (b.map NQ.toN)=some ((bO l o r b).map NQ.toN)
 | [],_,b,_=>rfl
 | v::r,pre,b,hi=>by
  obtain⟨h1,h2,h3⟩:=hi.next hb
  rw[pG,aPG,h2]
  have:=aMR hb r (pre++[v]) (b++[nxt l o v b]) h1
  rw[List.map_append]at this
  exact this
def Grounded (l:List QL)(o:List Int):Prop:=∀ S:Int->Prop,(∃ u∈o,S u)->¬S 0->∃ x∈l,(S x.a/\¬S x.b)\/(S x.b/\¬S x.a)
theorem TInv.start {l:List QL}{o:List Int}(hb:Base l o)(hg:Grounded l o):TInv l o [] o [] where
 split:=rfl
 len:=rfl
 den:=by simp
 msg:=by simp
 ps:=by simp
 prod:=Nat.le_refl 1
 wtt:=by
  have e:sm wt (kG (([]:List NQ).filter (sR o)))=0:=rfl
  rw[e]
  have h1:=aCP wt (fun x=>decide (aS o [x.a,x.b]∈o)) l
  have h2:0<=sm wt (l.filter fun x=>!decide (aS o [x.a,x.b]∈o)):=kV fun y hy=>(hb.lk y (List.mem_filter.1 hy).1).1
  have:=hb.hw
  grind
 cut:=by
  intro S hS h0
  obtain⟨x,hx,h⟩:=hg S hS h0
  have hf:aS o [x.a,x.b]∈o:=by
   obtain⟨i1,i2,i3⟩:=(hb.lk x hx).2.1
   have hbm:x.b∈o:=by
    rcases List.mem_cons.1 i2 with h | h
    · exfalso
      rcases List.mem_cons.1 i1 with h2 | h2
      · omega
      · have:=hb.h1 _ h2;omega
    · exact h
   rcases aDm (s:=[x.a,x.b]) (fun u hu=>(hb.h1 u hu).1)with⟨_,h4⟩ | ⟨p,v,r,e,h2,h3,h4⟩
   · exact absurd (by simp) (h4 _ hbm)
   · rw[h2,e];simp
  rcases h with⟨g1,g2⟩ | ⟨g1,g2⟩
  · exact⟨x.a,x.b,g1,g2,.inl ⟨x,hx,hf,.inl ⟨rfl,rfl⟩⟩⟩
  · exact⟨x.b,x.a,g1,g2,.inl ⟨x,hx,hf,.inr ⟨rfl,rfl⟩⟩⟩
theorem Base.join {l:List QL}{o:List Int}(hb:Base l o):jnP (l.map QL.toL)=some ((bG l [] 0).1.map QL.toL,ofQ (bG l [] 0).2)/\(∀ k∈(bG l [] 0).1,k.fit/\Lk 1 20 k/\inV (0::o) k)/\(bG l [] 0).1.Pairwise cZ/\cG (bG l [] 0).2:=by
 have nV:(0::o).Nodup:=List.nodup_cons.2 ⟨fun h=>by have:=hb.h1 0 h;omega,hb.nd⟩
 have hVn:∀ u∈0::o,0<=u/\u<=9:=fun u hu=>by
  rcases List.mem_cons.1 hu with rfl | hu
  · omega
  · have:=hb.h1 u hu;omega
 have len:(0::o).length<=6:=by have:=hb.len;simp only[List.length_cons];omega
 have j:Jn 1 1 20 15 (0::o):=⟨by omega,by decide,by omega,by omega,by omega,nV,by
  have h1:=aDA len
  have h2:=aMP _ 6 len (by omega)
  have h3:tri 6=15:=by decide
  omega,by rw[aML];decide⟩
 have es:=wO (fun x hx=>(hb.lk x hx).1) (by omega) hb.hw
 have e0:(0:Q)-sm enQ []=0:=by simp only[sm];grind
 have g:=aDi j l [] 0 (fun x hx=>⟨(hb.lk x hx).1,(hb.lk x hx).2.1,(hb.lk x hx).2.2⟩) (by simp) List.Pairwise.nil (by simp only[sm];have:=hb.hw;grind) ⟨0,by simp⟩ (by grind) (by have:=es.2;grind)
 rw[e0]at g
 obtain⟨g1,g2,g3,g4,g5⟩:=g
 have fo:∀ x∈l,x.fit/\x.ok:=fun x hx=>by
  obtain⟨l1,⟨l2,l3,l4⟩,_⟩:=hb.lk x hx
  refine⟨aF2 (by omega) (by decide) l1 (by omega) (by omega) ?_,hVn _ l2,hVn _ l3,l4,l1.sc.1⟩
  have:=wV (fun y hy=>(hb.lk y hy).1) hx
  have:=hb.hw
  grind
 obtain⟨e1,f1,f2⟩:=aQs fo g1
 exact⟨e1,fun k hk=>⟨f1 k hk,g2 k hk⟩,g3,f2⟩
theorem aPk {l:List QL}{o:List Int}(hb:Base l o)(hg:Grounded l o)(ho:isOrd ((bG l [] 0).1.map QL.toL) o):nW (l.map QL.toL) o=some ⟨(bO l o o []).map NQ.toN⟩:=by
 unfold nW
 rw[hb.join.1]
 simp only[Option.bind_some]
 rw[if_pos ho]
 have:=aMR hb o [] [] (TInv.start hb hg)
 rw[List.map_nil]at this
 rw[this]
 rfl
end Go.Ev
/- Links of whole numbers that tie nodes to the ground: their tree is built. -/
namespace Go.Ev
set_option linter.all false
def LkI (x:QL):Prop:=(0<=x.a/\x.a<x.b/\x.b<=5)/\∃ w p q:Int,(1<=w/\w<=9)/\(-20<=p/\p<=20)/\(-20<=q/\q<=20)/\x.w=(w:Q)/\x.x=(p:Q)/\x.y=(q:Q)
theorem aOv {B:Nat}{z:Int}(h:-(B:Int)<=z/\z<=(B:Int)):bd B (z:Q):=by
 constructor
 · have:=(_root_.Rat.intCast_le_intCast (a:=-(B:Int)) (b:=z)).2 h.1
   rw[_root_.Rat.intCast_neg]at this;exact this
 · exact(_root_.Rat.intCast_le_intCast (a:=z) (b:=(B:Int))).2 h.2
theorem LkI.lk {x:QL}(h:LkI x):Lk 1 20 x/\Dv 1 (enQ x)/\x.w<=9:=by
 obtain⟨_,w,p,q,hw,hp,hq,e1,e2,e3⟩:=h
 have w0:((0:Int):Q)<(w:Q):=_root_.Rat.intCast_lt_intCast.2 (by omega)
 have w9:(w:Q)<=((9:Int):Q):=_root_.Rat.intCast_le_intCast.2 hw.2
 have z0:((0:Int):Q)=0:=rfl
 have z9:((9:Int):Q)=9:=rfl
 have m1:mx x=((w*p:Int):Q):=by unfold mx;rw[e1,e2,_root_.Rat.intCast_mul]
 have m2:my x=((w*q:Int):Q):=by unfold my;rw[e1,e3,_root_.Rat.intCast_mul]
 have m3:enQ x=((w*(p*p+q*q):Int):Q):=by
  unfold enQ sqQ
  rw[e1,e2,e3,_root_.Rat.intCast_mul,_root_.Rat.intCast_add,_root_.Rat.intCast_mul,_root_.Rat.intCast_mul]
 refine⟨⟨⟨by rw[e1];grind,by rw[e1];exact aII _,by rw[m1];exact aII _,by rw[m2];exact aII _⟩,by rw[e2];exact aOv (by omega),by rw[e3];exact aOv (by omega)⟩,by rw[m3];exact aII _,by rw[e1];grind⟩
theorem aRf:∀ {l:List QL},(∀ x∈l,LkI x)->sm wt l<=((9*l.length:Nat):Q)
 | [],_=>by simp[sm]
 | x::l,h=>by
  have h1:=(h x (by simp)).lk.2.2
  have h2:=aRf (l:=l) (fun y hy=>h y (by simp[hy]))
  have e:(9*(x::l).length:Nat)=9+9*l.length:=by rw[List.length_cons];omega
  rw[sm,e,_root_.Rat.natCast_add]
  have e2:wt x=x.w:=rfl
  have e3:((9:Nat):Q)=9:=rfl
  rw[e2,e3];grind
structure Tie (l:List QL)(o:List Int):Prop where
 nd:o.Nodup
 mem:∀ u,u∈o↔1<=u/\∃ x∈l,x.a=u\/x.b=u
 lk:∀ x∈l,LkI x
 len:l.length<=8
 gr:Grounded l o
theorem Tie.five {l:List QL}{o:List Int}(h:Tie l o):∀ u∈o,1<=u/\u<=5:=by
 intro u hu
 obtain⟨h1,x,hx,ht⟩:=(h.mem u).1 hu
 have:=(h.lk x hx).1
 omega
theorem Tie.base {l:List QL}{o:List Int}(h:Tie l o):Base l o where
 nd:=h.nd
 h1:=fun u hu=>by have:=h.five u hu;omega
 len:=by
  have:=h.nd.length_le_of_subset (l₂:=[1,2,3,4,5]) (fun u hu=>by
   have:=h.five u hu
   simp only[List.mem_cons,List.not_mem_nil,or_false];omega)
  simpa using this
 lk:=fun x hx=>by
  obtain⟨h1,h2,h3⟩:=(h.lk x hx).lk
  have hn:=(h.lk x hx).1
  refine⟨h1,⟨?_,?_,hn.2.1⟩,h2⟩
  · by_cases c:x.a=0
    · rw[c];simp
    · exact List.mem_cons_of_mem _ ((h.mem _).2 ⟨by omega,x,hx,.inl rfl⟩)
  · exact List.mem_cons_of_mem _ ((h.mem _).2 ⟨by omega,x,hx,.inr rfl⟩)
 hw:=by
  have h1:=aRf h.lk
  have h2:((9*l.length:Nat):Q)<=((72:Nat):Q):=aIf (by have:=h.len;omega)
  have e:((72:Nat):Q)=72:=rfl
  grind
theorem aFL {s:List Link}{u:Int}:u∈fV s↔(1<=u/\u<=9)/\∃ x∈s,x.fA=u\/x.fB=u:=by
 unfold fV aEq tch
 rw[List.mem_filter,List.any_eq_true]
 constructor
 · rintro⟨h1,x,hx,ht⟩
   obtain⟨k,hk,rfl⟩:=List.mem_map.1 h1
   rw[List.mem_range]at hk
   exact⟨by omega,x,hx,of_decide_eq_true ht⟩
 · rintro⟨h1,x,hx,ht⟩
   exact⟨List.mem_map.2 ⟨(u-1).toNat,List.mem_range.2 (by omega),by omega⟩,x,hx,decide_eq_true ht⟩
theorem aAC (s:List Link):(fV s).Nodup:=by
 unfold fV
 exact(by decide:aEq.Nodup).filter _
theorem aMb {a b:List Int}(ha:a.Nodup)(hb:b.Nodup)(h:∀ u,u∈a↔u∈b):a.length=b.length :=
 Nat.le_antisymm (ha.length_le_of_subset fun u hu=>(h u).1 hu) (hb.length_le_of_subset fun u hu=>(h u).2 hu)
theorem Tie.isOrd {l:List QL}{o:List Int}(h:Tie l o):isOrd ((bG l [] 0).1.map QL.toL) o:=by
 have key:∀ u,u∈o↔u∈fV ((bG l [] 0).1.map QL.toL):=by
  intro u
  rw[h.mem,aFL]
  constructor
  · rintro⟨h1,x,hx,ht⟩
    obtain⟨y,hy,e1,e2⟩:=vA l [] 0 x (.inr hx)
    have:=(h.lk x hx).1
    refine⟨by omega,y.toL,List.mem_map_of_mem hy,?_⟩
    show y.a=u\/y.b=u
    rw[<- e1,<- e2];exact ht
  · rintro⟨h1,z,hz,ht⟩
    obtain⟨y,hy,rfl⟩:=List.mem_map.1 hz
    obtain⟨x,hx,e1,e2⟩:=vC l [] 0 y hy
    have hx:=hx.resolve_left (by simp)
    refine⟨h1.1,x,hx,?_⟩
    rw[e1,e2];exact ht
 exact⟨h.nd,fun y hy=>(key y).1 hy,aMb h.nd (aAC _) key⟩
theorem Tie.build {l:List QL}{o:List Int}(h:Tie l o):nW (l.map QL.toL) o=some ⟨(bO l o o []).map NQ.toN⟩:=aPk h.base h.gr h.isOrd
theorem Grounded.perm {l l':List QL}{o o':List Int}(h:Grounded l o)(h1:∀ x∈l,x∈l')(h2:∀ u∈o',u∈o):Grounded l' o':=by
 intro S hS h0
 obtain⟨u,hu,su⟩:=hS
 obtain⟨x,hx,hh⟩:=h S ⟨u,h2 u hu,su⟩ h0
 exact⟨x,h1 x hx,hh⟩
theorem Tie.perm {l l':List QL}{o o':List Int}(h:Tie l o)(hl:l'.Perm l)(ho:o'.Perm o):Tie l' o' where
 nd:=ho.nodup_iff.2 h.nd
 mem:=fun u=>by
  rw[ho.mem_iff,h.mem]
  constructor
  · rintro⟨h1,x,hx,ht⟩;exact⟨h1,x,hl.mem_iff.2 hx,ht⟩
  · rintro⟨h1,x,hx,ht⟩;exact⟨h1,x,hl.mem_iff.1 hx,ht⟩
 lk:=fun x hx=>h.lk x (hl.mem_iff.1 hx)
 len:=by rw[hl.length_eq];exact h.len
 gr:=h.gr.perm (fun x hx=>hl.mem_iff.2 hx) fun u hu=>ho.mem_iff.1 hu
theorem aJv {l:List QL}{o:List Int}(hl:∀ x∈l,0<=x.a/\x.a<x.b)(hm:∀ u,u∈o↔1<=u/\∃ x∈l,x.a=u\/x.b=u)(h:∀ u∈o,∃ x∈l,x.b=u):Grounded l o:=by
 intro S hS h0
 have key:∀ (n:Nat) (u:Int),u.toNat<=n->u∈o->S u->∃ x∈l,(S x.a/\¬S x.b)\/(S x.b/\¬S x.a):=by
  intro n
  induction n with
  | zero=>intro u hn hu _;have:=(hm u).1 hu;omega
  | succ n ih =>
   intro u hn hu su
   obtain⟨x,hx,e⟩:=h u hu
   have hx2:=hl x hx
   by_cases c:S x.a
   · refine ih x.a (by omega) ((hm _).2 ⟨?_,x,hx,.inl rfl⟩) c
     by_cases z:x.a=0
     · rw[z]at c;exact absurd c h0
     · omega
   · exact⟨x,hx,.inr ⟨e▸su,c⟩⟩
 obtain⟨u,hu,su⟩:=hS
 exact key u.toNat u (Nat.le_refl _) hu su
theorem aMS {n:Int}{l:List QL}{o:List Int}(h1:∀ x∈l,LkI x/\x.b<=n+1)(h2:l.length<=8)(h3:∀ k,1<=k->k<=n->∃ x∈l,x.b=k)(nd:o.Nodup)(hm:∀ u,u∈o↔1<=u/\∃ x∈l,x.a=u\/x.b=u):Tie l o where
 nd:=nd
 mem:=hm
 lk:=fun x hx=>(h1 x hx).1
 len:=h2
 gr:=aJv (fun x hx=>by have:=(h1 x hx).1.1;omega) hm fun u hu=>by
  obtain⟨g1,x,hx,ht⟩:=(hm u).1 hu
  by_cases c:u<=n
  · exact h3 u g1 c
  · have:=(h1 x hx)
    have g:=this.1.1
    refine⟨x,hx,by omega⟩
end Go.Ev
/- The cursor and what is drawn from it. -/
namespace Go.Ev
open IntKind
set_option linter.all false
theorem aHz (x:Int):0<=zY .i64 x 255/\zY .i64 x 255<=255:=by
 unfold zY
 have h:(BitVec.ofInt (IntKind.bits .i64) x &&& BitVec.ofInt (IntKind.bits .i64) 255).toNat<=255:=by
  rw[BitVec.toNat_and]
  exact Nat.le_trans Nat.and_le_right (by decide)
 rw[wi (by omega)]
 omega
def pL (c:l01Cur):Prop:=c.fb.length<=1048576/\0<=c.fi/\c.fi<=1048577
theorem aOr (c:l01Cur)(h:pL c):∃ r,iH c=some r/\(0<=r.1/\r.1<=255)/\pL r.2/\r.2.fb=c.fb:=by
 obtain⟨h1,h2,h3⟩:=h
 unfold iH
 simp only[aL]
 by_cases hc:c.fi<(c.fb.length:Int)
 · rw[if_pos hc]
   have:=aK (l:=c.fb) (k:=c.fi.toNat) (by omega)
   rw[show((c.fi.toNat:Nat):Int)=c.fi by omega]at this
   rw[this]
   simp only[Option.bind_some]
   refine⟨_,rfl,aHz _,⟨h1,?_,?_⟩,rfl⟩
   · simp only[];rw[wi (by omega)];omega
   · simp only[];rw[wi (by omega)];omega
 · rw[if_neg hc]
   exact⟨_,rfl,aHz _,⟨h1,h2,h3⟩,rfl⟩
theorem sL (c:l01Cur)(n:Int)(h:pL c)(hn:1<=n/\n<=256):∃ r,cH c n=some r/\(0<=r.1/\r.1<n)/\pL r.2/\r.2.fb=c.fb:=by
 unfold cH
 rw[if_neg (by omega),if_pos (by omega)]
 obtain⟨r,e,g1,g2,g3⟩:=aOr c h
 rw[show(l01Cur.mk c.fb c.fi c.fh)=c from rfl,e]
 simp only[Option.bind_some]
 rw[aO (by omega)]
 refine⟨_,rfl,⟨Int.tmod_nonneg _ g1.1,Int.tmod_lt_of_pos _ (by omega)⟩,?_,rfl⟩
 unfold pL at g2 h ⊢
 simp only[]
 exact⟨h.1,g2.2⟩
theorem aPJ (code:List Int)(h:code.length<=1048576):∃ c,sW code=some c/\pL c/\c.fb=code:=by
 unfold sW
 simp only[aL]
 have main:∀ (m k:Nat) (v:Int),m+k=code.length->∃ d,lp (mG code) (v,(k:Int))=some d:=by
  intro m
  induction m with
  | zero =>
   intro k v hk
   exact⟨v,aJ (by unfold mG;simp only[];rw[if_neg (by omega)];rfl)⟩
  | succ m ih =>
   intro k v hk
   have hlt:k<code.length:=by omega
   by_cases c:(k:Int)<4000
   · obtain⟨d,e⟩:=ih (k+1) (zY .i64 (i64.wrap (i64.wrap (i64.wrap (v*59)+i64.wrap code[k])+7)) 1073741823) (by omega)
     refine⟨d,?_⟩
     rw[aQ (s':=(zY .i64 (i64.wrap (i64.wrap (i64.wrap (v*59)+i64.wrap code[k])+7)) 1073741823,((k+1:Nat):Int))),e]
     unfold mG
     simp only[]
     rw[if_pos (by omega),aK hlt]
     have w:i64.wrap ((k:Int)+1)=((k+1:Nat):Int):=by rw[wi (by omega)];omega
     simp only[Option.bind_some,decide_eq_true c,if_true,aL,w]
   · refine⟨v,aJ ?_⟩
     unfold mG
     simp only[]
     rw[if_pos (by omega)]
     simp only[Option.bind_some,decide_eq_false c,Bool.false_eq_true,if_false]
 obtain⟨d,e⟩:=main code.length 0 (i64.wrap (1951+(code.length:Int))) (by omega)
 rw[show((0:Nat):Int)=0 from rfl]at e
 rw[e]
 exact⟨_,rfl,⟨h,by simp,by simp⟩,rfl⟩
end Go.Ev
/- Links that are drawn. -/
namespace Go.Ev
set_option linter.all false
theorem yS {fb:List Int}{c:l01Cur}(h:pL c)(e:c.fb=fb):pL ⟨fb,c.fi,c.fh⟩:=by
 subst e;exact h
def mkI (a b w x y:Int):QL:=⟨a,b,(w:Q),(x:Q),(y:Q)⟩
theorem aNN {a b w x y:Int}(h:0<=a/\a<b/\b<=5)(hw:1<=w/\w<=9)(hx:-20<=x/\x<=20)(hy:-20<=y/\y<=20):LkI (mkI a b w x y):=⟨h,w,x,y,hw,hx,hy,rfl,rfl,rfl⟩
theorem aHh {a b w x y:Int}(ha:0<=a/\a<=5)(hb:0<=b/\b<=5)(hab:a≠b)(hw:1<=w/\w<=9)(hx:-20<=x/\x<=20)(hy:-20<=y/\y<=20) :
 ∃ k:QL,qM a b w x y=some (k.toL,true)/\LkI k/\((k.a=a/\k.b=b)\/(k.a=b/\k.b=a)):=by
 unfold qM
 simp only[aBR,zI,Option.bind_some]
 rw[decide_eq_true (show 0<=a/\a<=9 by omega),decide_eq_true (show 0<=b/\b<=9 by omega),decide_eq_true (show 1<=w/\w<=9999 by omega),decide_eq_true (show -1000000<=x/\x<=1000000 by omega),decide_eq_true (show -1000000<=y/\y<=1000000 by omega)]
 simp only[if_true,if_neg hab,Option.bind_some,Bool.not_true,Bool.false_eq_true,if_false]
 by_cases c:b<a
 · rw[if_pos c]
   simp only[Option.bind_some]
   rw[wi (n:=0-x) (by omega),wi (n:=0-y) (by omega),bS w (by omega),bS (0-x) (by omega),bS (0-y) (by omega),aBe (z:=w) (by omega),aBe (z:=0-x) (by omega),aBe (z:=0-y) (by omega)]
   exact⟨mkI b a w (0-x) (0-y),rfl,aNN (by omega) hw (by omega) (by omega),.inr ⟨rfl,rfl⟩⟩
 · rw[if_neg c]
   simp only[Option.bind_some]
   rw[bS w (by omega),bS x (by omega),bS y (by omega),aBe (z:=w) (by omega),aBe (z:=x) (by omega),aBe (z:=y) (by omega)]
   exact⟨mkI a b w x y,rfl,aNN (by omega) hw hx hy,.inl ⟨rfl,rfl⟩⟩
theorem aOc (c:l01Cur)(n:Int)(h:pL c)(hn:1<=n/\n<=5):∃ (k:QL) (c':l01Cur),qJ c n=some (k.toL,c')/\pL c'/\c'.fb=c.fb/\LkI k/\k.b<=n:=by
 obtain⟨r1,a1,b1,c1,d1⟩:=sL ⟨c.fb,c.fi,c.fh⟩ n h (by omega)
 obtain⟨r2,a2,b2,c2,d2⟩:=sL ⟨c.fb,r1.2.fi,r1.2.fh⟩ n (yS c1 d1) (by omega)
 obtain⟨r3,a3,b3,c3,d3⟩:=sL ⟨c.fb,r2.2.fi,r2.2.fh⟩ 9 (yS c2 d2) (by omega)
 obtain⟨r4,a4,b4,c4,d4⟩:=sL ⟨c.fb,r3.2.fi,r3.2.fh⟩ 41 (yS c3 d3) (by omega)
 obtain⟨r5,a5,b5,c5,d5⟩:=sL ⟨c.fb,r4.2.fi,r4.2.fh⟩ 41 (yS c4 d4) (by omega)
 have aNn:∃ v:Int,((if(r1.1=r2.1)then(chk (IntKind.i64.wrap (n+1)≠0)).bind fun _u=>(aZ ((IntKind.i64.wrap (r1.1+1)).tmod (IntKind.i64.wrap (n+1)))).bind fun v4=>some v4 else some r2.1):Option Int)=some v/\(0<=v/\v<=n)/\r1.1≠v:=by
  by_cases e:r1.1=r2.1
  · rw[if_pos e,wi (n:=n+1) (by omega),wi (n:=r1.1+1) (by omega),aO (by omega)]
    simp only[Option.bind_some,aL]
    refine⟨_,rfl,?_⟩
    rw[Int.tmod_eq_of_lt (by omega) (by omega)];omega
  · rw[if_neg e];exact⟨_,rfl,by omega,e⟩
 obtain⟨v,ev,hv,hne⟩:=aNn
 obtain⟨k,ek,hk,hk2⟩:=aHh (a:=r1.1) (b:=v) (w:=1+r3.1) (x:=r4.1-20) (y:=r5.1-20) (by omega) (by omega) hne (by omega) (by omega) (by omega)
 refine⟨k,⟨c.fb,r5.2.fi,r5.2.fh⟩,?_,yS c5 d5,rfl,hk,by omega⟩
 unfold qJ
 rw[a1];simp only[Option.bind_some]
 rw[a2];simp only[Option.bind_some]
 rw[ev];simp only[Option.bind_some]
 rw[a3];simp only[Option.bind_some]
 rw[a4];simp only[Option.bind_some]
 rw[a5];simp only[Option.bind_some]
 rw[wi (n:=1+r3.1) (by omega),wi (n:=r4.1-20) (by omega),wi (n:=r5.1-20) (by omega),ek]
 rfl
structure LinkL (n:Int)(l:List QL):Prop where
 each:∀ x∈l,LkI x/\x.b<=n+1
 len:l.length<=7
 all:∀ k,1<=k->k<=n->∃ x∈l,x.b=k
theorem aRk (c:l01Cur)(n:Int)(hn:1<=n/\n<=4):∀ (m k:Nat) (l:List QL) (fi fh:Int),(m:Int)+k=n+1->1<=k->pL ⟨c.fb,fi,fh⟩->l.length=k-1->(∀ x∈l,LkI x/\x.b<=n)->(∀ j:Int,1<=j->j<k->∃ x∈l,x.b=j)->
 ∃ (l':List QL) (fi' fh':Int),lp (kY c n) ((k:Int),l.map QL.toL,fi,fh)=some (l'.map QL.toL,fi',fh')/\pL ⟨c.fb,fi',fh'⟩/\(l'.length:Int)=n/\(∀ x∈l',LkI x/\x.b<=n)/\∀ j:Int,1<=j->j<=n->∃ x∈l',x.b=j:=by
 intro m
 induction m with
 | zero =>
  intro k l fi fh hm hk hc hl he ha
  refine⟨l,fi,fh,aJ ?_,hc,by omega,he,fun j h1 h2=>ha j h1 (by omega)⟩
  unfold kY
  simp only[]
  rw[if_neg (by omega)]
 | succ m ih =>
  intro k l fi fh hm hk hc hl he ha
  obtain⟨r1,a1,b1,c1,d1⟩:=sL ⟨c.fb,fi,fh⟩ k hc (by omega)
  obtain⟨r2,a2,b2,c2,d2⟩:=sL ⟨c.fb,r1.2.fi,r1.2.fh⟩ 9 (yS c1 d1) (by omega)
  obtain⟨r3,a3,b3,c3,d3⟩:=sL ⟨c.fb,r2.2.fi,r2.2.fh⟩ 41 (yS c2 d2) (by omega)
  obtain⟨r4,a4,b4,c4,d4⟩:=sL ⟨c.fb,r3.2.fi,r3.2.fh⟩ 41 (yS c3 d3) (by omega)
  obtain⟨q,eq,hq,hq2⟩:=aHh (a:=r1.1) (b:=k) (w:=1+r2.1) (x:=r3.1-20) (y:=r4.1-20) (by omega) (by omega) (by omega) (by omega) (by omega) (by omega)
  have hqb:q.b=k:=by have:=hq.1;omega
  have st:kY c n ((k:Int),l.map QL.toL,fi,fh)=some (.inl (((k+1:Nat):Int),(l++[q]).map QL.toL,r4.2.fi,r4.2.fh)):=by
   unfold kY
   simp only[]
   rw[if_pos (by omega),a1]
   simp only[Option.bind_some]
   rw[a2]
   simp only[Option.bind_some]
   rw[a3]
   simp only[Option.bind_some]
   rw[a4]
   simp only[Option.bind_some]
   rw[wi (n:=1+r2.1) (by omega),wi (n:=r3.1-20) (by omega),wi (n:=r4.1-20) (by omega),eq]
   simp only[Option.bind_some]
   rw[aO (by rw[List.length_map];omega),wi (n:=(k:Int)+1) (by omega)]
   simp only[Option.bind_some,aL,List.map_append,List.map_cons,List.map_nil]
   rfl
  rw[aQ st]
  refine ih (k+1) (l++[q]) r4.2.fi r4.2.fh (by omega) (by omega) (yS c4 d4) (by rw[List.length_append,List.length_singleton];omega) (fun x hx=>?_) (fun j h1 h2=>?_)
  · rcases List.mem_append.1 hx with hx | hx
    · exact he x hx
    · simp at hx;subst hx;exact⟨hq,by omega⟩
  · by_cases e:j=k
    · exact⟨q,by simp,by omega⟩
    · obtain⟨x,hx,h⟩:=ha j h1 (by omega)
      exact⟨x,by simp[hx],h⟩
theorem aRj (c:l01Cur)(n:Int)(hn:1<=n/\n<=4):∀ (m:Nat) (l:List QL) (fi fh:Int),pL ⟨c.fb,fi,fh⟩->l.length+m<=7->(∀ x∈l,LkI x/\x.b<=n+1)->
 ∃ (l':List QL) (fi' fh':Int),lp (kX c n) ((m:Int),l.map QL.toL,fi,fh)=some ((l++l').map QL.toL,fi',fh')/\pL ⟨c.fb,fi',fh'⟩/\(l++l').length<=7/\∀ x∈l++l',LkI x/\x.b<=n+1:=by
 intro m
 induction m with
 | zero =>
  intro l fi fh hc hl he
  refine⟨[],fi,fh,aJ ?_,hc,by simpa using hl,by simpa using he⟩
  unfold kX
  simp only[]
  rw[if_neg (by omega),List.append_nil]
 | succ m ih =>
  intro l fi fh hc hl he
  obtain⟨q,c',a1,a2,a3,a4,a5⟩:=aOc ⟨c.fb,fi,fh⟩ (n+1) hc (by omega)
  have st:kX c n (((m+1:Nat):Int),l.map QL.toL,fi,fh)=some (.inl ((m:Int),(l++[q]).map QL.toL,c'.fi,c'.fh)):=by
   unfold kX
   simp only[]
   rw[if_pos (by omega),wi (n:=n+1) (by omega),a1]
   simp only[Option.bind_some]
   rw[aO (by rw[List.length_map];omega),wi (n:=((m+1:Nat):Int)-1) (by omega)]
   simp only[Option.bind_some,aL,List.map_append,List.map_cons,List.map_nil]
   rw[show((m+1:Nat):Int)-1=(m:Int)by omega]
  rw[aQ st]
  obtain⟨l',fi',fh',g1,g2,g3,g4⟩:=ih (l++[q]) c'.fi c'.fh (yS a2 a3) (by rw[List.length_append,List.length_singleton];omega) (fun x hx=>by
   rcases List.mem_append.1 hx with hx | hx
   · exact he x hx
   · simp at hx;subst hx;exact⟨a4,a5⟩)
  have e:l++[q]++l'=l++(q::l'):=by simp
  rw[e]at g1 g3 g4
  exact⟨q::l',fi',fh',g1,g2,g3,g4⟩
theorem aQq (c:l01Cur)(n:Int)(h:pL c)(hn:1<=n/\n<=4):∃ (l:List QL) (c':l01Cur),tO c n=some (l.map QL.toL,c')/\pL c'/\c'.fb=c.fb/\LinkL n l:=by
 obtain⟨l1,f1,g1,e1,o1,n1,h1,a1⟩:=aRk c n hn n.toNat 1 [] c.fi c.fh (by omega) (by omega) h rfl (by simp) (fun j h1 h2=>by omega)
 obtain⟨r,e2,b2,o2,d2⟩:=sL ⟨c.fb,f1,g1⟩ 4 o1 (by omega)
 obtain⟨l2,f3,g3,e3,o3,n3,h3⟩:=aRj c n hn r.1.toNat l1 r.2.fi r.2.fh (yS o2 d2) (by omega) (fun x hx=>⟨(h1 x hx).1,by have:=(h1 x hx).2;omega⟩)
 refine⟨l1++l2,⟨c.fb,f3,g3⟩,?_,o3,rfl,⟨h3,n3,fun k k1 k2=>?_⟩⟩
 · unfold tO
   rw[show((1:Nat):Int)=1 from rfl,List.map_nil]at e1
   rw[e1]
   simp only[Option.bind_some]
   rw[e2]
   simp only[Option.bind_some]
   rw[show((r.1.toNat:Nat):Int)=r.1 by omega]at e3
   rw[e3]
   rfl
 · obtain⟨x,hx,e⟩:=a1 k k1 k2
   exact⟨x,by simp[hx],e⟩
end Go.Ev
/- Is it a tree, both programs, and the law. -/
namespace Go.Ev
set_option linter.all false
def gX (t:Tree):List Int:=t.fNodes.map (·.fNode)
theorem aLb (a b:Tree)(h:jJ a<=4294967296):sC a b=some (decide (a=b)):=by
 unfold jJ lT at h
 have hl:=iG bQ a.fNodes
 obtain⟨a⟩:=a
 obtain⟨b⟩:=b
 simp only[]at h hl
 unfold sC
 by_cases hn:a.length=b.length
 · rw[if_neg (by simp only[];omega),aIk a b hn (fun k ha hb=>by
    have he:=pH (w:=bQ) (List.getElem_mem ha)
    unfold qU
    simp only[]
    rw[if_pos (by omega),aK ha,aK hb,wi (by omega)]
    simp only[Option.bind_some]
    rw[aFe _ _ (by omega)]
    by_cases c:a[k]=b[k] <;> simp[c]) (by unfold qU;simp only[];rw[if_neg (by omega)])]
   by_cases c:a=b <;> simp[c]
 · rw[if_pos (by simp only[];omega)]
   have:a≠b:=by rintro rfl;exact hn rfl
   simp[this]
def pI (t:Tree):Prop:=nW (cI t.fNodes) (gX t)=some t
noncomputable instance (t:Tree):Decidable (pI t):=Classical.propDecidable _
end Go.Ev
/- Paths of a tree end: what a tree's node hands up lies later in the order. -/
namespace Go.Ev
set_option linter.all false
def pr (s:List Link)(x y:Int):Prop:=∃ l∈s,l.fA=x/\l.fB=y
theorem aBg {a b:List Link}{x y:Int}:pr (a++b) x y↔pr a x y\/pr b x y:=by
 unfold pr
 constructor
 · rintro⟨l,h,e⟩
   rcases List.mem_append.1 h with h | h
   · exact .inl ⟨l,h,e⟩
   · exact .inr ⟨l,h,e⟩
 · rintro(⟨l,h,e⟩ | ⟨l,h,e⟩)
   · exact⟨l,List.mem_append_left _ h,e⟩
   · exact⟨l,List.mem_append_right _ h,e⟩
theorem aEP {a:List Link}{l:Link}{x y:Int}:pr (l::a) x y↔(l.fA=x/\l.fB=y)\/pr a x y:=by
 unfold pr;simp only[List.mem_cons,exists_eq_or_imp]
theorem aKg {x y:Int}:¬pr [] x y:=by rintro⟨l,h,_⟩;cases h
theorem aPp {s:List Link}{l:Link}{s':List Link}{e:Rat}(h:aAU s l=some (s',e))(x y:Int):pr s' x y↔pr s x y\/(l.fA=x/\l.fB=y):=by
 have ins:∀ p,pr (s.take p++[l]++s.drop p) x y↔pr s x y\/(l.fA=x/\l.fB=y):=by
  intro p
  have e1:pr s x y↔pr (s.take p) x y\/pr (s.drop p) x y:=by rw[<- aBg,List.take_append_drop]
  rw[e1,List.append_assoc,aBg,List.singleton_append,aEP]
  constructor
  · rintro(h | h | h)
    · exact .inl (.inl h)
    · exact .inr h
    · exact .inl (.inr h)
  · rintro((h | h) | h)
    · exact .inl h
    · exact .inr (.inr h)
    · exact .inr (.inl h)
 unfold aAU at h
 by_cases c:dV l s<s.length
 · rw[dif_pos c]at h
   by_cases c2:fD l s[dV l s]
   · rw[if_pos c2]at h;cases h;exact ins _
   · rw[if_neg c2]at h
     have nl:=aBK l s c
     have hA:s[dV l s].fA=l.fA/\s[dV l s].fB=l.fB:=by unfold fD at c2 nl;omega
     by_cases O:zH s[dV l s] l
     · rw[if_pos O]at h;cases h
       have e1:pr s x y↔pr (s.take (dV l s)) x y\/((s[dV l s].fA=x/\s[dV l s].fB=y)\/pr (s.drop (dV l s+1)) x y):=by
        rw[<- aEP,<- List.drop_eq_getElem_cons c,<- aBg,List.take_append_drop]
       rw[e1,List.append_assoc,aBg,List.singleton_append,aEP]
       have e2:(aA6 s[dV l s] l).fA=s[dV l s].fA:=rfl
       have e3:(aA6 s[dV l s] l).fB=s[dV l s].fB:=rfl
       rw[e2,e3,hA.1,hA.2]
       constructor
       · rintro(h | h | h)
         · exact .inl (.inl h)
         · exact .inr h
         · exact .inl (.inr (.inr h))
       · rintro((h | h | h) | h)
         · exact .inl h
         · exact .inr (.inl h)
         · exact .inr (.inr h)
         · exact .inr (.inl h)
     · rw[if_neg O]at h;cases h
 · rw[dif_neg c]at h;cases h;exact ins _
theorem aJs:∀ (l s:List Link) (e:Rat) (s':List Link) (e':Rat),uR l s e=some (s',e')->∀ x y,pr s' x y↔pr s x y\/pr l x y
 | [],s,e,s',e',h,x,y=>by
  rw[uR]at h;cases h
  exact⟨.inl,fun h=>h.elim id (fun h=>(aKg h).elim)⟩
 | a::r,s,e,s',e',h,x,y=>by
  rw[uR]at h
  cases ha:aAU s a with
  | none=>rw[ha]at h;cases h
  | some t =>
   obtain⟨s1,e1⟩:=t
   rw[ha]at h
   simp only[]at h
   by_cases c:bK (RA e e1)
   · rw[if_pos c]at h
     rw[aJs r s1 _ s' e' h x y,aPp ha,aEP,or_assoc]
   · rw[if_neg c]at h;cases h
theorem aF8 {l s:List Link}{e:Rat}(h:jnP l=some (s,e))(x y:Int):pr s x y↔pr l x y:=by
 unfold jnP at h
 by_cases c:∀ x∈l,ValidL x
 · rw[if_pos c]at h
   rw[aJs l [] _ s e h x y]
   exact⟨fun h=>h.elim (fun h=>(aKg h).elim) id,.inr⟩
 · rw[if_neg c]at h;cases h
def adj (s:List Link)(x y:Int):Prop:=pr s x y\/pr s y x
def en (s:List Link)(x:Int):Prop:=∃ y,adj s x y
theorem aLs (t:Rat){x y:Int}:∀ {a:List l08Arm},(a.map (·.fnode)).Pairwise (· < ·)->(pr (hG t a) x y↔x∈a.map (·.fnode)/\y∈a.map (·.fnode)/\x<y)
 | [],_=>⟨fun h=>(aKg h).elim,fun h=>by cases h.1⟩
 | b::r,hp=>by
  rw[List.map_cons,List.pairwise_cons]at hp
  rw[hG,aBg,aLs t hp.2,List.map_cons]
  have e1:pr (r.map (sY t b)) x y↔x=b.fnode/\y∈r.map (·.fnode):=by
   constructor
   · rintro⟨l,hl,h1,h2⟩
     obtain⟨z,hz,rfl⟩:=List.mem_map.1 hl
     exact⟨h1.symm,List.mem_map.2 ⟨z,hz,h2⟩⟩
   · rintro⟨rfl,h⟩
     obtain⟨z,hz,rfl⟩:=List.mem_map.1 h
     exact⟨sY t b z,List.mem_map.2 ⟨z,hz,rfl⟩,rfl,rfl⟩
  rw[e1,List.mem_cons,List.mem_cons]
  constructor
  · rintro(⟨rfl,h⟩ | ⟨h1,h2,h3⟩)
    · exact⟨.inl rfl,.inr h,hp.1 y h⟩
    · exact⟨.inr h1,.inr h2,h3⟩
  · rintro⟨h1,h2,h3⟩
    rcases h1 with rfl | h1
    · rcases h2 with rfl | h2
      · omega
      · exact .inl ⟨rfl,h2⟩
    · rcases h2 with rfl | h2
      · have:=hp.1 x h1;omega
      · exact .inr ⟨h1,h2,h3⟩
theorem aLg {v:Int}{s:List Link}(hs:LSet s){c:Conditional}{m:List Link}{f:Rat}(h:aBd v s=some (c,m,f)) :
 (∀ p,p∈xL c↔adj s p v)/\∀ x y,pr m x y↔(pr s x y/\x≠v/\y≠v)\/(x∈xL c/\y∈xL c/\x<y):=by
 unfold aBd at h
 cases h1:wP v s with
 | none=>rw[h1]at h;cases h
 | some u =>
  rw[h1]at h
  cases h2:jnP (wF v s++u.2)with
  | none=>rw[Option.bind_some,h2]at h;cases h
  | some w =>
   rw[Option.bind_some,h2]at h
   cases h
   unfold wP at h1
   split at h1
   · cases h1
     have hn:xL (aAq v (bL v s))=(bL v s).map (·.fnode):=by unfold xL aAq;rw[List.map_map];rfl
     have hp:∀ p,p∈xL (aAq v (bL v s))↔adj s p v:=by
      intro p
      rw[hn]
      unfold bL
      rw[List.map_map]
      simp only[List.mem_map,List.mem_filter,Function.comp]
      constructor
      · rintro⟨l,⟨hl,ht⟩,rfl⟩
        rw[aAT]
        unfold rT tch at *
        have ht:=of_decide_eq_true ht
        split
        · rename_i e;exact .inr ⟨l,hl,e,rfl⟩
        · rename_i e;exact .inl ⟨l,hl,rfl,ht.resolve_left e⟩
      · rintro(⟨l,hl,e1,e2⟩ | ⟨l,hl,e1,e2⟩)
        · have:=(hs.1 l hl).2.2.1
          refine⟨l,⟨hl,by unfold tch;simp[e2]⟩,?_⟩
          rw[aAT];unfold rT
          rw[if_neg (by omega)];exact e1
        · refine⟨l,⟨hl,by unfold tch;simp[e1]⟩,?_⟩
          rw[aAT];unfold rT
          rw[if_pos e1];exact e2
     refine⟨hp,fun x y=>?_⟩
     rw[aF8 (s:=w.1) (e:=w.2) h2,aBg,aLs _ (aHA hs v),<- hn]
     have hr:pr (wF v s) x y↔pr s x y/\x≠v/\y≠v:=by
      unfold wF pr
      simp only[List.mem_filter,tch,Bool.not_eq_true',decide_eq_false_iff_not]
      constructor
      · rintro⟨l,⟨hl,hn⟩,rfl,rfl⟩
        exact⟨⟨l,hl,rfl,rfl⟩,fun e=>hn (.inl e),fun e=>hn (.inr e)⟩
      · rintro⟨⟨l,hl,rfl,rfl⟩,a,b⟩
        exact⟨l,⟨hl,fun h=>h.elim a b⟩,rfl,rfl⟩
     rw[hr]
   · cases h1
structure PathN (o:List Int)(n:TreeNode):Prop where
 near:∀ x,en n.fMessages x->x∈xL n.fCond
 clq:∀ x y,x∈xL n.fCond->y∈xL n.fCond->x<y->pr n.fMessages x y
 late:∀ i (h:i<o.length),o[i]=n.fNode->∀ p∈xL n.fCond,p∉o.take (i+1)
theorem aDL {v:Int}{b:List TreeNode}{x y:Int}:pr (wY v b) x y↔∃ n∈b,n.fUp=v/\pr n.fMessages x y:=by
 unfold pr wY
 constructor
 · rintro⟨l,hl,e⟩
   obtain⟨n,hn,h⟩:=List.mem_flatMap.1 hl
   obtain⟨h1,h2⟩:=List.mem_filter.1 hn
   exact⟨n,h1,of_decide_eq_true h2,l,h,e⟩
 · rintro⟨n,h1,h2,l,h,e⟩
   exact⟨l,List.mem_flatMap.2 ⟨n,List.mem_filter.2 ⟨h1,by simp[h2]⟩,h⟩,e⟩
theorem aKp {s:List Link}{o:List Int}(hn:o.Nodup)(h1:∀ u∈o,1<=u){k:Nat}(hk:k<o.length){b:List TreeNode}(hb:∀ n∈b,NodeOk s o n/\PathN o n){n:TreeNode}(h:mI o o[k] (s.filter (lX o o[k])) b=some n):PathN o n:=by
 have hv:=h1 _ (List.getElem_mem hk)
 unfold mI at h
 cases e1:jnP (s.filter (lX o o[k])++wY o[k] b)with
 | none=>rw[e1]at h;cases h
 | some u =>
  obtain⟨j,e⟩:=u
  rw[e1,Option.bind_some]at h
  cases e2:aBd o[k] j with
  | none=>rw[e2]at h;cases h
  | some w =>
   obtain⟨c,m,f⟩:=w
   rw[e2,Option.bind_some]at h
   split at h
   · cases h
     obtain⟨_,hs,_⟩:=aAM e1
     obtain⟨hp,hm⟩:=aLg hs e2
     have hj:∀ x y,pr j x y↔pr (s.filter (lX o o[k])) x y\/pr (wY o[k] b) x y:=fun x y=>by rw[aF8 e1,aBg]
     have up:∀ n∈b,n.fUp=o[k]->aS o (xL n.fCond)=o[k]:=fun n hn hu=>by rw[<- hu,(hb n hn).1.2.2.2.2];rfl
     have nb:∀ x,en j x->x≠o[k]->adj j x o[k]:=by
      rintro x ⟨y,hxy⟩ hx
      have own:∀ x y,pr (s.filter (lX o o[k])) x y->(x=o[k]\/y=o[k]):=by
       rintro x y ⟨l,hl,rfl,rfl⟩
       have:=(aBS (of_decide_eq_true (List.mem_filter.1 hl).2) (by omega)).1
       simp only[List.mem_cons,List.not_mem_nil,or_false]at this
       exact this.elim (fun h=>.inl h.symm) (fun h=>.inr h.symm)
      have msg:∀ x,(∃ y,adj (wY o[k] b) x y)->x≠o[k]->adj j x o[k]:=by
       rintro x ⟨y,h⟩ hx
       have:∃ n∈b,n.fUp=o[k]/\en n.fMessages x:=by
        rcases h with h | h
        · obtain⟨n,a,b,c⟩:=aDL.1 h;exact⟨n,a,b,y,.inl c⟩
        · obtain⟨n,a,b,c⟩:=aDL.1 h;exact⟨n,a,b,y,.inr c⟩
       obtain⟨n,hn,hu,he⟩:=this
       have px:=(hb n hn).2.near x he
       have pv:=(aBS (up n hn hu) (by omega)).1
       rcases Int.lt_or_gt_of_ne hx with hlt | hlt
       · exact .inl ((hj _ _).2 (.inr (aDL.2 ⟨n,hn,hu,(hb n hn).2.clq _ _ px pv hlt⟩)))
       · exact .inr ((hj _ _).2 (.inr (aDL.2 ⟨n,hn,hu,(hb n hn).2.clq _ _ pv px hlt⟩)))
      rcases hxy with h | h
      · rcases(hj _ _).1 h with g | g
        · rcases own _ _ g with e | e
          · exact absurd e hx
          · rw[e]at h;exact .inl h
        · exact msg x ⟨y,.inl g⟩ hx
      · rcases(hj _ _).1 h with g | g
        · rcases own _ _ g with e | e
          · rw[e]at h;exact .inr h
          · exact absurd e hx
        · exact msg x ⟨y,.inr g⟩ hx
     refine⟨?_,fun x y hx hy hxy=>(hm x y).2 (.inr ⟨hx,hy,hxy⟩),?_⟩
     · rintro x ⟨y,h | h⟩
       · rcases(hm x y).1 h with⟨g,a,_⟩ | ⟨g,_⟩
         · exact(hp x).2 (nb x ⟨y,.inl g⟩ a)
         · exact g
       · rcases(hm y x).1 h with⟨g,_,a⟩ | ⟨_,g,_⟩
         · exact(hp x).2 (nb x ⟨y,.inr g⟩ a)
         · exact g
     · intro i hi hio p hpp hpt
       have hik:i=k:=by
        have:=(List.getElem_inj hn).1 (show o[i]=o[k]from hio);exact this
       subst hik
       have ha:=(hp p).1 hpp
       have hne:p≠o[i]:=by
        rintro rfl
        rcases ha with⟨l,hl,a,b⟩ | ⟨l,hl,a,b⟩ <;> (have:=(hs.1 l hl).2.2.1;omega)
       have hpt:p∈o.take i:=by
        rw[List.take_add_one,List.getElem?_eq_getElem hi]at hpt
        rcases List.mem_append.1 hpt with h | h
        · exact h
        · exact absurd (by simpa using h) hne
       have key:∀ x y,pr j x y->(x=p\/y=p)->False:=by
        intro x y h hxy
        rcases(hj x y).1 h with⟨l,hl,rfl,rfl⟩ | h
        · have:=((aCH hi hn h1).1 (of_decide_eq_true (List.mem_filter.1 hl).2)).2 p hpt
          simp only[List.mem_cons,List.not_mem_nil,or_false,not_or]at this
          rcases hxy with e | e
          · exact this.1 e.symm
          · exact this.2 e.symm
        · obtain⟨n,hn',hu,g⟩:=aDL.1 h
          refine((aCH hi hn h1).1 (up n hn' hu)).2 p hpt ((hb n hn').2.near p ?_)
          rcases hxy with rfl | rfl
          · exact⟨y,.inl g⟩
          · exact⟨x,.inr g⟩
       rcases ha with h | h
       · exact key _ _ h (.inl rfl)
       · exact key _ _ h (.inr rfl)
   · cases h
theorem aE4 {s:List Link}{o:List Int}(hn:o.Nodup)(h1:∀ u∈o,1<=u):∀ m k:Nat,m+k=o.length->∀ b b':List TreeNode,(∀ n∈b,NodeOk s o n/\PathN o n)->pG s o (o.drop k) b=some b'->∀ n∈b',NodeOk s o n/\PathN o n:=by
 intro m
 induction m with
 | zero =>
  intro k hk b b' hb h
  rw[List.drop_eq_nil_of_le (by omega),pG]at h
  cases h;exact hb
 | succ m ih =>
  intro k hk b b' hb h
  have hlt:k<o.length:=by omega
  rw[List.drop_eq_getElem_cons hlt,pG]at h
  cases e:mI o o[k] (s.filter (lX o o[k])) b with
  | none=>rw[e]at h;cases h
  | some n =>
   rw[e,Option.bind_some]at h
   refine ih (k+1) (by omega) (b++[n]) b' (fun x hx=>?_) h
   rcases List.mem_append.1 hx with hx | hx
   · exact hb x hx
   · rw[List.mem_singleton.1 hx];exact⟨(aFC e).1,aKp hn h1 hlt hb e⟩
theorem aHN {t:Tree}(ht:pI t):t.fNodes.length<=9/\∀ k (hk:k<t.fNodes.length) j,atN t (t.fNodes[k]).fUp=some j->k<j/\j<t.fNodes.length:=by
 unfold pI nW at ht
 cases h:jnP (cI t.fNodes)with
 | none=>rw[h]at ht;cases ht
 | some x =>
  rw[h,Option.bind_some]at ht
  by_cases c:isOrd x.1 (gX t)
  · rw[if_pos c]at ht
    obtain⟨l9,h1⟩:=aBu c
    cases g:pG (cI t.fNodes) (gX t) (gX t) []with
    | none=>rw[g]at ht;cases ht
    | some b =>
     rw[g]at ht
     have hb : b = t.fNodes := by have : Tree.mk b = t := by simpa using ht
                                  rw[<- this]
     subst hb
     have hp:=aE4 c.1 h1 (gX t).length 0 (by omega) [] t.fNodes (by simp) (by rw[List.drop_zero];exact g)
     have hl:(gX t).length=t.fNodes.length:=by unfold gX;rw[List.length_map]
     refine⟨by omega,fun k hk j hj=>?_⟩
     unfold atN at hj
     rw[List.findIdx?_eq_some_iff_getElem]at hj
     obtain⟨hjl,he,_⟩:=hj
     refine⟨?_,hjl⟩
     have he:=of_decide_eq_true he
     obtain⟨ok,pn⟩:=hp _ (List.getElem_mem hk)
     have hu:(t.fNodes[k]).fUp=aS (gX t) (xL (t.fNodes[k]).fCond):=ok.2.2.2.2
     have hoj:(gX t)[j]'(by omega)=(t.fNodes[j]).fNode:=by simp[gX]
     have hok:(gX t)[k]'(by omega)=(t.fNodes[k]).fNode:=by simp[gX]
     have hju:=h1 _ (List.getElem_mem (by omega:j<(gX t).length))
     have hm:=(aBS hu.symm (by omega)).1
     have nt:=pn.late k (by omega) hok _ hm
     apply Decidable.byContradiction
     intro hle
     apply nt
     rw[<- he,<- hoj]
     exact List.mem_iff_getElem.2 ⟨j,by rw[List.length_take];omega,by rw[List.getElem_take]⟩
  · rw[if_neg c]at ht;cases ht
end Go.Ev
/- Trees in another order, and the nodes that a change affects: both programs, and the laws. -/
namespace Go.Ev
set_option linter.all false
theorem aJz (d:List Int):∀ (l:List TreeNode) (u:List Int),l.foldl (fun u n=>if n.fNode∈d then u++[n.fNode]else u) u=u++(l.map (·.fNode)).filter (fun x=>decide (x∈d))
 | [],u=>by simp
 | n::l,u=>by
  rw[List.foldl_cons,aJz d l,List.map_cons,List.filter_cons]
  by_cases c:n.fNode∈d <;> simp[c]
end Go.Ev
/- The law of building a tree; inserting a link, both programs, and the law. -/
namespace Go.Ev
set_option linter.all false
def yY (o:List Int)(l:Link):List Int:=[l.fA,l.fB].filter (fun y=>decide (0<y/\y∉o))
theorem aNH (o:List Int)(l:Link):(yY o l).length<=2:=List.length_filter_le _ _
theorem aMe (o:List Int)(l:Link):yY o l=(if 0<l.fA/\l.fA∉o then [l.fA]else [])++(if 0<l.fB/\l.fB∉o then [l.fB]else []):=by
 unfold yY
 rw[List.filter_cons,List.filter_cons,List.filter_nil]
 by_cases a:0<l.fA/\l.fA∉o <;> by_cases b:0<l.fB/\l.fB∉o <;> simp[a,b]
theorem aJN {t:Tree}{v:Int}:atN t v=none↔v∉gX t:=by
 unfold atN gX
 rw[List.findIdx?_eq_none_iff]
 simp only[decide_eq_false_iff_not,List.mem_map,not_exists,not_and]
theorem zJ (t:Tree)(v:Int)(h:t.fNodes.length<=4294967296):(lK t v).bind (fun r=>some (decide (r<0)))=some (decide (v∉gX t)):=by
 rw[aDT t v h,Option.bind_some]
 cases e:atN t v with
 | none=>simp[aJN.1 e]
 | some k =>
  have:¬v∉gX t:=fun h=>by rw[aJN.2 h]at e;cases e
  simp only[Int.not_lt.2 (Int.natCast_nonneg k),decide_false,this]
theorem aMd (t:Tree)(ht:t.fNodes.length<=4294967296)(l:Link)(hv:ValidL l)(o u:List Int)(ho:o.length<=4194304)(hu:u.length<=4194304):lp (cS t l) (0,o,u)=some (o++yY (gX t) l,u++yY (gX t) l):=by
 rw[aMe]
 have hA0:=hv.1.1
 have hB0:=hv.2.1.1
 have s3:∀ o u,cS t l (2,o,u)=some (.inr (o,u)):=by
  intro o u
  unfold cS
  simp
 have hB:∀ (o u:List Int),o.length<=4194305->u.length<=4194305->lp (cS t l) (1,o,u)=some (o++(if 0<l.fB/\l.fB∉gX t then [l.fB]else []),u++(if 0<l.fB/\l.fB∉gX t then [l.fB]else [])):=by
  intro o u ho hu
  by_cases c:0<l.fB/\l.fB∉gX t
  · rw[aQ (s':=(2,o++[l.fB],u++[l.fB])),aJ (s3 _ _),if_pos c]
    unfold cS
    simp only[]
    rw[if_pos (by simp),show idx [l.fA,l.fB] 1=some l.fB from rfl]
    simp only[Option.bind_some]
    rw[if_pos (by omega),zJ t _ ht,decide_eq_true c.2]
    simp only[Option.bind_some,if_true]
    rw[aO (by omega)]
    simp only[Option.bind_some,aL]
    rw[aO (by omega)];rfl
  · rw[aQ (s':=(2,o,u)),aJ (s3 _ _),if_neg c,List.append_nil,List.append_nil]
    unfold cS
    simp only[]
    rw[if_pos (by simp),show idx [l.fA,l.fB] 1=some l.fB from rfl]
    simp only[Option.bind_some]
    by_cases d:0<l.fB
    · have:¬l.fB∉gX t:=fun h=>c ⟨d,h⟩
      rw[if_pos (by omega),zJ t _ ht,decide_eq_false this];rfl
    · rw[if_neg (by omega)];rfl
 by_cases c:0<l.fA/\l.fA∉gX t
 · rw[aQ (s':=(1,o++[l.fA],u++[l.fA])),hB _ _ (by simp;omega) (by simp;omega),if_pos c]
   · simp only[List.append_assoc]
   · unfold cS
     simp only[]
     rw[if_pos (by simp),show idx [l.fA,l.fB] 0=some l.fA from rfl]
     simp only[Option.bind_some]
     rw[if_pos (by omega),zJ t _ ht,decide_eq_true c.2]
     simp only[Option.bind_some,if_true]
     rw[aO (by omega)]
     simp only[Option.bind_some,aL]
     rw[aO (by omega)];rfl
 · rw[aQ (s':=(1,o,u)),hB _ _ (by omega) (by omega),if_neg c]
   · simp
   · unfold cS
     simp only[]
     rw[if_pos (by simp),show idx [l.fA,l.fB] 0=some l.fA from rfl]
     simp only[Option.bind_some]
     by_cases d:0<l.fA
     · have:¬l.fA∉gX t:=fun h=>c ⟨d,h⟩
       rw[if_pos (by omega),zJ t _ ht,decide_eq_false this];rfl
     · rw[if_neg (by omega)];rfl
def pkI:Option (Tree×List Int)->Tree×List Int×Bool
 | some (u,a)=>(u,a,true)
 | none=>(Tree.mk [],[],false)
end Go.Ev
/- Cliques: their nodes in order. -/
set_option linter.all false
namespace Go.Ev
set_option linter.all false
end Go.Ev
/- Deleting a link, both programs, and the law. -/
namespace Go.Ev
set_option linter.all false
theorem aI8 {s u:List Link}{e:Rat}(h:jnP s=some (u,e)):fV u=fV s:=by
 refine aAx (aAF u) (aAF s) fun x=>?_
 have h1:∀ (a b:List Link),(∀ x y,pr a x y->pr b x y)->(∃ l∈a,l.fA=x\/l.fB=x)->∃ l∈b,l.fA=x\/l.fB=x:=by
  rintro a b hab ⟨l,hl,c⟩
  obtain⟨m,hm,e1,e2⟩:=hab l.fA l.fB ⟨l,hl,rfl,rfl⟩
  exact⟨m,hm,by rw[e1,e2];exact c⟩
 rw[aAD,aAD]
 exact⟨fun⟨a,b⟩=>⟨a,h1 u s (fun x y=>(aF8 h x y).1) b⟩,fun⟨a,b⟩=>⟨a,h1 s u (fun x y=>(aF8 h x y).2) b⟩⟩
end Go.Ev
/- Trees that are drawn. -/
namespace Go.Ev
set_option linter.all false
theorem LinkL.tie {n:Int}{l:List QL}(h:LinkL n l){o:List Int}(nd:o.Nodup)(hm:∀ u,u∈o↔u∈fV (l.map QL.toL)):Tie l o:=by
 refine aMS h.each (by have:=h.len;omega) h.all nd fun u=>?_
 rw[hm,aFL]
 constructor
 · rintro⟨h1,z,hz,ht⟩
   obtain⟨y,hy,rfl⟩:=List.mem_map.1 hz
   exact⟨h1.1,y,hy,ht⟩
 · rintro⟨h1,y,hy,ht⟩
   have:=(h.each y hy).1.1
   exact⟨by omega,y.toL,List.mem_map_of_mem hy,ht⟩
theorem LinkL.tie0 {n:Int}{l:List QL}(h:LinkL n l):Tie l (fV (l.map QL.toL)):=h.tie (aAC _) fun _=>Iff.rfl
theorem Base.valid {l:List QL}{o:List Int}(hb:Base l o):∀ x∈l.map QL.toL,ValidL x:=by
 intro x hx
 have:=hb.join.1
 exact(aAM this).1 x hx
theorem Tie.sz {l:List QL}{o:List Int}(h:Tie l o):aI (l.map QL.toL)<=2000:=by
 have h1:=aBE h.base.valid
 rw[List.length_map]at h1
 have:=h.len
 omega
theorem Tie.join {l:List QL}{o:List Int}(h:Tie l o):∃ s e,jnP (l.map QL.toL)=some (s,e)/\LSet s/\fV s=fV (l.map QL.toL):=by
 have h1:=h.base.join.1
 exact⟨_,_,h1,(aAM h1).2.1,aI8 h1⟩
theorem aNu (c:l01Cur)(s:List Int)(hs:s.length<=9):∀ (m k:Nat) (a:List Int) (fi fh:Int),m+k=s.length->pL ⟨c.fb,fi,fh⟩->a.Perm (s.take k)->
 ∃ (a':List Int) (fi' fh':Int),lp (kW c s) ((k:Int),a,fi,fh)=some (a',fi',fh')/\pL ⟨c.fb,fi',fh'⟩/\a'.Perm s:=by
 intro m
 induction m with
 | zero =>
  intro k a fi fh hm hc hp
  refine⟨a,fi,fh,aJ ?_,hc,by rw[List.take_of_length_le (by omega)]at hp;exact hp⟩
  unfold kW
  simp only[]
  rw[if_neg (by omega)]
 | succ m ih =>
  intro k a fi fh hm hc hp
  have hlt:k<s.length:=by omega
  have hl:a.length=k:=by rw[hp.length_eq,List.length_take];omega
  obtain⟨r,a1,b1,c1,d1⟩:=sL ⟨c.fb,fi,fh⟩ ((k:Int)+1) hc (by omega)
  have e1:sub a 0 r.1=some (a.take r.1.toNat):=by rw[sH _ _ _ (by omega)];simp
  have e2:sub a r.1 (a.length:Int)=some (a.drop r.1.toNat):=by
   rw[sH _ _ _ (by omega),List.take_of_length_le (by rw[List.length_drop];omega)]
  have t1:(a.take r.1.toNat).length<=9:=by rw[List.length_take];omega
  have t2:(a.drop r.1.toNat).length<=9:=by rw[List.length_drop];omega
  have st:kW c s ((k:Int),a,fi,fh)=some (.inl (((k+1:Nat):Int),a.take r.1.toNat++[s[k]]++a.drop r.1.toNat,r.2.fi,r.2.fh)):=by
   unfold kW
   simp only[]
   rw[if_pos (by omega),aK hlt]
   simp only[Option.bind_some,aL]
   rw[wi (n:=(a.length:Int)+1) (by omega),hl,a1]
   simp only[Option.bind_some]
   rw[e1]
   simp only[Option.bind_some,List.nil_append,List.length_nil,Nat.zero_add]
   rw[aO (by omega)]
   simp only[Option.bind_some,aL]
   rw[aO (by omega)]
   simp only[Option.bind_some,aL]
   rw[hl]at e2
   rw[e2]
   simp only[Option.bind_some]
   rw[aO (by rw[List.length_append,List.length_singleton];omega),wi (n:=(k:Int)+1) (by omega)]
   rfl
  rw[aQ st]
  refine ih (k+1) _ _ _ (by omega) (yS c1 d1) ?_
  rw[List.take_add_one,List.getElem?_eq_getElem hlt]
  have p1:(a.take r.1.toNat++[s[k]]++a.drop r.1.toNat).Perm (a++[s[k]]):=by
   rw[List.append_assoc]
   refine(List.Perm.append_left _ List.perm_append_comm).trans ?_
   rw[<- List.append_assoc,List.take_append_drop]
  exact p1.trans (hp.append_right _)
theorem aNU (c:l01Cur)(h:pL c):∃ (n:Int) (l:List QL) (o:List Int) (c':l01Cur),tL c=some (l.map QL.toL,o,c')/\pL c'/\c'.fb=c.fb/\LinkL n l/\(1<=n/\n<=4)/\Tie l o:=by
 obtain⟨r,a1,b1,c1,d1⟩:=sL ⟨c.fb,c.fi,c.fh⟩ 4 h (by omega)
 obtain⟨l,c2,a2,o2,f2,hl⟩:=aQq ⟨c.fb,r.2.fi,r.2.fh⟩ (1+r.1) (yS c1 d1) (by omega)
 obtain⟨s,e,j1,j2,j3⟩:=hl.tie0.join
 have hz:=hl.tie0.sz
 have js:=(zO (l.map QL.toL) (by omega)).1
 rw[j1]at js
 have ns:=aHH j2
 rw[j3]at ns
 obtain⟨o,f3,g3,a3,o3,p3⟩:=aNu c (fV (l.map QL.toL)) (aAE _) _ 0 [] c2.fi c2.fh (Nat.add_zero _) (yS o2 f2) (by simp)
 refine⟨1+r.1,l,o,⟨c.fb,f3,g3⟩,?_,o3,rfl,hl,by omega,hl.tie (p3.nodup_iff.2 (aAC _)) fun u=>p3.mem_iff⟩
 unfold tL
 rw[a1];simp only[Option.bind_some]
 rw[wi (n:=1+r.1) (by omega),a2];simp only[Option.bind_some]
 rw[js];simp only[Option.bind_some,pk]
 rw[ns];simp only[Option.bind_some]
 rw[show((0:Nat):Int)=0 from rfl]at a3
 rw[a3]
 rfl
def dX (l:List QL)(o:List Int):Tree:=⟨(bO l o o []).map NQ.toN⟩
theorem aQd (code:List Int)(h:code.length<=1048576):∃ (n:Int) (l:List QL) (o:List Int),rO code=some (dX l o)/\LinkL n l/\(1<=n/\n<=4)/\Tie l o:=by
 obtain⟨c,e1,c1,f1⟩:=aPJ code h
 obtain⟨n,l,o,c',e2,c2,f2,hl,hn,ht⟩:=aNU ⟨c.fb,c.fi,c.fh⟩ c1
 refine⟨n,l,o,?_,hl,hn,ht⟩
 have hz:=ht.sz
 have ho:o.length<=5:=ht.base.len
 have bq:=(aIK (l.map QL.toL) o (by omega) (by omega)).1
 rw[ht.build]at bq
 unfold rO xJ
 rw[e1];simp only[Option.bind_some]
 rw[e2];simp only[Option.bind_some]
 rw[bq]
 rfl
theorem aPj (c:l01Cur)(n:Int)(h:pL c):∀ (m:Nat) (k fi fh:Int),m+k=n->0<=k->n<=1000->pL ⟨c.fb,fi,fh⟩->∃ fi' fh',lp (pN n c) (k,fi,fh)=some (fi',fh')/\pL ⟨c.fb,fi',fh'⟩:=by
 intro m
 induction m with
 | zero =>
  intro k fi fh hm hk hn hc
  exact⟨fi,fh,aJ (by unfold pN;simp only[];rw[if_neg (by omega)]),hc⟩
 | succ m ih =>
  intro k fi fh hm hk hn hc
  obtain⟨r,a1,b1,c1,d1⟩:=aOr ⟨c.fb,fi,fh⟩ hc
  obtain⟨f2,g2,e2,c2⟩:=ih (k+1) r.2.fi r.2.fh (by omega) (by omega) hn (yS c1 d1)
  refine⟨f2,g2,?_,c2⟩
  rw[aQ (s':=(k+1,r.2.fi,r.2.fh)),e2]
  unfold pN
  simp only[]
  rw[if_pos (by omega),a1]
  simp only[Option.bind_some]
  rw[wi (n:=k+1) (by omega)]
theorem aO7 (code:List Int)(n:Int)(hn:0<=n/\n<=1000)(h:code.length<=1048576):∃ c,wA code n=some c/\pL c:=by
 obtain⟨c,e1,c1,f1⟩:=aPJ code h
 obtain⟨f2,g2,e2,c2⟩:=aPj c n c1 n.toNat 0 c.fi c.fh (by omega) (by omega) hn.2 c1
 refine⟨⟨c.fb,f2,g2⟩,?_,c2⟩
 unfold wA
 rw[e1];simp only[Option.bind_some]
 rw[e2]
 rfl
theorem aQr (code:List Int)(h:code.length<=1048576):∃ k:QL,rQ code=some k.toL/\LkI k/\k.b<=3:=by
 obtain⟨c,e1,c1⟩:=aO7 code 5 (by omega) h
 obtain⟨k,c',a1,a2,a3,a4,a5⟩:=aOc ⟨c.fb,c.fi,c.fh⟩ 3 c1 (by omega)
 refine⟨k,?_,a4,a5⟩
 unfold rQ
 rw[e1];simp only[Option.bind_some]
 rw[a1]
 rfl
end Go.Ev
/- The program alone: links, order and test of a tree (the seat lacks the other program's). -/
namespace Go.Ev
set_option linter.all false
theorem aLy (t:Tree)(h:jJ t<=4294967296):mS t=some (cI t.fNodes):=by
 unfold jJ lT at h
 have hl:=iG bQ t.fNodes
 have hmem:∀ k (hk:k<t.fNodes.length),aI (t.fNodes[k]).fOwn<=4294967296:=fun k hk=>by
  have he:=pH (w:=bQ) (List.getElem_mem hk)
  have hn:bQ t.fNodes[k]=aI (t.fNodes[k]).fOwn+aR (t.fNodes[k]).fCond+aI (t.fNodes[k]).fMessages+bI (t.fNodes[k]).fEnergy:=rfl
  omega
 have hln:∀ k (hk:k<t.fNodes.length),(cI (t.fNodes.take k)).length+((t.fNodes[k]).fOwn).length<=4294967296:=fun k hk=>by
  have:=aKn t.fNodes h (k+1)
  rw[aEb _ _ hk,List.length_append]at this;omega
 have aux:∀ (step:(Int×(List Link))->Option ((Int×(List Link)) ⊕ (List Link))),(∀ k (hk:k<t.fNodes.length),step ((k:Int),cI (t.fNodes.take k))=some (.inl (((k+1:Nat):Int),cI (t.fNodes.take (k+1)))))->step ((t.fNodes.length:Int),cI (t.fNodes.take t.fNodes.length))=some (.inr (cI t.fNodes))->lp step (0,[])=some (cI t.fNodes):=by
  intro step h1 h2
  have main:∀ m k:Nat,m+k=t.fNodes.length->lp step ((k:Int),cI (t.fNodes.take k))=some (cI t.fNodes):=by
   intro m
   induction m with
   | zero =>
    intro k hk
    have:k=t.fNodes.length:=by omega
    subst this
    exact aJ h2
   | succ m ih =>
    intro k hk
    rw[aQ (h1 k (by omega))]
    exact ih (k+1) (by omega)
  exact main t.fNodes.length 0 (by omega)
 unfold mS
 rw[aux (lN t) (fun k hk=>by
  have:=hmem k hk
  have:=hln k hk
  unfold lN
  simp only[]
  rw[if_pos (by omega),aK hk]
  simp only[Option.bind_some]
  rw[qT _ (by omega)]
  simp only[Option.bind_some]
  rw[aO (by omega),aEb _ _ hk,wi1 (by omega)];rfl) (by unfold lN;simp only[];rw[if_neg (by omega),List.take_length])]
 rfl
theorem aIc (t:Tree)(h:t.fNodes.length<=4294967296):lO t=some (gX t):=by
 have:lO t=some (gX t):=by
  have:=(kI (step:=oS t) t.fNodes (fun k u=>((k:Int),u)) (fun u n=>u++[n.fNode]) (fun u=>u) (fun k u=>u.length<=k) (fun k u hk hi=>by
   constructor
   · unfold oS
     simp only[]
     rw[if_pos (by omega),aK hk]
     simp only[Option.bind_some,wi1 (by omega:k<=4294967296)]
     rw[aO (by omega)];rfl
   · rw[List.length_append,List.length_singleton];omega) (fun u _=>by unfold oS;simp only[];rw[if_neg (by omega)]) [] (Nat.zero_le _)).1
  rw[show((0:Nat):Int)=0 from rfl,aCG,List.nil_append]at this
  unfold lO
  rw[this];rfl
 exact this
theorem aJ0 (t:Tree)(h:jJ t<=4194304):tF t=some (decide (pI t)):=by
 have h0:=h
 unfold jJ lT at h
 have hl:=iG bQ t.fNodes
 have ho:=aBL t.fNodes
 have l2:=aLy t (by omega)
 have o2:=aIc t (by omega)
 have b2:=(aIK (cI t.fNodes) (gX t) (by omega) (by unfold gX;rw[List.length_map];omega)).2
 unfold tF
 rw[l2]
 simp only[Option.bind_some,o2,b2]
 by_cases c:pI t
 · have c':=c
   unfold pI at c'
   rw[c',decide_eq_true c]
   simp only[pkT,if_true,aLb t t (by omega),Option.bind_some,decide_true]
 · rw[decide_eq_false c]
   cases g:nW (cI t.fNodes) (gX t)with
   | none=>simp[pkT]
   | some u =>
    have:¬t=u:=by rintro rfl;exact c g
    simp only[pkT,if_true,aLb t u (by omega),Option.bind_some,decide_eq_false this]
def aCY (t:Tree):Nat->Nat->List Int
 | 0,_=>[]
 | m+1,k=>match t.fNodes[k]? with
  | none=>[]
  | some n=>n.fNode::(match atN t n.fUp with | none=>[] | some j=>aCY t m j)
theorem aNp {t:Tree}{m k:Nat}(hk:k<t.fNodes.length):aCY t (m+1) k=(t.fNodes[k]).fNode::(match atN t (t.fNodes[k]).fUp with | none=>[] | some j=>aCY t m j):=by
 rw[aCY,List.getElem?_eq_getElem hk]
theorem aI5 {t:Tree}(ht:pI t):∀ (m k:Nat),t.fNodes.length<=k+m->k<t.fNodes.length->∀ acc:List Int,acc.length<=k->lp (gM t) ((k:Int),acc)=some (acc++aCY t m k):=by
 obtain⟨h9,hup⟩:=aHN ht
 have endl:∀ acc:List Int,lp (gM t) (-1,acc)=some acc:=fun acc=>aJ (by unfold gM;simp only[];rw[if_neg (by omega)])
 intro m
 induction m with
 | zero=>intro k h1 h2;omega
 | succ m ih =>
  intro k hk c acc hacc
  have st:gM t ((k:Int),acc)=some (.inl ((match atN t (t.fNodes[k]).fUp with | none=>-1 | some j=>(j:Int)),acc++[(t.fNodes[k]).fNode])):=by
   unfold gM
   simp only[]
   rw[if_pos (by omega),aK c]
   simp only[Option.bind_some]
   rw[aO (by omega)]
   simp only[Option.bind_some,tA,aDT t _ (by omega:t.fNodes.length<=4294967296)]
   all_goals rfl
  rw[aQ st,aNp c]
  cases e:atN t (t.fNodes[k]).fUp with
  | none=>exact endl _
  | some j =>
   obtain⟨g1,g2⟩:=hup k c j e
   rw[ih j (by omega) g2 (acc++[(t.fNodes[k]).fNode]) (by rw[List.length_append,List.length_singleton];omega),List.append_assoc]
   rfl
def wI (t:Tree)(v:Int):List Int:=match atN t v with | none=>[] | some k=>aCY t 9 k
theorem aNo {t:Tree}(ht:pI t)(v:Int):wL t v=some (wI t v):=by
 obtain⟨h9,hup⟩:=aHN ht
 unfold wL wI
 rw[aDT t v (by omega)]
 simp only[Option.bind_some]
 cases a:atN t v with
 | none =>
  have:lp (gM t) (-1,[])=some []:=aJ (by unfold gM;simp only[];rw[if_neg (by omega)])
  simp[this]
 | some k =>
  have hk:k<t.fNodes.length:=by
   unfold atN at a
   rw[List.findIdx?_eq_some_iff_getElem]at a
   exact a.1
  have:=aI5 ht 9 k (by omega) hk [] (Nat.zero_le _)
  simp[this]
theorem aHc (t:Tree):∀ m k,(aCY t m k).length<=m
 | 0,_=>by simp[aCY]
 | m+1,k=>by
  rw[aCY]
  cases t.fNodes[k]? with
  | none=>simp
  | some n =>
   simp only[]
   cases atN t n.fUp with
   | none=>simp
   | some j=>have:=aHc t m j;simp only[List.length_cons];omega
theorem aL6 (t:Tree)(v:Int):(wI t v).length<=9:=by
 unfold wI
 cases atN t v with
 | none=>simp
 | some k=>exact aHc t 9 k
theorem aOw {t:Tree}{v:Int}{k:Nat}(h:atN t v=some k):∃ hk:k<t.fNodes.length,(t.fNodes[k]).fNode=v:=by
 unfold atN at h
 rw[List.findIdx?_eq_some_iff_getElem]at h
 exact⟨h.1,of_decide_eq_true h.2.1⟩
theorem aNq {t:Tree}{v x:Int}(h:x∈wI t v):∃ n∈t.fNodes,n.fNode=v:=by
 unfold wI at h
 cases a:atN t v with
 | none=>rw[a]at h;cases h
 | some k =>
  obtain⟨hk,e⟩:=aOw a
  exact⟨_,List.getElem_mem hk,e⟩
def aGQ (t:Tree)(s:List Int):List Int:=(gX t).filter (fun x=>decide (∃ y∈s,x∈wI t y))
theorem aN3 (t:Tree)(s:List Int):∀ (l:List TreeNode) (u:List Int),l.foldl (fun u n=>if n.fNode∈s then u++wI t n.fNode else u) u=u++(l.filter (fun n=>decide (n.fNode∈s))).flatMap (fun n=>wI t n.fNode)
 | [],u=>by simp
 | n::l,u=>by
  rw[List.foldl_cons,aN3 t s l,List.filter_cons]
  by_cases c:n.fNode∈s <;> simp[c]
theorem aQI {t:Tree}{s d:List Int}(h:∀ x,x∈d↔∃ y∈s,x∈wI t y):(gX t).filter (fun x=>decide (x∈d))=aGQ t s:=by
 unfold aGQ
 refine List.filter_congr fun x _=>?_
 rw[Bool.eq_iff_iff,decide_eq_true_iff,decide_eq_true_iff];exact h x
theorem aRq {t:Tree}(ht:pI t)(s:List Int)(hs:s.length<=4194304):oQ t s=some (aGQ t s)/\(aGQ t s).length<=9:=by
 have h9:=(aHN ht).1
 have hl:(aGQ t s).length<=9:=by
  have:=List.length_filter_le (fun x=>decide (∃ y∈s,x∈wI t y)) (gX t)
  have e:(gX t).length=t.fNodes.length:=by unfold gX;rw[List.length_map]
  unfold aGQ;omega
 have second:∀ (step:(Int×(List Int))->Option ((Int×(List Int)) ⊕ (List Int))) (d:List Int),(∀ k (hk:k<t.fNodes.length) (u:List Int),u.length<=k->step ((k:Int),u)=some (.inl (((k+1:Nat):Int),if(t.fNodes[k]).fNode∈d then u++[(t.fNodes[k]).fNode]else u)))->(∀ u,step ((t.fNodes.length:Int),u)=some (.inr u))->(∀ x,x∈d↔∃ y∈s,x∈wI t y)->lp step (0,[])=some (aGQ t s):=by
  intro step d h1 h2 h3
  have:=(kI (step:=step) t.fNodes (fun k u=>((k:Int),u)) (fun u n=>if n.fNode∈d then u++[n.fNode]else u) (fun u=>u) (fun k u=>u.length<=k) (fun k u hk hi=>by
   refine⟨h1 k hk u hi,?_⟩
   split
   · rw[List.length_append,List.length_singleton];omega
   · omega) (fun u _=>h2 u) [] (Nat.zero_le _)).1
  rw[show((0:Nat):Int)=0 from rfl,aJz,List.nil_append]at this
  rw[this]
  exact congrArg some (aQI h3)
 refine⟨?_,hl⟩
 · have f1:=(kI (step:=kP t s) t.fNodes (fun k u=>((k:Int),u)) (fun u n=>if n.fNode∈s then u++wI t n.fNode else u) (fun u=>u) (fun k u=>u.length<=9*k) (fun k u hk hi=>by
    have q2:=aNo ht (t.fNodes[k]).fNode
    have q3:=aL6 t (t.fNodes[k]).fNode
    constructor
    · unfold kP
      simp only[]
      rw[if_pos (by omega),aK hk]
      simp only[Option.bind_some,yP s _ (by omega),q2,wi1 (by omega:k<=4294967296)]
      by_cases c:(t.fNodes[k]).fNode∈s
      · rw[decide_eq_true c,if_pos rfl,if_pos c,aO (by omega)];rfl
      · rw[decide_eq_false c,if_neg c];rfl
    · split
      · rw[List.length_append];omega
      · omega) (fun u _=>by unfold kP;simp only[];rw[if_neg (by omega)]) [] (Nat.zero_le _))
   have f2:=f1.2
   have f1:=f1.1
   rw[show((0:Nat):Int)=0 from rfl,aN3,List.nil_append]at f1
   rw[aN3,List.nil_append]at f2
   unfold oQ
   rw[f1]
   simp only[Option.bind_some]
   rw[second (kO t ((t.fNodes.filter (fun n=>decide (n.fNode∈s))).flatMap (fun n=>wI t n.fNode))) ((t.fNodes.filter (fun n=>decide (n.fNode∈s))).flatMap (fun n=>wI t n.fNode)) (fun k hk u hu=>by
    unfold kO
    simp only[]
    rw[if_pos (by omega),aK hk]
    simp only[Option.bind_some,yP ((t.fNodes.filter (fun n=>decide (n.fNode∈s))).flatMap (fun n=>wI t n.fNode)) _ (by omega),wi1 (by omega:k<=4294967296)]
    by_cases c:(t.fNodes[k]).fNode∈(t.fNodes.filter (fun n=>decide (n.fNode∈s))).flatMap (fun n=>wI t n.fNode)
    · rw[decide_eq_true c,if_pos rfl,if_pos c,aO (by omega)];rfl
    · rw[decide_eq_false c,if_neg c];rfl) (fun u=>by unfold kO;simp only[];rw[if_neg (by omega)]) (fun x=>by
    rw[List.mem_flatMap]
    constructor
    · rintro⟨n,hn,hx⟩
      exact⟨n.fNode,of_decide_eq_true (List.mem_filter.1 hn).2,hx⟩
    · rintro⟨y,hy,hx⟩
      obtain⟨n,hn,e⟩:=aNq hx
      subst e
      exact⟨n,List.mem_filter.2 ⟨hn,by simp[hy]⟩,hx⟩)]
   rfl
end Go.Ev
/- Inserting all links, both programs, and the law. -/
namespace Go.Ev
set_option linter.all false
theorem aIQ (a:Int)(c:Nat):∀ r:List Int,r.Nodup->(r.map (fun v=>if a=v then c else 0)).sum<=c
 | [],_=>Nat.zero_le _
 | v::r,h=>by
  rw[List.nodup_cons]at h
  rw[List.map_cons,List.sum_cons]
  by_cases e:a=v
  · rw[if_pos e]
    have:∀ l:List Int,v∉l->(l.map (fun v=>if a=v then c else 0)).sum=0:=by
     intro l
     induction l with
     | nil=>intro _;rfl
     | cons x l ih =>
      intro hx
      simp only[List.mem_cons,not_or]at hx
      rw[List.map_cons,List.sum_cons,ih hx.2,if_neg (fun e'=>hx.1 (by rw[<- e,e']))]
    rw[this r h.1];omega
  · rw[if_neg e]
    have:=aIQ a c r h.2
    omega
theorem aI7 (o:List Int)(r:List Int)(hr:r.Nodup):∀ s:List Link,(r.map (fun v=>aI (s.filter (lX o v)))).sum<=aI s
 | []=>by
  have:∀ l:List Int,(l.map (fun v=>aI (([]:List Link).filter (lX o v)))).sum=0:=by
   intro l
   induction l with
   | nil=>rfl
   | cons x l ih=>rw[List.map_cons,List.sum_cons,ih];rfl
  rw[this];exact Nat.zero_le _
 | x::s=>by
  have ih:=aI7 o r hr s
  have h1:=aIQ (aS o [x.fA,x.fB]) (bR x+1) r hr
  have e:∀ l:List Int,(l.map (fun v=>aI ((x::s).filter (lX o v)))).sum=(l.map (fun v=>if aS o [x.fA,x.fB]=v then bR x+1 else 0)).sum+(l.map (fun v=>aI (s.filter (lX o v)))).sum:=by
   intro l
   induction l with
   | nil=>rfl
   | cons v l ih =>
    simp only[List.map_cons,List.sum_cons,ih]
    have:aI ((x::s).filter (lX o v))=(if aS o [x.fA,x.fB]=v then bR x+1 else 0)+aI (s.filter (lX o v)):=by
     rw[List.filter_cons]
     unfold lX
     by_cases c:aS o [x.fA,x.fB]=v
     · rw[if_pos (by simpa using c),if_pos c];unfold aI;rw[mC]
     · rw[if_neg (by simpa using c),if_neg c];omega
    omega
  rw[e]
  have:aI (x::s)=bR x+1+aI s:=by unfold aI;rw[mC]
  omega
theorem aAA:∀ b:List TreeNode,aI (cI b)=(b.map (fun n=>aI n.fOwn)).sum
 | []=>rfl
 | n::b=>by
  have e:cI (n::b)=n.fOwn++cI b:=by simp[cI]
  rw[e,aHP,aAA b,List.map_cons,List.sum_cons]
theorem aMQ {s:List Link}{o:List Int}{b:List TreeNode}(hn:o.Nodup)(h:pG s o o []=some b):aI (cI b)<=aI s:=by
 obtain⟨h1,h2⟩:=aAb o [] b (by simp) h
 simp only[List.map_nil,List.nil_append]at h2
 rw[aAA]
 have e:b.map (fun n=>aI n.fOwn)=b.map (fun n=>aI (s.filter (lX o n.fNode))):=List.map_congr_left fun n hn=>by rw[(h1 n hn).2.1]
 have e2:b.map (fun n=>aI (s.filter (lX o n.fNode)))=o.map (fun v=>aI (s.filter (lX o v))):=by rw[<- h2,List.map_map];rfl
 rw[e,e2]
 exact aI7 o o hn s
theorem aIO {s:List Link}{o:List Int}:∀ {b:List TreeNode},(∀ n∈b,NodeOk s o n)->szL bQ b<=aI (cI b)+51425*b.length
 | [],_=>Nat.zero_le _
 | n::b,h=>by
  have ih:=aIO (b:=b) (fun m hm=>h m (by simp[hm]))
  have hn:=h n (by simp)
  have h1:=hn.1.sz
  have h3:=nF (.inl hn.2.2.2.1)
  have h4:=hn.2.2.1
  have e:aI (cI (n::b))=aI n.fOwn+aI (cI b):=by rw[aAA,aAA,List.map_cons,List.sum_cons]
  have e2:bQ n=aI n.fOwn+aR n.fCond+aI n.fMessages+bI n.fEnergy:=rfl
  rw[mC,List.length_cons,e,e2]
  omega
theorem aKQ {s:List Link}{o:List Int}{u:Tree}(h:nW s o=some u):aI (cI u.fNodes)<=aI s/\jJ u<=aI s+462825:=by
 unfold nW at h
 cases hj:jnP s with
 | none=>rw[hj]at h;cases h
 | some x =>
  rw[hj,Option.bind_some]at h
  by_cases c:isOrd x.1 o
  · rw[if_pos c]at h
    cases g:pG s o o []with
    | none=>rw[g]at h;cases h
    | some b =>
     rw[g]at h
     obtain rfl:=Option.some.inj h
     have h1:=aMQ c.1 g
     obtain⟨k1,k2⟩:=aAb o [] b (by simp) g
     have h2:=aIO k1
     have hl:b.length=o.length:=by have:=congrArg List.length k2;simpa using this
     have h9:=(aBu c).1
     refine⟨h1,?_⟩
     show szL bQ b<=_
     have:51425*b.length<=51425*9:=Nat.mul_le_mul (Nat.le_refl _) (by omega)
     omega
  · rw[if_neg c]at h;cases h
end Go.Ev
/- What is built on tied links is a tree. -/
namespace Go.Ev
set_option linter.all false
theorem aJA {α:Type}{f g:Int->List α}:∀ {r:List Int},(∀ u∈r,f u=g u)->r.flatMap f=r.flatMap g
 | [],_=>rfl
 | u::r,h=>by rw[List.flatMap_cons,List.flatMap_cons,h u (by simp),aJA fun w hw=>h w (by simp[hw])]
theorem aHd {α:Type}(f:α->Int):∀ (o:List Int) (l:List α),o.Nodup->(∀ x∈l,f x∈o)->(o.flatMap fun v=>l.filter fun x=>decide (f x=v)).Perm l
 | [],l,_,h=>by
  cases l with
  | nil=>exact List.Perm.refl _
  | cons x l=>exact absurd (h x (by simp)) (by simp)
 | v::r,l,hn,h=>by
  rw[List.nodup_cons]at hn
  rw[List.flatMap_cons]
  have e:(r.flatMap fun u=>l.filter fun x=>decide (f x=u))=r.flatMap fun u=>(l.filter fun x=>!decide (f x=v)).filter fun x=>decide (f x=u):=by
   refine aJA fun u hu=>?_
   rw[List.filter_filter]
   refine List.filter_congr fun x _=>?_
   by_cases c:f x=u
   · have:f x≠v:=fun e=>hn.1 (by rw[<- e,c];exact hu)
     rw[decide_eq_true c,decide_eq_false this];rfl
   · rw[decide_eq_false c];rfl
  rw[e]
  have ih:=aHd f r (l.filter fun x=>!decide (f x=v)) hn.2 (fun x hx=>by
   rw[List.mem_filter]at hx
   have h1:=h x hx.1
   have h2:f x≠v:=by simpa using hx.2
   exact(List.mem_cons.1 h1).resolve_left h2)
  exact(List.Perm.append_left _ ih).trans (List.filter_append_perm _ l)
theorem aEa {α:Type}(f:α->Int)(l:List α)(v:Int):∀ o:List Int,o.Nodup->v∈o->((o.flatMap fun u=>l.filter fun x=>decide (f x=u)).filter fun x=>decide (f x=v))=l.filter fun x=>decide (f x=v)
 | w::r,hn,hv=>by
  rw[List.nodup_cons]at hn
  rw[List.flatMap_cons,List.filter_append]
  have none:∀ s:List Int,v∉s->((s.flatMap fun u=>l.filter fun x=>decide (f x=u)).filter fun x=>decide (f x=v))=[]:=by
   intro s hs
   rw[List.filter_eq_nil_iff]
   intro x hx
   obtain⟨u,hu,hx⟩:=List.mem_flatMap.1 hx
   have:=of_decide_eq_true (List.mem_filter.1 hx).2
   intro e
   have:=of_decide_eq_true e
   have e3:v=u:=by omega
   exact hs (e3▸hu)
  by_cases c:v=w
  · subst c
    rw[none r hn.1,List.append_nil,List.filter_filter]
    refine List.filter_congr fun x _=>?_
    simp
  · have e:((l.filter fun x=>decide (f x=w)).filter fun x=>decide (f x=v))=[]:=by
     rw[List.filter_eq_nil_iff]
     intro x hx e
     have h1:=of_decide_eq_true (List.mem_filter.1 hx).2
     have h2:=of_decide_eq_true e
     exact c (by omega)
    rw[e,List.nil_append]
    exact aEa f l v r hn.2 ((List.mem_cons.1 hv).resolve_left c)
theorem zB (l:List QL)(o:List Int):∀ (r:List Int) (b:List NQ),(bO l o r b).map (fun n=>n.node)=b.map (fun n=>n.node)++r
 | [],b=>by simp[bO]
 | v::r,b=>by
  rw[bO,zB l o r]
  simp only[List.map_append,List.map_cons,List.map_nil,List.append_assoc,List.singleton_append]
  rfl
theorem aGZ (l:List QL)(o:List Int):∀ (r:List Int) (b:List NQ),(bO l o r b).flatMap (fun n=>n.own)=b.flatMap (fun n=>n.own)++r.flatMap fun v=>l.filter (pM o v)
 | [],b=>by simp[bO]
 | v::r,b=>by
  rw[bO,aGZ l o r,List.flatMap_append,List.flatMap_cons,List.flatMap_nil,List.append_nil,List.flatMap_cons,List.append_assoc]
  rfl
theorem aD2 {l l':List QL}{o:List Int}:∀ (r:List Int) (b:List NQ),(∀ v∈r,l'.filter (pM o v)=l.filter (pM o v))->bO l' o r b=bO l o r b
 | [],b,_=>rfl
 | v::r,b,h=>by
  have e:nxt l' o v b=nxt l o v b:=by unfold nxt;rw[h v (by simp)]
  rw[bO,bO,e]
  exact aD2 r _ fun u hu=>h u (by simp[hu])
def aDj (l:List QL)(o:List Int):List QL:=o.flatMap fun v=>l.filter (pM o v)
theorem Tie.owner {l:List QL}{o:List Int}(h:Tie l o):∀ x∈l,aS o [x.a,x.b]∈o:=by
 intro x hx
 have hb:=h.base
 have hbm:x.b∈o:=(h.mem _).2 ⟨by have:=(h.lk x hx).1;omega,x,hx,.inr rfl⟩
 rcases aDm (s:=[x.a,x.b]) (fun u hu=>(hb.h1 u hu).1)with⟨_,h4⟩ | ⟨p,v,r,e,h2,h3,h4⟩
 · exact absurd (by simp) (h4 _ hbm)
 · rw[h2,e];simp
theorem Tie.inPerm {l:List QL}{o:List Int}(h:Tie l o):(aDj l o).Perm l:=aHd (fun x:QL=>aS o [x.a,x.b]) o l h.nd h.owner
theorem Tie.inTie {l:List QL}{o:List Int}(h:Tie l o):Tie (aDj l o) o:=h.perm h.inPerm (List.Perm.refl _)
theorem Tie.inTree {l:List QL}{o:List Int}(h:Tie l o):dX (aDj l o) o=dX l o:=by
 unfold dX
 have e:bO (aDj l o) o o []=bO l o o []:=aD2 o [] fun v hv=>aEa (fun x:QL=>aS o [x.a,x.b]) l v o h.nd hv
 rw[e]
theorem aNt:∀ b:List NQ,cI (b.map NQ.toN)=(b.flatMap fun n=>n.own).map QL.toL:=by
 intro b
 unfold cI
 induction b with
 | nil=>rfl
 | cons n b ih =>
  rw[List.flatMap_cons,List.map_append,<- ih];rfl
theorem aCx (l:List QL)(o:List Int):cI (dX l o).fNodes=(aDj l o).map QL.toL:=by
 unfold dX
 simp only[]
 rw[aNt,aGZ,List.flatMap_nil,List.nil_append]
 rfl
theorem aCy (l:List QL)(o:List Int):gX (dX l o)=o:=by
 unfold gX dX
 simp only[List.map_map]
 have:=zB l o o []
 rw[List.map_nil,List.nil_append]at this
 exact this
theorem Tie.isTree {l:List QL}{o:List Int}(h:Tie l o):pI (dX l o):=by
 unfold pI
 rw[aCx,aCy,h.inTie.build]
 exact congrArg some h.inTree
theorem Tie.tsz {l:List QL}{o:List Int}(h:Tie l o):jJ (dX l o)<=470000:=by
 have hz:=h.sz
 have:=(aKQ h.build).2
 unfold dX
 omega
end Go.Ev
/- The law of the paths of a tree. -/
namespace Go.Ev
set_option linter.all false
end Go.Ev
/- The cliques of a tree, both programs, and the law. -/
namespace Go.Ev
set_option linter.all false
theorem aFD {o:List Int}{v:Int}{own:List Link}{b:List TreeNode}{n:TreeNode}(h:mI o v own b=some n):bA n.fCond=some true:=by
 unfold mI at h
 cases e1:jnP (own++wY v b)with
 | none=>rw[e1]at h;cases h
 | some u =>
  rw[e1,Option.bind_some]at h
  cases e2:aBd v u.1 with
  | none=>rw[e2]at h;cases h
  | some w =>
   obtain⟨c,m,f⟩:=w
   rw[e2,Option.bind_some]at h
   have hc:bA c=some true:=by
    unfold aBd at e2
    cases e3:wP v u.1 with
    | none=>rw[e3]at e2;cases e2
    | some x =>
     rw[e3,Option.bind_some]at e2
     have ex:x.1=c:=by
      cases e4:jnP (wF v u.1++x.2)with
      | none=>rw[e4]at e2;cases e2
      | some y=>rw[e4]at e2;exact congrArg Prod.fst (Option.some.inj e2)
     unfold wP at e3
     split at e3
     · rename_i hh
       cases e3
       rw[<- ex];exact hh.2.1
     · cases e3
   split at h
   · cases h;exact hc
   · cases h
theorem aDB {Q:TreeNode->Prop}{s:List Link}{o:List Int}(hQ:∀ v b n,mI o v (s.filter (lX o v)) b=some n->Q n):∀ (r:List Int) (b b':List TreeNode),(∀ n∈b,Q n)->pG s o r b=some b'->∀ n∈b',Q n
 | [],b,b',h,e=>by cases e;exact h
 | v::r,b,b',h,e=>by
  rw[pG]at e
  cases h1:mI o v (s.filter (lX o v)) b with
  | none=>rw[h1]at e;cases e
  | some n =>
   rw[h1,Option.bind_some]at e
   exact aDB hQ r (b++[n]) b' (fun m hm=>by
    rcases List.mem_append.1 hm with hm | hm
    · exact h m hm
    · rw[List.mem_singleton.1 hm];exact hQ _ _ _ h1) e
theorem aE2 {t:Tree}(ht:pI t):t.fNodes.length<=9/\∀ n∈t.fNodes,1<=n.fNode/\bA n.fCond=some true/\aR n.fCond<=20000:=by
 unfold pI nW at ht
 cases hj:jnP (cI t.fNodes)with
 | none=>rw[hj]at ht;cases ht
 | some x =>
  rw[hj,Option.bind_some]at ht
  by_cases c:isOrd x.1 (gX t)
  · rw[if_pos c]at ht
    cases g:pG (cI t.fNodes) (gX t) (gX t) []with
    | none=>rw[g]at ht;cases ht
    | some b =>
     rw[g]at ht
     have e:=Option.some.inj ht
     obtain⟨k1,k2⟩:=aAb (gX t) [] b (by simp) g
     have k3:=aDB (Q:=fun n=>bA n.fCond=some true) (fun v b n h=>aFD h) (gX t) [] b (by simp) g
     have eb:b=t.fNodes:=by rw[<- e]
     subst eb
     obtain⟨l1,l2⟩:=aBu c
     refine⟨by unfold gX at l1;rwa [List.length_map]at l1,fun n hn=>⟨l2 _ (List.mem_map.2 ⟨n,hn,rfl⟩),k3 n hn,(k1 n hn).2.2.1⟩⟩
  · rw[if_neg c]at ht;cases ht
end Go.Ev
/- Nodes that hang on nothing: a tree is not built. -/
namespace Go.Ev
set_option linter.all false
theorem aKq (P:Int->Prop){s:List Link}{o:List Int}{v:Int}{b:List TreeNode}{n:TreeNode}(hs:∀ l∈s,(P l.fA↔P l.fB))(hb:∀ m∈b,∀ x y,pr m.fMessages x y->(P x↔P y))(h:mI o v (s.filter (lX o v)) b=some n) :
 (∀ x y,pr n.fMessages x y->(P x↔P y))/\(∀ p∈xL n.fCond,(P p↔P v))/\n.fNode=v:=by
 unfold mI at h
 cases e1:jnP (s.filter (lX o v)++wY v b)with
 | none=>rw[e1]at h;cases h
 | some u =>
  obtain⟨j,e⟩:=u
  rw[e1,Option.bind_some]at h
  cases e2:aBd v j with
  | none=>rw[e2]at h;cases h
  | some w =>
   obtain⟨c,m,f⟩:=w
   rw[e2,Option.bind_some]at h
   simp only[]at h
   split at h
   · cases h
     have hj:=(aAM e1).2.1
     obtain⟨r1,r2⟩:=aLg hj e2
     have pj:∀ x y,pr j x y->(P x↔P y):=by
      intro x y hp
      rw[aF8 e1,aBg]at hp
      rcases hp with⟨l,hl,rfl,rfl⟩ | hp
      · exact hs l (List.mem_filter.1 hl).1
      · obtain⟨m',hm,_,hp⟩:=aDL.1 hp
        exact hb m' hm x y hp
     have pp:∀ p∈xL c,(P p↔P v):=by
      intro p hp
      rcases(r1 p).1 hp with h1 | h1
      · exact pj _ _ h1
      · exact(pj _ _ h1).symm
     refine⟨fun x y hp=>?_,pp,rfl⟩
     rcases(r2 x y).1 hp with⟨h1,_,_⟩ | ⟨h1,h2,_⟩
     · exact pj _ _ h1
     · exact(pp x h1).trans (pp y h2).symm
   · cases h
theorem aE5 (P:Int->Prop){s:List Link}{o:List Int}(hs:∀ l∈s,(P l.fA↔P l.fB)):∀ (r:List Int) (b b':List TreeNode),(∀ m∈b,(∀ x y,pr m.fMessages x y->(P x↔P y))/\∀ p∈xL m.fCond,(P p↔P m.fNode))->pG s o r b=some b' ->
 ∀ m∈b',(∀ x y,pr m.fMessages x y->(P x↔P y))/\∀ p∈xL m.fCond,(P p↔P m.fNode)
 | [],b,b',hb,h=>by cases h;exact hb
 | v::r,b,b',hb,h=>by
  rw[pG]at h
  cases e:mI o v (s.filter (lX o v)) b with
  | none=>rw[e]at h;cases h
  | some n =>
   rw[e,Option.bind_some]at h
   obtain⟨h1,h2,h3⟩:=aKq P hs (fun m hm=>(hb m hm).1) e
   refine aE5 P hs r (b++[n]) b' (fun m hm=>?_) h
   rcases List.mem_append.1 hm with hm | hm
   · exact hb m hm
   · rw[List.mem_singleton.1 hm,h3];exact⟨h1,h2⟩
end Go.Ev
/- A link that hangs on nothing cannot be inserted. -/
namespace Go.Ev
set_option linter.all false
theorem aMN {c:Conditional}(hz:aR c<=4294967296)(h:bA c=some true):c.fParents≠[]:=by
 intro e
 obtain⟨hl,hT⟩:=aFw hz
 obtain⟨g1,g2⟩:=vK _ hT
 obtain⟨r,e1,e2,e3⟩:=aEZ c hz c.fParents.length 0 (by omega) (dU 0) xK
 rw[show((0:Nat):Int)=0 from rfl]at e1
 unfold bA at h
 rw[bS 0 (by omega)]at h
 have e0:¬(0:Int)<(c.fParents.length:Int):=by rw[e];simp
 simp only[Option.bind_some,e1,g1,zI,e0,if_false]at h
 cases r with
 | inl v =>
  by_cases A:1<=c.fNode/\c.fNode<=9
  · by_cases B:0<wX c.fTotal
    · simp[A,B]at h
    · simp[A,B]at h
  · simp[A]at h
 | inr b=>simp only[]at e3;subst e3;cases h
theorem aQc {s:List Link}{o:List Int}{k:Link}(hs:∀ l∈s,l.fA≠k.fA/\l.fA≠k.fB/\l.fB≠k.fA/\l.fB≠k.fB):nW (s++[k]) (o++[k.fA,k.fB])=none:=by
 cases hb:nW (s++[k]) (o++[k.fA,k.fB])with
 | none=>rfl
 | some t =>
  exfalso
  unfold nW at hb
  cases h:jnP (s++[k])with
  | none=>rw[h]at hb;cases hb
  | some x =>
   rw[h,Option.bind_some]at hb
   by_cases c:isOrd x.1 (o++[k.fA,k.fB])
   · rw[if_pos c]at hb
     obtain⟨l9,h1⟩:=aBu c
     cases g:pG (s++[k]) (o++[k.fA,k.fB]) (o++[k.fA,k.fB]) []with
     | none=>rw[g]at hb;cases hb
     | some b =>
      obtain⟨ok,nodes⟩:=aAb (o++[k.fA,k.fB]) [] b (by simp) g
      have hp:=aE4 c.1 h1 (o++[k.fA,k.fB]).length 0 (by omega) [] b (by simp) (by rw[List.drop_zero];exact g)
      have hc:=aE5 (fun x=>x=k.fA\/x=k.fB) (s:=s++[k]) (o:=o++[k.fA,k.fB]) (fun l hl=>by
       rcases List.mem_append.1 hl with hl | hl
       · have:=hs l hl
         constructor <;> rintro(h | h) <;> simp_all
       · rw[List.mem_singleton.1 hl];simp) _ [] b (by simp) g
      have hv:=aDB (Q:=fun n=>bA n.fCond=some true) (fun v b n hn=>aFD hn) (o++[k.fA,k.fB]) [] b (by simp) g
      have hm:k.fB∈b.map (·.fNode):=by rw[nodes];simp
      obtain⟨n,hn,e⟩:=List.mem_map.1 hm
      have hz:=(ok n hn).2.2.1
      have hne:=aMN (by omega) (hv n hn)
      obtain⟨p,hpm⟩:=List.exists_mem_of_ne_nil _ hne
      have hpn:p.fNode∈xL n.fCond:=List.mem_map_of_mem hpm
      have hP:=((hc n hn).2 _ hpn).2 (.inr e)
      have hl:(o++[k.fA,k.fB]).length=o.length+2:=by simp
      have late:=(hp n hn).2.late (o.length+1) (by omega) (by rw[e];simp) _ hpn
      rw[List.take_of_length_le (by omega)]at late
      rcases hP with h2 | h2 <;> exact late (by rw[h2];simp)
   · rw[if_neg c]at hb;cases hb
end Go.Ev
/- Inserting a link that hangs on the tree. -/
namespace Go.Ev
set_option linter.all false
theorem aFM {o:List Int}{k:Link}{u:Int}:u∈yY o k↔(u=k.fA\/u=k.fB)/\0<u/\u∉o:=by
 unfold yY
 rw[List.mem_filter,decide_eq_true_eq]
 simp only[List.mem_cons,List.not_mem_nil,or_false]
theorem aOU {l:List QL}{o:List Int}{k:QL}(h:Tie l o)(hl:l.length<=7)(hk:LkI k)(hj:k.a=0\/k.a∈o\/k.b∈o):Tie (l++[k]) (o++yY o k.toL) where
 nd:=by
  rw[List.nodup_append]
  refine⟨h.nd,?_,fun u hu w hw e=>?_⟩
  · unfold yY
    refine List.Pairwise.filter _ ?_
    have:=hk.1
    refine List.pairwise_cons.2 ⟨fun y hy=>?_,List.pairwise_cons.2 ⟨by simp,List.Pairwise.nil⟩⟩
    rw[List.mem_singleton]at hy
    subst hy
    show k.a≠k.b
    omega
  · rw[aFM]at hw
    exact hw.2.2 (e▸hu)
 mem:=fun u=>by
  rw[List.mem_append,h.mem,aFM]
  constructor
  · rintro(⟨h1,x,hx,ht⟩ | ⟨h1,h2,h3⟩)
    · exact⟨h1,x,by simp[hx],ht⟩
    · refine⟨by omega,k,by simp,?_⟩
      rcases h1 with h1 | h1
      · exact .inl h1.symm
      · exact .inr h1.symm
  · rintro⟨h1,x,hx,ht⟩
    rcases List.mem_append.1 hx with hx | hx
    · exact .inl ⟨h1,x,hx,ht⟩
    · rw[List.mem_singleton]at hx
      subst hx
      by_cases c:u∈o
      · exact .inl ((h.mem u).1 c)
      · refine .inr ⟨?_,by omega,c⟩
        rcases ht with ht | ht
        · exact .inl ht.symm
        · exact .inr ht.symm
 lk:=fun x hx=>by
  rcases List.mem_append.1 hx with hx | hx
  · exact h.lk x hx
  · rw[List.mem_singleton.1 hx];exact hk
 len:=by rw[List.length_append,List.length_singleton];omega
 gr:=by
  intro S hS h0
  obtain⟨u,hu,su⟩:=hS
  by_cases c:∃ w∈o,S w
  · obtain⟨x,hx,hh⟩:=h.gr S c h0
    exact⟨x,by simp[hx],hh⟩
  · have no:∀ w∈o,¬S w:=fun w hw sw=>c ⟨w,hw,sw⟩
    rcases List.mem_append.1 hu with hu | hu
    · exact absurd su (no u hu)
    · rw[aFM]at hu
      obtain⟨h1,h2,h3⟩:=hu
      refine⟨k,by simp,?_⟩
      have ha:k.toL.fA=k.a:=rfl
      have hb:k.toL.fB=k.b:=rfl
      rw[ha,hb]at h1
      rcases h1 with h1 | h1
      · left
        subst h1
        have hbo:k.b∈o:=by
         rcases hj with h4 | h4 | h4
         · omega
         · exact absurd h4 h3
         · exact h4
        exact⟨su,no _ hbo⟩
      · right
        subst h1
        refine⟨su,fun sa=>?_⟩
        rcases hj with h4 | h4 | h4
        · rw[h4]at sa;exact h0 sa
        · exact no _ h4 sa
        · exact h3 h4
theorem aMo {l:List QL}{o:List Int}(h:Tie l o):(aDj l o).length=l.length:=h.inPerm.length_eq
theorem aKB {l:List QL}{o:List Int}{k:QL}(h:Tie l o)(hl:l.length<=7)(hk:LkI k)(hj:k.a=0\/k.a∈o\/k.b∈o) :
 Tie (aDj l o++[k]) (o++yY o k.toL)/\nW (cI (dX l o).fNodes++[k.toL]) (o++yY o k.toL)=some (dX (aDj l o++[k]) (o++yY o k.toL)):=by
 have ht:=aOU h.inTie (by rw[aMo h];exact hl) hk hj
 refine⟨ht,?_⟩
 rw[aCx]
 have:=ht.build
 rw[List.map_append]at this
 exact this
theorem aMm {l:List QL}{o:List Int}{k:QL}(h:Tie l o)(hk:LkI k)(h0:k.a≠0)(ha:k.a∉o)(hb:k.b∉o):nW (cI (dX l o).fNodes++[k.toL]) (o++yY o k.toL)=none:=by
 have hk1:=hk.1
 have e:yY o k.toL=[k.toL.fA,k.toL.fB]:=by
  unfold yY
  rw[List.filter_eq_self]
  intro u hu
  simp only[List.mem_cons,List.not_mem_nil,or_false]at hu
  rw[decide_eq_true_eq]
  rcases hu with rfl | rfl
  · exact⟨show 0<k.a by omega,ha⟩
  · exact⟨show 0<k.b by omega,hb⟩
 rw[e]
 refine aQc fun x hx=>?_
 rw[aCx]at hx
 obtain⟨y,hy,rfl⟩:=List.mem_map.1 hx
 have hy':=h.inPerm.mem_iff.1 hy
 have hl:=(h.lk y hy').1
 have ma:1<=y.a->y.a∈o:=fun h1=>(h.mem _).2 ⟨h1,y,hy',.inl rfl⟩
 have mb:y.b∈o:=(h.mem _).2 ⟨by omega,y,hy',.inr rfl⟩
 show y.a≠k.a/\y.a≠k.b/\y.b≠k.a/\y.b≠k.b
 refine⟨fun e=>?_,fun e=>?_,fun e=>ha (e▸mb),fun e=>hb (e▸mb)⟩
 · exact ha (e▸ma (by omega))
 · exact hb (e▸ma (by omega))
end Go.Ev
/- Nodes that an inserted link does not change. -/
namespace Go.Ev
set_option linter.all false
theorem uT (l:List QL)(o:List Int)(v:Int):∀ (p:List Int) (b:List NQ),bO l o (p++[v]) b=bO l o p b++[nxt l o v (bO l o p b)]
 | [],b=>rfl
 | u::p,b=>by rw[List.cons_append,bO,bO,uT l o v p]
theorem TInv.at {l:List QL}{o:List Int}(hb:Base l o)(hg:Grounded l o):∀ (n:Nat) (p r:List Int),p.length=n->o=p++r->TInv l o p r (bO l o p [])
 | 0,p,r,hn,e=>by
  have:p=[]:=List.length_eq_zero_iff.1 hn
  subst this
  rw[List.nil_append]at e
  subst e
  exact TInv.start hb hg
 | n+1,p,r,hn,e=>by
  rcases List.eq_nil_or_concat p with rfl | ⟨q,v,rfl⟩
  · simp at hn
  · rw[List.concat_eq_append]at hn e ⊢
    have ih:=TInv.at hb hg n q (v::r) (by simpa using hn) (by rw[e,List.append_assoc];rfl)
    rw[uT]
    exact(ih.next hb).1
end Go.Ev
/- Nodes outside a closed set stay as they are. -/
namespace Go.Ev
set_option linter.all false
set_option maxHeartbeats 2000000
section
variable {l:List QL}{o:List Int}{k:QL}{L:Int->Prop}
end
end Go.Ev
/- Parents lie on the path. -/
namespace Go.Ev
set_option linter.all false
theorem aG1 (l:List QL)(o:List Int):∀ (p q:List Int) (b:List NQ),bO l o (p++q) b=bO l o q (bO l o p b)
 | [],q,b=>rfl
 | v::p,q,b=>by rw[List.cons_append,bO,bO,aG1 l o p q]
end Go.Ev
/- What an inserted link changes lies in the list. -/
namespace Go.Ev
set_option linter.all false
end Go.Ev
/- Energies at positions: what joining and eliminating keep. -/
namespace Go.Ev
set_option linter.all false
def eP (p q:Int->Q)(x:QL):Q:=x.w*sqQ (p x.b-p x.a-x.x) (q x.b-q x.a-x.y)
theorem aQo (p q:Int->Q){k l:QL}(ha:k.a=l.a)(hb:k.b=l.b)(hk:0<k.w)(hl:0<l.w):eP p q (mrg k l)+aFI k l=eP p q k+eP p q l:=by
 have:k.w+l.w≠0:=by grind
 unfold eP mrg aFI sqQ
 simp only[]
 rw[ha,hb]
 generalize p l.b-p l.a=u
 generalize q l.b-q l.a=v
 grind
theorem aLR (p q:Int->Q):∀ (s:List QL) (l:QL),(∀ x∈s,0<x.w)->0<l.w->sm (eP p q) (jS s l).1+(jS s l).2=sm (eP p q) s+eP p q l
 | [],l,_,_=>by simp only[jS,sm];grind
 | k::s,l,hs,hl=>by
  have hk:=hs k (by simp)
  have hr:=fun x hx=>hs x (List.mem_cons_of_mem k hx)
  by_cases c:cZ k l
  · have ih:=aLR p q s l hr hl
    rw[tH c,sm,sm]
    simp only[]
    grind
  · by_cases d:cZ l k
    · rw[wS c d]
      simp only[sm]
      grind
    · have e:=aQo p q (zC c d).1 (zC c d).2 hk hl
      rw[wR c d]
      simp only[sm]
      grind
theorem aJS (s:List QL)(l:QL)(hs:∀ x∈s,0<x.w)(hl:0<l.w):∀ x∈(jS s l).1,0<x.w :=
 aDs (P:=fun x=>0<x.w) (fun k l _ _ h1 h2=>aLn h1 h2) s l hs hl
theorem aF7 (p q:Int->Q):∀ (l s:List QL) (e:Q),(∀ x∈l,0<x.w)->(∀ x∈s,0<x.w)->sm (eP p q) (bG l s e).1+(bG l s e).2=sm (eP p q) s+sm (eP p q) l+e
 | [],s,e,_,_=>by simp only[bG,sm];grind
 | x::l,s,e,hl,hs=>by
  have hx:=hl x (by simp)
  have h1:=aF7 p q l (jS s x).1 (e+(jS s x).2) (fun y hy=>hl y (by simp[hy])) (aJS s x hs hx)
  have h2:=aLR p q s x hs hx
  rw[bG,sm]
  grind
theorem aHo:∀ (l s:List QL) (e:Q),(∀ x∈l,0<x.w)->(∀ x∈s,0<x.w)->∀ x∈(bG l s e).1,0<x.w
 | [],s,e,_,hs=>hs
 | x::l,s,e,hl,hs=>by
  rw[bG]
  exact aHo l _ _ (fun y hy=>hl y (by simp[hy])) (aJS s x hs (hl x (by simp)))
theorem aQG (p q:Int->Q){v:Int}{l:QL}(h:aEl v l=true):eP p q (aA7 v l)=eP p q l:=by
 have h:=of_decide_eq_true h
 unfold aA7
 by_cases c:l.a=v
 · rw[if_pos c]
   unfold eP sqQ
   simp only[]
   rw[c]
   grind
 · rw[if_neg c]
   have hb:l.b=v:=h.resolve_left c
   unfold eP sqQ
   simp only[]
   rw[hb]
theorem aIS (p q:Int->Q)(v:Int):∀ s:List QL,sm (eP p q) s=sm (eP p q) (bP v s)+sm (eP p q) (uP v s)
 | []=>by simp only[bP,uP,List.filter_nil,List.map_nil,sm];grind
 | x::s=>by
  have ih:=aIS p q v s
  unfold bP uP at ih ⊢
  rw[List.filter_cons,List.filter_cons,sm]
  by_cases c:aEl v x=true
  · have e:=aQG p q c
    simp only[c,Bool.not_true,if_true,Bool.false_eq_true,if_false,List.map_cons,sm];grind
  · simp only[c,Bool.not_eq_true,if_false,Bool.not_false,if_true,sm];grind
def app (f:Int->Q)(g:PQ->Q):List PQ->Q
 | []=>0
 | x::r=>x.s*(f x.node+g x)+app f g r
def cdE (p q:Int->Q)(c:CQ):Q:=c.t*sqQ (p c.node-app p (·.x) c.ps) (q c.node-app q (·.y) c.ps)
theorem aPY (f:Int->Q)(t:Q):∀ a:List QL,app f (·.x) (a.map (yX t))=sm (fun y=>y.w*(f y.a+y.x)) a / t
 | []=>by simp only[List.map_nil,app,sm];grind
 | x::a=>by
  rw[List.map_cons,app,sm,aPY f t a]
  unfold yX
  simp only[]
  grind
theorem aPX (f:Int->Q)(t:Q):∀ a:List QL,app f (·.y) (a.map (yX t))=sm (fun y=>y.w*(f y.a+y.y)) a / t
 | []=>by simp only[List.map_nil,app,sm];grind
 | x::a=>by
  rw[List.map_cons,app,sm,aPX f t a]
  unfold yX
  simp only[]
  grind
section
variable (p q:Int->Q)
def s1x (a:List QL):Q:=sm (fun y=>y.w*(p y.a+y.x)) a
def s1y (a:List QL):Q:=sm (fun y=>y.w*(q y.a+y.y)) a
def s2 (a:List QL):Q:=sm (fun y=>y.w*sqQ (p y.a+y.x) (q y.a+y.y)) a
theorem aNP (t:Q)(ht:t≠0)(x:QL):∀ a:List QL,sm (eP p q) (a.map (mlQ t x))*t=x.w*(s2 p q a-2*(p x.a+x.x)*s1x p a-2*(q x.a+x.y)*s1y q a+sqQ (p x.a+x.x) (q x.a+x.y)*sm wt a)
 | []=>by simp only[List.map_nil,sm,s2,s1x,s1y];grind
 | y::a=>by
  have ih:=aNP t ht x a
  unfold s2 s1x s1y at ih ⊢
  rw[List.map_cons,sm,sm,sm,sm,sm,_root_.Rat.add_mul,ih]
  unfold eP mlQ sqQ wt
  simp only[]
  generalize sm (fun y=>y.w*((p y.a+y.x)*(p y.a+y.x)+(q y.a+y.y)*(q y.a+y.y))) a=S2
  generalize sm (fun y=>y.w*(p y.a+y.x)) a=S1
  generalize sm (fun y=>y.w*(q y.a+y.y)) a=S3
  generalize sm (fun l=>l.w) a=S0
  generalize p x.a=px
  generalize p y.a=py
  generalize q x.a=qx
  generalize q y.a=qy
  have e:x.w*y.w / t*((py-px-(x.x-y.x))*(py-px-(x.x-y.x))+(qy-qx-(x.y-y.y))*(qy-qx-(x.y-y.y)))*t=x.w*y.w*((py-px-(x.x-y.x))*(py-px-(x.x-y.x))+(qy-qx-(x.y-y.y))*(qy-qx-(x.y-y.y))):=by grind
  rw[e]
  grind
theorem aLt (t:Q)(ht:t≠0):∀ a:List QL,sm (eP p q) (mJ t a)*t=sm wt a*s2 p q a-s1x p a*s1x p a-s1y q a*s1y q a
 | []=>by simp only[mJ,sm,s2,s1x,s1y];grind
 | x::a=>by
  have ih:=aLt t ht a
  have h:=aNP p q t ht x a
  rw[mJ,rG,_root_.Rat.add_mul,ih,h]
  unfold s2 s1x s1y
  rw[sm,sm,sm,sm]
  unfold wt sqQ
  grind
theorem aLN (v:Int):∀ a:List QL,(∀ x∈a,x.b=v)->sm (eP p q) a=sm wt a*sqQ (p v) (q v)-2*p v*s1x p a-2*q v*s1y q a+s2 p q a
 | [],_=>by simp only[sm,s2,s1x,s1y];grind
 | x::a,h=>by
  have ih:=aLN v a (fun y hy=>h y (by simp[hy]))
  have hx:=h x (by simp)
  unfold s2 s1x s1y at ih ⊢
  rw[sm,sm,sm,sm,sm,ih]
  unfold eP wt sqQ
  rw[hx]
  grind
theorem aOW {v:Int}{a:List QL}(hb:∀ x∈a,x.b=v)(h:sm wt a≠0):sm (eP p q) a=cdE p q (sF v a)+sm (eP p q) (mJ (sm wt a) a):=by
 have h1:=aLt p q (sm wt a) h a
 have h2:=aLN p q v a hb
 unfold cdE sF
 simp only[]
 rw[aPY,aPX,h2]
 have e1:sm (fun y=>y.w*(p y.a+y.x)) a=s1x p a:=rfl
 have e2:sm (fun y=>y.w*(q y.a+y.y)) a=s1y q a:=rfl
 rw[e1,e2]
 unfold sqQ
 have h3:sm (eP p q) (mJ (sm wt a) a)=(sm wt a*s2 p q a-s1x p a*s1x p a-s1y q a*s1y q a) / sm wt a:=by grind
 rw[h3]
 grind
end
theorem aQF (v:Int)(s:List QL):∀ x∈bP v s,x.b=v:=by
 intro x hx
 obtain⟨l,_,_,rfl⟩:=wK.1 hx
 unfold aA7
 split <;> rfl
theorem aJe {t:Q}(ht:0<t):∀ {a:List QL},(∀ x∈a,0<x.w)->∀ z∈mJ t a,0<z.w
 | x::a,h,z,hz=>by
  rw[mJ,List.mem_append]at hz
  rcases hz with hz | hz
  · obtain⟨y,hy,rfl⟩:=List.mem_map.1 hz
    have h1:=_root_.Rat.mul_pos (h x (by simp)) (h y (by simp[hy]))
    show 0<x.w*y.w / t
    rw[_root_.Rat.lt_div_iff ht];grind
  · exact aJe ht (fun y hy=>h y (by simp[hy])) z hz
theorem aO5 (p q:Int->Q){l:List QL}{o:List Int}{v:Int}{b:List NQ}(hp:∀ x∈l.filter (pM o v)++oI v b,0<x.w)(hW:0<sm wt (bP v (bG (l.filter (pM o v)++oI v b) [] 0).1)) :
 sm (eP p q) (l.filter (pM o v))+sm (eP p q) (oI v b)=cdE p q (nxt l o v b).cond+(nxt l o v b).enQ+sm (eP p q) (nxt l o v b).msgs:=by
 generalize hF:l.filter (pM o v)++oI v b=F at hp hW
 have h1:=aF7 p q F [] 0 hp (by simp)
 have p1:=aHo F [] 0 hp (by simp)
 have h2:=aIS p q v (bG F [] 0).1
 have h3:=aOW p q (aQF v (bG F [] 0).1) (by grind)
 have pa:∀ x∈bP v (bG F [] 0).1,0<x.w:=fun x hx=>by
  obtain⟨y,hy,_,rfl⟩:=wK.1 hx
  rw[aDr];exact p1 y hy
 have pn:∀ x∈iS v (bG F [] 0).1,0<x.w:=fun x hx=>by
  rcases List.mem_append.1 hx with hx | hx
  · exact p1 x (aAi.1 hx).1
  · exact aJe hW pa x hx
 have h4:=aF7 p q (iS v (bG F [] 0).1) [] 0 pn (by simp)
 have h5:sm (eP p q) (iS v (bG F [] 0).1)=sm (eP p q) (uP v (bG F [] 0).1)+sm (eP p q) (mJ (sm wt (bP v (bG F [] 0).1)) (bP v (bG F [] 0).1)):=rG _ _ _
 have e1:(nxt l o v b).cond=sF v (bP v (bG F [] 0).1):=by rw[<- hF];rfl
 have e2:(nxt l o v b).enQ=(bG F [] 0).2+(bG (iS v (bG F [] 0).1) [] 0).2:=by rw[<- hF];rfl
 have e3:(nxt l o v b).msgs=(bG (iS v (bG F [] 0).1) [] 0).1:=by rw[<- hF];rfl
 have e4:sm (eP p q) F=sm (eP p q) (l.filter (pM o v))+sm (eP p q) (oI v b):=by rw[<- hF];exact rG _ _ _
 rw[e1,e2,e3]
 simp only[sm]at h1 h4
 grind
end Go.Ev
/- Parents of parents; the nodes of a tree by their place. -/
namespace Go.Ev
set_option linter.all false
theorem aG0 (l:List QL)(o:List Int):∀ (q:List Int) (b:List NQ),∃ c,bO l o q b=b++c
 | [],b=>⟨[],by simp[bO]⟩
 | v::q,b=>by
  obtain⟨c,e⟩:=aG0 l o q (b++[nxt l o v b])
  exact⟨nxt l o v b::c,by rw[bO,e,List.append_assoc];rfl⟩
theorem aBF (l:List QL)(o:List Int)(q:List Int)(b:List NQ):(bO l o q b).length=b.length+q.length:=by
 have:=congrArg List.length (zB l o q b)
 simpa using this
theorem aDK (l:List QL)(o:List Int):(dX l o).fNodes.length=o.length:=by
 show((bO l o o []).map NQ.toN).length=_
 rw[List.length_map,aBF];simp
theorem aNA {l:List QL}{o p:List Int}{v:Int}{r:List Int}(e:o=p++v::r):(dX l o).fNodes[p.length]?=some (nxt l o v (bO l o p [])).toN:=by
 show((bO l o o []).map NQ.toN)[p.length]?=_
 have:bO l o o []=bO l o (p++v::r) []:=congrArg (fun z=>bO l o z []) e
 rw[this,aG1,bO]
 obtain⟨c,ec⟩:=aG0 l o r (bO l o p []++[nxt l o v (bO l o p [])])
 rw[ec,List.map_append,List.map_append,List.append_assoc,List.getElem?_append_right (by rw[List.length_map,aBF];simp)]
 simp[aBF]
end Go.Ev
/- The energies of a tree at positions; its solution. -/
namespace Go.Ev
set_option linter.all false
def sn (f:NQ->Q):List NQ->Q
 | []=>0
 | x::l=>f x+sn f l
theorem aMZ (f:NQ->Q):∀ a b:List NQ,sn f (a++b)=sn f a+sn f b
 | [],b=>by simp only[List.nil_append,sn];grind
 | x::a,b=>by rw[List.cons_append,sn,sn,aMZ f a b,_root_.Rat.add_assoc]
theorem aM0 (f g:NQ->Q):∀ a:List NQ,sn (fun n=>f n+g n) a=sn f a+sn g a
 | []=>by simp only[sn];grind
 | x::a=>by rw[sn,sn,sn,aM0 f g a];grind
theorem aOX {f:QL->Q}{a b:List QL}(h:a.Perm b):sm f a=sm f b:=by
 induction h with
 | nil=>rfl
 | cons x _ ih=>rw[sm,sm,ih]
 | swap x y l=>rw[sm,sm,sm,sm];grind
 | trans _ _ i1 i2=>rw[i1,i2]
section
variable {l:List QL}{o pre r:List Int}{v:Int}{b:List NQ}
theorem aNy (hb:Base l o)(hi:TInv l o pre (v::r) b):∀ x∈(nxt l o v b).msgs,x.a∈psN (nxt l o v b).cond/\x.b∈psN (nxt l o v b).cond/\x.a<x.b:=by
 obtain⟨n,h1,hv,v1,v9,hl,nV,hV⟩:=hi.facts hb
 have hinc:=hi.inc hb
 obtain⟨c1,c2,c3,c4,c5,c6,c7⟩:=aNC (order:=o) hinc
 have hsp:=hi.split
 intro x hx
 have hj:=(hinc.join).2.1
 refine⟨?_,?_,(c5 x hx).2.2.2⟩
 all_goals
  obtain⟨y,hy,e1,e2⟩:=vC _ [] 0 x hx
  have hy:=hy.resolve_left (by simp)
  rcases List.mem_append.1 hy with hy | hy
  · obtain⟨m1,m2,m3⟩:=aAi.1 hy
    obtain⟨z,hz,f1,f2⟩:=vC _ [] 0 y m1
    have hz:=hz.resolve_left (by simp)
    rcases List.mem_append.1 hz with hz | hz
    · exfalso
      have:=(List.mem_filter.1 hz).2
      rw[hsp]at this
      have:=((aC1 n h1).1 this).1
      omega
    · obtain⟨c,hc,hu2,hz⟩:=yF.1 hz
      obtain⟨_,hk⟩:=hi.kid_ps hb hc hu2
      obtain⟨_,_,p3,_⟩:=hi.ps c hc (by rw[hu2];simp)
      have g1:=(p3 z hz).1
      have g2:=(p3 z hz).2.1
      rw[f1,e1]at g1
      rw[f2,e2]at g2
      first | exact hk _ g1 (by omega) | exact hk _ g2 (by omega)
  · obtain⟨_,_,_,_,⟨y1,hy1,q1⟩,y2,hy2,q2⟩:=hj.arms.each hy
    have e:psN (nxt l o v b).cond=(bP v (bG (l.filter (pM o v)++oI v b) [] 0).1).map fun x=>x.a:=aCW v _
    rw[e]
    first | exact List.mem_map.2 ⟨y1,hy1,q1.trans e1⟩ | exact List.mem_map.2 ⟨y2,hy2,q2.trans e2⟩
theorem aNz (hb:Base l o)(hi:TInv l o pre (v::r) b)(h:(nxt l o v b).up∉r):(nxt l o v b).msgs=[]:=by
 rw[List.eq_nil_iff_forall_not_mem]
 intro x hx
 obtain⟨h1,h2,h3⟩:=aNy hb hi x hx
 by_cases c:x.b=0
 · have:=hi.nxt_rem hb _ h1
   have h5:0<=x.a:=by
    rcases List.mem_cons.1 this.1 with g | g
    · omega
    · have:=(hi.facts hb).2.1 x.a (by simp[g]);omega
   omega
 · exact h (hi.nxt_up hb h2 c)
theorem aHr (hb:Base l o)(hi:TInv l o pre (v::r) b):(∀ x∈l.filter (pM o v)++oI v b,0<x.w)/\0<sm wt (bP v (bG (l.filter (pM o v)++oI v b) [] 0).1):=by
 have hinc:=hi.inc hb
 exact⟨fun x hx=>(hinc.lk x hx).1.sc.1,(hinc.join).2.1.arms.pos⟩
theorem aK8 (p q:Int->Q)(hb:Base l o)(hg:Grounded l o):∀ (n:Nat) (pre rem:List Int),pre.length=n->o=pre++rem->
 sm (eP p q) (l.filter fun x=>decide (aS o [x.a,x.b]∈pre))=sn (fun n=>cdE p q n.cond+n.enQ) (bO l o pre [])+sm (eP p q) (kG ((bO l o pre []).filter (sR rem)))
 | 0,pre,rem,hn,e=>by
  have:pre=[]:=List.length_eq_zero_iff.1 hn
  subst this
  have e1:(l.filter fun x=>decide (aS o [x.a,x.b]∈([]:List Int)))=[]:=by simp
  rw[e1]
  simp only[bO,List.filter_nil,kG,List.flatMap_nil,sm,sn]
  grind
 | n+1,pre,rem,hn,e=>by
  rcases List.eq_nil_or_concat pre with rfl | ⟨q',v,rfl⟩
  · simp at hn
  rw[List.concat_eq_append]at hn e ⊢
  have eo:o=q'++v::rem:=by rw[e,List.append_assoc];rfl
  have ih:=aK8 p q hb hg n q' (v::rem) (by simpa using hn) eo
  have ti:=TInv.at hb hg q'.length q' (v::rem) rfl eo
  obtain⟨nd,h1,hv,v1,v9,hl,nV,hV⟩:=ti.facts hb
  obtain⟨fp1,fp2⟩:=aHr hb ti
  have hN:=aO5 p q fp1 fp2
  rw[uT,aMZ]
  simp only[sn]
  have vq:v∉q':=fun h=>by
   have:=hb.nd
   rw[eo]at this
   exact(List.nodup_append.1 this).2.2 v h v (by simp) rfl
  have s1:sm (eP p q) (l.filter fun x=>decide (aS o [x.a,x.b]∈q'++[v]))=sm (eP p q) (l.filter fun x=>decide (aS o [x.a,x.b]∈q'))+sm (eP p q) (l.filter (pM o v)):=by
   rw[aCP (eP p q) (fun x=>decide (aS o [x.a,x.b]∈q')),List.filter_filter,List.filter_filter]
   congr 2
   · refine List.filter_congr fun x _=>?_
     by_cases c:aS o [x.a,x.b]∈q' <;> simp[c]
   · refine List.filter_congr fun x _=>?_
     unfold pM
     by_cases c:aS o [x.a,x.b]=v
     · simp[c,vq]
     · by_cases d:aS o [x.a,x.b]∈q' <;> simp[c,d]
  have s2:sm (eP p q) (kG ((bO l o q' []).filter (sR (v::rem))))=sm (eP p q) (oI v (bO l o q' []))+sm (eP p q) (kG ((bO l o q' []).filter (sR rem))):=by
   rw[aCC (eP p q) (kid v),aF3,aDS hv]
   rfl
  have s3:sm (eP p q) (kG ((bO l o q' []++[nxt l o v (bO l o q' [])]).filter (sR rem)))=sm (eP p q) (kG ((bO l o q' []).filter (sR rem)))+sm (eP p q) (nxt l o v (bO l o q' [])).msgs:=by
   unfold kG
   rw[List.filter_append,List.flatMap_append,rG,List.filter_cons,List.filter_nil]
   by_cases c:(nxt l o v (bO l o q' [])).up∈rem
   · have:sR rem (nxt l o v (bO l o q' []))=true:=decide_eq_true c
     rw[if_pos this,List.flatMap_cons,List.flatMap_nil,List.append_nil]
   · have:¬sR rem (nxt l o v (bO l o q' []))=true:=fun h=>c (of_decide_eq_true h)
     rw[if_neg this,aNz hb ti c,List.flatMap_nil]
  rw[s1,s3,ih,s2]
  grind
end
theorem aJ4 (p q:Int->Q){l:List QL}{o:List Int}(h:Tie l o):sm (eP p q) l=sn (fun n=>cdE p q n.cond) (bO l o o [])+sn (fun n=>n.enQ) (bO l o o []):=by
 have e:=aK8 p q h.base h.gr o.length o [] rfl (by simp)
 have e1:(l.filter fun x=>decide (aS o [x.a,x.b]∈o))=l:=List.filter_eq_self.2 fun x hx=>decide_eq_true (h.owner x hx)
 have e2:(bO l o o []).filter (sR [])=[]:=List.filter_eq_nil_iff.2 fun c _ hc=>by have:=of_decide_eq_true hc;simp at this
 rw[e1,e2,aM0]at e
 rw[e]
 simp only[kG,List.flatMap_nil,sm]
 grind
def Dn (b:List NQ):Prop:=b.Pairwise (fun n c=>n.node∉psN c.cond/\n.node≠c.node)/\∀ n∈b,n.node∉psN n.cond/\n.cond.node=n.node
theorem Dn.tail {n:NQ}{r:List NQ}(h:Dn (n::r)):Dn r:=⟨(List.pairwise_cons.1 h.1).2,fun c hc=>h.2 c (by simp[hc])⟩
theorem aRe (x:Q):0<=x*x:=by
 rcases Std.le_total (a:=0) (b:=x)with h | h
 · exact _root_.Rat.mul_nonneg h h
 · have:=_root_.Rat.mul_nonneg (a:=-x) (b:=-x) (by grind) (by grind)
   grind
end Go.Ev
/- Two trees of the same links: the same solution, the same energy. -/
namespace Go.Ev
set_option linter.all false
theorem aK9 {l:List QL}{o:List Int}(h:Tie l o):∀ (n:Nat) (pre rem:List Int),pre.length=n->o=pre++rem->
 Dn (bO l o pre [])/\∀ c∈bO l o pre [],c.node∈pre/\0<c.cond.t/\∀ u∈psN c.cond,u=0\/u∈o
 | 0,pre,rem,hn,e=>by
  have:pre=[]:=List.length_eq_zero_iff.1 hn
  subst this
  exact⟨⟨List.Pairwise.nil,by simp[bO]⟩,by simp[bO]⟩
 | n+1,pre,rem,hn,e=>by
  rcases List.eq_nil_or_concat pre with rfl | ⟨q,v,rfl⟩
  · simp at hn
  rw[List.concat_eq_append]at hn e ⊢
  have eo:o=q++v::rem:=by rw[e,List.append_assoc];rfl
  obtain⟨⟨i1,i2⟩,i3⟩:=aK9 h n q (v::rem) (by simpa using hn) eo
  have ti:=TInv.at h.base h.gr q.length q (v::rem) rfl eo
  obtain⟨fp1,fp2⟩:=aHr h.base ti
  have hrem:=ti.nxt_rem h.base
  have nd:=h.nd
  rw[eo]at nd
  have nd2:=List.nodup_append.1 nd
  rw[uT]
  refine⟨⟨?_,?_⟩,?_⟩
  · rw[List.pairwise_append]
    refine⟨i1,by simp,fun c hc d hd=>?_⟩
    rw[List.mem_singleton.1 hd]
    have cq:=(i3 c hc).1
    have c1:=(h.five c.node (by rw[eo];simp[cq])).1
    refine⟨fun hm=>?_,fun e=>?_⟩
    · rcases List.mem_cons.1 (hrem _ hm).1 with g | g
      · omega
      · exact nd2.2.2 _ cq _ (List.mem_cons_of_mem _ g) rfl
    · have:c.node=v:=e
      exact nd2.2.2 _ cq _ (by simp) this
  · intro c hc
    rcases List.mem_append.1 hc with hc | hc
    · exact i2 c hc
    · rw[List.mem_singleton.1 hc]
      exact⟨fun hm=>(hrem _ hm).2 rfl,rfl⟩
  · intro c hc
    rcases List.mem_append.1 hc with hc | hc
    · obtain⟨g1,g2,g3⟩:=i3 c hc
      exact⟨by simp[g1],g2,g3⟩
    · rw[List.mem_singleton.1 hc]
      refine⟨by simp[show(nxt l o v (bO l o q [])).node=v from rfl],fp2,fun u hu=>?_⟩
      rcases List.mem_cons.1 (hrem u hu).1 with g | g
      · exact .inl g
      · exact .inr (by rw[eo];simp[g])
theorem Tie.dn {l:List QL}{o:List Int}(h:Tie l o):Dn (bO l o o [])/\∀ c∈bO l o o [],c.node∈o/\0<c.cond.t/\∀ u∈psN c.cond,u=0\/u∈o:=aK9 h o.length o [] rfl (by simp)
theorem xU {l:List QL}{o:List Int}{u:Int}(h:u∈o):∃ c∈bO l o o [],c.node=u:=by
 have e:=zB l o o []
 have:u∈(bO l o o []).map (fun n=>n.node):=by rw[e];simpa using h
 obtain⟨c,hc,e2⟩:=List.mem_map.1 this
 exact⟨c,hc,e2⟩
end Go.Ev
/- Positions have few digits. -/
namespace Go.Ev
set_option linter.all false
def aOG (k:Nat)(n:NQ):Prop:=∃ (D X:Nat) (a:List QL),n.cond=sF n.node a/\Arms D X n.node a/\72*D<=ex k
def aAV:Nat->List NQ->Prop
 | _,[]=>True
 | k,n::r=>aOG k n/\aAV (k+1) r
theorem aEj {n:NQ}:∀ {k:Nat} {b:List NQ},aAV k b->aOG (k+b.length) n->aAV k (b++[n])
 | k,[],_,h=>⟨by simpa using h,trivial⟩
 | k,m::r,h,g=>⟨h.1,aEj h.2 (by rw[List.length_cons]at g;rw[show k+1+r.length=k+(r.length+1)by omega];exact g)⟩
theorem aEk {n:NQ}:∀ {k:Nat} {a b:List NQ},aAV k (a++b)->aAV (k+a.length) b
 | k,[],b,h=>h
 | k,m::a,b,h=>by
  have:=aEk (n:=n) (k:=k+1) (a:=a) h.2
  rw[List.length_cons,show k+(a.length+1)=k+1+a.length by omega];exact this
section
variable {l:List QL}{o pre r:List Int}{v:Int}{b:List NQ}
theorem aQA (hb:Base l o)(hi:TInv l o pre (v::r) b):72*aB8 v b<=ex b.length:=by
 obtain⟨k1,k2,k3⟩:=hi.kids
 have hH:eJ (fun c:NQ=>72*c.den) (b.filter (kid v))<=ex b.length:=Nat.le_trans (Nat.le_trans (Nat.le_mul_of_pos_right _ k2) k1) (aKF _)
 have ex72:72<=ex b.length:=by
  unfold ex
  have:1<=2 ^ b.length:=Nat.one_le_two_pow
  calc 72=72 ^ 1:=rfl
   _<=_:=Nat.pow_le_pow_right (by omega) this
 by_cases c:b.filter (kid v)=[]
 · have:aB8 v b=1:=by
    have e:aB8 v b=eJ (fun c:NQ=>c.den) (b.filter (kid v)):=rfl
    rw[e,c];rfl
   rw[this];omega
 · exact Nat.le_trans (aCX _ _ c) hH
theorem aMa (hb:Base l o)(hi:TInv l o pre (v::r) b):aOG b.length (nxt l o v b) :=
 ⟨aB8 v b,20*2 ^ b.length,bP v (bG (l.filter (pM o v)++oI v b) [] 0).1,rfl,((hi.inc hb).join).2.1.arms,aQA hb hi⟩
theorem aD1 (hb:Base l o)(hg:Grounded l o):∀ (n:Nat) (pre rem:List Int),pre.length=n->o=pre++rem->aAV 0 (bO l o pre [])
 | 0,pre,rem,hn,e=>by
  have:pre=[]:=List.length_eq_zero_iff.1 hn
  subst this
  exact trivial
 | n+1,pre,rem,hn,e=>by
  rcases List.eq_nil_or_concat pre with rfl | ⟨q,v,rfl⟩
  · simp at hn
  rw[List.concat_eq_append]at hn e ⊢
  have eo:o=q++v::rem:=by rw[e,List.append_assoc];rfl
  have ih:=aD1 hb hg n q (v::rem) (by simpa using hn) eo
  have ti:=TInv.at hb hg q.length q (v::rem) rfl eo
  rw[uT]
  refine aEj ih ?_
  rw[Nat.zero_add]
  exact aMa hb ti
end
def epr:Nat->Nat->Nat
 | _,0=>1
 | k,n+1=>ex k*epr (k+1) n
theorem aOa {k n:Nat}(h:k+n<=5):epr k n<=PP ^ 2:=by
 have:∀ k,k<=5->∀ n,n<=5-k->epr k n<=PP ^ 2:=by unfold PP;decide
 exact this k (by omega) n (by omega)
structure Co (g:PQ->Q)(gl:QL->Q):Prop where
 par:∀ t a,g (yX t a)=gl a
 lk:∀ {D X:Nat} {y:QL},0<D->Lk D X y->bd X (gl y)/\Dv D (y.w*gl y)/\Dv (nm D y.w) (gl y)
def aIB (T M:Nat)(f:Int->Q):Prop:=0<T/\∀ u,Dv T (f u)/\bd M (f u)
def sM (f:Int->Q)(gl:QL->Q)(a:List QL):Q:=sm (fun y=>y.w*(f y.a+gl y)) a
theorem aPZ {g:PQ->Q}{gl:QL->Q}(hg:Co g gl)(f:Int->Q)(t:Q):∀ a:List QL,app f g (a.map (yX t))=sM f gl a / t
 | []=>by simp only[List.map_nil,app,sM,sm];grind
 | x::a=>by
  have ih:=aPZ hg f t a
  unfold sM at ih ⊢
  rw[List.map_cons,app,sm,ih,hg.par]
  unfold yX
  simp only[]
  grind
theorem aK7 {g:PQ->Q}{gl:QL->Q}(hg:Co g gl){f:Int->Q}{T M D X:Nat}(hf:aIB T M f)(hD:0<D):∀ a:List QL,(∀ x∈a,Lk D X x)->Dv (D*T) (sM f gl a)/\-((M+X:Nat):Q)*sm wt a<=sM f gl a/\sM f gl a<=((M+X:Nat):Q)*sm wt a
 | [],_=>by
  unfold sM
  simp only[sm]
  exact⟨⟨0,by simp⟩,by grind,by grind⟩
 | y::a,h=>by
  obtain⟨i1,i2,i3⟩:=aK7 hg hf hD a (fun x hx=>h x (by simp[hx]))
  have hy:=h y (by simp)
  obtain⟨g1,g2,g3⟩:=hg.lk hD hy
  obtain⟨f1,f2⟩:=hf.2 y.a
  have b:=aEY hy.sc.1 (aBz f2 g1)
  unfold sM at i1 i2 i3 ⊢
  rw[sm,sm]
  have e:y.w*(f y.a+gl y)=y.w*f y.a+y.w*gl y:=by grind
  refine⟨mA ?_ i1,?_,?_⟩
  · rw[e]
    exact mA (aAa hy.sc.2.1 f1) (uN T g2)
  · unfold wt at i2 ⊢;grind
  · unfold wt at i3 ⊢;grind
theorem aLj {g:PQ->Q}{gl:QL->Q}(hg:Co g gl){f:Int->Q}{T M D X:Nat}{v:Int}{a:List QL}(hf:aIB T M f)(h:Arms D X v a){a1:List QL}(h1:∀ x∈a1,Lk D X x)(hle:sm wt a1<=sm wt a) :
 Dv (nm D (sm wt a)*T) (sM f gl a1 / sm wt a)/\bd (M+X) (sM f gl a1 / sm wt a):=by
 have hp:=h.pos
 have hN:=(zG h.hD hp (xX h.lk)).1
 obtain⟨d1,d2,d3⟩:=aK7 hg hf h.hD a1 h1
 have n1:=kV h1
 have nn:=uX (M+X)
 have m2:=_root_.Rat.mul_nonneg nn (b:=sm wt a-sm wt a1) (by grind)
 constructor
 · obtain⟨z,hz⟩:=d1
   refine⟨z,?_⟩
   rw[_root_.Rat.natCast_mul,hN,<- hz,_root_.Rat.natCast_mul]
   grind
 · have k1:-((M+X:Nat):Q)*sm wt a<=sM f gl a1:=by
    generalize ((M+X:Nat):Q)=K at *
    grind
   have k2:sM f gl a1<=((M+X:Nat):Q)*sm wt a:=by
    generalize ((M+X:Nat):Q)=K at *
    grind
   exact aDW hp k1 k2
theorem aCZ {g:PQ->Q}{gl:QL->Q}(hg:Co g gl){f:Int->Q}{T M D X:Nat}{v:Int}{a:List QL}(hf:aIB T M f)(h:Arms D X v a){a1 a2:List QL}(e:a=a1++a2) :
 Dv (nm D (sm wt a)*T) (sM f gl a1 / sm wt a)/\bd (M+X) (sM f gl a1 / sm wt a):=by
 have h2:∀ x∈a2,Lk D X x:=fun x hx=>h.lk x (by rw[e];simp[hx])
 have n2:=kV h2
 have es:sm wt a=sm wt a1+sm wt a2:=by rw[e,rG]
 exact aLj hg hf h (fun x hx=>h.lk x (by rw[e];simp[hx])) (by grind)
end Go.Ev
/- A conditional applied: the program. -/
namespace Go.Ev
set_option linter.all false
set_option maxHeartbeats 1000000
theorem aRh {p:Q}(hp:cG p):jI (ofQ p)=some true:=by
 have:=nF (sP hp)
 rw[aAt _ (by omega),decide_eq_true (rH hp)]
theorem aKD {p:Q}(hp:cG p):cM (ofQ p)=some true:=by
 rw[iM (sP hp),decide_eq_true (rH hp)]
theorem aMM (f:Int->Q)(gl:QL->Q)(a b:List QL):sM f gl (a++b)=sM f gl a+sM f gl b:=rG _ _ _
end Go.Ev
