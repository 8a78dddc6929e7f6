/- Parts QT, QU, PG1, VA, PS1, PS2, PS3, PT1, P22b, PT2, VB, VC, PT3, VD, VE, PT4, VF, VG, VH, VI, VJ, VK, VL, VS, VP. -/
import Derived.Test.YtachfjpemagdiaaGreatPb3
import Derived.Test.YtachfjpemagdiaaGreatPa1
import Derived.Test.YtachfjpemagdiaaGreatLd
import Derived.Test.YtachfjpemagdiaaGreatPb2
import Derived.Test.YtachfjpemagdiaaGreatPb1
set_option linter.all false
/- Trees over the rational numbers: the whole tree. -/
namespace Go.Ev
set_option linter.all false
section
variable {l:List QL}{o pre r:List Int}{v:Int}{b:List NQ}
theorem TInv.next (hb:Base l o)(hi:TInv l o pre (v::r) b):TInv l o (pre++[v]) r (b++[nxt l o v b])/\mO o v ((l.filter (kB o v)).map QL.toL) (b.map NQ.toN)=some (nxt l o v b).toN/\cC (nxt l o v b).enQ:=by
 obtain⟨n,h1,hv,v1,v9,hl,nV,hV⟩:=hi.facts hb
 have hinc:=hi.inc hb
 obtain⟨c1,c2,c3,c4,c5,c6,c7⟩:=aNV (order:=o) hinc
 have hmem:∀ c∈b++[nxt l o v b],c∈b\/c=nxt l o v b:=fun c hc=>by simpa using hc
 have hlen:(b++[nxt l o v b]).length=b.length+1:=by simp
 have hsp:=hi.split
 refine⟨⟨?_,?_,?_,?_,?_,?_,?_,?_⟩,c1,c2⟩
 · rw[hsp];simp
 · rw[hlen,List.length_append,hi.len];rfl
 · intro c hc hu
   rcases hmem c hc with hc | rfl
   · exact hi.den c hc (List.mem_cons_of_mem v hu)
   · exact c3
 · intro c hc hu
   rw[hlen]
   rcases hmem c hc with hc | rfl
   · obtain⟨m1,m2⟩:=hi.msg c hc (List.mem_cons_of_mem v hu)
     exact⟨fun x hx=>aKl (m1 x hx) (Nat.dvd_refl _) (Nat.mul_le_mul_left _ (Nat.pow_le_pow_right (by omega) (by omega))),m2⟩
   · refine⟨fun x hx=>?_,c6⟩
     have:=(c5 x hx).1
     have e:2*(20*2 ^ b.length)=20*2 ^ (b.length+1):=by rw[Nat.pow_succ];omega
     rw[<- e];exact this
 · intro c hc hu
   rcases hmem c hc with hc | rfl
   · obtain⟨p1,p2,p3,p4⟩:=hi.ps c hc (List.mem_cons_of_mem v hu)
     refine⟨fun u hm=>?_,p2,p3,p4⟩
     have h:=p1 u hm
     simp only[List.mem_cons]at h ⊢
     rcases h with h | h | h
     · exact .inl h
     · exfalso
       subst h
       rw[hsp]at p2
       have:c.up=u:=p2.trans ((yR n h1).2 ⟨hm,fun z hz hz2=>by
        rcases List.mem_cons.1 (p1 z hz2)with rfl | h
        · have:=h1 0 (List.mem_append_left _ hz);omega
        · exact(List.nodup_append.1 n).2.2 z hz z h rfl⟩)
       rw[this]at hu;exact hv hu
     · exact .inr h
   · refine⟨fun u hm=>(hi.nxt_rem hb u hm).1,rfl,fun x hx=>?_,fun u hu' w hw' huw=>?_⟩
     · have hj:=(hinc.join).2.1
       refine⟨?_,?_,(c5 x hx).2.2.2⟩
       all_goals
        obtain⟨y,hy,e1,e2⟩:=nY _ [] 0 x hx
        have hy:=hy.resolve_left (by simp)
        rcases List.mem_append.1 hy with hy | hy
        · obtain⟨m1,m2,m3⟩:=aAp.1 hy
          obtain⟨z,hz,f1,f2⟩:=nY _ [] 0 y m1
          have hz:=hz.resolve_left (by simp)
          rcases List.mem_append.1 hz with hz | hz
          · exfalso
            have:=(List.mem_filter.1 hz).2
            rw[hsp]at this
            have:=((aCb n h1).1 this).1
            omega
          · obtain⟨c,hc,hu2,hz⟩:=qK.1 hz
            obtain⟨_,hk⟩:=hi.kid_ps hb hc hu2
            obtain⟨_,_,p3,_⟩:=hi.ps c hc (by rw[hu2];simp)
            have g1:=(p3 z hz).1
            have g2:=(p3 z hz).2.1
            rw[f1,e1]at g1
            rw[f2,e2]at g2
            first | exact hk _ g1 (by omega) | exact hk _ g2 (by omega)
        · obtain⟨_,_,_,_,⟨y1,hy1,q1⟩,y2,hy2,q2⟩:=hj.arms.each hy
          have e:psN (nxt l o v b).cond=(bR v (bH (l.filter (kB o v)++mP v b) [] 0).1).map fun x=>x.a:=aBA v _
          rw[e]
          first | exact List.mem_map.2 ⟨y1,hy1,q1.trans e1⟩ | exact List.mem_map.2 ⟨y2,hy2,q2.trans e2⟩
     · have hj:=(hinc.join).2.1
       have e:psN (nxt l o v b).cond=(bR v (bH (l.filter (kB o v)++mP v b) [] 0).1).map fun x=>x.a:=aBA v _
       rw[e]at hu' hw'
       obtain⟨x,hx,rfl⟩:=List.mem_map.1 hu'
       obtain⟨y,hy,rfl⟩:=List.mem_map.1 hw'
       have hm:=aJC (sm wt (bR v (bH (l.filter (kB o v)++mP v b) [] 0).1)) hj.arms.inc x hx y hy huw
       obtain⟨z,hz,f1,f2⟩:=vH (iQ v (bH (l.filter (kB o v)++mP v b) [] 0).1) [] 0 _ (.inr (List.mem_append_right _ hm))
       exact⟨z,hz,f1.symm,f2.symm⟩
 · obtain⟨k1,k2,k3⟩:=hi.kids
   rw[hlen,List.filter_append,aHy]
   have e1:b.filter (iS r)=b.filter fun c=>iS (v::r) c&&!kid v c:=by
    rw[<- aD4 hv,List.filter_filter]
    refine List.filter_congr fun c _=>?_
    rw[Bool.and_comm]
   rw[e1]
   have ekk:ex' (b.length+1)=ex (b.length+1):=by unfold ex';rw[if_neg (by omega)]
   rw[ekk]
   have hD:(aBl v b=1/\dQ (fun c:NQ=>72*c.den) (b.filter (kid v))=1)\/72*aBl v b<=dQ (fun c:NQ=>72*c.den) (b.filter (kid v)):=by
    by_cases c:b.filter (kid v)=[]
    · left
      have e:aBl v b=dQ (fun c:NQ=>c.den) (b.filter (kid v)):=rfl
      rw[e,c];exact⟨rfl,rfl⟩
    · exact .inr (aDf (fun c:NQ=>c.den) _ c)
   have hs:=aMi k3 k2 k1 c4 hD
   have le:dQ (fun c:NQ=>72*c.den) ([nxt l o v b].filter (iS r))<=72*(nxt l o v b).den:=by
    have hp:0<(nxt l o v b).den:=c3
    rw[List.filter_cons,List.filter_nil]
    split
    · simp[dQ]
    · simp only[dQ];omega
   exact Nat.le_trans (Nat.mul_le_mul_left _ le) hs
 · have hw:=(aH6 hi hb).1
   have hn:0<=sm wt (nxt l o v b).msgs:=iZ fun x hx=>(c5 x hx).1
   have e:sm wt (dU ((b++[nxt l o v b]).filter (iS r)))<=sm wt (dU (b.filter (iS r)))+sm wt (nxt l o v b).msgs:=by
    unfold dU
    rw[List.filter_append,List.flatMap_append,sY,List.filter_cons,List.filter_nil]
    split
    · rw[List.flatMap_cons,List.flatMap_nil,List.append_nil];grind
    · rw[List.flatMap_nil];simp only[sm];grind
   have c7':sm wt (nxt l o v b).msgs<=sm wt (l.filter (kB o v)++mP v b):=c7
   grind
 · intro S hS h0
   obtain⟨u0,hu0,su0⟩:=hS
   have viaN:∀ u w,S u->¬S w->u∈psN (nxt l o v b).cond->w∈psN (nxt l o v b).cond->aM0 l o r (b++[nxt l o v b]) u w:=by
    intro u w su sw hu hw
    exact .inr ⟨nxt l o v b,by simp,hi.nxt_up hb hu (fun e=>h0 (e▸su)),hu,hw⟩
   have up:∀ u w,aM0 l o r b u w->aM0 l o r (b++[nxt l o v b]) u w:=by
    rintro u w (⟨x,hx,h⟩ | ⟨c,hc,h⟩)
    · exact .inl ⟨x,hx,h⟩
    · exact .inr ⟨c,by simp[hc],h⟩
   have ne0:u0≠v:=fun e=>hv (e▸hu0)
   obtain⟨u,w,⟨su,uv⟩,sw,ad⟩:=hi.cut (fun u=>S u/\u≠v) ⟨u0,List.mem_cons_of_mem v hu0,su0,ne0⟩ (fun h=>h0 h.1)
   have uw:u≠w:=fun e=>sw (e▸⟨su,uv⟩)
   obtain⟨t1,t2,t3⟩:=hi.adj hb ad uw
   by_cases wv:w=v
   · have hu:=t2 wv
     obtain⟨u',w',su',sw',ad'⟩:=hi.cut (fun u=>S u\/u=v) ⟨u0,List.mem_cons_of_mem v hu0,.inl su0⟩ (fun h=>h.elim h0 (by omega))
     have uw':u'≠w':=fun e=>sw' (e▸su')
     obtain⟨t1',t2',t3'⟩:=hi.adj hb ad' uw'
     have wv':w'≠v:=fun e=>sw' (.inr e)
     have sw2:¬S w':=fun h=>sw' (.inl h)
     by_cases uv':u'=v
     · exact⟨u,w',su,sw2,viaN u w' su sw2 hu (t1' uv')⟩
     · have su2:S u':=su'.resolve_right uv'
       rcases t3' uv' wv' with⟨g1,g2⟩ | g
       · exact⟨u',w',su2,sw2,viaN u' w' su2 sw2 g1 g2⟩
       · exact⟨u',w',su2,sw2,up _ _ g⟩
   · have sw2:¬S w:=fun h=>sw ⟨h,wv⟩
     rcases t3 uv wv with⟨g1,g2⟩ | g
     · exact⟨u,w,su,sw2,viaN u w su sw2 g1 g2⟩
     · exact⟨u,w,su,sw2,up _ _ g⟩
end
def aH (l:List QL)(o:List Int):List Int->List NQ->List NQ
 | [],b=>b
 | v::r,b=>aH l o r (b++[nxt l o v b])
theorem aP0 (o:List Int)(v:Int):∀ l:List QL,(l.map QL.toL).filter (mA o v)=(l.filter (kB o v)).map QL.toL
 | []=>rfl
 | x::l=>by
  have e:mA o v x.toL=kB o v x:=rfl
  rw[List.map_cons,List.filter_cons,List.filter_cons,aP0 o v l,e]
  split <;> rfl
theorem aNd {l:List QL}{o:List Int}(hb:Base l o):∀ (r pre:List Int) (b:List NQ),TInv l o pre r b->oG (l.map QL.toL) o r (b.map NQ.toN)=some ((aH l o r b).map NQ.toN)
 | [],_,b,_=>rfl
 | v::r,pre,b,hi=>by
  obtain⟨h1,h2,h3⟩:=hi.next hb
  rw[oG,aP0,h2]
  have:=aNd hb r (pre++[v]) (b++[nxt l o v b]) h1
  rw[List.map_append]at this
  exact this
def Grounded (l:List QL)(o:List Int):Prop:=∀ S:Int->Prop,(∃ u∈o,S u)->¬S 0->∃ x∈l,(S x.a/\¬S x.b)\/(S x.b/\¬S x.a)
theorem TInv.start {l:List QL}{o:List Int}(hb:Base l o)(hg:Grounded l o):TInv l o [] o [] where
 split:=rfl
 len:=rfl
 den:=by simp
 msg:=by simp
 ps:=by simp
 prod:=Nat.le_refl 1
 wtt:=by
  have e:sm wt (dU (([]:List NQ).filter (iS o)))=0:=rfl
  rw[e]
  have h1:=aBt wt (fun x=>decide (aQ o [x.a,x.b]∈o)) l
  have h2:0<=sm wt (l.filter fun x=>!decide (aQ o [x.a,x.b]∈o)):=iZ fun y hy=>(hb.lk y (List.mem_filter.1 hy).1).1
  have:=hb.hw
  grind
 cut:=by
  intro S hS h0
  obtain⟨x,hx,h⟩:=hg S hS h0
  have hf:aQ o [x.a,x.b]∈o:=by
   obtain⟨i1,i2,i3⟩:=(hb.lk x hx).2.1
   have hbm:x.b∈o:=by
    rcases List.mem_cons.1 i2 with h | h
    · exfalso
      rcases List.mem_cons.1 i1 with h2 | h2
      · omega
      · have:=hb.h1 _ h2;omega
    · exact h
   rcases aBR (s:=[x.a,x.b]) (fun u hu=>(hb.h1 u hu).1)with⟨_,h4⟩ | ⟨p,v,r,e,h2,h3,h4⟩
   · exact absurd (by simp) (h4 _ hbm)
   · rw[h2,e];simp
  rcases h with⟨g1,g2⟩ | ⟨g1,g2⟩
  · exact⟨x.a,x.b,g1,g2,.inl ⟨x,hx,hf,.inl ⟨rfl,rfl⟩⟩⟩
  · exact⟨x.b,x.a,g1,g2,.inl ⟨x,hx,hf,.inr ⟨rfl,rfl⟩⟩⟩
theorem Base.join {l:List QL}{o:List Int}(hb:Base l o):jnP (l.map QL.toL)=some ((bH l [] 0).1.map QL.toL,ofQ (bH l [] 0).2)/\(∀ k∈(bH l [] 0).1,k.fit/\Lk 1 20 k/\inV (0::o) k)/\(bH l [] 0).1.Pairwise dH/\cC (bH l [] 0).2:=by
 have nV:(0::o).Nodup:=List.nodup_cons.2 ⟨fun h=>by have:=hb.h1 0 h;omega,hb.nd⟩
 have hVn:∀ u∈0::o,0<=u/\u<=9:=fun u hu=>by
  rcases List.mem_cons.1 hu with rfl | hu
  · omega
  · have:=hb.h1 u hu;omega
 have len:(0::o).length<=6:=by have:=hb.len;simp only[List.length_cons];omega
 have j:Jn 1 1 20 15 (0::o):=⟨by omega,by decide,by omega,by omega,by omega,nV,by
  have h1:=aCP len
  have h2:=aNb _ 6 len (by omega)
  have h3:tri 6=15:=by decide
  omega,by rw[aPb];decide⟩
 have es:=uN (fun x hx=>(hb.lk x hx).1) (by omega) hb.hw
 have e0:(0:Q)-sm enQ []=0:=by simp only[sm];grind
 have g:=aDy j l [] 0 (fun x hx=>⟨(hb.lk x hx).1,(hb.lk x hx).2.1,(hb.lk x hx).2.2⟩) (by simp) List.Pairwise.nil (by simp only[sm];have:=hb.hw;grind) ⟨0,by simp⟩ (by grind) (by have:=es.2;grind)
 rw[e0]at g
 obtain⟨g1,g2,g3,g4,g5⟩:=g
 have fo:∀ x∈l,x.fit/\x.ok:=fun x hx=>by
  obtain⟨l1,⟨l2,l3,l4⟩,_⟩:=hb.lk x hx
  refine⟨aGd (by omega) (by decide) l1 (by omega) (by omega) ?_,hVn _ l2,hVn _ l3,l4,l1.sc.1⟩
  have:=xC (fun y hy=>(hb.lk y hy).1) hx
  have:=hb.hw
  grind
 obtain⟨e1,f1,f2⟩:=aQG fo g1
 exact⟨e1,fun k hk=>⟨f1 k hk,g2 k hk⟩,g3,f2⟩
theorem aPJ {l:List QL}{o:List Int}(hb:Base l o)(hg:Grounded l o)(ho:isOrd ((bH l [] 0).1.map QL.toL) o):lA (l.map QL.toL) o=some ⟨(aH l o o []).map NQ.toN⟩:=by
 unfold lA
 rw[hb.join.1]
 simp only[Option.bind_some]
 rw[if_pos ho]
 have:=aNd hb o [] [] (TInv.start hb hg)
 rw[List.map_nil]at this
 rw[this]
 rfl
end Go.Ev
/- Links of whole numbers that tie nodes to the ground: their tree is built. -/
namespace Go.Ev
set_option linter.all false
def LkI (x:QL):Prop:=(0<=x.a/\x.a<x.b/\x.b<=5)/\∃ w p q:Int,(1<=w/\w<=9)/\(-20<=p/\p<=20)/\(-20<=q/\q<=20)/\x.w=(w:Q)/\x.x=(p:Q)/\x.y=(q:Q)
theorem aOP {B:Nat}{z:Int}(h:-(B:Int)<=z/\z<=(B:Int)):bd B (z:Q):=by
 constructor
 · have:=(_root_.Rat.intCast_le_intCast (a:=-(B:Int)) (b:=z)).2 h.1
   rw[_root_.Rat.intCast_neg]at this;exact this
 · exact(_root_.Rat.intCast_le_intCast (a:=z) (b:=(B:Int))).2 h.2
theorem LkI.lk {x:QL}(h:LkI x):Lk 1 20 x/\Dv 1 (enQ x)/\x.w<=9:=by
 obtain⟨_,w,p,q,hw,hp,hq,e1,e2,e3⟩:=h
 have w0:((0:Int):Q)<(w:Q):=_root_.Rat.intCast_lt_intCast.2 (by omega)
 have w9:(w:Q)<=((9:Int):Q):=_root_.Rat.intCast_le_intCast.2 hw.2
 have z0:((0:Int):Q)=0:=rfl
 have z9:((9:Int):Q)=9:=rfl
 have m1:mx x=((w*p:Int):Q):=by unfold mx;rw[e1,e2,_root_.Rat.intCast_mul]
 have m2:my x=((w*q:Int):Q):=by unfold my;rw[e1,e3,_root_.Rat.intCast_mul]
 have m3:enQ x=((w*(p*p+q*q):Int):Q):=by
  unfold enQ sqQ
  rw[e1,e2,e3,_root_.Rat.intCast_mul,_root_.Rat.intCast_add,_root_.Rat.intCast_mul,_root_.Rat.intCast_mul]
 refine⟨⟨⟨by rw[e1];grind,by rw[e1];exact aEa _,by rw[m1];exact aEa _,by rw[m2];exact aEa _⟩,by rw[e2];exact aOP (by omega),by rw[e3];exact aOP (by omega)⟩,by rw[m3];exact aEa _,by rw[e1];grind⟩
theorem aRm:∀ {l:List QL},(∀ x∈l,LkI x)->sm wt l<=((9*l.length:Nat):Q)
 | [],_=>by simp[sm]
 | x::l,h=>by
  have h1:=(h x (by simp)).lk.2.2
  have h2:=aRm (l:=l) (fun y hy=>h y (by simp[hy]))
  have e:(9*(x::l).length:Nat)=9+9*l.length:=by rw[List.length_cons];omega
  rw[sm,e,_root_.Rat.natCast_add]
  have e2:wt x=x.w:=rfl
  have e3:((9:Nat):Q)=9:=rfl
  rw[e2,e3];grind
structure Tie (l:List QL)(o:List Int):Prop where
 nd:o.Nodup
 mem:∀ u,u∈o↔1<=u/\∃ x∈l,x.a=u\/x.b=u
 lk:∀ x∈l,LkI x
 len:l.length<=8
 gr:Grounded l o
theorem Tie.five {l:List QL}{o:List Int}(h:Tie l o):∀ u∈o,1<=u/\u<=5:=by
 intro u hu
 obtain⟨h1,x,hx,ht⟩:=(h.mem u).1 hu
 have:=(h.lk x hx).1
 omega
theorem Tie.base {l:List QL}{o:List Int}(h:Tie l o):Base l o where
 nd:=h.nd
 h1:=fun u hu=>by have:=h.five u hu;omega
 len:=by
  have:=h.nd.length_le_of_subset (l₂:=[1,2,3,4,5]) (fun u hu=>by
   have:=h.five u hu
   simp only[List.mem_cons,List.not_mem_nil,or_false];omega)
  simpa using this
 lk:=fun x hx=>by
  obtain⟨h1,h2,h3⟩:=(h.lk x hx).lk
  have hn:=(h.lk x hx).1
  refine⟨h1,⟨?_,?_,hn.2.1⟩,h2⟩
  · by_cases c:x.a=0
    · rw[c];simp
    · exact List.mem_cons_of_mem _ ((h.mem _).2 ⟨by omega,x,hx,.inl rfl⟩)
  · exact List.mem_cons_of_mem _ ((h.mem _).2 ⟨by omega,x,hx,.inr rfl⟩)
 hw:=by
  have h1:=aRm h.lk
  have h2:((9*l.length:Nat):Q)<=((72:Nat):Q):=aDW (by have:=h.len;omega)
  have e:((72:Nat):Q)=72:=rfl
  grind
theorem aCV {s:List Link}{u:Int}:u∈dS s↔(1<=u/\u<=9)/\∃ x∈s,x.fA=u\/x.fB=u:=by
 unfold dS aEB tch
 rw[List.mem_filter,List.any_eq_true]
 constructor
 · rintro⟨h1,x,hx,ht⟩
   obtain⟨k,hk,rfl⟩:=List.mem_map.1 h1
   rw[List.mem_range]at hk
   exact⟨by omega,x,hx,of_decide_eq_true ht⟩
 · rintro⟨h1,x,hx,ht⟩
   exact⟨List.mem_map.2 ⟨(u-1).toNat,List.mem_range.2 (by omega),by omega⟩,x,hx,decide_eq_true ht⟩
theorem aAR (s:List Link):(dS s).Nodup:=by
 unfold dS
 exact(by decide:aEB.Nodup).filter _
theorem aMs {a b:List Int}(ha:a.Nodup)(hb:b.Nodup)(h:∀ u,u∈a↔u∈b):a.length=b.length :=
 Nat.le_antisymm (ha.length_le_of_subset fun u hu=>(h u).1 hu) (hb.length_le_of_subset fun u hu=>(h u).2 hu)
theorem Tie.isOrd {l:List QL}{o:List Int}(h:Tie l o):isOrd ((bH l [] 0).1.map QL.toL) o:=by
 have key:∀ u,u∈o↔u∈dS ((bH l [] 0).1.map QL.toL):=by
  intro u
  rw[h.mem,aCV]
  constructor
  · rintro⟨h1,x,hx,ht⟩
    obtain⟨y,hy,e1,e2⟩:=vH l [] 0 x (.inr hx)
    have:=(h.lk x hx).1
    refine⟨by omega,y.toL,List.mem_map_of_mem hy,?_⟩
    show y.a=u\/y.b=u
    rw[<- e1,<- e2];exact ht
  · rintro⟨h1,z,hz,ht⟩
    obtain⟨y,hy,rfl⟩:=List.mem_map.1 hz
    obtain⟨x,hx,e1,e2⟩:=nY l [] 0 y hy
    have hx:=hx.resolve_left (by simp)
    refine⟨h1.1,x,hx,?_⟩
    rw[e1,e2];exact ht
 exact⟨h.nd,fun y hy=>(key y).1 hy,aMs h.nd (aAR _) key⟩
theorem Tie.build {l:List QL}{o:List Int}(h:Tie l o):lA (l.map QL.toL) o=some ⟨(aH l o o []).map NQ.toN⟩:=aPJ h.base h.gr h.isOrd
theorem Grounded.perm {l l':List QL}{o o':List Int}(h:Grounded l o)(h1:∀ x∈l,x∈l')(h2:∀ u∈o',u∈o):Grounded l' o':=by
 intro S hS h0
 obtain⟨u,hu,su⟩:=hS
 obtain⟨x,hx,hh⟩:=h S ⟨u,h2 u hu,su⟩ h0
 exact⟨x,h1 x hx,hh⟩
theorem Tie.perm {l l':List QL}{o o':List Int}(h:Tie l o)(hl:l'.Perm l)(ho:o'.Perm o):Tie l' o' where
 nd:=ho.nodup_iff.2 h.nd
 mem:=fun u=>by
  rw[ho.mem_iff,h.mem]
  constructor
  · rintro⟨h1,x,hx,ht⟩;exact⟨h1,x,hl.mem_iff.2 hx,ht⟩
  · rintro⟨h1,x,hx,ht⟩;exact⟨h1,x,hl.mem_iff.1 hx,ht⟩
 lk:=fun x hx=>h.lk x (hl.mem_iff.1 hx)
 len:=by rw[hl.length_eq];exact h.len
 gr:=h.gr.perm (fun x hx=>hl.mem_iff.2 hx) fun u hu=>ho.mem_iff.1 hu
theorem aJP {l:List QL}{o:List Int}(hl:∀ x∈l,0<=x.a/\x.a<x.b)(hm:∀ u,u∈o↔1<=u/\∃ x∈l,x.a=u\/x.b=u)(h:∀ u∈o,∃ x∈l,x.b=u):Grounded l o:=by
 intro S hS h0
 have key:∀ (n:Nat) (u:Int),u.toNat<=n->u∈o->S u->∃ x∈l,(S x.a/\¬S x.b)\/(S x.b/\¬S x.a):=by
  intro n
  induction n with
  | zero=>intro u hn hu _;have:=(hm u).1 hu;omega
  | succ n ih =>
   intro u hn hu su
   obtain⟨x,hx,e⟩:=h u hu
   have hx2:=hl x hx
   by_cases c:S x.a
   · refine ih x.a (by omega) ((hm _).2 ⟨?_,x,hx,.inl rfl⟩) c
     by_cases z:x.a=0
     · rw[z]at c;exact absurd c h0
     · omega
   · exact⟨x,hx,.inr ⟨e▸su,c⟩⟩
 obtain⟨u,hu,su⟩:=hS
 exact key u.toNat u (Nat.le_refl _) hu su
theorem aNf {n:Int}{l:List QL}{o:List Int}(h1:∀ x∈l,LkI x/\x.b<=n+1)(h2:l.length<=8)(h3:∀ k,1<=k->k<=n->∃ x∈l,x.b=k)(nd:o.Nodup)(hm:∀ u,u∈o↔1<=u/\∃ x∈l,x.a=u\/x.b=u):Tie l o where
 nd:=nd
 mem:=hm
 lk:=fun x hx=>(h1 x hx).1
 len:=h2
 gr:=aJP (fun x hx=>by have:=(h1 x hx).1.1;omega) hm fun u hu=>by
  obtain⟨g1,x,hx,ht⟩:=(hm u).1 hu
  by_cases c:u<=n
  · exact h3 u g1 c
  · have:=(h1 x hx)
    have g:=this.1.1
    refine⟨x,hx,by omega⟩
end Go.Ev
/- The cursor and what is drawn from it. -/
namespace Go.Ev
open IntKind
set_option linter.all false
theorem aHY (x:Int):0<=aAe .i64 x 255/\aAe .i64 x 255<=255:=by
 unfold aAe
 have h:(BitVec.ofInt (IntKind.bits .i64) x &&& BitVec.ofInt (IntKind.bits .i64) 255).toNat<=255:=by
  rw[BitVec.toNat_and]
  exact Nat.le_trans Nat.and_le_right (by decide)
 rw[wi (by omega)]
 omega
def pU (c:l01Cur):Prop:=c.fb.length<=1048576/\0<=c.fi/\c.fi<=1048577
theorem aOL (c:l01Cur)(h:pU c):∃ r,iF c=some r/\(0<=r.1/\r.1<=255)/\pU r.2/\r.2.fb=c.fb:=by
 obtain⟨h1,h2,h3⟩:=h
 unfold iF
 simp only[aO]
 by_cases hc:c.fi<(c.fb.length:Int)
 · rw[if_pos hc]
   have:=aK (l:=c.fb) (k:=c.fi.toNat) (by omega)
   rw[show((c.fi.toNat:Nat):Int)=c.fi by omega]at this
   rw[this]
   simp only[Option.bind_some]
   refine⟨_,rfl,aHY _,⟨h1,?_,?_⟩,rfl⟩
   · simp only[];rw[wi (by omega)];omega
   · simp only[];rw[wi (by omega)];omega
 · rw[if_neg hc]
   exact⟨_,rfl,aHY _,⟨h1,h2,h3⟩,rfl⟩
theorem sW (c:l01Cur)(n:Int)(h:pU c)(hn:1<=n/\n<=256):∃ r,cL c n=some r/\(0<=r.1/\r.1<n)/\pU r.2/\r.2.fb=c.fb:=by
 unfold cL
 rw[if_neg (by omega),if_pos (by omega)]
 obtain⟨r,e,g1,g2,g3⟩:=aOL c h
 rw[show(l01Cur.mk c.fb c.fi c.fh)=c from rfl,e]
 simp only[Option.bind_some]
 rw[aP (by omega)]
 refine⟨_,rfl,⟨Int.tmod_nonneg _ g1.1,Int.tmod_lt_of_pos _ (by omega)⟩,?_,rfl⟩
 unfold pU at g2 h ⊢
 simp only[]
 exact⟨h.1,g2.2⟩
theorem aP2 (code:List Int)(h:code.length<=1048576):∃ c,tF code=some c/\pU c/\c.fb=code:=by
 unfold tF
 simp only[aO]
 have main:∀ (m k:Nat) (v:Int),m+k=code.length->∃ d,lp (mM code) (v,(k:Int))=some d:=by
  intro m
  induction m with
  | zero =>
   intro k v hk
   exact⟨v,aL (by unfold mM;simp only[];rw[if_neg (by omega)];rfl)⟩
  | succ m ih =>
   intro k v hk
   have hlt:k<code.length:=by omega
   by_cases c:(k:Int)<4000
   · obtain⟨d,e⟩:=ih (k+1) (aAe .i64 (i64.wrap (i64.wrap (i64.wrap (v*59)+i64.wrap code[k])+7)) 1073741823) (by omega)
     refine⟨d,?_⟩
     rw[aS (s':=(aAe .i64 (i64.wrap (i64.wrap (i64.wrap (v*59)+i64.wrap code[k])+7)) 1073741823,((k+1:Nat):Int))),e]
     unfold mM
     simp only[]
     rw[if_pos (by omega),aK hlt]
     have w:i64.wrap ((k:Int)+1)=((k+1:Nat):Int):=by rw[wi (by omega)];omega
     simp only[Option.bind_some,decide_eq_true c,if_true,aO,w]
   · refine⟨v,aL ?_⟩
     unfold mM
     simp only[]
     rw[if_pos (by omega)]
     simp only[Option.bind_some,decide_eq_false c,Bool.false_eq_true,if_false]
 obtain⟨d,e⟩:=main code.length 0 (i64.wrap (1951+(code.length:Int))) (by omega)
 rw[show((0:Nat):Int)=0 from rfl]at e
 rw[e]
 exact⟨_,rfl,⟨h,by simp,by simp⟩,rfl⟩
end Go.Ev
/- Links that are drawn. -/
namespace Go.Ev
set_option linter.all false
theorem yT {fb:List Int}{c:l01Cur}(h:pU c)(e:c.fb=fb):pU ⟨fb,c.fi,c.fh⟩:=by
 subst e;exact h
def mkI (a b w x y:Int):QL:=⟨a,b,(w:Q),(x:Q),(y:Q)⟩
theorem aN5 {a b w x y:Int}(h:0<=a/\a<b/\b<=5)(hw:1<=w/\w<=9)(hx:-20<=x/\x<=20)(hy:-20<=y/\y<=20):LkI (mkI a b w x y):=⟨h,w,x,y,hw,hx,hy,rfl,rfl,rfl⟩
theorem aHG {a b w x y:Int}(ha:0<=a/\a<=5)(hb:0<=b/\b<=5)(hab:a≠b)(hw:1<=w/\w<=9)(hx:-20<=x/\x<=20)(hy:-20<=y/\y<=20) :
 ∃ k:QL,qZ a b w x y=some (k.toL,true)/\LkI k/\((k.a=a/\k.b=b)\/(k.a=b/\k.b=a)):=by
 unfold qZ
 simp only[aCh,zP,Option.bind_some]
 rw[decide_eq_true (show 0<=a/\a<=9 by omega),decide_eq_true (show 0<=b/\b<=9 by omega),decide_eq_true (show 1<=w/\w<=9999 by omega),decide_eq_true (show -1000000<=x/\x<=1000000 by omega),decide_eq_true (show -1000000<=y/\y<=1000000 by omega)]
 simp only[if_true,if_neg hab,Option.bind_some,Bool.not_true,Bool.false_eq_true,if_false]
 by_cases c:b<a
 · rw[if_pos c]
   simp only[Option.bind_some]
   rw[wi (n:=0-x) (by omega),wi (n:=0-y) (by omega),bS w (by omega),bS (0-x) (by omega),bS (0-y) (by omega),aBz (z:=w) (by omega),aBz (z:=0-x) (by omega),aBz (z:=0-y) (by omega)]
   exact⟨mkI b a w (0-x) (0-y),rfl,aN5 (by omega) hw (by omega) (by omega),.inr ⟨rfl,rfl⟩⟩
 · rw[if_neg c]
   simp only[Option.bind_some]
   rw[bS w (by omega),bS x (by omega),bS y (by omega),aBz (z:=w) (by omega),aBz (z:=x) (by omega),aBz (z:=y) (by omega)]
   exact⟨mkI a b w x y,rfl,aN5 (by omega) hw hx hy,.inl ⟨rfl,rfl⟩⟩
theorem aOA (c:l01Cur)(n:Int)(h:pU c)(hn:1<=n/\n<=5):∃ (k:QL) (c':l01Cur),qW c n=some (k.toL,c')/\pU c'/\c'.fb=c.fb/\LkI k/\k.b<=n:=by
 obtain⟨r1,a1,b1,c1,d1⟩:=sW ⟨c.fb,c.fi,c.fh⟩ n h (by omega)
 obtain⟨r2,a2,b2,c2,d2⟩:=sW ⟨c.fb,r1.2.fi,r1.2.fh⟩ n (yT c1 d1) (by omega)
 obtain⟨r3,a3,b3,c3,d3⟩:=sW ⟨c.fb,r2.2.fi,r2.2.fh⟩ 9 (yT c2 d2) (by omega)
 obtain⟨r4,a4,b4,c4,d4⟩:=sW ⟨c.fb,r3.2.fi,r3.2.fh⟩ 41 (yT c3 d3) (by omega)
 obtain⟨r5,a5,b5,c5,d5⟩:=sW ⟨c.fb,r4.2.fi,r4.2.fh⟩ 41 (yT c4 d4) (by omega)
 have pick:∃ v:Int,((if(r1.1=r2.1)then(chk (IntKind.i64.wrap (n+1)≠0)).bind fun _u=>(bE ((IntKind.i64.wrap (r1.1+1)).tmod (IntKind.i64.wrap (n+1)))).bind fun v4=>some v4 else some r2.1):Option Int)=some v/\(0<=v/\v<=n)/\r1.1≠v:=by
  by_cases e:r1.1=r2.1
  · rw[if_pos e,wi (n:=n+1) (by omega),wi (n:=r1.1+1) (by omega),aP (by omega)]
    simp only[Option.bind_some,aO]
    refine⟨_,rfl,?_⟩
    rw[Int.tmod_eq_of_lt (by omega) (by omega)];omega
  · rw[if_neg e];exact⟨_,rfl,by omega,e⟩
 obtain⟨v,ev,hv,hne⟩:=pick
 obtain⟨k,ek,hk,hk2⟩:=aHG (a:=r1.1) (b:=v) (w:=1+r3.1) (x:=r4.1-20) (y:=r5.1-20) (by omega) (by omega) hne (by omega) (by omega) (by omega)
 refine⟨k,⟨c.fb,r5.2.fi,r5.2.fh⟩,?_,yT c5 d5,rfl,hk,by omega⟩
 unfold qW
 rw[a1];simp only[Option.bind_some]
 rw[a2];simp only[Option.bind_some]
 rw[ev];simp only[Option.bind_some]
 rw[a3];simp only[Option.bind_some]
 rw[a4];simp only[Option.bind_some]
 rw[a5];simp only[Option.bind_some]
 rw[wi (n:=1+r3.1) (by omega),wi (n:=r4.1-20) (by omega),wi (n:=r5.1-20) (by omega),ek]
 rfl
structure LinkL (n:Int)(l:List QL):Prop where
 each:∀ x∈l,LkI x/\x.b<=n+1
 len:l.length<=7
 all:∀ k,1<=k->k<=n->∃ x∈l,x.b=k
theorem aRs (c:l01Cur)(n:Int)(hn:1<=n/\n<=4):∀ (m k:Nat) (l:List QL) (fi fh:Int),(m:Int)+k=n+1->1<=k->pU ⟨c.fb,fi,fh⟩->l.length=k-1->(∀ x∈l,LkI x/\x.b<=n)->(∀ j:Int,1<=j->j<k->∃ x∈l,x.b=j)->
 ∃ (l':List QL) (fi' fh':Int),lp (lE c n) ((k:Int),l.map QL.toL,fi,fh)=some (l'.map QL.toL,fi',fh')/\pU ⟨c.fb,fi',fh'⟩/\(l'.length:Int)=n/\(∀ x∈l',LkI x/\x.b<=n)/\∀ j:Int,1<=j->j<=n->∃ x∈l',x.b=j:=by
 intro m
 induction m with
 | zero =>
  intro k l fi fh hm hk hc hl he ha
  refine⟨l,fi,fh,aL ?_,hc,by omega,he,fun j h1 h2=>ha j h1 (by omega)⟩
  unfold lE
  simp only[]
  rw[if_neg (by omega)]
 | succ m ih =>
  intro k l fi fh hm hk hc hl he ha
  obtain⟨r1,a1,b1,c1,d1⟩:=sW ⟨c.fb,fi,fh⟩ k hc (by omega)
  obtain⟨r2,a2,b2,c2,d2⟩:=sW ⟨c.fb,r1.2.fi,r1.2.fh⟩ 9 (yT c1 d1) (by omega)
  obtain⟨r3,a3,b3,c3,d3⟩:=sW ⟨c.fb,r2.2.fi,r2.2.fh⟩ 41 (yT c2 d2) (by omega)
  obtain⟨r4,a4,b4,c4,d4⟩:=sW ⟨c.fb,r3.2.fi,r3.2.fh⟩ 41 (yT c3 d3) (by omega)
  obtain⟨q,eq,hq,hq2⟩:=aHG (a:=r1.1) (b:=k) (w:=1+r2.1) (x:=r3.1-20) (y:=r4.1-20) (by omega) (by omega) (by omega) (by omega) (by omega) (by omega)
  have hqb:q.b=k:=by have:=hq.1;omega
  have st:lE c n ((k:Int),l.map QL.toL,fi,fh)=some (.inl (((k+1:Nat):Int),(l++[q]).map QL.toL,r4.2.fi,r4.2.fh)):=by
   unfold lE
   simp only[]
   rw[if_pos (by omega),a1]
   simp only[Option.bind_some]
   rw[a2]
   simp only[Option.bind_some]
   rw[a3]
   simp only[Option.bind_some]
   rw[a4]
   simp only[Option.bind_some]
   rw[wi (n:=1+r2.1) (by omega),wi (n:=r3.1-20) (by omega),wi (n:=r4.1-20) (by omega),eq]
   simp only[Option.bind_some]
   rw[aP (by rw[List.length_map];omega),wi (n:=(k:Int)+1) (by omega)]
   simp only[Option.bind_some,aO,List.map_append,List.map_cons,List.map_nil]
   rfl
  rw[aS st]
  refine ih (k+1) (l++[q]) r4.2.fi r4.2.fh (by omega) (by omega) (yT c4 d4) (by rw[List.length_append,List.length_singleton];omega) (fun x hx=>?_) (fun j h1 h2=>?_)
  · rcases List.mem_append.1 hx with hx | hx
    · exact he x hx
    · simp at hx;subst hx;exact⟨hq,by omega⟩
  · by_cases e:j=k
    · exact⟨q,by simp,by omega⟩
    · obtain⟨x,hx,h⟩:=ha j h1 (by omega)
      exact⟨x,by simp[hx],h⟩
theorem aRr (c:l01Cur)(n:Int)(hn:1<=n/\n<=4):∀ (m:Nat) (l:List QL) (fi fh:Int),pU ⟨c.fb,fi,fh⟩->l.length+m<=7->(∀ x∈l,LkI x/\x.b<=n+1)->
 ∃ (l':List QL) (fi' fh':Int),lp (lD c n) ((m:Int),l.map QL.toL,fi,fh)=some ((l++l').map QL.toL,fi',fh')/\pU ⟨c.fb,fi',fh'⟩/\(l++l').length<=7/\∀ x∈l++l',LkI x/\x.b<=n+1:=by
 intro m
 induction m with
 | zero =>
  intro l fi fh hc hl he
  refine⟨[],fi,fh,aL ?_,hc,by simpa using hl,by simpa using he⟩
  unfold lD
  simp only[]
  rw[if_neg (by omega),List.append_nil]
 | succ m ih =>
  intro l fi fh hc hl he
  obtain⟨q,c',a1,a2,a3,a4,a5⟩:=aOA ⟨c.fb,fi,fh⟩ (n+1) hc (by omega)
  have st:lD c n (((m+1:Nat):Int),l.map QL.toL,fi,fh)=some (.inl ((m:Int),(l++[q]).map QL.toL,c'.fi,c'.fh)):=by
   unfold lD
   simp only[]
   rw[if_pos (by omega),wi (n:=n+1) (by omega),a1]
   simp only[Option.bind_some]
   rw[aP (by rw[List.length_map];omega),wi (n:=((m+1:Nat):Int)-1) (by omega)]
   simp only[Option.bind_some,aO,List.map_append,List.map_cons,List.map_nil]
   rw[show((m+1:Nat):Int)-1=(m:Int)by omega]
  rw[aS st]
  obtain⟨l',fi',fh',g1,g2,g3,g4⟩:=ih (l++[q]) c'.fi c'.fh (yT a2 a3) (by rw[List.length_append,List.length_singleton];omega) (fun x hx=>by
   rcases List.mem_append.1 hx with hx | hx
   · exact he x hx
   · simp at hx;subst hx;exact⟨a4,a5⟩)
  have e:l++[q]++l'=l++(q::l'):=by simp
  rw[e]at g1 g3 g4
  exact⟨q::l',fi',fh',g1,g2,g3,g4⟩
theorem aQE (c:l01Cur)(n:Int)(h:pU c)(hn:1<=n/\n<=4):∃ (l:List QL) (c':l01Cur),tT c n=some (l.map QL.toL,c')/\pU c'/\c'.fb=c.fb/\LinkL n l:=by
 obtain⟨l1,f1,g1,e1,o1,n1,h1,a1⟩:=aRs c n hn n.toNat 1 [] c.fi c.fh (by omega) (by omega) h rfl (by simp) (fun j h1 h2=>by omega)
 obtain⟨r,e2,b2,o2,d2⟩:=sW ⟨c.fb,f1,g1⟩ 4 o1 (by omega)
 obtain⟨l2,f3,g3,e3,o3,n3,h3⟩:=aRr c n hn r.1.toNat l1 r.2.fi r.2.fh (yT o2 d2) (by omega) (fun x hx=>⟨(h1 x hx).1,by have:=(h1 x hx).2;omega⟩)
 refine⟨l1++l2,⟨c.fb,f3,g3⟩,?_,o3,rfl,⟨h3,n3,fun k k1 k2=>?_⟩⟩
 · unfold tT
   rw[show((1:Nat):Int)=1 from rfl,List.map_nil]at e1
   rw[e1]
   simp only[Option.bind_some]
   rw[e2]
   simp only[Option.bind_some]
   rw[show((r.1.toNat:Nat):Int)=r.1 by omega]at e3
   rw[e3]
   rfl
 · obtain⟨x,hx,e⟩:=a1 k k1 k2
   exact⟨x,by simp[hx],e⟩
end Go.Ev
/- Is it a tree, both programs, and the law. -/
namespace Go.Ev
set_option linter.all false
def dI (t:Tree):List Int:=t.fNodes.map (·.fNode)
theorem aLv (a b:Tree)(h:fO a<=4294967296):sN a b=some (decide (a=b)):=by
 unfold fO iE at h
 have hl:=eT bK a.fNodes
 obtain⟨a⟩:=a
 obtain⟨b⟩:=b
 simp only[]at h hl
 unfold sN
 by_cases hn:a.length=b.length
 · rw[if_neg (by simp only[];omega),aID a b hn (fun k ha hb=>by
    have he:=mG (w:=bK) (List.getElem_mem ha)
    unfold rM
    simp only[]
    rw[if_pos (by omega),aK ha,aK hb,wi (by omega)]
    simp only[Option.bind_some]
    rw[aBv _ _ (by omega)]
    by_cases c:a[k]=b[k] <;> simp[c]) (by unfold rM;simp only[];rw[if_neg (by omega)])]
   by_cases c:a=b <;> simp[c]
 · rw[if_pos (by simp only[];omega)]
   have:a≠b:=by rintro rfl;exact hn rfl
   simp[this]
def iJ (t:Tree):Prop:=lA (bP t.fNodes) (dI t)=some t
noncomputable instance (t:Tree):Decidable (iJ t):=Classical.propDecidable _
end Go.Ev
/- Paths of a tree end: what a tree's node hands up lies later in the order. -/
namespace Go.Ev
set_option linter.all false
def pr (s:List Link)(x y:Int):Prop:=∃ l∈s,l.fA=x/\l.fB=y
theorem aBB {a b:List Link}{x y:Int}:pr (a++b) x y↔pr a x y\/pr b x y:=by
 unfold pr
 constructor
 · rintro⟨l,h,e⟩
   rcases List.mem_append.1 h with h | h
   · exact .inl ⟨l,h,e⟩
   · exact .inr ⟨l,h,e⟩
 · rintro(⟨l,h,e⟩ | ⟨l,h,e⟩)
   · exact⟨l,List.mem_append_left _ h,e⟩
   · exact⟨l,List.mem_append_right _ h,e⟩
theorem aE1 {a:List Link}{l:Link}{x y:Int}:pr (l::a) x y↔(l.fA=x/\l.fB=y)\/pr a x y:=by
 unfold pr;simp only[List.mem_cons,exists_eq_or_imp]
theorem aKC {x y:Int}:¬pr [] x y:=by rintro⟨l,h,_⟩;cases h
theorem aPO {s:List Link}{l:Link}{s':List Link}{e:Rat}(h:aBa s l=some (s',e))(x y:Int):pr s' x y↔pr s x y\/(l.fA=x/\l.fB=y):=by
 have ins:∀ p,pr (s.take p++[l]++s.drop p) x y↔pr s x y\/(l.fA=x/\l.fB=y):=by
  intro p
  have e1:pr s x y↔pr (s.take p) x y\/pr (s.drop p) x y:=by rw[<- aBB,List.take_append_drop]
  rw[e1,List.append_assoc,aBB,List.singleton_append,aE1]
  constructor
  · rintro(h | h | h)
    · exact .inl (.inl h)
    · exact .inr h
    · exact .inl (.inr h)
  · rintro((h | h) | h)
    · exact .inl h
    · exact .inr (.inr h)
    · exact .inr (.inl h)
 unfold aBa at h
 by_cases c:eG l s<s.length
 · rw[dif_pos c]at h
   by_cases c2:fH l s[eG l s]
   · rw[if_pos c2]at h;cases h;exact ins _
   · rw[if_neg c2]at h
     have nl:=aCa l s c
     have hA:s[eG l s].fA=l.fA/\s[eG l s].fB=l.fB:=by unfold fH at c2 nl;omega
     by_cases O:zM s[eG l s] l
     · rw[if_pos O]at h;cases h
       have e1:pr s x y↔pr (s.take (eG l s)) x y\/((s[eG l s].fA=x/\s[eG l s].fB=y)\/pr (s.drop (eG l s+1)) x y):=by
        rw[<- aE1,<- List.drop_eq_getElem_cons c,<- aBB,List.take_append_drop]
       rw[e1,List.append_assoc,aBB,List.singleton_append,aE1]
       have e2:(aBk s[eG l s] l).fA=s[eG l s].fA:=rfl
       have e3:(aBk s[eG l s] l).fB=s[eG l s].fB:=rfl
       rw[e2,e3,hA.1,hA.2]
       constructor
       · rintro(h | h | h)
         · exact .inl (.inl h)
         · exact .inr h
         · exact .inl (.inr (.inr h))
       · rintro((h | h | h) | h)
         · exact .inl h
         · exact .inr (.inl h)
         · exact .inr (.inr h)
         · exact .inr (.inl h)
     · rw[if_neg O]at h;cases h
 · rw[dif_neg c]at h;cases h;exact ins _
theorem aJM:∀ (l s:List Link) (e:Rat) (s':List Link) (e':Rat),uU l s e=some (s',e')->∀ x y,pr s' x y↔pr s x y\/pr l x y
 | [],s,e,s',e',h,x,y=>by
  rw[uU]at h;cases h
  exact⟨.inl,fun h=>h.elim id (fun h=>(aKC h).elim)⟩
 | a::r,s,e,s',e',h,x,y=>by
  rw[uU]at h
  cases ha:aBa s a with
  | none=>rw[ha]at h;cases h
  | some t =>
   obtain⟨s1,e1⟩:=t
   rw[ha]at h
   simp only[]at h
   by_cases c:bO (RA e e1)
   · rw[if_pos c]at h
     rw[aJM r s1 _ s' e' h x y,aPO ha,aE1,or_assoc]
   · rw[if_neg c]at h;cases h
theorem aGj {l s:List Link}{e:Rat}(h:jnP l=some (s,e))(x y:Int):pr s x y↔pr l x y:=by
 unfold jnP at h
 by_cases c:∀ x∈l,ValidL x
 · rw[if_pos c]at h
   rw[aJM l [] _ s e h x y]
   exact⟨fun h=>h.elim (fun h=>(aKC h).elim) id,.inr⟩
 · rw[if_neg c]at h;cases h
def adj (s:List Link)(x y:Int):Prop:=pr s x y\/pr s y x
def en (s:List Link)(x:Int):Prop:=∃ y,adj s x y
theorem aLN (t:Rat){x y:Int}:∀ {a:List l08Arm},(a.map (·.fnode)).Pairwise (· < ·)->(pr (gX t a) x y↔x∈a.map (·.fnode)/\y∈a.map (·.fnode)/\x<y)
 | [],_=>⟨fun h=>(aKC h).elim,fun h=>by cases h.1⟩
 | b::r,hp=>by
  rw[List.map_cons,List.pairwise_cons]at hp
  rw[gX,aBB,aLN t hp.2,List.map_cons]
  have e1:pr (r.map (tG t b)) x y↔x=b.fnode/\y∈r.map (·.fnode):=by
   constructor
   · rintro⟨l,hl,h1,h2⟩
     obtain⟨z,hz,rfl⟩:=List.mem_map.1 hl
     exact⟨h1.symm,List.mem_map.2 ⟨z,hz,h2⟩⟩
   · rintro⟨rfl,h⟩
     obtain⟨z,hz,rfl⟩:=List.mem_map.1 h
     exact⟨tG t b z,List.mem_map.2 ⟨z,hz,rfl⟩,rfl,rfl⟩
  rw[e1,List.mem_cons,List.mem_cons]
  constructor
  · rintro(⟨rfl,h⟩ | ⟨h1,h2,h3⟩)
    · exact⟨.inl rfl,.inr h,hp.1 y h⟩
    · exact⟨.inr h1,.inr h2,h3⟩
  · rintro⟨h1,h2,h3⟩
    rcases h1 with rfl | h1
    · rcases h2 with rfl | h2
      · omega
      · exact .inl ⟨rfl,h2⟩
    · rcases h2 with rfl | h2
      · have:=hp.1 x h1;omega
      · exact .inr ⟨h1,h2,h3⟩
theorem aLA {v:Int}{s:List Link}(hs:LSet s){c:Conditional}{m:List Link}{f:Rat}(h:aBy v s=some (c,m,f)) :
 (∀ p,p∈xF c↔adj s p v)/\∀ x y,pr m x y↔(pr s x y/\x≠v/\y≠v)\/(x∈xF c/\y∈xF c/\x<y):=by
 unfold aBy at h
 cases h1:wV v s with
 | none=>rw[h1]at h;cases h
 | some u =>
  rw[h1]at h
  cases h2:jnP (wL v s++u.2)with
  | none=>rw[Option.bind_some,h2]at h;cases h
  | some w =>
   rw[Option.bind_some,h2]at h
   cases h
   unfold wV at h1
   split at h1
   · cases h1
     have hn:xF (aAA v (bN v s))=(bN v s).map (·.fnode):=by unfold xF aAA;rw[List.map_map];rfl
     have hp:∀ p,p∈xF (aAA v (bN v s))↔adj s p v:=by
      intro p
      rw[hn]
      unfold bN
      rw[List.map_map]
      simp only[List.mem_map,List.mem_filter,Function.comp]
      constructor
      · rintro⟨l,⟨hl,ht⟩,rfl⟩
        rw[aA9]
        unfold sE tch at *
        have ht:=of_decide_eq_true ht
        split
        · rename_i e;exact .inr ⟨l,hl,e,rfl⟩
        · rename_i e;exact .inl ⟨l,hl,rfl,ht.resolve_left e⟩
      · rintro(⟨l,hl,e1,e2⟩ | ⟨l,hl,e1,e2⟩)
        · have:=(hs.1 l hl).2.2.1
          refine⟨l,⟨hl,by unfold tch;simp[e2]⟩,?_⟩
          rw[aA9];unfold sE
          rw[if_neg (by omega)];exact e1
        · refine⟨l,⟨hl,by unfold tch;simp[e1]⟩,?_⟩
          rw[aA9];unfold sE
          rw[if_pos e1];exact e2
     refine⟨hp,fun x y=>?_⟩
     rw[aGj (s:=w.1) (e:=w.2) h2,aBB,aLN _ (aHZ hs v),<- hn]
     have hr:pr (wL v s) x y↔pr s x y/\x≠v/\y≠v:=by
      unfold wL pr
      simp only[List.mem_filter,tch,Bool.not_eq_true',decide_eq_false_iff_not]
      constructor
      · rintro⟨l,⟨hl,hn⟩,rfl,rfl⟩
        exact⟨⟨l,hl,rfl,rfl⟩,fun e=>hn (.inl e),fun e=>hn (.inr e)⟩
      · rintro⟨⟨l,hl,rfl,rfl⟩,a,b⟩
        exact⟨l,⟨hl,fun h=>h.elim a b⟩,rfl,rfl⟩
     rw[hr]
   · cases h1
structure PathN (o:List Int)(n:TreeNode):Prop where
 near:∀ x,en n.fMessages x->x∈xF n.fCond
 clq:∀ x y,x∈xF n.fCond->y∈xF n.fCond->x<y->pr n.fMessages x y
 late:∀ i (h:i<o.length),o[i]=n.fNode->∀ p∈xF n.fCond,p∉o.take (i+1)
theorem aDX {v:Int}{b:List TreeNode}{x y:Int}:pr (xG v b) x y↔∃ n∈b,n.fUp=v/\pr n.fMessages x y:=by
 unfold pr xG
 constructor
 · rintro⟨l,hl,e⟩
   obtain⟨n,hn,h⟩:=List.mem_flatMap.1 hl
   obtain⟨h1,h2⟩:=List.mem_filter.1 hn
   exact⟨n,h1,of_decide_eq_true h2,l,h,e⟩
 · rintro⟨n,h1,h2,l,h,e⟩
   exact⟨l,List.mem_flatMap.2 ⟨n,List.mem_filter.2 ⟨h1,by simp[h2]⟩,h⟩,e⟩
theorem aKM {s:List Link}{o:List Int}(hn:o.Nodup)(h1:∀ u∈o,1<=u){k:Nat}(hk:k<o.length){b:List TreeNode}(hb:∀ n∈b,NodeOk s o n/\PathN o n){n:TreeNode}(h:mO o o[k] (s.filter (mA o o[k])) b=some n):PathN o n:=by
 have hv:=h1 _ (List.getElem_mem hk)
 unfold mO at h
 cases e1:jnP (s.filter (mA o o[k])++xG o[k] b)with
 | none=>rw[e1]at h;cases h
 | some u =>
  obtain⟨j,e⟩:=u
  rw[e1,Option.bind_some]at h
  cases e2:aBy o[k] j with
  | none=>rw[e2]at h;cases h
  | some w =>
   obtain⟨c,m,f⟩:=w
   rw[e2,Option.bind_some]at h
   split at h
   · cases h
     obtain⟨_,hs,_⟩:=aA2 e1
     obtain⟨hp,hm⟩:=aLA hs e2
     have hj:∀ x y,pr j x y↔pr (s.filter (mA o o[k])) x y\/pr (xG o[k] b) x y:=fun x y=>by rw[aGj e1,aBB]
     have up:∀ n∈b,n.fUp=o[k]->aQ o (xF n.fCond)=o[k]:=fun n hn hu=>by rw[<- hu,(hb n hn).1.2.2.2.2];rfl
     have nb:∀ x,en j x->x≠o[k]->adj j x o[k]:=by
      rintro x ⟨y,hxy⟩ hx
      have own:∀ x y,pr (s.filter (mA o o[k])) x y->(x=o[k]\/y=o[k]):=by
       rintro x y ⟨l,hl,rfl,rfl⟩
       have:=(vK (of_decide_eq_true (List.mem_filter.1 hl).2) (by omega)).1
       simp only[List.mem_cons,List.not_mem_nil,or_false]at this
       exact this.elim (fun h=>.inl h.symm) (fun h=>.inr h.symm)
      have msg:∀ x,(∃ y,adj (xG o[k] b) x y)->x≠o[k]->adj j x o[k]:=by
       rintro x ⟨y,h⟩ hx
       have:∃ n∈b,n.fUp=o[k]/\en n.fMessages x:=by
        rcases h with h | h
        · obtain⟨n,a,b,c⟩:=aDX.1 h;exact⟨n,a,b,y,.inl c⟩
        · obtain⟨n,a,b,c⟩:=aDX.1 h;exact⟨n,a,b,y,.inr c⟩
       obtain⟨n,hn,hu,he⟩:=this
       have px:=(hb n hn).2.near x he
       have pv:=(vK (up n hn hu) (by omega)).1
       rcases Int.lt_or_gt_of_ne hx with hlt | hlt
       · exact .inl ((hj _ _).2 (.inr (aDX.2 ⟨n,hn,hu,(hb n hn).2.clq _ _ px pv hlt⟩)))
       · exact .inr ((hj _ _).2 (.inr (aDX.2 ⟨n,hn,hu,(hb n hn).2.clq _ _ pv px hlt⟩)))
      rcases hxy with h | h
      · rcases(hj _ _).1 h with g | g
        · rcases own _ _ g with e | e
          · exact absurd e hx
          · rw[e]at h;exact .inl h
        · exact msg x ⟨y,.inl g⟩ hx
      · rcases(hj _ _).1 h with g | g
        · rcases own _ _ g with e | e
          · rw[e]at h;exact .inr h
          · exact absurd e hx
        · exact msg x ⟨y,.inr g⟩ hx
     refine⟨?_,fun x y hx hy hxy=>(hm x y).2 (.inr ⟨hx,hy,hxy⟩),?_⟩
     · rintro x ⟨y,h | h⟩
       · rcases(hm x y).1 h with⟨g,a,_⟩ | ⟨g,_⟩
         · exact(hp x).2 (nb x ⟨y,.inl g⟩ a)
         · exact g
       · rcases(hm y x).1 h with⟨g,_,a⟩ | ⟨_,g,_⟩
         · exact(hp x).2 (nb x ⟨y,.inr g⟩ a)
         · exact g
     · intro i hi hio p hpp hpt
       have hik:i=k:=by
        have:=(List.getElem_inj hn).1 (show o[i]=o[k]from hio);exact this
       subst hik
       have ha:=(hp p).1 hpp
       have hne:p≠o[i]:=by
        rintro rfl
        rcases ha with⟨l,hl,a,b⟩ | ⟨l,hl,a,b⟩ <;> (have:=(hs.1 l hl).2.2.1;omega)
       have hpt:p∈o.take i:=by
        rw[List.take_add_one,List.getElem?_eq_getElem hi]at hpt
        rcases List.mem_append.1 hpt with h | h
        · exact h
        · exact absurd (by simpa using h) hne
       have key:∀ x y,pr j x y->(x=p\/y=p)->False:=by
        intro x y h hxy
        rcases(hj x y).1 h with⟨l,hl,rfl,rfl⟩ | h
        · have:=((aCZ hi hn h1).1 (of_decide_eq_true (List.mem_filter.1 hl).2)).2 p hpt
          simp only[List.mem_cons,List.not_mem_nil,or_false,not_or]at this
          rcases hxy with e | e
          · exact this.1 e.symm
          · exact this.2 e.symm
        · obtain⟨n,hn',hu,g⟩:=aDX.1 h
          refine((aCZ hi hn h1).1 (up n hn' hu)).2 p hpt ((hb n hn').2.near p ?_)
          rcases hxy with rfl | rfl
          · exact⟨y,.inl g⟩
          · exact⟨x,.inr g⟩
       rcases ha with h | h
       · exact key _ _ h (.inl rfl)
       · exact key _ _ h (.inr rfl)
   · cases h
theorem aFg {s:List Link}{o:List Int}(hn:o.Nodup)(h1:∀ u∈o,1<=u):∀ m k:Nat,m+k=o.length->∀ b b':List TreeNode,(∀ n∈b,NodeOk s o n/\PathN o n)->oG s o (o.drop k) b=some b'->∀ n∈b',NodeOk s o n/\PathN o n:=by
 intro m
 induction m with
 | zero =>
  intro k hk b b' hb h
  rw[List.drop_eq_nil_of_le (by omega),oG]at h
  cases h;exact hb
 | succ m ih =>
  intro k hk b b' hb h
  have hlt:k<o.length:=by omega
  rw[List.drop_eq_getElem_cons hlt,oG]at h
  cases e:mO o o[k] (s.filter (mA o o[k])) b with
  | none=>rw[e]at h;cases h
  | some n =>
   rw[e,Option.bind_some]at h
   refine ih (k+1) (by omega) (b++[n]) b' (fun x hx=>?_) h
   rcases List.mem_append.1 hx with hx | hx
   · exact hb x hx
   · rw[List.mem_singleton.1 hx];exact⟨(aFQ e).1,aKM hn h1 hlt hb e⟩
theorem vU {t:Tree}(ht:iJ t):t.fNodes.length<=9/\∀ k (hk:k<t.fNodes.length) j,atN t (t.fNodes[k]).fUp=some j->k<j/\j<t.fNodes.length:=by
 unfold iJ lA at ht
 cases h:jnP (bP t.fNodes)with
 | none=>rw[h]at ht;cases ht
 | some x =>
  rw[h,Option.bind_some]at ht
  by_cases c:isOrd x.1 (dI t)
  · rw[if_pos c]at ht
    obtain⟨l9,h1⟩:=aAy c
    cases g:oG (bP t.fNodes) (dI t) (dI t) []with
    | none=>rw[g]at ht;cases ht
    | some b =>
     rw[g]at ht
     have hb : b = t.fNodes := by have : Tree.mk b = t := by simpa using ht
                                  rw[<- this]
     subst hb
     have hp:=aFg c.1 h1 (dI t).length 0 (by omega) [] t.fNodes (by simp) (by rw[List.drop_zero];exact g)
     have hl:(dI t).length=t.fNodes.length:=by unfold dI;rw[List.length_map]
     refine⟨by omega,fun k hk j hj=>?_⟩
     unfold atN at hj
     rw[List.findIdx?_eq_some_iff_getElem]at hj
     obtain⟨hjl,he,_⟩:=hj
     refine⟨?_,hjl⟩
     have he:=of_decide_eq_true he
     obtain⟨ok,pn⟩:=hp _ (List.getElem_mem hk)
     have hu:(t.fNodes[k]).fUp=aQ (dI t) (xF (t.fNodes[k]).fCond):=ok.2.2.2.2
     have hoj:(dI t)[j]'(by omega)=(t.fNodes[j]).fNode:=by simp[dI]
     have hok:(dI t)[k]'(by omega)=(t.fNodes[k]).fNode:=by simp[dI]
     have hju:=h1 _ (List.getElem_mem (by omega:j<(dI t).length))
     have hm:=(vK hu.symm (by omega)).1
     have nt:=pn.late k (by omega) hok _ hm
     apply Decidable.byContradiction
     intro hle
     apply nt
     rw[<- he,<- hoj]
     exact List.mem_iff_getElem.2 ⟨j,by rw[List.length_take];omega,by rw[List.getElem_take]⟩
  · rw[if_neg c]at ht;cases ht
end Go.Ev
/- Trees in another order, and the nodes that a change affects: both programs, and the laws. -/
namespace Go.Ev
set_option linter.all false
theorem aGq (d:List Int):∀ (l:List TreeNode) (u:List Int),l.foldl (fun u n=>if n.fNode∈d then u++[n.fNode]else u) u=u++(l.map (·.fNode)).filter (fun x=>decide (x∈d))
 | [],u=>by simp
 | n::l,u=>by
  rw[List.foldl_cons,aGq d l,List.map_cons,List.filter_cons]
  by_cases c:n.fNode∈d <;> simp[c]
end Go.Ev
/- The law of building a tree; inserting a link, both programs, and the law. -/
namespace Go.Ev
set_option linter.all false
def oP (o:List Int)(l:Link):List Int:=[l.fA,l.fB].filter (fun y=>decide (0<y/\y∉o))
theorem aN0 (o:List Int)(l:Link):(oP o l).length<=2:=List.length_filter_le _ _
theorem aMu (o:List Int)(l:Link):oP o l=(if 0<l.fA/\l.fA∉o then [l.fA]else [])++(if 0<l.fB/\l.fB∉o then [l.fB]else []):=by
 unfold oP
 rw[List.filter_cons,List.filter_cons,List.filter_nil]
 by_cases a:0<l.fA/\l.fA∉o <;> by_cases b:0<l.fB/\l.fB∉o <;> simp[a,b]
theorem aJ9 {t:Tree}{v:Int}:atN t v=none↔v∉dI t:=by
 unfold atN dI
 rw[List.findIdx?_eq_none_iff]
 simp only[decide_eq_false_iff_not,List.mem_map,not_exists,not_and]
theorem zQ (t:Tree)(v:Int)(h:t.fNodes.length<=4294967296):(jR t v).bind (fun r=>some (decide (r<0)))=some (decide (v∉dI t)):=by
 rw[aCi t v h,Option.bind_some]
 cases e:atN t v with
 | none=>simp[aJ9.1 e]
 | some k =>
  have:¬v∉dI t:=fun h=>by rw[aJ9.2 h]at e;cases e
  simp only[Int.not_lt.2 (Int.natCast_nonneg k),decide_false,this]
theorem aMt (t:Tree)(ht:t.fNodes.length<=4294967296)(l:Link)(hv:ValidL l)(o u:List Int)(ho:o.length<=4194304)(hu:u.length<=4194304):lp (cU t l) (0,o,u)=some (o++oP (dI t) l,u++oP (dI t) l):=by
 rw[aMu]
 have hA0:=hv.1.1
 have hB0:=hv.2.1.1
 have s3:∀ o u,cU t l (2,o,u)=some (.inr (o,u)):=by
  intro o u
  unfold cU
  simp
 have hB:∀ (o u:List Int),o.length<=4194305->u.length<=4194305->lp (cU t l) (1,o,u)=some (o++(if 0<l.fB/\l.fB∉dI t then [l.fB]else []),u++(if 0<l.fB/\l.fB∉dI t then [l.fB]else [])):=by
  intro o u ho hu
  by_cases c:0<l.fB/\l.fB∉dI t
  · rw[aS (s':=(2,o++[l.fB],u++[l.fB])),aL (s3 _ _),if_pos c]
    unfold cU
    simp only[]
    rw[if_pos (by simp),show idx [l.fA,l.fB] 1=some l.fB from rfl]
    simp only[Option.bind_some]
    rw[if_pos (by omega),zQ t _ ht,decide_eq_true c.2]
    simp only[Option.bind_some,if_true]
    rw[aP (by omega)]
    simp only[Option.bind_some,aO]
    rw[aP (by omega)];rfl
  · rw[aS (s':=(2,o,u)),aL (s3 _ _),if_neg c,List.append_nil,List.append_nil]
    unfold cU
    simp only[]
    rw[if_pos (by simp),show idx [l.fA,l.fB] 1=some l.fB from rfl]
    simp only[Option.bind_some]
    by_cases d:0<l.fB
    · have:¬l.fB∉dI t:=fun h=>c ⟨d,h⟩
      rw[if_pos (by omega),zQ t _ ht,decide_eq_false this];rfl
    · rw[if_neg (by omega)];rfl
 by_cases c:0<l.fA/\l.fA∉dI t
 · rw[aS (s':=(1,o++[l.fA],u++[l.fA])),hB _ _ (by simp;omega) (by simp;omega),if_pos c]
   · simp only[List.append_assoc]
   · unfold cU
     simp only[]
     rw[if_pos (by simp),show idx [l.fA,l.fB] 0=some l.fA from rfl]
     simp only[Option.bind_some]
     rw[if_pos (by omega),zQ t _ ht,decide_eq_true c.2]
     simp only[Option.bind_some,if_true]
     rw[aP (by omega)]
     simp only[Option.bind_some,aO]
     rw[aP (by omega)];rfl
 · rw[aS (s':=(1,o,u)),hB _ _ (by omega) (by omega),if_neg c]
   · simp
   · unfold cU
     simp only[]
     rw[if_pos (by simp),show idx [l.fA,l.fB] 0=some l.fA from rfl]
     simp only[Option.bind_some]
     by_cases d:0<l.fA
     · have:¬l.fA∉dI t:=fun h=>c ⟨d,h⟩
       rw[if_pos (by omega),zQ t _ ht,decide_eq_false this];rfl
     · rw[if_neg (by omega)];rfl
def pkI:Option (Tree×List Int)->Tree×List Int×Bool
 | some (u,a)=>(u,a,true)
 | none=>(Tree.mk [],[],false)
end Go.Ev
/- Cliques: their nodes in order. -/
set_option linter.all false
namespace Go.Ev
set_option linter.all false
end Go.Ev
/- Deleting a link, both programs, and the law. -/
namespace Go.Ev
set_option linter.all false
noncomputable def atL (s:List Link)(l:Link):Nat:=(s.takeWhile (fun x=>decide (x≠l))).length
theorem aGH (x:Link)(s:List Link)(l:Link):atL (x::s) l=if x=l then 0 else atL s l+1:=by
 unfold atL
 rw[List.takeWhile_cons]
 by_cases c:x=l <;> simp[c]
theorem aOR {step:Int->Option (Int ⊕ Int)}(s:List Link)(l:Link)(h1:∀ (k:Nat) (hk:k<s.length),step (k:Int)=some (if s[k]=l then .inr (k:Int)else .inl ((k+1:Nat):Int)))(h2:step (s.length:Int)=some (.inr (s.length:Int))):lp step 0=some ((atL s l:Nat):Int):=by
 have main:∀ m k:Nat,m+k=s.length->lp step (k:Int)=some ((k+atL (s.drop k) l:Nat):Int):=by
  intro m
  induction m with
  | zero =>
   intro k hk
   have:k=s.length:=by omega
   subst this
   rw[aL h2,List.drop_length];rfl
  | succ m ih =>
   intro k hk
   have hlt:k<s.length:=by omega
   rw[List.drop_eq_getElem_cons hlt,aGH]
   by_cases c:s[k]=l
   · rw[if_pos c,aL (by rw[h1 k hlt,if_pos c])];rfl
   · rw[if_neg c,aS (by rw[h1 k hlt,if_neg c]),ih (k+1) (by omega)]
     congr 2;omega
 have:=main s.length 0 (by omega)
 rw[List.drop_zero,Nat.zero_add]at this
 exact this
theorem aJF {s:List Link}(h:aG s<=4194304){k:Nat}(hk:k<s.length):bL s[k]<=4194304:=by
 have:=mG (w:=bL) (List.getElem_mem hk)
 unfold aG at h;omega
theorem aMV (s:List Link)(l:Link)(h:aG s<=4194304):lp (kV l s) 0=some ((atL s l:Nat):Int):=by
 have hl:s.length<=4194304:=Nat.le_trans (eT bL s) h
 refine aOR s l (fun k hk=>?_) ?_
 · have he:=aJF h hk
   unfold kV
   rw[if_pos (by omega),aK hk]
   simp only[Option.bind_some]
   rw[aFp s[k] l (by omega)]
   by_cases c:s[k]=l
   · simp[c]
   · simp only[c,Option.bind_some,decide_false,Bool.not_false,if_true,if_false]
     rw[wi (by omega)];rfl
 · unfold kV
   rw[if_neg (by omega)];rfl
theorem aKT (t:Tree)(d:List Int)(ht:t.fNodes.length<=4194304)(hd:d.length<=4194304):lp (iB t d) (0,[])=some ((dI t).filter (fun x=>decide (x∈d))):=by
 have:=(gY (step:=iB t d) t.fNodes (fun k u=>((k:Int),u)) (fun u n=>if n.fNode∈d then u++[n.fNode]else u) (fun u=>u) (fun k u=>u.length<=k) (fun k u hk hi=>by
  constructor
  · unfold iB
    simp only[]
    rw[if_pos (by omega),aK hk]
    simp only[Option.bind_some,wU d _ (by omega),wi1 (by omega:k<=4294967296)]
    by_cases c:(t.fNodes[k]).fNode∈d
    · rw[decide_eq_true c,if_pos rfl,if_pos c,aP (by omega)];rfl
    · rw[decide_eq_false c,if_neg (by simp),if_neg c]
  · split
    · rw[List.length_append,List.length_singleton];omega
    · omega) (fun u _=>by unfold iB;simp only[];rw[if_neg (by omega)]) [] (Nat.zero_le _)).1
 rw[show((0:Nat):Int)=0 from rfl,aGq,List.nil_append]at this
 exact this
theorem aQt {α:Type}(l:List α)(k:Nat)(h:k+1<=l.length)(hl:l.length<=4294967296):sub l (IntKind.i64.wrap ((k:Int)+1)) (l.length:Int)=some (l.drop (k+1)):=by
 rw[wi (by omega),pQ _ _ _ (by omega)]
 congr 1
 rw[show((k:Int)+1).toNat=k+1 by omega]
 exact List.take_of_length_le (by simp;omega)
theorem aJu {s u:List Link}{e:Rat}(h:jnP s=some (u,e)):dS u=dS s:=by
 refine aAJ (aAT u) (aAT s) fun x=>?_
 have h1:∀ (a b:List Link),(∀ x y,pr a x y->pr b x y)->(∃ l∈a,l.fA=x\/l.fB=x)->∃ l∈b,l.fA=x\/l.fB=x:=by
  rintro a b hab ⟨l,hl,c⟩
  obtain⟨m,hm,e1,e2⟩:=hab l.fA l.fB ⟨l,hl,rfl,rfl⟩
  exact⟨m,hm,by rw[e1,e2];exact c⟩
 rw[aAS,aAS]
 exact⟨fun⟨a,b⟩=>⟨a,h1 u s (fun x y=>(aGj h x y).1) b⟩,fun⟨a,b⟩=>⟨a,h1 s u (fun x y=>(aGj h x y).2) b⟩⟩
theorem aG0 (s:List Link)(k:Nat):aG (s.take k++s.drop (k+1))<=aG s:=by
 have e:s=s.take k++s.drop k:=(List.take_append_drop k s).symm
 have h1:aG s=aG (s.take k)+aG (s.drop k):=by rw[<- aC4,<- e]
 have h2:aG (s.drop (k+1))<=aG (s.drop k):=by
  by_cases c:k<s.length
  · rw[List.drop_eq_getElem_cons c]
    unfold aG;rw[lJ];omega
  · rw[List.drop_eq_nil_of_le (by omega)];exact Nat.zero_le _
 rw[aC4];omega
end Go.Ev
/- Trees that are drawn. -/
namespace Go.Ev
set_option linter.all false
theorem LinkL.tie {n:Int}{l:List QL}(h:LinkL n l){o:List Int}(nd:o.Nodup)(hm:∀ u,u∈o↔u∈dS (l.map QL.toL)):Tie l o:=by
 refine aNf h.each (by have:=h.len;omega) h.all nd fun u=>?_
 rw[hm,aCV]
 constructor
 · rintro⟨h1,z,hz,ht⟩
   obtain⟨y,hy,rfl⟩:=List.mem_map.1 hz
   exact⟨h1.1,y,hy,ht⟩
 · rintro⟨h1,y,hy,ht⟩
   have:=(h.each y hy).1.1
   exact⟨by omega,y.toL,List.mem_map_of_mem hy,ht⟩
theorem LinkL.tie0 {n:Int}{l:List QL}(h:LinkL n l):Tie l (dS (l.map QL.toL)):=h.tie (aAR _) fun _=>Iff.rfl
theorem Base.valid {l:List QL}{o:List Int}(hb:Base l o):∀ x∈l.map QL.toL,ValidL x:=by
 intro x hx
 have:=hb.join.1
 exact(aA2 this).1 x hx
theorem Tie.sz {l:List QL}{o:List Int}(h:Tie l o):aG (l.map QL.toL)<=2000:=by
 have h1:=aB4 h.base.valid
 rw[List.length_map]at h1
 have:=h.len
 omega
theorem Tie.join {l:List QL}{o:List Int}(h:Tie l o):∃ s e,jnP (l.map QL.toL)=some (s,e)/\LSet s/\dS s=dS (l.map QL.toL):=by
 have h1:=h.base.join.1
 exact⟨_,_,h1,(aA2 h1).2.1,aJu h1⟩
theorem aNN (c:l01Cur)(s:List Int)(hs:s.length<=9):∀ (m k:Nat) (a:List Int) (fi fh:Int),m+k=s.length->pU ⟨c.fb,fi,fh⟩->a.Perm (s.take k)->
 ∃ (a':List Int) (fi' fh':Int),lp (lC c s) ((k:Int),a,fi,fh)=some (a',fi',fh')/\pU ⟨c.fb,fi',fh'⟩/\a'.Perm s:=by
 intro m
 induction m with
 | zero =>
  intro k a fi fh hm hc hp
  refine⟨a,fi,fh,aL ?_,hc,by rw[List.take_of_length_le (by omega)]at hp;exact hp⟩
  unfold lC
  simp only[]
  rw[if_neg (by omega)]
 | succ m ih =>
  intro k a fi fh hm hc hp
  have hlt:k<s.length:=by omega
  have hl:a.length=k:=by rw[hp.length_eq,List.length_take];omega
  obtain⟨r,a1,b1,c1,d1⟩:=sW ⟨c.fb,fi,fh⟩ ((k:Int)+1) hc (by omega)
  have e1:sub a 0 r.1=some (a.take r.1.toNat):=by rw[pQ _ _ _ (by omega)];simp
  have e2:sub a r.1 (a.length:Int)=some (a.drop r.1.toNat):=by
   rw[pQ _ _ _ (by omega),List.take_of_length_le (by rw[List.length_drop];omega)]
  have t1:(a.take r.1.toNat).length<=9:=by rw[List.length_take];omega
  have t2:(a.drop r.1.toNat).length<=9:=by rw[List.length_drop];omega
  have st:lC c s ((k:Int),a,fi,fh)=some (.inl (((k+1:Nat):Int),a.take r.1.toNat++[s[k]]++a.drop r.1.toNat,r.2.fi,r.2.fh)):=by
   unfold lC
   simp only[]
   rw[if_pos (by omega),aK hlt]
   simp only[Option.bind_some,aO]
   rw[wi (n:=(a.length:Int)+1) (by omega),hl,a1]
   simp only[Option.bind_some]
   rw[e1]
   simp only[Option.bind_some,List.nil_append,List.length_nil,Nat.zero_add]
   rw[aP (by omega)]
   simp only[Option.bind_some,aO]
   rw[aP (by omega)]
   simp only[Option.bind_some,aO]
   rw[hl]at e2
   rw[e2]
   simp only[Option.bind_some]
   rw[aP (by rw[List.length_append,List.length_singleton];omega),wi (n:=(k:Int)+1) (by omega)]
   rfl
  rw[aS st]
  refine ih (k+1) _ _ _ (by omega) (yT c1 d1) ?_
  rw[List.take_add_one,List.getElem?_eq_getElem hlt]
  have p1:(a.take r.1.toNat++[s[k]]++a.drop r.1.toNat).Perm (a++[s[k]]):=by
   rw[List.append_assoc]
   refine(List.Perm.append_left _ List.perm_append_comm).trans ?_
   rw[<- List.append_assoc,List.take_append_drop]
  exact p1.trans (hp.append_right _)
theorem aOe (c:l01Cur)(h:pU c):∃ (n:Int) (l:List QL) (o:List Int) (c':l01Cur),tQ c=some (l.map QL.toL,o,c')/\pU c'/\c'.fb=c.fb/\LinkL n l/\(1<=n/\n<=4)/\Tie l o:=by
 obtain⟨r,a1,b1,c1,d1⟩:=sW ⟨c.fb,c.fi,c.fh⟩ 4 h (by omega)
 obtain⟨l,c2,a2,o2,f2,hl⟩:=aQE ⟨c.fb,r.2.fi,r.2.fh⟩ (1+r.1) (yT c1 d1) (by omega)
 obtain⟨s,e,j1,j2,j3⟩:=hl.tie0.join
 have hz:=hl.tie0.sz
 have js:=(zT (l.map QL.toL) (by omega)).1
 rw[j1]at js
 have ns:=aH4 j2
 rw[j3]at ns
 obtain⟨o,f3,g3,a3,o3,p3⟩:=aNN c (dS (l.map QL.toL)) (yG _) _ 0 [] c2.fi c2.fh (Nat.add_zero _) (yT o2 f2) (by simp)
 refine⟨1+r.1,l,o,⟨c.fb,f3,g3⟩,?_,o3,rfl,hl,by omega,hl.tie (p3.nodup_iff.2 (aAR _)) fun u=>p3.mem_iff⟩
 unfold tQ
 rw[a1];simp only[Option.bind_some]
 rw[wi (n:=1+r.1) (by omega),a2];simp only[Option.bind_some]
 rw[js];simp only[Option.bind_some,pk]
 rw[ns];simp only[Option.bind_some]
 rw[show((0:Nat):Int)=0 from rfl]at a3
 rw[a3]
 rfl
def cA (l:List QL)(o:List Int):Tree:=⟨(aH l o o []).map NQ.toN⟩
theorem aQs (code:List Int)(h:code.length<=1048576):∃ (n:Int) (l:List QL) (o:List Int),rZ code=some (cA l o)/\LinkL n l/\(1<=n/\n<=4)/\Tie l o:=by
 obtain⟨c,e1,c1,f1⟩:=aP2 code h
 obtain⟨n,l,o,c',e2,c2,f2,hl,hn,ht⟩:=aOe ⟨c.fb,c.fi,c.fh⟩ c1
 refine⟨n,l,o,?_,hl,hn,ht⟩
 have hz:=ht.sz
 have ho:o.length<=5:=ht.base.len
 have bq:=(aE8 (l.map QL.toL) o (by omega) (by omega)).1
 rw[ht.build]at bq
 unfold rZ xO
 rw[e1];simp only[Option.bind_some]
 rw[e2];simp only[Option.bind_some]
 rw[bq]
 rfl
theorem aPI (c:l01Cur)(n:Int)(h:pU c):∀ (m:Nat) (k fi fh:Int),m+k=n->0<=k->n<=1000->pU ⟨c.fb,fi,fh⟩->∃ fi' fh',lp (pW n c) (k,fi,fh)=some (fi',fh')/\pU ⟨c.fb,fi',fh'⟩:=by
 intro m
 induction m with
 | zero =>
  intro k fi fh hm hk hn hc
  exact⟨fi,fh,aL (by unfold pW;simp only[];rw[if_neg (by omega)]),hc⟩
 | succ m ih =>
  intro k fi fh hm hk hn hc
  obtain⟨r,a1,b1,c1,d1⟩:=aOL ⟨c.fb,fi,fh⟩ hc
  obtain⟨f2,g2,e2,c2⟩:=ih (k+1) r.2.fi r.2.fh (by omega) (by omega) hn (yT c1 d1)
  refine⟨f2,g2,?_,c2⟩
  rw[aS (s':=(k+1,r.2.fi,r.2.fh)),e2]
  unfold pW
  simp only[]
  rw[if_pos (by omega),a1]
  simp only[Option.bind_some]
  rw[wi (n:=k+1) (by omega)]
theorem aPw (code:List Int)(n:Int)(hn:0<=n/\n<=1000)(h:code.length<=1048576):∃ c,wG code n=some c/\pU c:=by
 obtain⟨c,e1,c1,f1⟩:=aP2 code h
 obtain⟨f2,g2,e2,c2⟩:=aPI c n c1 n.toNat 0 c.fi c.fh (by omega) (by omega) hn.2 c1
 refine⟨⟨c.fb,f2,g2⟩,?_,c2⟩
 unfold wG
 rw[e1];simp only[Option.bind_some]
 rw[e2]
 rfl
theorem aQF (code:List Int)(h:code.length<=1048576):∃ k:QL,sA code=some k.toL/\LkI k/\k.b<=3:=by
 obtain⟨c,e1,c1⟩:=aPw code 5 (by omega) h
 obtain⟨k,c',a1,a2,a3,a4,a5⟩:=aOA ⟨c.fb,c.fi,c.fh⟩ 3 c1 (by omega)
 refine⟨k,?_,a4,a5⟩
 unfold sA
 rw[e1];simp only[Option.bind_some]
 rw[a1]
 rfl
end Go.Ev
/- The program alone: links, order and test of a tree (the seat lacks the other program's). -/
namespace Go.Ev
set_option linter.all false
theorem aIG (t:Tree)(h:fO t<=4294967296):kT t=some (bP t.fNodes):=by
 unfold fO iE at h
 have hl:=eT bK t.fNodes
 have hmem:∀ k (hk:k<t.fNodes.length),aG (t.fNodes[k]).fOwn<=4294967296:=fun k hk=>by
  have he:=mG (w:=bK) (List.getElem_mem hk)
  have hn:bK t.fNodes[k]=aG (t.fNodes[k]).fOwn+aT (t.fNodes[k]).fCond+aG (t.fNodes[k]).fMessages+bG (t.fNodes[k]).fEnergy:=rfl
  omega
 have hln:∀ k (hk:k<t.fNodes.length),(bP (t.fNodes.take k)).length+((t.fNodes[k]).fOwn).length<=4294967296:=fun k hk=>by
  have:=aKJ t.fNodes h (k+1)
  rw[aEn _ _ hk,List.length_append]at this;omega
 have aux:∀ (step:(Int×(List Link))->Option ((Int×(List Link)) ⊕ (List Link))),(∀ k (hk:k<t.fNodes.length),step ((k:Int),bP (t.fNodes.take k))=some (.inl (((k+1:Nat):Int),bP (t.fNodes.take (k+1)))))->step ((t.fNodes.length:Int),bP (t.fNodes.take t.fNodes.length))=some (.inr (bP t.fNodes))->lp step (0,[])=some (bP t.fNodes):=by
  intro step h1 h2
  have main:∀ m k:Nat,m+k=t.fNodes.length->lp step ((k:Int),bP (t.fNodes.take k))=some (bP t.fNodes):=by
   intro m
   induction m with
   | zero =>
    intro k hk
    have:k=t.fNodes.length:=by omega
    subst this
    exact aL h2
   | succ m ih =>
    intro k hk
    rw[aS (h1 k (by omega))]
    exact ih (k+1) (by omega)
  exact main t.fNodes.length 0 (by omega)
 unfold kT
 rw[aux (lT t) (fun k hk=>by
  have:=hmem k hk
  have:=hln k hk
  unfold lT
  simp only[]
  rw[if_pos (by omega),aK hk]
  simp only[Option.bind_some]
  rw[rL _ (by omega)]
  simp only[Option.bind_some]
  rw[aP (by omega),aEn _ _ hk,wi1 (by omega)];rfl) (by unfold lT;simp only[];rw[if_neg (by omega),List.take_length])]
 rfl
theorem aE3 (t:Tree)(h:t.fNodes.length<=4294967296):jS t=some (dI t):=by
 have:jS t=some (dI t):=by
  have:=(gY (step:=pA t) t.fNodes (fun k u=>((k:Int),u)) (fun u n=>u++[n.fNode]) (fun u=>u) (fun k u=>u.length<=k) (fun k u hk hi=>by
   constructor
   · unfold pA
     simp only[]
     rw[if_pos (by omega),aK hk]
     simp only[Option.bind_some,wi1 (by omega:k<=4294967296)]
     rw[aP (by omega)];rfl
   · rw[List.length_append,List.length_singleton];omega) (fun u _=>by unfold pA;simp only[];rw[if_neg (by omega)]) [] (Nat.zero_le _)).1
  rw[show((0:Nat):Int)=0 from rfl,aCY,List.nil_append]at this
  unfold jS
  rw[this];rfl
 exact this
theorem aGX (t:Tree)(h:fO t<=4194304):qV t=some (decide (iJ t)):=by
 have h0:=h
 unfold fO iE at h
 have hl:=eT bK t.fNodes
 have ho:=aAo t.fNodes
 have l2:=aIG t (by omega)
 have o2:=aE3 t (by omega)
 have b2:=(aE8 (bP t.fNodes) (dI t) (by omega) (by unfold dI;rw[List.length_map];omega)).2
 unfold qV
 rw[l2]
 simp only[Option.bind_some,o2,b2]
 by_cases c:iJ t
 · have c':=c
   unfold iJ at c'
   rw[c',decide_eq_true c]
   simp only[pkT,if_true,aLv t t (by omega),Option.bind_some,decide_true]
 · rw[decide_eq_false c]
   cases g:lA (bP t.fNodes) (dI t)with
   | none=>simp[pkT]
   | some u =>
    have:¬t=u:=by rintro rfl;exact c g
    simp only[pkT,if_true,aLv t u (by omega),Option.bind_some,decide_eq_false this]
def zK (t:Tree):Nat->Nat->List Int
 | 0,_=>[]
 | m+1,k=>match t.fNodes[k]? with
  | none=>[]
  | some n=>n.fNode::(match atN t n.fUp with | none=>[] | some j=>zK t m j)
theorem aAn {t:Tree}{m k:Nat}(hk:k<t.fNodes.length):zK t (m+1) k=(t.fNodes[k]).fNode::(match atN t (t.fNodes[k]).fUp with | none=>[] | some j=>zK t m j):=by
 rw[zK,List.getElem?_eq_getElem hk]
theorem aJo {t:Tree}(ht:iJ t):∀ (m k:Nat),t.fNodes.length<=k+m->k<t.fNodes.length->∀ acc:List Int,acc.length<=k->lp (gK t) ((k:Int),acc)=some (acc++zK t m k):=by
 obtain⟨h9,hup⟩:=vU ht
 have endl:∀ acc:List Int,lp (gK t) (-1,acc)=some acc:=fun acc=>aL (by unfold gK;simp only[];rw[if_neg (by omega)])
 intro m
 induction m with
 | zero=>intro k h1 h2;omega
 | succ m ih =>
  intro k hk c acc hacc
  have st:gK t ((k:Int),acc)=some (.inl ((match atN t (t.fNodes[k]).fUp with | none=>-1 | some j=>(j:Int)),acc++[(t.fNodes[k]).fNode])):=by
   unfold gK
   simp only[]
   rw[if_pos (by omega),aK c]
   simp only[Option.bind_some]
   rw[aP (by omega)]
   simp only[Option.bind_some,tH,aCi t _ (by omega:t.fNodes.length<=4294967296)]
   all_goals rfl
  rw[aS st,aAn c]
  cases e:atN t (t.fNodes[k]).fUp with
  | none=>exact endl _
  | some j =>
   obtain⟨g1,g2⟩:=hup k c j e
   rw[ih j (by omega) g2 (acc++[(t.fNodes[k]).fNode]) (by rw[List.length_append,List.length_singleton];omega),List.append_assoc]
   rfl
def qG (t:Tree)(v:Int):List Int:=match atN t v with | none=>[] | some k=>zK t 9 k
theorem aNJ {t:Tree}(ht:iJ t)(v:Int):wS t v=some (qG t v):=by
 obtain⟨h9,hup⟩:=vU ht
 unfold wS qG
 rw[aCi t v (by omega)]
 simp only[Option.bind_some]
 cases a:atN t v with
 | none =>
  have:lp (gK t) (-1,[])=some []:=aL (by unfold gK;simp only[];rw[if_neg (by omega)])
  simp[this]
 | some k =>
  have hk:k<t.fNodes.length:=by
   unfold atN at a
   rw[List.findIdx?_eq_some_iff_getElem]at a
   exact a.1
  have:=aJo ht 9 k (by omega) hk [] (Nat.zero_le _)
  simp[this]
theorem aHA (t:Tree):∀ m k,(zK t m k).length<=m
 | 0,_=>by simp[zK]
 | m+1,k=>by
  rw[zK]
  cases t.fNodes[k]? with
  | none=>simp
  | some n =>
   simp only[]
   cases atN t n.fUp with
   | none=>simp
   | some j=>have:=aHA t m j;simp only[List.length_cons];omega
theorem aMl (t:Tree)(v:Int):(qG t v).length<=9:=by
 unfold qG
 cases atN t v with
 | none=>simp
 | some k=>exact aHA t 9 k
theorem aDF {t:Tree}{v:Int}{k:Nat}(h:atN t v=some k):∃ hk:k<t.fNodes.length,(t.fNodes[k]).fNode=v:=by
 unfold atN at h
 rw[List.findIdx?_eq_some_iff_getElem]at h
 exact⟨h.1,of_decide_eq_true h.2.1⟩
theorem aJq {t:Tree}{v x:Int}(h:x∈qG t v):∃ n∈t.fNodes,n.fNode=v:=by
 unfold qG at h
 cases a:atN t v with
 | none=>rw[a]at h;cases h
 | some k =>
  obtain⟨hk,e⟩:=aDF a
  exact⟨_,List.getElem_mem hk,e⟩
def aAD (t:Tree)(s:List Int):List Int:=(dI t).filter (fun x=>decide (∃ y∈s,x∈qG t y))
theorem aOr (t:Tree)(s:List Int):∀ (l:List TreeNode) (u:List Int),l.foldl (fun u n=>if n.fNode∈s then u++qG t n.fNode else u) u=u++(l.filter (fun n=>decide (n.fNode∈s))).flatMap (fun n=>qG t n.fNode)
 | [],u=>by simp
 | n::l,u=>by
  rw[List.foldl_cons,aOr t s l,List.filter_cons]
  by_cases c:n.fNode∈s <;> simp[c]
theorem aQQ {t:Tree}{s d:List Int}(h:∀ x,x∈d↔∃ y∈s,x∈qG t y):(dI t).filter (fun x=>decide (x∈d))=aAD t s:=by
 unfold aAD
 refine List.filter_congr fun x _=>?_
 rw[Bool.eq_iff_iff,decide_eq_true_iff,decide_eq_true_iff];exact h x
theorem aOU {t:Tree}(ht:iJ t)(s:List Int)(hs:s.length<=4194304):lG t s=some (aAD t s)/\(aAD t s).length<=9:=by
 have h9:=(vU ht).1
 have hl:(aAD t s).length<=9:=by
  have:=List.length_filter_le (fun x=>decide (∃ y∈s,x∈qG t y)) (dI t)
  have e:(dI t).length=t.fNodes.length:=by unfold dI;rw[List.length_map]
  unfold aAD;omega
 have second:∀ (step:(Int×(List Int))->Option ((Int×(List Int)) ⊕ (List Int))) (d:List Int),(∀ k (hk:k<t.fNodes.length) (u:List Int),u.length<=k->step ((k:Int),u)=some (.inl (((k+1:Nat):Int),if(t.fNodes[k]).fNode∈d then u++[(t.fNodes[k]).fNode]else u)))->(∀ u,step ((t.fNodes.length:Int),u)=some (.inr u))->(∀ x,x∈d↔∃ y∈s,x∈qG t y)->lp step (0,[])=some (aAD t s):=by
  intro step d h1 h2 h3
  have:=(gY (step:=step) t.fNodes (fun k u=>((k:Int),u)) (fun u n=>if n.fNode∈d then u++[n.fNode]else u) (fun u=>u) (fun k u=>u.length<=k) (fun k u hk hi=>by
   refine⟨h1 k hk u hi,?_⟩
   split
   · rw[List.length_append,List.length_singleton];omega
   · omega) (fun u _=>h2 u) [] (Nat.zero_le _)).1
  rw[show((0:Nat):Int)=0 from rfl,aGq,List.nil_append]at this
  rw[this]
  exact congrArg some (aQQ h3)
 refine⟨?_,hl⟩
 · have f1:=(gY (step:=kS t s) t.fNodes (fun k u=>((k:Int),u)) (fun u n=>if n.fNode∈s then u++qG t n.fNode else u) (fun u=>u) (fun k u=>u.length<=9*k) (fun k u hk hi=>by
    have q2:=aNJ ht (t.fNodes[k]).fNode
    have q3:=aMl t (t.fNodes[k]).fNode
    constructor
    · unfold kS
      simp only[]
      rw[if_pos (by omega),aK hk]
      simp only[Option.bind_some,wU s _ (by omega),q2,wi1 (by omega:k<=4294967296)]
      by_cases c:(t.fNodes[k]).fNode∈s
      · rw[decide_eq_true c,if_pos rfl,if_pos c,aP (by omega)];rfl
      · rw[decide_eq_false c,if_neg c];rfl
    · split
      · rw[List.length_append];omega
      · omega) (fun u _=>by unfold kS;simp only[];rw[if_neg (by omega)]) [] (Nat.zero_le _))
   have f2:=f1.2
   have f1:=f1.1
   rw[show((0:Nat):Int)=0 from rfl,aOr,List.nil_append]at f1
   rw[aOr,List.nil_append]at f2
   unfold lG
   rw[f1]
   simp only[Option.bind_some]
   rw[second (kR t ((t.fNodes.filter (fun n=>decide (n.fNode∈s))).flatMap (fun n=>qG t n.fNode))) ((t.fNodes.filter (fun n=>decide (n.fNode∈s))).flatMap (fun n=>qG t n.fNode)) (fun k hk u hu=>by
    unfold kR
    simp only[]
    rw[if_pos (by omega),aK hk]
    simp only[Option.bind_some,wU ((t.fNodes.filter (fun n=>decide (n.fNode∈s))).flatMap (fun n=>qG t n.fNode)) _ (by omega),wi1 (by omega:k<=4294967296)]
    by_cases c:(t.fNodes[k]).fNode∈(t.fNodes.filter (fun n=>decide (n.fNode∈s))).flatMap (fun n=>qG t n.fNode)
    · rw[decide_eq_true c,if_pos rfl,if_pos c,aP (by omega)];rfl
    · rw[decide_eq_false c,if_neg c];rfl) (fun u=>by unfold kR;simp only[];rw[if_neg (by omega)]) (fun x=>by
    rw[List.mem_flatMap]
    constructor
    · rintro⟨n,hn,hx⟩
      exact⟨n.fNode,of_decide_eq_true (List.mem_filter.1 hn).2,hx⟩
    · rintro⟨y,hy,hx⟩
      obtain⟨n,hn,e⟩:=aJq hx
      subst e
      exact⟨n,List.mem_filter.2 ⟨hn,by simp[hy]⟩,hx⟩)]
   rfl
end Go.Ev
/- Inserting all links, both programs, and the law. -/
namespace Go.Ev
set_option linter.all false
theorem aI7 (a:Int)(c:Nat):∀ r:List Int,r.Nodup->(r.map (fun v=>if a=v then c else 0)).sum<=c
 | [],_=>Nat.zero_le _
 | v::r,h=>by
  rw[List.nodup_cons]at h
  rw[List.map_cons,List.sum_cons]
  by_cases e:a=v
  · rw[if_pos e]
    have:∀ l:List Int,v∉l->(l.map (fun v=>if a=v then c else 0)).sum=0:=by
     intro l
     induction l with
     | nil=>intro _;rfl
     | cons x l ih =>
      intro hx
      simp only[List.mem_cons,not_or]at hx
      rw[List.map_cons,List.sum_cons,ih hx.2,if_neg (fun e'=>hx.1 (by rw[<- e,e']))]
    rw[this r h.1];omega
  · rw[if_neg e]
    have:=aI7 a c r h.2
    omega
theorem aJs (o:List Int)(r:List Int)(hr:r.Nodup):∀ s:List Link,(r.map (fun v=>aG (s.filter (mA o v)))).sum<=aG s
 | []=>by
  have:∀ l:List Int,(l.map (fun v=>aG (([]:List Link).filter (mA o v)))).sum=0:=by
   intro l
   induction l with
   | nil=>rfl
   | cons x l ih=>rw[List.map_cons,List.sum_cons,ih];rfl
  rw[this];exact Nat.zero_le _
 | x::s=>by
  have ih:=aJs o r hr s
  have h1:=aI7 (aQ o [x.fA,x.fB]) (bL x+1) r hr
  have e:∀ l:List Int,(l.map (fun v=>aG ((x::s).filter (mA o v)))).sum=(l.map (fun v=>if aQ o [x.fA,x.fB]=v then bL x+1 else 0)).sum+(l.map (fun v=>aG (s.filter (mA o v)))).sum:=by
   intro l
   induction l with
   | nil=>rfl
   | cons v l ih =>
    simp only[List.map_cons,List.sum_cons,ih]
    have:aG ((x::s).filter (mA o v))=(if aQ o [x.fA,x.fB]=v then bL x+1 else 0)+aG (s.filter (mA o v)):=by
     rw[List.filter_cons]
     unfold mA
     by_cases c:aQ o [x.fA,x.fB]=v
     · rw[if_pos (by simpa using c),if_pos c];unfold aG;rw[lJ]
     · rw[if_neg (by simpa using c),if_neg c];omega
    omega
  rw[e]
  have:aG (x::s)=bL x+1+aG s:=by unfold aG;rw[lJ]
  omega
theorem aAO:∀ b:List TreeNode,aG (bP b)=(b.map (fun n=>aG n.fOwn)).sum
 | []=>rfl
 | n::b=>by
  have e:bP (n::b)=n.fOwn++bP b:=by simp[bP]
  rw[e,aC4,aAO b,List.map_cons,List.sum_cons]
theorem aNc {s:List Link}{o:List Int}{b:List TreeNode}(hn:o.Nodup)(h:oG s o o []=some b):aG (bP b)<=aG s:=by
 obtain⟨h1,h2⟩:=xZ o [] b (by simp) h
 simp only[List.map_nil,List.nil_append]at h2
 rw[aAO]
 have e:b.map (fun n=>aG n.fOwn)=b.map (fun n=>aG (s.filter (mA o n.fNode))):=List.map_congr_left fun n hn=>by rw[(h1 n hn).2.1]
 have e2:b.map (fun n=>aG (s.filter (mA o n.fNode)))=o.map (fun v=>aG (s.filter (mA o v))):=by rw[<- h2,List.map_map];rfl
 rw[e,e2]
 exact aJs o o hn s
theorem aI4 {s:List Link}{o:List Int}:∀ {b:List TreeNode},(∀ n∈b,NodeOk s o n)->szL bK b<=aG (bP b)+51425*b.length
 | [],_=>Nat.zero_le _
 | n::b,h=>by
  have ih:=aI4 (b:=b) (fun m hm=>h m (by simp[hm]))
  have hn:=h n (by simp)
  have h1:=hn.1.sz
  have h3:=mF (.inl hn.2.2.2.1)
  have h4:=hn.2.2.1
  have e:aG (bP (n::b))=aG n.fOwn+aG (bP b):=by rw[aAO,aAO,List.map_cons,List.sum_cons]
  have e2:bK n=aG n.fOwn+aT n.fCond+aG n.fMessages+bG n.fEnergy:=rfl
  rw[lJ,List.length_cons,e,e2]
  omega
theorem aLc {s:List Link}{o:List Int}{u:Tree}(h:lA s o=some u):aG (bP u.fNodes)<=aG s/\fO u<=aG s+462825:=by
 unfold lA at h
 cases hj:jnP s with
 | none=>rw[hj]at h;cases h
 | some x =>
  rw[hj,Option.bind_some]at h
  by_cases c:isOrd x.1 o
  · rw[if_pos c]at h
    cases g:oG s o o []with
    | none=>rw[g]at h;cases h
    | some b =>
     rw[g]at h
     obtain rfl:=Option.some.inj h
     have h1:=aNc c.1 g
     obtain⟨k1,k2⟩:=xZ o [] b (by simp) g
     have h2:=aI4 k1
     have hl:b.length=o.length:=by have:=congrArg List.length k2;simpa using this
     have h9:=(aAy c).1
     refine⟨h1,?_⟩
     show szL bK b<=_
     have:51425*b.length<=51425*9:=Nat.mul_le_mul (Nat.le_refl _) (by omega)
     omega
  · rw[if_neg c]at h;cases h
end Go.Ev
/- What is built on tied links is a tree. -/
namespace Go.Ev
set_option linter.all false
theorem aJS {α:Type}{f g:Int->List α}:∀ {r:List Int},(∀ u∈r,f u=g u)->r.flatMap f=r.flatMap g
 | [],_=>rfl
 | u::r,h=>by rw[List.flatMap_cons,List.flatMap_cons,h u (by simp),aJS fun w hw=>h w (by simp[hw])]
theorem aHC {α:Type}(f:α->Int):∀ (o:List Int) (l:List α),o.Nodup->(∀ x∈l,f x∈o)->(o.flatMap fun v=>l.filter fun x=>decide (f x=v)).Perm l
 | [],l,_,h=>by
  cases l with
  | nil=>exact List.Perm.refl _
  | cons x l=>exact absurd (h x (by simp)) (by simp)
 | v::r,l,hn,h=>by
  rw[List.nodup_cons]at hn
  rw[List.flatMap_cons]
  have e:(r.flatMap fun u=>l.filter fun x=>decide (f x=u))=r.flatMap fun u=>(l.filter fun x=>!decide (f x=v)).filter fun x=>decide (f x=u):=by
   refine aJS fun u hu=>?_
   rw[List.filter_filter]
   refine List.filter_congr fun x _=>?_
   by_cases c:f x=u
   · have:f x≠v:=fun e=>hn.1 (by rw[<- e,c];exact hu)
     rw[decide_eq_true c,decide_eq_false this];rfl
   · rw[decide_eq_false c];rfl
  rw[e]
  have ih:=aHC f r (l.filter fun x=>!decide (f x=v)) hn.2 (fun x hx=>by
   rw[List.mem_filter]at hx
   have h1:=h x hx.1
   have h2:f x≠v:=by simpa using hx.2
   exact(List.mem_cons.1 h1).resolve_left h2)
  exact(List.Perm.append_left _ ih).trans (List.filter_append_perm _ l)
theorem aBC {α:Type}(f:α->Int)(l:List α)(v:Int):∀ o:List Int,o.Nodup->v∈o->((o.flatMap fun u=>l.filter fun x=>decide (f x=u)).filter fun x=>decide (f x=v))=l.filter fun x=>decide (f x=v)
 | w::r,hn,hv=>by
  rw[List.nodup_cons]at hn
  rw[List.flatMap_cons,List.filter_append]
  have none:∀ s:List Int,v∉s->((s.flatMap fun u=>l.filter fun x=>decide (f x=u)).filter fun x=>decide (f x=v))=[]:=by
   intro s hs
   rw[List.filter_eq_nil_iff]
   intro x hx
   obtain⟨u,hu,hx⟩:=List.mem_flatMap.1 hx
   have:=of_decide_eq_true (List.mem_filter.1 hx).2
   intro e
   have:=of_decide_eq_true e
   have e3:v=u:=by omega
   exact hs (e3▸hu)
  by_cases c:v=w
  · subst c
    rw[none r hn.1,List.append_nil,List.filter_filter]
    refine List.filter_congr fun x _=>?_
    simp
  · have e:((l.filter fun x=>decide (f x=w)).filter fun x=>decide (f x=v))=[]:=by
     rw[List.filter_eq_nil_iff]
     intro x hx e
     have h1:=of_decide_eq_true (List.mem_filter.1 hx).2
     have h2:=of_decide_eq_true e
     exact c (by omega)
    rw[e,List.nil_append]
    exact aBC f l v r hn.2 ((List.mem_cons.1 hv).resolve_left c)
theorem zE (l:List QL)(o:List Int):∀ (r:List Int) (b:List NQ),(aH l o r b).map (fun n=>n.node)=b.map (fun n=>n.node)++r
 | [],b=>by simp[aH]
 | v::r,b=>by
  rw[aH,zE l o r]
  simp only[List.map_append,List.map_cons,List.map_nil,List.append_assoc,List.singleton_append]
  rfl
theorem aHm (l:List QL)(o:List Int):∀ (r:List Int) (b:List NQ),(aH l o r b).flatMap (fun n=>n.own)=b.flatMap (fun n=>n.own)++r.flatMap fun v=>l.filter (kB o v)
 | [],b=>by simp[aH]
 | v::r,b=>by
  rw[aH,aHm l o r,List.flatMap_append,List.flatMap_cons,List.flatMap_nil,List.append_nil,List.flatMap_cons,List.append_assoc]
  rfl
theorem aEe {l l':List QL}{o:List Int}:∀ (r:List Int) (b:List NQ),(∀ v∈r,l'.filter (kB o v)=l.filter (kB o v))->aH l' o r b=aH l o r b
 | [],b,_=>rfl
 | v::r,b,h=>by
  have e:nxt l' o v b=nxt l o v b:=by unfold nxt;rw[h v (by simp)]
  rw[aH,aH,e]
  exact aEe r _ fun u hu=>h u (by simp[hu])
def jY (l:List QL)(o:List Int):List QL:=o.flatMap fun v=>l.filter (kB o v)
theorem Tie.owner {l:List QL}{o:List Int}(h:Tie l o):∀ x∈l,aQ o [x.a,x.b]∈o:=by
 intro x hx
 have hb:=h.base
 have hbm:x.b∈o:=(h.mem _).2 ⟨by have:=(h.lk x hx).1;omega,x,hx,.inr rfl⟩
 rcases aBR (s:=[x.a,x.b]) (fun u hu=>(hb.h1 u hu).1)with⟨_,h4⟩ | ⟨p,v,r,e,h2,h3,h4⟩
 · exact absurd (by simp) (h4 _ hbm)
 · rw[h2,e];simp
theorem Tie.inPerm {l:List QL}{o:List Int}(h:Tie l o):(jY l o).Perm l:=aHC (fun x:QL=>aQ o [x.a,x.b]) o l h.nd h.owner
theorem Tie.inTie {l:List QL}{o:List Int}(h:Tie l o):Tie (jY l o) o:=h.perm h.inPerm (List.Perm.refl _)
theorem Tie.inTree {l:List QL}{o:List Int}(h:Tie l o):cA (jY l o) o=cA l o:=by
 unfold cA
 have e:aH (jY l o) o o []=aH l o o []:=aEe o [] fun v hv=>aBC (fun x:QL=>aQ o [x.a,x.b]) l v o h.nd hv
 rw[e]
theorem aNM:∀ b:List NQ,bP (b.map NQ.toN)=(b.flatMap fun n=>n.own).map QL.toL:=by
 intro b
 unfold bP
 induction b with
 | nil=>rfl
 | cons n b ih =>
  rw[List.flatMap_cons,List.map_append,<- ih];rfl
theorem aAG (l:List QL)(o:List Int):bP (cA l o).fNodes=(jY l o).map QL.toL:=by
 unfold cA
 simp only[]
 rw[aNM,aHm,List.flatMap_nil,List.nil_append]
 rfl
theorem xY (l:List QL)(o:List Int):dI (cA l o)=o:=by
 unfold dI cA
 simp only[List.map_map]
 have:=zE l o o []
 rw[List.map_nil,List.nil_append]at this
 exact this
theorem Tie.isTree {l:List QL}{o:List Int}(h:Tie l o):iJ (cA l o):=by
 unfold iJ
 rw[aAG,xY,h.inTie.build]
 exact congrArg some h.inTree
theorem Tie.tsz {l:List QL}{o:List Int}(h:Tie l o):fO (cA l o)<=470000:=by
 have hz:=h.sz
 have:=(aLc h.build).2
 unfold cA
 omega
theorem aNa {t:Tree}(ht:iJ t):(dI t).Nodup/\(∀ u∈dI t,1<=u)/\∀ n∈t.fNodes,n.fUp≠0->n.fUp∈dI t:=by
 unfold iJ lA at ht
 cases h:jnP (bP t.fNodes)with
 | none=>rw[h]at ht;cases ht
 | some x =>
  rw[h,Option.bind_some]at ht
  by_cases c:isOrd x.1 (dI t)
  · rw[if_pos c]at ht
    obtain⟨l9,h1⟩:=aAy c
    cases g:oG (bP t.fNodes) (dI t) (dI t) []with
    | none=>rw[g]at ht;cases ht
    | some b =>
     rw[g]at ht
     have hb : b = t.fNodes := by have : Tree.mk b = t := by simpa using ht
                                  rw[<- this]
     subst hb
     have hp:=(xZ (dI t) [] t.fNodes (by simp) g).1
     refine⟨c.1,h1,fun n hn h0=>?_⟩
     have hu:n.fUp=aQ (dI t) (xF n.fCond):=(hp n hn).2.2.2.2
     exact(vK hu.symm h0).2
  · rw[if_neg c]at ht;cases ht
end Go.Ev
/- The law of the paths of a tree. -/
namespace Go.Ev
set_option linter.all false
theorem aPB (l:List Int)(n:Int)(h:l.length<=4294967296):wR l n=some (decide (n∈l)):=by
 have main:∀ m k:Nat,m+k=l.length->lp (kL l n) (k:Int)=some (if n∈l.drop k then .inr true else .inl ()):=by
  intro m
  induction m with
  | zero =>
   intro k hk
   rw[List.drop_eq_nil_of_le (by omega)]
   exact aL (by unfold kL;rw[if_neg (by omega)];rfl)
  | succ m ih =>
   intro k hk
   have hlt:k<l.length:=by omega
   rw[List.drop_eq_getElem_cons hlt]
   by_cases c:l[k]=n
   · rw[aL (r:=.inr true) (by unfold kL;rw[if_pos (by omega),aK hlt];simp[c])]
     rw[if_pos (by simp[c])]
   · have st:kL l n (k:Int)=some (.inl ((k+1:Nat):Int)):=by
      unfold kL
      rw[if_pos (by omega),aK hlt]
      simp only[Option.bind_some,if_neg c]
      rw[wi (n:=(k:Int)+1) (by omega)];rfl
     rw[aS st,ih (k+1) (by omega)]
     have:n∈l[k]::l.drop (k+1)↔n∈l.drop (k+1):=by
      rw[List.mem_cons]
      exact⟨fun h=>h.resolve_left (fun e=>c e.symm),.inr⟩
     simp only[this]
 have:=main l.length 0 (by omega)
 rw[show((0:Nat):Int)=0 from rfl,List.drop_zero]at this
 unfold wR
 rw[this]
 by_cases c:n∈l <;> simp[c]
theorem aIx {t:Tree}(hn:(dI t).Nodup){i j:Nat}(hi:i<t.fNodes.length)(hj:j<t.fNodes.length)(h:(t.fNodes[i]).fNode=(t.fNodes[j]).fNode):i=j:=by
 unfold dI at hn
 have li:i<(t.fNodes.map (·.fNode)).length:=by rw[List.length_map];exact hi
 have lj:j<(t.fNodes.map (·.fNode)).length:=by rw[List.length_map];exact hj
 have:=List.pairwise_iff_getElem.1 hn
 rcases Nat.lt_trichotomy i j with c | c | c
 · exact absurd (by simpa using h) (this i j li lj c)
 · exact c
 · exact absurd (by simpa using h.symm) (this j i lj li c)
theorem aLg {t:Tree}{v:Int}(h:v∈dI t):∃ j,atN t v=some j:=by
 cases a:atN t v with
 | some j=>exact⟨j,rfl⟩
 | none =>
  exfalso
  unfold atN at a
  rw[List.findIdx?_eq_none_iff]at a
  obtain⟨n,hn,e⟩:=List.mem_map.1 h
  have:=a n hn
  simp[e]at this
theorem aOQ {t:Tree}(hn:(dI t).Nodup){k:Nat}(hk:k<t.fNodes.length):atN t (t.fNodes[k]).fNode=some k:=by
 obtain⟨j,e⟩:=aLg (t:=t) (v:=(t.fNodes[k]).fNode) (List.mem_map_of_mem (List.getElem_mem hk))
 obtain⟨hj,e2⟩:=aDF e
 rw[e,aIx hn hj hk e2]
theorem aFK {t:Tree}(ht:iJ t):∀ (m k:Nat),k<t.fNodes.length->∀ x∈zK t m k,∃ (i:Nat) (hi:i<t.fNodes.length),k<=i/\(t.fNodes[i]).fNode=x
 | 0,k,_,x,hx=>by cases hx
 | m+1,k,hk,x,hx=>by
  rw[aAn hk]at hx
  rcases List.mem_cons.1 hx with rfl | hx
  · exact⟨k,hk,Nat.le_refl _,rfl⟩
  · cases e:atN t (t.fNodes[k]).fUp with
    | none=>rw[e]at hx;cases hx
    | some j =>
     rw[e]at hx
     obtain⟨g1,g2⟩:=(vU ht).2 k hk j e
     obtain⟨i,hi,h1,h2⟩:=aFK ht m j g2 x hx
     exact⟨i,hi,by omega,h2⟩
theorem aEm {t:Tree}(ht:iJ t)(hn:(dI t).Nodup):∀ (m k:Nat),k<t.fNodes.length->(zK t m k).Nodup
 | 0,k,_=>by simp[zK]
 | m+1,k,hk=>by
  rw[aAn hk]
  cases e:atN t (t.fNodes[k]).fUp with
  | none=>simp
  | some j =>
   obtain⟨g1,g2⟩:=(vU ht).2 k hk j e
   refine List.nodup_cons.2 ⟨fun h=>?_,aEm ht hn m j g2⟩
   obtain⟨i,hi,h1,h2⟩:=aFK ht m j g2 _ h
   have:=aIx hn hi hk h2
   omega
theorem aJp {t:Tree}(ht:iJ t)(hn:(dI t).Nodup):∀ (m k:Nat),k<t.fNodes.length->t.fNodes.length<=k+m->∀ (i:Nat) (hi:i<t.fNodes.length) (j:Nat),(t.fNodes[i]).fNode∈zK t m k->atN t (t.fNodes[i]).fUp=some j->∃ hj:j<t.fNodes.length,(t.fNodes[j]).fNode∈zK t m k
 | 0,k,hk,h0,_,_,_,_,_=>by omega
 | m+1,k,hk,hm,i,hi,j,hx,hj=>by
  rw[aAn hk]at hx ⊢
  obtain⟨q1,q2⟩:=(vU ht).2 i hi j hj
  refine⟨q2,?_⟩
  rcases List.mem_cons.1 hx with hx | hx
  · have:=aIx hn hi hk hx
    subst this
    rw[hj]
    obtain⟨m',rfl⟩:∃ m',m=m'+1:=⟨m-1,by omega⟩
    simp only[]
    rw[aAn q2]
    simp
  · cases e:atN t (t.fNodes[k]).fUp with
    | none=>rw[e]at hx;cases hx
    | some w =>
     rw[e]at hx
     obtain⟨g1,g2⟩:=(vU ht).2 k hk w e
     obtain⟨h1,h2⟩:=aJp ht hn m w g2 (by omega) i hi j hx hj
     exact List.mem_cons_of_mem _ h2
theorem aHB {t:Tree}(ht:iJ t){v:Int}(hv:v∈dI t):(qG t v).Nodup/\(∀ x∈qG t v,x∈dI t)/\(∃ r,qG t v=v::r)/\∀ n∈t.fNodes,n.fNode∈qG t v->n.fUp≠0->n.fUp∈qG t v:=by
 obtain⟨hn,h1,hu⟩:=aNa ht
 obtain⟨k,e⟩:=aLg hv
 obtain⟨hk,ek⟩:=aDF e
 have h9:=(vU ht).1
 unfold qG
 rw[e]
 simp only[]
 refine⟨aEm ht hn 9 k hk,fun x hx=>?_,?_,fun n hnm hx h0=>?_⟩
 · obtain⟨i,hi,_,h2⟩:=aFK ht 9 k hk x hx
   rw[<- h2]
   exact List.mem_map_of_mem (List.getElem_mem hi)
 · rw[aAn hk,ek];exact⟨_,rfl⟩
 · obtain⟨i,hi,rfl⟩:=List.getElem_of_mem hnm
   obtain⟨j,ej⟩:=aLg (hu _ hnm h0)
   obtain⟨hj,h3⟩:=aDF ej
   obtain⟨_,h4⟩:=aJp ht hn 9 k hk (by omega) i hi j hx ej
   rw[<- h3];exact h4
end Go.Ev
/- The cliques of a tree, both programs, and the law. -/
namespace Go.Ev
set_option linter.all false
theorem aFR {o:List Int}{v:Int}{own:List Link}{b:List TreeNode}{n:TreeNode}(h:mO o v own b=some n):bC n.fCond=some true:=by
 unfold mO at h
 cases e1:jnP (own++xG v b)with
 | none=>rw[e1]at h;cases h
 | some u =>
  rw[e1,Option.bind_some]at h
  cases e2:aBy v u.1 with
  | none=>rw[e2]at h;cases h
  | some w =>
   obtain⟨c,m,f⟩:=w
   rw[e2,Option.bind_some]at h
   have hc:bC c=some true:=by
    unfold aBy at e2
    cases e3:wV v u.1 with
    | none=>rw[e3]at e2;cases e2
    | some x =>
     rw[e3,Option.bind_some]at e2
     have ex:x.1=c:=by
      cases e4:jnP (wL v u.1++x.2)with
      | none=>rw[e4]at e2;cases e2
      | some y=>rw[e4]at e2;exact congrArg Prod.fst (Option.some.inj e2)
     unfold wV at e3
     split at e3
     · rename_i hh
       cases e3
       rw[<- ex];exact hh.2.1
     · cases e3
   split at h
   · cases h;exact hc
   · cases h
theorem aDO {Q:TreeNode->Prop}{s:List Link}{o:List Int}(hQ:∀ v b n,mO o v (s.filter (mA o v)) b=some n->Q n):∀ (r:List Int) (b b':List TreeNode),(∀ n∈b,Q n)->oG s o r b=some b'->∀ n∈b',Q n
 | [],b,b',h,e=>by cases e;exact h
 | v::r,b,b',h,e=>by
  rw[oG]at e
  cases h1:mO o v (s.filter (mA o v)) b with
  | none=>rw[h1]at e;cases e
  | some n =>
   rw[h1,Option.bind_some]at e
   exact aDO hQ r (b++[n]) b' (fun m hm=>by
    rcases List.mem_append.1 hm with hm | hm
    · exact h m hm
    · rw[List.mem_singleton.1 hm];exact hQ _ _ _ h1) e
theorem aFf {t:Tree}(ht:iJ t):t.fNodes.length<=9/\∀ n∈t.fNodes,1<=n.fNode/\bC n.fCond=some true/\aT n.fCond<=20000:=by
 unfold iJ lA at ht
 cases hj:jnP (bP t.fNodes)with
 | none=>rw[hj]at ht;cases ht
 | some x =>
  rw[hj,Option.bind_some]at ht
  by_cases c:isOrd x.1 (dI t)
  · rw[if_pos c]at ht
    cases g:oG (bP t.fNodes) (dI t) (dI t) []with
    | none=>rw[g]at ht;cases ht
    | some b =>
     rw[g]at ht
     have e:=Option.some.inj ht
     obtain⟨k1,k2⟩:=xZ (dI t) [] b (by simp) g
     have k3:=aDO (Q:=fun n=>bC n.fCond=some true) (fun v b n h=>aFR h) (dI t) [] b (by simp) g
     have eb:b=t.fNodes:=by rw[<- e]
     subst eb
     obtain⟨l1,l2⟩:=aAy c
     refine⟨by unfold dI at l1;rwa [List.length_map]at l1,fun n hn=>⟨l2 _ (List.mem_map.2 ⟨n,hn,rfl⟩),k3 n hn,(k1 n hn).2.2.1⟩⟩
  · rw[if_neg c]at ht;cases ht
structure InvC (out:List Clique)(k:Nat):Prop where
 len:out.length<=k
 sz:aI6 out<=20010*k
 pos:∀ c∈out,∀ x∈c.fFrontal,1<=x
end Go.Ev
/- Nodes that hang on nothing: a tree is not built. -/
namespace Go.Ev
set_option linter.all false
theorem aKN (P:Int->Prop){s:List Link}{o:List Int}{v:Int}{b:List TreeNode}{n:TreeNode}(hs:∀ l∈s,(P l.fA↔P l.fB))(hb:∀ m∈b,∀ x y,pr m.fMessages x y->(P x↔P y))(h:mO o v (s.filter (mA o v)) b=some n) :
 (∀ x y,pr n.fMessages x y->(P x↔P y))/\(∀ p∈xF n.fCond,(P p↔P v))/\n.fNode=v:=by
 unfold mO at h
 cases e1:jnP (s.filter (mA o v)++xG v b)with
 | none=>rw[e1]at h;cases h
 | some u =>
  obtain⟨j,e⟩:=u
  rw[e1,Option.bind_some]at h
  cases e2:aBy v j with
  | none=>rw[e2]at h;cases h
  | some w =>
   obtain⟨c,m,f⟩:=w
   rw[e2,Option.bind_some]at h
   simp only[]at h
   split at h
   · cases h
     have hj:=(aA2 e1).2.1
     obtain⟨r1,r2⟩:=aLA hj e2
     have pj:∀ x y,pr j x y->(P x↔P y):=by
      intro x y hp
      rw[aGj e1,aBB]at hp
      rcases hp with⟨l,hl,rfl,rfl⟩ | hp
      · exact hs l (List.mem_filter.1 hl).1
      · obtain⟨m',hm,_,hp⟩:=aDX.1 hp
        exact hb m' hm x y hp
     have pp:∀ p∈xF c,(P p↔P v):=by
      intro p hp
      rcases(r1 p).1 hp with h1 | h1
      · exact pj _ _ h1
      · exact(pj _ _ h1).symm
     refine⟨fun x y hp=>?_,pp,rfl⟩
     rcases(r2 x y).1 hp with⟨h1,_,_⟩ | ⟨h1,h2,_⟩
     · exact pj _ _ h1
     · exact(pp x h1).trans (pp y h2).symm
   · cases h
theorem aFh (P:Int->Prop){s:List Link}{o:List Int}(hs:∀ l∈s,(P l.fA↔P l.fB)):∀ (r:List Int) (b b':List TreeNode),(∀ m∈b,(∀ x y,pr m.fMessages x y->(P x↔P y))/\∀ p∈xF m.fCond,(P p↔P m.fNode))->oG s o r b=some b' ->
 ∀ m∈b',(∀ x y,pr m.fMessages x y->(P x↔P y))/\∀ p∈xF m.fCond,(P p↔P m.fNode)
 | [],b,b',hb,h=>by cases h;exact hb
 | v::r,b,b',hb,h=>by
  rw[oG]at h
  cases e:mO o v (s.filter (mA o v)) b with
  | none=>rw[e]at h;cases h
  | some n =>
   rw[e,Option.bind_some]at h
   obtain⟨h1,h2,h3⟩:=aKN P hs (fun m hm=>(hb m hm).1) e
   refine aFh P hs r (b++[n]) b' (fun m hm=>?_) h
   rcases List.mem_append.1 hm with hm | hm
   · exact hb m hm
   · rw[List.mem_singleton.1 hm,h3];exact⟨h1,h2⟩
end Go.Ev
/- A link that hangs on nothing cannot be inserted. -/
namespace Go.Ev
set_option linter.all false
theorem aM8 {c:Conditional}(hz:aT c<=4294967296)(h:bC c=some true):c.fParents≠[]:=by
 intro e
 obtain⟨hl,hT⟩:=aFL hz
 obtain⟨g1,g2⟩:=xX _ hT
 obtain⟨r,e1,e2,e3⟩:=aFc c hz c.fParents.length 0 (by omega) (rA 0) aIr
 rw[show((0:Nat):Int)=0 from rfl]at e1
 unfold bC at h
 rw[bS 0 (by omega)]at h
 have e0:¬(0:Int)<(c.fParents.length:Int):=by rw[e];simp
 simp only[Option.bind_some,e1,g1,zP,e0,if_false]at h
 cases r with
 | inl v =>
  by_cases A:1<=c.fNode/\c.fNode<=9
  · by_cases B:0<xE c.fTotal
    · simp[A,B]at h
    · simp[A,B]at h
  · simp[A]at h
 | inr b=>simp only[]at e3;subst e3;cases h
theorem aQr {s:List Link}{o:List Int}{k:Link}(hs:∀ l∈s,l.fA≠k.fA/\l.fA≠k.fB/\l.fB≠k.fA/\l.fB≠k.fB):lA (s++[k]) (o++[k.fA,k.fB])=none:=by
 cases hb:lA (s++[k]) (o++[k.fA,k.fB])with
 | none=>rfl
 | some t =>
  exfalso
  unfold lA at hb
  cases h:jnP (s++[k])with
  | none=>rw[h]at hb;cases hb
  | some x =>
   rw[h,Option.bind_some]at hb
   by_cases c:isOrd x.1 (o++[k.fA,k.fB])
   · rw[if_pos c]at hb
     obtain⟨l9,h1⟩:=aAy c
     cases g:oG (s++[k]) (o++[k.fA,k.fB]) (o++[k.fA,k.fB]) []with
     | none=>rw[g]at hb;cases hb
     | some b =>
      obtain⟨ok,nodes⟩:=xZ (o++[k.fA,k.fB]) [] b (by simp) g
      have hp:=aFg c.1 h1 (o++[k.fA,k.fB]).length 0 (by omega) [] b (by simp) (by rw[List.drop_zero];exact g)
      have hc:=aFh (fun x=>x=k.fA\/x=k.fB) (s:=s++[k]) (o:=o++[k.fA,k.fB]) (fun l hl=>by
       rcases List.mem_append.1 hl with hl | hl
       · have:=hs l hl
         constructor <;> rintro(h | h) <;> simp_all
       · rw[List.mem_singleton.1 hl];simp) _ [] b (by simp) g
      have hv:=aDO (Q:=fun n=>bC n.fCond=some true) (fun v b n hn=>aFR hn) (o++[k.fA,k.fB]) [] b (by simp) g
      have hm:k.fB∈b.map (·.fNode):=by rw[nodes];simp
      obtain⟨n,hn,e⟩:=List.mem_map.1 hm
      have hz:=(ok n hn).2.2.1
      have hne:=aM8 (by omega) (hv n hn)
      obtain⟨p,hpm⟩:=List.exists_mem_of_ne_nil _ hne
      have hpn:p.fNode∈xF n.fCond:=List.mem_map_of_mem hpm
      have hP:=((hc n hn).2 _ hpn).2 (.inr e)
      have hl:(o++[k.fA,k.fB]).length=o.length+2:=by simp
      have late:=(hp n hn).2.late (o.length+1) (by omega) (by rw[e];simp) _ hpn
      rw[List.take_of_length_le (by omega)]at late
      rcases hP with h2 | h2 <;> exact late (by rw[h2];simp)
   · rw[if_neg c]at hb;cases hb
end Go.Ev
/- Inserting a link that hangs on the tree. -/
namespace Go.Ev
set_option linter.all false
theorem aBE {o:List Int}{k:Link}{u:Int}:u∈oP o k↔(u=k.fA\/u=k.fB)/\0<u/\u∉o:=by
 unfold oP
 rw[List.mem_filter,decide_eq_true_eq]
 simp only[List.mem_cons,List.not_mem_nil,or_false]
theorem aPg {l:List QL}{o:List Int}{k:QL}(h:Tie l o)(hl:l.length<=7)(hk:LkI k)(hj:k.a=0\/k.a∈o\/k.b∈o):Tie (l++[k]) (o++oP o k.toL) where
 nd:=by
  rw[List.nodup_append]
  refine⟨h.nd,?_,fun u hu w hw e=>?_⟩
  · unfold oP
    refine List.Pairwise.filter _ ?_
    have:=hk.1
    refine List.pairwise_cons.2 ⟨fun y hy=>?_,List.pairwise_cons.2 ⟨by simp,List.Pairwise.nil⟩⟩
    rw[List.mem_singleton]at hy
    subst hy
    show k.a≠k.b
    omega
  · rw[aBE]at hw
    exact hw.2.2 (e▸hu)
 mem:=fun u=>by
  rw[List.mem_append,h.mem,aBE]
  constructor
  · rintro(⟨h1,x,hx,ht⟩ | ⟨h1,h2,h3⟩)
    · exact⟨h1,x,by simp[hx],ht⟩
    · refine⟨by omega,k,by simp,?_⟩
      rcases h1 with h1 | h1
      · exact .inl h1.symm
      · exact .inr h1.symm
  · rintro⟨h1,x,hx,ht⟩
    rcases List.mem_append.1 hx with hx | hx
    · exact .inl ⟨h1,x,hx,ht⟩
    · rw[List.mem_singleton]at hx
      subst hx
      by_cases c:u∈o
      · exact .inl ((h.mem u).1 c)
      · refine .inr ⟨?_,by omega,c⟩
        rcases ht with ht | ht
        · exact .inl ht.symm
        · exact .inr ht.symm
 lk:=fun x hx=>by
  rcases List.mem_append.1 hx with hx | hx
  · exact h.lk x hx
  · rw[List.mem_singleton.1 hx];exact hk
 len:=by rw[List.length_append,List.length_singleton];omega
 gr:=by
  intro S hS h0
  obtain⟨u,hu,su⟩:=hS
  by_cases c:∃ w∈o,S w
  · obtain⟨x,hx,hh⟩:=h.gr S c h0
    exact⟨x,by simp[hx],hh⟩
  · have no:∀ w∈o,¬S w:=fun w hw sw=>c ⟨w,hw,sw⟩
    rcases List.mem_append.1 hu with hu | hu
    · exact absurd su (no u hu)
    · rw[aBE]at hu
      obtain⟨h1,h2,h3⟩:=hu
      refine⟨k,by simp,?_⟩
      have ha:k.toL.fA=k.a:=rfl
      have hb:k.toL.fB=k.b:=rfl
      rw[ha,hb]at h1
      rcases h1 with h1 | h1
      · left
        subst h1
        have hbo:k.b∈o:=by
         rcases hj with h4 | h4 | h4
         · omega
         · exact absurd h4 h3
         · exact h4
        exact⟨su,no _ hbo⟩
      · right
        subst h1
        refine⟨su,fun sa=>?_⟩
        rcases hj with h4 | h4 | h4
        · rw[h4]at sa;exact h0 sa
        · exact no _ h4 sa
        · exact h3 h4
theorem aMD {l:List QL}{o:List Int}(h:Tie l o):(jY l o).length=l.length:=h.inPerm.length_eq
theorem aKX {l:List QL}{o:List Int}{k:QL}(h:Tie l o)(hl:l.length<=7)(hk:LkI k)(hj:k.a=0\/k.a∈o\/k.b∈o) :
 Tie (jY l o++[k]) (o++oP o k.toL)/\lA (bP (cA l o).fNodes++[k.toL]) (o++oP o k.toL)=some (cA (jY l o++[k]) (o++oP o k.toL)):=by
 have ht:=aPg h.inTie (by rw[aMD h];exact hl) hk hj
 refine⟨ht,?_⟩
 rw[aAG]
 have:=ht.build
 rw[List.map_append]at this
 exact this
theorem aMB {l:List QL}{o:List Int}{k:QL}(h:Tie l o)(hk:LkI k)(h0:k.a≠0)(ha:k.a∉o)(hb:k.b∉o):lA (bP (cA l o).fNodes++[k.toL]) (o++oP o k.toL)=none:=by
 have hk1:=hk.1
 have e:oP o k.toL=[k.toL.fA,k.toL.fB]:=by
  unfold oP
  rw[List.filter_eq_self]
  intro u hu
  simp only[List.mem_cons,List.not_mem_nil,or_false]at hu
  rw[decide_eq_true_eq]
  rcases hu with rfl | rfl
  · exact⟨show 0<k.a by omega,ha⟩
  · exact⟨show 0<k.b by omega,hb⟩
 rw[e]
 refine aQr fun x hx=>?_
 rw[aAG]at hx
 obtain⟨y,hy,rfl⟩:=List.mem_map.1 hx
 have hy':=h.inPerm.mem_iff.1 hy
 have hl:=(h.lk y hy').1
 have ma:1<=y.a->y.a∈o:=fun h1=>(h.mem _).2 ⟨h1,y,hy',.inl rfl⟩
 have mb:y.b∈o:=(h.mem _).2 ⟨by omega,y,hy',.inr rfl⟩
 show y.a≠k.a/\y.a≠k.b/\y.b≠k.a/\y.b≠k.b
 refine⟨fun e=>?_,fun e=>?_,fun e=>ha (e▸mb),fun e=>hb (e▸mb)⟩
 · exact ha (e▸ma (by omega))
 · exact hb (e▸ma (by omega))
end Go.Ev
/- Nodes that an inserted link does not change. -/
namespace Go.Ev
set_option linter.all false
theorem nQ (l:List QL)(o:List Int)(v:Int):∀ (p:List Int) (b:List NQ),aH l o (p++[v]) b=aH l o p b++[nxt l o v (aH l o p b)]
 | [],b=>rfl
 | u::p,b=>by rw[List.cons_append,aH,aH,nQ l o v p]
theorem TInv.at {l:List QL}{o:List Int}(hb:Base l o)(hg:Grounded l o):∀ (n:Nat) (p r:List Int),p.length=n->o=p++r->TInv l o p r (aH l o p [])
 | 0,p,r,hn,e=>by
  have:p=[]:=List.length_eq_zero_iff.1 hn
  subst this
  rw[List.nil_append]at e
  subst e
  exact TInv.start hb hg
 | n+1,p,r,hn,e=>by
  rcases List.eq_nil_or_concat p with rfl | ⟨q,v,rfl⟩
  · simp at hn
  · rw[List.concat_eq_append]at hn e ⊢
    have ih:=TInv.at hb hg n q (v::r) (by simpa using hn) (by rw[e,List.append_assoc];rfl)
    rw[nQ]
    exact(ih.next hb).1
def aKA {α:Type}(R:α->α->Prop):List α->List α->Prop
 | [],[]=>True
 | x::a,y::b=>R x y/\aKA R a b
 | [],_::_=>False
 | _::_,[]=>False
theorem aHv {α:Type}{R:α->α->Prop}{x y:α}(h2:R x y):∀ {a b:List α},aKA R a b->aKA R (a++[x]) (b++[y])
 | [],[],_=>⟨h2,trivial⟩
 | z::a,w::b,h=>⟨h.1,aHv h2 h.2⟩
 | [],_::_,h=>h.elim
 | _::_,[],h=>h.elim
theorem aGt {α:Type}{R:α->α->Prop}{p:α->Bool}(hr:∀ x y,R x y->(x=y\/(p x=false/\p y=false))):∀ {a b:List α},aKA R a b->a.filter p=b.filter p
 | [],[],_=>rfl
 | [],_::_,h=>h.elim
 | _::_,[],h=>h.elim
 | x::a,y::b,h=>by
  have ih:=aGt hr h.2
  rw[List.filter_cons,List.filter_cons,ih]
  rcases hr x y h.1 with e | ⟨e1,e2⟩
  · rw[e]
  · rw[e1,e2];rfl
theorem aJf {α:Type}{R:α->α->Prop}:∀ {a b:List α},aKA R a b->∀ y∈b,∃ x∈a,R x y
 | [],[],_,y,hy=>by cases hy
 | [],_::_,h,_,_=>h.elim
 | _::_,[],h,_,_=>h.elim
 | x::a,z::b,h,y,hy=>by
  rcases List.mem_cons.1 hy with e | hy
  · exact⟨x,by simp,e▸h.1⟩
  · obtain⟨w,hw,hr⟩:=aJf h.2 y hy
    exact⟨w,by simp[hw],hr⟩
theorem aMq {l l':List QL}{o o':List Int}{v:Int}{b b':List NQ}(h1:l'.filter (kB o' v)=l.filter (kB o v))(h2:b'.filter (kid v)=b.filter (kid v))(h3:∀ s,(∀ u∈s,u=0\/u∈o)->aQ o' s=aQ o s)(h4:∀ u∈psN (nxt l o v b).cond,u=0\/u∈o):nxt l' o' v b'=nxt l o v b:=by
 have e1:mP v b'=mP v b:=by
  have:(b'.filter (kid v)).flatMap (fun n=>n.msgs)=(b.filter (kid v)).flatMap (fun n=>n.msgs):=by rw[h2]
  exact this
 have e2:aBl v b'=aBl v b:=by
  have:dQ (fun n:NQ=>n.den) (b'.filter (kid v))=dQ (fun n:NQ=>n.den) (b.filter (kid v)):=by rw[h2]
  exact this
 have e3:upQ o' (nxt l o v b).cond=upQ o (nxt l o v b).cond:=h3 _ h4
 unfold nxt aCA at e3 ⊢
 simp only[]at e3 ⊢
 rw[h1,e1,e2,e3]
end Go.Ev
/- Nodes outside a closed set stay as they are. -/
namespace Go.Ev
set_option linter.all false
set_option maxHeartbeats 2000000
section
variable {l:List QL}{o:List Int}{k:QL}{L:Int->Prop}
def Rel (o o':List Int)(L:Int->Prop)(c c':NQ):Prop :=
 c.node=c'.node/\(¬L c.node->c=c')/\(L c.node->(∀ u∈psN c'.cond,u=0\/L u)/\∀ u∈psN c.cond,u=0\/L u)/\c.up=aQ o (psN c.cond)/\c'.up=aQ o' (psN c'.cond)
theorem aHT {o e s:List Int}(h1:∀ u∈o,1<=u)(he:∀ u∈e,0<u/\u∉o)(hs:∀ u∈s,u=0\/u∈o):aQ (o++e) s=aQ o s:=by
 rcases aBR (s:=s) h1 with⟨h2,h3⟩ | ⟨p,v,r,e1,h2,h3,h4⟩
 · rw[aCj h3,h2]
   unfold aQ
   have:e.find? (fun u=>decide (u∈s))=none:=List.find?_eq_none.2 fun u hu hm=>by
    have hm:=of_decide_eq_true hm
    rcases hs u hm with h | h
    · have:=(he u hu).1;omega
    · exact(he u hu).2 h
   rw[this];rfl
 · rw[h2,e1,List.append_assoc,aCj h4,List.cons_append,aJU h3]
end
end Go.Ev
/- Parents lie on the path. -/
namespace Go.Ev
set_option linter.all false
theorem aB5 (l:List QL)(o:List Int):∀ (p q:List Int) (b:List NQ),aH l o (p++q) b=aH l o q (aH l o p b)
 | [],q,b=>rfl
 | v::p,q,b=>by rw[List.cons_append,aH,aH,aB5 l o p q]
theorem aCQ (l:List QL)(o:List Int):∀ (q:List Int) (b:List NQ),∀ c∈b,c∈aH l o q b
 | [],b,c,h=>h
 | v::q,b,c,h=>by rw[aH];exact aCQ l o q _ c (by simp[h])
theorem aKK (l:List QL)(o:List Int)(p:List Int)(v:Int)(r:List Int):nxt l o v (aH l o p [])∈aH l o (p++v::r) []:=by
 rw[aB5,aH]
 exact aCQ l o r _ _ (by simp)
theorem aMW {l:List QL}{o:List Int}(h:Tie l o){S:Int->Prop}(hS:∀ n∈aH l o o [],S n.node->n.up≠0->S n.up) :
 ∀ (m:Nat) (p:List Int) (v:Int) (r:List Int),r.length<=m->o=p++v::r->S v->∀ u∈psN (nxt l o v (aH l o p [])).cond,u=0\/S u:=by
 intro m
 induction m with
 | zero =>
  intro p v r hr e sv u hu
  have ti:=TInv.at h.base h.gr p.length p (v::r) rfl e
  have:=(ti.nxt_rem h.base u hu).1
  have r0:r=[]:=List.length_eq_zero_iff.1 (by omega)
  rw[r0]at this
  left;simpa using this
 | succ m ih =>
  intro p v r hr e sv u hu
  by_cases u0:u=0
  · exact .inl u0
  right
  have ti:=TInv.at h.base h.gr p.length p (v::r) rfl e
  have hup:=ti.nxt_up h.base hu u0
  have hin:=aKK l o p v r
  rw[<- e]at hin
  have hv1:∀ w∈r,1<=w:=fun w hw=>(h.base.h1 w (by rw[e];simp[hw])).1
  have sw:=hS _ hin sv (by have:=hv1 _ hup;omega)
  obtain⟨r1,r2,er⟩:=List.append_of_mem hup
  generalize hw:(nxt l o v (aH l o p [])).up=w at hup sw er
  have e2:o=(p++v::r1)++w::r2:=by rw[List.append_assoc,List.cons_append,<- er];exact e
  by_cases uw:u=w
  · exact uw▸sw
  · have ti2:=TInv.at h.base h.gr (p++v::r1).length (p++v::r1) (w::r2) rfl e2
    have hc:=aKK l o p v r1
    have:=(ti2.kid_ps h.base hc hw).2 u hu uw
    exact(ih (p++v::r1) w r2 (by rw[er]at hr;simp at hr;omega) e2 sw u this).resolve_left u0
end Go.Ev
/- What an inserted link changes lies in the list. -/
namespace Go.Ev
set_option linter.all false
theorem aJ5 (t:Tree)(y:Int):∀ (b:List TreeNode) (m:List Int),y∈b.foldl (aD5 t) m->y∈m\/∃ n∈b,n.fNode=y/\aJ6 t n
 | [],m,h=>.inl h
 | n::b,m,h=>by
  rw[List.foldl_cons]at h
  rcases aJ5 t y b _ h with h1 | ⟨x,hx,e⟩
  · unfold aD5 at h1
    split at h1
    · rename_i c
      rcases List.mem_append.1 h1 with h1 | h1
      · exact .inl h1
      · exact .inr ⟨n,by simp,(List.mem_singleton.1 h1).symm,c⟩
    · exact .inl h1
  · exact .inr ⟨x,by simp[hx],e⟩
theorem aMX {t:Tree}(hn:(dI t).Nodup){n:TreeNode}(h:n∈t.fNodes):aJ6 t n=false:=by
 obtain⟨k,hk,rfl⟩:=List.getElem_of_mem h
 unfold aJ6
 rw[aOQ hn hk]
 simp[List.getElem?_eq_getElem hk]
end Go.Ev
/- Energies at positions: what joining and eliminating keep. -/
namespace Go.Ev
set_option linter.all false
def eP (p q:Int->Q)(x:QL):Q:=x.w*sqQ (p x.b-p x.a-x.x) (q x.b-q x.a-x.y)
theorem aQC (p q:Int->Q){k l:QL}(ha:k.a=l.a)(hb:k.b=l.b)(hk:0<k.w)(hl:0<l.w):eP p q (mrg k l)+aFX k l=eP p q k+eP p q l:=by
 have:k.w+l.w≠0:=by grind
 unfold eP mrg aFX sqQ
 simp only[]
 rw[ha,hb]
 generalize p l.b-p l.a=u
 generalize q l.b-q l.a=v
 grind
theorem aL8 (p q:Int->Q):∀ (s:List QL) (l:QL),(∀ x∈s,0<x.w)->0<l.w->sm (eP p q) (jU s l).1+(jU s l).2=sm (eP p q) s+eP p q l
 | [],l,_,_=>by simp only[jU,sm];grind
 | k::s,l,hs,hl=>by
  have hk:=hs k (by simp)
  have hr:=fun x hx=>hs x (List.mem_cons_of_mem k hx)
  by_cases c:dH k l
  · have ih:=aL8 p q s l hr hl
    rw[tM c,sm,sm]
    simp only[]
    grind
  · by_cases d:dH l k
    · rw[wY c d]
      simp only[sm]
      grind
    · have e:=aQC p q (zG c d).1 (zG c d).2 hk hl
      rw[wX c d]
      simp only[sm]
      grind
theorem aKf (s:List QL)(l:QL)(hs:∀ x∈s,0<x.w)(hl:0<l.w):∀ x∈(jU s l).1,0<x.w :=
 aDH (P:=fun x=>0<x.w) (fun k l _ _ h1 h2=>aLI h1 h2) s l hs hl
theorem aGi (p q:Int->Q):∀ (l s:List QL) (e:Q),(∀ x∈l,0<x.w)->(∀ x∈s,0<x.w)->sm (eP p q) (bH l s e).1+(bH l s e).2=sm (eP p q) s+sm (eP p q) l+e
 | [],s,e,_,_=>by simp only[bH,sm];grind
 | x::l,s,e,hl,hs=>by
  have hx:=hl x (by simp)
  have h1:=aGi p q l (jU s x).1 (e+(jU s x).2) (fun y hy=>hl y (by simp[hy])) (aKf s x hs hx)
  have h2:=aL8 p q s x hs hx
  rw[bH,sm]
  grind
theorem aHN:∀ (l s:List QL) (e:Q),(∀ x∈l,0<x.w)->(∀ x∈s,0<x.w)->∀ x∈(bH l s e).1,0<x.w
 | [],s,e,_,hs=>hs
 | x::l,s,e,hl,hs=>by
  rw[bH]
  exact aHN l _ _ (fun y hy=>hl y (by simp[hy])) (aKf s x hs (hl x (by simp)))
theorem aQP (p q:Int->Q){v:Int}{l:QL}(h:aEw v l=true):eP p q (aBm v l)=eP p q l:=by
 have h:=of_decide_eq_true h
 unfold aBm
 by_cases c:l.a=v
 · rw[if_pos c]
   unfold eP sqQ
   simp only[]
   rw[c]
   grind
 · rw[if_neg c]
   have hb:l.b=v:=h.resolve_left c
   unfold eP sqQ
   simp only[]
   rw[hb]
theorem aI9 (p q:Int->Q)(v:Int):∀ s:List QL,sm (eP p q) s=sm (eP p q) (bR v s)+sm (eP p q) (uS v s)
 | []=>by simp only[bR,uS,List.filter_nil,List.map_nil,sm];grind
 | x::s=>by
  have ih:=aI9 p q v s
  unfold bR uS at ih ⊢
  rw[List.filter_cons,List.filter_cons,sm]
  by_cases c:aEw v x=true
  · have e:=aQP p q c
    simp only[c,Bool.not_true,if_true,Bool.false_eq_true,if_false,List.map_cons,sm];grind
  · simp only[c,Bool.not_eq_true,if_false,Bool.not_false,if_true,sm];grind
def app (f:Int->Q)(g:PQ->Q):List PQ->Q
 | []=>0
 | x::r=>x.s*(f x.node+g x)+app f g r
def cdE (p q:Int->Q)(c:CQ):Q:=c.t*sqQ (p c.node-app p (·.x) c.ps) (q c.node-app q (·.y) c.ps)
theorem aQd (f:Int->Q)(t:Q):∀ a:List QL,app f (·.x) (a.map (zB t))=sm (fun y=>y.w*(f y.a+y.x)) a / t
 | []=>by simp only[List.map_nil,app,sm];grind
 | x::a=>by
  rw[List.map_cons,app,sm,aQd f t a]
  unfold zB
  simp only[]
  grind
theorem aQc (f:Int->Q)(t:Q):∀ a:List QL,app f (·.y) (a.map (zB t))=sm (fun y=>y.w*(f y.a+y.y)) a / t
 | []=>by simp only[List.map_nil,app,sm];grind
 | x::a=>by
  rw[List.map_cons,app,sm,aQc f t a]
  unfold zB
  simp only[]
  grind
section
variable (p q:Int->Q)
def s1x (a:List QL):Q:=sm (fun y=>y.w*(p y.a+y.x)) a
def s1y (a:List QL):Q:=sm (fun y=>y.w*(q y.a+y.y)) a
def s2 (a:List QL):Q:=sm (fun y=>y.w*sqQ (p y.a+y.x) (q y.a+y.y)) a
theorem aOa (t:Q)(ht:t≠0)(x:QL):∀ a:List QL,sm (eP p q) (a.map (mlQ t x))*t=x.w*(s2 p q a-2*(p x.a+x.x)*s1x p a-2*(q x.a+x.y)*s1y q a+sqQ (p x.a+x.x) (q x.a+x.y)*sm wt a)
 | []=>by simp only[List.map_nil,sm,s2,s1x,s1y];grind
 | y::a=>by
  have ih:=aOa t ht x a
  unfold s2 s1x s1y at ih ⊢
  rw[List.map_cons,sm,sm,sm,sm,sm,_root_.Rat.add_mul,ih]
  unfold eP mlQ sqQ wt
  simp only[]
  generalize sm (fun y=>y.w*((p y.a+y.x)*(p y.a+y.x)+(q y.a+y.y)*(q y.a+y.y))) a=S2
  generalize sm (fun y=>y.w*(p y.a+y.x)) a=S1
  generalize sm (fun y=>y.w*(q y.a+y.y)) a=S3
  generalize sm (fun l=>l.w) a=S0
  generalize p x.a=px
  generalize p y.a=py
  generalize q x.a=qx
  generalize q y.a=qy
  have e:x.w*y.w / t*((py-px-(x.x-y.x))*(py-px-(x.x-y.x))+(qy-qx-(x.y-y.y))*(qy-qx-(x.y-y.y)))*t=x.w*y.w*((py-px-(x.x-y.x))*(py-px-(x.x-y.x))+(qy-qx-(x.y-y.y))*(qy-qx-(x.y-y.y))):=by grind
  rw[e]
  grind
theorem aLO (t:Q)(ht:t≠0):∀ a:List QL,sm (eP p q) (mQ t a)*t=sm wt a*s2 p q a-s1x p a*s1x p a-s1y q a*s1y q a
 | []=>by simp only[mQ,sm,s2,s1x,s1y];grind
 | x::a=>by
  have ih:=aLO t ht a
  have h:=aOa p q t ht x a
  rw[mQ,sY,_root_.Rat.add_mul,ih,h]
  unfold s2 s1x s1y
  rw[sm,sm,sm,sm]
  unfold wt sqQ
  grind
theorem aL3 (v:Int):∀ a:List QL,(∀ x∈a,x.b=v)->sm (eP p q) a=sm wt a*sqQ (p v) (q v)-2*p v*s1x p a-2*q v*s1y q a+s2 p q a
 | [],_=>by simp only[sm,s2,s1x,s1y];grind
 | x::a,h=>by
  have ih:=aL3 v a (fun y hy=>h y (by simp[hy]))
  have hx:=h x (by simp)
  unfold s2 s1x s1y at ih ⊢
  rw[sm,sm,sm,sm,sm,ih]
  unfold eP wt sqQ
  rw[hx]
  grind
theorem aPi {v:Int}{a:List QL}(hb:∀ x∈a,x.b=v)(h:sm wt a≠0):sm (eP p q) a=cdE p q (pE v a)+sm (eP p q) (mQ (sm wt a) a):=by
 have h1:=aLO p q (sm wt a) h a
 have h2:=aL3 p q v a hb
 unfold cdE pE
 simp only[]
 rw[aQd,aQc,h2]
 have e1:sm (fun y=>y.w*(p y.a+y.x)) a=s1x p a:=rfl
 have e2:sm (fun y=>y.w*(q y.a+y.y)) a=s1y q a:=rfl
 rw[e1,e2]
 unfold sqQ
 have h3:sm (eP p q) (mQ (sm wt a) a)=(sm wt a*s2 p q a-s1x p a*s1x p a-s1y q a*s1y q a) / sm wt a:=by grind
 rw[h3]
 grind
end
theorem aQO (v:Int)(s:List QL):∀ x∈bR v s,x.b=v:=by
 intro x hx
 obtain⟨l,_,_,rfl⟩:=wQ.1 hx
 unfold aBm
 split <;> rfl
theorem aJz {t:Q}(ht:0<t):∀ {a:List QL},(∀ x∈a,0<x.w)->∀ z∈mQ t a,0<z.w
 | x::a,h,z,hz=>by
  rw[mQ,List.mem_append]at hz
  rcases hz with hz | hz
  · obtain⟨y,hy,rfl⟩:=List.mem_map.1 hz
    have h1:=_root_.Rat.mul_pos (h x (by simp)) (h y (by simp[hy]))
    show 0<x.w*y.w / t
    rw[_root_.Rat.lt_div_iff ht];grind
  · exact aJz ht (fun y hy=>h y (by simp[hy])) z hz
theorem aPu (p q:Int->Q){l:List QL}{o:List Int}{v:Int}{b:List NQ}(hp:∀ x∈l.filter (kB o v)++mP v b,0<x.w)(hW:0<sm wt (bR v (bH (l.filter (kB o v)++mP v b) [] 0).1)) :
 sm (eP p q) (l.filter (kB o v))+sm (eP p q) (mP v b)=cdE p q (nxt l o v b).cond+(nxt l o v b).enQ+sm (eP p q) (nxt l o v b).msgs:=by
 generalize hF:l.filter (kB o v)++mP v b=F at hp hW
 have h1:=aGi p q F [] 0 hp (by simp)
 have p1:=aHN F [] 0 hp (by simp)
 have h2:=aI9 p q v (bH F [] 0).1
 have h3:=aPi p q (aQO v (bH F [] 0).1) (by grind)
 have pa:∀ x∈bR v (bH F [] 0).1,0<x.w:=fun x hx=>by
  obtain⟨y,hy,_,rfl⟩:=wQ.1 hx
  rw[aDG];exact p1 y hy
 have pn:∀ x∈iQ v (bH F [] 0).1,0<x.w:=fun x hx=>by
  rcases List.mem_append.1 hx with hx | hx
  · exact p1 x (aAp.1 hx).1
  · exact aJz hW pa x hx
 have h4:=aGi p q (iQ v (bH F [] 0).1) [] 0 pn (by simp)
 have h5:sm (eP p q) (iQ v (bH F [] 0).1)=sm (eP p q) (uS v (bH F [] 0).1)+sm (eP p q) (mQ (sm wt (bR v (bH F [] 0).1)) (bR v (bH F [] 0).1)):=sY _ _ _
 have e1:(nxt l o v b).cond=pE v (bR v (bH F [] 0).1):=by rw[<- hF];rfl
 have e2:(nxt l o v b).enQ=(bH F [] 0).2+(bH (iQ v (bH F [] 0).1) [] 0).2:=by rw[<- hF];rfl
 have e3:(nxt l o v b).msgs=(bH (iQ v (bH F [] 0).1) [] 0).1:=by rw[<- hF];rfl
 have e4:sm (eP p q) F=sm (eP p q) (l.filter (kB o v))+sm (eP p q) (mP v b):=by rw[<- hF];exact sY _ _ _
 rw[e1,e2,e3]
 simp only[sm]at h1 h4
 grind
end Go.Ev
/- Parents of parents; the nodes of a tree by their place. -/
namespace Go.Ev
set_option linter.all false
theorem aHq {p r p' r':List Int}{w:Int}(hn:(p++w::r).Nodup)(e:p++w::r=p'++w::r'):p=p'/\r=r':=by
 induction p generalizing p' with
 | nil =>
  cases p' with
  | nil=>exact⟨rfl,by simpa using e⟩
  | cons x p' =>
   rw[List.nil_append,List.cons_append]at e
   injection e with e1 e2
   subst e1
   rw[List.nil_append,List.nodup_cons,e2]at hn
   exact absurd (by simp) hn.1
 | cons y p ih =>
  cases p' with
  | nil =>
   rw[List.nil_append,List.cons_append]at e
   injection e with e1 e2
   subst e1
   rw[List.cons_append,List.nodup_cons]at hn
   exact absurd (by simp) hn.1
  | cons x p' =>
   rw[List.cons_append,List.cons_append]at e
   injection e with e1 e2
   rw[List.cons_append,List.nodup_cons]at hn
   obtain⟨g1,g2⟩:=ih hn.2 e2
   exact⟨by rw[e1,g1],g2⟩
theorem anc {l:List QL}{o:List Int}(h:Tie l o):∀ (m:Nat) (p:List Int) (v:Int) (r:List Int),r.length<=m->o=p++v::r->
 ∀ w u,w∈psN (nxt l o v (aH l o p [])).cond->u∈psN (nxt l o v (aH l o p [])).cond->u≠w->∀ p2 r2,o=p2++w::r2->u∈0::r2->u∈psN (nxt l o w (aH l o p2 [])).cond:=by
 intro m
 induction m with
 | zero =>
  intro p v r hr e w u hw hu huw p2 r2 e2 hur
  have ti:=TInv.at h.base h.gr p.length p (v::r) rfl e
  have:=(ti.nxt_rem h.base w hw).1
  have r0:r=[]:=List.length_eq_zero_iff.1 (by omega)
  rw[r0]at this
  have w1:=(h.five w (by rw[e2];simp)).1
  simp at this;omega
 | succ m ih =>
  intro p v r hr e w u hw hu huw p2 r2 e2 hur
  have hnd:=h.nd
  have w1:=(h.five w (by rw[e2];simp)).1
  have ti:=TInv.at h.base h.gr p.length p (v::r) rfl e
  have hup:=ti.nxt_up h.base hw (by omega)
  obtain⟨r1,r3,er⟩:=List.append_of_mem hup
  generalize hx:(nxt l o v (aH l o p [])).up=x at hup er
  have e3:o=(p++v::r1)++x::r3:=by rw[List.append_assoc,List.cons_append,<- er];exact e
  have ti2:=TInv.at h.base h.gr (p++v::r1).length (p++v::r1) (x::r3) rfl e3
  have hc:=aKK l o p v r1
  have kp:=(ti2.kid_ps h.base hc hx).2
  by_cases c:w=x
  · subst c
    obtain⟨g1,g2⟩:=aHq (by rw[<- e2];exact hnd) (e2.symm.trans e3)
    rw[g1]
    exact kp u hu huw
  · have hw2:=kp w hw c
    have hwr:=(ti2.nxt_rem h.base w hw2).1
    have hwr:w∈r3:=(List.mem_cons.1 hwr).resolve_left (by omega)
    obtain⟨s1,s2,es⟩:=List.append_of_mem hwr
    have e4:o=(p++v::r1++x::s1)++w::s2:=by
     rw[List.append_assoc,List.cons_append,<- es];exact e3
    obtain⟨g1,g2⟩:=aHq (by rw[<- e2];exact hnd) (e2.symm.trans e4)
    have ux:u≠x:=by
     rintro rfl
     have u1:=(h.five u (by rw[e3];simp)).1
     have:u∈s2:=by rw[<- g2];exact(List.mem_cons.1 hur).resolve_left (by omega)
     rw[e4]at hnd
     exact(List.nodup_append.1 hnd).2.2 u (by simp) u (List.mem_cons_of_mem _ this) rfl
    exact ih (p++v::r1) x r3 (by rw[er]at hr;simp at hr;omega) e3 w u hw2 (kp u hu ux) huw p2 r2 e2 hur
theorem aHo (l:List QL)(o:List Int):∀ (q:List Int) (b:List NQ),∃ c,aH l o q b=b++c
 | [],b=>⟨[],by simp[aH]⟩
 | v::q,b=>by
  obtain⟨c,e⟩:=aHo l o q (b++[nxt l o v b])
  exact⟨nxt l o v b::c,by rw[aH,e,List.append_assoc];rfl⟩
theorem xT (l:List QL)(o:List Int)(q:List Int)(b:List NQ):(aH l o q b).length=b.length+q.length:=by
 have:=congrArg List.length (zE l o q b)
 simpa using this
theorem aDV (l:List QL)(o:List Int):(cA l o).fNodes.length=o.length:=by
 show((aH l o o []).map NQ.toN).length=_
 rw[List.length_map,xT];simp
theorem aNT {l:List QL}{o p:List Int}{v:Int}{r:List Int}(e:o=p++v::r):(cA l o).fNodes[p.length]?=some (nxt l o v (aH l o p [])).toN:=by
 show((aH l o o []).map NQ.toN)[p.length]?=_
 have:aH l o o []=aH l o (p++v::r) []:=congrArg (fun z=>aH l o z []) e
 rw[this,aB5,aH]
 obtain⟨c,ec⟩:=aHo l o r (aH l o p []++[nxt l o v (aH l o p [])])
 rw[ec,List.map_append,List.map_append,List.append_assoc,List.getElem?_append_right (by rw[List.length_map,xT];simp)]
 simp[xT]
end Go.Ev
