/- Parts QT, QU, PG1, VA, PS1, PS2, PS3, PT1, P22b, PT2, VB, VC, PT3, VD, VE, PT4, VF, VG, VH, VI, VJ, VK, VL, VS, VP, VT, VU, VW, VX, VY. -/
import Derived.Test.YtlhoochohnnepaaGreatPb3
import Derived.Test.YtlhoochohnnepaaGreatPa1
import Derived.Test.YtlhoochohnnepaaGreatLd
import Derived.Test.YtlhoochohnnepaaGreatPb2
import Derived.Test.YtlhoochohnnepaaGreatPb1
set_option linter.all false
/- Trees over the rational numbers: the whole tree. -/
namespace Go.Ev
set_option linter.all false
section
variable {l:List QL}{o pre r:List Int}{v:Int}{b:List NQ}
theorem TInv.next (hb:Base l o)(hi:TInv l o pre (v::r) b):TInv l o (pre++[v]) r (b++[nxt l o v b])/\sC o v ((l.filter (pQ o v)).map QL.toL) (b.map NQ.toN)=some (nxt l o v b).toN/\bX (nxt l o v b).enQ:=by
 obtain⟨n,h1,hv,v1,v9,hl,nV,hV⟩:=hi.facts hb
 have hinc:=hi.inc hb
 obtain⟨c1,c2,c3,c4,c5,c6,c7⟩:=aNG (order:=o) hinc
 have hmem:∀ c∈b++[nxt l o v b],c∈b\/c=nxt l o v b:=fun c hc=>by simpa using hc
 have hlen:(b++[nxt l o v b]).length=b.length+1:=by simp
 have hsp:=hi.split
 refine⟨⟨?_,?_,?_,?_,?_,?_,?_,?_⟩,c1,c2⟩
 · rw[hsp];simp
 · rw[hlen,List.length_append,hi.len];rfl
 · intro c hc hu
   rcases hmem c hc with hc | rfl
   · exact hi.den c hc (List.mem_cons_of_mem v hu)
   · exact c3
 · intro c hc hu
   rw[hlen]
   rcases hmem c hc with hc | rfl
   · obtain⟨m1,m2⟩:=hi.msg c hc (List.mem_cons_of_mem v hu)
     exact⟨fun x hx=>aKa (m1 x hx) (Nat.dvd_refl _) (Nat.mul_le_mul_left _ (Nat.pow_le_pow_right (by omega) (by omega))),m2⟩
   · refine⟨fun x hx=>?_,c6⟩
     have:=(c5 x hx).1
     have e:2*(20*2 ^ b.length)=20*2 ^ (b.length+1):=by rw[Nat.pow_succ];omega
     rw[<- e];exact this
 · intro c hc hu
   rcases hmem c hc with hc | rfl
   · obtain⟨p1,p2,p3,p4⟩:=hi.ps c hc (List.mem_cons_of_mem v hu)
     refine⟨fun u hm=>?_,p2,p3,p4⟩
     have h:=p1 u hm
     simp only[List.mem_cons]at h ⊢
     rcases h with h | h | h
     · exact .inl h
     · exfalso
       subst h
       rw[hsp]at p2
       have:c.up=u:=p2.trans ((yT n h1).2 ⟨hm,fun z hz hz2=>by
        rcases List.mem_cons.1 (p1 z hz2)with rfl | h
        · have:=h1 0 (List.mem_append_left _ hz);omega
        · exact(List.nodup_append.1 n).2.2 z hz z h rfl⟩)
       rw[this]at hu;exact hv hu
     · exact .inr h
   · refine⟨fun u hm=>(hi.nxt_rem hb u hm).1,rfl,fun x hx=>?_,fun u hu' w hw' huw=>?_⟩
     · have hj:=(hinc.join).2.1
       refine⟨?_,?_,(c5 x hx).2.2.2⟩
       all_goals
        obtain⟨y,hy,e1,e2⟩:=vE _ [] 0 x hx
        have hy:=hy.resolve_left (by simp)
        rcases List.mem_append.1 hy with hy | hy
        · obtain⟨m1,m2,m3⟩:=aAi.1 hy
          obtain⟨z,hz,f1,f2⟩:=vE _ [] 0 y m1
          have hz:=hz.resolve_left (by simp)
          rcases List.mem_append.1 hz with hz | hz
          · exfalso
            have:=(List.mem_filter.1 hz).2
            rw[hsp]at this
            have:=((aDb n h1).1 this).1
            omega
          · obtain⟨c,hc,hu2,hz⟩:=yH.1 hz
            obtain⟨_,hk⟩:=hi.kid_ps hb hc hu2
            obtain⟨_,_,p3,_⟩:=hi.ps c hc (by rw[hu2];simp)
            have g1:=(p3 z hz).1
            have g2:=(p3 z hz).2.1
            rw[f1,e1]at g1
            rw[f2,e2]at g2
            first | exact hk _ g1 (by omega) | exact hk _ g2 (by omega)
        · obtain⟨_,_,_,_,⟨y1,hy1,q1⟩,y2,hy2,q2⟩:=hj.arms.each hy
          have e:psN (nxt l o v b).cond=(bQ v (bF (l.filter (pQ o v)++oM v b) [] 0).1).map fun x=>x.a:=aBq v _
          rw[e]
          first | exact List.mem_map.2 ⟨y1,hy1,q1.trans e1⟩ | exact List.mem_map.2 ⟨y2,hy2,q2.trans e2⟩
     · have hj:=(hinc.join).2.1
       have e:psN (nxt l o v b).cond=(bQ v (bF (l.filter (pQ o v)++oM v b) [] 0).1).map fun x=>x.a:=aBq v _
       rw[e]at hu' hw'
       obtain⟨x,hx,rfl⟩:=List.mem_map.1 hu'
       obtain⟨y,hy,rfl⟩:=List.mem_map.1 hw'
       have hm:=aJr (sm wt (bQ v (bF (l.filter (pQ o v)++oM v b) [] 0).1)) hj.arms.inc x hx y hy huw
       obtain⟨z,hz,f1,f2⟩:=vD (iQ v (bF (l.filter (pQ o v)++oM v b) [] 0).1) [] 0 _ (.inr (List.mem_append_right _ hm))
       exact⟨z,hz,f1.symm,f2.symm⟩
 · obtain⟨k1,k2,k3⟩:=hi.kids
   rw[hlen,List.filter_append,aHi]
   have e1:b.filter (iS r)=b.filter fun c=>iS (v::r) c&&!kid v c:=by
    rw[<- aD1 hv,List.filter_filter]
    refine List.filter_congr fun c _=>?_
    rw[Bool.and_comm]
   rw[e1]
   have ekk:ex' (b.length+1)=ex (b.length+1):=by unfold ex';rw[if_neg (by omega)]
   rw[ekk]
   have hD:(aCl v b=1/\dU (fun c:NQ=>72*c.den) (b.filter (kid v))=1)\/72*aCl v b<=dU (fun c:NQ=>72*c.den) (b.filter (kid v)):=by
    by_cases c:b.filter (kid v)=[]
    · left
      have e:aCl v b=dU (fun c:NQ=>c.den) (b.filter (kid v)):=rfl
      rw[e,c];exact⟨rfl,rfl⟩
    · exact .inr (aC9 (fun c:NQ=>c.den) _ c)
   have hs:=aMb k3 k2 k1 c4 hD
   have le:dU (fun c:NQ=>72*c.den) ([nxt l o v b].filter (iS r))<=72*(nxt l o v b).den:=by
    have hp:0<(nxt l o v b).den:=c3
    rw[List.filter_cons,List.filter_nil]
    split
    · simp[dU]
    · simp only[dU];omega
   exact Nat.le_trans (Nat.mul_le_mul_left _ le) hs
 · have hw:=(aHR hi hb).1
   have hn:0<=sm wt (nxt l o v b).msgs:=iX fun x hx=>(c5 x hx).1
   have e:sm wt (dO ((b++[nxt l o v b]).filter (iS r)))<=sm wt (dO (b.filter (iS r)))+sm wt (nxt l o v b).msgs:=by
    unfold dO
    rw[List.filter_append,List.flatMap_append,sS,List.filter_cons,List.filter_nil]
    split
    · rw[List.flatMap_cons,List.flatMap_nil,List.append_nil];grind
    · rw[List.flatMap_nil];simp only[sm];grind
   have c7':sm wt (nxt l o v b).msgs<=sm wt (l.filter (pQ o v)++oM v b):=c7
   grind
 · intro S hS h0
   obtain⟨u0,hu0,su0⟩:=hS
   have viaN:∀ u w,S u->¬S w->u∈psN (nxt l o v b).cond->w∈psN (nxt l o v b).cond->aML l o r (b++[nxt l o v b]) u w:=by
    intro u w su sw hu hw
    exact .inr ⟨nxt l o v b,by simp,hi.nxt_up hb hu (fun e=>h0 (e▸su)),hu,hw⟩
   have up:∀ u w,aML l o r b u w->aML l o r (b++[nxt l o v b]) u w:=by
    rintro u w (⟨x,hx,h⟩ | ⟨c,hc,h⟩)
    · exact .inl ⟨x,hx,h⟩
    · exact .inr ⟨c,by simp[hc],h⟩
   have ne0:u0≠v:=fun e=>hv (e▸hu0)
   obtain⟨u,w,⟨su,uv⟩,sw,ad⟩:=hi.cut (fun u=>S u/\u≠v) ⟨u0,List.mem_cons_of_mem v hu0,su0,ne0⟩ (fun h=>h0 h.1)
   have uw:u≠w:=fun e=>sw (e▸⟨su,uv⟩)
   obtain⟨t1,t2,t3⟩:=hi.adj hb ad uw
   by_cases wv:w=v
   · have hu:=t2 wv
     obtain⟨u',w',su',sw',ad'⟩:=hi.cut (fun u=>S u\/u=v) ⟨u0,List.mem_cons_of_mem v hu0,.inl su0⟩ (fun h=>h.elim h0 (by omega))
     have uw':u'≠w':=fun e=>sw' (e▸su')
     obtain⟨t1',t2',t3'⟩:=hi.adj hb ad' uw'
     have wv':w'≠v:=fun e=>sw' (.inr e)
     have sw2:¬S w':=fun h=>sw' (.inl h)
     by_cases uv':u'=v
     · exact⟨u,w',su,sw2,viaN u w' su sw2 hu (t1' uv')⟩
     · have su2:S u':=su'.resolve_right uv'
       rcases t3' uv' wv' with⟨g1,g2⟩ | g
       · exact⟨u',w',su2,sw2,viaN u' w' su2 sw2 g1 g2⟩
       · exact⟨u',w',su2,sw2,up _ _ g⟩
   · have sw2:¬S w:=fun h=>sw ⟨h,wv⟩
     rcases t3 uv wv with⟨g1,g2⟩ | g
     · exact⟨u,w,su,sw2,viaN u w su sw2 g1 g2⟩
     · exact⟨u,w,su,sw2,up _ _ g⟩
end
def aI (l:List QL)(o:List Int):List Int->List NQ->List NQ
 | [],b=>b
 | v::r,b=>aI l o r (b++[nxt l o v b])
theorem aPJ (o:List Int)(v:Int):∀ l:List QL,(l.map QL.toL).filter (qD o v)=(l.filter (pQ o v)).map QL.toL
 | []=>rfl
 | x::l=>by
  have e:qD o v x.toL=pQ o v x:=rfl
  rw[List.map_cons,List.filter_cons,List.filter_cons,aPJ o v l,e]
  split <;> rfl
theorem aMX {l:List QL}{o:List Int}(hb:Base l o):∀ (r pre:List Int) (b:List NQ),TInv l o pre r b->wB (l.map QL.toL) o r (b.map NQ.toN)=some ((aI l o r b).map NQ.toN)
 | [],_,b,_=>rfl
 | v::r,pre,b,hi=>by
  obtain⟨h1,h2,h3⟩:=hi.next hb
  rw[wB,aPJ,h2]
  have:=aMX hb r (pre++[v]) (b++[nxt l o v b]) h1
  rw[List.map_append]at this
  exact this
def Grounded (l:List QL)(o:List Int):Prop:=∀ S:Int->Prop,(∃ u∈o,S u)->¬S 0->∃ x∈l,(S x.a/\¬S x.b)\/(S x.b/\¬S x.a)
theorem TInv.start {l:List QL}{o:List Int}(hb:Base l o)(hg:Grounded l o):TInv l o [] o [] where
 split:=rfl
 len:=rfl
 den:=by simp
 msg:=by simp
 ps:=by simp
 prod:=Nat.le_refl 1
 wtt:=by
  have e:sm wt (dO (([]:List NQ).filter (iS o)))=0:=rfl
  rw[e]
  have h1:=aBl wt (fun x=>decide (aR o [x.a,x.b]∈o)) l
  have h2:0<=sm wt (l.filter fun x=>!decide (aR o [x.a,x.b]∈o)):=iX fun y hy=>(hb.lk y (List.mem_filter.1 hy).1).1
  have:=hb.hw
  grind
 cut:=by
  intro S hS h0
  obtain⟨x,hx,h⟩:=hg S hS h0
  have hf:aR o [x.a,x.b]∈o:=by
   obtain⟨i1,i2,i3⟩:=(hb.lk x hx).2.1
   have hbm:x.b∈o:=by
    rcases List.mem_cons.1 i2 with h | h
    · exfalso
      rcases List.mem_cons.1 i1 with h2 | h2
      · omega
      · have:=hb.h1 _ h2;omega
    · exact h
   rcases aDz (s:=[x.a,x.b]) (fun u hu=>(hb.h1 u hu).1)with⟨_,h4⟩ | ⟨p,v,r,e,h2,h3,h4⟩
   · exact absurd (by simp) (h4 _ hbm)
   · rw[h2,e];simp
  rcases h with⟨g1,g2⟩ | ⟨g1,g2⟩
  · exact⟨x.a,x.b,g1,g2,.inl ⟨x,hx,hf,.inl ⟨rfl,rfl⟩⟩⟩
  · exact⟨x.b,x.a,g1,g2,.inl ⟨x,hx,hf,.inr ⟨rfl,rfl⟩⟩⟩
theorem Base.join {l:List QL}{o:List Int}(hb:Base l o):jnP (l.map QL.toL)=some ((bF l [] 0).1.map QL.toL,ofQ (bF l [] 0).2)/\(∀ k∈(bF l [] 0).1,k.fit/\Lk 1 20 k/\inV (0::o) k)/\(bF l [] 0).1.Pairwise dG/\bX (bF l [] 0).2:=by
 have nV:(0::o).Nodup:=List.nodup_cons.2 ⟨fun h=>by have:=hb.h1 0 h;omega,hb.nd⟩
 have hVn:∀ u∈0::o,0<=u/\u<=9:=fun u hu=>by
  rcases List.mem_cons.1 hu with rfl | hu
  · omega
  · have:=hb.h1 u hu;omega
 have len:(0::o).length<=6:=by have:=hb.len;simp only[List.length_cons];omega
 have j:Jn 1 1 20 15 (0::o):=⟨by omega,by decide,by omega,by omega,by omega,nV,by
  have h1:=aCG len
  have h2:=aMV _ 6 len (by omega)
  have h3:tri 6=15:=by decide
  omega,by rw[aMS];decide⟩
 have es:=uG (fun x hx=>(hb.lk x hx).1) (by omega) hb.hw
 have e0:(0:Q)-sm enQ []=0:=by simp only[sm];grind
 have g:=aDu j l [] 0 (fun x hx=>⟨(hb.lk x hx).1,(hb.lk x hx).2.1,(hb.lk x hx).2.2⟩) (by simp) List.Pairwise.nil (by simp only[sm];have:=hb.hw;grind) ⟨0,by simp⟩ (by grind) (by have:=es.2;grind)
 rw[e0]at g
 obtain⟨g1,g2,g3,g4,g5⟩:=g
 have fo:∀ x∈l,x.fit/\x.ok:=fun x hx=>by
  obtain⟨l1,⟨l2,l3,l4⟩,_⟩:=hb.lk x hx
  refine⟨aIu (by omega) (by decide) l1 (by omega) (by omega) ?_,hVn _ l2,hVn _ l3,l4,l1.sc.1⟩
  have:=uS (fun y hy=>(hb.lk y hy).1) hx
  have:=hb.hw
  grind
 obtain⟨e1,f1,f2⟩:=aQq fo g1
 exact⟨e1,fun k hk=>⟨f1 k hk,g2 k hk⟩,g3,f2⟩
theorem aPn {l:List QL}{o:List Int}(hb:Base l o)(hg:Grounded l o)(ho:isOrd ((bF l [] 0).1.map QL.toL) o):wW (l.map QL.toL) o=some ⟨(aI l o o []).map NQ.toN⟩:=by
 unfold wW
 rw[hb.join.1]
 simp only[Option.bind_some]
 rw[if_pos ho]
 have:=aMX hb o [] [] (TInv.start hb hg)
 rw[List.map_nil]at this
 rw[this]
 rfl
end Go.Ev
/- Links of whole numbers that tie nodes to the ground: their tree is built. -/
namespace Go.Ev
set_option linter.all false
def LkI (x:QL):Prop:=(0<=x.a/\x.a<x.b/\x.b<=5)/\∃ w p q:Int,(1<=w/\w<=9)/\(-20<=p/\p<=20)/\(-20<=q/\q<=20)/\x.w=(w:Q)/\x.x=(p:Q)/\x.y=(q:Q)
theorem aOy {B:Nat}{z:Int}(h:-(B:Int)<=z/\z<=(B:Int)):bd B (z:Q):=by
 constructor
 · have:=(_root_.Rat.intCast_le_intCast (a:=-(B:Int)) (b:=z)).2 h.1
   rw[_root_.Rat.intCast_neg]at this;exact this
 · exact(_root_.Rat.intCast_le_intCast (a:=z) (b:=(B:Int))).2 h.2
theorem LkI.lk {x:QL}(h:LkI x):Lk 1 20 x/\Dv 1 (enQ x)/\x.w<=9:=by
 obtain⟨_,w,p,q,hw,hp,hq,e1,e2,e3⟩:=h
 have w0:((0:Int):Q)<(w:Q):=_root_.Rat.intCast_lt_intCast.2 (by omega)
 have w9:(w:Q)<=((9:Int):Q):=_root_.Rat.intCast_le_intCast.2 hw.2
 have z0:((0:Int):Q)=0:=rfl
 have z9:((9:Int):Q)=9:=rfl
 have m1:mx x=((w*p:Int):Q):=by unfold mx;rw[e1,e2,_root_.Rat.intCast_mul]
 have m2:my x=((w*q:Int):Q):=by unfold my;rw[e1,e3,_root_.Rat.intCast_mul]
 have m3:enQ x=((w*(p*p+q*q):Int):Q):=by
  unfold enQ sqQ
  rw[e1,e2,e3,_root_.Rat.intCast_mul,_root_.Rat.intCast_add,_root_.Rat.intCast_mul,_root_.Rat.intCast_mul]
 refine⟨⟨⟨by rw[e1];grind,by rw[e1];exact aD7 _,by rw[m1];exact aD7 _,by rw[m2];exact aD7 _⟩,by rw[e2];exact aOy (by omega),by rw[e3];exact aOy (by omega)⟩,by rw[m3];exact aD7 _,by rw[e1];grind⟩
theorem aRe:∀ {l:List QL},(∀ x∈l,LkI x)->sm wt l<=((9*l.length:Nat):Q)
 | [],_=>by simp[sm]
 | x::l,h=>by
  have h1:=(h x (by simp)).lk.2.2
  have h2:=aRe (l:=l) (fun y hy=>h y (by simp[hy]))
  have e:(9*(x::l).length:Nat)=9+9*l.length:=by rw[List.length_cons];omega
  rw[sm,e,_root_.Rat.natCast_add]
  have e2:wt x=x.w:=rfl
  have e3:((9:Nat):Q)=9:=rfl
  rw[e2,e3];grind
structure Tie (l:List QL)(o:List Int):Prop where
 nd:o.Nodup
 mem:∀ u,u∈o↔1<=u/\∃ x∈l,x.a=u\/x.b=u
 lk:∀ x∈l,LkI x
 len:l.length<=8
 gr:Grounded l o
theorem Tie.five {l:List QL}{o:List Int}(h:Tie l o):∀ u∈o,1<=u/\u<=5:=by
 intro u hu
 obtain⟨h1,x,hx,ht⟩:=(h.mem u).1 hu
 have:=(h.lk x hx).1
 omega
theorem Tie.base {l:List QL}{o:List Int}(h:Tie l o):Base l o where
 nd:=h.nd
 h1:=fun u hu=>by have:=h.five u hu;omega
 len:=by
  have:=h.nd.length_le_of_subset (l₂:=[1,2,3,4,5]) (fun u hu=>by
   have:=h.five u hu
   simp only[List.mem_cons,List.not_mem_nil,or_false];omega)
  simpa using this
 lk:=fun x hx=>by
  obtain⟨h1,h2,h3⟩:=(h.lk x hx).lk
  have hn:=(h.lk x hx).1
  refine⟨h1,⟨?_,?_,hn.2.1⟩,h2⟩
  · by_cases c:x.a=0
    · rw[c];simp
    · exact List.mem_cons_of_mem _ ((h.mem _).2 ⟨by omega,x,hx,.inl rfl⟩)
  · exact List.mem_cons_of_mem _ ((h.mem _).2 ⟨by omega,x,hx,.inr rfl⟩)
 hw:=by
  have h1:=aRe h.lk
  have h2:((9*l.length:Nat):Q)<=((72:Nat):Q):=aCN (by have:=h.len;omega)
  have e:((72:Nat):Q)=72:=rfl
  grind
theorem aFW {s:List Link}{u:Int}:u∈fO s↔(1<=u/\u<=9)/\∃ x∈s,x.fA=u\/x.fB=u:=by
 unfold fO aEy tch
 rw[List.mem_filter,List.any_eq_true]
 constructor
 · rintro⟨h1,x,hx,ht⟩
   obtain⟨k,hk,rfl⟩:=List.mem_map.1 h1
   rw[List.mem_range]at hk
   exact⟨by omega,x,hx,of_decide_eq_true ht⟩
 · rintro⟨h1,x,hx,ht⟩
   exact⟨List.mem_map.2 ⟨(u-1).toNat,List.mem_range.2 (by omega),by omega⟩,x,hx,decide_eq_true ht⟩
theorem xL (s:List Link):(fO s).Nodup:=by
 unfold fO
 exact(by decide:aEy.Nodup).filter _
theorem aMk {a b:List Int}(ha:a.Nodup)(hb:b.Nodup)(h:∀ u,u∈a↔u∈b):a.length=b.length :=
 Nat.le_antisymm (ha.length_le_of_subset fun u hu=>(h u).1 hu) (hb.length_le_of_subset fun u hu=>(h u).2 hu)
theorem Tie.isOrd {l:List QL}{o:List Int}(h:Tie l o):isOrd ((bF l [] 0).1.map QL.toL) o:=by
 have key:∀ u,u∈o↔u∈fO ((bF l [] 0).1.map QL.toL):=by
  intro u
  rw[h.mem,aFW]
  constructor
  · rintro⟨h1,x,hx,ht⟩
    obtain⟨y,hy,e1,e2⟩:=vD l [] 0 x (.inr hx)
    have:=(h.lk x hx).1
    refine⟨by omega,y.toL,List.mem_map_of_mem hy,?_⟩
    show y.a=u\/y.b=u
    rw[<- e1,<- e2];exact ht
  · rintro⟨h1,z,hz,ht⟩
    obtain⟨y,hy,rfl⟩:=List.mem_map.1 hz
    obtain⟨x,hx,e1,e2⟩:=vE l [] 0 y hy
    have hx:=hx.resolve_left (by simp)
    refine⟨h1.1,x,hx,?_⟩
    rw[e1,e2];exact ht
 exact⟨h.nd,fun y hy=>(key y).1 hy,aMk h.nd (xL _) key⟩
theorem Tie.build {l:List QL}{o:List Int}(h:Tie l o):wW (l.map QL.toL) o=some ⟨(aI l o o []).map NQ.toN⟩:=aPn h.base h.gr h.isOrd
theorem Grounded.perm {l l':List QL}{o o':List Int}(h:Grounded l o)(h1:∀ x∈l,x∈l')(h2:∀ u∈o',u∈o):Grounded l' o':=by
 intro S hS h0
 obtain⟨u,hu,su⟩:=hS
 obtain⟨x,hx,hh⟩:=h S ⟨u,h2 u hu,su⟩ h0
 exact⟨x,h1 x hx,hh⟩
theorem Tie.perm {l l':List QL}{o o':List Int}(h:Tie l o)(hl:l'.Perm l)(ho:o'.Perm o):Tie l' o' where
 nd:=ho.nodup_iff.2 h.nd
 mem:=fun u=>by
  rw[ho.mem_iff,h.mem]
  constructor
  · rintro⟨h1,x,hx,ht⟩;exact⟨h1,x,hl.mem_iff.2 hx,ht⟩
  · rintro⟨h1,x,hx,ht⟩;exact⟨h1,x,hl.mem_iff.1 hx,ht⟩
 lk:=fun x hx=>h.lk x (hl.mem_iff.1 hx)
 len:=by rw[hl.length_eq];exact h.len
 gr:=h.gr.perm (fun x hx=>hl.mem_iff.2 hx) fun u hu=>ho.mem_iff.1 hu
theorem aJF {l:List QL}{o:List Int}(hl:∀ x∈l,0<=x.a/\x.a<x.b)(hm:∀ u,u∈o↔1<=u/\∃ x∈l,x.a=u\/x.b=u)(h:∀ u∈o,∃ x∈l,x.b=u):Grounded l o:=by
 intro S hS h0
 have key:∀ (n:Nat) (u:Int),u.toNat<=n->u∈o->S u->∃ x∈l,(S x.a/\¬S x.b)\/(S x.b/\¬S x.a):=by
  intro n
  induction n with
  | zero=>intro u hn hu _;have:=(hm u).1 hu;omega
  | succ n ih =>
   intro u hn hu su
   obtain⟨x,hx,e⟩:=h u hu
   have hx2:=hl x hx
   by_cases c:S x.a
   · refine ih x.a (by omega) ((hm _).2 ⟨?_,x,hx,.inl rfl⟩) c
     by_cases z:x.a=0
     · rw[z]at c;exact absurd c h0
     · omega
   · exact⟨x,hx,.inr ⟨e▸su,c⟩⟩
 obtain⟨u,hu,su⟩:=hS
 exact key u.toNat u (Nat.le_refl _) hu su
theorem aMY {n:Int}{l:List QL}{o:List Int}(h1:∀ x∈l,LkI x/\x.b<=n+1)(h2:l.length<=8)(h3:∀ k,1<=k->k<=n->∃ x∈l,x.b=k)(nd:o.Nodup)(hm:∀ u,u∈o↔1<=u/\∃ x∈l,x.a=u\/x.b=u):Tie l o where
 nd:=nd
 mem:=hm
 lk:=fun x hx=>(h1 x hx).1
 len:=h2
 gr:=aJF (fun x hx=>by have:=(h1 x hx).1.1;omega) hm fun u hu=>by
  obtain⟨g1,x,hx,ht⟩:=(hm u).1 hu
  by_cases c:u<=n
  · exact h3 u g1 c
  · have:=(h1 x hx)
    have g:=this.1.1
    refine⟨x,hx,by omega⟩
end Go.Ev
/- The cursor and what is drawn from it. -/
namespace Go.Ev
open IntKind
set_option linter.all false
theorem aHJ (x:Int):0<=zY .i64 x 255/\zY .i64 x 255<=255:=by
 unfold zY
 have h:(BitVec.ofInt (IntKind.bits .i64) x &&& BitVec.ofInt (IntKind.bits .i64) 255).toNat<=255:=by
  rw[BitVec.toNat_and]
  exact Nat.le_trans Nat.and_le_right (by decide)
 rw[wi (by omega)]
 omega
def qQ (c:l01Cur):Prop:=c.fb.length<=1048576/\0<=c.fi/\c.fi<=1048577
theorem aOu (c:l01Cur)(h:qQ c):∃ r,iH c=some r/\(0<=r.1/\r.1<=255)/\qQ r.2/\r.2.fb=c.fb:=by
 obtain⟨h1,h2,h3⟩:=h
 unfold iH
 simp only[aK]
 by_cases hc:c.fi<(c.fb.length:Int)
 · rw[if_pos hc]
   have:=aM (l:=c.fb) (k:=c.fi.toNat) (by omega)
   rw[show((c.fi.toNat:Nat):Int)=c.fi by omega]at this
   rw[this]
   simp only[Option.bind_some]
   refine⟨_,rfl,aHJ _,⟨h1,?_,?_⟩,rfl⟩
   · simp only[];rw[wi (by omega)];omega
   · simp only[];rw[wi (by omega)];omega
 · rw[if_neg hc]
   exact⟨_,rfl,aHJ _,⟨h1,h2,h3⟩,rfl⟩
theorem rK (c:l01Cur)(n:Int)(h:qQ c)(hn:1<=n/\n<=256):∃ r,cC c n=some r/\(0<=r.1/\r.1<n)/\qQ r.2/\r.2.fb=c.fb:=by
 unfold cC
 rw[if_neg (by omega),if_pos (by omega)]
 obtain⟨r,e,g1,g2,g3⟩:=aOu c h
 rw[show(l01Cur.mk c.fb c.fi c.fh)=c from rfl,e]
 simp only[Option.bind_some]
 rw[aP (by omega)]
 refine⟨_,rfl,⟨Int.tmod_nonneg _ g1.1,Int.tmod_lt_of_pos _ (by omega)⟩,?_,rfl⟩
 unfold qQ at g2 h ⊢
 simp only[]
 exact⟨h.1,g2.2⟩
theorem aPM (code:List Int)(h:code.length<=1048576):∃ c,qA code=some c/\qQ c/\c.fb=code:=by
 unfold qA
 simp only[aK]
 have main:∀ (m k:Nat) (v:Int),m+k=code.length->∃ d,lp (mG code) (v,(k:Int))=some d:=by
  intro m
  induction m with
  | zero =>
   intro k v hk
   exact⟨v,aN (by unfold mG;simp only[];rw[if_neg (by omega)];rfl)⟩
  | succ m ih =>
   intro k v hk
   have hlt:k<code.length:=by omega
   by_cases c:(k:Int)<4000
   · obtain⟨d,e⟩:=ih (k+1) (zY .i64 (i64.wrap (i64.wrap (i64.wrap (v*59)+i64.wrap code[k])+7)) 1073741823) (by omega)
     refine⟨d,?_⟩
     rw[aS (s':=(zY .i64 (i64.wrap (i64.wrap (i64.wrap (v*59)+i64.wrap code[k])+7)) 1073741823,((k+1:Nat):Int))),e]
     unfold mG
     simp only[]
     rw[if_pos (by omega),aM hlt]
     have w:i64.wrap ((k:Int)+1)=((k+1:Nat):Int):=by rw[wi (by omega)];omega
     simp only[Option.bind_some,decide_eq_true c,if_true,aK,w]
   · refine⟨v,aN ?_⟩
     unfold mG
     simp only[]
     rw[if_pos (by omega)]
     simp only[Option.bind_some,decide_eq_false c,Bool.false_eq_true,if_false]
 obtain⟨d,e⟩:=main code.length 0 (i64.wrap (1951+(code.length:Int))) (by omega)
 rw[show((0:Nat):Int)=0 from rfl]at e
 rw[e]
 exact⟨_,rfl,⟨h,by simp,by simp⟩,rfl⟩
end Go.Ev
/- Links that are drawn. -/
namespace Go.Ev
set_option linter.all false
theorem xC {fb:List Int}{c:l01Cur}(h:qQ c)(e:c.fb=fb):qQ ⟨fb,c.fi,c.fh⟩:=by
 subst e;exact h
def mkI (a b w x y:Int):QL:=⟨a,b,(w:Q),(x:Q),(y:Q)⟩
theorem aNQ {a b w x y:Int}(h:0<=a/\a<b/\b<=5)(hw:1<=w/\w<=9)(hx:-20<=x/\x<=20)(hy:-20<=y/\y<=20):LkI (mkI a b w x y):=⟨h,w,x,y,hw,hx,hy,rfl,rfl,rfl⟩
theorem aHp {a b w x y:Int}(ha:0<=a/\a<=5)(hb:0<=b/\b<=5)(hab:a≠b)(hw:1<=w/\w<=9)(hx:-20<=x/\x<=20)(hy:-20<=y/\y<=20) :
 ∃ k:QL,qT a b w x y=some (k.toL,true)/\LkI k/\((k.a=a/\k.b=b)\/(k.a=b/\k.b=a)):=by
 unfold qT
 simp only[aB6,aAP,Option.bind_some]
 rw[decide_eq_true (show 0<=a/\a<=9 by omega),decide_eq_true (show 0<=b/\b<=9 by omega),decide_eq_true (show 1<=w/\w<=9999 by omega),decide_eq_true (show -1000000<=x/\x<=1000000 by omega),decide_eq_true (show -1000000<=y/\y<=1000000 by omega)]
 simp only[if_true,if_neg hab,Option.bind_some,Bool.not_true,Bool.false_eq_true,if_false]
 by_cases c:b<a
 · rw[if_pos c]
   simp only[Option.bind_some]
   rw[wi (n:=0-x) (by omega),wi (n:=0-y) (by omega),bZ w (by omega),bZ (0-x) (by omega),bZ (0-y) (by omega),aBo (z:=w) (by omega),aBo (z:=0-x) (by omega),aBo (z:=0-y) (by omega)]
   exact⟨mkI b a w (0-x) (0-y),rfl,aNQ (by omega) hw (by omega) (by omega),.inr ⟨rfl,rfl⟩⟩
 · rw[if_neg c]
   simp only[Option.bind_some]
   rw[bZ w (by omega),bZ x (by omega),bZ y (by omega),aBo (z:=w) (by omega),aBo (z:=x) (by omega),aBo (z:=y) (by omega)]
   exact⟨mkI a b w x y,rfl,aNQ (by omega) hw hx hy,.inl ⟨rfl,rfl⟩⟩
theorem aQy (c:l01Cur)(n:Int)(h:qQ c)(hn:1<=n/\n<=5):∃ (k:QL) (c':l01Cur),tN c n=some (k.toL,c')/\qQ c'/\c'.fb=c.fb/\LkI k/\k.b<=n:=by
 obtain⟨r1,a1,b1,c1,d1⟩:=rK ⟨c.fb,c.fi,c.fh⟩ n h (by omega)
 obtain⟨r2,a2,b2,c2,d2⟩:=rK ⟨c.fb,r1.2.fi,r1.2.fh⟩ n (xC c1 d1) (by omega)
 obtain⟨r3,a3,b3,c3,d3⟩:=rK ⟨c.fb,r2.2.fi,r2.2.fh⟩ 9 (xC c2 d2) (by omega)
 obtain⟨r4,a4,b4,c4,d4⟩:=rK ⟨c.fb,r3.2.fi,r3.2.fh⟩ 41 (xC c3 d3) (by omega)
 obtain⟨r5,a5,b5,c5,d5⟩:=rK ⟨c.fb,r4.2.fi,r4.2.fh⟩ 41 (xC c4 d4) (by omega)
 have aNt:∃ v:Int,((if(r1.1=r2.1)then(chk (IntKind.i64.wrap (n+1)≠0)).bind fun _u=>(bB ((IntKind.i64.wrap (r1.1+1)).tmod (IntKind.i64.wrap (n+1)))).bind fun v4=>some v4 else some r2.1):Option Int)=some v/\(0<=v/\v<=n)/\r1.1≠v:=by
  by_cases e:r1.1=r2.1
  · rw[if_pos e,wi (n:=n+1) (by omega),wi (n:=r1.1+1) (by omega),aP (by omega)]
    simp only[Option.bind_some,aK]
    refine⟨_,rfl,?_⟩
    rw[Int.tmod_eq_of_lt (by omega) (by omega)];omega
  · rw[if_neg e];exact⟨_,rfl,by omega,e⟩
 obtain⟨v,ev,hv,hne⟩:=aNt
 obtain⟨k,ek,hk,hk2⟩:=aHp (a:=r1.1) (b:=v) (w:=1+r3.1) (x:=r4.1-20) (y:=r5.1-20) (by omega) (by omega) hne (by omega) (by omega) (by omega)
 refine⟨k,⟨c.fb,r5.2.fi,r5.2.fh⟩,?_,xC c5 d5,rfl,hk,by omega⟩
 unfold tN
 rw[a1];simp only[Option.bind_some]
 rw[a2];simp only[Option.bind_some]
 rw[ev];simp only[Option.bind_some]
 rw[a3];simp only[Option.bind_some]
 rw[a4];simp only[Option.bind_some]
 rw[a5];simp only[Option.bind_some]
 rw[wi (n:=1+r3.1) (by omega),wi (n:=r4.1-20) (by omega),wi (n:=r5.1-20) (by omega),ek]
 rfl
structure LinkL (n:Int)(l:List QL):Prop where
 each:∀ x∈l,LkI x/\x.b<=n+1
 len:l.length<=7
 all:∀ k,1<=k->k<=n->∃ x∈l,x.b=k
theorem aRi (c:l01Cur)(n:Int)(hn:1<=n/\n<=4):∀ (m k:Nat) (l:List QL) (fi fh:Int),(m:Int)+k=n+1->1<=k->qQ ⟨c.fb,fi,fh⟩->l.length=k-1->(∀ x∈l,LkI x/\x.b<=n)->(∀ j:Int,1<=j->j<k->∃ x∈l,x.b=j)->
 ∃ (l':List QL) (fi' fh':Int),lp (kZ c n) ((k:Int),l.map QL.toL,fi,fh)=some (l'.map QL.toL,fi',fh')/\qQ ⟨c.fb,fi',fh'⟩/\(l'.length:Int)=n/\(∀ x∈l',LkI x/\x.b<=n)/\∀ j:Int,1<=j->j<=n->∃ x∈l',x.b=j:=by
 intro m
 induction m with
 | zero =>
  intro k l fi fh hm hk hc hl he ha
  refine⟨l,fi,fh,aN ?_,hc,by omega,he,fun j h1 h2=>ha j h1 (by omega)⟩
  unfold kZ
  simp only[]
  rw[if_neg (by omega)]
 | succ m ih =>
  intro k l fi fh hm hk hc hl he ha
  obtain⟨r1,a1,b1,c1,d1⟩:=rK ⟨c.fb,fi,fh⟩ k hc (by omega)
  obtain⟨r2,a2,b2,c2,d2⟩:=rK ⟨c.fb,r1.2.fi,r1.2.fh⟩ 9 (xC c1 d1) (by omega)
  obtain⟨r3,a3,b3,c3,d3⟩:=rK ⟨c.fb,r2.2.fi,r2.2.fh⟩ 41 (xC c2 d2) (by omega)
  obtain⟨r4,a4,b4,c4,d4⟩:=rK ⟨c.fb,r3.2.fi,r3.2.fh⟩ 41 (xC c3 d3) (by omega)
  obtain⟨q,eq,hq,hq2⟩:=aHp (a:=r1.1) (b:=k) (w:=1+r2.1) (x:=r3.1-20) (y:=r4.1-20) (by omega) (by omega) (by omega) (by omega) (by omega) (by omega)
  have hqb:q.b=k:=by have:=hq.1;omega
  have st:kZ c n ((k:Int),l.map QL.toL,fi,fh)=some (.inl (((k+1:Nat):Int),(l++[q]).map QL.toL,r4.2.fi,r4.2.fh)):=by
   unfold kZ
   simp only[]
   rw[if_pos (by omega),a1]
   simp only[Option.bind_some]
   rw[a2]
   simp only[Option.bind_some]
   rw[a3]
   simp only[Option.bind_some]
   rw[a4]
   simp only[Option.bind_some]
   rw[wi (n:=1+r2.1) (by omega),wi (n:=r3.1-20) (by omega),wi (n:=r4.1-20) (by omega),eq]
   simp only[Option.bind_some]
   rw[aP (by rw[List.length_map];omega),wi (n:=(k:Int)+1) (by omega)]
   simp only[Option.bind_some,aK,List.map_append,List.map_cons,List.map_nil]
   rfl
  rw[aS st]
  refine ih (k+1) (l++[q]) r4.2.fi r4.2.fh (by omega) (by omega) (xC c4 d4) (by rw[List.length_append,List.length_singleton];omega) (fun x hx=>?_) (fun j h1 h2=>?_)
  · rcases List.mem_append.1 hx with hx | hx
    · exact he x hx
    · simp at hx;subst hx;exact⟨hq,by omega⟩
  · by_cases e:j=k
    · exact⟨q,by simp,by omega⟩
    · obtain⟨x,hx,h⟩:=ha j h1 (by omega)
      exact⟨x,by simp[hx],h⟩
theorem aRh (c:l01Cur)(n:Int)(hn:1<=n/\n<=4):∀ (m:Nat) (l:List QL) (fi fh:Int),qQ ⟨c.fb,fi,fh⟩->l.length+m<=7->(∀ x∈l,LkI x/\x.b<=n+1)->
 ∃ (l':List QL) (fi' fh':Int),lp (kY c n) ((m:Int),l.map QL.toL,fi,fh)=some ((l++l').map QL.toL,fi',fh')/\qQ ⟨c.fb,fi',fh'⟩/\(l++l').length<=7/\∀ x∈l++l',LkI x/\x.b<=n+1:=by
 intro m
 induction m with
 | zero =>
  intro l fi fh hc hl he
  refine⟨[],fi,fh,aN ?_,hc,by simpa using hl,by simpa using he⟩
  unfold kY
  simp only[]
  rw[if_neg (by omega),List.append_nil]
 | succ m ih =>
  intro l fi fh hc hl he
  obtain⟨q,c',a1,a2,a3,a4,a5⟩:=aQy ⟨c.fb,fi,fh⟩ (n+1) hc (by omega)
  have st:kY c n (((m+1:Nat):Int),l.map QL.toL,fi,fh)=some (.inl ((m:Int),(l++[q]).map QL.toL,c'.fi,c'.fh)):=by
   unfold kY
   simp only[]
   rw[if_pos (by omega),wi (n:=n+1) (by omega),a1]
   simp only[Option.bind_some]
   rw[aP (by rw[List.length_map];omega),wi (n:=((m+1:Nat):Int)-1) (by omega)]
   simp only[Option.bind_some,aK,List.map_append,List.map_cons,List.map_nil]
   rw[show((m+1:Nat):Int)-1=(m:Int)by omega]
  rw[aS st]
  obtain⟨l',fi',fh',g1,g2,g3,g4⟩:=ih (l++[q]) c'.fi c'.fh (xC a2 a3) (by rw[List.length_append,List.length_singleton];omega) (fun x hx=>by
   rcases List.mem_append.1 hx with hx | hx
   · exact he x hx
   · simp at hx;subst hx;exact⟨a4,a5⟩)
  have e:l++[q]++l'=l++(q::l'):=by simp
  rw[e]at g1 g3 g4
  exact⟨q::l',fi',fh',g1,g2,g3,g4⟩
theorem aQp (c:l01Cur)(n:Int)(h:qQ c)(hn:1<=n/\n<=4):∃ (l:List QL) (c':l01Cur),qR c n=some (l.map QL.toL,c')/\qQ c'/\c'.fb=c.fb/\LinkL n l:=by
 obtain⟨l1,f1,g1,e1,o1,n1,h1,a1⟩:=aRi c n hn n.toNat 1 [] c.fi c.fh (by omega) (by omega) h rfl (by simp) (fun j h1 h2=>by omega)
 obtain⟨r,e2,b2,o2,d2⟩:=rK ⟨c.fb,f1,g1⟩ 4 o1 (by omega)
 obtain⟨l2,f3,g3,e3,o3,n3,h3⟩:=aRh c n hn r.1.toNat l1 r.2.fi r.2.fh (xC o2 d2) (by omega) (fun x hx=>⟨(h1 x hx).1,by have:=(h1 x hx).2;omega⟩)
 refine⟨l1++l2,⟨c.fb,f3,g3⟩,?_,o3,rfl,⟨h3,n3,fun k k1 k2=>?_⟩⟩
 · unfold qR
   rw[show((1:Nat):Int)=1 from rfl,List.map_nil]at e1
   rw[e1]
   simp only[Option.bind_some]
   rw[e2]
   simp only[Option.bind_some]
   rw[show((r.1.toNat:Nat):Int)=r.1 by omega]at e3
   rw[e3]
   rfl
 · obtain⟨x,hx,e⟩:=a1 k k1 k2
   exact⟨x,by simp[hx],e⟩
end Go.Ev
/- Is it a tree, both programs, and the law. -/
namespace Go.Ev
set_option linter.all false
def aDc (t:Tree):List Int:=t.fNodes.map (·.fNode)
theorem aLn (a b:Tree)(h:kC a<=4294967296):sK a b=some (decide (a=b)):=by
 unfold kC lU at h
 have hl:=iY bR a.fNodes
 obtain⟨a⟩:=a
 obtain⟨b⟩:=b
 simp only[]at h hl
 unfold sK
 by_cases hn:a.length=b.length
 · rw[if_neg (by simp only[];omega),aIr a b hn (fun k ha hb=>by
    have he:=pL (w:=bR) (List.getElem_mem ha)
    unfold rE
    simp only[]
    rw[if_pos (by omega),aM ha,aM hb,wi (by omega)]
    simp only[Option.bind_some]
    rw[aFn _ _ (by omega)]
    by_cases c:a[k]=b[k] <;> simp[c]) (by unfold rE;simp only[];rw[if_neg (by omega)])]
   by_cases c:a=b <;> simp[c]
 · rw[if_pos (by simp only[];omega)]
   have:a≠b:=by rintro rfl;exact hn rfl
   simp[this]
def xN (t:Tree):Prop:=wW (eC t.fNodes) (aDc t)=some t
noncomputable instance (t:Tree):Decidable (xN t):=Classical.propDecidable _
end Go.Ev
/- Paths of a tree end: what a tree's node hands up lies later in the order. -/
namespace Go.Ev
set_option linter.all false
def pr (s:List Link)(x y:Int):Prop:=∃ l∈s,l.fA=x/\l.fB=y
theorem aIi {a b:List Link}{x y:Int}:pr (a++b) x y↔pr a x y\/pr b x y:=by
 unfold pr
 constructor
 · rintro⟨l,h,e⟩
   rcases List.mem_append.1 h with h | h
   · exact .inl ⟨l,h,e⟩
   · exact .inr ⟨l,h,e⟩
 · rintro(⟨l,h,e⟩ | ⟨l,h,e⟩)
   · exact⟨l,List.mem_append_left _ h,e⟩
   · exact⟨l,List.mem_append_right _ h,e⟩
theorem aEY {a:List Link}{l:Link}{x y:Int}:pr (l::a) x y↔(l.fA=x/\l.fB=y)\/pr a x y:=by
 unfold pr;simp only[List.mem_cons,exists_eq_or_imp]
theorem aNq {x y:Int}:¬pr [] x y:=by rintro⟨l,h,_⟩;cases h
theorem aPt {s:List Link}{l:Link}{s':List Link}{e:Rat}(h:aA0 s l=some (s',e))(x y:Int):pr s' x y↔pr s x y\/(l.fA=x/\l.fB=y):=by
 have ins:∀ p,pr (s.take p++[l]++s.drop p) x y↔pr s x y\/(l.fA=x/\l.fB=y):=by
  intro p
  have e1:pr s x y↔pr (s.take p) x y\/pr (s.drop p) x y:=by rw[<- aIi,List.take_append_drop]
  rw[e1,List.append_assoc,aIi,List.singleton_append,aEY]
  constructor
  · rintro(h | h | h)
    · exact .inl (.inl h)
    · exact .inr h
    · exact .inl (.inr h)
  · rintro((h | h) | h)
    · exact .inl h
    · exact .inr (.inr h)
    · exact .inr (.inl h)
 unfold aA0 at h
 by_cases c:eB l s<s.length
 · rw[dif_pos c]at h
   by_cases c2:fG l s[eB l s]
   · rw[if_pos c2]at h;cases h;exact ins _
   · rw[if_neg c2]at h
     have nl:=aBZ l s c
     have hA:s[eB l s].fA=l.fA/\s[eB l s].fB=l.fB:=by unfold fG at c2 nl;omega
     by_cases O:zJ s[eB l s] l
     · rw[if_pos O]at h;cases h
       have e1:pr s x y↔pr (s.take (eB l s)) x y\/((s[eB l s].fA=x/\s[eB l s].fB=y)\/pr (s.drop (eB l s+1)) x y):=by
        rw[<- aEY,<- List.drop_eq_getElem_cons c,<- aIi,List.take_append_drop]
       rw[e1,List.append_assoc,aIi,List.singleton_append,aEY]
       have e2:(aBc s[eB l s] l).fA=s[eB l s].fA:=rfl
       have e3:(aBc s[eB l s] l).fB=s[eB l s].fB:=rfl
       rw[e2,e3,hA.1,hA.2]
       constructor
       · rintro(h | h | h)
         · exact .inl (.inl h)
         · exact .inr h
         · exact .inl (.inr (.inr h))
       · rintro((h | h | h) | h)
         · exact .inl h
         · exact .inr (.inl h)
         · exact .inr (.inr h)
         · exact .inr (.inl h)
     · rw[if_neg O]at h;cases h
 · rw[dif_neg c]at h;cases h;exact ins _
theorem aJC:∀ (l s:List Link) (e:Rat) (s':List Link) (e':Rat),uP l s e=some (s',e')->∀ x y,pr s' x y↔pr s x y\/pr l x y
 | [],s,e,s',e',h,x,y=>by
  rw[uP]at h;cases h
  exact⟨.inl,fun h=>h.elim id (fun h=>(aNq h).elim)⟩
 | a::r,s,e,s',e',h,x,y=>by
  rw[uP]at h
  cases ha:aA0 s a with
  | none=>rw[ha]at h;cases h
  | some t =>
   obtain⟨s1,e1⟩:=t
   rw[ha]at h
   simp only[]at h
   by_cases c:bL (RA e e1)
   · rw[if_pos c]at h
     rw[aJC r s1 _ s' e' h x y,aPt ha,aEY,or_assoc]
   · rw[if_neg c]at h;cases h
theorem aN4 {l s:List Link}{e:Rat}(h:jnP l=some (s,e))(x y:Int):pr s x y↔pr l x y:=by
 unfold jnP at h
 by_cases c:∀ x∈l,ValidL x
 · rw[if_pos c]at h
   rw[aJC l [] _ s e h x y]
   exact⟨fun h=>h.elim (fun h=>(aNq h).elim) id,.inr⟩
 · rw[if_neg c]at h;cases h
def adj (s:List Link)(x y:Int):Prop:=pr s x y\/pr s y x
def en (s:List Link)(x:Int):Prop:=∃ y,adj s x y
structure PathN (o:List Int)(n:TreeNode):Prop where
 near:∀ x,en n.fMessages x->x∈aFJ n.fCond
 clq:∀ x y,x∈aFJ n.fCond->y∈aFJ n.fCond->x<y->pr n.fMessages x y
 late:∀ i (h:i<o.length),o[i]=n.fNode->∀ p∈aFJ n.fCond,p∉o.take (i+1)
end Go.Ev
/- Trees in another order, and the nodes that a change affects: both programs, and the laws. -/
namespace Go.Ev
set_option linter.all false
end Go.Ev
/- The law of building a tree; inserting a link, both programs, and the law. -/
namespace Go.Ev
set_option linter.all false
end Go.Ev
/- Cliques: their nodes in order. -/
set_option linter.all false
namespace Go.Ev
set_option linter.all false
end Go.Ev
/- Deleting a link, both programs, and the law. -/
namespace Go.Ev
set_option linter.all false
theorem aJi {s u:List Link}{e:Rat}(h:jnP s=some (u,e)):fO u=fO s:=by
 refine aAC (aAH u) (aAH s) fun x=>?_
 have h1:∀ (a b:List Link),(∀ x y,pr a x y->pr b x y)->(∃ l∈a,l.fA=x\/l.fB=x)->∃ l∈b,l.fA=x\/l.fB=x:=by
  rintro a b hab ⟨l,hl,c⟩
  obtain⟨m,hm,e1,e2⟩:=hab l.fA l.fB ⟨l,hl,rfl,rfl⟩
  exact⟨m,hm,by rw[e1,e2];exact c⟩
 rw[aAG,aAG]
 exact⟨fun⟨a,b⟩=>⟨a,h1 u s (fun x y=>(aN4 h x y).1) b⟩,fun⟨a,b⟩=>⟨a,h1 s u (fun x y=>(aN4 h x y).2) b⟩⟩
end Go.Ev
/- Trees that are drawn. -/
namespace Go.Ev
set_option linter.all false
theorem LinkL.tie {n:Int}{l:List QL}(h:LinkL n l){o:List Int}(nd:o.Nodup)(hm:∀ u,u∈o↔u∈fO (l.map QL.toL)):Tie l o:=by
 refine aMY h.each (by have:=h.len;omega) h.all nd fun u=>?_
 rw[hm,aFW]
 constructor
 · rintro⟨h1,z,hz,ht⟩
   obtain⟨y,hy,rfl⟩:=List.mem_map.1 hz
   exact⟨h1.1,y,hy,ht⟩
 · rintro⟨h1,y,hy,ht⟩
   have:=(h.each y hy).1.1
   exact⟨by omega,y.toL,List.mem_map_of_mem hy,ht⟩
theorem LinkL.tie0 {n:Int}{l:List QL}(h:LinkL n l):Tie l (fO (l.map QL.toL)):=h.tie (xL _) fun _=>Iff.rfl
theorem Base.valid {l:List QL}{o:List Int}(hb:Base l o):∀ x∈l.map QL.toL,ValidL x:=by
 intro x hx
 have:=hb.join.1
 exact(aBF this).1 x hx
theorem Tie.sz {l:List QL}{o:List Int}(h:Tie l o):aL (l.map QL.toL)<=2000:=by
 have h1:=aBS h.base.valid
 rw[List.length_map]at h1
 have:=h.len
 omega
theorem Tie.join {l:List QL}{o:List Int}(h:Tie l o):∃ s e,jnP (l.map QL.toL)=some (s,e)/\LSet s/\fO s=fO (l.map QL.toL):=by
 have h1:=h.base.join.1
 exact⟨_,_,h1,(aBF h1).2.1,aJi h1⟩
theorem aNx (c:l01Cur)(s:List Int)(hs:s.length<=9):∀ (m k:Nat) (a:List Int) (fi fh:Int),m+k=s.length->qQ ⟨c.fb,fi,fh⟩->a.Perm (s.take k)->
 ∃ (a':List Int) (fi' fh':Int),lp (kX c s) ((k:Int),a,fi,fh)=some (a',fi',fh')/\qQ ⟨c.fb,fi',fh'⟩/\a'.Perm s:=by
 intro m
 induction m with
 | zero =>
  intro k a fi fh hm hc hp
  refine⟨a,fi,fh,aN ?_,hc,by rw[List.take_of_length_le (by omega)]at hp;exact hp⟩
  unfold kX
  simp only[]
  rw[if_neg (by omega)]
 | succ m ih =>
  intro k a fi fh hm hc hp
  have hlt:k<s.length:=by omega
  have hl:a.length=k:=by rw[hp.length_eq,List.length_take];omega
  obtain⟨r,a1,b1,c1,d1⟩:=rK ⟨c.fb,fi,fh⟩ ((k:Int)+1) hc (by omega)
  have e1:sub a 0 r.1=some (a.take r.1.toNat):=by rw[pM _ _ _ (by omega)];simp
  have e2:sub a r.1 (a.length:Int)=some (a.drop r.1.toNat):=by
   rw[pM _ _ _ (by omega),List.take_of_length_le (by rw[List.length_drop];omega)]
  have t1:(a.take r.1.toNat).length<=9:=by rw[List.length_take];omega
  have t2:(a.drop r.1.toNat).length<=9:=by rw[List.length_drop];omega
  have st:kX c s ((k:Int),a,fi,fh)=some (.inl (((k+1:Nat):Int),a.take r.1.toNat++[s[k]]++a.drop r.1.toNat,r.2.fi,r.2.fh)):=by
   unfold kX
   simp only[]
   rw[if_pos (by omega),aM hlt]
   simp only[Option.bind_some,aK]
   rw[wi (n:=(a.length:Int)+1) (by omega),hl,a1]
   simp only[Option.bind_some]
   rw[e1]
   simp only[Option.bind_some,List.nil_append,List.length_nil,Nat.zero_add]
   rw[aP (by omega)]
   simp only[Option.bind_some,aK]
   rw[aP (by omega)]
   simp only[Option.bind_some,aK]
   rw[hl]at e2
   rw[e2]
   simp only[Option.bind_some]
   rw[aP (by rw[List.length_append,List.length_singleton];omega),wi (n:=(k:Int)+1) (by omega)]
   rfl
  rw[aS st]
  refine ih (k+1) _ _ _ (by omega) (xC c1 d1) ?_
  rw[List.take_add_one,List.getElem?_eq_getElem hlt]
  have p1:(a.take r.1.toNat++[s[k]]++a.drop r.1.toNat).Perm (a++[s[k]]):=by
   rw[List.append_assoc]
   refine(List.Perm.append_left _ List.perm_append_comm).trans ?_
   rw[<- List.append_assoc,List.take_append_drop]
  exact p1.trans (hp.append_right _)
def gR (l:List QL)(o:List Int):Tree:=⟨(aI l o o []).map NQ.toN⟩
theorem aPm (c:l01Cur)(n:Int)(h:qQ c):∀ (m:Nat) (k fi fh:Int),m+k=n->0<=k->n<=1000->qQ ⟨c.fb,fi,fh⟩->∃ fi' fh',lp (pS n c) (k,fi,fh)=some (fi',fh')/\qQ ⟨c.fb,fi',fh'⟩:=by
 intro m
 induction m with
 | zero =>
  intro k fi fh hm hk hn hc
  exact⟨fi,fh,aN (by unfold pS;simp only[];rw[if_neg (by omega)]),hc⟩
 | succ m ih =>
  intro k fi fh hm hk hn hc
  obtain⟨r,a1,b1,c1,d1⟩:=aOu ⟨c.fb,fi,fh⟩ hc
  obtain⟨f2,g2,e2,c2⟩:=ih (k+1) r.2.fi r.2.fh (by omega) (by omega) hn (xC c1 d1)
  refine⟨f2,g2,?_,c2⟩
  rw[aS (s':=(k+1,r.2.fi,r.2.fh)),e2]
  unfold pS
  simp only[]
  rw[if_pos (by omega),a1]
  simp only[Option.bind_some]
  rw[wi (n:=k+1) (by omega)]
theorem aPc (code:List Int)(n:Int)(hn:0<=n/\n<=1000)(h:code.length<=1048576):∃ c,wC code n=some c/\qQ c:=by
 obtain⟨c,e1,c1,f1⟩:=aPM code h
 obtain⟨f2,g2,e2,c2⟩:=aPm c n c1 n.toNat 0 c.fi c.fh (by omega) (by omega) hn.2 c1
 refine⟨⟨c.fb,f2,g2⟩,?_,c2⟩
 unfold wC
 rw[e1];simp only[Option.bind_some]
 rw[e2]
 rfl
end Go.Ev
/- The program alone: links, order and test of a tree (the seat lacks the other program's). -/
namespace Go.Ev
set_option linter.all false
theorem aIv (t:Tree)(h:kC t<=4294967296):kO t=some (eC t.fNodes):=by
 unfold kC lU at h
 have hl:=iY bR t.fNodes
 have hmem:∀ k (hk:k<t.fNodes.length),aL (t.fNodes[k]).fOwn<=4294967296:=fun k hk=>by
  have he:=pL (w:=bR) (List.getElem_mem hk)
  have hn:bR t.fNodes[k]=aL (t.fNodes[k]).fOwn+aU (t.fNodes[k]).fCond+aL (t.fNodes[k]).fMessages+bE (t.fNodes[k]).fEnergy:=rfl
  omega
 have hln:∀ k (hk:k<t.fNodes.length),(eC (t.fNodes.take k)).length+((t.fNodes[k]).fOwn).length<=4294967296:=fun k hk=>by
  have:=aKC t.fNodes h (k+1)
  rw[aEl _ _ hk,List.length_append]at this;omega
 have aux:∀ (step:(Int×(List Link))->Option ((Int×(List Link)) ⊕ (List Link))),(∀ k (hk:k<t.fNodes.length),step ((k:Int),eC (t.fNodes.take k))=some (.inl (((k+1:Nat):Int),eC (t.fNodes.take (k+1)))))->step ((t.fNodes.length:Int),eC (t.fNodes.take t.fNodes.length))=some (.inr (eC t.fNodes))->lp step (0,[])=some (eC t.fNodes):=by
  intro step h1 h2
  have main:∀ m k:Nat,m+k=t.fNodes.length->lp step ((k:Int),eC (t.fNodes.take k))=some (eC t.fNodes):=by
   intro m
   induction m with
   | zero =>
    intro k hk
    have:k=t.fNodes.length:=by omega
    subst this
    exact aN h2
   | succ m ih =>
    intro k hk
    rw[aS (h1 k (by omega))]
    exact ih (k+1) (by omega)
  exact main t.fNodes.length 0 (by omega)
 unfold kO
 rw[aux (lP t) (fun k hk=>by
  have:=hmem k hk
  have:=hln k hk
  unfold lP
  simp only[]
  rw[if_pos (by omega),aM hk]
  simp only[Option.bind_some]
  rw[qZ _ (by omega)]
  simp only[Option.bind_some]
  rw[aP (by omega),aEl _ _ hk,wi1 (by omega)];rfl) (by unfold lP;simp only[];rw[if_neg (by omega),List.take_length])]
 rfl
theorem aO8 (t:Tree)(h:t.fNodes.length<=4294967296):nW t=some (aDc t):=by
 have:nW t=some (aDc t):=by
  have:=(lI (step:=oV t) t.fNodes (fun k u=>((k:Int),u)) (fun u n=>u++[n.fNode]) (fun u=>u) (fun k u=>u.length<=k) (fun k u hk hi=>by
   constructor
   · unfold oV
     simp only[]
     rw[if_pos (by omega),aM hk]
     simp only[Option.bind_some,wi1 (by omega:k<=4294967296)]
     rw[aP (by omega)];rfl
   · rw[List.length_append,List.length_singleton];omega) (fun u _=>by unfold oV;simp only[];rw[if_neg (by omega)]) [] (Nat.zero_le _)).1
  rw[show((0:Nat):Int)=0 from rfl,aCS,List.nil_append]at this
  unfold nW
  rw[this];rfl
 exact this
theorem aOQ (t:Tree)(h:kC t<=4194304):wO t=some (decide (xN t)):=by
 have h0:=h
 unfold kC lU at h
 have hl:=iY bR t.fNodes
 have ho:=aB0 t.fNodes
 have l2:=aIv t (by omega)
 have o2:=aO8 t (by omega)
 have b2:=(aIU (eC t.fNodes) (aDc t) (by omega) (by unfold aDc;rw[List.length_map];omega)).2
 unfold wO
 rw[l2]
 simp only[Option.bind_some,o2,b2]
 by_cases c:xN t
 · have c':=c
   unfold xN at c'
   rw[c',decide_eq_true c]
   simp only[pkT,if_true,aLn t t (by omega),Option.bind_some,decide_true]
 · rw[decide_eq_false c]
   cases g:wW (eC t.fNodes) (aDc t)with
   | none=>simp[pkT]
   | some u =>
    have:¬t=u:=by rintro rfl;exact c g
    simp only[pkT,if_true,aLn t u (by omega),Option.bind_some,decide_eq_false this]
end Go.Ev
/- Inserting all links, both programs, and the law. -/
namespace Go.Ev
set_option linter.all false
theorem aI0 (a:Int)(c:Nat):∀ r:List Int,r.Nodup->(r.map (fun v=>if a=v then c else 0)).sum<=c
 | [],_=>Nat.zero_le _
 | v::r,h=>by
  rw[List.nodup_cons]at h
  rw[List.map_cons,List.sum_cons]
  by_cases e:a=v
  · rw[if_pos e]
    have:∀ l:List Int,v∉l->(l.map (fun v=>if a=v then c else 0)).sum=0:=by
     intro l
     induction l with
     | nil=>intro _;rfl
     | cons x l ih =>
      intro hx
      simp only[List.mem_cons,not_or]at hx
      rw[List.map_cons,List.sum_cons,ih hx.2,if_neg (fun e'=>hx.1 (by rw[<- e,e']))]
    rw[this r h.1];omega
  · rw[if_neg e]
    have:=aI0 a c r h.2
    omega
theorem aJh (o:List Int)(r:List Int)(hr:r.Nodup):∀ s:List Link,(r.map (fun v=>aL (s.filter (qD o v)))).sum<=aL s
 | []=>by
  have:∀ l:List Int,(l.map (fun v=>aL (([]:List Link).filter (qD o v)))).sum=0:=by
   intro l
   induction l with
   | nil=>rfl
   | cons x l ih=>rw[List.map_cons,List.sum_cons,ih];rfl
  rw[this];exact Nat.zero_le _
 | x::s=>by
  have ih:=aJh o r hr s
  have h1:=aI0 (aR o [x.fA,x.fB]) (bV x+1) r hr
  have e:∀ l:List Int,(l.map (fun v=>aL ((x::s).filter (qD o v)))).sum=(l.map (fun v=>if aR o [x.fA,x.fB]=v then bV x+1 else 0)).sum+(l.map (fun v=>aL (s.filter (qD o v)))).sum:=by
   intro l
   induction l with
   | nil=>rfl
   | cons v l ih =>
    simp only[List.map_cons,List.sum_cons,ih]
    have:aL ((x::s).filter (qD o v))=(if aR o [x.fA,x.fB]=v then bV x+1 else 0)+aL (s.filter (qD o v)):=by
     rw[List.filter_cons]
     unfold qD
     by_cases c:aR o [x.fA,x.fB]=v
     · rw[if_pos (by simpa using c),if_pos c];unfold aL;rw[oC]
     · rw[if_neg (by simpa using c),if_neg c];omega
    omega
  rw[e]
  have:aL (x::s)=bV x+1+aL s:=by unfold aL;rw[oC]
  omega
theorem aAE:∀ b:List TreeNode,aL (eC b)=(b.map (fun n=>aL n.fOwn)).sum
 | []=>rfl
 | n::b=>by
  have e:eC (n::b)=n.fOwn++eC b:=by simp[eC]
  rw[e,aLj,aAE b,List.map_cons,List.sum_cons]
theorem aMW {s:List Link}{o:List Int}{b:List TreeNode}(hn:o.Nodup)(h:wB s o o []=some b):aL (eC b)<=aL s:=by
 obtain⟨h1,h2⟩:=aBi o [] b (by simp) h
 simp only[List.map_nil,List.nil_append]at h2
 rw[aAE]
 have e:b.map (fun n=>aL n.fOwn)=b.map (fun n=>aL (s.filter (qD o n.fNode))):=List.map_congr_left fun n hn=>by rw[(h1 n hn).2.1]
 have e2:b.map (fun n=>aL (s.filter (qD o n.fNode)))=o.map (fun v=>aL (s.filter (qD o v))):=by rw[<- h2,List.map_map];rfl
 rw[e,e2]
 exact aJh o o hn s
theorem aIY {s:List Link}{o:List Int}:∀ {b:List TreeNode},(∀ n∈b,NodeOk s o n)->szL bR b<=aL (eC b)+51425*b.length
 | [],_=>Nat.zero_le _
 | n::b,h=>by
  have ih:=aIY (b:=b) (fun m hm=>h m (by simp[hm]))
  have hn:=h n (by simp)
  have h1:=hn.1.sz
  have h3:=lS (.inl hn.2.2.2.1)
  have h4:=hn.2.2.1
  have e:aL (eC (n::b))=aL n.fOwn+aL (eC b):=by rw[aAE,aAE,List.map_cons,List.sum_cons]
  have e2:bR n=aL n.fOwn+aU n.fCond+aL n.fMessages+bE n.fEnergy:=rfl
  rw[oC,List.length_cons,e,e2]
  omega
theorem aK4 {s:List Link}{o:List Int}{u:Tree}(h:wW s o=some u):aL (eC u.fNodes)<=aL s/\kC u<=aL s+462825:=by
 unfold wW at h
 cases hj:jnP s with
 | none=>rw[hj]at h;cases h
 | some x =>
  rw[hj,Option.bind_some]at h
  by_cases c:isOrd x.1 o
  · rw[if_pos c]at h
    cases g:wB s o o []with
    | none=>rw[g]at h;cases h
    | some b =>
     rw[g]at h
     obtain rfl:=Option.some.inj h
     have h1:=aMW c.1 g
     obtain⟨k1,k2⟩:=aBi o [] b (by simp) g
     have h2:=aIY k1
     have hl:b.length=o.length:=by have:=congrArg List.length k2;simpa using this
     have h9:=(aGg c).1
     refine⟨h1,?_⟩
     show szL bR b<=_
     have:51425*b.length<=51425*9:=Nat.mul_le_mul (Nat.le_refl _) (by omega)
     omega
  · rw[if_neg c]at h;cases h
end Go.Ev
/- What is built on tied links is a tree. -/
namespace Go.Ev
set_option linter.all false
theorem aJJ {α:Type}{f g:Int->List α}:∀ {r:List Int},(∀ u∈r,f u=g u)->r.flatMap f=r.flatMap g
 | [],_=>rfl
 | u::r,h=>by rw[List.flatMap_cons,List.flatMap_cons,h u (by simp),aJJ fun w hw=>h w (by simp[hw])]
theorem aHk {α:Type}(f:α->Int):∀ (o:List Int) (l:List α),o.Nodup->(∀ x∈l,f x∈o)->(o.flatMap fun v=>l.filter fun x=>decide (f x=v)).Perm l
 | [],l,_,h=>by
  cases l with
  | nil=>exact List.Perm.refl _
  | cons x l=>exact absurd (h x (by simp)) (by simp)
 | v::r,l,hn,h=>by
  rw[List.nodup_cons]at hn
  rw[List.flatMap_cons]
  have e:(r.flatMap fun u=>l.filter fun x=>decide (f x=u))=r.flatMap fun u=>(l.filter fun x=>!decide (f x=v)).filter fun x=>decide (f x=u):=by
   refine aJJ fun u hu=>?_
   rw[List.filter_filter]
   refine List.filter_congr fun x _=>?_
   by_cases c:f x=u
   · have:f x≠v:=fun e=>hn.1 (by rw[<- e,c];exact hu)
     rw[decide_eq_true c,decide_eq_false this];rfl
   · rw[decide_eq_false c];rfl
  rw[e]
  have ih:=aHk f r (l.filter fun x=>!decide (f x=v)) hn.2 (fun x hx=>by
   rw[List.mem_filter]at hx
   have h1:=h x hx.1
   have h2:f x≠v:=by simpa using hx.2
   exact(List.mem_cons.1 h1).resolve_left h2)
  exact(List.Perm.append_left _ ih).trans (List.filter_append_perm _ l)
theorem aEk {α:Type}(f:α->Int)(l:List α)(v:Int):∀ o:List Int,o.Nodup->v∈o->((o.flatMap fun u=>l.filter fun x=>decide (f x=u)).filter fun x=>decide (f x=v))=l.filter fun x=>decide (f x=v)
 | w::r,hn,hv=>by
  rw[List.nodup_cons]at hn
  rw[List.flatMap_cons,List.filter_append]
  have none:∀ s:List Int,v∉s->((s.flatMap fun u=>l.filter fun x=>decide (f x=u)).filter fun x=>decide (f x=v))=[]:=by
   intro s hs
   rw[List.filter_eq_nil_iff]
   intro x hx
   obtain⟨u,hu,hx⟩:=List.mem_flatMap.1 hx
   have:=of_decide_eq_true (List.mem_filter.1 hx).2
   intro e
   have:=of_decide_eq_true e
   have e3:v=u:=by omega
   exact hs (e3▸hu)
  by_cases c:v=w
  · subst c
    rw[none r hn.1,List.append_nil,List.filter_filter]
    refine List.filter_congr fun x _=>?_
    simp
  · have e:((l.filter fun x=>decide (f x=w)).filter fun x=>decide (f x=v))=[]:=by
     rw[List.filter_eq_nil_iff]
     intro x hx e
     have h1:=of_decide_eq_true (List.mem_filter.1 hx).2
     have h2:=of_decide_eq_true e
     exact c (by omega)
    rw[e,List.nil_append]
    exact aEk f l v r hn.2 ((List.mem_cons.1 hv).resolve_left c)
theorem zB (l:List QL)(o:List Int):∀ (r:List Int) (b:List NQ),(aI l o r b).map (fun n=>n.node)=b.map (fun n=>n.node)++r
 | [],b=>by simp[aI]
 | v::r,b=>by
  rw[aI,zB l o r]
  simp only[List.map_append,List.map_cons,List.map_nil,List.append_assoc,List.singleton_append]
  rfl
theorem aG8 (l:List QL)(o:List Int):∀ (r:List Int) (b:List NQ),(aI l o r b).flatMap (fun n=>n.own)=b.flatMap (fun n=>n.own)++r.flatMap fun v=>l.filter (pQ o v)
 | [],b=>by simp[aI]
 | v::r,b=>by
  rw[aI,aG8 l o r,List.flatMap_append,List.flatMap_cons,List.flatMap_nil,List.append_nil,List.flatMap_cons,List.append_assoc]
  rfl
theorem aEb {l l':List QL}{o:List Int}:∀ (r:List Int) (b:List NQ),(∀ v∈r,l'.filter (pQ o v)=l.filter (pQ o v))->aI l' o r b=aI l o r b
 | [],b,_=>rfl
 | v::r,b,h=>by
  have e:nxt l' o v b=nxt l o v b:=by unfold nxt;rw[h v (by simp)]
  rw[aI,aI,e]
  exact aEb r _ fun u hu=>h u (by simp[hu])
def aBG (l:List QL)(o:List Int):List QL:=o.flatMap fun v=>l.filter (pQ o v)
theorem Tie.owner {l:List QL}{o:List Int}(h:Tie l o):∀ x∈l,aR o [x.a,x.b]∈o:=by
 intro x hx
 have hb:=h.base
 have hbm:x.b∈o:=(h.mem _).2 ⟨by have:=(h.lk x hx).1;omega,x,hx,.inr rfl⟩
 rcases aDz (s:=[x.a,x.b]) (fun u hu=>(hb.h1 u hu).1)with⟨_,h4⟩ | ⟨p,v,r,e,h2,h3,h4⟩
 · exact absurd (by simp) (h4 _ hbm)
 · rw[h2,e];simp
theorem Tie.inPerm {l:List QL}{o:List Int}(h:Tie l o):(aBG l o).Perm l:=aHk (fun x:QL=>aR o [x.a,x.b]) o l h.nd h.owner
theorem Tie.inTie {l:List QL}{o:List Int}(h:Tie l o):Tie (aBG l o) o:=h.perm h.inPerm (List.Perm.refl _)
theorem Tie.inTree {l:List QL}{o:List Int}(h:Tie l o):gR (aBG l o) o=gR l o:=by
 unfold gR
 have e:aI (aBG l o) o o []=aI l o o []:=aEb o [] fun v hv=>aEk (fun x:QL=>aR o [x.a,x.b]) l v o h.nd hv
 rw[e]
theorem aNw:∀ b:List NQ,eC (b.map NQ.toN)=(b.flatMap fun n=>n.own).map QL.toL:=by
 intro b
 unfold eC
 induction b with
 | nil=>rfl
 | cons n b ih =>
  rw[List.flatMap_cons,List.map_append,<- ih];rfl
theorem aCI (l:List QL)(o:List Int):eC (gR l o).fNodes=(aBG l o).map QL.toL:=by
 unfold gR
 simp only[]
 rw[aNw,aG8,List.flatMap_nil,List.nil_append]
 rfl
theorem aKh (l:List QL)(o:List Int):aDc (gR l o)=o:=by
 unfold aDc gR
 simp only[List.map_map]
 have:=zB l o o []
 rw[List.map_nil,List.nil_append]at this
 exact this
theorem Tie.isTree {l:List QL}{o:List Int}(h:Tie l o):xN (gR l o):=by
 unfold xN
 rw[aCI,aKh,h.inTie.build]
 exact congrArg some h.inTree
theorem Tie.tsz {l:List QL}{o:List Int}(h:Tie l o):kC (gR l o)<=470000:=by
 have hz:=h.sz
 have:=(aK4 h.build).2
 unfold gR
 omega
end Go.Ev
/- The law of the paths of a tree. -/
namespace Go.Ev
set_option linter.all false
end Go.Ev
/- The cliques of a tree, both programs, and the law. -/
namespace Go.Ev
set_option linter.all false
theorem aKF {o:List Int}{v:Int}{own:List Link}{b:List TreeNode}{n:TreeNode}(h:sC o v own b=some n):bJ n.fCond=some true:=by
 unfold sC at h
 cases e1:jnP (own++aAK v b)with
 | none=>rw[e1]at h;cases h
 | some u =>
  rw[e1,Option.bind_some]at h
  cases e2:aDP v u.1 with
  | none=>rw[e2]at h;cases h
  | some w =>
   obtain⟨c,m,f⟩:=w
   rw[e2,Option.bind_some]at h
   have hc:bJ c=some true:=by
    unfold aDP at e2
    cases e3:yU v u.1 with
    | none=>rw[e3]at e2;cases e2
    | some x =>
     rw[e3,Option.bind_some]at e2
     have ex:x.1=c:=by
      cases e4:jnP (zH v u.1++x.2)with
      | none=>rw[e4]at e2;cases e2
      | some y=>rw[e4]at e2;exact congrArg Prod.fst (Option.some.inj e2)
     unfold yU at e3
     split at e3
     · rename_i hh
       cases e3
       rw[<- ex];exact hh.2.1
     · cases e3
   split at h
   · cases h;exact hc
   · cases h
theorem aHb {Q:TreeNode->Prop}{s:List Link}{o:List Int}(hQ:∀ v b n,sC o v (s.filter (qD o v)) b=some n->Q n):∀ (r:List Int) (b b':List TreeNode),(∀ n∈b,Q n)->wB s o r b=some b'->∀ n∈b',Q n
 | [],b,b',h,e=>by cases e;exact h
 | v::r,b,b',h,e=>by
  rw[wB]at e
  cases h1:sC o v (s.filter (qD o v)) b with
  | none=>rw[h1]at e;cases e
  | some n =>
   rw[h1,Option.bind_some]at e
   exact aHb hQ r (b++[n]) b' (fun m hm=>by
    rcases List.mem_append.1 hm with hm | hm
    · exact h m hm
    · rw[List.mem_singleton.1 hm];exact hQ _ _ _ h1) e
theorem aCH {t:Tree}(ht:xN t):t.fNodes.length<=9/\∀ n∈t.fNodes,1<=n.fNode/\bJ n.fCond=some true/\aU n.fCond<=20000:=by
 unfold xN wW at ht
 cases hj:jnP (eC t.fNodes)with
 | none=>rw[hj]at ht;cases ht
 | some x =>
  rw[hj,Option.bind_some]at ht
  by_cases c:isOrd x.1 (aDc t)
  · rw[if_pos c]at ht
    cases g:wB (eC t.fNodes) (aDc t) (aDc t) []with
    | none=>rw[g]at ht;cases ht
    | some b =>
     rw[g]at ht
     have e:=Option.some.inj ht
     obtain⟨k1,k2⟩:=aBi (aDc t) [] b (by simp) g
     have k3:=aHb (Q:=fun n=>bJ n.fCond=some true) (fun v b n h=>aKF h) (aDc t) [] b (by simp) g
     have eb:b=t.fNodes:=by rw[<- e]
     subst eb
     obtain⟨l1,l2⟩:=aGg c
     refine⟨by unfold aDc at l1;rwa [List.length_map]at l1,fun n hn=>⟨l2 _ (List.mem_map.2 ⟨n,hn,rfl⟩),k3 n hn,(k1 n hn).2.2.1⟩⟩
  · rw[if_neg c]at ht;cases ht
end Go.Ev
/- Nodes that hang on nothing: a tree is not built. -/
namespace Go.Ev
set_option linter.all false
end Go.Ev
/- A link that hangs on nothing cannot be inserted. -/
namespace Go.Ev
set_option linter.all false
end Go.Ev
/- Inserting a link that hangs on the tree. -/
namespace Go.Ev
set_option linter.all false
end Go.Ev
/- Nodes that an inserted link does not change. -/
namespace Go.Ev
set_option linter.all false
theorem uT (l:List QL)(o:List Int)(v:Int):∀ (p:List Int) (b:List NQ),aI l o (p++[v]) b=aI l o p b++[nxt l o v (aI l o p b)]
 | [],b=>rfl
 | u::p,b=>by rw[List.cons_append,aI,aI,uT l o v p]
theorem TInv.at {l:List QL}{o:List Int}(hb:Base l o)(hg:Grounded l o):∀ (n:Nat) (p r:List Int),p.length=n->o=p++r->TInv l o p r (aI l o p [])
 | 0,p,r,hn,e=>by
  have:p=[]:=List.length_eq_zero_iff.1 hn
  subst this
  rw[List.nil_append]at e
  subst e
  exact TInv.start hb hg
 | n+1,p,r,hn,e=>by
  rcases List.eq_nil_or_concat p with rfl | ⟨q,v,rfl⟩
  · simp at hn
  · rw[List.concat_eq_append]at hn e ⊢
    have ih:=TInv.at hb hg n q (v::r) (by simpa using hn) (by rw[e,List.append_assoc];rfl)
    rw[uT]
    exact(ih.next hb).1
end Go.Ev
/- Nodes outside a closed set stay as they are. -/
namespace Go.Ev
set_option linter.all false
set_option maxHeartbeats 2000000
section
variable {l:List QL}{o:List Int}{k:QL}{L:Int->Prop}
end
end Go.Ev
/- Parents lie on the path. -/
namespace Go.Ev
set_option linter.all false
theorem aHa (l:List QL)(o:List Int):∀ (p q:List Int) (b:List NQ),aI l o (p++q) b=aI l o q (aI l o p b)
 | [],q,b=>rfl
 | v::p,q,b=>by rw[List.cons_append,aI,aI,aHa l o p q]
end Go.Ev
/- What an inserted link changes lies in the list. -/
namespace Go.Ev
set_option linter.all false
end Go.Ev
/- Energies at positions: what joining and eliminating keep. -/
namespace Go.Ev
set_option linter.all false
def eP (p q:Int->Q)(x:QL):Q:=x.w*sqQ (p x.b-p x.a-x.x) (q x.b-q x.a-x.y)
theorem aQn (p q:Int->Q){k l:QL}(ha:k.a=l.a)(hb:k.b=l.b)(hk:0<k.w)(hl:0<l.w):eP p q (mrg k l)+aFT k l=eP p q k+eP p q l:=by
 have:k.w+l.w≠0:=by grind
 unfold eP mrg aFT sqQ
 simp only[]
 rw[ha,hb]
 generalize p l.b-p l.a=u
 generalize q l.b-q l.a=v
 grind
theorem aL0 (p q:Int->Q):∀ (s:List QL) (l:QL),(∀ x∈s,0<x.w)->0<l.w->sm (eP p q) (jS s l).1+(jS s l).2=sm (eP p q) s+eP p q l
 | [],l,_,_=>by simp only[jS,sm];grind
 | k::s,l,hs,hl=>by
  have hk:=hs k (by simp)
  have hr:=fun x hx=>hs x (List.mem_cons_of_mem k hx)
  by_cases c:dG k l
  · have ih:=aL0 p q s l hr hl
    rw[tG c,sm,sm]
    simp only[]
    grind
  · by_cases d:dG l k
    · rw[wR c d]
      simp only[sm]
      grind
    · have e:=aQn p q (zD c d).1 (zD c d).2 hk hl
      rw[wQ c d]
      simp only[sm]
      grind
theorem aJ4 (s:List QL)(l:QL)(hs:∀ x∈s,0<x.w)(hl:0<l.w):∀ x∈(jS s l).1,0<x.w :=
 aDF (P:=fun x=>0<x.w) (fun k l _ _ h1 h2=>aLz h1 h2) s l hs hl
theorem aGe (p q:Int->Q):∀ (l s:List QL) (e:Q),(∀ x∈l,0<x.w)->(∀ x∈s,0<x.w)->sm (eP p q) (bF l s e).1+(bF l s e).2=sm (eP p q) s+sm (eP p q) l+e
 | [],s,e,_,_=>by simp only[bF,sm];grind
 | x::l,s,e,hl,hs=>by
  have hx:=hl x (by simp)
  have h1:=aGe p q l (jS s x).1 (e+(jS s x).2) (fun y hy=>hl y (by simp[hy])) (aJ4 s x hs hx)
  have h2:=aL0 p q s x hs hx
  rw[bF,sm]
  grind
theorem aHw:∀ (l s:List QL) (e:Q),(∀ x∈l,0<x.w)->(∀ x∈s,0<x.w)->∀ x∈(bF l s e).1,0<x.w
 | [],s,e,_,hs=>hs
 | x::l,s,e,hl,hs=>by
  rw[bF]
  exact aHw l _ _ (fun y hy=>hl y (by simp[hy])) (aJ4 s x hs (hl x (by simp)))
theorem aQH (p q:Int->Q){v:Int}{l:QL}(h:aEu v l=true):eP p q (aBe v l)=eP p q l:=by
 have h:=of_decide_eq_true h
 unfold aBe
 by_cases c:l.a=v
 · rw[if_pos c]
   unfold eP sqQ
   simp only[]
   rw[c]
   grind
 · rw[if_neg c]
   have hb:l.b=v:=h.resolve_left c
   unfold eP sqQ
   simp only[]
   rw[hb]
theorem aI2 (p q:Int->Q)(v:Int):∀ s:List QL,sm (eP p q) s=sm (eP p q) (bQ v s)+sm (eP p q) (uM v s)
 | []=>by simp only[bQ,uM,List.filter_nil,List.map_nil,sm];grind
 | x::s=>by
  have ih:=aI2 p q v s
  unfold bQ uM at ih ⊢
  rw[List.filter_cons,List.filter_cons,sm]
  by_cases c:aEu v x=true
  · have e:=aQH p q c
    simp only[c,Bool.not_true,if_true,Bool.false_eq_true,if_false,List.map_cons,sm];grind
  · simp only[c,Bool.not_eq_true,if_false,Bool.not_false,if_true,sm];grind
def app (f:Int->Q)(g:PQ->Q):List PQ->Q
 | []=>0
 | x::r=>x.s*(f x.node+g x)+app f g r
def cdE (p q:Int->Q)(c:CQ):Q:=c.t*sqQ (p c.node-app p (·.x) c.ps) (q c.node-app q (·.y) c.ps)
theorem aP1 (f:Int->Q)(t:Q):∀ a:List QL,app f (·.x) (a.map (tT t))=sm (fun y=>y.w*(f y.a+y.x)) a / t
 | []=>by simp only[List.map_nil,app,sm];grind
 | x::a=>by
  rw[List.map_cons,app,sm,aP1 f t a]
  unfold tT
  simp only[]
  grind
theorem aP0 (f:Int->Q)(t:Q):∀ a:List QL,app f (·.y) (a.map (tT t))=sm (fun y=>y.w*(f y.a+y.y)) a / t
 | []=>by simp only[List.map_nil,app,sm];grind
 | x::a=>by
  rw[List.map_cons,app,sm,aP0 f t a]
  unfold tT
  simp only[]
  grind
section
variable (p q:Int->Q)
def s1x (a:List QL):Q:=sm (fun y=>y.w*(p y.a+y.x)) a
def s1y (a:List QL):Q:=sm (fun y=>y.w*(q y.a+y.y)) a
def s2 (a:List QL):Q:=sm (fun y=>y.w*sqQ (p y.a+y.x) (q y.a+y.y)) a
theorem aNV (t:Q)(ht:t≠0)(x:QL):∀ a:List QL,sm (eP p q) (a.map (mlQ t x))*t=x.w*(s2 p q a-2*(p x.a+x.x)*s1x p a-2*(q x.a+x.y)*s1y q a+sqQ (p x.a+x.x) (q x.a+x.y)*sm wt a)
 | []=>by simp only[List.map_nil,sm,s2,s1x,s1y];grind
 | y::a=>by
  have ih:=aNV t ht x a
  unfold s2 s1x s1y at ih ⊢
  rw[List.map_cons,sm,sm,sm,sm,sm,_root_.Rat.add_mul,ih]
  unfold eP mlQ sqQ wt
  simp only[]
  generalize sm (fun y=>y.w*((p y.a+y.x)*(p y.a+y.x)+(q y.a+y.y)*(q y.a+y.y))) a=S2
  generalize sm (fun y=>y.w*(p y.a+y.x)) a=S1
  generalize sm (fun y=>y.w*(q y.a+y.y)) a=S3
  generalize sm (fun l=>l.w) a=S0
  generalize p x.a=px
  generalize p y.a=py
  generalize q x.a=qx
  generalize q y.a=qy
  have e:x.w*y.w / t*((py-px-(x.x-y.x))*(py-px-(x.x-y.x))+(qy-qx-(x.y-y.y))*(qy-qx-(x.y-y.y)))*t=x.w*y.w*((py-px-(x.x-y.x))*(py-px-(x.x-y.x))+(qy-qx-(x.y-y.y))*(qy-qx-(x.y-y.y))):=by grind
  rw[e]
  grind
theorem aLE (t:Q)(ht:t≠0):∀ a:List QL,sm (eP p q) (mL t a)*t=sm wt a*s2 p q a-s1x p a*s1x p a-s1y q a*s1y q a
 | []=>by simp only[mL,sm,s2,s1x,s1y];grind
 | x::a=>by
  have ih:=aLE t ht a
  have h:=aNV p q t ht x a
  rw[mL,sS,_root_.Rat.add_mul,ih,h]
  unfold s2 s1x s1y
  rw[sm,sm,sm,sm]
  unfold wt sqQ
  grind
theorem aLW (v:Int):∀ a:List QL,(∀ x∈a,x.b=v)->sm (eP p q) a=sm wt a*sqQ (p v) (q v)-2*p v*s1x p a-2*q v*s1y q a+s2 p q a
 | [],_=>by simp only[sm,s2,s1x,s1y];grind
 | x::a,h=>by
  have ih:=aLW v a (fun y hy=>h y (by simp[hy]))
  have hx:=h x (by simp)
  unfold s2 s1x s1y at ih ⊢
  rw[sm,sm,sm,sm,sm,ih]
  unfold eP wt sqQ
  rw[hx]
  grind
theorem aOY {v:Int}{a:List QL}(hb:∀ x∈a,x.b=v)(h:sm wt a≠0):sm (eP p q) a=cdE p q (nI v a)+sm (eP p q) (mL (sm wt a) a):=by
 have h1:=aLE p q (sm wt a) h a
 have h2:=aLW p q v a hb
 unfold cdE nI
 simp only[]
 rw[aP1,aP0,h2]
 have e1:sm (fun y=>y.w*(p y.a+y.x)) a=s1x p a:=rfl
 have e2:sm (fun y=>y.w*(q y.a+y.y)) a=s1y q a:=rfl
 rw[e1,e2]
 unfold sqQ
 have h3:sm (eP p q) (mL (sm wt a) a)=(sm wt a*s2 p q a-s1x p a*s1x p a-s1y q a*s1y q a) / sm wt a:=by grind
 rw[h3]
 grind
end
theorem aQG (v:Int)(s:List QL):∀ x∈bQ v s,x.b=v:=by
 intro x hx
 obtain⟨l,_,_,rfl⟩:=wM.1 hx
 unfold aBe
 split <;> rfl
theorem aJo {t:Q}(ht:0<t):∀ {a:List QL},(∀ x∈a,0<x.w)->∀ z∈mL t a,0<z.w
 | x::a,h,z,hz=>by
  rw[mL,List.mem_append]at hz
  rcases hz with hz | hz
  · obtain⟨y,hy,rfl⟩:=List.mem_map.1 hz
    have h1:=_root_.Rat.mul_pos (h x (by simp)) (h y (by simp[hy]))
    show 0<x.w*y.w / t
    rw[_root_.Rat.lt_div_iff ht];grind
  · exact aJo ht (fun y hy=>h y (by simp[hy])) z hz
theorem aPa (p q:Int->Q){l:List QL}{o:List Int}{v:Int}{b:List NQ}(hp:∀ x∈l.filter (pQ o v)++oM v b,0<x.w)(hW:0<sm wt (bQ v (bF (l.filter (pQ o v)++oM v b) [] 0).1)) :
 sm (eP p q) (l.filter (pQ o v))+sm (eP p q) (oM v b)=cdE p q (nxt l o v b).cond+(nxt l o v b).enQ+sm (eP p q) (nxt l o v b).msgs:=by
 generalize hF:l.filter (pQ o v)++oM v b=F at hp hW
 have h1:=aGe p q F [] 0 hp (by simp)
 have p1:=aHw F [] 0 hp (by simp)
 have h2:=aI2 p q v (bF F [] 0).1
 have h3:=aOY p q (aQG v (bF F [] 0).1) (by grind)
 have pa:∀ x∈bQ v (bF F [] 0).1,0<x.w:=fun x hx=>by
  obtain⟨y,hy,_,rfl⟩:=wM.1 hx
  rw[aDE];exact p1 y hy
 have pn:∀ x∈iQ v (bF F [] 0).1,0<x.w:=fun x hx=>by
  rcases List.mem_append.1 hx with hx | hx
  · exact p1 x (aAi.1 hx).1
  · exact aJo hW pa x hx
 have h4:=aGe p q (iQ v (bF F [] 0).1) [] 0 pn (by simp)
 have h5:sm (eP p q) (iQ v (bF F [] 0).1)=sm (eP p q) (uM v (bF F [] 0).1)+sm (eP p q) (mL (sm wt (bQ v (bF F [] 0).1)) (bQ v (bF F [] 0).1)):=sS _ _ _
 have e1:(nxt l o v b).cond=nI v (bQ v (bF F [] 0).1):=by rw[<- hF];rfl
 have e2:(nxt l o v b).enQ=(bF F [] 0).2+(bF (iQ v (bF F [] 0).1) [] 0).2:=by rw[<- hF];rfl
 have e3:(nxt l o v b).msgs=(bF (iQ v (bF F [] 0).1) [] 0).1:=by rw[<- hF];rfl
 have e4:sm (eP p q) F=sm (eP p q) (l.filter (pQ o v))+sm (eP p q) (oM v b):=by rw[<- hF];exact sS _ _ _
 rw[e1,e2,e3]
 simp only[sm]at h1 h4
 grind
end Go.Ev
/- Parents of parents; the nodes of a tree by their place. -/
namespace Go.Ev
set_option linter.all false
theorem aG9 (l:List QL)(o:List Int):∀ (q:List Int) (b:List NQ),∃ c,aI l o q b=b++c
 | [],b=>⟨[],by simp[aI]⟩
 | v::q,b=>by
  obtain⟨c,e⟩:=aG9 l o q (b++[nxt l o v b])
  exact⟨nxt l o v b::c,by rw[aI,e,List.append_assoc];rfl⟩
theorem xQ (l:List QL)(o:List Int)(q:List Int)(b:List NQ):(aI l o q b).length=b.length+q.length:=by
 have:=congrArg List.length (zB l o q b)
 simpa using this
theorem aHm (l:List QL)(o:List Int):(gR l o).fNodes.length=o.length:=by
 show((aI l o o []).map NQ.toN).length=_
 rw[List.length_map,xQ];simp
theorem aNE {l:List QL}{o p:List Int}{v:Int}{r:List Int}(e:o=p++v::r):(gR l o).fNodes[p.length]?=some (nxt l o v (aI l o p [])).toN:=by
 show((aI l o o []).map NQ.toN)[p.length]?=_
 have:aI l o o []=aI l o (p++v::r) []:=congrArg (fun z=>aI l o z []) e
 rw[this,aHa,aI]
 obtain⟨c,ec⟩:=aG9 l o r (aI l o p []++[nxt l o v (aI l o p [])])
 rw[ec,List.map_append,List.map_append,List.append_assoc,List.getElem?_append_right (by rw[List.length_map,xQ];simp)]
 simp[xQ]
end Go.Ev
/- The energies of a tree at positions; its solution. -/
namespace Go.Ev
set_option linter.all false
def sn (f:NQ->Q):List NQ->Q
 | []=>0
 | x::l=>f x+sn f l
theorem aKn (f:NQ->Q):∀ a b:List NQ,sn f (a++b)=sn f a+sn f b
 | [],b=>by simp only[List.nil_append,sn];grind
 | x::a,b=>by rw[List.cons_append,sn,sn,aKn f a b,_root_.Rat.add_assoc]
theorem aKo (f g:NQ->Q):∀ a:List NQ,sn (fun n=>f n+g n) a=sn f a+sn g a
 | []=>by simp only[sn];grind
 | x::a=>by rw[sn,sn,sn,aKo f g a];grind
theorem aBT {f:NQ->Q}:∀ {l:List NQ},(∀ x∈l,0<=f x)->0<=sn f l
 | [],_=>by simp[sn]
 | x::l,h=>by
  have h1:=h x (by simp)
  have h2:=aBT (f:=f) (l:=l) (fun y hy=>h y (by simp[hy]))
  rw[sn];grind
theorem aH0 {f:NQ->Q}:∀ {l:List NQ},(∀ x∈l,f x=0)->sn f l=0
 | [],_=>rfl
 | x::l,h=>by
  rw[sn,h x (by simp),aH0 (fun y hy=>h y (by simp[hy]))];grind
theorem aKm {f:NQ->Q}:∀ {l:List NQ},(∀ x∈l,0<=f x)->sn f l<=0->∀ x∈l,f x=0
 | y::l,h,h0,x,hx=>by
  have h1:=h y (by simp)
  have h2:=aBT (f:=f) (l:=l) (fun y hy=>h y (by simp[hy]))
  rw[sn]at h0
  rcases List.mem_cons.1 hx with rfl | hx
  · grind
  · exact aKm (fun y hy=>h y (by simp[hy])) (by grind) x hx
theorem aLm {f:QL->Q}{a b:List QL}(h:a.Perm b):sm f a=sm f b:=by
 induction h with
 | nil=>rfl
 | cons x _ ih=>rw[sm,sm,ih]
 | swap x y l=>rw[sm,sm,sm,sm];grind
 | trans _ _ i1 i2=>rw[i1,i2]
section
variable {l:List QL}{o pre r:List Int}{v:Int}{b:List NQ}
theorem aNB (hb:Base l o)(hi:TInv l o pre (v::r) b):∀ x∈(nxt l o v b).msgs,x.a∈psN (nxt l o v b).cond/\x.b∈psN (nxt l o v b).cond/\x.a<x.b:=by
 obtain⟨n,h1,hv,v1,v9,hl,nV,hV⟩:=hi.facts hb
 have hinc:=hi.inc hb
 obtain⟨c1,c2,c3,c4,c5,c6,c7⟩:=aNG (order:=o) hinc
 have hsp:=hi.split
 intro x hx
 have hj:=(hinc.join).2.1
 refine⟨?_,?_,(c5 x hx).2.2.2⟩
 all_goals
  obtain⟨y,hy,e1,e2⟩:=vE _ [] 0 x hx
  have hy:=hy.resolve_left (by simp)
  rcases List.mem_append.1 hy with hy | hy
  · obtain⟨m1,m2,m3⟩:=aAi.1 hy
    obtain⟨z,hz,f1,f2⟩:=vE _ [] 0 y m1
    have hz:=hz.resolve_left (by simp)
    rcases List.mem_append.1 hz with hz | hz
    · exfalso
      have:=(List.mem_filter.1 hz).2
      rw[hsp]at this
      have:=((aDb n h1).1 this).1
      omega
    · obtain⟨c,hc,hu2,hz⟩:=yH.1 hz
      obtain⟨_,hk⟩:=hi.kid_ps hb hc hu2
      obtain⟨_,_,p3,_⟩:=hi.ps c hc (by rw[hu2];simp)
      have g1:=(p3 z hz).1
      have g2:=(p3 z hz).2.1
      rw[f1,e1]at g1
      rw[f2,e2]at g2
      first | exact hk _ g1 (by omega) | exact hk _ g2 (by omega)
  · obtain⟨_,_,_,_,⟨y1,hy1,q1⟩,y2,hy2,q2⟩:=hj.arms.each hy
    have e:psN (nxt l o v b).cond=(bQ v (bF (l.filter (pQ o v)++oM v b) [] 0).1).map fun x=>x.a:=aBq v _
    rw[e]
    first | exact List.mem_map.2 ⟨y1,hy1,q1.trans e1⟩ | exact List.mem_map.2 ⟨y2,hy2,q2.trans e2⟩
theorem aND (hb:Base l o)(hi:TInv l o pre (v::r) b)(h:(nxt l o v b).up∉r):(nxt l o v b).msgs=[]:=by
 rw[List.eq_nil_iff_forall_not_mem]
 intro x hx
 obtain⟨h1,h2,h3⟩:=aNB hb hi x hx
 by_cases c:x.b=0
 · have:=hi.nxt_rem hb _ h1
   have h5:0<=x.a:=by
    rcases List.mem_cons.1 this.1 with g | g
    · omega
    · have:=(hi.facts hb).2.1 x.a (by simp[g]);omega
   omega
 · exact h (hi.nxt_up hb h2 c)
theorem aHz (hb:Base l o)(hi:TInv l o pre (v::r) b):(∀ x∈l.filter (pQ o v)++oM v b,0<x.w)/\0<sm wt (bQ v (bF (l.filter (pQ o v)++oM v b) [] 0).1):=by
 have hinc:=hi.inc hb
 exact⟨fun x hx=>(hinc.lk x hx).1.sc.1,(hinc.join).2.1.arms.pos⟩
theorem aET (p q:Int->Q)(hb:Base l o)(hg:Grounded l o):∀ (n:Nat) (pre rem:List Int),pre.length=n->o=pre++rem->
 sm (eP p q) (l.filter fun x=>decide (aR o [x.a,x.b]∈pre))=sn (fun n=>cdE p q n.cond+n.enQ) (aI l o pre [])+sm (eP p q) (dO ((aI l o pre []).filter (iS rem)))
 | 0,pre,rem,hn,e=>by
  have:pre=[]:=List.length_eq_zero_iff.1 hn
  subst this
  have e1:(l.filter fun x=>decide (aR o [x.a,x.b]∈([]:List Int)))=[]:=by simp
  rw[e1]
  simp only[aI,List.filter_nil,dO,List.flatMap_nil,sm,sn]
  grind
 | n+1,pre,rem,hn,e=>by
  rcases List.eq_nil_or_concat pre with rfl | ⟨q',v,rfl⟩
  · simp at hn
  rw[List.concat_eq_append]at hn e ⊢
  have eo:o=q'++v::rem:=by rw[e,List.append_assoc];rfl
  have ih:=aET p q hb hg n q' (v::rem) (by simpa using hn) eo
  have ti:=TInv.at hb hg q'.length q' (v::rem) rfl eo
  obtain⟨nd,h1,hv,v1,v9,hl,nV,hV⟩:=ti.facts hb
  obtain⟨fp1,fp2⟩:=aHz hb ti
  have hN:=aPa p q fp1 fp2
  rw[uT,aKn]
  simp only[sn]
  have vq:v∉q':=fun h=>by
   have:=hb.nd
   rw[eo]at this
   exact(List.nodup_append.1 this).2.2 v h v (by simp) rfl
  have s1:sm (eP p q) (l.filter fun x=>decide (aR o [x.a,x.b]∈q'++[v]))=sm (eP p q) (l.filter fun x=>decide (aR o [x.a,x.b]∈q'))+sm (eP p q) (l.filter (pQ o v)):=by
   rw[aBl (eP p q) (fun x=>decide (aR o [x.a,x.b]∈q')),List.filter_filter,List.filter_filter]
   congr 2
   · refine List.filter_congr fun x _=>?_
     by_cases c:aR o [x.a,x.b]∈q' <;> simp[c]
   · refine List.filter_congr fun x _=>?_
     unfold pQ
     by_cases c:aR o [x.a,x.b]=v
     · simp[c,vq]
     · by_cases d:aR o [x.a,x.b]∈q' <;> simp[c,d]
  have s2:sm (eP p q) (dO ((aI l o q' []).filter (iS (v::rem))))=sm (eP p q) (oM v (aI l o q' []))+sm (eP p q) (dO ((aI l o q' []).filter (iS rem))):=by
   rw[aCO (eP p q) (kid v),aGa,aD1 hv]
   rfl
  have s3:sm (eP p q) (dO ((aI l o q' []++[nxt l o v (aI l o q' [])]).filter (iS rem)))=sm (eP p q) (dO ((aI l o q' []).filter (iS rem)))+sm (eP p q) (nxt l o v (aI l o q' [])).msgs:=by
   unfold dO
   rw[List.filter_append,List.flatMap_append,sS,List.filter_cons,List.filter_nil]
   by_cases c:(nxt l o v (aI l o q' [])).up∈rem
   · have:iS rem (nxt l o v (aI l o q' []))=true:=decide_eq_true c
     rw[if_pos this,List.flatMap_cons,List.flatMap_nil,List.append_nil]
   · have:¬iS rem (nxt l o v (aI l o q' []))=true:=fun h=>c (of_decide_eq_true h)
     rw[if_neg this,aND hb ti c,List.flatMap_nil]
  rw[s1,s3,ih,s2]
  grind
end
theorem aFe (p q:Int->Q){l:List QL}{o:List Int}(h:Tie l o):sm (eP p q) l=sn (fun n=>cdE p q n.cond) (aI l o o [])+sn (fun n=>n.enQ) (aI l o o []):=by
 have e:=aET p q h.base h.gr o.length o [] rfl (by simp)
 have e1:(l.filter fun x=>decide (aR o [x.a,x.b]∈o))=l:=List.filter_eq_self.2 fun x hx=>decide_eq_true (h.owner x hx)
 have e2:(aI l o o []).filter (iS [])=[]:=List.filter_eq_nil_iff.2 fun c _ hc=>by have:=of_decide_eq_true hc;simp at this
 rw[e1,e2,aKo]at e
 rw[e]
 simp only[dO,List.flatMap_nil,sm]
 grind
def sol (g:PQ->Q):List NQ->Int->Q
 | [],_=>0
 | n::r,u=>if u=n.node then app (sol g r) g n.cond.ps else sol g r u
theorem aD4 {f f':Int->Q}(g:PQ->Q):∀ {ps:List PQ},(∀ x∈ps,f x.node=f' x.node)->app f g ps=app f' g ps
 | [],_=>rfl
 | x::r,h=>by rw[app,app,h x (by simp),aD4 g fun y hy=>h y (by simp[hy])]
def Dn (b:List NQ):Prop:=b.Pairwise (fun n c=>n.node∉psN c.cond/\n.node≠c.node)/\∀ n∈b,n.node∉psN n.cond/\n.cond.node=n.node
theorem Dn.tail {n:NQ}{r:List NQ}(h:Dn (n::r)):Dn r:=⟨(List.pairwise_cons.1 h.1).2,fun c hc=>h.2 c (by simp[hc])⟩
theorem aFk (g:PQ->Q):∀ {b:List NQ},Dn b->∀ n∈b,sol g b n.node=app (sol g b) g n.cond.ps
 | c::r,h,n,hn=>by
  have hp:=(List.pairwise_cons.1 h.1).1
  have key:∀ m:NQ,c.node∉psN m.cond->app (sol g (c::r)) g m.cond.ps=app (sol g r) g m.cond.ps:=fun m hm =>
   aD4 g fun x hx=>by
    have:x.node≠c.node:=fun e=>hm (e▸List.mem_map_of_mem hx)
    rw[sol,if_neg this]
  rcases List.mem_cons.1 hn with rfl | hn
  · rw[key n (h.2 n (by simp)).1,sol,if_pos rfl]
  · obtain⟨h1,h2⟩:=hp n hn
    rw[key n h1,<- aFk g h.tail n hn,sol,if_neg (fun e=>h2 e.symm)]
theorem zC (g:PQ->Q):∀ (b:List NQ) (u:Int),(∀ n∈b,n.node≠u)->sol g b u=0
 | [],_,_=>rfl
 | n::r,u,h=>by rw[sol,if_neg (fun e=>h n (by simp) e.symm),zC g r u fun c hc=>h c (by simp[hc])]
theorem aCY (g:PQ->Q)(p:Int->Q):∀ {b:List NQ},Dn b->(∀ n∈b,p n.node=app p g n.cond.ps)->(∀ n∈b,∀ u∈psN n.cond,(∃ c∈b,c.node=u)\/p u=0)->∀ n∈b,p n.node=sol g b n.node
 | c::r,h,hp,hu,n,hn=>by
  have hpw:=(List.pairwise_cons.1 h.1).1
  have ih:=aCY g p h.tail (fun m hm=>hp m (by simp[hm])) (fun m hm u hu'=>by
   rcases hu m (by simp[hm]) u hu' with⟨d,hd,e⟩ | h0
   · rcases List.mem_cons.1 hd with rfl | hd
     · exact absurd (e▸hu') (hpw m hm).1
     · exact .inl ⟨d,hd,e⟩
   · exact .inr h0)
  rcases List.mem_cons.1 hn with rfl | hn
  · rw[hp n (by simp),sol,if_pos rfl]
    refine aD4 g fun x hx=>?_
    have hm:x.node∈psN n.cond:=List.mem_map_of_mem hx
    by_cases c1:∃ d∈r,d.node=x.node
    · obtain⟨d,hd,e⟩:=c1
      rw[<- e];exact ih d hd
    · rw[zC g r _ fun d hd e=>c1 ⟨d,hd,e⟩]
      rcases hu n (by simp) _ hm with⟨d,hd,e⟩ | h0
      · rcases List.mem_cons.1 hd with rfl | hd
        · exact absurd (e▸hm) (h.2 d (by simp)).1
        · exact absurd ⟨d,hd,e⟩ c1
      · exact h0
  · rw[sol,if_neg (fun e=>(hpw n hn).2 e.symm)]
    exact ih n hn
theorem aEc (x:Q):0<=x*x:=by
 rcases Std.le_total (a:=0) (b:=x)with h | h
 · exact _root_.Rat.mul_nonneg h h
 · have:=_root_.Rat.mul_nonneg (a:=-x) (b:=-x) (by grind) (by grind)
   grind
theorem aOZ {x y:Q}(h:sqQ x y=0):x=0/\y=0:=by
 unfold sqQ at h
 have h1:=aEc x
 have h2:=aEc y
 have e1:x*x=0:=by grind
 have e2:y*y=0:=by grind
 constructor
 · rcases _root_.Rat.mul_eq_zero.1 e1 with h | h <;> exact h
 · rcases _root_.Rat.mul_eq_zero.1 e2 with h | h <;> exact h
theorem aK2 (p q:Int->Q){c:CQ}(h:0<c.t):0<=cdE p q c:=by
 unfold cdE sqQ
 exact _root_.Rat.mul_nonneg (by grind) (by have:=aEc (p c.node-app p (·.x) c.ps);have:=aEc (q c.node-app q (·.y) c.ps);grind)
theorem aOt {p q:Int->Q}{c:CQ}(h:0<c.t)(h0:cdE p q c=0):p c.node=app p (·.x) c.ps/\q c.node=app q (·.y) c.ps:=by
 unfold cdE at h0
 rcases _root_.Rat.mul_eq_zero.1 h0 with h1 | h1
 · grind
 · obtain⟨e1,e2⟩:=aOZ h1
   constructor <;> grind
theorem aRl (p q:Int->Q){x:QL}(h:0<x.w):0<=eP p q x:=by
 unfold eP sqQ
 exact _root_.Rat.mul_nonneg (by grind) (by have:=aEc (p x.b-p x.a-x.x);have:=aEc (q x.b-q x.a-x.y);grind)
end Go.Ev
/- Two trees of the same links: the same solution, the same energy. -/
namespace Go.Ev
set_option linter.all false
theorem aHV {l:List QL}{o:List Int}(h:Tie l o):∀ (n:Nat) (pre rem:List Int),pre.length=n->o=pre++rem->
 Dn (aI l o pre [])/\∀ c∈aI l o pre [],c.node∈pre/\0<c.cond.t/\∀ u∈psN c.cond,u=0\/u∈o
 | 0,pre,rem,hn,e=>by
  have:pre=[]:=List.length_eq_zero_iff.1 hn
  subst this
  exact⟨⟨List.Pairwise.nil,by simp[aI]⟩,by simp[aI]⟩
 | n+1,pre,rem,hn,e=>by
  rcases List.eq_nil_or_concat pre with rfl | ⟨q,v,rfl⟩
  · simp at hn
  rw[List.concat_eq_append]at hn e ⊢
  have eo:o=q++v::rem:=by rw[e,List.append_assoc];rfl
  obtain⟨⟨i1,i2⟩,i3⟩:=aHV h n q (v::rem) (by simpa using hn) eo
  have ti:=TInv.at h.base h.gr q.length q (v::rem) rfl eo
  obtain⟨fp1,fp2⟩:=aHz h.base ti
  have hrem:=ti.nxt_rem h.base
  have nd:=h.nd
  rw[eo]at nd
  have nd2:=List.nodup_append.1 nd
  rw[uT]
  refine⟨⟨?_,?_⟩,?_⟩
  · rw[List.pairwise_append]
    refine⟨i1,by simp,fun c hc d hd=>?_⟩
    rw[List.mem_singleton.1 hd]
    have cq:=(i3 c hc).1
    have c1:=(h.five c.node (by rw[eo];simp[cq])).1
    refine⟨fun hm=>?_,fun e=>?_⟩
    · rcases List.mem_cons.1 (hrem _ hm).1 with g | g
      · omega
      · exact nd2.2.2 _ cq _ (List.mem_cons_of_mem _ g) rfl
    · have:c.node=v:=e
      exact nd2.2.2 _ cq _ (by simp) this
  · intro c hc
    rcases List.mem_append.1 hc with hc | hc
    · exact i2 c hc
    · rw[List.mem_singleton.1 hc]
      exact⟨fun hm=>(hrem _ hm).2 rfl,rfl⟩
  · intro c hc
    rcases List.mem_append.1 hc with hc | hc
    · obtain⟨g1,g2,g3⟩:=i3 c hc
      exact⟨by simp[g1],g2,g3⟩
    · rw[List.mem_singleton.1 hc]
      refine⟨by simp[show(nxt l o v (aI l o q [])).node=v from rfl],fp2,fun u hu=>?_⟩
      rcases List.mem_cons.1 (hrem u hu).1 with g | g
      · exact .inl g
      · exact .inr (by rw[eo];simp[g])
theorem Tie.dn {l:List QL}{o:List Int}(h:Tie l o):Dn (aI l o o [])/\∀ c∈aI l o o [],c.node∈o/\0<c.cond.t/\∀ u∈psN c.cond,u=0\/u∈o:=aHV h o.length o [] rfl (by simp)
theorem pR {l:List QL}{o:List Int}{u:Int}(h:u∈o):∃ c∈aI l o o [],c.node=u:=by
 have e:=zB l o o []
 have:u∈(aI l o o []).map (fun n=>n.node):=by rw[e];simpa using h
 obtain⟨c,hc,e2⟩:=List.mem_map.1 this
 exact⟨c,hc,e2⟩
theorem aRd (g:PQ->Q){l:List QL}{o:List Int}(h:Tie l o):sol g (aI l o o []) 0=0 :=
 zC g _ 0 fun n hn e=>by
  have:=(h.five _ ((h.dn).2 n hn).1).1
  omega
theorem aPF {l:List QL}{o:List Int}(h:Tie l o):sm (eP (sol (·.x) (aI l o o [])) (sol (·.y) (aI l o o []))) l=sn (fun n=>n.enQ) (aI l o o []):=by
 obtain⟨d,_⟩:=h.dn
 rw[aFe _ _ h,aH0 fun n hn=>by
  have e1:=aFk (·.x) d n hn
  have e2:=aFk (·.y) d n hn
  unfold cdE
  rw[(d.2 n hn).2,e1,e2]
  unfold sqQ
  grind]
 grind
theorem aLl {l l':List QL}{o:List Int}(h:Tie l o)(hl:l'.Perm l)(p q:Int->Q):sn (fun n=>n.enQ) (aI l o o [])<=sm (eP p q) l'/\(p 0=0->q 0=0->sm (eP p q) l'<=sn (fun n=>n.enQ) (aI l o o [])->∀ u∈o,p u=sol (·.x) (aI l o o []) u/\q u=sol (·.y) (aI l o o []) u):=by
 obtain⟨d,f⟩:=h.dn
 have e:=aFe p q h
 rw[aLm hl,e]
 have nn:=aBT (f:=fun n=>cdE p q n.cond) (l:=aI l o o []) fun n hn=>aK2 p q (f n hn).2.1
 refine⟨by grind,fun p0 q0 hle u hu=>?_⟩
 have z:=aKm (f:=fun n=>cdE p q n.cond) (l:=aI l o o []) (fun n hn=>aK2 p q (f n hn).2.1) (by grind)
 have hz:∀ n∈aI l o o [],p n.node=app p (·.x) n.cond.ps/\q n.node=app q (·.y) n.cond.ps:=fun n hn=>by
  have:=aOt (f n hn).2.1 (z n hn)
  rw[(d.2 n hn).2]at this
  exact this
 have hps:∀ (w:Int->Q),w 0=0->∀ n∈aI l o o [],∀ u∈psN n.cond,(∃ c∈aI l o o [],c.node=u)\/w u=0:=fun w hw n hn u hu=>by
  rcases(f n hn).2.2 u hu with h0 | h0
  · exact .inr (by rw[h0];exact hw)
  · exact .inl (pR h0)
 obtain⟨c,hc,rfl⟩:=pR (l:=l) hu
 exact⟨aCY (·.x) p d (fun n hn=>(hz n hn).1) (hps p p0) c hc,aCY (·.y) q d (fun n hn=>(hz n hn).2) (hps q q0) c hc⟩
theorem aI6 {l l':List QL}{o o':List Int}(h:Tie l o)(h':Tie l' o')(hl:l'.Perm l)(ho:o'.Perm o) :
 (∀ u,sol (·.x) (aI l o o []) u=sol (·.x) (aI l' o' o' []) u/\sol (·.y) (aI l o o []) u=sol (·.y) (aI l' o' o' []) u)/\sn (fun n=>n.enQ) (aI l o o [])=sn (fun n=>n.enQ) (aI l' o' o' []):=by
 have a1:=aPF h
 have a2:=aPF h'
 have m1:=aLl h' hl.symm (sol (·.x) (aI l o o [])) (sol (·.y) (aI l o o []))
 have m2:=aLl h hl (sol (·.x) (aI l' o' o' [])) (sol (·.y) (aI l' o' o' []))
 have ee:sn (fun n=>n.enQ) (aI l o o [])=sn (fun n=>n.enQ) (aI l' o' o' []):=by
  have:=m1.1
  have:=m2.1
  grind
 refine⟨fun u=>?_,ee⟩
 by_cases c:u∈o
 · exact m1.2 (aRd _ h) (aRd _ h) (by grind) u (ho.mem_iff.2 c)
 · have o1:∀ n∈aI l o o [],n.node≠u:=fun n hn e=>c (e▸((h.dn).2 n hn).1)
   have o2:∀ n∈aI l' o' o' [],n.node≠u:=fun n hn e=>c (ho.mem_iff.1 (e▸((h'.dn).2 n hn).1))
   rw[zC _ _ _ o1,zC _ _ _ o1,zC _ _ _ o2,zC _ _ _ o2]
   exact⟨rfl,rfl⟩
end Go.Ev
/- Positions have few digits. -/
namespace Go.Ev
set_option linter.all false
def aOI (k:Nat)(n:NQ):Prop:=∃ (D X:Nat) (a:List QL),n.cond=nI n.node a/\Arms D X n.node a/\72*D<=ex k
def aAb:Nat->List NQ->Prop
 | _,[]=>True
 | k,n::r=>aOI k n/\aAb (k+1) r
theorem aEt {n:NQ}:∀ {k:Nat} {b:List NQ},aAb k b->aOI (k+b.length) n->aAb k (b++[n])
 | k,[],_,h=>⟨by simpa using h,trivial⟩
 | k,m::r,h,g=>⟨h.1,aEt h.2 (by rw[List.length_cons]at g;rw[show k+1+r.length=k+(r.length+1)by omega];exact g)⟩
theorem aBN {n:NQ}:∀ {k:Nat} {a b:List NQ},aAb k (a++b)->aAb (k+a.length) b
 | k,[],b,h=>h
 | k,m::a,b,h=>by
  have:=aBN (n:=n) (k:=k+1) (a:=a) h.2
  rw[List.length_cons,show k+(a.length+1)=k+1+a.length by omega];exact this
section
variable {l:List QL}{o pre r:List Int}{v:Int}{b:List NQ}
theorem aQA (hb:Base l o)(hi:TInv l o pre (v::r) b):72*aCl v b<=ex b.length:=by
 obtain⟨k1,k2,k3⟩:=hi.kids
 have hH:dU (fun c:NQ=>72*c.den) (b.filter (kid v))<=ex b.length:=Nat.le_trans (Nat.le_trans (Nat.le_mul_of_pos_right _ k2) k1) (aKS _)
 have ex72:72<=ex b.length:=by
  unfold ex
  have:1<=2 ^ b.length:=Nat.one_le_two_pow
  calc 72=72 ^ 1:=rfl
   _<=_:=Nat.pow_le_pow_right (by omega) this
 by_cases c:b.filter (kid v)=[]
 · have:aCl v b=1:=by
    have e:aCl v b=dU (fun c:NQ=>c.den) (b.filter (kid v)):=rfl
    rw[e,c];rfl
   rw[this];omega
 · exact Nat.le_trans (aC9 _ _ c) hH
theorem aMj (hb:Base l o)(hi:TInv l o pre (v::r) b):aOI b.length (nxt l o v b) :=
 ⟨aCl v b,20*2 ^ b.length,bQ v (bF (l.filter (pQ o v)++oM v b) [] 0).1,rfl,((hi.inc hb).join).2.1.arms,aQA hb hi⟩
theorem aBh (hb:Base l o)(hg:Grounded l o):∀ (n:Nat) (pre rem:List Int),pre.length=n->o=pre++rem->aAb 0 (aI l o pre [])
 | 0,pre,rem,hn,e=>by
  have:pre=[]:=List.length_eq_zero_iff.1 hn
  subst this
  exact trivial
 | n+1,pre,rem,hn,e=>by
  rcases List.eq_nil_or_concat pre with rfl | ⟨q,v,rfl⟩
  · simp at hn
  rw[List.concat_eq_append]at hn e ⊢
  have eo:o=q++v::rem:=by rw[e,List.append_assoc];rfl
  have ih:=aBh hb hg n q (v::rem) (by simpa using hn) eo
  have ti:=TInv.at hb hg q.length q (v::rem) rfl eo
  rw[uT]
  refine aEt ih ?_
  rw[Nat.zero_add]
  exact aMj hb ti
end
def epr:Nat->Nat->Nat
 | _,0=>1
 | k,n+1=>ex k*epr (k+1) n
theorem aIC {k n:Nat}(h:k+n<=5):epr k n<=PP ^ 2:=by
 have:∀ k,k<=5->∀ n,n<=5-k->epr k n<=PP ^ 2:=by unfold PP;decide
 exact this k (by omega) n (by omega)
structure Co (g:PQ->Q)(gl:QL->Q):Prop where
 par:∀ t a,g (tT t a)=gl a
 lk:∀ {D X:Nat} {y:QL},0<D->Lk D X y->bd X (gl y)/\Dv D (y.w*gl y)/\Dv (nm D y.w) (gl y)
theorem cox:Co (·.x) (·.x):=⟨fun _ _=>rfl,fun hD h=>⟨h.bx,h.sc.2.2.1,(aIM hD h.sc).1⟩⟩
theorem coy:Co (·.y) (·.y):=⟨fun _ _=>rfl,fun hD h=>⟨h.by',h.sc.2.2.2,(aIM hD h.sc).2⟩⟩
def aCn (T M:Nat)(f:Int->Q):Prop:=0<T/\∀ u,Dv T (f u)/\bd M (f u)
def jO (f:Int->Q)(gl:QL->Q)(a:List QL):Q:=sm (fun y=>y.w*(f y.a+gl y)) a
theorem aJZ {g:PQ->Q}{gl:QL->Q}(hg:Co g gl)(f:Int->Q)(t:Q):∀ a:List QL,app f g (a.map (tT t))=jO f gl a / t
 | []=>by simp only[List.map_nil,app,jO,sm];grind
 | x::a=>by
  have ih:=aJZ hg f t a
  unfold jO at ih ⊢
  rw[List.map_cons,app,sm,ih,hg.par]
  unfold tT
  simp only[]
  grind
theorem aLi {g:PQ->Q}{gl:QL->Q}(hg:Co g gl){f:Int->Q}{T M D X:Nat}(hf:aCn T M f)(hD:0<D):∀ a:List QL,(∀ x∈a,Lk D X x)->Dv (D*T) (jO f gl a)/\-((M+X:Nat):Q)*sm wt a<=jO f gl a/\jO f gl a<=((M+X:Nat):Q)*sm wt a
 | [],_=>by
  unfold jO
  simp only[sm]
  exact⟨⟨0,by simp⟩,by grind,by grind⟩
 | y::a,h=>by
  obtain⟨i1,i2,i3⟩:=aLi hg hf hD a (fun x hx=>h x (by simp[hx]))
  have hy:=h y (by simp)
  obtain⟨g1,g2,g3⟩:=hg.lk hD hy
  obtain⟨f1,f2⟩:=hf.2 y.a
  have b:=aFb hy.sc.1 (aAZ f2 g1)
  unfold jO at i1 i2 i3 ⊢
  rw[sm,sm]
  have e:y.w*(f y.a+gl y)=y.w*f y.a+y.w*gl y:=by grind
  refine⟨kT ?_ i1,?_,?_⟩
  · rw[e]
    exact kT (vM hy.sc.2.1 f1) (pP T g2)
  · unfold wt at i2 ⊢;grind
  · unfold wt at i3 ⊢;grind
theorem aIj {g:PQ->Q}{gl:QL->Q}(hg:Co g gl){f:Int->Q}{T M D X:Nat}{v:Int}{a:List QL}(hf:aCn T M f)(h:Arms D X v a){a1:List QL}(h1:∀ x∈a1,Lk D X x)(hle:sm wt a1<=sm wt a) :
 Dv (nm D (sm wt a)*T) (jO f gl a1 / sm wt a)/\bd (M+X) (jO f gl a1 / sm wt a):=by
 have hp:=h.pos
 have hN:=(yG h.hD hp (xX h.lk)).1
 obtain⟨d1,d2,d3⟩:=aLi hg hf h.hD a1 h1
 have n1:=iX h1
 have nn:=tV (M+X)
 have m2:=_root_.Rat.mul_nonneg nn (b:=sm wt a-sm wt a1) (by grind)
 constructor
 · obtain⟨z,hz⟩:=d1
   refine⟨z,?_⟩
   rw[_root_.Rat.natCast_mul,hN,<- hz,_root_.Rat.natCast_mul]
   grind
 · have k1:-((M+X:Nat):Q)*sm wt a<=jO f gl a1:=by
    generalize ((M+X:Nat):Q)=K at *
    grind
   have k2:jO f gl a1<=((M+X:Nat):Q)*sm wt a:=by
    generalize ((M+X:Nat):Q)=K at *
    grind
   exact aD3 hp k1 k2
theorem vQ {g:PQ->Q}{gl:QL->Q}(hg:Co g gl){f:Int->Q}{T M D X:Nat}{v:Int}{a:List QL}(hf:aCn T M f)(h:Arms D X v a){a1 a2:List QL}(e:a=a1++a2) :
 Dv (nm D (sm wt a)*T) (jO f gl a1 / sm wt a)/\bd (M+X) (jO f gl a1 / sm wt a):=by
 have h2:∀ x∈a2,Lk D X x:=fun x hx=>h.lk x (by rw[e];simp[hx])
 have n2:=iX h2
 have es:sm wt a=sm wt a1+sm wt a2:=by rw[e,sS]
 exact aIj hg hf h (fun x hx=>h.lk x (by rw[e];simp[hx])) (by grind)
theorem aI4 {g:PQ->Q}{gl:QL->Q}(hg:Co g gl){n:NQ}{r:List NQ}{D X T:Nat}{a:List QL}(e1:n.cond=nI n.node a)(ha:Arms D X n.node a)(t2:aCn T (400*r.length) (sol g r)):aCn (nm D (sm wt a)*T) (400*(r.length+1)) (sol g (n::r)):=by
 obtain⟨n1,n2⟩:=ha.nN
 obtain⟨p1,p2⟩:=vQ hg t2 ha (a1:=a) (a2:=[]) (by simp)
 have hX:=ha.hX
 refine⟨Nat.mul_pos n1 t2.1,fun u=>?_⟩
 rw[sol]
 by_cases c:u=n.node
 · rw[if_pos c,e1]
   have:(nI n.node a).ps=a.map (tT (sm wt a)):=rfl
   rw[this,aJZ hg]
   exact⟨p1,aAt p2 (by omega)⟩
 · rw[if_neg c]
   obtain⟨q1,q2⟩:=t2.2 u
   exact⟨sY q1 (Nat.dvd_mul_left _ _),aAt q2 (by omega)⟩
theorem aEV:∀ (b:List NQ) (k:Nat),aAb k b->∃ T,T<=epr k b.length/\aCn T (400*b.length) (sol (·.x) b)/\aCn T (400*b.length) (sol (·.y) b)
 | [],k,_=>⟨1,by simp[epr],⟨by omega,fun u=>⟨⟨0,by simp[sol]⟩,by unfold bd;simp[sol]⟩⟩,⟨by omega,fun u=>⟨⟨0,by simp[sol]⟩,by unfold bd;simp[sol]⟩⟩⟩
 | n::r,k,h=>by
  obtain⟨⟨D,X,a,e1,ha,hk⟩,hr⟩:=h
  obtain⟨T,t1,t2,t3⟩:=aEV r (k+1) hr
  obtain⟨n1,n2⟩:=ha.nN
  exact⟨nm D (sm wt a)*T,Nat.mul_le_mul (Nat.le_trans n2 hk) t1,aI4 cox e1 ha t2,aI4 coy e1 ha t3⟩
end Go.Ev
/- A conditional applied: the program. -/
namespace Go.Ev
set_option linter.all false
set_option maxHeartbeats 1000000
theorem aFB {p q:Q}(hp:bX p)(hq:bX q)(h:bX (p+q)):bM (ofQ p) (ofQ q)=some (ofQ (p+q)):=by
 have e:=(yY (kU hp) (kU hq)).2.1
 rw[aGD hp hq h]at e;exact e
theorem aJa {p q:Q}(hp:bX p)(hq:bX q)(h:bX (p*q)):bT (ofQ p) (ofQ q)=some (ofQ (p*q)):=by
 have e:=(aBf (kU hp) (kU hq)).2.1
 rw[aGC hp hq h]at e;exact e
theorem aRf {p:Q}(hp:bX p):jK (ofQ p)=some true:=by
 have:=lS (kU hp)
 rw[aAw _ (by omega),decide_eq_true (rO hp)]
theorem aN8 {p:Q}(hp:bX p):cZ (ofQ p)=some true:=by
 rw[iK (kU hp),decide_eq_true (rO hp)]
theorem aGB {p q:Q}(hp:bX p)(hq:bX q)(h:bX (p+q)):qP (ofQ p) (ofQ q)=some (ofQ (p+q)):=by
 unfold qP
 rw[aRf hp,aRf hq]
 simp only[Option.bind_some,if_true,Bool.not_true,Bool.false_eq_true,if_false]
 rw[aFB hp hq h]
 rfl
theorem aLh:mP=some ⟨ofQ 0,ofQ 0⟩:=by
 unfold mP
 rw[dH 0 (by omega)]
 simp only[Option.bind_some,aAy]
def ptQ (fx fy:Int->Q)(u:Int):Point:=⟨ofQ (fx u),ofQ (fy u)⟩
theorem aGZ {T B:Nat}{q:Q}(hT:0<T)(h:Dv T q)(hb:bd B q)(hB:B<=10000)(t:T<=PP ^ 6):bX q:=gT (B:=10000) hT h (aAt hb hB) (by omega) (by omega) t
theorem aIW (f:Int->Q)(gl:QL->Q)(a b:List QL):jO f gl (a++b)=jO f gl a+jO f gl b:=sS _ _ _
theorem aLu {g:PQ->Q}{gl:QL->Q}(hg:Co g gl){f:Int->Q}{T M D X:Nat}{v:Int}{a:List QL}(hf:aCn T M f)(hT:T<=PP ^ 2)(hM:M<=5000)(h:Arms D X v a){a1:List QL}{y:QL}{a2:List QL}(e:a=a1++y::a2) :
 bX (f y.a)/\bX (gl y)/\bX (f y.a+gl y)/\bX (y.w / sm wt a)/\bX (y.w / sm wt a*(f y.a+gl y))/\bX (jO f gl a1 / sm wt a)/\bX (jO f gl a1 / sm wt a+y.w / sm wt a*(f y.a+gl y))/\jO f gl a1 / sm wt a+y.w / sm wt a*(f y.a+gl y)=jO f gl (a1++[y]) / sm wt a:=by
 have hy:y∈a:=by rw[e];simp
 have ly:=h.lk y hy
 obtain⟨g1,g2,g3⟩:=hg.lk h.hD ly
 obtain⟨f1,f2⟩:=hf.2 y.a
 obtain⟨s1,s2,s3⟩:=xY h hy
 obtain⟨n1,n2⟩:=h.nN
 have hP:=h.hP
 have hX:=h.hX
 have nP:nm D (sm wt a)<=PP ^ 1:=by rw[Nat.pow_one];omega
 have yP:nm D y.w<=PP ^ 1:=by have:=aDe (W:=72) h.hD ly.sc.1 ly.sc.2.1 (h.le hy);rw[Nat.pow_one];omega
 have yN:=(yG h.hD ly.sc.1 ly.sc.2.1).2
 have e1:y.w / sm wt a*(f y.a+gl y)=jO f gl [y] / sm wt a:=by
  unfold jO
  simp only[sm]
  grind
 obtain⟨q1,q2⟩:=aIj hg hf h (a1:=[y]) (by simpa using ly) (by have:=uS h.lk hy;simp only[sm];unfold wt at *;grind)
 obtain⟨r1,r2⟩:=vQ hg hf h (a1:=a1) (a2:=y::a2) e
 obtain⟨t1,t2⟩:=vQ hg hf h (a1:=a1++[y]) (a2:=a2) (by rw[e];simp)
 have e2:jO f gl a1 / sm wt a+y.w / sm wt a*(f y.a+gl y)=jO f gl (a1++[y]) / sm wt a:=by
  rw[e1,aIW]
  have:=h.pos
  grind
 have NT:=gV (pK nP hT) (b:=6) (by omega)
 have NT0:=Nat.mul_pos n1 hf.1
 refine⟨aGZ hf.1 f1 f2 (by omega) (gV hT (by omega)),aGZ yN g3 g1 (by omega) (gV yP (by omega)),
  aGZ (Nat.mul_pos hf.1 yN) (kT (pP _ f1) (by rw[Nat.mul_comm];exact pP _ g3)) (aAZ f2 g1) (by omega) (gV (pK hT yP) (by omega)),
  aEn n1 (by omega) (by grind) s3 s1,?_,aGZ NT0 r1 r2 (by omega) NT,?_,e2⟩
 · rw[e1];exact aGZ NT0 q1 q2 (by omega) NT
 · rw[e2];exact aGZ NT0 t1 t2 (by omega) NT
theorem aPr {c:CQ}{v:Int}{D X M T1 T2:Nat}{a:List QL}{fx fy:Int->Q}(hc:c=nI v a)(ha:Arms D X v a)(hx:aCn T1 M fx)(hy:aCn T2 M fy)(h1:T1<=PP ^ 2)(h2:T2<=PP ^ 2)(hM:M<=5000)
 (hv:cA c.toC=some true) (at_:List Point) (hat:∀ y∈a,at_[y.a.toNat]?=some (ptQ fx fy y.a)):gZ c.toC at_=some (⟨ofQ (app fx (·.x) c.ps),ofQ (app fy (·.y) c.ps)⟩,true):=by
 have hpl:c.toC.fParents.length=a.length:=by rw[hc];unfold CQ.toC nI;simp
 have al:a.length<=10:=aDv ha.inc fun x hx=>(ha.nd x hx).1
 have main:∀ m k:Nat,m+k=a.length->lp (dS c.toC at_) ((k:Int),⟨ofQ (jO fx (·.x) (a.take k) / sm wt a),ofQ (jO fy (·.y) (a.take k) / sm wt a)⟩)=some (.inl ⟨ofQ (jO fx (·.x) a / sm wt a),ofQ (jO fy (·.y) a / sm wt a)⟩):=by
  intro m
  induction m with
  | zero =>
   intro k hk
   have:k=a.length:=by omega
   subst this
   rw[List.take_length]
   exact aN (by unfold dS;simp only[];rw[if_neg (by omega)])
  | succ m ih =>
   intro k hk
   have hlt:k<a.length:=by omega
   have ey:a=a.take k++a[k]::a.drop (k+1):=by rw[<- List.drop_eq_getElem_cons hlt,List.take_append_drop]
   have et:a.take (k+1)=a.take k++[a[k]]:=by rw[List.take_add_one,List.getElem?_eq_getElem hlt];rfl
   obtain⟨x1,x2,x3,x4,x5,x6,x7,x8⟩:=aLu cox hx h1 hM ha ey
   obtain⟨y1,y2,y3,y4,y5,y6,y7,y8⟩:=aLu coy hy h2 hM ha ey
   have hg:=hat _ (List.getElem_mem hlt)
   obtain⟨hl2,hg2⟩:=List.getElem?_eq_some_iff.1 hg
   have n0:=(ha.nd _ (List.getElem_mem hlt)).1.1
   have hp:c.toC.fParents[k]'(by omega)=(tT (sm wt a) a[k]).toP:=by
    subst hc
    unfold CQ.toC nI;simp
   have hi:idx at_ (a[k]).a=some (ptQ fx fy (a[k]).a):=by
    unfold idx;rw[if_pos n0];exact hg
   have st:dS c.toC at_ ((k:Int),⟨ofQ (jO fx (·.x) (a.take k) / sm wt a),ofQ (jO fy (·.y) (a.take k) / sm wt a)⟩)=some (.inl (((k+1:Nat):Int),⟨ofQ (jO fx (·.x) (a.take (k+1)) / sm wt a),ofQ (jO fy (·.y) (a.take (k+1)) / sm wt a)⟩)):=by
    unfold dS
    simp only[]
    rw[if_pos (by omega),aM (by omega:k<c.toC.fParents.length),hp]
    simp only[Option.bind_some]
    have pn:(tT (sm wt a) a[k]).toP.fNode=(a[k]).a:=rfl
    have ps:(tT (sm wt a) a[k]).toP.fShare=ofQ ((a[k]).w / sm wt a):=rfl
    have px:(tT (sm wt a) a[k]).toP.fDX=ofQ (a[k]).x:=rfl
    have py:(tT (sm wt a) a[k]).toP.fDY=ofQ (a[k]).y:=rfl
    rw[pn,ps,px,py,if_neg (by omega),hi]
    have qx:(ptQ fx fy (a[k]).a).fX=ofQ (fx (a[k]).a):=rfl
    have qy:(ptQ fx fy (a[k]).a).fY=ofQ (fy (a[k]).a):=rfl
    simp only[Option.bind_some]
    rw[qx,qy,aGB x1 x2 x3]
    simp only[Option.bind_some]
    rw[aJa x4 x3 x5]
    simp only[Option.bind_some]
    rw[aFB x6 x5 x7,x8]
    simp only[Option.bind_some]
    rw[aGB y1 y2 y3]
    simp only[Option.bind_some]
    rw[aJa y4 y3 y5]
    simp only[Option.bind_some]
    rw[aFB y6 y5 y7,y8]
    simp only[Option.bind_some]
    rw[wi (n:=(k:Int)+1) (by omega),et]
    rfl
   rw[aS st]
   exact ih (k+1) (by omega)
 have m0:=main a.length 0 (by omega)
 have z0:∀ (f:Int->Q) (gl:QL->Q),jO f gl (a.take 0) / sm wt a=0:=fun f gl=>by
  unfold jO;rw[List.take_zero];simp only[sm];grind
 rw[z0,z0,show((0:Nat):Int)=0 from rfl]at m0
 have ep:c.ps=a.map (tT (sm wt a)):=by rw[hc];rfl
 rw[ep,aJZ cox,aJZ coy]
 obtain⟨r1,r2⟩:=vQ cox hx ha (a1:=a) (a2:=[]) (by simp)
 obtain⟨s1,s2⟩:=vQ coy hy ha (a1:=a) (a2:=[]) (by simp)
 obtain⟨n1,n2⟩:=ha.nN
 have hP:=ha.hP
 have hX:=ha.hX
 have nP:nm D (sm wt a)<=PP ^ 1:=by rw[Nat.pow_one];omega
 have gx:=aGZ (Nat.mul_pos n1 hx.1) r1 r2 (by omega) (gV (pK nP h1) (by omega))
 have gy:=aGZ (Nat.mul_pos n1 hy.1) s1 s2 (by omega) (gV (pK nP h2) (by omega))
 unfold gZ
 rw[hv]
 simp only[Option.bind_some,if_true]
 rw[aLh]
 simp only[Option.bind_some]
 rw[m0]
 simp only[Option.bind_some]
 rw[aN8 gx]
 simp only[Option.bind_some,if_true]
 rw[aN8 gy]
 simp only[Option.bind_some,Bool.not_true,Bool.false_eq_true,if_false]
end Go.Ev
/- A tree solved: the program. -/
namespace Go.Ev
set_option linter.all false
set_option maxHeartbeats 1000000
def gW (b:List NQ):List Conditional:=b.map fun n=>n.cond.toC
structure NetB (b:List NQ):Prop where
 dn:Dn b
 len:b.length<=5
 nb:aAb 0 b
 each:∀ n∈b,cA n.cond.toC=some true/\(1<=n.node/\n.node<=9)/\∀ u∈psN n.cond,u=0\/∃ c∈b,c.node=u
theorem Tie.netB {l:List QL}{o:List Int}(h:Tie l o):NetB (aI l o o []):=by
 obtain⟨d,f⟩:=h.dn
 refine⟨d,?_,aBh h.base h.gr o.length o [] rfl (by simp),fun n hn=>⟨?_,?_,fun u hu=>?_⟩⟩
 · rw[xQ];have:=h.base.len;simpa using this
 · have hm:n.toN∈(gR l o).fNodes:=List.mem_map_of_mem hn
   obtain⟨_,n2,n3⟩:=(aCH h.isTree).2 _ hm
   have ec:n.toN.fCond=n.cond.toC:=rfl
   rw[ec]at n2 n3
   obtain⟨b,v1,v2,_⟩:=aIL n.cond.toC (by omega)
   rw[n2]at v1
   rw[v2,<- Option.some.inj v1]
 · have:=h.five _ (f n hn).1
   omega
 · exact((f n hn).2.2 u hu).imp id pR
theorem aHl (c:CQ):c.toC.fParents.map (·.fNode)=psN c:=by
 unfold CQ.toC psN
 simp only[List.map_map]
 rfl
theorem aNu (c:Conditional)(N:List Int)(h:∀ q∈c.fParents,q.fNode∈N)(hz:N.length<=4294967296)(hs:c.fParents.length<=4294967296):lp (pG c N) 0=some (.inl ()):=by
 have main:∀ m k:Nat,m+k=c.fParents.length->lp (pG c N) (k:Int)=some (.inl ()):=by
  intro m
  induction m with
  | zero=>intro k hk;exact aN (by unfold pG;rw[if_neg (by omega)])
  | succ m ih =>
   intro k hk
   have hlt:k<c.fParents.length:=by omega
   rw[aS (s':=((k+1:Nat):Int))]
   · exact ih (k+1) (by omega)
   · unfold pG
     rw[if_pos (by omega),aM hlt]
     simp only[Option.bind_some]
     rw[aBI _ _ hz,decide_eq_true (h _ (List.getElem_mem hlt))]
     simp only[Option.bind_some,if_true]
     rw[wi (n:=(k:Int)+1) (by omega)];rfl
 exact main _ 0 (Nat.add_zero _)
section
variable {b:List NQ}
theorem NetB.sp {b1 r:List NQ}{n:NQ}(h:NetB b)(e:b=b1++n::r):n.node∉r.map (fun c=>c.node)/\(∀ u∈psN n.cond,u=0\/∃ c∈r,c.node=u)/\n.cond.node=n.node:=by
 have hp:=h.dn.1
 have hm:n∈b:=by rw[e];simp
 rw[e,List.pairwise_append,List.pairwise_cons]at hp
 obtain⟨p1,⟨p2,p3⟩,p4⟩:=hp
 refine⟨fun hr=>?_,fun u hu=>?_,(h.dn.2 n hm).2⟩
 · obtain⟨c,hc,ec⟩:=List.mem_map.1 hr
   exact(p2 c hc).2 ec.symm
 · rcases(h.each n hm).2.2 u hu with h0 | ⟨c,hc,ec⟩
   · exact .inl h0
   · right
     rw[e]at hc
     rcases List.mem_append.1 hc with hc | hc
     · exact absurd (ec▸hu) (p4 c hc n (by simp)).1
     · rcases List.mem_cons.1 hc with rfl | hc
       · exact absurd (ec▸hu) (h.dn.2 c hm).1
       · exact⟨c,hc,ec⟩
theorem NetB.isNet (h:NetB b):sW (gW b)=some true:=by
 have hlen:=h.len
 have nl:(gW b).length=b.length:=by unfold gW;rw[List.length_map]
 have main:∀ (n:Nat) (b1 r:List NQ),b1.length=n->b=b1++r->lp (pF (gW b)) ((b1.length:Int)-1,0::(r.map fun c=>c.node).reverse)=some (.inl ()):=by
  intro n
  induction n with
  | zero =>
   intro b1 r hn e
   have:b1=[]:=List.length_eq_zero_iff.1 hn
   subst this
   exact aN (by unfold pF;simp only[];rw[if_neg (by simp)])
  | succ n ih =>
   intro b1 r hn e
   rcases List.eq_nil_or_concat b1 with rfl | ⟨b2,x,rfl⟩
   · simp at hn
   rw[List.concat_eq_append]at hn e ⊢
   have e2:b=b2++x::r:=by rw[e,List.append_assoc];rfl
   obtain⟨s1,s2,s3⟩:=h.sp e2
   obtain⟨v1,v2,_⟩:=h.each x (by rw[e2];simp)
   have bl:b.length=b2.length+(r.length+1):=by rw[e2];simp
   have el:(((b2++[x]).length:Nat):Int)-1=(b2.length:Int):=by rw[List.length_append,List.length_singleton];omega
   have lt:b2.length<(gW b).length:=by rw[nl,e2];simp
   have hg:(gW b)[b2.length]=x.cond.toC:=by
    unfold gW
    simp only[List.getElem_map,e2]
    simp
   have hN:(0::(r.map fun c=>c.node).reverse).length<=10:=by
    have:b.length=b2.length+(r.length+1):=by rw[e2];simp
    simp;omega
   have hfn:x.cond.toC.fNode=x.node:=s3
   have hpl:x.cond.toC.fParents.length<=100:=by
    obtain⟨D,X,a,e3,ha,_⟩:=(aBN (n:=x) (k:=0) (a:=b2) (b:=x::r) (by rw[<- e2];exact h.nb)).1
    have:=aDv ha.inc fun x hx=>(ha.nd x hx).1
    rw[e3];unfold CQ.toC nI;simp;omega
   rw[el]
   have st:pF (gW b) ((b2.length:Int),0::(r.map fun c=>c.node).reverse)=some (.inl ((b2.length:Int)-1,0::((x::r).map fun c=>c.node).reverse)):=by
    unfold pF
    simp only[]
    rw[if_pos (by omega),aM lt,hg]
    simp only[Option.bind_some]
    rw[v1]
    simp only[Option.bind_some,if_true]
    rw[hfn,aBI _ _ (by omega),decide_eq_false (by
     intro hm
     rcases List.mem_cons.1 hm with h0 | hm
     · omega
     · exact s1 (List.mem_reverse.1 hm))]
    simp only[Option.bind_some,Bool.false_eq_true,if_false]
    rw[aNu _ _ (fun q hq=>by
     have:q.fNode∈psN x.cond:=by rw[<- aHl];exact List.mem_map_of_mem hq
     rcases s2 _ this with h0 | ⟨c,hc,ec⟩
     · rw[h0];simp
     · refine List.mem_cons_of_mem _ (List.mem_reverse.2 ?_)
       rw[<- ec];exact List.mem_map_of_mem hc) (by omega) (by omega)]
    simp only[Option.bind_some,aK]
    rw[aP (by omega),wi (n:=(b2.length:Int)-1) (by omega)]
    simp
   rw[aS st]
   exact ih b2 (x::r) (by simpa using hn) e2
 have:=main b.length b [] rfl (by simp)
 unfold sW
 rw[nl,wi (n:=(b.length:Int)-1) (by omega),aK]
 simp only[List.map_nil,List.reverse_nil]at this
 rw[this]
 rfl
def uU (b:List NQ):Int:=b.foldl (fun g n=>max g n.node) 0
theorem aDw:∀ (b:List NQ) (g:Int),g<=b.foldl (fun g n=>max g n.node) g/\(∀ n∈b,n.node<=b.foldl (fun g n=>max g n.node) g)/\(b.foldl (fun g n=>max g n.node) g=g\/∃ n∈b,n.node=b.foldl (fun g n=>max g n.node) g)
 | [],g=>by simp
 | n::b,g=>by
  obtain⟨h1,h2,h3⟩:=aDw b (max g n.node)
  rw[List.foldl_cons]
  refine⟨by omega,fun m hm=>?_,?_⟩
  · rcases List.mem_cons.1 hm with rfl | hm
    · omega
    · exact h2 m hm
  · rcases h3 with h3 | ⟨m,hm,e⟩
    · by_cases c:n.node<=g
      · left;omega
      · right;exact⟨n,by simp,by omega⟩
    · exact .inr ⟨m,by simp[hm],e⟩
theorem NetB.top (h:NetB b):lp (kB (gW b)) (0,0)=some (uU b)/\0<=uU b/\uU b<=9/\∀ n∈b,n.node<=uU b:=by
 have hlen:=h.len
 have nl:(gW b).length=b.length:=by unfold gW;rw[List.length_map]
 obtain⟨f1,f2,f3⟩:=aDw b 0
 refine⟨?_,f1,?_,f2⟩
 · have:=(lI (step:=kB (gW b)) b (fun k g=>(g,(k:Int))) (fun g n=>max g n.node) (fun g=>g) (fun _ _=>True) (fun k g hk _=>by
    refine⟨?_,trivial⟩
    unfold kB
    simp only[]
    rw[if_pos (by omega),aM (by omega:k<(gW b).length)]
    simp only[Option.bind_some]
    have hg:((gW b)[k]'(by omega)).fNode=(b[k]).node:=by
     unfold gW
     simp only[List.getElem_map]
     exact(h.dn.2 _ (List.getElem_mem hk)).2
    rw[hg,wi (n:=(k:Int)+1) (by omega)];rfl) (fun g _=>by unfold kB;simp only[];rw[if_neg (by omega)]) 0 trivial).1
   exact this
 · rcases f3 with f3 | ⟨n,hn,e⟩
   · unfold uU;omega
   · have:=(h.each n hn).2.1
     unfold uU;omega
def zP0:Point:=Point.mk (Rat.mk (BigInt.mk false ([])) ([])) (Rat.mk (BigInt.mk false ([])) ([]))
def yZ (G:Nat)(r:List NQ):List Point:=(List.range (G+1)).map fun(i:Nat)=>if(decide (i=0)||r.any fun c=>decide (c.node=(i:Int)))=true then ptQ (sol (·.x) r) (sol (·.y) r) (i:Int)else zP0
theorem wL (G:Nat)(r:List NQ):(yZ G r).length=G+1:=by unfold yZ;simp
theorem aAL {G:Nat}{r:List NQ}{i:Nat}(hi:i<(yZ G r).length):(yZ G r)[i]=if(decide (i=0)||r.any fun c=>decide (c.node=(i:Int)))=true then ptQ (sol (·.x) r) (sol (·.y) r) (i:Int)else zP0:=by
 simp only[yZ,List.getElem_map,List.getElem_range]
theorem aNT {G:Nat}{r:List NQ}{u:Int}(h0:0<=u)(hG:u<=G)(h:u=0\/∃ c∈r,c.node=u):(yZ G r)[u.toNat]?=some (ptQ (sol (·.x) r) (sol (·.y) r) u):=by
 obtain⟨i,rfl⟩:=Int.eq_ofNat_of_zero_le h0
 rw[Int.toNat_natCast]
 unfold yZ
 rw[List.getElem?_map,List.getElem?_range (by omega)]
 simp only[Option.map_some]
 rw[if_pos]
 rw[Bool.or_eq_true,decide_eq_true_eq,List.any_eq_true]
 rcases h with h | ⟨c,hc,e⟩
 · left;omega
 · exact .inr ⟨c,hc,decide_eq_true e⟩
theorem aNR {G:Nat}{r:List NQ}{n:NQ}(h1:1<=n.node)(hG:n.node<=G)(hn:n.node∉r.map (fun c=>c.node)):(yZ G r).set n.node.toNat (ptQ (sol (·.x) (n::r)) (sol (·.y) (n::r)) n.node)=yZ G (n::r):=by
 obtain⟨j,ej⟩:=Int.eq_ofNat_of_zero_le (by omega:0<=n.node)
 apply List.ext_getElem
 · rw[List.length_set,wL,wL]
 · intro i hi1 hi2
   rw[List.length_set,wL]at hi1
   rw[List.getElem_set]
   by_cases c:n.node.toNat=i
   · rw[if_pos c,aAL]
     have e:n.node=(i:Int):=by omega
     rw[if_pos (by rw[Bool.or_eq_true,List.any_eq_true];exact .inr ⟨n,by simp,decide_eq_true e⟩),e]
   · rw[if_neg c,aAL,aAL]
     have ne:¬(i:Int)=n.node:=by omega
     have e1:ptQ (sol (·.x) (n::r)) (sol (·.y) (n::r)) (i:Int)=ptQ (sol (·.x) r) (sol (·.y) r) (i:Int):=by
      unfold ptQ
      rw[sol,if_neg ne,sol,if_neg ne]
     rw[e1]
     have e2:(decide (i=0)||(n::r).any fun c=>decide (c.node=(i:Int)))=(decide (i=0)||r.any fun c=>decide (c.node=(i:Int))):=by
      rw[List.any_cons,decide_eq_false (fun e:n.node=(i:Int)=>ne e.symm),Bool.false_or]
     rw[e2]
theorem aNS (G:Nat):(List.replicate (G+1) zP0).set 0 ⟨ofQ 0,ofQ 0⟩=yZ G []:=by
 apply List.ext_getElem
 · rw[List.length_set,wL];simp
 · intro i hi1 hi2
   rw[List.getElem_set,aAL]
   simp only[List.getElem_replicate,List.any_nil,Bool.or_false]
   by_cases c:i=0
   · subst c;rfl
   · rw[if_neg (fun e=>c e.symm),if_neg (by simpa using c)]
theorem NetB.solve (h:NetB b):sJ (gW b)=some (yZ (uU b).toNat b,true):=by
 have hlen:=h.len
 have nl:(gW b).length=b.length:=by unfold gW;rw[List.length_map]
 obtain⟨t1,t2,t3,t4⟩:=h.top
 have main:∀ (n:Nat) (b1 r:List NQ),b1.length=n->b=b1++r->lp (kA (gW b)) ((b1.length:Int)-1,yZ (uU b).toNat r)=some (.inl (yZ (uU b).toNat b)):=by
  intro n
  induction n with
  | zero =>
   intro b1 r hn e
   have:b1=[]:=List.length_eq_zero_iff.1 hn
   subst this
   rw[List.nil_append]at e
   subst e
   exact aN (by unfold kA;simp only[];rw[if_neg (by simp)])
  | succ n ih =>
   intro b1 r hn e
   rcases List.eq_nil_or_concat b1 with rfl | ⟨b2,x,rfl⟩
   · simp at hn
   rw[List.concat_eq_append]at hn e ⊢
   have e2:b=b2++x::r:=by rw[e,List.append_assoc];rfl
   have hxb:x∈b:=by rw[e2];simp
   obtain⟨s1,s2,s3⟩:=h.sp e2
   obtain⟨v1,v2,_⟩:=h.each x hxb
   have bl:b.length=b2.length+(r.length+1):=by rw[e2];simp
   have el:(((b2++[x]).length:Nat):Int)-1=(b2.length:Int):=by rw[List.length_append,List.length_singleton];omega
   have lt:b2.length<(gW b).length:=by omega
   have hg:(gW b)[b2.length]=x.cond.toC:=by
    unfold gW
    simp only[List.getElem_map,e2]
    simp
   have hfn:x.cond.toC.fNode=x.node:=s3
   have nb2:=aBN (n:=x) (k:=0) (a:=b2) (b:=x::r) (by rw[<- e2];exact h.nb)
   rw[Nat.zero_add]at nb2
   obtain⟨⟨D,X,a,e3,ha,_⟩,nbr⟩:=nb2
   obtain⟨T1,b1',sx,sy⟩:=aEV r (b2.length+1) nbr
   have ep:=aIC (k:=b2.length+1) (n:=r.length) (by omega)
   have ap:=aPr e3 ha sx sy (by omega) (by omega) (by omega) v1 (yZ (uU b).toNat r) (fun y hy=>by
    have hu:y.a∈psN x.cond:=by rw[e3,aBq];exact List.mem_map_of_mem hy
    have h0:=(ha.nd y hy).1.1
    refine aNT h0 ?_ (s2 _ hu)
    rcases s2 _ hu with g | ⟨c,hc,ec⟩
    · omega
    · have:=t4 c (by rw[e2];simp[hc])
      omega)
   have eset:ptQ (sol (·.x) (x::r)) (sol (·.y) (x::r)) x.node=⟨ofQ (app (sol (·.x) r) (·.x) x.cond.ps),ofQ (app (sol (·.y) r) (·.y) x.cond.ps)⟩:=by
    unfold ptQ
    rw[sol,if_pos rfl,sol,if_pos rfl]
   have tx:=t4 x hxb
   have hset:=aNR (G:=(uU b).toNat) (r:=r) (n:=x) v2.1 (by omega) s1
   have xin:x.node.toNat<(yZ (uU b).toNat r).length:=by rw[wL];omega
   obtain⟨j,ej⟩:=Int.eq_ofNat_of_zero_le (by omega:0<=x.node)
   rw[el]
   have st:kA (gW b) ((b2.length:Int),yZ (uU b).toNat r)=some (.inl ((b2.length:Int)-1,yZ (uU b).toNat (x::r))):=by
    unfold kA
    simp only[]
    rw[if_pos (by omega),aM lt,hg]
    simp only[Option.bind_some]
    rw[ap]
    simp only[Option.bind_some,if_true]
    rw[hfn,ej,aM (by rw[ej,Int.toNat_natCast]at xin;exact xin)]
    simp only[Option.bind_some,aK]
    rw[sA,wi (n:=(b2.length:Int)-1) (by omega)]
    rw[<- hset,eset,ej,Int.toNat_natCast]
   rw[aS st]
   exact ih b2 (x::r) (by simpa using hn) e2
 have m0:=main b.length b [] rfl (by simp)
 have w1:IntKind.i64.wrap (uU b+1)=((uU b).toNat+1:Nat):=by rw[wi (by omega)];omega
 unfold sJ
 rw[h.isNet]
 simp only[Option.bind_some,if_true]
 rw[t1]
 simp only[Option.bind_some,aK]
 rw[w1,Int.toNat_natCast,aP (by omega)]
 simp only[Option.bind_some]
 rw[aLh]
 simp only[Option.bind_some]
 have i0:∀ (n:Nat) (z:Point),idx (List.replicate (n+1) z) 0=some z:=fun n z=>by unfold idx;simp
 have s0:∀ (l:List Point) (z:Point),jX l 0 z=l.set 0 z:=fun l z=>rfl
 rw[i0]
 simp only[Option.bind_some]
 rw[s0]
 have en:=aNS (uU b).toNat
 unfold zP0 at en
 rw[en,nl,wi (n:=(b.length:Int)-1) (by omega),m0]
 rfl
end
theorem aPN {t:Tree}(hz:kC t<=4294967296)(hc:∀ n∈t.fNodes,aU n.fCond<=4294967296)(hl:t.fNodes.length<=1000):rA t=some (t.fNodes.map (·.fCond)):=by
 have:=(lI (step:=oT t) t.fNodes (fun k u=>((k:Int),u)) (fun u n=>u++[n.fCond]) (fun u=>u) (fun k u=>u.length<=k) (fun k u hk hi=>by
  constructor
  · unfold oT
    simp only[]
    rw[if_pos (by omega),aM hk]
    simp only[Option.bind_some]
    rw[uC _ (hc _ (List.getElem_mem hk))]
    simp only[Option.bind_some,aK]
    rw[aP (by omega),wi (n:=(k:Int)+1) (by omega)];rfl
  · rw[List.length_append,List.length_singleton];omega) (fun u _=>by unfold oT;simp only[];rw[if_neg (by omega)]) [] (Nat.zero_le _)).1
 have e:∀ (a:List TreeNode) (u:List Conditional),a.foldl (fun u n=>u++[n.fCond]) u=u++a.map (·.fCond):=by
  intro a
  induction a with
  | nil=>simp
  | cons x a ih=>intro u;rw[List.foldl_cons,ih];simp
 rw[show((0:Nat):Int)=0 from rfl,e,List.nil_append]at this
 unfold rA
 rw[this];rfl
theorem aLk {l:List QL}{o:List Int}(h:Tie l o):mW (gR l o)=some (yZ (uU (aI l o o [])).toNat (aI l o o []),true):=by
 have hz:=h.tsz
 obtain⟨h9,hn⟩:=aCH h.isTree
 unfold mW
 rw[aPN (by omega) (fun n hn'=>by have:=(hn n hn').2.2;omega) (by omega)]
 simp only[Option.bind_some]
 have e:(gR l o).fNodes.map (·.fCond)=gW (aI l o o []):=by
  unfold gR gW
  simp only[List.map_map]
  rfl
 rw[e,h.netB.solve]
 rfl
end Go.Ev
