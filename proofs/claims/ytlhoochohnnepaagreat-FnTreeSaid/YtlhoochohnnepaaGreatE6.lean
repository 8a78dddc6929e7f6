/- Parts EvWW, EvXX, EvYY, EvZZ, EvAB, EvAC, EvAD, EvAE, EvAF, EvAG. -/
import Derived.Test.YtlhoochohnnepaaGreatE5
import Derived.Test.YtlhoochohnnepaaGreatE4
set_option linter.all false
set_option maxHeartbeats 4000000
set_option maxRecDepth 20000
/- The engine, part WW: functions that take the address of an own block whose first cell is a value that is read (cursors); functions that return the address of a new block. -/
namespace Go.Ev
open Go.RowKit (Below)
section
variable {P:Program}{N:Nat}
theorem MeetsX.core {f:FuncId}{fn:Func}{c:Code}{args:List PV}{objs:List XO}{r:PV}{deep:Bool}{rs:Array ResultVar}(hf:P.funcs[f]?=some fn)(hb:fn.body=some c)(hN:fn.ntmps=N)(hrs:fn.results=rs)(hn:Nat.ble args.length N=true)
 (hx:xok objs=true) (hnil:∀ o∈objs,o.old=[]->o.new=[]) (hsc:∀ o∈objs,jV o.new=true)
 (w:World) (cargs:Array Value) (ok:Nat->Prop) (κ:Nat->Option (Option Nat)) (ha:XArgs w.heap ok κ args cargs.toList) (hob:∀ o∈objs,XOb w ok κ o) (hκ:∀ l o,κ l=some o->∃ x∈objs,x.l=l) (hinj:∀ l l' b,κ l=some (some b)->κ l'=some (some b)->l=l')
 (h:∀ Γ:Ctx P N,Γ.base=w.heap.size->Γ.w0=w->(∀ b,ok b->Γ.ok b)->(∀ b,¬Γ.mine b)->(∀ b,¬Γ.lent b)->(∀ l b,Γ.io l=some b->κ l=some (some b))->(∀ l,Nat.blt l 100000=true->Γ.io l=none)->CodeT Γ c ⟨iJ args 0,aJB objs⟩ (aAH Γ rs r deep objs)) :
 Calls P f cargs w fun e w'=>∃ c B,e=.returned c/\Same w w'/\(∀ b,b<w.heap.size->(∀ l,κ l≠some (some b))->w'.heap[b]?=w.heap[b]?)/\(∀ o∈objs,aMR w w' κ o)/\
  RelV w'.heap dead r c B/\(∀ b∈B,ok b\/w.heap.size<=b)/\(deep=true->B.Nodup/\∀ b∈B,w.heap.size<=b/\gD w' b):=by
 classical
 obtain⟨h1,h2⟩:=ha.get
 obtain⟨hx1,hx2⟩:=aDs hx
 have hn:=aUj hn
 let Γ:Ctx P N:={ base:=w.heap.size,ok:=ok,io:=fun l=>match κ l with | some (some b)=>some b | _=>none,w0:=w,mine:=fun _=>False,lent:=fun _=>False }
 have hio:∀ l b,Γ.io l=some b↔κ l=some (some b):=by
  intro l b
  show(match κ l with | some (some b)=>some b | _=>none)=some b↔_
  cases κ l with
  | none=>simp
  | some o=>cases o <;> simp
 have hsz:(cargs++Array.replicate (fn.ntmps-cargs.size) undef).size=N:=by
  have:cargs.size=args.length:=by rw[h1];simp
  simp[this,hN];omega
 have hblt:∀ l b,κ l=some (some b)->b<w.heap.size:=by
  intro l b e
  obtain⟨o,ho,rfl⟩:=hκ l _ e
  rcases hob o ho with⟨e',_⟩ | ⟨b',cs,t,e',_,g,_⟩
  · rw[e]at e';cases e'
  · rw[e]at e';cases e'
    rcases aUT b w.heap.size with h | h
    · exact h
    · simp[aUG h]at g
 refine calls_of_wp hf hb ?_
 let ow:Nat->Own:=fun b=>if hh:∃ l,κ l=some (some b)then .lab hh.choose else .none
 have how:∀ b l,κ l=some (some b)->ow b=.lab l:=by
  intro b l e
  have hh:∃ l,κ l=some (some b):=⟨l,e⟩
  show(if hh:_ then _ else _)=_
  rw[aVU hh,hinj _ _ b hh.choose_spec e]
 have how2:∀ b,ow b≠.none->∃ l,κ l=some (some b):=by
  intro b hb'
  rcases aVs (∃ l,κ l=some (some b))with hh | hh
  · exact hh
  · exfalso;apply hb'
    show(if hh:_ then _ else _)=_
    rw[aVV hh]
 have hsim:Sim Γ ⟨iJ args 0,aJB objs⟩ { tmps:=cargs++Array.replicate (fn.ntmps-cargs.size) undef,defers:=[] } w:=by
  refine⟨ow,κ,{ size:=hsz,defers:=rfl,kept:=⟨rfl,rfl,rfl,aTU _,fun _ _ _ _=>rfl,fun b _ _ cs t h=>⟨cs,h,rfl⟩⟩,slots:=fun k=>?_,objs:=fun l ob hl=>?_,gone:=fun l hl=>?_,own:=fun b hb=>?_,ios:=fun l b hl _=>(hio l b).1 hl,fresh:=fun l b hl hi=>?_ }⟩
  · rw[nO]
    by_cases hk:k<args.length
    · rw[aTK ⟨aUB _,by simpa using hk⟩]
      obtain⟨B,g1,g2⟩:=h2 k hk
      have hB:∀ b∈B,∀ l,ow b≠.lab l:=by
       intro b hb l e
       obtain⟨l',e'⟩:=how2 b (by rw[e];simp)
       obtain⟨o,ho,rfl⟩:=hκ l' _ e'
       rcases hob o ho with⟨e2,_⟩ | ⟨b',cs,t,e2,hnok,_⟩
       · rw[e']at e2;cases e2
       · rw[e']at e2;cases e2;exact hnok (g2 b hb)
      refine⟨B,?_,fun b hb=>⟨aW8 _ _ _ g1 b hb,.inl (g2 b hb),hB b hb⟩,by simp⟩
      have e:(cargs++Array.replicate (fn.ntmps-cargs.size) undef).getD k undef=cargs.toList.getD k undef:=by
       have hlt:k<cargs.size:=by rw[h1]at hk;simpa using hk
       simp[aT8,aUS,hlt,aT1]
      rw[e]
      simpa only[aVv]using g1
    · rw[aTJ (by simpa using hk)]
      exact⟨[],by simp[RelV],by simp,by simp⟩
  · rcases aDt (os:=objs) (l:=l)with⟨g1,_⟩ | ⟨o,ho,rfl,g1⟩
    · simp only[g1]at hl;cases hl
    · simp only[g1]at hl;cases hl
      refine⟨[],by simp,by simp,?_⟩
      rcases hob o ho with⟨e1,e2⟩ | ⟨b,cs,t,e1,_,e3,e4⟩
      · exact .inl ⟨e1,e2,rfl⟩
      · exact .inr ⟨b,cs,t,e1,how b _ e1,e3,by simpa using e4⟩
  · cases hk:κ l with
    | none=>rfl
    | some o =>
     obtain⟨x,hx,rfl⟩:=hκ l o hk
     rcases aDt (os:=objs) (l:=x.l)with⟨_,g2⟩ | ⟨_,_,_,g1⟩
     · exact absurd rfl (g2 x hx)
     · simp only[g1]at hl;cases hl
  · obtain⟨l,e⟩:=how2 b hb
    exact⟨hblt l b e,.inr ⟨l,how b l e,(hio l b).2 e⟩⟩
  · rw[(hio l b).2 hl]at hi;cases hi
 have hioN:∀ l,Nat.blt l 100000=true->Γ.io l=none:=by
  intro l hl
  have hl:=(aW _ _).1 hl
  cases hi:Γ.io l with
  | none=>rfl
  | some b =>
   obtain⟨o,ho,rfl⟩:=hκ l _ ((hio l b).1 hi)
   have:=hx1 o ho;omega
 refine wp_mono (h Γ rfl rfl (fun _ h=>h) (fun _ h=>h) (fun _ h=>h) (fun l b e=>(hio l b).1 e) hioN _ _ hsim) fun e a' w' ⟨E',hs',hq⟩=>?_
 have fin:RetX Γ rs E' r deep objs->a'.defers=[]/\∃ v,(results fn a'.tmps).run P w'=.ok v w'/\∃ c B,Ending.returned v=.returned c/\Same w w'/\(∀ b,b<w.heap.size->(∀ l,κ l≠some (some b))->w'.heap[b]?=w.heap[b]?)/\(∀ o∈objs,aMR w w' κ o)/\
  RelV w'.heap dead r c B/\(∀ b∈B,ok b\/w.heap.size<=b)/\(deep=true->B.Nodup/\∀ b∈B,w.heap.size<=b/\gD w' b):=by
  rintro⟨hr,hr2⟩
  obtain⟨c,B,g1,g2,g3,g4⟩:=hr fn hrs a' w' hs'
  obtain⟨E2,⟨ow2,β2,hs2⟩,hr2⟩:=hr2 a' w' hs'
  refine⟨hs2.defers,c,g1,c,B,rfl,⟨hs2.kept.os,hs2.kept.output,hs2.kept.tape,hs2.kept.size⟩,fun b hb hn=>hs2.kept.old b hb (fun l e=>hn l ((hio l b).1 e)) (fun h=>h),fun o ho=>⟨fun e=>?_,fun b e cs t hc=>?_⟩,g2,fun b hb=>(g3 b hb).2.imp id (fun h=>(h.elim id False.elim:Γ.nww b).elim id False.elim),fun hd=>⟨(g4 hd).1,fun b hb=>⟨(((g4 hd).2 b hb).2.elim id False.elim:Γ.nww b).elim id False.elim,((g4 hd).2 b hb).1⟩⟩⟩
  · refine hnil o ho ?_
    rcases hob o ho with⟨_,e2⟩ | ⟨b,_,_,e2,_⟩
    · exact e2
    · rw[e]at e2;cases e2
  · obtain⟨dp,hl⟩:=hr2 o ho
    obtain⟨Bo,_,_,k3⟩:=hs2.objs o.l _ hl
    have hβ:=hs2.ios o.l b ((hio o.l b).2 e) (by rw[hl];rfl)
    rcases k3 with⟨k4,_⟩ | ⟨b',cs',t',k4,k5,k6,k7⟩
    · rw[hβ]at k4;cases k4
    · rw[hβ]at k4;cases k4
      obtain⟨cs2,q1,q2⟩:=hs2.kept.ios b (hblt _ _ e) (fun h=>h) cs t hc
      rw[k6]at q1;cases q1
      have:=pX (hsc o ho) k7
      subst this
      exact⟨cs',k6,q2,by simpa using k7⟩
 cases e with
 | normal=>exact fin hq
 | ret=>exact fin hq
 | exit id=>exact hq.elim
 | goto l=>exact hq.elim
 | panic ch=>exact hq.elim
 | outgrown=>exact hq.elim
def κ1 (b0:Nat):Nat->Option (Option Nat):=fun l=>if l=100000 then some (some b0)else none
def MeetsP (P:Program)(f:FuncId)(p:PV)(vb:Value)(args old new:List PV)(r:PV)(deep:Bool):Prop :=
 ∀ (w:World) (cargs:Array Value) (ok:Nat->Prop) (b0:Nat) (cs:Array Value) (t:TypeId),XArgs w.heap ok (κ1 b0) args cargs.toList->¬ok b0->w.heap[b0]?=some (.cells cs t (0,0))->RelL w.heap true dead (.sc vb::old) cs 0 []->(∃ B,RelV w.heap dead p vb B/\∀ b∈B,ok b)->
  Calls P f cargs w fun e w'=>∃ c B,e=.returned c/\Same w w'/\(∀ b,b<w.heap.size->b≠b0->w'.heap[b]?=w.heap[b]?)/\(∃ cs',w'.heap[b0]?=some (.cells cs' t (0,0))/\cs'.size=cs.size/\RelL w'.heap true dead (.sc vb::new) cs' 0 [])/\
   RelV w'.heap dead r c B/\(∀ b∈B,ok b\/w.heap.size<=b)/\(deep=true->B.Nodup/\∀ b∈B,w.heap.size<=b/\gD w' b)
theorem MeetsP.intro {f:FuncId}{fn:Func}{c:Code}{p:PV}{vb:Value}{args old new:List PV}{r:PV}{deep:Bool}{rs:Array ResultVar}(hf:P.funcs[f]?=some fn)(hb:fn.body=some c)(hN:fn.ntmps=N)(hrs:fn.results=rs)(hn:Nat.ble args.length N=true)(hp:p.labs=[])(hsc:jV new=true)
 (h:∀ Γ:Ctx P N,(∀ l,Nat.blt l 100000=true->Γ.io l=none)->OldF Γ vb p->CodeT Γ c ⟨iJ args 0,[(100000,some ⟨.sc vb::old,true,false⟩)]⟩ (aAH Γ rs r deep [⟨100000,.sc vb::old,.sc vb::new⟩])):MeetsP P f p vb args old new r deep:=by
 intro w cargs ok b0 cs t ha hnok hb0 hrel ⟨Bp,hp1,hp2⟩
 have hκ:∀ l o,κ1 b0 l=some o->l=100000/\o=some b0:=by
  intro l o e
  unfold κ1 at e
  by_cases hl:l=100000
  · rw[aTK hl]at e;exact⟨hl,(Option.some.inj e).symm⟩
  · rw[aTJ hl]at e;cases e
 refine(MeetsX.core (r:=r) (deep:=deep) hf hb hN hrs hn (objs:=[⟨100000,.sc vb::old,.sc vb::new⟩]) rfl (by simp) (by simpa [jV]using hsc) w cargs ok (κ1 b0) ha (fun o ho=>?_) (fun l o e=>?_) (fun l l' b e e'=>?_) (fun Γ h1 h2 h3 h4 h5 h6 h7=>?_)).mono fun e w' ⟨c,B,q1,q2,q3,q4,q5,q6,q7⟩=>?_
 · simp only[aUA]at ho;subst ho
   exact .inr ⟨b0,cs,t,by simp[κ1],hnok,hb0,hrel⟩
 · exact⟨⟨100000,.sc vb::old,.sc vb::new⟩,by simp,(hκ l o e).1.symm⟩
 · exact(hκ l _ e).1.trans (hκ l' _ e').1.symm
 · refine h Γ h7 ⟨hp,Bp,by rw[h2];exact hp1,fun b hb=>⟨h3 b (hp2 b hb),by rw[h1];exact aW8 _ _ _ hp1 b hb,⟨h4 b,h5 b⟩,fun l e=>?_⟩⟩
   have:=(hκ l _ (h6 l b e)).2
   cases this
   exact hnok (hp2 _ hb)
 · refine⟨c,B,q1,q2,fun b hb hne=>q3 b hb (fun l e=>?_),?_,q5,q6,q7⟩
   · have:=(hκ l _ e).2
     cases this;exact hne rfl
   · exact(q4 ⟨100000,.sc vb::old,.sc vb::new⟩ (by simp)).2 b0 (by simp[κ1]) cs t hb0
end
section
variable {P:Program}{N:Nat}{Γ:Ctx P N}{S:List (Nat×Slot)}{O:List (Nat×Option Ob)}{ow:Nat->Own}{β:Nat->Option (Option Nat)}{F:Env}{a:Act}{w:World}
theorem SimG.objSet (h:SimG Γ ow β F a w){l b0:Nat}{ob0:Ob}{cs:Array Value}{t:TypeId}{cells:List PV}{B:List Nat}(ho:lo F.o l=some ob0)(hβ:β l=some (some b0))(hrow:w.heap[b0]?=some (.cells cs t (0,0)))(hrel:RelL w.heap true dead cells cs 0 B)(hB:∀ b∈B,Im Γ ow w b) :
 SimG Γ ow β (F.app ⟨[],[(l,some ⟨cells,false,false⟩)]⟩) a w:=by
 refine { size:=h.size,defers:=h.defers,kept:=h.kept,slots:=h.slots,objs:=fun m ob hm=>?_,gone:=fun m hm=>?_,own:=h.own,ios:=fun m b hm hs=>?_,fresh:=h.fresh }
 · simp only[Env.app,aTT,aTO,aI]at hm
   by_cases hml:l=m
   · subst hml
     rw[aTK rfl]at hm;cases hm
     exact⟨B,hB,(fun hd=>by cases hd),.inr ⟨b0,cs,t,hβ,h.lab_ne hβ,hrow,hrel⟩⟩
   · rw[aTJ hml]at hm;exact h.objs m ob hm
 · simp only[Env.app,aTT,aTO,aI]at hm
   by_cases hml:l=m
   · rw[aTK hml]at hm;cases hm
   · rw[aTJ hml]at hm;exact h.gone m hm
 · simp only[Env.app,aTT,aTO,aI]at hs
   by_cases hml:l=m
   · subst hml;exact h.ios l b hm (by rw[ho];rfl)
   · rw[aTJ hml]at hs;exact h.ios m b hm hs
theorem Ent.wake1 (l:Nat){vb:Value}{p:PV}{rest:List PV}{dp:Bool}(ho:loq O l=some ⟨.sc vb::rest,dp,false⟩)(hsc:jV rest=true)(hf:OldF Γ vb p):Ent Γ ⟨S,O⟩ ⟨S,(l,some ⟨.was vb p::rest,false,false⟩)::O⟩:=by
 rintro a w ⟨ow,β,h⟩
 obtain⟨hl,B,hB1,hB2⟩:=hf
 have ho':lo (Env.mk S O).o l=some ⟨.sc vb::rest,dp,false⟩:=by rw[<- bV];exact ho
 obtain⟨Bo,o1,o2,o3⟩:=h.objs l _ ho'
 rcases o3 with⟨_,e,_⟩ | ⟨b,cs,t,e1,e2,e3,e4⟩
 · cases e
 · simp only[RelL,RelV,aTP,aT9]at e4
   obtain⟨c,O1,O2,g1,⟨g2,rfl⟩,g3,rfl⟩:=e4
   obtain rfl:=pX hsc g3
   refine⟨ow,β,h.objSet (b0:=b) (cells:=.was vb p::rest) (B:=B) ho' e1 e3 ?_ (fun x hx=>?_)⟩
   · simp only[RelL,RelV]
     refine⟨c,B,[],g1,⟨g2,?_⟩,g3,by simp⟩
     rw[g2]
     exact aW0 _ _ _ (fun l _=>aXg _ _ l) (fun b hb=>by obtain⟨_,e2,e3,e4⟩:=hB2 b hb;exact h.kept.old b e2 e4 e3.1) hB1
   · obtain⟨e1,e2,e3,e4⟩:=hB2 x hx
     refine⟨aTX e2 h.kept.size,.inl e1,fun m e=>?_⟩
     rcases(h.own x (by rw[e];simp)).2 with g | ⟨m,_,g⟩
     · rcases g with(g | g) | g
       · omega
       · exact e3.1 g
       · exact e3.2 g
     · exact e4 m g
theorem Ent.sleep1 (l:Nat){vb:Value}{p:PV}{rest:List PV}{dp:Bool}(ho:loq O l=some ⟨.was vb p::rest,dp,false⟩)(hsc:jV rest=true):Ent Γ ⟨S,O⟩ ⟨S,(l,some ⟨.sc vb::rest,false,false⟩)::O⟩:=by
 rintro a w ⟨ow,β,h⟩
 have ho':lo (Env.mk S O).o l=some ⟨.was vb p::rest,dp,false⟩:=by rw[<- bV];exact ho
 obtain⟨Bo,o1,o2,o3⟩:=h.objs l _ ho'
 rcases o3 with⟨_,e,_⟩ | ⟨b,cs,t,e1,e2,e3,e4⟩
 · cases e
 · simp only[RelL,RelV,aTP,aT9]at e4
   obtain⟨c,O1,O2,g1,⟨g2,_⟩,g3,rfl⟩:=e4
   obtain rfl:=pX hsc g3
   refine⟨ow,β,h.objSet (b0:=b) (cells:=.sc vb::rest) (B:=[]) ho' e1 e3 ?_ (by simp)⟩
   simp only[RelL,RelV]
   exact⟨c,[],[],g1,⟨g2,rfl⟩,g3,rfl⟩
variable {d:Nat}{ty:TypeId}{pos:String}{af:Array Edge}{g:Option (Nat×Bool)}
theorem mO {f:FuncId}[hfc:FnC P f]{l:Nat}{p:PV}{vb:Value}{old new:List PV}{dp:Bool}{xs:List Operand}{tus:Array TypeId}{ps:List PV}{ls:List Nat}{r:PV}{deep:Bool}(ha:ArgsX S O [(100000,l)] xs ps ls)(ho:loq O l=some ⟨.was vb p::old,dp,false⟩)(hm:MeetsP P f p vb ps old new r deep)
 (hsc:jV old=true) (hsn:jV new=true) (hp:p.labs=[]) (hdis:vD ls l=false) (hc:(aNi ls||deep||flat r)=true) (hr:r.labs=[]) (hd:Nat.blt d N=true) :
 Local Γ ⟨some d,.call ⟨.value (.func f),xs.toArray,tus⟩,ty,pos,af,g⟩ ⟨S,O⟩ ⟨[(d,⟨r,deep⟩)],[(l,some ⟨.was vb p::new,false,false⟩)]⟩ (qA xs) (l::ls) []:=by
 classical
 intro F hs hl _ a w ⟨ow,β,hsim⟩ Q
 have hdN:=(aW _ _).1 hd
 have hol:lo F.o l=some ⟨.was vb p::old,dp,false⟩:=by rw[hl l (by simp),<- bV];exact ho
 obtain⟨Bo,o1,o2,o3⟩:=hsim.objs l _ hol
 rcases o3 with⟨_,e,_⟩ | ⟨b0,cs,t,e1,e2,e3,e4⟩
 · cases e
 simp only[RelL,RelV,aTP,aT9]at e4
 obtain⟨c0,O1,O2,k1,⟨rfl,k2⟩,k3,rfl⟩:=e4
 obtain rfl:=pX hsc k3
 have hrn:rn [(100000,l)] 100000=l:=by simp[rn]
 have hκ2:∀ m o,κ1 b0 m=some o->β (rn [(100000,l)] m)=some o:=by
  intro m o e
  unfold κ1 at e
  by_cases h:m=100000
  · rw[aTK h]at e;cases e;subst h;rw[hrn];exact e1
  · rw[aTJ h]at e;cases e
 unfold Oper.wp
 have hrun:(execOp a.eval ⟨some d,.call ⟨.value (.func f),xs.toArray,tus⟩,ty,pos,af,g⟩).run P w=.ok (.enter f (xs.map a.eval).toArray) w:=by
  simp[execOp,resolve,Act.eval,Deferred.ofValue,invoke,hfc.run]
 rw[hrun]
 show Calls _ _ _ _ _
 have hargs:XArgs w.heap (fun b=>Im Γ ow w b\/∃ l∈ls,ow b=.lab l) (κ1 b0) ps (xs.map a.eval):=by
  clear hm hc hrun
  have key:∀ {xs:List Operand} {ps:List PV} {ls':List Nat},ArgsX S O [(100000,l)] xs ps ls'->(∀ k∈qA xs,lk F.s k=lk S k)->(∀ l∈ls',l∈ls)->XArgs w.heap (fun b=>Im Γ ow w b\/∃ l∈ls,ow b=.lab l) (κ1 b0) ps (xs.map a.eval):=by
   intro xs ps ls' hx
   induction hx with
   | nil=>intro _ _;trivial
   | @cons x p l' m xs ps h1 h2 ih =>
    intro hk hsub
    have hk1:∀ k∈ors x,lk F.s k=lk S k:=fun k hk'=>hk k (by cases x <;> simp[ors,qA]at hk' ⊢;exact .inl hk')
    have hk2:∀ k∈qA xs,lk F.s k=lk S k:=fun k hk'=>hk k (by cases x <;> simp[qA,hk'])
    refine⟨?_,ih hk2 (fun l' hl'=>hsub l' (by simp[hl']))⟩
    cases h1 with
    | val hv hlb =>
     obtain⟨B,g1,g2⟩:=ArgV.rel hsim hv hk1 (fun m hm'=>hl m (by simp only[aTM];right;exact hsub m (by simp[hm'])))
     exact⟨B,g1.nolab hlb,fun b hb=>(g2 b hb).imp id fun⟨m,hm',e⟩=>⟨m,hsub m (by simp[hm']),e⟩⟩
    | io hv =>
     obtain⟨B,g1,g2⟩:=dU hsim hv hk1
     exact⟨B,vU (fun l o e=>hκ2 l o e) p g1,fun b hb=>.inl (g2 b hb)⟩
  exact key ha hs (fun l h=>h)
 refine(hm w (xs.map a.eval).toArray (fun b=>Im Γ ow w b\/∃ l∈ls,ow b=.lab l) b0 cs t (by simpa using hargs) ?_ e3 ?_ ?_).mono fun e w' ⟨c,B,he,hsame,hoth,⟨cs',hn1,hn2,hn3⟩,h1,h2,h3⟩=>?_
 · rintro(h | ⟨m,hm',e⟩)
   · exact h.2.2 _ e2
   · rw[e2]at e;cases e
     rw[(lT _ _).2 hm']at hdis;cases hdis
 · simp only[RelL,RelV]
   exact⟨c0,[],[],k1,⟨rfl,rfl⟩,k3,rfl⟩
 · exact⟨O1,aW0 _ _ _ (fun l _=>aXg _ _ l) (fun _ _=>rfl) k2,fun b hb=>.inl (o1 b (by simp[hb]))⟩
 · subst he
   show Sim Γ _ _ _
   have hImh:∀ b,Im Γ ow w b->w'.heap[b]?=w.heap[b]?:=fun b hb=>hoth b hb.1 (fun e=>hb.2.2 l (e▸e2))
   have hrew0:SimG Γ ow β (F.app ⟨[],[(l,some ⟨(.sc c0::new).map fun _=>.any,true,false⟩)]⟩) a w':=by
    refine hsim.rewriteMany hsame _ (fun b hb hn=>hoth b hb (fun e=>?_)) (fun m hm'=>?_)
    · subst e;exact hn l (by simp) e1
    · simp only[aTV,aUH,aUA]at hm'
      subst hm'
      exact⟨_,by rw[aI,aTK rfl],rfl,.inr ⟨b0,cs,cs',t,e1,e3,hn1,hn2,aGi hn3⟩⟩
   have hB1:∀ b∈O1,Im Γ ow w' b:=fun b hb=>by
    obtain⟨q1,q2,q3⟩:=o1 b (by simp[hb])
    exact⟨aTX q1 hsame.size,q2,q3⟩
   have hrew1:=hrew0.objSet (l:=l) (ob0:=⟨(.sc c0::new).map fun _=>.any,true,false⟩) (b0:=b0) (cells:=.was c0 p::new) (B:=O1) (by simp[Env.app,aI]) e1 hn1 (by
    simp only[RelL,RelV]at hn3 ⊢
    obtain⟨c1,Q1,Q2,z1,⟨z2,rfl⟩,z3,z4⟩:=hn3
    obtain rfl:=pX hsn z3
    refine⟨c1,O1,[],z1,⟨z2,?_⟩,z3,by simp⟩
    rw[z2]
    exact aW0 _ _ _ (fun l _=>aXg _ _ l) (fun b hb=>hImh b (o1 b (by simp[hb]))) k2) hB1
   have hrew:SimG Γ ow β (F.app ⟨[],[(l,some ⟨.was c0 p::new,false,false⟩)]⟩) a w':=SimG.congr (E:=(F.app ⟨[],[(l,some ⟨(.sc c0::new).map fun _=>.any,true,false⟩)]⟩).app ⟨[],[(l,some ⟨.was c0 p::new,false,false⟩)]⟩) (fun k=>rfl) (fun m=>by
    simp only[Env.app,aTT,aTO,aI]
    by_cases e:l=m <;> simp[e]) hrew1
   have hB:∀ b∈B,b<w'.heap.size:=aW8 _ _ _ h1
   have hfresh:∀ b,w.heap.size<=b->b<w'.heap.size->Im Γ ow w' b:=fun b hb1 hb2=>⟨hb2,.inr (.inl (.inl (aTY hsim.kept.size hb1))),fun l e=>by have:=(hsim.own b (by rw[e];simp)).1;omega⟩
   have hkeepV:RelV w'.heap β r c B:=aXq hr h1
   have comb:∀ {ow2:Nat->Own} {a2:Act} {s:List (Nat×Slot)},SimG Γ ow2 β ((F.app ⟨[],[(l,some ⟨.was c0 p::new,false,false⟩)]⟩).app ⟨s,[]⟩) a2 w'->Sim Γ (F.app ⟨s,[(l,some ⟨.was c0 p::new,false,false⟩)]⟩) a2 w':=by
    intro ow2 a2 s h
    exact⟨ow2,β,h.congr (fun k=>rfl) (fun l=>rfl)⟩
   cases deep with
   | true =>
    obtain⟨n1,n2⟩:=h3 rfl
    exact comb (hrew.putDeep hdN hkeepV (fun b hb=>hfresh b (n2 b hb).1 (hB b hb)) n1 (fun b hb=>⟨(n2 b hb).2,.inl (.inl (aTY hsim.kept.size (n2 b hb).1))⟩)
     (fun b hb=>by
      cases hx:ow b with
      | none=>exact .inl rfl
      | _=>have:=(hsim.own b (by rw[hx];simp)).1;have:=(n2 b hb).1;omega))
   | false =>
    refine comb (hrew.put hdN hkeepV fun b hbB=>?_)
    simp only[aWz,aUy]at hc
    rcases hc with hc | hc
    · cases ls with
      | cons=>cases hc
      | nil =>
       rcases h2 b hbB with(h | ⟨l,hl',_⟩) | h
       · exact⟨aTX h.1 hsame.size,h.2⟩
       · cases hl'
       · exact hfresh b h (hB b hbB)
    · rw[aEa hc h1]at hbB;cases hbB
theorem aEl {f:FuncId}[hfc:FnC P f]{l:Nat}{p:PV}{old new:List PV}{dp:Bool}{xs:List Operand}{tus:Array TypeId}{ps:List PV}{ls:List Nat}{r:PV}{deep:Bool}(ha:ArgsX S O [(100000,l)] xs ps ls)(ho:loq O l=some ⟨p::old,dp,false⟩)(hm:∀ vb,MeetsP P f p vb ps old new r deep)
 (hsc:jV old=true) (hsn:jV new=true) (hp:p.labs=[]) (hdis:vD ls l=false) (hc:(aNi ls||deep||flat r)=true) (hr:r.labs=[]) (hd:Nat.blt d N=true) :
 Local Γ ⟨some d,.call ⟨.value (.func f),xs.toArray,tus⟩,ty,pos,af,g⟩ ⟨S,O⟩ ⟨[(d,⟨r,deep⟩)],[(l,some ⟨p::new,false,false⟩)]⟩ (qA xs) (l::ls) []:=by
 classical
 intro F hs hl _ a w ⟨ow,β,hsim⟩ Q
 have hdN:=(aW _ _).1 hd
 have hol:lo F.o l=some ⟨p::old,dp,false⟩:=by rw[hl l (by simp),<- bV];exact ho
 obtain⟨Bo,o1,o2,o3⟩:=hsim.objs l _ hol
 rcases o3 with⟨_,e,_⟩ | ⟨b0,cs,t,e1,e2,e3,e4⟩
 · cases e
 simp only[RelL,aTP,aT9]at e4
 obtain⟨c0,O1,O2,k1,k2,k3,rfl⟩:=e4
 obtain rfl:=pX hsc k3
 have hrn:rn [(100000,l)] 100000=l:=by simp[rn]
 have hκ2:∀ m o,κ1 b0 m=some o->β (rn [(100000,l)] m)=some o:=by
  intro m o e
  unfold κ1 at e
  by_cases h:m=100000
  · rw[aTK h]at e;cases e;subst h;rw[hrn];exact e1
  · rw[aTJ h]at e;cases e
 unfold Oper.wp
 have hrun:(execOp a.eval ⟨some d,.call ⟨.value (.func f),xs.toArray,tus⟩,ty,pos,af,g⟩).run P w=.ok (.enter f (xs.map a.eval).toArray) w:=by
  simp[execOp,resolve,Act.eval,Deferred.ofValue,invoke,hfc.run]
 rw[hrun]
 show Calls _ _ _ _ _
 have hargs:XArgs w.heap (fun b=>Im Γ ow w b\/∃ l∈ls,ow b=.lab l) (κ1 b0) ps (xs.map a.eval):=by
  clear hm hc hrun
  have key:∀ {xs:List Operand} {ps:List PV} {ls':List Nat},ArgsX S O [(100000,l)] xs ps ls'->(∀ k∈qA xs,lk F.s k=lk S k)->(∀ l∈ls',l∈ls)->XArgs w.heap (fun b=>Im Γ ow w b\/∃ l∈ls,ow b=.lab l) (κ1 b0) ps (xs.map a.eval):=by
   intro xs ps ls' hx
   induction hx with
   | nil=>intro _ _;trivial
   | @cons x p l' m xs ps h1 h2 ih =>
    intro hk hsub
    have hk1:∀ k∈ors x,lk F.s k=lk S k:=fun k hk'=>hk k (by cases x <;> simp[ors,qA]at hk' ⊢;exact .inl hk')
    have hk2:∀ k∈qA xs,lk F.s k=lk S k:=fun k hk'=>hk k (by cases x <;> simp[qA,hk'])
    refine⟨?_,ih hk2 (fun l' hl'=>hsub l' (by simp[hl']))⟩
    cases h1 with
    | val hv hlb =>
     obtain⟨B,g1,g2⟩:=ArgV.rel hsim hv hk1 (fun m hm'=>hl m (by simp only[aTM];right;exact hsub m (by simp[hm'])))
     exact⟨B,g1.nolab hlb,fun b hb=>(g2 b hb).imp id fun⟨m,hm',e⟩=>⟨m,hsub m (by simp[hm']),e⟩⟩
    | io hv =>
     obtain⟨B,g1,g2⟩:=dU hsim hv hk1
     exact⟨B,vU (fun l o e=>hκ2 l o e) p g1,fun b hb=>.inl (g2 b hb)⟩
  exact key ha hs (fun l h=>h)
 refine(hm c0 w (xs.map a.eval).toArray (fun b=>Im Γ ow w b\/∃ l∈ls,ow b=.lab l) b0 cs t (by simpa using hargs) ?_ e3 ?_ ?_).mono fun e w' ⟨c,B,he,hsame,hoth,⟨cs',hn1,hn2,hn3⟩,h1,h2,h3⟩=>?_
 · rintro(h | ⟨m,hm',e⟩)
   · exact h.2.2 _ e2
   · rw[e2]at e;cases e
     rw[(lT _ _).2 hm']at hdis;cases hdis
 · simp only[RelL,RelV]
   exact⟨c0,[],[],k1,⟨rfl,rfl⟩,k3,rfl⟩
 · exact⟨O1,aW0 _ _ _ (fun l _=>aXg _ _ l) (fun _ _=>rfl) k2,fun b hb=>.inl (o1 b (by simp[hb]))⟩
 · subst he
   show Sim Γ _ _ _
   have hImh:∀ b,Im Γ ow w b->w'.heap[b]?=w.heap[b]?:=fun b hb=>hoth b hb.1 (fun e=>hb.2.2 l (e▸e2))
   have hrew0:SimG Γ ow β (F.app ⟨[],[(l,some ⟨(.sc c0::new).map fun _=>.any,true,false⟩)]⟩) a w':=by
    refine hsim.rewriteMany hsame _ (fun b hb hn=>hoth b hb (fun e=>?_)) (fun m hm'=>?_)
    · subst e;exact hn l (by simp) e1
    · simp only[aTV,aUH,aUA]at hm'
      subst hm'
      exact⟨_,by rw[aI,aTK rfl],rfl,.inr ⟨b0,cs,cs',t,e1,e3,hn1,hn2,aGi hn3⟩⟩
   have hB1:∀ b∈O1,Im Γ ow w' b:=fun b hb=>by
    obtain⟨q1,q2,q3⟩:=o1 b (by simp[hb])
    exact⟨aTX q1 hsame.size,q2,q3⟩
   have hrew1:=hrew0.objSet (l:=l) (ob0:=⟨(.sc c0::new).map fun _=>.any,true,false⟩) (b0:=b0) (cells:=p::new) (B:=O1) (by simp[Env.app,aI]) e1 hn1 (by
    simp only[RelL,RelV]at hn3 ⊢
    obtain⟨c1,Q1,Q2,z1,⟨z2,rfl⟩,z3,z4⟩:=hn3
    obtain rfl:=pX hsn z3
    refine⟨c1,O1,[],z1,?_,z3,by simp⟩
    rw[z2]
    exact aW0 _ _ _ (fun l _=>aXg _ _ l) (fun b hb=>hImh b (o1 b (by simp[hb]))) k2) hB1
   have hrew:SimG Γ ow β (F.app ⟨[],[(l,some ⟨p::new,false,false⟩)]⟩) a w':=SimG.congr (E:=(F.app ⟨[],[(l,some ⟨(.sc c0::new).map fun _=>.any,true,false⟩)]⟩).app ⟨[],[(l,some ⟨p::new,false,false⟩)]⟩) (fun k=>rfl) (fun m=>by
    simp only[Env.app,aTT,aTO,aI]
    by_cases e:l=m <;> simp[e]) hrew1
   have hB:∀ b∈B,b<w'.heap.size:=aW8 _ _ _ h1
   have hfresh:∀ b,w.heap.size<=b->b<w'.heap.size->Im Γ ow w' b:=fun b hb1 hb2=>⟨hb2,.inr (.inl (.inl (aTY hsim.kept.size hb1))),fun l e=>by have:=(hsim.own b (by rw[e];simp)).1;omega⟩
   have hkeepV:RelV w'.heap β r c B:=aXq hr h1
   have comb:∀ {ow2:Nat->Own} {a2:Act} {s:List (Nat×Slot)},SimG Γ ow2 β ((F.app ⟨[],[(l,some ⟨p::new,false,false⟩)]⟩).app ⟨s,[]⟩) a2 w'->Sim Γ (F.app ⟨s,[(l,some ⟨p::new,false,false⟩)]⟩) a2 w':=by
    intro ow2 a2 s h
    exact⟨ow2,β,h.congr (fun k=>rfl) (fun l=>rfl)⟩
   cases deep with
   | true =>
    obtain⟨n1,n2⟩:=h3 rfl
    exact comb (hrew.putDeep hdN hkeepV (fun b hb=>hfresh b (n2 b hb).1 (hB b hb)) n1 (fun b hb=>⟨(n2 b hb).2,.inl (.inl (aTY hsim.kept.size (n2 b hb).1))⟩)
     (fun b hb=>by
      cases hx:ow b with
      | none=>exact .inl rfl
      | _=>have:=(hsim.own b (by rw[hx];simp)).1;have:=(n2 b hb).1;omega))
   | false =>
    refine comb (hrew.put hdN hkeepV fun b hbB=>?_)
    simp only[aWz,aUy]at hc
    rcases hc with hc | hc
    · cases ls with
      | cons=>cases hc
      | nil =>
       rcases h2 b hbB with(h | ⟨l,hl',_⟩) | h
       · exact⟨aTX h.1 hsame.size,h.2⟩
       · cases hl'
       · exact hfresh b h (hB b hbB)
    · rw[aEa hc h1]at hbB;cases hbB
def MeetsQ (P:Program)(f:FuncId)(args cells:List PV):Prop :=
 ∀ (w:World) (cargs:Array Value) (ok:Nat->Prop),RelArgs w.heap ok args cargs.toList->
  Calls P f cargs w fun e w'=>∃ b cs t B,e=.returned (.pointer (some ⟨b,0,none⟩))/\Below w.heap.size w w'/\w.heap.size<=b/\w'.heap[b]?=some (.cells cs t (0,0))/\RelL w'.heap true dead cells cs 0 B/\(∀ x∈B,x<w'.heap.size/\x≠b/\(ok x\/w.heap.size<=x))
theorem aJx {f:FuncId}[hfc:FnC P f]{xs:List Operand}{us:Array TypeId}{ps cells:List PV}(ha:ArgsV S O xs ps [])(hm:MeetsQ P f ps cells)(hio:Γ.io d=none)(hd:Nat.blt d N=true) :
 Local Γ ⟨some d,.call ⟨.value (.func f),xs.toArray,us⟩,ty,pos,af,g⟩ ⟨S,O⟩ ⟨[(d,⟨.ptr d 0,false⟩)],[(d,some ⟨cells,false,false⟩)]⟩ (qA xs) [] [d]:=by
 intro F hs hl hnd a w ⟨ow,β,hsim⟩ Q
 have hdN:=(aW _ _).1 hd
 have hargs:=zD hsim ha hs hl
 unfold Oper.wp
 have hrun:(execOp a.eval ⟨some d,.call ⟨.value (.func f),xs.toArray,us⟩,ty,pos,af,g⟩).run P w=.ok (.enter f (xs.map a.eval).toArray) w:=by
  simp[execOp,resolve,Act.eval,Deferred.ofValue,invoke,hfc.run]
 rw[hrun]
 show Calls _ _ _ _ _
 refine(hm w (xs.map a.eval).toArray (fun b=>Im Γ ow w b\/∃ l∈([]:List Nat),ow b=.lab l) (by simpa using hargs)).mono fun e w' ⟨b,cs,t,B,he,hb,h1,h2,h3,h4⟩=>?_
 subst he
 show Sim Γ _ _ _
 obtain⟨ow',h'⟩:=hsim.growSh hb h2 h1 h3 (fun x hx=>by
  obtain⟨g1,g2,g3⟩:=h4 x hx
  refine⟨g1,g2,?_⟩
  rcases g3 with(g | ⟨l,hl,_⟩) | g
  · exact .inl g
  · cases hl
  · exact .inr g) (hnd d (by simp)) hio
 have h2:=h'.put (d:=d) (v:=.ptr d 0) (c:=.pointer (some ⟨b,0,none⟩)) (O:=[]) hdN (by
  simp only[RelV]
  exact⟨trivial,fun b' hb'=>by simp at hb';rw[hb']⟩) (by simp)
 exact⟨_,_,h2.congr (fun k=>rfl) (fun l=>rfl)⟩
def RetQ (Γ:Ctx P N)(rs:Array ResultVar)(E:Env)(cells:List PV):Prop :=
 ∀ fn:Func,fn.results=rs->∀ a w,Sim Γ E a w->∃ b cs t B,(results fn a.tmps).run P w=.ok (.pointer (some ⟨b,0,none⟩)) w/\Γ.nww b/\w.heap[b]?=some (.cells cs t (0,0))/\RelL w.heap true dead cells cs 0 B/\(∀ x∈B,x<w.heap.size/\x≠b/\(Γ.ok x\/Γ.nw x))
def aRz (Γ:Ctx P N)(rs:Array ResultVar)(cells:List PV):Exit->Env->Prop
 | .normal,E=>RetQ Γ rs E cells
 | .ret,E=>RetQ Γ rs E cells
 | _,_=>False
theorem aSP {rs:Array ResultVar}{E:Env}{cells:List PV}(h:RetQ Γ rs E cells):aRz Γ rs cells .ret E:=h
theorem RetQ.weak {E E0:Env}{rs:Array ResultVar}{cells:List PV}(he:Ent Γ E E0)(h:RetQ Γ rs E0 cells):RetQ Γ rs E cells:=fun fn hf a w hs=>h fn hf a w (he a w hs)
theorem RetQ.mk {t l:Nat}{cells cells':List PV}{dp dp0:Bool}(h:lkq S t=some ⟨.ptr l 0,dp0⟩)(ho:loq O l=some ⟨cells,dp,false⟩)(hne:cells≠[])(hio:Γ.io l=none)(hs:SoftL cells cells'):RetQ Γ #[.tmp t] ⟨S,O⟩ cells':=by
 rintro fn hf a w ⟨ow,β,hsim⟩
 rw[zP hf]
 obtain⟨B,h1,_⟩:=hsim.slots t
 rw[gA h]at h1
 simp only[RelV]at h1
 obtain⟨Bo,o1,o2,hob⟩:=hsim.objs l ⟨cells,dp,false⟩ (by rw[<- bV];exact ho)
 rcases hob with⟨_,p2,_⟩ | ⟨b,cs,u,p1,p2,p3,p4⟩
 · exact absurd p2 hne
 · refine⟨b,cs,u,Bo,by simp[pZ,h1.2 b p1],hsim.fresh l _ p1 hio,p3,hs.2 _ _ _ _ _ _ (by simpa using p4),fun x hx=>⟨(o1 x hx).1,fun e=>(o1 x hx).2.2 l (e▸p2),(o1 x hx).2.1⟩⟩
end
section
variable {P:Program}{N:Nat}
theorem MeetsQ.intro {f:FuncId}{fn:Func}{c:Code}{args cells:List PV}{rs:Array ResultVar}(hf:P.funcs[f]?=some fn)(hb:fn.body=some c)(hN:fn.ntmps=N)(hrs:fn.results=rs)(hn:Nat.ble args.length N=true)
 (h:∀ Γ:Ctx P N,(∀ l,Nat.blt l 100000=true->Γ.io l=none)->CodeT Γ c ⟨iJ args 0,[]⟩ (aRz Γ rs cells)):MeetsQ P f args cells:=by
 intro w cargs ok ha
 obtain⟨h1,h2⟩:=ha.get
 have hn:=aUj hn
 let Γ:Ctx P N:={ base:=w.heap.size,ok:=fun b=>ok b,io:=fun _=>none,w0:=w,mine:=fun _=>False,lent:=fun _=>False }
 have hsz:(cargs++Array.replicate (fn.ntmps-cargs.size) undef).size=N:=by
  have:cargs.size=args.length:=by rw[h1];simp
  simp[this,hN];omega
 refine calls_of_wp hf hb ?_
 have hsim:Sim Γ ⟨iJ args 0,[]⟩ { tmps:=cargs++Array.replicate (fn.ntmps-cargs.size) undef,defers:=[] } w:=by
  refine⟨fun _=>.none,fun _=>none,{ size:=hsz,defers:=rfl,kept:=⟨rfl,rfl,rfl,aTU _,fun _ _ _ _=>rfl,fun b _ _ cs t h=>⟨cs,h,rfl⟩⟩,slots:=fun k=>?_,objs:=fun l ob hl=>(by simp[lo]at hl),gone:=fun _ _=>rfl,own:=fun b hb=>absurd rfl hb,ios:=fun l b hl=>(by cases hl),fresh:=fun l b hl=>(by cases hl) }⟩
  rw[nO]
  by_cases hk:k<args.length
  · rw[aTK ⟨aUB _,by simpa using hk⟩]
    obtain⟨B,g1,g2⟩:=h2 k hk
    refine⟨B,?_,fun b hb=>⟨aW8 _ _ _ g1 b hb,.inl (g2 b hb),fun l=>by simp⟩,by simp⟩
    have e:(cargs++Array.replicate (fn.ntmps-cargs.size) undef).getD k undef=cargs.toList.getD k undef:=by
     have hlt:k<cargs.size:=by rw[h1]at hk;simpa using hk
     simp[aT8,aUS,hlt,aT1]
    rw[e]
    simp only[aVv]
    exact aW0 _ _ _ (fun l _=>by intro ob h;cases h) (fun _ _=>rfl) g1
  · rw[aTJ (by simpa using hk)]
    exact⟨[],by simp[RelV],by simp,by simp⟩
 refine wp_mono (h Γ (fun _ _=>rfl) _ _ hsim) fun e a' w' ⟨E',hs',hq⟩=>?_
 have fin:RetQ Γ rs E' cells->a'.defers=[]/\∃ v,(results fn a'.tmps).run P w'=.ok v w'/\∃ b cs t B,Ending.returned v=.returned (.pointer (some ⟨b,0,none⟩))/\Below w.heap.size w w'/\w.heap.size<=b/\w'.heap[b]?=some (.cells cs t (0,0))/\RelL w'.heap true dead cells cs 0 B/\(∀ x∈B,x<w'.heap.size/\x≠b/\(ok x\/w.heap.size<=x)):=by
  intro hr
  obtain⟨b,cs,t,B,g1,g2,g3,g4,g5⟩:=hr fn hrs a' w' hs'
  obtain⟨ow,β,hs'⟩:=hs'
  exact⟨hs'.defers,_,g1,b,cs,t,B,rfl,⟨hs'.kept.os,hs'.kept.tape,hs'.kept.output,hs'.kept.size,fun k hk=>hs'.kept.old k hk (fun l=>by simp[Γ]) (fun h=>h)⟩,g2.elim id False.elim,g3,g4,fun x hx=>⟨(g5 x hx).1,(g5 x hx).2.1,(g5 x hx).2.2.imp id (fun h=>(h.elim id False.elim:Γ.nww x).elim id False.elim)⟩⟩
 cases e with
 | normal=>exact fin hq
 | ret=>exact fin hq
 | exit id=>exact hq.elim
 | goto l=>exact hq.elim
 | panic ch=>exact hq.elim
 | outgrown=>exact hq.elim
end
def aXw:=@Ent.sleep1
/- The engine, part XX: arrays of arrays as own rows; addresses known not to be nil. -/
open Go.RowKit (Below)
def aAo (k:IntKind)(m n:Int):Int:=k.wrap (BitVec.ofInt k.bits m &&& BitVec.ofInt k.bits n).toNat
def aLN (k:IntKind)(m n:Int):Int:=k.wrap (BitVec.ofInt k.bits m ^^^ BitVec.ofInt k.bits n).toNat
section
variable {P:Program}{N:Nat}{Γ:Ctx P N}{S:List (Nat×Slot)}{O:List (Nat×Option Ob)}
variable {d:Nat}{ty:TypeId}{pos:String}{af:Array Edge}{g:Option (Nat×Bool)}
theorem aQb {x y:Operand}{u u':TypeId}{k:IntKind}{m n r:Int}(hx:evq S x=some (.sc (.int k m)))(hy:evq S y=some (.sc (.int k n)))(hr:aAo k m n=r)(hd:Nat.blt d N=true) :
 Local Γ ⟨some d,.binOp .and u x y u',ty,pos,af,g⟩ ⟨S,O⟩ ⟨[(d,⟨.sc (.int k r),false⟩)],[]⟩ (ors x++ors y) [] [] :=
 xU hx hy hd fun w=>by subst hr;simp[eqGuard,binOp,Op.intBits,aAo]
theorem aTg {x y:Operand}{u u':TypeId}{k:IntKind}{m n r:Int}(hx:evq S x=some (.sc (.int k m)))(hy:evq S y=some (.sc (.int k n)))(hr:aLN k m n=r)(hd:Nat.blt d N=true) :
 Local Γ ⟨some d,.binOp .xor u x y u',ty,pos,af,g⟩ ⟨S,O⟩ ⟨[(d,⟨.sc (.int k r),false⟩)],[]⟩ (ors x++ors y) [] [] :=
 xU hx hy hd fun w=>by subst hr;simp[eqGuard,binOp,Op.intBits,aLN]
theorem aRM {x y:Operand}{u u':TypeId}{k k':IntKind}{m n r:Int}(hx:evq S x=some (.sc (.int k m)))(hy:evq S y=some (.sc (.int k' n)))(hn:¬n<0)(hr:m.fdiv (2 ^ min n.toNat k.bits)=r)(hd:Nat.blt d N=true) :
 Local Γ ⟨some d,.binOp .shr u x y u',ty,pos,af,g⟩ ⟨S,O⟩ ⟨[(d,⟨.sc (.int k r),false⟩)],[]⟩ (ors x++ors y) [] [] :=
 xU hx hy hd fun w=>by subst hr;simp[eqGuard,binOp,Op.shift,hn]
theorem aAr {x:Operand}{r k0:Nat}{ob:Ob}(hx:evq S x=some (.ptr r k0))(ho:loq O r=some ob)(hne:Nat.blt 0 ob.cells.length=true)(hd:Nat.blt d N=true) :
 Local Γ ⟨some d,.nilCheck x,ty,pos,af,g⟩ ⟨S,O⟩ ⟨[(d,⟨.ptr r k0,false⟩)],[]⟩ (ors x) [r] []:=by
 intro F hs hlo _
 refine bQ fun a w ⟨ow,β,hsim⟩=>?_
 obtain⟨B,h1,h2⟩:=dU hsim hx hs
 simp only[RelV]at h1
 obtain⟨Bo,o1,o2,hob⟩:=hsim.objs r _ (by rw[hlo r (by simp),<- bV];exact ho)
 rcases hob with⟨e1,e2,_⟩ | ⟨b,cs,u,e1,e2,e3,e4⟩
 · rw[e2]at hne;cases hne
 · refine⟨.pointer (some ⟨b,k0,none⟩),w,by simp[execOp,h1.2 b e1],ow,β,?_⟩
   exact hsim.put ((aW _ _).1 hd) (O:=[]) (by simp only[RelV];exact⟨trivial,fun b' hb=>by rw[e1]at hb;cases hb;rfl⟩) (by simp)
end
/- The engine, part YY: calls that rest on what the world's tables hold. -/
open Go.RowKit (Below)
class WT (T:World->Prop):Prop where
 keep:∀ w w',T w->Below w.heap.size w w'->T w'
def MeetsT (P:Program)(T:World->Prop)(f:FuncId)(args:List PV)(r:PV)(deep:Bool):Prop :=
 ∀ (w:World) (cargs:Array Value) (ok:Nat->Prop),T w->RelArgs w.heap ok args cargs.toList->
  Calls P f cargs w fun e w'=>∃ c B,e=.returned c/\Below w.heap.size w w'/\RelV w'.heap dead r c B/\(∀ b∈B,ok b\/w.heap.size<=b)/\(deep=true->B.Nodup/\∀ b∈B,w.heap.size<=b/\gD w' b)
def TOk {P:Program}{N:Nat}(T:World->Prop)(Γ:Ctx P N):Prop:=∀ w,Kept Γ w->T w
section
variable {P:Program}{N:Nat}{T:World->Prop}
theorem MeetsT.intro [WT T]{f:FuncId}{fn:Func}{c:Code}{args:List PV}{r:PV}{deep:Bool}{rs:Array ResultVar}(hf:P.funcs[f]?=some fn)(hb:fn.body=some c)(hN:fn.ntmps=N)(hrs:fn.results=rs)(hn:Nat.ble args.length N=true)
 (h:∀ Γ:Ctx P N,(∀ l,Nat.blt l 100000=true->Γ.io l=none)->TOk T Γ->CodeT Γ c ⟨iJ args 0,[]⟩ (aBh Γ rs r deep)):MeetsT P T f args r deep:=by
 intro w cargs ok hTw ha
 obtain⟨h1,h2⟩:=ha.get
 have hn:=aUj hn
 let Γ:Ctx P N:={ base:=w.heap.size,ok:=fun b=>ok b,io:=fun _=>none,w0:=w,mine:=fun _=>False,lent:=fun _=>False }
 have hΓ:TOk T Γ:=fun w' k=>WT.keep w w' hTw ⟨k.os,k.tape,k.output,k.size,fun b hb=>k.old b hb (fun l=>by simp[Γ]) (fun h=>h)⟩
 have hsz:(cargs++Array.replicate (fn.ntmps-cargs.size) undef).size=N:=by
  have:cargs.size=args.length:=by rw[h1];simp
  simp[this,hN];omega
 refine calls_of_wp hf hb ?_
 have hsim:Sim Γ ⟨iJ args 0,[]⟩ { tmps:=cargs++Array.replicate (fn.ntmps-cargs.size) undef,defers:=[] } w:=by
  refine⟨fun _=>.none,fun _=>none,{ size:=hsz,defers:=rfl,kept:=⟨rfl,rfl,rfl,aTU _,fun _ _ _ _=>rfl,fun b _ _ cs t h=>⟨cs,h,rfl⟩⟩,slots:=fun k=>?_,objs:=fun l ob hl=>(by simp[lo]at hl),gone:=fun _ _=>rfl,own:=fun b hb=>absurd rfl hb,ios:=fun l b hl=>(by cases hl),fresh:=fun l b hl=>(by cases hl) }⟩
  rw[nO]
  by_cases hk:k<args.length
  · rw[aTK ⟨aUB _,by simpa using hk⟩]
    obtain⟨B,g1,g2⟩:=h2 k hk
    refine⟨B,?_,fun b hb=>⟨aW8 _ _ _ g1 b hb,.inl (g2 b hb),fun l=>by simp⟩,by simp⟩
    have e:(cargs++Array.replicate (fn.ntmps-cargs.size) undef).getD k undef=cargs.toList.getD k undef:=by
     have hlt:k<cargs.size:=by rw[h1]at hk;simpa using hk
     simp[aT8,aUS,hlt,aT1]
    rw[e]
    simp only[aVv]
    exact aW0 _ _ _ (fun l _=>by intro ob h;cases h) (fun _ _=>rfl) g1
  · rw[aTJ (by simpa using hk)]
    exact⟨[],by simp[RelV],by simp,by simp⟩
 refine wp_mono (h Γ (fun _ _=>rfl) hΓ _ _ hsim) fun e a' w' ⟨E',hs',hq⟩=>?_
 have fin:RetIs Γ rs E' r deep->a'.defers=[]/\∃ v,(results fn a'.tmps).run P w'=.ok v w'/\∃ c B,Ending.returned v=.returned c/\Below w.heap.size w w'/\RelV w'.heap dead r c B/\(∀ b∈B,ok b\/w.heap.size<=b)/\(deep=true->B.Nodup/\∀ b∈B,w.heap.size<=b/\gD w' b):=by
  intro hr
  obtain⟨c,B,g1,g2,g3,g4⟩:=hr fn hrs a' w' hs'
  obtain⟨ow,β,hs'⟩:=hs'
  refine⟨hs'.defers,c,g1,c,B,rfl,⟨hs'.kept.os,hs'.kept.tape,hs'.kept.output,hs'.kept.size,fun k hk=>hs'.kept.old k hk (fun l=>by simp[Γ]) (fun h=>h)⟩,g2,fun b hb=>(g3 b hb).2.imp id (fun h=>(h.elim id False.elim:Γ.nww b).elim id False.elim),fun hd=>⟨(g4 hd).1,fun b hb=>⟨(((g4 hd).2 b hb).2.elim id False.elim:Γ.nww b).elim id False.elim,((g4 hd).2 b hb).1⟩⟩⟩
 cases e with
 | normal=>exact fin hq
 | ret=>exact fin hq
 | exit id=>exact hq.elim
 | goto l=>exact hq.elim
 | panic ch=>exact hq.elim
 | outgrown=>exact hq.elim
variable {Γ:Ctx P N}{S:List (Nat×Slot)}{O:List (Nat×Option Ob)}{d:Nat}{ty:TypeId}{pos:String}{af:Array Edge}{g:Option (Nat×Bool)}
end
/- The engine, part ZZ: a table of rows that share what they hold: while it is only read it stands apart (the blocks are no one's), and is read by its own values; while it grows it is an own row with rows within. -/
open Go.RowKit (Below)
theorem aEv {α:Type}{l x:List α}{enc encw:α->List PV}{j:Int}{y y':α}{sz:Nat}(hx:aX (nS l j y')=some x)(hl:idx l j=some y)(h:∀ y,(enc y).length=sz)(hs:SoftL (encw y') (enc y')):SoftL ((l.flatMap enc).take (j.toNat*sz)++encw y'++(l.flatMap enc).drop (j.toNat*sz+sz)) (x.flatMap enc):=by
 rw[<- aMb (enc:=enc) (vs:=enc y') hx hl h rfl]
 exact((aWM _).app hs).app (aWM _)
def aOl (sz:Nat)(r:List (List Value)):PV:=.rw sz r.length (r.flatMap fun e=>e.map PV.sc)
def TabR (h:Array Obj)(sz:Nat)(vt:Value)(V:List (List (List Value)))(Bs:List Nat):Prop :=
 RelV h dead (.rw 1 V.length (V.map (aOl sz))) vt Bs/\Bs.Nodup/\(∀ b∈Bs,∃ cs t,h[b]?=some (.cells cs t (0,0)))/\∀ r∈V,∀ e∈r,e.length=sz
def aIp:Value->Nat
 | .slice (some a) _ _=>a.block
 | _=>0
section
variable {P:Program}{N:Nat}{Γ:Ctx P N}{S:List (Nat×Slot)}{O:List (Nat×Option Ob)}
structure Foreign (Γ:Ctx P N)(sz:Nat)(vt:Value)(V:List (List (List Value)))(Bs:List Nat):Prop where
 tab:TabR Γ.w0.heap sz vt V Bs
 off:∀ b∈Bs,b<Γ.base/\¬Γ.ok b/\¬Γ.nw b
def aIU (Γ:Ctx P N)(vt:Value)(k:Nat):Value:=match Γ.w0.heap[aIp vt]? with
 | some (.cells cs _ _)=>cs.getD k undef
 | _=>undef
theorem Foreign.top {sz:Nat}{vt:Value}{V:List (List (List Value))}{Bs:List Nat}(hF:Foreign Γ sz vt V Bs)(hV:V≠[]) :
 ∃ cap cs t,vt=.slice (some ⟨aIp vt,0,none⟩) V.length cap/\Γ.w0.heap[aIp vt]?=some (.cells cs t (0,0))/\aIp vt∈Bs/\
  ∀ (k:Nat) r,V[k]?=some r->cs[k]?=some (aIU Γ vt k)/\∃ B,RelV Γ.w0.heap dead (aOl sz r) (aIU Γ vt k) B/\∀ b∈B,b∈Bs:=by
 have h:=hF.tab.1
 simp only[RelV]at h
 rcases h with⟨h1,_⟩ | ⟨b,cap,cs,t,O',⟨rfl,_,_⟩,h2,h3,rfl⟩
 · exact absurd (aTW.1 h1) hV
 · refine⟨cap,cs,t,rfl,h2,by simp[aIp],fun k r hk=>?_⟩
   obtain⟨c,O1,g1,_,g3,g4⟩:=RelL.get _ _ _ _ h3 k (aOl sz r) (by rw[List.getElem?_map,hk];rfl)
   rw[aUg]at g1
   have e:aIU Γ (.slice (some ⟨b,0,none⟩) V.length cap) k=c:=by
    unfold aIU aIp
    simp only[h2]
    rw[aT8,g1];rfl
   rw[e]
   exact⟨g1,O1,g3,fun x hx=>by simp[g4 x hx]⟩
variable {d:Nat}{ty:TypeId}{pos:String}{af:Array Edge}{g:Option (Nat×Bool)}
theorem OldL.read {ow:Nat->Own}{β:Nat->Option (Option Nat)}{E:Env}{a:Act}{w:World}(h:SimG Γ ow β E a w):∀ {vs:List Value} {ps:List PV} {cs:Array Value} {i:Nat},OldL Γ vs ps->(∀ k,k<vs.length->cs[i+k]?=vs[k]?)->(∀ v∈vs,v.oneCell'=true)->∃ B,RelL w.heap true dead ps cs i B/\∀ b∈B,Im Γ ow w b
 | [],[],cs,i,_,_,_=>⟨[],by simp[RelL],by simp⟩
 | v::vs,p::ps,cs,i,ho,hc,h1=>by
  obtain⟨⟨hl,B1,hB1,hB2⟩,ho⟩:=ho
  obtain⟨B2,g1,g2⟩:=OldL.read h (i:=i+1) ho (fun k hk=>by
   have:=hc (k+1) (by simpa using hk)
   rw[show i+1+k=i+(k+1)by omega,this];simp) (fun v hv=>h1 v (by simp[hv]))
  refine⟨B1++B2,?_,fun b hb=>?_⟩
  · simp only[RelL]
    have h0:=hc 0 (by simp)
    simp only[aUw,List.getElem?_cons_zero]at h0
    exact⟨v,B1,B2,⟨h0,fun _=>h1 v (by simp)⟩,aW0 _ _ _ (fun l hl'=>by rw[hl]at hl';cases hl') (fun b hb=>by obtain⟨_,e2,e3,e4⟩:=hB2 b hb;exact h.kept.old b e2 e4 e3.1) hB1,g1,rfl⟩
  · rcases aTR.1 hb with hb | hb
    · obtain⟨e1,e2,e3,e4⟩:=hB2 b hb
      refine⟨aTX e2 h.kept.size,.inl e1,fun l e=>?_⟩
      rcases(h.own b (by rw[e];simp)).2 with g | ⟨m,_,g⟩
      · rcases g with(g | g) | g
        · omega
        · exact e3.1 g
        · exact e3.2 g
      · exact e4 m g
    · exact g2 b hb
 | [],_::_,_,_,ho,_,_=>ho.elim
 | _::_,[],_,_,ho,_,_=>ho.elim
end
/- The engine, part AB: a function's rest, begun anew: what there is by then is old; a table given up and taken over. -/
open Go.RowKit (Below)
section
variable {P:Program}{N:Nat}{Γ0 Γ:Ctx P N}{S:List (Nat×Slot)}{O:List (Nat×Option Ob)}{a:Act}{w:World}
structure Later (Γ0 Γ:Ctx P N):Prop where
 base:Γ0.base<=Γ.base
 good:∀ b,Γ.ok b\/Γ.nw b->Γ0.ok b\/Γ0.base<=b
 mine:∀ b,Γ.mine b->Γ0.base<=b
 kept:Kept Γ0 Γ.w0
 io0:∀ l,Γ.io l=none
 le0:∀ b,¬Γ.lent b
theorem Later.nww (h:Later Γ0 Γ){b:Nat}(hb:Γ.nww b):Γ0.base<=b:=by
 rcases hb with hb | hb
 · exact aTY h.base hb
 · exact h.mine b hb
theorem TabR.keep {h h':Array Obj}{sz:Nat}{vt:Value}{V:List (List (List Value))}{Bs:List Nat}(hT:TabR h sz vt V Bs)(he:∀ b∈Bs,h'[b]?=h[b]?):TabR h' sz vt V Bs :=
 ⟨aW0 _ _ _ (fun l _=>by intro ob e;cases e) he hT.1,hT.2.1,fun b hb=>by rw[he b hb];exact hT.2.2.1 b hb,hT.2.2.2⟩
end
section
variable {P:Program}{N:Nat}{Γ:Ctx P N}{S:List (Nat×Slot)}{O:List (Nat×Option Ob)}{ow:Nat->Own}{β:Nat->Option (Option Nat)}{F:Env}{a:Act}{w:World}
variable {d:Nat}{ty:TypeId}{pos:String}{af:Array Edge}{g:Option (Nat×Bool)}
end
section
variable {P:Program}{N:Nat}{Γ0 Γ:Ctx P N}{S:List (Nat×Slot)}{O:List (Nat×Option Ob)}{a:Act}{w:World}
theorem Ent.undeep (l:Nat){cells:List PV}{dp bx:Bool}(ho:loq O l=some ⟨cells,dp,bx⟩):Ent Γ ⟨S,O⟩ ⟨S,(l,some ⟨cells,false,bx⟩)::O⟩:=by
 rintro a w ⟨ow,β,h⟩
 have ho':lo (Env.mk S O).o l=some ⟨cells,dp,bx⟩:=by rw[<- bV];exact ho
 refine⟨ow,β,{ size:=h.size,defers:=h.defers,kept:=h.kept,slots:=h.slots,objs:=fun m ob hm=>?_,gone:=fun m hm=>?_,own:=h.own,ios:=fun m b hm hs=>?_,fresh:=h.fresh }⟩
 · simp only[aI]at hm
   by_cases hml:l=m
   · subst hml
     rw[aTK rfl]at hm;cases hm
     obtain⟨B,o1,o2,o3⟩:=h.objs l _ ho'
     exact⟨B,o1,(fun h=>by cases h),o3⟩
   · rw[aTJ hml]at hm;exact h.objs m ob hm
 · simp only[aI]at hm
   by_cases hml:l=m
   · rw[aTK hml]at hm;cases hm
   · rw[aTJ hml]at hm;exact h.gone m hm
 · simp only[aI]at hs
   by_cases hml:l=m
   · subst hml;exact h.ios l b hm (by rw[ho'];rfl)
   · rw[aTJ hml]at hs;exact h.ios m b hm hs
theorem aNT:∀ {vs:List Value} {ps:List PV},vs.length=ps.length->(wz vs ps).map slp=vs.map PV.sc
 | [],[],_=>rfl
 | v::vs,p::ps,h=>by simp only[wz,aTV,slp];rw[aNT (by simpa using h)]
 | [],_::_,h=>by simp at h
 | _::_,[],h=>by simp at h
theorem aNU:∀ (vs:List Value) (ps:List PV),aCf (wz vs ps)=true
 | [],_=>rfl
 | v::vs,[]=>rfl
 | v::vs,p::ps=>by simp only[wz,aCf];exact aNU vs ps
end
/- The engine: arrays of truth values, as functions of their cells. -/
/- The engine: an own row that is frozen where it is last named. -/
section
variable {P:Program}{N:Nat}{Γ:Ctx P N}{S:List (Nat×Slot)}{O:List (Nat×Option Ob)}{d:Nat}
theorem aP4 {x:Operand}{l s n:Nat}{cells:List PV}{dp:Bool}{ty:TypeId}{pos:String}{af:Array Edge}{g:Option (Nat×Bool)}(hx:evq S x=some (.ref l s 0 n))(ho:loq O l=some ⟨cells,dp,false⟩)(hio:Γ.io l=none)(hd:Nat.blt d N=true) :
 Local Γ ⟨some d,.move x,ty,pos,af,g⟩ ⟨S,O⟩ ⟨[(d,⟨.sl n cells,dp⟩)],[(l,none)]⟩ (ors x) [l] []:=by
 intro F h1 h2 h3 a w hsim Q
 have hl:loq F.o l=some ⟨cells,dp,false⟩:=by
  rw[bV,h2 l (by simp)]
  have e:(Env.mk S O).o=O:=rfl
  rw[e,<- bV];exact ho
 refine Oper.wp_mono (fun a' w' h'=>?_) (aAN hx hd F h1 (by simp) h3 a w hsim Q)
 have key:=aXb (Γ:=Γ) (S:=(d,⟨.ref l s 0 n,false⟩)::F.s) (O:=F.o) (k:=d) (l:=l) (s:=s) (n:=n) (cells:=cells) (dp:=dp) (dp0:=false) (by simp[lkq]) hl hio hd a' w' h'
 refine Sim.congr (E:=⟨(d,⟨.sl n cells,dp⟩)::(d,⟨.ref l s 0 n,false⟩)::F.s,(l,none)::F.o⟩) (E':=⟨(d,⟨.sl n cells,dp⟩)::F.s,(l,none)::F.o⟩) (fun k=>?_) (fun _=>rfl) key
 show lk ((d,⟨.sl n cells,dp⟩)::F.s) k=lk ((d,⟨.sl n cells,dp⟩)::(d,⟨.ref l s 0 n,false⟩)::F.s) k
 rw[eF,eF,eF]
 by_cases c:d=k
 · rw[aTK c,aTK c]
 · rw[aTJ c,aTJ c,aTJ c]
end
/- The engine: a table of rows, each with a label of its own. -/
open Go.RowKit (Below)
def zs {α:Type}(f:α->Ob):Nat->List α->List (Nat×Option Ob)
 | _,[]=>[]
 | b,r::R=>(b,some (f r))::zs f (b+1) R
def jZ {α:Type}(n:α->Nat)(s:Nat):Nat->List α->List PV
 | _,[]=>[]
 | b,r::R=>.ref b s 0 (n r)::jZ n s (b+1) R
theorem aBD {α:Type}(f:α->Ob):∀ (R:List α) (b l:Nat),lo (zs f b R) l=if b<=l then(R[l-b]?).map f else none
 | [],b,l=>by simp[zs,lo]
 | r::R,b,l=>by
  rw[zs,aI,aBD f R]
  by_cases h:b=l
  · subst h;simp
  · rw[aTJ h]
    by_cases h2:b<=l
    · rw[aTK h2,aTK (by omega),show l-b=(l-(b+1))+1 by omega,aWi]
    · rw[aTJ h2,aTJ (by omega)]
theorem aGk {α:Type}(n:α->Nat)(s:Nat):∀ (R:List α) (b i:Nat),(jZ n s b R)[i]?=(R[i]?).map fun r=>.ref (b+i) s 0 (n r)
 | [],b,i=>by simp[jZ]
 | r::R,b,0=>by simp[jZ]
 | r::R,b,i+1=>by rw[jZ,aWi,aWi,aGk n s R,show b+1+i=b+(i+1)by omega]
theorem aGj {α:Type}(n:α->Nat)(s:Nat):∀ (R:List α) (b:Nat),(jZ n s b R).length=R.length
 | [],b=>rfl
 | r::R,b=>by simp[jZ,aGj n s R]
theorem aH0 {α:Type}(n:α->Nat)(s:Nat)(x:α):∀ (R:List α) (b:Nat),jZ n s b (R++[x])=jZ n s b R++[.ref (b+R.length) s 0 (n x)]
 | [],b=>by simp[jZ]
 | r::R,b=>by rw[aTT,jZ,jZ,aH0 n s x R,aUh,aTT,show b+1+R.length=b+(R.length+1)by omega]
theorem aEw {α:Type}(n:α->Nat)(s:Nat){d:Nat}:∀ (R:List α) (b:Nat),(d<b\/b+R.length<=d)->aAp (fun p=>aBt d p.labs) (jZ n s b R)=false
 | [],b,_=>rfl
 | r::R,b,h=>by
  rw[jZ]
  simp only[aUh]at h
  have h1:aBt d (PV.ref b s 0 (n r)).labs=false:=by
   cases hx:aBt d (PV.ref b s 0 (n r)).labs with
   | false=>rfl
   | true =>
    have:=(aEM _ _).1 hx
    simp only[PV.labs,aUA]at this
    omega
  simp only[aAp,h1,aWl]
  exact aEw n s R (b+1) (by omega)
theorem aF6 {α:Type}{f:α->Ob}(hb:∀ r,(f r).box=false){d:Nat}(hd:d≠777777777):∀ (R:List α) (b:Nat),sR (zs f b R) d=false
 | [],_=>rfl
 | r::R,b=>by simp[zs,sR,hb,hd,aF6 hb hd R]
theorem aGn {α:Type}{f:α->Ob}(hb:∀ r,aA3 (f r)=true)(ls:List Nat):∀ (R:List α) (b:Nat),zR ls (zs f b R)=true
 | [],_=>rfl
 | r::R,b=>by simp[zs,zR,hb,aGn hb ls R]
theorem aA7 {α:Type}{f:α->PV}(h:∀ r,(f r).labs=[]):∀ R:List α,gR (R.map f)=true
 | []=>rfl
 | r::R=>by simp only[aTV,gR,h,aWy];exact aA7 h R
theorem aLQ {d:Nat}:∀ {ps:List PV},gR ps=true->aAp (fun p=>aBt d p.labs) ps=false:=by
 intro ps h
 cases hx:aAp (fun p=>aBt d p.labs) ps with
 | false=>rfl
 | true =>
  obtain⟨p,hp,hl⟩:=(zE _ _).1 hx
  rw[kR h p hp]at hl;simp[aBt,vD]at hl
theorem aPN {α:Type}(p:α->Bool)(a b:List α):aAp p (a++b)=(aAp p a||aAp p b):=by
 induction a with
 | nil=>rfl
 | cons x r ih=>simp[aAp,ih,Bool.or_assoc]
section
variable {P:Program}{N:Nat}{Γ:Ctx P N}{S:List (Nat×Slot)}{O O':List (Nat×Option Ob)}{a:Act}{w:World}{ow:Nat->Own}{β:Nat->Option (Option Nat)}
theorem SimG.reobj (h:SimG Γ ow β ⟨S,O⟩ a w)(hn:∀ l,lo O' l=none↔lo O l=none)
 (ho:∀ l ob',lo O' l=some ob'->∃ B,(∀ b∈B,Im Γ ow w b)/\(ob'.deep=true->B.Nodup/\∀ b∈B,ow b=.obj l/\gD w b)/\
  ((β l=some none/\ob'.cells=[]/\B=[])\/∃ b cs t,β l=some (some b)/\ow b=.lab l/\w.heap[b]?=some (.cells cs t (0,0))/\RelL w.heap true (if ob'.box then β else dead) ob'.cells cs 0 B)):SimG Γ ow β ⟨S,O'⟩ a w :=
 { size:=h.size,defers:=h.defers,kept:=h.kept,slots:=h.slots,objs:=ho,gone:=fun l hl=>h.gone l ((hn l).1 hl),own:=h.own,
   ios:=fun l b h1 h2=>h.ios l b h1 (by
    simp only at h2 ⊢
    cases hx:lo O l with
    | none=>rw[(hn l).2 hx]at h2;cases h2
    | some _=>rfl),fresh:=h.fresh }
theorem Ent.same (h:∀ l,lo O' l=lo O l):Ent Γ ⟨S,O⟩ ⟨S,O'⟩:=fun a w hs=>Sim.congr (E:=⟨S,O⟩) (E':=⟨S,O'⟩) (fun _=>rfl) h hs
theorem Ent.rebox (l:Nat){cells:List PV}{dp:Bool}(ho:loq O l=some ⟨cells,dp,false⟩)(hn:gR cells=true):Ent Γ ⟨S,O⟩ ⟨S,(l,some ⟨cells,dp,true⟩)::O⟩:=by
 rintro a w ⟨ow,β,h⟩
 have ho':lo O l=some ⟨cells,dp,false⟩:=by rw[<- bV];exact ho
 refine⟨ow,β,h.reobj (fun m=>?_) fun m ob' hm=>?_⟩
 · rw[aI]
   by_cases hml:l=m
   · subst hml;simp[ho']
   · rw[aTJ hml]
 · rw[aI]at hm
   by_cases hml:l=m
   · subst hml
     rw[aTK rfl]at hm;cases hm
     obtain⟨B,o1,o2,o3⟩:=h.objs l _ ho'
     refine⟨B,o1,o2,o3.imp id ?_⟩
     rintro⟨b,cs,t,e1,e2,e3,e4⟩
     exact⟨b,cs,t,e1,e2,e3,tP (kR hn) e4⟩
   · rw[aTJ hml]at hm;exact h.objs m ob' hm
theorem aHZ {h:Array Obj}{q:Bool}{β:Nat->Option (Option Nat)}:∀ {vs:List Value} {cs:Array Value} {i:Nat} {B:List Nat},RelL h q β (vs.map PV.sc) cs i B->B=[]/\(∀ k,k<vs.length->cs[i+k]?=vs[k]?)/\(q=true->∀ v∈vs,v.oneCell'=true)
 | [],_,_,_,H=>by simp only[aUH,RelL]at H;exact⟨H,by simp,by simp⟩
 | v::vs,cs,i,B,H=>by
  simp only[aTV,RelL,RelV]at H
  obtain⟨c,O1,O2,h1,⟨rfl,rfl⟩,h3,rfl⟩:=H
  obtain⟨rfl,g2,g3⟩:=aHZ h3
  refine⟨rfl,fun k hk=>?_,fun hq v' hv=>?_⟩
  · cases k with
    | zero=>simpa using h1.1
    | succ k=>rw[show i+(k+1)=i+1+k by omega,g2 k (by simpa using hk)];simp
  · rcases aTM.1 hv with rfl | hv
    · exact h1.2 hq
    · exact g3 hq v' hv
def aM7 (v:List Value):Ob:=⟨v.map PV.sc,true,false⟩
theorem OldL.length:∀ {vs:List Value} {ps:List PV},OldL Γ vs ps->vs.length=ps.length
 | [],[],_=>rfl
 | v::vs,p::ps,h=>by simp[OldL.length h.2]
 | [],_::_,h=>h.elim
 | _::_,[],h=>h.elim
theorem Ent.wakeZ {α:Type}{enc:α->List PV}{T b:Nat}{A:Ob}{V:List (List Value)}{R:List α}(hT:T<b)(hl:V.length=R.length)(ho:∀ (i:Nat) v r,V[i]?=some v->R[i]?=some r->OldL Γ v (enc r)) :
 Ent Γ ⟨S,(T,some A)::zs aM7 b V⟩ ⟨S,(T,some A)::zs (fun r=>⟨enc r,false,false⟩) b R⟩:=by
 rintro a w ⟨ow,β,h⟩
 refine⟨ow,β,h.reobj (fun m=>?_) fun m ob' hm=>?_⟩
 · rw[aI,aI]
   by_cases hml:T=m
   · simp[hml]
   · rw[aTJ hml,aTJ hml,aBD,aBD]
     by_cases hb:b<=m
     · simp[hb,hl]
     · simp[hb]
 · by_cases hml:T=m
   · rw[aI,aTK hml]at hm
     exact h.objs m ob' (by rw[aI,aTK hml];exact hm)
   · rw[aI,aTJ hml,aBD]at hm
     by_cases hb:b<=m
     · rw[aTK hb]at hm
       cases hr:R[m-b]? with
       | none=>rw[hr]at hm;cases hm
       | some r =>
        rw[hr]at hm;simp only[aWC,Option.some.injEq]at hm;subst hm
        have hlt:=(aUc.1 hr).1
        have hv:V[m-b]?=some (V[m-b]'(by omega)):=aTS _
        have hO:=ho _ _ _ hv hr
        obtain⟨B,_,_,o3⟩:=h.objs m (aM7 (V[m-b]'(by omega))) (by rw[aI,aTJ hml,aBD,aTK hb,hv];rfl)
        rcases o3 with⟨e1,e2,_⟩ | ⟨blk,cs,t,e1,e2,e3,e4⟩
        · refine⟨[],by simp,by simp,.inl ⟨e1,?_,rfl⟩⟩
          have:=OldL.length hO
          simp only[aM7,List.map_eq_nil_iff]at e2
          rw[e2]at this
          exact aTW.1 this.symm
        · obtain⟨_,g2,g3⟩:=aHZ e4
          obtain⟨B',q1,q2⟩:=OldL.read h hO g2 (g3 rfl)
          exact⟨B',q2,by simp,.inr ⟨blk,cs,t,e1,e2,e3,q1⟩⟩
     · rw[aTJ hb]at hm;cases hm
theorem Ent.absorb (l L c:Nat){s n:Nat}{cells cs':List PV}{dp dpL:Bool}(ho:loq O l=some ⟨cells,dp,true⟩)(hL:loq O L=some ⟨cs',dpL,false⟩)(hc:cells[c]?=some (.ref L s 0 n))(hne:l≠L)(hio:Γ.io L=none) :
 Ent Γ ⟨S,O⟩ ⟨S,(L,none)::(l,some ⟨cells.set c (.sl n cs'),false,true⟩)::O⟩:=by
 classical
 rintro a w ⟨ow,β,h⟩
 have ho':lo O l=some ⟨cells,dp,true⟩:=by rw[<- bV];exact ho
 have hL':lo O L=some ⟨cs',dpL,false⟩:=by rw[<- bV];exact hL
 obtain⟨BL,l1,l2,l3⟩:=h.objs L _ hL'
 let ow':Nat->Own:=fun b=>if ow b=.lab L\/ow b=.obj L then .none else ow b
 let β':Nat->Option (Option Nat):=fun m=>if m=L then none else β m
 have hβ':∀ m,m≠L->β' m=β m:=fun m hm=>by show(if _ then _ else _)=_;rw[aTJ hm]
 have hβL:β' L=none:=by show(if _ then _ else _)=_;rw[aTK rfl]
 have how:∀ b m,m≠L->(ow' b=.lab m↔ow b=.lab m):=by
  intro b m hm
  show(if _ then _ else _)=_↔_
  split
  · rename_i hx
    constructor
    · intro e;cases e
    · intro e;rw[e]at hx;rcases hx with hx | hx
      · injection hx with hx;exact absurd hx hm
      · cases hx
  · exact Iff.rfl
 have how0:∀ b,ow' b≠.lab L:=by
  intro b e
  change (if _ then _ else _)=_ at e
  split at e
  · cases e
  · rename_i hx;exact hx (.inl e)
 have how1:∀ b m,m≠L->ow b=.obj m->ow' b=.obj m:=by
  intro b m hm e
  show(if _ then _ else _)=_
  rw[aTJ (by rw[e];simp[hm])];exact e
 have how2:∀ b k,ow b=.slot k->ow' b=.slot k:=by
  intro b k e
  show(if _ then _ else _)=_
  rw[aTJ (by rw[e];simp)];exact e
 have how3:∀ b,ow' b≠.none->ow b≠.none/\ow' b=ow b:=by
  intro b e
  change (if _ then _ else _)≠_ at e
  split at e
  · exact absurd rfl e
  · rename_i hx;exact⟨e,by show(if _ then _ else _)=_;rw[aTJ hx]⟩
 have hIm:∀ b,Im Γ ow w b->Im Γ ow' w b:=fun b ⟨h1,h2,h3⟩=>⟨h1,h2,fun m e=>by
  by_cases hm:m=L
  · subst hm;exact how0 b e
  · exact h3 m ((how b m hm).1 e)⟩
 have hkeep:∀ m,KeepB w.heap w.heap β β' m:=fun m ob e=>by
  by_cases hm:m=L
  · subst hm;rw[hβL]at e;cases e
  · rw[hβ' m hm]at e;exact⟨e,fun b _ c t hc=>⟨c,hc,rfl⟩⟩
 refine⟨ow',β',{ size:=h.size,defers:=h.defers,kept:=h.kept,slots:=fun k=>?_,objs:=fun m ob hm=>?_,gone:=fun m hm=>?_,own:=fun b hb=>?_,ios:=fun m b hm hs=>?_,fresh:=fun m b hm hiom=>?_ }⟩
 · obtain⟨B,g1,g2,g3⟩:=h.slots k
   exact⟨B,aW0 _ _ _ (fun m _=>hkeep m) (fun _ _=>rfl) g1,fun b hb=>hIm b (g2 b hb),fun hd=>⟨(g3 hd).1,fun b hb=>⟨how2 b k ((g3 hd).2 b hb).1,((g3 hd).2 b hb).2⟩⟩⟩
 · simp only[aI]at hm
   by_cases hmL:L=m
   · rw[aTK hmL]at hm;cases hm
   rw[aTJ hmL]at hm
   by_cases hml:l=m
   · subst hml
     rw[aTK rfl]at hm;cases hm
     obtain⟨Ol,o1,_,o3⟩:=h.objs l _ ho'
     rcases o3 with⟨_,e2,_⟩ | ⟨b0,cs,t,p1,p2,p3,p4⟩
     · simp only at e2;subst e2;simp at hc
     simp only[aT3]at p4
     obtain⟨v,O1,Oc,O2,q1,q2,q3,q4,q5,rfl⟩:=p4.at hc
     simp only[RelV]at q3
     obtain⟨rfl,q6,q7⟩:=q3
     have fin:∀ Bn,RelV w.heap β' (.sl n cs') v Bn->(∀ b∈Bn,Im Γ ow' w b)->∃ B,(∀ b∈B,Im Γ ow' w b)/\(false=true->B.Nodup/\∀ b∈B,ow' b=.obj l/\gD w b)/\
      ((β' l=some none/\(cells.set c (.sl n cs'))=[]/\B=[])\/∃ b cs t,β' l=some (some b)/\ow' b=.lab l/\w.heap[b]?=some (.cells cs t (0,0))/\RelL w.heap true β' (cells.set c (.sl n cs')) cs 0 B):=by
      intro Bn r1 r2
      refine⟨O1++(Bn++O2),fun b hb=>?_,by simp,.inr ⟨b0,cs,t,by rw[hβ' l hne];exact p1,(how b0 l hne).2 p2,p3,?_⟩⟩
      · rcases aTR.1 hb with hb | hb
        · exact hIm b (o1 b (by simp[hb]))
        · rcases aTR.1 hb with hb | hb
          · exact r2 b hb
          · exact hIm b (o1 b (by simp[hb]))
      · exact RelL.put hc q1 q2 r1 (aWZ _ _ _ _ (fun _ _ m _=>hkeep m) (fun _ _=>rfl) q4) (aWZ _ _ _ _ (fun _ _ m _=>hkeep m) (fun _ _=>rfl) q5)
     rcases l3 with⟨e1,e2,e3⟩ | ⟨b,cs2,t2,e1,e2,e3,e4⟩
     · obtain⟨rfl,_,rfl⟩:=q6 e1
       simp only at e2;subst e2
       exact fin [] (by simp only[RelV];exact .inl ⟨trivial,trivial,trivial,none,0,rfl⟩) (by simp)
     · obtain⟨cap,cs3,t3,f1,f2,f3,f4⟩:=q7 b e1
       simp only[aVJ]at f1
       refine fin (b::BL) (by simp only[RelV];exact .inr ⟨b,0,cap,cs2,t2,(0,0),BL,⟨f1,f4⟩,e3,e4,rfl⟩) (fun x hx=>?_)
       rcases aTM.1 hx with rfl | hx
       · refine⟨h.block_lt e1,.inr (.inl (h.fresh L x e1 hio)),fun m e=>?_⟩
         by_cases hm:m=L
         · subst hm;exact how0 x e
         · have:=(how x m hm).1 e;rw[e2]at this;injection this with this;exact hm this.symm
       · exact hIm x (l1 x hx)
   · rw[aTJ hml]at hm
     obtain⟨B,o1,o2,o3⟩:=h.objs m ob hm
     refine⟨B,fun b hb=>hIm b (o1 b hb),fun hd=>⟨(o2 hd).1,fun b hb=>⟨how1 b m (fun e=>hmL e.symm) ((o2 hd).2 b hb).1,((o2 hd).2 b hb).2⟩⟩,?_⟩
     rcases o3 with⟨e1,e2,e3⟩ | ⟨b,cs,t,e1,e2,e3,e4⟩
     · exact .inl ⟨by rw[hβ' m (fun e=>hmL e.symm)];exact e1,e2,e3⟩
     · refine .inr ⟨b,cs,t,by rw[hβ' m (fun e=>hmL e.symm)];exact e1,(how b m (fun e=>hmL e.symm)).2 e2,e3,?_⟩
       cases hb:ob.box with
       | true=>rw[hb]at e4;exact aWZ _ _ _ _ (fun _ _ m _=>hkeep m) (fun _ _=>rfl) e4
       | false=>rw[hb]at e4;exact e4
 · simp only[aI]at hm
   by_cases hmL:L=m
   · subst hmL;exact hβL
   rw[aTJ hmL]at hm
   rw[hβ' m (fun e=>hmL e.symm)]
   by_cases hml:l=m
   · rw[aTK hml]at hm;cases hm
   · rw[aTJ hml]at hm;exact h.gone m hm
 · obtain⟨h1,h2⟩:=how3 b hb
   obtain⟨g1,g2⟩:=h.own b h1
   refine⟨g1,g2.imp id ?_⟩
   rintro⟨m,e1,e2⟩
   exact⟨m,by rw[h2];exact e1,e2⟩
 · have hmL:m≠L:=fun e=>by rw[e,hio]at hm;cases hm
   rw[hβ' m hmL]
   refine h.ios m b hm ?_
   simp only[aI]at hs ⊢
   rw[aTJ (fun e=>hmL e.symm)]at hs
   by_cases hml:l=m
   · subst hml;rw[ho'];rfl
   · rw[aTJ hml]at hs;exact hs
 · by_cases hmL:m=L
   · subst hmL;rw[hβL]at hm;cases hm
   · rw[hβ' m hmL]at hm;exact h.fresh m b hm hiom
def aFk (n:List Value->Nat)(s b k:Nat)(V:List (List Value)):List PV:=jZ n s b (V.take k)++(V.drop k).map fun v=>.rw s (n v) (v.map PV.sc)
theorem aO1 {n:List Value->Nat}{s b k:Nat}{V:List (List Value)}{v:List Value}(hv:V[k]?=some v):(aFk n s b k V)[k]?=some (.rw s (n v) (v.map PV.sc)):=by
 have hlt:=(aUc.1 hv).1
 have hl:(jZ n s b (V.take k)).length=k:=by rw[aGj,aUo];omega
 rw[aFk,aUs (by omega),hl,List.getElem?_map,aUX,show k+(k-k)=k by omega,hv];rfl
theorem aNn {n:List Value->Nat}{s b k:Nat}{V:List (List Value)}{v:List Value}(hv:V[k]?=some v):(aFk n s b k V).set k (.ref (b+k) s 0 (n v))=aFk n s b (k+1) V:=by
 have hlt:=(aUc.1 hv).1
 have hl:(jZ n s b (V.take k)).length=k:=by rw[aGj,aUo];omega
 have e1:V.drop k=v::V.drop (k+1):=by rw[aTQ hlt,(aUc.1 hv).2]
 have e2:V.take (k+1)=V.take k++[v]:=by rw[aWo,hv];rfl
 rw[aFk,aFk,e1,e2,aH0,aVY _ _ (by omega),hl,aVo,aUo,aVp (by omega)]
 simp
theorem Ent.unpackZ {T b s:Nat}{n:List Value->Nat}{V:List (List Value)}(hT:T<b)(hS:∀ l,b<=l->l<b+V.length->aCR S l=false)(hq:∀ k,zS (lk S k)=true)(hio:∀ l,b<=l->l<b+V.length->Γ.io l=none)(hle:∀ b,¬Γ.lent b)(hb:b+V.length<=777777777) :
 Ent Γ ⟨S,[(T,some ⟨V.map fun v=>.rw s (n v) (v.map PV.sc),true,false⟩)]⟩ ⟨S,(T,some ⟨jZ n s b V,true,true⟩)::zs aM7 b V⟩:=by
 have key:∀ k,k<=V.length->Ent Γ ⟨S,[(T,some ⟨V.map fun v=>.rw s (n v) (v.map PV.sc),true,false⟩)]⟩ ⟨S,(T,some ⟨aFk n s b k V,true,true⟩)::zs aM7 b (V.take k)⟩:=by
  intro k
  induction k with
  | zero =>
   intro _ a w hs
   have h1:=Ent.rebox (l:=T) (cells:=V.map fun v=>.rw s (n v) (v.map PV.sc)) (dp:=true) (S:=S) (O:=[(T,some ⟨V.map fun v=>.rw s (n v) (v.map PV.sc),true,false⟩)]) (by simp[loq]) (by
    exact aA7 (fun _=>rfl) V) a w hs
   refine Ent.same (fun l=>?_) a w h1
   simp only[aFk,aVF,aUD,jZ,zs,aTO,aI]
   by_cases e:T=l
   · rw[aTK e,aTK e]
   · rw[aTJ e,aTJ e,aTJ e]
  | succ k ih =>
   intro hk a w hs
   have h0:=ih (by omega) a w hs
   have hv:V[k]?=some (V[k]'(by omega)):=aTS _
   have hbd:Nat.beq (b+k) 777777777=false:=by rw[lH,aVL];omega
   have hne:T≠b+k:=by omega
   have h1:=Ent.unpack (S:=S) (O:=(T,some ⟨aFk n s b k V,true,true⟩)::zs aM7 b (V.take k)) T (b+k) k (cells:=aFk n s b k V) (bx:=true) (by simp[loq]) (aO1 hv) rfl
    (by simp only[zR,vD,Nat.beq_eq_true_eq,Bool.true_or,aWy];rw[aGn (fun _=>rfl)];simp)
    (by
     simp only[tO,hS _ (show b<=b+k by omega) (by omega),sR,aWA,hbd,Bool.false_and,aWz,aWl]
     rw[aF6 (fun _=>rfl) (by omega),aFk,aPN,aEw _ _ _ _ (by rw[aUo];omega)]
     simp only[aWl,aWz]
     exact aLQ (aA7 (fun _=>rfl) _))
    (by
     rw[bV,aI,aTJ hne,aBD,aTK (by omega),aWr (by rw[aUo];omega)];rfl)
    (hio _ (by omega) (by omega)) hle a w h0
   rw[aNn hv]at h1
   refine Sim.congr (fun j=>?_) (fun l=>?_) h1
   · rw[aEr,aII,hq j];rfl
   · simp only[aI,aBD]
     by_cases e:T=l
     · rw[aTK e,aTK e]
     rw[aTJ e,aTJ e,aTJ e]
     by_cases e2:b+k=l
     · subst e2
       rw[aTK rfl,aTK (by omega),show b+k-b=k by omega,aUW,aTK (by omega),hv];rfl
     · rw[aTJ e2]
       by_cases e3:b<=l
       · rw[aTK e3,aTK e3,aUW,aUW]
         by_cases e4:l-b<k
         · rw[aTK e4,aTK (by omega)]
         · rw[aTJ e4,aTJ (by omega)]
       · rw[aTJ e3,aTJ e3]
 have:=key V.length (aTU _)
 simpa [aFk]using this
theorem Ent.absorbZ {α:Type}{n:α->Nat}{enc:α->List PV}{T b s:Nat}{R:List α}{dp:Bool}(hT:T<b)(hio:∀ l,b<=l->l<b+R.length->Γ.io l=none) :
 Ent Γ ⟨S,(T,some ⟨jZ n s b R,dp,true⟩)::zs (fun r=>⟨enc r,false,false⟩) b R⟩ ⟨S,[(T,some ⟨R.map fun r=>.sl (n r) (enc r),false,false⟩)]⟩:=by
 have key:∀ k,k<=R.length->Ent Γ ⟨S,(T,some ⟨jZ n s b R,dp,true⟩)::zs (fun r=>⟨enc r,false,false⟩) b R⟩ ⟨S,(T,some ⟨(R.take k).map (fun r=>.sl (n r) (enc r))++jZ n s (b+k) (R.drop k),false,true⟩)::zs (fun r=>⟨enc r,false,false⟩) (b+k) (R.drop k)⟩:=by
  intro k
  induction k with
  | zero =>
   intro _ a w hs
   have h1:=Ent.undeep (l:=T) (cells:=jZ n s b R) (dp:=dp) (bx:=true) (by simp[loq]) a w hs
   refine Ent.same (fun l=>?_) a w h1
   simp only[aVF,aUD,aUH,aTO,aUw,aI]
   by_cases e:T=l
   · rw[aTK e,aTK e]
   · rw[aTJ e,aTJ e,aTJ e]
  | succ k ih =>
   intro hk a w hs
   have h0:=ih (by omega) a w hs
   have hv:R[k]?=some (R[k]'(by omega)):=aTS _
   have hne:T≠b+k:=by omega
   have hl:((R.take k).map (fun r=>PV.sl (n r) (enc r))).length=k:=by rw[aTZ,aUo];omega
   have e1:R.drop k=(R[k]'(by omega))::R.drop (k+1):=aTQ _
   have h1:=Ent.absorb (S:=S) T (b+k) k (s:=s) (n:=n (R[k]'(by omega))) (cs':=enc (R[k]'(by omega))) (dpL:=false) (O:=(T,some ⟨(R.take k).map (fun r=>.sl (n r) (enc r))++jZ n s (b+k) (R.drop k),false,true⟩)::zs (fun r=>⟨enc r,false,false⟩) (b+k) (R.drop k)) (by rw[bV,aI,aTK rfl])
    (by rw[bV,aI,aTJ hne,aBD,aTK (by omega),aVo,aUX,aUw,hv];rfl)
    (by rw[aUs (by omega),hl,aVo,aGk,aUX,aUw,aUw,hv];rfl) hne (hio _ (by omega) (by omega)) a w h0
   have e2:((R.take k).map (fun r=>PV.sl (n r) (enc r))++jZ n s (b+k) (R.drop k)).set k (.sl (n (R[k]'(by omega))) (enc (R[k]'(by omega))))=(R.take (k+1)).map (fun r=>PV.sl (n r) (enc r))++jZ n s (b+(k+1)) (R.drop (k+1)):=by
    rw[aVY _ _ (by omega),hl,aVo,e1,jZ,aWg,aWo,hv]
    simp only[Option.toList,aUF,aTV,aUH,aT0,aTT,aTO,Nat.add_assoc]
   rw[e2]at h1
   refine Ent.same (fun l=>?_) a w h1
   simp only[aI,aBD]
   by_cases e:T=l
   · subst e
     rw[aTK rfl,aTJ (fun e=>hne e.symm),aTK rfl]
   rw[aTJ e,aTJ e,aTJ e]
   by_cases e3:b+k=l
   · rw[aTK e3,aTJ (by omega)]
   · rw[aTJ e3]
     by_cases e4:b+k<=l
     · rw[aTK e4,aTK (by omega),aUX,aUX];congr 2;omega
     · rw[aTJ e4,aTJ (by omega)]
 intro a w hs
 have h0:=key R.length (aTU _) a w hs
 simp only[aUY,aU3,jZ,zs,aUJ]at h0
 have h1:=Ent.unbox (S:=S) T (by rw[bV,aI,aTK rfl]) (by
  exact aA7 (fun _=>rfl) R) a w h0
 refine Ent.same (fun l=>?_) a w h1
 simp only[aI]
 by_cases e:T=l
 · rw[aTK e,aTK e]
 · rw[aTJ e,aTJ e,aTJ e]
theorem aHy {a b:List PV}:gR a=true->gR b=true->gR (a++b)=true:=by
 induction a with
 | nil=>intro _ h;exact h
 | cons x r ih=>intro h1 h2;simp only[gR,aTT,aUa]at h1 ⊢;exact⟨h1.1,ih h1.2 h2⟩
theorem aE7 {α:Type}{e:α->List PV}(h:∀ y,gR (e y)=true):∀ l:List α,gR (l.flatMap e)=true
 | []=>rfl
 | y::r=>by rw[aUk];exact aHy (h y) (aE7 h r)
theorem aS2 {h:Array Obj}{n:Nat}{cells:List PV}{c:Value}{B:List Nat}(H:RelV h dead (.sl n cells) c B)(hn:n=0↔cells=[]):∃ vs:List Value,∃ cs:Array Value,∃ off B1 B2,vs.length=cells.length/\(∀ k,k<vs.length->cs[off+k]?=vs[k]?)/\RelL h true dead cells cs off B1/\RelV h dead (.sl n (vs.map PV.sc)) c B2/\(∀ b∈B1,b∈B)/\∀ b∈B2,b∈B:=by
 simp only[RelV]at H
 rcases H with⟨h1,h2,h3,h4⟩ | ⟨b,off,cap,cs,t,f,O',h1,h2,h3,h4⟩
 · subst h2
   exact⟨[],#[],0,[],[],rfl,by simp,by simp[RelL],by simp only[RelV];exact .inl ⟨h1,rfl,trivial,h4⟩,by simp,by simp⟩
 · have hlen:off+cells.length<=cs.size\/cells=[]:=by
    cases cells with
    | nil=>exact .inr rfl
    | cons p ps =>
     left
     obtain⟨c',_,g1,_⟩:=RelL.get _ _ _ _ h3 ps.length _ (show(p::ps)[ps.length]?=some _ from aTS (by simp))
     have:=(aU4.1 g1).1
     simp only[aUh];omega
   have hvl:((cs.toList.drop off).take cells.length).length=cells.length:=by
    rw[aUo,aUR]
    rcases hlen with h | h
    · simp;omega
    · simp[h]
   have hk:∀ k,k<((cs.toList.drop off).take cells.length).length->cs[off+k]?=((cs.toList.drop off).take cells.length)[k]?:=fun k hk=>by
    rw[hvl]at hk
    rw[aUW,aTK hk,aUX];simp
   refine⟨_,cs,off,O',[b],hvl,hk,h3,?_,fun x hx=>by rw[h4];simp[hx],fun x hx=>by rw[h4];simp at hx;simp[hx]⟩
   simp only[RelV]
   have:=aPj (aNU _ _) (aMe hvl hk h3)
   rw[aNT hvl]at this
   exact .inr ⟨b,off,cap,cs,t,f,[],h1,h2,this,rfl⟩
theorem OldF.rowsZ {α:Type}{enc:α->List PV}{sz:Nat}(hsz:∀ y,(enc y).length=sz)(h0:0<sz)(hnl:∀ y,gR (enc y)=true){R:List (List α)}{c:Value}(h:OldF Γ c (.sl R.length (R.flatMap (uB enc)))) :
 ∃ V:List (List Value),V.length=R.length/\(∀ (i:Nat) v r,V[i]?=some v->R[i]?=some r->OldL Γ v (r.flatMap enc))/\OldF Γ c (.sl V.length (V.map fun v=>.sl (v.length / sz) (v.map PV.sc))):=by
 obtain⟨hl,B,h1,h2⟩:=h
 have hfl:∀ r:List α,(r.flatMap enc).length=r.length*sz:=fun r=>aU hsz
 have hemp:∀ r:List α,r.length=0↔r.flatMap enc=[]:=fun r=>by
  rw[<- aTW,hfl]
  constructor
  · intro e;rw[e,aVJ]
  · intro e;rcases Nat.mul_eq_zero.1 e with e | e
    · exact e
    · omega
 have key:∀ (R:List (List α)) (cs:Array Value) (off:Nat) (O':List Nat),(∀ b∈O',b∈B)->RelL Γ.w0.heap true dead (R.flatMap (uB enc)) cs off O' ->
  ∃ V:List (List Value),V.length=R.length/\(∀ (i:Nat) v r,V[i]?=some v->R[i]?=some r->OldL Γ v (r.flatMap enc))/\∃ O2,RelL Γ.w0.heap true dead (V.map fun v=>.sl (v.length / sz) (v.map PV.sc)) cs off O2/\∀ b∈O2,b∈B:=by
  intro R
  induction R with
  | nil=>intro cs off O' _ _;exact⟨[],rfl,by simp,[],by simp[RelL],by simp⟩
  | cons r R ih =>
   intro cs off O' hO H
   rw[aUk]at H
   simp only[uB,aTT,aTO,RelL]at H
   obtain⟨c',O1,O2,g1,g2,g3,rfl⟩:=H
   obtain⟨V,v1,v2,O3,v3,v4⟩:=ih cs (off+1) O2 (fun b hb=>hO b (by simp[hb])) g3
   obtain⟨vs,cs',off',B1,B2,r1,r2,r3,r4,r5,r6⟩:=aS2 g2 (hemp r)
   have hO1:OldL Γ vs (r.flatMap enc):=OldL.of (fun _ _ _=>trivial) r1 r2 (aE7 hnl r) r3 (fun b hb=>h2 b (hO b (by simp[r5 b hb])))
   refine⟨vs::V,by simp[v1],fun i v r' hv hr=>?_,B2++O3,?_,fun b hb=>?_⟩
   · cases i with
     | zero=>simp at hv hr;subst hv;subst hr;exact hO1
     | succ i=>exact v2 i v r' (by simpa using hv) (by simpa using hr)
   · simp only[aTV,RelL]
     have e:vs.length / sz=r.length:=by rw[r1,hfl];exact Nat.mul_div_cancel _ h0
     rw[e]
     exact⟨c',B2,O3,g1,r4,v3,rfl⟩
   · rcases aTR.1 hb with hb | hb
     · exact hO b (by simp[r6 b hb])
     · exact v4 b hb
 simp only[RelV]at h1
 rcases h1 with⟨e1,e2,e3,e4⟩ | ⟨b,off,cap,cs,t,f,O',e1,e2,e3,e4⟩
 · have:R=[]:=aTW.1 e1
   subst this
   refine⟨[],rfl,by simp,rfl,[],?_,by simp⟩
   simp only[RelV];exact .inl ⟨rfl,rfl,trivial,e4⟩
 · obtain⟨V,v1,v2,O2,v3,v4⟩:=key R cs off O' (fun x hx=>by rw[e4];simp[hx]) e3
   refine⟨V,v1,v2,rfl,b::O2,?_,fun x hx=>h2 x ?_⟩
   · simp only[RelV];rw[v1];exact .inr ⟨b,off,cap,cs,t,f,O2,e1,e2,v3,rfl⟩
   · rcases aTM.1 hx with rfl | hx
     · rw[e4];simp
     · exact v4 x hx
end
/- The engine: rows handed in to be written whose cells read shared blocks. -/
open Go.RowKit (Below)
def aTB (w:World)(ok:Nat->Prop)(κ:Nat->Option (Option Nat))(o:XO):Prop :=
 (κ o.l=some none/\o.old=[])\/∃ b cs t,κ o.l=some (some b)/\¬ok b/\w.heap[b]?=some (.cells cs t (0,0))/\∃ B,RelL w.heap true dead o.old cs 0 B/\∀ b∈B,ok b
def aPP (w w':World)(ok:Nat->Prop)(κ:Nat->Option (Option Nat))(o:XO):Prop :=
 (κ o.l=some none->o.new=[])/\∀ b,κ o.l=some (some b)->∀ cs t,w.heap[b]?=some (.cells cs t (0,0))->∃ cs',w'.heap[b]?=some (.cells cs' t (0,0))/\cs'.size=cs.size/\∃ B,RelL w'.heap true dead o.new cs' 0 B/\∀ b∈B,ok b\/w.heap.size<=b
def MeetsS (P:Program)(f:FuncId)(args:List PV)(objs:List XO)(r:PV)(deep:Bool):Prop :=
 ∀ (w:World) (cargs:Array Value) (ok:Nat->Prop) (κ:Nat->Option (Option Nat)),XArgs w.heap ok κ args cargs.toList->(∀ o∈objs,aTB w ok κ o)->(∀ l o,κ l=some o->∃ x∈objs,x.l=l)->(∀ l l' b,κ l=some (some b)->κ l'=some (some b)->l=l')->
  Calls P f cargs w fun e w'=>∃ c B,e=.returned c/\Same w w'/\(∀ b,b<w.heap.size->(∀ l,κ l≠some (some b))->w'.heap[b]?=w.heap[b]?)/\(∀ o∈objs,aPP w w' ok κ o)/\
   RelV w'.heap dead r c B/\(∀ b∈B,ok b\/w.heap.size<=b)/\(deep=true->B.Nodup/\∀ b∈B,w.heap.size<=b/\gD w' b)
def aHN:List XO->List (Nat×Option Ob)
 | []=>[]
 | o::r=>(o.l,some ⟨o.old,false,false⟩)::aHN r
theorem aFS:∀ {os:List XO} {l:Nat},(lo (aHN os) l=none/\∀ o∈os,o.l≠l)\/∃ o∈os,o.l=l/\lo (aHN os) l=some ⟨o.old,false,false⟩
 | [],l=>.inl ⟨rfl,by simp⟩
 | o::r,l=>by
  simp only[aHN,aI]
  by_cases h:o.l=l
  · exact .inr ⟨o,by simp,h,by rw[aTK h]⟩
  · rw[aTJ h]
    rcases aFS (os:=r) (l:=l)with⟨h1,h2⟩ | ⟨o',h1,h2,h3⟩
    · exact .inl ⟨h1,fun x hx=>by rcases aTM.1 hx with rfl | hx;exact h;exact h2 x hx⟩
    · exact .inr ⟨o',by simp[h1],h2,h3⟩
section
variable {P:Program}{N:Nat}
theorem MeetsS.intro {f:FuncId}{fn:Func}{c:Code}{args:List PV}{objs:List XO}{r:PV}{deep:Bool}{rs:Array ResultVar}(hf:P.funcs[f]?=some fn)(hb:fn.body=some c)(hN:fn.ntmps=N)(hrs:fn.results=rs)(hn:Nat.ble args.length N=true)
 (hx:xok objs=true) (hnil:∀ o∈objs,o.old=[]->o.new=[])
 (h:∀ Γ:Ctx P N,(∀ l,Nat.blt l 100000=true->Γ.io l=none)->CodeT Γ c ⟨iJ args 0,aHN objs⟩ (aAH Γ rs r deep objs)):MeetsS P f args objs r deep:=by
 classical
 intro w cargs ok κ ha hob hκ hinj
 obtain⟨h1,h2⟩:=ha.get
 obtain⟨hx1,hx2⟩:=aDs hx
 have hn:=aUj hn
 let Γ:Ctx P N:={ base:=w.heap.size,ok:=ok,io:=fun l=>match κ l with | some (some b)=>some b | _=>none,w0:=w,mine:=fun _=>False,lent:=fun _=>False }
 have hio:∀ l b,Γ.io l=some b↔κ l=some (some b):=by
  intro l b
  show(match κ l with | some (some b)=>some b | _=>none)=some b↔_
  cases κ l with
  | none=>simp
  | some o=>cases o <;> simp
 have hsz:(cargs++Array.replicate (fn.ntmps-cargs.size) undef).size=N:=by
  have:cargs.size=args.length:=by rw[h1];simp
  simp[this,hN];omega
 have hblt:∀ l b,κ l=some (some b)->b<w.heap.size:=by
  intro l b e
  obtain⟨o,ho,rfl⟩:=hκ l _ e
  rcases hob o ho with⟨e',_⟩ | ⟨b',cs,t,e',_,g,_⟩
  · rw[e]at e';cases e'
  · rw[e]at e';cases e'
    rcases aUT b w.heap.size with h | h
    · exact h
    · simp[aUG h]at g
 refine calls_of_wp hf hb ?_
 let ow:Nat->Own:=fun b=>if hh:∃ l,κ l=some (some b)then .lab hh.choose else .none
 have how:∀ b l,κ l=some (some b)->ow b=.lab l:=by
  intro b l e
  have hh:∃ l,κ l=some (some b):=⟨l,e⟩
  show(if hh:_ then _ else _)=_
  rw[aVU hh,hinj _ _ b hh.choose_spec e]
 have how2:∀ b,ow b≠.none->∃ l,κ l=some (some b):=by
  intro b hb'
  rcases aVs (∃ l,κ l=some (some b))with hh | hh
  · exact hh
  · exfalso;apply hb'
    show(if hh:_ then _ else _)=_
    rw[aVV hh]
 have hsim:Sim Γ ⟨iJ args 0,aHN objs⟩ { tmps:=cargs++Array.replicate (fn.ntmps-cargs.size) undef,defers:=[] } w:=by
  refine⟨ow,κ,{ size:=hsz,defers:=rfl,kept:=⟨rfl,rfl,rfl,aTU _,fun _ _ _ _=>rfl,fun b _ _ cs t h=>⟨cs,h,rfl⟩⟩,slots:=fun k=>?_,objs:=fun l ob hl=>?_,gone:=fun l hl=>?_,own:=fun b hb=>?_,ios:=fun l b hl _=>(hio l b).1 hl,fresh:=fun l b hl hi=>?_ }⟩
  · rw[nO]
    by_cases hk:k<args.length
    · rw[aTK ⟨aUB _,by simpa using hk⟩]
      obtain⟨B,g1,g2⟩:=h2 k hk
      have hB:∀ b∈B,∀ l,ow b≠.lab l:=by
       intro b hb l e
       obtain⟨l',e'⟩:=how2 b (by rw[e];simp)
       obtain⟨o,ho,rfl⟩:=hκ l' _ e'
       rcases hob o ho with⟨e2,_⟩ | ⟨b',cs,t,e2,hnok,_⟩
       · rw[e']at e2;cases e2
       · rw[e']at e2;cases e2;exact hnok (g2 b hb)
      refine⟨B,?_,fun b hb=>⟨aW8 _ _ _ g1 b hb,.inl (g2 b hb),hB b hb⟩,by simp⟩
      have e:(cargs++Array.replicate (fn.ntmps-cargs.size) undef).getD k undef=cargs.toList.getD k undef:=by
       have hlt:k<cargs.size:=by rw[h1]at hk;simpa using hk
       simp[aT8,aUS,hlt,aT1]
      rw[e]
      simpa only[aVv]using g1
    · rw[aTJ (by simpa using hk)]
      exact⟨[],by simp[RelV],by simp,by simp⟩
  · rcases aFS (os:=objs) (l:=l)with⟨g1,_⟩ | ⟨o,ho,rfl,g1⟩
    · simp only[g1]at hl;cases hl
    · simp only[g1]at hl;cases hl
      rcases hob o ho with⟨e1,e2⟩ | ⟨b,cs,t,e1,_,e3,B,e4,e5⟩
      · exact⟨[],by simp,by simp,.inl ⟨e1,e2,rfl⟩⟩
      · refine⟨B,fun x hx=>⟨RelL.below _ _ _ _ e4 x hx,.inl (e5 x hx),fun l e=>?_⟩,by simp,.inr ⟨b,cs,t,e1,how b _ e1,e3,by simpa using e4⟩⟩
        obtain⟨l',e'⟩:=how2 x (by rw[e];simp)
        obtain⟨o',ho',rfl⟩:=hκ l' _ e'
        rcases hob o' ho' with⟨e2,_⟩ | ⟨b',cs',t',e2,hnok,_⟩
        · rw[e']at e2;cases e2
        · rw[e']at e2;cases e2;exact hnok (e5 x hx)
  · cases hk:κ l with
    | none=>rfl
    | some o =>
     obtain⟨x,hx,rfl⟩:=hκ l o hk
     rcases aFS (os:=objs) (l:=x.l)with⟨_,g2⟩ | ⟨_,_,_,g1⟩
     · exact absurd rfl (g2 x hx)
     · simp only[g1]at hl;cases hl
  · obtain⟨l,e⟩:=how2 b hb
    exact⟨hblt l b e,.inr ⟨l,how b l e,(hio l b).2 e⟩⟩
  · rw[(hio l b).2 hl]at hi;cases hi
 have hioN:∀ l,Nat.blt l 100000=true->Γ.io l=none:=by
  intro l hl
  have hl:=(aW _ _).1 hl
  cases hi:Γ.io l with
  | none=>rfl
  | some b =>
   obtain⟨o,ho,rfl⟩:=hκ l _ ((hio l b).1 hi)
   have:=hx1 o ho;omega
 refine wp_mono (h Γ hioN _ _ hsim) fun e a' w' ⟨E',hs',hq⟩=>?_
 have fin:RetX Γ rs E' r deep objs->a'.defers=[]/\∃ v,(results fn a'.tmps).run P w'=.ok v w'/\∃ c B,Ending.returned v=.returned c/\Same w w'/\(∀ b,b<w.heap.size->(∀ l,κ l≠some (some b))->w'.heap[b]?=w.heap[b]?)/\(∀ o∈objs,aPP w w' ok κ o)/\
  RelV w'.heap dead r c B/\(∀ b∈B,ok b\/w.heap.size<=b)/\(deep=true->B.Nodup/\∀ b∈B,w.heap.size<=b/\gD w' b):=by
  rintro⟨hr,hr2⟩
  obtain⟨c,B,g1,g2,g3,g4⟩:=hr fn hrs a' w' hs'
  obtain⟨E2,⟨ow2,β2,hs2⟩,hr2⟩:=hr2 a' w' hs'
  refine⟨hs2.defers,c,g1,c,B,rfl,⟨hs2.kept.os,hs2.kept.output,hs2.kept.tape,hs2.kept.size⟩,fun b hb hn=>hs2.kept.old b hb (fun l e=>hn l ((hio l b).1 e)) (fun h=>h),fun o ho=>⟨fun e=>?_,fun b e cs t hc=>?_⟩,g2,fun b hb=>(g3 b hb).2.imp id (fun h=>(h.elim id False.elim:Γ.nww b).elim id False.elim),fun hd=>⟨(g4 hd).1,fun b hb=>⟨(((g4 hd).2 b hb).2.elim id False.elim:Γ.nww b).elim id False.elim,((g4 hd).2 b hb).1⟩⟩⟩
  · refine hnil o ho ?_
    rcases hob o ho with⟨_,e2⟩ | ⟨b,_,_,e2,_⟩
    · exact e2
    · rw[e]at e2;cases e2
  · obtain⟨dp,hl⟩:=hr2 o ho
    obtain⟨Bo,k1,_,k3⟩:=hs2.objs o.l _ hl
    have hβ:=hs2.ios o.l b ((hio o.l b).2 e) (by rw[hl];rfl)
    rcases k3 with⟨k4,_⟩ | ⟨b',cs',t',k4,k5,k6,k7⟩
    · rw[hβ]at k4;cases k4
    · rw[hβ]at k4;cases k4
      obtain⟨cs2,q1,q2⟩:=hs2.kept.ios b (hblt _ _ e) (fun h=>h) cs t hc
      rw[k6]at q1;cases q1
      exact⟨cs',k6,q2,Bo,by simpa using k7,fun x hx=>(k1 x hx).2.1.imp id (fun h=>(h.elim id False.elim:Γ.nww x).elim id False.elim)⟩
 cases e with
 | normal=>exact fin hq
 | ret=>exact fin hq
 | exit id=>exact hq.elim
 | goto l=>exact hq.elim
 | panic ch=>exact hq.elim
 | outgrown=>exact hq.elim
end
section
variable {P:Program}{N:Nat}{Γ:Ctx P N}{S:List (Nat×Slot)}{O:List (Nat×Option Ob)}{ow:Nat->Own}{β:Nat->Option (Option Nat)}{F:Env}{a:Act}{w:World}
theorem SimG.rewriteManyS (h:SimG Γ ow β F a w){w':World}(hw:Same w w')(us:List (Nat×Option Ob))(hother:∀ b,b<w.heap.size->(∀ l∈us.map (·.1),β l≠some (some b))->w'.heap[b]?=w.heap[b]?)
 (hnew:∀ l∈us.map (·.1),∃ ob,lo us l=some ob/\ob.box=false/\ob.deep=false/\((β l=some none/\ob.cells=[])\/∃ b cs cs' t,β l=some (some b)/\w.heap[b]?=some (.cells cs t (0,0))/\w'.heap[b]?=some (.cells cs' t (0,0))/\cs'.size=cs.size/\∃ B,RelL w'.heap true dead ob.cells cs' 0 B/\∀ b∈B,Im Γ ow w' b)) :
 SimG Γ ow β (F.app ⟨[],us⟩) a w':=by
 have hImh:∀ b,Im Γ ow w b->w'.heap[b]?=w.heap[b]?:=fun b hb=>hother b hb.1 (fun l _ e=>hb.2.2 l (h.lab_ne e))
 have hIm:∀ b,Im Γ ow w b->Im Γ ow w' b:=fun b ⟨h1,h2,h3⟩=>⟨aTX h1 hw.size,h2,h3⟩
 have hFree:∀ b,Im Γ ow w b->gD w b->gD w' b:=fun b hb ⟨c,t,hc⟩=>⟨c,t,by rw[hImh b hb];exact hc⟩
 have hshape:∀ m b,β m=some (some b)->aCF w.heap w'.heap b:=by
  intro m b e c t hc
  by_cases hm:m∈us.map (·.1)
  · obtain⟨ob,_,_,_,g⟩:=hnew m hm
    rcases g with⟨g,_⟩ | ⟨b',cs,cs',t',g1,g2,g3,g4,_⟩
    · rw[e]at g;cases g
    · rw[e]at g1;cases g1
      rw[g2]at hc;cases hc
      exact⟨cs',g3,g4⟩
  · refine⟨c,?_,rfl⟩
    rw[hother b (h.block_lt e) (fun l hl e'=>hm ?_)];exact hc
    have e1:=h.lab_ne e
    have e2:=h.lab_ne e'
    rw[e1]at e2;cases e2;exact hl
 have hkeep:∀ m,KeepB w.heap w'.heap β β m:=fun m o ho=>⟨ho,fun b hob=>by subst hob;exact hshape m b ho⟩
 refine { size:=h.size,defers:=h.defers,kept:=?_,slots:=fun k=>?_,objs:=fun m ob hm=>?_,gone:=fun m hm=>?_,own:=fun b hb=>?_,ios:=fun m b hm hs=>?_,fresh:=h.fresh }
 · refine⟨hw.os.trans h.kept.os,hw.output.trans h.kept.output,hw.tape.trans h.kept.tape,aTY h.kept.size hw.size,fun b h1 h2 hmi=>?_,fun b h1 hmi c t h2=>?_⟩
   · refine(hother b (aTX h1 h.kept.size) (fun l _ e=>?_)).trans (h.kept.old b h1 h2 hmi)
     cases hi:Γ.io l with
     | none =>
      rcases h.fresh l b e hi with g | g
      · omega
      · exact hmi g
     | some b' =>
      have hs:(lo F.o l).isSome=true:=by
       cases ho:lo F.o l with
       | none=>rw[h.gone l ho]at e;cases e
       | some _=>rfl
      have:=h.ios l b' hi hs
      rw[e]at this;cases this
      exact h2 l hi
   · obtain⟨c',h3,h4⟩:=h.kept.ios b h1 hmi c t h2
     rcases aVs (∃ m,β m=some (some b))with⟨m,hm⟩ | hm
     · obtain⟨c'',h5,h6⟩:=hshape m b hm c' t h3
       exact⟨c'',h5,h6.trans h4⟩
     · exact⟨c',by rw[hother b (aTX h1 h.kept.size) (fun l _ e=>hm ⟨l,e⟩)];exact h3,h4⟩
 · obtain⟨B,g1,g2,g3⟩:=h.slots k
   exact⟨B,aW0 _ _ _ (fun m _=>hkeep m) (fun b hb=>hImh b (g2 b hb)) g1,fun b hb=>hIm b (g2 b hb),fun hd=>⟨(g3 hd).1,fun b hb=>⟨((g3 hd).2 b hb).1,hFree b (g2 b hb) ((g3 hd).2 b hb).2⟩⟩⟩
 · by_cases hmu:m∈us.map (·.1)
   · simp only[Env.app]at hm
     rw[cP _ _ _ hmu]at hm
     obtain⟨ob',e1,e2,e3,g⟩:=hnew m hmu
     rw[e1]at hm;cases hm
     rcases g with⟨g1,g2⟩ | ⟨b,cs,cs',t,g1,g2,g3,g4,B,g5,g6⟩
     · exact⟨[],by simp,by simp,.inl ⟨g1,g2,rfl⟩⟩
     · exact⟨B,g6,(fun hd=>by rw[e3]at hd;cases hd),.inr ⟨b,cs',t,g1,h.lab_ne g1,g3,by rw[e2];simpa using g5⟩⟩
   · simp only[Env.app]at hm
     rw[bN _ _ _ hmu]at hm
     obtain⟨B,g1,g2,g3⟩:=h.objs m ob hm
     refine⟨B,fun b hb=>hIm b (g1 b hb),fun hd=>⟨(g2 hd).1,fun b hb=>⟨((g2 hd).2 b hb).1,hFree b (g1 b hb) ((g2 hd).2 b hb).2⟩⟩,?_⟩
     rcases g3 with g3 | ⟨b,c,t,e1,e2,e3,e4⟩
     · exact .inl g3
     · refine .inr ⟨b,c,t,e1,e2,?_,?_⟩
       · rw[hother b (h.block_lt e1) (fun l hl e'=>hmu ?_)];exact e3
         have e5:=h.lab_ne e'
         rw[e2]at e5;cases e5;exact hl
       · cases hbx:ob.box with
         | false=>rw[hbx]at e4;exact aWZ _ _ _ _ (fun _ _ l _=>aXg _ _ l) (fun b hb=>hImh b (g1 b hb)) e4
         | true=>rw[hbx]at e4;exact aWZ _ _ _ _ (fun _ _ m' _=>hkeep m') (fun b hb=>hImh b (g1 b hb)) e4
 · simp only[Env.app]at hm
   by_cases hmu:m∈us.map (·.1)
   · rw[cP _ _ _ hmu]at hm
     obtain⟨ob',e1,_⟩:=hnew m hmu
     rw[e1]at hm;cases hm
   · rw[bN _ _ _ hmu]at hm;exact h.gone m hm
 · obtain⟨g1,g2⟩:=h.own b hb
   exact⟨aTX g1 hw.size,g2⟩
 · refine h.ios m b hm ?_
   simp only[Env.app]at hs
   by_cases hmu:m∈us.map (·.1)
   · obtain⟨_,_,_,_,g⟩:=hnew m hmu
     cases ho:lo F.o m with
     | none =>
      have:=h.gone m ho
      rcases g with⟨g,_⟩ | ⟨_,_,_,_,g,_⟩ <;> rw[this]at g <;> cases g
     | some _=>rfl
   · rw[bN _ _ _ hmu]at hs;exact hs
inductive ObsS (O:List (Nat×Option Ob)) (ρ:List (Nat×Nat)):List XO->List (Nat×Option Ob)->Prop
 | nil:ObsS O ρ [] []
 | cons {l:Nat} {old new:List PV} {dp:Bool} {os:List XO} {us:List (Nat×Option Ob)}:loq O (rn ρ l)=some ⟨old,dp,false⟩->ObsS O ρ os us->ObsS O ρ (⟨l,old,new⟩::os) ((rn ρ l,some ⟨new,false,false⟩)::us)
theorem ObsS.keys {ρ:List (Nat×Nat)}{os:List XO}{us:List (Nat×Option Ob)}(h:ObsS O ρ os us):us.map (·.1)=aJA ρ os:=by
 induction h with
 | nil=>rfl
 | cons _ _ ih=>simp[aJA,ih]
theorem ObsS.get {ρ:List (Nat×Nat)}{os:List XO}{us:List (Nat×Option Ob)}(h:ObsS O ρ os us):∀ o∈os,∃ dp,loq O (rn ρ o.l)=some ⟨o.old,dp,false⟩/\True:=by
 induction h with
 | nil=>simp
 | cons h1 _ ih =>
  intro o ho
  rcases aTM.1 ho with rfl | ho
  · exact⟨_,h1,trivial⟩
  · exact ih o ho
theorem ObsS.lo {ρ:List (Nat×Nat)}{os:List XO}{us:List (Nat×Option Ob)}(h:ObsS O ρ os us)(hi:aB5 ρ (aCH os)=true):∀ o∈os,Ev.lo us (rn ρ o.l)=some ⟨o.new,false,false⟩:=by
 induction h with
 | nil=>simp
 | @cons l old new dp os us h1 _ ih =>
  intro o ho
  rw[aI]
  by_cases e:rn ρ l=rn ρ o.l
  · rw[aTK e]
    rcases aTM.1 ho with rfl | ho
    · rfl
    · simp only[aCH,aB5,aUa,aV0]at hi
      have:vD ((aCH os).map (rn ρ)) (rn ρ l)=true:=(lT _ _).2 (by rw[aAO,aVr];exact aT5.2 ⟨o,ho,e.symm⟩)
      rw[this]at hi;cases hi.1
  · rw[aTJ e]
    rcases aTM.1 ho with rfl | ho
    · exact absurd rfl e
    · simp only[aCH,aB5,aUa]at hi
      exact ih hi.2 o ho
variable {d:Nat}{ty:TypeId}{pos:String}{af:Array Edge}{g:Option (Nat×Bool)}
theorem aRg {f:FuncId}[hfc:FnC P f]{xs:List Operand}{tus:Array TypeId}{ps:List PV}{ls:List Nat}{objs:List XO}{us:List (Nat×Option Ob)}{r:PV}{deep:Bool}(ρ:List (Nat×Nat))(ha:ArgsX S O ρ xs ps ls)(hm:MeetsS P f ps objs r deep)(hob:ObsS O ρ objs us)
 (hi:aB5 ρ (aCH objs)=true) (hc:aNi ls=true) (hr:r.labs=[]) (hd:Nat.blt d N=true) :
 Local Γ ⟨some d,.call ⟨.value (.func f),xs.toArray,tus⟩,ty,pos,af,g⟩ ⟨S,O⟩ ⟨[(d,⟨r,deep⟩)],us⟩ (qA xs) (aJA ρ objs++ls) []:=by
 classical
 intro F hs hl _ a w ⟨ow,β,hsim⟩ Q
 have hdN:=(aW _ _).1 hd
 have hinj:=aEO hi
 have hls:ls=[]:=by cases ls with
  | nil=>rfl
  | cons=>cases hc
 let κ:Nat->Option (Option Nat):=fun l=>if l∈aCH objs then β (rn ρ l)else none
 have hκ1:∀ l,l∈aCH objs->κ l=β (rn ρ l):=fun l h=>by show(if _ then _ else _)=_;rw[aTK h]
 have hκ2:∀ l o,κ l=some o->l∈aCH objs/\β (rn ρ l)=some o:=by
  intro l o h
  rcases aVs (l∈aCH objs)with h1 | h1
  · exact⟨h1,by rw[<- hκ1 l h1];exact h⟩
  · have:κ l=none:=by show(if _ then _ else _)=_;rw[aTJ h1]
    rw[this]at h;cases h
 have hlo:∀ o∈objs,∃ dp,lo F.o (rn ρ o.l)=some ⟨o.old,dp,false⟩/\True:=by
  intro o ho
  obtain⟨dp,h1,h2⟩:=hob.get o ho
  exact⟨dp,by rw[hl _ (by simp only[aTR];left;rw[aFD];exact aT5.2 ⟨o,ho,rfl⟩),<- bV];exact h1,h2⟩
 unfold Oper.wp
 have hrun:(execOp a.eval ⟨some d,.call ⟨.value (.func f),xs.toArray,tus⟩,ty,pos,af,g⟩).run P w=.ok (.enter f (xs.map a.eval).toArray) w:=by
  simp[execOp,resolve,Act.eval,Deferred.ofValue,invoke,hfc.run]
 rw[hrun]
 show Calls _ _ _ _ _
 have hargs:XArgs w.heap (fun b=>Im Γ ow w b\/∃ l∈ls,ow b=.lab l) κ ps (xs.map a.eval):=by
  clear hm hc hob hrun
  have key:∀ {xs:List Operand} {ps:List PV} {ls':List Nat},ArgsX S O ρ xs ps ls'->(∀ k∈qA xs,lk F.s k=lk S k)->(∀ l∈ls',l∈ls)->XArgs w.heap (fun b=>Im Γ ow w b\/∃ l∈ls,ow b=.lab l) κ ps (xs.map a.eval):=by
   intro xs ps ls' hx
   induction hx with
   | nil=>intro _ _;trivial
   | @cons x p l m xs ps h1 h2 ih =>
    intro hk hsub
    have hk1:∀ k∈ors x,lk F.s k=lk S k:=fun k hk'=>hk k (by cases x <;> simp[ors,qA]at hk' ⊢;exact .inl hk')
    have hk2:∀ k∈qA xs,lk F.s k=lk S k:=fun k hk'=>hk k (by cases x <;> simp[qA,hk'])
    refine⟨?_,ih hk2 (fun l' hl'=>hsub l' (by simp[hl']))⟩
    cases h1 with
    | val hv hlb =>
     obtain⟨B,g1,g2⟩:=ArgV.rel hsim hv hk1 (fun m hm'=>hl m (by simp only[aTR];right;exact hsub m (by simp[hm'])))
     exact⟨B,g1.nolab hlb,fun b hb=>(g2 b hb).imp id fun⟨m,hm',e⟩=>⟨m,hsub m (by simp[hm']),e⟩⟩
    | io hv =>
     obtain⟨B,g1,g2⟩:=dU hsim hv hk1
     exact⟨B,vU (fun l o e=>(hκ2 l o e).2) p g1,fun b hb=>.inl (g2 b hb)⟩
  exact key ha hs (fun l h=>h)
 refine(hm w (xs.map a.eval).toArray (fun b=>Im Γ ow w b\/∃ l∈ls,ow b=.lab l) κ (by simpa using hargs) ?_ ?_ ?_).mono fun e w' ⟨c,B,he,hsame,hoth,hpost,h1,h2,h3⟩=>?_
 · intro o ho
   obtain⟨dp,g1,g2⟩:=hlo o ho
   obtain⟨Bo,gI,_,g3⟩:=hsim.objs _ _ g1
   have hk:κ o.l=β (rn ρ o.l):=hκ1 _ (by rw[aAO];exact aT5.2 ⟨o,ho,rfl⟩)
   rcases g3 with⟨e1,e2,_⟩ | ⟨b,cs,t,e1,e2,e3,e4⟩
   · exact .inl ⟨hk.trans e1,e2⟩
   · refine .inr ⟨b,cs,t,hk.trans e1,?_,e3,Bo,by simpa using e4,fun x hx=>.inl (gI x hx)⟩
     rintro(h | ⟨m,hm',e⟩)
     · exact h.2.2 _ e2
     · rw[e2]at e;cases e
       rw[hls]at hm';cases hm'
 · intro l o e
   have:=(hκ2 l o e).1
   rw[aAO]at this
   obtain⟨x,hx,rfl⟩:=aT5.1 this
   exact⟨x,hx,rfl⟩
 · intro l l' b e e'
   obtain⟨g1,g2⟩:=hκ2 l _ e
   obtain⟨g3,g4⟩:=hκ2 l' _ e'
   have e5:=hsim.lab_ne g2
   have e6:=hsim.lab_ne g4
   rw[e5]at e6
   injection e6 with e7
   exact hinj l g1 l' g3 e7
 · subst he
   show Sim Γ _ _ _
   have hrew:SimG Γ ow β (F.app ⟨[],us⟩) a w':=by
    refine hsim.rewriteManyS hsame us (fun b hb hn=>hoth b hb (fun l e=>?_)) (fun m hm'=>?_)
    · obtain⟨g1,g2⟩:=hκ2 l _ e
      refine hn (rn ρ l) ?_ g2
      rw[hob.keys,aFD]
      rw[aAO]at g1
      obtain⟨x,hx,rfl⟩:=aT5.1 g1
      exact aT5.2 ⟨x,hx,rfl⟩
    · rw[hob.keys,aFD]at hm'
      obtain⟨o,ho,rfl⟩:=aT5.1 hm'
      have e1:=hob.lo hi o ho
      refine⟨_,e1,rfl,rfl,?_⟩
      obtain⟨dp',g1,g2⟩:=hlo o ho
      obtain⟨Bo,_,_,g3⟩:=hsim.objs _ _ g1
      have hk:κ o.l=β (rn ρ o.l):=hκ1 _ (by rw[aAO];exact aT5.2 ⟨o,ho,rfl⟩)
      obtain⟨p1,p2⟩:=hpost o ho
      rcases g3 with⟨e2,_⟩ | ⟨b,cs,t,e2,_,e3,_⟩
      · exact .inl ⟨e2,p1 (hk.trans e2)⟩
      · obtain⟨cs',q1,q2,B',q3,q4⟩:=p2 b (hk.trans e2) cs t e3
        refine .inr ⟨b,cs,cs',t,e2,e3,q1,q2,B',q3,fun x hx=>?_⟩
        rcases q4 x hx with(h | ⟨_,h,_⟩) | h
        · exact⟨aTX h.1 hsame.size,h.2⟩
        · rw[hls]at h;cases h
        · exact⟨RelL.below _ _ _ _ q3 x hx,.inr (.inl (.inl (aTY hsim.kept.size h))),fun l e=>by have:=(hsim.own x (by rw[e];simp)).1;omega⟩
   have hB:∀ b∈B,b<w'.heap.size:=aW8 _ _ _ h1
   have hfresh:∀ b,w.heap.size<=b->b<w'.heap.size->Im Γ ow w' b:=fun b hb1 hb2=>⟨hb2,.inr (.inl (.inl (aTY hsim.kept.size hb1))),fun l e=>by have:=(hsim.own b (by rw[e];simp)).1;omega⟩
   have hkeepV:RelV w'.heap β r c B:=aXq hr h1
   have comb:∀ {ow2:Nat->Own} {a2:Act} {s:List (Nat×Slot)},SimG Γ ow2 β ((F.app ⟨[],us⟩).app ⟨s,[]⟩) a2 w'->Sim Γ (F.app ⟨s,us⟩) a2 w':=by
    intro ow2 a2 s h
    exact⟨ow2,β,h.congr (fun k=>rfl) (fun l=>rfl)⟩
   cases deep with
   | true =>
    obtain⟨n1,n2⟩:=h3 rfl
    exact comb (hrew.putDeep hdN hkeepV (fun b hb=>hfresh b (n2 b hb).1 (hB b hb)) n1 (fun b hb=>⟨(n2 b hb).2,.inl (.inl (aTY hsim.kept.size (n2 b hb).1))⟩)
     (fun b hb=>by
      cases hx:ow b with
      | none=>exact .inl rfl
      | _=>have:=(hsim.own b (by rw[hx];simp)).1;have:=(n2 b hb).1;omega))
   | false =>
    refine comb (hrew.put hdN hkeepV fun b hbB=>?_)
    rcases h2 b hbB with(h | ⟨l,hl',_⟩) | h
    · exact⟨aTX h.1 hsame.size,h.2⟩
    · rw[hls]at hl';cases hl'
    · exact hfresh b h (hB b hbB)
end
/- The engine: objects forgotten; the order of a drawn region, told by what comes before what. -/
section
variable {P:Program}{N:Nat}{Γ:Ctx P N}
theorem Ent.sub {S:List (Nat×Slot)}{O O':List (Nat×Option Ob)}(hO:∀ l ob,lo O' l=some ob->lo O l=some ob):Ent Γ ⟨S,O⟩ ⟨S,O'⟩:=by
 rintro a w ⟨ow,β,h⟩
 let f:Nat->Option Nat:=fun l=>if(lo O' l).isSome=true then some l else none
 have hf1:∀ l ob,lo O' l=some ob->f l=some l:=fun l ob e=>by show(if _ then _ else _)=_;rw[aTK (by rw[e];rfl)]
 have hf2:∀ l x,f l=some x->x=l:=fun l x e=>by
  change (if _ then _ else _)=_ at e
  split at e
  · exact(Option.some.inj e).symm
  · cases e
 let ow':Nat->Own:=fun b=>match ow b with
  | .none=>.none
  | .slot k=>.slot k
  | .obj l=>match f l with
   | some l'=>.obj l'
   | none=>.none
  | .lab l=>match f l with
   | some l'=>.lab l'
   | none=>.none
 let β':Nat->Option (Option Nat):=fun l=>if(lo O' l).isSome=true then β l else none
 have hβ':∀ l o,β' l=some o->β l=some o:=by
  intro l o e
  have e':(if(lo O' l).isSome=true then β l else none)=some o:=e
  by_cases hx:(lo O' l).isSome=true
  · rw[aTK hx]at e';exact e'
  · rw[aTJ hx]at e';cases e'
 have hIm:∀ b,Im Γ ow w b->Im Γ ow' w b:=by
  rintro b ⟨h1,h2,h3⟩
  refine⟨h1,h2,fun l=>?_⟩
  show(match ow b with | .none=>_ | .slot k=>_ | .obj l=>_ | .lab l=>_)≠_
  cases hb:ow b with
  | none=>simp
  | slot k=>simp
  | obj m=>simp only;cases f m <;> simp
  | lab m=>exact absurd hb (h3 m)
 have hkeep:∀ m,KeepB w.heap w.heap β β' m:=fun m o e=>⟨hβ' m o e,fun b _ c t hc=>⟨c,hc,rfl⟩⟩
 refine⟨ow',β',{ size:=h.size,defers:=h.defers,kept:=h.kept,slots:=fun k=>?_,objs:=fun l ob hl=>?_,gone:=fun l hl=>?_,own:=fun b hb=>?_,ios:=fun l b hl hs=>?_,fresh:=fun l b hl hi=>?_ }⟩
 · obtain⟨B,g1,g2,g3⟩:=h.slots k
   refine⟨B,aW0 _ _ _ (fun m _=>hkeep m) (fun _ _=>rfl) g1,fun b hb=>hIm b (g2 b hb),fun hd=>⟨(g3 hd).1,fun b hb=>⟨?_,((g3 hd).2 b hb).2⟩⟩⟩
   have e:=((g3 hd).2 b hb).1
   show(match ow b with | .none=>_ | .slot k=>_ | .obj l=>_ | .lab l=>_)=_
   rw[e]
 · obtain⟨B,g1,g2,g3⟩:=h.objs l _ (hO l ob hl)
   have eβ:β' l=β l:=by show(if _ then _ else _)=_;rw[aTK (by rw[hl];rfl)]
   refine⟨B,fun b hb=>hIm b (g1 b hb),fun hd=>⟨(g2 hd).1,fun b hb=>⟨?_,((g2 hd).2 b hb).2⟩⟩,?_⟩
   · have e:=((g2 hd).2 b hb).1
     show(match ow b with | .none=>_ | .slot k=>_ | .obj l=>_ | .lab l=>_)=_
     rw[e];simp only[hf1 l ob hl]
   · rcases g3 with⟨e1,e2,e3⟩ | ⟨b,cs,t,e1,e2,e3,e4⟩
     · exact .inl ⟨eβ.trans e1,e2,e3⟩
     · refine .inr ⟨b,cs,t,eβ.trans e1,?_,e3,?_⟩
       · show(match ow b with | .none=>_ | .slot k=>_ | .obj l=>_ | .lab l=>_)=_
         rw[e2];simp only[hf1 l ob hl]
       · cases hbx:ob.box with
         | false=>rw[hbx]at e4;exact e4
         | true=>rw[hbx]at e4;exact aWZ _ _ _ _ (fun _ _ m _=>hkeep m) (fun _ _=>rfl) e4
 · show(if _ then _ else _)=_
   rw[aTJ (by rw[hl];simp)]
 · have hb':ow b≠.none:=by
    intro e
    apply hb
    show(match ow b with | .none=>_ | .slot k=>_ | .obj l=>_ | .lab l=>_)=_
    rw[e]
   obtain⟨g1,g2⟩:=h.own b hb'
   refine⟨g1,?_⟩
   rcases g2 with g2 | ⟨l,g3,g4⟩
   · exact .inl g2
   · refine .inr ⟨l,?_,g4⟩
     have hb2:(match f l with | some l'=>Own.lab l' | none=>Own.none)≠.none:=by
      have:ow' b=(match f l with | some l'=>Own.lab l' | none=>Own.none):=by
       show(match ow b with | .none=>_ | .slot k=>_ | .obj l=>_ | .lab l=>_)=_
       rw[g3]
      rw[<- this];exact hb
     show(match ow b with | .none=>_ | .slot k=>_ | .obj l=>_ | .lab l=>_)=_
     rw[g3]
     simp only
     cases hx:f l with
     | none=>rw[hx]at hb2;simp at hb2
     | some l'=>rw[hf2 l l' hx]
 · show(if _ then _ else _)=_
   rw[aTK hs]
   refine h.ios l b hl ?_
   cases hx:lo O' l with
   | none=>simp only at hs;rw[hx]at hs;cases hs
   | some ob=>simp only;rw[hO l ob hx];rfl
 · exact h.fresh l b (hβ' l _ hl) hi
end
def aFM (m:Nat)(x:Item):List Item->Nat->Bool
 | [],_=>true
 | y::r,j=>(bif m.testBit j then true else(!(xH x y)&&!(xH y x)))&&aFM m x r (j+1)
def aPx (masks:List Nat)(all:List Item):List Item->Nat->Bool
 | [],_=>true
 | x::r,i=>aFM (masks.getD i 0) x (all.take i) 0&&aPx masks all r (i+1)
theorem aHb {m:Nat}{x:Item}:∀ {l:List Item} {j:Nat},aFM m x l j=true->aAI m x l j=true
 | [],_,_=>rfl
 | y::r,j,h=>by
  rw[aFM,aUa]at h
  rw[aAI,aUa]
  refine⟨?_,aHb h.2⟩
  have h1:=h.1
  cases hm:m.testBit j with
  | true=>cases xH x y||xH y x <;> rfl
  | false =>
   rw[hm]at h1
   simp only[cond_false,aUa,aV0]at h1
   rw[h1.1,h1.2];rfl
theorem aCe {masks:List Nat}{all:List Item}:∀ {l:List Item} {i:Nat},aPx masks all l i=true->wG masks all l i=true
 | [],_,_=>rfl
 | x::r,i,h=>by
  rw[aPx,aUa]at h
  rw[wG,aUa]
  exact⟨aHb h.1,aCe h.2⟩
end Go.Ev
