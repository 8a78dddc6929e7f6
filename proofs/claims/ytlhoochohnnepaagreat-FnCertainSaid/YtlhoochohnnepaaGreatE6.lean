/- Parts EvWW, EvXX, EvYY, EvZZ, EvAB. -/
import Derived.Test.YtlhoochohnnepaaGreatE5
set_option linter.all false
/- The engine, part WW: functions that take the address of an own block whose first cell is a value that is read (cursors); functions that return the address of a new block. -/
namespace Go.Ev
open Go.RowKit (Below)
set_option linter.all false
section
variable {P:Program}{N:Nat}
theorem MeetsX.core {f:FuncId}{fn:Func}{c:Code}{args:List PV}{objs:List XO}{r:PV}{deep:Bool}{rs:Array ResultVar}(hf:P.funcs[f]?=some fn)(hb:fn.body=some c)(hN:fn.ntmps=N)(hrs:fn.results=rs)(hn:Nat.ble args.length N=true)
 (hx:xok objs=true) (hnil:∀ o∈objs,o.old=[]->o.new=[]) (hsc:∀ o∈objs,jX o.new=true)
 (w:World) (cargs:Array Value) (ok:Nat->Prop) (κ:Nat->Option (Option Nat)) (ha:XArgs w.heap ok κ args cargs.toList) (hob:∀ o∈objs,XOb w ok κ o) (hκ:∀ l o,κ l=some o->∃ x∈objs,x.l=l) (hinj:∀ l l' b,κ l=some (some b)->κ l'=some (some b)->l=l')
 (h:∀ Γ:Ctx P N,Γ.base=w.heap.size->Γ.w0=w->(∀ b,ok b->Γ.ok b)->(∀ b,¬Γ.mine b)->(∀ b,¬Γ.lent b)->(∀ l b,Γ.io l=some b->κ l=some (some b))->(∀ l,Nat.blt l 100000=true->Γ.io l=none)->CodeT Γ c ⟨kS args 0,aIL objs⟩ (aCr Γ rs r deep objs)) :
 Calls P f cargs w fun e w'=>∃ c B,e=.returned c/\Same w w'/\(∀ b,b<w.heap.size->(∀ l,κ l≠some (some b))->w'.heap[b]?=w.heap[b]?)/\(∀ o∈objs,aLS w w' κ o)/\
  RelV w'.heap dead r c B/\(∀ b∈B,ok b\/w.heap.size<=b)/\(deep=true->B.Nodup/\∀ b∈B,w.heap.size<=b/\hY w' b):=by
 classical
 obtain⟨h1,h2⟩:=ha.get
 obtain⟨hx1,hx2⟩:=aEX hx
 have hn:=Nat.le_of_ble_eq_true hn
 let Γ:Ctx P N:={ base:=w.heap.size,ok:=ok,io:=fun l=>match κ l with | some (some b)=>some b | _=>none,w0:=w,mine:=fun _=>False,lent:=fun _=>False }
 have hio:∀ l b,Γ.io l=some b↔κ l=some (some b):=by
  intro l b
  show(match κ l with | some (some b)=>some b | _=>none)=some b↔_
  cases κ l with
  | none=>simp
  | some o=>cases o <;> simp
 have hsz:(cargs++Array.replicate (fn.ntmps-cargs.size) undef).size=N:=by
  have:cargs.size=args.length:=by rw[h1];simp
  simp[this,hN];omega
 have hblt:∀ l b,κ l=some (some b)->b<w.heap.size:=by
  intro l b e
  obtain⟨o,ho,rfl⟩:=hκ l _ e
  rcases hob o ho with⟨e',_⟩ | ⟨b',cs,t,e',_,g,_⟩
  · rw[e]at e';cases e'
  · rw[e]at e';cases e'
    rcases Nat.lt_or_ge b w.heap.size with h | h
    · exact h
    · simp[Array.getElem?_eq_none h]at g
 refine calls_of_wp hf hb ?_
 let ow:Nat->Own:=fun b=>if hh:∃ l,κ l=some (some b)then .lab hh.choose else .none
 have how:∀ b l,κ l=some (some b)->ow b=.lab l:=by
  intro b l e
  have hh:∃ l,κ l=some (some b):=⟨l,e⟩
  show(if hh:_ then _ else _)=_
  rw[dif_pos hh,hinj _ _ b hh.choose_spec e]
 have how2:∀ b,ow b≠.none->∃ l,κ l=some (some b):=by
  intro b hb'
  rcases Classical.em (∃ l,κ l=some (some b))with hh | hh
  · exact hh
  · exfalso;apply hb'
    show(if hh:_ then _ else _)=_
    rw[dif_neg hh]
 have hsim:Sim Γ ⟨kS args 0,aIL objs⟩ { tmps:=cargs++Array.replicate (fn.ntmps-cargs.size) undef,defers:=[] } w:=by
  refine⟨ow,κ,{ size:=hsz,defers:=rfl,kept:=⟨rfl,rfl,rfl,Nat.le_refl _,fun _ _ _ _=>rfl,fun b _ _ cs t h=>⟨cs,h,rfl⟩⟩,slots:=fun k=>?_,objs:=fun l ob hl=>?_,gone:=fun l hl=>?_,own:=fun b hb=>?_,ios:=fun l b hl _=>(hio l b).1 hl,fresh:=fun l b hl hi=>?_ }⟩
  · rw[qZ]
    by_cases hk:k<args.length
    · rw[if_pos ⟨Nat.zero_le _,by simpa using hk⟩]
      obtain⟨B,g1,g2⟩:=h2 k hk
      have hB:∀ b∈B,∀ l,ow b≠.lab l:=by
       intro b hb l e
       obtain⟨l',e'⟩:=how2 b (by rw[e];simp)
       obtain⟨o,ho,rfl⟩:=hκ l' _ e'
       rcases hob o ho with⟨e2,_⟩ | ⟨b',cs,t,e2,hnok,_⟩
       · rw[e']at e2;cases e2
       · rw[e']at e2;cases e2;exact hnok (g2 b hb)
      refine⟨B,?_,fun b hb=>⟨RelV.below _ _ _ g1 b hb,.inl (g2 b hb),hB b hb⟩,by simp⟩
      have e:(cargs++Array.replicate (fn.ntmps-cargs.size) undef).getD k undef=cargs.toList.getD k undef:=by
       have hlt:k<cargs.size:=by rw[h1]at hk;simpa using hk
       simp[Array.getD_eq_getD_getElem?,Array.getElem?_append,hlt,List.getD_eq_getElem?_getD]
      rw[e]
      simpa only[Nat.sub_zero]using g1
    · rw[if_neg (by simpa using hk)]
      exact⟨[],by simp[RelV],by simp,by simp⟩
  · rcases aCM (os:=objs) (l:=l)with⟨g1,_⟩ | ⟨o,ho,rfl,g1⟩
    · simp only[g1]at hl;cases hl
    · simp only[g1]at hl;cases hl
      refine⟨[],by simp,by simp,?_⟩
      rcases hob o ho with⟨e1,e2⟩ | ⟨b,cs,t,e1,_,e3,e4⟩
      · exact .inl ⟨e1,e2,rfl⟩
      · exact .inr ⟨b,cs,t,e1,how b _ e1,e3,by simpa using e4⟩
  · cases hk:κ l with
    | none=>rfl
    | some o =>
     obtain⟨x,hx,rfl⟩:=hκ l o hk
     rcases aCM (os:=objs) (l:=x.l)with⟨_,g2⟩ | ⟨_,_,_,g1⟩
     · exact absurd rfl (g2 x hx)
     · simp only[g1]at hl;cases hl
  · obtain⟨l,e⟩:=how2 b hb
    exact⟨hblt l b e,.inr ⟨l,how b l e,(hio l b).2 e⟩⟩
  · rw[(hio l b).2 hl]at hi;cases hi
 have hioN:∀ l,Nat.blt l 100000=true->Γ.io l=none:=by
  intro l hl
  have hl:=(aU _ _).1 hl
  cases hi:Γ.io l with
  | none=>rfl
  | some b =>
   obtain⟨o,ho,rfl⟩:=hκ l _ ((hio l b).1 hi)
   have:=hx1 o ho;omega
 refine wp_mono (h Γ rfl rfl (fun _ h=>h) (fun _ h=>h) (fun _ h=>h) (fun l b e=>(hio l b).1 e) hioN _ _ hsim) fun e a' w' ⟨E',hs',hq⟩=>?_
 have fin:RetX Γ rs E' r deep objs->a'.defers=[]/\∃ v,(results fn a'.tmps).run P w'=.ok v w'/\∃ c B,Ending.returned v=.returned c/\Same w w'/\(∀ b,b<w.heap.size->(∀ l,κ l≠some (some b))->w'.heap[b]?=w.heap[b]?)/\(∀ o∈objs,aLS w w' κ o)/\
  RelV w'.heap dead r c B/\(∀ b∈B,ok b\/w.heap.size<=b)/\(deep=true->B.Nodup/\∀ b∈B,w.heap.size<=b/\hY w' b):=by
  rintro⟨hr,hr2⟩
  obtain⟨c,B,g1,g2,g3,g4⟩:=hr fn hrs a' w' hs'
  obtain⟨E2,⟨ow2,β2,hs2⟩,hr2⟩:=hr2 a' w' hs'
  refine⟨hs2.defers,c,g1,c,B,rfl,⟨hs2.kept.os,hs2.kept.output,hs2.kept.tape,hs2.kept.size⟩,fun b hb hn=>hs2.kept.old b hb (fun l e=>hn l ((hio l b).1 e)) (fun h=>h),fun o ho=>⟨fun e=>?_,fun b e cs t hc=>?_⟩,g2,fun b hb=>(g3 b hb).2.imp id (fun h=>(h.elim id False.elim:Γ.nww b).elim id False.elim),fun hd=>⟨(g4 hd).1,fun b hb=>⟨(((g4 hd).2 b hb).2.elim id False.elim:Γ.nww b).elim id False.elim,((g4 hd).2 b hb).1⟩⟩⟩
  · refine hnil o ho ?_
    rcases hob o ho with⟨_,e2⟩ | ⟨b,_,_,e2,_⟩
    · exact e2
    · rw[e]at e2;cases e2
  · obtain⟨dp,hl⟩:=hr2 o ho
    obtain⟨Bo,_,_,k3⟩:=hs2.objs o.l _ hl
    have hβ:=hs2.ios o.l b ((hio o.l b).2 e) (by rw[hl];rfl)
    rcases k3 with⟨k4,_⟩ | ⟨b',cs',t',k4,k5,k6,k7⟩
    · rw[hβ]at k4;cases k4
    · rw[hβ]at k4;cases k4
      obtain⟨cs2,q1,q2⟩:=hs2.kept.ios b (hblt _ _ e) (fun h=>h) cs t hc
      rw[k6]at q1;cases q1
      have:=mZ (hsc o ho) k7
      subst this
      exact⟨cs',k6,q2,by simpa using k7⟩
 cases e with
 | normal=>exact fin hq
 | ret=>exact fin hq
 | exit id=>exact hq.elim
 | goto l=>exact hq.elim
 | panic ch=>exact hq.elim
 | outgrown=>exact hq.elim
def κ1 (b0:Nat):Nat->Option (Option Nat):=fun l=>if l=100000 then some (some b0)else none
def MeetsP (P:Program)(f:FuncId)(p:PV)(vb:Value)(args old new:List PV)(r:PV)(deep:Bool):Prop :=
 ∀ (w:World) (cargs:Array Value) (ok:Nat->Prop) (b0:Nat) (cs:Array Value) (t:TypeId),XArgs w.heap ok (κ1 b0) args cargs.toList->¬ok b0->w.heap[b0]?=some (.cells cs t (0,0))->RelL w.heap true dead (.sc vb::old) cs 0 []->(∃ B,RelV w.heap dead p vb B/\∀ b∈B,ok b)->
  Calls P f cargs w fun e w'=>∃ c B,e=.returned c/\Same w w'/\(∀ b,b<w.heap.size->b≠b0->w'.heap[b]?=w.heap[b]?)/\(∃ cs',w'.heap[b0]?=some (.cells cs' t (0,0))/\cs'.size=cs.size/\RelL w'.heap true dead (.sc vb::new) cs' 0 [])/\
   RelV w'.heap dead r c B/\(∀ b∈B,ok b\/w.heap.size<=b)/\(deep=true->B.Nodup/\∀ b∈B,w.heap.size<=b/\hY w' b)
theorem MeetsP.intro {f:FuncId}{fn:Func}{c:Code}{p:PV}{vb:Value}{args old new:List PV}{r:PV}{deep:Bool}{rs:Array ResultVar}(hf:P.funcs[f]?=some fn)(hb:fn.body=some c)(hN:fn.ntmps=N)(hrs:fn.results=rs)(hn:Nat.ble args.length N=true)(hp:p.labs=[])(hsc:jX new=true)
 (h:∀ Γ:Ctx P N,(∀ l,Nat.blt l 100000=true->Γ.io l=none)->aQS Γ vb p->CodeT Γ c ⟨kS args 0,[(100000,some ⟨.sc vb::old,true,false⟩)]⟩ (aCr Γ rs r deep [⟨100000,.sc vb::old,.sc vb::new⟩])):MeetsP P f p vb args old new r deep:=by
 intro w cargs ok b0 cs t ha hnok hb0 hrel ⟨Bp,hp1,hp2⟩
 have hκ:∀ l o,κ1 b0 l=some o->l=100000/\o=some b0:=by
  intro l o e
  unfold κ1 at e
  by_cases hl:l=100000
  · rw[if_pos hl]at e;exact⟨hl,(Option.some.inj e).symm⟩
  · rw[if_neg hl]at e;cases e
 refine(MeetsX.core (r:=r) (deep:=deep) hf hb hN hrs hn (objs:=[⟨100000,.sc vb::old,.sc vb::new⟩]) rfl (by simp) (by simpa [jX]using hsc) w cargs ok (κ1 b0) ha (fun o ho=>?_) (fun l o e=>?_) (fun l l' b e e'=>?_) (fun Γ h1 h2 h3 h4 h5 h6 h7=>?_)).mono fun e w' ⟨c,B,q1,q2,q3,q4,q5,q6,q7⟩=>?_
 · simp only[List.mem_singleton]at ho;subst ho
   exact .inr ⟨b0,cs,t,by simp[κ1],hnok,hb0,hrel⟩
 · exact⟨⟨100000,.sc vb::old,.sc vb::new⟩,by simp,(hκ l o e).1.symm⟩
 · exact(hκ l _ e).1.trans (hκ l' _ e').1.symm
 · refine h Γ h7 ⟨hp,Bp,by rw[h2];exact hp1,fun b hb=>⟨h3 b (hp2 b hb),by rw[h1];exact RelV.below _ _ _ hp1 b hb,⟨h4 b,h5 b⟩,fun l e=>?_⟩⟩
   have:=(hκ l _ (h6 l b e)).2
   cases this
   exact hnok (hp2 _ hb)
 · refine⟨c,B,q1,q2,fun b hb hne=>q3 b hb (fun l e=>?_),?_,q5,q6,q7⟩
   · have:=(hκ l _ e).2
     cases this;exact hne rfl
   · exact(q4 ⟨100000,.sc vb::old,.sc vb::new⟩ (by simp)).2 b0 (by simp[κ1]) cs t hb0
end
section
variable {P:Program}{N:Nat}{Γ:Ctx P N}{S:List (Nat×Slot)}{O:List (Nat×Option Ob)}{ow:Nat->Own}{β:Nat->Option (Option Nat)}{F:Env}{a:Act}{w:World}
theorem SimG.objSet (h:SimG Γ ow β F a w){l b0:Nat}{ob0:Ob}{cs:Array Value}{t:TypeId}{cells:List PV}{B:List Nat}(ho:lo F.o l=some ob0)(hβ:β l=some (some b0))(hrow:w.heap[b0]?=some (.cells cs t (0,0)))(hrel:RelL w.heap true dead cells cs 0 B)(hB:∀ b∈B,Im Γ ow w b) :
 SimG Γ ow β (F.app ⟨[],[(l,some ⟨cells,false,false⟩)]⟩) a w:=by
 refine { size:=h.size,defers:=h.defers,kept:=h.kept,slots:=h.slots,objs:=fun m ob hm=>?_,gone:=fun m hm=>?_,own:=h.own,ios:=fun m b hm hs=>?_,fresh:=h.fresh }
 · simp only[Env.app,List.cons_append,List.nil_append,aY]at hm
   by_cases hml:l=m
   · subst hml
     rw[if_pos rfl]at hm;cases hm
     exact⟨B,hB,(fun hd=>by cases hd),.inr ⟨b0,cs,t,hβ,h.lab_ne hβ,hrow,hrel⟩⟩
   · rw[if_neg hml]at hm;exact h.objs m ob hm
 · simp only[Env.app,List.cons_append,List.nil_append,aY]at hm
   by_cases hml:l=m
   · rw[if_pos hml]at hm;cases hm
   · rw[if_neg hml]at hm;exact h.gone m hm
 · simp only[Env.app,List.cons_append,List.nil_append,aY]at hs
   by_cases hml:l=m
   · subst hml;exact h.ios l b hm (by rw[ho];rfl)
   · rw[if_neg hml]at hs;exact h.ios m b hm hs
theorem Ent.wake1 (l:Nat){vb:Value}{p:PV}{rest:List PV}{dp:Bool}(ho:loq O l=some ⟨.sc vb::rest,dp,false⟩)(hsc:jX rest=true)(hf:aQS Γ vb p):Ent Γ ⟨S,O⟩ ⟨S,(l,some ⟨.was vb p::rest,false,false⟩)::O⟩:=by
 rintro a w ⟨ow,β,h⟩
 obtain⟨hl,B,hB1,hB2⟩:=hf
 have ho':lo (Env.mk S O).o l=some ⟨.sc vb::rest,dp,false⟩:=by rw[<- dD];exact ho
 obtain⟨Bo,o1,o2,o3⟩:=h.objs l _ ho'
 rcases o3 with⟨_,e,_⟩ | ⟨b,cs,t,e1,e2,e3,e4⟩
 · cases e
 · simp only[RelL,RelV,Bool.false_eq_true,if_false]at e4
   obtain⟨c,O1,O2,g1,⟨g2,rfl⟩,g3,rfl⟩:=e4
   obtain rfl:=mZ hsc g3
   refine⟨ow,β,h.objSet (b0:=b) (cells:=.was vb p::rest) (B:=B) ho' e1 e3 ?_ (fun x hx=>?_)⟩
   · simp only[RelL,RelV]
     refine⟨c,B,[],g1,⟨g2,?_⟩,g3,by simp⟩
     rw[g2]
     exact RelV.keep _ _ _ (fun l _=>KeepB.dead _ _ l) (fun b hb=>by obtain⟨_,e2,e3,e4⟩:=hB2 b hb;exact h.kept.old b e2 e4 e3.1) hB1
   · obtain⟨e1,e2,e3,e4⟩:=hB2 x hx
     refine⟨Nat.lt_of_lt_of_le e2 h.kept.size,.inl e1,fun m e=>?_⟩
     rcases(h.own x (by rw[e];simp)).2 with g | ⟨m,_,g⟩
     · rcases g with(g | g) | g
       · omega
       · exact e3.1 g
       · exact e3.2 g
     · exact e4 m g
theorem Ent.sleep1 (l:Nat){vb:Value}{p:PV}{rest:List PV}{dp:Bool}(ho:loq O l=some ⟨.was vb p::rest,dp,false⟩)(hsc:jX rest=true):Ent Γ ⟨S,O⟩ ⟨S,(l,some ⟨.sc vb::rest,false,false⟩)::O⟩:=by
 rintro a w ⟨ow,β,h⟩
 have ho':lo (Env.mk S O).o l=some ⟨.was vb p::rest,dp,false⟩:=by rw[<- dD];exact ho
 obtain⟨Bo,o1,o2,o3⟩:=h.objs l _ ho'
 rcases o3 with⟨_,e,_⟩ | ⟨b,cs,t,e1,e2,e3,e4⟩
 · cases e
 · simp only[RelL,RelV,Bool.false_eq_true,if_false]at e4
   obtain⟨c,O1,O2,g1,⟨g2,_⟩,g3,rfl⟩:=e4
   obtain rfl:=mZ hsc g3
   refine⟨ow,β,h.objSet (b0:=b) (cells:=.sc vb::rest) (B:=[]) ho' e1 e3 ?_ (by simp)⟩
   simp only[RelL,RelV]
   exact⟨c,[],[],g1,⟨g2,rfl⟩,g3,rfl⟩
variable {d:Nat}{ty:TypeId}{pos:String}{af:Array Edge}{g:Option (Nat×Bool)}
theorem jE {f:FuncId}[hfc:FnC P f]{l:Nat}{p:PV}{vb:Value}{old new:List PV}{dp:Bool}{xs:List Operand}{tus:Array TypeId}{ps:List PV}{ls:List Nat}{r:PV}{deep:Bool}(ha:ArgsX S O [(100000,l)] xs ps ls)(ho:loq O l=some ⟨.was vb p::old,dp,false⟩)(hm:MeetsP P f p vb ps old new r deep)
 (hsc:jX old=true) (hsn:jX new=true) (hp:p.labs=[]) (hdis:aAI ls l=false) (hc:(aNG ls||deep||flat r)=true) (hr:r.labs=[]) (hd:Nat.blt d N=true) :
 Local Γ ⟨some d,.call ⟨.value (.func f),xs.toArray,tus⟩,ty,pos,af,g⟩ ⟨S,O⟩ ⟨[(d,⟨r,deep⟩)],[(l,some ⟨.was vb p::new,false,false⟩)]⟩ (rU xs) (l::ls) []:=by
 classical
 intro F hs hl _ a w ⟨ow,β,hsim⟩ Q
 have hdN:=(aU _ _).1 hd
 have hol:lo F.o l=some ⟨.was vb p::old,dp,false⟩:=by rw[hl l (by simp),<- dD];exact ho
 obtain⟨Bo,o1,o2,o3⟩:=hsim.objs l _ hol
 rcases o3 with⟨_,e,_⟩ | ⟨b0,cs,t,e1,e2,e3,e4⟩
 · cases e
 simp only[RelL,RelV,Bool.false_eq_true,if_false]at e4
 obtain⟨c0,O1,O2,k1,⟨rfl,k2⟩,k3,rfl⟩:=e4
 obtain rfl:=mZ hsc k3
 have hrn:rn [(100000,l)] 100000=l:=by simp[rn]
 have hκ2:∀ m o,κ1 b0 m=some o->β (rn [(100000,l)] m)=some o:=by
  intro m o e
  unfold κ1 at e
  by_cases h:m=100000
  · rw[if_pos h]at e;cases e;subst h;rw[hrn];exact e1
  · rw[if_neg h]at e;cases e
 unfold Oper.wp
 have hrun:(execOp a.eval ⟨some d,.call ⟨.value (.func f),xs.toArray,tus⟩,ty,pos,af,g⟩).run P w=.ok (.enter f (xs.map a.eval).toArray) w:=by
  simp[execOp,resolve,Act.eval,Deferred.ofValue,invoke,hfc.run]
 rw[hrun]
 show Calls _ _ _ _ _
 have hargs:XArgs w.heap (fun b=>Im Γ ow w b\/∃ l∈ls,ow b=.lab l) (κ1 b0) ps (xs.map a.eval):=by
  clear hm hc hrun
  have key:∀ {xs:List Operand} {ps:List PV} {ls':List Nat},ArgsX S O [(100000,l)] xs ps ls'->(∀ k∈rU xs,lk F.s k=lk S k)->(∀ l∈ls',l∈ls)->XArgs w.heap (fun b=>Im Γ ow w b\/∃ l∈ls,ow b=.lab l) (κ1 b0) ps (xs.map a.eval):=by
   intro xs ps ls' hx
   induction hx with
   | nil=>intro _ _;trivial
   | @cons x p l' m xs ps h1 h2 ih =>
    intro hk hsub
    have hk1:∀ k∈ors x,lk F.s k=lk S k:=fun k hk'=>hk k (by cases x <;> simp[ors,rU]at hk' ⊢;exact .inl hk')
    have hk2:∀ k∈rU xs,lk F.s k=lk S k:=fun k hk'=>hk k (by cases x <;> simp[rU,hk'])
    refine⟨?_,ih hk2 (fun l' hl'=>hsub l' (by simp[hl']))⟩
    cases h1 with
    | val hv hlb =>
     obtain⟨B,g1,g2⟩:=ArgV.rel hsim hv hk1 (fun m hm'=>hl m (by simp only[List.mem_cons];right;exact hsub m (by simp[hm'])))
     exact⟨B,g1.nolab hlb,fun b hb=>(g2 b hb).imp id fun⟨m,hm',e⟩=>⟨m,hsub m (by simp[hm']),e⟩⟩
    | io hv =>
     obtain⟨B,g1,g2⟩:=dE hsim hv hk1
     exact⟨B,xR (fun l o e=>hκ2 l o e) p g1,fun b hb=>.inl (g2 b hb)⟩
  exact key ha hs (fun l h=>h)
 refine(hm w (xs.map a.eval).toArray (fun b=>Im Γ ow w b\/∃ l∈ls,ow b=.lab l) b0 cs t (by simpa using hargs) ?_ e3 ?_ ?_).mono fun e w' ⟨c,B,he,hsame,hoth,⟨cs',hn1,hn2,hn3⟩,h1,h2,h3⟩=>?_
 · rintro(h | ⟨m,hm',e⟩)
   · exact h.2.2 _ e2
   · rw[e2]at e;cases e
     rw[(qA _ _).2 hm']at hdis;cases hdis
 · simp only[RelL,RelV]
   exact⟨c0,[],[],k1,⟨rfl,rfl⟩,k3,rfl⟩
 · exact⟨O1,RelV.keep _ _ _ (fun l _=>KeepB.dead _ _ l) (fun _ _=>rfl) k2,fun b hb=>.inl (o1 b (by simp[hb]))⟩
 · subst he
   show Sim Γ _ _ _
   have hImh:∀ b,Im Γ ow w b->w'.heap[b]?=w.heap[b]?:=fun b hb=>hoth b hb.1 (fun e=>hb.2.2 l (e▸e2))
   have hrew0:SimG Γ ow β (F.app ⟨[],[(l,some ⟨(.sc c0::new).map fun _=>.any,true,false⟩)]⟩) a w':=by
    refine hsim.rewriteMany hsame _ (fun b hb hn=>hoth b hb (fun e=>?_)) (fun m hm'=>?_)
    · subst e;exact hn l (by simp) e1
    · simp only[List.map_cons,List.map_nil,List.mem_singleton]at hm'
      subst hm'
      exact⟨_,by rw[aY,if_pos rfl],rfl,.inr ⟨b0,cs,cs',t,e1,e3,hn1,hn2,aFo hn3⟩⟩
   have hB1:∀ b∈O1,Im Γ ow w' b:=fun b hb=>by
    obtain⟨q1,q2,q3⟩:=o1 b (by simp[hb])
    exact⟨Nat.lt_of_lt_of_le q1 hsame.size,q2,q3⟩
   have hrew1:=hrew0.objSet (l:=l) (ob0:=⟨(.sc c0::new).map fun _=>.any,true,false⟩) (b0:=b0) (cells:=.was c0 p::new) (B:=O1) (by simp[Env.app,aY]) e1 hn1 (by
    simp only[RelL,RelV]at hn3 ⊢
    obtain⟨c1,Q1,Q2,z1,⟨z2,rfl⟩,z3,z4⟩:=hn3
    obtain rfl:=mZ hsn z3
    refine⟨c1,O1,[],z1,⟨z2,?_⟩,z3,by simp⟩
    rw[z2]
    exact RelV.keep _ _ _ (fun l _=>KeepB.dead _ _ l) (fun b hb=>hImh b (o1 b (by simp[hb]))) k2) hB1
   have hrew:SimG Γ ow β (F.app ⟨[],[(l,some ⟨.was c0 p::new,false,false⟩)]⟩) a w':=SimG.congr (E:=(F.app ⟨[],[(l,some ⟨(.sc c0::new).map fun _=>.any,true,false⟩)]⟩).app ⟨[],[(l,some ⟨.was c0 p::new,false,false⟩)]⟩) (fun k=>rfl) (fun m=>by
    simp only[Env.app,List.cons_append,List.nil_append,aY]
    by_cases e:l=m <;> simp[e]) hrew1
   have hB:∀ b∈B,b<w'.heap.size:=RelV.below _ _ _ h1
   have hfresh:∀ b,w.heap.size<=b->b<w'.heap.size->Im Γ ow w' b:=fun b hb1 hb2=>⟨hb2,.inr (.inl (.inl (Nat.le_trans hsim.kept.size hb1))),fun l e=>by have:=(hsim.own b (by rw[e];simp)).1;omega⟩
   have hkeepV:RelV w'.heap β r c B:=RelV.nolab hr h1
   have comb:∀ {ow2:Nat->Own} {a2:Act} {s:List (Nat×Slot)},SimG Γ ow2 β ((F.app ⟨[],[(l,some ⟨.was c0 p::new,false,false⟩)]⟩).app ⟨s,[]⟩) a2 w'->Sim Γ (F.app ⟨s,[(l,some ⟨.was c0 p::new,false,false⟩)]⟩) a2 w':=by
    intro ow2 a2 s h
    exact⟨ow2,β,h.congr (fun k=>rfl) (fun l=>rfl)⟩
   cases deep with
   | true =>
    obtain⟨n1,n2⟩:=h3 rfl
    exact comb (hrew.putDeep hdN hkeepV (fun b hb=>hfresh b (n2 b hb).1 (hB b hb)) n1 (fun b hb=>⟨(n2 b hb).2,.inl (.inl (Nat.le_trans hsim.kept.size (n2 b hb).1))⟩)
     (fun b hb=>by
      cases hx:ow b with
      | none=>exact .inl rfl
      | _=>have:=(hsim.own b (by rw[hx];simp)).1;have:=(n2 b hb).1;omega))
   | false =>
    refine comb (hrew.put hdN hkeepV fun b hbB=>?_)
    simp only[Bool.or_false,Bool.or_eq_true]at hc
    rcases hc with hc | hc
    · cases ls with
      | cons=>cases hc
      | nil =>
       rcases h2 b hbB with(h | ⟨l,hl',_⟩) | h
       · exact⟨Nat.lt_of_lt_of_le h.1 hsame.size,h.2⟩
       · cases hl'
       · exact hfresh b h (hB b hbB)
    · rw[aDl hc h1]at hbB;cases hbB
theorem aGz {f:FuncId}[hfc:FnC P f]{l:Nat}{p:PV}{old new:List PV}{dp:Bool}{xs:List Operand}{tus:Array TypeId}{ps:List PV}{ls:List Nat}{r:PV}{deep:Bool}(ha:ArgsX S O [(100000,l)] xs ps ls)(ho:loq O l=some ⟨p::old,dp,false⟩)(hm:∀ vb,MeetsP P f p vb ps old new r deep)
 (hsc:jX old=true) (hsn:jX new=true) (hp:p.labs=[]) (hdis:aAI ls l=false) (hc:(aNG ls||deep||flat r)=true) (hr:r.labs=[]) (hd:Nat.blt d N=true) :
 Local Γ ⟨some d,.call ⟨.value (.func f),xs.toArray,tus⟩,ty,pos,af,g⟩ ⟨S,O⟩ ⟨[(d,⟨r,deep⟩)],[(l,some ⟨p::new,false,false⟩)]⟩ (rU xs) (l::ls) []:=by
 classical
 intro F hs hl _ a w ⟨ow,β,hsim⟩ Q
 have hdN:=(aU _ _).1 hd
 have hol:lo F.o l=some ⟨p::old,dp,false⟩:=by rw[hl l (by simp),<- dD];exact ho
 obtain⟨Bo,o1,o2,o3⟩:=hsim.objs l _ hol
 rcases o3 with⟨_,e,_⟩ | ⟨b0,cs,t,e1,e2,e3,e4⟩
 · cases e
 simp only[RelL,Bool.false_eq_true,if_false]at e4
 obtain⟨c0,O1,O2,k1,k2,k3,rfl⟩:=e4
 obtain rfl:=mZ hsc k3
 have hrn:rn [(100000,l)] 100000=l:=by simp[rn]
 have hκ2:∀ m o,κ1 b0 m=some o->β (rn [(100000,l)] m)=some o:=by
  intro m o e
  unfold κ1 at e
  by_cases h:m=100000
  · rw[if_pos h]at e;cases e;subst h;rw[hrn];exact e1
  · rw[if_neg h]at e;cases e
 unfold Oper.wp
 have hrun:(execOp a.eval ⟨some d,.call ⟨.value (.func f),xs.toArray,tus⟩,ty,pos,af,g⟩).run P w=.ok (.enter f (xs.map a.eval).toArray) w:=by
  simp[execOp,resolve,Act.eval,Deferred.ofValue,invoke,hfc.run]
 rw[hrun]
 show Calls _ _ _ _ _
 have hargs:XArgs w.heap (fun b=>Im Γ ow w b\/∃ l∈ls,ow b=.lab l) (κ1 b0) ps (xs.map a.eval):=by
  clear hm hc hrun
  have key:∀ {xs:List Operand} {ps:List PV} {ls':List Nat},ArgsX S O [(100000,l)] xs ps ls'->(∀ k∈rU xs,lk F.s k=lk S k)->(∀ l∈ls',l∈ls)->XArgs w.heap (fun b=>Im Γ ow w b\/∃ l∈ls,ow b=.lab l) (κ1 b0) ps (xs.map a.eval):=by
   intro xs ps ls' hx
   induction hx with
   | nil=>intro _ _;trivial
   | @cons x p l' m xs ps h1 h2 ih =>
    intro hk hsub
    have hk1:∀ k∈ors x,lk F.s k=lk S k:=fun k hk'=>hk k (by cases x <;> simp[ors,rU]at hk' ⊢;exact .inl hk')
    have hk2:∀ k∈rU xs,lk F.s k=lk S k:=fun k hk'=>hk k (by cases x <;> simp[rU,hk'])
    refine⟨?_,ih hk2 (fun l' hl'=>hsub l' (by simp[hl']))⟩
    cases h1 with
    | val hv hlb =>
     obtain⟨B,g1,g2⟩:=ArgV.rel hsim hv hk1 (fun m hm'=>hl m (by simp only[List.mem_cons];right;exact hsub m (by simp[hm'])))
     exact⟨B,g1.nolab hlb,fun b hb=>(g2 b hb).imp id fun⟨m,hm',e⟩=>⟨m,hsub m (by simp[hm']),e⟩⟩
    | io hv =>
     obtain⟨B,g1,g2⟩:=dE hsim hv hk1
     exact⟨B,xR (fun l o e=>hκ2 l o e) p g1,fun b hb=>.inl (g2 b hb)⟩
  exact key ha hs (fun l h=>h)
 refine(hm c0 w (xs.map a.eval).toArray (fun b=>Im Γ ow w b\/∃ l∈ls,ow b=.lab l) b0 cs t (by simpa using hargs) ?_ e3 ?_ ?_).mono fun e w' ⟨c,B,he,hsame,hoth,⟨cs',hn1,hn2,hn3⟩,h1,h2,h3⟩=>?_
 · rintro(h | ⟨m,hm',e⟩)
   · exact h.2.2 _ e2
   · rw[e2]at e;cases e
     rw[(qA _ _).2 hm']at hdis;cases hdis
 · simp only[RelL,RelV]
   exact⟨c0,[],[],k1,⟨rfl,rfl⟩,k3,rfl⟩
 · exact⟨O1,RelV.keep _ _ _ (fun l _=>KeepB.dead _ _ l) (fun _ _=>rfl) k2,fun b hb=>.inl (o1 b (by simp[hb]))⟩
 · subst he
   show Sim Γ _ _ _
   have hImh:∀ b,Im Γ ow w b->w'.heap[b]?=w.heap[b]?:=fun b hb=>hoth b hb.1 (fun e=>hb.2.2 l (e▸e2))
   have hrew0:SimG Γ ow β (F.app ⟨[],[(l,some ⟨(.sc c0::new).map fun _=>.any,true,false⟩)]⟩) a w':=by
    refine hsim.rewriteMany hsame _ (fun b hb hn=>hoth b hb (fun e=>?_)) (fun m hm'=>?_)
    · subst e;exact hn l (by simp) e1
    · simp only[List.map_cons,List.map_nil,List.mem_singleton]at hm'
      subst hm'
      exact⟨_,by rw[aY,if_pos rfl],rfl,.inr ⟨b0,cs,cs',t,e1,e3,hn1,hn2,aFo hn3⟩⟩
   have hB1:∀ b∈O1,Im Γ ow w' b:=fun b hb=>by
    obtain⟨q1,q2,q3⟩:=o1 b (by simp[hb])
    exact⟨Nat.lt_of_lt_of_le q1 hsame.size,q2,q3⟩
   have hrew1:=hrew0.objSet (l:=l) (ob0:=⟨(.sc c0::new).map fun _=>.any,true,false⟩) (b0:=b0) (cells:=p::new) (B:=O1) (by simp[Env.app,aY]) e1 hn1 (by
    simp only[RelL,RelV]at hn3 ⊢
    obtain⟨c1,Q1,Q2,z1,⟨z2,rfl⟩,z3,z4⟩:=hn3
    obtain rfl:=mZ hsn z3
    refine⟨c1,O1,[],z1,?_,z3,by simp⟩
    rw[z2]
    exact RelV.keep _ _ _ (fun l _=>KeepB.dead _ _ l) (fun b hb=>hImh b (o1 b (by simp[hb]))) k2) hB1
   have hrew:SimG Γ ow β (F.app ⟨[],[(l,some ⟨p::new,false,false⟩)]⟩) a w':=SimG.congr (E:=(F.app ⟨[],[(l,some ⟨(.sc c0::new).map fun _=>.any,true,false⟩)]⟩).app ⟨[],[(l,some ⟨p::new,false,false⟩)]⟩) (fun k=>rfl) (fun m=>by
    simp only[Env.app,List.cons_append,List.nil_append,aY]
    by_cases e:l=m <;> simp[e]) hrew1
   have hB:∀ b∈B,b<w'.heap.size:=RelV.below _ _ _ h1
   have hfresh:∀ b,w.heap.size<=b->b<w'.heap.size->Im Γ ow w' b:=fun b hb1 hb2=>⟨hb2,.inr (.inl (.inl (Nat.le_trans hsim.kept.size hb1))),fun l e=>by have:=(hsim.own b (by rw[e];simp)).1;omega⟩
   have hkeepV:RelV w'.heap β r c B:=RelV.nolab hr h1
   have comb:∀ {ow2:Nat->Own} {a2:Act} {s:List (Nat×Slot)},SimG Γ ow2 β ((F.app ⟨[],[(l,some ⟨p::new,false,false⟩)]⟩).app ⟨s,[]⟩) a2 w'->Sim Γ (F.app ⟨s,[(l,some ⟨p::new,false,false⟩)]⟩) a2 w':=by
    intro ow2 a2 s h
    exact⟨ow2,β,h.congr (fun k=>rfl) (fun l=>rfl)⟩
   cases deep with
   | true =>
    obtain⟨n1,n2⟩:=h3 rfl
    exact comb (hrew.putDeep hdN hkeepV (fun b hb=>hfresh b (n2 b hb).1 (hB b hb)) n1 (fun b hb=>⟨(n2 b hb).2,.inl (.inl (Nat.le_trans hsim.kept.size (n2 b hb).1))⟩)
     (fun b hb=>by
      cases hx:ow b with
      | none=>exact .inl rfl
      | _=>have:=(hsim.own b (by rw[hx];simp)).1;have:=(n2 b hb).1;omega))
   | false =>
    refine comb (hrew.put hdN hkeepV fun b hbB=>?_)
    simp only[Bool.or_false,Bool.or_eq_true]at hc
    rcases hc with hc | hc
    · cases ls with
      | cons=>cases hc
      | nil =>
       rcases h2 b hbB with(h | ⟨l,hl',_⟩) | h
       · exact⟨Nat.lt_of_lt_of_le h.1 hsame.size,h.2⟩
       · cases hl'
       · exact hfresh b h (hB b hbB)
    · rw[aDl hc h1]at hbB;cases hbB
def MeetsQ (P:Program)(f:FuncId)(args cells:List PV):Prop :=
 ∀ (w:World) (cargs:Array Value) (ok:Nat->Prop),RelArgs w.heap ok args cargs.toList->
  Calls P f cargs w fun e w'=>∃ b cs t B,e=.returned (.pointer (some ⟨b,0,none⟩))/\Below w.heap.size w w'/\w.heap.size<=b/\w'.heap[b]?=some (.cells cs t (0,0))/\RelL w'.heap true dead cells cs 0 B/\(∀ x∈B,x<w'.heap.size/\x≠b/\(ok x\/w.heap.size<=x))
theorem aIF {f:FuncId}[hfc:FnC P f]{xs:List Operand}{us:Array TypeId}{ps cells:List PV}(ha:ArgsV S O xs ps [])(hm:MeetsQ P f ps cells)(hio:Γ.io d=none)(hd:Nat.blt d N=true) :
 Local Γ ⟨some d,.call ⟨.value (.func f),xs.toArray,us⟩,ty,pos,af,g⟩ ⟨S,O⟩ ⟨[(d,⟨.ptr d 0,false⟩)],[(d,some ⟨cells,false,false⟩)]⟩ (rU xs) [] [d]:=by
 intro F hs hl hnd a w ⟨ow,β,hsim⟩ Q
 have hdN:=(aU _ _).1 hd
 have hargs:=yU hsim ha hs hl
 unfold Oper.wp
 have hrun:(execOp a.eval ⟨some d,.call ⟨.value (.func f),xs.toArray,us⟩,ty,pos,af,g⟩).run P w=.ok (.enter f (xs.map a.eval).toArray) w:=by
  simp[execOp,resolve,Act.eval,Deferred.ofValue,invoke,hfc.run]
 rw[hrun]
 show Calls _ _ _ _ _
 refine(hm w (xs.map a.eval).toArray (fun b=>Im Γ ow w b\/∃ l∈([]:List Nat),ow b=.lab l) (by simpa using hargs)).mono fun e w' ⟨b,cs,t,B,he,hb,h1,h2,h3,h4⟩=>?_
 subst he
 show Sim Γ _ _ _
 obtain⟨ow',h'⟩:=hsim.growSh hb h2 h1 h3 (fun x hx=>by
  obtain⟨g1,g2,g3⟩:=h4 x hx
  refine⟨g1,g2,?_⟩
  rcases g3 with(g | ⟨l,hl,_⟩) | g
  · exact .inl g
  · cases hl
  · exact .inr g) (hnd d (by simp)) hio
 have h2:=h'.put (d:=d) (v:=.ptr d 0) (c:=.pointer (some ⟨b,0,none⟩)) (O:=[]) hdN (by
  simp only[RelV]
  exact⟨trivial,fun b' hb'=>by simp at hb';rw[hb']⟩) (by simp)
 exact⟨_,_,h2.congr (fun k=>rfl) (fun l=>rfl)⟩
def RetQ (Γ:Ctx P N)(rs:Array ResultVar)(E:Env)(cells:List PV):Prop :=
 ∀ fn:Func,fn.results=rs->∀ a w,Sim Γ E a w->∃ b cs t B,(results fn a.tmps).run P w=.ok (.pointer (some ⟨b,0,none⟩)) w/\Γ.nww b/\w.heap[b]?=some (.cells cs t (0,0))/\RelL w.heap true dead cells cs 0 B/\(∀ x∈B,x<w.heap.size/\x≠b/\(Γ.ok x\/Γ.nw x))
def aPR (Γ:Ctx P N)(rs:Array ResultVar)(cells:List PV):Exit->Env->Prop
 | .normal,E=>RetQ Γ rs E cells
 | .ret,E=>RetQ Γ rs E cells
 | _,_=>False
theorem aQ9 {rs:Array ResultVar}{E:Env}{cells:List PV}(h:RetQ Γ rs E cells):aPR Γ rs cells .ret E:=h
theorem RetQ.weak {E E0:Env}{rs:Array ResultVar}{cells:List PV}(he:Ent Γ E E0)(h:RetQ Γ rs E0 cells):RetQ Γ rs E cells:=fun fn hf a w hs=>h fn hf a w (he a w hs)
theorem RetQ.mk {t l:Nat}{cells cells':List PV}{dp dp0:Bool}(h:lkq S t=some ⟨.ptr l 0,dp0⟩)(ho:loq O l=some ⟨cells,dp,false⟩)(hne:cells≠[])(hio:Γ.io l=none)(hs:SoftL cells cells'):RetQ Γ #[.tmp t] ⟨S,O⟩ cells':=by
 rintro fn hf a w ⟨ow,β,hsim⟩
 rw[zF hf]
 obtain⟨B,h1,_⟩:=hsim.slots t
 rw[gY h]at h1
 simp only[RelV]at h1
 obtain⟨Bo,o1,o2,hob⟩:=hsim.objs l ⟨cells,dp,false⟩ (by rw[<- dD];exact ho)
 rcases hob with⟨_,p2,_⟩ | ⟨b,cs,u,p1,p2,p3,p4⟩
 · exact absurd p2 hne
 · refine⟨b,cs,u,Bo,by simp[pF,h1.2 b p1],hsim.fresh l _ p1 hio,p3,hs.2 _ _ _ _ _ _ (by simpa using p4),fun x hx=>⟨(o1 x hx).1,fun e=>(o1 x hx).2.2 l (e▸p2),(o1 x hx).2.1⟩⟩
end
section
variable {P:Program}{N:Nat}
theorem MeetsQ.intro {f:FuncId}{fn:Func}{c:Code}{args cells:List PV}{rs:Array ResultVar}(hf:P.funcs[f]?=some fn)(hb:fn.body=some c)(hN:fn.ntmps=N)(hrs:fn.results=rs)(hn:Nat.ble args.length N=true)
 (h:∀ Γ:Ctx P N,(∀ l,Nat.blt l 100000=true->Γ.io l=none)->CodeT Γ c ⟨kS args 0,[]⟩ (aPR Γ rs cells)):MeetsQ P f args cells:=by
 intro w cargs ok ha
 obtain⟨h1,h2⟩:=ha.get
 have hn:=Nat.le_of_ble_eq_true hn
 let Γ:Ctx P N:={ base:=w.heap.size,ok:=fun b=>ok b,io:=fun _=>none,w0:=w,mine:=fun _=>False,lent:=fun _=>False }
 have hsz:(cargs++Array.replicate (fn.ntmps-cargs.size) undef).size=N:=by
  have:cargs.size=args.length:=by rw[h1];simp
  simp[this,hN];omega
 refine calls_of_wp hf hb ?_
 have hsim:Sim Γ ⟨kS args 0,[]⟩ { tmps:=cargs++Array.replicate (fn.ntmps-cargs.size) undef,defers:=[] } w:=by
  refine⟨fun _=>.none,fun _=>none,{ size:=hsz,defers:=rfl,kept:=⟨rfl,rfl,rfl,Nat.le_refl _,fun _ _ _ _=>rfl,fun b _ _ cs t h=>⟨cs,h,rfl⟩⟩,slots:=fun k=>?_,objs:=fun l ob hl=>(by simp[lo]at hl),gone:=fun _ _=>rfl,own:=fun b hb=>absurd rfl hb,ios:=fun l b hl=>(by cases hl),fresh:=fun l b hl=>(by cases hl) }⟩
  rw[qZ]
  by_cases hk:k<args.length
  · rw[if_pos ⟨Nat.zero_le _,by simpa using hk⟩]
    obtain⟨B,g1,g2⟩:=h2 k hk
    refine⟨B,?_,fun b hb=>⟨RelV.below _ _ _ g1 b hb,.inl (g2 b hb),fun l=>by simp⟩,by simp⟩
    have e:(cargs++Array.replicate (fn.ntmps-cargs.size) undef).getD k undef=cargs.toList.getD k undef:=by
     have hlt:k<cargs.size:=by rw[h1]at hk;simpa using hk
     simp[Array.getD_eq_getD_getElem?,Array.getElem?_append,hlt,List.getD_eq_getElem?_getD]
    rw[e]
    simp only[Nat.sub_zero]
    exact RelV.keep _ _ _ (fun l _=>by intro ob h;cases h) (fun _ _=>rfl) g1
  · rw[if_neg (by simpa using hk)]
    exact⟨[],by simp[RelV],by simp,by simp⟩
 refine wp_mono (h Γ (fun _ _=>rfl) _ _ hsim) fun e a' w' ⟨E',hs',hq⟩=>?_
 have fin:RetQ Γ rs E' cells->a'.defers=[]/\∃ v,(results fn a'.tmps).run P w'=.ok v w'/\∃ b cs t B,Ending.returned v=.returned (.pointer (some ⟨b,0,none⟩))/\Below w.heap.size w w'/\w.heap.size<=b/\w'.heap[b]?=some (.cells cs t (0,0))/\RelL w'.heap true dead cells cs 0 B/\(∀ x∈B,x<w'.heap.size/\x≠b/\(ok x\/w.heap.size<=x)):=by
  intro hr
  obtain⟨b,cs,t,B,g1,g2,g3,g4,g5⟩:=hr fn hrs a' w' hs'
  obtain⟨ow,β,hs'⟩:=hs'
  exact⟨hs'.defers,_,g1,b,cs,t,B,rfl,⟨hs'.kept.os,hs'.kept.tape,hs'.kept.output,hs'.kept.size,fun k hk=>hs'.kept.old k hk (fun l=>by simp[Γ]) (fun h=>h)⟩,g2.elim id False.elim,g3,g4,fun x hx=>⟨(g5 x hx).1,(g5 x hx).2.1,(g5 x hx).2.2.imp id (fun h=>(h.elim id False.elim:Γ.nww x).elim id False.elim)⟩⟩
 cases e with
 | normal=>exact fin hq
 | ret=>exact fin hq
 | exit id=>exact hq.elim
 | goto l=>exact hq.elim
 | panic ch=>exact hq.elim
 | outgrown=>exact hq.elim
end
end Go.Ev
/- The engine, part XX: arrays of arrays as own rows; addresses known not to be nil. -/
namespace Go.Ev
open Go.RowKit (Below)
set_option linter.all false
theorem SoftL.repA {α:Type}{zs:List Value}{e:α->List PV}{z:α}(h:SoftL (zs.map .sc) (e z)):∀ n:Nat,SoftL ((List.replicate n zs).flatten.map .sc) ((List.replicate n z).flatMap e)
 | 0=>SoftL.nil
 | n+1=>by rw[List.replicate_succ,List.replicate_succ,List.flatten_cons,List.map_append,List.flatMap_cons];exact h.app (SoftL.repA h n)
def zY (k:IntKind)(m n:Int):Int:=k.wrap (BitVec.ofInt k.bits m &&& BitVec.ofInt k.bits n).toNat
def aKT (k:IntKind)(m n:Int):Int:=k.wrap (BitVec.ofInt k.bits m ^^^ BitVec.ofInt k.bits n).toNat
theorem ixq {i j q:Int}{m sz s1:Nat}(hi:0<=i)(hj:0<=j)(hq:aZ (i*(m:Int)+j)=some q)(hs:s1=m*sz):i.toNat*s1+j.toNat*sz=q.toNat*sz:=by
 have e:=Option.some.inj hq
 subst hs
 subst e
 obtain⟨a,rfl⟩:=Int.eq_ofNat_of_zero_le hi
 obtain⟨b,rfl⟩:=Int.eq_ofNat_of_zero_le hj
 have:((a:Int)*(m:Int)+(b:Int)).toNat=a*m+b:=by
  rw[<- Int.natCast_mul,<- Int.natCast_add];rfl
 rw[this]
 simp only[Int.toNat_natCast]
 rw[Nat.add_mul,Nat.mul_assoc]
section
variable {P:Program}{N:Nat}{Γ:Ctx P N}{S:List (Nat×Slot)}{O:List (Nat×Option Ob)}
theorem aHX {t len e n by_:Nat}{agg:Bool}[ht:ArT P t len e][hi:TI P e n agg by_](w:World){b off i:Nat}{k:IntKind}(h:i<len) :
 (Instr.indexAt t (.pointer (some ⟨b,off,none⟩)) (.int k i)).run P w=.ok (.pointer (some ⟨b,off+i*n,none⟩)) w:=by
 obtain⟨⟨ii,h1,h2,_⟩,_⟩:=hi.ok
 simp[Instr.indexAt,asIntOf,Instr.sureAddr,run_underlying ht.ok,sizeOf,typeInfo,h1,h2,Addr.add_lit,h]
variable {d:Nat}{ty:TypeId}{pos:String}{af:Array Edge}{g:Option (Nat×Bool)}
theorem xG {x i:Operand}{t len e sz by_ r k0 q:Nat}{agg:Bool}{k:IntKind}{j:Int}{ob:Ob}[ht:ArT P t len e][hi:TI P e sz agg by_](hx:evq S x=some (.ptr r k0))(ho:loq O r=some ob)(hne:Nat.blt 0 ob.cells.length=true)(hix:evq S i=some (.sc (.int k j)))(hj:0<=j/\j<len)(hq:k0+j.toNat*sz=q)(hd:Nat.blt d N=true) :
 Local Γ ⟨some d,.indexAddr t x i,ty,pos,af,g⟩ ⟨S,O⟩ ⟨[(d,⟨.ptr r q,false⟩)],[]⟩ (ors x++ors i) [r] []:=by
 intro F hs hlo _
 refine bN fun a w hsim=>?_
 have hiv:=zL hsim hix (fun k hk=>hs k (by simp[hk]))
 obtain⟨ow,β,hsim⟩:=hsim
 obtain⟨m,rfl⟩:=Int.eq_ofNat_of_zero_le hj.1
 have hm:m<len:=by have:=hj.2;omega
 obtain⟨B,h1,h2⟩:=dE hsim hx (fun k hk=>hs k (by simp[hk]))
 simp only[RelV]at h1
 obtain⟨Bo,o1,o2,hob⟩:=hsim.objs r _ (by rw[hlo r (by simp),<- dD];exact ho)
 rcases hob with⟨e1,e2,_⟩ | ⟨b,cs,u,e1,e2,e3,e4⟩
 · rw[e2]at hne;cases hne
 · subst hq
   refine⟨.pointer (some ⟨b,k0+m*sz,none⟩),w,by simp[execOp,h1.2 b e1,hiv,aHX (t:=t) (e:=e) w hm],ow,β,?_⟩
   exact hsim.put ((aU _ _).1 hd) (O:=[]) (by simp only[RelV,Int.toNat_natCast];exact⟨trivial,fun b' hb=>by rw[e1]at hb;cases hb;rfl⟩) (by simp)
theorem aON {x y:Operand}{u u':TypeId}{k:IntKind}{m n r:Int}(hx:evq S x=some (.sc (.int k m)))(hy:evq S y=some (.sc (.int k n)))(hr:zY k m n=r)(hd:Nat.blt d N=true) :
 Local Γ ⟨some d,.binOp .and u x y u',ty,pos,af,g⟩ ⟨S,O⟩ ⟨[(d,⟨.sc (.int k r),false⟩)],[]⟩ (ors x++ors y) [] [] :=
 xH hx hy hd fun w=>by subst hr;simp[eqGuard,binOp,Op.intBits,zY]
theorem aRE {x y:Operand}{u u':TypeId}{k:IntKind}{m n r:Int}(hx:evq S x=some (.sc (.int k m)))(hy:evq S y=some (.sc (.int k n)))(hr:aKT k m n=r)(hd:Nat.blt d N=true) :
 Local Γ ⟨some d,.binOp .xor u x y u',ty,pos,af,g⟩ ⟨S,O⟩ ⟨[(d,⟨.sc (.int k r),false⟩)],[]⟩ (ors x++ors y) [] [] :=
 xH hx hy hd fun w=>by subst hr;simp[eqGuard,binOp,Op.intBits,aKT]
theorem aP3 {x y:Operand}{u u':TypeId}{k k':IntKind}{m n r:Int}(hx:evq S x=some (.sc (.int k m)))(hy:evq S y=some (.sc (.int k' n)))(hn:¬n<0)(hr:m.fdiv (2 ^ min n.toNat k.bits)=r)(hd:Nat.blt d N=true) :
 Local Γ ⟨some d,.binOp .shr u x y u',ty,pos,af,g⟩ ⟨S,O⟩ ⟨[(d,⟨.sc (.int k r),false⟩)],[]⟩ (ors x++ors y) [] [] :=
 xH hx hy hd fun w=>by subst hr;simp[eqGuard,binOp,Op.shift,hn]
theorem zZ {x:Operand}{r k0:Nat}{ob:Ob}(hx:evq S x=some (.ptr r k0))(ho:loq O r=some ob)(hne:Nat.blt 0 ob.cells.length=true)(hd:Nat.blt d N=true) :
 Local Γ ⟨some d,.nilCheck x,ty,pos,af,g⟩ ⟨S,O⟩ ⟨[(d,⟨.ptr r k0,false⟩)],[]⟩ (ors x) [r] []:=by
 intro F hs hlo _
 refine bN fun a w ⟨ow,β,hsim⟩=>?_
 obtain⟨B,h1,h2⟩:=dE hsim hx hs
 simp only[RelV]at h1
 obtain⟨Bo,o1,o2,hob⟩:=hsim.objs r _ (by rw[hlo r (by simp),<- dD];exact ho)
 rcases hob with⟨e1,e2,_⟩ | ⟨b,cs,u,e1,e2,e3,e4⟩
 · rw[e2]at hne;cases hne
 · refine⟨.pointer (some ⟨b,k0,none⟩),w,by simp[execOp,h1.2 b e1],ow,β,?_⟩
   exact hsim.put ((aU _ _).1 hd) (O:=[]) (by simp only[RelV];exact⟨trivial,fun b' hb=>by rw[e1]at hb;cases hb;rfl⟩) (by simp)
end
end Go.Ev
/- The engine, part YY: calls that rest on what the world's tables hold. -/
namespace Go.Ev
open Go.RowKit (Below)
set_option linter.all false
class WT (T:World->Prop):Prop where
 keep:∀ w w',T w->Below w.heap.size w w'->T w'
def MeetsT (P:Program)(T:World->Prop)(f:FuncId)(args:List PV)(r:PV)(deep:Bool):Prop :=
 ∀ (w:World) (cargs:Array Value) (ok:Nat->Prop),T w->RelArgs w.heap ok args cargs.toList->
  Calls P f cargs w fun e w'=>∃ c B,e=.returned c/\Below w.heap.size w w'/\RelV w'.heap dead r c B/\(∀ b∈B,ok b\/w.heap.size<=b)/\(deep=true->B.Nodup/\∀ b∈B,w.heap.size<=b/\hY w' b)
def TOk {P:Program}{N:Nat}(T:World->Prop)(Γ:Ctx P N):Prop:=∀ w,Kept Γ w->T w
section
variable {P:Program}{N:Nat}{T:World->Prop}
theorem MeetsT.intro [WT T]{f:FuncId}{fn:Func}{c:Code}{args:List PV}{r:PV}{deep:Bool}{rs:Array ResultVar}(hf:P.funcs[f]?=some fn)(hb:fn.body=some c)(hN:fn.ntmps=N)(hrs:fn.results=rs)(hn:Nat.ble args.length N=true)
 (h:∀ Γ:Ctx P N,(∀ l,Nat.blt l 100000=true->Γ.io l=none)->TOk T Γ->CodeT Γ c ⟨kS args 0,[]⟩ (aB7 Γ rs r deep)):MeetsT P T f args r deep:=by
 intro w cargs ok hTw ha
 obtain⟨h1,h2⟩:=ha.get
 have hn:=Nat.le_of_ble_eq_true hn
 let Γ:Ctx P N:={ base:=w.heap.size,ok:=fun b=>ok b,io:=fun _=>none,w0:=w,mine:=fun _=>False,lent:=fun _=>False }
 have hΓ:TOk T Γ:=fun w' k=>WT.keep w w' hTw ⟨k.os,k.tape,k.output,k.size,fun b hb=>k.old b hb (fun l=>by simp[Γ]) (fun h=>h)⟩
 have hsz:(cargs++Array.replicate (fn.ntmps-cargs.size) undef).size=N:=by
  have:cargs.size=args.length:=by rw[h1];simp
  simp[this,hN];omega
 refine calls_of_wp hf hb ?_
 have hsim:Sim Γ ⟨kS args 0,[]⟩ { tmps:=cargs++Array.replicate (fn.ntmps-cargs.size) undef,defers:=[] } w:=by
  refine⟨fun _=>.none,fun _=>none,{ size:=hsz,defers:=rfl,kept:=⟨rfl,rfl,rfl,Nat.le_refl _,fun _ _ _ _=>rfl,fun b _ _ cs t h=>⟨cs,h,rfl⟩⟩,slots:=fun k=>?_,objs:=fun l ob hl=>(by simp[lo]at hl),gone:=fun _ _=>rfl,own:=fun b hb=>absurd rfl hb,ios:=fun l b hl=>(by cases hl),fresh:=fun l b hl=>(by cases hl) }⟩
  rw[qZ]
  by_cases hk:k<args.length
  · rw[if_pos ⟨Nat.zero_le _,by simpa using hk⟩]
    obtain⟨B,g1,g2⟩:=h2 k hk
    refine⟨B,?_,fun b hb=>⟨RelV.below _ _ _ g1 b hb,.inl (g2 b hb),fun l=>by simp⟩,by simp⟩
    have e:(cargs++Array.replicate (fn.ntmps-cargs.size) undef).getD k undef=cargs.toList.getD k undef:=by
     have hlt:k<cargs.size:=by rw[h1]at hk;simpa using hk
     simp[Array.getD_eq_getD_getElem?,Array.getElem?_append,hlt,List.getD_eq_getElem?_getD]
    rw[e]
    simp only[Nat.sub_zero]
    exact RelV.keep _ _ _ (fun l _=>by intro ob h;cases h) (fun _ _=>rfl) g1
  · rw[if_neg (by simpa using hk)]
    exact⟨[],by simp[RelV],by simp,by simp⟩
 refine wp_mono (h Γ (fun _ _=>rfl) hΓ _ _ hsim) fun e a' w' ⟨E',hs',hq⟩=>?_
 have fin:RetIs Γ rs E' r deep->a'.defers=[]/\∃ v,(results fn a'.tmps).run P w'=.ok v w'/\∃ c B,Ending.returned v=.returned c/\Below w.heap.size w w'/\RelV w'.heap dead r c B/\(∀ b∈B,ok b\/w.heap.size<=b)/\(deep=true->B.Nodup/\∀ b∈B,w.heap.size<=b/\hY w' b):=by
  intro hr
  obtain⟨c,B,g1,g2,g3,g4⟩:=hr fn hrs a' w' hs'
  obtain⟨ow,β,hs'⟩:=hs'
  refine⟨hs'.defers,c,g1,c,B,rfl,⟨hs'.kept.os,hs'.kept.tape,hs'.kept.output,hs'.kept.size,fun k hk=>hs'.kept.old k hk (fun l=>by simp[Γ]) (fun h=>h)⟩,g2,fun b hb=>(g3 b hb).2.imp id (fun h=>(h.elim id False.elim:Γ.nww b).elim id False.elim),fun hd=>⟨(g4 hd).1,fun b hb=>⟨(((g4 hd).2 b hb).2.elim id False.elim:Γ.nww b).elim id False.elim,((g4 hd).2 b hb).1⟩⟩⟩
 cases e with
 | normal=>exact fin hq
 | ret=>exact fin hq
 | exit id=>exact hq.elim
 | goto l=>exact hq.elim
 | panic ch=>exact hq.elim
 | outgrown=>exact hq.elim
variable {Γ:Ctx P N}{S:List (Nat×Slot)}{O:List (Nat×Option Ob)}{d:Nat}{ty:TypeId}{pos:String}{af:Array Edge}{g:Option (Nat×Bool)}
end
end Go.Ev
/- The engine, part ZZ: a table of rows that share what they hold: while it is only read it stands apart (the blocks are no one's), and is read by its own values; while it grows it is an own row with rows within. -/
namespace Go.Ev
open Go.RowKit (Below)
set_option linter.all false
theorem aBG {α:Type}{l x:List α}{enc encw:α->List PV}{j:Int}{y y':α}{sz:Nat}(hx:aZ (kT l j y')=some x)(hl:idx l j=some y)(h:∀ y,(enc y).length=sz)(hs:SoftL (encw y') (enc y')):SoftL ((l.flatMap enc).take (j.toNat*sz)++encw y'++(l.flatMap enc).drop (j.toNat*sz+sz)) (x.flatMap enc):=by
 rw[<- aLd (enc:=enc) (vs:=enc y') hx hl h rfl]
 exact((SoftL.refl _).app hs).app (SoftL.refl _)
def aRg (sz:Nat)(r:List (List Value)):PV:=.rw sz r.length (r.flatMap fun e=>e.map PV.sc)
def TabR (h:Array Obj)(sz:Nat)(vt:Value)(V:List (List (List Value)))(Bs:List Nat):Prop :=
 RelV h dead (.rw 1 V.length (V.map (aRg sz))) vt Bs/\Bs.Nodup/\(∀ b∈Bs,∃ cs t,h[b]?=some (.cells cs t (0,0)))/\∀ r∈V,∀ e∈r,e.length=sz
section
variable {P:Program}{N:Nat}{Γ:Ctx P N}{S:List (Nat×Slot)}{O:List (Nat×Option Ob)}
structure Foreign (Γ:Ctx P N)(sz:Nat)(vt:Value)(V:List (List (List Value)))(Bs:List Nat):Prop where
 tab:TabR Γ.w0.heap sz vt V Bs
 off:∀ b∈Bs,b<Γ.base/\¬Γ.ok b/\¬Γ.nw b
variable {d:Nat}{ty:TypeId}{pos:String}{af:Array Edge}{g:Option (Nat×Bool)}
end
end Go.Ev
/- The engine, part AB: a function's rest, begun anew: what there is by then is old; a table given up and taken over. -/
namespace Go.Ev
open Go.RowKit (Below)
set_option linter.all false
section
variable {P:Program}{N:Nat}{Γ0 Γ:Ctx P N}{S:List (Nat×Slot)}{O:List (Nat×Option Ob)}{a:Act}{w:World}
structure Later (Γ0 Γ:Ctx P N):Prop where
 base:Γ0.base<=Γ.base
 good:∀ b,Γ.ok b\/Γ.nw b->Γ0.ok b\/Γ0.base<=b
 mine:∀ b,Γ.mine b->Γ0.base<=b
 kept:Kept Γ0 Γ.w0
 io0:∀ l,Γ.io l=none
 le0:∀ b,¬Γ.lent b
theorem Later.nww (h:Later Γ0 Γ){b:Nat}(hb:Γ.nww b):Γ0.base<=b:=by
 rcases hb with hb | hb
 · exact Nat.le_trans h.base hb
 · exact h.mine b hb
theorem TabR.keep {h h':Array Obj}{sz:Nat}{vt:Value}{V:List (List (List Value))}{Bs:List Nat}(hT:TabR h sz vt V Bs)(he:∀ b∈Bs,h'[b]?=h[b]?):TabR h' sz vt V Bs :=
 ⟨RelV.keep _ _ _ (fun l _=>by intro ob e;cases e) he hT.1,hT.2.1,fun b hb=>by rw[he b hb];exact hT.2.2.1 b hb,hT.2.2.2⟩
end
section
variable {P:Program}{N:Nat}{Γ:Ctx P N}{S:List (Nat×Slot)}{O:List (Nat×Option Ob)}{ow:Nat->Own}{β:Nat->Option (Option Nat)}{F:Env}{a:Act}{w:World}
variable {d:Nat}{ty:TypeId}{pos:String}{af:Array Edge}{g:Option (Nat×Bool)}
end
section
variable {P:Program}{N:Nat}{Γ0 Γ:Ctx P N}{S:List (Nat×Slot)}{O:List (Nat×Option Ob)}{a:Act}{w:World}
end
end Go.Ev
