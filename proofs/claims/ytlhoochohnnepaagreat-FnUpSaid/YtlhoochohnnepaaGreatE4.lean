/- Parts EvW, EvAA, EvBB, EvCC, EvDD, EvEE, EvFF, EvGG, EvHH, EvII, EvJJ, EvKK, EvLL, EvMM, EvNN, EvOO, EvPP, EvQQ. -/
import Derived.Test.YtlhoochohnnepaaGreatE3
import Derived.Great.FillDense
set_option linter.all false
/- The engine, part W: calls that write a row with rows within. -/
namespace Go.Ev
open Go.RowKit (Below)
def MeetsN (P:Program)(f:FuncId)(args:List PV)(old new:List PV)(r:PV):Prop :=
 ∀ (w:World) (cargs:Array Value) (ok:Nat->Prop) (κ0:Option Nat) (H:List Nat),XArgs w.heap ok (fun l=>if l=100000 then some κ0 else none) args cargs.toList->
  ((κ0=none/\old=[]/\H=[])\/∃ b cs t,κ0=some b/\¬ok b/\b∉H/\w.heap[b]?=some (.cells cs t (0,0))/\RelL w.heap true dead old cs 0 H)->H.Nodup->(∀ c∈H,¬ok c/\fN w c)->
  Calls P f cargs w fun e w'=>∃ c H',e=.returned c/\Same w w'/\(∀ b,b<w.heap.size->κ0≠some b->b∉H->w'.heap[b]?=w.heap[b]?)/\RelV w'.heap dead r c []/\
   (κ0=none->new=[]/\H'=[])/\(∀ b cs t,κ0=some b->w.heap[b]?=some (.cells cs t (0,0))->b∉H'/\∃ cs',w'.heap[b]?=some (.cells cs' t (0,0))/\cs'.size=cs.size/\RelL w'.heap true dead new cs' 0 H')/\
   H'.Nodup/\∀ c∈H',fN w' c/\(w.heap.size<=c\/c∈H)
section
variable {P:Program}{N:Nat}
def RetN (Γ:Ctx P N)(rs:Array ResultVar)(E:Env)(r:PV)(new:List PV):Prop :=
 RetIs Γ rs E r true/\∀ a w,Sim Γ E a w->∃ E',Sim Γ E' a w/\lo E'.o 100000=some ⟨new,true,false⟩
def aEL (Γ:Ctx P N)(rs:Array ResultVar)(r:PV)(new:List PV):Exit->Env->Prop
 | .normal,E=>RetN Γ rs E r new
 | .ret,E=>RetN Γ rs E r new
 | _,_=>False
def XRetN (Γ:Ctx P N)(rs:Array ResultVar)(r:PV)(new:List PV)(e:Exit)(E:Env):Prop:=e=.ret/\RetN Γ rs E r new
section
variable {Γ:Ctx P N}{E:Env}
theorem XRetN.mk {rs:Array ResultVar}{r:PV}{new:List PV}(h:RetN Γ rs E r new):XRetN Γ rs r new .ret E:=⟨rfl,h⟩
theorem XRetN.out {rs:Array ResultVar}{r:PV}{new:List PV}{e:Exit}(h:XRetN Γ rs r new e E):e=.ret/\RetN Γ rs E r new:=h
theorem RetN.mk {rs:Array ResultVar}{r:PV}{new:List PV}(h:RetIs Γ rs E r true)(ho:lo E.o 100000=some ⟨new,true,false⟩):RetN Γ rs E r new:=⟨h,fun _ _ hs=>⟨E,hs,ho⟩⟩
theorem RetN.weak {E0:Env}{rs:Array ResultVar}{r:PV}{new:List PV}(he:Ent Γ E E0)(h:RetN Γ rs E0 r new):RetN Γ rs E r new:=⟨RetIs.weak he h.1,fun a w hs=>h.2 a w (he a w hs)⟩
end
theorem MeetsN.intro {f:FuncId}{fn:Func}{c:Code}{args old new:List PV}{r:PV}{rs:Array ResultVar}(hf:P.funcs[f]?=some fn)(hb:fn.body=some c)(hN:fn.ntmps=N)(hrs:fn.results=rs)(hn:Nat.ble args.length N=true)
 (hnil:old=[]->new=[]) (hr:mG r=true)
 (h:∀ Γ:Ctx P N,(∀ l,Nat.blt l 100000=true->Γ.io l=none)->(∀ b,¬Γ.lent b)->CodeT Γ c ⟨iP args 0,[(100000,some ⟨old,true,false⟩)]⟩ (aEL Γ rs r new)):MeetsN P f args old new r:=by
 classical
 intro w cargs ok κ0 H ha hob hnd hH
 obtain⟨h1,h2⟩:=ha.get
 have hn:=Nat.le_of_ble_eq_true hn
 let Γ:Ctx P N:={ base:=w.heap.size,ok:=ok,io:=fun l=>if l=100000 then κ0 else none,w0:=w,mine:=fun b=>b∈H,lent:=fun _=>False }
 have hsz:(cargs++Array.replicate (fn.ntmps-cargs.size) undef).size=N:=by
  have:cargs.size=args.length:=by rw[h1];simp
  simp[this,hN];omega
 have hlt:∀ b,(κ0=some b\/b∈H)->b<w.heap.size:=by
  rintro b (e | e)
  · rcases hob with⟨e',_⟩ | ⟨b',cs,t,e',_,_,g,_⟩
    · rw[e]at e';cases e'
    · rw[e]at e';cases e'
      rcases Nat.lt_or_ge b w.heap.size with h | h
      · exact h
      · simp[Array.getElem?_eq_none h]at g
  · obtain⟨_,cs,t,g⟩:=hH b e
    rcases Nat.lt_or_ge b w.heap.size with h | h
    · exact h
    · simp[Array.getElem?_eq_none h]at g
 have hκH:∀ b,κ0=some b->b∉H:=by
  intro b e
  rcases hob with⟨e',_⟩ | ⟨b',cs,t,e',_,g,_⟩
  · rw[e]at e';cases e'
  · rw[e]at e';cases e';exact g
 have hκok:∀ b,κ0=some b->¬ok b:=by
  intro b e
  rcases hob with⟨e',_⟩ | ⟨b',cs,t,e',g,_⟩
  · rw[e]at e';cases e'
  · rw[e]at e';cases e';exact g
 refine calls_of_wp hf hb ?_
 let ow:Nat->Own:=fun b=>if κ0=some b then .lab 100000 else if b∈H then .obj 100000 else .none
 let β:Nat->Option (Option Nat):=fun l=>if l=100000 then some κ0 else none
 have how1:∀ b,κ0=some b->ow b=.lab 100000:=fun b e=>by show(if _ then _ else _)=_;rw[if_pos e]
 have how2:∀ b,b∈H->ow b=.obj 100000:=fun b e=>by
  show(if _ then _ else if _ then _ else _)=_
  rw[if_neg (fun e'=>hκH b e' e),if_pos e]
 have how3:∀ b l,ow b=.lab l->κ0=some b/\l=100000:=by
  intro b l e
  have e:(if κ0=some b then Own.lab 100000 else if b∈H then .obj 100000 else .none)=.lab l:=e
  split at e
  · rename_i h;injection e with e;exact⟨h,e.symm⟩
  · split at e <;> cases e
 have hsim:Sim Γ ⟨iP args 0,[(100000,some ⟨old,true,false⟩)]⟩ { tmps:=cargs++Array.replicate (fn.ntmps-cargs.size) undef,defers:=[] } w:=by
  refine⟨ow,β,{ size:=hsz,defers:=rfl,kept:=⟨rfl,rfl,rfl,Nat.le_refl _,fun _ _ _ _=>rfl,fun b _ _ cs t h=>⟨cs,h,rfl⟩⟩,slots:=fun k=>?_,objs:=fun l ob hl=>?_,gone:=fun l hl=>?_,own:=fun b hb=>?_,ios:=fun l b hl _=>?_,fresh:=fun l b hl hi=>?_ }⟩
  · rw[nW]
    by_cases hk:k<args.length
    · rw[if_pos ⟨Nat.zero_le _,by simpa using hk⟩]
      obtain⟨B,g1,g2⟩:=h2 k hk
      refine⟨B,?_,fun b hb=>⟨RelV.below _ _ _ g1 b hb,.inl (g2 b hb),fun l e=>hκok b (how3 b l e).1 (g2 b hb)⟩,by simp⟩
      have e:(cargs++Array.replicate (fn.ntmps-cargs.size) undef).getD k undef=cargs.toList.getD k undef:=by
       have hlt:k<cargs.size:=by rw[h1]at hk;simpa using hk
       simp[Array.getD_eq_getD_getElem?,Array.getElem?_append,hlt,List.getD_eq_getElem?_getD]
      rw[e]
      simpa only[Nat.sub_zero]using g1
    · rw[if_neg (by simpa using hk)]
      exact⟨[],by simp[RelV],by simp,by simp⟩
  · simp only[aN]at hl
    by_cases e:100000=l
    · subst e
      rw[if_pos rfl]at hl;cases hl
      refine⟨H,fun b hb=>⟨hlt b (.inr hb),.inr (.inl (.inr hb)),fun l=>by rw[how2 b hb];simp⟩,fun _=>⟨hnd,fun b hb=>⟨how2 b hb,(hH b hb).2⟩⟩,?_⟩
      rcases hob with⟨e1,e2,e3⟩ | ⟨b,cs,t,e1,_,_,e3,e4⟩
      · exact .inl ⟨by show(if _ then _ else _)=_;rw[if_pos rfl,e1],e2,e3⟩
      · exact .inr ⟨b,cs,t,by show(if _ then _ else _)=_;rw[if_pos rfl,e1],how1 b e1,e3,by simpa using e4⟩
    · rw[if_neg e]at hl;simp[lo]at hl
  · simp only[aN]at hl
    by_cases e:100000=l
    · rw[if_pos e]at hl;cases hl
    · show(if _ then _ else _)=_;rw[if_neg (fun e'=>e e'.symm)]
  · by_cases e:κ0=some b
    · exact⟨hlt b (.inl e),.inr ⟨100000,how1 b e,by show(if(100000:Nat)=100000 then κ0 else none)=some b;rw[if_pos rfl,e]⟩⟩
    · by_cases e2:b∈H
      · exact⟨hlt b (.inr e2),.inl (.inl (.inr e2))⟩
      · exfalso;apply hb;show(if _ then _ else if _ then _ else _)=_;rw[if_neg e,if_neg e2]
  · have hl:(if l=100000 then κ0 else none)=some b:=hl
    split at hl
    · rename_i e;show(if _ then _ else _)=_;rw[if_pos e,hl]
    · cases hl
  · have hl:(if l=100000 then some κ0 else none)=some (some b):=hl
    have hi:(if l=100000 then κ0 else none)=none:=hi
    split at hl
    · rename_i e;rw[if_pos e]at hi;rw[hi]at hl;cases hl
    · cases hl
 have hioN:∀ l,Nat.blt l 100000=true->Γ.io l=none:=by
  intro l hl
  have hl:=(aO _ _).1 hl
  show(if l=100000 then κ0 else none)=none
  rw[if_neg (by omega)]
 refine wp_mono (h Γ hioN (fun _ h=>h) _ _ hsim) fun e a' w' ⟨E',hs',hq⟩=>?_
 have fin:RetN Γ rs E' r new->a'.defers=[]/\∃ v,(results fn a'.tmps).run P w'=.ok v w'/\∃ c H',Ending.returned v=.returned c/\Same w w'/\(∀ b,b<w.heap.size->κ0≠some b->b∉H->w'.heap[b]?=w.heap[b]?)/\RelV w'.heap dead r c []/\
  (κ0=none->new=[]/\H'=[])/\(∀ b cs t,κ0=some b->w.heap[b]?=some (.cells cs t (0,0))->b∉H'/\∃ cs',w'.heap[b]?=some (.cells cs' t (0,0))/\cs'.size=cs.size/\RelL w'.heap true dead new cs' 0 H')/\
  H'.Nodup/\∀ c∈H',fN w' c/\(w.heap.size<=c\/c∈H):=by
  rintro⟨hr1,hr2⟩
  obtain⟨c,B,g1,g2,_,_⟩:=hr1 fn hrs a' w' hs'
  have:=tR _ hr g2
  subst this
  obtain⟨E2,⟨ow2,β2,hs2⟩,hl⟩:=hr2 a' w' hs'
  obtain⟨Bo,k1,k2,k3⟩:=hs2.objs 100000 _ hl
  obtain⟨k2n,k2⟩:=k2 rfl
  refine⟨hs2.defers,c,g1,c,Bo,rfl,⟨hs2.kept.os,hs2.kept.output,hs2.kept.tape,hs2.kept.size⟩,fun b hb hn1 hn2=>hs2.kept.old b hb (fun l e=>?_) hn2,g2,fun e=>?_,fun b cs t e hc=>?_,k2n,fun c hc=>⟨(k2 c hc).2,?_⟩⟩
  · have e:(if l=100000 then κ0 else none)=some b:=e
    split at e
    · exact hn1 e
    · cases e
  · have en:new=[]:=hnil (by
     rcases hob with⟨_,e2,_⟩ | ⟨b,_,_,e2,_⟩
     · exact e2
     · rw[e]at e2;cases e2)
    refine⟨en,?_⟩
    rcases k3 with⟨_,_,k6⟩ | ⟨_,_,_,_,_,_,k7⟩
    · exact k6
    · subst en;simpa [RelL]using k7
  · have hβ:=hs2.ios 100000 b (by show(if(100000:Nat)=100000 then κ0 else none)=some b;rw[if_pos rfl,e]) (by rw[hl];rfl)
    rcases k3 with⟨k4,_⟩ | ⟨b',cs',t',k4,k5,k6,k7⟩
    · rw[hβ]at k4;cases k4
    · rw[hβ]at k4;cases k4
      obtain⟨cs2,q1,q2⟩:=hs2.kept.ios b (hlt b (.inl e)) (hκH b e) cs t hc
      rw[k6]at q1;cases q1
      exact⟨fun hb=>(k1 b hb).2.2 _ k5,cs',k6,q2,by simpa using k7⟩
  · have e:=(k2 c hc).1
    rcases(hs2.own c (by rw[e];simp)).2 with g | ⟨m,g,_⟩
    · exact(g.elim id False.elim:Γ.nww c)
    · rw[e]at g;cases g
 cases e with
 | normal=>exact fin hq
 | ret=>exact fin hq
 | exit id=>exact hq.elim
 | goto l=>exact hq.elim
 | panic ch=>exact hq.elim
 | outgrown=>exact hq.elim
end
section
variable {P:Program}{N:Nat}{Γ:Ctx P N}{S:List (Nat×Slot)}{O:List (Nat×Option Ob)}{ow:Nat->Own}{β:Nat->Option (Option Nat)}{F:Env}{a:Act}{w:World}
variable {d:Nat}{ty:TypeId}{pos:String}{af:Array Edge}{g:Option (Nat×Bool)}
end
end Go.Ev
/- The engine, part AA: parameters that may be read again; results with rows within. -/
namespace Go.Ev
open Go.RowKit (Below)
section
variable {P:Program}{N:Nat}{Γ:Ctx P N}{S:List (Nat×Slot)}{O:List (Nat×Option Ob)}{ow:Nat->Own}{β:Nat->Option (Option Nat)}{F:Env}{a:Act}{w:World}
def aMB (Γ:Ctx P N)(c:Value)(p:PV):Prop:=p.labs=[]/\∃ B,RelV Γ.w0.heap dead p c B/\∀ b∈B,Γ.ok b/\b<Γ.base/\(¬Γ.mine b/\¬Γ.lent b)/\∀ l,Γ.io l≠some b
end
end Go.Ev
/- The engine, part BB: results with rows within get labels. -/
namespace Go.Ev
open Go.RowKit (Below)
section
variable {P:Program}{N:Nat}{Γ:Ctx P N}{S:List (Nat×Slot)}{O:List (Nat×Option Ob)}{ow:Nat->Own}{β:Nat->Option (Option Nat)}{F:Env}{a:Act}{w:World}
theorem Rows.nil {h:Array Obj}{blk:Nat->Option (Option Nat)}{nest:Nat->List Nat}{B:List Nat}:Rows [] h blk nest B:=⟨by simp,by simp,by simp,by simp,by simp,by simp⟩
theorem Rows.append {h:Array Obj}{us vs:List (Nat×Option Ob)}{blk blk':Nat->Option (Option Nat)}{nest nest':Nat->List Nat}{B B':List Nat}(h1:Rows us h blk nest B)(h2:Rows vs h blk' nest' B')(hd:∀ l∈us.map (·.1),l∉vs.map (·.1))(hB:∀ b∈B,b∉B') :
 ∃ b2 n2,(∀ l∈us.map (·.1),b2 l=blk l)/\(∀ l∈vs.map (·.1),b2 l=blk' l)/\Rows (us++vs) h b2 n2 (B++B'):=by
 classical
 let b2:Nat->Option (Option Nat):=fun l=>if l∈us.map (·.1)then blk l else blk' l
 let n2:Nat->List Nat:=fun l=>if l∈us.map (·.1)then nest l else nest' l
 have eb1:∀ l∈us.map (·.1),b2 l=blk l:=fun l hl=>by show(if _ then _ else _)=_;rw[if_pos hl]
 have eb2:∀ l∈vs.map (·.1),b2 l=blk' l:=fun l hl=>by show(if _ then _ else _)=_;rw[if_neg (fun e=>hd l e hl)]
 have en1:∀ l∈us.map (·.1),n2 l=nest l:=fun l hl=>by show(if _ then _ else _)=_;rw[if_pos hl]
 have en2:∀ l∈vs.map (·.1),n2 l=nest' l:=fun l hl=>by show(if _ then _ else _)=_;rw[if_neg (fun e=>hd l e hl)]
 have hm:∀ l,l∈(us++vs).map (·.1)->l∈us.map (·.1)\/l∈vs.map (·.1):=fun l hl=>by rw[List.map_append]at hl;exact List.mem_append.1 hl
 refine⟨b2,n2,eb1,eb2,⟨fun l hl=>?_,fun l hl=>?_,fun l hl b hb=>?_,fun l hl l' hl' b hb hb'=>?_,fun l hl l' hl' b hb hb'=>?_,fun l hl l' hl' c hc hc'=>?_⟩⟩
 · rcases hm l hl with hl | hl
   · obtain⟨cells,g1,g2⟩:=h1.ob l hl
     exact⟨cells,by rw[cU _ _ _ hl];exact g1,by rw[eb1 l hl,en1 l hl];exact g2⟩
   · obtain⟨cells,g1,g2⟩:=h2.ob l hl
     exact⟨cells,by rw[bQ _ _ _ (fun e=>hd l e hl)];exact g1,by rw[eb2 l hl,en2 l hl];exact g2⟩
 · rcases hm l hl with hl | hl
   · rw[en1 l hl];exact⟨(h1.nd l hl).1,fun c hc=>List.mem_append_left _ ((h1.nd l hl).2 c hc)⟩
   · rw[en2 l hl];exact⟨(h2.nd l hl).1,fun c hc=>List.mem_append_right _ ((h2.nd l hl).2 c hc)⟩
 · rcases hm l hl with hl | hl
   · rw[eb1 l hl]at hb;exact List.mem_append_left _ (h1.inB l hl b hb)
   · rw[eb2 l hl]at hb;exact List.mem_append_right _ (h2.inB l hl b hb)
 · rcases hm l hl with hl | hl <;> rcases hm l' hl' with hl' | hl'
   · rw[eb1 l hl]at hb;rw[eb1 l' hl']at hb';exact h1.bb l hl l' hl' b hb hb'
   · rw[eb1 l hl]at hb;rw[eb2 l' hl']at hb';exact absurd (h2.inB l' hl' b hb') (hB b (h1.inB l hl b hb))
   · rw[eb2 l hl]at hb;rw[eb1 l' hl']at hb';exact absurd (h2.inB l hl b hb) (hB b (h1.inB l' hl' b hb'))
   · rw[eb2 l hl]at hb;rw[eb2 l' hl']at hb';exact h2.bb l hl l' hl' b hb hb'
 · rcases hm l hl with hl | hl <;> rcases hm l' hl' with hl' | hl'
   · rw[eb1 l hl]at hb;rw[en1 l' hl']at hb';exact h1.bn l hl l' hl' b hb hb'
   · rw[eb1 l hl]at hb;rw[en2 l' hl']at hb';exact hB b (h1.inB l hl b hb) ((h2.nd l' hl').2 b hb')
   · rw[eb2 l hl]at hb;rw[en1 l' hl']at hb';exact hB b ((h1.nd l' hl').2 b hb') (h2.inB l hl b hb)
   · rw[eb2 l hl]at hb;rw[en2 l' hl']at hb';exact h2.bn l hl l' hl' b hb hb'
 · rcases hm l hl with hl | hl <;> rcases hm l' hl' with hl' | hl'
   · rw[en1 l hl]at hc;rw[en1 l' hl']at hc';exact h1.nn l hl l' hl' c hc hc'
   · rw[en1 l hl]at hc;rw[en2 l' hl']at hc';exact absurd ((h2.nd l' hl').2 c hc') (hB c ((h1.nd l hl).2 c hc))
   · rw[en2 l hl]at hc;rw[en1 l' hl']at hc';exact absurd ((h2.nd l hl).2 c hc) (hB c ((h1.nd l' hl').2 c hc'))
   · rw[en2 l hl]at hc;rw[en2 l' hl']at hc';exact h2.nn l hl l' hl' c hc hc'
variable {d:Nat}{ty:TypeId}{pos:String}{af:Array Edge}{g:Option (Nat×Bool)}
end
end Go.Ev
/- The engine, part CC: values put together from others, values softened. -/
namespace Go.Ev
open Go.RowKit (Below)
section
variable {P:Program}{N:Nat}{Γ:Ctx P N}{S:List (Nat×Slot)}{O:List (Nat×Option Ob)}{ow:Nat->Own}{β:Nat->Option (Option Nat)}{F:Env}{a:Act}{w:World}
open Classical in
theorem SimG.gather (h:SimG Γ ow β F a w){d:Nat}(hd:d<N)(ks:List Nat){v:PV}{c:Value}{B:List Nat}{dp:Bool}(hv:RelV w.heap β v c B)(hB:∀ b∈B,Im Γ ow w b)
 (hdeep:dp=true->B.Nodup/\∀ b∈B,fN w b/\Γ.nw b/\(ow b=.none\/∃ k∈ks,ow b=.slot k)) :
 ∃ ow',SimG Γ ow' β (F.app ⟨(d,⟨v,dp⟩)::ks.map (fun j=>(j,⟨.any,false⟩)),[]⟩) (a.put (some d) c) w:=by
 let ow':Nat->Own:=fun b=>if b∈B/\dp=true then .slot d else ow b
 have hst:∀ b o,ow b=o->(∀ k∈ks,o≠.slot k)->o≠.none->ow' b=o:=by
  intro b o e h1 h2
  show(if _ then _ else _)=_
  rw[if_neg]
  · exact e
  · rintro⟨hb,hx⟩
    rcases((hdeep hx).2 b hb).2.2 with e' | ⟨k,hk,e'⟩
    · rw[e]at e';exact h2 e'
    · rw[e]at e';exact h1 k hk e'
 have hIm:∀ b,Im Γ ow w b->Im Γ ow' w b:=by
  intro b ⟨h1,h2,h3⟩
  refine⟨h1,h2,fun l=>?_⟩
  show(if _ then _ else _)≠_
  split
  · simp
  · exact h3 l
 refine⟨ow',{ size:=by simp[Act.put,h.size],defers:=by simp[Act.put,h.defers],kept:=h.kept,slots:=fun k=>?_,objs:=fun l ob hl=>?_,gone:=by simpa [Env.app]using h.gone,own:=fun b hb=>?_,ios:=by simpa [Env.app]using h.ios,fresh:=h.fresh }⟩
 · simp only[Env.app,List.cons_append,fJ,Act.put]
   by_cases hk:d=k
   · subst hk
     rw[if_pos rfl,jR (by rw[h.size];exact hd)]
     exact⟨B,hv,fun b hb=>hIm b (hB b hb),fun hx=>⟨(hdeep hx).1,fun b hb=>⟨by show(if _ then _ else _)=_;rw[if_pos ⟨hb,hx⟩],((hdeep hx).2 b hb).1⟩⟩⟩
   · rw[if_neg hk,pN hk]
     rw[zT]
     by_cases hks:k∈ks
     · rw[if_pos hks];exact⟨[],by simp[RelV],by simp,by simp⟩
     · rw[if_neg hks]
       obtain⟨O',g1,g2,g3⟩:=h.slots k
       exact⟨O',g1,fun b hb=>hIm b (g2 b hb),fun hx=>⟨(g3 hx).1,fun b hb=>⟨hst b _ ((g3 hx).2 b hb).1 (fun k' hk' e=>by injection e with e;exact hks (e▸hk')) (by simp),((g3 hx).2 b hb).2⟩⟩⟩
 · simp only[Env.app,List.nil_append]at hl
   obtain⟨O',g1,g2,g3⟩:=h.objs l ob hl
   refine⟨O',fun b hb=>hIm b (g1 b hb),fun hx=>⟨(g2 hx).1,fun b hb=>⟨hst b _ ((g2 hx).2 b hb).1 (by simp) (by simp),((g2 hx).2 b hb).2⟩⟩,?_⟩
   rcases g3 with g3 | ⟨b,cs,t,e1,e2,e3,e4⟩
   · exact .inl g3
   · exact .inr ⟨b,cs,t,e1,hst b _ e2 (by simp) (by simp),e3,e4⟩
 · by_cases hbB:b∈B/\dp=true
   · exact⟨(hB b hbB.1).1,.inl ((hdeep hbB.2).2 b hbB.1).2.1⟩
   · have e:ow' b=ow b:=by show(if _ then _ else _)=_;rw[if_neg hbB]
     rw[e]at hb
     obtain⟨g1,g2⟩:=h.own b hb
     exact⟨g1,by rw[e];exact g2⟩
theorem Ent.soften {l:Nat}{cells cells':List PV}{dp bx:Bool}(ho:loq O l=some ⟨cells,dp,bx⟩)(hl:SoftL cells cells'):Ent Γ ⟨S,O⟩ ⟨S,(l,some ⟨cells',dp,bx⟩)::O⟩:=by
 rintro a w ⟨ow,β,h⟩
 have ho':lo (Env.mk S O).o l=some ⟨cells,dp,bx⟩:=by rw[<- cR];exact ho
 refine⟨ow,β,{ size:=h.size,defers:=h.defers,kept:=h.kept,slots:=h.slots,objs:=fun m ob hm=>?_,gone:=fun m hm=>?_,own:=h.own,ios:=fun m b hm hs=>?_,fresh:=h.fresh }⟩
 · simp only[aN]at hm
   by_cases hml:l=m
   · subst hml
     rw[if_pos rfl]at hm;cases hm
     obtain⟨B,o1,o2,o3⟩:=h.objs l _ ho'
     refine⟨B,o1,o2,o3.imp (fun⟨e1,e2,e3⟩=>⟨e1,by simp only at e2 ⊢;subst e2;exact hl.empty,e3⟩) fun⟨b,cs,t,e1,e2,e3,e4⟩=>⟨b,cs,t,e1,e2,e3,hl.2 _ _ _ _ _ _ e4⟩⟩
   · rw[if_neg hml]at hm;exact h.objs m ob hm
 · simp only[aN]at hm
   by_cases hml:l=m
   · rw[if_pos hml]at hm;cases hm
   · rw[if_neg hml]at hm;exact h.gone m hm
 · simp only[aN]at hs
   by_cases hml:l=m
   · subst hml;exact h.ios l b hm (by rw[ho'];rfl)
   · rw[if_neg hml]at hs;exact h.ios m b hm hs
theorem Ent.softS {k:Nat}{p p':PV}{dp:Bool}(hk:lkq S k=some ⟨p,dp⟩)(hs:Soft p p'):Ent Γ ⟨S,O⟩ ⟨(k,⟨p',dp⟩)::S,O⟩:=by
 rintro a w ⟨ow,β,h⟩
 refine⟨ow,β,{ size:=h.size,defers:=h.defers,kept:=h.kept,slots:=fun j=>?_,objs:=h.objs,gone:=h.gone,own:=h.own,ios:=h.ios,fresh:=h.fresh }⟩
 simp only[fJ]
 by_cases hj:k=j
 · subst hj
   rw[if_pos rfl]
   obtain⟨B,g1,g2,g3⟩:=h.slots k
   simp only[fH hk]at g1 g3
   exact⟨B,hs _ _ _ _ g1,g2,g3⟩
 · rw[if_neg hj];exact h.slots j
variable {d:Nat}{ty:TypeId}{pos:String}{af:Array Edge}{g:Option (Nat×Bool)}
theorem Local.soft {o:Oper}{d:Nat}{p p':PV}{dp:Bool}{us:List (Nat×Option Ob)}{rs ro nl:List Nat}(hs:Soft p p')(h:Local Γ o ⟨S,O⟩ ⟨[(d,⟨p,dp⟩)],us⟩ rs ro nl):Local Γ o ⟨S,O⟩ ⟨[(d,⟨p',dp⟩)],us⟩ rs ro nl:=by
 intro F h1 h2 h3 a w hsim Q
 refine Oper.wp_mono ?_ (h F h1 h2 h3 a w hsim Q)
 rintro a' w' ⟨ow,β,h'⟩
 refine⟨ow,β,{ size:=h'.size,defers:=h'.defers,kept:=h'.kept,slots:=fun j=>?_,objs:=h'.objs,gone:=h'.gone,own:=h'.own,ios:=h'.ios,fresh:=h'.fresh }⟩
 obtain⟨B,g1,g2,g3⟩:=h'.slots j
 simp only[Env.app,List.cons_append,List.nil_append,fJ]at g1 g3 ⊢
 by_cases hj:d=j
 · rw[if_pos hj]at g1 g3 ⊢
   exact⟨B,hs _ _ _ _ g1,g2,g3⟩
 · rw[if_neg hj]at g1 g3 ⊢
   exact⟨B,g1,g2,g3⟩
end
end Go.Ev
/- The engine, part DD: struct literals. -/
namespace Go.Ev
open Go.RowKit (Below)
class PlT (P:Program) (t:Nat) (pl:outParam (List (Nat×Nat))):Prop where
 ok:∃ fs,P.underlying t=some (.struct fs)/\fs.toList.mapM (fun f=>(P.info? f.type).map fun i=>(f.offset,i.size))=some pl
theorem PlT.of {P:Program}{t:Nat}{pl:List (Nat×Nat)}(h:(match P.underlying t with | some (.struct fs)=>fs.toList.mapM (fun f=>(P.info? f.type).map fun i=>(f.offset,i.size)) | _=>none)=some pl):PlT P t pl:=by
 split at h
 · rename_i fs hu;exact⟨fs,hu,h⟩
 · cases h
inductive BuildV (S:List (Nat×Slot)) (pl:List (Nat×Nat)) (dp:Bool):List (Nat×Operand)->List PV->List PV->List Nat->Prop
 | nil {cells:List PV}:BuildV S pl dp [] cells cells []
 | sc {i off n:Nat} {x:Operand} {p:PV} {r:List (Nat×Operand)} {cells cells':List PV} {ks:List Nat}:evq S x=some p->mG p=true->p.labs=[]->stB [] false p=true->pl[i]?=some (off,n)->Nat.beq (aU p).length n=true->Nat.ble (off+n) cells.length=true->
  BuildV S pl dp r (cells.take off++aU p++cells.drop (off+n)) cells' ks->BuildV S pl dp ((i,x)::r) cells cells' ks
 | tk {i off n k:Nat} {p:PV} {r:List (Nat×Operand)} {cells cells':List PV} {ks:List Nat}:lkq S k=some ⟨p,true⟩->p.labs=[]->stB [] false p=true->pl[i]?=some (off,n)->Nat.beq (aU p).length n=true->Nat.ble (off+n) cells.length=true->xB ks k=false->
  BuildV S pl dp r (cells.take off++aU p++cells.drop (off+n)) cells' ks->BuildV S pl dp ((i,.tmp k)::r) cells cells' (k::ks)
 | sh {i off n:Nat} {x:Operand} {p:PV} {r:List (Nat×Operand)} {cells cells':List PV} {ks:List Nat}:dp=false->evq S x=some p->p.labs=[]->stB [] false p=true->pl[i]?=some (off,n)->Nat.beq (aU p).length n=true->Nat.ble (off+n) cells.length=true->
  BuildV S pl dp r (cells.take off++aU p++cells.drop (off+n)) cells' ks->BuildV S pl dp ((i,x)::r) cells cells' ks
section
variable {P:Program}{N:Nat}{Γ:Ctx P N}{S:List (Nat×Slot)}{O:List (Nat×Option Ob)}{ow:Nat->Own}{β:Nat->Option (Option Nat)}{F:Env}{a:Act}{w:World}
theorem aIU {place:Nat->Option (Nat×Nat)}{cs:Array Value}{i off n:Nat}{v:Value}{rest:List (Nat×Value)}(hp:place i=some (off,n))(hv:v.cells.size=n)(hk:off+n<=cs.size) :
 Instr.fill place cs ((i,v)::rest)=Instr.fill place (cs.toList.take off++v.cells.toList++cs.toList.drop (off+n)).toArray rest:=by
 have e:v.cells.zipIdx.foldl (fun cs (c,j)=>cs.setIfInBounds (off+j) c) cs=(cs.toList.take off++v.cells.toList++cs.toList.drop (off+n)).toArray:=by
  rw[<- Array.foldl_toList,Array.toList_zipIdx]
  have hfs:=Go.Great.foldl_set off v.cells.toList 0 cs
  apply Array.ext_getElem?
  intro k
  have hl:(cs.toList.take off).length=off:=by simp;omega
  have hvl:v.cells.toList.length=n:=by simpa using hv
  rw[hfs.2 k]
  conv=>rhs;rw[List.getElem?_toArray,List.append_assoc]
  by_cases h1:k<off
  · rw[if_neg (by omega),List.getElem?_append_left (l₁:=cs.toList.take off) (by omega),List.getElem?_take,if_pos h1];simp
  · rw[List.getElem?_append_right (l₁:=cs.toList.take off) (by omega),hl]
    by_cases h2:k<off+n
    · rw[if_pos ⟨by omega,by omega,by omega⟩,List.getElem?_append_left (by omega),Nat.add_zero]
    · rw[if_neg (by omega),List.getElem?_append_right (by omega),hvl,List.getElem?_drop,show off+n+(k-off-n)=k by omega];simp
 conv=>lhs;unfold Instr.fill
 simp only[hp]
 rw[if_neg (by simp;omega),e]
theorem aHB (hsim:SimG Γ ow β F a w){pl:List (Nat×Nat)}{dp:Bool}{ps:List (Nat×Operand)}{cells cells':List PV}{ks:List Nat}(H:BuildV S pl dp ps cells cells' ks):(∀ j∈aAF ps,lk F.s j=lk S j)->
 ∀ (cs:Array Value) (B ks0:List Nat),cs.size=cells.length->RelL w.heap true dead cells cs 0 B->(∀ b∈B,Im Γ ow w b)->(dp=true->B.Nodup/\∀ b∈B,fN w b/\Γ.nw b/\∃ k∈ks0,ow b=.slot k)->(∀ k∈ks,k∉ks0)->
 ∃ cs' B',Instr.fill (fun i=>pl[i]?) cs (ps.map fun p=>(p.1,a.eval p.2))=some cs'/\cs'.size=cells'.length/\RelL w.heap true dead cells' cs' 0 B'/\(∀ b∈B',Im Γ ow w b)/\(dp=true->B'.Nodup/\∀ b∈B',fN w b/\Γ.nw b/\∃ k∈ks0++ks,ow b=.slot k):=by
 have step:∀ {i off n:Nat} {x:Operand} {p:PV} {cells:List PV} {c:Value} {Bp:List Nat} (cs:Array Value) (B:List Nat) (rest:List (Nat×Value)),RelV w.heap β p c Bp->p.labs=[]->stB [] false p=true->pl[i]?=some (off,n)->(aU p).length=n->off+n<=cells.length->cs.size=cells.length->RelL w.heap true dead cells cs 0 B->
  ∃ cs2 B1 B2 B3,B=B1++(B2++B3)/\Instr.fill (fun i=>pl[i]?) cs ((i,c)::rest)=Instr.fill (fun i=>pl[i]?) cs2 rest/\cs2.size=(cells.take off++aU p++cells.drop (off+n)).length/\RelL w.heap true dead (cells.take off++aU p++cells.drop (off+n)) cs2 0 (B1++(Bp++B3)):=by
  intro i off n x p cells c Bp cs B rest hr hl hst hpl hn hk hsz hB
  obtain⟨r1,r2,r3⟩:=rA (O:=[]) hsim hr hst (by simp[tZ,hl])
  simp only[Bool.false_eq_true,if_false]at r1
  have hcs:c.cells.size=n:=by omega
  obtain⟨B1,B2,B3,e1,e2⟩:=aBZ (k:=off) (n:=n) (xs:=c.cells.toList) hB (by simpa using r1) hn (by simpa using hcs) hk (by omega)
  refine⟨_,B1,B2,B3,e1,aIU (by exact hpl) hcs (by omega),?_,e2⟩
  simp only[List.size_toArray,List.length_append,List.length_take,List.length_drop,Array.length_toList]
  omega
 induction H with
 | nil=>intro _ cs B ks0 h1 h2 h3 h4 _;exact⟨cs,B,rfl,h1,h2,h3,fun hd=>⟨(h4 hd).1,fun b hb=>by obtain⟨q1,q2,k,q3,q4⟩:=(h4 hd).2 b hb;exact⟨q1,q2,k,by simp[q3],q4⟩⟩⟩
 | @sc i off n x p r cells cells' ks e1 e2 e3 e4 e5 e6 e7 _ ih =>
  intro hs cs B ks0 h1 h2 h3 h4 h5
  obtain⟨Bp,g1,_⟩:=cS hsim e1 (fun j hj=>hs j (by simp[aAF,hj]))
  have:=tR _ e2 g1
  subst this
  obtain⟨cs2,B1,B2,B3,q1,q2,q3,q4⟩:=step (x:=x) cs B (r.map fun p=>(p.1,a.eval p.2)) g1 e3 e4 e5 (Nat.eq_of_beq_eq_true e6) (Nat.le_of_ble_eq_true e7) h1 h2
  subst q1
  have hsub:∀ b,b∈B1++([]++B3)->b∈B1++(B2++B3):=fun b hb=>by simp only[List.nil_append,List.mem_append]at hb ⊢;rcases hb with hb | hb;exact .inl hb;exact .inr (.inr hb)
  obtain⟨cs',B',k1,k2⟩:=ih (fun j hj=>hs j (by simp[aAF,hj])) cs2 _ ks0 q3 q4 (fun b hb=>h3 b (hsub b hb)) (fun hd=>by
   obtain⟨n1,n2⟩:=h4 hd
   refine⟨?_,fun b hb=>n2 b (hsub b hb)⟩
   have n3:=List.nodup_append.1 n1
   have n4:=List.nodup_append.1 n3.2.1
   exact List.nodup_append.2 ⟨n3.1,by simpa using n4.2.1,fun x hx y hy=>n3.2.2 x hx y (by simp only[List.nil_append]at hy;simp[hy])⟩) h5
  exact⟨cs',B',by rw[List.map_cons,q2];exact k1,k2⟩
 | @tk i off n k p r cells cells' ks e1 e3 e4 e5 e6 e7 e8 _ ih =>
  intro hs cs B ks0 h1 h2 h3 h4 h5
  obtain⟨Bp,g1,g2,g3⟩:=hsim.slots k
  rw[hs k (by simp[aAF,ors]),fH e1]at g1 g3
  obtain⟨g4,g5⟩:=g3 rfl
  obtain⟨cs2,B1,B2,B3,q1,q2,q3,q4⟩:=step (x:=.tmp k) cs B (r.map fun p=>(p.1,a.eval p.2)) g1 e3 e4 e5 (Nat.eq_of_beq_eq_true e6) (Nat.le_of_ble_eq_true e7) h1 h2
  subst q1
  have hk0:k∉ks0:=h5 k (by simp)
  obtain⟨cs',B',k1,k2,k3,k4,k5⟩:=ih (fun j hj=>hs j (by simp[aAF,hj])) cs2 _ (ks0++[k]) q3 q4 (fun b hb=>by
   simp only[List.mem_append]at hb
   rcases hb with hb | hb | hb
   · exact h3 b (by simp[hb])
   · exact g2 b hb
   · exact h3 b (by simp[hb])) (fun hd=>by
   obtain⟨n1,n2⟩:=h4 hd
   have n3:=List.nodup_append.1 n1
   have n4:=List.nodup_append.1 n3.2.1
   have hne:∀ b,b∈B1++(B2++B3)->b∉Bp:=by
    intro b hb hb'
    obtain⟨_,_,k',hk',e⟩:=n2 b hb
    rw[(g5 b hb').1]at e;injection e with e;subst e;exact hk0 hk'
   refine⟨List.nodup_append.2 ⟨n3.1,List.nodup_append.2 ⟨g4,n4.2.1,fun x hx y hy e=>hne y (by simp[hy]) (e▸hx)⟩,fun x hx y hy=>?_⟩,fun b hb=>?_⟩
   · rcases List.mem_append.1 hy with hy | hy
     · intro e;exact hne x (by simp[hx]) (e▸hy)
     · exact n3.2.2 x hx y (by simp[hy])
   · simp only[List.mem_append]at hb
     have old:b∈B1++(B2++B3)->fN w b/\Γ.nw b/\∃ k'∈ks0++[k],ow b=.slot k':=fun hb=>by
      obtain⟨u1,u2,k',u3,u4⟩:=n2 b hb
      exact⟨u1,u2,k',by simp[u3],u4⟩
     rcases hb with hb | hb | hb
     · exact old (by simp[hb])
     · refine⟨(g5 b hb).2,?_,k,by simp,(g5 b hb).1⟩
       rcases(hsim.own b (by rw[(g5 b hb).1];simp)).2 with g | ⟨m,g,_⟩
       · exact g
       · rw[(g5 b hb).1]at g;cases g
     · exact old (by simp[hb])) (fun k' hk' hm=>by
   rcases List.mem_append.1 hm with hm | hm
   · exact h5 k' (by simp[hk']) hm
   · rw[List.mem_singleton]at hm;subst hm
     rw[(mX _ _).2 hk']at e8;cases e8)
  exact⟨cs',B',by rw[List.map_cons,show a.eval (.tmp k)=a.tmps.getD k undef from rfl,q2];exact k1,k2,k3,k4,fun hd=>by simpa using k5 hd⟩
 | @sh i off n x p r cells cells' ks e0 e1 e3 e4 e5 e6 e7 _ ih =>
  intro hs cs B ks0 h1 h2 h3 h4 h5
  obtain⟨Bp,g1,g2⟩:=cS hsim e1 (fun j hj=>hs j (by simp[aAF,hj]))
  obtain⟨cs2,B1,B2,B3,q1,q2,q3,q4⟩:=step (x:=x) cs B (r.map fun p=>(p.1,a.eval p.2)) g1 e3 e4 e5 (Nat.eq_of_beq_eq_true e6) (Nat.le_of_ble_eq_true e7) h1 h2
  subst q1
  obtain⟨cs',B',k1,k2⟩:=ih (fun j hj=>hs j (by simp[aAF,hj])) cs2 _ ks0 q3 q4 (fun b hb=>by
   simp only[List.mem_append]at hb
   rcases hb with hb | hb | hb
   · exact h3 b (by simp[hb])
   · exact g2 b hb
   · exact h3 b (by simp[hb])) (fun hd=>by rw[e0]at hd;cases hd) h5
  exact⟨cs',B',by rw[List.map_cons,q2];exact k1,k2⟩
variable {d:Nat}{ty:TypeId}{pos:String}{af:Array Edge}{g:Option (Nat×Bool)}
theorem aGO {t:Nat}{parts:Array (Nat×Operand)}{zs cells:List PV}{pl:List (Nat×Nat)}{ks:List Nat}(dp:Bool)[hz:ZT P t zs][hp:PlT P t pl](hb:BuildV S pl dp parts.toList zs cells ks)(hnl:mW cells=true)(hd:Nat.blt d N=true) :
 Local Γ ⟨some d,.build t parts,ty,pos,af,g⟩ ⟨S,O⟩ ⟨(d,⟨.agg cells,dp⟩)::ks.map (fun j=>(j,⟨.any,false⟩)),[]⟩ (aAF parts.toList) [] []:=by
 intro F hs _ _
 refine bD fun a w ⟨ow,β,hsim⟩=>?_
 obtain⟨it,z,z1,z2,z3,z4,rfl⟩:=hz.ok
 obtain⟨fs,p1,p2⟩:=hp.ok
 have h1c:∀ v∈z.cells.toList,v.oneCell'=true:=fun v hv=>List.all_eq_true.1 z4 v hv
 have hrel0:RelL w.heap true dead (z.cells.toList.map .sc) z.cells 0 []:=by
  have:=aCW (h:=w.heap) (β:=dead) (vs:=z.cells.toList) (pre:=[]) h1c
  simpa using this
 obtain⟨cs',B',k1,k2,k3,k4,k5⟩:=aHB hsim hb hs z.cells [] [] (by simp) hrel0 (by simp) (fun _=>⟨by simp,by simp⟩) (by simp)
 have hrun:(Instr.build t (parts.map fun(i,x)=>(i,a.eval x))).run P w=.ok (.agg cs') w:=by
  refine run_build w t _ cs' ?_
  unfold Program.built
  simp only[z1,p1,z2,p2]
  rw[<- k1]
  congr 1
  · funext i;simp
  · simp
 have hrel:RelV w.heap β (.agg cells) (.agg cs') B':=by
  simp only[RelV]
  exact⟨cs',rfl,k2,tN (mV hnl) k3⟩
 obtain⟨ow',h'⟩:=hsim.gather ((aO _ _).1 hd) ks hrel k4 (fun hx=>⟨(k5 hx).1,fun b hb=>by
  obtain⟨q1,q2,k,q3,q4⟩:=(k5 hx).2 b hb
  exact⟨q1,q2,.inr ⟨k,by simpa using q3,q4⟩⟩⟩) (dp:=dp)
 refine⟨.agg cs',w,?_,ow',β,h'⟩
 simp only[execOp]
 rw[Sem.run_bind,hrun]
 rfl
end
end Go.Ev
/- The engine, part EE: softening, more. -/
namespace Go.Ev
open Go.RowKit (Below)
theorem Soft.nilW {s:Nat}:Soft (.sc (.slice none 0 0)) (.rw s 0 []):=by
 intro h β c B H
 simp only[RelV]at H ⊢
 exact .inl ⟨trivial,trivial,H.2,H.1⟩
theorem Soft.nilS:Soft (.sc (.slice none 0 0)) (.sl 0 []):=by
 intro h β c B H
 simp only[RelV]at H ⊢
 exact .inl ⟨trivial,trivial,H.2,none,0,H.1⟩
section
variable {P:Program}{N:Nat}{Γ:Ctx P N}{S:List (Nat×Slot)}{O:List (Nat×Option Ob)}{ow:Nat->Own}{β:Nat->Option (Option Nat)}{F:Env}{a:Act}{w:World}
theorem Local.softO {o:Oper}{l:Nat}{ss:List (Nat×Slot)}{cells cells':List PV}{dp bx:Bool}{rs ro nl:List Nat}(hs:SoftL cells cells')(h:Local Γ o ⟨S,O⟩ ⟨ss,[(l,some ⟨cells,dp,bx⟩)]⟩ rs ro nl):Local Γ o ⟨S,O⟩ ⟨ss,[(l,some ⟨cells',dp,bx⟩)]⟩ rs ro nl:=by
 intro F h1 h2 h3 a w hsim Q
 refine Oper.wp_mono ?_ (h F h1 h2 h3 a w hsim Q)
 rintro a' w' ⟨ow,β,h'⟩
 refine⟨ow,β,{ size:=h'.size,defers:=h'.defers,kept:=h'.kept,slots:=h'.slots,objs:=fun m ob hm=>?_,gone:=fun m hm=>?_,own:=h'.own,ios:=fun m b hm hx=>?_,fresh:=h'.fresh }⟩
 · simp only[Env.app,List.cons_append,List.nil_append,aN]at hm
   by_cases hml:l=m
   · subst hml
     rw[if_pos rfl]at hm;cases hm
     obtain⟨B,o1,o2,o3⟩:=h'.objs l ⟨cells,dp,bx⟩ (by simp[Env.app,aN])
     refine⟨B,o1,o2,o3.imp (fun⟨e1,e2,e3⟩=>⟨e1,by simp only at e2 ⊢;subst e2;exact hs.empty,e3⟩) fun⟨b,cs,t,e1,e2,e3,e4⟩=>⟨b,cs,t,e1,e2,e3,hs.2 _ _ _ _ _ _ e4⟩⟩
   · rw[if_neg hml]at hm
     exact h'.objs m ob (by simp only[Env.app,List.cons_append,List.nil_append,aN];rw[if_neg hml];exact hm)
 · simp only[Env.app,List.cons_append,List.nil_append,aN]at hm
   by_cases hml:l=m
   · rw[if_pos hml]at hm;cases hm
   · rw[if_neg hml]at hm
     exact h'.gone m (by simp only[Env.app,List.cons_append,List.nil_append,aN];rw[if_neg hml];exact hm)
 · refine h'.ios m b hm ?_
   simp only[Env.app,List.cons_append,List.nil_append,aN]at hx ⊢
   by_cases hml:l=m
   · rw[if_pos hml];rfl
   · rw[if_neg hml]at hx ⊢;exact hx
end
end Go.Ev
/- The engine, part FF: values handed in for good: their blocks may go into the result. -/
namespace Go.Ev
open Go.RowKit (Below)
def DArgs (h:Array Obj)(ok:Nat->Prop)(H:Nat->List Nat):List (PV×Bool)->List Value->Nat->Prop
 | [],[],_=>True
 | (p,false)::ps,c::cs,k=>(∃ B,RelV h dead p c B/\∀ b∈B,ok b)/\DArgs h ok H ps cs (k+1)
 | (p,true)::ps,c::cs,k=>RelV h dead p c (H k)/\DArgs h ok H ps cs (k+1)
 | _,_,_=>False
def MeetsD (P:Program)(f:FuncId)(args:List (PV×Bool))(r:PV):Prop :=
 ∀ (w:World) (cargs:Array Value) (ok:Nat->Prop) (H:Nat->List Nat),DArgs w.heap ok H args cargs.toList 0->(∀ k,(H k).Nodup/\∀ b∈H k,¬ok b/\fN w b)->(∀ k k' b,b∈H k->b∈H k'->k=k')->
  Calls P f cargs w fun e w'=>∃ c B,e=.returned c/\Below w.heap.size w w'/\RelV w'.heap dead r c B/\B.Nodup/\∀ b∈B,fN w' b/\(w.heap.size<=b\/∃ k,b∈H k)
theorem DArgs.get {h:Array Obj}{ok:Nat->Prop}{H:Nat->List Nat}:∀ {ps:List (PV×Bool)} {cs:List Value} {k0:Nat},DArgs h ok H ps cs k0->ps.length=cs.length/\∀ k p dp,ps[k]?=some (p,dp)->∃ B,RelV h dead p (cs.getD k undef) B/\(dp=false->∀ b∈B,ok b)/\(dp=true->B=H (k0+k))
 | [],[],_,_=>⟨rfl,fun k p dp h=>by simp at h⟩
 | (p,false)::ps,c::cs,k0,h=>by
  obtain⟨⟨B,h1,h2⟩,h3⟩:=h
  obtain⟨g1,g2⟩:=DArgs.get h3
  refine⟨by simp[g1],fun k p' dp hk=>?_⟩
  cases k with
  | zero=>simp at hk;obtain⟨rfl,rfl⟩:=hk;exact⟨B,by simpa using h1,fun _=>h2,fun h=>by cases h⟩
  | succ k=>obtain⟨B',q1,q2,q3⟩:=g2 k p' dp (by simpa using hk);exact⟨B',by simpa using q1,q2,fun h=>by rw[q3 h];congr 1;omega⟩
 | (p,true)::ps,c::cs,k0,h=>by
  obtain⟨h1,h3⟩:=h
  obtain⟨g1,g2⟩:=DArgs.get h3
  refine⟨by simp[g1],fun k p' dp hk=>?_⟩
  cases k with
  | zero=>simp at hk;obtain⟨rfl,rfl⟩:=hk;exact⟨H k0,by simpa using h1,(fun h=>by cases h),fun _=>rfl⟩
  | succ k=>obtain⟨B',q1,q2,q3⟩:=g2 k p' dp (by simpa using hk);exact⟨B',by simpa using q1,q2,fun h=>by rw[q3 h];congr 1;omega⟩
 | [],_::_,_,h=>h.elim
 | (_,false)::_,[],_,h=>h.elim
 | (_,true)::_,[],_,h=>h.elim
end Go.Ev
/- The engine, part GG: functions that write all that an own value holds. -/
namespace Go.Ev
open Go.RowKit (Below)
theorem aLf {w:World}{b:Nat}(h:fN w b):b<w.heap.size:=by
 obtain⟨cs,t,g⟩:=h
 rcases Nat.lt_or_ge b w.heap.size with h | h
 · exact h
 · simp[Array.getElem?_eq_none h]at g
def slp:PV->PV
 | .was v _=>.sc v
 | p=>p
def stp:PV->PV
 | .was _ p=>p
 | p=>p
def rew:List PV->List PV->List PV
 | .was v _::ws,p::ps=>.was v p::rew ws ps
 | _::ws,p::ps=>p::rew ws ps
 | _,_=>[]
def aBP:List PV->Bool
 | []=>true
 | .was _ _::r=>aBP r
 | _=>false
inductive MCut:List PV->PV->PV->PV->List PV->Prop
 | one {v:Value} {p p':PV}:MCut [.was v p] (.sc v) p p' [.was v p']
 | agg {ws ns:List PV}:aBP ws=true->Nat.beq ns.length ws.length=true->MCut ws (.agg (ws.map slp)) (.agg (ws.map stp)) (.agg ns) (rew ws ns)
section
variable {P:Program}{N:Nat}{Γ:Ctx P N}{S:List (Nat×Slot)}{O:List (Nat×Option Ob)}{ow:Nat->Own}{β:Nat->Option (Option Nat)}{F:Env}{a:Act}{w:World}
theorem Soft.was {v:Value}{p:PV}:Soft (.was v p) p:=by
 intro h β c B H
 simp only[RelV]at H
 exact H.2
variable {d:Nat}{ty:TypeId}{pos:String}{af:Array Edge}{g:Option (Nat×Bool)}
end
end Go.Ev
/- The engine, part HH: cells made known, values forgotten; functions that write what a struct holds. -/
namespace Go.Ev
open Go.RowKit (Below)
def Forg (p p':PV):Prop:=∀ (h:Array Obj) (β:Nat->Option (Option Nat)) (c:Value) (B:List Nat),RelV h β p c B->RelV h β p' c []
theorem Forg.was {v:Value}{p:PV}:Forg (.was v p) (.sc v):=by
 intro h β c B H
 simp only[RelV]at H ⊢
 exact⟨H.1,trivial⟩
theorem aLM {h:Array Obj}{q:Bool}{β:Nat->Option (Option Nat)}:∀ {ws:List PV} {cs:Array Value} {i:Nat} {O:List Nat},aBP ws=true->RelL h q β ws cs i O->RelL h q β (ws.map slp) cs i []
 | [],_,_,_,_,_=>by simp[RelL]
 | p::ws,cs,i,O,ha,H=>by
  cases p with
  | was v p =>
   simp only[List.map_cons,slp,RelL,RelV]at H ⊢
   obtain⟨c,O1,O2,h1,h2,h3,_⟩:=H
   exact⟨c,[],[],h1,⟨h2.1,rfl⟩,aLM (by simpa [aBP]using ha) h3,rfl⟩
  | _=>simp[aBP]at ha
theorem Forg.agg {ws:List PV}(ha:aBP ws=true):Forg (.agg ws) (.agg (ws.map slp)):=by
 intro h β c B H
 simp only[RelV]at H ⊢
 obtain⟨cs,h1,h2,h3⟩:=H
 exact⟨cs,h1,by simpa using h2,aLM ha h3⟩
section
variable {P:Program}{N:Nat}{Γ:Ctx P N}{S:List (Nat×Slot)}{O:List (Nat×Option Ob)}{ow:Nat->Own}{β:Nat->Option (Option Nat)}{F:Env}{a:Act}{w:World}
theorem SimG.recell (h:SimG Γ ow β ⟨S,O⟩ a w){l:Nat}{cells cells':List PV}{dp bx:Bool}(ho:loq O l=some ⟨cells,dp,bx⟩)(hne:cells≠[])
 (hr:∀ cs B,RelL w.heap true (if bx then β else dead) cells cs 0 B->RelL w.heap true (if bx then β else dead) cells' cs 0 B):SimG Γ ow β ⟨S,(l,some ⟨cells',dp,bx⟩)::O⟩ a w:=by
 have ho':lo (Env.mk S O).o l=some ⟨cells,dp,bx⟩:=by rw[<- cR];exact ho
 refine { size:=h.size,defers:=h.defers,kept:=h.kept,slots:=h.slots,objs:=fun m ob hm=>?_,gone:=fun m hm=>?_,own:=h.own,ios:=fun m b hm hs=>?_,fresh:=h.fresh }
 · simp only[aN]at hm
   by_cases hml:l=m
   · subst hml
     rw[if_pos rfl]at hm;cases hm
     obtain⟨B,o1,o2,o3⟩:=h.objs l _ ho'
     refine⟨B,o1,o2,?_⟩
     rcases o3 with⟨_,e2,_⟩ | ⟨b,cs,t,e1,e2,e3,e4⟩
     · exact absurd e2 hne
     · exact .inr ⟨b,cs,t,e1,e2,e3,hr _ _ e4⟩
   · rw[if_neg hml]at hm;exact h.objs m ob hm
 · simp only[aN]at hm
   by_cases hml:l=m
   · rw[if_pos hml]at hm;cases hm
   · rw[if_neg hml]at hm;exact h.gone m hm
 · simp only[aN]at hs
   by_cases hml:l=m
   · subst hml;exact h.ios l b hm (by rw[ho'];rfl)
   · rw[if_neg hml]at hs;exact h.ios m b hm hs
def RetM (Γ:Ctx P N)(rs:Array ResultVar)(E:Env)(k':Value)(ws:List PV):Prop :=
 RetIs Γ rs E (.sc k') true/\∀ a w,Sim Γ E a w->∃ E' l,Sim Γ E' a w/\lo E'.o l=some ⟨ws,true,false⟩
theorem RetM.mk {rs:Array ResultVar}{k':Value}{ws:List PV}(l:Nat)(h:RetIs Γ rs ⟨S,O⟩ (.sc k') true)(ho:loq O l=some ⟨ws,true,false⟩):RetM Γ rs ⟨S,O⟩ k' ws:=⟨h,fun _ _ hs=>⟨_,l,hs,by rw[<- cR];exact ho⟩⟩
end
end Go.Ev
namespace Go.Ev
section
variable {α β:Type}
end
end Go.Ev
/- The engine, part II: laws that write what they have made: parameters that sleep. -/
namespace Go.Ev
open Go.RowKit (Below)
section
variable {P:Program}{N:Nat}{Γ:Ctx P N}{S:List (Nat×Slot)}{O:List (Nat×Option Ob)}{ow:Nat->Own}{β:Nat->Option (Option Nat)}{F:Env}{a:Act}{w:World}
def OldL (Γ:Ctx P N):List Value->List PV->Prop
 | v::vs,p::ps=>aMB Γ v p/\OldL Γ vs ps
 | [],[]=>True
 | _,_=>False
theorem OldL.of {Γ:Ctx P N}(hB:∀ b,Γ.ok b->b<Γ.base->True):∀ {ps:List PV} {vs:List Value} {cs:Array Value} {i:Nat} {B:List Nat},vs.length=ps.length->(∀ k,k<vs.length->cs[i+k]?=vs[k]?)->mW ps=true->RelL Γ.w0.heap true dead ps cs i B->(∀ b∈B,Γ.ok b/\b<Γ.base/\(¬Γ.mine b/\¬Γ.lent b)/\∀ l,Γ.io l≠some b)->OldL Γ vs ps
 | [],[],_,_,_,_,_,_,_,_=>trivial
 | p::ps,v::vs,cs,i,B,hl,hk,hn,H,hb=>by
  simp only[RelL]at H
  obtain⟨c,O1,O2,h1,h2,h3,rfl⟩:=H
  have h0:=hk 0 (by simp)
  simp only[Nat.add_zero,List.getElem?_cons_zero]at h0
  rw[h1.1]at h0;injection h0 with h0
  subst h0
  refine⟨⟨mV hn p (by simp),O1,h2,fun b hb'=>hb b (by simp[hb'])⟩,?_⟩
  refine OldL.of hB (by simpa using hl) (fun k hk'=>?_) ?_ h3 (fun b hb'=>hb b (by simp[hb']))
  · have:=hk (k+1) (by simpa using hk')
    rw[show i+1+k=i+(k+1)by omega,this];simp
  · simp only[mW,Bool.and_eq_true]at hn;exact hn.2
 | [],_::_,_,_,_,hl,_,_,_,_=>by simp at hl
 | _::_,[],_,_,_,hl,_,_,_,_=>by simp at hl
end
end Go.Ev
/- The engine, part JJ: rows that become values as they are made. -/
namespace Go.Ev
open Go.RowKit (Below)
section
variable {P:Program}{N:Nat}{Γ:Ctx P N}{S:List (Nat×Slot)}{O:List (Nat×Option Ob)}{ow:Nat->Own}{β:Nat->Option (Option Nat)}{F:Env}{a:Act}{w:World}
theorem Ent.freezeW {k l s n:Nat}{cells:List PV}{dp dp0:Bool}(hk:lkq S k=some ⟨.ref l s 0 n,dp0⟩)(ho:loq O l=some ⟨cells,dp,false⟩)(hio:Γ.io l=none)(hN:Nat.blt k N=true) :
 Ent Γ ⟨S,O⟩ ⟨(k,⟨.rw s n cells,dp⟩)::S,(l,none)::O⟩:=by
 rintro a w ⟨ow,β,h⟩
 obtain⟨B,h1,_,_⟩:=h.slots k
 rw[fH hk]at h1
 simp only[RelV]at h1
 have ho':lo (Env.mk S O).o l=some ⟨cells,dp,false⟩:=by rw[<- cR];exact ho
 obtain⟨Bo,o1,o2,hob⟩:=h.objs l _ ho'
 have hkN:=(aO _ _).1 hN
 rcases hob with⟨p1,p2,p3⟩ | ⟨b,cs,t,p1,p2,p3,p4⟩
 · obtain⟨rfl,_,e⟩:=h1.2.1 p1
   simp only at p2;subst p2;subst p3
   obtain⟨ow',h'⟩:=h.toSlot ho' hio hkN (v:=.rw s 0 []) (c:=a.tmps.getD k undef) (B:=[]) (dp:=dp) (by simp only[RelV];exact .inl ⟨trivial,trivial,trivial,e⟩) (by simp) (by simp) rfl
   rw[aAZ]at h'
   exact⟨_,_,h'⟩
 · obtain⟨cap,cs',t',q1,q2,q3,q4⟩:=h1.2.2 b p1
   simp only[Nat.zero_mul]at q1
   rw[p3]at q2;cases q2
   obtain⟨ow',h'⟩:=h.toSlot ho' hio hkN (v:=.rw s n cells) (c:=a.tmps.getD k undef) (B:=b::Bo) (dp:=dp) (by
    simp only[RelV];exact .inr ⟨b,cap,cs,t,Bo,⟨q1,q4,by simpa using q3⟩,p3,p4,rfl⟩) (fun c hc=>by
    rcases List.mem_cons.1 hc with rfl | hc
    · exact .inr p2
    · exact .inl (o1 c hc)) (fun hx=>by
    obtain⟨e1,e2⟩:=o2 hx
    refine⟨List.nodup_cons.2 ⟨fun hb=>(by have:=(e2 b hb).1;rw[p2]at this;cases this),e1⟩,fun c hc=>?_⟩
    rcases List.mem_cons.1 hc with rfl | hc
    · exact⟨.inr p2,_,_,p3⟩
    · exact⟨.inl (e2 c hc).1,(e2 c hc).2⟩) rfl
   rw[aAZ]at h'
   exact⟨_,_,h'⟩
theorem aH9 {s S:List (Nat×Slot)}{k:Nat}{v:Slot}(h:lkq s k=some v):lkq (s++S) k=some v:=by
 induction s with
 | nil=>cases h
 | cons x r ih =>
  obtain⟨j,u⟩:=x
  simp only[lkq,List.cons_append]at h ⊢
  cases hb:Nat.beq j k with
  | true=>rw[hb]at h;exact h
  | false=>rw[hb]at h;exact ih h
theorem aH8 {s S:List (Nat×Option Ob)}{k:Nat}{v:Ob}(h:loq s k=some v):loq (s++S) k=some v:=by
 induction s with
 | nil=>cases h
 | cons x r ih =>
  obtain⟨j,u⟩:=x
  simp only[loq,List.cons_append]at h ⊢
  cases hb:Nat.beq j k with
  | true=>rw[hb]at h;exact h
  | false=>rw[hb]at h;exact ih h
theorem Local.frz {o:Oper}{ss:List (Nat×Slot)}{us:List (Nat×Option Ob)}{rs ro nl:List Nat}(k:Nat){l s n:Nat}{cells:List PV}{dp dp0:Bool}(h:Local Γ o ⟨S,O⟩ ⟨ss,us⟩ rs ro nl)(hk:lkq ss k=some ⟨.ref l s 0 n,dp0⟩)(ho:loq us l=some ⟨cells,dp,false⟩)
 (hio:Γ.io l=none) (hN:Nat.blt k N=true):Local Γ o ⟨S,O⟩ ⟨(k,⟨.rw s n cells,dp⟩)::ss,(l,none)::us⟩ rs ro nl:=by
 intro F h1 h2 h3 a w hsim Q
 exact Oper.wp_mono (fun a' w' h'=>Ent.freezeW (aH9 hk) (aH8 ho) hio hN a' w' h') (h F h1 h2 h3 a w hsim Q)
theorem Local.frzS {o:Oper}{ss:List (Nat×Slot)}{us:List (Nat×Option Ob)}{rs ro nl:List Nat}(k:Nat){l s n:Nat}{cells:List PV}{dp dp0:Bool}(h:Local Γ o ⟨S,O⟩ ⟨ss,us⟩ rs ro nl)(hk:lkq ss k=some ⟨.ref l s 0 n,dp0⟩)(ho:loq us l=some ⟨cells,dp,false⟩)
 (hio:Γ.io l=none) (hN:Nat.blt k N=true):Local Γ o ⟨S,O⟩ ⟨(k,⟨.sl n cells,dp⟩)::ss,(l,none)::us⟩ rs ro nl:=by
 intro F h1 h2 h3 a w hsim Q
 exact Oper.wp_mono (fun a' w' h'=>Ent.freeze (aH9 hk) (aH8 ho) hio hN a' w' h') (h F h1 h2 h3 a w hsim Q)
end
end Go.Ev
/- The engine, part KK: a law's rest, begun anew: what there is by then is old. -/
namespace Go.Ev
open Go.RowKit (Below)
section
variable {P:Program}{N:Nat}{Γ:Ctx P N}{S:List (Nat×Slot)}{O:List (Nat×Option Ob)}
end
end Go.Ev
/- The engine, part LL: rows that grow within a struct. -/
namespace Go.Ev
open Go.RowKit (Below)
section
variable {P:Program}{N:Nat}{Γ:Ctx P N}{S:List (Nat×Slot)}{O:List (Nat×Option Ob)}
theorem Ent.nilCell (l L c s:Nat){cells:List PV}{dp:Bool}(ho:loq O l=some ⟨cells,dp,true⟩)(hc:cells[c]?=some (.sc (.slice none 0 0)))(hL:qI ⟨S,O⟩ L=false)(hne:Nat.beq l L=false)(hio:Γ.io L=none) :
 Ent Γ ⟨S,O⟩ ⟨S,(l,some ⟨cells.set c (.ref L s 0 0),dp,true⟩)::(L,some ⟨[],true,false⟩)::O⟩:=by
 rintro a w ⟨ow,β,h⟩
 have hnl:=NoLab.of_says hL
 have hne:L≠l:=by rintro rfl;simp at hne
 obtain⟨ow',h'⟩:=h.layNil hnl hio [] [] true false
 have h2:SimG Γ ow' (fun m=>if m=L then some none else if m∈([]:List Nat)then none else β m) ⟨S,(L,some ⟨[],true,false⟩)::O⟩ a w:=h'.congr (fun _=>rfl) (fun _=>rfl)
 have ho2:loq ((L,some ⟨[],true,false⟩)::O) l=some ⟨cells,dp,true⟩:=by
  simp only[loq,nY,hne,decide_false,cond_false];exact ho
 refine⟨ow',_,h2.recell ho2 (by rintro rfl;simp at hc) fun cs B H=>?_⟩
 simp only[if_true]at H ⊢
 obtain⟨v,O1,Oc,O2,q1,q2,q3,q4,q5,rfl⟩:=H.at hc
 simp only[RelV]at q3
 obtain⟨q3,rfl⟩:=q3
 exact RelL.put hc q1 q2 (by simp only[RelV,if_true];exact⟨trivial,fun _=>⟨trivial,trivial,q3⟩,fun b e=>by simp at e⟩) q4 q5
theorem Ent.packS (l L c:Nat){s n:Nat}{cells cs':List PV}{dl dL:Bool}(ho:loq O l=some ⟨cells,dl,true⟩)(hL:loq O L=some ⟨cs',dL,false⟩)(hc:cells[c]?=some (.ref L s 0 n))(hne:Nat.beq l L=false)(hio:Γ.io L=none) :
 Ent Γ ⟨S,O⟩ ⟨S,(L,none)::(l,some ⟨cells.set c (.sl n cs'),false,true⟩)::O⟩:=by
 classical
 rintro a w ⟨ow,β,h⟩
 have hne:l≠L:=by rintro rfl;simp at hne
 have ho':lo (Env.mk S O).o l=some ⟨cells,dl,true⟩:=by rw[<- cR];exact ho
 have hL':lo (Env.mk S O).o L=some ⟨cs',dL,false⟩:=by rw[<- cR];exact hL
 obtain⟨Ol,o1,o2,o3⟩:=h.objs l _ ho'
 obtain⟨OL,u1,u2,u3⟩:=h.objs L _ hL'
 rcases o3 with⟨_,e,_⟩ | ⟨b0,cs,t,p1,p2,p3,p4⟩
 · simp only at e;subst e;simp at hc
 simp only[if_true]at p4
 obtain⟨v,O1,Oc,O2,q1,q2,q3,q4,q5,rfl⟩:=p4.at hc
 simp only[RelV]at q3
 obtain⟨rfl,q3n,q3s⟩:=q3
 have hrow:∃ (o:Option Nat),β L=some o/\RelV w.heap dead (.sl n cs') v (o.toList++OL)/\∀ b,o=some b->ow b=.lab L/\b<w.heap.size/\Γ.nw b:=by
  rcases u3 with⟨e1,e2,e3⟩ | ⟨b,cs2,t2,e1,e2,e3,e4⟩
  · refine⟨none,e1,?_,by simp⟩
    obtain⟨g1,g2,g3⟩:=q3n e1
    simp only at e2;subst e2;subst e3
    simp only[RelV]
    exact .inl ⟨g1,trivial,by simp,none,0,g3⟩
  · refine⟨some b,e1,?_,fun b' e=>by cases e;exact⟨e2,h.block_lt e1,.inl (h.fresh L b e1 hio)⟩⟩
    obtain⟨cap,cs3,t3,g1,g2,g3,g4⟩:=q3s b e1
    rw[e3]at g2;cases g2
    simp only[RelV]
    exact .inr ⟨b,0,cap,cs2,t2,(0,0),OL,⟨by simpa using g1,g4⟩,e3,by simpa using e4,by simp⟩
 obtain⟨o,hβo,hrel,hob⟩:=hrow
 let ow':Nat->Own:=fun b=>match ow b with
  | .lab m=>if m=L then .none else .lab m
  | .obj m=>if m=L then .none else .obj m
  | x=>x
 let β':Nat->Option (Option Nat):=fun m=>if m=L then none else β m
 have hβ':∀ m,m≠L->β' m=β m:=fun m hm=>by show(if _ then _ else _)=_;rw[if_neg hm]
 have hβ'L:β' L=none:=by show(if _ then _ else _)=_;rw[if_pos rfl]
 have hlab:∀ b m,ow' b=.lab m->ow b=.lab m/\m≠L:=by
  intro b m e
  have e:(match ow b with | .lab m=>if m=L then Own.none else .lab m | .obj m=>if m=L then .none else .obj m | x=>x)=.lab m:=e
  cases hx:ow b with
  | lab m' =>
   rw[hx]at e;simp only at e
   split at e
   · cases e
   · rename_i hm;cases e;exact⟨rfl,hm⟩
  | obj m'=>rw[hx]at e;simp only at e;split at e <;> cases e
  | slot k=>rw[hx]at e;cases e
  | none=>rw[hx]at e;cases e
 have hkeepow:∀ b x,ow b=x->x≠.lab L->x≠.obj L->ow' b=x:=by
  intro b x e h1 h2
  show(match ow b with | .lab m=>if m=L then Own.none else .lab m | .obj m=>if m=L then .none else .obj m | x=>x)=x
  rw[e]
  cases x with
  | lab m=>simp only;rw[if_neg (fun e=>h1 (by rw[e]))]
  | obj m=>simp only;rw[if_neg (fun e=>h2 (by rw[e]))]
  | slot k=>rfl
  | none=>rfl
 have hIm:∀ b,Im Γ ow w b->Im Γ ow' w b:=fun b ⟨h1,h2,h3⟩=>⟨h1,h2,fun m e=>h3 m (hlab b m e).1⟩
 have hkeep:∀ m,KeepB w.heap w.heap β β' m:=by
  intro m ob e
  by_cases hm:m=L
  · rw[hm,hβ'L]at e;cases e
  · rw[hβ' m hm]at e;exact⟨e,fun b _ c t hc=>⟨c,hc,rfl⟩⟩
 refine⟨ow',β',{ size:=h.size,defers:=h.defers,kept:=h.kept,slots:=fun k=>?_,objs:=fun m ob hm=>?_,gone:=fun m hm=>?_,own:=fun b hb=>?_,ios:=fun m b hm hs=>?_,fresh:=fun m b hm hi=>?_ }⟩
 · obtain⟨B,g1,g2,g3⟩:=h.slots k
   exact⟨B,RelV.keep _ _ _ (fun m _=>hkeep m) (fun _ _=>rfl) g1,fun b hb=>hIm b (g2 b hb),fun hd=>⟨(g3 hd).1,fun b hb=>⟨hkeepow b _ ((g3 hd).2 b hb).1 (by simp) (by simp),((g3 hd).2 b hb).2⟩⟩⟩
 · simp only[aN]at hm
   by_cases hmL:L=m
   · rw[if_pos hmL]at hm;cases hm
   · rw[if_neg hmL]at hm
     by_cases hml:l=m
     · subst hml
       rw[if_pos rfl]at hm;cases hm
       refine⟨O1++((o.toList++OL)++O2),fun b hb=>?_,(fun h=>by cases h),.inr ⟨b0,cs,t,by rw[hβ' l hne];exact p1,hkeepow b0 _ p2 (fun e=>by injection e with e;exact hne e) (by simp),p3,?_⟩⟩
       · simp only[List.mem_append]at hb
         rcases hb with hb | (hb | hb) | hb
         · exact hIm b (o1 b (by simp[hb]))
         · have e:o=some b:=by simpa using hb
           obtain⟨g1,g2,g3⟩:=hob b e
           refine⟨g2,.inr g3,fun m e'=>?_⟩
           obtain⟨e1,e2⟩:=hlab b m e'
           rw[g1]at e1;injection e1 with e1;exact e2 e1.symm
         · exact hIm b (u1 b hb)
         · exact hIm b (o1 b (by simp[hb]))
       · simp only[if_true]
         refine RelL.put hc q1 q2 (RelV.nolab rfl hrel) ?_ ?_
         · exact RelL.keep _ _ _ _ (fun _ _ m _=>hkeep m) (fun _ _=>rfl) q4
         · exact RelL.keep _ _ _ _ (fun _ _ m _=>hkeep m) (fun _ _=>rfl) q5
     · rw[if_neg hml]at hm
       obtain⟨B,g1,g2,g3⟩:=h.objs m ob hm
       refine⟨B,fun b hb=>hIm b (g1 b hb),fun hd=>⟨(g2 hd).1,fun b hb=>⟨hkeepow b _ ((g2 hd).2 b hb).1 (by simp) (fun e=>by injection e with e;exact hmL e.symm),((g2 hd).2 b hb).2⟩⟩,?_⟩
       rcases g3 with⟨e1,e2,e3⟩ | ⟨b,c1,t1,e1,e2,e3,e4⟩
       · exact .inl ⟨by rw[hβ' m (fun e=>hmL e.symm)];exact e1,e2,e3⟩
       · refine .inr ⟨b,c1,t1,by rw[hβ' m (fun e=>hmL e.symm)];exact e1,hkeepow b _ e2 (fun e=>by injection e with e;exact hmL e.symm) (by simp),e3,?_⟩
         cases hbb:ob.box with
         | false=>rw[hbb]at e4;exact e4
         | true=>rw[hbb]at e4;exact RelL.keep _ _ _ _ (fun _ _ m' _=>hkeep m') (fun _ _=>rfl) e4
 · simp only[aN]at hm
   by_cases hmL:L=m
   · rw[<- hmL];exact hβ'L
   · rw[if_neg hmL]at hm
     by_cases hml:l=m
     · rw[if_pos hml]at hm;cases hm
     · rw[if_neg hml]at hm;rw[hβ' m (fun e=>hmL e.symm)];exact h.gone m hm
 · have hb0:ow b≠.none:=by
    intro e;apply hb
    show(match ow b with | .lab m=>if m=L then Own.none else .lab m | .obj m=>if m=L then .none else .obj m | x=>x)=_
    rw[e]
   obtain⟨g1,g2⟩:=h.own b hb0
   refine⟨g1,g2.imp id fun⟨m,g3,g4⟩=>⟨m,hkeepow b _ g3 (fun e=>by injection e with e;subst e;rw[hio]at g4;cases g4) (by simp),g4⟩⟩
 · have hmL:m≠L:=fun e=>by rw[e,hio]at hm;cases hm
   rw[hβ' m hmL]
   refine h.ios m b hm ?_
   simp only[aN]at hs
   rw[if_neg (fun e=>hmL e.symm)]at hs
   by_cases hml:l=m
   · subst hml;rw[ho'];rfl
   · rw[if_neg hml]at hs;exact hs
 · by_cases hmL:m=L
   · subst hmL;rw[hβ'L]at hm;cases hm
   · rw[hβ' m hmL]at hm;exact h.fresh m b hm hi
theorem Ent.relenO (l c:Nat){L s0 n n':Nat}{cells:List PV}{dp bx:Bool}(ho:loq O l=some ⟨cells,dp,bx⟩)(hc:cells[c]?=some (.ref L s0 0 n))(hn:n=n'):Ent Γ ⟨S,O⟩ ⟨S,(l,some ⟨cells.set c (.ref L s0 0 n'),dp,bx⟩)::O⟩:=by
 subst hn
 have e:cells.set c (.ref L s0 0 n)=cells:=by
  have hl:=(List.getElem?_eq_some_iff.1 hc)
  rw[<- hl.2];exact List.set_getElem_self hl.1
 rw[e]
 exact Ent.soften ho (SoftL.refl _)
end
end Go.Ev
/- The engine, part MM: values handed over for good. -/
namespace Go.Ev
open Go.RowKit (Below)
def aAa:List (PV×Bool)->Nat->List (Nat×Slot)
 | [],_=>[]
 | (p,dp)::r,k=>(k,⟨p,dp⟩)::aAa r (k+1)
theorem aDJ:∀ (ps:List (PV×Bool)) (i k:Nat),lk (aAa ps i) k=if i<=k/\k-i<ps.length then⟨(ps.getD (k-i) (.any,false)).1,(ps.getD (k-i) (.any,false)).2⟩else⟨.any,false⟩
 | [],i,k=>by simp[aAa,lk]
 | (p,dp)::r,i,k=>by
  rw[aAa,fJ,aDJ r (i+1) k]
  by_cases h:i=k
  · subst h;simp
  · rw[if_neg h]
    by_cases h2:i+1<=k/\k-(i+1)<r.length
    · rw[if_pos h2,if_pos (by simp;omega)]
      have:k-i=(k-(i+1))+1:=by omega
      rw[this];simp
    · rw[if_neg h2,if_neg (by simp;omega)]
theorem MeetsD.intro {P:Program}{N:Nat}{f:FuncId}{fn:Func}{c:Code}{args:List (PV×Bool)}{r:PV}{rs:Array ResultVar}(hf:P.funcs[f]?=some fn)(hb:fn.body=some c)(hN:fn.ntmps=N)(hrs:fn.results=rs)(hn:Nat.ble args.length N=true)
 (h:∀ Γ:Ctx P N,(∀ l,Nat.blt l 100000=true->Γ.io l=none)->CodeT Γ c ⟨aAa args 0,[]⟩ (aAg Γ rs r true)):MeetsD P f args r:=by
 classical
 intro w cargs ok H ha hH hdis
 obtain⟨h1,h2⟩:=ha.get
 have hn:=Nat.le_of_ble_eq_true hn
 let Γ:Ctx P N:={ base:=w.heap.size,ok:=ok,io:=fun _=>none,w0:=w,mine:=fun _=>False,lent:=fun b=>∃ k,b∈H k }
 have hsz:(cargs++Array.replicate (fn.ntmps-cargs.size) undef).size=N:=by
  have:cargs.size=args.length:=by rw[h1];simp
  simp[this,hN];omega
 refine calls_of_wp hf hb ?_
 let ow:Nat->Own:=fun b=>if hh:∃ k,b∈H k then .slot hh.choose else .none
 have how:∀ b k,b∈H k->ow b=.slot k:=by
  intro b k e
  have hh:∃ k,b∈H k:=⟨k,e⟩
  show(if hh:_ then _ else _)=_
  rw[dif_pos hh,hdis _ _ b hh.choose_spec e]
 have hnl:∀ b l,ow b≠.lab l:=by
  intro b l e
  have e:(if hh:∃ k,b∈H k then Own.slot hh.choose else .none)=.lab l:=e
  split at e <;> cases e
 have hsim:Sim Γ ⟨aAa args 0,[]⟩ { tmps:=cargs++Array.replicate (fn.ntmps-cargs.size) undef,defers:=[] } w:=by
  refine⟨ow,fun _=>none,{ size:=hsz,defers:=rfl,kept:=⟨rfl,rfl,rfl,Nat.le_refl _,fun _ _ _ _=>rfl,fun b _ _ cs t h=>⟨cs,h,rfl⟩⟩,slots:=fun k=>?_,objs:=fun l ob hl=>(by simp[lo]at hl),gone:=fun _ _=>rfl,own:=fun b hb=>?_,ios:=fun l b hl=>(by cases hl),fresh:=fun l b hl=>(by cases hl) }⟩
  · rw[aDJ]
    by_cases hk:k<args.length
    · rw[if_pos ⟨Nat.zero_le _,by simpa using hk⟩]
      have e1:args[k]?=some (args.getD k (.any,false)):=by
       rw[List.getElem?_eq_getElem hk,List.getD_eq_getElem?_getD,List.getElem?_eq_getElem hk];rfl
      obtain⟨B,g1,g2,g3⟩:=h2 k _ _ e1
      rw[Nat.zero_add]at g3
      have e:(cargs++Array.replicate (fn.ntmps-cargs.size) undef).getD k undef=cargs.toList.getD k undef:=by
       have hlt:k<cargs.size:=by rw[h1]at hk;simpa using hk
       simp[Array.getD_eq_getD_getElem?,Array.getElem?_append,hlt,List.getD_eq_getElem?_getD]
      simp only[Nat.sub_zero]
      refine⟨B,?_,fun b hb=>⟨RelV.below _ _ _ g1 b hb,?_,fun l=>hnl b l⟩,fun hd=>?_⟩
      · rw[e]
        exact RelV.keep _ _ _ (fun l _=>by intro ob h;cases h) (fun _ _=>rfl) g1
      · cases hdp:(args.getD k (.any,false)).2 with
        | false=>exact .inl (g2 hdp b hb)
        | true=>exact .inr (.inr ⟨k,by rw[<- g3 hdp];exact hb⟩)
      · have g4:=g3 hd
        subst g4
        exact⟨(hH k).1,fun b hb=>⟨how b k hb,((hH k).2 b hb).2⟩⟩
    · rw[if_neg (by simpa using hk)]
      exact⟨[],by simp[RelV],by simp,by simp⟩
  · have hh:∃ k,b∈H k:=by
     rcases Classical.em (∃ k,b∈H k)with hh | hh
     · exact hh
     · exfalso;apply hb;show(if hh:∃ k,b∈H k then Own.slot hh.choose else .none)=_;rw[dif_neg hh]
    obtain⟨k,hk⟩:=hh
    exact⟨aLf ((hH k).2 b hk).2,.inl (.inr ⟨k,hk⟩)⟩
 refine wp_mono (h Γ (fun _ _=>rfl) _ _ hsim) fun e a' w' ⟨E',hs',hq⟩=>?_
 have fin:RetIs Γ rs E' r true->a'.defers=[]/\∃ v,(results fn a'.tmps).run P w'=.ok v w'/\∃ c B,Ending.returned v=.returned c/\Below w.heap.size w w'/\RelV w'.heap dead r c B/\B.Nodup/\∀ b∈B,fN w' b/\(w.heap.size<=b\/∃ k,b∈H k):=by
  intro hr
  obtain⟨c,B,g1,g2,g3,g4⟩:=hr fn hrs a' w' hs'
  obtain⟨ow2,β2,hs'⟩:=hs'
  obtain⟨g5,g6⟩:=g4 rfl
  refine⟨hs'.defers,c,g1,c,B,rfl,⟨hs'.kept.os,hs'.kept.tape,hs'.kept.output,hs'.kept.size,fun k hk=>hs'.kept.old k hk (fun l=>by simp[Γ]) (fun h=>h)⟩,g2,g5,fun b hb=>⟨(g6 b hb).1,?_⟩⟩
  rcases(g6 b hb).2 with(g | g) | g
  · exact .inl g
  · exact g.elim
  · exact .inr g
 cases e with
 | normal=>exact fin hq
 | ret=>exact fin hq
 | exit id=>exact hq.elim
 | goto l=>exact hq.elim
 | panic ch=>exact hq.elim
 | outgrown=>exact hq.elim
section
variable {P:Program}{N:Nat}{Γ:Ctx P N}{S:List (Nat×Slot)}{O:List (Nat×Option Ob)}{ow:Nat->Own}{β:Nat->Option (Option Nat)}{F:Env}{a:Act}{w:World}
variable {d:Nat}{ty:TypeId}{pos:String}{af:Array Edge}{g:Option (Nat×Bool)}
theorem aDN {f:FuncId}{xs:List Operand}{args:List (PV×Bool)}{k q:Nat}{p r:PV}{dp:Bool}(hsim:SimG Γ ow β F a w)(hk:lk F.s k=⟨p,true⟩)(hm:MeetsD P f args r)(hr:r.labs=[])(hd:d<N){Bk:List Nat}(o1:RelV w.heap β p (a.tmps.getD k undef) Bk)(o3:Bk.Nodup/\∀ b∈Bk,ow b=.slot k/\fN w b)
 (ha:DArgs w.heap (fun _=>False) (fun j=>if j=q then Bk else []) args (xs.map a.eval) 0) {Q:Exit->Act->World->Prop} :
 Calls P f (xs.map a.eval).toArray w fun e w'=>match e with | .returned c=>Sim Γ (F.app ⟨(d,⟨r,true⟩)::[k].map (fun j=>(j,⟨.any,false⟩)),[]⟩) (a.put (some d) c) w' | _=>False:=by
 obtain⟨n1,n2⟩:=o3
 refine(hm w (xs.map a.eval).toArray (fun _=>False) (fun j=>if j=q then Bk else []) (by simpa using ha) (fun j=>?_) (fun j j' b hb hb'=>?_)).mono fun e w' ⟨c,B,he,hbel,h1,h2,h3⟩=>?_
 · by_cases hj:j=q
   · rw[if_pos hj];exact⟨n1,fun b hb=>⟨fun h=>h,(n2 b hb).2⟩⟩
   · rw[if_neg hj];exact⟨by simp,by simp⟩
 · by_cases hj:j=q
   · by_cases hj':j'=q
     · rw[hj,hj']
     · simp only[if_neg hj']at hb';cases hb'
   · simp only[if_neg hj]at hb;cases hb
 · subst he
   have hg:=hsim.grow hbel
   have hB:∀ b∈B,Im Γ ow w' b:=by
    intro b hb
    have hlt:=RelV.below _ _ _ h1 b hb
    rcases(h3 b hb).2 with e | ⟨j,e⟩
    · exact⟨hlt,.inr (.inl (.inl (Nat.le_trans hsim.kept.size e))),fun l e'=>by have:=(hsim.own b (by rw[e'];simp)).1;omega⟩
    · by_cases hj:j=q
      · rw[if_pos hj]at e
        obtain⟨e1,e2⟩:=n2 b e
        refine⟨hlt,?_,fun l e'=>by rw[e1]at e';cases e'⟩
        rcases(hsim.own b (by rw[e1];simp)).2 with g | ⟨m,g,_⟩
        · exact .inr g
        · rw[e1]at g;cases g
      · rw[if_neg hj]at e;cases e
   have hD:∀ b∈B,fN w' b/\Γ.nw b/\(ow b=.none\/∃ k'∈[k],ow b=.slot k'):=by
    intro b hb
    refine⟨(h3 b hb).1,?_⟩
    rcases(h3 b hb).2 with e | ⟨j,e⟩
    · refine⟨.inl (.inl (Nat.le_trans hsim.kept.size e)),.inl ?_⟩
      cases hx:ow b with
      | none=>rfl
      | _=>have:=(hsim.own b (by rw[hx];simp)).1;omega
    · by_cases hj:j=q
      · rw[if_pos hj]at e
        obtain⟨e1,_⟩:=n2 b e
        refine⟨?_,.inr ⟨k,by simp,e1⟩⟩
        rcases(hsim.own b (by rw[e1];simp)).2 with g | ⟨m,g,_⟩
        · exact g
        · rw[e1]at g;cases g
      · rw[if_neg hj]at e;cases e
   obtain⟨ow',h'⟩:=hg.gather (d:=d) hd [k] (v:=r) (c:=c) (B:=B) (dp:=true) (RelV.nolab hr h1) hB (fun _=>⟨h2,hD⟩)
   exact⟨ow',β,h'⟩
theorem aKM {f:FuncId}[hfc:FnC P f]{k:Nat}{tus:Array TypeId}{p r:PV}(hk:lkq S k=some ⟨p,true⟩)(hl:p.labs=[])(hm:MeetsD P f [(p,true)] r)(hr:r.labs=[])(hd:Nat.blt d N=true) :
 Local Γ ⟨some d,.call ⟨.value (.func f),#[.tmp k],tus⟩,ty,pos,af,g⟩ ⟨S,O⟩ ⟨[(d,⟨r,true⟩),(k,⟨.any,false⟩)],[]⟩ [k] [] []:=by
 intro F hs _ _ a w ⟨ow,β,hsim⟩ Q
 have hkF:lk F.s k=⟨p,true⟩:=by rw[hs k (by simp),fH hk]
 obtain⟨Bk,o1,_,o3⟩:=hsim.slots k
 rw[hkF]at o1 o3
 unfold Oper.wp
 have hrun:(execOp a.eval ⟨some d,.call ⟨.value (.func f),#[.tmp k],tus⟩,ty,pos,af,g⟩).run P w=.ok (.enter f #[a.eval (.tmp k)]) w:=by
  simp[execOp,resolve,Act.eval,Deferred.ofValue,invoke,hfc.run]
 rw[hrun]
 show Calls _ _ _ _ _
 refine(aDN (xs:=[.tmp k]) (q:=0) hsim hkF hm hr ((aO _ _).1 hd) (dp:=true) o1 (o3 rfl) ⟨?_,trivial⟩ (Q:=Q)).mono fun e w' h=>?_
 · simp only[if_true];exact RelV.nolab hl o1
 · cases e with
   | returned c=>exact h
   | _=>exact h.elim
theorem aKL {f:FuncId}[hfc:FnC P f]{k:Nat}{y:Operand}{tus:Array TypeId}{p0 p r:PV}(hy:evq S y=some p0)(hn0:mG p0=true)(hl0:p0.labs=[])(hk:lkq S k=some ⟨p,true⟩)(hl:p.labs=[])(hm:MeetsD P f [(p0,false),(p,true)] r)(hr:r.labs=[])(hd:Nat.blt d N=true) :
 Local Γ ⟨some d,.call ⟨.value (.func f),#[y,.tmp k],tus⟩,ty,pos,af,g⟩ ⟨S,O⟩ ⟨[(d,⟨r,true⟩),(k,⟨.any,false⟩)],[]⟩ (ors y++[k]) [] []:=by
 intro F hs _ _ a w ⟨ow,β,hsim⟩ Q
 have hkF:lk F.s k=⟨p,true⟩:=by rw[hs k (by simp),fH hk]
 obtain⟨Bk,o1,_,o3⟩:=hsim.slots k
 rw[hkF]at o1 o3
 obtain⟨By,y1,y2⟩:=cS hsim hy (fun j hj=>hs j (by simp[hj]))
 have:=tR _ hn0 y1
 subst this
 unfold Oper.wp
 have hrun:(execOp a.eval ⟨some d,.call ⟨.value (.func f),#[y,.tmp k],tus⟩,ty,pos,af,g⟩).run P w=.ok (.enter f #[a.eval y,a.eval (.tmp k)]) w:=by
  simp[execOp,resolve,Act.eval,Deferred.ofValue,invoke,hfc.run]
 rw[hrun]
 show Calls _ _ _ _ _
 refine(aDN (xs:=[y,.tmp k]) (q:=1) hsim hkF hm hr ((aO _ _).1 hd) (dp:=true) o1 (o3 rfl) ⟨⟨[],RelV.nolab hl0 y1,by simp⟩,?_,trivial⟩ (Q:=Q)).mono fun e w' h=>?_
 · simp only[Nat.zero_add,if_true];exact RelV.nolab hl o1
 · cases e with
   | returned c=>exact h
   | _=>exact h.elim
theorem aLT {α:Type}{s:Nat}{hi:Option Operand}{t e n by_:Nat}{agg:Bool}{l r:List α}{enc:α->List PV}{j:Int}{len:Nat}[ht:SlT P t e][hi':TI P e n agg by_](hx:lkq S s=some ⟨.rw n len (l.flatMap enc),true⟩)(hlen:len=l.length)
 (hhi:rS S len hi=some j) (h:sub l 0 j=some r) (hsz:∀ y,(enc y).length=n) (hnl:∀ y,mW (enc y)=true) (hd:Nat.blt d N=true) :
 Local Γ ⟨some d,.slice t (.tmp s) none hi none,ty,pos,af,g⟩ ⟨S,O⟩ ⟨[(d,⟨.rw n r.length (r.flatMap enc),true⟩),(s,⟨.any,false⟩)],[]⟩ ([s]++aFl hi) [] []:=by
 intro F hs _ _
 refine bD fun a w hsim0=>?_
 obtain⟨hb,hr⟩:=aMV h
 subst hlen
 have hbd:=fun isS cap hc=>aCS (lo:=none) (i:=0) hsim0 isS l.length cap hc rfl hhi (fun k hk=>by simp[aFl]at hk) (fun k hk=>hs k (by simp[hk])) hb
 obtain⟨ow,β,hsim⟩:=hsim0
 have hkF:lk F.s s=⟨.rw n l.length (l.flatMap enc),true⟩:=by rw[hs s (by simp),fH hx]
 obtain⟨B,h1,h2,h3⟩:=hsim.slots s
 rw[hkF]at h1 h3
 obtain⟨nd,h3⟩:=h3 rfl
 simp only[RelV]at h1
 have hr':r=l.take j.toNat:=by rw[hr];simp
 have run:∀ (ad:Option Addr) (cap:Nat),a.eval (.tmp s)=.slice ad l.length cap->l.length<=cap->(Instr.sliceAt t (a.eval (.tmp s)) none (hi.map a.eval) none).run P w=.ok (.slice (if cap=0 then ad else ad.map (·.add 0)) j.toNat cap) w:=by
  intro ad cap e1 hc
  rw[e1]
  have:=hbd true cap hc
  simp only[Option.map_none]at this
  simp[Instr.sliceAt,Instr.slice,run_underlying ht.ok,this,aCQ (e:=e) (n:=n)]
 have hval:a.eval (.tmp s)=a.tmps.getD s undef:=rfl
 rcases h1 with⟨e0,_,_,e1⟩ | ⟨b,cap,cs,u,B',⟨e1,hc,hcap⟩,e2,e3,rfl⟩
 · rw[<- hval]at e1
   have e1':a.eval (.tmp s)=.slice none l.length 0:=by rw[e1,e0]
   have hj:j.toNat=0:=by omega
   have hr0:r=[]:=by rw[hr',hj];simp
   subst hr0
   obtain⟨ow',h'⟩:=hsim.gather (d:=d) ((aO _ _).1 hd) [s] (v:=.rw n 0 []) (c:=.slice none 0 0) (B:=[]) (dp:=true) (by simp only[RelV];exact .inl ⟨trivial,trivial,trivial,trivial⟩) (by simp) (fun _=>⟨by simp,by simp⟩)
   refine⟨.slice none 0 0,w,?_,ow',β,h'⟩
   simp only[execOp,Option.map_none]
   rw[Sem.run_bind,run none 0 e1' (by omega)]
   simp[hj,Result.andThen]
 · rw[<- hval]at e1
   have hsplit:l.flatMap enc=r.flatMap enc++(l.drop j.toNat).flatMap enc:=by rw[hr',<- List.flatMap_append,List.take_append_drop]
   rw[hsplit]at e3
   obtain⟨O1,O2,q1,q2,rfl⟩:=(RelL.append _ _ _ _ _).1 e3
   have nd1:=List.nodup_cons.1 nd
   have nd2:=List.nodup_append.1 nd1.2
   have hrl:r.length=j.toNat:=by rw[hr',List.length_take];omega
   obtain⟨ow',h'⟩:=hsim.gather (d:=d) ((aO _ _).1 hd) [s] (v:=.rw n r.length (r.flatMap enc)) (c:=.slice (some ⟨b,0,none⟩) r.length cap) (B:=b::O1) (dp:=true) (by
    simp only[RelV];exact .inr ⟨b,cap,cs,u,O1,⟨rfl,by omega,hcap⟩,e2,q1,rfl⟩)
    (fun c hc=>h2 c (by rcases List.mem_cons.1 hc with rfl | hc;simp;simp[hc]))
    (fun _=>⟨List.nodup_cons.2 ⟨fun hb'=>nd1.1 (by simp[hb']),nd2.1⟩,fun c hc=>by
     have hm:c∈b::(O1++O2):=by rcases List.mem_cons.1 hc with rfl | hc;simp;simp[hc]
     obtain⟨g1,g2⟩:=h3 c hm
     refine⟨g2,?_,.inr ⟨s,by simp,g1⟩⟩
     rcases(hsim.own c (by rw[g1];simp)).2 with g | ⟨m,g,_⟩
     · exact g
     · rw[g1]at g;cases g⟩)
   refine⟨.slice (some ⟨b,0,none⟩) r.length cap,w,?_,ow',β,h'⟩
   simp only[execOp,Option.map_none]
   rw[Sem.run_bind,run (some ⟨b,0,none⟩) cap e1 hc,hrl]
   simp[Result.andThen,Addr.add]
theorem RelL.atQ {h:Array Obj}{q:Bool}{β:Nat->Option (Option Nat)}:∀ {vs:List PV} {cs:Array Value} {i:Nat} {O:List Nat} {k:Nat} {p:PV},RelL h q β vs cs i O->vs[k]?=some p->∃ v O1 Oc O2,cs[i+k]?=some v/\RelV h β p v Oc/\O=O1++(Oc++O2)/\RelL h q β (vs.set k .any) cs i (O1++O2)
 | [],_,_,_,_,_,_,hk=>by simp at hk
 | p0::vs,cs,i,O,k,p,H,hk=>by
  simp only[RelL]at H
  obtain⟨c,B1,B2,h1,h2,h3,rfl⟩:=H
  cases k with
  | zero =>
   simp at hk;subst hk
   refine⟨c,[],B1,B2,by simpa using h1.1,h2,by simp,?_⟩
   simp only[List.set_cons_zero,RelL,RelV,List.nil_append]
   exact⟨c,[],B2,h1,rfl,h3,rfl⟩
  | succ k =>
   obtain⟨v,O1,Oc,O2,g1,g2,g3,g4⟩:=RelL.atQ h3 (by simpa using hk)
   refine⟨v,B1++O1,Oc,O2,by rw[<- g1];congr 1;omega,g2,by rw[g3];simp,?_⟩
   simp only[List.set_cons_succ,RelL]
   exact⟨c,B1,O1++O2,h1,h2,g4,by simp⟩
theorem aML {s i:Nat}{vs:List PV}{p:PV}(hx:lkq S s=some ⟨.tup vs,true⟩)(hp:vs[i]?=some p)(hl:p.labs=[])(hne:Nat.beq s d=false)(hd:Nat.blt d N=true) :
 Local Γ ⟨some d,.extract (.tmp s) i,ty,pos,af,g⟩ ⟨S,O⟩ ⟨[(d,⟨p,true⟩),(s,⟨.tup (vs.set i .any),true⟩)],[]⟩ [s] [] []:=by
 classical
 intro F hs _ _
 refine bD fun a w ⟨ow,β,h⟩=>?_
 have hne:s≠d:=by rintro rfl;simp at hne
 have hdN:=(aO _ _).1 hd
 obtain⟨O0,hv,hO,hdp⟩:=h.slots s
 rw[hs s (by simp),fH hx]at hv hdp
 obtain⟨nd,hdp⟩:=hdp rfl
 simp only[RelV]at hv
 obtain⟨cs,e1,e2,e3⟩:=hv
 obtain⟨v,O1,Oc,O2,g1,g2,rfl,g4⟩:=e3.atQ hp
 rw[Nat.zero_add]at g1
 have nd1:=List.nodup_append.1 nd
 have nd2:=List.nodup_append.1 nd1.2.1
 let ow':Nat->Own:=fun b=>if b∈Oc then .slot d else ow b
 have hIm:∀ b,Im Γ ow w b->Im Γ ow' w b:=by
  intro b ⟨h1,h2,h3⟩
  refine⟨h1,h2,fun l=>?_⟩
  show(if _ then _ else _)≠_
  split
  · simp
  · exact h3 l
 have hoc:∀ b∈Oc,ow b=.slot s:=fun b hb=>(hdp b (by simp[hb])).1
 have hkp:∀ b x,ow b=x->x≠.slot s->ow' b=x:=by
  intro b x e hx
  show(if _ then _ else _)=_
  rw[if_neg (fun hb=>hx (by rw[<- e];exact hoc b hb))];exact e
 have hval:a.eval (.tmp s)=.tuple cs:=e1
 refine⟨v,w,by simp[execOp,hval,Instr.extract,g1],ow',β,{ size:=by simp[Act.put,h.size],defers:=by simp[Act.put,h.defers],kept:=h.kept,slots:=fun k=>?_,objs:=fun l ob hl=>?_,gone:=by simpa [Env.app]using h.gone,own:=fun b hb=>?_,ios:=by simpa [Env.app]using h.ios,fresh:=h.fresh }⟩
 · simp only[Env.app,List.cons_append,List.nil_append,fJ,Act.put]
   by_cases hk:d=k
   · subst hk
     rw[if_pos rfl,jR (by rw[h.size];exact hdN)]
     exact⟨Oc,g2,fun b hb=>hIm b (hO b (by simp[hb])),fun _=>⟨nd2.1,fun b hb=>⟨by show(if _ then _ else _)=_;rw[if_pos hb],(hdp b (by simp[hb])).2⟩⟩⟩
   · rw[if_neg hk,pN hk]
     by_cases hks:s=k
     · subst hks
       rw[if_pos rfl]
       refine⟨O1++O2,?_,fun b hb=>hIm b (hO b (by rcases List.mem_append.1 hb with hb | hb <;> simp[hb])),fun _=>⟨?_,fun b hb=>⟨?_,(hdp b (by rcases List.mem_append.1 hb with hb | hb <;> simp[hb])).2⟩⟩⟩
       · rw[e1]
         simp only[RelV]
         exact⟨cs,rfl,by simpa using e2,g4⟩
       · exact List.nodup_append.2 ⟨nd1.1,nd2.2.1,fun x hx y hy=>nd1.2.2 x hx y (by simp[hy])⟩
       · show(if _ then _ else _)=_
         rw[if_neg]
         · exact(hdp b (by rcases List.mem_append.1 hb with hb | hb <;> simp[hb])).1
         · intro hc
           rcases List.mem_append.1 hb with hb | hb
           · exact nd1.2.2 b hb b (by simp[hc]) rfl
           · exact nd2.2.2 b hc b hb rfl
     · rw[if_neg hks]
       obtain⟨O',q1,q2,q3⟩:=h.slots k
       exact⟨O',q1,fun b hb=>hIm b (q2 b hb),fun hx=>⟨(q3 hx).1,fun b hb=>⟨hkp b _ ((q3 hx).2 b hb).1 (by intro e;injection e with e;exact hks e.symm),((q3 hx).2 b hb).2⟩⟩⟩
 · simp only[Env.app,List.nil_append]at hl
   obtain⟨O',q1,q2,q3⟩:=h.objs l ob hl
   refine⟨O',fun b hb=>hIm b (q1 b hb),fun hx=>⟨(q2 hx).1,fun b hb=>⟨hkp b _ ((q2 hx).2 b hb).1 (by simp),((q2 hx).2 b hb).2⟩⟩,?_⟩
   rcases q3 with q3 | ⟨b,cs,t,r1,r2,r3,r4⟩
   · exact .inl q3
   · exact .inr ⟨b,cs,t,r1,hkp b _ r2 (by simp),r3,r4⟩
 · by_cases hb':b∈Oc
   · have e:=hoc b hb'
     obtain⟨q1,q2⟩:=h.own b (by rw[e];simp)
     refine⟨q1,.inl ?_⟩
     rcases q2 with q | ⟨m,q,_⟩
     · exact q
     · rw[e]at q;cases q
   · have e:ow' b=ow b:=by show(if _ then _ else _)=_;rw[if_neg hb']
     rw[e]at hb
     obtain⟨q1,q2⟩:=h.own b hb
     exact⟨q1,by rw[e];exact q2⟩
end
end Go.Ev
/- The engine, part NN: the first change of a rule that makes several, softened. -/
namespace Go.Ev
section
variable {P:Program}{N:Nat}{Γ:Ctx P N}{S:List (Nat×Slot)}{O:List (Nat×Option Ob)}
theorem Local.softC {o:Oper}{d:Nat}{p p':PV}{dp:Bool}{ss:List (Nat×Slot)}{us:List (Nat×Option Ob)}{rs ro nl:List Nat}(hs:Soft p p')(h:Local Γ o ⟨S,O⟩ ⟨(d,⟨p,dp⟩)::ss,us⟩ rs ro nl):Local Γ o ⟨S,O⟩ ⟨(d,⟨p',dp⟩)::ss,us⟩ rs ro nl:=by
 intro F h1 h2 h3 a w hsim Q
 refine Oper.wp_mono ?_ (h F h1 h2 h3 a w hsim Q)
 rintro a' w' ⟨ow,β,h'⟩
 refine⟨ow,β,{ size:=h'.size,defers:=h'.defers,kept:=h'.kept,slots:=fun j=>?_,objs:=h'.objs,gone:=h'.gone,own:=h'.own,ios:=h'.ios,fresh:=h'.fresh }⟩
 obtain⟨B,g1,g2,g3⟩:=h'.slots j
 simp only[Env.app,List.cons_append,List.nil_append,fJ]at g1 g3 ⊢
 by_cases hj:d=j
 · rw[if_pos hj]at g1 g3 ⊢
   exact⟨B,hs _ _ _ _ g1,g2,g3⟩
 · rw[if_neg hj]at g1 g3 ⊢
   exact⟨B,g1,g2,g3⟩
end
end Go.Ev
/- The engine, part OO: short forms: a rule and the step that uses it in one (printed by mkoo.py). -/
namespace Go.Ev
section
variable {P:Program}{N:Nat}{Γ:Ctx P N}{S S':List (Nat×Slot)}{O O':List (Nat×Option Ob)}
theorem dn {ops:List Oper}{X:List Item->Prop}{Q:Env->Prop}{acc:List Item}{E:Env}(h:Q E):Run Γ ops (fun items E'=>(false=true->X items)/\Q E') [] acc E:=.done ⟨fun h=>Bool.noConfusion h,h⟩
theorem sq {x y:Code}{E:Env}{Q:Exit->Env->Prop}(h:CodeT Γ x E (sM (fun E'=>CodeT Γ y E' Q) Q)):CodeT Γ (.seq x y) E Q:=CodeT.seq h
def aEh (S:List (Nat×Slot)):List (Nat×Slot)->List (Option PV)
 | []=>[]
 | (k,_)::r=>(lkq S k).map (·.v)::aEh S r
def aEg (ρ:List (Nat×Nat)):List (Nat×Slot)->List (Option PV)
 | []=>[]
 | (_,sl)::r=>some (aK3 ρ sl.v)::aEg ρ r
def aEN (S:List (Nat×Slot)):List (Nat×Slot)->Bool
 | []=>true
 | (k,sl)::r=>(match sl.deep with | true=>(match lkq S k with | some s=>s.deep | none=>false) | false=>true)&&aEN S r
theorem EntS.fast {ρ:List (Nat×Nat)}:∀ {S':List (Nat×Slot)},aEh S S'=aEg ρ S'->aEN S S'=true->EntS ρ S S'
 | [],_,_=>trivial
 | (k,sl)::r,h1,h2=>by
  simp only[aEh,aEg,List.cons.injEq]at h1
  simp only[aEN,Bool.and_eq_true]at h2
  refine⟨?_,EntS.fast h1.2 h2.2⟩
  cases hs:lkq S k with
  | none=>rw[hs]at h1;simp at h1
  | some s =>
   rw[hs]at h1 h2
   refine⟨s.deep,?_,fun hd=>?_⟩
   · have:=h1.1;simp only[Option.map_some,Option.some.injEq]at this;rw[<- this]
   · have:=h2.1;rw[hd]at this;simpa using this
def aBU (ρ:List (Nat×Nat))(O:List (Nat×Option Ob)):List (Nat×Option Ob)->List (Option (List PV×Bool))
 | []=>[]
 | (_,none)::r=>aBU ρ O r
 | (l,some _)::r=>(loq O (rn ρ l)).map (fun o=>(o.cells,o.box))::aBU ρ O r
def aBT (ρ:List (Nat×Nat)):List (Nat×Option Ob)->List (Option (List PV×Bool))
 | []=>[]
 | (_,none)::r=>aBT ρ r
 | (_,some ob)::r=>some (match ob.box with | true=>aIA ρ ob.cells | false=>ob.cells,ob.box)::aBT ρ r
def aB9 (ρ:List (Nat×Nat))(O:List (Nat×Option Ob)):List (Nat×Option Ob)->Bool
 | []=>true
 | (_,none)::r=>aB9 ρ O r
 | (l,some ob)::r=>(match ob.deep with | true=>(match loq O (rn ρ l)with | some o=>o.deep | none=>false) | false=>true)&&aB9 ρ O r
theorem EntO.fast {ρ:List (Nat×Nat)}:∀ {O':List (Nat×Option Ob)},aBU ρ O O'=aBT ρ O'->aB9 ρ O O'=true->EntO ρ O O'
 | [],_,_=>trivial
 | (_,none)::r,h1,h2=>by
  simp only[aBU,aBT]at h1
  simp only[aB9]at h2
  simp only[EntO]
  exact EntO.fast h1 h2
 | (l,some ob)::r,h1,h2=>by
  simp only[aBU,aBT,List.cons.injEq]at h1
  simp only[aB9,Bool.and_eq_true]at h2
  simp only[EntO]
  refine⟨?_,EntO.fast h1.2 h2.2⟩
  cases hs:loq O (rn ρ l)with
  | none=>rw[hs]at h1;simp at h1
  | some o =>
   rw[hs]at h1 h2
   have h3:=h1.1
   simp only[Option.map_some,Option.some.injEq,Prod.mk.injEq]at h3
   refine⟨o.deep,?_,fun hd=>?_⟩
   · obtain⟨c1,c2⟩:=h3
     cases o;simp only[]at c1 c2 ⊢
     rw[c1,c2];cases ob.box <;> rfl
   · have:=h2.1;rw[hd]at this;simpa using this
theorem el (ρ:List (Nat×Nat))(hio:∀ l,Γ.io (rn ρ l)=Γ.io l/\(Γ.io l≠none->rn ρ l=l))(hi:aHp ρ (wD O')=true)(h1:aEh S S'=aEg ρ S')(h2:aEN S S'=true)(h3:aBU ρ O O'=aBT ρ O')(h4:aB9 ρ O O'=true):Ent Γ ⟨S,O⟩ ⟨S',O'⟩ :=
 Ent.list ρ hio hi (EntS.fast h1 h2) (EntO.fast h3 h4)
variable {d:Nat}{ty:TypeId}{pos:String}{af:Array Edge}{g:Option (Nat×Bool)}
variable {x y:Operand}{u u':TypeId}{k:IntKind}{m n r:Int}
variable {ops rest:List Oper}{K:List Item->Env->Prop}{acc:List Item}{gs:List Nat}
def aG8 (c:PV):Bool:=match c.labs with | []=>true | _=>false
theorem aF2 {bx:Bool}{c:PV}(h:(bx||aG8 c)=true):bx=true\/c.labs=[]:=by
 cases bx with
 | true=>exact .inl rfl
 | false =>
  right
  simp only[Bool.false_or,aG8]at h
  split at h
  · assumption
  · cases h
end
end Go.Ev
/- The engine, part PP: a drawn region in which one pair of operations is not ordered (printed by mkpp.py). -/
namespace Go.Ev
def XOk {P:Program}{N:Nat}(Γ:Ctx P N)(ops:Array Oper)(items:List Item)(E0:Env)(p q:Nat):Prop :=
 ∃ x y,items[q]?=some x/\items[p]?=some y/\p<q/\uK x y=false/\x.nl=[]/\y.nl=[]/\oX Γ ops q (pt (fun j=>Nat.blt j q&&!(Nat.beq j p)) items 0 E0) x.e x.rs x.ro x.nl
theorem XOk.intro {P:Program}{N:Nat}{Γ:Ctx P N}{ops:Array Oper}{items:List Item}{E0:Env}{p q:Nat}{x y:Item}{o:Oper}(h1:items[q]?=some x)(h2:items[p]?=some y)(h3:Nat.blt p q=true)(h4:uK x y=false)(h5:x.nl=[])(h6:y.nl=[])
 (ho:ops[q]?=some o) (hg:o.guard=none) (hl:Local Γ o ⟨(pt (fun j=>Nat.blt j q&&!(Nat.beq j p)) items 0 E0).s,(pt (fun j=>Nat.blt j q&&!(Nat.beq j p)) items 0 E0).o⟩ x.e x.rs x.ro x.nl):XOk Γ ops items E0 p q :=
 ⟨x,y,h1,h2,(aO _ _).1 h3,h4,h5,h6,Local.at ho hg hl⟩
section
variable {P:Program}{N:Nat}{Γ:Ctx P N}{E:Env}{Q:Exit->Env->Prop}
end
end Go.Ev
/- The engine, part QQ: functions that return a new row whose elements are shared: the row becomes the caller's own row. -/
namespace Go.Ev
open Go.RowKit (Below)
def MeetsF (P:Program)(f:FuncId)(args:List PV)(s n:Nat)(cells:List PV):Prop :=
 ∀ (w:World) (cargs:Array Value) (ok:Nat->Prop),RelArgs w.heap ok args cargs.toList->
  Calls P f cargs w fun e w'=>∃ c B,e=.returned c/\Below w.heap.size w w'/\RelV w'.heap dead (.rw s n cells) c B/\(∀ b∈B,b<w'.heap.size/\(ok b\/w.heap.size<=b))/\(∀ b B',B=b::B'->w.heap.size<=b/\b∉B')
theorem MeetsF.soft {P:Program}{f:FuncId}{args:List PV}{s n:Nat}{cells:List PV}(h:MeetsF P f args s n cells):Meets P f args (.sl n cells) false :=
 fun w cargs ok ha=>(h w cargs ok ha).mono fun _ _ ⟨c,B,h1,h2,h3,h4,_⟩=>⟨c,B,h1,h2,h3.soft,fun b hb=>(h4 b hb).2,by simp⟩
section
variable {P:Program}{N:Nat}{Γ:Ctx P N}{S:List (Nat×Slot)}{O:List (Nat×Option Ob)}{ow:Nat->Own}{β:Nat->Option (Option Nat)}{F:Env}{a:Act}{w:World}
def ResF (Γ:Ctx P N)(rs:Array ResultVar)(E:Env)(s n:Nat)(cells:List PV):Prop :=
 ∀ fn:Func,fn.results=rs->∀ a w,Sim Γ E a w->∃ c B,(results fn a.tmps).run P w=.ok c w/\RelV w.heap dead (.rw s n cells) c B/\(∀ b∈B,b<w.heap.size/\(Γ.ok b\/Γ.nw b))/\(∀ b B',B=b::B'->Γ.nww b/\b∉B')
def aLP (Γ:Ctx P N)(rs:Array ResultVar)(s n:Nat)(cells:List PV):Exit->Env->Prop
 | .normal,E=>ResF Γ rs E s n cells
 | .ret,E=>ResF Γ rs E s n cells
 | _,_=>False
theorem aNy {rs:Array ResultVar}{E:Env}{s n:Nat}{cells:List PV}(h:ResF Γ rs E s n cells):aLP Γ rs s n cells .ret E:=h
theorem ResF.weak {E E0:Env}{rs:Array ResultVar}{s n:Nat}{cells:List PV}(he:Ent Γ E E0)(h:ResF Γ rs E0 s n cells):ResF Γ rs E s n cells:=fun fn hf a w hs=>h fn hf a w (he a w hs)
theorem ResF.mk {t l s n:Nat}{cells:List PV}{dp dp0:Bool}(h:lkq S t=some ⟨.ref l s 0 n,dp0⟩)(ho:loq O l=some ⟨cells,dp,false⟩)(hio:Γ.io l=none):ResF Γ #[.tmp t] ⟨S,O⟩ s n cells:=by
 rintro fn hf a w ⟨ow,β,hs⟩
 rw[uO hf]
 obtain⟨B,h1,_⟩:=hs.slots t
 rw[fH h]at h1
 simp only[RelV]at h1
 obtain⟨Bo,o1,o2,hob⟩:=hs.objs l ⟨cells,dp,false⟩ (by rw[<- cR];exact ho)
 rcases hob with⟨p1,p2,p3⟩ | ⟨b,cs,u,p1,p2,p3,p4⟩
 · obtain⟨rfl,_,e⟩:=h1.2.1 p1
   simp only at p2;subst p2
   exact⟨_,[],rfl,by simp only[RelV];exact .inl ⟨trivial,trivial,trivial,e⟩,by simp,by simp⟩
 · obtain⟨cap,cs',u',q1,q0,q3,q4⟩:=h1.2.2 b p1
   rw[p3]at q0;cases q0
   simp only[Nat.zero_mul,Nat.zero_add]at q1 q3
   refine⟨_,b::Bo,rfl,by simp only[RelV];exact .inr ⟨b,cap,cs,u,Bo,⟨q1,q4,q3⟩,p3,by simpa using p4,rfl⟩,fun c hc=>?_,fun b' B' e=>?_⟩
   · rcases List.mem_cons.1 hc with rfl | hc
     · exact⟨hs.block_lt p1,.inr (.inl (hs.fresh l _ p1 hio))⟩
     · exact⟨(o1 c hc).1,(o1 c hc).2.1⟩
   · cases e
     exact⟨hs.fresh l _ p1 hio,fun hb=>(o1 b hb).2.2 l p2⟩
theorem MeetsF.intro {f:FuncId}{fn:Func}{c:Code}{args:List PV}{s n:Nat}{cells:List PV}{rs:Array ResultVar}(hf:P.funcs[f]?=some fn)(hb:fn.body=some c)(hN:fn.ntmps=N)(hrs:fn.results=rs)(hn:Nat.ble args.length N=true)
 (h:∀ Γ:Ctx P N,(∀ l,Nat.blt l 100000=true->Γ.io l=none)->CodeT Γ c ⟨iP args 0,[]⟩ (aLP Γ rs s n cells)):MeetsF P f args s n cells:=by
 intro w cargs ok ha
 obtain⟨h1,h2⟩:=ha.get
 have hn:=Nat.le_of_ble_eq_true hn
 let Γ:Ctx P N:={ base:=w.heap.size,ok:=fun b=>ok b,io:=fun _=>none,w0:=w,mine:=fun _=>False,lent:=fun _=>False }
 have hsz:(cargs++Array.replicate (fn.ntmps-cargs.size) undef).size=N:=by
  have:cargs.size=args.length:=by rw[h1];simp
  simp[this,hN];omega
 refine calls_of_wp hf hb ?_
 have hsim:Sim Γ ⟨iP args 0,[]⟩ { tmps:=cargs++Array.replicate (fn.ntmps-cargs.size) undef,defers:=[] } w:=by
  refine⟨fun _=>.none,fun _=>none,{ size:=hsz,defers:=rfl,kept:=⟨rfl,rfl,rfl,Nat.le_refl _,fun _ _ _ _=>rfl,fun b _ _ cs t h=>⟨cs,h,rfl⟩⟩,slots:=fun k=>?_,objs:=fun l ob hl=>(by simp[lo]at hl),gone:=fun _ _=>rfl,own:=fun b hb=>absurd rfl hb,ios:=fun l b hl=>(by cases hl),fresh:=fun l b hl=>(by cases hl) }⟩
  rw[nW]
  by_cases hk:k<args.length
  · rw[if_pos ⟨Nat.zero_le _,by simpa using hk⟩]
    obtain⟨B,g1,g2⟩:=h2 k hk
    refine⟨B,?_,fun b hb=>⟨RelV.below _ _ _ g1 b hb,.inl (g2 b hb),fun l=>by simp⟩,by simp⟩
    have e:(cargs++Array.replicate (fn.ntmps-cargs.size) undef).getD k undef=cargs.toList.getD k undef:=by
     have hlt:k<cargs.size:=by rw[h1]at hk;simpa using hk
     simp[Array.getD_eq_getD_getElem?,Array.getElem?_append,hlt,List.getD_eq_getElem?_getD]
    rw[e]
    simp only[Nat.sub_zero]
    exact RelV.keep _ _ _ (fun l _=>by intro ob h;cases h) (fun _ _=>rfl) g1
  · rw[if_neg (by simpa using hk)]
    exact⟨[],by simp[RelV],by simp,by simp⟩
 refine wp_mono (h Γ (fun _ _=>rfl) _ _ hsim) fun e a' w' ⟨E',hs',hq⟩=>?_
 have fin:ResF Γ rs E' s n cells->a'.defers=[]/\∃ v,(results fn a'.tmps).run P w'=.ok v w'/\∃ c B,Ending.returned v=.returned c/\Below w.heap.size w w'/\RelV w'.heap dead (.rw s n cells) c B/\(∀ b∈B,b<w'.heap.size/\(ok b\/w.heap.size<=b))/\(∀ b B',B=b::B'->w.heap.size<=b/\b∉B'):=by
  intro hr
  obtain⟨c,B,g1,g2,g3,g4⟩:=hr fn hrs a' w' hs'
  obtain⟨ow,β,hs'⟩:=hs'
  exact⟨hs'.defers,c,g1,c,B,rfl,⟨hs'.kept.os,hs'.kept.tape,hs'.kept.output,hs'.kept.size,fun k hk=>hs'.kept.old k hk (fun l=>by simp[Γ]) (fun h=>h)⟩,g2,fun b hb=>⟨(g3 b hb).1,(g3 b hb).2.imp id (fun h=>(h.elim id False.elim:Γ.nww b).elim id False.elim)⟩,fun b B' e=>⟨(g4 b B' e).1.elim id False.elim,(g4 b B' e).2⟩⟩
 cases e with
 | normal=>exact fin hq
 | ret=>exact fin hq
 | exit id=>exact hq.elim
 | goto l=>exact hq.elim
 | panic ch=>exact hq.elim
 | outgrown=>exact hq.elim
theorem SimG.growSh (h:SimG Γ ow β F a w){w':World}(hb:Below w.heap.size w w'){d b0:Nat}{cs:Array Value}{t:TypeId}{cells:List PV}{B:List Nat}(hrow:w'.heap[b0]?=some (.cells cs t (0,0)))(hge:w.heap.size<=b0)
 (hrel:RelL w'.heap true dead cells cs 0 B) (hB:∀ b∈B,b<w'.heap.size/\b≠b0/\(Im Γ ow w b\/w.heap.size<=b)) (hnl:NoLab F d) (hio:Γ.io d=none) :
 ∃ ow',SimG Γ ow' (fun m=>if m=d then some (some b0)else β m) (F.app ⟨[],[(d,some ⟨cells,false,false⟩)]⟩) a w':=by
 let β':Nat->Option (Option Nat):=fun m=>if m=d then some (some b0)else β m
 let ow':Nat->Own:=fun b=>if b=b0 then .lab d else if w.heap.size<=b then .none else ow b
 have how:∀ b,b<w.heap.size->ow' b=ow b:=fun b hlt=>by
  show(if _ then _ else _)=_
  rw[if_neg (by omega),if_neg (by omega)]
 have hβ2:∀ m,m≠d->β' m=β m:=fun m hm=>by show(if _ then _ else _)=_;rw[if_neg hm]
 have hlt0:b0<w'.heap.size:=by
  rcases Nat.lt_or_ge b0 w'.heap.size with h | h
  · exact h
  · simp[Array.getElem?_eq_none h]at hrow
 have hIm:∀ b,Im Γ ow w b->Im Γ ow' w' b:=fun b ⟨h1,h2,h3⟩=>⟨Nat.lt_of_lt_of_le h1 hb.size,h2,fun l=>by rw[how b h1];exact h3 l⟩
 have hFree:∀ b,b<w.heap.size->fN w b->fN w' b:=fun b hlt ⟨cs,t,hc⟩=>⟨cs,t,by rw[hb.block b hlt];exact hc⟩
 have hkeep:∀ m,m≠d->KeepB w.heap w'.heap β β' m:=by
  intro m hm o ho
  rw[hβ2 m hm]at ho
  refine⟨ho,fun b hob cs t hc=>⟨cs,?_,rfl⟩⟩
  subst hob
  rw[hb.block b (h.block_lt ho)];exact hc
 refine⟨ow',{ size:=h.size,defers:=h.defers,kept:=?_,slots:=fun k=>?_,objs:=fun l ob hl=>?_,gone:=fun l hl=>?_,own:=fun b hb'=>?_,ios:=fun m b hm hs=>?_,fresh:=fun l b hl hi=>?_ }⟩
 · exact⟨hb.os.trans h.kept.os,hb.output.trans h.kept.output,hb.tape.trans h.kept.tape,Nat.le_trans h.kept.size hb.size,
    fun b h1 h2 hmi=>(hb.block b (Nat.lt_of_lt_of_le h1 h.kept.size)).trans (h.kept.old b h1 h2 hmi),
    fun b h1 hmi cs t h2=>by
     obtain⟨cs',h3,h4⟩:=h.kept.ios b h1 hmi cs t h2
     exact⟨cs',by rw[hb.block b (Nat.lt_of_lt_of_le h1 h.kept.size)];exact h3,h4⟩⟩
 · obtain⟨B',h1,h2,h3⟩:=h.slots k
   refine⟨B',RelV.keep _ _ _ (fun l hl=>hkeep l (fun e=>hnl.1 k (e▸hl))) (fun b hbO=>hb.block b (h2 b hbO).1) h1,fun b hbO=>hIm b (h2 b hbO),fun hd=>⟨(h3 hd).1,fun b hbO=>⟨?_,hFree b (h2 b hbO).1 ((h3 hd).2 b hbO).2⟩⟩⟩
   rw[how b (h2 b hbO).1];exact((h3 hd).2 b hbO).1
 · simp only[Env.app,List.cons_append,List.nil_append,aN]at hl
   by_cases hm:d=l
   · subst hm
     rw[if_pos rfl]at hl;cases hl
     refine⟨B,fun b hbn=>?_,fun hd=>(by cases hd),.inr ⟨b0,cs,t,?_,?_,hrow,hrel⟩⟩
     · obtain⟨g1,g2,g3⟩:=hB b hbn
       rcases g3 with g3 | g3
       · exact hIm b g3
       · refine⟨g1,.inr (.inl (.inl (Nat.le_trans h.kept.size g3))),fun l=>?_⟩
         show(if _ then _ else _)≠_
         rw[if_neg g2,if_pos g3];simp
     · show(if _ then _ else _)=_;rw[if_pos rfl]
     · show(if _ then _ else _)=_;rw[if_pos rfl]
   · rw[if_neg hm]at hl
     obtain⟨B',h1,h2,h3⟩:=h.objs l ob hl
     refine⟨B',fun b hbO=>hIm b (h1 b hbO),fun hd=>⟨(h2 hd).1,fun b hbO=>⟨by rw[how b (h1 b hbO).1];exact((h2 hd).2 b hbO).1,hFree b (h1 b hbO).1 ((h2 hd).2 b hbO).2⟩⟩,?_⟩
     rcases h3 with⟨g1,g2,g3⟩ | ⟨b,cs,t,g1,g2,g3,g4⟩
     · exact .inl ⟨(hβ2 l (Ne.symm hm)).trans g1,g2,g3⟩
     · refine .inr ⟨b,cs,t,(hβ2 l (Ne.symm hm)).trans g1,by rw[how b (h.block_lt g1)];exact g2,by rw[hb.block b (h.block_lt g1)];exact g3,?_⟩
       cases hbx:ob.box with
       | true=>rw[hbx]at g4;exact RelL.keep _ _ _ _ (fun p hp m hm'=>hkeep m (fun e=>hnl.2.1 l ob hl hbx p hp (e▸hm'))) (fun b hbO=>hb.block b (h1 b hbO).1) g4
       | false=>rw[hbx]at g4;exact RelL.keep _ _ _ _ (fun _ _ l _=>KeepB.dead _ _ l) (fun b hbO=>hb.block b (h1 b hbO).1) g4
 · simp only[Env.app,List.cons_append,List.nil_append,aN]at hl
   by_cases hm:d=l
   · rw[if_pos hm]at hl;cases hl
   · rw[if_neg hm]at hl
     show β' l=none
     rw[hβ2 l (Ne.symm hm)];exact h.gone l hl
 · by_cases hlt:b<w.heap.size
   · rw[how b hlt]at hb'
     obtain⟨g1,g2⟩:=h.own b hb'
     exact⟨Nat.lt_of_lt_of_le g1 hb.size,by rw[how b hlt];exact g2⟩
   · have e:b=b0:=by
      rcases Nat.decEq b b0 with e | e
      · exfalso;apply hb'
        show(if _ then _ else _)=_
        rw[if_neg e,if_pos (by omega)]
      · exact e
     subst e
     exact⟨hlt0,.inl (.inl (.inl (Nat.le_trans h.kept.size hge)))⟩
 · have hmn:d≠m:=fun e=>by subst e;rw[hio]at hm;cases hm
   simp only[Env.app,List.cons_append,List.nil_append,aN,if_neg hmn]at hs
   show β' m=_
   rw[hβ2 m (Ne.symm hmn)];exact h.ios m b hm hs
 · by_cases hm:l=d
   · subst hm
     have:(if l=l then some (some b0)else β l)=some (some b):=hl
     rw[if_pos rfl]at this;cases this
     exact .inl (Nat.le_trans h.kept.size hge)
   · have hl':β' l=some (some b):=hl
     rw[hβ2 l hm]at hl';exact h.fresh l b hl' hi
variable {d:Nat}{ty:TypeId}{pos:String}{af:Array Edge}{g:Option (Nat×Bool)}
theorem aLA {f:FuncId}[hfc:FnC P f]{xs:List Operand}{us:Array TypeId}{ps:List PV}{s n:Nat}{cells:List PV}(ha:ArgsV S O xs ps [])(hm:MeetsF P f ps s n cells)(hio:Γ.io d=none)(hd:Nat.blt d N=true) :
 Local Γ ⟨some d,.call ⟨.value (.func f),xs.toArray,us⟩,ty,pos,af,g⟩ ⟨S,O⟩ ⟨[(d,⟨.ref d s 0 n,false⟩)],[(d,some ⟨cells,false,false⟩)]⟩ (oH xs) [] [d]:=by
 intro F hs hl hnd a w ⟨ow,β,hsim⟩ Q
 have hdN:=(aO _ _).1 hd
 have hargs:=uF hsim ha hs hl
 unfold Oper.wp
 have hrun:(execOp a.eval ⟨some d,.call ⟨.value (.func f),xs.toArray,us⟩,ty,pos,af,g⟩).run P w=.ok (.enter f (xs.map a.eval).toArray) w:=by
  simp[execOp,resolve,Act.eval,Deferred.ofValue,invoke,hfc.run]
 rw[hrun]
 show Calls _ _ _ _ _
 refine(hm w (xs.map a.eval).toArray (fun b=>Im Γ ow w b\/∃ l∈([]:List Nat),ow b=.lab l) (by simpa using hargs)).mono fun e w' ⟨c,B,he,hb,h1,h2,h3⟩=>?_
 subst he
 show Sim Γ _ _ _
 simp only[RelV]at h1
 rcases h1 with⟨rfl,rfl,_,rfl⟩ | ⟨b,cap,cs,t,O',⟨rfl,q2,q3⟩,q4,q5,rfl⟩
 · obtain⟨ow',h'⟩:=(hsim.grow hb).layNil (hnd d (by simp)) hio [] [] false false
   have h2:=h'.put (d:=d) (v:=.ref d s 0 0) (c:=.slice none 0 0) (O:=[]) hdN (by simp only[RelV];simp) (by simp)
   exact⟨_,_,h2.congr (fun k=>rfl) (fun l=>rfl)⟩
 · obtain⟨ow',h'⟩:=hsim.growSh hb q4 (h3 b O' rfl).1 q5 (fun x hx=>by
    obtain⟨g1,g2⟩:=h2 x (by simp[hx])
    refine⟨g1,fun e=>(h3 b O' rfl).2 (e▸hx),?_⟩
    rcases g2 with(g | ⟨l,hl,_⟩) | g
    · exact .inl g
    · cases hl
    · exact .inr g) (hnd d (by simp)) hio
   have h2:=h'.put (d:=d) (v:=.ref d s 0 n) (c:=.slice (some ⟨b,0,none⟩) n cap) (O:=[]) hdN (by
    simp only[RelV]
    exact⟨trivial,by simp,fun b' hb'=>by simp at hb';subst hb';exact⟨cap,cs,t,by simp,q4,by simpa using q3,q2⟩⟩) (by simp)
   exact⟨_,_,h2.congr (fun k=>rfl) (fun l=>rfl)⟩
end
end Go.Ev
