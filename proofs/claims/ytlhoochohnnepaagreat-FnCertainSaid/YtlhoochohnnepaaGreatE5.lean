/- Parts EvPP, EvQQ, EvRR, EvSS, EvTT, EvUU, EvVV. -/
import Derived.Test.YtlhoochohnnepaaGreatE4
set_option linter.all false
/- The engine, part PP: a drawn region in which one pair of operations is not ordered (printed by mkpp.py). -/
namespace Go.Ev
def exm (p q:Nat)(l:List Nat):List Nat:=l.set q (l.getD q 0 ||| 2 ^ p)
theorem aLJ {p q i j:Nat}{l:List Nat}(h:¬(i=q/\j=p)):((exm p q l).getD i 0).testBit j=(l.getD i 0).testBit j:=by
 unfold exm
 by_cases hi:i=q
 · subst hi
   have hj:j≠p:=fun e=>h ⟨rfl,e⟩
   simp only[List.getD_eq_getElem?_getD]
   by_cases hl:i<l.length
   · rw[List.getElem?_set_self hl,Option.getD_some,Nat.testBit_or,Nat.testBit_two_pow_of_ne (Ne.symm hj),Bool.or_false]
   · rw[List.getElem?_eq_none (by simp;omega),List.getElem?_eq_none (by omega)]
 · simp only[List.getD_eq_getElem?_getD]
   rw[List.getElem?_set_ne (fun e=>hi e.symm)]
def XOk {P:Program}{N:Nat}(Γ:Ctx P N)(ops:Array Oper)(items:List Item)(E0:Env)(p q:Nat):Prop :=
 ∃ x y,items[q]?=some x/\items[p]?=some y/\p<q/\uI x y=false/\x.nl=[]/\y.nl=[]/\rA Γ ops q (pt (fun j=>Nat.blt j q&&!(Nat.beq j p)) items 0 E0) x.e x.rs x.ro x.nl
theorem XOk.intro {P:Program}{N:Nat}{Γ:Ctx P N}{ops:Array Oper}{items:List Item}{E0:Env}{p q:Nat}{x y:Item}{o:Oper}(h1:items[q]?=some x)(h2:items[p]?=some y)(h3:Nat.blt p q=true)(h4:uI x y=false)(h5:x.nl=[])(h6:y.nl=[])
 (ho:ops[q]?=some o) (hg:o.guard=none) (hl:Local Γ o ⟨(pt (fun j=>Nat.blt j q&&!(Nat.beq j p)) items 0 E0).s,(pt (fun j=>Nat.blt j q&&!(Nat.beq j p)) items 0 E0).o⟩ x.e x.rs x.ro x.nl):XOk Γ ops items E0 p q :=
 ⟨x,y,h1,h2,(aU _ _).1 h3,h4,h5,h6,Local.at ho hg hl⟩
theorem aIX {P:Program}{N:Nat}{Γ:Ctx P N}{ops:Array Oper}{items:List Item}{E0:Env}{p q:Nat}{Q:Exit->Act->World->Prop}
 (hlen:items.length=ops.size) (hch:aGC Γ ops items E0) (hdep:vG (exm p q (xP ops.toList [])) items items 0=true) (hed:qW ops.toList 0=true) (hX:XOk Γ ops items E0 p q)
 (hQ:∀ a w,Sim Γ (pt (fun _=>true) items 0 E0) a w->Q .normal a w) :
 ∀ (fuel:Nat) (listed:Array Bool) (a:Act) (w:World),listed.size=ops.size->((List.range ops.size).filter fun j=>!listed.getD j false).length<=fuel->
  (∀ i j,listed.getD i false=true->((xP ops.toList []).getD i 0).testBit j=true->listed.getD j false=true)->
  Sim Γ (pt (fun j=>listed.getD j false) items 0 E0) a w->wpAny P .any ops Q fuel listed a w:=by
 have hend:∀ (listed:Array Bool) (a:Act) (w:World),listed.size=ops.size->Region.ready .any ops listed=[]->Sim Γ (pt (fun j=>listed.getD j false) items 0 E0) a w->Q .normal a w:=by
  intro listed a w hsz hr hs
  have hall:∀ i,i<ops.size->listed.getD i false=true:=by
   intro i
   induction i using Nat.strongRecOn with
   | _ i ih =>
    intro hi
    cases hx:listed.getD i false with
    | true=>rfl
    | false =>
     exfalso
     have hm:i∈Region.ready .any ops listed:=by
      rw[mem_ready]
      have ho:ops[i]?=some ops[i]:=Array.getElem?_eq_getElem hi
      refine⟨?_,ops[i],ho,fun e he hb=>?_⟩
      · simp only[Array.getD_eq_getD_getElem?]at hx ⊢
        rw[Array.getElem?_eq_getElem (by omega)]at hx ⊢;simpa using hx
      · have hlt:=aAQ hed i ops[i] (by simp) e he hb
        rw[Nat.zero_add]at hlt
        exact ih e.on hlt (by omega)
     rw[hr]at hm;cases hm
  refine hQ a w (hs.congr (fun k=>?_) (fun l=>?_))
  · refine aCU items 0 E0 E0 (fun j x hx _=>?_) rfl
    have:j<ops.size:=by rw[<- hlen];exact(List.getElem?_eq_some_iff.1 hx).1
    simp only[Nat.zero_add];rw[hall j this]
  · refine aCT items 0 E0 E0 (fun j x hx _=>?_) rfl
    have:j<ops.size:=by rw[<- hlen];exact(List.getElem?_eq_some_iff.1 hx).1
    simp only[Nat.zero_add];rw[hall j this]
 intro fuel
 induction fuel with
 | zero =>
  intro listed a w hsz hc _ hs
  have hr:Region.ready .any ops listed=[]:=by
   rw[List.eq_nil_iff_forall_not_mem]
   intro i hi
   obtain⟨h1,o,ho,_⟩:=mem_ready.1 hi
   have hi':i<ops.size:=(Array.getElem?_eq_some_iff.1 ho).1
   have:i∈(List.range ops.size).filter fun j=>!listed.getD j false:=by
    rw[List.mem_filter]
    refine⟨List.mem_range.2 hi',?_⟩
    simp only[Array.getD_eq_getD_getElem?]at h1 ⊢
    rw[Array.getElem?_eq_getElem (by omega)]at h1 ⊢;simpa using h1
   rw[List.length_eq_zero_iff.1 (Nat.le_zero.1 hc)]at this;cases this
  exact⟨hr,hend listed a w hsz hr hs⟩
 | succ fuel ih =>
  intro listed a w hsz hc hcl hs
  refine⟨fun hr=>hend listed a w hsz hr hs,fun i hi=>?_⟩
  obtain⟨h1,o,ho,hedges⟩:=mem_ready.1 hi
  have hi':i<ops.size:=(Array.getElem?_eq_some_iff.1 ho).1
  have hun:listed.getD i false=false:=by
   simp only[Array.getD_eq_getD_getElem?]at h1 ⊢
   rw[Array.getElem?_eq_getElem (by omega)]at h1 ⊢;simpa using h1
  obtain⟨x,hx⟩:∃ x,items[i]?=some x:=⟨items[i]'(by omega),by simp⟩
  have hol:ops.toList[i]?=some o:=by simpa using ho
  have hanc:∀ j,((xP ops.toList []).getD i 0).testBit j=true->listed.getD j false=true:=by
   intro j hj
   obtain⟨e,he,hb,h2⟩:=aGt hol hj
   have h3:=hedges e he hb
   rcases h2 with rfl | h2
   · exact h3
   · exact hcl _ j h3 h2
  obtain⟨xq,xp,q1,q2,hpq,q4,q5,q6,q7⟩:=hX
  have hpast:∀ j y,j<i->items[j]?=some y->(uI x y=true\/uI y x=true)->¬(i=q/\j=p)->listed.getD j false=true:=by
   intro j y hj hy hh hne
   refine hanc j ?_
   have:=wQ hdep i x hx j y (by omega) hy hh
   rw[Nat.zero_add]at this
   rwa [aLJ hne]at this
  have hfut:∀ j y,i<j->items[j]?=some y->(uI x y=true\/uI y x=true)->¬(j=q/\i=p)->listed.getD j false=false:=by
   intro j y hj hy hh hne
   cases hd:listed.getD j false with
   | false=>rfl
   | true =>
    have:=wQ hdep j y hy i x (by omega) hx hh.symm
    rw[Nat.zero_add,aLJ hne]at this
    rw[hcl j i hd this]at hun;cases hun
  have hno:∀ y,items[q]?=some y->i=p->uI y x=false:=by
   intro y hy hi2
   subst hi2
   rw[q1]at hy;cases hy
   rw[q2]at hx;cases hx
   exact q4
  have hview:∃ D:Nat->Bool,(D=(fun j=>Nat.blt j i)\/(i=q/\D=(fun j=>Nat.blt j q&&!(Nat.beq j p))))/\(∀ j y,items[j]?=some y->uI y x=true->j≠i->listed.getD j false=D j)/\(∀ j,j=i->listed.getD j false=D j):=by
   by_cases hc:i=q/\listed.getD p false=false
   · refine⟨_,.inr ⟨hc.1,rfl⟩,fun j y hy hh hne=>?_,?_⟩
     · obtain⟨hi2,hp2⟩:=hc
       by_cases hjp:j=p
       · subst hjp;rw[hp2];simp
       · rcases Nat.lt_or_ge j i with h | h
         · rw[hpast j y h hy (.inr hh) (fun g=>hjp g.2),(aU _ _).2 (by omega),kU,decide_eq_false hjp];rfl
         · rw[hfut j y (by omega) hy (.inr hh) (fun g=>by omega)]
           have:Nat.blt j q=false:=by rw[uJ];exact decide_eq_false (by omega)
           rw[this];rfl
     · rintro j rfl
       rw[hun]
       have:Nat.blt j q=false:=by rw[uJ];exact decide_eq_false (by omega)
       rw[this];rfl
   · refine⟨_,.inl rfl,fun j y hy hh hne=>?_,?_⟩
     · rcases Nat.lt_or_ge j i with h | h
       · rw[(aU _ _).2 h]
         by_cases hq2:i=q/\j=p
         · obtain⟨g1,g2⟩:=hq2
           subst g2
           cases hl:listed.getD j false with
           | true=>rfl
           | false=>exact absurd ⟨g1,hl⟩ hc
         · exact hpast j y h hy (.inr hh) hq2
       · have hlt:i<j:=by omega
         have hne2:¬(j=q/\i=p):=by
          rintro⟨g1,g2⟩
          subst g1
          rw[hno y hy g2]at hh;cases hh
         rw[hfut j y hlt hy (.inr hh) hne2,uJ];exact(decide_eq_false (by omega)).symm
     · rintro j rfl
       rw[hun,uJ];exact(decide_eq_false (by omega)).symm
  obtain⟨D,hD1,hsel,hself⟩:=hview
  have hloc:rA Γ ops i (pt D items 0 E0) x.e x.rs x.ro x.nl:=by
   rcases hD1 with rfl | ⟨g,rfl⟩
   · exact(hch i x hx).1
   · subst g
     rw[q1]at hx;cases hx
     exact q7
  have hwr:∀ j y,i<j->items[j]?=some y->uI y x=true->listed.getD j false=false:=by
   intro j y hj hy hh
   refine hfut j y hj hy (.inr hh) ?_
   rintro⟨g1,g2⟩
   subst g1
   rw[hno y hy g2]at hh;cases hh
  have hst:=hloc (pt (fun j=>listed.getD j false) items 0 E0)
   (fun k hk=>aCU items 0 E0 E0 (fun j y hy hky=>by
    simp only[Nat.zero_add]
    by_cases hji:j=i
    · exact hself j hji
    · exact hsel j y hy (aIr hky (.inl hk)) hji) rfl)
   (fun l hl=>aCT items 0 E0 E0 (fun j y hy hky=>by
    simp only[Nat.zero_add]
    by_cases hji:j=i
    · exact hself j hji
    · exact hsel j y hy (aIs hky (.inl hl)) hji) rfl)
   (fun d hd=>aFt ((hch i x hx).2 d hd).1 (fun j y hy hD=>by
    rcases Nat.lt_trichotomy j i with hlt | heq | hgt
    · exact((hch i x hx).2 d hd).2 j y hlt hy
    · subst heq;rw[hun]at hD;cases hD
    · cases hsy:tI y.e d with
      | false=>rfl
      | true =>
       rw[hfut j y hgt hy (.inl (aN0 hd hsy)) (fun g=>by
        obtain⟨_,g2⟩:=g
        subst g2
        rw[q2]at hx;cases hx
        rw[q6]at hd;cases hd)]at hD;cases hD))
  refine wpOp_mono (fun a' w' hs'=>?_) (hst a w hs Q)
  have hset:∀ j,(listed.setIfInBounds i true).getD j false=(bif Nat.beq i j then true else listed.getD j false):=by
   intro j
   simp only[Array.getD_eq_getD_getElem?,kU]
   by_cases hij:i=j
   · subst hij;simp[hsz,hi']
   · simp[Array.getElem?_setIfInBounds_ne hij,hij]
  refine ih (listed.setIfInBounds i true) a' w' (by simpa using hsz) ?_ ?_ ?_
  · have hlt:((List.range ops.size).filter fun j=>!(listed.setIfInBounds i true).getD j false).length<((List.range ops.size).filter fun j=>!listed.getD j false).length:=by
     have e:((List.range ops.size).filter fun j=>!(listed.setIfInBounds i true).getD j false)=((List.range ops.size).filter fun j=>!listed.getD j false).filter (fun j=>!Nat.beq i j):=by
      rw[List.filter_filter]
      congr 1;funext j;rw[hset]
      cases Nat.beq i j <;> simp
     rw[e,List.length_filter_lt_length_iff_exists]
     refine⟨i,?_,by simp⟩
     rw[List.mem_filter];exact⟨List.mem_range.2 hi',by rw[hun];rfl⟩
    omega
  · intro i' j h2 h3
    rw[hset]at h2 ⊢
    have:listed.getD j false=true:=by
     cases hb:Nat.beq i i' with
     | true =>
      have:=Nat.eq_of_beq_eq_true hb
      subst this
      exact hanc j h3
     | false=>rw[hb]at h2;exact hcl i' j h2 h3
    rw[this];cases Nat.beq i j <;> rfl
  · refine hs'.congr (fun k=>?_) (fun l=>?_)
    · by_cases hk:k∈x.e.s.map (·.1)
      · simp only[Env.app]
        rw[jZ _ _ _ hk]
        refine aEO items 0 E0 i x hx ?_ hk (fun j' y hj' hy hky=>?_)
        · rw[hset];simp
        · rw[Nat.zero_add,hset,hwr j' y hj' hy (aIr hky (.inr hk))]
          rw[kU,decide_eq_false (by omega)];rfl
      · simp only[Env.app]
        rw[lG _ _ _ hk]
        refine aCU items 0 E0 E0 (fun j y hy hky=>?_) rfl
        rw[Nat.zero_add,hset,kU]
        by_cases hij:i=j
        · subst hij;rw[hx]at hy;cases hy;exact absurd hky hk
        · rw[decide_eq_false hij];rfl
    · by_cases hk:l∈x.e.o.map (·.1)
      · simp only[Env.app]
        rw[cW _ _ _ hk]
        refine aCV items 0 E0 i x hx ?_ hk (fun j' y hj' hy hky=>?_)
        · rw[hset];simp
        · rw[Nat.zero_add,hset,hwr j' y hj' hy (aIs hky (.inr hk))]
          rw[kU,decide_eq_false (by omega)];rfl
      · simp only[Env.app]
        rw[bV _ _ _ hk]
        refine aCT items 0 E0 E0 (fun j y hy hky=>?_) rfl
        rw[Nat.zero_add,hset,kU]
        by_cases hij:i=j
        · subst hij;rw[hx]at hy;cases hy;exact absurd hky hk
        · rw[decide_eq_false hij];rfl
section
variable {P:Program}{N:Nat}{Γ:Ctx P N}{E:Env}{Q:Exit->Env->Prop}
theorem CodeT.regionX (p q:Nat){id:Nat}{l:List Oper}(hm:P.follows .mixedOrders=true)
 (h:Run Γ l (fun items E'=>(vG (exm p q (xP l [])) items items 0=true/\qW l 0=true/\XOk Γ l.toArray items E p q)/\Q .normal E') l [] E):CodeT Γ (.region id l.toArray true) E Q:=by
 intro a w hs
 obtain⟨items,h1,h2,h3,h4⟩:=aG3 (ops:=l.toArray) (E0:=E) h [] rfl rfl (by intro i x hx;simp at hx) (by simp[pt])
 refine wp_region_any hm ?_
 refine aIX h1 h2 h3.1 h3.2.1 h3.2.2 (fun a w hs=>⟨_,hs,h4⟩) _ _ _ _ (by simp) ?_ ?_ ?_
 · exact Nat.le_trans (List.length_filter_le _ _) (by simp)
 · intro i j hi
   simp[Array.getD_eq_getD_getElem?,Array.getElem?_replicate]at hi
   split at hi <;> simp at hi
 · rw[aH8 _ _ _ _ (fun j=>by
    simp[Array.getD_eq_getD_getElem?,Array.getElem?_replicate]
    split <;> simp)]
   obtain⟨ow,β,hs⟩:=hs
   exact⟨ow,β,{ size:=hs.size,defers:=hs.defers,kept:=⟨hs.kept.os,hs.kept.output,hs.kept.tape,hs.kept.size,hs.kept.old,hs.kept.ios⟩,slots:=hs.slots,objs:=hs.objs,gone:=hs.gone,own:=hs.own,ios:=hs.ios,fresh:=hs.fresh }⟩
end
end Go.Ev
/- The engine, part QQ: functions that return a new row whose elements are shared: the row becomes the caller's own row. -/
namespace Go.Ev
open Go.RowKit (Below)
def MeetsF (P:Program)(f:FuncId)(args:List PV)(s n:Nat)(cells:List PV):Prop :=
 ∀ (w:World) (cargs:Array Value) (ok:Nat->Prop),RelArgs w.heap ok args cargs.toList->
  Calls P f cargs w fun e w'=>∃ c B,e=.returned c/\Below w.heap.size w w'/\RelV w'.heap dead (.rw s n cells) c B/\(∀ b∈B,b<w'.heap.size/\(ok b\/w.heap.size<=b))/\(∀ b B',B=b::B'->w.heap.size<=b/\b∉B')
theorem MeetsF.soft {P:Program}{f:FuncId}{args:List PV}{s n:Nat}{cells:List PV}(h:MeetsF P f args s n cells):Meets P f args (.sl n cells) false :=
 fun w cargs ok ha=>(h w cargs ok ha).mono fun _ _ ⟨c,B,h1,h2,h3,h4,_⟩=>⟨c,B,h1,h2,h3.soft,fun b hb=>(h4 b hb).2,by simp⟩
section
variable {P:Program}{N:Nat}{Γ:Ctx P N}{S:List (Nat×Slot)}{O:List (Nat×Option Ob)}{ow:Nat->Own}{β:Nat->Option (Option Nat)}{F:Env}{a:Act}{w:World}
def ResF (Γ:Ctx P N)(rs:Array ResultVar)(E:Env)(s n:Nat)(cells:List PV):Prop :=
 ∀ fn:Func,fn.results=rs->∀ a w,Sim Γ E a w->∃ c B,(results fn a.tmps).run P w=.ok c w/\RelV w.heap dead (.rw s n cells) c B/\(∀ b∈B,b<w.heap.size/\(Γ.ok b\/Γ.nw b))/\(∀ b B',B=b::B'->Γ.nww b/\b∉B')
def aPS (Γ:Ctx P N)(rs:Array ResultVar)(s n:Nat)(cells:List PV):Exit->Env->Prop
 | .normal,E=>ResF Γ rs E s n cells
 | .ret,E=>ResF Γ rs E s n cells
 | _,_=>False
theorem aRS {rs:Array ResultVar}{E:Env}{s n:Nat}{cells:List PV}(h:ResF Γ rs E s n cells):aPS Γ rs s n cells .ret E:=h
theorem ResF.weak {E E0:Env}{rs:Array ResultVar}{s n:Nat}{cells:List PV}(he:Ent Γ E E0)(h:ResF Γ rs E0 s n cells):ResF Γ rs E s n cells:=fun fn hf a w hs=>h fn hf a w (he a w hs)
theorem ResF.mk {t l s n:Nat}{cells:List PV}{dp dp0:Bool}(h:lkq S t=some ⟨.ref l s 0 n,dp0⟩)(ho:loq O l=some ⟨cells,dp,false⟩)(hio:Γ.io l=none):ResF Γ #[.tmp t] ⟨S,O⟩ s n cells:=by
 rintro fn hf a w ⟨ow,β,hs⟩
 rw[zF hf]
 obtain⟨B,h1,_⟩:=hs.slots t
 rw[gY h]at h1
 simp only[RelV]at h1
 obtain⟨Bo,o1,o2,hob⟩:=hs.objs l ⟨cells,dp,false⟩ (by rw[<- dD];exact ho)
 rcases hob with⟨p1,p2,p3⟩ | ⟨b,cs,u,p1,p2,p3,p4⟩
 · obtain⟨rfl,_,e⟩:=h1.2.1 p1
   simp only at p2;subst p2
   exact⟨_,[],rfl,by simp only[RelV];exact .inl ⟨trivial,trivial,trivial,e⟩,by simp,by simp⟩
 · obtain⟨cap,cs',u',q1,q0,q3,q4⟩:=h1.2.2 b p1
   rw[p3]at q0;cases q0
   simp only[Nat.zero_mul,Nat.zero_add]at q1 q3
   refine⟨_,b::Bo,rfl,by simp only[RelV];exact .inr ⟨b,cap,cs,u,Bo,⟨q1,q4,q3⟩,p3,by simpa using p4,rfl⟩,fun c hc=>?_,fun b' B' e=>?_⟩
   · rcases List.mem_cons.1 hc with rfl | hc
     · exact⟨hs.block_lt p1,.inr (.inl (hs.fresh l _ p1 hio))⟩
     · exact⟨(o1 c hc).1,(o1 c hc).2.1⟩
   · cases e
     exact⟨hs.fresh l _ p1 hio,fun hb=>(o1 b hb).2.2 l p2⟩
theorem MeetsF.intro {f:FuncId}{fn:Func}{c:Code}{args:List PV}{s n:Nat}{cells:List PV}{rs:Array ResultVar}(hf:P.funcs[f]?=some fn)(hb:fn.body=some c)(hN:fn.ntmps=N)(hrs:fn.results=rs)(hn:Nat.ble args.length N=true)
 (h:∀ Γ:Ctx P N,(∀ l,Nat.blt l 100000=true->Γ.io l=none)->CodeT Γ c ⟨kS args 0,[]⟩ (aPS Γ rs s n cells)):MeetsF P f args s n cells:=by
 intro w cargs ok ha
 obtain⟨h1,h2⟩:=ha.get
 have hn:=Nat.le_of_ble_eq_true hn
 let Γ:Ctx P N:={ base:=w.heap.size,ok:=fun b=>ok b,io:=fun _=>none,w0:=w,mine:=fun _=>False,lent:=fun _=>False }
 have hsz:(cargs++Array.replicate (fn.ntmps-cargs.size) undef).size=N:=by
  have:cargs.size=args.length:=by rw[h1];simp
  simp[this,hN];omega
 refine calls_of_wp hf hb ?_
 have hsim:Sim Γ ⟨kS args 0,[]⟩ { tmps:=cargs++Array.replicate (fn.ntmps-cargs.size) undef,defers:=[] } w:=by
  refine⟨fun _=>.none,fun _=>none,{ size:=hsz,defers:=rfl,kept:=⟨rfl,rfl,rfl,Nat.le_refl _,fun _ _ _ _=>rfl,fun b _ _ cs t h=>⟨cs,h,rfl⟩⟩,slots:=fun k=>?_,objs:=fun l ob hl=>(by simp[lo]at hl),gone:=fun _ _=>rfl,own:=fun b hb=>absurd rfl hb,ios:=fun l b hl=>(by cases hl),fresh:=fun l b hl=>(by cases hl) }⟩
  rw[qZ]
  by_cases hk:k<args.length
  · rw[if_pos ⟨Nat.zero_le _,by simpa using hk⟩]
    obtain⟨B,g1,g2⟩:=h2 k hk
    refine⟨B,?_,fun b hb=>⟨RelV.below _ _ _ g1 b hb,.inl (g2 b hb),fun l=>by simp⟩,by simp⟩
    have e:(cargs++Array.replicate (fn.ntmps-cargs.size) undef).getD k undef=cargs.toList.getD k undef:=by
     have hlt:k<cargs.size:=by rw[h1]at hk;simpa using hk
     simp[Array.getD_eq_getD_getElem?,Array.getElem?_append,hlt,List.getD_eq_getElem?_getD]
    rw[e]
    simp only[Nat.sub_zero]
    exact RelV.keep _ _ _ (fun l _=>by intro ob h;cases h) (fun _ _=>rfl) g1
  · rw[if_neg (by simpa using hk)]
    exact⟨[],by simp[RelV],by simp,by simp⟩
 refine wp_mono (h Γ (fun _ _=>rfl) _ _ hsim) fun e a' w' ⟨E',hs',hq⟩=>?_
 have fin:ResF Γ rs E' s n cells->a'.defers=[]/\∃ v,(results fn a'.tmps).run P w'=.ok v w'/\∃ c B,Ending.returned v=.returned c/\Below w.heap.size w w'/\RelV w'.heap dead (.rw s n cells) c B/\(∀ b∈B,b<w'.heap.size/\(ok b\/w.heap.size<=b))/\(∀ b B',B=b::B'->w.heap.size<=b/\b∉B'):=by
  intro hr
  obtain⟨c,B,g1,g2,g3,g4⟩:=hr fn hrs a' w' hs'
  obtain⟨ow,β,hs'⟩:=hs'
  exact⟨hs'.defers,c,g1,c,B,rfl,⟨hs'.kept.os,hs'.kept.tape,hs'.kept.output,hs'.kept.size,fun k hk=>hs'.kept.old k hk (fun l=>by simp[Γ]) (fun h=>h)⟩,g2,fun b hb=>⟨(g3 b hb).1,(g3 b hb).2.imp id (fun h=>(h.elim id False.elim:Γ.nww b).elim id False.elim)⟩,fun b B' e=>⟨(g4 b B' e).1.elim id False.elim,(g4 b B' e).2⟩⟩
 cases e with
 | normal=>exact fin hq
 | ret=>exact fin hq
 | exit id=>exact hq.elim
 | goto l=>exact hq.elim
 | panic ch=>exact hq.elim
 | outgrown=>exact hq.elim
theorem SimG.growSh (h:SimG Γ ow β F a w){w':World}(hb:Below w.heap.size w w'){d b0:Nat}{cs:Array Value}{t:TypeId}{cells:List PV}{B:List Nat}(hrow:w'.heap[b0]?=some (.cells cs t (0,0)))(hge:w.heap.size<=b0)
 (hrel:RelL w'.heap true dead cells cs 0 B) (hB:∀ b∈B,b<w'.heap.size/\b≠b0/\(Im Γ ow w b\/w.heap.size<=b)) (hnl:NoLab F d) (hio:Γ.io d=none) :
 ∃ ow',SimG Γ ow' (fun m=>if m=d then some (some b0)else β m) (F.app ⟨[],[(d,some ⟨cells,false,false⟩)]⟩) a w':=by
 let β':Nat->Option (Option Nat):=fun m=>if m=d then some (some b0)else β m
 let ow':Nat->Own:=fun b=>if b=b0 then .lab d else if w.heap.size<=b then .none else ow b
 have how:∀ b,b<w.heap.size->ow' b=ow b:=fun b hlt=>by
  show(if _ then _ else _)=_
  rw[if_neg (by omega),if_neg (by omega)]
 have hβ2:∀ m,m≠d->β' m=β m:=fun m hm=>by show(if _ then _ else _)=_;rw[if_neg hm]
 have hlt0:b0<w'.heap.size:=by
  rcases Nat.lt_or_ge b0 w'.heap.size with h | h
  · exact h
  · simp[Array.getElem?_eq_none h]at hrow
 have hIm:∀ b,Im Γ ow w b->Im Γ ow' w' b:=fun b ⟨h1,h2,h3⟩=>⟨Nat.lt_of_lt_of_le h1 hb.size,h2,fun l=>by rw[how b h1];exact h3 l⟩
 have hFree:∀ b,b<w.heap.size->hY w b->hY w' b:=fun b hlt ⟨cs,t,hc⟩=>⟨cs,t,by rw[hb.block b hlt];exact hc⟩
 have hkeep:∀ m,m≠d->KeepB w.heap w'.heap β β' m:=by
  intro m hm o ho
  rw[hβ2 m hm]at ho
  refine⟨ho,fun b hob cs t hc=>⟨cs,?_,rfl⟩⟩
  subst hob
  rw[hb.block b (h.block_lt ho)];exact hc
 refine⟨ow',{ size:=h.size,defers:=h.defers,kept:=?_,slots:=fun k=>?_,objs:=fun l ob hl=>?_,gone:=fun l hl=>?_,own:=fun b hb'=>?_,ios:=fun m b hm hs=>?_,fresh:=fun l b hl hi=>?_ }⟩
 · exact⟨hb.os.trans h.kept.os,hb.output.trans h.kept.output,hb.tape.trans h.kept.tape,Nat.le_trans h.kept.size hb.size,
    fun b h1 h2 hmi=>(hb.block b (Nat.lt_of_lt_of_le h1 h.kept.size)).trans (h.kept.old b h1 h2 hmi),
    fun b h1 hmi cs t h2=>by
     obtain⟨cs',h3,h4⟩:=h.kept.ios b h1 hmi cs t h2
     exact⟨cs',by rw[hb.block b (Nat.lt_of_lt_of_le h1 h.kept.size)];exact h3,h4⟩⟩
 · obtain⟨B',h1,h2,h3⟩:=h.slots k
   refine⟨B',RelV.keep _ _ _ (fun l hl=>hkeep l (fun e=>hnl.1 k (e▸hl))) (fun b hbO=>hb.block b (h2 b hbO).1) h1,fun b hbO=>hIm b (h2 b hbO),fun hd=>⟨(h3 hd).1,fun b hbO=>⟨?_,hFree b (h2 b hbO).1 ((h3 hd).2 b hbO).2⟩⟩⟩
   rw[how b (h2 b hbO).1];exact((h3 hd).2 b hbO).1
 · simp only[Env.app,List.cons_append,List.nil_append,aY]at hl
   by_cases hm:d=l
   · subst hm
     rw[if_pos rfl]at hl;cases hl
     refine⟨B,fun b hbn=>?_,fun hd=>(by cases hd),.inr ⟨b0,cs,t,?_,?_,hrow,hrel⟩⟩
     · obtain⟨g1,g2,g3⟩:=hB b hbn
       rcases g3 with g3 | g3
       · exact hIm b g3
       · refine⟨g1,.inr (.inl (.inl (Nat.le_trans h.kept.size g3))),fun l=>?_⟩
         show(if _ then _ else _)≠_
         rw[if_neg g2,if_pos g3];simp
     · show(if _ then _ else _)=_;rw[if_pos rfl]
     · show(if _ then _ else _)=_;rw[if_pos rfl]
   · rw[if_neg hm]at hl
     obtain⟨B',h1,h2,h3⟩:=h.objs l ob hl
     refine⟨B',fun b hbO=>hIm b (h1 b hbO),fun hd=>⟨(h2 hd).1,fun b hbO=>⟨by rw[how b (h1 b hbO).1];exact((h2 hd).2 b hbO).1,hFree b (h1 b hbO).1 ((h2 hd).2 b hbO).2⟩⟩,?_⟩
     rcases h3 with⟨g1,g2,g3⟩ | ⟨b,cs,t,g1,g2,g3,g4⟩
     · exact .inl ⟨(hβ2 l (Ne.symm hm)).trans g1,g2,g3⟩
     · refine .inr ⟨b,cs,t,(hβ2 l (Ne.symm hm)).trans g1,by rw[how b (h.block_lt g1)];exact g2,by rw[hb.block b (h.block_lt g1)];exact g3,?_⟩
       cases hbx:ob.box with
       | true=>rw[hbx]at g4;exact RelL.keep _ _ _ _ (fun p hp m hm'=>hkeep m (fun e=>hnl.2.1 l ob hl hbx p hp (e▸hm'))) (fun b hbO=>hb.block b (h1 b hbO).1) g4
       | false=>rw[hbx]at g4;exact RelL.keep _ _ _ _ (fun _ _ l _=>KeepB.dead _ _ l) (fun b hbO=>hb.block b (h1 b hbO).1) g4
 · simp only[Env.app,List.cons_append,List.nil_append,aY]at hl
   by_cases hm:d=l
   · rw[if_pos hm]at hl;cases hl
   · rw[if_neg hm]at hl
     show β' l=none
     rw[hβ2 l (Ne.symm hm)];exact h.gone l hl
 · by_cases hlt:b<w.heap.size
   · rw[how b hlt]at hb'
     obtain⟨g1,g2⟩:=h.own b hb'
     exact⟨Nat.lt_of_lt_of_le g1 hb.size,by rw[how b hlt];exact g2⟩
   · have e:b=b0:=by
      rcases Nat.decEq b b0 with e | e
      · exfalso;apply hb'
        show(if _ then _ else _)=_
        rw[if_neg e,if_pos (by omega)]
      · exact e
     subst e
     exact⟨hlt0,.inl (.inl (.inl (Nat.le_trans h.kept.size hge)))⟩
 · have hmn:d≠m:=fun e=>by subst e;rw[hio]at hm;cases hm
   simp only[Env.app,List.cons_append,List.nil_append,aY,if_neg hmn]at hs
   show β' m=_
   rw[hβ2 m (Ne.symm hmn)];exact h.ios m b hm hs
 · by_cases hm:l=d
   · subst hm
     have:(if l=l then some (some b0)else β l)=some (some b):=hl
     rw[if_pos rfl]at this;cases this
     exact .inl (Nat.le_trans h.kept.size hge)
   · have hl':β' l=some (some b):=hl
     rw[hβ2 l hm]at hl';exact h.fresh l b hl' hi
variable {d:Nat}{ty:TypeId}{pos:String}{af:Array Edge}{g:Option (Nat×Bool)}
theorem aPA {f:FuncId}[hfc:FnC P f]{xs:List Operand}{us:Array TypeId}{ps:List PV}{s n:Nat}{cells:List PV}(ha:ArgsV S O xs ps [])(hm:MeetsF P f ps s n cells)(hio:Γ.io d=none)(hd:Nat.blt d N=true) :
 Local Γ ⟨some d,.call ⟨.value (.func f),xs.toArray,us⟩,ty,pos,af,g⟩ ⟨S,O⟩ ⟨[(d,⟨.ref d s 0 n,false⟩)],[(d,some ⟨cells,false,false⟩)]⟩ (rU xs) [] [d]:=by
 intro F hs hl hnd a w ⟨ow,β,hsim⟩ Q
 have hdN:=(aU _ _).1 hd
 have hargs:=yU hsim ha hs hl
 unfold Oper.wp
 have hrun:(execOp a.eval ⟨some d,.call ⟨.value (.func f),xs.toArray,us⟩,ty,pos,af,g⟩).run P w=.ok (.enter f (xs.map a.eval).toArray) w:=by
  simp[execOp,resolve,Act.eval,Deferred.ofValue,invoke,hfc.run]
 rw[hrun]
 show Calls _ _ _ _ _
 refine(hm w (xs.map a.eval).toArray (fun b=>Im Γ ow w b\/∃ l∈([]:List Nat),ow b=.lab l) (by simpa using hargs)).mono fun e w' ⟨c,B,he,hb,h1,h2,h3⟩=>?_
 subst he
 show Sim Γ _ _ _
 simp only[RelV]at h1
 rcases h1 with⟨rfl,rfl,_,rfl⟩ | ⟨b,cap,cs,t,O',⟨rfl,q2,q3⟩,q4,q5,rfl⟩
 · obtain⟨ow',h'⟩:=(hsim.grow hb).layNil (hnd d (by simp)) hio [] [] false false
   have h2:=h'.put (d:=d) (v:=.ref d s 0 0) (c:=.slice none 0 0) (O:=[]) hdN (by simp only[RelV];simp) (by simp)
   exact⟨_,_,h2.congr (fun k=>rfl) (fun l=>rfl)⟩
 · obtain⟨ow',h'⟩:=hsim.growSh hb q4 (h3 b O' rfl).1 q5 (fun x hx=>by
    obtain⟨g1,g2⟩:=h2 x (by simp[hx])
    refine⟨g1,fun e=>(h3 b O' rfl).2 (e▸hx),?_⟩
    rcases g2 with(g | ⟨l,hl,_⟩) | g
    · exact .inl g
    · cases hl
    · exact .inr g) (hnd d (by simp)) hio
   have h2:=h'.put (d:=d) (v:=.ref d s 0 n) (c:=.slice (some ⟨b,0,none⟩) n cap) (O:=[]) hdN (by
    simp only[RelV]
    exact⟨trivial,by simp,fun b' hb'=>by simp at hb';subst hb';exact⟨cap,cs,t,by simp,q4,by simpa using q3,q2⟩⟩) (by simp)
   exact⟨_,_,h2.congr (fun k=>rfl) (fun l=>rfl)⟩
end
end Go.Ev
/- The engine, part RR: a rule and the step that uses it in one; what is plain is found by itself (printed by mkrr.py). -/
namespace Go.Ev
section
variable {P:Program}{N:Nat}{Γ:Ctx P N}{S S':List (Nat×Slot)}{O O':List (Nat×Option Ob)}
variable {d:Nat}{ty:TypeId}{pos:String}{af:Array Edge}{g:Option (Nat×Bool)}
variable {x y:Operand}{u u':TypeId}{k:IntKind}{m n r:Int}
variable {ops rest:List Oper}{K:List Item->Env->Prop}{acc:List Item}{gs:List Nat}
theorem aRt {x:Operand}{v:PV}(hrun:Run Γ ops K rest (⟨⟨[(d,⟨v,false⟩)],[]⟩,gs++(ors x),[],[]⟩::acc) ⟨[(d,⟨v,false⟩)]++S,[]++O⟩)(hv:evq S x=some v:=by rfl)(hd:Nat.blt d N=true:=by rfl)(hgd:gd N ops S true g=some gs:=by rfl):Run Γ ops K (⟨some d,.move x,ty,pos,af,g⟩::rest) acc ⟨S,O⟩:=.op (aA4 hv hd) hgd rfl hrun
theorem aRC {x:Operand}{v:PV}(hrun:Run Γ ops K rest (⟨⟨[(d,⟨v,false⟩)],[]⟩,gs++(ors x),[],[]⟩::acc) ⟨[(d,⟨v,false⟩)]++S,[]++O⟩)(hv:evq S x=some v:=by rfl)(hd:Nat.blt d N=true:=by rfl)(hgd:gd N ops S true g=some gs:=by rfl):Run Γ ops K (⟨some d,.assign x,ty,pos,af,g⟩::rest) acc ⟨S,O⟩:=.op (aQb hv hd) hgd rfl hrun
theorem aOF {x:Operand}{t f off l k:Nat}{ob:Ob}[hf:FldT P t f off](hrun:Run Γ ops K rest (⟨⟨[(d,⟨.ptr l (k+off),false⟩)],[]⟩,gs++(ors x),[l],[]⟩::acc) ⟨[(d,⟨.ptr l (k+off),false⟩)]++S,[]++O⟩)(hx:evq S x=some (.ptr l k):=by rfl)(ho:loq O l=some ob:=by rfl)(hne:Nat.blt 0 ob.cells.length=true:=by rfl)(hd:Nat.blt d N=true:=by rfl)(hgd:gd N ops S true g=some gs:=by rfl):Run Γ ops K (⟨some d,.fieldAddr t x f,ty,pos,af,g⟩::rest) acc ⟨S,O⟩:=.op (aQ0 hx ho hne hd) hgd rfl hrun
theorem dK {s:Nat}{v:PV}{dp:Bool}(hrun:Run Γ ops K rest (⟨⟨[(d,⟨v,dp⟩),(s,⟨.any,false⟩)],[]⟩,gs++[s],[],[]⟩::acc) ⟨[(d,⟨v,dp⟩),(s,⟨.any,false⟩)]++S,[]++O⟩)(hv:lkq S s=some ⟨v,dp⟩:=by rfl)(hd:Nat.blt d N=true:=by rfl)(hne:Nat.beq d s=false:=by rfl)(hgd:gd N ops S true g=some gs:=by rfl):Run Γ ops K (⟨some d,.move (.tmp s),ty,pos,af,g⟩::rest) acc ⟨S,O⟩:=.op (aQU hv hd hne) hgd rfl hrun
theorem iE {s:Nat}{v:PV}{dp:Bool}(hrun:Run Γ ops K rest (⟨⟨[(d,⟨v,dp⟩),(s,⟨.any,false⟩)],[]⟩,gs++[s],[],[]⟩::acc) ⟨[(d,⟨v,dp⟩),(s,⟨.any,false⟩)]++S,[]++O⟩)(hv:lkq S s=some ⟨v,dp⟩:=by rfl)(hd:Nat.blt d N=true:=by rfl)(hne:Nat.beq d s=false:=by rfl)(hgd:gd N ops S true g=some gs:=by rfl):Run Γ ops K (⟨some d,.assign (.tmp s),ty,pos,af,g⟩::rest) acc ⟨S,O⟩:=.op (aK3 hv hd hne) hgd rfl hrun
theorem aRw {x:Operand}{t e:Nat}[ht:SlT P t e]{n:Nat}{cells:List PV}(hrun:Run Γ ops K rest (⟨⟨[(d,⟨.sc (.int .i64 n),false⟩)],[]⟩,gs++(ors x),[],[]⟩::acc) ⟨[(d,⟨.sc (.int .i64 n),false⟩)]++S,[]++O⟩)(hx:evq S x=some (.sl n cells):=by rfl)(hd:Nat.blt d N=true:=by rfl)(hgd:gd N ops S true g=some gs:=by rfl):Run Γ ops K (⟨some d,.call ⟨.builtin .len,#[x],#[t]⟩,ty,pos,af,g⟩::rest) acc ⟨S,O⟩:=.op (aRL hx hd) hgd rfl hrun
theorem aPq {c x y:Operand}{v:PV}(hrun:Run Γ ops K rest (⟨⟨[(d,⟨v,false⟩)],[]⟩,gs++(ors c++ors x),[],[]⟩::acc) ⟨[(d,⟨v,false⟩)]++S,[]++O⟩)(hc:evq S c=some (.sc (.bool true)):=by rfl)(hv:evq S x=some v:=by rfl)(hd:Nat.blt d N=true:=by rfl)(hgd:gd N ops S true g=some gs:=by rfl):Run Γ ops K (⟨some d,.pick c x y,ty,pos,af,g⟩::rest) acc ⟨S,O⟩:=.op (aPv hc hv hd) hgd rfl hrun
theorem aPr {c x y:Operand}{v:PV}(hrun:Run Γ ops K rest (⟨⟨[(d,⟨v,false⟩)],[]⟩,gs++(ors c++ors y),[],[]⟩::acc) ⟨[(d,⟨v,false⟩)]++S,[]++O⟩)(hc:evq S c=some (.sc (.bool false)):=by rfl)(hv:evq S y=some v:=by rfl)(hd:Nat.blt d N=true:=by rfl)(hgd:gd N ops S true g=some gs:=by rfl):Run Γ ops K (⟨some d,.pick c x y,ty,pos,af,g⟩::rest) acc ⟨S,O⟩:=.op (aPw hc hv hd) hgd rfl hrun
theorem sG  (hrun:Run Γ ops K rest (⟨⟨[(d,⟨.sc (.int k r),false⟩)],[]⟩,gs++(ors x++ors y),[],[]⟩::acc) ⟨[(d,⟨.sc (.int k r),false⟩)]++S,[]++O⟩)(hx:evq S x=some (.sc (.int k m)):=by rfl)(hy:evq S y=some (.sc (.int k n)):=by rfl)(hr:k.wrap (m+n)=r:=by rfl)(hd:Nat.blt d N=true:=by rfl)(hgd:gd N ops S true g=some gs:=by rfl):Run Γ ops K (⟨some d,.binOp .add u x y u',ty,pos,af,g⟩::rest) acc ⟨S,O⟩:=.op (aRR hx hy hr hd) hgd rfl hrun
theorem wT  (hrun:Run Γ ops K rest (⟨⟨[(d,⟨.sc (.int k r),false⟩)],[]⟩,gs++(ors x++ors y),[],[]⟩::acc) ⟨[(d,⟨.sc (.int k r),false⟩)]++S,[]++O⟩)(hx:evq S x=some (.sc (.int k m)):=by rfl)(hy:evq S y=some (.sc (.int k n)):=by rfl)(hr:k.wrap (m-n)=r:=by rfl)(hd:Nat.blt d N=true:=by rfl)(hgd:gd N ops S true g=some gs:=by rfl):Run Γ ops K (⟨some d,.binOp .sub u x y u',ty,pos,af,g⟩::rest) acc ⟨S,O⟩:=.op (aRF hx hy hr hd) hgd rfl hrun
theorem aRr {x:Operand}{u:TypeId}{b:Bool}(hrun:Run Γ ops K rest (⟨⟨[(d,⟨.sc (.bool (!b)),false⟩)],[]⟩,gs++(ors x),[],[]⟩::acc) ⟨[(d,⟨.sc (.bool (!b)),false⟩)]++S,[]++O⟩)(hx:evq S x=some (.sc (.bool b)):=by rfl)(hd:Nat.blt d N=true:=by rfl)(hgd:gd N ops S true g=some gs:=by rfl):Run Γ ops K (⟨some d,.unOp .not u x,ty,pos,af,g⟩::rest) acc ⟨S,O⟩:=.op (aRJ hx hd) hgd rfl hrun
theorem aRu  (hrun:Run Γ ops K rest (⟨⟨[(d,⟨.sc (.bool (decide (m<n))),false⟩)],[]⟩,gs++(ors x++ors y),[],[]⟩::acc) ⟨[(d,⟨.sc (.bool (decide (m<n))),false⟩)]++S,[]++O⟩)(hx:evq S x=some (.sc (.int k m)):=by rfl)(hy:evq S y=some (.sc (.int k n)):=by rfl)(hd:Nat.blt d N=true:=by rfl)(hgd:gd N ops S true g=some gs:=by rfl):Run Γ ops K (⟨some d,.binOp .lss u x y u',ty,pos,af,g⟩::rest) acc ⟨S,O⟩:=.op (aP5 hx hy hd) hgd rfl hrun
theorem aRv  (hrun:Run Γ ops K rest (⟨⟨[(d,⟨.sc (.bool (decide (m<=n))),false⟩)],[]⟩,gs++(ors x++ors y),[],[]⟩::acc) ⟨[(d,⟨.sc (.bool (decide (m<=n))),false⟩)]++S,[]++O⟩)(hx:evq S x=some (.sc (.int k m)):=by rfl)(hy:evq S y=some (.sc (.int k n)):=by rfl)(hd:Nat.blt d N=true:=by rfl)(hgd:gd N ops S true g=some gs:=by rfl):Run Γ ops K (⟨some d,.binOp .leq u x y u',ty,pos,af,g⟩::rest) acc ⟨S,O⟩:=.op (aP6 hx hy hd) hgd rfl hrun
theorem aRy  (hrun:Run Γ ops K rest (⟨⟨[(d,⟨.sc (.bool (decide (n<m))),false⟩)],[]⟩,gs++(ors x++ors y),[],[]⟩::acc) ⟨[(d,⟨.sc (.bool (decide (n<m))),false⟩)]++S,[]++O⟩)(hx:evq S x=some (.sc (.int k m)):=by rfl)(hy:evq S y=some (.sc (.int k n)):=by rfl)(hd:Nat.blt d N=true:=by rfl)(hgd:gd N ops S true g=some gs:=by rfl):Run Γ ops K (⟨some d,.binOp .gtr u x y u',ty,pos,af,g⟩::rest) acc ⟨S,O⟩:=.op (aP8 hx hy hd) hgd rfl hrun
theorem aRA  (hrun:Run Γ ops K rest (⟨⟨[(d,⟨.sc (.bool (decide (m=n))),false⟩)],[]⟩,gs++(ors x++ors y),[],[]⟩::acc) ⟨[(d,⟨.sc (.bool (decide (m=n))),false⟩)]++S,[]++O⟩)(hx:evq S x=some (.sc (.int k m)):=by rfl)(hy:evq S y=some (.sc (.int k n)):=by rfl)(hd:Nat.blt d N=true:=by rfl)(hgd:gd N ops S true g=some gs:=by rfl):Run Γ ops K (⟨some d,.binOp .eql u x y u',ty,pos,af,g⟩::rest) acc ⟨S,O⟩:=.op (aQa hx hy hd) hgd rfl hrun
theorem aRs  (hrun:Run Γ ops K rest (⟨⟨[(d,⟨.sc (.bool (decide (m≠n))),false⟩)],[]⟩,gs++(ors x++ors y),[],[]⟩::acc) ⟨[(d,⟨.sc (.bool (decide (m≠n))),false⟩)]++S,[]++O⟩)(hx:evq S x=some (.sc (.int k m)):=by rfl)(hy:evq S y=some (.sc (.int k n)):=by rfl)(hd:Nat.blt d N=true:=by rfl)(hgd:gd N ops S true g=some gs:=by rfl):Run Γ ops K (⟨some d,.binOp .neq u x y u',ty,pos,af,g⟩::rest) acc ⟨S,O⟩:=.op (aP4 hx hy hd) hgd rfl hrun
theorem aQN {x:Operand}{t f off:Nat}{cells:List PV}[hf:FldT P t f off](hrun:Run Γ ops K rest (⟨⟨[(d,⟨.iptr (cells.drop off),false⟩)],[]⟩,gs++(ors x),[],[]⟩::acc) ⟨[(d,⟨.iptr (cells.drop off),false⟩)]++S,[]++O⟩)(hx:evq S x=some (.iptr cells):=by rfl)(hd:Nat.blt d N=true:=by rfl)(hgd:gd N ops S true g=some gs:=by rfl):Run Γ ops K (⟨some d,.fieldAddr t x f,ty,pos,af,g⟩::rest) acc ⟨S,O⟩:=.op (aQ1 hx hd) hgd rfl hrun
theorem aRx {x:Operand}{t n by_:Nat}{cells:List PV}{c:PV}[ht:TI P t n false by_](hrun:Run Γ ops K rest (⟨⟨[(d,⟨c,false⟩)],[]⟩,gs++(ors x),[],[]⟩::acc) ⟨[(d,⟨c,false⟩)]++S,[]++O⟩)(hx:evq S x=some (.iptr cells):=by rfl)(hc:cells[0]?=some c:=by rfl)(hl:c.labs=[]:=by rfl)(hd:Nat.blt d N=true:=by rfl)(hgd:gd N ops S true g=some gs:=by rfl):Run Γ ops K (⟨some d,.load t x,ty,pos,af,g⟩::rest) acc ⟨S,O⟩:=.op (aP7 hx hc hl hd) hgd rfl hrun
theorem aEi {x:Operand}{t n by_ l k:Nat}{cells:List PV}{dp bx:Bool}{c:PV}[ht:TI P t n false by_](hrun:Run Γ ops K rest (⟨⟨[(d,⟨c,false⟩)],[]⟩,gs++(ors x),[l],[]⟩::acc) ⟨[(d,⟨c,false⟩)]++S,[]++O⟩)(hx:evq S x=some (.ptr l k):=by rfl)(ho:loq O l=some ⟨cells,dp,bx⟩:=by rfl)(hc:cells[k]?=some c:=by rfl)(hl:(bx||aKk c)=true:=by rfl)(hd:Nat.blt d N=true:=by rfl)(hgd:gd N ops S true g=some gs:=by rfl):Run Γ ops K (⟨some d,.load t x,ty,pos,af,g⟩::rest) acc ⟨S,O⟩:=.op (aGy hx ho hc (aI4 hl) hd) hgd rfl hrun
theorem uL {x:Operand}{t n by_ l k:Nat}{cells vs:List PV}{dp bx:Bool}[ht:TI P t n true by_](hrun:Run Γ ops K rest (⟨⟨[(d,⟨.agg vs,false⟩)],[]⟩,gs++(ors x),[l],[]⟩::acc) ⟨[(d,⟨.agg vs,false⟩)]++S,[]++O⟩)(hx:evq S x=some (.ptr l k):=by rfl)(ho:loq O l=some ⟨cells,dp,bx⟩:=by rfl)(hc:(cells.drop k).take n=vs:=by first | exact bE rfl | rfl)(hn:Nat.beq vs.length n=true:=by rfl)(hn0:n≠0:=by intro h;cases h)(hl:(bx||pZ vs)=true:=by rfl)(hd:Nat.blt d N=true:=by rfl)(hgd:gd N ops S true g=some gs:=by rfl):Run Γ ops K (⟨some d,.load t x,ty,pos,af,g⟩::rest) acc ⟨S,O⟩:=.op (cJ hx ho hc hn hn0 (by cases bx with | true=>exact .inl rfl | false=>exact .inr (by simpa using hl)) hd) hgd rfl hrun
theorem cU {f:FuncId}[hfc:FnC P f]{xs:List Operand}{us:Array TypeId}{ps:List PV}{ls:List Nat}{r:PV}{deep:Bool}(hrun:Run Γ ops K rest (⟨⟨[(d,⟨r,deep⟩)],[]⟩,gs++(rU xs),ls,[]⟩::acc) ⟨[(d,⟨r,deep⟩)]++S,[]++O⟩)(ha:ArgsV S O xs ps ls)(hm:Meets P f ps r deep)(hc:(aNG ls||deep||flat r)=true:=by rfl)(hr:r.labs=[]:=by rfl)(hd:Nat.blt d N=true:=by rfl)(hgd:gd N ops S true g=some gs:=by rfl):Run Γ ops K (⟨some d,.call ⟨.value (.func f),xs.toArray,us⟩,ty,pos,af,g⟩::rest) acc ⟨S,O⟩:=.op (aCL ha hm hc hr hd) hgd rfl hrun
theorem aW {x y:Operand}{t n by_ l k:Nat}{agg dp bx:Bool}{cells cells':List PV}{p:PV}[ht:TI P t n agg by_](hrun:Run Γ ops K rest (⟨⟨[],[(l,some ⟨cells',dp&&aEI p,bx⟩)]⟩,gs++(ors x++ors y),(l::yM p),[]⟩::acc) ⟨[]++S,[(l,some ⟨cells',dp&&aEI p,bx⟩)]++O⟩)(hx:evq S x=some (.ptr l k):=by rfl)(ho:loq O l=some ⟨cells,dp,bx⟩:=by rfl)(hy:evq S y=some p:=by rfl)(hst:stB O bx p=true:=by rfl)(hlen:Nat.beq (bJ p).length n=true:=by rfl)(hn0:n≠0:=by intro h;cases h)(hk:Nat.ble (k+n) cells.length=true:=by rfl)(hc:cells.take k++bJ p++cells.drop (k+n)=cells':=by first | exact aCN rfl | rfl)(hgd:gd N ops S true g=some gs:=by rfl):Run Γ ops K (⟨none,.store t x y,ty,pos,af,g⟩::rest) acc ⟨S,O⟩:=.op (aR5 hx ho hy hst hlen hn0 hk hc) hgd rfl hrun
theorem aE (bx:Bool){e:Nat}{ps:List PV}[hz:ZT P e ps](hrun:Run Γ ops K rest (⟨⟨[(d,⟨.ptr d 0,false⟩)],[(d,some ⟨ps,true,bx⟩)]⟩,gs++[],[],[d]⟩::acc) ⟨[(d,⟨.ptr d 0,false⟩)]++S,[(d,some ⟨ps,true,bx⟩)]++O⟩)(hio:Γ.io d=none:=by exact io1 (by assumption) _)(hd:Nat.blt d N=true:=by rfl)(hgd:gd N ops S true g=some gs:=by rfl)(hno:oG ⟨S,O⟩ [d]=true:=by rfl):Run Γ ops K (⟨some d,.alloc e,ty,pos,af,g⟩::rest) acc ⟨S,O⟩:=.op (aLX bx hio hd) hgd hno hrun
theorem aQM {α:Type}{x i:Operand}{t e n by_:Nat}{agg:Bool}{l:List α}{enc:α->List PV}{y:α}{k:IntKind}{j:Int}{len:Nat}[ht:SlT P t e][hi:TI P e n agg by_](hrun:Run Γ ops K rest (⟨⟨[(d,⟨.iptr (enc y),false⟩)],[]⟩,gs++(ors x++ors i),[],[]⟩::acc) ⟨[(d,⟨.iptr (enc y),false⟩)]++S,[]++O⟩)(hl:idx l j=some y)(hx:evq S x=some (.sl len (l.flatMap enc)):=by rfl)(hix:evq S i=some (.sc (.int k j)):=by rfl)(hlen:len=l.length:=by rfl)(hsz:∀ y,(enc y).length=n:=by intro _;rfl)(hd:Nat.blt d N=true:=by rfl)(hgd:gd N ops S true g=some gs:=by rfl):Run Γ ops K (⟨some d,.indexAddr t x i,ty,pos,af,g⟩::rest) acc ⟨S,O⟩:=.op (aQY hx hix hlen hl hsz hd) hgd rfl hrun
theorem bF {x:Operand}{t n by_ l k s:Nat}{agg dp bx:Bool}{cells cells':List PV}{p:PV}[ht:TI P t n agg by_](hrun:Run Γ ops K rest (⟨⟨[(s,⟨.any,false⟩)],[(l,some ⟨cells',dp,bx⟩)]⟩,gs++(ors x++[s]),[l],[]⟩::acc) ⟨[(s,⟨.any,false⟩)]++S,[(l,some ⟨cells',dp,bx⟩)]++O⟩)(hx:evq S x=some (.ptr l k):=by rfl)(ho:loq O l=some ⟨cells,dp,bx⟩:=by rfl)(hy:lkq S s=some ⟨p,true⟩:=by rfl)(hst:stB O bx p=true:=by rfl)(hl:p.labs=[]:=by rfl)(hlen:Nat.beq (bJ p).length n=true:=by rfl)(hn0:n≠0:=by intro h;cases h)(hk:Nat.ble (k+n) cells.length=true:=by rfl)(hc:cells.take k++bJ p++cells.drop (k+n)=cells':=by first | exact aCN rfl | rfl)(hgd:gd N ops S true g=some gs:=by rfl):Run Γ ops K (⟨none,.store t x (.tmp s),ty,pos,af,g⟩::rest) acc ⟨S,O⟩:=.op (aJY hx ho hy hst hl hlen hn0 hk hc) hgd rfl hrun
theorem bD (bx:Bool){e:Nat}{x:Operand}{p:PV}(hrun:Run Γ ops K rest (⟨⟨[(d,⟨.ptr d 0,false⟩)],[(d,some ⟨bJ p,aEI p,bx⟩)]⟩,gs++(ors x),(yM p),[d]⟩::acc) ⟨[(d,⟨.ptr d 0,false⟩)]++S,[(d,some ⟨bJ p,aEI p,bx⟩)]++O⟩)(hx:evq S x=some p:=by rfl)(hst:stB O bx p=true:=by rfl)(hlab:aAI p.labs d=false:=by rfl)(hio:Γ.io d=none:=by exact io1 (by assumption) _)(hd:Nat.blt d N=true:=by rfl)(hgd:gd N ops S true g=some gs:=by rfl)(hno:oG ⟨S,O⟩ [d]=true:=by rfl):Run Γ ops K (⟨some d,.box e x,ty,pos,af,g⟩::rest) acc ⟨S,O⟩:=.op (aRQ bx hx hst hlab hio hd) hgd hno hrun
theorem aM (dp:Bool){t:Nat}{parts:Array (Nat×Operand)}{zs cells:List PV}{pl:List (Nat×Nat)}{ks:List Nat}[hz:ZT P t zs][hp:PlT P t pl](hrun:Run Γ ops K rest (⟨⟨(d,⟨.agg cells,dp⟩)::ks.map (fun j=>(j,⟨.any,false⟩)),[]⟩,gs++(aCA parts.toList),[],[]⟩::acc) ⟨(d,⟨.agg cells,dp⟩)::ks.map (fun j=>(j,⟨.any,false⟩))++S,[]++O⟩)(hb:BuildV S pl dp parts.toList zs cells ks)(hnl:pZ cells=true:=by rfl)(hd:Nat.blt d N=true:=by rfl)(hgd:gd N ops S true g=some gs:=by rfl):Run Γ ops K (⟨some d,.build t parts,ty,pos,af,g⟩::rest) acc ⟨S,O⟩:=.op (aGA dp hb hnl hd) hgd rfl hrun
theorem aQO {x:Operand}{vs:List PV}{i:Nat}{p:PV}(hrun:Run Γ ops K rest (⟨⟨[(d,⟨p,false⟩)],[]⟩,gs++(ors x),[],[]⟩::acc) ⟨[(d,⟨p,false⟩)]++S,[]++O⟩)(hx:evq S x=some (.tup vs):=by rfl)(hp:vs[i]?=some p:=by rfl)(hd:Nat.blt d N=true:=by rfl)(hgd:gd N ops S true g=some gs:=by rfl):Run Γ ops K (⟨some d,.extract x i,ty,pos,af,g⟩::rest) acc ⟨S,O⟩:=.op (aK1 hx hp hd) hgd rfl hrun
theorem gS {α:Type}{x i:Operand}{t e sz n by_ r:Nat}{agg:Bool}{l:List α}{y:α}{k:IntKind}{j:Int}{ob:Ob}[ht:SlT P t e][hi:TI P e sz agg by_](hrun:Run Γ ops K rest (⟨⟨[(d,⟨.ptr r (j.toNat*sz),false⟩)],[]⟩,gs++(ors x++ors i),[r],[]⟩::acc) ⟨[(d,⟨.ptr r (j.toNat*sz),false⟩)]++S,[]++O⟩)(hl:idx l j=some y)(hx:evq S x=some (.ref r sz 0 n):=by rfl)(ho:loq O r=some ob:=by rfl)(hix:evq S i=some (.sc (.int k j)):=by rfl)(hn:n=l.length:=by rfl)(hd:Nat.blt d N=true:=by rfl)(hgd:gd N ops S true g=some gs:=by rfl):Run Γ ops K (⟨some d,.indexAddr t x i,ty,pos,af,g⟩::rest) acc ⟨S,O⟩:=.op (aQZ hx ho hix hl hn hd) hgd rfl hrun
theorem aQL {x:Operand}{t n by_:Nat}{cells vs:List PV}[ht:TI P t n true by_](hrun:Run Γ ops K rest (⟨⟨[(d,⟨.agg vs,false⟩)],[]⟩,gs++(ors x),[],[]⟩::acc) ⟨[(d,⟨.agg vs,false⟩)]++S,[]++O⟩)(hx:evq S x=some (.iptr cells):=by rfl)(hc:cells.take n=vs:=by first | exact aE8 rfl | rfl)(hn:Nat.beq vs.length n=true:=by rfl)(hn0:n≠0:=by intro h;cases h)(hl:pZ vs=true:=by rfl)(hd:Nat.blt d N=true:=by rfl)(hgd:gd N ops S true g=some gs:=by rfl):Run Γ ops K (⟨some d,.load t x,ty,pos,af,g⟩::rest) acc ⟨S,O⟩:=.op (aQX hx hc hn hn0 hl hd) hgd rfl hrun
theorem eF {t e sz by_:Nat}{agg:Bool}[ht:SlT P t e][hi:TI P e sz agg by_](hrun:Run Γ ops K rest (⟨⟨[(d,⟨.ref d sz 0 0,false⟩)],[(d,some ⟨[],true,false⟩)]⟩,gs++[],[],[d]⟩::acc) ⟨[(d,⟨.ref d sz 0 0,false⟩)]++S,[(d,some ⟨[],true,false⟩)]++O⟩)(hio:Γ.io d=none:=by exact io1 (by assumption) _)(hd:Nat.blt d N=true:=by rfl)(hgd:gd N ops S true g=some gs:=by rfl)(hno:oG ⟨S,O⟩ [d]=true:=by rfl):Run Γ ops K (⟨some d,.buildSlice t 0 #[],ty,pos,af,g⟩::rest) acc ⟨S,O⟩:=.op (aRP hio hd) hgd hno hrun
theorem cD {f:FuncId}[hfc:FnC P f]{xs:List Operand}{us:Array TypeId}{ps:List PV}{ls:List Nat}{s n:Nat}{cells:List PV}(hrun:Run Γ ops K rest (⟨⟨[(d,⟨.ref d s 0 n,false⟩)],[(d,some ⟨cells,true,false⟩)]⟩,gs++(rU xs),ls,[d]⟩::acc) ⟨[(d,⟨.ref d s 0 n,false⟩)]++S,[(d,some ⟨cells,true,false⟩)]++O⟩)(ha:ArgsV S O xs ps ls)(hm:Meets P f ps (.rw s n cells) true)(hio:Γ.io d=none:=by exact io1 (by assumption) _)(hd:Nat.blt d N=true:=by rfl)(hgd:gd N ops S true g=some gs:=by rfl)(hno:oG ⟨S,O⟩ [d]=true:=by rfl):Run Γ ops K (⟨some d,.call ⟨.value (.func f),xs.toArray,us⟩,ty,pos,af,g⟩::rest) acc ⟨S,O⟩:=.op (aDw ha hm hio hd) hgd hno hrun
theorem eT (scn:Bool){x y:Operand}{t e sz by_ l n m:Nat}{agg dp:Bool}{zs cells ncells cells':List PV}{n':Nat}[ht:SlT P t e][hi:TI P e sz agg by_][hz:ZT P e zs](hrun:Run Γ ops K rest (⟨⟨[(d,⟨.ref d sz 0 n',false⟩)],[(d,some ⟨cells',dp&&scn,false⟩),(l,none)]⟩,gs++(ors x++ors y),[l],[d]⟩::acc) ⟨[(d,⟨.ref d sz 0 n',false⟩)]++S,[(d,some ⟨cells',dp&&scn,false⟩),(l,none)]++O⟩)(hb:(n+m)*by_<=140737488355328)(hcat:cells++ncells=cells'/\n+m=n')(hx:evq S x=some (.ref l sz 0 n):=by rfl)(ho:loq O l=some ⟨cells,dp,false⟩:=by rfl)(hy:evq S y=some (.sl m ncells):=by rfl)(hlen:cells.length=n*sz:=by exact aV (fun _=>rfl))(hnl:ncells.length=m*sz:=by rfl)(h63:0<by_:=by decide)(hio:Γ.io d=none/\Γ.io l=none:=by exact⟨io1 (by assumption) _,io1 (by assumption) _⟩)(hsc:scn=true->jX ncells=true:=by intro h;cases h)(hd:Nat.blt d N=true:=by rfl)(hgd:gd N ops S true g=some gs:=by rfl)(hno:oG ⟨S,O⟩ [d]=true:=by rfl):Run Γ ops K (⟨some d,.call ⟨.builtin .append,#[x,y],#[t,t]⟩,ty,pos,af,g⟩::rest) acc ⟨S,O⟩:=.op (aBC scn hx ho hy hlen hnl hb (aAr h63 hb) hio hsc hcat hd) hgd hno hrun
theorem aCu  (hrun:Run Γ ops K rest (⟨⟨[(d,⟨.sc (.int k r),false⟩)],[]⟩,gs++(ors x++ors y),[],[]⟩::acc) ⟨[(d,⟨.sc (.int k r),false⟩)]++S,[]++O⟩)(hx:evq S x=some (.sc (.int k m)):=by rfl)(hy:evq S y=some (.sc (.int k n)):=by rfl)(hn:n≠0:=by intro h;cases h)(hr:m.tmod n=r:=by rfl)(hd:Nat.blt d N=true:=by rfl)(hgd:gd N ops S true g=some gs:=by rfl):Run Γ ops K (⟨some d,.binOp .rem u x y u',ty,pos,af,g⟩::rest) acc ⟨S,O⟩:=.op (aRH hx hy hn hr hd) hgd rfl hrun
theorem gR {x:Operand}{t n by_ l:Nat}{cells:List PV}{dp:Bool}[ht:TI P t n true by_](hrun:Run Γ ops K rest (⟨⟨[(d,⟨.agg cells,dp⟩)],[(l,none)]⟩,gs++(ors x),[l],[]⟩::acc) ⟨[(d,⟨.agg cells,dp⟩)]++S,[(l,none)]++O⟩)(hx:evq S x=some (.ptr l 0):=by rfl)(ho:loq O l=some ⟨cells,dp,false⟩:=by rfl)(hn:Nat.beq cells.length n=true:=by rfl)(hn0:n≠0:=by intro h;cases h)(hnl:pZ cells=true:=by rfl)(hio:Γ.io l=none:=by exact io1 (by assumption) _)(hd:Nat.blt d N=true:=by rfl)(hgd:gd N ops S true g=some gs:=by rfl):Run Γ ops K (⟨some d,.load t x,ty,pos,af,g⟩::rest) acc ⟨S,O⟩:=.op (aPy hx ho hn hn0 hnl hio hd) hgd rfl hrun
theorem aIC {p q:Bool}[hu:UT P u .bool](hrun:Run Γ ops K rest (⟨⟨[(d,⟨.sc (.bool (!(p == q))),false⟩)],[]⟩,gs++(ors x++ors y),[],[]⟩::acc) ⟨[(d,⟨.sc (.bool (!(p == q))),false⟩)]++S,[]++O⟩)(hx:evq S x=some (.sc (.bool p)):=by rfl)(hy:evq S y=some (.sc (.bool q)):=by rfl)(hd:Nat.blt d N=true:=by rfl)(hgd:gd N ops S true g=some gs:=by rfl):Run Γ ops K (⟨some d,.binOp .neq u x y u',ty,pos,af,g⟩::rest) acc ⟨S,O⟩:=.op (aQ5 hx hy hd) hgd rfl hrun
theorem nX {s i:Nat}{vs:List PV}{p:PV}(hrun:Run Γ ops K rest (⟨⟨[(d,⟨p,true⟩),(s,⟨.tup (vs.set i .any),true⟩)],[]⟩,gs++[s],[],[]⟩::acc) ⟨[(d,⟨p,true⟩),(s,⟨.tup (vs.set i .any),true⟩)]++S,[]++O⟩)(hx:lkq S s=some ⟨.tup vs,true⟩:=by rfl)(hp:vs[i]?=some p:=by rfl)(hl:p.labs=[]:=by rfl)(hne:Nat.beq s d=false:=by rfl)(hd:Nat.blt d N=true:=by rfl)(hgd:gd N ops S true g=some gs:=by rfl):Run Γ ops K (⟨some d,.extract (.tmp s) i,ty,pos,af,g⟩::rest) acc ⟨S,O⟩:=.op (aQ2 hx hp hl hne hd) hgd rfl hrun
theorem zN {α:Type}{x:Operand}{lo hi:Option Operand}{t e n by_:Nat}{agg:Bool}{l r:List α}{enc:α->List PV}{i j:Int}{len:Nat}[ht:SlT P t e][hi':TI P e n agg by_](hrun:Run Γ ops K rest (⟨⟨[(d,⟨.sl r.length (r.flatMap enc),false⟩)],[]⟩,gs++(ors x++(aIb lo++aIb hi)),[],[]⟩::acc) ⟨[(d,⟨.sl r.length (r.flatMap enc),false⟩)]++S,[]++O⟩)(h:sub l i j=some r)(hx:evq S x=some (.sl len (l.flatMap enc)):=by rfl)(hlen:len=l.length:=by rfl)(hlo:vZ S 0 lo=some i:=by rfl)(hhi:vZ S len hi=some j:=by rfl)(hsz:∀ y,(enc y).length=n:=by intro _;rfl)(hd:Nat.blt d N=true:=by rfl)(hgd:gd N ops S true g=some gs:=by rfl):Run Γ ops K (⟨some d,.slice t x lo hi none,ty,pos,af,g⟩::rest) acc ⟨S,O⟩:=.op (aRG hx hlen hlo hhi h hsz hd) hgd rfl hrun
theorem aRz  (hrun:Run Γ ops K rest (⟨⟨[(d,⟨.sc (.bool (decide (n<=m))),false⟩)],[]⟩,gs++(ors x++ors y),[],[]⟩::acc) ⟨[(d,⟨.sc (.bool (decide (n<=m))),false⟩)]++S,[]++O⟩)(hx:evq S x=some (.sc (.int k m)):=by rfl)(hy:evq S y=some (.sc (.int k n)):=by rfl)(hd:Nat.blt d N=true:=by rfl)(hgd:gd N ops S true g=some gs:=by rfl):Run Γ ops K (⟨some d,.binOp .geq u x y u',ty,pos,af,g⟩::rest) acc ⟨S,O⟩:=.op (aP9 hx hy hd) hgd rfl hrun
theorem sT {x:Operand}{t e:Nat}[ht:SlT P t e]{l s off n:Nat}{ob:Ob}(hrun:Run Γ ops K rest (⟨⟨[(d,⟨.sc (.int .i64 n),false⟩)],[]⟩,gs++(ors x),[l],[]⟩::acc) ⟨[(d,⟨.sc (.int .i64 n),false⟩)]++S,[]++O⟩)(hx:evq S x=some (.ref l s off n):=by rfl)(ho:loq O l=some ob:=by rfl)(hd:Nat.blt d N=true:=by rfl)(hgd:gd N ops S true g=some gs:=by rfl):Run Γ ops K (⟨some d,.call ⟨.builtin .len,#[x],#[t]⟩,ty,pos,af,g⟩::rest) acc ⟨S,O⟩:=.op (aQW hx ho hd) hgd rfl hrun
theorem aBA  (hrun:Run Γ ops K rest (⟨⟨[(d,⟨.sc (.int k r),false⟩)],[]⟩,gs++(ors x++ors y),[],[]⟩::acc) ⟨[(d,⟨.sc (.int k r),false⟩)]++S,[]++O⟩)(hx:evq S x=some (.sc (.int k m)):=by rfl)(hy:evq S y=some (.sc (.int k n)):=by rfl)(hn:n≠0:=by intro h;cases h)(hr:k.wrap (m.tdiv n)=r:=by rfl)(hd:Nat.blt d N=true:=by rfl)(hgd:gd N ops S true g=some gs:=by rfl):Run Γ ops K (⟨some d,.binOp .quo u x y u',ty,pos,af,g⟩::rest) acc ⟨S,O⟩:=.op (aRI hx hy hn hr hd) hgd rfl hrun
theorem uM {f:FuncId}[hfc:FnC P f]{k:Nat}{tus:Array TypeId}{p r:PV}(hrun:Run Γ ops K rest (⟨⟨[(d,⟨r,true⟩),(k,⟨.any,false⟩)],[]⟩,gs++[k],[],[]⟩::acc) ⟨[(d,⟨r,true⟩),(k,⟨.any,false⟩)]++S,[]++O⟩)(hm:MeetsD P f [(p,true)] r)(hk:lkq S k=some ⟨p,true⟩:=by rfl)(hl:p.labs=[]:=by rfl)(hr:r.labs=[]:=by rfl)(hd:Nat.blt d N=true:=by rfl)(hgd:gd N ops S true g=some gs:=by rfl):Run Γ ops K (⟨some d,.call ⟨.value (.func f),#[.tmp k],tus⟩,ty,pos,af,g⟩::rest) acc ⟨S,O⟩:=.op (aOL hk hl hm hr hd) hgd rfl hrun
theorem yV {t e sz by_ s:Nat}{agg:Bool}{ps:List PV}{p:PV}[ht:SlT P t e][hi:TI P e sz agg by_][hz:ZT P e ps](hrun:Run Γ ops K rest (⟨⟨[(d,⟨.sl 1 (bJ p),true⟩),(s,⟨.any,false⟩)],[]⟩,gs++[s],[],[]⟩::acc) ⟨[(d,⟨.sl 1 (bJ p),true⟩),(s,⟨.any,false⟩)]++S,[]++O⟩)(hx:lkq S s=some ⟨p,true⟩:=by rfl)(hst:stB O false p=true:=by rfl)(hl:p.labs=[]:=by rfl)(hlen:Nat.beq (bJ p).length sz=true:=by rfl)(hsz:Nat.blt 0 sz=true:=by rfl)(hs2:Nat.ble sz 1000=true:=by rfl)(hne:Nat.beq d s=false:=by rfl)(hd:Nat.blt d N=true:=by rfl)(hgd:gd N ops S true g=some gs:=by rfl):Run Γ ops K (⟨some d,.buildSlice t 1 #[(0,.tmp s)],ty,pos,af,g⟩::rest) acc ⟨S,O⟩:=.op (aQ4 hx hst hl hlen hsz hs2 hne hd) hgd rfl hrun
theorem yW {t e sz by_:Nat}{agg:Bool}{ps:List PV}{x:Operand}{p:PV}[ht:SlT P t e][hi:TI P e sz agg by_][hz:ZT P e ps](hrun:Run Γ ops K rest (⟨⟨[(d,⟨.sl 1 (bJ p),false⟩)],[]⟩,gs++(ors x),[],[]⟩::acc) ⟨[(d,⟨.sl 1 (bJ p),false⟩)]++S,[]++O⟩)(hx:evq S x=some p:=by rfl)(hst:stB O false p=true:=by rfl)(hl:p.labs=[]:=by rfl)(hlen:Nat.beq (bJ p).length sz=true:=by rfl)(hsz:Nat.blt 0 sz=true:=by rfl)(hs2:Nat.ble sz 1000=true:=by rfl)(hd:Nat.blt d N=true:=by rfl)(hgd:gd N ops S true g=some gs:=by rfl):Run Γ ops K (⟨some d,.buildSlice t 1 #[(0,x)],ty,pos,af,g⟩::rest) acc ⟨S,O⟩:=.op (aIG hx hst hl hlen hsz hs2 hd) hgd rfl hrun
theorem xB {x:Operand}{t e sz by_ l n m s:Nat}{agg dp:Bool}{zs cells ncells cells':List PV}{n':Nat}[ht:SlT P t e][hi:TI P e sz agg by_][hz:ZT P e zs](hrun:Run Γ ops K rest (⟨⟨[(d,⟨.ref d sz 0 n',false⟩),(s,⟨.any,false⟩)],[(d,some ⟨cells',dp,false⟩),(l,none)]⟩,gs++(ors x++[s]),[l],[d]⟩::acc) ⟨[(d,⟨.ref d sz 0 n',false⟩),(s,⟨.any,false⟩)]++S,[(d,some ⟨cells',dp,false⟩),(l,none)]++O⟩)(hb:(n+m)*by_<=140737488355328)(hcat:cells++ncells=cells'/\n+m=n')(hx:evq S x=some (.ref l sz 0 n):=by rfl)(ho:loq O l=some ⟨cells,dp,false⟩:=by rfl)(hy:lkq S s=some ⟨.sl m ncells,true⟩:=by rfl)(hlen:cells.length=n*sz:=by exact aV (fun _=>rfl))(hnl:ncells.length=m*sz:=by rfl)(h63:0<by_:=by decide)(hio:Γ.io d=none/\Γ.io l=none:=by exact⟨io1 (by assumption) _,io1 (by assumption) _⟩)(hd:Nat.blt d N=true:=by rfl)(hgd:gd N ops S true g=some gs:=by rfl)(hno:oG ⟨S,O⟩ [d]=true:=by rfl):Run Γ ops K (⟨some d,.call ⟨.builtin .append,#[x,.tmp s],#[t,t]⟩,ty,pos,af,g⟩::rest) acc ⟨S,O⟩:=.op (aQ6 hx ho hy hlen hnl hb (aAr h63 hb) hio hcat hd) hgd hno hrun
theorem xF {t e sz by_:Nat}{agg:Bool}{ps:List PV}{x:Operand}{p:PV}[ht:SlT P t e][hi:TI P e sz agg by_][hz:ZT P e ps](hrun:Run Γ ops K rest (⟨⟨[(d,⟨.sl 1 (bJ p),true⟩)],[]⟩,gs++(ors x),[],[]⟩::acc) ⟨[(d,⟨.sl 1 (bJ p),true⟩)]++S,[]++O⟩)(hx:evq S x=some p:=by rfl)(hst:stB O false p=true:=by rfl)(hsc:aEI p=true:=by rfl)(hl:p.labs=[]:=by rfl)(hlen:Nat.beq (bJ p).length sz=true:=by rfl)(hsz:Nat.blt 0 sz=true:=by rfl)(hs2:Nat.ble sz 1000=true:=by rfl)(hd:Nat.blt d N=true:=by rfl)(hgd:gd N ops S true g=some gs:=by rfl):Run Γ ops K (⟨some d,.buildSlice t 1 #[(0,x)],ty,pos,af,g⟩::rest) acc ⟨S,O⟩:=.op (aRO hx hst hsc hl hlen hsz hs2 hd) hgd rfl hrun
theorem wU {f:FuncId}[hfc:FnC P f]{k:Nat}{y:Operand}{tus:Array TypeId}{p0 p r:PV}(hrun:Run Γ ops K rest (⟨⟨[(d,⟨r,true⟩),(k,⟨.any,false⟩)],[]⟩,gs++(ors y++[k]),[],[]⟩::acc) ⟨[(d,⟨r,true⟩),(k,⟨.any,false⟩)]++S,[]++O⟩)(hm:MeetsD P f [(p0,false),(p,true)] r)(hy:evq S y=some p0:=by rfl)(hn0:pX p0=true:=by rfl)(hl0:p0.labs=[]:=by rfl)(hk:lkq S k=some ⟨p,true⟩:=by rfl)(hl:p.labs=[]:=by rfl)(hr:r.labs=[]:=by rfl)(hd:Nat.blt d N=true:=by rfl)(hgd:gd N ops S true g=some gs:=by rfl):Run Γ ops K (⟨some d,.call ⟨.value (.func f),#[y,.tmp k],tus⟩,ty,pos,af,g⟩::rest) acc ⟨S,O⟩:=.op (aOK hy hn0 hl0 hk hl hm hr hd) hgd rfl hrun
theorem aBY {α:Type}{enc:α->List PV}{z:α}{t e sz by_:Nat}{agg:Bool}{x y:Operand}{k k':IntKind}{n n':Int}{ps:List PV}[ht:SlT P t e][hi:TI P e sz agg by_][hz:ZT P e ps](hrun:Run Γ ops K rest (⟨⟨[(d,⟨.ref d sz 0 (List.replicate n.toNat z).length,false⟩)],[(d,some ⟨(List.replicate n.toNat z).flatMap enc,true,false⟩)]⟩,gs++(ors x++ors y),[],[d]⟩::acc) ⟨[(d,⟨.ref d sz 0 (List.replicate n.toNat z).length,false⟩)]++S,[(d,some ⟨(List.replicate n.toNat z).flatMap enc,true,false⟩)]++O⟩)(hb:0<=n/\n.toNat*by_<=281474976710656)(hx:evq S x=some (.sc (.int k n)):=by rfl)(hy:evq S y=some (.sc (.int k' n')):=by rfl)(hnn:n=n':=by rfl)(hez:enc z=ps:=by rfl)(hby:0<by_:=by decide)(hsz:sz≠0:=by intro h;cases h)(hio:Γ.io d=none:=by exact io1 (by assumption) _)(hd:Nat.blt d N=true:=by rfl)(hgd:gd N ops S true g=some gs:=by rfl)(hno:oG ⟨S,O⟩ [d]=true:=by rfl):Run Γ ops K (⟨some d,.makeSlice t x y,ty,pos,af,g⟩::rest) acc ⟨S,O⟩:=.op (aPx hx hy hnn hb hez hby hsz hio hd) hgd hno hrun
theorem aCv {t e by_ n:Nat}{agg:Bool}{ps:List PV}{parts:Array (Nat×Operand)}{vs:List Value}[ht:SlT P t e][hi:TI P e 1 agg by_][hz:ZT P e ps](hrun:Run Γ ops K rest (⟨⟨[(d,⟨.ref d 1 0 n,false⟩)],[(d,some ⟨vs.map .sc,true,false⟩)]⟩,gs++(aCA parts.toList),[],[d]⟩::acc) ⟨[(d,⟨.ref d 1 0 n,false⟩)]++S,[(d,some ⟨vs.map .sc,true,false⟩)]++O⟩)(hv:aBQ S parts.toList 0=some vs:=by rfl)(hn:Nat.beq vs.length n=true:=by rfl)(hpos:Nat.blt 0 n=true:=by rfl)(hs2:Nat.ble n 1000=true:=by rfl)(hio:Γ.io d=none:=by exact io1 (by assumption) _)(hd:Nat.blt d N=true:=by rfl)(hgd:gd N ops S true g=some gs:=by rfl)(hno:oG ⟨S,O⟩ [d]=true:=by rfl):Run Γ ops K (⟨some d,.buildSlice t n parts,ty,pos,af,g⟩::rest) acc ⟨S,O⟩:=.op (aOM hv hn hpos hs2 hio hd) hgd hno hrun
theorem aOE  (hrun:Run Γ ops K rest (⟨⟨[(d,⟨.sc (.int k r),false⟩)],[]⟩,gs++(ors x++ors y),[],[]⟩::acc) ⟨[(d,⟨.sc (.int k r),false⟩)]++S,[]++O⟩)(hx:evq S x=some (.sc (.int k m)):=by rfl)(hy:evq S y=some (.sc (.int k n)):=by rfl)(hr:k.wrap (m*n)=r:=by rfl)(hd:Nat.blt d N=true:=by rfl)(hgd:gd N ops S true g=some gs:=by rfl):Run Γ ops K (⟨some d,.binOp .mul u x y u',ty,pos,af,g⟩::rest) acc ⟨S,O⟩:=.op (aRK hx hy hr hd) hgd rfl hrun
theorem aKY {x:Operand}{src dst:TypeId}{k q:IntKind}{n r:Int}{ds:TypeDesc}[hs:UT P src ds][ht:UT P dst (.int q)](hrun:Run Γ ops K rest (⟨⟨[(d,⟨.sc (.int q r),false⟩)],[]⟩,gs++(ors x),[],[]⟩::acc) ⟨[(d,⟨.sc (.int q r),false⟩)]++S,[]++O⟩)(hx:evq S x=some (.sc (.int k n)):=by rfl)(hr:q.wrap n=r:=by rfl)(hd:Nat.blt d N=true:=by rfl)(hgd:gd N ops S true g=some gs:=by rfl):Run Γ ops K (⟨some d,.convert src dst x,ty,pos,af,g⟩::rest) acc ⟨S,O⟩:=.op (aQ3 hx hr hd) hgd rfl hrun
theorem av {x:Operand}{p:PV}{m:List Nat}{xs:List Operand}{ps:List PV}(h:ArgsV S O xs ps m)(hx:evq S x=some p:=by rfl)(hl:p.labs=[]:=by rfl):ArgsV S O (x::xs) (p::ps) ([]++m):=.cons (.val hx hl) h
theorem ar {x:Operand}{l s n:Nat}{cells:List PV}{dp:Bool}{m:List Nat}{xs:List Operand}{ps:List PV}(h:ArgsV S O xs ps m)(hx:evq S x=some (.ref l s 0 n):=by rfl)(ho:loq O l=some ⟨cells,dp,false⟩:=by rfl)(hl:cells.length<=n*s:=by first | exact Nat.le_of_eq (aV (fun _=>rfl)) | exact Nat.le_of_ble_eq_true rfl):ArgsV S O (x::xs) (.sl n cells::ps) ([l]++m):=.cons (.ref hx ho hl) h
theorem avS {x:Operand}{p p':PV}{m:List Nat}{xs:List Operand}{ps:List PV}(h:ArgsV S O xs ps m)(hs:Soft p p')(hx:evq S x=some p:=by rfl)(hl:p.labs=[]:=by rfl):ArgsV S O (x::xs) (p'::ps) ([]++m):=.cons (.valS hx hl hs) h
theorem arS {x:Operand}{l s n:Nat}{cells cells':List PV}{dp:Bool}{m:List Nat}{xs:List Operand}{ps:List PV}(h:ArgsV S O xs ps m)(hl:SoftL cells cells')(hx:evq S x=some (.ref l s 0 n):=by rfl)(ho:loq O l=some ⟨cells,dp,false⟩:=by rfl):ArgsV S O (x::xs) (.sl n cells'::ps) ([l]++m):=.cons (.refS hx ho hl) h
theorem bs {pl:List (Nat×Nat)}{dp:Bool}{i off n:Nat}{x:Operand}{p:PV}{r:List (Nat×Operand)}{cells cells':List PV}{ks:List Nat}(h1:evq S x=some p:=by rfl)(h2:pX p=true:=by rfl)(h3:p.labs=[]:=by rfl)(h4:stB [] false p=true:=by rfl)(h5:pl[i]?=some (off,n):=by rfl)(h6:Nat.beq (bJ p).length n=true:=by rfl)(h7:Nat.ble (off+n) cells.length=true:=by rfl)(h:BuildV S pl dp r (cells.take off++bJ p++cells.drop (off+n)) cells' ks):BuildV S pl dp ((i,x)::r) cells cells' ks:=.sc h1 h2 h3 h4 h5 h6 h7 h
theorem bt {pl:List (Nat×Nat)}{dp:Bool}{i off n k:Nat}{p:PV}{r:List (Nat×Operand)}{cells cells':List PV}{ks:List Nat}(h1:lkq S k=some ⟨p,true⟩:=by rfl)(h3:p.labs=[]:=by rfl)(h4:stB [] false p=true:=by rfl)(h5:pl[i]?=some (off,n):=by rfl)(h6:Nat.beq (bJ p).length n=true:=by rfl)(h7:Nat.ble (off+n) cells.length=true:=by rfl)(h8:aAI ks k=false:=by rfl)(h:BuildV S pl dp r (cells.take off++bJ p++cells.drop (off+n)) cells' ks):BuildV S pl dp ((i,.tmp k)::r) cells cells' (k::ks):=.tk h1 h3 h4 h5 h6 h7 h8 h
theorem bh {pl:List (Nat×Nat)}{dp:Bool}{i off n:Nat}{x:Operand}{p:PV}{r:List (Nat×Operand)}{cells cells':List PV}{ks:List Nat}(h1:dp=false:=by rfl)(h2:evq S x=some p:=by rfl)(h3:p.labs=[]:=by rfl)(h4:stB [] false p=true:=by rfl)(h5:pl[i]?=some (off,n):=by rfl)(h6:Nat.beq (bJ p).length n=true:=by rfl)(h7:Nat.ble (off+n) cells.length=true:=by rfl)(h:BuildV S pl dp r (cells.take off++bJ p++cells.drop (off+n)) cells' ks):BuildV S pl dp ((i,x)::r) cells cells' ks:=.sh h1 h2 h3 h4 h5 h6 h7 h
end
end Go.Ev
/- The engine, part SS: a row of the caller's own, lent to a function that only reads it: what the function returns does not speak of the row's own block. -/
namespace Go.Ev
open Go.RowKit (Below)
def ROk (w:World)(ok:Nat->Prop)(o:Option Nat)(old:List PV):Prop:=(o=none/\old=[])\/∃ b cs t B,o=some b/\¬ok b/\w.heap[b]?=some (.cells cs t (0,0))/\RelL w.heap true dead old cs 0 B/\∀ x∈B,ok x
def aDf (l0:Nat)(o:Option Nat):Nat->Option (Option Nat):=fun l=>if l=l0 then some o else none
def MeetsR (P:Program)(f:FuncId)(args:List PV)(l0:Nat)(old:List PV)(r:PV):Prop :=
 ∀ (w:World) (cargs:Array Value) (ok:Nat->Prop) (o:Option Nat),XArgs w.heap ok (aDf l0 o) args cargs.toList->ROk w ok o old->
  Calls P f cargs w fun e w'=>∃ c B,e=.returned c/\Same w w'/\(∀ b,b<w.heap.size->o≠some b->w'.heap[b]?=w.heap[b]?)/\
   (∀ b,o=some b->∀ cs t,w.heap[b]?=some (.cells cs t (0,0))->∃ cs' B',w'.heap[b]?=some (.cells cs' t (0,0))/\cs'.size=cs.size/\RelL w'.heap true dead old cs' 0 B'/\∀ x∈B',x<w'.heap.size/\(ok x\/w.heap.size<=x))/\
   RelV w'.heap dead r c B/\(∀ b∈B,ok b\/w.heap.size<=b)
section
variable {P:Program}{N:Nat}
theorem MeetsR.intro {f:FuncId}{fn:Func}{c:Code}{args:List PV}{l0:Nat}{old:List PV}{r:PV}{rs:Array ResultVar}(hf:P.funcs[f]?=some fn)(hb:fn.body=some c)(hN:fn.ntmps=N)(hrs:fn.results=rs)(hn:Nat.ble args.length N=true)(hl0:Nat.ble 100000 l0=true)
 (h:∀ Γ:Ctx P N,(∀ l,Nat.blt l 100000=true->Γ.io l=none)->CodeT Γ c ⟨kS args 0,[(l0,some ⟨old,false,false⟩)]⟩ (aCr Γ rs r false [⟨l0,old,old⟩])):MeetsR P f args l0 old r:=by
 intro w cargs ok o ha hob
 obtain⟨h1,h2⟩:=ha.get
 have hn:=Nat.le_of_ble_eq_true hn
 have hl0:=Nat.le_of_ble_eq_true hl0
 let Γ:Ctx P N:={ base:=w.heap.size,ok:=ok,io:=fun l=>if l=l0 then o else none,w0:=w,mine:=fun _=>False,lent:=fun _=>False }
 have hio:∀ l b,Γ.io l=some b↔l=l0/\o=some b:=by
  intro l b
  show(if l=l0 then o else none)=some b↔_
  by_cases e:l=l0 <;> simp[e]
 have hsz:(cargs++Array.replicate (fn.ntmps-cargs.size) undef).size=N:=by
  have:cargs.size=args.length:=by rw[h1];simp
  simp[this,hN];omega
 have hblt:∀ b,o=some b->b<w.heap.size/\¬ok b:=by
  rintro b rfl
  rcases hob with⟨e,_⟩ | ⟨b',cs,t,B,e,hk,g,_⟩
  · cases e
  · cases e
    rcases Nat.lt_or_ge b w.heap.size with h | h
    · exact⟨h,hk⟩
    · simp[Array.getElem?_eq_none h]at g
 refine calls_of_wp hf hb ?_
 let ow:Nat->Own:=fun b=>if o=some b then .lab l0 else .none
 have how:∀ b l,ow b=.lab l->l=l0/\o=some b:=by
  intro b l e
  have e:(if o=some b then Own.lab l0 else .none)=.lab l:=e
  by_cases hh:o=some b
  · rw[if_pos hh]at e;cases e;exact⟨rfl,hh⟩
  · rw[if_neg hh]at e;cases e
 have hsim:Sim Γ ⟨kS args 0,[(l0,some ⟨old,false,false⟩)]⟩ { tmps:=cargs++Array.replicate (fn.ntmps-cargs.size) undef,defers:=[] } w:=by
  refine⟨ow,aDf l0 o,{ size:=hsz,defers:=rfl,kept:=⟨rfl,rfl,rfl,Nat.le_refl _,fun _ _ _ _=>rfl,fun b _ _ cs t h=>⟨cs,h,rfl⟩⟩,slots:=fun k=>?_,objs:=fun l ob hl=>?_,gone:=fun l hl=>?_,own:=fun b hb=>?_,ios:=fun l b hl _=>?_,fresh:=fun l b hl hi=>?_ }⟩
  · rw[qZ]
    by_cases hk:k<args.length
    · rw[if_pos ⟨Nat.zero_le _,by simpa using hk⟩]
      obtain⟨B,g1,g2⟩:=h2 k hk
      refine⟨B,?_,fun b hb=>⟨RelV.below _ _ _ g1 b hb,.inl (g2 b hb),fun l e=>(hblt b (how b l e).2).2 (g2 b hb)⟩,by simp⟩
      have e:(cargs++Array.replicate (fn.ntmps-cargs.size) undef).getD k undef=cargs.toList.getD k undef:=by
       have hlt:k<cargs.size:=by rw[h1]at hk;simpa using hk
       simp[Array.getD_eq_getD_getElem?,Array.getElem?_append,hlt,List.getD_eq_getElem?_getD]
      rw[e]
      simpa only[Nat.sub_zero]using g1
    · rw[if_neg (by simpa using hk)]
      exact⟨[],by simp[RelV],by simp,by simp⟩
  · simp only[aY]at hl
    by_cases e:l0=l
    · subst e
      rw[if_pos rfl]at hl;cases hl
      rcases hob with⟨rfl,e2⟩ | ⟨b,cs,t,B,rfl,hk,g1,g2,g3⟩
      · exact⟨[],by simp,by simp,.inl ⟨by simp[aDf],e2,rfl⟩⟩
      · refine⟨B,fun x hx=>⟨RelL.below _ _ _ _ g2 x hx,.inl (g3 x hx),fun l e=>(hblt x (how x l e).2).2 (g3 x hx)⟩,fun hd=>(by cases hd),.inr ⟨b,cs,t,by simp[aDf],?_,g1,g2⟩⟩
        show(if _ then _ else _)=_
        rw[if_pos rfl]
    · rw[if_neg e]at hl;simp[lo]at hl
  · simp only[aY]at hl
    by_cases e:l0=l
    · rw[if_pos e]at hl;cases hl
    · simp[aDf,Ne.symm e]
  · have hb:(if o=some b then Own.lab l0 else .none)≠.none:=hb
    by_cases hh:o=some b
    · refine⟨(hblt b hh).1,.inr ⟨l0,?_,(hio l0 b).2 ⟨rfl,hh⟩⟩⟩
      show(if _ then _ else _)=_
      rw[if_pos hh]
    · rw[if_neg hh]at hb;exact absurd rfl hb
  · obtain⟨rfl,rfl⟩:=(hio l b).1 hl
    simp[aDf]
  · have hl:(if l=l0 then some o else none)=some (some b):=hl
    by_cases e:l=l0
    · rw[if_pos e]at hl
      rw[(hio l b).2 ⟨e,Option.some.inj hl⟩]at hi;cases hi
    · rw[if_neg e]at hl;cases hl
 have hioN:∀ l,Nat.blt l 100000=true->Γ.io l=none:=by
  intro l hl
  have hl:=(aU _ _).1 hl
  show(if l=l0 then o else none)=none
  rw[if_neg (by omega)]
 refine wp_mono (h Γ hioN _ _ hsim) fun e a' w' ⟨E',hs',hq⟩=>?_
 have fin:RetX Γ rs E' r false [⟨l0,old,old⟩]->a'.defers=[]/\∃ v,(results fn a'.tmps).run P w'=.ok v w'/\∃ c B,Ending.returned v=.returned c/\Same w w'/\(∀ b,b<w.heap.size->o≠some b->w'.heap[b]?=w.heap[b]?)/\
  (∀ b,o=some b->∀ cs t,w.heap[b]?=some (.cells cs t (0,0))->∃ cs' B',w'.heap[b]?=some (.cells cs' t (0,0))/\cs'.size=cs.size/\RelL w'.heap true dead old cs' 0 B'/\∀ x∈B',x<w'.heap.size/\(ok x\/w.heap.size<=x))/\
  RelV w'.heap dead r c B/\(∀ b∈B,ok b\/w.heap.size<=b):=by
  rintro⟨hr,hr2⟩
  obtain⟨c,B,g1,g2,g3,g4⟩:=hr fn hrs a' w' hs'
  obtain⟨E2,⟨ow2,β2,hs2⟩,hr2⟩:=hr2 a' w' hs'
  refine⟨hs2.defers,c,g1,c,B,rfl,⟨hs2.kept.os,hs2.kept.output,hs2.kept.tape,hs2.kept.size⟩,fun b hb hn=>hs2.kept.old b hb (fun l e=>hn ((hio l b).1 e).2) (fun h=>h),fun b e cs t hc=>?_,g2,fun b hb=>(g3 b hb).2.imp id (fun h=>(h.elim id False.elim:Γ.nww b).elim id False.elim)⟩
  obtain⟨dp,hl⟩:=hr2 ⟨l0,old,old⟩ (by simp)
  obtain⟨Bo,k1,_,k3⟩:=hs2.objs l0 _ hl
  have hβ:=hs2.ios l0 b ((hio l0 b).2 ⟨rfl,e⟩) (by simp only at hl;rw[hl];rfl)
  rcases k3 with⟨k4,_⟩ | ⟨b',cs',t',k4,k5,k6,k7⟩
  · rw[hβ]at k4;cases k4
  · rw[hβ]at k4;cases k4
    obtain⟨cs2,q1,q2⟩:=hs2.kept.ios b (hblt b e).1 (fun h=>h) cs t hc
    rw[k6]at q1;cases q1
    exact⟨cs',Bo,k6,q2,by simpa using k7,fun x hx=>⟨(k1 x hx).1,(k1 x hx).2.1.imp id (fun h=>(h.elim id False.elim:Γ.nww x).elim id False.elim)⟩⟩
 cases e with
 | normal=>exact fin hq
 | ret=>exact fin hq
 | exit id=>exact hq.elim
 | goto l=>exact hq.elim
 | panic ch=>exact hq.elim
 | outgrown=>exact hq.elim
variable {Γ:Ctx P N}{S:List (Nat×Slot)}{O:List (Nat×Option Ob)}{ow:Nat->Own}{β:Nat->Option (Option Nat)}{F:Env}{a:Act}{w:World}
theorem SimG.rewriteS (h:SimG Γ ow β F a w){w':World}(hw:Same w w'){l b0:Nat}(hβ0:β l=some (some b0))(hother:∀ b,b<w.heap.size->b≠b0->w'.heap[b]?=w.heap[b]?)
 {cs cs':Array Value} {t:TypeId} (hrow0:w.heap[b0]?=some (.cells cs t (0,0))) (hrow:w'.heap[b0]?=some (.cells cs' t (0,0))) (hsz:cs'.size=cs.size) {cells:List PV} {B:List Nat}
 (hrel:RelL w'.heap true dead cells cs' 0 B) (hB:∀ b∈B,b<w'.heap.size/\(Im Γ ow w b\/w.heap.size<=b)):SimG Γ ow β (F.app ⟨[],[(l,some ⟨cells,false,false⟩)]⟩) a w':=by
 have hlab0:=h.lab_ne hβ0
 have hImne:∀ b,Im Γ ow w b->b≠b0:=by rintro b ⟨_,_,h3⟩ rfl;exact h3 l hlab0
 have hIm:∀ b,Im Γ ow w b->Im Γ ow w' b:=fun b hb=>⟨Nat.lt_of_lt_of_le hb.1 hw.size,hb.2⟩
 have hFree:∀ b,Im Γ ow w b->hY w b->hY w' b:=fun b hb ⟨c,t,hc⟩=>⟨c,t,by rw[hother b hb.1 (hImne b hb)];exact hc⟩
 have hheap:∀ b,Im Γ ow w b->w'.heap[b]?=w.heap[b]?:=fun b hb=>hother b hb.1 (hImne b hb)
 have hshape:∀ b,b<w.heap.size->aDt w.heap w'.heap b:=by
  intro b hb c t' hc
  by_cases hbb:b=b0
  · subst hbb;rw[hrow0]at hc;cases hc;exact⟨cs',hrow,hsz⟩
  · exact⟨c,by rw[hother b hb hbb];exact hc,rfl⟩
 have hkeep:∀ m,KeepB w.heap w'.heap β β m:=fun m o ho=>⟨ho,fun b hob=>by subst hob;exact hshape b (h.block_lt ho)⟩
 refine { size:=h.size,defers:=h.defers,kept:=?_,slots:=fun k=>?_,objs:=fun m ob' hm=>?_,gone:=fun m hm=>?_,own:=fun b hb=>?_,ios:=fun m b hm hs=>?_,fresh:=h.fresh }
 · refine⟨hw.os.trans h.kept.os,hw.output.trans h.kept.output,hw.tape.trans h.kept.tape,Nat.le_trans h.kept.size hw.size,fun b h1 h2 hmi=>?_,fun b h1 hmi c t' h2=>?_⟩
   · have hne:b≠b0:=by
      rintro rfl
      cases hi:Γ.io l with
      | none =>
       rcases h.fresh l b hβ0 hi with g | g
       · omega
       · exact hmi g
      | some b' =>
       have hsome:(lo F.o l).isSome=true:=by
        cases hoo:lo F.o l with
        | none=>rw[h.gone l hoo]at hβ0;cases hβ0
        | some _=>rfl
       have:=h.ios l b' hi hsome
       rw[hβ0]at this;cases this
       exact h2 l hi
     exact(hother b (Nat.lt_of_lt_of_le h1 h.kept.size) hne).trans (h.kept.old b h1 h2 hmi)
   · obtain⟨c',h3,h4⟩:=h.kept.ios b h1 hmi c t' h2
     obtain⟨c'',h5,h6⟩:=hshape b (Nat.lt_of_lt_of_le h1 h.kept.size) c' t' h3
     exact⟨c'',h5,h6.trans h4⟩
 · obtain⟨O',g1,g2,g3⟩:=h.slots k
   exact⟨O',RelV.keep _ _ _ (fun m _=>hkeep m) (fun b hb=>hheap b (g2 b hb)) g1,fun b hb=>hIm b (g2 b hb),fun hd=>⟨(g3 hd).1,fun b hb=>⟨((g3 hd).2 b hb).1,hFree b (g2 b hb) ((g3 hd).2 b hb).2⟩⟩⟩
 · simp only[Env.app,List.cons_append,List.nil_append,aY]at hm
   by_cases hml:l=m
   · subst hml
     rw[if_pos rfl]at hm;cases hm
     refine⟨B,fun b hb=>?_,fun hd=>(by cases hd),.inr ⟨b0,cs',t,hβ0,hlab0,hrow,hrel⟩⟩
     obtain⟨g1,g2⟩:=hB b hb
     rcases g2 with g2 | g2
     · exact hIm b g2
     · exact⟨g1,.inr (.inl (.inl (Nat.le_trans h.kept.size g2))),fun m e=>by have:=(h.own b (by rw[e];simp)).1;omega⟩
   · rw[if_neg hml]at hm
     obtain⟨O',g1,g2,g3⟩:=h.objs m ob' hm
     refine⟨O',fun b hb=>hIm b (g1 b hb),fun hd=>⟨(g2 hd).1,fun b hb=>⟨((g2 hd).2 b hb).1,hFree b (g1 b hb) ((g2 hd).2 b hb).2⟩⟩,?_⟩
     rcases g3 with g3 | ⟨b,c,t',e1,e2,e3,e4⟩
     · exact .inl g3
     · have hbne:b≠b0:=by rintro rfl;rw[hlab0]at e2;simp at e2;exact hml e2
       refine .inr ⟨b,c,t',e1,e2,by rw[hother b (h.block_lt e1) hbne];exact e3,?_⟩
       cases hbx:ob'.box with
       | false=>rw[hbx]at e4;exact RelL.keep _ _ _ _ (fun _ _ l _=>KeepB.dead _ _ l) (fun b hb=>hheap b (g1 b hb)) e4
       | true=>rw[hbx]at e4;exact RelL.keep _ _ _ _ (fun _ _ m' _=>hkeep m') (fun b hb=>hheap b (g1 b hb)) e4
 · simp only[Env.app,List.cons_append,List.nil_append,aY]at hm
   by_cases hml:l=m
   · rw[if_pos hml]at hm;cases hm
   · rw[if_neg hml]at hm;exact h.gone m hm
 · exact⟨Nat.lt_of_lt_of_le (h.own b hb).1 hw.size,(h.own b hb).2⟩
 · simp only[Env.app,List.cons_append,List.nil_append,aY]at hs
   by_cases hml:l=m
   · subst hml
     refine h.ios l b hm ?_
     cases ho:lo F.o l with
     | none=>rw[h.gone l ho]at hβ0;cases hβ0
     | some _=>rfl
   · rw[if_neg hml]at hs;exact h.ios m b hm hs
variable {d:Nat}{ty:TypeId}{pos:String}{af:Array Edge}{g:Option (Nat×Bool)}
theorem aLW {f:FuncId}[hfc:FnC P f]{xs:List Operand}{tus:Array TypeId}{ps:List PV}{l0 l:Nat}{old:List PV}{r:PV}{dp:Bool}(ha:ArgsX S O [(l0,l)] xs ps [])(hm:MeetsR P f ps l0 old r)(ho:loq O l=some ⟨old,dp,false⟩)(hr:r.labs=[])(hd:Nat.blt d N=true) :
 Local Γ ⟨some d,.call ⟨.value (.func f),xs.toArray,tus⟩,ty,pos,af,g⟩ ⟨S,O⟩ ⟨[(d,⟨r,false⟩)],[(l,some ⟨old,false,false⟩)]⟩ (rU xs) [l] []:=by
 intro F hs hl _ a w ⟨ow,β,hsim⟩ Q
 have hdN:=(aU _ _).1 hd
 have hlo:lo F.o l=some ⟨old,dp,false⟩:=by rw[hl l (by simp),<- dD];exact ho
 have hren:rn [(l0,l)] l0=l:=by simp[rn]
 unfold Oper.wp
 have hrun:(execOp a.eval ⟨some d,.call ⟨.value (.func f),xs.toArray,tus⟩,ty,pos,af,g⟩).run P w=.ok (.enter f (xs.map a.eval).toArray) w:=by
  simp[execOp,resolve,Act.eval,Deferred.ofValue,invoke,hfc.run]
 rw[hrun]
 show Calls _ _ _ _ _
 obtain⟨o,hβ⟩:∃ o,β l=some o:=by
  obtain⟨B,_,_,g⟩:=hsim.objs l _ hlo
  rcases g with⟨e,_⟩ | ⟨b,_,_,e,_⟩
  · exact⟨_,e⟩
  · exact⟨_,e⟩
 have hκ:∀ l' o',aDf l0 o l'=some o'->β (rn [(l0,l)] l')=some o':=by
  intro l' o' e
  by_cases e2:l'=l0
  · subst e2
    have e:(if l'=l' then some o else none)=some o':=e
    rw[if_pos rfl]at e;cases e;rw[hren];exact hβ
  · have e:(if l'=l0 then some o else none)=some o':=e
    rw[if_neg e2]at e;cases e
 have hargs:XArgs w.heap (fun b=>Im Γ ow w b) (aDf l0 o) ps (xs.map a.eval):=by
  have key:∀ {xs:List Operand} {ps:List PV} {ls':List Nat},ArgsX S O [(l0,l)] xs ps ls'->ls'=[]->(∀ k∈rU xs,lk F.s k=lk S k)->XArgs w.heap (fun b=>Im Γ ow w b) (aDf l0 o) ps (xs.map a.eval):=by
   intro xs ps ls' hx
   induction hx with
   | nil=>intro _ _;trivial
   | @cons x p l1 m xs ps h1 h2 ih =>
    intro hls hk
    obtain⟨rfl,rfl⟩:=List.append_eq_nil_iff.1 hls
    have hk1:∀ k∈ors x,lk F.s k=lk S k:=fun k hk'=>hk k (by cases x <;> simp[ors,rU]at hk' ⊢;exact .inl hk')
    have hk2:∀ k∈rU xs,lk F.s k=lk S k:=fun k hk'=>hk k (by cases x <;> simp[rU,hk'])
    refine⟨?_,ih rfl hk2⟩
    cases h1 with
    | val hv hlb =>
     obtain⟨B,g1,g2⟩:=ArgV.rel hsim hv hk1 (fun m hm'=>by cases hm')
     exact⟨B,g1.nolab hlb,fun b hb=>(g2 b hb).elim id fun⟨m,hm',_⟩=>by cases hm'⟩
    | io hv =>
     obtain⟨B,g1,g2⟩:=dE hsim hv hk1
     exact⟨B,xR hκ _ g1,fun b hb=>g2 b hb⟩
  exact key ha rfl hs
 obtain⟨Bo,k1,_,k3⟩:=hsim.objs l _ hlo
 refine(hm w (xs.map a.eval).toArray (fun b=>Im Γ ow w b) o (by simpa using hargs) ?_).mono fun e w' ⟨c,B,he,hsame,hoth,hpost,h1,h2⟩=>?_
 · rcases k3 with⟨e1,e2,_⟩ | ⟨b,cs,t,e1,e2,e3,e4⟩
   · rw[hβ]at e1;cases e1;exact .inl ⟨rfl,e2⟩
   · rw[hβ]at e1;cases e1
     exact .inr ⟨b,cs,t,Bo,rfl,fun h=>h.2.2 _ e2,e3,by simpa using e4,k1⟩
 · subst he
   show Sim Γ _ _ _
   have hB:∀ b∈B,b<w'.heap.size:=RelV.below _ _ _ h1
   have hImB:∀ b∈B,Im Γ ow w' b:=by
    intro b hb
    rcases h2 b hb with g | g
    · exact⟨Nat.lt_of_lt_of_le g.1 hsame.size,g.2⟩
    · exact⟨hB b hb,.inr (.inl (.inl (Nat.le_trans hsim.kept.size g))),fun l e=>by have:=(hsim.own b (by rw[e];simp)).1;omega⟩
   have fin:SimG Γ ow β (F.app ⟨[],[(l,some ⟨old,false,false⟩)]⟩) a w'->Sim Γ (F.app ⟨[(d,⟨r,false⟩)],[(l,some ⟨old,false,false⟩)]⟩) (a.put (some d) c) w':=by
    intro h
    have h3:=h.put hdN (RelV.nolab hr h1) hImB
    exact⟨ow,β,h3.congr (fun k=>rfl) (fun l=>rfl)⟩
   rcases k3 with⟨e1,e2,_⟩ | ⟨b,cs,t,e1,e2,e3,e4⟩
   · rw[hβ]at e1;cases e1
     refine fin ?_
     have hg:=hsim.grow (w':=w') ⟨hsame.os,hsame.tape,hsame.output,hsame.size,fun b hb=>hoth b hb (by simp)⟩
     refine { hg with objs:=fun m ob hm=>?_,gone:=fun m hm=>?_,ios:=fun m b hm hs=>?_ }
     · simp only[Env.app,List.cons_append,List.nil_append,aY]at hm
       by_cases hml:l=m
       · subst hml
         rw[if_pos rfl]at hm;cases hm
         exact⟨[],by simp,by simp,.inl ⟨hβ,e2,rfl⟩⟩
       · rw[if_neg hml]at hm;exact hg.objs m ob hm
     · simp only[Env.app,List.cons_append,List.nil_append,aY]at hm
       by_cases hml:l=m
       · rw[if_pos hml]at hm;cases hm
       · rw[if_neg hml]at hm;exact hg.gone m hm
     · simp only[Env.app,List.cons_append,List.nil_append,aY]at hs
       by_cases hml:l=m
       · subst hml;exact hg.ios l b hm (by rw[hlo];rfl)
       · rw[if_neg hml]at hs;exact hg.ios m b hm hs
   · rw[hβ]at e1;cases e1
     obtain⟨cs',B',q1,q2,q3,q4⟩:=hpost b rfl cs t e3
     exact fin (hsim.rewriteS hsame hβ (fun b' hb' hne=>hoth b' hb' (fun e=>hne (Option.some.inj e).symm)) e3 q1 q2 q3 (fun x hx=>⟨(q4 x hx).1,(q4 x hx).2⟩))
end
end Go.Ev
/- The engine, part TT: short forms of tests, loops, calls and ends. -/
namespace Go.Ev
set_option linter.all false
section
variable {P:Program}{N:Nat}{Γ:Ctx P N}{E:Env}{Q Q' Q9:Exit->Env->Prop}{S:List (Nat×Slot)}{O:List (Nat×Option Ob)}
variable {α β σ ρ ε:Type}{x y:Code}{t:Nat}{dp deep:Bool}
theorem cT {c:Prop}{_hc:Decidable c}{a b:Option β}{r:β}(H:(if c then a else b)=some r)(h1:c->a=some r->CodeT Γ x E Q)(h2:¬c->b=some r->CodeT Γ y E Q)(hk:lk E.s t=⟨.sc (.bool (decide c)),dp⟩:=by rfl):CodeT Γ (.cond (.tmp t) x y) E Q :=
 .cond hk (fun h=>h1 (of_decide_eq_true h) (ifT (of_decide_eq_true h) H)) (fun h=>h2 (of_decide_eq_false h) (ifF (of_decide_eq_false h) H))
theorem cB {c:Bool}{a b:Option β}{r:β}(H:(if c=true then a else b)=some r)(h1:c=true->a=some r->CodeT Γ x E Q)(h2:c=false->b=some r->CodeT Γ y E Q)(hk:lk E.s t=⟨.sc (.bool c),dp⟩:=by rfl):CodeT Γ (.cond (.tmp t) x y) E Q :=
 .cond hk (fun h=>h1 h (aPb h H)) (fun h=>h2 h (aPc h H))
theorem cN {c:Bool}{a b:Option β}{r:β}(H:(if c=true then a else b)=some r)(h1:(!c)=true->b=some r->CodeT Γ x E Q)(h2:(!c)=false->a=some r->CodeT Γ y E Q)(hk:lk E.s t=⟨.sc (.bool (!c)),dp⟩:=by rfl):CodeT Γ (.cond (.tmp t) x y) E Q :=
 .cond hk (fun h=>h1 h (aPc (aRX h) H)) (fun h=>h2 h (aPb (aRY h) H))
section
variable {ops rest:List Oper}{K:List Item->Env->Prop}{acc:List Item}{o:Oper}{rs ro gs:List Nat}{d:Nat}
theorem dT {c:Prop}{_hc:Decidable c}{a b:Option β}{r:β}(H:(if c then a else b)=some r)
 (ht:c->a=some r->Run Γ ops K rest (⟨⟨[(d,⟨.sc (.bool true),false⟩)],[]⟩,gs++rs,ro,[]⟩::acc) ⟨(d,⟨.sc (.bool true),false⟩)::S,O⟩)
 (hf:¬c->b=some r->Run Γ ops K rest (⟨⟨[(d,⟨.sc (.bool false),false⟩)],[]⟩,gs++rs,ro,[]⟩::acc) ⟨(d,⟨.sc (.bool false),false⟩)::S,O⟩)
 (hl:Local Γ o ⟨S,O⟩ ⟨[(d,⟨.sc (.bool (decide c)),false⟩)],[]⟩ rs ro []:=by first | exact aP5 rfl rfl rfl | exact aP8 rfl rfl rfl | exact aQa rfl rfl rfl | exact aP6 rfl rfl rfl | exact aP9 rfl rfl rfl | exact aP4 rfl rfl rfl) (hg:gd N ops S true o.guard=some gs:=by rfl):Run Γ ops K (o::rest) acc ⟨S,O⟩ :=
 aRB hl hg (fun h=>ht h (ifT h H)) (fun h=>hf h (ifF h H))
theorem dB {c:Bool}{a b:Option β}{r:β}(H:(if c=true then a else b)=some r)
 (ht:c=true->a=some r->Run Γ ops K rest (⟨⟨[(d,⟨.sc (.bool true),dp⟩)],[]⟩,gs++rs,ro,[]⟩::acc) ⟨(d,⟨.sc (.bool true),dp⟩)::S,O⟩)
 (hf:c=false->b=some r->Run Γ ops K rest (⟨⟨[(d,⟨.sc (.bool false),dp⟩)],[]⟩,gs++rs,ro,[]⟩::acc) ⟨(d,⟨.sc (.bool false),dp⟩)::S,O⟩)
 (hl:Local Γ o ⟨S,O⟩ ⟨[(d,⟨.sc (.bool c),dp⟩)],[]⟩ rs ro []:=by first | exact aA4 rfl rfl | exact aQb rfl rfl | exact aGy rfl rfl rfl (.inl rfl) rfl | exact aGy rfl rfl rfl (.inr rfl) rfl | exact aK2 rfl rfl rfl | exact aP7 rfl rfl rfl rfl) (hg:gd N ops S true o.guard=some gs:=by rfl):Run Γ ops K (o::rest) acc ⟨S,O⟩ :=
 aKZ hl hg (fun h=>ht h (aPb h H)) (fun h=>hf h (aPc h H))
theorem dC {x:Option Bool}{a b:Bool->Option β}{r:β}{f:FuncId}[hfc:FnC P f]{xs:List Operand}{us:Array TypeId}{ps:List PV}{ls:List Nat}{ty:TypeId}{pos:String}{af:Array Edge}{g:Option (Nat×Bool)}(H:x.bind (fun v=>if v=true then a v else b v)=some r)(hm:∀ v,x=some v->Meets P f ps (.sc (.bool v)) deep)
 (ht:a true=some r->Run Γ ops K rest (⟨⟨[(d,⟨.sc (.bool true),deep⟩)],[]⟩,gs++rU xs,ls,[]⟩::acc) ⟨(d,⟨.sc (.bool true),deep⟩)::S,O⟩)
 (hf:b false=some r->Run Γ ops K rest (⟨⟨[(d,⟨.sc (.bool false),deep⟩)],[]⟩,gs++rU xs,ls,[]⟩::acc) ⟨(d,⟨.sc (.bool false),deep⟩)::S,O⟩)
 (ha:ArgsV S O xs ps ls:=by first | exact av (av .nil) | exact av (ar .nil) | exact ar (av .nil) | exact ar (ar .nil) | exact av .nil | exact ar .nil | exact av (av (av .nil)) | exact av (av (ar .nil)) | exact av (ar (av .nil)) | exact av (ar (ar .nil)) | exact ar (av (av .nil)) | exact ar (av (ar .nil)) | exact ar (ar (av .nil)) | exact ar (ar (ar .nil)) | exact av (av (av (av .nil))) | exact av (av (av (ar .nil))) | exact av (av (ar (av .nil))) | exact av (ar (av (av .nil))) | exact ar (av (av (av .nil)))) (hd:Nat.blt d N=true:=by rfl) (hg:gd N ops S true g=some gs:=by rfl):Run Γ ops K (⟨some d,.call ⟨.value (.func f),xs.toArray,us⟩,ty,pos,af,g⟩::rest) acc ⟨S,O⟩:=by
 obtain⟨v,hv,H⟩:=aC H
 refine aKZ (aCL ha (hm v hv) (by simp[flat]) rfl hd) hg (fun h=>?_) (fun h=>?_) <;> subst h
 · exact ht H
 · exact hf H
theorem cl {x:Option α}{cont:α->Option β}{r:β}{V:α->PV}{f:FuncId}[hfc:FnC P f]{xs:List Operand}{us:Array TypeId}{ps:List PV}{ls:List Nat}{ty:TypeId}{pos:String}{af:Array Edge}{g:Option (Nat×Bool)}(H:x.bind cont=some r)(hm:∀ v,x=some v->Meets P f ps (V v) deep)
 (hk:∀ v,cont v=some r->Run Γ ops K rest (⟨⟨[(d,⟨V v,deep⟩)],[]⟩,gs++rU xs,ls,[]⟩::acc) ⟨[(d,⟨V v,deep⟩)]++S,[]++O⟩)
 (ha:ArgsV S O xs ps ls:=by first | exact av (av .nil) | exact av (ar .nil) | exact ar (av .nil) | exact ar (ar .nil) | exact av .nil | exact ar .nil | exact av (av (av .nil)) | exact av (av (ar .nil)) | exact av (ar (av .nil)) | exact av (ar (ar .nil)) | exact ar (av (av .nil)) | exact ar (av (ar .nil)) | exact ar (ar (av .nil)) | exact ar (ar (ar .nil)) | exact av (av (av (av .nil))) | exact av (av (av (ar .nil))) | exact av (av (ar (av .nil))) | exact av (ar (av (av .nil))) | exact ar (av (av (av .nil)))) (hc:∀ v,(aNG ls||deep||flat (V v))=true:=by intro _;rfl) (hr:∀ v,(V v).labs=[]:=by intro _;rfl) (hd:Nat.blt d N=true:=by rfl) (hg:gd N ops S true g=some gs:=by rfl):Run Γ ops K (⟨some d,.call ⟨.value (.func f),xs.toArray,us⟩,ty,pos,af,g⟩::rest) acc ⟨S,O⟩:=by
 obtain⟨v,hv,H⟩:=aC H
 exact .op (aCL ha (hm v hv) (hc v) (hr v) hd) hg rfl (hk v H)
theorem ix {l:List α}{cont:α->Option β}{r:β}{j:Int}{x i:Operand}{t e n by_:Nat}{agg:Bool}{enc:α->List PV}{k:IntKind}{len:Nat}{ty:TypeId}{pos:String}{af:Array Edge}{g:Option (Nat×Bool)}[ht:SlT P t e][hi:TI P e n agg by_](H:(idx l j).bind cont=some r)
 (hk:∀ y,idx l j=some y->cont y=some r->Run Γ ops K rest (⟨⟨[(d,⟨.iptr (enc y),false⟩)],[]⟩,gs++(ors x++ors i),[],[]⟩::acc) ⟨[(d,⟨.iptr (enc y),false⟩)]++S,[]++O⟩)
 (hx:evq S x=some (.sl len (l.flatMap enc)):=by rfl) (hix:evq S i=some (.sc (.int k j)):=by rfl) (hlen:len=l.length:=by rfl) (hsz:∀ y,(enc y).length=n:=by intro _;rfl) (hd:Nat.blt d N=true:=by rfl) (hg:gd N ops S true g=some gs:=by rfl):Run Γ ops K (⟨some d,.indexAddr t x i,ty,pos,af,g⟩::rest) acc ⟨S,O⟩:=by
 obtain⟨v,hv,H⟩:=aC H
 exact aQM (hk v hv H) hv hx hix hlen hsz hd hg
end
theorem ll {step:σ->Option (σ ⊕ ρ)}{s0:σ}{K:ρ->Option β}{r:β}{c:Code}(H:(lp step s0).bind K=some r)(Es:σ->Env)(Xe:ρ->Exit->Env->Prop)(he:Ent Γ E (Es s0))
 (hr:∀ s o,step s=some o->CodeT Γ c (Es s) (xC Γ Es Xe o)) (hq:∀ d,K d=some r->∀ e E',Xe d e E'->Q e E'):CodeT Γ (.loop c) E Q:=by
 obtain⟨d,hd,H⟩:=aC H
 exact .lloop Es Xe hd he hr (fun e E' h=>hq d H e E' h)
theorem l1 {step:σ->Option (σ ⊕ ρ)}{s0:σ}{K:ρ->Option β}{r:β}{c y:Code}{i:Nat}(H:(lp step s0).bind K=some r)(Es:σ->Env)(E2:ρ->Env)(he:Ent Γ E (Es s0))
 (hr:∀ s o,step s=some o->CodeT Γ c (Es s) (xC Γ Es (fun d e E=>XEnv Γ (.exit i) (E2 d) e E) o)) (hq:∀ d,K d=some r->CodeT Γ y (E2 d) Q'):CodeT Γ (.loop c) E (nY i (xA (fun E'=>CodeT Γ y E' Q') Q9)) :=
 ll H Es _ he hr (fun d H e E' h=>by obtain⟨rfl,g⟩:=XEnv.out h;exact x6 (Nat.beq_refl i) (x3 (.weak g (hq d H))))
theorem l2 {step:σ->Option (σ ⊕ (ρ ⊕ ε))}{s0:σ}{K:ρ ⊕ ε->Option β}{r:β}{c y:Code}{i:Nat}(rs:Array ResultVar)(dp:Bool)(H:(lp step s0).bind K=some r)(Es:σ->Env)(E2:ρ->Env)(R2:ε->PV)(he:Ent Γ E (Es s0))
 (hr:∀ s o,step s=some o->CodeT Γ c (Es s) (xC Γ Es (fun x e E=>match x with | .inl d=>XEnv Γ (.exit i) (E2 d) e E | .inr d=>XRet Γ rs (R2 d) dp e E) o)) (hq:∀ d,K (.inl d)=some r->CodeT Γ y (E2 d) Q') (hq2:∀ d,K (.inr d)=some r->∀ E',RetIs Γ rs E' (R2 d) dp->Q9 .ret E'):CodeT Γ (.loop c) E (nY i (xA (fun E'=>CodeT Γ y E' Q') Q9)) :=
 ll H Es _ he hr (fun d H e E' h=>by
  cases d with
  | inl d=>obtain⟨rfl,g⟩:=XEnv.out h;exact x6 (Nat.beq_refl i) (x3 (.weak g (hq d H)))
  | inr d=>obtain⟨rfl,g⟩:=XRet.out h;exact x4 (x1 (hq2 d H E' g)))
theorem lc {x:Option ρ}{K:ρ->Option β}{r:β}{c y:Code}(H:x.bind K=some r)(E2:ρ->Env)(hc:∀ d,x=some d->CodeT Γ c E (aJZ (fun d e E=>XEnv Γ .normal (E2 d) e E) d))(hq:∀ d,K d=some r->CodeT Γ y (E2 d) Q'):CodeT Γ c E (xA (fun E'=>CodeT Γ y E' Q') Q9):=by
 obtain⟨d,hd,H⟩:=aC H
 exact .lcut _ (hc d hd) (fun e E' h=>by obtain⟨rfl,g⟩:=XEnv.out h;exact x3 (.weak g (hq d H)))
theorem rl (k n':Nat){c:Code}{l s off n:Nat}{dp:Bool}(h:CodeT Γ c ⟨(k,⟨.ref l s off n',dp⟩)::S,O⟩ Q)(hk:lkq S k=some ⟨.ref l s off n,dp⟩:=by rfl)(hn:n=n':=by first | (simp only[aAe];done) | (simp only[aAe];omega) | omega):CodeT Γ c ⟨S,O⟩ Q:=.weak (Ent.relen hk hn) h
theorem mi (N:Nat)(rs:Array ResultVar){fn:Func}{f:FuncId}{c:Code}{args:List PV}{r:PV}(hf:P.funcs[f]?=some fn)
 (h:∀ Γ:Ctx P N,(∀ l,Nat.blt l 100000=true->Γ.io l=none)->CodeT Γ c ⟨kS args 0,[]⟩ (aB7 Γ rs r deep)) (hb:fn.body=some c:=by rfl) (hN:fn.ntmps=N:=by rfl) (hrs:fn.results=rs:=by rfl) (hn:Nat.ble args.length N=true:=by rfl):Meets P f args r deep :=
 .intro2 hf hb hN hrs hn h
theorem rB (sz n:Nat){l:List α}{enc:α->List PV}{j:Int}{y:α}(hl:idx l j=some y)(h:∀ y,(enc y).length=sz:=by intro _;rfl)(ho:n<=sz:=by decide):Nat.ble (j.toNat*sz+n) (l.flatMap enc).length=true:=aM9 hl h ho
theorem rC (sz o n:Nat){l:List α}{enc:α->List PV}{j:Int}{y:α}(hl:idx l j=some y)(h:∀ y,(enc y).length=sz:=by intro _;rfl)(ho:o+n<=sz:=by decide):Nat.ble (j.toNat*sz+o+n) (l.flatMap enc).length=true:=aLe hl h ho
theorem rD (sz:Nat){l x:List α}{enc:α->List PV}{j:Int}{y y':α}{vs:List PV}(hx:aZ (kT l j y')=some x)(hl:idx l j=some y)(h:∀ y,(enc y).length=sz:=by intro _;rfl)(he:vs=enc y':=by rfl):(l.flatMap enc).take (j.toNat*sz)++vs++(l.flatMap enc).drop (j.toNat*sz+sz)=x.flatMap enc:=aLd hx hl h he
theorem rP (sz:Nat){l:List α}{enc:α->List PV}{j:Int}{y:α}{dp bx:Bool}(hl:idx l j=some y)(h:∀ y,(enc y).length=sz:=by intro _;rfl)(h0:0<sz:=by decide):Nat.blt 0 (Ob.mk (l.flatMap enc) dp bx).cells.length=true:=aOZ hl h h0
theorem rF (sz o n:Nat){l x:List α}{enc:α->List PV}{j:Int}{y y':α}{vs:List PV}(hx:aZ (kT l j y')=some x)(hl:idx l j=some y)(h:∀ y,(enc y).length=sz:=by intro _;rfl)(ho:o+n<=sz:=by decide)(he:(enc y).take o++vs++(enc y).drop (o+n)=enc y':=by rfl):(l.flatMap enc).take (j.toNat*sz+o)++vs++(l.flatMap enc).drop (j.toNat*sz+o+n)=x.flatMap enc:=aM8 hx hl h ho he
end
section
variable {P:Program}{N:Nat}{Γ:Ctx P N}{E:Env}{S S':List (Nat×Slot)}{O O':List (Nat×Option Ob)}{rs:Array ResultVar}{r:PV}{deep:Bool}
theorem le (ρ:List (Nat×Nat))(hio:∀ l,Nat.blt l 100000=true->Γ.io l=none:=by assumption)(hρ:aOq ρ=true:=by rfl)(hi:aKC ρ (aAo O')=true:=by rfl)(h1:aGX S S'=aGW ρ S':=by rfl)(h2:aHx S S'=true:=by rfl)(h3:aDZ ρ O O'=aDY ρ O':=by rfl)(h4:aEh ρ O O'=true:=by rfl):Ent Γ ⟨S,O⟩ ⟨S',O'⟩ :=
 el ρ (io0 hio ρ hρ) hi h1 h2 h3 h4
theorem leq {ρ:List (Nat×Nat)}(_hq:ρ=ρ)(hio:∀ l,Nat.blt l 100000=true->Γ.io l=none:=by assumption)(hρ:aOq ρ=true:=by rfl)(hi:aKC ρ (aAo O')=true:=by rfl)(h1:aGX S S'=aGW ρ S':=by rfl)(h2:aHx S S'=true:=by rfl)(h3:aDZ ρ O O'=aDY ρ O':=by rfl)(h4:aEh ρ O O'=true:=by rfl):Ent Γ ⟨S,O⟩ ⟨S',O'⟩:=el ρ (io0 hio ρ hρ) hi h1 h2 h3 h4
theorem rr1 {rv:ResultVar}{p:PV}{o:ResO}(h:Res1 Γ ⟨S,O⟩ rv p o:=by first | exact Res1.sc rfl | exact Res1.cell rfl rfl rfl (by intro h;cases h) | exact Res1.refW rfl rfl (io1 (by assumption) _) | exact Res1.ref rfl rfl (io1 (by assumption) _) | exact Res1.nilW rfl | exact Res1.nil rfl | exact Res1.deep rfl rfl | exact Res1.val rfl rfl):Res1 Γ ⟨S,O⟩ rv p o:=h
theorem rt (h:RetIs Γ rs E r deep:=by first | exact RetIs.sc1 rfl | exact RetIs.c1 rfl rfl rfl rfl (by intro h;cases h) | exact RetIs.rW rfl rfl rfl (io1 (by assumption) _) | exact RetIs.one (Res1.deep rfl rfl) (fun _ h=>by cases h) | exact RetIs.one (Res1.val rfl rfl) (fun h=>by cases h) | exact RetIs.one (Res1.nilW rfl) (fun _ h=>by cases h) | exact RetIs.one (Res1.nil rfl) (fun _ h=>by cases h) | exact RetIs.r1 rfl rfl rfl (io1 (by assumption) _) | assumption | exact RetIs.many (.inl rfl) (.cons rr1 (.cons rr1 .nil)) (fun h=>by first | rfl | cases h) | exact RetIs.many (.inr (.inl rfl)) (.cons rr1 (.cons rr1 (.cons rr1 .nil))) (fun h=>by first | rfl | cases h) | exact RetIs.many (.inr (.inr rfl)) (.cons rr1 (.cons rr1 (.cons rr1 (.cons rr1 .nil)))) (fun h=>by first | rfl | cases h)):RetIs Γ rs E r deep:=h
end
abbrev vI (n:Int):Slot:=⟨.sc (.int .i64 n),false⟩
abbrev vB (b:Bool):Slot:=⟨.sc (.bool b),false⟩
abbrev vS {α:Type} (e:α->List PV) (l:List α):Slot:=⟨.sl l.length (l.flatMap e),false⟩
abbrev vR (k s n:Nat):Slot:=⟨.ref k s 0 n,false⟩
abbrev vP (k n:Nat):Slot:=⟨.ptr k n,false⟩
abbrev vW {α:Type} (s:Nat) (e:α->List PV) (l:List α) (dp:Bool):Slot:=⟨.rw s l.length (l.flatMap e),dp⟩
abbrev vO (c:List PV) (a b:Bool):Option Ob:=some ⟨c,a,b⟩
end Go.Ev
/- The engine, part UU: a call whose results are rows beside own values. -/
namespace Go.Ev
open Go.RowKit (Below)
set_option linter.all false
section
variable {P:Program}{N:Nat}{Γ:Ctx P N}{S:List (Nat×Slot)}{O:List (Nat×Option Ob)}{ow:Nat->Own}{β:Nat->Option (Option Nat)}{F:Env}{a:Act}{w:World}
variable {d:Nat}{ty:TypeId}{pos:String}{af:Array Edge}{g:Option (Nat×Bool)}
end
end Go.Ev
/- The engine, part VV: a store that fills a whole object makes it one's own. -/
namespace Go.Ev
open Go.RowKit (Below)
set_option linter.all false
theorem aFo {h:Array Obj}{q:Bool}{β β':Nat->Option (Option Nat)}:∀ {ps:List PV} {cs:Array Value} {i:Nat} {O:List Nat},RelL h q β ps cs i O->RelL h q β' (ps.map fun _=>.any) cs i []
 | [],_,_,_,_=>by simp[RelL]
 | p::ps,cs,i,O,H=>by
  simp only[List.map_cons,RelL,RelV]at H ⊢
  obtain⟨c,O1,O2,h1,_,h3,_⟩:=H
  exact⟨c,[],[],h1,rfl,aFo h3,rfl⟩
section
variable {P:Program}{N:Nat}{Γ:Ctx P N}{S:List (Nat×Slot)}{O:List (Nat×Option Ob)}{ow:Nat->Own}{β:Nat->Option (Option Nat)}{F:Env}{a:Act}{w:World}
variable {d:Nat}{ty:TypeId}{pos:String}{af:Array Edge}{g:Option (Nat×Bool)}
end
end Go.Ev
