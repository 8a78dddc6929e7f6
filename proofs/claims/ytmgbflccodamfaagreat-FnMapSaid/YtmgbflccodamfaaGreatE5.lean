/- Parts EvPP, EvQQ, EvRR, EvSS, EvTT, EvUU, EvVV, EvWW. -/
import Derived.Test.YtmgbflccodamfaaGreatE4
set_option linter.all false
set_option maxHeartbeats 4000000
set_option maxRecDepth 20000
/- The engine, part PP: a drawn region in which one pair of operations is not ordered (printed by mkpp.py). -/
namespace Go.Ev
def XOk {P:Program}{N:Nat}(Γ:Ctx P N)(ops:Array Oper)(items:List Item)(E0:Env)(p q:Nat):Prop :=
 ∃ x y,items[q]?=some x/\items[p]?=some y/\p<q/\zE x y=false/\x.nl=[]/\y.nl=[]/\uM Γ ops q (pt (fun j=>Nat.blt j q&&!(Nat.beq j p)) items 0 E0) x.e x.rs x.ro x.nl
theorem XOk.intro {P:Program}{N:Nat}{Γ:Ctx P N}{ops:Array Oper}{items:List Item}{E0:Env}{p q:Nat}{x y:Item}{o:Oper}(h1:items[q]?=some x)(h2:items[p]?=some y)(h3:Nat.blt p q=true)(h4:zE x y=false)(h5:x.nl=[])(h6:y.nl=[])
 (ho:ops[q]?=some o) (hg:o.guard=none) (hl:Local Γ o ⟨(pt (fun j=>Nat.blt j q&&!(Nat.beq j p)) items 0 E0).s,(pt (fun j=>Nat.blt j q&&!(Nat.beq j p)) items 0 E0).o⟩ x.e x.rs x.ro x.nl):XOk Γ ops items E0 p q :=
 ⟨x,y,h1,h2,(aR _ _).1 h3,h4,h5,h6,Local.at ho hg hl⟩
section
variable {P:Program}{N:Nat}{Γ:Ctx P N}{E:Env}{Q:Exit->Env->Prop}
end
/- The engine, part QQ: functions that return a new row whose elements are shared: the row becomes the caller's own row. -/
open Go.RowKit (Below)
def MeetsF (P:Program)(f:FuncId)(args:List PV)(s n:Nat)(cells:List PV):Prop :=
 ∀ (w:World) (cargs:Array Value) (ok:Nat->Prop),RelArgs w.heap ok args cargs.toList->
  Calls P f cargs w fun e w'=>∃ c B,e=.returned c/\Below w.heap.size w w'/\RelV w'.heap dead (.rw s n cells) c B/\(∀ b∈B,b<w'.heap.size/\(ok b\/w.heap.size<=b))/\(∀ b B',B=b::B'->w.heap.size<=b/\b∉B')
theorem MeetsF.soft {P:Program}{f:FuncId}{args:List PV}{s n:Nat}{cells:List PV}(h:MeetsF P f args s n cells):Meets P f args (.sl n cells) false :=
 fun w cargs ok ha=>(h w cargs ok ha).mono fun _ _ ⟨c,B,h1,h2,h3,h4,_⟩=>⟨c,B,h1,h2,h3.soft,fun b hb=>(h4 b hb).2,by simp⟩
section
variable {P:Program}{N:Nat}{Γ:Ctx P N}{S:List (Nat×Slot)}{O:List (Nat×Option Ob)}{ow:Nat->Own}{β:Nat->Option (Option Nat)}{F:Env}{a:Act}{w:World}
def ResF (Γ:Ctx P N)(rs:Array ResultVar)(E:Env)(s n:Nat)(cells:List PV):Prop :=
 ∀ fn:Func,fn.results=rs->∀ a w,Sim Γ E a w->∃ c B,(results fn a.tmps).run P w=.ok c w/\RelV w.heap dead (.rw s n cells) c B/\(∀ b∈B,b<w.heap.size/\(Γ.ok b\/Γ.nw b))/\(∀ b B',B=b::B'->Γ.nww b/\b∉B')
def aRC (Γ:Ctx P N)(rs:Array ResultVar)(s n:Nat)(cells:List PV):Exit->Env->Prop
 | .normal,E=>ResF Γ rs E s n cells
 | .ret,E=>ResF Γ rs E s n cells
 | _,_=>False
theorem aT3 {rs:Array ResultVar}{E:Env}{s n:Nat}{cells:List PV}(h:ResF Γ rs E s n cells):aRC Γ rs s n cells .ret E:=h
theorem ResF.weak {E E0:Env}{rs:Array ResultVar}{s n:Nat}{cells:List PV}(he:Ent Γ E E0)(h:ResF Γ rs E0 s n cells):ResF Γ rs E s n cells:=fun fn hf a w hs=>h fn hf a w (he a w hs)
theorem ResF.mk {t l s n:Nat}{cells:List PV}{dp dp0:Bool}(h:lkq S t=some ⟨.ref l s 0 n,dp0⟩)(ho:loq O l=some ⟨cells,dp,false⟩)(hio:Γ.io l=none):ResF Γ #[.tmp t] ⟨S,O⟩ s n cells:=by
 rintro fn hf a w ⟨ow,β,hs⟩
 rw[zK hf]
 obtain⟨B,h1,_⟩:=hs.slots t
 rw[gH h]at h1
 simp only[RelV]at h1
 obtain⟨Bo,o1,o2,hob⟩:=hs.objs l ⟨cells,dp,false⟩ (by rw[<- dA];exact ho)
 rcases hob with⟨p1,p2,p3⟩ | ⟨b,cs,u,p1,p2,p3,p4⟩
 · obtain⟨rfl,_,e⟩:=h1.2.1 p1
   simp only at p2;subst p2
   exact⟨_,[],rfl,by simp only[RelV];exact .inl ⟨trivial,trivial,trivial,e⟩,by simp,by simp⟩
 · obtain⟨cap,cs',u',q1,q0,q3,q4⟩:=h1.2.2 b p1
   rw[p3]at q0;cases q0
   simp only[aWI,aUR]at q1 q3
   refine⟨_,b::Bo,rfl,by simp only[RelV];exact .inr ⟨b,cap,cs,u,Bo,⟨q1,q4,q3⟩,p3,by simpa using p4,rfl⟩,fun c hc=>?_,fun b' B' e=>?_⟩
   · rcases aUr.1 hc with rfl | hc
     · exact⟨hs.block_lt p1,.inr (.inl (hs.fresh l _ p1 hio))⟩
     · exact⟨(o1 c hc).1,(o1 c hc).2.1⟩
   · cases e
     exact⟨hs.fresh l _ p1 hio,fun hb=>(o1 b hb).2.2 l p2⟩
theorem MeetsF.intro {f:FuncId}{fn:Func}{c:Code}{args:List PV}{s n:Nat}{cells:List PV}{rs:Array ResultVar}(hf:P.funcs[f]?=some fn)(hb:fn.body=some c)(hN:fn.ntmps=N)(hrs:fn.results=rs)(hn:Nat.ble args.length N=true)
 (h:∀ Γ:Ctx P N,(∀ l,Nat.blt l 100000=true->Γ.io l=none)->CodeT Γ c ⟨iY args 0,[]⟩ (aRC Γ rs s n cells)):MeetsF P f args s n cells:=by
 intro w cargs ok ha
 obtain⟨h1,h2⟩:=ha.get
 have hn:=aUZ hn
 let Γ:Ctx P N:={ base:=w.heap.size,ok:=fun b=>ok b,io:=fun _=>none,w0:=w,mine:=fun _=>False,lent:=fun _=>False }
 have hsz:(cargs++Array.replicate (fn.ntmps-cargs.size) undef).size=N:=by
  have:cargs.size=args.length:=by rw[h1];simp
  simp[this,hN];omega
 refine calls_of_wp hf hb ?_
 have hsim:Sim Γ ⟨iY args 0,[]⟩ { tmps:=cargs++Array.replicate (fn.ntmps-cargs.size) undef,defers:=[] } w:=by
  refine⟨fun _=>.none,fun _=>none,{ size:=hsz,defers:=rfl,kept:=⟨rfl,rfl,rfl,aUI _,fun _ _ _ _=>rfl,fun b _ _ cs t h=>⟨cs,h,rfl⟩⟩,slots:=fun k=>?_,objs:=fun l ob hl=>(by simp[lo]at hl),gone:=fun _ _=>rfl,own:=fun b hb=>absurd rfl hb,ios:=fun l b hl=>(by cases hl),fresh:=fun l b hl=>(by cases hl) }⟩
  rw[pB]
  by_cases hk:k<args.length
  · rw[aUs ⟨aVk _,by simpa using hk⟩]
    obtain⟨B,g1,g2⟩:=h2 k hk
    refine⟨B,?_,fun b hb=>⟨aXA _ _ _ g1 b hb,.inl (g2 b hb),fun l=>by simp⟩,by simp⟩
    have e:(cargs++Array.replicate (fn.ntmps-cargs.size) undef).getD k undef=cargs.toList.getD k undef:=by
     have hlt:k<cargs.size:=by rw[h1]at hk;simpa using hk
     simp[aUV,aVF,hlt,aUU]
    rw[e]
    simp only[aWt]
    exact aXt _ _ _ (fun l _=>by intro ob h;cases h) (fun _ _=>rfl) g1
  · rw[aUq (by simpa using hk)]
    exact⟨[],by simp[RelV],by simp,by simp⟩
 refine wp_mono (h Γ (fun _ _=>rfl) _ _ hsim) fun e a' w' ⟨E',hs',hq⟩=>?_
 have fin:ResF Γ rs E' s n cells->a'.defers=[]/\∃ v,(results fn a'.tmps).run P w'=.ok v w'/\∃ c B,Ending.returned v=.returned c/\Below w.heap.size w w'/\RelV w'.heap dead (.rw s n cells) c B/\(∀ b∈B,b<w'.heap.size/\(ok b\/w.heap.size<=b))/\(∀ b B',B=b::B'->w.heap.size<=b/\b∉B'):=by
  intro hr
  obtain⟨c,B,g1,g2,g3,g4⟩:=hr fn hrs a' w' hs'
  obtain⟨ow,β,hs'⟩:=hs'
  exact⟨hs'.defers,c,g1,c,B,rfl,⟨hs'.kept.os,hs'.kept.tape,hs'.kept.output,hs'.kept.size,fun k hk=>hs'.kept.old k hk (fun l=>by simp[Γ]) (fun h=>h)⟩,g2,fun b hb=>⟨(g3 b hb).1,(g3 b hb).2.imp id (fun h=>(h.elim id False.elim:Γ.nww b).elim id False.elim)⟩,fun b B' e=>⟨(g4 b B' e).1.elim id False.elim,(g4 b B' e).2⟩⟩
 cases e with
 | normal=>exact fin hq
 | ret=>exact fin hq
 | exit id=>exact hq.elim
 | goto l=>exact hq.elim
 | panic ch=>exact hq.elim
 | outgrown=>exact hq.elim
theorem SimG.growSh (h:SimG Γ ow β F a w){w':World}(hb:Below w.heap.size w w'){d b0:Nat}{cs:Array Value}{t:TypeId}{cells:List PV}{B:List Nat}(hrow:w'.heap[b0]?=some (.cells cs t (0,0)))(hge:w.heap.size<=b0)
 (hrel:RelL w'.heap true dead cells cs 0 B) (hB:∀ b∈B,b<w'.heap.size/\b≠b0/\(Im Γ ow w b\/w.heap.size<=b)) (hnl:NoLab F d) (hio:Γ.io d=none) :
 ∃ ow',SimG Γ ow' (fun m=>if m=d then some (some b0)else β m) (F.app ⟨[],[(d,some ⟨cells,false,false⟩)]⟩) a w':=by
 let β':Nat->Option (Option Nat):=fun m=>if m=d then some (some b0)else β m
 let ow':Nat->Own:=fun b=>if b=b0 then .lab d else if w.heap.size<=b then .none else ow b
 have how:∀ b,b<w.heap.size->ow' b=ow b:=fun b hlt=>by
  show(if _ then _ else _)=_
  rw[aUq (by omega),aUq (by omega)]
 have hβ2:∀ m,m≠d->β' m=β m:=fun m hm=>by show(if _ then _ else _)=_;rw[aUq hm]
 have hlt0:b0<w'.heap.size:=by
  rcases aVA b0 w'.heap.size with h | h
  · exact h
  · simp[aVd h]at hrow
 have hIm:∀ b,Im Γ ow w b->Im Γ ow' w' b:=fun b ⟨h1,h2,h3⟩=>⟨aUN h1 hb.size,h2,fun l=>by rw[how b h1];exact h3 l⟩
 have hFree:∀ b,b<w.heap.size->gA w b->gA w' b:=fun b hlt ⟨cs,t,hc⟩=>⟨cs,t,by rw[hb.block b hlt];exact hc⟩
 have hkeep:∀ m,m≠d->KeepB w.heap w'.heap β β' m:=by
  intro m hm o ho
  rw[hβ2 m hm]at ho
  refine⟨ho,fun b hob cs t hc=>⟨cs,?_,rfl⟩⟩
  subst hob
  rw[hb.block b (h.block_lt ho)];exact hc
 refine⟨ow',{ size:=h.size,defers:=h.defers,kept:=?_,slots:=fun k=>?_,objs:=fun l ob hl=>?_,gone:=fun l hl=>?_,own:=fun b hb'=>?_,ios:=fun m b hm hs=>?_,fresh:=fun l b hl hi=>?_ }⟩
 · exact⟨hb.os.trans h.kept.os,hb.output.trans h.kept.output,hb.tape.trans h.kept.tape,aUE h.kept.size hb.size,
    fun b h1 h2 hmi=>(hb.block b (aUN h1 h.kept.size)).trans (h.kept.old b h1 h2 hmi),
    fun b h1 hmi cs t h2=>by
     obtain⟨cs',h3,h4⟩:=h.kept.ios b h1 hmi cs t h2
     exact⟨cs',by rw[hb.block b (aUN h1 h.kept.size)];exact h3,h4⟩⟩
 · obtain⟨B',h1,h2,h3⟩:=h.slots k
   refine⟨B',aXt _ _ _ (fun l hl=>hkeep l (fun e=>hnl.1 k (e▸hl))) (fun b hbO=>hb.block b (h2 b hbO).1) h1,fun b hbO=>hIm b (h2 b hbO),fun hd=>⟨(h3 hd).1,fun b hbO=>⟨?_,hFree b (h2 b hbO).1 ((h3 hd).2 b hbO).2⟩⟩⟩
   rw[how b (h2 b hbO).1];exact((h3 hd).2 b hbO).1
 · simp only[Env.app,aUB,aUx,aT]at hl
   by_cases hm:d=l
   · subst hm
     rw[aUs rfl]at hl;cases hl
     refine⟨B,fun b hbn=>?_,fun hd=>(by cases hd),.inr ⟨b0,cs,t,?_,?_,hrow,hrel⟩⟩
     · obtain⟨g1,g2,g3⟩:=hB b hbn
       rcases g3 with g3 | g3
       · exact hIm b g3
       · refine⟨g1,.inr (.inl (.inl (aUE h.kept.size g3))),fun l=>?_⟩
         show(if _ then _ else _)≠_
         rw[aUq g2,aUs g3];simp
     · show(if _ then _ else _)=_;rw[aUs rfl]
     · show(if _ then _ else _)=_;rw[aUs rfl]
   · rw[aUq hm]at hl
     obtain⟨B',h1,h2,h3⟩:=h.objs l ob hl
     refine⟨B',fun b hbO=>hIm b (h1 b hbO),fun hd=>⟨(h2 hd).1,fun b hbO=>⟨by rw[how b (h1 b hbO).1];exact((h2 hd).2 b hbO).1,hFree b (h1 b hbO).1 ((h2 hd).2 b hbO).2⟩⟩,?_⟩
     rcases h3 with⟨g1,g2,g3⟩ | ⟨b,cs,t,g1,g2,g3,g4⟩
     · exact .inl ⟨(hβ2 l (Ne.symm hm)).trans g1,g2,g3⟩
     · refine .inr ⟨b,cs,t,(hβ2 l (Ne.symm hm)).trans g1,by rw[how b (h.block_lt g1)];exact g2,by rw[hb.block b (h.block_lt g1)];exact g3,?_⟩
       cases hbx:ob.box with
       | true=>rw[hbx]at g4;exact aXr _ _ _ _ (fun p hp m hm'=>hkeep m (fun e=>hnl.2.1 l ob hl hbx p hp (e▸hm'))) (fun b hbO=>hb.block b (h1 b hbO).1) g4
       | false=>rw[hbx]at g4;exact aXr _ _ _ _ (fun _ _ l _=>aXF _ _ l) (fun b hbO=>hb.block b (h1 b hbO).1) g4
 · simp only[Env.app,aUB,aUx,aT]at hl
   by_cases hm:d=l
   · rw[aUs hm]at hl;cases hl
   · rw[aUq hm]at hl
     show β' l=none
     rw[hβ2 l (Ne.symm hm)];exact h.gone l hl
 · by_cases hlt:b<w.heap.size
   · rw[how b hlt]at hb'
     obtain⟨g1,g2⟩:=h.own b hb'
     exact⟨aUN g1 hb.size,by rw[how b hlt];exact g2⟩
   · have e:b=b0:=by
      rcases Nat.decEq b b0 with e | e
      · exfalso;apply hb'
        show(if _ then _ else _)=_
        rw[aUq e,aUs (by omega)]
      · exact e
     subst e
     exact⟨hlt0,.inl (.inl (.inl (aUE h.kept.size hge)))⟩
 · have hmn:d≠m:=fun e=>by subst e;rw[hio]at hm;cases hm
   simp only[Env.app,aUB,aUx,aT,aUq hmn]at hs
   show β' m=_
   rw[hβ2 m (Ne.symm hmn)];exact h.ios m b hm hs
 · by_cases hm:l=d
   · subst hm
     have:(if l=l then some (some b0)else β l)=some (some b):=hl
     rw[aUs rfl]at this;cases this
     exact .inl (aUE h.kept.size hge)
   · have hl':β' l=some (some b):=hl
     rw[hβ2 l hm]at hl';exact h.fresh l b hl' hi
variable {d:Nat}{ty:TypeId}{pos:String}{af:Array Edge}{g:Option (Nat×Bool)}
theorem aRk {f:FuncId}[hfc:FnC P f]{xs:List Operand}{us:Array TypeId}{ps:List PV}{s n:Nat}{cells:List PV}(ha:ArgsV S O xs ps [])(hm:MeetsF P f ps s n cells)(hio:Γ.io d=none)(hd:Nat.blt d N=true) :
 Local Γ ⟨some d,.call ⟨.value (.func f),xs.toArray,us⟩,ty,pos,af,g⟩ ⟨S,O⟩ ⟨[(d,⟨.ref d s 0 n,false⟩)],[(d,some ⟨cells,false,false⟩)]⟩ (pD xs) [] [d]:=by
 intro F hs hl hnd a w ⟨ow,β,hsim⟩ Q
 have hdN:=(aR _ _).1 hd
 have hargs:=zA hsim ha hs hl
 unfold Oper.wp
 have hrun:(execOp a.eval ⟨some d,.call ⟨.value (.func f),xs.toArray,us⟩,ty,pos,af,g⟩).run P w=.ok (.enter f (xs.map a.eval).toArray) w:=by
  simp[execOp,resolve,Act.eval,Deferred.ofValue,invoke,hfc.run]
 rw[hrun]
 show Calls _ _ _ _ _
 refine(hm w (xs.map a.eval).toArray (fun b=>Im Γ ow w b\/∃ l∈([]:List Nat),ow b=.lab l) (by simpa using hargs)).mono fun e w' ⟨c,B,he,hb,h1,h2,h3⟩=>?_
 subst he
 show Sim Γ _ _ _
 simp only[RelV]at h1
 rcases h1 with⟨rfl,rfl,_,rfl⟩ | ⟨b,cap,cs,t,O',⟨rfl,q2,q3⟩,q4,q5,rfl⟩
 · obtain⟨ow',h'⟩:=(hsim.grow hb).layNil (hnd d (by simp)) hio [] [] false false
   have h2:=h'.put (d:=d) (v:=.ref d s 0 0) (c:=.slice none 0 0) (O:=[]) hdN (by simp only[RelV];simp) (by simp)
   exact⟨_,_,h2.congr (fun k=>rfl) (fun l=>rfl)⟩
 · obtain⟨ow',h'⟩:=hsim.growSh hb q4 (h3 b O' rfl).1 q5 (fun x hx=>by
    obtain⟨g1,g2⟩:=h2 x (by simp[hx])
    refine⟨g1,fun e=>(h3 b O' rfl).2 (e▸hx),?_⟩
    rcases g2 with(g | ⟨l,hl,_⟩) | g
    · exact .inl g
    · cases hl
    · exact .inr g) (hnd d (by simp)) hio
   have h2:=h'.put (d:=d) (v:=.ref d s 0 n) (c:=.slice (some ⟨b,0,none⟩) n cap) (O:=[]) hdN (by
    simp only[RelV]
    exact⟨trivial,by simp,fun b' hb'=>by simp at hb';subst hb';exact⟨cap,cs,t,by simp,q4,by simpa using q3,q2⟩⟩) (by simp)
   exact⟨_,_,h2.congr (fun k=>rfl) (fun l=>rfl)⟩
end
/- The engine, part RR: a rule and the step that uses it in one; what is plain is found by itself (printed by mkrr.py). -/
section
variable {P:Program}{N:Nat}{Γ:Ctx P N}{S S':List (Nat×Slot)}{O O':List (Nat×Option Ob)}
variable {d:Nat}{ty:TypeId}{pos:String}{af:Array Edge}{g:Option (Nat×Bool)}
variable {x y:Operand}{u u':TypeId}{k:IntKind}{m n r:Int}
variable {ops rest:List Oper}{K:List Item->Env->Prop}{acc:List Item}{gs:List Nat}
theorem aTB {x:Operand}{v:PV}(hrun:Run Γ ops K rest (⟨⟨[(d,⟨v,false⟩)],[]⟩,gs++(ors x),[],[]⟩::acc) ⟨[(d,⟨v,false⟩)]++S,[]++O⟩)(hv:evq S x=some v:=by rfl)(hd:Nat.blt d N=true:=by rfl)(hgd:gd N ops S true g=some gs:=by rfl):Run Γ ops K (⟨some d,.move x,ty,pos,af,g⟩::rest) acc ⟨S,O⟩:=.op (aC0 hv hd) hgd rfl hrun
theorem aTJ {x:Operand}{v:PV}(hrun:Run Γ ops K rest (⟨⟨[(d,⟨v,false⟩)],[]⟩,gs++(ors x),[],[]⟩::acc) ⟨[(d,⟨v,false⟩)]++S,[]++O⟩)(hv:evq S x=some v:=by rfl)(hd:Nat.blt d N=true:=by rfl)(hgd:gd N ops S true g=some gs:=by rfl):Run Γ ops K (⟨some d,.assign x,ty,pos,af,g⟩::rest) acc ⟨S,O⟩:=.op (aNe hv hd) hgd rfl hrun
theorem aP0 {x:Operand}{t f off l k:Nat}{ob:Ob}[hf:FldT P t f off](hrun:Run Γ ops K rest (⟨⟨[(d,⟨.ptr l (k+off),false⟩)],[]⟩,gs++(ors x),[l],[]⟩::acc) ⟨[(d,⟨.ptr l (k+off),false⟩)]++S,[]++O⟩)(hx:evq S x=some (.ptr l k):=by rfl)(ho:loq O l=some ob:=by rfl)(hne:Nat.blt 0 ob.cells.length=true:=by rfl)(hd:Nat.blt d N=true:=by rfl)(hgd:gd N ops S true g=some gs:=by rfl):Run Γ ops K (⟨some d,.fieldAddr t x f,ty,pos,af,g⟩::rest) acc ⟨S,O⟩:=.op (aSW hx ho hne hd) hgd rfl hrun
theorem iZ {s:Nat}{v:PV}{dp:Bool}(hrun:Run Γ ops K rest (⟨⟨[(d,⟨v,dp⟩),(s,⟨.any,false⟩)],[]⟩,gs++[s],[],[]⟩::acc) ⟨[(d,⟨v,dp⟩),(s,⟨.any,false⟩)]++S,[]++O⟩)(hv:lkq S s=some ⟨v,dp⟩:=by rfl)(hd:Nat.blt d N=true:=by rfl)(hne:Nat.beq d s=false:=by rfl)(hgd:gd N ops S true g=some gs:=by rfl):Run Γ ops K (⟨some d,.move (.tmp s),ty,pos,af,g⟩::rest) acc ⟨S,O⟩:=.op (aSP hv hd hne) hgd rfl hrun
theorem sM {s:Nat}{v:PV}{dp:Bool}(hrun:Run Γ ops K rest (⟨⟨[(d,⟨v,dp⟩),(s,⟨.any,false⟩)],[]⟩,gs++[s],[],[]⟩::acc) ⟨[(d,⟨v,dp⟩),(s,⟨.any,false⟩)]++S,[]++O⟩)(hv:lkq S s=some ⟨v,dp⟩:=by rfl)(hd:Nat.blt d N=true:=by rfl)(hne:Nat.beq d s=false:=by rfl)(hgd:gd N ops S true g=some gs:=by rfl):Run Γ ops K (⟨some d,.assign (.tmp s),ty,pos,af,g⟩::rest) acc ⟨S,O⟩:=.op (aS3 hv hd hne) hgd rfl hrun
theorem aTE {x:Operand}{t e:Nat}[ht:SlT P t e]{n:Nat}{cells:List PV}(hrun:Run Γ ops K rest (⟨⟨[(d,⟨.sc (.int .i64 n),false⟩)],[]⟩,gs++(ors x),[],[]⟩::acc) ⟨[(d,⟨.sc (.int .i64 n),false⟩)]++S,[]++O⟩)(hx:evq S x=some (.sl n cells):=by rfl)(hd:Nat.blt d N=true:=by rfl)(hgd:gd N ops S true g=some gs:=by rfl):Run Γ ops K (⟨some d,.call ⟨.builtin .len,#[x],#[t]⟩,ty,pos,af,g⟩::rest) acc ⟨S,O⟩:=.op (aTV hx hd) hgd rfl hrun
theorem aRb {c x y:Operand}{v:PV}(hrun:Run Γ ops K rest (⟨⟨[(d,⟨v,false⟩)],[]⟩,gs++(ors c++ors x),[],[]⟩::acc) ⟨[(d,⟨v,false⟩)]++S,[]++O⟩)(hc:evq S c=some (.sc (.bool true)):=by rfl)(hv:evq S x=some v:=by rfl)(hd:Nat.blt d N=true:=by rfl)(hgd:gd N ops S true g=some gs:=by rfl):Run Γ ops K (⟨some d,.pick c x y,ty,pos,af,g⟩::rest) acc ⟨S,O⟩:=.op (aRd hc hv hd) hgd rfl hrun
theorem aRc {c x y:Operand}{v:PV}(hrun:Run Γ ops K rest (⟨⟨[(d,⟨v,false⟩)],[]⟩,gs++(ors c++ors y),[],[]⟩::acc) ⟨[(d,⟨v,false⟩)]++S,[]++O⟩)(hc:evq S c=some (.sc (.bool false)):=by rfl)(hv:evq S y=some v:=by rfl)(hd:Nat.blt d N=true:=by rfl)(hgd:gd N ops S true g=some gs:=by rfl):Run Γ ops K (⟨some d,.pick c x y,ty,pos,af,g⟩::rest) acc ⟨S,O⟩:=.op (aRe hc hv hd) hgd rfl hrun
theorem qP  (hrun:Run Γ ops K rest (⟨⟨[(d,⟨.sc (.int k r),false⟩)],[]⟩,gs++(ors x++ors y),[],[]⟩::acc) ⟨[(d,⟨.sc (.int k r),false⟩)]++S,[]++O⟩)(hx:evq S x=some (.sc (.int k m)):=by rfl)(hy:evq S y=some (.sc (.int k n)):=by rfl)(hr:k.wrap (m+n)=r:=by rfl)(hd:Nat.blt d N=true:=by rfl)(hgd:gd N ops S true g=some gs:=by rfl):Run Γ ops K (⟨some d,.binOp .add u x y u',ty,pos,af,g⟩::rest) acc ⟨S,O⟩:=.op (aT1 hx hy hr hd) hgd rfl hrun
theorem aB7  (hrun:Run Γ ops K rest (⟨⟨[(d,⟨.sc (.int k r),false⟩)],[]⟩,gs++(ors x++ors y),[],[]⟩::acc) ⟨[(d,⟨.sc (.int k r),false⟩)]++S,[]++O⟩)(hx:evq S x=some (.sc (.int k m)):=by rfl)(hy:evq S y=some (.sc (.int k n)):=by rfl)(hr:k.wrap (m-n)=r:=by rfl)(hd:Nat.blt d N=true:=by rfl)(hgd:gd N ops S true g=some gs:=by rfl):Run Γ ops K (⟨some d,.binOp .sub u x y u',ty,pos,af,g⟩::rest) acc ⟨S,O⟩:=.op (aTM hx hy hr hd) hgd rfl hrun
theorem aTz {x:Operand}{u:TypeId}{b:Bool}(hrun:Run Γ ops K rest (⟨⟨[(d,⟨.sc (.bool (!b)),false⟩)],[]⟩,gs++(ors x),[],[]⟩::acc) ⟨[(d,⟨.sc (.bool (!b)),false⟩)]++S,[]++O⟩)(hx:evq S x=some (.sc (.bool b)):=by rfl)(hd:Nat.blt d N=true:=by rfl)(hgd:gd N ops S true g=some gs:=by rfl):Run Γ ops K (⟨some d,.unOp .not u x,ty,pos,af,g⟩::rest) acc ⟨S,O⟩:=.op (aTS hx hd) hgd rfl hrun
theorem aTC  (hrun:Run Γ ops K rest (⟨⟨[(d,⟨.sc (.bool (decide (m<n))),false⟩)],[]⟩,gs++(ors x++ors y),[],[]⟩::acc) ⟨[(d,⟨.sc (.bool (decide (m<n))),false⟩)]++S,[]++O⟩)(hx:evq S x=some (.sc (.int k m)):=by rfl)(hy:evq S y=some (.sc (.int k n)):=by rfl)(hd:Nat.blt d N=true:=by rfl)(hgd:gd N ops S true g=some gs:=by rfl):Run Γ ops K (⟨some d,.binOp .lss u x y u',ty,pos,af,g⟩::rest) acc ⟨S,O⟩:=.op (aRQ hx hy hd) hgd rfl hrun
theorem aTD  (hrun:Run Γ ops K rest (⟨⟨[(d,⟨.sc (.bool (decide (m<=n))),false⟩)],[]⟩,gs++(ors x++ors y),[],[]⟩::acc) ⟨[(d,⟨.sc (.bool (decide (m<=n))),false⟩)]++S,[]++O⟩)(hx:evq S x=some (.sc (.int k m)):=by rfl)(hy:evq S y=some (.sc (.int k n)):=by rfl)(hd:Nat.blt d N=true:=by rfl)(hgd:gd N ops S true g=some gs:=by rfl):Run Γ ops K (⟨some d,.binOp .leq u x y u',ty,pos,af,g⟩::rest) acc ⟨S,O⟩:=.op (aRR hx hy hd) hgd rfl hrun
theorem aTG  (hrun:Run Γ ops K rest (⟨⟨[(d,⟨.sc (.bool (decide (n<m))),false⟩)],[]⟩,gs++(ors x++ors y),[],[]⟩::acc) ⟨[(d,⟨.sc (.bool (decide (n<m))),false⟩)]++S,[]++O⟩)(hx:evq S x=some (.sc (.int k m)):=by rfl)(hy:evq S y=some (.sc (.int k n)):=by rfl)(hd:Nat.blt d N=true:=by rfl)(hgd:gd N ops S true g=some gs:=by rfl):Run Γ ops K (⟨some d,.binOp .gtr u x y u',ty,pos,af,g⟩::rest) acc ⟨S,O⟩:=.op (aRT hx hy hd) hgd rfl hrun
theorem aTI  (hrun:Run Γ ops K rest (⟨⟨[(d,⟨.sc (.bool (decide (m=n))),false⟩)],[]⟩,gs++(ors x++ors y),[],[]⟩::acc) ⟨[(d,⟨.sc (.bool (decide (m=n))),false⟩)]++S,[]++O⟩)(hx:evq S x=some (.sc (.int k m)):=by rfl)(hy:evq S y=some (.sc (.int k n)):=by rfl)(hd:Nat.blt d N=true:=by rfl)(hgd:gd N ops S true g=some gs:=by rfl):Run Γ ops K (⟨some d,.binOp .eql u x y u',ty,pos,af,g⟩::rest) acc ⟨S,O⟩:=.op (aRV hx hy hd) hgd rfl hrun
theorem aTA  (hrun:Run Γ ops K rest (⟨⟨[(d,⟨.sc (.bool (decide (m≠n))),false⟩)],[]⟩,gs++(ors x++ors y),[],[]⟩::acc) ⟨[(d,⟨.sc (.bool (decide (m≠n))),false⟩)]++S,[]++O⟩)(hx:evq S x=some (.sc (.int k m)):=by rfl)(hy:evq S y=some (.sc (.int k n)):=by rfl)(hd:Nat.blt d N=true:=by rfl)(hgd:gd N ops S true g=some gs:=by rfl):Run Γ ops K (⟨some d,.binOp .neq u x y u',ty,pos,af,g⟩::rest) acc ⟨S,O⟩:=.op (aRP hx hy hd) hgd rfl hrun
theorem aSF {x:Operand}{t f off:Nat}{cells:List PV}[hf:FldT P t f off](hrun:Run Γ ops K rest (⟨⟨[(d,⟨.iptr (cells.drop off),false⟩)],[]⟩,gs++(ors x),[],[]⟩::acc) ⟨[(d,⟨.iptr (cells.drop off),false⟩)]++S,[]++O⟩)(hx:evq S x=some (.iptr cells):=by rfl)(hd:Nat.blt d N=true:=by rfl)(hgd:gd N ops S true g=some gs:=by rfl):Run Γ ops K (⟨some d,.fieldAddr t x f,ty,pos,af,g⟩::rest) acc ⟨S,O⟩:=.op (aSX hx hd) hgd rfl hrun
theorem aTF {x:Operand}{t n by_:Nat}{cells:List PV}{c:PV}[ht:TI P t n false by_](hrun:Run Γ ops K rest (⟨⟨[(d,⟨c,false⟩)],[]⟩,gs++(ors x),[],[]⟩::acc) ⟨[(d,⟨c,false⟩)]++S,[]++O⟩)(hx:evq S x=some (.iptr cells):=by rfl)(hc:cells[0]?=some c:=by rfl)(hl:c.labs=[]:=by rfl)(hd:Nat.blt d N=true:=by rfl)(hgd:gd N ops S true g=some gs:=by rfl):Run Γ ops K (⟨some d,.load t x,ty,pos,af,g⟩::rest) acc ⟨S,O⟩:=.op (aRS hx hc hl hd) hgd rfl hrun
theorem wV {x:Operand}{t n by_ l k:Nat}{cells:List PV}{dp bx:Bool}{c:PV}[ht:TI P t n false by_](hrun:Run Γ ops K rest (⟨⟨[(d,⟨c,false⟩)],[]⟩,gs++(ors x),[l],[]⟩::acc) ⟨[(d,⟨c,false⟩)]++S,[]++O⟩)(hx:evq S x=some (.ptr l k):=by rfl)(ho:loq O l=some ⟨cells,dp,bx⟩:=by rfl)(hc:cells[k]?=some c:=by rfl)(hl:(bx||aLk c)=true:=by rfl)(hd:Nat.blt d N=true:=by rfl)(hgd:gd N ops S true g=some gs:=by rfl):Run Γ ops K (⟨some d,.load t x,ty,pos,af,g⟩::rest) acc ⟨S,O⟩:=.op (aHs hx ho hc (aJR hl) hd) hgd rfl hrun
theorem xG {x:Operand}{t n by_ l k:Nat}{cells vs:List PV}{dp bx:Bool}[ht:TI P t n true by_](hrun:Run Γ ops K rest (⟨⟨[(d,⟨.agg vs,false⟩)],[]⟩,gs++(ors x),[l],[]⟩::acc) ⟨[(d,⟨.agg vs,false⟩)]++S,[]++O⟩)(hx:evq S x=some (.ptr l k):=by rfl)(ho:loq O l=some ⟨cells,dp,bx⟩:=by rfl)(hc:(cells.drop k).take n=vs:=by first | exact bW rfl | rfl)(hn:Nat.beq vs.length n=true:=by rfl)(hn0:n≠0:=by intro h;cases h)(hl:(bx||qB vs)=true:=by rfl)(hd:Nat.blt d N=true:=by rfl)(hgd:gd N ops S true g=some gs:=by rfl):Run Γ ops K (⟨some d,.load t x,ty,pos,af,g⟩::rest) acc ⟨S,O⟩:=.op (fV hx ho hc hn hn0 (by cases bx with | true=>exact .inl rfl | false=>exact .inr (by simpa using hl)) hd) hgd rfl hrun
theorem cV {f:FuncId}[hfc:FnC P f]{xs:List Operand}{us:Array TypeId}{ps:List PV}{ls:List Nat}{r:PV}{deep:Bool}(hrun:Run Γ ops K rest (⟨⟨[(d,⟨r,deep⟩)],[]⟩,gs++(pD xs),ls,[]⟩::acc) ⟨[(d,⟨r,deep⟩)]++S,[]++O⟩)(ha:ArgsV S O xs ps ls)(hm:Meets P f ps r deep)(hc:(aNv ls||deep||flat r)=true:=by rfl)(hr:r.labs=[]:=by rfl)(hd:Nat.blt d N=true:=by rfl)(hgd:gd N ops S true g=some gs:=by rfl):Run Γ ops K (⟨some d,.call ⟨.value (.func f),xs.toArray,us⟩,ty,pos,af,g⟩::rest) acc ⟨S,O⟩:=.op (aEK ha hm hc hr hd) hgd rfl hrun
theorem aZ {x y:Operand}{t n by_ l k:Nat}{agg dp bx:Bool}{cells cells':List PV}{p:PV}[ht:TI P t n agg by_](hrun:Run Γ ops K rest (⟨⟨[],[(l,some ⟨cells',dp&&aDV p,bx⟩)]⟩,gs++(ors x++ors y),(l::xE p),[]⟩::acc) ⟨[]++S,[(l,some ⟨cells',dp&&aDV p,bx⟩)]++O⟩)(hx:evq S x=some (.ptr l k):=by rfl)(ho:loq O l=some ⟨cells,dp,bx⟩:=by rfl)(hy:evq S y=some p:=by rfl)(hst:stB O bx p=true:=by rfl)(hlen:Nat.beq (bD p).length n=true:=by rfl)(hn0:n≠0:=by intro h;cases h)(hk:Nat.ble (k+n) cells.length=true:=by rfl)(hc:cells.take k++bD p++cells.drop (k+n)=cells':=by first | exact aDp rfl | rfl)(hgd:gd N ops S true g=some gs:=by rfl):Run Γ ops K (⟨none,.store t x y,ty,pos,af,g⟩::rest) acc ⟨S,O⟩:=.op (aUo hx ho hy hst hlen hn0 hk hc) hgd rfl hrun
theorem aF (bx:Bool){e:Nat}{ps:List PV}[hz:ZT P e ps](hrun:Run Γ ops K rest (⟨⟨[(d,⟨.ptr d 0,false⟩)],[(d,some ⟨ps,true,bx⟩)]⟩,gs++[],[],[d]⟩::acc) ⟨[(d,⟨.ptr d 0,false⟩)]++S,[(d,some ⟨ps,true,bx⟩)]++O⟩)(hio:Γ.io d=none:=by exact io1 (by assumption) _)(hd:Nat.blt d N=true:=by rfl)(hgd:gd N ops S true g=some gs:=by rfl)(hno:nZ ⟨S,O⟩ [d]=true:=by rfl):Run Γ ops K (⟨some d,.alloc e,ty,pos,af,g⟩::rest) acc ⟨S,O⟩:=.op (aRl bx hio hd) hgd hno hrun
theorem aSE {α:Type}{x i:Operand}{t e n by_:Nat}{agg:Bool}{l:List α}{enc:α->List PV}{y:α}{k:IntKind}{j:Int}{len:Nat}[ht:SlT P t e][hi:TI P e n agg by_](hrun:Run Γ ops K rest (⟨⟨[(d,⟨.iptr (enc y),false⟩)],[]⟩,gs++(ors x++ors i),[],[]⟩::acc) ⟨[(d,⟨.iptr (enc y),false⟩)]++S,[]++O⟩)(hl:idx l j=some y)(hx:evq S x=some (.sl len (l.flatMap enc)):=by rfl)(hix:evq S i=some (.sc (.int k j)):=by rfl)(hlen:len=l.length:=by rfl)(hsz:∀ y,(enc y).length=n:=by intro _;rfl)(hd:Nat.blt d N=true:=by rfl)(hgd:gd N ops S true g=some gs:=by rfl):Run Γ ops K (⟨some d,.indexAddr t x i,ty,pos,af,g⟩::rest) acc ⟨S,O⟩:=.op (aST hx hix hlen hl hsz hd) hgd rfl hrun
theorem bV {x:Operand}{t n by_ l k s:Nat}{agg dp bx:Bool}{cells cells':List PV}{p:PV}[ht:TI P t n agg by_](hrun:Run Γ ops K rest (⟨⟨[(s,⟨.any,false⟩)],[(l,some ⟨cells',dp,bx⟩)]⟩,gs++(ors x++[s]),[l],[]⟩::acc) ⟨[(s,⟨.any,false⟩)]++S,[(l,some ⟨cells',dp,bx⟩)]++O⟩)(hx:evq S x=some (.ptr l k):=by rfl)(ho:loq O l=some ⟨cells,dp,bx⟩:=by rfl)(hy:lkq S s=some ⟨p,true⟩:=by rfl)(hst:stB O bx p=true:=by rfl)(hl:p.labs=[]:=by rfl)(hlen:Nat.beq (bD p).length n=true:=by rfl)(hn0:n≠0:=by intro h;cases h)(hk:Nat.ble (k+n) cells.length=true:=by rfl)(hc:cells.take k++bD p++cells.drop (k+n)=cells':=by first | exact aDp rfl | rfl)(hgd:gd N ops S true g=some gs:=by rfl):Run Γ ops K (⟨none,.store t x (.tmp s),ty,pos,af,g⟩::rest) acc ⟨S,O⟩:=.op (aTN hx ho hy hst hl hlen hn0 hk hc) hgd rfl hrun
theorem cE (bx:Bool){e:Nat}{x:Operand}{p:PV}(hrun:Run Γ ops K rest (⟨⟨[(d,⟨.ptr d 0,false⟩)],[(d,some ⟨bD p,aDV p,bx⟩)]⟩,gs++(ors x),(xE p),[d]⟩::acc) ⟨[(d,⟨.ptr d 0,false⟩)]++S,[(d,some ⟨bD p,aDV p,bx⟩)]++O⟩)(hx:evq S x=some p:=by rfl)(hst:stB O bx p=true:=by rfl)(hlab:zD p.labs d=false:=by rfl)(hio:Γ.io d=none:=by exact io1 (by assumption) _)(hd:Nat.blt d N=true:=by rfl)(hgd:gd N ops S true g=some gs:=by rfl)(hno:nZ ⟨S,O⟩ [d]=true:=by rfl):Run Γ ops K (⟨some d,.box e x,ty,pos,af,g⟩::rest) acc ⟨S,O⟩:=.op (aT0 bx hx hst hlab hio hd) hgd hno hrun
theorem aN (dp:Bool){t:Nat}{parts:Array (Nat×Operand)}{zs cells:List PV}{pl:List (Nat×Nat)}{ks:List Nat}[hz:ZT P t zs][hp:PlT P t pl](hrun:Run Γ ops K rest (⟨⟨(d,⟨.agg cells,dp⟩)::ks.map (fun j=>(j,⟨.any,false⟩)),[]⟩,gs++(aAV parts.toList),[],[]⟩::acc) ⟨(d,⟨.agg cells,dp⟩)::ks.map (fun j=>(j,⟨.any,false⟩))++S,[]++O⟩)(hb:BuildV S pl dp parts.toList zs cells ks)(hnl:qB cells=true:=by rfl)(hd:Nat.blt d N=true:=by rfl)(hgd:gd N ops S true g=some gs:=by rfl):Run Γ ops K (⟨some d,.build t parts,ty,pos,af,g⟩::rest) acc ⟨S,O⟩:=.op (aKY dp hb hnl hd) hgd rfl hrun
theorem aSG {x:Operand}{vs:List PV}{i:Nat}{p:PV}(hrun:Run Γ ops K rest (⟨⟨[(d,⟨p,false⟩)],[]⟩,gs++(ors x),[],[]⟩::acc) ⟨[(d,⟨p,false⟩)]++S,[]++O⟩)(hx:evq S x=some (.tup vs):=by rfl)(hp:vs[i]?=some p:=by rfl)(hd:Nat.blt d N=true:=by rfl)(hgd:gd N ops S true g=some gs:=by rfl):Run Γ ops K (⟨some d,.extract x i,ty,pos,af,g⟩::rest) acc ⟨S,O⟩:=.op (aSZ hx hp hd) hgd rfl hrun
theorem dS {α:Type}{x i:Operand}{t e sz n by_ r:Nat}{agg:Bool}{l:List α}{y:α}{k:IntKind}{j:Int}{ob:Ob}[ht:SlT P t e][hi:TI P e sz agg by_](hrun:Run Γ ops K rest (⟨⟨[(d,⟨.ptr r (j.toNat*sz),false⟩)],[]⟩,gs++(ors x++ors i),[r],[]⟩::acc) ⟨[(d,⟨.ptr r (j.toNat*sz),false⟩)]++S,[]++O⟩)(hl:idx l j=some y)(hx:evq S x=some (.ref r sz 0 n):=by rfl)(ho:loq O r=some ob:=by rfl)(hix:evq S i=some (.sc (.int k j)):=by rfl)(hn:n=l.length:=by rfl)(hd:Nat.blt d N=true:=by rfl)(hgd:gd N ops S true g=some gs:=by rfl):Run Γ ops K (⟨some d,.indexAddr t x i,ty,pos,af,g⟩::rest) acc ⟨S,O⟩:=.op (aSU hx ho hix hl hn hd) hgd rfl hrun
theorem aSD {x:Operand}{t n by_:Nat}{cells vs:List PV}[ht:TI P t n true by_](hrun:Run Γ ops K rest (⟨⟨[(d,⟨.agg vs,false⟩)],[]⟩,gs++(ors x),[],[]⟩::acc) ⟨[(d,⟨.agg vs,false⟩)]++S,[]++O⟩)(hx:evq S x=some (.iptr cells):=by rfl)(hc:cells.take n=vs:=by first | exact aFL rfl | rfl)(hn:Nat.beq vs.length n=true:=by rfl)(hn0:n≠0:=by intro h;cases h)(hl:qB vs=true:=by rfl)(hd:Nat.blt d N=true:=by rfl)(hgd:gd N ops S true g=some gs:=by rfl):Run Γ ops K (⟨some d,.load t x,ty,pos,af,g⟩::rest) acc ⟨S,O⟩:=.op (aSS hx hc hn hn0 hl hd) hgd rfl hrun
theorem tE {t e sz by_:Nat}{agg:Bool}[ht:SlT P t e][hi:TI P e sz agg by_](hrun:Run Γ ops K rest (⟨⟨[(d,⟨.ref d sz 0 0,false⟩)],[(d,some ⟨[],true,false⟩)]⟩,gs++[],[],[d]⟩::acc) ⟨[(d,⟨.ref d sz 0 0,false⟩)]++S,[(d,some ⟨[],true,false⟩)]++O⟩)(hio:Γ.io d=none:=by exact io1 (by assumption) _)(hd:Nat.blt d N=true:=by rfl)(hgd:gd N ops S true g=some gs:=by rfl)(hno:nZ ⟨S,O⟩ [d]=true:=by rfl):Run Γ ops K (⟨some d,.buildSlice t 0 #[],ty,pos,af,g⟩::rest) acc ⟨S,O⟩:=.op (aTZ hio hd) hgd hno hrun
theorem jK {f:FuncId}[hfc:FnC P f]{xs:List Operand}{us:Array TypeId}{ps:List PV}{ls:List Nat}{s n:Nat}{cells:List PV}(hrun:Run Γ ops K rest (⟨⟨[(d,⟨.ref d s 0 n,false⟩)],[(d,some ⟨cells,true,false⟩)]⟩,gs++(pD xs),ls,[d]⟩::acc) ⟨[(d,⟨.ref d s 0 n,false⟩)]++S,[(d,some ⟨cells,true,false⟩)]++O⟩)(ha:ArgsV S O xs ps ls)(hm:Meets P f ps (.rw s n cells) true)(hio:Γ.io d=none:=by exact io1 (by assumption) _)(hd:Nat.blt d N=true:=by rfl)(hgd:gd N ops S true g=some gs:=by rfl)(hno:nZ ⟨S,O⟩ [d]=true:=by rfl):Run Γ ops K (⟨some d,.call ⟨.value (.func f),xs.toArray,us⟩,ty,pos,af,g⟩::rest) acc ⟨S,O⟩:=.op (aRi ha hm hio hd) hgd hno hrun
theorem lU (scn:Bool){x y:Operand}{t e sz by_ l n m:Nat}{agg dp:Bool}{zs cells ncells cells':List PV}{n':Nat}[ht:SlT P t e][hi:TI P e sz agg by_][hz:ZT P e zs](hrun:Run Γ ops K rest (⟨⟨[(d,⟨.ref d sz 0 n',false⟩)],[(d,some ⟨cells',dp&&scn,false⟩),(l,none)]⟩,gs++(ors x++ors y),[l],[d]⟩::acc) ⟨[(d,⟨.ref d sz 0 n',false⟩)]++S,[(d,some ⟨cells',dp&&scn,false⟩),(l,none)]++O⟩)(hb:(n+m)*by_<=140737488355328)(hcat:cells++ncells=cells'/\n+m=n')(hx:evq S x=some (.ref l sz 0 n):=by rfl)(ho:loq O l=some ⟨cells,dp,false⟩:=by rfl)(hy:evq S y=some (.sl m ncells):=by rfl)(hlen:cells.length=n*sz:=by exact cR (fun _=>rfl))(hnl:ncells.length=m*sz:=by rfl)(h63:0<by_:=by decide)(hio:Γ.io d=none/\Γ.io l=none:=by exact⟨io1 (by assumption) _,io1 (by assumption) _⟩)(hsc:scn=true->jO ncells=true:=by intro h;cases h)(hd:Nat.blt d N=true:=by rfl)(hgd:gd N ops S true g=some gs:=by rfl)(hno:nZ ⟨S,O⟩ [d]=true:=by rfl):Run Γ ops K (⟨some d,.call ⟨.builtin .append,#[x,y],#[t,t]⟩,ty,pos,af,g⟩::rest) acc ⟨S,O⟩:=.op (aQd scn hx ho hy hlen hnl hb (aM6 h63 hb) hio hsc hcat hd) hgd hno hrun
theorem aE5  (hrun:Run Γ ops K rest (⟨⟨[(d,⟨.sc (.int k r),false⟩)],[]⟩,gs++(ors x++ors y),[],[]⟩::acc) ⟨[(d,⟨.sc (.int k r),false⟩)]++S,[]++O⟩)(hx:evq S x=some (.sc (.int k m)):=by rfl)(hy:evq S y=some (.sc (.int k n)):=by rfl)(hn:n≠0:=by intro h;cases h)(hr:m.tmod n=r:=by rfl)(hd:Nat.blt d N=true:=by rfl)(hgd:gd N ops S true g=some gs:=by rfl):Run Γ ops K (⟨some d,.binOp .rem u x y u',ty,pos,af,g⟩::rest) acc ⟨S,O⟩:=.op (aTQ hx hy hn hr hd) hgd rfl hrun
theorem iU {x:Operand}{t n by_ l:Nat}{cells:List PV}{dp:Bool}[ht:TI P t n true by_](hrun:Run Γ ops K rest (⟨⟨[(d,⟨.agg cells,dp⟩)],[(l,none)]⟩,gs++(ors x),[l],[]⟩::acc) ⟨[(d,⟨.agg cells,dp⟩)]++S,[(l,none)]++O⟩)(hx:evq S x=some (.ptr l 0):=by rfl)(ho:loq O l=some ⟨cells,dp,false⟩:=by rfl)(hn:Nat.beq cells.length n=true:=by rfl)(hn0:n≠0:=by intro h;cases h)(hnl:qB cells=true:=by rfl)(hio:Γ.io l=none:=by exact io1 (by assumption) _)(hd:Nat.blt d N=true:=by rfl)(hgd:gd N ops S true g=some gs:=by rfl):Run Γ ops K (⟨some d,.load t x,ty,pos,af,g⟩::rest) acc ⟨S,O⟩:=.op (aRf hx ho hn hn0 hnl hio hd) hgd rfl hrun
theorem aP2 {p q:Bool}[hu:UT P u .bool](hrun:Run Γ ops K rest (⟨⟨[(d,⟨.sc (.bool (!(p == q))),false⟩)],[]⟩,gs++(ors x++ors y),[],[]⟩::acc) ⟨[(d,⟨.sc (.bool (!(p == q))),false⟩)]++S,[]++O⟩)(hx:evq S x=some (.sc (.bool p)):=by rfl)(hy:evq S y=some (.sc (.bool q)):=by rfl)(hd:Nat.blt d N=true:=by rfl)(hgd:gd N ops S true g=some gs:=by rfl):Run Γ ops K (⟨some d,.binOp .neq u x y u',ty,pos,af,g⟩::rest) acc ⟨S,O⟩:=.op (aS2 hx hy hd) hgd rfl hrun
theorem mZ {s i:Nat}{vs:List PV}{p:PV}(hrun:Run Γ ops K rest (⟨⟨[(d,⟨p,true⟩),(s,⟨.tup (vs.set i .any),true⟩)],[]⟩,gs++[s],[],[]⟩::acc) ⟨[(d,⟨p,true⟩),(s,⟨.tup (vs.set i .any),true⟩)]++S,[]++O⟩)(hx:lkq S s=some ⟨.tup vs,true⟩:=by rfl)(hp:vs[i]?=some p:=by rfl)(hl:p.labs=[]:=by rfl)(hne:Nat.beq s d=false:=by rfl)(hd:Nat.blt d N=true:=by rfl)(hgd:gd N ops S true g=some gs:=by rfl):Run Γ ops K (⟨some d,.extract (.tmp s) i,ty,pos,af,g⟩::rest) acc ⟨S,O⟩:=.op (aSY hx hp hl hne hd) hgd rfl hrun
theorem aHh {α:Type}{x:Operand}{lo hi:Option Operand}{t e n by_:Nat}{agg:Bool}{l r:List α}{enc:α->List PV}{i j:Int}{len:Nat}[ht:SlT P t e][hi':TI P e n agg by_](hrun:Run Γ ops K rest (⟨⟨[(d,⟨.sl r.length (r.flatMap enc),false⟩)],[]⟩,gs++(ors x++(aI0 lo++aI0 hi)),[],[]⟩::acc) ⟨[(d,⟨.sl r.length (r.flatMap enc),false⟩)]++S,[]++O⟩)(h:sub l i j=some r)(hx:evq S x=some (.sl len (l.flatMap enc)):=by rfl)(hlen:len=l.length:=by rfl)(hlo:wA S 0 lo=some i:=by rfl)(hhi:wA S len hi=some j:=by rfl)(hsz:∀ y,(enc y).length=n:=by intro _;rfl)(hd:Nat.blt d N=true:=by rfl)(hgd:gd N ops S true g=some gs:=by rfl):Run Γ ops K (⟨some d,.slice t x lo hi none,ty,pos,af,g⟩::rest) acc ⟨S,O⟩:=.op (aTP hx hlen hlo hhi h hsz hd) hgd rfl hrun
theorem aTH  (hrun:Run Γ ops K rest (⟨⟨[(d,⟨.sc (.bool (decide (n<=m))),false⟩)],[]⟩,gs++(ors x++ors y),[],[]⟩::acc) ⟨[(d,⟨.sc (.bool (decide (n<=m))),false⟩)]++S,[]++O⟩)(hx:evq S x=some (.sc (.int k m)):=by rfl)(hy:evq S y=some (.sc (.int k n)):=by rfl)(hd:Nat.blt d N=true:=by rfl)(hgd:gd N ops S true g=some gs:=by rfl):Run Γ ops K (⟨some d,.binOp .geq u x y u',ty,pos,af,g⟩::rest) acc ⟨S,O⟩:=.op (aRU hx hy hd) hgd rfl hrun
theorem rK {x:Operand}{t e:Nat}[ht:SlT P t e]{l s off n:Nat}{ob:Ob}(hrun:Run Γ ops K rest (⟨⟨[(d,⟨.sc (.int .i64 n),false⟩)],[]⟩,gs++(ors x),[l],[]⟩::acc) ⟨[(d,⟨.sc (.int .i64 n),false⟩)]++S,[]++O⟩)(hx:evq S x=some (.ref l s off n):=by rfl)(ho:loq O l=some ob:=by rfl)(hd:Nat.blt d N=true:=by rfl)(hgd:gd N ops S true g=some gs:=by rfl):Run Γ ops K (⟨some d,.call ⟨.builtin .len,#[x],#[t]⟩,ty,pos,af,g⟩::rest) acc ⟨S,O⟩:=.op (aSR hx ho hd) hgd rfl hrun
theorem aHi  (hrun:Run Γ ops K rest (⟨⟨[(d,⟨.sc (.int k r),false⟩)],[]⟩,gs++(ors x++ors y),[],[]⟩::acc) ⟨[(d,⟨.sc (.int k r),false⟩)]++S,[]++O⟩)(hx:evq S x=some (.sc (.int k m)):=by rfl)(hy:evq S y=some (.sc (.int k n)):=by rfl)(hn:n≠0:=by intro h;cases h)(hr:k.wrap (m.tdiv n)=r:=by rfl)(hd:Nat.blt d N=true:=by rfl)(hgd:gd N ops S true g=some gs:=by rfl):Run Γ ops K (⟨some d,.binOp .quo u x y u',ty,pos,af,g⟩::rest) acc ⟨S,O⟩:=.op (aTR hx hy hn hr hd) hgd rfl hrun
theorem aEb {f:FuncId}[hfc:FnC P f]{k:Nat}{tus:Array TypeId}{p r:PV}(hrun:Run Γ ops K rest (⟨⟨[(d,⟨r,true⟩),(k,⟨.any,false⟩)],[]⟩,gs++[k],[],[]⟩::acc) ⟨[(d,⟨r,true⟩),(k,⟨.any,false⟩)]++S,[]++O⟩)(hm:MeetsD P f [(p,true)] r)(hk:lkq S k=some ⟨p,true⟩:=by rfl)(hl:p.labs=[]:=by rfl)(hr:r.labs=[]:=by rfl)(hd:Nat.blt d N=true:=by rfl)(hgd:gd N ops S true g=some gs:=by rfl):Run Γ ops K (⟨some d,.call ⟨.value (.func f),#[.tmp k],tus⟩,ty,pos,af,g⟩::rest) acc ⟨S,O⟩:=.op (aQa hk hl hm hr hd) hgd rfl hrun
theorem aHj {t e sz by_ s:Nat}{agg:Bool}{ps:List PV}{p:PV}[ht:SlT P t e][hi:TI P e sz agg by_][hz:ZT P e ps](hrun:Run Γ ops K rest (⟨⟨[(d,⟨.sl 1 (bD p),true⟩),(s,⟨.any,false⟩)],[]⟩,gs++[s],[],[]⟩::acc) ⟨[(d,⟨.sl 1 (bD p),true⟩),(s,⟨.any,false⟩)]++S,[]++O⟩)(hx:lkq S s=some ⟨p,true⟩:=by rfl)(hst:stB O false p=true:=by rfl)(hl:p.labs=[]:=by rfl)(hlen:Nat.beq (bD p).length sz=true:=by rfl)(hsz:Nat.blt 0 sz=true:=by rfl)(hs2:Nat.ble sz 1000=true:=by rfl)(hne:Nat.beq d s=false:=by rfl)(hd:Nat.blt d N=true:=by rfl)(hgd:gd N ops S true g=some gs:=by rfl):Run Γ ops K (⟨some d,.buildSlice t 1 #[(0,.tmp s)],ty,pos,af,g⟩::rest) acc ⟨S,O⟩:=.op (aS1 hx hst hl hlen hsz hs2 hne hd) hgd rfl hrun
theorem aB8 {t e sz by_:Nat}{agg:Bool}{ps:List PV}{x:Operand}{p:PV}[ht:SlT P t e][hi:TI P e sz agg by_][hz:ZT P e ps](hrun:Run Γ ops K rest (⟨⟨[(d,⟨.sl 1 (bD p),false⟩)],[]⟩,gs++(ors x),[],[]⟩::acc) ⟨[(d,⟨.sl 1 (bD p),false⟩)]++S,[]++O⟩)(hx:evq S x=some p:=by rfl)(hst:stB O false p=true:=by rfl)(hl:p.labs=[]:=by rfl)(hlen:Nat.beq (bD p).length sz=true:=by rfl)(hsz:Nat.blt 0 sz=true:=by rfl)(hs2:Nat.ble sz 1000=true:=by rfl)(hd:Nat.blt d N=true:=by rfl)(hgd:gd N ops S true g=some gs:=by rfl):Run Γ ops K (⟨some d,.buildSlice t 1 #[(0,x)],ty,pos,af,g⟩::rest) acc ⟨S,O⟩:=.op (aL5 hx hst hl hlen hsz hs2 hd) hgd rfl hrun
theorem aHl {x:Operand}{t e sz by_ l n m s:Nat}{agg dp:Bool}{zs cells ncells cells':List PV}{n':Nat}[ht:SlT P t e][hi:TI P e sz agg by_][hz:ZT P e zs](hrun:Run Γ ops K rest (⟨⟨[(d,⟨.ref d sz 0 n',false⟩),(s,⟨.any,false⟩)],[(d,some ⟨cells',dp,false⟩),(l,none)]⟩,gs++(ors x++[s]),[l],[d]⟩::acc) ⟨[(d,⟨.ref d sz 0 n',false⟩),(s,⟨.any,false⟩)]++S,[(d,some ⟨cells',dp,false⟩),(l,none)]++O⟩)(hb:(n+m)*by_<=140737488355328)(hcat:cells++ncells=cells'/\n+m=n')(hx:evq S x=some (.ref l sz 0 n):=by rfl)(ho:loq O l=some ⟨cells,dp,false⟩:=by rfl)(hy:lkq S s=some ⟨.sl m ncells,true⟩:=by rfl)(hlen:cells.length=n*sz:=by exact cR (fun _=>rfl))(hnl:ncells.length=m*sz:=by rfl)(h63:0<by_:=by decide)(hio:Γ.io d=none/\Γ.io l=none:=by exact⟨io1 (by assumption) _,io1 (by assumption) _⟩)(hd:Nat.blt d N=true:=by rfl)(hgd:gd N ops S true g=some gs:=by rfl)(hno:nZ ⟨S,O⟩ [d]=true:=by rfl):Run Γ ops K (⟨some d,.call ⟨.builtin .append,#[x,.tmp s],#[t,t]⟩,ty,pos,af,g⟩::rest) acc ⟨S,O⟩:=.op (aS4 hx ho hy hlen hnl hb (aM6 h63 hb) hio hcat hd) hgd hno hrun
theorem wX {t e sz by_:Nat}{agg:Bool}{ps:List PV}{x:Operand}{p:PV}[ht:SlT P t e][hi:TI P e sz agg by_][hz:ZT P e ps](hrun:Run Γ ops K rest (⟨⟨[(d,⟨.sl 1 (bD p),true⟩)],[]⟩,gs++(ors x),[],[]⟩::acc) ⟨[(d,⟨.sl 1 (bD p),true⟩)]++S,[]++O⟩)(hx:evq S x=some p:=by rfl)(hst:stB O false p=true:=by rfl)(hsc:aDV p=true:=by rfl)(hl:p.labs=[]:=by rfl)(hlen:Nat.beq (bD p).length sz=true:=by rfl)(hsz:Nat.blt 0 sz=true:=by rfl)(hs2:Nat.ble sz 1000=true:=by rfl)(hd:Nat.blt d N=true:=by rfl)(hgd:gd N ops S true g=some gs:=by rfl):Run Γ ops K (⟨some d,.buildSlice t 1 #[(0,x)],ty,pos,af,g⟩::rest) acc ⟨S,O⟩:=.op (aTY hx hst hsc hl hlen hsz hs2 hd) hgd rfl hrun
theorem wW {f:FuncId}[hfc:FnC P f]{k:Nat}{y:Operand}{tus:Array TypeId}{p0 p r:PV}(hrun:Run Γ ops K rest (⟨⟨[(d,⟨r,true⟩),(k,⟨.any,false⟩)],[]⟩,gs++(ors y++[k]),[],[]⟩::acc) ⟨[(d,⟨r,true⟩),(k,⟨.any,false⟩)]++S,[]++O⟩)(hm:MeetsD P f [(p0,false),(p,true)] r)(hy:evq S y=some p0:=by rfl)(hn0:pE p0=true:=by rfl)(hl0:p0.labs=[]:=by rfl)(hk:lkq S k=some ⟨p,true⟩:=by rfl)(hl:p.labs=[]:=by rfl)(hr:r.labs=[]:=by rfl)(hd:Nat.blt d N=true:=by rfl)(hgd:gd N ops S true g=some gs:=by rfl):Run Γ ops K (⟨some d,.call ⟨.value (.func f),#[y,.tmp k],tus⟩,ty,pos,af,g⟩::rest) acc ⟨S,O⟩:=.op (aP9 hy hn0 hl0 hk hl hm hr hd) hgd rfl hrun
theorem aJs {α:Type}{enc:α->List PV}{z:α}{t e sz by_:Nat}{agg:Bool}{x y:Operand}{k k':IntKind}{n n':Int}{ps:List PV}[ht:SlT P t e][hi:TI P e sz agg by_][hz:ZT P e ps](hrun:Run Γ ops K rest (⟨⟨[(d,⟨.ref d sz 0 (List.replicate n.toNat z).length,false⟩)],[(d,some ⟨(List.replicate n.toNat z).flatMap enc,true,false⟩)]⟩,gs++(ors x++ors y),[],[d]⟩::acc) ⟨[(d,⟨.ref d sz 0 (List.replicate n.toNat z).length,false⟩)]++S,[(d,some ⟨(List.replicate n.toNat z).flatMap enc,true,false⟩)]++O⟩)(hb:0<=n/\n.toNat*by_<=281474976710656)(hx:evq S x=some (.sc (.int k n)):=by rfl)(hy:evq S y=some (.sc (.int k' n')):=by rfl)(hnn:n=n':=by rfl)(hez:enc z=ps:=by rfl)(hby:0<by_:=by decide)(hsz:sz≠0:=by intro h;cases h)(hio:Γ.io d=none:=by exact io1 (by assumption) _)(hd:Nat.blt d N=true:=by rfl)(hgd:gd N ops S true g=some gs:=by rfl)(hno:nZ ⟨S,O⟩ [d]=true:=by rfl):Run Γ ops K (⟨some d,.makeSlice t x y,ty,pos,af,g⟩::rest) acc ⟨S,O⟩:=.op (aNd hx hy hnn hb hez hby hsz hio hd) hgd hno hrun
theorem aP1 {t e by_ n:Nat}{agg:Bool}{ps:List PV}{parts:Array (Nat×Operand)}{vs:List Value}[ht:SlT P t e][hi:TI P e 1 agg by_][hz:ZT P e ps](hrun:Run Γ ops K rest (⟨⟨[(d,⟨.ref d 1 0 n,false⟩)],[(d,some ⟨vs.map .sc,true,false⟩)]⟩,gs++(aAV parts.toList),[],[d]⟩::acc) ⟨[(d,⟨.ref d 1 0 n,false⟩)]++S,[(d,some ⟨vs.map .sc,true,false⟩)]++O⟩)(hv:aCo S parts.toList 0=some vs:=by rfl)(hn:Nat.beq vs.length n=true:=by rfl)(hpos:Nat.blt 0 n=true:=by rfl)(hs2:Nat.ble n 1000=true:=by rfl)(hio:Γ.io d=none:=by exact io1 (by assumption) _)(hd:Nat.blt d N=true:=by rfl)(hgd:gd N ops S true g=some gs:=by rfl)(hno:nZ ⟨S,O⟩ [d]=true:=by rfl):Run Γ ops K (⟨some d,.buildSlice t n parts,ty,pos,af,g⟩::rest) acc ⟨S,O⟩:=.op (aRW hv hn hpos hs2 hio hd) hgd hno hrun
theorem aRM  (hrun:Run Γ ops K rest (⟨⟨[(d,⟨.sc (.int k r),false⟩)],[]⟩,gs++(ors x++ors y),[],[]⟩::acc) ⟨[(d,⟨.sc (.int k r),false⟩)]++S,[]++O⟩)(hx:evq S x=some (.sc (.int k m)):=by rfl)(hy:evq S y=some (.sc (.int k n)):=by rfl)(hr:k.wrap (m*n)=r:=by rfl)(hd:Nat.blt d N=true:=by rfl)(hgd:gd N ops S true g=some gs:=by rfl):Run Γ ops K (⟨some d,.binOp .mul u x y u',ty,pos,af,g⟩::rest) acc ⟨S,O⟩:=.op (aTT hx hy hr hd) hgd rfl hrun
theorem aEI {x:Operand}{src dst:TypeId}{k q:IntKind}{n r:Int}{ds:TypeDesc}[hs:UT P src ds][ht:UT P dst (.int q)](hrun:Run Γ ops K rest (⟨⟨[(d,⟨.sc (.int q r),false⟩)],[]⟩,gs++(ors x),[],[]⟩::acc) ⟨[(d,⟨.sc (.int q r),false⟩)]++S,[]++O⟩)(hx:evq S x=some (.sc (.int k n)):=by rfl)(hr:q.wrap n=r:=by rfl)(hd:Nat.blt d N=true:=by rfl)(hgd:gd N ops S true g=some gs:=by rfl):Run Γ ops K (⟨some d,.convert src dst x,ty,pos,af,g⟩::rest) acc ⟨S,O⟩:=.op (aS0 hx hr hd) hgd rfl hrun
theorem av {x:Operand}{p:PV}{m:List Nat}{xs:List Operand}{ps:List PV}(h:ArgsV S O xs ps m)(hx:evq S x=some p:=by rfl)(hl:p.labs=[]:=by rfl):ArgsV S O (x::xs) (p::ps) ([]++m):=.cons (.val hx hl) h
theorem ar {x:Operand}{l s n:Nat}{cells:List PV}{dp:Bool}{m:List Nat}{xs:List Operand}{ps:List PV}(h:ArgsV S O xs ps m)(hx:evq S x=some (.ref l s 0 n):=by rfl)(ho:loq O l=some ⟨cells,dp,false⟩:=by rfl)(hl:cells.length<=n*s:=by first | exact Nat.le_of_eq (cR (fun _=>rfl)) | exact aUZ rfl):ArgsV S O (x::xs) (.sl n cells::ps) ([l]++m):=.cons (.ref hx ho hl) h
theorem avS {x:Operand}{p p':PV}{m:List Nat}{xs:List Operand}{ps:List PV}(h:ArgsV S O xs ps m)(hs:Soft p p')(hx:evq S x=some p:=by rfl)(hl:p.labs=[]:=by rfl):ArgsV S O (x::xs) (p'::ps) ([]++m):=.cons (.valS hx hl hs) h
theorem arS {x:Operand}{l s n:Nat}{cells cells':List PV}{dp:Bool}{m:List Nat}{xs:List Operand}{ps:List PV}(h:ArgsV S O xs ps m)(hl:SoftL cells cells')(hx:evq S x=some (.ref l s 0 n):=by rfl)(ho:loq O l=some ⟨cells,dp,false⟩:=by rfl):ArgsV S O (x::xs) (.sl n cells'::ps) ([l]++m):=.cons (.refS hx ho hl) h
theorem bs {pl:List (Nat×Nat)}{dp:Bool}{i off n:Nat}{x:Operand}{p:PV}{r:List (Nat×Operand)}{cells cells':List PV}{ks:List Nat}(h1:evq S x=some p:=by rfl)(h2:pE p=true:=by rfl)(h3:p.labs=[]:=by rfl)(h4:stB [] false p=true:=by rfl)(h5:pl[i]?=some (off,n):=by rfl)(h6:Nat.beq (bD p).length n=true:=by rfl)(h7:Nat.ble (off+n) cells.length=true:=by rfl)(h:BuildV S pl dp r (cells.take off++bD p++cells.drop (off+n)) cells' ks):BuildV S pl dp ((i,x)::r) cells cells' ks:=.sc h1 h2 h3 h4 h5 h6 h7 h
theorem bt {pl:List (Nat×Nat)}{dp:Bool}{i off n k:Nat}{p:PV}{r:List (Nat×Operand)}{cells cells':List PV}{ks:List Nat}(h1:lkq S k=some ⟨p,true⟩:=by rfl)(h3:p.labs=[]:=by rfl)(h4:stB [] false p=true:=by rfl)(h5:pl[i]?=some (off,n):=by rfl)(h6:Nat.beq (bD p).length n=true:=by rfl)(h7:Nat.ble (off+n) cells.length=true:=by rfl)(h8:zD ks k=false:=by rfl)(h:BuildV S pl dp r (cells.take off++bD p++cells.drop (off+n)) cells' ks):BuildV S pl dp ((i,.tmp k)::r) cells cells' (k::ks):=.tk h1 h3 h4 h5 h6 h7 h8 h
theorem bh {pl:List (Nat×Nat)}{dp:Bool}{i off n:Nat}{x:Operand}{p:PV}{r:List (Nat×Operand)}{cells cells':List PV}{ks:List Nat}(h1:dp=false:=by rfl)(h2:evq S x=some p:=by rfl)(h3:p.labs=[]:=by rfl)(h4:stB [] false p=true:=by rfl)(h5:pl[i]?=some (off,n):=by rfl)(h6:Nat.beq (bD p).length n=true:=by rfl)(h7:Nat.ble (off+n) cells.length=true:=by rfl)(h:BuildV S pl dp r (cells.take off++bD p++cells.drop (off+n)) cells' ks):BuildV S pl dp ((i,x)::r) cells cells' ks:=.sh h1 h2 h3 h4 h5 h6 h7 h
end
/- The engine, part SS: a row of the caller's own, lent to a function that only reads it: what the function returns does not speak of the row's own block. -/
open Go.RowKit (Below)
def ROk (w:World)(ok:Nat->Prop)(o:Option Nat)(old:List PV):Prop:=(o=none/\old=[])\/∃ b cs t B,o=some b/\¬ok b/\w.heap[b]?=some (.cells cs t (0,0))/\RelL w.heap true dead old cs 0 B/\∀ x∈B,ok x
def aDQ (l0:Nat)(o:Option Nat):Nat->Option (Option Nat):=fun l=>if l=l0 then some o else none
def MeetsR (P:Program)(f:FuncId)(args:List PV)(l0:Nat)(old:List PV)(r:PV):Prop :=
 ∀ (w:World) (cargs:Array Value) (ok:Nat->Prop) (o:Option Nat),XArgs w.heap ok (aDQ l0 o) args cargs.toList->ROk w ok o old->
  Calls P f cargs w fun e w'=>∃ c B,e=.returned c/\Same w w'/\(∀ b,b<w.heap.size->o≠some b->w'.heap[b]?=w.heap[b]?)/\
   (∀ b,o=some b->∀ cs t,w.heap[b]?=some (.cells cs t (0,0))->∃ cs' B',w'.heap[b]?=some (.cells cs' t (0,0))/\cs'.size=cs.size/\RelL w'.heap true dead old cs' 0 B'/\∀ x∈B',x<w'.heap.size/\(ok x\/w.heap.size<=x))/\
   RelV w'.heap dead r c B/\(∀ b∈B,ok b\/w.heap.size<=b)
section
variable {P:Program}{N:Nat}
theorem MeetsR.intro {f:FuncId}{fn:Func}{c:Code}{args:List PV}{l0:Nat}{old:List PV}{r:PV}{rs:Array ResultVar}(hf:P.funcs[f]?=some fn)(hb:fn.body=some c)(hN:fn.ntmps=N)(hrs:fn.results=rs)(hn:Nat.ble args.length N=true)(hl0:Nat.ble 100000 l0=true)
 (h:∀ Γ:Ctx P N,(∀ l,Nat.blt l 100000=true->Γ.io l=none)->CodeT Γ c ⟨iY args 0,[(l0,some ⟨old,false,false⟩)]⟩ (aCV Γ rs r false [⟨l0,old,old⟩])):MeetsR P f args l0 old r:=by
 intro w cargs ok o ha hob
 obtain⟨h1,h2⟩:=ha.get
 have hn:=aUZ hn
 have hl0:=aUZ hl0
 let Γ:Ctx P N:={ base:=w.heap.size,ok:=ok,io:=fun l=>if l=l0 then o else none,w0:=w,mine:=fun _=>False,lent:=fun _=>False }
 have hio:∀ l b,Γ.io l=some b↔l=l0/\o=some b:=by
  intro l b
  show(if l=l0 then o else none)=some b↔_
  by_cases e:l=l0 <;> simp[e]
 have hsz:(cargs++Array.replicate (fn.ntmps-cargs.size) undef).size=N:=by
  have:cargs.size=args.length:=by rw[h1];simp
  simp[this,hN];omega
 have hblt:∀ b,o=some b->b<w.heap.size/\¬ok b:=by
  rintro b rfl
  rcases hob with⟨e,_⟩ | ⟨b',cs,t,B,e,hk,g,_⟩
  · cases e
  · cases e
    rcases aVA b w.heap.size with h | h
    · exact⟨h,hk⟩
    · simp[aVd h]at g
 refine calls_of_wp hf hb ?_
 let ow:Nat->Own:=fun b=>if o=some b then .lab l0 else .none
 have how:∀ b l,ow b=.lab l->l=l0/\o=some b:=by
  intro b l e
  have e:(if o=some b then Own.lab l0 else .none)=.lab l:=e
  by_cases hh:o=some b
  · rw[aUs hh]at e;cases e;exact⟨rfl,hh⟩
  · rw[aUq hh]at e;cases e
 have hsim:Sim Γ ⟨iY args 0,[(l0,some ⟨old,false,false⟩)]⟩ { tmps:=cargs++Array.replicate (fn.ntmps-cargs.size) undef,defers:=[] } w:=by
  refine⟨ow,aDQ l0 o,{ size:=hsz,defers:=rfl,kept:=⟨rfl,rfl,rfl,aUI _,fun _ _ _ _=>rfl,fun b _ _ cs t h=>⟨cs,h,rfl⟩⟩,slots:=fun k=>?_,objs:=fun l ob hl=>?_,gone:=fun l hl=>?_,own:=fun b hb=>?_,ios:=fun l b hl _=>?_,fresh:=fun l b hl hi=>?_ }⟩
  · rw[pB]
    by_cases hk:k<args.length
    · rw[aUs ⟨aVk _,by simpa using hk⟩]
      obtain⟨B,g1,g2⟩:=h2 k hk
      refine⟨B,?_,fun b hb=>⟨aXA _ _ _ g1 b hb,.inl (g2 b hb),fun l e=>(hblt b (how b l e).2).2 (g2 b hb)⟩,by simp⟩
      have e:(cargs++Array.replicate (fn.ntmps-cargs.size) undef).getD k undef=cargs.toList.getD k undef:=by
       have hlt:k<cargs.size:=by rw[h1]at hk;simpa using hk
       simp[aUV,aVF,hlt,aUU]
      rw[e]
      simpa only[aWt]using g1
    · rw[aUq (by simpa using hk)]
      exact⟨[],by simp[RelV],by simp,by simp⟩
  · simp only[aT]at hl
    by_cases e:l0=l
    · subst e
      rw[aUs rfl]at hl;cases hl
      rcases hob with⟨rfl,e2⟩ | ⟨b,cs,t,B,rfl,hk,g1,g2,g3⟩
      · exact⟨[],by simp,by simp,.inl ⟨by simp[aDQ],e2,rfl⟩⟩
      · refine⟨B,fun x hx=>⟨RelL.below _ _ _ _ g2 x hx,.inl (g3 x hx),fun l e=>(hblt x (how x l e).2).2 (g3 x hx)⟩,fun hd=>(by cases hd),.inr ⟨b,cs,t,by simp[aDQ],?_,g1,g2⟩⟩
        show(if _ then _ else _)=_
        rw[aUs rfl]
    · rw[aUq e]at hl;simp[lo]at hl
  · simp only[aT]at hl
    by_cases e:l0=l
    · rw[aUs e]at hl;cases hl
    · simp[aDQ,Ne.symm e]
  · have hb:(if o=some b then Own.lab l0 else .none)≠.none:=hb
    by_cases hh:o=some b
    · refine⟨(hblt b hh).1,.inr ⟨l0,?_,(hio l0 b).2 ⟨rfl,hh⟩⟩⟩
      show(if _ then _ else _)=_
      rw[aUs hh]
    · rw[aUq hh]at hb;exact absurd rfl hb
  · obtain⟨rfl,rfl⟩:=(hio l b).1 hl
    simp[aDQ]
  · have hl:(if l=l0 then some o else none)=some (some b):=hl
    by_cases e:l=l0
    · rw[aUs e]at hl
      rw[(hio l b).2 ⟨e,Option.some.inj hl⟩]at hi;cases hi
    · rw[aUq e]at hl;cases hl
 have hioN:∀ l,Nat.blt l 100000=true->Γ.io l=none:=by
  intro l hl
  have hl:=(aR _ _).1 hl
  show(if l=l0 then o else none)=none
  rw[aUq (by omega)]
 refine wp_mono (h Γ hioN _ _ hsim) fun e a' w' ⟨E',hs',hq⟩=>?_
 have fin:RetX Γ rs E' r false [⟨l0,old,old⟩]->a'.defers=[]/\∃ v,(results fn a'.tmps).run P w'=.ok v w'/\∃ c B,Ending.returned v=.returned c/\Same w w'/\(∀ b,b<w.heap.size->o≠some b->w'.heap[b]?=w.heap[b]?)/\
  (∀ b,o=some b->∀ cs t,w.heap[b]?=some (.cells cs t (0,0))->∃ cs' B',w'.heap[b]?=some (.cells cs' t (0,0))/\cs'.size=cs.size/\RelL w'.heap true dead old cs' 0 B'/\∀ x∈B',x<w'.heap.size/\(ok x\/w.heap.size<=x))/\
  RelV w'.heap dead r c B/\(∀ b∈B,ok b\/w.heap.size<=b):=by
  rintro⟨hr,hr2⟩
  obtain⟨c,B,g1,g2,g3,g4⟩:=hr fn hrs a' w' hs'
  obtain⟨E2,⟨ow2,β2,hs2⟩,hr2⟩:=hr2 a' w' hs'
  refine⟨hs2.defers,c,g1,c,B,rfl,⟨hs2.kept.os,hs2.kept.output,hs2.kept.tape,hs2.kept.size⟩,fun b hb hn=>hs2.kept.old b hb (fun l e=>hn ((hio l b).1 e).2) (fun h=>h),fun b e cs t hc=>?_,g2,fun b hb=>(g3 b hb).2.imp id (fun h=>(h.elim id False.elim:Γ.nww b).elim id False.elim)⟩
  obtain⟨dp,hl⟩:=hr2 ⟨l0,old,old⟩ (by simp)
  obtain⟨Bo,k1,_,k3⟩:=hs2.objs l0 _ hl
  have hβ:=hs2.ios l0 b ((hio l0 b).2 ⟨rfl,e⟩) (by simp only at hl;rw[hl];rfl)
  rcases k3 with⟨k4,_⟩ | ⟨b',cs',t',k4,k5,k6,k7⟩
  · rw[hβ]at k4;cases k4
  · rw[hβ]at k4;cases k4
    obtain⟨cs2,q1,q2⟩:=hs2.kept.ios b (hblt b e).1 (fun h=>h) cs t hc
    rw[k6]at q1;cases q1
    exact⟨cs',Bo,k6,q2,by simpa using k7,fun x hx=>⟨(k1 x hx).1,(k1 x hx).2.1.imp id (fun h=>(h.elim id False.elim:Γ.nww x).elim id False.elim)⟩⟩
 cases e with
 | normal=>exact fin hq
 | ret=>exact fin hq
 | exit id=>exact hq.elim
 | goto l=>exact hq.elim
 | panic ch=>exact hq.elim
 | outgrown=>exact hq.elim
variable {Γ:Ctx P N}{S:List (Nat×Slot)}{O:List (Nat×Option Ob)}{ow:Nat->Own}{β:Nat->Option (Option Nat)}{F:Env}{a:Act}{w:World}
theorem SimG.rewriteS (h:SimG Γ ow β F a w){w':World}(hw:Same w w'){l b0:Nat}(hβ0:β l=some (some b0))(hother:∀ b,b<w.heap.size->b≠b0->w'.heap[b]?=w.heap[b]?)
 {cs cs':Array Value} {t:TypeId} (hrow0:w.heap[b0]?=some (.cells cs t (0,0))) (hrow:w'.heap[b0]?=some (.cells cs' t (0,0))) (hsz:cs'.size=cs.size) {cells:List PV} {B:List Nat}
 (hrel:RelL w'.heap true dead cells cs' 0 B) (hB:∀ b∈B,b<w'.heap.size/\(Im Γ ow w b\/w.heap.size<=b)):SimG Γ ow β (F.app ⟨[],[(l,some ⟨cells,false,false⟩)]⟩) a w':=by
 have hlab0:=h.lab_ne hβ0
 have hImne:∀ b,Im Γ ow w b->b≠b0:=by rintro b ⟨_,_,h3⟩ rfl;exact h3 l hlab0
 have hIm:∀ b,Im Γ ow w b->Im Γ ow w' b:=fun b hb=>⟨aUN hb.1 hw.size,hb.2⟩
 have hFree:∀ b,Im Γ ow w b->gA w b->gA w' b:=fun b hb ⟨c,t,hc⟩=>⟨c,t,by rw[hother b hb.1 (hImne b hb)];exact hc⟩
 have hheap:∀ b,Im Γ ow w b->w'.heap[b]?=w.heap[b]?:=fun b hb=>hother b hb.1 (hImne b hb)
 have hshape:∀ b,b<w.heap.size->aD9 w.heap w'.heap b:=by
  intro b hb c t' hc
  by_cases hbb:b=b0
  · subst hbb;rw[hrow0]at hc;cases hc;exact⟨cs',hrow,hsz⟩
  · exact⟨c,by rw[hother b hb hbb];exact hc,rfl⟩
 have hkeep:∀ m,KeepB w.heap w'.heap β β m:=fun m o ho=>⟨ho,fun b hob=>by subst hob;exact hshape b (h.block_lt ho)⟩
 refine { size:=h.size,defers:=h.defers,kept:=?_,slots:=fun k=>?_,objs:=fun m ob' hm=>?_,gone:=fun m hm=>?_,own:=fun b hb=>?_,ios:=fun m b hm hs=>?_,fresh:=h.fresh }
 · refine⟨hw.os.trans h.kept.os,hw.output.trans h.kept.output,hw.tape.trans h.kept.tape,aUE h.kept.size hw.size,fun b h1 h2 hmi=>?_,fun b h1 hmi c t' h2=>?_⟩
   · have hne:b≠b0:=by
      rintro rfl
      cases hi:Γ.io l with
      | none =>
       rcases h.fresh l b hβ0 hi with g | g
       · omega
       · exact hmi g
      | some b' =>
       have hsome:(lo F.o l).isSome=true:=by
        cases hoo:lo F.o l with
        | none=>rw[h.gone l hoo]at hβ0;cases hβ0
        | some _=>rfl
       have:=h.ios l b' hi hsome
       rw[hβ0]at this;cases this
       exact h2 l hi
     exact(hother b (aUN h1 h.kept.size) hne).trans (h.kept.old b h1 h2 hmi)
   · obtain⟨c',h3,h4⟩:=h.kept.ios b h1 hmi c t' h2
     obtain⟨c'',h5,h6⟩:=hshape b (aUN h1 h.kept.size) c' t' h3
     exact⟨c'',h5,h6.trans h4⟩
 · obtain⟨O',g1,g2,g3⟩:=h.slots k
   exact⟨O',aXt _ _ _ (fun m _=>hkeep m) (fun b hb=>hheap b (g2 b hb)) g1,fun b hb=>hIm b (g2 b hb),fun hd=>⟨(g3 hd).1,fun b hb=>⟨((g3 hd).2 b hb).1,hFree b (g2 b hb) ((g3 hd).2 b hb).2⟩⟩⟩
 · simp only[Env.app,aUB,aUx,aT]at hm
   by_cases hml:l=m
   · subst hml
     rw[aUs rfl]at hm;cases hm
     refine⟨B,fun b hb=>?_,fun hd=>(by cases hd),.inr ⟨b0,cs',t,hβ0,hlab0,hrow,hrel⟩⟩
     obtain⟨g1,g2⟩:=hB b hb
     rcases g2 with g2 | g2
     · exact hIm b g2
     · exact⟨g1,.inr (.inl (.inl (aUE h.kept.size g2))),fun m e=>by have:=(h.own b (by rw[e];simp)).1;omega⟩
   · rw[aUq hml]at hm
     obtain⟨O',g1,g2,g3⟩:=h.objs m ob' hm
     refine⟨O',fun b hb=>hIm b (g1 b hb),fun hd=>⟨(g2 hd).1,fun b hb=>⟨((g2 hd).2 b hb).1,hFree b (g1 b hb) ((g2 hd).2 b hb).2⟩⟩,?_⟩
     rcases g3 with g3 | ⟨b,c,t',e1,e2,e3,e4⟩
     · exact .inl g3
     · have hbne:b≠b0:=by rintro rfl;rw[hlab0]at e2;simp at e2;exact hml e2
       refine .inr ⟨b,c,t',e1,e2,by rw[hother b (h.block_lt e1) hbne];exact e3,?_⟩
       cases hbx:ob'.box with
       | false=>rw[hbx]at e4;exact aXr _ _ _ _ (fun _ _ l _=>aXF _ _ l) (fun b hb=>hheap b (g1 b hb)) e4
       | true=>rw[hbx]at e4;exact aXr _ _ _ _ (fun _ _ m' _=>hkeep m') (fun b hb=>hheap b (g1 b hb)) e4
 · simp only[Env.app,aUB,aUx,aT]at hm
   by_cases hml:l=m
   · rw[aUs hml]at hm;cases hm
   · rw[aUq hml]at hm;exact h.gone m hm
 · exact⟨aUN (h.own b hb).1 hw.size,(h.own b hb).2⟩
 · simp only[Env.app,aUB,aUx,aT]at hs
   by_cases hml:l=m
   · subst hml
     refine h.ios l b hm ?_
     cases ho:lo F.o l with
     | none=>rw[h.gone l ho]at hβ0;cases hβ0
     | some _=>rfl
   · rw[aUq hml]at hs;exact h.ios m b hm hs
variable {d:Nat}{ty:TypeId}{pos:String}{af:Array Edge}{g:Option (Nat×Bool)}
theorem aRj {f:FuncId}[hfc:FnC P f]{xs:List Operand}{tus:Array TypeId}{ps:List PV}{l0 l:Nat}{old:List PV}{r:PV}{dp:Bool}(ha:ArgsX S O [(l0,l)] xs ps [])(hm:MeetsR P f ps l0 old r)(ho:loq O l=some ⟨old,dp,false⟩)(hr:r.labs=[])(hd:Nat.blt d N=true) :
 Local Γ ⟨some d,.call ⟨.value (.func f),xs.toArray,tus⟩,ty,pos,af,g⟩ ⟨S,O⟩ ⟨[(d,⟨r,false⟩)],[(l,some ⟨old,false,false⟩)]⟩ (pD xs) [l] []:=by
 intro F hs hl _ a w ⟨ow,β,hsim⟩ Q
 have hdN:=(aR _ _).1 hd
 have hlo:lo F.o l=some ⟨old,dp,false⟩:=by rw[hl l (by simp),<- dA];exact ho
 have hren:rn [(l0,l)] l0=l:=by simp[rn]
 unfold Oper.wp
 have hrun:(execOp a.eval ⟨some d,.call ⟨.value (.func f),xs.toArray,tus⟩,ty,pos,af,g⟩).run P w=.ok (.enter f (xs.map a.eval).toArray) w:=by
  simp[execOp,resolve,Act.eval,Deferred.ofValue,invoke,hfc.run]
 rw[hrun]
 show Calls _ _ _ _ _
 obtain⟨o,hβ⟩:∃ o,β l=some o:=by
  obtain⟨B,_,_,g⟩:=hsim.objs l _ hlo
  rcases g with⟨e,_⟩ | ⟨b,_,_,e,_⟩
  · exact⟨_,e⟩
  · exact⟨_,e⟩
 have hκ:∀ l' o',aDQ l0 o l'=some o'->β (rn [(l0,l)] l')=some o':=by
  intro l' o' e
  by_cases e2:l'=l0
  · subst e2
    have e:(if l'=l' then some o else none)=some o':=e
    rw[aUs rfl]at e;cases e;rw[hren];exact hβ
  · have e:(if l'=l0 then some o else none)=some o':=e
    rw[aUq e2]at e;cases e
 have hargs:XArgs w.heap (fun b=>Im Γ ow w b) (aDQ l0 o) ps (xs.map a.eval):=by
  have key:∀ {xs:List Operand} {ps:List PV} {ls':List Nat},ArgsX S O [(l0,l)] xs ps ls'->ls'=[]->(∀ k∈pD xs,lk F.s k=lk S k)->XArgs w.heap (fun b=>Im Γ ow w b) (aDQ l0 o) ps (xs.map a.eval):=by
   intro xs ps ls' hx
   induction hx with
   | nil=>intro _ _;trivial
   | @cons x p l1 m xs ps h1 h2 ih =>
    intro hls hk
    obtain⟨rfl,rfl⟩:=List.append_eq_nil_iff.1 hls
    have hk1:∀ k∈ors x,lk F.s k=lk S k:=fun k hk'=>hk k (by cases x <;> simp[ors,pD]at hk' ⊢;exact .inl hk')
    have hk2:∀ k∈pD xs,lk F.s k=lk S k:=fun k hk'=>hk k (by cases x <;> simp[pD,hk'])
    refine⟨?_,ih rfl hk2⟩
    cases h1 with
    | val hv hlb =>
     obtain⟨B,g1,g2⟩:=ArgV.rel hsim hv hk1 (fun m hm'=>by cases hm')
     exact⟨B,g1.nolab hlb,fun b hb=>(g2 b hb).elim id fun⟨m,hm',_⟩=>by cases hm'⟩
    | io hv =>
     obtain⟨B,g1,g2⟩:=cK hsim hv hk1
     exact⟨B,vA hκ _ g1,fun b hb=>g2 b hb⟩
  exact key ha rfl hs
 obtain⟨Bo,k1,_,k3⟩:=hsim.objs l _ hlo
 refine(hm w (xs.map a.eval).toArray (fun b=>Im Γ ow w b) o (by simpa using hargs) ?_).mono fun e w' ⟨c,B,he,hsame,hoth,hpost,h1,h2⟩=>?_
 · rcases k3 with⟨e1,e2,_⟩ | ⟨b,cs,t,e1,e2,e3,e4⟩
   · rw[hβ]at e1;cases e1;exact .inl ⟨rfl,e2⟩
   · rw[hβ]at e1;cases e1
     exact .inr ⟨b,cs,t,Bo,rfl,fun h=>h.2.2 _ e2,e3,by simpa using e4,k1⟩
 · subst he
   show Sim Γ _ _ _
   have hB:∀ b∈B,b<w'.heap.size:=aXA _ _ _ h1
   have hImB:∀ b∈B,Im Γ ow w' b:=by
    intro b hb
    rcases h2 b hb with g | g
    · exact⟨aUN g.1 hsame.size,g.2⟩
    · exact⟨hB b hb,.inr (.inl (.inl (aUE hsim.kept.size g))),fun l e=>by have:=(hsim.own b (by rw[e];simp)).1;omega⟩
   have fin:SimG Γ ow β (F.app ⟨[],[(l,some ⟨old,false,false⟩)]⟩) a w'->Sim Γ (F.app ⟨[(d,⟨r,false⟩)],[(l,some ⟨old,false,false⟩)]⟩) (a.put (some d) c) w':=by
    intro h
    have h3:=h.put hdN (aXM hr h1) hImB
    exact⟨ow,β,h3.congr (fun k=>rfl) (fun l=>rfl)⟩
   rcases k3 with⟨e1,e2,_⟩ | ⟨b,cs,t,e1,e2,e3,e4⟩
   · rw[hβ]at e1;cases e1
     refine fin ?_
     have hg:=hsim.grow (w':=w') ⟨hsame.os,hsame.tape,hsame.output,hsame.size,fun b hb=>hoth b hb (by simp)⟩
     refine { hg with objs:=fun m ob hm=>?_,gone:=fun m hm=>?_,ios:=fun m b hm hs=>?_ }
     · simp only[Env.app,aUB,aUx,aT]at hm
       by_cases hml:l=m
       · subst hml
         rw[aUs rfl]at hm;cases hm
         exact⟨[],by simp,by simp,.inl ⟨hβ,e2,rfl⟩⟩
       · rw[aUq hml]at hm;exact hg.objs m ob hm
     · simp only[Env.app,aUB,aUx,aT]at hm
       by_cases hml:l=m
       · rw[aUs hml]at hm;cases hm
       · rw[aUq hml]at hm;exact hg.gone m hm
     · simp only[Env.app,aUB,aUx,aT]at hs
       by_cases hml:l=m
       · subst hml;exact hg.ios l b hm (by rw[hlo];rfl)
       · rw[aUq hml]at hs;exact hg.ios m b hm hs
   · rw[hβ]at e1;cases e1
     obtain⟨cs',B',q1,q2,q3,q4⟩:=hpost b rfl cs t e3
     exact fin (hsim.rewriteS hsame hβ (fun b' hb' hne=>hoth b' hb' (fun e=>hne (Option.some.inj e).symm)) e3 q1 q2 q3 (fun x hx=>⟨(q4 x hx).1,(q4 x hx).2⟩))
end
/- The engine, part TT: short forms of tests, loops, calls and ends. -/
section
variable {P:Program}{N:Nat}{Γ:Ctx P N}{E:Env}{Q Q' Q9:Exit->Env->Prop}{S:List (Nat×Slot)}{O:List (Nat×Option Ob)}
variable {α β σ ρ ε:Type}{x y:Code}{t:Nat}{dp deep:Bool}
theorem cT {c:Prop}{_hc:Decidable c}{a b:Option β}{r:β}(H:(if c then a else b)=some r)(h1:c->a=some r->CodeT Γ x E Q)(h2:¬c->b=some r->CodeT Γ y E Q)(hk:lk E.s t=⟨.sc (.bool (decide c)),dp⟩:=by rfl):CodeT Γ (.cond (.tmp t) x y) E Q :=
 .cond hk (fun h=>h1 (aU4 h) (ifT (aU4 h) H)) (fun h=>h2 (of_decide_eq_false h) (ifF (of_decide_eq_false h) H))
theorem cB {c:Bool}{a b:Option β}{r:β}(H:(if c=true then a else b)=some r)(h1:c=true->a=some r->CodeT Γ x E Q)(h2:c=false->b=some r->CodeT Γ y E Q)(hk:lk E.s t=⟨.sc (.bool c),dp⟩:=by rfl):CodeT Γ (.cond (.tmp t) x y) E Q :=
 .cond hk (fun h=>h1 h (aNF h H)) (fun h=>h2 h (aNG h H))
theorem cN {c:Bool}{a b:Option β}{r:β}(H:(if c=true then a else b)=some r)(h1:(!c)=true->b=some r->CodeT Γ x E Q)(h2:(!c)=false->a=some r->CodeT Γ y E Q)(hk:lk E.s t=⟨.sc (.bool (!c)),dp⟩:=by rfl):CodeT Γ (.cond (.tmp t) x y) E Q :=
 .cond hk (fun h=>h1 h (aNG (aT9 h) H)) (fun h=>h2 h (aNF (aUa h) H))
section
variable {ops rest:List Oper}{K:List Item->Env->Prop}{acc:List Item}{o:Oper}{rs ro gs:List Nat}{d:Nat}
theorem dT {c:Prop}{_hc:Decidable c}{a b:Option β}{r:β}(H:(if c then a else b)=some r)
 (ht:c->a=some r->Run Γ ops K rest (⟨⟨[(d,⟨.sc (.bool true),false⟩)],[]⟩,gs++rs,ro,[]⟩::acc) ⟨(d,⟨.sc (.bool true),false⟩)::S,O⟩)
 (hf:¬c->b=some r->Run Γ ops K rest (⟨⟨[(d,⟨.sc (.bool false),false⟩)],[]⟩,gs++rs,ro,[]⟩::acc) ⟨(d,⟨.sc (.bool false),false⟩)::S,O⟩)
 (hl:Local Γ o ⟨S,O⟩ ⟨[(d,⟨.sc (.bool (decide c)),false⟩)],[]⟩ rs ro []:=by first | exact aRQ rfl rfl rfl | exact aRT rfl rfl rfl | exact aRV rfl rfl rfl | exact aRR rfl rfl rfl | exact aRU rfl rfl rfl | exact aRP rfl rfl rfl) (hg:gd N ops S true o.guard=some gs:=by rfl):Run Γ ops K (o::rest) acc ⟨S,O⟩ :=
 aNc hl hg (fun h=>ht h (ifT h H)) (fun h=>hf h (ifF h H))
theorem dB {c:Bool}{a b:Option β}{r:β}(H:(if c=true then a else b)=some r)
 (ht:c=true->a=some r->Run Γ ops K rest (⟨⟨[(d,⟨.sc (.bool true),dp⟩)],[]⟩,gs++rs,ro,[]⟩::acc) ⟨(d,⟨.sc (.bool true),dp⟩)::S,O⟩)
 (hf:c=false->b=some r->Run Γ ops K rest (⟨⟨[(d,⟨.sc (.bool false),dp⟩)],[]⟩,gs++rs,ro,[]⟩::acc) ⟨(d,⟨.sc (.bool false),dp⟩)::S,O⟩)
 (hl:Local Γ o ⟨S,O⟩ ⟨[(d,⟨.sc (.bool c),dp⟩)],[]⟩ rs ro []:=by first | exact aC0 rfl rfl | exact aNe rfl rfl | exact aHs rfl rfl rfl (.inl rfl) rfl | exact aHs rfl rfl rfl (.inr rfl) rfl | exact aQc rfl rfl rfl | exact aRS rfl rfl rfl rfl) (hg:gd N ops S true o.guard=some gs:=by rfl):Run Γ ops K (o::rest) acc ⟨S,O⟩ :=
 aHk hl hg (fun h=>ht h (aNF h H)) (fun h=>hf h (aNG h H))
theorem dC {x:Option Bool}{a b:Bool->Option β}{r:β}{f:FuncId}[hfc:FnC P f]{xs:List Operand}{us:Array TypeId}{ps:List PV}{ls:List Nat}{ty:TypeId}{pos:String}{af:Array Edge}{g:Option (Nat×Bool)}(H:x.bind (fun v=>if v=true then a v else b v)=some r)(hm:∀ v,x=some v->Meets P f ps (.sc (.bool v)) deep)
 (ht:a true=some r->Run Γ ops K rest (⟨⟨[(d,⟨.sc (.bool true),deep⟩)],[]⟩,gs++pD xs,ls,[]⟩::acc) ⟨(d,⟨.sc (.bool true),deep⟩)::S,O⟩)
 (hf:b false=some r->Run Γ ops K rest (⟨⟨[(d,⟨.sc (.bool false),deep⟩)],[]⟩,gs++pD xs,ls,[]⟩::acc) ⟨(d,⟨.sc (.bool false),deep⟩)::S,O⟩)
 (ha:ArgsV S O xs ps ls:=by first | exact av (av .nil) | exact av (ar .nil) | exact ar (av .nil) | exact ar (ar .nil) | exact av .nil | exact ar .nil | exact av (av (av .nil)) | exact av (av (ar .nil)) | exact av (ar (av .nil)) | exact av (ar (ar .nil)) | exact ar (av (av .nil)) | exact ar (av (ar .nil)) | exact ar (ar (av .nil)) | exact ar (ar (ar .nil)) | exact av (av (av (av .nil))) | exact av (av (av (ar .nil))) | exact av (av (ar (av .nil))) | exact av (ar (av (av .nil))) | exact ar (av (av (av .nil)))) (hd:Nat.blt d N=true:=by rfl) (hg:gd N ops S true g=some gs:=by rfl):Run Γ ops K (⟨some d,.call ⟨.value (.func f),xs.toArray,us⟩,ty,pos,af,g⟩::rest) acc ⟨S,O⟩:=by
 obtain⟨v,hv,H⟩:=aB H
 refine aHk (aEK ha (hm v hv) (by simp[flat]) rfl hd) hg (fun h=>?_) (fun h=>?_) <;> subst h
 · exact ht H
 · exact hf H
theorem cl {x:Option α}{cont:α->Option β}{r:β}{V:α->PV}{f:FuncId}[hfc:FnC P f]{xs:List Operand}{us:Array TypeId}{ps:List PV}{ls:List Nat}{ty:TypeId}{pos:String}{af:Array Edge}{g:Option (Nat×Bool)}(H:x.bind cont=some r)(hm:∀ v,x=some v->Meets P f ps (V v) deep)
 (hk:∀ v,cont v=some r->Run Γ ops K rest (⟨⟨[(d,⟨V v,deep⟩)],[]⟩,gs++pD xs,ls,[]⟩::acc) ⟨[(d,⟨V v,deep⟩)]++S,[]++O⟩)
 (ha:ArgsV S O xs ps ls:=by first | exact av (av .nil) | exact av (ar .nil) | exact ar (av .nil) | exact ar (ar .nil) | exact av .nil | exact ar .nil | exact av (av (av .nil)) | exact av (av (ar .nil)) | exact av (ar (av .nil)) | exact av (ar (ar .nil)) | exact ar (av (av .nil)) | exact ar (av (ar .nil)) | exact ar (ar (av .nil)) | exact ar (ar (ar .nil)) | exact av (av (av (av .nil))) | exact av (av (av (ar .nil))) | exact av (av (ar (av .nil))) | exact av (ar (av (av .nil))) | exact ar (av (av (av .nil)))) (hc:∀ v,(aNv ls||deep||flat (V v))=true:=by intro _;rfl) (hr:∀ v,(V v).labs=[]:=by intro _;rfl) (hd:Nat.blt d N=true:=by rfl) (hg:gd N ops S true g=some gs:=by rfl):Run Γ ops K (⟨some d,.call ⟨.value (.func f),xs.toArray,us⟩,ty,pos,af,g⟩::rest) acc ⟨S,O⟩:=by
 obtain⟨v,hv,H⟩:=aB H
 exact .op (aEK ha (hm v hv) (hc v) (hr v) hd) hg rfl (hk v H)
theorem ix {l:List α}{cont:α->Option β}{r:β}{j:Int}{x i:Operand}{t e n by_:Nat}{agg:Bool}{enc:α->List PV}{k:IntKind}{len:Nat}{ty:TypeId}{pos:String}{af:Array Edge}{g:Option (Nat×Bool)}[ht:SlT P t e][hi:TI P e n agg by_](H:(idx l j).bind cont=some r)
 (hk:∀ y,idx l j=some y->cont y=some r->Run Γ ops K rest (⟨⟨[(d,⟨.iptr (enc y),false⟩)],[]⟩,gs++(ors x++ors i),[],[]⟩::acc) ⟨[(d,⟨.iptr (enc y),false⟩)]++S,[]++O⟩)
 (hx:evq S x=some (.sl len (l.flatMap enc)):=by rfl) (hix:evq S i=some (.sc (.int k j)):=by rfl) (hlen:len=l.length:=by rfl) (hsz:∀ y,(enc y).length=n:=by intro _;rfl) (hd:Nat.blt d N=true:=by rfl) (hg:gd N ops S true g=some gs:=by rfl):Run Γ ops K (⟨some d,.indexAddr t x i,ty,pos,af,g⟩::rest) acc ⟨S,O⟩:=by
 obtain⟨v,hv,H⟩:=aB H
 exact aSE (hk v hv H) hv hx hix hlen hsz hd hg
end
theorem ll {step:σ->Option (σ ⊕ ρ)}{s0:σ}{K:ρ->Option β}{r:β}{c:Code}(H:(lp step s0).bind K=some r)(Es:σ->Env)(Xe:ρ->Exit->Env->Prop)(he:Ent Γ E (Es s0))
 (hr:∀ s o,step s=some o->CodeT Γ c (Es s) (zB Γ Es Xe o)) (hq:∀ d,K d=some r->∀ e E',Xe d e E'->Q e E'):CodeT Γ (.loop c) E Q:=by
 obtain⟨d,hd,H⟩:=aB H
 exact .lloop Es Xe hd he hr (fun e E' h=>hq d H e E' h)
theorem l1 {step:σ->Option (σ ⊕ ρ)}{s0:σ}{K:ρ->Option β}{r:β}{c y:Code}{i:Nat}(H:(lp step s0).bind K=some r)(Es:σ->Env)(E2:ρ->Env)(he:Ent Γ E (Es s0))
 (hr:∀ s o,step s=some o->CodeT Γ c (Es s) (zB Γ Es (fun d e E=>XEnv Γ (.exit i) (E2 d) e E) o)) (hq:∀ d,K d=some r->CodeT Γ y (E2 d) Q'):CodeT Γ (.loop c) E (pK i (xV (fun E'=>CodeT Γ y E' Q') Q9)) :=
 ll H Es _ he hr (fun d H e E' h=>by obtain⟨rfl,g⟩:=aXJ h;exact x6 (Nat.beq_refl i) (x3 (.weak g (hq d H))))
theorem l2 {step:σ->Option (σ ⊕ (ρ ⊕ ε))}{s0:σ}{K:ρ ⊕ ε->Option β}{r:β}{c y:Code}{i:Nat}(rs:Array ResultVar)(dp:Bool)(H:(lp step s0).bind K=some r)(Es:σ->Env)(E2:ρ->Env)(R2:ε->PV)(he:Ent Γ E (Es s0))
 (hr:∀ s o,step s=some o->CodeT Γ c (Es s) (zB Γ Es (fun x e E=>match x with | .inl d=>XEnv Γ (.exit i) (E2 d) e E | .inr d=>XRet Γ rs (R2 d) dp e E) o)) (hq:∀ d,K (.inl d)=some r->CodeT Γ y (E2 d) Q') (hq2:∀ d,K (.inr d)=some r->∀ E',RetIs Γ rs E' (R2 d) dp->Q9 .ret E'):CodeT Γ (.loop c) E (pK i (xV (fun E'=>CodeT Γ y E' Q') Q9)) :=
 ll H Es _ he hr (fun d H e E' h=>by
  cases d with
  | inl d=>obtain⟨rfl,g⟩:=aXJ h;exact x6 (Nat.beq_refl i) (x3 (.weak g (hq d H)))
  | inr d=>obtain⟨rfl,g⟩:=XRet.out h;exact x4 (x1 (hq2 d H E' g)))
theorem lc {x:Option ρ}{K:ρ->Option β}{r:β}{c y:Code}(H:x.bind K=some r)(E2:ρ->Env)(hc:∀ d,x=some d->CodeT Γ c E (aL6 (fun d e E=>XEnv Γ .normal (E2 d) e E) d))(hq:∀ d,K d=some r->CodeT Γ y (E2 d) Q'):CodeT Γ c E (xV (fun E'=>CodeT Γ y E' Q') Q9):=by
 obtain⟨d,hd,H⟩:=aB H
 exact .lcut _ (hc d hd) (fun e E' h=>by obtain⟨rfl,g⟩:=aXJ h;exact x3 (.weak g (hq d H)))
theorem rl (k n':Nat){c:Code}{l s off n:Nat}{dp:Bool}(h:CodeT Γ c ⟨(k,⟨.ref l s off n',dp⟩)::S,O⟩ Q)(hk:lkq S k=some ⟨.ref l s off n,dp⟩:=by rfl)(hn:n=n':=by first | (simp only[lC];done) | (simp only[lC];omega) | omega):CodeT Γ c ⟨S,O⟩ Q:=.weak (Ent.relen hk hn) h
theorem mi (N:Nat)(rs:Array ResultVar){fn:Func}{f:FuncId}{c:Code}{args:List PV}{r:PV}(hf:P.funcs[f]?=some fn)
 (h:∀ Γ:Ctx P N,(∀ l,Nat.blt l 100000=true->Γ.io l=none)->CodeT Γ c ⟨iY args 0,[]⟩ (ends Γ rs r deep)) (hb:fn.body=some c:=by rfl) (hN:fn.ntmps=N:=by rfl) (hrs:fn.results=rs:=by rfl) (hn:Nat.ble args.length N=true:=by rfl):Meets P f args r deep :=
 .intro2 hf hb hN hrs hn h
theorem rB (sz n:Nat){l:List α}{enc:α->List PV}{j:Int}{y:α}(hl:idx l j=some y)(h:∀ y,(enc y).length=sz:=by intro _;rfl)(ho:n<=sz:=by decide):Nat.ble (j.toNat*sz+n) (l.flatMap enc).length=true:=aOn hl h ho
theorem rC (sz o n:Nat){l:List α}{enc:α->List PV}{j:Int}{y:α}(hl:idx l j=some y)(h:∀ y,(enc y).length=sz:=by intro _;rfl)(ho:o+n<=sz:=by decide):Nat.ble (j.toNat*sz+o+n) (l.flatMap enc).length=true:=aMk hl h ho
theorem rD (sz:Nat){l x:List α}{enc:α->List PV}{j:Int}{y y':α}{vs:List PV}(hx:aS (nA l j y')=some x)(hl:idx l j=some y)(h:∀ y,(enc y).length=sz:=by intro _;rfl)(he:vs=enc y':=by rfl):(l.flatMap enc).take (j.toNat*sz)++vs++(l.flatMap enc).drop (j.toNat*sz+sz)=x.flatMap enc:=aQr hx hl h he
theorem rP (sz:Nat){l:List α}{enc:α->List PV}{j:Int}{y:α}{dp bx:Bool}(hl:idx l j=some y)(h:∀ y,(enc y).length=sz:=by intro _;rfl)(h0:0<sz:=by decide):Nat.blt 0 (Ob.mk (l.flatMap enc) dp bx).cells.length=true:=aQs hl h h0
theorem rF (sz o n:Nat){l x:List α}{enc:α->List PV}{j:Int}{y y':α}{vs:List PV}(hx:aS (nA l j y')=some x)(hl:idx l j=some y)(h:∀ y,(enc y).length=sz:=by intro _;rfl)(ho:o+n<=sz:=by decide)(he:(enc y).take o++vs++(enc y).drop (o+n)=enc y':=by rfl):(l.flatMap enc).take (j.toNat*sz+o)++vs++(l.flatMap enc).drop (j.toNat*sz+o+n)=x.flatMap enc:=aOm hx hl h ho he
end
section
variable {P:Program}{N:Nat}{Γ:Ctx P N}{E:Env}{S S':List (Nat×Slot)}{O O':List (Nat×Option Ob)}{rs:Array ResultVar}{r:PV}{deep:Bool}
theorem le (ρ:List (Nat×Nat))(hio:∀ l,Nat.blt l 100000=true->Γ.io l=none:=by assumption)(hρ:aPK ρ=true:=by rfl)(hi:aDW ρ (aAy O')=true:=by rfl)(h1:aHJ S S'=aHI ρ S':=by rfl)(h2:aIj S S'=true:=by rfl)(h3:aEM ρ O O'=aEL ρ O':=by rfl)(h4:aE3 ρ O O'=true:=by rfl):Ent Γ ⟨S,O⟩ ⟨S',O'⟩ :=
 el ρ (io0 hio ρ hρ) hi h1 h2 h3 h4
theorem leq {ρ:List (Nat×Nat)}(_hq:ρ=ρ)(hio:∀ l,Nat.blt l 100000=true->Γ.io l=none:=by assumption)(hρ:aPK ρ=true:=by rfl)(hi:aDW ρ (aAy O')=true:=by rfl)(h1:aHJ S S'=aHI ρ S':=by rfl)(h2:aIj S S'=true:=by rfl)(h3:aEM ρ O O'=aEL ρ O':=by rfl)(h4:aE3 ρ O O'=true:=by rfl):Ent Γ ⟨S,O⟩ ⟨S',O'⟩:=el ρ (io0 hio ρ hρ) hi h1 h2 h3 h4
theorem rr1 {rv:ResultVar}{p:PV}{o:ResO}(h:Res1 Γ ⟨S,O⟩ rv p o:=by first | exact aXx rfl | exact aXm rfl rfl rfl (by intro h;cases h) | exact Res1.refW rfl rfl (io1 (by assumption) _) | exact Res1.ref rfl rfl (io1 (by assumption) _) | exact Res1.nilW rfl | exact aXO rfl | exact Res1.deep rfl rfl | exact Res1.val rfl rfl):Res1 Γ ⟨S,O⟩ rv p o:=h
theorem rt (h:RetIs Γ rs E r deep:=by first | exact aXK rfl | exact aXI rfl rfl rfl rfl (by intro h;cases h) | exact RetIs.rW rfl rfl rfl (io1 (by assumption) _) | exact aXQ (Res1.deep rfl rfl) (fun _ h=>by cases h) | exact aXQ (Res1.val rfl rfl) (fun h=>by cases h) | exact aXQ (Res1.nilW rfl) (fun _ h=>by cases h) | exact aXQ (aXO rfl) (fun _ h=>by cases h) | exact RetIs.r1 rfl rfl rfl (io1 (by assumption) _) | assumption | exact aXk (.inl rfl) (.cons rr1 (.cons rr1 .nil)) (fun h=>by first | rfl | cases h) | exact aXk (.inr (.inl rfl)) (.cons rr1 (.cons rr1 (.cons rr1 .nil))) (fun h=>by first | rfl | cases h) | exact aXk (.inr (.inr rfl)) (.cons rr1 (.cons rr1 (.cons rr1 (.cons rr1 .nil)))) (fun h=>by first | rfl | cases h)):RetIs Γ rs E r deep:=h
end
abbrev vI (n:Int):Slot:=⟨.sc (.int .i64 n),false⟩
abbrev vB (b:Bool):Slot:=⟨.sc (.bool b),false⟩
abbrev vS {α:Type} (e:α->List PV) (l:List α):Slot:=⟨.sl l.length (l.flatMap e),false⟩
abbrev vR (k s n:Nat):Slot:=⟨.ref k s 0 n,false⟩
abbrev vP (k n:Nat):Slot:=⟨.ptr k n,false⟩
abbrev vW {α:Type} (s:Nat) (e:α->List PV) (l:List α) (dp:Bool):Slot:=⟨.rw s l.length (l.flatMap e),dp⟩
abbrev vO (c:List PV) (a b:Bool):Option Ob:=some ⟨c,a,b⟩
/- The engine, part UU: a call whose results are rows beside own values. -/
open Go.RowKit (Below)
section
variable {P:Program}{N:Nat}{Γ:Ctx P N}{S:List (Nat×Slot)}{O:List (Nat×Option Ob)}{ow:Nat->Own}{β:Nat->Option (Option Nat)}{F:Env}{a:Act}{w:World}
variable {d:Nat}{ty:TypeId}{pos:String}{af:Array Edge}{g:Option (Nat×Bool)}
end
/- The engine, part VV: a store that fills a whole object makes it one's own. -/
open Go.RowKit (Below)
theorem aF1 {h:Array Obj}{q:Bool}{β β':Nat->Option (Option Nat)}:∀ {ps:List PV} {cs:Array Value} {i:Nat} {O:List Nat},RelL h q β ps cs i O->RelL h q β' (ps.map fun _=>.any) cs i []
 | [],_,_,_,_=>by simp[RelL]
 | p::ps,cs,i,O,H=>by
  simp only[aUH,RelL,RelV]at H ⊢
  obtain⟨c,O1,O2,h1,_,h3,_⟩:=H
  exact⟨c,[],[],h1,rfl,aF1 h3,rfl⟩
section
variable {P:Program}{N:Nat}{Γ:Ctx P N}{S:List (Nat×Slot)}{O:List (Nat×Option Ob)}{ow:Nat->Own}{β:Nat->Option (Option Nat)}{F:Env}{a:Act}{w:World}
variable {d:Nat}{ty:TypeId}{pos:String}{af:Array Edge}{g:Option (Nat×Bool)}
end
/- The engine, part WW: functions that take the address of an own block whose first cell is a value that is read (cursors); functions that return the address of a new block. -/
open Go.RowKit (Below)
section
variable {P:Program}{N:Nat}
theorem MeetsX.core {f:FuncId}{fn:Func}{c:Code}{args:List PV}{objs:List XO}{r:PV}{deep:Bool}{rs:Array ResultVar}(hf:P.funcs[f]?=some fn)(hb:fn.body=some c)(hN:fn.ntmps=N)(hrs:fn.results=rs)(hn:Nat.ble args.length N=true)
 (hx:xok objs=true) (hnil:∀ o∈objs,o.old=[]->o.new=[]) (hsc:∀ o∈objs,jO o.new=true)
 (w:World) (cargs:Array Value) (ok:Nat->Prop) (κ:Nat->Option (Option Nat)) (ha:XArgs w.heap ok κ args cargs.toList) (hob:∀ o∈objs,XOb w ok κ o) (hκ:∀ l o,κ l=some o->∃ x∈objs,x.l=l) (hinj:∀ l l' b,κ l=some (some b)->κ l'=some (some b)->l=l')
 (h:∀ Γ:Ctx P N,Γ.base=w.heap.size->Γ.w0=w->(∀ b,ok b->Γ.ok b)->(∀ b,¬Γ.mine b)->(∀ b,¬Γ.lent b)->(∀ l b,Γ.io l=some b->κ l=some (some b))->(∀ l,Nat.blt l 100000=true->Γ.io l=none)->CodeT Γ c ⟨iY args 0,aJx objs⟩ (aCV Γ rs r deep objs)) :
 Calls P f cargs w fun e w'=>∃ c B,e=.returned c/\Same w w'/\(∀ b,b<w.heap.size->(∀ l,κ l≠some (some b))->w'.heap[b]?=w.heap[b]?)/\(∀ o∈objs,aNb w w' κ o)/\
  RelV w'.heap dead r c B/\(∀ b∈B,ok b\/w.heap.size<=b)/\(deep=true->B.Nodup/\∀ b∈B,w.heap.size<=b/\gA w' b):=by
 classical
 obtain⟨h1,h2⟩:=ha.get
 obtain⟨hx1,hx2⟩:=aDn hx
 have hn:=aUZ hn
 let Γ:Ctx P N:={ base:=w.heap.size,ok:=ok,io:=fun l=>match κ l with | some (some b)=>some b | _=>none,w0:=w,mine:=fun _=>False,lent:=fun _=>False }
 have hio:∀ l b,Γ.io l=some b↔κ l=some (some b):=by
  intro l b
  show(match κ l with | some (some b)=>some b | _=>none)=some b↔_
  cases κ l with
  | none=>simp
  | some o=>cases o <;> simp
 have hsz:(cargs++Array.replicate (fn.ntmps-cargs.size) undef).size=N:=by
  have:cargs.size=args.length:=by rw[h1];simp
  simp[this,hN];omega
 have hblt:∀ l b,κ l=some (some b)->b<w.heap.size:=by
  intro l b e
  obtain⟨o,ho,rfl⟩:=hκ l _ e
  rcases hob o ho with⟨e',_⟩ | ⟨b',cs,t,e',_,g,_⟩
  · rw[e]at e';cases e'
  · rw[e]at e';cases e'
    rcases aVA b w.heap.size with h | h
    · exact h
    · simp[aVd h]at g
 refine calls_of_wp hf hb ?_
 let ow:Nat->Own:=fun b=>if hh:∃ l,κ l=some (some b)then .lab hh.choose else .none
 have how:∀ b l,κ l=some (some b)->ow b=.lab l:=by
  intro b l e
  have hh:∃ l,κ l=some (some b):=⟨l,e⟩
  show(if hh:_ then _ else _)=_
  rw[aWD hh,hinj _ _ b hh.choose_spec e]
 have how2:∀ b,ow b≠.none->∃ l,κ l=some (some b):=by
  intro b hb'
  rcases aWq (∃ l,κ l=some (some b))with hh | hh
  · exact hh
  · exfalso;apply hb'
    show(if hh:_ then _ else _)=_
    rw[aWE hh]
 have hsim:Sim Γ ⟨iY args 0,aJx objs⟩ { tmps:=cargs++Array.replicate (fn.ntmps-cargs.size) undef,defers:=[] } w:=by
  refine⟨ow,κ,{ size:=hsz,defers:=rfl,kept:=⟨rfl,rfl,rfl,aUI _,fun _ _ _ _=>rfl,fun b _ _ cs t h=>⟨cs,h,rfl⟩⟩,slots:=fun k=>?_,objs:=fun l ob hl=>?_,gone:=fun l hl=>?_,own:=fun b hb=>?_,ios:=fun l b hl _=>(hio l b).1 hl,fresh:=fun l b hl hi=>?_ }⟩
  · rw[pB]
    by_cases hk:k<args.length
    · rw[aUs ⟨aVk _,by simpa using hk⟩]
      obtain⟨B,g1,g2⟩:=h2 k hk
      have hB:∀ b∈B,∀ l,ow b≠.lab l:=by
       intro b hb l e
       obtain⟨l',e'⟩:=how2 b (by rw[e];simp)
       obtain⟨o,ho,rfl⟩:=hκ l' _ e'
       rcases hob o ho with⟨e2,_⟩ | ⟨b',cs,t,e2,hnok,_⟩
       · rw[e']at e2;cases e2
       · rw[e']at e2;cases e2;exact hnok (g2 b hb)
      refine⟨B,?_,fun b hb=>⟨aXA _ _ _ g1 b hb,.inl (g2 b hb),hB b hb⟩,by simp⟩
      have e:(cargs++Array.replicate (fn.ntmps-cargs.size) undef).getD k undef=cargs.toList.getD k undef:=by
       have hlt:k<cargs.size:=by rw[h1]at hk;simpa using hk
       simp[aUV,aVF,hlt,aUU]
      rw[e]
      simpa only[aWt]using g1
    · rw[aUq (by simpa using hk)]
      exact⟨[],by simp[RelV],by simp,by simp⟩
  · rcases aDo (os:=objs) (l:=l)with⟨g1,_⟩ | ⟨o,ho,rfl,g1⟩
    · simp only[g1]at hl;cases hl
    · simp only[g1]at hl;cases hl
      refine⟨[],by simp,by simp,?_⟩
      rcases hob o ho with⟨e1,e2⟩ | ⟨b,cs,t,e1,_,e3,e4⟩
      · exact .inl ⟨e1,e2,rfl⟩
      · exact .inr ⟨b,cs,t,e1,how b _ e1,e3,by simpa using e4⟩
  · cases hk:κ l with
    | none=>rfl
    | some o =>
     obtain⟨x,hx,rfl⟩:=hκ l o hk
     rcases aDo (os:=objs) (l:=x.l)with⟨_,g2⟩ | ⟨_,_,_,g1⟩
     · exact absurd rfl (g2 x hx)
     · simp only[g1]at hl;cases hl
  · obtain⟨l,e⟩:=how2 b hb
    exact⟨hblt l b e,.inr ⟨l,how b l e,(hio l b).2 e⟩⟩
  · rw[(hio l b).2 hl]at hi;cases hi
 have hioN:∀ l,Nat.blt l 100000=true->Γ.io l=none:=by
  intro l hl
  have hl:=(aR _ _).1 hl
  cases hi:Γ.io l with
  | none=>rfl
  | some b =>
   obtain⟨o,ho,rfl⟩:=hκ l _ ((hio l b).1 hi)
   have:=hx1 o ho;omega
 refine wp_mono (h Γ rfl rfl (fun _ h=>h) (fun _ h=>h) (fun _ h=>h) (fun l b e=>(hio l b).1 e) hioN _ _ hsim) fun e a' w' ⟨E',hs',hq⟩=>?_
 have fin:RetX Γ rs E' r deep objs->a'.defers=[]/\∃ v,(results fn a'.tmps).run P w'=.ok v w'/\∃ c B,Ending.returned v=.returned c/\Same w w'/\(∀ b,b<w.heap.size->(∀ l,κ l≠some (some b))->w'.heap[b]?=w.heap[b]?)/\(∀ o∈objs,aNb w w' κ o)/\
  RelV w'.heap dead r c B/\(∀ b∈B,ok b\/w.heap.size<=b)/\(deep=true->B.Nodup/\∀ b∈B,w.heap.size<=b/\gA w' b):=by
  rintro⟨hr,hr2⟩
  obtain⟨c,B,g1,g2,g3,g4⟩:=hr fn hrs a' w' hs'
  obtain⟨E2,⟨ow2,β2,hs2⟩,hr2⟩:=hr2 a' w' hs'
  refine⟨hs2.defers,c,g1,c,B,rfl,⟨hs2.kept.os,hs2.kept.output,hs2.kept.tape,hs2.kept.size⟩,fun b hb hn=>hs2.kept.old b hb (fun l e=>hn l ((hio l b).1 e)) (fun h=>h),fun o ho=>⟨fun e=>?_,fun b e cs t hc=>?_⟩,g2,fun b hb=>(g3 b hb).2.imp id (fun h=>(h.elim id False.elim:Γ.nww b).elim id False.elim),fun hd=>⟨(g4 hd).1,fun b hb=>⟨(((g4 hd).2 b hb).2.elim id False.elim:Γ.nww b).elim id False.elim,((g4 hd).2 b hb).1⟩⟩⟩
  · refine hnil o ho ?_
    rcases hob o ho with⟨_,e2⟩ | ⟨b,_,_,e2,_⟩
    · exact e2
    · rw[e]at e2;cases e2
  · obtain⟨dp,hl⟩:=hr2 o ho
    obtain⟨Bo,_,_,k3⟩:=hs2.objs o.l _ hl
    have hβ:=hs2.ios o.l b ((hio o.l b).2 e) (by rw[hl];rfl)
    rcases k3 with⟨k4,_⟩ | ⟨b',cs',t',k4,k5,k6,k7⟩
    · rw[hβ]at k4;cases k4
    · rw[hβ]at k4;cases k4
      obtain⟨cs2,q1,q2⟩:=hs2.kept.ios b (hblt _ _ e) (fun h=>h) cs t hc
      rw[k6]at q1;cases q1
      have:=mY (hsc o ho) k7
      subst this
      exact⟨cs',k6,q2,by simpa using k7⟩
 cases e with
 | normal=>exact fin hq
 | ret=>exact fin hq
 | exit id=>exact hq.elim
 | goto l=>exact hq.elim
 | panic ch=>exact hq.elim
 | outgrown=>exact hq.elim
def κ1 (b0:Nat):Nat->Option (Option Nat):=fun l=>if l=100000 then some (some b0)else none
def MeetsP (P:Program)(f:FuncId)(p:PV)(vb:Value)(args old new:List PV)(r:PV)(deep:Bool):Prop :=
 ∀ (w:World) (cargs:Array Value) (ok:Nat->Prop) (b0:Nat) (cs:Array Value) (t:TypeId),XArgs w.heap ok (κ1 b0) args cargs.toList->¬ok b0->w.heap[b0]?=some (.cells cs t (0,0))->RelL w.heap true dead (.sc vb::old) cs 0 []->(∃ B,RelV w.heap dead p vb B/\∀ b∈B,ok b)->
  Calls P f cargs w fun e w'=>∃ c B,e=.returned c/\Same w w'/\(∀ b,b<w.heap.size->b≠b0->w'.heap[b]?=w.heap[b]?)/\(∃ cs',w'.heap[b0]?=some (.cells cs' t (0,0))/\cs'.size=cs.size/\RelL w'.heap true dead (.sc vb::new) cs' 0 [])/\
   RelV w'.heap dead r c B/\(∀ b∈B,ok b\/w.heap.size<=b)/\(deep=true->B.Nodup/\∀ b∈B,w.heap.size<=b/\gA w' b)
theorem MeetsP.intro {f:FuncId}{fn:Func}{c:Code}{p:PV}{vb:Value}{args old new:List PV}{r:PV}{deep:Bool}{rs:Array ResultVar}(hf:P.funcs[f]?=some fn)(hb:fn.body=some c)(hN:fn.ntmps=N)(hrs:fn.results=rs)(hn:Nat.ble args.length N=true)(hp:p.labs=[])(hsc:jO new=true)
 (h:∀ Γ:Ctx P N,(∀ l,Nat.blt l 100000=true->Γ.io l=none)->aSK Γ vb p->CodeT Γ c ⟨iY args 0,[(100000,some ⟨.sc vb::old,true,false⟩)]⟩ (aCV Γ rs r deep [⟨100000,.sc vb::old,.sc vb::new⟩])):MeetsP P f p vb args old new r deep:=by
 intro w cargs ok b0 cs t ha hnok hb0 hrel ⟨Bp,hp1,hp2⟩
 have hκ:∀ l o,κ1 b0 l=some o->l=100000/\o=some b0:=by
  intro l o e
  unfold κ1 at e
  by_cases hl:l=100000
  · rw[aUs hl]at e;exact⟨hl,(Option.some.inj e).symm⟩
  · rw[aUq hl]at e;cases e
 refine(MeetsX.core (r:=r) (deep:=deep) hf hb hN hrs hn (objs:=[⟨100000,.sc vb::old,.sc vb::new⟩]) rfl (by simp) (by simpa [jO]using hsc) w cargs ok (κ1 b0) ha (fun o ho=>?_) (fun l o e=>?_) (fun l l' b e e'=>?_) (fun Γ h1 h2 h3 h4 h5 h6 h7=>?_)).mono fun e w' ⟨c,B,q1,q2,q3,q4,q5,q6,q7⟩=>?_
 · simp only[aU2]at ho;subst ho
   exact .inr ⟨b0,cs,t,by simp[κ1],hnok,hb0,hrel⟩
 · exact⟨⟨100000,.sc vb::old,.sc vb::new⟩,by simp,(hκ l o e).1.symm⟩
 · exact(hκ l _ e).1.trans (hκ l' _ e').1.symm
 · refine h Γ h7 ⟨hp,Bp,by rw[h2];exact hp1,fun b hb=>⟨h3 b (hp2 b hb),by rw[h1];exact aXA _ _ _ hp1 b hb,⟨h4 b,h5 b⟩,fun l e=>?_⟩⟩
   have:=(hκ l _ (h6 l b e)).2
   cases this
   exact hnok (hp2 _ hb)
 · refine⟨c,B,q1,q2,fun b hb hne=>q3 b hb (fun l e=>?_),?_,q5,q6,q7⟩
   · have:=(hκ l _ e).2
     cases this;exact hne rfl
   · exact(q4 ⟨100000,.sc vb::old,.sc vb::new⟩ (by simp)).2 b0 (by simp[κ1]) cs t hb0
end
section
variable {P:Program}{N:Nat}{Γ:Ctx P N}{S:List (Nat×Slot)}{O:List (Nat×Option Ob)}{ow:Nat->Own}{β:Nat->Option (Option Nat)}{F:Env}{a:Act}{w:World}
theorem SimG.objSet (h:SimG Γ ow β F a w){l b0:Nat}{ob0:Ob}{cs:Array Value}{t:TypeId}{cells:List PV}{B:List Nat}(ho:lo F.o l=some ob0)(hβ:β l=some (some b0))(hrow:w.heap[b0]?=some (.cells cs t (0,0)))(hrel:RelL w.heap true dead cells cs 0 B)(hB:∀ b∈B,Im Γ ow w b) :
 SimG Γ ow β (F.app ⟨[],[(l,some ⟨cells,false,false⟩)]⟩) a w:=by
 refine { size:=h.size,defers:=h.defers,kept:=h.kept,slots:=h.slots,objs:=fun m ob hm=>?_,gone:=fun m hm=>?_,own:=h.own,ios:=fun m b hm hs=>?_,fresh:=h.fresh }
 · simp only[Env.app,aUB,aUx,aT]at hm
   by_cases hml:l=m
   · subst hml
     rw[aUs rfl]at hm;cases hm
     exact⟨B,hB,(fun hd=>by cases hd),.inr ⟨b0,cs,t,hβ,h.lab_ne hβ,hrow,hrel⟩⟩
   · rw[aUq hml]at hm;exact h.objs m ob hm
 · simp only[Env.app,aUB,aUx,aT]at hm
   by_cases hml:l=m
   · rw[aUs hml]at hm;cases hm
   · rw[aUq hml]at hm;exact h.gone m hm
 · simp only[Env.app,aUB,aUx,aT]at hs
   by_cases hml:l=m
   · subst hml;exact h.ios l b hm (by rw[ho];rfl)
   · rw[aUq hml]at hs;exact h.ios m b hm hs
theorem Ent.wake1 (l:Nat){vb:Value}{p:PV}{rest:List PV}{dp:Bool}(ho:loq O l=some ⟨.sc vb::rest,dp,false⟩)(hsc:jO rest=true)(hf:aSK Γ vb p):Ent Γ ⟨S,O⟩ ⟨S,(l,some ⟨.was vb p::rest,false,false⟩)::O⟩:=by
 rintro a w ⟨ow,β,h⟩
 obtain⟨hl,B,hB1,hB2⟩:=hf
 have ho':lo (Env.mk S O).o l=some ⟨.sc vb::rest,dp,false⟩:=by rw[<- dA];exact ho
 obtain⟨Bo,o1,o2,o3⟩:=h.objs l _ ho'
 rcases o3 with⟨_,e,_⟩ | ⟨b,cs,t,e1,e2,e3,e4⟩
 · cases e
 · simp only[RelL,RelV,aUv,aUT]at e4
   obtain⟨c,O1,O2,g1,⟨g2,rfl⟩,g3,rfl⟩:=e4
   obtain rfl:=mY hsc g3
   refine⟨ow,β,h.objSet (b0:=b) (cells:=.was vb p::rest) (B:=B) ho' e1 e3 ?_ (fun x hx=>?_)⟩
   · simp only[RelL,RelV]
     refine⟨c,B,[],g1,⟨g2,?_⟩,g3,by simp⟩
     rw[g2]
     exact aXt _ _ _ (fun l _=>aXF _ _ l) (fun b hb=>by obtain⟨_,e2,e3,e4⟩:=hB2 b hb;exact h.kept.old b e2 e4 e3.1) hB1
   · obtain⟨e1,e2,e3,e4⟩:=hB2 x hx
     refine⟨aUN e2 h.kept.size,.inl e1,fun m e=>?_⟩
     rcases(h.own x (by rw[e];simp)).2 with g | ⟨m,_,g⟩
     · rcases g with(g | g) | g
       · omega
       · exact e3.1 g
       · exact e3.2 g
     · exact e4 m g
theorem Ent.sleep1 (l:Nat){vb:Value}{p:PV}{rest:List PV}{dp:Bool}(ho:loq O l=some ⟨.was vb p::rest,dp,false⟩)(hsc:jO rest=true):Ent Γ ⟨S,O⟩ ⟨S,(l,some ⟨.sc vb::rest,false,false⟩)::O⟩:=by
 rintro a w ⟨ow,β,h⟩
 have ho':lo (Env.mk S O).o l=some ⟨.was vb p::rest,dp,false⟩:=by rw[<- dA];exact ho
 obtain⟨Bo,o1,o2,o3⟩:=h.objs l _ ho'
 rcases o3 with⟨_,e,_⟩ | ⟨b,cs,t,e1,e2,e3,e4⟩
 · cases e
 · simp only[RelL,RelV,aUv,aUT]at e4
   obtain⟨c,O1,O2,g1,⟨g2,_⟩,g3,rfl⟩:=e4
   obtain rfl:=mY hsc g3
   refine⟨ow,β,h.objSet (b0:=b) (cells:=.sc vb::rest) (B:=[]) ho' e1 e3 ?_ (by simp)⟩
   simp only[RelL,RelV]
   exact⟨c,[],[],g1,⟨g2,rfl⟩,g3,rfl⟩
variable {d:Nat}{ty:TypeId}{pos:String}{af:Array Edge}{g:Option (Nat×Bool)}
theorem eF {f:FuncId}[hfc:FnC P f]{l:Nat}{p:PV}{vb:Value}{old new:List PV}{dp:Bool}{xs:List Operand}{tus:Array TypeId}{ps:List PV}{ls:List Nat}{r:PV}{deep:Bool}(ha:ArgsX S O [(100000,l)] xs ps ls)(ho:loq O l=some ⟨.was vb p::old,dp,false⟩)(hm:MeetsP P f p vb ps old new r deep)
 (hsc:jO old=true) (hsn:jO new=true) (hp:p.labs=[]) (hdis:zD ls l=false) (hc:(aNv ls||deep||flat r)=true) (hr:r.labs=[]) (hd:Nat.blt d N=true) :
 Local Γ ⟨some d,.call ⟨.value (.func f),xs.toArray,tus⟩,ty,pos,af,g⟩ ⟨S,O⟩ ⟨[(d,⟨r,deep⟩)],[(l,some ⟨.was vb p::new,false,false⟩)]⟩ (pD xs) (l::ls) []:=by
 classical
 intro F hs hl _ a w ⟨ow,β,hsim⟩ Q
 have hdN:=(aR _ _).1 hd
 have hol:lo F.o l=some ⟨.was vb p::old,dp,false⟩:=by rw[hl l (by simp),<- dA];exact ho
 obtain⟨Bo,o1,o2,o3⟩:=hsim.objs l _ hol
 rcases o3 with⟨_,e,_⟩ | ⟨b0,cs,t,e1,e2,e3,e4⟩
 · cases e
 simp only[RelL,RelV,aUv,aUT]at e4
 obtain⟨c0,O1,O2,k1,⟨rfl,k2⟩,k3,rfl⟩:=e4
 obtain rfl:=mY hsc k3
 have hrn:rn [(100000,l)] 100000=l:=by simp[rn]
 have hκ2:∀ m o,κ1 b0 m=some o->β (rn [(100000,l)] m)=some o:=by
  intro m o e
  unfold κ1 at e
  by_cases h:m=100000
  · rw[aUs h]at e;cases e;subst h;rw[hrn];exact e1
  · rw[aUq h]at e;cases e
 unfold Oper.wp
 have hrun:(execOp a.eval ⟨some d,.call ⟨.value (.func f),xs.toArray,tus⟩,ty,pos,af,g⟩).run P w=.ok (.enter f (xs.map a.eval).toArray) w:=by
  simp[execOp,resolve,Act.eval,Deferred.ofValue,invoke,hfc.run]
 rw[hrun]
 show Calls _ _ _ _ _
 have hargs:XArgs w.heap (fun b=>Im Γ ow w b\/∃ l∈ls,ow b=.lab l) (κ1 b0) ps (xs.map a.eval):=by
  clear hm hc hrun
  have key:∀ {xs:List Operand} {ps:List PV} {ls':List Nat},ArgsX S O [(100000,l)] xs ps ls'->(∀ k∈pD xs,lk F.s k=lk S k)->(∀ l∈ls',l∈ls)->XArgs w.heap (fun b=>Im Γ ow w b\/∃ l∈ls,ow b=.lab l) (κ1 b0) ps (xs.map a.eval):=by
   intro xs ps ls' hx
   induction hx with
   | nil=>intro _ _;trivial
   | @cons x p l' m xs ps h1 h2 ih =>
    intro hk hsub
    have hk1:∀ k∈ors x,lk F.s k=lk S k:=fun k hk'=>hk k (by cases x <;> simp[ors,pD]at hk' ⊢;exact .inl hk')
    have hk2:∀ k∈pD xs,lk F.s k=lk S k:=fun k hk'=>hk k (by cases x <;> simp[pD,hk'])
    refine⟨?_,ih hk2 (fun l' hl'=>hsub l' (by simp[hl']))⟩
    cases h1 with
    | val hv hlb =>
     obtain⟨B,g1,g2⟩:=ArgV.rel hsim hv hk1 (fun m hm'=>hl m (by simp only[aUr];right;exact hsub m (by simp[hm'])))
     exact⟨B,g1.nolab hlb,fun b hb=>(g2 b hb).imp id fun⟨m,hm',e⟩=>⟨m,hsub m (by simp[hm']),e⟩⟩
    | io hv =>
     obtain⟨B,g1,g2⟩:=cK hsim hv hk1
     exact⟨B,vA (fun l o e=>hκ2 l o e) p g1,fun b hb=>.inl (g2 b hb)⟩
  exact key ha hs (fun l h=>h)
 refine(hm w (xs.map a.eval).toArray (fun b=>Im Γ ow w b\/∃ l∈ls,ow b=.lab l) b0 cs t (by simpa using hargs) ?_ e3 ?_ ?_).mono fun e w' ⟨c,B,he,hsame,hoth,⟨cs',hn1,hn2,hn3⟩,h1,h2,h3⟩=>?_
 · rintro(h | ⟨m,hm',e⟩)
   · exact h.2.2 _ e2
   · rw[e2]at e;cases e
     rw[(lD _ _).2 hm']at hdis;cases hdis
 · simp only[RelL,RelV]
   exact⟨c0,[],[],k1,⟨rfl,rfl⟩,k3,rfl⟩
 · exact⟨O1,aXt _ _ _ (fun l _=>aXF _ _ l) (fun _ _=>rfl) k2,fun b hb=>.inl (o1 b (by simp[hb]))⟩
 · subst he
   show Sim Γ _ _ _
   have hImh:∀ b,Im Γ ow w b->w'.heap[b]?=w.heap[b]?:=fun b hb=>hoth b hb.1 (fun e=>hb.2.2 l (e▸e2))
   have hrew0:SimG Γ ow β (F.app ⟨[],[(l,some ⟨(.sc c0::new).map fun _=>.any,true,false⟩)]⟩) a w':=by
    refine hsim.rewriteMany hsame _ (fun b hb hn=>hoth b hb (fun e=>?_)) (fun m hm'=>?_)
    · subst e;exact hn l (by simp) e1
    · simp only[aUH,aVy,aU2]at hm'
      subst hm'
      exact⟨_,by rw[aT,aUs rfl],rfl,.inr ⟨b0,cs,cs',t,e1,e3,hn1,hn2,aF1 hn3⟩⟩
   have hB1:∀ b∈O1,Im Γ ow w' b:=fun b hb=>by
    obtain⟨q1,q2,q3⟩:=o1 b (by simp[hb])
    exact⟨aUN q1 hsame.size,q2,q3⟩
   have hrew1:=hrew0.objSet (l:=l) (ob0:=⟨(.sc c0::new).map fun _=>.any,true,false⟩) (b0:=b0) (cells:=.was c0 p::new) (B:=O1) (by simp[Env.app,aT]) e1 hn1 (by
    simp only[RelL,RelV]at hn3 ⊢
    obtain⟨c1,Q1,Q2,z1,⟨z2,rfl⟩,z3,z4⟩:=hn3
    obtain rfl:=mY hsn z3
    refine⟨c1,O1,[],z1,⟨z2,?_⟩,z3,by simp⟩
    rw[z2]
    exact aXt _ _ _ (fun l _=>aXF _ _ l) (fun b hb=>hImh b (o1 b (by simp[hb]))) k2) hB1
   have hrew:SimG Γ ow β (F.app ⟨[],[(l,some ⟨.was c0 p::new,false,false⟩)]⟩) a w':=SimG.congr (E:=(F.app ⟨[],[(l,some ⟨(.sc c0::new).map fun _=>.any,true,false⟩)]⟩).app ⟨[],[(l,some ⟨.was c0 p::new,false,false⟩)]⟩) (fun k=>rfl) (fun m=>by
    simp only[Env.app,aUB,aUx,aT]
    by_cases e:l=m <;> simp[e]) hrew1
   have hB:∀ b∈B,b<w'.heap.size:=aXA _ _ _ h1
   have hfresh:∀ b,w.heap.size<=b->b<w'.heap.size->Im Γ ow w' b:=fun b hb1 hb2=>⟨hb2,.inr (.inl (.inl (aUE hsim.kept.size hb1))),fun l e=>by have:=(hsim.own b (by rw[e];simp)).1;omega⟩
   have hkeepV:RelV w'.heap β r c B:=aXM hr h1
   have comb:∀ {ow2:Nat->Own} {a2:Act} {s:List (Nat×Slot)},SimG Γ ow2 β ((F.app ⟨[],[(l,some ⟨.was c0 p::new,false,false⟩)]⟩).app ⟨s,[]⟩) a2 w'->Sim Γ (F.app ⟨s,[(l,some ⟨.was c0 p::new,false,false⟩)]⟩) a2 w':=by
    intro ow2 a2 s h
    exact⟨ow2,β,h.congr (fun k=>rfl) (fun l=>rfl)⟩
   cases deep with
   | true =>
    obtain⟨n1,n2⟩:=h3 rfl
    exact comb (hrew.putDeep hdN hkeepV (fun b hb=>hfresh b (n2 b hb).1 (hB b hb)) n1 (fun b hb=>⟨(n2 b hb).2,.inl (.inl (aUE hsim.kept.size (n2 b hb).1))⟩)
     (fun b hb=>by
      cases hx:ow b with
      | none=>exact .inl rfl
      | _=>have:=(hsim.own b (by rw[hx];simp)).1;have:=(n2 b hb).1;omega))
   | false =>
    refine comb (hrew.put hdN hkeepV fun b hbB=>?_)
    simp only[aW3,aVg]at hc
    rcases hc with hc | hc
    · cases ls with
      | cons=>cases hc
      | nil =>
       rcases h2 b hbB with(h | ⟨l,hl',_⟩) | h
       · exact⟨aUN h.1 hsame.size,h.2⟩
       · cases hl'
       · exact hfresh b h (hB b hbB)
    · rw[aBX hc h1]at hbB;cases hbB
theorem aEd {f:FuncId}[hfc:FnC P f]{l:Nat}{p:PV}{old new:List PV}{dp:Bool}{xs:List Operand}{tus:Array TypeId}{ps:List PV}{ls:List Nat}{r:PV}{deep:Bool}(ha:ArgsX S O [(100000,l)] xs ps ls)(ho:loq O l=some ⟨p::old,dp,false⟩)(hm:∀ vb,MeetsP P f p vb ps old new r deep)
 (hsc:jO old=true) (hsn:jO new=true) (hp:p.labs=[]) (hdis:zD ls l=false) (hc:(aNv ls||deep||flat r)=true) (hr:r.labs=[]) (hd:Nat.blt d N=true) :
 Local Γ ⟨some d,.call ⟨.value (.func f),xs.toArray,tus⟩,ty,pos,af,g⟩ ⟨S,O⟩ ⟨[(d,⟨r,deep⟩)],[(l,some ⟨p::new,false,false⟩)]⟩ (pD xs) (l::ls) []:=by
 classical
 intro F hs hl _ a w ⟨ow,β,hsim⟩ Q
 have hdN:=(aR _ _).1 hd
 have hol:lo F.o l=some ⟨p::old,dp,false⟩:=by rw[hl l (by simp),<- dA];exact ho
 obtain⟨Bo,o1,o2,o3⟩:=hsim.objs l _ hol
 rcases o3 with⟨_,e,_⟩ | ⟨b0,cs,t,e1,e2,e3,e4⟩
 · cases e
 simp only[RelL,aUv,aUT]at e4
 obtain⟨c0,O1,O2,k1,k2,k3,rfl⟩:=e4
 obtain rfl:=mY hsc k3
 have hrn:rn [(100000,l)] 100000=l:=by simp[rn]
 have hκ2:∀ m o,κ1 b0 m=some o->β (rn [(100000,l)] m)=some o:=by
  intro m o e
  unfold κ1 at e
  by_cases h:m=100000
  · rw[aUs h]at e;cases e;subst h;rw[hrn];exact e1
  · rw[aUq h]at e;cases e
 unfold Oper.wp
 have hrun:(execOp a.eval ⟨some d,.call ⟨.value (.func f),xs.toArray,tus⟩,ty,pos,af,g⟩).run P w=.ok (.enter f (xs.map a.eval).toArray) w:=by
  simp[execOp,resolve,Act.eval,Deferred.ofValue,invoke,hfc.run]
 rw[hrun]
 show Calls _ _ _ _ _
 have hargs:XArgs w.heap (fun b=>Im Γ ow w b\/∃ l∈ls,ow b=.lab l) (κ1 b0) ps (xs.map a.eval):=by
  clear hm hc hrun
  have key:∀ {xs:List Operand} {ps:List PV} {ls':List Nat},ArgsX S O [(100000,l)] xs ps ls'->(∀ k∈pD xs,lk F.s k=lk S k)->(∀ l∈ls',l∈ls)->XArgs w.heap (fun b=>Im Γ ow w b\/∃ l∈ls,ow b=.lab l) (κ1 b0) ps (xs.map a.eval):=by
   intro xs ps ls' hx
   induction hx with
   | nil=>intro _ _;trivial
   | @cons x p l' m xs ps h1 h2 ih =>
    intro hk hsub
    have hk1:∀ k∈ors x,lk F.s k=lk S k:=fun k hk'=>hk k (by cases x <;> simp[ors,pD]at hk' ⊢;exact .inl hk')
    have hk2:∀ k∈pD xs,lk F.s k=lk S k:=fun k hk'=>hk k (by cases x <;> simp[pD,hk'])
    refine⟨?_,ih hk2 (fun l' hl'=>hsub l' (by simp[hl']))⟩
    cases h1 with
    | val hv hlb =>
     obtain⟨B,g1,g2⟩:=ArgV.rel hsim hv hk1 (fun m hm'=>hl m (by simp only[aUr];right;exact hsub m (by simp[hm'])))
     exact⟨B,g1.nolab hlb,fun b hb=>(g2 b hb).imp id fun⟨m,hm',e⟩=>⟨m,hsub m (by simp[hm']),e⟩⟩
    | io hv =>
     obtain⟨B,g1,g2⟩:=cK hsim hv hk1
     exact⟨B,vA (fun l o e=>hκ2 l o e) p g1,fun b hb=>.inl (g2 b hb)⟩
  exact key ha hs (fun l h=>h)
 refine(hm c0 w (xs.map a.eval).toArray (fun b=>Im Γ ow w b\/∃ l∈ls,ow b=.lab l) b0 cs t (by simpa using hargs) ?_ e3 ?_ ?_).mono fun e w' ⟨c,B,he,hsame,hoth,⟨cs',hn1,hn2,hn3⟩,h1,h2,h3⟩=>?_
 · rintro(h | ⟨m,hm',e⟩)
   · exact h.2.2 _ e2
   · rw[e2]at e;cases e
     rw[(lD _ _).2 hm']at hdis;cases hdis
 · simp only[RelL,RelV]
   exact⟨c0,[],[],k1,⟨rfl,rfl⟩,k3,rfl⟩
 · exact⟨O1,aXt _ _ _ (fun l _=>aXF _ _ l) (fun _ _=>rfl) k2,fun b hb=>.inl (o1 b (by simp[hb]))⟩
 · subst he
   show Sim Γ _ _ _
   have hImh:∀ b,Im Γ ow w b->w'.heap[b]?=w.heap[b]?:=fun b hb=>hoth b hb.1 (fun e=>hb.2.2 l (e▸e2))
   have hrew0:SimG Γ ow β (F.app ⟨[],[(l,some ⟨(.sc c0::new).map fun _=>.any,true,false⟩)]⟩) a w':=by
    refine hsim.rewriteMany hsame _ (fun b hb hn=>hoth b hb (fun e=>?_)) (fun m hm'=>?_)
    · subst e;exact hn l (by simp) e1
    · simp only[aUH,aVy,aU2]at hm'
      subst hm'
      exact⟨_,by rw[aT,aUs rfl],rfl,.inr ⟨b0,cs,cs',t,e1,e3,hn1,hn2,aF1 hn3⟩⟩
   have hB1:∀ b∈O1,Im Γ ow w' b:=fun b hb=>by
    obtain⟨q1,q2,q3⟩:=o1 b (by simp[hb])
    exact⟨aUN q1 hsame.size,q2,q3⟩
   have hrew1:=hrew0.objSet (l:=l) (ob0:=⟨(.sc c0::new).map fun _=>.any,true,false⟩) (b0:=b0) (cells:=p::new) (B:=O1) (by simp[Env.app,aT]) e1 hn1 (by
    simp only[RelL,RelV]at hn3 ⊢
    obtain⟨c1,Q1,Q2,z1,⟨z2,rfl⟩,z3,z4⟩:=hn3
    obtain rfl:=mY hsn z3
    refine⟨c1,O1,[],z1,?_,z3,by simp⟩
    rw[z2]
    exact aXt _ _ _ (fun l _=>aXF _ _ l) (fun b hb=>hImh b (o1 b (by simp[hb]))) k2) hB1
   have hrew:SimG Γ ow β (F.app ⟨[],[(l,some ⟨p::new,false,false⟩)]⟩) a w':=SimG.congr (E:=(F.app ⟨[],[(l,some ⟨(.sc c0::new).map fun _=>.any,true,false⟩)]⟩).app ⟨[],[(l,some ⟨p::new,false,false⟩)]⟩) (fun k=>rfl) (fun m=>by
    simp only[Env.app,aUB,aUx,aT]
    by_cases e:l=m <;> simp[e]) hrew1
   have hB:∀ b∈B,b<w'.heap.size:=aXA _ _ _ h1
   have hfresh:∀ b,w.heap.size<=b->b<w'.heap.size->Im Γ ow w' b:=fun b hb1 hb2=>⟨hb2,.inr (.inl (.inl (aUE hsim.kept.size hb1))),fun l e=>by have:=(hsim.own b (by rw[e];simp)).1;omega⟩
   have hkeepV:RelV w'.heap β r c B:=aXM hr h1
   have comb:∀ {ow2:Nat->Own} {a2:Act} {s:List (Nat×Slot)},SimG Γ ow2 β ((F.app ⟨[],[(l,some ⟨p::new,false,false⟩)]⟩).app ⟨s,[]⟩) a2 w'->Sim Γ (F.app ⟨s,[(l,some ⟨p::new,false,false⟩)]⟩) a2 w':=by
    intro ow2 a2 s h
    exact⟨ow2,β,h.congr (fun k=>rfl) (fun l=>rfl)⟩
   cases deep with
   | true =>
    obtain⟨n1,n2⟩:=h3 rfl
    exact comb (hrew.putDeep hdN hkeepV (fun b hb=>hfresh b (n2 b hb).1 (hB b hb)) n1 (fun b hb=>⟨(n2 b hb).2,.inl (.inl (aUE hsim.kept.size (n2 b hb).1))⟩)
     (fun b hb=>by
      cases hx:ow b with
      | none=>exact .inl rfl
      | _=>have:=(hsim.own b (by rw[hx];simp)).1;have:=(n2 b hb).1;omega))
   | false =>
    refine comb (hrew.put hdN hkeepV fun b hbB=>?_)
    simp only[aW3,aVg]at hc
    rcases hc with hc | hc
    · cases ls with
      | cons=>cases hc
      | nil =>
       rcases h2 b hbB with(h | ⟨l,hl',_⟩) | h
       · exact⟨aUN h.1 hsame.size,h.2⟩
       · cases hl'
       · exact hfresh b h (hB b hbB)
    · rw[aBX hc h1]at hbB;cases hbB
def MeetsQ (P:Program)(f:FuncId)(args cells:List PV):Prop :=
 ∀ (w:World) (cargs:Array Value) (ok:Nat->Prop),RelArgs w.heap ok args cargs.toList->
  Calls P f cargs w fun e w'=>∃ b cs t B,e=.returned (.pointer (some ⟨b,0,none⟩))/\Below w.heap.size w w'/\w.heap.size<=b/\w'.heap[b]?=some (.cells cs t (0,0))/\RelL w'.heap true dead cells cs 0 B/\(∀ x∈B,x<w'.heap.size/\x≠b/\(ok x\/w.heap.size<=x))
theorem aJw {f:FuncId}[hfc:FnC P f]{xs:List Operand}{us:Array TypeId}{ps cells:List PV}(ha:ArgsV S O xs ps [])(hm:MeetsQ P f ps cells)(hio:Γ.io d=none)(hd:Nat.blt d N=true) :
 Local Γ ⟨some d,.call ⟨.value (.func f),xs.toArray,us⟩,ty,pos,af,g⟩ ⟨S,O⟩ ⟨[(d,⟨.ptr d 0,false⟩)],[(d,some ⟨cells,false,false⟩)]⟩ (pD xs) [] [d]:=by
 intro F hs hl hnd a w ⟨ow,β,hsim⟩ Q
 have hdN:=(aR _ _).1 hd
 have hargs:=zA hsim ha hs hl
 unfold Oper.wp
 have hrun:(execOp a.eval ⟨some d,.call ⟨.value (.func f),xs.toArray,us⟩,ty,pos,af,g⟩).run P w=.ok (.enter f (xs.map a.eval).toArray) w:=by
  simp[execOp,resolve,Act.eval,Deferred.ofValue,invoke,hfc.run]
 rw[hrun]
 show Calls _ _ _ _ _
 refine(hm w (xs.map a.eval).toArray (fun b=>Im Γ ow w b\/∃ l∈([]:List Nat),ow b=.lab l) (by simpa using hargs)).mono fun e w' ⟨b,cs,t,B,he,hb,h1,h2,h3,h4⟩=>?_
 subst he
 show Sim Γ _ _ _
 obtain⟨ow',h'⟩:=hsim.growSh hb h2 h1 h3 (fun x hx=>by
  obtain⟨g1,g2,g3⟩:=h4 x hx
  refine⟨g1,g2,?_⟩
  rcases g3 with(g | ⟨l,hl,_⟩) | g
  · exact .inl g
  · cases hl
  · exact .inr g) (hnd d (by simp)) hio
 have h2:=h'.put (d:=d) (v:=.ptr d 0) (c:=.pointer (some ⟨b,0,none⟩)) (O:=[]) hdN (by
  simp only[RelV]
  exact⟨trivial,fun b' hb'=>by simp at hb';rw[hb']⟩) (by simp)
 exact⟨_,_,h2.congr (fun k=>rfl) (fun l=>rfl)⟩
def RetQ (Γ:Ctx P N)(rs:Array ResultVar)(E:Env)(cells:List PV):Prop :=
 ∀ fn:Func,fn.results=rs->∀ a w,Sim Γ E a w->∃ b cs t B,(results fn a.tmps).run P w=.ok (.pointer (some ⟨b,0,none⟩)) w/\Γ.nww b/\w.heap[b]?=some (.cells cs t (0,0))/\RelL w.heap true dead cells cs 0 B/\(∀ x∈B,x<w.heap.size/\x≠b/\(Γ.ok x\/Γ.nw x))
def aRB (Γ:Ctx P N)(rs:Array ResultVar)(cells:List PV):Exit->Env->Prop
 | .normal,E=>RetQ Γ rs E cells
 | .ret,E=>RetQ Γ rs E cells
 | _,_=>False
theorem aS7 {rs:Array ResultVar}{E:Env}{cells:List PV}(h:RetQ Γ rs E cells):aRB Γ rs cells .ret E:=h
theorem RetQ.weak {E E0:Env}{rs:Array ResultVar}{cells:List PV}(he:Ent Γ E E0)(h:RetQ Γ rs E0 cells):RetQ Γ rs E cells:=fun fn hf a w hs=>h fn hf a w (he a w hs)
theorem RetQ.mk {t l:Nat}{cells cells':List PV}{dp dp0:Bool}(h:lkq S t=some ⟨.ptr l 0,dp0⟩)(ho:loq O l=some ⟨cells,dp,false⟩)(hne:cells≠[])(hio:Γ.io l=none)(hs:SoftL cells cells'):RetQ Γ #[.tmp t] ⟨S,O⟩ cells':=by
 rintro fn hf a w ⟨ow,β,hsim⟩
 rw[zK hf]
 obtain⟨B,h1,_⟩:=hsim.slots t
 rw[gH h]at h1
 simp only[RelV]at h1
 obtain⟨Bo,o1,o2,hob⟩:=hsim.objs l ⟨cells,dp,false⟩ (by rw[<- dA];exact ho)
 rcases hob with⟨_,p2,_⟩ | ⟨b,cs,u,p1,p2,p3,p4⟩
 · exact absurd p2 hne
 · refine⟨b,cs,u,Bo,by simp[pC,h1.2 b p1],hsim.fresh l _ p1 hio,p3,hs.2 _ _ _ _ _ _ (by simpa using p4),fun x hx=>⟨(o1 x hx).1,fun e=>(o1 x hx).2.2 l (e▸p2),(o1 x hx).2.1⟩⟩
end
section
variable {P:Program}{N:Nat}
theorem MeetsQ.intro {f:FuncId}{fn:Func}{c:Code}{args cells:List PV}{rs:Array ResultVar}(hf:P.funcs[f]?=some fn)(hb:fn.body=some c)(hN:fn.ntmps=N)(hrs:fn.results=rs)(hn:Nat.ble args.length N=true)
 (h:∀ Γ:Ctx P N,(∀ l,Nat.blt l 100000=true->Γ.io l=none)->CodeT Γ c ⟨iY args 0,[]⟩ (aRB Γ rs cells)):MeetsQ P f args cells:=by
 intro w cargs ok ha
 obtain⟨h1,h2⟩:=ha.get
 have hn:=aUZ hn
 let Γ:Ctx P N:={ base:=w.heap.size,ok:=fun b=>ok b,io:=fun _=>none,w0:=w,mine:=fun _=>False,lent:=fun _=>False }
 have hsz:(cargs++Array.replicate (fn.ntmps-cargs.size) undef).size=N:=by
  have:cargs.size=args.length:=by rw[h1];simp
  simp[this,hN];omega
 refine calls_of_wp hf hb ?_
 have hsim:Sim Γ ⟨iY args 0,[]⟩ { tmps:=cargs++Array.replicate (fn.ntmps-cargs.size) undef,defers:=[] } w:=by
  refine⟨fun _=>.none,fun _=>none,{ size:=hsz,defers:=rfl,kept:=⟨rfl,rfl,rfl,aUI _,fun _ _ _ _=>rfl,fun b _ _ cs t h=>⟨cs,h,rfl⟩⟩,slots:=fun k=>?_,objs:=fun l ob hl=>(by simp[lo]at hl),gone:=fun _ _=>rfl,own:=fun b hb=>absurd rfl hb,ios:=fun l b hl=>(by cases hl),fresh:=fun l b hl=>(by cases hl) }⟩
  rw[pB]
  by_cases hk:k<args.length
  · rw[aUs ⟨aVk _,by simpa using hk⟩]
    obtain⟨B,g1,g2⟩:=h2 k hk
    refine⟨B,?_,fun b hb=>⟨aXA _ _ _ g1 b hb,.inl (g2 b hb),fun l=>by simp⟩,by simp⟩
    have e:(cargs++Array.replicate (fn.ntmps-cargs.size) undef).getD k undef=cargs.toList.getD k undef:=by
     have hlt:k<cargs.size:=by rw[h1]at hk;simpa using hk
     simp[aUV,aVF,hlt,aUU]
    rw[e]
    simp only[aWt]
    exact aXt _ _ _ (fun l _=>by intro ob h;cases h) (fun _ _=>rfl) g1
  · rw[aUq (by simpa using hk)]
    exact⟨[],by simp[RelV],by simp,by simp⟩
 refine wp_mono (h Γ (fun _ _=>rfl) _ _ hsim) fun e a' w' ⟨E',hs',hq⟩=>?_
 have fin:RetQ Γ rs E' cells->a'.defers=[]/\∃ v,(results fn a'.tmps).run P w'=.ok v w'/\∃ b cs t B,Ending.returned v=.returned (.pointer (some ⟨b,0,none⟩))/\Below w.heap.size w w'/\w.heap.size<=b/\w'.heap[b]?=some (.cells cs t (0,0))/\RelL w'.heap true dead cells cs 0 B/\(∀ x∈B,x<w'.heap.size/\x≠b/\(ok x\/w.heap.size<=x)):=by
  intro hr
  obtain⟨b,cs,t,B,g1,g2,g3,g4,g5⟩:=hr fn hrs a' w' hs'
  obtain⟨ow,β,hs'⟩:=hs'
  exact⟨hs'.defers,_,g1,b,cs,t,B,rfl,⟨hs'.kept.os,hs'.kept.tape,hs'.kept.output,hs'.kept.size,fun k hk=>hs'.kept.old k hk (fun l=>by simp[Γ]) (fun h=>h)⟩,g2.elim id False.elim,g3,g4,fun x hx=>⟨(g5 x hx).1,(g5 x hx).2.1,(g5 x hx).2.2.imp id (fun h=>(h.elim id False.elim:Γ.nww x).elim id False.elim)⟩⟩
 cases e with
 | normal=>exact fin hq
 | ret=>exact fin hq
 | exit id=>exact hq.elim
 | goto l=>exact hq.elim
 | panic ch=>exact hq.elim
 | outgrown=>exact hq.elim
end
def aXP:=@Ent.sleep1
def aXT:=@MeetsP.intro
end Go.Ev
