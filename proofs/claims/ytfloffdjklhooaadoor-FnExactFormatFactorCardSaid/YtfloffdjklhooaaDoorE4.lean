/- Parts EvSS, EvTT, EvUU, EvVV, EvWW, EvXX, EvYY. -/
import Derived.Test.YtfloffdjklhooaaDoorE3
set_option linter.all false
/- The engine, part SS: a row of the caller's own, lent to a function that only reads it: what the function returns does not speak of the row's own block. -/
namespace Go.Ev
open Go.RowKit (Below)
def ROk (w:World) (ok:Nat→Prop) (o:Option Nat) (old:List PV):Prop:=(o=none∧old=[])∨∃ b cs t B,o=some b∧¬ok b∧w.heap[b]?=some (.cells cs t (0,0))∧RelL w.heap true dead old cs 0 B∧∀ x ∈ B,ok x
def kE (l0:Nat) (o:Option Nat):Nat→Option (Option Nat):=fun l=>if l=l0 then some o else none
def MeetsR (P:Program) (f:FuncId) (args:List PV) (l0:Nat) (old:List PV) (r:PV):Prop :=
  ∀ (w:World) (cargs:Array Value) (ok:Nat→Prop) (o:Option Nat),XArgs w.heap ok (kE l0 o) args cargs.toList→ROk w ok o old →
    Calls P f cargs w fun e w'=>∃ c B,e=.returned c∧Same w w'∧(∀ b,b < w.heap.size→o≠some b→w'.heap[b]?=w.heap[b]?) ∧
      (∀ b,o=some b→∀ cs t,w.heap[b]?=some (.cells cs t (0,0))→∃ cs' B',w'.heap[b]?=some (.cells cs' t (0,0))∧cs'.size=cs.size∧RelL w'.heap true dead old cs' 0 B'∧∀ x ∈ B',x < w'.heap.size∧(ok x∨w.heap.size≤x)) ∧
      RelV w'.heap dead r c B∧(∀ b ∈ B,ok b∨w.heap.size≤b)
section
variable {P:Program} {N:Nat}
theorem MeetsR.intro {f:FuncId} {fn:Func} {c:Code} {args:List PV} {l0:Nat} {old:List PV} {r:PV} {rs:Array ResultVar} (hf:P.funcs[f]?=some fn) (hb:fn.body=some c) (hN:fn.ntmps=N) (hrs:fn.results=rs) (hn:Nat.ble args.length N=true) (hl0:Nat.ble 100000 l0=true)
    (h:∀ Γ:Ctx P N,(∀ l,Nat.blt l 100000=true→Γ.io l=none)→CodeT Γ c ⟨bH args 0,[(l0,some ⟨old,false,false⟩)]⟩ (iC Γ rs r false [⟨l0,old,old⟩])):MeetsR P f args l0 old r:=by
  intro w cargs ok o ha hob
  obtain ⟨h1,h2⟩:=ha.get
  have hn:=Nat.le_of_ble_eq_true hn
  have hl0:=Nat.le_of_ble_eq_true hl0
  let Γ:Ctx P N:={ base:=w.heap.size,ok:=ok,io:=fun l=>if l=l0 then o else none,w0:=w,mine:=fun _=>False,lent:=fun _=>False }
  have hio:∀ l b,Γ.io l=some b↔l=l0∧o=some b:=by
    intro l b
    show (if l=l0 then o else none)=some b↔_
    by_cases e:l=l0 <;> simp [e]
  have hsz:(cargs++Array.replicate (fn.ntmps - cargs.size) undef).size=N:=by
    have:cargs.size=args.length:=by rw [h1];simp
    simp [this,hN];omega
  have hblt:∀ b,o=some b→b < w.heap.size∧¬ok b:=by
    rintro b rfl
    rcases hob with ⟨e,_⟩ | ⟨b',cs,t,B,e,hk,g,_⟩
    · cases e
    · cases e
      rcases Nat.lt_or_ge b w.heap.size with h | h
      · exact ⟨h,hk⟩
      · simp [Array.getElem?_eq_none h] at g
  refine calls_of_wp hf hb ?_
  let ow:Nat→Own:=fun b=>if o=some b then .lab l0 else .none
  have how:∀ b l,ow b=.lab l→l=l0∧o=some b:=by
    intro b l e
    have e:(if o=some b then Own.lab l0 else .none)=.lab l:=e
    by_cases hh:o=some b
    · rw [if_pos hh] at e;cases e;exact ⟨rfl,hh⟩
    · rw [if_neg hh] at e;cases e
  have hsim:Sim Γ ⟨bH args 0,[(l0,some ⟨old,false,false⟩)]⟩ { tmps:=cargs++Array.replicate (fn.ntmps - cargs.size) undef,defers:=[] } w:=by
    refine ⟨ow,kE l0 o,{ size:=hsz,defers:=rfl,kept:=⟨rfl,rfl,rfl,Nat.le_refl _,fun _ _ _ _=>rfl,fun b _ _ cs t h=>⟨cs,h,rfl⟩⟩,slots:=fun k=>?_,objs:=fun l ob hl=>?_,gone:=fun l hl=>?_,own:=fun b hb=>?_,ios:=fun l b hl _=>?_,fresh:=fun l b hl hi=>?_ }⟩
    · rw [cI]
      by_cases hk:k < args.length
      · rw [if_pos ⟨Nat.zero_le _,by simpa using hk⟩]
        obtain ⟨B,g1,g2⟩:=h2 k hk
        refine ⟨B,?_,fun b hb=>⟨RelV.below _ _ _ g1 b hb,.inl (g2 b hb),fun l e=>(hblt b (how b l e).2).2 (g2 b hb)⟩,by simp⟩
        have e:(cargs++Array.replicate (fn.ntmps - cargs.size) undef).getD k undef=cargs.toList.getD k undef:=by
          have hlt:k < cargs.size:=by rw [h1] at hk;simpa using hk
          simp [Array.getD_eq_getD_getElem?,Array.getElem?_append,hlt,List.getD_eq_getElem?_getD]
        rw [e]
        simpa only [Nat.sub_zero] using g1
      · rw [if_neg (by simpa using hk)]
        exact ⟨[],by simp [RelV],by simp,by simp⟩
    · simp only [aV] at hl
      by_cases e:l0=l
      · subst e
        rw [if_pos rfl] at hl;cases hl
        rcases hob with ⟨rfl,e2⟩ | ⟨b,cs,t,B,rfl,hk,g1,g2,g3⟩
        · exact ⟨[],by simp,by simp,.inl ⟨by simp [kE],e2,rfl⟩⟩
        · refine ⟨B,fun x hx=>⟨RelL.below _ _ _ _ g2 x hx,.inl (g3 x hx),fun l e=>(hblt x (how x l e).2).2 (g3 x hx)⟩,fun hd=>(by cases hd),.inr ⟨b,cs,t,by simp [kE],?_,g1,g2⟩⟩
          show (if _ then _ else _)=_
          rw [if_pos rfl]
      · rw [if_neg e] at hl;simp [lo] at hl
    · simp only [aV] at hl
      by_cases e:l0=l
      · rw [if_pos e] at hl;cases hl
      · simp [kE,Ne.symm e]
    · have hb:(if o=some b then Own.lab l0 else .none)≠.none:=hb
      by_cases hh:o=some b
      · refine ⟨(hblt b hh).1,.inr ⟨l0,?_,(hio l0 b).2 ⟨rfl,hh⟩⟩⟩
        show (if _ then _ else _)=_
        rw [if_pos hh]
      · rw [if_neg hh] at hb;exact absurd rfl hb
    · obtain ⟨rfl,rfl⟩:=(hio l b).1 hl
      simp [kE]
    · have hl:(if l=l0 then some o else none)=some (some b):=hl
      by_cases e:l=l0
      · rw [if_pos e] at hl
        rw [(hio l b).2 ⟨e,Option.some.inj hl⟩] at hi;cases hi
      · rw [if_neg e] at hl;cases hl
  have hioN:∀ l,Nat.blt l 100000=true→Γ.io l=none:=by
    intro l hl
    have hl:=(aH _ _).1 hl
    show (if l=l0 then o else none)=none
    rw [if_neg (by omega)]
  refine wp_mono (h Γ hioN _ _ hsim) fun e a' w' ⟨E',hs',hq⟩=>?_
  have fin:RetX Γ rs E' r false [⟨l0,old,old⟩]→a'.defers=[]∧∃ v,(results fn a'.tmps).run P w'=.ok v w'∧∃ c B,Ending.returned v=.returned c∧Same w w'∧(∀ b,b < w.heap.size→o≠some b→w'.heap[b]?=w.heap[b]?) ∧
      (∀ b,o=some b→∀ cs t,w.heap[b]?=some (.cells cs t (0,0))→∃ cs' B',w'.heap[b]?=some (.cells cs' t (0,0))∧cs'.size=cs.size∧RelL w'.heap true dead old cs' 0 B'∧∀ x ∈ B',x < w'.heap.size∧(ok x∨w.heap.size≤x)) ∧
      RelV w'.heap dead r c B∧(∀ b ∈ B,ok b∨w.heap.size≤b):=by
    rintro ⟨hr,hr2⟩
    obtain ⟨c,B,g1,g2,g3,g4⟩:=hr fn hrs a' w' hs'
    obtain ⟨E2,⟨ow2,β2,hs2⟩,hr2⟩:=hr2 a' w' hs'
    refine ⟨hs2.defers,c,g1,c,B,rfl,⟨hs2.kept.os,hs2.kept.output,hs2.kept.tape,hs2.kept.size⟩,fun b hb hn=>hs2.kept.old b hb (fun l e=>hn ((hio l b).1 e).2) (fun h=>h),fun b e cs t hc=>?_,g2,fun b hb=>(g3 b hb).2.imp id (fun h=>(h.elim id False.elim:Γ.nww b).elim id False.elim)⟩
    obtain ⟨dp,hl⟩:=hr2 ⟨l0,old,old⟩ (by simp)
    obtain ⟨Bo,k1,_,k3⟩:=hs2.objs l0 _ hl
    have hβ:=hs2.ios l0 b ((hio l0 b).2 ⟨rfl,e⟩) (by simp only at hl;rw [hl];rfl)
    rcases k3 with ⟨k4,_⟩ | ⟨b',cs',t',k4,k5,k6,k7⟩
    · rw [hβ] at k4;cases k4
    · rw [hβ] at k4;cases k4
      obtain ⟨cs2,q1,q2⟩:=hs2.kept.ios b (hblt b e).1 (fun h=>h) cs t hc
      rw [k6] at q1;cases q1
      exact ⟨cs',Bo,k6,q2,by simpa using k7,fun x hx=>⟨(k1 x hx).1,(k1 x hx).2.1.imp id (fun h=>(h.elim id False.elim:Γ.nww x).elim id False.elim)⟩⟩
  cases e with
  | normal=>exact fin hq
  | ret=>exact fin hq
  | exit id=>exact hq.elim
  | goto l=>exact hq.elim
  | panic ch=>exact hq.elim
  | outgrown=>exact hq.elim
variable {Γ:Ctx P N} {S:List (Nat × Slot)} {O:List (Nat × Option Ob)} {ow:Nat→Own} {β:Nat→Option (Option Nat)} {F:Env} {a:Act} {w:World}
variable {d:Nat} {ty:TypeId} {pos:String} {af:Array Edge} {g:Option (Nat × Bool)}
end
end Go.Ev
/- The engine, part TT: short forms of tests, loops, calls and ends. -/
namespace Go.Ev
set_option linter.all false
section
variable {P:Program} {N:Nat} {Γ:Ctx P N} {E:Env} {Q Q' Q9:Exit→Env→Prop} {S:List (Nat × Slot)} {O:List (Nat × Option Ob)}
variable {α β σ ρ ε:Type} {x y:Code} {t:Nat} {dp deep:Bool}
theorem cT {c:Prop} {_hc:Decidable c} {a b:Option β} {r:β} (H:(if c then a else b)=some r) (h1:c→a=some r→CodeT Γ x E Q) (h2:¬c→b=some r→CodeT Γ y E Q) (hk:lk E.s t=⟨.sc (.bool (decide c)),dp⟩:=by rfl):CodeT Γ (.cond (.tmp t) x y) E Q :=
  .cond hk (fun h=>h1 (of_decide_eq_true h) (ifT (of_decide_eq_true h) H)) (fun h=>h2 (of_decide_eq_false h) (ifF (of_decide_eq_false h) H))
theorem cB {c:Bool} {a b:Option β} {r:β} (H:(if c=true then a else b)=some r) (h1:c=true→a=some r→CodeT Γ x E Q) (h2:c=false→b=some r→CodeT Γ y E Q) (hk:lk E.s t=⟨.sc (.bool c),dp⟩:=by rfl):CodeT Γ (.cond (.tmp t) x y) E Q :=
  .cond hk (fun h=>h1 h (pS h H)) (fun h=>h2 h (pT h H))
theorem cN {c:Bool} {a b:Option β} {r:β} (H:(if c=true then a else b)=some r) (h1:(!c)=true→b=some r→CodeT Γ x E Q) (h2:(!c)=false→a=some r→CodeT Γ y E Q) (hk:lk E.s t=⟨.sc (.bool (!c)),dp⟩:=by rfl):CodeT Γ (.cond (.tmp t) x y) E Q :=
  .cond hk (fun h=>h1 h (pT (rL h) H)) (fun h=>h2 h (pS (rM h) H))
section
variable {ops rest:List Oper} {K:List Item→Env→Prop} {acc:List Item} {o:Oper} {rs ro gs:List Nat} {d:Nat}
theorem dT {c:Prop} {_hc:Decidable c} {a b:Option β} {r:β} (H:(if c then a else b)=some r)
    (ht:c→a=some r→Run Γ ops K rest (⟨⟨[(d,⟨.sc (.bool true),false⟩)],[]⟩,gs++rs,ro,[]⟩::acc) ⟨(d,⟨.sc (.bool true),false⟩)::S,O⟩)
    (hf:¬c→b=some r→Run Γ ops K rest (⟨⟨[(d,⟨.sc (.bool false),false⟩)],[]⟩,gs++rs,ro,[]⟩::acc) ⟨(d,⟨.sc (.bool false),false⟩)::S,O⟩)
    (hl:Local Γ o ⟨S,O⟩ ⟨[(d,⟨.sc (.bool (decide c)),false⟩)],[]⟩ rs ro []:=by first | exact iE rfl rfl rfl | exact kL rfl rfl rfl | exact cU rfl rfl rfl | exact jN rfl rfl rfl | exact pO rfl rfl rfl | exact oQ rfl rfl rfl) (hg:gd N ops S true o.guard=some gs:=by rfl):Run Γ ops K (o::rest) acc ⟨S,O⟩ :=
  oM hl hg (fun h=>ht h (ifT h H)) (fun h=>hf h (ifF h H))
theorem dB {c:Bool} {a b:Option β} {r:β} (H:(if c=true then a else b)=some r)
    (ht:c=true→a=some r→Run Γ ops K rest (⟨⟨[(d,⟨.sc (.bool true),dp⟩)],[]⟩,gs++rs,ro,[]⟩::acc) ⟨(d,⟨.sc (.bool true),dp⟩)::S,O⟩)
    (hf:c=false→b=some r→Run Γ ops K rest (⟨⟨[(d,⟨.sc (.bool false),dp⟩)],[]⟩,gs++rs,ro,[]⟩::acc) ⟨(d,⟨.sc (.bool false),dp⟩)::S,O⟩)
    (hl:Local Γ o ⟨S,O⟩ ⟨[(d,⟨.sc (.bool c),dp⟩)],[]⟩ rs ro []:=by first | exact aA rfl rfl | exact aB rfl rfl | exact aG rfl rfl rfl (.inl rfl) rfl | exact aG rfl rfl rfl (.inr rfl) rfl | exact qH rfl rfl rfl | exact pN rfl rfl rfl rfl) (hg:gd N ops S true o.guard=some gs:=by rfl):Run Γ ops K (o::rest) acc ⟨S,O⟩ :=
  oN hl hg (fun h=>ht h (pS h H)) (fun h=>hf h (pT h H))
theorem dC {x:Option Bool} {a b:Bool→Option β} {r:β} {f:FuncId} [hfc:FnC P f] {xs:List Operand} {us:Array TypeId} {ps:List PV} {ls:List Nat} {ty:TypeId} {pos:String} {af:Array Edge} {g:Option (Nat × Bool)} (H:x.bind (fun v=>if v=true then a v else b v)=some r) (hm:∀ v,x=some v→Meets P f ps (.sc (.bool v)) deep)
    (ht:a true=some r→Run Γ ops K rest (⟨⟨[(d,⟨.sc (.bool true),deep⟩)],[]⟩,gs++iW xs,ls,[]⟩::acc) ⟨(d,⟨.sc (.bool true),deep⟩)::S,O⟩)
    (hf:b false=some r→Run Γ ops K rest (⟨⟨[(d,⟨.sc (.bool false),deep⟩)],[]⟩,gs++iW xs,ls,[]⟩::acc) ⟨(d,⟨.sc (.bool false),deep⟩)::S,O⟩)
    (ha:ArgsV S O xs ps ls:=by first | exact av (av .nil) | exact av (ar .nil) | exact ar (av .nil) | exact ar (ar .nil) | exact av .nil | exact ar .nil | exact av (av (av .nil)) | exact av (av (ar .nil)) | exact av (ar (av .nil)) | exact av (ar (ar .nil)) | exact ar (av (av .nil)) | exact ar (av (ar .nil)) | exact ar (ar (av .nil)) | exact ar (ar (ar .nil)) | exact av (av (av (av .nil))) | exact av (av (av (ar .nil))) | exact av (av (ar (av .nil))) | exact av (ar (av (av .nil))) | exact ar (av (av (av .nil)))) (hd:Nat.blt d N=true:=by rfl) (hg:gd N ops S true g=some gs:=by rfl):Run Γ ops K (⟨some d,.call ⟨.value (.func f),xs.toArray,us⟩,ty,pos,af,g⟩::rest) acc ⟨S,O⟩:=by
  obtain ⟨v,hv,H⟩:=aC H
  refine oN (bI ha (hm v hv) (by simp [oJ]) rfl hd) hg (fun h=>?_) (fun h=>?_) <;> subst h
  · exact ht H
  · exact hf H
end
theorem ll {step:σ→Option (σ ⊕ ρ)} {s0:σ} {K:ρ→Option β} {r:β} {c:Code} (H:(lp step s0).bind K=some r) (Es:σ→Env) (Xe:ρ→Exit→Env→Prop) (he:Ent Γ E (Es s0))
    (hr:∀ s o,step s=some o→CodeT Γ c (Es s) (dS Γ Es Xe o)) (hq:∀ d,K d=some r→∀ e E',Xe d e E'→Q e E'):CodeT Γ (.loop c) E Q:=by
  obtain ⟨d,hd,H⟩:=aC H
  exact .lloop Es Xe hd he hr (fun e E' h=>hq d H e E' h)
theorem l1 {step:σ→Option (σ ⊕ ρ)} {s0:σ} {K:ρ→Option β} {r:β} {c y:Code} {i:Nat} (H:(lp step s0).bind K=some r) (Es:σ→Env) (E2:ρ→Env) (he:Ent Γ E (Es s0))
    (hr:∀ s o,step s=some o→CodeT Γ c (Es s) (dS Γ Es (fun d e E=>XEnv Γ (.exit i) (E2 d) e E) o)) (hq:∀ d,K d=some r→CodeT Γ y (E2 d) Q'):CodeT Γ (.loop c) E (cP i (dK (fun E'=>CodeT Γ y E' Q') Q9)) :=
  ll H Es _ he hr (fun d H e E' h=>by obtain ⟨rfl,g⟩:=XEnv.out h;exact x6 (Nat.beq_refl i) (x3 (.weak g (hq d H))))
theorem l2 {step:σ→Option (σ ⊕ (ρ ⊕ ε))} {s0:σ} {K:ρ ⊕ ε→Option β} {r:β} {c y:Code} {i:Nat} (rs:Array ResultVar) (dp:Bool) (H:(lp step s0).bind K=some r) (Es:σ→Env) (E2:ρ→Env) (R2:ε→PV) (he:Ent Γ E (Es s0))
    (hr:∀ s o,step s=some o→CodeT Γ c (Es s) (dS Γ Es (fun x e E=>match x with | .inl d=>XEnv Γ (.exit i) (E2 d) e E | .inr d=>XRet Γ rs (R2 d) dp e E) o)) (hq:∀ d,K (.inl d)=some r→CodeT Γ y (E2 d) Q') (hq2:∀ d,K (.inr d)=some r→∀ E',RetIs Γ rs E' (R2 d) dp→Q9 .ret E'):CodeT Γ (.loop c) E (cP i (dK (fun E'=>CodeT Γ y E' Q') Q9)) :=
  ll H Es _ he hr (fun d H e E' h=>by
    cases d with
    | inl d=>obtain ⟨rfl,g⟩:=XEnv.out h;exact x6 (Nat.beq_refl i) (x3 (.weak g (hq d H)))
    | inr d=>obtain ⟨rfl,g⟩:=XRet.out h;exact x4 (x1 (hq2 d H E' g)))
theorem lc {x:Option ρ} {K:ρ→Option β} {r:β} {c y:Code} (H:x.bind K=some r) (E2:ρ→Env) (hc:∀ d,x=some d→CodeT Γ c E (mS (fun d e E=>XEnv Γ .normal (E2 d) e E) d)) (hq:∀ d,K d=some r→CodeT Γ y (E2 d) Q'):CodeT Γ c E (dK (fun E'=>CodeT Γ y E' Q') Q9):=by
  obtain ⟨d,hd,H⟩:=aC H
  exact .lcut _ (hc d hd) (fun e E' h=>by obtain ⟨rfl,g⟩:=XEnv.out h;exact x3 (.weak g (hq d H)))
theorem rl (k n':Nat) {c:Code} {l s off n:Nat} {dp:Bool} (h:CodeT Γ c ⟨(k,⟨.ref l s off n',dp⟩)::S,O⟩ Q) (hk:lkq S k=some ⟨.ref l s off n,dp⟩:=by rfl) (hn:n=n':=by first | (simp only [lE];done) | (simp only [lE];omega) | omega):CodeT Γ c ⟨S,O⟩ Q:=.weak (Ent.relen hk hn) h
theorem mi (N:Nat) (rs:Array ResultVar) {fn:Func} {f:FuncId} {c:Code} {args:List PV} {r:PV} (hf:P.funcs[f]?=some fn)
    (h:∀ Γ:Ctx P N,(∀ l,Nat.blt l 100000=true→Γ.io l=none)→CodeT Γ c ⟨bH args 0,[]⟩ (gM Γ rs r deep)) (hb:fn.body=some c:=by rfl) (hN:fn.ntmps=N:=by rfl) (hrs:fn.results=rs:=by rfl) (hn:Nat.ble args.length N=true:=by rfl):Meets P f args r deep :=
  .intro2 hf hb hN hrs hn h
end
section
variable {P:Program} {N:Nat} {Γ:Ctx P N} {E:Env} {S S':List (Nat × Slot)} {O O':List (Nat × Option Ob)} {rs:Array ResultVar} {r:PV} {deep:Bool}
theorem le (ρ:List (Nat × Nat)) (hio:∀ l,Nat.blt l 100000=true→Γ.io l=none:=by assumption) (hρ:oL ρ=true:=by rfl) (hi:mK ρ (eG O')=true:=by rfl) (h1:jU S S'=jT ρ S':=by rfl) (h2:kJ S S'=true:=by rfl) (h3:iA ρ O O'=hZ ρ O':=by rfl) (h4:iD ρ O O'=true:=by rfl):Ent Γ ⟨S,O⟩ ⟨S',O'⟩ :=
  el ρ (io0 hio ρ hρ) hi h1 h2 h3 h4
theorem leq {ρ:List (Nat × Nat)} (_hq:ρ=ρ) (hio:∀ l,Nat.blt l 100000=true→Γ.io l=none:=by assumption) (hρ:oL ρ=true:=by rfl) (hi:mK ρ (eG O')=true:=by rfl) (h1:jU S S'=jT ρ S':=by rfl) (h2:kJ S S'=true:=by rfl) (h3:iA ρ O O'=hZ ρ O':=by rfl) (h4:iD ρ O O'=true:=by rfl):Ent Γ ⟨S,O⟩ ⟨S',O'⟩:=el ρ (io0 hio ρ hρ) hi h1 h2 h3 h4
theorem rr1 {rv:ResultVar} {p:PV} {o:ResO} (h:Res1 Γ ⟨S,O⟩ rv p o:=by first | exact Res1.sc rfl | exact Res1.cell rfl rfl rfl (by intro h;cases h) | exact Res1.refW rfl rfl (io1 (by assumption) _) | exact Res1.ref rfl rfl (io1 (by assumption) _) | exact Res1.nilW rfl | exact Res1.nil rfl | exact Res1.deep rfl rfl | exact Res1.val rfl rfl):Res1 Γ ⟨S,O⟩ rv p o:=h
theorem rt (h:RetIs Γ rs E r deep:=by first | exact RetIs.sc1 rfl | exact RetIs.c1 rfl rfl rfl rfl (by intro h;cases h) | exact RetIs.rW rfl rfl rfl (io1 (by assumption) _) | exact RetIs.one (Res1.deep rfl rfl) (fun _ h=>by cases h) | exact RetIs.one (Res1.val rfl rfl) (fun h=>by cases h) | exact RetIs.one (Res1.nilW rfl) (fun _ h=>by cases h) | exact RetIs.one (Res1.nil rfl) (fun _ h=>by cases h) | exact RetIs.r1 rfl rfl rfl (io1 (by assumption) _) | assumption | exact RetIs.many (.inl rfl) (.cons rr1 (.cons rr1 .nil)) (fun h=>by first | rfl | cases h) | exact RetIs.many (.inr (.inl rfl)) (.cons rr1 (.cons rr1 (.cons rr1 .nil))) (fun h=>by first | rfl | cases h) | exact RetIs.many (.inr (.inr rfl)) (.cons rr1 (.cons rr1 (.cons rr1 (.cons rr1 .nil)))) (fun h=>by first | rfl | cases h)):RetIs Γ rs E r deep:=h
end
abbrev vI (n:Int):Slot:=⟨.sc (.int .i64 n),false⟩
abbrev vB (b:Bool):Slot:=⟨.sc (.bool b),false⟩
abbrev vP (k n:Nat):Slot:=⟨.ptr k n,false⟩
abbrev vO (c:List PV) (a b:Bool):Option Ob:=some ⟨c,a,b⟩
end Go.Ev
/- The engine, part UU: a call whose results are rows beside own values. -/
namespace Go.Ev
open Go.RowKit (Below)
set_option linter.all false
section
variable {P:Program} {N:Nat} {Γ:Ctx P N} {S:List (Nat × Slot)} {O:List (Nat × Option Ob)} {ow:Nat→Own} {β:Nat→Option (Option Nat)} {F:Env} {a:Act} {w:World}
variable {d:Nat} {ty:TypeId} {pos:String} {af:Array Edge} {g:Option (Nat × Bool)}
end
end Go.Ev
/- The engine, part VV: a store that fills a whole object makes it one's own. -/
namespace Go.Ev
open Go.RowKit (Below)
set_option linter.all false
section
variable {P:Program} {N:Nat} {Γ:Ctx P N} {S:List (Nat × Slot)} {O:List (Nat × Option Ob)} {ow:Nat→Own} {β:Nat→Option (Option Nat)} {F:Env} {a:Act} {w:World}
variable {d:Nat} {ty:TypeId} {pos:String} {af:Array Edge} {g:Option (Nat × Bool)}
end
end Go.Ev
/- The engine, part WW: functions that take the address of an own block whose first cell is a value that is read (cursors); functions that return the address of a new block. -/
namespace Go.Ev
open Go.RowKit (Below)
set_option linter.all false
section
variable {P:Program} {N:Nat}
theorem MeetsX.core {f:FuncId} {fn:Func} {c:Code} {args:List PV} {objs:List XO} {r:PV} {deep:Bool} {rs:Array ResultVar} (hf:P.funcs[f]?=some fn) (hb:fn.body=some c) (hN:fn.ntmps=N) (hrs:fn.results=rs) (hn:Nat.ble args.length N=true)
    (hx:xok objs=true) (hnil:∀ o ∈ objs,o.old=[]→o.new=[]) (hsc:∀ o ∈ objs,dF o.new=true)
    (w:World) (cargs:Array Value) (ok:Nat→Prop) (κ:Nat→Option (Option Nat)) (ha:XArgs w.heap ok κ args cargs.toList) (hob:∀ o ∈ objs,XOb w ok κ o) (hκ:∀ l o,κ l=some o→∃ x ∈ objs,x.l=l) (hinj:∀ l l' b,κ l=some (some b)→κ l'=some (some b)→l=l')
    (h:∀ Γ:Ctx P N,Γ.base=w.heap.size→Γ.w0=w→(∀ b,ok b→Γ.ok b)→(∀ b,¬Γ.mine b)→(∀ b,¬Γ.lent b)→(∀ l b,Γ.io l=some b→κ l=some (some b))→(∀ l,Nat.blt l 100000=true→Γ.io l=none)→CodeT Γ c ⟨bH args 0,lA objs⟩ (iC Γ rs r deep objs)) :
    Calls P f cargs w fun e w'=>∃ c B,e=.returned c∧Same w w'∧(∀ b,b < w.heap.size→(∀ l,κ l≠some (some b))→w'.heap[b]?=w.heap[b]?)∧(∀ o ∈ objs,nF w w' κ o) ∧
      RelV w'.heap dead r c B∧(∀ b ∈ B,ok b∨w.heap.size≤b)∧(deep=true→B.Nodup∧∀ b ∈ B,w.heap.size≤b∧cJ w' b):=by
  classical
  obtain ⟨h1,h2⟩:=ha.get
  obtain ⟨hx1,hx2⟩:=iL hx
  have hn:=Nat.le_of_ble_eq_true hn
  let Γ:Ctx P N:={ base:=w.heap.size,ok:=ok,io:=fun l=>match κ l with | some (some b)=>some b | _=>none,w0:=w,mine:=fun _=>False,lent:=fun _=>False }
  have hio:∀ l b,Γ.io l=some b↔κ l=some (some b):=by
    intro l b
    show (match κ l with | some (some b)=>some b | _=>none)=some b↔_
    cases κ l with
    | none=>simp
    | some o=>cases o <;> simp
  have hsz:(cargs++Array.replicate (fn.ntmps - cargs.size) undef).size=N:=by
    have:cargs.size=args.length:=by rw [h1];simp
    simp [this,hN];omega
  have hblt:∀ l b,κ l=some (some b)→b < w.heap.size:=by
    intro l b e
    obtain ⟨o,ho,rfl⟩:=hκ l _ e
    rcases hob o ho with ⟨e',_⟩ | ⟨b',cs,t,e',_,g,_⟩
    · rw [e] at e';cases e'
    · rw [e] at e';cases e'
      rcases Nat.lt_or_ge b w.heap.size with h | h
      · exact h
      · simp [Array.getElem?_eq_none h] at g
  refine calls_of_wp hf hb ?_
  let ow:Nat→Own:=fun b=>if hh:∃ l,κ l=some (some b) then .lab hh.choose else .none
  have how:∀ b l,κ l=some (some b)→ow b=.lab l:=by
    intro b l e
    have hh:∃ l,κ l=some (some b):=⟨l,e⟩
    show (if hh:_ then _ else _)=_
    rw [dif_pos hh,hinj _ _ b hh.choose_spec e]
  have how2:∀ b,ow b≠.none→∃ l,κ l=some (some b):=by
    intro b hb'
    rcases Classical.em (∃ l,κ l=some (some b)) with hh | hh
    · exact hh
    · exfalso;apply hb'
      show (if hh:_ then _ else _)=_
      rw [dif_neg hh]
  have hsim:Sim Γ ⟨bH args 0,lA objs⟩ { tmps:=cargs++Array.replicate (fn.ntmps - cargs.size) undef,defers:=[] } w:=by
    refine ⟨ow,κ,{ size:=hsz,defers:=rfl,kept:=⟨rfl,rfl,rfl,Nat.le_refl _,fun _ _ _ _=>rfl,fun b _ _ cs t h=>⟨cs,h,rfl⟩⟩,slots:=fun k=>?_,objs:=fun l ob hl=>?_,gone:=fun l hl=>?_,own:=fun b hb=>?_,ios:=fun l b hl _=>(hio l b).1 hl,fresh:=fun l b hl hi=>?_ }⟩
    · rw [cI]
      by_cases hk:k < args.length
      · rw [if_pos ⟨Nat.zero_le _,by simpa using hk⟩]
        obtain ⟨B,g1,g2⟩:=h2 k hk
        have hB:∀ b ∈ B,∀ l,ow b≠.lab l:=by
          intro b hb l e
          obtain ⟨l',e'⟩:=how2 b (by rw [e];simp)
          obtain ⟨o,ho,rfl⟩:=hκ l' _ e'
          rcases hob o ho with ⟨e2,_⟩ | ⟨b',cs,t,e2,hnok,_⟩
          · rw [e'] at e2;cases e2
          · rw [e'] at e2;cases e2;exact hnok (g2 b hb)
        refine ⟨B,?_,fun b hb=>⟨RelV.below _ _ _ g1 b hb,.inl (g2 b hb),hB b hb⟩,by simp⟩
        have e:(cargs++Array.replicate (fn.ntmps - cargs.size) undef).getD k undef=cargs.toList.getD k undef:=by
          have hlt:k < cargs.size:=by rw [h1] at hk;simpa using hk
          simp [Array.getD_eq_getD_getElem?,Array.getElem?_append,hlt,List.getD_eq_getElem?_getD]
        rw [e]
        simpa only [Nat.sub_zero] using g1
      · rw [if_neg (by simpa using hk)]
        exact ⟨[],by simp [RelV],by simp,by simp⟩
    · rcases gP (os:=objs) (l:=l) with ⟨g1,_⟩ | ⟨o,ho,rfl,g1⟩
      · simp only [g1] at hl;cases hl
      · simp only [g1] at hl;cases hl
        refine ⟨[],by simp,by simp,?_⟩
        rcases hob o ho with ⟨e1,e2⟩ | ⟨b,cs,t,e1,_,e3,e4⟩
        · exact .inl ⟨e1,e2,rfl⟩
        · exact .inr ⟨b,cs,t,e1,how b _ e1,e3,by simpa using e4⟩
    · cases hk:κ l with
      | none=>rfl
      | some o =>
        obtain ⟨x,hx,rfl⟩:=hκ l o hk
        rcases gP (os:=objs) (l:=x.l) with ⟨_,g2⟩ | ⟨_,_,_,g1⟩
        · exact absurd rfl (g2 x hx)
        · simp only [g1] at hl;cases hl
    · obtain ⟨l,e⟩:=how2 b hb
      exact ⟨hblt l b e,.inr ⟨l,how b l e,(hio l b).2 e⟩⟩
    · rw [(hio l b).2 hl] at hi;cases hi
  have hioN:∀ l,Nat.blt l 100000=true→Γ.io l=none:=by
    intro l hl
    have hl:=(aH _ _).1 hl
    cases hi:Γ.io l with
    | none=>rfl
    | some b =>
      obtain ⟨o,ho,rfl⟩:=hκ l _ ((hio l b).1 hi)
      have:=hx1 o ho;omega
  refine wp_mono (h Γ rfl rfl (fun _ h=>h) (fun _ h=>h) (fun _ h=>h) (fun l b e=>(hio l b).1 e) hioN _ _ hsim) fun e a' w' ⟨E',hs',hq⟩=>?_
  have fin:RetX Γ rs E' r deep objs→a'.defers=[]∧∃ v,(results fn a'.tmps).run P w'=.ok v w'∧∃ c B,Ending.returned v=.returned c∧Same w w'∧(∀ b,b < w.heap.size→(∀ l,κ l≠some (some b))→w'.heap[b]?=w.heap[b]?)∧(∀ o ∈ objs,nF w w' κ o) ∧
      RelV w'.heap dead r c B∧(∀ b ∈ B,ok b∨w.heap.size≤b)∧(deep=true→B.Nodup∧∀ b ∈ B,w.heap.size≤b∧cJ w' b):=by
    rintro ⟨hr,hr2⟩
    obtain ⟨c,B,g1,g2,g3,g4⟩:=hr fn hrs a' w' hs'
    obtain ⟨E2,⟨ow2,β2,hs2⟩,hr2⟩:=hr2 a' w' hs'
    refine ⟨hs2.defers,c,g1,c,B,rfl,⟨hs2.kept.os,hs2.kept.output,hs2.kept.tape,hs2.kept.size⟩,fun b hb hn=>hs2.kept.old b hb (fun l e=>hn l ((hio l b).1 e)) (fun h=>h),fun o ho=>⟨fun e=>?_,fun b e cs t hc=>?_⟩,g2,fun b hb=>(g3 b hb).2.imp id (fun h=>(h.elim id False.elim:Γ.nww b).elim id False.elim),fun hd=>⟨(g4 hd).1,fun b hb=>⟨(((g4 hd).2 b hb).2.elim id False.elim:Γ.nww b).elim id False.elim,((g4 hd).2 b hb).1⟩⟩⟩
    · refine hnil o ho ?_
      rcases hob o ho with ⟨_,e2⟩ | ⟨b,_,_,e2,_⟩
      · exact e2
      · rw [e] at e2;cases e2
    · obtain ⟨dp,hl⟩:=hr2 o ho
      obtain ⟨Bo,_,_,k3⟩:=hs2.objs o.l _ hl
      have hβ:=hs2.ios o.l b ((hio o.l b).2 e) (by rw [hl];rfl)
      rcases k3 with ⟨k4,_⟩ | ⟨b',cs',t',k4,k5,k6,k7⟩
      · rw [hβ] at k4;cases k4
      · rw [hβ] at k4;cases k4
        obtain ⟨cs2,q1,q2⟩:=hs2.kept.ios b (hblt _ _ e) (fun h=>h) cs t hc
        rw [k6] at q1;cases q1
        have:=hY (hsc o ho) k7
        subst this
        exact ⟨cs',k6,q2,by simpa using k7⟩
  cases e with
  | normal=>exact fin hq
  | ret=>exact fin hq
  | exit id=>exact hq.elim
  | goto l=>exact hq.elim
  | panic ch=>exact hq.elim
  | outgrown=>exact hq.elim
def κ1 (b0:Nat):Nat→Option (Option Nat):=fun l=>if l=100000 then some (some b0) else none
def MeetsP (P:Program) (f:FuncId) (p:PV) (vb:Value) (args old new:List PV) (r:PV) (deep:Bool):Prop :=
  ∀ (w:World) (cargs:Array Value) (ok:Nat→Prop) (b0:Nat) (cs:Array Value) (t:TypeId),XArgs w.heap ok (κ1 b0) args cargs.toList→¬ok b0→w.heap[b0]?=some (.cells cs t (0,0))→RelL w.heap true dead (.sc vb::old) cs 0 []→(∃ B,RelV w.heap dead p vb B∧∀ b ∈ B,ok b) →
    Calls P f cargs w fun e w'=>∃ c B,e=.returned c∧Same w w'∧(∀ b,b < w.heap.size→b≠b0→w'.heap[b]?=w.heap[b]?)∧(∃ cs',w'.heap[b0]?=some (.cells cs' t (0,0))∧cs'.size=cs.size∧RelL w'.heap true dead (.sc vb::new) cs' 0 []) ∧
      RelV w'.heap dead r c B∧(∀ b ∈ B,ok b∨w.heap.size≤b)∧(deep=true→B.Nodup∧∀ b ∈ B,w.heap.size≤b∧cJ w' b)
theorem MeetsP.intro {f:FuncId} {fn:Func} {c:Code} {p:PV} {vb:Value} {args old new:List PV} {r:PV} {deep:Bool} {rs:Array ResultVar} (hf:P.funcs[f]?=some fn) (hb:fn.body=some c) (hN:fn.ntmps=N) (hrs:fn.results=rs) (hn:Nat.ble args.length N=true) (hp:p.labs=[]) (hsc:dF new=true)
    (h:∀ Γ:Ctx P N,(∀ l,Nat.blt l 100000=true→Γ.io l=none)→rG Γ vb p→CodeT Γ c ⟨bH args 0,[(100000,some ⟨.sc vb::old,true,false⟩)]⟩ (iC Γ rs r deep [⟨100000,.sc vb::old,.sc vb::new⟩])):MeetsP P f p vb args old new r deep:=by
  intro w cargs ok b0 cs t ha hnok hb0 hrel ⟨Bp,hp1,hp2⟩
  have hκ:∀ l o,κ1 b0 l=some o→l=100000∧o=some b0:=by
    intro l o e
    unfold κ1 at e
    by_cases hl:l=100000
    · rw [if_pos hl] at e;exact ⟨hl,(Option.some.inj e).symm⟩
    · rw [if_neg hl] at e;cases e
  refine (MeetsX.core (r:=r) (deep:=deep) hf hb hN hrs hn (objs:=[⟨100000,.sc vb::old,.sc vb::new⟩]) rfl (by simp) (by simpa [dF] using hsc) w cargs ok (κ1 b0) ha (fun o ho=>?_) (fun l o e=>?_) (fun l l' b e e'=>?_) (fun Γ h1 h2 h3 h4 h5 h6 h7=>?_)).mono fun e w' ⟨c,B,q1,q2,q3,q4,q5,q6,q7⟩=>?_
  · simp only [List.mem_singleton] at ho;subst ho
    exact .inr ⟨b0,cs,t,by simp [κ1],hnok,hb0,hrel⟩
  · exact ⟨⟨100000,.sc vb::old,.sc vb::new⟩,by simp,(hκ l o e).1.symm⟩
  · exact (hκ l _ e).1.trans (hκ l' _ e').1.symm
  · refine h Γ h7 ⟨hp,Bp,by rw [h2];exact hp1,fun b hb=>⟨h3 b (hp2 b hb),by rw [h1];exact RelV.below _ _ _ hp1 b hb,⟨h4 b,h5 b⟩,fun l e=>?_⟩⟩
    have:=(hκ l _ (h6 l b e)).2
    cases this
    exact hnok (hp2 _ hb)
  · refine ⟨c,B,q1,q2,fun b hb hne=>q3 b hb (fun l e=>?_),?_,q5,q6,q7⟩
    · have:=(hκ l _ e).2
      cases this;exact hne rfl
    · exact (q4 ⟨100000,.sc vb::old,.sc vb::new⟩ (by simp)).2 b0 (by simp [κ1]) cs t hb0
end
section
variable {P:Program} {N:Nat} {Γ:Ctx P N} {S:List (Nat × Slot)} {O:List (Nat × Option Ob)} {ow:Nat→Own} {β:Nat→Option (Option Nat)} {F:Env} {a:Act} {w:World}
variable {d:Nat} {ty:TypeId} {pos:String} {af:Array Edge} {g:Option (Nat × Bool)}
def MeetsQ (P:Program) (f:FuncId) (args cells:List PV):Prop :=
  ∀ (w:World) (cargs:Array Value) (ok:Nat→Prop),RelArgs w.heap ok args cargs.toList →
    Calls P f cargs w fun e w'=>∃ b cs t B,e=.returned (.pointer (some ⟨b,0,none⟩))∧Below w.heap.size w w'∧w.heap.size≤b∧w'.heap[b]?=some (.cells cs t (0,0))∧RelL w'.heap true dead cells cs 0 B∧(∀ x ∈ B,x < w'.heap.size∧x≠b∧(ok x∨w.heap.size≤x))
def RetQ (Γ:Ctx P N) (rs:Array ResultVar) (E:Env) (cells:List PV):Prop :=
  ∀ fn:Func,fn.results=rs→∀ a w,Sim Γ E a w→∃ b cs t B,(results fn a.tmps).run P w=.ok (.pointer (some ⟨b,0,none⟩)) w∧Γ.nww b∧w.heap[b]?=some (.cells cs t (0,0))∧RelL w.heap true dead cells cs 0 B∧(∀ x ∈ B,x < w.heap.size∧x≠b∧(Γ.ok x∨Γ.nw x))
def qM (Γ:Ctx P N) (rs:Array ResultVar) (cells:List PV):Exit→Env→Prop
  | .normal,E=>RetQ Γ rs E cells
  | .ret,E=>RetQ Γ rs E cells
  | _,_=>False
theorem RetQ.weak {E E0:Env} {rs:Array ResultVar} {cells:List PV} (he:Ent Γ E E0) (h:RetQ Γ rs E0 cells):RetQ Γ rs E cells:=fun fn hf a w hs=>h fn hf a w (he a w hs)
theorem RetQ.mk {t l:Nat} {cells cells':List PV} {dp dp0:Bool} (h:lkq S t=some ⟨.ptr l 0,dp0⟩) (ho:loq O l=some ⟨cells,dp,false⟩) (hne:cells≠[]) (hio:Γ.io l=none) (hs:SoftL cells cells'):RetQ Γ #[.tmp t] ⟨S,O⟩ cells':=by
  rintro fn hf a w ⟨ow,β,hsim⟩
  rw [dW hf]
  obtain ⟨B,h1,_⟩:=hsim.slots t
  rw [cK h] at h1
  simp only [RelV] at h1
  obtain ⟨Bo,o1,o2,hob⟩:=hsim.objs l ⟨cells,dp,false⟩ (by rw [← cA];exact ho)
  rcases hob with ⟨_,p2,_⟩ | ⟨b,cs,u,p1,p2,p3,p4⟩
  · exact absurd p2 hne
  · refine ⟨b,cs,u,Bo,by simp [bV,h1.2 b p1],hsim.fresh l _ p1 hio,p3,hs.2 _ _ _ _ _ _ (by simpa using p4),fun x hx=>⟨(o1 x hx).1,fun e=>(o1 x hx).2.2 l (e ▸ p2),(o1 x hx).2.1⟩⟩
end
section
variable {P:Program} {N:Nat}
theorem MeetsQ.intro {f:FuncId} {fn:Func} {c:Code} {args cells:List PV} {rs:Array ResultVar} (hf:P.funcs[f]?=some fn) (hb:fn.body=some c) (hN:fn.ntmps=N) (hrs:fn.results=rs) (hn:Nat.ble args.length N=true)
    (h:∀ Γ:Ctx P N,(∀ l,Nat.blt l 100000=true→Γ.io l=none)→CodeT Γ c ⟨bH args 0,[]⟩ (qM Γ rs cells)):MeetsQ P f args cells:=by
  intro w cargs ok ha
  obtain ⟨h1,h2⟩:=ha.get
  have hn:=Nat.le_of_ble_eq_true hn
  let Γ:Ctx P N:={ base:=w.heap.size,ok:=fun b=>ok b,io:=fun _=>none,w0:=w,mine:=fun _=>False,lent:=fun _=>False }
  have hsz:(cargs++Array.replicate (fn.ntmps - cargs.size) undef).size=N:=by
    have:cargs.size=args.length:=by rw [h1];simp
    simp [this,hN];omega
  refine calls_of_wp hf hb ?_
  have hsim:Sim Γ ⟨bH args 0,[]⟩ { tmps:=cargs++Array.replicate (fn.ntmps - cargs.size) undef,defers:=[] } w:=by
    refine ⟨fun _=>.none,fun _=>none,{ size:=hsz,defers:=rfl,kept:=⟨rfl,rfl,rfl,Nat.le_refl _,fun _ _ _ _=>rfl,fun b _ _ cs t h=>⟨cs,h,rfl⟩⟩,slots:=fun k=>?_,objs:=fun l ob hl=>(by simp [lo] at hl),gone:=fun _ _=>rfl,own:=fun b hb=>absurd rfl hb,ios:=fun l b hl=>(by cases hl),fresh:=fun l b hl=>(by cases hl) }⟩
    rw [cI]
    by_cases hk:k < args.length
    · rw [if_pos ⟨Nat.zero_le _,by simpa using hk⟩]
      obtain ⟨B,g1,g2⟩:=h2 k hk
      refine ⟨B,?_,fun b hb=>⟨RelV.below _ _ _ g1 b hb,.inl (g2 b hb),fun l=>by simp⟩,by simp⟩
      have e:(cargs++Array.replicate (fn.ntmps - cargs.size) undef).getD k undef=cargs.toList.getD k undef:=by
        have hlt:k < cargs.size:=by rw [h1] at hk;simpa using hk
        simp [Array.getD_eq_getD_getElem?,Array.getElem?_append,hlt,List.getD_eq_getElem?_getD]
      rw [e]
      simp only [Nat.sub_zero]
      exact RelV.keep _ _ _ (fun l _=>by intro ob h;cases h) (fun _ _=>rfl) g1
    · rw [if_neg (by simpa using hk)]
      exact ⟨[],by simp [RelV],by simp,by simp⟩
  refine wp_mono (h Γ (fun _ _=>rfl) _ _ hsim) fun e a' w' ⟨E',hs',hq⟩=>?_
  have fin:RetQ Γ rs E' cells→a'.defers=[]∧∃ v,(results fn a'.tmps).run P w'=.ok v w'∧∃ b cs t B,Ending.returned v=.returned (.pointer (some ⟨b,0,none⟩))∧Below w.heap.size w w'∧w.heap.size≤b∧w'.heap[b]?=some (.cells cs t (0,0))∧RelL w'.heap true dead cells cs 0 B∧(∀ x ∈ B,x < w'.heap.size∧x≠b∧(ok x∨w.heap.size≤x)):=by
    intro hr
    obtain ⟨b,cs,t,B,g1,g2,g3,g4,g5⟩:=hr fn hrs a' w' hs'
    obtain ⟨ow,β,hs'⟩:=hs'
    exact ⟨hs'.defers,_,g1,b,cs,t,B,rfl,⟨hs'.kept.os,hs'.kept.tape,hs'.kept.output,hs'.kept.size,fun k hk=>hs'.kept.old k hk (fun l=>by simp [Γ]) (fun h=>h)⟩,g2.elim id False.elim,g3,g4,fun x hx=>⟨(g5 x hx).1,(g5 x hx).2.1,(g5 x hx).2.2.imp id (fun h=>(h.elim id False.elim:Γ.nww x).elim id False.elim)⟩⟩
  cases e with
  | normal=>exact fin hq
  | ret=>exact fin hq
  | exit id=>exact hq.elim
  | goto l=>exact hq.elim
  | panic ch=>exact hq.elim
  | outgrown=>exact hq.elim
end
end Go.Ev
/- The engine, part XX: arrays of arrays as own rows; addresses known not to be nil. -/
namespace Go.Ev
open Go.RowKit (Below)
set_option linter.all false
section
variable {P:Program} {N:Nat} {Γ:Ctx P N} {S:List (Nat × Slot)} {O:List (Nat × Option Ob)}
variable {d:Nat} {ty:TypeId} {pos:String} {af:Array Edge} {g:Option (Nat × Bool)}
end
end Go.Ev
/- The engine, part YY: calls that rest on what the world's tables hold. -/
namespace Go.Ev
open Go.RowKit (Below)
set_option linter.all false
class WT (T:World→Prop):Prop where
  keep:∀ w w',T w→Below w.heap.size w w'→T w'
def MeetsT (P:Program) (T:World→Prop) (f:FuncId) (args:List PV) (r:PV) (deep:Bool):Prop :=
  ∀ (w:World) (cargs:Array Value) (ok:Nat→Prop),T w→RelArgs w.heap ok args cargs.toList →
    Calls P f cargs w fun e w'=>∃ c B,e=.returned c∧Below w.heap.size w w'∧RelV w'.heap dead r c B∧(∀ b ∈ B,ok b∨w.heap.size≤b)∧(deep=true→B.Nodup∧∀ b ∈ B,w.heap.size≤b∧cJ w' b)
def TOk {P:Program} {N:Nat} (T:World→Prop) (Γ:Ctx P N):Prop:=∀ w,Kept Γ w→T w
section
variable {P:Program} {N:Nat} {T:World→Prop}
theorem MeetsT.intro [WT T] {f:FuncId} {fn:Func} {c:Code} {args:List PV} {r:PV} {deep:Bool} {rs:Array ResultVar} (hf:P.funcs[f]?=some fn) (hb:fn.body=some c) (hN:fn.ntmps=N) (hrs:fn.results=rs) (hn:Nat.ble args.length N=true)
    (h:∀ Γ:Ctx P N,(∀ l,Nat.blt l 100000=true→Γ.io l=none)→TOk T Γ→CodeT Γ c ⟨bH args 0,[]⟩ (gM Γ rs r deep)):MeetsT P T f args r deep:=by
  intro w cargs ok hTw ha
  obtain ⟨h1,h2⟩:=ha.get
  have hn:=Nat.le_of_ble_eq_true hn
  let Γ:Ctx P N:={ base:=w.heap.size,ok:=fun b=>ok b,io:=fun _=>none,w0:=w,mine:=fun _=>False,lent:=fun _=>False }
  have hΓ:TOk T Γ:=fun w' k=>WT.keep w w' hTw ⟨k.os,k.tape,k.output,k.size,fun b hb=>k.old b hb (fun l=>by simp [Γ]) (fun h=>h)⟩
  have hsz:(cargs++Array.replicate (fn.ntmps - cargs.size) undef).size=N:=by
    have:cargs.size=args.length:=by rw [h1];simp
    simp [this,hN];omega
  refine calls_of_wp hf hb ?_
  have hsim:Sim Γ ⟨bH args 0,[]⟩ { tmps:=cargs++Array.replicate (fn.ntmps - cargs.size) undef,defers:=[] } w:=by
    refine ⟨fun _=>.none,fun _=>none,{ size:=hsz,defers:=rfl,kept:=⟨rfl,rfl,rfl,Nat.le_refl _,fun _ _ _ _=>rfl,fun b _ _ cs t h=>⟨cs,h,rfl⟩⟩,slots:=fun k=>?_,objs:=fun l ob hl=>(by simp [lo] at hl),gone:=fun _ _=>rfl,own:=fun b hb=>absurd rfl hb,ios:=fun l b hl=>(by cases hl),fresh:=fun l b hl=>(by cases hl) }⟩
    rw [cI]
    by_cases hk:k < args.length
    · rw [if_pos ⟨Nat.zero_le _,by simpa using hk⟩]
      obtain ⟨B,g1,g2⟩:=h2 k hk
      refine ⟨B,?_,fun b hb=>⟨RelV.below _ _ _ g1 b hb,.inl (g2 b hb),fun l=>by simp⟩,by simp⟩
      have e:(cargs++Array.replicate (fn.ntmps - cargs.size) undef).getD k undef=cargs.toList.getD k undef:=by
        have hlt:k < cargs.size:=by rw [h1] at hk;simpa using hk
        simp [Array.getD_eq_getD_getElem?,Array.getElem?_append,hlt,List.getD_eq_getElem?_getD]
      rw [e]
      simp only [Nat.sub_zero]
      exact RelV.keep _ _ _ (fun l _=>by intro ob h;cases h) (fun _ _=>rfl) g1
    · rw [if_neg (by simpa using hk)]
      exact ⟨[],by simp [RelV],by simp,by simp⟩
  refine wp_mono (h Γ (fun _ _=>rfl) hΓ _ _ hsim) fun e a' w' ⟨E',hs',hq⟩=>?_
  have fin:RetIs Γ rs E' r deep→a'.defers=[]∧∃ v,(results fn a'.tmps).run P w'=.ok v w'∧∃ c B,Ending.returned v=.returned c∧Below w.heap.size w w'∧RelV w'.heap dead r c B∧(∀ b ∈ B,ok b∨w.heap.size≤b)∧(deep=true→B.Nodup∧∀ b ∈ B,w.heap.size≤b∧cJ w' b):=by
    intro hr
    obtain ⟨c,B,g1,g2,g3,g4⟩:=hr fn hrs a' w' hs'
    obtain ⟨ow,β,hs'⟩:=hs'
    refine ⟨hs'.defers,c,g1,c,B,rfl,⟨hs'.kept.os,hs'.kept.tape,hs'.kept.output,hs'.kept.size,fun k hk=>hs'.kept.old k hk (fun l=>by simp [Γ]) (fun h=>h)⟩,g2,fun b hb=>(g3 b hb).2.imp id (fun h=>(h.elim id False.elim:Γ.nww b).elim id False.elim),fun hd=>⟨(g4 hd).1,fun b hb=>⟨(((g4 hd).2 b hb).2.elim id False.elim:Γ.nww b).elim id False.elim,((g4 hd).2 b hb).1⟩⟩⟩
  cases e with
  | normal=>exact fin hq
  | ret=>exact fin hq
  | exit id=>exact hq.elim
  | goto l=>exact hq.elim
  | panic ch=>exact hq.elim
  | outgrown=>exact hq.elim
variable {Γ:Ctx P N} {S:List (Nat × Slot)} {O:List (Nat × Option Ob)} {d:Nat} {ty:TypeId} {pos:String} {af:Array Edge} {g:Option (Nat × Bool)}
theorem eV (hT:TOk T Γ) {f:FuncId} [hfc:FnC P f] {xs:List Operand} {us:Array TypeId} {ps:List PV} {ls:List Nat} {r:PV} {deep:Bool} (ha:ArgsV S O xs ps ls) (hm:MeetsT P T f ps r deep) (hc:(qI ls||deep||oJ r)=true) (hr:r.labs=[]) (hd:Nat.blt d N=true) :
    Local Γ ⟨some d,.call ⟨.value (.func f),xs.toArray,us⟩,ty,pos,af,g⟩ ⟨S,O⟩ ⟨[(d,⟨r,deep⟩)],[]⟩ (iW xs) ls []:=by
  intro F hs hl _ a w ⟨ow,β,hsim⟩ Q
  have hargs:=hG hsim ha hs hl
  unfold Oper.wp
  have hrun:(execOp a.eval ⟨some d,.call ⟨.value (.func f),xs.toArray,us⟩,ty,pos,af,g⟩).run P w=.ok (.enter f (xs.map a.eval).toArray) w:=by
    simp [execOp,resolve,Act.eval,Deferred.ofValue,invoke,hfc.run]
  rw [hrun]
  show Calls _ _ _ _ _
  refine (hm w (xs.map a.eval).toArray (fun b=>Im Γ ow w b∨∃ l ∈ ls,ow b=.lab l) (hT w hsim.kept) (by simpa using hargs)).mono fun e w' ⟨c,B,he,hb,h1,h2,h3⟩=>?_
  subst he
  show Sim Γ _ _ _
  have hg:=hsim.grow hb
  have hB:∀ b ∈ B,b < w'.heap.size:=RelV.below _ _ _ h1
  have hfresh:∀ b,w.heap.size≤b→b < w'.heap.size→Im Γ ow w' b:=fun b hb1 hb2=>⟨hb2,.inr (.inl (.inl (Nat.le_trans hsim.kept.size hb1))),fun l e=>by have:=(hsim.own b (by rw [e];simp)).1;omega⟩
  have hkeepV:RelV w'.heap β r c B:=RelV.keep _ _ _ (fun l hl=>by rw [hr] at hl;cases hl) (fun _ _=>rfl) h1
  cases deep with
  | true =>
    obtain ⟨n1,n2⟩:=h3 rfl
    exact ⟨_,β,hg.putDeep ((aH _ _).1 hd) hkeepV (fun b hb=>hfresh b (n2 b hb).1 (hB b hb)) n1 (fun b hb=>⟨(n2 b hb).2,.inl (.inl (Nat.le_trans hsim.kept.size (n2 b hb).1))⟩)
      (fun b hb=>by
        cases hx:ow b with
        | none=>exact .inl rfl
        | _=>have:=(hsim.own b (by rw [hx];simp)).1;have:=(n2 b hb).1;omega)⟩
  | false =>
    refine ⟨ow,β,hg.put ((aH _ _).1 hd) hkeepV fun b hbB=>?_⟩
    simp only [Bool.or_false,Bool.or_eq_true] at hc
    rcases hc with hc | hc
    · cases ls with
      | cons=>cases hc
      | nil =>
        rcases h2 b hbB with (h | ⟨l,hl,_⟩) | h
        · exact ⟨Nat.lt_of_lt_of_le h.1 hb.size,h.2⟩
        · cases hl
        · exact hfresh b h (hB b hbB)
    · rw [lS hc h1] at hbB;cases hbB
end
end Go.Ev
