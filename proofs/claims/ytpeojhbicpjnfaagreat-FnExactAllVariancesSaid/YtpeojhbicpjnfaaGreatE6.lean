/- Parts EvSS, EvTT, EvUU, EvVV, EvWW, EvXX, EvYY, EvZZ, EvAB. -/
import Derived.Test.YtpeojhbicpjnfaaGreatE5
set_option linter.all false
/- The engine, part SS: a row of the caller's own, lent to a function that only reads it: what the function returns does not speak of the row's own block. -/
namespace Go.Ev
open Go.RowKit (Below)
def ROk (w:World) (ok:Nat→Prop) (o:Option Nat) (old:List PV):Prop:=(o=none∧old=[])∨∃ b cs t B,o=some b∧¬ok b∧w.heap[b]?=some (.cells cs t (0,0))∧RelL w.heap true dead old cs 0 B∧∀ x ∈ B,ok x
def aDG (l0:Nat) (o:Option Nat):Nat→Option (Option Nat):=fun l=>if l=l0 then some o else none
def MeetsR (P:Program) (f:FuncId) (args:List PV) (l0:Nat) (old:List PV) (r:PV):Prop :=
  ∀ (w:World) (cargs:Array Value) (ok:Nat→Prop) (o:Option Nat),XArgs w.heap ok (aDG l0 o) args cargs.toList→ROk w ok o old →
    Calls P f cargs w fun e w'=>∃ c B,e=.returned c∧Same w w'∧(∀ b,b < w.heap.size→o≠some b→w'.heap[b]?=w.heap[b]?) ∧
      (∀ b,o=some b→∀ cs t,w.heap[b]?=some (.cells cs t (0,0))→∃ cs' B',w'.heap[b]?=some (.cells cs' t (0,0))∧cs'.size=cs.size∧RelL w'.heap true dead old cs' 0 B'∧∀ x ∈ B',x < w'.heap.size∧(ok x∨w.heap.size≤x)) ∧
      RelV w'.heap dead r c B∧(∀ b ∈ B,ok b∨w.heap.size≤b)
section
variable {P:Program} {N:Nat}
theorem MeetsR.intro {f:FuncId} {fn:Func} {c:Code} {args:List PV} {l0:Nat} {old:List PV} {r:PV} {rs:Array ResultVar} (hf:P.funcs[f]?=some fn) (hb:fn.body=some c) (hN:fn.ntmps=N) (hrs:fn.results=rs) (hn:Nat.ble args.length N=true) (hl0:Nat.ble 100000 l0=true)
    (h:∀ Γ:Ctx P N,(∀ l,Nat.blt l 100000=true→Γ.io l=none)→CodeT Γ c ⟨hP args 0,[(l0,some ⟨old,false,false⟩)]⟩ (vE Γ rs r false [⟨l0,old,old⟩])):MeetsR P f args l0 old r:=by
  intro w cargs ok o ha hob
  obtain ⟨h1,h2⟩:=ha.get
  have hn:=Nat.le_of_ble_eq_true hn
  have hl0:=Nat.le_of_ble_eq_true hl0
  let Γ:Ctx P N:={ base:=w.heap.size,ok:=ok,io:=fun l=>if l=l0 then o else none,w0:=w,mine:=fun _=>False,lent:=fun _=>False }
  have hio:∀ l b,Γ.io l=some b↔l=l0∧o=some b:=by
    intro l b
    show (if l=l0 then o else none)=some b↔_
    by_cases e:l=l0 <;> simp [e]
  have hsz:(cargs++Array.replicate (fn.ntmps - cargs.size) undef).size=N:=by
    have:cargs.size=args.length:=by rw [h1];simp
    simp [this,hN];omega
  have hblt:∀ b,o=some b→b < w.heap.size∧¬ok b:=by
    rintro b rfl
    rcases hob with ⟨e,_⟩ | ⟨b',cs,t,B,e,hk,g,_⟩
    · cases e
    · cases e
      rcases Nat.lt_or_ge b w.heap.size with h | h
      · exact ⟨h,hk⟩
      · simp [Array.getElem?_eq_none h] at g
  refine calls_of_wp hf hb ?_
  let ow:Nat→Own:=fun b=>if o=some b then .lab l0 else .none
  have how:∀ b l,ow b=.lab l→l=l0∧o=some b:=by
    intro b l e
    have e:(if o=some b then Own.lab l0 else .none)=.lab l:=e
    by_cases hh:o=some b
    · rw [if_pos hh] at e;cases e;exact ⟨rfl,hh⟩
    · rw [if_neg hh] at e;cases e
  have hsim:Sim Γ ⟨hP args 0,[(l0,some ⟨old,false,false⟩)]⟩ { tmps:=cargs++Array.replicate (fn.ntmps - cargs.size) undef,defers:=[] } w:=by
    refine ⟨ow,aDG l0 o,{ size:=hsz,defers:=rfl,kept:=⟨rfl,rfl,rfl,Nat.le_refl _,fun _ _ _ _=>rfl,fun b _ _ cs t h=>⟨cs,h,rfl⟩⟩,slots:=fun k=>?_,objs:=fun l ob hl=>?_,gone:=fun l hl=>?_,own:=fun b hb=>?_,ios:=fun l b hl _=>?_,fresh:=fun l b hl hi=>?_ }⟩
    · rw [mT]
      by_cases hk:k < args.length
      · rw [if_pos ⟨Nat.zero_le _,by simpa using hk⟩]
        obtain ⟨B,g1,g2⟩:=h2 k hk
        refine ⟨B,?_,fun b hb=>⟨RelV.below _ _ _ g1 b hb,.inl (g2 b hb),fun l e=>(hblt b (how b l e).2).2 (g2 b hb)⟩,by simp⟩
        have e:(cargs++Array.replicate (fn.ntmps - cargs.size) undef).getD k undef=cargs.toList.getD k undef:=by
          have hlt:k < cargs.size:=by rw [h1] at hk;simpa using hk
          simp [Array.getD_eq_getD_getElem?,Array.getElem?_append,hlt,List.getD_eq_getElem?_getD]
        rw [e]
        simpa only [Nat.sub_zero] using g1
      · rw [if_neg (by simpa using hk)]
        exact ⟨[],by simp [RelV],by simp,by simp⟩
    · simp only [aW] at hl
      by_cases e:l0=l
      · subst e
        rw [if_pos rfl] at hl;cases hl
        rcases hob with ⟨rfl,e2⟩ | ⟨b,cs,t,B,rfl,hk,g1,g2,g3⟩
        · exact ⟨[],by simp,by simp,.inl ⟨by simp [aDG],e2,rfl⟩⟩
        · refine ⟨B,fun x hx=>⟨RelL.below _ _ _ _ g2 x hx,.inl (g3 x hx),fun l e=>(hblt x (how x l e).2).2 (g3 x hx)⟩,fun hd=>(by cases hd),.inr ⟨b,cs,t,by simp [aDG],?_,g1,g2⟩⟩
          show (if _ then _ else _)=_
          rw [if_pos rfl]
      · rw [if_neg e] at hl;simp [lo] at hl
    · simp only [aW] at hl
      by_cases e:l0=l
      · rw [if_pos e] at hl;cases hl
      · simp [aDG,Ne.symm e]
    · have hb:(if o=some b then Own.lab l0 else .none)≠.none:=hb
      by_cases hh:o=some b
      · refine ⟨(hblt b hh).1,.inr ⟨l0,?_,(hio l0 b).2 ⟨rfl,hh⟩⟩⟩
        show (if _ then _ else _)=_
        rw [if_pos hh]
      · rw [if_neg hh] at hb;exact absurd rfl hb
    · obtain ⟨rfl,rfl⟩:=(hio l b).1 hl
      simp [aDG]
    · have hl:(if l=l0 then some o else none)=some (some b):=hl
      by_cases e:l=l0
      · rw [if_pos e] at hl
        rw [(hio l b).2 ⟨e,Option.some.inj hl⟩] at hi;cases hi
      · rw [if_neg e] at hl;cases hl
  have hioN:∀ l,Nat.blt l 100000=true→Γ.io l=none:=by
    intro l hl
    have hl:=(aZ _ _).1 hl
    show (if l=l0 then o else none)=none
    rw [if_neg (by omega)]
  refine wp_mono (h Γ hioN _ _ hsim) fun e a' w' ⟨E',hs',hq⟩=>?_
  have fin:RetX Γ rs E' r false [⟨l0,old,old⟩]→a'.defers=[]∧∃ v,(results fn a'.tmps).run P w'=.ok v w'∧∃ c B,Ending.returned v=.returned c∧Same w w'∧(∀ b,b < w.heap.size→o≠some b→w'.heap[b]?=w.heap[b]?) ∧
      (∀ b,o=some b→∀ cs t,w.heap[b]?=some (.cells cs t (0,0))→∃ cs' B',w'.heap[b]?=some (.cells cs' t (0,0))∧cs'.size=cs.size∧RelL w'.heap true dead old cs' 0 B'∧∀ x ∈ B',x < w'.heap.size∧(ok x∨w.heap.size≤x)) ∧
      RelV w'.heap dead r c B∧(∀ b ∈ B,ok b∨w.heap.size≤b):=by
    rintro ⟨hr,hr2⟩
    obtain ⟨c,B,g1,g2,g3,g4⟩:=hr fn hrs a' w' hs'
    obtain ⟨E2,⟨ow2,β2,hs2⟩,hr2⟩:=hr2 a' w' hs'
    refine ⟨hs2.defers,c,g1,c,B,rfl,⟨hs2.kept.os,hs2.kept.output,hs2.kept.tape,hs2.kept.size⟩,fun b hb hn=>hs2.kept.old b hb (fun l e=>hn ((hio l b).1 e).2) (fun h=>h),fun b e cs t hc=>?_,g2,fun b hb=>(g3 b hb).2.imp id (fun h=>(h.elim id False.elim:Γ.nww b).elim id False.elim)⟩
    obtain ⟨dp,hl⟩:=hr2 ⟨l0,old,old⟩ (by simp)
    obtain ⟨Bo,k1,_,k3⟩:=hs2.objs l0 _ hl
    have hβ:=hs2.ios l0 b ((hio l0 b).2 ⟨rfl,e⟩) (by simp only at hl;rw [hl];rfl)
    rcases k3 with ⟨k4,_⟩ | ⟨b',cs',t',k4,k5,k6,k7⟩
    · rw [hβ] at k4;cases k4
    · rw [hβ] at k4;cases k4
      obtain ⟨cs2,q1,q2⟩:=hs2.kept.ios b (hblt b e).1 (fun h=>h) cs t hc
      rw [k6] at q1;cases q1
      exact ⟨cs',Bo,k6,q2,by simpa using k7,fun x hx=>⟨(k1 x hx).1,(k1 x hx).2.1.imp id (fun h=>(h.elim id False.elim:Γ.nww x).elim id False.elim)⟩⟩
  cases e with
  | normal=>exact fin hq
  | ret=>exact fin hq
  | exit id=>exact hq.elim
  | goto l=>exact hq.elim
  | panic ch=>exact hq.elim
  | outgrown=>exact hq.elim
variable {Γ:Ctx P N} {S:List (Nat × Slot)} {O:List (Nat × Option Ob)} {ow:Nat→Own} {β:Nat→Option (Option Nat)} {F:Env} {a:Act} {w:World}
variable {d:Nat} {ty:TypeId} {pos:String} {af:Array Edge} {g:Option (Nat × Bool)}
end
end Go.Ev
/- The engine, part TT: short forms of tests, loops, calls and ends. -/
namespace Go.Ev
set_option linter.all false
section
variable {P:Program} {N:Nat} {Γ:Ctx P N} {E:Env} {Q Q' Q9:Exit→Env→Prop} {S:List (Nat × Slot)} {O:List (Nat × Option Ob)}
variable {α β σ ρ ε:Type} {x y:Code} {t:Nat} {dp deep:Bool}
section
variable {ops rest:List Oper} {K:List Item→Env→Prop} {acc:List Item} {o:Oper} {rs ro gs:List Nat} {d:Nat}
theorem cl {x:Option α} {cont:α→Option β} {r:β} {V:α→PV} {f:FuncId} [hfc:FnC P f] {xs:List Operand} {us:Array TypeId} {ps:List PV} {ls:List Nat} {ty:TypeId} {pos:String} {af:Array Edge} {g:Option (Nat × Bool)} (H:x.bind cont=some r) (hm:∀ v,x=some v→Meets P f ps (V v) deep)
    (hk:∀ v,cont v=some r→Run Γ ops K rest (⟨⟨[(d,⟨V v,deep⟩)],[]⟩,gs++wR xs,ls,[]⟩::acc) ⟨[(d,⟨V v,deep⟩)]++S,[]++O⟩)
    (ha:ArgsV S O xs ps ls:=by first | exact av (av .nil) | exact av (ar .nil) | exact ar (av .nil) | exact ar (ar .nil) | exact av .nil | exact ar .nil | exact av (av (av .nil)) | exact av (av (ar .nil)) | exact av (ar (av .nil)) | exact av (ar (ar .nil)) | exact ar (av (av .nil)) | exact ar (av (ar .nil)) | exact ar (ar (av .nil)) | exact ar (ar (ar .nil)) | exact av (av (av (av .nil))) | exact av (av (av (ar .nil))) | exact av (av (ar (av .nil))) | exact av (ar (av (av .nil))) | exact ar (av (av (av .nil)))) (hc:∀ v,(aI8 ls||deep||flat (V v))=true:=by intro _;rfl) (hr:∀ v,(V v).labs=[]:=by intro _;rfl) (hd:Nat.blt d N=true:=by rfl) (hg:gd N ops S true g=some gs:=by rfl):Run Γ ops K (⟨some d,.call ⟨.value (.func f),xs.toArray,us⟩,ty,pos,af,g⟩::rest) acc ⟨S,O⟩:=by
  obtain ⟨v,hv,H⟩:=aB H
  exact .op (eJ ha (hm v hv) (hc v) (hr v) hd) hg rfl (hk v H)
end
theorem ll {step:σ→Option (σ ⊕ ρ)} {s0:σ} {K:ρ→Option β} {r:β} {c:Code} (H:(lp step s0).bind K=some r) (Es:σ→Env) (Xe:ρ→Exit→Env→Prop) (he:Ent Γ E (Es s0))
    (hr:∀ s o,step s=some o→CodeT Γ c (Es s) (qE Γ Es Xe o)) (hq:∀ d,K d=some r→∀ e E',Xe d e E'→Q e E'):CodeT Γ (.loop c) E Q:=by
  obtain ⟨d,hd,H⟩:=aB H
  exact .lloop Es Xe hd he hr (fun e E' h=>hq d H e E' h)
theorem l1 {step:σ→Option (σ ⊕ ρ)} {s0:σ} {K:ρ→Option β} {r:β} {c y:Code} {i:Nat} (H:(lp step s0).bind K=some r) (Es:σ→Env) (E2:ρ→Env) (he:Ent Γ E (Es s0))
    (hr:∀ s o,step s=some o→CodeT Γ c (Es s) (qE Γ Es (fun d e E=>XEnv Γ (.exit i) (E2 d) e E) o)) (hq:∀ d,K d=some r→CodeT Γ y (E2 d) Q'):CodeT Γ (.loop c) E (kQ i (rU (fun E'=>CodeT Γ y E' Q') Q9)) :=
  ll H Es _ he hr (fun d H e E' h=>by obtain ⟨rfl,g⟩:=XEnv.out h;exact x6 (Nat.beq_refl i) (x3 (.weak g (hq d H))))
theorem l2 {step:σ→Option (σ ⊕ (ρ ⊕ ε))} {s0:σ} {K:ρ ⊕ ε→Option β} {r:β} {c y:Code} {i:Nat} (rs:Array ResultVar) (dp:Bool) (H:(lp step s0).bind K=some r) (Es:σ→Env) (E2:ρ→Env) (R2:ε→PV) (he:Ent Γ E (Es s0))
    (hr:∀ s o,step s=some o→CodeT Γ c (Es s) (qE Γ Es (fun x e E=>match x with | .inl d=>XEnv Γ (.exit i) (E2 d) e E | .inr d=>XRet Γ rs (R2 d) dp e E) o)) (hq:∀ d,K (.inl d)=some r→CodeT Γ y (E2 d) Q') (hq2:∀ d,K (.inr d)=some r→∀ E',RetIs Γ rs E' (R2 d) dp→Q9 .ret E'):CodeT Γ (.loop c) E (kQ i (rU (fun E'=>CodeT Γ y E' Q') Q9)) :=
  ll H Es _ he hr (fun d H e E' h=>by
    cases d with
    | inl d=>obtain ⟨rfl,g⟩:=XEnv.out h;exact x6 (Nat.beq_refl i) (x3 (.weak g (hq d H)))
    | inr d=>obtain ⟨rfl,g⟩:=XRet.out h;exact x4 (x1 (hq2 d H E' g)))
theorem rl (k n':Nat) {c:Code} {l s off n:Nat} {dp:Bool} (h:CodeT Γ c ⟨(k,⟨.ref l s off n',dp⟩)::S,O⟩ Q) (hk:lkq S k=some ⟨.ref l s off n,dp⟩:=by rfl) (hn:n=n':=by first | (simp only [aK];done) | (simp only [aK];omega) | omega):CodeT Γ c ⟨S,O⟩ Q:=.weak (Ent.relen hk hn) h
end
section
variable {P:Program} {N:Nat} {Γ:Ctx P N} {E:Env} {S S':List (Nat × Slot)} {O O':List (Nat × Option Ob)} {rs:Array ResultVar} {r:PV} {deep:Bool}
theorem leq {ρ:List (Nat × Nat)} (_hq:ρ=ρ) (hio:∀ l,Nat.blt l 100000=true→Γ.io l=none:=by assumption) (hρ:aIG ρ=true:=by rfl) (hi:aGT ρ (wK O')=true:=by rfl) (h1:aEI S S'=aEH ρ S':=by rfl) (h2:aFp S S'=true:=by rfl) (h3:aB5 ρ O O'=aB4 ρ O':=by rfl) (h4:aCY ρ O O'=true:=by rfl):Ent Γ ⟨S,O⟩ ⟨S',O'⟩:=el ρ (io0 hio ρ hρ) hi h1 h2 h3 h4
end
end Go.Ev
/- The engine, part UU: a call whose results are rows beside own values. -/
namespace Go.Ev
open Go.RowKit (Below)
set_option linter.all false
section
variable {P:Program} {N:Nat} {Γ:Ctx P N} {S:List (Nat × Slot)} {O:List (Nat × Option Ob)} {ow:Nat→Own} {β:Nat→Option (Option Nat)} {F:Env} {a:Act} {w:World}
variable {d:Nat} {ty:TypeId} {pos:String} {af:Array Edge} {g:Option (Nat × Bool)}
end
end Go.Ev
/- The engine, part VV: a store that fills a whole object makes it one's own. -/
namespace Go.Ev
open Go.RowKit (Below)
set_option linter.all false
section
variable {P:Program} {N:Nat} {Γ:Ctx P N} {S:List (Nat × Slot)} {O:List (Nat × Option Ob)} {ow:Nat→Own} {β:Nat→Option (Option Nat)} {F:Env} {a:Act} {w:World}
variable {d:Nat} {ty:TypeId} {pos:String} {af:Array Edge} {g:Option (Nat × Bool)}
end
end Go.Ev
/- The engine, part WW: functions that take the address of an own block whose first cell is a value that is read (cursors); functions that return the address of a new block. -/
namespace Go.Ev
open Go.RowKit (Below)
set_option linter.all false
section
variable {P:Program} {N:Nat}
theorem MeetsX.core {f:FuncId} {fn:Func} {c:Code} {args:List PV} {objs:List XO} {r:PV} {deep:Bool} {rs:Array ResultVar} (hf:P.funcs[f]?=some fn) (hb:fn.body=some c) (hN:fn.ntmps=N) (hrs:fn.results=rs) (hn:Nat.ble args.length N=true)
    (hx:xok objs=true) (hnil:∀ o ∈ objs,o.old=[]→o.new=[]) (hsc:∀ o ∈ objs,lP o.new=true)
    (w:World) (cargs:Array Value) (ok:Nat→Prop) (κ:Nat→Option (Option Nat)) (ha:XArgs w.heap ok κ args cargs.toList) (hob:∀ o ∈ objs,XOb w ok κ o) (hκ:∀ l o,κ l=some o→∃ x ∈ objs,x.l=l) (hinj:∀ l l' b,κ l=some (some b)→κ l'=some (some b)→l=l')
    (h:∀ Γ:Ctx P N,Γ.base=w.heap.size→Γ.w0=w→(∀ b,ok b→Γ.ok b)→(∀ b,¬Γ.mine b)→(∀ b,¬Γ.lent b)→(∀ l b,Γ.io l=some b→κ l=some (some b))→(∀ l,Nat.blt l 100000=true→Γ.io l=none)→CodeT Γ c ⟨hP args 0,aED objs⟩ (vE Γ rs r deep objs)) :
    Calls P f cargs w fun e w'=>∃ c B,e=.returned c∧Same w w'∧(∀ b,b < w.heap.size→(∀ l,κ l≠some (some b))→w'.heap[b]?=w.heap[b]?)∧(∀ o ∈ objs,aGw w w' κ o) ∧
      RelV w'.heap dead r c B∧(∀ b ∈ B,ok b∨w.heap.size≤b)∧(deep=true→B.Nodup∧∀ b ∈ B,w.heap.size≤b∧eW w' b):=by
  classical
  obtain ⟨h1,h2⟩:=ha.get
  obtain ⟨hx1,hx2⟩:=aB3 hx
  have hn:=Nat.le_of_ble_eq_true hn
  let Γ:Ctx P N:={ base:=w.heap.size,ok:=ok,io:=fun l=>match κ l with | some (some b)=>some b | _=>none,w0:=w,mine:=fun _=>False,lent:=fun _=>False }
  have hio:∀ l b,Γ.io l=some b↔κ l=some (some b):=by
    intro l b
    show (match κ l with | some (some b)=>some b | _=>none)=some b↔_
    cases κ l with
    | none=>simp
    | some o=>cases o <;> simp
  have hsz:(cargs++Array.replicate (fn.ntmps - cargs.size) undef).size=N:=by
    have:cargs.size=args.length:=by rw [h1];simp
    simp [this,hN];omega
  have hblt:∀ l b,κ l=some (some b)→b < w.heap.size:=by
    intro l b e
    obtain ⟨o,ho,rfl⟩:=hκ l _ e
    rcases hob o ho with ⟨e',_⟩ | ⟨b',cs,t,e',_,g,_⟩
    · rw [e] at e';cases e'
    · rw [e] at e';cases e'
      rcases Nat.lt_or_ge b w.heap.size with h | h
      · exact h
      · simp [Array.getElem?_eq_none h] at g
  refine calls_of_wp hf hb ?_
  let ow:Nat→Own:=fun b=>if hh:∃ l,κ l=some (some b) then .lab hh.choose else .none
  have how:∀ b l,κ l=some (some b)→ow b=.lab l:=by
    intro b l e
    have hh:∃ l,κ l=some (some b):=⟨l,e⟩
    show (if hh:_ then _ else _)=_
    rw [dif_pos hh,hinj _ _ b hh.choose_spec e]
  have how2:∀ b,ow b≠.none→∃ l,κ l=some (some b):=by
    intro b hb'
    rcases Classical.em (∃ l,κ l=some (some b)) with hh | hh
    · exact hh
    · exfalso;apply hb'
      show (if hh:_ then _ else _)=_
      rw [dif_neg hh]
  have hsim:Sim Γ ⟨hP args 0,aED objs⟩ { tmps:=cargs++Array.replicate (fn.ntmps - cargs.size) undef,defers:=[] } w:=by
    refine ⟨ow,κ,{ size:=hsz,defers:=rfl,kept:=⟨rfl,rfl,rfl,Nat.le_refl _,fun _ _ _ _=>rfl,fun b _ _ cs t h=>⟨cs,h,rfl⟩⟩,slots:=fun k=>?_,objs:=fun l ob hl=>?_,gone:=fun l hl=>?_,own:=fun b hb=>?_,ios:=fun l b hl _=>(hio l b).1 hl,fresh:=fun l b hl hi=>?_ }⟩
    · rw [mT]
      by_cases hk:k < args.length
      · rw [if_pos ⟨Nat.zero_le _,by simpa using hk⟩]
        obtain ⟨B,g1,g2⟩:=h2 k hk
        have hB:∀ b ∈ B,∀ l,ow b≠.lab l:=by
          intro b hb l e
          obtain ⟨l',e'⟩:=how2 b (by rw [e];simp)
          obtain ⟨o,ho,rfl⟩:=hκ l' _ e'
          rcases hob o ho with ⟨e2,_⟩ | ⟨b',cs,t,e2,hnok,_⟩
          · rw [e'] at e2;cases e2
          · rw [e'] at e2;cases e2;exact hnok (g2 b hb)
        refine ⟨B,?_,fun b hb=>⟨RelV.below _ _ _ g1 b hb,.inl (g2 b hb),hB b hb⟩,by simp⟩
        have e:(cargs++Array.replicate (fn.ntmps - cargs.size) undef).getD k undef=cargs.toList.getD k undef:=by
          have hlt:k < cargs.size:=by rw [h1] at hk;simpa using hk
          simp [Array.getD_eq_getD_getElem?,Array.getElem?_append,hlt,List.getD_eq_getElem?_getD]
        rw [e]
        simpa only [Nat.sub_zero] using g1
      · rw [if_neg (by simpa using hk)]
        exact ⟨[],by simp [RelV],by simp,by simp⟩
    · rcases aAo (os:=objs) (l:=l) with ⟨g1,_⟩ | ⟨o,ho,rfl,g1⟩
      · simp only [g1] at hl;cases hl
      · simp only [g1] at hl;cases hl
        refine ⟨[],by simp,by simp,?_⟩
        rcases hob o ho with ⟨e1,e2⟩ | ⟨b,cs,t,e1,_,e3,e4⟩
        · exact .inl ⟨e1,e2,rfl⟩
        · exact .inr ⟨b,cs,t,e1,how b _ e1,e3,by simpa using e4⟩
    · cases hk:κ l with
      | none=>rfl
      | some o =>
        obtain ⟨x,hx,rfl⟩:=hκ l o hk
        rcases aAo (os:=objs) (l:=x.l) with ⟨_,g2⟩ | ⟨_,_,_,g1⟩
        · exact absurd rfl (g2 x hx)
        · simp only [g1] at hl;cases hl
    · obtain ⟨l,e⟩:=how2 b hb
      exact ⟨hblt l b e,.inr ⟨l,how b l e,(hio l b).2 e⟩⟩
    · rw [(hio l b).2 hl] at hi;cases hi
  have hioN:∀ l,Nat.blt l 100000=true→Γ.io l=none:=by
    intro l hl
    have hl:=(aZ _ _).1 hl
    cases hi:Γ.io l with
    | none=>rfl
    | some b =>
      obtain ⟨o,ho,rfl⟩:=hκ l _ ((hio l b).1 hi)
      have:=hx1 o ho;omega
  refine wp_mono (h Γ rfl rfl (fun _ h=>h) (fun _ h=>h) (fun _ h=>h) (fun l b e=>(hio l b).1 e) hioN _ _ hsim) fun e a' w' ⟨E',hs',hq⟩=>?_
  have fin:RetX Γ rs E' r deep objs→a'.defers=[]∧∃ v,(results fn a'.tmps).run P w'=.ok v w'∧∃ c B,Ending.returned v=.returned c∧Same w w'∧(∀ b,b < w.heap.size→(∀ l,κ l≠some (some b))→w'.heap[b]?=w.heap[b]?)∧(∀ o ∈ objs,aGw w w' κ o) ∧
      RelV w'.heap dead r c B∧(∀ b ∈ B,ok b∨w.heap.size≤b)∧(deep=true→B.Nodup∧∀ b ∈ B,w.heap.size≤b∧eW w' b):=by
    rintro ⟨hr,hr2⟩
    obtain ⟨c,B,g1,g2,g3,g4⟩:=hr fn hrs a' w' hs'
    obtain ⟨E2,⟨ow2,β2,hs2⟩,hr2⟩:=hr2 a' w' hs'
    refine ⟨hs2.defers,c,g1,c,B,rfl,⟨hs2.kept.os,hs2.kept.output,hs2.kept.tape,hs2.kept.size⟩,fun b hb hn=>hs2.kept.old b hb (fun l e=>hn l ((hio l b).1 e)) (fun h=>h),fun o ho=>⟨fun e=>?_,fun b e cs t hc=>?_⟩,g2,fun b hb=>(g3 b hb).2.imp id (fun h=>(h.elim id False.elim:Γ.nww b).elim id False.elim),fun hd=>⟨(g4 hd).1,fun b hb=>⟨(((g4 hd).2 b hb).2.elim id False.elim:Γ.nww b).elim id False.elim,((g4 hd).2 b hb).1⟩⟩⟩
    · refine hnil o ho ?_
      rcases hob o ho with ⟨_,e2⟩ | ⟨b,_,_,e2,_⟩
      · exact e2
      · rw [e] at e2;cases e2
    · obtain ⟨dp,hl⟩:=hr2 o ho
      obtain ⟨Bo,_,_,k3⟩:=hs2.objs o.l _ hl
      have hβ:=hs2.ios o.l b ((hio o.l b).2 e) (by rw [hl];rfl)
      rcases k3 with ⟨k4,_⟩ | ⟨b',cs',t',k4,k5,k6,k7⟩
      · rw [hβ] at k4;cases k4
      · rw [hβ] at k4;cases k4
        obtain ⟨cs2,q1,q2⟩:=hs2.kept.ios b (hblt _ _ e) (fun h=>h) cs t hc
        rw [k6] at q1;cases q1
        have:=vG (hsc o ho) k7
        subst this
        exact ⟨cs',k6,q2,by simpa using k7⟩
  cases e with
  | normal=>exact fin hq
  | ret=>exact fin hq
  | exit id=>exact hq.elim
  | goto l=>exact hq.elim
  | panic ch=>exact hq.elim
  | outgrown=>exact hq.elim
def κ1 (b0:Nat):Nat→Option (Option Nat):=fun l=>if l=100000 then some (some b0) else none
def MeetsP (P:Program) (f:FuncId) (p:PV) (vb:Value) (args old new:List PV) (r:PV) (deep:Bool):Prop :=
  ∀ (w:World) (cargs:Array Value) (ok:Nat→Prop) (b0:Nat) (cs:Array Value) (t:TypeId),XArgs w.heap ok (κ1 b0) args cargs.toList→¬ok b0→w.heap[b0]?=some (.cells cs t (0,0))→RelL w.heap true dead (.sc vb::old) cs 0 []→(∃ B,RelV w.heap dead p vb B∧∀ b ∈ B,ok b) →
    Calls P f cargs w fun e w'=>∃ c B,e=.returned c∧Same w w'∧(∀ b,b < w.heap.size→b≠b0→w'.heap[b]?=w.heap[b]?)∧(∃ cs',w'.heap[b0]?=some (.cells cs' t (0,0))∧cs'.size=cs.size∧RelL w'.heap true dead (.sc vb::new) cs' 0 []) ∧
      RelV w'.heap dead r c B∧(∀ b ∈ B,ok b∨w.heap.size≤b)∧(deep=true→B.Nodup∧∀ b ∈ B,w.heap.size≤b∧eW w' b)
theorem MeetsP.intro {f:FuncId} {fn:Func} {c:Code} {p:PV} {vb:Value} {args old new:List PV} {r:PV} {deep:Bool} {rs:Array ResultVar} (hf:P.funcs[f]?=some fn) (hb:fn.body=some c) (hN:fn.ntmps=N) (hrs:fn.results=rs) (hn:Nat.ble args.length N=true) (hp:p.labs=[]) (hsc:lP new=true)
    (h:∀ Γ:Ctx P N,(∀ l,Nat.blt l 100000=true→Γ.io l=none)→OldF Γ vb p→CodeT Γ c ⟨hP args 0,[(100000,some ⟨.sc vb::old,true,false⟩)]⟩ (vE Γ rs r deep [⟨100000,.sc vb::old,.sc vb::new⟩])):MeetsP P f p vb args old new r deep:=by
  intro w cargs ok b0 cs t ha hnok hb0 hrel ⟨Bp,hp1,hp2⟩
  have hκ:∀ l o,κ1 b0 l=some o→l=100000∧o=some b0:=by
    intro l o e
    unfold κ1 at e
    by_cases hl:l=100000
    · rw [if_pos hl] at e;exact ⟨hl,(Option.some.inj e).symm⟩
    · rw [if_neg hl] at e;cases e
  refine (MeetsX.core (r:=r) (deep:=deep) hf hb hN hrs hn (objs:=[⟨100000,.sc vb::old,.sc vb::new⟩]) rfl (by simp) (by simpa [lP] using hsc) w cargs ok (κ1 b0) ha (fun o ho=>?_) (fun l o e=>?_) (fun l l' b e e'=>?_) (fun Γ h1 h2 h3 h4 h5 h6 h7=>?_)).mono fun e w' ⟨c,B,q1,q2,q3,q4,q5,q6,q7⟩=>?_
  · simp only [List.mem_singleton] at ho;subst ho
    exact .inr ⟨b0,cs,t,by simp [κ1],hnok,hb0,hrel⟩
  · exact ⟨⟨100000,.sc vb::old,.sc vb::new⟩,by simp,(hκ l o e).1.symm⟩
  · exact (hκ l _ e).1.trans (hκ l' _ e').1.symm
  · refine h Γ h7 ⟨hp,Bp,by rw [h2];exact hp1,fun b hb=>⟨h3 b (hp2 b hb),by rw [h1];exact RelV.below _ _ _ hp1 b hb,⟨h4 b,h5 b⟩,fun l e=>?_⟩⟩
    have:=(hκ l _ (h6 l b e)).2
    cases this
    exact hnok (hp2 _ hb)
  · refine ⟨c,B,q1,q2,fun b hb hne=>q3 b hb (fun l e=>?_),?_,q5,q6,q7⟩
    · have:=(hκ l _ e).2
      cases this;exact hne rfl
    · exact (q4 ⟨100000,.sc vb::old,.sc vb::new⟩ (by simp)).2 b0 (by simp [κ1]) cs t hb0
end
section
variable {P:Program} {N:Nat} {Γ:Ctx P N} {S:List (Nat × Slot)} {O:List (Nat × Option Ob)} {ow:Nat→Own} {β:Nat→Option (Option Nat)} {F:Env} {a:Act} {w:World}
variable {d:Nat} {ty:TypeId} {pos:String} {af:Array Edge} {g:Option (Nat × Bool)}
def MeetsQ (P:Program) (f:FuncId) (args cells:List PV):Prop :=
  ∀ (w:World) (cargs:Array Value) (ok:Nat→Prop),RelArgs w.heap ok args cargs.toList →
    Calls P f cargs w fun e w'=>∃ b cs t B,e=.returned (.pointer (some ⟨b,0,none⟩))∧Below w.heap.size w w'∧w.heap.size≤b∧w'.heap[b]?=some (.cells cs t (0,0))∧RelL w'.heap true dead cells cs 0 B∧(∀ x ∈ B,x < w'.heap.size∧x≠b∧(ok x∨w.heap.size≤x))
def RetQ (Γ:Ctx P N) (rs:Array ResultVar) (E:Env) (cells:List PV):Prop :=
  ∀ fn:Func,fn.results=rs→∀ a w,Sim Γ E a w→∃ b cs t B,(results fn a.tmps).run P w=.ok (.pointer (some ⟨b,0,none⟩)) w∧Γ.nww b∧w.heap[b]?=some (.cells cs t (0,0))∧RelL w.heap true dead cells cs 0 B∧(∀ x ∈ B,x < w.heap.size∧x≠b∧(Γ.ok x∨Γ.nw x))
def aJE (Γ:Ctx P N) (rs:Array ResultVar) (cells:List PV):Exit→Env→Prop
  | .normal,E=>RetQ Γ rs E cells
  | .ret,E=>RetQ Γ rs E cells
  | _,_=>False
theorem RetQ.weak {E E0:Env} {rs:Array ResultVar} {cells:List PV} (he:Ent Γ E E0) (h:RetQ Γ rs E0 cells):RetQ Γ rs E cells:=fun fn hf a w hs=>h fn hf a w (he a w hs)
theorem RetQ.mk {t l:Nat} {cells cells':List PV} {dp dp0:Bool} (h:lkq S t=some ⟨.ptr l 0,dp0⟩) (ho:loq O l=some ⟨cells,dp,false⟩) (hne:cells≠[]) (hio:Γ.io l=none) (hs:SoftL cells cells'):RetQ Γ #[.tmp t] ⟨S,O⟩ cells':=by
  rintro fn hf a w ⟨ow,β,hsim⟩
  rw [uG hf]
  obtain ⟨B,h1,_⟩:=hsim.slots t
  rw [dX h] at h1
  simp only [RelV] at h1
  obtain ⟨Bo,o1,o2,hob⟩:=hsim.objs l ⟨cells,dp,false⟩ (by rw [← cX];exact ho)
  rcases hob with ⟨_,p2,_⟩ | ⟨b,cs,u,p1,p2,p3,p4⟩
  · exact absurd p2 hne
  · refine ⟨b,cs,u,Bo,by simp [lS,h1.2 b p1],hsim.fresh l _ p1 hio,p3,hs.2 _ _ _ _ _ _ (by simpa using p4),fun x hx=>⟨(o1 x hx).1,fun e=>(o1 x hx).2.2 l (e ▸ p2),(o1 x hx).2.1⟩⟩
end
section
variable {P:Program} {N:Nat}
theorem MeetsQ.intro {f:FuncId} {fn:Func} {c:Code} {args cells:List PV} {rs:Array ResultVar} (hf:P.funcs[f]?=some fn) (hb:fn.body=some c) (hN:fn.ntmps=N) (hrs:fn.results=rs) (hn:Nat.ble args.length N=true)
    (h:∀ Γ:Ctx P N,(∀ l,Nat.blt l 100000=true→Γ.io l=none)→CodeT Γ c ⟨hP args 0,[]⟩ (aJE Γ rs cells)):MeetsQ P f args cells:=by
  intro w cargs ok ha
  obtain ⟨h1,h2⟩:=ha.get
  have hn:=Nat.le_of_ble_eq_true hn
  let Γ:Ctx P N:={ base:=w.heap.size,ok:=fun b=>ok b,io:=fun _=>none,w0:=w,mine:=fun _=>False,lent:=fun _=>False }
  have hsz:(cargs++Array.replicate (fn.ntmps - cargs.size) undef).size=N:=by
    have:cargs.size=args.length:=by rw [h1];simp
    simp [this,hN];omega
  refine calls_of_wp hf hb ?_
  have hsim:Sim Γ ⟨hP args 0,[]⟩ { tmps:=cargs++Array.replicate (fn.ntmps - cargs.size) undef,defers:=[] } w:=by
    refine ⟨fun _=>.none,fun _=>none,{ size:=hsz,defers:=rfl,kept:=⟨rfl,rfl,rfl,Nat.le_refl _,fun _ _ _ _=>rfl,fun b _ _ cs t h=>⟨cs,h,rfl⟩⟩,slots:=fun k=>?_,objs:=fun l ob hl=>(by simp [lo] at hl),gone:=fun _ _=>rfl,own:=fun b hb=>absurd rfl hb,ios:=fun l b hl=>(by cases hl),fresh:=fun l b hl=>(by cases hl) }⟩
    rw [mT]
    by_cases hk:k < args.length
    · rw [if_pos ⟨Nat.zero_le _,by simpa using hk⟩]
      obtain ⟨B,g1,g2⟩:=h2 k hk
      refine ⟨B,?_,fun b hb=>⟨RelV.below _ _ _ g1 b hb,.inl (g2 b hb),fun l=>by simp⟩,by simp⟩
      have e:(cargs++Array.replicate (fn.ntmps - cargs.size) undef).getD k undef=cargs.toList.getD k undef:=by
        have hlt:k < cargs.size:=by rw [h1] at hk;simpa using hk
        simp [Array.getD_eq_getD_getElem?,Array.getElem?_append,hlt,List.getD_eq_getElem?_getD]
      rw [e]
      simp only [Nat.sub_zero]
      exact RelV.keep _ _ _ (fun l _=>by intro ob h;cases h) (fun _ _=>rfl) g1
    · rw [if_neg (by simpa using hk)]
      exact ⟨[],by simp [RelV],by simp,by simp⟩
  refine wp_mono (h Γ (fun _ _=>rfl) _ _ hsim) fun e a' w' ⟨E',hs',hq⟩=>?_
  have fin:RetQ Γ rs E' cells→a'.defers=[]∧∃ v,(results fn a'.tmps).run P w'=.ok v w'∧∃ b cs t B,Ending.returned v=.returned (.pointer (some ⟨b,0,none⟩))∧Below w.heap.size w w'∧w.heap.size≤b∧w'.heap[b]?=some (.cells cs t (0,0))∧RelL w'.heap true dead cells cs 0 B∧(∀ x ∈ B,x < w'.heap.size∧x≠b∧(ok x∨w.heap.size≤x)):=by
    intro hr
    obtain ⟨b,cs,t,B,g1,g2,g3,g4,g5⟩:=hr fn hrs a' w' hs'
    obtain ⟨ow,β,hs'⟩:=hs'
    exact ⟨hs'.defers,_,g1,b,cs,t,B,rfl,⟨hs'.kept.os,hs'.kept.tape,hs'.kept.output,hs'.kept.size,fun k hk=>hs'.kept.old k hk (fun l=>by simp [Γ]) (fun h=>h)⟩,g2.elim id False.elim,g3,g4,fun x hx=>⟨(g5 x hx).1,(g5 x hx).2.1,(g5 x hx).2.2.imp id (fun h=>(h.elim id False.elim:Γ.nww x).elim id False.elim)⟩⟩
  cases e with
  | normal=>exact fin hq
  | ret=>exact fin hq
  | exit id=>exact hq.elim
  | goto l=>exact hq.elim
  | panic ch=>exact hq.elim
  | outgrown=>exact hq.elim
end
end Go.Ev
/- The engine, part XX: arrays of arrays as own rows; addresses known not to be nil. -/
namespace Go.Ev
open Go.RowKit (Below)
set_option linter.all false
theorem SoftL.repA {α:Type} {zs:List Value} {e:α→List PV} {z:α} (h:SoftL (zs.map .sc) (e z)):∀ n:Nat,SoftL ((List.replicate n zs).flatten.map .sc) ((List.replicate n z).flatMap e)
  | 0=>SoftL.nil
  | n+1=>by rw [List.replicate_succ,List.replicate_succ,List.flatten_cons,List.map_append,List.flatMap_cons];exact h.app (SoftL.repA h n)
theorem ixq {i j q:Int} {m sz s1:Nat} (hi:0≤i) (hj:0≤j) (hq:bH (i*(m:Int)+j)=some q) (hs:s1=m*sz):i.toNat*s1+j.toNat*sz=q.toNat*sz:=by
  have e:=Option.some.inj hq
  subst hs
  subst e
  obtain ⟨a,rfl⟩:=Int.eq_ofNat_of_zero_le hi
  obtain ⟨b,rfl⟩:=Int.eq_ofNat_of_zero_le hj
  have:((a:Int)*(m:Int)+(b:Int)).toNat=a*m+b:=by
    rw [← Int.natCast_mul,← Int.natCast_add];rfl
  rw [this]
  simp only [Int.toNat_natCast]
  rw [Nat.add_mul,Nat.mul_assoc]
section
variable {P:Program} {N:Nat} {Γ:Ctx P N} {S:List (Nat × Slot)} {O:List (Nat × Option Ob)}
theorem aD9 {t len e n by_:Nat} {agg:Bool} [ht:ArT P t len e] [hi:TI P e n agg by_] (w:World) {b off i:Nat} {k:IntKind} (h:i < len) :
    (Instr.indexAt t (.pointer (some ⟨b,off,none⟩)) (.int k i)).run P w=.ok (.pointer (some ⟨b,off+i*n,none⟩)) w:=by
  obtain ⟨⟨ii,h1,h2,_⟩,_⟩:=hi.ok
  simp [Instr.indexAt,asIntOf,Instr.sureAddr,run_underlying ht.ok,sizeOf,typeInfo,h1,h2,Addr.add_lit,h]
variable {d:Nat} {ty:TypeId} {pos:String} {af:Array Edge} {g:Option (Nat × Bool)}
theorem tA {x i:Operand} {t len e sz by_ r k0 q:Nat} {agg:Bool} {k:IntKind} {j:Int} {ob:Ob} [ht:ArT P t len e] [hi:TI P e sz agg by_] (hx:evq S x=some (.ptr r k0)) (ho:loq O r=some ob) (hne:Nat.blt 0 ob.cells.length=true) (hix:evq S i=some (.sc (.int k j))) (hj:0≤j∧j < len) (hq:k0+j.toNat*sz=q) (hd:Nat.blt d N=true) :
    Local Γ ⟨some d,.indexAddr t x i,ty,pos,af,g⟩ ⟨S,O⟩ ⟨[(d,⟨.ptr r q,false⟩)],[]⟩ (ors x++ors i) [r] []:=by
  intro F hs hlo _
  refine bN fun a w hsim=>?_
  have hiv:=qR hsim hix (fun k hk=>hs k (by simp [hk]))
  obtain ⟨ow,β,hsim⟩:=hsim
  obtain ⟨m,rfl⟩:=Int.eq_ofNat_of_zero_le hj.1
  have hm:m < len:=by have:=hj.2;omega
  obtain ⟨B,h1,h2⟩:=dO hsim hx (fun k hk=>hs k (by simp [hk]))
  simp only [RelV] at h1
  obtain ⟨Bo,o1,o2,hob⟩:=hsim.objs r _ (by rw [hlo r (by simp),← cX];exact ho)
  rcases hob with ⟨e1,e2,_⟩ | ⟨b,cs,u,e1,e2,e3,e4⟩
  · rw [e2] at hne;cases hne
  · subst hq
    refine ⟨.pointer (some ⟨b,k0+m*sz,none⟩),w,by simp [execOp,h1.2 b e1,hiv,aD9 (t:=t) (e:=e) w hm],ow,β,?_⟩
    exact hsim.put ((aZ _ _).1 hd) (O:=[]) (by simp only [RelV,Int.toNat_natCast];exact ⟨trivial,fun b' hb=>by rw [e1] at hb;cases hb;rfl⟩) (by simp)
theorem aJt {t e sz by_:Nat} {agg:Bool} {ps:List PV} {x:Operand} {p:PV} {cs:List PV} [ht:SlT P t e] [hi:TI P e sz agg by_] [hz:ZT P e ps] (hx:evq S x=some p) (hst:stB O false p=true) (hl:p.labs=[]) (hlen:Nat.beq (bO p).length sz=true) (hcs:bO p=cs) (hsz:Nat.blt 0 sz=true) (hs2:Nat.ble sz 1000=true) (hio:Γ.io d=none) (hd:Nat.blt d N=true) :
    Local Γ ⟨some d,.buildSlice t 1 #[(0,x)],ty,pos,af,g⟩ ⟨S,O⟩ ⟨[(d,⟨.ref d sz 0 1,false⟩)],[(d,some ⟨cs,aAP p,false⟩)]⟩ (ors x) [] [d]:=by
  subst hcs
  intro F hs hlo hnl
  refine bN fun a w ⟨ow,β,hsim⟩=>?_
  obtain ⟨B,h1,h2⟩:=dO hsim hx hs
  obtain ⟨r1,r2,r3⟩:=oV (O:=O) hsim h1 hst (by simp [rQ,hl])
  have hlen:=Nat.eq_of_beq_eq_true hlen
  refine ⟨_,_,by simp only [execOp,List.map_toArray,List.map_cons,List.map_nil];rw [Sem.run_bind,aBT (sz:=sz) w _ (r2.trans hlen) (by have:=(aZ _ _).1 hsz;omega) (Nat.le_of_ble_eq_true hs2)];rfl,?_⟩
  refine hsim.layPut (pZ w _) (b0:=w.heap.size) (by simp) (fun b hb _=>fL w _ hb) (eD w _) (hnl d (by simp)) hio [] [] (.inl (Nat.le_refl _)) (.inl hsim.kept.size) ⟨bO p,aAP p,false⟩ (B:=B) ?_ ?_ h2 ?_ ((aZ _ _).1 hd) (fun β' hβ=>?_)
  · exact RelL.keep _ _ _ _ (fun q _ l _ o ho=>by cases ho) (fun b hb=>fL w _ (h2 b hb).1) r1
  · intro h;cases h
  · intro hsc
    have:=aAO hsc h1
    subst this;simp
  · simp only [RelV]
    refine ⟨trivial,fun h=>by rw [hβ] at h;simp at h,fun b hb=>?_⟩
    rw [hβ] at hb;cases hb
    exact ⟨1,(a.eval x).cells,e,by simp,eD w _,by simp [r2,hlen],Nat.le_refl _⟩
end
end Go.Ev
/- The engine, part YY: calls that rest on what the world's tables hold. -/
namespace Go.Ev
open Go.RowKit (Below)
set_option linter.all false
class WT (T:World→Prop):Prop where
  keep:∀ w w',T w→Below w.heap.size w w'→T w'
def MeetsT (P:Program) (T:World→Prop) (f:FuncId) (args:List PV) (r:PV) (deep:Bool):Prop :=
  ∀ (w:World) (cargs:Array Value) (ok:Nat→Prop),T w→RelArgs w.heap ok args cargs.toList →
    Calls P f cargs w fun e w'=>∃ c B,e=.returned c∧Below w.heap.size w w'∧RelV w'.heap dead r c B∧(∀ b ∈ B,ok b∨w.heap.size≤b)∧(deep=true→B.Nodup∧∀ b ∈ B,w.heap.size≤b∧eW w' b)
def TOk {P:Program} {N:Nat} (T:World→Prop) (Γ:Ctx P N):Prop:=∀ w,Kept Γ w→T w
section
variable {P:Program} {N:Nat} {T:World→Prop}
theorem MeetsT.intro [WT T] {f:FuncId} {fn:Func} {c:Code} {args:List PV} {r:PV} {deep:Bool} {rs:Array ResultVar} (hf:P.funcs[f]?=some fn) (hb:fn.body=some c) (hN:fn.ntmps=N) (hrs:fn.results=rs) (hn:Nat.ble args.length N=true)
    (h:∀ Γ:Ctx P N,(∀ l,Nat.blt l 100000=true→Γ.io l=none)→TOk T Γ→CodeT Γ c ⟨hP args 0,[]⟩ (wA Γ rs r deep)):MeetsT P T f args r deep:=by
  intro w cargs ok hTw ha
  obtain ⟨h1,h2⟩:=ha.get
  have hn:=Nat.le_of_ble_eq_true hn
  let Γ:Ctx P N:={ base:=w.heap.size,ok:=fun b=>ok b,io:=fun _=>none,w0:=w,mine:=fun _=>False,lent:=fun _=>False }
  have hΓ:TOk T Γ:=fun w' k=>WT.keep w w' hTw ⟨k.os,k.tape,k.output,k.size,fun b hb=>k.old b hb (fun l=>by simp [Γ]) (fun h=>h)⟩
  have hsz:(cargs++Array.replicate (fn.ntmps - cargs.size) undef).size=N:=by
    have:cargs.size=args.length:=by rw [h1];simp
    simp [this,hN];omega
  refine calls_of_wp hf hb ?_
  have hsim:Sim Γ ⟨hP args 0,[]⟩ { tmps:=cargs++Array.replicate (fn.ntmps - cargs.size) undef,defers:=[] } w:=by
    refine ⟨fun _=>.none,fun _=>none,{ size:=hsz,defers:=rfl,kept:=⟨rfl,rfl,rfl,Nat.le_refl _,fun _ _ _ _=>rfl,fun b _ _ cs t h=>⟨cs,h,rfl⟩⟩,slots:=fun k=>?_,objs:=fun l ob hl=>(by simp [lo] at hl),gone:=fun _ _=>rfl,own:=fun b hb=>absurd rfl hb,ios:=fun l b hl=>(by cases hl),fresh:=fun l b hl=>(by cases hl) }⟩
    rw [mT]
    by_cases hk:k < args.length
    · rw [if_pos ⟨Nat.zero_le _,by simpa using hk⟩]
      obtain ⟨B,g1,g2⟩:=h2 k hk
      refine ⟨B,?_,fun b hb=>⟨RelV.below _ _ _ g1 b hb,.inl (g2 b hb),fun l=>by simp⟩,by simp⟩
      have e:(cargs++Array.replicate (fn.ntmps - cargs.size) undef).getD k undef=cargs.toList.getD k undef:=by
        have hlt:k < cargs.size:=by rw [h1] at hk;simpa using hk
        simp [Array.getD_eq_getD_getElem?,Array.getElem?_append,hlt,List.getD_eq_getElem?_getD]
      rw [e]
      simp only [Nat.sub_zero]
      exact RelV.keep _ _ _ (fun l _=>by intro ob h;cases h) (fun _ _=>rfl) g1
    · rw [if_neg (by simpa using hk)]
      exact ⟨[],by simp [RelV],by simp,by simp⟩
  refine wp_mono (h Γ (fun _ _=>rfl) hΓ _ _ hsim) fun e a' w' ⟨E',hs',hq⟩=>?_
  have fin:RetIs Γ rs E' r deep→a'.defers=[]∧∃ v,(results fn a'.tmps).run P w'=.ok v w'∧∃ c B,Ending.returned v=.returned c∧Below w.heap.size w w'∧RelV w'.heap dead r c B∧(∀ b ∈ B,ok b∨w.heap.size≤b)∧(deep=true→B.Nodup∧∀ b ∈ B,w.heap.size≤b∧eW w' b):=by
    intro hr
    obtain ⟨c,B,g1,g2,g3,g4⟩:=hr fn hrs a' w' hs'
    obtain ⟨ow,β,hs'⟩:=hs'
    refine ⟨hs'.defers,c,g1,c,B,rfl,⟨hs'.kept.os,hs'.kept.tape,hs'.kept.output,hs'.kept.size,fun k hk=>hs'.kept.old k hk (fun l=>by simp [Γ]) (fun h=>h)⟩,g2,fun b hb=>(g3 b hb).2.imp id (fun h=>(h.elim id False.elim:Γ.nww b).elim id False.elim),fun hd=>⟨(g4 hd).1,fun b hb=>⟨(((g4 hd).2 b hb).2.elim id False.elim:Γ.nww b).elim id False.elim,((g4 hd).2 b hb).1⟩⟩⟩
  cases e with
  | normal=>exact fin hq
  | ret=>exact fin hq
  | exit id=>exact hq.elim
  | goto l=>exact hq.elim
  | panic ch=>exact hq.elim
  | outgrown=>exact hq.elim
variable {Γ:Ctx P N} {S:List (Nat × Slot)} {O:List (Nat × Option Ob)} {d:Nat} {ty:TypeId} {pos:String} {af:Array Edge} {g:Option (Nat × Bool)}
end
end Go.Ev
/- The engine, part ZZ: a table of rows that share what they hold: while it is only read it stands apart (the blocks are no one's), and is read by its own values; while it grows it is an own row with rows within. -/
namespace Go.Ev
open Go.RowKit (Below)
set_option linter.all false
theorem yI {α:Type} {l x:List α} {enc encw:α→List PV} {j:Int} {y y':α} {sz:Nat} (hx:bH (dD l j y')=some x) (hl:idx l j=some y) (h:∀ y,(enc y).length=sz) (hs:SoftL (encw y') (enc y')):SoftL ((l.flatMap enc).take (j.toNat*sz)++encw y'++(l.flatMap enc).drop (j.toNat*sz+sz)) (x.flatMap enc):=by
  rw [← lR (enc:=enc) (vs:=enc y') hx hl h rfl]
  exact ((SoftL.refl _).app hs).app (SoftL.refl _)
def fM (sz:Nat) (r:List (List Value)):PV:=.rw sz r.length (r.flatMap fun e=>e.map PV.sc)
def TabR (h:Array Obj) (sz:Nat) (vt:Value) (V:List (List (List Value))) (Bs:List Nat):Prop :=
  RelV h dead (.rw 1 V.length (V.map (fM sz))) vt Bs∧Bs.Nodup∧(∀ b ∈ Bs,∃ cs t,h[b]?=some (.cells cs t (0,0)))∧∀ r ∈ V,∀ e ∈ r,e.length=sz
def rM:Value→Nat
  | .slice (some a) _ _=>a.block
  | _=>0
theorem aEj (l:List Value) (ps:List PV) (h:eV ps=true):eV (l.map PV.sc++ps)=true:=by
  induction l with
  | nil=>exact h
  | cons v l ih=>simp [eV,kK,ih]
theorem xC:∀ r:List (List Value),eV (r.flatMap fun e=>e.map PV.sc)=true
  | []=>rfl
  | e::r=>by rw [List.flatMap_cons];exact aEj _ _ (xC r)
section
variable {P:Program} {N:Nat} {Γ:Ctx P N} {S:List (Nat × Slot)} {O:List (Nat × Option Ob)}
structure Foreign (Γ:Ctx P N) (sz:Nat) (vt:Value) (V:List (List (List Value))) (Bs:List Nat):Prop where
  tab:TabR Γ.w0.heap sz vt V Bs
  off:∀ b ∈ Bs,b < Γ.base∧¬Γ.ok b∧¬Γ.nw b
def qA (Γ:Ctx P N) (vt:Value) (k:Nat):Value:=match Γ.w0.heap[rM vt]? with
  | some (.cells cs _ _)=>cs.getD k undef
  | _=>undef
theorem Foreign.top {sz:Nat} {vt:Value} {V:List (List (List Value))} {Bs:List Nat} (hF:Foreign Γ sz vt V Bs) (hV:V≠[]) :
    ∃ cap cs t,vt=.slice (some ⟨rM vt,0,none⟩) V.length cap∧Γ.w0.heap[rM vt]?=some (.cells cs t (0,0))∧rM vt ∈ Bs ∧
      ∀ (k:Nat) r,V[k]?=some r→cs[k]?=some (qA Γ vt k)∧∃ B,RelV Γ.w0.heap dead (fM sz r) (qA Γ vt k) B∧∀ b ∈ B,b ∈ Bs:=by
  have h:=hF.tab.1
  simp only [RelV] at h
  rcases h with ⟨h1,_⟩ | ⟨b,cap,cs,t,O',⟨rfl,_,_⟩,h2,h3,rfl⟩
  · exact absurd (List.length_eq_zero_iff.1 h1) hV
  · refine ⟨cap,cs,t,rfl,h2,by simp [rM],fun k r hk=>?_⟩
    obtain ⟨c,O1,g1,_,g3,g4⟩:=RelL.get _ _ _ _ h3 k (fM sz r) (by rw [List.getElem?_map,hk];rfl)
    rw [Nat.zero_add] at g1
    have e:qA Γ (.slice (some ⟨b,0,none⟩) V.length cap) k=c:=by
      unfold qA rM
      simp only [h2]
      rw [Array.getD_eq_getD_getElem?,g1];rfl
    rw [e]
    exact ⟨g1,O1,g3,fun x hx=>by simp [g4 x hx]⟩
theorem Foreign.row {sz:Nat} {vt:Value} {V:List (List (List Value))} {Bs:List Nat} (hF:Foreign Γ sz vt V Bs) {k:Nat} {r:List (List Value)} (hk:V[k]?=some r) (hr:r≠[]) :
    ∃ cap cs t,qA Γ vt k=.slice (some ⟨rM (qA Γ vt k),0,none⟩) r.length cap∧Γ.w0.heap[rM (qA Γ vt k)]?=some (.cells cs t (0,0))∧rM (qA Γ vt k) ∈ Bs ∧
      RelL Γ.w0.heap true dead (r.flatMap fun e=>e.map PV.sc) cs 0 []:=by
  obtain ⟨_,_,_,_,_,_,h⟩:=hF.top (by rintro rfl;simp at hk)
  obtain ⟨_,B,h1,h2⟩:=h k r hk
  unfold fM at h1
  simp only [RelV] at h1
  rcases h1 with ⟨g1,_⟩ | ⟨b,cap,cs,t,O',⟨e,_,_⟩,g2,g3,rfl⟩
  · exact absurd (List.length_eq_zero_iff.1 g1) hr
  · rw [e]
    have:O'=[]:=jR _ (xC r) g3
    subst this
    exact ⟨cap,cs,t,rfl,g2,by simp [rM] at h2 ⊢;exact h2,g3⟩
variable {d:Nat} {ty:TypeId} {pos:String} {af:Array Edge} {g:Option (Nat × Bool)}
theorem Foreign.still {sz:Nat} {vt:Value} {V:List (List (List Value))} {Bs:List Nat} (hF:Foreign Γ sz vt V Bs) (hi0:∀ l,Γ.io l=none) {w:World} (hk:Kept Γ w) {b:Nat} (hb:b ∈ Bs):w.heap[b]?=Γ.w0.heap[b]? :=
  hk.old b (hF.off b hb).1 (fun l=>by rw [hi0];simp) (fun h=>(hF.off b hb).2.2 (.inl (.inr h)))
theorem aJU {α:Type} {R:List (List α)} {y:List α} {x i:Operand} {t e n by_ sz:Nat} {agg:Bool} {vt:Value} {V:List (List (List Value))} {Bs:List Nat} {k:IntKind} {j:Int} [ht:SlT P t e] [hi:TI P e n agg by_] (hF:Foreign Γ sz vt V Bs) (hVR:V.length=R.length)
    (hx:evq S x=some (.sc vt)) (hix:evq S i=some (.sc (.int k j))) (hl:idx R j=some y) (hd:Nat.blt d N=true) :
    Local Γ ⟨some d,.indexAddr t x i,ty,pos,af,g⟩ ⟨S,O⟩ ⟨[(d,⟨.sc (.pointer (some ⟨rM vt,j.toNat*n,none⟩)),false⟩)],[]⟩ (ors x++ors i) [] []:=by
  intro F hs _ _
  refine bN fun a w hsim=>?_
  have hxv:=qR hsim hx (fun k hk=>hs k (by simp [hk]))
  have hiv:=qR hsim hix (fun k hk=>hs k (by simp [hk]))
  obtain ⟨ow,β,hsim⟩:=hsim
  obtain ⟨h0,h1,h2⟩:=xW hl
  obtain ⟨m,rfl⟩:=Int.eq_ofNat_of_zero_le h0
  simp only [Int.toNat_natCast] at h1 h2 ⊢
  obtain ⟨cap,cs,u,e1,_⟩:=hF.top (by rintro rfl;simp at hVR;omega)
  refine ⟨.pointer (some ⟨rM vt,m*n,none⟩),w,?_,ow,β,hsim.put ((aZ _ _).1 hd) (O:=[]) (by simp only [RelV];exact ⟨trivial,trivial⟩) (by simp)⟩
  simp only [execOp,hxv,hiv]
  rw [e1]
  simp [uD (t:=t) (e:=e) (off:=0) w (show m < V.length by omega),rM]
theorem aJR {α:Type} {R:List (List α)} {y:List α} {x:Operand} {t n by_ sz:Nat} {vt:Value} {V:List (List (List Value))} {Bs:List Nat} {j:Int} [ht:TI P t n false by_] (hF:Foreign Γ sz vt V Bs) (hi0:∀ l,Γ.io l=none) (hVR:V.length=R.length)
    (hx:evq S x=some (.sc (.pointer (some ⟨rM vt,j.toNat*1,none⟩)))) (hl:idx R j=some y) (hd:Nat.blt d N=true) :
    Local Γ ⟨some d,.load t x,ty,pos,af,g⟩ ⟨S,O⟩ ⟨[(d,⟨.sc (qA Γ vt j.toNat),false⟩)],[]⟩ (ors x) [] []:=by
  intro F hs _ _
  refine bN fun a w hsim=>?_
  have hxv:=qR hsim hx (fun k hk=>hs k (by simp [hk]))
  obtain ⟨ow,β,hsim⟩:=hsim
  obtain ⟨h0,h1,h2⟩:=xW hl
  obtain ⟨cap,cs,u,e1,e2,e3,e4⟩:=hF.top (by rintro rfl;simp at hVR;omega)
  have hlt:j.toNat < V.length:=by omega
  obtain ⟨g1,_⟩:=e4 j.toNat _ (List.getElem?_eq_getElem hlt)
  have hb:=(hF.still hi0 hsim.kept e3).trans e2
  refine ⟨qA Γ vt j.toNat,w,?_,ow,β,hsim.put ((aZ _ _).1 hd) (O:=[]) (by simp only [RelV];exact ⟨trivial,trivial⟩) (by simp)⟩
  simp only [execOp,hxv]
  simp [vK (t:=t) (k:=j.toNat) w hb g1]
theorem aJT {α:Type} {R:List (List α)} {y:List α} {z:α} {x i:Operand} {t e n by_ sz:Nat} {agg:Bool} {vt:Value} {V:List (List (List Value))} {Bs:List Nat} {k:IntKind} {j j2:Int} [ht:SlT P t e] [hi:TI P e n agg by_] (hF:Foreign Γ sz vt V Bs) (hVR:V.length=R.length) (hVr:∀ (k:Nat) r row,V[k]?=some r→R[k]?=some row→r.length=row.length)
    (hx:evq S x=some (.sc (qA Γ vt j.toNat))) (hix:evq S i=some (.sc (.int k j2))) (hl:idx R j=some y) (hl2:idx y j2=some z) (hd:Nat.blt d N=true) :
    Local Γ ⟨some d,.indexAddr t x i,ty,pos,af,g⟩ ⟨S,O⟩ ⟨[(d,⟨.sc (.pointer (some ⟨rM (qA Γ vt j.toNat),j2.toNat*n,none⟩)),false⟩)],[]⟩ (ors x++ors i) [] []:=by
  intro F hs _ _
  refine bN fun a w hsim=>?_
  have hxv:=qR hsim hx (fun k hk=>hs k (by simp [hk]))
  have hiv:=qR hsim hix (fun k hk=>hs k (by simp [hk]))
  obtain ⟨ow,β,hsim⟩:=hsim
  obtain ⟨_,h1,h2⟩:=xW hl
  obtain ⟨h0,h3,h4⟩:=xW hl2
  obtain ⟨m,rfl⟩:=Int.eq_ofNat_of_zero_le h0
  simp only [Int.toNat_natCast] at h3 h4 ⊢
  have hlt:j.toNat < V.length:=by omega
  have hlen:=hVr j.toNat _ _ (List.getElem?_eq_getElem hlt) h1
  obtain ⟨cap,cs,u,e1,_⟩:=hF.row (List.getElem?_eq_getElem hlt) (by intro h;rw [h] at hlen;simp at hlen;omega)
  refine ⟨.pointer (some ⟨rM (qA Γ vt j.toNat),m*n,none⟩),w,?_,ow,β,hsim.put ((aZ _ _).1 hd) (O:=[]) (by simp only [RelV];exact ⟨trivial,trivial⟩) (by simp)⟩
  simp only [execOp,hxv,hiv]
  generalize hv:qA Γ vt j.toNat=v at e1 ⊢
  rw [e1]
  simp [uD (t:=t) (e:=e) (off:=0) w (show m < V[j.toNat].length by omega),rM]
theorem OldL.read {ow:Nat→Own} {β:Nat→Option (Option Nat)} {E:Env} {a:Act} {w:World} (h:SimG Γ ow β E a w):∀ {vs:List Value} {ps:List PV} {cs:Array Value} {i:Nat},OldL Γ vs ps→(∀ k,k < vs.length→cs[i+k]?=vs[k]?)→(∀ v ∈ vs,v.oneCell'=true)→∃ B,RelL w.heap true dead ps cs i B∧∀ b ∈ B,Im Γ ow w b
  | [],[],cs,i,_,_,_=>⟨[],by simp [RelL],by simp⟩
  | v::vs,p::ps,cs,i,ho,hc,h1=>by
    obtain ⟨⟨hl,B1,hB1,hB2⟩,ho⟩:=ho
    obtain ⟨B2,g1,g2⟩:=OldL.read h (i:=i+1) ho (fun k hk=>by
      have:=hc (k+1) (by simpa using hk)
      rw [show i+1+k=i+(k+1) by omega,this];simp) (fun v hv=>h1 v (by simp [hv]))
    refine ⟨B1++B2,?_,fun b hb=>?_⟩
    · simp only [RelL]
      have h0:=hc 0 (by simp)
      simp only [Nat.add_zero,List.getElem?_cons_zero] at h0
      exact ⟨v,B1,B2,⟨h0,fun _=>h1 v (by simp)⟩,RelV.keep _ _ _ (fun l hl'=>by rw [hl] at hl';cases hl') (fun b hb=>by obtain ⟨_,e2,e3,e4⟩:=hB2 b hb;exact h.kept.old b e2 e4 e3.1) hB1,g1,rfl⟩
    · rcases List.mem_append.1 hb with hb | hb
      · obtain ⟨e1,e2,e3,e4⟩:=hB2 b hb
        refine ⟨Nat.lt_of_lt_of_le e2 h.kept.size,.inl e1,fun l e=>?_⟩
        rcases (h.own b (by rw [e];simp)).2 with g | ⟨m,_,g⟩
        · rcases g with (g | g) | g
          · omega
          · exact e3.1 g
          · exact e3.2 g
        · exact e4 m g
      · exact g2 b hb
  | [],_::_,_,_,ho,_,_=>ho.elim
  | _::_,[],_,_,ho,_,_=>ho.elim
theorem aDK {r:List (List Value)} {sz:Nat} (h:∀ e ∈ r,e.length=sz) {j:Nat} {e:List Value} (hj:r[j]?=some e):∀ i,i < sz→(r.flatMap fun e=>e.map PV.sc)[j*sz+i]?=(e[i]?).map PV.sc:=by
  induction r generalizing j with
  | nil=>simp at hj
  | cons a r ih =>
    intro i hi
    have ha:=h a (by simp)
    rw [List.flatMap_cons]
    cases j with
    | zero =>
      simp at hj;subst hj
      rw [Nat.zero_mul,Nat.zero_add,List.getElem?_append_left (by simp;omega),List.getElem?_map]
    | succ j =>
      rw [List.getElem?_append_right (by simp [ha,Nat.succ_mul];omega)]
      have:=ih (fun e he=>h e (by simp [he])) (by simpa using hj) i hi
      rw [← this];congr 1;simp [ha,Nat.succ_mul];omega
theorem aJQ {α:Type} {R:List (List α)} {y:List α} {z:α} {enc:α→List PV} {x:Operand} {t by_ sz:Nat} {vt:Value} {V:List (List (List Value))} {Bs:List Nat} {j j2:Int} [ht:TI P t sz true by_] (hF:Foreign Γ sz vt V Bs) (hi0:∀ l,Γ.io l=none) (hVR:V.length=R.length) (hVr:∀ (k:Nat) r row,V[k]?=some r→R[k]?=some row→r.length=row.length)
    (hOld:∀ (k j:Nat) r row e y,V[k]?=some r→R[k]?=some row→r[j]?=some e→row[j]?=some y→OldL Γ e (enc y)) (hsz:∀ y,(enc y).length=sz) (hn0:sz≠0) (hnl:∀ y,eN (enc y)=true)
    (hx:evq S x=some (.sc (.pointer (some ⟨rM (qA Γ vt j.toNat),j2.toNat*sz,none⟩)))) (hl:idx R j=some y) (hl2:idx y j2=some z) (hd:Nat.blt d N=true) :
    Local Γ ⟨some d,.load t x,ty,pos,af,g⟩ ⟨S,O⟩ ⟨[(d,⟨.agg (enc z),false⟩)],[]⟩ (ors x) [] []:=by
  intro F hs _ _
  refine bN fun a w hsim=>?_
  have hxv:=qR hsim hx (fun k hk=>hs k (by simp [hk]))
  obtain ⟨ow,β,hsim⟩:=hsim
  obtain ⟨_,h1,h2⟩:=xW hl
  obtain ⟨h0,h3,h4⟩:=xW hl2
  have hlt:j.toNat < V.length:=by omega
  have hV:=List.getElem?_eq_getElem hlt
  generalize hr:V[j.toNat]=r at hV
  have hlen:=hVr j.toNat _ _ hV h1
  obtain ⟨cap,cs,u,e1,e2,e3,e4⟩:=hF.row hV (by intro h;rw [h] at hlen;simp at hlen;omega)
  have hb:=(hF.still hi0 hsim.kept e3).trans e2
  have hjl:j2.toNat < r.length:=by omega
  have hej:=List.getElem?_eq_getElem hjl
  generalize hee:r[j2.toNat]=e at hej
  have hO:=hOld j.toNat j2.toNat r y e z hV h1 hej h3
  have hes:∀ e ∈ r,e.length=sz:=hF.tab.2.2.2 r (List.mem_of_getElem? hV)
  have hle:e.length=sz:=hes e (List.mem_of_getElem? hej)
  have hflat:=aDK hes hej
  have hcell:∀ i,i < sz→∃ v,e[i]?=some v∧cs[j2.toNat*sz+i]?=some v∧v.oneCell'=true:=by
    intro i hi
    have hv:=List.getElem?_eq_getElem (show i < e.length by omega)
    obtain ⟨c,O1,q1,q2,q3,_⟩:=RelL.get _ _ _ _ e4 (j2.toNat*sz+i) (.sc e[i]) (by rw [hflat i hi,hv];rfl)
    simp only [RelV] at q3
    rw [Nat.zero_add] at q1
    exact ⟨_,hv,by rw [q1,q3.1],by rw [← q3.1];exact q2 rfl⟩
  have hk:j2.toNat*sz+sz≤cs.size:=by
    obtain ⟨v,_,q,_⟩:=hcell (sz - 1) (by omega)
    have:=(Array.getElem?_eq_some_iff.1 q).1
    omega
  obtain ⟨B,r1,r2⟩:=OldL.read hsim (cs:=cs) (i:=j2.toNat*sz) hO (fun k hk=>by
    obtain ⟨v,q1,q2,_⟩:=hcell k (by omega)
    rw [q1,q2]) (fun v hv=>by
    obtain ⟨i,hi,rfl⟩:=List.getElem_of_mem hv
    obtain ⟨v',q1,_,q3⟩:=hcell i (by omega)
    rw [List.getElem?_eq_getElem hi] at q1
    cases q1;exact q3)
  refine ⟨.agg (cs.extract (j2.toNat*sz) (j2.toNat*sz+sz)),w,?_,ow,β,hsim.put ((aZ _ _).1 hd) (O:=B) ?_ r2⟩
  · simp only [execOp,hxv]
    simp [sN (t:=t) w hb hk]
  · simp only [RelV]
    exact ⟨_,rfl,by simp [hsz];omega,nI (jA (hnl z)) (qG (hsz z) r1)⟩
end
end Go.Ev
/- The engine, part AB: a function's rest, begun anew: what there is by then is old; a table given up and taken over. -/
namespace Go.Ev
open Go.RowKit (Below)
set_option linter.all false
section
variable {P:Program} {N:Nat} {Γ0 Γ:Ctx P N} {S:List (Nat × Slot)} {O:List (Nat × Option Ob)} {a:Act} {w:World}
structure Later (Γ0 Γ:Ctx P N):Prop where
  base:Γ0.base≤Γ.base
  good:∀ b,Γ.ok b∨Γ.nw b→Γ0.ok b∨Γ0.base≤b
  mine:∀ b,Γ.mine b→Γ0.base≤b
  kept:Kept Γ0 Γ.w0
  io0:∀ l,Γ.io l=none
  le0:∀ b,¬Γ.lent b
theorem Later.now (h:Later Γ0 Γ) (hk:Kept Γ w):Kept Γ0 w:=by
  refine ⟨hk.os.trans h.kept.os,hk.output.trans h.kept.output,hk.tape.trans h.kept.tape,Nat.le_trans h.base hk.size,fun b h1 h2 h3=>?_,fun b h1 h3 cs t hc=>?_⟩
  · exact (hk.old b (Nat.lt_of_lt_of_le h1 h.base) (fun l=>by rw [h.io0];simp) (fun hm=>by have:=h.mine b hm;omega)).trans (h.kept.old b h1 h2 h3)
  · obtain ⟨cs',e1,e2⟩:=h.kept.ios b h1 h3 cs t hc
    refine ⟨cs',?_,e2⟩
    rw [hk.old b (Nat.lt_of_lt_of_le h1 h.base) (fun l=>by rw [h.io0];simp) (fun hm=>by have:=h.mine b hm;omega)];exact e1
theorem Later.nww (h:Later Γ0 Γ) {b:Nat} (hb:Γ.nww b):Γ0.base≤b:=by
  rcases hb with hb | hb
  · exact Nat.le_trans h.base hb
  · exact h.mine b hb
theorem TabR.keep {h h':Array Obj} {sz:Nat} {vt:Value} {V:List (List (List Value))} {Bs:List Nat} (hT:TabR h sz vt V Bs) (he:∀ b ∈ Bs,h'[b]?=h[b]?):TabR h' sz vt V Bs :=
  ⟨RelV.keep _ _ _ (fun l _=>by intro ob e;cases e) he hT.1,hT.2.1,fun b hb=>by rw [he b hb];exact hT.2.2.1 b hb,hT.2.2.2⟩
theorem OldF.now {v:Value} {p:PV} (h:OldF Γ v p) (hi0:∀ l,Γ.io l=none) (hk:Kept Γ w):∃ B,RelV w.heap dead p v B∧∀ b ∈ B,Γ.ok b∧b < Γ.base∧(¬Γ.mine b∧¬Γ.lent b):=by
  obtain ⟨hl,B,h1,h2⟩:=h
  exact ⟨B,RelV.keep _ _ _ (fun l hl'=>by rw [hl] at hl';cases hl') (fun b hb=>hk.old b (h2 b hb).2.1 (h2 b hb).2.2.2 (h2 b hb).2.2.1.1) h1,fun b hb=>⟨(h2 b hb).1,(h2 b hb).2.1,(h2 b hb).2.2.1⟩⟩
theorem Sim.reb (hL:Later Γ0 Γ) (hs:Sim Γ ⟨S,O⟩ a w) (hS:aEl S=true) (hO:yM O=true) :
    ∃ Γ':Ctx P N,Later Γ0 Γ'∧Sim Γ' ⟨S,O⟩ a w∧(∀ l (vs:List Value) (cells:List PV) dp,loq O l=some ⟨wz vs cells,dp,false⟩→vs.length=cells.length→eN cells=true→OldL Γ' vs cells) ∧
      (∀ v p,OldF Γ v p→OldF Γ' v p)∧(∀ sz vt V Bs,Foreign Γ sz vt V Bs→Foreign Γ' sz vt V Bs):=by
  classical
  have hi0:=hL.io0
  obtain ⟨ow,β,hs⟩:=hs
  let Γ':Ctx P N:={ base:=w.heap.size,ok:=fun b=>Im Γ ow w b,io:=fun _=>none,w0:=w,mine:=fun b=>∃ l,β l=some (some b),lent:=fun _=>False }
  let ow':Nat→Own:=fun b=>if h:∃ l,β l=some (some b) then .lab h.choose else .none
  have how:∀ b l,ow' b=.lab l↔β l=some (some b):=by
    intro b l
    show (if h:∃ l,β l=some (some b) then Own.lab h.choose else .none)=_↔_
    by_cases h:∃ l,β l=some (some b)
    · rw [dif_pos h]
      constructor
      · intro e;injection e with e;rw [← e];exact h.choose_spec
      · intro e
        have e1:=hs.lab_ne h.choose_spec
        have e2:=hs.lab_ne e
        rw [e1] at e2;injection e2 with e2;rw [e2]
    · rw [dif_neg h]
      constructor
      · intro e;cases e
      · intro e;exact absurd ⟨l,e⟩ h
  have how2:∀ b,ow' b≠.none→∃ l,β l=some (some b):=by
    intro b hb
    rcases Classical.em (∃ l,β l=some (some b)) with h | h
    · exact h
    · exfalso;apply hb;show (if h:∃ l,β l=some (some b) then Own.lab h.choose else .none)=_;rw [dif_neg h]
  have hlab:∀ b l,β l=some (some b)→ow b=.lab l:=fun b l e=>hs.lab_ne e
  have hnm:∀ b,Im Γ ow w b→¬Γ'.mine b:=by rintro b ⟨_,_,h3⟩ ⟨l,e⟩;exact h3 l (hlab b l e)
  have hIm':∀ b,Im Γ ow w b→Im Γ' ow' w b:=fun b hb=>⟨hb.1,.inl hb,fun l e=>hb.2.2 l (hlab b l ((how b l).1 e))⟩
  have hold:∀ (p:PV) (c:Value) (B:List Nat),p.labs=[]→RelV w.heap β p c B→(∀ b ∈ B,Im Γ ow w b)→OldF Γ' c p:=fun p c B hl hr hb =>
    ⟨hl,B,RelV.keep _ _ _ (fun l hl'=>by rw [hl] at hl';cases hl') (fun _ _=>rfl) hr,fun b hb'=>⟨hb b hb',(hb b hb').1,⟨hnm b (hb b hb'),fun h=>h⟩,fun l=>by simp [Γ']⟩⟩
  have hfr:∀ b l,β l=some (some b)→Γ.nww b:=fun b l e=>hs.fresh l b e (hi0 l)
  have hsz:Γ.base≤w.heap.size:=hs.kept.size
  have hsim:Sim Γ' ⟨S,O⟩ a w:=by
    refine ⟨ow',β,{ size:=hs.size,defers:=hs.defers,kept:=⟨rfl,rfl,rfl,Nat.le_refl _,fun _ _ _ _=>rfl,fun b _ _ cs t h=>⟨cs,h,rfl⟩⟩,slots:=fun k=>?_,objs:=fun l ob hl=>?_,gone:=hs.gone,own:=fun b hb=>?_,ios:=fun l b hl=>(by cases hl),fresh:=fun l b hl _=>.inr ⟨l,hl⟩ }⟩
    · obtain ⟨B,g1,g2,_⟩:=hs.slots k
      exact ⟨B,g1,fun b hb=>hIm' b (g2 b hb),fun hd=>by rw [aDE k hS] at hd;cases hd⟩
    · obtain ⟨B,g1,g2,g3⟩:=hs.objs l ob hl
      have hB:ob.deep=true→B=[]:=by
        intro hd
        rcases zX hO hl with e | e
        · rw [hd] at e;cases e
        · rcases g3 with ⟨_,_,e3⟩ | ⟨_,_,_,_,_,_,g4⟩
          · exact e3
          · exact jR _ e g4
      refine ⟨B,fun b hb=>hIm' b (g1 b hb),fun hd=>by rw [hB hd];simp,?_⟩
      rcases g3 with g3 | ⟨b,cs,t,e1,e2,e3,e4⟩
      · exact .inl g3
      · exact .inr ⟨b,cs,t,e1,(how b l).2 e1,e3,e4⟩
    · obtain ⟨l,e⟩:=how2 b hb
      obtain ⟨g1,_⟩:=hs.own b (by rw [hlab b l e];simp)
      exact ⟨g1,.inl (.inl (.inr ⟨l,e⟩))⟩
  have hobj:∀ l (vs:List Value) (cells:List PV) dp,loq O l=some ⟨wz vs cells,dp,false⟩→vs.length=cells.length→eN cells=true→OldL Γ' vs cells:=by
    intro l vs cells dp hl hlen hn
    obtain ⟨B,g1,_,g3⟩:=hs.objs l ⟨wz vs cells,dp,false⟩ (by rw [← cX];exact hl)
    rcases g3 with ⟨_,e2,_⟩ | ⟨b,cs,t,_,_,_,e4⟩
    · cases vs with
      | nil=>cases cells with
        | nil=>trivial
        | cons=>simp at hlen
      | cons v vs=>cases cells with
        | nil=>simp at hlen
        | cons p ps=>simp [wz] at e2
    · obtain ⟨m1,m2⟩:=aDT hlen e4
      exact OldL.of (fun _ _ _=>trivial) hlen m1 hn m2 (fun b hb=>⟨g1 b hb,(g1 b hb).1,⟨hnm b (g1 b hb),fun h=>h⟩,fun l=>by simp [Γ']⟩)
  refine ⟨Γ',⟨Nat.le_trans hL.base hsz,?_,?_,hL.now hs.kept,fun _=>rfl,fun _ h=>h⟩,hsim,hobj,?_,?_⟩
  · rintro b (hb | (hb | hb) | hb)
    · exact hL.good b hb.2.1
    · exact .inr (Nat.le_trans (Nat.le_trans hL.base hsz) hb)
    · obtain ⟨l,e⟩:=hb;exact .inr (hL.nww (hfr b l e))
    · exact hb.elim
  · rintro b ⟨l,e⟩;exact hL.nww (hfr b l e)
  · rintro v p ⟨hl,B,h1,h2⟩
    have hnl:∀ b ∈ B,∀ l,ow b≠.lab l:=by
      intro b hb l e
      obtain ⟨_,e2,e3,e4⟩:=h2 b hb
      rcases (hs.own b (by rw [e];simp)).2 with g | ⟨m,_,g⟩
      · rcases g with (g | g) | g
        · omega
        · exact e3.1 g
        · exact e3.2 g
      · exact e4 m g
    refine ⟨hl,B,RelV.keep _ _ _ (fun l hl'=>by rw [hl] at hl';cases hl') (fun b hb=>hs.kept.old b (h2 b hb).2.1 (h2 b hb).2.2.2 (h2 b hb).2.2.1.1) h1,fun b hb=>⟨⟨?_,.inl (h2 b hb).1,hnl b hb⟩,?_,⟨?_,fun h=>h⟩,fun l=>by simp [Γ']⟩⟩
    · exact Nat.lt_of_lt_of_le (h2 b hb).2.1 hsz
    · exact Nat.lt_of_lt_of_le (h2 b hb).2.1 hsz
    · rintro ⟨l,e⟩;exact hnl b hb l (hlab b l e)
  · rintro sz vt V Bs hF
    refine ⟨hF.tab.keep fun b hb=>hF.still hi0 hs.kept hb,fun b hb=>⟨Nat.lt_of_lt_of_le (hF.off b hb).1 hsz,fun h=>?_,?_⟩⟩
    · rcases h.2.1 with g | g
      · exact (hF.off b hb).2.1 g
      · exact (hF.off b hb).2.2 g
    · rintro ((h | ⟨l,e⟩) | h)
      · have:=(hF.off b hb).1;have h:w.heap.size≤b:=h;omega
      · exact (hF.off b hb).2.2 (.inl (hfr b l e))
      · exact h
theorem Sim.adopt {sz:Nat} {vt:Value} {V:List (List (List Value))} {Bs:List Nat} (hL:Later Γ0 Γ) (hs:Sim Γ ⟨S,O⟩ a w) (hF:Foreign Γ sz vt V Bs) (hB0:∀ b ∈ Bs,Γ0.base≤b) (hV:V≠[]) (k T:Nat) {dp:Bool} (hk:lkq S k=some ⟨.sc vt,dp⟩) (hT:pY ⟨S,O⟩ T=false) (hT2:loq O T=none) :
    ∃ Γ':Ctx P N,Later Γ0 Γ'∧Sim Γ' ⟨(k,⟨.ref T 1 0 V.length,false⟩)::S,(T,some ⟨V.map (fM sz),true,false⟩)::O⟩ a w∧(∀ v p,OldF Γ v p→OldF Γ' v p):=by
  classical
  have hi0:=hL.io0
  obtain ⟨ow,β,hs⟩:=hs
  have hnl:=NoLab.of_says hT
  let Γ':Ctx P N:={ Γ with mine:=fun b=>Γ.mine b∨b ∈ Bs }
  have htab:=hF.tab.keep (h':=w.heap) fun b hb=>hF.still hi0 hs.kept hb
  obtain ⟨hr,hnd,hfree,_⟩:=htab
  have hBs:∀ b ∈ Bs,ow b=.none:=by
    intro b hb
    rcases Classical.em (ow b=.none) with h | h
    · exact h
    · rcases (hs.own b h).2 with g | ⟨m,_,g⟩
      · exact absurd g (hF.off b hb).2.2
      · rw [hi0] at g;cases g
  have hnIm:∀ b ∈ Bs,¬Im Γ ow w b:=fun b hb h=>h.2.1.elim (hF.off b hb).2.1 (hF.off b hb).2.2
  simp only [RelV] at hr
  rcases hr with ⟨h1,_⟩ | ⟨bt,cap,cs,t,O',⟨hvt,hcap,hcs⟩,h2,h3,rfl⟩
  · exact absurd (List.length_eq_zero_iff.1 h1) hV
  let ow':Nat→Own:=fun b=>if b=bt then .lab T else if b ∈ O' then .obj T else ow b
  let β':Nat→Option (Option Nat):=fun m=>if m=T then some (some bt) else β m
  have hβT:β T=none:=hs.gone T (by rw [← cX];exact hT2)
  have hβ':∀ m,m≠T→β' m=β m:=fun m hm=>by show (if _ then _ else _)=_;rw [if_neg hm]
  have hβ'T:β' T=some (some bt):=by show (if _ then _ else _)=_;rw [if_pos rfl]
  have how':∀ b,b ∉ bt::O'→ow' b=ow b:=by
    intro b hb
    simp only [List.mem_cons,not_or] at hb
    show (if _ then _ else if _ then _ else _)=_
    rw [if_neg hb.1,if_neg hb.2]
  have howbt:ow' bt=.lab T:=by show (if _ then _ else _)=_;rw [if_pos rfl]
  have howO:∀ b ∈ O',ow' b=.obj T:=by
    intro b hb
    show (if _ then _ else if _ then _ else _)=_
    rw [if_neg (fun e=>by subst e;exact (List.nodup_cons.1 hnd).1 hb),if_pos hb]
  have hIm':∀ b,Im Γ ow w b→Im Γ' ow' w b:=by
    intro b hb
    have hn:b ∉ bt::O':=fun h=>hnIm b h hb
    refine ⟨hb.1,hb.2.1.imp id (fun g=>g.imp (fun g=>g.imp id .inl) id),fun l=>by rw [how' b hn];exact hb.2.2 l⟩
  have hsame:∀ b,ow b≠.none→ow' b=ow b:=fun b hb=>how' b (fun h=>hb (hBs b h))
  have hlt:∀ b ∈ bt::O',b < w.heap.size:=fun b hb=>Nat.lt_of_lt_of_le (hF.off b hb).1 hs.kept.size
  have hkeep:∀ m,m≠T→KeepB w.heap w.heap β β' m:=fun m hm ob e=>⟨by rw [hβ' m hm] at e;exact e,fun b _ c t hc=>⟨c,hc,rfl⟩⟩
  refine ⟨Γ',⟨hL.base,?_,?_,hL.kept,hL.io0,hL.le0⟩,⟨ow',β',{ size:=hs.size,defers:=hs.defers,kept:=?_,slots:=fun j=>?_,objs:=fun l ob hl=>?_,gone:=fun l hl=>?_,own:=fun b hb=>?_,ios:=fun l b hl=>(by rw [show Γ'.io l=Γ.io l from rfl,hi0] at hl;cases hl),fresh:=fun l b hl _=>?_ }⟩,?_⟩
  · rintro b (hb | (hb | hb | hb) | hb)
    · exact hL.good b (.inl hb)
    · exact hL.good b (.inr (.inl (.inl hb)))
    · exact hL.good b (.inr (.inl (.inr hb)))
    · exact .inr (hB0 b hb)
    · exact hL.good b (.inr (.inr hb))
  · rintro b (hb | hb)
    · exact hL.mine b hb
    · exact hB0 b hb
  · exact ⟨hs.kept.os,hs.kept.output,hs.kept.tape,hs.kept.size,fun b h1 h2 h3=>hs.kept.old b h1 h2 (fun h=>h3 (.inl h)),fun b h1 h2=>hs.kept.ios b h1 (fun h=>h2 (.inl h))⟩
  · simp only [cN]
    by_cases hj:k=j
    · subst hj
      rw [if_pos rfl]
      obtain ⟨B,g1,_,_⟩:=hs.slots k
      simp only [dX hk,RelV] at g1
      refine ⟨[],?_,by simp,by simp⟩
      simp only [RelV]
      refine ⟨trivial,fun h=>(by rw [hβ'T] at h;cases h),fun b hb=>?_⟩
      rw [hβ'T] at hb;cases hb
      exact ⟨cap,cs,t,by rw [g1.1,hvt],h2,by simpa using hcs,hcap⟩
    · rw [if_neg hj]
      obtain ⟨B,g1,g2,g3⟩:=hs.slots j
      refine ⟨B,RelV.keep _ _ _ (fun m hm=>hkeep m (fun e=>hnl.1 j (e ▸ hm))) (fun _ _=>rfl) g1,fun b hb=>hIm' b (g2 b hb),fun hd=>⟨(g3 hd).1,fun b hb=>⟨by rw [hsame b (by rw [((g3 hd).2 b hb).1];simp)];exact ((g3 hd).2 b hb).1,((g3 hd).2 b hb).2⟩⟩⟩
  · simp only [aW] at hl
    by_cases hj:T=l
    · subst hj
      rw [if_pos rfl] at hl;cases hl
      refine ⟨O',fun b hb=>⟨hlt b (by simp [hb]),.inr (.inl (.inr (.inr (by simp [hb])))),fun l=>by rw [howO b hb];simp⟩,fun _=>⟨(List.nodup_cons.1 hnd).2,fun b hb=>⟨howO b hb,hfree b (by simp [hb])⟩⟩,.inr ⟨bt,cs,t,hβ'T,howbt,h2,by simpa using h3⟩⟩
    · rw [if_neg hj] at hl
      obtain ⟨B,g1,g2,g3⟩:=hs.objs l ob hl
      refine ⟨B,fun b hb=>hIm' b (g1 b hb),fun hd=>⟨(g2 hd).1,fun b hb=>⟨by rw [hsame b (by rw [((g2 hd).2 b hb).1];simp)];exact ((g2 hd).2 b hb).1,((g2 hd).2 b hb).2⟩⟩,?_⟩
      rcases g3 with ⟨e1,e2,e3⟩ | ⟨b,cs2,t2,e1,e2,e3,e4⟩
      · exact .inl ⟨by rw [hβ' l (fun e=>hj e.symm)];exact e1,e2,e3⟩
      · refine .inr ⟨b,cs2,t2,by rw [hβ' l (fun e=>hj e.symm)];exact e1,by rw [hsame b (by rw [e2];simp)];exact e2,e3,?_⟩
        cases hbx:ob.box with
        | false=>rw [hbx] at e4;simpa using e4
        | true =>
          rw [hbx] at e4;simp only [if_true] at e4 ⊢
          exact RelL.keep _ _ _ _ (fun p hp m hm=>hkeep m (fun e=>hnl.2.1 l ob hl hbx p hp (e ▸ hm))) (fun _ _=>rfl) e4
  · simp only [aW] at hl
    by_cases hj:T=l
    · rw [if_pos hj] at hl;cases hl
    · rw [if_neg hj] at hl;rw [hβ' l (fun e=>hj e.symm)];exact hs.gone l hl
  · by_cases hbm:b ∈ bt::O'
    · exact ⟨hlt b hbm,.inl (.inl (.inr (.inr hbm)))⟩
    · rw [how' b hbm] at hb
      obtain ⟨g1,g2⟩:=hs.own b hb
      rcases g2 with g | ⟨m,e,g⟩
      · exact ⟨g1,.inl (g.imp (fun g=>g.imp id .inl) id)⟩
      · rw [hi0] at g;cases g
  · by_cases hj:l=T
    · subst hj;rw [hβ'T] at hl;cases hl;exact .inr (.inr (by simp))
    · rw [hβ' l hj] at hl;exact (hs.fresh l b hl (hi0 l)).imp id .inl
  · rintro v p ⟨hl,B,e1,e2⟩
    exact ⟨hl,B,e1,fun b hb=>⟨(e2 b hb).1,(e2 b hb).2.1,⟨fun h=>h.elim (e2 b hb).2.2.1.1 (fun h=>(hF.off b h).2.1 (e2 b hb).1),(e2 b hb).2.2.1.2⟩,(e2 b hb).2.2.2⟩⟩
def aD2:List (Nat × Slot)→Bool
  | []=>true
  | (_,s)::r=>kK s.v&&aD2 r
def aA0:List (Nat × Option Ob)→Bool
  | []=>true
  | (_,none)::r=>aA0 r
  | (_,some ob)::r=>eV ob.cells&&aA0 r
theorem aDy:∀ {s:List (Nat × Slot)} (k:Nat),aD2 s=true→kK (lk s k).v=true
  | [],k,_=>rfl
  | (j,v)::r,k,h=>by
    simp only [aD2,Bool.and_eq_true] at h
    rw [cN]
    by_cases hj:j=k
    · rw [if_pos hj];exact h.1
    · rw [if_neg hj];exact aDy k h.2
theorem aAZ:∀ {s:List (Nat × Option Ob)} {l:Nat} {ob:Ob},aA0 s=true→lo s l=some ob→eV ob.cells=true
  | [],l,ob,_,h=>by simp [lo] at h
  | (j,none)::r,l,ob,hn,h=>by
    rw [aW] at h
    by_cases hj:j=l
    · rw [if_pos hj] at h;cases h
    · rw [if_neg hj] at h;exact aAZ (s:=r) hn h
  | (j,some o)::r,l,ob,hn,h=>by
    simp only [aA0,Bool.and_eq_true] at hn
    rw [aW] at h
    by_cases hj:j=l
    · rw [if_pos hj] at h;cases h;exact hn.1
    · rw [if_neg hj] at h;exact aAZ hn.2 h
theorem Sim.abandon (hL:Later Γ0 Γ) {k:Nat} {p:PV} (hp:p.labs=[]) (hs:Sim Γ ⟨(k,⟨p,true⟩)::S,O⟩ a w) (hS:aD2 S=true) (hO:aA0 O=true) :
    ∃ (vt:Value) (B:List Nat),RelV w.heap dead p vt B∧B.Nodup∧(∀ b ∈ B,Γ0.base≤b∧eW w b)∧∀ Bs D:List Nat,(∀ b ∈ Bs,b ∈ B)→(∀ b ∈ D,b ∈ B)→(∀ b ∈ Bs,b ∉ D) →
      ∃ Γ':Ctx P N,Later Γ0 Γ'∧Sim Γ' ⟨(k,⟨.sc vt,false⟩)::S,O⟩ a w∧Γ'.w0=w∧(∀ b ∈ Bs,b < Γ'.base∧¬Γ'.ok b∧¬Γ'.nw b)∧(∀ b ∈ D,Γ'.ok b∧b < Γ'.base∧(¬Γ'.mine b∧¬Γ'.lent b)∧∀ l,Γ'.io l≠some b)∧(∀ v p,OldF Γ v p→OldF Γ' v p):=by
  classical
  have hi0:=hL.io0
  obtain ⟨ow,β,hs⟩:=hs
  obtain ⟨B,h1,h2,h3⟩:=hs.slots k
  simp only [cN,if_true] at h1 h3
  obtain ⟨hnd,h3⟩:=h3 trivial
  have hnw:∀ b ∈ B,Γ.nww b:=by
    intro b hb
    rcases (hs.own b (by rw [(h3 b hb).1];simp)).2 with (g | g) | ⟨m,_,g⟩
    · exact g
    · exact absurd g (hL.le0 b)
    · rw [hi0] at g;cases g
  refine ⟨a.tmps.getD k undef,B,RelV.keep _ _ _ (fun l hl'=>by rw [hp] at hl';cases hl') (fun _ _=>rfl) h1,hnd,fun b hb=>⟨hL.nww (hnw b hb),(h3 b hb).2⟩,fun Bs D hBs hD hBD=>?_⟩
  let Γ':Ctx P N:={ base:=w.heap.size,ok:=fun b=>(Γ.ok b∧b ∉ B∧∀ l,β l≠some (some b))∨b ∈ D,io:=fun _=>none,w0:=w,mine:=fun b=>∃ l,β l=some (some b),lent:=fun _=>False }
  let ow':Nat→Own:=fun b=>if h:∃ l,β l=some (some b) then .lab h.choose else .none
  have how:∀ b l,ow' b=.lab l↔β l=some (some b):=by
    intro b l
    show (if h:∃ l,β l=some (some b) then Own.lab h.choose else .none)=_↔_
    by_cases h:∃ l,β l=some (some b)
    · rw [dif_pos h]
      constructor
      · intro e;injection e with e;rw [← e];exact h.choose_spec
      · intro e
        have e1:=hs.lab_ne h.choose_spec
        have e2:=hs.lab_ne e
        rw [e1] at e2;injection e2 with e2;rw [e2]
    · rw [dif_neg h]
      constructor
      · intro e;cases e
      · intro e;exact absurd ⟨l,e⟩ h
  have how2:∀ b,ow' b≠.none→∃ l,β l=some (some b):=by
    intro b hb
    rcases Classical.em (∃ l,β l=some (some b)) with h | h
    · exact h
    · exfalso;apply hb;show (if h:∃ l,β l=some (some b) then Own.lab h.choose else .none)=_;rw [dif_neg h]
  have hlab:∀ b l,β l=some (some b)→ow b=.lab l:=fun b l e=>hs.lab_ne e
  have hBl:∀ b ∈ B,∀ l,β l≠some (some b):=fun b hb l e=>by have:=hlab b l e;rw [(h3 b hb).1] at this;cases this
  have hfr:∀ b l,β l=some (some b)→Γ.nww b:=fun b l e=>hs.fresh l b e (hi0 l)
  have hsz:Γ.base≤w.heap.size:=hs.kept.size
  refine ⟨Γ',⟨Nat.le_trans hL.base hsz,?_,?_,hL.now hs.kept,fun _=>rfl,fun _ h=>h⟩,⟨ow',β,{ size:=hs.size,defers:=hs.defers,kept:=⟨rfl,rfl,rfl,Nat.le_refl _,fun _ _ _ _=>rfl,fun b _ _ cs t h=>⟨cs,h,rfl⟩⟩,slots:=fun j=>?_,objs:=fun l ob hl=>?_,gone:=hs.gone,own:=fun b hb=>?_,ios:=fun l b hl=>(by cases hl),fresh:=fun l b hl _=>.inr ⟨l,hl⟩ }⟩,rfl,?_,?_,?_⟩
  · rintro b ((hb | hb) | (hb | hb) | hb)
    · exact hL.good b (.inl hb.1)
    · exact .inr (hL.nww (hnw b (hD b hb)))
    · exact .inr (Nat.le_trans (Nat.le_trans hL.base hsz) hb)
    · obtain ⟨l,e⟩:=hb;exact .inr (hL.nww (hfr b l e))
    · exact hb.elim
  · rintro b ⟨l,e⟩;exact hL.nww (hfr b l e)
  · simp only [cN]
    by_cases hj:k=j
    · subst hj;rw [if_pos rfl];exact ⟨[],by simp [RelV],by simp,by simp⟩
    · rw [if_neg hj]
      obtain ⟨B',g1,_,_⟩:=hs.slots j
      simp only [cN,if_neg hj] at g1
      have:=kJ _ (aDy j hS) g1
      subst this
      exact ⟨[],g1,by simp,by simp⟩
  · obtain ⟨B',g1,g2,g3⟩:=hs.objs l ob hl
    rcases g3 with ⟨e1,e2,e3⟩ | ⟨b,cs,t,e1,e2,e3,e4⟩
    · subst e3;exact ⟨[],by simp,by simp,.inl ⟨e1,e2,rfl⟩⟩
    · have:=jR _ (aAZ hO hl) e4
      subst this
      exact ⟨[],by simp,by simp,.inr ⟨b,cs,t,e1,(how b l).2 e1,e3,e4⟩⟩
  · obtain ⟨l,e⟩:=how2 b hb
    obtain ⟨g1,_⟩:=hs.own b (by rw [hlab b l e];simp)
    exact ⟨g1,.inl (.inl (.inr ⟨l,e⟩))⟩
  · intro b hb
    have hlt:b < w.heap.size:=by obtain ⟨cs,t,hc⟩:=(h3 b (hBs b hb)).2;exact (Array.getElem?_eq_some_iff.1 hc).1
    refine ⟨hlt,?_,?_⟩
    · rintro (h | h)
      · exact h.2.1 (hBs b hb)
      · exact hBD b hb h
    · rintro ((h | ⟨l,e⟩) | h)
      · have h:w.heap.size≤b:=h;omega
      · exact hBl b (hBs b hb) l e
      · exact h
  · intro b hb
    have hlt:b < w.heap.size:=by obtain ⟨cs,t,hc⟩:=(h3 b (hD b hb)).2;exact (Array.getElem?_eq_some_iff.1 hc).1
    exact ⟨.inr hb,hlt,⟨fun ⟨l,e⟩=>hBl b (hD b hb) l e,fun h=>h⟩,fun l=>by simp [Γ']⟩
  · rintro v q ⟨hl,B',e1,e2⟩
    have hnl:∀ b ∈ B',¬Γ.nww b:=by
      intro b hb h
      obtain ⟨_,f2,f3,f4⟩:=e2 b hb
      rcases h with g | g
      · omega
      · exact f3.1 g
    refine ⟨hl,B',RelV.keep _ _ _ (fun l hl'=>by rw [hl] at hl';cases hl') (fun b hb=>hs.kept.old b (e2 b hb).2.1 (e2 b hb).2.2.2 (e2 b hb).2.2.1.1) e1,fun b hb=>⟨.inl ⟨(e2 b hb).1,fun h=>hnl b hb (hnw b h),fun l e=>hnl b hb (hfr b l e)⟩,Nat.lt_of_lt_of_le (e2 b hb).2.1 hsz,⟨fun ⟨l,e⟩=>hnl b hb (hfr b l e),fun h=>h⟩,fun l=>by simp [Γ']⟩⟩
end
section
variable {P:Program} {N:Nat} {Γ:Ctx P N} {S:List (Nat × Slot)} {O:List (Nat × Option Ob)} {ow:Nat→Own} {β:Nat→Option (Option Nat)} {F:Env} {a:Act} {w:World}
variable {d:Nat} {ty:TypeId} {pos:String} {af:Array Edge} {g:Option (Nat × Bool)}
theorem aGA {t e sz by_ s:Nat} {agg:Bool} {ps:List PV} {p:PV} [ht:SlT P t e] [hi:TI P e sz agg by_] [hz:ZT P e ps] (hx:lkq S s=some ⟨p,true⟩) (hst:stB O false p=true) (hl:p.labs=[]) (hlen:Nat.beq (bO p).length sz=true) (hsz:Nat.blt 0 sz=true) (hs2:Nat.ble sz 1000=true) (hne:Nat.beq d s=false) (hd:Nat.blt d N=true) :
    Local Γ ⟨some d,.buildSlice t 1 #[(0,.tmp s)],ty,pos,af,g⟩ ⟨S,O⟩ ⟨[(d,⟨.rw sz 1 (bO p),true⟩),(s,⟨.any,false⟩)],[]⟩ [s] [] []:=by
  intro F hs _ _
  refine bN fun a w ⟨ow,β,hsim⟩=>?_
  have hlk:lk F.s s=⟨p,true⟩:=(hs s (by simp)).trans (dX hx)
  have hlen:=Nat.eq_of_beq_eq_true hlen
  have hds:d≠s:=fun e=>by rw [nZ] at hne;simp at hne;exact hne e
  have hdN:=(aZ _ _).1 hd
  obtain ⟨ow1,hs1⟩:=hsim.take hdN hds hlk
  obtain ⟨B,h1,h2,h3⟩:=hs1.slots d
  have el:lk ((F.app ⟨[(d,⟨p,true⟩),(s,⟨.any,false⟩)],[]⟩).s) d=⟨p,true⟩:=by simp [Env.app,cN]
  have ev:(a.put (some d) (a.tmps.getD s undef)).tmps.getD d undef=a.tmps.getD s undef:=by
    simp only [Act.put];exact iQ (by rw [hsim.size];exact hdN)
  rw [el] at h1 h3
  rw [ev] at h1
  obtain ⟨r1,r2,r3⟩:=oV (O:=O) hs1 h1 hst (by simp [rQ,hl])
  have hw:Below w.heap.size w (w.alloc (.cells (a.tmps.getD s undef).cells e)):=(Below.refl _ w).alloc (Nat.le_refl _) _
  refine ⟨_,_,by simp only [execOp,List.map_toArray,List.map_cons,List.map_nil,Act.eval];rw [Sem.run_bind,aBT (sz:=sz) w _ (r2.trans hlen) (by have:=(aZ _ _).1 hsz;omega) (Nat.le_of_ble_eq_true hs2)];rfl,?_⟩
  have hfin:=(hs1.grow hw).putDeep (d:=d) hdN (v:=.rw sz 1 (bO p)) (c:=.slice (some ⟨w.heap.size,0,none⟩) 1 1) (O:=w.heap.size::B) (by
      simp only [RelV]
      exact .inr ⟨w.heap.size,1,_,e,B,⟨rfl,Nat.le_refl _,by rw [Nat.one_mul,r2,hlen];exact Nat.le_refl _⟩,eD w _,RelL.keep _ _ _ _ (fun q _ l _ o ho=>by cases ho) (fun b hb=>fL w _ (h2 b hb).1) r1,rfl⟩) (by
      intro b hb
      rcases List.mem_cons.1 hb with rfl | hb
      · exact ⟨by simp,.inr (.inl (.inl hsim.kept.size)),fun l e=>by have:=(hs1.own _ (by rw [e];simp)).1;omega⟩
      · obtain ⟨q1,q2,q3⟩:=h2 b hb
        exact ⟨by simp;omega,q2,q3⟩) (by
      refine List.nodup_cons.2 ⟨fun hb=>by have:=(h2 _ hb).1;omega,(h3 rfl).1⟩) (by
      intro b hb
      rcases List.mem_cons.1 hb with rfl | hb
      · exact ⟨⟨_,_,eD w _⟩,.inl (.inl hsim.kept.size)⟩
      · obtain ⟨q1,cs,t,q2⟩:=(h3 rfl).2 b hb
        refine ⟨⟨cs,t,by rw [fL w _ (h2 b hb).1];exact q2⟩,?_⟩
        rcases (hs1.own b (by rw [q1];simp)).2 with h | ⟨l,h,_⟩
        · exact h
        · rw [q1] at h;cases h) (by
      intro b hb
      rcases List.mem_cons.1 hb with rfl | hb
      · cases hx:ow1 w.heap.size with
        | none=>exact .inl rfl
        | _=>have:=(hs1.own _ (by rw [hx];simp)).1;omega
      · exact .inr ((h3 rfl).2 b hb).1)
  refine Sim.congr (fun k=>?_) (fun l=>?_) ⟨_,_,(by
    have e:(a.put (some d) (a.tmps.getD s undef)).put (some d) (.slice (some ⟨w.heap.size,0,none⟩) 1 1)=a.put (some d) (.slice (some ⟨w.heap.size,0,none⟩) 1 1):=by
      simp [Act.put]
    rw [e] at hfin;exact hfin)⟩
  · simp only [Env.app,List.cons_append,List.nil_append,cN]
    by_cases h:d=k
    · simp [h]
    · simp [h]
  · rfl
end
section
variable {P:Program} {N:Nat} {Γ0 Γ:Ctx P N} {S:List (Nat × Slot)} {O:List (Nat × Option Ob)} {a:Act} {w:World}
theorem Ent.undeep (l:Nat) {cells:List PV} {dp bx:Bool} (ho:loq O l=some ⟨cells,dp,bx⟩):Ent Γ ⟨S,O⟩ ⟨S,(l,some ⟨cells,false,bx⟩)::O⟩:=by
  rintro a w ⟨ow,β,h⟩
  have ho':lo (Env.mk S O).o l=some ⟨cells,dp,bx⟩:=by rw [← cX];exact ho
  refine ⟨ow,β,{ size:=h.size,defers:=h.defers,kept:=h.kept,slots:=h.slots,objs:=fun m ob hm=>?_,gone:=fun m hm=>?_,own:=h.own,ios:=fun m b hm hs=>?_,fresh:=h.fresh }⟩
  · simp only [aW] at hm
    by_cases hml:l=m
    · subst hml
      rw [if_pos rfl] at hm;cases hm
      obtain ⟨B,o1,o2,o3⟩:=h.objs l _ ho'
      exact ⟨B,o1,(fun h=>by cases h),o3⟩
    · rw [if_neg hml] at hm;exact h.objs m ob hm
  · simp only [aW] at hm
    by_cases hml:l=m
    · rw [if_pos hml] at hm;cases hm
    · rw [if_neg hml] at hm;exact h.gone m hm
  · simp only [aW] at hs
    by_cases hml:l=m
    · subst hml;exact h.ios l b hm (by rw [ho'];rfl)
    · rw [if_neg hml] at hs;exact h.ios m b hm hs
theorem Sim.expose (hs:Sim Γ ⟨S,O⟩ a w) (l:Nat) {cells:List PV} {dp bx:Bool} (ho:loq O l=some ⟨cells,dp,bx⟩) (hne:0 < cells.length):∃ vs:List Value,vs.length=cells.length∧Sim Γ ⟨S,(l,some ⟨wz vs cells,dp,bx⟩)::O⟩ a w:=by
  obtain ⟨ow,β,hs⟩:=hs
  have ho':lo (Env.mk S O).o l=some ⟨cells,dp,bx⟩:=by rw [← cX];exact ho
  obtain ⟨B,o1,o2,o3⟩:=hs.objs l _ ho'
  rcases o3 with ⟨_,e2,_⟩ | ⟨b,cs,t,e1,e2,e3,e4⟩
  · simp only at e2;subst e2;simp at hne
  · have hlen:=RelL.length _ _ _ _ (Nat.zero_le _) e4
    simp only [Nat.zero_add] at hlen
    have hvl:(cs.toList.take cells.length).length=cells.length:=by rw [List.length_take];simp;omega
    refine ⟨cs.toList.take cells.length,hvl,ow,β,{ size:=hs.size,defers:=hs.defers,kept:=hs.kept,slots:=hs.slots,objs:=fun m ob hm=>?_,gone:=fun m hm=>?_,own:=hs.own,ios:=fun m b hm hx=>?_,fresh:=hs.fresh }⟩
    · simp only [aW] at hm
      by_cases hml:l=m
      · subst hml
        rw [if_pos rfl] at hm;cases hm
        refine ⟨_,o1,o2,.inr ⟨b,cs,t,e1,e2,e3,aAt hvl (fun k hk=>?_) e4⟩⟩
        rw [hvl] at hk
        rw [List.getElem?_take,if_pos hk];simp
      · rw [if_neg hml] at hm;exact hs.objs m ob hm
    · simp only [aW] at hm
      by_cases hml:l=m
      · rw [if_pos hml] at hm;cases hm
      · rw [if_neg hml] at hm;exact hs.gone m hm
    · simp only [aW] at hx
      by_cases hml:l=m
      · subst hml;exact hs.ios l b hm (by rw [ho'];rfl)
      · rw [if_neg hml] at hx;exact hs.ios m b hm hx
theorem aHd:∀ {vs:List Value} {ps:List PV},vs.length=ps.length→(wz vs ps).map slp=vs.map PV.sc
  | [],[],_=>rfl
  | v::vs,p::ps,h=>by simp only [wz,List.map_cons,slp];rw [aHd (by simpa using h)]
  | [],_::_,h=>by simp at h
  | _::_,[],h=>by simp at h
theorem aHf:∀ (vs:List Value) (ps:List PV),lL (wz vs ps)=true
  | [],_=>rfl
  | v::vs,[]=>rfl
  | v::vs,p::ps=>by simp only [wz,lL];exact aHf vs ps
theorem Ent.sleepZ (l:Nat) {vs:List Value} {cells:List PV} {dp:Bool} (ho:loq O l=some ⟨wz vs cells,dp,false⟩) (hl:vs.length=cells.length):Ent Γ ⟨S,O⟩ ⟨S,(l,some ⟨vs.map PV.sc,true,false⟩)::O⟩:=by
  rw [← aHd hl];exact Ent.sleepO l ho (aHf _ _)
theorem aCA {a b:List PV}:eV a=true→eV b=true→eV (a++b)=true:=by
  induction a with
  | nil=>intro _ h;exact h
  | cons x r ih=>intro h1 h2;simp only [eV,List.cons_append,Bool.and_eq_true] at h1 ⊢;exact ⟨h1.1,ih h1.2 h2⟩
theorem vP {α:Type} {e:α→List PV} (h:∀ y,eV (e y)=true):∀ l:List α,eV (l.flatMap e)=true
  | []=>rfl
  | y::r=>by rw [List.flatMap_cons];exact aCA (h y) (vP h r)
theorem oX {E Em:Env} {x y:Code} {Q:Exit→Act→World→Prop} (h:CodeT Γ x E (XEnv Γ .normal Em)) (hs:Sim Γ E a w) (hk:∀ a w,Sim Γ Em a w→y.wp P Q a w):(Code.seq x y).wp P Q a w:=by
  refine wp_seq (wp_mono (h a w hs) fun e a' w' ⟨E',hs',he⟩=>?_)
  obtain ⟨rfl,he2⟩:=he.out
  exact hk a' w' (he2 a' w' hs')
theorem Meets.introRaw {f:FuncId} {fn:Func} {c:Code} {p0:PV} {r:PV} (hf:P.funcs[f]?=some fn) (hb:fn.body=some c) (hN:fn.ntmps=N) (hn:1≤N) (hla:p0.labs=[])
    (h:∀ (Γ:Ctx P N) (c0:Value) (a:Act) (w:World),Later Γ Γ→OldF Γ c0 p0→Sim Γ ⟨[(0,⟨.was c0 p0,false⟩)],[]⟩ a w →
      c.wp P (fun e a' w'=>(e=.normal∨e=.ret)∧Kept Γ w'∧a'.defers=[]∧∃ v B,(results fn a'.tmps).run P w'=.ok v w'∧RelV w'.heap dead r v B∧∀ b ∈ B,Γ.ok b∨Γ.base≤b) a w):Meets P f [p0] r false:=by
  intro w cargs ok ha
  obtain ⟨h1,h2⟩:=ha.get
  obtain ⟨B,g1,g2⟩:=h2 0 (by simp)
  have hc1:cargs.size=1:=by have:=h1;simp at this;exact this.symm
  let Γ:Ctx P N:={ base:=w.heap.size,ok:=fun b=>ok b,io:=fun _=>none,w0:=w,mine:=fun _=>False,lent:=fun _=>False }
  have hsz:(cargs++Array.replicate (fn.ntmps - cargs.size) undef).size=N:=by simp [hN,hc1];omega
  have hK:Kept Γ w:=⟨rfl,rfl,rfl,Nat.le_refl _,fun _ _ _ _=>rfl,fun b _ _ cs t h=>⟨cs,h,rfl⟩⟩
  simp only [List.getD_cons_zero] at g1
  refine calls_of_wp hf hb ?_
  have e0:(cargs++Array.replicate (fn.ntmps - cargs.size) undef).getD 0 undef=cargs.toList.getD 0 undef:=by
    have hlt:0 < cargs.size:=by omega
    simp [Array.getD_eq_getD_getElem?,Array.getElem?_append,hlt,List.getD_eq_getElem?_getD]
  have hsim:Sim Γ ⟨[(0,⟨.was (cargs.toList.getD 0 undef) p0,false⟩)],[]⟩ { tmps:=cargs++Array.replicate (fn.ntmps - cargs.size) undef,defers:=[] } w:=by
    refine ⟨fun _=>.none,fun _=>none,{ size:=hsz,defers:=rfl,kept:=hK,slots:=fun k=>?_,objs:=fun l ob hl=>(by simp [lo] at hl),gone:=fun _ _=>rfl,own:=fun b hb=>absurd rfl hb,ios:=fun l b hl=>(by cases hl),fresh:=fun l b hl=>(by cases hl) }⟩
    simp only [cN]
    by_cases hk:0=k
    · subst hk
      rw [if_pos rfl,e0]
      refine ⟨B,?_,fun b hb=>⟨RelV.below _ _ _ g1 b hb,.inl (g2 b hb),fun l=>by simp⟩,by simp⟩
      simp only [RelV]
      exact ⟨trivial,RelV.keep _ _ _ (fun l hl=>by rw [hla] at hl;cases hl) (fun _ _=>rfl) g1⟩
    · rw [if_neg hk];exact ⟨[],by simp [lk,RelV],by simp,by simp [lk]⟩
  have hold:OldF Γ (cargs.toList.getD 0 undef) p0:=⟨hla,B,g1,fun b hb=>⟨g2 b hb,RelV.below _ _ _ g1 b hb,⟨fun h=>h,fun h=>h⟩,by simp [Γ]⟩⟩
  have hL:Later Γ Γ:=⟨Nat.le_refl _,fun b hb=>hb.imp id fun h=>by
    rcases h with (h | h) | h
    · exact h
    · exact h.elim
    · exact h.elim,fun b h=>h.elim,hK,fun _=>rfl,fun _ h=>h⟩
  refine wp_mono (h Γ _ _ _ hL hold hsim) fun e a' w' ⟨he,hk,hd,v,B',q1,q2,q3⟩=>?_
  have fin:a'.defers=[]∧∃ v,(results fn a'.tmps).run P w'=.ok v w'∧∃ c B,Ending.returned v=.returned c∧Below w.heap.size w w'∧RelV w'.heap dead r c B∧(∀ b ∈ B,ok b∨w.heap.size≤b)∧(false=true→B.Nodup∧∀ b ∈ B,w.heap.size≤b∧eW w' b) :=
    ⟨hd,v,q1,v,B',rfl,⟨hk.os,hk.tape,hk.output,hk.size,fun k hk'=>hk.old k hk' (fun l=>by simp [Γ]) (fun h=>h)⟩,q2,q3,by simp⟩
  rcases he with rfl | rfl
  · exact fin
  · exact fin
end
end Go.Ev
