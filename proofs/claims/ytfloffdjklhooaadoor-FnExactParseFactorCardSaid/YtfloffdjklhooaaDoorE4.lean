/- Parts EvW, EvAA, EvBB, EvCC, EvDD, EvEE, EvFF, EvGG, EvHH, EvII, EvJJ, EvKK, EvLL, EvMM, EvNN, EvOO, EvPP, EvQQ, EvRR, EvSS, EvTT, EvUU, EvVV, EvWW, EvXX, EvYY. -/
import Derived.Test.YtfloffdjklhooaaDoorE3
import Derived.Great.FillDense
set_option linter.all false
/- The engine, part W: calls that write a row with rows within. -/
namespace Go.Ev
open Go.RowKit (Below)
def MeetsN (P:Program) (f:FuncId) (args:List PV) (old new:List PV) (r:PV):Prop :=
  ∀ (w:World) (cargs:Array Value) (ok:Nat→Prop) (κ0:Option Nat) (H:List Nat),XArgs w.heap ok (fun l=>if l=100000 then some κ0 else none) args cargs.toList →
    ((κ0=none∧old=[]∧H=[])∨∃ b cs t,κ0=some b∧¬ok b∧b ∉ H∧w.heap[b]?=some (.cells cs t (0,0))∧RelL w.heap true dead old cs 0 H)→H.Nodup→(∀ c ∈ H,¬ok c∧cY w c) →
    Calls P f cargs w fun e w'=>∃ c H',e=.returned c∧Same w w'∧(∀ b,b < w.heap.size→κ0≠some b→b ∉ H→w'.heap[b]?=w.heap[b]?)∧RelV w'.heap dead r c [] ∧
      (κ0=none→new=[]∧H'=[])∧(∀ b cs t,κ0=some b→w.heap[b]?=some (.cells cs t (0,0))→b ∉ H'∧∃ cs',w'.heap[b]?=some (.cells cs' t (0,0))∧cs'.size=cs.size∧RelL w'.heap true dead new cs' 0 H') ∧
      H'.Nodup∧∀ c ∈ H',cY w' c∧(w.heap.size≤c∨c ∈ H)
section
variable {P:Program} {N:Nat}
def RetN (Γ:Ctx P N) (rs:Array ResultVar) (E:Env) (r:PV) (new:List PV):Prop :=
  RetIs Γ rs E r true∧∀ a w,Sim Γ E a w→∃ E',Sim Γ E' a w∧lo E'.o 100000=some ⟨new,true,false⟩
def pN (Γ:Ctx P N) (rs:Array ResultVar) (r:PV) (new:List PV):Exit→Env→Prop
  | .normal,E=>RetN Γ rs E r new
  | .ret,E=>RetN Γ rs E r new
  | _,_=>False
def XRetN (Γ:Ctx P N) (rs:Array ResultVar) (r:PV) (new:List PV) (e:Exit) (E:Env):Prop:=e=.ret∧RetN Γ rs E r new
section
variable {Γ:Ctx P N} {E:Env}
theorem XRetN.mk {rs:Array ResultVar} {r:PV} {new:List PV} (h:RetN Γ rs E r new):XRetN Γ rs r new .ret E:=⟨rfl,h⟩
theorem XRetN.out {rs:Array ResultVar} {r:PV} {new:List PV} {e:Exit} (h:XRetN Γ rs r new e E):e=.ret∧RetN Γ rs E r new:=h
theorem RetN.mk {rs:Array ResultVar} {r:PV} {new:List PV} (h:RetIs Γ rs E r true) (ho:lo E.o 100000=some ⟨new,true,false⟩):RetN Γ rs E r new:=⟨h,fun _ _ hs=>⟨E,hs,ho⟩⟩
theorem RetN.weak {E0:Env} {rs:Array ResultVar} {r:PV} {new:List PV} (he:Ent Γ E E0) (h:RetN Γ rs E0 r new):RetN Γ rs E r new:=⟨RetIs.weak he h.1,fun a w hs=>h.2 a w (he a w hs)⟩
end
theorem MeetsN.intro {f:FuncId} {fn:Func} {c:Code} {args old new:List PV} {r:PV} {rs:Array ResultVar} (hf:P.funcs[f]?=some fn) (hb:fn.body=some c) (hN:fn.ntmps=N) (hrs:fn.results=rs) (hn:Nat.ble args.length N=true)
    (hnil:old=[]→new=[]) (hr:eT r=true)
    (h:∀ Γ:Ctx P N,(∀ l,Nat.blt l 100000=true→Γ.io l=none)→(∀ b,¬Γ.lent b)→CodeT Γ c ⟨cL args 0,[(100000,some ⟨old,true,false⟩)]⟩ (pN Γ rs r new)):MeetsN P f args old new r:=by
  classical
  intro w cargs ok κ0 H ha hob hnd hH
  obtain ⟨h1,h2⟩:=ha.get
  have hn:=Nat.le_of_ble_eq_true hn
  let Γ:Ctx P N:={ base:=w.heap.size,ok:=ok,io:=fun l=>if l=100000 then κ0 else none,w0:=w,mine:=fun b=>b ∈ H,lent:=fun _=>False }
  have hsz:(cargs++Array.replicate (fn.ntmps - cargs.size) undef).size=N:=by
    have:cargs.size=args.length:=by rw [h1];simp
    simp [this,hN];omega
  have hlt:∀ b,(κ0=some b∨b ∈ H)→b < w.heap.size:=by
    rintro b (e | e)
    · rcases hob with ⟨e',_⟩ | ⟨b',cs,t,e',_,_,g,_⟩
      · rw [e] at e';cases e'
      · rw [e] at e';cases e'
        rcases Nat.lt_or_ge b w.heap.size with h | h
        · exact h
        · simp [Array.getElem?_eq_none h] at g
    · obtain ⟨_,cs,t,g⟩:=hH b e
      rcases Nat.lt_or_ge b w.heap.size with h | h
      · exact h
      · simp [Array.getElem?_eq_none h] at g
  have hκH:∀ b,κ0=some b→b ∉ H:=by
    intro b e
    rcases hob with ⟨e',_⟩ | ⟨b',cs,t,e',_,g,_⟩
    · rw [e] at e';cases e'
    · rw [e] at e';cases e';exact g
  have hκok:∀ b,κ0=some b→¬ok b:=by
    intro b e
    rcases hob with ⟨e',_⟩ | ⟨b',cs,t,e',g,_⟩
    · rw [e] at e';cases e'
    · rw [e] at e';cases e';exact g
  refine calls_of_wp hf hb ?_
  let ow:Nat→Own:=fun b=>if κ0=some b then .lab 100000 else if b ∈ H then .obj 100000 else .none
  let β:Nat→Option (Option Nat):=fun l=>if l=100000 then some κ0 else none
  have how1:∀ b,κ0=some b→ow b=.lab 100000:=fun b e=>by show (if _ then _ else _)=_;rw [if_pos e]
  have how2:∀ b,b ∈ H→ow b=.obj 100000:=fun b e=>by
    show (if _ then _ else if _ then _ else _)=_
    rw [if_neg (fun e'=>hκH b e' e),if_pos e]
  have how3:∀ b l,ow b=.lab l→κ0=some b∧l=100000:=by
    intro b l e
    have e:(if κ0=some b then Own.lab 100000 else if b ∈ H then .obj 100000 else .none)=.lab l:=e
    split at e
    · rename_i h;injection e with e;exact ⟨h,e.symm⟩
    · split at e <;> cases e
  have hsim:Sim Γ ⟨cL args 0,[(100000,some ⟨old,true,false⟩)]⟩ { tmps:=cargs++Array.replicate (fn.ntmps - cargs.size) undef,defers:=[] } w:=by
    refine ⟨ow,β,{ size:=hsz,defers:=rfl,kept:=⟨rfl,rfl,rfl,Nat.le_refl _,fun _ _ _ _=>rfl,fun b _ _ cs t h=>⟨cs,h,rfl⟩⟩,slots:=fun k=>?_,objs:=fun l ob hl=>?_,gone:=fun l hl=>?_,own:=fun b hb=>?_,ios:=fun l b hl _=>?_,fresh:=fun l b hl hi=>?_ }⟩
    · rw [dX]
      by_cases hk:k < args.length
      · rw [if_pos ⟨Nat.zero_le _,by simpa using hk⟩]
        obtain ⟨B,g1,g2⟩:=h2 k hk
        refine ⟨B,?_,fun b hb=>⟨RelV.below _ _ _ g1 b hb,.inl (g2 b hb),fun l e=>hκok b (how3 b l e).1 (g2 b hb)⟩,by simp⟩
        have e:(cargs++Array.replicate (fn.ntmps - cargs.size) undef).getD k undef=cargs.toList.getD k undef:=by
          have hlt:k < cargs.size:=by rw [h1] at hk;simpa using hk
          simp [Array.getD_eq_getD_getElem?,Array.getElem?_append,hlt,List.getD_eq_getElem?_getD]
        rw [e]
        simpa only [Nat.sub_zero] using g1
      · rw [if_neg (by simpa using hk)]
        exact ⟨[],by simp [RelV],by simp,by simp⟩
    · simp only [aZ] at hl
      by_cases e:100000=l
      · subst e
        rw [if_pos rfl] at hl;cases hl
        refine ⟨H,fun b hb=>⟨hlt b (.inr hb),.inr (.inl (.inr hb)),fun l=>by rw [how2 b hb];simp⟩,fun _=>⟨hnd,fun b hb=>⟨how2 b hb,(hH b hb).2⟩⟩,?_⟩
        rcases hob with ⟨e1,e2,e3⟩ | ⟨b,cs,t,e1,_,_,e3,e4⟩
        · exact .inl ⟨by show (if _ then _ else _)=_;rw [if_pos rfl,e1],e2,e3⟩
        · exact .inr ⟨b,cs,t,by show (if _ then _ else _)=_;rw [if_pos rfl,e1],how1 b e1,e3,by simpa using e4⟩
      · rw [if_neg e] at hl;simp [lo] at hl
    · simp only [aZ] at hl
      by_cases e:100000=l
      · rw [if_pos e] at hl;cases hl
      · show (if _ then _ else _)=_;rw [if_neg (fun e'=>e e'.symm)]
    · by_cases e:κ0=some b
      · exact ⟨hlt b (.inl e),.inr ⟨100000,how1 b e,by show (if (100000:Nat)=100000 then κ0 else none)=some b;rw [if_pos rfl,e]⟩⟩
      · by_cases e2:b ∈ H
        · exact ⟨hlt b (.inr e2),.inl (.inl (.inr e2))⟩
        · exfalso;apply hb;show (if _ then _ else if _ then _ else _)=_;rw [if_neg e,if_neg e2]
    · have hl:(if l=100000 then κ0 else none)=some b:=hl
      split at hl
      · rename_i e;show (if _ then _ else _)=_;rw [if_pos e,hl]
      · cases hl
    · have hl:(if l=100000 then some κ0 else none)=some (some b):=hl
      have hi:(if l=100000 then κ0 else none)=none:=hi
      split at hl
      · rename_i e;rw [if_pos e] at hi;rw [hi] at hl;cases hl
      · cases hl
  have hioN:∀ l,Nat.blt l 100000=true→Γ.io l=none:=by
    intro l hl
    have hl:=(aK _ _).1 hl
    show (if l=100000 then κ0 else none)=none
    rw [if_neg (by omega)]
  refine wp_mono (h Γ hioN (fun _ h=>h) _ _ hsim) fun e a' w' ⟨E',hs',hq⟩=>?_
  have fin:RetN Γ rs E' r new→a'.defers=[]∧∃ v,(results fn a'.tmps).run P w'=.ok v w'∧∃ c H',Ending.returned v=.returned c∧Same w w'∧(∀ b,b < w.heap.size→κ0≠some b→b ∉ H→w'.heap[b]?=w.heap[b]?)∧RelV w'.heap dead r c [] ∧
      (κ0=none→new=[]∧H'=[])∧(∀ b cs t,κ0=some b→w.heap[b]?=some (.cells cs t (0,0))→b ∉ H'∧∃ cs',w'.heap[b]?=some (.cells cs' t (0,0))∧cs'.size=cs.size∧RelL w'.heap true dead new cs' 0 H') ∧
      H'.Nodup∧∀ c ∈ H',cY w' c∧(w.heap.size≤c∨c ∈ H):=by
    rintro ⟨hr1,hr2⟩
    obtain ⟨c,B,g1,g2,_,_⟩:=hr1 fn hrs a' w' hs'
    have:=jR _ hr g2
    subst this
    obtain ⟨E2,⟨ow2,β2,hs2⟩,hl⟩:=hr2 a' w' hs'
    obtain ⟨Bo,k1,k2,k3⟩:=hs2.objs 100000 _ hl
    obtain ⟨k2n,k2⟩:=k2 rfl
    refine ⟨hs2.defers,c,g1,c,Bo,rfl,⟨hs2.kept.os,hs2.kept.output,hs2.kept.tape,hs2.kept.size⟩,fun b hb hn1 hn2=>hs2.kept.old b hb (fun l e=>?_) hn2,g2,fun e=>?_,fun b cs t e hc=>?_,k2n,fun c hc=>⟨(k2 c hc).2,?_⟩⟩
    · have e:(if l=100000 then κ0 else none)=some b:=e
      split at e
      · exact hn1 e
      · cases e
    · have en:new=[]:=hnil (by
        rcases hob with ⟨_,e2,_⟩ | ⟨b,_,_,e2,_⟩
        · exact e2
        · rw [e] at e2;cases e2)
      refine ⟨en,?_⟩
      rcases k3 with ⟨_,_,k6⟩ | ⟨_,_,_,_,_,_,k7⟩
      · exact k6
      · subst en;simpa [RelL] using k7
    · have hβ:=hs2.ios 100000 b (by show (if (100000:Nat)=100000 then κ0 else none)=some b;rw [if_pos rfl,e]) (by rw [hl];rfl)
      rcases k3 with ⟨k4,_⟩ | ⟨b',cs',t',k4,k5,k6,k7⟩
      · rw [hβ] at k4;cases k4
      · rw [hβ] at k4;cases k4
        obtain ⟨cs2,q1,q2⟩:=hs2.kept.ios b (hlt b (.inl e)) (hκH b e) cs t hc
        rw [k6] at q1;cases q1
        exact ⟨fun hb=>(k1 b hb).2.2 _ k5,cs',k6,q2,by simpa using k7⟩
    · have e:=(k2 c hc).1
      rcases (hs2.own c (by rw [e];simp)).2 with g | ⟨m,g,_⟩
      · exact (g.elim id False.elim:Γ.nww c)
      · rw [e] at g;cases g
  cases e with
  | normal=>exact fin hq
  | ret=>exact fin hq
  | exit id=>exact hq.elim
  | goto l=>exact hq.elim
  | panic ch=>exact hq.elim
  | outgrown=>exact hq.elim
end
section
variable {P:Program} {N:Nat} {Γ:Ctx P N} {S:List (Nat × Slot)} {O:List (Nat × Option Ob)} {ow:Nat→Own} {β:Nat→Option (Option Nat)} {F:Env} {a:Act} {w:World}
variable {d:Nat} {ty:TypeId} {pos:String} {af:Array Edge} {g:Option (Nat × Bool)}
end
end Go.Ev
/- The engine, part AA: parameters that may be read again; results with rows within. -/
namespace Go.Ev
open Go.RowKit (Below)
section
variable {P:Program} {N:Nat} {Γ:Ctx P N} {S:List (Nat × Slot)} {O:List (Nat × Option Ob)} {ow:Nat→Own} {β:Nat→Option (Option Nat)} {F:Env} {a:Act} {w:World}
def vK (Γ:Ctx P N) (c:Value) (p:PV):Prop:=p.labs=[]∧∃ B,RelV Γ.w0.heap dead p c B∧∀ b ∈ B,Γ.ok b∧b < Γ.base∧(¬Γ.mine b∧¬Γ.lent b)∧∀ l,Γ.io l≠some b
end
end Go.Ev
/- The engine, part BB: results with rows within get labels. -/
namespace Go.Ev
open Go.RowKit (Below)
section
variable {P:Program} {N:Nat} {Γ:Ctx P N} {S:List (Nat × Slot)} {O:List (Nat × Option Ob)} {ow:Nat→Own} {β:Nat→Option (Option Nat)} {F:Env} {a:Act} {w:World}
theorem Rows.nil {h:Array Obj} {blk:Nat→Option (Option Nat)} {nest:Nat→List Nat} {B:List Nat}:Rows [] h blk nest B:=⟨by simp,by simp,by simp,by simp,by simp,by simp⟩
theorem Rows.append {h:Array Obj} {us vs:List (Nat × Option Ob)} {blk blk':Nat→Option (Option Nat)} {nest nest':Nat→List Nat} {B B':List Nat} (h1:Rows us h blk nest B) (h2:Rows vs h blk' nest' B') (hd:∀ l ∈ us.map (·.1),l ∉ vs.map (·.1)) (hB:∀ b ∈ B,b ∉ B') :
    ∃ b2 n2,(∀ l ∈ us.map (·.1),b2 l=blk l)∧(∀ l ∈ vs.map (·.1),b2 l=blk' l)∧Rows (us++vs) h b2 n2 (B++B'):=by
  classical
  let b2:Nat→Option (Option Nat):=fun l=>if l ∈ us.map (·.1) then blk l else blk' l
  let n2:Nat→List Nat:=fun l=>if l ∈ us.map (·.1) then nest l else nest' l
  have eb1:∀ l ∈ us.map (·.1),b2 l=blk l:=fun l hl=>by show (if _ then _ else _)=_;rw [if_pos hl]
  have eb2:∀ l ∈ vs.map (·.1),b2 l=blk' l:=fun l hl=>by show (if _ then _ else _)=_;rw [if_neg (fun e=>hd l e hl)]
  have en1:∀ l ∈ us.map (·.1),n2 l=nest l:=fun l hl=>by show (if _ then _ else _)=_;rw [if_pos hl]
  have en2:∀ l ∈ vs.map (·.1),n2 l=nest' l:=fun l hl=>by show (if _ then _ else _)=_;rw [if_neg (fun e=>hd l e hl)]
  have hm:∀ l,l ∈ (us++vs).map (·.1)→l ∈ us.map (·.1)∨l ∈ vs.map (·.1):=fun l hl=>by rw [List.map_append] at hl;exact List.mem_append.1 hl
  refine ⟨b2,n2,eb1,eb2,⟨fun l hl=>?_,fun l hl=>?_,fun l hl b hb=>?_,fun l hl l' hl' b hb hb'=>?_,fun l hl l' hl' b hb hb'=>?_,fun l hl l' hl' c hc hc'=>?_⟩⟩
  · rcases hm l hl with hl | hl
    · obtain ⟨cells,g1,g2⟩:=h1.ob l hl
      exact ⟨cells,by rw [bE _ _ _ hl];exact g1,by rw [eb1 l hl,en1 l hl];exact g2⟩
    · obtain ⟨cells,g1,g2⟩:=h2.ob l hl
      exact ⟨cells,by rw [aT _ _ _ (fun e=>hd l e hl)];exact g1,by rw [eb2 l hl,en2 l hl];exact g2⟩
  · rcases hm l hl with hl | hl
    · rw [en1 l hl];exact ⟨(h1.nd l hl).1,fun c hc=>List.mem_append_left _ ((h1.nd l hl).2 c hc)⟩
    · rw [en2 l hl];exact ⟨(h2.nd l hl).1,fun c hc=>List.mem_append_right _ ((h2.nd l hl).2 c hc)⟩
  · rcases hm l hl with hl | hl
    · rw [eb1 l hl] at hb;exact List.mem_append_left _ (h1.inB l hl b hb)
    · rw [eb2 l hl] at hb;exact List.mem_append_right _ (h2.inB l hl b hb)
  · rcases hm l hl with hl | hl <;> rcases hm l' hl' with hl' | hl'
    · rw [eb1 l hl] at hb;rw [eb1 l' hl'] at hb';exact h1.bb l hl l' hl' b hb hb'
    · rw [eb1 l hl] at hb;rw [eb2 l' hl'] at hb';exact absurd (h2.inB l' hl' b hb') (hB b (h1.inB l hl b hb))
    · rw [eb2 l hl] at hb;rw [eb1 l' hl'] at hb';exact absurd (h2.inB l hl b hb) (hB b (h1.inB l' hl' b hb'))
    · rw [eb2 l hl] at hb;rw [eb2 l' hl'] at hb';exact h2.bb l hl l' hl' b hb hb'
  · rcases hm l hl with hl | hl <;> rcases hm l' hl' with hl' | hl'
    · rw [eb1 l hl] at hb;rw [en1 l' hl'] at hb';exact h1.bn l hl l' hl' b hb hb'
    · rw [eb1 l hl] at hb;rw [en2 l' hl'] at hb';exact hB b (h1.inB l hl b hb) ((h2.nd l' hl').2 b hb')
    · rw [eb2 l hl] at hb;rw [en1 l' hl'] at hb';exact hB b ((h1.nd l' hl').2 b hb') (h2.inB l hl b hb)
    · rw [eb2 l hl] at hb;rw [en2 l' hl'] at hb';exact h2.bn l hl l' hl' b hb hb'
  · rcases hm l hl with hl | hl <;> rcases hm l' hl' with hl' | hl'
    · rw [en1 l hl] at hc;rw [en1 l' hl'] at hc';exact h1.nn l hl l' hl' c hc hc'
    · rw [en1 l hl] at hc;rw [en2 l' hl'] at hc';exact absurd ((h2.nd l' hl').2 c hc') (hB c ((h1.nd l hl).2 c hc))
    · rw [en2 l hl] at hc;rw [en1 l' hl'] at hc';exact absurd ((h2.nd l hl).2 c hc) (hB c ((h1.nd l' hl').2 c hc'))
    · rw [en2 l hl] at hc;rw [en2 l' hl'] at hc';exact h2.nn l hl l' hl' c hc hc'
variable {d:Nat} {ty:TypeId} {pos:String} {af:Array Edge} {g:Option (Nat × Bool)}
end
end Go.Ev
/- The engine, part CC: values put together from others, values softened. -/
namespace Go.Ev
open Go.RowKit (Below)
section
variable {P:Program} {N:Nat} {Γ:Ctx P N} {S:List (Nat × Slot)} {O:List (Nat × Option Ob)} {ow:Nat→Own} {β:Nat→Option (Option Nat)} {F:Env} {a:Act} {w:World}
variable {d:Nat} {ty:TypeId} {pos:String} {af:Array Edge} {g:Option (Nat × Bool)}
end
end Go.Ev
/- The engine, part DD: struct literals. -/
namespace Go.Ev
open Go.RowKit (Below)
class PlT (P:Program) (t:Nat) (pl:outParam (List (Nat × Nat))):Prop where
  ok:∃ fs,P.underlying t=some (.struct fs)∧fs.toList.mapM (fun f=>(P.info? f.type).map fun i=>(f.offset,i.size))=some pl
theorem PlT.of {P:Program} {t:Nat} {pl:List (Nat × Nat)} (h:(match P.underlying t with | some (.struct fs)=>fs.toList.mapM (fun f=>(P.info? f.type).map fun i=>(f.offset,i.size)) | _=>none)=some pl):PlT P t pl:=by
  split at h
  · rename_i fs hu;exact ⟨fs,hu,h⟩
  · cases h
inductive BuildV (S:List (Nat × Slot)) (pl:List (Nat × Nat)) (dp:Bool):List (Nat × Operand)→List PV→List PV→List Nat→Prop
  | nil {cells:List PV}:BuildV S pl dp [] cells cells []
  | sc {i off n:Nat} {x:Operand} {p:PV} {r:List (Nat × Operand)} {cells cells':List PV} {ks:List Nat}:evq S x=some p→eT p=true→p.labs=[]→stB [] false p=true→pl[i]?=some (off,n)→Nat.beq (aV p).length n=true→Nat.ble (off+n) cells.length=true →
      BuildV S pl dp r (cells.take off++aV p++cells.drop (off+n)) cells' ks→BuildV S pl dp ((i,x)::r) cells cells' ks
  | tk {i off n k:Nat} {p:PV} {r:List (Nat × Operand)} {cells cells':List PV} {ks:List Nat}:lkq S k=some ⟨p,true⟩→p.labs=[]→stB [] false p=true→pl[i]?=some (off,n)→Nat.beq (aV p).length n=true→Nat.ble (off+n) cells.length=true→jT ks k=false →
      BuildV S pl dp r (cells.take off++aV p++cells.drop (off+n)) cells' ks→BuildV S pl dp ((i,.tmp k)::r) cells cells' (k::ks)
  | sh {i off n:Nat} {x:Operand} {p:PV} {r:List (Nat × Operand)} {cells cells':List PV} {ks:List Nat}:dp=false→evq S x=some p→p.labs=[]→stB [] false p=true→pl[i]?=some (off,n)→Nat.beq (aV p).length n=true→Nat.ble (off+n) cells.length=true →
      BuildV S pl dp r (cells.take off++aV p++cells.drop (off+n)) cells' ks→BuildV S pl dp ((i,x)::r) cells cells' ks
section
variable {P:Program} {N:Nat} {Γ:Ctx P N} {S:List (Nat × Slot)} {O:List (Nat × Option Ob)} {ow:Nat→Own} {β:Nat→Option (Option Nat)} {F:Env} {a:Act} {w:World}
variable {d:Nat} {ty:TypeId} {pos:String} {af:Array Edge} {g:Option (Nat × Bool)}
end
end Go.Ev
/- The engine, part EE: softening, more. -/
namespace Go.Ev
open Go.RowKit (Below)
section
variable {P:Program} {N:Nat} {Γ:Ctx P N} {S:List (Nat × Slot)} {O:List (Nat × Option Ob)} {ow:Nat→Own} {β:Nat→Option (Option Nat)} {F:Env} {a:Act} {w:World}
end
end Go.Ev
/- The engine, part FF: values handed in for good: their blocks may go into the result. -/
namespace Go.Ev
open Go.RowKit (Below)
def DArgs (h:Array Obj) (ok:Nat→Prop) (H:Nat→List Nat):List (PV × Bool)→List Value→Nat→Prop
  | [],[],_=>True
  | (p,false)::ps,c::cs,k=>(∃ B,RelV h dead p c B∧∀ b ∈ B,ok b)∧DArgs h ok H ps cs (k+1)
  | (p,true)::ps,c::cs,k=>RelV h dead p c (H k)∧DArgs h ok H ps cs (k+1)
  | _,_,_=>False
def MeetsD (P:Program) (f:FuncId) (args:List (PV × Bool)) (r:PV):Prop :=
  ∀ (w:World) (cargs:Array Value) (ok:Nat→Prop) (H:Nat→List Nat),DArgs w.heap ok H args cargs.toList 0→(∀ k,(H k).Nodup∧∀ b ∈ H k,¬ok b∧cY w b)→(∀ k k' b,b ∈ H k→b ∈ H k'→k=k') →
    Calls P f cargs w fun e w'=>∃ c B,e=.returned c∧Below w.heap.size w w'∧RelV w'.heap dead r c B∧B.Nodup∧∀ b ∈ B,cY w' b∧(w.heap.size≤b∨∃ k,b ∈ H k)
theorem DArgs.get {h:Array Obj} {ok:Nat→Prop} {H:Nat→List Nat}:∀ {ps:List (PV × Bool)} {cs:List Value} {k0:Nat},DArgs h ok H ps cs k0→ps.length=cs.length∧∀ k p dp,ps[k]?=some (p,dp)→∃ B,RelV h dead p (cs.getD k undef) B∧(dp=false→∀ b ∈ B,ok b)∧(dp=true→B=H (k0+k))
  | [],[],_,_=>⟨rfl,fun k p dp h=>by simp at h⟩
  | (p,false)::ps,c::cs,k0,h=>by
    obtain ⟨⟨B,h1,h2⟩,h3⟩:=h
    obtain ⟨g1,g2⟩:=DArgs.get h3
    refine ⟨by simp [g1],fun k p' dp hk=>?_⟩
    cases k with
    | zero=>simp at hk;obtain ⟨rfl,rfl⟩:=hk;exact ⟨B,by simpa using h1,fun _=>h2,fun h=>by cases h⟩
    | succ k=>obtain ⟨B',q1,q2,q3⟩:=g2 k p' dp (by simpa using hk);exact ⟨B',by simpa using q1,q2,fun h=>by rw [q3 h];congr 1;omega⟩
  | (p,true)::ps,c::cs,k0,h=>by
    obtain ⟨h1,h3⟩:=h
    obtain ⟨g1,g2⟩:=DArgs.get h3
    refine ⟨by simp [g1],fun k p' dp hk=>?_⟩
    cases k with
    | zero=>simp at hk;obtain ⟨rfl,rfl⟩:=hk;exact ⟨H k0,by simpa using h1,(fun h=>by cases h),fun _=>rfl⟩
    | succ k=>obtain ⟨B',q1,q2,q3⟩:=g2 k p' dp (by simpa using hk);exact ⟨B',by simpa using q1,q2,fun h=>by rw [q3 h];congr 1;omega⟩
  | [],_::_,_,h=>h.elim
  | (_,false)::_,[],_,h=>h.elim
  | (_,true)::_,[],_,h=>h.elim
end Go.Ev
/- The engine, part GG: functions that write all that an own value holds. -/
namespace Go.Ev
open Go.RowKit (Below)
theorem uC {w:World} {b:Nat} (h:cY w b):b < w.heap.size:=by
  obtain ⟨cs,t,g⟩:=h
  rcases Nat.lt_or_ge b w.heap.size with h | h
  · exact h
  · simp [Array.getElem?_eq_none h] at g
def slp:PV→PV
  | .was v _=>.sc v
  | p=>p
def stp:PV→PV
  | .was _ p=>p
  | p=>p
def rew:List PV→List PV→List PV
  | .was v _::ws,p::ps=>.was v p::rew ws ps
  | _::ws,p::ps=>p::rew ws ps
  | _,_=>[]
def kZ:List PV→Bool
  | []=>true
  | .was _ _::r=>kZ r
  | _=>false
inductive MCut:List PV→PV→PV→PV→List PV→Prop
  | one {v:Value} {p p':PV}:MCut [.was v p] (.sc v) p p' [.was v p']
  | agg {ws ns:List PV}:kZ ws=true→Nat.beq ns.length ws.length=true→MCut ws (.agg (ws.map slp)) (.agg (ws.map stp)) (.agg ns) (rew ws ns)
section
variable {P:Program} {N:Nat} {Γ:Ctx P N} {S:List (Nat × Slot)} {O:List (Nat × Option Ob)} {ow:Nat→Own} {β:Nat→Option (Option Nat)} {F:Env} {a:Act} {w:World}
theorem Soft.was {v:Value} {p:PV}:Soft (.was v p) p:=by
  intro h β c B H
  simp only [RelV] at H
  exact H.2
variable {d:Nat} {ty:TypeId} {pos:String} {af:Array Edge} {g:Option (Nat × Bool)}
end
end Go.Ev
/- The engine, part HH: cells made known, values forgotten; functions that write what a struct holds. -/
namespace Go.Ev
open Go.RowKit (Below)
def Forg (p p':PV):Prop:=∀ (h:Array Obj) (β:Nat→Option (Option Nat)) (c:Value) (B:List Nat),RelV h β p c B→RelV h β p' c []
theorem Forg.was {v:Value} {p:PV}:Forg (.was v p) (.sc v):=by
  intro h β c B H
  simp only [RelV] at H ⊢
  exact ⟨H.1,trivial⟩
theorem uN {h:Array Obj} {q:Bool} {β:Nat→Option (Option Nat)}:∀ {ws:List PV} {cs:Array Value} {i:Nat} {O:List Nat},kZ ws=true→RelL h q β ws cs i O→RelL h q β (ws.map slp) cs i []
  | [],_,_,_,_,_=>by simp [RelL]
  | p::ws,cs,i,O,ha,H=>by
    cases p with
    | was v p =>
      simp only [List.map_cons,slp,RelL,RelV] at H ⊢
      obtain ⟨c,O1,O2,h1,h2,h3,_⟩:=H
      exact ⟨c,[],[],h1,⟨h2.1,rfl⟩,uN (by simpa [kZ] using ha) h3,rfl⟩
    | _=>simp [kZ] at ha
theorem Forg.agg {ws:List PV} (ha:kZ ws=true):Forg (.agg ws) (.agg (ws.map slp)):=by
  intro h β c B H
  simp only [RelV] at H ⊢
  obtain ⟨cs,h1,h2,h3⟩:=H
  exact ⟨cs,h1,by simpa using h2,uN ha h3⟩
section
variable {P:Program} {N:Nat} {Γ:Ctx P N} {S:List (Nat × Slot)} {O:List (Nat × Option Ob)} {ow:Nat→Own} {β:Nat→Option (Option Nat)} {F:Env} {a:Act} {w:World}
def RetM (Γ:Ctx P N) (rs:Array ResultVar) (E:Env) (k':Value) (ws:List PV):Prop :=
  RetIs Γ rs E (.sc k') true∧∀ a w,Sim Γ E a w→∃ E' l,Sim Γ E' a w∧lo E'.o l=some ⟨ws,true,false⟩
theorem RetM.mk {rs:Array ResultVar} {k':Value} {ws:List PV} (l:Nat) (h:RetIs Γ rs ⟨S,O⟩ (.sc k') true) (ho:loq O l=some ⟨ws,true,false⟩):RetM Γ rs ⟨S,O⟩ k' ws:=⟨h,fun _ _ hs=>⟨_,l,hs,by rw [← dC];exact ho⟩⟩
end
end Go.Ev
namespace Go.Ev
section
variable {α β:Type}
end
end Go.Ev
/- The engine, part II: laws that write what they have made: parameters that sleep. -/
namespace Go.Ev
open Go.RowKit (Below)
section
variable {P:Program} {N:Nat} {Γ:Ctx P N} {S:List (Nat × Slot)} {O:List (Nat × Option Ob)} {ow:Nat→Own} {β:Nat→Option (Option Nat)} {F:Env} {a:Act} {w:World}
def OldL (Γ:Ctx P N):List Value→List PV→Prop
  | v::vs,p::ps=>vK Γ v p∧OldL Γ vs ps
  | [],[]=>True
  | _,_=>False
theorem OldL.of {Γ:Ctx P N} (hB:∀ b,Γ.ok b→b < Γ.base→True):∀ {ps:List PV} {vs:List Value} {cs:Array Value} {i:Nat} {B:List Nat},vs.length=ps.length→(∀ k,k < vs.length→cs[i+k]?=vs[k]?)→jS ps=true→RelL Γ.w0.heap true dead ps cs i B→(∀ b ∈ B,Γ.ok b∧b < Γ.base∧(¬Γ.mine b∧¬Γ.lent b)∧∀ l,Γ.io l≠some b)→OldL Γ vs ps
  | [],[],_,_,_,_,_,_,_,_=>trivial
  | p::ps,v::vs,cs,i,B,hl,hk,hn,H,hb=>by
    simp only [RelL] at H
    obtain ⟨c,O1,O2,h1,h2,h3,rfl⟩:=H
    have h0:=hk 0 (by simp)
    simp only [Nat.add_zero,List.getElem?_cons_zero] at h0
    rw [h1.1] at h0;injection h0 with h0
    subst h0
    refine ⟨⟨gR hn p (by simp),O1,h2,fun b hb'=>hb b (by simp [hb'])⟩,?_⟩
    refine OldL.of hB (by simpa using hl) (fun k hk'=>?_) ?_ h3 (fun b hb'=>hb b (by simp [hb']))
    · have:=hk (k+1) (by simpa using hk')
      rw [show i+1+k=i+(k+1) by omega,this];simp
    · simp only [jS,Bool.and_eq_true] at hn;exact hn.2
  | [],_::_,_,_,_,hl,_,_,_,_=>by simp at hl
  | _::_,[],_,_,_,hl,_,_,_,_=>by simp at hl
end
end Go.Ev
/- The engine, part JJ: rows that become values as they are made. -/
namespace Go.Ev
open Go.RowKit (Below)
section
variable {P:Program} {N:Nat} {Γ:Ctx P N} {S:List (Nat × Slot)} {O:List (Nat × Option Ob)} {ow:Nat→Own} {β:Nat→Option (Option Nat)} {F:Env} {a:Act} {w:World}
end
end Go.Ev
/- The engine, part KK: a law's rest, begun anew: what there is by then is old. -/
namespace Go.Ev
open Go.RowKit (Below)
section
variable {P:Program} {N:Nat} {Γ:Ctx P N} {S:List (Nat × Slot)} {O:List (Nat × Option Ob)}
end
end Go.Ev
/- The engine, part LL: rows that grow within a struct. -/
namespace Go.Ev
open Go.RowKit (Below)
section
variable {P:Program} {N:Nat} {Γ:Ctx P N} {S:List (Nat × Slot)} {O:List (Nat × Option Ob)}
end
end Go.Ev
/- The engine, part MM: values handed over for good. -/
namespace Go.Ev
open Go.RowKit (Below)
def jB:List (PV × Bool)→Nat→List (Nat × Slot)
  | [],_=>[]
  | (p,dp)::r,k=>(k,⟨p,dp⟩)::jB r (k+1)
theorem mY:∀ (ps:List (PV × Bool)) (i k:Nat),lk (jB ps i) k=if i≤k∧k - i < ps.length then ⟨(ps.getD (k - i) (.any,false)).1,(ps.getD (k - i) (.any,false)).2⟩ else ⟨.any,false⟩
  | [],i,k=>by simp [jB,lk]
  | (p,dp)::r,i,k=>by
    rw [jB,dM,mY r (i+1) k]
    by_cases h:i=k
    · subst h;simp
    · rw [if_neg h]
      by_cases h2:i+1≤k∧k - (i+1) < r.length
      · rw [if_pos h2,if_pos (by simp;omega)]
        have:k - i=(k - (i+1))+1:=by omega
        rw [this];simp
      · rw [if_neg h2,if_neg (by simp;omega)]
theorem MeetsD.intro {P:Program} {N:Nat} {f:FuncId} {fn:Func} {c:Code} {args:List (PV × Bool)} {r:PV} {rs:Array ResultVar} (hf:P.funcs[f]?=some fn) (hb:fn.body=some c) (hN:fn.ntmps=N) (hrs:fn.results=rs) (hn:Nat.ble args.length N=true)
    (h:∀ Γ:Ctx P N,(∀ l,Nat.blt l 100000=true→Γ.io l=none)→CodeT Γ c ⟨jB args 0,[]⟩ (kJ Γ rs r true)):MeetsD P f args r:=by
  classical
  intro w cargs ok H ha hH hdis
  obtain ⟨h1,h2⟩:=ha.get
  have hn:=Nat.le_of_ble_eq_true hn
  let Γ:Ctx P N:={ base:=w.heap.size,ok:=ok,io:=fun _=>none,w0:=w,mine:=fun _=>False,lent:=fun b=>∃ k,b ∈ H k }
  have hsz:(cargs++Array.replicate (fn.ntmps - cargs.size) undef).size=N:=by
    have:cargs.size=args.length:=by rw [h1];simp
    simp [this,hN];omega
  refine calls_of_wp hf hb ?_
  let ow:Nat→Own:=fun b=>if hh:∃ k,b ∈ H k then .slot hh.choose else .none
  have how:∀ b k,b ∈ H k→ow b=.slot k:=by
    intro b k e
    have hh:∃ k,b ∈ H k:=⟨k,e⟩
    show (if hh:_ then _ else _)=_
    rw [dif_pos hh,hdis _ _ b hh.choose_spec e]
  have hnl:∀ b l,ow b≠.lab l:=by
    intro b l e
    have e:(if hh:∃ k,b ∈ H k then Own.slot hh.choose else .none)=.lab l:=e
    split at e <;> cases e
  have hsim:Sim Γ ⟨jB args 0,[]⟩ { tmps:=cargs++Array.replicate (fn.ntmps - cargs.size) undef,defers:=[] } w:=by
    refine ⟨ow,fun _=>none,{ size:=hsz,defers:=rfl,kept:=⟨rfl,rfl,rfl,Nat.le_refl _,fun _ _ _ _=>rfl,fun b _ _ cs t h=>⟨cs,h,rfl⟩⟩,slots:=fun k=>?_,objs:=fun l ob hl=>(by simp [lo] at hl),gone:=fun _ _=>rfl,own:=fun b hb=>?_,ios:=fun l b hl=>(by cases hl),fresh:=fun l b hl=>(by cases hl) }⟩
    · rw [mY]
      by_cases hk:k < args.length
      · rw [if_pos ⟨Nat.zero_le _,by simpa using hk⟩]
        have e1:args[k]?=some (args.getD k (.any,false)):=by
          rw [List.getElem?_eq_getElem hk,List.getD_eq_getElem?_getD,List.getElem?_eq_getElem hk];rfl
        obtain ⟨B,g1,g2,g3⟩:=h2 k _ _ e1
        rw [Nat.zero_add] at g3
        have e:(cargs++Array.replicate (fn.ntmps - cargs.size) undef).getD k undef=cargs.toList.getD k undef:=by
          have hlt:k < cargs.size:=by rw [h1] at hk;simpa using hk
          simp [Array.getD_eq_getD_getElem?,Array.getElem?_append,hlt,List.getD_eq_getElem?_getD]
        simp only [Nat.sub_zero]
        refine ⟨B,?_,fun b hb=>⟨RelV.below _ _ _ g1 b hb,?_,fun l=>hnl b l⟩,fun hd=>?_⟩
        · rw [e]
          exact RelV.keep _ _ _ (fun l _=>by intro ob h;cases h) (fun _ _=>rfl) g1
        · cases hdp:(args.getD k (.any,false)).2 with
          | false=>exact .inl (g2 hdp b hb)
          | true=>exact .inr (.inr ⟨k,by rw [← g3 hdp];exact hb⟩)
        · have g4:=g3 hd
          subst g4
          exact ⟨(hH k).1,fun b hb=>⟨how b k hb,((hH k).2 b hb).2⟩⟩
      · rw [if_neg (by simpa using hk)]
        exact ⟨[],by simp [RelV],by simp,by simp⟩
    · have hh:∃ k,b ∈ H k:=by
        rcases Classical.em (∃ k,b ∈ H k) with hh | hh
        · exact hh
        · exfalso;apply hb;show (if hh:∃ k,b ∈ H k then Own.slot hh.choose else .none)=_;rw [dif_neg hh]
      obtain ⟨k,hk⟩:=hh
      exact ⟨uC ((hH k).2 b hk).2,.inl (.inr ⟨k,hk⟩)⟩
  refine wp_mono (h Γ (fun _ _=>rfl) _ _ hsim) fun e a' w' ⟨E',hs',hq⟩=>?_
  have fin:RetIs Γ rs E' r true→a'.defers=[]∧∃ v,(results fn a'.tmps).run P w'=.ok v w'∧∃ c B,Ending.returned v=.returned c∧Below w.heap.size w w'∧RelV w'.heap dead r c B∧B.Nodup∧∀ b ∈ B,cY w' b∧(w.heap.size≤b∨∃ k,b ∈ H k):=by
    intro hr
    obtain ⟨c,B,g1,g2,g3,g4⟩:=hr fn hrs a' w' hs'
    obtain ⟨ow2,β2,hs'⟩:=hs'
    obtain ⟨g5,g6⟩:=g4 rfl
    refine ⟨hs'.defers,c,g1,c,B,rfl,⟨hs'.kept.os,hs'.kept.tape,hs'.kept.output,hs'.kept.size,fun k hk=>hs'.kept.old k hk (fun l=>by simp [Γ]) (fun h=>h)⟩,g2,g5,fun b hb=>⟨(g6 b hb).1,?_⟩⟩
    rcases (g6 b hb).2 with (g | g) | g
    · exact .inl g
    · exact g.elim
    · exact .inr g
  cases e with
  | normal=>exact fin hq
  | ret=>exact fin hq
  | exit id=>exact hq.elim
  | goto l=>exact hq.elim
  | panic ch=>exact hq.elim
  | outgrown=>exact hq.elim
section
variable {P:Program} {N:Nat} {Γ:Ctx P N} {S:List (Nat × Slot)} {O:List (Nat × Option Ob)} {ow:Nat→Own} {β:Nat→Option (Option Nat)} {F:Env} {a:Act} {w:World}
variable {d:Nat} {ty:TypeId} {pos:String} {af:Array Edge} {g:Option (Nat × Bool)}
end
end Go.Ev
/- The engine, part NN: the first change of a rule that makes several, softened. -/
namespace Go.Ev
section
variable {P:Program} {N:Nat} {Γ:Ctx P N} {S:List (Nat × Slot)} {O:List (Nat × Option Ob)}
end
end Go.Ev
/- The engine, part OO: short forms: a rule and the step that uses it in one (printed by mkoo.py). -/
namespace Go.Ev
section
variable {P:Program} {N:Nat} {Γ:Ctx P N} {S S':List (Nat × Slot)} {O O':List (Nat × Option Ob)}
theorem dn {ops:List Oper} {X:List Item→Prop} {Q:Env→Prop} {acc:List Item} {E:Env} (h:Q E):Run Γ ops (fun items E'=>(false=true→X items)∧Q E') [] acc E:=.done ⟨fun h=>Bool.noConfusion h,h⟩
theorem sq {x y:Code} {E:Env} {Q:Exit→Env→Prop} (h:CodeT Γ x E (fS (fun E'=>CodeT Γ y E' Q) Q)):CodeT Γ (.seq x y) E Q:=CodeT.seq h
def oX (S:List (Nat × Slot)):List (Nat × Slot)→List (Option PV)
  | []=>[]
  | (k,_)::r=>(lkq S k).map (·.v)::oX S r
def oV (ρ:List (Nat × Nat)):List (Nat × Slot)→List (Option PV)
  | []=>[]
  | (_,sl)::r=>some (tU ρ sl.v)::oV ρ r
def pS (S:List (Nat × Slot)):List (Nat × Slot)→Bool
  | []=>true
  | (k,sl)::r=>(match sl.deep with | true=>(match lkq S k with | some s=>s.deep | none=>false) | false=>true)&&pS S r
theorem EntS.fast {ρ:List (Nat × Nat)}:∀ {S':List (Nat × Slot)},oX S S'=oV ρ S'→pS S S'=true→EntS ρ S S'
  | [],_,_=>trivial
  | (k,sl)::r,h1,h2=>by
    simp only [oX,oV,List.cons.injEq] at h1
    simp only [pS,Bool.and_eq_true] at h2
    refine ⟨?_,EntS.fast h1.2 h2.2⟩
    cases hs:lkq S k with
    | none=>rw [hs] at h1;simp at h1
    | some s =>
      rw [hs] at h1 h2
      refine ⟨s.deep,?_,fun hd=>?_⟩
      · have:=h1.1;simp only [Option.map_some,Option.some.injEq] at this;rw [← this]
      · have:=h2.1;rw [hd] at this;simpa using this
def lW (ρ:List (Nat × Nat)) (O:List (Nat × Option Ob)):List (Nat × Option Ob)→List (Option (List PV × Bool))
  | []=>[]
  | (_,none)::r=>lW ρ O r
  | (l,some _)::r=>(loq O (rn ρ l)).map (fun o=>(o.cells,o.box))::lW ρ O r
def lV (ρ:List (Nat × Nat)):List (Nat × Option Ob)→List (Option (List PV × Bool))
  | []=>[]
  | (_,none)::r=>lV ρ r
  | (_,some ob)::r=>some (match ob.box with | true=>rP ρ ob.cells | false=>ob.cells,ob.box)::lV ρ r
def mX (ρ:List (Nat × Nat)) (O:List (Nat × Option Ob)):List (Nat × Option Ob)→Bool
  | []=>true
  | (_,none)::r=>mX ρ O r
  | (l,some ob)::r=>(match ob.deep with | true=>(match loq O (rn ρ l) with | some o=>o.deep | none=>false) | false=>true)&&mX ρ O r
theorem EntO.fast {ρ:List (Nat × Nat)}:∀ {O':List (Nat × Option Ob)},lW ρ O O'=lV ρ O'→mX ρ O O'=true→EntO ρ O O'
  | [],_,_=>trivial
  | (_,none)::r,h1,h2=>by
    simp only [lW,lV] at h1
    simp only [mX] at h2
    simp only [EntO]
    exact EntO.fast h1 h2
  | (l,some ob)::r,h1,h2=>by
    simp only [lW,lV,List.cons.injEq] at h1
    simp only [mX,Bool.and_eq_true] at h2
    simp only [EntO]
    refine ⟨?_,EntO.fast h1.2 h2.2⟩
    cases hs:loq O (rn ρ l) with
    | none=>rw [hs] at h1;simp at h1
    | some o =>
      rw [hs] at h1 h2
      have h3:=h1.1
      simp only [Option.map_some,Option.some.injEq,Prod.mk.injEq] at h3
      refine ⟨o.deep,?_,fun hd=>?_⟩
      · obtain ⟨c1,c2⟩:=h3
        cases o;simp only [] at c1 c2 ⊢
        rw [c1,c2];cases ob.box <;> rfl
      · have:=h2.1;rw [hd] at this;simpa using this
theorem el (ρ:List (Nat × Nat)) (hio:∀ l,Γ.io (rn ρ l)=Γ.io l∧(Γ.io l≠none→rn ρ l=l)) (hi:rV ρ (hJ O')=true) (h1:oX S S'=oV ρ S') (h2:pS S S'=true) (h3:lW ρ O O'=lV ρ O') (h4:mX ρ O O'=true):Ent Γ ⟨S,O⟩ ⟨S',O'⟩ :=
  Ent.list ρ hio hi (EntS.fast h1 h2) (EntO.fast h3 h4)
variable {d:Nat} {ty:TypeId} {pos:String} {af:Array Edge} {g:Option (Nat × Bool)}
variable {x y:Operand} {u u':TypeId} {k:IntKind} {m n r:Int}
variable {ops rest:List Oper} {K:List Item→Env→Prop} {acc:List Item} {gs:List Nat}
end
end Go.Ev
/- The engine, part PP: a drawn region in which one pair of operations is not ordered (printed by mkpp.py). -/
namespace Go.Ev
def XOk {P:Program} {N:Nat} (Γ:Ctx P N) (ops:Array Oper) (items:List Item) (E0:Env) (p q:Nat):Prop :=
  ∃ x y,items[q]?=some x∧items[p]?=some y∧p < q∧fV x y=false∧x.nl=[]∧y.nl=[]∧eZ Γ ops q (pt (fun j=>Nat.blt j q&&!(Nat.beq j p)) items 0 E0) x.e x.rs x.ro x.nl
theorem XOk.intro {P:Program} {N:Nat} {Γ:Ctx P N} {ops:Array Oper} {items:List Item} {E0:Env} {p q:Nat} {x y:Item} {o:Oper} (h1:items[q]?=some x) (h2:items[p]?=some y) (h3:Nat.blt p q=true) (h4:fV x y=false) (h5:x.nl=[]) (h6:y.nl=[])
    (ho:ops[q]?=some o) (hg:o.guard=none) (hl:Local Γ o ⟨(pt (fun j=>Nat.blt j q&&!(Nat.beq j p)) items 0 E0).s,(pt (fun j=>Nat.blt j q&&!(Nat.beq j p)) items 0 E0).o⟩ x.e x.rs x.ro x.nl):XOk Γ ops items E0 p q :=
  ⟨x,y,h1,h2,(aK _ _).1 h3,h4,h5,h6,Local.at ho hg hl⟩
section
variable {P:Program} {N:Nat} {Γ:Ctx P N} {E:Env} {Q:Exit→Env→Prop}
end
end Go.Ev
/- The engine, part QQ: functions that return a new row whose elements are shared: the row becomes the caller's own row. -/
namespace Go.Ev
open Go.RowKit (Below)
def MeetsF (P:Program) (f:FuncId) (args:List PV) (s n:Nat) (cells:List PV):Prop :=
  ∀ (w:World) (cargs:Array Value) (ok:Nat→Prop),RelArgs w.heap ok args cargs.toList →
    Calls P f cargs w fun e w'=>∃ c B,e=.returned c∧Below w.heap.size w w'∧RelV w'.heap dead (.rw s n cells) c B∧(∀ b ∈ B,b < w'.heap.size∧(ok b∨w.heap.size≤b))∧(∀ b B',B=b::B'→w.heap.size≤b∧b ∉ B')
section
variable {P:Program} {N:Nat} {Γ:Ctx P N} {S:List (Nat × Slot)} {O:List (Nat × Option Ob)} {ow:Nat→Own} {β:Nat→Option (Option Nat)} {F:Env} {a:Act} {w:World}
def ResF (Γ:Ctx P N) (rs:Array ResultVar) (E:Env) (s n:Nat) (cells:List PV):Prop :=
  ∀ fn:Func,fn.results=rs→∀ a w,Sim Γ E a w→∃ c B,(results fn a.tmps).run P w=.ok c w∧RelV w.heap dead (.rw s n cells) c B∧(∀ b ∈ B,b < w.heap.size∧(Γ.ok b∨Γ.nw b))∧(∀ b B',B=b::B'→Γ.nww b∧b ∉ B')
def vJ (Γ:Ctx P N) (rs:Array ResultVar) (s n:Nat) (cells:List PV):Exit→Env→Prop
  | .normal,E=>ResF Γ rs E s n cells
  | .ret,E=>ResF Γ rs E s n cells
  | _,_=>False
theorem ResF.weak {E E0:Env} {rs:Array ResultVar} {s n:Nat} {cells:List PV} (he:Ent Γ E E0) (h:ResF Γ rs E0 s n cells):ResF Γ rs E s n cells:=fun fn hf a w hs=>h fn hf a w (he a w hs)
theorem ResF.mk {t l s n:Nat} {cells:List PV} {dp dp0:Bool} (h:lkq S t=some ⟨.ref l s 0 n,dp0⟩) (ho:loq O l=some ⟨cells,dp,false⟩) (hio:Γ.io l=none):ResF Γ #[.tmp t] ⟨S,O⟩ s n cells:=by
  rintro fn hf a w ⟨ow,β,hs⟩
  rw [fZ hf]
  obtain ⟨B,h1,_⟩:=hs.slots t
  rw [eJ h] at h1
  simp only [RelV] at h1
  obtain ⟨Bo,o1,o2,hob⟩:=hs.objs l ⟨cells,dp,false⟩ (by rw [← dC];exact ho)
  rcases hob with ⟨p1,p2,p3⟩ | ⟨b,cs,u,p1,p2,p3,p4⟩
  · obtain ⟨rfl,_,e⟩:=h1.2.1 p1
    simp only at p2;subst p2
    exact ⟨_,[],rfl,by simp only [RelV];exact .inl ⟨trivial,trivial,trivial,e⟩,by simp,by simp⟩
  · obtain ⟨cap,cs',u',q1,q0,q3,q4⟩:=h1.2.2 b p1
    rw [p3] at q0;cases q0
    simp only [Nat.zero_mul,Nat.zero_add] at q1 q3
    refine ⟨_,b::Bo,rfl,by simp only [RelV];exact .inr ⟨b,cap,cs,u,Bo,⟨q1,q4,q3⟩,p3,by simpa using p4,rfl⟩,fun c hc=>?_,fun b' B' e=>?_⟩
    · rcases List.mem_cons.1 hc with rfl | hc
      · exact ⟨hs.block_lt p1,.inr (.inl (hs.fresh l _ p1 hio))⟩
      · exact ⟨(o1 c hc).1,(o1 c hc).2.1⟩
    · cases e
      exact ⟨hs.fresh l _ p1 hio,fun hb=>(o1 b hb).2.2 l p2⟩
theorem MeetsF.intro {f:FuncId} {fn:Func} {c:Code} {args:List PV} {s n:Nat} {cells:List PV} {rs:Array ResultVar} (hf:P.funcs[f]?=some fn) (hb:fn.body=some c) (hN:fn.ntmps=N) (hrs:fn.results=rs) (hn:Nat.ble args.length N=true)
    (h:∀ Γ:Ctx P N,(∀ l,Nat.blt l 100000=true→Γ.io l=none)→CodeT Γ c ⟨cL args 0,[]⟩ (vJ Γ rs s n cells)):MeetsF P f args s n cells:=by
  intro w cargs ok ha
  obtain ⟨h1,h2⟩:=ha.get
  have hn:=Nat.le_of_ble_eq_true hn
  let Γ:Ctx P N:={ base:=w.heap.size,ok:=fun b=>ok b,io:=fun _=>none,w0:=w,mine:=fun _=>False,lent:=fun _=>False }
  have hsz:(cargs++Array.replicate (fn.ntmps - cargs.size) undef).size=N:=by
    have:cargs.size=args.length:=by rw [h1];simp
    simp [this,hN];omega
  refine calls_of_wp hf hb ?_
  have hsim:Sim Γ ⟨cL args 0,[]⟩ { tmps:=cargs++Array.replicate (fn.ntmps - cargs.size) undef,defers:=[] } w:=by
    refine ⟨fun _=>.none,fun _=>none,{ size:=hsz,defers:=rfl,kept:=⟨rfl,rfl,rfl,Nat.le_refl _,fun _ _ _ _=>rfl,fun b _ _ cs t h=>⟨cs,h,rfl⟩⟩,slots:=fun k=>?_,objs:=fun l ob hl=>(by simp [lo] at hl),gone:=fun _ _=>rfl,own:=fun b hb=>absurd rfl hb,ios:=fun l b hl=>(by cases hl),fresh:=fun l b hl=>(by cases hl) }⟩
    rw [dX]
    by_cases hk:k < args.length
    · rw [if_pos ⟨Nat.zero_le _,by simpa using hk⟩]
      obtain ⟨B,g1,g2⟩:=h2 k hk
      refine ⟨B,?_,fun b hb=>⟨RelV.below _ _ _ g1 b hb,.inl (g2 b hb),fun l=>by simp⟩,by simp⟩
      have e:(cargs++Array.replicate (fn.ntmps - cargs.size) undef).getD k undef=cargs.toList.getD k undef:=by
        have hlt:k < cargs.size:=by rw [h1] at hk;simpa using hk
        simp [Array.getD_eq_getD_getElem?,Array.getElem?_append,hlt,List.getD_eq_getElem?_getD]
      rw [e]
      simp only [Nat.sub_zero]
      exact RelV.keep _ _ _ (fun l _=>by intro ob h;cases h) (fun _ _=>rfl) g1
    · rw [if_neg (by simpa using hk)]
      exact ⟨[],by simp [RelV],by simp,by simp⟩
  refine wp_mono (h Γ (fun _ _=>rfl) _ _ hsim) fun e a' w' ⟨E',hs',hq⟩=>?_
  have fin:ResF Γ rs E' s n cells→a'.defers=[]∧∃ v,(results fn a'.tmps).run P w'=.ok v w'∧∃ c B,Ending.returned v=.returned c∧Below w.heap.size w w'∧RelV w'.heap dead (.rw s n cells) c B∧(∀ b ∈ B,b < w'.heap.size∧(ok b∨w.heap.size≤b))∧(∀ b B',B=b::B'→w.heap.size≤b∧b ∉ B'):=by
    intro hr
    obtain ⟨c,B,g1,g2,g3,g4⟩:=hr fn hrs a' w' hs'
    obtain ⟨ow,β,hs'⟩:=hs'
    exact ⟨hs'.defers,c,g1,c,B,rfl,⟨hs'.kept.os,hs'.kept.tape,hs'.kept.output,hs'.kept.size,fun k hk=>hs'.kept.old k hk (fun l=>by simp [Γ]) (fun h=>h)⟩,g2,fun b hb=>⟨(g3 b hb).1,(g3 b hb).2.imp id (fun h=>(h.elim id False.elim:Γ.nww b).elim id False.elim)⟩,fun b B' e=>⟨(g4 b B' e).1.elim id False.elim,(g4 b B' e).2⟩⟩
  cases e with
  | normal=>exact fin hq
  | ret=>exact fin hq
  | exit id=>exact hq.elim
  | goto l=>exact hq.elim
  | panic ch=>exact hq.elim
  | outgrown=>exact hq.elim
variable {d:Nat} {ty:TypeId} {pos:String} {af:Array Edge} {g:Option (Nat × Bool)}
end
end Go.Ev
/- The engine, part RR: a rule and the step that uses it in one; what is plain is found by itself (printed by mkrr.py). -/
namespace Go.Ev
section
variable {P:Program} {N:Nat} {Γ:Ctx P N} {S S':List (Nat × Slot)} {O O':List (Nat × Option Ob)}
variable {d:Nat} {ty:TypeId} {pos:String} {af:Array Edge} {g:Option (Nat × Bool)}
variable {x y:Operand} {u u':TypeId} {k:IntKind} {m n r:Int}
variable {ops rest:List Oper} {K:List Item→Env→Prop} {acc:List Item} {gs:List Nat}
theorem av {x:Operand} {p:PV} {m:List Nat} {xs:List Operand} {ps:List PV} (h:ArgsV S O xs ps m) (hx:evq S x=some p:=by rfl) (hl:p.labs=[]:=by rfl):ArgsV S O (x::xs) (p::ps) ([]++m):=.cons (.val hx hl) h
theorem ar {x:Operand} {l s n:Nat} {cells:List PV} {dp:Bool} {m:List Nat} {xs:List Operand} {ps:List PV} (h:ArgsV S O xs ps m) (hx:evq S x=some (.ref l s 0 n):=by rfl) (ho:loq O l=some ⟨cells,dp,false⟩:=by rfl) (hl:cells.length≤n*s:=by first | exact Nat.le_of_eq (gJ (fun _=>rfl)) | exact Nat.le_of_ble_eq_true rfl):ArgsV S O (x::xs) (.sl n cells::ps) ([l]++m):=.cons (.ref hx ho hl) h
theorem bs {pl:List (Nat × Nat)} {dp:Bool} {i off n:Nat} {x:Operand} {p:PV} {r:List (Nat × Operand)} {cells cells':List PV} {ks:List Nat} (h1:evq S x=some p:=by rfl) (h2:eT p=true:=by rfl) (h3:p.labs=[]:=by rfl) (h4:stB [] false p=true:=by rfl) (h5:pl[i]?=some (off,n):=by rfl) (h6:Nat.beq (aV p).length n=true:=by rfl) (h7:Nat.ble (off+n) cells.length=true:=by rfl) (h:BuildV S pl dp r (cells.take off++aV p++cells.drop (off+n)) cells' ks):BuildV S pl dp ((i,x)::r) cells cells' ks:=.sc h1 h2 h3 h4 h5 h6 h7 h
end
end Go.Ev
/- The engine, part SS: a row of the caller's own, lent to a function that only reads it: what the function returns does not speak of the row's own block. -/
namespace Go.Ev
open Go.RowKit (Below)
def ROk (w:World) (ok:Nat→Prop) (o:Option Nat) (old:List PV):Prop:=(o=none∧old=[])∨∃ b cs t B,o=some b∧¬ok b∧w.heap[b]?=some (.cells cs t (0,0))∧RelL w.heap true dead old cs 0 B∧∀ x ∈ B,ok x
def nX (l0:Nat) (o:Option Nat):Nat→Option (Option Nat):=fun l=>if l=l0 then some o else none
def MeetsR (P:Program) (f:FuncId) (args:List PV) (l0:Nat) (old:List PV) (r:PV):Prop :=
  ∀ (w:World) (cargs:Array Value) (ok:Nat→Prop) (o:Option Nat),XArgs w.heap ok (nX l0 o) args cargs.toList→ROk w ok o old →
    Calls P f cargs w fun e w'=>∃ c B,e=.returned c∧Same w w'∧(∀ b,b < w.heap.size→o≠some b→w'.heap[b]?=w.heap[b]?) ∧
      (∀ b,o=some b→∀ cs t,w.heap[b]?=some (.cells cs t (0,0))→∃ cs' B',w'.heap[b]?=some (.cells cs' t (0,0))∧cs'.size=cs.size∧RelL w'.heap true dead old cs' 0 B'∧∀ x ∈ B',x < w'.heap.size∧(ok x∨w.heap.size≤x)) ∧
      RelV w'.heap dead r c B∧(∀ b ∈ B,ok b∨w.heap.size≤b)
section
variable {P:Program} {N:Nat}
theorem MeetsR.intro {f:FuncId} {fn:Func} {c:Code} {args:List PV} {l0:Nat} {old:List PV} {r:PV} {rs:Array ResultVar} (hf:P.funcs[f]?=some fn) (hb:fn.body=some c) (hN:fn.ntmps=N) (hrs:fn.results=rs) (hn:Nat.ble args.length N=true) (hl0:Nat.ble 100000 l0=true)
    (h:∀ Γ:Ctx P N,(∀ l,Nat.blt l 100000=true→Γ.io l=none)→CodeT Γ c ⟨cL args 0,[(l0,some ⟨old,false,false⟩)]⟩ (lF Γ rs r false [⟨l0,old,old⟩])):MeetsR P f args l0 old r:=by
  intro w cargs ok o ha hob
  obtain ⟨h1,h2⟩:=ha.get
  have hn:=Nat.le_of_ble_eq_true hn
  have hl0:=Nat.le_of_ble_eq_true hl0
  let Γ:Ctx P N:={ base:=w.heap.size,ok:=ok,io:=fun l=>if l=l0 then o else none,w0:=w,mine:=fun _=>False,lent:=fun _=>False }
  have hio:∀ l b,Γ.io l=some b↔l=l0∧o=some b:=by
    intro l b
    show (if l=l0 then o else none)=some b↔_
    by_cases e:l=l0 <;> simp [e]
  have hsz:(cargs++Array.replicate (fn.ntmps - cargs.size) undef).size=N:=by
    have:cargs.size=args.length:=by rw [h1];simp
    simp [this,hN];omega
  have hblt:∀ b,o=some b→b < w.heap.size∧¬ok b:=by
    rintro b rfl
    rcases hob with ⟨e,_⟩ | ⟨b',cs,t,B,e,hk,g,_⟩
    · cases e
    · cases e
      rcases Nat.lt_or_ge b w.heap.size with h | h
      · exact ⟨h,hk⟩
      · simp [Array.getElem?_eq_none h] at g
  refine calls_of_wp hf hb ?_
  let ow:Nat→Own:=fun b=>if o=some b then .lab l0 else .none
  have how:∀ b l,ow b=.lab l→l=l0∧o=some b:=by
    intro b l e
    have e:(if o=some b then Own.lab l0 else .none)=.lab l:=e
    by_cases hh:o=some b
    · rw [if_pos hh] at e;cases e;exact ⟨rfl,hh⟩
    · rw [if_neg hh] at e;cases e
  have hsim:Sim Γ ⟨cL args 0,[(l0,some ⟨old,false,false⟩)]⟩ { tmps:=cargs++Array.replicate (fn.ntmps - cargs.size) undef,defers:=[] } w:=by
    refine ⟨ow,nX l0 o,{ size:=hsz,defers:=rfl,kept:=⟨rfl,rfl,rfl,Nat.le_refl _,fun _ _ _ _=>rfl,fun b _ _ cs t h=>⟨cs,h,rfl⟩⟩,slots:=fun k=>?_,objs:=fun l ob hl=>?_,gone:=fun l hl=>?_,own:=fun b hb=>?_,ios:=fun l b hl _=>?_,fresh:=fun l b hl hi=>?_ }⟩
    · rw [dX]
      by_cases hk:k < args.length
      · rw [if_pos ⟨Nat.zero_le _,by simpa using hk⟩]
        obtain ⟨B,g1,g2⟩:=h2 k hk
        refine ⟨B,?_,fun b hb=>⟨RelV.below _ _ _ g1 b hb,.inl (g2 b hb),fun l e=>(hblt b (how b l e).2).2 (g2 b hb)⟩,by simp⟩
        have e:(cargs++Array.replicate (fn.ntmps - cargs.size) undef).getD k undef=cargs.toList.getD k undef:=by
          have hlt:k < cargs.size:=by rw [h1] at hk;simpa using hk
          simp [Array.getD_eq_getD_getElem?,Array.getElem?_append,hlt,List.getD_eq_getElem?_getD]
        rw [e]
        simpa only [Nat.sub_zero] using g1
      · rw [if_neg (by simpa using hk)]
        exact ⟨[],by simp [RelV],by simp,by simp⟩
    · simp only [aZ] at hl
      by_cases e:l0=l
      · subst e
        rw [if_pos rfl] at hl;cases hl
        rcases hob with ⟨rfl,e2⟩ | ⟨b,cs,t,B,rfl,hk,g1,g2,g3⟩
        · exact ⟨[],by simp,by simp,.inl ⟨by simp [nX],e2,rfl⟩⟩
        · refine ⟨B,fun x hx=>⟨RelL.below _ _ _ _ g2 x hx,.inl (g3 x hx),fun l e=>(hblt x (how x l e).2).2 (g3 x hx)⟩,fun hd=>(by cases hd),.inr ⟨b,cs,t,by simp [nX],?_,g1,g2⟩⟩
          show (if _ then _ else _)=_
          rw [if_pos rfl]
      · rw [if_neg e] at hl;simp [lo] at hl
    · simp only [aZ] at hl
      by_cases e:l0=l
      · rw [if_pos e] at hl;cases hl
      · simp [nX,Ne.symm e]
    · have hb:(if o=some b then Own.lab l0 else .none)≠.none:=hb
      by_cases hh:o=some b
      · refine ⟨(hblt b hh).1,.inr ⟨l0,?_,(hio l0 b).2 ⟨rfl,hh⟩⟩⟩
        show (if _ then _ else _)=_
        rw [if_pos hh]
      · rw [if_neg hh] at hb;exact absurd rfl hb
    · obtain ⟨rfl,rfl⟩:=(hio l b).1 hl
      simp [nX]
    · have hl:(if l=l0 then some o else none)=some (some b):=hl
      by_cases e:l=l0
      · rw [if_pos e] at hl
        rw [(hio l b).2 ⟨e,Option.some.inj hl⟩] at hi;cases hi
      · rw [if_neg e] at hl;cases hl
  have hioN:∀ l,Nat.blt l 100000=true→Γ.io l=none:=by
    intro l hl
    have hl:=(aK _ _).1 hl
    show (if l=l0 then o else none)=none
    rw [if_neg (by omega)]
  refine wp_mono (h Γ hioN _ _ hsim) fun e a' w' ⟨E',hs',hq⟩=>?_
  have fin:RetX Γ rs E' r false [⟨l0,old,old⟩]→a'.defers=[]∧∃ v,(results fn a'.tmps).run P w'=.ok v w'∧∃ c B,Ending.returned v=.returned c∧Same w w'∧(∀ b,b < w.heap.size→o≠some b→w'.heap[b]?=w.heap[b]?) ∧
      (∀ b,o=some b→∀ cs t,w.heap[b]?=some (.cells cs t (0,0))→∃ cs' B',w'.heap[b]?=some (.cells cs' t (0,0))∧cs'.size=cs.size∧RelL w'.heap true dead old cs' 0 B'∧∀ x ∈ B',x < w'.heap.size∧(ok x∨w.heap.size≤x)) ∧
      RelV w'.heap dead r c B∧(∀ b ∈ B,ok b∨w.heap.size≤b):=by
    rintro ⟨hr,hr2⟩
    obtain ⟨c,B,g1,g2,g3,g4⟩:=hr fn hrs a' w' hs'
    obtain ⟨E2,⟨ow2,β2,hs2⟩,hr2⟩:=hr2 a' w' hs'
    refine ⟨hs2.defers,c,g1,c,B,rfl,⟨hs2.kept.os,hs2.kept.output,hs2.kept.tape,hs2.kept.size⟩,fun b hb hn=>hs2.kept.old b hb (fun l e=>hn ((hio l b).1 e).2) (fun h=>h),fun b e cs t hc=>?_,g2,fun b hb=>(g3 b hb).2.imp id (fun h=>(h.elim id False.elim:Γ.nww b).elim id False.elim)⟩
    obtain ⟨dp,hl⟩:=hr2 ⟨l0,old,old⟩ (by simp)
    obtain ⟨Bo,k1,_,k3⟩:=hs2.objs l0 _ hl
    have hβ:=hs2.ios l0 b ((hio l0 b).2 ⟨rfl,e⟩) (by simp only at hl;rw [hl];rfl)
    rcases k3 with ⟨k4,_⟩ | ⟨b',cs',t',k4,k5,k6,k7⟩
    · rw [hβ] at k4;cases k4
    · rw [hβ] at k4;cases k4
      obtain ⟨cs2,q1,q2⟩:=hs2.kept.ios b (hblt b e).1 (fun h=>h) cs t hc
      rw [k6] at q1;cases q1
      exact ⟨cs',Bo,k6,q2,by simpa using k7,fun x hx=>⟨(k1 x hx).1,(k1 x hx).2.1.imp id (fun h=>(h.elim id False.elim:Γ.nww x).elim id False.elim)⟩⟩
  cases e with
  | normal=>exact fin hq
  | ret=>exact fin hq
  | exit id=>exact hq.elim
  | goto l=>exact hq.elim
  | panic ch=>exact hq.elim
  | outgrown=>exact hq.elim
variable {Γ:Ctx P N} {S:List (Nat × Slot)} {O:List (Nat × Option Ob)} {ow:Nat→Own} {β:Nat→Option (Option Nat)} {F:Env} {a:Act} {w:World}
variable {d:Nat} {ty:TypeId} {pos:String} {af:Array Edge} {g:Option (Nat × Bool)}
end
end Go.Ev
/- The engine, part TT: short forms of tests, loops, calls and ends. -/
namespace Go.Ev
set_option linter.all false
section
variable {P:Program} {N:Nat} {Γ:Ctx P N} {E:Env} {Q Q' Q9:Exit→Env→Prop} {S:List (Nat × Slot)} {O:List (Nat × Option Ob)}
variable {α β σ ρ ε:Type} {x y:Code} {t:Nat} {dp deep:Bool}
section
variable {ops rest:List Oper} {K:List Item→Env→Prop} {acc:List Item} {o:Oper} {rs ro gs:List Nat} {d:Nat}
theorem cl {x:Option α} {cont:α→Option β} {r:β} {V:α→PV} {f:FuncId} [hfc:FnC P f] {xs:List Operand} {us:Array TypeId} {ps:List PV} {ls:List Nat} {ty:TypeId} {pos:String} {af:Array Edge} {g:Option (Nat × Bool)} (H:x.bind cont=some r) (hm:∀ v,x=some v→Meets P f ps (V v) deep)
    (hk:∀ v,cont v=some r→Run Γ ops K rest (⟨⟨[(d,⟨V v,deep⟩)],[]⟩,gs++mN xs,ls,[]⟩::acc) ⟨[(d,⟨V v,deep⟩)]++S,[]++O⟩)
    (ha:ArgsV S O xs ps ls:=by first | exact av (av .nil) | exact av (ar .nil) | exact ar (av .nil) | exact ar (ar .nil) | exact av .nil | exact ar .nil | exact av (av (av .nil)) | exact av (av (ar .nil)) | exact av (ar (av .nil)) | exact av (ar (ar .nil)) | exact ar (av (av .nil)) | exact ar (av (ar .nil)) | exact ar (ar (av .nil)) | exact ar (ar (ar .nil)) | exact av (av (av (av .nil))) | exact av (av (av (ar .nil))) | exact av (av (ar (av .nil))) | exact av (ar (av (av .nil))) | exact ar (av (av (av .nil)))) (hc:∀ v,(uT ls||deep||jF (V v))=true:=by intro _;rfl) (hr:∀ v,(V v).labs=[]:=by intro _;rfl) (hd:Nat.blt d N=true:=by rfl) (hg:gd N ops S true g=some gs:=by rfl):Run Γ ops K (⟨some d,.call ⟨.value (.func f),xs.toArray,us⟩,ty,pos,af,g⟩::rest) acc ⟨S,O⟩:=by
  obtain ⟨v,hv,H⟩:=aB H
  exact .op (aJ ha (hm v hv) (hc v) (hr v) hd) hg rfl (hk v H)
end
theorem ll {step:σ→Option (σ ⊕ ρ)} {s0:σ} {K:ρ→Option β} {r:β} {c:Code} (H:(lp step s0).bind K=some r) (Es:σ→Env) (Xe:ρ→Exit→Env→Prop) (he:Ent Γ E (Es s0))
    (hr:∀ s o,step s=some o→CodeT Γ c (Es s) (fU Γ Es Xe o)) (hq:∀ d,K d=some r→∀ e E',Xe d e E'→Q e E'):CodeT Γ (.loop c) E Q:=by
  obtain ⟨d,hd,H⟩:=aB H
  exact .lloop Es Xe hd he hr (fun e E' h=>hq d H e E' h)
theorem l1 {step:σ→Option (σ ⊕ ρ)} {s0:σ} {K:ρ→Option β} {r:β} {c y:Code} {i:Nat} (H:(lp step s0).bind K=some r) (Es:σ→Env) (E2:ρ→Env) (he:Ent Γ E (Es s0))
    (hr:∀ s o,step s=some o→CodeT Γ c (Es s) (fU Γ Es (fun d e E=>XEnv Γ (.exit i) (E2 d) e E) o)) (hq:∀ d,K d=some r→CodeT Γ y (E2 d) Q'):CodeT Γ (.loop c) E (dP i (fS (fun E'=>CodeT Γ y E' Q') Q9)) :=
  ll H Es _ he hr (fun d H e E' h=>by obtain ⟨rfl,g⟩:=XEnv.out h;exact x6 (Nat.beq_refl i) (x3 (.weak g (hq d H))))
theorem l2 {step:σ→Option (σ ⊕ (ρ ⊕ ε))} {s0:σ} {K:ρ ⊕ ε→Option β} {r:β} {c y:Code} {i:Nat} (rs:Array ResultVar) (dp:Bool) (H:(lp step s0).bind K=some r) (Es:σ→Env) (E2:ρ→Env) (R2:ε→PV) (he:Ent Γ E (Es s0))
    (hr:∀ s o,step s=some o→CodeT Γ c (Es s) (fU Γ Es (fun x e E=>match x with | .inl d=>XEnv Γ (.exit i) (E2 d) e E | .inr d=>XRet Γ rs (R2 d) dp e E) o)) (hq:∀ d,K (.inl d)=some r→CodeT Γ y (E2 d) Q') (hq2:∀ d,K (.inr d)=some r→∀ E',RetIs Γ rs E' (R2 d) dp→Q9 .ret E'):CodeT Γ (.loop c) E (dP i (fS (fun E'=>CodeT Γ y E' Q') Q9)) :=
  ll H Es _ he hr (fun d H e E' h=>by
    cases d with
    | inl d=>obtain ⟨rfl,g⟩:=XEnv.out h;exact x6 (Nat.beq_refl i) (x3 (.weak g (hq d H)))
    | inr d=>obtain ⟨rfl,g⟩:=XRet.out h;exact x4 (x1 (hq2 d H E' g)))
theorem rl (k n':Nat) {c:Code} {l s off n:Nat} {dp:Bool} (h:CodeT Γ c ⟨(k,⟨.ref l s off n',dp⟩)::S,O⟩ Q) (hk:lkq S k=some ⟨.ref l s off n,dp⟩:=by rfl) (hn:n=n':=by first | (simp only [oY];done) | (simp only [oY];omega) | omega):CodeT Γ c ⟨S,O⟩ Q:=.weak (Ent.relen hk hn) h
end
section
variable {P:Program} {N:Nat} {Γ:Ctx P N} {E:Env} {S S':List (Nat × Slot)} {O O':List (Nat × Option Ob)} {rs:Array ResultVar} {r:PV} {deep:Bool}
theorem leq {ρ:List (Nat × Nat)} (_hq:ρ=ρ) (hio:∀ l,Nat.blt l 100000=true→Γ.io l=none:=by assumption) (hρ:uG ρ=true:=by rfl) (hi:rV ρ (hJ O')=true:=by rfl) (h1:oX S S'=oV ρ S':=by rfl) (h2:pS S S'=true:=by rfl) (h3:lW ρ O O'=lV ρ O':=by rfl) (h4:mX ρ O O'=true:=by rfl):Ent Γ ⟨S,O⟩ ⟨S',O'⟩:=el ρ (io0 hio ρ hρ) hi h1 h2 h3 h4
end
end Go.Ev
/- The engine, part UU: a call whose results are rows beside own values. -/
namespace Go.Ev
open Go.RowKit (Below)
set_option linter.all false
section
variable {P:Program} {N:Nat} {Γ:Ctx P N} {S:List (Nat × Slot)} {O:List (Nat × Option Ob)} {ow:Nat→Own} {β:Nat→Option (Option Nat)} {F:Env} {a:Act} {w:World}
variable {d:Nat} {ty:TypeId} {pos:String} {af:Array Edge} {g:Option (Nat × Bool)}
end
end Go.Ev
/- The engine, part VV: a store that fills a whole object makes it one's own. -/
namespace Go.Ev
open Go.RowKit (Below)
set_option linter.all false
section
variable {P:Program} {N:Nat} {Γ:Ctx P N} {S:List (Nat × Slot)} {O:List (Nat × Option Ob)} {ow:Nat→Own} {β:Nat→Option (Option Nat)} {F:Env} {a:Act} {w:World}
variable {d:Nat} {ty:TypeId} {pos:String} {af:Array Edge} {g:Option (Nat × Bool)}
end
end Go.Ev
/- The engine, part WW: functions that take the address of an own block whose first cell is a value that is read (cursors); functions that return the address of a new block. -/
namespace Go.Ev
open Go.RowKit (Below)
set_option linter.all false
section
variable {P:Program} {N:Nat}
theorem MeetsX.core {f:FuncId} {fn:Func} {c:Code} {args:List PV} {objs:List XO} {r:PV} {deep:Bool} {rs:Array ResultVar} (hf:P.funcs[f]?=some fn) (hb:fn.body=some c) (hN:fn.ntmps=N) (hrs:fn.results=rs) (hn:Nat.ble args.length N=true)
    (hx:xok objs=true) (hnil:∀ o ∈ objs,o.old=[]→o.new=[]) (hsc:∀ o ∈ objs,fC o.new=true)
    (w:World) (cargs:Array Value) (ok:Nat→Prop) (κ:Nat→Option (Option Nat)) (ha:XArgs w.heap ok κ args cargs.toList) (hob:∀ o ∈ objs,XOb w ok κ o) (hκ:∀ l o,κ l=some o→∃ x ∈ objs,x.l=l) (hinj:∀ l l' b,κ l=some (some b)→κ l'=some (some b)→l=l')
    (h:∀ Γ:Ctx P N,Γ.base=w.heap.size→Γ.w0=w→(∀ b,ok b→Γ.ok b)→(∀ b,¬Γ.mine b)→(∀ b,¬Γ.lent b)→(∀ l b,Γ.io l=some b→κ l=some (some b))→(∀ l,Nat.blt l 100000=true→Γ.io l=none)→CodeT Γ c ⟨cL args 0,oU objs⟩ (lF Γ rs r deep objs)) :
    Calls P f cargs w fun e w'=>∃ c B,e=.returned c∧Same w w'∧(∀ b,b < w.heap.size→(∀ l,κ l≠some (some b))→w'.heap[b]?=w.heap[b]?)∧(∀ o ∈ objs,rL w w' κ o) ∧
      RelV w'.heap dead r c B∧(∀ b ∈ B,ok b∨w.heap.size≤b)∧(deep=true→B.Nodup∧∀ b ∈ B,w.heap.size≤b∧cY w' b):=by
  classical
  obtain ⟨h1,h2⟩:=ha.get
  obtain ⟨hx1,hx2⟩:=lU hx
  have hn:=Nat.le_of_ble_eq_true hn
  let Γ:Ctx P N:={ base:=w.heap.size,ok:=ok,io:=fun l=>match κ l with | some (some b)=>some b | _=>none,w0:=w,mine:=fun _=>False,lent:=fun _=>False }
  have hio:∀ l b,Γ.io l=some b↔κ l=some (some b):=by
    intro l b
    show (match κ l with | some (some b)=>some b | _=>none)=some b↔_
    cases κ l with
    | none=>simp
    | some o=>cases o <;> simp
  have hsz:(cargs++Array.replicate (fn.ntmps - cargs.size) undef).size=N:=by
    have:cargs.size=args.length:=by rw [h1];simp
    simp [this,hN];omega
  have hblt:∀ l b,κ l=some (some b)→b < w.heap.size:=by
    intro l b e
    obtain ⟨o,ho,rfl⟩:=hκ l _ e
    rcases hob o ho with ⟨e',_⟩ | ⟨b',cs,t,e',_,g,_⟩
    · rw [e] at e';cases e'
    · rw [e] at e';cases e'
      rcases Nat.lt_or_ge b w.heap.size with h | h
      · exact h
      · simp [Array.getElem?_eq_none h] at g
  refine calls_of_wp hf hb ?_
  let ow:Nat→Own:=fun b=>if hh:∃ l,κ l=some (some b) then .lab hh.choose else .none
  have how:∀ b l,κ l=some (some b)→ow b=.lab l:=by
    intro b l e
    have hh:∃ l,κ l=some (some b):=⟨l,e⟩
    show (if hh:_ then _ else _)=_
    rw [dif_pos hh,hinj _ _ b hh.choose_spec e]
  have how2:∀ b,ow b≠.none→∃ l,κ l=some (some b):=by
    intro b hb'
    rcases Classical.em (∃ l,κ l=some (some b)) with hh | hh
    · exact hh
    · exfalso;apply hb'
      show (if hh:_ then _ else _)=_
      rw [dif_neg hh]
  have hsim:Sim Γ ⟨cL args 0,oU objs⟩ { tmps:=cargs++Array.replicate (fn.ntmps - cargs.size) undef,defers:=[] } w:=by
    refine ⟨ow,κ,{ size:=hsz,defers:=rfl,kept:=⟨rfl,rfl,rfl,Nat.le_refl _,fun _ _ _ _=>rfl,fun b _ _ cs t h=>⟨cs,h,rfl⟩⟩,slots:=fun k=>?_,objs:=fun l ob hl=>?_,gone:=fun l hl=>?_,own:=fun b hb=>?_,ios:=fun l b hl _=>(hio l b).1 hl,fresh:=fun l b hl hi=>?_ }⟩
    · rw [dX]
      by_cases hk:k < args.length
      · rw [if_pos ⟨Nat.zero_le _,by simpa using hk⟩]
        obtain ⟨B,g1,g2⟩:=h2 k hk
        have hB:∀ b ∈ B,∀ l,ow b≠.lab l:=by
          intro b hb l e
          obtain ⟨l',e'⟩:=how2 b (by rw [e];simp)
          obtain ⟨o,ho,rfl⟩:=hκ l' _ e'
          rcases hob o ho with ⟨e2,_⟩ | ⟨b',cs,t,e2,hnok,_⟩
          · rw [e'] at e2;cases e2
          · rw [e'] at e2;cases e2;exact hnok (g2 b hb)
        refine ⟨B,?_,fun b hb=>⟨RelV.below _ _ _ g1 b hb,.inl (g2 b hb),hB b hb⟩,by simp⟩
        have e:(cargs++Array.replicate (fn.ntmps - cargs.size) undef).getD k undef=cargs.toList.getD k undef:=by
          have hlt:k < cargs.size:=by rw [h1] at hk;simpa using hk
          simp [Array.getD_eq_getD_getElem?,Array.getElem?_append,hlt,List.getD_eq_getElem?_getD]
        rw [e]
        simpa only [Nat.sub_zero] using g1
      · rw [if_neg (by simpa using hk)]
        exact ⟨[],by simp [RelV],by simp,by simp⟩
    · rcases kA (os:=objs) (l:=l) with ⟨g1,_⟩ | ⟨o,ho,rfl,g1⟩
      · simp only [g1] at hl;cases hl
      · simp only [g1] at hl;cases hl
        refine ⟨[],by simp,by simp,?_⟩
        rcases hob o ho with ⟨e1,e2⟩ | ⟨b,cs,t,e1,_,e3,e4⟩
        · exact .inl ⟨e1,e2,rfl⟩
        · exact .inr ⟨b,cs,t,e1,how b _ e1,e3,by simpa using e4⟩
    · cases hk:κ l with
      | none=>rfl
      | some o =>
        obtain ⟨x,hx,rfl⟩:=hκ l o hk
        rcases kA (os:=objs) (l:=x.l) with ⟨_,g2⟩ | ⟨_,_,_,g1⟩
        · exact absurd rfl (g2 x hx)
        · simp only [g1] at hl;cases hl
    · obtain ⟨l,e⟩:=how2 b hb
      exact ⟨hblt l b e,.inr ⟨l,how b l e,(hio l b).2 e⟩⟩
    · rw [(hio l b).2 hl] at hi;cases hi
  have hioN:∀ l,Nat.blt l 100000=true→Γ.io l=none:=by
    intro l hl
    have hl:=(aK _ _).1 hl
    cases hi:Γ.io l with
    | none=>rfl
    | some b =>
      obtain ⟨o,ho,rfl⟩:=hκ l _ ((hio l b).1 hi)
      have:=hx1 o ho;omega
  refine wp_mono (h Γ rfl rfl (fun _ h=>h) (fun _ h=>h) (fun _ h=>h) (fun l b e=>(hio l b).1 e) hioN _ _ hsim) fun e a' w' ⟨E',hs',hq⟩=>?_
  have fin:RetX Γ rs E' r deep objs→a'.defers=[]∧∃ v,(results fn a'.tmps).run P w'=.ok v w'∧∃ c B,Ending.returned v=.returned c∧Same w w'∧(∀ b,b < w.heap.size→(∀ l,κ l≠some (some b))→w'.heap[b]?=w.heap[b]?)∧(∀ o ∈ objs,rL w w' κ o) ∧
      RelV w'.heap dead r c B∧(∀ b ∈ B,ok b∨w.heap.size≤b)∧(deep=true→B.Nodup∧∀ b ∈ B,w.heap.size≤b∧cY w' b):=by
    rintro ⟨hr,hr2⟩
    obtain ⟨c,B,g1,g2,g3,g4⟩:=hr fn hrs a' w' hs'
    obtain ⟨E2,⟨ow2,β2,hs2⟩,hr2⟩:=hr2 a' w' hs'
    refine ⟨hs2.defers,c,g1,c,B,rfl,⟨hs2.kept.os,hs2.kept.output,hs2.kept.tape,hs2.kept.size⟩,fun b hb hn=>hs2.kept.old b hb (fun l e=>hn l ((hio l b).1 e)) (fun h=>h),fun o ho=>⟨fun e=>?_,fun b e cs t hc=>?_⟩,g2,fun b hb=>(g3 b hb).2.imp id (fun h=>(h.elim id False.elim:Γ.nww b).elim id False.elim),fun hd=>⟨(g4 hd).1,fun b hb=>⟨(((g4 hd).2 b hb).2.elim id False.elim:Γ.nww b).elim id False.elim,((g4 hd).2 b hb).1⟩⟩⟩
    · refine hnil o ho ?_
      rcases hob o ho with ⟨_,e2⟩ | ⟨b,_,_,e2,_⟩
      · exact e2
      · rw [e] at e2;cases e2
    · obtain ⟨dp,hl⟩:=hr2 o ho
      obtain ⟨Bo,_,_,k3⟩:=hs2.objs o.l _ hl
      have hβ:=hs2.ios o.l b ((hio o.l b).2 e) (by rw [hl];rfl)
      rcases k3 with ⟨k4,_⟩ | ⟨b',cs',t',k4,k5,k6,k7⟩
      · rw [hβ] at k4;cases k4
      · rw [hβ] at k4;cases k4
        obtain ⟨cs2,q1,q2⟩:=hs2.kept.ios b (hblt _ _ e) (fun h=>h) cs t hc
        rw [k6] at q1;cases q1
        have:=jC (hsc o ho) k7
        subst this
        exact ⟨cs',k6,q2,by simpa using k7⟩
  cases e with
  | normal=>exact fin hq
  | ret=>exact fin hq
  | exit id=>exact hq.elim
  | goto l=>exact hq.elim
  | panic ch=>exact hq.elim
  | outgrown=>exact hq.elim
def κ1 (b0:Nat):Nat→Option (Option Nat):=fun l=>if l=100000 then some (some b0) else none
def MeetsP (P:Program) (f:FuncId) (p:PV) (vb:Value) (args old new:List PV) (r:PV) (deep:Bool):Prop :=
  ∀ (w:World) (cargs:Array Value) (ok:Nat→Prop) (b0:Nat) (cs:Array Value) (t:TypeId),XArgs w.heap ok (κ1 b0) args cargs.toList→¬ok b0→w.heap[b0]?=some (.cells cs t (0,0))→RelL w.heap true dead (.sc vb::old) cs 0 []→(∃ B,RelV w.heap dead p vb B∧∀ b ∈ B,ok b) →
    Calls P f cargs w fun e w'=>∃ c B,e=.returned c∧Same w w'∧(∀ b,b < w.heap.size→b≠b0→w'.heap[b]?=w.heap[b]?)∧(∃ cs',w'.heap[b0]?=some (.cells cs' t (0,0))∧cs'.size=cs.size∧RelL w'.heap true dead (.sc vb::new) cs' 0 []) ∧
      RelV w'.heap dead r c B∧(∀ b ∈ B,ok b∨w.heap.size≤b)∧(deep=true→B.Nodup∧∀ b ∈ B,w.heap.size≤b∧cY w' b)
theorem MeetsP.intro {f:FuncId} {fn:Func} {c:Code} {p:PV} {vb:Value} {args old new:List PV} {r:PV} {deep:Bool} {rs:Array ResultVar} (hf:P.funcs[f]?=some fn) (hb:fn.body=some c) (hN:fn.ntmps=N) (hrs:fn.results=rs) (hn:Nat.ble args.length N=true) (hp:p.labs=[]) (hsc:fC new=true)
    (h:∀ Γ:Ctx P N,(∀ l,Nat.blt l 100000=true→Γ.io l=none)→vK Γ vb p→CodeT Γ c ⟨cL args 0,[(100000,some ⟨.sc vb::old,true,false⟩)]⟩ (lF Γ rs r deep [⟨100000,.sc vb::old,.sc vb::new⟩])):MeetsP P f p vb args old new r deep:=by
  intro w cargs ok b0 cs t ha hnok hb0 hrel ⟨Bp,hp1,hp2⟩
  have hκ:∀ l o,κ1 b0 l=some o→l=100000∧o=some b0:=by
    intro l o e
    unfold κ1 at e
    by_cases hl:l=100000
    · rw [if_pos hl] at e;exact ⟨hl,(Option.some.inj e).symm⟩
    · rw [if_neg hl] at e;cases e
  refine (MeetsX.core (r:=r) (deep:=deep) hf hb hN hrs hn (objs:=[⟨100000,.sc vb::old,.sc vb::new⟩]) rfl (by simp) (by simpa [fC] using hsc) w cargs ok (κ1 b0) ha (fun o ho=>?_) (fun l o e=>?_) (fun l l' b e e'=>?_) (fun Γ h1 h2 h3 h4 h5 h6 h7=>?_)).mono fun e w' ⟨c,B,q1,q2,q3,q4,q5,q6,q7⟩=>?_
  · simp only [List.mem_singleton] at ho;subst ho
    exact .inr ⟨b0,cs,t,by simp [κ1],hnok,hb0,hrel⟩
  · exact ⟨⟨100000,.sc vb::old,.sc vb::new⟩,by simp,(hκ l o e).1.symm⟩
  · exact (hκ l _ e).1.trans (hκ l' _ e').1.symm
  · refine h Γ h7 ⟨hp,Bp,by rw [h2];exact hp1,fun b hb=>⟨h3 b (hp2 b hb),by rw [h1];exact RelV.below _ _ _ hp1 b hb,⟨h4 b,h5 b⟩,fun l e=>?_⟩⟩
    have:=(hκ l _ (h6 l b e)).2
    cases this
    exact hnok (hp2 _ hb)
  · refine ⟨c,B,q1,q2,fun b hb hne=>q3 b hb (fun l e=>?_),?_,q5,q6,q7⟩
    · have:=(hκ l _ e).2
      cases this;exact hne rfl
    · exact (q4 ⟨100000,.sc vb::old,.sc vb::new⟩ (by simp)).2 b0 (by simp [κ1]) cs t hb0
end
section
variable {P:Program} {N:Nat} {Γ:Ctx P N} {S:List (Nat × Slot)} {O:List (Nat × Option Ob)} {ow:Nat→Own} {β:Nat→Option (Option Nat)} {F:Env} {a:Act} {w:World}
variable {d:Nat} {ty:TypeId} {pos:String} {af:Array Edge} {g:Option (Nat × Bool)}
def MeetsQ (P:Program) (f:FuncId) (args cells:List PV):Prop :=
  ∀ (w:World) (cargs:Array Value) (ok:Nat→Prop),RelArgs w.heap ok args cargs.toList →
    Calls P f cargs w fun e w'=>∃ b cs t B,e=.returned (.pointer (some ⟨b,0,none⟩))∧Below w.heap.size w w'∧w.heap.size≤b∧w'.heap[b]?=some (.cells cs t (0,0))∧RelL w'.heap true dead cells cs 0 B∧(∀ x ∈ B,x < w'.heap.size∧x≠b∧(ok x∨w.heap.size≤x))
def RetQ (Γ:Ctx P N) (rs:Array ResultVar) (E:Env) (cells:List PV):Prop :=
  ∀ fn:Func,fn.results=rs→∀ a w,Sim Γ E a w→∃ b cs t B,(results fn a.tmps).run P w=.ok (.pointer (some ⟨b,0,none⟩)) w∧Γ.nww b∧w.heap[b]?=some (.cells cs t (0,0))∧RelL w.heap true dead cells cs 0 B∧(∀ x ∈ B,x < w.heap.size∧x≠b∧(Γ.ok x∨Γ.nw x))
def vI (Γ:Ctx P N) (rs:Array ResultVar) (cells:List PV):Exit→Env→Prop
  | .normal,E=>RetQ Γ rs E cells
  | .ret,E=>RetQ Γ rs E cells
  | _,_=>False
theorem RetQ.weak {E E0:Env} {rs:Array ResultVar} {cells:List PV} (he:Ent Γ E E0) (h:RetQ Γ rs E0 cells):RetQ Γ rs E cells:=fun fn hf a w hs=>h fn hf a w (he a w hs)
theorem RetQ.mk {t l:Nat} {cells cells':List PV} {dp dp0:Bool} (h:lkq S t=some ⟨.ptr l 0,dp0⟩) (ho:loq O l=some ⟨cells,dp,false⟩) (hne:cells≠[]) (hio:Γ.io l=none) (hs:SoftL cells cells'):RetQ Γ #[.tmp t] ⟨S,O⟩ cells':=by
  rintro fn hf a w ⟨ow,β,hsim⟩
  rw [fZ hf]
  obtain ⟨B,h1,_⟩:=hsim.slots t
  rw [eJ h] at h1
  simp only [RelV] at h1
  obtain ⟨Bo,o1,o2,hob⟩:=hsim.objs l ⟨cells,dp,false⟩ (by rw [← dC];exact ho)
  rcases hob with ⟨_,p2,_⟩ | ⟨b,cs,u,p1,p2,p3,p4⟩
  · exact absurd p2 hne
  · refine ⟨b,cs,u,Bo,by simp [dJ,h1.2 b p1],hsim.fresh l _ p1 hio,p3,hs.2 _ _ _ _ _ _ (by simpa using p4),fun x hx=>⟨(o1 x hx).1,fun e=>(o1 x hx).2.2 l (e ▸ p2),(o1 x hx).2.1⟩⟩
end
section
variable {P:Program} {N:Nat}
theorem MeetsQ.intro {f:FuncId} {fn:Func} {c:Code} {args cells:List PV} {rs:Array ResultVar} (hf:P.funcs[f]?=some fn) (hb:fn.body=some c) (hN:fn.ntmps=N) (hrs:fn.results=rs) (hn:Nat.ble args.length N=true)
    (h:∀ Γ:Ctx P N,(∀ l,Nat.blt l 100000=true→Γ.io l=none)→CodeT Γ c ⟨cL args 0,[]⟩ (vI Γ rs cells)):MeetsQ P f args cells:=by
  intro w cargs ok ha
  obtain ⟨h1,h2⟩:=ha.get
  have hn:=Nat.le_of_ble_eq_true hn
  let Γ:Ctx P N:={ base:=w.heap.size,ok:=fun b=>ok b,io:=fun _=>none,w0:=w,mine:=fun _=>False,lent:=fun _=>False }
  have hsz:(cargs++Array.replicate (fn.ntmps - cargs.size) undef).size=N:=by
    have:cargs.size=args.length:=by rw [h1];simp
    simp [this,hN];omega
  refine calls_of_wp hf hb ?_
  have hsim:Sim Γ ⟨cL args 0,[]⟩ { tmps:=cargs++Array.replicate (fn.ntmps - cargs.size) undef,defers:=[] } w:=by
    refine ⟨fun _=>.none,fun _=>none,{ size:=hsz,defers:=rfl,kept:=⟨rfl,rfl,rfl,Nat.le_refl _,fun _ _ _ _=>rfl,fun b _ _ cs t h=>⟨cs,h,rfl⟩⟩,slots:=fun k=>?_,objs:=fun l ob hl=>(by simp [lo] at hl),gone:=fun _ _=>rfl,own:=fun b hb=>absurd rfl hb,ios:=fun l b hl=>(by cases hl),fresh:=fun l b hl=>(by cases hl) }⟩
    rw [dX]
    by_cases hk:k < args.length
    · rw [if_pos ⟨Nat.zero_le _,by simpa using hk⟩]
      obtain ⟨B,g1,g2⟩:=h2 k hk
      refine ⟨B,?_,fun b hb=>⟨RelV.below _ _ _ g1 b hb,.inl (g2 b hb),fun l=>by simp⟩,by simp⟩
      have e:(cargs++Array.replicate (fn.ntmps - cargs.size) undef).getD k undef=cargs.toList.getD k undef:=by
        have hlt:k < cargs.size:=by rw [h1] at hk;simpa using hk
        simp [Array.getD_eq_getD_getElem?,Array.getElem?_append,hlt,List.getD_eq_getElem?_getD]
      rw [e]
      simp only [Nat.sub_zero]
      exact RelV.keep _ _ _ (fun l _=>by intro ob h;cases h) (fun _ _=>rfl) g1
    · rw [if_neg (by simpa using hk)]
      exact ⟨[],by simp [RelV],by simp,by simp⟩
  refine wp_mono (h Γ (fun _ _=>rfl) _ _ hsim) fun e a' w' ⟨E',hs',hq⟩=>?_
  have fin:RetQ Γ rs E' cells→a'.defers=[]∧∃ v,(results fn a'.tmps).run P w'=.ok v w'∧∃ b cs t B,Ending.returned v=.returned (.pointer (some ⟨b,0,none⟩))∧Below w.heap.size w w'∧w.heap.size≤b∧w'.heap[b]?=some (.cells cs t (0,0))∧RelL w'.heap true dead cells cs 0 B∧(∀ x ∈ B,x < w'.heap.size∧x≠b∧(ok x∨w.heap.size≤x)):=by
    intro hr
    obtain ⟨b,cs,t,B,g1,g2,g3,g4,g5⟩:=hr fn hrs a' w' hs'
    obtain ⟨ow,β,hs'⟩:=hs'
    exact ⟨hs'.defers,_,g1,b,cs,t,B,rfl,⟨hs'.kept.os,hs'.kept.tape,hs'.kept.output,hs'.kept.size,fun k hk=>hs'.kept.old k hk (fun l=>by simp [Γ]) (fun h=>h)⟩,g2.elim id False.elim,g3,g4,fun x hx=>⟨(g5 x hx).1,(g5 x hx).2.1,(g5 x hx).2.2.imp id (fun h=>(h.elim id False.elim:Γ.nww x).elim id False.elim)⟩⟩
  cases e with
  | normal=>exact fin hq
  | ret=>exact fin hq
  | exit id=>exact hq.elim
  | goto l=>exact hq.elim
  | panic ch=>exact hq.elim
  | outgrown=>exact hq.elim
end
end Go.Ev
/- The engine, part XX: arrays of arrays as own rows; addresses known not to be nil. -/
namespace Go.Ev
open Go.RowKit (Below)
set_option linter.all false
section
variable {P:Program} {N:Nat} {Γ:Ctx P N} {S:List (Nat × Slot)} {O:List (Nat × Option Ob)}
variable {d:Nat} {ty:TypeId} {pos:String} {af:Array Edge} {g:Option (Nat × Bool)}
end
end Go.Ev
/- The engine, part YY: calls that rest on what the world's tables hold. -/
namespace Go.Ev
open Go.RowKit (Below)
set_option linter.all false
class WT (T:World→Prop):Prop where
  keep:∀ w w',T w→Below w.heap.size w w'→T w'
def MeetsT (P:Program) (T:World→Prop) (f:FuncId) (args:List PV) (r:PV) (deep:Bool):Prop :=
  ∀ (w:World) (cargs:Array Value) (ok:Nat→Prop),T w→RelArgs w.heap ok args cargs.toList →
    Calls P f cargs w fun e w'=>∃ c B,e=.returned c∧Below w.heap.size w w'∧RelV w'.heap dead r c B∧(∀ b ∈ B,ok b∨w.heap.size≤b)∧(deep=true→B.Nodup∧∀ b ∈ B,w.heap.size≤b∧cY w' b)
def TOk {P:Program} {N:Nat} (T:World→Prop) (Γ:Ctx P N):Prop:=∀ w,Kept Γ w→T w
section
variable {P:Program} {N:Nat} {T:World→Prop}
theorem MeetsT.intro [WT T] {f:FuncId} {fn:Func} {c:Code} {args:List PV} {r:PV} {deep:Bool} {rs:Array ResultVar} (hf:P.funcs[f]?=some fn) (hb:fn.body=some c) (hN:fn.ntmps=N) (hrs:fn.results=rs) (hn:Nat.ble args.length N=true)
    (h:∀ Γ:Ctx P N,(∀ l,Nat.blt l 100000=true→Γ.io l=none)→TOk T Γ→CodeT Γ c ⟨cL args 0,[]⟩ (kJ Γ rs r deep)):MeetsT P T f args r deep:=by
  intro w cargs ok hTw ha
  obtain ⟨h1,h2⟩:=ha.get
  have hn:=Nat.le_of_ble_eq_true hn
  let Γ:Ctx P N:={ base:=w.heap.size,ok:=fun b=>ok b,io:=fun _=>none,w0:=w,mine:=fun _=>False,lent:=fun _=>False }
  have hΓ:TOk T Γ:=fun w' k=>WT.keep w w' hTw ⟨k.os,k.tape,k.output,k.size,fun b hb=>k.old b hb (fun l=>by simp [Γ]) (fun h=>h)⟩
  have hsz:(cargs++Array.replicate (fn.ntmps - cargs.size) undef).size=N:=by
    have:cargs.size=args.length:=by rw [h1];simp
    simp [this,hN];omega
  refine calls_of_wp hf hb ?_
  have hsim:Sim Γ ⟨cL args 0,[]⟩ { tmps:=cargs++Array.replicate (fn.ntmps - cargs.size) undef,defers:=[] } w:=by
    refine ⟨fun _=>.none,fun _=>none,{ size:=hsz,defers:=rfl,kept:=⟨rfl,rfl,rfl,Nat.le_refl _,fun _ _ _ _=>rfl,fun b _ _ cs t h=>⟨cs,h,rfl⟩⟩,slots:=fun k=>?_,objs:=fun l ob hl=>(by simp [lo] at hl),gone:=fun _ _=>rfl,own:=fun b hb=>absurd rfl hb,ios:=fun l b hl=>(by cases hl),fresh:=fun l b hl=>(by cases hl) }⟩
    rw [dX]
    by_cases hk:k < args.length
    · rw [if_pos ⟨Nat.zero_le _,by simpa using hk⟩]
      obtain ⟨B,g1,g2⟩:=h2 k hk
      refine ⟨B,?_,fun b hb=>⟨RelV.below _ _ _ g1 b hb,.inl (g2 b hb),fun l=>by simp⟩,by simp⟩
      have e:(cargs++Array.replicate (fn.ntmps - cargs.size) undef).getD k undef=cargs.toList.getD k undef:=by
        have hlt:k < cargs.size:=by rw [h1] at hk;simpa using hk
        simp [Array.getD_eq_getD_getElem?,Array.getElem?_append,hlt,List.getD_eq_getElem?_getD]
      rw [e]
      simp only [Nat.sub_zero]
      exact RelV.keep _ _ _ (fun l _=>by intro ob h;cases h) (fun _ _=>rfl) g1
    · rw [if_neg (by simpa using hk)]
      exact ⟨[],by simp [RelV],by simp,by simp⟩
  refine wp_mono (h Γ (fun _ _=>rfl) hΓ _ _ hsim) fun e a' w' ⟨E',hs',hq⟩=>?_
  have fin:RetIs Γ rs E' r deep→a'.defers=[]∧∃ v,(results fn a'.tmps).run P w'=.ok v w'∧∃ c B,Ending.returned v=.returned c∧Below w.heap.size w w'∧RelV w'.heap dead r c B∧(∀ b ∈ B,ok b∨w.heap.size≤b)∧(deep=true→B.Nodup∧∀ b ∈ B,w.heap.size≤b∧cY w' b):=by
    intro hr
    obtain ⟨c,B,g1,g2,g3,g4⟩:=hr fn hrs a' w' hs'
    obtain ⟨ow,β,hs'⟩:=hs'
    refine ⟨hs'.defers,c,g1,c,B,rfl,⟨hs'.kept.os,hs'.kept.tape,hs'.kept.output,hs'.kept.size,fun k hk=>hs'.kept.old k hk (fun l=>by simp [Γ]) (fun h=>h)⟩,g2,fun b hb=>(g3 b hb).2.imp id (fun h=>(h.elim id False.elim:Γ.nww b).elim id False.elim),fun hd=>⟨(g4 hd).1,fun b hb=>⟨(((g4 hd).2 b hb).2.elim id False.elim:Γ.nww b).elim id False.elim,((g4 hd).2 b hb).1⟩⟩⟩
  cases e with
  | normal=>exact fin hq
  | ret=>exact fin hq
  | exit id=>exact hq.elim
  | goto l=>exact hq.elim
  | panic ch=>exact hq.elim
  | outgrown=>exact hq.elim
variable {Γ:Ctx P N} {S:List (Nat × Slot)} {O:List (Nat × Option Ob)} {d:Nat} {ty:TypeId} {pos:String} {af:Array Edge} {g:Option (Nat × Bool)}
theorem dO (hT:TOk T Γ) {f:FuncId} [hfc:FnC P f] {xs:List Operand} {us:Array TypeId} {ps:List PV} {ls:List Nat} {r:PV} {deep:Bool} (ha:ArgsV S O xs ps ls) (hm:MeetsT P T f ps r deep) (hc:(uT ls||deep||jF r)=true) (hr:r.labs=[]) (hd:Nat.blt d N=true) :
    Local Γ ⟨some d,.call ⟨.value (.func f),xs.toArray,us⟩,ty,pos,af,g⟩ ⟨S,O⟩ ⟨[(d,⟨r,deep⟩)],[]⟩ (mN xs) ls []:=by
  intro F hs hl _ a w ⟨ow,β,hsim⟩ Q
  have hargs:=iS hsim ha hs hl
  unfold Oper.wp
  have hrun:(execOp a.eval ⟨some d,.call ⟨.value (.func f),xs.toArray,us⟩,ty,pos,af,g⟩).run P w=.ok (.enter f (xs.map a.eval).toArray) w:=by
    simp [execOp,resolve,Act.eval,Deferred.ofValue,invoke,hfc.run]
  rw [hrun]
  show Calls _ _ _ _ _
  refine (hm w (xs.map a.eval).toArray (fun b=>Im Γ ow w b∨∃ l ∈ ls,ow b=.lab l) (hT w hsim.kept) (by simpa using hargs)).mono fun e w' ⟨c,B,he,hb,h1,h2,h3⟩=>?_
  subst he
  show Sim Γ _ _ _
  have hg:=hsim.grow hb
  have hB:∀ b ∈ B,b < w'.heap.size:=RelV.below _ _ _ h1
  have hfresh:∀ b,w.heap.size≤b→b < w'.heap.size→Im Γ ow w' b:=fun b hb1 hb2=>⟨hb2,.inr (.inl (.inl (Nat.le_trans hsim.kept.size hb1))),fun l e=>by have:=(hsim.own b (by rw [e];simp)).1;omega⟩
  have hkeepV:RelV w'.heap β r c B:=RelV.keep _ _ _ (fun l hl=>by rw [hr] at hl;cases hl) (fun _ _=>rfl) h1
  cases deep with
  | true =>
    obtain ⟨n1,n2⟩:=h3 rfl
    exact ⟨_,β,hg.putDeep ((aK _ _).1 hd) hkeepV (fun b hb=>hfresh b (n2 b hb).1 (hB b hb)) n1 (fun b hb=>⟨(n2 b hb).2,.inl (.inl (Nat.le_trans hsim.kept.size (n2 b hb).1))⟩)
      (fun b hb=>by
        cases hx:ow b with
        | none=>exact .inl rfl
        | _=>have:=(hsim.own b (by rw [hx];simp)).1;have:=(n2 b hb).1;omega)⟩
  | false =>
    refine ⟨ow,β,hg.put ((aK _ _).1 hd) hkeepV fun b hbB=>?_⟩
    simp only [Bool.or_false,Bool.or_eq_true] at hc
    rcases hc with hc | hc
    · cases ls with
      | cons=>cases hc
      | nil =>
        rcases h2 b hbB with (h | ⟨l,hl,_⟩) | h
        · exact ⟨Nat.lt_of_lt_of_le h.1 hb.size,h.2⟩
        · cases hl
        · exact hfresh b h (hB b hbB)
    · rw [mV hc h1] at hbB;cases hbB
end
end Go.Ev
