/- Parts EvHH, EvII, EvJJ, EvKK, EvLL, EvMM, EvNN, EvOO, EvPP, EvQQ. -/
import Derived.Test.YthjpgecdkmiadaaGreatE4
set_option linter.all false
/- The engine, part HH: cells made known, values forgotten; functions that write what a struct holds. -/
namespace Go.Ev
open Go.RowKit (Below)
def Forg (p p':PV):Prop:=∀ (h:Array Obj) (β:Nat→Option (Option Nat)) (c:Value) (B:List Nat),RelV h β p c B→RelV h β p' c []
theorem Forg.was {v:Value} {p:PV}:Forg (.was v p) (.sc v):=by
  intro h β c B H
  simp only [RelV] at H ⊢
  exact ⟨H.1,trivial⟩
theorem aLs {h:Array Obj} {q:Bool} {β:Nat→Option (Option Nat)}:∀ {ws:List PV} {cs:Array Value} {i:Nat} {O:List Nat},oX ws=true→RelL h q β ws cs i O→RelL h q β (ws.map slp) cs i []
  | [],_,_,_,_,_=>by simp [RelL]
  | p::ws,cs,i,O,ha,H=>by
    cases p with
    | was v p =>
      simp only [List.map_cons,slp,RelL,RelV] at H ⊢
      obtain ⟨c,O1,O2,h1,h2,h3,_⟩:=H
      exact ⟨c,[],[],h1,⟨h2.1,rfl⟩,aLs (by simpa [oX] using ha) h3,rfl⟩
    | _=>simp [oX] at ha
theorem Forg.agg {ws:List PV} (ha:oX ws=true):Forg (.agg ws) (.agg (ws.map slp)):=by
  intro h β c B H
  simp only [RelV] at H ⊢
  obtain ⟨cs,h1,h2,h3⟩:=H
  exact ⟨cs,h1,by simpa using h2,aLs ha h3⟩
def wz:List Value→List PV→List PV
  | v::vs,p::ps=>.was v p::wz vs ps
  | _,_=>[]
theorem aEh {h:Array Obj} {q:Bool} {β:Nat→Option (Option Nat)}:∀ {vs:List Value} {ps:List PV} {cs:Array Value} {i:Nat} {O:List Nat},vs.length=ps.length→(∀ k,k < vs.length→cs[i+k]?=vs[k]?)→RelL h q β ps cs i O→RelL h q β (wz vs ps) cs i O
  | [],[],_,_,_,_,_,H=>by simpa [wz] using H
  | v::vs,p::ps,cs,i,O,hl,hk,H=>by
    simp only [wz,RelL] at H ⊢
    obtain ⟨c,O1,O2,h1,h2,h3,e⟩:=H
    have h0:=hk 0 (by simp)
    simp only [Nat.add_zero,List.getElem?_cons_zero] at h0
    rw [h1.1] at h0;injection h0 with h0
    refine ⟨c,O1,O2,h1,by simp only [RelV];exact ⟨h0,h2⟩,aEh (by simpa using hl) (fun k hk'=>?_) h3,e⟩
    have:=hk (k+1) (by simpa using hk')
    rw [show i+1+k=i+(k+1) by omega,this];simp
  | [],_::_,_,_,_,hl,_,_=>by simp at hl
  | _::_,[],_,_,_,hl,_,_=>by simp at hl
theorem aJq {h:Array Obj} {q:Bool} {β:Nat→Option (Option Nat)}:∀ {vs:List Value} {ps:List PV} {cs:Array Value} {i:Nat} {O:List Nat},vs.length=ps.length→RelL h q β (wz vs ps) cs i O→(∀ k,k < vs.length→cs[i+k]?=vs[k]?)∧RelL h q β ps cs i O
  | [],[],_,_,_,_,H=>⟨fun k hk=>by simp at hk,by simpa [wz] using H⟩
  | v::vs,p::ps,cs,i,O,hl,H=>by
    simp only [wz,RelL] at H ⊢
    obtain ⟨c,O1,O2,h1,h2,h3,e⟩:=H
    simp only [RelV] at h2
    obtain ⟨g1,g2⟩:=aJq (by simpa using hl) h3
    refine ⟨fun k hk=>?_,c,O1,O2,h1,h2.2,g2,e⟩
    cases k with
    | zero=>simp only [Nat.add_zero,List.getElem?_cons_zero];rw [h1.1,h2.1]
    | succ k =>
      rw [show i+(k+1)=i+1+k by omega,g1 k (by simpa using hk)];simp
  | [],_::_,_,_,_,hl,_=>by simp at hl
  | _::_,[],_,_,_,hl,_=>by simp at hl
section
variable {P:Program} {N:Nat} {Γ:Ctx P N} {S:List (Nat × Slot)} {O:List (Nat × Option Ob)} {ow:Nat→Own} {β:Nat→Option (Option Nat)} {F:Env} {a:Act} {w:World}
theorem SimG.recell (h:SimG Γ ow β ⟨S,O⟩ a w) {l:Nat} {cells cells':List PV} {dp bx:Bool} (ho:loq O l=some ⟨cells,dp,bx⟩) (hne:cells≠[])
    (hr:∀ cs B,RelL w.heap true (if bx then β else dead) cells cs 0 B→RelL w.heap true (if bx then β else dead) cells' cs 0 B):SimG Γ ow β ⟨S,(l,some ⟨cells',dp,bx⟩)::O⟩ a w:=by
  have ho':lo (Env.mk S O).o l=some ⟨cells,dp,bx⟩:=by rw [← dM];exact ho
  refine { size:=h.size,defers:=h.defers,kept:=h.kept,slots:=h.slots,objs:=fun m ob hm=>?_,gone:=fun m hm=>?_,own:=h.own,ios:=fun m b hm hs=>?_,fresh:=h.fresh }
  · simp only [aZ] at hm
    by_cases hml:l=m
    · subst hml
      rw [if_pos rfl] at hm;cases hm
      obtain ⟨B,o1,o2,o3⟩:=h.objs l _ ho'
      refine ⟨B,o1,o2,?_⟩
      rcases o3 with ⟨_,e2,_⟩ | ⟨b,cs,t,e1,e2,e3,e4⟩
      · exact absurd e2 hne
      · exact .inr ⟨b,cs,t,e1,e2,e3,hr _ _ e4⟩
    · rw [if_neg hml] at hm;exact h.objs m ob hm
  · simp only [aZ] at hm
    by_cases hml:l=m
    · rw [if_pos hml] at hm;cases hm
    · rw [if_neg hml] at hm;exact h.gone m hm
  · simp only [aZ] at hs
    by_cases hml:l=m
    · subst hml;exact h.ios l b hm (by rw [ho'];rfl)
    · rw [if_neg hml] at hs;exact h.ios m b hm hs
theorem CodeT.expose {code:Code} {Q:Exit→Env→Prop} {l c:Nat} {cells:List PV} {p:PV} {dp bx:Bool} (ho:loq O l=some ⟨cells,dp,bx⟩) (hc:cells[c]?=some p)
    (h:∀ v,CodeT Γ code ⟨S,(l,some ⟨cells.set c (.was v p),dp,bx⟩)::O⟩ Q):CodeT Γ code ⟨S,O⟩ Q:=by
  rintro a w ⟨ow,β,hs⟩
  have ho':lo (Env.mk S O).o l=some ⟨cells,dp,bx⟩:=by rw [← dM];exact ho
  have hne:cells≠[]:=by rintro rfl;simp at hc
  obtain ⟨B,o1,o2,o3⟩:=hs.objs l _ ho'
  rcases o3 with ⟨_,e2,_⟩ | ⟨b,cs,t,e1,e2,e3,e4⟩
  · exact absurd e2 hne
  · obtain ⟨v,O1,Oc,O2,q1,q2,q3,q4,q5,rfl⟩:=e4.at hc
    refine h v a w ⟨ow,β,{ size:=hs.size,defers:=hs.defers,kept:=hs.kept,slots:=hs.slots,objs:=fun m ob hm=>?_,gone:=fun m hm=>?_,own:=hs.own,ios:=fun m b hm hx=>?_,fresh:=hs.fresh }⟩
    · simp only [aZ] at hm
      by_cases hml:l=m
      · subst hml
        rw [if_pos rfl] at hm;cases hm
        exact ⟨_,o1,o2,.inr ⟨b,cs,t,e1,e2,e3,RelL.put hc q1 q2 (by simp only [RelV];exact ⟨trivial,q3⟩) q4 q5⟩⟩
      · rw [if_neg hml] at hm;exact hs.objs m ob hm
    · simp only [aZ] at hm
      by_cases hml:l=m
      · rw [if_pos hml] at hm;cases hm
      · rw [if_neg hml] at hm;exact hs.gone m hm
    · simp only [aZ] at hx
      by_cases hml:l=m
      · subst hml;exact hs.ios l b hm (by rw [ho'];rfl)
      · rw [if_neg hml] at hx;exact hs.ios m b hm hx
theorem Local.forget {o:Oper} {d:Nat} {p p':PV} {dp:Bool} {us:List (Nat × Option Ob)} {rs ro nl:List Nat} (hs:Forg p p') (h:Local Γ o ⟨S,O⟩ ⟨[(d,⟨p,dp⟩)],us⟩ rs ro nl):Local Γ o ⟨S,O⟩ ⟨[(d,⟨p',false⟩)],us⟩ rs ro nl:=by
  intro F h1 h2 h3 a w hsim Q
  refine Oper.wp_mono ?_ (h F h1 h2 h3 a w hsim Q)
  rintro a' w' ⟨ow,β,h'⟩
  refine ⟨ow,β,{ size:=h'.size,defers:=h'.defers,kept:=h'.kept,slots:=fun j=>?_,objs:=h'.objs,gone:=h'.gone,own:=h'.own,ios:=h'.ios,fresh:=h'.fresh }⟩
  obtain ⟨B,g1,g2,g3⟩:=h'.slots j
  simp only [Env.app,List.cons_append,List.nil_append,eR] at g1 g3 ⊢
  by_cases hj:d=j
  · rw [if_pos hj] at g1 g3 ⊢
    exact ⟨[],hs _ _ _ _ g1,by simp,by simp⟩
  · rw [if_neg hj] at g1 g3 ⊢
    exact ⟨B,g1,g2,g3⟩
def RetM (Γ:Ctx P N) (rs:Array ResultVar) (E:Env) (k':Value) (ws:List PV):Prop :=
  RetIs Γ rs E (.sc k') true∧∀ a w,Sim Γ E a w→∃ E' l,Sim Γ E' a w∧lo E'.o l=some ⟨ws,true,false⟩
def aFu (Γ:Ctx P N) (rs:Array ResultVar) (k':Value) (ws:List PV):Exit→Env→Prop
  | .normal,E=>RetM Γ rs E k' ws
  | .ret,E=>RetM Γ rs E k' ws
  | _,_=>False
theorem zm2 {E:Env} {rs:Array ResultVar} {k':Value} {ws:List PV} (h:RetM Γ rs E k' ws):aFu Γ rs k' ws .ret E:=h
theorem RetM.mk {rs:Array ResultVar} {k':Value} {ws:List PV} (l:Nat) (h:RetIs Γ rs ⟨S,O⟩ (.sc k') true) (ho:loq O l=some ⟨ws,true,false⟩):RetM Γ rs ⟨S,O⟩ k' ws:=⟨h,fun _ _ hs=>⟨_,l,hs,by rw [← dM];exact ho⟩⟩
end
theorem MarkC.introS {P:Program} {N:Nat} {f:FuncId} {fn:Func} {c:Code} {cells new:List PV} {k k':Value} {rs:Array ResultVar} (hf:P.funcs[f]?=some fn) (hb:fn.body=some c) (hN:fn.ntmps=N) (hrs:fn.results=rs) (hn:Nat.ble 2 N=true) (hlen:Nat.beq new.length cells.length=true) (hla:nI cells=true)
    (h:∀ (Γ:Ctx P N) (vs:List Value),vs.length=cells.length→(∀ l,Nat.blt l 100000=true→Γ.io l=none)→(∀ b,¬Γ.lent b)→CodeT Γ c ⟨[(0,⟨.agg (wz vs cells),true⟩),(1,⟨.sc k,false⟩)],[]⟩ (aFu Γ rs k' (wz vs new))):MarkC P f (.agg cells) (.agg new) k k':=by
  classical
  intro w c0 B hr hnd hB
  have hn:=Nat.le_of_ble_eq_true hn
  have hlen:=Nat.eq_of_beq_eq_true hlen
  simp only [RelV] at hr
  obtain ⟨cs,rfl,hsize,hrel⟩:=hr
  let Γ:Ctx P N:={ base:=w.heap.size,ok:=fun _=>False,io:=fun _=>none,w0:=w,mine:=fun b=>b ∈ B,lent:=fun _=>False }
  have hsz:(#[Value.agg cs,k]++Array.replicate (fn.ntmps - 2) undef).size=N:=by
    simp [hN];omega
  refine calls_of_wp hf hb ?_
  let ow:Nat→Own:=fun b=>if b ∈ B then .slot 0 else .none
  have how:∀ b ∈ B,ow b=.slot 0:=fun b hb=>by show (if _ then _ else _)=_;rw [if_pos hb]
  have hvs:cs.toList.length=cells.length:=by simpa using hsize
  have hsim:Sim Γ ⟨[(0,⟨.agg (wz cs.toList cells),true⟩),(1,⟨.sc k,false⟩)],[]⟩ { tmps:=#[Value.agg cs,k]++Array.replicate (fn.ntmps - 2) undef,defers:=[] } w:=by
    refine ⟨ow,fun _=>none,{ size:=hsz,defers:=rfl,kept:=⟨rfl,rfl,rfl,Nat.le_refl _,fun _ _ _ _=>rfl,fun b _ _ cs t h=>⟨cs,h,rfl⟩⟩,slots:=fun j=>?_,objs:=fun l ob hl=>(by simp [lo] at hl),gone:=fun _ _=>rfl,own:=fun b hb=>?_,ios:=fun l b hl=>(by cases hl),fresh:=fun l b hl=>(by cases hl) }⟩
    · simp only [eR]
      by_cases h0:0=j
      · subst h0
        rw [if_pos rfl]
        refine ⟨B,?_,fun b hb=>⟨aHf (hB b hb),.inr (.inl (.inr hb)),fun l=>by rw [how b hb];simp⟩,fun _=>⟨hnd,fun b hb=>⟨how b hb,hB b hb⟩⟩⟩
        have e:(#[Value.agg cs,k]++Array.replicate (fn.ntmps - 2) undef).getD 0 undef=.agg cs:=by simp [Array.getD_eq_getD_getElem?,Array.getElem?_append]
        rw [e]
        have hwl:(wz cs.toList cells).length=cells.length:=by
          have:∀ (a:List Value) (b:List PV),a.length=b.length→(wz a b).length=b.length:=by
            intro a
            induction a with
            | nil=>intro b hb;cases b <;> simp [wz] at hb ⊢
            | cons x a ih=>intro b hb;cases b with
              | nil=>simp at hb
              | cons y b=>simp [wz,ih b (by simpa using hb)]
          exact this _ _ hvs
        simp only [RelV]
        refine ⟨cs,rfl,by rw [hwl];exact hsize,aEh hvs (fun k hk=>by simp) (uV (nH hla) hrel)⟩
      · rw [if_neg h0]
        by_cases h1:1=j
        · subst h1
          rw [if_pos rfl]
          have e:(#[Value.agg cs,k]++Array.replicate (fn.ntmps - 2) undef).getD 1 undef=k:=by simp [Array.getD_eq_getD_getElem?,Array.getElem?_append]
          exact ⟨[],by simp only [RelV];exact ⟨e,trivial⟩,by simp,by simp⟩
        · rw [if_neg h1]
          exact ⟨[],by simp [RelV,lk],by simp,by simp [lk]⟩
    · by_cases hm:b ∈ B
      · exact ⟨aHf (hB b hm),.inl (.inl (.inr hm))⟩
      · exfalso;apply hb;show (if _ then _ else _)=_;rw [if_neg hm]
  refine wp_mono (h Γ cs.toList hvs (fun _ _=>rfl) (fun _ h=>h) _ _ hsim) fun e a' w' ⟨E',hs',hq⟩=>?_
  have fin:RetM Γ rs E' k' (wz cs.toList new)→a'.defers=[]∧∃ v,(results fn a'.tmps).run P w'=.ok v w'∧Ending.returned v=.returned k'∧Same w w'∧(∀ b,b < w.heap.size→b ∉ B→w'.heap[b]?=w.heap[b]?) ∧
      ∃ B',RelV w'.heap dead (.agg new) (.agg cs) B'∧B'.Nodup∧∀ b ∈ B',fU w' b∧(w.heap.size≤b∨b ∈ B):=by
    rintro ⟨hr1,hr2⟩
    obtain ⟨c,B1,g1,g2,_,_⟩:=hr1 fn hrs a' w' hs'
    simp only [RelV] at g2
    obtain ⟨E2,l,⟨ow2,β2,hs2⟩,hl⟩:=hr2 a' w' hs'
    obtain ⟨Bo,k1,k2,k3⟩:=hs2.objs l _ hl
    obtain ⟨k2n,k2⟩:=k2 rfl
    refine ⟨hs2.defers,c,g1,by rw [g2.1],⟨hs2.kept.os,hs2.kept.output,hs2.kept.tape,hs2.kept.size⟩,fun b hb hn2=>hs2.kept.old b hb (fun l e=>by cases e) hn2,Bo,?_,k2n,fun c hc=>⟨(k2 c hc).2,?_⟩⟩
    · simp only [RelV]
      refine ⟨cs,rfl,by rw [hsize,hlen],?_⟩
      rcases k3 with ⟨_,e2,e3⟩ | ⟨b',cs',t',k4,k5,k6,k7⟩
      · have:new=[]:=by
          simp only at e2
          cases hcs:cs.toList with
          | nil =>
            rw [hcs] at hvs
            exact List.length_eq_zero_iff.1 (by rw [hlen,← hvs];rfl)
          | cons x r =>
            cases new with
            | nil=>rfl
            | cons y n=>rw [hcs] at e2;simp [wz] at e2
        subst this;subst e3;simp [RelL]
      · simp only [Bool.false_eq_true,if_false] at k7
        obtain ⟨m1,m2⟩:=aJq (by rw [hvs,hlen]) k7
        exact RelL.shift _ cs' cs 0 0 Bo (fun k hk=>by
          have:=m1 k (by rw [hvs,← hlen];exact hk)
          rw [this];simp) m2
    · have e:=(k2 c hc).1
      rcases (hs2.own c (by rw [e];simp)).2 with g | ⟨m,g,_⟩
      · exact (g.elim id False.elim:Γ.nww c)
      · rw [e] at g;cases g
  cases e with
  | normal=>exact fin hq
  | ret=>exact fin hq
  | exit id=>exact hq.elim
  | goto l=>exact hq.elim
  | panic ch=>exact hq.elim
  | outgrown=>exact hq.elim
end Go.Ev
namespace Go.Ev
section
variable {α β:Type}
theorem aM6 {l:List α} {n:Nat} (h:l.length=n+1):∃ a r,l=a::r∧r.length=n:=by
  cases l with
  | nil=>simp at h
  | cons a r=>exact ⟨a,r,rfl,by simpa using h⟩
theorem aM7 {l:List α} (h:l.length=0):l=[]:=List.length_eq_zero_iff.1 h
theorem eY {l:List α} {c:Nat} {p q:α} (h:l[c]?=some p):(l.set c q)[c]?=some q:=by
  have:=(List.getElem?_eq_some_iff.1 h).1
  simp [this]
theorem gU {l:List α} {c:Nat} {p q:α} (h:l[c]?=some p):((l.set c q).drop c).take 1=[q]:=by
  have hl:=(List.getElem?_eq_some_iff.1 h).1
  have hl':c < (l.set c q).length:=by simpa using hl
  rw [List.drop_eq_getElem_cons hl']
  simp
theorem gV {l:List α} {c:Nat} {p q q':α} (h:l[c]?=some p):(l.set c q).take c++[q']++(l.set c q).drop (c+1)=l.set c q':=by
  have hl:=(List.getElem?_eq_some_iff.1 h).1
  have e:=List.set_eq_take_append_cons_drop (l:=l.set c q) (i:=c) (a:=q')
  rw [if_pos (by simpa using hl),List.set_set] at e
  rw [e];simp
theorem aKQ {l:List α} {enc:α→List PV} {j:Int} {y:α} {sz c:Nat} {q:PV} {dp bx:Bool} (hl:idx l j=some y) (h:∀ y,(enc y).length=sz) (h0:0 < sz):Nat.blt 0 (Ob.mk ((l.flatMap enc).set c q) dp bx).cells.length=true:=by
  have:=aJy (dp:=dp) (bx:=bx) hl h h0
  simp only [List.length_set] at this ⊢;exact this
theorem dP {l x:List α} {enc:α→List PV} {j:Int} {y y':α} {sz o:Nat} {w:Value} {q:PV} (hx:aT (eZ l j y')=some x) (hl:idx l j=some y) (h:∀ y,(enc y).length=sz) (ho:o+1≤sz) (he:(enc y).take o++[q]++(enc y).drop (o+1)=enc y') :
    SoftL ((l.flatMap enc).set (j.toNat*sz+o) (.was w q)) (x.flatMap enc):=by
  have e:=aHA (n:=1) hx hl h ho he
  have hlen:=aGU (n:=1) hl h ho
  have hlen:=Nat.le_of_ble_eq_true hlen
  rw [← e,List.set_eq_take_append_cons_drop,if_pos (by omega)]
  rw [List.append_assoc]
  exact SoftL.app (SoftL.refl _) (SoftL.cons Soft.was (SoftL.refl _))
end
end Go.Ev
/- The engine, part II: laws that write what they have made: parameters that sleep. -/
namespace Go.Ev
open Go.RowKit (Below)
section
variable {P:Program} {N:Nat} {Γ:Ctx P N} {S:List (Nat × Slot)} {O:List (Nat × Option Ob)} {ow:Nat→Own} {β:Nat→Option (Option Nat)} {F:Env} {a:Act} {w:World}
theorem aKG:∀ {a:List Value} {b:List PV},a.length=b.length→(wz a b).length=b.length
  | [],[],_=>rfl
  | x::a,y::b,h=>by simp [wz,aKG (a:=a) (b:=b) (by simpa using h)]
  | [],_::_,h=>by simp at h
  | _::_,[],h=>by simp at h
theorem CodeT.exposeAll {code:Code} {Q:Exit→Env→Prop} (l:Nat) {cells:List PV} {dp bx:Bool} (ho:loq O l=some ⟨cells,dp,bx⟩) (hne:Nat.blt 0 cells.length=true)
    (h:∀ vs:List Value,vs.length=cells.length→CodeT Γ code ⟨S,(l,some ⟨wz vs cells,dp,bx⟩)::O⟩ Q):CodeT Γ code ⟨S,O⟩ Q:=by
  rintro a w ⟨ow,β,hs⟩
  have ho':lo (Env.mk S O).o l=some ⟨cells,dp,bx⟩:=by rw [← dM];exact ho
  have hne:=(bC _ _).1 hne
  obtain ⟨B,o1,o2,o3⟩:=hs.objs l _ ho'
  rcases o3 with ⟨_,e2,_⟩ | ⟨b,cs,t,e1,e2,e3,e4⟩
  · simp only at e2;subst e2;simp at hne
  · have hlen:=RelL.length _ _ _ _ (Nat.zero_le _) e4
    simp only [Nat.zero_add] at hlen
    have hvl:(cs.toList.take cells.length).length=cells.length:=by rw [List.length_take];simp;omega
    refine h (cs.toList.take cells.length) hvl a w ⟨ow,β,{ size:=hs.size,defers:=hs.defers,kept:=hs.kept,slots:=hs.slots,objs:=fun m ob hm=>?_,gone:=fun m hm=>?_,own:=hs.own,ios:=fun m b hm hx=>?_,fresh:=hs.fresh }⟩
    · simp only [aZ] at hm
      by_cases hml:l=m
      · subst hml
        rw [if_pos rfl] at hm;cases hm
        refine ⟨_,o1,o2,.inr ⟨b,cs,t,e1,e2,e3,aEh hvl (fun k hk=>?_) e4⟩⟩
        rw [hvl] at hk
        rw [List.getElem?_take,if_pos hk];simp
      · rw [if_neg hml] at hm;exact hs.objs m ob hm
    · simp only [aZ] at hm
      by_cases hml:l=m
      · rw [if_pos hml] at hm;cases hm
      · rw [if_neg hml] at hm;exact hs.gone m hm
    · simp only [aZ] at hx
      by_cases hml:l=m
      · subst hml;exact hs.ios l b hm (by rw [ho'];rfl)
      · rw [if_neg hml] at hx;exact hs.ios m b hm hx
def OldL (Γ:Ctx P N):List Value→List PV→Prop
  | v::vs,p::ps=>aKE Γ v p∧OldL Γ vs ps
  | [],[]=>True
  | _,_=>False
theorem OldL.of {Γ:Ctx P N} (hB:∀ b,Γ.ok b→b < Γ.base→True):∀ {ps:List PV} {vs:List Value} {cs:Array Value} {i:Nat} {B:List Nat},vs.length=ps.length→(∀ k,k < vs.length→cs[i+k]?=vs[k]?)→nI ps=true→RelL Γ.w0.heap true dead ps cs i B→(∀ b ∈ B,Γ.ok b∧b < Γ.base∧(¬Γ.mine b∧¬Γ.lent b)∧∀ l,Γ.io l≠some b)→OldL Γ vs ps
  | [],[],_,_,_,_,_,_,_,_=>trivial
  | p::ps,v::vs,cs,i,B,hl,hk,hn,H,hb=>by
    simp only [RelL] at H
    obtain ⟨c,O1,O2,h1,h2,h3,rfl⟩:=H
    have h0:=hk 0 (by simp)
    simp only [Nat.add_zero,List.getElem?_cons_zero] at h0
    rw [h1.1] at h0;injection h0 with h0
    subst h0
    refine ⟨⟨nH hn p (by simp),O1,h2,fun b hb'=>hb b (by simp [hb'])⟩,?_⟩
    refine OldL.of hB (by simpa using hl) (fun k hk'=>?_) ?_ h3 (fun b hb'=>hb b (by simp [hb']))
    · have:=hk (k+1) (by simpa using hk')
      rw [show i+1+k=i+(k+1) by omega,this];simp
    · simp only [nI,Bool.and_eq_true] at hn;exact hn.2
  | [],_::_,_,_,_,hl,_,_,_,_=>by simp at hl
  | _::_,[],_,_,_,hl,_,_,_,_=>by simp at hl
theorem CodeT.openAgg {code:Code} {Q:Exit→Env→Prop} (k:Nat) {c:Value} {cells:List PV} {dp:Bool} (hk:lkq S k=some ⟨.was c (.agg cells),dp⟩) (hf:aKE Γ c (.agg cells)) (hn:nI cells=true)
    (h:∀ vs:List Value,vs.length=cells.length→OldL Γ vs cells→CodeT Γ code ⟨(k,⟨.agg (wz vs cells),false⟩)::S,O⟩ Q):CodeT Γ code ⟨S,O⟩ Q:=by
  rintro a w ⟨ow,β,hs⟩
  obtain ⟨hl,B,hB1,hB2⟩:=hf
  simp only [RelV] at hB1
  obtain ⟨cs,rfl,hsz,hrel⟩:=hB1
  have hvl:cs.toList.length=cells.length:=by simpa using hsz
  refine h cs.toList hvl (OldL.of (fun _ _ _=>trivial) hvl (fun k hk=>by simp) hn hrel hB2) a w ⟨ow,β,{ size:=hs.size,defers:=hs.defers,kept:=hs.kept,slots:=fun j=>?_,objs:=hs.objs,gone:=hs.gone,own:=hs.own,ios:=hs.ios,fresh:=hs.fresh }⟩
  simp only [eR]
  by_cases hj:k=j
  · subst hj
    rw [if_pos rfl]
    obtain ⟨B',g1,g2,_⟩:=hs.slots k
    simp only [fT hk,RelV] at g1
    obtain ⟨e1,cs',e2,e3,e4⟩:=g1
    rw [e1] at e2;injection e2 with e2;subst e2
    refine ⟨B',?_,g2,by simp⟩
    simp only [RelV]
    rw [e1]
    exact ⟨cs,rfl,by rw [aKG hvl];exact e3,aEh hvl (fun k hk=>by simp) e4⟩
  · rw [if_neg hj];exact hs.slots j
theorem Ent.sleepO (l:Nat) {ws:List PV} {dp:Bool} (ho:loq O l=some ⟨ws,dp,false⟩) (ha:oX ws=true):Ent Γ ⟨S,O⟩ ⟨S,(l,some ⟨ws.map slp,true,false⟩)::O⟩:=by
  rintro a w ⟨ow,β,h⟩
  have ho':lo (Env.mk S O).o l=some ⟨ws,dp,false⟩:=by rw [← dM];exact ho
  refine ⟨ow,β,{ size:=h.size,defers:=h.defers,kept:=h.kept,slots:=h.slots,objs:=fun m ob hm=>?_,gone:=fun m hm=>?_,own:=h.own,ios:=fun m b hm hs=>?_,fresh:=h.fresh }⟩
  · simp only [aZ] at hm
    by_cases hml:l=m
    · subst hml
      rw [if_pos rfl] at hm;cases hm
      obtain ⟨B,o1,o2,o3⟩:=h.objs l _ ho'
      refine ⟨[],by simp,by simp,?_⟩
      rcases o3 with ⟨e1,e2,_⟩ | ⟨b,cs,t,e1,e2,e3,e4⟩
      · simp only at e2;subst e2;exact .inl ⟨e1,rfl,rfl⟩
      · exact .inr ⟨b,cs,t,e1,e2,e3,aLs ha e4⟩
    · rw [if_neg hml] at hm;exact h.objs m ob hm
  · simp only [aZ] at hm
    by_cases hml:l=m
    · rw [if_pos hml] at hm;cases hm
    · rw [if_neg hml] at hm;exact h.gone m hm
  · simp only [aZ] at hs
    by_cases hml:l=m
    · subst hml;exact h.ios l b hm (by rw [ho'];rfl)
    · rw [if_neg hml] at hs;exact h.ios m b hm hs
theorem OldL.wake {ow:Nat→Own} {β:Nat→Option (Option Nat)} {E:Env} {a:Act} {w:World} (h:SimG Γ ow β E a w):∀ {vs:List Value} {ps:List PV} {cs:Array Value} {i:Nat},OldL Γ vs ps→RelL w.heap true dead (vs.map .sc) cs i []→∃ B,RelL w.heap true dead (wz vs ps) cs i B∧∀ b ∈ B,Im Γ ow w b
  | [],[],cs,i,_,_=>⟨[],by simp [wz,RelL],by simp⟩
  | v::vs,p::ps,cs,i,ho,H=>by
    obtain ⟨⟨hl,B1,hB1,hB2⟩,ho⟩:=ho
    simp only [List.map_cons,RelL,RelV] at H
    obtain ⟨c,O1,O2,h1,⟨h2,rfl⟩,h3,h4⟩:=H
    have:O2=[]:=by simpa using h4.symm
    subst this
    obtain ⟨B2,g1,g2⟩:=OldL.wake h ho h3
    refine ⟨B1++B2,?_,fun b hb=>?_⟩
    · simp only [wz,RelL,RelV]
      refine ⟨c,B1,B2,h1,⟨h2,?_⟩,g1,rfl⟩
      rw [h2]
      exact RelV.keep _ _ _ (fun l hl'=>by rw [hl] at hl';cases hl') (fun b hb=>by obtain ⟨_,e2,e3,e4⟩:=hB2 b hb;exact h.kept.old b e2 e4 e3.1) hB1
    · rcases List.mem_append.1 hb with hb | hb
      · obtain ⟨e1,e2,e3,e4⟩:=hB2 b hb
        refine ⟨Nat.lt_of_lt_of_le e2 h.kept.size,.inl e1,fun l e=>?_⟩
        rcases (h.own b (by rw [e];simp)).2 with g | ⟨m,_,g⟩
        · rcases g with (g | g) | g
          · omega
          · exact e3.1 g
          · exact e3.2 g
        · exact e4 m g
      · exact g2 b hb
  | [],_::_,_,_,ho,_=>ho.elim
  | _::_,[],_,_,ho,_=>ho.elim
theorem Ent.wakeO (l:Nat) {vs:List Value} {cells:List PV} {dp:Bool} (ho:loq O l=some ⟨vs.map .sc,dp,false⟩) (hf:OldL Γ vs cells):Ent Γ ⟨S,O⟩ ⟨S,(l,some ⟨wz vs cells,false,false⟩)::O⟩:=by
  rintro a w ⟨ow,β,h⟩
  have ho':lo (Env.mk S O).o l=some ⟨vs.map .sc,dp,false⟩:=by rw [← dM];exact ho
  refine ⟨ow,β,{ size:=h.size,defers:=h.defers,kept:=h.kept,slots:=h.slots,objs:=fun m ob hm=>?_,gone:=fun m hm=>?_,own:=h.own,ios:=fun m b hm hs=>?_,fresh:=h.fresh }⟩
  · simp only [aZ] at hm
    by_cases hml:l=m
    · subst hml
      rw [if_pos rfl] at hm;cases hm
      obtain ⟨B,o1,o2,o3⟩:=h.objs l _ ho'
      rcases o3 with ⟨e1,e2,_⟩ | ⟨b,cs,t,e1,e2,e3,e4⟩
      · have:vs=[]:=by simpa using e2
        subst this
        cases cells with
        | nil=>exact ⟨[],(fun _ h=>by cases h),(fun h=>by cases h),.inl ⟨e1,rfl,rfl⟩⟩
        | cons p r=>exact hf.elim
      · simp only [Bool.false_eq_true,if_false] at e4
        have hB:B=[]:=by
          have:∀ (vs:List Value) (i:Nat) (B:List Nat),RelL w.heap true dead (vs.map .sc) cs i B→B=[]:=by
            intro vs
            induction vs with
            | nil=>intro i B H;simpa [RelL] using H
            | cons v vs ih =>
              intro i B H
              simp only [List.map_cons,RelL,RelV] at H
              obtain ⟨_,_,_,_,⟨_,rfl⟩,h3,rfl⟩:=H
              rw [ih _ _ h3]
          exact this _ _ _ e4
        subst hB
        obtain ⟨B2,g1,g2⟩:=OldL.wake h hf e4
        exact ⟨B2,g2,(fun h=>by cases h),.inr ⟨b,cs,t,e1,e2,e3,by simpa using g1⟩⟩
    · rw [if_neg hml] at hm;exact h.objs m ob hm
  · simp only [aZ] at hm
    by_cases hml:l=m
    · rw [if_pos hml] at hm;cases hm
    · rw [if_neg hml] at hm;exact h.gone m hm
  · simp only [aZ] at hs
    by_cases hml:l=m
    · subst hml;exact h.ios l b hm (by rw [ho'];rfl)
    · rw [if_neg hml] at hs;exact h.ios m b hm hs
end
end Go.Ev
/- The engine, part JJ: rows that become values as they are made. -/
namespace Go.Ev
open Go.RowKit (Below)
section
variable {P:Program} {N:Nat} {Γ:Ctx P N} {S:List (Nat × Slot)} {O:List (Nat × Option Ob)} {ow:Nat→Own} {β:Nat→Option (Option Nat)} {F:Env} {a:Act} {w:World}
theorem Ent.freezeW {k l s n:Nat} {cells:List PV} {dp dp0:Bool} (hk:lkq S k=some ⟨.ref l s 0 n,dp0⟩) (ho:loq O l=some ⟨cells,dp,false⟩) (hio:Γ.io l=none) (hN:Nat.blt k N=true) :
    Ent Γ ⟨S,O⟩ ⟨(k,⟨.rw s n cells,dp⟩)::S,(l,none)::O⟩:=by
  rintro a w ⟨ow,β,h⟩
  obtain ⟨B,h1,_,_⟩:=h.slots k
  rw [fT hk] at h1
  simp only [RelV] at h1
  have ho':lo (Env.mk S O).o l=some ⟨cells,dp,false⟩:=by rw [← dM];exact ho
  obtain ⟨Bo,o1,o2,hob⟩:=h.objs l _ ho'
  have hkN:=(bC _ _).1 hN
  rcases hob with ⟨p1,p2,p3⟩ | ⟨b,cs,t,p1,p2,p3,p4⟩
  · obtain ⟨rfl,_,e⟩:=h1.2.1 p1
    simp only at p2;subst p2;subst p3
    obtain ⟨ow',h'⟩:=h.toSlot ho' hio hkN (v:=.rw s 0 []) (c:=a.tmps.getD k undef) (B:=[]) (dp:=dp) (by simp only [RelV];exact .inl ⟨trivial,trivial,trivial,e⟩) (by simp) (by simp) rfl
    rw [aCr] at h'
    exact ⟨_,_,h'⟩
  · obtain ⟨cap,cs',t',q1,q2,q3,q4⟩:=h1.2.2 b p1
    simp only [Nat.zero_mul] at q1
    rw [p3] at q2;cases q2
    obtain ⟨ow',h'⟩:=h.toSlot ho' hio hkN (v:=.rw s n cells) (c:=a.tmps.getD k undef) (B:=b::Bo) (dp:=dp) (by
        simp only [RelV];exact .inr ⟨b,cap,cs,t,Bo,⟨q1,q4,by simpa using q3⟩,p3,p4,rfl⟩) (fun c hc=>by
        rcases List.mem_cons.1 hc with rfl | hc
        · exact .inr p2
        · exact .inl (o1 c hc)) (fun hx=>by
        obtain ⟨e1,e2⟩:=o2 hx
        refine ⟨List.nodup_cons.2 ⟨fun hb=>(by have:=(e2 b hb).1;rw [p2] at this;cases this),e1⟩,fun c hc=>?_⟩
        rcases List.mem_cons.1 hc with rfl | hc
        · exact ⟨.inr p2,_,_,p3⟩
        · exact ⟨.inl (e2 c hc).1,(e2 c hc).2⟩) rfl
    rw [aCr] at h'
    exact ⟨_,_,h'⟩
theorem aJN {s S:List (Nat × Slot)} {k:Nat} {v:Slot} (h:lkq s k=some v):lkq (s++S) k=some v:=by
  induction s with
  | nil=>cases h
  | cons x r ih =>
    obtain ⟨j,u⟩:=x
    simp only [lkq,List.cons_append] at h ⊢
    cases hb:Nat.beq j k with
    | true=>rw [hb] at h;exact h
    | false=>rw [hb] at h;exact ih h
theorem aJM {s S:List (Nat × Option Ob)} {k:Nat} {v:Ob} (h:loq s k=some v):loq (s++S) k=some v:=by
  induction s with
  | nil=>cases h
  | cons x r ih =>
    obtain ⟨j,u⟩:=x
    simp only [loq,List.cons_append] at h ⊢
    cases hb:Nat.beq j k with
    | true=>rw [hb] at h;exact h
    | false=>rw [hb] at h;exact ih h
theorem Local.frz {o:Oper} {ss:List (Nat × Slot)} {us:List (Nat × Option Ob)} {rs ro nl:List Nat} (k:Nat) {l s n:Nat} {cells:List PV} {dp dp0:Bool} (h:Local Γ o ⟨S,O⟩ ⟨ss,us⟩ rs ro nl) (hk:lkq ss k=some ⟨.ref l s 0 n,dp0⟩) (ho:loq us l=some ⟨cells,dp,false⟩)
    (hio:Γ.io l=none) (hN:Nat.blt k N=true):Local Γ o ⟨S,O⟩ ⟨(k,⟨.rw s n cells,dp⟩)::ss,(l,none)::us⟩ rs ro nl:=by
  intro F h1 h2 h3 a w hsim Q
  exact Oper.wp_mono (fun a' w' h'=>Ent.freezeW (aJN hk) (aJM ho) hio hN a' w' h') (h F h1 h2 h3 a w hsim Q)
theorem Local.frzS {o:Oper} {ss:List (Nat × Slot)} {us:List (Nat × Option Ob)} {rs ro nl:List Nat} (k:Nat) {l s n:Nat} {cells:List PV} {dp dp0:Bool} (h:Local Γ o ⟨S,O⟩ ⟨ss,us⟩ rs ro nl) (hk:lkq ss k=some ⟨.ref l s 0 n,dp0⟩) (ho:loq us l=some ⟨cells,dp,false⟩)
    (hio:Γ.io l=none) (hN:Nat.blt k N=true):Local Γ o ⟨S,O⟩ ⟨(k,⟨.sl n cells,dp⟩)::ss,(l,none)::us⟩ rs ro nl:=by
  intro F h1 h2 h3 a w hsim Q
  exact Oper.wp_mono (fun a' w' h'=>Ent.freeze (aJN hk) (aJM ho) hio hN a' w' h') (h F h1 h2 h3 a w hsim Q)
end
end Go.Ev
/- The engine, part KK: a law's rest, begun anew: what there is by then is old. -/
namespace Go.Ev
open Go.RowKit (Below)
section
variable {P:Program} {N:Nat} {Γ:Ctx P N} {S:List (Nat × Slot)} {O:List (Nat × Option Ob)}
end
end Go.Ev
/- The engine, part LL: rows that grow within a struct. -/
namespace Go.Ev
open Go.RowKit (Below)
section
variable {P:Program} {N:Nat} {Γ:Ctx P N} {S:List (Nat × Slot)} {O:List (Nat × Option Ob)}
theorem Ent.nilCell (l L c s:Nat) {cells:List PV} {dp:Bool} (ho:loq O l=some ⟨cells,dp,true⟩) (hc:cells[c]?=some (.sc (.slice none 0 0))) (hL:tR ⟨S,O⟩ L=false) (hne:Nat.beq l L=false) (hio:Γ.io L=none) :
    Ent Γ ⟨S,O⟩ ⟨S,(l,some ⟨cells.set c (.ref L s 0 0),dp,true⟩)::(L,some ⟨[],true,false⟩)::O⟩:=by
  rintro a w ⟨ow,β,h⟩
  have hnl:=NoLab.of_says hL
  have hne:L≠l:=by rintro rfl;simp at hne
  obtain ⟨ow',h'⟩:=h.layNil hnl hio [] [] true false
  have h2:SimG Γ ow' (fun m=>if m=L then some none else if m ∈ ([]:List Nat) then none else β m) ⟨S,(L,some ⟨[],true,false⟩)::O⟩ a w:=h'.congr (fun _=>rfl) (fun _=>rfl)
  have ho2:loq ((L,some ⟨[],true,false⟩)::O) l=some ⟨cells,dp,true⟩:=by
    simp only [loq,kL,hne,decide_false,cond_false];exact ho
  refine ⟨ow',_,h2.recell ho2 (by rintro rfl;simp at hc) fun cs B H=>?_⟩
  simp only [if_true] at H ⊢
  obtain ⟨v,O1,Oc,O2,q1,q2,q3,q4,q5,rfl⟩:=H.at hc
  simp only [RelV] at q3
  obtain ⟨q3,rfl⟩:=q3
  exact RelL.put hc q1 q2 (by simp only [RelV,if_true];exact ⟨trivial,fun _=>⟨trivial,trivial,q3⟩,fun b e=>by simp at e⟩) q4 q5
theorem Ent.packS (l L c:Nat) {s n:Nat} {cells cs':List PV} {dl dL:Bool} (ho:loq O l=some ⟨cells,dl,true⟩) (hL:loq O L=some ⟨cs',dL,false⟩) (hc:cells[c]?=some (.ref L s 0 n)) (hne:Nat.beq l L=false) (hio:Γ.io L=none) :
    Ent Γ ⟨S,O⟩ ⟨S,(L,none)::(l,some ⟨cells.set c (.sl n cs'),false,true⟩)::O⟩:=by
  classical
  rintro a w ⟨ow,β,h⟩
  have hne:l≠L:=by rintro rfl;simp at hne
  have ho':lo (Env.mk S O).o l=some ⟨cells,dl,true⟩:=by rw [← dM];exact ho
  have hL':lo (Env.mk S O).o L=some ⟨cs',dL,false⟩:=by rw [← dM];exact hL
  obtain ⟨Ol,o1,o2,o3⟩:=h.objs l _ ho'
  obtain ⟨OL,u1,u2,u3⟩:=h.objs L _ hL'
  rcases o3 with ⟨_,e,_⟩ | ⟨b0,cs,t,p1,p2,p3,p4⟩
  · simp only at e;subst e;simp at hc
  simp only [if_true] at p4
  obtain ⟨v,O1,Oc,O2,q1,q2,q3,q4,q5,rfl⟩:=p4.at hc
  simp only [RelV] at q3
  obtain ⟨rfl,q3n,q3s⟩:=q3
  have hrow:∃ (o:Option Nat),β L=some o∧RelV w.heap dead (.sl n cs') v (o.toList++OL)∧∀ b,o=some b→ow b=.lab L∧b < w.heap.size∧Γ.nw b:=by
    rcases u3 with ⟨e1,e2,e3⟩ | ⟨b,cs2,t2,e1,e2,e3,e4⟩
    · refine ⟨none,e1,?_,by simp⟩
      obtain ⟨g1,g2,g3⟩:=q3n e1
      simp only at e2;subst e2;subst e3
      simp only [RelV]
      exact .inl ⟨g1,trivial,by simp,none,0,g3⟩
    · refine ⟨some b,e1,?_,fun b' e=>by cases e;exact ⟨e2,h.block_lt e1,.inl (h.fresh L b e1 hio)⟩⟩
      obtain ⟨cap,cs3,t3,g1,g2,g3,g4⟩:=q3s b e1
      rw [e3] at g2;cases g2
      simp only [RelV]
      exact .inr ⟨b,0,cap,cs2,t2,(0,0),OL,⟨by simpa using g1,g4⟩,e3,by simpa using e4,by simp⟩
  obtain ⟨o,hβo,hrel,hob⟩:=hrow
  let ow':Nat→Own:=fun b=>match ow b with
    | .lab m=>if m=L then .none else .lab m
    | .obj m=>if m=L then .none else .obj m
    | x=>x
  let β':Nat→Option (Option Nat):=fun m=>if m=L then none else β m
  have hβ':∀ m,m≠L→β' m=β m:=fun m hm=>by show (if _ then _ else _)=_;rw [if_neg hm]
  have hβ'L:β' L=none:=by show (if _ then _ else _)=_;rw [if_pos rfl]
  have hlab:∀ b m,ow' b=.lab m→ow b=.lab m∧m≠L:=by
    intro b m e
    have e:(match ow b with | .lab m=>if m=L then Own.none else .lab m | .obj m=>if m=L then .none else .obj m | x=>x)=.lab m:=e
    cases hx:ow b with
    | lab m' =>
      rw [hx] at e;simp only at e
      split at e
      · cases e
      · rename_i hm;cases e;exact ⟨rfl,hm⟩
    | obj m'=>rw [hx] at e;simp only at e;split at e <;> cases e
    | slot k=>rw [hx] at e;cases e
    | none=>rw [hx] at e;cases e
  have hkeepow:∀ b x,ow b=x→x≠.lab L→x≠.obj L→ow' b=x:=by
    intro b x e h1 h2
    show (match ow b with | .lab m=>if m=L then Own.none else .lab m | .obj m=>if m=L then .none else .obj m | x=>x)=x
    rw [e]
    cases x with
    | lab m=>simp only;rw [if_neg (fun e=>h1 (by rw [e]))]
    | obj m=>simp only;rw [if_neg (fun e=>h2 (by rw [e]))]
    | slot k=>rfl
    | none=>rfl
  have hIm:∀ b,Im Γ ow w b→Im Γ ow' w b:=fun b ⟨h1,h2,h3⟩=>⟨h1,h2,fun m e=>h3 m (hlab b m e).1⟩
  have hkeep:∀ m,KeepB w.heap w.heap β β' m:=by
    intro m ob e
    by_cases hm:m=L
    · rw [hm,hβ'L] at e;cases e
    · rw [hβ' m hm] at e;exact ⟨e,fun b _ c t hc=>⟨c,hc,rfl⟩⟩
  refine ⟨ow',β',{ size:=h.size,defers:=h.defers,kept:=h.kept,slots:=fun k=>?_,objs:=fun m ob hm=>?_,gone:=fun m hm=>?_,own:=fun b hb=>?_,ios:=fun m b hm hs=>?_,fresh:=fun m b hm hi=>?_ }⟩
  · obtain ⟨B,g1,g2,g3⟩:=h.slots k
    exact ⟨B,RelV.keep _ _ _ (fun m _=>hkeep m) (fun _ _=>rfl) g1,fun b hb=>hIm b (g2 b hb),fun hd=>⟨(g3 hd).1,fun b hb=>⟨hkeepow b _ ((g3 hd).2 b hb).1 (by simp) (by simp),((g3 hd).2 b hb).2⟩⟩⟩
  · simp only [aZ] at hm
    by_cases hmL:L=m
    · rw [if_pos hmL] at hm;cases hm
    · rw [if_neg hmL] at hm
      by_cases hml:l=m
      · subst hml
        rw [if_pos rfl] at hm;cases hm
        refine ⟨O1++((o.toList++OL)++O2),fun b hb=>?_,(fun h=>by cases h),.inr ⟨b0,cs,t,by rw [hβ' l hne];exact p1,hkeepow b0 _ p2 (fun e=>by injection e with e;exact hne e) (by simp),p3,?_⟩⟩
        · simp only [List.mem_append] at hb
          rcases hb with hb | (hb | hb) | hb
          · exact hIm b (o1 b (by simp [hb]))
          · have e:o=some b:=by simpa using hb
            obtain ⟨g1,g2,g3⟩:=hob b e
            refine ⟨g2,.inr g3,fun m e'=>?_⟩
            obtain ⟨e1,e2⟩:=hlab b m e'
            rw [g1] at e1;injection e1 with e1;exact e2 e1.symm
          · exact hIm b (u1 b hb)
          · exact hIm b (o1 b (by simp [hb]))
        · simp only [if_true]
          refine RelL.put hc q1 q2 (RelV.nolab rfl hrel) ?_ ?_
          · exact RelL.keep _ _ _ _ (fun _ _ m _=>hkeep m) (fun _ _=>rfl) q4
          · exact RelL.keep _ _ _ _ (fun _ _ m _=>hkeep m) (fun _ _=>rfl) q5
      · rw [if_neg hml] at hm
        obtain ⟨B,g1,g2,g3⟩:=h.objs m ob hm
        refine ⟨B,fun b hb=>hIm b (g1 b hb),fun hd=>⟨(g2 hd).1,fun b hb=>⟨hkeepow b _ ((g2 hd).2 b hb).1 (by simp) (fun e=>by injection e with e;exact hmL e.symm),((g2 hd).2 b hb).2⟩⟩,?_⟩
        rcases g3 with ⟨e1,e2,e3⟩ | ⟨b,c1,t1,e1,e2,e3,e4⟩
        · exact .inl ⟨by rw [hβ' m (fun e=>hmL e.symm)];exact e1,e2,e3⟩
        · refine .inr ⟨b,c1,t1,by rw [hβ' m (fun e=>hmL e.symm)];exact e1,hkeepow b _ e2 (fun e=>by injection e with e;exact hmL e.symm) (by simp),e3,?_⟩
          cases hbb:ob.box with
          | false=>rw [hbb] at e4;exact e4
          | true=>rw [hbb] at e4;exact RelL.keep _ _ _ _ (fun _ _ m' _=>hkeep m') (fun _ _=>rfl) e4
  · simp only [aZ] at hm
    by_cases hmL:L=m
    · rw [← hmL];exact hβ'L
    · rw [if_neg hmL] at hm
      by_cases hml:l=m
      · rw [if_pos hml] at hm;cases hm
      · rw [if_neg hml] at hm;rw [hβ' m (fun e=>hmL e.symm)];exact h.gone m hm
  · have hb0:ow b≠.none:=by
      intro e;apply hb
      show (match ow b with | .lab m=>if m=L then Own.none else .lab m | .obj m=>if m=L then .none else .obj m | x=>x)=_
      rw [e]
    obtain ⟨g1,g2⟩:=h.own b hb0
    refine ⟨g1,g2.imp id fun ⟨m,g3,g4⟩=>⟨m,hkeepow b _ g3 (fun e=>by injection e with e;subst e;rw [hio] at g4;cases g4) (by simp),g4⟩⟩
  · have hmL:m≠L:=fun e=>by rw [e,hio] at hm;cases hm
    rw [hβ' m hmL]
    refine h.ios m b hm ?_
    simp only [aZ] at hs
    rw [if_neg (fun e=>hmL e.symm)] at hs
    by_cases hml:l=m
    · subst hml;rw [ho'];rfl
    · rw [if_neg hml] at hs;exact hs
  · by_cases hmL:m=L
    · subst hmL;rw [hβ'L] at hm;cases hm
    · rw [hβ' m hmL] at hm;exact h.fresh m b hm hi
theorem Ent.relenO (l c:Nat) {L s0 n n':Nat} {cells:List PV} {dp bx:Bool} (ho:loq O l=some ⟨cells,dp,bx⟩) (hc:cells[c]?=some (.ref L s0 0 n)) (hn:n=n'):Ent Γ ⟨S,O⟩ ⟨S,(l,some ⟨cells.set c (.ref L s0 0 n'),dp,bx⟩)::O⟩:=by
  subst hn
  have e:cells.set c (.ref L s0 0 n)=cells:=by
    have hl:=(List.getElem?_eq_some_iff.1 hc)
    rw [← hl.2];exact List.set_getElem_self hl.1
  rw [e]
  exact Ent.soften ho (SoftL.refl _)
end
end Go.Ev
/- The engine, part MM: values handed over for good. -/
namespace Go.Ev
open Go.RowKit (Below)
def aBx:List (PV × Bool)→Nat→List (Nat × Slot)
  | [],_=>[]
  | (p,dp)::r,k=>(k,⟨p,dp⟩)::aBx r (k+1)
theorem aFz:∀ (ps:List (PV × Bool)) (i k:Nat),lk (aBx ps i) k=if i≤k∧k - i < ps.length then ⟨(ps.getD (k - i) (.any,false)).1,(ps.getD (k - i) (.any,false)).2⟩ else ⟨.any,false⟩
  | [],i,k=>by simp [aBx,lk]
  | (p,dp)::r,i,k=>by
    rw [aBx,eR,aFz r (i+1) k]
    by_cases h:i=k
    · subst h;simp
    · rw [if_neg h]
      by_cases h2:i+1≤k∧k - (i+1) < r.length
      · rw [if_pos h2,if_pos (by simp;omega)]
        have:k - i=(k - (i+1))+1:=by omega
        rw [this];simp
      · rw [if_neg h2,if_neg (by simp;omega)]
theorem MeetsD.intro {P:Program} {N:Nat} {f:FuncId} {fn:Func} {c:Code} {args:List (PV × Bool)} {r:PV} {rs:Array ResultVar} (hf:P.funcs[f]?=some fn) (hb:fn.body=some c) (hN:fn.ntmps=N) (hrs:fn.results=rs) (hn:Nat.ble args.length N=true)
    (h:∀ Γ:Ctx P N,(∀ l,Nat.blt l 100000=true→Γ.io l=none)→CodeT Γ c ⟨aBx args 0,[]⟩ (aBe Γ rs r true)):MeetsD P f args r:=by
  classical
  intro w cargs ok H ha hH hdis
  obtain ⟨h1,h2⟩:=ha.get
  have hn:=Nat.le_of_ble_eq_true hn
  let Γ:Ctx P N:={ base:=w.heap.size,ok:=ok,io:=fun _=>none,w0:=w,mine:=fun _=>False,lent:=fun b=>∃ k,b ∈ H k }
  have hsz:(cargs++Array.replicate (fn.ntmps - cargs.size) undef).size=N:=by
    have:cargs.size=args.length:=by rw [h1];simp
    simp [this,hN];omega
  refine calls_of_wp hf hb ?_
  let ow:Nat→Own:=fun b=>if hh:∃ k,b ∈ H k then .slot hh.choose else .none
  have how:∀ b k,b ∈ H k→ow b=.slot k:=by
    intro b k e
    have hh:∃ k,b ∈ H k:=⟨k,e⟩
    show (if hh:_ then _ else _)=_
    rw [dif_pos hh,hdis _ _ b hh.choose_spec e]
  have hnl:∀ b l,ow b≠.lab l:=by
    intro b l e
    have e:(if hh:∃ k,b ∈ H k then Own.slot hh.choose else .none)=.lab l:=e
    split at e <;> cases e
  have hsim:Sim Γ ⟨aBx args 0,[]⟩ { tmps:=cargs++Array.replicate (fn.ntmps - cargs.size) undef,defers:=[] } w:=by
    refine ⟨ow,fun _=>none,{ size:=hsz,defers:=rfl,kept:=⟨rfl,rfl,rfl,Nat.le_refl _,fun _ _ _ _=>rfl,fun b _ _ cs t h=>⟨cs,h,rfl⟩⟩,slots:=fun k=>?_,objs:=fun l ob hl=>(by simp [lo] at hl),gone:=fun _ _=>rfl,own:=fun b hb=>?_,ios:=fun l b hl=>(by cases hl),fresh:=fun l b hl=>(by cases hl) }⟩
    · rw [aFz]
      by_cases hk:k < args.length
      · rw [if_pos ⟨Nat.zero_le _,by simpa using hk⟩]
        have e1:args[k]?=some (args.getD k (.any,false)):=by
          rw [List.getElem?_eq_getElem hk,List.getD_eq_getElem?_getD,List.getElem?_eq_getElem hk];rfl
        obtain ⟨B,g1,g2,g3⟩:=h2 k _ _ e1
        rw [Nat.zero_add] at g3
        have e:(cargs++Array.replicate (fn.ntmps - cargs.size) undef).getD k undef=cargs.toList.getD k undef:=by
          have hlt:k < cargs.size:=by rw [h1] at hk;simpa using hk
          simp [Array.getD_eq_getD_getElem?,Array.getElem?_append,hlt,List.getD_eq_getElem?_getD]
        simp only [Nat.sub_zero]
        refine ⟨B,?_,fun b hb=>⟨RelV.below _ _ _ g1 b hb,?_,fun l=>hnl b l⟩,fun hd=>?_⟩
        · rw [e]
          exact RelV.keep _ _ _ (fun l _=>by intro ob h;cases h) (fun _ _=>rfl) g1
        · cases hdp:(args.getD k (.any,false)).2 with
          | false=>exact .inl (g2 hdp b hb)
          | true=>exact .inr (.inr ⟨k,by rw [← g3 hdp];exact hb⟩)
        · have g4:=g3 hd
          subst g4
          exact ⟨(hH k).1,fun b hb=>⟨how b k hb,((hH k).2 b hb).2⟩⟩
      · rw [if_neg (by simpa using hk)]
        exact ⟨[],by simp [RelV],by simp,by simp⟩
    · have hh:∃ k,b ∈ H k:=by
        rcases Classical.em (∃ k,b ∈ H k) with hh | hh
        · exact hh
        · exfalso;apply hb;show (if hh:∃ k,b ∈ H k then Own.slot hh.choose else .none)=_;rw [dif_neg hh]
      obtain ⟨k,hk⟩:=hh
      exact ⟨aHf ((hH k).2 b hk).2,.inl (.inr ⟨k,hk⟩)⟩
  refine wp_mono (h Γ (fun _ _=>rfl) _ _ hsim) fun e a' w' ⟨E',hs',hq⟩=>?_
  have fin:RetIs Γ rs E' r true→a'.defers=[]∧∃ v,(results fn a'.tmps).run P w'=.ok v w'∧∃ c B,Ending.returned v=.returned c∧Below w.heap.size w w'∧RelV w'.heap dead r c B∧B.Nodup∧∀ b ∈ B,fU w' b∧(w.heap.size≤b∨∃ k,b ∈ H k):=by
    intro hr
    obtain ⟨c,B,g1,g2,g3,g4⟩:=hr fn hrs a' w' hs'
    obtain ⟨ow2,β2,hs'⟩:=hs'
    obtain ⟨g5,g6⟩:=g4 rfl
    refine ⟨hs'.defers,c,g1,c,B,rfl,⟨hs'.kept.os,hs'.kept.tape,hs'.kept.output,hs'.kept.size,fun k hk=>hs'.kept.old k hk (fun l=>by simp [Γ]) (fun h=>h)⟩,g2,g5,fun b hb=>⟨(g6 b hb).1,?_⟩⟩
    rcases (g6 b hb).2 with (g | g) | g
    · exact .inl g
    · exact g.elim
    · exact .inr g
  cases e with
  | normal=>exact fin hq
  | ret=>exact fin hq
  | exit id=>exact hq.elim
  | goto l=>exact hq.elim
  | panic ch=>exact hq.elim
  | outgrown=>exact hq.elim
section
variable {P:Program} {N:Nat} {Γ:Ctx P N} {S:List (Nat × Slot)} {O:List (Nat × Option Ob)} {ow:Nat→Own} {β:Nat→Option (Option Nat)} {F:Env} {a:Act} {w:World}
variable {d:Nat} {ty:TypeId} {pos:String} {af:Array Edge} {g:Option (Nat × Bool)}
theorem aFD {f:FuncId} {xs:List Operand} {args:List (PV × Bool)} {k q:Nat} {p r:PV} {dp:Bool} (hsim:SimG Γ ow β F a w) (hk:lk F.s k=⟨p,true⟩) (hm:MeetsD P f args r) (hr:r.labs=[]) (hd:d < N) {Bk:List Nat} (o1:RelV w.heap β p (a.tmps.getD k undef) Bk) (o3:Bk.Nodup∧∀ b ∈ Bk,ow b=.slot k∧fU w b)
    (ha:DArgs w.heap (fun _=>False) (fun j=>if j=q then Bk else []) args (xs.map a.eval) 0) {Q:Exit→Act→World→Prop} :
    Calls P f (xs.map a.eval).toArray w fun e w'=>match e with | .returned c=>Sim Γ (F.app ⟨(d,⟨r,true⟩)::[k].map (fun j=>(j,⟨.any,false⟩)),[]⟩) (a.put (some d) c) w' | _=>False:=by
  obtain ⟨n1,n2⟩:=o3
  refine (hm w (xs.map a.eval).toArray (fun _=>False) (fun j=>if j=q then Bk else []) (by simpa using ha) (fun j=>?_) (fun j j' b hb hb'=>?_)).mono fun e w' ⟨c,B,he,hbel,h1,h2,h3⟩=>?_
  · by_cases hj:j=q
    · rw [if_pos hj];exact ⟨n1,fun b hb=>⟨fun h=>h,(n2 b hb).2⟩⟩
    · rw [if_neg hj];exact ⟨by simp,by simp⟩
  · by_cases hj:j=q
    · by_cases hj':j'=q
      · rw [hj,hj']
      · simp only [if_neg hj'] at hb';cases hb'
    · simp only [if_neg hj] at hb;cases hb
  · subst he
    have hg:=hsim.grow hbel
    have hB:∀ b ∈ B,Im Γ ow w' b:=by
      intro b hb
      have hlt:=RelV.below _ _ _ h1 b hb
      rcases (h3 b hb).2 with e | ⟨j,e⟩
      · exact ⟨hlt,.inr (.inl (.inl (Nat.le_trans hsim.kept.size e))),fun l e'=>by have:=(hsim.own b (by rw [e'];simp)).1;omega⟩
      · by_cases hj:j=q
        · rw [if_pos hj] at e
          obtain ⟨e1,e2⟩:=n2 b e
          refine ⟨hlt,?_,fun l e'=>by rw [e1] at e';cases e'⟩
          rcases (hsim.own b (by rw [e1];simp)).2 with g | ⟨m,g,_⟩
          · exact .inr g
          · rw [e1] at g;cases g
        · rw [if_neg hj] at e;cases e
    have hD:∀ b ∈ B,fU w' b∧Γ.nw b∧(ow b=.none∨∃ k' ∈ [k],ow b=.slot k'):=by
      intro b hb
      refine ⟨(h3 b hb).1,?_⟩
      rcases (h3 b hb).2 with e | ⟨j,e⟩
      · refine ⟨.inl (.inl (Nat.le_trans hsim.kept.size e)),.inl ?_⟩
        cases hx:ow b with
        | none=>rfl
        | _=>have:=(hsim.own b (by rw [hx];simp)).1;omega
      · by_cases hj:j=q
        · rw [if_pos hj] at e
          obtain ⟨e1,_⟩:=n2 b e
          refine ⟨?_,.inr ⟨k,by simp,e1⟩⟩
          rcases (hsim.own b (by rw [e1];simp)).2 with g | ⟨m,g,_⟩
          · exact g
          · rw [e1] at g;cases g
        · rw [if_neg hj] at e;cases e
    obtain ⟨ow',h'⟩:=hg.gather (d:=d) hd [k] (v:=r) (c:=c) (B:=B) (dp:=true) (RelV.nolab hr h1) hB (fun _=>⟨h2,hD⟩)
    exact ⟨ow',β,h'⟩
theorem aLQ {f:FuncId} [hfc:FnC P f] {k:Nat} {tus:Array TypeId} {p r:PV} (hk:lkq S k=some ⟨p,true⟩) (hl:p.labs=[]) (hm:MeetsD P f [(p,true)] r) (hr:r.labs=[]) (hd:Nat.blt d N=true) :
    Local Γ ⟨some d,.call ⟨.value (.func f),#[.tmp k],tus⟩,ty,pos,af,g⟩ ⟨S,O⟩ ⟨[(d,⟨r,true⟩),(k,⟨.any,false⟩)],[]⟩ [k] [] []:=by
  intro F hs _ _ a w ⟨ow,β,hsim⟩ Q
  have hkF:lk F.s k=⟨p,true⟩:=by rw [hs k (by simp),fT hk]
  obtain ⟨Bk,o1,_,o3⟩:=hsim.slots k
  rw [hkF] at o1 o3
  unfold Oper.wp
  have hrun:(execOp a.eval ⟨some d,.call ⟨.value (.func f),#[.tmp k],tus⟩,ty,pos,af,g⟩).run P w=.ok (.enter f #[a.eval (.tmp k)]) w:=by
    simp [execOp,resolve,Act.eval,Deferred.ofValue,invoke,hfc.run]
  rw [hrun]
  show Calls _ _ _ _ _
  refine (aFD (xs:=[.tmp k]) (q:=0) hsim hkF hm hr ((bC _ _).1 hd) (dp:=true) o1 (o3 rfl) ⟨?_,trivial⟩ (Q:=Q)).mono fun e w' h=>?_
  · simp only [if_true];exact RelV.nolab hl o1
  · cases e with
    | returned c=>exact h
    | _=>exact h.elim
theorem aLP {f:FuncId} [hfc:FnC P f] {k:Nat} {y:Operand} {tus:Array TypeId} {p0 p r:PV} (hy:evq S y=some p0) (hn0:oW p0=true) (hl0:p0.labs=[]) (hk:lkq S k=some ⟨p,true⟩) (hl:p.labs=[]) (hm:MeetsD P f [(p0,false),(p,true)] r) (hr:r.labs=[]) (hd:Nat.blt d N=true) :
    Local Γ ⟨some d,.call ⟨.value (.func f),#[y,.tmp k],tus⟩,ty,pos,af,g⟩ ⟨S,O⟩ ⟨[(d,⟨r,true⟩),(k,⟨.any,false⟩)],[]⟩ (ors y++[k]) [] []:=by
  intro F hs _ _ a w ⟨ow,β,hsim⟩ Q
  have hkF:lk F.s k=⟨p,true⟩:=by rw [hs k (by simp),fT hk]
  obtain ⟨Bk,o1,_,o3⟩:=hsim.slots k
  rw [hkF] at o1 o3
  obtain ⟨By,y1,y2⟩:=dN hsim hy (fun j hj=>hs j (by simp [hj]))
  have:=pT _ hn0 y1
  subst this
  unfold Oper.wp
  have hrun:(execOp a.eval ⟨some d,.call ⟨.value (.func f),#[y,.tmp k],tus⟩,ty,pos,af,g⟩).run P w=.ok (.enter f #[a.eval y,a.eval (.tmp k)]) w:=by
    simp [execOp,resolve,Act.eval,Deferred.ofValue,invoke,hfc.run]
  rw [hrun]
  show Calls _ _ _ _ _
  refine (aFD (xs:=[y,.tmp k]) (q:=1) hsim hkF hm hr ((bC _ _).1 hd) (dp:=true) o1 (o3 rfl) ⟨⟨[],RelV.nolab hl0 y1,by simp⟩,?_,trivial⟩ (Q:=Q)).mono fun e w' h=>?_
  · simp only [Nat.zero_add,if_true];exact RelV.nolab hl o1
  · cases e with
    | returned c=>exact h
    | _=>exact h.elim
theorem aMO {α:Type} {s:Nat} {hi:Option Operand} {t e n by_:Nat} {agg:Bool} {l r:List α} {enc:α→List PV} {j:Int} {len:Nat} [ht:SlT P t e] [hi':TI P e n agg by_] (hx:lkq S s=some ⟨.rw n len (l.flatMap enc),true⟩) (hlen:len=l.length)
    (hhi:wA S len hi=some j) (h:sub l 0 j=some r) (hsz:∀ y,(enc y).length=n) (hnl:∀ y,nI (enc y)=true) (hd:Nat.blt d N=true) :
    Local Γ ⟨some d,.slice t (.tmp s) none hi none,ty,pos,af,g⟩ ⟨S,O⟩ ⟨[(d,⟨.rw n r.length (r.flatMap enc),true⟩),(s,⟨.any,false⟩)],[]⟩ ([s]++aG3 hi) [] []:=by
  intro F hs _ _
  refine bU fun a w hsim0=>?_
  obtain ⟨hb,hr⟩:=aNw h
  subst hlen
  have hbd:=fun isS cap hc=>aEF (lo:=none) (i:=0) hsim0 isS l.length cap hc rfl hhi (fun k hk=>by simp [aG3] at hk) (fun k hk=>hs k (by simp [hk])) hb
  obtain ⟨ow,β,hsim⟩:=hsim0
  have hkF:lk F.s s=⟨.rw n l.length (l.flatMap enc),true⟩:=by rw [hs s (by simp),fT hx]
  obtain ⟨B,h1,h2,h3⟩:=hsim.slots s
  rw [hkF] at h1 h3
  obtain ⟨nd,h3⟩:=h3 rfl
  simp only [RelV] at h1
  have hr':r=l.take j.toNat:=by rw [hr];simp
  have run:∀ (ad:Option Addr) (cap:Nat),a.eval (.tmp s)=.slice ad l.length cap→l.length≤cap→(Instr.sliceAt t (a.eval (.tmp s)) none (hi.map a.eval) none).run P w=.ok (.slice (if cap=0 then ad else ad.map (·.add 0)) j.toNat cap) w:=by
    intro ad cap e1 hc
    rw [e1]
    have:=hbd true cap hc
    simp only [Option.map_none] at this
    simp [Instr.sliceAt,Instr.slice,run_underlying ht.ok,this,aED (e:=e) (n:=n)]
  have hval:a.eval (.tmp s)=a.tmps.getD s undef:=rfl
  rcases h1 with ⟨e0,_,_,e1⟩ | ⟨b,cap,cs,u,B',⟨e1,hc,hcap⟩,e2,e3,rfl⟩
  · rw [← hval] at e1
    have e1':a.eval (.tmp s)=.slice none l.length 0:=by rw [e1,e0]
    have hj:j.toNat=0:=by omega
    have hr0:r=[]:=by rw [hr',hj];simp
    subst hr0
    obtain ⟨ow',h'⟩:=hsim.gather (d:=d) ((bC _ _).1 hd) [s] (v:=.rw n 0 []) (c:=.slice none 0 0) (B:=[]) (dp:=true) (by simp only [RelV];exact .inl ⟨trivial,trivial,trivial,trivial⟩) (by simp) (fun _=>⟨by simp,by simp⟩)
    refine ⟨.slice none 0 0,w,?_,ow',β,h'⟩
    simp only [execOp,Option.map_none]
    rw [Sem.run_bind,run none 0 e1' (by omega)]
    simp [hj,Result.andThen]
  · rw [← hval] at e1
    have hsplit:l.flatMap enc=r.flatMap enc++(l.drop j.toNat).flatMap enc:=by rw [hr',← List.flatMap_append,List.take_append_drop]
    rw [hsplit] at e3
    obtain ⟨O1,O2,q1,q2,rfl⟩:=(RelL.append _ _ _ _ _).1 e3
    have nd1:=List.nodup_cons.1 nd
    have nd2:=List.nodup_append.1 nd1.2
    have hrl:r.length=j.toNat:=by rw [hr',List.length_take];omega
    obtain ⟨ow',h'⟩:=hsim.gather (d:=d) ((bC _ _).1 hd) [s] (v:=.rw n r.length (r.flatMap enc)) (c:=.slice (some ⟨b,0,none⟩) r.length cap) (B:=b::O1) (dp:=true) (by
        simp only [RelV];exact .inr ⟨b,cap,cs,u,O1,⟨rfl,by omega,hcap⟩,e2,q1,rfl⟩)
      (fun c hc=>h2 c (by rcases List.mem_cons.1 hc with rfl | hc;simp;simp [hc]))
      (fun _=>⟨List.nodup_cons.2 ⟨fun hb'=>nd1.1 (by simp [hb']),nd2.1⟩,fun c hc=>by
        have hm:c ∈ b::(O1++O2):=by rcases List.mem_cons.1 hc with rfl | hc;simp;simp [hc]
        obtain ⟨g1,g2⟩:=h3 c hm
        refine ⟨g2,?_,.inr ⟨s,by simp,g1⟩⟩
        rcases (hsim.own c (by rw [g1];simp)).2 with g | ⟨m,g,_⟩
        · exact g
        · rw [g1] at g;cases g⟩)
    refine ⟨.slice (some ⟨b,0,none⟩) r.length cap,w,?_,ow',β,h'⟩
    simp only [execOp,Option.map_none]
    rw [Sem.run_bind,run (some ⟨b,0,none⟩) cap e1 hc,hrl]
    simp [Result.andThen,Addr.add]
theorem RelL.atQ {h:Array Obj} {q:Bool} {β:Nat→Option (Option Nat)}:∀ {vs:List PV} {cs:Array Value} {i:Nat} {O:List Nat} {k:Nat} {p:PV},RelL h q β vs cs i O→vs[k]?=some p→∃ v O1 Oc O2,cs[i+k]?=some v∧RelV h β p v Oc∧O=O1++(Oc++O2)∧RelL h q β (vs.set k .any) cs i (O1++O2)
  | [],_,_,_,_,_,_,hk=>by simp at hk
  | p0::vs,cs,i,O,k,p,H,hk=>by
    simp only [RelL] at H
    obtain ⟨c,B1,B2,h1,h2,h3,rfl⟩:=H
    cases k with
    | zero =>
      simp at hk;subst hk
      refine ⟨c,[],B1,B2,by simpa using h1.1,h2,by simp,?_⟩
      simp only [List.set_cons_zero,RelL,RelV,List.nil_append]
      exact ⟨c,[],B2,h1,rfl,h3,rfl⟩
    | succ k =>
      obtain ⟨v,O1,Oc,O2,g1,g2,g3,g4⟩:=RelL.atQ h3 (by simpa using hk)
      refine ⟨v,B1++O1,Oc,O2,by rw [← g1];congr 1;omega,g2,by rw [g3];simp,?_⟩
      simp only [List.set_cons_succ,RelL]
      exact ⟨c,B1,O1++O2,h1,h2,g4,by simp⟩
theorem aNo {s i:Nat} {vs:List PV} {p:PV} (hx:lkq S s=some ⟨.tup vs,true⟩) (hp:vs[i]?=some p) (hl:p.labs=[]) (hne:Nat.beq s d=false) (hd:Nat.blt d N=true) :
    Local Γ ⟨some d,.extract (.tmp s) i,ty,pos,af,g⟩ ⟨S,O⟩ ⟨[(d,⟨p,true⟩),(s,⟨.tup (vs.set i .any),true⟩)],[]⟩ [s] [] []:=by
  classical
  intro F hs _ _
  refine bU fun a w ⟨ow,β,h⟩=>?_
  have hne:s≠d:=by rintro rfl;simp at hne
  have hdN:=(bC _ _).1 hd
  obtain ⟨O0,hv,hO,hdp⟩:=h.slots s
  rw [hs s (by simp),fT hx] at hv hdp
  obtain ⟨nd,hdp⟩:=hdp rfl
  simp only [RelV] at hv
  obtain ⟨cs,e1,e2,e3⟩:=hv
  obtain ⟨v,O1,Oc,O2,g1,g2,rfl,g4⟩:=e3.atQ hp
  rw [Nat.zero_add] at g1
  have nd1:=List.nodup_append.1 nd
  have nd2:=List.nodup_append.1 nd1.2.1
  let ow':Nat→Own:=fun b=>if b ∈ Oc then .slot d else ow b
  have hIm:∀ b,Im Γ ow w b→Im Γ ow' w b:=by
    intro b ⟨h1,h2,h3⟩
    refine ⟨h1,h2,fun l=>?_⟩
    show (if _ then _ else _)≠_
    split
    · simp
    · exact h3 l
  have hoc:∀ b ∈ Oc,ow b=.slot s:=fun b hb=>(hdp b (by simp [hb])).1
  have hkp:∀ b x,ow b=x→x≠.slot s→ow' b=x:=by
    intro b x e hx
    show (if _ then _ else _)=_
    rw [if_neg (fun hb=>hx (by rw [← e];exact hoc b hb))];exact e
  have hval:a.eval (.tmp s)=.tuple cs:=e1
  refine ⟨v,w,by simp [execOp,hval,Instr.extract,g1],ow',β,{ size:=by simp [Act.put,h.size],defers:=by simp [Act.put,h.defers],kept:=h.kept,slots:=fun k=>?_,objs:=fun l ob hl=>?_,gone:=by simpa [Env.app] using h.gone,own:=fun b hb=>?_,ios:=by simpa [Env.app] using h.ios,fresh:=h.fresh }⟩
  · simp only [Env.app,List.cons_append,List.nil_append,eR,Act.put]
    by_cases hk:d=k
    · subst hk
      rw [if_pos rfl,lS (by rw [h.size];exact hdN)]
      exact ⟨Oc,g2,fun b hb=>hIm b (hO b (by simp [hb])),fun _=>⟨nd2.1,fun b hb=>⟨by show (if _ then _ else _)=_;rw [if_pos hb],(hdp b (by simp [hb])).2⟩⟩⟩
    · rw [if_neg hk,tH hk]
      by_cases hks:s=k
      · subst hks
        rw [if_pos rfl]
        refine ⟨O1++O2,?_,fun b hb=>hIm b (hO b (by rcases List.mem_append.1 hb with hb | hb <;> simp [hb])),fun _=>⟨?_,fun b hb=>⟨?_,(hdp b (by rcases List.mem_append.1 hb with hb | hb <;> simp [hb])).2⟩⟩⟩
        · rw [e1]
          simp only [RelV]
          exact ⟨cs,rfl,by simpa using e2,g4⟩
        · exact List.nodup_append.2 ⟨nd1.1,nd2.2.1,fun x hx y hy=>nd1.2.2 x hx y (by simp [hy])⟩
        · show (if _ then _ else _)=_
          rw [if_neg]
          · exact (hdp b (by rcases List.mem_append.1 hb with hb | hb <;> simp [hb])).1
          · intro hc
            rcases List.mem_append.1 hb with hb | hb
            · exact nd1.2.2 b hb b (by simp [hc]) rfl
            · exact nd2.2.2 b hc b hb rfl
      · rw [if_neg hks]
        obtain ⟨O',q1,q2,q3⟩:=h.slots k
        exact ⟨O',q1,fun b hb=>hIm b (q2 b hb),fun hx=>⟨(q3 hx).1,fun b hb=>⟨hkp b _ ((q3 hx).2 b hb).1 (by intro e;injection e with e;exact hks e.symm),((q3 hx).2 b hb).2⟩⟩⟩
  · simp only [Env.app,List.nil_append] at hl
    obtain ⟨O',q1,q2,q3⟩:=h.objs l ob hl
    refine ⟨O',fun b hb=>hIm b (q1 b hb),fun hx=>⟨(q2 hx).1,fun b hb=>⟨hkp b _ ((q2 hx).2 b hb).1 (by simp),((q2 hx).2 b hb).2⟩⟩,?_⟩
    rcases q3 with q3 | ⟨b,cs,t,r1,r2,r3,r4⟩
    · exact .inl q3
    · exact .inr ⟨b,cs,t,r1,hkp b _ r2 (by simp),r3,r4⟩
  · by_cases hb':b ∈ Oc
    · have e:=hoc b hb'
      obtain ⟨q1,q2⟩:=h.own b (by rw [e];simp)
      refine ⟨q1,.inl ?_⟩
      rcases q2 with q | ⟨m,q,_⟩
      · exact q
      · rw [e] at q;cases q
    · have e:ow' b=ow b:=by show (if _ then _ else _)=_;rw [if_neg hb']
      rw [e] at hb
      obtain ⟨q1,q2⟩:=h.own b hb
      exact ⟨q1,by rw [e];exact q2⟩
end
end Go.Ev
/- The engine, part NN: the first change of a rule that makes several, softened. -/
namespace Go.Ev
section
variable {P:Program} {N:Nat} {Γ:Ctx P N} {S:List (Nat × Slot)} {O:List (Nat × Option Ob)}
theorem Local.softC {o:Oper} {d:Nat} {p p':PV} {dp:Bool} {ss:List (Nat × Slot)} {us:List (Nat × Option Ob)} {rs ro nl:List Nat} (hs:Soft p p') (h:Local Γ o ⟨S,O⟩ ⟨(d,⟨p,dp⟩)::ss,us⟩ rs ro nl):Local Γ o ⟨S,O⟩ ⟨(d,⟨p',dp⟩)::ss,us⟩ rs ro nl:=by
  intro F h1 h2 h3 a w hsim Q
  refine Oper.wp_mono ?_ (h F h1 h2 h3 a w hsim Q)
  rintro a' w' ⟨ow,β,h'⟩
  refine ⟨ow,β,{ size:=h'.size,defers:=h'.defers,kept:=h'.kept,slots:=fun j=>?_,objs:=h'.objs,gone:=h'.gone,own:=h'.own,ios:=h'.ios,fresh:=h'.fresh }⟩
  obtain ⟨B,g1,g2,g3⟩:=h'.slots j
  simp only [Env.app,List.cons_append,List.nil_append,eR] at g1 g3 ⊢
  by_cases hj:d=j
  · rw [if_pos hj] at g1 g3 ⊢
    exact ⟨B,hs _ _ _ _ g1,g2,g3⟩
  · rw [if_neg hj] at g1 g3 ⊢
    exact ⟨B,g1,g2,g3⟩
end
end Go.Ev
/- The engine, part OO: short forms: a rule and the step that uses it in one (printed by mkoo.py). -/
namespace Go.Ev
section
variable {P:Program} {N:Nat} {Γ:Ctx P N} {S S':List (Nat × Slot)} {O O':List (Nat × Option Ob)}
theorem dn {ops:List Oper} {X:List Item→Prop} {Q:Env→Prop} {acc:List Item} {E:Env} (h:Q E):Run Γ ops (fun items E'=>(false=true→X items)∧Q E') [] acc E:=.done ⟨fun h=>Bool.noConfusion h,h⟩
theorem sq {x y:Code} {E:Env} {Q:Exit→Env→Prop} (h:CodeT Γ x E (wW (fun E'=>CodeT Γ y E' Q) Q)):CodeT Γ (.seq x y) E Q:=CodeT.seq h
def aGc (S:List (Nat × Slot)):List (Nat × Slot)→List (Option PV)
  | []=>[]
  | (k,_)::r=>(lkq S k).map (·.v)::aGc S r
def aGb (ρ:List (Nat × Nat)):List (Nat × Slot)→List (Option PV)
  | []=>[]
  | (_,sl)::r=>some (aL9 ρ sl.v)::aGb ρ r
def aGx (S:List (Nat × Slot)):List (Nat × Slot)→Bool
  | []=>true
  | (k,sl)::r=>(match sl.deep with | true=>(match lkq S k with | some s=>s.deep | none=>false) | false=>true)&&aGx S r
theorem EntS.fast {ρ:List (Nat × Nat)}:∀ {S':List (Nat × Slot)},aGc S S'=aGb ρ S'→aGx S S'=true→EntS ρ S S'
  | [],_,_=>trivial
  | (k,sl)::r,h1,h2=>by
    simp only [aGc,aGb,List.cons.injEq] at h1
    simp only [aGx,Bool.and_eq_true] at h2
    refine ⟨?_,EntS.fast h1.2 h2.2⟩
    cases hs:lkq S k with
    | none=>rw [hs] at h1;simp at h1
    | some s =>
      rw [hs] at h1 h2
      refine ⟨s.deep,?_,fun hd=>?_⟩
      · have:=h1.1;simp only [Option.map_some,Option.some.injEq] at this;rw [← this]
      · have:=h2.1;rw [hd] at this;simpa using this
def aDq (ρ:List (Nat × Nat)) (O:List (Nat × Option Ob)):List (Nat × Option Ob)→List (Option (List PV × Bool))
  | []=>[]
  | (_,none)::r=>aDq ρ O r
  | (l,some _)::r=>(loq O (rn ρ l)).map (fun o=>(o.cells,o.box))::aDq ρ O r
def aDp (ρ:List (Nat × Nat)):List (Nat × Option Ob)→List (Option (List PV × Bool))
  | []=>[]
  | (_,none)::r=>aDp ρ r
  | (_,some ob)::r=>some (match ob.box with | true=>aJ7 ρ ob.cells | false=>ob.cells,ob.box)::aDp ρ r
def aDC (ρ:List (Nat × Nat)) (O:List (Nat × Option Ob)):List (Nat × Option Ob)→Bool
  | []=>true
  | (_,none)::r=>aDC ρ O r
  | (l,some ob)::r=>(match ob.deep with | true=>(match loq O (rn ρ l) with | some o=>o.deep | none=>false) | false=>true)&&aDC ρ O r
theorem EntO.fast {ρ:List (Nat × Nat)}:∀ {O':List (Nat × Option Ob)},aDq ρ O O'=aDp ρ O'→aDC ρ O O'=true→EntO ρ O O'
  | [],_,_=>trivial
  | (_,none)::r,h1,h2=>by
    simp only [aDq,aDp] at h1
    simp only [aDC] at h2
    simp only [EntO]
    exact EntO.fast h1 h2
  | (l,some ob)::r,h1,h2=>by
    simp only [aDq,aDp,List.cons.injEq] at h1
    simp only [aDC,Bool.and_eq_true] at h2
    simp only [EntO]
    refine ⟨?_,EntO.fast h1.2 h2.2⟩
    cases hs:loq O (rn ρ l) with
    | none=>rw [hs] at h1;simp at h1
    | some o =>
      rw [hs] at h1 h2
      have h3:=h1.1
      simp only [Option.map_some,Option.some.injEq,Prod.mk.injEq] at h3
      refine ⟨o.deep,?_,fun hd=>?_⟩
      · obtain ⟨c1,c2⟩:=h3
        cases o;simp only [] at c1 c2 ⊢
        rw [c1,c2];cases ob.box <;> rfl
      · have:=h2.1;rw [hd] at this;simpa using this
theorem el (ρ:List (Nat × Nat)) (hio:∀ l,Γ.io (rn ρ l)=Γ.io l∧(Γ.io l≠none→rn ρ l=l)) (hi:aFk ρ (zL O')=true) (h1:aGc S S'=aGb ρ S') (h2:aGx S S'=true) (h3:aDq ρ O O'=aDp ρ O') (h4:aDC ρ O O'=true):Ent Γ ⟨S,O⟩ ⟨S',O'⟩ :=
  Ent.list ρ hio hi (EntS.fast h1 h2) (EntO.fast h3 h4)
variable {d:Nat} {ty:TypeId} {pos:String} {af:Array Edge} {g:Option (Nat × Bool)}
variable {x y:Operand} {u u':TypeId} {k:IntKind} {m n r:Int}
variable {ops rest:List Oper} {K:List Item→Env→Prop} {acc:List Item} {gs:List Nat}
def aIH (c:PV):Bool:=match c.labs with | []=>true | _=>false
theorem aHH {bx:Bool} {c:PV} (h:(bx||aIH c)=true):bx=true∨c.labs=[]:=by
  cases bx with
  | true=>exact .inl rfl
  | false =>
    right
    simp only [Bool.false_or,aIH] at h
    split at h
    · assumption
    · cases h
end
end Go.Ev
/- The engine, part PP: a drawn region in which one pair of operations is not ordered (printed by mkpp.py). -/
namespace Go.Ev
def exm (p q:Nat) (l:List Nat):List Nat:=l.set q (l.getD q 0 ||| 2 ^ p)
theorem aJU {p q i j:Nat} {l:List Nat} (h:¬(i=q∧j=p)):((exm p q l).getD i 0).testBit j=(l.getD i 0).testBit j:=by
  unfold exm
  by_cases hi:i=q
  · subst hi
    have hj:j≠p:=fun e=>h ⟨rfl,e⟩
    simp only [List.getD_eq_getElem?_getD]
    by_cases hl:i < l.length
    · rw [List.getElem?_set_self hl,Option.getD_some,Nat.testBit_or,Nat.testBit_two_pow_of_ne (Ne.symm hj),Bool.or_false]
    · rw [List.getElem?_eq_none (by simp;omega),List.getElem?_eq_none (by omega)]
  · simp only [List.getD_eq_getElem?_getD]
    rw [List.getElem?_set_ne (fun e=>hi e.symm)]
def XOk {P:Program} {N:Nat} (Γ:Ctx P N) (ops:Array Oper) (items:List Item) (E0:Env) (p q:Nat):Prop :=
  ∃ x y,items[q]?=some x∧items[p]?=some y∧p < q∧uJ x y=false∧x.nl=[]∧y.nl=[]∧qY Γ ops q (pt (fun j=>Nat.blt j q&&!(Nat.beq j p)) items 0 E0) x.e x.rs x.ro x.nl
theorem XOk.intro {P:Program} {N:Nat} {Γ:Ctx P N} {ops:Array Oper} {items:List Item} {E0:Env} {p q:Nat} {x y:Item} {o:Oper} (h1:items[q]?=some x) (h2:items[p]?=some y) (h3:Nat.blt p q=true) (h4:uJ x y=false) (h5:x.nl=[]) (h6:y.nl=[])
    (ho:ops[q]?=some o) (hg:o.guard=none) (hl:Local Γ o ⟨(pt (fun j=>Nat.blt j q&&!(Nat.beq j p)) items 0 E0).s,(pt (fun j=>Nat.blt j q&&!(Nat.beq j p)) items 0 E0).o⟩ x.e x.rs x.ro x.nl):XOk Γ ops items E0 p q :=
  ⟨x,y,h1,h2,(bC _ _).1 h3,h4,h5,h6,Local.at ho hg hl⟩
theorem aHE {P:Program} {N:Nat} {Γ:Ctx P N} {ops:Array Oper} {items:List Item} {E0:Env} {p q:Nat} {Q:Exit→Act→World→Prop}
    (hlen:items.length=ops.size) (hch:aFP Γ ops items E0) (hdep:vG (exm p q (xI ops.toList [])) items items 0=true) (hed:qX ops.toList 0=true) (hX:XOk Γ ops items E0 p q)
    (hQ:∀ a w,Sim Γ (pt (fun _=>true) items 0 E0) a w→Q .normal a w) :
    ∀ (fuel:Nat) (listed:Array Bool) (a:Act) (w:World),listed.size=ops.size→((List.range ops.size).filter fun j=>!listed.getD j false).length≤fuel →
      (∀ i j,listed.getD i false=true→((xI ops.toList []).getD i 0).testBit j=true→listed.getD j false=true) →
      Sim Γ (pt (fun j=>listed.getD j false) items 0 E0) a w→wpAny P .any ops Q fuel listed a w:=by
  have hend:∀ (listed:Array Bool) (a:Act) (w:World),listed.size=ops.size→Region.ready .any ops listed=[]→Sim Γ (pt (fun j=>listed.getD j false) items 0 E0) a w→Q .normal a w:=by
    intro listed a w hsz hr hs
    have hall:∀ i,i < ops.size→listed.getD i false=true:=by
      intro i
      induction i using Nat.strongRecOn with
      | _ i ih =>
        intro hi
        cases hx:listed.getD i false with
        | true=>rfl
        | false =>
          exfalso
          have hm:i ∈ Region.ready .any ops listed:=by
            rw [mem_ready]
            have ho:ops[i]?=some ops[i]:=Array.getElem?_eq_getElem hi
            refine ⟨?_,ops[i],ho,fun e he hb=>?_⟩
            · simp only [Array.getD_eq_getD_getElem?] at hx ⊢
              rw [Array.getElem?_eq_getElem (by omega)] at hx ⊢;simpa using hx
            · have hlt:=aAo hed i ops[i] (by simp) e he hb
              rw [Nat.zero_add] at hlt
              exact ih e.on hlt (by omega)
          rw [hr] at hm;cases hm
    refine hQ a w (hs.congr (fun k=>?_) (fun l=>?_))
    · refine aCt items 0 E0 E0 (fun j x hx _=>?_) rfl
      have:j < ops.size:=by rw [← hlen];exact (List.getElem?_eq_some_iff.1 hx).1
      simp only [Nat.zero_add];rw [hall j this]
    · refine aCs items 0 E0 E0 (fun j x hx _=>?_) rfl
      have:j < ops.size:=by rw [← hlen];exact (List.getElem?_eq_some_iff.1 hx).1
      simp only [Nat.zero_add];rw [hall j this]
  intro fuel
  induction fuel with
  | zero =>
    intro listed a w hsz hc _ hs
    have hr:Region.ready .any ops listed=[]:=by
      rw [List.eq_nil_iff_forall_not_mem]
      intro i hi
      obtain ⟨h1,o,ho,_⟩:=mem_ready.1 hi
      have hi':i < ops.size:=(Array.getElem?_eq_some_iff.1 ho).1
      have:i ∈ (List.range ops.size).filter fun j=>!listed.getD j false:=by
        rw [List.mem_filter]
        refine ⟨List.mem_range.2 hi',?_⟩
        simp only [Array.getD_eq_getD_getElem?] at h1 ⊢
        rw [Array.getElem?_eq_getElem (by omega)] at h1 ⊢;simpa using h1
      rw [List.length_eq_zero_iff.1 (Nat.le_zero.1 hc)] at this;cases this
    exact ⟨hr,hend listed a w hsz hr hs⟩
  | succ fuel ih =>
    intro listed a w hsz hc hcl hs
    refine ⟨fun hr=>hend listed a w hsz hr hs,fun i hi=>?_⟩
    obtain ⟨h1,o,ho,hedges⟩:=mem_ready.1 hi
    have hi':i < ops.size:=(Array.getElem?_eq_some_iff.1 ho).1
    have hun:listed.getD i false=false:=by
      simp only [Array.getD_eq_getD_getElem?] at h1 ⊢
      rw [Array.getElem?_eq_getElem (by omega)] at h1 ⊢;simpa using h1
    obtain ⟨x,hx⟩:∃ x,items[i]?=some x:=⟨items[i]'(by omega),by simp⟩
    have hol:ops.toList[i]?=some o:=by simpa using ho
    have hanc:∀ j,((xI ops.toList []).getD i 0).testBit j=true→listed.getD j false=true:=by
      intro j hj
      obtain ⟨e,he,hb,h2⟩:=aFH hol hj
      have h3:=hedges e he hb
      rcases h2 with rfl | h2
      · exact h3
      · exact hcl _ j h3 h2
    obtain ⟨xq,xp,q1,q2,hpq,q4,q5,q6,q7⟩:=hX
    have hpast:∀ j y,j < i→items[j]?=some y→(uJ x y=true∨uJ y x=true)→¬(i=q∧j=p)→listed.getD j false=true:=by
      intro j y hj hy hh hne
      refine hanc j ?_
      have:=wO hdep i x hx j y (by omega) hy hh
      rw [Nat.zero_add] at this
      rwa [aJU hne] at this
    have hfut:∀ j y,i < j→items[j]?=some y→(uJ x y=true∨uJ y x=true)→¬(j=q∧i=p)→listed.getD j false=false:=by
      intro j y hj hy hh hne
      cases hd:listed.getD j false with
      | false=>rfl
      | true =>
        have:=wO hdep j y hy i x (by omega) hx hh.symm
        rw [Nat.zero_add,aJU hne] at this
        rw [hcl j i hd this] at hun;cases hun
    have hno:∀ y,items[q]?=some y→i=p→uJ y x=false:=by
      intro y hy hi2
      subst hi2
      rw [q1] at hy;cases hy
      rw [q2] at hx;cases hx
      exact q4
    have hview:∃ D:Nat→Bool,(D=(fun j=>Nat.blt j i)∨(i=q∧D=(fun j=>Nat.blt j q&&!(Nat.beq j p))))∧(∀ j y,items[j]?=some y→uJ y x=true→j≠i→listed.getD j false=D j)∧(∀ j,j=i→listed.getD j false=D j):=by
      by_cases hc:i=q∧listed.getD p false=false
      · refine ⟨_,.inr ⟨hc.1,rfl⟩,fun j y hy hh hne=>?_,?_⟩
        · obtain ⟨hi2,hp2⟩:=hc
          by_cases hjp:j=p
          · subst hjp;rw [hp2];simp
          · rcases Nat.lt_or_ge j i with h | h
            · rw [hpast j y h hy (.inr hh) (fun g=>hjp g.2),(bC _ _).2 (by omega),kL,decide_eq_false hjp];rfl
            · rw [hfut j y (by omega) hy (.inr hh) (fun g=>by omega)]
              have:Nat.blt j q=false:=by rw [uL];exact decide_eq_false (by omega)
              rw [this];rfl
        · rintro j rfl
          rw [hun]
          have:Nat.blt j q=false:=by rw [uL];exact decide_eq_false (by omega)
          rw [this];rfl
      · refine ⟨_,.inl rfl,fun j y hy hh hne=>?_,?_⟩
        · rcases Nat.lt_or_ge j i with h | h
          · rw [(bC _ _).2 h]
            by_cases hq2:i=q∧j=p
            · obtain ⟨g1,g2⟩:=hq2
              subst g2
              cases hl:listed.getD j false with
              | true=>rfl
              | false=>exact absurd ⟨g1,hl⟩ hc
            · exact hpast j y h hy (.inr hh) hq2
          · have hlt:i < j:=by omega
            have hne2:¬(j=q∧i=p):=by
              rintro ⟨g1,g2⟩
              subst g1
              rw [hno y hy g2] at hh;cases hh
            rw [hfut j y hlt hy (.inr hh) hne2,uL];exact (decide_eq_false (by omega)).symm
        · rintro j rfl
          rw [hun,uL];exact (decide_eq_false (by omega)).symm
    obtain ⟨D,hD1,hsel,hself⟩:=hview
    have hloc:qY Γ ops i (pt D items 0 E0) x.e x.rs x.ro x.nl:=by
      rcases hD1 with rfl | ⟨g,rfl⟩
      · exact (hch i x hx).1
      · subst g
        rw [q1] at hx;cases hx
        exact q7
    have hwr:∀ j y,i < j→items[j]?=some y→uJ y x=true→listed.getD j false=false:=by
      intro j y hj hy hh
      refine hfut j y hj hy (.inr hh) ?_
      rintro ⟨g1,g2⟩
      subst g1
      rw [hno y hy g2] at hh;cases hh
    have hst:=hloc (pt (fun j=>listed.getD j false) items 0 E0)
      (fun k hk=>aCt items 0 E0 E0 (fun j y hy hky=>by
        simp only [Nat.zero_add]
        by_cases hji:j=i
        · exact hself j hji
        · exact hsel j y hy (aHd hky (.inl hk)) hji) rfl)
      (fun l hl=>aCs items 0 E0 E0 (fun j y hy hky=>by
        simp only [Nat.zero_add]
        by_cases hji:j=i
        · exact hself j hji
        · exact hsel j y hy (aHe hky (.inl hl)) hji) rfl)
      (fun d hd=>aEN ((hch i x hx).2 d hd).1 (fun j y hy hD=>by
        rcases Nat.lt_trichotomy j i with hlt | heq | hgt
        · exact ((hch i x hx).2 d hd).2 j y hlt hy
        · subst heq;rw [hun] at hD;cases hD
        · cases hsy:tR y.e d with
          | false=>rfl
          | true =>
            rw [hfut j y hgt hy (.inl (aLr hd hsy)) (fun g=>by
              obtain ⟨_,g2⟩:=g
              subst g2
              rw [q2] at hx;cases hx
              rw [q6] at hd;cases hd)] at hD;cases hD))
    refine wpOp_mono (fun a' w' hs'=>?_) (hst a w hs Q)
    have hset:∀ j,(listed.setIfInBounds i true).getD j false=(bif Nat.beq i j then true else listed.getD j false):=by
      intro j
      simp only [Array.getD_eq_getD_getElem?,kL]
      by_cases hij:i=j
      · subst hij;simp [hsz,hi']
      · simp [Array.getElem?_setIfInBounds_ne hij,hij]
    refine ih (listed.setIfInBounds i true) a' w' (by simpa using hsz) ?_ ?_ ?_
    · have hlt:((List.range ops.size).filter fun j=>!(listed.setIfInBounds i true).getD j false).length < ((List.range ops.size).filter fun j=>!listed.getD j false).length:=by
        have e:((List.range ops.size).filter fun j=>!(listed.setIfInBounds i true).getD j false)=((List.range ops.size).filter fun j=>!listed.getD j false).filter (fun j=>!Nat.beq i j):=by
          rw [List.filter_filter]
          congr 1;funext j;rw [hset]
          cases Nat.beq i j <;> simp
        rw [e,List.length_filter_lt_length_iff_exists]
        refine ⟨i,?_,by simp⟩
        rw [List.mem_filter];exact ⟨List.mem_range.2 hi',by rw [hun];rfl⟩
      omega
    · intro i' j h2 h3
      rw [hset] at h2 ⊢
      have:listed.getD j false=true:=by
        cases hb:Nat.beq i i' with
        | true =>
          have:=Nat.eq_of_beq_eq_true hb
          subst this
          exact hanc j h3
        | false=>rw [hb] at h2;exact hcl i' j h2 h3
      rw [this];cases Nat.beq i j <;> rfl
    · refine hs'.congr (fun k=>?_) (fun l=>?_)
      · by_cases hk:k ∈ x.e.s.map (·.1)
        · simp only [Env.app]
          rw [jN _ _ _ hk]
          refine aEi items 0 E0 i x hx ?_ hk (fun j' y hj' hy hky=>?_)
          · rw [hset];simp
          · rw [Nat.zero_add,hset,hwr j' y hj' hy (aHd hky (.inr hk))]
            rw [kL,decide_eq_false (by omega)];rfl
        · simp only [Env.app]
          rw [lB _ _ _ hk]
          refine aCt items 0 E0 E0 (fun j y hy hky=>?_) rfl
          rw [Nat.zero_add,hset,kL]
          by_cases hij:i=j
          · subst hij;rw [hx] at hy;cases hy;exact absurd hky hk
          · rw [decide_eq_false hij];rfl
      · by_cases hk:l ∈ x.e.o.map (·.1)
        · simp only [Env.app]
          rw [cW _ _ _ hk]
          refine aCu items 0 E0 i x hx ?_ hk (fun j' y hj' hy hky=>?_)
          · rw [hset];simp
          · rw [Nat.zero_add,hset,hwr j' y hj' hy (aHe hky (.inr hk))]
            rw [kL,decide_eq_false (by omega)];rfl
        · simp only [Env.app]
          rw [bY _ _ _ hk]
          refine aCs items 0 E0 E0 (fun j y hy hky=>?_) rfl
          rw [Nat.zero_add,hset,kL]
          by_cases hij:i=j
          · subst hij;rw [hx] at hy;cases hy;exact absurd hky hk
          · rw [decide_eq_false hij];rfl
section
variable {P:Program} {N:Nat} {Γ:Ctx P N} {E:Env} {Q:Exit→Env→Prop}
theorem CodeT.regionX (p q:Nat) {id:Nat} {l:List Oper} (hm:P.follows .mixedOrders=true)
    (h:Run Γ l (fun items E'=>(vG (exm p q (xI l [])) items items 0=true∧qX l 0=true∧XOk Γ l.toArray items E p q)∧Q .normal E') l [] E):CodeT Γ (.region id l.toArray true) E Q:=by
  intro a w hs
  obtain ⟨items,h1,h2,h3,h4⟩:=aGf (ops:=l.toArray) (E0:=E) h [] rfl rfl (by intro i x hx;simp at hx) (by simp [pt])
  refine wp_region_any hm ?_
  refine aHE h1 h2 h3.1 h3.2.1 h3.2.2 (fun a w hs=>⟨_,hs,h4⟩) _ _ _ _ (by simp) ?_ ?_ ?_
  · exact Nat.le_trans (List.length_filter_le _ _) (by simp)
  · intro i j hi
    simp [Array.getD_eq_getD_getElem?,Array.getElem?_replicate] at hi
    split at hi <;> simp at hi
  · rw [aG2 _ _ _ _ (fun j=>by
      simp [Array.getD_eq_getD_getElem?,Array.getElem?_replicate]
      split <;> simp)]
    obtain ⟨ow,β,hs⟩:=hs
    exact ⟨ow,β,{ size:=hs.size,defers:=hs.defers,kept:=⟨hs.kept.os,hs.kept.output,hs.kept.tape,hs.kept.size,hs.kept.old,hs.kept.ios⟩,slots:=hs.slots,objs:=hs.objs,gone:=hs.gone,own:=hs.own,ios:=hs.ios,fresh:=hs.fresh }⟩
end
end Go.Ev
/- The engine, part QQ: functions that return a new row whose elements are shared: the row becomes the caller's own row. -/
namespace Go.Ev
open Go.RowKit (Below)
def MeetsF (P:Program) (f:FuncId) (args:List PV) (s n:Nat) (cells:List PV):Prop :=
  ∀ (w:World) (cargs:Array Value) (ok:Nat→Prop),RelArgs w.heap ok args cargs.toList →
    Calls P f cargs w fun e w'=>∃ c B,e=.returned c∧Below w.heap.size w w'∧RelV w'.heap dead (.rw s n cells) c B∧(∀ b ∈ B,b < w'.heap.size∧(ok b∨w.heap.size≤b))∧(∀ b B',B=b::B'→w.heap.size≤b∧b ∉ B')
theorem MeetsF.soft {P:Program} {f:FuncId} {args:List PV} {s n:Nat} {cells:List PV} (h:MeetsF P f args s n cells):Meets P f args (.sl n cells) false :=
  fun w cargs ok ha=>(h w cargs ok ha).mono fun _ _ ⟨c,B,h1,h2,h3,h4,_⟩=>⟨c,B,h1,h2,h3.soft,fun b hb=>(h4 b hb).2,by simp⟩
section
variable {P:Program} {N:Nat} {Γ:Ctx P N} {S:List (Nat × Slot)} {O:List (Nat × Option Ob)} {ow:Nat→Own} {β:Nat→Option (Option Nat)} {F:Env} {a:Act} {w:World}
def ResF (Γ:Ctx P N) (rs:Array ResultVar) (E:Env) (s n:Nat) (cells:List PV):Prop :=
  ∀ fn:Func,fn.results=rs→∀ a w,Sim Γ E a w→∃ c B,(results fn a.tmps).run P w=.ok c w∧RelV w.heap dead (.rw s n cells) c B∧(∀ b ∈ B,b < w.heap.size∧(Γ.ok b∨Γ.nw b))∧(∀ b B',B=b::B'→Γ.nww b∧b ∉ B')
def aMK (Γ:Ctx P N) (rs:Array ResultVar) (s n:Nat) (cells:List PV):Exit→Env→Prop
  | .normal,E=>ResF Γ rs E s n cells
  | .ret,E=>ResF Γ rs E s n cells
  | _,_=>False
theorem aN2 {rs:Array ResultVar} {E:Env} {s n:Nat} {cells:List PV} (h:ResF Γ rs E s n cells):aMK Γ rs s n cells .ret E:=h
theorem ResF.weak {E E0:Env} {rs:Array ResultVar} {s n:Nat} {cells:List PV} (he:Ent Γ E E0) (h:ResF Γ rs E0 s n cells):ResF Γ rs E s n cells:=fun fn hf a w hs=>h fn hf a w (he a w hs)
theorem ResF.mk {t l s n:Nat} {cells:List PV} {dp dp0:Bool} (h:lkq S t=some ⟨.ref l s 0 n,dp0⟩) (ho:loq O l=some ⟨cells,dp,false⟩) (hio:Γ.io l=none):ResF Γ #[.tmp t] ⟨S,O⟩ s n cells:=by
  rintro fn hf a w ⟨ow,β,hs⟩
  rw [aAM hf]
  obtain ⟨B,h1,_⟩:=hs.slots t
  rw [fT h] at h1
  simp only [RelV] at h1
  obtain ⟨Bo,o1,o2,hob⟩:=hs.objs l ⟨cells,dp,false⟩ (by rw [← dM];exact ho)
  rcases hob with ⟨p1,p2,p3⟩ | ⟨b,cs,u,p1,p2,p3,p4⟩
  · obtain ⟨rfl,_,e⟩:=h1.2.1 p1
    simp only at p2;subst p2
    exact ⟨_,[],rfl,by simp only [RelV];exact .inl ⟨trivial,trivial,trivial,e⟩,by simp,by simp⟩
  · obtain ⟨cap,cs',u',q1,q0,q3,q4⟩:=h1.2.2 b p1
    rw [p3] at q0;cases q0
    simp only [Nat.zero_mul,Nat.zero_add] at q1 q3
    refine ⟨_,b::Bo,rfl,by simp only [RelV];exact .inr ⟨b,cap,cs,u,Bo,⟨q1,q4,q3⟩,p3,by simpa using p4,rfl⟩,fun c hc=>?_,fun b' B' e=>?_⟩
    · rcases List.mem_cons.1 hc with rfl | hc
      · exact ⟨hs.block_lt p1,.inr (.inl (hs.fresh l _ p1 hio))⟩
      · exact ⟨(o1 c hc).1,(o1 c hc).2.1⟩
    · cases e
      exact ⟨hs.fresh l _ p1 hio,fun hb=>(o1 b hb).2.2 l p2⟩
theorem MeetsF.intro {f:FuncId} {fn:Func} {c:Code} {args:List PV} {s n:Nat} {cells:List PV} {rs:Array ResultVar} (hf:P.funcs[f]?=some fn) (hb:fn.body=some c) (hN:fn.ntmps=N) (hrs:fn.results=rs) (hn:Nat.ble args.length N=true)
    (h:∀ Γ:Ctx P N,(∀ l,Nat.blt l 100000=true→Γ.io l=none)→CodeT Γ c ⟨nQ args 0,[]⟩ (aMK Γ rs s n cells)):MeetsF P f args s n cells:=by
  intro w cargs ok ha
  obtain ⟨h1,h2⟩:=ha.get
  have hn:=Nat.le_of_ble_eq_true hn
  let Γ:Ctx P N:={ base:=w.heap.size,ok:=fun b=>ok b,io:=fun _=>none,w0:=w,mine:=fun _=>False,lent:=fun _=>False }
  have hsz:(cargs++Array.replicate (fn.ntmps - cargs.size) undef).size=N:=by
    have:cargs.size=args.length:=by rw [h1];simp
    simp [this,hN];omega
  refine calls_of_wp hf hb ?_
  have hsim:Sim Γ ⟨nQ args 0,[]⟩ { tmps:=cargs++Array.replicate (fn.ntmps - cargs.size) undef,defers:=[] } w:=by
    refine ⟨fun _=>.none,fun _=>none,{ size:=hsz,defers:=rfl,kept:=⟨rfl,rfl,rfl,Nat.le_refl _,fun _ _ _ _=>rfl,fun b _ _ cs t h=>⟨cs,h,rfl⟩⟩,slots:=fun k=>?_,objs:=fun l ob hl=>(by simp [lo] at hl),gone:=fun _ _=>rfl,own:=fun b hb=>absurd rfl hb,ios:=fun l b hl=>(by cases hl),fresh:=fun l b hl=>(by cases hl) }⟩
    rw [vJ]
    by_cases hk:k < args.length
    · rw [if_pos ⟨Nat.zero_le _,by simpa using hk⟩]
      obtain ⟨B,g1,g2⟩:=h2 k hk
      refine ⟨B,?_,fun b hb=>⟨RelV.below _ _ _ g1 b hb,.inl (g2 b hb),fun l=>by simp⟩,by simp⟩
      have e:(cargs++Array.replicate (fn.ntmps - cargs.size) undef).getD k undef=cargs.toList.getD k undef:=by
        have hlt:k < cargs.size:=by rw [h1] at hk;simpa using hk
        simp [Array.getD_eq_getD_getElem?,Array.getElem?_append,hlt,List.getD_eq_getElem?_getD]
      rw [e]
      simp only [Nat.sub_zero]
      exact RelV.keep _ _ _ (fun l _=>by intro ob h;cases h) (fun _ _=>rfl) g1
    · rw [if_neg (by simpa using hk)]
      exact ⟨[],by simp [RelV],by simp,by simp⟩
  refine wp_mono (h Γ (fun _ _=>rfl) _ _ hsim) fun e a' w' ⟨E',hs',hq⟩=>?_
  have fin:ResF Γ rs E' s n cells→a'.defers=[]∧∃ v,(results fn a'.tmps).run P w'=.ok v w'∧∃ c B,Ending.returned v=.returned c∧Below w.heap.size w w'∧RelV w'.heap dead (.rw s n cells) c B∧(∀ b ∈ B,b < w'.heap.size∧(ok b∨w.heap.size≤b))∧(∀ b B',B=b::B'→w.heap.size≤b∧b ∉ B'):=by
    intro hr
    obtain ⟨c,B,g1,g2,g3,g4⟩:=hr fn hrs a' w' hs'
    obtain ⟨ow,β,hs'⟩:=hs'
    exact ⟨hs'.defers,c,g1,c,B,rfl,⟨hs'.kept.os,hs'.kept.tape,hs'.kept.output,hs'.kept.size,fun k hk=>hs'.kept.old k hk (fun l=>by simp [Γ]) (fun h=>h)⟩,g2,fun b hb=>⟨(g3 b hb).1,(g3 b hb).2.imp id (fun h=>(h.elim id False.elim:Γ.nww b).elim id False.elim)⟩,fun b B' e=>⟨(g4 b B' e).1.elim id False.elim,(g4 b B' e).2⟩⟩
  cases e with
  | normal=>exact fin hq
  | ret=>exact fin hq
  | exit id=>exact hq.elim
  | goto l=>exact hq.elim
  | panic ch=>exact hq.elim
  | outgrown=>exact hq.elim
theorem SimG.growSh (h:SimG Γ ow β F a w) {w':World} (hb:Below w.heap.size w w') {d b0:Nat} {cs:Array Value} {t:TypeId} {cells:List PV} {B:List Nat} (hrow:w'.heap[b0]?=some (.cells cs t (0,0))) (hge:w.heap.size≤b0)
    (hrel:RelL w'.heap true dead cells cs 0 B) (hB:∀ b ∈ B,b < w'.heap.size∧b≠b0∧(Im Γ ow w b∨w.heap.size≤b)) (hnl:NoLab F d) (hio:Γ.io d=none) :
    ∃ ow',SimG Γ ow' (fun m=>if m=d then some (some b0) else β m) (F.app ⟨[],[(d,some ⟨cells,false,false⟩)]⟩) a w':=by
  let β':Nat→Option (Option Nat):=fun m=>if m=d then some (some b0) else β m
  let ow':Nat→Own:=fun b=>if b=b0 then .lab d else if w.heap.size≤b then .none else ow b
  have how:∀ b,b < w.heap.size→ow' b=ow b:=fun b hlt=>by
    show (if _ then _ else _)=_
    rw [if_neg (by omega),if_neg (by omega)]
  have hβ2:∀ m,m≠d→β' m=β m:=fun m hm=>by show (if _ then _ else _)=_;rw [if_neg hm]
  have hlt0:b0 < w'.heap.size:=by
    rcases Nat.lt_or_ge b0 w'.heap.size with h | h
    · exact h
    · simp [Array.getElem?_eq_none h] at hrow
  have hIm:∀ b,Im Γ ow w b→Im Γ ow' w' b:=fun b ⟨h1,h2,h3⟩=>⟨Nat.lt_of_lt_of_le h1 hb.size,h2,fun l=>by rw [how b h1];exact h3 l⟩
  have hFree:∀ b,b < w.heap.size→fU w b→fU w' b:=fun b hlt ⟨cs,t,hc⟩=>⟨cs,t,by rw [hb.block b hlt];exact hc⟩
  have hkeep:∀ m,m≠d→KeepB w.heap w'.heap β β' m:=by
    intro m hm o ho
    rw [hβ2 m hm] at ho
    refine ⟨ho,fun b hob cs t hc=>⟨cs,?_,rfl⟩⟩
    subst hob
    rw [hb.block b (h.block_lt ho)];exact hc
  refine ⟨ow',{ size:=h.size,defers:=h.defers,kept:=?_,slots:=fun k=>?_,objs:=fun l ob hl=>?_,gone:=fun l hl=>?_,own:=fun b hb'=>?_,ios:=fun m b hm hs=>?_,fresh:=fun l b hl hi=>?_ }⟩
  · exact ⟨hb.os.trans h.kept.os,hb.output.trans h.kept.output,hb.tape.trans h.kept.tape,Nat.le_trans h.kept.size hb.size,
      fun b h1 h2 hmi=>(hb.block b (Nat.lt_of_lt_of_le h1 h.kept.size)).trans (h.kept.old b h1 h2 hmi),
      fun b h1 hmi cs t h2=>by
        obtain ⟨cs',h3,h4⟩:=h.kept.ios b h1 hmi cs t h2
        exact ⟨cs',by rw [hb.block b (Nat.lt_of_lt_of_le h1 h.kept.size)];exact h3,h4⟩⟩
  · obtain ⟨B',h1,h2,h3⟩:=h.slots k
    refine ⟨B',RelV.keep _ _ _ (fun l hl=>hkeep l (fun e=>hnl.1 k (e ▸ hl))) (fun b hbO=>hb.block b (h2 b hbO).1) h1,fun b hbO=>hIm b (h2 b hbO),fun hd=>⟨(h3 hd).1,fun b hbO=>⟨?_,hFree b (h2 b hbO).1 ((h3 hd).2 b hbO).2⟩⟩⟩
    rw [how b (h2 b hbO).1];exact ((h3 hd).2 b hbO).1
  · simp only [Env.app,List.cons_append,List.nil_append,aZ] at hl
    by_cases hm:d=l
    · subst hm
      rw [if_pos rfl] at hl;cases hl
      refine ⟨B,fun b hbn=>?_,fun hd=>(by cases hd),.inr ⟨b0,cs,t,?_,?_,hrow,hrel⟩⟩
      · obtain ⟨g1,g2,g3⟩:=hB b hbn
        rcases g3 with g3 | g3
        · exact hIm b g3
        · refine ⟨g1,.inr (.inl (.inl (Nat.le_trans h.kept.size g3))),fun l=>?_⟩
          show (if _ then _ else _)≠_
          rw [if_neg g2,if_pos g3];simp
      · show (if _ then _ else _)=_;rw [if_pos rfl]
      · show (if _ then _ else _)=_;rw [if_pos rfl]
    · rw [if_neg hm] at hl
      obtain ⟨B',h1,h2,h3⟩:=h.objs l ob hl
      refine ⟨B',fun b hbO=>hIm b (h1 b hbO),fun hd=>⟨(h2 hd).1,fun b hbO=>⟨by rw [how b (h1 b hbO).1];exact ((h2 hd).2 b hbO).1,hFree b (h1 b hbO).1 ((h2 hd).2 b hbO).2⟩⟩,?_⟩
      rcases h3 with ⟨g1,g2,g3⟩ | ⟨b,cs,t,g1,g2,g3,g4⟩
      · exact .inl ⟨(hβ2 l (Ne.symm hm)).trans g1,g2,g3⟩
      · refine .inr ⟨b,cs,t,(hβ2 l (Ne.symm hm)).trans g1,by rw [how b (h.block_lt g1)];exact g2,by rw [hb.block b (h.block_lt g1)];exact g3,?_⟩
        cases hbx:ob.box with
        | true=>rw [hbx] at g4;exact RelL.keep _ _ _ _ (fun p hp m hm'=>hkeep m (fun e=>hnl.2.1 l ob hl hbx p hp (e ▸ hm'))) (fun b hbO=>hb.block b (h1 b hbO).1) g4
        | false=>rw [hbx] at g4;exact RelL.keep _ _ _ _ (fun _ _ l _=>KeepB.dead _ _ l) (fun b hbO=>hb.block b (h1 b hbO).1) g4
  · simp only [Env.app,List.cons_append,List.nil_append,aZ] at hl
    by_cases hm:d=l
    · rw [if_pos hm] at hl;cases hl
    · rw [if_neg hm] at hl
      show β' l=none
      rw [hβ2 l (Ne.symm hm)];exact h.gone l hl
  · by_cases hlt:b < w.heap.size
    · rw [how b hlt] at hb'
      obtain ⟨g1,g2⟩:=h.own b hb'
      exact ⟨Nat.lt_of_lt_of_le g1 hb.size,by rw [how b hlt];exact g2⟩
    · have e:b=b0:=by
        rcases Nat.decEq b b0 with e | e
        · exfalso;apply hb'
          show (if _ then _ else _)=_
          rw [if_neg e,if_pos (by omega)]
        · exact e
      subst e
      exact ⟨hlt0,.inl (.inl (.inl (Nat.le_trans h.kept.size hge)))⟩
  · have hmn:d≠m:=fun e=>by subst e;rw [hio] at hm;cases hm
    simp only [Env.app,List.cons_append,List.nil_append,aZ,if_neg hmn] at hs
    show β' m=_
    rw [hβ2 m (Ne.symm hmn)];exact h.ios m b hm hs
  · by_cases hm:l=d
    · subst hm
      have:(if l=l then some (some b0) else β l)=some (some b):=hl
      rw [if_pos rfl] at this;cases this
      exact .inl (Nat.le_trans h.kept.size hge)
    · have hl':β' l=some (some b):=hl
      rw [hβ2 l hm] at hl';exact h.fresh l b hl' hi
variable {d:Nat} {ty:TypeId} {pos:String} {af:Array Edge} {g:Option (Nat × Bool)}
theorem aMC {f:FuncId} [hfc:FnC P f] {xs:List Operand} {us:Array TypeId} {ps:List PV} {s n:Nat} {cells:List PV} (ha:ArgsV S O xs ps []) (hm:MeetsF P f ps s n cells) (hio:Γ.io d=none) (hd:Nat.blt d N=true) :
    Local Γ ⟨some d,.call ⟨.value (.func f),xs.toArray,us⟩,ty,pos,af,g⟩ ⟨S,O⟩ ⟨[(d,⟨.ref d s 0 n,false⟩)],[(d,some ⟨cells,false,false⟩)]⟩ (sR xs) [] [d]:=by
  intro F hs hl hnd a w ⟨ow,β,hsim⟩ Q
  have hdN:=(bC _ _).1 hd
  have hargs:=zQ hsim ha hs hl
  unfold Oper.wp
  have hrun:(execOp a.eval ⟨some d,.call ⟨.value (.func f),xs.toArray,us⟩,ty,pos,af,g⟩).run P w=.ok (.enter f (xs.map a.eval).toArray) w:=by
    simp [execOp,resolve,Act.eval,Deferred.ofValue,invoke,hfc.run]
  rw [hrun]
  show Calls _ _ _ _ _
  refine (hm w (xs.map a.eval).toArray (fun b=>Im Γ ow w b∨∃ l ∈ ([]:List Nat),ow b=.lab l) (by simpa using hargs)).mono fun e w' ⟨c,B,he,hb,h1,h2,h3⟩=>?_
  subst he
  show Sim Γ _ _ _
  simp only [RelV] at h1
  rcases h1 with ⟨rfl,rfl,_,rfl⟩ | ⟨b,cap,cs,t,O',⟨rfl,q2,q3⟩,q4,q5,rfl⟩
  · obtain ⟨ow',h'⟩:=(hsim.grow hb).layNil (hnd d (by simp)) hio [] [] false false
    have h2:=h'.put (d:=d) (v:=.ref d s 0 0) (c:=.slice none 0 0) (O:=[]) hdN (by simp only [RelV];simp) (by simp)
    exact ⟨_,_,h2.congr (fun k=>rfl) (fun l=>rfl)⟩
  · obtain ⟨ow',h'⟩:=hsim.growSh hb q4 (h3 b O' rfl).1 q5 (fun x hx=>by
      obtain ⟨g1,g2⟩:=h2 x (by simp [hx])
      refine ⟨g1,fun e=>(h3 b O' rfl).2 (e ▸ hx),?_⟩
      rcases g2 with (g | ⟨l,hl,_⟩) | g
      · exact .inl g
      · cases hl
      · exact .inr g) (hnd d (by simp)) hio
    have h2:=h'.put (d:=d) (v:=.ref d s 0 n) (c:=.slice (some ⟨b,0,none⟩) n cap) (O:=[]) hdN (by
      simp only [RelV]
      exact ⟨trivial,by simp,fun b' hb'=>by simp at hb';subst hb';exact ⟨cap,cs,t,by simp,q4,by simpa using q3,q2⟩⟩) (by simp)
    exact ⟨_,_,h2.congr (fun k=>rfl) (fun l=>rfl)⟩
end
end Go.Ev
