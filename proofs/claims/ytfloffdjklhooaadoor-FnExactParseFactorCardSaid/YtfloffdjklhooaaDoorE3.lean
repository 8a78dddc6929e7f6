/- Parts EvM, EvN, EvO, EvP, EvR, EvS, EvT, EvU, EvV, EvX, EvY, EvZ. -/
import Derived.Test.YtfloffdjklhooaaDoorE2
import Derived.WalkKit
import Derived.ProofKit
import Derived.OpenShut
import Derived.Laws.IdiomStrings
import Derived.Laws.BytesArg
import Derived.Laws.Tables
set_option linter.all false
/- The engine, part M: nil rows, append. -/
namespace Go.Ev
open Go.RowKit (Below)
section
variable {P:Program} {N:Nat} {Γ:Ctx P N} {S:List (Nat × Slot)} {O:List (Nat × Option Ob)} {ow:Nat→Own} {β:Nat→Option (Option Nat)} {F:Env} {a:Act} {w:World}
variable {d:Nat} {ty:TypeId} {pos:String} {af:Array Edge} {g:Option (Nat × Bool)}
theorem SimG.layNil (h:SimG Γ ow β F a w) {l:Nat} (hl:gM F l) (hio:Γ.io l=none) (ks ls:List Nat) (dp bx:Bool) :
    ∃ ow',SimG Γ ow' (fun m=>if m=l then some none else if m ∈ ls then none else β m) (F.app ⟨ks.map (fun j=>(j,⟨.any,false⟩)),(l,some ⟨[],dp,bx⟩)::ls.map (fun j=>(j,none))⟩) a w:=by
  let β':Nat→Option (Option Nat):=fun m=>if m=l then some none else if m ∈ ls then none else β m
  let ow':Nat→Own:=fun b=>match ow b with
    | .lab m=>if m=l∨m ∈ ls then .none else .lab m
    | .obj m=>if m=l∨m ∈ ls then .none else .obj m
    | o=>o
  have howl:∀ b m,ow b≠.lab m→ow' b≠.lab m:=by
    intro b m hb
    show (match ow b with | .lab m=>_ | .obj m=>_ | o=>o)≠_
    cases hx:ow b with
    | lab k=>simp only;split <;> simp;rintro rfl;exact hb hx
    | obj k=>simp only;split <;> simp
    | none=>simp
    | slot k=>simp
  have hIm:∀ b,Im Γ ow w b→Im Γ ow' w b:=fun b ⟨h1,h2,h3⟩=>⟨h1,h2,fun m=>howl b m (h3 m)⟩
  have hkeep:∀ m,m≠l→KeepB w.heap w.heap β β' m:=by
    intro m hne o ho
    have ho':(if m=l then some none else if m ∈ ls then none else β m)=some o:=ho
    rw [if_neg hne] at ho'
    by_cases hm:m ∈ ls
    · rw [if_pos hm] at ho';cases ho'
    · rw [if_neg hm] at ho'
      exact ⟨ho',fun b _ c t hc=>⟨c,hc,rfl⟩⟩
  have hβ':∀ m,m≠l→m ∉ ls→β' m=β m:=by
    intro m h1 h2
    show (if _ then _ else if _ then _ else _)=_
    rw [if_neg h1,if_neg h2]
  have hslot:∀ b k,ow b=.slot k→ow' b=.slot k:=by
    intro b k hb
    show (match ow b with | .lab m=>_ | .obj m=>_ | o=>o)=_
    rw [hb]
  refine ⟨ow',{ size:=h.size,defers:=h.defers,kept:=h.kept,slots:=fun k=>?_,objs:=fun m ob hm=>?_,gone:=fun m hm=>?_,own:=fun b hb=>?_,ios:=fun m b hm hs=>?_,fresh:=fun m b hm hi=>?_ }⟩
  · obtain ⟨B,g1,g2,g3⟩:=h.slots k
    simp only [Env.app,kV]
    by_cases hk:k ∈ ks
    · rw [if_pos hk];exact ⟨[],by simp [RelV],by simp,by simp⟩
    rw [if_neg hk]
    exact ⟨B,RelV.keep _ _ _ (fun m hm=>hkeep m (fun e=>hl.1 k (e ▸ hm))) (fun _ _=>rfl) g1,fun b hb=>hIm b (g2 b hb),fun hd=>⟨(g3 hd).1,fun b hb=>⟨hslot b k ((g3 hd).2 b hb).1,((g3 hd).2 b hb).2⟩⟩⟩
  · simp only [Env.app,List.cons_append,aZ,fE] at hm
    by_cases hml:l=m
    · subst hml
      rw [if_pos rfl] at hm;cases hm
      exact ⟨[],by simp,by simp,.inl ⟨by show (if _ then _ else _)=_;rw [if_pos rfl],rfl,rfl⟩⟩
    · rw [if_neg hml] at hm
      by_cases hmls:m ∈ ls
      · rw [if_pos hmls] at hm;cases hm
      · rw [if_neg hmls] at hm
        obtain ⟨B,g1,g2,g3⟩:=h.objs m ob hm
        have eβ:=hβ' m (fun e=>hml e.symm) hmls
        refine ⟨B,fun b hb=>hIm b (g1 b hb),fun hd=>⟨(g2 hd).1,fun b hb=>⟨?_,((g2 hd).2 b hb).2⟩⟩,?_⟩
        · have e:=((g2 hd).2 b hb).1
          show (match ow b with | .lab m=>_ | .obj m=>_ | o=>o)=_
          rw [e];simp only;rw [if_neg];rintro (e1 | e1)
          · exact hml e1.symm
          · exact hmls e1
        · rcases g3 with ⟨e1,e2,e3⟩ | ⟨b,cs,t,e1,e2,e3,e4⟩
          · exact .inl ⟨eβ.trans e1,e2,e3⟩
          · refine .inr ⟨b,cs,t,eβ.trans e1,?_,e3,?_⟩
            · show (match ow b with | .lab m=>_ | .obj m=>_ | o=>o)=_
              rw [e2];simp only;rw [if_neg];rintro (e1 | e1)
              · exact hml e1.symm
              · exact hmls e1
            · cases hbx:ob.box with
              | false=>rw [hbx] at e4;exact e4
              | true=>rw [hbx] at e4;exact RelL.keep _ _ _ _ (fun p hp m' hm'=>hkeep m' (fun e=>hl.2.1 m ob hm hbx p hp (e ▸ hm'))) (fun _ _=>rfl) e4
  · simp only [Env.app,List.cons_append,aZ,fE] at hm
    by_cases hml:l=m
    · rw [if_pos hml] at hm;cases hm
    · rw [if_neg hml] at hm
      show (if _ then _ else if _ then _ else _)=_
      rw [if_neg (fun e=>hml e.symm)]
      by_cases hmls:m ∈ ls
      · rw [if_pos hmls]
      · rw [if_neg hmls] at hm ⊢;exact h.gone m hm
  · have hb':ow b≠.none:=by
      intro e;apply hb
      show (match ow b with | .lab m=>_ | .obj m=>_ | o=>o)=_
      rw [e]
    obtain ⟨g1,g2⟩:=h.own b hb'
    refine ⟨g1,g2.imp id fun ⟨m,g3,g4⟩=>⟨m,?_,g4⟩⟩
    have:¬(m=l∨m ∈ ls):=by
      intro hc
      apply hb
      show (match ow b with | .lab m=>_ | .obj m=>_ | o=>o)=_
      rw [g3];simp only;rw [if_pos hc]
    show (match ow b with | .lab m=>_ | .obj m=>_ | o=>o)=_
    rw [g3];simp only;rw [if_neg this]
  · simp only [Env.app,List.cons_append,aZ,fE] at hs
    have hml:m≠l:=by rintro rfl;rw [hio] at hm;cases hm
    rw [if_neg (fun e=>hml e.symm)] at hs
    have hmls:m ∉ ls:=by intro e;rw [if_pos e] at hs;simp at hs
    rw [if_neg hmls] at hs
    rw [show (if m=l then some none else if m ∈ ls then none else β m)=β' m from rfl,hβ' m hml hmls]
    exact h.ios m b hm hs
  · have hm':(if m=l then some none else if m ∈ ls then none else β m)=some (some b):=hm
    by_cases hml:m=l
    · rw [if_pos hml] at hm';cases hm'
    · rw [if_neg hml] at hm'
      by_cases hmls:m ∈ ls
      · rw [if_pos hmls] at hm';cases hm'
      · rw [if_neg hmls] at hm';exact h.fresh m b hm' hi
theorem kC {t e sz by_:Nat} {agg:Bool} [ht:SlT P t e] [hi:TI P e sz agg by_] (w:World) (ty:TypeId) (bs ad:Option Addr) (n cap c:Nat) (h:n≤cap) :
    (Builtin.append_ #[t,t] ty #[.slice bs n cap,.slice ad 0 c]).run P w=.ok (.slice bs n cap) w:=by
  obtain ⟨⟨i,e1,e2,_⟩,_⟩:=hi.ok
  have hf:(Builtin.firstCells i.size 0 (.slice ad 0 c)).run P w=.ok #[] w:=by
    cases ad with
    | none=>exact run_firstCells_none w _ _ _ _
    | some x=>exact run_firstCells_some (P:=P) w i.size 0 x 0 c [] (by simp) (by simp)
  cases bs with
  | none=>simp [Builtin.append_,run_underlying ht.ok,sizeOf,typeInfo,e1,Builtin.lenOf,h,hf]
  | some b=>simp [Builtin.append_,run_underlying ht.ok,sizeOf,typeInfo,e1,Builtin.lenOf,h,hf,storeCells]
theorem oJ {t e sz by_:Nat} {agg:Bool} [ht:SlT P t e] [hi:TI P e sz agg by_] (w:World) (ty:TypeId) {b n cap:Nat} {cur:Array Value} {u:TypeId} (hg:w.heap[b]?=some (.cells cur u (0,0)))
    (x:Addr) (m c:Nat) (news:List Value) (hl:news.length=m*sz) (hnews:∀ j v,news[j]?=some v→w.cell? (x.add j)=some v) (h1:∀ v ∈ news,v.oneCell'=true) (hroom:n+m≤cap) (hfit:n*sz+news.length≤cur.size) :
    (Builtin.append_ #[t,t] ty #[.slice (some ⟨b,0,none⟩) n cap,.slice (some x) m c]).run P w=.ok (.slice (some ⟨b,0,none⟩) (n+m) cap) (w.setRow b (cur.toList.take (n*sz)++news++cur.toList.drop (n*sz+news.length)).toArray):=by
  obtain ⟨⟨i,e1,e2,_⟩,_⟩:=hi.ok
  subst e2
  have hf:=run_firstCells_some (P:=P) w i.size m x m c news hl hnews
  have hst:=run_storeCells_at P b (n*i.size) u news 0 cur w hg (by simpa using hfit) h1
  simp only [Nat.add_zero] at hst
  simp [Builtin.append_,run_underlying ht.ok,sizeOf,typeInfo,e1,Builtin.lenOf,hroom,hf,Addr.add_lit,hst]
theorem lJ (w:World) (ob:Obj):Same w (w.drew.alloc ob):=⟨rfl,rfl,rfl,by show _≤(w.heap.push ob).size;simp⟩
theorem pQ (w:World) (ob:Obj):(w.drew.alloc ob).heap[w.heap.size]?=some ob:=dY w.drew ob
theorem pP (w:World) (ob:Obj) {b:Nat} (h:b < w.heap.size):(w.drew.alloc ob).heap[b]?=w.heap[b]?:=fG w.drew ob h
structure News (w:World) (v:Value) (m sz:Nat) (ncells:List PV) (Bp:List Nat) (news:List Value):Prop where
  len:news.length=m*sz
  one:∀ v ∈ news,v.oneCell'=true
  rel:RelL w.heap true dead ncells news.toArray 0 Bp
  val:(m=0∧∃ ad c,v=.slice ad 0 c)∨∃ x c,v=.slice (some x) m c∧∀ j u,news[j]?=some u→w.cell? (x.add j)=some u
theorem tZ {b off m sz:Nat} {cs:Array Value} {u:TypeId} {f:Nat × Nat} {ncells:List PV} {Bp:List Nat} {c:Nat} (hb:w.heap[b]?=some (.cells cs u f)) (hr:RelL w.heap true dead ncells cs off Bp) (hl:ncells.length=m*sz) :
    ∃ news,News w (.slice (some ⟨b,off,none⟩) m c) m sz ncells Bp news:=by
  refine ⟨(cs.extract off (off+ncells.length)).toList,?_⟩
  have hlen:off≤cs.size→off+ncells.length≤cs.size:=fun h=>RelL.length _ _ _ _ h hr
  have hsz:(cs.extract off (off+ncells.length)).size=ncells.length:=by
    rw [Array.size_extract]
    rcases Nat.lt_or_ge cs.size off with h | h
    · cases ncells with
      | nil=>simp only [List.length_nil,Nat.add_zero];omega
      | cons p r =>
        simp only [RelL] at hr
        obtain ⟨c,_,_,q1,_⟩:=hr
        have:=(Array.getElem?_eq_some_iff.1 q1.1).1
        omega
    · have:=hlen h;omega
  have hget:∀ j,j < ncells.length→(cs.extract off (off+ncells.length)).toList[j]?=cs[off+j]?:=by
    intro j hj
    rw [Array.getElem?_toList,Array.getElem?_extract,if_pos]
    rw [Array.size_extract] at hsz
    omega
  refine ⟨by rw [Array.length_toList,hsz,hl],fun v hv=>?_,?_,.inr ⟨_,_,rfl,fun j v hj=>?_⟩⟩
  · obtain ⟨k,hk,e⟩:=List.getElem_of_mem hv
    have hk':k < ncells.length:=by rw [Array.length_toList,hsz] at hk;exact hk
    obtain ⟨c,g1,g2⟩:=mG _ _ _ _ hr k hk'
    have:=hget k hk'
    rw [g1,List.getElem?_eq_getElem hk,e] at this
    cases this;exact g2
  · rw [Array.toArray_toList]
    exact iF rfl hr
  · have hk':j < ncells.length:=by
      have:=(List.getElem?_eq_some_iff.1 hj).1
      rw [Array.length_toList,hsz] at this;exact this
    rw [hget j hk'] at hj
    rw [Addr.add_lit,cell_of_row w b (off+j) cs u f hb];exact hj
theorem tI (hsim:SimG Γ ow β F a w) {t e sz by_ l n m:Nat} {agg dp dp':Bool} {zs:List PV} [ht:SlT P t e] [hi:TI P e sz agg by_] [hz:ZT P e zs] {cells ncells:List PV} {bv xv:Value} {Bp:List Nat} {news:List Value}
    (hx:RelV w.heap β (.ref l sz 0 n) bv []) (ho:lo F.o l=some ⟨cells,dp,false⟩) (hlen:cells.length=n*sz) (hN:News w xv m sz ncells Bp news) (hnl:ncells.length=m*sz) (hpi:∀ c ∈ Bp,Im Γ ow w c)
    (hb:(n+m)*by_≤140737488355328) (h63:n+m≤9223372036854775807) (hd:d < N) (hio:Γ.io d=none) (hnd:gM F d) (hiol:Γ.io l=none)
    (ks:List Nat) (hdp:dp'=true→dp=true∧Bp.Nodup∧∀ c ∈ Bp,cY w c∧Γ.nw c∧∃ s ∈ ks,ow c=.slot s) :
    ∃ c w',(Builtin.append_ #[t,t] ty #[bv,xv]).run P w=.ok c w'∧Sim Γ (F.app ⟨(d,⟨.ref d sz 0 (n+m),false⟩)::ks.map (fun j=>(j,⟨.any,false⟩)),[(d,some ⟨cells++ncells,dp',false⟩),(l,none)]⟩) (a.put (some d) c) w':=by
  obtain ⟨Bo,o1,o2,hob⟩:=hsim.objs l _ ho
  simp only [RelV] at hx
  obtain ⟨i,z,z1,z2,z3,_,_⟩:=hz.ok
  obtain ⟨⟨i',i1,i2,i3⟩,_⟩:=hi.ok
  rw [z1] at i1;cases i1
  have deepOk:∀ (ls:List Nat),l ∈ ls→dp'=true→(Bo++Bp).Nodup∧∀ c ∈ Bo++Bp,cY w c∧Γ.nw c∧((∃ k ∈ ks,ow c=.slot k)∨(∃ m ∈ ls,ow c=.obj m)∨ow c=.none):=by
    intro ls hls h
    obtain ⟨d1,d2,d3⟩:=hdp h
    obtain ⟨e1,e2⟩:=o2 d1
    refine ⟨?_,fun c hc=>?_⟩
    · rw [List.nodup_append]
      refine ⟨e1,d2,fun c hc c' hc' e=>?_⟩
      subst e
      obtain ⟨_,_,s,_,e3⟩:=d3 c hc'
      rw [(e2 c hc).1] at e3;cases e3
    · rcases List.mem_append.1 hc with hc | hc
      · obtain ⟨f1,f2⟩:=e2 c hc
        refine ⟨f2,?_,.inr (.inl ⟨l,hls,f1⟩)⟩
        rcases (hsim.own c (by rw [f1];simp)).2 with h | ⟨m,h,_⟩
        · exact h
        · rw [f1] at h;cases h
      · obtain ⟨f1,f2,s,f3,f4⟩:=d3 c hc
        exact ⟨f1,f2,.inl ⟨s,f3,f4⟩⟩
  have himAll:∀ c ∈ Bo++Bp,Im Γ ow w c:=fun c hc=>(List.mem_append.1 hc).elim (o1 c) (hpi c)
  have hcells0:m=0→ncells=[]:=fun h=>by subst h;simpa using hnl
  have newBlock:∀ (cap:Nat) (cs':Array Value),RelL w.heap true dead ncells cs' (n*sz) Bp→RelL w.heap true dead cells cs' 0 Bo→n+m≤cap→cap*sz≤cs'.size →
      Sim Γ (F.app ⟨(d,⟨.ref d sz 0 (n+m),false⟩)::ks.map (fun j=>(j,⟨.any,false⟩)),[(d,some ⟨cells++ncells,dp',false⟩),(l,none)]⟩) (a.put (some d) (.slice (some ⟨w.heap.size,0,none⟩) (n+m) cap)) (w.drew.alloc (.cells cs' e)):=by
    intro cap cs' h1 h2 h3 h4
    refine hsim.layPut (ks:=ks) (ls:=[l]) (lJ w _) (b0:=w.heap.size) (by show _ < (w.heap.push _).size;simp) (fun b hb _=>pP w _ hb) (pQ w _) hnd hio (.inl (Nat.le_refl _)) (.inl hsim.kept.size) ⟨cells++ncells,dp',false⟩ (B:=Bo++Bp) ?_ (by simp) himAll (deepOk [l] (by simp)) hd (fun β' hβ=>?_)
    · refine RelL.keep (β:=dead) (h:=w.heap) _ _ _ _ (fun q _ m _ o hm=>by cases hm) (fun c hc=>pP w _ (himAll c hc).1) ?_
      exact (RelL.append _ _ _ _ _).2 ⟨Bo,Bp,h2,by rw [Nat.zero_add,hlen];exact h1,rfl⟩
    · simp only [RelV]
      refine ⟨trivial,fun h=>by rw [hβ] at h;simp at h,fun b hb=>?_⟩
      rw [hβ] at hb;cases hb
      exact ⟨cap,cs',e,by simp,pQ w _,by simpa using h4,h3⟩
  have hzsz:z.cells.size=sz:=z3.trans i2
  have h48:∀ old,old < n+m→Builtin.nextslicecap (n+m) old*i.bytes≤281474976710656:=fun old h=>growslice_fits h (by rw [i3];exact hb)
  rcases hob with ⟨p1,p2,p3⟩ | ⟨b,cs,u,p1,p2,p3,p4⟩
  · -- the base is nil
    obtain ⟨rfl,_,rfl⟩:=hx.2.1 p1
    simp only at p2;subst p2;subst p3
    by_cases hm:m=0
    · subst hm
      have hnc:=hcells0 rfl
      subst hnc
      have hxv:∃ ad c,xv=.slice ad 0 c:=by
        rcases hN.val with ⟨_,ad,c,h⟩ | ⟨x,c,h,_⟩
        · exact ⟨ad,c,h⟩
        · exact ⟨some x,c,h⟩
      obtain ⟨ad,c,rfl⟩:=hxv
      refine ⟨.slice none 0 0,w,kC (t:=t) (e:=e) (sz:=sz) w ty none ad 0 0 c (Nat.le_refl _),?_⟩
      obtain ⟨ow',h'⟩:=hsim.layNil hnd hio ks [l] dp' false
      have h2:=h'.put (d:=d) (v:=.ref d sz 0 0) (c:=.slice none 0 0) (O:=[]) hd (by simp only [RelV];exact ⟨trivial,fun _=>⟨trivial,trivial,trivial⟩,fun b hb=>by simp at hb⟩) (by simp)
      exact ⟨_,_,h2⟩
    · rcases hN.val with ⟨h0,_⟩ | ⟨x,c,rfl,hnews⟩
      · exact absurd h0 hm
      have hr:=run_append_nil (P:=P) w t ty e i z ht.ok z1 z2 x m c news (by rw [i2];exact hN.len) hnews (by omega) (by omega) (by have:=h48 0 (by omega);rw [nextslicecap_zero (by omega)] at this;simpa using this)
      have hge:=grownCap_ge w m 0 e
      refine ⟨_,_,hr,?_⟩
      have:=newBlock (grownCap w m 0 e) (news.toArray++Builtin.zeroCells z.cells (grownCap w m 0 e - m)) (RelL.shift _ _ _ _ _ _ (fun j hj=>by
          rw [Nat.zero_mul,Array.getElem?_append_left (by rw [hnl] at hj;simp [hN.len];omega)]) hN.rel) (by simp [RelL]) (by omega) (by
          simp only [Array.size_append,size_zeroCells,List.size_toArray,hN.len,hzsz];rw [← Nat.add_mul];exact Nat.mul_le_mul_right _ (by omega))
      simpa using this
  · obtain ⟨cap,cs',u',q1,q2,q3,q4⟩:=hx.2.2 b p1
    rw [p3] at q2;cases q2
    simp only [Nat.zero_mul,Nat.zero_add] at q1 q3
    subst q1
    have hbne:b < w.heap.size:=hsim.block_lt p1
    have hbase:Γ.nww b:=hsim.fresh l b p1 hiol
    by_cases hm:m=0
    · subst hm
      have hnc:=hcells0 rfl
      subst hnc
      have hxv:∃ ad c,xv=.slice ad 0 c:=by
        rcases hN.val with ⟨_,ad,c,h⟩ | ⟨x,c,h,_⟩
        · exact ⟨ad,c,h⟩
        · exact ⟨some x,c,h⟩
      obtain ⟨ad,c,rfl⟩:=hxv
      refine ⟨_,w,kC (t:=t) (e:=e) (sz:=sz) w ty (some ⟨b,0,none⟩) ad n cap c q4,?_⟩
      have hBp:Bp=[]:=by have:=hN.rel;simpa [RelL] using this
      subst hBp
      refine hsim.layPut (ks:=ks) (ls:=[l]) ⟨rfl,rfl,rfl,Nat.le_refl _⟩ (b0:=b) hbne (fun _ _ _=>rfl) p3 hnd hio (.inr ⟨l,by simp,p1⟩) hbase ⟨cells++[],dp',false⟩ (B:=Bo) ?_ (by simp) o1 (by simpa using deepOk [l] (by simp)) hd (fun β' hβ=>?_)
      · simpa using p4
      · simp only [RelV]
        refine ⟨trivial,fun h=>by rw [hβ] at h;simp at h,fun b' hb=>?_⟩
        rw [hβ] at hb;cases hb
        exact ⟨cap,cs,u,by simp,p3,by simpa using q3,by simpa using q4⟩
    · rcases hN.val with ⟨h0,_⟩ | ⟨x,c,rfl,hnews⟩
      · exact absurd h0 hm
      by_cases hroom:n+m≤cap
      · have hfit:n*sz+news.length≤cs.size:=by
          rw [hN.len,← Nat.add_mul];exact Nat.le_trans (Nat.mul_le_mul_right _ hroom) q3
        refine ⟨_,_,oJ (t:=t) (e:=e) (sz:=sz) w ty p3 x m c news hN.len hnews hN.one hroom hfit,?_⟩
        have hrow:=setRow_heap w b cs (cs.toList.take (n*sz)++news++cs.toList.drop (n*sz+news.length)).toArray u (0,0) p3
        have himne:∀ c,Im Γ ow w c→c≠b:=by rintro c ⟨_,_,h3⟩ rfl;exact h3 l p2
        have hsize:(cs.toList.take (n*sz)++news++cs.toList.drop (n*sz+news.length)).toArray.size=cs.size:=by simp;omega
        refine hsim.layPut (ks:=ks) (ls:=[l]) (lB w b _) (b0:=b) (by simpa using hbne) (fun c _ h=>setRow_other w b c _ h) hrow hnd hio (.inr ⟨l,by simp,p1⟩) hbase ⟨cells++ncells,dp',false⟩ (B:=Bo++Bp) ?_ (by simp) himAll (deepOk [l] (by simp)) hd (fun β' hβ=>?_)
        · refine RelL.keep (β:=dead) (h:=w.heap) _ _ _ _ (fun q _ m _ o hm=>by cases hm) (fun c hc=>setRow_other w b c _ (himne c (himAll c hc))) ?_
          have hlt:(cs.toList.take (n*sz)).length=n*sz:=by simp;omega
          refine (RelL.append _ _ _ _ _).2 ⟨Bo,Bp,RelL.shift _ _ _ _ _ _ (fun j hj=>?_) p4,RelL.shift _ _ _ _ _ _ (fun j hj=>?_) hN.rel,rfl⟩
          · simp only [Nat.zero_add,List.getElem?_toArray]
            rw [hlen] at hj
            rw [List.append_assoc,List.getElem?_append_left (by omega),List.getElem?_take,if_pos hj];simp
          · simp only [Nat.zero_add,List.getElem?_toArray]
            rw [hnl,← hN.len] at hj
            rw [hlen,List.append_assoc,List.getElem?_append_right (by omega),hlt,Nat.add_sub_cancel_left,List.getElem?_append_left hj]
        · simp only [RelV]
          refine ⟨trivial,fun h=>by rw [hβ] at h;simp at h,fun b' hb=>?_⟩
          rw [hβ] at hb;cases hb
          exact ⟨cap,_,u,by simp,hrow,by rw [hsize];simpa using q3,hroom⟩
      · have hcs:n*sz≤cs.size:=Nat.le_trans (Nat.mul_le_mul_right _ (by omega)) q3
        have hr:=run_append_grow (P:=P) w t ty e i z ht.ok z1 z2 ⟨b,0,none⟩ n cap (cs.toList.take (n*sz)) (by rw [i2];simp;omega) (fun j v hj=>by
            rw [List.getElem?_take] at hj
            split at hj
            · rw [Addr.add_lit,Nat.zero_add,cell_of_row w b j cs u (0,0) p3];simpa using hj
            · cases hj) x m c news (by rw [i2];exact hN.len) hnews (by omega) (by omega) (h48 cap (by omega))
        have hge:=grownCap_ge w (n+m) cap e
        refine ⟨_,_,hr,?_⟩
        have hlt:(cs.toList.take (n*sz)).length=n*sz:=by simp;omega
        refine newBlock (grownCap w (n+m) cap e) _ (RelL.shift _ _ _ _ _ _ (fun j hj=>?_) hN.rel) (RelL.shift _ _ _ _ _ _ (fun j hj=>?_) p4) (by omega) ?_
        · rw [hnl,← hN.len] at hj
          rw [Array.getElem?_append_left (by simp;omega),Array.getElem?_append_right (by simp;omega)]
          simp [show min (n*sz) cs.size=n*sz by omega]
        · rw [hlen] at hj
          rw [Nat.zero_add,Array.getElem?_append_left (by simp;omega),Array.getElem?_append_left (by simp;omega)]
          simp [hj]
        · simp only [Array.size_append,size_zeroCells,List.size_toArray,hN.len,hzsz,hlt];rw [← Nat.add_mul,← Nat.add_mul];exact Nat.mul_le_mul_right _ (by omega)
def fC:List PV→Bool
  | []=>true
  | .sc _::r=>fC r
  | _::_=>false
theorem jC {h:Array Obj} {q:Bool} {β:Nat→Option (Option Nat)}:∀ {ps:List PV} {cs:Array Value} {i:Nat} {B:List Nat},fC ps=true→RelL h q β ps cs i B→B=[]
  | [],_,_,_,_,H=>by simpa [RelL] using H
  | .sc v::ps,cs,i,B,hf,H=>by
    simp only [RelL] at H
    obtain ⟨c,B1,B2,_,h2,h3,rfl⟩:=H
    simp only [RelV] at h2
    rw [h2.2,jC (by simpa [fC] using hf) h3];rfl
  | .sl _ _::_,_,_,_,hf,_=>by simp [fC] at hf
  | .ref _ _ _ _::_,_,_,_,hf,_=>by simp [fC] at hf
  | .ptr _ _::_,_,_,_,hf,_=>by simp [fC] at hf
  | .iptr _::_,_,_,_,hf,_=>by simp [fC] at hf
  | .rw _ _ _::_,_,_,_,hf,_=>by simp [fC] at hf
  | .agg _::_,_,_,_,hf,_=>by simp [fC] at hf
  | .tup _::_,_,_,_,hf,_=>by simp [fC] at hf
  | .any::_,_,_,_,hf,_=>by simp [fC] at hf
theorem tY {m sz:Nat} {ncells:List PV} {c:Value} {B:List Nat} (H:RelV w.heap β (.sl m ncells) c B) (hl:ncells.length=m*sz):∃ Bp news,News w c m sz ncells Bp news∧∀ b ∈ Bp,b ∈ B:=by
  simp only [RelV] at H
  rcases H with ⟨rfl,rfl,rfl,ad,cap,rfl⟩ | ⟨b,off,cap,cs,u,f,B',⟨rfl,_⟩,h2,h3,rfl⟩
  · exact ⟨[],[],⟨by simp,by simp,by simp [RelL],.inl ⟨rfl,ad,cap,rfl⟩⟩,by simp⟩
  · obtain ⟨news,h⟩:=tZ (c:=cap) h2 h3 hl
    exact ⟨B',news,h,by simp +contextual⟩
theorem rN {x y:Operand} {t e sz by_ l n m:Nat} {agg dp:Bool} (scn:Bool) {zs cells ncells cells':List PV} {n':Nat} [ht:SlT P t e] [hi:TI P e sz agg by_] [hz:ZT P e zs] (hx:evq S x=some (.ref l sz 0 n)) (ho:loq O l=some ⟨cells,dp,false⟩) (hy:evq S y=some (.sl m ncells))
    (hlen:cells.length=n*sz) (hnl:ncells.length=m*sz) (hb:(n+m)*by_≤140737488355328) (h63:n+m≤9223372036854775807) (hio:Γ.io d=none∧Γ.io l=none) (hsc:scn=true→fC ncells=true) (hcat:cells++ncells=cells'∧n+m=n') (hd:Nat.blt d N=true) :
    Local Γ ⟨some d,.call ⟨.builtin .append,#[x,y],#[t,t]⟩,ty,pos,af,g⟩ ⟨S,O⟩ ⟨[(d,⟨.ref d sz 0 n',false⟩)],[(d,some ⟨cells',dp&&scn,false⟩),(l,none)]⟩ (ors x++ors y) [l] [d]:=by
  obtain ⟨rfl,rfl⟩:=hcat
  intro F hs hlo hnd
  refine bB fun a w ⟨ow,β,hsim⟩=>?_
  obtain ⟨B,h1,h2⟩:=cK hsim hx (fun k hk=>hs k (by simp [hk]))
  obtain ⟨By,g1,g2⟩:=cK hsim hy (fun k hk=>hs k (by simp [hk]))
  obtain ⟨Bp,news,hN,hsub⟩:=tY g1 hnl
  have hB:B=[]:=by simp only [RelV] at h1;exact h1.1
  subst hB
  obtain ⟨c,w',e1,e2⟩:=tI (ty:=ty) (t:=t) (e:=e) (dp':=dp&&scn) hsim h1 (by rw [hlo l (by simp),← dC];exact ho) hlen hN hnl (fun c hc=>g2 c (hsub c hc)) hb h63 ((aK _ _).1 hd) hio.1 (hnd d (by simp)) hio.2 [] (fun h=>by
    simp only [Bool.and_eq_true] at h
    rw [jC (hsc h.2) hN.rel]
    exact ⟨h.1,by simp,by simp⟩)
  refine ⟨c,w',?_,e2⟩
  simp [execOp,resolve,invoke,builtin,e1]
end
end Go.Ev
/- The engine, part N: own blocks become values again; results out of own blocks; changes of view. -/
namespace Go.Ev
open Go.RowKit (Below)
section
variable {P:Program} {N:Nat} {Γ:Ctx P N} {S:List (Nat × Slot)} {O:List (Nat × Option Ob)} {ow:Nat→Own} {β:Nat→Option (Option Nat)} {F:Env} {a:Act} {w:World}
variable {d:Nat} {ty:TypeId} {pos:String} {af:Array Edge} {g:Option (Nat × Bool)}
theorem Res1.ref {t l s n:Nat} {cells:List PV} {dp dp0:Bool} (h:lkq S t=some ⟨.ref l s 0 n,dp0⟩) (ho:loq O l=some ⟨cells,dp,false⟩) (hio:Γ.io l=none):Res1 Γ ⟨S,O⟩ (.tmp t) (.sl n cells) (if dp then .obj l else .none):=by
  intro ow β a w hs
  obtain ⟨B,h1,_,_⟩:=hs.slots t
  rw [eJ h] at h1
  simp only [RelV] at h1
  obtain ⟨Bo,o1,o2,hob⟩:=hs.objs l ⟨cells,dp,false⟩ (by rw [← dC];exact ho)
  rcases hob with ⟨p1,p2,p3⟩ | ⟨b,cs,u,p1,p2,p3,p4⟩
  · obtain ⟨rfl,_,e⟩:=h1.2.1 p1
    simp only at p2;subst p2
    exact ⟨_,[],rfl,by simp only [RelV];exact .inl ⟨trivial,trivial,trivial,_,_,e⟩,by simp,by simp⟩
  · obtain ⟨cap,cs',u',q1,_,_,q4⟩:=h1.2.2 b p1
    simp only [Nat.zero_mul] at q1
    refine ⟨_,b::Bo,rfl,by simp only [RelV];exact .inr ⟨b,0,cap,cs,u,(0,0),Bo,⟨q1,q4⟩,p3,p4,rfl⟩,fun c hc=>?_,fun hne=>?_⟩
    · rcases List.mem_cons.1 hc with rfl | hc
      · exact ⟨hs.block_lt p1,.inr (.inl (hs.fresh l _ p1 hio))⟩
      · exact ⟨(o1 c hc).1,(o1 c hc).2.1⟩
    · cases dp with
      | false=>simp at hne
      | true =>
        obtain ⟨e1,e2⟩:=o2 rfl
        refine ⟨List.nodup_cons.2 ⟨fun hb=>(by have:=(e2 b hb).1;rw [p2] at this;cases this),e1⟩,fun c hc=>?_⟩
        rcases List.mem_cons.1 hc with rfl | hc
        · exact ⟨⟨_,_,p3⟩,.inl (hs.fresh l _ p1 hio),.inr ⟨l,p2,rfl⟩⟩
        · obtain ⟨f1,f2⟩:=e2 c hc
          refine ⟨f2,?_,.inl (by rw [f1];rfl)⟩
          rcases (hs.own c (by rw [f1];simp)).2 with h | ⟨m,h,_⟩
          · exact h
          · rw [f1] at h;cases h
theorem mD {t n by_:Nat} [ht:TI P t n true by_] (w:World) {b k:Nat} {cs:Array Value} {u:TypeId} {fr:Nat × Nat} (hb:w.heap[b]?=some (.cells cs u fr)) (hk:k+n≤cs.size) :
    (loadVar t ⟨b,k,none⟩).run P w=.ok (.agg (cs.extract k (k+n))) w:=by
  have:=lC (P:=P) (t:=t) w hb hk
  simpa [Instr.loadAt,Instr.sureAddr] using this
theorem Res1.cell {t ty l n by_:Nat} {cells:List PV} {dp dp0:Bool} [ht:TI P ty n true by_] (h:lkq S t=some ⟨.ptr l 0,dp0⟩) (ho:loq O l=some ⟨cells,dp,false⟩) (hn:Nat.beq cells.length n=true) (hn0:n≠0):Res1 Γ ⟨S,O⟩ (.cell t ty) (.agg cells) (if dp then .obj l else .none):=by
  intro ow β a w hs
  obtain ⟨B,h1,_,_⟩:=hs.slots t
  rw [eJ h] at h1
  simp only [RelV] at h1
  have hn:=Nat.eq_of_beq_eq_true hn
  obtain ⟨Bo,o1,o2,hob⟩:=hs.objs l ⟨cells,dp,false⟩ (by rw [← dC];exact ho)
  rcases hob with ⟨_,e,_⟩ | ⟨b,cs,u,p1,p2,p3,p4⟩
  · simp only at e;subst e;simp at hn;exact absurd hn.symm hn0
  · have hlen:=RelL.length _ _ _ _ (Nat.zero_le _) p4
    simp only at hlen
    refine ⟨.agg (cs.extract 0 (0+n)),Bo,by simp [dJ,h1.2 b p1,asAddr,mD (t:=ty) w p3 (show 0+n≤cs.size by omega)],?_,fun c hc=>⟨(o1 c hc).1,(o1 c hc).2.1⟩,fun hne=>?_⟩
    · simp only [RelV]
      exact ⟨_,rfl,by simp;omega,iF hn p4⟩
    · cases dp with
      | false=>simp at hne
      | true =>
        obtain ⟨e1,e2⟩:=o2 rfl
        refine ⟨e1,fun c hc=>?_⟩
        obtain ⟨f1,f2⟩:=e2 c hc
        refine ⟨f2,?_,.inl (by rw [f1];rfl)⟩
        rcases (hs.own c (by rw [f1];simp)).2 with h | ⟨m,h,_⟩
        · exact h
        · rw [f1] at h;cases h
inductive LeL:List PV→List PV→Prop
  | nil:LeL [] []
  | same {p:PV} {ps qs:List PV}:LeL ps qs→LeL (p::ps) (p::qs)
  | nl {ps qs:List PV}:LeL ps qs→LeL (.sc (.slice none 0 0)::ps) (.sl 0 []::qs)
theorem LeL.refl:∀ ps:List PV,LeL ps ps
  | []=>.nil
  | _::r=>.same (LeL.refl r)
theorem LeL.app {a b c e:List PV} (h1:LeL a b) (h2:LeL c e):LeL (a++c) (b++e):=by
  induction h1 with
  | nil=>exact h2
  | same _ ih=>exact .same ih
  | nl _ ih=>exact .nl ih
theorem LeL.rel {h:Array Obj} {q:Bool} {β:Nat→Option (Option Nat)} {ps qs:List PV} (hl:LeL ps qs):∀ {cs:Array Value} {i:Nat} {B:List Nat},RelL h q β ps cs i B→RelL h q β qs cs i B:=by
  induction hl with
  | nil=>exact fun H=>H
  | same _ ih =>
    intro cs i B H
    simp only [RelL] at H ⊢
    obtain ⟨c,B1,B2,h1,h2,h3,h4⟩:=H
    exact ⟨c,B1,B2,h1,h2,ih h3,h4⟩
  | nl _ ih =>
    intro cs i B H
    simp only [RelL] at H ⊢
    obtain ⟨c,B1,B2,h1,h2,h3,h4⟩:=H
    simp only [RelV] at h2
    exact ⟨c,B1,B2,h1,by simp only [RelV];exact .inl ⟨trivial,trivial,h2.2,_,_,h2.1⟩,ih h3,h4⟩
theorem Ent.cells {l:Nat} {cells cells':List PV} {dp bx:Bool} (ho:loq O l=some ⟨cells,dp,bx⟩) (hl:LeL cells cells') (hn:cells=[]→cells'=[]):Ent Γ ⟨S,O⟩ ⟨S,(l,some ⟨cells',dp,bx⟩)::O⟩:=by
  rintro a w ⟨ow,β,h⟩
  have ho':lo (Env.mk S O).o l=some ⟨cells,dp,bx⟩:=by rw [← dC];exact ho
  refine ⟨ow,β,{ size:=h.size,defers:=h.defers,kept:=h.kept,slots:=h.slots,objs:=fun m ob hm=>?_,gone:=fun m hm=>?_,own:=h.own,ios:=fun m b hm hs=>?_,fresh:=h.fresh }⟩
  · simp only [aZ] at hm
    by_cases hml:l=m
    · subst hml
      rw [if_pos rfl] at hm;cases hm
      obtain ⟨B,o1,o2,o3⟩:=h.objs l _ ho'
      refine ⟨B,o1,o2,o3.imp (fun ⟨e1,e2,e3⟩=>⟨e1,hn e2,e3⟩) fun ⟨b,cs,t,e1,e2,e3,e4⟩=>⟨b,cs,t,e1,e2,e3,hl.rel e4⟩⟩
    · rw [if_neg hml] at hm;exact h.objs m ob hm
  · simp only [aZ] at hm
    by_cases hml:l=m
    · rw [if_pos hml] at hm;cases hm
    · rw [if_neg hml] at hm;exact h.gone m hm
  · simp only [aZ] at hs
    by_cases hml:l=m
    · subst hml;exact h.ios l b hm (by rw [ho'];rfl)
    · rw [if_neg hml] at hs;exact h.ios m b hm hs
end
end Go.Ev
/- The engine, part O: what was handed in, read as typed data; what a law's call leaves. -/
namespace Go.Ev
open Go.RowKit (Below)
open Go.ChangeShapes Go.WideShapes Go.ChangeAt
class Dec (P:Program) (t:Nat) {α:outParam Type} (enc:outParam (α→List PV)) (ok:outParam (α→Prop)):Prop where
  dec:∀ {H:Type} (e:TypeId × Value→H) (w:World) (fuel:Nat) (cs:List Value) (x:DataW H × List MemPlace),DataW.trod e P w 0 (fun _=>true) true fuel t cs=some x→∃ y:α,ok y∧cs.length=(enc y).length∧∃ B,RelL w.heap true dead (enc y) cs.toArray 0 B
def vT (k:IntKind) (n:Int):List PV:=[.sc (.int k n)]
def fW (s:ByteArray):List PV:=[.sc (.string s)]
def vU (b:Bool):List PV:=[.sc (.bool b)]
def uF {α:Type} (enc:α→List PV) (l:List α):List PV:=[.sl l.length (l.flatMap enc)]
def okI (k:IntKind) (n:Int):Prop:=(Lit.int k n).wf=true
def okS (s:ByteArray):Prop:=s.size≤maxLen
def okL {α:Type} (ok:α→Prop) (l:List α):Prop:=l.length≤maxLen∧∀ y ∈ l,ok y
section
variable {P:Program}
theorem iG {h:Array Obj} (v:Value) (hv:v.oneCell'=true):RelL h true dead [.sc v] [v].toArray 0 []:=by
  simp only [RelL]
  exact ⟨v,[],[],⟨by simp,fun _=>hv⟩,by simp [RelV],rfl,rfl⟩
theorem Dec.int {t:Nat} {k:IntKind} (ht:P.underlying t=some (.int k)):Dec P t (vT k) (okI k):=⟨fun e w fuel cs x h=>by
  obtain ⟨n,rfl,_,hw⟩:=DataW.trod_int ht h
  exact ⟨n,hw,rfl,[],iG _ rfl⟩⟩
theorem Dec.str {t:Nat} (ht:P.underlying t=some .string):Dec P t fW okS:=⟨fun e w fuel cs x h=>by
  obtain ⟨s,rfl,_,hs⟩:=DataW.trod_string ht h
  exact ⟨s,hs,rfl,[],iG _ rfl⟩⟩
theorem Dec.bool {t:Nat} (ht:P.underlying t=some .bool):Dec P t vU (fun _=>True):=⟨fun e w fuel cs x h=>by
  obtain ⟨b,rfl,_⟩:=DataW.trod_bool ht h
  exact ⟨b,trivial,rfl,[],iG _ rfl⟩⟩
theorem nW {α β:Type} (f:α→Option β):∀ (l:List α) (r:List β),l.mapM f=some r→r.length=l.length∧∀ (j:Nat) (x:α),l[j]?=some x→f x=r[j]?
  | [],r,h=>by
    simp at h;subst h;simp
  | x::l,r,h=>by
    rw [List.mapM_cons] at h
    cases hx:f x with
    | none=>rw [hx] at h;simp at h
    | some y =>
      rw [hx] at h
      cases hl:l.mapM f with
      | none=>rw [hl] at h;simp at h
      | some r' =>
        rw [hl] at h
        simp at h;subst h
        obtain ⟨h1,h2⟩:=nW f l r' hl
        refine ⟨by simp [h1],fun j z hz=>?_⟩
        cases j with
        | zero=>simp at hz;subst hz;simp [hx]
        | succ j=>simp at hz;simpa using h2 j z hz
theorem nA {w:World} {a:Addr} {n:Nat} {l:List Value} (h:w.cells? 0 a n=some l):l.length=n∧∀ j,j < n→w.cell? (a.add j)=l[j]?:=by
  unfold World.cells? at h
  rw [if_pos (Nat.zero_le _)] at h
  obtain ⟨h1,h2⟩:=nW _ _ _ h
  exact ⟨by simpa using h1,fun j hj=>h2 j j (by simp [hj])⟩
theorem qP {w:World} {a:Addr} {v:Value} (h:w.cell? a=some v):a.spot=none∧∃ cs t f,w.heap[a.block]?=some (.cells cs t f)∧cs[a.off]?=some v:=by
  unfold World.cell? at h
  split at h
  · rename_i c t f hc
    cases hs:a.spot with
    | none=>rw [hs] at h;simp at h;exact ⟨rfl,c,t,f,hc,h⟩
    | some s=>rw [hs] at h;simp at h
  · cases h
theorem Dec.slice {t e:Nat} {α:Type} {enc:α→List PV} {ok:α→Prop} (ht:P.underlying t=some (.slice e)) [hd:Dec P e enc ok] (sz:Nat) (hc:P.cellsOf e=sz) (h0:sz≠0) (hsz:∀ y,(enc y).length=sz):Dec P t (uF enc) (okL ok):=⟨fun {H} en w fuel cs x h=>by
  rcases DataW.trod_slice ht h with ⟨rfl,_⟩ | ⟨a,len,cap,elems,rest,n,_,rfl,_,_,hl,hm,hlen,hel,_,_⟩
  · exact ⟨[],⟨by simp [maxLen],by simp⟩,rfl,[],by
      simp only [uF,RelL]
      exact ⟨.slice none 0 0,[],[],⟨by simp,fun _=>rfl⟩,by simp only [RelV];exact .inl ⟨by simp,by simp,by simp,_,_,rfl⟩,rfl,rfl⟩⟩
  · rcases Nat.eq_zero_or_pos len with rfl | hpos
    · exact ⟨[],⟨by simp [maxLen],by simp⟩,rfl,[],by
        simp only [uF,RelL]
        exact ⟨.slice (some a) 0 cap,[],[],⟨by simp,fun _=>rfl⟩,by simp only [RelV];exact .inl ⟨by simp,by simp,by simp,_,_,rfl⟩,rfl,rfl⟩⟩
    · rw [hc] at hel
      have each:∀ i,i < len→∃ y:α,ok y∧∃ sub:List Value,w.cells? 0 (a.add (i*sz)) sz=some sub∧sub.length=(enc y).length∧∃ B,RelL w.heap true dead (enc y) sub.toArray 0 B:=by
        intro i hi
        have h1:=hel i hi
        rw [List.getElem?_eq_getElem (by omega)] at h1
        obtain ⟨sub,h2,h3⟩:=Option.bind_eq_some_iff.1 h1
        obtain ⟨y,g1,g2,g3⟩:=hd.dec en w n sub _ h3
        exact ⟨y,g1,sub,h2,g2,g3⟩
      obtain ⟨y0,_,sub0,q1,q2,_⟩:=each 0 hpos
      obtain ⟨q3,q4⟩:=nA q1
      have q5:=q4 0 (by omega)
      rw [List.getElem?_eq_getElem (by omega)] at q5
      obtain ⟨hsp,row,ut,fr,hrow,_⟩:=qP q5
      have ha:a.spot=none∧((a.add (0*sz)).add 0).block=a.block:=by
        cases hs:a.spot with
        | none=>refine ⟨rfl,?_⟩;unfold Addr.add;simp [hs]
        | some s =>
          exfalso
          have:((a.add (0*sz)).add 0).spot.isSome=true:=by
            unfold Addr.add;simp [hs]
          rw [hsp] at this;cases this
      obtain ⟨bl,off,sp⟩:=a
      obtain ⟨ha1,hbl⟩:=ha
      simp only at ha1;subst ha1
      rw [hbl] at hrow
      have cellAt:∀ k,w.cell? ⟨bl,k,none⟩=row[k]?:=fun k=>cell_of_row w bl k row ut fr hrow
      have build:∀ m,m≤len→∃ l:List α,l.length=m∧(∀ y ∈ l,ok y)∧∃ B,RelL w.heap true dead (l.flatMap enc) row off B:=by
        intro m
        induction m with
        | zero=>intro _;exact ⟨[],rfl,by simp,[],by simp [RelL]⟩
        | succ m ih =>
          intro hm'
          obtain ⟨l,l1,l2,B,l3⟩:=ih (by omega)
          obtain ⟨y,y1,sub,y2,y3,B2,y4⟩:=each m (by omega)
          obtain ⟨s1,s2⟩:=nA y2
          refine ⟨l++[y],by simp [l1],?_,B++B2,?_⟩
          · intro z hz
            rcases List.mem_append.1 hz with hz | hz
            · exact l2 z hz
            · simp at hz;subst hz;exact y1
          · rw [List.flatMap_append]
            refine (RelL.append _ _ _ _ _).2 ⟨B,B2,l3,?_,rfl⟩
            rw [gJ hsz,l1]
            simp only [List.flatMap_cons,List.flatMap_nil,List.append_nil]
            refine RelL.shift _ _ _ _ _ _ (fun j hj=>?_) y4
            have:=s2 j (by omega)
            rw [Addr.add_lit,Addr.add_lit,cellAt] at this
            rw [Nat.zero_add,this];simp
      obtain ⟨l,l1,l2,B,l3⟩:=build len (Nat.le_refl _)
      refine ⟨l,⟨by omega,l2⟩,rfl,bl::B,?_⟩
      simp only [uF,RelL]
      refine ⟨.slice (some ⟨bl,off,none⟩) len cap,bl::B,[],⟨by simp,fun _=>rfl⟩,?_,rfl,by simp⟩
      simp only [RelV]
      exact .inr ⟨bl,off,cap,row,ut,fr,B,⟨by rw [l1],by rw [l1];exact hl⟩,hrow,l3,rfl⟩⟩
structure DecF (P:Program) (fs:List Field) (off:Nat) {α:Type} (enc:α→List PV) (ok:α→Prop):Prop where
  dec:∀ {H:Type} (e:TypeId × Value→H) (w:World) (fuel:Nat) (cs:List Value) (xs:List (DataW H × List MemPlace)),fs.mapM (fun f=>DataW.trod e P w 0 (fun _=>true) true fuel f.type ((cs.drop f.offset).take (P.cellsOf f.type)))=some xs→∃ y:α,ok y∧∃ B,RelL w.heap true dead (enc y) cs.toArray off B
theorem DecF.nil {off:Nat}:DecF P [] off (fun _:Unit=>[]) (fun _=>True):=⟨fun _ _ _ _ _ _=>⟨(),trivial,[],by simp [RelL]⟩⟩
theorem DecF.cons {f:Field} {fs:List Field} {off n:Nat} {α β:Type} {e1:α→List PV} {ok1:α→Prop} {e2:β→List PV} {ok2:β→Prop} (hf:f.offset=off) [hd:Dec P f.type e1 ok1] (hc:P.cellsOf f.type=n) (hn:∀ y,(e1 y).length=n) (h2:DecF P fs (off+n) e2 ok2) :
    DecF P (f::fs) off (fun y:α × β=>e1 y.1++e2 y.2) (fun y=>ok1 y.1∧ok2 y.2):=⟨fun {H} e w fuel cs xs h=>by
  rw [List.mapM_cons] at h
  cases hx:DataW.trod e P w 0 (fun _=>true) true fuel f.type ((cs.drop f.offset).take (P.cellsOf f.type)) with
  | none=>rw [hx] at h;simp at h
  | some x =>
    rw [hx] at h
    cases hl:fs.mapM (fun f=>DataW.trod e P w 0 (fun _=>true) true fuel f.type ((cs.drop f.offset).take (P.cellsOf f.type))) with
    | none=>rw [hl] at h;simp at h
    | some r =>
      obtain ⟨y1,o1,l1,B1,r1⟩:=hd.dec e w fuel _ _ hx
      obtain ⟨y2,o2,B2,r2⟩:=h2.dec e w fuel cs r hl
      refine ⟨(y1,y2),⟨o1,o2⟩,B1++B2,(RelL.append _ _ _ _ _).2 ⟨B1,B2,RelL.shift _ _ _ _ _ _ (fun j hj=>?_) r1,by rw [hn];exact r2,rfl⟩⟩
      rw [Nat.zero_add,List.getElem?_toArray,List.getElem?_toArray,List.getElem?_take,if_pos (by rw [hn] at hj;rw [hc];exact hj),List.getElem?_drop,hf]⟩
theorem Dec.struct {t:Nat} {fs:Array Field} {α β:Type} {enc:α→List PV} {ok:α→Prop} {enc':β→List PV} {ok':β→Prop} (ht:P.underlying t=some (.struct fs)) {n:Nat} (hc:P.cellsOf t=n) (h:DecF P fs.toList 0 enc ok) (g:α→β) (hg:∀ y,enc' (g y)=enc y) (ho:∀ y,ok y→ok' (g y)) (hn:∀ y,(enc' y).length=n):Dec P t enc' ok':=⟨fun {H} e w fuel cs x hx=>by
  cases fuel with
  | zero=>simp [DataW.trod] at hx
  | succ fuel =>
    have h1:(if cs.length=P.cellsOf t then (fs.toList.mapM fun f=>DataW.trod e P w 0 (fun _=>true) true fuel f.type ((cs.drop f.offset).take (P.cellsOf f.type))).map fun xs=>((DataW.agg (xs.map (·.1)):DataW H),xs.flatMap (·.2)) else none)=some x:=by
      rw [← hx]
      simp only [DataW.trod,ht]
    by_cases hl:cs.length=P.cellsOf t
    · rw [if_pos hl] at h1
      cases hm:(fs.toList.mapM fun f=>DataW.trod e P w 0 (fun _=>true) true fuel f.type ((cs.drop f.offset).take (P.cellsOf f.type))) with
      | none=>rw [hm] at h1;simp at h1
      | some xs =>
        obtain ⟨y,o,B,r⟩:=h.dec e w fuel cs xs hm
        exact ⟨g y,ho y o,by rw [hn,hl,hc],B,by rw [hg];exact r⟩
    · rw [if_neg hl] at h1;cases h1⟩
theorem tG {H:Type} {t:Nat} {α:Type} {enc:α→List PV} {ok:α→Prop} [hd:Dec P t enc ok] {e:TypeId × Value→H} {w:World} {b0:Nat} {v:Value} {d:DataW H} {ps:List MemPlace} {r:Reach} {dd:TypeDesc} (hu:P.underlying t=some dd) (hnag:(match dd with | .struct _ | .array _ _=>true | _=>false)=false) (hv:Value.okWide P w r b0 t v) (h:DataW.Trod e P w 0 (fun _=>true) true t v d ps) (h1:∀ y,(enc y).length=1) :
    ∃ y:α,ok y∧∀ p,enc y=[p]→∃ B,RelV w.heap dead p v B:=by
  obtain ⟨fuel,hf⟩:=h
  have hc:v.cells.toList=[v]:=by
    have hw:Cell.okWide P w r b0 t v:=by
      unfold Value.okWide at hv
      rw [hu] at hv
      cases dd <;> simp_all
    cases v <;> first | rfl | (exfalso;unfold Cell.okWide at hw;rw [hu] at hw;cases dd <;> simp_all [Cell.ok])
  rw [hc] at hf
  obtain ⟨y,o,_,B,rl⟩:=hd.dec e w fuel _ _ hf
  refine ⟨y,o,fun p hp=>?_⟩
  rw [hp] at rl
  simp only [RelL] at rl
  obtain ⟨c,B1,B2,g1,g2,_⟩:=rl
  simp at g1
  rw [← g1.1] at g2
  exact ⟨B1,g2⟩
theorem jG {H:Type} {enc:TypeId × Value→H} (hl:laidOutB P=true) {W W':World} (hb:Below W.heap.size W W'):∀ {ts:List TypeId} {vs:List Value} {ds:List (DataW H)} {ps:List MemPlace},ts.all (fun t=>P.readableRec t&&decide (t < P.types.size))=true→(∀ x ∈ ps,x.block < W.heap.size) →
    DataW.TrodAll enc P W 0 (fun _=>true) true ts vs ds ps→DataW.TrodAll enc P W' 0 (fun b=>decide (b < W.heap.size)) true ts vs ds ps
  | [],vs,ds,ps,_,_,h=>by
    obtain ⟨rfl,rfl,rfl⟩:=trodAll_nil h;exact trodAll_mk0
  | t::ts,vs,ds,ps,ht,hlt,h=>by
    obtain ⟨v,vs1,d,ds1,p,q,rfl,rfl,rfl,h1,h2⟩:=trodAll_cons h
    simp only [List.all_cons,Bool.and_eq_true,decide_eq_true_eq] at ht
    exact ⟨p,q,Below.trod hl ht.1.1 ht.1.2 h1 hb (fun x hx=>hlt x (by simp [hx])),jG hl hb ht.2 (fun x hx=>hlt x (by simp [hx])) h2,rfl⟩
theorem qI {H:Type} {enc:TypeId × Value→H} {f:Func} {s:ChangeSpec} {W W':World} {args:Array Value} {ds gs:List (DataW H)} {before:List MemPlace} {T:TypeId}
    (hW:DataW.Whole enc P f.params.toList s.vars false W args.toList ds gs before) (hb:Below W.heap.size W W') (hl:laidOutB P=true) (hread:f.params.toList.all (fun t=>P.readableRec t&&decide (t < P.types.size))=true)
    (hres:f.resultTypes=#[T]) (hT:P.underlying T=some .bool) (hv:s.vars=[]) (hs:(s.fn H (ds++[])).results=[.lit (.bool true)]∧(s.fn H (ds++[])).args=ds∧(s.fn H (ds++[])).vars=[]) :
    s.post enc P f false true false false W args (.bool true) W':=by
  have hW0:=hW
  have hlt:=hW.lt
  obtain ⟨p,q,h1,h2,rfl,_,_⟩:=hW
  rw [hv] at h2
  obtain ⟨rfl,rfl⟩:=trodVars_none h2
  refine ⟨ds,[],p++[],[],p,[],hW0,?_,?_,?_,hb.frame _,fun h=>by cases h⟩
  · rw [hs.1,hres]
    exact trodAll_mk1 ⟨1,by simp [DataW.trod,Value.cells,hT]⟩
  · rw [hs.2.1]
    exact jG hl hb hread (fun x hx=>hlt x (by simp [hx])) h1
  · rw [hs.2.2,hv];rfl
end
end Go.Ev
/- The engine, part P: ends of walks, in short. -/
namespace Go.Ev
open Go.RowKit (Below)
section
variable {P:Program} {N:Nat} {Γ:Ctx P N} {S:List (Nat × Slot)} {O:List (Nat × Option Ob)}
end
theorem rZ {α:Type} {enc:α→List PV} {l:List α} {y:α}:l.flatMap enc++enc y=(l++[y]).flatMap enc∧l.length+1=(l++[y]).length:=by simp
end Go.Ev
/- The engine, part R: bytes and strings. -/
namespace Go.Ev
open Go.RowKit (Below)
section
variable {P:Program} {N:Nat} {Γ:Ctx P N} {S:List (Nat × Slot)} {O:List (Nat × Option Ob)}
variable {d:Nat} {ty:TypeId} {pos:String} {af:Array Edge} {g:Option (Nat × Bool)}
def u8s (bs:List UInt8):List PV:=bs.map fun b=>.sc (.int .u8 b.toNat)
theorem qX {h:Array Obj} {q:Bool} {β:Nat→Option (Option Nat)}:∀ {bs:List UInt8} {cs:Array Value} {i:Nat} {B:List Nat},RelL h q β (u8s bs) cs i B→∀ j (hj:j < bs.length),cs[i+j]?=some (.int .u8 (bs[j].toNat:Int))
  | [],_,_,_,_,j,hj=>by simp at hj
  | b::bs,cs,i,B,H,j,hj=>by
    simp only [u8s,List.map_cons,RelL] at H
    obtain ⟨c,B1,B2,h1,h2,h3,_⟩:=H
    simp only [RelV] at h2
    cases j with
    | zero=>rw [h2.1] at h1;simpa using h1.1
    | succ j =>
      have:=qX (bs:=bs) (cs:=cs) (i:=i+1) (B:=B2) (by simpa only [u8s] using h3) j (by simpa using hj)
      rw [show i+(j+1)=i+1+j by omega];simpa using this
theorem uK {x:Operand} {src dst e n:Nat} {cells:List PV} (bs:List UInt8) [hs:SlT P src e] [he:UT P e (.int .u8)] [ht:UT P dst .string] (hx:evq S x=some (.sl n cells)) (hc:cells=u8s bs∧n=bs.length) (hd:Nat.blt d N=true) :
    Local Γ ⟨some d,.convert src dst x,ty,pos,af,g⟩ ⟨S,O⟩ ⟨[(d,⟨.sc (.string ⟨bs.toArray⟩),false⟩)],[]⟩ (ors x) [] [] :=
  qB rfl hd fun F a w hsim hl=>by
    obtain ⟨ow,β,hsim⟩:=hsim
    obtain ⟨B,h1,_⟩:=cK hsim hx hl
    obtain ⟨rfl,rfl⟩:=hc
    simp only [RelV] at h1
    have key:(convert src dst (a.eval x)).run P w=.ok (.string ⟨bs.toArray⟩) w:=by
      rcases h1 with ⟨h0,_,_,ad,cap,e1⟩ | ⟨b,off,cap,cs,u,f,B',⟨e1,_⟩,e2,e3,_⟩
      · have hb0:bs=[]:=List.length_eq_zero_iff.1 h0
        subst hb0
        rw [e1]
        cases ad with
        | none=>exact run_convert_bytes_nil w src e hs.ok he.ok 0 cap dst ht.ok
        | some ad=>exact run_convert_bytes_back w src dst e ad cap [] hs.ok he.ok ht.ok (by simp)
      · rw [e1]
        refine run_convert_bytes_back w src dst e ⟨b,off,none⟩ cap bs hs.ok he.ok ht.ok (fun j hj=>?_)
        rw [Addr.add_lit,cell_of_row w b (off+j) cs u f e2]
        exact qX e3 j hj
    simp [execOp,key]
end
end Go.Ev
/- The engine, part S: what a lifted function is made of; loops and cuts that go by it. -/
namespace Go.Ev
open Go.RowKit (Below)
def idx {α:Type} (l:List α) (j:Int):Option α:=if 0≤j then l[j.toNat]? else none
def sub {α:Type} (l:List α) (a b:Int):Option (List α):=if 0≤a∧a≤b∧b≤l.length then some ((l.drop a.toNat).take (b - a).toNat) else none
def vO {α:Type} (l:List α) (j:Int) (y:α):List α:=l.set j.toNat y
def chk (p:Prop) [Decidable p]:Option Unit:=if p then some () else none
def cI (s:ByteArray) (j:Int):Option Int:=if 0≤j∧j < s.size then some ((s.data.toList.getD j.toNat 0).toNat:Int) else none
def eQ (s:ByteArray) (a b:Int):Option ByteArray:=if 0≤a∧a≤b∧b≤s.size then some (s.extract a.toNat b.toNat) else none
section lift
variable {α β:Type}
theorem aB {o:Option α} {K:α→Option β} {r:β} (H:o.bind K=some r):∃ x,o=some x∧K x=some r:=by
  cases o with
  | none=>cases H
  | some x=>exact ⟨x,rfl,H⟩
theorem ifT {c:Prop} {_:Decidable c} {a b:Option α} {r:α} (h:c) (H:(if c then a else b)=some r):a=some r:=by rw [if_pos h] at H;exact H
theorem ifF {c:Prop} {_:Decidable c} {a b:Option α} {r:α} (h:¬c) (H:(if c then a else b)=some r):b=some r:=by rw [if_neg h] at H;exact H
theorem bT {c:Bool} {a b:Option α} {r:α} (h:c=true) (H:(if c=true then a else b)=some r):a=some r:=by rw [if_pos h] at H;exact H
theorem bU {c:Bool} {a b:Option α} {r:α} (h:c=false) (H:(if c=true then a else b)=some r):b=some r:=by rw [h] at H;exact H
theorem uW {l:List α} {j:Int} {y:α} (h:idx l j=some y):0≤j∧l[j.toNat]?=some y∧j.toNat < l.length:=by
  unfold idx at h
  by_cases hj:0≤j
  · rw [if_pos hj] at h;exact ⟨hj,h,(List.getElem?_eq_some_iff.1 h).1⟩
  · rw [if_neg hj] at h;cases h
theorem cX {p:Prop} {_:Decidable p} {u:Unit} (h:chk p=some u):p:=by
  unfold chk at h
  by_cases hp:p
  · exact hp
  · rw [if_neg hp] at h;cases h
section loops
variable {σ ρ:Type}
inductive Reach (step:σ→Option (σ ⊕ ρ)):σ→ρ→Nat→Prop
  | done {s:σ} {r:ρ}:step s=some (.inr r)→Reach step s r 0
  | more {s s':σ} {r:ρ} {n:Nat}:step s=some (.inl s')→Reach step s' r n→Reach step s r (n+1)
theorem Reach.det {step:σ→Option (σ ⊕ ρ)} {s:σ} {r r':ρ} {n n':Nat} (h:Reach step s r n) (h':Reach step s r' n'):r=r':=by
  induction h generalizing n' with
  | done e=>cases h' with
    | done e'=>rw [e] at e';cases e';rfl
    | more e' _=>rw [e] at e';cases e'
  | more e _ ih=>cases h' with
    | done e'=>rw [e] at e';cases e'
    | more e' g=>rw [e] at e';cases e';exact ih g
open Classical in
noncomputable def lp (step:σ→Option (σ ⊕ ρ)) (s:σ):Option ρ:=if h:∃ r n,Reach step s r n then some h.choose else none
theorem lR {step:σ→Option (σ ⊕ ρ)} {s:σ} {r:ρ}:lp step s=some r↔∃ n,Reach step s r n:=by
  unfold lp
  constructor
  · intro h
    split at h
    · rename_i hx;cases h;exact hx.choose_spec
    · cases h
  · rintro ⟨n,h⟩
    rw [dif_pos ⟨r,n,h⟩]
    have hx:∃ r n,Reach step s r n:=⟨r,n,h⟩
    obtain ⟨m,hm⟩:=hx.choose_spec
    exact congrArg some (hm.det h)
theorem bP {step:σ→Option (σ ⊕ ρ)} {s:σ} {r:ρ} (h:step s=some (.inr r)):lp step s=some r:=lR.2 ⟨0,.done h⟩
theorem dB {step:σ→Option (σ ⊕ ρ)} {s s':σ} (h:step s=some (.inl s')):lp step s=lp step s':=by
  apply Option.ext
  intro r
  rw [lR,lR]
  constructor
  · rintro ⟨n,hn⟩
    cases hn with
    | done e=>rw [h] at e;cases e
    | more e g=>rw [h] at e;cases e;exact ⟨_,g⟩
  · rintro ⟨n,hn⟩;exact ⟨n+1,.more h hn⟩
end loops
end lift
section
variable {P:Program} {N:Nat} {Γ:Ctx P N} {E:Env} {Q:Exit→Env→Prop}
def fU {σ ρ:Type} (Γ:Ctx P N) (Es:σ→Env) (Xe:ρ→Exit→Env→Prop) (o:σ ⊕ ρ):Exit→Env→Prop
  | .normal,E=>∃ s',o=.inl s'∧Ent Γ E (Es s')
  | e,E=>∃ x,o=.inr x∧Xe x e E
theorem CodeT.lloop {σ ρ:Type} {step:σ→Option (σ ⊕ ρ)} {s0:σ} {x:ρ} {c:Code} (Es:σ→Env) (Xe:ρ→Exit→Env→Prop) (hx:lp step s0=some x) (he:Ent Γ E (Es s0))
    (hr:∀ s o,step s=some o→CodeT Γ c (Es s) (fU Γ Es Xe o)) (hq:∀ e E',Xe x e E'→Q e E'):CodeT Γ (.loop c) E Q:=by
  obtain ⟨n,hn⟩:=lR.1 hx
  refine CodeT.loop (fun m E=>∃ s,E=Es s∧Reach step s x m) n (Es s0) he ⟨s0,rfl,hn⟩ ?_
  rintro m E' ⟨s,rfl,hs⟩
  cases hs with
  | done e =>
    refine (hr s _ e).mono fun ex E' h=>?_
    cases ex with
    | normal=>obtain ⟨s',h1,_⟩:=h;cases h1
    | exit i=>obtain ⟨y,h1,h2⟩:=h;cases h1;exact hq _ _ h2
    | goto i=>obtain ⟨y,h1,h2⟩:=h;cases h1;exact hq _ _ h2
    | ret=>obtain ⟨y,h1,h2⟩:=h;cases h1;exact hq _ _ h2
    | panic i=>obtain ⟨y,h1,h2⟩:=h;cases h1;exact hq _ _ h2
    | outgrown=>obtain ⟨y,h1,h2⟩:=h;cases h1;exact hq _ _ h2
  | @more _ s' _ k e g =>
    refine (hr s _ e).mono fun ex E' h=>?_
    cases ex with
    | normal =>
      obtain ⟨s2,h1,h2⟩:=h;cases h1
      exact ⟨k,Es s',by omega,h2,s',rfl,g⟩
    | exit i=>obtain ⟨y,h1,h2⟩:=h;cases h1
    | goto i=>obtain ⟨y,h1,h2⟩:=h;cases h1
    | ret=>obtain ⟨y,h1,h2⟩:=h;cases h1
    | panic i=>obtain ⟨y,h1,h2⟩:=h;cases h1
    | outgrown=>obtain ⟨y,h1,h2⟩:=h;cases h1
def sF {ρ:Type} (Xe:ρ→Exit→Env→Prop) (x:ρ):Exit→Env→Prop:=fun e E=>Xe x e E
theorem CodeT.lcut {ρ:Type} {x:ρ} {c:Code} (Xe:ρ→Exit→Env→Prop) (hc:CodeT Γ c E (sF Xe x)) (hq:∀ e E',Xe x e E'→Q e E'):CodeT Γ c E Q:=hc.mono hq
section
variable {σ ρ:Type} {Es:σ→Env} {Xe:ρ→Exit→Env→Prop} {s':σ} {x:ρ} {i:Nat}
theorem y1 (h:Ent Γ E (Es s')):fU Γ Es Xe (.inl s') .normal E:=⟨s',rfl,h⟩
theorem y2 (h:Xe x .ret E):fU Γ Es Xe (.inr x) .ret E:=⟨x,rfl,h⟩
theorem y3 (h:Xe x (.exit i) E):fU Γ Es Xe (.inr x) (.exit i) E:=⟨x,rfl,h⟩
theorem y4 {e:Exit} (h:Xe x e E):sF Xe x e E:=h
end
def XEnv (Γ:Ctx P N) (e0:Exit) (E0:Env) (e:Exit) (E:Env):Prop:=e=e0∧Ent Γ E E0
def XRet (Γ:Ctx P N) (rs:Array ResultVar) (r:PV) (deep:Bool) (e:Exit) (E:Env):Prop:=e=.ret∧RetIs Γ rs E r deep
theorem XEnv.out {e0 e:Exit} {E0 E:Env} (h:XEnv Γ e0 E0 e E):e=e0∧Ent Γ E E0:=h
theorem XRet.out {rs:Array ResultVar} {r:PV} {deep:Bool} {e:Exit} {E:Env} (h:XRet Γ rs r deep e E):e=.ret∧RetIs Γ rs E r deep:=h
theorem XEnv.mk {e:Exit} {E0:Env} (h:Ent Γ E E0):XEnv Γ e E0 e E:=⟨rfl,h⟩
theorem XRet.mk {rs:Array ResultVar} {r:PV} {deep:Bool} (h:RetIs Γ rs E r deep):XRet Γ rs r deep .ret E:=⟨rfl,h⟩
end
end Go.Ev
/- The engine, part T: more operations: parts of slices and strings, components, literals of several elements; elements by a lifted index. -/
namespace Go.Ev
open Go.RowKit (Below)
section
variable {P:Program} {N:Nat} {Γ:Ctx P N} {S:List (Nat × Slot)} {O:List (Nat × Option Ob)}
variable {d:Nat} {ty:TypeId} {pos:String} {af:Array Edge} {g:Option (Nat × Bool)}
def sW:Option Operand→List Nat
  | some x=>ors x
  | none=>[]
def gV (S:List (Nat × Slot)) (dflt:Int):Option Operand→Option Int
  | none=>some dflt
  | some x=>match evq S x with
    | some (.sc (.int _ j))=>some j
    | _=>none
theorem pU {F:Env} {a:Act} {w:World} (h:Sim Γ F a w) {df j:Int} {x:Option Operand} (hb:gV S df x=some j) (ha:∀ k ∈ sW x,lk F.s k=lk S k) :
    (x=none∧j=df)∨∃ y k,x=some y∧a.eval y=.int k j:=by
  cases x with
  | none=>simp only [gV] at hb;cases hb;exact .inl ⟨rfl,rfl⟩
  | some y =>
    simp only [gV] at hb
    split at hb
    · rename_i k j' hv;cases hb
      exact .inr ⟨y,k,rfl,gD h hv ha⟩
    · cases hb
theorem eR (w:World) (k:IntKind) (i:Int) (y:Nat) (code:BoundsCode) (h:0≤i∧i≤y):(Instr.sliceBound (.int k i) y code).run P w=.ok i.toNat w:=by
  simp [Instr.sliceBound,asIntOf,h.1,h.2]
theorem qF {F:Env} {a:Act} {w:World} (h:Sim Γ F a w) (isS:Bool) (len cap:Nat) (hc:len≤cap) {lo hi:Option Operand} {i j:Int} (hlo:gV S 0 lo=some i) (hhi:gV S len hi=some j) (h1:∀ k ∈ sW lo,lk F.s k=lk S k) (h2:∀ k ∈ sW hi,lk F.s k=lk S k)
    (hb:0≤i∧i≤j∧j≤len):(Instr.sliceBounds isS len cap (lo.map a.eval) (hi.map a.eval) none).run P w=.ok (i.toNat,j.toNat,cap) w:=by
  rcases pU h hlo h1 with ⟨rfl,rfl⟩ | ⟨y,k,rfl,e1⟩ <;> rcases pU h hhi h2 with ⟨rfl,rfl⟩ | ⟨z,k',rfl,e2⟩
  · simp [Instr.sliceBounds]
  · simp [Instr.sliceBounds,e2]
    rw [eR w _ _ _ _ ⟨by omega,by omega⟩];simp
  · simp [Instr.sliceBounds,e1]
    rw [eR w _ _ _ _ ⟨by omega,by omega⟩];simp
  · simp [Instr.sliceBounds,e1,e2]
    rw [eR w _ _ _ _ ⟨by omega,by omega⟩]
    simp only [Result.andThen_ok]
    rw [eR w _ _ _ _ ⟨by omega,by omega⟩]
    simp
theorem tP {s r:ByteArray} {i j:Int} (h:eQ s i j=some r):(0≤i∧i≤j∧j≤s.size)∧r=s.extract i.toNat j.toNat:=by
  unfold eQ at h
  by_cases hc:0≤i∧i≤j∧j≤s.size
  · rw [if_pos hc] at h;cases h;exact ⟨hc,rfl⟩
  · rw [if_neg hc] at h;cases h
theorem jD {x:Operand} {lo hi:Option Operand} {t:Nat} {s r:ByteArray} {i j:Int} [ht:UT P t .string] (hx:evq S x=some (.sc (.string s))) (hlo:gV S 0 lo=some i) (hhi:gV S s.size hi=some j) (h:eQ s i j=some r) (hd:Nat.blt d N=true) :
    Local Γ ⟨some d,.slice t x lo hi none,ty,pos,af,g⟩ ⟨S,O⟩ ⟨[(d,⟨.sc (.string r),false⟩)],[]⟩ (ors x++(sW lo++sW hi)) [] [] :=
  qB rfl hd fun F a w hsim hs=>by
    obtain ⟨hb,hr⟩:=tP h
    have hx':=gD hsim hx (fun k hk=>hs k (by simp [hk]))
    have hbd:=qF hsim false s.size s.size (Nat.le_refl _) hlo hhi (fun k hk=>hs k (by simp [hk])) (fun k hk=>hs k (by simp [hk])) hb
    simp [execOp,hx',Instr.sliceAt,Instr.slice,run_underlying ht.ok,hbd,hr]
theorem eA {α:Type} {x i:Operand} {t e sz n by_ r:Nat} {agg:Bool} {l:List α} {y:α} {k:IntKind} {j:Int} {ob:Ob} [ht:SlT P t e] [hi:TI P e sz agg by_] (hx:evq S x=some (.ref r sz 0 n)) (ho:loq O r=some ob) (hix:evq S i=some (.sc (.int k j))) (hl:idx l j=some y) (hn:n=l.length) (hd:Nat.blt d N=true) :
    Local Γ ⟨some d,.indexAddr t x i,ty,pos,af,g⟩ ⟨S,O⟩ ⟨[(d,⟨.ptr r (j.toNat*sz),false⟩)],[]⟩ (ors x++ors i) [r] [] :=
  vN (m:=j.toNat) hx ho hix (by have:=(uW hl).1;omega) (by rw [hn];exact (uW hl).2.2) hd
theorem aS {x i:Operand} {t:Nat} {s:ByteArray} {k:IntKind} {j y:Int} [ht:UT P t .string] (hx:evq S x=some (.sc (.string s))) (hi:evq S i=some (.sc (.int k j))) (hb:cI s j=some y) (hd:Nat.blt d N=true) :
    Local Γ ⟨some d,.index t x i,ty,pos,af,g⟩ ⟨S,O⟩ ⟨[(d,⟨.sc (.int .u8 y),false⟩)],[]⟩ (ors x++ors i) [] []:=by
  unfold cI at hb
  by_cases h:0≤j∧j < s.size
  · rw [if_pos h] at hb;cases hb;exact tJ hx hi h hd
  · rw [if_neg h] at hb;cases hb
def jN (x:Int):ByteArray:=⟨#[UInt8.ofNat x.toNat]⟩
theorem lN (n:Int):0≤IntKind.u8.wrap n∧IntKind.u8.wrap n < 256:=by rw [IntKind.wrap_u8];omega
theorem kO {x:Operand} {src dst e:Nat} {v:Int} [hs:SlT P src e] [he:UT P e (.int .u8)] [ht:UT P dst .string] (hx:evq S x=some (.sl 1 [.sc (.int .u8 v)])) (hv:0≤v∧v < 256) (hd:Nat.blt d N=true) :
    Local Γ ⟨some d,.convert src dst x,ty,pos,af,g⟩ ⟨S,O⟩ ⟨[(d,⟨.sc (.string (jN v)),false⟩)],[]⟩ (ors x) [] [] :=
  uK [UInt8.ofNat v.toNat] hx ⟨by
    have:((UInt8.ofNat v.toNat).toNat:Int)=v:=by simp;omega
    simp only [u8s,List.map_cons,List.map_nil];rw [this],rfl⟩ hd
def kH (S:List (Nat × Slot)):List (Nat × Operand)→Nat→Option (List Value)
  | [],_=>some []
  | (i,x)::r,k=>bif Nat.beq i k then (match evq S x with
    | some (.sc v)=>bif v.oneCell' then (match kH S r (k+1) with
      | some vs=>some (v::vs)
      | none=>none) else none
    | _=>none) else none
def oQ:List (Nat × Operand)→List Nat
  | []=>[]
  | (_,x)::r=>ors x++oQ r
theorem mQ {F:Env} {a:Act} {w:World} (h:Sim Γ F a w):∀ {ps:List (Nat × Operand)} {k:Nat} {vs:List Value},kH S ps k=some vs→(∀ j ∈ oQ ps,lk F.s j=lk S j) →
    ps.map (fun p=>(p.1,a.eval p.2))=(vs.zipIdx k).map (fun x=>(x.2,x.1))∧vs.length=ps.length∧∀ v ∈ vs,v.oneCell'=true
  | [],_,vs,hv,_=>by simp only [kH] at hv;cases hv;simp
  | (i,x)::r,k,vs,hv,hs=>by
    simp only [kH] at hv
    cases hb:Nat.beq i k with
    | false=>rw [hb] at hv;cases hv
    | true =>
      rw [hb] at hv
      simp only [cond_true] at hv
      split at hv
      · rename_i v hx
        cases hc:v.oneCell' with
        | false=>rw [hc] at hv;cases hv
        | true =>
          rw [hc] at hv
          simp only [cond_true] at hv
          split at hv
          · rename_i vs' hvs;cases hv
            obtain ⟨g1,g2,g3⟩:=mQ h hvs (fun j hj=>hs j (by simp [oQ,hj]))
            have e:=gD h hx (fun j hj=>hs j (by simp [oQ,hj]))
            have:=Nat.eq_of_beq_eq_true hb
            subst this
            exact ⟨by simp [e,g1],by simp [g2],fun u hu=>by rcases List.mem_cons.1 hu with rfl | hu;exact hc;exact g3 u hu⟩
          · cases hv
      · cases hv
theorem jI {v:Value} (h:v.oneCell'=true):v.cells=#[v]:=by
  cases v <;> simp_all [Value.oneCell',Value.cells]
theorem mF {h:Array Obj} {β:Nat→Option (Option Nat)}:∀ {vs pre:List Value},(∀ v ∈ vs,v.oneCell'=true)→RelL h true β (vs.map .sc) (pre++vs).toArray pre.length []
  | [],_,_=>by simp [RelL]
  | v::vs,pre,hv=>by
    simp only [List.map_cons,RelL]
    refine ⟨v,[],[],⟨by simp,fun _=>hv v (by simp)⟩,by simp [RelV],?_,rfl⟩
    have:=mF (h:=h) (β:=β) (vs:=vs) (pre:=pre++[v]) (fun u hu=>hv u (by simp [hu]))
    simpa using this
theorem mW:∀ {vs:List Value},(∀ v ∈ vs,v.oneCell'=true)→(vs.flatMap fun v=>v.cells.toList)=vs
  | [],_=>rfl
  | v::r,h=>by simp only [List.flatMap_cons];rw [jI (h v List.mem_cons_self),mW (fun u hu=>h u (List.mem_cons_of_mem _ hu))];rfl
theorem uP {t e by_ n:Nat} {agg:Bool} {ps:List PV} {parts:Array (Nat × Operand)} {vs:List Value} [ht:SlT P t e] [hi:TI P e 1 agg by_] [hz:ZT P e ps] (hv:kH S parts.toList 0=some vs) (hn:Nat.beq vs.length n=true) (hpos:Nat.blt 0 n=true) (hs2:Nat.ble n 1000=true) (hio:Γ.io d=none) (hd:Nat.blt d N=true) :
    Local Γ ⟨some d,.buildSlice t n parts,ty,pos,af,g⟩ ⟨S,O⟩ ⟨[(d,⟨.ref d 1 0 n,false⟩)],[(d,some ⟨vs.map .sc,true,false⟩)]⟩ (oQ parts.toList) [] [d]:=by
  intro F hs _ hnl
  refine bB fun a w hsim=>?_
  obtain ⟨g1,g2,g3⟩:=mQ hsim hv hs
  obtain ⟨ow,β,hsim⟩:=hsim
  have hn:=Nat.eq_of_beq_eq_true hn
  have hpos:=(aK _ _).1 hpos
  have hs2:=Nat.le_of_ble_eq_true hs2
  obtain ⟨i,z,h1,h2,h3,h4,_⟩:=hz.ok
  obtain ⟨⟨i',q1,q2,q3⟩,_⟩:=hi.ok
  rw [h1] at q1;cases q1
  have hcells:(vs.flatMap fun v=>v.cells.toList)=vs:=mW g3
  have run:(Instr.buildSlice t n (parts.map fun (i,x)=>(i,a.eval x))).run P w=.ok (.slice (some ⟨w.heap.size,0,none⟩) n n) (w.alloc (.cells vs.toArray e)):=by
    refine run_buildSlice w t e n _ vs.toArray i z ht.ok h1 h2 (by rw [q2];omega) (by rw [q2];omega) ?_
    have:=Go.Great.fill_whole (s:=i.size) (by omega) vs ((Array.range (n*i.size)).map (z.cells[· % z.cells.size]!)) (fun v hv=>by rw [jI (g3 v hv),q2];rfl) (by simp [hn])
    rw [hcells] at this
    rw [← this]
    congr 1
    rw [← g1];simp
  refine ⟨_,_,by simp only [execOp];rw [Sem.run_bind,run];rfl,?_⟩
  refine hsim.layPut (gO w _) (b0:=w.heap.size) (by simp) (fun b hb _=>fG w _ hb) (dY w _) (hnl d (by simp)) hio [] [] (.inl (Nat.le_refl _)) (.inl hsim.kept.size) ⟨vs.map .sc,true,false⟩ (B:=[]) (by simpa using mF (pre:=[]) g3) (by simp) (by simp) (by simp) ((aK _ _).1 hd) (fun β' hβ=>?_)
  simp only [RelV]
  refine ⟨trivial,fun h=>by rw [hβ] at h;simp at h,fun b hb=>?_⟩
  rw [hβ] at hb;cases hb
  exact ⟨n,vs.toArray,e,by simp,dY w _,by simp [hn],Nat.le_refl _⟩
theorem RetIs.weak {E E0:Env} {rs:Array ResultVar} {r:PV} {deep:Bool} (he:Ent Γ E E0) (h:RetIs Γ rs E0 r deep):RetIs Γ rs E r deep:=fun fn hf a w hs=>h fn hf a w (he a w hs)
end
theorem cO {α:Type} {l:List α} {enc:α→List PV} {j:Int} {y:α} {sz:Nat} {c:PV} (hl:idx l j=some y) (ho:(enc y)[0]?=some c) (h:∀ y,(enc y).length=sz):(l.flatMap enc)[j.toNat*sz]?=some c:=sB (uW hl).2.1 ho h
end Go.Ev
/- The engine, part U: small helps of lifted walks. -/
namespace Go.Ev
theorem qK {x:Bool} (h:(!x)=true):x=false:=by simpa using h
theorem qL {x:Bool} (h:(!x)=false):x=true:=by simpa using h
theorem rK {n m by_:Nat} (h0:0 < by_) (h:(n+m)*by_≤140737488355328):n+m≤9223372036854775807:=by
  have:=Nat.le_mul_of_pos_right (n+m) h0
  omega
section
variable {P:Program} {N:Nat} {Γ:Ctx P N} {S:List (Nat × Slot)} {O:List (Nat × Option Ob)}
variable {d:Nat} {ty:TypeId} {pos:String} {af:Array Edge} {g:Option (Nat × Bool)}
theorem oY {α:Type} {l:List α} {j:Int} {y:α}:(vO l j y).length=l.length:=List.length_set
theorem Ent.relen {k l s off n n':Nat} {dp:Bool} (hk:lkq S k=some ⟨.ref l s off n,dp⟩) (hn:n=n'):Ent Γ ⟨S,O⟩ ⟨(k,⟨.ref l s off n',dp⟩)::S,O⟩:=by
  subst hn
  intro a w h
  refine Sim.congr (E:=⟨S,O⟩) (fun j=>?_) (fun _=>rfl) h
  simp only []
  rw [dM]
  by_cases hj:k=j
  · subst hj;rw [if_pos rfl,eJ hk]
  · rw [if_neg hj]
end
end Go.Ev
namespace Go.Ev
def bL {α:Type} (x:α):Option α:=some x
theorem iB {α:Type} {e x:α} (h:bL e=some x):e=x:=Option.some.inj h
theorem dH {α β:Type} (e:α) (f:α→Option β):(bL e).bind f=f e:=rfl
theorem gT {α:Type} {enc:α→List PV} {l x:List α} {y:α} (hx:bL (l++[y])=some x):l.flatMap enc++enc y=x.flatMap enc∧l.length+1=x.length:=by
  rw [← iB hx];exact rZ
section
variable {P:Program} {N:Nat} {Γ:Ctx P N} {S:List (Nat × Slot)} {O:List (Nat × Option Ob)}
variable {d:Nat} {ty:TypeId} {pos:String} {af:Array Edge} {g:Option (Nat × Bool)}
theorem aP {x y:Operand} {u u':TypeId} {s t r:ByteArray} (hx:evq S x=some (.sc (.string s))) (hy:evq S y=some (.sc (.string t))) (hb:s.size+t.size≤9223372036854775807) (hr:bL (s++t)=some r) (hd:Nat.blt d N=true) :
    Local Γ ⟨some d,.binOp .add u x y u',ty,pos,af,g⟩ ⟨S,O⟩ ⟨[(d,⟨.sc (.string r),false⟩)],[]⟩ (ors x++ors y) [] []:=by
  rw [← iB hr];exact uZ hx hy hb hd
end
end Go.Ev
/- The engine, part V: functions that write rows handed in; results that are rows. -/
namespace Go.Ev
open Go.RowKit (Below)
def uG:List (Nat × Nat)→Bool
  | []=>true
  | (a,b)::r=>Nat.blt a 100000&&Nat.blt b 100000&&uG r
section
variable {P:Program} {N:Nat} {Γ:Ctx P N}
theorem io1 (h:∀ l,Nat.blt l 100000=true→Γ.io l=none) (l:Nat) (hl:Nat.blt l 100000=true:=by rfl):Γ.io l=none:=h l hl
theorem io0 (h:∀ l,Nat.blt l 100000=true→Γ.io l=none) (ρ:List (Nat × Nat)) (hρ:uG ρ=true:=by rfl):∀ l,Γ.io (rn ρ l)=Γ.io l∧(Γ.io l≠none→rn ρ l=l):=by
  induction ρ with
  | nil=>intro l;exact ⟨rfl,fun _=>rfl⟩
  | cons x r ih =>
    obtain ⟨a,b⟩:=x
    simp only [uG,Bool.and_eq_true] at hρ
    intro l
    simp only [rn,fF]
    by_cases hal:a=l
    · subst hal
      simp only [decide_true,cond_true]
      rw [h b hρ.1.2,h a hρ.1.1]
      exact ⟨rfl,fun e=>absurd rfl e⟩
    · simp only [hal,decide_false,cond_false]
      exact ih hρ.2 l
theorem Meets.intro2 {f:FuncId} {fn:Func} {c:Code} {args:List PV} {r:PV} {deep:Bool} {rs:Array ResultVar} (hf:P.funcs[f]?=some fn) (hb:fn.body=some c) (hN:fn.ntmps=N) (hrs:fn.results=rs) (hn:Nat.ble args.length N=true)
    (h:∀ Γ:Ctx P N,(∀ l,Nat.blt l 100000=true→Γ.io l=none)→CodeT Γ c ⟨cL args 0,[]⟩ (kJ Γ rs r deep)):Meets P f args r deep :=
  Meets.intro hf hb hN hrs hn (fun Γ hΓ=>h Γ (fun l _=>by rw [hΓ]))
end
structure XO where
  l:Nat
  old:List PV
  new:List PV
def XOb (w:World) (ok:Nat→Prop) (κ:Nat→Option (Option Nat)) (o:XO):Prop :=
  (κ o.l=some none∧o.old=[])∨∃ b cs t,κ o.l=some (some b)∧¬ok b∧w.heap[b]?=some (.cells cs t (0,0))∧RelL w.heap true dead o.old cs 0 []
def rL (w w':World) (κ:Nat→Option (Option Nat)) (o:XO):Prop :=
  (κ o.l=some none→o.new=[])∧∀ b,κ o.l=some (some b)→∀ cs t,w.heap[b]?=some (.cells cs t (0,0))→∃ cs',w'.heap[b]?=some (.cells cs' t (0,0))∧cs'.size=cs.size∧RelL w'.heap true dead o.new cs' 0 []
def XArgs (h:Array Obj) (ok:Nat→Prop) (κ:Nat→Option (Option Nat)):List PV→List Value→Prop
  | [],[]=>True
  | p::ps,c::cs=>(∃ B,RelV h κ p c B∧∀ b ∈ B,ok b)∧XArgs h ok κ ps cs
  | _,_=>False
def MeetsX (P:Program) (f:FuncId) (args:List PV) (objs:List XO) (r:PV) (deep:Bool):Prop :=
  ∀ (w:World) (cargs:Array Value) (ok:Nat→Prop) (κ:Nat→Option (Option Nat)),XArgs w.heap ok κ args cargs.toList→(∀ o ∈ objs,XOb w ok κ o)→(∀ l o,κ l=some o→∃ x ∈ objs,x.l=l)→(∀ l l' b,κ l=some (some b)→κ l'=some (some b)→l=l') →
    Calls P f cargs w fun e w'=>∃ c B,e=.returned c∧Same w w'∧(∀ b,b < w.heap.size→(∀ l,κ l≠some (some b))→w'.heap[b]?=w.heap[b]?)∧(∀ o ∈ objs,rL w w' κ o) ∧
      RelV w'.heap dead r c B∧(∀ b ∈ B,ok b∨w.heap.size≤b)∧(deep=true→B.Nodup∧∀ b ∈ B,w.heap.size≤b∧cY w' b)
theorem XArgs.get {h:Array Obj} {ok:Nat→Prop} {κ:Nat→Option (Option Nat)}:∀ {ps:List PV} {cs:List Value},XArgs h ok κ ps cs→ps.length=cs.length∧∀ k,k < ps.length→∃ B,RelV h κ (ps.getD k .any) (cs.getD k undef) B∧∀ b ∈ B,ok b
  | [],[],_=>⟨rfl,fun k hk=>by simp at hk⟩
  | p::ps,c::cs,H=>by
    obtain ⟨h1,h2⟩:=H
    obtain ⟨h3,h4⟩:=XArgs.get h2
    refine ⟨by simp [h3],fun k hk=>?_⟩
    cases k with
    | zero=>simpa using h1
    | succ k=>simpa using h4 k (by simpa using hk)
  | [],_::_,H=>H.elim
  | _::_,[],H=>H.elim
def oU:List XO→List (Nat × Option Ob)
  | []=>[]
  | o::r=>(o.l,some ⟨o.old,true,false⟩)::oU r
theorem kA:∀ {os:List XO} {l:Nat},(lo (oU os) l=none∧∀ o ∈ os,o.l≠l)∨∃ o ∈ os,o.l=l∧lo (oU os) l=some ⟨o.old,true,false⟩
  | [],l=>.inl ⟨rfl,by simp⟩
  | o::r,l=>by
    simp only [oU,aZ]
    by_cases h:o.l=l
    · exact .inr ⟨o,by simp,h,by rw [if_pos h]⟩
    · rw [if_neg h]
      rcases kA (os:=r) (l:=l) with ⟨h1,h2⟩ | ⟨o',h1,h2,h3⟩
      · exact .inl ⟨h1,fun x hx=>by rcases List.mem_cons.1 hx with rfl | hx;exact h;exact h2 x hx⟩
      · exact .inr ⟨o',by simp [h1],h2,h3⟩
def xok:List XO→Bool
  | []=>true
  | o::r=>Nat.ble 100000 o.l&&!(jT (r.map (·.l)) o.l)&&xok r
theorem lU:∀ {os:List XO},xok os=true→(∀ o ∈ os,100000≤o.l)∧∀ o ∈ os,∀ o' ∈ os,o.l=o'.l→o=o'
  | [],_=>⟨by simp,by simp⟩
  | o::r,h=>by
    simp only [xok,Bool.and_eq_true,Bool.not_eq_true'] at h
    obtain ⟨g1,g2⟩:=lU h.2
    have hn:∀ x ∈ r,x.l≠o.l:=by
      intro x hx e
      have:jT (r.map (·.l)) o.l=true:=(fI _ _).2 (List.mem_map.2 ⟨x,hx,e⟩)
      rw [this] at h;cases h.1.2
    refine ⟨fun x hx=>?_,fun x hx y hy e=>?_⟩
    · rcases List.mem_cons.1 hx with rfl | hx
      · exact Nat.le_of_ble_eq_true h.1.1
      · exact g1 x hx
    · rcases List.mem_cons.1 hx with e1 | e1 <;> rcases List.mem_cons.1 hy with e2 | e2
      · rw [e1,e2]
      · rw [e1] at e;exact absurd e.symm (hn y e2)
      · rw [e2] at e;exact absurd e (hn x e1)
      · exact g2 x e1 y e2 e
def RetX {P:Program} {N:Nat} (Γ:Ctx P N) (rs:Array ResultVar) (E:Env) (r:PV) (deep:Bool) (objs:List XO):Prop :=
  RetIs Γ rs E r deep∧∀ a w,Sim Γ E a w→∃ E',Sim Γ E' a w∧∀ o ∈ objs,∃ dp,lo E'.o o.l=some ⟨o.new,dp,false⟩
def lF {P:Program} {N:Nat} (Γ:Ctx P N) (rs:Array ResultVar) (r:PV) (deep:Bool) (objs:List XO):Exit→Env→Prop
  | .normal,E=>RetX Γ rs E r deep objs
  | .ret,E=>RetX Γ rs E r deep objs
  | _,_=>False
section
variable {P:Program} {N:Nat}
theorem MeetsX.intro {f:FuncId} {fn:Func} {c:Code} {args:List PV} {objs:List XO} {r:PV} {deep:Bool} {rs:Array ResultVar} (hf:P.funcs[f]?=some fn) (hb:fn.body=some c) (hN:fn.ntmps=N) (hrs:fn.results=rs) (hn:Nat.ble args.length N=true)
    (hx:xok objs=true) (hnil:∀ o ∈ objs,o.old=[]→o.new=[]) (hsc:∀ o ∈ objs,fC o.new=true)
    (h:∀ Γ:Ctx P N,(∀ l,Nat.blt l 100000=true→Γ.io l=none)→CodeT Γ c ⟨cL args 0,oU objs⟩ (lF Γ rs r deep objs)):MeetsX P f args objs r deep:=by
  classical
  intro w cargs ok κ ha hob hκ hinj
  obtain ⟨h1,h2⟩:=ha.get
  obtain ⟨hx1,hx2⟩:=lU hx
  have hn:=Nat.le_of_ble_eq_true hn
  let Γ:Ctx P N:={ base:=w.heap.size,ok:=ok,io:=fun l=>match κ l with | some (some b)=>some b | _=>none,w0:=w,mine:=fun _=>False,lent:=fun _=>False }
  have hio:∀ l b,Γ.io l=some b↔κ l=some (some b):=by
    intro l b
    show (match κ l with | some (some b)=>some b | _=>none)=some b↔_
    cases κ l with
    | none=>simp
    | some o=>cases o <;> simp
  have hsz:(cargs++Array.replicate (fn.ntmps - cargs.size) undef).size=N:=by
    have:cargs.size=args.length:=by rw [h1];simp
    simp [this,hN];omega
  have hblt:∀ l b,κ l=some (some b)→b < w.heap.size:=by
    intro l b e
    obtain ⟨o,ho,rfl⟩:=hκ l _ e
    rcases hob o ho with ⟨e',_⟩ | ⟨b',cs,t,e',_,g,_⟩
    · rw [e] at e';cases e'
    · rw [e] at e';cases e'
      rcases Nat.lt_or_ge b w.heap.size with h | h
      · exact h
      · simp [Array.getElem?_eq_none h] at g
  refine calls_of_wp hf hb ?_
  let ow:Nat→Own:=fun b=>if hh:∃ l,κ l=some (some b) then .lab hh.choose else .none
  have how:∀ b l,κ l=some (some b)→ow b=.lab l:=by
    intro b l e
    have hh:∃ l,κ l=some (some b):=⟨l,e⟩
    show (if hh:_ then _ else _)=_
    rw [dif_pos hh,hinj _ _ b hh.choose_spec e]
  have how2:∀ b,ow b≠.none→∃ l,κ l=some (some b):=by
    intro b hb'
    rcases Classical.em (∃ l,κ l=some (some b)) with hh | hh
    · exact hh
    · exfalso;apply hb'
      show (if hh:_ then _ else _)=_
      rw [dif_neg hh]
  have hsim:Sim Γ ⟨cL args 0,oU objs⟩ { tmps:=cargs++Array.replicate (fn.ntmps - cargs.size) undef,defers:=[] } w:=by
    refine ⟨ow,κ,{ size:=hsz,defers:=rfl,kept:=⟨rfl,rfl,rfl,Nat.le_refl _,fun _ _ _ _=>rfl,fun b _ _ cs t h=>⟨cs,h,rfl⟩⟩,slots:=fun k=>?_,objs:=fun l ob hl=>?_,gone:=fun l hl=>?_,own:=fun b hb=>?_,ios:=fun l b hl _=>(hio l b).1 hl,fresh:=fun l b hl hi=>?_ }⟩
    · rw [dX]
      by_cases hk:k < args.length
      · rw [if_pos ⟨Nat.zero_le _,by simpa using hk⟩]
        obtain ⟨B,g1,g2⟩:=h2 k hk
        have hB:∀ b ∈ B,∀ l,ow b≠.lab l:=by
          intro b hb l e
          obtain ⟨l',e'⟩:=how2 b (by rw [e];simp)
          obtain ⟨o,ho,rfl⟩:=hκ l' _ e'
          rcases hob o ho with ⟨e2,_⟩ | ⟨b',cs,t,e2,hnok,_⟩
          · rw [e'] at e2;cases e2
          · rw [e'] at e2;cases e2;exact hnok (g2 b hb)
        refine ⟨B,?_,fun b hb=>⟨RelV.below _ _ _ g1 b hb,.inl (g2 b hb),hB b hb⟩,by simp⟩
        have e:(cargs++Array.replicate (fn.ntmps - cargs.size) undef).getD k undef=cargs.toList.getD k undef:=by
          have hlt:k < cargs.size:=by rw [h1] at hk;simpa using hk
          simp [Array.getD_eq_getD_getElem?,Array.getElem?_append,hlt,List.getD_eq_getElem?_getD]
        rw [e]
        simpa only [Nat.sub_zero] using g1
      · rw [if_neg (by simpa using hk)]
        exact ⟨[],by simp [RelV],by simp,by simp⟩
    · rcases kA (os:=objs) (l:=l) with ⟨g1,_⟩ | ⟨o,ho,rfl,g1⟩
      · simp only [g1] at hl;cases hl
      · simp only [g1] at hl;cases hl
        refine ⟨[],by simp,by simp,?_⟩
        rcases hob o ho with ⟨e1,e2⟩ | ⟨b,cs,t,e1,_,e3,e4⟩
        · exact .inl ⟨e1,e2,rfl⟩
        · exact .inr ⟨b,cs,t,e1,how b _ e1,e3,by simpa using e4⟩
    · cases hk:κ l with
      | none=>rfl
      | some o =>
        obtain ⟨x,hx,rfl⟩:=hκ l o hk
        rcases kA (os:=objs) (l:=x.l) with ⟨_,g2⟩ | ⟨_,_,_,g1⟩
        · exact absurd rfl (g2 x hx)
        · simp only [g1] at hl;cases hl
    · obtain ⟨l,e⟩:=how2 b hb
      exact ⟨hblt l b e,.inr ⟨l,how b l e,(hio l b).2 e⟩⟩
    · rw [(hio l b).2 hl] at hi;cases hi
  have hioN:∀ l,Nat.blt l 100000=true→Γ.io l=none:=by
    intro l hl
    have hl:=(aK _ _).1 hl
    cases hi:Γ.io l with
    | none=>rfl
    | some b =>
      obtain ⟨o,ho,rfl⟩:=hκ l _ ((hio l b).1 hi)
      have:=hx1 o ho;omega
  refine wp_mono (h Γ hioN _ _ hsim) fun e a' w' ⟨E',hs',hq⟩=>?_
  have fin:RetX Γ rs E' r deep objs→a'.defers=[]∧∃ v,(results fn a'.tmps).run P w'=.ok v w'∧∃ c B,Ending.returned v=.returned c∧Same w w'∧(∀ b,b < w.heap.size→(∀ l,κ l≠some (some b))→w'.heap[b]?=w.heap[b]?)∧(∀ o ∈ objs,rL w w' κ o) ∧
      RelV w'.heap dead r c B∧(∀ b ∈ B,ok b∨w.heap.size≤b)∧(deep=true→B.Nodup∧∀ b ∈ B,w.heap.size≤b∧cY w' b):=by
    rintro ⟨hr,hr2⟩
    obtain ⟨c,B,g1,g2,g3,g4⟩:=hr fn hrs a' w' hs'
    obtain ⟨E2,⟨ow2,β2,hs2⟩,hr2⟩:=hr2 a' w' hs'
    refine ⟨hs2.defers,c,g1,c,B,rfl,⟨hs2.kept.os,hs2.kept.output,hs2.kept.tape,hs2.kept.size⟩,fun b hb hn=>hs2.kept.old b hb (fun l e=>hn l ((hio l b).1 e)) (fun h=>h),fun o ho=>⟨fun e=>?_,fun b e cs t hc=>?_⟩,g2,fun b hb=>(g3 b hb).2.imp id (fun h=>(h.elim id False.elim:Γ.nww b).elim id False.elim),fun hd=>⟨(g4 hd).1,fun b hb=>⟨(((g4 hd).2 b hb).2.elim id False.elim:Γ.nww b).elim id False.elim,((g4 hd).2 b hb).1⟩⟩⟩
    · refine hnil o ho ?_
      rcases hob o ho with ⟨_,e2⟩ | ⟨b,_,_,e2,_⟩
      · exact e2
      · rw [e] at e2;cases e2
    · obtain ⟨dp,hl⟩:=hr2 o ho
      obtain ⟨Bo,_,_,k3⟩:=hs2.objs o.l _ hl
      have hβ:=hs2.ios o.l b ((hio o.l b).2 e) (by rw [hl];rfl)
      rcases k3 with ⟨k4,_⟩ | ⟨b',cs',t',k4,k5,k6,k7⟩
      · rw [hβ] at k4;cases k4
      · rw [hβ] at k4;cases k4
        obtain ⟨cs2,q1,q2⟩:=hs2.kept.ios b (hblt _ _ e) (fun h=>h) cs t hc
        rw [k6] at q1;cases q1
        have:=jC (hsc o ho) k7
        subst this
        exact ⟨cs',k6,q2,by simpa using k7⟩
  cases e with
  | normal=>exact fin hq
  | ret=>exact fin hq
  | exit id=>exact hq.elim
  | goto l=>exact hq.elim
  | panic ch=>exact hq.elim
  | outgrown=>exact hq.elim
end
section
variable {P:Program} {N:Nat} {Γ:Ctx P N} {S:List (Nat × Slot)} {O:List (Nat × Option Ob)} {ow:Nat→Own} {β:Nat→Option (Option Nat)} {F:Env} {a:Act} {w:World}
inductive ArgX (S:List (Nat × Slot)) (O:List (Nat × Option Ob)) (ρ:List (Nat × Nat)):Operand→PV→List Nat→Prop
  | val {x:Operand} {p:PV} {l:List Nat}:ArgV S O x p l→p.labs=[]→ArgX S O ρ x p l
  | io {x:Operand} {p:PV}:evq S x=some (fO ρ p)→ArgX S O ρ x p []
inductive ArgsX (S:List (Nat × Slot)) (O:List (Nat × Option Ob)) (ρ:List (Nat × Nat)):List Operand→List PV→List Nat→Prop
  | nil:ArgsX S O ρ [] [] []
  | cons {x:Operand} {p:PV} {l m:List Nat} {xs:List Operand} {ps:List PV}:ArgX S O ρ x p l→ArgsX S O ρ xs ps m→ArgsX S O ρ (x::xs) (p::ps) (l++m)
inductive ObsX (O:List (Nat × Option Ob)) (ρ:List (Nat × Nat)):List XO→List (Nat × Option Ob)→Prop
  | nil:ObsX O ρ [] []
  | cons {l:Nat} {old new:List PV} {dp:Bool} {os:List XO} {us:List (Nat × Option Ob)}:loq O (rn ρ l)=some ⟨old,dp,false⟩→fC old=true→ObsX O ρ os us→ObsX O ρ (⟨l,old,new⟩::os) ((rn ρ l,some ⟨new,dp,false⟩)::us)
theorem ObsX.get {ρ:List (Nat × Nat)} {os:List XO} {us:List (Nat × Option Ob)} (h:ObsX O ρ os us):∀ o ∈ os,∃ dp,loq O (rn ρ o.l)=some ⟨o.old,dp,false⟩∧fC o.old=true:=by
  induction h with
  | nil=>simp
  | cons h1 h2 _ ih =>
    intro o ho
    rcases List.mem_cons.1 ho with rfl | ho
    · exact ⟨_,h1,h2⟩
    · exact ih o ho
theorem ArgV.rel {x:Operand} {p:PV} {l:List Nat} (hs:SimG Γ ow β F a w) (hx:ArgV S O x p l) (hk1:∀ k ∈ ors x,lk F.s k=lk S k) (hl:∀ m ∈ l,lo F.o m=lo O m):∃ B,RelV w.heap dead p (a.eval x) B∧∀ b ∈ B,Im Γ ow w b∨∃ m ∈ l,ow b=.lab m:=by
  have h1:ArgsV S O [x] [p] (l++[]):=.cons hx .nil
  have:=iS hs h1 (by cases x <;> simpa [mN,ors] using hk1) (by simpa using hl)
  obtain ⟨⟨B,g1,g2⟩,_⟩:=this
  exact ⟨B,g1,fun b hb=>by simpa using g2 b hb⟩
variable {d:Nat} {ty:TypeId} {pos:String} {af:Array Edge} {g:Option (Nat × Bool)}
end
end Go.Ev
/- The engine, part X: results that are rows of the caller's own. -/
namespace Go.Ev
open Go.RowKit (Below)
section
variable {P:Program} {N:Nat} {Γ:Ctx P N} {S:List (Nat × Slot)} {O:List (Nat × Option Ob)} {ow:Nat→Own} {β:Nat→Option (Option Nat)} {F:Env} {a:Act} {w:World}
structure Rows (us:List (Nat × Option Ob)) (h:Array Obj) (blk:Nat→Option (Option Nat)) (nest:Nat→List Nat) (B:List Nat):Prop where
  ob:∀ l ∈ us.map (·.1),∃ cells,lo us l=some ⟨cells,true,false⟩∧((blk l=some none∧cells=[]∧nest l=[])∨∃ b cs t,blk l=some (some b)∧h[b]?=some (.cells cs t (0,0))∧RelL h true dead cells cs 0 (nest l))
  nd:∀ l ∈ us.map (·.1),(nest l).Nodup∧∀ c ∈ nest l,c ∈ B
  inB:∀ l ∈ us.map (·.1),∀ b,blk l=some (some b)→b ∈ B
  bb:∀ l ∈ us.map (·.1),∀ l' ∈ us.map (·.1),∀ b,blk l=some (some b)→blk l'=some (some b)→l=l'
  bn:∀ l ∈ us.map (·.1),∀ l' ∈ us.map (·.1),∀ b,blk l=some (some b)→b ∉ nest l'
  nn:∀ l ∈ us.map (·.1),∀ l' ∈ us.map (·.1),∀ c,c ∈ nest l→c ∈ nest l'→l=l'
theorem SimG.growLayX (h:SimG Γ ow β F a w) {w':World} (hb:Below w.heap.size w w') {us:List (Nat × Option Ob)} {blk:Nat→Option (Option Nat)} {nest:Nat→List Nat} {B:List Nat} (hr:Rows us w'.heap blk nest B)
    (hB:∀ b ∈ B,w.heap.size≤b∧cY w' b) (hnl:∀ l ∈ us.map (·.1),gM F l) (hio:∀ l ∈ us.map (·.1),Γ.io l=none) :
    ∃ ow' β',(∀ l ∈ us.map (·.1),β' l=blk l)∧(∀ b,(¬∃ l,l ∈ us.map (·.1)∧blk l=some (some b))→(¬∃ l,l ∈ us.map (·.1)∧b ∈ nest l)→ow' b=ow b)∧SimG Γ ow' β' (F.app ⟨[],us⟩) a w':=by
  classical
  let β':Nat→Option (Option Nat):=fun l=>if l ∈ us.map (·.1) then blk l else β l
  have hex:∀ b,∃ o:Own,(∀ l,l ∈ us.map (·.1)→blk l=some (some b)→o=.lab l)∧(∀ l,l ∈ us.map (·.1)→b ∈ nest l→o=.obj l)∧((¬∃ l,l ∈ us.map (·.1)∧blk l=some (some b))→(¬∃ l,l ∈ us.map (·.1)∧b ∈ nest l)→o=ow b):=by
    intro b
    rcases Classical.em (∃ l,l ∈ us.map (·.1)∧blk l=some (some b)) with ⟨l,h1,h2⟩ | hh
    · exact ⟨.lab l,fun l' h1' h2'=>by rw [hr.bb l h1 l' h1' b h2 h2'],fun l' h1' h2'=>absurd h2' (hr.bn l h1 l' h1' b h2),fun hh=>absurd ⟨l,h1,h2⟩ hh⟩
    · rcases Classical.em (∃ l,l ∈ us.map (·.1)∧b ∈ nest l) with ⟨l,h1,h2⟩ | hn
      · exact ⟨.obj l,fun l' h1' h2'=>absurd ⟨l',h1',h2'⟩ hh,fun l' h1' h2'=>by rw [hr.nn l h1 l' h1' b h2 h2'],fun _ hn=>absurd ⟨l,h1,h2⟩ hn⟩
      · exact ⟨ow b,fun l' h1' h2'=>absurd ⟨l',h1',h2'⟩ hh,fun l' h1' h2'=>absurd ⟨l',h1',h2'⟩ hn,fun _ _=>rfl⟩
  obtain ⟨ow',how⟩:=Classical.axiomOfChoice hex
  have hβ1:∀ l,l ∈ us.map (·.1)→β' l=blk l:=fun l hl=>by show (if _ then _ else _)=_;rw [if_pos hl]
  have hβ2:∀ l,l ∉ us.map (·.1)→β' l=β l:=fun l hl=>by show (if _ then _ else _)=_;rw [if_neg hl]
  have how1:∀ b l,l ∈ us.map (·.1)→blk l=some (some b)→ow' b=.lab l:=fun b l h1 h2=>(how b).1 l h1 h2
  have how2:∀ b l,l ∈ us.map (·.1)→b ∈ nest l→ow' b=.obj l:=fun b l h1 h2=>(how b).2.1 l h1 h2
  have how3:∀ b,b < w.heap.size→ow' b=ow b:=by
    intro b hlt
    have hh:¬∃ l,l ∈ us.map (·.1)∧blk l=some (some b):=fun ⟨l',h1,h2⟩=>by have:=(hB b (hr.inB l' h1 b h2)).1;omega
    have hn:¬∃ l,l ∈ us.map (·.1)∧b ∈ nest l:=fun ⟨l',h1,h2⟩=>by have:=(hB b ((hr.nd l' h1).2 b h2)).1;omega
    exact (how b).2.2 hh hn
  have hlt':∀ b,cY w' b→b < w'.heap.size:=by
    rintro b ⟨cs,t,e⟩
    rcases Nat.lt_or_ge b w'.heap.size with h | h
    · exact h
    · simp [Array.getElem?_eq_none h] at e
  have hIm:∀ b,Im Γ ow w b→Im Γ ow' w' b:=fun b ⟨h1,h2,h3⟩=>⟨Nat.lt_of_lt_of_le h1 hb.size,h2,fun l=>by rw [how3 b h1];exact h3 l⟩
  have hFree:∀ b,b < w.heap.size→cY w b→cY w' b:=fun b hlt ⟨cs,t,hc⟩=>⟨cs,t,by rw [hb.block b hlt];exact hc⟩
  have hkeep:∀ m,m ∉ us.map (·.1)→KeepB w.heap w'.heap β β' m:=by
    intro m hm o ho
    rw [hβ2 m hm] at ho
    refine ⟨ho,fun b hob cs t hc=>⟨cs,?_,rfl⟩⟩
    subst hob
    rw [hb.block b (h.block_lt ho)];exact hc
  refine ⟨ow',β',hβ1,fun b h1 h2=>(how b).2.2 h1 h2,{ size:=h.size,defers:=h.defers,kept:=?_,slots:=fun k=>?_,objs:=fun l ob hl=>?_,gone:=fun l hl=>?_,own:=fun b hb'=>?_,ios:=fun m b hm hs=>?_,fresh:=fun l b hl hi=>?_ }⟩
  · exact ⟨hb.os.trans h.kept.os,hb.output.trans h.kept.output,hb.tape.trans h.kept.tape,Nat.le_trans h.kept.size hb.size,
      fun b h1 h2 hmi=>(hb.block b (Nat.lt_of_lt_of_le h1 h.kept.size)).trans (h.kept.old b h1 h2 hmi),
      fun b h1 hmi cs t h2=>by
        obtain ⟨cs',h3,h4⟩:=h.kept.ios b h1 hmi cs t h2
        exact ⟨cs',by rw [hb.block b (Nat.lt_of_lt_of_le h1 h.kept.size)];exact h3,h4⟩⟩
  · obtain ⟨B',h1,h2,h3⟩:=h.slots k
    refine ⟨B',RelV.keep _ _ _ (fun l hl=>hkeep l (fun e=>(hnl l e).1 k hl)) (fun b hbO=>hb.block b (h2 b hbO).1) h1,fun b hbO=>hIm b (h2 b hbO),fun hd=>⟨(h3 hd).1,fun b hbO=>⟨?_,hFree b (h2 b hbO).1 ((h3 hd).2 b hbO).2⟩⟩⟩
    rw [how3 b (h2 b hbO).1];exact ((h3 hd).2 b hbO).1
  · simp only [Env.app] at hl
    by_cases hm:l ∈ us.map (·.1)
    · rw [bE _ _ _ hm] at hl
      obtain ⟨cells,e1,g⟩:=hr.ob l hm
      rw [e1] at hl;cases hl
      have hnB:=hr.nd l hm
      refine ⟨nest l,fun b hbn=>⟨hlt' b (hB b (hnB.2 b hbn)).2,.inr (.inl (.inl (Nat.le_trans h.kept.size (hB b (hnB.2 b hbn)).1))),fun l'=>by rw [how2 b l hm hbn];simp⟩,fun _=>⟨hnB.1,fun b hbn=>⟨how2 b l hm hbn,(hB b (hnB.2 b hbn)).2⟩⟩,?_⟩
      rcases g with ⟨g1,g2,g3⟩ | ⟨b,cs,t,g1,g2,g3⟩
      · exact .inl ⟨(hβ1 l hm).trans g1,g2,g3⟩
      · exact .inr ⟨b,cs,t,(hβ1 l hm).trans g1,how1 b l hm g1,g2,by simpa using g3⟩
    · rw [aT _ _ _ hm] at hl
      obtain ⟨B',h1,h2,h3⟩:=h.objs l ob hl
      refine ⟨B',fun b hbO=>hIm b (h1 b hbO),fun hd=>⟨(h2 hd).1,fun b hbO=>⟨by rw [how3 b (h1 b hbO).1];exact ((h2 hd).2 b hbO).1,hFree b (h1 b hbO).1 ((h2 hd).2 b hbO).2⟩⟩,?_⟩
      rcases h3 with ⟨g1,g2,g3⟩ | ⟨b,cs,t,g1,g2,g3,g4⟩
      · exact .inl ⟨(hβ2 l hm).trans g1,g2,g3⟩
      · refine .inr ⟨b,cs,t,(hβ2 l hm).trans g1,by rw [how3 b (h.block_lt g1)];exact g2,by rw [hb.block b (h.block_lt g1)];exact g3,?_⟩
        cases hbx:ob.box with
        | true=>rw [hbx] at g4;exact RelL.keep _ _ _ _ (fun p hp m hm'=>hkeep m (fun e=>(hnl m e).2.1 l ob hl hbx p hp hm')) (fun b hbO=>hb.block b (h1 b hbO).1) g4
        | false=>rw [hbx] at g4;exact RelL.keep _ _ _ _ (fun _ _ l _=>KeepB.dead _ _ l) (fun b hbO=>hb.block b (h1 b hbO).1) g4
  · simp only [Env.app] at hl
    by_cases hm:l ∈ us.map (·.1)
    · rw [bE _ _ _ hm] at hl
      obtain ⟨cells,e1,_⟩:=hr.ob l hm
      rw [e1] at hl;cases hl
    · rw [aT _ _ _ hm] at hl
      rw [hβ2 l hm];exact h.gone l hl
  · by_cases hlt:b < w.heap.size
    · rw [how3 b hlt] at hb'
      obtain ⟨g1,g2⟩:=h.own b hb'
      exact ⟨Nat.lt_of_lt_of_le g1 hb.size,by rw [how3 b hlt];exact g2⟩
    · have hmem:b ∈ B:=by
        rcases Classical.em (∃ l,l ∈ us.map (·.1)∧blk l=some (some b)) with ⟨l,h1,h2⟩ | hh
        · exact hr.inB l h1 b h2
        · rcases Classical.em (∃ l,l ∈ us.map (·.1)∧b ∈ nest l) with ⟨l,h1,h2⟩ | hn
          · exact (hr.nd l h1).2 b h2
          · exfalso
            have e:ow' b=ow b:=(how b).2.2 hh hn
            rw [e] at hb'
            exact hlt (h.own b hb').1
      exact ⟨hlt' b (hB b hmem).2,.inl (.inl (.inl (Nat.le_trans h.kept.size (hB b hmem).1)))⟩
  · have hmn:m ∉ us.map (·.1):=fun e=>by rw [hio m e] at hm;cases hm
    simp only [Env.app] at hs
    rw [aT _ _ _ hmn] at hs
    rw [hβ2 m hmn];exact h.ios m b hm hs
  · by_cases hm:l ∈ us.map (·.1)
    · rw [hβ1 l hm] at hl
      exact .inl (Nat.le_trans h.kept.size (hB b (hr.inB l hm b hl)).1)
    · rw [hβ2 l hm] at hl;exact h.fresh l b hl hi
theorem SimG.growLay (h:SimG Γ ow β F a w) {w':World} (hb:Below w.heap.size w w') {us:List (Nat × Option Ob)} {blk:Nat→Option (Option Nat)} {nest:Nat→List Nat} {B:List Nat} (hr:Rows us w'.heap blk nest B)
    (hB:∀ b ∈ B,w.heap.size≤b∧cY w' b) (hnl:∀ l ∈ us.map (·.1),gM F l) (hio:∀ l ∈ us.map (·.1),Γ.io l=none) :
    ∃ ow' β',(∀ l ∈ us.map (·.1),β' l=blk l)∧SimG Γ ow' β' (F.app ⟨[],us⟩) a w':=by
  obtain ⟨ow',β',h1,_,h2⟩:=h.growLayX hb hr hB hnl hio
  exact ⟨ow',β',h1,h2⟩
def jH:List PV→Nat→List PV
  | [],_=>[]
  | .rw s n _::r,L=>.ref L s 0 n::jH r (L+1)
  | p::r,L=>p::jH r (L+1)
def cA:List PV→Nat→List (Nat × Option Ob)
  | [],_=>[]
  | .rw _ _ cells::r,L=>(L,some ⟨cells,true,false⟩)::cA r (L+1)
  | _::r,L=>cA r (L+1)
def eS:List PV→Bool
  | []=>true
  | .rw _ _ _::r=>eS r
  | p::r=>jF p&&eS r
theorem sA {p:PV} (h:jF p=true):p.labs=[]:=by
  have key:∀ cells:List PV,(cells.all fun | .sc _=>true | _=>false)=true→kI cells=[]:=by
    intro cells
    induction cells with
    | nil=>intro _;rfl
    | cons x r ih =>
      intro hh
      simp only [List.all_cons,Bool.and_eq_true] at hh
      cases x with
      | sc v=>simp only [kI,PV.labs,List.nil_append];exact ih hh.2
      | _=>simp at hh
  cases p with
  | sc v=>rfl
  | agg cells=>simp only [PV.labs];exact key cells h
  | tup vs =>
    simp only [PV.labs]
    simp only [jF] at h
    induction vs with
    | nil=>rfl
    | cons x r ih =>
      simp only [List.all_cons,Bool.and_eq_true] at h
      simp only [kI]
      rw [ih h.2]
      cases x with
      | sc v=>rfl
      | agg cells=>simp only [PV.labs,List.append_nil];exact key cells h.1
      | _=>simp at h
  | _=>simp [jF] at h
theorem kR:∀ {vs:List PV} {L l:Nat},l ∈ (cA vs L).map (·.1)→L≤l
  | [],_,_,h=>by simp [cA] at h
  | p::r,L,l,h=>by
    cases p with
    | rw s n cells =>
      simp only [cA,List.map_cons,List.mem_cons] at h
      rcases h with rfl | h
      · exact Nat.le_refl _
      · have:=kR h;omega
    | _=>simp only [cA] at h;have:=kR h;omega
theorem pC {h:Array Obj} {q:Bool}:∀ (vs:List PV) (cs:Array Value) (i:Nat) (B:List Nat) (L:Nat),RelL h q dead vs cs i B→eS vs=true→B.Nodup →
    ∃ blk nest,Rows (cA vs L) h blk nest B∧∀ β',(∀ l ∈ (cA vs L).map (·.1),β' l=blk l)→RelL h q β' (jH vs L) cs i []
  | [],cs,i,B,L,_,_,_=>⟨fun _=>none,fun _=>[],⟨by simp [cA],by simp [cA],by simp [cA],by simp [cA],by simp [cA],by simp [cA]⟩,by simp [jH,RelL]⟩
  | p::r,cs,i,B,L,H,hok,hnd=>by
    simp only [RelL] at H
    obtain ⟨c,B1,B2,h1,h2,h3,rfl⟩:=H
    have hnd':=List.nodup_append.1 hnd
    have rest:eS r=true:=by
      cases p with
      | rw s n cells=>exact hok
      | _=>simp only [eS,Bool.and_eq_true] at hok;exact hok.2
    obtain ⟨blk,nest,hr,hrel⟩:=pC r cs (i+1) B2 (L+1) h3 rest hnd'.2.1
    have hgt:∀ l,l ∈ (cA r (L+1)).map (·.1)→l≠L:=fun l hl e=>by have:=kR hl;omega
    have other:jF p=true→cA (p::r) L=cA r (L+1)→jH (p::r) L=p::jH r (L+1)→∃ blk nest,Rows (cA (p::r) L) h blk nest (B1++B2)∧∀ β',(∀ l ∈ (cA (p::r) L).map (·.1),β' l=blk l)→RelL h q β' (jH (p::r) L) cs i []:=by
      intro hf e1 e2
      rw [e1,e2]
      refine ⟨blk,nest,⟨hr.ob,fun l hl=>⟨(hr.nd l hl).1,fun c hc=>List.mem_append_right _ ((hr.nd l hl).2 c hc)⟩,fun l hl b hb=>List.mem_append_right _ (hr.inB l hl b hb),hr.bb,hr.bn,hr.nn⟩,fun β' hβ'=>?_⟩
      simp only [RelL]
      have:=mV hf h2
      subst this
      exact ⟨c,[],[],h1,h2.nolab (sA hf),hrel β' hβ',rfl⟩
    cases p with
    | rw s n cells =>
      simp only [RelV] at h2
      have main:∀ (o:Option Nat) (ns:List Nat),((o=none∧cells=[]∧ns=[]∧n=0∧c=.slice none 0 0)∨∃ b cap cs' t,o=some b∧(c=.slice (some ⟨b,0,none⟩) n cap∧n≤cap∧cap*s≤cs'.size)∧h[b]?=some (.cells cs' t (0,0))∧RelL h true dead cells cs' 0 ns) →
          ns.Nodup→(∀ c ∈ ns,c ∈ B1)→(∀ b,o=some b→b ∈ B1∧b ∉ ns)→∃ blk nest,Rows (cA (.rw s n cells::r) L) h blk nest (B1++B2)∧∀ β',(∀ l ∈ (cA (.rw s n cells::r) L).map (·.1),β' l=blk l)→RelL h q β' (jH (.rw s n cells::r) L) cs i []:=by
        intro o ns hcase hns hsub hob
        have hdis:∀ x,x ∈ B1→x ∉ B2:=fun x h1 h2=>hnd'.2.2 x h1 x h2 rfl
        refine ⟨fun l=>if l=L then some o else blk l,fun l=>if l=L then ns else nest l,⟨?_,?_,?_,?_,?_,?_⟩,fun β' hβ'=>?_⟩
        · intro l hl
          simp only [cA,List.map_cons,List.mem_cons] at hl
          simp only [cA,aZ]
          rcases hl with rfl | hl
          · refine ⟨cells,by simp,?_⟩
            simp only [if_true]
            rcases hcase with ⟨rfl,g1,g2,_⟩ | ⟨b,cap,cs',t,rfl,_,g2,g3⟩
            · exact .inl ⟨rfl,g1,g2⟩
            · exact .inr ⟨b,cs',t,rfl,g2,g3⟩
          · have hne:=hgt l hl
            obtain ⟨cl,g1,g2⟩:=hr.ob l hl
            exact ⟨cl,by rw [if_neg (fun e=>hne e.symm)];exact g1,by simp only [hne,if_false];exact g2⟩
        · intro l hl
          simp only [cA,List.map_cons,List.mem_cons] at hl
          rcases hl with rfl | hl
          · simp only [if_true];exact ⟨hns,fun c hc=>List.mem_append_left _ (hsub c hc)⟩
          · simp only [hgt l hl,if_false];exact ⟨(hr.nd l hl).1,fun c hc=>List.mem_append_right _ ((hr.nd l hl).2 c hc)⟩
        · intro l hl b hb
          simp only [cA,List.map_cons,List.mem_cons] at hl
          rcases hl with rfl | hl
          · simp only [if_true] at hb;exact List.mem_append_left _ (hob b (Option.some.inj hb)).1
          · simp only [hgt l hl,if_false] at hb;exact List.mem_append_right _ (hr.inB l hl b hb)
        · intro l hl l' hl' b hb hb'
          simp only [cA,List.map_cons,List.mem_cons] at hl hl'
          rcases hl with rfl | hl <;> rcases hl' with rfl | hl'
          · rfl
          · simp only [if_true] at hb;simp only [hgt l' hl',if_false] at hb'
            exact absurd (hr.inB l' hl' b hb') (hdis b (hob b (Option.some.inj hb)).1)
          · simp only [if_true] at hb';simp only [hgt l hl,if_false] at hb
            exact absurd (hr.inB l hl b hb) (hdis b (hob b (Option.some.inj hb')).1)
          · simp only [hgt l hl,if_false] at hb;simp only [hgt l' hl',if_false] at hb'
            exact hr.bb l hl l' hl' b hb hb'
        · intro l hl l' hl' b hb hb'
          simp only [cA,List.map_cons,List.mem_cons] at hl hl'
          rcases hl with rfl | hl <;> rcases hl' with rfl | hl'
          · simp only [if_true] at hb hb';exact (hob b (Option.some.inj hb)).2 hb'
          · simp only [if_true] at hb;simp only [hgt l' hl',if_false] at hb'
            exact hdis b (hob b (Option.some.inj hb)).1 ((hr.nd l' hl').2 b hb')
          · simp only [if_true] at hb';simp only [hgt l hl,if_false] at hb
            exact hdis b (hsub b hb') (hr.inB l hl b hb)
          · simp only [hgt l hl,if_false] at hb;simp only [hgt l' hl',if_false] at hb'
            exact hr.bn l hl l' hl' b hb hb'
        · intro l hl l' hl' x hx hx'
          simp only [cA,List.map_cons,List.mem_cons] at hl hl'
          rcases hl with rfl | hl <;> rcases hl' with rfl | hl'
          · rfl
          · simp only [if_true] at hx;simp only [hgt l' hl',if_false] at hx'
            exact absurd ((hr.nd l' hl').2 x hx') (hdis x (hsub x hx))
          · simp only [if_true] at hx';simp only [hgt l hl,if_false] at hx
            exact absurd ((hr.nd l hl).2 x hx) (hdis x (hsub x hx'))
          · simp only [hgt l hl,if_false] at hx;simp only [hgt l' hl',if_false] at hx'
            exact hr.nn l hl l' hl' x hx hx'
        · simp only [jH,RelL]
          have eL:β' L=some o:=by have:=hβ' L (by simp [cA]);simpa using this
          refine ⟨c,[],[],h1,?_,hrel β' (fun l hl=>?_),rfl⟩
          · simp only [RelV]
            rcases hcase with ⟨rfl,g1,g2,g3,g4⟩ | ⟨b,cap,cs',t,rfl,⟨g1,g2,g3⟩,g4,_⟩
            · refine ⟨?_,fun _=>⟨g3,?_,g4⟩,fun b e=>by rw [eL] at e;cases e⟩ <;> trivial
            · refine ⟨by trivial,(fun e=>by rw [eL] at e;cases e),fun b' e=>?_⟩
              rw [eL] at e;cases e
              exact ⟨cap,cs',t,by simpa using g1,g4,by simpa using g3,g2⟩
          · have:=hβ' l (by simp only [cA,List.map_cons,List.mem_cons];exact .inr hl)
            rw [this];simp only [hgt l hl,if_false]
      rcases h2 with ⟨e1,e2,e3,e4⟩ | ⟨b,cap,cs',t,O',e1,e2,e3,rfl⟩
      · exact main none [] (.inl ⟨rfl,e2,rfl,e1,e4⟩) (by simp) (by simp) (by simp)
      · have hb1:=List.nodup_cons.1 hnd'.1
        exact main (some b) O' (.inr ⟨b,cap,cs',t,rfl,e1,e2,e3⟩) hb1.2 (fun c hc=>by simp [hc]) (fun b' e=>by cases e;exact ⟨by simp,hb1.1⟩)
    | sc v=>exact other (by simp only [eS,Bool.and_eq_true] at hok;exact hok.1) rfl rfl
    | sl n cells=>simp [eS,jF] at hok
    | ref l s off n=>simp [eS,jF] at hok
    | ptr l k=>simp [eS,jF] at hok
    | iptr cells=>simp [eS,jF] at hok
    | agg cells=>exact other (by simp only [eS,Bool.and_eq_true] at hok;exact hok.1) rfl rfl
    | tup vs=>exact other (by simp only [eS,Bool.and_eq_true] at hok;exact hok.1) rfl rfl
    | any=>simp [eS,jF] at hok
    | was v p=>simp [eS,jF] at hok
variable {d:Nat} {ty:TypeId} {pos:String} {af:Array Edge} {g:Option (Nat × Bool)}
theorem lT {f:FuncId} [hfc:FnC P f] {xs:List Operand} {us:Array TypeId} {ps:List PV} {ls:List Nat} {s n:Nat} {cells:List PV} (ha:ArgsV S O xs ps ls) (hm:Meets P f ps (.rw s n cells) true) (hio:Γ.io d=none) (hd:Nat.blt d N=true) :
    Local Γ ⟨some d,.call ⟨.value (.func f),xs.toArray,us⟩,ty,pos,af,g⟩ ⟨S,O⟩ ⟨[(d,⟨.ref d s 0 n,false⟩)],[(d,some ⟨cells,true,false⟩)]⟩ (mN xs) ls [d]:=by
  intro F hs hl hnd a w ⟨ow,β,hsim⟩ Q
  have hdN:=(aK _ _).1 hd
  have hargs:=iS hsim ha hs hl
  unfold Oper.wp
  have hrun:(execOp a.eval ⟨some d,.call ⟨.value (.func f),xs.toArray,us⟩,ty,pos,af,g⟩).run P w=.ok (.enter f (xs.map a.eval).toArray) w:=by
    simp [execOp,resolve,Act.eval,Deferred.ofValue,invoke,hfc.run]
  rw [hrun]
  show Calls _ _ _ _ _
  refine (hm w (xs.map a.eval).toArray (fun b=>Im Γ ow w b∨∃ l ∈ ls,ow b=.lab l) (by simpa using hargs)).mono fun e w' ⟨c,B,he,hb,h1,h2,h3⟩=>?_
  subst he
  show Sim Γ _ _ _
  obtain ⟨n1,n2⟩:=h3 rfl
  have q3:RelL w'.heap false dead [.rw s n cells] #[c] 0 B:=by
    simp only [RelL]
    exact ⟨c,B,[],⟨by simp,by simp⟩,h1,rfl,by simp⟩
  obtain ⟨blk,nest,hr,hrel⟩:=pC [.rw s n cells] #[c] 0 B d q3 rfl n1
  obtain ⟨ow',β',hβ,h'⟩:=hsim.growLay hb hr n2 (by simpa [cA] using hnd d (by simp)) (by simpa [cA] using hio)
  have h4:=hrel β' hβ
  simp only [jH,RelL] at h4
  obtain ⟨c',B1,B2,g1,g2,_,g4⟩:=h4
  simp at g1;subst g1
  obtain ⟨rfl,_⟩:=List.append_eq_nil_iff.1 g4.symm
  have h2:=h'.put (d:=d) (v:=.ref d s 0 n) (c:=c) (O:=[]) hdN g2 (by simp)
  exact ⟨_,_,h2.congr (fun k=>rfl) (fun l=>rfl)⟩
theorem bZ {x:Operand} {vs:List PV} {i:Nat} {p:PV} (hx:evq S x=some (.tup vs)) (hp:vs[i]?=some p) (hd:Nat.blt d N=true) :
    Local Γ ⟨some d,.extract x i,ty,pos,af,g⟩ ⟨S,O⟩ ⟨[(d,⟨p,false⟩)],[]⟩ (ors x) [] []:=by
  intro F hs _ _
  refine bB fun a w ⟨ow,β,hsim⟩=>?_
  obtain ⟨B,h1,h2⟩:=cK hsim hx hs
  simp only [RelV] at h1
  obtain ⟨cs,e1,e2,e3⟩:=h1
  obtain ⟨c,B1,g1,_,g3,g4⟩:=e3.get _ _ _ _ i p hp
  rw [Nat.zero_add] at g1
  exact ⟨c,w,by simp [execOp,e1,Instr.extract,g1],ow,β,hsim.put ((aK _ _).1 hd) g3 (fun b hb=>h2 b (g4 b hb))⟩
theorem Res1.refW {t l s n:Nat} {cells:List PV} {dp dp0:Bool} (h:lkq S t=some ⟨.ref l s 0 n,dp0⟩) (ho:loq O l=some ⟨cells,dp,false⟩) (hio:Γ.io l=none):Res1 Γ ⟨S,O⟩ (.tmp t) (.rw s n cells) (if dp then .obj l else .none):=by
  intro ow β a w hs
  obtain ⟨B,h1,_⟩:=hs.slots t
  rw [eJ h] at h1
  simp only [RelV] at h1
  obtain ⟨Bo,o1,o2,hob⟩:=hs.objs l ⟨cells,dp,false⟩ (by rw [← dC];exact ho)
  rcases hob with ⟨p1,p2,p3⟩ | ⟨b,cs,u,p1,p2,p3,p4⟩
  · obtain ⟨rfl,_,e⟩:=h1.2.1 p1
    simp only at p2;subst p2
    exact ⟨_,[],rfl,by simp only [RelV];exact .inl ⟨trivial,trivial,trivial,e⟩,by simp,by simp⟩
  · obtain ⟨cap,cs',u',q1,q0,q3,q4⟩:=h1.2.2 b p1
    rw [p3] at q0;cases q0
    simp only [Nat.zero_mul,Nat.zero_add] at q1 q3
    refine ⟨_,b::Bo,rfl,by simp only [RelV];exact .inr ⟨b,cap,cs,u,Bo,⟨q1,q4,q3⟩,p3,by simpa using p4,rfl⟩,fun c hc=>?_,fun hne=>?_⟩
    · rcases List.mem_cons.1 hc with rfl | hc
      · exact ⟨hs.block_lt p1,.inr (.inl (hs.fresh l _ p1 hio))⟩
      · exact ⟨(o1 c hc).1,(o1 c hc).2.1⟩
    · cases dp with
      | false=>simp at hne
      | true =>
        obtain ⟨n1,n2⟩:=o2 rfl
        refine ⟨List.nodup_cons.2 ⟨fun hb=>(o1 b hb).2.2 l p2,n1⟩,fun c hc=>?_⟩
        rcases List.mem_cons.1 hc with rfl | hc
        · exact ⟨⟨_,_,p3⟩,.inl (hs.fresh l _ p1 hio),.inr ⟨l,p2,rfl⟩⟩
        · have e:=n2 c hc
          refine ⟨e.2,?_,.inl (by simpa [ResO.own] using e.1)⟩
          rcases (hs.own c (by rw [e.1];simp)).2 with g | ⟨l',g,_⟩
          · exact g
          · rw [e.1] at g;cases g
theorem RetIs.rW {t l s n:Nat} {cells:List PV} {dp dp0 deep:Bool} (h:lkq S t=some ⟨.ref l s 0 n,dp0⟩) (ho:loq O l=some ⟨cells,dp,false⟩) (hd:dp=true) (hio:Γ.io l=none):RetIs Γ #[.tmp t] ⟨S,O⟩ (.rw s n cells) deep:=by
  subst hd;exact RetIs.one (Res1.refW h ho hio) (fun _=>by simp)
theorem RetX.mk {rs:Array ResultVar} {r:PV} {deep:Bool} {objs:List XO} {E:Env} (h:RetIs Γ rs E r deep) (ho:∀ o ∈ objs,∃ dp,lo E.o o.l=some ⟨o.new,dp,false⟩):RetX Γ rs E r deep objs:=⟨h,fun _ _ hs=>⟨E,hs,ho⟩⟩
theorem RetX.weak {E E0:Env} {rs:Array ResultVar} {r:PV} {deep:Bool} {objs:List XO} (he:Ent Γ E E0) (h:RetX Γ rs E0 r deep objs):RetX Γ rs E r deep objs:=⟨RetIs.weak he h.1,fun a w hs=>h.2 a w (he a w hs)⟩
end
end Go.Ev
namespace Go.Ev
section
variable {P:Program} {N:Nat} {Γ:Ctx P N} {E:Env} {Q:Exit→Env→Prop}
def XRetX (Γ:Ctx P N) (rs:Array ResultVar) (r:PV) (deep:Bool) (objs:List XO) (e:Exit) (E:Env):Prop:=e=.ret∧RetX Γ rs E r deep objs
theorem XRetX.mk {rs:Array ResultVar} {r:PV} {deep:Bool} {objs:List XO} (h:RetX Γ rs E r deep objs):XRetX Γ rs r deep objs .ret E:=⟨rfl,h⟩
theorem XRetX.out {rs:Array ResultVar} {r:PV} {deep:Bool} {objs:List XO} {e:Exit} (h:XRetX Γ rs r deep objs e E):e=.ret∧RetX Γ rs E r deep objs:=h
variable {S:List (Nat × Slot)} {O:List (Nat × Option Ob)} {d:Nat} {ty:TypeId} {pos:String} {af:Array Edge} {g:Option (Nat × Bool)}
def kQ:List PV→Option (List Value)
  | []=>some []
  | .sc v::r=>match kQ r with
    | some vs=>some (v::vs)
    | none=>none
  | _::_=>none
def mI:PV→Option Value
  | .sc v=>some v
  | .agg cells=>match kQ cells with
    | some vs=>some (.agg vs.toArray)
    | none=>none
  | _=>none
def pG (S:List (Nat × Slot)):List (Nat × Operand)→Option (List (Nat × Value))
  | []=>some []
  | (i,x)::r=>match evq S x with
    | some p=>match mI p,pG S r with
      | some v,some vs=>some ((i,v)::vs)
      | _,_=>none
    | none=>none
theorem mB {h:Array Obj} {β:Nat→Option (Option Nat)}:∀ {ps:List PV} {vs:List Value} {cs:Array Value} {i:Nat} {B:List Nat},kQ ps=some vs→RelL h true β ps cs i B→vs.length=ps.length∧∀ k v,vs[k]?=some v→cs[i+k]?=some v
  | [],vs,cs,i,B,h1,H=>by simp only [kQ] at h1;cases h1;simp
  | p::ps,vs,cs,i,B,h1,H=>by
    cases p with
    | sc v =>
      simp only [kQ] at h1
      split at h1
      · rename_i vs' hv;cases h1
        simp only [RelL] at H
        obtain ⟨c,B1,B2,g1,g2,g3,_⟩:=H
        simp only [RelV] at g2
        obtain ⟨k1,k2⟩:=mB hv g3
        refine ⟨by simp [k1],fun k u hu=>?_⟩
        cases k with
        | zero=>simp at hu;subst hu;rw [← g2.1];simpa using g1.1
        | succ k=>simp at hu;have:=k2 k u hu;rw [show i+(k+1)=i+1+k by omega];exact this
      · cases h1
    | _=>simp [kQ] at h1
theorem qH {h:Array Obj} {β:Nat→Option (Option Nat)} {p:PV} {v c:Value} {B:List Nat} (hp:mI p=some v) (H:RelV h β p c B):c=v:=by
  cases p with
  | sc u=>simp only [mI] at hp;cases hp;simp only [RelV] at H;exact H.1
  | agg cells =>
    simp only [mI] at hp
    split at hp
    · rename_i vs hv;cases hp
      simp only [RelV] at H
      obtain ⟨cs,rfl,h2,h3⟩:=H
      obtain ⟨k1,k2⟩:=mB hv h3
      congr 1
      apply Array.ext_getElem?
      intro k
      by_cases hk:k < vs.length
      · have:=k2 k vs[k] (by simp)
        rw [Nat.zero_add] at this
        rw [this];simp [hk]
      · rw [Array.getElem?_eq_none (by omega),Array.getElem?_eq_none (by simp;omega)]
    · cases hp
  | _=>simp [mI] at hp
theorem pF {F:Env} {a:Act} {w:World} (h:Sim Γ F a w):∀ {ps:List (Nat × Operand)} {vs:List (Nat × Value)},pG S ps=some vs→(∀ j ∈ oQ ps,lk F.s j=lk S j)→ps.map (fun p=>(p.1,a.eval p.2))=vs
  | [],vs,hv,_=>by simp only [pG] at hv;cases hv;rfl
  | (i,x)::r,vs,hv,hs=>by
    simp only [pG] at hv
    split at hv
    · rename_i p hx
      split at hv
      · rename_i v vs' h1 h2;cases hv
        obtain ⟨ow,β,hsim⟩:=h
        obtain ⟨B,g1,_⟩:=cK hsim hx (fun j hj=>hs j (by simp [oQ,hj]))
        rw [List.map_cons,qH h1 g1,pF ⟨ow,β,hsim⟩ h2 (fun j hj=>hs j (by simp [oQ,hj]))]
      · cases hv
    · cases hv
theorem cN {t:Nat} {ps:Array (Nat × Operand)} {vals:List (Nat × Value)} {cs:List Value} {cells:List PV} (hv:pG S ps.toList=some vals) (hb:P.built t vals=some cs.toArray) (h1:cs.all (·.oneCell')=true) (hc:cs.map .sc=cells) (hd:Nat.blt d N=true) :
    Local Γ ⟨some d,.build t ps,ty,pos,af,g⟩ ⟨S,O⟩ ⟨[(d,⟨.agg cells,true⟩)],[]⟩ (oQ ps.toList) [] []:=by
  intro F hs _ _
  refine bB fun a w hsim=>?_
  have hev:=pF hsim hv hs
  obtain ⟨ow,β,hsim⟩:=hsim
  refine ⟨.agg cs.toArray,w,?_,ow,β,?_⟩
  · simp only [execOp]
    rw [Sem.run_bind,run_build w t _ cs.toArray (by rw [← hb,← hev];simp)]
    rfl
  · subst hc
    have hrel:RelV w.heap β (.agg (cs.map .sc)) (.agg cs.toArray) []:=by
      simp only [RelV]
      refine ⟨cs.toArray,rfl,by simp,?_⟩
      have:=mF (h:=w.heap) (β:=β) (vs:=cs) (pre:=[]) (fun v hv=>List.all_eq_true.1 h1 v hv)
      simpa using this
    obtain h':=hsim.putDeep (d:=d) ((aK _ _).1 hd) hrel (by simp) (by simp) (by simp) (by simp)
    exact h'
end
end Go.Ev
/- The engine, part Y: rows within rows: an own row taken out of another and put back; rows with rows within, handed over. -/
namespace Go.Ev
open Go.RowKit (Below)
section
variable {P:Program} {N:Nat} {Γ:Ctx P N} {S:List (Nat × Slot)} {O:List (Nat × Option Ob)} {ow:Nat→Own} {β:Nat→Option (Option Nat)} {F:Env} {a:Act} {w:World}
theorem RelL.at {h:Array Obj} {β:Nat→Option (Option Nat)} {cells:List PV} {cs:Array Value} {O:List Nat} {c:Nat} {p:PV} (H:RelL h true β cells cs 0 O) (hc:cells[c]?=some p) :
    ∃ v O1 Oc O2,cs[c]?=some v∧v.oneCell'=true∧RelV h β p v Oc∧RelL h true β (cells.take c) cs 0 O1∧RelL h true β (cells.drop (c+1)) cs (c+1) O2∧O=O1++(Oc++O2):=by
  have hlt:c < cells.length:=(List.getElem?_eq_some_iff.1 hc).1
  have e:cells=cells.take c++p::cells.drop (c+1):=by
    rw [← (List.getElem?_eq_some_iff.1 hc).2,List.getElem_cons_drop,List.take_append_drop]
  rw [e] at H
  obtain ⟨O1,O3,h1,h2,rfl⟩:=(RelL.append _ _ _ _ _).1 H
  simp only [RelL] at h2
  obtain ⟨v,Oc,O2,g1,g2,g3,rfl⟩:=h2
  have hl:(cells.take c).length=c:=by rw [List.length_take];omega
  rw [hl,Nat.zero_add] at g1 g3
  exact ⟨v,O1,Oc,O2,g1.1,by simpa using g1.2,g2,h1,g3,rfl⟩
theorem RelL.put {h:Array Obj} {β:Nat→Option (Option Nat)} {cells:List PV} {cs:Array Value} {c:Nat} {p q:PV} {v:Value} {O1 Oc O2:List Nat} (hc:cells[c]?=some p) (hv:cs[c]?=some v) (h1c:v.oneCell'=true) (hq:RelV h β q v Oc)
    (h1:RelL h true β (cells.take c) cs 0 O1) (h2:RelL h true β (cells.drop (c+1)) cs (c+1) O2):RelL h true β (cells.set c q) cs 0 (O1++(Oc++O2)):=by
  have hlt:c < cells.length:=(List.getElem?_eq_some_iff.1 hc).1
  have hl:(cells.take c).length=c:=by rw [List.length_take];omega
  rw [List.set_eq_take_append_cons_drop,if_pos hlt]
  refine (RelL.append _ _ _ _ _).2 ⟨O1,Oc++O2,h1,?_,rfl⟩
  simp only [RelL]
  rw [hl,Nat.zero_add]
  exact ⟨v,Oc,O2,⟨hv,fun _=>h1c⟩,hq,h2,rfl⟩
end
end Go.Ev
/- The engine, part Z: an own row put back into another; calls that write rows with rows within. -/
namespace Go.Ev
open Go.RowKit (Below)
section
variable {P:Program} {N:Nat} {Γ:Ctx P N} {S:List (Nat × Slot)} {O:List (Nat × Option Ob)} {ow:Nat→Own} {β:Nat→Option (Option Nat)} {F:Env} {a:Act} {w:World}
end
end Go.Ev
