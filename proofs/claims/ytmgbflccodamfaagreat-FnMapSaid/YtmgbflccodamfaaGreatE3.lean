/- Parts EvM, EvN, EvO, EvP, EvR, EvS, EvT, EvU, EvV. -/
import Derived.Test.YtmgbflccodamfaaGreatE2
import Derived.WalkKit
import Derived.ProofKit
import Derived.OpenShut
import Derived.Laws.IdiomStrings
import Derived.Laws.BytesArg
set_option linter.all false
set_option maxHeartbeats 4000000
set_option maxRecDepth 20000
/- The engine, part M: nil rows, append. -/
namespace Go.Ev
open Go.RowKit (Below)
section
variable {P:Program}{N:Nat}{Γ:Ctx P N}{S:List (Nat×Slot)}{O:List (Nat×Option Ob)}{ow:Nat->Own}{β:Nat->Option (Option Nat)}{F:Env}{a:Act}{w:World}
variable {d:Nat}{ty:TypeId}{pos:String}{af:Array Edge}{g:Option (Nat×Bool)}
theorem SimG.layNil (h:SimG Γ ow β F a w){l:Nat}(hl:NoLab F l)(hio:Γ.io l=none)(ks ls:List Nat)(dp bx:Bool) :
 ∃ ow',SimG Γ ow' (fun m=>if m=l then some none else if m∈ls then none else β m) (F.app ⟨ks.map (fun j=>(j,⟨.any,false⟩)),(l,some ⟨[],dp,bx⟩)::ls.map (fun j=>(j,none))⟩) a w:=by
 let β':Nat->Option (Option Nat):=fun m=>if m=l then some none else if m∈ls then none else β m
 let ow':Nat->Own:=fun b=>match ow b with
  | .lab m=>if m=l\/m∈ls then .none else .lab m
  | .obj m=>if m=l\/m∈ls then .none else .obj m
  | o=>o
 have howl:∀ b m,ow b≠.lab m->ow' b≠.lab m:=by
  intro b m hb
  show(match ow b with | .lab m=>_ | .obj m=>_ | o=>o)≠_
  cases hx:ow b with
  | lab k=>simp only;split <;> simp;rintro rfl;exact hb hx
  | obj k=>simp only;split <;> simp
  | none=>simp
  | slot k=>simp
 have hIm:∀ b,Im Γ ow w b->Im Γ ow' w b:=fun b ⟨h1,h2,h3⟩=>⟨h1,h2,fun m=>howl b m (h3 m)⟩
 have hkeep:∀ m,m≠l->KeepB w.heap w.heap β β' m:=by
  intro m hne o ho
  have ho':(if m=l then some none else if m∈ls then none else β m)=some o:=ho
  rw[aUq hne]at ho'
  by_cases hm:m∈ls
  · rw[aUs hm]at ho';cases ho'
  · rw[aUq hm]at ho'
    exact⟨ho',fun b _ c t hc=>⟨c,hc,rfl⟩⟩
 have hβ':∀ m,m≠l->m∉ls->β' m=β m:=by
  intro m h1 h2
  show(if _ then _ else if _ then _ else _)=_
  rw[aUq h1,aUq h2]
 have hslot:∀ b k,ow b=.slot k->ow' b=.slot k:=by
  intro b k hb
  show(match ow b with | .lab m=>_ | .obj m=>_ | o=>o)=_
  rw[hb]
 refine⟨ow',{ size:=h.size,defers:=h.defers,kept:=h.kept,slots:=fun k=>?_,objs:=fun m ob hm=>?_,gone:=fun m hm=>?_,own:=fun b hb=>?_,ios:=fun m b hm hs=>?_,fresh:=fun m b hm hi=>?_ }⟩
 · obtain⟨B,g1,g2,g3⟩:=h.slots k
   simp only[Env.app,aCn]
   by_cases hk:k∈ks
   · rw[aUs hk];exact⟨[],by simp[RelV],by simp,by simp⟩
   rw[aUq hk]
   exact⟨B,aXt _ _ _ (fun m hm=>hkeep m (fun e=>hl.1 k (e▸hm))) (fun _ _=>rfl) g1,fun b hb=>hIm b (g2 b hb),fun hd=>⟨(g3 hd).1,fun b hb=>⟨hslot b k ((g3 hd).2 b hb).1,((g3 hd).2 b hb).2⟩⟩⟩
 · simp only[Env.app,aUB,aT,vG]at hm
   by_cases hml:l=m
   · subst hml
     rw[aUs rfl]at hm;cases hm
     exact⟨[],by simp,by simp,.inl ⟨by show(if _ then _ else _)=_;rw[aUs rfl],rfl,rfl⟩⟩
   · rw[aUq hml]at hm
     by_cases hmls:m∈ls
     · rw[aUs hmls]at hm;cases hm
     · rw[aUq hmls]at hm
       obtain⟨B,g1,g2,g3⟩:=h.objs m ob hm
       have eβ:=hβ' m (fun e=>hml e.symm) hmls
       refine⟨B,fun b hb=>hIm b (g1 b hb),fun hd=>⟨(g2 hd).1,fun b hb=>⟨?_,((g2 hd).2 b hb).2⟩⟩,?_⟩
       · have e:=((g2 hd).2 b hb).1
         show(match ow b with | .lab m=>_ | .obj m=>_ | o=>o)=_
         rw[e];simp only;rw[aUq];rintro(e1 | e1)
         · exact hml e1.symm
         · exact hmls e1
       · rcases g3 with⟨e1,e2,e3⟩ | ⟨b,cs,t,e1,e2,e3,e4⟩
         · exact .inl ⟨eβ.trans e1,e2,e3⟩
         · refine .inr ⟨b,cs,t,eβ.trans e1,?_,e3,?_⟩
           · show(match ow b with | .lab m=>_ | .obj m=>_ | o=>o)=_
             rw[e2];simp only;rw[aUq];rintro(e1 | e1)
             · exact hml e1.symm
             · exact hmls e1
           · cases hbx:ob.box with
             | false=>rw[hbx]at e4;exact e4
             | true=>rw[hbx]at e4;exact aXr _ _ _ _ (fun p hp m' hm'=>hkeep m' (fun e=>hl.2.1 m ob hm hbx p hp (e▸hm'))) (fun _ _=>rfl) e4
 · simp only[Env.app,aUB,aT,vG]at hm
   by_cases hml:l=m
   · rw[aUs hml]at hm;cases hm
   · rw[aUq hml]at hm
     show(if _ then _ else if _ then _ else _)=_
     rw[aUq (fun e=>hml e.symm)]
     by_cases hmls:m∈ls
     · rw[aUs hmls]
     · rw[aUq hmls]at hm ⊢;exact h.gone m hm
 · have hb':ow b≠.none:=by
    intro e;apply hb
    show(match ow b with | .lab m=>_ | .obj m=>_ | o=>o)=_
    rw[e]
   obtain⟨g1,g2⟩:=h.own b hb'
   refine⟨g1,g2.imp id fun⟨m,g3,g4⟩=>⟨m,?_,g4⟩⟩
   have:¬(m=l\/m∈ls):=by
    intro hc
    apply hb
    show(match ow b with | .lab m=>_ | .obj m=>_ | o=>o)=_
    rw[g3];simp only;rw[aUs hc]
   show(match ow b with | .lab m=>_ | .obj m=>_ | o=>o)=_
   rw[g3];simp only;rw[aUq this]
 · simp only[Env.app,aUB,aT,vG]at hs
   have hml:m≠l:=by rintro rfl;rw[hio]at hm;cases hm
   rw[aUq (fun e=>hml e.symm)]at hs
   have hmls:m∉ls:=by intro e;rw[aUs e]at hs;simp at hs
   rw[aUq hmls]at hs
   rw[show(if m=l then some none else if m∈ls then none else β m)=β' m from rfl,hβ' m hml hmls]
   exact h.ios m b hm hs
 · have hm':(if m=l then some none else if m∈ls then none else β m)=some (some b):=hm
   by_cases hml:m=l
   · rw[aUs hml]at hm';cases hm'
   · rw[aUq hml]at hm'
     by_cases hmls:m∈ls
     · rw[aUs hmls]at hm';cases hm'
     · rw[aUq hmls]at hm';exact h.fresh m b hm' hi
theorem aDt {t e sz by_:Nat}{agg:Bool}[ht:SlT P t e][hi:TI P e sz agg by_](w:World)(ty:TypeId)(bs ad:Option Addr)(n cap c:Nat)(h:n<=cap) :
 (Builtin.append_ #[t,t] ty #[.slice bs n cap,.slice ad 0 c]).run P w=.ok (.slice bs n cap) w:=by
 obtain⟨⟨i,e1,e2,_⟩,_⟩:=hi.ok
 have hf:(Builtin.firstCells i.size 0 (.slice ad 0 c)).run P w=.ok #[] w:=by
  cases ad with
  | none=>exact run_firstCells_none w _ _ _ _
  | some x=>exact run_firstCells_some (P:=P) w i.size 0 x 0 c [] (by simp) (by simp)
 cases bs with
 | none=>simp[Builtin.append_,run_underlying ht.ok,sizeOf,typeInfo,e1,Builtin.lenOf,h,hf]
 | some b=>simp[Builtin.append_,run_underlying ht.ok,sizeOf,typeInfo,e1,Builtin.lenOf,h,hf,storeCells]
theorem aIN {t e sz by_:Nat}{agg:Bool}[ht:SlT P t e][hi:TI P e sz agg by_](w:World)(ty:TypeId){b n cap:Nat}{cur:Array Value}{u:TypeId}(hg:w.heap[b]?=some (.cells cur u (0,0)))
 (x:Addr) (m c:Nat) (news:List Value) (hl:news.length=m*sz) (hnews:∀ j v,news[j]?=some v->w.cell? (x.add j)=some v) (h1:∀ v∈news,v.oneCell'=true) (hroom:n+m<=cap) (hfit:n*sz+news.length<=cur.size) :
 (Builtin.append_ #[t,t] ty #[.slice (some ⟨b,0,none⟩) n cap,.slice (some x) m c]).run P w=.ok (.slice (some ⟨b,0,none⟩) (n+m) cap) (w.setRow b (cur.toList.take (n*sz)++news++cur.toList.drop (n*sz+news.length)).toArray):=by
 obtain⟨⟨i,e1,e2,_⟩,_⟩:=hi.ok
 subst e2
 have hf:=run_firstCells_some (P:=P) w i.size m x m c news hl hnews
 have hst:=run_storeCells_at P b (n*i.size) u news 0 cur w hg (by simpa using hfit) h1
 simp only[aVh]at hst
 simp[Builtin.append_,run_underlying ht.ok,sizeOf,typeInfo,e1,Builtin.lenOf,hroom,hf,Addr.add_lit,hst]
theorem aFb (w:World)(ob:Obj):Same w (w.drew.alloc ob):=⟨rfl,rfl,rfl,by show _<=(w.heap.push ob).size;simp⟩
theorem aKy (w:World)(ob:Obj):(w.drew.alloc ob).heap[w.heap.size]?=some ob:=fZ w.drew ob
theorem aKx (w:World)(ob:Obj){b:Nat}(h:b<w.heap.size):(w.drew.alloc ob).heap[b]?=w.heap[b]?:=jV w.drew ob h
structure News (w:World)(v:Value)(m sz:Nat)(ncells:List PV)(Bp:List Nat)(news:List Value):Prop where
 len:news.length=m*sz
 one:∀ v∈news,v.oneCell'=true
 rel:RelL w.heap true dead ncells news.toArray 0 Bp
 val:(m=0/\∃ ad c,v=.slice ad 0 c)\/∃ x c,v=.slice (some x) m c/\∀ j u,news[j]?=some u->w.cell? (x.add j)=some u
theorem aMv {b off m sz:Nat}{cs:Array Value}{u:TypeId}{f:Nat×Nat}{ncells:List PV}{Bp:List Nat}{c:Nat}(hb:w.heap[b]?=some (.cells cs u f))(hr:RelL w.heap true dead ncells cs off Bp)(hl:ncells.length=m*sz) :
 ∃ news,News w (.slice (some ⟨b,off,none⟩) m c) m sz ncells Bp news:=by
 refine⟨(cs.extract off (off+ncells.length)).toList,?_⟩
 have hlen:off<=cs.size->off+ncells.length<=cs.size:=fun h=>aXS _ _ _ _ h hr
 have hsz:(cs.extract off (off+ncells.length)).size=ncells.length:=by
  rw[Array.size_extract]
  rcases aVA cs.size off with h | h
  · cases ncells with
    | nil=>simp only[aVu,aVh];omega
    | cons p r =>
     simp only[RelL]at hr
     obtain⟨c,_,_,q1,_⟩:=hr
     have:=(aV3.1 q1.1).1
     omega
  · have:=hlen h;omega
 have hget:∀ j,j<ncells.length->(cs.extract off (off+ncells.length)).toList[j]?=cs[off+j]?:=by
  intro j hj
  rw[Array.getElem?_toList,Array.getElem?_extract,aUs]
  rw[Array.size_extract]at hsz
  omega
 refine⟨by rw[aWH,hsz,hl],fun v hv=>?_,?_,.inr ⟨_,_,rfl,fun j v hj=>?_⟩⟩
 · obtain⟨k,hk,e⟩:=aVv hv
   have hk':k<ncells.length:=by rw[aWH,hsz]at hk;exact hk
   obtain⟨c,g1,g2⟩:=aF0 _ _ _ _ hr k hk'
   have:=hget k hk'
   rw[g1,aUG hk,e]at this
   cases this;exact g2
 · rw[Array.toArray_toList]
   exact wJ rfl hr
 · have hk':j<ncells.length:=by
    have:=(aVf.1 hj).1
    rw[aWH,hsz]at this;exact this
   rw[hget j hk']at hj
   rw[Addr.add_lit,cell_of_row w b (off+j) cs u f hb];exact hj
theorem aKH (hsim:SimG Γ ow β F a w){t e sz by_ l n m:Nat}{agg dp dp':Bool}{zs:List PV}[ht:SlT P t e][hi:TI P e sz agg by_][hz:ZT P e zs]{cells ncells:List PV}{bv xv:Value}{Bp:List Nat}{news:List Value}
 (hx:RelV w.heap β (.ref l sz 0 n) bv []) (ho:lo F.o l=some ⟨cells,dp,false⟩) (hlen:cells.length=n*sz) (hN:News w xv m sz ncells Bp news) (hnl:ncells.length=m*sz) (hpi:∀ c∈Bp,Im Γ ow w c)
 (hb:(n+m)*by_<=140737488355328) (h63:n+m<=9223372036854775807) (hd:d<N) (hio:Γ.io d=none) (hnd:NoLab F d) (hiol:Γ.io l=none)
 (ks:List Nat) (hdp:dp'=true->dp=true/\Bp.Nodup/\∀ c∈Bp,gA w c/\Γ.nw c/\∃ s∈ks,ow c=.slot s) :
 ∃ c w',(Builtin.append_ #[t,t] ty #[bv,xv]).run P w=.ok c w'/\Sim Γ (F.app ⟨(d,⟨.ref d sz 0 (n+m),false⟩)::ks.map (fun j=>(j,⟨.any,false⟩)),[(d,some ⟨cells++ncells,dp',false⟩),(l,none)]⟩) (a.put (some d) c) w':=by
 obtain⟨Bo,o1,o2,hob⟩:=hsim.objs l _ ho
 simp only[RelV]at hx
 obtain⟨i,z,z1,z2,z3,_,_⟩:=hz.ok
 obtain⟨⟨i',i1,i2,i3⟩,_⟩:=hi.ok
 rw[z1]at i1;cases i1
 have deepOk:∀ (ls:List Nat),l∈ls->dp'=true->(Bo++Bp).Nodup/\∀ c∈Bo++Bp,gA w c/\Γ.nw c/\((∃ k∈ks,ow c=.slot k)\/(∃ m∈ls,ow c=.obj m)\/ow c=.none):=by
  intro ls hls h
  obtain⟨d1,d2,d3⟩:=hdp h
  obtain⟨e1,e2⟩:=o2 d1
  refine⟨?_,fun c hc=>?_⟩
  · rw[aUQ]
    refine⟨e1,d2,fun c hc c' hc' e=>?_⟩
    subst e
    obtain⟨_,_,s,_,e3⟩:=d3 c hc'
    rw[(e2 c hc).1]at e3;cases e3
  · rcases aUz.1 hc with hc | hc
    · obtain⟨f1,f2⟩:=e2 c hc
      refine⟨f2,?_,.inr (.inl ⟨l,hls,f1⟩)⟩
      rcases(hsim.own c (by rw[f1];simp)).2 with h | ⟨m,h,_⟩
      · exact h
      · rw[f1]at h;cases h
    · obtain⟨f1,f2,s,f3,f4⟩:=d3 c hc
      exact⟨f1,f2,.inl ⟨s,f3,f4⟩⟩
 have himAll:∀ c∈Bo++Bp,Im Γ ow w c:=fun c hc=>(aUz.1 hc).elim (o1 c) (hpi c)
 have hcells0:m=0->ncells=[]:=fun h=>by subst h;simpa using hnl
 have newBlock:∀ (cap:Nat) (cs':Array Value),RelL w.heap true dead ncells cs' (n*sz) Bp->RelL w.heap true dead cells cs' 0 Bo->n+m<=cap->cap*sz<=cs'.size->
  Sim Γ (F.app ⟨(d,⟨.ref d sz 0 (n+m),false⟩)::ks.map (fun j=>(j,⟨.any,false⟩)),[(d,some ⟨cells++ncells,dp',false⟩),(l,none)]⟩) (a.put (some d) (.slice (some ⟨w.heap.size,0,none⟩) (n+m) cap)) (w.drew.alloc (.cells cs' e)):=by
  intro cap cs' h1 h2 h3 h4
  refine hsim.layPut (ks:=ks) (ls:=[l]) (aFb w _) (b0:=w.heap.size) (by show _<(w.heap.push _).size;simp) (fun b hb _=>aKx w _ hb) (aKy w _) hnd hio (.inl (aUI _)) (.inl hsim.kept.size) ⟨cells++ncells,dp',false⟩ (B:=Bo++Bp) ?_ (by simp) himAll (deepOk [l] (by simp)) hd (fun β' hβ=>?_)
  · refine aXr (β:=dead) (h:=w.heap) _ _ _ _ (fun q _ m _ o hm=>by cases hm) (fun c hc=>aKx w _ (himAll c hc).1) ?_
    exact(aXE _ _ _ _ _).2 ⟨Bo,Bp,h2,by rw[aUR,hlen];exact h1,rfl⟩
  · simp only[RelV]
    refine⟨trivial,fun h=>by rw[hβ]at h;simp at h,fun b hb=>?_⟩
    rw[hβ]at hb;cases hb
    exact⟨cap,cs',e,by simp,aKy w _,by simpa using h4,h3⟩
 have hzsz:z.cells.size=sz:=z3.trans i2
 have h48:∀ old,old<n+m->Builtin.nextslicecap (n+m) old*i.bytes<=281474976710656:=fun old h=>growslice_fits h (by rw[i3];exact hb)
 rcases hob with⟨p1,p2,p3⟩ | ⟨b,cs,u,p1,p2,p3,p4⟩
 · -- the base is nil
   obtain⟨rfl,_,rfl⟩:=hx.2.1 p1
   simp only at p2;subst p2;subst p3
   by_cases hm:m=0
   · subst hm
     have hnc:=hcells0 rfl
     subst hnc
     have hxv:∃ ad c,xv=.slice ad 0 c:=by
      rcases hN.val with⟨_,ad,c,h⟩ | ⟨x,c,h,_⟩
      · exact⟨ad,c,h⟩
      · exact⟨some x,c,h⟩
     obtain⟨ad,c,rfl⟩:=hxv
     refine⟨.slice none 0 0,w,aDt (t:=t) (e:=e) (sz:=sz) w ty none ad 0 0 c (aUI _),?_⟩
     obtain⟨ow',h'⟩:=hsim.layNil hnd hio ks [l] dp' false
     have h2:=h'.put (d:=d) (v:=.ref d sz 0 0) (c:=.slice none 0 0) (O:=[]) hd (by simp only[RelV];exact⟨trivial,fun _=>⟨trivial,trivial,trivial⟩,fun b hb=>by simp at hb⟩) (by simp)
     exact⟨_,_,h2⟩
   · rcases hN.val with⟨h0,_⟩ | ⟨x,c,rfl,hnews⟩
     · exact absurd h0 hm
     have hr:=run_append_nil (P:=P) w t ty e i z ht.ok z1 z2 x m c news (by rw[i2];exact hN.len) hnews (by omega) (by omega) (by have:=h48 0 (by omega);rw[nextslicecap_zero (by omega)]at this;simpa using this)
     have hge:=grownCap_ge w m 0 e
     refine⟨_,_,hr,?_⟩
     have:=newBlock (grownCap w m 0 e) (news.toArray++Builtin.zeroCells z.cells (grownCap w m 0 e-m)) (aXG _ _ _ _ _ _ (fun j hj=>by
      rw[aWI,aWC (by rw[hnl]at hj;simp[hN.len];omega)]) hN.rel) (by simp[RelL]) (by omega) (by
      simp only[Array.size_append,size_zeroCells,List.size_toArray,hN.len,hzsz];rw[<- Nat.add_mul];exact aVC _ (by omega))
     simpa using this
 · obtain⟨cap,cs',u',q1,q2,q3,q4⟩:=hx.2.2 b p1
   rw[p3]at q2;cases q2
   simp only[aWI,aUR]at q1 q3
   subst q1
   have hbne:b<w.heap.size:=hsim.block_lt p1
   have hbase:Γ.nww b:=hsim.fresh l b p1 hiol
   by_cases hm:m=0
   · subst hm
     have hnc:=hcells0 rfl
     subst hnc
     have hxv:∃ ad c,xv=.slice ad 0 c:=by
      rcases hN.val with⟨_,ad,c,h⟩ | ⟨x,c,h,_⟩
      · exact⟨ad,c,h⟩
      · exact⟨some x,c,h⟩
     obtain⟨ad,c,rfl⟩:=hxv
     refine⟨_,w,aDt (t:=t) (e:=e) (sz:=sz) w ty (some ⟨b,0,none⟩) ad n cap c q4,?_⟩
     have hBp:Bp=[]:=by have:=hN.rel;simpa [RelL]using this
     subst hBp
     refine hsim.layPut (ks:=ks) (ls:=[l]) ⟨rfl,rfl,rfl,aUI _⟩ (b0:=b) hbne (fun _ _ _=>rfl) p3 hnd hio (.inr ⟨l,by simp,p1⟩) hbase ⟨cells++[],dp',false⟩ (B:=Bo) ?_ (by simp) o1 (by simpa using deepOk [l] (by simp)) hd (fun β' hβ=>?_)
     · simpa using p4
     · simp only[RelV]
       refine⟨trivial,fun h=>by rw[hβ]at h;simp at h,fun b' hb=>?_⟩
       rw[hβ]at hb;cases hb
       exact⟨cap,cs,u,by simp,p3,by simpa using q3,by simpa using q4⟩
   · rcases hN.val with⟨h0,_⟩ | ⟨x,c,rfl,hnews⟩
     · exact absurd h0 hm
     by_cases hroom:n+m<=cap
     · have hfit:n*sz+news.length<=cs.size:=by
        rw[hN.len,<- Nat.add_mul];exact aUE (aVC _ hroom) q3
       refine⟨_,_,aIN (t:=t) (e:=e) (sz:=sz) w ty p3 x m c news hN.len hnews hN.one hroom hfit,?_⟩
       have hrow:=setRow_heap w b cs (cs.toList.take (n*sz)++news++cs.toList.drop (n*sz+news.length)).toArray u (0,0) p3
       have himne:∀ c,Im Γ ow w c->c≠b:=by rintro c ⟨_,_,h3⟩ rfl;exact h3 l p2
       have hsize:(cs.toList.take (n*sz)++news++cs.toList.drop (n*sz+news.length)).toArray.size=cs.size:=by simp;omega
       refine hsim.layPut (ks:=ks) (ls:=[l]) (aEO w b _) (b0:=b) (by simpa using hbne) (fun c _ h=>setRow_other w b c _ h) hrow hnd hio (.inr ⟨l,by simp,p1⟩) hbase ⟨cells++ncells,dp',false⟩ (B:=Bo++Bp) ?_ (by simp) himAll (deepOk [l] (by simp)) hd (fun β' hβ=>?_)
       · refine aXr (β:=dead) (h:=w.heap) _ _ _ _ (fun q _ m _ o hm=>by cases hm) (fun c hc=>setRow_other w b c _ (himne c (himAll c hc))) ?_
         have hlt:(cs.toList.take (n*sz)).length=n*sz:=by simp;omega
         refine(aXE _ _ _ _ _).2 ⟨Bo,Bp,aXG _ _ _ _ _ _ (fun j hj=>?_) p4,aXG _ _ _ _ _ _ (fun j hj=>?_) hN.rel,rfl⟩
         · simp only[aUR,aVS]
           rw[hlen]at hj
           rw[aUO,aVm (by omega),aWc,aUs hj];simp
         · simp only[aUR,aVS]
           rw[hnl,<- hN.len]at hj
           rw[hlen,aUO,aVl (by omega),hlt,Nat.add_sub_cancel_left,aVm hj]
       · simp only[RelV]
         refine⟨trivial,fun h=>by rw[hβ]at h;simp at h,fun b' hb=>?_⟩
         rw[hβ]at hb;cases hb
         exact⟨cap,_,u,by simp,hrow,by rw[hsize];simpa using q3,hroom⟩
     · have hcs:n*sz<=cs.size:=aUE (aVC _ (by omega)) q3
       have hr:=run_append_grow (P:=P) w t ty e i z ht.ok z1 z2 ⟨b,0,none⟩ n cap (cs.toList.take (n*sz)) (by rw[i2];simp;omega) (fun j v hj=>by
        rw[aWc]at hj
        split at hj
        · rw[Addr.add_lit,aUR,cell_of_row w b j cs u (0,0) p3];simpa using hj
        · cases hj) x m c news (by rw[i2];exact hN.len) hnews (by omega) (by omega) (h48 cap (by omega))
       have hge:=grownCap_ge w (n+m) cap e
       refine⟨_,_,hr,?_⟩
       have hlt:(cs.toList.take (n*sz)).length=n*sz:=by simp;omega
       refine newBlock (grownCap w (n+m) cap e) _ (aXG _ _ _ _ _ _ (fun j hj=>?_) hN.rel) (aXG _ _ _ _ _ _ (fun j hj=>?_) p4) (by omega) ?_
       · rw[hnl,<- hN.len]at hj
         rw[aWC (by simp;omega),Array.getElem?_append_right (by simp;omega)]
         simp[show min (n*sz) cs.size=n*sz by omega]
       · rw[hlen]at hj
         rw[aUR,aWC (by simp;omega),aWC (by simp;omega)]
         simp[hj]
       · simp only[Array.size_append,size_zeroCells,List.size_toArray,hN.len,hzsz,hlt];rw[<- Nat.add_mul,<- Nat.add_mul];exact aVC _ (by omega)
def jO:List PV->Bool
 | []=>true
 | .sc _::r=>jO r
 | _::_=>false
theorem mY {h:Array Obj}{q:Bool}{β:Nat->Option (Option Nat)}:∀ {ps:List PV} {cs:Array Value} {i:Nat} {B:List Nat},jO ps=true->RelL h q β ps cs i B->B=[]
 | [],_,_,_,_,H=>by simpa [RelL]using H
 | .sc v::ps,cs,i,B,hf,H=>by
  simp only[RelL]at H
  obtain⟨c,B1,B2,_,h2,h3,rfl⟩:=H
  simp only[RelV]at h2
  rw[h2.2,mY (by simpa [jO]using hf) h3];rfl
 | .sl _ _::_,_,_,_,hf,_=>by simp[jO]at hf
 | .ref _ _ _ _::_,_,_,_,hf,_=>by simp[jO]at hf
 | .ptr _ _::_,_,_,_,hf,_=>by simp[jO]at hf
 | .iptr _::_,_,_,_,hf,_=>by simp[jO]at hf
 | .rw _ _ _::_,_,_,_,hf,_=>by simp[jO]at hf
 | .agg _::_,_,_,_,hf,_=>by simp[jO]at hf
 | .tup _::_,_,_,_,hf,_=>by simp[jO]at hf
 | .any::_,_,_,_,hf,_=>by simp[jO]at hf
theorem aA9 {α:Type}{l:List α}{enc:α->List PV}(h:∀ y,jO (enc y)=true):jO (l.flatMap enc)=true:=by
 have happ:∀ a b:List PV,jO a=true->jO b=true->jO (a++b)=true:=by
  intro a
  induction a with
  | nil=>intro b _ hb;exact hb
  | cons p r ih =>
   intro b ha hb
   cases p <;> simp[jO]at ha ⊢
   exact ih b ha hb
 induction l with
 | nil=>rfl
 | cons x r ih=>exact happ _ _ (h x) ih
theorem aQC {m sz:Nat}{ncells:List PV}{c:Value}{B:List Nat}(H:RelV w.heap β (.sl m ncells) c B)(hl:ncells.length=m*sz):∃ Bp news,News w c m sz ncells Bp news/\∀ b∈Bp,b∈B:=by
 simp only[RelV]at H
 rcases H with⟨rfl,rfl,rfl,ad,cap,rfl⟩ | ⟨b,off,cap,cs,u,f,B',⟨rfl,_⟩,h2,h3,rfl⟩
 · exact⟨[],[],⟨by simp,by simp,by simp[RelL],.inl ⟨rfl,ad,cap,rfl⟩⟩,by simp⟩
 · obtain⟨news,h⟩:=aMv (c:=cap) h2 h3 hl
   exact⟨B',news,h,by simp +contextual⟩
theorem aQd {x y:Operand}{t e sz by_ l n m:Nat}{agg dp:Bool}(scn:Bool){zs cells ncells cells':List PV}{n':Nat}[ht:SlT P t e][hi:TI P e sz agg by_][hz:ZT P e zs](hx:evq S x=some (.ref l sz 0 n))(ho:loq O l=some ⟨cells,dp,false⟩)(hy:evq S y=some (.sl m ncells))
 (hlen:cells.length=n*sz) (hnl:ncells.length=m*sz) (hb:(n+m)*by_<=140737488355328) (h63:n+m<=9223372036854775807) (hio:Γ.io d=none/\Γ.io l=none) (hsc:scn=true->jO ncells=true) (hcat:cells++ncells=cells'/\n+m=n') (hd:Nat.blt d N=true) :
 Local Γ ⟨some d,.call ⟨.builtin .append,#[x,y],#[t,t]⟩,ty,pos,af,g⟩ ⟨S,O⟩ ⟨[(d,⟨.ref d sz 0 n',false⟩)],[(d,some ⟨cells',dp&&scn,false⟩),(l,none)]⟩ (ors x++ors y) [l] [d]:=by
 obtain⟨rfl,rfl⟩:=hcat
 intro F hs hlo hnd
 refine bE fun a w ⟨ow,β,hsim⟩=>?_
 obtain⟨B,h1,h2⟩:=cK hsim hx (fun k hk=>hs k (by simp[hk]))
 obtain⟨By,g1,g2⟩:=cK hsim hy (fun k hk=>hs k (by simp[hk]))
 obtain⟨Bp,news,hN,hsub⟩:=aQC g1 hnl
 have hB:B=[]:=by simp only[RelV]at h1;exact h1.1
 subst hB
 obtain⟨c,w',e1,e2⟩:=aKH (ty:=ty) (t:=t) (e:=e) (dp':=dp&&scn) hsim h1 (by rw[hlo l (by simp),<- dA];exact ho) hlen hN hnl (fun c hc=>g2 c (hsub c hc)) hb h63 ((aR _ _).1 hd) hio.1 (hnd d (by simp)) hio.2 [] (fun h=>by
  simp only[aUP]at h
  rw[mY (hsc h.2) hN.rel]
  exact⟨h.1,by simp,by simp⟩)
 refine⟨c,w',?_,e2⟩
 simp[execOp,resolve,invoke,builtin,e1]
theorem aS4 {x:Operand}{t e sz by_ l n m s:Nat}{agg dp:Bool}{zs cells ncells cells':List PV}{n':Nat}[ht:SlT P t e][hi:TI P e sz agg by_][hz:ZT P e zs](hx:evq S x=some (.ref l sz 0 n))(ho:loq O l=some ⟨cells,dp,false⟩)(hy:lkq S s=some ⟨.sl m ncells,true⟩)
 (hlen:cells.length=n*sz) (hnl:ncells.length=m*sz) (hb:(n+m)*by_<=140737488355328) (h63:n+m<=9223372036854775807) (hio:Γ.io d=none/\Γ.io l=none) (hcat:cells++ncells=cells'/\n+m=n') (hd:Nat.blt d N=true) :
 Local Γ ⟨some d,.call ⟨.builtin .append,#[x,.tmp s],#[t,t]⟩,ty,pos,af,g⟩ ⟨S,O⟩ ⟨[(d,⟨.ref d sz 0 n',false⟩),(s,⟨.any,false⟩)],[(d,some ⟨cells',dp,false⟩),(l,none)]⟩ (ors x++[s]) [l] [d]:=by
 obtain⟨rfl,rfl⟩:=hcat
 intro F hs hlo hnd
 refine bE fun a w ⟨ow,β,hsim⟩=>?_
 obtain⟨B,h1,h2⟩:=cK hsim hx (fun k hk=>hs k (by simp[hk]))
 obtain⟨By,g1,g2,g3⟩:=hsim.slots s
 rw[(hs s (by simp)).trans (gH hy)]at g1 g3
 have hB:B=[]:=by simp only[RelV]at h1;exact h1.1
 subst hB
 have hN:∃ Bp news,News w (a.tmps.getD s undef) m sz ncells Bp news/\(∀ b∈Bp,b∈By)/\(By.Nodup->Bp.Nodup):=by
  simp only[RelV]at g1
  rcases g1 with⟨rfl,rfl,rfl,ad,cap,e⟩ | ⟨b,off,cap,cs,u,f,B',⟨e,_⟩,h2,h3,rfl⟩
  · rw[e];exact⟨[],[],⟨by simp,by simp,by simp[RelL],.inl ⟨rfl,ad,cap,rfl⟩⟩,by simp,by simp⟩
  · rw[e]
    obtain⟨news,h⟩:=aMv (c:=cap) h2 h3 hnl
    exact⟨B',news,h,by simp +contextual,fun h=>(aUL.1 h).2⟩
 obtain⟨Bp,news,hN,hsub,hnod⟩:=hN
 obtain⟨c,w',e1,e2⟩:=aKH (ty:=ty) (t:=t) (e:=e) (dp':=dp) hsim h1 (by rw[hlo l (by simp),<- dA];exact ho) hlen hN hnl (fun c hc=>g2 c (hsub c hc)) hb h63 ((aR _ _).1 hd) hio.1 (hnd d (by simp)) hio.2 [s] (fun h=>by
  refine⟨h,hnod (g3 rfl).1,fun c hc=>?_⟩
  obtain⟨f1,f2⟩:=(g3 rfl).2 c (hsub c hc)
  refine⟨f2,?_,s,by simp,f1⟩
  rcases(hsim.own c (by rw[f1];simp)).2 with h | ⟨m,h,_⟩
  · exact h
  · rw[f1]at h;cases h)
 have ev:a.eval (.tmp s)=a.tmps.getD s undef:=rfl
 refine⟨c,w',?_,e2⟩
 rw[<- ev]at e1
 simp only[execOp,resolve,invoke,builtin,List.map_toArray,aUH,aVy]
 simp[e1]
end
/- The engine, part N: own blocks become values again; results out of own blocks; changes of view. -/
open Go.RowKit (Below)
section
variable {P:Program}{N:Nat}{Γ:Ctx P N}{S:List (Nat×Slot)}{O:List (Nat×Option Ob)}{ow:Nat->Own}{β:Nat->Option (Option Nat)}{F:Env}{a:Act}{w:World}
variable {d:Nat}{ty:TypeId}{pos:String}{af:Array Edge}{g:Option (Nat×Bool)}
open Classical in
theorem SimG.toSlot (h:SimG Γ ow β F a w){l:Nat}{ob:Ob}(ho:lo F.o l=some ob)(hio:Γ.io l=none){d:Nat}(hd:d<N){v:PV}{c:Value}{B:List Nat}{dp:Bool}(hv:RelV w.heap dead v c B)(hB:∀ b∈B,Im Γ ow w b\/ow b=.lab l)
 (hdeep:dp=true->B.Nodup/\∀ b∈B,(ow b=.obj l\/ow b=.lab l)/\gA w b) (hvl:v.labs=[]) :
 ∃ ow',SimG Γ ow' (fun m=>if m=l then none else β m) (F.app ⟨[(d,⟨v,dp⟩)],[(l,none)]⟩) (a.put (some d) c) w:=by
 let β':Nat->Option (Option Nat):=fun m=>if m=l then none else β m
 let ow':Nat->Own:=fun b=>if b∈B/\dp=true then .slot d else if ow b=.lab l\/ow b=.obj l then .none else ow b
 have hbase:∀ b,ow b=.obj l\/ow b=.lab l->b<w.heap.size/\Γ.nw b:=by
  intro b hb
  have hne:ow b≠.none:=by rcases hb with e | e <;> rw[e] <;> simp
  obtain⟨h1,h2⟩:=h.own b hne
  refine⟨h1,?_⟩
  rcases h2 with h2 | ⟨m,h2,h3⟩
  · exact h2
  · rcases hb with e | e <;> rw[e]at h2 <;> cases h2
    rw[hio]at h3;cases h3
 have hnolab:∀ b m,ow b≠.lab m->ow' b≠.lab m:=by
  intro b m hb
  show(if _ then _ else if _ then _ else _)≠_
  split
  · simp
  · split
    · simp
    · exact hb
 have hIm:∀ b,Im Γ ow w b->Im Γ ow' w b:=fun b ⟨h1,h2,h3⟩=>⟨h1,h2,fun m=>hnolab b m (h3 m)⟩
 have hkeep:∀ m,KeepB w.heap w.heap β β' m:=by
  intro m o ho
  have ho':(if m=l then none else β m)=some o:=ho
  by_cases hm:m=l
  · rw[aUs hm]at ho';cases ho'
  · rw[aUq hm]at ho';exact⟨ho',fun b _ c t hc=>⟨c,hc,rfl⟩⟩
 have hInew:∀ b∈B,Im Γ ow' w b:=by
  intro b hb
  rcases hB b hb with h1 | h1
  · exact hIm b h1
  · obtain⟨q1,q2⟩:=hbase b (.inr h1)
    refine⟨q1,.inr q2,fun m=>?_⟩
    show(if _ then _ else if _ then _ else _)≠_
    split
    · simp
    · rw[aUs (.inl h1)];simp
 have hstay:∀ b o,ow b=o->(∀ x,o≠.lab l/\o≠.obj l/\(o=.slot x->True))->(dp=true->b∈B->False)->ow' b=o:=by
  intro b o hb ho hn
  show(if _ then _ else if _ then _ else _)=_
  rw[aUq (fun hc=>hn hc.2 hc.1),aUq]
  · exact hb
  · rw[hb];rintro(e | e)
    · exact(ho 0).1 e
    · exact(ho 0).2.1 e
 have hBown:∀ b o,ow b=o->o≠.lab l->o≠.obj l->dp=true->b∈B->False:=by
  intro b o hb h1 h2 hdp hbB
  rcases((hdeep hdp).2 b hbB).1 with e | e <;> rw[e]at hb <;> subst hb
  · exact h2 rfl
  · exact h1 rfl
 refine⟨ow',{ size:=by simp[Act.put,h.size],defers:=by simp[Act.put,h.defers],kept:=h.kept,slots:=fun k=>?_,objs:=fun m ob' hm=>?_,gone:=fun m hm=>?_,own:=fun b hb=>?_,ios:=fun m b hm hs=>?_,fresh:=fun m b hm hi=>?_ }⟩
 · simp only[Env.app,aUB,aUx,gI,Act.put]
   by_cases hk:d=k
   · subst hk
     rw[aUs rfl,lT (by rw[h.size];exact hd)]
     refine⟨B,hv.nolab hvl,hInew,fun hx=>⟨(hdeep hx).1,fun b hb=>⟨?_,((hdeep hx).2 b hb).2⟩⟩⟩
     show(if _ then _ else _)=_
     rw[aUs ⟨hb,hx⟩]
   · rw[aUq hk,sZ hk]
     obtain⟨B',g1,g2,g3⟩:=h.slots k
     refine⟨B',aXt _ _ _ (fun m _=>hkeep m) (fun _ _=>rfl) g1,fun b hb=>hIm b (g2 b hb),fun hx=>⟨(g3 hx).1,fun b hb=>⟨?_,((g3 hx).2 b hb).2⟩⟩⟩
     have e:=((g3 hx).2 b hb).1
     exact hstay b _ e (fun _=>⟨by simp,by simp,fun _=>trivial⟩) (hBown b _ e (by simp) (by simp))
 · simp only[Env.app,aUB,aUx,aT]at hm
   by_cases hml:l=m
   · rw[aUs hml]at hm;cases hm
   · rw[aUq hml]at hm
     obtain⟨B',g1,g2,g3⟩:=h.objs m ob' hm
     have eβ:β' m=β m:=by show(if _ then _ else _)=_;rw[aUq (fun e=>hml e.symm)]
     have ho1:∀ x,ow x=Own.obj m->ow' x=.obj m:=fun x e=>hstay x _ e (fun _=>⟨by simp,by simp;exact fun e=>hml e.symm,fun _=>trivial⟩) (hBown x _ e (by simp) (by simp;exact fun e=>hml e.symm))
     have ho2:∀ x,ow x=Own.lab m->ow' x=.lab m:=fun x e=>hstay x _ e (fun _=>⟨by simp;exact fun e=>hml e.symm,by simp,fun _=>trivial⟩) (hBown x _ e (by simp;exact fun e=>hml e.symm) (by simp))
     refine⟨B',fun b hb=>hIm b (g1 b hb),fun hx=>⟨(g2 hx).1,fun b hb=>⟨ho1 b ((g2 hx).2 b hb).1,((g2 hx).2 b hb).2⟩⟩,?_⟩
     rcases g3 with⟨e1,e2,e3⟩ | ⟨b,cs,t,e1,e2,e3,e4⟩
     · exact .inl ⟨eβ.trans e1,e2,e3⟩
     · refine .inr ⟨b,cs,t,eβ.trans e1,ho2 b e2,e3,?_⟩
       cases hbx:ob'.box with
       | false=>rw[hbx]at e4;exact e4
       | true=>rw[hbx]at e4;exact aXr _ _ _ _ (fun p _ m' _=>hkeep m') (fun _ _=>rfl) e4
 · simp only[Env.app,aUB,aUx,aT]at hm
   show(if _ then _ else _)=_
   by_cases hml:m=l
   · rw[aUs hml]
   · rw[aUq hml];rw[aUq (fun e=>hml e.symm)]at hm;exact h.gone m hm
 · have hb':(if b∈B/\dp=true then Own.slot d else if ow b=.lab l\/ow b=.obj l then .none else ow b)≠.none:=hb
   by_cases hc:b∈B/\dp=true
   · obtain⟨q1,q2⟩:=hbase b ((hdeep hc.2).2 b hc.1).1
     exact⟨q1,.inl q2⟩
   · rw[aUq hc]at hb'
     by_cases hc2:ow b=.lab l\/ow b=.obj l
     · rw[aUs hc2]at hb';simp at hb'
     · rw[aUq hc2]at hb'
       obtain⟨g1,g2⟩:=h.own b hb'
       refine⟨g1,g2.imp id fun⟨m,g3,g4⟩=>⟨m,?_,g4⟩⟩
       show(if _ then _ else if _ then _ else _)=_
       rw[aUq hc,aUq hc2];exact g3
 · simp only[Env.app,aUB,aUx,aT]at hs
   have hml:m≠l:=by rintro rfl;rw[hio]at hm;cases hm
   rw[aUq (fun e=>hml e.symm)]at hs
   show(if _ then _ else _)=_
   rw[aUq hml];exact h.ios m b hm hs
 · have hm':(if m=l then none else β m)=some (some b):=hm
   by_cases hml:m=l
   · rw[aUs hml]at hm';cases hm'
   · rw[aUq hml]at hm';exact h.fresh m b hm' hi
theorem aDx {a:Act}{k:Nat}:a.put (some k) (a.tmps.getD k undef)=a:=by
 cases a with
 | mk tmps defers =>
  simp only[Act.put]
  congr 1
  apply Array.ext_getElem?
  intro j
  rw[Array.getElem?_setIfInBounds]
  by_cases hj:k=j
  · subst hj
    by_cases hlt:k<tmps.size
    · simp[hlt]
    · simp[hlt]
  · simp[hj]
theorem Ent.freeze {k l s n:Nat}{cells:List PV}{dp dp0:Bool}(hk:lkq S k=some ⟨.ref l s 0 n,dp0⟩)(ho:loq O l=some ⟨cells,dp,false⟩)(hio:Γ.io l=none)(hN:Nat.blt k N=true) :
 Ent Γ ⟨S,O⟩ ⟨(k,⟨.sl n cells,dp⟩)::S,(l,none)::O⟩:=by
 rintro a w ⟨ow,β,h⟩
 obtain⟨B,h1,_,_⟩:=h.slots k
 rw[gH hk]at h1
 simp only[RelV]at h1
 have ho':lo (Env.mk S O).o l=some ⟨cells,dp,false⟩:=by rw[<- dA];exact ho
 obtain⟨Bo,o1,o2,hob⟩:=h.objs l _ ho'
 have hkN:=(aR _ _).1 hN
 rcases hob with⟨p1,p2,p3⟩ | ⟨b,cs,t,p1,p2,p3,p4⟩
 · obtain⟨rfl,_,e⟩:=h1.2.1 p1
   simp only at p2;subst p2;subst p3
   obtain⟨ow',h'⟩:=h.toSlot ho' hio hkN (v:=.sl 0 []) (c:=a.tmps.getD k undef) (B:=[]) (dp:=dp) (by simp only[RelV];exact .inl ⟨trivial,trivial,trivial,_,_,e⟩) (by simp) (by simp) rfl
   rw[aDx]at h'
   exact⟨_,_,h'⟩
 · obtain⟨cap,cs',t',q1,q2,q3,q4⟩:=h1.2.2 b p1
   simp only[aWI]at q1
   obtain⟨ow',h'⟩:=h.toSlot ho' hio hkN (v:=.sl n cells) (c:=a.tmps.getD k undef) (B:=b::Bo) (dp:=dp) (by
    simp only[RelV];exact .inr ⟨b,0,cap,cs,t,(0,0),Bo,⟨q1,q4⟩,p3,p4,rfl⟩) (fun c hc=>by
    rcases aUr.1 hc with rfl | hc
    · exact .inr p2
    · exact .inl (o1 c hc)) (fun hx=>by
    obtain⟨e1,e2⟩:=o2 hx
    refine⟨aUL.2 ⟨fun hb=>(by have:=(e2 b hb).1;rw[p2]at this;cases this),e1⟩,fun c hc=>?_⟩
    rcases aUr.1 hc with rfl | hc
    · exact⟨.inr p2,_,_,p3⟩
    · exact⟨.inl (e2 c hc).1,(e2 c hc).2⟩) rfl
   rw[aDx]at h'
   exact⟨_,_,h'⟩
theorem aRf {x:Operand}{t n by_ l:Nat}{cells:List PV}{dp:Bool}[ht:TI P t n true by_](hx:evq S x=some (.ptr l 0))(ho:loq O l=some ⟨cells,dp,false⟩)(hn:Nat.beq cells.length n=true)(hn0:n≠0)(hnl:qB cells=true)(hio:Γ.io l=none)(hd:Nat.blt d N=true) :
 Local Γ ⟨some d,.load t x,ty,pos,af,g⟩ ⟨S,O⟩ ⟨[(d,⟨.agg cells,dp⟩)],[(l,none)]⟩ (ors x) [l] []:=by
 intro F hs hlo _
 refine bE fun a w ⟨ow,β,hsim⟩=>?_
 obtain⟨B,h1,h2⟩:=cK hsim hx hs
 simp only[RelV]at h1
 have hn:=aU0 hn
 have ho':lo F.o l=some ⟨cells,dp,false⟩:=by rw[hlo l (by simp),<- dA];exact ho
 obtain⟨Bo,o1,o2,hob⟩:=hsim.objs l _ ho'
 rcases hob with⟨_,e,_⟩ | ⟨b,cs,u,e1,e2,e3,e4⟩
 · simp only at e;subst e;simp at hn;exact absurd hn.symm hn0
 · have hlen:=aXS _ _ _ _ (aVk _) e4
   refine⟨.agg (cs.extract 0 (0+n)),w,by simp[execOp,h1.2 b e1,zI (t:=t) w e3 (show 0+n<=cs.size by simp only at hlen;omega)],?_⟩
   obtain⟨ow',h'⟩:=hsim.toSlot ho' hio ((aR _ _).1 hd) (v:=.agg cells) (c:=.agg (cs.extract 0 (0+n))) (B:=Bo) (dp:=dp) (by
    simp only[RelV];exact⟨_,rfl,by simp only at hlen;simp;omega,wJ hn e4⟩) (fun c hc=>.inl (o1 c hc)) (fun hx=>⟨(o2 hx).1,fun c hc=>⟨.inl ((o2 hx).2 c hc).1,((o2 hx).2 c hc).2⟩⟩) (by simp only[PV.labs];exact aI4 hnl)
   exact⟨_,_,h'⟩
theorem Res1.ref {t l s n:Nat}{cells:List PV}{dp dp0:Bool}(h:lkq S t=some ⟨.ref l s 0 n,dp0⟩)(ho:loq O l=some ⟨cells,dp,false⟩)(hio:Γ.io l=none):Res1 Γ ⟨S,O⟩ (.tmp t) (.sl n cells) (if dp then .obj l else .none):=by
 intro ow β a w hs
 obtain⟨B,h1,_,_⟩:=hs.slots t
 rw[gH h]at h1
 simp only[RelV]at h1
 obtain⟨Bo,o1,o2,hob⟩:=hs.objs l ⟨cells,dp,false⟩ (by rw[<- dA];exact ho)
 rcases hob with⟨p1,p2,p3⟩ | ⟨b,cs,u,p1,p2,p3,p4⟩
 · obtain⟨rfl,_,e⟩:=h1.2.1 p1
   simp only at p2;subst p2
   exact⟨_,[],rfl,by simp only[RelV];exact .inl ⟨trivial,trivial,trivial,_,_,e⟩,by simp,by simp⟩
 · obtain⟨cap,cs',u',q1,_,_,q4⟩:=h1.2.2 b p1
   simp only[aWI]at q1
   refine⟨_,b::Bo,rfl,by simp only[RelV];exact .inr ⟨b,0,cap,cs,u,(0,0),Bo,⟨q1,q4⟩,p3,p4,rfl⟩,fun c hc=>?_,fun hne=>?_⟩
   · rcases aUr.1 hc with rfl | hc
     · exact⟨hs.block_lt p1,.inr (.inl (hs.fresh l _ p1 hio))⟩
     · exact⟨(o1 c hc).1,(o1 c hc).2.1⟩
   · cases dp with
     | false=>simp at hne
     | true =>
      obtain⟨e1,e2⟩:=o2 rfl
      refine⟨aUL.2 ⟨fun hb=>(by have:=(e2 b hb).1;rw[p2]at this;cases this),e1⟩,fun c hc=>?_⟩
      rcases aUr.1 hc with rfl | hc
      · exact⟨⟨_,_,p3⟩,.inl (hs.fresh l _ p1 hio),.inr ⟨l,p2,rfl⟩⟩
      · obtain⟨f1,f2⟩:=e2 c hc
        refine⟨f2,?_,.inl (by rw[f1];rfl)⟩
        rcases(hs.own c (by rw[f1];simp)).2 with h | ⟨m,h,_⟩
        · exact h
        · rw[f1]at h;cases h
theorem aFV {t n by_:Nat}[ht:TI P t n true by_](w:World){b k:Nat}{cs:Array Value}{u:TypeId}{fr:Nat×Nat}(hb:w.heap[b]?=some (.cells cs u fr))(hk:k+n<=cs.size) :
 (loadVar t ⟨b,k,none⟩).run P w=.ok (.agg (cs.extract k (k+n))) w:=by
 have:=zI (P:=P) (t:=t) w hb hk
 simpa [Instr.loadAt,Instr.sureAddr]using this
theorem Res1.cell {t ty l n by_:Nat}{cells:List PV}{dp dp0:Bool}[ht:TI P ty n true by_](h:lkq S t=some ⟨.ptr l 0,dp0⟩)(ho:loq O l=some ⟨cells,dp,false⟩)(hn:Nat.beq cells.length n=true)(hn0:n≠0):Res1 Γ ⟨S,O⟩ (.cell t ty) (.agg cells) (if dp then .obj l else .none):=by
 intro ow β a w hs
 obtain⟨B,h1,_,_⟩:=hs.slots t
 rw[gH h]at h1
 simp only[RelV]at h1
 have hn:=aU0 hn
 obtain⟨Bo,o1,o2,hob⟩:=hs.objs l ⟨cells,dp,false⟩ (by rw[<- dA];exact ho)
 rcases hob with⟨_,e,_⟩ | ⟨b,cs,u,p1,p2,p3,p4⟩
 · simp only at e;subst e;simp at hn;exact absurd hn.symm hn0
 · have hlen:=aXS _ _ _ _ (aVk _) p4
   simp only at hlen
   refine⟨.agg (cs.extract 0 (0+n)),Bo,by simp[pC,h1.2 b p1,asAddr,aFV (t:=ty) w p3 (show 0+n<=cs.size by omega)],?_,fun c hc=>⟨(o1 c hc).1,(o1 c hc).2.1⟩,fun hne=>?_⟩
   · simp only[RelV]
     exact⟨_,rfl,by simp;omega,wJ hn p4⟩
   · cases dp with
     | false=>simp at hne
     | true =>
      obtain⟨e1,e2⟩:=o2 rfl
      refine⟨e1,fun c hc=>?_⟩
      obtain⟨f1,f2⟩:=e2 c hc
      refine⟨f2,?_,.inl (by rw[f1];rfl)⟩
      rcases(hs.own c (by rw[f1];simp)).2 with h | ⟨m,h,_⟩
      · exact h
      · rw[f1]at h;cases h
inductive LeL:List PV->List PV->Prop
 | nil:LeL [] []
 | same {p:PV} {ps qs:List PV}:LeL ps qs->LeL (p::ps) (p::qs)
 | nl {ps qs:List PV}:LeL ps qs->LeL (.sc (.slice none 0 0)::ps) (.sl 0 []::qs)
theorem LeL.refl:∀ ps:List PV,LeL ps ps
 | []=>.nil
 | _::r=>.same (LeL.refl r)
theorem LeL.app {a b c e:List PV}(h1:LeL a b)(h2:LeL c e):LeL (a++c) (b++e):=by
 induction h1 with
 | nil=>exact h2
 | same _ ih=>exact .same ih
 | nl _ ih=>exact .nl ih
theorem LeL.rel {h:Array Obj}{q:Bool}{β:Nat->Option (Option Nat)}{ps qs:List PV}(hl:LeL ps qs):∀ {cs:Array Value} {i:Nat} {B:List Nat},RelL h q β ps cs i B->RelL h q β qs cs i B:=by
 induction hl with
 | nil=>exact fun H=>H
 | same _ ih =>
  intro cs i B H
  simp only[RelL]at H ⊢
  obtain⟨c,B1,B2,h1,h2,h3,h4⟩:=H
  exact⟨c,B1,B2,h1,h2,ih h3,h4⟩
 | nl _ ih =>
  intro cs i B H
  simp only[RelL]at H ⊢
  obtain⟨c,B1,B2,h1,h2,h3,h4⟩:=H
  simp only[RelV]at h2
  exact⟨c,B1,B2,h1,by simp only[RelV];exact .inl ⟨trivial,trivial,h2.2,_,_,h2.1⟩,ih h3,h4⟩
theorem Ent.cells {l:Nat}{cells cells':List PV}{dp bx:Bool}(ho:loq O l=some ⟨cells,dp,bx⟩)(hl:LeL cells cells')(hn:cells=[]->cells'=[]):Ent Γ ⟨S,O⟩ ⟨S,(l,some ⟨cells',dp,bx⟩)::O⟩:=by
 rintro a w ⟨ow,β,h⟩
 have ho':lo (Env.mk S O).o l=some ⟨cells,dp,bx⟩:=by rw[<- dA];exact ho
 refine⟨ow,β,{ size:=h.size,defers:=h.defers,kept:=h.kept,slots:=h.slots,objs:=fun m ob hm=>?_,gone:=fun m hm=>?_,own:=h.own,ios:=fun m b hm hs=>?_,fresh:=h.fresh }⟩
 · simp only[aT]at hm
   by_cases hml:l=m
   · subst hml
     rw[aUs rfl]at hm;cases hm
     obtain⟨B,o1,o2,o3⟩:=h.objs l _ ho'
     refine⟨B,o1,o2,o3.imp (fun⟨e1,e2,e3⟩=>⟨e1,hn e2,e3⟩) fun⟨b,cs,t,e1,e2,e3,e4⟩=>⟨b,cs,t,e1,e2,e3,hl.rel e4⟩⟩
   · rw[aUq hml]at hm;exact h.objs m ob hm
 · simp only[aT]at hm
   by_cases hml:l=m
   · rw[aUs hml]at hm;cases hm
   · rw[aUq hml]at hm;exact h.gone m hm
 · simp only[aT]at hs
   by_cases hml:l=m
   · subst hml;exact h.ios l b hm (by rw[ho'];rfl)
   · rw[aUq hml]at hs;exact h.ios m b hm hs
end
def aXm:=@Res1.cell
def aXu:=@LeL.same
def aXv:=@LeL.nl
def aXB:=@Ent.cells
def aXH:=@LeL.nil
def aXR:=@Ent.freeze
/- The engine, part O: what was handed in, read as typed data; what a law's call leaves. -/
open Go.RowKit (Below)
open Go.ChangeShapes Go.WideShapes Go.ChangeAt
class Dec (P:Program) (t:Nat) {α:outParam Type} (enc:outParam (α->List PV)) (ok:outParam (α->Prop)):Prop where
 dec:∀ {H:Type} (e:TypeId×Value->H) (w:World) (fuel:Nat) (cs:List Value) (x:DataW H×List MemPlace),DataW.trod e P w 0 (fun _=>true) true fuel t cs=some x->∃ y:α,ok y/\cs.length=(enc y).length/\∃ B,RelL w.heap true dead (enc y) cs.toArray 0 B
def aC (k:IntKind)(n:Int):List PV:=[.sc (.int k n)]
def aAA (s:ByteArray):List PV:=[.sc (.string s)]
def aUe (b:Bool):List PV:=[.sc (.bool b)]
def aPy {α:Type}(enc:α->List PV)(l:List α):List PV:=[.sl l.length (l.flatMap enc)]
def okI (k:IntKind)(n:Int):Prop:=(Lit.int k n).wf=true
def okL {α:Type}(ok:α->Prop)(l:List α):Prop:=l.length<=maxLen/\∀ y∈l,ok y
section
variable {P:Program}
theorem aES {h:Array Obj}(v:Value)(hv:v.oneCell'=true):RelL h true dead [.sc v] [v].toArray 0 []:=by
 simp only[RelL]
 exact⟨v,[],[],⟨by simp,fun _=>hv⟩,by simp[RelV],rfl,rfl⟩
theorem Dec.int {t:Nat}{k:IntKind}(ht:P.underlying t=some (.int k)):Dec P t (aC k) (okI k):=⟨fun e w fuel cs x h=>by
 obtain⟨n,rfl,_,hw⟩:=DataW.trod_int ht h
 exact⟨n,hw,rfl,[],aES _ rfl⟩⟩
theorem Dec.bool {t:Nat}(ht:P.underlying t=some .bool):Dec P t aUe (fun _=>True):=⟨fun e w fuel cs x h=>by
 obtain⟨b,rfl,_⟩:=DataW.trod_bool ht h
 exact⟨b,trivial,rfl,[],aES _ rfl⟩⟩
theorem aH8 {α β:Type}(f:α->Option β):∀ (l:List α) (r:List β),l.mapM f=some r->r.length=l.length/\∀ (j:Nat) (x:α),l[j]?=some x->f x=r[j]?
 | [],r,h=>by
  simp at h;subst h;simp
 | x::l,r,h=>by
  rw[List.mapM_cons]at h
  cases hx:f x with
  | none=>rw[hx]at h;simp at h
  | some y =>
   rw[hx]at h
   cases hl:l.mapM f with
   | none=>rw[hl]at h;simp at h
   | some r' =>
    rw[hl]at h
    simp at h;subst h
    obtain⟨h1,h2⟩:=aH8 f l r' hl
    refine⟨by simp[h1],fun j z hz=>?_⟩
    cases j with
    | zero=>simp at hz;subst hz;simp[hx]
    | succ j=>simp at hz;simpa using h2 j z hz
theorem aG7 {w:World}{a:Addr}{n:Nat}{l:List Value}(h:w.cells? 0 a n=some l):l.length=n/\∀ j,j<n->w.cell? (a.add j)=l[j]?:=by
 unfold World.cells? at h
 rw[aUs (aVk _)]at h
 obtain⟨h1,h2⟩:=aH8 _ _ _ h
 exact⟨by simpa using h1,fun j hj=>h2 j j (by simp[hj])⟩
theorem aLO {w:World}{a:Addr}{v:Value}(h:w.cell? a=some v):a.spot=none/\∃ cs t f,w.heap[a.block]?=some (.cells cs t f)/\cs[a.off]?=some v:=by
 unfold World.cell? at h
 split at h
 · rename_i c t f hc
   cases hs:a.spot with
   | none=>rw[hs]at h;simp at h;exact⟨rfl,c,t,f,hc,h⟩
   | some s=>rw[hs]at h;simp at h
 · cases h
theorem Dec.slice {t e:Nat}{α:Type}{enc:α->List PV}{ok:α->Prop}(ht:P.underlying t=some (.slice e))[hd:Dec P e enc ok](sz:Nat)(hc:P.cellsOf e=sz)(h0:sz≠0)(hsz:∀ y,(enc y).length=sz):Dec P t (aPy enc) (okL ok):=⟨fun {H} en w fuel cs x h=>by
 rcases DataW.trod_slice ht h with⟨rfl,_⟩ | ⟨a,len,cap,elems,rest,n,_,rfl,_,_,hl,hm,hlen,hel,_,_⟩
 · exact⟨[],⟨by simp[maxLen],by simp⟩,rfl,[],by
    simp only[aPy,RelL]
    exact⟨.slice none 0 0,[],[],⟨by simp,fun _=>rfl⟩,by simp only[RelV];exact .inl ⟨by simp,by simp,by simp,_,_,rfl⟩,rfl,rfl⟩⟩
 · rcases Nat.eq_zero_or_pos len with rfl | hpos
   · exact⟨[],⟨by simp[maxLen],by simp⟩,rfl,[],by
      simp only[aPy,RelL]
      exact⟨.slice (some a) 0 cap,[],[],⟨by simp,fun _=>rfl⟩,by simp only[RelV];exact .inl ⟨by simp,by simp,by simp,_,_,rfl⟩,rfl,rfl⟩⟩
   · rw[hc]at hel
     have each:∀ i,i<len->∃ y:α,ok y/\∃ sub:List Value,w.cells? 0 (a.add (i*sz)) sz=some sub/\sub.length=(enc y).length/\∃ B,RelL w.heap true dead (enc y) sub.toArray 0 B:=by
      intro i hi
      have h1:=hel i hi
      rw[aUG (by omega)]at h1
      obtain⟨sub,h2,h3⟩:=Option.bind_eq_some_iff.1 h1
      obtain⟨y,g1,g2,g3⟩:=hd.dec en w n sub _ h3
      exact⟨y,g1,sub,h2,g2,g3⟩
     obtain⟨y0,_,sub0,q1,q2,_⟩:=each 0 hpos
     obtain⟨q3,q4⟩:=aG7 q1
     have q5:=q4 0 (by omega)
     rw[aUG (by omega)]at q5
     obtain⟨hsp,row,ut,fr,hrow,_⟩:=aLO q5
     have ha:a.spot=none/\((a.add (0*sz)).add 0).block=a.block:=by
      cases hs:a.spot with
      | none=>refine⟨rfl,?_⟩;unfold Addr.add;simp[hs]
      | some s =>
       exfalso
       have:((a.add (0*sz)).add 0).spot.isSome=true:=by
        unfold Addr.add;simp[hs]
       rw[hsp]at this;cases this
     obtain⟨bl,off,sp⟩:=a
     obtain⟨ha1,hbl⟩:=ha
     simp only at ha1;subst ha1
     rw[hbl]at hrow
     have cellAt:∀ k,w.cell? ⟨bl,k,none⟩=row[k]?:=fun k=>cell_of_row w bl k row ut fr hrow
     have build:∀ m,m<=len->∃ l:List α,l.length=m/\(∀ y∈l,ok y)/\∃ B,RelL w.heap true dead (l.flatMap enc) row off B:=by
      intro m
      induction m with
      | zero=>intro _;exact⟨[],rfl,by simp,[],by simp[RelL]⟩
      | succ m ih =>
       intro hm'
       obtain⟨l,l1,l2,B,l3⟩:=ih (by omega)
       obtain⟨y,y1,sub,y2,y3,B2,y4⟩:=each m (by omega)
       obtain⟨s1,s2⟩:=aG7 y2
       refine⟨l++[y],by simp[l1],?_,B++B2,?_⟩
       · intro z hz
         rcases aUz.1 hz with hz | hz
         · exact l2 z hz
         · simp at hz;subst hz;exact y1
       · rw[aWu]
         refine(aXE _ _ _ _ _).2 ⟨B,B2,l3,?_,rfl⟩
         rw[cR hsz,l1]
         simp only[aVc,aWm,aVx]
         refine aXG _ _ _ _ _ _ (fun j hj=>?_) y4
         have:=s2 j (by omega)
         rw[Addr.add_lit,Addr.add_lit,cellAt]at this
         rw[aUR,this];simp
     obtain⟨l,l1,l2,B,l3⟩:=build len (aUI _)
     refine⟨l,⟨by omega,l2⟩,rfl,bl::B,?_⟩
     simp only[aPy,RelL]
     refine⟨.slice (some ⟨bl,off,none⟩) len cap,bl::B,[],⟨by simp,fun _=>rfl⟩,?_,rfl,by simp⟩
     simp only[RelV]
     exact .inr ⟨bl,off,cap,row,ut,fr,B,⟨by rw[l1],by rw[l1];exact hl⟩,hrow,l3,rfl⟩⟩
structure DecF (P:Program)(fs:List Field)(off:Nat){α:Type}(enc:α->List PV)(ok:α->Prop):Prop where
 dec:∀ {H:Type} (e:TypeId×Value->H) (w:World) (fuel:Nat) (cs:List Value) (xs:List (DataW H×List MemPlace)),fs.mapM (fun f=>DataW.trod e P w 0 (fun _=>true) true fuel f.type ((cs.drop f.offset).take (P.cellsOf f.type)))=some xs->∃ y:α,ok y/\∃ B,RelL w.heap true dead (enc y) cs.toArray off B
theorem DecF.nil {off:Nat}:DecF P [] off (fun _:Unit=>[]) (fun _=>True):=⟨fun _ _ _ _ _ _=>⟨(),trivial,[],by simp[RelL]⟩⟩
theorem DecF.cons {f:Field}{fs:List Field}{off n:Nat}{α β:Type}{e1:α->List PV}{ok1:α->Prop}{e2:β->List PV}{ok2:β->Prop}(hf:f.offset=off)[hd:Dec P f.type e1 ok1](hc:P.cellsOf f.type=n)(hn:∀ y,(e1 y).length=n)(h2:DecF P fs (off+n) e2 ok2) :
 DecF P (f::fs) off (fun y:α×β=>e1 y.1++e2 y.2) (fun y=>ok1 y.1/\ok2 y.2):=⟨fun {H} e w fuel cs xs h=>by
 rw[List.mapM_cons]at h
 cases hx:DataW.trod e P w 0 (fun _=>true) true fuel f.type ((cs.drop f.offset).take (P.cellsOf f.type))with
 | none=>rw[hx]at h;simp at h
 | some x =>
  rw[hx]at h
  cases hl:fs.mapM (fun f=>DataW.trod e P w 0 (fun _=>true) true fuel f.type ((cs.drop f.offset).take (P.cellsOf f.type)))with
  | none=>rw[hl]at h;simp at h
  | some r =>
   obtain⟨y1,o1,l1,B1,r1⟩:=hd.dec e w fuel _ _ hx
   obtain⟨y2,o2,B2,r2⟩:=h2.dec e w fuel cs r hl
   refine⟨(y1,y2),⟨o1,o2⟩,B1++B2,(aXE _ _ _ _ _).2 ⟨B1,B2,aXG _ _ _ _ _ _ (fun j hj=>?_) r1,by rw[hn];exact r2,rfl⟩⟩
   rw[aUR,aVS,aVS,aWc,aUs (by rw[hn]at hj;rw[hc];exact hj),aWd,hf]⟩
theorem Dec.struct {t:Nat}{fs:Array Field}{α β:Type}{enc:α->List PV}{ok:α->Prop}{enc':β->List PV}{ok':β->Prop}(ht:P.underlying t=some (.struct fs)){n:Nat}(hc:P.cellsOf t=n)(h:DecF P fs.toList 0 enc ok)(g:α->β)(hg:∀ y,enc' (g y)=enc y)(ho:∀ y,ok y->ok' (g y))(hn:∀ y,(enc' y).length=n):Dec P t enc' ok':=⟨fun {H} e w fuel cs x hx=>by
 cases fuel with
 | zero=>simp[DataW.trod]at hx
 | succ fuel =>
  have h1:(if cs.length=P.cellsOf t then(fs.toList.mapM fun f=>DataW.trod e P w 0 (fun _=>true) true fuel f.type ((cs.drop f.offset).take (P.cellsOf f.type))).map fun xs=>((DataW.agg (xs.map (·.1)):DataW H),xs.flatMap (·.2))else none)=some x:=by
   rw[<- hx]
   simp only[DataW.trod,ht]
  by_cases hl:cs.length=P.cellsOf t
  · rw[aUs hl]at h1
    cases hm:(fs.toList.mapM fun f=>DataW.trod e P w 0 (fun _=>true) true fuel f.type ((cs.drop f.offset).take (P.cellsOf f.type)))with
    | none=>rw[hm]at h1;simp at h1
    | some xs =>
     obtain⟨y,o,B,r⟩:=h.dec e w fuel cs xs hm
     exact⟨g y,ho y o,by rw[hn,hl,hc],B,by rw[hg];exact r⟩
  · rw[aUq hl]at h1;cases h1⟩
theorem aPE {H:Type}{t:Nat}{α:Type}{enc:α->List PV}{ok:α->Prop}[hd:Dec P t enc ok]{e:TypeId×Value->H}{w:World}{b0:Nat}{v:Value}{d:DataW H}{ps:List MemPlace}{r:Reach}{dd:TypeDesc}(hu:P.underlying t=some dd)(hnag:(match dd with | .struct _ | .array _ _=>true | _=>false)=false)(hv:Value.okWide P w r b0 t v)(h:DataW.Trod e P w 0 (fun _=>true) true t v d ps)(h1:∀ y,(enc y).length=1) :
 ∃ y:α,ok y/\∀ p,enc y=[p]->∃ B,RelV w.heap dead p v B:=by
 obtain⟨fuel,hf⟩:=h
 have hc:v.cells.toList=[v]:=by
  have hw:Cell.okWide P w r b0 t v:=by
   unfold Value.okWide at hv
   rw[hu]at hv
   cases dd <;> simp_all
  cases v <;> first | rfl | (exfalso;unfold Cell.okWide at hw;rw[hu]at hw;cases dd <;> simp_all [Cell.ok])
 rw[hc]at hf
 obtain⟨y,o,_,B,rl⟩:=hd.dec e w fuel _ _ hf
 refine⟨y,o,fun p hp=>?_⟩
 rw[hp]at rl
 simp only[RelL]at rl
 obtain⟨c,B1,B2,g1,g2,_⟩:=rl
 simp at g1
 rw[<- g1.1]at g2
 exact⟨B1,g2⟩
theorem aCH {H:Type}{enc:TypeId×Value->H}(hl:laidOutB P=true){W W':World}(hb:Below W.heap.size W W'):∀ {ts:List TypeId} {vs:List Value} {ds:List (DataW H)} {ps:List MemPlace},ts.all (fun t=>P.readableRec t&&decide (t<P.types.size))=true->(∀ x∈ps,x.block<W.heap.size)->
 DataW.TrodAll enc P W 0 (fun _=>true) true ts vs ds ps->DataW.TrodAll enc P W' 0 (fun b=>decide (b<W.heap.size)) true ts vs ds ps
 | [],vs,ds,ps,_,_,h=>by
  obtain⟨rfl,rfl,rfl⟩:=trodAll_nil h;exact trodAll_mk0
 | t::ts,vs,ds,ps,ht,hlt,h=>by
  obtain⟨v,vs1,d,ds1,p,q,rfl,rfl,rfl,h1,h2⟩:=trodAll_cons h
  simp only[List.all_cons,aUP,aVb]at ht
  exact⟨p,q,Below.trod hl ht.1.1 ht.1.2 h1 hb (fun x hx=>hlt x (by simp[hx])),aCH hl hb ht.2 (fun x hx=>hlt x (by simp[hx])) h2,rfl⟩
theorem aLh {H:Type}{enc:TypeId×Value->H}{f:Func}{s:ChangeSpec}{W W':World}{args:Array Value}{ds gs:List (DataW H)}{before:List MemPlace}{T:TypeId}
 (hW:DataW.Whole enc P f.params.toList s.vars false W args.toList ds gs before) (hb:Below W.heap.size W W') (hl:laidOutB P=true) (hread:f.params.toList.all (fun t=>P.readableRec t&&decide (t<P.types.size))=true)
 (hres:f.resultTypes=#[T]) (hT:P.underlying T=some .bool) (hv:s.vars=[]) (hs:(s.fn H (ds++[])).results=[.lit (.bool true)]/\(s.fn H (ds++[])).args=ds/\(s.fn H (ds++[])).vars=[]) :
 s.post enc P f false true false false W args (.bool true) W':=by
 have hW0:=hW
 have hlt:=hW.lt
 obtain⟨p,q,h1,h2,rfl,_,_⟩:=hW
 rw[hv]at h2
 obtain⟨rfl,rfl⟩:=trodVars_none h2
 refine⟨ds,[],p++[],[],p,[],hW0,?_,?_,?_,hb.frame _,fun h=>by cases h⟩
 · rw[hs.1,hres]
   exact trodAll_mk1 ⟨1,by simp[DataW.trod,Value.cells,hT]⟩
 · rw[hs.2.1]
   exact aCH hl hb hread (fun x hx=>hlt x (by simp[hx])) h1
 · rw[hs.2.2,hv];rfl
end
/- The engine, part P: ends of walks, in short. -/
open Go.RowKit (Below)
section
variable {P:Program}{N:Nat}{Γ:Ctx P N}{S:List (Nat×Slot)}{O:List (Nat×Option Ob)}
theorem RetIs.c1 {t ty l n by_:Nat}{cells:List PV}{dp dp0 deep:Bool}[ht:TI P ty n true by_](h:lkq S t=some ⟨.ptr l 0,dp0⟩)(ho:loq O l=some ⟨cells,dp,false⟩)(hd:dp=true)(hn:Nat.beq cells.length n=true)(hn0:n≠0):RetIs Γ #[.cell t ty] ⟨S,O⟩ (.agg cells) deep:=by
 subst hd
 exact aXQ (aXm h ho hn hn0) (fun _=>by simp)
theorem RetIs.c0 {t ty l n by_:Nat}{cells:List PV}{dp dp0:Bool}[ht:TI P ty n true by_](h:lkq S t=some ⟨.ptr l 0,dp0⟩)(ho:loq O l=some ⟨cells,dp,false⟩)(hn:Nat.beq cells.length n=true)(hn0:n≠0):RetIs Γ #[.cell t ty] ⟨S,O⟩ (.agg cells) false :=
 aXQ (aXm h ho hn hn0) (fun h=>by cases h)
theorem RetIs.r1 {t l s n:Nat}{cells:List PV}{dp dp0 deep:Bool}(h:lkq S t=some ⟨.ref l s 0 n,dp0⟩)(ho:loq O l=some ⟨cells,dp,false⟩)(hd:dp=true)(hio:Γ.io l=none):RetIs Γ #[.tmp t] ⟨S,O⟩ (.sl n cells) deep:=by
 subst hd
 exact aXQ (Res1.ref h ho hio) (fun _=>by simp)
end
theorem aNJ {α:Type}{enc:α->List PV}{l:List α}{y:α}:l.flatMap enc++enc y=(l++[y]).flatMap enc/\l.length+1=(l++[y]).length:=by simp
theorem aPo {α:Type}{enc:α->List PV}{l r:List α}:l.flatMap enc++r.flatMap enc=(l++r).flatMap enc/\l.length+r.length=(l++r).length:=by simp
def aXI:=@RetIs.c1
/- The engine, part R: bytes and strings. -/
open Go.RowKit (Below)
section
variable {P:Program}{N:Nat}{Γ:Ctx P N}{S:List (Nat×Slot)}{O:List (Nat×Option Ob)}
variable {d:Nat}{ty:TypeId}{pos:String}{af:Array Edge}{g:Option (Nat×Bool)}
def u8s (bs:List UInt8):List PV:=bs.map fun b=>.sc (.int .u8 b.toNat)
theorem aMn {h:Array Obj}{q:Bool}{β:Nat->Option (Option Nat)}:∀ {bs:List UInt8} {cs:Array Value} {i:Nat} {B:List Nat},RelL h q β (u8s bs) cs i B->∀ j (hj:j<bs.length),cs[i+j]?=some (.int .u8 (bs[j].toNat:Int))
 | [],_,_,_,_,j,hj=>by simp at hj
 | b::bs,cs,i,B,H,j,hj=>by
  simp only[u8s,aUH,RelL]at H
  obtain⟨c,B1,B2,h1,h2,h3,_⟩:=H
  simp only[RelV]at h2
  cases j with
  | zero=>rw[h2.1]at h1;simpa using h1.1
  | succ j =>
   have:=aMn (bs:=bs) (cs:=cs) (i:=i+1) (B:=B2) (by simpa only[u8s]using h3) j (by simpa using hj)
   rw[show i+(j+1)=i+1+j by omega];simpa using this
theorem aRg {x:Operand}{src dst e n:Nat}{cells:List PV}(bs:List UInt8)[hs:SlT P src e][he:UT P e (.int .u8)][ht:UT P dst .string](hx:evq S x=some (.sl n cells))(hc:cells=u8s bs/\n=bs.length)(hd:Nat.blt d N=true) :
 Local Γ ⟨some d,.convert src dst x,ty,pos,af,g⟩ ⟨S,O⟩ ⟨[(d,⟨.sc (.string ⟨bs.toArray⟩),false⟩)],[]⟩ (ors x) [] [] :=
 aJt rfl hd fun F a w hsim hl=>by
  obtain⟨ow,β,hsim⟩:=hsim
  obtain⟨B,h1,_⟩:=cK hsim hx hl
  obtain⟨rfl,rfl⟩:=hc
  simp only[RelV]at h1
  have key:(convert src dst (a.eval x)).run P w=.ok (.string ⟨bs.toArray⟩) w:=by
   rcases h1 with⟨h0,_,_,ad,cap,e1⟩ | ⟨b,off,cap,cs,u,f,B',⟨e1,_⟩,e2,e3,_⟩
   · have hb0:bs=[]:=aUD.1 h0
     subst hb0
     rw[e1]
     cases ad with
     | none=>exact run_convert_bytes_nil w src e hs.ok he.ok 0 cap dst ht.ok
     | some ad=>exact run_convert_bytes_back w src dst e ad cap [] hs.ok he.ok ht.ok (by simp)
   · rw[e1]
     refine run_convert_bytes_back w src dst e ⟨b,off,none⟩ cap bs hs.ok he.ok ht.ok (fun j hj=>?_)
     rw[Addr.add_lit,cell_of_row w b (off+j) cs u f e2]
     exact aMn e3 j hj
  simp[execOp,key]
end
/- The engine, part S: what a lifted function is made of; loops and cuts that go by it. -/
open Go.RowKit (Below)
def idx {α:Type}(l:List α)(j:Int):Option α:=if 0<=j then l[j.toNat]? else none
def sub {α:Type}(l:List α)(a b:Int):Option (List α):=if 0<=a/\a<=b/\b<=l.length then some ((l.drop a.toNat).take (b-a).toNat)else none
def nA {α:Type}(l:List α)(j:Int)(y:α):List α:=l.set j.toNat y
def chk (p:Prop)[Decidable p]:Option Unit:=if p then some ()else none
def aCI (s:ByteArray)(j:Int):Option Int:=if 0<=j/\j<s.size then some ((s.data.toList.getD j.toNat 0).toNat:Int)else none
section lift
variable {α β:Type}
theorem aB {o:Option α}{K:α->Option β}{r:β}(H:o.bind K=some r):∃ x,o=some x/\K x=some r:=by
 cases o with
 | none=>cases H
 | some x=>exact⟨x,rfl,H⟩
theorem ifT {c:Prop}{_:Decidable c}{a b:Option α}{r:α}(h:c)(H:(if c then a else b)=some r):a=some r:=by rw[aUs h]at H;exact H
theorem ifF {c:Prop}{_:Decidable c}{a b:Option α}{r:α}(h:¬c)(H:(if c then a else b)=some r):b=some r:=by rw[aUq h]at H;exact H
theorem aNF {c:Bool}{a b:Option α}{r:α}(h:c=true)(H:(if c=true then a else b)=some r):a=some r:=by rw[aUs h]at H;exact H
theorem aNG {c:Bool}{a b:Option α}{r:α}(h:c=false)(H:(if c=true then a else b)=some r):b=some r:=by rw[h]at H;exact H
theorem aGS {l:List α}{j:Int}{y:α}(h:idx l j=some y):0<=j/\l[j.toNat]?=some y/\j.toNat<l.length:=by
 unfold idx at h
 by_cases hj:0<=j
 · rw[aUs hj]at h;exact⟨hj,h,(aVf.1 h).1⟩
 · rw[aUq hj]at h;cases h
theorem bR {p:Prop}{_:Decidable p}{u:Unit}(h:chk p=some u):p:=by
 unfold chk at h
 by_cases hp:p
 · exact hp
 · rw[aUq hp]at h;cases h
section loops
variable {σ ρ:Type}
inductive Reach (step:σ->Option (σ ⊕ ρ)):σ->ρ->Nat->Prop
 | done {s:σ} {r:ρ}:step s=some (.inr r)->Reach step s r 0
 | more {s s':σ} {r:ρ} {n:Nat}:step s=some (.inl s')->Reach step s' r n->Reach step s r (n+1)
theorem Reach.det {step:σ->Option (σ ⊕ ρ)}{s:σ}{r r':ρ}{n n':Nat}(h:Reach step s r n)(h':Reach step s r' n'):r=r':=by
 induction h generalizing n' with
 | done e=>cases h' with
  | done e'=>rw[e]at e';cases e';rfl
  | more e' _=>rw[e]at e';cases e'
 | more e _ ih=>cases h' with
  | done e'=>rw[e]at e';cases e'
  | more e' g=>rw[e]at e';cases e';exact ih g
open Classical in
noncomputable def lp (step:σ->Option (σ ⊕ ρ))(s:σ):Option ρ:=if h:∃ r n,Reach step s r n then some h.choose else none
theorem aCm {step:σ->Option (σ ⊕ ρ)}{s:σ}{r:ρ}:lp step s=some r↔∃ n,Reach step s r n:=by
 unfold lp
 constructor
 · intro h
   split at h
   · rename_i hx;cases h;exact hx.choose_spec
   · cases h
 · rintro⟨n,h⟩
   rw[aWD ⟨r,n,h⟩]
   have hx:∃ r n,Reach step s r n:=⟨r,n,h⟩
   obtain⟨m,hm⟩:=hx.choose_spec
   exact congrArg some (hm.det h)
theorem aG {step:σ->Option (σ ⊕ ρ)}{s:σ}{r:ρ}(h:step s=some (.inr r)):lp step s=some r:=aCm.2 ⟨0,.done h⟩
theorem aO {step:σ->Option (σ ⊕ ρ)}{s s':σ}(h:step s=some (.inl s')):lp step s=lp step s':=by
 apply Option.ext
 intro r
 rw[aCm,aCm]
 constructor
 · rintro⟨n,hn⟩
   cases hn with
   | done e=>rw[h]at e;cases e
   | more e g=>rw[h]at e;cases e;exact⟨_,g⟩
 · rintro⟨n,hn⟩;exact⟨n+1,.more h hn⟩
theorem aSc {step:σ->Option (σ ⊕ ρ)}(I:σ->Prop)(m:σ->Nat)(Q:ρ->Prop)(h:∀ s,I s->(∃ r,step s=some (.inr r)/\Q r)\/∃ s',step s=some (.inl s')/\I s'/\m s' < m s)(s:σ)(hs:I s):∃ r,lp step s=some r/\Q r:=by
 generalize hn:m s=n
 induction n using Nat.strongRecOn generalizing s with
 | _ n ih =>
  rcases h s hs with⟨r,h1,h2⟩ | ⟨s',h1,h2,h3⟩
  · exact⟨r,aG h1,h2⟩
  · rw[aO h1];exact ih _ (by omega) s' h2 rfl
end loops
end lift
section
variable {P:Program}{N:Nat}{Γ:Ctx P N}{E:Env}{Q:Exit->Env->Prop}
def zB {σ ρ:Type}(Γ:Ctx P N)(Es:σ->Env)(Xe:ρ->Exit->Env->Prop)(o:σ ⊕ ρ):Exit->Env->Prop
 | .normal,E=>∃ s',o=.inl s'/\Ent Γ E (Es s')
 | e,E=>∃ x,o=.inr x/\Xe x e E
theorem CodeT.lloop {σ ρ:Type}{step:σ->Option (σ ⊕ ρ)}{s0:σ}{x:ρ}{c:Code}(Es:σ->Env)(Xe:ρ->Exit->Env->Prop)(hx:lp step s0=some x)(he:Ent Γ E (Es s0))
 (hr:∀ s o,step s=some o->CodeT Γ c (Es s) (zB Γ Es Xe o)) (hq:∀ e E',Xe x e E'->Q e E'):CodeT Γ (.loop c) E Q:=by
 obtain⟨n,hn⟩:=aCm.1 hx
 refine CodeT.loop (fun m E=>∃ s,E=Es s/\Reach step s x m) n (Es s0) he ⟨s0,rfl,hn⟩ ?_
 rintro m E' ⟨s,rfl,hs⟩
 cases hs with
 | done e =>
  refine(hr s _ e).mono fun ex E' h=>?_
  cases ex with
  | normal=>obtain⟨s',h1,_⟩:=h;cases h1
  | exit i=>obtain⟨y,h1,h2⟩:=h;cases h1;exact hq _ _ h2
  | goto i=>obtain⟨y,h1,h2⟩:=h;cases h1;exact hq _ _ h2
  | ret=>obtain⟨y,h1,h2⟩:=h;cases h1;exact hq _ _ h2
  | panic i=>obtain⟨y,h1,h2⟩:=h;cases h1;exact hq _ _ h2
  | outgrown=>obtain⟨y,h1,h2⟩:=h;cases h1;exact hq _ _ h2
 | @more _ s' _ k e g =>
  refine(hr s _ e).mono fun ex E' h=>?_
  cases ex with
  | normal =>
   obtain⟨s2,h1,h2⟩:=h;cases h1
   exact⟨k,Es s',by omega,h2,s',rfl,g⟩
  | exit i=>obtain⟨y,h1,h2⟩:=h;cases h1
  | goto i=>obtain⟨y,h1,h2⟩:=h;cases h1
  | ret=>obtain⟨y,h1,h2⟩:=h;cases h1
  | panic i=>obtain⟨y,h1,h2⟩:=h;cases h1
  | outgrown=>obtain⟨y,h1,h2⟩:=h;cases h1
def aL6 {ρ:Type}(Xe:ρ->Exit->Env->Prop)(x:ρ):Exit->Env->Prop:=fun e E=>Xe x e E
theorem CodeT.lcut {ρ:Type}{x:ρ}{c:Code}(Xe:ρ->Exit->Env->Prop)(hc:CodeT Γ c E (aL6 Xe x))(hq:∀ e E',Xe x e E'->Q e E'):CodeT Γ c E Q:=hc.mono hq
section
variable {σ ρ:Type}{Es:σ->Env}{Xe:ρ->Exit->Env->Prop}{s':σ}{x:ρ}{i:Nat}
theorem y1 (h:Ent Γ E (Es s')):zB Γ Es Xe (.inl s') .normal E:=⟨s',rfl,h⟩
theorem y2 (h:Xe x .ret E):zB Γ Es Xe (.inr x) .ret E:=⟨x,rfl,h⟩
theorem y3 (h:Xe x (.exit i) E):zB Γ Es Xe (.inr x) (.exit i) E:=⟨x,rfl,h⟩
theorem y4 {e:Exit}(h:Xe x e E):aL6 Xe x e E:=h
end
def XEnv (Γ:Ctx P N)(e0:Exit)(E0:Env)(e:Exit)(E:Env):Prop:=e=e0/\Ent Γ E E0
def XRet (Γ:Ctx P N)(rs:Array ResultVar)(r:PV)(deep:Bool)(e:Exit)(E:Env):Prop:=e=.ret/\RetIs Γ rs E r deep
theorem XEnv.out {e0 e:Exit}{E0 E:Env}(h:XEnv Γ e0 E0 e E):e=e0/\Ent Γ E E0:=h
theorem XRet.out {rs:Array ResultVar}{r:PV}{deep:Bool}{e:Exit}{E:Env}(h:XRet Γ rs r deep e E):e=.ret/\RetIs Γ rs E r deep:=h
theorem XEnv.mk {e:Exit}{E0:Env}(h:Ent Γ E E0):XEnv Γ e E0 e E:=⟨rfl,h⟩
theorem XRet.mk {rs:Array ResultVar}{r:PV}{deep:Bool}(h:RetIs Γ rs E r deep):XRet Γ rs r deep .ret E:=⟨rfl,h⟩
end
def aXJ:=@XEnv.out
/- The engine, part T: more operations: parts of slices and strings, components, literals of several elements; elements by a lifted index. -/
open Go.RowKit (Below)
section
variable {P:Program}{N:Nat}{Γ:Ctx P N}{S:List (Nat×Slot)}{O:List (Nat×Option Ob)}
variable {d:Nat}{ty:TypeId}{pos:String}{af:Array Edge}{g:Option (Nat×Bool)}
def aI0:Option Operand->List Nat
 | some x=>ors x
 | none=>[]
def wA (S:List (Nat×Slot))(dflt:Int):Option Operand->Option Int
 | none=>some dflt
 | some x=>match evq S x with
  | some (.sc (.int _ j))=>some j
  | _=>none
theorem aKE {F:Env}{a:Act}{w:World}(h:Sim Γ F a w){df j:Int}{x:Option Operand}(hb:wA S df x=some j)(ha:∀ k∈aI0 x,lk F.s k=lk S k) :
 (x=none/\j=df)\/∃ y k,x=some y/\a.eval y=.int k j:=by
 cases x with
 | none=>simp only[wA]at hb;cases hb;exact .inl ⟨rfl,rfl⟩
 | some y =>
  simp only[wA]at hb
  split at hb
  · rename_i k j' hv;cases hb
    exact .inr ⟨y,k,rfl,tB h hv ha⟩
  · cases hb
theorem tV (w:World)(k:IntKind)(i:Int)(y:Nat)(code:BoundsCode)(h:0<=i/\i<=y):(Instr.sliceBound (.int k i) y code).run P w=.ok i.toNat w:=by
 simp[Instr.sliceBound,asIntOf,h.1,h.2]
theorem aFW {F:Env}{a:Act}{w:World}(h:Sim Γ F a w)(isS:Bool)(len cap:Nat)(hc:len<=cap){lo hi:Option Operand}{i j:Int}(hlo:wA S 0 lo=some i)(hhi:wA S len hi=some j)(h1:∀ k∈aI0 lo,lk F.s k=lk S k)(h2:∀ k∈aI0 hi,lk F.s k=lk S k)
 (hb:0<=i/\i<=j/\j<=len):(Instr.sliceBounds isS len cap (lo.map a.eval) (hi.map a.eval) none).run P w=.ok (i.toNat,j.toNat,cap) w:=by
 rcases aKE h hlo h1 with⟨rfl,rfl⟩ | ⟨y,k,rfl,e1⟩ <;> rcases aKE h hhi h2 with⟨rfl,rfl⟩ | ⟨z,k',rfl,e2⟩
 · simp[Instr.sliceBounds]
 · simp[Instr.sliceBounds,e2]
   rw[tV w _ _ _ _ ⟨by omega,by omega⟩];simp
 · simp[Instr.sliceBounds,e1]
   rw[tV w _ _ _ _ ⟨by omega,by omega⟩];simp
 · simp[Instr.sliceBounds,e1,e2]
   rw[tV w _ _ _ _ ⟨by omega,by omega⟩]
   simp only[Result.andThen_ok]
   rw[tV w _ _ _ _ ⟨by omega,by omega⟩]
   simp
theorem aTb {α:Type}{l r:List α}{i j:Int}(h:sub l i j=some r):(0<=i/\i<=j/\j<=l.length)/\r=(l.drop i.toNat).take (j-i).toNat:=by
 unfold sub at h
 by_cases hc:0<=i/\i<=j/\j<=l.length
 · rw[aUs hc]at h;cases h;exact⟨hc,rfl⟩
 · rw[aUq hc]at h;cases h
theorem aFU {e n by_:Nat}{agg:Bool}[hi:TI P e n agg by_](w:World):(sizeOf e).run P w=.ok n w:=by
 obtain⟨⟨i,h1,h2,_⟩,_⟩:=hi.ok
 simp[sizeOf,typeInfo,h1,h2]
theorem aTP {α:Type}{x:Operand}{lo hi:Option Operand}{t e n by_:Nat}{agg:Bool}{l r:List α}{enc:α->List PV}{i j:Int}{len:Nat}[ht:SlT P t e][hi':TI P e n agg by_](hx:evq S x=some (.sl len (l.flatMap enc)))(hlen:len=l.length)
 (hlo:wA S 0 lo=some i) (hhi:wA S len hi=some j) (h:sub l i j=some r) (hsz:∀ y,(enc y).length=n) (hd:Nat.blt d N=true) :
 Local Γ ⟨some d,.slice t x lo hi none,ty,pos,af,g⟩ ⟨S,O⟩ ⟨[(d,⟨.sl r.length (r.flatMap enc),false⟩)],[]⟩ (ors x++(aI0 lo++aI0 hi)) [] []:=by
 intro F hs _ _
 refine bE fun a w hsim=>?_
 obtain⟨hb,hr⟩:=aTb h
 subst hlen
 have hbd:=fun isS cap hc=>aFW hsim isS l.length cap hc hlo hhi (fun k hk=>hs k (by simp[hk])) (fun k hk=>hs k (by simp[hk])) hb
 obtain⟨ow,β,hsim⟩:=hsim
 obtain⟨B,h1,h2⟩:=cK hsim hx (fun k hk=>hs k (by simp[hk]))
 simp only[RelV]at h1
 have hrl:r.length=(j-i).toNat:=by rw[hr];simp;omega
 have run:∀ (ad:Option Addr) (cap:Nat),a.eval x=.slice ad l.length cap->l.length<=cap->(Instr.sliceAt t (a.eval x) (lo.map a.eval) (hi.map a.eval) none).run P w=.ok (.slice (if cap=i.toNat then ad else ad.map (·.add (i.toNat*n))) (j.toNat-i.toNat) (cap-i.toNat)) w:=by
  intro ad cap e1 hc
  rw[e1]
  simp[Instr.sliceAt,Instr.slice,run_underlying ht.ok,hbd true cap hc,aFU (e:=e) (n:=n)]
 rcases h1 with⟨e0,_,_,ad,cap,e1⟩ | ⟨b,off,cap,cs,u,f,B',⟨e1,hc⟩,e2,e3,rfl⟩
 · rw[<- e0]at e1
   refine⟨_,w,by simp[execOp,run ad cap e1 (by omega)];rfl,ow,β,hsim.put ((aR _ _).1 hd) (O:=[]) ?_ (by simp)⟩
   have hr0:r=[]:=by rw[hr,aUD.1 e0];simp
   subst hr0
   simp only[RelV]
   exact .inl ⟨rfl,rfl,trivial,_,_,by rw[show j.toNat-i.toNat=0 by omega]⟩
 · refine⟨_,w,by simp[execOp,run _ cap e1 hc];rfl,ow,β,?_⟩
   by_cases h0:i=j
   · refine hsim.put ((aR _ _).1 hd) (O:=[]) ?_ (by simp)
     have hr0:r=[]:=by rw[hr,h0];simp
     subst hr0
     simp only[RelV]
     exact .inl ⟨rfl,rfl,trivial,_,_,by rw[show j.toNat-i.toNat=0 by omega]⟩
   · have hne:cap≠i.toNat:=by omega
     rw[aUq hne]
     obtain⟨B2,g1,B1,g2⟩:=e3.drop (i.toNat*n) (by rw[cR hsz];exact aVC _ (by omega))
     obtain⟨B3,g3,B4,g4⟩:=g1.take (r.length*n)
     have hcells:((l.flatMap enc).drop (i.toNat*n)).take (r.length*n)=r.flatMap enc:=by
      have e1:l=l.take i.toNat++r++l.drop (i.toNat+r.length):=by
       rw[hr]
       rw[show i.toNat+((l.drop i.toNat).take (j-i).toNat).length=i.toNat+(j-i).toNat by simp;omega]
       rw[aUO,<- List.drop_drop,aVs,aVs]
      have e2:(l.take i.toNat).length=i.toNat:=by simp;omega
      conv=>lhs;rw[e1]
      rw[aWu,aWu,aUO,List.drop_append,aUW (by rw[cR hsz,e2];exact aUI _),cR hsz,e2,aW1,aUx,aVn,List.take_append,aVt (by rw[cR hsz];exact aUI _),cR hsz,aW1,aWr,aVx]
     rw[hcells]at g3
     refine hsim.put ((aR _ _).1 hd) (O:=b::B3) ?_ (fun c hc=>h2 c ?_)
     · simp only[RelV]
       exact .inr ⟨b,off+i.toNat*n,cap-i.toNat,cs,u,f,B3,⟨by rw[hrl,show j.toNat-i.toNat=(j-i).toNat by omega];simp[Addr.add_lit],by rw[hrl];omega⟩,e2,g3,rfl⟩
     · rcases aUr.1 hc with rfl | hc
       · simp
       · rw[g2,g4];simp[hc]
theorem aST {α:Type}{x i:Operand}{t e n by_:Nat}{agg:Bool}{l:List α}{enc:α->List PV}{y:α}{k:IntKind}{j:Int}{len:Nat}[ht:SlT P t e][hi:TI P e n agg by_](hx:evq S x=some (.sl len (l.flatMap enc)))(hix:evq S i=some (.sc (.int k j)))(hlen:len=l.length)
 (hl:idx l j=some y) (hsz:∀ y,(enc y).length=n) (hd:Nat.blt d N=true) :
 Local Γ ⟨some d,.indexAddr t x i,ty,pos,af,g⟩ ⟨S,O⟩ ⟨[(d,⟨.iptr (enc y),false⟩)],[]⟩ (ors x++ors i) [] [] :=
 aTW (m:=j.toNat) hx hix (by have:=(aGS hl).1;omega) hlen (aGS hl).2.1 hsz hd
theorem aSU {α:Type}{x i:Operand}{t e sz n by_ r:Nat}{agg:Bool}{l:List α}{y:α}{k:IntKind}{j:Int}{ob:Ob}[ht:SlT P t e][hi:TI P e sz agg by_](hx:evq S x=some (.ref r sz 0 n))(ho:loq O r=some ob)(hix:evq S i=some (.sc (.int k j)))(hl:idx l j=some y)(hn:n=l.length)(hd:Nat.blt d N=true) :
 Local Γ ⟨some d,.indexAddr t x i,ty,pos,af,g⟩ ⟨S,O⟩ ⟨[(d,⟨.ptr r (j.toNat*sz),false⟩)],[]⟩ (ors x++ors i) [r] [] :=
 aTX (m:=j.toNat) hx ho hix (by have:=(aGS hl).1;omega) (by rw[hn];exact(aGS hl).2.2) hd
theorem xZ {x i:Operand}{t:Nat}{s:ByteArray}{k:IntKind}{j y:Int}[ht:UT P t .string](hx:evq S x=some (.sc (.string s)))(hi:evq S i=some (.sc (.int k j)))(hb:aCI s j=some y)(hd:Nat.blt d N=true) :
 Local Γ ⟨some d,.index t x i,ty,pos,af,g⟩ ⟨S,O⟩ ⟨[(d,⟨.sc (.int .u8 y),false⟩)],[]⟩ (ors x++ors i) [] []:=by
 unfold aCI at hb
 by_cases h:0<=j/\j<s.size
 · rw[aUs h]at hb;cases hb;exact aP8 hx hi h hd
 · rw[aUq h]at hb;cases hb
def aBi (x:Int):ByteArray:=⟨#[UInt8.ofNat x.toNat]⟩
theorem aFp (n:Int):0<=IntKind.u8.wrap n/\IntKind.u8.wrap n<256:=by rw[IntKind.wrap_u8];omega
theorem aEc {x:Operand}{src dst e:Nat}{v:Int}[hs:SlT P src e][he:UT P e (.int .u8)][ht:UT P dst .string](hx:evq S x=some (.sl 1 [.sc (.int .u8 v)]))(hv:0<=v/\v<256)(hd:Nat.blt d N=true) :
 Local Γ ⟨some d,.convert src dst x,ty,pos,af,g⟩ ⟨S,O⟩ ⟨[(d,⟨.sc (.string (aBi v)),false⟩)],[]⟩ (ors x) [] [] :=
 aRg [UInt8.ofNat v.toNat] hx ⟨by
  have:((UInt8.ofNat v.toNat).toNat:Int)=v:=by simp;omega
  simp only[u8s,aUH,aVy];rw[this],rfl⟩ hd
def aCo (S:List (Nat×Slot)):List (Nat×Operand)->Nat->Option (List Value)
 | [],_=>some []
 | (i,x)::r,k=>bif Nat.beq i k then(match evq S x with
  | some (.sc v)=>bif v.oneCell' then(match aCo S r (k+1)with
   | some vs=>some (v::vs)
   | none=>none)else none
  | _=>none)else none
def aAV:List (Nat×Operand)->List Nat
 | []=>[]
 | (_,x)::r=>ors x++aAV r
theorem aGL {F:Env}{a:Act}{w:World}(h:Sim Γ F a w):∀ {ps:List (Nat×Operand)} {k:Nat} {vs:List Value},aCo S ps k=some vs->(∀ j∈aAV ps,lk F.s j=lk S j)->
 ps.map (fun p=>(p.1,a.eval p.2))=(vs.zipIdx k).map (fun x=>(x.2,x.1))/\vs.length=ps.length/\∀ v∈vs,v.oneCell'=true
 | [],_,vs,hv,_=>by simp only[aCo]at hv;cases hv;simp
 | (i,x)::r,k,vs,hv,hs=>by
  simp only[aCo]at hv
  cases hb:Nat.beq i k with
  | false=>rw[hb]at hv;cases hv
  | true =>
   rw[hb]at hv
   simp only[aW6]at hv
   split at hv
   · rename_i v hx
     cases hc:v.oneCell' with
     | false=>rw[hc]at hv;cases hv
     | true =>
      rw[hc]at hv
      simp only[aW6]at hv
      split at hv
      · rename_i vs' hvs;cases hv
        obtain⟨g1,g2,g3⟩:=aGL h hvs (fun j hj=>hs j (by simp[aAV,hj]))
        have e:=tB h hx (fun j hj=>hs j (by simp[aAV,hj]))
        have:=aU0 hb
        subst this
        exact⟨by simp[e,g1],by simp[g2],fun u hu=>by rcases aUr.1 hu with rfl | hu;exact hc;exact g3 u hu⟩
      · cases hv
   · cases hv
theorem aCL {v:Value}(h:v.oneCell'=true):v.cells=#[v]:=by
 cases v <;> simp_all [Value.oneCell',Value.cells]
theorem aDu {h:Array Obj}{β:Nat->Option (Option Nat)}:∀ {vs pre:List Value},(∀ v∈vs,v.oneCell'=true)->RelL h true β (vs.map .sc) (pre++vs).toArray pre.length []
 | [],_,_=>by simp[RelL]
 | v::vs,pre,hv=>by
  simp only[aUH,RelL]
  refine⟨v,[],[],⟨by simp,fun _=>hv v (by simp)⟩,by simp[RelV],?_,rfl⟩
  have:=aDu (h:=h) (β:=β) (vs:=vs) (pre:=pre++[v]) (fun u hu=>hv u (by simp[hu]))
  simpa using this
theorem aGX:∀ {vs:List Value},(∀ v∈vs,v.oneCell'=true)->(vs.flatMap fun v=>v.cells.toList)=vs
 | [],_=>rfl
 | v::r,h=>by simp only[aVc];rw[aCL (h v aWP),aGX (fun u hu=>h u (aU3 _ hu))];rfl
theorem aRW {t e by_ n:Nat}{agg:Bool}{ps:List PV}{parts:Array (Nat×Operand)}{vs:List Value}[ht:SlT P t e][hi:TI P e 1 agg by_][hz:ZT P e ps](hv:aCo S parts.toList 0=some vs)(hn:Nat.beq vs.length n=true)(hpos:Nat.blt 0 n=true)(hs2:Nat.ble n 1000=true)(hio:Γ.io d=none)(hd:Nat.blt d N=true) :
 Local Γ ⟨some d,.buildSlice t n parts,ty,pos,af,g⟩ ⟨S,O⟩ ⟨[(d,⟨.ref d 1 0 n,false⟩)],[(d,some ⟨vs.map .sc,true,false⟩)]⟩ (aAV parts.toList) [] [d]:=by
 intro F hs _ hnl
 refine bE fun a w hsim=>?_
 obtain⟨g1,g2,g3⟩:=aGL hsim hv hs
 obtain⟨ow,β,hsim⟩:=hsim
 have hn:=aU0 hn
 have hpos:=(aR _ _).1 hpos
 have hs2:=aUZ hs2
 obtain⟨i,z,h1,h2,h3,h4,_⟩:=hz.ok
 obtain⟨⟨i',q1,q2,q3⟩,_⟩:=hi.ok
 rw[h1]at q1;cases q1
 have hcells:(vs.flatMap fun v=>v.cells.toList)=vs:=aGX g3
 have run:(Instr.buildSlice t n (parts.map fun(i,x)=>(i,a.eval x))).run P w=.ok (.slice (some ⟨w.heap.size,0,none⟩) n n) (w.alloc (.cells vs.toArray e)):=by
  refine run_buildSlice w t e n _ vs.toArray i z ht.ok h1 h2 (by rw[q2];omega) (by rw[q2];omega) ?_
  have:=Go.Great.fill_whole (s:=i.size) (by omega) vs ((Array.range (n*i.size)).map (z.cells[· % z.cells.size]!)) (fun v hv=>by rw[aCL (g3 v hv),q2];rfl) (by simp[hn])
  rw[hcells]at this
  rw[<- this]
  congr 1
  rw[<- g1];simp
 refine⟨_,_,by simp only[execOp];rw[Sem.run_bind,run];rfl,?_⟩
 refine hsim.layPut (uZ w _) (b0:=w.heap.size) (by simp) (fun b hb _=>jV w _ hb) (fZ w _) (hnl d (by simp)) hio [] [] (.inl (aUI _)) (.inl hsim.kept.size) ⟨vs.map .sc,true,false⟩ (B:=[]) (by simpa using aDu (pre:=[]) g3) (by simp) (by simp) (by simp) ((aR _ _).1 hd) (fun β' hβ=>?_)
 simp only[RelV]
 refine⟨trivial,fun h=>by rw[hβ]at h;simp at h,fun b hb=>?_⟩
 rw[hβ]at hb;cases hb
 exact⟨n,vs.toArray,e,by simp,fZ w _,by simp[hn],aUI _⟩
theorem RetIs.weak {E E0:Env}{rs:Array ResultVar}{r:PV}{deep:Bool}(he:Ent Γ E E0)(h:RetIs Γ rs E0 r deep):RetIs Γ rs E r deep:=fun fn hf a w hs=>h fn hf a w (he a w hs)
end
theorem nG {α:Type}{l:List α}{enc:α->List PV}{j:Int}{y:α}{sz:Nat}{c:PV}(hl:idx l j=some y)(ho:(enc y)[0]?=some c)(h:∀ y,(enc y).length=sz):(l.flatMap enc)[j.toNat*sz]?=some c:=aNL (aGS hl).2.1 ho h
theorem vX {α:Type}{l:List α}{enc:α->List PV}{j:Int}{y:α}{sz:Nat}(hl:idx l j=some y)(h:∀ y,(enc y).length=sz):((l.flatMap enc).drop (j.toNat*sz)).take sz=enc y:=aPl (aGS hl).2.1 h
theorem aMk {α:Type}{l:List α}{enc:α->List PV}{j:Int}{y:α}{sz o n:Nat}(hl:idx l j=some y)(h:∀ y,(enc y).length=sz)(ho:o+n<=sz):Nat.ble (j.toNat*sz+o+n) (l.flatMap enc).length=true:=by
 have:=(aGS hl).2.2
 rw[Nat.ble_eq,cR h]
 have h2:(j.toNat+1)*sz<=l.length*sz:=aVC _ (by omega)
 rw[Nat.add_mul]at h2;omega
theorem aOn {α:Type}{l:List α}{enc:α->List PV}{j:Int}{y:α}{sz n:Nat}(hl:idx l j=some y)(h:∀ y,(enc y).length=sz)(ho:n<=sz):Nat.ble (j.toNat*sz+n) (l.flatMap enc).length=true:=by
 have:=aMk (o:=0) (n:=n) hl h (by omega)
 simpa using this
theorem aOl {α:Type}{l:List α}{enc:α->List PV}{j:Int}{y y':α}{sz:Nat}{vs:List PV}(hl:idx l j=some y)(h:∀ y,(enc y).length=sz)(he:vs=enc y'):(l.flatMap enc).take (j.toNat*sz)++vs++(l.flatMap enc).drop (j.toNat*sz+sz)=(nA l j y').flatMap enc:=by
 subst he;exact aJF (aGS hl).2.2 h
theorem aQt {α:Type}{l:List α}{enc:α->List PV}{j:Int}{y y':α}{sz o n:Nat}{vs:List PV}(hl:idx l j=some y)(h:∀ y,(enc y).length=sz)(ho:o+n<=sz)(he:(enc y).take o++vs++(enc y).drop (o+n)=enc y') :
 (l.flatMap enc).take (j.toNat*sz+o)++vs++(l.flatMap enc).drop (j.toNat*sz+o+n)=(nA l j y').flatMap enc:=by
 obtain⟨_,h1,h2⟩:=aGS hl
 rw[<- aOl hl h rfl (y':=y')]
 have e1:(l.flatMap enc).drop (j.toNat*sz)=enc y++(l.flatMap enc).drop (j.toNat*sz+sz):=by
  have e0:=aA4 h h1
  rw[<- List.drop_drop,e0,List.drop_left' (h y)]
 have e2:(l.flatMap enc).take (j.toNat*sz+o)=(l.flatMap enc).take (j.toNat*sz)++(enc y).take o:=by
  rw[List.take_add,e1,List.take_append_of_le_length (by rw[h y];omega)]
 have e3:(l.flatMap enc).drop (j.toNat*sz+o+n)=(enc y).drop (o+n)++(l.flatMap enc).drop (j.toNat*sz+sz):=by
  rw[Nat.add_assoc,<- List.drop_drop,e1,List.drop_append_of_le_length (by rw[h y];omega)]
 rw[e2,e3,<- he]
 simp
def aXh:=@RetIs.weak
/- The engine, part U: small helps of lifted walks. -/
theorem aT9 {x:Bool}(h:(!x)=true):x=false:=by simpa using h
theorem aUa {x:Bool}(h:(!x)=false):x=true:=by simpa using h
theorem aM6 {n m by_:Nat}(h0:0<by_)(h:(n+m)*by_<=140737488355328):n+m<=9223372036854775807:=by
 have:=aVX (n+m) h0
 omega
theorem aQs {α:Type}{l:List α}{enc:α->List PV}{j:Int}{y:α}{sz:Nat}{dp bx:Bool}(hl:idx l j=some y)(h:∀ y,(enc y).length=sz)(h0:0<sz):Nat.blt 0 (Ob.mk (l.flatMap enc) dp bx).cells.length=true:=by
 have:=(aGS hl).2.2
 rw[aR,cR h]
 exact aU6 (by omega) h0
section
variable {P:Program}{N:Nat}{Γ:Ctx P N}{S:List (Nat×Slot)}{O:List (Nat×Option Ob)}
variable {d:Nat}{ty:TypeId}{pos:String}{af:Array Edge}{g:Option (Nat×Bool)}
theorem lC {α:Type}{l:List α}{j:Int}{y:α}:(nA l j y).length=l.length:=aWQ
theorem Ent.relen {k l s off n n':Nat}{dp:Bool}(hk:lkq S k=some ⟨.ref l s off n,dp⟩)(hn:n=n'):Ent Γ ⟨S,O⟩ ⟨(k,⟨.ref l s off n',dp⟩)::S,O⟩:=by
 subst hn
 intro a w h
 refine Sim.congr (E:=⟨S,O⟩) (fun j=>?_) (fun _=>rfl) h
 simp only[]
 rw[gI]
 by_cases hj:k=j
 · subst hj;rw[aUs rfl,gH hk]
 · rw[aUq hj]
theorem aPm {α:Type}{enc:α->List PV}{z:α}{ps:List PV}(h:enc z=ps)(m:Nat):(List.replicate m ()).flatMap (fun _=>ps)=(List.replicate m z).flatMap enc:=by
 subst h
 induction m with
 | zero=>rfl
 | succ m ih=>simp[aV5,ih]
theorem aNd {α:Type}{enc:α->List PV}{z:α}{t e sz by_:Nat}{agg:Bool}{x y:Operand}{k k':IntKind}{n n':Int}{ps:List PV}[ht:SlT P t e][hi:TI P e sz agg by_][hz:ZT P e ps](hx:evq S x=some (.sc (.int k n)))(hy:evq S y=some (.sc (.int k' n')))(hnn:n=n')(hb:0<=n/\n.toNat*by_<=281474976710656)
 (hez:enc z=ps) (hby:0<by_) (hsz:sz≠0) (hio:Γ.io d=none) (hd:Nat.blt d N=true) :
 Local Γ ⟨some d,.makeSlice t x y,ty,pos,af,g⟩ ⟨S,O⟩ ⟨[(d,⟨.ref d sz 0 (List.replicate n.toNat z).length,false⟩)],[(d,some ⟨(List.replicate n.toNat z).flatMap enc,true,false⟩)]⟩ (ors x++ors y) [] [d]:=by
 rw[<- aPm hez,List.length_replicate]
 have:=aVX n.toNat hby
 exact aSQ hx hy (by omega) (by omega) hb.2 (by omega) hsz hio hd
end
def aS {α:Type}(x:α):Option α:=some x
theorem fP {α:Type}{e x:α}(h:aS e=some x):e=x:=Option.some.inj h
theorem aL {α β:Type}(e:α)(f:α->Option β):(aS e).bind f=f e:=rfl
theorem oV {α:Type}{l x:List α}{j:Int}{y:α}(h:aS (nA l j y)=some x):x.length=l.length:=by
 rw[<- fP h];exact aWQ
theorem aQr {α:Type}{l x:List α}{enc:α->List PV}{j:Int}{y y':α}{sz:Nat}{vs:List PV}(hx:aS (nA l j y')=some x)(hl:idx l j=some y)(h:∀ y,(enc y).length=sz)(he:vs=enc y'):(l.flatMap enc).take (j.toNat*sz)++vs++(l.flatMap enc).drop (j.toNat*sz+sz)=x.flatMap enc:=by
 rw[<- fP hx];exact aOl hl h he
theorem aOm {α:Type}{l x:List α}{enc:α->List PV}{j:Int}{y y':α}{sz o n:Nat}{vs:List PV}(hx:aS (nA l j y')=some x)(hl:idx l j=some y)(h:∀ y,(enc y).length=sz)(ho:o+n<=sz)(he:(enc y).take o++vs++(enc y).drop (o+n)=enc y') :
 (l.flatMap enc).take (j.toNat*sz+o)++vs++(l.flatMap enc).drop (j.toNat*sz+o+n)=x.flatMap enc:=by
 rw[<- fP hx];exact aQt hl h ho he
theorem bT {α:Type}{enc:α->List PV}{l x:List α}{y:α}(hx:aS (l++[y])=some x):l.flatMap enc++enc y=x.flatMap enc/\l.length+1=x.length:=by
 rw[<- fP hx];exact aNJ
theorem tA {α:Type}{enc:α->List PV}{l r x:List α}(hx:aS (l++r)=some x):l.flatMap enc++r.flatMap enc=x.flatMap enc/\l.length+r.length=x.length:=by
 rw[<- fP hx];exact aPo
section
variable {P:Program}{N:Nat}{Γ:Ctx P N}{S:List (Nat×Slot)}{O:List (Nat×Option Ob)}
variable {d:Nat}{ty:TypeId}{pos:String}{af:Array Edge}{g:Option (Nat×Bool)}
theorem xW {x y:Operand}{u u':TypeId}{s t r:ByteArray}(hx:evq S x=some (.sc (.string s)))(hy:evq S y=some (.sc (.string t)))(hb:s.size+t.size<=9223372036854775807)(hr:aS (s++t)=some r)(hd:Nat.blt d N=true) :
 Local Γ ⟨some d,.binOp .add u x y u',ty,pos,af,g⟩ ⟨S,O⟩ ⟨[(d,⟨.sc (.string r),false⟩)],[]⟩ (ors x++ors y) [] []:=by
 rw[<- fP hr];exact aSO hx hy hb hd
end
/- The engine, part V: functions that write rows handed in; results that are rows. -/
open Go.RowKit (Below)
def aPK:List (Nat×Nat)->Bool
 | []=>true
 | (a,b)::r=>Nat.blt a 100000&&Nat.blt b 100000&&aPK r
section
variable {P:Program}{N:Nat}{Γ:Ctx P N}
theorem io1 (h:∀ l,Nat.blt l 100000=true->Γ.io l=none)(l:Nat)(hl:Nat.blt l 100000=true:=by rfl):Γ.io l=none:=h l hl
theorem io0 (h:∀ l,Nat.blt l 100000=true->Γ.io l=none)(ρ:List (Nat×Nat))(hρ:aPK ρ=true:=by rfl):∀ l,Γ.io (rn ρ l)=Γ.io l/\(Γ.io l≠none->rn ρ l=l):=by
 induction ρ with
 | nil=>intro l;exact⟨rfl,fun _=>rfl⟩
 | cons x r ih =>
  obtain⟨a,b⟩:=x
  simp only[aPK,aUP]at hρ
  intro l
  simp only[rn,rJ]
  by_cases hal:a=l
  · subst hal
    simp only[aVP,aW6]
    rw[h b hρ.1.2,h a hρ.1.1]
    exact⟨rfl,fun e=>absurd rfl e⟩
  · simp only[hal,aVZ,cond_false]
    exact ih hρ.2 l
theorem Meets.intro2 {f:FuncId}{fn:Func}{c:Code}{args:List PV}{r:PV}{deep:Bool}{rs:Array ResultVar}(hf:P.funcs[f]?=some fn)(hb:fn.body=some c)(hN:fn.ntmps=N)(hrs:fn.results=rs)(hn:Nat.ble args.length N=true)
 (h:∀ Γ:Ctx P N,(∀ l,Nat.blt l 100000=true->Γ.io l=none)->CodeT Γ c ⟨iY args 0,[]⟩ (ends Γ rs r deep)):Meets P f args r deep :=
 Meets.intro hf hb hN hrs hn (fun Γ hΓ=>h Γ (fun l _=>by rw[hΓ]))
end
structure XO where
 l:Nat
 old:List PV
 new:List PV
def XOb (w:World)(ok:Nat->Prop)(κ:Nat->Option (Option Nat))(o:XO):Prop :=
 (κ o.l=some none/\o.old=[])\/∃ b cs t,κ o.l=some (some b)/\¬ok b/\w.heap[b]?=some (.cells cs t (0,0))/\RelL w.heap true dead o.old cs 0 []
def aNb (w w':World)(κ:Nat->Option (Option Nat))(o:XO):Prop :=
 (κ o.l=some none->o.new=[])/\∀ b,κ o.l=some (some b)->∀ cs t,w.heap[b]?=some (.cells cs t (0,0))->∃ cs',w'.heap[b]?=some (.cells cs' t (0,0))/\cs'.size=cs.size/\RelL w'.heap true dead o.new cs' 0 []
def XArgs (h:Array Obj)(ok:Nat->Prop)(κ:Nat->Option (Option Nat)):List PV->List Value->Prop
 | [],[]=>True
 | p::ps,c::cs=>(∃ B,RelV h κ p c B/\∀ b∈B,ok b)/\XArgs h ok κ ps cs
 | _,_=>False
def MeetsX (P:Program)(f:FuncId)(args:List PV)(objs:List XO)(r:PV)(deep:Bool):Prop :=
 ∀ (w:World) (cargs:Array Value) (ok:Nat->Prop) (κ:Nat->Option (Option Nat)),XArgs w.heap ok κ args cargs.toList->(∀ o∈objs,XOb w ok κ o)->(∀ l o,κ l=some o->∃ x∈objs,x.l=l)->(∀ l l' b,κ l=some (some b)->κ l'=some (some b)->l=l')->
  Calls P f cargs w fun e w'=>∃ c B,e=.returned c/\Same w w'/\(∀ b,b<w.heap.size->(∀ l,κ l≠some (some b))->w'.heap[b]?=w.heap[b]?)/\(∀ o∈objs,aNb w w' κ o)/\
   RelV w'.heap dead r c B/\(∀ b∈B,ok b\/w.heap.size<=b)/\(deep=true->B.Nodup/\∀ b∈B,w.heap.size<=b/\gA w' b)
theorem XArgs.get {h:Array Obj}{ok:Nat->Prop}{κ:Nat->Option (Option Nat)}:∀ {ps:List PV} {cs:List Value},XArgs h ok κ ps cs->ps.length=cs.length/\∀ k,k<ps.length->∃ B,RelV h κ (ps.getD k .any) (cs.getD k undef) B/\∀ b∈B,ok b
 | [],[],_=>⟨rfl,fun k hk=>by simp at hk⟩
 | p::ps,c::cs,H=>by
  obtain⟨h1,h2⟩:=H
  obtain⟨h3,h4⟩:=XArgs.get h2
  refine⟨by simp[h3],fun k hk=>?_⟩
  cases k with
  | zero=>simpa using h1
  | succ k=>simpa using h4 k (by simpa using hk)
 | [],_::_,H=>H.elim
 | _::_,[],H=>H.elim
def aJx:List XO->List (Nat×Option Ob)
 | []=>[]
 | o::r=>(o.l,some ⟨o.old,true,false⟩)::aJx r
theorem aDo:∀ {os:List XO} {l:Nat},(lo (aJx os) l=none/\∀ o∈os,o.l≠l)\/∃ o∈os,o.l=l/\lo (aJx os) l=some ⟨o.old,true,false⟩
 | [],l=>.inl ⟨rfl,by simp⟩
 | o::r,l=>by
  simp only[aJx,aT]
  by_cases h:o.l=l
  · exact .inr ⟨o,by simp,h,by rw[aUs h]⟩
  · rw[aUq h]
    rcases aDo (os:=r) (l:=l)with⟨h1,h2⟩ | ⟨o',h1,h2,h3⟩
    · exact .inl ⟨h1,fun x hx=>by rcases aUr.1 hx with rfl | hx;exact h;exact h2 x hx⟩
    · exact .inr ⟨o',by simp[h1],h2,h3⟩
def xok:List XO->Bool
 | []=>true
 | o::r=>Nat.ble 100000 o.l&&!(zD (r.map (·.l)) o.l)&&xok r
theorem aDn:∀ {os:List XO},xok os=true->(∀ o∈os,100000<=o.l)/\∀ o∈os,∀ o'∈os,o.l=o'.l->o=o'
 | [],_=>⟨by simp,by simp⟩
 | o::r,h=>by
  simp only[xok,aUP,aWj]at h
  obtain⟨g1,g2⟩:=aDn h.2
  have hn:∀ x∈r,x.l≠o.l:=by
   intro x hx e
   have:zD (r.map (·.l)) o.l=true:=(lD _ _).2 (aUJ.2 ⟨x,hx,e⟩)
   rw[this]at h;cases h.1.2
  refine⟨fun x hx=>?_,fun x hx y hy e=>?_⟩
  · rcases aUr.1 hx with rfl | hx
    · exact aUZ h.1.1
    · exact g1 x hx
  · rcases aUr.1 hx with e1 | e1 <;> rcases aUr.1 hy with e2 | e2
    · rw[e1,e2]
    · rw[e1]at e;exact absurd e.symm (hn y e2)
    · rw[e2]at e;exact absurd e (hn x e1)
    · exact g2 x e1 y e2 e
def RetX {P:Program}{N:Nat}(Γ:Ctx P N)(rs:Array ResultVar)(E:Env)(r:PV)(deep:Bool)(objs:List XO):Prop :=
 RetIs Γ rs E r deep/\∀ a w,Sim Γ E a w->∃ E',Sim Γ E' a w/\∀ o∈objs,∃ dp,lo E'.o o.l=some ⟨o.new,dp,false⟩
def aCV {P:Program}{N:Nat}(Γ:Ctx P N)(rs:Array ResultVar)(r:PV)(deep:Bool)(objs:List XO):Exit->Env->Prop
 | .normal,E=>RetX Γ rs E r deep objs
 | .ret,E=>RetX Γ rs E r deep objs
 | _,_=>False
section
variable {P:Program}{N:Nat}
theorem MeetsX.intro {f:FuncId}{fn:Func}{c:Code}{args:List PV}{objs:List XO}{r:PV}{deep:Bool}{rs:Array ResultVar}(hf:P.funcs[f]?=some fn)(hb:fn.body=some c)(hN:fn.ntmps=N)(hrs:fn.results=rs)(hn:Nat.ble args.length N=true)
 (hx:xok objs=true) (hnil:∀ o∈objs,o.old=[]->o.new=[]) (hsc:∀ o∈objs,jO o.new=true)
 (h:∀ Γ:Ctx P N,(∀ l,Nat.blt l 100000=true->Γ.io l=none)->CodeT Γ c ⟨iY args 0,aJx objs⟩ (aCV Γ rs r deep objs)):MeetsX P f args objs r deep:=by
 classical
 intro w cargs ok κ ha hob hκ hinj
 obtain⟨h1,h2⟩:=ha.get
 obtain⟨hx1,hx2⟩:=aDn hx
 have hn:=aUZ hn
 let Γ:Ctx P N:={ base:=w.heap.size,ok:=ok,io:=fun l=>match κ l with | some (some b)=>some b | _=>none,w0:=w,mine:=fun _=>False,lent:=fun _=>False }
 have hio:∀ l b,Γ.io l=some b↔κ l=some (some b):=by
  intro l b
  show(match κ l with | some (some b)=>some b | _=>none)=some b↔_
  cases κ l with
  | none=>simp
  | some o=>cases o <;> simp
 have hsz:(cargs++Array.replicate (fn.ntmps-cargs.size) undef).size=N:=by
  have:cargs.size=args.length:=by rw[h1];simp
  simp[this,hN];omega
 have hblt:∀ l b,κ l=some (some b)->b<w.heap.size:=by
  intro l b e
  obtain⟨o,ho,rfl⟩:=hκ l _ e
  rcases hob o ho with⟨e',_⟩ | ⟨b',cs,t,e',_,g,_⟩
  · rw[e]at e';cases e'
  · rw[e]at e';cases e'
    rcases aVA b w.heap.size with h | h
    · exact h
    · simp[aVd h]at g
 refine calls_of_wp hf hb ?_
 let ow:Nat->Own:=fun b=>if hh:∃ l,κ l=some (some b)then .lab hh.choose else .none
 have how:∀ b l,κ l=some (some b)->ow b=.lab l:=by
  intro b l e
  have hh:∃ l,κ l=some (some b):=⟨l,e⟩
  show(if hh:_ then _ else _)=_
  rw[aWD hh,hinj _ _ b hh.choose_spec e]
 have how2:∀ b,ow b≠.none->∃ l,κ l=some (some b):=by
  intro b hb'
  rcases aWq (∃ l,κ l=some (some b))with hh | hh
  · exact hh
  · exfalso;apply hb'
    show(if hh:_ then _ else _)=_
    rw[aWE hh]
 have hsim:Sim Γ ⟨iY args 0,aJx objs⟩ { tmps:=cargs++Array.replicate (fn.ntmps-cargs.size) undef,defers:=[] } w:=by
  refine⟨ow,κ,{ size:=hsz,defers:=rfl,kept:=⟨rfl,rfl,rfl,aUI _,fun _ _ _ _=>rfl,fun b _ _ cs t h=>⟨cs,h,rfl⟩⟩,slots:=fun k=>?_,objs:=fun l ob hl=>?_,gone:=fun l hl=>?_,own:=fun b hb=>?_,ios:=fun l b hl _=>(hio l b).1 hl,fresh:=fun l b hl hi=>?_ }⟩
  · rw[pB]
    by_cases hk:k<args.length
    · rw[aUs ⟨aVk _,by simpa using hk⟩]
      obtain⟨B,g1,g2⟩:=h2 k hk
      have hB:∀ b∈B,∀ l,ow b≠.lab l:=by
       intro b hb l e
       obtain⟨l',e'⟩:=how2 b (by rw[e];simp)
       obtain⟨o,ho,rfl⟩:=hκ l' _ e'
       rcases hob o ho with⟨e2,_⟩ | ⟨b',cs,t,e2,hnok,_⟩
       · rw[e']at e2;cases e2
       · rw[e']at e2;cases e2;exact hnok (g2 b hb)
      refine⟨B,?_,fun b hb=>⟨aXA _ _ _ g1 b hb,.inl (g2 b hb),hB b hb⟩,by simp⟩
      have e:(cargs++Array.replicate (fn.ntmps-cargs.size) undef).getD k undef=cargs.toList.getD k undef:=by
       have hlt:k<cargs.size:=by rw[h1]at hk;simpa using hk
       simp[aUV,aVF,hlt,aUU]
      rw[e]
      simpa only[aWt]using g1
    · rw[aUq (by simpa using hk)]
      exact⟨[],by simp[RelV],by simp,by simp⟩
  · rcases aDo (os:=objs) (l:=l)with⟨g1,_⟩ | ⟨o,ho,rfl,g1⟩
    · simp only[g1]at hl;cases hl
    · simp only[g1]at hl;cases hl
      refine⟨[],by simp,by simp,?_⟩
      rcases hob o ho with⟨e1,e2⟩ | ⟨b,cs,t,e1,_,e3,e4⟩
      · exact .inl ⟨e1,e2,rfl⟩
      · exact .inr ⟨b,cs,t,e1,how b _ e1,e3,by simpa using e4⟩
  · cases hk:κ l with
    | none=>rfl
    | some o =>
     obtain⟨x,hx,rfl⟩:=hκ l o hk
     rcases aDo (os:=objs) (l:=x.l)with⟨_,g2⟩ | ⟨_,_,_,g1⟩
     · exact absurd rfl (g2 x hx)
     · simp only[g1]at hl;cases hl
  · obtain⟨l,e⟩:=how2 b hb
    exact⟨hblt l b e,.inr ⟨l,how b l e,(hio l b).2 e⟩⟩
  · rw[(hio l b).2 hl]at hi;cases hi
 have hioN:∀ l,Nat.blt l 100000=true->Γ.io l=none:=by
  intro l hl
  have hl:=(aR _ _).1 hl
  cases hi:Γ.io l with
  | none=>rfl
  | some b =>
   obtain⟨o,ho,rfl⟩:=hκ l _ ((hio l b).1 hi)
   have:=hx1 o ho;omega
 refine wp_mono (h Γ hioN _ _ hsim) fun e a' w' ⟨E',hs',hq⟩=>?_
 have fin:RetX Γ rs E' r deep objs->a'.defers=[]/\∃ v,(results fn a'.tmps).run P w'=.ok v w'/\∃ c B,Ending.returned v=.returned c/\Same w w'/\(∀ b,b<w.heap.size->(∀ l,κ l≠some (some b))->w'.heap[b]?=w.heap[b]?)/\(∀ o∈objs,aNb w w' κ o)/\
  RelV w'.heap dead r c B/\(∀ b∈B,ok b\/w.heap.size<=b)/\(deep=true->B.Nodup/\∀ b∈B,w.heap.size<=b/\gA w' b):=by
  rintro⟨hr,hr2⟩
  obtain⟨c,B,g1,g2,g3,g4⟩:=hr fn hrs a' w' hs'
  obtain⟨E2,⟨ow2,β2,hs2⟩,hr2⟩:=hr2 a' w' hs'
  refine⟨hs2.defers,c,g1,c,B,rfl,⟨hs2.kept.os,hs2.kept.output,hs2.kept.tape,hs2.kept.size⟩,fun b hb hn=>hs2.kept.old b hb (fun l e=>hn l ((hio l b).1 e)) (fun h=>h),fun o ho=>⟨fun e=>?_,fun b e cs t hc=>?_⟩,g2,fun b hb=>(g3 b hb).2.imp id (fun h=>(h.elim id False.elim:Γ.nww b).elim id False.elim),fun hd=>⟨(g4 hd).1,fun b hb=>⟨(((g4 hd).2 b hb).2.elim id False.elim:Γ.nww b).elim id False.elim,((g4 hd).2 b hb).1⟩⟩⟩
  · refine hnil o ho ?_
    rcases hob o ho with⟨_,e2⟩ | ⟨b,_,_,e2,_⟩
    · exact e2
    · rw[e]at e2;cases e2
  · obtain⟨dp,hl⟩:=hr2 o ho
    obtain⟨Bo,_,_,k3⟩:=hs2.objs o.l _ hl
    have hβ:=hs2.ios o.l b ((hio o.l b).2 e) (by rw[hl];rfl)
    rcases k3 with⟨k4,_⟩ | ⟨b',cs',t',k4,k5,k6,k7⟩
    · rw[hβ]at k4;cases k4
    · rw[hβ]at k4;cases k4
      obtain⟨cs2,q1,q2⟩:=hs2.kept.ios b (hblt _ _ e) (fun h=>h) cs t hc
      rw[k6]at q1;cases q1
      have:=mY (hsc o ho) k7
      subst this
      exact⟨cs',k6,q2,by simpa using k7⟩
 cases e with
 | normal=>exact fin hq
 | ret=>exact fin hq
 | exit id=>exact hq.elim
 | goto l=>exact hq.elim
 | panic ch=>exact hq.elim
 | outgrown=>exact hq.elim
end
section
variable {P:Program}{N:Nat}{Γ:Ctx P N}{S:List (Nat×Slot)}{O:List (Nat×Option Ob)}{ow:Nat->Own}{β:Nat->Option (Option Nat)}{F:Env}{a:Act}{w:World}
theorem SimG.rewriteMany (h:SimG Γ ow β F a w){w':World}(hw:Same w w')(us:List (Nat×Option Ob))(hother:∀ b,b<w.heap.size->(∀ l∈us.map (·.1),β l≠some (some b))->w'.heap[b]?=w.heap[b]?)
 (hnew:∀ l∈us.map (·.1),∃ ob,lo us l=some ob/\ob.box=false/\((β l=some none/\ob.cells=[])\/∃ b cs cs' t,β l=some (some b)/\w.heap[b]?=some (.cells cs t (0,0))/\w'.heap[b]?=some (.cells cs' t (0,0))/\cs'.size=cs.size/\RelL w'.heap true dead ob.cells cs' 0 [])) :
 SimG Γ ow β (F.app ⟨[],us⟩) a w':=by
 have hImh:∀ b,Im Γ ow w b->w'.heap[b]?=w.heap[b]?:=fun b hb=>hother b hb.1 (fun l _ e=>hb.2.2 l (h.lab_ne e))
 have hIm:∀ b,Im Γ ow w b->Im Γ ow w' b:=fun b ⟨h1,h2,h3⟩=>⟨aUN h1 hw.size,h2,h3⟩
 have hFree:∀ b,Im Γ ow w b->gA w b->gA w' b:=fun b hb ⟨c,t,hc⟩=>⟨c,t,by rw[hImh b hb];exact hc⟩
 have hshape:∀ m b,β m=some (some b)->aD9 w.heap w'.heap b:=by
  intro m b e c t hc
  by_cases hm:m∈us.map (·.1)
  · obtain⟨ob,_,_,g⟩:=hnew m hm
    rcases g with⟨g,_⟩ | ⟨b',cs,cs',t',g1,g2,g3,g4,_⟩
    · rw[e]at g;cases g
    · rw[e]at g1;cases g1
      rw[g2]at hc;cases hc
      exact⟨cs',g3,g4⟩
  · refine⟨c,?_,rfl⟩
    rw[hother b (h.block_lt e) (fun l hl e'=>hm ?_)];exact hc
    have e1:=h.lab_ne e
    have e2:=h.lab_ne e'
    rw[e1]at e2;cases e2;exact hl
 have hkeep:∀ m,KeepB w.heap w'.heap β β m:=fun m o ho=>⟨ho,fun b hob=>by subst hob;exact hshape m b ho⟩
 refine { size:=h.size,defers:=h.defers,kept:=?_,slots:=fun k=>?_,objs:=fun m ob hm=>?_,gone:=fun m hm=>?_,own:=fun b hb=>?_,ios:=fun m b hm hs=>?_,fresh:=h.fresh }
 · refine⟨hw.os.trans h.kept.os,hw.output.trans h.kept.output,hw.tape.trans h.kept.tape,aUE h.kept.size hw.size,fun b h1 h2 hmi=>?_,fun b h1 hmi c t h2=>?_⟩
   · refine(hother b (aUN h1 h.kept.size) (fun l _ e=>?_)).trans (h.kept.old b h1 h2 hmi)
     cases hi:Γ.io l with
     | none =>
      rcases h.fresh l b e hi with g | g
      · omega
      · exact hmi g
     | some b' =>
      have hs:(lo F.o l).isSome=true:=by
       cases ho:lo F.o l with
       | none=>rw[h.gone l ho]at e;cases e
       | some _=>rfl
      have:=h.ios l b' hi hs
      rw[e]at this;cases this
      exact h2 l hi
   · obtain⟨c',h3,h4⟩:=h.kept.ios b h1 hmi c t h2
     rcases aWq (∃ m,β m=some (some b))with⟨m,hm⟩ | hm
     · obtain⟨c'',h5,h6⟩:=hshape m b hm c' t h3
       exact⟨c'',h5,h6.trans h4⟩
     · exact⟨c',by rw[hother b (aUN h1 h.kept.size) (fun l _ e=>hm ⟨l,e⟩)];exact h3,h4⟩
 · obtain⟨B,g1,g2,g3⟩:=h.slots k
   exact⟨B,aXt _ _ _ (fun m _=>hkeep m) (fun b hb=>hImh b (g2 b hb)) g1,fun b hb=>hIm b (g2 b hb),fun hd=>⟨(g3 hd).1,fun b hb=>⟨((g3 hd).2 b hb).1,hFree b (g2 b hb) ((g3 hd).2 b hb).2⟩⟩⟩
 · by_cases hmu:m∈us.map (·.1)
   · simp only[Env.app]at hm
     rw[dG _ _ _ hmu]at hm
     obtain⟨ob',e1,e2,g⟩:=hnew m hmu
     rw[e1]at hm;cases hm
     refine⟨[],by simp,by simp,?_⟩
     rcases g with⟨g1,g2⟩ | ⟨b,cs,cs',t,g1,g2,g3,g4,g5⟩
     · exact .inl ⟨g1,g2,rfl⟩
     · exact .inr ⟨b,cs',t,g1,h.lab_ne g1,g3,by rw[e2];simpa using g5⟩
   · simp only[Env.app]at hm
     rw[bZ _ _ _ hmu]at hm
     obtain⟨B,g1,g2,g3⟩:=h.objs m ob hm
     refine⟨B,fun b hb=>hIm b (g1 b hb),fun hd=>⟨(g2 hd).1,fun b hb=>⟨((g2 hd).2 b hb).1,hFree b (g1 b hb) ((g2 hd).2 b hb).2⟩⟩,?_⟩
     rcases g3 with g3 | ⟨b,c,t,e1,e2,e3,e4⟩
     · exact .inl g3
     · refine .inr ⟨b,c,t,e1,e2,?_,?_⟩
       · rw[hother b (h.block_lt e1) (fun l hl e'=>hmu ?_)];exact e3
         have e5:=h.lab_ne e'
         rw[e2]at e5;cases e5;exact hl
       · cases hbx:ob.box with
         | false=>rw[hbx]at e4;exact aXr _ _ _ _ (fun _ _ l _=>aXF _ _ l) (fun b hb=>hImh b (g1 b hb)) e4
         | true=>rw[hbx]at e4;exact aXr _ _ _ _ (fun _ _ m' _=>hkeep m') (fun b hb=>hImh b (g1 b hb)) e4
 · simp only[Env.app]at hm
   by_cases hmu:m∈us.map (·.1)
   · rw[dG _ _ _ hmu]at hm
     obtain⟨ob',e1,_⟩:=hnew m hmu
     rw[e1]at hm;cases hm
   · rw[bZ _ _ _ hmu]at hm;exact h.gone m hm
 · obtain⟨g1,g2⟩:=h.own b hb
   exact⟨aUN g1 hw.size,g2⟩
 · refine h.ios m b hm ?_
   simp only[Env.app]at hs
   by_cases hmu:m∈us.map (·.1)
   · obtain⟨_,_,_,g⟩:=hnew m hmu
     cases ho:lo F.o m with
     | none =>
      have:=h.gone m ho
      rcases g with⟨g,_⟩ | ⟨_,_,_,_,g,_⟩ <;> rw[this]at g <;> cases g
     | some _=>rfl
   · rw[bZ _ _ _ hmu]at hs;exact hs
inductive ArgX (S:List (Nat×Slot)) (O:List (Nat×Option Ob)) (ρ:List (Nat×Nat)):Operand->PV->List Nat->Prop
 | val {x:Operand} {p:PV} {l:List Nat}:ArgV S O x p l->p.labs=[]->ArgX S O ρ x p l
 | io {x:Operand} {p:PV}:evq S x=some (yE ρ p)->ArgX S O ρ x p []
inductive ArgsX (S:List (Nat×Slot)) (O:List (Nat×Option Ob)) (ρ:List (Nat×Nat)):List Operand->List PV->List Nat->Prop
 | nil:ArgsX S O ρ [] [] []
 | cons {x:Operand} {p:PV} {l m:List Nat} {xs:List Operand} {ps:List PV}:ArgX S O ρ x p l->ArgsX S O ρ xs ps m->ArgsX S O ρ (x::xs) (p::ps) (l++m)
inductive ObsX (O:List (Nat×Option Ob)) (ρ:List (Nat×Nat)):List XO->List (Nat×Option Ob)->Prop
 | nil:ObsX O ρ [] []
 | cons {l:Nat} {old new:List PV} {dp:Bool} {os:List XO} {us:List (Nat×Option Ob)}:loq O (rn ρ l)=some ⟨old,dp,false⟩->jO old=true->ObsX O ρ os us->ObsX O ρ (⟨l,old,new⟩::os) ((rn ρ l,some ⟨new,dp,false⟩)::us)
def aCA:List XO->List Nat
 | []=>[]
 | o::r=>o.l::aCA r
def aIx (ρ:List (Nat×Nat)):List XO->List Nat
 | []=>[]
 | o::r=>rn ρ o.l::aIx ρ r
def aQ1:List Nat->List Nat->Bool
 | [],_=>true
 | x::r,l=>!(zD l x)&&aQ1 r l
theorem aIi:∀ {a b:List Nat},aQ1 a b=true->∀ x∈a,x∉b
 | [],_,_,x,hx=>by cases hx
 | y::r,b,h,x,hx=>by
  simp only[aQ1,aUP,aWj]at h
  rcases aUr.1 hx with rfl | hx
  · intro hb;rw[(lD _ _).2 hb]at h;cases h.1
  · exact aIi h.2 x hx
theorem aAH:∀ (os:List XO),aCA os=os.map (·.l)
 | []=>rfl
 | o::r=>by simp[aCA,aAH r]
theorem aDm (ρ:List (Nat×Nat)):∀ (os:List XO),aIx ρ os=os.map (fun o=>rn ρ o.l)
 | []=>rfl
 | o::r=>by simp[aIx,aDm ρ r]
theorem ObsX.keys {ρ:List (Nat×Nat)}{os:List XO}{us:List (Nat×Option Ob)}(h:ObsX O ρ os us):us.map (·.1)=aIx ρ os:=by
 induction h with
 | nil=>rfl
 | cons _ _ _ ih=>simp[aIx,ih]
theorem ObsX.get {ρ:List (Nat×Nat)}{os:List XO}{us:List (Nat×Option Ob)}(h:ObsX O ρ os us):∀ o∈os,∃ dp,loq O (rn ρ o.l)=some ⟨o.old,dp,false⟩/\jO o.old=true:=by
 induction h with
 | nil=>simp
 | cons h1 h2 _ ih =>
  intro o ho
  rcases aUr.1 ho with rfl | ho
  · exact⟨_,h1,h2⟩
  · exact ih o ho
theorem ObsX.lo {ρ:List (Nat×Nat)}{os:List XO}{us:List (Nat×Option Ob)}(h:ObsX O ρ os us)(hi:aDW ρ (aCA os)=true):∀ o∈os,∃ dp,Ev.lo us (rn ρ o.l)=some ⟨o.new,dp,false⟩:=by
 induction h with
 | nil=>simp
 | @cons l old new dp os us h1 h2 _ ih =>
  intro o ho
  rw[aT]
  by_cases e:rn ρ l=rn ρ o.l
  · rw[aUs e]
    rcases aUr.1 ho with rfl | ho
    · exact⟨_,rfl⟩
    · simp only[aCA,aDW,aUP,aWj]at hi
      have:zD ((aCA os).map (rn ρ)) (rn ρ l)=true:=(lD _ _).2 (by rw[aAH,aWo];exact aUJ.2 ⟨o,ho,e.symm⟩)
      rw[this]at hi;cases hi.1
  · rw[aUq e]
    rcases aUr.1 ho with rfl | ho
    · exact absurd rfl e
    · simp only[aCA,aDW,aUP]at hi
      exact ih hi.2 o ho
theorem ArgV.rel {x:Operand}{p:PV}{l:List Nat}(hs:SimG Γ ow β F a w)(hx:ArgV S O x p l)(hk1:∀ k∈ors x,lk F.s k=lk S k)(hl:∀ m∈l,lo F.o m=lo O m):∃ B,RelV w.heap dead p (a.eval x) B/\∀ b∈B,Im Γ ow w b\/∃ m∈l,ow b=.lab m:=by
 have h1:ArgsV S O [x] [p] (l++[]):=.cons hx .nil
 have:=zA hs h1 (by cases x <;> simpa [pD,ors]using hk1) (by simpa using hl)
 obtain⟨⟨B,g1,g2⟩,_⟩:=this
 exact⟨B,g1,fun b hb=>by simpa using g2 b hb⟩
variable {d:Nat}{ty:TypeId}{pos:String}{af:Array Edge}{g:Option (Nat×Bool)}
theorem aRh {f:FuncId}[hfc:FnC P f]{xs:List Operand}{tus:Array TypeId}{ps:List PV}{ls:List Nat}{objs:List XO}{us:List (Nat×Option Ob)}{r:PV}{deep:Bool}(ρ:List (Nat×Nat))(ha:ArgsX S O ρ xs ps ls)(hm:MeetsX P f ps objs r deep)(hob:ObsX O ρ objs us)
 (hi:aDW ρ (aCA objs)=true) (hdis:aQ1 (aIx ρ objs) ls=true) (hc:(aNv ls||deep||flat r)=true) (hr:r.labs=[]) (hd:Nat.blt d N=true) :
 Local Γ ⟨some d,.call ⟨.value (.func f),xs.toArray,tus⟩,ty,pos,af,g⟩ ⟨S,O⟩ ⟨[(d,⟨r,deep⟩)],us⟩ (pD xs) (aIx ρ objs++ls) []:=by
 classical
 intro F hs hl _ a w ⟨ow,β,hsim⟩ Q
 have hdN:=(aR _ _).1 hd
 have hinj:=aEE hi
 have hdis:=aIi hdis
 let κ:Nat->Option (Option Nat):=fun l=>if l∈aCA objs then β (rn ρ l)else none
 have hκ1:∀ l,l∈aCA objs->κ l=β (rn ρ l):=fun l h=>by show(if _ then _ else _)=_;rw[aUs h]
 have hκ2:∀ l o,κ l=some o->l∈aCA objs/\β (rn ρ l)=some o:=by
  intro l o h
  rcases aWq (l∈aCA objs)with h1 | h1
  · exact⟨h1,by rw[<- hκ1 l h1];exact h⟩
  · have:κ l=none:=by show(if _ then _ else _)=_;rw[aUq h1]
    rw[this]at h;cases h
 have hlo:∀ o∈objs,∃ dp,lo F.o (rn ρ o.l)=some ⟨o.old,dp,false⟩/\jO o.old=true:=by
  intro o ho
  obtain⟨dp,h1,h2⟩:=hob.get o ho
  exact⟨dp,by rw[hl _ (by simp only[aUz];left;rw[aDm];exact aUJ.2 ⟨o,ho,rfl⟩),<- dA];exact h1,h2⟩
 unfold Oper.wp
 have hrun:(execOp a.eval ⟨some d,.call ⟨.value (.func f),xs.toArray,tus⟩,ty,pos,af,g⟩).run P w=.ok (.enter f (xs.map a.eval).toArray) w:=by
  simp[execOp,resolve,Act.eval,Deferred.ofValue,invoke,hfc.run]
 rw[hrun]
 show Calls _ _ _ _ _
 have hargs:XArgs w.heap (fun b=>Im Γ ow w b\/∃ l∈ls,ow b=.lab l) κ ps (xs.map a.eval):=by
  clear hm hc hob hrun
  have key:∀ {xs:List Operand} {ps:List PV} {ls':List Nat},ArgsX S O ρ xs ps ls'->(∀ k∈pD xs,lk F.s k=lk S k)->(∀ l∈ls',l∈ls)->XArgs w.heap (fun b=>Im Γ ow w b\/∃ l∈ls,ow b=.lab l) κ ps (xs.map a.eval):=by
   intro xs ps ls' hx
   induction hx with
   | nil=>intro _ _;trivial
   | @cons x p l m xs ps h1 h2 ih =>
    intro hk hsub
    have hk1:∀ k∈ors x,lk F.s k=lk S k:=fun k hk'=>hk k (by cases x <;> simp[ors,pD]at hk' ⊢;exact .inl hk')
    have hk2:∀ k∈pD xs,lk F.s k=lk S k:=fun k hk'=>hk k (by cases x <;> simp[pD,hk'])
    refine⟨?_,ih hk2 (fun l' hl'=>hsub l' (by simp[hl']))⟩
    cases h1 with
    | val hv hlb =>
     obtain⟨B,g1,g2⟩:=ArgV.rel hsim hv hk1 (fun m hm'=>hl m (by simp only[aUz];right;exact hsub m (by simp[hm'])))
     exact⟨B,g1.nolab hlb,fun b hb=>(g2 b hb).imp id fun⟨m,hm',e⟩=>⟨m,hsub m (by simp[hm']),e⟩⟩
    | io hv =>
     obtain⟨B,g1,g2⟩:=cK hsim hv hk1
     exact⟨B,vA (fun l o e=>(hκ2 l o e).2) p g1,fun b hb=>.inl (g2 b hb)⟩
  exact key ha hs (fun l h=>h)
 refine(hm w (xs.map a.eval).toArray (fun b=>Im Γ ow w b\/∃ l∈ls,ow b=.lab l) κ (by simpa using hargs) ?_ ?_ ?_).mono fun e w' ⟨c,B,he,hsame,hoth,hpost,h1,h2,h3⟩=>?_
 · intro o ho
   obtain⟨dp,g1,g2⟩:=hlo o ho
   obtain⟨Bo,_,_,g3⟩:=hsim.objs _ _ g1
   have hk:κ o.l=β (rn ρ o.l):=hκ1 _ (by rw[aAH];exact aUJ.2 ⟨o,ho,rfl⟩)
   rcases g3 with⟨e1,e2,_⟩ | ⟨b,cs,t,e1,e2,e3,e4⟩
   · exact .inl ⟨hk.trans e1,e2⟩
   · have:=mY g2 e4
     subst this
     refine .inr ⟨b,cs,t,hk.trans e1,?_,e3,by simpa using e4⟩
     rintro(h | ⟨m,hm',e⟩)
     · exact h.2.2 _ e2
     · rw[e2]at e;cases e
       exact hdis _ (by rw[aDm];exact aUJ.2 ⟨o,ho,rfl⟩) hm'
 · intro l o e
   have:=(hκ2 l o e).1
   rw[aAH]at this
   obtain⟨x,hx,rfl⟩:=aUJ.1 this
   exact⟨x,hx,rfl⟩
 · intro l l' b e e'
   obtain⟨g1,g2⟩:=hκ2 l _ e
   obtain⟨g3,g4⟩:=hκ2 l' _ e'
   have e5:=hsim.lab_ne g2
   have e6:=hsim.lab_ne g4
   rw[e5]at e6
   injection e6 with e7
   exact hinj l g1 l' g3 e7
 · subst he
   show Sim Γ _ _ _
   have hrew:SimG Γ ow β (F.app ⟨[],us⟩) a w':=by
    refine hsim.rewriteMany hsame us (fun b hb hn=>hoth b hb (fun l e=>?_)) (fun m hm'=>?_)
    · obtain⟨g1,g2⟩:=hκ2 l _ e
      refine hn (rn ρ l) ?_ g2
      rw[hob.keys,aDm]
      rw[aAH]at g1
      obtain⟨x,hx,rfl⟩:=aUJ.1 g1
      exact aUJ.2 ⟨x,hx,rfl⟩
    · rw[hob.keys,aDm]at hm'
      obtain⟨o,ho,rfl⟩:=aUJ.1 hm'
      obtain⟨dp,e1⟩:=hob.lo hi o ho
      refine⟨_,e1,rfl,?_⟩
      obtain⟨dp',g1,g2⟩:=hlo o ho
      obtain⟨Bo,_,_,g3⟩:=hsim.objs _ _ g1
      have hk:κ o.l=β (rn ρ o.l):=hκ1 _ (by rw[aAH];exact aUJ.2 ⟨o,ho,rfl⟩)
      obtain⟨p1,p2⟩:=hpost o ho
      rcases g3 with⟨e2,_⟩ | ⟨b,cs,t,e2,_,e3,_⟩
      · exact .inl ⟨e2,p1 (hk.trans e2)⟩
      · obtain⟨cs',q1,q2,q3⟩:=p2 b (hk.trans e2) cs t e3
        exact .inr ⟨b,cs,cs',t,e2,e3,q1,q2,q3⟩
   have hB:∀ b∈B,b<w'.heap.size:=aXA _ _ _ h1
   have hfresh:∀ b,w.heap.size<=b->b<w'.heap.size->Im Γ ow w' b:=fun b hb1 hb2=>⟨hb2,.inr (.inl (.inl (aUE hsim.kept.size hb1))),fun l e=>by have:=(hsim.own b (by rw[e];simp)).1;omega⟩
   have hkeepV:RelV w'.heap β r c B:=aXM hr h1
   have comb:∀ {ow2:Nat->Own} {a2:Act} {s:List (Nat×Slot)},SimG Γ ow2 β ((F.app ⟨[],us⟩).app ⟨s,[]⟩) a2 w'->Sim Γ (F.app ⟨s,us⟩) a2 w':=by
    intro ow2 a2 s h
    exact⟨ow2,β,h.congr (fun k=>rfl) (fun l=>rfl)⟩
   cases deep with
   | true =>
    obtain⟨n1,n2⟩:=h3 rfl
    exact comb (hrew.putDeep hdN hkeepV (fun b hb=>hfresh b (n2 b hb).1 (hB b hb)) n1 (fun b hb=>⟨(n2 b hb).2,.inl (.inl (aUE hsim.kept.size (n2 b hb).1))⟩)
     (fun b hb=>by
      cases hx:ow b with
      | none=>exact .inl rfl
      | _=>have:=(hsim.own b (by rw[hx];simp)).1;have:=(n2 b hb).1;omega))
   | false =>
    refine comb (hrew.put hdN hkeepV fun b hbB=>?_)
    simp only[aW3,aVg]at hc
    rcases hc with hc | hc
    · cases ls with
      | cons=>cases hc
      | nil =>
       rcases h2 b hbB with(h | ⟨l,hl',_⟩) | h
       · exact⟨aUN h.1 hsame.size,h.2⟩
       · cases hl'
       · exact hfresh b h (hB b hbB)
    · rw[aBX hc h1]at hbB;cases hbB
end
def aXe:=@ArgsX.cons
def aXs:=@ArgsX.nil
def aXy:=@ArgX.io
def aXz:=@ArgX.val
end Go.Ev
