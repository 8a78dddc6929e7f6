/- Parts EvN, EvO, EvP, EvR, EvS, EvT, EvU, EvV, EvX, EvY. -/
import Derived.Test.YtlhoochohnnepaaGreatE2
import Derived.WalkKit
import Derived.ProofKit
import Derived.OpenShut
import Derived.Laws.IdiomStrings
import Derived.Laws.BytesArg
import Derived.Laws.Tables
set_option linter.all false
set_option maxHeartbeats 4000000
set_option maxRecDepth 20000
/- The engine, part N: own blocks become values again; results out of own blocks; changes of view. -/
namespace Go.Ev
open Go.RowKit (Below)
section
variable {P:Program}{N:Nat}{Γ:Ctx P N}{S:List (Nat×Slot)}{O:List (Nat×Option Ob)}{ow:Nat->Own}{β:Nat->Option (Option Nat)}{F:Env}{a:Act}{w:World}
variable {d:Nat}{ty:TypeId}{pos:String}{af:Array Edge}{g:Option (Nat×Bool)}
open Classical in
theorem SimG.toSlot (h:SimG Γ ow β F a w){l:Nat}{ob:Ob}(ho:lo F.o l=some ob)(hio:Γ.io l=none){d:Nat}(hd:d<N){v:PV}{c:Value}{B:List Nat}{dp:Bool}(hv:RelV w.heap dead v c B)(hB:∀ b∈B,Im Γ ow w b\/ow b=.lab l)
 (hdeep:dp=true->B.Nodup/\∀ b∈B,(ow b=.obj l\/ow b=.lab l)/\fP w b) (hvl:v.labs=[]) :
 ∃ ow',SimG Γ ow' (fun m=>if m=l then none else β m) (F.app ⟨[(d,⟨v,dp⟩)],[(l,none)]⟩) (a.put (some d) c) w:=by
 let β':Nat->Option (Option Nat):=fun m=>if m=l then none else β m
 let ow':Nat->Own:=fun b=>if b∈B/\dp=true then .slot d else if ow b=.lab l\/ow b=.obj l then .none else ow b
 have hbase:∀ b,ow b=.obj l\/ow b=.lab l->b<w.heap.size/\Γ.nw b:=by
  intro b hb
  have hne:ow b≠.none:=by rcases hb with e | e <;> rw[e] <;> simp
  obtain⟨h1,h2⟩:=h.own b hne
  refine⟨h1,?_⟩
  rcases h2 with h2 | ⟨m,h2,h3⟩
  · exact h2
  · rcases hb with e | e <;> rw[e]at h2 <;> cases h2
    rw[hio]at h3;cases h3
 have hnolab:∀ b m,ow b≠.lab m->ow' b≠.lab m:=by
  intro b m hb
  show(if _ then _ else if _ then _ else _)≠_
  split
  · simp
  · split
    · simp
    · exact hb
 have hIm:∀ b,Im Γ ow w b->Im Γ ow' w b:=fun b ⟨h1,h2,h3⟩=>⟨h1,h2,fun m=>hnolab b m (h3 m)⟩
 have hkeep:∀ m,KeepB w.heap w.heap β β' m:=by
  intro m o ho
  have ho':(if m=l then none else β m)=some o:=ho
  by_cases hm:m=l
  · rw[aTd hm]at ho';cases ho'
  · rw[aTc hm]at ho';exact⟨ho',fun b _ c t hc=>⟨c,hc,rfl⟩⟩
 have hInew:∀ b∈B,Im Γ ow' w b:=by
  intro b hb
  rcases hB b hb with h1 | h1
  · exact hIm b h1
  · obtain⟨q1,q2⟩:=hbase b (.inr h1)
    refine⟨q1,.inr q2,fun m=>?_⟩
    show(if _ then _ else if _ then _ else _)≠_
    split
    · simp
    · rw[aTd (.inl h1)];simp
 have hstay:∀ b o,ow b=o->(∀ x,o≠.lab l/\o≠.obj l/\(o=.slot x->True))->(dp=true->b∈B->False)->ow' b=o:=by
  intro b o hb ho hn
  show(if _ then _ else if _ then _ else _)=_
  rw[aTc (fun hc=>hn hc.2 hc.1),aTc]
  · exact hb
  · rw[hb];rintro(e | e)
    · exact(ho 0).1 e
    · exact(ho 0).2.1 e
 have hBown:∀ b o,ow b=o->o≠.lab l->o≠.obj l->dp=true->b∈B->False:=by
  intro b o hb h1 h2 hdp hbB
  rcases((hdeep hdp).2 b hbB).1 with e | e <;> rw[e]at hb <;> subst hb
  · exact h2 rfl
  · exact h1 rfl
 refine⟨ow',{ size:=by simp[Act.put,h.size],defers:=by simp[Act.put,h.defers],kept:=h.kept,slots:=fun k=>?_,objs:=fun m ob' hm=>?_,gone:=fun m hm=>?_,own:=fun b hb=>?_,ios:=fun m b hm hs=>?_,fresh:=fun m b hm hi=>?_ }⟩
 · simp only[Env.app,aTm,aTi,dO,Act.put]
   by_cases hk:d=k
   · subst hk
     rw[aTd rfl,mB (by rw[h.size];exact hd)]
     refine⟨B,hv.nolab hvl,hInew,fun hx=>⟨(hdeep hx).1,fun b hb=>⟨?_,((hdeep hx).2 b hb).2⟩⟩⟩
     show(if _ then _ else _)=_
     rw[aTd ⟨hb,hx⟩]
   · rw[aTc hk,sU hk]
     obtain⟨B',g1,g2,g3⟩:=h.slots k
     refine⟨B',aWl _ _ _ (fun m _=>hkeep m) (fun _ _=>rfl) g1,fun b hb=>hIm b (g2 b hb),fun hx=>⟨(g3 hx).1,fun b hb=>⟨?_,((g3 hx).2 b hb).2⟩⟩⟩
     have e:=((g3 hx).2 b hb).1
     exact hstay b _ e (fun _=>⟨by simp,by simp,fun _=>trivial⟩) (hBown b _ e (by simp) (by simp))
 · simp only[Env.app,aTm,aTi,aI]at hm
   by_cases hml:l=m
   · rw[aTd hml]at hm;cases hm
   · rw[aTc hml]at hm
     obtain⟨B',g1,g2,g3⟩:=h.objs m ob' hm
     have eβ:β' m=β m:=by show(if _ then _ else _)=_;rw[aTc (fun e=>hml e.symm)]
     have ho1:∀ x,ow x=Own.obj m->ow' x=.obj m:=fun x e=>hstay x _ e (fun _=>⟨by simp,by simp;exact fun e=>hml e.symm,fun _=>trivial⟩) (hBown x _ e (by simp) (by simp;exact fun e=>hml e.symm))
     have ho2:∀ x,ow x=Own.lab m->ow' x=.lab m:=fun x e=>hstay x _ e (fun _=>⟨by simp;exact fun e=>hml e.symm,by simp,fun _=>trivial⟩) (hBown x _ e (by simp;exact fun e=>hml e.symm) (by simp))
     refine⟨B',fun b hb=>hIm b (g1 b hb),fun hx=>⟨(g2 hx).1,fun b hb=>⟨ho1 b ((g2 hx).2 b hb).1,((g2 hx).2 b hb).2⟩⟩,?_⟩
     rcases g3 with⟨e1,e2,e3⟩ | ⟨b,cs,t,e1,e2,e3,e4⟩
     · exact .inl ⟨eβ.trans e1,e2,e3⟩
     · refine .inr ⟨b,cs,t,eβ.trans e1,ho2 b e2,e3,?_⟩
       cases hbx:ob'.box with
       | false=>rw[hbx]at e4;exact e4
       | true=>rw[hbx]at e4;exact aWk _ _ _ _ (fun p _ m' _=>hkeep m') (fun _ _=>rfl) e4
 · simp only[Env.app,aTm,aTi,aI]at hm
   show(if _ then _ else _)=_
   by_cases hml:m=l
   · rw[aTd hml]
   · rw[aTc hml];rw[aTc (fun e=>hml e.symm)]at hm;exact h.gone m hm
 · have hb':(if b∈B/\dp=true then Own.slot d else if ow b=.lab l\/ow b=.obj l then .none else ow b)≠.none:=hb
   by_cases hc:b∈B/\dp=true
   · obtain⟨q1,q2⟩:=hbase b ((hdeep hc.2).2 b hc.1).1
     exact⟨q1,.inl q2⟩
   · rw[aTc hc]at hb'
     by_cases hc2:ow b=.lab l\/ow b=.obj l
     · rw[aTd hc2]at hb';simp at hb'
     · rw[aTc hc2]at hb'
       obtain⟨g1,g2⟩:=h.own b hb'
       refine⟨g1,g2.imp id fun⟨m,g3,g4⟩=>⟨m,?_,g4⟩⟩
       show(if _ then _ else if _ then _ else _)=_
       rw[aTc hc,aTc hc2];exact g3
 · simp only[Env.app,aTm,aTi,aI]at hs
   have hml:m≠l:=by rintro rfl;rw[hio]at hm;cases hm
   rw[aTc (fun e=>hml e.symm)]at hs
   show(if _ then _ else _)=_
   rw[aTc hml];exact h.ios m b hm hs
 · have hm':(if m=l then none else β m)=some (some b):=hm
   by_cases hml:m=l
   · rw[aTd hml]at hm';cases hm'
   · rw[aTc hml]at hm';exact h.fresh m b hm' hi
theorem aC2 {a:Act}{k:Nat}:a.put (some k) (a.tmps.getD k undef)=a:=by
 cases a with
 | mk tmps defers =>
  simp only[Act.put]
  congr 1
  apply Array.ext_getElem?
  intro j
  rw[Array.getElem?_setIfInBounds]
  by_cases hj:k=j
  · subst hj
    by_cases hlt:k<tmps.size
    · simp[hlt]
    · simp[hlt]
  · simp[hj]
theorem Ent.freeze {k l s n:Nat}{cells:List PV}{dp dp0:Bool}(hk:lkq S k=some ⟨.ref l s 0 n,dp0⟩)(ho:loq O l=some ⟨cells,dp,false⟩)(hio:Γ.io l=none)(hN:Nat.blt k N=true) :
 Ent Γ ⟨S,O⟩ ⟨(k,⟨.sl n cells,dp⟩)::S,(l,none)::O⟩:=by
 rintro a w ⟨ow,β,h⟩
 obtain⟨B,h1,_,_⟩:=h.slots k
 rw[fM hk]at h1
 simp only[RelV]at h1
 have ho':lo (Env.mk S O).o l=some ⟨cells,dp,false⟩:=by rw[<- bP];exact ho
 obtain⟨Bo,o1,o2,hob⟩:=h.objs l _ ho'
 have hkN:=(aT _ _).1 hN
 rcases hob with⟨p1,p2,p3⟩ | ⟨b,cs,t,p1,p2,p3,p4⟩
 · obtain⟨rfl,_,e⟩:=h1.2.1 p1
   simp only at p2;subst p2;subst p3
   obtain⟨ow',h'⟩:=h.toSlot ho' hio hkN (v:=.sl 0 []) (c:=a.tmps.getD k undef) (B:=[]) (dp:=dp) (by simp only[RelV];exact .inl ⟨trivial,trivial,trivial,_,_,e⟩) (by simp) (by simp) rfl
   rw[aC2]at h'
   exact⟨_,_,h'⟩
 · obtain⟨cap,cs',t',q1,q2,q3,q4⟩:=h1.2.2 b p1
   simp only[aU6]at q1
   obtain⟨ow',h'⟩:=h.toSlot ho' hio hkN (v:=.sl n cells) (c:=a.tmps.getD k undef) (B:=b::Bo) (dp:=dp) (by
    simp only[RelV];exact .inr ⟨b,0,cap,cs,t,(0,0),Bo,⟨q1,q4⟩,p3,p4,rfl⟩) (fun c hc=>by
    rcases aTf.1 hc with rfl | hc
    · exact .inr p2
    · exact .inl (o1 c hc)) (fun hx=>by
    obtain⟨e1,e2⟩:=o2 hx
    refine⟨aUe.2 ⟨fun hb=>(by have:=(e2 b hb).1;rw[p2]at this;cases this),e1⟩,fun c hc=>?_⟩
    rcases aTf.1 hc with rfl | hc
    · exact⟨.inr p2,_,_,p3⟩
    · exact⟨.inl (e2 c hc).1,(e2 c hc).2⟩) rfl
   rw[aC2]at h'
   exact⟨_,_,h'⟩
theorem aQy {x:Operand}{t n by_ l:Nat}{cells:List PV}{dp:Bool}[ht:TI P t n true by_](hx:evq S x=some (.ptr l 0))(ho:loq O l=some ⟨cells,dp,false⟩)(hn:Nat.beq cells.length n=true)(hn0:n≠0)(hnl:gD cells=true)(hio:Γ.io l=none)(hd:Nat.blt d N=true) :
 Local Γ ⟨some d,.load t x,ty,pos,af,g⟩ ⟨S,O⟩ ⟨[(d,⟨.agg cells,dp⟩)],[(l,none)]⟩ (ors x) [l] []:=by
 intro F hs hlo _
 refine bK fun a w ⟨ow,β,hsim⟩=>?_
 obtain⟨B,h1,h2⟩:=dG hsim hx hs
 simp only[RelV]at h1
 have hn:=aTN hn
 have ho':lo F.o l=some ⟨cells,dp,false⟩:=by rw[hlo l (by simp),<- bP];exact ho
 obtain⟨Bo,o1,o2,hob⟩:=hsim.objs l _ ho'
 rcases hob with⟨_,e,_⟩ | ⟨b,cs,u,e1,e2,e3,e4⟩
 · simp only at e;subst e;simp at hn;exact absurd hn.symm hn0
 · have hlen:=aWX _ _ _ _ (aT9 _) e4
   refine⟨.agg (cs.extract 0 (0+n)),w,by simp[execOp,h1.2 b e1,yO (t:=t) w e3 (show 0+n<=cs.size by simp only at hlen;omega)],?_⟩
   obtain⟨ow',h'⟩:=hsim.toSlot ho' hio ((aT _ _).1 hd) (v:=.agg cells) (c:=.agg (cs.extract 0 (0+n))) (B:=Bo) (dp:=dp) (by
    simp only[RelV];exact⟨_,rfl,by simp only at hlen;simp;omega,vZ hn e4⟩) (fun c hc=>.inl (o1 c hc)) (fun hx=>⟨(o2 hx).1,fun c hc=>⟨.inl ((o2 hx).2 c hc).1,((o2 hx).2 c hc).2⟩⟩) (by simp only[PV.labs];exact aIx hnl)
   exact⟨_,_,h'⟩
theorem Res1.ref {t l s n:Nat}{cells:List PV}{dp dp0:Bool}(h:lkq S t=some ⟨.ref l s 0 n,dp0⟩)(ho:loq O l=some ⟨cells,dp,false⟩)(hio:Γ.io l=none):Res1 Γ ⟨S,O⟩ (.tmp t) (.sl n cells) (if dp then .obj l else .none):=by
 intro ow β a w hs
 obtain⟨B,h1,_,_⟩:=hs.slots t
 rw[fM h]at h1
 simp only[RelV]at h1
 obtain⟨Bo,o1,o2,hob⟩:=hs.objs l ⟨cells,dp,false⟩ (by rw[<- bP];exact ho)
 rcases hob with⟨p1,p2,p3⟩ | ⟨b,cs,u,p1,p2,p3,p4⟩
 · obtain⟨rfl,_,e⟩:=h1.2.1 p1
   simp only at p2;subst p2
   exact⟨_,[],rfl,by simp only[RelV];exact .inl ⟨trivial,trivial,trivial,_,_,e⟩,by simp,by simp⟩
 · obtain⟨cap,cs',u',q1,_,_,q4⟩:=h1.2.2 b p1
   simp only[aU6]at q1
   refine⟨_,b::Bo,rfl,by simp only[RelV];exact .inr ⟨b,0,cap,cs,u,(0,0),Bo,⟨q1,q4⟩,p3,p4,rfl⟩,fun c hc=>?_,fun hne=>?_⟩
   · rcases aTf.1 hc with rfl | hc
     · exact⟨hs.block_lt p1,.inr (.inl (hs.fresh l _ p1 hio))⟩
     · exact⟨(o1 c hc).1,(o1 c hc).2.1⟩
   · cases dp with
     | false=>simp at hne
     | true =>
      obtain⟨e1,e2⟩:=o2 rfl
      refine⟨aUe.2 ⟨fun hb=>(by have:=(e2 b hb).1;rw[p2]at this;cases this),e1⟩,fun c hc=>?_⟩
      rcases aTf.1 hc with rfl | hc
      · exact⟨⟨_,_,p3⟩,.inl (hs.fresh l _ p1 hio),.inr ⟨l,p2,rfl⟩⟩
      · obtain⟨f1,f2⟩:=e2 c hc
        refine⟨f2,?_,.inl (by rw[f1];rfl)⟩
        rcases(hs.own c (by rw[f1];simp)).2 with h | ⟨m,h,_⟩
        · exact h
        · rw[f1]at h;cases h
theorem aFo {t n by_:Nat}[ht:TI P t n true by_](w:World){b k:Nat}{cs:Array Value}{u:TypeId}{fr:Nat×Nat}(hb:w.heap[b]?=some (.cells cs u fr))(hk:k+n<=cs.size) :
 (loadVar t ⟨b,k,none⟩).run P w=.ok (.agg (cs.extract k (k+n))) w:=by
 have:=yO (P:=P) (t:=t) w hb hk
 simpa [Instr.loadAt,Instr.sureAddr]using this
theorem Res1.cell {t ty l n by_:Nat}{cells:List PV}{dp dp0:Bool}[ht:TI P ty n true by_](h:lkq S t=some ⟨.ptr l 0,dp0⟩)(ho:loq O l=some ⟨cells,dp,false⟩)(hn:Nat.beq cells.length n=true)(hn0:n≠0):Res1 Γ ⟨S,O⟩ (.cell t ty) (.agg cells) (if dp then .obj l else .none):=by
 intro ow β a w hs
 obtain⟨B,h1,_,_⟩:=hs.slots t
 rw[fM h]at h1
 simp only[RelV]at h1
 have hn:=aTN hn
 obtain⟨Bo,o1,o2,hob⟩:=hs.objs l ⟨cells,dp,false⟩ (by rw[<- bP];exact ho)
 rcases hob with⟨_,e,_⟩ | ⟨b,cs,u,p1,p2,p3,p4⟩
 · simp only at e;subst e;simp at hn;exact absurd hn.symm hn0
 · have hlen:=aWX _ _ _ _ (aT9 _) p4
   simp only at hlen
   refine⟨.agg (cs.extract 0 (0+n)),Bo,by simp[pA,h1.2 b p1,asAddr,aFo (t:=ty) w p3 (show 0+n<=cs.size by omega)],?_,fun c hc=>⟨(o1 c hc).1,(o1 c hc).2.1⟩,fun hne=>?_⟩
   · simp only[RelV]
     exact⟨_,rfl,by simp;omega,vZ hn p4⟩
   · cases dp with
     | false=>simp at hne
     | true =>
      obtain⟨e1,e2⟩:=o2 rfl
      refine⟨e1,fun c hc=>?_⟩
      obtain⟨f1,f2⟩:=e2 c hc
      refine⟨f2,?_,.inl (by rw[f1];rfl)⟩
      rcases(hs.own c (by rw[f1];simp)).2 with h | ⟨m,h,_⟩
      · exact h
      · rw[f1]at h;cases h
inductive LeL:List PV->List PV->Prop
 | nil:LeL [] []
 | same {p:PV} {ps qs:List PV}:LeL ps qs->LeL (p::ps) (p::qs)
 | nl {ps qs:List PV}:LeL ps qs->LeL (.sc (.slice none 0 0)::ps) (.sl 0 []::qs)
theorem LeL.refl:∀ ps:List PV,LeL ps ps
 | []=>.nil
 | _::r=>.same (LeL.refl r)
theorem LeL.app {a b c e:List PV}(h1:LeL a b)(h2:LeL c e):LeL (a++c) (b++e):=by
 induction h1 with
 | nil=>exact h2
 | same _ ih=>exact .same ih
 | nl _ ih=>exact .nl ih
theorem LeL.rel {h:Array Obj}{q:Bool}{β:Nat->Option (Option Nat)}{ps qs:List PV}(hl:LeL ps qs):∀ {cs:Array Value} {i:Nat} {B:List Nat},RelL h q β ps cs i B->RelL h q β qs cs i B:=by
 induction hl with
 | nil=>exact fun H=>H
 | same _ ih =>
  intro cs i B H
  simp only[RelL]at H ⊢
  obtain⟨c,B1,B2,h1,h2,h3,h4⟩:=H
  exact⟨c,B1,B2,h1,h2,ih h3,h4⟩
 | nl _ ih =>
  intro cs i B H
  simp only[RelL]at H ⊢
  obtain⟨c,B1,B2,h1,h2,h3,h4⟩:=H
  simp only[RelV]at h2
  exact⟨c,B1,B2,h1,by simp only[RelV];exact .inl ⟨trivial,trivial,h2.2,_,_,h2.1⟩,ih h3,h4⟩
theorem Ent.cells {l:Nat}{cells cells':List PV}{dp bx:Bool}(ho:loq O l=some ⟨cells,dp,bx⟩)(hl:LeL cells cells')(hn:cells=[]->cells'=[]):Ent Γ ⟨S,O⟩ ⟨S,(l,some ⟨cells',dp,bx⟩)::O⟩:=by
 rintro a w ⟨ow,β,h⟩
 have ho':lo (Env.mk S O).o l=some ⟨cells,dp,bx⟩:=by rw[<- bP];exact ho
 refine⟨ow,β,{ size:=h.size,defers:=h.defers,kept:=h.kept,slots:=h.slots,objs:=fun m ob hm=>?_,gone:=fun m hm=>?_,own:=h.own,ios:=fun m b hm hs=>?_,fresh:=h.fresh }⟩
 · simp only[aI]at hm
   by_cases hml:l=m
   · subst hml
     rw[aTd rfl]at hm;cases hm
     obtain⟨B,o1,o2,o3⟩:=h.objs l _ ho'
     refine⟨B,o1,o2,o3.imp (fun⟨e1,e2,e3⟩=>⟨e1,hn e2,e3⟩) fun⟨b,cs,t,e1,e2,e3,e4⟩=>⟨b,cs,t,e1,e2,e3,hl.rel e4⟩⟩
   · rw[aTc hml]at hm;exact h.objs m ob hm
 · simp only[aI]at hm
   by_cases hml:l=m
   · rw[aTd hml]at hm;cases hm
   · rw[aTc hml]at hm;exact h.gone m hm
 · simp only[aI]at hs
   by_cases hml:l=m
   · subst hml;exact h.ios l b hm (by rw[ho'];rfl)
   · rw[aTc hml]at hs;exact h.ios m b hm hs
end
def aWj:=@Res1.cell
def aWn:=@LeL.same
def aWo:=@LeL.nl
def aWs:=@Ent.cells
def aWy:=@Ent.freeze
def aWB:=@LeL.nil
def aWU:=@Res1.ref
/- The engine, part O: what was handed in, read as typed data; what a law's call leaves. -/
open Go.RowKit (Below)
open Go.ChangeShapes Go.WideShapes Go.ChangeAt
class Dec (P:Program) (t:Nat) {α:outParam Type} (enc:outParam (α->List PV)) (ok:outParam (α->Prop)):Prop where
 dec:∀ {H:Type} (e:TypeId×Value->H) (w:World) (fuel:Nat) (cs:List Value) (x:DataW H×List MemPlace),DataW.trod e P w 0 (fun _=>true) true fuel t cs=some x->∃ y:α,ok y/\cs.length=(enc y).length/\∃ B,RelL w.heap true dead (enc y) cs.toArray 0 B
def aC (k:IntKind)(n:Int):List PV:=[.sc (.int k n)]
def aS3 (b:Bool):List PV:=[.sc (.bool b)]
def mC {α:Type}(enc:α->List PV)(l:List α):List PV:=[.sl l.length (l.flatMap enc)]
def okI (k:IntKind)(n:Int):Prop:=(Lit.int k n).wf=true
def okL {α:Type}(ok:α->Prop)(l:List α):Prop:=l.length<=maxLen/\∀ y∈l,ok y
section
variable {P:Program}
theorem aEe {h:Array Obj}(v:Value)(hv:v.oneCell'=true):RelL h true dead [.sc v] [v].toArray 0 []:=by
 simp only[RelL]
 exact⟨v,[],[],⟨by simp,fun _=>hv⟩,by simp[RelV],rfl,rfl⟩
theorem Dec.int {t:Nat}{k:IntKind}(ht:P.underlying t=some (.int k)):Dec P t (aC k) (okI k):=⟨fun e w fuel cs x h=>by
 obtain⟨n,rfl,_,hw⟩:=DataW.trod_int ht h
 exact⟨n,hw,rfl,[],aEe _ rfl⟩⟩
theorem Dec.bool {t:Nat}(ht:P.underlying t=some .bool):Dec P t aS3 (fun _=>True):=⟨fun e w fuel cs x h=>by
 obtain⟨b,rfl,_⟩:=DataW.trod_bool ht h
 exact⟨b,trivial,rfl,[],aEe _ rfl⟩⟩
theorem aHA {α β:Type}(f:α->Option β):∀ (l:List α) (r:List β),l.mapM f=some r->r.length=l.length/\∀ (j:Nat) (x:α),l[j]?=some x->f x=r[j]?
 | [],r,h=>by
  simp at h;subst h;simp
 | x::l,r,h=>by
  rw[List.mapM_cons]at h
  cases hx:f x with
  | none=>rw[hx]at h;simp at h
  | some y =>
   rw[hx]at h
   cases hl:l.mapM f with
   | none=>rw[hl]at h;simp at h
   | some r' =>
    rw[hl]at h
    simp at h;subst h
    obtain⟨h1,h2⟩:=aHA f l r' hl
    refine⟨by simp[h1],fun j z hz=>?_⟩
    cases j with
    | zero=>simp at hz;subst hz;simp[hx]
    | succ j=>simp at hz;simpa using h2 j z hz
theorem aGx {w:World}{a:Addr}{n:Nat}{l:List Value}(h:w.cells? 0 a n=some l):l.length=n/\∀ j,j<n->w.cell? (a.add j)=l[j]?:=by
 unfold World.cells? at h
 rw[aTd (aT9 _)]at h
 obtain⟨h1,h2⟩:=aHA _ _ _ h
 exact⟨by simpa using h1,fun j hj=>h2 j j (by simp[hj])⟩
theorem aLe {w:World}{a:Addr}{v:Value}(h:w.cell? a=some v):a.spot=none/\∃ cs t f,w.heap[a.block]?=some (.cells cs t f)/\cs[a.off]?=some v:=by
 unfold World.cell? at h
 split at h
 · rename_i c t f hc
   cases hs:a.spot with
   | none=>rw[hs]at h;simp at h;exact⟨rfl,c,t,f,hc,h⟩
   | some s=>rw[hs]at h;simp at h
 · cases h
theorem Dec.slice {t e:Nat}{α:Type}{enc:α->List PV}{ok:α->Prop}(ht:P.underlying t=some (.slice e))[hd:Dec P e enc ok](sz:Nat)(hc:P.cellsOf e=sz)(h0:sz≠0)(hsz:∀ y,(enc y).length=sz):Dec P t (mC enc) (okL ok):=⟨fun {H} en w fuel cs x h=>by
 rcases DataW.trod_slice ht h with⟨rfl,_⟩ | ⟨a,len,cap,elems,rest,n,_,rfl,_,_,hl,hm,hlen,hel,_,_⟩
 · exact⟨[],⟨by simp[maxLen],by simp⟩,rfl,[],by
    simp only[mC,RelL]
    exact⟨.slice none 0 0,[],[],⟨by simp,fun _=>rfl⟩,by simp only[RelV];exact .inl ⟨by simp,by simp,by simp,_,_,rfl⟩,rfl,rfl⟩⟩
 · rcases Nat.eq_zero_or_pos len with rfl | hpos
   · exact⟨[],⟨by simp[maxLen],by simp⟩,rfl,[],by
      simp only[mC,RelL]
      exact⟨.slice (some a) 0 cap,[],[],⟨by simp,fun _=>rfl⟩,by simp only[RelV];exact .inl ⟨by simp,by simp,by simp,_,_,rfl⟩,rfl,rfl⟩⟩
   · rw[hc]at hel
     have each:∀ i,i<len->∃ y:α,ok y/\∃ sub:List Value,w.cells? 0 (a.add (i*sz)) sz=some sub/\sub.length=(enc y).length/\∃ B,RelL w.heap true dead (enc y) sub.toArray 0 B:=by
      intro i hi
      have h1:=hel i hi
      rw[aTl (by omega)]at h1
      obtain⟨sub,h2,h3⟩:=Option.bind_eq_some_iff.1 h1
      obtain⟨y,g1,g2,g3⟩:=hd.dec en w n sub _ h3
      exact⟨y,g1,sub,h2,g2,g3⟩
     obtain⟨y0,_,sub0,q1,q2,_⟩:=each 0 hpos
     obtain⟨q3,q4⟩:=aGx q1
     have q5:=q4 0 (by omega)
     rw[aTl (by omega)]at q5
     obtain⟨hsp,row,ut,fr,hrow,_⟩:=aLe q5
     have ha:a.spot=none/\((a.add (0*sz)).add 0).block=a.block:=by
      cases hs:a.spot with
      | none=>refine⟨rfl,?_⟩;unfold Addr.add;simp[hs]
      | some s =>
       exfalso
       have:((a.add (0*sz)).add 0).spot.isSome=true:=by
        unfold Addr.add;simp[hs]
       rw[hsp]at this;cases this
     obtain⟨bl,off,sp⟩:=a
     obtain⟨ha1,hbl⟩:=ha
     simp only at ha1;subst ha1
     rw[hbl]at hrow
     have cellAt:∀ k,w.cell? ⟨bl,k,none⟩=row[k]?:=fun k=>cell_of_row w bl k row ut fr hrow
     have build:∀ m,m<=len->∃ l:List α,l.length=m/\(∀ y∈l,ok y)/\∃ B,RelL w.heap true dead (l.flatMap enc) row off B:=by
      intro m
      induction m with
      | zero=>intro _;exact⟨[],rfl,by simp,[],by simp[RelL]⟩
      | succ m ih =>
       intro hm'
       obtain⟨l,l1,l2,B,l3⟩:=ih (by omega)
       obtain⟨y,y1,sub,y2,y3,B2,y4⟩:=each m (by omega)
       obtain⟨s1,s2⟩:=aGx y2
       refine⟨l++[y],by simp[l1],?_,B++B2,?_⟩
       · intro z hz
         rcases aTj.1 hz with hz | hz
         · exact l2 z hz
         · simp at hz;subst hz;exact y1
       · rw[aUX]
         refine(aWA _ _ _ _ _).2 ⟨B,B2,l3,?_,rfl⟩
         rw[aS hsz,l1]
         simp only[aTO,aUM,aUf]
         refine aWJ _ _ _ _ _ _ (fun j hj=>?_) y4
         have:=s2 j (by omega)
         rw[Addr.add_lit,Addr.add_lit,cellAt]at this
         rw[aTC,this];simp
     obtain⟨l,l1,l2,B,l3⟩:=build len (aTn _)
     refine⟨l,⟨by omega,l2⟩,rfl,bl::B,?_⟩
     simp only[mC,RelL]
     refine⟨.slice (some ⟨bl,off,none⟩) len cap,bl::B,[],⟨by simp,fun _=>rfl⟩,?_,rfl,by simp⟩
     simp only[RelV]
     exact .inr ⟨bl,off,cap,row,ut,fr,B,⟨by rw[l1],by rw[l1];exact hl⟩,hrow,l3,rfl⟩⟩
structure DecF (P:Program)(fs:List Field)(off:Nat){α:Type}(enc:α->List PV)(ok:α->Prop):Prop where
 dec:∀ {H:Type} (e:TypeId×Value->H) (w:World) (fuel:Nat) (cs:List Value) (xs:List (DataW H×List MemPlace)),fs.mapM (fun f=>DataW.trod e P w 0 (fun _=>true) true fuel f.type ((cs.drop f.offset).take (P.cellsOf f.type)))=some xs->∃ y:α,ok y/\∃ B,RelL w.heap true dead (enc y) cs.toArray off B
theorem DecF.nil {off:Nat}:DecF P [] off (fun _:Unit=>[]) (fun _=>True):=⟨fun _ _ _ _ _ _=>⟨(),trivial,[],by simp[RelL]⟩⟩
theorem DecF.cons {f:Field}{fs:List Field}{off n:Nat}{α β:Type}{e1:α->List PV}{ok1:α->Prop}{e2:β->List PV}{ok2:β->Prop}(hf:f.offset=off)[hd:Dec P f.type e1 ok1](hc:P.cellsOf f.type=n)(hn:∀ y,(e1 y).length=n)(h2:DecF P fs (off+n) e2 ok2) :
 DecF P (f::fs) off (fun y:α×β=>e1 y.1++e2 y.2) (fun y=>ok1 y.1/\ok2 y.2):=⟨fun {H} e w fuel cs xs h=>by
 rw[List.mapM_cons]at h
 cases hx:DataW.trod e P w 0 (fun _=>true) true fuel f.type ((cs.drop f.offset).take (P.cellsOf f.type))with
 | none=>rw[hx]at h;simp at h
 | some x =>
  rw[hx]at h
  cases hl:fs.mapM (fun f=>DataW.trod e P w 0 (fun _=>true) true fuel f.type ((cs.drop f.offset).take (P.cellsOf f.type)))with
  | none=>rw[hl]at h;simp at h
  | some r =>
   obtain⟨y1,o1,l1,B1,r1⟩:=hd.dec e w fuel _ _ hx
   obtain⟨y2,o2,B2,r2⟩:=h2.dec e w fuel cs r hl
   refine⟨(y1,y2),⟨o1,o2⟩,B1++B2,(aWA _ _ _ _ _).2 ⟨B1,B2,aWJ _ _ _ _ _ _ (fun j hj=>?_) r1,by rw[hn];exact r2,rfl⟩⟩
   rw[aTC,aUD,aUD,aUp,aTd (by rw[hn]at hj;rw[hc];exact hj),aUg,hf]⟩
theorem Dec.struct {t:Nat}{fs:Array Field}{α β:Type}{enc:α->List PV}{ok:α->Prop}{enc':β->List PV}{ok':β->Prop}(ht:P.underlying t=some (.struct fs)){n:Nat}(hc:P.cellsOf t=n)(h:DecF P fs.toList 0 enc ok)(g:α->β)(hg:∀ y,enc' (g y)=enc y)(ho:∀ y,ok y->ok' (g y))(hn:∀ y,(enc' y).length=n):Dec P t enc' ok':=⟨fun {H} e w fuel cs x hx=>by
 cases fuel with
 | zero=>simp[DataW.trod]at hx
 | succ fuel =>
  have h1:(if cs.length=P.cellsOf t then(fs.toList.mapM fun f=>DataW.trod e P w 0 (fun _=>true) true fuel f.type ((cs.drop f.offset).take (P.cellsOf f.type))).map fun xs=>((DataW.agg (xs.map (·.1)):DataW H),xs.flatMap (·.2))else none)=some x:=by
   rw[<- hx]
   simp only[DataW.trod,ht]
  by_cases hl:cs.length=P.cellsOf t
  · rw[aTd hl]at h1
    cases hm:(fs.toList.mapM fun f=>DataW.trod e P w 0 (fun _=>true) true fuel f.type ((cs.drop f.offset).take (P.cellsOf f.type)))with
    | none=>rw[hm]at h1;simp at h1
    | some xs =>
     obtain⟨y,o,B,r⟩:=h.dec e w fuel cs xs hm
     exact⟨g y,ho y o,by rw[hn,hl,hc],B,by rw[hg];exact r⟩
  · rw[aTc hl]at h1;cases h1⟩
theorem aO2 {H:Type}{t:Nat}{α:Type}{enc:α->List PV}{ok:α->Prop}[hd:Dec P t enc ok]{e:TypeId×Value->H}{w:World}{b0:Nat}{v:Value}{d:DataW H}{ps:List MemPlace}{r:Reach}{dd:TypeDesc}(hu:P.underlying t=some dd)(hnag:(match dd with | .struct _ | .array _ _=>true | _=>false)=false)(hv:Value.okWide P w r b0 t v)(h:DataW.Trod e P w 0 (fun _=>true) true t v d ps)(h1:∀ y,(enc y).length=1) :
 ∃ y:α,ok y/\∀ p,enc y=[p]->∃ B,RelV w.heap dead p v B:=by
 obtain⟨fuel,hf⟩:=h
 have hc:v.cells.toList=[v]:=by
  have hw:Cell.okWide P w r b0 t v:=by
   unfold Value.okWide at hv
   rw[hu]at hv
   cases dd <;> simp_all
  cases v <;> first | rfl | (exfalso;unfold Cell.okWide at hw;rw[hu]at hw;cases dd <;> simp_all [Cell.ok])
 rw[hc]at hf
 obtain⟨y,o,_,B,rl⟩:=hd.dec e w fuel _ _ hf
 refine⟨y,o,fun p hp=>?_⟩
 rw[hp]at rl
 simp only[RelL]at rl
 obtain⟨c,B1,B2,g1,g2,_⟩:=rl
 simp at g1
 rw[<- g1.1]at g2
 exact⟨B1,g2⟩
theorem aCf {H:Type}{enc:TypeId×Value->H}(hl:laidOutB P=true){W W':World}(hb:Below W.heap.size W W'):∀ {ts:List TypeId} {vs:List Value} {ds:List (DataW H)} {ps:List MemPlace},ts.all (fun t=>P.readableRec t&&decide (t<P.types.size))=true->(∀ x∈ps,x.block<W.heap.size)->
 DataW.TrodAll enc P W 0 (fun _=>true) true ts vs ds ps->DataW.TrodAll enc P W' 0 (fun b=>decide (b<W.heap.size)) true ts vs ds ps
 | [],vs,ds,ps,_,_,h=>by
  obtain⟨rfl,rfl,rfl⟩:=trodAll_nil h;exact trodAll_mk0
 | t::ts,vs,ds,ps,ht,hlt,h=>by
  obtain⟨v,vs1,d,ds1,p,q,rfl,rfl,rfl,h1,h2⟩:=trodAll_cons h
  simp only[List.all_cons,aTB,aUs]at ht
  exact⟨p,q,Below.trod hl ht.1.1 ht.1.2 h1 hb (fun x hx=>hlt x (by simp[hx])),aCf hl hb ht.2 (fun x hx=>hlt x (by simp[hx])) h2,rfl⟩
theorem aKG {H:Type}{enc:TypeId×Value->H}{f:Func}{s:ChangeSpec}{W W':World}{args:Array Value}{ds gs:List (DataW H)}{before:List MemPlace}{T:TypeId}
 (hW:DataW.Whole enc P f.params.toList s.vars false W args.toList ds gs before) (hb:Below W.heap.size W W') (hl:laidOutB P=true) (hread:f.params.toList.all (fun t=>P.readableRec t&&decide (t<P.types.size))=true)
 (hres:f.resultTypes=#[T]) (hT:P.underlying T=some .bool) (hv:s.vars=[]) (hs:(s.fn H (ds++[])).results=[.lit (.bool true)]/\(s.fn H (ds++[])).args=ds/\(s.fn H (ds++[])).vars=[]) :
 s.post enc P f false true false false W args (.bool true) W':=by
 have hW0:=hW
 have hlt:=hW.lt
 obtain⟨p,q,h1,h2,rfl,_,_⟩:=hW
 rw[hv]at h2
 obtain⟨rfl,rfl⟩:=trodVars_none h2
 refine⟨ds,[],p++[],[],p,[],hW0,?_,?_,?_,hb.frame _,fun h=>by cases h⟩
 · rw[hs.1,hres]
   exact trodAll_mk1 ⟨1,by simp[DataW.trod,Value.cells,hT]⟩
 · rw[hs.2.1]
   exact aCf hl hb hread (fun x hx=>hlt x (by simp[hx])) h1
 · rw[hs.2.2,hv];rfl
end
/- The engine, part P: ends of walks, in short. -/
open Go.RowKit (Below)
section
variable {P:Program}{N:Nat}{Γ:Ctx P N}{S:List (Nat×Slot)}{O:List (Nat×Option Ob)}
theorem RetIs.c1 {t ty l n by_:Nat}{cells:List PV}{dp dp0 deep:Bool}[ht:TI P ty n true by_](h:lkq S t=some ⟨.ptr l 0,dp0⟩)(ho:loq O l=some ⟨cells,dp,false⟩)(hd:dp=true)(hn:Nat.beq cells.length n=true)(hn0:n≠0):RetIs Γ #[.cell t ty] ⟨S,O⟩ (.agg cells) deep:=by
 subst hd
 exact aWM (aWj h ho hn hn0) (fun _=>by simp)
theorem RetIs.c0 {t ty l n by_:Nat}{cells:List PV}{dp dp0:Bool}[ht:TI P ty n true by_](h:lkq S t=some ⟨.ptr l 0,dp0⟩)(ho:loq O l=some ⟨cells,dp,false⟩)(hn:Nat.beq cells.length n=true)(hn0:n≠0):RetIs Γ #[.cell t ty] ⟨S,O⟩ (.agg cells) false :=
 aWM (aWj h ho hn hn0) (fun h=>by cases h)
theorem RetIs.r1 {t l s n:Nat}{cells:List PV}{dp dp0 deep:Bool}(h:lkq S t=some ⟨.ref l s 0 n,dp0⟩)(ho:loq O l=some ⟨cells,dp,false⟩)(hd:dp=true)(hio:Γ.io l=none):RetIs Γ #[.tmp t] ⟨S,O⟩ (.sl n cells) deep:=by
 subst hd
 exact aWM (aWU h ho hio) (fun _=>by simp)
end
theorem aM3 {α:Type}{enc:α->List PV}{l:List α}{y:α}:l.flatMap enc++enc y=(l++[y]).flatMap enc/\l.length+1=(l++[y]).length:=by simp
theorem aOT {α:Type}{enc:α->List PV}{l r:List α}:l.flatMap enc++r.flatMap enc=(l++r).flatMap enc/\l.length+r.length=(l++r).length:=by simp
def aWE:=@RetIs.c1
/- The engine, part R: bytes and strings. -/
open Go.RowKit (Below)
section
variable {P:Program}{N:Nat}{Γ:Ctx P N}{S:List (Nat×Slot)}{O:List (Nat×Option Ob)}
variable {d:Nat}{ty:TypeId}{pos:String}{af:Array Edge}{g:Option (Nat×Bool)}
end
/- The engine, part S: what a lifted function is made of; loops and cuts that go by it. -/
open Go.RowKit (Below)
def idx {α:Type}(l:List α)(j:Int):Option α:=if 0<=j then l[j.toNat]? else none
def sub {α:Type}(l:List α)(a b:Int):Option (List α):=if 0<=a/\a<=b/\b<=l.length then some ((l.drop a.toNat).take (b-a).toNat)else none
def iB {α:Type}(l:List α)(j:Int)(y:α):List α:=l.set j.toNat y
def chk (p:Prop)[Decidable p]:Option Unit:=if p then some ()else none
section lift
variable {α β:Type}
theorem aB {o:Option α}{K:α->Option β}{r:β}(H:o.bind K=some r):∃ x,o=some x/\K x=some r:=by
 cases o with
 | none=>cases H
 | some x=>exact⟨x,rfl,H⟩
theorem ifT {c:Prop}{_:Decidable c}{a b:Option α}{r:α}(h:c)(H:(if c then a else b)=some r):a=some r:=by rw[aTd h]at H;exact H
theorem ifF {c:Prop}{_:Decidable c}{a b:Option α}{r:α}(h:¬c)(H:(if c then a else b)=some r):b=some r:=by rw[aTc h]at H;exact H
theorem aQb {c:Bool}{a b:Option α}{r:α}(h:c=true)(H:(if c=true then a else b)=some r):a=some r:=by rw[aTd h]at H;exact H
theorem aQc {c:Bool}{a b:Option α}{r:α}(h:c=false)(H:(if c=true then a else b)=some r):b=some r:=by rw[h]at H;exact H
theorem aD0 {l:List α}{j:Int}{y:α}(h:idx l j=some y):0<=j/\l[j.toNat]?=some y/\j.toNat<l.length:=by
 unfold idx at h
 by_cases hj:0<=j
 · rw[aTd hj]at h;exact⟨hj,h,(aTH.1 h).1⟩
 · rw[aTc hj]at h;cases h
theorem bI {p:Prop}{_:Decidable p}{u:Unit}(h:chk p=some u):p:=by
 unfold chk at h
 by_cases hp:p
 · exact hp
 · rw[aTc hp]at h;cases h
section loops
variable {σ ρ:Type}
inductive Reach (step:σ->Option (σ ⊕ ρ)):σ->ρ->Nat->Prop
 | done {s:σ} {r:ρ}:step s=some (.inr r)->Reach step s r 0
 | more {s s':σ} {r:ρ} {n:Nat}:step s=some (.inl s')->Reach step s' r n->Reach step s r (n+1)
theorem Reach.det {step:σ->Option (σ ⊕ ρ)}{s:σ}{r r':ρ}{n n':Nat}(h:Reach step s r n)(h':Reach step s r' n'):r=r':=by
 induction h generalizing n' with
 | done e=>cases h' with
  | done e'=>rw[e]at e';cases e';rfl
  | more e' _=>rw[e]at e';cases e'
 | more e _ ih=>cases h' with
  | done e'=>rw[e]at e';cases e'
  | more e' g=>rw[e]at e';cases e';exact ih g
open Classical in
noncomputable def lp (step:σ->Option (σ ⊕ ρ))(s:σ):Option ρ:=if h:∃ r n,Reach step s r n then some h.choose else none
theorem aBX {step:σ->Option (σ ⊕ ρ)}{s:σ}{r:ρ}:lp step s=some r↔∃ n,Reach step s r n:=by
 unfold lp
 constructor
 · intro h
   split at h
   · rename_i hx;cases h;exact hx.choose_spec
   · cases h
 · rintro⟨n,h⟩
   rw[aVk ⟨r,n,h⟩]
   have hx:∃ r n,Reach step s r n:=⟨r,n,h⟩
   obtain⟨m,hm⟩:=hx.choose_spec
   exact congrArg some (hm.det h)
theorem aK {step:σ->Option (σ ⊕ ρ)}{s:σ}{r:ρ}(h:step s=some (.inr r)):lp step s=some r:=aBX.2 ⟨0,.done h⟩
theorem aQ {step:σ->Option (σ ⊕ ρ)}{s s':σ}(h:step s=some (.inl s')):lp step s=lp step s':=by
 apply Option.ext
 intro r
 rw[aBX,aBX]
 constructor
 · rintro⟨n,hn⟩
   cases hn with
   | done e=>rw[h]at e;cases e
   | more e g=>rw[h]at e;cases e;exact⟨_,g⟩
 · rintro⟨n,hn⟩;exact⟨n+1,.more h hn⟩
end loops
end lift
section
variable {P:Program}{N:Nat}{Γ:Ctx P N}{E:Env}{Q:Exit->Env->Prop}
def uC {σ ρ:Type}(Γ:Ctx P N)(Es:σ->Env)(Xe:ρ->Exit->Env->Prop)(o:σ ⊕ ρ):Exit->Env->Prop
 | .normal,E=>∃ s',o=.inl s'/\Ent Γ E (Es s')
 | e,E=>∃ x,o=.inr x/\Xe x e E
theorem CodeT.lloop {σ ρ:Type}{step:σ->Option (σ ⊕ ρ)}{s0:σ}{x:ρ}{c:Code}(Es:σ->Env)(Xe:ρ->Exit->Env->Prop)(hx:lp step s0=some x)(he:Ent Γ E (Es s0))
 (hr:∀ s o,step s=some o->CodeT Γ c (Es s) (uC Γ Es Xe o)) (hq:∀ e E',Xe x e E'->Q e E'):CodeT Γ (.loop c) E Q:=by
 obtain⟨n,hn⟩:=aBX.1 hx
 refine CodeT.loop (fun m E=>∃ s,E=Es s/\Reach step s x m) n (Es s0) he ⟨s0,rfl,hn⟩ ?_
 rintro m E' ⟨s,rfl,hs⟩
 cases hs with
 | done e =>
  refine(hr s _ e).mono fun ex E' h=>?_
  cases ex with
  | normal=>obtain⟨s',h1,_⟩:=h;cases h1
  | exit i=>obtain⟨y,h1,h2⟩:=h;cases h1;exact hq _ _ h2
  | goto i=>obtain⟨y,h1,h2⟩:=h;cases h1;exact hq _ _ h2
  | ret=>obtain⟨y,h1,h2⟩:=h;cases h1;exact hq _ _ h2
  | panic i=>obtain⟨y,h1,h2⟩:=h;cases h1;exact hq _ _ h2
  | outgrown=>obtain⟨y,h1,h2⟩:=h;cases h1;exact hq _ _ h2
 | @more _ s' _ k e g =>
  refine(hr s _ e).mono fun ex E' h=>?_
  cases ex with
  | normal =>
   obtain⟨s2,h1,h2⟩:=h;cases h1
   exact⟨k,Es s',by omega,h2,s',rfl,g⟩
  | exit i=>obtain⟨y,h1,h2⟩:=h;cases h1
  | goto i=>obtain⟨y,h1,h2⟩:=h;cases h1
  | ret=>obtain⟨y,h1,h2⟩:=h;cases h1
  | panic i=>obtain⟨y,h1,h2⟩:=h;cases h1
  | outgrown=>obtain⟨y,h1,h2⟩:=h;cases h1
def aG2 {ρ:Type}(Xe:ρ->Exit->Env->Prop)(x:ρ):Exit->Env->Prop:=fun e E=>Xe x e E
theorem CodeT.lcut {ρ:Type}{x:ρ}{c:Code}(Xe:ρ->Exit->Env->Prop)(hc:CodeT Γ c E (aG2 Xe x))(hq:∀ e E',Xe x e E'->Q e E'):CodeT Γ c E Q:=hc.mono hq
section
variable {σ ρ:Type}{Es:σ->Env}{Xe:ρ->Exit->Env->Prop}{s':σ}{x:ρ}{i:Nat}
theorem y1 (h:Ent Γ E (Es s')):uC Γ Es Xe (.inl s') .normal E:=⟨s',rfl,h⟩
theorem y2 (h:Xe x .ret E):uC Γ Es Xe (.inr x) .ret E:=⟨x,rfl,h⟩
theorem y3 (h:Xe x (.exit i) E):uC Γ Es Xe (.inr x) (.exit i) E:=⟨x,rfl,h⟩
theorem y4 {e:Exit}(h:Xe x e E):aG2 Xe x e E:=h
end
def XEnv (Γ:Ctx P N)(e0:Exit)(E0:Env)(e:Exit)(E:Env):Prop:=e=e0/\Ent Γ E E0
def XRet (Γ:Ctx P N)(rs:Array ResultVar)(r:PV)(deep:Bool)(e:Exit)(E:Env):Prop:=e=.ret/\RetIs Γ rs E r deep
theorem XEnv.out {e0 e:Exit}{E0 E:Env}(h:XEnv Γ e0 E0 e E):e=e0/\Ent Γ E E0:=h
theorem XRet.out {rs:Array ResultVar}{r:PV}{deep:Bool}{e:Exit}{E:Env}(h:XRet Γ rs r deep e E):e=.ret/\RetIs Γ rs E r deep:=h
theorem XEnv.mk {e:Exit}{E0:Env}(h:Ent Γ E E0):XEnv Γ e E0 e E:=⟨rfl,h⟩
theorem XRet.mk {rs:Array ResultVar}{r:PV}{deep:Bool}(h:RetIs Γ rs E r deep):XRet Γ rs r deep .ret E:=⟨rfl,h⟩
end
def aWF:=@CodeT.lloop
def aWI:=@XEnv.out
/- The engine, part T: more operations: parts of slices and strings, components, literals of several elements; elements by a lifted index. -/
open Go.RowKit (Below)
section
variable {P:Program}{N:Nat}{Γ:Ctx P N}{S:List (Nat×Slot)}{O:List (Nat×Option Ob)}
variable {d:Nat}{ty:TypeId}{pos:String}{af:Array Edge}{g:Option (Nat×Bool)}
def aIu:Option Operand->List Nat
 | some x=>ors x
 | none=>[]
def vM (S:List (Nat×Slot))(dflt:Int):Option Operand->Option Int
 | none=>some dflt
 | some x=>match evq S x with
  | some (.sc (.int _ j))=>some j
  | _=>none
theorem aJ8 {F:Env}{a:Act}{w:World}(h:Sim Γ F a w){df j:Int}{x:Option Operand}(hb:vM S df x=some j)(ha:∀ k∈aIu x,lk F.s k=lk S k) :
 (x=none/\j=df)\/∃ y k,x=some y/\a.eval y=.int k j:=by
 cases x with
 | none=>simp only[vM]at hb;cases hb;exact .inl ⟨rfl,rfl⟩
 | some y =>
  simp only[vM]at hb
  split at hb
  · rename_i k j' hv;cases hb
    exact .inr ⟨y,k,rfl,zD h hv ha⟩
  · cases hb
theorem tN (w:World)(k:IntKind)(i:Int)(y:Nat)(code:BoundsCode)(h:0<=i/\i<=y):(Instr.sliceBound (.int k i) y code).run P w=.ok i.toNat w:=by
 simp[Instr.sliceBound,asIntOf,h.1,h.2]
theorem aFp {F:Env}{a:Act}{w:World}(h:Sim Γ F a w)(isS:Bool)(len cap:Nat)(hc:len<=cap){lo hi:Option Operand}{i j:Int}(hlo:vM S 0 lo=some i)(hhi:vM S len hi=some j)(h1:∀ k∈aIu lo,lk F.s k=lk S k)(h2:∀ k∈aIu hi,lk F.s k=lk S k)
 (hb:0<=i/\i<=j/\j<=len):(Instr.sliceBounds isS len cap (lo.map a.eval) (hi.map a.eval) none).run P w=.ok (i.toNat,j.toNat,cap) w:=by
 rcases aJ8 h hlo h1 with⟨rfl,rfl⟩ | ⟨y,k,rfl,e1⟩ <;> rcases aJ8 h hhi h2 with⟨rfl,rfl⟩ | ⟨z,k',rfl,e2⟩
 · simp[Instr.sliceBounds]
 · simp[Instr.sliceBounds,e2]
   rw[tN w _ _ _ _ ⟨by omega,by omega⟩];simp
 · simp[Instr.sliceBounds,e1]
   rw[tN w _ _ _ _ ⟨by omega,by omega⟩];simp
 · simp[Instr.sliceBounds,e1,e2]
   rw[tN w _ _ _ _ ⟨by omega,by omega⟩]
   simp only[Result.andThen_ok]
   rw[tN w _ _ _ _ ⟨by omega,by omega⟩]
   simp
theorem aSk {α:Type}{l r:List α}{i j:Int}(h:sub l i j=some r):(0<=i/\i<=j/\j<=l.length)/\r=(l.drop i.toNat).take (j-i).toNat:=by
 unfold sub at h
 by_cases hc:0<=i/\i<=j/\j<=l.length
 · rw[aTd hc]at h;cases h;exact⟨hc,rfl⟩
 · rw[aTc hc]at h;cases h
theorem aFn {e n by_:Nat}{agg:Bool}[hi:TI P e n agg by_](w:World):(sizeOf e).run P w=.ok n w:=by
 obtain⟨⟨i,h1,h2,_⟩,_⟩:=hi.ok
 simp[sizeOf,typeInfo,h1,h2]
theorem aSI {α:Type}{x:Operand}{lo hi:Option Operand}{t e n by_:Nat}{agg:Bool}{l r:List α}{enc:α->List PV}{i j:Int}{len:Nat}[ht:SlT P t e][hi':TI P e n agg by_](hx:evq S x=some (.sl len (l.flatMap enc)))(hlen:len=l.length)
 (hlo:vM S 0 lo=some i) (hhi:vM S len hi=some j) (h:sub l i j=some r) (hsz:∀ y,(enc y).length=n) (hd:Nat.blt d N=true) :
 Local Γ ⟨some d,.slice t x lo hi none,ty,pos,af,g⟩ ⟨S,O⟩ ⟨[(d,⟨.sl r.length (r.flatMap enc),false⟩)],[]⟩ (ors x++(aIu lo++aIu hi)) [] []:=by
 intro F hs _ _
 refine bK fun a w hsim=>?_
 obtain⟨hb,hr⟩:=aSk h
 subst hlen
 have hbd:=fun isS cap hc=>aFp hsim isS l.length cap hc hlo hhi (fun k hk=>hs k (by simp[hk])) (fun k hk=>hs k (by simp[hk])) hb
 obtain⟨ow,β,hsim⟩:=hsim
 obtain⟨B,h1,h2⟩:=dG hsim hx (fun k hk=>hs k (by simp[hk]))
 simp only[RelV]at h1
 have hrl:r.length=(j-i).toNat:=by rw[hr];simp;omega
 have run:∀ (ad:Option Addr) (cap:Nat),a.eval x=.slice ad l.length cap->l.length<=cap->(Instr.sliceAt t (a.eval x) (lo.map a.eval) (hi.map a.eval) none).run P w=.ok (.slice (if cap=i.toNat then ad else ad.map (·.add (i.toNat*n))) (j.toNat-i.toNat) (cap-i.toNat)) w:=by
  intro ad cap e1 hc
  rw[e1]
  simp[Instr.sliceAt,Instr.slice,run_underlying ht.ok,hbd true cap hc,aFn (e:=e) (n:=n)]
 rcases h1 with⟨e0,_,_,ad,cap,e1⟩ | ⟨b,off,cap,cs,u,f,B',⟨e1,hc⟩,e2,e3,rfl⟩
 · rw[<- e0]at e1
   refine⟨_,w,by simp[execOp,run ad cap e1 (by omega)];rfl,ow,β,hsim.put ((aT _ _).1 hd) (O:=[]) ?_ (by simp)⟩
   have hr0:r=[]:=by rw[hr,aTq.1 e0];simp
   subst hr0
   simp only[RelV]
   exact .inl ⟨rfl,rfl,trivial,_,_,by rw[show j.toNat-i.toNat=0 by omega]⟩
 · refine⟨_,w,by simp[execOp,run _ cap e1 hc];rfl,ow,β,?_⟩
   by_cases h0:i=j
   · refine hsim.put ((aT _ _).1 hd) (O:=[]) ?_ (by simp)
     have hr0:r=[]:=by rw[hr,h0];simp
     subst hr0
     simp only[RelV]
     exact .inl ⟨rfl,rfl,trivial,_,_,by rw[show j.toNat-i.toNat=0 by omega]⟩
   · have hne:cap≠i.toNat:=by omega
     rw[aTc hne]
     obtain⟨B2,g1,B1,g2⟩:=e3.drop (i.toNat*n) (by rw[aS hsz];exact aUj _ (by omega))
     obtain⟨B3,g3,B4,g4⟩:=g1.take (r.length*n)
     have hcells:((l.flatMap enc).drop (i.toNat*n)).take (r.length*n)=r.flatMap enc:=by
      have e1:l=l.take i.toNat++r++l.drop (i.toNat+r.length):=by
       rw[hr]
       rw[show i.toNat+((l.drop i.toNat).take (j-i).toNat).length=i.toNat+(j-i).toNat by simp;omega]
       rw[aTx,<- List.drop_drop,aT6,aT6]
      have e2:(l.take i.toNat).length=i.toNat:=by simp;omega
      conv=>lhs;rw[e1]
      rw[aUX,aUX,aTx,List.drop_append,aTE (by rw[aS hsz,e2];exact aTn _),aS hsz,e2,aUV,aTi,aTZ,List.take_append,aT1 (by rw[aS hsz];exact aTn _),aS hsz,aUV,aVw,aUf]
     rw[hcells]at g3
     refine hsim.put ((aT _ _).1 hd) (O:=b::B3) ?_ (fun c hc=>h2 c ?_)
     · simp only[RelV]
       exact .inr ⟨b,off+i.toNat*n,cap-i.toNat,cs,u,f,B3,⟨by rw[hrl,show j.toNat-i.toNat=(j-i).toNat by omega];simp[Addr.add_lit],by rw[hrl];omega⟩,e2,g3,rfl⟩
     · rcases aTf.1 hc with rfl | hc
       · simp
       · rw[g2,g4];simp[hc]
theorem aR7 {α:Type}{x i:Operand}{t e n by_:Nat}{agg:Bool}{l:List α}{enc:α->List PV}{y:α}{k:IntKind}{j:Int}{len:Nat}[ht:SlT P t e][hi:TI P e n agg by_](hx:evq S x=some (.sl len (l.flatMap enc)))(hix:evq S i=some (.sc (.int k j)))(hlen:len=l.length)
 (hl:idx l j=some y) (hsz:∀ y,(enc y).length=n) (hd:Nat.blt d N=true) :
 Local Γ ⟨some d,.indexAddr t x i,ty,pos,af,g⟩ ⟨S,O⟩ ⟨[(d,⟨.iptr (enc y),false⟩)],[]⟩ (ors x++ors i) [] [] :=
 aSO (m:=j.toNat) hx hix (by have:=(aD0 hl).1;omega) hlen (aD0 hl).2.1 hsz hd
theorem aR8 {α:Type}{x i:Operand}{t e sz n by_ r:Nat}{agg:Bool}{l:List α}{y:α}{k:IntKind}{j:Int}{ob:Ob}[ht:SlT P t e][hi:TI P e sz agg by_](hx:evq S x=some (.ref r sz 0 n))(ho:loq O r=some ob)(hix:evq S i=some (.sc (.int k j)))(hl:idx l j=some y)(hn:n=l.length)(hd:Nat.blt d N=true) :
 Local Γ ⟨some d,.indexAddr t x i,ty,pos,af,g⟩ ⟨S,O⟩ ⟨[(d,⟨.ptr r (j.toNat*sz),false⟩)],[]⟩ (ors x++ors i) [r] [] :=
 aQ6 (m:=j.toNat) hx ho hix (by have:=(aD0 hl).1;omega) (by rw[hn];exact(aD0 hl).2.2) hd
def aBZ (S:List (Nat×Slot)):List (Nat×Operand)->Nat->Option (List Value)
 | [],_=>some []
 | (i,x)::r,k=>bif Nat.beq i k then(match evq S x with
  | some (.sc v)=>bif v.oneCell' then(match aBZ S r (k+1)with
   | some vs=>some (v::vs)
   | none=>none)else none
  | _=>none)else none
def aCD:List (Nat×Operand)->List Nat
 | []=>[]
 | (_,x)::r=>ors x++aCD r
theorem aGa {F:Env}{a:Act}{w:World}(h:Sim Γ F a w):∀ {ps:List (Nat×Operand)} {k:Nat} {vs:List Value},aBZ S ps k=some vs->(∀ j∈aCD ps,lk F.s j=lk S j)->
 ps.map (fun p=>(p.1,a.eval p.2))=(vs.zipIdx k).map (fun x=>(x.2,x.1))/\vs.length=ps.length/\∀ v∈vs,v.oneCell'=true
 | [],_,vs,hv,_=>by simp only[aBZ]at hv;cases hv;simp
 | (i,x)::r,k,vs,hv,hs=>by
  simp only[aBZ]at hv
  cases hb:Nat.beq i k with
  | false=>rw[hb]at hv;cases hv
  | true =>
   rw[hb]at hv
   simp only[aVV]at hv
   split at hv
   · rename_i v hx
     cases hc:v.oneCell' with
     | false=>rw[hc]at hv;cases hv
     | true =>
      rw[hc]at hv
      simp only[aVV]at hv
      split at hv
      · rename_i vs' hvs;cases hv
        obtain⟨g1,g2,g3⟩:=aGa h hvs (fun j hj=>hs j (by simp[aCD,hj]))
        have e:=zD h hx (fun j hj=>hs j (by simp[aCD,hj]))
        have:=aTN hb
        subst this
        exact⟨by simp[e,g1],by simp[g2],fun u hu=>by rcases aTf.1 hu with rfl | hu;exact hc;exact g3 u hu⟩
      · cases hv
   · cases hv
theorem aCi {v:Value}(h:v.oneCell'=true):v.cells=#[v]:=by
 cases v <;> simp_all [Value.oneCell',Value.cells]
theorem aFt {h:Array Obj}{β:Nat->Option (Option Nat)}:∀ {vs pre:List Value},(∀ v∈vs,v.oneCell'=true)->RelL h true β (vs.map .sc) (pre++vs).toArray pre.length []
 | [],_,_=>by simp[RelL]
 | v::vs,pre,hv=>by
  simp only[aTo,RelL]
  refine⟨v,[],[],⟨by simp,fun _=>hv v (by simp)⟩,by simp[RelV],?_,rfl⟩
  have:=aFt (h:=h) (β:=β) (vs:=vs) (pre:=pre++[v]) (fun u hu=>hv u (by simp[hu]))
  simpa using this
theorem aGm:∀ {vs:List Value},(∀ v∈vs,v.oneCell'=true)->(vs.flatMap fun v=>v.cells.toList)=vs
 | [],_=>rfl
 | v::r,h=>by simp only[aTO];rw[aCi (h v aVi),aGm (fun u hu=>h u (aTT _ hu))];rfl
theorem aPB {t e by_ n:Nat}{agg:Bool}{ps:List PV}{parts:Array (Nat×Operand)}{vs:List Value}[ht:SlT P t e][hi:TI P e 1 agg by_][hz:ZT P e ps](hv:aBZ S parts.toList 0=some vs)(hn:Nat.beq vs.length n=true)(hpos:Nat.blt 0 n=true)(hs2:Nat.ble n 1000=true)(hio:Γ.io d=none)(hd:Nat.blt d N=true) :
 Local Γ ⟨some d,.buildSlice t n parts,ty,pos,af,g⟩ ⟨S,O⟩ ⟨[(d,⟨.ref d 1 0 n,false⟩)],[(d,some ⟨vs.map .sc,true,false⟩)]⟩ (aCD parts.toList) [] [d]:=by
 intro F hs _ hnl
 refine bK fun a w hsim=>?_
 obtain⟨g1,g2,g3⟩:=aGa hsim hv hs
 obtain⟨ow,β,hsim⟩:=hsim
 have hn:=aTN hn
 have hpos:=(aT _ _).1 hpos
 have hs2:=aTL hs2
 obtain⟨i,z,h1,h2,h3,h4,_⟩:=hz.ok
 obtain⟨⟨i',q1,q2,q3⟩,_⟩:=hi.ok
 rw[h1]at q1;cases q1
 have hcells:(vs.flatMap fun v=>v.cells.toList)=vs:=aGm g3
 have run:(Instr.buildSlice t n (parts.map fun(i,x)=>(i,a.eval x))).run P w=.ok (.slice (some ⟨w.heap.size,0,none⟩) n n) (w.alloc (.cells vs.toArray e)):=by
  refine run_buildSlice w t e n _ vs.toArray i z ht.ok h1 h2 (by rw[q2];omega) (by rw[q2];omega) ?_
  have:=Go.Great.fill_whole (s:=i.size) (by omega) vs ((Array.range (n*i.size)).map (z.cells[· % z.cells.size]!)) (fun v hv=>by rw[aCi (g3 v hv),q2];rfl) (by simp[hn])
  rw[hcells]at this
  rw[<- this]
  congr 1
  rw[<- g1];simp
 refine⟨_,_,by simp only[execOp];rw[Sem.run_bind,run];rfl,?_⟩
 refine hsim.layPut (xH w _) (b0:=w.heap.size) (by simp) (fun b hb _=>nB w _ hb) (jD w _) (hnl d (by simp)) hio [] [] (.inl (aTn _)) (.inl hsim.kept.size) ⟨vs.map .sc,true,false⟩ (B:=[]) (by simpa using aFt (pre:=[]) g3) (by simp) (by simp) (by simp) ((aT _ _).1 hd) (fun β' hβ=>?_)
 simp only[RelV]
 refine⟨trivial,fun h=>by rw[hβ]at h;simp at h,fun b hb=>?_⟩
 rw[hβ]at hb;cases hb
 exact⟨n,vs.toArray,e,by simp,jD w _,by simp[hn],aTn _⟩
theorem RetIs.weak {E E0:Env}{rs:Array ResultVar}{r:PV}{deep:Bool}(he:Ent Γ E E0)(h:RetIs Γ rs E0 r deep):RetIs Γ rs E r deep:=fun fn hf a w hs=>h fn hf a w (he a w hs)
end
theorem yQ {α:Type}{l:List α}{enc:α->List PV}{j:Int}{y:α}{sz:Nat}{c:PV}(hl:idx l j=some y)(ho:(enc y)[0]?=some c)(h:∀ y,(enc y).length=sz):(l.flatMap enc)[j.toNat*sz]?=some c:=aM5 (aD0 hl).2.1 ho h
theorem qG {α:Type}{l:List α}{enc:α->List PV}{j:Int}{y:α}{sz:Nat}(hl:idx l j=some y)(h:∀ y,(enc y).length=sz):((l.flatMap enc).drop (j.toNat*sz)).take sz=enc y:=aOQ (aD0 hl).2.1 h
theorem aPT {α:Type}{l:List α}{enc:α->List PV}{j:Int}{y:α}{sz o n:Nat}(hl:idx l j=some y)(h:∀ y,(enc y).length=sz)(ho:o+n<=sz):Nat.ble (j.toNat*sz+o+n) (l.flatMap enc).length=true:=by
 have:=(aD0 hl).2.2
 rw[Nat.ble_eq,aS h]
 have h2:(j.toNat+1)*sz<=l.length*sz:=aUj _ (by omega)
 rw[Nat.add_mul]at h2;omega
theorem aNP {α:Type}{l:List α}{enc:α->List PV}{j:Int}{y:α}{sz n:Nat}(hl:idx l j=some y)(h:∀ y,(enc y).length=sz)(ho:n<=sz):Nat.ble (j.toNat*sz+n) (l.flatMap enc).length=true:=by
 have:=aPT (o:=0) (n:=n) hl h (by omega)
 simpa using this
theorem aRf {α:Type}{l:List α}{enc:α->List PV}{j:Int}{y y':α}{sz:Nat}{vs:List PV}(hl:idx l j=some y)(h:∀ y,(enc y).length=sz)(he:vs=enc y'):(l.flatMap enc).take (j.toNat*sz)++vs++(l.flatMap enc).drop (j.toNat*sz+sz)=(iB l j y').flatMap enc:=by
 subst he;exact aJd (aD0 hl).2.2 h
def aWe:=@RetIs.weak
/- The engine, part U: small helps of lifted walks. -/
theorem aS1 {x:Bool}(h:(!x)=true):x=false:=by simpa using h
theorem aS2 {x:Bool}(h:(!x)=false):x=true:=by simpa using h
theorem aA4 {n m by_:Nat}(h0:0<by_)(h:(n+m)*by_<=140737488355328):n+m<=9223372036854775807:=by
 have:=aUF (n+m) h0
 omega
theorem aPS {α:Type}{l:List α}{enc:α->List PV}{j:Int}{y:α}{sz:Nat}{dp bx:Bool}(hl:idx l j=some y)(h:∀ y,(enc y).length=sz)(h0:0<sz):Nat.blt 0 (Ob.mk (l.flatMap enc) dp bx).cells.length=true:=by
 have:=(aD0 hl).2.2
 rw[aT,aS h]
 exact aTW (by omega) h0
section
variable {P:Program}{N:Nat}{Γ:Ctx P N}{S:List (Nat×Slot)}{O:List (Nat×Option Ob)}
variable {d:Nat}{ty:TypeId}{pos:String}{af:Array Edge}{g:Option (Nat×Bool)}
theorem aCX {α:Type}{l:List α}{j:Int}{y:α}:(iB l j y).length=l.length:=aV6
theorem Ent.relen {k l s off n n':Nat}{dp:Bool}(hk:lkq S k=some ⟨.ref l s off n,dp⟩)(hn:n=n'):Ent Γ ⟨S,O⟩ ⟨(k,⟨.ref l s off n',dp⟩)::S,O⟩:=by
 subst hn
 intro a w h
 refine Sim.congr (E:=⟨S,O⟩) (fun j=>?_) (fun _=>rfl) h
 simp only[]
 rw[dO]
 by_cases hj:k=j
 · subst hj;rw[aTd rfl,fM hk]
 · rw[aTc hj]
theorem aOR {α:Type}{enc:α->List PV}{z:α}{ps:List PV}(h:enc z=ps)(m:Nat):(List.replicate m ()).flatMap (fun _=>ps)=(List.replicate m z).flatMap enc:=by
 subst h
 induction m with
 | zero=>rfl
 | succ m ih=>simp[aUB,ih]
theorem aQx {α:Type}{enc:α->List PV}{z:α}{t e sz by_:Nat}{agg:Bool}{x y:Operand}{k k':IntKind}{n n':Int}{ps:List PV}[ht:SlT P t e][hi:TI P e sz agg by_][hz:ZT P e ps](hx:evq S x=some (.sc (.int k n)))(hy:evq S y=some (.sc (.int k' n')))(hnn:n=n')(hb:0<=n/\n.toNat*by_<=281474976710656)
 (hez:enc z=ps) (hby:0<by_) (hsz:sz≠0) (hio:Γ.io d=none) (hd:Nat.blt d N=true) :
 Local Γ ⟨some d,.makeSlice t x y,ty,pos,af,g⟩ ⟨S,O⟩ ⟨[(d,⟨.ref d sz 0 (List.replicate n.toNat z).length,false⟩)],[(d,some ⟨(List.replicate n.toNat z).flatMap enc,true,false⟩)]⟩ (ors x++ors y) [] [d]:=by
 rw[<- aOR hez,List.length_replicate]
 have:=aUF n.toNat hby
 exact aR4 hx hy (by omega) (by omega) hb.2 (by omega) hsz hio hd
end
def aV {α:Type}(x:α):Option α:=some x
theorem fN {α:Type}{e x:α}(h:aV e=some x):e=x:=Option.some.inj h
theorem aJ {α β:Type}(e:α)(f:α->Option β):(aV e).bind f=f e:=rfl
theorem gM {α:Type}{l x:List α}{j:Int}{y:α}(h:aV (iB l j y)=some x):x.length=l.length:=by
 rw[<- fN h];exact aV6
theorem aLK {α:Type}{l x:List α}{enc:α->List PV}{j:Int}{y y':α}{sz:Nat}{vs:List PV}(hx:aV (iB l j y')=some x)(hl:idx l j=some y)(h:∀ y,(enc y).length=sz)(he:vs=enc y'):(l.flatMap enc).take (j.toNat*sz)++vs++(l.flatMap enc).drop (j.toNat*sz+sz)=x.flatMap enc:=by
 rw[<- fN hx];exact aRf hl h he
theorem bE {α:Type}{enc:α->List PV}{l x:List α}{y:α}(hx:aV (l++[y])=some x):l.flatMap enc++enc y=x.flatMap enc/\l.length+1=x.length:=by
 rw[<- fN hx];exact aM3
theorem cG {α:Type}{enc:α->List PV}{l r x:List α}(hx:aV (l++r)=some x):l.flatMap enc++r.flatMap enc=x.flatMap enc/\l.length+r.length=x.length:=by
 rw[<- fN hx];exact aOT
section
variable {P:Program}{N:Nat}{Γ:Ctx P N}{S:List (Nat×Slot)}{O:List (Nat×Option Ob)}
variable {d:Nat}{ty:TypeId}{pos:String}{af:Array Edge}{g:Option (Nat×Bool)}
end
/- The engine, part V: functions that write rows handed in; results that are rows. -/
open Go.RowKit (Below)
def aNg:List (Nat×Nat)->Bool
 | []=>true
 | (a,b)::r=>Nat.blt a 100000&&Nat.blt b 100000&&aNg r
section
variable {P:Program}{N:Nat}{Γ:Ctx P N}
theorem io1 (h:∀ l,Nat.blt l 100000=true->Γ.io l=none)(l:Nat)(hl:Nat.blt l 100000=true:=by rfl):Γ.io l=none:=h l hl
theorem io0 (h:∀ l,Nat.blt l 100000=true->Γ.io l=none)(ρ:List (Nat×Nat))(hρ:aNg ρ=true:=by rfl):∀ l,Γ.io (rn ρ l)=Γ.io l/\(Γ.io l≠none->rn ρ l=l):=by
 induction ρ with
 | nil=>intro l;exact⟨rfl,fun _=>rfl⟩
 | cons x r ih =>
  obtain⟨a,b⟩:=x
  simp only[aNg,aTB]at hρ
  intro l
  simp only[rn,kR]
  by_cases hal:a=l
  · subst hal
    simp only[aU8,aVV]
    rw[h b hρ.1.2,h a hρ.1.1]
    exact⟨rfl,fun e=>absurd rfl e⟩
  · simp only[hal,aVA,cond_false]
    exact ih hρ.2 l
theorem Meets.intro2 {f:FuncId}{fn:Func}{c:Code}{args:List PV}{r:PV}{deep:Bool}{rs:Array ResultVar}(hf:P.funcs[f]?=some fn)(hb:fn.body=some c)(hN:fn.ntmps=N)(hrs:fn.results=rs)(hn:Nat.ble args.length N=true)
 (h:∀ Γ:Ctx P N,(∀ l,Nat.blt l 100000=true->Γ.io l=none)->CodeT Γ c ⟨hY args 0,[]⟩ (aAL Γ rs r deep)):Meets P f args r deep :=
 Meets.intro hf hb hN hrs hn (fun Γ hΓ=>h Γ (fun l _=>by rw[hΓ]))
end
structure XO where
 l:Nat
 old:List PV
 new:List PV
def XOb (w:World)(ok:Nat->Prop)(κ:Nat->Option (Option Nat))(o:XO):Prop :=
 (κ o.l=some none/\o.old=[])\/∃ b cs t,κ o.l=some (some b)/\¬ok b/\w.heap[b]?=some (.cells cs t (0,0))/\RelL w.heap true dead o.old cs 0 []
def aMp (w w':World)(κ:Nat->Option (Option Nat))(o:XO):Prop :=
 (κ o.l=some none->o.new=[])/\∀ b,κ o.l=some (some b)->∀ cs t,w.heap[b]?=some (.cells cs t (0,0))->∃ cs',w'.heap[b]?=some (.cells cs' t (0,0))/\cs'.size=cs.size/\RelL w'.heap true dead o.new cs' 0 []
def XArgs (h:Array Obj)(ok:Nat->Prop)(κ:Nat->Option (Option Nat)):List PV->List Value->Prop
 | [],[]=>True
 | p::ps,c::cs=>(∃ B,RelV h κ p c B/\∀ b∈B,ok b)/\XArgs h ok κ ps cs
 | _,_=>False
def MeetsX (P:Program)(f:FuncId)(args:List PV)(objs:List XO)(r:PV)(deep:Bool):Prop :=
 ∀ (w:World) (cargs:Array Value) (ok:Nat->Prop) (κ:Nat->Option (Option Nat)),XArgs w.heap ok κ args cargs.toList->(∀ o∈objs,XOb w ok κ o)->(∀ l o,κ l=some o->∃ x∈objs,x.l=l)->(∀ l l' b,κ l=some (some b)->κ l'=some (some b)->l=l')->
  Calls P f cargs w fun e w'=>∃ c B,e=.returned c/\Same w w'/\(∀ b,b<w.heap.size->(∀ l,κ l≠some (some b))->w'.heap[b]?=w.heap[b]?)/\(∀ o∈objs,aMp w w' κ o)/\
   RelV w'.heap dead r c B/\(∀ b∈B,ok b\/w.heap.size<=b)/\(deep=true->B.Nodup/\∀ b∈B,w.heap.size<=b/\fP w' b)
theorem XArgs.get {h:Array Obj}{ok:Nat->Prop}{κ:Nat->Option (Option Nat)}:∀ {ps:List PV} {cs:List Value},XArgs h ok κ ps cs->ps.length=cs.length/\∀ k,k<ps.length->∃ B,RelV h κ (ps.getD k .any) (cs.getD k undef) B/\∀ b∈B,ok b
 | [],[],_=>⟨rfl,fun k hk=>by simp at hk⟩
 | p::ps,c::cs,H=>by
  obtain⟨h1,h2⟩:=H
  obtain⟨h3,h4⟩:=XArgs.get h2
  refine⟨by simp[h3],fun k hk=>?_⟩
  cases k with
  | zero=>simpa using h1
  | succ k=>simpa using h4 k (by simpa using hk)
 | [],_::_,H=>H.elim
 | _::_,[],H=>H.elim
def aI2:List XO->List (Nat×Option Ob)
 | []=>[]
 | o::r=>(o.l,some ⟨o.old,true,false⟩)::aI2 r
theorem aCT:∀ {os:List XO} {l:Nat},(lo (aI2 os) l=none/\∀ o∈os,o.l≠l)\/∃ o∈os,o.l=l/\lo (aI2 os) l=some ⟨o.old,true,false⟩
 | [],l=>.inl ⟨rfl,by simp⟩
 | o::r,l=>by
  simp only[aI2,aI]
  by_cases h:o.l=l
  · exact .inr ⟨o,by simp,h,by rw[aTd h]⟩
  · rw[aTc h]
    rcases aCT (os:=r) (l:=l)with⟨h1,h2⟩ | ⟨o',h1,h2,h3⟩
    · exact .inl ⟨h1,fun x hx=>by rcases aTf.1 hx with rfl | hx;exact h;exact h2 x hx⟩
    · exact .inr ⟨o',by simp[h1],h2,h3⟩
def xok:List XO->Bool
 | []=>true
 | o::r=>Nat.ble 100000 o.l&&!(uE (r.map (·.l)) o.l)&&xok r
theorem aCS:∀ {os:List XO},xok os=true->(∀ o∈os,100000<=o.l)/\∀ o∈os,∀ o'∈os,o.l=o'.l->o=o'
 | [],_=>⟨by simp,by simp⟩
 | o::r,h=>by
  simp only[xok,aTB,aVu]at h
  obtain⟨g1,g2⟩:=aCS h.2
  have hn:∀ x∈r,x.l≠o.l:=by
   intro x hx e
   have:uE (r.map (·.l)) o.l=true:=(lJ _ _).2 (aTu.2 ⟨x,hx,e⟩)
   rw[this]at h;cases h.1.2
  refine⟨fun x hx=>?_,fun x hx y hy e=>?_⟩
  · rcases aTf.1 hx with rfl | hx
    · exact aTL h.1.1
    · exact g1 x hx
  · rcases aTf.1 hx with e1 | e1 <;> rcases aTf.1 hy with e2 | e2
    · rw[e1,e2]
    · rw[e1]at e;exact absurd e.symm (hn y e2)
    · rw[e2]at e;exact absurd e (hn x e1)
    · exact g2 x e1 y e2 e
def RetX {P:Program}{N:Nat}(Γ:Ctx P N)(rs:Array ResultVar)(E:Env)(r:PV)(deep:Bool)(objs:List XO):Prop :=
 RetIs Γ rs E r deep/\∀ a w,Sim Γ E a w->∃ E',Sim Γ E' a w/\∀ o∈objs,∃ dp,lo E'.o o.l=some ⟨o.new,dp,false⟩
def aAh {P:Program}{N:Nat}(Γ:Ctx P N)(rs:Array ResultVar)(r:PV)(deep:Bool)(objs:List XO):Exit->Env->Prop
 | .normal,E=>RetX Γ rs E r deep objs
 | .ret,E=>RetX Γ rs E r deep objs
 | _,_=>False
section
variable {P:Program}{N:Nat}
theorem MeetsX.intro {f:FuncId}{fn:Func}{c:Code}{args:List PV}{objs:List XO}{r:PV}{deep:Bool}{rs:Array ResultVar}(hf:P.funcs[f]?=some fn)(hb:fn.body=some c)(hN:fn.ntmps=N)(hrs:fn.results=rs)(hn:Nat.ble args.length N=true)
 (hx:xok objs=true) (hnil:∀ o∈objs,o.old=[]->o.new=[]) (hsc:∀ o∈objs,jK o.new=true)
 (h:∀ Γ:Ctx P N,(∀ l,Nat.blt l 100000=true->Γ.io l=none)->CodeT Γ c ⟨hY args 0,aI2 objs⟩ (aAh Γ rs r deep objs)):MeetsX P f args objs r deep:=by
 classical
 intro w cargs ok κ ha hob hκ hinj
 obtain⟨h1,h2⟩:=ha.get
 obtain⟨hx1,hx2⟩:=aCS hx
 have hn:=aTL hn
 let Γ:Ctx P N:={ base:=w.heap.size,ok:=ok,io:=fun l=>match κ l with | some (some b)=>some b | _=>none,w0:=w,mine:=fun _=>False,lent:=fun _=>False }
 have hio:∀ l b,Γ.io l=some b↔κ l=some (some b):=by
  intro l b
  show(match κ l with | some (some b)=>some b | _=>none)=some b↔_
  cases κ l with
  | none=>simp
  | some o=>cases o <;> simp
 have hsz:(cargs++Array.replicate (fn.ntmps-cargs.size) undef).size=N:=by
  have:cargs.size=args.length:=by rw[h1];simp
  simp[this,hN];omega
 have hblt:∀ l b,κ l=some (some b)->b<w.heap.size:=by
  intro l b e
  obtain⟨o,ho,rfl⟩:=hκ l _ e
  rcases hob o ho with⟨e',_⟩ | ⟨b',cs,t,e',_,g,_⟩
  · rw[e]at e';cases e'
  · rw[e]at e';cases e'
    rcases aUn b w.heap.size with h | h
    · exact h
    · simp[aUa h]at g
 refine calls_of_wp hf hb ?_
 let ow:Nat->Own:=fun b=>if hh:∃ l,κ l=some (some b)then .lab hh.choose else .none
 have how:∀ b l,κ l=some (some b)->ow b=.lab l:=by
  intro b l e
  have hh:∃ l,κ l=some (some b):=⟨l,e⟩
  show(if hh:_ then _ else _)=_
  rw[aVk hh,hinj _ _ b hh.choose_spec e]
 have how2:∀ b,ow b≠.none->∃ l,κ l=some (some b):=by
  intro b hb'
  rcases aUR (∃ l,κ l=some (some b))with hh | hh
  · exact hh
  · exfalso;apply hb'
    show(if hh:_ then _ else _)=_
    rw[aVl hh]
 have hsim:Sim Γ ⟨hY args 0,aI2 objs⟩ { tmps:=cargs++Array.replicate (fn.ntmps-cargs.size) undef,defers:=[] } w:=by
  refine⟨ow,κ,{ size:=hsz,defers:=rfl,kept:=⟨rfl,rfl,rfl,aTn _,fun _ _ _ _=>rfl,fun b _ _ cs t h=>⟨cs,h,rfl⟩⟩,slots:=fun k=>?_,objs:=fun l ob hl=>?_,gone:=fun l hl=>?_,own:=fun b hb=>?_,ios:=fun l b hl _=>(hio l b).1 hl,fresh:=fun l b hl hi=>?_ }⟩
  · rw[nA]
    by_cases hk:k<args.length
    · rw[aTd ⟨aT9 _,by simpa using hk⟩]
      obtain⟨B,g1,g2⟩:=h2 k hk
      have hB:∀ b∈B,∀ l,ow b≠.lab l:=by
       intro b hb l e
       obtain⟨l',e'⟩:=how2 b (by rw[e];simp)
       obtain⟨o,ho,rfl⟩:=hκ l' _ e'
       rcases hob o ho with⟨e2,_⟩ | ⟨b',cs,t,e2,hnok,_⟩
       · rw[e']at e2;cases e2
       · rw[e']at e2;cases e2;exact hnok (g2 b hb)
      refine⟨B,?_,fun b hb=>⟨aWt _ _ _ g1 b hb,.inl (g2 b hb),hB b hb⟩,by simp⟩
      have e:(cargs++Array.replicate (fn.ntmps-cargs.size) undef).getD k undef=cargs.toList.getD k undef:=by
       have hlt:k<cargs.size:=by rw[h1]at hk;simpa using hk
       simp[aTy,aUl,hlt,aTt]
      rw[e]
      simpa only[aUU]using g1
    · rw[aTc (by simpa using hk)]
      exact⟨[],by simp[RelV],by simp,by simp⟩
  · rcases aCT (os:=objs) (l:=l)with⟨g1,_⟩ | ⟨o,ho,rfl,g1⟩
    · simp only[g1]at hl;cases hl
    · simp only[g1]at hl;cases hl
      refine⟨[],by simp,by simp,?_⟩
      rcases hob o ho with⟨e1,e2⟩ | ⟨b,cs,t,e1,_,e3,e4⟩
      · exact .inl ⟨e1,e2,rfl⟩
      · exact .inr ⟨b,cs,t,e1,how b _ e1,e3,by simpa using e4⟩
  · cases hk:κ l with
    | none=>rfl
    | some o =>
     obtain⟨x,hx,rfl⟩:=hκ l o hk
     rcases aCT (os:=objs) (l:=x.l)with⟨_,g2⟩ | ⟨_,_,_,g1⟩
     · exact absurd rfl (g2 x hx)
     · simp only[g1]at hl;cases hl
  · obtain⟨l,e⟩:=how2 b hb
    exact⟨hblt l b e,.inr ⟨l,how b l e,(hio l b).2 e⟩⟩
  · rw[(hio l b).2 hl]at hi;cases hi
 have hioN:∀ l,Nat.blt l 100000=true->Γ.io l=none:=by
  intro l hl
  have hl:=(aT _ _).1 hl
  cases hi:Γ.io l with
  | none=>rfl
  | some b =>
   obtain⟨o,ho,rfl⟩:=hκ l _ ((hio l b).1 hi)
   have:=hx1 o ho;omega
 refine wp_mono (h Γ hioN _ _ hsim) fun e a' w' ⟨E',hs',hq⟩=>?_
 have fin:RetX Γ rs E' r deep objs->a'.defers=[]/\∃ v,(results fn a'.tmps).run P w'=.ok v w'/\∃ c B,Ending.returned v=.returned c/\Same w w'/\(∀ b,b<w.heap.size->(∀ l,κ l≠some (some b))->w'.heap[b]?=w.heap[b]?)/\(∀ o∈objs,aMp w w' κ o)/\
  RelV w'.heap dead r c B/\(∀ b∈B,ok b\/w.heap.size<=b)/\(deep=true->B.Nodup/\∀ b∈B,w.heap.size<=b/\fP w' b):=by
  rintro⟨hr,hr2⟩
  obtain⟨c,B,g1,g2,g3,g4⟩:=hr fn hrs a' w' hs'
  obtain⟨E2,⟨ow2,β2,hs2⟩,hr2⟩:=hr2 a' w' hs'
  refine⟨hs2.defers,c,g1,c,B,rfl,⟨hs2.kept.os,hs2.kept.output,hs2.kept.tape,hs2.kept.size⟩,fun b hb hn=>hs2.kept.old b hb (fun l e=>hn l ((hio l b).1 e)) (fun h=>h),fun o ho=>⟨fun e=>?_,fun b e cs t hc=>?_⟩,g2,fun b hb=>(g3 b hb).2.imp id (fun h=>(h.elim id False.elim:Γ.nww b).elim id False.elim),fun hd=>⟨(g4 hd).1,fun b hb=>⟨(((g4 hd).2 b hb).2.elim id False.elim:Γ.nww b).elim id False.elim,((g4 hd).2 b hb).1⟩⟩⟩
  · refine hnil o ho ?_
    rcases hob o ho with⟨_,e2⟩ | ⟨b,_,_,e2,_⟩
    · exact e2
    · rw[e]at e2;cases e2
  · obtain⟨dp,hl⟩:=hr2 o ho
    obtain⟨Bo,_,_,k3⟩:=hs2.objs o.l _ hl
    have hβ:=hs2.ios o.l b ((hio o.l b).2 e) (by rw[hl];rfl)
    rcases k3 with⟨k4,_⟩ | ⟨b',cs',t',k4,k5,k6,k7⟩
    · rw[hβ]at k4;cases k4
    · rw[hβ]at k4;cases k4
      obtain⟨cs2,q1,q2⟩:=hs2.kept.ios b (hblt _ _ e) (fun h=>h) cs t hc
      rw[k6]at q1;cases q1
      have:=oZ (hsc o ho) k7
      subst this
      exact⟨cs',k6,q2,by simpa using k7⟩
 cases e with
 | normal=>exact fin hq
 | ret=>exact fin hq
 | exit id=>exact hq.elim
 | goto l=>exact hq.elim
 | panic ch=>exact hq.elim
 | outgrown=>exact hq.elim
end
section
variable {P:Program}{N:Nat}{Γ:Ctx P N}{S:List (Nat×Slot)}{O:List (Nat×Option Ob)}{ow:Nat->Own}{β:Nat->Option (Option Nat)}{F:Env}{a:Act}{w:World}
theorem SimG.rewriteMany (h:SimG Γ ow β F a w){w':World}(hw:Same w w')(us:List (Nat×Option Ob))(hother:∀ b,b<w.heap.size->(∀ l∈us.map (·.1),β l≠some (some b))->w'.heap[b]?=w.heap[b]?)
 (hnew:∀ l∈us.map (·.1),∃ ob,lo us l=some ob/\ob.box=false/\((β l=some none/\ob.cells=[])\/∃ b cs cs' t,β l=some (some b)/\w.heap[b]?=some (.cells cs t (0,0))/\w'.heap[b]?=some (.cells cs' t (0,0))/\cs'.size=cs.size/\RelL w'.heap true dead ob.cells cs' 0 [])) :
 SimG Γ ow β (F.app ⟨[],us⟩) a w':=by
 have hImh:∀ b,Im Γ ow w b->w'.heap[b]?=w.heap[b]?:=fun b hb=>hother b hb.1 (fun l _ e=>hb.2.2 l (h.lab_ne e))
 have hIm:∀ b,Im Γ ow w b->Im Γ ow w' b:=fun b ⟨h1,h2,h3⟩=>⟨aTp h1 hw.size,h2,h3⟩
 have hFree:∀ b,Im Γ ow w b->fP w b->fP w' b:=fun b hb ⟨c,t,hc⟩=>⟨c,t,by rw[hImh b hb];exact hc⟩
 have hshape:∀ m b,β m=some (some b)->aB6 w.heap w'.heap b:=by
  intro m b e c t hc
  by_cases hm:m∈us.map (·.1)
  · obtain⟨ob,_,_,g⟩:=hnew m hm
    rcases g with⟨g,_⟩ | ⟨b',cs,cs',t',g1,g2,g3,g4,_⟩
    · rw[e]at g;cases g
    · rw[e]at g1;cases g1
      rw[g2]at hc;cases hc
      exact⟨cs',g3,g4⟩
  · refine⟨c,?_,rfl⟩
    rw[hother b (h.block_lt e) (fun l hl e'=>hm ?_)];exact hc
    have e1:=h.lab_ne e
    have e2:=h.lab_ne e'
    rw[e1]at e2;cases e2;exact hl
 have hkeep:∀ m,KeepB w.heap w'.heap β β m:=fun m o ho=>⟨ho,fun b hob=>by subst hob;exact hshape m b ho⟩
 refine { size:=h.size,defers:=h.defers,kept:=?_,slots:=fun k=>?_,objs:=fun m ob hm=>?_,gone:=fun m hm=>?_,own:=fun b hb=>?_,ios:=fun m b hm hs=>?_,fresh:=h.fresh }
 · refine⟨hw.os.trans h.kept.os,hw.output.trans h.kept.output,hw.tape.trans h.kept.tape,aTr h.kept.size hw.size,fun b h1 h2 hmi=>?_,fun b h1 hmi c t h2=>?_⟩
   · refine(hother b (aTp h1 h.kept.size) (fun l _ e=>?_)).trans (h.kept.old b h1 h2 hmi)
     cases hi:Γ.io l with
     | none =>
      rcases h.fresh l b e hi with g | g
      · omega
      · exact hmi g
     | some b' =>
      have hs:(lo F.o l).isSome=true:=by
       cases ho:lo F.o l with
       | none=>rw[h.gone l ho]at e;cases e
       | some _=>rfl
      have:=h.ios l b' hi hs
      rw[e]at this;cases this
      exact h2 l hi
   · obtain⟨c',h3,h4⟩:=h.kept.ios b h1 hmi c t h2
     rcases aUR (∃ m,β m=some (some b))with⟨m,hm⟩ | hm
     · obtain⟨c'',h5,h6⟩:=hshape m b hm c' t h3
       exact⟨c'',h5,h6.trans h4⟩
     · exact⟨c',by rw[hother b (aTp h1 h.kept.size) (fun l _ e=>hm ⟨l,e⟩)];exact h3,h4⟩
 · obtain⟨B,g1,g2,g3⟩:=h.slots k
   exact⟨B,aWl _ _ _ (fun m _=>hkeep m) (fun b hb=>hImh b (g2 b hb)) g1,fun b hb=>hIm b (g2 b hb),fun hd=>⟨(g3 hd).1,fun b hb=>⟨((g3 hd).2 b hb).1,hFree b (g2 b hb) ((g3 hd).2 b hb).2⟩⟩⟩
 · by_cases hmu:m∈us.map (·.1)
   · simp only[Env.app]at hm
     rw[cF _ _ _ hmu]at hm
     obtain⟨ob',e1,e2,g⟩:=hnew m hmu
     rw[e1]at hm;cases hm
     refine⟨[],by simp,by simp,?_⟩
     rcases g with⟨g1,g2⟩ | ⟨b,cs,cs',t,g1,g2,g3,g4,g5⟩
     · exact .inl ⟨g1,g2,rfl⟩
     · exact .inr ⟨b,cs',t,g1,h.lab_ne g1,g3,by rw[e2];simpa using g5⟩
   · simp only[Env.app]at hm
     rw[bH _ _ _ hmu]at hm
     obtain⟨B,g1,g2,g3⟩:=h.objs m ob hm
     refine⟨B,fun b hb=>hIm b (g1 b hb),fun hd=>⟨(g2 hd).1,fun b hb=>⟨((g2 hd).2 b hb).1,hFree b (g1 b hb) ((g2 hd).2 b hb).2⟩⟩,?_⟩
     rcases g3 with g3 | ⟨b,c,t,e1,e2,e3,e4⟩
     · exact .inl g3
     · refine .inr ⟨b,c,t,e1,e2,?_,?_⟩
       · rw[hother b (h.block_lt e1) (fun l hl e'=>hmu ?_)];exact e3
         have e5:=h.lab_ne e'
         rw[e2]at e5;cases e5;exact hl
       · cases hbx:ob.box with
         | false=>rw[hbx]at e4;exact aWk _ _ _ _ (fun _ _ l _=>aWC _ _ l) (fun b hb=>hImh b (g1 b hb)) e4
         | true=>rw[hbx]at e4;exact aWk _ _ _ _ (fun _ _ m' _=>hkeep m') (fun b hb=>hImh b (g1 b hb)) e4
 · simp only[Env.app]at hm
   by_cases hmu:m∈us.map (·.1)
   · rw[cF _ _ _ hmu]at hm
     obtain⟨ob',e1,_⟩:=hnew m hmu
     rw[e1]at hm;cases hm
   · rw[bH _ _ _ hmu]at hm;exact h.gone m hm
 · obtain⟨g1,g2⟩:=h.own b hb
   exact⟨aTp g1 hw.size,g2⟩
 · refine h.ios m b hm ?_
   simp only[Env.app]at hs
   by_cases hmu:m∈us.map (·.1)
   · obtain⟨_,_,_,g⟩:=hnew m hmu
     cases ho:lo F.o m with
     | none =>
      have:=h.gone m ho
      rcases g with⟨g,_⟩ | ⟨_,_,_,_,g,_⟩ <;> rw[this]at g <;> cases g
     | some _=>rfl
   · rw[bH _ _ _ hmu]at hs;exact hs
inductive ArgX (S:List (Nat×Slot)) (O:List (Nat×Option Ob)) (ρ:List (Nat×Nat)):Operand->PV->List Nat->Prop
 | val {x:Operand} {p:PV} {l:List Nat}:ArgV S O x p l->p.labs=[]->ArgX S O ρ x p l
 | io {x:Operand} {p:PV}:evq S x=some (xI ρ p)->ArgX S O ρ x p []
inductive ArgsX (S:List (Nat×Slot)) (O:List (Nat×Option Ob)) (ρ:List (Nat×Nat)):List Operand->List PV->List Nat->Prop
 | nil:ArgsX S O ρ [] [] []
 | cons {x:Operand} {p:PV} {l m:List Nat} {xs:List Operand} {ps:List PV}:ArgX S O ρ x p l->ArgsX S O ρ xs ps m->ArgsX S O ρ (x::xs) (p::ps) (l++m)
inductive ObsX (O:List (Nat×Option Ob)) (ρ:List (Nat×Nat)):List XO->List (Nat×Option Ob)->Prop
 | nil:ObsX O ρ [] []
 | cons {l:Nat} {old new:List PV} {dp:Bool} {os:List XO} {us:List (Nat×Option Ob)}:loq O (rn ρ l)=some ⟨old,dp,false⟩->jK old=true->ObsX O ρ os us->ObsX O ρ (⟨l,old,new⟩::os) ((rn ρ l,some ⟨new,dp,false⟩)::us)
def aB8:List XO->List Nat
 | []=>[]
 | o::r=>o.l::aB8 r
def aI1 (ρ:List (Nat×Nat)):List XO->List Nat
 | []=>[]
 | o::r=>rn ρ o.l::aI1 ρ r
theorem aAp:∀ (os:List XO),aB8 os=os.map (·.l)
 | []=>rfl
 | o::r=>by simp[aB8,aAp r]
theorem aEQ (ρ:List (Nat×Nat)):∀ (os:List XO),aI1 ρ os=os.map (fun o=>rn ρ o.l)
 | []=>rfl
 | o::r=>by simp[aI1,aEQ ρ r]
theorem ObsX.keys {ρ:List (Nat×Nat)}{os:List XO}{us:List (Nat×Option Ob)}(h:ObsX O ρ os us):us.map (·.1)=aI1 ρ os:=by
 induction h with
 | nil=>rfl
 | cons _ _ _ ih=>simp[aI1,ih]
theorem ObsX.get {ρ:List (Nat×Nat)}{os:List XO}{us:List (Nat×Option Ob)}(h:ObsX O ρ os us):∀ o∈os,∃ dp,loq O (rn ρ o.l)=some ⟨o.old,dp,false⟩/\jK o.old=true:=by
 induction h with
 | nil=>simp
 | cons h1 h2 _ ih =>
  intro o ho
  rcases aTf.1 ho with rfl | ho
  · exact⟨_,h1,h2⟩
  · exact ih o ho
theorem ObsX.lo {ρ:List (Nat×Nat)}{os:List XO}{us:List (Nat×Option Ob)}(h:ObsX O ρ os us)(hi:aBA ρ (aB8 os)=true):∀ o∈os,∃ dp,Ev.lo us (rn ρ o.l)=some ⟨o.new,dp,false⟩:=by
 induction h with
 | nil=>simp
 | @cons l old new dp os us h1 h2 _ ih =>
  intro o ho
  rw[aI]
  by_cases e:rn ρ l=rn ρ o.l
  · rw[aTd e]
    rcases aTf.1 ho with rfl | ho
    · exact⟨_,rfl⟩
    · simp only[aB8,aBA,aTB,aVu]at hi
      have:uE ((aB8 os).map (rn ρ)) (rn ρ l)=true:=(lJ _ _).2 (by rw[aAp,aUK];exact aTu.2 ⟨o,ho,e.symm⟩)
      rw[this]at hi;cases hi.1
  · rw[aTc e]
    rcases aTf.1 ho with rfl | ho
    · exact absurd rfl e
    · simp only[aB8,aBA,aTB]at hi
      exact ih hi.2 o ho
theorem ArgV.rel {x:Operand}{p:PV}{l:List Nat}(hs:SimG Γ ow β F a w)(hx:ArgV S O x p l)(hk1:∀ k∈ors x,lk F.s k=lk S k)(hl:∀ m∈l,lo F.o m=lo O m):∃ B,RelV w.heap dead p (a.eval x) B/\∀ b∈B,Im Γ ow w b\/∃ m∈l,ow b=.lab m:=by
 have h1:ArgsV S O [x] [p] (l++[]):=.cons hx .nil
 have:=aAj hs h1 (by cases x <;> simpa [pE,ors]using hk1) (by simpa using hl)
 obtain⟨⟨B,g1,g2⟩,_⟩:=this
 exact⟨B,g1,fun b hb=>by simpa using g2 b hb⟩
variable {d:Nat}{ty:TypeId}{pos:String}{af:Array Edge}{g:Option (Nat×Bool)}
end
def aWg:=@ArgsX.cons
def aWu:=@ArgsX.nil
def aWD:=@ArgX.io
def aWG:=@ArgX.val
/- The engine, part X: results that are rows of the caller's own. -/
open Go.RowKit (Below)
section
variable {P:Program}{N:Nat}{Γ:Ctx P N}{S:List (Nat×Slot)}{O:List (Nat×Option Ob)}{ow:Nat->Own}{β:Nat->Option (Option Nat)}{F:Env}{a:Act}{w:World}
structure Rows (us:List (Nat×Option Ob))(h:Array Obj)(blk:Nat->Option (Option Nat))(nest:Nat->List Nat)(B:List Nat):Prop where
 ob:∀ l∈us.map (·.1),∃ cells,lo us l=some ⟨cells,true,false⟩/\((blk l=some none/\cells=[]/\nest l=[])\/∃ b cs t,blk l=some (some b)/\h[b]?=some (.cells cs t (0,0))/\RelL h true dead cells cs 0 (nest l))
 nd:∀ l∈us.map (·.1),(nest l).Nodup/\∀ c∈nest l,c∈B
 inB:∀ l∈us.map (·.1),∀ b,blk l=some (some b)->b∈B
 bb:∀ l∈us.map (·.1),∀ l'∈us.map (·.1),∀ b,blk l=some (some b)->blk l'=some (some b)->l=l'
 bn:∀ l∈us.map (·.1),∀ l'∈us.map (·.1),∀ b,blk l=some (some b)->b∉nest l'
 nn:∀ l∈us.map (·.1),∀ l'∈us.map (·.1),∀ c,c∈nest l->c∈nest l'->l=l'
theorem SimG.growLayX (h:SimG Γ ow β F a w){w':World}(hb:Below w.heap.size w w'){us:List (Nat×Option Ob)}{blk:Nat->Option (Option Nat)}{nest:Nat->List Nat}{B:List Nat}(hr:Rows us w'.heap blk nest B)
 (hB:∀ b∈B,w.heap.size<=b/\fP w' b) (hnl:∀ l∈us.map (·.1),NoLab F l) (hio:∀ l∈us.map (·.1),Γ.io l=none) :
 ∃ ow' β',(∀ l∈us.map (·.1),β' l=blk l)/\(∀ b,(¬∃ l,l∈us.map (·.1)/\blk l=some (some b))->(¬∃ l,l∈us.map (·.1)/\b∈nest l)->ow' b=ow b)/\SimG Γ ow' β' (F.app ⟨[],us⟩) a w':=by
 classical
 let β':Nat->Option (Option Nat):=fun l=>if l∈us.map (·.1)then blk l else β l
 have hex:∀ b,∃ o:Own,(∀ l,l∈us.map (·.1)->blk l=some (some b)->o=.lab l)/\(∀ l,l∈us.map (·.1)->b∈nest l->o=.obj l)/\((¬∃ l,l∈us.map (·.1)/\blk l=some (some b))->(¬∃ l,l∈us.map (·.1)/\b∈nest l)->o=ow b):=by
  intro b
  rcases aUR (∃ l,l∈us.map (·.1)/\blk l=some (some b))with⟨l,h1,h2⟩ | hh
  · exact⟨.lab l,fun l' h1' h2'=>by rw[hr.bb l h1 l' h1' b h2 h2'],fun l' h1' h2'=>absurd h2' (hr.bn l h1 l' h1' b h2),fun hh=>absurd ⟨l,h1,h2⟩ hh⟩
  · rcases aUR (∃ l,l∈us.map (·.1)/\b∈nest l)with⟨l,h1,h2⟩ | hn
    · exact⟨.obj l,fun l' h1' h2'=>absurd ⟨l',h1',h2'⟩ hh,fun l' h1' h2'=>by rw[hr.nn l h1 l' h1' b h2 h2'],fun _ hn=>absurd ⟨l,h1,h2⟩ hn⟩
    · exact⟨ow b,fun l' h1' h2'=>absurd ⟨l',h1',h2'⟩ hh,fun l' h1' h2'=>absurd ⟨l',h1',h2'⟩ hn,fun _ _=>rfl⟩
 obtain⟨ow',how⟩:=Classical.axiomOfChoice hex
 have hβ1:∀ l,l∈us.map (·.1)->β' l=blk l:=fun l hl=>by show(if _ then _ else _)=_;rw[aTd hl]
 have hβ2:∀ l,l∉us.map (·.1)->β' l=β l:=fun l hl=>by show(if _ then _ else _)=_;rw[aTc hl]
 have how1:∀ b l,l∈us.map (·.1)->blk l=some (some b)->ow' b=.lab l:=fun b l h1 h2=>(how b).1 l h1 h2
 have how2:∀ b l,l∈us.map (·.1)->b∈nest l->ow' b=.obj l:=fun b l h1 h2=>(how b).2.1 l h1 h2
 have how3:∀ b,b<w.heap.size->ow' b=ow b:=by
  intro b hlt
  have hh:¬∃ l,l∈us.map (·.1)/\blk l=some (some b):=fun⟨l',h1,h2⟩=>by have:=(hB b (hr.inB l' h1 b h2)).1;omega
  have hn:¬∃ l,l∈us.map (·.1)/\b∈nest l:=fun⟨l',h1,h2⟩=>by have:=(hB b ((hr.nd l' h1).2 b h2)).1;omega
  exact(how b).2.2 hh hn
 have hlt':∀ b,fP w' b->b<w'.heap.size:=by
  rintro b ⟨cs,t,e⟩
  rcases aUn b w'.heap.size with h | h
  · exact h
  · simp[aUa h]at e
 have hIm:∀ b,Im Γ ow w b->Im Γ ow' w' b:=fun b ⟨h1,h2,h3⟩=>⟨aTp h1 hb.size,h2,fun l=>by rw[how3 b h1];exact h3 l⟩
 have hFree:∀ b,b<w.heap.size->fP w b->fP w' b:=fun b hlt ⟨cs,t,hc⟩=>⟨cs,t,by rw[hb.block b hlt];exact hc⟩
 have hkeep:∀ m,m∉us.map (·.1)->KeepB w.heap w'.heap β β' m:=by
  intro m hm o ho
  rw[hβ2 m hm]at ho
  refine⟨ho,fun b hob cs t hc=>⟨cs,?_,rfl⟩⟩
  subst hob
  rw[hb.block b (h.block_lt ho)];exact hc
 refine⟨ow',β',hβ1,fun b h1 h2=>(how b).2.2 h1 h2,{ size:=h.size,defers:=h.defers,kept:=?_,slots:=fun k=>?_,objs:=fun l ob hl=>?_,gone:=fun l hl=>?_,own:=fun b hb'=>?_,ios:=fun m b hm hs=>?_,fresh:=fun l b hl hi=>?_ }⟩
 · exact⟨hb.os.trans h.kept.os,hb.output.trans h.kept.output,hb.tape.trans h.kept.tape,aTr h.kept.size hb.size,
    fun b h1 h2 hmi=>(hb.block b (aTp h1 h.kept.size)).trans (h.kept.old b h1 h2 hmi),
    fun b h1 hmi cs t h2=>by
     obtain⟨cs',h3,h4⟩:=h.kept.ios b h1 hmi cs t h2
     exact⟨cs',by rw[hb.block b (aTp h1 h.kept.size)];exact h3,h4⟩⟩
 · obtain⟨B',h1,h2,h3⟩:=h.slots k
   refine⟨B',aWl _ _ _ (fun l hl=>hkeep l (fun e=>(hnl l e).1 k hl)) (fun b hbO=>hb.block b (h2 b hbO).1) h1,fun b hbO=>hIm b (h2 b hbO),fun hd=>⟨(h3 hd).1,fun b hbO=>⟨?_,hFree b (h2 b hbO).1 ((h3 hd).2 b hbO).2⟩⟩⟩
   rw[how3 b (h2 b hbO).1];exact((h3 hd).2 b hbO).1
 · simp only[Env.app]at hl
   by_cases hm:l∈us.map (·.1)
   · rw[cF _ _ _ hm]at hl
     obtain⟨cells,e1,g⟩:=hr.ob l hm
     rw[e1]at hl;cases hl
     have hnB:=hr.nd l hm
     refine⟨nest l,fun b hbn=>⟨hlt' b (hB b (hnB.2 b hbn)).2,.inr (.inl (.inl (aTr h.kept.size (hB b (hnB.2 b hbn)).1))),fun l'=>by rw[how2 b l hm hbn];simp⟩,fun _=>⟨hnB.1,fun b hbn=>⟨how2 b l hm hbn,(hB b (hnB.2 b hbn)).2⟩⟩,?_⟩
     rcases g with⟨g1,g2,g3⟩ | ⟨b,cs,t,g1,g2,g3⟩
     · exact .inl ⟨(hβ1 l hm).trans g1,g2,g3⟩
     · exact .inr ⟨b,cs,t,(hβ1 l hm).trans g1,how1 b l hm g1,g2,by simpa using g3⟩
   · rw[bH _ _ _ hm]at hl
     obtain⟨B',h1,h2,h3⟩:=h.objs l ob hl
     refine⟨B',fun b hbO=>hIm b (h1 b hbO),fun hd=>⟨(h2 hd).1,fun b hbO=>⟨by rw[how3 b (h1 b hbO).1];exact((h2 hd).2 b hbO).1,hFree b (h1 b hbO).1 ((h2 hd).2 b hbO).2⟩⟩,?_⟩
     rcases h3 with⟨g1,g2,g3⟩ | ⟨b,cs,t,g1,g2,g3,g4⟩
     · exact .inl ⟨(hβ2 l hm).trans g1,g2,g3⟩
     · refine .inr ⟨b,cs,t,(hβ2 l hm).trans g1,by rw[how3 b (h.block_lt g1)];exact g2,by rw[hb.block b (h.block_lt g1)];exact g3,?_⟩
       cases hbx:ob.box with
       | true=>rw[hbx]at g4;exact aWk _ _ _ _ (fun p hp m hm'=>hkeep m (fun e=>(hnl m e).2.1 l ob hl hbx p hp hm')) (fun b hbO=>hb.block b (h1 b hbO).1) g4
       | false=>rw[hbx]at g4;exact aWk _ _ _ _ (fun _ _ l _=>aWC _ _ l) (fun b hbO=>hb.block b (h1 b hbO).1) g4
 · simp only[Env.app]at hl
   by_cases hm:l∈us.map (·.1)
   · rw[cF _ _ _ hm]at hl
     obtain⟨cells,e1,_⟩:=hr.ob l hm
     rw[e1]at hl;cases hl
   · rw[bH _ _ _ hm]at hl
     rw[hβ2 l hm];exact h.gone l hl
 · by_cases hlt:b<w.heap.size
   · rw[how3 b hlt]at hb'
     obtain⟨g1,g2⟩:=h.own b hb'
     exact⟨aTp g1 hb.size,by rw[how3 b hlt];exact g2⟩
   · have hmem:b∈B:=by
      rcases aUR (∃ l,l∈us.map (·.1)/\blk l=some (some b))with⟨l,h1,h2⟩ | hh
      · exact hr.inB l h1 b h2
      · rcases aUR (∃ l,l∈us.map (·.1)/\b∈nest l)with⟨l,h1,h2⟩ | hn
        · exact(hr.nd l h1).2 b h2
        · exfalso
          have e:ow' b=ow b:=(how b).2.2 hh hn
          rw[e]at hb'
          exact hlt (h.own b hb').1
     exact⟨hlt' b (hB b hmem).2,.inl (.inl (.inl (aTr h.kept.size (hB b hmem).1)))⟩
 · have hmn:m∉us.map (·.1):=fun e=>by rw[hio m e]at hm;cases hm
   simp only[Env.app]at hs
   rw[bH _ _ _ hmn]at hs
   rw[hβ2 m hmn];exact h.ios m b hm hs
 · by_cases hm:l∈us.map (·.1)
   · rw[hβ1 l hm]at hl
     exact .inl (aTr h.kept.size (hB b (hr.inB l hm b hl)).1)
   · rw[hβ2 l hm]at hl;exact h.fresh l b hl hi
theorem SimG.growLay (h:SimG Γ ow β F a w){w':World}(hb:Below w.heap.size w w'){us:List (Nat×Option Ob)}{blk:Nat->Option (Option Nat)}{nest:Nat->List Nat}{B:List Nat}(hr:Rows us w'.heap blk nest B)
 (hB:∀ b∈B,w.heap.size<=b/\fP w' b) (hnl:∀ l∈us.map (·.1),NoLab F l) (hio:∀ l∈us.map (·.1),Γ.io l=none) :
 ∃ ow' β',(∀ l∈us.map (·.1),β' l=blk l)/\SimG Γ ow' β' (F.app ⟨[],us⟩) a w':=by
 obtain⟨ow',β',h1,_,h2⟩:=h.growLayX hb hr hB hnl hio
 exact⟨ow',β',h1,h2⟩
def yP:List PV->Nat->List PV
 | [],_=>[]
 | .rw s n _::r,L=>.ref L s 0 n::yP r (L+1)
 | p::r,L=>p::yP r (L+1)
def jH:List PV->Nat->List (Nat×Option Ob)
 | [],_=>[]
 | .rw _ _ cells::r,L=>(L,some ⟨cells,true,false⟩)::jH r (L+1)
 | _::r,L=>jH r (L+1)
theorem aHf:∀ (vs:List PV) (L:Nat),(yP vs L).length=vs.length
 | [],_=>rfl
 | p::r,L=>by cases p <;> simp[yP,aHf r]
def sF:List PV->Bool
 | []=>true
 | .rw _ _ _::r=>sF r
 | p::r=>flat p&&sF r
theorem aM4 {p:PV}(h:flat p=true):p.labs=[]:=by
 have key:∀ cells:List PV,(cells.all fun | .sc _=>true | _=>false)=true->aAg cells=[]:=by
  intro cells
  induction cells with
  | nil=>intro _;rfl
  | cons x r ih =>
   intro hh
   simp only[List.all_cons,aTB]at hh
   cases x with
   | sc v=>simp only[aAg,PV.labs,aTi];exact ih hh.2
   | _=>simp at hh
 cases p with
 | sc v=>rfl
 | agg cells=>simp only[PV.labs];exact key cells h
 | tup vs =>
  simp only[PV.labs]
  simp only[flat]at h
  induction vs with
  | nil=>rfl
  | cons x r ih =>
   simp only[List.all_cons,aTB]at h
   simp only[aAg]
   rw[ih h.2]
   cases x with
   | sc v=>rfl
   | agg cells=>simp only[PV.labs,aUf];exact key cells h.1
   | _=>simp at h
 | _=>simp[flat]at h
theorem aDJ:∀ {vs:List PV} {L l:Nat},l∈(jH vs L).map (·.1)->L<=l
 | [],_,_,h=>by simp[jH]at h
 | p::r,L,l,h=>by
  cases p with
  | rw s n cells =>
   simp only[jH,aTo,aTf]at h
   rcases h with rfl | h
   · exact aTn _
   · have:=aDJ h;omega
  | _=>simp only[jH]at h;have:=aDJ h;omega
theorem aFq {h:Array Obj}{q:Bool}:∀ (vs:List PV) (cs:Array Value) (i:Nat) (B:List Nat) (L:Nat),RelL h q dead vs cs i B->sF vs=true->B.Nodup->
 ∃ blk nest,Rows (jH vs L) h blk nest B/\∀ β',(∀ l∈(jH vs L).map (·.1),β' l=blk l)->RelL h q β' (yP vs L) cs i []
 | [],cs,i,B,L,_,_,_=>⟨fun _=>none,fun _=>[],⟨by simp[jH],by simp[jH],by simp[jH],by simp[jH],by simp[jH],by simp[jH]⟩,by simp[yP,RelL]⟩
 | p::r,cs,i,B,L,H,hok,hnd=>by
  simp only[RelL]at H
  obtain⟨c,B1,B2,h1,h2,h3,rfl⟩:=H
  have hnd':=aTw.1 hnd
  have rest:sF r=true:=by
   cases p with
   | rw s n cells=>exact hok
   | _=>simp only[sF,aTB]at hok;exact hok.2
  obtain⟨blk,nest,hr,hrel⟩:=aFq r cs (i+1) B2 (L+1) h3 rest hnd'.2.1
  have hgt:∀ l,l∈(jH r (L+1)).map (·.1)->l≠L:=fun l hl e=>by have:=aDJ hl;omega
  have other:flat p=true->jH (p::r) L=jH r (L+1)->yP (p::r) L=p::yP r (L+1)->∃ blk nest,Rows (jH (p::r) L) h blk nest (B1++B2)/\∀ β',(∀ l∈(jH (p::r) L).map (·.1),β' l=blk l)->RelL h q β' (yP (p::r) L) cs i []:=by
   intro hf e1 e2
   rw[e1,e2]
   refine⟨blk,nest,⟨hr.ob,fun l hl=>⟨(hr.nd l hl).1,fun c hc=>aT7 _ ((hr.nd l hl).2 c hc)⟩,fun l hl b hb=>aT7 _ (hr.inB l hl b hb),hr.bb,hr.bn,hr.nn⟩,fun β' hβ'=>?_⟩
   simp only[RelL]
   have:=aDq hf h2
   subst this
   exact⟨c,[],[],h1,h2.nolab (aM4 hf),hrel β' hβ',rfl⟩
  cases p with
  | rw s n cells =>
   simp only[RelV]at h2
   have main:∀ (o:Option Nat) (ns:List Nat),((o=none/\cells=[]/\ns=[]/\n=0/\c=.slice none 0 0)\/∃ b cap cs' t,o=some b/\(c=.slice (some ⟨b,0,none⟩) n cap/\n<=cap/\cap*s<=cs'.size)/\h[b]?=some (.cells cs' t (0,0))/\RelL h true dead cells cs' 0 ns)->
    ns.Nodup->(∀ c∈ns,c∈B1)->(∀ b,o=some b->b∈B1/\b∉ns)->∃ blk nest,Rows (jH (.rw s n cells::r) L) h blk nest (B1++B2)/\∀ β',(∀ l∈(jH (.rw s n cells::r) L).map (·.1),β' l=blk l)->RelL h q β' (yP (.rw s n cells::r) L) cs i []:=by
    intro o ns hcase hns hsub hob
    have hdis:∀ x,x∈B1->x∉B2:=fun x h1 h2=>hnd'.2.2 x h1 x h2 rfl
    refine⟨fun l=>if l=L then some o else blk l,fun l=>if l=L then ns else nest l,⟨?_,?_,?_,?_,?_,?_⟩,fun β' hβ'=>?_⟩
    · intro l hl
      simp only[jH,aTo,aTf]at hl
      simp only[jH,aI]
      rcases hl with rfl | hl
      · refine⟨cells,by simp,?_⟩
        simp only[aTz]
        rcases hcase with⟨rfl,g1,g2,_⟩ | ⟨b,cap,cs',t,rfl,_,g2,g3⟩
        · exact .inl ⟨rfl,g1,g2⟩
        · exact .inr ⟨b,cs',t,rfl,g2,g3⟩
      · have hne:=hgt l hl
        obtain⟨cl,g1,g2⟩:=hr.ob l hl
        exact⟨cl,by rw[aTc (fun e=>hne e.symm)];exact g1,by simp only[hne,aTD];exact g2⟩
    · intro l hl
      simp only[jH,aTo,aTf]at hl
      rcases hl with rfl | hl
      · simp only[aTz];exact⟨hns,fun c hc=>aT5 _ (hsub c hc)⟩
      · simp only[hgt l hl,aTD];exact⟨(hr.nd l hl).1,fun c hc=>aT7 _ ((hr.nd l hl).2 c hc)⟩
    · intro l hl b hb
      simp only[jH,aTo,aTf]at hl
      rcases hl with rfl | hl
      · simp only[aTz]at hb;exact aT5 _ (hob b (Option.some.inj hb)).1
      · simp only[hgt l hl,aTD]at hb;exact aT7 _ (hr.inB l hl b hb)
    · intro l hl l' hl' b hb hb'
      simp only[jH,aTo,aTf]at hl hl'
      rcases hl with rfl | hl <;> rcases hl' with rfl | hl'
      · rfl
      · simp only[aTz]at hb;simp only[hgt l' hl',aTD]at hb'
        exact absurd (hr.inB l' hl' b hb') (hdis b (hob b (Option.some.inj hb)).1)
      · simp only[aTz]at hb';simp only[hgt l hl,aTD]at hb
        exact absurd (hr.inB l hl b hb) (hdis b (hob b (Option.some.inj hb')).1)
      · simp only[hgt l hl,aTD]at hb;simp only[hgt l' hl',aTD]at hb'
        exact hr.bb l hl l' hl' b hb hb'
    · intro l hl l' hl' b hb hb'
      simp only[jH,aTo,aTf]at hl hl'
      rcases hl with rfl | hl <;> rcases hl' with rfl | hl'
      · simp only[aTz]at hb hb';exact(hob b (Option.some.inj hb)).2 hb'
      · simp only[aTz]at hb;simp only[hgt l' hl',aTD]at hb'
        exact hdis b (hob b (Option.some.inj hb)).1 ((hr.nd l' hl').2 b hb')
      · simp only[aTz]at hb';simp only[hgt l hl,aTD]at hb
        exact hdis b (hsub b hb') (hr.inB l hl b hb)
      · simp only[hgt l hl,aTD]at hb;simp only[hgt l' hl',aTD]at hb'
        exact hr.bn l hl l' hl' b hb hb'
    · intro l hl l' hl' x hx hx'
      simp only[jH,aTo,aTf]at hl hl'
      rcases hl with rfl | hl <;> rcases hl' with rfl | hl'
      · rfl
      · simp only[aTz]at hx;simp only[hgt l' hl',aTD]at hx'
        exact absurd ((hr.nd l' hl').2 x hx') (hdis x (hsub x hx))
      · simp only[aTz]at hx';simp only[hgt l hl,aTD]at hx
        exact absurd ((hr.nd l hl).2 x hx) (hdis x (hsub x hx'))
      · simp only[hgt l hl,aTD]at hx;simp only[hgt l' hl',aTD]at hx'
        exact hr.nn l hl l' hl' x hx hx'
    · simp only[yP,RelL]
      have eL:β' L=some o:=by have:=hβ' L (by simp[jH]);simpa using this
      refine⟨c,[],[],h1,?_,hrel β' (fun l hl=>?_),rfl⟩
      · simp only[RelV]
        rcases hcase with⟨rfl,g1,g2,g3,g4⟩ | ⟨b,cap,cs',t,rfl,⟨g1,g2,g3⟩,g4,_⟩
        · refine⟨?_,fun _=>⟨g3,?_,g4⟩,fun b e=>by rw[eL]at e;cases e⟩ <;> trivial
        · refine⟨by trivial,(fun e=>by rw[eL]at e;cases e),fun b' e=>?_⟩
          rw[eL]at e;cases e
          exact⟨cap,cs',t,by simpa using g1,g4,by simpa using g3,g2⟩
      · have:=hβ' l (by simp only[jH,aTo,aTf];exact .inr hl)
        rw[this];simp only[hgt l hl,aTD]
   rcases h2 with⟨e1,e2,e3,e4⟩ | ⟨b,cap,cs',t,O',e1,e2,e3,rfl⟩
   · exact main none [] (.inl ⟨rfl,e2,rfl,e1,e4⟩) (by simp) (by simp) (by simp)
   · have hb1:=aUe.1 hnd'.1
     exact main (some b) O' (.inr ⟨b,cap,cs',t,rfl,e1,e2,e3⟩) hb1.2 (fun c hc=>by simp[hc]) (fun b' e=>by cases e;exact⟨by simp,hb1.1⟩)
  | sc v=>exact other (by simp only[sF,aTB]at hok;exact hok.1) rfl rfl
  | sl n cells=>simp[sF,flat]at hok
  | ref l s off n=>simp[sF,flat]at hok
  | ptr l k=>simp[sF,flat]at hok
  | iptr cells=>simp[sF,flat]at hok
  | agg cells=>exact other (by simp only[sF,aTB]at hok;exact hok.1) rfl rfl
  | tup vs=>exact other (by simp only[sF,aTB]at hok;exact hok.1) rfl rfl
  | any=>simp[sF,flat]at hok
  | was v p=>simp[sF,flat]at hok
variable {d:Nat}{ty:TypeId}{pos:String}{af:Array Edge}{g:Option (Nat×Bool)}
def aJN:List (Nat×Option Ob)->List Nat
 | []=>[]
 | (l,_)::r=>l::aJN r
theorem aJM:∀ (us:List (Nat×Option Ob)),aJN us=us.map (·.1)
 | []=>rfl
 | (l,o)::r=>by simp[aJN,aJM r]
def aK1 (Γ:Ctx P N):List Nat->Prop
 | []=>True
 | l::r=>Γ.io l=none/\aK1 Γ r
theorem aEl:∀ {ls:List Nat},aK1 Γ ls->∀ l∈ls,Γ.io l=none
 | [],_,_,h=>by cases h
 | x::r,h,l,hl=>by
  rcases aTf.1 hl with rfl | hl
  · exact h.1
  · exact aEl h.2 l hl
theorem aQz {f:FuncId}[hfc:FnC P f]{xs:List Operand}{us:Array TypeId}{ps:List PV}{ls:List Nat}{vs vs':List PV}{os:List (Nat×Option Ob)}(L:Nat)(ha:ArgsV S O xs ps ls)(hm:Meets P f ps (.tup vs) true)(hok:sF vs=true)
 (hv:yP vs L=vs') (ho:jH vs L=os) (hio:aK1 Γ (aJN os)) (hd:Nat.blt d N=true) :
 Local Γ ⟨some d,.call ⟨.value (.func f),xs.toArray,us⟩,ty,pos,af,g⟩ ⟨S,O⟩ ⟨[(d,⟨.tup vs',false⟩)],os⟩ (pE xs) ls (aJN os):=by
 intro F hs hl hnd a w ⟨ow,β,hsim⟩ Q
 subst hv;subst ho
 have hdN:=(aT _ _).1 hd
 have hargs:=aAj hsim ha hs hl
 unfold Oper.wp
 have hrun:(execOp a.eval ⟨some d,.call ⟨.value (.func f),xs.toArray,us⟩,ty,pos,af,g⟩).run P w=.ok (.enter f (xs.map a.eval).toArray) w:=by
  simp[execOp,resolve,Act.eval,Deferred.ofValue,invoke,hfc.run]
 rw[hrun]
 show Calls _ _ _ _ _
 refine(hm w (xs.map a.eval).toArray (fun b=>Im Γ ow w b\/∃ l∈ls,ow b=.lab l) (by simpa using hargs)).mono fun e w' ⟨c,B,he,hb,h1,h2,h3⟩=>?_
 subst he
 show Sim Γ _ _ _
 obtain⟨n1,n2⟩:=h3 rfl
 simp only[RelV]at h1
 obtain⟨cs,rfl,q2,q3⟩:=h1
 obtain⟨blk,nest,hr,hrel⟩:=aFq vs cs 0 B L q3 hok n1
 rw[aJM]at hnd hio
 obtain⟨ow',β',hβ,h'⟩:=hsim.growLay hb hr n2 hnd (aEl hio)
 have h2:=h'.put (d:=d) (v:=.tup (yP vs L)) (c:=.tuple cs) (O:=[]) hdN (by
  simp only[RelV]
  refine⟨cs,rfl,?_,hrel β' hβ⟩
  rw[q2,aHf]) (by simp)
 exact⟨_,_,h2.congr (fun k=>rfl) (fun l=>rfl)⟩
theorem aE4 {f:FuncId}[hfc:FnC P f]{xs:List Operand}{us:Array TypeId}{ps:List PV}{ls:List Nat}{s n:Nat}{cells:List PV}(ha:ArgsV S O xs ps ls)(hm:Meets P f ps (.rw s n cells) true)(hio:Γ.io d=none)(hd:Nat.blt d N=true) :
 Local Γ ⟨some d,.call ⟨.value (.func f),xs.toArray,us⟩,ty,pos,af,g⟩ ⟨S,O⟩ ⟨[(d,⟨.ref d s 0 n,false⟩)],[(d,some ⟨cells,true,false⟩)]⟩ (pE xs) ls [d]:=by
 intro F hs hl hnd a w ⟨ow,β,hsim⟩ Q
 have hdN:=(aT _ _).1 hd
 have hargs:=aAj hsim ha hs hl
 unfold Oper.wp
 have hrun:(execOp a.eval ⟨some d,.call ⟨.value (.func f),xs.toArray,us⟩,ty,pos,af,g⟩).run P w=.ok (.enter f (xs.map a.eval).toArray) w:=by
  simp[execOp,resolve,Act.eval,Deferred.ofValue,invoke,hfc.run]
 rw[hrun]
 show Calls _ _ _ _ _
 refine(hm w (xs.map a.eval).toArray (fun b=>Im Γ ow w b\/∃ l∈ls,ow b=.lab l) (by simpa using hargs)).mono fun e w' ⟨c,B,he,hb,h1,h2,h3⟩=>?_
 subst he
 show Sim Γ _ _ _
 obtain⟨n1,n2⟩:=h3 rfl
 have q3:RelL w'.heap false dead [.rw s n cells] #[c] 0 B:=by
  simp only[RelL]
  exact⟨c,B,[],⟨by simp,by simp⟩,h1,rfl,by simp⟩
 obtain⟨blk,nest,hr,hrel⟩:=aFq [.rw s n cells] #[c] 0 B d q3 rfl n1
 obtain⟨ow',β',hβ,h'⟩:=hsim.growLay hb hr n2 (by simpa [jH]using hnd d (by simp)) (by simpa [jH]using hio)
 have h4:=hrel β' hβ
 simp only[yP,RelL]at h4
 obtain⟨c',B1,B2,g1,g2,_,g4⟩:=h4
 simp at g1;subst g1
 obtain⟨rfl,_⟩:=List.append_eq_nil_iff.1 g4.symm
 have h2:=h'.put (d:=d) (v:=.ref d s 0 n) (c:=c) (O:=[]) hdN g2 (by simp)
 exact⟨_,_,h2.congr (fun k=>rfl) (fun l=>rfl)⟩
theorem aSc {x:Operand}{vs:List PV}{i:Nat}{p:PV}(hx:evq S x=some (.tup vs))(hp:vs[i]?=some p)(hd:Nat.blt d N=true) :
 Local Γ ⟨some d,.extract x i,ty,pos,af,g⟩ ⟨S,O⟩ ⟨[(d,⟨p,false⟩)],[]⟩ (ors x) [] []:=by
 intro F hs _ _
 refine bK fun a w ⟨ow,β,hsim⟩=>?_
 obtain⟨B,h1,h2⟩:=dG hsim hx hs
 simp only[RelV]at h1
 obtain⟨cs,e1,e2,e3⟩:=h1
 obtain⟨c,B1,g1,_,g3,g4⟩:=e3.get _ _ _ _ i p hp
 rw[aTC]at g1
 exact⟨c,w,by simp[execOp,e1,Instr.extract,g1],ow,β,hsim.put ((aT _ _).1 hd) g3 (fun b hb=>h2 b (g4 b hb))⟩
theorem Res1.refW {t l s n:Nat}{cells:List PV}{dp dp0:Bool}(h:lkq S t=some ⟨.ref l s 0 n,dp0⟩)(ho:loq O l=some ⟨cells,dp,false⟩)(hio:Γ.io l=none):Res1 Γ ⟨S,O⟩ (.tmp t) (.rw s n cells) (if dp then .obj l else .none):=by
 intro ow β a w hs
 obtain⟨B,h1,_⟩:=hs.slots t
 rw[fM h]at h1
 simp only[RelV]at h1
 obtain⟨Bo,o1,o2,hob⟩:=hs.objs l ⟨cells,dp,false⟩ (by rw[<- bP];exact ho)
 rcases hob with⟨p1,p2,p3⟩ | ⟨b,cs,u,p1,p2,p3,p4⟩
 · obtain⟨rfl,_,e⟩:=h1.2.1 p1
   simp only at p2;subst p2
   exact⟨_,[],rfl,by simp only[RelV];exact .inl ⟨trivial,trivial,trivial,e⟩,by simp,by simp⟩
 · obtain⟨cap,cs',u',q1,q0,q3,q4⟩:=h1.2.2 b p1
   rw[p3]at q0;cases q0
   simp only[aU6,aTC]at q1 q3
   refine⟨_,b::Bo,rfl,by simp only[RelV];exact .inr ⟨b,cap,cs,u,Bo,⟨q1,q4,q3⟩,p3,by simpa using p4,rfl⟩,fun c hc=>?_,fun hne=>?_⟩
   · rcases aTf.1 hc with rfl | hc
     · exact⟨hs.block_lt p1,.inr (.inl (hs.fresh l _ p1 hio))⟩
     · exact⟨(o1 c hc).1,(o1 c hc).2.1⟩
   · cases dp with
     | false=>simp at hne
     | true =>
      obtain⟨n1,n2⟩:=o2 rfl
      refine⟨aUe.2 ⟨fun hb=>(o1 b hb).2.2 l p2,n1⟩,fun c hc=>?_⟩
      rcases aTf.1 hc with rfl | hc
      · exact⟨⟨_,_,p3⟩,.inl (hs.fresh l _ p1 hio),.inr ⟨l,p2,rfl⟩⟩
      · have e:=n2 c hc
        refine⟨e.2,?_,.inl (by simpa [ResO.own]using e.1)⟩
        rcases(hs.own c (by rw[e.1];simp)).2 with g | ⟨l',g,_⟩
        · exact g
        · rw[e.1]at g;cases g
theorem RetIs.rW {t l s n:Nat}{cells:List PV}{dp dp0 deep:Bool}(h:lkq S t=some ⟨.ref l s 0 n,dp0⟩)(ho:loq O l=some ⟨cells,dp,false⟩)(hd:dp=true)(hio:Γ.io l=none):RetIs Γ #[.tmp t] ⟨S,O⟩ (.rw s n cells) deep:=by
 subst hd;exact aWM (Res1.refW h ho hio) (fun _=>by simp)
theorem Res1.nilW {t s:Nat}{dp:Bool}(h:lkq S t=some ⟨.sc (.slice none 0 0),dp⟩):Res1 Γ ⟨S,O⟩ (.tmp t) (.rw s 0 []) (.slot t):=by
 intro ow β a w hs
 obtain⟨B,h1,_,_⟩:=hs.slots t
 rw[fM h]at h1
 simp only[RelV]at h1
 exact⟨_,[],rfl,by simp only[RelV];exact .inl ⟨trivial,trivial,trivial,h1.1⟩,by simp,by simp⟩
theorem RelV.soft {h:Array Obj}{β:Nat->Option (Option Nat)}{s n:Nat}{cells:List PV}{c:Value}{B:List Nat}(H:RelV h β (.rw s n cells) c B):RelV h β (.sl n cells) c B:=by
 simp only[RelV]at H ⊢
 rcases H with⟨h1,h2,h3,h4⟩ | ⟨b,cap,cs,t,O',⟨h1,h2,_⟩,h3,h4,h5⟩
 · exact .inl ⟨h1,h2,h3,none,0,h4⟩
 · exact .inr ⟨b,0,cap,cs,t,(0,0),O',⟨h1,h2⟩,h3,h4,h5⟩
theorem Meets.soft {f:FuncId}{args:List PV}{s n:Nat}{cells:List PV}{deep:Bool}(h:Meets P f args (.rw s n cells) deep):Meets P f args (.sl n cells) deep :=
 fun w cargs ok ha=>(h w cargs ok ha).mono fun _ _ ⟨c,B,h1,h2,h3,h4⟩=>⟨c,B,h1,h2,h3.soft,h4⟩
theorem RetX.mk {rs:Array ResultVar}{r:PV}{deep:Bool}{objs:List XO}{E:Env}(h:RetIs Γ rs E r deep)(ho:∀ o∈objs,∃ dp,lo E.o o.l=some ⟨o.new,dp,false⟩):RetX Γ rs E r deep objs:=⟨h,fun _ _ hs=>⟨E,hs,ho⟩⟩
theorem RetX.weak {E E0:Env}{rs:Array ResultVar}{r:PV}{deep:Bool}{objs:List XO}(he:Ent Γ E E0)(h:RetX Γ rs E0 r deep objs):RetX Γ rs E r deep objs:=⟨aWe he h.1,fun a w hs=>h.2 a w (he a w hs)⟩
end
section
variable {P:Program}{N:Nat}{Γ:Ctx P N}{E:Env}{Q:Exit->Env->Prop}
def XRetX (Γ:Ctx P N)(rs:Array ResultVar)(r:PV)(deep:Bool)(objs:List XO)(e:Exit)(E:Env):Prop:=e=.ret/\RetX Γ rs E r deep objs
theorem XRetX.mk {rs:Array ResultVar}{r:PV}{deep:Bool}{objs:List XO}(h:RetX Γ rs E r deep objs):XRetX Γ rs r deep objs .ret E:=⟨rfl,h⟩
theorem XRetX.out {rs:Array ResultVar}{r:PV}{deep:Bool}{objs:List XO}{e:Exit}(h:XRetX Γ rs r deep objs e E):e=.ret/\RetX Γ rs E r deep objs:=h
theorem z12 {rs:Array ResultVar}{r:PV}{deep:Bool}{objs:List XO}(h:RetX Γ rs E r deep objs):aAh Γ rs r deep objs .ret E:=h
theorem xo1 {p:XO->Prop}{x:XO}(h:p x):∀ o∈[x],p o:=by intro o ho;rw[aTU]at ho;subst ho;exact h
theorem xo2 {p:XO->Prop}{x y:XO}(h:p x)(h2:p y):∀ o∈[x,y],p o:=by
 intro o ho
 rcases aTf.1 ho with rfl | ho
 · exact h
 · rw[aTU]at ho;subst ho;exact h2
theorem aLT {α:Type}{enc:α->List PV}{a r:List α}{l sz:Nat}(hl:r.length=a.length)(h:∀ y,(enc y).length=sz)(h0:0<sz):(XO.mk l (a.flatMap enc) (r.flatMap enc)).old=[]->(XO.mk l (a.flatMap enc) (r.flatMap enc)).new=[]:=by
 intro e
 have:a.flatMap enc=[]:=e
 have:=congrArg List.length this
 rw[aS h,aUq]at this
 have ha:a.length=0:=by
  rcases Nat.mul_eq_zero.1 this with h | h
  · exact h
  · omega
 have hr:r=[]:=aTq.1 (hl.trans ha)
 show r.flatMap enc=[]
 rw[hr];rfl
variable {S:List (Nat×Slot)}{O:List (Nat×Option Ob)}{d:Nat}{ty:TypeId}{pos:String}{af:Array Edge}{g:Option (Nat×Bool)}
end
def aWS:=@RetX.weak
def aWW:=@RetX.mk
/- The engine, part Y: rows within rows: an own row taken out of another and put back; rows with rows within, handed over. -/
open Go.RowKit (Below)
section
variable {P:Program}{N:Nat}{Γ:Ctx P N}{S:List (Nat×Slot)}{O:List (Nat×Option Ob)}{ow:Nat->Own}{β:Nat->Option (Option Nat)}{F:Env}{a:Act}{w:World}
def aH4 (s:Slot):Slot:=bif yV s then s else⟨.any,false⟩
def aH3:List (Nat×Slot)->List (Nat×Slot)
 | []=>[]
 | (k,s)::r=>(k,aH4 s)::aH3 r
theorem aDH:∀ (s:List (Nat×Slot)) (k:Nat),lk (aH3 s) k=aH4 (lk s k)
 | [],k=>rfl
 | (j,v)::r,k=>by
  simp only[aH3,dO]
  by_cases h:j=k
  · rw[aTd h,aTd h]
  · rw[aTc h,aTc h];exact aDH r k
def yU (ls:List Nat):List (Nat×Option Ob)->Bool
 | []=>true
 | (_,none)::r=>yU ls r
 | (m,some ob)::r=>(uE ls m||aAv ob)&&yU ls r
theorem aCC {ls:List Nat}:∀ {O:List (Nat×Option Ob)},yU ls O=true->∀ m ob,lo O m=some ob->m∉ls->aAv ob=true
 | [],_,m,ob,h,_=>by simp[lo]at h
 | (j,none)::r,hq,m,ob,h,hm=>by
  rw[aI]at h
  by_cases hj:j=m
  · rw[aTd hj]at h;cases h
  · rw[aTc hj]at h;exact aCC (O:=r) hq m ob h hm
 | (j,some o)::r,hq,m,ob,h,hm=>by
  simp only[yU,aTB,aT2]at hq
  rw[aI]at h
  by_cases hj:j=m
  · rw[aTd hj]at h;cases h
    rcases hq.1 with e | e
    · subst hj;exact absurd ((lJ _ _).1 e) hm
    · exact e
  · rw[aTc hj]at h;exact aCC hq.2 m ob h hm
theorem RelL.at {h:Array Obj}{β:Nat->Option (Option Nat)}{cells:List PV}{cs:Array Value}{O:List Nat}{c:Nat}{p:PV}(H:RelL h true β cells cs 0 O)(hc:cells[c]?=some p) :
 ∃ v O1 Oc O2,cs[c]?=some v/\v.oneCell'=true/\RelV h β p v Oc/\RelL h true β (cells.take c) cs 0 O1/\RelL h true β (cells.drop (c+1)) cs (c+1) O2/\O=O1++(Oc++O2):=by
 have hlt:c<cells.length:=(aTH.1 hc).1
 have e:cells=cells.take c++p::cells.drop (c+1):=by
  rw[<- (aTH.1 hc).2,List.getElem_cons_drop,aT6]
 rw[e]at H
 obtain⟨O1,O3,h1,h2,rfl⟩:=(aWA _ _ _ _ _).1 H
 simp only[RelL]at h2
 obtain⟨v,Oc,O2,g1,g2,g3,rfl⟩:=h2
 have hl:(cells.take c).length=c:=by rw[aTS];omega
 rw[hl,aTC]at g1 g3
 exact⟨v,O1,Oc,O2,g1.1,by simpa using g1.2,g2,h1,g3,rfl⟩
theorem RelL.put {h:Array Obj}{β:Nat->Option (Option Nat)}{cells:List PV}{cs:Array Value}{c:Nat}{p q:PV}{v:Value}{O1 Oc O2:List Nat}(hc:cells[c]?=some p)(hv:cs[c]?=some v)(h1c:v.oneCell'=true)(hq:RelV h β q v Oc)
 (h1:RelL h true β (cells.take c) cs 0 O1) (h2:RelL h true β (cells.drop (c+1)) cs (c+1) O2):RelL h true β (cells.set c q) cs 0 (O1++(Oc++O2)):=by
 have hlt:c<cells.length:=(aTH.1 hc).1
 have hl:(cells.take c).length=c:=by rw[aTS];omega
 rw[List.set_eq_take_append_cons_drop,aTd hlt]
 refine(aWA _ _ _ _ _).2 ⟨O1,Oc++O2,h1,?_,rfl⟩
 simp only[RelL]
 rw[hl,aTC]
 exact⟨v,Oc,O2,⟨hv,fun _=>h1c⟩,hq,h2,rfl⟩
theorem Ent.unpack (l L c:Nat){s n:Nat}{cells cs':List PV}{bx:Bool}(ho:loq O l=some ⟨cells,true,bx⟩)(hc:cells[c]?=some (.rw s n cs'))(hbx:(bx||gD cells)=true)(hq:yU [l] O=true)(hL:sD ⟨S,O⟩ L=false)(hlo:loq O L=none)(hio:Γ.io L=none)(hle:∀ b,¬Γ.lent b) :
 Ent Γ ⟨S,O⟩ ⟨aH3 S,(l,some ⟨cells.set c (.ref L s 0 n),true,true⟩)::(L,some ⟨cs',true,false⟩)::O⟩:=by
 classical
 rintro a w ⟨ow,β,h⟩
 have hnl:=NoLab.of_says hL
 have ho':lo (Env.mk S O).o l=some ⟨cells,true,bx⟩:=by rw[<- bP];exact ho
 have hlo':lo O L=none:=by rw[<- bP];exact hlo
 have hne:l≠L:=by rintro rfl;simp only at ho';rw[hlo']at ho';cases ho'
 obtain⟨Ol,o1,o2,o3⟩:=h.objs l _ ho'
 obtain⟨nd,o2⟩:=o2 rfl
 rcases o3 with⟨_,e,_⟩ | ⟨b0,cs,t,p1,p2,p3,p4⟩
 · simp only at e;subst e;simp at hc
 simp only at p4
 obtain⟨v,O1,Oc,O2,q1,q2,q3,q4,q5,rfl⟩:=p4.at hc
 have hrow:∃ (o:Option Nat) (ns:List Nat),Oc=o.toList++ns/\((o=none/\n=0/\cs'=[]/\ns=[]/\v=.slice none 0 0)\/∃ b cap cs2 t2,o=some b/\(v=.slice (some ⟨b,0,none⟩) n cap/\n<=cap/\cap*s<=cs2.size)/\w.heap[b]?=some (.cells cs2 t2 (0,0))/\RelL w.heap true dead cs' cs2 0 ns):=by
  simp only[RelV]at q3
  rcases q3 with⟨e1,e2,e3,e4⟩ | ⟨b,cap,cs2,t2,O',e1,e2,e3,e4⟩
  · exact⟨none,[],by simpa using e3,.inl ⟨rfl,e1,e2,rfl,e4⟩⟩
  · exact⟨some b,O',by simpa using e4,.inr ⟨b,cap,cs2,t2,rfl,e1,e2,e3⟩⟩
 obtain⟨o,ns,rfl,hcase⟩:=hrow
 have hbo:∀ b,o=some b->b∈O1++((o.toList++ns)++O2):=fun b e=>by subst e;simp
 have hns:∀ b∈ns,b∈O1++((o.toList++ns)++O2):=fun b hb=>by simp[hb]
 have nd1:=aTw.1 nd
 have nd2:=aTw.1 nd1.2.1
 have nd3:=aTw.1 nd2.1
 have hdis:∀ b,(o=some b\/b∈ns)->b∉O1++O2:=by
  intro b hb hm
  have hb':b∈o.toList++ns:=by
   rcases hb with e | e
   · subst e;simp
   · simp[e]
  rcases aTj.1 hm with hm | hm
  · exact nd1.2.2 b hm b (by simp only[aTj];exact .inl (aTj.1 hb')) rfl
  · exact nd2.2.2 b hb' b hm rfl
 have hon:∀ b,o=some b->b∉ns:=fun b e hb=>by subst e;exact nd3.2.2 b (by simp) b hb rfl
 let ow':Nat->Own:=fun b=>if o=some b then .lab L else if b∈ns then .obj L else ow b
 let β':Nat->Option (Option Nat):=fun m=>if m=L then some o else β m
 have hβL:β L=none:=h.gone L hlo'
 have hβ':∀ m,m≠L->β' m=β m:=fun m hm=>by show(if _ then _ else _)=_;rw[aTc hm]
 have hβ'L:β' L=some o:=by show(if _ then _ else _)=_;rw[aTd rfl]
 have howl:∀ b,(o=some b\/b∈ns)->ow b=.obj l:=fun b hb=>(o2 b (hb.elim (hbo b) (hns b))).1
 have how':∀ b,ow b≠.obj l->ow' b=ow b:=by
  intro b hb
  show(if _ then _ else if _ then _ else _)=_
  rw[aTc (fun e=>hb (howl b (.inl e))),aTc (fun e=>hb (howl b (.inr e)))]
 have how2:∀ b,b∈O1++O2->ow' b=.obj l:=by
  intro b hb
  show(if _ then _ else if _ then _ else _)=_
  rw[aTc (fun e=>hdis b (.inl e) hb),aTc (fun e=>hdis b (.inr e) hb)]
  exact(o2 b (by rcases aTj.1 hb with hb | hb <;> simp[hb])).1
 have how3:∀ b∈ns,ow' b=.obj L:=by
  intro b hb
  show(if _ then _ else if _ then _ else _)=_
  rw[aTc (fun e=>hon b e hb),aTd hb]
 have how4:∀ b,o=some b->ow' b=.lab L:=fun b e=>by show(if _ then _ else _)=_;rw[aTd e]
 have hkeep:∀ m,m≠L->KeepB w.heap w.heap β β' m:=fun m hm ob e=>⟨by rw[hβ' m hm]at e;exact e,fun b _ c t hc=>⟨c,hc,rfl⟩⟩
 have hImk:∀ b,Im Γ ow w b->ow b≠.obj l->Im Γ ow' w b:=fun b ⟨h1,h2,h3⟩ hn=>⟨h1,h2,fun m=>by rw[how' b hn];exact h3 m⟩
 refine⟨ow',β',{ size:=h.size,defers:=h.defers,kept:=h.kept,slots:=fun k=>?_,objs:=fun m ob hm=>?_,gone:=fun m hm=>?_,own:=fun b hb=>?_,ios:=fun m b hm hs=>?_,fresh:=fun m b hm hiom=>?_ }⟩
 · simp only[aDH]
   unfold aH4
   cases hqu:yV (lk S k)with
   | false=>exact⟨[],by simp[RelV],by simp,by simp⟩
   | true =>
    simp only[aVV]
    obtain⟨B,g1,g2,g3⟩:=h.slots k
    have g1':RelV w.heap β' (lk S k).v (a.tmps.getD k undef) B:=aWl _ _ _ (fun m hm=>hkeep m (fun e=>hnl.1 k (e▸hm))) (fun _ _=>rfl) g1
    unfold yV at hqu
    rw[aT2]at hqu
    rcases hqu with hd | hr
    · obtain⟨n1,n2⟩:=g3 hd
      have hno:∀ b∈B,ow b≠.obj l:=fun b hb e=>by rw[(n2 b hb).1]at e;cases e
      exact⟨B,g1',fun b hb=>hImk b (g2 b hb) (hno b hb),fun _=>⟨n1,fun b hb=>⟨by rw[how' b (hno b hb)];exact(n2 b hb).1,(n2 b hb).2⟩⟩⟩
    · have:=uP _ hr g1
      subst this
      exact⟨[],g1',by simp,fun hd=>⟨by simp,by simp⟩⟩
 · simp only[aI]at hm
   by_cases hml:l=m
   · subst hml
     rw[aTd rfl]at hm;cases hm
     refine⟨O1++O2,fun b hb=>?_,fun _=>⟨?_,fun b hb=>⟨how2 b hb,(o2 b (by rcases aTj.1 hb with hb | hb <;> simp[hb])).2⟩⟩,.inr ⟨b0,cs,t,by rw[hβ' l hne];exact p1,?_,p3,?_⟩⟩
     · have:=o1 b (by rcases aTj.1 hb with hb | hb <;> simp[hb])
       exact⟨this.1,this.2.1,fun m=>by rw[how2 b hb];simp⟩
     · exact aTw.2 ⟨nd1.1,nd2.2.1,fun x hx y hy=>nd1.2.2 x hx y (by simp[hy])⟩
     · rw[how' b0 (by rw[p2];simp)];exact p2
     · simp only[aTz]
       have hcell:∀ (γ:Nat->Option (Option Nat)) (ps:List PV),(∀ p∈ps,p∈cells)->∀ {cs:Array Value} {i:Nat} {B:List Nat},RelL w.heap true (if bx then β else dead) ps cs i B->RelL w.heap true β' ps cs i B:=by
        intro _ ps hps cs i B H
        cases bx with
        | true =>
         simp only[aTz]at H
         exact aWk _ _ _ _ (fun p hp m' hm'=>hkeep m' (fun e=>hnl.2.1 l _ ho' rfl p (hps p hp) (e▸hm'))) (fun _ _=>rfl) H
        | false =>
         simp only[aVU]at hbx
         simp only[aTk,aTD]at H
         exact sE (fun p hp=>kE hbx p (hps p hp)) H
       have:=RelL.put (q:=.ref L s 0 n) (Oc:=[]) hc q1 q2 (by
        simp only[RelV]
        rcases hcase with⟨rfl,e1,e2,e3,e4⟩ | ⟨b,cap,cs2,t2,rfl,⟨e1,e2,e3⟩,e4,e5⟩
        · exact⟨trivial,fun _=>⟨e1,trivial,e4⟩,fun b e=>by rw[hβ'L]at e;cases e⟩
        · refine⟨trivial,(fun e=>by rw[hβ'L]at e;cases e),fun b' e=>?_⟩
          rw[hβ'L]at e;cases e
          exact⟨cap,cs2,t2,by simpa using e1,e4,by simpa using e3,e2⟩) (hcell β' _ (fun p hp=>aVP hp) q4) (hcell β' _ (fun p hp=>aVQ hp) q5)
       simpa using this
   · rw[aTc hml]at hm
     by_cases hmL:L=m
     · subst hmL
       rw[aTd rfl]at hm;cases hm
       refine⟨ns,fun b hb=>?_,fun _=>⟨nd3.2.1,fun b hb=>⟨how3 b hb,(o2 b (hns b hb)).2⟩⟩,?_⟩
       · have:=o1 b (hns b hb)
         exact⟨this.1,this.2.1,fun m=>by rw[how3 b hb];simp⟩
       · rcases hcase with⟨rfl,e1,e2,e3,e4⟩ | ⟨b,cap,cs2,t2,rfl,e1,e4,e5⟩
         · exact .inl ⟨hβ'L,e2,e3⟩
         · exact .inr ⟨b,cs2,t2,hβ'L,how4 b rfl,e4,by simpa using e5⟩
     · rw[aTc hmL]at hm
       obtain⟨B,g1,g2,g3⟩:=h.objs m ob hm
       have hqo:=aCC hq m ob hm (by simpa using fun e=>hml e.symm)
       have hno:∀ b∈B,ow b≠.obj l:=by
        intro b hb e
        unfold aAv at hqo
        rw[aT2]at hqo
        rcases hqo with hd | hr
        · have:=((g2 hd).2 b hb).1
          rw[e]at this;injection this with e';exact hml e'
        · rcases g3 with⟨_,_,e3⟩ | ⟨_,_,_,_,_,_,g4⟩
          · subst e3;cases hb
          · rw[yW _ hr g4]at hb;cases hb
       refine⟨B,fun b hb=>hImk b (g1 b hb) (hno b hb),fun hd=>⟨(g2 hd).1,fun b hb=>⟨by rw[how' b (hno b hb)];exact((g2 hd).2 b hb).1,((g2 hd).2 b hb).2⟩⟩,?_⟩
       rcases g3 with⟨e1,e2,e3⟩ | ⟨b,c1,t1,e1,e2,e3,e4⟩
       · exact .inl ⟨by rw[hβ' m (fun e=>hmL e.symm)];exact e1,e2,e3⟩
       · refine .inr ⟨b,c1,t1,by rw[hβ' m (fun e=>hmL e.symm)];exact e1,by rw[how' b (by rw[e2];simp)];exact e2,e3,?_⟩
         cases hbb:ob.box with
         | false=>rw[hbb]at e4;exact e4
         | true=>rw[hbb]at e4;exact aWk _ _ _ _ (fun p hp m' hm'=>hkeep m' (fun e=>hnl.2.1 m ob hm hbb p hp (e▸hm'))) (fun _ _=>rfl) e4
 · simp only[aI]at hm
   by_cases hml:l=m
   · rw[aTd hml]at hm;cases hm
   · rw[aTc hml]at hm
     by_cases hmL:L=m
     · rw[aTd hmL]at hm;cases hm
     · rw[aTc hmL]at hm;rw[hβ' m (fun e=>hmL e.symm)];exact h.gone m hm
 · rcases aUR (o=some b\/b∈ns)with hb' | hb'
   · have e:=howl b hb'
     obtain⟨g1,g2⟩:=h.own b (by rw[e];simp)
     refine⟨g1,.inl ?_⟩
     rcases g2 with g | ⟨m,g,_⟩
     · exact g
     · rw[e]at g;cases g
   · have e:ow' b=ow b:=by
      show(if _ then _ else if _ then _ else _)=_
      rw[aTc (fun e=>hb' (.inl e)),aTc (fun e=>hb' (.inr e))]
     rw[e]at hb
     obtain⟨g1,g2⟩:=h.own b hb
     exact⟨g1,by rw[e];exact g2⟩
 · have hmL:m≠L:=fun e=>by rw[e,hio]at hm;cases hm
   rw[hβ' m hmL]
   refine h.ios m b hm ?_
   simp only[aI]at hs
   by_cases hml:l=m
   · subst hml;rw[ho'];rfl
   · rw[aTc hml,aTc (fun e=>hmL e.symm)]at hs;exact hs
 · by_cases hmL:m=L
   · subst hmL
     rw[hβ'L]at hm
     have e:=howl b (.inl (Option.some.inj hm))
     rcases(h.own b (by rw[e];simp)).2 with g | ⟨m,g,_⟩
     · exact g.elim id (fun g=>absurd g (hle b))
     · rw[e]at g;cases g
   · rw[hβ' m hmL]at hm;exact h.fresh m b hm hiom
end
end Go.Ev
