/- Parts EvMM, EvNN, EvOO, EvPP, EvQQ, EvRR, EvSS, EvTT, EvUU, EvVV. -/
import Derived.Test.YtlhoochohnnepaaGreatE4
set_option linter.all false
set_option maxHeartbeats 4000000
set_option maxRecDepth 20000
/- The engine, part MM: values handed over for good. -/
namespace Go.Ev
open Go.RowKit (Below)
def aCC:List (PV×Bool)->Nat->List (Nat×Slot)
 | [],_=>[]
 | (p,dp)::r,k=>(k,⟨p,dp⟩)::aCC r (k+1)
theorem aHc:∀ (ps:List (PV×Bool)) (i k:Nat),lk (aCC ps i) k=if i<=k/\k-i<ps.length then⟨(ps.getD (k-i) (.any,false)).1,(ps.getD (k-i) (.any,false)).2⟩else⟨.any,false⟩
 | [],i,k=>by simp[aCC,lk]
 | (p,dp)::r,i,k=>by
  rw[aCC,eF,aHc r (i+1) k]
  by_cases h:i=k
  · subst h;simp
  · rw[aTJ h]
    by_cases h2:i+1<=k/\k-(i+1)<r.length
    · rw[aTK h2,aTK (by simp;omega)]
      have:k-i=(k-(i+1))+1:=by omega
      rw[this];simp
    · rw[aTJ h2,aTJ (by simp;omega)]
theorem MeetsD.intro {P:Program}{N:Nat}{f:FuncId}{fn:Func}{c:Code}{args:List (PV×Bool)}{r:PV}{rs:Array ResultVar}(hf:P.funcs[f]?=some fn)(hb:fn.body=some c)(hN:fn.ntmps=N)(hrs:fn.results=rs)(hn:Nat.ble args.length N=true)
 (h:∀ Γ:Ctx P N,(∀ l,Nat.blt l 100000=true->Γ.io l=none)->CodeT Γ c ⟨aCC args 0,[]⟩ (aBh Γ rs r true)):MeetsD P f args r:=by
 classical
 intro w cargs ok H ha hH hdis
 obtain⟨h1,h2⟩:=ha.get
 have hn:=aUj hn
 let Γ:Ctx P N:={ base:=w.heap.size,ok:=ok,io:=fun _=>none,w0:=w,mine:=fun _=>False,lent:=fun b=>∃ k,b∈H k }
 have hsz:(cargs++Array.replicate (fn.ntmps-cargs.size) undef).size=N:=by
  have:cargs.size=args.length:=by rw[h1];simp
  simp[this,hN];omega
 refine calls_of_wp hf hb ?_
 let ow:Nat->Own:=fun b=>if hh:∃ k,b∈H k then .slot hh.choose else .none
 have how:∀ b k,b∈H k->ow b=.slot k:=by
  intro b k e
  have hh:∃ k,b∈H k:=⟨k,e⟩
  show(if hh:_ then _ else _)=_
  rw[aVU hh,hdis _ _ b hh.choose_spec e]
 have hnl:∀ b l,ow b≠.lab l:=by
  intro b l e
  have e:(if hh:∃ k,b∈H k then Own.slot hh.choose else .none)=.lab l:=e
  split at e <;> cases e
 have hsim:Sim Γ ⟨aCC args 0,[]⟩ { tmps:=cargs++Array.replicate (fn.ntmps-cargs.size) undef,defers:=[] } w:=by
  refine⟨ow,fun _=>none,{ size:=hsz,defers:=rfl,kept:=⟨rfl,rfl,rfl,aTU _,fun _ _ _ _=>rfl,fun b _ _ cs t h=>⟨cs,h,rfl⟩⟩,slots:=fun k=>?_,objs:=fun l ob hl=>(by simp[lo]at hl),gone:=fun _ _=>rfl,own:=fun b hb=>?_,ios:=fun l b hl=>(by cases hl),fresh:=fun l b hl=>(by cases hl) }⟩
  · rw[aHc]
    by_cases hk:k<args.length
    · rw[aTK ⟨aUB _,by simpa using hk⟩]
      have e1:args[k]?=some (args.getD k (.any,false)):=by
       rw[aTS hk,aT1,aTS hk];rfl
      obtain⟨B,g1,g2,g3⟩:=h2 k _ _ e1
      rw[aUg]at g3
      have e:(cargs++Array.replicate (fn.ntmps-cargs.size) undef).getD k undef=cargs.toList.getD k undef:=by
       have hlt:k<cargs.size:=by rw[h1]at hk;simpa using hk
       simp[aT8,aUS,hlt,aT1]
      simp only[aVv]
      refine⟨B,?_,fun b hb=>⟨aW8 _ _ _ g1 b hb,?_,fun l=>hnl b l⟩,fun hd=>?_⟩
      · rw[e]
        exact aW0 _ _ _ (fun l _=>by intro ob h;cases h) (fun _ _=>rfl) g1
      · cases hdp:(args.getD k (.any,false)).2 with
        | false=>exact .inl (g2 hdp b hb)
        | true=>exact .inr (.inr ⟨k,by rw[<- g3 hdp];exact hb⟩)
      · have g4:=g3 hd
        subst g4
        exact⟨(hH k).1,fun b hb=>⟨how b k hb,((hH k).2 b hb).2⟩⟩
    · rw[aTJ (by simpa using hk)]
      exact⟨[],by simp[RelV],by simp,by simp⟩
  · have hh:∃ k,b∈H k:=by
     rcases aVs (∃ k,b∈H k)with hh | hh
     · exact hh
     · exfalso;apply hb;show(if hh:∃ k,b∈H k then Own.slot hh.choose else .none)=_;rw[aVV hh]
    obtain⟨k,hk⟩:=hh
    exact⟨aQX ((hH k).2 b hk).2,.inl (.inr ⟨k,hk⟩)⟩
 refine wp_mono (h Γ (fun _ _=>rfl) _ _ hsim) fun e a' w' ⟨E',hs',hq⟩=>?_
 have fin:RetIs Γ rs E' r true->a'.defers=[]/\∃ v,(results fn a'.tmps).run P w'=.ok v w'/\∃ c B,Ending.returned v=.returned c/\Below w.heap.size w w'/\RelV w'.heap dead r c B/\B.Nodup/\∀ b∈B,gD w' b/\(w.heap.size<=b\/∃ k,b∈H k):=by
  intro hr
  obtain⟨c,B,g1,g2,g3,g4⟩:=hr fn hrs a' w' hs'
  obtain⟨ow2,β2,hs'⟩:=hs'
  obtain⟨g5,g6⟩:=g4 rfl
  refine⟨hs'.defers,c,g1,c,B,rfl,⟨hs'.kept.os,hs'.kept.tape,hs'.kept.output,hs'.kept.size,fun k hk=>hs'.kept.old k hk (fun l=>by simp[Γ]) (fun h=>h)⟩,g2,g5,fun b hb=>⟨(g6 b hb).1,?_⟩⟩
  rcases(g6 b hb).2 with(g | g) | g
  · exact .inl g
  · exact g.elim
  · exact .inr g
 cases e with
 | normal=>exact fin hq
 | ret=>exact fin hq
 | exit id=>exact hq.elim
 | goto l=>exact hq.elim
 | panic ch=>exact hq.elim
 | outgrown=>exact hq.elim
section
variable {P:Program}{N:Nat}{Γ:Ctx P N}{S:List (Nat×Slot)}{O:List (Nat×Option Ob)}{ow:Nat->Own}{β:Nat->Option (Option Nat)}{F:Env}{a:Act}{w:World}
variable {d:Nat}{ty:TypeId}{pos:String}{af:Array Edge}{g:Option (Nat×Bool)}
theorem aHg {f:FuncId}{xs:List Operand}{args:List (PV×Bool)}{k q:Nat}{p r:PV}{dp:Bool}(hsim:SimG Γ ow β F a w)(hk:lk F.s k=⟨p,true⟩)(hm:MeetsD P f args r)(hr:r.labs=[])(hd:d<N){Bk:List Nat}(o1:RelV w.heap β p (a.tmps.getD k undef) Bk)(o3:Bk.Nodup/\∀ b∈Bk,ow b=.slot k/\gD w b)
 (ha:DArgs w.heap (fun _=>False) (fun j=>if j=q then Bk else []) args (xs.map a.eval) 0) {Q:Exit->Act->World->Prop} :
 Calls P f (xs.map a.eval).toArray w fun e w'=>match e with | .returned c=>Sim Γ (F.app ⟨(d,⟨r,true⟩)::[k].map (fun j=>(j,⟨.any,false⟩)),[]⟩) (a.put (some d) c) w' | _=>False:=by
 obtain⟨n1,n2⟩:=o3
 refine(hm w (xs.map a.eval).toArray (fun _=>False) (fun j=>if j=q then Bk else []) (by simpa using ha) (fun j=>?_) (fun j j' b hb hb'=>?_)).mono fun e w' ⟨c,B,he,hbel,h1,h2,h3⟩=>?_
 · by_cases hj:j=q
   · rw[aTK hj];exact⟨n1,fun b hb=>⟨fun h=>h,(n2 b hb).2⟩⟩
   · rw[aTJ hj];exact⟨by simp,by simp⟩
 · by_cases hj:j=q
   · by_cases hj':j'=q
     · rw[hj,hj']
     · simp only[aTJ hj']at hb';cases hb'
   · simp only[aTJ hj]at hb;cases hb
 · subst he
   have hg:=hsim.grow hbel
   have hB:∀ b∈B,Im Γ ow w' b:=by
    intro b hb
    have hlt:=aW8 _ _ _ h1 b hb
    rcases(h3 b hb).2 with e | ⟨j,e⟩
    · exact⟨hlt,.inr (.inl (.inl (aTY hsim.kept.size e))),fun l e'=>by have:=(hsim.own b (by rw[e'];simp)).1;omega⟩
    · by_cases hj:j=q
      · rw[aTK hj]at e
        obtain⟨e1,e2⟩:=n2 b e
        refine⟨hlt,?_,fun l e'=>by rw[e1]at e';cases e'⟩
        rcases(hsim.own b (by rw[e1];simp)).2 with g | ⟨m,g,_⟩
        · exact .inr g
        · rw[e1]at g;cases g
      · rw[aTJ hj]at e;cases e
   have hD:∀ b∈B,gD w' b/\Γ.nw b/\(ow b=.none\/∃ k'∈[k],ow b=.slot k'):=by
    intro b hb
    refine⟨(h3 b hb).1,?_⟩
    rcases(h3 b hb).2 with e | ⟨j,e⟩
    · refine⟨.inl (.inl (aTY hsim.kept.size e)),.inl ?_⟩
      cases hx:ow b with
      | none=>rfl
      | _=>have:=(hsim.own b (by rw[hx];simp)).1;omega
    · by_cases hj:j=q
      · rw[aTK hj]at e
        obtain⟨e1,_⟩:=n2 b e
        refine⟨?_,.inr ⟨k,by simp,e1⟩⟩
        rcases(hsim.own b (by rw[e1];simp)).2 with g | ⟨m,g,_⟩
        · exact g
        · rw[e1]at g;cases g
      · rw[aTJ hj]at e;cases e
   obtain⟨ow',h'⟩:=hg.gather (d:=d) hd [k] (v:=r) (c:=c) (B:=B) (dp:=true) (aXq hr h1) hB (fun _=>⟨h2,hD⟩)
   exact⟨ow',β,h'⟩
theorem aP7 {f:FuncId}[hfc:FnC P f]{k:Nat}{tus:Array TypeId}{p r:PV}(hk:lkq S k=some ⟨p,true⟩)(hl:p.labs=[])(hm:MeetsD P f [(p,true)] r)(hr:r.labs=[])(hd:Nat.blt d N=true) :
 Local Γ ⟨some d,.call ⟨.value (.func f),#[.tmp k],tus⟩,ty,pos,af,g⟩ ⟨S,O⟩ ⟨[(d,⟨r,true⟩),(k,⟨.any,false⟩)],[]⟩ [k] [] []:=by
 intro F hs _ _ a w ⟨ow,β,hsim⟩ Q
 have hkF:lk F.s k=⟨p,true⟩:=by rw[hs k (by simp),gA hk]
 obtain⟨Bk,o1,_,o3⟩:=hsim.slots k
 rw[hkF]at o1 o3
 unfold Oper.wp
 have hrun:(execOp a.eval ⟨some d,.call ⟨.value (.func f),#[.tmp k],tus⟩,ty,pos,af,g⟩).run P w=.ok (.enter f #[a.eval (.tmp k)]) w:=by
  simp[execOp,resolve,Act.eval,Deferred.ofValue,invoke,hfc.run]
 rw[hrun]
 show Calls _ _ _ _ _
 refine(aHg (xs:=[.tmp k]) (q:=0) hsim hkF hm hr ((aW _ _).1 hd) (dp:=true) o1 (o3 rfl) ⟨?_,trivial⟩ (Q:=Q)).mono fun e w' h=>?_
 · simp only[aT3];exact aXq hl o1
 · cases e with
   | returned c=>exact h
   | _=>exact h.elim
theorem aP6 {f:FuncId}[hfc:FnC P f]{k:Nat}{y:Operand}{tus:Array TypeId}{p0 p r:PV}(hy:evq S y=some p0)(hn0:qU p0=true)(hl0:p0.labs=[])(hk:lkq S k=some ⟨p,true⟩)(hl:p.labs=[])(hm:MeetsD P f [(p0,false),(p,true)] r)(hr:r.labs=[])(hd:Nat.blt d N=true) :
 Local Γ ⟨some d,.call ⟨.value (.func f),#[y,.tmp k],tus⟩,ty,pos,af,g⟩ ⟨S,O⟩ ⟨[(d,⟨r,true⟩),(k,⟨.any,false⟩)],[]⟩ (ors y++[k]) [] []:=by
 intro F hs _ _ a w ⟨ow,β,hsim⟩ Q
 have hkF:lk F.s k=⟨p,true⟩:=by rw[hs k (by simp),gA hk]
 obtain⟨Bk,o1,_,o3⟩:=hsim.slots k
 rw[hkF]at o1 o3
 obtain⟨By,y1,y2⟩:=dU hsim hy (fun j hj=>hs j (by simp[hj]))
 have:=vX _ hn0 y1
 subst this
 unfold Oper.wp
 have hrun:(execOp a.eval ⟨some d,.call ⟨.value (.func f),#[y,.tmp k],tus⟩,ty,pos,af,g⟩).run P w=.ok (.enter f #[a.eval y,a.eval (.tmp k)]) w:=by
  simp[execOp,resolve,Act.eval,Deferred.ofValue,invoke,hfc.run]
 rw[hrun]
 show Calls _ _ _ _ _
 refine(aHg (xs:=[y,.tmp k]) (q:=1) hsim hkF hm hr ((aW _ _).1 hd) (dp:=true) o1 (o3 rfl) ⟨⟨[],aXq hl0 y1,by simp⟩,?_,trivial⟩ (Q:=Q)).mono fun e w' h=>?_
 · simp only[aUg,aT3];exact aXq hl o1
 · cases e with
   | returned c=>exact h
   | _=>exact h.elim
theorem aRL {α:Type}{s:Nat}{hi:Option Operand}{t e n by_:Nat}{agg:Bool}{l r:List α}{enc:α->List PV}{j:Int}{len:Nat}[ht:SlT P t e][hi':TI P e n agg by_](hx:lkq S s=some ⟨.rw n len (l.flatMap enc),true⟩)(hlen:len=l.length)
 (hhi:wR S len hi=some j) (h:sub l 0 j=some r) (hsz:∀ y,(enc y).length=n) (hnl:∀ y,gR (enc y)=true) (hd:Nat.blt d N=true) :
 Local Γ ⟨some d,.slice t (.tmp s) none hi none,ty,pos,af,g⟩ ⟨S,O⟩ ⟨[(d,⟨.rw n r.length (r.flatMap enc),true⟩),(s,⟨.any,false⟩)],[]⟩ ([s]++aI6 hi) [] []:=by
 intro F hs _ _
 refine bQ fun a w hsim0=>?_
 obtain⟨hb,hr⟩:=aSW h
 subst hlen
 have hbd:=fun isS cap hc=>aGb (lo:=none) (i:=0) hsim0 isS l.length cap hc rfl hhi (fun k hk=>by simp[aI6]at hk) (fun k hk=>hs k (by simp[hk])) hb
 obtain⟨ow,β,hsim⟩:=hsim0
 have hkF:lk F.s s=⟨.rw n l.length (l.flatMap enc),true⟩:=by rw[hs s (by simp),gA hx]
 obtain⟨B,h1,h2,h3⟩:=hsim.slots s
 rw[hkF]at h1 h3
 obtain⟨nd,h3⟩:=h3 rfl
 simp only[RelV]at h1
 have hr':r=l.take j.toNat:=by rw[hr];simp
 have run:∀ (ad:Option Addr) (cap:Nat),a.eval (.tmp s)=.slice ad l.length cap->l.length<=cap->(Instr.sliceAt t (a.eval (.tmp s)) none (hi.map a.eval) none).run P w=.ok (.slice (if cap=0 then ad else ad.map (·.add 0)) j.toNat cap) w:=by
  intro ad cap e1 hc
  rw[e1]
  have:=hbd true cap hc
  simp only[Option.map_none]at this
  simp[Instr.sliceAt,Instr.slice,run_underlying ht.ok,this,aF9 (e:=e) (n:=n)]
 have hval:a.eval (.tmp s)=a.tmps.getD s undef:=rfl
 rcases h1 with⟨e0,_,_,e1⟩ | ⟨b,cap,cs,u,B',⟨e1,hc,hcap⟩,e2,e3,rfl⟩
 · rw[<- hval]at e1
   have e1':a.eval (.tmp s)=.slice none l.length 0:=by rw[e1,e0]
   have hj:j.toNat=0:=by omega
   have hr0:r=[]:=by rw[hr',hj];simp
   subst hr0
   obtain⟨ow',h'⟩:=hsim.gather (d:=d) ((aW _ _).1 hd) [s] (v:=.rw n 0 []) (c:=.slice none 0 0) (B:=[]) (dp:=true) (by simp only[RelV];exact .inl ⟨trivial,trivial,trivial,trivial⟩) (by simp) (fun _=>⟨by simp,by simp⟩)
   refine⟨.slice none 0 0,w,?_,ow',β,h'⟩
   simp only[execOp,Option.map_none]
   rw[Sem.run_bind,run none 0 e1' (by omega)]
   simp[hj,Result.andThen]
 · rw[<- hval]at e1
   have hsplit:l.flatMap enc=r.flatMap enc++(l.drop j.toNat).flatMap enc:=by rw[hr',<- aVz,aUx]
   rw[hsplit]at e3
   obtain⟨O1,O2,q1,q2,rfl⟩:=(aXf _ _ _ _ _).1 e3
   have nd1:=aUM.1 nd
   have nd2:=aT6.1 nd1.2
   have hrl:r.length=j.toNat:=by rw[hr',aUo];omega
   obtain⟨ow',h'⟩:=hsim.gather (d:=d) ((aW _ _).1 hd) [s] (v:=.rw n r.length (r.flatMap enc)) (c:=.slice (some ⟨b,0,none⟩) r.length cap) (B:=b::O1) (dp:=true) (by
    simp only[RelV];exact .inr ⟨b,cap,cs,u,O1,⟨rfl,by omega,hcap⟩,e2,q1,rfl⟩)
    (fun c hc=>h2 c (by rcases aTM.1 hc with rfl | hc;simp;simp[hc]))
    (fun _=>⟨aUM.2 ⟨fun hb'=>nd1.1 (by simp[hb']),nd2.1⟩,fun c hc=>by
     have hm:c∈b::(O1++O2):=by rcases aTM.1 hc with rfl | hc;simp;simp[hc]
     obtain⟨g1,g2⟩:=h3 c hm
     refine⟨g2,?_,.inr ⟨s,by simp,g1⟩⟩
     rcases(hsim.own c (by rw[g1];simp)).2 with g | ⟨m,g,_⟩
     · exact g
     · rw[g1]at g;cases g⟩)
   refine⟨.slice (some ⟨b,0,none⟩) r.length cap,w,?_,ow',β,h'⟩
   simp only[execOp,Option.map_none]
   rw[Sem.run_bind,run (some ⟨b,0,none⟩) cap e1 hc,hrl]
   simp[Result.andThen,Addr.add]
theorem RelL.atQ {h:Array Obj}{q:Bool}{β:Nat->Option (Option Nat)}:∀ {vs:List PV} {cs:Array Value} {i:Nat} {O:List Nat} {k:Nat} {p:PV},RelL h q β vs cs i O->vs[k]?=some p->∃ v O1 Oc O2,cs[i+k]?=some v/\RelV h β p v Oc/\O=O1++(Oc++O2)/\RelL h q β (vs.set k .any) cs i (O1++O2)
 | [],_,_,_,_,_,_,hk=>by simp at hk
 | p0::vs,cs,i,O,k,p,H,hk=>by
  simp only[RelL]at H
  obtain⟨c,B1,B2,h1,h2,h3,rfl⟩:=H
  cases k with
  | zero =>
   simp at hk;subst hk
   refine⟨c,[],B1,B2,by simpa using h1.1,h2,by simp,?_⟩
   simp only[aWg,RelL,RelV,aTO]
   exact⟨c,[],B2,h1,rfl,h3,rfl⟩
  | succ k =>
   obtain⟨v,O1,Oc,O2,g1,g2,g3,g4⟩:=RelL.atQ h3 (by simpa using hk)
   refine⟨v,B1++O1,Oc,O2,by rw[<- g1];congr 1;omega,g2,by rw[g3];simp,?_⟩
   simp only[List.set_cons_succ,RelL]
   exact⟨c,B1,O1++O2,h1,h2,g4,by simp⟩
theorem aSL {s i:Nat}{vs:List PV}{p:PV}(hx:lkq S s=some ⟨.tup vs,true⟩)(hp:vs[i]?=some p)(hl:p.labs=[])(hne:Nat.beq s d=false)(hd:Nat.blt d N=true) :
 Local Γ ⟨some d,.extract (.tmp s) i,ty,pos,af,g⟩ ⟨S,O⟩ ⟨[(d,⟨p,true⟩),(s,⟨.tup (vs.set i .any),true⟩)],[]⟩ [s] [] []:=by
 classical
 intro F hs _ _
 refine bQ fun a w ⟨ow,β,h⟩=>?_
 have hne:s≠d:=by rintro rfl;simp at hne
 have hdN:=(aW _ _).1 hd
 obtain⟨O0,hv,hO,hdp⟩:=h.slots s
 rw[hs s (by simp),gA hx]at hv hdp
 obtain⟨nd,hdp⟩:=hdp rfl
 simp only[RelV]at hv
 obtain⟨cs,e1,e2,e3⟩:=hv
 obtain⟨v,O1,Oc,O2,g1,g2,rfl,g4⟩:=e3.atQ hp
 rw[aUg]at g1
 have nd1:=aT6.1 nd
 have nd2:=aT6.1 nd1.2.1
 let ow':Nat->Own:=fun b=>if b∈Oc then .slot d else ow b
 have hIm:∀ b,Im Γ ow w b->Im Γ ow' w b:=by
  intro b ⟨h1,h2,h3⟩
  refine⟨h1,h2,fun l=>?_⟩
  show(if _ then _ else _)≠_
  split
  · simp
  · exact h3 l
 have hoc:∀ b∈Oc,ow b=.slot s:=fun b hb=>(hdp b (by simp[hb])).1
 have hkp:∀ b x,ow b=x->x≠.slot s->ow' b=x:=by
  intro b x e hx
  show(if _ then _ else _)=_
  rw[aTJ (fun hb=>hx (by rw[<- e];exact hoc b hb))];exact e
 have hval:a.eval (.tmp s)=.tuple cs:=e1
 refine⟨v,w,by simp[execOp,hval,Instr.extract,g1],ow',β,{ size:=by simp[Act.put,h.size],defers:=by simp[Act.put,h.defers],kept:=h.kept,slots:=fun k=>?_,objs:=fun l ob hl=>?_,gone:=by simpa [Env.app]using h.gone,own:=fun b hb=>?_,ios:=by simpa [Env.app]using h.ios,fresh:=h.fresh }⟩
 · simp only[Env.app,aTT,aTO,eF,Act.put]
   by_cases hk:d=k
   · subst hk
     rw[aTK rfl,mK (by rw[h.size];exact hdN)]
     exact⟨Oc,g2,fun b hb=>hIm b (hO b (by simp[hb])),fun _=>⟨nd2.1,fun b hb=>⟨by show(if _ then _ else _)=_;rw[aTK hb],(hdp b (by simp[hb])).2⟩⟩⟩
   · rw[aTJ hk,tY hk]
     by_cases hks:s=k
     · subst hks
       rw[aTK rfl]
       refine⟨O1++O2,?_,fun b hb=>hIm b (hO b (by rcases aTR.1 hb with hb | hb <;> simp[hb])),fun _=>⟨?_,fun b hb=>⟨?_,(hdp b (by rcases aTR.1 hb with hb | hb <;> simp[hb])).2⟩⟩⟩
       · rw[e1]
         simp only[RelV]
         exact⟨cs,rfl,by simpa using e2,g4⟩
       · exact aT6.2 ⟨nd1.1,nd2.2.1,fun x hx y hy=>nd1.2.2 x hx y (by simp[hy])⟩
       · show(if _ then _ else _)=_
         rw[aTJ]
         · exact(hdp b (by rcases aTR.1 hb with hb | hb <;> simp[hb])).1
         · intro hc
           rcases aTR.1 hb with hb | hb
           · exact nd1.2.2 b hb b (by simp[hc]) rfl
           · exact nd2.2.2 b hc b hb rfl
     · rw[aTJ hks]
       obtain⟨O',q1,q2,q3⟩:=h.slots k
       exact⟨O',q1,fun b hb=>hIm b (q2 b hb),fun hx=>⟨(q3 hx).1,fun b hb=>⟨hkp b _ ((q3 hx).2 b hb).1 (by intro e;injection e with e;exact hks e.symm),((q3 hx).2 b hb).2⟩⟩⟩
 · simp only[Env.app,aTO]at hl
   obtain⟨O',q1,q2,q3⟩:=h.objs l ob hl
   refine⟨O',fun b hb=>hIm b (q1 b hb),fun hx=>⟨(q2 hx).1,fun b hb=>⟨hkp b _ ((q2 hx).2 b hb).1 (by simp),((q2 hx).2 b hb).2⟩⟩,?_⟩
   rcases q3 with q3 | ⟨b,cs,t,r1,r2,r3,r4⟩
   · exact .inl q3
   · exact .inr ⟨b,cs,t,r1,hkp b _ r2 (by simp),r3,r4⟩
 · by_cases hb':b∈Oc
   · have e:=hoc b hb'
     obtain⟨q1,q2⟩:=h.own b (by rw[e];simp)
     refine⟨q1,.inl ?_⟩
     rcases q2 with q | ⟨m,q,_⟩
     · exact q
     · rw[e]at q;cases q
   · have e:ow' b=ow b:=by show(if _ then _ else _)=_;rw[aTJ hb']
     rw[e]at hb
     obtain⟨q1,q2⟩:=h.own b hb
     exact⟨q1,by rw[e];exact q2⟩
end
/- The engine, part NN: the first change of a rule that makes several, softened. -/
section
variable {P:Program}{N:Nat}{Γ:Ctx P N}{S:List (Nat×Slot)}{O:List (Nat×Option Ob)}
theorem Local.softC {o:Oper}{d:Nat}{p p':PV}{dp:Bool}{ss:List (Nat×Slot)}{us:List (Nat×Option Ob)}{rs ro nl:List Nat}(hs:Soft p p')(h:Local Γ o ⟨S,O⟩ ⟨(d,⟨p,dp⟩)::ss,us⟩ rs ro nl):Local Γ o ⟨S,O⟩ ⟨(d,⟨p',dp⟩)::ss,us⟩ rs ro nl:=by
 intro F h1 h2 h3 a w hsim Q
 refine Oper.wp_mono ?_ (h F h1 h2 h3 a w hsim Q)
 rintro a' w' ⟨ow,β,h'⟩
 refine⟨ow,β,{ size:=h'.size,defers:=h'.defers,kept:=h'.kept,slots:=fun j=>?_,objs:=h'.objs,gone:=h'.gone,own:=h'.own,ios:=h'.ios,fresh:=h'.fresh }⟩
 obtain⟨B,g1,g2,g3⟩:=h'.slots j
 simp only[Env.app,aTT,aTO,eF]at g1 g3 ⊢
 by_cases hj:d=j
 · rw[aTK hj]at g1 g3 ⊢
   exact⟨B,hs _ _ _ _ g1,g2,g3⟩
 · rw[aTJ hj]at g1 g3 ⊢
   exact⟨B,g1,g2,g3⟩
end
/- The engine, part OO: short forms: a rule and the step that uses it in one (printed by mkoo.py). -/
section
variable {P:Program}{N:Nat}{Γ:Ctx P N}{S S':List (Nat×Slot)}{O O':List (Nat×Option Ob)}
theorem dn {ops:List Oper}{X:List Item->Prop}{Q:Env->Prop}{acc:List Item}{E:Env}(h:Q E):Run Γ ops (fun items E'=>(false=true->X items)/\Q E') [] acc E:=.done ⟨fun h=>Bool.noConfusion h,h⟩
theorem sq {x y:Code}{E:Env}{Q:Exit->Env->Prop}(h:CodeT Γ x E (wJ (fun E'=>CodeT Γ y E' Q) Q)):CodeT Γ (.seq x y) E Q:=CodeT.seq h
def aHQ (S:List (Nat×Slot)):List (Nat×Slot)->List (Option PV)
 | []=>[]
 | (k,_)::r=>(lkq S k).map (·.v)::aHQ S r
def aHP (ρ:List (Nat×Nat)):List (Nat×Slot)->List (Option PV)
 | []=>[]
 | (_,sl)::r=>some (aQy ρ sl.v)::aHP ρ r
def aIn (S:List (Nat×Slot)):List (Nat×Slot)->Bool
 | []=>true
 | (k,sl)::r=>(match sl.deep with | true=>(match lkq S k with | some s=>s.deep | none=>false) | false=>true)&&aIn S r
theorem EntS.fast {ρ:List (Nat×Nat)}:∀ {S':List (Nat×Slot)},aHQ S S'=aHP ρ S'->aIn S S'=true->EntS ρ S S'
 | [],_,_=>trivial
 | (k,sl)::r,h1,h2=>by
  simp only[aHQ,aHP,List.cons.injEq]at h1
  simp only[aIn,aUa]at h2
  refine⟨?_,EntS.fast h1.2 h2.2⟩
  cases hs:lkq S k with
  | none=>rw[hs]at h1;simp at h1
  | some s =>
   rw[hs]at h1 h2
   refine⟨s.deep,?_,fun hd=>?_⟩
   · have:=h1.1;simp only[aWC,Option.some.injEq]at this;rw[<- this]
   · have:=h2.1;rw[hd]at this;simpa using this
def aEV (ρ:List (Nat×Nat))(O:List (Nat×Option Ob)):List (Nat×Option Ob)->List (Option (List PV×Bool))
 | []=>[]
 | (_,none)::r=>aEV ρ O r
 | (l,some _)::r=>(loq O (rn ρ l)).map (fun o=>(o.cells,o.box))::aEV ρ O r
def aEU (ρ:List (Nat×Nat)):List (Nat×Option Ob)->List (Option (List PV×Bool))
 | []=>[]
 | (_,none)::r=>aEU ρ r
 | (_,some ob)::r=>some (match ob.box with | true=>aM8 ρ ob.cells | false=>ob.cells,ob.box)::aEU ρ r
def aFb (ρ:List (Nat×Nat))(O:List (Nat×Option Ob)):List (Nat×Option Ob)->Bool
 | []=>true
 | (_,none)::r=>aFb ρ O r
 | (l,some ob)::r=>(match ob.deep with | true=>(match loq O (rn ρ l)with | some o=>o.deep | none=>false) | false=>true)&&aFb ρ O r
theorem EntO.fast {ρ:List (Nat×Nat)}:∀ {O':List (Nat×Option Ob)},aEV ρ O O'=aEU ρ O'->aFb ρ O O'=true->EntO ρ O O'
 | [],_,_=>trivial
 | (_,none)::r,h1,h2=>by
  simp only[aEV,aEU]at h1
  simp only[aFb]at h2
  simp only[EntO]
  exact EntO.fast h1 h2
 | (l,some ob)::r,h1,h2=>by
  simp only[aEV,aEU,List.cons.injEq]at h1
  simp only[aFb,aUa]at h2
  simp only[EntO]
  refine⟨?_,EntO.fast h1.2 h2.2⟩
  cases hs:loq O (rn ρ l)with
  | none=>rw[hs]at h1;simp at h1
  | some o =>
   rw[hs]at h1 h2
   have h3:=h1.1
   simp only[aWC,Option.some.injEq,Prod.mk.injEq]at h3
   refine⟨o.deep,?_,fun hd=>?_⟩
   · obtain⟨c1,c2⟩:=h3
     cases o;simp only[]at c1 c2 ⊢
     rw[c1,c2];cases ob.box <;> rfl
   · have:=h2.1;rw[hd]at this;simpa using this
theorem el (ρ:List (Nat×Nat))(hio:∀ l,Γ.io (rn ρ l)=Γ.io l/\(Γ.io l≠none->rn ρ l=l))(hi:aB5 ρ (zZ O')=true)(h1:aHQ S S'=aHP ρ S')(h2:aIn S S'=true)(h3:aEV ρ O O'=aEU ρ O')(h4:aFb ρ O O'=true):Ent Γ ⟨S,O⟩ ⟨S',O'⟩ :=
 Ent.list ρ hio hi (EntS.fast h1 h2) (EntO.fast h3 h4)
variable {d:Nat}{ty:TypeId}{pos:String}{af:Array Edge}{g:Option (Nat×Bool)}
variable {x y:Operand}{u u':TypeId}{k:IntKind}{m n r:Int}
variable {ops rest:List Oper}{K:List Item->Env->Prop}{acc:List Item}{gs:List Nat}
def aLe (c:PV):Bool:=match c.labs with | []=>true | _=>false
theorem aJX {bx:Bool}{c:PV}(h:(bx||aLe c)=true):bx=true\/c.labs=[]:=by
 cases bx with
 | true=>exact .inl rfl
 | false =>
  right
  simp only[aWl,aLe]at h
  split at h
  · assumption
  · cases h
end
/- The engine, part PP: a drawn region in which one pair of operations is not ordered (printed by mkpp.py). -/
def XOk {P:Program}{N:Nat}(Γ:Ctx P N)(ops:Array Oper)(items:List Item)(E0:Env)(p q:Nat):Prop :=
 ∃ x y,items[q]?=some x/\items[p]?=some y/\p<q/\xH x y=false/\x.nl=[]/\y.nl=[]/\qF Γ ops q (pt (fun j=>Nat.blt j q&&!(Nat.beq j p)) items 0 E0) x.e x.rs x.ro x.nl
theorem XOk.intro {P:Program}{N:Nat}{Γ:Ctx P N}{ops:Array Oper}{items:List Item}{E0:Env}{p q:Nat}{x y:Item}{o:Oper}(h1:items[q]?=some x)(h2:items[p]?=some y)(h3:Nat.blt p q=true)(h4:xH x y=false)(h5:x.nl=[])(h6:y.nl=[])
 (ho:ops[q]?=some o) (hg:o.guard=none) (hl:Local Γ o ⟨(pt (fun j=>Nat.blt j q&&!(Nat.beq j p)) items 0 E0).s,(pt (fun j=>Nat.blt j q&&!(Nat.beq j p)) items 0 E0).o⟩ x.e x.rs x.ro x.nl):XOk Γ ops items E0 p q :=
 ⟨x,y,h1,h2,(aW _ _).1 h3,h4,h5,h6,Local.at ho hg hl⟩
section
variable {P:Program}{N:Nat}{Γ:Ctx P N}{E:Env}{Q:Exit->Env->Prop}
end
/- The engine, part QQ: functions that return a new row whose elements are shared: the row becomes the caller's own row. -/
open Go.RowKit (Below)
def MeetsF (P:Program)(f:FuncId)(args:List PV)(s n:Nat)(cells:List PV):Prop :=
 ∀ (w:World) (cargs:Array Value) (ok:Nat->Prop),RelArgs w.heap ok args cargs.toList->
  Calls P f cargs w fun e w'=>∃ c B,e=.returned c/\Below w.heap.size w w'/\RelV w'.heap dead (.rw s n cells) c B/\(∀ b∈B,b<w'.heap.size/\(ok b\/w.heap.size<=b))/\(∀ b B',B=b::B'->w.heap.size<=b/\b∉B')
theorem MeetsF.soft {P:Program}{f:FuncId}{args:List PV}{s n:Nat}{cells:List PV}(h:MeetsF P f args s n cells):Meets P f args (.sl n cells) false :=
 fun w cargs ok ha=>(h w cargs ok ha).mono fun _ _ ⟨c,B,h1,h2,h3,h4,_⟩=>⟨c,B,h1,h2,h3.soft,fun b hb=>(h4 b hb).2,by simp⟩
section
variable {P:Program}{N:Nat}{Γ:Ctx P N}{S:List (Nat×Slot)}{O:List (Nat×Option Ob)}{ow:Nat->Own}{β:Nat->Option (Option Nat)}{F:Env}{a:Act}{w:World}
def ResF (Γ:Ctx P N)(rs:Array ResultVar)(E:Env)(s n:Nat)(cells:List PV):Prop :=
 ∀ fn:Func,fn.results=rs->∀ a w,Sim Γ E a w->∃ c B,(results fn a.tmps).run P w=.ok c w/\RelV w.heap dead (.rw s n cells) c B/\(∀ b∈B,b<w.heap.size/\(Γ.ok b\/Γ.nw b))/\(∀ b B',B=b::B'->Γ.nww b/\b∉B')
def aRA (Γ:Ctx P N)(rs:Array ResultVar)(s n:Nat)(cells:List PV):Exit->Env->Prop
 | .normal,E=>ResF Γ rs E s n cells
 | .ret,E=>ResF Γ rs E s n cells
 | _,_=>False
theorem aTu {rs:Array ResultVar}{E:Env}{s n:Nat}{cells:List PV}(h:ResF Γ rs E s n cells):aRA Γ rs s n cells .ret E:=h
theorem ResF.weak {E E0:Env}{rs:Array ResultVar}{s n:Nat}{cells:List PV}(he:Ent Γ E E0)(h:ResF Γ rs E0 s n cells):ResF Γ rs E s n cells:=fun fn hf a w hs=>h fn hf a w (he a w hs)
theorem ResF.mk {t l s n:Nat}{cells:List PV}{dp dp0:Bool}(h:lkq S t=some ⟨.ref l s 0 n,dp0⟩)(ho:loq O l=some ⟨cells,dp,false⟩)(hio:Γ.io l=none):ResF Γ #[.tmp t] ⟨S,O⟩ s n cells:=by
 rintro fn hf a w ⟨ow,β,hs⟩
 rw[zP hf]
 obtain⟨B,h1,_⟩:=hs.slots t
 rw[gA h]at h1
 simp only[RelV]at h1
 obtain⟨Bo,o1,o2,hob⟩:=hs.objs l ⟨cells,dp,false⟩ (by rw[<- bV];exact ho)
 rcases hob with⟨p1,p2,p3⟩ | ⟨b,cs,u,p1,p2,p3,p4⟩
 · obtain⟨rfl,_,e⟩:=h1.2.1 p1
   simp only at p2;subst p2
   exact⟨_,[],rfl,by simp only[RelV];exact .inl ⟨trivial,trivial,trivial,e⟩,by simp,by simp⟩
 · obtain⟨cap,cs',u',q1,q0,q3,q4⟩:=h1.2.2 b p1
   rw[p3]at q0;cases q0
   simp only[aVJ,aUg]at q1 q3
   refine⟨_,b::Bo,rfl,by simp only[RelV];exact .inr ⟨b,cap,cs,u,Bo,⟨q1,q4,q3⟩,p3,by simpa using p4,rfl⟩,fun c hc=>?_,fun b' B' e=>?_⟩
   · rcases aTM.1 hc with rfl | hc
     · exact⟨hs.block_lt p1,.inr (.inl (hs.fresh l _ p1 hio))⟩
     · exact⟨(o1 c hc).1,(o1 c hc).2.1⟩
   · cases e
     exact⟨hs.fresh l _ p1 hio,fun hb=>(o1 b hb).2.2 l p2⟩
theorem MeetsF.intro {f:FuncId}{fn:Func}{c:Code}{args:List PV}{s n:Nat}{cells:List PV}{rs:Array ResultVar}(hf:P.funcs[f]?=some fn)(hb:fn.body=some c)(hN:fn.ntmps=N)(hrs:fn.results=rs)(hn:Nat.ble args.length N=true)
 (h:∀ Γ:Ctx P N,(∀ l,Nat.blt l 100000=true->Γ.io l=none)->CodeT Γ c ⟨iJ args 0,[]⟩ (aRA Γ rs s n cells)):MeetsF P f args s n cells:=by
 intro w cargs ok ha
 obtain⟨h1,h2⟩:=ha.get
 have hn:=aUj hn
 let Γ:Ctx P N:={ base:=w.heap.size,ok:=fun b=>ok b,io:=fun _=>none,w0:=w,mine:=fun _=>False,lent:=fun _=>False }
 have hsz:(cargs++Array.replicate (fn.ntmps-cargs.size) undef).size=N:=by
  have:cargs.size=args.length:=by rw[h1];simp
  simp[this,hN];omega
 refine calls_of_wp hf hb ?_
 have hsim:Sim Γ ⟨iJ args 0,[]⟩ { tmps:=cargs++Array.replicate (fn.ntmps-cargs.size) undef,defers:=[] } w:=by
  refine⟨fun _=>.none,fun _=>none,{ size:=hsz,defers:=rfl,kept:=⟨rfl,rfl,rfl,aTU _,fun _ _ _ _=>rfl,fun b _ _ cs t h=>⟨cs,h,rfl⟩⟩,slots:=fun k=>?_,objs:=fun l ob hl=>(by simp[lo]at hl),gone:=fun _ _=>rfl,own:=fun b hb=>absurd rfl hb,ios:=fun l b hl=>(by cases hl),fresh:=fun l b hl=>(by cases hl) }⟩
  rw[nO]
  by_cases hk:k<args.length
  · rw[aTK ⟨aUB _,by simpa using hk⟩]
    obtain⟨B,g1,g2⟩:=h2 k hk
    refine⟨B,?_,fun b hb=>⟨aW8 _ _ _ g1 b hb,.inl (g2 b hb),fun l=>by simp⟩,by simp⟩
    have e:(cargs++Array.replicate (fn.ntmps-cargs.size) undef).getD k undef=cargs.toList.getD k undef:=by
     have hlt:k<cargs.size:=by rw[h1]at hk;simpa using hk
     simp[aT8,aUS,hlt,aT1]
    rw[e]
    simp only[aVv]
    exact aW0 _ _ _ (fun l _=>by intro ob h;cases h) (fun _ _=>rfl) g1
  · rw[aTJ (by simpa using hk)]
    exact⟨[],by simp[RelV],by simp,by simp⟩
 refine wp_mono (h Γ (fun _ _=>rfl) _ _ hsim) fun e a' w' ⟨E',hs',hq⟩=>?_
 have fin:ResF Γ rs E' s n cells->a'.defers=[]/\∃ v,(results fn a'.tmps).run P w'=.ok v w'/\∃ c B,Ending.returned v=.returned c/\Below w.heap.size w w'/\RelV w'.heap dead (.rw s n cells) c B/\(∀ b∈B,b<w'.heap.size/\(ok b\/w.heap.size<=b))/\(∀ b B',B=b::B'->w.heap.size<=b/\b∉B'):=by
  intro hr
  obtain⟨c,B,g1,g2,g3,g4⟩:=hr fn hrs a' w' hs'
  obtain⟨ow,β,hs'⟩:=hs'
  exact⟨hs'.defers,c,g1,c,B,rfl,⟨hs'.kept.os,hs'.kept.tape,hs'.kept.output,hs'.kept.size,fun k hk=>hs'.kept.old k hk (fun l=>by simp[Γ]) (fun h=>h)⟩,g2,fun b hb=>⟨(g3 b hb).1,(g3 b hb).2.imp id (fun h=>(h.elim id False.elim:Γ.nww b).elim id False.elim)⟩,fun b B' e=>⟨(g4 b B' e).1.elim id False.elim,(g4 b B' e).2⟩⟩
 cases e with
 | normal=>exact fin hq
 | ret=>exact fin hq
 | exit id=>exact hq.elim
 | goto l=>exact hq.elim
 | panic ch=>exact hq.elim
 | outgrown=>exact hq.elim
theorem SimG.growSh (h:SimG Γ ow β F a w){w':World}(hb:Below w.heap.size w w'){d b0:Nat}{cs:Array Value}{t:TypeId}{cells:List PV}{B:List Nat}(hrow:w'.heap[b0]?=some (.cells cs t (0,0)))(hge:w.heap.size<=b0)
 (hrel:RelL w'.heap true dead cells cs 0 B) (hB:∀ b∈B,b<w'.heap.size/\b≠b0/\(Im Γ ow w b\/w.heap.size<=b)) (hnl:NoLab F d) (hio:Γ.io d=none) :
 ∃ ow',SimG Γ ow' (fun m=>if m=d then some (some b0)else β m) (F.app ⟨[],[(d,some ⟨cells,false,false⟩)]⟩) a w':=by
 let β':Nat->Option (Option Nat):=fun m=>if m=d then some (some b0)else β m
 let ow':Nat->Own:=fun b=>if b=b0 then .lab d else if w.heap.size<=b then .none else ow b
 have how:∀ b,b<w.heap.size->ow' b=ow b:=fun b hlt=>by
  show(if _ then _ else _)=_
  rw[aTJ (by omega),aTJ (by omega)]
 have hβ2:∀ m,m≠d->β' m=β m:=fun m hm=>by show(if _ then _ else _)=_;rw[aTJ hm]
 have hlt0:b0<w'.heap.size:=by
  rcases aUT b0 w'.heap.size with h | h
  · exact h
  · simp[aUG h]at hrow
 have hIm:∀ b,Im Γ ow w b->Im Γ ow' w' b:=fun b ⟨h1,h2,h3⟩=>⟨aTX h1 hb.size,h2,fun l=>by rw[how b h1];exact h3 l⟩
 have hFree:∀ b,b<w.heap.size->gD w b->gD w' b:=fun b hlt ⟨cs,t,hc⟩=>⟨cs,t,by rw[hb.block b hlt];exact hc⟩
 have hkeep:∀ m,m≠d->KeepB w.heap w'.heap β β' m:=by
  intro m hm o ho
  rw[hβ2 m hm]at ho
  refine⟨ho,fun b hob cs t hc=>⟨cs,?_,rfl⟩⟩
  subst hob
  rw[hb.block b (h.block_lt ho)];exact hc
 refine⟨ow',{ size:=h.size,defers:=h.defers,kept:=?_,slots:=fun k=>?_,objs:=fun l ob hl=>?_,gone:=fun l hl=>?_,own:=fun b hb'=>?_,ios:=fun m b hm hs=>?_,fresh:=fun l b hl hi=>?_ }⟩
 · exact⟨hb.os.trans h.kept.os,hb.output.trans h.kept.output,hb.tape.trans h.kept.tape,aTY h.kept.size hb.size,
    fun b h1 h2 hmi=>(hb.block b (aTX h1 h.kept.size)).trans (h.kept.old b h1 h2 hmi),
    fun b h1 hmi cs t h2=>by
     obtain⟨cs',h3,h4⟩:=h.kept.ios b h1 hmi cs t h2
     exact⟨cs',by rw[hb.block b (aTX h1 h.kept.size)];exact h3,h4⟩⟩
 · obtain⟨B',h1,h2,h3⟩:=h.slots k
   refine⟨B',aW0 _ _ _ (fun l hl=>hkeep l (fun e=>hnl.1 k (e▸hl))) (fun b hbO=>hb.block b (h2 b hbO).1) h1,fun b hbO=>hIm b (h2 b hbO),fun hd=>⟨(h3 hd).1,fun b hbO=>⟨?_,hFree b (h2 b hbO).1 ((h3 hd).2 b hbO).2⟩⟩⟩
   rw[how b (h2 b hbO).1];exact((h3 hd).2 b hbO).1
 · simp only[Env.app,aTT,aTO,aI]at hl
   by_cases hm:d=l
   · subst hm
     rw[aTK rfl]at hl;cases hl
     refine⟨B,fun b hbn=>?_,fun hd=>(by cases hd),.inr ⟨b0,cs,t,?_,?_,hrow,hrel⟩⟩
     · obtain⟨g1,g2,g3⟩:=hB b hbn
       rcases g3 with g3 | g3
       · exact hIm b g3
       · refine⟨g1,.inr (.inl (.inl (aTY h.kept.size g3))),fun l=>?_⟩
         show(if _ then _ else _)≠_
         rw[aTJ g2,aTK g3];simp
     · show(if _ then _ else _)=_;rw[aTK rfl]
     · show(if _ then _ else _)=_;rw[aTK rfl]
   · rw[aTJ hm]at hl
     obtain⟨B',h1,h2,h3⟩:=h.objs l ob hl
     refine⟨B',fun b hbO=>hIm b (h1 b hbO),fun hd=>⟨(h2 hd).1,fun b hbO=>⟨by rw[how b (h1 b hbO).1];exact((h2 hd).2 b hbO).1,hFree b (h1 b hbO).1 ((h2 hd).2 b hbO).2⟩⟩,?_⟩
     rcases h3 with⟨g1,g2,g3⟩ | ⟨b,cs,t,g1,g2,g3,g4⟩
     · exact .inl ⟨(hβ2 l (Ne.symm hm)).trans g1,g2,g3⟩
     · refine .inr ⟨b,cs,t,(hβ2 l (Ne.symm hm)).trans g1,by rw[how b (h.block_lt g1)];exact g2,by rw[hb.block b (h.block_lt g1)];exact g3,?_⟩
       cases hbx:ob.box with
       | true=>rw[hbx]at g4;exact aWZ _ _ _ _ (fun p hp m hm'=>hkeep m (fun e=>hnl.2.1 l ob hl hbx p hp (e▸hm'))) (fun b hbO=>hb.block b (h1 b hbO).1) g4
       | false=>rw[hbx]at g4;exact aWZ _ _ _ _ (fun _ _ l _=>aXg _ _ l) (fun b hbO=>hb.block b (h1 b hbO).1) g4
 · simp only[Env.app,aTT,aTO,aI]at hl
   by_cases hm:d=l
   · rw[aTK hm]at hl;cases hl
   · rw[aTJ hm]at hl
     show β' l=none
     rw[hβ2 l (Ne.symm hm)];exact h.gone l hl
 · by_cases hlt:b<w.heap.size
   · rw[how b hlt]at hb'
     obtain⟨g1,g2⟩:=h.own b hb'
     exact⟨aTX g1 hb.size,by rw[how b hlt];exact g2⟩
   · have e:b=b0:=by
      rcases Nat.decEq b b0 with e | e
      · exfalso;apply hb'
        show(if _ then _ else _)=_
        rw[aTJ e,aTK (by omega)]
      · exact e
     subst e
     exact⟨hlt0,.inl (.inl (.inl (aTY h.kept.size hge)))⟩
 · have hmn:d≠m:=fun e=>by subst e;rw[hio]at hm;cases hm
   simp only[Env.app,aTT,aTO,aI,aTJ hmn]at hs
   show β' m=_
   rw[hβ2 m (Ne.symm hmn)];exact h.ios m b hm hs
 · by_cases hm:l=d
   · subst hm
     have:(if l=l then some (some b0)else β l)=some (some b):=hl
     rw[aTK rfl]at this;cases this
     exact .inl (aTY h.kept.size hge)
   · have hl':β' l=some (some b):=hl
     rw[hβ2 l hm]at hl';exact h.fresh l b hl' hi
variable {d:Nat}{ty:TypeId}{pos:String}{af:Array Edge}{g:Option (Nat×Bool)}
theorem aRi {f:FuncId}[hfc:FnC P f]{xs:List Operand}{us:Array TypeId}{ps:List PV}{s n:Nat}{cells:List PV}(ha:ArgsV S O xs ps [])(hm:MeetsF P f ps s n cells)(hio:Γ.io d=none)(hd:Nat.blt d N=true) :
 Local Γ ⟨some d,.call ⟨.value (.func f),xs.toArray,us⟩,ty,pos,af,g⟩ ⟨S,O⟩ ⟨[(d,⟨.ref d s 0 n,false⟩)],[(d,some ⟨cells,false,false⟩)]⟩ (qA xs) [] [d]:=by
 intro F hs hl hnd a w ⟨ow,β,hsim⟩ Q
 have hdN:=(aW _ _).1 hd
 have hargs:=zD hsim ha hs hl
 unfold Oper.wp
 have hrun:(execOp a.eval ⟨some d,.call ⟨.value (.func f),xs.toArray,us⟩,ty,pos,af,g⟩).run P w=.ok (.enter f (xs.map a.eval).toArray) w:=by
  simp[execOp,resolve,Act.eval,Deferred.ofValue,invoke,hfc.run]
 rw[hrun]
 show Calls _ _ _ _ _
 refine(hm w (xs.map a.eval).toArray (fun b=>Im Γ ow w b\/∃ l∈([]:List Nat),ow b=.lab l) (by simpa using hargs)).mono fun e w' ⟨c,B,he,hb,h1,h2,h3⟩=>?_
 subst he
 show Sim Γ _ _ _
 simp only[RelV]at h1
 rcases h1 with⟨rfl,rfl,_,rfl⟩ | ⟨b,cap,cs,t,O',⟨rfl,q2,q3⟩,q4,q5,rfl⟩
 · obtain⟨ow',h'⟩:=(hsim.grow hb).layNil (hnd d (by simp)) hio [] [] false false
   have h2:=h'.put (d:=d) (v:=.ref d s 0 0) (c:=.slice none 0 0) (O:=[]) hdN (by simp only[RelV];simp) (by simp)
   exact⟨_,_,h2.congr (fun k=>rfl) (fun l=>rfl)⟩
 · obtain⟨ow',h'⟩:=hsim.growSh hb q4 (h3 b O' rfl).1 q5 (fun x hx=>by
    obtain⟨g1,g2⟩:=h2 x (by simp[hx])
    refine⟨g1,fun e=>(h3 b O' rfl).2 (e▸hx),?_⟩
    rcases g2 with(g | ⟨l,hl,_⟩) | g
    · exact .inl g
    · cases hl
    · exact .inr g) (hnd d (by simp)) hio
   have h2:=h'.put (d:=d) (v:=.ref d s 0 n) (c:=.slice (some ⟨b,0,none⟩) n cap) (O:=[]) hdN (by
    simp only[RelV]
    exact⟨trivial,by simp,fun b' hb'=>by simp at hb';subst hb';exact⟨cap,cs,t,by simp,q4,by simpa using q3,q2⟩⟩) (by simp)
   exact⟨_,_,h2.congr (fun k=>rfl) (fun l=>rfl)⟩
end
/- The engine, part RR: a rule and the step that uses it in one; what is plain is found by itself (printed by mkrr.py). -/
section
variable {P:Program}{N:Nat}{Γ:Ctx P N}{S S':List (Nat×Slot)}{O O':List (Nat×Option Ob)}
variable {d:Nat}{ty:TypeId}{pos:String}{af:Array Edge}{g:Option (Nat×Bool)}
variable {x y:Operand}{u u':TypeId}{k:IntKind}{m n r:Int}
variable {ops rest:List Oper}{K:List Item->Env->Prop}{acc:List Item}{gs:List Nat}
theorem uA {x:Operand}{v:PV}(hrun:Run Γ ops K rest (⟨⟨[(d,⟨v,false⟩)],[]⟩,gs++(ors x),[],[]⟩::acc) ⟨[(d,⟨v,false⟩)]++S,[]++O⟩)(hv:evq S x=some v:=by rfl)(hd:Nat.blt d N=true:=by rfl)(hgd:gd N ops S true g=some gs:=by rfl):Run Γ ops K (⟨some d,.move x,ty,pos,af,g⟩::rest) acc ⟨S,O⟩:=.op (aAN hv hd) hgd rfl hrun
theorem aHn {x:Operand}{v:PV}(hrun:Run Γ ops K rest (⟨⟨[(d,⟨v,false⟩)],[]⟩,gs++(ors x),[],[]⟩::acc) ⟨[(d,⟨v,false⟩)]++S,[]++O⟩)(hv:evq S x=some v:=by rfl)(hd:Nat.blt d N=true:=by rfl)(hgd:gd N ops S true g=some gs:=by rfl):Run Γ ops K (⟨some d,.assign x,ty,pos,af,g⟩::rest) acc ⟨S,O⟩:=.op (aRS hv hd) hgd rfl hrun
theorem aPW {x:Operand}{t f off l k:Nat}{ob:Ob}[hf:FldT P t f off](hrun:Run Γ ops K rest (⟨⟨[(d,⟨.ptr l (k+off),false⟩)],[]⟩,gs++(ors x),[l],[]⟩::acc) ⟨[(d,⟨.ptr l (k+off),false⟩)]++S,[]++O⟩)(hx:evq S x=some (.ptr l k):=by rfl)(ho:loq O l=some ob:=by rfl)(hne:Nat.blt 0 ob.cells.length=true:=by rfl)(hd:Nat.blt d N=true:=by rfl)(hgd:gd N ops S true g=some gs:=by rfl):Run Γ ops K (⟨some d,.fieldAddr t x f,ty,pos,af,g⟩::rest) acc ⟨S,O⟩:=.op (aSJ hx ho hne hd) hgd rfl hrun
theorem dQ {s:Nat}{v:PV}{dp:Bool}(hrun:Run Γ ops K rest (⟨⟨[(d,⟨v,dp⟩),(s,⟨.any,false⟩)],[]⟩,gs++[s],[],[]⟩::acc) ⟨[(d,⟨v,dp⟩),(s,⟨.any,false⟩)]++S,[]++O⟩)(hv:lkq S s=some ⟨v,dp⟩:=by rfl)(hd:Nat.blt d N=true:=by rfl)(hne:Nat.beq d s=false:=by rfl)(hgd:gd N ops S true g=some gs:=by rfl):Run Γ ops K (⟨some d,.move (.tmp s),ty,pos,af,g⟩::rest) acc ⟨S,O⟩:=.op (aSD hv hd hne) hgd rfl hrun
theorem jE {s:Nat}{v:PV}{dp:Bool}(hrun:Run Γ ops K rest (⟨⟨[(d,⟨v,dp⟩),(s,⟨.any,false⟩)],[]⟩,gs++[s],[],[]⟩::acc) ⟨[(d,⟨v,dp⟩),(s,⟨.any,false⟩)]++S,[]++O⟩)(hv:lkq S s=some ⟨v,dp⟩:=by rfl)(hd:Nat.blt d N=true:=by rfl)(hne:Nat.beq d s=false:=by rfl)(hgd:gd N ops S true g=some gs:=by rfl):Run Γ ops K (⟨some d,.assign (.tmp s),ty,pos,af,g⟩::rest) acc ⟨S,O⟩:=.op (aLY hv hd hne) hgd rfl hrun
theorem aPU {x:Operand}{t e:Nat}[ht:SlT P t e]{n:Nat}{cells:List PV}(hrun:Run Γ ops K rest (⟨⟨[(d,⟨.sc (.int .i64 n),false⟩)],[]⟩,gs++(ors x),[],[]⟩::acc) ⟨[(d,⟨.sc (.int .i64 n),false⟩)]++S,[]++O⟩)(hx:evq S x=some (.sl n cells):=by rfl)(hd:Nat.blt d N=true:=by rfl)(hgd:gd N ops S true g=some gs:=by rfl):Run Γ ops K (⟨some d,.call ⟨.builtin .len,#[x],#[t]⟩,ty,pos,af,g⟩::rest) acc ⟨S,O⟩:=.op (aTo hx hd) hgd rfl hrun
theorem aJq {c x y:Operand}{v:PV}(hrun:Run Γ ops K rest (⟨⟨[(d,⟨v,false⟩)],[]⟩,gs++(ors c++ors x),[],[]⟩::acc) ⟨[(d,⟨v,false⟩)]++S,[]++O⟩)(hc:evq S c=some (.sc (.bool true)):=by rfl)(hv:evq S x=some v:=by rfl)(hd:Nat.blt d N=true:=by rfl)(hgd:gd N ops S true g=some gs:=by rfl):Run Γ ops K (⟨some d,.pick c x y,ty,pos,af,g⟩::rest) acc ⟨S,O⟩:=.op (aRd hc hv hd) hgd rfl hrun
theorem aJr {c x y:Operand}{v:PV}(hrun:Run Γ ops K rest (⟨⟨[(d,⟨v,false⟩)],[]⟩,gs++(ors c++ors y),[],[]⟩::acc) ⟨[(d,⟨v,false⟩)]++S,[]++O⟩)(hc:evq S c=some (.sc (.bool false)):=by rfl)(hv:evq S y=some v:=by rfl)(hd:Nat.blt d N=true:=by rfl)(hgd:gd N ops S true g=some gs:=by rfl):Run Γ ops K (⟨some d,.pick c x y,ty,pos,af,g⟩::rest) acc ⟨S,O⟩:=.op (aRe hc hv hd) hgd rfl hrun
theorem nR  (hrun:Run Γ ops K rest (⟨⟨[(d,⟨.sc (.int k r),false⟩)],[]⟩,gs++(ors x++ors y),[],[]⟩::acc) ⟨[(d,⟨.sc (.int k r),false⟩)]++S,[]++O⟩)(hx:evq S x=some (.sc (.int k m)):=by rfl)(hy:evq S y=some (.sc (.int k n)):=by rfl)(hr:k.wrap (m+n)=r:=by rfl)(hd:Nat.blt d N=true:=by rfl)(hgd:gd N ops S true g=some gs:=by rfl):Run Γ ops K (⟨some d,.binOp .add u x y u',ty,pos,af,g⟩::rest) acc ⟨S,O⟩:=.op (aTt hx hy hr hd) hgd rfl hrun
theorem vJ  (hrun:Run Γ ops K rest (⟨⟨[(d,⟨.sc (.int k r),false⟩)],[]⟩,gs++(ors x++ors y),[],[]⟩::acc) ⟨[(d,⟨.sc (.int k r),false⟩)]++S,[]++O⟩)(hx:evq S x=some (.sc (.int k m)):=by rfl)(hy:evq S y=some (.sc (.int k n)):=by rfl)(hr:k.wrap (m-n)=r:=by rfl)(hd:Nat.blt d N=true:=by rfl)(hgd:gd N ops S true g=some gs:=by rfl):Run Γ ops K (⟨some d,.binOp .sub u x y u',ty,pos,af,g⟩::rest) acc ⟨S,O⟩:=.op (aTh hx hy hr hd) hgd rfl hrun
theorem aMS {x:Operand}{u:TypeId}{b:Bool}(hrun:Run Γ ops K rest (⟨⟨[(d,⟨.sc (.bool (!b)),false⟩)],[]⟩,gs++(ors x),[],[]⟩::acc) ⟨[(d,⟨.sc (.bool (!b)),false⟩)]++S,[]++O⟩)(hx:evq S x=some (.sc (.bool b)):=by rfl)(hd:Nat.blt d N=true:=by rfl)(hgd:gd N ops S true g=some gs:=by rfl):Run Γ ops K (⟨some d,.unOp .not u x,ty,pos,af,g⟩::rest) acc ⟨S,O⟩:=.op (aTl hx hd) hgd rfl hrun
theorem aIv  (hrun:Run Γ ops K rest (⟨⟨[(d,⟨.sc (.bool (decide (m<n))),false⟩)],[]⟩,gs++(ors x++ors y),[],[]⟩::acc) ⟨[(d,⟨.sc (.bool (decide (m<n))),false⟩)]++S,[]++O⟩)(hx:evq S x=some (.sc (.int k m)):=by rfl)(hy:evq S y=some (.sc (.int k n)):=by rfl)(hd:Nat.blt d N=true:=by rfl)(hgd:gd N ops S true g=some gs:=by rfl):Run Γ ops K (⟨some d,.binOp .lss u x y u',ty,pos,af,g⟩::rest) acc ⟨S,O⟩:=.op (aP5 hx hy hd) hgd rfl hrun
theorem aTc  (hrun:Run Γ ops K rest (⟨⟨[(d,⟨.sc (.bool (decide (m<=n))),false⟩)],[]⟩,gs++(ors x++ors y),[],[]⟩::acc) ⟨[(d,⟨.sc (.bool (decide (m<=n))),false⟩)]++S,[]++O⟩)(hx:evq S x=some (.sc (.int k m)):=by rfl)(hy:evq S y=some (.sc (.int k n)):=by rfl)(hd:Nat.blt d N=true:=by rfl)(hgd:gd N ops S true g=some gs:=by rfl):Run Γ ops K (⟨some d,.binOp .leq u x y u',ty,pos,af,g⟩::rest) acc ⟨S,O⟩:=.op (aRN hx hy hd) hgd rfl hrun
theorem aTd  (hrun:Run Γ ops K rest (⟨⟨[(d,⟨.sc (.bool (decide (n<m))),false⟩)],[]⟩,gs++(ors x++ors y),[],[]⟩::acc) ⟨[(d,⟨.sc (.bool (decide (n<m))),false⟩)]++S,[]++O⟩)(hx:evq S x=some (.sc (.int k m)):=by rfl)(hy:evq S y=some (.sc (.int k n)):=by rfl)(hd:Nat.blt d N=true:=by rfl)(hgd:gd N ops S true g=some gs:=by rfl):Run Γ ops K (⟨some d,.binOp .gtr u x y u',ty,pos,af,g⟩::rest) acc ⟨S,O⟩:=.op (aRQ hx hy hd) hgd rfl hrun
theorem aTf  (hrun:Run Γ ops K rest (⟨⟨[(d,⟨.sc (.bool (decide (m=n))),false⟩)],[]⟩,gs++(ors x++ors y),[],[]⟩::acc) ⟨[(d,⟨.sc (.bool (decide (m=n))),false⟩)]++S,[]++O⟩)(hx:evq S x=some (.sc (.int k m)):=by rfl)(hy:evq S y=some (.sc (.int k n)):=by rfl)(hd:Nat.blt d N=true:=by rfl)(hgd:gd N ops S true g=some gs:=by rfl):Run Γ ops K (⟨some d,.binOp .eql u x y u',ty,pos,af,g⟩::rest) acc ⟨S,O⟩:=.op (aMW hx hy hd) hgd rfl hrun
theorem aTb  (hrun:Run Γ ops K rest (⟨⟨[(d,⟨.sc (.bool (decide (m≠n))),false⟩)],[]⟩,gs++(ors x++ors y),[],[]⟩::acc) ⟨[(d,⟨.sc (.bool (decide (m≠n))),false⟩)]++S,[]++O⟩)(hx:evq S x=some (.sc (.int k m)):=by rfl)(hy:evq S y=some (.sc (.int k n)):=by rfl)(hd:Nat.blt d N=true:=by rfl)(hgd:gd N ops S true g=some gs:=by rfl):Run Γ ops K (⟨some d,.binOp .neq u x y u',ty,pos,af,g⟩::rest) acc ⟨S,O⟩:=.op (aP3 hx hy hd) hgd rfl hrun
theorem aSu {x:Operand}{t f off:Nat}{cells:List PV}[hf:FldT P t f off](hrun:Run Γ ops K rest (⟨⟨[(d,⟨.iptr (cells.drop off),false⟩)],[]⟩,gs++(ors x),[],[]⟩::acc) ⟨[(d,⟨.iptr (cells.drop off),false⟩)]++S,[]++O⟩)(hx:evq S x=some (.iptr cells):=by rfl)(hd:Nat.blt d N=true:=by rfl)(hgd:gd N ops S true g=some gs:=by rfl):Run Γ ops K (⟨some d,.fieldAddr t x f,ty,pos,af,g⟩::rest) acc ⟨S,O⟩:=.op (aSK hx hd) hgd rfl hrun
theorem aRJ {x:Operand}{t n by_:Nat}{cells:List PV}{c:PV}[ht:TI P t n false by_](hrun:Run Γ ops K rest (⟨⟨[(d,⟨c,false⟩)],[]⟩,gs++(ors x),[],[]⟩::acc) ⟨[(d,⟨c,false⟩)]++S,[]++O⟩)(hx:evq S x=some (.iptr cells):=by rfl)(hc:cells[0]?=some c:=by rfl)(hl:c.labs=[]:=by rfl)(hd:Nat.blt d N=true:=by rfl)(hgd:gd N ops S true g=some gs:=by rfl):Run Γ ops K (⟨some d,.load t x,ty,pos,af,g⟩::rest) acc ⟨S,O⟩:=.op (aRO hx hc hl hd) hgd rfl hrun
theorem sE {x:Operand}{t n by_ l k:Nat}{cells:List PV}{dp bx:Bool}{c:PV}[ht:TI P t n false by_](hrun:Run Γ ops K rest (⟨⟨[(d,⟨c,false⟩)],[]⟩,gs++(ors x),[l],[]⟩::acc) ⟨[(d,⟨c,false⟩)]++S,[]++O⟩)(hx:evq S x=some (.ptr l k):=by rfl)(ho:loq O l=some ⟨cells,dp,bx⟩:=by rfl)(hc:cells[k]?=some c:=by rfl)(hl:(bx||aLe c)=true:=by rfl)(hd:Nat.blt d N=true:=by rfl)(hgd:gd N ops S true g=some gs:=by rfl):Run Γ ops K (⟨some d,.load t x,ty,pos,af,g⟩::rest) acc ⟨S,O⟩:=.op (aHs hx ho hc (aJX hl) hd) hgd rfl hrun
theorem rN {x:Operand}{t n by_ l k:Nat}{cells vs:List PV}{dp bx:Bool}[ht:TI P t n true by_](hrun:Run Γ ops K rest (⟨⟨[(d,⟨.agg vs,false⟩)],[]⟩,gs++(ors x),[l],[]⟩::acc) ⟨[(d,⟨.agg vs,false⟩)]++S,[]++O⟩)(hx:evq S x=some (.ptr l k):=by rfl)(ho:loq O l=some ⟨cells,dp,bx⟩:=by rfl)(hc:(cells.drop k).take n=vs:=by first | exact bA rfl | rfl)(hn:Nat.beq vs.length n=true:=by rfl)(hn0:n≠0:=by intro h;cases h)(hl:(bx||gR vs)=true:=by rfl)(hd:Nat.blt d N=true:=by rfl)(hgd:gd N ops S true g=some gs:=by rfl):Run Γ ops K (⟨some d,.load t x,ty,pos,af,g⟩::rest) acc ⟨S,O⟩:=.op (cW hx ho hc hn hn0 (by cases bx with | true=>exact .inl rfl | false=>exact .inr (by simpa using hl)) hd) hgd rfl hrun
theorem bR {f:FuncId}[hfc:FnC P f]{xs:List Operand}{us:Array TypeId}{ps:List PV}{ls:List Nat}{r:PV}{deep:Bool}(hrun:Run Γ ops K rest (⟨⟨[(d,⟨r,deep⟩)],[]⟩,gs++(qA xs),ls,[]⟩::acc) ⟨[(d,⟨r,deep⟩)]++S,[]++O⟩)(ha:ArgsV S O xs ps ls)(hm:Meets P f ps r deep)(hc:(aNi ls||deep||flat r)=true:=by rfl)(hr:r.labs=[]:=by rfl)(hd:Nat.blt d N=true:=by rfl)(hgd:gd N ops S true g=some gs:=by rfl):Run Γ ops K (⟨some d,.call ⟨.value (.func f),xs.toArray,us⟩,ty,pos,af,g⟩::rest) acc ⟨S,O⟩:=.op (aCl ha hm hc hr hd) hgd rfl hrun
theorem bF {x y:Operand}{t n by_ l k:Nat}{agg dp bx:Bool}{cells cells':List PV}{p:PV}[ht:TI P t n agg by_](hrun:Run Γ ops K rest (⟨⟨[],[(l,some ⟨cells',dp&&aFy p,bx⟩)]⟩,gs++(ors x++ors y),(l::yV p),[]⟩::acc) ⟨[]++S,[(l,some ⟨cells',dp&&aFy p,bx⟩)]++O⟩)(hx:evq S x=some (.ptr l k):=by rfl)(ho:loq O l=some ⟨cells,dp,bx⟩:=by rfl)(hy:evq S y=some p:=by rfl)(hst:stB O bx p=true:=by rfl)(hlen:Nat.beq (bI p).length n=true:=by rfl)(hn0:n≠0:=by intro h;cases h)(hk:Nat.ble (k+n) cells.length=true:=by rfl)(hc:cells.take k++bI p++cells.drop (k+n)=cells':=by first | exact aDw rfl | rfl)(hgd:gd N ops S true g=some gs:=by rfl):Run Γ ops K (⟨none,.store t x y,ty,pos,af,g⟩::rest) acc ⟨S,O⟩:=.op (aTH hx ho hy hst hlen hn0 hk hc) hgd rfl hrun
theorem aG (bx:Bool){e:Nat}{ps:List PV}[hz:ZT P e ps](hrun:Run Γ ops K rest (⟨⟨[(d,⟨.ptr d 0,false⟩)],[(d,some ⟨ps,true,bx⟩)]⟩,gs++[],[],[d]⟩::acc) ⟨[(d,⟨.ptr d 0,false⟩)]++S,[(d,some ⟨ps,true,bx⟩)]++O⟩)(hio:Γ.io d=none:=by exact io1 (by assumption) _)(hd:Nat.blt d N=true:=by rfl)(hgd:gd N ops S true g=some gs:=by rfl)(hno:mW ⟨S,O⟩ [d]=true:=by rfl):Run Γ ops K (⟨some d,.alloc e,ty,pos,af,g⟩::rest) acc ⟨S,O⟩:=.op (aRj bx hio hd) hgd hno hrun
theorem aPV {α:Type}{x i:Operand}{t e n by_:Nat}{agg:Bool}{l:List α}{enc:α->List PV}{y:α}{k:IntKind}{j:Int}{len:Nat}[ht:SlT P t e][hi:TI P e n agg by_](hrun:Run Γ ops K rest (⟨⟨[(d,⟨.iptr (enc y),false⟩)],[]⟩,gs++(ors x++ors i),[],[]⟩::acc) ⟨[(d,⟨.iptr (enc y),false⟩)]++S,[]++O⟩)(hl:idx l j=some y)(hx:evq S x=some (.sl len (l.flatMap enc)):=by rfl)(hix:evq S i=some (.sc (.int k j)):=by rfl)(hlen:len=l.length:=by rfl)(hsz:∀ y,(enc y).length=n:=by intro _;rfl)(hd:Nat.blt d N=true:=by rfl)(hgd:gd N ops S true g=some gs:=by rfl):Run Γ ops K (⟨some d,.indexAddr t x i,ty,pos,af,g⟩::rest) acc ⟨S,O⟩:=.op (aSH hx hix hlen hl hsz hd) hgd rfl hrun
theorem aZ {x:Operand}{t n by_ l k s:Nat}{agg dp bx:Bool}{cells cells':List PV}{p:PV}[ht:TI P t n agg by_](hrun:Run Γ ops K rest (⟨⟨[(s,⟨.any,false⟩)],[(l,some ⟨cells',dp,bx⟩)]⟩,gs++(ors x++[s]),[l],[]⟩::acc) ⟨[(s,⟨.any,false⟩)]++S,[(l,some ⟨cells',dp,bx⟩)]++O⟩)(hx:evq S x=some (.ptr l k):=by rfl)(ho:loq O l=some ⟨cells,dp,bx⟩:=by rfl)(hy:lkq S s=some ⟨p,true⟩:=by rfl)(hst:stB O bx p=true:=by rfl)(hl:p.labs=[]:=by rfl)(hlen:Nat.beq (bI p).length n=true:=by rfl)(hn0:n≠0:=by intro h;cases h)(hk:Nat.ble (k+n) cells.length=true:=by rfl)(hc:cells.take k++bI p++cells.drop (k+n)=cells':=by first | exact aDw rfl | rfl)(hgd:gd N ops S true g=some gs:=by rfl):Run Γ ops K (⟨none,.store t x (.tmp s),ty,pos,af,g⟩::rest) acc ⟨S,O⟩:=.op (aMU hx ho hy hst hl hlen hn0 hk hc) hgd rfl hrun
theorem bG (bx:Bool){e:Nat}{x:Operand}{p:PV}(hrun:Run Γ ops K rest (⟨⟨[(d,⟨.ptr d 0,false⟩)],[(d,some ⟨bI p,aFy p,bx⟩)]⟩,gs++(ors x),(yV p),[d]⟩::acc) ⟨[(d,⟨.ptr d 0,false⟩)]++S,[(d,some ⟨bI p,aFy p,bx⟩)]++O⟩)(hx:evq S x=some p:=by rfl)(hst:stB O bx p=true:=by rfl)(hlab:vD p.labs d=false:=by rfl)(hio:Γ.io d=none:=by exact io1 (by assumption) _)(hd:Nat.blt d N=true:=by rfl)(hgd:gd N ops S true g=some gs:=by rfl)(hno:mW ⟨S,O⟩ [d]=true:=by rfl):Run Γ ops K (⟨some d,.box e x,ty,pos,af,g⟩::rest) acc ⟨S,O⟩:=.op (aTs bx hx hst hlab hio hd) hgd hno hrun
theorem aQ (dp:Bool){t:Nat}{parts:Array (Nat×Operand)}{zs cells:List PV}{pl:List (Nat×Nat)}{ks:List Nat}[hz:ZT P t zs][hp:PlT P t pl](hrun:Run Γ ops K rest (⟨⟨(d,⟨.agg cells,dp⟩)::ks.map (fun j=>(j,⟨.any,false⟩)),[]⟩,gs++(aDe parts.toList),[],[]⟩::acc) ⟨(d,⟨.agg cells,dp⟩)::ks.map (fun j=>(j,⟨.any,false⟩))++S,[]++O⟩)(hb:BuildV S pl dp parts.toList zs cells ks)(hnl:gR cells=true:=by rfl)(hd:Nat.blt d N=true:=by rfl)(hgd:gd N ops S true g=some gs:=by rfl):Run Γ ops K (⟨some d,.build t parts,ty,pos,af,g⟩::rest) acc ⟨S,O⟩:=.op (aKO dp hb hnl hd) hgd rfl hrun
theorem aSv {x:Operand}{vs:List PV}{i:Nat}{p:PV}(hrun:Run Γ ops K rest (⟨⟨[(d,⟨p,false⟩)],[]⟩,gs++(ors x),[],[]⟩::acc) ⟨[(d,⟨p,false⟩)]++S,[]++O⟩)(hx:evq S x=some (.tup vs):=by rfl)(hp:vs[i]?=some p:=by rfl)(hd:Nat.blt d N=true:=by rfl)(hgd:gd N ops S true g=some gs:=by rfl):Run Γ ops K (⟨some d,.extract x i,ty,pos,af,g⟩::rest) acc ⟨S,O⟩:=.op (aSM hx hp hd) hgd rfl hrun
theorem dI {α:Type}{x i:Operand}{t e sz n by_ r:Nat}{agg:Bool}{l:List α}{y:α}{k:IntKind}{j:Int}{ob:Ob}[ht:SlT P t e][hi:TI P e sz agg by_](hrun:Run Γ ops K rest (⟨⟨[(d,⟨.ptr r (j.toNat*sz),false⟩)],[]⟩,gs++(ors x++ors i),[r],[]⟩::acc) ⟨[(d,⟨.ptr r (j.toNat*sz),false⟩)]++S,[]++O⟩)(hl:idx l j=some y)(hx:evq S x=some (.ref r sz 0 n):=by rfl)(ho:loq O r=some ob:=by rfl)(hix:evq S i=some (.sc (.int k j)):=by rfl)(hn:n=l.length:=by rfl)(hd:Nat.blt d N=true:=by rfl)(hgd:gd N ops S true g=some gs:=by rfl):Run Γ ops K (⟨some d,.indexAddr t x i,ty,pos,af,g⟩::rest) acc ⟨S,O⟩:=.op (aSI hx ho hix hl hn hd) hgd rfl hrun
theorem aSt {x:Operand}{t n by_:Nat}{cells vs:List PV}[ht:TI P t n true by_](hrun:Run Γ ops K rest (⟨⟨[(d,⟨.agg vs,false⟩)],[]⟩,gs++(ors x),[],[]⟩::acc) ⟨[(d,⟨.agg vs,false⟩)]++S,[]++O⟩)(hx:evq S x=some (.iptr cells):=by rfl)(hc:cells.take n=vs:=by first | exact aFZ rfl | rfl)(hn:Nat.beq vs.length n=true:=by rfl)(hn0:n≠0:=by intro h;cases h)(hl:gR vs=true:=by rfl)(hd:Nat.blt d N=true:=by rfl)(hgd:gd N ops S true g=some gs:=by rfl):Run Γ ops K (⟨some d,.load t x,ty,pos,af,g⟩::rest) acc ⟨S,O⟩:=.op (aSG hx hc hn hn0 hl hd) hgd rfl hrun
theorem fE {t e sz by_:Nat}{agg:Bool}[ht:SlT P t e][hi:TI P e sz agg by_](hrun:Run Γ ops K rest (⟨⟨[(d,⟨.ref d sz 0 0,false⟩)],[(d,some ⟨[],true,false⟩)]⟩,gs++[],[],[d]⟩::acc) ⟨[(d,⟨.ref d sz 0 0,false⟩)]++S,[(d,some ⟨[],true,false⟩)]++O⟩)(hio:Γ.io d=none:=by exact io1 (by assumption) _)(hd:Nat.blt d N=true:=by rfl)(hgd:gd N ops S true g=some gs:=by rfl)(hno:mW ⟨S,O⟩ [d]=true:=by rfl):Run Γ ops K (⟨some d,.buildSlice t 0 #[],ty,pos,af,g⟩::rest) acc ⟨S,O⟩:=.op (aTr hio hd) hgd hno hrun
theorem cK {f:FuncId}[hfc:FnC P f]{xs:List Operand}{us:Array TypeId}{ps:List PV}{ls:List Nat}{s n:Nat}{cells:List PV}(hrun:Run Γ ops K rest (⟨⟨[(d,⟨.ref d s 0 n,false⟩)],[(d,some ⟨cells,true,false⟩)]⟩,gs++(qA xs),ls,[d]⟩::acc) ⟨[(d,⟨.ref d s 0 n,false⟩)]++S,[(d,some ⟨cells,true,false⟩)]++O⟩)(ha:ArgsV S O xs ps ls)(hm:Meets P f ps (.rw s n cells) true)(hio:Γ.io d=none:=by exact io1 (by assumption) _)(hd:Nat.blt d N=true:=by rfl)(hgd:gd N ops S true g=some gs:=by rfl)(hno:mW ⟨S,O⟩ [d]=true:=by rfl):Run Γ ops K (⟨some d,.call ⟨.value (.func f),xs.toArray,us⟩,ty,pos,af,g⟩::rest) acc ⟨S,O⟩:=.op (aMX ha hm hio hd) hgd hno hrun
theorem hC (scn:Bool){x y:Operand}{t e sz by_ l n m:Nat}{agg dp:Bool}{zs cells ncells cells':List PV}{n':Nat}[ht:SlT P t e][hi:TI P e sz agg by_][hz:ZT P e zs](hrun:Run Γ ops K rest (⟨⟨[(d,⟨.ref d sz 0 n',false⟩)],[(d,some ⟨cells',dp&&scn,false⟩),(l,none)]⟩,gs++(ors x++ors y),[l],[d]⟩::acc) ⟨[(d,⟨.ref d sz 0 n',false⟩)]++S,[(d,some ⟨cells',dp&&scn,false⟩),(l,none)]++O⟩)(hb:(n+m)*by_<=140737488355328)(hcat:cells++ncells=cells'/\n+m=n')(hx:evq S x=some (.ref l sz 0 n):=by rfl)(ho:loq O l=some ⟨cells,dp,false⟩:=by rfl)(hy:evq S y=some (.sl m ncells):=by rfl)(hlen:cells.length=n*sz:=by exact aU (fun _=>rfl))(hnl:ncells.length=m*sz:=by rfl)(h63:0<by_:=by decide)(hio:Γ.io d=none/\Γ.io l=none:=by exact⟨io1 (by assumption) _,io1 (by assumption) _⟩)(hsc:scn=true->jV ncells=true:=by intro h;cases h)(hd:Nat.blt d N=true:=by rfl)(hgd:gd N ops S true g=some gs:=by rfl)(hno:mW ⟨S,O⟩ [d]=true:=by rfl):Run Γ ops K (⟨some d,.call ⟨.builtin .append,#[x,y],#[t,t]⟩,ty,pos,af,g⟩::rest) acc ⟨S,O⟩:=.op (aBy scn hx ho hy hlen hnl hb (aBx h63 hb) hio hsc hcat hd) hgd hno hrun
theorem aC7  (hrun:Run Γ ops K rest (⟨⟨[(d,⟨.sc (.int k r),false⟩)],[]⟩,gs++(ors x++ors y),[],[]⟩::acc) ⟨[(d,⟨.sc (.int k r),false⟩)]++S,[]++O⟩)(hx:evq S x=some (.sc (.int k m)):=by rfl)(hy:evq S y=some (.sc (.int k n)):=by rfl)(hn:n≠0:=by intro h;cases h)(hr:m.tmod n=r:=by rfl)(hd:Nat.blt d N=true:=by rfl)(hgd:gd N ops S true g=some gs:=by rfl):Run Γ ops K (⟨some d,.binOp .rem u x y u',ty,pos,af,g⟩::rest) acc ⟨S,O⟩:=.op (aTj hx hy hn hr hd) hgd rfl hrun
theorem fZ {x:Operand}{t n by_ l:Nat}{cells:List PV}{dp:Bool}[ht:TI P t n true by_](hrun:Run Γ ops K rest (⟨⟨[(d,⟨.agg cells,dp⟩)],[(l,none)]⟩,gs++(ors x),[l],[]⟩::acc) ⟨[(d,⟨.agg cells,dp⟩)]++S,[(l,none)]++O⟩)(hx:evq S x=some (.ptr l 0):=by rfl)(ho:loq O l=some ⟨cells,dp,false⟩:=by rfl)(hn:Nat.beq cells.length n=true:=by rfl)(hn0:n≠0:=by intro h;cases h)(hnl:gR cells=true:=by rfl)(hio:Γ.io l=none:=by exact io1 (by assumption) _)(hd:Nat.blt d N=true:=by rfl)(hgd:gd N ops S true g=some gs:=by rfl):Run Γ ops K (⟨some d,.load t x,ty,pos,af,g⟩::rest) acc ⟨S,O⟩:=.op (aRf hx ho hn hn0 hnl hio hd) hgd rfl hrun
theorem aJt {p q:Bool}[hu:UT P u .bool](hrun:Run Γ ops K rest (⟨⟨[(d,⟨.sc (.bool (!(p == q))),false⟩)],[]⟩,gs++(ors x++ors y),[],[]⟩::acc) ⟨[(d,⟨.sc (.bool (!(p == q))),false⟩)]++S,[]++O⟩)(hx:evq S x=some (.sc (.bool p)):=by rfl)(hy:evq S y=some (.sc (.bool q)):=by rfl)(hd:Nat.blt d N=true:=by rfl)(hgd:gd N ops S true g=some gs:=by rfl):Run Γ ops K (⟨some d,.binOp .neq u x y u',ty,pos,af,g⟩::rest) acc ⟨S,O⟩:=.op (aSO hx hy hd) hgd rfl hrun
theorem sG {s i:Nat}{vs:List PV}{p:PV}(hrun:Run Γ ops K rest (⟨⟨[(d,⟨p,true⟩),(s,⟨.tup (vs.set i .any),true⟩)],[]⟩,gs++[s],[],[]⟩::acc) ⟨[(d,⟨p,true⟩),(s,⟨.tup (vs.set i .any),true⟩)]++S,[]++O⟩)(hx:lkq S s=some ⟨.tup vs,true⟩:=by rfl)(hp:vs[i]?=some p:=by rfl)(hl:p.labs=[]:=by rfl)(hne:Nat.beq s d=false:=by rfl)(hd:Nat.blt d N=true:=by rfl)(hgd:gd N ops S true g=some gs:=by rfl):Run Γ ops K (⟨some d,.extract (.tmp s) i,ty,pos,af,g⟩::rest) acc ⟨S,O⟩:=.op (aSL hx hp hl hne hd) hgd rfl hrun
theorem aAM {α:Type}{x:Operand}{lo hi:Option Operand}{t e n by_:Nat}{agg:Bool}{l r:List α}{enc:α->List PV}{i j:Int}{len:Nat}[ht:SlT P t e][hi':TI P e n agg by_](hrun:Run Γ ops K rest (⟨⟨[(d,⟨.sl r.length (r.flatMap enc),false⟩)],[]⟩,gs++(ors x++(aI6 lo++aI6 hi)),[],[]⟩::acc) ⟨[(d,⟨.sl r.length (r.flatMap enc),false⟩)]++S,[]++O⟩)(h:sub l i j=some r)(hx:evq S x=some (.sl len (l.flatMap enc)):=by rfl)(hlen:len=l.length:=by rfl)(hlo:wR S 0 lo=some i:=by rfl)(hhi:wR S len hi=some j:=by rfl)(hsz:∀ y,(enc y).length=n:=by intro _;rfl)(hd:Nat.blt d N=true:=by rfl)(hgd:gd N ops S true g=some gs:=by rfl):Run Γ ops K (⟨some d,.slice t x lo hi none,ty,pos,af,g⟩::rest) acc ⟨S,O⟩:=.op (aTi hx hlen hlo hhi h hsz hd) hgd rfl hrun
theorem aTe  (hrun:Run Γ ops K rest (⟨⟨[(d,⟨.sc (.bool (decide (n<=m))),false⟩)],[]⟩,gs++(ors x++ors y),[],[]⟩::acc) ⟨[(d,⟨.sc (.bool (decide (n<=m))),false⟩)]++S,[]++O⟩)(hx:evq S x=some (.sc (.int k m)):=by rfl)(hy:evq S y=some (.sc (.int k n)):=by rfl)(hd:Nat.blt d N=true:=by rfl)(hgd:gd N ops S true g=some gs:=by rfl):Run Γ ops K (⟨some d,.binOp .geq u x y u',ty,pos,af,g⟩::rest) acc ⟨S,O⟩:=.op (aRR hx hy hd) hgd rfl hrun
theorem kE {x:Operand}{t e:Nat}[ht:SlT P t e]{l s off n:Nat}{ob:Ob}(hrun:Run Γ ops K rest (⟨⟨[(d,⟨.sc (.int .i64 n),false⟩)],[]⟩,gs++(ors x),[l],[]⟩::acc) ⟨[(d,⟨.sc (.int .i64 n),false⟩)]++S,[]++O⟩)(hx:evq S x=some (.ref l s off n):=by rfl)(ho:loq O l=some ob:=by rfl)(hd:Nat.blt d N=true:=by rfl)(hgd:gd N ops S true g=some gs:=by rfl):Run Γ ops K (⟨some d,.call ⟨.builtin .len,#[x],#[t]⟩,ty,pos,af,g⟩::rest) acc ⟨S,O⟩:=.op (aSF hx ho hd) hgd rfl hrun
theorem aCi  (hrun:Run Γ ops K rest (⟨⟨[(d,⟨.sc (.int k r),false⟩)],[]⟩,gs++(ors x++ors y),[],[]⟩::acc) ⟨[(d,⟨.sc (.int k r),false⟩)]++S,[]++O⟩)(hx:evq S x=some (.sc (.int k m)):=by rfl)(hy:evq S y=some (.sc (.int k n)):=by rfl)(hn:n≠0:=by intro h;cases h)(hr:k.wrap (m.tdiv n)=r:=by rfl)(hd:Nat.blt d N=true:=by rfl)(hgd:gd N ops S true g=some gs:=by rfl):Run Γ ops K (⟨some d,.binOp .quo u x y u',ty,pos,af,g⟩::rest) acc ⟨S,O⟩:=.op (aTk hx hy hn hr hd) hgd rfl hrun
theorem uZ {f:FuncId}[hfc:FnC P f]{k:Nat}{tus:Array TypeId}{p r:PV}(hrun:Run Γ ops K rest (⟨⟨[(d,⟨r,true⟩),(k,⟨.any,false⟩)],[]⟩,gs++[k],[],[]⟩::acc) ⟨[(d,⟨r,true⟩),(k,⟨.any,false⟩)]++S,[]++O⟩)(hm:MeetsD P f [(p,true)] r)(hk:lkq S k=some ⟨p,true⟩:=by rfl)(hl:p.labs=[]:=by rfl)(hr:r.labs=[]:=by rfl)(hd:Nat.blt d N=true:=by rfl)(hgd:gd N ops S true g=some gs:=by rfl):Run Γ ops K (⟨some d,.call ⟨.value (.func f),#[.tmp k],tus⟩,ty,pos,af,g⟩::rest) acc ⟨S,O⟩:=.op (aP7 hk hl hm hr hd) hgd rfl hrun
theorem aAq {t e sz by_ s:Nat}{agg:Bool}{ps:List PV}{p:PV}[ht:SlT P t e][hi:TI P e sz agg by_][hz:ZT P e ps](hrun:Run Γ ops K rest (⟨⟨[(d,⟨.sl 1 (bI p),true⟩),(s,⟨.any,false⟩)],[]⟩,gs++[s],[],[]⟩::acc) ⟨[(d,⟨.sl 1 (bI p),true⟩),(s,⟨.any,false⟩)]++S,[]++O⟩)(hx:lkq S s=some ⟨p,true⟩:=by rfl)(hst:stB O false p=true:=by rfl)(hl:p.labs=[]:=by rfl)(hlen:Nat.beq (bI p).length sz=true:=by rfl)(hsz:Nat.blt 0 sz=true:=by rfl)(hs2:Nat.ble sz 1000=true:=by rfl)(hne:Nat.beq d s=false:=by rfl)(hd:Nat.blt d N=true:=by rfl)(hgd:gd N ops S true g=some gs:=by rfl):Run Γ ops K (⟨some d,.buildSlice t 1 #[(0,.tmp s)],ty,pos,af,g⟩::rest) acc ⟨S,O⟩:=.op (aP9 hx hst hl hlen hsz hs2 hne hd) hgd rfl hrun
theorem zF {t e sz by_:Nat}{agg:Bool}{ps:List PV}{x:Operand}{p:PV}[ht:SlT P t e][hi:TI P e sz agg by_][hz:ZT P e ps](hrun:Run Γ ops K rest (⟨⟨[(d,⟨.sl 1 (bI p),false⟩)],[]⟩,gs++(ors x),[],[]⟩::acc) ⟨[(d,⟨.sl 1 (bI p),false⟩)]++S,[]++O⟩)(hx:evq S x=some p:=by rfl)(hst:stB O false p=true:=by rfl)(hl:p.labs=[]:=by rfl)(hlen:Nat.beq (bI p).length sz=true:=by rfl)(hsz:Nat.blt 0 sz=true:=by rfl)(hs2:Nat.ble sz 1000=true:=by rfl)(hd:Nat.blt d N=true:=by rfl)(hgd:gd N ops S true g=some gs:=by rfl):Run Γ ops K (⟨some d,.buildSlice t 1 #[(0,x)],ty,pos,af,g⟩::rest) acc ⟨S,O⟩:=.op (aJy hx hst hl hlen hsz hs2 hd) hgd rfl hrun
theorem zG {x:Operand}{t e sz by_ l n m s:Nat}{agg dp:Bool}{zs cells ncells cells':List PV}{n':Nat}[ht:SlT P t e][hi:TI P e sz agg by_][hz:ZT P e zs](hrun:Run Γ ops K rest (⟨⟨[(d,⟨.ref d sz 0 n',false⟩),(s,⟨.any,false⟩)],[(d,some ⟨cells',dp,false⟩),(l,none)]⟩,gs++(ors x++[s]),[l],[d]⟩::acc) ⟨[(d,⟨.ref d sz 0 n',false⟩),(s,⟨.any,false⟩)]++S,[(d,some ⟨cells',dp,false⟩),(l,none)]++O⟩)(hb:(n+m)*by_<=140737488355328)(hcat:cells++ncells=cells'/\n+m=n')(hx:evq S x=some (.ref l sz 0 n):=by rfl)(ho:loq O l=some ⟨cells,dp,false⟩:=by rfl)(hy:lkq S s=some ⟨.sl m ncells,true⟩:=by rfl)(hlen:cells.length=n*sz:=by exact aU (fun _=>rfl))(hnl:ncells.length=m*sz:=by rfl)(h63:0<by_:=by decide)(hio:Γ.io d=none/\Γ.io l=none:=by exact⟨io1 (by assumption) _,io1 (by assumption) _⟩)(hd:Nat.blt d N=true:=by rfl)(hgd:gd N ops S true g=some gs:=by rfl)(hno:mW ⟨S,O⟩ [d]=true:=by rfl):Run Γ ops K (⟨some d,.call ⟨.builtin .append,#[x,.tmp s],#[t,t]⟩,ty,pos,af,g⟩::rest) acc ⟨S,O⟩:=.op (aQa hx ho hy hlen hnl hb (aBx h63 hb) hio hcat hd) hgd hno hrun
theorem aC8 {t e sz by_:Nat}{agg:Bool}{ps:List PV}{x:Operand}{p:PV}[ht:SlT P t e][hi:TI P e sz agg by_][hz:ZT P e ps](hrun:Run Γ ops K rest (⟨⟨[(d,⟨.sl 1 (bI p),true⟩)],[]⟩,gs++(ors x),[],[]⟩::acc) ⟨[(d,⟨.sl 1 (bI p),true⟩)]++S,[]++O⟩)(hx:evq S x=some p:=by rfl)(hst:stB O false p=true:=by rfl)(hsc:aFy p=true:=by rfl)(hl:p.labs=[]:=by rfl)(hlen:Nat.beq (bI p).length sz=true:=by rfl)(hsz:Nat.blt 0 sz=true:=by rfl)(hs2:Nat.ble sz 1000=true:=by rfl)(hd:Nat.blt d N=true:=by rfl)(hgd:gd N ops S true g=some gs:=by rfl):Run Γ ops K (⟨some d,.buildSlice t 1 #[(0,x)],ty,pos,af,g⟩::rest) acc ⟨S,O⟩:=.op (aTq hx hst hsc hl hlen hsz hs2 hd) hgd rfl hrun
theorem xK {f:FuncId}[hfc:FnC P f]{k:Nat}{y:Operand}{tus:Array TypeId}{p0 p r:PV}(hrun:Run Γ ops K rest (⟨⟨[(d,⟨r,true⟩),(k,⟨.any,false⟩)],[]⟩,gs++(ors y++[k]),[],[]⟩::acc) ⟨[(d,⟨r,true⟩),(k,⟨.any,false⟩)]++S,[]++O⟩)(hm:MeetsD P f [(p0,false),(p,true)] r)(hy:evq S y=some p0:=by rfl)(hn0:qU p0=true:=by rfl)(hl0:p0.labs=[]:=by rfl)(hk:lkq S k=some ⟨p,true⟩:=by rfl)(hl:p.labs=[]:=by rfl)(hr:r.labs=[]:=by rfl)(hd:Nat.blt d N=true:=by rfl)(hgd:gd N ops S true g=some gs:=by rfl):Run Γ ops K (⟨some d,.call ⟨.value (.func f),#[y,.tmp k],tus⟩,ty,pos,af,g⟩::rest) acc ⟨S,O⟩:=.op (aP6 hy hn0 hl0 hk hl hm hr hd) hgd rfl hrun
theorem aCG {α:Type}{enc:α->List PV}{z:α}{t e sz by_:Nat}{agg:Bool}{x y:Operand}{k k':IntKind}{n n':Int}{ps:List PV}[ht:SlT P t e][hi:TI P e sz agg by_][hz:ZT P e ps](hrun:Run Γ ops K rest (⟨⟨[(d,⟨.ref d sz 0 (List.replicate n.toNat z).length,false⟩)],[(d,some ⟨(List.replicate n.toNat z).flatMap enc,true,false⟩)]⟩,gs++(ors x++ors y),[],[d]⟩::acc) ⟨[(d,⟨.ref d sz 0 (List.replicate n.toNat z).length,false⟩)]++S,[(d,some ⟨(List.replicate n.toNat z).flatMap enc,true,false⟩)]++O⟩)(hb:0<=n/\n.toNat*by_<=281474976710656)(hx:evq S x=some (.sc (.int k n)):=by rfl)(hy:evq S y=some (.sc (.int k' n')):=by rfl)(hnn:n=n':=by rfl)(hez:enc z=ps:=by rfl)(hby:0<by_:=by decide)(hsz:sz≠0:=by intro h;cases h)(hio:Γ.io d=none:=by exact io1 (by assumption) _)(hd:Nat.blt d N=true:=by rfl)(hgd:gd N ops S true g=some gs:=by rfl)(hno:mW ⟨S,O⟩ [d]=true:=by rfl):Run Γ ops K (⟨some d,.makeSlice t x y,ty,pos,af,g⟩::rest) acc ⟨S,O⟩:=.op (aJw hx hy hnn hb hez hby hsz hio hd) hgd hno hrun
theorem aHm {t e by_ n:Nat}{agg:Bool}{ps:List PV}{parts:Array (Nat×Operand)}{vs:List Value}[ht:SlT P t e][hi:TI P e 1 agg by_][hz:ZT P e ps](hrun:Run Γ ops K rest (⟨⟨[(d,⟨.ref d 1 0 n,false⟩)],[(d,some ⟨vs.map .sc,true,false⟩)]⟩,gs++(aDe parts.toList),[],[d]⟩::acc) ⟨[(d,⟨.ref d 1 0 n,false⟩)]++S,[(d,some ⟨vs.map .sc,true,false⟩)]++O⟩)(hv:aCx S parts.toList 0=some vs:=by rfl)(hn:Nat.beq vs.length n=true:=by rfl)(hpos:Nat.blt 0 n=true:=by rfl)(hs2:Nat.ble n 1000=true:=by rfl)(hio:Γ.io d=none:=by exact io1 (by assumption) _)(hd:Nat.blt d N=true:=by rfl)(hgd:gd N ops S true g=some gs:=by rfl)(hno:mW ⟨S,O⟩ [d]=true:=by rfl):Run Γ ops K (⟨some d,.buildSlice t n parts,ty,pos,af,g⟩::rest) acc ⟨S,O⟩:=.op (aP8 hv hn hpos hs2 hio hd) hgd hno hrun
theorem aPT  (hrun:Run Γ ops K rest (⟨⟨[(d,⟨.sc (.int k r),false⟩)],[]⟩,gs++(ors x++ors y),[],[]⟩::acc) ⟨[(d,⟨.sc (.int k r),false⟩)]++S,[]++O⟩)(hx:evq S x=some (.sc (.int k m)):=by rfl)(hy:evq S y=some (.sc (.int k n)):=by rfl)(hr:k.wrap (m*n)=r:=by rfl)(hd:Nat.blt d N=true:=by rfl)(hgd:gd N ops S true g=some gs:=by rfl):Run Γ ops K (⟨some d,.binOp .mul u x y u',ty,pos,af,g⟩::rest) acc ⟨S,O⟩:=.op (aTm hx hy hr hd) hgd rfl hrun
theorem aLT {x:Operand}{src dst:TypeId}{k q:IntKind}{n r:Int}{ds:TypeDesc}[hs:UT P src ds][ht:UT P dst (.int q)](hrun:Run Γ ops K rest (⟨⟨[(d,⟨.sc (.int q r),false⟩)],[]⟩,gs++(ors x),[],[]⟩::acc) ⟨[(d,⟨.sc (.int q r),false⟩)]++S,[]++O⟩)(hx:evq S x=some (.sc (.int k n)):=by rfl)(hr:q.wrap n=r:=by rfl)(hd:Nat.blt d N=true:=by rfl)(hgd:gd N ops S true g=some gs:=by rfl):Run Γ ops K (⟨some d,.convert src dst x,ty,pos,af,g⟩::rest) acc ⟨S,O⟩:=.op (aSN hx hr hd) hgd rfl hrun
theorem av {x:Operand}{p:PV}{m:List Nat}{xs:List Operand}{ps:List PV}(h:ArgsV S O xs ps m)(hx:evq S x=some p:=by rfl)(hl:p.labs=[]:=by rfl):ArgsV S O (x::xs) (p::ps) ([]++m):=.cons (.val hx hl) h
theorem ar {x:Operand}{l s n:Nat}{cells:List PV}{dp:Bool}{m:List Nat}{xs:List Operand}{ps:List PV}(h:ArgsV S O xs ps m)(hx:evq S x=some (.ref l s 0 n):=by rfl)(ho:loq O l=some ⟨cells,dp,false⟩:=by rfl)(hl:cells.length<=n*s:=by first | exact Nat.le_of_eq (aU (fun _=>rfl)) | exact aUj rfl):ArgsV S O (x::xs) (.sl n cells::ps) ([l]++m):=.cons (.ref hx ho hl) h
theorem avS {x:Operand}{p p':PV}{m:List Nat}{xs:List Operand}{ps:List PV}(h:ArgsV S O xs ps m)(hs:Soft p p')(hx:evq S x=some p:=by rfl)(hl:p.labs=[]:=by rfl):ArgsV S O (x::xs) (p'::ps) ([]++m):=.cons (.valS hx hl hs) h
theorem arS {x:Operand}{l s n:Nat}{cells cells':List PV}{dp:Bool}{m:List Nat}{xs:List Operand}{ps:List PV}(h:ArgsV S O xs ps m)(hl:SoftL cells cells')(hx:evq S x=some (.ref l s 0 n):=by rfl)(ho:loq O l=some ⟨cells,dp,false⟩:=by rfl):ArgsV S O (x::xs) (.sl n cells'::ps) ([l]++m):=.cons (.refS hx ho hl) h
theorem bs {pl:List (Nat×Nat)}{dp:Bool}{i off n:Nat}{x:Operand}{p:PV}{r:List (Nat×Operand)}{cells cells':List PV}{ks:List Nat}(h1:evq S x=some p:=by rfl)(h2:qU p=true:=by rfl)(h3:p.labs=[]:=by rfl)(h4:stB [] false p=true:=by rfl)(h5:pl[i]?=some (off,n):=by rfl)(h6:Nat.beq (bI p).length n=true:=by rfl)(h7:Nat.ble (off+n) cells.length=true:=by rfl)(h:BuildV S pl dp r (cells.take off++bI p++cells.drop (off+n)) cells' ks):BuildV S pl dp ((i,x)::r) cells cells' ks:=.sc h1 h2 h3 h4 h5 h6 h7 h
theorem bt {pl:List (Nat×Nat)}{dp:Bool}{i off n k:Nat}{p:PV}{r:List (Nat×Operand)}{cells cells':List PV}{ks:List Nat}(h1:lkq S k=some ⟨p,true⟩:=by rfl)(h3:p.labs=[]:=by rfl)(h4:stB [] false p=true:=by rfl)(h5:pl[i]?=some (off,n):=by rfl)(h6:Nat.beq (bI p).length n=true:=by rfl)(h7:Nat.ble (off+n) cells.length=true:=by rfl)(h8:vD ks k=false:=by rfl)(h:BuildV S pl dp r (cells.take off++bI p++cells.drop (off+n)) cells' ks):BuildV S pl dp ((i,.tmp k)::r) cells cells' (k::ks):=.tk h1 h3 h4 h5 h6 h7 h8 h
theorem bh {pl:List (Nat×Nat)}{dp:Bool}{i off n:Nat}{x:Operand}{p:PV}{r:List (Nat×Operand)}{cells cells':List PV}{ks:List Nat}(h1:dp=false:=by rfl)(h2:evq S x=some p:=by rfl)(h3:p.labs=[]:=by rfl)(h4:stB [] false p=true:=by rfl)(h5:pl[i]?=some (off,n):=by rfl)(h6:Nat.beq (bI p).length n=true:=by rfl)(h7:Nat.ble (off+n) cells.length=true:=by rfl)(h:BuildV S pl dp r (cells.take off++bI p++cells.drop (off+n)) cells' ks):BuildV S pl dp ((i,x)::r) cells cells' ks:=.sh h1 h2 h3 h4 h5 h6 h7 h
end
/- The engine, part SS: a row of the caller's own, lent to a function that only reads it: what the function returns does not speak of the row's own block. -/
open Go.RowKit (Below)
def ROk (w:World)(ok:Nat->Prop)(o:Option Nat)(old:List PV):Prop:=(o=none/\old=[])\/∃ b cs t B,o=some b/\¬ok b/\w.heap[b]?=some (.cells cs t (0,0))/\RelL w.heap true dead old cs 0 B/\∀ x∈B,ok x
def aD3 (l0:Nat)(o:Option Nat):Nat->Option (Option Nat):=fun l=>if l=l0 then some o else none
def MeetsR (P:Program)(f:FuncId)(args:List PV)(l0:Nat)(old:List PV)(r:PV):Prop :=
 ∀ (w:World) (cargs:Array Value) (ok:Nat->Prop) (o:Option Nat),XArgs w.heap ok (aD3 l0 o) args cargs.toList->ROk w ok o old->
  Calls P f cargs w fun e w'=>∃ c B,e=.returned c/\Same w w'/\(∀ b,b<w.heap.size->o≠some b->w'.heap[b]?=w.heap[b]?)/\
   (∀ b,o=some b->∀ cs t,w.heap[b]?=some (.cells cs t (0,0))->∃ cs' B',w'.heap[b]?=some (.cells cs' t (0,0))/\cs'.size=cs.size/\RelL w'.heap true dead old cs' 0 B'/\∀ x∈B',x<w'.heap.size/\(ok x\/w.heap.size<=x))/\
   RelV w'.heap dead r c B/\(∀ b∈B,ok b\/w.heap.size<=b)
section
variable {P:Program}{N:Nat}
theorem MeetsR.intro {f:FuncId}{fn:Func}{c:Code}{args:List PV}{l0:Nat}{old:List PV}{r:PV}{rs:Array ResultVar}(hf:P.funcs[f]?=some fn)(hb:fn.body=some c)(hN:fn.ntmps=N)(hrs:fn.results=rs)(hn:Nat.ble args.length N=true)(hl0:Nat.ble 100000 l0=true)
 (h:∀ Γ:Ctx P N,(∀ l,Nat.blt l 100000=true->Γ.io l=none)->CodeT Γ c ⟨iJ args 0,[(l0,some ⟨old,false,false⟩)]⟩ (aAH Γ rs r false [⟨l0,old,old⟩])):MeetsR P f args l0 old r:=by
 intro w cargs ok o ha hob
 obtain⟨h1,h2⟩:=ha.get
 have hn:=aUj hn
 have hl0:=aUj hl0
 let Γ:Ctx P N:={ base:=w.heap.size,ok:=ok,io:=fun l=>if l=l0 then o else none,w0:=w,mine:=fun _=>False,lent:=fun _=>False }
 have hio:∀ l b,Γ.io l=some b↔l=l0/\o=some b:=by
  intro l b
  show(if l=l0 then o else none)=some b↔_
  by_cases e:l=l0 <;> simp[e]
 have hsz:(cargs++Array.replicate (fn.ntmps-cargs.size) undef).size=N:=by
  have:cargs.size=args.length:=by rw[h1];simp
  simp[this,hN];omega
 have hblt:∀ b,o=some b->b<w.heap.size/\¬ok b:=by
  rintro b rfl
  rcases hob with⟨e,_⟩ | ⟨b',cs,t,B,e,hk,g,_⟩
  · cases e
  · cases e
    rcases aUT b w.heap.size with h | h
    · exact⟨h,hk⟩
    · simp[aUG h]at g
 refine calls_of_wp hf hb ?_
 let ow:Nat->Own:=fun b=>if o=some b then .lab l0 else .none
 have how:∀ b l,ow b=.lab l->l=l0/\o=some b:=by
  intro b l e
  have e:(if o=some b then Own.lab l0 else .none)=.lab l:=e
  by_cases hh:o=some b
  · rw[aTK hh]at e;cases e;exact⟨rfl,hh⟩
  · rw[aTJ hh]at e;cases e
 have hsim:Sim Γ ⟨iJ args 0,[(l0,some ⟨old,false,false⟩)]⟩ { tmps:=cargs++Array.replicate (fn.ntmps-cargs.size) undef,defers:=[] } w:=by
  refine⟨ow,aD3 l0 o,{ size:=hsz,defers:=rfl,kept:=⟨rfl,rfl,rfl,aTU _,fun _ _ _ _=>rfl,fun b _ _ cs t h=>⟨cs,h,rfl⟩⟩,slots:=fun k=>?_,objs:=fun l ob hl=>?_,gone:=fun l hl=>?_,own:=fun b hb=>?_,ios:=fun l b hl _=>?_,fresh:=fun l b hl hi=>?_ }⟩
  · rw[nO]
    by_cases hk:k<args.length
    · rw[aTK ⟨aUB _,by simpa using hk⟩]
      obtain⟨B,g1,g2⟩:=h2 k hk
      refine⟨B,?_,fun b hb=>⟨aW8 _ _ _ g1 b hb,.inl (g2 b hb),fun l e=>(hblt b (how b l e).2).2 (g2 b hb)⟩,by simp⟩
      have e:(cargs++Array.replicate (fn.ntmps-cargs.size) undef).getD k undef=cargs.toList.getD k undef:=by
       have hlt:k<cargs.size:=by rw[h1]at hk;simpa using hk
       simp[aT8,aUS,hlt,aT1]
      rw[e]
      simpa only[aVv]using g1
    · rw[aTJ (by simpa using hk)]
      exact⟨[],by simp[RelV],by simp,by simp⟩
  · simp only[aI]at hl
    by_cases e:l0=l
    · subst e
      rw[aTK rfl]at hl;cases hl
      rcases hob with⟨rfl,e2⟩ | ⟨b,cs,t,B,rfl,hk,g1,g2,g3⟩
      · exact⟨[],by simp,by simp,.inl ⟨by simp[aD3],e2,rfl⟩⟩
      · refine⟨B,fun x hx=>⟨RelL.below _ _ _ _ g2 x hx,.inl (g3 x hx),fun l e=>(hblt x (how x l e).2).2 (g3 x hx)⟩,fun hd=>(by cases hd),.inr ⟨b,cs,t,by simp[aD3],?_,g1,g2⟩⟩
        show(if _ then _ else _)=_
        rw[aTK rfl]
    · rw[aTJ e]at hl;simp[lo]at hl
  · simp only[aI]at hl
    by_cases e:l0=l
    · rw[aTK e]at hl;cases hl
    · simp[aD3,Ne.symm e]
  · have hb:(if o=some b then Own.lab l0 else .none)≠.none:=hb
    by_cases hh:o=some b
    · refine⟨(hblt b hh).1,.inr ⟨l0,?_,(hio l0 b).2 ⟨rfl,hh⟩⟩⟩
      show(if _ then _ else _)=_
      rw[aTK hh]
    · rw[aTJ hh]at hb;exact absurd rfl hb
  · obtain⟨rfl,rfl⟩:=(hio l b).1 hl
    simp[aD3]
  · have hl:(if l=l0 then some o else none)=some (some b):=hl
    by_cases e:l=l0
    · rw[aTK e]at hl
      rw[(hio l b).2 ⟨e,Option.some.inj hl⟩]at hi;cases hi
    · rw[aTJ e]at hl;cases hl
 have hioN:∀ l,Nat.blt l 100000=true->Γ.io l=none:=by
  intro l hl
  have hl:=(aW _ _).1 hl
  show(if l=l0 then o else none)=none
  rw[aTJ (by omega)]
 refine wp_mono (h Γ hioN _ _ hsim) fun e a' w' ⟨E',hs',hq⟩=>?_
 have fin:RetX Γ rs E' r false [⟨l0,old,old⟩]->a'.defers=[]/\∃ v,(results fn a'.tmps).run P w'=.ok v w'/\∃ c B,Ending.returned v=.returned c/\Same w w'/\(∀ b,b<w.heap.size->o≠some b->w'.heap[b]?=w.heap[b]?)/\
  (∀ b,o=some b->∀ cs t,w.heap[b]?=some (.cells cs t (0,0))->∃ cs' B',w'.heap[b]?=some (.cells cs' t (0,0))/\cs'.size=cs.size/\RelL w'.heap true dead old cs' 0 B'/\∀ x∈B',x<w'.heap.size/\(ok x\/w.heap.size<=x))/\
  RelV w'.heap dead r c B/\(∀ b∈B,ok b\/w.heap.size<=b):=by
  rintro⟨hr,hr2⟩
  obtain⟨c,B,g1,g2,g3,g4⟩:=hr fn hrs a' w' hs'
  obtain⟨E2,⟨ow2,β2,hs2⟩,hr2⟩:=hr2 a' w' hs'
  refine⟨hs2.defers,c,g1,c,B,rfl,⟨hs2.kept.os,hs2.kept.output,hs2.kept.tape,hs2.kept.size⟩,fun b hb hn=>hs2.kept.old b hb (fun l e=>hn ((hio l b).1 e).2) (fun h=>h),fun b e cs t hc=>?_,g2,fun b hb=>(g3 b hb).2.imp id (fun h=>(h.elim id False.elim:Γ.nww b).elim id False.elim)⟩
  obtain⟨dp,hl⟩:=hr2 ⟨l0,old,old⟩ (by simp)
  obtain⟨Bo,k1,_,k3⟩:=hs2.objs l0 _ hl
  have hβ:=hs2.ios l0 b ((hio l0 b).2 ⟨rfl,e⟩) (by simp only at hl;rw[hl];rfl)
  rcases k3 with⟨k4,_⟩ | ⟨b',cs',t',k4,k5,k6,k7⟩
  · rw[hβ]at k4;cases k4
  · rw[hβ]at k4;cases k4
    obtain⟨cs2,q1,q2⟩:=hs2.kept.ios b (hblt b e).1 (fun h=>h) cs t hc
    rw[k6]at q1;cases q1
    exact⟨cs',Bo,k6,q2,by simpa using k7,fun x hx=>⟨(k1 x hx).1,(k1 x hx).2.1.imp id (fun h=>(h.elim id False.elim:Γ.nww x).elim id False.elim)⟩⟩
 cases e with
 | normal=>exact fin hq
 | ret=>exact fin hq
 | exit id=>exact hq.elim
 | goto l=>exact hq.elim
 | panic ch=>exact hq.elim
 | outgrown=>exact hq.elim
variable {Γ:Ctx P N}{S:List (Nat×Slot)}{O:List (Nat×Option Ob)}{ow:Nat->Own}{β:Nat->Option (Option Nat)}{F:Env}{a:Act}{w:World}
theorem SimG.rewriteS (h:SimG Γ ow β F a w){w':World}(hw:Same w w'){l b0:Nat}(hβ0:β l=some (some b0))(hother:∀ b,b<w.heap.size->b≠b0->w'.heap[b]?=w.heap[b]?)
 {cs cs':Array Value} {t:TypeId} (hrow0:w.heap[b0]?=some (.cells cs t (0,0))) (hrow:w'.heap[b0]?=some (.cells cs' t (0,0))) (hsz:cs'.size=cs.size) {cells:List PV} {B:List Nat}
 (hrel:RelL w'.heap true dead cells cs' 0 B) (hB:∀ b∈B,b<w'.heap.size/\(Im Γ ow w b\/w.heap.size<=b)):SimG Γ ow β (F.app ⟨[],[(l,some ⟨cells,false,false⟩)]⟩) a w':=by
 have hlab0:=h.lab_ne hβ0
 have hImne:∀ b,Im Γ ow w b->b≠b0:=by rintro b ⟨_,_,h3⟩ rfl;exact h3 l hlab0
 have hIm:∀ b,Im Γ ow w b->Im Γ ow w' b:=fun b hb=>⟨aTX hb.1 hw.size,hb.2⟩
 have hFree:∀ b,Im Γ ow w b->gD w b->gD w' b:=fun b hb ⟨c,t,hc⟩=>⟨c,t,by rw[hother b hb.1 (hImne b hb)];exact hc⟩
 have hheap:∀ b,Im Γ ow w b->w'.heap[b]?=w.heap[b]?:=fun b hb=>hother b hb.1 (hImne b hb)
 have hshape:∀ b,b<w.heap.size->aCF w.heap w'.heap b:=by
  intro b hb c t' hc
  by_cases hbb:b=b0
  · subst hbb;rw[hrow0]at hc;cases hc;exact⟨cs',hrow,hsz⟩
  · exact⟨c,by rw[hother b hb hbb];exact hc,rfl⟩
 have hkeep:∀ m,KeepB w.heap w'.heap β β m:=fun m o ho=>⟨ho,fun b hob=>by subst hob;exact hshape b (h.block_lt ho)⟩
 refine { size:=h.size,defers:=h.defers,kept:=?_,slots:=fun k=>?_,objs:=fun m ob' hm=>?_,gone:=fun m hm=>?_,own:=fun b hb=>?_,ios:=fun m b hm hs=>?_,fresh:=h.fresh }
 · refine⟨hw.os.trans h.kept.os,hw.output.trans h.kept.output,hw.tape.trans h.kept.tape,aTY h.kept.size hw.size,fun b h1 h2 hmi=>?_,fun b h1 hmi c t' h2=>?_⟩
   · have hne:b≠b0:=by
      rintro rfl
      cases hi:Γ.io l with
      | none =>
       rcases h.fresh l b hβ0 hi with g | g
       · omega
       · exact hmi g
      | some b' =>
       have hsome:(lo F.o l).isSome=true:=by
        cases hoo:lo F.o l with
        | none=>rw[h.gone l hoo]at hβ0;cases hβ0
        | some _=>rfl
       have:=h.ios l b' hi hsome
       rw[hβ0]at this;cases this
       exact h2 l hi
     exact(hother b (aTX h1 h.kept.size) hne).trans (h.kept.old b h1 h2 hmi)
   · obtain⟨c',h3,h4⟩:=h.kept.ios b h1 hmi c t' h2
     obtain⟨c'',h5,h6⟩:=hshape b (aTX h1 h.kept.size) c' t' h3
     exact⟨c'',h5,h6.trans h4⟩
 · obtain⟨O',g1,g2,g3⟩:=h.slots k
   exact⟨O',aW0 _ _ _ (fun m _=>hkeep m) (fun b hb=>hheap b (g2 b hb)) g1,fun b hb=>hIm b (g2 b hb),fun hd=>⟨(g3 hd).1,fun b hb=>⟨((g3 hd).2 b hb).1,hFree b (g2 b hb) ((g3 hd).2 b hb).2⟩⟩⟩
 · simp only[Env.app,aTT,aTO,aI]at hm
   by_cases hml:l=m
   · subst hml
     rw[aTK rfl]at hm;cases hm
     refine⟨B,fun b hb=>?_,fun hd=>(by cases hd),.inr ⟨b0,cs',t,hβ0,hlab0,hrow,hrel⟩⟩
     obtain⟨g1,g2⟩:=hB b hb
     rcases g2 with g2 | g2
     · exact hIm b g2
     · exact⟨g1,.inr (.inl (.inl (aTY h.kept.size g2))),fun m e=>by have:=(h.own b (by rw[e];simp)).1;omega⟩
   · rw[aTJ hml]at hm
     obtain⟨O',g1,g2,g3⟩:=h.objs m ob' hm
     refine⟨O',fun b hb=>hIm b (g1 b hb),fun hd=>⟨(g2 hd).1,fun b hb=>⟨((g2 hd).2 b hb).1,hFree b (g1 b hb) ((g2 hd).2 b hb).2⟩⟩,?_⟩
     rcases g3 with g3 | ⟨b,c,t',e1,e2,e3,e4⟩
     · exact .inl g3
     · have hbne:b≠b0:=by rintro rfl;rw[hlab0]at e2;simp at e2;exact hml e2
       refine .inr ⟨b,c,t',e1,e2,by rw[hother b (h.block_lt e1) hbne];exact e3,?_⟩
       cases hbx:ob'.box with
       | false=>rw[hbx]at e4;exact aWZ _ _ _ _ (fun _ _ l _=>aXg _ _ l) (fun b hb=>hheap b (g1 b hb)) e4
       | true=>rw[hbx]at e4;exact aWZ _ _ _ _ (fun _ _ m' _=>hkeep m') (fun b hb=>hheap b (g1 b hb)) e4
 · simp only[Env.app,aTT,aTO,aI]at hm
   by_cases hml:l=m
   · rw[aTK hml]at hm;cases hm
   · rw[aTJ hml]at hm;exact h.gone m hm
 · exact⟨aTX (h.own b hb).1 hw.size,(h.own b hb).2⟩
 · simp only[Env.app,aTT,aTO,aI]at hs
   by_cases hml:l=m
   · subst hml
     refine h.ios l b hm ?_
     cases ho:lo F.o l with
     | none=>rw[h.gone l ho]at hβ0;cases hβ0
     | some _=>rfl
   · rw[aTJ hml]at hs;exact h.ios m b hm hs
variable {d:Nat}{ty:TypeId}{pos:String}{af:Array Edge}{g:Option (Nat×Bool)}
theorem aRh {f:FuncId}[hfc:FnC P f]{xs:List Operand}{tus:Array TypeId}{ps:List PV}{l0 l:Nat}{old:List PV}{r:PV}{dp:Bool}(ha:ArgsX S O [(l0,l)] xs ps [])(hm:MeetsR P f ps l0 old r)(ho:loq O l=some ⟨old,dp,false⟩)(hr:r.labs=[])(hd:Nat.blt d N=true) :
 Local Γ ⟨some d,.call ⟨.value (.func f),xs.toArray,tus⟩,ty,pos,af,g⟩ ⟨S,O⟩ ⟨[(d,⟨r,false⟩)],[(l,some ⟨old,false,false⟩)]⟩ (qA xs) [l] []:=by
 intro F hs hl _ a w ⟨ow,β,hsim⟩ Q
 have hdN:=(aW _ _).1 hd
 have hlo:lo F.o l=some ⟨old,dp,false⟩:=by rw[hl l (by simp),<- bV];exact ho
 have hren:rn [(l0,l)] l0=l:=by simp[rn]
 unfold Oper.wp
 have hrun:(execOp a.eval ⟨some d,.call ⟨.value (.func f),xs.toArray,tus⟩,ty,pos,af,g⟩).run P w=.ok (.enter f (xs.map a.eval).toArray) w:=by
  simp[execOp,resolve,Act.eval,Deferred.ofValue,invoke,hfc.run]
 rw[hrun]
 show Calls _ _ _ _ _
 obtain⟨o,hβ⟩:∃ o,β l=some o:=by
  obtain⟨B,_,_,g⟩:=hsim.objs l _ hlo
  rcases g with⟨e,_⟩ | ⟨b,_,_,e,_⟩
  · exact⟨_,e⟩
  · exact⟨_,e⟩
 have hκ:∀ l' o',aD3 l0 o l'=some o'->β (rn [(l0,l)] l')=some o':=by
  intro l' o' e
  by_cases e2:l'=l0
  · subst e2
    have e:(if l'=l' then some o else none)=some o':=e
    rw[aTK rfl]at e;cases e;rw[hren];exact hβ
  · have e:(if l'=l0 then some o else none)=some o':=e
    rw[aTJ e2]at e;cases e
 have hargs:XArgs w.heap (fun b=>Im Γ ow w b) (aD3 l0 o) ps (xs.map a.eval):=by
  have key:∀ {xs:List Operand} {ps:List PV} {ls':List Nat},ArgsX S O [(l0,l)] xs ps ls'->ls'=[]->(∀ k∈qA xs,lk F.s k=lk S k)->XArgs w.heap (fun b=>Im Γ ow w b) (aD3 l0 o) ps (xs.map a.eval):=by
   intro xs ps ls' hx
   induction hx with
   | nil=>intro _ _;trivial
   | @cons x p l1 m xs ps h1 h2 ih =>
    intro hls hk
    obtain⟨rfl,rfl⟩:=List.append_eq_nil_iff.1 hls
    have hk1:∀ k∈ors x,lk F.s k=lk S k:=fun k hk'=>hk k (by cases x <;> simp[ors,qA]at hk' ⊢;exact .inl hk')
    have hk2:∀ k∈qA xs,lk F.s k=lk S k:=fun k hk'=>hk k (by cases x <;> simp[qA,hk'])
    refine⟨?_,ih rfl hk2⟩
    cases h1 with
    | val hv hlb =>
     obtain⟨B,g1,g2⟩:=ArgV.rel hsim hv hk1 (fun m hm'=>by cases hm')
     exact⟨B,g1.nolab hlb,fun b hb=>(g2 b hb).elim id fun⟨m,hm',_⟩=>by cases hm'⟩
    | io hv =>
     obtain⟨B,g1,g2⟩:=dU hsim hv hk1
     exact⟨B,vU hκ _ g1,fun b hb=>g2 b hb⟩
  exact key ha rfl hs
 obtain⟨Bo,k1,_,k3⟩:=hsim.objs l _ hlo
 refine(hm w (xs.map a.eval).toArray (fun b=>Im Γ ow w b) o (by simpa using hargs) ?_).mono fun e w' ⟨c,B,he,hsame,hoth,hpost,h1,h2⟩=>?_
 · rcases k3 with⟨e1,e2,_⟩ | ⟨b,cs,t,e1,e2,e3,e4⟩
   · rw[hβ]at e1;cases e1;exact .inl ⟨rfl,e2⟩
   · rw[hβ]at e1;cases e1
     exact .inr ⟨b,cs,t,Bo,rfl,fun h=>h.2.2 _ e2,e3,by simpa using e4,k1⟩
 · subst he
   show Sim Γ _ _ _
   have hB:∀ b∈B,b<w'.heap.size:=aW8 _ _ _ h1
   have hImB:∀ b∈B,Im Γ ow w' b:=by
    intro b hb
    rcases h2 b hb with g | g
    · exact⟨aTX g.1 hsame.size,g.2⟩
    · exact⟨hB b hb,.inr (.inl (.inl (aTY hsim.kept.size g))),fun l e=>by have:=(hsim.own b (by rw[e];simp)).1;omega⟩
   have fin:SimG Γ ow β (F.app ⟨[],[(l,some ⟨old,false,false⟩)]⟩) a w'->Sim Γ (F.app ⟨[(d,⟨r,false⟩)],[(l,some ⟨old,false,false⟩)]⟩) (a.put (some d) c) w':=by
    intro h
    have h3:=h.put hdN (aXq hr h1) hImB
    exact⟨ow,β,h3.congr (fun k=>rfl) (fun l=>rfl)⟩
   rcases k3 with⟨e1,e2,_⟩ | ⟨b,cs,t,e1,e2,e3,e4⟩
   · rw[hβ]at e1;cases e1
     refine fin ?_
     have hg:=hsim.grow (w':=w') ⟨hsame.os,hsame.tape,hsame.output,hsame.size,fun b hb=>hoth b hb (by simp)⟩
     refine { hg with objs:=fun m ob hm=>?_,gone:=fun m hm=>?_,ios:=fun m b hm hs=>?_ }
     · simp only[Env.app,aTT,aTO,aI]at hm
       by_cases hml:l=m
       · subst hml
         rw[aTK rfl]at hm;cases hm
         exact⟨[],by simp,by simp,.inl ⟨hβ,e2,rfl⟩⟩
       · rw[aTJ hml]at hm;exact hg.objs m ob hm
     · simp only[Env.app,aTT,aTO,aI]at hm
       by_cases hml:l=m
       · rw[aTK hml]at hm;cases hm
       · rw[aTJ hml]at hm;exact hg.gone m hm
     · simp only[Env.app,aTT,aTO,aI]at hs
       by_cases hml:l=m
       · subst hml;exact hg.ios l b hm (by rw[hlo];rfl)
       · rw[aTJ hml]at hs;exact hg.ios m b hm hs
   · rw[hβ]at e1;cases e1
     obtain⟨cs',B',q1,q2,q3,q4⟩:=hpost b rfl cs t e3
     exact fin (hsim.rewriteS hsame hβ (fun b' hb' hne=>hoth b' hb' (fun e=>hne (Option.some.inj e).symm)) e3 q1 q2 q3 (fun x hx=>⟨(q4 x hx).1,(q4 x hx).2⟩))
end
/- The engine, part TT: short forms of tests, loops, calls and ends. -/
section
variable {P:Program}{N:Nat}{Γ:Ctx P N}{E:Env}{Q Q' Q9:Exit->Env->Prop}{S:List (Nat×Slot)}{O:List (Nat×Option Ob)}
variable {α β σ ρ ε:Type}{x y:Code}{t:Nat}{dp deep:Bool}
theorem cT {c:Prop}{_hc:Decidable c}{a b:Option β}{r:β}(H:(if c then a else b)=some r)(h1:c->a=some r->CodeT Γ x E Q)(h2:¬c->b=some r->CodeT Γ y E Q)(hk:lk E.s t=⟨.sc (.bool (decide c)),dp⟩:=by rfl):CodeT Γ (.cond (.tmp t) x y) E Q :=
 .cond hk (fun h=>h1 (aUi h) (ifT (aUi h) H)) (fun h=>h2 (aVR h) (ifF (aVR h) H))
theorem cB {c:Bool}{a b:Option β}{r:β}(H:(if c=true then a else b)=some r)(h1:c=true->a=some r->CodeT Γ x E Q)(h2:c=false->b=some r->CodeT Γ y E Q)(hk:lk E.s t=⟨.sc (.bool c),dp⟩:=by rfl):CodeT Γ (.cond (.tmp t) x y) E Q :=
 .cond hk (fun h=>h1 h (aPe h H)) (fun h=>h2 h (aPf h H))
theorem cN {c:Bool}{a b:Option β}{r:β}(H:(if c=true then a else b)=some r)(h1:(!c)=true->b=some r->CodeT Γ x E Q)(h2:(!c)=false->a=some r->CodeT Γ y E Q)(hk:lk E.s t=⟨.sc (.bool (!c)),dp⟩:=by rfl):CodeT Γ (.cond (.tmp t) x y) E Q :=
 .cond hk (fun h=>h1 h (aPf (aTy h) H)) (fun h=>h2 h (aPe (aTz h) H))
section
variable {ops rest:List Oper}{K:List Item->Env->Prop}{acc:List Item}{o:Oper}{rs ro gs:List Nat}{d:Nat}
theorem dT {c:Prop}{_hc:Decidable c}{a b:Option β}{r:β}(H:(if c then a else b)=some r)
 (ht:c->a=some r->Run Γ ops K rest (⟨⟨[(d,⟨.sc (.bool true),false⟩)],[]⟩,gs++rs,ro,[]⟩::acc) ⟨(d,⟨.sc (.bool true),false⟩)::S,O⟩)
 (hf:¬c->b=some r->Run Γ ops K rest (⟨⟨[(d,⟨.sc (.bool false),false⟩)],[]⟩,gs++rs,ro,[]⟩::acc) ⟨(d,⟨.sc (.bool false),false⟩)::S,O⟩)
 (hl:Local Γ o ⟨S,O⟩ ⟨[(d,⟨.sc (.bool (decide c)),false⟩)],[]⟩ rs ro []:=by first | exact aP5 rfl rfl rfl | exact aRQ rfl rfl rfl | exact aMW rfl rfl rfl | exact aRN rfl rfl rfl | exact aRR rfl rfl rfl | exact aP3 rfl rfl rfl) (hg:gd N ops S true o.guard=some gs:=by rfl):Run Γ ops K (o::rest) acc ⟨S,O⟩ :=
 aKL hl hg (fun h=>ht h (ifT h H)) (fun h=>hf h (ifF h H))
theorem dB {c:Bool}{a b:Option β}{r:β}(H:(if c=true then a else b)=some r)
 (ht:c=true->a=some r->Run Γ ops K rest (⟨⟨[(d,⟨.sc (.bool true),dp⟩)],[]⟩,gs++rs,ro,[]⟩::acc) ⟨(d,⟨.sc (.bool true),dp⟩)::S,O⟩)
 (hf:c=false->b=some r->Run Γ ops K rest (⟨⟨[(d,⟨.sc (.bool false),dp⟩)],[]⟩,gs++rs,ro,[]⟩::acc) ⟨(d,⟨.sc (.bool false),dp⟩)::S,O⟩)
 (hl:Local Γ o ⟨S,O⟩ ⟨[(d,⟨.sc (.bool c),dp⟩)],[]⟩ rs ro []:=by first | exact aAN rfl rfl | exact aRS rfl rfl | exact aHs rfl rfl rfl (.inl rfl) rfl | exact aHs rfl rfl rfl (.inr rfl) rfl | exact aLX rfl rfl rfl | exact aRO rfl rfl rfl rfl) (hg:gd N ops S true o.guard=some gs:=by rfl):Run Γ ops K (o::rest) acc ⟨S,O⟩ :=
 aJs hl hg (fun h=>ht h (aPe h H)) (fun h=>hf h (aPf h H))
theorem dC {x:Option Bool}{a b:Bool->Option β}{r:β}{f:FuncId}[hfc:FnC P f]{xs:List Operand}{us:Array TypeId}{ps:List PV}{ls:List Nat}{ty:TypeId}{pos:String}{af:Array Edge}{g:Option (Nat×Bool)}(H:x.bind (fun v=>if v=true then a v else b v)=some r)(hm:∀ v,x=some v->Meets P f ps (.sc (.bool v)) deep)
 (ht:a true=some r->Run Γ ops K rest (⟨⟨[(d,⟨.sc (.bool true),deep⟩)],[]⟩,gs++qA xs,ls,[]⟩::acc) ⟨(d,⟨.sc (.bool true),deep⟩)::S,O⟩)
 (hf:b false=some r->Run Γ ops K rest (⟨⟨[(d,⟨.sc (.bool false),deep⟩)],[]⟩,gs++qA xs,ls,[]⟩::acc) ⟨(d,⟨.sc (.bool false),deep⟩)::S,O⟩)
 (ha:ArgsV S O xs ps ls:=by first | exact av (av .nil) | exact av (ar .nil) | exact ar (av .nil) | exact ar (ar .nil) | exact av .nil | exact ar .nil | exact av (av (av .nil)) | exact av (av (ar .nil)) | exact av (ar (av .nil)) | exact av (ar (ar .nil)) | exact ar (av (av .nil)) | exact ar (av (ar .nil)) | exact ar (ar (av .nil)) | exact ar (ar (ar .nil)) | exact av (av (av (av .nil))) | exact av (av (av (ar .nil))) | exact av (av (ar (av .nil))) | exact av (ar (av (av .nil))) | exact ar (av (av (av .nil)))) (hd:Nat.blt d N=true:=by rfl) (hg:gd N ops S true g=some gs:=by rfl):Run Γ ops K (⟨some d,.call ⟨.value (.func f),xs.toArray,us⟩,ty,pos,af,g⟩::rest) acc ⟨S,O⟩:=by
 obtain⟨v,hv,H⟩:=aB H
 refine aJs (aCl ha (hm v hv) (by simp[flat]) rfl hd) hg (fun h=>?_) (fun h=>?_) <;> subst h
 · exact ht H
 · exact hf H
theorem cl {x:Option α}{cont:α->Option β}{r:β}{V:α->PV}{f:FuncId}[hfc:FnC P f]{xs:List Operand}{us:Array TypeId}{ps:List PV}{ls:List Nat}{ty:TypeId}{pos:String}{af:Array Edge}{g:Option (Nat×Bool)}(H:x.bind cont=some r)(hm:∀ v,x=some v->Meets P f ps (V v) deep)
 (hk:∀ v,cont v=some r->Run Γ ops K rest (⟨⟨[(d,⟨V v,deep⟩)],[]⟩,gs++qA xs,ls,[]⟩::acc) ⟨[(d,⟨V v,deep⟩)]++S,[]++O⟩)
 (ha:ArgsV S O xs ps ls:=by first | exact av (av .nil) | exact av (ar .nil) | exact ar (av .nil) | exact ar (ar .nil) | exact av .nil | exact ar .nil | exact av (av (av .nil)) | exact av (av (ar .nil)) | exact av (ar (av .nil)) | exact av (ar (ar .nil)) | exact ar (av (av .nil)) | exact ar (av (ar .nil)) | exact ar (ar (av .nil)) | exact ar (ar (ar .nil)) | exact av (av (av (av .nil))) | exact av (av (av (ar .nil))) | exact av (av (ar (av .nil))) | exact av (ar (av (av .nil))) | exact ar (av (av (av .nil)))) (hc:∀ v,(aNi ls||deep||flat (V v))=true:=by intro _;rfl) (hr:∀ v,(V v).labs=[]:=by intro _;rfl) (hd:Nat.blt d N=true:=by rfl) (hg:gd N ops S true g=some gs:=by rfl):Run Γ ops K (⟨some d,.call ⟨.value (.func f),xs.toArray,us⟩,ty,pos,af,g⟩::rest) acc ⟨S,O⟩:=by
 obtain⟨v,hv,H⟩:=aB H
 exact .op (aCl ha (hm v hv) (hc v) (hr v) hd) hg rfl (hk v H)
theorem ix {l:List α}{cont:α->Option β}{r:β}{j:Int}{x i:Operand}{t e n by_:Nat}{agg:Bool}{enc:α->List PV}{k:IntKind}{len:Nat}{ty:TypeId}{pos:String}{af:Array Edge}{g:Option (Nat×Bool)}[ht:SlT P t e][hi:TI P e n agg by_](H:(idx l j).bind cont=some r)
 (hk:∀ y,idx l j=some y->cont y=some r->Run Γ ops K rest (⟨⟨[(d,⟨.iptr (enc y),false⟩)],[]⟩,gs++(ors x++ors i),[],[]⟩::acc) ⟨[(d,⟨.iptr (enc y),false⟩)]++S,[]++O⟩)
 (hx:evq S x=some (.sl len (l.flatMap enc)):=by rfl) (hix:evq S i=some (.sc (.int k j)):=by rfl) (hlen:len=l.length:=by rfl) (hsz:∀ y,(enc y).length=n:=by intro _;rfl) (hd:Nat.blt d N=true:=by rfl) (hg:gd N ops S true g=some gs:=by rfl):Run Γ ops K (⟨some d,.indexAddr t x i,ty,pos,af,g⟩::rest) acc ⟨S,O⟩:=by
 obtain⟨v,hv,H⟩:=aB H
 exact aPV (hk v hv H) hv hx hix hlen hsz hd hg
end
theorem ll {step:σ->Option (σ ⊕ ρ)}{s0:σ}{K:ρ->Option β}{r:β}{c:Code}(H:(lp step s0).bind K=some r)(Es:σ->Env)(Xe:ρ->Exit->Env->Prop)(he:Ent Γ E (Es s0))
 (hr:∀ s o,step s=some o->CodeT Γ c (Es s) (vA Γ Es Xe o)) (hq:∀ d,K d=some r->∀ e E',Xe d e E'->Q e E'):CodeT Γ (.loop c) E Q:=by
 obtain⟨d,hd,H⟩:=aB H
 exact .lloop Es Xe hd he hr (fun e E' h=>hq d H e E' h)
theorem l1 {step:σ->Option (σ ⊕ ρ)}{s0:σ}{K:ρ->Option β}{r:β}{c y:Code}{i:Nat}(H:(lp step s0).bind K=some r)(Es:σ->Env)(E2:ρ->Env)(he:Ent Γ E (Es s0))
 (hr:∀ s o,step s=some o->CodeT Γ c (Es s) (vA Γ Es (fun d e E=>XEnv Γ (.exit i) (E2 d) e E) o)) (hq:∀ d,K d=some r->CodeT Γ y (E2 d) Q'):CodeT Γ (.loop c) E (mC i (wJ (fun E'=>CodeT Γ y E' Q') Q9)) :=
 ll H Es _ he hr (fun d H e E' h=>by obtain⟨rfl,g⟩:=aXl h;exact x6 (Nat.beq_refl i) (x3 (.weak g (hq d H))))
theorem l2 {step:σ->Option (σ ⊕ (ρ ⊕ ε))}{s0:σ}{K:ρ ⊕ ε->Option β}{r:β}{c y:Code}{i:Nat}(rs:Array ResultVar)(dp:Bool)(H:(lp step s0).bind K=some r)(Es:σ->Env)(E2:ρ->Env)(R2:ε->PV)(he:Ent Γ E (Es s0))
 (hr:∀ s o,step s=some o->CodeT Γ c (Es s) (vA Γ Es (fun x e E=>match x with | .inl d=>XEnv Γ (.exit i) (E2 d) e E | .inr d=>XRet Γ rs (R2 d) dp e E) o)) (hq:∀ d,K (.inl d)=some r->CodeT Γ y (E2 d) Q') (hq2:∀ d,K (.inr d)=some r->∀ E',RetIs Γ rs E' (R2 d) dp->Q9 .ret E'):CodeT Γ (.loop c) E (mC i (wJ (fun E'=>CodeT Γ y E' Q') Q9)) :=
 ll H Es _ he hr (fun d H e E' h=>by
  cases d with
  | inl d=>obtain⟨rfl,g⟩:=aXl h;exact x6 (Nat.beq_refl i) (x3 (.weak g (hq d H)))
  | inr d=>obtain⟨rfl,g⟩:=XRet.out h;exact x4 (x1 (hq2 d H E' g)))
theorem lc {x:Option ρ}{K:ρ->Option β}{r:β}{c y:Code}(H:x.bind K=some r)(E2:ρ->Env)(hc:∀ d,x=some d->CodeT Γ c E (aHL (fun d e E=>XEnv Γ .normal (E2 d) e E) d))(hq:∀ d,K d=some r->CodeT Γ y (E2 d) Q'):CodeT Γ c E (wJ (fun E'=>CodeT Γ y E' Q') Q9):=by
 obtain⟨d,hd,H⟩:=aB H
 exact .lcut _ (hc d hd) (fun e E' h=>by obtain⟨rfl,g⟩:=aXl h;exact x3 (.weak g (hq d H)))
theorem rl (k n':Nat){c:Code}{l s off n:Nat}{dp:Bool}(h:CodeT Γ c ⟨(k,⟨.ref l s off n',dp⟩)::S,O⟩ Q)(hk:lkq S k=some ⟨.ref l s off n,dp⟩:=by rfl)(hn:n=n':=by first | (simp only[aAw];done) | (simp only[aAw];omega) | omega):CodeT Γ c ⟨S,O⟩ Q:=.weak (Ent.relen hk hn) h
theorem mi (N:Nat)(rs:Array ResultVar){fn:Func}{f:FuncId}{c:Code}{args:List PV}{r:PV}(hf:P.funcs[f]?=some fn)
 (h:∀ Γ:Ctx P N,(∀ l,Nat.blt l 100000=true->Γ.io l=none)->CodeT Γ c ⟨iJ args 0,[]⟩ (aBh Γ rs r deep)) (hb:fn.body=some c:=by rfl) (hN:fn.ntmps=N:=by rfl) (hrs:fn.results=rs:=by rfl) (hn:Nat.ble args.length N=true:=by rfl):Meets P f args r deep :=
 .intro2 hf hb hN hrs hn h
theorem rB (sz n:Nat){l:List α}{enc:α->List PV}{j:Int}{y:α}(hl:idx l j=some y)(h:∀ y,(enc y).length=sz:=by intro _;rfl)(ho:n<=sz:=by decide):Nat.ble (j.toNat*sz+n) (l.flatMap enc).length=true:=aOk hl h ho
theorem rC (sz o n:Nat){l:List α}{enc:α->List PV}{j:Int}{y:α}(hl:idx l j=some y)(h:∀ y,(enc y).length=sz:=by intro _;rfl)(ho:o+n<=sz:=by decide):Nat.ble (j.toNat*sz+o+n) (l.flatMap enc).length=true:=aMc hl h ho
theorem rD (sz:Nat){l x:List α}{enc:α->List PV}{j:Int}{y y':α}{vs:List PV}(hx:aX (nS l j y')=some x)(hl:idx l j=some y)(h:∀ y,(enc y).length=sz:=by intro _;rfl)(he:vs=enc y':=by rfl):(l.flatMap enc).take (j.toNat*sz)++vs++(l.flatMap enc).drop (j.toNat*sz+sz)=x.flatMap enc:=aMb hx hl h he
theorem rP (sz:Nat){l:List α}{enc:α->List PV}{j:Int}{y:α}{dp bx:Bool}(hl:idx l j=some y)(h:∀ y,(enc y).length=sz:=by intro _;rfl)(h0:0<sz:=by decide):Nat.blt 0 (Ob.mk (l.flatMap enc) dp bx).cells.length=true:=aQv hl h h0
theorem rF (sz o n:Nat){l x:List α}{enc:α->List PV}{j:Int}{y y':α}{vs:List PV}(hx:aX (nS l j y')=some x)(hl:idx l j=some y)(h:∀ y,(enc y).length=sz:=by intro _;rfl)(ho:o+n<=sz:=by decide)(he:(enc y).take o++vs++(enc y).drop (o+n)=enc y':=by rfl):(l.flatMap enc).take (j.toNat*sz+o)++vs++(l.flatMap enc).drop (j.toNat*sz+o+n)=x.flatMap enc:=aOj hx hl h ho he
end
section
variable {P:Program}{N:Nat}{Γ:Ctx P N}{E:Env}{S S':List (Nat×Slot)}{O O':List (Nat×Option Ob)}{rs:Array ResultVar}{r:PV}{deep:Bool}
theorem le (ρ:List (Nat×Nat))(hio:∀ l,Nat.blt l 100000=true->Γ.io l=none:=by assumption)(hρ:aNJ ρ=true:=by rfl)(hi:aB5 ρ (zZ O')=true:=by rfl)(h1:aHQ S S'=aHP ρ S':=by rfl)(h2:aIn S S'=true:=by rfl)(h3:aEV ρ O O'=aEU ρ O':=by rfl)(h4:aFb ρ O O'=true:=by rfl):Ent Γ ⟨S,O⟩ ⟨S',O'⟩ :=
 el ρ (io0 hio ρ hρ) hi h1 h2 h3 h4
theorem leq {ρ:List (Nat×Nat)}(_hq:ρ=ρ)(hio:∀ l,Nat.blt l 100000=true->Γ.io l=none:=by assumption)(hρ:aNJ ρ=true:=by rfl)(hi:aB5 ρ (zZ O')=true:=by rfl)(h1:aHQ S S'=aHP ρ S':=by rfl)(h2:aIn S S'=true:=by rfl)(h3:aEV ρ O O'=aEU ρ O':=by rfl)(h4:aFb ρ O O'=true:=by rfl):Ent Γ ⟨S,O⟩ ⟨S',O'⟩:=el ρ (io0 hio ρ hρ) hi h1 h2 h3 h4
theorem rr1 {rv:ResultVar}{p:PV}{o:ResO}(h:Res1 Γ ⟨S,O⟩ rv p o:=by first | exact aW7 rfl | exact aWX rfl rfl rfl (by intro h;cases h) | exact Res1.refW rfl rfl (io1 (by assumption) _) | exact Res1.ref rfl rfl (io1 (by assumption) _) | exact Res1.nilW rfl | exact aXm rfl | exact Res1.deep rfl rfl | exact Res1.val rfl rfl):Res1 Γ ⟨S,O⟩ rv p o:=h
theorem rt (h:RetIs Γ rs E r deep:=by first | exact aXA rfl | exact aXh rfl rfl rfl rfl (by intro h;cases h) | exact RetIs.rW rfl rfl rfl (io1 (by assumption) _) | exact aXs (Res1.deep rfl rfl) (fun _ h=>by cases h) | exact aXs (Res1.val rfl rfl) (fun h=>by cases h) | exact aXs (Res1.nilW rfl) (fun _ h=>by cases h) | exact aXs (aXm rfl) (fun _ h=>by cases h) | exact RetIs.r1 rfl rfl rfl (io1 (by assumption) _) | assumption | exact aWW (.inl rfl) (.cons rr1 (.cons rr1 .nil)) (fun h=>by first | rfl | cases h) | exact aWW (.inr (.inl rfl)) (.cons rr1 (.cons rr1 (.cons rr1 .nil))) (fun h=>by first | rfl | cases h) | exact aWW (.inr (.inr rfl)) (.cons rr1 (.cons rr1 (.cons rr1 (.cons rr1 .nil)))) (fun h=>by first | rfl | cases h)):RetIs Γ rs E r deep:=h
end
abbrev vI (n:Int):Slot:=⟨.sc (.int .i64 n),false⟩
abbrev vB (b:Bool):Slot:=⟨.sc (.bool b),false⟩
abbrev vS {α:Type} (e:α->List PV) (l:List α):Slot:=⟨.sl l.length (l.flatMap e),false⟩
abbrev vR (k s n:Nat):Slot:=⟨.ref k s 0 n,false⟩
abbrev vP (k n:Nat):Slot:=⟨.ptr k n,false⟩
abbrev vW {α:Type} (s:Nat) (e:α->List PV) (l:List α) (dp:Bool):Slot:=⟨.rw s l.length (l.flatMap e),dp⟩
abbrev vO (c:List PV) (a b:Bool):Option Ob:=some ⟨c,a,b⟩
/- The engine, part UU: a call whose results are rows beside own values. -/
open Go.RowKit (Below)
section
variable {P:Program}{N:Nat}{Γ:Ctx P N}{S:List (Nat×Slot)}{O:List (Nat×Option Ob)}{ow:Nat->Own}{β:Nat->Option (Option Nat)}{F:Env}{a:Act}{w:World}
variable {d:Nat}{ty:TypeId}{pos:String}{af:Array Edge}{g:Option (Nat×Bool)}
end
/- The engine, part VV: a store that fills a whole object makes it one's own. -/
open Go.RowKit (Below)
theorem aGi {h:Array Obj}{q:Bool}{β β':Nat->Option (Option Nat)}:∀ {ps:List PV} {cs:Array Value} {i:Nat} {O:List Nat},RelL h q β ps cs i O->RelL h q β' (ps.map fun _=>.any) cs i []
 | [],_,_,_,_=>by simp[RelL]
 | p::ps,cs,i,O,H=>by
  simp only[aTV,RelL,RelV]at H ⊢
  obtain⟨c,O1,O2,h1,_,h3,_⟩:=H
  exact⟨c,[],[],h1,rfl,aGi h3,rfl⟩
section
variable {P:Program}{N:Nat}{Γ:Ctx P N}{S:List (Nat×Slot)}{O:List (Nat×Option Ob)}{ow:Nat->Own}{β:Nat->Option (Option Nat)}{F:Env}{a:Act}{w:World}
variable {d:Nat}{ty:TypeId}{pos:String}{af:Array Edge}{g:Option (Nat×Bool)}
end
end Go.Ev
