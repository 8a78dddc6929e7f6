/- Parts EvXX, EvYY, EvZZ, EvAB, EvAC, EvAD, EvAE, EvAF, EvAG, EvAH. -/
import Derived.Test.YtmgbflccodamfaaGreatE5
import Derived.Test.YtmgbflccodamfaaGreatE4
set_option linter.all false
set_option maxHeartbeats 4000000
set_option maxRecDepth 20000
/- The engine, part XX: arrays of arrays as own rows; addresses known not to be nil. -/
namespace Go.Ev
open Go.RowKit (Below)
def aAe (k:IntKind)(m n:Int):Int:=k.wrap (BitVec.ofInt k.bits m &&& BitVec.ofInt k.bits n).toNat
def aLT (k:IntKind)(m n:Int):Int:=k.wrap (BitVec.ofInt k.bits m ^^^ BitVec.ofInt k.bits n).toNat
section
variable {P:Program}{N:Nat}{Γ:Ctx P N}{S:List (Nat×Slot)}{O:List (Nat×Option Ob)}
theorem aIM {t len e n by_:Nat}{agg:Bool}[ht:ArT P t len e][hi:TI P e n agg by_](w:World){b off i:Nat}{k:IntKind}(h:i<len) :
 (Instr.indexAt t (.pointer (some ⟨b,off,none⟩)) (.int k i)).run P w=.ok (.pointer (some ⟨b,off+i*n,none⟩)) w:=by
 obtain⟨⟨ii,h1,h2,_⟩,_⟩:=hi.ok
 simp[Instr.indexAt,asIntOf,Instr.sureAddr,run_underlying ht.ok,sizeOf,typeInfo,h1,h2,Addr.add_lit,h]
variable {d:Nat}{ty:TypeId}{pos:String}{af:Array Edge}{g:Option (Nat×Bool)}
theorem uN {x i:Operand}{t len e sz by_ r k0 q:Nat}{agg:Bool}{k:IntKind}{j:Int}{ob:Ob}[ht:ArT P t len e][hi:TI P e sz agg by_](hx:evq S x=some (.ptr r k0))(ho:loq O r=some ob)(hne:Nat.blt 0 ob.cells.length=true)(hix:evq S i=some (.sc (.int k j)))(hj:0<=j/\j<len)(hq:k0+j.toNat*sz=q)(hd:Nat.blt d N=true) :
 Local Γ ⟨some d,.indexAddr t x i,ty,pos,af,g⟩ ⟨S,O⟩ ⟨[(d,⟨.ptr r q,false⟩)],[]⟩ (ors x++ors i) [r] []:=by
 intro F hs hlo _
 refine bE fun a w hsim=>?_
 have hiv:=tB hsim hix (fun k hk=>hs k (by simp[hk]))
 obtain⟨ow,β,hsim⟩:=hsim
 obtain⟨m,rfl⟩:=aVL hj.1
 have hm:m<len:=by have:=hj.2;omega
 obtain⟨B,h1,h2⟩:=cK hsim hx (fun k hk=>hs k (by simp[hk]))
 simp only[RelV]at h1
 obtain⟨Bo,o1,o2,hob⟩:=hsim.objs r _ (by rw[hlo r (by simp),<- dA];exact ho)
 rcases hob with⟨e1,e2,_⟩ | ⟨b,cs,u,e1,e2,e3,e4⟩
 · rw[e2]at hne;cases hne
 · subst hq
   refine⟨.pointer (some ⟨b,k0+m*sz,none⟩),w,by simp[execOp,h1.2 b e1,hiv,aIM (t:=t) (e:=e) w hm],ow,β,?_⟩
   exact hsim.put ((aR _ _).1 hd) (O:=[]) (by simp only[RelV,aU1];exact⟨trivial,fun b' hb=>by rw[e1]at hb;cases hb;rfl⟩) (by simp)
theorem aQe {x y:Operand}{u u':TypeId}{k:IntKind}{m n r:Int}(hx:evq S x=some (.sc (.int k m)))(hy:evq S y=some (.sc (.int k n)))(hr:aAe k m n=r)(hd:Nat.blt d N=true) :
 Local Γ ⟨some d,.binOp .and u x y u',ty,pos,af,g⟩ ⟨S,O⟩ ⟨[(d,⟨.sc (.int k r),false⟩)],[]⟩ (ors x++ors y) [] [] :=
 uO hx hy hd fun w=>by subst hr;simp[eqGuard,binOp,Op.intBits,aAe]
theorem aTL {x y:Operand}{u u':TypeId}{k:IntKind}{m n r:Int}(hx:evq S x=some (.sc (.int k m)))(hy:evq S y=some (.sc (.int k n)))(hr:aLT k m n=r)(hd:Nat.blt d N=true) :
 Local Γ ⟨some d,.binOp .xor u x y u',ty,pos,af,g⟩ ⟨S,O⟩ ⟨[(d,⟨.sc (.int k r),false⟩)],[]⟩ (ors x++ors y) [] [] :=
 uO hx hy hd fun w=>by subst hr;simp[eqGuard,binOp,Op.intBits,aLT]
theorem aRO {x y:Operand}{u u':TypeId}{k k':IntKind}{m n r:Int}(hx:evq S x=some (.sc (.int k m)))(hy:evq S y=some (.sc (.int k' n)))(hn:¬n<0)(hr:m.fdiv (2 ^ min n.toNat k.bits)=r)(hd:Nat.blt d N=true) :
 Local Γ ⟨some d,.binOp .shr u x y u',ty,pos,af,g⟩ ⟨S,O⟩ ⟨[(d,⟨.sc (.int k r),false⟩)],[]⟩ (ors x++ors y) [] [] :=
 uO hx hy hd fun w=>by subst hr;simp[eqGuard,binOp,Op.shift,hn]
theorem aQb {t e sz by_:Nat}{agg:Bool}{ps:List PV}{x:Operand}{p:PV}{cs:List PV}[ht:SlT P t e][hi:TI P e sz agg by_][hz:ZT P e ps](hx:evq S x=some p)(hst:stB O false p=true)(hl:p.labs=[])(hlen:Nat.beq (bD p).length sz=true)(hcs:bD p=cs)(hsz:Nat.blt 0 sz=true)(hs2:Nat.ble sz 1000=true)(hio:Γ.io d=none)(hd:Nat.blt d N=true) :
 Local Γ ⟨some d,.buildSlice t 1 #[(0,x)],ty,pos,af,g⟩ ⟨S,O⟩ ⟨[(d,⟨.ref d sz 0 1,false⟩)],[(d,some ⟨cs,aDV p,false⟩)]⟩ (ors x) [] [d]:=by
 subst hcs
 intro F hs hlo hnl
 refine bE fun a w ⟨ow,β,hsim⟩=>?_
 obtain⟨B,h1,h2⟩:=cK hsim hx hs
 obtain⟨r1,r2,r3⟩:=tC (O:=O) hsim h1 hst (by simp[xE,hl])
 have hlen:=aU0 hlen
 refine⟨_,_,by simp only[execOp,List.map_toArray,aUH,aVy];rw[Sem.run_bind,aFs (sz:=sz) w _ (r2.trans hlen) (by have:=(aR _ _).1 hsz;omega) (aUZ hs2)];rfl,?_⟩
 refine hsim.layPut (uZ w _) (b0:=w.heap.size) (by simp) (fun b hb _=>jV w _ hb) (fZ w _) (hnl d (by simp)) hio [] [] (.inl (aUI _)) (.inl hsim.kept.size) ⟨bD p,aDV p,false⟩ (B:=B) ?_ ?_ h2 ?_ ((aR _ _).1 hd) (fun β' hβ=>?_)
 · exact aXr _ _ _ _ (fun q _ l _ o ho=>by cases ho) (fun b hb=>jV w _ (h2 b hb).1) r1
 · intro h;cases h
 · intro hsc
   have:=aDU hsc h1
   subst this;simp
 · simp only[RelV]
   refine⟨trivial,fun h=>by rw[hβ]at h;simp at h,fun b hb=>?_⟩
   rw[hβ]at hb;cases hb
   exact⟨1,(a.eval x).cells,e,by simp,fZ w _,by simp[r2,hlen],aUI _⟩
theorem aAf {x:Operand}{r k0:Nat}{ob:Ob}(hx:evq S x=some (.ptr r k0))(ho:loq O r=some ob)(hne:Nat.blt 0 ob.cells.length=true)(hd:Nat.blt d N=true) :
 Local Γ ⟨some d,.nilCheck x,ty,pos,af,g⟩ ⟨S,O⟩ ⟨[(d,⟨.ptr r k0,false⟩)],[]⟩ (ors x) [r] []:=by
 intro F hs hlo _
 refine bE fun a w ⟨ow,β,hsim⟩=>?_
 obtain⟨B,h1,h2⟩:=cK hsim hx hs
 simp only[RelV]at h1
 obtain⟨Bo,o1,o2,hob⟩:=hsim.objs r _ (by rw[hlo r (by simp),<- dA];exact ho)
 rcases hob with⟨e1,e2,_⟩ | ⟨b,cs,u,e1,e2,e3,e4⟩
 · rw[e2]at hne;cases hne
 · refine⟨.pointer (some ⟨b,k0,none⟩),w,by simp[execOp,h1.2 b e1],ow,β,?_⟩
   exact hsim.put ((aR _ _).1 hd) (O:=[]) (by simp only[RelV];exact⟨trivial,fun b' hb=>by rw[e1]at hb;cases hb;rfl⟩) (by simp)
end
/- The engine, part YY: calls that rest on what the world's tables hold. -/
open Go.RowKit (Below)
class WT (T:World->Prop):Prop where
 keep:∀ w w',T w->Below w.heap.size w w'->T w'
def MeetsT (P:Program)(T:World->Prop)(f:FuncId)(args:List PV)(r:PV)(deep:Bool):Prop :=
 ∀ (w:World) (cargs:Array Value) (ok:Nat->Prop),T w->RelArgs w.heap ok args cargs.toList->
  Calls P f cargs w fun e w'=>∃ c B,e=.returned c/\Below w.heap.size w w'/\RelV w'.heap dead r c B/\(∀ b∈B,ok b\/w.heap.size<=b)/\(deep=true->B.Nodup/\∀ b∈B,w.heap.size<=b/\gA w' b)
def TOk {P:Program}{N:Nat}(T:World->Prop)(Γ:Ctx P N):Prop:=∀ w,Kept Γ w->T w
section
variable {P:Program}{N:Nat}{T:World->Prop}
theorem MeetsT.intro [WT T]{f:FuncId}{fn:Func}{c:Code}{args:List PV}{r:PV}{deep:Bool}{rs:Array ResultVar}(hf:P.funcs[f]?=some fn)(hb:fn.body=some c)(hN:fn.ntmps=N)(hrs:fn.results=rs)(hn:Nat.ble args.length N=true)
 (h:∀ Γ:Ctx P N,(∀ l,Nat.blt l 100000=true->Γ.io l=none)->TOk T Γ->CodeT Γ c ⟨iY args 0,[]⟩ (ends Γ rs r deep)):MeetsT P T f args r deep:=by
 intro w cargs ok hTw ha
 obtain⟨h1,h2⟩:=ha.get
 have hn:=aUZ hn
 let Γ:Ctx P N:={ base:=w.heap.size,ok:=fun b=>ok b,io:=fun _=>none,w0:=w,mine:=fun _=>False,lent:=fun _=>False }
 have hΓ:TOk T Γ:=fun w' k=>WT.keep w w' hTw ⟨k.os,k.tape,k.output,k.size,fun b hb=>k.old b hb (fun l=>by simp[Γ]) (fun h=>h)⟩
 have hsz:(cargs++Array.replicate (fn.ntmps-cargs.size) undef).size=N:=by
  have:cargs.size=args.length:=by rw[h1];simp
  simp[this,hN];omega
 refine calls_of_wp hf hb ?_
 have hsim:Sim Γ ⟨iY args 0,[]⟩ { tmps:=cargs++Array.replicate (fn.ntmps-cargs.size) undef,defers:=[] } w:=by
  refine⟨fun _=>.none,fun _=>none,{ size:=hsz,defers:=rfl,kept:=⟨rfl,rfl,rfl,aUI _,fun _ _ _ _=>rfl,fun b _ _ cs t h=>⟨cs,h,rfl⟩⟩,slots:=fun k=>?_,objs:=fun l ob hl=>(by simp[lo]at hl),gone:=fun _ _=>rfl,own:=fun b hb=>absurd rfl hb,ios:=fun l b hl=>(by cases hl),fresh:=fun l b hl=>(by cases hl) }⟩
  rw[pB]
  by_cases hk:k<args.length
  · rw[aUs ⟨aVk _,by simpa using hk⟩]
    obtain⟨B,g1,g2⟩:=h2 k hk
    refine⟨B,?_,fun b hb=>⟨aXA _ _ _ g1 b hb,.inl (g2 b hb),fun l=>by simp⟩,by simp⟩
    have e:(cargs++Array.replicate (fn.ntmps-cargs.size) undef).getD k undef=cargs.toList.getD k undef:=by
     have hlt:k<cargs.size:=by rw[h1]at hk;simpa using hk
     simp[aUV,aVF,hlt,aUU]
    rw[e]
    simp only[aWt]
    exact aXt _ _ _ (fun l _=>by intro ob h;cases h) (fun _ _=>rfl) g1
  · rw[aUq (by simpa using hk)]
    exact⟨[],by simp[RelV],by simp,by simp⟩
 refine wp_mono (h Γ (fun _ _=>rfl) hΓ _ _ hsim) fun e a' w' ⟨E',hs',hq⟩=>?_
 have fin:RetIs Γ rs E' r deep->a'.defers=[]/\∃ v,(results fn a'.tmps).run P w'=.ok v w'/\∃ c B,Ending.returned v=.returned c/\Below w.heap.size w w'/\RelV w'.heap dead r c B/\(∀ b∈B,ok b\/w.heap.size<=b)/\(deep=true->B.Nodup/\∀ b∈B,w.heap.size<=b/\gA w' b):=by
  intro hr
  obtain⟨c,B,g1,g2,g3,g4⟩:=hr fn hrs a' w' hs'
  obtain⟨ow,β,hs'⟩:=hs'
  refine⟨hs'.defers,c,g1,c,B,rfl,⟨hs'.kept.os,hs'.kept.tape,hs'.kept.output,hs'.kept.size,fun k hk=>hs'.kept.old k hk (fun l=>by simp[Γ]) (fun h=>h)⟩,g2,fun b hb=>(g3 b hb).2.imp id (fun h=>(h.elim id False.elim:Γ.nww b).elim id False.elim),fun hd=>⟨(g4 hd).1,fun b hb=>⟨(((g4 hd).2 b hb).2.elim id False.elim:Γ.nww b).elim id False.elim,((g4 hd).2 b hb).1⟩⟩⟩
 cases e with
 | normal=>exact fin hq
 | ret=>exact fin hq
 | exit id=>exact hq.elim
 | goto l=>exact hq.elim
 | panic ch=>exact hq.elim
 | outgrown=>exact hq.elim
variable {Γ:Ctx P N}{S:List (Nat×Slot)}{O:List (Nat×Option Ob)}{d:Nat}{ty:TypeId}{pos:String}{af:Array Edge}{g:Option (Nat×Bool)}
end
/- The engine, part ZZ: a table of rows that share what they hold: while it is only read it stands apart (the blocks are no one's), and is read by its own values; while it grows it is an own row with rows within. -/
open Go.RowKit (Below)
def aMl (sz:Nat)(r:List (List Value)):PV:=.rw sz r.length (r.flatMap fun e=>e.map PV.sc)
def TabR (h:Array Obj)(sz:Nat)(vt:Value)(V:List (List (List Value)))(Bs:List Nat):Prop :=
 RelV h dead (.rw 1 V.length (V.map (aMl sz))) vt Bs/\Bs.Nodup/\(∀ b∈Bs,∃ cs t,h[b]?=some (.cells cs t (0,0)))/\∀ r∈V,∀ e∈r,e.length=sz
def aCZ:Value->Nat
 | .slice (some a) _ _=>a.block
 | _=>0
theorem aI3 (l:List Value)(ps:List PV)(h:vY ps=true):vY (l.map PV.sc++ps)=true:=by
 induction l with
 | nil=>exact h
 | cons v l ih=>simp[vY,pE,ih]
theorem aEW:∀ r:List (List Value),vY (r.flatMap fun e=>e.map PV.sc)=true
 | []=>rfl
 | e::r=>by rw[aVc];exact aI3 _ _ (aEW r)
section
variable {P:Program}{N:Nat}{Γ:Ctx P N}{S:List (Nat×Slot)}{O:List (Nat×Option Ob)}
structure Foreign (Γ:Ctx P N)(sz:Nat)(vt:Value)(V:List (List (List Value)))(Bs:List Nat):Prop where
 tab:TabR Γ.w0.heap sz vt V Bs
 off:∀ b∈Bs,b<Γ.base/\¬Γ.ok b/\¬Γ.nw b
def aBD (Γ:Ctx P N)(vt:Value)(k:Nat):Value:=match Γ.w0.heap[aCZ vt]? with
 | some (.cells cs _ _)=>cs.getD k undef
 | _=>undef
theorem Foreign.top {sz:Nat}{vt:Value}{V:List (List (List Value))}{Bs:List Nat}(hF:Foreign Γ sz vt V Bs)(hV:V≠[]) :
 ∃ cap cs t,vt=.slice (some ⟨aCZ vt,0,none⟩) V.length cap/\Γ.w0.heap[aCZ vt]?=some (.cells cs t (0,0))/\aCZ vt∈Bs/\
  ∀ (k:Nat) r,V[k]?=some r->cs[k]?=some (aBD Γ vt k)/\∃ B,RelV Γ.w0.heap dead (aMl sz r) (aBD Γ vt k) B/\∀ b∈B,b∈Bs:=by
 have h:=hF.tab.1
 simp only[RelV]at h
 rcases h with⟨h1,_⟩ | ⟨b,cap,cs,t,O',⟨rfl,_,_⟩,h2,h3,rfl⟩
 · exact absurd (aUD.1 h1) hV
 · refine⟨cap,cs,t,rfl,h2,by simp[aCZ],fun k r hk=>?_⟩
   obtain⟨c,O1,g1,_,g3,g4⟩:=RelL.get _ _ _ _ h3 k (aMl sz r) (by rw[List.getElem?_map,hk];rfl)
   rw[aUR]at g1
   have e:aBD Γ (.slice (some ⟨b,0,none⟩) V.length cap) k=c:=by
    unfold aBD aCZ
    simp only[h2]
    rw[aUV,g1];rfl
   rw[e]
   exact⟨g1,O1,g3,fun x hx=>by simp[g4 x hx]⟩
theorem Foreign.row {sz:Nat}{vt:Value}{V:List (List (List Value))}{Bs:List Nat}(hF:Foreign Γ sz vt V Bs){k:Nat}{r:List (List Value)}(hk:V[k]?=some r)(hr:r≠[]) :
 ∃ cap cs t,aBD Γ vt k=.slice (some ⟨aCZ (aBD Γ vt k),0,none⟩) r.length cap/\Γ.w0.heap[aCZ (aBD Γ vt k)]?=some (.cells cs t (0,0))/\aCZ (aBD Γ vt k)∈Bs/\
  RelL Γ.w0.heap true dead (r.flatMap fun e=>e.map PV.sc) cs 0 []:=by
 obtain⟨_,_,_,_,_,_,h⟩:=hF.top (by rintro rfl;simp at hk)
 obtain⟨_,B,h1,h2⟩:=h k r hk
 unfold aMl at h1
 simp only[RelV]at h1
 rcases h1 with⟨g1,_⟩ | ⟨b,cap,cs,t,O',⟨e,_,_⟩,g2,g3,rfl⟩
 · exact absurd (aUD.1 g1) hr
 · rw[e]
   have:O'=[]:=zM _ (aEW r) g3
   subst this
   exact⟨cap,cs,t,rfl,g2,by simp[aCZ]at h2 ⊢;exact h2,g3⟩
variable {d:Nat}{ty:TypeId}{pos:String}{af:Array Edge}{g:Option (Nat×Bool)}
end
/- The engine, part AB: a function's rest, begun anew: what there is by then is old; a table given up and taken over. -/
open Go.RowKit (Below)
section
variable {P:Program}{N:Nat}{Γ0 Γ:Ctx P N}{S:List (Nat×Slot)}{O:List (Nat×Option Ob)}{a:Act}{w:World}
structure Later (Γ0 Γ:Ctx P N):Prop where
 base:Γ0.base<=Γ.base
 good:∀ b,Γ.ok b\/Γ.nw b->Γ0.ok b\/Γ0.base<=b
 mine:∀ b,Γ.mine b->Γ0.base<=b
 kept:Kept Γ0 Γ.w0
 io0:∀ l,Γ.io l=none
 le0:∀ b,¬Γ.lent b
theorem Later.nww (h:Later Γ0 Γ){b:Nat}(hb:Γ.nww b):Γ0.base<=b:=by
 rcases hb with hb | hb
 · exact aUE h.base hb
 · exact h.mine b hb
theorem TabR.keep {h h':Array Obj}{sz:Nat}{vt:Value}{V:List (List (List Value))}{Bs:List Nat}(hT:TabR h sz vt V Bs)(he:∀ b∈Bs,h'[b]?=h[b]?):TabR h' sz vt V Bs :=
 ⟨aXt _ _ _ (fun l _=>by intro ob e;cases e) he hT.1,hT.2.1,fun b hb=>by rw[he b hb];exact hT.2.2.1 b hb,hT.2.2.2⟩
end
section
variable {P:Program}{N:Nat}{Γ:Ctx P N}{S:List (Nat×Slot)}{O:List (Nat×Option Ob)}{ow:Nat->Own}{β:Nat->Option (Option Nat)}{F:Env}{a:Act}{w:World}
variable {d:Nat}{ty:TypeId}{pos:String}{af:Array Edge}{g:Option (Nat×Bool)}
end
section
variable {P:Program}{N:Nat}{Γ0 Γ:Ctx P N}{S:List (Nat×Slot)}{O:List (Nat×Option Ob)}{a:Act}{w:World}
end
/- The engine: arrays of truth values, as functions of their cells. -/
def iX (n:Nat)(g:Nat->Bool):List PV:=(List.range n).map fun i=>.sc (.bool (g i))
def uV (g:Nat->Bool)(q:Nat)(v:Bool):Nat->Bool:=fun i=>if i=q then v else g i
theorem aAB {n:Nat}{g:Nat->Bool}:(iX n g).length=n:=by unfold iX;simp
theorem xU {n q:Nat}{g:Nat->Bool}(h:q<n):(iX n g)[q]?=some (.sc (.bool (g q))):=by
 unfold iX
 rw[List.getElem?_map,List.getElem?_range h];rfl
theorem aAC {n q:Nat}{g:Nat->Bool}(h:q<n):Nat.ble (q+1) (iX n g).length=true:=by
 rw[aAB];exact Nat.ble_eq_true_of_le h
theorem aCt {n q:Nat}{g:Nat->Bool}{v:Bool}(h:q<n):(iX n g).take q++bD (.sc (.bool v))++(iX n g).drop (q+1)=iX n (uV g q v):=by
 have e:bD (.sc (.bool v))=[.sc (.bool v)]:=rfl
 rw[e]
 apply List.ext_getElem?
 intro i
 by_cases c:i<n
 · rw[xU c]
   have tl:((iX n g).take q).length=q:=by rw[aVp,aAB];omega
   by_cases c1:i<q
   · rw[aUO,aVm (by omega),List.getElem?_take_of_lt c1,xU c]
     unfold uV;rw[aUq (by omega)]
   · by_cases c2:i=q
     · subst c2
       rw[aUO,aVl (by omega),tl,aW1]
       unfold uV;simp
     · rw[aVl (by simp[tl];omega)]
       rw[aUF,tl,aU5,aWd,show q+1+(i-(q+1))=i by omega,xU c]
       unfold uV;rw[aUq c2]
 · rw[aV8 (by simp[aAB];omega),aV8 (by rw[aAB];omega)]
theorem aPz {n k m:Nat}{g:Nat->Bool}(h:k+m<=n):((iX n g).drop k).take m=iX m (fun i=>g (k+i)):=by
 apply List.ext_getElem?
 intro i
 by_cases c:i<m
 · rw[List.getElem?_take_of_lt c,aWd,xU (by omega),xU c]
 · rw[aV8 (by simp[aAB];omega),aV8 (by rw[aAB];omega)]
theorem yG {i j:Int}(h:0<=i/\i<((10:Nat):Int))(h2:0<=j/\j<((10:Nat):Int)):i.toNat*10+j.toNat*1<100:=by omega
theorem aTg {i:Int}(h:0<=i/\i<((10:Nat):Int)):i.toNat*10+10<=100:=by omega
/- The engine: an own row that is frozen where it is last named. -/
section
variable {P:Program}{N:Nat}{Γ:Ctx P N}{S:List (Nat×Slot)}{O:List (Nat×Option Ob)}{d:Nat}
end
/- The engine: a table of rows, each with a label of its own. -/
open Go.RowKit (Below)
def zs {α:Type}(f:α->Ob):Nat->List α->List (Nat×Option Ob)
 | _,[]=>[]
 | b,r::R=>(b,some (f r))::zs f (b+1) R
section
variable {P:Program}{N:Nat}{Γ:Ctx P N}{S:List (Nat×Slot)}{O O':List (Nat×Option Ob)}{a:Act}{w:World}{ow:Nat->Own}{β:Nat->Option (Option Nat)}
theorem Ent.same (h:∀ l,lo O' l=lo O l):Ent Γ ⟨S,O⟩ ⟨S,O'⟩:=fun a w hs=>Sim.congr (E:=⟨S,O⟩) (E':=⟨S,O'⟩) (fun _=>rfl) h hs
theorem OldL.length:∀ {vs:List Value} {ps:List PV},OldL Γ vs ps->vs.length=ps.length
 | [],[],_=>rfl
 | v::vs,p::ps,h=>by simp[OldL.length h.2]
 | [],_::_,h=>h.elim
 | _::_,[],h=>h.elim
end
/- The engine: rows handed in to be written whose cells read shared blocks. -/
open Go.RowKit (Below)
def aUi (w:World)(ok:Nat->Prop)(κ:Nat->Option (Option Nat))(o:XO):Prop :=
 (κ o.l=some none/\o.old=[])\/∃ b cs t,κ o.l=some (some b)/\¬ok b/\w.heap[b]?=some (.cells cs t (0,0))/\∃ B,RelL w.heap true dead o.old cs 0 B/\∀ b∈B,ok b
def aPW (w w':World)(ok:Nat->Prop)(κ:Nat->Option (Option Nat))(o:XO):Prop :=
 (κ o.l=some none->o.new=[])/\∀ b,κ o.l=some (some b)->∀ cs t,w.heap[b]?=some (.cells cs t (0,0))->∃ cs',w'.heap[b]?=some (.cells cs' t (0,0))/\cs'.size=cs.size/\∃ B,RelL w'.heap true dead o.new cs' 0 B/\∀ b∈B,ok b\/w.heap.size<=b
def MeetsS (P:Program)(f:FuncId)(args:List PV)(objs:List XO)(r:PV)(deep:Bool):Prop :=
 ∀ (w:World) (cargs:Array Value) (ok:Nat->Prop) (κ:Nat->Option (Option Nat)),XArgs w.heap ok κ args cargs.toList->(∀ o∈objs,aUi w ok κ o)->(∀ l o,κ l=some o->∃ x∈objs,x.l=l)->(∀ l l' b,κ l=some (some b)->κ l'=some (some b)->l=l')->
  Calls P f cargs w fun e w'=>∃ c B,e=.returned c/\Same w w'/\(∀ b,b<w.heap.size->(∀ l,κ l≠some (some b))->w'.heap[b]?=w.heap[b]?)/\(∀ o∈objs,aPW w w' ok κ o)/\
   RelV w'.heap dead r c B/\(∀ b∈B,ok b\/w.heap.size<=b)/\(deep=true->B.Nodup/\∀ b∈B,w.heap.size<=b/\gA w' b)
def aHG:List XO->List (Nat×Option Ob)
 | []=>[]
 | o::r=>(o.l,some ⟨o.old,false,false⟩)::aHG r
theorem aFD:∀ {os:List XO} {l:Nat},(lo (aHG os) l=none/\∀ o∈os,o.l≠l)\/∃ o∈os,o.l=l/\lo (aHG os) l=some ⟨o.old,false,false⟩
 | [],l=>.inl ⟨rfl,by simp⟩
 | o::r,l=>by
  simp only[aHG,aT]
  by_cases h:o.l=l
  · exact .inr ⟨o,by simp,h,by rw[aUs h]⟩
  · rw[aUq h]
    rcases aFD (os:=r) (l:=l)with⟨h1,h2⟩ | ⟨o',h1,h2,h3⟩
    · exact .inl ⟨h1,fun x hx=>by rcases aUr.1 hx with rfl | hx;exact h;exact h2 x hx⟩
    · exact .inr ⟨o',by simp[h1],h2,h3⟩
section
variable {P:Program}{N:Nat}
theorem MeetsS.intro {f:FuncId}{fn:Func}{c:Code}{args:List PV}{objs:List XO}{r:PV}{deep:Bool}{rs:Array ResultVar}(hf:P.funcs[f]?=some fn)(hb:fn.body=some c)(hN:fn.ntmps=N)(hrs:fn.results=rs)(hn:Nat.ble args.length N=true)
 (hx:xok objs=true) (hnil:∀ o∈objs,o.old=[]->o.new=[])
 (h:∀ Γ:Ctx P N,(∀ l,Nat.blt l 100000=true->Γ.io l=none)->CodeT Γ c ⟨iY args 0,aHG objs⟩ (aCV Γ rs r deep objs)):MeetsS P f args objs r deep:=by
 classical
 intro w cargs ok κ ha hob hκ hinj
 obtain⟨h1,h2⟩:=ha.get
 obtain⟨hx1,hx2⟩:=aDn hx
 have hn:=aUZ hn
 let Γ:Ctx P N:={ base:=w.heap.size,ok:=ok,io:=fun l=>match κ l with | some (some b)=>some b | _=>none,w0:=w,mine:=fun _=>False,lent:=fun _=>False }
 have hio:∀ l b,Γ.io l=some b↔κ l=some (some b):=by
  intro l b
  show(match κ l with | some (some b)=>some b | _=>none)=some b↔_
  cases κ l with
  | none=>simp
  | some o=>cases o <;> simp
 have hsz:(cargs++Array.replicate (fn.ntmps-cargs.size) undef).size=N:=by
  have:cargs.size=args.length:=by rw[h1];simp
  simp[this,hN];omega
 have hblt:∀ l b,κ l=some (some b)->b<w.heap.size:=by
  intro l b e
  obtain⟨o,ho,rfl⟩:=hκ l _ e
  rcases hob o ho with⟨e',_⟩ | ⟨b',cs,t,e',_,g,_⟩
  · rw[e]at e';cases e'
  · rw[e]at e';cases e'
    rcases aVA b w.heap.size with h | h
    · exact h
    · simp[aVd h]at g
 refine calls_of_wp hf hb ?_
 let ow:Nat->Own:=fun b=>if hh:∃ l,κ l=some (some b)then .lab hh.choose else .none
 have how:∀ b l,κ l=some (some b)->ow b=.lab l:=by
  intro b l e
  have hh:∃ l,κ l=some (some b):=⟨l,e⟩
  show(if hh:_ then _ else _)=_
  rw[aWD hh,hinj _ _ b hh.choose_spec e]
 have how2:∀ b,ow b≠.none->∃ l,κ l=some (some b):=by
  intro b hb'
  rcases aWq (∃ l,κ l=some (some b))with hh | hh
  · exact hh
  · exfalso;apply hb'
    show(if hh:_ then _ else _)=_
    rw[aWE hh]
 have hsim:Sim Γ ⟨iY args 0,aHG objs⟩ { tmps:=cargs++Array.replicate (fn.ntmps-cargs.size) undef,defers:=[] } w:=by
  refine⟨ow,κ,{ size:=hsz,defers:=rfl,kept:=⟨rfl,rfl,rfl,aUI _,fun _ _ _ _=>rfl,fun b _ _ cs t h=>⟨cs,h,rfl⟩⟩,slots:=fun k=>?_,objs:=fun l ob hl=>?_,gone:=fun l hl=>?_,own:=fun b hb=>?_,ios:=fun l b hl _=>(hio l b).1 hl,fresh:=fun l b hl hi=>?_ }⟩
  · rw[pB]
    by_cases hk:k<args.length
    · rw[aUs ⟨aVk _,by simpa using hk⟩]
      obtain⟨B,g1,g2⟩:=h2 k hk
      have hB:∀ b∈B,∀ l,ow b≠.lab l:=by
       intro b hb l e
       obtain⟨l',e'⟩:=how2 b (by rw[e];simp)
       obtain⟨o,ho,rfl⟩:=hκ l' _ e'
       rcases hob o ho with⟨e2,_⟩ | ⟨b',cs,t,e2,hnok,_⟩
       · rw[e']at e2;cases e2
       · rw[e']at e2;cases e2;exact hnok (g2 b hb)
      refine⟨B,?_,fun b hb=>⟨aXA _ _ _ g1 b hb,.inl (g2 b hb),hB b hb⟩,by simp⟩
      have e:(cargs++Array.replicate (fn.ntmps-cargs.size) undef).getD k undef=cargs.toList.getD k undef:=by
       have hlt:k<cargs.size:=by rw[h1]at hk;simpa using hk
       simp[aUV,aVF,hlt,aUU]
      rw[e]
      simpa only[aWt]using g1
    · rw[aUq (by simpa using hk)]
      exact⟨[],by simp[RelV],by simp,by simp⟩
  · rcases aFD (os:=objs) (l:=l)with⟨g1,_⟩ | ⟨o,ho,rfl,g1⟩
    · simp only[g1]at hl;cases hl
    · simp only[g1]at hl;cases hl
      rcases hob o ho with⟨e1,e2⟩ | ⟨b,cs,t,e1,_,e3,B,e4,e5⟩
      · exact⟨[],by simp,by simp,.inl ⟨e1,e2,rfl⟩⟩
      · refine⟨B,fun x hx=>⟨RelL.below _ _ _ _ e4 x hx,.inl (e5 x hx),fun l e=>?_⟩,by simp,.inr ⟨b,cs,t,e1,how b _ e1,e3,by simpa using e4⟩⟩
        obtain⟨l',e'⟩:=how2 x (by rw[e];simp)
        obtain⟨o',ho',rfl⟩:=hκ l' _ e'
        rcases hob o' ho' with⟨e2,_⟩ | ⟨b',cs',t',e2,hnok,_⟩
        · rw[e']at e2;cases e2
        · rw[e']at e2;cases e2;exact hnok (e5 x hx)
  · cases hk:κ l with
    | none=>rfl
    | some o =>
     obtain⟨x,hx,rfl⟩:=hκ l o hk
     rcases aFD (os:=objs) (l:=x.l)with⟨_,g2⟩ | ⟨_,_,_,g1⟩
     · exact absurd rfl (g2 x hx)
     · simp only[g1]at hl;cases hl
  · obtain⟨l,e⟩:=how2 b hb
    exact⟨hblt l b e,.inr ⟨l,how b l e,(hio l b).2 e⟩⟩
  · rw[(hio l b).2 hl]at hi;cases hi
 have hioN:∀ l,Nat.blt l 100000=true->Γ.io l=none:=by
  intro l hl
  have hl:=(aR _ _).1 hl
  cases hi:Γ.io l with
  | none=>rfl
  | some b =>
   obtain⟨o,ho,rfl⟩:=hκ l _ ((hio l b).1 hi)
   have:=hx1 o ho;omega
 refine wp_mono (h Γ hioN _ _ hsim) fun e a' w' ⟨E',hs',hq⟩=>?_
 have fin:RetX Γ rs E' r deep objs->a'.defers=[]/\∃ v,(results fn a'.tmps).run P w'=.ok v w'/\∃ c B,Ending.returned v=.returned c/\Same w w'/\(∀ b,b<w.heap.size->(∀ l,κ l≠some (some b))->w'.heap[b]?=w.heap[b]?)/\(∀ o∈objs,aPW w w' ok κ o)/\
  RelV w'.heap dead r c B/\(∀ b∈B,ok b\/w.heap.size<=b)/\(deep=true->B.Nodup/\∀ b∈B,w.heap.size<=b/\gA w' b):=by
  rintro⟨hr,hr2⟩
  obtain⟨c,B,g1,g2,g3,g4⟩:=hr fn hrs a' w' hs'
  obtain⟨E2,⟨ow2,β2,hs2⟩,hr2⟩:=hr2 a' w' hs'
  refine⟨hs2.defers,c,g1,c,B,rfl,⟨hs2.kept.os,hs2.kept.output,hs2.kept.tape,hs2.kept.size⟩,fun b hb hn=>hs2.kept.old b hb (fun l e=>hn l ((hio l b).1 e)) (fun h=>h),fun o ho=>⟨fun e=>?_,fun b e cs t hc=>?_⟩,g2,fun b hb=>(g3 b hb).2.imp id (fun h=>(h.elim id False.elim:Γ.nww b).elim id False.elim),fun hd=>⟨(g4 hd).1,fun b hb=>⟨(((g4 hd).2 b hb).2.elim id False.elim:Γ.nww b).elim id False.elim,((g4 hd).2 b hb).1⟩⟩⟩
  · refine hnil o ho ?_
    rcases hob o ho with⟨_,e2⟩ | ⟨b,_,_,e2,_⟩
    · exact e2
    · rw[e]at e2;cases e2
  · obtain⟨dp,hl⟩:=hr2 o ho
    obtain⟨Bo,k1,_,k3⟩:=hs2.objs o.l _ hl
    have hβ:=hs2.ios o.l b ((hio o.l b).2 e) (by rw[hl];rfl)
    rcases k3 with⟨k4,_⟩ | ⟨b',cs',t',k4,k5,k6,k7⟩
    · rw[hβ]at k4;cases k4
    · rw[hβ]at k4;cases k4
      obtain⟨cs2,q1,q2⟩:=hs2.kept.ios b (hblt _ _ e) (fun h=>h) cs t hc
      rw[k6]at q1;cases q1
      exact⟨cs',k6,q2,Bo,by simpa using k7,fun x hx=>(k1 x hx).2.1.imp id (fun h=>(h.elim id False.elim:Γ.nww x).elim id False.elim)⟩
 cases e with
 | normal=>exact fin hq
 | ret=>exact fin hq
 | exit id=>exact hq.elim
 | goto l=>exact hq.elim
 | panic ch=>exact hq.elim
 | outgrown=>exact hq.elim
end
section
variable {P:Program}{N:Nat}{Γ:Ctx P N}{S:List (Nat×Slot)}{O:List (Nat×Option Ob)}{ow:Nat->Own}{β:Nat->Option (Option Nat)}{F:Env}{a:Act}{w:World}
inductive ObsS (O:List (Nat×Option Ob)) (ρ:List (Nat×Nat)):List XO->List (Nat×Option Ob)->Prop
 | nil:ObsS O ρ [] []
 | cons {l:Nat} {old new:List PV} {dp:Bool} {os:List XO} {us:List (Nat×Option Ob)}:loq O (rn ρ l)=some ⟨old,dp,false⟩->ObsS O ρ os us->ObsS O ρ (⟨l,old,new⟩::os) ((rn ρ l,some ⟨new,false,false⟩)::us)
theorem ObsS.keys {ρ:List (Nat×Nat)}{os:List XO}{us:List (Nat×Option Ob)}(h:ObsS O ρ os us):us.map (·.1)=aIx ρ os:=by
 induction h with
 | nil=>rfl
 | cons _ _ ih=>simp[aIx,ih]
theorem ObsS.get {ρ:List (Nat×Nat)}{os:List XO}{us:List (Nat×Option Ob)}(h:ObsS O ρ os us):∀ o∈os,∃ dp,loq O (rn ρ o.l)=some ⟨o.old,dp,false⟩/\True:=by
 induction h with
 | nil=>simp
 | cons h1 _ ih =>
  intro o ho
  rcases aUr.1 ho with rfl | ho
  · exact⟨_,h1,trivial⟩
  · exact ih o ho
theorem ObsS.lo {ρ:List (Nat×Nat)}{os:List XO}{us:List (Nat×Option Ob)}(h:ObsS O ρ os us)(hi:aDW ρ (aCA os)=true):∀ o∈os,Ev.lo us (rn ρ o.l)=some ⟨o.new,false,false⟩:=by
 induction h with
 | nil=>simp
 | @cons l old new dp os us h1 _ ih =>
  intro o ho
  rw[aT]
  by_cases e:rn ρ l=rn ρ o.l
  · rw[aUs e]
    rcases aUr.1 ho with rfl | ho
    · rfl
    · simp only[aCA,aDW,aUP,aWj]at hi
      have:zD ((aCA os).map (rn ρ)) (rn ρ l)=true:=(lD _ _).2 (by rw[aAH,aWo];exact aUJ.2 ⟨o,ho,e.symm⟩)
      rw[this]at hi;cases hi.1
  · rw[aUq e]
    rcases aUr.1 ho with rfl | ho
    · exact absurd rfl e
    · simp only[aCA,aDW,aUP]at hi
      exact ih hi.2 o ho
variable {d:Nat}{ty:TypeId}{pos:String}{af:Array Edge}{g:Option (Nat×Bool)}
end
/- The engine: objects forgotten; the order of a drawn region, told by what comes before what. -/
section
variable {P:Program}{N:Nat}{Γ:Ctx P N}
theorem Ent.sub {S:List (Nat×Slot)}{O O':List (Nat×Option Ob)}(hO:∀ l ob,lo O' l=some ob->lo O l=some ob):Ent Γ ⟨S,O⟩ ⟨S,O'⟩:=by
 rintro a w ⟨ow,β,h⟩
 let f:Nat->Option Nat:=fun l=>if(lo O' l).isSome=true then some l else none
 have hf1:∀ l ob,lo O' l=some ob->f l=some l:=fun l ob e=>by show(if _ then _ else _)=_;rw[aUs (by rw[e];rfl)]
 have hf2:∀ l x,f l=some x->x=l:=fun l x e=>by
  change (if _ then _ else _)=_ at e
  split at e
  · exact(Option.some.inj e).symm
  · cases e
 let ow':Nat->Own:=fun b=>match ow b with
  | .none=>.none
  | .slot k=>.slot k
  | .obj l=>match f l with
   | some l'=>.obj l'
   | none=>.none
  | .lab l=>match f l with
   | some l'=>.lab l'
   | none=>.none
 let β':Nat->Option (Option Nat):=fun l=>if(lo O' l).isSome=true then β l else none
 have hβ':∀ l o,β' l=some o->β l=some o:=by
  intro l o e
  have e':(if(lo O' l).isSome=true then β l else none)=some o:=e
  by_cases hx:(lo O' l).isSome=true
  · rw[aUs hx]at e';exact e'
  · rw[aUq hx]at e';cases e'
 have hIm:∀ b,Im Γ ow w b->Im Γ ow' w b:=by
  rintro b ⟨h1,h2,h3⟩
  refine⟨h1,h2,fun l=>?_⟩
  show(match ow b with | .none=>_ | .slot k=>_ | .obj l=>_ | .lab l=>_)≠_
  cases hb:ow b with
  | none=>simp
  | slot k=>simp
  | obj m=>simp only;cases f m <;> simp
  | lab m=>exact absurd hb (h3 m)
 have hkeep:∀ m,KeepB w.heap w.heap β β' m:=fun m o e=>⟨hβ' m o e,fun b _ c t hc=>⟨c,hc,rfl⟩⟩
 refine⟨ow',β',{ size:=h.size,defers:=h.defers,kept:=h.kept,slots:=fun k=>?_,objs:=fun l ob hl=>?_,gone:=fun l hl=>?_,own:=fun b hb=>?_,ios:=fun l b hl hs=>?_,fresh:=fun l b hl hi=>?_ }⟩
 · obtain⟨B,g1,g2,g3⟩:=h.slots k
   refine⟨B,aXt _ _ _ (fun m _=>hkeep m) (fun _ _=>rfl) g1,fun b hb=>hIm b (g2 b hb),fun hd=>⟨(g3 hd).1,fun b hb=>⟨?_,((g3 hd).2 b hb).2⟩⟩⟩
   have e:=((g3 hd).2 b hb).1
   show(match ow b with | .none=>_ | .slot k=>_ | .obj l=>_ | .lab l=>_)=_
   rw[e]
 · obtain⟨B,g1,g2,g3⟩:=h.objs l _ (hO l ob hl)
   have eβ:β' l=β l:=by show(if _ then _ else _)=_;rw[aUs (by rw[hl];rfl)]
   refine⟨B,fun b hb=>hIm b (g1 b hb),fun hd=>⟨(g2 hd).1,fun b hb=>⟨?_,((g2 hd).2 b hb).2⟩⟩,?_⟩
   · have e:=((g2 hd).2 b hb).1
     show(match ow b with | .none=>_ | .slot k=>_ | .obj l=>_ | .lab l=>_)=_
     rw[e];simp only[hf1 l ob hl]
   · rcases g3 with⟨e1,e2,e3⟩ | ⟨b,cs,t,e1,e2,e3,e4⟩
     · exact .inl ⟨eβ.trans e1,e2,e3⟩
     · refine .inr ⟨b,cs,t,eβ.trans e1,?_,e3,?_⟩
       · show(match ow b with | .none=>_ | .slot k=>_ | .obj l=>_ | .lab l=>_)=_
         rw[e2];simp only[hf1 l ob hl]
       · cases hbx:ob.box with
         | false=>rw[hbx]at e4;exact e4
         | true=>rw[hbx]at e4;exact aXr _ _ _ _ (fun _ _ m _=>hkeep m) (fun _ _=>rfl) e4
 · show(if _ then _ else _)=_
   rw[aUq (by rw[hl];simp)]
 · have hb':ow b≠.none:=by
    intro e
    apply hb
    show(match ow b with | .none=>_ | .slot k=>_ | .obj l=>_ | .lab l=>_)=_
    rw[e]
   obtain⟨g1,g2⟩:=h.own b hb'
   refine⟨g1,?_⟩
   rcases g2 with g2 | ⟨l,g3,g4⟩
   · exact .inl g2
   · refine .inr ⟨l,?_,g4⟩
     have hb2:(match f l with | some l'=>Own.lab l' | none=>Own.none)≠.none:=by
      have:ow' b=(match f l with | some l'=>Own.lab l' | none=>Own.none):=by
       show(match ow b with | .none=>_ | .slot k=>_ | .obj l=>_ | .lab l=>_)=_
       rw[g3]
      rw[<- this];exact hb
     show(match ow b with | .none=>_ | .slot k=>_ | .obj l=>_ | .lab l=>_)=_
     rw[g3]
     simp only
     cases hx:f l with
     | none=>rw[hx]at hb2;simp at hb2
     | some l'=>rw[hf2 l l' hx]
 · show(if _ then _ else _)=_
   rw[aUs hs]
   refine h.ios l b hl ?_
   cases hx:lo O' l with
   | none=>simp only at hs;rw[hx]at hs;cases hs
   | some ob=>simp only;rw[hO l ob hx];rfl
 · exact h.fresh l b (hβ' l _ hl) hi
end
/- The engine: an element of an array value of truth values. -/
section
variable {P:Program}{N:Nat}{Γ:Ctx P N}{S:List (Nat×Slot)}{O:List (Nat×Option Ob)}
theorem aJK {h:Array Obj}{q:Bool}{β:Nat->Option (Option Nat)}:∀ {ps:List PV} {cs:Array Value} {i j:Nat} {B:List Nat} {v:Value},RelL h q β ps cs i B->ps[j]?=some (.sc v)->cs[i+j]?=some v
 | [],_,_,_,_,_,_,hj=>by simp at hj
 | p::ps,cs,i,0,B,v,H,hj=>by
  simp only[RelL]at H
  obtain⟨c,O1,O2,h1,h2,h3,rfl⟩:=H
  simp only[List.getElem?_cons_zero,Option.some.injEq]at hj
  subst hj
  simp only[RelV]at h2
  obtain⟨rfl,_⟩:=h2
  exact h1.1
 | p::ps,cs,i,j+1,B,v,H,hj=>by
  simp only[RelL]at H
  obtain⟨c,O1,O2,h1,h2,h3,rfl⟩:=H
  rw[List.getElem?_cons_succ]at hj
  have:=aJK h3 hj
  rwa [show i+(j+1)=i+1+j by omega]
theorem aOk {t len e by_:Nat}[ht:ArT P t len e][hi:TI P e 1 false by_](w:World){cs:Array Value}{k:IntKind}{i:Nat}{v:Value}(h:i<len)(hv:cs[i]?=some v) :
 (Instr.index t (.agg cs) (.int k i)).run P w=.ok v w:=by
 obtain⟨⟨ii,h1,h2,_⟩,dd,h4,h5⟩:=hi.ok
 have e2:((isAgg e).run P w)=.ok false w:=by
  simp[isAgg,run_underlying h4]
  revert h5
  cases dd <;> simp
 simp[Instr.index,asIntOf,run_underlying ht.ok,h,part,Sem.run_bind,e2,sizeOf,typeInfo,h1,h2,hv]
variable {d:Nat}{ty:TypeId}{pos:String}{af:Array Edge}{g:Option (Nat×Bool)}
theorem aSV {x i:Operand}{t len e by_:Nat}{cells:List PV}{k:IntKind}{j:Int}{v:Value}[ht:ArT P t len e][hi:TI P e 1 false by_](hx:evq S x=some (.agg cells))(hix:evq S i=some (.sc (.int k j)))(hj:0<=j/\j<(len:Int))(hc:cells[j.toNat]?=some (.sc v))(hd:Nat.blt d N=true) :
 Local Γ ⟨some d,.index t x i,ty,pos,af,g⟩ ⟨S,O⟩ ⟨[(d,⟨.sc v,false⟩)],[]⟩ (ors x++ors i) [] []:=by
 intro F hs hlo _
 refine bE fun a w hsim=>?_
 have hiv:=tB hsim hix (fun k hk=>hs k (by simp[hk]))
 obtain⟨ow,β,hsim⟩:=hsim
 obtain⟨m,rfl⟩:=aVL hj.1
 have hm:m<len:=by have:=hj.2;omega
 obtain⟨B,h1,h2⟩:=cK hsim hx (fun k hk=>hs k (by simp[hk]))
 simp only[RelV]at h1
 obtain⟨cs,e1,e2,h3⟩:=h1
 rw[aU1]at hc
 have hv:=aJK h3 hc
 rw[aUR]at hv
 refine⟨v,w,by simp[execOp,e1,hiv,aOk (t:=t) (e:=e) w hm hv],ow,β,?_⟩
 exact hsim.put ((aR _ _).1 hd) (O:=[]) (by simp only[RelV];exact⟨trivial,trivial⟩) (by simp)
end
theorem aTr {i:Int}{m:Nat}(h:0<=i/\i<(m:Int)):i.toNat<m:=by omega
end Go.Ev
