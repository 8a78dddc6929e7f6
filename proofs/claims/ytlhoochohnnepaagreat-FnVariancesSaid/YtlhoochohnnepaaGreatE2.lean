/- Parts EvG, EvH, EvI, EvJ, EvK, EvL, EvM. -/
import Derived.Test.YtlhoochohnnepaaGreatE1
import Derived.Room.Entries
import Derived.Great.BuildSlice
set_option linter.all false
set_option maxHeartbeats 4000000
set_option maxRecDepth 20000
/- The engine, part G: functions: what a call is said to give, how it is proved, how it is used. -/
namespace Go.Ev
open Go.RowKit (Below)
def RelArgs (h:Array Obj)(ok:Nat->Prop):List PV->List Value->Prop
 | [],[]=>True
 | p::ps,c::cs=>(∃ B,RelV h dead p c B/\∀ b∈B,ok b)/\RelArgs h ok ps cs
 | _,_=>False
def Meets (P:Program)(f:FuncId)(args:List PV)(r:PV)(deep:Bool):Prop :=
 ∀ (w:World) (cargs:Array Value) (ok:Nat->Prop),RelArgs w.heap ok args cargs.toList->
  Calls P f cargs w fun e w'=>∃ c B,e=.returned c/\Below w.heap.size w w'/\RelV w'.heap dead r c B/\(∀ b∈B,ok b\/w.heap.size<=b)/\(deep=true->B.Nodup/\∀ b∈B,w.heap.size<=b/\fP w' b)
theorem Meets.weak {P:Program}{f:FuncId}{args:List PV}{r:PV}{deep:Bool}(h:Meets P f args r deep):Meets P f args r false :=
 fun w cargs ok ha=>(h w cargs ok ha).mono fun _ _ ⟨c,B,h1,h2,h3,h4,_⟩=>⟨c,B,h1,h2,h3,h4,by simp⟩
def hY:List PV->Nat->List (Nat×Slot)
 | [],_=>[]
 | p::r,k=>(k,⟨p,false⟩)::hY r (k+1)
theorem nA:∀ (ps:List PV) (i k:Nat),lk (hY ps i) k=if i<=k/\k-i<ps.length then⟨ps.getD (k-i) .any,false⟩else⟨.any,false⟩
 | [],i,k=>by simp[hY,lk]
 | p::r,i,k=>by
  rw[hY,dO,nA r (i+1) k]
  by_cases h:i=k
  · subst h;simp
  · rw[aTc h]
    by_cases h2:i+1<=k/\k-(i+1)<r.length
    · rw[aTd h2,aTd (by simp;omega)]
      have:k-i=(k-(i+1))+1:=by omega
      rw[this];simp
    · rw[aTc h2,aTc (by simp;omega)]
theorem RelArgs.get {h:Array Obj}{ok:Nat->Prop}:∀ {ps:List PV} {cs:List Value},RelArgs h ok ps cs->ps.length=cs.length/\∀ k,k<ps.length->∃ B,RelV h dead (ps.getD k .any) (cs.getD k undef) B/\∀ b∈B,ok b
 | [],[],_=>⟨rfl,fun k hk=>by simp at hk⟩
 | p::ps,c::cs,H=>by
  obtain⟨h1,h2⟩:=H
  obtain⟨h3,h4⟩:=RelArgs.get h2
  refine⟨by simp[h3],fun k hk=>?_⟩
  cases k with
  | zero=>simpa using h1
  | succ k=>simpa using h4 k (by simpa using hk)
 | [],_::_,H=>H.elim
 | _::_,[],H=>H.elim
inductive ResO where
 | slot (k:Nat)
 | obj (l:Nat)
 | none
 deriving DecidableEq
def ResO.own:ResO->Own
 | .slot k=>.slot k
 | .obj l=>.obj l
 | .none=>.none
def pA (tmps:Array Value):ResultVar->Sem Value
 | .tmp t=>pure (tmps.getD t undef)
 | .cell a t=>do loadVar t (<- asAddr (tmps.getD a undef))
section
variable {P:Program}{N:Nat}{Γ:Ctx P N}{S:List (Nat×Slot)}{O:List (Nat×Option Ob)}
def Res1 (Γ:Ctx P N)(E:Env)(rv:ResultVar)(p:PV)(o:ResO):Prop :=
 ∀ ow β a w,SimG Γ ow β E a w->∃ c B,(pA a.tmps rv).run P w=.ok c w/\RelV w.heap dead p c B/\(∀ b∈B,b<w.heap.size/\(Γ.ok b\/Γ.nw b))/\(o≠.none->B.Nodup/\∀ b∈B,fP w b/\Γ.nw b/\(ow b=o.own\/∃ l,ow b=.lab l/\o=.obj l))
def RetIs (Γ:Ctx P N)(rs:Array ResultVar)(E:Env)(r:PV)(deep:Bool):Prop :=
 ∀ fn:Func,fn.results=rs->∀ a w,Sim Γ E a w->∃ c B,(results fn a.tmps).run P w=.ok c w/\RelV w.heap dead r c B/\(∀ b∈B,b<w.heap.size/\(Γ.ok b\/Γ.nw b))/\(deep=true->B.Nodup/\∀ b∈B,fP w b/\Γ.nw b)
def aAL (Γ:Ctx P N)(rs:Array ResultVar)(r:PV)(deep:Bool):Exit->Env->Prop
 | .normal,E=>RetIs Γ rs E r deep
 | .ret,E=>RetIs Γ rs E r deep
 | _,_=>False
theorem Meets.intro {f:FuncId}{fn:Func}{c:Code}{args:List PV}{r:PV}{deep:Bool}{rs:Array ResultVar}(hf:P.funcs[f]?=some fn)(hb:fn.body=some c)(hN:fn.ntmps=N)(hrs:fn.results=rs)(hn:Nat.ble args.length N=true)
 (h:∀ Γ:Ctx P N,Γ.io=(fun _=>none)->CodeT Γ c ⟨hY args 0,[]⟩ (aAL Γ rs r deep)):Meets P f args r deep:=by
 intro w cargs ok ha
 obtain⟨h1,h2⟩:=ha.get
 have hn:=aTL hn
 let Γ:Ctx P N:={ base:=w.heap.size,ok:=fun b=>ok b,io:=fun _=>none,w0:=w,mine:=fun _=>False,lent:=fun _=>False }
 have hsz:(cargs++Array.replicate (fn.ntmps-cargs.size) undef).size=N:=by
  have:cargs.size=args.length:=by rw[h1];simp
  simp[this,hN];omega
 refine calls_of_wp hf hb ?_
 have hsim:Sim Γ ⟨hY args 0,[]⟩ { tmps:=cargs++Array.replicate (fn.ntmps-cargs.size) undef,defers:=[] } w:=by
  refine⟨fun _=>.none,fun _=>none,{ size:=hsz,defers:=rfl,kept:=⟨rfl,rfl,rfl,aTn _,fun _ _ _ _=>rfl,fun b _ _ cs t h=>⟨cs,h,rfl⟩⟩,slots:=fun k=>?_,objs:=fun l ob hl=>(by simp[lo]at hl),gone:=fun _ _=>rfl,own:=fun b hb=>absurd rfl hb,ios:=fun l b hl=>(by cases hl),fresh:=fun l b hl=>(by cases hl) }⟩
  rw[nA]
  by_cases hk:k<args.length
  · rw[aTd ⟨aT9 _,by simpa using hk⟩]
    obtain⟨B,g1,g2⟩:=h2 k hk
    refine⟨B,?_,fun b hb=>⟨aWt _ _ _ g1 b hb,.inl (g2 b hb),fun l=>by simp⟩,by simp⟩
    have e:(cargs++Array.replicate (fn.ntmps-cargs.size) undef).getD k undef=cargs.toList.getD k undef:=by
     have hlt:k<cargs.size:=by rw[h1]at hk;simpa using hk
     simp[aTy,aUl,hlt,aTt]
    rw[e]
    simp only[aUU]
    exact aWl _ _ _ (fun l _=>by intro ob h;cases h) (fun _ _=>rfl) g1
  · rw[aTc (by simpa using hk)]
    exact⟨[],by simp[RelV],by simp,by simp⟩
 refine wp_mono (h Γ rfl _ _ hsim) fun e a' w' ⟨E',hs',hq⟩=>?_
 have fin:RetIs Γ rs E' r deep->a'.defers=[]/\∃ v,(results fn a'.tmps).run P w'=.ok v w'/\∃ c B,Ending.returned v=.returned c/\Below w.heap.size w w'/\RelV w'.heap dead r c B/\(∀ b∈B,ok b\/w.heap.size<=b)/\(deep=true->B.Nodup/\∀ b∈B,w.heap.size<=b/\fP w' b):=by
  intro hr
  obtain⟨c,B,g1,g2,g3,g4⟩:=hr fn hrs a' w' hs'
  obtain⟨ow,β,hs'⟩:=hs'
  refine⟨hs'.defers,c,g1,c,B,rfl,⟨hs'.kept.os,hs'.kept.tape,hs'.kept.output,hs'.kept.size,fun k hk=>hs'.kept.old k hk (fun l=>by simp[Γ]) (fun h=>h)⟩,g2,fun b hb=>(g3 b hb).2.imp id (fun h=>(h.elim id False.elim:Γ.nww b).elim id False.elim),fun hd=>⟨(g4 hd).1,fun b hb=>⟨(((g4 hd).2 b hb).2.elim id False.elim:Γ.nww b).elim id False.elim,((g4 hd).2 b hb).1⟩⟩⟩
 cases e with
 | normal=>exact fin hq
 | ret=>exact fin hq
 | exit id=>exact hq.elim
 | goto l=>exact hq.elim
 | panic ch=>exact hq.elim
 | outgrown=>exact hq.elim
theorem aBj (fn:Func)(tmps:Array Value):results fn tmps=(do let vs <- fn.results.mapM (pA tmps);pure (if h:vs.size=1 then vs[0]else .tuple vs)):=by
 unfold results
 congr 1
theorem yR {rv:ResultVar}{fn:Func}(h:fn.results=#[rv])(tmps:Array Value):results fn tmps=pA tmps rv:=by
 unfold results
 rw[h]
 cases rv with
 | tmp t=>simp[pA]
 | cell a t=>simp[pA]
theorem aIj {rv1 rv2:ResultVar}{fn:Func}(h:fn.results=#[rv1,rv2])(tmps:Array Value)(w:World){c1 c2:Value}(h1:(pA tmps rv1).run P w=.ok c1 w)(h2:(pA tmps rv2).run P w=.ok c2 w):(results fn tmps).run P w=.ok (.tuple #[c1,c2]) w:=by
 rw[aBj,h]
 simp[h1,h2]
theorem aIi {rv1 rv2 rv3:ResultVar}{fn:Func}(h:fn.results=#[rv1,rv2,rv3])(tmps:Array Value)(w:World){c1 c2 c3:Value}(h1:(pA tmps rv1).run P w=.ok c1 w)(h2:(pA tmps rv2).run P w=.ok c2 w)(h3:(pA tmps rv3).run P w=.ok c3 w):(results fn tmps).run P w=.ok (.tuple #[c1,c2,c3]) w:=by
 rw[aBj,h]
 simp[h1,h2,h3]
theorem aIh {rv1 rv2 rv3 rv4:ResultVar}{fn:Func}(h:fn.results=#[rv1,rv2,rv3,rv4])(tmps:Array Value)(w:World){c1 c2 c3 c4:Value}(h1:(pA tmps rv1).run P w=.ok c1 w)(h2:(pA tmps rv2).run P w=.ok c2 w)(h3:(pA tmps rv3).run P w=.ok c3 w)(h4:(pA tmps rv4).run P w=.ok c4 w):(results fn tmps).run P w=.ok (.tuple #[c1,c2,c3,c4]) w:=by
 rw[aBj,h]
 simp[h1,h2,h3,h4]
theorem Res1.sc {t:Nat}{v:Value}{dp:Bool}(h:lkq S t=some ⟨.sc v,dp⟩):Res1 Γ ⟨S,O⟩ (.tmp t) (.sc v) .none:=by
 intro ow β a w hs
 obtain⟨B,h1,_,_⟩:=hs.slots t
 rw[fM h]at h1
 simp only[RelV]at h1
 exact⟨v,[],by simp[pA,<- h1.1],by simp[RelV],by simp,by simp⟩
theorem Res1.val {t:Nat}{p:PV}{dp:Bool}(h:lkq S t=some ⟨p,dp⟩)(hl:p.labs=[]):Res1 Γ ⟨S,O⟩ (.tmp t) p .none:=by
 intro ow β a w hs
 obtain⟨B,h1,h2,_⟩:=hs.slots t
 rw[fM h]at h1
 exact⟨_,B,rfl,aWl _ _ _ (fun l hl'=>by rw[hl]at hl';cases hl') (fun _ _=>rfl) h1,fun b hb=>⟨(h2 b hb).1,(h2 b hb).2.1⟩,by simp⟩
theorem Res1.nil {t:Nat}{dp:Bool}(h:lkq S t=some ⟨.sc (.slice none 0 0),dp⟩):Res1 Γ ⟨S,O⟩ (.tmp t) (.sl 0 []) (.slot t):=by
 intro ow β a w hs
 obtain⟨B,h1,_,_⟩:=hs.slots t
 rw[fM h]at h1
 simp only[RelV]at h1
 exact⟨_,[],rfl,by simp only[RelV];exact .inl ⟨trivial,trivial,trivial,_,_,h1.1⟩,by simp,by simp⟩
theorem Res1.deep {t:Nat}{p:PV}(h:lkq S t=some ⟨p,true⟩)(hl:p.labs=[]):Res1 Γ ⟨S,O⟩ (.tmp t) p (.slot t):=by
 intro ow β a w hs
 obtain⟨B,h1,h2,h3⟩:=hs.slots t
 rw[fM h]at h1 h3
 refine⟨_,B,rfl,aWl _ _ _ (fun l hl'=>by rw[hl]at hl';cases hl') (fun _ _=>rfl) h1,fun b hb=>⟨(h2 b hb).1,(h2 b hb).2.1⟩,fun _=>⟨(h3 rfl).1,fun b hb=>?_⟩⟩
 obtain⟨g1,g2⟩:=(h3 rfl).2 b hb
 refine⟨g2,?_,.inl g1⟩
 rcases(hs.own b (by rw[g1];simp)).2 with g | ⟨l,g,_⟩
 · exact g
 · rw[g1]at g;cases g
theorem RetIs.one {rv:ResultVar}{p:PV}{o:ResO}{deep:Bool}(h:Res1 Γ ⟨S,O⟩ rv p o)(hd:deep=true->o≠.none):RetIs Γ #[rv] ⟨S,O⟩ p deep:=by
 rintro fn hfn a w ⟨ow,β,hs⟩
 obtain⟨c,B,h1,h2,h3,h4⟩:=h ow β a w hs
 refine⟨c,B,by rw[yR hfn];exact h1,h2,h3,fun hx=>⟨(h4 (hd hx)).1,fun b hb=>⟨((h4 (hd hx)).2 b hb).1,((h4 (hd hx)).2 b hb).2.1⟩⟩⟩
theorem RetIs.sc1 {t:Nat}{v:Value}{dp deep:Bool}(h:lkq S t=some ⟨.sc v,dp⟩):RetIs Γ #[.tmp t] ⟨S,O⟩ (.sc v) deep:=by
 rintro fn hfn a w ⟨ow,β,hs⟩
 obtain⟨c,B,h1,h2,h3,h4⟩:=Res1.sc (Γ:=Γ) (S:=S) (O:=O) h ow β a w hs
 simp only[RelV]at h2
 obtain⟨rfl,rfl⟩:=h2
 exact⟨c,[],by rw[yR hfn];exact h1,by simp[RelV],by simp,by simp⟩
inductive ResL (Γ:Ctx P N) (E:Env):List ResultVar->List PV->List ResO->Prop
 | nil:ResL Γ E [] [] []
 | cons {rv:ResultVar} {p:PV} {o:ResO} {rs:List ResultVar} {ps:List PV} {os:List ResO}:Res1 Γ E rv p o->ResL Γ E rs ps os->ResL Γ E (rv::rs) (p::ps) (o::os)
def aC6:List PV->List ResO->Bool
 | [],[]=>true
 | p::ps,o::os=>(match p,o with
  | .sc _,_=>true
  | _,.none=>false
  | _,o=>!(os.any (· == o)))&&aC6 ps os
 | _,_=>false
theorem ResL.run {E:Env}{rs:List ResultVar}{ps:List PV}{os:List ResO}(h:ResL Γ E rs ps os){ow:Nat->Own}{β:Nat->Option (Option Nat)}{a:Act}{w:World}(hs:SimG Γ ow β E a w) :
 ∃ (cs:List Value) (B:List Nat),cs.length=rs.length/\ps.length=rs.length/\(∀ (k:Nat) (rv:ResultVar),rs[k]?=some rv->∃ c,cs[k]?=some c/\(pA a.tmps rv).run P w=.ok c w)/\(∀ (pre:List Value),RelL w.heap false dead ps (pre++cs).toArray pre.length B)/\
  (∀ b∈B,b<w.heap.size/\(Γ.ok b\/Γ.nw b))/\(aC6 ps os=true->B.Nodup/\∀ b∈B,fP w b/\Γ.nw b/\∃ o∈os,ow b=o.own\/∃ l,ow b=.lab l/\o=.obj l):=by
 induction h with
 | nil=>exact⟨[],[],rfl,rfl,by simp,fun pre=>by simp[RelL],by simp,by simp⟩
 | @cons rv p o rs ps os h1 h2 ih =>
  obtain⟨cs,B,g1,g2,g3,g4,g5,g6⟩:=ih
  obtain⟨c,B1,e1,e2,e3,e4⟩:=h1 ow β a w hs
  refine⟨c::cs,B1++B,by simp[g1],by simp[g2],fun k rv' hk=>?_,fun pre=>?_,fun b hb=>?_,fun ho=>?_⟩
  · cases k with
    | zero=>simp at hk;subst hk;exact⟨c,by simp,e1⟩
    | succ k=>simpa using g3 k rv' (by simpa using hk)
  · simp only[RelL]
    refine⟨c,B1,B,⟨by simp,by simp⟩,e2,?_,rfl⟩
    have:=g4 (pre++[c])
    simpa using this
  · rcases aTj.1 hb with hb | hb
    · exact e3 b hb
    · exact g5 b hb
  · simp only[aC6,aTB]at ho
    obtain⟨ho1,ho2⟩:=ho
    obtain⟨k1,k2⟩:=g6 ho2
    have hB1:B1=[]\/(o≠.none/\∀ o'∈os,o'≠o):=by
     cases p with
     | sc v=>simp only[RelV]at e2;exact .inl e2.2
     | _ =>
      refine .inr ?_
      cases o with
      | none=>simp at ho1
      | slot k=>exact⟨by simp,fun o' ho' e=>by subst e;simp at ho1;exact ho1 _ ho' rfl⟩
      | obj l=>exact⟨by simp,fun o' ho' e=>by subst e;simp at ho1;exact ho1 _ ho' rfl⟩
    rcases hB1 with rfl | ⟨hne,hos⟩
    · refine⟨by simpa using k1,fun b hb=>?_⟩
      obtain⟨j1,j2,o',ho',j3⟩:=k2 b (by simpa using hb)
      exact⟨j1,j2,o',by simp[ho'],j3⟩
    · obtain⟨j1,j2⟩:=e4 hne
      refine⟨?_,fun b hb=>?_⟩
      · rw[aTw]
        refine⟨j1,k1,fun b hb b' hb' e=>?_⟩
        subst e
        obtain⟨_,_,x1⟩:=j2 b hb
        obtain⟨_,_,o',ho',x2⟩:=k2 b hb'
        apply hos o' ho'
        cases o <;> cases o' <;> simp[ResO.own]at x1 x2 hne ⊢
        all_goals first
         | (rcases x1 with x1 | x1 <;> rcases x2 with x2 | x2 <;> simp_all;done)
         | (simp_all;done)
      · rcases aTj.1 hb with hb | hb
        · obtain⟨x1,x2,x3⟩:=j2 b hb
          exact⟨x1,x2,o,by simp,x3⟩
        · obtain⟨x1,x2,o',ho',x3⟩:=k2 b hb
          exact⟨x1,x2,o',by simp[ho'],x3⟩
theorem RetIs.many {rs:List ResultVar}{ps:List PV}{os:List ResO}{deep:Bool}(hlen:rs.length=2\/rs.length=3\/rs.length=4)(h:ResL Γ ⟨S,O⟩ rs ps os)(hd:deep=true->aC6 ps os=true):RetIs Γ rs.toArray ⟨S,O⟩ (.tup ps) deep:=by
 rintro fn hfn a w ⟨ow,β,hs⟩
 obtain⟨cs,B,g1,g2,g3,g4,g5,g6⟩:=h.run hs
 refine⟨.tuple cs.toArray,B,?_,?_,g5,fun hx=>⟨(g6 (hd hx)).1,fun b hb=>⟨((g6 (hd hx)).2 b hb).1,((g6 (hd hx)).2 b hb).2.1⟩⟩⟩
 · rcases hlen with hl | hl | hl
   · match rs,cs,hl,g1,g3,hfn with
     | [r1,r2],[c1,c2],_,_,g3,hfn =>
      obtain⟨_,e1,f1⟩:=g3 0 r1 rfl
      obtain⟨_,e2,f2⟩:=g3 1 r2 rfl
      simp at e1 e2;subst e1;subst e2
      exact aIj hfn _ _ f1 f2
   · match rs,cs,hl,g1,g3,hfn with
     | [r1,r2,r3],[c1,c2,c3],_,_,g3,hfn =>
      obtain⟨_,e1,f1⟩:=g3 0 r1 rfl
      obtain⟨_,e2,f2⟩:=g3 1 r2 rfl
      obtain⟨_,e3,f3⟩:=g3 2 r3 rfl
      simp at e1 e2 e3;subst e1;subst e2;subst e3
      exact aIi hfn _ _ f1 f2 f3
   · match rs,cs,hl,g1,g3,hfn with
     | [r1,r2,r3,r4],[c1,c2,c3,c4],_,_,g3,hfn =>
      obtain⟨_,e1,f1⟩:=g3 0 r1 rfl
      obtain⟨_,e2,f2⟩:=g3 1 r2 rfl
      obtain⟨_,e3,f3⟩:=g3 2 r3 rfl
      obtain⟨_,e4,f4⟩:=g3 3 r4 rfl
      simp at e1 e2 e3 e4;subst e1;subst e2;subst e3;subst e4
      exact aIh hfn _ _ f1 f2 f3 f4
 · simp only[RelV]
   exact⟨cs.toArray,rfl,by simp[g1,g2],by simpa using g4 []⟩
class FnC (P:Program) (f:FuncId):Prop where
 ok : ∃ fn, P.funcs[f]? = some fn ∧ fn.body.isNone = false ∧ (fn.name == "runtime.NumGoroutine") = false
theorem FnC.run {P:Program}{f:FuncId}(h:FnC P f)(args:Array Value)(w:World):(callFunc f args).run P w=.ok (.enter f args) w:=by
 obtain⟨fn,h1,h2,h3⟩:=h.ok
 have h2':¬fn.body.isNone=true:=by rw[h2];simp
 have h3' : ¬ (fn.name == "runtime.NumGoroutine") = true := by rw [h3]; simp
 unfold callFunc
 rw[Sem.run_bind,run_program,Result.andThen_ok,h1]
 simp only[]
 rw[aTc h3',aTc h2']
 rfl
inductive CellsR (O:List (Nat×Option Ob)):List PV->List PV->List Nat->Prop
 | nil:CellsR O [] [] []
 | sc {v:Value} {ps qs:List PV} {ls:List Nat}:CellsR O ps qs ls->CellsR O (.sc v::ps) (.sc v::qs) ls
 | ref {l s n:Nat} {cells cells':List PV} {dp:Bool} {ps qs:List PV} {ls:List Nat}:loq O l=some ⟨cells,dp,false⟩->SoftL cells cells'->CellsR O ps qs ls->CellsR O (.ref l s 0 n::ps) (.sl n cells'::qs) (l::ls)
 | vl {p p':PV} {ps qs:List PV} {ls:List Nat}:p.labs=[]->Soft p p'->CellsR O ps qs ls->CellsR O (p::ps) (p'::qs) ls
inductive ArgV (S:List (Nat×Slot)) (O:List (Nat×Option Ob)):Operand->PV->List Nat->Prop
 | val {x:Operand} {p:PV}:evq S x=some p->p.labs=[]->ArgV S O x p []
 | nil {x:Operand}:evq S x=some (.sc (.slice none 0 0))->ArgV S O x (.sl 0 []) []
 | ref {x:Operand} {l s n:Nat} {cells:List PV} {dp:Bool}:evq S x=some (.ref l s 0 n)->loq O l=some ⟨cells,dp,false⟩->cells.length<=n*s->ArgV S O x (.sl n cells) [l]
 | valS {x:Operand} {p p':PV}:evq S x=some p->p.labs=[]->Soft p p'->ArgV S O x p' []
 | refS {x:Operand} {l s n:Nat} {cells cells':List PV} {dp:Bool}:evq S x=some (.ref l s 0 n)->loq O l=some ⟨cells,dp,false⟩->SoftL cells cells'->ArgV S O x (.sl n cells') [l]
 | aggR {x:Operand} {ps qs:List PV} {ls:List Nat}:evq S x=some (.agg ps)->CellsR O ps qs ls->ArgV S O x (.agg qs) ls
inductive ArgsV (S:List (Nat×Slot)) (O:List (Nat×Option Ob)):List Operand->List PV->List Nat->Prop
 | nil:ArgsV S O [] [] []
 | cons {x:Operand} {p:PV} {l m:List Nat} {xs:List Operand} {ps:List PV}:ArgV S O x p l->ArgsV S O xs ps m->ArgsV S O (x::xs) (p::ps) (l++m)
def flat:PV->Bool
 | .sc _=>true
 | .agg cells=>cells.all fun | .sc _=>true | _=>false
 | .tup vs=>vs.all fun | .sc _=>true | .agg cells=>cells.all (fun | .sc _=>true | _=>false) | _=>false
 | _=>false
theorem aMg {h:Array Obj}{q:Bool}{β:Nat->Option (Option Nat)}:∀ (ps:List PV) (cs:Array Value) (i:Nat) (B:List Nat),ps.all (fun | .sc _=>true | _=>false)=true->RelL h q β ps cs i B->B=[]
 | [],_,_,_,_,H=>by simpa [RelL]using H
 | p::ps,cs,i,B,hf,H=>by
  simp only[List.all_cons,aTB]at hf
  simp only[RelL]at H
  obtain⟨c,B1,B2,_,h2,h3,rfl⟩:=H
  have e2:=aMg ps cs (i+1) B2 hf.2 h3
  cases p with
  | sc v=>simp only[RelV]at h2;rw[h2.2,e2];rfl
  | _=>simp at hf
theorem aDq {h:Array Obj}{β:Nat->Option (Option Nat)}{p:PV}{c:Value}{B:List Nat}(hf:flat p=true)(H:RelV h β p c B):B=[]:=by
 cases p with
 | sc v=>simp only[RelV]at H;exact H.2
 | agg cells=>simp only[RelV]at H;obtain⟨cs,_,_,h⟩:=H;exact aMg _ _ _ _ hf h
 | tup vs =>
  simp only[RelV]at H
  obtain⟨cs,_,_,hh⟩:=H
  have key:∀ (ps:List PV) (i:Nat) (B:List Nat),(ps.all fun | .sc _=>true | .agg cells=>cells.all (fun | .sc _=>true | _=>false) | _=>false)=true->RelL h false β ps cs i B->B=[]:=by
   intro ps
   induction ps with
   | nil=>intro i B _ H;simpa [RelL]using H
   | cons p ps ih =>
    intro i B hf H
    simp only[List.all_cons,aTB]at hf
    simp only[RelL]at H
    obtain⟨c,B1,B2,_,h2,h3,rfl⟩:=H
    rw[ih (i+1) B2 hf.2 h3]
    cases p with
    | sc v=>simp only[RelV]at h2;rw[h2.2];rfl
    | agg cells=>simp only[RelV]at h2;obtain⟨cs',_,_,h'⟩:=h2;rw[aMg _ _ _ _ hf.1 h'];rfl
    | _=>simp at hf
  exact key _ _ _ hf hh
 | _=>simp[flat]at hf
theorem CellsR.rel {F:Env}{ow:Nat->Own}{β:Nat->Option (Option Nat)}{a:Act}{w:World}(hs:SimG Γ ow β F a w){ps qs:List PV}{ls:List Nat}(H:CellsR O ps qs ls)(hl:∀ l∈ls,lo F.o l=lo O l) :
 ∀ {cs:Array Value} {i:Nat} {B:List Nat},RelL w.heap true β ps cs i B->(∀ b∈B,Im Γ ow w b)->ps.length=qs.length/\∃ B',RelL w.heap true dead qs cs i B'/\∀ b∈B',Im Γ ow w b\/∃ l∈ls,ow b=.lab l:=by
 induction H with
 | nil=>intro cs i B _ _;exact⟨rfl,[],by simp[RelL],by simp⟩
 | sc _ ih =>
  intro cs i B H hB
  simp only[RelL]at H
  obtain⟨c,B1,B2,g1,g2,g3,rfl⟩:=H
  obtain⟨k1,B',k2,k3⟩:=ih hl g3 (fun b hb=>hB b (by simp[hb]))
  simp only[RelV]at g2
  refine⟨by simp[k1],B',?_,k3⟩
  simp only[RelL]
  exact⟨c,[],B',g1,by simp only[RelV];exact⟨g2.1,trivial⟩,k2,rfl⟩
 | @vl p p' ps qs ls hlb hs' _ ih =>
  intro cs i B H hB
  simp only[RelL]at H
  obtain⟨c,B1,B2,g1,g2,g3,rfl⟩:=H
  obtain⟨k1,B',k2,k3⟩:=ih hl g3 (fun b hb=>hB b (by simp[hb]))
  refine⟨by simp[k1],B1++B',?_,fun b hb=>?_⟩
  · simp only[RelL]
    exact⟨c,B1,B',g1,hs' _ _ _ _ (aWl _ _ _ (fun l hl'=>by rw[hlb]at hl';cases hl') (fun _ _=>rfl) g2),k2,rfl⟩
  · rcases aTj.1 hb with hb | hb
    · exact .inl (hB b (by simp[hb]))
    · exact k3 b hb
 | @ref l s n cells cells' dp ps qs ls e2 e4 _ ih =>
  intro cs i B H hB
  simp only[RelL]at H
  obtain⟨c,B1,B2,g1,g2,g3,rfl⟩:=H
  obtain⟨k1,B',k2,k3⟩:=ih (fun l' hl'=>hl l' (by simp[hl'])) g3 (fun b hb=>hB b (by simp[hb]))
  refine⟨by simp[k1],?_⟩
  simp only[RelV]at g2
  obtain⟨Bo,o1,_,o3⟩:=hs.objs l ⟨cells,dp,false⟩ (by rw[hl l (by simp),<- bP];exact e2)
  rcases o3 with⟨o3,o4,o5⟩ | ⟨b,ds,t,o3,o4,o5,o6⟩
  · obtain⟨hn,_,hc⟩:=g2.2.1 o3
    simp only at o4
    subst hn;subst o4
    refine⟨B',?_,fun b hb=>(k3 b hb).imp id fun⟨m,h1,h2⟩=>⟨m,by simp[h1],h2⟩⟩
    simp only[RelL]
    exact⟨c,[],B',g1,by simp only[RelV];exact .inl ⟨trivial,e4.empty,trivial,_,_,hc⟩,k2,rfl⟩
  · obtain⟨cap,cs',t',hc,hh,_,hcap⟩:=g2.2.2 b o3
    rw[o5]at hh;cases hh
    refine⟨(b::Bo)++B',?_,fun b' hb'=>?_⟩
    · simp only[RelL]
      refine⟨c,b::Bo,B',g1,?_,k2,rfl⟩
      simp only[RelV]
      exact .inr ⟨b,0,cap,ds,t,(0,0),Bo,⟨by simpa using hc,hcap⟩,o5,e4.2 _ _ _ _ _ _ (by simpa using o6),rfl⟩
    · rcases aTj.1 hb' with hb' | hb'
      · rcases aTf.1 hb' with rfl | hb'
        · exact .inr ⟨l,by simp,o4⟩
        · exact .inl (o1 b' hb')
      · exact(k3 b' hb').imp id fun⟨m,h1,h2⟩=>⟨m,by simp[h1],h2⟩
theorem aAj {F:Env}{ow:Nat->Own}{β:Nat->Option (Option Nat)}{a:Act}{w:World}(hs:SimG Γ ow β F a w):∀ {xs:List Operand} {ps:List PV} {ls:List Nat},ArgsV S O xs ps ls->(∀ k∈pE xs,lk F.s k=lk S k)->(∀ l∈ls,lo F.o l=lo O l)->
 RelArgs w.heap (fun b=>Im Γ ow w b\/∃ l∈ls,ow b=.lab l) ps (xs.map a.eval)
 | [],_,_,.nil,_,_=>trivial
 | x::xs,_,_,@ArgsV.cons _ _ _ p l m _ ps hx hxs,h1,h2=>by
  have hk1:∀ k∈ors x,lk F.s k=lk S k:=fun k hk=>h1 k (by cases x <;> simp[ors,pE]at hk ⊢;exact .inl hk)
  have hk2:∀ k∈pE xs,lk F.s k=lk S k:=fun k hk=>h1 k (by cases x <;> simp[pE,hk])
  have ih:=aAj hs hxs hk2 (fun l' hl=>h2 l' (by simp[hl]))
  have mono:∀ {ok ok':Nat->Prop} (ps:List PV) (cs:List Value),(∀ b,ok b->ok' b)->RelArgs w.heap ok ps cs->RelArgs w.heap ok' ps cs:=by
   intro ok ok' ps
   induction ps with
   | nil=>intro cs _ H;cases cs with
    | nil=>trivial
    | cons=>exact H.elim
   | cons p ps ih =>
    intro cs hm H
    cases cs with
    | nil=>exact H.elim
    | cons c cs=>obtain⟨⟨B,e1,e2⟩,e3⟩:=H;exact⟨⟨B,e1,fun b hb=>hm b (e2 b hb)⟩,ih cs hm e3⟩
  refine⟨?_,mono _ _ (fun b hb=>hb.imp id fun⟨l',hl,e⟩=>⟨l',by simp[hl],e⟩) ih⟩
  cases hx with
  | val e1 e2 =>
   obtain⟨B,g1,g2⟩:=dG hs e1 hk1
   exact⟨B,aWl _ _ _ (fun l' hl=>by rw[e2]at hl;cases hl) (fun _ _=>rfl) g1,fun b hb=>.inl (g2 b hb)⟩
  | nil e1 =>
   obtain⟨B,g1,g2⟩:=dG hs e1 hk1
   simp only[RelV]at g1
   exact⟨[],by simp only[RelV];exact .inl ⟨trivial,trivial,trivial,_,_,g1.1⟩,by simp⟩
  | valS e1 e2 e3 =>
   obtain⟨B,g1,g2⟩:=dG hs e1 hk1
   exact⟨B,e3 _ _ _ _ (aWl _ _ _ (fun l' hl=>by rw[e2]at hl;cases hl) (fun _ _=>rfl) g1),fun b hb=>.inl (g2 b hb)⟩
  | aggR e1 e2 =>
   obtain⟨B,g1,g2⟩:=dG hs e1 hk1
   simp only[RelV]at g1
   obtain⟨cs,h1',h2',h3'⟩:=g1
   obtain⟨k1,B',k2,k3⟩:=e2.rel hs (fun l' hl=>h2 l' (by simp[hl])) h3' g2
   refine⟨B',?_,fun b hb=>(k3 b hb).imp id fun⟨m,q1,q2⟩=>⟨m,by simp[q1],q2⟩⟩
   simp only[RelV]
   exact⟨cs,h1',by rw[h2',k1],k2⟩
  | @refS l s n cells cells' dp e1 e2 e4 =>
   obtain⟨B,g1,g2⟩:=dG hs e1 hk1
   simp only[RelV]at g1
   obtain⟨Bo,o1,_,o3⟩:=hs.objs l ⟨cells,dp,false⟩ (by rw[h2 l (by simp),<- bP];exact e2)
   rcases o3 with⟨o3,o4,o5⟩ | ⟨b,cs,t,o3,o4,o5,o6⟩
   · obtain⟨hn,_,hc⟩:=g1.2.1 o3
     simp only at o4
     subst hn;subst o4
     exact⟨[],by simp only[RelV];exact .inl ⟨trivial,e4.empty,trivial,_,_,hc⟩,by simp⟩
   · obtain⟨cap,cs',t',hc,hh,_,hcap⟩:=g1.2.2 b o3
     rw[o5]at hh;cases hh
     refine⟨b::Bo,?_,fun b' hb'=>?_⟩
     · simp only[RelV]
       exact .inr ⟨b,0,cap,cs,t,(0,0),Bo,⟨by simpa using hc,hcap⟩,o5,e4.2 _ _ _ _ _ _ (by simpa using o6),rfl⟩
     · rcases aTf.1 hb' with rfl | hb'
       · exact .inr ⟨l,by simp,o4⟩
       · exact .inl (o1 b' hb')
  | @ref l s n cells dp e1 e2 e3 =>
   obtain⟨B,g1,g2⟩:=dG hs e1 hk1
   simp only[RelV]at g1
   obtain⟨Bo,o1,_,o3⟩:=hs.objs l ⟨cells,dp,false⟩ (by rw[h2 l (by simp),<- bP];exact e2)
   rcases o3 with⟨o3,o4,o5⟩ | ⟨b,cs,t,o3,o4,o5,o6⟩
   · obtain⟨hn,_,hc⟩:=g1.2.1 o3
     simp at o4
     subst hn;subst o4
     exact⟨[],by simp only[RelV];exact .inl ⟨trivial,trivial,trivial,_,_,hc⟩,by simp⟩
   · obtain⟨cap,cs',t',hc,hh,_,hcap⟩:=g1.2.2 b o3
     rw[o5]at hh;cases hh
     refine⟨b::Bo,?_,fun b' hb'=>?_⟩
     · simp only[RelV]
       exact .inr ⟨b,0,cap,cs,t,(0,0),Bo,⟨by simpa using hc,hcap⟩,o5,by simpa using o6,rfl⟩
     · rcases aTf.1 hb' with rfl | hb'
       · exact .inr ⟨l,by simp,o4⟩
       · exact .inl (o1 b' hb')
variable {d:Nat}{ty:TypeId}{pos:String}{af:Array Edge}{g:Option (Nat×Bool)}
def aMR:List Nat->Bool
 | []=>true
 | _=>false
theorem aGM {f:FuncId}[hfc:FnC P f]{xs:List Operand}{us:Array TypeId}{ps:List PV}{ls:List Nat}{r:PV}{deep:Bool}(ha:ArgsV S O xs ps ls)(hm:Meets P f ps r deep)(hc:(aMR ls||deep||flat r)=true)(hr:r.labs=[])(hd:Nat.blt d N=true) :
 Local Γ ⟨some d,.call ⟨.value (.func f),xs.toArray,us⟩,ty,pos,af,g⟩ ⟨S,O⟩ ⟨[(d,⟨r,deep⟩)],[]⟩ (pE xs) ls []:=by
 intro F hs hl _ a w ⟨ow,β,hsim⟩ Q
 have hargs:=aAj hsim ha hs hl
 unfold Oper.wp
 have hrun:(execOp a.eval ⟨some d,.call ⟨.value (.func f),xs.toArray,us⟩,ty,pos,af,g⟩).run P w=.ok (.enter f (xs.map a.eval).toArray) w:=by
  simp[execOp,resolve,Act.eval,Deferred.ofValue,invoke,hfc.run]
 rw[hrun]
 show Calls _ _ _ _ _
 refine(hm w (xs.map a.eval).toArray (fun b=>Im Γ ow w b\/∃ l∈ls,ow b=.lab l) (by simpa using hargs)).mono fun e w' ⟨c,B,he,hb,h1,h2,h3⟩=>?_
 subst he
 show Sim Γ _ _ _
 have hg:=hsim.grow hb
 have hB:∀ b∈B,b<w'.heap.size:=aWt _ _ _ h1
 have hfresh:∀ b,w.heap.size<=b->b<w'.heap.size->Im Γ ow w' b:=fun b hb1 hb2=>⟨hb2,.inr (.inl (.inl (aTr hsim.kept.size hb1))),fun l e=>by have:=(hsim.own b (by rw[e];simp)).1;omega⟩
 have hkeepV:RelV w'.heap β r c B:=aWl _ _ _ (fun l hl=>by rw[hr]at hl;cases hl) (fun _ _=>rfl) h1
 cases deep with
 | true =>
  obtain⟨n1,n2⟩:=h3 rfl
  exact⟨_,β,hg.putDeep ((aT _ _).1 hd) hkeepV (fun b hb=>hfresh b (n2 b hb).1 (hB b hb)) n1 (fun b hb=>⟨(n2 b hb).2,.inl (.inl (aTr hsim.kept.size (n2 b hb).1))⟩)
   (fun b hb=>by
    cases hx:ow b with
    | none=>exact .inl rfl
    | _=>have:=(hsim.own b (by rw[hx];simp)).1;have:=(n2 b hb).1;omega)⟩
 | false =>
  refine⟨ow,β,hg.put ((aT _ _).1 hd) hkeepV fun b hbB=>?_⟩
  simp only[aV1,aT2]at hc
  rcases hc with hc | hc
  · cases ls with
    | cons=>cases hc
    | nil =>
     rcases h2 b hbB with(h | ⟨l,hl,_⟩) | h
     · exact⟨aTp h.1 hb.size,h.2⟩
     · cases hl
     · exact hfresh b h (hB b hbB)
  · rw[aDq hc h1]at hbB;cases hbB
end
def aV8:=@ResL.cons
def aWi:=@RetIs.many
def aWr:=@ResL.nil
def aWv:=@Res1.sc
def aWx:=@ArgV.val
def aWK:=@Res1.nil
def aWM:=@RetIs.one
def aWR:=@ArgsV.cons
def aWY:=@RetIs.sc1
def aWZ:=@ArgsV.nil
/- The engine, part H: an environment is made weaker: what is no longer wanted is dropped, own blocks get other names. -/
open Go.RowKit (Below)
def rn:List (Nat×Nat)->Nat->Nat
 | [],l=>l
 | (a,b)::r,l=>bif Nat.beq a l then b else rn r l
mutual
def xI (ρ:List (Nat×Nat)):PV->PV
 | .ref l s off n=>.ref (rn ρ l) s off n
 | .ptr l k=>.ptr (rn ρ l) k
 | .agg cells=>.agg (aBk ρ cells)
 | .tup vs=>.tup (aBk ρ vs)
 | .was v p=>.was v (xI ρ p)
 | p=>p
def aBk (ρ:List (Nat×Nat)):List PV->List PV
 | []=>[]
 | p::ps=>xI ρ p::aBk ρ ps
end
def aPV:List (Nat×Nat)->PV->PV
 | [],p=>p
 | x::r,p=>xI (x::r) p
def aMK:List (Nat×Nat)->List PV->List PV
 | [],ps=>ps
 | x::r,ps=>aBk (x::r) ps
def EntS (ρ:List (Nat×Nat))(S:List (Nat×Slot)):List (Nat×Slot)->Prop
 | []=>True
 | (k,sl)::r=>(∃ dp,lkq S k=some ⟨aPV ρ sl.v,dp⟩/\(sl.deep=true->dp=true))/\EntS ρ S r
def EntO (ρ:List (Nat×Nat))(O:List (Nat×Option Ob)):List (Nat×Option Ob)->Prop
 | []=>True
 | (_,none)::r=>EntO ρ O r
 | (l,some ob)::r=>(∃ dp,loq O (rn ρ l)=some ⟨if ob.box then aMK ρ ob.cells else ob.cells,dp,ob.box⟩/\(ob.deep=true->dp=true))/\EntO ρ O r
def yZ:List (Nat×Option Ob)->List Nat
 | []=>[]
 | (l,_)::r=>l::yZ r
def aBA (ρ:List (Nat×Nat)):List Nat->Bool
 | []=>true
 | l::r=>!(uE (r.map (rn ρ)) (rn ρ l))&&aBA ρ r
theorem EntS.get {ρ:List (Nat×Nat)}{S:List (Nat×Slot)}:∀ {S':List (Nat×Slot)},EntS ρ S S'->∀ k,lkq S' k=none\/∃ sl dp,lkq S' k=some sl/\lk S k=⟨aPV ρ sl.v,dp⟩/\(sl.deep=true->dp=true)
 | [],_,k=>.inl rfl
 | (j,sl)::r,h,k=>by
  obtain⟨⟨dp,h1,h2⟩,h3⟩:=h
  by_cases hj:j=k
  · subst hj;exact .inr ⟨sl,dp,by simp[lkq],fM h1,h2⟩
  · have e:lkq ((j,sl)::r) k=lkq r k:=by simp[lkq,kR,hj]
    rw[e];exact EntS.get h3 k
theorem aJF {s:List (Nat×Slot)}{k:Nat}(h:lkq s k=none):lk s k=⟨.any,false⟩:=by
 induction s with
 | nil=>rfl
 | cons x r ih =>
  obtain⟨j,u⟩:=x
  simp only[lkq,kR]at h
  rw[dO]
  by_cases hj:j=k
  · simp[hj]at h
  · rw[aTc hj];simp[hj]at h;exact ih h
theorem EntO.get {ρ:List (Nat×Nat)}{O:List (Nat×Option Ob)}:∀ {O':List (Nat×Option Ob)},EntO ρ O O'->∀ l ob,lo O' l=some ob->l∈yZ O'/\∃ dp,lo O (rn ρ l)=some ⟨if ob.box then aMK ρ ob.cells else ob.cells,dp,ob.box⟩/\(ob.deep=true->dp=true)
 | [],_,l,ob,hl=>by simp[lo]at hl
 | (j,none)::r,h,l,ob,hl=>by
  rw[aI]at hl
  by_cases hj:j=l
  · rw[aTd hj]at hl;cases hl
  · rw[aTc hj]at hl
    obtain⟨h1,h2⟩:=EntO.get (O':=r) h l ob hl
    exact⟨by simp[yZ,h1],h2⟩
 | (j,some o)::r,h,l,ob,hl=>by
  rw[aI]at hl
  obtain⟨⟨dp,h1,h2⟩,h3⟩:=h
  by_cases hj:j=l
  · subst hj;rw[aTd rfl]at hl;cases hl
    exact⟨by simp[yZ],dp,by rw[<- bP];exact h1,h2⟩
  · rw[aTc hj]at hl
    obtain⟨g1,g2⟩:=EntO.get h3 l ob hl
    exact⟨by simp[yZ,g1],g2⟩
theorem aDZ {ρ:List (Nat×Nat)}:∀ {ls:List Nat},aBA ρ ls=true->∀ a∈ls,∀ b∈ls,rn ρ a=rn ρ b->a=b
 | [],_,a,ha=>by cases ha
 | l::r,h,a,ha=>by
  intro b hb e
  simp only[aBA,aTB,aVu]at h
  have hn:∀ x∈r,rn ρ x≠rn ρ l:=by
   intro x hx ex
   have:uE (r.map (rn ρ)) (rn ρ l)=true:=(lJ _ _).2 (aTu.2 ⟨x,hx,ex⟩)
   rw[this]at h;cases h.1
  rcases aTf.1 ha with ha' | ha' <;> rcases aTf.1 hb with hb' | hb'
  · rw[ha',hb']
  · subst ha';exact absurd e.symm (hn b hb')
  · subst hb';exact absurd e (hn a ha')
  · exact aDZ h.2 a ha' b hb' e
section
variable {P:Program}{N:Nat}{Γ:Ctx P N}
theorem aNT {ρ:List (Nat×Nat)}{ps:List PV}(h:aMK ρ ps=[]):ps=[]:=by
 cases ρ with
 | nil=>exact h
 | cons x r=>cases ps with
  | nil=>rfl
  | cons p q=>simp[aMK,aBk]at h
mutual
theorem uO {h:Array Obj}{β β':Nat->Option (Option Nat)}{ρ:List (Nat×Nat)}(hb:∀ l o,β' l=some o->β (rn ρ l)=some o):∀ (p:PV) {c:Value} {B:List Nat},RelV h β (xI ρ p) c B->RelV h β' p c B
 | .ref l s off n,c,B,H=>by
  simp only[xI,RelV]at H ⊢
  exact⟨H.1,fun e=>H.2.1 (hb _ _ e),fun b e=>H.2.2 b (hb _ _ e)⟩
 | .ptr l k,c,B,H=>by
  simp only[xI,RelV]at H ⊢
  exact⟨H.1,fun b e=>H.2 b (hb _ _ e)⟩
 | .sc _,_,_,H=>by simpa only[xI,RelV]using H
 | .sl _ _,_,_,H=>by simpa only[xI,RelV]using H
 | .iptr _,_,_,H=>by simpa only[xI,RelV]using H
 | .rw _ _ _,_,_,H=>by simpa only[xI,RelV]using H
 | .agg cells,_,_,H=>by
  simp only[xI,RelV]at H ⊢
  obtain⟨cs,h1,h2,h3⟩:=H
  exact⟨cs,h1,by rw[h2];exact aFs cells,aBR hb cells h3⟩
 | .tup vs,_,_,H=>by
  simp only[xI,RelV]at H ⊢
  obtain⟨cs,h1,h2,h3⟩:=H
  exact⟨cs,h1,by rw[h2];exact aFs vs,aBR hb vs h3⟩
 | .any,_,_,H=>by simpa only[xI,RelV]using H
 | .was v p,_,_,H=>by
  simp only[xI,RelV]at H ⊢
  exact⟨H.1,uO hb p H.2⟩
theorem aFs {ρ:List (Nat×Nat)}:∀ (ps:List PV),(aBk ρ ps).length=ps.length
 | []=>by simp[aBk]
 | p::ps=>by simp[aBk,aFs ps]
theorem aBR {h:Array Obj}{q:Bool}{β β':Nat->Option (Option Nat)}{ρ:List (Nat×Nat)}(hb:∀ l o,β' l=some o->β (rn ρ l)=some o):∀ (ps:List PV) {cs:Array Value} {i:Nat} {B:List Nat},RelL h q β (aBk ρ ps) cs i B->RelL h q β' ps cs i B
 | [],_,_,_,H=>by simpa only[aBk,RelL]using H
 | p::ps,cs,i,B,H=>by
  simp only[aBk,RelL]at H ⊢
  obtain⟨c,B1,B2,h1,h2,h3,rfl⟩:=H
  exact⟨c,B1,B2,h1,uO hb p h2,aBR hb ps h3,rfl⟩
end
theorem aNU {h:Array Obj}{β β':Nat->Option (Option Nat)}{ρ:List (Nat×Nat)}(hb:∀ l o,β' l=some o->β (rn ρ l)=some o){p:PV}{c:Value}{B:List Nat}(H:RelV h β (aPV ρ p) c B):RelV h β' p c B:=by
 cases ρ with
 | nil=>exact aWl p c B (fun l _ o ho=>⟨hb l o ho,fun b _ cs t hc=>⟨cs,hc,rfl⟩⟩) (fun _ _=>rfl) H
 | cons x r=>exact uO hb p H
theorem aNV {h:Array Obj}{q:Bool}{β β':Nat->Option (Option Nat)}{ρ:List (Nat×Nat)}(hb:∀ l o,β' l=some o->β (rn ρ l)=some o){ps:List PV}{cs:Array Value}{i:Nat}{B:List Nat}(H:RelL h q β (aMK ρ ps) cs i B):RelL h q β' ps cs i B:=by
 cases ρ with
 | nil=>exact aWk ps cs i B (fun _ _ l _ o ho=>⟨hb l o ho,fun b _ cs t hc=>⟨cs,hc,rfl⟩⟩) (fun _ _=>rfl) H
 | cons x r=>exact aBR hb ps H
theorem Ent.list {S S':List (Nat×Slot)}{O O':List (Nat×Option Ob)}(ρ:List (Nat×Nat))(hio:∀ l,Γ.io (rn ρ l)=Γ.io l/\(Γ.io l≠none->rn ρ l=l))(hi:aBA ρ (yZ O')=true)(hS:EntS ρ S S')(hO:EntO ρ O O'):Ent Γ ⟨S,O⟩ ⟨S',O'⟩:=by
 rintro a w ⟨ow,β,h⟩
 have hinj:=aDZ hi
 have hex:∀ l:Nat,∃ o:Option Nat,(∀ l',o=some l'->l'∈yZ O'/\rn ρ l'=l)/\(o=none->∀ l'∈yZ O',rn ρ l'≠l):=by
  intro l
  by_cases hx:∃ l'∈yZ O',rn ρ l'=l
  · obtain⟨l',h1,h2⟩:=hx
    exact⟨some l',fun x e=>(by cases e;exact⟨h1,h2⟩),fun e=>(by cases e)⟩
  · exact⟨none,fun x e=>(by cases e),fun _ l' h1 h2=>hx ⟨l',h1,h2⟩⟩
 obtain⟨f,hf⟩:=Classical.axiomOfChoice hex
 have hfk:∀ l'∈yZ O',f (rn ρ l')=some l':=by
  intro l' hl'
  cases hx:f (rn ρ l')with
  | none=>exact absurd rfl ((hf (rn ρ l')).2 hx l' hl')
  | some x =>
   obtain⟨h1,h2⟩:=(hf (rn ρ l')).1 x hx
   rw[hinj x h1 l' hl' h2]
 let ow':Nat->Own:=fun b=>match ow b with
  | .none=>.none
  | .slot k=>.slot k
  | .obj l=>match f l with
   | some l'=>.obj l'
   | none=>.none
  | .lab l=>match f l with
   | some l'=>.lab l'
   | none=>.none
 let β':Nat->Option (Option Nat):=fun l=>if(lo O' l).isSome=true then β (rn ρ l)else none
 have hβ':∀ l o,β' l=some o->β (rn ρ l)=some o:=by
  intro l o e
  have e':(if(lo O' l).isSome=true then β (rn ρ l)else none)=some o:=e
  by_cases hx:(lo O' l).isSome=true
  · rw[aTd hx]at e';exact e'
  · rw[aTc hx]at e';cases e'
 have hIm:∀ b,Im Γ ow w b->Im Γ ow' w b:=by
  rintro b ⟨h1,h2,h3⟩
  refine⟨h1,h2,fun l=>?_⟩
  show(match ow b with | .none=>_ | .slot k=>_ | .obj l=>_ | .lab l=>_)≠_
  cases hb:ow b with
  | none=>simp
  | slot k=>simp
  | obj m=>simp only;cases f m <;> simp
  | lab m=>exact absurd hb (h3 m)
 refine⟨ow',β',{ size:=h.size,defers:=h.defers,kept:=h.kept,slots:=fun k=>?_,objs:=fun l ob hl=>?_,gone:=fun l hl=>?_,own:=fun b hb=>?_,ios:=fun l b hl hs=>?_,fresh:=fun l b hl hi=>?_ }⟩
 · rcases hS.get k with hk | ⟨sl,dp,hk,h1,h2⟩
   · rw[aJF hk];exact⟨[],by simp[RelV],by simp,by simp⟩
   · rw[fM hk]
     obtain⟨B,g1,g2,g3⟩:=h.slots k
     simp only[h1]at g1 g3
     refine⟨B,aNU hβ' g1,fun b hb=>hIm b (g2 b hb),fun hd=>⟨(g3 (h2 hd)).1,fun b hb=>⟨?_,((g3 (h2 hd)).2 b hb).2⟩⟩⟩
     have e:=((g3 (h2 hd)).2 b hb).1
     show(match ow b with | .none=>_ | .slot k=>_ | .obj l=>_ | .lab l=>_)=_
     rw[e]
 · obtain⟨h1,dp,h2,h3⟩:=hO.get l ob hl
   obtain⟨B,g1,g2,g3⟩:=h.objs (rn ρ l) _ h2
   have eβ:β' l=β (rn ρ l):=by show(if _ then _ else _)=_;rw[aTd (by rw[hl];rfl)]
   refine⟨B,fun b hb=>hIm b (g1 b hb),fun hd=>⟨(g2 (h3 hd)).1,fun b hb=>⟨?_,((g2 (h3 hd)).2 b hb).2⟩⟩,?_⟩
   · have e:=((g2 (h3 hd)).2 b hb).1
     show(match ow b with | .none=>_ | .slot k=>_ | .obj l=>_ | .lab l=>_)=_
     rw[e];simp only[hfk l h1]
   · rcases g3 with⟨e1,e2,e3⟩ | ⟨b,cs,t,e1,e2,e3,e4⟩
     · refine .inl ⟨eβ.trans e1,?_,e3⟩
       simp only at e2
       cases hbx:ob.box with
       | false=>rw[hbx]at e2;simpa using e2
       | true=>rw[hbx]at e2;exact aNT (by simpa using e2)
     · refine .inr ⟨b,cs,t,eβ.trans e1,?_,e3,?_⟩
       · show(match ow b with | .none=>_ | .slot k=>_ | .obj l=>_ | .lab l=>_)=_
         rw[e2];simp only[hfk l h1]
       · simp only at e4
         cases hbx:ob.box with
         | false=>rw[hbx]at e4;simpa using e4
         | true=>rw[hbx]at e4;simp only[aTz]at e4 ⊢;exact aNV hβ' e4
 · show(if _ then _ else _)=_
   rw[aTc (by rw[hl];simp)]
 · have hb':ow b≠.none:=by
    intro e
    apply hb
    show(match ow b with | .none=>_ | .slot k=>_ | .obj l=>_ | .lab l=>_)=_
    rw[e]
   obtain⟨g1,g2⟩:=h.own b hb'
   refine⟨g1,?_⟩
   rcases g2 with g2 | ⟨l,g3,g4⟩
   · exact .inl g2
   · refine .inr ⟨l,?_,g4⟩
     have hb2:(match f l with | some l'=>Own.lab l' | none=>Own.none)≠.none:=by
      have:ow' b=(match f l with | some l'=>Own.lab l' | none=>Own.none):=by
       show(match ow b with | .none=>_ | .slot k=>_ | .obj l=>_ | .lab l=>_)=_
       rw[g3]
      rw[<- this];exact hb
     show(match ow b with | .none=>_ | .slot k=>_ | .obj l=>_ | .lab l=>_)=_
     rw[g3]
     simp only
     cases hx:f l with
     | none=>rw[hx]at hb2;simp at hb2
     | some l' =>
      obtain⟨e1,e2⟩:=(hf l).1 l' hx
      have:Γ.io l'≠none:=by rw[<- (hio l').1,e2,g4];simp
      have e3:=(hio l').2 this
      rw[e3]at e2;rw[e2]
 · have e1:=(hio l).2 (by rw[hl];simp)
   show(if _ then _ else _)=_
   rw[aTd hs,e1]
   cases hx:lo O' l with
   | none=>simp only at hs;rw[hx]at hs;cases hs
   | some ob =>
    obtain⟨_,dp,h2,_⟩:=hO.get l ob hx
    rw[e1]at h2
    exact h.ios l b hl (by rw[h2];rfl)
 · exact h.fresh (rn ρ l) b (hβ' l _ hl) (by rw[(hio l).1];exact hi)
theorem Ent.refl (E:Env):Ent Γ E E:=fun _ _ h=>h
theorem Ent.trans {E1 E2 E3:Env}(h1:Ent Γ E1 E2)(h2:Ent Γ E2 E3):Ent Γ E1 E3:=fun a w h=>h2 a w (h1 a w h)
def Cut (Γ:Ctx P N)(Em:Env)(Q:Exit->Env->Prop):Exit->Env->Prop
 | .normal,E=>Ent Γ E Em
 | x,E=>Q x E
theorem CodeT.cut {x y:Code}{E:Env}{Q:Exit->Env->Prop}(Em:Env)(h:CodeT Γ x E (Cut Γ Em Q))(h2:CodeT Γ y Em Q):CodeT Γ (.seq x y) E Q:=by
 refine CodeT.seq (CodeT.mono h fun e E' hq=>?_)
 cases e with
 | normal=>exact aWf hq h2
 | _=>exact hq
section aAL
variable {K:Env->Prop}{Q:Exit->Env->Prop}{E Em:Env}{i j n:Nat}{I:Nat->Env->Prop}{rs:Array ResultVar}{r:PV}{deep:Bool}
theorem x1 (h:Q .ret E):vC K Q .ret E:=h
theorem x2 (h:Q (.exit i) E):vC K Q (.exit i) E:=h
theorem x3 (h:K E):vC K Q .normal E:=h
theorem x4 (h:Q .ret E):lS i Q .ret E:=h
theorem x5 (h:Q .normal E):lS i Q .normal E:=h
theorem x6 (h:Nat.beq j i=true)(h':Q .normal E):lS i Q (.exit j) E:=by simp only[lS,h];exact h'
theorem x7 (h:Nat.beq j i=false)(h':Q (.exit j) E):lS i Q (.exit j) E:=by simp only[lS,h];exact h'
theorem x9 (h:Q (.exit i) E):aCx Γ I n Q (.exit i) E:=h
theorem x12 (h:RetIs Γ rs E r deep):aAL Γ rs r deep .ret E:=h
theorem x13 (h:RetIs Γ rs E r deep):aAL Γ rs r deep .normal E:=h
theorem x14 (m:Nat)(E':Env)(h:m<n)(he:Ent Γ E E')(h':I m E'):aCx Γ I n Q .normal E:=⟨m,E',h,he,h'⟩
end aAL
end
def aWw:=@Ent.trans
/- The engine, part I: reading memory. -/
open Go.RowKit (Below)
section
variable {P:Program}{N:Nat}{Γ:Ctx P N}{S:List (Nat×Slot)}{O:List (Nat×Option Ob)}
variable {d:Nat}{ty:TypeId}{pos:String}{af:Array Edge}{g:Option (Nat×Bool)}
theorem aEc {t f off:Nat}[hf:FldT P t f off](w:World)(b k:Nat):(Instr.fieldAt t (.pointer (some ⟨b,k,none⟩)) f).run P w=.ok (.pointer (some ⟨b,k+off,none⟩)) w:=by
 obtain⟨fs,fd,i,h1,h2,h3,h4,h5⟩:=hf.ok
 subst h3
 simp[Instr.fieldAt,run_underlying h1,h2,Instr.sureAddr,fieldPlace,sizeOf,typeInfo,h4,h5,Addr.add_lit]
theorem aSa {x:Operand}{t f off:Nat}{cells:List PV}[hf:FldT P t f off](hx:evq S x=some (.iptr cells))(hd:Nat.blt d N=true) :
 Local Γ ⟨some d,.fieldAddr t x f,ty,pos,af,g⟩ ⟨S,O⟩ ⟨[(d,⟨.iptr (cells.drop off),false⟩)],[]⟩ (ors x) [] []:=by
 intro F hs _ _
 refine bK fun a w ⟨ow,β,hsim⟩=>?_
 obtain⟨B,h1,h2⟩:=dG hsim hx hs
 simp only[RelV]at h1
 obtain⟨b,o,cs,u,fr,B',e1,e2,e3,rfl⟩:=h1
 refine⟨.pointer (some ⟨b,o+off,none⟩),w,by simp[execOp,e1,aEc],ow,β,?_⟩
 by_cases hl:off<=cells.length
 · obtain⟨B2,g1,B1,g2⟩:=e3.drop off hl
   exact hsim.put ((aT _ _).1 hd) (O:=b::B2) (by simp only[RelV];exact⟨b,_,cs,u,fr,B2,rfl,e2,g1,rfl⟩) (fun c hc=>by
    rcases aTf.1 hc with rfl | hc
    · exact h2 _ (by simp)
    · exact h2 _ (by rw[g2];simp[hc]))
 · have:cells.drop off=[]:=by rw[List.drop_eq_nil_iff];omega
   rw[this]
   exact hsim.put ((aT _ _).1 hd) (O:=[b]) (by simp only[RelV];exact⟨b,_,cs,u,fr,[],rfl,e2,by simp[RelL],rfl⟩) (fun c hc=>by
    simp at hc;subst hc;exact h2 _ (by simp))
theorem aR9 {x:Operand}{t f off l k:Nat}{ob:Ob}[hf:FldT P t f off](hx:evq S x=some (.ptr l k))(ho:loq O l=some ob)(hne:Nat.blt 0 ob.cells.length=true)(hd:Nat.blt d N=true) :
 Local Γ ⟨some d,.fieldAddr t x f,ty,pos,af,g⟩ ⟨S,O⟩ ⟨[(d,⟨.ptr l (k+off),false⟩)],[]⟩ (ors x) [l] []:=by
 intro F hs hl _
 refine bK fun a w ⟨ow,β,hsim⟩=>?_
 obtain⟨B,h1,h2⟩:=dG hsim hx hs
 simp only[RelV]at h1
 obtain⟨_,_,_,hob⟩:=hsim.objs l ob (by rw[hl l (by simp),<- bP];exact ho)
 rcases hob with⟨_,e,_⟩ | ⟨b,cs,u,e1,_⟩
 · rw[e]at hne;cases hne
 · refine⟨.pointer (some ⟨b,k+off,none⟩),w,by simp[execOp,h1.2 b e1,aEc],ow,β,?_⟩
   exact hsim.put ((aT _ _).1 hd) (O:=[]) (by simp only[RelV];exact⟨trivial,fun b' hb=>by rw[e1]at hb;cases hb;rfl⟩) (by simp)
theorem yO {t n by_:Nat}[ht:TI P t n true by_](w:World){b k:Nat}{cs:Array Value}{u:TypeId}{fr:Nat×Nat}(hb:w.heap[b]?=some (.cells cs u fr))(hk:k+n<=cs.size) :
 (Instr.loadAt t (.pointer (some ⟨b,k,none⟩))).run P w=.ok (.agg (cs.extract k (k+n))) w:=by
 obtain⟨⟨i,h1,h2,_⟩,dd,h3,h4⟩:=ht.ok
 have hagg:(isAgg t).run P w=.ok true w:=by
  unfold isAgg
  rw[Sem.run_bind,run_underlying h3 w]
  cases dd <;> simp_all
 have hlen:(cs.extract k (k+n)).toList.length=n:=by simp;omega
 have hl:(loadCells ⟨b,k,none⟩ (cs.extract k (k+n)).toList.length).run P w=.ok (cs.extract k (k+n)).toList.toArray w :=
  run_loadCells_list (P:=P) w ⟨b,k,none⟩ _ (fun j v hv=>by
   rw[Addr.add_lit,cell_of_row w b (k+j) cs u fr hb]
   have hj:j<n:=by
    have:=(aTH.1 hv).1
    omega
   simp only[Array.toList_extract,List.extract_eq_take_drop]at hv
   rw[aUp,aUg]at hv
   simp at hv
   rw[<- hv.2])
 rw[hlen]at hl
 simp only[Array.toArray_toList]at hl
 simp[Instr.loadAt,Instr.sureAddr,loadVar,hagg,sizeOf,typeInfo,h1,h2,hl]
theorem aCY {t n by_:Nat}[ht:TI P t n false by_](w:World){b k:Nat}{cs:Array Value}{u:TypeId}{fr:Nat×Nat}{c:Value}(hb:w.heap[b]?=some (.cells cs u fr))(hk:cs[k]?=some c) :
 (Instr.loadAt t (.pointer (some ⟨b,k,none⟩))).run P w=.ok c w:=by
 obtain⟨⟨i,h1,h2,_⟩,dd,h3,h4⟩:=ht.ok
 have hagg:(isAgg t).run P w=.ok false w:=by
  unfold isAgg
  rw[Sem.run_bind,run_underlying h3 w]
  cases dd <;> simp_all
 simp[Instr.loadAt,Instr.sureAddr,loadVar,hagg,run_load,cell_of_row w b k cs u fr hb,hk]
theorem vZ {h:Array Obj}{q:Bool}{β:Nat->Option (Option Nat)}{ps:List PV}{cs:Array Value}{k n:Nat}{B:List Nat}(hn:ps.length=n)(H:RelL h q β ps cs k B):RelL h q β ps (cs.extract k (k+n)) 0 B :=
 aWJ _ _ _ _ _ _ (fun j hj=>by
  rw[aTC,Array.getElem?_extract]
  simp;omega) H
theorem RelV.nolab {h:Array Obj}{β β':Nat->Option (Option Nat)}{p:PV}{c:Value}{B:List Nat}(hl:p.labs=[])(H:RelV h β p c B):RelV h β' p c B :=
 aWl _ _ _ (fun l hl'=>by rw[hl]at hl';cases hl') (fun _ _=>rfl) H
theorem aQ5 {x:Operand}{t n by_:Nat}{cells:List PV}{c:PV}[ht:TI P t n false by_](hx:evq S x=some (.iptr cells))(hc:cells[0]?=some c)(hl:c.labs=[])(hd:Nat.blt d N=true) :
 Local Γ ⟨some d,.load t x,ty,pos,af,g⟩ ⟨S,O⟩ ⟨[(d,⟨c,false⟩)],[]⟩ (ors x) [] []:=by
 intro F hs _ _
 refine bK fun a w ⟨ow,β,hsim⟩=>?_
 obtain⟨B,h1,h2⟩:=dG hsim hx hs
 simp only[RelV]at h1
 obtain⟨b,o,cs,u,fr,B',e1,e2,e3,rfl⟩:=h1
 obtain⟨v,B1,g1,_,g3,g4⟩:=RelL.get _ _ _ _ e3 0 c hc
 rw[aTX]at g1
 refine⟨v,w,by simp[execOp,e1,aCY (t:=t) w e2 g1],ow,β,?_⟩
 exact hsim.put ((aT _ _).1 hd) (O:=B1) (g3.nolab hl) (fun b' hb=>h2 _ (by simp[g4 b' hb]))
theorem aFf {n:Nat}{cells:List PV}(h:Nat.beq cells.length n=true):cells.take n=cells:=by
 rw[<- aTN h];exact aUz
theorem bM {n:Nat}{cells:List PV}(h:Nat.beq cells.length n=true):(cells.drop 0).take n=cells:=by
 rw[aTZ];exact aFf h
theorem sE {h:Array Obj}{q:Bool}{β β':Nat->Option (Option Nat)}{ps:List PV}{cs:Array Value}{i:Nat}{B:List Nat}(hl:∀ p∈ps,p.labs=[])(H:RelL h q β ps cs i B):RelL h q β' ps cs i B :=
 aWk _ _ _ _ (fun p hp l hl'=>by rw[hl p hp]at hl';cases hl') (fun _ _=>rfl) H
def gD:List PV->Bool
 | []=>true
 | p::r=>(match p.labs with | []=>true | _=>false)&&gD r
theorem kE:∀ {ps:List PV},gD ps=true->∀ p∈ps,p.labs=[]
 | [],_,p,hp=>by cases hp
 | x::r,h,p,hp=>by
  simp only[gD,aTB]at h
  rcases aTf.1 hp with rfl | hp
  · cases hx:p.labs with
    | nil=>rfl
    | cons l r=>rw[hx]at h;simp at h
  · exact kE h.2 p hp
theorem aIx {ps:List PV}(h:gD ps=true):aAg ps=[]:=by
 rw[aU7]
 intro l hl
 obtain⟨p,hp,hl⟩:=xA.1 hl
 rw[kE h p hp]at hl;cases hl
theorem aR6 {x:Operand}{t n by_:Nat}{cells vs:List PV}[ht:TI P t n true by_](hx:evq S x=some (.iptr cells))(hc:cells.take n=vs)(hn:Nat.beq vs.length n=true)(hn0:n≠0)(hl:gD vs=true)(hd:Nat.blt d N=true) :
 Local Γ ⟨some d,.load t x,ty,pos,af,g⟩ ⟨S,O⟩ ⟨[(d,⟨.agg vs,false⟩)],[]⟩ (ors x) [] []:=by
 intro F hs _ _
 refine bK fun a w ⟨ow,β,hsim⟩=>?_
 obtain⟨B,h1,h2⟩:=dG hsim hx hs
 simp only[RelV]at h1
 obtain⟨b,o,cs,u,fr,B',e1,e2,e3,rfl⟩:=h1
 have hn:=aTN hn
 obtain⟨B1,g1,B2,g2⟩:=e3.take n
 rw[hc]at g1
 have hlen:o+vs.length<=cs.size:=by
  rcases aUn cs.size o with hlt | hge
  · cases vs with
    | nil=>exact absurd hn.symm hn0
    | cons p r =>
     simp only[RelL]at g1
     obtain⟨c,_,_,q1,_⟩:=g1
     have:=(aUx.1 q1.1).1
     omega
  · exact aWX _ _ _ _ hge g1
 refine⟨.agg (cs.extract o (o+n)),w,by simp[execOp,e1,yO (t:=t) w e2 (show o+n<=cs.size by omega)],ow,β,?_⟩
 refine hsim.put ((aT _ _).1 hd) (O:=B1) ?_ (fun b' hb=>h2 _ (by rw[g2];simp[hb]))
 simp only[RelV]
 exact⟨_,rfl,by simp;omega,sE (kE hl) (vZ hn g1)⟩
theorem aGL {x:Operand}{t n by_ l k:Nat}{cells:List PV}{dp bx:Bool}{c:PV}[ht:TI P t n false by_](hx:evq S x=some (.ptr l k))(ho:loq O l=some ⟨cells,dp,bx⟩)(hc:cells[k]?=some c)(hl:bx=true\/c.labs=[])(hd:Nat.blt d N=true) :
 Local Γ ⟨some d,.load t x,ty,pos,af,g⟩ ⟨S,O⟩ ⟨[(d,⟨c,false⟩)],[]⟩ (ors x) [l] []:=by
 intro F hs hlo _
 refine bK fun a w ⟨ow,β,hsim⟩=>?_
 obtain⟨B,h1,h2⟩:=dG hsim hx hs
 simp only[RelV]at h1
 obtain⟨Bo,o1,o2,hob⟩:=hsim.objs l _ (by rw[hlo l (by simp),<- bP];exact ho)
 rcases hob with⟨_,e,_⟩ | ⟨b,cs,u,e1,e2,e3,e4⟩
 · simp at e;rw[e]at hc;simp at hc
 · obtain⟨v,B1,g1,_,g3,g4⟩:=RelL.get _ _ _ _ e4 k c hc
   rw[aTC]at g1
   refine⟨v,w,by simp[execOp,h1.2 b e1,aCY (t:=t) w e3 g1],ow,β,?_⟩
   refine hsim.put ((aT _ _).1 hd) (O:=B1) ?_ (fun b' hb=>o1 _ (g4 b' hb))
   rcases hl with rfl | hl
   · exact g3
   · exact g3.nolab hl
theorem eB {x:Operand}{t n by_ l k:Nat}{cells vs:List PV}{dp bx:Bool}[ht:TI P t n true by_](hx:evq S x=some (.ptr l k))(ho:loq O l=some ⟨cells,dp,bx⟩)(hc:(cells.drop k).take n=vs)(hn:Nat.beq vs.length n=true)(hn0:n≠0)(hl:bx=true\/gD vs=true)(hd:Nat.blt d N=true) :
 Local Γ ⟨some d,.load t x,ty,pos,af,g⟩ ⟨S,O⟩ ⟨[(d,⟨.agg vs,false⟩)],[]⟩ (ors x) [l] []:=by
 intro F hs hlo _
 refine bK fun a w ⟨ow,β,hsim⟩=>?_
 obtain⟨B,h1,h2⟩:=dG hsim hx hs
 simp only[RelV]at h1
 have hn:=aTN hn
 obtain⟨Bo,o1,o2,hob⟩:=hsim.objs l _ (by rw[hlo l (by simp),<- bP];exact ho)
 rcases hob with⟨_,e,_⟩ | ⟨b,cs,u,e1,e2,e3,e4⟩
 · simp at e;rw[e]at hc;simp at hc;subst hc;simp at hn;exact absurd hn.symm hn0
 · have hk:k<=cells.length:=by
    rcases aUn cells.length k with h | h
    · rw[aTE (by omega)]at hc;simp at hc;subst hc;simp at hn;exact absurd hn.symm hn0
    · exact h
   obtain⟨B2,g1,B1,g2⟩:=e4.drop k hk
   obtain⟨B3,g3,B4,g4⟩:=g1.take n
   rw[hc,aTC]at g3
   have hlen:k+vs.length<=cs.size:=by
    cases vs with
    | nil=>simp at hn;exact absurd hn.symm hn0
    | cons p r =>
     have g3':=g3
     simp only[RelL]at g3'
     obtain⟨c,_,_,q1,_⟩:=g3'
     have:=(aUx.1 q1.1).1
     exact aWX _ _ _ _ (by omega) g3
   refine⟨.agg (cs.extract k (k+n)),w,by simp[execOp,h1.2 b e1,yO (t:=t) w e3 (show k+n<=cs.size by omega)],ow,β,?_⟩
   refine hsim.put ((aT _ _).1 hd) (O:=B3) ?_ (fun b' hb=>o1 _ (by rw[g2,g4];simp[hb]))
   simp only[RelV]
   refine⟨_,rfl,by simp;omega,vZ hn ?_⟩
   rcases hl with rfl | hl
   · exact g3
   · exact sE (kE hl) g3
theorem aEb {t e n by_:Nat}{agg:Bool}[ht:SlT P t e][hi:TI P e n agg by_](w:World){b off m cap i:Nat}{k:IntKind}(h:i<m) :
 (Instr.indexAt t (.slice (some ⟨b,off,none⟩) m cap) (.int k i)).run P w=.ok (.pointer (some ⟨b,off+i*n,none⟩)) w:=by
 obtain⟨⟨ii,h1,h2,_⟩,_⟩:=hi.ok
 simp[Instr.indexAt,asIntOf,run_underlying ht.ok,sizeOf,typeInfo,h1,h2,Addr.add_lit,h]
theorem aS {α:Type}{l:List α}{enc:α->List PV}{sz:Nat}(h:∀ y,(enc y).length=sz):(l.flatMap enc).length=l.length*sz:=by
 induction l with
 | nil=>simp
 | cons a r ih=>simp[h,ih,aUI];omega
theorem aCK {α:Type}{l:List α}{enc:α->List PV}{sz m:Nat}{y:α}(h:∀ y,(enc y).length=sz)(hl:l[m]?=some y):(l.flatMap enc).drop (m*sz)=enc y++(l.drop (m+1)).flatMap enc:=by
 induction l generalizing m with
 | nil=>simp at hl
 | cons a r ih =>
  cases m with
  | zero=>simp at hl;subst hl;simp
  | succ m =>
   simp at hl
   have:=ih hl
   simp only[aTO,aVX]
   rw[List.drop_append,h a,aTE (by rw[h a,aUI];omega),show(m+1)*sz-sz=m*sz by rw[aUI];omega]
   simpa using this
theorem aOS {α:Type}{l:List α}{enc:α->List PV}{sz m o:Nat}{y:α}{c:PV}(hl:l[m]?=some y)(ho:(enc y)[o]?=some c)(h:∀ y,(enc y).length=sz):(l.flatMap enc)[m*sz+o]?=some c:=by
 have:=aCK h hl
 rw[<- aUg,this,aUd (aTH.1 ho).1]
 exact ho
theorem aM5 {α:Type}{l:List α}{enc:α->List PV}{sz m:Nat}{y:α}{c:PV}(hl:l[m]?=some y)(ho:(enc y)[0]?=some c)(h:∀ y,(enc y).length=sz):(l.flatMap enc)[m*sz]?=some c:=aOS hl ho h
theorem aOQ {α:Type}{l:List α}{enc:α->List PV}{sz m:Nat}{y:α}(hl:l[m]?=some y)(h:∀ y,(enc y).length=sz):((l.flatMap enc).drop (m*sz)).take sz=enc y:=by
 rw[aCK h hl,List.take_append_of_le_length (by rw[h];exact aTn _),aT1 (by rw[h];exact aTn _)]
theorem aSO {α:Type}{x i:Operand}{t e n by_ m:Nat}{agg:Bool}{l:List α}{enc:α->List PV}{y:α}{k:IntKind}{j:Int}{len:Nat}[ht:SlT P t e][hi:TI P e n agg by_](hx:evq S x=some (.sl len (l.flatMap enc)))(hix:evq S i=some (.sc (.int k j)))(hj:j=(m:Nat))(hlen:len=l.length)
 (hl:l[m]?=some y) (hsz:∀ y,(enc y).length=n) (hd:Nat.blt d N=true) :
 Local Γ ⟨some d,.indexAddr t x i,ty,pos,af,g⟩ ⟨S,O⟩ ⟨[(d,⟨.iptr (enc y),false⟩)],[]⟩ (ors x++ors i) [] []:=by
 intro F hs _ _
 refine bK fun a w hsim=>?_
 have hiv:=zD hsim hix (fun k hk=>hs k (by simp[hk]))
 obtain⟨ow,β,hsim⟩:=hsim
 subst hj;subst hlen
 obtain⟨B,h1,h2⟩:=dG hsim hx (fun k hk=>hs k (by simp[hk]))
 have hm:=(aTH.1 hl).1
 simp only[RelV]at h1
 rcases h1 with⟨e,_⟩ | ⟨b,off,cap,cs,u,f,B',⟨e1,_⟩,e2,e3,rfl⟩
 · omega
 · obtain⟨B2,g1,B1,g2⟩:=e3.drop (m*n) (by rw[aS hsz];exact aUj _ (by omega))
   rw[aCK hsz hl]at g1
   obtain⟨B3,B4,g3,_,g4⟩:=(aWA _ _ _ _ _).1 g1
   refine⟨.pointer (some ⟨b,off+m*n,none⟩),w,by simp[execOp,e1,hiv,aEb (t:=t) (e:=e) w hm],ow,β,?_⟩
   refine hsim.put ((aT _ _).1 hd) (O:=b::B3) (by simp only[RelV];exact⟨b,_,cs,u,f,B3,rfl,e2,g3,rfl⟩) (fun c hc=>h2 c ?_)
   rcases aTf.1 hc with rfl | hc
   · simp
   · rw[g2,g4];simp[hc]
theorem aQ6 {x i:Operand}{t e sz n by_ m r:Nat}{agg:Bool}{k:IntKind}{j:Int}{ob:Ob}[ht:SlT P t e][hi:TI P e sz agg by_](hx:evq S x=some (.ref r sz 0 n))(ho:loq O r=some ob)(hix:evq S i=some (.sc (.int k j)))(hj:j=(m:Nat))(hm:m<n)(hd:Nat.blt d N=true) :
 Local Γ ⟨some d,.indexAddr t x i,ty,pos,af,g⟩ ⟨S,O⟩ ⟨[(d,⟨.ptr r (m*sz),false⟩)],[]⟩ (ors x++ors i) [r] []:=by
 intro F hs hlo _
 refine bK fun a w hsim=>?_
 have hiv:=zD hsim hix (fun k hk=>hs k (by simp[hk]))
 obtain⟨ow,β,hsim⟩:=hsim
 subst hj
 obtain⟨B,h1,h2⟩:=dG hsim hx (fun k hk=>hs k (by simp[hk]))
 simp only[RelV]at h1
 obtain⟨Bo,o1,o2,hob⟩:=hsim.objs r _ (by rw[hlo r (by simp),<- bP];exact ho)
 rcases hob with⟨e1,_⟩ | ⟨b,cs,u,e1,e2,e3,e4⟩
 · have:=(h1.2.1 e1).1;omega
 · obtain⟨cap,cs',u',q1,q2,_⟩:=h1.2.2 b e1
   refine⟨.pointer (some ⟨b,m*sz,none⟩),w,by simp[execOp,q1,hiv,aEb (t:=t) (e:=e) w hm],ow,β,?_⟩
   exact hsim.put ((aT _ _).1 hd) (O:=[]) (by simp only[RelV];exact⟨trivial,fun b' hb=>by rw[e1]at hb;cases hb;rfl⟩) (by simp)
end
def aWO:=@RelV.nolab
/- The engine, part J: laying blocks: variables, slices, literals; storing. -/
open Go.RowKit (Below)
class ZT (P:Program) (t:Nat) (ps:outParam (List PV)):Prop where
 ok:∃ i z,P.info? t=some i/\i.zero=some z/\z.cells.size=i.size/\z.cells.toList.all (·.oneCell')=true/\ps=z.cells.toList.map .sc
theorem ZT.of {P:Program}{t:Nat}{vals:List Value}{ps:List PV}(h:((P.info? t).bind fun i=>i.zero.bind fun z=>bif Nat.beq z.cells.size i.size then some z.cells.toList else none)=some vals)(h2:vals.all (·.oneCell')=true)(hp:ps=vals.map .sc):ZT P t ps:=by
 cases h1:P.info? t with
 | none=>rw[h1]at h;cases h
 | some i =>
  rw[h1]at h
  simp only[aTb]at h
  cases hz:i.zero with
  | none=>rw[hz]at h;cases h
  | some z =>
   rw[hz]at h
   simp only[aTb]at h
   cases hb:Nat.beq z.cells.size i.size with
   | false=>rw[hb]at h;cases h
   | true =>
    rw[hb]at h
    simp only[aVV,Option.some.injEq]at h
    exact⟨i,z,h1,hz,aTN hb,by rw[h];exact h2,by rw[h];exact hp⟩
def bC:PV->List PV
 | .agg cells=>cells
 | p=>[p]
def stB (O:List (Nat×Option Ob))(bx:Bool):PV->Bool
 | .agg cells=>bx||gD cells
 | .sc v=>v.oneCell'
 | .sl _ _=>true
 | .iptr _=>true
 | .rw _ _ _=>true
 | .ref l _ _ _=>bx&&(loq O l).isSome
 | _=>false
def xU (p:PV):List Nat:=p.labs
def aEN:PV->Bool
 | .sc _=>true
 | .ref _ _ _ _=>true
 | .ptr _ _=>true
 | .agg cells=>cells.all fun | .sc _=>true | _=>false
 | _=>false
section
variable {P:Program}{N:Nat}{Γ:Ctx P N}{S:List (Nat×Slot)}{O:List (Nat×Option Ob)}{ow:Nat->Own}{β:Nat->Option (Option Nat)}{F:Env}{a:Act}{w:World}
theorem aFu {h:Array Obj}{β:Nat->Option (Option Nat)}:∀ (ps:List PV) (cs:Array Value) (i:Nat) (B:List Nat),RelL h true β ps cs i B->∀ k,k<ps.length->∃ c,cs[i+k]?=some c/\c.oneCell'=true
 | [],_,_,_,_,k,hk=>by simp at hk
 | p::ps,cs,i,B,H,k,hk=>by
  simp only[RelL]at H
  obtain⟨c,B1,B2,h1,_,h3,_⟩:=H
  cases k with
  | zero=>exact⟨c,h1.1,h1.2 trivial⟩
  | succ k =>
   obtain⟨c',g1,g2⟩:=aFu ps cs (i+1) B2 h3 k (by simpa using hk)
   exact⟨c',by rw[<- g1];congr 1;omega,g2⟩
theorem aGe {h:Array Obj}{p:PV}{c:Value}{B:List Nat}(hf:aEN p=true)(H:RelV h β p c B):B=[]:=by
 cases p with
 | sc v=>simp only[RelV]at H;exact H.2
 | ref=>simp only[RelV]at H;exact H.1
 | ptr=>simp only[RelV]at H;exact H.1
 | agg cells=>simp only[RelV]at H;obtain⟨cs,_,_,h⟩:=H;exact aMg _ _ _ _ hf h
 | _=>simp[aEN]at hf
theorem uZ (hs:SimG Γ ow β F a w){bx:Bool}{p:PV}{c:Value}{B:List Nat}(H:RelV w.heap β p c B)(hb:stB O bx p=true)(hO:∀ l∈xU p,lo F.o l=lo O l) :
 RelL w.heap true (if bx then β else dead) (bC p) c.cells 0 B/\c.cells.size=(bC p).length/\∀ v∈c.cells.toList,v.oneCell'=true:=by
 have sI:∀ l∈p.labs,(loq O l).isSome=true->(β l=some none\/∃ b,β l=some (some b)):=by
  intro l hl hls
  cases ho:loq O l with
  | none=>rw[ho]at hls;cases hls
  | some ob =>
   have:=hO l (by simp[xU,hl])
   rw[<- bP O,ho]at this
   obtain⟨_,_,_,h3⟩:=hs.objs l ob this
   rcases h3 with⟨e,_⟩ | ⟨b,_,_,e,_⟩
   · exact .inl e
   · exact .inr ⟨b,e⟩
 cases p with
 | agg cells =>
  simp only[RelV]at H
  obtain⟨cs,rfl,h2,h3⟩:=H
  simp only[bC,Value.cells]
  refine⟨?_,h2,fun v hv=>?_⟩
  · cases bx with
    | true=>exact h3
    | false=>simp[stB]at hb;exact sE (kE hb) h3
  · obtain⟨k,hk,e⟩:=aVb hv
    obtain⟨c,g1,g2⟩:=aFu _ _ _ _ h3 k (by simp at hk;omega)
    have:c=v:=by
     rw[aTC]at g1
     have:=(aUx.1 g1)
     obtain⟨_,e2⟩:=this
     rw[<- e2,<- e];simp
    rw[<- this];exact g2
 | sc v =>
  simp only[RelV]at H
  obtain⟨rfl,rfl⟩:=H
  simp only[stB]at hb
  have:c.cells=#[c]:=by cases c <;> first | rfl | simp[Value.oneCell']at hb
  rw[this]
  refine⟨?_,by simp[bC],by simp[hb]⟩
  simp only[bC,RelL]
  exact⟨c,[],[],⟨by simp,fun _=>hb⟩,by simp[RelV],rfl,rfl⟩
 | sl n cells =>
  have hc:∃ a cap,c=.slice a n cap:=aHg H
  obtain⟨ad,cap,rfl⟩:=hc
  refine⟨?_,by simp[bC,Value.cells],by simp[Value.cells,Value.oneCell']⟩
  simp only[bC,RelL,Value.cells]
  exact⟨.slice ad n cap,B,[],⟨by simp,fun _=>rfl⟩,by split;exact H;exact H.nolab rfl,rfl,by simp⟩
 | rw s n cells =>
  have hc:∃ a m cap,c=.slice a m cap:=by
   simp only[RelV]at H
   rcases H with⟨_,_,_,e⟩ | ⟨b,cap,_,_,_,⟨e,_⟩,_⟩
   · exact⟨_,_,_,e⟩
   · exact⟨_,_,_,e⟩
  obtain⟨ad,m,cap,rfl⟩:=hc
  refine⟨?_,by simp[bC,Value.cells],by simp[Value.cells,Value.oneCell']⟩
  simp only[bC,RelL,Value.cells]
  exact⟨.slice ad m cap,B,[],⟨by simp,fun _=>rfl⟩,by split;exact H;exact H.nolab rfl,rfl,by simp⟩
 | iptr cells =>
  have hc:∃ ad,c=.pointer (some ad):=by
   simp only[RelV]at H
   obtain⟨b,off,_,_,_,_,rfl,_⟩:=H
   exact⟨_,rfl⟩
  obtain⟨ad,rfl⟩:=hc
  refine⟨?_,by simp[bC,Value.cells],by simp[Value.cells,Value.oneCell']⟩
  simp only[bC,RelL,Value.cells]
  exact⟨.pointer (some ad),B,[],⟨by simp,fun _=>rfl⟩,by split;exact H;exact H.nolab rfl,rfl,by simp⟩
 | ref l s off n =>
  simp only[stB,aTB]at hb
  obtain⟨rfl,hb⟩:=hb
  have hc:∃ ad m cap,c=.slice ad m cap:=by
   simp only[RelV]at H
   rcases sI l (by simp[PV.labs]) hb with e | ⟨b,e⟩
   · exact⟨_,_,_,(H.2.1 e).2.2⟩
   · obtain⟨cap,_,_,e2,_⟩:=H.2.2 b e;exact⟨_,_,_,e2⟩
  obtain⟨ad,m,cap,rfl⟩:=hc
  refine⟨?_,by simp[bC,Value.cells],by simp[Value.cells,Value.oneCell']⟩
  simp only[bC,RelL,Value.cells]
  exact⟨.slice ad m cap,B,[],⟨by simp,fun _=>rfl⟩,H,rfl,by simp⟩
 | ptr=>simp[stB]at hb
 | tup=>simp[stB]at hb
 | any=>simp[stB]at hb
 | was=>simp[stB]at hb
theorem xH (w:World)(ob:Obj):Same w (w.alloc ob):=⟨rfl,rfl,rfl,by simp⟩
theorem jD (w:World)(ob:Obj):(w.alloc ob).heap[w.heap.size]?=some ob:=by
 show(w.heap.push ob)[w.heap.size]?=_
 simp
theorem nB (w:World)(ob:Obj){b:Nat}(h:b<w.heap.size):(w.alloc ob).heap[b]?=w.heap[b]?:=Below.heap_alloc w ob b h
theorem SimG.layPut (h:SimG Γ ow β F a w){w':World}(hw:Same w w'){b0:Nat}(hlt:b0<w'.heap.size)(hother:∀ b,b<w.heap.size->b≠b0->w'.heap[b]?=w.heap[b]?)
 {cs:Array Value} {t:TypeId} (hrow:w'.heap[b0]?=some (.cells cs t (0,0))) {l:Nat} (hl:NoLab F l) (hio:Γ.io l=none) (ks ls:List Nat)
 (horig:w.heap.size<=b0\/∃ m∈ls,β m=some (some b0)) (hbase:Γ.nww b0) (ob:Ob) {B:List Nat}
 (hrel:RelL w'.heap true (if ob.box then β else dead) ob.cells cs 0 B) (hlab:ob.box=true->∀ p∈ob.cells,l∉p.labs) (hO:∀ b∈B,Im Γ ow w b)
 (hdeep:ob.deep=true->B.Nodup/\∀ b∈B,fP w b/\Γ.nw b/\((∃ k∈ks,ow b=.slot k)\/(∃ m∈ls,ow b=.obj m)\/ow b=.none))
 {d:Nat} (hd:d<N) {v:PV} {c:Value} (hv:∀ β',β' l=some (some b0)->RelV w'.heap β' v c []) :
 Sim Γ (F.app ⟨(d,⟨v,false⟩)::ks.map (fun j=>(j,⟨.any,false⟩)),(l,some ob)::ls.map (fun j=>(j,none))⟩) (a.put (some d) c) w':=by
 obtain⟨ow',h'⟩:=h.lay hw hlt hother hrow hl hio ks ls horig hbase ob hrel hlab hO hdeep
 have:=h'.put hd (hv _ (by simp)) (by simp)
 exact⟨_,_,this⟩
variable {d:Nat}{ty:TypeId}{pos:String}{af:Array Edge}{g:Option (Nat×Bool)}
theorem aIk {h:Array Obj}{β:Nat->Option (Option Nat)}:∀ (vs:List Value) (cs:Array Value) (i:Nat),(∀ k,k<vs.length->cs[i+k]?=vs[k]?)->(∀ v∈vs,v.oneCell'=true)->RelL h true β (vs.map .sc) cs i []
 | [],_,_,_,_=>by simp[RelL]
 | v::vs,cs,i,h1,h2=>by
  simp only[aTo,RelL]
  refine⟨v,[],[],⟨by have:=h1 0 (by simp);simpa using this,fun _=>h2 v (by simp)⟩,by simp[RelV],aIk vs cs (i+1) (fun k hk=>?_) (fun v hv=>h2 v (by simp[hv])),rfl⟩
  have:=h1 (k+1) (by simp;omega)
  rw[show i+1+k=i+(k+1)by omega,this];simp
theorem aOl {vs:List Value}:∀ p∈vs.map PV.sc,p.labs=[]:=by
 intro p hp
 obtain⟨v,_,rfl⟩:=aTu.1 hp
 rfl
theorem aMx {e:Nat}{ps:List PV}(bx:Bool)[hz:ZT P e ps](hio:Γ.io d=none)(hd:Nat.blt d N=true) :
 Local Γ ⟨some d,.alloc e,ty,pos,af,g⟩ ⟨S,O⟩ ⟨[(d,⟨.ptr d 0,false⟩)],[(d,some ⟨ps,true,bx⟩)]⟩ [] [] [d]:=by
 intro F hs _ hnl
 refine bK fun a w ⟨ow,β,hsim⟩=>?_
 obtain⟨i,z,h1,h2,h3,h4,rfl⟩:=hz.ok
 refine⟨.pointer (some ⟨w.heap.size,0,none⟩),w.alloc (.cells z.cells e),?_,?_⟩
 · simp[execOp,Instr.alloc,zeroValue,typeInfo,h1,h2,newVar,newRow]
 · refine hsim.layPut (xH w _) (b0:=w.heap.size) (by simp) (fun b hb _=>nB w _ hb) (jD w _) (hnl d (by simp)) hio [] [] (.inl (aTn _)) (.inl hsim.kept.size) ⟨z.cells.toList.map .sc,true,bx⟩ (B:=[]) ?_ ?_ (by simp) (by simp) ((aT _ _).1 hd) (fun β' hβ=>?_)
   · exact aIk _ _ _ (fun k hk=>by simp) (fun v hv=>List.all_eq_true.1 h4 v hv)
   · intro _ p hp;rw[aOl p hp];simp
   · simp only[RelV];exact⟨trivial,fun b hb=>by rw[hβ]at hb;cases hb;rfl⟩
theorem aSR {e:Nat}{x:Operand}{p:PV}(bx:Bool)(hx:evq S x=some p)(hst:stB O bx p=true)(hlab:uE p.labs d=false)(hio:Γ.io d=none)(hd:Nat.blt d N=true) :
 Local Γ ⟨some d,.box e x,ty,pos,af,g⟩ ⟨S,O⟩ ⟨[(d,⟨.ptr d 0,false⟩)],[(d,some ⟨bC p,aEN p,bx⟩)]⟩ (ors x) (xU p) [d]:=by
 intro F hs hlo hnl
 refine bK fun a w ⟨ow,β,hsim⟩=>?_
 obtain⟨B,h1,h2⟩:=dG hsim hx hs
 obtain⟨r1,r2,r3⟩:=uZ (O:=O) hsim h1 hst hlo
 refine⟨.pointer (some ⟨w.heap.size,0,none⟩),w.alloc (.cells (a.eval x).cells e),?_,?_⟩
 · simp[execOp,Instr.box,newVar,newRow]
 · refine hsim.layPut (xH w _) (b0:=w.heap.size) (by simp) (fun b hb _=>nB w _ hb) (jD w _) (hnl d (by simp)) hio [] [] (.inl (aTn _)) (.inl hsim.kept.size) ⟨bC p,aEN p,bx⟩ (B:=B) ?_ ?_ h2 ?_ ((aT _ _).1 hd) (fun β' hβ=>?_)
   · refine aWk _ _ _ _ (fun q _ l _ o ho=>⟨ho,fun b hob=>?_⟩) (fun b hb=>nB w _ (h2 b hb).1) r1
     subst hob
     intro cs t hc
     refine⟨cs,?_,rfl⟩
     have:b<w.heap.size:=by
      cases bx with
      | false=>cases ho
      | true=>exact hsim.block_lt ho
     rw[nB w _ this];exact hc
   · intro hb q hq hd'
     have:d∈p.labs:=by
      cases p with
      | agg cells=>simp only[PV.labs];exact xA.2 ⟨q,hq,hd'⟩
      | _=>simp only[bC,aTU]at hq;subst hq;exact hd'
     rw[(lJ _ _).2 this]at hlab;cases hlab
   · intro hsc
     rw[aGe hsc h1];simp
   · simp only[RelV];exact⟨trivial,fun b hb=>by rw[hβ]at hb;cases hb;rfl⟩
end
/- The engine, part K: more blocks: taking over, made slices, slice literals, stores. -/
open Go.RowKit (Below)
section
variable {P:Program}{N:Nat}{Γ:Ctx P N}{S:List (Nat×Slot)}{O:List (Nat×Option Ob)}{ow:Nat->Own}{β:Nat->Option (Option Nat)}{F:Env}{a:Act}{w:World}
variable {d:Nat}{ty:TypeId}{pos:String}{af:Array Edge}{g:Option (Nat×Bool)}
theorem aFW (z:Array Value)(n:Nat)(hz:z.size≠0):(madeCells z (n*z.size)).toList=(List.replicate n ()).flatMap fun _=>z.toList:=by
 apply List.ext_getElem?
 intro k
 have hlen:((List.replicate n ()).flatMap fun _=>z.toList).length=n*z.size:=by
  induction n with
  | zero=>simp
  | succ n ih=>simp[aUB,ih,aUI];omega
 by_cases hk:k<n*z.size
 · have e1:(madeCells z (n*z.size)).toList[k]?=some (z[k % z.size]!):=by
    simp[madeCells,hk]
   have hm:k % z.size<z.size:=aUW _ (by omega)
   rw[e1]
   clear e1 hlen
   induction n generalizing k with
   | zero=>simp at hk
   | succ n ih =>
    simp only[aUB,aTO]
    by_cases hlt:k<z.size
    · rw[aUd (by simpa using hlt),aUJ hlt]
      simp[hlt]
    · rw[aT0 (by simp;omega)]
      have:=ih (k-z.size) (by rw[aUI]at hk;omega) (aUW _ (by omega))
      rw[show k % z.size=(k-z.size) % z.size from Nat.mod_eq_sub_mod (by omega)]
      simpa using this
 · rw[aVN (by simp[madeCells];omega),aVN (by omega)]
theorem aR4 {t e sz by_ m:Nat}{agg:Bool}{x y:Operand}{k k':IntKind}{n n':Int}{ps:List PV}[ht:SlT P t e][hi:TI P e sz agg by_][hz:ZT P e ps](hx:evq S x=some (.sc (.int k n)))(hy:evq S y=some (.sc (.int k' n')))(hn:n=(m:Nat))(hn':n'=(m:Nat))
 (hb:m*by_<=281474976710656) (hm:m<=9223372036854775807) (hsz:sz≠0) (hio:Γ.io d=none) (hd:Nat.blt d N=true) :
 Local Γ ⟨some d,.makeSlice t x y,ty,pos,af,g⟩ ⟨S,O⟩ ⟨[(d,⟨.ref d sz 0 m,false⟩)],[(d,some ⟨(List.replicate m ()).flatMap (fun _=>ps),true,false⟩)]⟩ (ors x++ors y) [] [d]:=by
 intro F hs _ hnl
 refine bK fun a w hsim=>?_
 have e1:=zD hsim hx (fun k hk=>hs k (by simp[hk]))
 have e2:=zD hsim hy (fun k hk=>hs k (by simp[hk]))
 obtain⟨ow,β,hsim⟩:=hsim
 subst hn;subst hn'
 obtain⟨i,z,h1,h2,h3,h4,rfl⟩:=hz.ok
 obtain⟨⟨i',g1,g2,g3⟩,_⟩:=hi.ok
 rw[h1]at g1;cases g1
 have hb':(i.bytes:Int)*(m:Int)<=281474976710656:=by
  rw[g3]
  have h:((m*by_:Nat):Int)<=281474976710656:=by omega
  rw[Int.natCast_mul,Int.mul_comm]at h;exact h
 have hr:=run_make (P:=P) w t e i z ht.ok h1 h2 k k' (m:Int) (m:Int) (by omega) (Int.le_refl _) hb' (by omega)
 simp only[aTJ]at hr
 refine⟨_,_,by simp only[execOp,e1,e2,Sem.run_bind,hr,Result.andThen_ok];rfl,?_⟩
 have hcs:(madeCells z.cells (m*i.size)).toList=((List.replicate m ()).flatMap fun _=>z.cells.toList):=by rw[<- h3];exact aFW _ _ (by rw[h3,g2];exact hsz)
 refine hsim.layPut (xH w _) (b0:=w.heap.size) (by simp) (fun b hb _=>nB w _ hb) (jD w _) (hnl d (by simp)) hio [] [] (.inl (aTn _)) (.inl hsim.kept.size) ⟨_,true,false⟩ (B:=[]) ?_ (by simp) (by simp) (by simp) ((aT _ _).1 hd) (fun β' hβ=>?_)
 · have:((List.replicate m ()).flatMap fun _=>z.cells.toList.map PV.sc)=((List.replicate m ()).flatMap fun _=>z.cells.toList).map PV.sc:=by rw[List.map_flatMap]
   simp only[this,<- hcs]
   refine aIk _ _ _ (fun k hk=>by simp) (fun v hv=>?_)
   rw[hcs]at hv
   obtain⟨_,_,hv⟩:=aU0.1 hv
   exact List.all_eq_true.1 h4 v hv
 · simp only[RelV]
   refine⟨trivial,fun h=>by rw[hβ]at h;simp at h,fun b hb=>?_⟩
   rw[hβ]at hb;cases hb
   refine⟨m,madeCells z.cells (m*i.size),e,by simp,jD w _,by simp[size_madeCells,g2],aTn _⟩
theorem aSQ {t e sz by_:Nat}{agg:Bool}[ht:SlT P t e][hi:TI P e sz agg by_](hio:Γ.io d=none)(hd:Nat.blt d N=true) :
 Local Γ ⟨some d,.buildSlice t 0 #[],ty,pos,af,g⟩ ⟨S,O⟩ ⟨[(d,⟨.ref d sz 0 0,false⟩)],[(d,some ⟨[],true,false⟩)]⟩ [] [] [d]:=by
 intro F hs _ hnl
 refine bK fun a w ⟨ow,β,hsim⟩=>?_
 obtain⟨⟨i',g1,g2,g3⟩,_⟩:=hi.ok
 refine⟨.slice (some ⟨w.heap.size,0,none⟩) 0 0,w.alloc (.cells #[] e),?_,?_⟩
 · simp[execOp,Instr.buildSlice,run_underlying ht.ok,sizeOf,typeInfo,g1,Instr.fill,newRow,Array.range_zero']
 refine hsim.layPut (xH w _) (b0:=w.heap.size) (by simp) (fun b hb _=>nB w _ hb) (jD w _) (hnl d (by simp)) hio [] [] (.inl (aTn _)) (.inl hsim.kept.size) ⟨[],true,false⟩ (B:=[]) (by simp[RelL]) (by simp) (by simp) (by simp) ((aT _ _).1 hd) (fun β' hβ=>?_)
 simp only[RelV]
 refine⟨trivial,fun h=>by rw[hβ]at h;simp at h,fun b hb=>?_⟩
 rw[hβ]at hb;cases hb
 exact⟨0,#[],e,by simp,jD w _,by simp,aTn _⟩
theorem aId {t e sz by_:Nat}{agg:Bool}{ps:List PV}[ht:SlT P t e][hi:TI P e sz agg by_][hz:ZT P e ps](w:World)(v:Value)(hv:v.cells.size=sz)(hsz:sz≠0)(hs2:sz<=1000) :
 (Instr.buildSlice t 1 #[(0,v)]).run P w=.ok (.slice (some ⟨w.heap.size,0,none⟩) 1 1) (w.alloc (.cells v.cells e)):=by
 obtain⟨i,z,h1,h2,h3,h4,_⟩:=hz.ok
 obtain⟨⟨i',g1,g2,g3⟩,_⟩:=hi.ok
 rw[h1]at g1;cases g1
 refine run_buildSlice w t e 1 _ v.cells i z ht.ok h1 h2 (by rw[g2];omega) (by rw[g2];omega) ?_
 have:=Go.Great.fill_whole (s:=i.size) (by omega) [v] ((Array.range (1*i.size)).map (z.cells[· % z.cells.size]!)) (by simp[hv,g2]) (by simp)
 simpa using this
theorem aSP {t e sz by_:Nat}{agg:Bool}{ps:List PV}{x:Operand}{p:PV}[ht:SlT P t e][hi:TI P e sz agg by_][hz:ZT P e ps](hx:evq S x=some p)(hst:stB O false p=true)(hsc:aEN p=true)(hl:p.labs=[])(hlen:Nat.beq (bC p).length sz=true)(hsz:Nat.blt 0 sz=true)(hs2:Nat.ble sz 1000=true)(hd:Nat.blt d N=true) :
 Local Γ ⟨some d,.buildSlice t 1 #[(0,x)],ty,pos,af,g⟩ ⟨S,O⟩ ⟨[(d,⟨.sl 1 (bC p),true⟩)],[]⟩ (ors x) [] []:=by
 intro F hs _ _
 refine bK fun a w ⟨ow,β,hsim⟩=>?_
 obtain⟨B,h1,h2⟩:=dG hsim hx hs
 obtain⟨r1,r2,r3⟩:=uZ (O:=O) hsim h1 hst (by simp[xU,hl])
 have hB:=aGe hsc h1
 subst hB
 have hlen:=aTN hlen
 have hw:Below w.heap.size w (w.alloc (.cells (a.eval x).cells e)):=(Below.refl _ w).alloc (aTn _) _
 refine⟨_,_,by simp only[execOp,List.map_toArray,aTo,aT8];rw[Sem.run_bind,aId (sz:=sz) w _ (r2.trans hlen) (by have:=(aT _ _).1 hsz;omega) (aTL hs2)];rfl,?_⟩
 refine⟨_,β,(hsim.grow hw).putDeep ((aT _ _).1 hd) (O:=[w.heap.size]) ?_ ?_ (by simp) ?_ ?_⟩
 · simp only[RelV]
   exact .inr ⟨w.heap.size,0,1,(a.eval x).cells,e,(0,0),[],⟨rfl,aTn _⟩,jD w _,aWk _ _ _ _ (fun q _ l _ o ho=>by cases ho) (by simp) r1,rfl⟩
 · intro b hb;simp at hb;subst hb
   exact⟨by simp,.inr (.inl (.inl hsim.kept.size)),fun l e=>by have:=(hsim.own _ (by rw[e];simp)).1;omega⟩
 · intro b hb;simp at hb;subst hb
   exact⟨⟨_,_,jD w _⟩,.inl (.inl hsim.kept.size)⟩
 · intro b hb;simp at hb;subst hb
   cases hx:ow w.heap.size with
   | none=>exact .inl rfl
   | _=>have:=(hsim.own _ (by rw[hx];simp)).1;omega
theorem aIY {t e sz by_:Nat}{agg:Bool}{ps:List PV}{x:Operand}{p:PV}[ht:SlT P t e][hi:TI P e sz agg by_][hz:ZT P e ps](hx:evq S x=some p)(hst:stB O false p=true)(hl:p.labs=[])(hlen:Nat.beq (bC p).length sz=true)(hsz:Nat.blt 0 sz=true)(hs2:Nat.ble sz 1000=true)(hd:Nat.blt d N=true) :
 Local Γ ⟨some d,.buildSlice t 1 #[(0,x)],ty,pos,af,g⟩ ⟨S,O⟩ ⟨[(d,⟨.sl 1 (bC p),false⟩)],[]⟩ (ors x) [] []:=by
 intro F hs _ _
 refine bK fun a w ⟨ow,β,hsim⟩=>?_
 obtain⟨B,h1,h2⟩:=dG hsim hx hs
 obtain⟨r1,r2,r3⟩:=uZ (O:=O) hsim h1 hst (by simp[xU,hl])
 have hlen:=aTN hlen
 have hw:Below w.heap.size w (w.alloc (.cells (a.eval x).cells e)):=(Below.refl _ w).alloc (aTn _) _
 refine⟨_,_,by simp only[execOp,List.map_toArray,aTo,aT8];rw[Sem.run_bind,aId (sz:=sz) w _ (r2.trans hlen) (by have:=(aT _ _).1 hsz;omega) (aTL hs2)];rfl,?_⟩
 refine⟨_,β,(hsim.grow hw).put ((aT _ _).1 hd) (O:=w.heap.size::B) ?_ ?_⟩
 · simp only[RelV]
   exact .inr ⟨w.heap.size,0,1,(a.eval x).cells,e,(0,0),B,⟨rfl,aTn _⟩,jD w _,aWk _ _ _ _ (fun q _ l _ o ho=>by cases ho) (fun b hb=>nB w _ (h2 b hb).1) r1,rfl⟩
 · intro b hb
   rcases aTf.1 hb with rfl | hb
   · exact⟨by simp,.inr (.inl (.inl hsim.kept.size)),fun l e=>by have:=(hsim.own _ (by rw[e];simp)).1;omega⟩
   · obtain⟨q1,q2,q3⟩:=h2 b hb
     exact⟨by simp;omega,q2,q3⟩
theorem aPC {t e sz by_ s:Nat}{agg:Bool}{ps:List PV}{p:PV}[ht:SlT P t e][hi:TI P e sz agg by_][hz:ZT P e ps](hx:lkq S s=some ⟨p,true⟩)(hst:stB O false p=true)(hl:p.labs=[])(hlen:Nat.beq (bC p).length sz=true)(hsz:Nat.blt 0 sz=true)(hs2:Nat.ble sz 1000=true)(hne:Nat.beq d s=false)(hd:Nat.blt d N=true) :
 Local Γ ⟨some d,.buildSlice t 1 #[(0,.tmp s)],ty,pos,af,g⟩ ⟨S,O⟩ ⟨[(d,⟨.sl 1 (bC p),true⟩),(s,⟨.any,false⟩)],[]⟩ [s] [] []:=by
 intro F hs _ _
 refine bK fun a w ⟨ow,β,hsim⟩=>?_
 have hlk:lk F.s s=⟨p,true⟩:=(hs s (by simp)).trans (fM hx)
 have hlen:=aTN hlen
 have hds:d≠s:=fun e=>by rw[kR]at hne;simp at hne;exact hne e
 have hdN:=(aT _ _).1 hd
 obtain⟨ow1,hs1⟩:=hsim.take hdN hds hlk
 obtain⟨B,h1,h2,h3⟩:=hs1.slots d
 have el:lk ((F.app ⟨[(d,⟨p,true⟩),(s,⟨.any,false⟩)],[]⟩).s) d=⟨p,true⟩:=by simp[Env.app,dO]
 have ev:(a.put (some d) (a.tmps.getD s undef)).tmps.getD d undef=a.tmps.getD s undef:=by
  simp only[Act.put];exact mB (by rw[hsim.size];exact hdN)
 rw[el]at h1 h3
 rw[ev]at h1
 obtain⟨r1,r2,r3⟩:=uZ (O:=O) hs1 h1 hst (by simp[xU,hl])
 have hw:Below w.heap.size w (w.alloc (.cells (a.tmps.getD s undef).cells e)):=(Below.refl _ w).alloc (aTn _) _
 refine⟨_,_,by simp only[execOp,List.map_toArray,aTo,aT8,Act.eval];rw[Sem.run_bind,aId (sz:=sz) w _ (r2.trans hlen) (by have:=(aT _ _).1 hsz;omega) (aTL hs2)];rfl,?_⟩
 have hfin:=(hs1.grow hw).putDeep (d:=d) hdN (v:=.sl 1 (bC p)) (c:=.slice (some ⟨w.heap.size,0,none⟩) 1 1) (O:=w.heap.size::B) (by
  simp only[RelV]
  exact .inr ⟨w.heap.size,0,1,_,e,(0,0),B,⟨rfl,aTn _⟩,jD w _,aWk _ _ _ _ (fun q _ l _ o ho=>by cases ho) (fun b hb=>nB w _ (h2 b hb).1) r1,rfl⟩) (by
  intro b hb
  rcases aTf.1 hb with rfl | hb
  · exact⟨by simp,.inr (.inl (.inl hsim.kept.size)),fun l e=>by have:=(hs1.own _ (by rw[e];simp)).1;omega⟩
  · obtain⟨q1,q2,q3⟩:=h2 b hb
    exact⟨by simp;omega,q2,q3⟩) (by
  refine aUe.2 ⟨fun hb=>by have:=(h2 _ hb).1;omega,(h3 rfl).1⟩) (by
  intro b hb
  rcases aTf.1 hb with rfl | hb
  · exact⟨⟨_,_,jD w _⟩,.inl (.inl hsim.kept.size)⟩
  · obtain⟨q1,cs,t,q2⟩:=(h3 rfl).2 b hb
    refine⟨⟨cs,t,by rw[nB w _ (h2 b hb).1];exact q2⟩,?_⟩
    rcases(hs1.own b (by rw[q1];simp)).2 with h | ⟨l,h,_⟩
    · exact h
    · rw[q1]at h;cases h) (by
  intro b hb
  rcases aTf.1 hb with rfl | hb
  · cases hx:ow1 w.heap.size with
    | none=>exact .inl rfl
    | _=>have:=(hs1.own _ (by rw[hx];simp)).1;omega
  · exact .inr ((h3 rfl).2 b hb).1)
 refine Sim.congr (fun k=>?_) (fun l=>?_) ⟨_,_,(by
  have e:(a.put (some d) (a.tmps.getD s undef)).put (some d) (.slice (some ⟨w.heap.size,0,none⟩) 1 1)=a.put (some d) (.slice (some ⟨w.heap.size,0,none⟩) 1 1):=by
   simp[Act.put]
  rw[e]at hfin;exact hfin)⟩
 · simp only[Env.app,aTm,aTi,dO]
   by_cases h:d=k
   · simp[h]
   · simp[h]
 · rfl
end
/- The engine, part L: storing into an own block. -/
open Go.RowKit (Below)
section
variable {P:Program}{N:Nat}{Γ:Ctx P N}{S:List (Nat×Slot)}{O:List (Nat×Option Ob)}{ow:Nat->Own}{β:Nat->Option (Option Nat)}{F:Env}{a:Act}{w:World}
variable {d:Nat}{ty:TypeId}{pos:String}{af:Array Edge}{g:Option (Nat×Bool)}
theorem aJf {t n by_:Nat}{agg:Bool}[ht:TI P t n agg by_](w:World){b k:Nat}{cs:Array Value}{u:TypeId}{v:Value}(hb:w.heap[b]?=some (.cells cs u (0,0)))(hv:v.cells.size=n)(hk:k+n<=cs.size)(h1:∀ c∈v.cells.toList,c.oneCell'=true) :
 (Instr.storeAt t (.pointer (some ⟨b,k,none⟩)) v).run P w=.ok () (w.setRow b (cs.toList.take k++v.cells.toList++cs.toList.drop (k+n)).toArray):=by
 obtain⟨⟨i,e1,e2,_⟩,_⟩:=ht.ok
 have hs:=run_storeCells_at P b k u v.cells.toList 0 cs w hb (by simp[hv];exact hk) h1
 simp only[aTX,aVz,hv]at hs
 simp[Instr.storeAt,Instr.sureAddr,storeVar,sizeOf,typeInfo,e1,e2,hv,hs]
theorem aEa (w:World)(b:Nat)(cs:Array Value):Same w (w.setRow b cs):=⟨rfl,rfl,rfl,by simp⟩
theorem aEd {h:Array Obj}{β:Nat->Option (Option Nat)}{cells vs:List PV}{cs:Array Value}{xs:List Value}{k n:Nat}{B Bp:List Nat}(H:RelL h true β cells cs 0 B)(Hv:RelL h true β vs xs.toArray 0 Bp)(hn:vs.length=n)(hx:xs.length=n)(hk:k+n<=cells.length)(hs:cells.length<=cs.size) :
 ∃ B1 B2 B3,B=B1++(B2++B3)/\RelL h true β (cells.take k++vs++cells.drop (k+n)) (cs.toList.take k++xs++cs.toList.drop (k+n)).toArray 0 (B1++(Bp++B3)):=by
 have e:cells=cells.take k++((cells.drop k).take n++cells.drop (k+n)):=by
  rw[<- List.drop_drop,aT6,aT6]
 rw[e]at H
 obtain⟨B1,B',h1,h2,rfl⟩:=(aWA _ _ _ _ _).1 H
 obtain⟨B2,B3,h3,h4,rfl⟩:=(aWA _ _ _ _ _).1 h2
 refine⟨B1,B2,B3,rfl,?_⟩
 have l1:(cells.take k).length=k:=by simp;omega
 have l2:((cells.drop k).take n).length=n:=by simp;omega
 rw[l1,l2,aTC]at h4
 rw[aTx]
 have lt:(cs.toList.take k).length=k:=by simp;omega
 refine(aWA _ _ _ _ _).2 ⟨B1,Bp++B3,aWJ _ _ _ _ _ _ (fun j hj=>?_) h1,(aWA _ _ _ _ _).2 ⟨Bp,B3,aWJ _ _ _ _ _ _ (fun j hj=>?_) Hv,aWJ _ _ _ _ _ _ (fun j hj=>?_) h4,rfl⟩,rfl⟩
 · rw[l1]at hj
   simp only[aTC,aUD]
   rw[aTx,aUd (by omega),aUp,aTd hj]
   simp
 · rw[hn]at hj
   rw[l1]
   simp only[aTC,aUD]
   rw[aTx,aT0 (by omega),lt,Nat.add_sub_cancel_left,aUd (by omega)]
 · rw[l1,hn]
   simp only[aTC,aUD]
   rw[aTx,aT0 (by omega),lt,aT0 (by omega),hx,aUg]
   rw[show k+n+(k+n+j-k-n)=k+n+j by omega]
   simp
theorem aFh (hsim:SimG Γ ow β F a w){t n by_ l k b:Nat}{agg dp bx dp':Bool}[ht:TI P t n agg by_]{cells:List PV}{cs:Array Value}{u:TypeId}{Bo:List Nat}(ho1:∀ c∈Bo,Im Γ ow w c)(ho2:dp=true->Bo.Nodup/\∀ c∈Bo,ow c=.obj l/\fP w c)
 (hβ:β l=some (some b)) (hb:w.heap[b]?=some (.cells cs u (0,0))) (hr:RelL w.heap true (if bx then β else dead) cells cs 0 Bo)
 {p:PV} {v:Value} {Bp:List Nat} (hp:RelL w.heap true (if bx then β else dead) (bC p) v.cells 0 Bp) (hpi:∀ c∈Bp,Im Γ ow w c) (hv1:v.cells.size=(bC p).length) (hv2:∀ c∈v.cells.toList,c.oneCell'=true) (hlen:(bC p).length=n) (hk:k+n<=cells.length)
 (ks:List Nat) (hdp:dp'=true->dp=true/\Bp.Nodup/\∀ c∈Bp,fP w c/\Γ.nw c/\∃ s∈ks,ow c=.slot s) :
 ∃ w' ow',(Instr.storeAt t (.pointer (some ⟨b,k,none⟩)) v).run P w=.ok () w'/\SimG Γ ow' β (F.app ⟨ks.map (fun j=>(j,⟨.any,false⟩)),[(l,some ⟨cells.take k++bC p++cells.drop (k+n),dp',bx⟩)]⟩) a w':=by
 have hsz:cells.length<=cs.size:=by have:=aWX _ _ _ _ (aT9 _) hr;omega
 let cs':Array Value:=(cs.toList.take k++v.cells.toList++cs.toList.drop (k+n)).toArray
 have hblt:b<w.heap.size:=hsim.block_lt hβ
 have hrow:(w.setRow b cs').heap[b]?=some (.cells cs' u (0,0)):=setRow_heap w b cs cs' u (0,0) hb
 have hother:∀ c,c<w.heap.size->c≠b->(w.setRow b cs').heap[c]?=w.heap[c]?:=fun c _ h=>setRow_other w b c cs' h
 have hsize:cs'.size=cs.size:=by simp[cs',hv1,hlen];omega
 obtain⟨B1,B2,B3,rfl,hnew⟩:=aEd (xs:=v.cells.toList) hr (by simpa using hp) hlen (by simp[hv1,hlen]) hk hsz
 have hne:∀ c,Im Γ ow w c->c≠b:=by rintro c ⟨_,_,h3⟩ rfl;exact h3 l (hsim.lab_ne hβ)
 have hin:∀ c∈B1++(Bp++B3),Im Γ ow w c:=by
  intro c hc
  simp only[aTj]at hc
  rcases hc with hc | hc | hc
  · exact ho1 c (by simp[hc])
  · exact hpi c hc
  · exact ho1 c (by simp[hc])
 have hshape:∀ c,c<w.heap.size->aB6 w.heap (w.setRow b cs').heap c:=by
  intro c hc x y hxy
  by_cases hcb:c=b
  · subst hcb;rw[hb]at hxy;cases hxy;exact⟨cs',hrow,hsize⟩
  · exact⟨x,by rw[hother c hc hcb];exact hxy,rfl⟩
 have hnew':RelL (w.setRow b cs').heap true (if bx then β else dead) (cells.take k++bC p++cells.drop (k+n)) cs' 0 (B1++(Bp++B3)):=by
  refine aWk _ _ _ _ (fun q _ m _ o hm=>⟨hm,fun c hc=>?_⟩) (fun c hc=>hother c (hin c hc).1 (hne c (hin c hc))) hnew
  subst hc
  refine hshape c ?_
  cases bx with
  | false=>cases hm
  | true=>exact hsim.block_lt hm
 obtain⟨ow',h'⟩:=hsim.rewrite (aEa w b cs') hβ hother hb hrow hsize ks ⟨cells.take k++bC p++cells.drop (k+n),dp',bx⟩ (O:=B1++(Bp++B3)) hnew' hin (fun h=>by
  obtain⟨d1,d2,d3⟩:=hdp h
  obtain⟨o1,o2⟩:=ho2 d1
  refine⟨?_,fun c hc=>?_⟩
  · rw[aTw]at o1 ⊢
    obtain⟨n1,n2,n3⟩:=o1
    rw[aTw]at n2
    obtain⟨n4,n5,n6⟩:=n2
    have hdis:∀ c∈Bp,∀ c'∈B1++(B2++B3),c≠c':=by
     intro c hc c' hc' e
     subst e
     obtain⟨_,_,s,_,e1⟩:=d3 c hc
     rw[(o2 c hc').1]at e1;cases e1
    refine⟨n1,?_,?_⟩
    · rw[aTw]
      exact⟨d2,n5,fun c hc c' hc'=>hdis c hc c' (by simp[hc'])⟩
    · intro c hc c' hc' e
      rcases aTj.1 hc' with h | h
      · exact hdis c' h c (by simp[hc]) e.symm
      · exact n3 c hc c' (by simp[h]) e
  · simp only[aTj]at hc
    have hown:∀ c∈B1++(B2++B3),fP w c/\Γ.nw c/\((∃ s∈ks,ow c=.slot s)\/ow c=.obj l\/ow c=.none):=by
     intro c hc
     obtain⟨e1,e2⟩:=o2 c hc
     refine⟨e2,?_,.inr (.inl e1)⟩
     rcases(hsim.own c (by rw[e1];simp)).2 with h | ⟨m,h,_⟩
     · exact h
     · rw[e1]at h;cases h
    rcases hc with hc | hc | hc
    · exact hown c (by simp[hc])
    · obtain⟨e1,e2,s,e3,e4⟩:=d3 c hc
      exact⟨e1,e2,.inl ⟨s,e3,e4⟩⟩
    · exact hown c (by simp[hc]))
 exact⟨_,ow',aJf w hb (hv1.trans hlen) (by omega) hv2,h'⟩
theorem aTa {x y:Operand}{t n by_ l k:Nat}{agg dp bx:Bool}{cells cells':List PV}{p:PV}[ht:TI P t n agg by_](hx:evq S x=some (.ptr l k))(ho:loq O l=some ⟨cells,dp,bx⟩)(hy:evq S y=some p)(hst:stB O bx p=true)
 (hlen:Nat.beq (bC p).length n=true) (hn0:n≠0) (hk:Nat.ble (k+n) cells.length=true) (hc:cells.take k++bC p++cells.drop (k+n)=cells') :
 Local Γ ⟨none,.store t x y,ty,pos,af,g⟩ ⟨S,O⟩ ⟨[],[(l,some ⟨cells',dp&&aEN p,bx⟩)]⟩ (ors x++ors y) (l::xU p) []:=by
 intro F hs hlo _
 refine aEi fun a w ⟨ow,β,hsim⟩=>?_
 obtain⟨B,h1,h2⟩:=dG hsim hx (fun k hk=>hs k (by simp[hk]))
 obtain⟨Bp,g1,g2⟩:=dG hsim hy (fun k hk=>hs k (by simp[hk]))
 simp only[RelV]at h1
 obtain⟨r1,r2,r3⟩:=uZ (O:=O) hsim g1 hst (fun m hm=>hlo m (by simp[hm]))
 obtain⟨Bo,o1,o2,hob⟩:=hsim.objs l _ (by rw[hlo l (by simp),<- bP];exact ho)
 have hlen:=aTN hlen
 have hk:=aTL hk
 rcases hob with⟨_,e,_⟩ | ⟨b,cs,u,e1,e2,e3,e4⟩
 · simp at e;rw[e]at hk;simp at hk;omega
 · obtain⟨w',ow',q1,q2⟩:=aFh (t:=t) (p:=p) (dp':=dp&&aEN p) hsim o1 o2 e1 e3 e4 r1 g2 r2 r3 hlen hk [] (fun h=>by
    simp only[aTB]at h
    rw[aGe h.2 g1]
    exact⟨h.1,by simp,by simp⟩)
   subst hc
   refine⟨w',by simp[execOp,h1.2 b e1,q1],ow',β,?_⟩
   exact q2
theorem aGK {x:Operand}{t n by_ l k s:Nat}{agg dp bx:Bool}{cells cells':List PV}{p:PV}[ht:TI P t n agg by_](hx:evq S x=some (.ptr l k))(ho:loq O l=some ⟨cells,dp,bx⟩)(hy:lkq S s=some ⟨p,true⟩)(hst:stB O bx p=true)(hl:p.labs=[])
 (hlen:Nat.beq (bC p).length n=true) (hn0:n≠0) (hk:Nat.ble (k+n) cells.length=true) (hc:cells.take k++bC p++cells.drop (k+n)=cells') :
 Local Γ ⟨none,.store t x (.tmp s),ty,pos,af,g⟩ ⟨S,O⟩ ⟨[(s,⟨.any,false⟩)],[(l,some ⟨cells',dp,bx⟩)]⟩ (ors x++[s]) [l] []:=by
 intro F hs hlo _
 refine aEi fun a w ⟨ow,β,hsim⟩=>?_
 obtain⟨B,h1,h2⟩:=dG hsim hx (fun k hk=>hs k (by simp[hk]))
 obtain⟨Bp,g1,g2,g3⟩:=hsim.slots s
 rw[(hs s (by simp)).trans (fM hy)]at g1 g3
 simp only[RelV]at h1
 obtain⟨r1,r2,r3⟩:=uZ (O:=O) hsim g1 hst (by simp[xU,hl])
 obtain⟨Bo,o1,o2,hob⟩:=hsim.objs l _ (by rw[hlo l (by simp),<- bP];exact ho)
 have hlen:=aTN hlen
 have hk:=aTL hk
 rcases hob with⟨_,e,_⟩ | ⟨b,cs,u,e1,e2,e3,e4⟩
 · simp at e;rw[e]at hk;simp at hk;omega
 · obtain⟨w',ow',q1,q2⟩:=aFh (t:=t) (p:=p) (dp':=dp) hsim o1 o2 e1 e3 e4 r1 g2 r2 r3 hlen hk [s] (fun h=>by
    refine⟨h,(g3 rfl).1,fun c hc=>?_⟩
    obtain⟨f1,f2⟩:=(g3 rfl).2 c hc
    refine⟨f2,?_,s,by simp,f1⟩
    rcases(hsim.own c (by rw[f1];simp)).2 with h | ⟨m,h,_⟩
    · exact h
    · rw[f1]at h;cases h)
   subst hc
   have ev:a.eval (.tmp s)=a.tmps.getD s undef:=rfl
   refine⟨w',by simp only[execOp,h1.2 b e1,ev,Sem.run_bind,q1,Result.andThen_ok];rfl,ow',β,?_⟩
   exact q2
theorem aCU {cells vs:List PV}{n:Nat}(h:Nat.beq cells.length n=true):cells.take 0++vs++cells.drop (0+n)=vs:=by
 rw[aTC,aTE (by rw[aTN h];exact aTn _)];simp
theorem aJd {α:Type}{l:List α}{enc:α->List PV}{sz m:Nat}{y:α}(hm:m<l.length)(h:∀ y,(enc y).length=sz):(l.flatMap enc).take (m*sz)++enc y++(l.flatMap enc).drop (m*sz+sz)=(l.set m y).flatMap enc:=by
 induction l generalizing m with
 | nil=>simp at hm
 | cons x r ih =>
  cases m with
  | zero=>simp[List.drop_append,h x,aTE]
  | succ m =>
   have:=ih (m:=m) (by simpa using hm)
   simp only[List.set_cons_succ,aTO]
   rw[<- this,List.take_append,List.drop_append,h x,aT1 (by rw[h x,aUI];omega),aTE (by rw[h x,aUI];omega),
    show(m+1)*sz-sz=m*sz by rw[aUI];omega,show(m+1)*sz+sz-sz=m*sz+sz by rw[aUI];omega]
   simp[aTx]
end
/- The engine, part M: nil rows, append. -/
open Go.RowKit (Below)
section
variable {P:Program}{N:Nat}{Γ:Ctx P N}{S:List (Nat×Slot)}{O:List (Nat×Option Ob)}{ow:Nat->Own}{β:Nat->Option (Option Nat)}{F:Env}{a:Act}{w:World}
variable {d:Nat}{ty:TypeId}{pos:String}{af:Array Edge}{g:Option (Nat×Bool)}
theorem SimG.layNil (h:SimG Γ ow β F a w){l:Nat}(hl:NoLab F l)(hio:Γ.io l=none)(ks ls:List Nat)(dp bx:Bool) :
 ∃ ow',SimG Γ ow' (fun m=>if m=l then some none else if m∈ls then none else β m) (F.app ⟨ks.map (fun j=>(j,⟨.any,false⟩)),(l,some ⟨[],dp,bx⟩)::ls.map (fun j=>(j,none))⟩) a w:=by
 let β':Nat->Option (Option Nat):=fun m=>if m=l then some none else if m∈ls then none else β m
 let ow':Nat->Own:=fun b=>match ow b with
  | .lab m=>if m=l\/m∈ls then .none else .lab m
  | .obj m=>if m=l\/m∈ls then .none else .obj m
  | o=>o
 have howl:∀ b m,ow b≠.lab m->ow' b≠.lab m:=by
  intro b m hb
  show(match ow b with | .lab m=>_ | .obj m=>_ | o=>o)≠_
  cases hx:ow b with
  | lab k=>simp only;split <;> simp;rintro rfl;exact hb hx
  | obj k=>simp only;split <;> simp
  | none=>simp
  | slot k=>simp
 have hIm:∀ b,Im Γ ow w b->Im Γ ow' w b:=fun b ⟨h1,h2,h3⟩=>⟨h1,h2,fun m=>howl b m (h3 m)⟩
 have hkeep:∀ m,m≠l->KeepB w.heap w.heap β β' m:=by
  intro m hne o ho
  have ho':(if m=l then some none else if m∈ls then none else β m)=some o:=ho
  rw[aTc hne]at ho'
  by_cases hm:m∈ls
  · rw[aTd hm]at ho';cases ho'
  · rw[aTc hm]at ho'
    exact⟨ho',fun b _ c t hc=>⟨c,hc,rfl⟩⟩
 have hβ':∀ m,m≠l->m∉ls->β' m=β m:=by
  intro m h1 h2
  show(if _ then _ else if _ then _ else _)=_
  rw[aTc h1,aTc h2]
 have hslot:∀ b k,ow b=.slot k->ow' b=.slot k:=by
  intro b k hb
  show(match ow b with | .lab m=>_ | .obj m=>_ | o=>o)=_
  rw[hb]
 refine⟨ow',{ size:=h.size,defers:=h.defers,kept:=h.kept,slots:=fun k=>?_,objs:=fun m ob hm=>?_,gone:=fun m hm=>?_,own:=fun b hb=>?_,ios:=fun m b hm hs=>?_,fresh:=fun m b hm hi=>?_ }⟩
 · obtain⟨B,g1,g2,g3⟩:=h.slots k
   simp only[Env.app,aBY]
   by_cases hk:k∈ks
   · rw[aTd hk];exact⟨[],by simp[RelV],by simp,by simp⟩
   rw[aTc hk]
   exact⟨B,aWl _ _ _ (fun m hm=>hkeep m (fun e=>hl.1 k (e▸hm))) (fun _ _=>rfl) g1,fun b hb=>hIm b (g2 b hb),fun hd=>⟨(g3 hd).1,fun b hb=>⟨hslot b k ((g3 hd).2 b hb).1,((g3 hd).2 b hb).2⟩⟩⟩
 · simp only[Env.app,aTm,aI,uR]at hm
   by_cases hml:l=m
   · subst hml
     rw[aTd rfl]at hm;cases hm
     exact⟨[],by simp,by simp,.inl ⟨by show(if _ then _ else _)=_;rw[aTd rfl],rfl,rfl⟩⟩
   · rw[aTc hml]at hm
     by_cases hmls:m∈ls
     · rw[aTd hmls]at hm;cases hm
     · rw[aTc hmls]at hm
       obtain⟨B,g1,g2,g3⟩:=h.objs m ob hm
       have eβ:=hβ' m (fun e=>hml e.symm) hmls
       refine⟨B,fun b hb=>hIm b (g1 b hb),fun hd=>⟨(g2 hd).1,fun b hb=>⟨?_,((g2 hd).2 b hb).2⟩⟩,?_⟩
       · have e:=((g2 hd).2 b hb).1
         show(match ow b with | .lab m=>_ | .obj m=>_ | o=>o)=_
         rw[e];simp only;rw[aTc];rintro(e1 | e1)
         · exact hml e1.symm
         · exact hmls e1
       · rcases g3 with⟨e1,e2,e3⟩ | ⟨b,cs,t,e1,e2,e3,e4⟩
         · exact .inl ⟨eβ.trans e1,e2,e3⟩
         · refine .inr ⟨b,cs,t,eβ.trans e1,?_,e3,?_⟩
           · show(match ow b with | .lab m=>_ | .obj m=>_ | o=>o)=_
             rw[e2];simp only;rw[aTc];rintro(e1 | e1)
             · exact hml e1.symm
             · exact hmls e1
           · cases hbx:ob.box with
             | false=>rw[hbx]at e4;exact e4
             | true=>rw[hbx]at e4;exact aWk _ _ _ _ (fun p hp m' hm'=>hkeep m' (fun e=>hl.2.1 m ob hm hbx p hp (e▸hm'))) (fun _ _=>rfl) e4
 · simp only[Env.app,aTm,aI,uR]at hm
   by_cases hml:l=m
   · rw[aTd hml]at hm;cases hm
   · rw[aTc hml]at hm
     show(if _ then _ else if _ then _ else _)=_
     rw[aTc (fun e=>hml e.symm)]
     by_cases hmls:m∈ls
     · rw[aTd hmls]
     · rw[aTc hmls]at hm ⊢;exact h.gone m hm
 · have hb':ow b≠.none:=by
    intro e;apply hb
    show(match ow b with | .lab m=>_ | .obj m=>_ | o=>o)=_
    rw[e]
   obtain⟨g1,g2⟩:=h.own b hb'
   refine⟨g1,g2.imp id fun⟨m,g3,g4⟩=>⟨m,?_,g4⟩⟩
   have:¬(m=l\/m∈ls):=by
    intro hc
    apply hb
    show(match ow b with | .lab m=>_ | .obj m=>_ | o=>o)=_
    rw[g3];simp only;rw[aTd hc]
   show(match ow b with | .lab m=>_ | .obj m=>_ | o=>o)=_
   rw[g3];simp only;rw[aTc this]
 · simp only[Env.app,aTm,aI,uR]at hs
   have hml:m≠l:=by rintro rfl;rw[hio]at hm;cases hm
   rw[aTc (fun e=>hml e.symm)]at hs
   have hmls:m∉ls:=by intro e;rw[aTd e]at hs;simp at hs
   rw[aTc hmls]at hs
   rw[show(if m=l then some none else if m∈ls then none else β m)=β' m from rfl,hβ' m hml hmls]
   exact h.ios m b hm hs
 · have hm':(if m=l then some none else if m∈ls then none else β m)=some (some b):=hm
   by_cases hml:m=l
   · rw[aTd hml]at hm';cases hm'
   · rw[aTc hml]at hm'
     by_cases hmls:m∈ls
     · rw[aTd hmls]at hm';cases hm'
     · rw[aTc hmls]at hm';exact h.fresh m b hm' hi
theorem aCZ {t e sz by_:Nat}{agg:Bool}[ht:SlT P t e][hi:TI P e sz agg by_](w:World)(ty:TypeId)(bs ad:Option Addr)(n cap c:Nat)(h:n<=cap) :
 (Builtin.append_ #[t,t] ty #[.slice bs n cap,.slice ad 0 c]).run P w=.ok (.slice bs n cap) w:=by
 obtain⟨⟨i,e1,e2,_⟩,_⟩:=hi.ok
 have hf:(Builtin.firstCells i.size 0 (.slice ad 0 c)).run P w=.ok #[] w:=by
  cases ad with
  | none=>exact run_firstCells_none w _ _ _ _
  | some x=>exact run_firstCells_some (P:=P) w i.size 0 x 0 c [] (by simp) (by simp)
 cases bs with
 | none=>simp[Builtin.append_,run_underlying ht.ok,sizeOf,typeInfo,e1,Builtin.lenOf,h,hf]
 | some b=>simp[Builtin.append_,run_underlying ht.ok,sizeOf,typeInfo,e1,Builtin.lenOf,h,hf,storeCells]
theorem aIe {t e sz by_:Nat}{agg:Bool}[ht:SlT P t e][hi:TI P e sz agg by_](w:World)(ty:TypeId){b n cap:Nat}{cur:Array Value}{u:TypeId}(hg:w.heap[b]?=some (.cells cur u (0,0)))
 (x:Addr) (m c:Nat) (news:List Value) (hl:news.length=m*sz) (hnews:∀ j v,news[j]?=some v->w.cell? (x.add j)=some v) (h1:∀ v∈news,v.oneCell'=true) (hroom:n+m<=cap) (hfit:n*sz+news.length<=cur.size) :
 (Builtin.append_ #[t,t] ty #[.slice (some ⟨b,0,none⟩) n cap,.slice (some x) m c]).run P w=.ok (.slice (some ⟨b,0,none⟩) (n+m) cap) (w.setRow b (cur.toList.take (n*sz)++news++cur.toList.drop (n*sz+news.length)).toArray):=by
 obtain⟨⟨i,e1,e2,_⟩,_⟩:=hi.ok
 subst e2
 have hf:=run_firstCells_some (P:=P) w i.size m x m c news hl hnews
 have hst:=run_storeCells_at P b (n*i.size) u news 0 cur w hg (by simpa using hfit) h1
 simp only[aTX]at hst
 simp[Builtin.append_,run_underlying ht.ok,sizeOf,typeInfo,e1,Builtin.lenOf,hroom,hf,Addr.add_lit,hst]
theorem aEx (w:World)(ob:Obj):Same w (w.drew.alloc ob):=⟨rfl,rfl,rfl,by show _<=(w.heap.push ob).size;simp⟩
theorem aJ3 (w:World)(ob:Obj):(w.drew.alloc ob).heap[w.heap.size]?=some ob:=jD w.drew ob
theorem aJ2 (w:World)(ob:Obj){b:Nat}(h:b<w.heap.size):(w.drew.alloc ob).heap[b]?=w.heap[b]?:=nB w.drew ob h
structure News (w:World)(v:Value)(m sz:Nat)(ncells:List PV)(Bp:List Nat)(news:List Value):Prop where
 len:news.length=m*sz
 one:∀ v∈news,v.oneCell'=true
 rel:RelL w.heap true dead ncells news.toArray 0 Bp
 val:(m=0/\∃ ad c,v=.slice ad 0 c)\/∃ x c,v=.slice (some x) m c/\∀ j u,news[j]?=some u->w.cell? (x.add j)=some u
theorem aLU {b off m sz:Nat}{cs:Array Value}{u:TypeId}{f:Nat×Nat}{ncells:List PV}{Bp:List Nat}{c:Nat}(hb:w.heap[b]?=some (.cells cs u f))(hr:RelL w.heap true dead ncells cs off Bp)(hl:ncells.length=m*sz) :
 ∃ news,News w (.slice (some ⟨b,off,none⟩) m c) m sz ncells Bp news:=by
 refine⟨(cs.extract off (off+ncells.length)).toList,?_⟩
 have hlen:off<=cs.size->off+ncells.length<=cs.size:=fun h=>aWX _ _ _ _ h hr
 have hsz:(cs.extract off (off+ncells.length)).size=ncells.length:=by
  rw[Array.size_extract]
  rcases aUn cs.size off with h | h
  · cases ncells with
    | nil=>simp only[aUq,aTX];omega
    | cons p r =>
     simp only[RelL]at hr
     obtain⟨c,_,_,q1,_⟩:=hr
     have:=(aUx.1 q1.1).1
     omega
  · have:=hlen h;omega
 have hget:∀ j,j<ncells.length->(cs.extract off (off+ncells.length)).toList[j]?=cs[off+j]?:=by
  intro j hj
  rw[Array.getElem?_toList,Array.getElem?_extract,aTd]
  rw[Array.size_extract]at hsz
  omega
 refine⟨by rw[aVz,hsz,hl],fun v hv=>?_,?_,.inr ⟨_,_,rfl,fun j v hj=>?_⟩⟩
 · obtain⟨k,hk,e⟩:=aVb hv
   have hk':k<ncells.length:=by rw[aVz,hsz]at hk;exact hk
   obtain⟨c,g1,g2⟩:=aFu _ _ _ _ hr k hk'
   have:=hget k hk'
   rw[g1,aTl hk,e]at this
   cases this;exact g2
 · rw[Array.toArray_toList]
   exact vZ rfl hr
 · have hk':j<ncells.length:=by
    have:=(aTH.1 hj).1
    rw[aVz,hsz]at this;exact this
   rw[hget j hk']at hj
   rw[Addr.add_lit,cell_of_row w b (off+j) cs u f hb];exact hj
theorem aKb (hsim:SimG Γ ow β F a w){t e sz by_ l n m:Nat}{agg dp dp':Bool}{zs:List PV}[ht:SlT P t e][hi:TI P e sz agg by_][hz:ZT P e zs]{cells ncells:List PV}{bv xv:Value}{Bp:List Nat}{news:List Value}
 (hx:RelV w.heap β (.ref l sz 0 n) bv []) (ho:lo F.o l=some ⟨cells,dp,false⟩) (hlen:cells.length=n*sz) (hN:News w xv m sz ncells Bp news) (hnl:ncells.length=m*sz) (hpi:∀ c∈Bp,Im Γ ow w c)
 (hb:(n+m)*by_<=140737488355328) (h63:n+m<=9223372036854775807) (hd:d<N) (hio:Γ.io d=none) (hnd:NoLab F d) (hiol:Γ.io l=none)
 (ks:List Nat) (hdp:dp'=true->dp=true/\Bp.Nodup/\∀ c∈Bp,fP w c/\Γ.nw c/\∃ s∈ks,ow c=.slot s) :
 ∃ c w',(Builtin.append_ #[t,t] ty #[bv,xv]).run P w=.ok c w'/\Sim Γ (F.app ⟨(d,⟨.ref d sz 0 (n+m),false⟩)::ks.map (fun j=>(j,⟨.any,false⟩)),[(d,some ⟨cells++ncells,dp',false⟩),(l,none)]⟩) (a.put (some d) c) w':=by
 obtain⟨Bo,o1,o2,hob⟩:=hsim.objs l _ ho
 simp only[RelV]at hx
 obtain⟨i,z,z1,z2,z3,_,_⟩:=hz.ok
 obtain⟨⟨i',i1,i2,i3⟩,_⟩:=hi.ok
 rw[z1]at i1;cases i1
 have deepOk:∀ (ls:List Nat),l∈ls->dp'=true->(Bo++Bp).Nodup/\∀ c∈Bo++Bp,fP w c/\Γ.nw c/\((∃ k∈ks,ow c=.slot k)\/(∃ m∈ls,ow c=.obj m)\/ow c=.none):=by
  intro ls hls h
  obtain⟨d1,d2,d3⟩:=hdp h
  obtain⟨e1,e2⟩:=o2 d1
  refine⟨?_,fun c hc=>?_⟩
  · rw[aTw]
    refine⟨e1,d2,fun c hc c' hc' e=>?_⟩
    subst e
    obtain⟨_,_,s,_,e3⟩:=d3 c hc'
    rw[(e2 c hc).1]at e3;cases e3
  · rcases aTj.1 hc with hc | hc
    · obtain⟨f1,f2⟩:=e2 c hc
      refine⟨f2,?_,.inr (.inl ⟨l,hls,f1⟩)⟩
      rcases(hsim.own c (by rw[f1];simp)).2 with h | ⟨m,h,_⟩
      · exact h
      · rw[f1]at h;cases h
    · obtain⟨f1,f2,s,f3,f4⟩:=d3 c hc
      exact⟨f1,f2,.inl ⟨s,f3,f4⟩⟩
 have himAll:∀ c∈Bo++Bp,Im Γ ow w c:=fun c hc=>(aTj.1 hc).elim (o1 c) (hpi c)
 have hcells0:m=0->ncells=[]:=fun h=>by subst h;simpa using hnl
 have newBlock:∀ (cap:Nat) (cs':Array Value),RelL w.heap true dead ncells cs' (n*sz) Bp->RelL w.heap true dead cells cs' 0 Bo->n+m<=cap->cap*sz<=cs'.size->
  Sim Γ (F.app ⟨(d,⟨.ref d sz 0 (n+m),false⟩)::ks.map (fun j=>(j,⟨.any,false⟩)),[(d,some ⟨cells++ncells,dp',false⟩),(l,none)]⟩) (a.put (some d) (.slice (some ⟨w.heap.size,0,none⟩) (n+m) cap)) (w.drew.alloc (.cells cs' e)):=by
  intro cap cs' h1 h2 h3 h4
  refine hsim.layPut (ks:=ks) (ls:=[l]) (aEx w _) (b0:=w.heap.size) (by show _<(w.heap.push _).size;simp) (fun b hb _=>aJ2 w _ hb) (aJ3 w _) hnd hio (.inl (aTn _)) (.inl hsim.kept.size) ⟨cells++ncells,dp',false⟩ (B:=Bo++Bp) ?_ (by simp) himAll (deepOk [l] (by simp)) hd (fun β' hβ=>?_)
  · refine aWk (β:=dead) (h:=w.heap) _ _ _ _ (fun q _ m _ o hm=>by cases hm) (fun c hc=>aJ2 w _ (himAll c hc).1) ?_
    exact(aWA _ _ _ _ _).2 ⟨Bo,Bp,h2,by rw[aTC,hlen];exact h1,rfl⟩
  · simp only[RelV]
    refine⟨trivial,fun h=>by rw[hβ]at h;simp at h,fun b hb=>?_⟩
    rw[hβ]at hb;cases hb
    exact⟨cap,cs',e,by simp,aJ3 w _,by simpa using h4,h3⟩
 have hzsz:z.cells.size=sz:=z3.trans i2
 have h48:∀ old,old<n+m->Builtin.nextslicecap (n+m) old*i.bytes<=281474976710656:=fun old h=>growslice_fits h (by rw[i3];exact hb)
 rcases hob with⟨p1,p2,p3⟩ | ⟨b,cs,u,p1,p2,p3,p4⟩
 · -- the base is nil
   obtain⟨rfl,_,rfl⟩:=hx.2.1 p1
   simp only at p2;subst p2;subst p3
   by_cases hm:m=0
   · subst hm
     have hnc:=hcells0 rfl
     subst hnc
     have hxv:∃ ad c,xv=.slice ad 0 c:=by
      rcases hN.val with⟨_,ad,c,h⟩ | ⟨x,c,h,_⟩
      · exact⟨ad,c,h⟩
      · exact⟨some x,c,h⟩
     obtain⟨ad,c,rfl⟩:=hxv
     refine⟨.slice none 0 0,w,aCZ (t:=t) (e:=e) (sz:=sz) w ty none ad 0 0 c (aTn _),?_⟩
     obtain⟨ow',h'⟩:=hsim.layNil hnd hio ks [l] dp' false
     have h2:=h'.put (d:=d) (v:=.ref d sz 0 0) (c:=.slice none 0 0) (O:=[]) hd (by simp only[RelV];exact⟨trivial,fun _=>⟨trivial,trivial,trivial⟩,fun b hb=>by simp at hb⟩) (by simp)
     exact⟨_,_,h2⟩
   · rcases hN.val with⟨h0,_⟩ | ⟨x,c,rfl,hnews⟩
     · exact absurd h0 hm
     have hr:=run_append_nil (P:=P) w t ty e i z ht.ok z1 z2 x m c news (by rw[i2];exact hN.len) hnews (by omega) (by omega) (by have:=h48 0 (by omega);rw[nextslicecap_zero (by omega)]at this;simpa using this)
     have hge:=grownCap_ge w m 0 e
     refine⟨_,_,hr,?_⟩
     have:=newBlock (grownCap w m 0 e) (news.toArray++Builtin.zeroCells z.cells (grownCap w m 0 e-m)) (aWJ _ _ _ _ _ _ (fun j hj=>by
      rw[aU6,aVv (by rw[hnl]at hj;simp[hN.len];omega)]) hN.rel) (by simp[RelL]) (by omega) (by
      simp only[Array.size_append,size_zeroCells,List.size_toArray,hN.len,hzsz];rw[<- Nat.add_mul];exact aUj _ (by omega))
     simpa using this
 · obtain⟨cap,cs',u',q1,q2,q3,q4⟩:=hx.2.2 b p1
   rw[p3]at q2;cases q2
   simp only[aU6,aTC]at q1 q3
   subst q1
   have hbne:b<w.heap.size:=hsim.block_lt p1
   have hbase:Γ.nww b:=hsim.fresh l b p1 hiol
   by_cases hm:m=0
   · subst hm
     have hnc:=hcells0 rfl
     subst hnc
     have hxv:∃ ad c,xv=.slice ad 0 c:=by
      rcases hN.val with⟨_,ad,c,h⟩ | ⟨x,c,h,_⟩
      · exact⟨ad,c,h⟩
      · exact⟨some x,c,h⟩
     obtain⟨ad,c,rfl⟩:=hxv
     refine⟨_,w,aCZ (t:=t) (e:=e) (sz:=sz) w ty (some ⟨b,0,none⟩) ad n cap c q4,?_⟩
     have hBp:Bp=[]:=by have:=hN.rel;simpa [RelL]using this
     subst hBp
     refine hsim.layPut (ks:=ks) (ls:=[l]) ⟨rfl,rfl,rfl,aTn _⟩ (b0:=b) hbne (fun _ _ _=>rfl) p3 hnd hio (.inr ⟨l,by simp,p1⟩) hbase ⟨cells++[],dp',false⟩ (B:=Bo) ?_ (by simp) o1 (by simpa using deepOk [l] (by simp)) hd (fun β' hβ=>?_)
     · simpa using p4
     · simp only[RelV]
       refine⟨trivial,fun h=>by rw[hβ]at h;simp at h,fun b' hb=>?_⟩
       rw[hβ]at hb;cases hb
       exact⟨cap,cs,u,by simp,p3,by simpa using q3,by simpa using q4⟩
   · rcases hN.val with⟨h0,_⟩ | ⟨x,c,rfl,hnews⟩
     · exact absurd h0 hm
     by_cases hroom:n+m<=cap
     · have hfit:n*sz+news.length<=cs.size:=by
        rw[hN.len,<- Nat.add_mul];exact aTr (aUj _ hroom) q3
       refine⟨_,_,aIe (t:=t) (e:=e) (sz:=sz) w ty p3 x m c news hN.len hnews hN.one hroom hfit,?_⟩
       have hrow:=setRow_heap w b cs (cs.toList.take (n*sz)++news++cs.toList.drop (n*sz+news.length)).toArray u (0,0) p3
       have himne:∀ c,Im Γ ow w c->c≠b:=by rintro c ⟨_,_,h3⟩ rfl;exact h3 l p2
       have hsize:(cs.toList.take (n*sz)++news++cs.toList.drop (n*sz+news.length)).toArray.size=cs.size:=by simp;omega
       refine hsim.layPut (ks:=ks) (ls:=[l]) (aEa w b _) (b0:=b) (by simpa using hbne) (fun c _ h=>setRow_other w b c _ h) hrow hnd hio (.inr ⟨l,by simp,p1⟩) hbase ⟨cells++ncells,dp',false⟩ (B:=Bo++Bp) ?_ (by simp) himAll (deepOk [l] (by simp)) hd (fun β' hβ=>?_)
       · refine aWk (β:=dead) (h:=w.heap) _ _ _ _ (fun q _ m _ o hm=>by cases hm) (fun c hc=>setRow_other w b c _ (himne c (himAll c hc))) ?_
         have hlt:(cs.toList.take (n*sz)).length=n*sz:=by simp;omega
         refine(aWA _ _ _ _ _).2 ⟨Bo,Bp,aWJ _ _ _ _ _ _ (fun j hj=>?_) p4,aWJ _ _ _ _ _ _ (fun j hj=>?_) hN.rel,rfl⟩
         · simp only[aTC,aUD]
           rw[hlen]at hj
           rw[aTx,aUd (by omega),aUp,aTd hj];simp
         · simp only[aTC,aUD]
           rw[hnl,<- hN.len]at hj
           rw[hlen,aTx,aT0 (by omega),hlt,Nat.add_sub_cancel_left,aUd hj]
       · simp only[RelV]
         refine⟨trivial,fun h=>by rw[hβ]at h;simp at h,fun b' hb=>?_⟩
         rw[hβ]at hb;cases hb
         exact⟨cap,_,u,by simp,hrow,by rw[hsize];simpa using q3,hroom⟩
     · have hcs:n*sz<=cs.size:=aTr (aUj _ (by omega)) q3
       have hr:=run_append_grow (P:=P) w t ty e i z ht.ok z1 z2 ⟨b,0,none⟩ n cap (cs.toList.take (n*sz)) (by rw[i2];simp;omega) (fun j v hj=>by
        rw[aUp]at hj
        split at hj
        · rw[Addr.add_lit,aTC,cell_of_row w b j cs u (0,0) p3];simpa using hj
        · cases hj) x m c news (by rw[i2];exact hN.len) hnews (by omega) (by omega) (h48 cap (by omega))
       have hge:=grownCap_ge w (n+m) cap e
       refine⟨_,_,hr,?_⟩
       have hlt:(cs.toList.take (n*sz)).length=n*sz:=by simp;omega
       refine newBlock (grownCap w (n+m) cap e) _ (aWJ _ _ _ _ _ _ (fun j hj=>?_) hN.rel) (aWJ _ _ _ _ _ _ (fun j hj=>?_) p4) (by omega) ?_
       · rw[hnl,<- hN.len]at hj
         rw[aVv (by simp;omega),Array.getElem?_append_right (by simp;omega)]
         simp[show min (n*sz) cs.size=n*sz by omega]
       · rw[hlen]at hj
         rw[aTC,aVv (by simp;omega),aVv (by simp;omega)]
         simp[hj]
       · simp only[Array.size_append,size_zeroCells,List.size_toArray,hN.len,hzsz,hlt];rw[<- Nat.add_mul,<- Nat.add_mul];exact aUj _ (by omega)
def jK:List PV->Bool
 | []=>true
 | .sc _::r=>jK r
 | _::_=>false
theorem oZ {h:Array Obj}{q:Bool}{β:Nat->Option (Option Nat)}:∀ {ps:List PV} {cs:Array Value} {i:Nat} {B:List Nat},jK ps=true->RelL h q β ps cs i B->B=[]
 | [],_,_,_,_,H=>by simpa [RelL]using H
 | .sc v::ps,cs,i,B,hf,H=>by
  simp only[RelL]at H
  obtain⟨c,B1,B2,_,h2,h3,rfl⟩:=H
  simp only[RelV]at h2
  rw[h2.2,oZ (by simpa [jK]using hf) h3];rfl
 | .sl _ _::_,_,_,_,hf,_=>by simp[jK]at hf
 | .ref _ _ _ _::_,_,_,_,hf,_=>by simp[jK]at hf
 | .ptr _ _::_,_,_,_,hf,_=>by simp[jK]at hf
 | .iptr _::_,_,_,_,hf,_=>by simp[jK]at hf
 | .rw _ _ _::_,_,_,_,hf,_=>by simp[jK]at hf
 | .agg _::_,_,_,_,hf,_=>by simp[jK]at hf
 | .tup _::_,_,_,_,hf,_=>by simp[jK]at hf
 | .any::_,_,_,_,hf,_=>by simp[jK]at hf
theorem fO {α:Type}{l:List α}{enc:α->List PV}(h:∀ y,jK (enc y)=true):jK (l.flatMap enc)=true:=by
 have happ:∀ a b:List PV,jK a=true->jK b=true->jK (a++b)=true:=by
  intro a
  induction a with
  | nil=>intro b _ hb;exact hb
  | cons p r ih =>
   intro b ha hb
   cases p <;> simp[jK]at ha ⊢
   exact ih b ha hb
 induction l with
 | nil=>rfl
 | cons x r ih=>exact happ _ _ (h x) ih
theorem aP3 {m sz:Nat}{ncells:List PV}{c:Value}{B:List Nat}(H:RelV w.heap β (.sl m ncells) c B)(hl:ncells.length=m*sz):∃ Bp news,News w c m sz ncells Bp news/\∀ b∈Bp,b∈B:=by
 simp only[RelV]at H
 rcases H with⟨rfl,rfl,rfl,ad,cap,rfl⟩ | ⟨b,off,cap,cs,u,f,B',⟨rfl,_⟩,h2,h3,rfl⟩
 · exact⟨[],[],⟨by simp,by simp,by simp[RelL],.inl ⟨rfl,ad,cap,rfl⟩⟩,by simp⟩
 · obtain⟨news,h⟩:=aLU (c:=cap) h2 h3 hl
   exact⟨B',news,h,by simp +contextual⟩
theorem aA6 {x y:Operand}{t e sz by_ l n m:Nat}{agg dp:Bool}(scn:Bool){zs cells ncells cells':List PV}{n':Nat}[ht:SlT P t e][hi:TI P e sz agg by_][hz:ZT P e zs](hx:evq S x=some (.ref l sz 0 n))(ho:loq O l=some ⟨cells,dp,false⟩)(hy:evq S y=some (.sl m ncells))
 (hlen:cells.length=n*sz) (hnl:ncells.length=m*sz) (hb:(n+m)*by_<=140737488355328) (h63:n+m<=9223372036854775807) (hio:Γ.io d=none/\Γ.io l=none) (hsc:scn=true->jK ncells=true) (hcat:cells++ncells=cells'/\n+m=n') (hd:Nat.blt d N=true) :
 Local Γ ⟨some d,.call ⟨.builtin .append,#[x,y],#[t,t]⟩,ty,pos,af,g⟩ ⟨S,O⟩ ⟨[(d,⟨.ref d sz 0 n',false⟩)],[(d,some ⟨cells',dp&&scn,false⟩),(l,none)]⟩ (ors x++ors y) [l] [d]:=by
 obtain⟨rfl,rfl⟩:=hcat
 intro F hs hlo hnd
 refine bK fun a w ⟨ow,β,hsim⟩=>?_
 obtain⟨B,h1,h2⟩:=dG hsim hx (fun k hk=>hs k (by simp[hk]))
 obtain⟨By,g1,g2⟩:=dG hsim hy (fun k hk=>hs k (by simp[hk]))
 obtain⟨Bp,news,hN,hsub⟩:=aP3 g1 hnl
 have hB:B=[]:=by simp only[RelV]at h1;exact h1.1
 subst hB
 obtain⟨c,w',e1,e2⟩:=aKb (ty:=ty) (t:=t) (e:=e) (dp':=dp&&scn) hsim h1 (by rw[hlo l (by simp),<- bP];exact ho) hlen hN hnl (fun c hc=>g2 c (hsub c hc)) hb h63 ((aT _ _).1 hd) hio.1 (hnd d (by simp)) hio.2 [] (fun h=>by
  simp only[aTB]at h
  rw[oZ (hsc h.2) hN.rel]
  exact⟨h.1,by simp,by simp⟩)
 refine⟨c,w',?_,e2⟩
 simp[execOp,resolve,invoke,builtin,e1]
theorem aPD {x:Operand}{t e sz by_ l n m s:Nat}{agg dp:Bool}{zs cells ncells cells':List PV}{n':Nat}[ht:SlT P t e][hi:TI P e sz agg by_][hz:ZT P e zs](hx:evq S x=some (.ref l sz 0 n))(ho:loq O l=some ⟨cells,dp,false⟩)(hy:lkq S s=some ⟨.sl m ncells,true⟩)
 (hlen:cells.length=n*sz) (hnl:ncells.length=m*sz) (hb:(n+m)*by_<=140737488355328) (h63:n+m<=9223372036854775807) (hio:Γ.io d=none/\Γ.io l=none) (hcat:cells++ncells=cells'/\n+m=n') (hd:Nat.blt d N=true) :
 Local Γ ⟨some d,.call ⟨.builtin .append,#[x,.tmp s],#[t,t]⟩,ty,pos,af,g⟩ ⟨S,O⟩ ⟨[(d,⟨.ref d sz 0 n',false⟩),(s,⟨.any,false⟩)],[(d,some ⟨cells',dp,false⟩),(l,none)]⟩ (ors x++[s]) [l] [d]:=by
 obtain⟨rfl,rfl⟩:=hcat
 intro F hs hlo hnd
 refine bK fun a w ⟨ow,β,hsim⟩=>?_
 obtain⟨B,h1,h2⟩:=dG hsim hx (fun k hk=>hs k (by simp[hk]))
 obtain⟨By,g1,g2,g3⟩:=hsim.slots s
 rw[(hs s (by simp)).trans (fM hy)]at g1 g3
 have hB:B=[]:=by simp only[RelV]at h1;exact h1.1
 subst hB
 have hN:∃ Bp news,News w (a.tmps.getD s undef) m sz ncells Bp news/\(∀ b∈Bp,b∈By)/\(By.Nodup->Bp.Nodup):=by
  simp only[RelV]at g1
  rcases g1 with⟨rfl,rfl,rfl,ad,cap,e⟩ | ⟨b,off,cap,cs,u,f,B',⟨e,_⟩,h2,h3,rfl⟩
  · rw[e];exact⟨[],[],⟨by simp,by simp,by simp[RelL],.inl ⟨rfl,ad,cap,rfl⟩⟩,by simp,by simp⟩
  · rw[e]
    obtain⟨news,h⟩:=aLU (c:=cap) h2 h3 hnl
    exact⟨B',news,h,by simp +contextual,fun h=>(aUe.1 h).2⟩
 obtain⟨Bp,news,hN,hsub,hnod⟩:=hN
 obtain⟨c,w',e1,e2⟩:=aKb (ty:=ty) (t:=t) (e:=e) (dp':=dp) hsim h1 (by rw[hlo l (by simp),<- bP];exact ho) hlen hN hnl (fun c hc=>g2 c (hsub c hc)) hb h63 ((aT _ _).1 hd) hio.1 (hnd d (by simp)) hio.2 [s] (fun h=>by
  refine⟨h,hnod (g3 rfl).1,fun c hc=>?_⟩
  obtain⟨f1,f2⟩:=(g3 rfl).2 c (hsub c hc)
  refine⟨f2,?_,s,by simp,f1⟩
  rcases(hsim.own c (by rw[f1];simp)).2 with h | ⟨m,h,_⟩
  · exact h
  · rw[f1]at h;cases h)
 have ev:a.eval (.tmp s)=a.tmps.getD s undef:=rfl
 refine⟨c,w',?_,e2⟩
 rw[<- ev]at e1
 simp only[execOp,resolve,invoke,builtin,List.map_toArray,aTo,aT8]
 simp[e1]
end
end Go.Ev
