/- Parts EvF, EvG, EvH, EvI, EvJ, EvK, EvL. -/
import Derived.Test.YtmgbflccodamfaaGreatE1
import Derived.Laws.CopyRow
import Derived.ArgAppend
import Derived.Room.Entries
import Derived.Great.BuildSlice
set_option linter.all false
set_option maxHeartbeats 4000000
set_option maxRecDepth 20000
/- The engine, part F: the rules for single operations. -/
namespace Go.Ev
open Go.RowKit (Below)
def strip:PV->PV
 | .was _ p=>p
 | p=>p
theorem RelV.strip {h:Array Obj}{β:Nat->Option (Option Nat)}{p:PV}{c:Value}{B:List Nat}(H:RelV h β p c B):RelV h β (Ev.strip p) c B:=by
 cases p with
 | was v q=>simp only[RelV]at H;exact H.2
 | _=>exact H
def evq (S:List (Nat×Slot)):Operand->Option PV
 | .tmp t=>match lkq S t with
  | some ⟨v,_⟩=>some (strip v)
  | none=>none
 | .const v=>some (.sc v)
 | _=>none
def ors:Operand->List Nat
 | .tmp t=>[t]
 | _=>[]
def pD:List Operand->List Nat
 | []=>[]
 | .tmp t::r=>t::pD r
 | _::r=>pD r
class TI (P:Program) (t:Nat) (n:outParam Nat) (agg:outParam Bool) (bytes:outParam Nat):Prop where
 ok:(∃ i,P.info? t=some i/\i.size=n/\i.bytes=bytes)/\∃ d,P.underlying t=some d/\(match d with | .struct _ | .array _ _=>true | _=>false)=agg
def tiB (P:Program)(t n:Nat)(agg:Bool)(bytes:Nat):Bool :=
 match P.info? t,P.underlying t with
 | some i,some d=>Nat.beq i.size n&&Nat.beq i.bytes bytes&&((match d with | .struct _ | .array _ _=>true | _=>false) == agg)
 | _,_=>false
theorem TI.of {P:Program}{t n:Nat}{agg:Bool}{bytes:Nat}(h:tiB P t n agg bytes=true):TI P t n agg bytes:=by
 unfold tiB at h
 split at h
 · rename_i i d h1 h2
   simp only[aUP,beq_iff_eq]at h
   exact⟨⟨i,h1,aU0 h.1.1,aU0 h.1.2⟩,d,h2,h.2⟩
 · cases h
class UT (P:Program) (t:Nat) (d:outParam TypeDesc):Prop where
 ok:P.underlying t=some d
class SlT (P:Program) (t:Nat) (e:outParam Nat):Prop where
 ok:P.underlying t=some (.slice e)
class ArT (P:Program) (t:Nat) (len e:outParam Nat):Prop where
 ok:P.underlying t=some (.array len e)
class FldT (P:Program) (t f:Nat) (off:outParam Nat):Prop where
 ok:∃ fs fd i,P.underlying t=some (.struct fs)/\fs[f]?=some fd/\fd.offset=off/\P.info? fd.type=some i/\i.size≠0
def aTv (P:Program)(t f off:Nat):Bool :=
 match P.underlying t with
 | some (.struct fs)=>match fs[f]? with
  | some fd=>match P.info? fd.type with
   | some i=>Nat.beq fd.offset off&&!Nat.beq i.size 0
   | none=>false
  | none=>false
 | _=>false
theorem FldT.of {P:Program}{t f off:Nat}(h:aTv P t f off=true):FldT P t f off:=by
 unfold aTv at h
 split at h
 · rename_i fs h1
   split at h
   · rename_i fd h2
     split at h
     · rename_i i h3
       simp only[aUP,aWj]at h
       refine⟨fs,fd,i,h1,h2,aU0 h.1,h3,fun e=>?_⟩
       rw[e]at h;simp at h
     · cases h
   · cases h
 · cases h
section
variable {P:Program}{N:Nat}{Γ:Ctx P N}{S:List (Nat×Slot)}{O:List (Nat×Option Ob)}
theorem cK {ow:Nat->Own}{β:Nat->Option (Option Nat)}{F:Env}{a:Act}{w:World}(h:SimG Γ ow β F a w){x:Operand}{v:PV}(hv:evq S x=some v)(ha:∀ k∈ors x,lk F.s k=lk S k) :
 ∃ B,RelV w.heap β v (a.eval x) B/\∀ b∈B,Im Γ ow w b:=by
 cases x with
 | tmp t =>
  simp only[evq]at hv
  cases hq:lkq S t with
  | none=>rw[hq]at hv;cases hv
  | some sl =>
   rw[hq]at hv;cases hv
   obtain⟨B,h1,h2,_⟩:=h.slots t
   rw[ha t (by simp[ors]),gH hq]at h1
   exact⟨B,h1.strip,h2⟩
 | const u =>
  simp only[evq]at hv;cases hv
  exact⟨[],by simp[RelV,Act.eval],by simp⟩
 | global g=>cases hv
 | func f=>cases hv
theorem tB {F:Env}{a:Act}{w:World}(h:Sim Γ F a w){x:Operand}{v:Value}(hv:evq S x=some (.sc v))(ha:∀ k∈ors x,lk F.s k=lk S k):a.eval x=v:=by
 obtain⟨ow,β,h⟩:=h
 obtain⟨B,h1,_⟩:=cK h hv ha
 simp only[RelV]at h1
 exact h1.1
theorem aJt {o:Oper}{d:Nat}{v:Value}{rs:List Nat}(hd:o.dst=some d)(hn:Nat.blt d N=true)
 (h:∀ (F:Env) (a:Act) (w:World),Sim Γ F a w->(∀ k∈rs,lk F.s k=lk S k)->(execOp a.eval o).run P w=.ok (.value v) w) :
 Local Γ o ⟨S,O⟩ ⟨[(d,⟨.sc v,false⟩)],[]⟩ rs [] []:=by
 intro F hs _ _
 refine bE fun a w hsim=>⟨v,w,h F a w hsim hs,?_⟩
 obtain⟨ow,β,hsim⟩:=hsim
 rw[hd]
 exact⟨ow,β,hsim.put ((aR _ _).1 hn) (O:=[]) (by simp[RelV]) (by simp)⟩
theorem aJu {o:Oper}{d:Nat}{x:Operand}{v:PV}{rs:List Nat}(hd:o.dst=some d)(hn:Nat.blt d N=true)(hv:evq S x=some v)(hr:∀ k∈ors x,k∈rs)
 (h:∀ (F:Env) (a:Act) (w:World),Sim Γ F a w->(∀ k∈rs,lk F.s k=lk S k)->(execOp a.eval o).run P w=.ok (.value (a.eval x)) w) :
 Local Γ o ⟨S,O⟩ ⟨[(d,⟨v,false⟩)],[]⟩ rs [] []:=by
 intro F hs _ _
 refine bE fun a w hsim=>⟨a.eval x,w,h F a w hsim hs,?_⟩
 obtain⟨ow,β,hsim⟩:=hsim
 obtain⟨B,h1,h2⟩:=cK hsim hv (fun k hk=>hs k (hr k hk))
 rw[hd]
 exact⟨ow,β,hsim.put ((aR _ _).1 hn) h1 h2⟩
variable {d:Nat}{ty:TypeId}{pos:String}{af:Array Edge}{g:Option (Nat×Bool)}
theorem aC0 {x:Operand}{v:PV}(hv:evq S x=some v)(hd:Nat.blt d N=true):Local Γ ⟨some d,.move x,ty,pos,af,g⟩ ⟨S,O⟩ ⟨[(d,⟨v,false⟩)],[]⟩ (ors x) [] [] :=
 aJu rfl hd hv (fun _ h=>h) fun F a w _ _=>by simp[execOp]
theorem aNe {x:Operand}{v:PV}(hv:evq S x=some v)(hd:Nat.blt d N=true):Local Γ ⟨some d,.assign x,ty,pos,af,g⟩ ⟨S,O⟩ ⟨[(d,⟨v,false⟩)],[]⟩ (ors x) [] [] :=
 aJu rfl hd hv (fun _ h=>h) fun F a w _ _=>by simp[execOp]
theorem aP7 {o:Oper}{s:Nat}{v:PV}{dp:Bool}(ho:o.dst=some d)(hop:∀ ρ,execOp ρ o=pure (.value (ρ (.tmp s))))(hv:lkq S s=some ⟨v,dp⟩)(hd:Nat.blt d N=true)(hne:Nat.beq d s=false) :
 Local Γ o ⟨S,O⟩ ⟨[(d,⟨v,dp⟩),(s,⟨.any,false⟩)],[]⟩ [s] [] []:=by
 intro F hs _ _
 refine bE fun a w hsim=>⟨a.eval (.tmp s),w,by rw[hop];simp,?_⟩
 obtain⟨ow,β,hsim⟩:=hsim
 rw[ho]
 obtain⟨ow',h⟩:=hsim.take (s:=s) ((aR _ _).1 hd) (fun e=>by rw[rJ]at hne;simp at hne;exact hne e) (v:=v) (dp:=dp) ((hs s (by simp)).trans (gH hv))
 exact⟨ow',β,h⟩
theorem aSP {s:Nat}{v:PV}{dp:Bool}(hv:lkq S s=some ⟨v,dp⟩)(hd:Nat.blt d N=true)(hne:Nat.beq d s=false) :
 Local Γ ⟨some d,.move (.tmp s),ty,pos,af,g⟩ ⟨S,O⟩ ⟨[(d,⟨v,dp⟩),(s,⟨.any,false⟩)],[]⟩ [s] [] []:=aP7 rfl (fun ρ=>by simp[execOp]) hv hd hne
theorem aS3 {s:Nat}{v:PV}{dp:Bool}(hv:lkq S s=some ⟨v,dp⟩)(hd:Nat.blt d N=true)(hne:Nat.beq d s=false) :
 Local Γ ⟨some d,.assign (.tmp s),ty,pos,af,g⟩ ⟨S,O⟩ ⟨[(d,⟨v,dp⟩),(s,⟨.any,false⟩)],[]⟩ [s] [] []:=aP7 rfl (fun ρ=>by simp[execOp]) hv hd hne
theorem aRd {c x y:Operand}{v:PV}(hc:evq S c=some (.sc (.bool true)))(hv:evq S x=some v)(hd:Nat.blt d N=true):Local Γ ⟨some d,.pick c x y,ty,pos,af,g⟩ ⟨S,O⟩ ⟨[(d,⟨v,false⟩)],[]⟩ (ors c++ors x) [] [] :=
 aJu rfl hd hv (fun _ h=>by simp[h]) fun F a w hsim hs=>by
  have:=tB hsim hc (fun k hk=>hs k (by simp[hk]))
  simp[execOp,this,asBool]
theorem aRe {c x y:Operand}{v:PV}(hc:evq S c=some (.sc (.bool false)))(hv:evq S y=some v)(hd:Nat.blt d N=true):Local Γ ⟨some d,.pick c x y,ty,pos,af,g⟩ ⟨S,O⟩ ⟨[(d,⟨v,false⟩)],[]⟩ (ors c++ors y) [] [] :=
 aJu rfl hd hv (fun _ h=>by simp[h]) fun F a w hsim hs=>by
  have:=tB hsim hc (fun k hk=>hs k (by simp[hk]))
  simp[execOp,this,asBool]
theorem aTS {x:Operand}{u:TypeId}{b:Bool}(hx:evq S x=some (.sc (.bool b)))(hd:Nat.blt d N=true):Local Γ ⟨some d,.unOp .not u x,ty,pos,af,g⟩ ⟨S,O⟩ ⟨[(d,⟨.sc (.bool (!b)),false⟩)],[]⟩ (ors x) [] [] :=
 aJt rfl hd fun F a w hsim hs=>by
  have:=tB hsim hx hs
  simp[execOp,this,Op.unary]
theorem aHr {x:Operand}{u:TypeId}{k:IntKind}{n r:Int}(hx:evq S x=some (.sc (.int k n)))(hr:k.wrap (0-n)=r)(hd:Nat.blt d N=true):Local Γ ⟨some d,.unOp .neg u x,ty,pos,af,g⟩ ⟨S,O⟩ ⟨[(d,⟨.sc (.int k r),false⟩)],[]⟩ (ors x) [] [] :=
 aJt rfl hd fun F a w hsim hs=>by
  have:=tB hsim hx hs
  subst hr
  simp[execOp,this,Op.unary,Op.intArith]
section bin
variable {x y:Operand}{u u':TypeId}
theorem uO {op:BinOp}{a0 b0 c:Value}(hx:evq S x=some (.sc a0))(hy:evq S y=some (.sc b0))(hd:Nat.blt d N=true)
 (h:∀ w,(do eqGuard op u x y a0 b0;binOp op u a0 b0:Sem Value).run P w=.ok c w):Local Γ ⟨some d,.binOp op u x y u',ty,pos,af,g⟩ ⟨S,O⟩ ⟨[(d,⟨.sc c,false⟩)],[]⟩ (ors x++ors y) [] [] :=
 aJt rfl hd fun F a w hsim hs=>by
  have h1:=tB hsim hx (fun k hk=>hs k (by simp[hk]))
  have h2:=tB hsim hy (fun k hk=>hs k (by simp[hk]))
  have h3:=h w
  simp only[execOp,h1,h2]
  rw[Sem.run_bind,h3];rfl
variable {k:IntKind}{m n r:Int}
theorem aTq (m n:Int):(m == n)=decide (m=n):=by by_cases h:m=n <;> simp[h]
theorem aT1 (hx:evq S x=some (.sc (.int k m)))(hy:evq S y=some (.sc (.int k n)))(hr:k.wrap (m+n)=r)(hd:Nat.blt d N=true) :
 Local Γ ⟨some d,.binOp .add u x y u',ty,pos,af,g⟩ ⟨S,O⟩ ⟨[(d,⟨.sc (.int k r),false⟩)],[]⟩ (ors x++ors y) [] [] :=
 uO hx hy hd fun w=>by subst hr;simp[eqGuard,binOp,Op.intArith]
theorem aTM (hx:evq S x=some (.sc (.int k m)))(hy:evq S y=some (.sc (.int k n)))(hr:k.wrap (m-n)=r)(hd:Nat.blt d N=true) :
 Local Γ ⟨some d,.binOp .sub u x y u',ty,pos,af,g⟩ ⟨S,O⟩ ⟨[(d,⟨.sc (.int k r),false⟩)],[]⟩ (ors x++ors y) [] [] :=
 uO hx hy hd fun w=>by subst hr;simp[eqGuard,binOp,Op.intArith]
theorem aTT (hx:evq S x=some (.sc (.int k m)))(hy:evq S y=some (.sc (.int k n)))(hr:k.wrap (m*n)=r)(hd:Nat.blt d N=true) :
 Local Γ ⟨some d,.binOp .mul u x y u',ty,pos,af,g⟩ ⟨S,O⟩ ⟨[(d,⟨.sc (.int k r),false⟩)],[]⟩ (ors x++ors y) [] [] :=
 uO hx hy hd fun w=>by subst hr;simp[eqGuard,binOp,Op.intArith]
theorem aTR (hx:evq S x=some (.sc (.int k m)))(hy:evq S y=some (.sc (.int k n)))(hn:n≠0)(hr:k.wrap (m.tdiv n)=r)(hd:Nat.blt d N=true) :
 Local Γ ⟨some d,.binOp .quo u x y u',ty,pos,af,g⟩ ⟨S,O⟩ ⟨[(d,⟨.sc (.int k r),false⟩)],[]⟩ (ors x++ors y) [] [] :=
 uO hx hy hd fun w=>by subst hr;simp[eqGuard,binOp,Op.intDiv,hn]
theorem aTQ (hx:evq S x=some (.sc (.int k m)))(hy:evq S y=some (.sc (.int k n)))(hn:n≠0)(hr:m.tmod n=r)(hd:Nat.blt d N=true) :
 Local Γ ⟨some d,.binOp .rem u x y u',ty,pos,af,g⟩ ⟨S,O⟩ ⟨[(d,⟨.sc (.int k r),false⟩)],[]⟩ (ors x++ors y) [] [] :=
 uO hx hy hd fun w=>by subst hr;simp[eqGuard,binOp,Op.intDiv,hn]
theorem aRV (hx:evq S x=some (.sc (.int k m)))(hy:evq S y=some (.sc (.int k n)))(hd:Nat.blt d N=true) :
 Local Γ ⟨some d,.binOp .eql u x y u',ty,pos,af,g⟩ ⟨S,O⟩ ⟨[(d,⟨.sc (.bool (decide (m=n))),false⟩)],[]⟩ (ors x++ors y) [] [] :=
 uO hx hy hd fun w=>by simp[eqGuard,binOp,Op.intCmp];exact aTq m n
theorem aRP (hx:evq S x=some (.sc (.int k m)))(hy:evq S y=some (.sc (.int k n)))(hd:Nat.blt d N=true) :
 Local Γ ⟨some d,.binOp .neq u x y u',ty,pos,af,g⟩ ⟨S,O⟩ ⟨[(d,⟨.sc (.bool (decide (m≠n))),false⟩)],[]⟩ (ors x++ors y) [] [] :=
 uO hx hy hd fun w=>by simp[eqGuard,binOp,Op.intCmp,bne];exact aTq m n
theorem aRQ (hx:evq S x=some (.sc (.int k m)))(hy:evq S y=some (.sc (.int k n)))(hd:Nat.blt d N=true) :
 Local Γ ⟨some d,.binOp .lss u x y u',ty,pos,af,g⟩ ⟨S,O⟩ ⟨[(d,⟨.sc (.bool (decide (m<n))),false⟩)],[]⟩ (ors x++ors y) [] [] :=
 uO hx hy hd fun w=>by simp[eqGuard,binOp,Op.intCmp]
theorem aRR (hx:evq S x=some (.sc (.int k m)))(hy:evq S y=some (.sc (.int k n)))(hd:Nat.blt d N=true) :
 Local Γ ⟨some d,.binOp .leq u x y u',ty,pos,af,g⟩ ⟨S,O⟩ ⟨[(d,⟨.sc (.bool (decide (m<=n))),false⟩)],[]⟩ (ors x++ors y) [] [] :=
 uO hx hy hd fun w=>by simp[eqGuard,binOp,Op.intCmp]
theorem aRT (hx:evq S x=some (.sc (.int k m)))(hy:evq S y=some (.sc (.int k n)))(hd:Nat.blt d N=true) :
 Local Γ ⟨some d,.binOp .gtr u x y u',ty,pos,af,g⟩ ⟨S,O⟩ ⟨[(d,⟨.sc (.bool (decide (n<m))),false⟩)],[]⟩ (ors x++ors y) [] [] :=
 uO hx hy hd fun w=>by simp[eqGuard,binOp,Op.intCmp]
theorem aRU (hx:evq S x=some (.sc (.int k m)))(hy:evq S y=some (.sc (.int k n)))(hd:Nat.blt d N=true) :
 Local Γ ⟨some d,.binOp .geq u x y u',ty,pos,af,g⟩ ⟨S,O⟩ ⟨[(d,⟨.sc (.bool (decide (n<=m))),false⟩)],[]⟩ (ors x++ors y) [] [] :=
 uO hx hy hd fun w=>by simp[eqGuard,binOp,Op.intCmp]
variable {s t:ByteArray}
theorem aFI {s t:ByteArray}:s.toList=t.toList↔s=t:=by
 constructor
 · intro h
   rw[ByteArray.toList_eq,ByteArray.toList_eq]at h
   cases s;cases t
   simp at h;simp[h]
 · intro h;rw[h]
theorem aL3 (hx:evq S x=some (.sc (.string s)))(hy:evq S y=some (.sc (.string t)))(hd:Nat.blt d N=true) :
 Local Γ ⟨some d,.binOp .eql u x y u',ty,pos,af,g⟩ ⟨S,O⟩ ⟨[(d,⟨.sc (.bool (decide (s=t))),false⟩)],[]⟩ (ors x++ors y) [] [] :=
 uO hx hy hd fun w=>by simp[eqGuard,binOp,Op.stringOp];by_cases h:s=t <;> simp[h,aFI]
theorem aL2 (hx:evq S x=some (.sc (.string s)))(hy:evq S y=some (.sc (.string t)))(hd:Nat.blt d N=true) :
 Local Γ ⟨some d,.binOp .neq u x y u',ty,pos,af,g⟩ ⟨S,O⟩ ⟨[(d,⟨.sc (.bool (decide (s≠t))),false⟩)],[]⟩ (ors x++ors y) [] [] :=
 uO hx hy hd fun w=>by simp[eqGuard,binOp,Op.stringOp];by_cases h:s=t <;> simp[h,aFI]
theorem aSO (hx:evq S x=some (.sc (.string s)))(hy:evq S y=some (.sc (.string t)))(hb:s.size+t.size<=9223372036854775807)(hd:Nat.blt d N=true) :
 Local Γ ⟨some d,.binOp .add u x y u',ty,pos,af,g⟩ ⟨S,O⟩ ⟨[(d,⟨.sc (.string (s++t)),false⟩)],[]⟩ (ors x++ors y) [] [] :=
 uO hx hy hd fun w=>by simp only[eqGuard];simp[binOp,run_string_add_sum _ s t hb]
theorem aQc {p q:Bool}[hu:UT P u .bool](hx:evq S x=some (.sc (.bool p)))(hy:evq S y=some (.sc (.bool q)))(hd:Nat.blt d N=true) :
 Local Γ ⟨some d,.binOp .eql u x y u',ty,pos,af,g⟩ ⟨S,O⟩ ⟨[(d,⟨.sc (.bool (p == q)),false⟩)],[]⟩ (ors x++ors y) [] [] :=
 uO hx hy hd fun w=>by simp[eqGuard,run_eql_bool w u p q hu.ok]
theorem aS2 {p q:Bool}[hu:UT P u .bool](hx:evq S x=some (.sc (.bool p)))(hy:evq S y=some (.sc (.bool q)))(hd:Nat.blt d N=true) :
 Local Γ ⟨some d,.binOp .neq u x y u',ty,pos,af,g⟩ ⟨S,O⟩ ⟨[(d,⟨.sc (.bool (!(p == q))),false⟩)],[]⟩ (ors x++ors y) [] [] :=
 uO hx hy hd fun w=>by simp[eqGuard,run_neq_bool w u p q hu.ok]
end bin
theorem aNc {ops rest:List Oper}{K:List Item->Env->Prop}{acc:List Item}{o:Oper}{p:Prop}{_hp:Decidable p}{rs ro gs:List Nat}(hl:Local Γ o ⟨S,O⟩ ⟨[(d,⟨.sc (.bool (decide p)),false⟩)],[]⟩ rs ro [])(hg:gd N ops S true o.guard=some gs)
 (ht:p->Run Γ ops K rest (⟨⟨[(d,⟨.sc (.bool true),false⟩)],[]⟩,gs++rs,ro,[]⟩::acc) ⟨(d,⟨.sc (.bool true),false⟩)::S,O⟩)
 (hf:¬p->Run Γ ops K rest (⟨⟨[(d,⟨.sc (.bool false),false⟩)],[]⟩,gs++rs,ro,[]⟩::acc) ⟨(d,⟨.sc (.bool false),false⟩)::S,O⟩):Run Γ ops K (o::rest) acc ⟨S,O⟩:=by
 by_cases h:p
 · rw[aUu h]at hl;exact aXb hl hg rfl (ht h)
 · rw[aUt h]at hl;exact aXb hl hg rfl (hf h)
theorem aHk {ops rest:List Oper}{K:List Item->Env->Prop}{acc:List Item}{o:Oper}{b dp:Bool}{rs ro gs:List Nat}(hl:Local Γ o ⟨S,O⟩ ⟨[(d,⟨.sc (.bool b),dp⟩)],[]⟩ rs ro [])(hg:gd N ops S true o.guard=some gs)
 (ht:b=true->Run Γ ops K rest (⟨⟨[(d,⟨.sc (.bool true),dp⟩)],[]⟩,gs++rs,ro,[]⟩::acc) ⟨(d,⟨.sc (.bool true),dp⟩)::S,O⟩)
 (hf:b=false->Run Γ ops K rest (⟨⟨[(d,⟨.sc (.bool false),dp⟩)],[]⟩,gs++rs,ro,[]⟩::acc) ⟨(d,⟨.sc (.bool false),dp⟩)::S,O⟩):Run Γ ops K (o::rest) acc ⟨S,O⟩:=by
 cases b
 · exact aXb hl hg rfl (hf rfl)
 · exact aXb hl hg rfl (ht rfl)
theorem aS0 {x:Operand}{src dst:TypeId}{k q:IntKind}{n r:Int}{ds:TypeDesc}[hs:UT P src ds][ht:UT P dst (.int q)](hx:evq S x=some (.sc (.int k n)))(hr:q.wrap n=r)(hd:Nat.blt d N=true) :
 Local Γ ⟨some d,.convert src dst x,ty,pos,af,g⟩ ⟨S,O⟩ ⟨[(d,⟨.sc (.int q r),false⟩)],[]⟩ (ors x) [] [] :=
 aJt rfl hd fun F a w hsim hl=>by
  have:=tB hsim hx hl
  subst hr
  simp[execOp,this,convert,run_underlying ht.ok,run_underlying hs.ok,Conv.intToInt]
theorem aHR {h:Array Obj}{β:Nat->Option (Option Nat)}{n:Nat}{cells:List PV}{c:Value}{B:List Nat}(H:RelV h β (.sl n cells) c B):∃ a cap,c=.slice a n cap:=by
 simp only[RelV]at H
 rcases H with⟨rfl,_,_,a,cap,rfl⟩ | ⟨b,off,cap,_,_,_,_,⟨rfl,_⟩,_⟩
 · exact⟨a,cap,rfl⟩
 · exact⟨_,cap,rfl⟩
theorem aMi {t ty:TypeId}{e:Nat}(ht:P.underlying t=some (.slice e))(a:Option Addr)(n cap:Nat)(w:World):(Builtin.len_ #[t] ty #[.slice a n cap]).run P w=.ok (.int .i64 n) w:=by
 simp[Builtin.len_,run_underlying ht,goInt]
theorem aTV {x:Operand}{t e:Nat}[ht:SlT P t e]{n:Nat}{cells:List PV}(hx:evq S x=some (.sl n cells))(hd:Nat.blt d N=true) :
 Local Γ ⟨some d,.call ⟨.builtin .len,#[x],#[t]⟩,ty,pos,af,g⟩ ⟨S,O⟩ ⟨[(d,⟨.sc (.int .i64 n),false⟩)],[]⟩ (ors x) [] [] :=
 aJt rfl hd fun F a w hsim hs=>by
  obtain⟨ow,β,hsim⟩:=hsim
  obtain⟨B,h1,_⟩:=cK hsim hx hs
  obtain⟨ad,cap,h2⟩:=aHR h1
  simp[execOp,resolve,invoke,builtin,h2,aMi ht.ok]
theorem aSR {x:Operand}{t e:Nat}[ht:SlT P t e]{l s off n:Nat}{ob:Ob}(hx:evq S x=some (.ref l s off n))(ho:loq O l=some ob)(hd:Nat.blt d N=true) :
 Local Γ ⟨some d,.call ⟨.builtin .len,#[x],#[t]⟩,ty,pos,af,g⟩ ⟨S,O⟩ ⟨[(d,⟨.sc (.int .i64 n),false⟩)],[]⟩ (ors x) [l] []:=by
 intro F hs hl _
 refine bE fun a w hsim=>⟨.int .i64 n,w,?_,?_⟩
 · obtain⟨ow,β,hsim⟩:=hsim
   obtain⟨B,h1,_⟩:=cK hsim hx hs
   simp only[RelV]at h1
   obtain⟨_,_,_,hob⟩:=hsim.objs l ob (by rw[hl l (by simp),<- dA];exact ho)
   have h2:∃ ad cap,a.eval x=.slice ad n cap:=by
    rcases hob with⟨g1,_⟩ | ⟨b,cs,t,g1,_⟩
    · obtain⟨rfl,_,e⟩:=h1.2.1 g1;exact⟨_,_,e⟩
    · obtain⟨cap,_,_,e,_⟩:=h1.2.2 b g1;exact⟨_,_,e⟩
   obtain⟨ad,cap,h2⟩:=h2
   simp[execOp,resolve,invoke,builtin,h2,aMi ht.ok]
 · obtain⟨ow,β,hsim⟩:=hsim
   exact⟨ow,β,hsim.put ((aR _ _).1 hd) (O:=[]) (by simp[RelV]) (by simp)⟩
theorem aL4 {x:Operand}{t:Nat}{s:ByteArray}[ht:UT P t .string](hx:evq S x=some (.sc (.string s)))(hd:Nat.blt d N=true) :
 Local Γ ⟨some d,.call ⟨.builtin .len,#[x],#[t]⟩,ty,pos,af,g⟩ ⟨S,O⟩ ⟨[(d,⟨.sc (.int .i64 s.size),false⟩)],[]⟩ (ors x) [] [] :=
 aJt rfl hd fun F a w hsim hs=>by
  have:=tB hsim hx hs
  simp[execOp,resolve,invoke,builtin,this,run_len_string w t ty s ht.ok,goInt]
theorem aP8 {x i:Operand}{t:Nat}{s:ByteArray}{k:IntKind}{j:Int}[ht:UT P t .string](hx:evq S x=some (.sc (.string s)))(hi:evq S i=some (.sc (.int k j)))(hb:0<=j/\j<s.size)(hd:Nat.blt d N=true) :
 Local Γ ⟨some d,.index t x i,ty,pos,af,g⟩ ⟨S,O⟩ ⟨[(d,⟨.sc (.int .u8 (s.data.toList.getD j.toNat 0).toNat),false⟩)],[]⟩ (ors x++ors i) [] [] :=
 aJt rfl hd fun F a w hsim hs=>by
  have h1:=tB hsim hx (fun k hk=>hs k (by simp[hk]))
  have h2:=tB hsim hi (fun k hk=>hs k (by simp[hk]))
  have hlt:j.toNat<s.size:=by omega
  have e:(s.data.toList.getD j.toNat 0)=s[j.toNat]:=by
   rw[aUU,aUG (by simpa using hlt)];rfl
  simp[execOp,h1,h2,Instr.index,asIntOf,run_underlying ht.ok,hb.1,ByteArray.getElem?_lt' s j.toNat hlt]
  rw[aUU]at e
  simp at e
  rw[e]
theorem aTU {x y:Operand}{t t':Nat}{k k':IntKind}{m n:Int}(hx:evq S x=some (.sc (.int k m)))(hy:evq S y=some (.sc (.int k' n)))(hd:Nat.blt d N=true) :
 Local Γ ⟨some d,.call ⟨.builtin .max,#[x,y],#[t,t']⟩,ty,pos,af,g⟩ ⟨S,O⟩ ⟨[(d,⟨.sc (.int k (max m n)),false⟩)],[]⟩ (ors x++ors y) [] [] :=
 aJt rfl hd fun F a w hsim hs=>by
  have h1:=tB hsim hx (fun k hk=>hs k (by simp[hk]))
  have h2:=tB hsim hy (fun k hk=>hs k (by simp[hk]))
  have e:(if n > m then n else m)=max m n:=by omega
  simp[execOp,resolve,invoke,builtin,h1,h2,run_max_int2]
  exact e
end
/- The engine, part G: functions: what a call is said to give, how it is proved, how it is used. -/
open Go.RowKit (Below)
def RelArgs (h:Array Obj)(ok:Nat->Prop):List PV->List Value->Prop
 | [],[]=>True
 | p::ps,c::cs=>(∃ B,RelV h dead p c B/\∀ b∈B,ok b)/\RelArgs h ok ps cs
 | _,_=>False
def Meets (P:Program)(f:FuncId)(args:List PV)(r:PV)(deep:Bool):Prop :=
 ∀ (w:World) (cargs:Array Value) (ok:Nat->Prop),RelArgs w.heap ok args cargs.toList->
  Calls P f cargs w fun e w'=>∃ c B,e=.returned c/\Below w.heap.size w w'/\RelV w'.heap dead r c B/\(∀ b∈B,ok b\/w.heap.size<=b)/\(deep=true->B.Nodup/\∀ b∈B,w.heap.size<=b/\gA w' b)
theorem Meets.weak {P:Program}{f:FuncId}{args:List PV}{r:PV}{deep:Bool}(h:Meets P f args r deep):Meets P f args r false :=
 fun w cargs ok ha=>(h w cargs ok ha).mono fun _ _ ⟨c,B,h1,h2,h3,h4,_⟩=>⟨c,B,h1,h2,h3,h4,by simp⟩
def iY:List PV->Nat->List (Nat×Slot)
 | [],_=>[]
 | p::r,k=>(k,⟨p,false⟩)::iY r (k+1)
theorem pB:∀ (ps:List PV) (i k:Nat),lk (iY ps i) k=if i<=k/\k-i<ps.length then⟨ps.getD (k-i) .any,false⟩else⟨.any,false⟩
 | [],i,k=>by simp[iY,lk]
 | p::r,i,k=>by
  rw[iY,gI,pB r (i+1) k]
  by_cases h:i=k
  · subst h;simp
  · rw[aUq h]
    by_cases h2:i+1<=k/\k-(i+1)<r.length
    · rw[aUs h2,aUs (by simp;omega)]
      have:k-i=(k-(i+1))+1:=by omega
      rw[this];simp
    · rw[aUq h2,aUq (by simp;omega)]
theorem RelArgs.get {h:Array Obj}{ok:Nat->Prop}:∀ {ps:List PV} {cs:List Value},RelArgs h ok ps cs->ps.length=cs.length/\∀ k,k<ps.length->∃ B,RelV h dead (ps.getD k .any) (cs.getD k undef) B/\∀ b∈B,ok b
 | [],[],_=>⟨rfl,fun k hk=>by simp at hk⟩
 | p::ps,c::cs,H=>by
  obtain⟨h1,h2⟩:=H
  obtain⟨h3,h4⟩:=RelArgs.get h2
  refine⟨by simp[h3],fun k hk=>?_⟩
  cases k with
  | zero=>simpa using h1
  | succ k=>simpa using h4 k (by simpa using hk)
 | [],_::_,H=>H.elim
 | _::_,[],H=>H.elim
inductive ResO where
 | slot (k:Nat)
 | obj (l:Nat)
 | none
 deriving DecidableEq
def ResO.own:ResO->Own
 | .slot k=>.slot k
 | .obj l=>.obj l
 | .none=>.none
def pC (tmps:Array Value):ResultVar->Sem Value
 | .tmp t=>pure (tmps.getD t undef)
 | .cell a t=>do loadVar t (<- asAddr (tmps.getD a undef))
section
variable {P:Program}{N:Nat}{Γ:Ctx P N}{S:List (Nat×Slot)}{O:List (Nat×Option Ob)}
def Res1 (Γ:Ctx P N)(E:Env)(rv:ResultVar)(p:PV)(o:ResO):Prop :=
 ∀ ow β a w,SimG Γ ow β E a w->∃ c B,(pC a.tmps rv).run P w=.ok c w/\RelV w.heap dead p c B/\(∀ b∈B,b<w.heap.size/\(Γ.ok b\/Γ.nw b))/\(o≠.none->B.Nodup/\∀ b∈B,gA w b/\Γ.nw b/\(ow b=o.own\/∃ l,ow b=.lab l/\o=.obj l))
def RetIs (Γ:Ctx P N)(rs:Array ResultVar)(E:Env)(r:PV)(deep:Bool):Prop :=
 ∀ fn:Func,fn.results=rs->∀ a w,Sim Γ E a w->∃ c B,(results fn a.tmps).run P w=.ok c w/\RelV w.heap dead r c B/\(∀ b∈B,b<w.heap.size/\(Γ.ok b\/Γ.nw b))/\(deep=true->B.Nodup/\∀ b∈B,gA w b/\Γ.nw b)
def ends (Γ:Ctx P N)(rs:Array ResultVar)(r:PV)(deep:Bool):Exit->Env->Prop
 | .normal,E=>RetIs Γ rs E r deep
 | .ret,E=>RetIs Γ rs E r deep
 | _,_=>False
theorem Meets.intro {f:FuncId}{fn:Func}{c:Code}{args:List PV}{r:PV}{deep:Bool}{rs:Array ResultVar}(hf:P.funcs[f]?=some fn)(hb:fn.body=some c)(hN:fn.ntmps=N)(hrs:fn.results=rs)(hn:Nat.ble args.length N=true)
 (h:∀ Γ:Ctx P N,Γ.io=(fun _=>none)->CodeT Γ c ⟨iY args 0,[]⟩ (ends Γ rs r deep)):Meets P f args r deep:=by
 intro w cargs ok ha
 obtain⟨h1,h2⟩:=ha.get
 have hn:=aUZ hn
 let Γ:Ctx P N:={ base:=w.heap.size,ok:=fun b=>ok b,io:=fun _=>none,w0:=w,mine:=fun _=>False,lent:=fun _=>False }
 have hsz:(cargs++Array.replicate (fn.ntmps-cargs.size) undef).size=N:=by
  have:cargs.size=args.length:=by rw[h1];simp
  simp[this,hN];omega
 refine calls_of_wp hf hb ?_
 have hsim:Sim Γ ⟨iY args 0,[]⟩ { tmps:=cargs++Array.replicate (fn.ntmps-cargs.size) undef,defers:=[] } w:=by
  refine⟨fun _=>.none,fun _=>none,{ size:=hsz,defers:=rfl,kept:=⟨rfl,rfl,rfl,aUI _,fun _ _ _ _=>rfl,fun b _ _ cs t h=>⟨cs,h,rfl⟩⟩,slots:=fun k=>?_,objs:=fun l ob hl=>(by simp[lo]at hl),gone:=fun _ _=>rfl,own:=fun b hb=>absurd rfl hb,ios:=fun l b hl=>(by cases hl),fresh:=fun l b hl=>(by cases hl) }⟩
  rw[pB]
  by_cases hk:k<args.length
  · rw[aUs ⟨aVk _,by simpa using hk⟩]
    obtain⟨B,g1,g2⟩:=h2 k hk
    refine⟨B,?_,fun b hb=>⟨aXA _ _ _ g1 b hb,.inl (g2 b hb),fun l=>by simp⟩,by simp⟩
    have e:(cargs++Array.replicate (fn.ntmps-cargs.size) undef).getD k undef=cargs.toList.getD k undef:=by
     have hlt:k<cargs.size:=by rw[h1]at hk;simpa using hk
     simp[aUV,aVF,hlt,aUU]
    rw[e]
    simp only[aWt]
    exact aXt _ _ _ (fun l _=>by intro ob h;cases h) (fun _ _=>rfl) g1
  · rw[aUq (by simpa using hk)]
    exact⟨[],by simp[RelV],by simp,by simp⟩
 refine wp_mono (h Γ rfl _ _ hsim) fun e a' w' ⟨E',hs',hq⟩=>?_
 have fin:RetIs Γ rs E' r deep->a'.defers=[]/\∃ v,(results fn a'.tmps).run P w'=.ok v w'/\∃ c B,Ending.returned v=.returned c/\Below w.heap.size w w'/\RelV w'.heap dead r c B/\(∀ b∈B,ok b\/w.heap.size<=b)/\(deep=true->B.Nodup/\∀ b∈B,w.heap.size<=b/\gA w' b):=by
  intro hr
  obtain⟨c,B,g1,g2,g3,g4⟩:=hr fn hrs a' w' hs'
  obtain⟨ow,β,hs'⟩:=hs'
  refine⟨hs'.defers,c,g1,c,B,rfl,⟨hs'.kept.os,hs'.kept.tape,hs'.kept.output,hs'.kept.size,fun k hk=>hs'.kept.old k hk (fun l=>by simp[Γ]) (fun h=>h)⟩,g2,fun b hb=>(g3 b hb).2.imp id (fun h=>(h.elim id False.elim:Γ.nww b).elim id False.elim),fun hd=>⟨(g4 hd).1,fun b hb=>⟨(((g4 hd).2 b hb).2.elim id False.elim:Γ.nww b).elim id False.elim,((g4 hd).2 b hb).1⟩⟩⟩
 cases e with
 | normal=>exact fin hq
 | ret=>exact fin hq
 | exit id=>exact hq.elim
 | goto l=>exact hq.elim
 | panic ch=>exact hq.elim
 | outgrown=>exact hq.elim
theorem aBE (fn:Func)(tmps:Array Value):results fn tmps=(do let vs <- fn.results.mapM (pC tmps);pure (if h:vs.size=1 then vs[0]else .tuple vs)):=by
 unfold results
 congr 1
theorem zK {rv:ResultVar}{fn:Func}(h:fn.results=#[rv])(tmps:Array Value):results fn tmps=pC tmps rv:=by
 unfold results
 rw[h]
 cases rv with
 | tmp t=>simp[pC]
 | cell a t=>simp[pC]
theorem aIQ {rv1 rv2:ResultVar}{fn:Func}(h:fn.results=#[rv1,rv2])(tmps:Array Value)(w:World){c1 c2:Value}(h1:(pC tmps rv1).run P w=.ok c1 w)(h2:(pC tmps rv2).run P w=.ok c2 w):(results fn tmps).run P w=.ok (.tuple #[c1,c2]) w:=by
 rw[aBE,h]
 simp[h1,h2]
theorem aIP {rv1 rv2 rv3:ResultVar}{fn:Func}(h:fn.results=#[rv1,rv2,rv3])(tmps:Array Value)(w:World){c1 c2 c3:Value}(h1:(pC tmps rv1).run P w=.ok c1 w)(h2:(pC tmps rv2).run P w=.ok c2 w)(h3:(pC tmps rv3).run P w=.ok c3 w):(results fn tmps).run P w=.ok (.tuple #[c1,c2,c3]) w:=by
 rw[aBE,h]
 simp[h1,h2,h3]
theorem aIO {rv1 rv2 rv3 rv4:ResultVar}{fn:Func}(h:fn.results=#[rv1,rv2,rv3,rv4])(tmps:Array Value)(w:World){c1 c2 c3 c4:Value}(h1:(pC tmps rv1).run P w=.ok c1 w)(h2:(pC tmps rv2).run P w=.ok c2 w)(h3:(pC tmps rv3).run P w=.ok c3 w)(h4:(pC tmps rv4).run P w=.ok c4 w):(results fn tmps).run P w=.ok (.tuple #[c1,c2,c3,c4]) w:=by
 rw[aBE,h]
 simp[h1,h2,h3,h4]
theorem Res1.sc {t:Nat}{v:Value}{dp:Bool}(h:lkq S t=some ⟨.sc v,dp⟩):Res1 Γ ⟨S,O⟩ (.tmp t) (.sc v) .none:=by
 intro ow β a w hs
 obtain⟨B,h1,_,_⟩:=hs.slots t
 rw[gH h]at h1
 simp only[RelV]at h1
 exact⟨v,[],by simp[pC,<- h1.1],by simp[RelV],by simp,by simp⟩
theorem Res1.val {t:Nat}{p:PV}{dp:Bool}(h:lkq S t=some ⟨p,dp⟩)(hl:p.labs=[]):Res1 Γ ⟨S,O⟩ (.tmp t) p .none:=by
 intro ow β a w hs
 obtain⟨B,h1,h2,_⟩:=hs.slots t
 rw[gH h]at h1
 exact⟨_,B,rfl,aXt _ _ _ (fun l hl'=>by rw[hl]at hl';cases hl') (fun _ _=>rfl) h1,fun b hb=>⟨(h2 b hb).1,(h2 b hb).2.1⟩,by simp⟩
theorem Res1.nil {t:Nat}{dp:Bool}(h:lkq S t=some ⟨.sc (.slice none 0 0),dp⟩):Res1 Γ ⟨S,O⟩ (.tmp t) (.sl 0 []) (.slot t):=by
 intro ow β a w hs
 obtain⟨B,h1,_,_⟩:=hs.slots t
 rw[gH h]at h1
 simp only[RelV]at h1
 exact⟨_,[],rfl,by simp only[RelV];exact .inl ⟨trivial,trivial,trivial,_,_,h1.1⟩,by simp,by simp⟩
theorem Res1.deep {t:Nat}{p:PV}(h:lkq S t=some ⟨p,true⟩)(hl:p.labs=[]):Res1 Γ ⟨S,O⟩ (.tmp t) p (.slot t):=by
 intro ow β a w hs
 obtain⟨B,h1,h2,h3⟩:=hs.slots t
 rw[gH h]at h1 h3
 refine⟨_,B,rfl,aXt _ _ _ (fun l hl'=>by rw[hl]at hl';cases hl') (fun _ _=>rfl) h1,fun b hb=>⟨(h2 b hb).1,(h2 b hb).2.1⟩,fun _=>⟨(h3 rfl).1,fun b hb=>?_⟩⟩
 obtain⟨g1,g2⟩:=(h3 rfl).2 b hb
 refine⟨g2,?_,.inl g1⟩
 rcases(hs.own b (by rw[g1];simp)).2 with g | ⟨l,g,_⟩
 · exact g
 · rw[g1]at g;cases g
theorem RetIs.one {rv:ResultVar}{p:PV}{o:ResO}{deep:Bool}(h:Res1 Γ ⟨S,O⟩ rv p o)(hd:deep=true->o≠.none):RetIs Γ #[rv] ⟨S,O⟩ p deep:=by
 rintro fn hfn a w ⟨ow,β,hs⟩
 obtain⟨c,B,h1,h2,h3,h4⟩:=h ow β a w hs
 refine⟨c,B,by rw[zK hfn];exact h1,h2,h3,fun hx=>⟨(h4 (hd hx)).1,fun b hb=>⟨((h4 (hd hx)).2 b hb).1,((h4 (hd hx)).2 b hb).2.1⟩⟩⟩
theorem RetIs.sc1 {t:Nat}{v:Value}{dp deep:Bool}(h:lkq S t=some ⟨.sc v,dp⟩):RetIs Γ #[.tmp t] ⟨S,O⟩ (.sc v) deep:=by
 rintro fn hfn a w ⟨ow,β,hs⟩
 obtain⟨c,B,h1,h2,h3,h4⟩:=Res1.sc (Γ:=Γ) (S:=S) (O:=O) h ow β a w hs
 simp only[RelV]at h2
 obtain⟨rfl,rfl⟩:=h2
 exact⟨c,[],by rw[zK hfn];exact h1,by simp[RelV],by simp,by simp⟩
inductive ResL (Γ:Ctx P N) (E:Env):List ResultVar->List PV->List ResO->Prop
 | nil:ResL Γ E [] [] []
 | cons {rv:ResultVar} {p:PV} {o:ResO} {rs:List ResultVar} {ps:List PV} {os:List ResO}:Res1 Γ E rv p o->ResL Γ E rs ps os->ResL Γ E (rv::rs) (p::ps) (o::os)
def aDz:List PV->List ResO->Bool
 | [],[]=>true
 | p::ps,o::os=>(match p,o with
  | .sc _,_=>true
  | _,.none=>false
  | _,o=>!(os.any (· == o)))&&aDz ps os
 | _,_=>false
theorem ResL.run {E:Env}{rs:List ResultVar}{ps:List PV}{os:List ResO}(h:ResL Γ E rs ps os){ow:Nat->Own}{β:Nat->Option (Option Nat)}{a:Act}{w:World}(hs:SimG Γ ow β E a w) :
 ∃ (cs:List Value) (B:List Nat),cs.length=rs.length/\ps.length=rs.length/\(∀ (k:Nat) (rv:ResultVar),rs[k]?=some rv->∃ c,cs[k]?=some c/\(pC a.tmps rv).run P w=.ok c w)/\(∀ (pre:List Value),RelL w.heap false dead ps (pre++cs).toArray pre.length B)/\
  (∀ b∈B,b<w.heap.size/\(Γ.ok b\/Γ.nw b))/\(aDz ps os=true->B.Nodup/\∀ b∈B,gA w b/\Γ.nw b/\∃ o∈os,ow b=o.own\/∃ l,ow b=.lab l/\o=.obj l):=by
 induction h with
 | nil=>exact⟨[],[],rfl,rfl,by simp,fun pre=>by simp[RelL],by simp,by simp⟩
 | @cons rv p o rs ps os h1 h2 ih =>
  obtain⟨cs,B,g1,g2,g3,g4,g5,g6⟩:=ih
  obtain⟨c,B1,e1,e2,e3,e4⟩:=h1 ow β a w hs
  refine⟨c::cs,B1++B,by simp[g1],by simp[g2],fun k rv' hk=>?_,fun pre=>?_,fun b hb=>?_,fun ho=>?_⟩
  · cases k with
    | zero=>simp at hk;subst hk;exact⟨c,by simp,e1⟩
    | succ k=>simpa using g3 k rv' (by simpa using hk)
  · simp only[RelL]
    refine⟨c,B1,B,⟨by simp,by simp⟩,e2,?_,rfl⟩
    have:=g4 (pre++[c])
    simpa using this
  · rcases aUz.1 hb with hb | hb
    · exact e3 b hb
    · exact g5 b hb
  · simp only[aDz,aUP]at ho
    obtain⟨ho1,ho2⟩:=ho
    obtain⟨k1,k2⟩:=g6 ho2
    have hB1:B1=[]\/(o≠.none/\∀ o'∈os,o'≠o):=by
     cases p with
     | sc v=>simp only[RelV]at e2;exact .inl e2.2
     | _ =>
      refine .inr ?_
      cases o with
      | none=>simp at ho1
      | slot k=>exact⟨by simp,fun o' ho' e=>by subst e;simp at ho1;exact ho1 _ ho' rfl⟩
      | obj l=>exact⟨by simp,fun o' ho' e=>by subst e;simp at ho1;exact ho1 _ ho' rfl⟩
    rcases hB1 with rfl | ⟨hne,hos⟩
    · refine⟨by simpa using k1,fun b hb=>?_⟩
      obtain⟨j1,j2,o',ho',j3⟩:=k2 b (by simpa using hb)
      exact⟨j1,j2,o',by simp[ho'],j3⟩
    · obtain⟨j1,j2⟩:=e4 hne
      refine⟨?_,fun b hb=>?_⟩
      · rw[aUQ]
        refine⟨j1,k1,fun b hb b' hb' e=>?_⟩
        subst e
        obtain⟨_,_,x1⟩:=j2 b hb
        obtain⟨_,_,o',ho',x2⟩:=k2 b hb'
        apply hos o' ho'
        cases o <;> cases o' <;> simp[ResO.own]at x1 x2 hne ⊢
        all_goals first
         | (rcases x1 with x1 | x1 <;> rcases x2 with x2 | x2 <;> simp_all;done)
         | (simp_all;done)
      · rcases aUz.1 hb with hb | hb
        · obtain⟨x1,x2,x3⟩:=j2 b hb
          exact⟨x1,x2,o,by simp,x3⟩
        · obtain⟨x1,x2,o',ho',x3⟩:=k2 b hb
          exact⟨x1,x2,o',by simp[ho'],x3⟩
theorem RetIs.many {rs:List ResultVar}{ps:List PV}{os:List ResO}{deep:Bool}(hlen:rs.length=2\/rs.length=3\/rs.length=4)(h:ResL Γ ⟨S,O⟩ rs ps os)(hd:deep=true->aDz ps os=true):RetIs Γ rs.toArray ⟨S,O⟩ (.tup ps) deep:=by
 rintro fn hfn a w ⟨ow,β,hs⟩
 obtain⟨cs,B,g1,g2,g3,g4,g5,g6⟩:=h.run hs
 refine⟨.tuple cs.toArray,B,?_,?_,g5,fun hx=>⟨(g6 (hd hx)).1,fun b hb=>⟨((g6 (hd hx)).2 b hb).1,((g6 (hd hx)).2 b hb).2.1⟩⟩⟩
 · rcases hlen with hl | hl | hl
   · match rs,cs,hl,g1,g3,hfn with
     | [r1,r2],[c1,c2],_,_,g3,hfn =>
      obtain⟨_,e1,f1⟩:=g3 0 r1 rfl
      obtain⟨_,e2,f2⟩:=g3 1 r2 rfl
      simp at e1 e2;subst e1;subst e2
      exact aIQ hfn _ _ f1 f2
   · match rs,cs,hl,g1,g3,hfn with
     | [r1,r2,r3],[c1,c2,c3],_,_,g3,hfn =>
      obtain⟨_,e1,f1⟩:=g3 0 r1 rfl
      obtain⟨_,e2,f2⟩:=g3 1 r2 rfl
      obtain⟨_,e3,f3⟩:=g3 2 r3 rfl
      simp at e1 e2 e3;subst e1;subst e2;subst e3
      exact aIP hfn _ _ f1 f2 f3
   · match rs,cs,hl,g1,g3,hfn with
     | [r1,r2,r3,r4],[c1,c2,c3,c4],_,_,g3,hfn =>
      obtain⟨_,e1,f1⟩:=g3 0 r1 rfl
      obtain⟨_,e2,f2⟩:=g3 1 r2 rfl
      obtain⟨_,e3,f3⟩:=g3 2 r3 rfl
      obtain⟨_,e4,f4⟩:=g3 3 r4 rfl
      simp at e1 e2 e3 e4;subst e1;subst e2;subst e3;subst e4
      exact aIO hfn _ _ f1 f2 f3 f4
 · simp only[RelV]
   exact⟨cs.toArray,rfl,by simp[g1,g2],by simpa using g4 []⟩
class FnC (P:Program) (f:FuncId):Prop where
 ok : ∃ fn, P.funcs[f]? = some fn ∧ fn.body.isNone = false ∧ (fn.name == "runtime.NumGoroutine") = false
theorem FnC.run {P:Program}{f:FuncId}(h:FnC P f)(args:Array Value)(w:World):(callFunc f args).run P w=.ok (.enter f args) w:=by
 obtain⟨fn,h1,h2,h3⟩:=h.ok
 have h2':¬fn.body.isNone=true:=by rw[h2];simp
 have h3' : ¬ (fn.name == "runtime.NumGoroutine") = true := by rw [h3]; simp
 unfold callFunc
 rw[Sem.run_bind,run_program,Result.andThen_ok,h1]
 simp only[]
 rw[aUq h3',aUq h2']
 rfl
inductive CellsR (O:List (Nat×Option Ob)):List PV->List PV->List Nat->Prop
 | nil:CellsR O [] [] []
 | sc {v:Value} {ps qs:List PV} {ls:List Nat}:CellsR O ps qs ls->CellsR O (.sc v::ps) (.sc v::qs) ls
 | ref {l s n:Nat} {cells cells':List PV} {dp:Bool} {ps qs:List PV} {ls:List Nat}:loq O l=some ⟨cells,dp,false⟩->SoftL cells cells'->CellsR O ps qs ls->CellsR O (.ref l s 0 n::ps) (.sl n cells'::qs) (l::ls)
 | vl {p p':PV} {ps qs:List PV} {ls:List Nat}:p.labs=[]->Soft p p'->CellsR O ps qs ls->CellsR O (p::ps) (p'::qs) ls
inductive ArgV (S:List (Nat×Slot)) (O:List (Nat×Option Ob)):Operand->PV->List Nat->Prop
 | val {x:Operand} {p:PV}:evq S x=some p->p.labs=[]->ArgV S O x p []
 | nil {x:Operand}:evq S x=some (.sc (.slice none 0 0))->ArgV S O x (.sl 0 []) []
 | ref {x:Operand} {l s n:Nat} {cells:List PV} {dp:Bool}:evq S x=some (.ref l s 0 n)->loq O l=some ⟨cells,dp,false⟩->cells.length<=n*s->ArgV S O x (.sl n cells) [l]
 | valS {x:Operand} {p p':PV}:evq S x=some p->p.labs=[]->Soft p p'->ArgV S O x p' []
 | refS {x:Operand} {l s n:Nat} {cells cells':List PV} {dp:Bool}:evq S x=some (.ref l s 0 n)->loq O l=some ⟨cells,dp,false⟩->SoftL cells cells'->ArgV S O x (.sl n cells') [l]
 | aggR {x:Operand} {ps qs:List PV} {ls:List Nat}:evq S x=some (.agg ps)->CellsR O ps qs ls->ArgV S O x (.agg qs) ls
inductive ArgsV (S:List (Nat×Slot)) (O:List (Nat×Option Ob)):List Operand->List PV->List Nat->Prop
 | nil:ArgsV S O [] [] []
 | cons {x:Operand} {p:PV} {l m:List Nat} {xs:List Operand} {ps:List PV}:ArgV S O x p l->ArgsV S O xs ps m->ArgsV S O (x::xs) (p::ps) (l++m)
def flat:PV->Bool
 | .sc _=>true
 | .agg cells=>cells.all fun | .sc _=>true | _=>false
 | .tup vs=>vs.all fun | .sc _=>true | .agg cells=>cells.all (fun | .sc _=>true | _=>false) | _=>false
 | _=>false
theorem aMW {h:Array Obj}{q:Bool}{β:Nat->Option (Option Nat)}:∀ (ps:List PV) (cs:Array Value) (i:Nat) (B:List Nat),ps.all (fun | .sc _=>true | _=>false)=true->RelL h q β ps cs i B->B=[]
 | [],_,_,_,_,H=>by simpa [RelL]using H
 | p::ps,cs,i,B,hf,H=>by
  simp only[List.all_cons,aUP]at hf
  simp only[RelL]at H
  obtain⟨c,B1,B2,_,h2,h3,rfl⟩:=H
  have e2:=aMW ps cs (i+1) B2 hf.2 h3
  cases p with
  | sc v=>simp only[RelV]at h2;rw[h2.2,e2];rfl
  | _=>simp at hf
theorem aBX {h:Array Obj}{β:Nat->Option (Option Nat)}{p:PV}{c:Value}{B:List Nat}(hf:flat p=true)(H:RelV h β p c B):B=[]:=by
 cases p with
 | sc v=>simp only[RelV]at H;exact H.2
 | agg cells=>simp only[RelV]at H;obtain⟨cs,_,_,h⟩:=H;exact aMW _ _ _ _ hf h
 | tup vs =>
  simp only[RelV]at H
  obtain⟨cs,_,_,hh⟩:=H
  have key:∀ (ps:List PV) (i:Nat) (B:List Nat),(ps.all fun | .sc _=>true | .agg cells=>cells.all (fun | .sc _=>true | _=>false) | _=>false)=true->RelL h false β ps cs i B->B=[]:=by
   intro ps
   induction ps with
   | nil=>intro i B _ H;simpa [RelL]using H
   | cons p ps ih =>
    intro i B hf H
    simp only[List.all_cons,aUP]at hf
    simp only[RelL]at H
    obtain⟨c,B1,B2,_,h2,h3,rfl⟩:=H
    rw[ih (i+1) B2 hf.2 h3]
    cases p with
    | sc v=>simp only[RelV]at h2;rw[h2.2];rfl
    | agg cells=>simp only[RelV]at h2;obtain⟨cs',_,_,h'⟩:=h2;rw[aMW _ _ _ _ hf.1 h'];rfl
    | _=>simp at hf
  exact key _ _ _ hf hh
 | _=>simp[flat]at hf
theorem CellsR.rel {F:Env}{ow:Nat->Own}{β:Nat->Option (Option Nat)}{a:Act}{w:World}(hs:SimG Γ ow β F a w){ps qs:List PV}{ls:List Nat}(H:CellsR O ps qs ls)(hl:∀ l∈ls,lo F.o l=lo O l) :
 ∀ {cs:Array Value} {i:Nat} {B:List Nat},RelL w.heap true β ps cs i B->(∀ b∈B,Im Γ ow w b)->ps.length=qs.length/\∃ B',RelL w.heap true dead qs cs i B'/\∀ b∈B',Im Γ ow w b\/∃ l∈ls,ow b=.lab l:=by
 induction H with
 | nil=>intro cs i B _ _;exact⟨rfl,[],by simp[RelL],by simp⟩
 | sc _ ih =>
  intro cs i B H hB
  simp only[RelL]at H
  obtain⟨c,B1,B2,g1,g2,g3,rfl⟩:=H
  obtain⟨k1,B',k2,k3⟩:=ih hl g3 (fun b hb=>hB b (by simp[hb]))
  simp only[RelV]at g2
  refine⟨by simp[k1],B',?_,k3⟩
  simp only[RelL]
  exact⟨c,[],B',g1,by simp only[RelV];exact⟨g2.1,trivial⟩,k2,rfl⟩
 | @vl p p' ps qs ls hlb hs' _ ih =>
  intro cs i B H hB
  simp only[RelL]at H
  obtain⟨c,B1,B2,g1,g2,g3,rfl⟩:=H
  obtain⟨k1,B',k2,k3⟩:=ih hl g3 (fun b hb=>hB b (by simp[hb]))
  refine⟨by simp[k1],B1++B',?_,fun b hb=>?_⟩
  · simp only[RelL]
    exact⟨c,B1,B',g1,hs' _ _ _ _ (aXt _ _ _ (fun l hl'=>by rw[hlb]at hl';cases hl') (fun _ _=>rfl) g2),k2,rfl⟩
  · rcases aUz.1 hb with hb | hb
    · exact .inl (hB b (by simp[hb]))
    · exact k3 b hb
 | @ref l s n cells cells' dp ps qs ls e2 e4 _ ih =>
  intro cs i B H hB
  simp only[RelL]at H
  obtain⟨c,B1,B2,g1,g2,g3,rfl⟩:=H
  obtain⟨k1,B',k2,k3⟩:=ih (fun l' hl'=>hl l' (by simp[hl'])) g3 (fun b hb=>hB b (by simp[hb]))
  refine⟨by simp[k1],?_⟩
  simp only[RelV]at g2
  obtain⟨Bo,o1,_,o3⟩:=hs.objs l ⟨cells,dp,false⟩ (by rw[hl l (by simp),<- dA];exact e2)
  rcases o3 with⟨o3,o4,o5⟩ | ⟨b,ds,t,o3,o4,o5,o6⟩
  · obtain⟨hn,_,hc⟩:=g2.2.1 o3
    simp only at o4
    subst hn;subst o4
    refine⟨B',?_,fun b hb=>(k3 b hb).imp id fun⟨m,h1,h2⟩=>⟨m,by simp[h1],h2⟩⟩
    simp only[RelL]
    exact⟨c,[],B',g1,by simp only[RelV];exact .inl ⟨trivial,e4.empty,trivial,_,_,hc⟩,k2,rfl⟩
  · obtain⟨cap,cs',t',hc,hh,_,hcap⟩:=g2.2.2 b o3
    rw[o5]at hh;cases hh
    refine⟨(b::Bo)++B',?_,fun b' hb'=>?_⟩
    · simp only[RelL]
      refine⟨c,b::Bo,B',g1,?_,k2,rfl⟩
      simp only[RelV]
      exact .inr ⟨b,0,cap,ds,t,(0,0),Bo,⟨by simpa using hc,hcap⟩,o5,e4.2 _ _ _ _ _ _ (by simpa using o6),rfl⟩
    · rcases aUz.1 hb' with hb' | hb'
      · rcases aUr.1 hb' with rfl | hb'
        · exact .inr ⟨l,by simp,o4⟩
        · exact .inl (o1 b' hb')
      · exact(k3 b' hb').imp id fun⟨m,h1,h2⟩=>⟨m,by simp[h1],h2⟩
theorem zA {F:Env}{ow:Nat->Own}{β:Nat->Option (Option Nat)}{a:Act}{w:World}(hs:SimG Γ ow β F a w):∀ {xs:List Operand} {ps:List PV} {ls:List Nat},ArgsV S O xs ps ls->(∀ k∈pD xs,lk F.s k=lk S k)->(∀ l∈ls,lo F.o l=lo O l)->
 RelArgs w.heap (fun b=>Im Γ ow w b\/∃ l∈ls,ow b=.lab l) ps (xs.map a.eval)
 | [],_,_,.nil,_,_=>trivial
 | x::xs,_,_,@ArgsV.cons _ _ _ p l m _ ps hx hxs,h1,h2=>by
  have hk1:∀ k∈ors x,lk F.s k=lk S k:=fun k hk=>h1 k (by cases x <;> simp[ors,pD]at hk ⊢;exact .inl hk)
  have hk2:∀ k∈pD xs,lk F.s k=lk S k:=fun k hk=>h1 k (by cases x <;> simp[pD,hk])
  have ih:=zA hs hxs hk2 (fun l' hl=>h2 l' (by simp[hl]))
  have mono:∀ {ok ok':Nat->Prop} (ps:List PV) (cs:List Value),(∀ b,ok b->ok' b)->RelArgs w.heap ok ps cs->RelArgs w.heap ok' ps cs:=by
   intro ok ok' ps
   induction ps with
   | nil=>intro cs _ H;cases cs with
    | nil=>trivial
    | cons=>exact H.elim
   | cons p ps ih =>
    intro cs hm H
    cases cs with
    | nil=>exact H.elim
    | cons c cs=>obtain⟨⟨B,e1,e2⟩,e3⟩:=H;exact⟨⟨B,e1,fun b hb=>hm b (e2 b hb)⟩,ih cs hm e3⟩
  refine⟨?_,mono _ _ (fun b hb=>hb.imp id fun⟨l',hl,e⟩=>⟨l',by simp[hl],e⟩) ih⟩
  cases hx with
  | val e1 e2 =>
   obtain⟨B,g1,g2⟩:=cK hs e1 hk1
   exact⟨B,aXt _ _ _ (fun l' hl=>by rw[e2]at hl;cases hl) (fun _ _=>rfl) g1,fun b hb=>.inl (g2 b hb)⟩
  | nil e1 =>
   obtain⟨B,g1,g2⟩:=cK hs e1 hk1
   simp only[RelV]at g1
   exact⟨[],by simp only[RelV];exact .inl ⟨trivial,trivial,trivial,_,_,g1.1⟩,by simp⟩
  | valS e1 e2 e3 =>
   obtain⟨B,g1,g2⟩:=cK hs e1 hk1
   exact⟨B,e3 _ _ _ _ (aXt _ _ _ (fun l' hl=>by rw[e2]at hl;cases hl) (fun _ _=>rfl) g1),fun b hb=>.inl (g2 b hb)⟩
  | aggR e1 e2 =>
   obtain⟨B,g1,g2⟩:=cK hs e1 hk1
   simp only[RelV]at g1
   obtain⟨cs,h1',h2',h3'⟩:=g1
   obtain⟨k1,B',k2,k3⟩:=e2.rel hs (fun l' hl=>h2 l' (by simp[hl])) h3' g2
   refine⟨B',?_,fun b hb=>(k3 b hb).imp id fun⟨m,q1,q2⟩=>⟨m,by simp[q1],q2⟩⟩
   simp only[RelV]
   exact⟨cs,h1',by rw[h2',k1],k2⟩
  | @refS l s n cells cells' dp e1 e2 e4 =>
   obtain⟨B,g1,g2⟩:=cK hs e1 hk1
   simp only[RelV]at g1
   obtain⟨Bo,o1,_,o3⟩:=hs.objs l ⟨cells,dp,false⟩ (by rw[h2 l (by simp),<- dA];exact e2)
   rcases o3 with⟨o3,o4,o5⟩ | ⟨b,cs,t,o3,o4,o5,o6⟩
   · obtain⟨hn,_,hc⟩:=g1.2.1 o3
     simp only at o4
     subst hn;subst o4
     exact⟨[],by simp only[RelV];exact .inl ⟨trivial,e4.empty,trivial,_,_,hc⟩,by simp⟩
   · obtain⟨cap,cs',t',hc,hh,_,hcap⟩:=g1.2.2 b o3
     rw[o5]at hh;cases hh
     refine⟨b::Bo,?_,fun b' hb'=>?_⟩
     · simp only[RelV]
       exact .inr ⟨b,0,cap,cs,t,(0,0),Bo,⟨by simpa using hc,hcap⟩,o5,e4.2 _ _ _ _ _ _ (by simpa using o6),rfl⟩
     · rcases aUr.1 hb' with rfl | hb'
       · exact .inr ⟨l,by simp,o4⟩
       · exact .inl (o1 b' hb')
  | @ref l s n cells dp e1 e2 e3 =>
   obtain⟨B,g1,g2⟩:=cK hs e1 hk1
   simp only[RelV]at g1
   obtain⟨Bo,o1,_,o3⟩:=hs.objs l ⟨cells,dp,false⟩ (by rw[h2 l (by simp),<- dA];exact e2)
   rcases o3 with⟨o3,o4,o5⟩ | ⟨b,cs,t,o3,o4,o5,o6⟩
   · obtain⟨hn,_,hc⟩:=g1.2.1 o3
     simp at o4
     subst hn;subst o4
     exact⟨[],by simp only[RelV];exact .inl ⟨trivial,trivial,trivial,_,_,hc⟩,by simp⟩
   · obtain⟨cap,cs',t',hc,hh,_,hcap⟩:=g1.2.2 b o3
     rw[o5]at hh;cases hh
     refine⟨b::Bo,?_,fun b' hb'=>?_⟩
     · simp only[RelV]
       exact .inr ⟨b,0,cap,cs,t,(0,0),Bo,⟨by simpa using hc,hcap⟩,o5,by simpa using o6,rfl⟩
     · rcases aUr.1 hb' with rfl | hb'
       · exact .inr ⟨l,by simp,o4⟩
       · exact .inl (o1 b' hb')
variable {d:Nat}{ty:TypeId}{pos:String}{af:Array Edge}{g:Option (Nat×Bool)}
def aNv:List Nat->Bool
 | []=>true
 | _=>false
theorem aEK {f:FuncId}[hfc:FnC P f]{xs:List Operand}{us:Array TypeId}{ps:List PV}{ls:List Nat}{r:PV}{deep:Bool}(ha:ArgsV S O xs ps ls)(hm:Meets P f ps r deep)(hc:(aNv ls||deep||flat r)=true)(hr:r.labs=[])(hd:Nat.blt d N=true) :
 Local Γ ⟨some d,.call ⟨.value (.func f),xs.toArray,us⟩,ty,pos,af,g⟩ ⟨S,O⟩ ⟨[(d,⟨r,deep⟩)],[]⟩ (pD xs) ls []:=by
 intro F hs hl _ a w ⟨ow,β,hsim⟩ Q
 have hargs:=zA hsim ha hs hl
 unfold Oper.wp
 have hrun:(execOp a.eval ⟨some d,.call ⟨.value (.func f),xs.toArray,us⟩,ty,pos,af,g⟩).run P w=.ok (.enter f (xs.map a.eval).toArray) w:=by
  simp[execOp,resolve,Act.eval,Deferred.ofValue,invoke,hfc.run]
 rw[hrun]
 show Calls _ _ _ _ _
 refine(hm w (xs.map a.eval).toArray (fun b=>Im Γ ow w b\/∃ l∈ls,ow b=.lab l) (by simpa using hargs)).mono fun e w' ⟨c,B,he,hb,h1,h2,h3⟩=>?_
 subst he
 show Sim Γ _ _ _
 have hg:=hsim.grow hb
 have hB:∀ b∈B,b<w'.heap.size:=aXA _ _ _ h1
 have hfresh:∀ b,w.heap.size<=b->b<w'.heap.size->Im Γ ow w' b:=fun b hb1 hb2=>⟨hb2,.inr (.inl (.inl (aUE hsim.kept.size hb1))),fun l e=>by have:=(hsim.own b (by rw[e];simp)).1;omega⟩
 have hkeepV:RelV w'.heap β r c B:=aXt _ _ _ (fun l hl=>by rw[hr]at hl;cases hl) (fun _ _=>rfl) h1
 cases deep with
 | true =>
  obtain⟨n1,n2⟩:=h3 rfl
  exact⟨_,β,hg.putDeep ((aR _ _).1 hd) hkeepV (fun b hb=>hfresh b (n2 b hb).1 (hB b hb)) n1 (fun b hb=>⟨(n2 b hb).2,.inl (.inl (aUE hsim.kept.size (n2 b hb).1))⟩)
   (fun b hb=>by
    cases hx:ow b with
    | none=>exact .inl rfl
    | _=>have:=(hsim.own b (by rw[hx];simp)).1;have:=(n2 b hb).1;omega)⟩
 | false =>
  refine⟨ow,β,hg.put ((aR _ _).1 hd) hkeepV fun b hbB=>?_⟩
  simp only[aW3,aVg]at hc
  rcases hc with hc | hc
  · cases ls with
    | cons=>cases hc
    | nil =>
     rcases h2 b hbB with(h | ⟨l,hl,_⟩) | h
     · exact⟨aUN h.1 hb.size,h.2⟩
     · cases hl
     · exact hfresh b h (hB b hbB)
  · rw[aBX hc h1]at hbB;cases hbB
end
def aXc:=@ResL.cons
def aXk:=@RetIs.many
def aXo:=@ArgV.val
def aXq:=@ArgsV.cons
def aXw:=@ResL.nil
def aXx:=@Res1.sc
def aXD:=@ArgsV.nil
def aXK:=@RetIs.sc1
def aXO:=@Res1.nil
def aXQ:=@RetIs.one
/- The engine, part H: an environment is made weaker: what is no longer wanted is dropped, own blocks get other names. -/
open Go.RowKit (Below)
def rn:List (Nat×Nat)->Nat->Nat
 | [],l=>l
 | (a,b)::r,l=>bif Nat.beq a l then b else rn r l
mutual
def yE (ρ:List (Nat×Nat)):PV->PV
 | .ref l s off n=>.ref (rn ρ l) s off n
 | .ptr l k=>.ptr (rn ρ l) k
 | .agg cells=>.agg (aBF ρ cells)
 | .tup vs=>.tup (aBF ρ vs)
 | .was v p=>.was v (yE ρ p)
 | p=>p
def aBF (ρ:List (Nat×Nat)):List PV->List PV
 | []=>[]
 | p::ps=>yE ρ p::aBF ρ ps
end
def aQv:List (Nat×Nat)->PV->PV
 | [],p=>p
 | x::r,p=>yE (x::r) p
def aNn:List (Nat×Nat)->List PV->List PV
 | [],ps=>ps
 | x::r,ps=>aBF (x::r) ps
def EntS (ρ:List (Nat×Nat))(S:List (Nat×Slot)):List (Nat×Slot)->Prop
 | []=>True
 | (k,sl)::r=>(∃ dp,lkq S k=some ⟨aQv ρ sl.v,dp⟩/\(sl.deep=true->dp=true))/\EntS ρ S r
def EntO (ρ:List (Nat×Nat))(O:List (Nat×Option Ob)):List (Nat×Option Ob)->Prop
 | []=>True
 | (_,none)::r=>EntO ρ O r
 | (l,some ob)::r=>(∃ dp,loq O (rn ρ l)=some ⟨if ob.box then aNn ρ ob.cells else ob.cells,dp,ob.box⟩/\(ob.deep=true->dp=true))/\EntO ρ O r
def aAy:List (Nat×Option Ob)->List Nat
 | []=>[]
 | (l,_)::r=>l::aAy r
def aDW (ρ:List (Nat×Nat)):List Nat->Bool
 | []=>true
 | l::r=>!(zD (r.map (rn ρ)) (rn ρ l))&&aDW ρ r
theorem EntS.get {ρ:List (Nat×Nat)}{S:List (Nat×Slot)}:∀ {S':List (Nat×Slot)},EntS ρ S S'->∀ k,lkq S' k=none\/∃ sl dp,lkq S' k=some sl/\lk S k=⟨aQv ρ sl.v,dp⟩/\(sl.deep=true->dp=true)
 | [],_,k=>.inl rfl
 | (j,sl)::r,h,k=>by
  obtain⟨⟨dp,h1,h2⟩,h3⟩:=h
  by_cases hj:j=k
  · subst hj;exact .inr ⟨sl,dp,by simp[lkq],gH h1,h2⟩
  · have e:lkq ((j,sl)::r) k=lkq r k:=by simp[lkq,rJ,hj]
    rw[e];exact EntS.get h3 k
theorem aO7 {s:List (Nat×Slot)}{k:Nat}(h:lkq s k=none):lk s k=⟨.any,false⟩:=by
 induction s with
 | nil=>rfl
 | cons x r ih =>
  obtain⟨j,u⟩:=x
  simp only[lkq,rJ]at h
  rw[gI]
  by_cases hj:j=k
  · simp[hj]at h
  · rw[aUq hj];simp[hj]at h;exact ih h
theorem EntO.get {ρ:List (Nat×Nat)}{O:List (Nat×Option Ob)}:∀ {O':List (Nat×Option Ob)},EntO ρ O O'->∀ l ob,lo O' l=some ob->l∈aAy O'/\∃ dp,lo O (rn ρ l)=some ⟨if ob.box then aNn ρ ob.cells else ob.cells,dp,ob.box⟩/\(ob.deep=true->dp=true)
 | [],_,l,ob,hl=>by simp[lo]at hl
 | (j,none)::r,h,l,ob,hl=>by
  rw[aT]at hl
  by_cases hj:j=l
  · rw[aUs hj]at hl;cases hl
  · rw[aUq hj]at hl
    obtain⟨h1,h2⟩:=EntO.get (O':=r) h l ob hl
    exact⟨by simp[aAy,h1],h2⟩
 | (j,some o)::r,h,l,ob,hl=>by
  rw[aT]at hl
  obtain⟨⟨dp,h1,h2⟩,h3⟩:=h
  by_cases hj:j=l
  · subst hj;rw[aUs rfl]at hl;cases hl
    exact⟨by simp[aAy],dp,by rw[<- dA];exact h1,h2⟩
  · rw[aUq hj]at hl
    obtain⟨g1,g2⟩:=EntO.get h3 l ob hl
    exact⟨by simp[aAy,g1],g2⟩
theorem aEE {ρ:List (Nat×Nat)}:∀ {ls:List Nat},aDW ρ ls=true->∀ a∈ls,∀ b∈ls,rn ρ a=rn ρ b->a=b
 | [],_,a,ha=>by cases ha
 | l::r,h,a,ha=>by
  intro b hb e
  simp only[aDW,aUP,aWj]at h
  have hn:∀ x∈r,rn ρ x≠rn ρ l:=by
   intro x hx ex
   have:zD (r.map (rn ρ)) (rn ρ l)=true:=(lD _ _).2 (aUJ.2 ⟨x,hx,ex⟩)
   rw[this]at h;cases h.1
  rcases aUr.1 ha with ha' | ha' <;> rcases aUr.1 hb with hb' | hb'
  · rw[ha',hb']
  · subst ha';exact absurd e.symm (hn b hb')
  · subst hb';exact absurd e (hn a ha')
  · exact aEE h.2 a ha' b hb' e
section
variable {P:Program}{N:Nat}{Γ:Ctx P N}
theorem aOs {ρ:List (Nat×Nat)}{ps:List PV}(h:aNn ρ ps=[]):ps=[]:=by
 cases ρ with
 | nil=>exact h
 | cons x r=>cases ps with
  | nil=>rfl
  | cons p q=>simp[aNn,aBF]at h
mutual
theorem vA {h:Array Obj}{β β':Nat->Option (Option Nat)}{ρ:List (Nat×Nat)}(hb:∀ l o,β' l=some o->β (rn ρ l)=some o):∀ (p:PV) {c:Value} {B:List Nat},RelV h β (yE ρ p) c B->RelV h β' p c B
 | .ref l s off n,c,B,H=>by
  simp only[yE,RelV]at H ⊢
  exact⟨H.1,fun e=>H.2.1 (hb _ _ e),fun b e=>H.2.2 b (hb _ _ e)⟩
 | .ptr l k,c,B,H=>by
  simp only[yE,RelV]at H ⊢
  exact⟨H.1,fun b e=>H.2 b (hb _ _ e)⟩
 | .sc _,_,_,H=>by simpa only[yE,RelV]using H
 | .sl _ _,_,_,H=>by simpa only[yE,RelV]using H
 | .iptr _,_,_,H=>by simpa only[yE,RelV]using H
 | .rw _ _ _,_,_,H=>by simpa only[yE,RelV]using H
 | .agg cells,_,_,H=>by
  simp only[yE,RelV]at H ⊢
  obtain⟨cs,h1,h2,h3⟩:=H
  exact⟨cs,h1,by rw[h2];exact aFZ cells,aCf hb cells h3⟩
 | .tup vs,_,_,H=>by
  simp only[yE,RelV]at H ⊢
  obtain⟨cs,h1,h2,h3⟩:=H
  exact⟨cs,h1,by rw[h2];exact aFZ vs,aCf hb vs h3⟩
 | .any,_,_,H=>by simpa only[yE,RelV]using H
 | .was v p,_,_,H=>by
  simp only[yE,RelV]at H ⊢
  exact⟨H.1,vA hb p H.2⟩
theorem aFZ {ρ:List (Nat×Nat)}:∀ (ps:List PV),(aBF ρ ps).length=ps.length
 | []=>by simp[aBF]
 | p::ps=>by simp[aBF,aFZ ps]
theorem aCf {h:Array Obj}{q:Bool}{β β':Nat->Option (Option Nat)}{ρ:List (Nat×Nat)}(hb:∀ l o,β' l=some o->β (rn ρ l)=some o):∀ (ps:List PV) {cs:Array Value} {i:Nat} {B:List Nat},RelL h q β (aBF ρ ps) cs i B->RelL h q β' ps cs i B
 | [],_,_,_,H=>by simpa only[aBF,RelL]using H
 | p::ps,cs,i,B,H=>by
  simp only[aBF,RelL]at H ⊢
  obtain⟨c,B1,B2,h1,h2,h3,rfl⟩:=H
  exact⟨c,B1,B2,h1,vA hb p h2,aCf hb ps h3,rfl⟩
end
theorem aOt {h:Array Obj}{β β':Nat->Option (Option Nat)}{ρ:List (Nat×Nat)}(hb:∀ l o,β' l=some o->β (rn ρ l)=some o){p:PV}{c:Value}{B:List Nat}(H:RelV h β (aQv ρ p) c B):RelV h β' p c B:=by
 cases ρ with
 | nil=>exact aXt p c B (fun l _ o ho=>⟨hb l o ho,fun b _ cs t hc=>⟨cs,hc,rfl⟩⟩) (fun _ _=>rfl) H
 | cons x r=>exact vA hb p H
theorem aOu {h:Array Obj}{q:Bool}{β β':Nat->Option (Option Nat)}{ρ:List (Nat×Nat)}(hb:∀ l o,β' l=some o->β (rn ρ l)=some o){ps:List PV}{cs:Array Value}{i:Nat}{B:List Nat}(H:RelL h q β (aNn ρ ps) cs i B):RelL h q β' ps cs i B:=by
 cases ρ with
 | nil=>exact aXr ps cs i B (fun _ _ l _ o ho=>⟨hb l o ho,fun b _ cs t hc=>⟨cs,hc,rfl⟩⟩) (fun _ _=>rfl) H
 | cons x r=>exact aCf hb ps H
theorem Ent.list {S S':List (Nat×Slot)}{O O':List (Nat×Option Ob)}(ρ:List (Nat×Nat))(hio:∀ l,Γ.io (rn ρ l)=Γ.io l/\(Γ.io l≠none->rn ρ l=l))(hi:aDW ρ (aAy O')=true)(hS:EntS ρ S S')(hO:EntO ρ O O'):Ent Γ ⟨S,O⟩ ⟨S',O'⟩:=by
 rintro a w ⟨ow,β,h⟩
 have hinj:=aEE hi
 have hex:∀ l:Nat,∃ o:Option Nat,(∀ l',o=some l'->l'∈aAy O'/\rn ρ l'=l)/\(o=none->∀ l'∈aAy O',rn ρ l'≠l):=by
  intro l
  by_cases hx:∃ l'∈aAy O',rn ρ l'=l
  · obtain⟨l',h1,h2⟩:=hx
    exact⟨some l',fun x e=>(by cases e;exact⟨h1,h2⟩),fun e=>(by cases e)⟩
  · exact⟨none,fun x e=>(by cases e),fun _ l' h1 h2=>hx ⟨l',h1,h2⟩⟩
 obtain⟨f,hf⟩:=Classical.axiomOfChoice hex
 have hfk:∀ l'∈aAy O',f (rn ρ l')=some l':=by
  intro l' hl'
  cases hx:f (rn ρ l')with
  | none=>exact absurd rfl ((hf (rn ρ l')).2 hx l' hl')
  | some x =>
   obtain⟨h1,h2⟩:=(hf (rn ρ l')).1 x hx
   rw[hinj x h1 l' hl' h2]
 let ow':Nat->Own:=fun b=>match ow b with
  | .none=>.none
  | .slot k=>.slot k
  | .obj l=>match f l with
   | some l'=>.obj l'
   | none=>.none
  | .lab l=>match f l with
   | some l'=>.lab l'
   | none=>.none
 let β':Nat->Option (Option Nat):=fun l=>if(lo O' l).isSome=true then β (rn ρ l)else none
 have hβ':∀ l o,β' l=some o->β (rn ρ l)=some o:=by
  intro l o e
  have e':(if(lo O' l).isSome=true then β (rn ρ l)else none)=some o:=e
  by_cases hx:(lo O' l).isSome=true
  · rw[aUs hx]at e';exact e'
  · rw[aUq hx]at e';cases e'
 have hIm:∀ b,Im Γ ow w b->Im Γ ow' w b:=by
  rintro b ⟨h1,h2,h3⟩
  refine⟨h1,h2,fun l=>?_⟩
  show(match ow b with | .none=>_ | .slot k=>_ | .obj l=>_ | .lab l=>_)≠_
  cases hb:ow b with
  | none=>simp
  | slot k=>simp
  | obj m=>simp only;cases f m <;> simp
  | lab m=>exact absurd hb (h3 m)
 refine⟨ow',β',{ size:=h.size,defers:=h.defers,kept:=h.kept,slots:=fun k=>?_,objs:=fun l ob hl=>?_,gone:=fun l hl=>?_,own:=fun b hb=>?_,ios:=fun l b hl hs=>?_,fresh:=fun l b hl hi=>?_ }⟩
 · rcases hS.get k with hk | ⟨sl,dp,hk,h1,h2⟩
   · rw[aO7 hk];exact⟨[],by simp[RelV],by simp,by simp⟩
   · rw[gH hk]
     obtain⟨B,g1,g2,g3⟩:=h.slots k
     simp only[h1]at g1 g3
     refine⟨B,aOt hβ' g1,fun b hb=>hIm b (g2 b hb),fun hd=>⟨(g3 (h2 hd)).1,fun b hb=>⟨?_,((g3 (h2 hd)).2 b hb).2⟩⟩⟩
     have e:=((g3 (h2 hd)).2 b hb).1
     show(match ow b with | .none=>_ | .slot k=>_ | .obj l=>_ | .lab l=>_)=_
     rw[e]
 · obtain⟨h1,dp,h2,h3⟩:=hO.get l ob hl
   obtain⟨B,g1,g2,g3⟩:=h.objs (rn ρ l) _ h2
   have eβ:β' l=β (rn ρ l):=by show(if _ then _ else _)=_;rw[aUs (by rw[hl];rfl)]
   refine⟨B,fun b hb=>hIm b (g1 b hb),fun hd=>⟨(g2 (h3 hd)).1,fun b hb=>⟨?_,((g2 (h3 hd)).2 b hb).2⟩⟩,?_⟩
   · have e:=((g2 (h3 hd)).2 b hb).1
     show(match ow b with | .none=>_ | .slot k=>_ | .obj l=>_ | .lab l=>_)=_
     rw[e];simp only[hfk l h1]
   · rcases g3 with⟨e1,e2,e3⟩ | ⟨b,cs,t,e1,e2,e3,e4⟩
     · refine .inl ⟨eβ.trans e1,?_,e3⟩
       simp only at e2
       cases hbx:ob.box with
       | false=>rw[hbx]at e2;simpa using e2
       | true=>rw[hbx]at e2;exact aOs (by simpa using e2)
     · refine .inr ⟨b,cs,t,eβ.trans e1,?_,e3,?_⟩
       · show(match ow b with | .none=>_ | .slot k=>_ | .obj l=>_ | .lab l=>_)=_
         rw[e2];simp only[hfk l h1]
       · simp only at e4
         cases hbx:ob.box with
         | false=>rw[hbx]at e4;simpa using e4
         | true=>rw[hbx]at e4;simp only[aUK]at e4 ⊢;exact aOu hβ' e4
 · show(if _ then _ else _)=_
   rw[aUq (by rw[hl];simp)]
 · have hb':ow b≠.none:=by
    intro e
    apply hb
    show(match ow b with | .none=>_ | .slot k=>_ | .obj l=>_ | .lab l=>_)=_
    rw[e]
   obtain⟨g1,g2⟩:=h.own b hb'
   refine⟨g1,?_⟩
   rcases g2 with g2 | ⟨l,g3,g4⟩
   · exact .inl g2
   · refine .inr ⟨l,?_,g4⟩
     have hb2:(match f l with | some l'=>Own.lab l' | none=>Own.none)≠.none:=by
      have:ow' b=(match f l with | some l'=>Own.lab l' | none=>Own.none):=by
       show(match ow b with | .none=>_ | .slot k=>_ | .obj l=>_ | .lab l=>_)=_
       rw[g3]
      rw[<- this];exact hb
     show(match ow b with | .none=>_ | .slot k=>_ | .obj l=>_ | .lab l=>_)=_
     rw[g3]
     simp only
     cases hx:f l with
     | none=>rw[hx]at hb2;simp at hb2
     | some l' =>
      obtain⟨e1,e2⟩:=(hf l).1 l' hx
      have:Γ.io l'≠none:=by rw[<- (hio l').1,e2,g4];simp
      have e3:=(hio l').2 this
      rw[e3]at e2;rw[e2]
 · have e1:=(hio l).2 (by rw[hl];simp)
   show(if _ then _ else _)=_
   rw[aUs hs,e1]
   cases hx:lo O' l with
   | none=>simp only at hs;rw[hx]at hs;cases hs
   | some ob =>
    obtain⟨_,dp,h2,_⟩:=hO.get l ob hx
    rw[e1]at h2
    exact h.ios l b hl (by rw[h2];rfl)
 · exact h.fresh (rn ρ l) b (hβ' l _ hl) (by rw[(hio l).1];exact hi)
theorem Ent.refl (E:Env):Ent Γ E E:=fun _ _ h=>h
theorem Ent.trans {E1 E2 E3:Env}(h1:Ent Γ E1 E2)(h2:Ent Γ E2 E3):Ent Γ E1 E3:=fun a w h=>h2 a w (h1 a w h)
def Cut (Γ:Ctx P N)(Em:Env)(Q:Exit->Env->Prop):Exit->Env->Prop
 | .normal,E=>Ent Γ E Em
 | x,E=>Q x E
theorem CodeT.cut {x y:Code}{E:Env}{Q:Exit->Env->Prop}(Em:Env)(h:CodeT Γ x E (Cut Γ Em Q))(h2:CodeT Γ y Em Q):CodeT Γ (.seq x y) E Q:=by
 refine CodeT.seq (CodeT.mono h fun e E' hq=>?_)
 cases e with
 | normal=>exact aXn hq h2
 | _=>exact hq
section ends
variable {K:Env->Prop}{Q:Exit->Env->Prop}{E Em:Env}{i j n:Nat}{I:Nat->Env->Prop}{rs:Array ResultVar}{r:PV}{deep:Bool}
theorem x1 (h:Q .ret E):xV K Q .ret E:=h
theorem x2 (h:Q (.exit i) E):xV K Q (.exit i) E:=h
theorem x3 (h:K E):xV K Q .normal E:=h
theorem x4 (h:Q .ret E):pK i Q .ret E:=h
theorem x5 (h:Q .normal E):pK i Q .normal E:=h
theorem x6 (h:Nat.beq j i=true)(h':Q .normal E):pK i Q (.exit j) E:=by simp only[pK,h];exact h'
theorem x7 (h:Nat.beq j i=false)(h':Q (.exit j) E):pK i Q (.exit j) E:=by simp only[pK,h];exact h'
theorem x8 (h:Q .ret E):aIs Γ I n Q .ret E:=h
theorem x12 (h:RetIs Γ rs E r deep):ends Γ rs r deep .ret E:=h
theorem x13 (h:RetIs Γ rs E r deep):ends Γ rs r deep .normal E:=h
end ends
end
def aXU:=@Ent.trans
/- The engine, part I: reading memory. -/
open Go.RowKit (Below)
section
variable {P:Program}{N:Nat}{Γ:Ctx P N}{S:List (Nat×Slot)}{O:List (Nat×Option Ob)}
variable {d:Nat}{ty:TypeId}{pos:String}{af:Array Edge}{g:Option (Nat×Bool)}
theorem aEQ {t f off:Nat}[hf:FldT P t f off](w:World)(b k:Nat):(Instr.fieldAt t (.pointer (some ⟨b,k,none⟩)) f).run P w=.ok (.pointer (some ⟨b,k+off,none⟩)) w:=by
 obtain⟨fs,fd,i,h1,h2,h3,h4,h5⟩:=hf.ok
 subst h3
 simp[Instr.fieldAt,run_underlying h1,h2,Instr.sureAddr,fieldPlace,sizeOf,typeInfo,h4,h5,Addr.add_lit]
theorem aSX {x:Operand}{t f off:Nat}{cells:List PV}[hf:FldT P t f off](hx:evq S x=some (.iptr cells))(hd:Nat.blt d N=true) :
 Local Γ ⟨some d,.fieldAddr t x f,ty,pos,af,g⟩ ⟨S,O⟩ ⟨[(d,⟨.iptr (cells.drop off),false⟩)],[]⟩ (ors x) [] []:=by
 intro F hs _ _
 refine bE fun a w ⟨ow,β,hsim⟩=>?_
 obtain⟨B,h1,h2⟩:=cK hsim hx hs
 simp only[RelV]at h1
 obtain⟨b,o,cs,u,fr,B',e1,e2,e3,rfl⟩:=h1
 refine⟨.pointer (some ⟨b,o+off,none⟩),w,by simp[execOp,e1,aEQ],ow,β,?_⟩
 by_cases hl:off<=cells.length
 · obtain⟨B2,g1,B1,g2⟩:=e3.drop off hl
   exact hsim.put ((aR _ _).1 hd) (O:=b::B2) (by simp only[RelV];exact⟨b,_,cs,u,fr,B2,rfl,e2,g1,rfl⟩) (fun c hc=>by
    rcases aUr.1 hc with rfl | hc
    · exact h2 _ (by simp)
    · exact h2 _ (by rw[g2];simp[hc]))
 · have:cells.drop off=[]:=by rw[List.drop_eq_nil_iff];omega
   rw[this]
   exact hsim.put ((aR _ _).1 hd) (O:=[b]) (by simp only[RelV];exact⟨b,_,cs,u,fr,[],rfl,e2,by simp[RelL],rfl⟩) (fun c hc=>by
    simp at hc;subst hc;exact h2 _ (by simp))
theorem aSW {x:Operand}{t f off l k:Nat}{ob:Ob}[hf:FldT P t f off](hx:evq S x=some (.ptr l k))(ho:loq O l=some ob)(hne:Nat.blt 0 ob.cells.length=true)(hd:Nat.blt d N=true) :
 Local Γ ⟨some d,.fieldAddr t x f,ty,pos,af,g⟩ ⟨S,O⟩ ⟨[(d,⟨.ptr l (k+off),false⟩)],[]⟩ (ors x) [l] []:=by
 intro F hs hl _
 refine bE fun a w ⟨ow,β,hsim⟩=>?_
 obtain⟨B,h1,h2⟩:=cK hsim hx hs
 simp only[RelV]at h1
 obtain⟨_,_,_,hob⟩:=hsim.objs l ob (by rw[hl l (by simp),<- dA];exact ho)
 rcases hob with⟨_,e,_⟩ | ⟨b,cs,u,e1,_⟩
 · rw[e]at hne;cases hne
 · refine⟨.pointer (some ⟨b,k+off,none⟩),w,by simp[execOp,h1.2 b e1,aEQ],ow,β,?_⟩
   exact hsim.put ((aR _ _).1 hd) (O:=[]) (by simp only[RelV];exact⟨trivial,fun b' hb=>by rw[e1]at hb;cases hb;rfl⟩) (by simp)
theorem zI {t n by_:Nat}[ht:TI P t n true by_](w:World){b k:Nat}{cs:Array Value}{u:TypeId}{fr:Nat×Nat}(hb:w.heap[b]?=some (.cells cs u fr))(hk:k+n<=cs.size) :
 (Instr.loadAt t (.pointer (some ⟨b,k,none⟩))).run P w=.ok (.agg (cs.extract k (k+n))) w:=by
 obtain⟨⟨i,h1,h2,_⟩,dd,h3,h4⟩:=ht.ok
 have hagg:(isAgg t).run P w=.ok true w:=by
  unfold isAgg
  rw[Sem.run_bind,run_underlying h3 w]
  cases dd <;> simp_all
 have hlen:(cs.extract k (k+n)).toList.length=n:=by simp;omega
 have hl:(loadCells ⟨b,k,none⟩ (cs.extract k (k+n)).toList.length).run P w=.ok (cs.extract k (k+n)).toList.toArray w :=
  run_loadCells_list (P:=P) w ⟨b,k,none⟩ _ (fun j v hv=>by
   rw[Addr.add_lit,cell_of_row w b (k+j) cs u fr hb]
   have hj:j<n:=by
    have:=(aVf.1 hv).1
    omega
   simp only[Array.toList_extract,List.extract_eq_take_drop]at hv
   rw[aWc,aWd]at hv
   simp at hv
   rw[<- hv.2])
 rw[hlen]at hl
 simp only[Array.toArray_toList]at hl
 simp[Instr.loadAt,Instr.sureAddr,loadVar,hagg,sizeOf,typeInfo,h1,h2,hl]
theorem aDs {t n by_:Nat}[ht:TI P t n false by_](w:World){b k:Nat}{cs:Array Value}{u:TypeId}{fr:Nat×Nat}{c:Value}(hb:w.heap[b]?=some (.cells cs u fr))(hk:cs[k]?=some c) :
 (Instr.loadAt t (.pointer (some ⟨b,k,none⟩))).run P w=.ok c w:=by
 obtain⟨⟨i,h1,h2,_⟩,dd,h3,h4⟩:=ht.ok
 have hagg:(isAgg t).run P w=.ok false w:=by
  unfold isAgg
  rw[Sem.run_bind,run_underlying h3 w]
  cases dd <;> simp_all
 simp[Instr.loadAt,Instr.sureAddr,loadVar,hagg,run_load,cell_of_row w b k cs u fr hb,hk]
theorem wJ {h:Array Obj}{q:Bool}{β:Nat->Option (Option Nat)}{ps:List PV}{cs:Array Value}{k n:Nat}{B:List Nat}(hn:ps.length=n)(H:RelL h q β ps cs k B):RelL h q β ps (cs.extract k (k+n)) 0 B :=
 aXG _ _ _ _ _ _ (fun j hj=>by
  rw[aUR,Array.getElem?_extract]
  simp;omega) H
theorem RelV.nolab {h:Array Obj}{β β':Nat->Option (Option Nat)}{p:PV}{c:Value}{B:List Nat}(hl:p.labs=[])(H:RelV h β p c B):RelV h β' p c B :=
 aXt _ _ _ (fun l hl'=>by rw[hl]at hl';cases hl') (fun _ _=>rfl) H
theorem aRS {x:Operand}{t n by_:Nat}{cells:List PV}{c:PV}[ht:TI P t n false by_](hx:evq S x=some (.iptr cells))(hc:cells[0]?=some c)(hl:c.labs=[])(hd:Nat.blt d N=true) :
 Local Γ ⟨some d,.load t x,ty,pos,af,g⟩ ⟨S,O⟩ ⟨[(d,⟨c,false⟩)],[]⟩ (ors x) [] []:=by
 intro F hs _ _
 refine bE fun a w ⟨ow,β,hsim⟩=>?_
 obtain⟨B,h1,h2⟩:=cK hsim hx hs
 simp only[RelV]at h1
 obtain⟨b,o,cs,u,fr,B',e1,e2,e3,rfl⟩:=h1
 obtain⟨v,B1,g1,_,g3,g4⟩:=RelL.get _ _ _ _ e3 0 c hc
 rw[aVh]at g1
 refine⟨v,w,by simp[execOp,e1,aDs (t:=t) w e2 g1],ow,β,?_⟩
 exact hsim.put ((aR _ _).1 hd) (O:=B1) (g3.nolab hl) (fun b' hb=>h2 _ (by simp[g4 b' hb]))
theorem aFL {n:Nat}{cells:List PV}(h:Nat.beq cells.length n=true):cells.take n=cells:=by
 rw[<- aU0 h];exact aV1
theorem bW {n:Nat}{cells:List PV}(h:Nat.beq cells.length n=true):(cells.drop 0).take n=cells:=by
 rw[aVn];exact aFL h
theorem yF {h:Array Obj}{q:Bool}{β β':Nat->Option (Option Nat)}{ps:List PV}{cs:Array Value}{i:Nat}{B:List Nat}(hl:∀ p∈ps,p.labs=[])(H:RelL h q β ps cs i B):RelL h q β' ps cs i B :=
 aXr _ _ _ _ (fun p hp l hl'=>by rw[hl p hp]at hl';cases hl') (fun _ _=>rfl) H
def qB:List PV->Bool
 | []=>true
 | p::r=>(match p.labs with | []=>true | _=>false)&&qB r
theorem qA:∀ {ps:List PV},qB ps=true->∀ p∈ps,p.labs=[]
 | [],_,p,hp=>by cases hp
 | x::r,h,p,hp=>by
  simp only[qB,aUP]at h
  rcases aUr.1 hp with rfl | hp
  · cases hx:p.labs with
    | nil=>rfl
    | cons l r=>rw[hx]at h;simp at h
  · exact qA h.2 p hp
theorem aI4 {ps:List PV}(h:qB ps=true):aCT ps=[]:=by
 rw[aWa]
 intro l hl
 obtain⟨p,hp,hl⟩:=aAr.1 hl
 rw[qA h p hp]at hl;cases hl
theorem aSS {x:Operand}{t n by_:Nat}{cells vs:List PV}[ht:TI P t n true by_](hx:evq S x=some (.iptr cells))(hc:cells.take n=vs)(hn:Nat.beq vs.length n=true)(hn0:n≠0)(hl:qB vs=true)(hd:Nat.blt d N=true) :
 Local Γ ⟨some d,.load t x,ty,pos,af,g⟩ ⟨S,O⟩ ⟨[(d,⟨.agg vs,false⟩)],[]⟩ (ors x) [] []:=by
 intro F hs _ _
 refine bE fun a w ⟨ow,β,hsim⟩=>?_
 obtain⟨B,h1,h2⟩:=cK hsim hx hs
 simp only[RelV]at h1
 obtain⟨b,o,cs,u,fr,B',e1,e2,e3,rfl⟩:=h1
 have hn:=aU0 hn
 obtain⟨B1,g1,B2,g2⟩:=e3.take n
 rw[hc]at g1
 have hlen:o+vs.length<=cs.size:=by
  rcases aVA cs.size o with hlt | hge
  · cases vs with
    | nil=>exact absurd hn.symm hn0
    | cons p r =>
     simp only[RelL]at g1
     obtain⟨c,_,_,q1,_⟩:=g1
     have:=(aV3.1 q1.1).1
     omega
  · exact aXS _ _ _ _ hge g1
 refine⟨.agg (cs.extract o (o+n)),w,by simp[execOp,e1,zI (t:=t) w e2 (show o+n<=cs.size by omega)],ow,β,?_⟩
 refine hsim.put ((aR _ _).1 hd) (O:=B1) ?_ (fun b' hb=>h2 _ (by rw[g2];simp[hb]))
 simp only[RelV]
 exact⟨_,rfl,by simp;omega,yF (qA hl) (wJ hn g1)⟩
theorem aHs {x:Operand}{t n by_ l k:Nat}{cells:List PV}{dp bx:Bool}{c:PV}[ht:TI P t n false by_](hx:evq S x=some (.ptr l k))(ho:loq O l=some ⟨cells,dp,bx⟩)(hc:cells[k]?=some c)(hl:bx=true\/c.labs=[])(hd:Nat.blt d N=true) :
 Local Γ ⟨some d,.load t x,ty,pos,af,g⟩ ⟨S,O⟩ ⟨[(d,⟨c,false⟩)],[]⟩ (ors x) [l] []:=by
 intro F hs hlo _
 refine bE fun a w ⟨ow,β,hsim⟩=>?_
 obtain⟨B,h1,h2⟩:=cK hsim hx hs
 simp only[RelV]at h1
 obtain⟨Bo,o1,o2,hob⟩:=hsim.objs l _ (by rw[hlo l (by simp),<- dA];exact ho)
 rcases hob with⟨_,e,_⟩ | ⟨b,cs,u,e1,e2,e3,e4⟩
 · simp at e;rw[e]at hc;simp at hc
 · obtain⟨v,B1,g1,_,g3,g4⟩:=RelL.get _ _ _ _ e4 k c hc
   rw[aUR]at g1
   refine⟨v,w,by simp[execOp,h1.2 b e1,aDs (t:=t) w e3 g1],ow,β,?_⟩
   refine hsim.put ((aR _ _).1 hd) (O:=B1) ?_ (fun b' hb=>o1 _ (g4 b' hb))
   rcases hl with rfl | hl
   · exact g3
   · exact g3.nolab hl
theorem fV {x:Operand}{t n by_ l k:Nat}{cells vs:List PV}{dp bx:Bool}[ht:TI P t n true by_](hx:evq S x=some (.ptr l k))(ho:loq O l=some ⟨cells,dp,bx⟩)(hc:(cells.drop k).take n=vs)(hn:Nat.beq vs.length n=true)(hn0:n≠0)(hl:bx=true\/qB vs=true)(hd:Nat.blt d N=true) :
 Local Γ ⟨some d,.load t x,ty,pos,af,g⟩ ⟨S,O⟩ ⟨[(d,⟨.agg vs,false⟩)],[]⟩ (ors x) [l] []:=by
 intro F hs hlo _
 refine bE fun a w ⟨ow,β,hsim⟩=>?_
 obtain⟨B,h1,h2⟩:=cK hsim hx hs
 simp only[RelV]at h1
 have hn:=aU0 hn
 obtain⟨Bo,o1,o2,hob⟩:=hsim.objs l _ (by rw[hlo l (by simp),<- dA];exact ho)
 rcases hob with⟨_,e,_⟩ | ⟨b,cs,u,e1,e2,e3,e4⟩
 · simp at e;rw[e]at hc;simp at hc;subst hc;simp at hn;exact absurd hn.symm hn0
 · have hk:k<=cells.length:=by
    rcases aVA cells.length k with h | h
    · rw[aUW (by omega)]at hc;simp at hc;subst hc;simp at hn;exact absurd hn.symm hn0
    · exact h
   obtain⟨B2,g1,B1,g2⟩:=e4.drop k hk
   obtain⟨B3,g3,B4,g4⟩:=g1.take n
   rw[hc,aUR]at g3
   have hlen:k+vs.length<=cs.size:=by
    cases vs with
    | nil=>simp at hn;exact absurd hn.symm hn0
    | cons p r =>
     have g3':=g3
     simp only[RelL]at g3'
     obtain⟨c,_,_,q1,_⟩:=g3'
     have:=(aV3.1 q1.1).1
     exact aXS _ _ _ _ (by omega) g3
   refine⟨.agg (cs.extract k (k+n)),w,by simp[execOp,h1.2 b e1,zI (t:=t) w e3 (show k+n<=cs.size by omega)],ow,β,?_⟩
   refine hsim.put ((aR _ _).1 hd) (O:=B3) ?_ (fun b' hb=>o1 _ (by rw[g2,g4];simp[hb]))
   simp only[RelV]
   refine⟨_,rfl,by simp;omega,wJ hn ?_⟩
   rcases hl with rfl | hl
   · exact g3
   · exact yF (qA hl) g3
theorem aEP {t e n by_:Nat}{agg:Bool}[ht:SlT P t e][hi:TI P e n agg by_](w:World){b off m cap i:Nat}{k:IntKind}(h:i<m) :
 (Instr.indexAt t (.slice (some ⟨b,off,none⟩) m cap) (.int k i)).run P w=.ok (.pointer (some ⟨b,off+i*n,none⟩)) w:=by
 obtain⟨⟨ii,h1,h2,_⟩,_⟩:=hi.ok
 simp[Instr.indexAt,asIntOf,run_underlying ht.ok,sizeOf,typeInfo,h1,h2,Addr.add_lit,h]
theorem cR {α:Type}{l:List α}{enc:α->List PV}{sz:Nat}(h:∀ y,(enc y).length=sz):(l.flatMap enc).length=l.length*sz:=by
 induction l with
 | nil=>simp
 | cons a r ih=>simp[h,ih,aV6];omega
theorem aA4 {α:Type}{l:List α}{enc:α->List PV}{sz m:Nat}{y:α}(h:∀ y,(enc y).length=sz)(hl:l[m]?=some y):(l.flatMap enc).drop (m*sz)=enc y++(l.drop (m+1)).flatMap enc:=by
 induction l generalizing m with
 | nil=>simp at hl
 | cons a r ih =>
  cases m with
  | zero=>simp at hl;subst hl;simp
  | succ m =>
   simp at hl
   have:=ih hl
   simp only[aVc,aWZ]
   rw[List.drop_append,h a,aUW (by rw[h a,aV6];omega),show(m+1)*sz-sz=m*sz by rw[aV6];omega]
   simpa using this
theorem aPn {α:Type}{l:List α}{enc:α->List PV}{sz m o:Nat}{y:α}{c:PV}(hl:l[m]?=some y)(ho:(enc y)[o]?=some c)(h:∀ y,(enc y).length=sz):(l.flatMap enc)[m*sz+o]?=some c:=by
 have:=aA4 h hl
 rw[<- aWd,this,aVm (aVf.1 ho).1]
 exact ho
theorem aNL {α:Type}{l:List α}{enc:α->List PV}{sz m:Nat}{y:α}{c:PV}(hl:l[m]?=some y)(ho:(enc y)[0]?=some c)(h:∀ y,(enc y).length=sz):(l.flatMap enc)[m*sz]?=some c:=aPn hl ho h
theorem aPl {α:Type}{l:List α}{enc:α->List PV}{sz m:Nat}{y:α}(hl:l[m]?=some y)(h:∀ y,(enc y).length=sz):((l.flatMap enc).drop (m*sz)).take sz=enc y:=by
 rw[aA4 h hl,List.take_append_of_le_length (by rw[h];exact aUI _),aVt (by rw[h];exact aUI _)]
theorem aTW {α:Type}{x i:Operand}{t e n by_ m:Nat}{agg:Bool}{l:List α}{enc:α->List PV}{y:α}{k:IntKind}{j:Int}{len:Nat}[ht:SlT P t e][hi:TI P e n agg by_](hx:evq S x=some (.sl len (l.flatMap enc)))(hix:evq S i=some (.sc (.int k j)))(hj:j=(m:Nat))(hlen:len=l.length)
 (hl:l[m]?=some y) (hsz:∀ y,(enc y).length=n) (hd:Nat.blt d N=true) :
 Local Γ ⟨some d,.indexAddr t x i,ty,pos,af,g⟩ ⟨S,O⟩ ⟨[(d,⟨.iptr (enc y),false⟩)],[]⟩ (ors x++ors i) [] []:=by
 intro F hs _ _
 refine bE fun a w hsim=>?_
 have hiv:=tB hsim hix (fun k hk=>hs k (by simp[hk]))
 obtain⟨ow,β,hsim⟩:=hsim
 subst hj;subst hlen
 obtain⟨B,h1,h2⟩:=cK hsim hx (fun k hk=>hs k (by simp[hk]))
 have hm:=(aVf.1 hl).1
 simp only[RelV]at h1
 rcases h1 with⟨e,_⟩ | ⟨b,off,cap,cs,u,f,B',⟨e1,_⟩,e2,e3,rfl⟩
 · omega
 · obtain⟨B2,g1,B1,g2⟩:=e3.drop (m*n) (by rw[cR hsz];exact aVC _ (by omega))
   rw[aA4 hsz hl]at g1
   obtain⟨B3,B4,g3,_,g4⟩:=(aXE _ _ _ _ _).1 g1
   refine⟨.pointer (some ⟨b,off+m*n,none⟩),w,by simp[execOp,e1,hiv,aEP (t:=t) (e:=e) w hm],ow,β,?_⟩
   refine hsim.put ((aR _ _).1 hd) (O:=b::B3) (by simp only[RelV];exact⟨b,_,cs,u,f,B3,rfl,e2,g3,rfl⟩) (fun c hc=>h2 c ?_)
   rcases aUr.1 hc with rfl | hc
   · simp
   · rw[g2,g4];simp[hc]
theorem aTX {x i:Operand}{t e sz n by_ m r:Nat}{agg:Bool}{k:IntKind}{j:Int}{ob:Ob}[ht:SlT P t e][hi:TI P e sz agg by_](hx:evq S x=some (.ref r sz 0 n))(ho:loq O r=some ob)(hix:evq S i=some (.sc (.int k j)))(hj:j=(m:Nat))(hm:m<n)(hd:Nat.blt d N=true) :
 Local Γ ⟨some d,.indexAddr t x i,ty,pos,af,g⟩ ⟨S,O⟩ ⟨[(d,⟨.ptr r (m*sz),false⟩)],[]⟩ (ors x++ors i) [r] []:=by
 intro F hs hlo _
 refine bE fun a w hsim=>?_
 have hiv:=tB hsim hix (fun k hk=>hs k (by simp[hk]))
 obtain⟨ow,β,hsim⟩:=hsim
 subst hj
 obtain⟨B,h1,h2⟩:=cK hsim hx (fun k hk=>hs k (by simp[hk]))
 simp only[RelV]at h1
 obtain⟨Bo,o1,o2,hob⟩:=hsim.objs r _ (by rw[hlo r (by simp),<- dA];exact ho)
 rcases hob with⟨e1,_⟩ | ⟨b,cs,u,e1,e2,e3,e4⟩
 · have:=(h1.2.1 e1).1;omega
 · obtain⟨cap,cs',u',q1,q2,_⟩:=h1.2.2 b e1
   refine⟨.pointer (some ⟨b,m*sz,none⟩),w,by simp[execOp,q1,hiv,aEP (t:=t) (e:=e) w hm],ow,β,?_⟩
   exact hsim.put ((aR _ _).1 hd) (O:=[]) (by simp only[RelV];exact⟨trivial,fun b' hb=>by rw[e1]at hb;cases hb;rfl⟩) (by simp)
end
def aXM:=@RelV.nolab
/- The engine, part J: laying blocks: variables, slices, literals; storing. -/
open Go.RowKit (Below)
class ZT (P:Program) (t:Nat) (ps:outParam (List PV)):Prop where
 ok:∃ i z,P.info? t=some i/\i.zero=some z/\z.cells.size=i.size/\z.cells.toList.all (·.oneCell')=true/\ps=z.cells.toList.map .sc
theorem ZT.of {P:Program}{t:Nat}{vals:List Value}{ps:List PV}(h:((P.info? t).bind fun i=>i.zero.bind fun z=>bif Nat.beq z.cells.size i.size then some z.cells.toList else none)=some vals)(h2:vals.all (·.oneCell')=true)(hp:ps=vals.map .sc):ZT P t ps:=by
 cases h1:P.info? t with
 | none=>rw[h1]at h;cases h
 | some i =>
  rw[h1]at h
  simp only[aUp]at h
  cases hz:i.zero with
  | none=>rw[hz]at h;cases h
  | some z =>
   rw[hz]at h
   simp only[aUp]at h
   cases hb:Nat.beq z.cells.size i.size with
   | false=>rw[hb]at h;cases h
   | true =>
    rw[hb]at h
    simp only[aW6,Option.some.injEq]at h
    exact⟨i,z,h1,hz,aU0 hb,by rw[h];exact h2,by rw[h];exact hp⟩
def bD:PV->List PV
 | .agg cells=>cells
 | p=>[p]
def stB (O:List (Nat×Option Ob))(bx:Bool):PV->Bool
 | .agg cells=>bx||qB cells
 | .sc v=>v.oneCell'
 | .sl _ _=>true
 | .iptr _=>true
 | .rw _ _ _=>true
 | .ref l _ _ _=>bx&&(loq O l).isSome
 | _=>false
def xE (p:PV):List Nat:=p.labs
def aDV:PV->Bool
 | .sc _=>true
 | .ref _ _ _ _=>true
 | .ptr _ _=>true
 | .agg cells=>cells.all fun | .sc _=>true | _=>false
 | _=>false
section
variable {P:Program}{N:Nat}{Γ:Ctx P N}{S:List (Nat×Slot)}{O:List (Nat×Option Ob)}{ow:Nat->Own}{β:Nat->Option (Option Nat)}{F:Env}{a:Act}{w:World}
theorem aF0 {h:Array Obj}{β:Nat->Option (Option Nat)}:∀ (ps:List PV) (cs:Array Value) (i:Nat) (B:List Nat),RelL h true β ps cs i B->∀ k,k<ps.length->∃ c,cs[i+k]?=some c/\c.oneCell'=true
 | [],_,_,_,_,k,hk=>by simp at hk
 | p::ps,cs,i,B,H,k,hk=>by
  simp only[RelL]at H
  obtain⟨c,B1,B2,h1,_,h3,_⟩:=H
  cases k with
  | zero=>exact⟨c,h1.1,h1.2 trivial⟩
  | succ k =>
   obtain⟨c',g1,g2⟩:=aF0 ps cs (i+1) B2 h3 k (by simpa using hk)
   exact⟨c',by rw[<- g1];congr 1;omega,g2⟩
theorem aDU {h:Array Obj}{p:PV}{c:Value}{B:List Nat}(hf:aDV p=true)(H:RelV h β p c B):B=[]:=by
 cases p with
 | sc v=>simp only[RelV]at H;exact H.2
 | ref=>simp only[RelV]at H;exact H.1
 | ptr=>simp only[RelV]at H;exact H.1
 | agg cells=>simp only[RelV]at H;obtain⟨cs,_,_,h⟩:=H;exact aMW _ _ _ _ hf h
 | _=>simp[aDV]at hf
theorem tC (hs:SimG Γ ow β F a w){bx:Bool}{p:PV}{c:Value}{B:List Nat}(H:RelV w.heap β p c B)(hb:stB O bx p=true)(hO:∀ l∈xE p,lo F.o l=lo O l) :
 RelL w.heap true (if bx then β else dead) (bD p) c.cells 0 B/\c.cells.size=(bD p).length/\∀ v∈c.cells.toList,v.oneCell'=true:=by
 have gM:∀ l∈p.labs,(loq O l).isSome=true->(β l=some none\/∃ b,β l=some (some b)):=by
  intro l hl hls
  cases ho:loq O l with
  | none=>rw[ho]at hls;cases hls
  | some ob =>
   have:=hO l (by simp[xE,hl])
   rw[<- dA O,ho]at this
   obtain⟨_,_,_,h3⟩:=hs.objs l ob this
   rcases h3 with⟨e,_⟩ | ⟨b,_,_,e,_⟩
   · exact .inl e
   · exact .inr ⟨b,e⟩
 cases p with
 | agg cells =>
  simp only[RelV]at H
  obtain⟨cs,rfl,h2,h3⟩:=H
  simp only[bD,Value.cells]
  refine⟨?_,h2,fun v hv=>?_⟩
  · cases bx with
    | true=>exact h3
    | false=>simp[stB]at hb;exact yF (qA hb) h3
  · obtain⟨k,hk,e⟩:=aVv hv
    obtain⟨c,g1,g2⟩:=aF0 _ _ _ _ h3 k (by simp at hk;omega)
    have:c=v:=by
     rw[aUR]at g1
     have:=(aV3.1 g1)
     obtain⟨_,e2⟩:=this
     rw[<- e2,<- e];simp
    rw[<- this];exact g2
 | sc v =>
  simp only[RelV]at H
  obtain⟨rfl,rfl⟩:=H
  simp only[stB]at hb
  have:c.cells=#[c]:=by cases c <;> first | rfl | simp[Value.oneCell']at hb
  rw[this]
  refine⟨?_,by simp[bD],by simp[hb]⟩
  simp only[bD,RelL]
  exact⟨c,[],[],⟨by simp,fun _=>hb⟩,by simp[RelV],rfl,rfl⟩
 | sl n cells =>
  have hc:∃ a cap,c=.slice a n cap:=aHR H
  obtain⟨ad,cap,rfl⟩:=hc
  refine⟨?_,by simp[bD,Value.cells],by simp[Value.cells,Value.oneCell']⟩
  simp only[bD,RelL,Value.cells]
  exact⟨.slice ad n cap,B,[],⟨by simp,fun _=>rfl⟩,by split;exact H;exact H.nolab rfl,rfl,by simp⟩
 | rw s n cells =>
  have hc:∃ a m cap,c=.slice a m cap:=by
   simp only[RelV]at H
   rcases H with⟨_,_,_,e⟩ | ⟨b,cap,_,_,_,⟨e,_⟩,_⟩
   · exact⟨_,_,_,e⟩
   · exact⟨_,_,_,e⟩
  obtain⟨ad,m,cap,rfl⟩:=hc
  refine⟨?_,by simp[bD,Value.cells],by simp[Value.cells,Value.oneCell']⟩
  simp only[bD,RelL,Value.cells]
  exact⟨.slice ad m cap,B,[],⟨by simp,fun _=>rfl⟩,by split;exact H;exact H.nolab rfl,rfl,by simp⟩
 | iptr cells =>
  have hc:∃ ad,c=.pointer (some ad):=by
   simp only[RelV]at H
   obtain⟨b,off,_,_,_,_,rfl,_⟩:=H
   exact⟨_,rfl⟩
  obtain⟨ad,rfl⟩:=hc
  refine⟨?_,by simp[bD,Value.cells],by simp[Value.cells,Value.oneCell']⟩
  simp only[bD,RelL,Value.cells]
  exact⟨.pointer (some ad),B,[],⟨by simp,fun _=>rfl⟩,by split;exact H;exact H.nolab rfl,rfl,by simp⟩
 | ref l s off n =>
  simp only[stB,aUP]at hb
  obtain⟨rfl,hb⟩:=hb
  have hc:∃ ad m cap,c=.slice ad m cap:=by
   simp only[RelV]at H
   rcases gM l (by simp[PV.labs]) hb with e | ⟨b,e⟩
   · exact⟨_,_,_,(H.2.1 e).2.2⟩
   · obtain⟨cap,_,_,e2,_⟩:=H.2.2 b e;exact⟨_,_,_,e2⟩
  obtain⟨ad,m,cap,rfl⟩:=hc
  refine⟨?_,by simp[bD,Value.cells],by simp[Value.cells,Value.oneCell']⟩
  simp only[bD,RelL,Value.cells]
  exact⟨.slice ad m cap,B,[],⟨by simp,fun _=>rfl⟩,H,rfl,by simp⟩
 | ptr=>simp[stB]at hb
 | tup=>simp[stB]at hb
 | any=>simp[stB]at hb
 | was=>simp[stB]at hb
theorem uZ (w:World)(ob:Obj):Same w (w.alloc ob):=⟨rfl,rfl,rfl,by simp⟩
theorem fZ (w:World)(ob:Obj):(w.alloc ob).heap[w.heap.size]?=some ob:=by
 show(w.heap.push ob)[w.heap.size]?=_
 simp
theorem jV (w:World)(ob:Obj){b:Nat}(h:b<w.heap.size):(w.alloc ob).heap[b]?=w.heap[b]?:=Below.heap_alloc w ob b h
theorem SimG.layPut (h:SimG Γ ow β F a w){w':World}(hw:Same w w'){b0:Nat}(hlt:b0<w'.heap.size)(hother:∀ b,b<w.heap.size->b≠b0->w'.heap[b]?=w.heap[b]?)
 {cs:Array Value} {t:TypeId} (hrow:w'.heap[b0]?=some (.cells cs t (0,0))) {l:Nat} (hl:NoLab F l) (hio:Γ.io l=none) (ks ls:List Nat)
 (horig:w.heap.size<=b0\/∃ m∈ls,β m=some (some b0)) (hbase:Γ.nww b0) (ob:Ob) {B:List Nat}
 (hrel:RelL w'.heap true (if ob.box then β else dead) ob.cells cs 0 B) (hlab:ob.box=true->∀ p∈ob.cells,l∉p.labs) (hO:∀ b∈B,Im Γ ow w b)
 (hdeep:ob.deep=true->B.Nodup/\∀ b∈B,gA w b/\Γ.nw b/\((∃ k∈ks,ow b=.slot k)\/(∃ m∈ls,ow b=.obj m)\/ow b=.none))
 {d:Nat} (hd:d<N) {v:PV} {c:Value} (hv:∀ β',β' l=some (some b0)->RelV w'.heap β' v c []) :
 Sim Γ (F.app ⟨(d,⟨v,false⟩)::ks.map (fun j=>(j,⟨.any,false⟩)),(l,some ob)::ls.map (fun j=>(j,none))⟩) (a.put (some d) c) w':=by
 obtain⟨ow',h'⟩:=h.lay hw hlt hother hrow hl hio ks ls horig hbase ob hrel hlab hO hdeep
 have:=h'.put hd (hv _ (by simp)) (by simp)
 exact⟨_,_,this⟩
variable {d:Nat}{ty:TypeId}{pos:String}{af:Array Edge}{g:Option (Nat×Bool)}
theorem aIR {h:Array Obj}{β:Nat->Option (Option Nat)}:∀ (vs:List Value) (cs:Array Value) (i:Nat),(∀ k,k<vs.length->cs[i+k]?=vs[k]?)->(∀ v∈vs,v.oneCell'=true)->RelL h true β (vs.map .sc) cs i []
 | [],_,_,_,_=>by simp[RelL]
 | v::vs,cs,i,h1,h2=>by
  simp only[aUH,RelL]
  refine⟨v,[],[],⟨by have:=h1 0 (by simp);simpa using this,fun _=>h2 v (by simp)⟩,by simp[RelV],aIR vs cs (i+1) (fun k hk=>?_) (fun v hv=>h2 v (by simp[hv])),rfl⟩
  have:=h1 (k+1) (by simp;omega)
  rw[show i+1+k=i+(k+1)by omega,this];simp
theorem aOQ {vs:List Value}:∀ p∈vs.map PV.sc,p.labs=[]:=by
 intro p hp
 obtain⟨v,_,rfl⟩:=aUJ.1 hp
 rfl
theorem aRl {e:Nat}{ps:List PV}(bx:Bool)[hz:ZT P e ps](hio:Γ.io d=none)(hd:Nat.blt d N=true) :
 Local Γ ⟨some d,.alloc e,ty,pos,af,g⟩ ⟨S,O⟩ ⟨[(d,⟨.ptr d 0,false⟩)],[(d,some ⟨ps,true,bx⟩)]⟩ [] [] [d]:=by
 intro F hs _ hnl
 refine bE fun a w ⟨ow,β,hsim⟩=>?_
 obtain⟨i,z,h1,h2,h3,h4,rfl⟩:=hz.ok
 refine⟨.pointer (some ⟨w.heap.size,0,none⟩),w.alloc (.cells z.cells e),?_,?_⟩
 · simp[execOp,Instr.alloc,zeroValue,typeInfo,h1,h2,newVar,newRow]
 · refine hsim.layPut (uZ w _) (b0:=w.heap.size) (by simp) (fun b hb _=>jV w _ hb) (fZ w _) (hnl d (by simp)) hio [] [] (.inl (aUI _)) (.inl hsim.kept.size) ⟨z.cells.toList.map .sc,true,bx⟩ (B:=[]) ?_ ?_ (by simp) (by simp) ((aR _ _).1 hd) (fun β' hβ=>?_)
   · exact aIR _ _ _ (fun k hk=>by simp) (fun v hv=>List.all_eq_true.1 h4 v hv)
   · intro _ p hp;rw[aOQ p hp];simp
   · simp only[RelV];exact⟨trivial,fun b hb=>by rw[hβ]at hb;cases hb;rfl⟩
theorem aT0 {e:Nat}{x:Operand}{p:PV}(bx:Bool)(hx:evq S x=some p)(hst:stB O bx p=true)(hlab:zD p.labs d=false)(hio:Γ.io d=none)(hd:Nat.blt d N=true) :
 Local Γ ⟨some d,.box e x,ty,pos,af,g⟩ ⟨S,O⟩ ⟨[(d,⟨.ptr d 0,false⟩)],[(d,some ⟨bD p,aDV p,bx⟩)]⟩ (ors x) (xE p) [d]:=by
 intro F hs hlo hnl
 refine bE fun a w ⟨ow,β,hsim⟩=>?_
 obtain⟨B,h1,h2⟩:=cK hsim hx hs
 obtain⟨r1,r2,r3⟩:=tC (O:=O) hsim h1 hst hlo
 refine⟨.pointer (some ⟨w.heap.size,0,none⟩),w.alloc (.cells (a.eval x).cells e),?_,?_⟩
 · simp[execOp,Instr.box,newVar,newRow]
 · refine hsim.layPut (uZ w _) (b0:=w.heap.size) (by simp) (fun b hb _=>jV w _ hb) (fZ w _) (hnl d (by simp)) hio [] [] (.inl (aUI _)) (.inl hsim.kept.size) ⟨bD p,aDV p,bx⟩ (B:=B) ?_ ?_ h2 ?_ ((aR _ _).1 hd) (fun β' hβ=>?_)
   · refine aXr _ _ _ _ (fun q _ l _ o ho=>⟨ho,fun b hob=>?_⟩) (fun b hb=>jV w _ (h2 b hb).1) r1
     subst hob
     intro cs t hc
     refine⟨cs,?_,rfl⟩
     have:b<w.heap.size:=by
      cases bx with
      | false=>cases ho
      | true=>exact hsim.block_lt ho
     rw[jV w _ this];exact hc
   · intro hb q hq hd'
     have:d∈p.labs:=by
      cases p with
      | agg cells=>simp only[PV.labs];exact aAr.2 ⟨q,hq,hd'⟩
      | _=>simp only[bD,aU2]at hq;subst hq;exact hd'
     rw[(lD _ _).2 this]at hlab;cases hlab
   · intro hsc
     rw[aDU hsc h1];simp
   · simp only[RelV];exact⟨trivial,fun b hb=>by rw[hβ]at hb;cases hb;rfl⟩
end
/- The engine, part K: more blocks: taking over, made slices, slice literals, stores. -/
open Go.RowKit (Below)
section
variable {P:Program}{N:Nat}{Γ:Ctx P N}{S:List (Nat×Slot)}{O:List (Nat×Option Ob)}{ow:Nat->Own}{β:Nat->Option (Option Nat)}{F:Env}{a:Act}{w:World}
variable {d:Nat}{ty:TypeId}{pos:String}{af:Array Edge}{g:Option (Nat×Bool)}
theorem aGz (z:Array Value)(n:Nat)(hz:z.size≠0):(madeCells z (n*z.size)).toList=(List.replicate n ()).flatMap fun _=>z.toList:=by
 apply List.ext_getElem?
 intro k
 have hlen:((List.replicate n ()).flatMap fun _=>z.toList).length=n*z.size:=by
  induction n with
  | zero=>simp
  | succ n ih=>simp[aV5,ih,aV6];omega
 by_cases hk:k<n*z.size
 · have e1:(madeCells z (n*z.size)).toList[k]?=some (z[k % z.size]!):=by
    simp[madeCells,hk]
   have hm:k % z.size<z.size:=aWh _ (by omega)
   rw[e1]
   clear e1 hlen
   induction n generalizing k with
   | zero=>simp at hk
   | succ n ih =>
    simp only[aV5,aVc]
    by_cases hlt:k<z.size
    · rw[aVm (by simpa using hlt),aV0 hlt]
      simp[hlt]
    · rw[aVl (by simp;omega)]
      have:=ih (k-z.size) (by rw[aV6]at hk;omega) (aWh _ (by omega))
      rw[show k % z.size=(k-z.size) % z.size from Nat.mod_eq_sub_mod (by omega)]
      simpa using this
 · rw[aV8 (by simp[madeCells];omega),aV8 (by omega)]
theorem aSQ {t e sz by_ m:Nat}{agg:Bool}{x y:Operand}{k k':IntKind}{n n':Int}{ps:List PV}[ht:SlT P t e][hi:TI P e sz agg by_][hz:ZT P e ps](hx:evq S x=some (.sc (.int k n)))(hy:evq S y=some (.sc (.int k' n')))(hn:n=(m:Nat))(hn':n'=(m:Nat))
 (hb:m*by_<=281474976710656) (hm:m<=9223372036854775807) (hsz:sz≠0) (hio:Γ.io d=none) (hd:Nat.blt d N=true) :
 Local Γ ⟨some d,.makeSlice t x y,ty,pos,af,g⟩ ⟨S,O⟩ ⟨[(d,⟨.ref d sz 0 m,false⟩)],[(d,some ⟨(List.replicate m ()).flatMap (fun _=>ps),true,false⟩)]⟩ (ors x++ors y) [] [d]:=by
 intro F hs _ hnl
 refine bE fun a w hsim=>?_
 have e1:=tB hsim hx (fun k hk=>hs k (by simp[hk]))
 have e2:=tB hsim hy (fun k hk=>hs k (by simp[hk]))
 obtain⟨ow,β,hsim⟩:=hsim
 subst hn;subst hn'
 obtain⟨i,z,h1,h2,h3,h4,rfl⟩:=hz.ok
 obtain⟨⟨i',g1,g2,g3⟩,_⟩:=hi.ok
 rw[h1]at g1;cases g1
 have hb':(i.bytes:Int)*(m:Int)<=281474976710656:=by
  rw[g3]
  have h:((m*by_:Nat):Int)<=281474976710656:=by omega
  rw[Int.natCast_mul,Int.mul_comm]at h;exact h
 have hr:=run_make (P:=P) w t e i z ht.ok h1 h2 k k' (m:Int) (m:Int) (by omega) (Int.le_refl _) hb' (by omega)
 simp only[aU1]at hr
 refine⟨_,_,by simp only[execOp,e1,e2,Sem.run_bind,hr,Result.andThen_ok];rfl,?_⟩
 have hcs:(madeCells z.cells (m*i.size)).toList=((List.replicate m ()).flatMap fun _=>z.cells.toList):=by rw[<- h3];exact aGz _ _ (by rw[h3,g2];exact hsz)
 refine hsim.layPut (uZ w _) (b0:=w.heap.size) (by simp) (fun b hb _=>jV w _ hb) (fZ w _) (hnl d (by simp)) hio [] [] (.inl (aUI _)) (.inl hsim.kept.size) ⟨_,true,false⟩ (B:=[]) ?_ (by simp) (by simp) (by simp) ((aR _ _).1 hd) (fun β' hβ=>?_)
 · have:((List.replicate m ()).flatMap fun _=>z.cells.toList.map PV.sc)=((List.replicate m ()).flatMap fun _=>z.cells.toList).map PV.sc:=by rw[List.map_flatMap]
   simp only[this,<- hcs]
   refine aIR _ _ _ (fun k hk=>by simp) (fun v hv=>?_)
   rw[hcs]at hv
   obtain⟨_,_,hv⟩:=aVN.1 hv
   exact List.all_eq_true.1 h4 v hv
 · simp only[RelV]
   refine⟨trivial,fun h=>by rw[hβ]at h;simp at h,fun b hb=>?_⟩
   rw[hβ]at hb;cases hb
   refine⟨m,madeCells z.cells (m*i.size),e,by simp,fZ w _,by simp[size_madeCells,g2],aUI _⟩
theorem aTZ {t e sz by_:Nat}{agg:Bool}[ht:SlT P t e][hi:TI P e sz agg by_](hio:Γ.io d=none)(hd:Nat.blt d N=true) :
 Local Γ ⟨some d,.buildSlice t 0 #[],ty,pos,af,g⟩ ⟨S,O⟩ ⟨[(d,⟨.ref d sz 0 0,false⟩)],[(d,some ⟨[],true,false⟩)]⟩ [] [] [d]:=by
 intro F hs _ hnl
 refine bE fun a w ⟨ow,β,hsim⟩=>?_
 obtain⟨⟨i',g1,g2,g3⟩,_⟩:=hi.ok
 refine⟨.slice (some ⟨w.heap.size,0,none⟩) 0 0,w.alloc (.cells #[] e),?_,?_⟩
 · simp[execOp,Instr.buildSlice,run_underlying ht.ok,sizeOf,typeInfo,g1,Instr.fill,newRow,Array.range_zero']
 refine hsim.layPut (uZ w _) (b0:=w.heap.size) (by simp) (fun b hb _=>jV w _ hb) (fZ w _) (hnl d (by simp)) hio [] [] (.inl (aUI _)) (.inl hsim.kept.size) ⟨[],true,false⟩ (B:=[]) (by simp[RelL]) (by simp) (by simp) (by simp) ((aR _ _).1 hd) (fun β' hβ=>?_)
 simp only[RelV]
 refine⟨trivial,fun h=>by rw[hβ]at h;simp at h,fun b hb=>?_⟩
 rw[hβ]at hb;cases hb
 exact⟨0,#[],e,by simp,fZ w _,by simp,aUI _⟩
theorem aFs {t e sz by_:Nat}{agg:Bool}{ps:List PV}[ht:SlT P t e][hi:TI P e sz agg by_][hz:ZT P e ps](w:World)(v:Value)(hv:v.cells.size=sz)(hsz:sz≠0)(hs2:sz<=1000) :
 (Instr.buildSlice t 1 #[(0,v)]).run P w=.ok (.slice (some ⟨w.heap.size,0,none⟩) 1 1) (w.alloc (.cells v.cells e)):=by
 obtain⟨i,z,h1,h2,h3,h4,_⟩:=hz.ok
 obtain⟨⟨i',g1,g2,g3⟩,_⟩:=hi.ok
 rw[h1]at g1;cases g1
 refine run_buildSlice w t e 1 _ v.cells i z ht.ok h1 h2 (by rw[g2];omega) (by rw[g2];omega) ?_
 have:=Go.Great.fill_whole (s:=i.size) (by omega) [v] ((Array.range (1*i.size)).map (z.cells[· % z.cells.size]!)) (by simp[hv,g2]) (by simp)
 simpa using this
theorem aTY {t e sz by_:Nat}{agg:Bool}{ps:List PV}{x:Operand}{p:PV}[ht:SlT P t e][hi:TI P e sz agg by_][hz:ZT P e ps](hx:evq S x=some p)(hst:stB O false p=true)(hsc:aDV p=true)(hl:p.labs=[])(hlen:Nat.beq (bD p).length sz=true)(hsz:Nat.blt 0 sz=true)(hs2:Nat.ble sz 1000=true)(hd:Nat.blt d N=true) :
 Local Γ ⟨some d,.buildSlice t 1 #[(0,x)],ty,pos,af,g⟩ ⟨S,O⟩ ⟨[(d,⟨.sl 1 (bD p),true⟩)],[]⟩ (ors x) [] []:=by
 intro F hs _ _
 refine bE fun a w ⟨ow,β,hsim⟩=>?_
 obtain⟨B,h1,h2⟩:=cK hsim hx hs
 obtain⟨r1,r2,r3⟩:=tC (O:=O) hsim h1 hst (by simp[xE,hl])
 have hB:=aDU hsc h1
 subst hB
 have hlen:=aU0 hlen
 have hw:Below w.heap.size w (w.alloc (.cells (a.eval x).cells e)):=(Below.refl _ w).alloc (aUI _) _
 refine⟨_,_,by simp only[execOp,List.map_toArray,aUH,aVy];rw[Sem.run_bind,aFs (sz:=sz) w _ (r2.trans hlen) (by have:=(aR _ _).1 hsz;omega) (aUZ hs2)];rfl,?_⟩
 refine⟨_,β,(hsim.grow hw).putDeep ((aR _ _).1 hd) (O:=[w.heap.size]) ?_ ?_ (by simp) ?_ ?_⟩
 · simp only[RelV]
   exact .inr ⟨w.heap.size,0,1,(a.eval x).cells,e,(0,0),[],⟨rfl,aUI _⟩,fZ w _,aXr _ _ _ _ (fun q _ l _ o ho=>by cases ho) (by simp) r1,rfl⟩
 · intro b hb;simp at hb;subst hb
   exact⟨by simp,.inr (.inl (.inl hsim.kept.size)),fun l e=>by have:=(hsim.own _ (by rw[e];simp)).1;omega⟩
 · intro b hb;simp at hb;subst hb
   exact⟨⟨_,_,fZ w _⟩,.inl (.inl hsim.kept.size)⟩
 · intro b hb;simp at hb;subst hb
   cases hx:ow w.heap.size with
   | none=>exact .inl rfl
   | _=>have:=(hsim.own _ (by rw[hx];simp)).1;omega
theorem aL5 {t e sz by_:Nat}{agg:Bool}{ps:List PV}{x:Operand}{p:PV}[ht:SlT P t e][hi:TI P e sz agg by_][hz:ZT P e ps](hx:evq S x=some p)(hst:stB O false p=true)(hl:p.labs=[])(hlen:Nat.beq (bD p).length sz=true)(hsz:Nat.blt 0 sz=true)(hs2:Nat.ble sz 1000=true)(hd:Nat.blt d N=true) :
 Local Γ ⟨some d,.buildSlice t 1 #[(0,x)],ty,pos,af,g⟩ ⟨S,O⟩ ⟨[(d,⟨.sl 1 (bD p),false⟩)],[]⟩ (ors x) [] []:=by
 intro F hs _ _
 refine bE fun a w ⟨ow,β,hsim⟩=>?_
 obtain⟨B,h1,h2⟩:=cK hsim hx hs
 obtain⟨r1,r2,r3⟩:=tC (O:=O) hsim h1 hst (by simp[xE,hl])
 have hlen:=aU0 hlen
 have hw:Below w.heap.size w (w.alloc (.cells (a.eval x).cells e)):=(Below.refl _ w).alloc (aUI _) _
 refine⟨_,_,by simp only[execOp,List.map_toArray,aUH,aVy];rw[Sem.run_bind,aFs (sz:=sz) w _ (r2.trans hlen) (by have:=(aR _ _).1 hsz;omega) (aUZ hs2)];rfl,?_⟩
 refine⟨_,β,(hsim.grow hw).put ((aR _ _).1 hd) (O:=w.heap.size::B) ?_ ?_⟩
 · simp only[RelV]
   exact .inr ⟨w.heap.size,0,1,(a.eval x).cells,e,(0,0),B,⟨rfl,aUI _⟩,fZ w _,aXr _ _ _ _ (fun q _ l _ o ho=>by cases ho) (fun b hb=>jV w _ (h2 b hb).1) r1,rfl⟩
 · intro b hb
   rcases aUr.1 hb with rfl | hb
   · exact⟨by simp,.inr (.inl (.inl hsim.kept.size)),fun l e=>by have:=(hsim.own _ (by rw[e];simp)).1;omega⟩
   · obtain⟨q1,q2,q3⟩:=h2 b hb
     exact⟨by simp;omega,q2,q3⟩
theorem aS1 {t e sz by_ s:Nat}{agg:Bool}{ps:List PV}{p:PV}[ht:SlT P t e][hi:TI P e sz agg by_][hz:ZT P e ps](hx:lkq S s=some ⟨p,true⟩)(hst:stB O false p=true)(hl:p.labs=[])(hlen:Nat.beq (bD p).length sz=true)(hsz:Nat.blt 0 sz=true)(hs2:Nat.ble sz 1000=true)(hne:Nat.beq d s=false)(hd:Nat.blt d N=true) :
 Local Γ ⟨some d,.buildSlice t 1 #[(0,.tmp s)],ty,pos,af,g⟩ ⟨S,O⟩ ⟨[(d,⟨.sl 1 (bD p),true⟩),(s,⟨.any,false⟩)],[]⟩ [s] [] []:=by
 intro F hs _ _
 refine bE fun a w ⟨ow,β,hsim⟩=>?_
 have hlk:lk F.s s=⟨p,true⟩:=(hs s (by simp)).trans (gH hx)
 have hlen:=aU0 hlen
 have hds:d≠s:=fun e=>by rw[rJ]at hne;simp at hne;exact hne e
 have hdN:=(aR _ _).1 hd
 obtain⟨ow1,hs1⟩:=hsim.take hdN hds hlk
 obtain⟨B,h1,h2,h3⟩:=hs1.slots d
 have el:lk ((F.app ⟨[(d,⟨p,true⟩),(s,⟨.any,false⟩)],[]⟩).s) d=⟨p,true⟩:=by simp[Env.app,gI]
 have ev:(a.put (some d) (a.tmps.getD s undef)).tmps.getD d undef=a.tmps.getD s undef:=by
  simp only[Act.put];exact lT (by rw[hsim.size];exact hdN)
 rw[el]at h1 h3
 rw[ev]at h1
 obtain⟨r1,r2,r3⟩:=tC (O:=O) hs1 h1 hst (by simp[xE,hl])
 have hw:Below w.heap.size w (w.alloc (.cells (a.tmps.getD s undef).cells e)):=(Below.refl _ w).alloc (aUI _) _
 refine⟨_,_,by simp only[execOp,List.map_toArray,aUH,aVy,Act.eval];rw[Sem.run_bind,aFs (sz:=sz) w _ (r2.trans hlen) (by have:=(aR _ _).1 hsz;omega) (aUZ hs2)];rfl,?_⟩
 have hfin:=(hs1.grow hw).putDeep (d:=d) hdN (v:=.sl 1 (bD p)) (c:=.slice (some ⟨w.heap.size,0,none⟩) 1 1) (O:=w.heap.size::B) (by
  simp only[RelV]
  exact .inr ⟨w.heap.size,0,1,_,e,(0,0),B,⟨rfl,aUI _⟩,fZ w _,aXr _ _ _ _ (fun q _ l _ o ho=>by cases ho) (fun b hb=>jV w _ (h2 b hb).1) r1,rfl⟩) (by
  intro b hb
  rcases aUr.1 hb with rfl | hb
  · exact⟨by simp,.inr (.inl (.inl hsim.kept.size)),fun l e=>by have:=(hs1.own _ (by rw[e];simp)).1;omega⟩
  · obtain⟨q1,q2,q3⟩:=h2 b hb
    exact⟨by simp;omega,q2,q3⟩) (by
  refine aUL.2 ⟨fun hb=>by have:=(h2 _ hb).1;omega,(h3 rfl).1⟩) (by
  intro b hb
  rcases aUr.1 hb with rfl | hb
  · exact⟨⟨_,_,fZ w _⟩,.inl (.inl hsim.kept.size)⟩
  · obtain⟨q1,cs,t,q2⟩:=(h3 rfl).2 b hb
    refine⟨⟨cs,t,by rw[jV w _ (h2 b hb).1];exact q2⟩,?_⟩
    rcases(hs1.own b (by rw[q1];simp)).2 with h | ⟨l,h,_⟩
    · exact h
    · rw[q1]at h;cases h) (by
  intro b hb
  rcases aUr.1 hb with rfl | hb
  · cases hx:ow1 w.heap.size with
    | none=>exact .inl rfl
    | _=>have:=(hs1.own _ (by rw[hx];simp)).1;omega
  · exact .inr ((h3 rfl).2 b hb).1)
 refine Sim.congr (fun k=>?_) (fun l=>?_) ⟨_,_,(by
  have e:(a.put (some d) (a.tmps.getD s undef)).put (some d) (.slice (some ⟨w.heap.size,0,none⟩) 1 1)=a.put (some d) (.slice (some ⟨w.heap.size,0,none⟩) 1 1):=by
   simp[Act.put]
  rw[e]at hfin;exact hfin)⟩
 · simp only[Env.app,aUB,aUx,gI]
   by_cases h:d=k
   · simp[h]
   · simp[h]
 · rfl
end
/- The engine, part L: storing into an own block. -/
open Go.RowKit (Below)
section
variable {P:Program}{N:Nat}{Γ:Ctx P N}{S:List (Nat×Slot)}{O:List (Nat×Option Ob)}{ow:Nat->Own}{β:Nat->Option (Option Nat)}{F:Env}{a:Act}{w:World}
variable {d:Nat}{ty:TypeId}{pos:String}{af:Array Edge}{g:Option (Nat×Bool)}
theorem aJI {t n by_:Nat}{agg:Bool}[ht:TI P t n agg by_](w:World){b k:Nat}{cs:Array Value}{u:TypeId}{v:Value}(hb:w.heap[b]?=some (.cells cs u (0,0)))(hv:v.cells.size=n)(hk:k+n<=cs.size)(h1:∀ c∈v.cells.toList,c.oneCell'=true) :
 (Instr.storeAt t (.pointer (some ⟨b,k,none⟩)) v).run P w=.ok () (w.setRow b (cs.toList.take k++v.cells.toList++cs.toList.drop (k+n)).toArray):=by
 obtain⟨⟨i,e1,e2,_⟩,_⟩:=ht.ok
 have hs:=run_storeCells_at P b k u v.cells.toList 0 cs w hb (by simp[hv];exact hk) h1
 simp only[aVh,aWH,hv]at hs
 simp[Instr.storeAt,Instr.sureAddr,storeVar,sizeOf,typeInfo,e1,e2,hv,hs]
theorem aEO (w:World)(b:Nat)(cs:Array Value):Same w (w.setRow b cs):=⟨rfl,rfl,rfl,by simp⟩
theorem aER {h:Array Obj}{β:Nat->Option (Option Nat)}{cells vs:List PV}{cs:Array Value}{xs:List Value}{k n:Nat}{B Bp:List Nat}(H:RelL h true β cells cs 0 B)(Hv:RelL h true β vs xs.toArray 0 Bp)(hn:vs.length=n)(hx:xs.length=n)(hk:k+n<=cells.length)(hs:cells.length<=cs.size) :
 ∃ B1 B2 B3,B=B1++(B2++B3)/\RelL h true β (cells.take k++vs++cells.drop (k+n)) (cs.toList.take k++xs++cs.toList.drop (k+n)).toArray 0 (B1++(Bp++B3)):=by
 have e:cells=cells.take k++((cells.drop k).take n++cells.drop (k+n)):=by
  rw[<- List.drop_drop,aVs,aVs]
 rw[e]at H
 obtain⟨B1,B',h1,h2,rfl⟩:=(aXE _ _ _ _ _).1 H
 obtain⟨B2,B3,h3,h4,rfl⟩:=(aXE _ _ _ _ _).1 h2
 refine⟨B1,B2,B3,rfl,?_⟩
 have l1:(cells.take k).length=k:=by simp;omega
 have l2:((cells.drop k).take n).length=n:=by simp;omega
 rw[l1,l2,aUR]at h4
 rw[aUO]
 have lt:(cs.toList.take k).length=k:=by simp;omega
 refine(aXE _ _ _ _ _).2 ⟨B1,Bp++B3,aXG _ _ _ _ _ _ (fun j hj=>?_) h1,(aXE _ _ _ _ _).2 ⟨Bp,B3,aXG _ _ _ _ _ _ (fun j hj=>?_) Hv,aXG _ _ _ _ _ _ (fun j hj=>?_) h4,rfl⟩,rfl⟩
 · rw[l1]at hj
   simp only[aUR,aVS]
   rw[aUO,aVm (by omega),aWc,aUs hj]
   simp
 · rw[hn]at hj
   rw[l1]
   simp only[aUR,aVS]
   rw[aUO,aVl (by omega),lt,Nat.add_sub_cancel_left,aVm (by omega)]
 · rw[l1,hn]
   simp only[aUR,aVS]
   rw[aUO,aVl (by omega),lt,aVl (by omega),hx,aWd]
   rw[show k+n+(k+n+j-k-n)=k+n+j by omega]
   simp
theorem aFN (hsim:SimG Γ ow β F a w){t n by_ l k b:Nat}{agg dp bx dp':Bool}[ht:TI P t n agg by_]{cells:List PV}{cs:Array Value}{u:TypeId}{Bo:List Nat}(ho1:∀ c∈Bo,Im Γ ow w c)(ho2:dp=true->Bo.Nodup/\∀ c∈Bo,ow c=.obj l/\gA w c)
 (hβ:β l=some (some b)) (hb:w.heap[b]?=some (.cells cs u (0,0))) (hr:RelL w.heap true (if bx then β else dead) cells cs 0 Bo)
 {p:PV} {v:Value} {Bp:List Nat} (hp:RelL w.heap true (if bx then β else dead) (bD p) v.cells 0 Bp) (hpi:∀ c∈Bp,Im Γ ow w c) (hv1:v.cells.size=(bD p).length) (hv2:∀ c∈v.cells.toList,c.oneCell'=true) (hlen:(bD p).length=n) (hk:k+n<=cells.length)
 (ks:List Nat) (hdp:dp'=true->dp=true/\Bp.Nodup/\∀ c∈Bp,gA w c/\Γ.nw c/\∃ s∈ks,ow c=.slot s) :
 ∃ w' ow',(Instr.storeAt t (.pointer (some ⟨b,k,none⟩)) v).run P w=.ok () w'/\SimG Γ ow' β (F.app ⟨ks.map (fun j=>(j,⟨.any,false⟩)),[(l,some ⟨cells.take k++bD p++cells.drop (k+n),dp',bx⟩)]⟩) a w':=by
 have hsz:cells.length<=cs.size:=by have:=aXS _ _ _ _ (aVk _) hr;omega
 let cs':Array Value:=(cs.toList.take k++v.cells.toList++cs.toList.drop (k+n)).toArray
 have hblt:b<w.heap.size:=hsim.block_lt hβ
 have hrow:(w.setRow b cs').heap[b]?=some (.cells cs' u (0,0)):=setRow_heap w b cs cs' u (0,0) hb
 have hother:∀ c,c<w.heap.size->c≠b->(w.setRow b cs').heap[c]?=w.heap[c]?:=fun c _ h=>setRow_other w b c cs' h
 have hsize:cs'.size=cs.size:=by simp[cs',hv1,hlen];omega
 obtain⟨B1,B2,B3,rfl,hnew⟩:=aER (xs:=v.cells.toList) hr (by simpa using hp) hlen (by simp[hv1,hlen]) hk hsz
 have hne:∀ c,Im Γ ow w c->c≠b:=by rintro c ⟨_,_,h3⟩ rfl;exact h3 l (hsim.lab_ne hβ)
 have hin:∀ c∈B1++(Bp++B3),Im Γ ow w c:=by
  intro c hc
  simp only[aUz]at hc
  rcases hc with hc | hc | hc
  · exact ho1 c (by simp[hc])
  · exact hpi c hc
  · exact ho1 c (by simp[hc])
 have hshape:∀ c,c<w.heap.size->aD9 w.heap (w.setRow b cs').heap c:=by
  intro c hc x y hxy
  by_cases hcb:c=b
  · subst hcb;rw[hb]at hxy;cases hxy;exact⟨cs',hrow,hsize⟩
  · exact⟨x,by rw[hother c hc hcb];exact hxy,rfl⟩
 have hnew':RelL (w.setRow b cs').heap true (if bx then β else dead) (cells.take k++bD p++cells.drop (k+n)) cs' 0 (B1++(Bp++B3)):=by
  refine aXr _ _ _ _ (fun q _ m _ o hm=>⟨hm,fun c hc=>?_⟩) (fun c hc=>hother c (hin c hc).1 (hne c (hin c hc))) hnew
  subst hc
  refine hshape c ?_
  cases bx with
  | false=>cases hm
  | true=>exact hsim.block_lt hm
 obtain⟨ow',h'⟩:=hsim.rewrite (aEO w b cs') hβ hother hb hrow hsize ks ⟨cells.take k++bD p++cells.drop (k+n),dp',bx⟩ (O:=B1++(Bp++B3)) hnew' hin (fun h=>by
  obtain⟨d1,d2,d3⟩:=hdp h
  obtain⟨o1,o2⟩:=ho2 d1
  refine⟨?_,fun c hc=>?_⟩
  · rw[aUQ]at o1 ⊢
    obtain⟨n1,n2,n3⟩:=o1
    rw[aUQ]at n2
    obtain⟨n4,n5,n6⟩:=n2
    have hdis:∀ c∈Bp,∀ c'∈B1++(B2++B3),c≠c':=by
     intro c hc c' hc' e
     subst e
     obtain⟨_,_,s,_,e1⟩:=d3 c hc
     rw[(o2 c hc').1]at e1;cases e1
    refine⟨n1,?_,?_⟩
    · rw[aUQ]
      exact⟨d2,n5,fun c hc c' hc'=>hdis c hc c' (by simp[hc'])⟩
    · intro c hc c' hc' e
      rcases aUz.1 hc' with h | h
      · exact hdis c' h c (by simp[hc]) e.symm
      · exact n3 c hc c' (by simp[h]) e
  · simp only[aUz]at hc
    have hown:∀ c∈B1++(B2++B3),gA w c/\Γ.nw c/\((∃ s∈ks,ow c=.slot s)\/ow c=.obj l\/ow c=.none):=by
     intro c hc
     obtain⟨e1,e2⟩:=o2 c hc
     refine⟨e2,?_,.inr (.inl e1)⟩
     rcases(hsim.own c (by rw[e1];simp)).2 with h | ⟨m,h,_⟩
     · exact h
     · rw[e1]at h;cases h
    rcases hc with hc | hc | hc
    · exact hown c (by simp[hc])
    · obtain⟨e1,e2,s,e3,e4⟩:=d3 c hc
      exact⟨e1,e2,.inl ⟨s,e3,e4⟩⟩
    · exact hown c (by simp[hc]))
 exact⟨_,ow',aJI w hb (hv1.trans hlen) (by omega) hv2,h'⟩
theorem aUo {x y:Operand}{t n by_ l k:Nat}{agg dp bx:Bool}{cells cells':List PV}{p:PV}[ht:TI P t n agg by_](hx:evq S x=some (.ptr l k))(ho:loq O l=some ⟨cells,dp,bx⟩)(hy:evq S y=some p)(hst:stB O bx p=true)
 (hlen:Nat.beq (bD p).length n=true) (hn0:n≠0) (hk:Nat.ble (k+n) cells.length=true) (hc:cells.take k++bD p++cells.drop (k+n)=cells') :
 Local Γ ⟨none,.store t x y,ty,pos,af,g⟩ ⟨S,O⟩ ⟨[],[(l,some ⟨cells',dp&&aDV p,bx⟩)]⟩ (ors x++ors y) (l::xE p) []:=by
 intro F hs hlo _
 refine aEV fun a w ⟨ow,β,hsim⟩=>?_
 obtain⟨B,h1,h2⟩:=cK hsim hx (fun k hk=>hs k (by simp[hk]))
 obtain⟨Bp,g1,g2⟩:=cK hsim hy (fun k hk=>hs k (by simp[hk]))
 simp only[RelV]at h1
 obtain⟨r1,r2,r3⟩:=tC (O:=O) hsim g1 hst (fun m hm=>hlo m (by simp[hm]))
 obtain⟨Bo,o1,o2,hob⟩:=hsim.objs l _ (by rw[hlo l (by simp),<- dA];exact ho)
 have hlen:=aU0 hlen
 have hk:=aUZ hk
 rcases hob with⟨_,e,_⟩ | ⟨b,cs,u,e1,e2,e3,e4⟩
 · simp at e;rw[e]at hk;simp at hk;omega
 · obtain⟨w',ow',q1,q2⟩:=aFN (t:=t) (p:=p) (dp':=dp&&aDV p) hsim o1 o2 e1 e3 e4 r1 g2 r2 r3 hlen hk [] (fun h=>by
    simp only[aUP]at h
    rw[aDU h.2 g1]
    exact⟨h.1,by simp,by simp⟩)
   subst hc
   refine⟨w',by simp[execOp,h1.2 b e1,q1],ow',β,?_⟩
   exact q2
theorem aTN {x:Operand}{t n by_ l k s:Nat}{agg dp bx:Bool}{cells cells':List PV}{p:PV}[ht:TI P t n agg by_](hx:evq S x=some (.ptr l k))(ho:loq O l=some ⟨cells,dp,bx⟩)(hy:lkq S s=some ⟨p,true⟩)(hst:stB O bx p=true)(hl:p.labs=[])
 (hlen:Nat.beq (bD p).length n=true) (hn0:n≠0) (hk:Nat.ble (k+n) cells.length=true) (hc:cells.take k++bD p++cells.drop (k+n)=cells') :
 Local Γ ⟨none,.store t x (.tmp s),ty,pos,af,g⟩ ⟨S,O⟩ ⟨[(s,⟨.any,false⟩)],[(l,some ⟨cells',dp,bx⟩)]⟩ (ors x++[s]) [l] []:=by
 intro F hs hlo _
 refine aEV fun a w ⟨ow,β,hsim⟩=>?_
 obtain⟨B,h1,h2⟩:=cK hsim hx (fun k hk=>hs k (by simp[hk]))
 obtain⟨Bp,g1,g2,g3⟩:=hsim.slots s
 rw[(hs s (by simp)).trans (gH hy)]at g1 g3
 simp only[RelV]at h1
 obtain⟨r1,r2,r3⟩:=tC (O:=O) hsim g1 hst (by simp[xE,hl])
 obtain⟨Bo,o1,o2,hob⟩:=hsim.objs l _ (by rw[hlo l (by simp),<- dA];exact ho)
 have hlen:=aU0 hlen
 have hk:=aUZ hk
 rcases hob with⟨_,e,_⟩ | ⟨b,cs,u,e1,e2,e3,e4⟩
 · simp at e;rw[e]at hk;simp at hk;omega
 · obtain⟨w',ow',q1,q2⟩:=aFN (t:=t) (p:=p) (dp':=dp) hsim o1 o2 e1 e3 e4 r1 g2 r2 r3 hlen hk [s] (fun h=>by
    refine⟨h,(g3 rfl).1,fun c hc=>?_⟩
    obtain⟨f1,f2⟩:=(g3 rfl).2 c hc
    refine⟨f2,?_,s,by simp,f1⟩
    rcases(hsim.own c (by rw[f1];simp)).2 with h | ⟨m,h,_⟩
    · exact h
    · rw[f1]at h;cases h)
   subst hc
   have ev:a.eval (.tmp s)=a.tmps.getD s undef:=rfl
   refine⟨w',by simp only[execOp,h1.2 b e1,ev,Sem.run_bind,q1,Result.andThen_ok];rfl,ow',β,?_⟩
   exact q2
theorem aDp {cells vs:List PV}{n:Nat}(h:Nat.beq cells.length n=true):cells.take 0++vs++cells.drop (0+n)=vs:=by
 rw[aUR,aUW (by rw[aU0 h];exact aUI _)];simp
theorem aJF {α:Type}{l:List α}{enc:α->List PV}{sz m:Nat}{y:α}(hm:m<l.length)(h:∀ y,(enc y).length=sz):(l.flatMap enc).take (m*sz)++enc y++(l.flatMap enc).drop (m*sz+sz)=(l.set m y).flatMap enc:=by
 induction l generalizing m with
 | nil=>simp at hm
 | cons x r ih =>
  cases m with
  | zero=>simp[List.drop_append,h x,aUW]
  | succ m =>
   have:=ih (m:=m) (by simpa using hm)
   simp only[List.set_cons_succ,aVc]
   rw[<- this,List.take_append,List.drop_append,h x,aVt (by rw[h x,aV6];omega),aUW (by rw[h x,aV6];omega),
    show(m+1)*sz-sz=m*sz by rw[aV6];omega,show(m+1)*sz+sz-sz=m*sz+sz by rw[aV6];omega]
   simp[aUO]
end
end Go.Ev
